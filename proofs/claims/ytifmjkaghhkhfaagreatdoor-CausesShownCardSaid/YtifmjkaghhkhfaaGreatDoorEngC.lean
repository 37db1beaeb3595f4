/- The engine: abstract values, the symbolic heap, one rule for each operation. No program in sight. -/
import Derived.Test.YtifmjkaghhkhfaaGreatDoorEngB
import Derived.Laws.StructEq
import Derived.Below
set_option linter.unusedVariables false
set_option linter.unusedSectionVars false
namespace Go.Eng
open Go
variable [bA]
abbrev aS:=List UInt8
section rules
variable {P:Program} {all:Array Oper} {rest:List Oper} {n:Nat} {tm:List (Nat×AV)} {hp:Heap} {Q:St→Prop} {d:Nat} {ty:TypeId} {pos:String} {af:Array Edge}
theorem eR {x:Operand} {t e:TypeId} {sz len:Nat} {b:Bk} [aD P t (.slice e)] (hx:cZ tm x=some (.sl sz b 0 len)):QV P ⟨some d,.call {callee:=.builtin .len,args:=#[x],argTypes:=#[t]},ty,pos,af,none⟩ ⟨n,tm,hp⟩ (.int .i64 (len:Nat)):=En hx
theorem aP {α:Type} {Xs:List α} {el:α} {t e:TypeId} {i:TypeInfo} {x y:Operand} {k:IntKind} {j:Int} {sz:Nat} {b:Bk} [aD P t (.slice e)] [aX P e i] (hx:cZ tm x=some (.sl sz b 0 Xs.length)) (lx:Nat.beq i.size sz=true) (hy:cZ tm y=some (.int k j))
 (hv:idx Xs j=some el):QV P ⟨some d,.indexAddr t x y,ty,pos,af,none⟩ ⟨n,tm,hp⟩ (.pB sz b j.toNat 0):=by
 obtain ⟨h0,h1,_⟩:=gS hv
 have h:=AK (P:=P) (d:=d) (ty:=ty) (pos:=pos) (af:=af) (n:=n) (tm:=tm) (hp:=hp) (t:=t) (e:=e) hx lx hy ⟨h0,h1⟩
 rw [Nat.zero_add] at h
 exact h
theorem Aw {α:Type} {g:α→AV} {Xs:List α} {el:α} {j:Int} (hv:idx Xs j=some el):(Xs.map g)[j.toNat]? =some (g el):=by
 rw [List.getElem?_map,(gS hv).2.2];rfl
theorem eS {α:Type} {g:α→AV} {Xs:List α} {el:α} {j:Int} {t:TypeId} {D:TypeDesc} {x:Operand} {b:Bk} {sz o:Nat} {av:AV} [aD P t D] (hD:TypeDesc.iA D=false) (hx:cZ tm x=some (.pB sz b j.toNat o)) (f:mr hp b (.arr sz (Xs.map g))∨mr hp b (.yM sz (Xs.map g)))
 (hv:idx Xs j=some el) (ho:(g el).cells[o]? =some av):QV P ⟨some d,.load t x,ty,pos,af,none⟩ ⟨n,tm,hp⟩ av:=
 Es hD hx f (Aw hv) ho
theorem aR {α:Type} {g:α→AV} {Xs:List α} {el:α} {j:Int} {t:TypeId} {D:TypeDesc} {i:TypeInfo} {x:Operand} {b:Bk} {sz:Nat} {cs:List AV} [aD P t D] [aX P t i] (hD:TypeDesc.iA D=true) (hx:cZ tm x=some (.pB sz b j.toNat 0)) (f:mr hp b (.arr sz (Xs.map g))∨mr hp b (.yM sz (Xs.map g))) (lx:Nat.beq i.size sz=true)
 (hv:idx Xs j=some el) (hc:g el=.agg cs):QV P ⟨some d,.load t x,ty,pos,af,none⟩ ⟨n,tm,hp⟩ (.agg cs):=
 z7 hD hx f lx (by rw [Aw (g:=g) hv,hc])
def tA:Heap→Heap→Option Heap
 | [],r=>some r
 | x :: l,r=>match tA l r with
   | some m=>some (x :: m)
   | none=>none
theorem og:∀ {l r m:Heap},tA l r=some m→l++r=m
 | [],r,m,h=>by simpa [tA] using h
 | x :: l,r,m,h=>by
   simp only [tA] at h
   split at h
   ·rename_i m' hm
    obtain rfl:=Option.some.inj h
    rw [List.cons_append,og hm]
   ·cases h
def T0 (H:Heap) (V:AV):AV→Heap→Prop:=fun v h=>h=H∧v=V
def T1 {zF:Type} (H:zF→Heap) (V:zF→AV):AV→Heap→Prop:=fun v h=>∃ b,h=H b∧v=V b
def T2 {zF EG:Type} (H:zF→EG→Heap) (V:zF→EG→AV):AV→Heap→Prop:=fun v h=>∃ b c,h=H b c∧v=V b c
theorem ba {f:FuncId} {args:List Operand} {ts:Array TypeId} {l l':List AV} {h0 hr H H':Heap} {V:AV} [bq P f] (hl:zZ tm args=some l) (c:aG P f l' h0 (T0 H V)) (co:xZ hp l l') (hs:CA hp h0 hr) (ha:tA H hr=some H') (hn:Nat.blt d n=true)
 (kk:ah P all rest ⟨n,(d,V) :: tm,H'⟩ Q):ah P all (⟨some d,.call {callee:=.value (.func f),args:=args.toArray,argTypes:=ts},ty,pos,af,none⟩ :: rest) ⟨n,tm,hp⟩ Q:=
 AY hl c co hs hn (fun r h' ⟨e1,e2⟩=>by subst e1;subst e2;rw [og ha];exact kk)
theorem ik {zF:Type} {f:FuncId} {args:List Operand} {ts:Array TypeId} {l l':List AV} {h0 hr:Heap} {H H':zF→Heap} {V:zF→AV} [bq P f] (hl:zZ tm args=some l) (c:aG P f l' h0 (T1 H V)) (co:xZ hp l l') (hs:CA hp h0 hr) (ha:∀ b,tA (H b) hr=some (H' b)) (hn:Nat.blt d n=true)
 (kk:∀ b,ah P all rest ⟨n,(d,V b) :: tm,H' b⟩ Q):ah P all (⟨some d,.call {callee:=.value (.func f),args:=args.toArray,argTypes:=ts},ty,pos,af,none⟩ :: rest) ⟨n,tm,hp⟩ Q:=
 AY hl c co hs hn (fun r h' ⟨b,e1,e2⟩=>by subst e1;subst e2;rw [og (ha b)];exact kk b)
theorem G2 {zF EG:Type} {f:FuncId} {args:List Operand} {ts:Array TypeId} {l l':List AV} {h0 hr:Heap} {H H':zF→EG→Heap} {V:zF→EG→AV} [bq P f] (hl:zZ tm args=some l) (c:aG P f l' h0 (T2 H V)) (co:xZ hp l l') (hs:CA hp h0 hr) (ha:∀ b c,tA (H b c) hr=some (H' b c)) (hn:Nat.blt d n=true)
 (kk:∀ b c,ah P all rest ⟨n,(d,V b c) :: tm,H' b c⟩ Q):ah P all (⟨some d,.call {callee:=.value (.func f),args:=args.toArray,argTypes:=ts},ty,pos,af,none⟩ :: rest) ⟨n,tm,hp⟩ Q:=
 AY hl c co hs hn (fun r h' ⟨b,b2,e1,e2⟩=>by subst e1;subst e2;rw [og (ha b b2)];exact kk b b2)
theorem EH {f:FuncId} {x:Operand} {args:List Operand} {ts:Array TypeId} {sU l l' lc:List AV} {h0 hr H H':Heap} {V:AV} [bq P f] (hx:cZ tm x=some (.func (.func f) sU)) (hl:zZ tm args=some l) (Sn:oY (l++sU)=some lc) (c:aG P f l' h0 (T0 H V)) (co:xZ hp lc l') (hs:CA hp h0 hr) (ha:tA H hr=some H') (hn:Nat.blt d n=true)
 (kk:ah P all rest ⟨n,(d,V) :: tm,H'⟩ Q):ah P all (⟨some d,.call {callee:=.value x,args:=args.toArray,argTypes:=ts},ty,pos,af,none⟩ :: rest) ⟨n,tm,hp⟩ Q:=
 LH hx hl Sn c co hs hn (fun r h' ⟨e1,e2⟩=>by subst e1;subst e2;rw [og ha];exact kk)
end rules
theorem Co.PU {hp:Heap} {α:Type} {g:α→AV} {Xs:List α} {sz:Nat} {b:Bk} (f:mr hp b (.yM sz (Xs.map g))):Co hp (.sl sz b 0 Xs.length) (.list sz (Xs.map g)):=.yM sz b _ _ f (by simp)
theorem nJ.qR {hp:Heap} {α:Type} {g:α→AV} {Xs:List α} {sz:Nat} {b:Bk} (f:mr hp b (.arr sz (Xs.map g))):nJ hp (.sl sz b 0 Xs.length) (.list sz (Xs.map g)):=.arr sz b _ _ f (by simp)
section rules
variable {P:Program} {all:Array Oper} {rest:List Oper} {n:Nat} {tm:List (Nat×AV)} {hp:Heap} {Q:St→Prop} {d:Nat} {ty:TypeId} {pos:String} {af:Array Edge}
theorem bR {x:Operand} {s:TypeId} {j off:Nat} {sz:Nat} {b:Bk} {q o o':Nat} [mI P s j off] (hx:cZ tm x=some (.pB sz b q o)) (ho:o+off=o'):QV P ⟨some d,.fieldAddr s x j,ty,pos,af,none⟩ ⟨n,tm,hp⟩ (.pB sz b q o'):=by
 subst ho
 exact Di hx
theorem B6 {t:TypeId} {i:TypeInfo} {x y:Operand} {b:Bk} {sz q o:Nat} {xs:List AV} {av el uB:AV} {de:Heap} [aX P t i] (hx:cZ tm x=some (.pB sz b q o)) (hy:cZ tm y=some av) (h1:kQ av.cells=true) (lx:Nat.beq av.cells.length i.size=true)
 (u:nA hp b (.arr sz xs) b (.arr sz (xs.set q uB)) de) (hq:xs[q]? =some el) (Dh:uB.cells=nD el.cells o av.cells) (ho:Nat.ble (o+av.cells.length) el.cells.length=true) (kk:ah P all rest ⟨n,tm,de⟩ Q):ah P all (⟨none,.store t x y,ty,pos,af,none⟩ :: rest) ⟨n,tm,hp⟩ Q:=by
 refine ah.act rfl rfl (aC:=⟨n,tm,de⟩) (fun w S a r=>?_) kk
 obtain ⟨m,e1,e2⟩:=(bj (σ:=⟨n,tm,hp⟩) r hx).tP
 obtain ⟨g0,g1,⟨g2,_⟩ | ⟨m',vs,E,g2,g3,g4,g5⟩⟩:=pL r.hp (.inl u.ml)
 ·rw [g2] at e1;cases e1
 obtain rfl:m'=m:=by rw [g2] at e1;exact Option.some.inj e1
 have hv:=bj (σ:=⟨n,tm,hp⟩) r hy
 obtain ⟨hl,tJ⟩:=tQ hv (dp h1)
 have FQ:=dp h1
 have lx:=Nat.eq_of_beq_eq_true lx
 have ho:=Nat.le_of_ble_eq_true ho
 clear h1 hv hy
 generalize av.cells=nc at *
 generalize LJ:el.cells=cs at *
 have hle:o+nc.length≤cs.length:=ho
 have xX:=g0 el (List.mem_of_getElem? hq)
 have BV:cs.length=sz:=by rw [← LJ];exact xX.1
 have Sa:q < xs.length:=(List.getElem?_eq_some_iff.1 hq).1
 have hmul:(q+1) * sz≤xs.length * sz:=Nat.mul_le_mul_right _ (by omega)
 have Je:xs.length * sz≤b.cap * sz:=Nat.mul_le_mul_right _ g1
 rw [Nat.add_mul,Nat.one_mul] at hmul
 have AJ:=xW hl tJ FQ
 have Dk:=run_storeCells_at (P:=P) m' (q * sz+o) E (a.eval y).cells.toList 0 vs w g3 (by simp;omega) AJ
 simp only [Nat.add_zero] at Dk
 have Cs:(a.eval y).cells.size=i.size:=by rw [← hl];exact lx
 have Iy:=cQ g0
 have Nc:El sz uB:=by
  refine ⟨by rw [Dh];simp [nD];omega,fun c hc=>?_⟩
  rw [Dh] at hc
  simp only [nD,List.mem_append] at hc
  rcases hc with (hc | hc) | hc
  ·exact xX.2 c (by rw [LJ];exact List.mem_of_mem_take hc)
  ·exact FQ c hc
  ·exact xX.2 c (by rw [LJ];exact List.mem_of_mem_drop hc)
 have EI:flat (xs.set q uB)=(flat xs).take (q * sz+o)++nc++(flat xs).drop (q * sz+o+nc.length):=by
  rw [Ez g0 Nc hq]
  rw [Dh];simp only [nD]
  have F3:cs=((flat xs).drop (q * sz)).take sz:=by
   apply List.ext_getElem?
   intro j
   by_cases hj:j < sz
   ·have:=qo g0 hq j hj
    rw [List.getElem?_take,if_pos hj,List.getElem?_drop,this,LJ]
   ·rw [List.getElem?_eq_none (by omega),List.getElem?_eq_none (by simp;omega)]
  have e1:cs.take o=((flat xs).drop (q * sz)).take o:=by rw [F3,List.take_take,Nat.min_eq_left (by omega)]
  have e2:cs.drop (o+nc.length)=(((flat xs).drop (q * sz+o+nc.length)).take (sz - (o+nc.length))):=by
   rw [F3,List.drop_take,List.drop_drop]
   rw [show q * sz+(o+nc.length)=q * sz+o+nc.length from by omega]
  rw [e1,e2]
  have e3:(flat xs).take (q * sz+o)=(flat xs).take (q * sz)++((flat xs).drop (q * sz)).take o:=by rw [List.take_add]
  rw [e3]
  have e4:(flat xs).drop (q * sz+o+nc.length)=((flat xs).drop (q * sz+o+nc.length)).take (sz - (o+nc.length))++(flat xs).drop (q * sz+sz):=by
   conv=>lhs;rw [← List.take_append_drop (sz - (o+nc.length)) ((flat xs).drop (q * sz+o+nc.length))]
   rw [List.drop_drop,show q * sz+o+nc.length+(sz - (o+nc.length))=q * sz+sz from by omega]
  conv=>rhs;rw [e4]
  simp only [List.append_assoc]
 have Jf:=fun (w':World) (ha:lZ w' S (flat xs) vs) (hb:lZ w' S nc (a.eval y).cells)=>G0 (q * sz+o) (by rw [Iy,g4];exact Je) ha hl hb (by omega)
 have Jg:(vs.toList.take (q * sz+o)++(a.eval y).cells.toList++vs.toList.drop (q * sz+o+(a.eval y).cells.toList.length)).toArray.size=b.cap * sz:=by
  simp;omega
 generalize (vs.toList.take (q * sz+o)++(a.eval y).cells.toList++vs.toList.drop (q * sz+o+(a.eval y).cells.toList.length)).toArray=Ct at Dk Jf Jg
 have c:GB w (w.setRow m' Ct) b.cd:=⟨⟨rfl,rfl,rfl,by simp,fun k hk mJ=>setRow_other w m' k _ (fun e=>mJ (by rw [e1,e]))⟩,fun _=>Nat.le_refl _⟩
 have k1:∀ n,S n→S n∧(w.setRow m' Ct).heap[n]? =w.heap[n]?:=by
  intro k hk
  refine ⟨hk,setRow_other w m' k _ (fun e=>?_)⟩
  subst e
  exact (r.hp.sep _ u.ml.mem k (lY e1)).1 hk
 have hh:=xV r.hp u c id id ⟨?_,by simpa using g1,.inr ⟨m',Ct,E,e1,setRow_heap w m' vs _ E _ g3,Jg,by rw [EI];exact Jf _ (g5.mono k1) (tJ.mono k1)⟩⟩ (.inl rfl)
 ·refine ⟨w.setRow m' Ct,S,?_,r.heap hh.2.2 hh.1,hh.2.1⟩
  simp [execOp,e2,Instr.storeAt,Instr.sureAddr,storeVar,sizeOf,typeInfo,aX.h (P:=P) (t:=t),Cs,Dk]
 ·intro z hz
  rcases List.mem_or_eq_of_mem_set hz with h | rfl
  ·exact g0 z h
  ·exact Nc
theorem br {α:Type} {g:α→AV} {Xs:List α} {el uB:α} {j:Int} {t:TypeId} {i:TypeInfo} {x y:Operand} {b:Bk} {sz o:Nat} {av:AV} {de:Heap} [aX P t i] (hx:cZ tm x=some (.pB sz b j.toNat o)) (hy:cZ tm y=some av) (h1:kQ av.cells=true) (lx:Nat.beq av.cells.length i.size=true)
 (hv:idx Xs j=some el) (Dh:(g uB).cells=nD (g el).cells o av.cells) (u:nA hp b (.arr sz (Xs.map g)) b (.arr sz ((Xs.set j.toNat uB).map g)) de) (ho:Nat.ble (o+av.cells.length) (g el).cells.length=true) (kk:ah P all rest ⟨n,tm,de⟩ Q):
 ah P all (⟨none,.store t x y,ty,pos,af,none⟩ :: rest) ⟨n,tm,hp⟩ Q:=by
 refine B6 (xs:=Xs.map g) (el:=g el) (uB:=g uB) hx hy h1 lx ?_ (Aw hv) Dh ho kk
 rw [List.map_set] at u
 exact u
end rules
theorem lP {α:Type} {xs:List α} {i:Int} {el v:α} (h:idx xs i=some el):idx (xs.set i.toNat v) i=some v:=by
 obtain ⟨h0,h1,_⟩:=gS h
 unfold idx;rw [if_pos h0,List.getElem?_set_self (by omega)]
theorem cG.hs {w:World} {S:Nat→Prop} {h h':Heap} (r:cG w S h) (s:HS h h'):cG w S h':=by
 obtain ⟨q,hq⟩:=s.perm
 exact (r.perm hq).sub (List.sublist_append_left _ _)
theorem Has.hs {h h':Heap} (s:HS h h') {n:Nat} (hh:Has h' n):Has h n:=by
 obtain ⟨q,hq⟩:=s.perm
 obtain ⟨e,he,hb⟩:=hh
 exact ⟨e,hq.mem_iff.2 (List.mem_append_left _ he),hb⟩
theorem aG.dD {P:Program} {f:FuncId} {args:List AV} {h:Heap} {Q:AV→Heap→Prop} (c:aG P f args h (fun r h1=>∃ h',HS h1 h'∧Q r h')):aG P f args h Q:=
 fun w S vs r hl ha=>(c w S vs r hl ha).mono fun _ _ ⟨v,r,_,S',h1,⟨h',hs,hq⟩,h3,h4,h5⟩=>⟨v,r,h',S',h1,hq,h3,h4.hs hs,h5.less fun _ hn=>hn.hs hs⟩
theorem aj.eqs {n s:Nat} {tm:List (Nat×AV)} {hp:Heap} {T:St→Prop} {av bZ:AV} (hs:lk tm s=some av) (he:bZ=av) (k:aj ⟨n,(s,bZ) :: tm,hp⟩ T):aj ⟨n,tm,hp⟩ T:=by
 subst he
 exact aj.co hs (.refl _) k
theorem CB {hp de:Heap} {b:Bk} {o:Ob} (u:nA hp b o b o de):de=hp:=by
 generalize hb:b=b',ho:o=o' at u
 have:∀ {h h':Heap} {b b':Bk} {o o':Ob},nA h b o b' o' h'→b=b'→o=o'→h'=h:=by
  intro h h' b b' o o' u
  induction u with
  | here=>rintro rfl rfl;rfl
  | next _ ih=>intro e1 e2;rw [ih e1 e2]
  | skip _ ih=>intro e1 e2;rw [ih e1 e2]
 subst hb ho
 exact this u rfl rfl
theorem aj.G3 {n j:Nat} {tm:List (Nat×AV)} {hp de:Heap} {T:St→Prop} {b:Bk} {cs od:List AV} {av bZ:AV} (u:nA hp b (.cells cs) b (.cells od) de) (hj:cs[j]? =some av) (he:bZ=av) (hc:oY (cs.set j bZ)=some od) (k:aj ⟨n,tm,de⟩ T):aj ⟨n,tm,hp⟩ T:=by
 subst he
 have F3:cs.set j bZ=cs:=by
  apply List.ext_getElem?
  intro i
  by_cases hi:j=i
  ·subst hi
   have lA:=(List.getElem?_eq_some_iff.1 hj).1
   rw [List.getElem?_set_self lA,hj]
  ·rw [List.getElem?_set_ne hi]
 rw [F3] at hc
 obtain rfl:=jQ hc
 rw [CB u] at k
 exact k
theorem lB {p:Prop} [Decidable p] {x:Bool} (h:p):(decide p&&x)=x:=by simp [h]
theorem lC {p:Prop} [Decidable p] {x:Bool} (h:¬ p):(decide p&&x)=false:=by simp [h]
theorem Ad {p:Prop} [Decidable p] {x:Bool} (h:p):(decide p||x)=true:=by simp [h]
theorem Ae {p:Prop} [Decidable p] {x:Bool} (h:¬ p):(decide p||x)=x:=by simp [h]
theorem Nd {b x:Bool} (h:b=true):(b&&x)=x:=by simp [h]
theorem Nf {b x:Bool} (h:b=false):(b&&x)=false:=by simp [h]
theorem HM {b x:Bool} (h:b=true):(b||x)=true:=by simp [h]
theorem HN {b x:Bool} (h:b=false):(b||x)=x:=by simp [h]
def yV (P:Program) (k:Nat) (t:TypeId) (v u:Value) (b:Bool):Prop:=∀ d w,(Op.equalIn (d+k) t v u).run P w=.ok b w
theorem yV.up {P:Program} {k:Nat} {t:TypeId} {v u:Value} {b:Bool} (h:yV P k t v u b) (j:Nat):yV P (k+j) t v u b:=fun d w=>by
 rw [show d+(k+j)=(d+j)+k from by omega];exact h _ w
theorem yV.cast {P:Program} {k:Nat} {t:TypeId} {v u:Value} {b b':Bool} (h:yV P k t v u b) (e:b=b'):yV P k t v u b':=by rw [← e];exact h
inductive HO (P:Program) (k:Nat) (xs ys:Array Value):List Field→Bool→Prop
 | nil:HO P k xs ys [] true
 | cons {f:Field} {fs:List Field} {px py:Value} {b b':Bool} (hn:f.name≠"_") (hx:∀ w,(part f.type xs f.offset).run P w=.ok px w) (hy:∀ w,(part f.type ys f.offset).run P w=.ok py w) (he:yV P k f.type px py b) (kk:HO P k xs ys fs b'):HO P k xs ys (f :: fs) (b&&b')
theorem HO.run {P:Program} {k:Nat} {xs ys:Array Value} {fs:List Field} {b:Bool} (h:HO P k xs ys fs b) (d:Nat) (w:World):(Op.eqFields (d+k) xs ys fs).run P w=.ok b w:=by
 induction h with
 | nil=>simp [Op.eqFields]
 | @cons f fs px py b b' hn hx hy he kk ih=>
   simp only [Op.eqFields,hn,ne_eq,not_false_eq_true,if_true,Sem.run_bind,hx,hy,he d w,Result.andThen_ok]
   cases b
   ·simp
   ·simpa using ih
theorem yV.struct {P:Program} {k:Nat} {t:TypeId} {xs ys:Array Value} {fs:List Field} {b:Bool} (hu:P.underlying t=some (.struct fs.toArray)) (hp:P.stoodInHeld t=false) (h:HO P k xs ys fs b):yV P (k+1) t (.agg xs) (.agg ys) b:=by
 intro d w
 have hf:P.fieldsOf t=fs.toArray:=by simp [Program.fieldsOf,hu]
 rw [show d+(k+1)=(d+k)+1 from rfl,run_equalIn_struct w (d+k) t xs ys (by rw [hf];exact hu) hp,hf]
 exact h.run d w
theorem fG {P:Program} {t:TypeId} {D:TypeDesc} [aD P t D] (hD:TypeDesc.iA D=false) {cs:Array Value} {off:Nat} {v:Value} (h:cs[off]? =some v) (w:World):(part t cs off).run P w=.ok v w:=by
 unfold part isAgg
 simp only [Sem.run_bind,run_underlying (aD.h (P:=P) (t:=t)),Result.andThen_ok]
 cases D<;>simp_all [TypeDesc.iA]
theorem EJ {P:Program} {t:TypeId} {D:TypeDesc} {i:TypeInfo} [aD P t D] [aX P t i] (hD:TypeDesc.iA D=true) {cs:Array Value} {off n:Nat} (hn:i.size=n) (w:World):(part t cs off).run P w=.ok (.agg (cs.extract off (off+n))) w:=by
 subst hn
 unfold part isAgg
 simp only [Sem.run_bind,run_underlying (aD.h (P:=P) (t:=t)),Result.andThen_ok]
 cases D<;>simp_all [TypeDesc.iA,sizeOf,typeInfo,aX.h (P:=P) (t:=t)]
theorem lZ.get {w:World} {S:Nat→Prop} {cs:List AV} {vs:Array Value} (hl:cs.length=vs.size) (ha:lZ w S cs vs) {off:Nat} {c:AV} (hc:cs[off]? =some c):∃ v,vs[off]? =some v∧At w S c v:=by
 have lA:=(List.getElem?_eq_some_iff.1 hc).1
 have:off < vs.size:=by omega
 exact ⟨vs[off],by simp [this],ha off c _ hc (by simp [this])⟩
theorem lZ.sub {w:World} {S:Nat→Prop} {cs:List AV} {vs:Array Value} (hl:cs.length=vs.size) (ha:lZ w S cs vs) (off n:Nat) (h:off+n≤cs.length):At w S (.agg ((cs.drop off).take n)) (.agg (vs.extract off (off+n))):=by
 refine .agg _ _ (by simp;omega) (fun i c v hc hv=>?_)
 simp only [List.getElem?_take,List.getElem?_drop] at hc
 split at hc
 ·rename_i hi
  refine ha (off+i) c v hc ?_
  rw [Array.getElem?_extract] at hv
  split at hv
  ·exact hv
  ·cases hv
 ·cases hc
class tB (P:Program) (t:TypeId) (k:outParam Nat) {α:Type} [DecidableEq α] (g:α→AV):Prop where
 h:∀ (x y:α) (w:World) (S:Nat→Prop) (v u:Value),At w S (g x) v→At w S (g y) u→yV P k t v u (decide (x=y))
class N0 (P:Program) (t:TypeId):Prop where
 h:P.eqGuardType P.depth t=false
instance PV {P:Program} {t:TypeId} {k:IntKind} [aD P t (.int k)]:tB P t 1 (AV.int k):=⟨fun x y w S v u hv hu d w'=>by
 rw [hv.eB,hu.eB,Op.equalIn]
 simp [run_underlying (aD.h (P:=P) (t:=t))]
 rw [Bool.eq_iff_iff];simp⟩
instance Q7 {P:Program} {t:TypeId} [aD P t (.int .i64)]:tB P t 1 I:=PV (k:=.i64)
instance eqStr {P:Program} {t:TypeId} [aD P t .string]:tB P t 1 AV.str:=⟨fun x y w S v u hv hu d w'=>by
 rw [hv.gO,hu.gO,Op.equalIn]
 simp [run_underlying (aD.h (P:=P) (t:=t))]
 rw [Bool.eq_iff_iff]
 rw [beq_toListBytes,ByteArray.toList_eq,ByteArray.toList_eq]
 simp⟩
def bX (k:IntKind) (x y:Int):Int:=x.fdiv (2 ^ min y.toNat k.bits)
section rules
variable {P:Program} {all:Array Oper} {rest:List Oper} {n:Nat} {tm:List (Nat×AV)} {hp:Heap} {Q:St→Prop} {d:Nat} {ty:TypeId} {pos:String} {af:Array Edge}
theorem PW {α:Type} [DecidableEq α] {g:α→AV} {X Y:α} {k:Nat} {xt yt:TypeId} {x y:Operand} {cs ds:List AV} [tB P xt k g] [N0 P xt] (hk:Nat.ble k 10000=true) (hx:cZ tm x=some (.agg cs)) (hy:cZ tm y=some (.agg ds)) (eX:g X=.agg cs) (eY:g Y=.agg ds):
 QV P ⟨some d,.binOp .neq xt x y yt,ty,pos,af,none⟩ ⟨n,tm,hp⟩ (.bool (decide (X≠Y))):=by
 intro w S a r
 have hv:=bj (σ:=⟨n,tm,hp⟩) r hx
 have hu:=bj (σ:=⟨n,tm,hp⟩) r hy
 have he:=tB.h (P:=P) (t:=xt) (g:=g) X Y w S _ _ (by rw [eX];exact hv) (by rw [eY];exact hu)
 obtain ⟨vs,e1,_,_⟩:=hv.nn
 obtain ⟨us,e2,_,_⟩:=hu.nn
 refine ⟨.bool (decide (X≠Y)),fun w1 _=>?_,.bool _⟩
 have h1:=run_eqGuard_agg (P:=P) w1 .neq xt x y vs us N0.h
 rw [e1,e2] at he
 have h2:(Op.equal xt (.agg vs) (.agg us)).run P w1=.ok (decide (X=Y)) w1:=by
  have:=he (10000 - k) w1
  rw [Nat.sub_add_cancel (Nat.le_of_ble_eq_true hk)] at this
  exact this
 have h3:(binOp .neq xt (.agg vs) (.agg us)).run P w1=.ok (.bool (decide (X≠Y))) w1:=by
  rw [show binOp .neq xt (.agg vs) (.agg us)=(do pure (.bool (!(← Op.equal xt (.agg vs) (.agg us))))) from rfl]
  simp [h2]
 simp [execOp,e1,e2,h1,h3]
theorem Du {xt yt:TypeId} {x y:Operand} {s t:List UInt8} (hx:cZ tm x=some (.str s)) (hy:cZ tm y=some (.str t)):QV P ⟨some d,.binOp .leq xt x y yt,ty,pos,af,none⟩ ⟨n,tm,hp⟩ (.bool (Op.bytesLess s t||s==t)):=by
 refine fun w S a r=>⟨.bool (Op.bytesLess s t||s==t),fun w1 _=>?_,.bool _⟩
 simp [execOp,(bj (σ:=⟨n,tm,hp⟩) r hx).gO,(bj (σ:=⟨n,tm,hp⟩) r hy).gO,eqGuard_at_string,binOp,Op.stringOp,ByteArray.toList_eq]
theorem zG {k k':IntKind} {xt yt:TypeId} {x y:Operand} {i j:Int} (hx:cZ tm x=some (.int k i)) (hy:cZ tm y=some (.int k' j)) (h0:¬ j < 0):QV P ⟨some d,.binOp .shr xt x y yt,ty,pos,af,none⟩ ⟨n,tm,hp⟩ (.int k (bX k i j)):=by
 refine fun w S a r=>⟨.int k (bX k i j),fun w1 _=>?_,.int _ _⟩
 simp [execOp,(bj (σ:=⟨n,tm,hp⟩) r hx).eB,(bj (σ:=⟨n,tm,hp⟩) r hy).eB,eqGuard_at_int,binOp,Op.shift,h0,bX]
end rules
end Go.Eng
namespace Go.Eng
open Go Go.RowKit
variable [bA]
theorem CC (l:List Int):flat (l.map I)=l.map I:=by
 induction l with
 | nil=>rfl
 | cons x r ih=>rw [List.map_cons,iJ,ih];rfl
theorem Jh {P:Program} {f:FuncId} {a:Option Addr} {len cap:Nat} {zs:List Int} {w:World}
 (AZ:(a=none∧len=0∧cap=0∧zs=[])∨∃ x,a=some x∧len≤cap∧cap≤maxLen∧zs.length=cap∧(∀ i,i < zs.length→w.cell? (x.add i)=some (.int .i64 (zs.getD i 0)))∧∀ n∈zs,(Lit.int .i64 n).wf=true)
 (hG:∀ g o,bA.Pt g=some o→g < w.heap.size∧o (w.heap[g]?))
 (c:∀ l:List Int,Pu P f [.list 1 (l.map I)] (.bool true)):
 Calls P f #[.slice a len cap] w fun e w'=>e=.returned (.bool true)∧Below w.heap.size w w':=by
 let S:Nat→Prop:=fun n=>n < w.heap.size
 have tJ:∃ l:List Int,At w S (.list 1 (l.map I)) (.slice a len cap):=by
  rcases AZ with ⟨rfl,rfl,rfl,rfl⟩ | ⟨x,rfl,h1,h2,h3,h4,h5⟩
  ·exact ⟨[],.list 1 [] none 0 [] (by simp) rfl (by simp [flat]) (by simp) (by simp)⟩
  ·refine ⟨zs.take len,?_⟩
   have hl:((zs.take len).map I).length=len:=by simp;omega
   have key:=At.list (w:=w) (S:=S) 1 ((zs.take len).map I) (some x) cap ((zs.take len).map (fun n=>Value.int .i64 n)) ?_ ?_ ?_ ?_ ?_
   ·rw [hl] at key;exact key
   ·intro y hy
    obtain ⟨n,_,rfl⟩:=List.mem_map.1 hy
    exact ⟨rfl,fun c hc=>by simp [AV.cells] at hc;subst hc;rfl⟩
   ·rw [CC];simp
   ·intro i c v hc hv
    rw [CC,List.getElem?_map] at hc
    rw [List.getElem?_map] at hv
    cases hn:(zs.take len)[i]? with
    | none=>rw [hn] at hc;cases hc
    | some n=>
      rw [hn] at hc hv
      obtain rfl:=Option.some.inj hc
      obtain rfl:=Option.some.inj hv
      exact .int _ _
   ·intro i v hv
    rw [List.getElem?_map] at hv
    cases hn:(zs.take len)[i]? with
    | none=>rw [hn] at hv;cases hv
    | some n=>
      rw [hn] at hv
      obtain rfl:=Option.some.inj hv
      have hi:i < zs.length:=by
       have:=(List.getElem?_eq_some_iff.1 hn).1
       simp at this;omega
      have hz:zs.getD i 0=n:=by
       rw [List.getElem?_take] at hn
       split at hn
       ·rw [List.getD_eq_getElem?_getD,hn];rfl
       ·cases hn
      have vA:=h4 i hi
      rw [hz] at vA
      obtain ⟨bk,of,sp⟩:=x
      have KW:sp=none:=by
       cases sp with
       | none=>rfl
       | some q=>
         have PX:=h4 0 (by omega)
         unfold World.cell? Addr.add at PX
         simp only [if_true] at PX
         split at PX
         ·simp at PX
         ·cases PX
      subst KW
      rw [mu] at vA
      have hblk:bk < w.heap.size:=by
       rcases Nat.lt_or_ge bk w.heap.size with h | h
       ·exact h
       ·unfold World.cell? at vA
        simp only [Array.getElem?_eq_none h] at vA
        cases vA
      exact ⟨_,rfl,rfl,hblk,vA⟩
   ·rw [hl];exact h1
 obtain ⟨l,tJ⟩:=tJ
 refine (c l w S #[.slice a len cap] (tU (fun n hn=>hn) hG) rfl ?_).mono ?_
 ·intro i c' v hc hv
  match i with
  | 0=>simp at hc hv;subst hc;subst hv;exact tJ
  | i+1=>simp at hc
 ·rintro e w' ⟨v,r,h',S',rfl,rfl,h1,h2,h3⟩
  refine ⟨by rw [h1.kP],h3.os,h3.tape,h3.output,h3.size,fun k hk=>(h3.mH k hk).2⟩
end Go.Eng
namespace Go.Eng
open Go
variable [bA]
def pJ (e:Env) (d:Option Nat) (o:Option AV):Env:=match d with
 | some d=>fun s=>if d=s then o else e s
 | none=>e
theorem jx {e:Env} {d:Option Nat} {o:Option AV} {s:Nat} (h:d≠some s):pJ e d o s=e s:=by
 cases d with
 | none=>rfl
 | some d=>simp only [pJ];rw [if_neg (fun e=>h (by rw [e]))]
theorem l0 {e:Env} {o:Option AV} {s:Nat}:pJ e (some s) o s=o:=by simp [pJ]
section order
variable {P:Program} {all:Array Oper} {n m:Nat} {hp:Heap}
def vf (all:Array Oper) (mK:Nat→Option AV) (e:Env) (listed:Array Bool):Nat→Env
 | 0=>e
 | k+1=>if listed.getD k false then pJ (vf all mK e listed k) ((all[k]?).bind (·.dst)) (mK k) else vf all mK e listed k
variable {mK:Nat→Option AV} {en:Nat→Env} {e:Env}
theorem HP (hB:uY all m) {listed:Array Bool} (L:K4 all m listed) (h0:en 0=e) (hs:∀ i o,i < m→all[i]? =some o→en (i+1)=pJ (en i) o.dst (mK i)) (hm:m≤all.size)
 {i:Nat} {o:Oper} (ho:all[i]? =some o) (Ec:i < m) (wM:listed.getD i false=false) (hr:∀ j,zB all i j→listed.getD j false=true) {s:Nat} (I3:s∈looks all o):∀ k,k≤all.size→vf all mK e listed k s=en (min k i) s:=by
 intro k
 induction k with
 | zero=>intro _;simp [vf,h0]
 | succ k ih=>
   intro hk
   have vd:=ih (by omega)
   have ve:all[k]? =some all[k]:=by simp [show k < all.size by omega]
   simp only [vf,ve,Option.bind_some]
   rcases Nat.lt_trichotomy k i with lA | heq | I4
   ·rw [Nat.min_eq_left (by omega)] at vd
    rw [Nat.min_eq_left (by omega),hs k _ (by omega) ve]
    by_cases hd:(all[k]).dst=some s
    ·have hl:listed.getD k false=true:=hr k ((kA hB ho ve lA).1 Ec (xp hd I3))
     rw [if_pos hl,hd,l0,l0]
    ·rw [jx hd]
     split
     ·rw [jx hd];exact vd
     ·exact vd
   ·subst heq
    rw [wM]
    simp only [Bool.false_eq_true,if_false]
    rw [Nat.min_eq_right (by omega)]
    rw [Nat.min_eq_right (by omega)] at vd
    exact vd
   ·rw [Nat.min_eq_right (by omega)] at vd
    rw [Nat.min_eq_right (by omega)]
    by_cases hl:listed.getD k false=true
    ·by_cases hd:(all[k]).dst=some s
     ·exfalso
      have hw:=(kA hB ve ho I4).1 (L.head k hl) (zE hd I3)
      have:=lO.LC L.closed hw hl
      rw [wM] at this;cases this
     ·rw [if_pos hl,jx hd];exact vd
    ·rw [if_neg hl];exact vd
theorem Ji (hB:uY all m) {listed:Array Bool} (L:K4 all m listed) {i:Nat} {o:Oper} (ho:all[i]? =some o) (Ec:i < m) (wM:listed.getD i false=false) (s:Nat):
 ∀ k,k≤all.size→vf all mK e (listed.setIfInBounds i true) k s=(if i < k then pJ (vf all mK e listed k) o.dst (mK i) s else vf all mK e listed k s):=by
 have hi:i < listed.size:=by rw [L.size];exact (Array.getElem?_eq_some_iff.1 ho).1
 intro k
 induction k with
 | zero=>intro _;simp [vf]
 | succ k ih=>
   intro hk
   have vd:=ih (by omega)
   have ve:all[k]? =some all[k]:=by simp [show k < all.size by omega]
   simp only [vf,ve,Option.bind_some,jw hi]
   rcases Nat.lt_trichotomy k i with lA | heq | I4
   ·rw [if_neg (by omega)] at vd
    have e1:(if k=i then true else listed.getD k false)=listed.getD k false:=if_neg (by omega)
    rw [e1,if_neg (show ¬ i < k+1 by omega)]
    by_cases hl:listed.getD k false=true
    ·rw [if_pos hl,if_pos hl]
     by_cases hd:(all[k]).dst=some s
     ·rw [hd,l0,l0]
     ·rw [jx hd,jx hd];exact vd
    ·rw [if_neg hl,if_neg hl];exact vd
   ·subst heq
    rw [if_neg (by omega)] at vd
    have e1:(if k=k then true else listed.getD k false)=true:=if_pos rfl
    rw [e1,if_pos (show k < k+1 by omega),if_pos rfl,wM,if_neg Bool.false_ne_true]
    obtain rfl:all[k]=o:=by rw [ve] at ho;exact Option.some.inj ho
    by_cases hd:(all[k]).dst=some s
    ·rw [hd,l0,l0]
    ·rw [jx hd,jx hd];exact vd
   ·rw [if_pos I4] at vd
    have e1:(if k=i then true else listed.getD k false)=listed.getD k false:=if_neg (by omega)
    rw [e1,if_pos (show i < k+1 by omega)]
    by_cases hl:listed.getD k false=true
    ·rw [if_pos hl,if_pos hl]
     by_cases hd:(all[k]).dst=some s
     ·by_cases HI:o.dst=some s
      ·exfalso
       have hw:=(kA hB ve ho I4).1 (L.head k hl) (Cz HI hd)
       have:=lO.LC L.closed hw hl
       rw [wM] at this;cases this
      ·rw [hd,l0,jx HI,l0]
     ·by_cases HI:o.dst=some s
      ·rw [jx hd,vd,HI,l0,l0]
      ·rw [jx hd,vd,jx HI,jx HI,jx hd]
    ·rw [if_neg hl,if_neg hl];exact vd
structure Tok where
 prod:Option Nat
 cons:Option Nat
 Sp:List Nat
 YD:Bk→Bk×Ob
 Q8:Option Nat
 Ux:List Nat
def Tok.ix (t:Tok):Option Nat:=match t.Q8 with | some a=>some a | none=>t.prod
def Tok.at (t:Tok) (β:Nat→Bk):Bk×Ob:=t.YD (match t.ix with | some i=>β i | none=>⟨none,0⟩)
def xq (listed:Array Bool) (t:Tok):Bool:=(match t.prod with | none=>true | some i=>listed.getD i false)&&(match t.cons with | none=>true | some i=>!listed.getD i false)
def Af (i:Nat) (t:Tok):Bool:=match t.cons with | some c=>Nat.beq c i | none=>false
def LK (i:Nat) (t:Tok):Bool:=match t.prod with | some c=>Nat.beq c i | none=>false
def G4 (i:Nat) (t:Tok):Bool:=t.Sp.contains i
def x6 (tk:List Tok) (i:Nat) (β:Nat→Bk):Heap:=(tk.filter (G4 i)).map (·.at β)
def K1 (i:Nat) (t:Tok):Bool:=t.Ux.contains i
def wN (tk:List Tok) (i:Nat) (β:Nat→Bk):List Heap:=match tk.filter (K1 i) with
 | []=>[x6 tk i β]
 | l=>l.map fun t=>t.at β :: x6 tk i β
def rn (tk:List Tok) (listed:Array Bool) (β:Nat→Bk):Heap:=(tk.filter (xq listed)).map (·.at β)
def vg (tk:List Tok) (i:Nat) (β:Nat→Bk):Heap:=(tk.filter (Af i)).map (·.at β)
def ma (tk:List Tok) (i:Nat) (β:Nat→Bk):Heap:=(tk.filter (LK i)).map (·.at β)
def pN (β:Nat→Bk) (i:Nat) (b:Bk):Nat→Bk:=fun k=>bif Nat.beq k i then b else β k
theorem LL (β:Nat→Bk) (i:Nat) (b:Bk):pN β i b i=b:=by simp [pN]
theorem G5 {β:Nat→Bk} {i k:Nat} {b:Bk} (h:k≠i):pN β i b k=β k:=by simp [pN,pZ h]
def Jj (tk:List Tok) (β:Nat→Bk):Heap:=(tk.filter (fun t=>t.cons.isNone)).map (·.at β)
def PY (A:List Nat) (m:Nat) (tk:List Tok):Bool:=tk.all fun t=>
 (match t.prod with | some p=>Nat.blt p m | none=>true)&&(match t.cons with | some c=>Nat.blt c m&&(match t.prod with | some p=>(A.getD c 0).testBit p | none=>true) | none=>true)&&
 (match t.Q8 with | some a=>(match t.prod with | some p=>(A.getD p 0).testBit a | none=>false) | none=>true)&&
 t.Sp.all fun i=>Nat.blt i m&&(match t.prod with | some p=>(A.getD i 0).testBit p | none=>true)&&(match t.cons with | some c=>(A.getD c 0).testBit i | none=>true)
def Ng (A:List Nat) (m:Nat) (tk:List Tok):Bool:=(List.range m).all fun i=>match tk.filter (K1 i) with
 | []=>true
 | [t0,t1]=>(match t0.cons,t1.prod with | some j,some j'=>Nat.beq j j'&&!Nat.beq j i | _,_=>false)&&(match t0.prod with | some p=>(A.getD i 0).testBit p | none=>true)&&(match t1.cons with | some c=>(A.getD c 0).testBit i | none=>true)&&!G4 i t0&&!G4 i t1
 | _=>false
def F6 (all:Array Oper) (m:Nat) (tk:List Tok):Prop:=∀ i,i < m→tk.filter (K1 i)=[]∨∃ t0 t1 j,tk.filter (K1 i)=[t0,t1]∧t0.cons=some j∧t1.prod=some j∧j≠i∧(∀ p,t0.prod=some p→zB all i p)∧(∀ c,t1.cons=some c→zB all c i)∧G4 i t0=false∧G4 i t1=false
theorem F7 {A:List Nat} {tk:List Tok} (hA:HG all=A) (h:Ng A m tk=true):F6 all m tk:=by
 intro i hi
 have:=List.all_eq_true.1 h i (List.mem_range.2 hi)
 split at this
 ·rename_i e;exact .inl e
 ·rename_i t0 t1 e
  simp only [Bool.and_eq_true,Bool.not_eq_true'] at this
  obtain ⟨⟨⟨⟨h1,h2⟩,h3⟩,h4⟩,h5⟩:=this
  split at h1
  ·rename_i j j' hj PZ
   simp only [Bool.and_eq_true,Bool.not_eq_true'] at h1
   obtain ⟨h6,h7⟩:=h1
   obtain rfl:=Nat.eq_of_beq_eq_true h6
   refine .inr ⟨t0,t1,j,e,hj,PZ,fun e=>by rw [e] at h7;simp at h7,fun p hp=>?_,fun c hc=>?_,h4,h5⟩
   ·rw [hp] at h2;subst hA;exact oE h2
   ·rw [hc] at h3;subst hA;exact oE h3
  ·cases h1
 ·cases this
def A0 (all:Array Oper) (m:Nat) (tk:List Tok):Prop:=∀ t∈tk,(∀ p,t.prod=some p→p < m)∧(∀ c,t.cons=some c→c < m∧∀ p,t.prod=some p→zB all c p)∧(∀ i,G4 i t=true→i < m∧(∀ p,t.prod=some p→zB all i p)∧∀ c,t.cons=some c→zB all c i)∧∀ a,t.Q8=some a→∃ p,t.prod=some p∧zB all p a
theorem HQ {A:List Nat} {tk:List Tok} (hA:HG all=A) (h:PY A m tk=true):A0 all m tk:=by
 intro t ht
 have:=List.all_eq_true.1 h t ht
 rw [Bool.and_eq_true,Bool.and_eq_true,Bool.and_eq_true] at this
 obtain ⟨⟨⟨h1,h2⟩,h9⟩,h4⟩:=this
 subst hA
 refine ⟨fun p hp=>by rw [hp] at h1;simpa using h1,fun c hc=>?_,fun i hi=>?_,fun a ha=>?_⟩
 ·rw [hc] at h2
  simp only [Bool.and_eq_true] at h2
  refine ⟨by simpa using h2.1,fun p hp=>?_⟩
  have h3:=h2.2
  rw [hp] at h3
  exact oE h3
 ·have h5:=List.all_eq_true.1 h4 i (by simpa [G4] using hi)
  rw [Bool.and_eq_true,Bool.and_eq_true] at h5
  obtain ⟨⟨h6,h7⟩,h8⟩:=h5
  exact ⟨by simpa using h6,fun p hp=>by rw [hp] at h7;exact oE h7,fun c hc=>by rw [hc] at h8;exact oE h8⟩
 ·rw [ha] at h9
  cases hp:t.prod with
  | none=>rw [hp] at h9;cases h9
  | some p=>rw [hp] at h9;exact ⟨p,rfl,oE h9⟩
theorem uC {α:Type} (p q:α→Bool) (l:List α):(l.filter p).Perm (l.filter (fun x=>p x&&q x)++l.filter (fun x=>p x&&!q x)):=by
 induction l with
 | nil=>exact List.Perm.refl _
 | cons x l ih=>
   simp only [List.filter_cons]
   cases hp:p x<;>cases hq:q x
   ·simpa using ih
   ·simpa using ih
   ·simp only [Bool.true_and,Bool.not_false,Bool.false_eq_true,if_false,if_true]
    exact (List.Perm.cons x ih).trans List.perm_middle.symm
   ·simp only [Bool.true_and,Bool.not_true,Bool.false_eq_true,if_false,if_true,List.cons_append]
    exact List.Perm.cons x ih
theorem N1 {tk:List Tok} (hT:A0 all m tk) {listed:Array Bool} {i:Nat} (wM:listed.getD i false=false) (Dv:∀ j,zB all i j→listed.getD j false=true) (β:Nat→Bk):
 (rn tk listed β).Perm (vg tk i β++(tk.filter (fun t=>xq listed t&&!Af i t)).map (·.at β)):=by
 unfold rn vg
 rw [← List.map_append]
 refine List.Perm.map _ ?_
 have e:tk.filter (Af i)=tk.filter (fun t=>xq listed t&&Af i t):=by
  apply List.filter_congr
  intro t ht
  cases hc:Af i t with
  | false=>simp
  | true=>
    unfold Af at hc
    split at hc
    ·rename_i c O5
     obtain rfl:c=i:=Nat.eq_of_beq_eq_true hc
     have:=(hT t ht).2.1 c O5
     have K3:xq listed t=true:=by
      unfold xq
      rw [O5]
      simp only [wM,Bool.not_false,Bool.and_true]
      split
      ·rfl
      ·rename_i p hp;exact Dv p (this.2 p hp)
     rw [K3];rfl
    ·cases hc
 rw [e]
 exact uC _ _ _
theorem LM {tk:List Tok} (hT:A0 all m tk) {listed:Array Bool} (BV:lO all listed) {i:Nat} (hi:i < listed.size) (wM:listed.getD i false=false) (Dw:∀ c,zB all c i→c≠i) (β:Nat→Bk) (b:Bk):
 (rn tk (listed.setIfInBounds i true) (pN β i b)).Perm (ma tk i (pN β i b)++(tk.filter (fun t=>xq listed t&&!Af i t)).map (·.at β)):=by
 unfold rn ma
 have e2:(tk.filter (fun t=>xq listed t&&!Af i t)).map (·.at β)=(tk.filter (fun t=>xq listed t&&!Af i t)).map (·.at (pN β i b)):=by
  apply List.map_congr_left
  intro t ht
  have h0:=(List.mem_filter.1 ht).1
  have h1:=(List.mem_filter.1 ht).2
  rw [Bool.and_eq_true] at h1
  have QW:∀ p,t.prod=some p→listed.getD p false=true:=by
   intro p hp
   have:=h1.1
   unfold xq at this
   rw [hp,Bool.and_eq_true] at this
   exact this.1
  unfold Tok.at
  cases hx:t.ix with
  | none=>rfl
  | some p=>
    have HC:listed.getD p false=true:=by
     unfold Tok.ix at hx
     cases ha:t.Q8 with
     | none=>rw [ha] at hx;exact QW p hx
     | some a=>
       rw [ha] at hx
       obtain rfl:=Option.some.inj hx
       obtain ⟨q,q1,q2⟩:=(hT t h0).2.2.2 a ha
       exact BV.LC q2 (QW q q1)
    have:p≠i:=fun e=>by subst e;rw [wM] at HC;cases HC
    simp only [G5 this]
 rw [e2,← List.map_append]
 refine List.Perm.map _ ?_
 refine (uC _ (LK i) _).trans ?_
 have f1:tk.filter (fun t=>xq (listed.setIfInBounds i true) t&&LK i t)=tk.filter (LK i):=by
  apply List.filter_congr
  intro t ht
  cases hp:LK i t with
  | false=>simp
  | true=>
    unfold LK at hp
    split at hp
    ·rename_i p Uy
     obtain rfl:p=i:=Nat.eq_of_beq_eq_true hp
     have K3:xq (listed.setIfInBounds p true) t=true:=by
      unfold xq
      rw [Uy]
      simp only [jw hi,if_true,Bool.true_and]
      cases hc:t.cons with
      | none=>rfl
      | some c=>
        have Dv:=((hT t ht).2.1 c hc).2 p Uy
        have mJ:=Dw c Dv
        simp only [mJ,if_false]
        cases hl:listed.getD c false with
        | false=>rfl
        | true=>have:=BV.LC Dv hl;rw [wM] at this;cases this
     rw [K3];rfl
    ·cases hp
 have f2:tk.filter (fun t=>xq (listed.setIfInBounds i true) t&&!LK i t)=tk.filter (fun t=>xq listed t&&!Af i t):=by
  apply List.filter_congr
  intro t ht
  unfold xq LK Af
  cases hp:t.prod with
  | none=>
    cases hc:t.cons with
    | none=>simp
    | some c=>
      simp only [jw hi]
      by_cases K6:c=i
      ·subst K6;simp
      ·have:Nat.beq c i=false:=pZ K6
       simp [K6,this]
  | some p=>
    by_cases Q9:p=i
    ·subst Q9
     simp [wM]
    ·have hb:Nat.beq p i=false:=pZ Q9
     cases hc:t.cons with
     | none=>simp [jw hi,Q9,hb]
     | some c=>
       simp only [jw hi,Q9,hb,if_false]
       by_cases K6:c=i
       ·subst K6;simp
       ·have:Nat.beq c i=false:=pZ K6
        simp [K6,this]
 rw [f1,f2]
theorem Jk {tk:List Tok} (hT:A0 all m tk) {listed:Array Bool} (BV:lO all listed) {i:Nat} (wM:listed.getD i false=false) (Dv:∀ j,zB all i j→listed.getD j false=true) (Dw:∀ c,zB all c i→c≠i) (β:Nat→Bk):
 ((tk.filter (fun t=>xq listed t&&!Af i t)).map (·.at β)).Perm (x6 tk i β++(tk.filter (fun t=>(xq listed t&&!Af i t)&&!G4 i t)).map (·.at β)):=by
 unfold x6
 rw [← List.map_append]
 refine List.Perm.map _ ?_
 have e:tk.filter (G4 i)=tk.filter (fun t=>(xq listed t&&!Af i t)&&G4 i t):=by
  apply List.filter_congr
  intro t ht
  cases hr:G4 i t with
  | false=>simp
  | true=>
    obtain ⟨_,q2,q3⟩:=(hT t ht).2.2.1 i hr
    have h1:xq listed t=true:=by
     unfold xq
     have e1:(match t.prod with | none=>true | some i=>listed.getD i false)=true:=by
      cases hp:t.prod with
      | none=>rfl
      | some p=>exact Dv p (q2 p hp)
     have e2:(match t.cons with | none=>true | some i=>!listed.getD i false)=true:=by
      cases hc:t.cons with
      | none=>rfl
      | some c=>
        have:=q3 c hc
        show (!listed.getD c false)=true
        cases hl:listed.getD c false with
        | false=>rfl
        | true=>have:=BV.LC this hl;rw [wM] at this;cases this
     rw [e1,e2];rfl
    have h2:Af i t=false:=by
     unfold Af
     cases hc:t.cons with
     | none=>rfl
     | some c=>exact pZ (Dw c (q3 c hc))
    rw [h1,h2];rfl
 rw [e]
 exact uC _ _ _
theorem HR {tk:List Tok} (hT:A0 all m tk) (hS:F6 all m tk) {listed:Array Bool} (BV:lO all listed) {i:Nat} (Ec:i < m) (wM:listed.getD i false=false) (Dv:∀ j,zB all i j→listed.getD j false=true) (Dw:∀ c,zB all c i→c≠i) (β:Nat→Bk):
 ∃ X∈wN tk i β,∃ rest,((tk.filter (fun t=>xq listed t&&!Af i t)).map (·.at β)).Perm (X++rest):=by
 have h0:=Jk hT BV wM Dv Dw β
 rcases hS i Ec with e | ⟨t0,t1,j,e,a1,a2,a3,a4,a5,a6,a7⟩
 ·exact ⟨x6 tk i β,by unfold wN;rw [e];simp,_,h0⟩
 ·have m0:t0∈tk:=(List.mem_filter.1 (by rw [e];simp:t0∈tk.filter (K1 i))).1
  have m1:t1∈tk:=(List.mem_filter.1 (by rw [e];simp:t1∈tk.filter (K1 i))).1
  have go:∀ t,t∈tk→xq listed t=true→Af i t=false→G4 i t=false→∃ rest,((tk.filter (fun t=>xq listed t&&!Af i t)).map (·.at β)).Perm ((t.at β :: x6 tk i β)++rest):=by
   intro t ht h1 h2 h3
   have hm:t∈tk.filter (fun t=>(xq listed t&&!Af i t)&&!G4 i t):=List.mem_filter.2 ⟨ht,by simp [h1,h2,h3]⟩
   obtain ⟨a,b,G6⟩:=List.append_of_mem hm
   rw [G6] at h0
   refine ⟨(a++b).map (·.at β),h0.trans ?_⟩
   rw [List.map_append,List.map_cons,List.map_append]
   refine (List.Perm.append_left _ List.perm_middle).trans ?_
   exact List.perm_middle
  have hX:∀ t,t∈[t0,t1]→(t.at β :: x6 tk i β)∈wN tk i β:=by
   intro t ht
   unfold wN
   rw [e]
   exact List.mem_map.2 ⟨t,ht,rfl⟩
  cases hj:listed.getD j false with
  | false=>
    have h1:xq listed t0=true:=by
     unfold xq
     rw [a1]
     simp only [hj,Bool.not_false,Bool.and_true]
     split
     ·rfl
     ·rename_i p hp;exact Dv p (a4 p hp)
    have h2:Af i t0=false:=by unfold Af;rw [a1];exact pZ a3
    obtain ⟨rest,hr⟩:=go t0 m0 h1 h2 a6
    exact ⟨_,hX t0 (by simp),rest,hr⟩
  | true=>
    have h1:xq listed t1=true:=by
     unfold xq
     rw [a2]
     simp only [hj,Bool.true_and]
     split
     ·rfl
     ·rename_i c hc
      cases hl:listed.getD c false with
      | false=>rfl
      | true=>have:=BV.LC (a5 c hc) hl;rw [wM] at this;cases this
    have h2:Af i t1=false:=by
     unfold Af
     split
     ·rename_i c hc;exact pZ (Dw c (a5 c hc))
     ·rfl
    obtain ⟨rest,hr⟩:=go t1 m1 h1 h2 a7
    exact ⟨_,hX t1 (by simp),rest,hr⟩
def TV (P:Program) (all:Array Oper) (n:Nat) (B:Heap) (o:Oper) (e:Env) (Ti:Heap) (V:Bk→AV) (Pi:Bk→Heap):Prop:=
 ∀ w S a,a.tmps.size=n→a.defers=[]→cG w S (Ti++B)→Dp w S (looks all o) e a→∀ (K:Act→World→Prop) (Q:Exit→Act→World→Prop),
   (∀ b v w' S',lz w S (Ti++B) w' S' (Pi b++B)→cG w' S' (Pi b++B)→At w' S' (V b) v→K (a.put o.dst v) w')→o.wp P a w K Q
def sq (P:Program) (all:Array Oper) (n:Nat) (B:Heap) (o:Oper) (e:Env) (Ti:Heap) (V:Bk→AV) (Pi:Bk→Heap):Prop:=
 (∀ d,o.dst=some d→d < n)∧((ox all o e true∧TV P all n B o e Ti V Pi)∨(ox all o e false∧∀ b,Pi b=Ti∧V b=.raw undef))
def HT (e c:Env):Env:=fun s=>match e s with | some av=>some av | none=>c s
theorem Jl {e c:Env} {s:Nat} {av:AV} (h:e s=some av):HT e c s=some av:=by simp [HT,h]
theorem ox.up {all:Array Oper} {o:Oper} {e c:Env} {b:Bool} (h:ox all o e b):ox all o (HT e c) b:=by
 unfold ox at *
 cases hg:o.guard with
 | none=>rw [hg] at h;exact h
 | some g=>
   rw [hg] at h
   obtain ⟨s,h1,h2⟩:=h
   refine ⟨s,h1,?_⟩
   rcases h2 with ⟨x,h3,h4⟩ | ⟨h3,h4⟩
   ·exact .inl ⟨x,Jl h3,h4⟩
   ·exact .inr ⟨Jl h3,h4⟩
theorem Dp.down {w:World} {S:Nat→Prop} {ls:List Nat} {e c:Env} {a:Act} (h:Dp w S ls (HT e c) a):Dp w S ls e a:=fun s hs av rk=>h s hs av (Jl rk)
theorem sq.up {P:Program} {all:Array Oper} {n:Nat} {B:Heap} {o:Oper} {e c:Env} {Ti:Heap} {V:Bk→AV} {Pi:Bk→Heap} (h:sq P all n B o e Ti V Pi):sq P all n B o (HT e c) Ti V Pi:=by
 refine ⟨h.1,h.2.imp (fun x=>⟨x.1.up,fun w S a h1 h2 h3 h4=>x.2 w S a h1 h2 h3 h4.down⟩) (fun x=>⟨x.1.up,x.2⟩)⟩
theorem Jm {all:Array Oper} {mK:Nat→Option AV} {V:Nat→Bk→AV} {cn:Nat→(Nat→Bk)→Env} {m:Nat} (h0:∀ β s,cn 0 β s=none) (hc:∀ i o,i < m→all[i]? =some o→∀ β,cn (i+1) β=match mK i with | none=>pJ (cn i β) o.dst (some (V i (β i))) | some _=>cn i β) (hm:m≤all.size):
 ∀ i,i≤m→∀ β s av,cn i β s=some av→∃ k o,k < i∧all[k]? =some o∧o.dst=some s∧mK k=none∧av=V k (β k):=by
 intro i
 induction i with
 | zero=>intro _ β s av h;rw [h0] at h;cases h
 | succ i ih=>
   intro hi β s av h
   have ve:all[i]? =some all[i]:=by simp [show i < all.size by omega]
   rw [hc i _ (by omega) ve] at h
   cases rk:mK i with
   | some x=>
     rw [rk] at h
     obtain ⟨k,o,h1,h2⟩:=ih (by omega) β s av h
     exact ⟨k,o,by omega,h2⟩
   | none=>
     rw [rk] at h
     by_cases hd:(all[i]).dst=some s
     ·simp only [hd,l0] at h
      exact ⟨i,_,by omega,ve,hd,rk,(Option.some.inj h).symm⟩
     ·simp only [jx hd] at h
      obtain ⟨k,o,h1,h2⟩:=ih (by omega) β s av h
      exact ⟨k,o,by omega,h2⟩
theorem HU {cn:Nat→(Nat→Bk)→Env} {B:Heap} {tk:List Tok} {V:Nat→Bk→AV} (hB:uY all m) (hT:A0 all m tk) (YE:F6 all m tk) (hm:m≤all.size) {Q:Exit→Act→World→Prop} (h0:en 0=e)
 (NY:∀ β s,cn 0 β s=none) (YF:∀ i o,i < m→all[i]? =some o→∀ β,cn (i+1) β=match mK i with | none=>pJ (cn i β) o.dst (some (V i (β i))) | some _=>cn i β)
 (hs:∀ i o,i < m→all[i]? =some o→(∀ β,∀ X∈wN tk i β,sq P all n (X++B) o (HT (en i) (cn i β)) (vg tk i β) (V i) (fun b=>ma tk i (pN β i b)))∧en (i+1)=pJ (en i) o.dst (mK i)∧(∀ av,mK i=some av→∀ b,V i b=av))
 (hU:∀ i j oi oj d,i < m→j < m→i≠j→all[i]? =some oi→all[j]? =some oj→mK i=none→oi.dst=some d→oj.dst≠some d) {w0:World} {S0:Nat→Prop} {Ra:Heap}
 (fin:∀ β a w S,a.tmps.size=n→a.defers=[]→cG w S (Jj tk β++B)→lz w0 S0 Ra w S (Jj tk β++B)→AU w S (en m) a→(∀ j o d,j < m→all[j]? =some o→mK j=none→o.dst=some d→∃ v,a.tmps[d]? =some v∧At w S (V j (β j)) v)→wpList P all Q (all.toList.drop m) a w):
 ∀ (fuel:Nat) (listed:Array Bool) (a:Act) (w:World) (S:Nat→Prop) (β:Nat→Bk),K4 all m listed→(listed.toList.count true)+fuel=all.size→a.tmps.size=n→a.defers=[]→cG w S (rn tk listed β++B)→lz w0 S0 Ra w S (rn tk listed β++B)→AU w S (vf all mK e listed all.size) a→
   (∀ j o d,listed.getD j false=true→all[j]? =some o→mK j=none→o.dst=some d→∃ v,a.tmps[d]? =some v∧At w S (V j (β j)) v)→
   wpAny P .any all Q fuel listed a w:=by
 have PR:∀ i o,i < m→all[i]? =some o→en (i+1)=pJ (en i) o.dst (mK i):=fun i o h1 h2=>(hs i o h1 h2).2.1
 have Dw:∀ c i,zB all c i→c≠i:=by
  have key:∀ c i,zB all c i→i < c:=by
   intro c i h
   have one:∀ {j i:Nat} {oj:Oper},all[j]? =some oj→waits oj i=true→i < j:=by
    intro j i oj hj hw
    simp only [waits,List.any_eq_true,Bool.and_eq_true] at hw
    obtain ⟨e',Si,B2,NV⟩:=hw
    have:=xo hB hj (by simpa using Si) B2
    obtain rfl:e'.on=i:=Nat.eq_of_beq_eq_true NV
    exact this
   induction h with
   | one hj hw=>exact one hj hw
   | step hj hw _ ih=>have:=one hj hw;omega
  intro c i h e;have:=key c i h;omega
 have done:∀ (fuel:Nat) (listed:Array Bool) (a:Act) (w:World) (S:Nat→Prop) (β:Nat→Bk),K4 all m listed→(listed.toList.count true)+fuel=all.size→a.tmps.size=n→a.defers=[]→cG w S (rn tk listed β++B)→lz w0 S0 Ra w S (rn tk listed β++B)→AU w S (vf all mK e listed all.size) a→
  (∀ j o d,listed.getD j false=true→all[j]? =some o→mK j=none→o.dst=some d→∃ v,a.tmps[d]? =some v∧At w S (V j (β j)) v)→
  (∀ i,i < m→listed.getD i false=true)→wpAny P .any all Q fuel listed a w:=by
  intro fuel listed a w S β L hc lx F5 hr hg tO F8 oM
  have LF:∀ i,m≤i→listed.getD i false=false:=fun i hi=>by
   cases hv:listed.getD i false with
   | false=>rfl
   | true=>have:=L.head i hv;omega
  have NW:listed.toList.count true=m:=by
   have:listed.toList=List.replicate m true++List.replicate (all.size - m) false:=by
    apply List.ext_getElem?
    intro i
    rcases Nat.lt_or_ge i m with hi | hi
    ·have tL:i < listed.size:=by rw [L.size];omega
     rw [List.getElem?_append_left (by simpa using hi)]
     have:=oM i hi
     simp [tL] at this
     simp [tL,hi,this]
    ·rw [List.getElem?_append_right (by simpa using hi)]
     rcases Nat.lt_or_ge i listed.size with tL | tL
     ·have:=LF i hi
      simp [tL] at this
      have h2:i - m < all.size - m:=by rw [L.size] at tL;omega
      simp [tL,h2,this]
     ·have h2:¬ i - m < all.size - m:=by rw [L.size] at tL;omega
      simp [List.getElem?_eq_none (l:=listed.toList) (by simpa using tL),h2]
   rw [this,List.count_append,List.count_replicate,List.count_replicate]
   simp
  have NX:vf all mK e listed all.size=en m:=by
   have key:∀ k,k≤all.size→vf all mK e listed k=en (min k m):=by
    intro k
    induction k with
    | zero=>intro _;simp [vf,h0]
    | succ k ih=>
      intro hk
      have ve:all[k]? =some all[k]:=by simp [show k < all.size by omega]
      simp only [vf,ve,Option.bind_some,ih (by omega)]
      rcases Nat.lt_or_ge k m with h | h
      ·rw [if_pos (oM k h),Nat.min_eq_left (by omega),Nat.min_eq_left (by omega),PR k _ h ve]
      ·rw [if_neg (by rw [LF k h];simp),Nat.min_eq_right (by omega),Nat.min_eq_right (by omega)]
   rw [key all.size (Nat.le_refl _),Nat.min_eq_right hm]
  have P0:rn tk listed β=Jj tk β:=by
   unfold rn Jj
   congr 1
   apply List.filter_congr
   intro t ht
   obtain ⟨q1,q2,_⟩:=hT t ht
   unfold xq
   cases hp:t.prod with
   | none=>
     cases hc:t.cons with
     | none=>rfl
     | some c=>simp [oM c (q2 c hc).1]
   | some p=>
     cases hc:t.cons with
     | none=>simp [oM p (q1 p hp)]
     | some c=>simp [oM c (q2 c hc).1]
  rw [NX] at tO
  rw [P0] at hr hg
  exact EC hB fuel m listed a w (Nat.le_refl _) (by omega) L.size oM LF (fin β a w S lx F5 hr hg tO (fun j o d hj ho rk hd=>F8 j o d (oM j hj) ho rk hd))
 intro fuel
 induction fuel with
 | zero=>
   intro listed a w S β L hc lx F5 hr hg tO F8
   refine done 0 listed a w S β L hc lx F5 hr hg tO F8 (fun i hi=>?_)
   have Ac:listed.toList.count true=listed.toList.length:=by rw [Array.length_toList,L.size];omega
   have oM:=List.count_eq_length.1 Ac
   have tL:i < listed.size:=by rw [L.size];omega
   have:=oM listed[i] (by simp)
   simp [tL];exact this.symm
 | succ fuel ih=>
   intro listed a w S β L hc lx F5 hr hg tO F8
   by_cases oM:∀ i,i < m→listed.getD i false=true
   ·exact done _ listed a w S β L hc lx F5 hr hg tO F8 oM
   ·refine ⟨fun LG=>(oM fun i hi=>yT hB L.size LG i (by omega)).elim,fun i hi=>?_⟩
    obtain ⟨I5,I6⟩:=wm hi
    have wM:=Au I6
    have zD:all[i]? =some all[i]:=by simp [I5]
    have Ec:i < m:=by
     rcases Nat.lt_or_ge i m with h | h
     ·exact h
     ·refine (oM fun j hj=>?_).elim
      have K2:all[j]? =some all[j]:=by simp [show j < all.size by omega]
      exact lO.ready L.closed ((kA hB zD K2 (by omega)).2 h) hi
    have tL:i < listed.size:=by rw [L.size];exact I5
    obtain ⟨Sq,_,hV⟩:=hs i _ Ec zD
    obtain ⟨X,hX,rest,Uz⟩:=HR hT YE L.closed Ec wM (fun j hj=>lO.ready L.closed hj hi) (fun c h=>Dw c i h) β
    obtain ⟨KY,I8⟩:=Sq β X hX
    have yS:Dp w S (looks all all[i]) (HT (en i) (cn i β)) a:=by
     intro s I3 av rk
     rw [HT] at rk
     cases N2:en i s with
     | none=>
       rw [N2] at rk
       obtain ⟨k,o,k1,k2,k3,k4,k5⟩:=Jm NY YF hm i (by omega) β s av rk
       have N3:listed.getD k false=true:=lO.ready L.closed ((kA hB zD k2 k1).1 Ec (xp k3 I3)) hi
       rw [k5]
       exact F8 k o s N3 k2 k4 k3
     | some bZ=>
     rw [N2] at rk
     obtain rfl:=Option.some.inj rk
     have hc:=HP (mK:=mK) (en:=en) (e:=e) hB L h0 PR hm zD Ec wM (fun j hj=>lO.ready L.closed hj hi) I3 all.size (Nat.le_refl _)
     rw [Nat.min_eq_right (by omega)] at hc
     exact tO s bZ (by rw [hc];exact N2)
    have L':K4 all m (listed.setIfInBounds i true):=by
     refine ⟨by simpa using L.size,fun k hk=>?_,fun k j o hk ve hw=>?_⟩
     ·rw [jw tL] at hk
      split at hk
      ·omega
      ·exact L.head k hk
     ·rw [jw tL] at hk
      rw [jw tL]
      split
      ·rfl
      ·split at hk
       ·rename_i Sj
        subst Sj
        obtain rfl:all[k]=o:=by rw [zD] at ve;exact Option.some.inj ve
        exact sZ zD hi hw
       ·exact L.closed k j o hk ve hw
    have Ac:(listed.setIfInBounds i true).toList.count true+fuel=all.size:=by
     have I9:listed[i]=false:=by simpa [tL] using wM
     have:(listed.setIfInBounds i true).toList=listed.toList.set i true:=by simp
     rw [this,List.count_set (by simpa using tL)]
     have IU:listed.toList[i]'(by simpa using tL)=false:=by simpa using I9
     rw [IU]
     have e1:(if (false==true)=true then 1 else 0)=0:=rfl
     have e2:(if (true==true)=true then 1 else 0)=1:=rfl
     rw [e1,e2]
     omega
    have P1:∀ T:Heap,(T++(X++rest)++B).Perm ((T++(X++B))++rest):=fun T=>by
     rw [List.append_assoc,List.append_assoc,List.append_assoc,List.append_assoc]
     exact List.Perm.append_left _ (List.Perm.append_left _ List.perm_append_comm)
    have UA:(rn tk listed β++B).Perm ((vg tk i β++(X++B))++rest):=
     (((N1 hT wM (fun j hj=>lO.ready L.closed hj hi) β).trans (List.Perm.append_left _ Uz)).append_right B).trans (P1 _)
    have P2:∀ b,((ma tk i (pN β i b)++(X++B))++rest).Perm (rn tk (listed.setIfInBounds i true) (pN β i b)++B):=fun b=>
     List.Perm.symm ((((LM hT L.closed tL wM (fun c h=>Dw c i h) β b).trans (List.Perm.append_left _ Uz)).append_right B).trans (P1 _))
    have Sr:cG w S ((vg tk i β++(X++B))++rest):=hr.perm UA
    have Q5:∀ v,(a.put (all[i]).dst v).tmps.size=n:=fun v=>by cases (all[i]).dst<;>simp [Act.put,lx]
    have Q6:∀ v,(a.put (all[i]).dst v).defers=[]:=fun v=>by cases (all[i]).dst<;>simp [Act.put,F5]
    have Ss:∀ {w1 w2:World} {S1 S2:Nat→Prop} {h1 h2 FQ M7:Heap},lz w1 S1 h1 w2 S2 h2→h1.Perm FQ→h2.Perm M7→lz w1 S1 FQ w2 S2 M7:=by
     intro w1 w2 S1 S2 h1 h2 FQ M7 ev p1 p2
     have has:∀ {g g':Heap} {k:Nat},g.Perm g'→(Has g k↔Has g' k):=fun p=>
      ⟨fun ⟨x,hx,hb⟩=>⟨x,p.mem_iff.1 hx,hb⟩,fun ⟨x,hx,hb⟩=>⟨x,p.mem_iff.2 hx,hb⟩⟩
     exact ⟨ev.os,ev.tape,ev.output,ev.size,ev.mH,fun k hk hh=>ev.other k hk (fun hc=>hh ((has p1).1 hc)),fun k hk=>((ev.new k ((has p2).2 hk)).imp (has p1).1 id),ev.drawn⟩
    have next:∀ (b:Bk) (v:Value) (w':World) (S':Nat→Prop),lz w S (vg tk i β++(X++B)) w' S' (ma tk i (pN β i b)++(X++B))→cG w' S' (ma tk i (pN β i b)++(X++B))→At w' S' (V i b) v→wpAny P .any all Q fuel (listed.setIfInBounds i true) (a.put (all[i]).dst v) w':=by
     intro b v w' S' LN Su tJ
     have M4:cG w' S' ((ma tk i (pN β i b)++(X++B))++rest):=Sr.frame LN Su
     have YG:=LN.frame rest
     refine ih _ _ _ S' (pN β i b) L' Ac (Q5 v) (Q6 v) (M4.perm (P2 b)) (hg.trans (Ss YG UA.symm (P2 b))) ?_ ?_
     ·intro s av rk
      rw [Ji (mK:=mK) (e:=e) hB L zD Ec wM s all.size (Nat.le_refl _),if_pos (by omega)] at rk
      by_cases hd:(all[i]).dst=some s
      ·rw [hd,l0] at rk
       have PS:=KY s hd
       exact ⟨v,by rw [hd];simp [Act.put,lx,PS],by rw [← hV av rk b];exact tJ⟩
      ·rw [jx hd] at rk
       obtain ⟨u,h1,h2⟩:=tO s av rk
       refine ⟨u,?_,h2.mono LN.mH⟩
       cases Dr:(all[i]).dst with
       | none=>simpa [Act.put] using h1
       | some d'=>
         have mJ:d'≠s:=fun e=>hd (by rw [Dr,e])
         simp [Act.put,mJ,h1]
     ·intro j o d hj ho rk hd
      by_cases Rb:j=i
      ·subst Rb
       rw [zD] at ho;obtain rfl:=Option.some.inj ho
       have PS:=KY d hd
       exact ⟨v,by rw [hd];simp [Act.put,lx,PS],by rw [LL];exact tJ⟩
      ·have Iz:listed.getD j false=true:=by rw [jw tL,if_neg Rb] at hj;exact hj
       obtain ⟨u,h1,h2⟩:=F8 j o d Iz ho rk hd
       refine ⟨u,?_,by rw [G5 Rb];exact h2.mono LN.mH⟩
       cases Dr:(all[i]).dst with
       | none=>simpa [Act.put] using h1
       | some d'=>
         have mJ:d'≠d:=fun e=>hU j i o all[i] d (L.head j Iz) Ec Rb ho zD rk hd (by rw [Dr,e])
         simp [Act.put,mJ,h1]
    simp only [wpOp,zD]
    rcases I8 with ⟨hw,Sk⟩ | ⟨hw,rk⟩
    ·rw [if_pos (wo hw yS)]
     exact .inl (Sk w S a lx F5 (Sr.sub (List.sublist_append_left _ _)) yS _ _ (fun b v w' S' LN Su tJ=>next b v w' S' LN Su tJ))
    ·rw [if_neg (by rw [wo hw yS];simp)]
     obtain ⟨e1,e2⟩:=rk ⟨none,0⟩
     replace e1:ma tk i (pN β i ⟨none,0⟩)=vg tk i β:=e1
     refine next ⟨none,0⟩ _ w S (by rw [e1];exact lz.refl _ _ _) (by rw [e1];exact Sr.sub (List.sublist_append_left _ _)) ?_
     rw [e2];exact .raw _
end order
end Go.Eng
namespace Go.Eng
open Go
variable [bA]
theorem Jn {P:Program} {o:Oper} {a:Act} {K0 K:Act→World→Prop} {G:Act→World→Prop} {Q':Exit→Act→World→Prop} (hK:∀ v w',K0 (a.put o.dst v) w'→K (a.put o.dst v) w') (hd:∀ a' w',K0 a' w'→a'.defers=[]):
 ∀ r,o.upon P a K0 (xj G) r→o.upon P a K Q' r:=by
 intro r h
 unfold Oper.upon at *
 split at h
 ·exact hK _ _ h
 ·exact hK _ _ h
 ·rename_i d w'
  have:=hd _ _ h
  cases EK:o.dst<;>simp [Act.put,EK] at this
 ·refine Calls.mono h ?_
  intro e w' he
  cases e with
  | returned v=>exact hK _ _ he
  | panicked c=>cases he.1
  | outgrown=>obtain ⟨a0,w0,h0⟩:=he;cases h0.1
 ·exact Rows.mono h fun v w' hv=>hK _ _ hv
 ·cases h.1
 ·exact h.elim
theorem LO {P:Program} {all:Array Oper} {o:Oper} {σ:St} {Q:St→Prop} (hg:o.guard=none) (h:ah P all [o] σ Q) {w:World} {S:Nat→Prop} {a:Act} (r:dQ w S σ a) {K:Act→World→Prop} {Q':Exit→Act→World→Prop}
 (hK:∀ v w',QT w S σ.hp Q (a.put o.dst v) w'→K (a.put o.dst v) w'):o.wp P a w K Q':=by
 have:=h w S a r
 unfold wpList at this
 rw [if_pos (by simp [Region.wanted,hg])] at this
 rcases this with h1 | ⟨_,a0,w0,h0,_⟩
 ·refine Jn (G:=QT w S σ.hp Q) (fun v w' hh=>hK v w' hh.2) (fun a' w' hh=>?_) _ h1
  obtain ⟨_,aC,S',_,hr,_⟩:=hh
  exact hr.defers
 ·cases h0
variable {P:Program} {all:Array Oper} {n:Nat} {B:Heap} {tk:List Tok}
def LP (x:Option AV) (c:(Nat→Bk)→Env) (d:Option Nat) (V:Bk→AV) (i:Nat):(Nat→Bk)→Env:=fun β=>match x with | none=>pJ (c β) d (some (V (β i))) | some _=>c β
inductive Nh (P:Program) (all:Array Oper) (n:Nat) (B:Heap) (tk:List Tok) (dy:List Nat):Nat→List Oper→Env→((Nat→Bk)→Env)→List (Option AV×(Bk→AV))→Env→Prop
 | nil (i:Nat) (e:Env) (c:(Nat→Bk)→Env):Nh P all n B tk dy i [] e c [] e
 | cons {i:Nat} {o:Oper} {l:List Oper} {e e':Env} {c:(Nat→Bk)→Env} {D:List (Option AV×(Bk→AV))} {x:Option AV} {V:Bk→AV} (h:∀ β,∀ X∈wN tk i β,sq P all n (X++B) o (HT e (c β)) (vg tk i β) V (fun b=>ma tk i (pN β i b))) (hv:∀ av,x=some av→∀ b,V b=av) (hx:x=none→dy.contains i=true)
  (k:Nh P all n B tk dy (i+1) l (pJ e o.dst x) (LP x c o.dst V i) D e'):Nh P all n B tk dy i (o :: l) e c ((x,V) :: D) e'
def yW (β:Nat→Bk):Nat→List Oper→List (Option AV×(Bk→AV))→List (Nat×AV)→List (Nat×AV)
 | i,o :: l,(none,V) :: D,a=>match o.dst with
   | some d=>yW β (i+1) l D ((d,V (β i)) :: a)
   | none=>yW β (i+1) l D a
 | i,_ :: l,(some _,_) :: D,a=>yW β (i+1) l D a
 | _,_,_,a=>a
def AT (P:Program) (all:Array Oper) (n:Nat) (B:Heap) (tk:List Tok) (dy:List Nat) (i:Nat) (l:List Oper) (tm:List (Nat×AV)) (acc:(Nat→Bk)→List (Nat×AV)) (Q:(Nat→Bk)→List (Nat×AV)→Prop):Prop:=
 ∃ D qQ,Nh P all n B tk dy i l (lk tm) (fun β=>lk (acc β)) D (lk qQ)∧∀ β,Q β (yW β i l D (acc β)++qQ)
section rules
variable {dy:List Nat} {i:Nat} {rest:List Oper} {tm:List (Nat×AV)} {acc:(Nat→Bk)→List (Nat×AV)} {Q:(Nat→Bk)→List (Nat×AV)→Prop} {d:Nat} {ty:TypeId} {pos:String} {af:Array Edge} {op:Op}
theorem AT.nil {F:(Nat→Bk)→List (Nat×AV)} (hF:∀ β,F β=acc β++tm) (h:∀ β,Q β (F β)):AT P all n B tk dy i [] tm acc Q:=
 ⟨[],tm,.nil _ _ _,fun β=>by rw [show yW β i [] [] (acc β)=acc β from rfl,← hF];exact h β⟩
theorem AT.UB {o:Oper} {d:Nat} {av:AV} (hd:o.dst=some d) (h:∀ β,∀ X∈wN tk i β,sq P all n (X++B) o (HT (lk tm) (lk (acc β))) (vg tk i β) (fun _=>av) (fun b=>ma tk i (pN β i b))) (k:AT P all n B tk dy (i+1) rest ((d,av) :: tm) acc Q):AT P all n B tk dy i (o :: rest) tm acc Q:=by
 obtain ⟨D,qQ,k1,k2⟩:=k
 refine ⟨(some av,fun _=>av) :: D,qQ,.cons h (fun bZ e b=>Option.some.inj e) (fun e=>by cases e) ?_,k2⟩
 have:pJ (lk tm) o.dst (some av)=lk ((d,av) :: tm):=by
  rw [x4,hd];rfl
 rw [this];exact k1
theorem AT.dyn {o:Oper} {d:Nat} {V:Bk→AV} (hd:o.dst=some d) (xm:lk tm d=none) (Sv:dy.contains i=true) (h:∀ β,∀ X∈wN tk i β,sq P all n (X++B) o (HT (lk tm) (lk (acc β))) (vg tk i β) V (fun b=>ma tk i (pN β i b))) (k:AT P all n B tk dy (i+1) rest tm (fun β=>(d,V (β i)) :: acc β) Q):AT P all n B tk dy i (o :: rest) tm acc Q:=by
 obtain ⟨D,qQ,k1,k2⟩:=k
 refine ⟨(none,V) :: D,qQ,.cons h (fun bZ e b=>by cases e) (fun _=>Sv) ?_,fun β=>?_⟩
 ·have:pJ (lk tm) o.dst none=lk tm:=by
   funext s
   rw [hd]
   simp only [pJ]
   split
   ·rename_i e;subst e;exact xm.symm
   ·rfl
  rw [this]
  have e2:LP none (fun β=>lk (acc β)) o.dst V i=fun β=>lk ((d,V (β i)) :: acc β):=by
   funext β
   simp only [LP,hd]
   rw [x4];rfl
  rw [e2];exact k1
 ·have:=k2 β
  simp only [yW,hd]
  exact this
theorem AT.YH {o:Oper} (hd:o.dst=none) (h:∀ β,∀ X∈wN tk i β,sq P all n (X++B) o (HT (lk tm) (lk (acc β))) (vg tk i β) (fun _=>.raw undef) (fun b=>ma tk i (pN β i b))) (k:AT P all n B tk dy (i+1) rest tm acc Q):AT P all n B tk dy i (o :: rest) tm acc Q:=by
 obtain ⟨D,qQ,k1,k2⟩:=k
 refine ⟨(some (.raw undef),fun _=>.raw undef) :: D,qQ,.cons h (fun bZ e b=>Option.some.inj e) (fun e=>by cases e) ?_,k2⟩
 rw [hd];exact k1
def tC (tk:List Tok) (i j:Nat):Bool:=tk.all fun t=>(match t.prod with | some p=>Nat.blt p i||Nat.ble j p | none=>true)&&(match t.cons with | some p=>Nat.blt p i||Nat.ble j p | none=>true)&&((t.Sp.all fun p=>Nat.blt p i||Nat.ble j p)&&t.Ux.all fun p=>Nat.blt p i||Nat.ble j p)
theorem EL {i j:Nat} (h:tC tk i j=true) {k:Nat} (h1:i≤k) (h2:k < j) (β:Nat→Bk):vg tk k β=[]:=by
 unfold vg
 rw [List.map_eq_nil_iff,List.filter_eq_nil_iff]
 intro t ht hc
 have:=List.all_eq_true.1 h t ht
 rw [Bool.and_eq_true,Bool.and_eq_true] at this
 replace this:=this.1
 unfold Af at hc
 split at hc
 ·rename_i c O5
  obtain rfl:c=k:=Nat.eq_of_beq_eq_true hc
  have:=this.2
  rw [O5] at this
  simp at this;omega
 ·cases hc
theorem CE {i j:Nat} (h:tC tk i j=true) {k:Nat} (h1:i≤k) (h2:k < j) (β:Nat→Bk):ma tk k β=[]:=by
 unfold ma
 rw [List.map_eq_nil_iff,List.filter_eq_nil_iff]
 intro t ht hc
 have:=List.all_eq_true.1 h t ht
 rw [Bool.and_eq_true,Bool.and_eq_true] at this
 replace this:=this.1
 unfold LK at hc
 split at hc
 ·rename_i c O5
  obtain rfl:c=k:=Nat.eq_of_beq_eq_true hc
  have:=this.1
  rw [O5] at this
  simp at this;omega
 ·cases hc
theorem Jo {i j:Nat} (h:tC tk i j=true) {k:Nat} (h1:i≤k) (h2:k < j) (β:Nat→Bk):x6 tk k β=[]:=by
 unfold x6
 rw [List.map_eq_nil_iff,List.filter_eq_nil_iff]
 intro t ht hc
 have:=List.all_eq_true.1 h t ht
 rw [Bool.and_eq_true] at this
 have h3:=List.all_eq_true.1 (Bool.and_eq_true_iff.1 this.2).1 k (by simpa [G4] using hc)
 simp at h3;omega
theorem CF {i j:Nat} (h:tC tk i j=true) {k:Nat} (h1:i≤k) (h2:k < j) (β:Nat→Bk):wN tk k β=[[]]:=by
 have e:tk.filter (K1 k)=[]:=by
  rw [List.filter_eq_nil_iff]
  intro t ht hc
  have:=List.all_eq_true.1 h t ht
  rw [Bool.and_eq_true] at this
  have h3:=List.all_eq_true.1 (Bool.and_eq_true_iff.1 this.2).2 k (by simpa [K1] using hc)
  simp at h3;omega
 unfold wN
 rw [e,Jo h h1 h2 β]
theorem A1 (e:Env) (d:Option Nat) (av:AV):pJ e d (some av)=wL e d av:=by
 cases d<;>rfl
theorem EM {o:Oper} {e:Env} {av:AV} (hd:∀ d,o.dst=some d→d < n) (hg:ox all o e true) (h:MV P all n o e B av):sq P all n B o e [] (fun _=>av) (fun _=>[]):=by
 refine ⟨hd,.inl ⟨hg,fun w S a h1 h2 h3 h4 K Q hK=>?_⟩⟩
 exact h w S a h1 h2 h3 h4 K Q (fun v w' S' Nb tJ=>hK ⟨none,0⟩ v w' S' (Nb.Uu h3.slt _) (h3.grow Nb) tJ)
theorem P3:∀ {l1:List Oper} {e e':Env} {i:Nat} (h:LB P all n B l1 e e') (hn:tC tk i (i+l1.length)=true) {l2:List Oper} {c:(Nat→Bk)→Env} {D:List (Option AV×(Bk→AV))} {e2:Env},Nh P all n B tk dy (i+l1.length) l2 e' c D e2→
 ∃ D1,Nh P all n B tk dy i (l1++l2) e c (D1++D) e2∧D1.length=l1.length∧∀ x∈D1,x.1.isSome=true:=by
 intro l1 e e' i h
 induction h generalizing i with
 | nil e=>intro hn l2 c D e2 k;exact ⟨[],by simpa using k,rfl,by simp⟩
 | @run o l e e' av hg hm hd k ih=>
   intro hn l2 c D e2 kk
   have Jp:tC tk (i+1) (i+1+l.length)=true:=by
    unfold tC at hn ⊢
    rw [List.all_eq_true] at hn ⊢
    intro t ht
    have:=hn t ht
    rw [Bool.and_eq_true,Bool.and_eq_true] at this ⊢
    refine ⟨⟨?_,?_⟩,?_⟩
    ·have h1:=this.1.1
     cases hp:t.prod<;>rw [hp] at h1<;>simp_all<;>omega
    ·have h1:=this.1.2
     cases hp:t.cons<;>rw [hp] at h1<;>simp_all<;>omega
    ·have h1:=this.2
     rw [Bool.and_eq_true,List.all_eq_true,List.all_eq_true] at h1 ⊢
     exact ⟨fun p hp=>by have:=h1.1 p hp;simp at this ⊢;omega,fun p hp=>by have:=h1.2 p hp;simp at this ⊢;omega⟩
   obtain ⟨D1,a1,a2,a3⟩:=ih Jp (l2:=l2) (D:=D) (e2:=e2) (by rw [show i+1+l.length=i+(o :: l).length by simp;omega];exact kk)
   refine ⟨(some av,fun _=>av) :: D1,?_,by simp [a2],?_⟩
   ·refine .cons (fun β X hX=>?_) (fun bZ e b=>Option.some.inj e) (fun e=>by cases e) (by rw [A1];exact a1)
    rw [CF hn (Nat.le_refl _) (by simp)] at hX
    obtain rfl:=List.mem_singleton.1 hX
    rw [EL hn (Nat.le_refl _) (by simp),show (fun b=>ma tk i (pN β i b))=fun _=>[] from funext fun b=>CE hn (Nat.le_refl _) (by simp) _]
    exact (EM hd hg hm).up
   ·intro x hx
    rcases List.mem_cons.1 hx with rfl | hx
    ·rfl
    ·exact a3 x hx
 | @pass o l e e' hg hd k ih=>
   intro hn l2 c D e2 kk
   have Jp:tC tk (i+1) (i+1+l.length)=true:=by
    unfold tC at hn ⊢
    rw [List.all_eq_true] at hn ⊢
    intro t ht
    have:=hn t ht
    rw [Bool.and_eq_true,Bool.and_eq_true] at this ⊢
    refine ⟨⟨?_,?_⟩,?_⟩
    ·have h1:=this.1.1
     cases hp:t.prod<;>rw [hp] at h1<;>simp_all<;>omega
    ·have h1:=this.1.2
     cases hp:t.cons<;>rw [hp] at h1<;>simp_all<;>omega
    ·have h1:=this.2
     rw [Bool.and_eq_true,List.all_eq_true,List.all_eq_true] at h1 ⊢
     exact ⟨fun p hp=>by have:=h1.1 p hp;simp at this ⊢;omega,fun p hp=>by have:=h1.2 p hp;simp at this ⊢;omega⟩
   obtain ⟨D1,a1,a2,a3⟩:=ih Jp (l2:=l2) (D:=D) (e2:=e2) (by rw [show i+1+l.length=i+(o :: l).length by simp;omega];exact kk)
   refine ⟨(some (.raw undef),fun _=>.raw undef) :: D1,?_,by simp [a2],?_⟩
   ·refine .cons (fun β X hX=>?_) (fun bZ e b=>Option.some.inj e) (fun e=>by cases e) (by rw [A1];exact a1)
    rw [CF hn (Nat.le_refl _) (by simp)] at hX
    obtain rfl:=List.mem_singleton.1 hX
    rw [EL hn (Nat.le_refl _) (by simp),show (fun b=>ma tk i (pN β i b))=fun _=>[] from funext fun b=>CE hn (Nat.le_refl _) (by simp) _]
    exact ⟨hd,.inr ⟨hg.up,fun b=>⟨rfl,rfl⟩⟩⟩
   ·intro x hx
    rcases List.mem_cons.1 hx with rfl | hx
    ·rfl
    ·exact a3 x hx
theorem CG (β:Nat→Bk):∀ {l1:List Oper} {D1:List (Option AV×(Bk→AV))} (i:Nat) {l2:List Oper} {D:List (Option AV×(Bk→AV))} (a:List (Nat×AV)),D1.length=l1.length→(∀ x∈D1,x.1.isSome=true)→yW β i (l1++l2) (D1++D) a=yW β (i+l1.length) l2 D a
 | [],[],i,l2,D,a,_,_=>by simp
 | o :: l1,(some av,V) :: D1,i,l2,D,a,h,hs=>by
   simp only [List.cons_append,yW]
   rw [CG β (i+1) a (by simpa using h) (fun x hx=>hs x (by simp [hx]))]
   simp [Nat.add_assoc,Nat.add_comm 1]
 | o :: l1,(none,V) :: D1,i,l2,D,a,h,hs=>by have:=hs (none,V) (by simp);cases this
 | [],_ :: _,i,l2,D,a,h,hs=>by cases h
 | _ :: _,[],i,l2,D,a,h,hs=>by cases h
theorem AT.am {l l1 l2:List Oper} (m:Nat) (hs:ED m l=some (l1,l2)) (hn:tC tk i (i+m)=true) (h:AM P all n B l1 tm (fun qQ=>AT P all n B tk dy (i+m) l2 qQ acc Q)):AT P all n B tk dy i l tm acc Q:=by
 obtain ⟨rfl,rfl⟩:=wq hs
 obtain ⟨Ed,h1,D,qQ,h2,h3⟩:=h
 obtain ⟨D1,a1,a2,a3⟩:=P3 h1 hn h2
 refine ⟨D1++D,qQ,a1,fun β=>?_⟩
 rw [CG β i (acc β) a2 a3]
 exact h3 β
theorem yX {o:Oper} {Ti H1:Heap} {V:Bk→AV} {Pi H2:Bk→Heap} (hg:o.guard=none) (hd:∀ d,o.dst=some d→d < n) (h1:tA Ti B=some H1) (h2:∀ b,tA (Pi b) B=some (H2 b))
 (xk:ah P all [o] ⟨n,FT (looks all o) tm,H1⟩ (fun aC=>∃ b Ed,aC=⟨n,Ed,H2 b⟩∧∀ d,o.dst=some d→lk Ed d=some (V b)))
 (hv:o.dst=none→∀ b,V b=.raw undef):sq P all n B o (lk tm) Ti V Pi:=by
 refine ⟨hd,.inl ⟨by simp [ox,hg],fun w S a s1 s2 s3 s4 K Q hK=>?_⟩⟩
 have e1:=og h1
 rw [e1] at s3 hK
 refine LO hg xk (sf s1 s2 s3 s4) (fun v w' Sw=>?_)
 obtain ⟨aC,S',⟨b,Ed,rfl,LQ⟩,hr,LN⟩:=Sw
 have e2:=og (h2 b)
 cases EK:o.dst with
 | some d=>
   have KY:=hd d EK
   obtain ⟨u,g1,g2⟩:=hr.tm d _ (LQ d EK)
   have hu:u=v:=by
    rw [EK] at g1
    simp [Act.put,s1,KY] at g1
    exact g1.symm
   rw [hu] at g2
   rw [← EK]
   exact hK b v w' S' (by rw [e2];exact LN) (by rw [e2];exact hr.hp) g2
 | none=>
   have:a.put none v=a.put o.dst undef:=by rw [EK];rfl
   rw [this]
   exact hK b undef w' S' (by rw [e2];exact LN) (by rw [e2];exact hr.hp) (by rw [hv EK b];exact .raw _)
theorem AT.A2 {av:AV} {Ti H1 Pi H2:Heap} (LG:∀ β,wN tk i β=[[]]) (N4:∀ β,vg tk i β=Ti) (N5:∀ β,ma tk i β=Pi) (h1:tA Ti B=some H1) (h2:tA Pi B=some H2) (hn:Nat.blt d n=true)
 (xk:ah P all [⟨some d,op,ty,pos,af,none⟩] ⟨n,FT (looks all ⟨some d,op,ty,pos,af,none⟩) tm,H1⟩ (fun aC=>∃ Ed,aC=⟨n,Ed,H2⟩∧lk Ed d=some av))
 (k:AT P all n B tk dy (i+1) rest ((d,av) :: tm) acc Q):AT P all n B tk dy i (⟨some d,op,ty,pos,af,none⟩ :: rest) tm acc Q:=by
 refine AT.UB rfl (fun β X hX=>?_) k
 rw [LG β] at hX
 obtain rfl:=List.mem_singleton.1 hX
 rw [List.nil_append,N4 β,show (fun b=>ma tk i (pN β i b))=fun _=>Pi from funext fun b=>N5 _]
 refine sq.up ?_
 refine yX rfl (fun d' Dx=>by obtain rfl:=Option.some.inj Dx;simpa using hn) h1 (fun _=>h2) ?_ (fun e=>by cases e)
 refine fun w S a r=>jP ?_ _ _ _ (xk w S a r)
 rintro e a' w' ⟨he,aC,S',⟨Ed,q1,q2⟩,hh⟩
 exact ⟨he,aC,S',⟨⟨none,0⟩,Ed,q1,fun d' Dx=>by obtain rfl:=Option.some.inj Dx;exact q2⟩,hh⟩
theorem AT.B7 {V:Bk→AV} {Ti H1:Heap} {Pi H2:Bk→Heap} (LG:∀ β,wN tk i β=[[]]) (N4:∀ β,vg tk i β=Ti) (N5:∀ β b,ma tk i (pN β i b)=Pi b) (h1:tA Ti B=some H1) (h2:∀ b,tA (Pi b) B=some (H2 b)) (hn:Nat.blt d n=true) (xm:lk tm d=none) (Sv:dy.contains i=true)
 (xk:ah P all [⟨some d,op,ty,pos,af,none⟩] ⟨n,FT (looks all ⟨some d,op,ty,pos,af,none⟩) tm,H1⟩ (fun aC=>∃ b Ed,aC=⟨n,Ed,H2 b⟩∧lk Ed d=some (V b)))
 (k:AT P all n B tk dy (i+1) rest tm (fun β=>(d,V (β i)) :: acc β) Q):AT P all n B tk dy i (⟨some d,op,ty,pos,af,none⟩ :: rest) tm acc Q:=by
 refine AT.dyn rfl xm Sv (fun β X hX=>?_) k
 rw [LG β] at hX
 obtain rfl:=List.mem_singleton.1 hX
 rw [List.nil_append,N4 β,show (fun b=>ma tk i (pN β i b))=Pi from funext (N5 β)]
 refine sq.up ?_
 refine yX rfl (fun d' Dx=>by obtain rfl:=Option.some.inj Dx;simpa using hn) h1 h2 ?_ (fun e=>by cases e)
 refine fun w S a r=>jP ?_ _ _ _ (xk w S a r)
 rintro e a' w' ⟨he,aC,S',⟨b,Ed,q1,q2⟩,hh⟩
 exact ⟨he,aC,S',⟨b,Ed,q1,fun d' Dx=>by obtain rfl:=Option.some.inj Dx;exact q2⟩,hh⟩
theorem AT.yY {Ti H1 Pi H2:Heap} (LG:∀ β,wN tk i β=[[]]) (N4:∀ β,vg tk i β=Ti) (N5:∀ β,ma tk i β=Pi) (h1:tA Ti B=some H1) (h2:tA Pi B=some H2)
 (xk:ah P all [⟨none,op,ty,pos,af,none⟩] ⟨n,FT (looks all ⟨none,op,ty,pos,af,none⟩) tm,H1⟩ (fun aC=>∃ Ed,aC=⟨n,Ed,H2⟩))
 (k:AT P all n B tk dy (i+1) rest tm acc Q):AT P all n B tk dy i (⟨none,op,ty,pos,af,none⟩ :: rest) tm acc Q:=by
 refine AT.YH rfl (fun β X hX=>?_) k
 rw [LG β] at hX
 obtain rfl:=List.mem_singleton.1 hX
 rw [List.nil_append,N4 β,show (fun b=>ma tk i (pN β i b))=fun _=>Pi from funext fun b=>N5 _]
 refine sq.up ?_
 refine yX rfl (fun d' Dx=>by cases Dx) h1 (fun _=>h2) ?_ (fun _ b=>rfl)
 refine fun w S a r=>jP ?_ _ _ _ (xk w S a r)
 rintro e a' w' ⟨he,aC,S',⟨Ed,q1⟩,hh⟩
 exact ⟨he,aC,S',⟨⟨none,0⟩,Ed,q1,fun d' Dx=>by cases Dx⟩,hh⟩
theorem AT.rd {av:AV} {Rs H1:Heap} (hr:∀ β,wN tk i β=[Rs]) (h1:tA Rs B=some H1) (N4:∀ β,vg tk i β=[]) (N5:∀ β,ma tk i β=[])
 (q:QV P ⟨some d,op,ty,pos,af,none⟩ ⟨n,FT (looks all ⟨some d,op,ty,pos,af,none⟩) tm,H1⟩ av) (hn:Nat.blt d n=true)
 (k:AT P all n B tk dy (i+1) rest ((d,av) :: tm) acc Q):AT P all n B tk dy i (⟨some d,op,ty,pos,af,none⟩ :: rest) tm acc Q:=by
 refine AT.UB rfl (fun β X hX=>?_) k
 rw [hr β] at hX
 obtain rfl:=List.mem_singleton.1 hX
 rw [og h1,N4 β,show (fun b=>ma tk i (pN β i b))=fun _=>[] from funext fun b=>N5 _]
 refine sq.up ?_
 refine EM (fun d' Dx=>by obtain rfl:=Option.some.inj Dx;simpa using hn) rfl (fun w S a s1 s2 s3 s4 K Q' hK=>?_)
 obtain ⟨v,g1,g2⟩:=q w S a (sf s1 s2 s3 s4)
 show Oper.upon P _ a K Q' _
 rw [g1 w (Ext.refl w)]
 exact hK v w S (Grow.refl s3.slt) g2
end rules
end Go.Eng
namespace Go.Eng
open Go
variable [bA]
theorem Nh.F4 {P:Program} {all:Array Oper} {n:Nat} {B:Heap} {tk:List Tok} {dy:List Nat} {i:Nat} {l:List Oper} {e e':Env} {c:(Nat→Bk)→Env} {D:List (Option AV×(Bk→AV))} (h:Nh P all n B tk dy i l e c D e'):
 ∃ (en:Nat→Env) (cn:Nat→(Nat→Bk)→Env),en i=e∧cn i=c∧en (i+l.length)=e'∧D.length=l.length∧∀ j o x V,l[j]? =some o→D[j]? =some (x,V)→
   (∀ β,∀ X∈wN tk (i+j) β,sq P all n (X++B) o (HT (en (i+j)) (cn (i+j) β)) (vg tk (i+j) β) V (fun b=>ma tk (i+j) (pN β (i+j) b)))∧en (i+j+1)=pJ (en (i+j)) o.dst x∧(∀ av,x=some av→∀ b,V b=av)∧(x=none→dy.contains (i+j)=true)∧cn (i+j+1)=LP x (cn (i+j)) o.dst V (i+j):=by
 induction h with
 | nil i e c=>exact ⟨fun _=>e,fun _=>c,rfl,rfl,rfl,rfl,fun j o x V h=>by simp at h⟩
 | @cons i o l e e' c D x V h hv hx k ih=>
   obtain ⟨en,cn,h0,NY,h1,h2,h3⟩:=ih
   refine ⟨fun k=>if k=i then e else en k,fun k=>if k=i then c else cn k,by simp,by simp,?_,by simp [h2],fun j o' x' V' ho hD=>?_⟩
   ·show (if i+(o :: l).length=i then e else en (i+(o :: l).length))=e'
    rw [if_neg (by simp),← h1]
    congr 1
    simp;omega
   ·match j with
    | 0=>
      simp at ho hD
      obtain ⟨rfl,rfl⟩:=hD
      subst ho
      simp only [Nat.add_zero,if_true]
      refine ⟨h,?_,hv,hx,?_⟩
      ·rw [if_neg (by omega),h0]
      ·rw [if_neg (by omega),NY]
    | j+1=>
      have:=h3 j o' x' V' (by simpa using ho) (by simpa using hD)
      rw [show i+1+j=i+(j+1) by omega] at this
      simp only
      rw [if_neg (show ¬ i+(j+1)=i by omega),if_neg (show ¬ i+(j+1)+1=i by omega),if_neg (show ¬ i+(j+1)=i by omega),if_neg (show ¬ i+(j+1)+1=i by omega)]
      exact this
def Ni (l:List Oper) (dy:List Nat):Bool:=dy.all fun i=>(List.range l.length).all fun j=>Nat.beq i j||(match l[i]?,l[j]? with
 | some oi,some oj=>(match oi.dst,oj.dst with | some d,some d'=>!Nat.beq d d' | _,_=>true)
 | _,_=>true)
theorem F9 {l:List Oper} {dy:List Nat} (h:Ni l dy=true) {i j:Nat} {oi oj:Oper} {d:Nat} (hi:dy.contains i=true) (x3:i≠j) (h1:l[i]? =some oi) (h2:l[j]? =some oj) (hd:oi.dst=some d):oj.dst≠some d:=by
 intro Dx
 have hm:i∈dy:=by simpa using hi
 have hj:j < l.length:=(List.getElem?_eq_some_iff.1 h2).1
 have:=List.all_eq_true.1 (List.all_eq_true.1 h i hm) j (List.mem_range.2 hj)
 rw [h1,h2] at this
 simp only [hd,Dx] at this
 have hb:Nat.beq i j=false:=pZ x3
 rw [hb] at this
 simp at this
def Jq (tk:List Tok):Heap:=(tk.filter (fun t=>t.prod.isNone)).map (fun t=>t.at (fun _=>⟨none,0⟩))
theorem Jr:∀ (a b:List (Nat×AV)) (s:Nat) (av:AV),lk (a++b) s=some av→lk a s=some av∨lk b s=some av
 | [],b,s,av,h=>.inr h
 | (k,v) :: a,b,s,av,h=>by
   simp only [List.cons_append,lk] at h ⊢
   split at h
   ·exact .inl h
   ·exact Jr a b s av h
theorem x7 (β:Nat→Bk):∀ (l:List Oper) (D:List (Option AV×(Bk→AV))) (i:Nat) (a:List (Nat×AV)) (s:Nat) (av:AV),lk (yW β i l D a) s=some av→lk a s=some av∨∃ (j:Nat) (o:Oper) (V:Bk→AV),l[j]? =some o∧D[j]? =some (none,V)∧o.dst=some s∧av=V (β (i+j))
 | [],D,i,a,s,av,h=>by
   have:yW β i [] D a=a:=by cases D<;>rfl
   rw [this] at h;exact .inl h
 | o :: l,[],i,a,s,av,h=>.inl h
 | o :: l,(some x,V) :: D,i,a,s,av,h=>by
   simp only [yW] at h
   rcases x7 β l D (i+1) a s av h with h | ⟨j,o',V',h1,h2,h3,h4⟩
   ·exact .inl h
   ·exact .inr ⟨j+1,o',V',by simpa using h1,by simpa using h2,h3,by rw [h4];congr 2;omega⟩
 | o :: l,(none,V) :: D,i,a,s,av,h=>by
   simp only [yW] at h
   cases hd:o.dst with
   | none=>
     rw [hd] at h
     rcases x7 β l D (i+1) a s av h with h | ⟨j,o',V',h1,h2,h3,h4⟩
     ·exact .inl h
     ·exact .inr ⟨j+1,o',V',by simpa using h1,by simpa using h2,h3,by rw [h4];congr 2;omega⟩
   | some d=>
     rw [hd] at h
     rcases x7 β l D (i+1) _ s av h with h5 | ⟨j,o',V',h1,h2,h3,h4⟩
     ·simp only [lk] at h5
      split at h5
      ·rename_i hb
       obtain rfl:d=s:=by simpa using hb
       exact .inr ⟨0,o,V,rfl,rfl,hd,by simpa using (Option.some.inj h5).symm⟩
      ·exact .inl h5
     ·exact .inr ⟨j+1,o',V',by simpa using h1,by simpa using h2,h3,by rw [h4];congr 2;omega⟩
theorem ae.fK {P:Program} {R:St→Prop} {k:List It} {id n:Nat} {tm:List (Nat×AV)} {hp:Heap} {l hd tl:List Oper} (m:Nat) (hm:P.follows .mixedOrders=true) (hs:ED m l=some (hd,tl)) {A:List Nat} (hA:HG l.toArray=A) (Sl:EB l.toArray m A=true)
 (tk:List Tok) (dy:List Nat) (UC:(PY A m tk&&Ng A m tk)=true) (YI:Ni hd dy=true) {B H0:Heap} (Dk:Jq tk=H0) (Sx:CA hp H0 B) {HH:(Nat→Bk)→Heap} (Sy:∀ β,tA (Jj tk β) B=some (HH β))
 (h:AT P l.toArray n B tk dy 0 hd tm (fun _=>[]) (fun β qQ=>ah P l.toArray tl ⟨n,qQ,HH β⟩ (ae P R k))):ae P R (.code (.region id l.toArray true) :: k) ⟨n,tm,hp⟩:=by
 have hB:uY l.toArray m:=⟨A,hA,Sl⟩
 have hT:A0 l.toArray m tk:=HQ hA (Bool.and_eq_true_iff.1 UC).1
 intro w S a r
 obtain ⟨hl,HJ⟩:=wq hs
 obtain ⟨D,qQ,YJ,xk⟩:=h
 obtain ⟨en,cn,e0,YK,e1,e2,e3⟩:=YJ.F4
 rw [Nat.zero_add,HJ] at e1
 have lx:m≤l.toArray.size:=by simp [hl,HJ]
 let mK:Nat→Option AV:=fun j=>(D[j]?).bind (·.1)
 let V:Nat→Bk→AV:=fun j=>match D[j]? with | some x=>x.2 | none=>fun _=>.nil
 have Js:∀ j o,j < m→l.toArray[j]? =some o→hd[j]? =some o:=by
  intro j o hj ho
  have:l[j]? =some o:=by simpa using ho
  rw [hl,List.getElem?_append_left (by omega)] at this
  exact this
 have hD:∀ j,j < m→∃ x W,D[j]? =some (x,W)∧mK j=x∧V j=W:=by
  intro j hj
  have:j < D.length:=by rw [e2,HJ];exact hj
  refine ⟨D[j].1,D[j].2,by simp [this],?_,?_⟩
  ·simp [mK,this]
  ·simp [V,this]
 refine wp_region_any hm ?_
 have AW:Ext w {w with drawn:=w.drawn+1}:=Ext.IM w _ (Nat.le_succ _)
 let Rc:Nat→Bk:=fun _=>⟨none,0⟩
 have hf:∀ k,(Array.replicate l.toArray.size false).getD k false=false:=by
  intro k
  rcases Nat.lt_or_ge k l.toArray.size with h | h
  ·simp at h;simp [h]
  ·simp at h;simp [Nat.not_lt.2 h]
 have NY:∀ k,vf l.toArray mK (lk tm) (Array.replicate l.toArray.size false) k=lk tm:=by
  intro k
  induction k with
  | zero=>rfl
  | succ k ih=>simp only [vf,ih];rw [if_neg (by rw [hf k];simp)]
 have O2:rn tk (Array.replicate l.toArray.size false) Rc=H0:=by
  rw [← Dk]
  unfold rn Jq
  have e:tk.filter (xq (Array.replicate l.toArray.size false))=tk.filter (fun t=>t.prod.isNone):=by
   apply List.filter_congr
   intro t ht
   unfold xq
   cases t.prod with
   | none=>
     cases t.cons with
     | none=>rfl
     | some c=>simp only [hf c,Bool.not_false,Bool.and_self,Option.isNone]
   | some p=>simp only [hf p,Bool.false_and,Option.isNone]
  rw [e]
 have o0:=Sx.perm
 have YL:cG {w with drawn:=w.drawn+1} S (rn tk (Array.replicate l.toArray.size false) Rc++B):=by
  rw [O2];exact (r.hp.ext AW).perm o0
 have YM:lz w S hp {w with drawn:=w.drawn+1} S (rn tk (Array.replicate l.toArray.size false) Rc++B):=by
  rw [O2]
  have:=lz.ext (h:=hp) r.hp.slt AW
  exact {this with new:=fun k hk=>this.new k (by
   obtain ⟨x,hx,hb⟩:=hk
   exact ⟨x,o0.mem_iff.2 hx,hb⟩)}
 refine HU (P:=P) (all:=l.toArray) (n:=n) (m:=m) (mK:=mK) (en:=en) (cn:=cn) (e:=lk tm) (V:=V) (B:=B) (tk:=tk) hB hT (F7 hA (Bool.and_eq_true_iff.1 UC).2) lx e0 (fun β s=>by rw [YK];rfl) ?_ ?_ ?_ (w0:=w) (S0:=S) (Ra:=hp) ?_ l.toArray.size (Array.replicate l.toArray.size false) a _ S Rc
  ⟨by simp,(fun k hk=>by rw [hf k] at hk;cases hk),(fun k i o hk=>by rw [hf k] at hk;cases hk)⟩ (by simp [List.count_replicate]) r.size r.defers YL YM (by rw [NY];exact (r.ext AW).tm) (fun j o d hj=>by rw [hf j] at hj;cases hj)
 ·intro i o hi ho β
  obtain ⟨x,W,d1,d2,d3⟩:=hD i hi
  have:=e3 i o x W (Js i o hi ho) d1
  rw [Nat.zero_add] at this
  rw [d2,d3,this.2.2.2.2];rfl
 ·intro i o hi ho
  obtain ⟨x,W,d1,d2,d3⟩:=hD i hi
  have:=e3 i o x W (Js i o hi ho) d1
  rw [Nat.zero_add] at this
  rw [d2,d3]
  exact ⟨this.1,this.2.1,this.2.2.1⟩
 ·intro i j oi oj d hi hj x3 zD K2 rk Dr
  obtain ⟨x,W,d1,d2,d3⟩:=hD i hi
  have:=e3 i oi x W (Js i oi hi zD) d1
  rw [Nat.zero_add] at this
  exact F9 YI (this.2.2.2.1 (by rw [← d2];exact rk)) x3 (Js i oi hi zD) (Js j oj hj K2) Dr
 ·intro β a' w' S' h1 h2 h3 h4 h5 h6
  have Sm:l.toArray.toList.drop m=tl:=by
   simp only [hl,← HJ]
   exact List.drop_left
  rw [Sm]
  rw [og (Sy β)] at h3 h4
  rw [e1] at h5
  refine jP ?_ _ _ _ ((xk β).go (h:=hp) (w:=w) (S:=S) ⟨h1,h2,fun s av LQ=>?_,h3⟩ h4)
  ·rintro ex a2 w2 ⟨rfl,GS,S2,q1,q2,q3⟩
   exact ⟨GS,S2,q1,q2,q3⟩
  ·rcases Jr _ _ _ _ LQ with LQ | LQ
   ·rcases x7 β hd D 0 [] s av LQ with LQ | ⟨j,o,W,g1,g2,g3,g4⟩
    ·cases LQ
    ·have hj:j < m:=by rw [← HJ];exact (List.getElem?_eq_some_iff.1 g1).1
     obtain ⟨x,W',d1,d2,d3⟩:=hD j hj
     rw [g2] at d1
     obtain ⟨rfl,rfl⟩:=Prod.mk.inj (Option.some.inj d1)
     have K2:l.toArray[j]? =some o:=by
      have:l[j]? =some o:=by rw [hl,List.getElem?_append_left (by omega)];exact g1
      simpa using this
     obtain ⟨v,k1,k2⟩:=h6 j o s hj K2 d2 g3
     rw [d3] at k2
     rw [g4,Nat.zero_add]
     exact ⟨v,k1,k2⟩
   ·exact h5 s av LQ
def Jt {α:Type}:List α→List α→Option (List α)
 | [],r=>some r
 | x :: l,r=>match Jt l r with
   | some m=>some (x :: m)
   | none=>none
theorem G7 {α:Type}:∀ {l r m:List α},Jt l r=some m→l++r=m
 | [],r,m,h=>by simpa [Jt] using h
 | x :: l,r,m,h=>by
   simp only [Jt] at h
   split at h
   ·rename_i m' hm
    obtain rfl:=Option.some.inj h
    rw [List.cons_append,G7 hm]
   ·cases h
theorem AT.qS {P:Program} {all:Array Oper} {n:Nat} {B:Heap} {tk:List Tok} {dy:List Nat} {i:Nat} {tm:List (Nat×AV)} {acc F:(Nat→Bk)→List (Nat×AV)} {Q:(Nat→Bk)→List (Nat×AV)→Prop} (hF:∀ β,Jt (acc β) tm=some (F β)) (h:∀ β,Q β (F β)):AT P all n B tk dy i [] tm acc Q:=
 AT.nil (fun β=>(G7 (hF β)).symm) h
theorem CH {w:World} {S:Nat→Prop} {hp de:Heap} {b:Bk} {cs od:List AV} (r:cG w S hp) (u:nA hp b (.cells cs) b (.cells od) de) (hl:od.length=cs.length) (h1:∀ c∈od,c.one=true) (tJ:∀ (i:Nat) c c' v,cs[i]? =some c→od[i]? =some c'→At w S c v→At w S c' v):cG w S de∧lz w S hp w S de:=by
 obtain ⟨pre,post,e1,e2⟩:=u.split
 subst e1;subst e2
 have hblk:∀ n,Has (pre++(b,Ob.cells od) :: post) n↔Has (pre++(b,Ob.cells cs) :: post) n:=by
  intro n
  constructor<;>rintro ⟨x,hx,hb⟩<;>rcases bl.1 hx with rfl | hx
  ·exact ⟨(b,.cells cs),bl.2 (.inl rfl),hb⟩
  ·exact ⟨x,bl.2 (.inr hx),hb⟩
  ·exact ⟨(b,.cells od),bl.2 (.inl rfl),hb⟩
  ·exact ⟨x,bl.2 (.inr hx),hb⟩
 refine ⟨⟨?_,?_,?_,r.slt,r.jt⟩,⟨rfl,rfl,rfl,Nat.le_refl _,fun n hn=>⟨hn,rfl⟩,fun n _ _=>⟨rfl,id⟩,fun n hn=>.inl ((hblk n).1 hn),fun _=>Nat.le_refl _⟩⟩
 ·have:=r.nodup
  simpa [List.flatMap_append,List.flatMap_cons,eb,Ob.more] using this
 ·intro x hx
  rcases bl.1 hx with rfl | hx
  ·obtain ⟨h0,n,vs,E,g1,g2,g3,g4⟩:=r.holds (b,.cells cs) (bl.2 (.inl rfl))
   refine ⟨h1,n,vs,E,g1,g2,by rw [hl];exact g3,fun i c v hc hv=>?_⟩
   have hi:i < cs.length:=by rw [← hl];exact (List.getElem?_eq_some_iff.1 hc).1
   have K6:cs[i]? =some cs[i]:=by simp [hi]
   exact tJ i cs[i] c v K6 hc (g4 i _ v K6 hv)
  ·exact r.holds x (bl.2 (.inr hx))
 ·intro x hx n hn
  rcases bl.1 hx with rfl | hx
  ·have:=r.sep (b,.cells cs) (bl.2 (.inl rfl)) n hn
   exact ⟨fun h=>(this.1 h).elim,fun h=>h.elim⟩
  ·exact r.sep x (bl.2 (.inr hx)) n hn
theorem aj.Nj {n j:Nat} {tm:List (Nat×AV)} {hp de:Heap} {T:St→Prop} {b:Bk} {cs od:List AV} {av bZ:AV} (u:nA hp b (.cells cs) b (.cells od) de) (hj:cs[j]? =some av) (c:Co hp av bZ) (hc:oY (cs.set j bZ)=some od) (h1:kQ od=true) (k:aj ⟨n,tm,de⟩ T):aj ⟨n,tm,hp⟩ T:=by
 refine aj.step (De:=⟨n,tm,de⟩) (fun w S a r=>?_) k
 have e:=jQ hc
 obtain ⟨g1,g2⟩:=CH r.hp u (by rw [← e];simp) (dp h1) (fun i c1 c2 v K7 Ju tJ=>by
  rw [← e] at Ju
  by_cases x3:j=i
  ·subst x3
   rw [List.getElem?_set_self (List.getElem?_eq_some_iff.1 hj).1] at Ju
   obtain rfl:=Option.some.inj Ju
   rw [hj] at K7
   obtain rfl:=Option.some.inj K7
   exact c.at r.hp tJ
  ·rw [List.getElem?_set_ne x3,K7] at Ju
   obtain rfl:=Option.some.inj Ju
   exact tJ)
 exact ⟨_,S,rfl,⟨r.size,r.defers,r.tm,g1⟩,g2⟩
theorem aj.sr {n j:Nat} {tm:List (Nat×AV)} {hp:Heap} {de:Bk→Heap} {T:St→Prop} {b:Bk} {cs:List AV} {od:Bk→List AV} (sz:Nat) (u:∀ q,nA hp b (.cells cs) b (.cells (od q)) (de q)) (hj:cs[j]? =some .nil) (hc:∀ q,oY (cs.set j (.sl sz q 0 0))=some (od q)) (h1:∀ q,kQ (od q)=true)
 (k:∀ q,aj ⟨n,tm,(q,.arr sz []) :: de q⟩ T):aj ⟨n,tm,hp⟩ T:=by
 refine aj.step (De:=⟨n,tm,(⟨none,0⟩,.arr sz []) :: de ⟨none,0⟩⟩) (fun w S a r=>?_) (k ⟨none,0⟩)
 have e:=jQ (hc ⟨none,0⟩)
 obtain ⟨g1,g2⟩:=CH r.hp (u ⟨none,0⟩) (by rw [← e];simp) (dp (h1 _)) (fun i c1 c2 v K7 Ju tJ=>by
  rw [← e] at Ju
  by_cases x3:j=i
  ·subst x3
   rw [List.getElem?_set_self (List.getElem?_eq_some_iff.1 hj).1] at Ju
   obtain rfl:=Option.some.inj Ju
   rw [hj] at K7
   obtain rfl:=Option.some.inj K7
   cases tJ
   exact .B0 sz _ rfl
  ·rw [List.getElem?_set_ne x3,K7] at Ju
   obtain rfl:=Option.some.inj Ju
   exact tJ)
 obtain ⟨q1,q2,q3⟩:=wk (b:=⟨none,0⟩) (o:=.arr sz []) g1 (Ext.refl w) id ⟨by simp,by simp,.inl ⟨rfl,rfl⟩⟩ (.inl rfl)
 exact ⟨_,S,rfl,⟨r.size,r.defers,r.tm,q1⟩,g2.trans q2⟩
section rules
variable {P:Program} {all:Array Oper} {rest:List Oper} {n:Nat} {tm:List (Nat×AV)} {hp:Heap} {Q:St→Prop} {d:Nat} {ty:TypeId} {pos:String} {af:Array Edge}
theorem yZ {t:TypeId} {D:TypeDesc} {i:TypeInfo} {x:Operand} {b:Bk} {sz q o:Nat} {xs od:List AV} {el:AV} [aD P t D] [aX P t i] (hD:TypeDesc.iA D=true) (hx:cZ tm x=some (.pB sz b q o)) (f:mr hp b (.arr sz xs)∨mr hp b (.yM sz xs))
 (hq:xs[q]? =some el) (ho:Nat.ble (o+i.size) el.cells.length=true) (Dh:oY ((el.cells.drop o).take i.size)=some od):QV P ⟨some d,.load t x,ty,pos,af,none⟩ ⟨n,tm,hp⟩ (.agg od):=
 (fun w S a r=>by
  have F3:=jQ Dh
  have ho:=Nat.le_of_ble_eq_true ho
  obtain ⟨m,h1,h2⟩:=(bj (σ:=⟨n,tm,hp⟩) r hx).tP
  obtain ⟨g0,g1,⟨g2,_⟩ | ⟨m',vs,E,g2,g3,g4,g5⟩⟩:=pL r.hp f
  ·rw [g2] at h1;cases h1
  ·obtain rfl:m'=m:=by rw [g2] at h1;exact Option.some.inj h1
   have xX:=g0 el (List.mem_of_getElem? hq)
   have BV:el.cells.length=sz:=xX.1
   have Sa:q < xs.length:=(List.getElem?_eq_some_iff.1 hq).1
   have hmul:(q+1) * sz≤b.cap * sz:=Nat.mul_le_mul_right _ (by omega)
   rw [Nat.add_mul,Nat.one_mul] at hmul
   have hlen:((vs.toList.drop (q * sz+o)).take i.size).length=i.size:=by simp;omega
   refine ⟨.agg ((vs.toList.drop (q * sz+o)).take i.size).toArray,fun w1 ex=>?_,.agg _ _ (by rw [← F3];simp;omega) (fun j c v hc hv=>?_)⟩
   ·have:=iU (P:=P) (aD.h (P:=P) (t:=t)) hD (aX.h (P:=P) (t:=t)) (w:=w1) (ad:=⟨m',q * sz+o,none⟩) (vs:=(vs.toList.drop (q * sz+o)).take i.size) hlen (fun j v hv=>by
     rw [mu,oc (ex.at g3)]
     simp only [List.getElem?_take,List.getElem?_drop] at hv
     split at hv
     ·simpa using hv
     ·cases hv)
    simp [execOp,h2,Instr.loadAt,Instr.sureAddr,this]
   ·simp only [List.getElem?_toArray,List.getElem?_take,List.getElem?_drop] at hv
    split at hv
    ·rename_i lA
     rw [← F3,List.getElem?_take,if_pos lA,List.getElem?_drop] at hc
     have hf:=qo g0 hq (o+j) (by omega)
     rw [hc] at hf
     exact g5 _ c v hf (by rw [← Nat.add_assoc];simpa using hv)
    ·cases hv)
theorem y5 {α:Type} {g:α→AV} {Xs:List α} {el:α} {j:Int} {t:TypeId} {D:TypeDesc} {i:TypeInfo} {x:Operand} {b:Bk} {sz o:Nat} {od:List AV} [aD P t D] [aX P t i] (hD:TypeDesc.iA D=true) (hx:cZ tm x=some (.pB sz b j.toNat o)) (f:mr hp b (.arr sz (Xs.map g))∨mr hp b (.yM sz (Xs.map g)))
 (hv:idx Xs j=some el) (ho:Nat.ble (o+i.size) (g el).cells.length=true) (Dh:oY (((g el).cells.drop o).take i.size)=some od):QV P ⟨some d,.load t x,ty,pos,af,none⟩ ⟨n,tm,hp⟩ (.agg od):=
 yZ hD hx f (Aw hv) ho Dh
theorem LR {t e yt:TypeId} {x y:Operand} {sz:Nat} {xs:List AV} [aD P t (.slice e)] (hx:cZ tm x=some (.list sz xs)) (hy:cZ tm y=some .nil) (h0:Nat.blt 0 sz=true) (hn:Nat.blt d n=true)
 (kk:∀ c:Bool,(c=true→xs=[])→ah P all rest ⟨n,(d,.bool c) :: tm,hp⟩ Q):ah P all (⟨some d,.binOp .eql t x y yt,ty,pos,af,none⟩ :: rest) ⟨n,tm,hp⟩ Q:=by
 refine ah.M0 rfl fun w S a r=>?_
 obtain ⟨oa,cap,vs,e1,e2,e3,e4,e5,e6⟩:=(bj (σ:=⟨n,tm,hp⟩) r hx).xT
 have e7:=(bj (σ:=⟨n,tm,hp⟩) r hy).Dg
 refine ⟨.bool oa.isNone,w,S,⟨n,(d,.bool oa.isNone) :: tm,hp⟩,?_,r.put hn (.bool _),lz.refl _ _ _,kk _ (fun hc=>?_)⟩
 ·have h2:(Op.equal t (.slice oa xs.length cap) (.slice none 0 0)).run P w=.ok oa.isNone w:=by
   show (Op.equalIn (9999+1) t _ _).run P w=_
   rw [Op.equalIn]
   cases oa with
   | none=>simp [run_underlying (aD.h (P:=P) (t:=t))]
   | some ad=>simp [run_underlying (aD.h (P:=P) (t:=t))]
  have h3:(binOp .eql t (.slice oa xs.length cap) (.slice none 0 0)).run P w=.ok (.bool oa.isNone) w:=by
   rw [show binOp .eql t (.slice oa xs.length cap) (.slice none 0 0)=(do pure (.bool (← Op.equal t (.slice oa xs.length cap) (.slice none 0 0)))) from rfl]
   simp [h2]
  simp [execOp,e1,e7,eqGuard_at_slice,h3]
 ·have YN:oa=none:=by simpa using hc
  have YO:vs=[]:=by
   cases vs with
   | nil=>rfl
   | cons v vs=>
     obtain ⟨ad,h1,_⟩:=e5 0 v rfl
     rw [YN] at h1;cases h1
  rw [YO,cQ e2] at e3
  have YP:0 < sz:=by simpa using h0
  have:xs.length=0:=by
   rcases Nat.eq_zero_or_pos xs.length with h | h
   ·exact h
   ·have:=Nat.mul_pos h YP;simp at e3;omega
  exact List.length_eq_zero_iff.1 this
end rules
theorem Dy {α:Type} {p r:List α} (h:app [] p=some r) (hp:p=[]):r=[]:=by
 subst hp
 obtain ⟨_,e⟩:=EF h
 simpa using e
end Go.Eng
