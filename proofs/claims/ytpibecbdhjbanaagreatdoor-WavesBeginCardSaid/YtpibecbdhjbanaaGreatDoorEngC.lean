/- The engine: abstract values, the symbolic heap, one rule for each operation. No program in sight. -/
import Derived.Test.YtpibecbdhjbanaaGreatDoorEngB
import Derived.Laws.StructEq
import Derived.Below
set_option linter.unusedVariables false
set_option linter.unusedSectionVars false
namespace Go.Eng
open Go
variable [bD]
abbrev bq:=List UInt8
def P4 {α:Type} (sz:Nat) (g:α→AV) (l:List α):AV:=.list sz (l.map g)
section rules
variable {P:Program} {all:Array Oper} {rest:List Oper} {n:Nat} {tm:List (Nat×AV)} {hp:Heap} {Q:St→Prop} {d:Nat} {ty:TypeId} {pos:String} {af:Array Edge}
theorem iX {x:Operand} {t e:TypeId} {sz len:Nat} {b:Bk} [ax P t (.slice e)] (hx:cx tm x=some (.sl sz b 0 len)):QV P ⟨some d,.call {callee:=.builtin .len,args:=#[x],argTypes:=#[t]},ty,pos,af,none⟩ ⟨n,tm,hp⟩ (.int .i64 (len:Nat)):=Bm hx
theorem aQ {α:Type} {Xs:List α} {el:α} {t e:TypeId} {i:TypeInfo} {x y:Operand} {k:IntKind} {j:Int} {sz:Nat} {b:Bk} [ax P t (.slice e)] [aV P e i] (hx:cx tm x=some (.sl sz b 0 Xs.length)) (hJ:Nat.beq i.size sz=true) (hy:cx tm y=some (.int k j))
 (hv:idx Xs j=some el):QV P ⟨some d,.indexAddr t x y,ty,pos,af,none⟩ ⟨n,tm,hp⟩ (.nP sz b j.toNat 0):=by
 obtain ⟨h0,h1,_⟩:=gK hv
 have h:=xm (P:=P) (d:=d) (ty:=ty) (pos:=pos) (af:=af) (n:=n) (tm:=tm) (hp:=hp) (t:=t) (e:=e) hx hJ hy ⟨h0,h1⟩
 rw [Nat.zero_add] at h
 exact h
theorem lp {α:Type} {g:α→AV} {Xs:List α} {el:α} {j:Int} (hv:idx Xs j=some el):(Xs.map g)[j.toNat]? =some (g el):=by
 rw [List.getElem?_map,(gK hv).2.2];rfl
theorem cN {α:Type} {g:α→AV} {Xs:List α} {el:α} {j:Int} {t:TypeId} {D:TypeDesc} {x:Operand} {b:Bk} {sz o:Nat} {av:AV} [ax P t D] (hD:TypeDesc.iG D=false) (hx:cx tm x=some (.nP sz b j.toNat o)) (f:ki hp b (.arr sz (Xs.map g))∨ki hp b (.wD sz (Xs.map g)))
 (hv:idx Xs j=some el) (ho:(g el).cells[o]? =some av):QV P ⟨some d,.load t x,ty,pos,af,none⟩ ⟨n,tm,hp⟩ av:=
 Br hD hx f (lp hv) ho
theorem bj {α:Type} {g:α→AV} {Xs:List α} {el:α} {j:Int} {t:TypeId} {D:TypeDesc} {i:TypeInfo} {x:Operand} {b:Bk} {sz:Nat} {cs:List AV} [ax P t D] [aV P t i] (hD:TypeDesc.iG D=true) (hx:cx tm x=some (.nP sz b j.toNat 0)) (f:ki hp b (.arr sz (Xs.map g))∨ki hp b (.wD sz (Xs.map g))) (hJ:Nat.beq i.size sz=true)
 (hv:idx Xs j=some el) (hc:g el=.agg cs):QV P ⟨some d,.load t x,ty,pos,af,none⟩ ⟨n,tm,hp⟩ (.agg cs):=
 wG hD hx f hJ (by rw [lp (g:=g) hv,hc])
theorem An {α:Type} {g:α→AV} {Xs Zs:List α} {t e:TypeId} {i:TypeInfo} {x:Operand} {lo hi:Option Operand} {l h:Option Int} {sz:Nat} {L H:Int} [ax P t (.slice e)] [aV P e i] (hx:cx tm x=some (.list sz (Xs.map g))) (hJ:Nat.beq i.size sz=true) (hl:CW tm lo l) (hh:CW tm hi h)
 (eL:fg l=L) (eH:fM Xs.length h=H) (hv:vu Xs L H=some Zs):QV P ⟨some d,.slice t x lo hi none,ty,pos,af,none⟩ ⟨n,tm,hp⟩ (.list sz (Zs.map g)):=by
 obtain ⟨⟨h0,h1,h2⟩,rfl⟩:=pS hv
 subst eL;subst eH
 have:=Ah (P:=P) (d:=d) (ty:=ty) (pos:=pos) (af:=af) (n:=n) (tm:=tm) (hp:=hp) (t:=t) (e:=e) (xs:=Xs.map g) hx hJ hl hh h0 (by simpa using h1) (by simpa using h2)
 simpa [List.map_take,List.map_drop] using this
theorem BG {t:TypeId} {x:Operand} {lo hi:Option Operand} {l h:Option Int} {s zs:List UInt8} {L H:Int} [ax P t .string] (hx:cx tm x=some (.str s)) (hl:CW tm lo l) (hh:CW tm hi h) (eL:fg l=L) (eH:fM s.length h=H) (hv:vu s L H=some zs):
 QV P ⟨some d,.slice t x lo hi none,ty,pos,af,none⟩ ⟨n,tm,hp⟩ (.str zs):=by
 obtain ⟨⟨h0,h1,h2⟩,rfl⟩:=pS hv
 subst eL;subst eH
 exact Bw hx hl hh h0 h1 h2
def pT:Heap→Heap→Option Heap
 | [],r=>some r
 | x :: l,r=>match pT l r with
   | some m=>some (x :: m)
   | none=>none
theorem lV:∀ {l r m:Heap},pT l r=some m→l++r=m
 | [],r,m,h=>by simpa [pT] using h
 | x :: l,r,m,h=>by
   simp only [pT] at h
   split at h
   ·rename_i m' hm
    obtain rfl:=Option.some.inj h
    rw [List.cons_append,lV hm]
   ·cases h
def T0 (H:Heap) (V:AV):AV→Heap→Prop:=fun v h=>h=H∧v=V
def T1 {wh:Type} (H:wh→Heap) (V:wh→AV):AV→Heap→Prop:=fun v h=>∃ b,h=H b∧v=V b
theorem aZ {f:FuncId} {args:List Operand} {ts:Array TypeId} {l l':List AV} {h0 hr H H':Heap} {V:AV} [bw P f] (hl:wZ tm args=some l) (c:aF P f l' h0 (T0 H V)) (co:vk hp l l') (hs:BF hp h0 hr) (ha:pT H hr=some H') (hn:Nat.blt d n=true)
 (kk:ae P all rest ⟨n,(d,V) :: tm,H'⟩ Q):ae P all (⟨some d,.call {callee:=.value (.func f),args:=args.toArray,argTypes:=ts},ty,pos,af,none⟩ :: rest) ⟨n,tm,hp⟩ Q:=
 xz hl c co hs hn (fun r h' ⟨e1,e2⟩=>by subst e1;subst e2;rw [lV ha];exact kk)
theorem ow {wh:Type} {f:FuncId} {args:List Operand} {ts:Array TypeId} {l l':List AV} {h0 hr:Heap} {H H':wh→Heap} {V:wh→AV} [bw P f] (hl:wZ tm args=some l) (c:aF P f l' h0 (T1 H V)) (co:vk hp l l') (hs:BF hp h0 hr) (ha:∀ b,pT (H b) hr=some (H' b)) (hn:Nat.blt d n=true)
 (kk:∀ b,ae P all rest ⟨n,(d,V b) :: tm,H' b⟩ Q):ae P all (⟨some d,.call {callee:=.value (.func f),args:=args.toArray,argTypes:=ts},ty,pos,af,none⟩ :: rest) ⟨n,tm,hp⟩ Q:=
 xz hl c co hs hn (fun r h' ⟨b,e1,e2⟩=>by subst e1;subst e2;rw [lV (ha b)];exact kk b)
end rules
theorem Co.Da {hp:Heap} {α:Type} {g:α→AV} {Xs:List α} {sz:Nat} {b:Bk} (f:ki hp b (.wD sz (Xs.map g))):Co hp (.sl sz b 0 Xs.length) (.list sz (Xs.map g)):=.wD sz b _ _ f (by simp)
theorem ln.kL {hp:Heap} {α:Type} {g:α→AV} {Xs:List α} {sz:Nat} {b:Bk} (f:ki hp b (.arr sz (Xs.map g))):ln hp (.sl sz b 0 Xs.length) (.list sz (Xs.map g)):=.arr sz b _ _ f (by simp)
section rules
variable {P:Program} {all:Array Oper} {rest:List Oper} {n:Nat} {tm:List (Nat×AV)} {hp:Heap} {Q:St→Prop} {d:Nat} {ty:TypeId} {pos:String} {af:Array Edge}
theorem ox {x:Operand} {s:TypeId} {j off:Nat} {sz:Nat} {b:Bk} {q o o':Nat} [lN P s j off] (hx:cx tm x=some (.nP sz b q o)) (ho:o+off=o'):QV P ⟨some d,.fieldAddr s x j,ty,pos,af,none⟩ ⟨n,tm,hp⟩ (.nP sz b q o'):=by
 subst ho
 exact Ac hx
theorem yR {t:TypeId} {i:TypeInfo} {x y:Operand} {b:Bk} {sz q o:Nat} {xs:List AV} {av el vv:AV} {bU:Heap} [aV P t i] (hx:cx tm x=some (.nP sz b q o)) (hy:cx tm y=some av) (h1:iV av.cells=true) (hJ:Nat.beq av.cells.length i.size=true)
 (u:jY hp b (.arr sz xs) b (.arr sz (xs.set q vv)) bU) (hq:xs[q]? =some el) (IV:vv.cells=kP el.cells o av.cells) (ho:Nat.ble (o+av.cells.length) el.cells.length=true) (kk:ae P all rest ⟨n,tm,bU⟩ Q):ae P all (⟨none,.store t x y,ty,pos,af,none⟩ :: rest) ⟨n,tm,hp⟩ Q:=by
 refine ae.act rfl rfl (aC:=⟨n,tm,bU⟩) (fun w S a r=>?_) kk
 obtain ⟨m,e1,e2⟩:=(bf (σ:=⟨n,tm,hp⟩) r hx).rV
 obtain ⟨g0,g1,⟨g2,_⟩ | ⟨m',vs,E,g2,g3,g4,g5⟩⟩:=oG r.hp (.inl u.nU)
 ·rw [g2] at e1;cases e1
 obtain rfl:m'=m:=by rw [g2] at e1;exact Option.some.inj e1
 have hv:=bf (σ:=⟨n,tm,hp⟩) r hy
 obtain ⟨hl,nQ⟩:=pO hv (cL h1)
 have CV:=cL h1
 have hJ:=Nat.eq_of_beq_eq_true hJ
 have ho:=Nat.le_of_ble_eq_true ho
 clear h1 hv hy
 generalize av.cells=nc at *
 generalize Jc:el.cells=cs at *
 have hle:o+nc.length≤cs.length:=ho
 have uj:=g0 el (List.mem_of_getElem? hq)
 have yH:cs.length=sz:=by rw [← Jc];exact uj.1
 have RG:q < xs.length:=(List.getElem?_eq_some_iff.1 hq).1
 have hmul:(q+1) * sz≤xs.length * sz:=Nat.mul_le_mul_right _ (by omega)
 have zk:xs.length * sz≤b.cap * sz:=Nat.mul_le_mul_right _ g1
 rw [Nat.add_mul,Nat.one_mul] at hmul
 have rk:=uv hl nQ CV
 have Bq:=run_storeCells_at (P:=P) m' (q * sz+o) E (a.eval y).cells.toList 0 vs w g3 (by simp;omega) rk
 simp only [Nat.add_zero] at Bq
 have Gw:(a.eval y).cells.size=i.size:=by rw [← hl];exact hJ
 have DY:=cA g0
 have KD:El sz vv:=by
  refine ⟨by rw [IV];simp [kP];omega,fun c hc=>?_⟩
  rw [IV] at hc
  simp only [kP,List.mem_append] at hc
  rcases hc with (hc | hc) | hc
  ·exact uj.2 c (by rw [Jc];exact List.mem_of_mem_take hc)
  ·exact CV c hc
  ·exact uj.2 c (by rw [Jc];exact List.mem_of_mem_drop hc)
 have BH:flat (xs.set q vv)=(flat xs).take (q * sz+o)++nc++(flat xs).drop (q * sz+o+nc.length):=by
  rw [Bx g0 KD hq]
  rw [IV];simp only [kP]
  have CX:cs=((flat xs).drop (q * sz)).take sz:=by
   apply List.ext_getElem?
   intro j
   by_cases hj:j < sz
   ·have:=oO g0 hq j hj
    rw [List.getElem?_take,if_pos hj,List.getElem?_drop,this,Jc]
   ·rw [List.getElem?_eq_none (by omega),List.getElem?_eq_none (by simp;omega)]
  have e1:cs.take o=((flat xs).drop (q * sz)).take o:=by rw [CX,List.take_take,Nat.min_eq_left (by omega)]
  have e2:cs.drop (o+nc.length)=(((flat xs).drop (q * sz+o+nc.length)).take (sz - (o+nc.length))):=by
   rw [CX,List.drop_take,List.drop_drop]
   rw [show q * sz+(o+nc.length)=q * sz+o+nc.length from by omega]
  rw [e1,e2]
  have e3:(flat xs).take (q * sz+o)=(flat xs).take (q * sz)++((flat xs).drop (q * sz)).take o:=by rw [List.take_add]
  rw [e3]
  have e4:(flat xs).drop (q * sz+o+nc.length)=((flat xs).drop (q * sz+o+nc.length)).take (sz - (o+nc.length))++(flat xs).drop (q * sz+sz):=by
   conv=>lhs;rw [← List.take_append_drop (sz - (o+nc.length)) ((flat xs).drop (q * sz+o+nc.length))]
   rw [List.drop_drop,show q * sz+o+nc.length+(sz - (o+nc.length))=q * sz+sz from by omega]
  conv=>rhs;rw [e4]
  simp only [List.append_assoc]
 have GR:=fun (w':World) (ha:mA w' S (flat xs) vs) (hb:mA w' S nc (a.eval y).cells)=>D3 (q * sz+o) (by rw [DY,g4];exact zk) ha hl hb (by omega)
 have GS:(vs.toList.take (q * sz+o)++(a.eval y).cells.toList++vs.toList.drop (q * sz+o+(a.eval y).cells.toList.length)).toArray.size=b.cap * sz:=by
  simp;omega
 generalize (vs.toList.take (q * sz+o)++(a.eval y).cells.toList++vs.toList.drop (q * sz+o+(a.eval y).cells.toList.length)).toArray=yM at Bq GR GS
 have c:GB w (w.setRow m' yM) b.bY:=⟨⟨rfl,rfl,rfl,by simp,fun k hk wV=>setRow_other w m' k _ (fun e=>wV (by rw [e1,e]))⟩,fun _=>Nat.le_refl _⟩
 have k1:∀ n,S n→S n∧(w.setRow m' yM).heap[n]? =w.heap[n]?:=by
  intro k hk
  refine ⟨hk,setRow_other w m' k _ (fun e=>?_)⟩
  subst e
  exact (r.hp.sep _ u.nU.mem k (iN e1)).1 hk
 have hh:=sD r.hp u c id id ⟨?_,by simpa using g1,.inr ⟨m',yM,E,e1,setRow_heap w m' vs _ E _ g3,GS,by rw [BH];exact GR _ (g5.mono k1) (nQ.mono k1)⟩⟩ (.inl rfl)
 ·refine ⟨w.setRow m' yM,S,?_,r.heap hh.2.2 hh.1,hh.2.1⟩
  simp [execOp,e2,Instr.storeAt,Instr.sureAddr,storeVar,sizeOf,typeInfo,aV.h (P:=P) (t:=t),Gw,Bq]
 ·intro z hz
  rcases List.mem_or_eq_of_mem_set hz with h | rfl
  ·exact g0 z h
  ·exact KD
theorem bQ {α:Type} {g:α→AV} {Xs:List α} {el vv:α} {j:Int} {t:TypeId} {i:TypeInfo} {x y:Operand} {b:Bk} {sz o:Nat} {av:AV} {bU:Heap} [aV P t i] (hx:cx tm x=some (.nP sz b j.toNat o)) (hy:cx tm y=some av) (h1:iV av.cells=true) (hJ:Nat.beq av.cells.length i.size=true)
 (hv:idx Xs j=some el) (IV:(g vv).cells=kP (g el).cells o av.cells) (u:jY hp b (.arr sz (Xs.map g)) b (.arr sz ((Xs.set j.toNat vv).map g)) bU) (ho:Nat.ble (o+av.cells.length) (g el).cells.length=true) (kk:ae P all rest ⟨n,tm,bU⟩ Q):
 ae P all (⟨none,.store t x y,ty,pos,af,none⟩ :: rest) ⟨n,tm,hp⟩ Q:=by
 refine yR (xs:=Xs.map g) (el:=g el) (vv:=g vv) hx hy h1 hJ ?_ (lp hv) IV ho kk
 rw [List.map_set] at u
 exact u
end rules
theorem lW {α:Type} {xs:List α} {i:Int} {el v:α} (h:idx xs i=some el):idx (xs.set i.toNat v) i=some v:=by
 obtain ⟨h0,h1,_⟩:=gK h
 unfold idx;rw [if_pos h0,List.getElem?_set_self (by omega)]
theorem bZ.hs {w:World} {S:Nat→Prop} {h h':Heap} (r:bZ w S h) (s:HS h h'):bZ w S h':=by
 obtain ⟨q,hq⟩:=s.perm
 exact (r.perm hq).sub (List.sublist_append_left _ _)
theorem Has.hs {h h':Heap} (s:HS h h') {n:Nat} (hh:Has h' n):Has h n:=by
 obtain ⟨q,hq⟩:=s.perm
 obtain ⟨e,he,hb⟩:=hh
 exact ⟨e,hq.mem_iff.2 (List.mem_append_left _ he),hb⟩
theorem aF.ia {P:Program} {f:FuncId} {args:List AV} {h:Heap} {Q:AV→Heap→Prop} (c:aF P f args h (fun r h1=>∃ h',HS h1 h'∧Q r h')):aF P f args h Q:=
 fun w S vs r hl ha=>(c w S vs r hl ha).mono fun _ _ ⟨v,r,_,S',h1,⟨h',hs,hq⟩,h3,h4,h5⟩=>⟨v,r,h',S',h1,hq,h3,h4.hs hs,h5.less fun _ hn=>hn.hs hs⟩
theorem aj.eqs {n s:Nat} {tm:List (Nat×AV)} {hp:Heap} {T:St→Prop} {av ep:AV} (hs:lk tm s=some av) (he:ep=av) (k:aj ⟨n,(s,ep) :: tm,hp⟩ T):aj ⟨n,tm,hp⟩ T:=by
 subst he
 exact aj.co hs (.refl _) k
theorem zm {hp bU:Heap} {b:Bk} {o:Ob} (u:jY hp b o b o bU):bU=hp:=by
 generalize hb:b=b',ho:o=o' at u
 have:∀ {h h':Heap} {b b':Bk} {o o':Ob},jY h b o b' o' h'→b=b'→o=o'→h'=h:=by
  intro h h' b b' o o' u
  induction u with
  | here=>rintro rfl rfl;rfl
  | next _ ih=>intro e1 e2;rw [ih e1 e2]
  | skip _ ih=>intro e1 e2;rw [ih e1 e2]
 subst hb ho
 exact this u rfl rfl
theorem aj.BI {n j:Nat} {tm:List (Nat×AV)} {hp bU:Heap} {T:St→Prop} {b:Bk} {cs kI:List AV} {av ep:AV} (u:jY hp b (.cells cs) b (.cells kI) bU) (hj:cs[j]? =some av) (he:ep=av) (hc:oP (cs.set j ep)=some kI) (k:aj ⟨n,tm,bU⟩ T):aj ⟨n,tm,hp⟩ T:=by
 subst he
 have CX:cs.set j ep=cs:=by
  apply List.ext_getElem?
  intro i
  by_cases hi:j=i
  ·subst hi
   have iO:=(List.getElem?_eq_some_iff.1 hj).1
   rw [List.getElem?_set_self iO,hj]
  ·rw [List.getElem?_set_ne hi]
 rw [CX] at hc
 obtain rfl:=jw hc
 rw [zm u] at k
 exact k
theorem om {p:Prop} [Decidable p] {x:Bool} (h:p):(decide p&&x)=x:=by simp [h]
theorem oo {p:Prop} [Decidable p] {x:Bool} (h:¬ p):(decide p&&x)=false:=by simp [h]
theorem uz {p:Prop} [Decidable p] {x:Bool} (h:p):(decide p||x)=true:=by simp [h]
theorem uA {p:Prop} [Decidable p] {x:Bool} (h:¬ p):(decide p||x)=x:=by simp [h]
theorem D6 {b x:Bool} (h:b=true):(b&&x)=x:=by simp [h]
theorem D7 {b x:Bool} (h:b=false):(b&&x)=false:=by simp [h]
theorem rn {b x:Bool} (h:b=true):(b||x)=true:=by simp [h]
theorem rq {b x:Bool} (h:b=false):(b||x)=x:=by simp [h]
def Db (P:Program) (k:Nat) (t:TypeId) (v u:Value) (b:Bool):Prop:=∀ d w,(Op.equalIn (d+k) t v u).run P w=.ok b w
theorem Db.up {P:Program} {k:Nat} {t:TypeId} {v u:Value} {b:Bool} (h:Db P k t v u b) (j:Nat):Db P (k+j) t v u b:=fun d w=>by
 rw [show d+(k+j)=(d+j)+k from by omega];exact h _ w
theorem Db.cast {P:Program} {k:Nat} {t:TypeId} {v u:Value} {b b':Bool} (h:Db P k t v u b) (e:b=b'):Db P k t v u b':=by rw [← e];exact h
inductive Fb (P:Program) (k:Nat) (xs ys:Array Value):List Field→Bool→Prop
 | nil:Fb P k xs ys [] true
 | cons {f:Field} {fs:List Field} {px py:Value} {b b':Bool} (hn:f.name≠"_") (hx:∀ w,(part f.type xs f.offset).run P w=.ok px w) (hy:∀ w,(part f.type ys f.offset).run P w=.ok py w) (he:Db P k f.type px py b) (kk:Fb P k xs ys fs b'):Fb P k xs ys (f :: fs) (b&&b')
theorem Fb.run {P:Program} {k:Nat} {xs ys:Array Value} {fs:List Field} {b:Bool} (h:Fb P k xs ys fs b) (d:Nat) (w:World):(Op.eqFields (d+k) xs ys fs).run P w=.ok b w:=by
 induction h with
 | nil=>simp [Op.eqFields]
 | @cons f fs px py b b' hn hx hy he kk ih=>
   simp only [Op.eqFields,hn,ne_eq,not_false_eq_true,if_true,Sem.run_bind,hx,hy,he d w,Result.andThen_ok]
   cases b
   ·simp
   ·simpa using ih
theorem Db.struct {P:Program} {k:Nat} {t:TypeId} {xs ys:Array Value} {fs:List Field} {b:Bool} (hu:P.underlying t=some (.struct fs.toArray)) (hp:P.stoodInHeld t=false) (h:Fb P k xs ys fs b):Db P (k+1) t (.agg xs) (.agg ys) b:=by
 intro d w
 have hf:P.fieldsOf t=fs.toArray:=by simp [Program.fieldsOf,hu]
 rw [show d+(k+1)=(d+k)+1 from rfl,run_equalIn_struct w (d+k) t xs ys (by rw [hf];exact hu) hp,hf]
 exact h.run d w
theorem pU {P:Program} {t:TypeId} {D:TypeDesc} [ax P t D] (hD:TypeDesc.iG D=false) {cs:Array Value} {off:Nat} {v:Value} (h:cs[off]? =some v) (w:World):(part t cs off).run P w=.ok v w:=by
 unfold part isAgg
 simp only [Sem.run_bind,run_underlying (ax.h (P:=P) (t:=t)),Result.andThen_ok]
 cases D<;>simp_all [TypeDesc.iG]
theorem mA.get {w:World} {S:Nat→Prop} {cs:List AV} {vs:Array Value} (hl:cs.length=vs.size) (ha:mA w S cs vs) {off:Nat} {c:AV} (hc:cs[off]? =some c):∃ v,vs[off]? =some v∧At w S c v:=by
 have iO:=(List.getElem?_eq_some_iff.1 hc).1
 have:off < vs.size:=by omega
 exact ⟨vs[off],by simp [this],ha off c _ hc (by simp [this])⟩
class BJ (P:Program) (t:TypeId) (k:outParam Nat) {α:Type} [DecidableEq α] (g:α→AV):Prop where
 h:∀ (x y:α) (w:World) (S:Nat→Prop) (v u:Value),At w S (g x) v→At w S (g y) u→Db P k t v u (decide (x=y))
class Lr (P:Program) (t:TypeId):Prop where
 h:P.eqGuardType P.depth t=false
instance NC {P:Program} {t:TypeId} {k:IntKind} [ax P t (.int k)]:BJ P t 1 (AV.int k):=⟨fun x y w S v u hv hu d w'=>by
 rw [hv.er,hu.er,Op.equalIn]
 simp [run_underlying (ax.h (P:=P) (t:=t))]
 rw [Bool.eq_iff_iff];simp⟩
instance O8 {P:Program} {t:TypeId} [ax P t (.int .i64)]:BJ P t 1 I:=NC (k:=.i64)
def tQ (k:IntKind) (x y:Int):Int:=k.wrap ((BitVec.ofInt k.bits x ^^^ BitVec.ofInt k.bits y).toNat:Int)
def eR (k:IntKind) (x y:Int):Int:=x.fdiv (2 ^ min y.toNat k.bits)
section rules
variable {P:Program} {all:Array Oper} {rest:List Oper} {n:Nat} {tm:List (Nat×AV)} {hp:Heap} {Q:St→Prop} {d:Nat} {ty:TypeId} {pos:String} {af:Array Edge}
theorem BK {α:Type} [DecidableEq α] {g:α→AV} {X Y:α} {k:Nat} {xt yt:TypeId} {x y:Operand} {cs ds:List AV} [BJ P xt k g] [Lr P xt] (hk:Nat.ble k 10000=true) (hx:cx tm x=some (.agg cs)) (hy:cx tm y=some (.agg ds)) (eX:g X=.agg cs) (eY:g Y=.agg ds):
 QV P ⟨some d,.binOp .eql xt x y yt,ty,pos,af,none⟩ ⟨n,tm,hp⟩ (.bool (decide (X=Y))):=by
 intro w S a r
 have hv:=bf (σ:=⟨n,tm,hp⟩) r hx
 have hu:=bf (σ:=⟨n,tm,hp⟩) r hy
 have he:=BJ.h (P:=P) (t:=xt) (g:=g) X Y w S _ _ (by rw [eX];exact hv) (by rw [eY];exact hu)
 obtain ⟨vs,e1,_,_⟩:=hv.wY
 obtain ⟨us,e2,_,_⟩:=hu.wY
 refine ⟨.bool (decide (X=Y)),fun w1 _=>?_,.bool _⟩
 have h1:=run_eqGuard_agg (P:=P) w1 .eql xt x y vs us Lr.h
 rw [e1,e2] at he
 have h2:(Op.equal xt (.agg vs) (.agg us)).run P w1=.ok (decide (X=Y)) w1:=by
  have:=he (10000 - k) w1
  rw [Nat.sub_add_cancel (Nat.le_of_ble_eq_true hk)] at this
  exact this
 have h3:(binOp .eql xt (.agg vs) (.agg us)).run P w1=.ok (.bool (decide (X=Y))) w1:=by
  rw [show binOp .eql xt (.agg vs) (.agg us)=(do pure (.bool (← Op.equal xt (.agg vs) (.agg us)))) from rfl]
  simp [h2]
 simp [execOp,e1,e2,h1,h3]
theorem GU {xt yt:TypeId} {x y:Operand} {s t:List UInt8} (hx:cx tm x=some (.str s)) (hy:cx tm y=some (.str t)):QV P ⟨some d,.binOp .leq xt x y yt,ty,pos,af,none⟩ ⟨n,tm,hp⟩ (.bool (Op.bytesLess s t||s==t)):=by
 refine fun w S a r=>⟨.bool (Op.bytesLess s t||s==t),fun w1 _=>?_,.bool _⟩
 simp [execOp,(bf (σ:=⟨n,tm,hp⟩) r hx).et,(bf (σ:=⟨n,tm,hp⟩) r hy).et,eqGuard_at_string,binOp,Op.stringOp,ByteArray.toList_eq]
theorem D8 {k:IntKind} {xt yt:TypeId} {x y:Operand} {i j:Int} (hx:cx tm x=some (.int k i)) (hy:cx tm y=some (.int k j)):QV P ⟨some d,.binOp .xor xt x y yt,ty,pos,af,none⟩ ⟨n,tm,hp⟩ (.int k (tQ k i j)):=
 qV hx hy (v:=.int k (tQ k i j)) (fun w=>by simp [binOp,Op.intBits,tQ]) (fun w S=>.int _ _)
theorem zn {k k':IntKind} {xt yt:TypeId} {x y:Operand} {i j:Int} (hx:cx tm x=some (.int k i)) (hy:cx tm y=some (.int k' j)) (h0:¬ j < 0):QV P ⟨some d,.binOp .shr xt x y yt,ty,pos,af,none⟩ ⟨n,tm,hp⟩ (.int k (eR k i j)):=by
 refine fun w S a r=>⟨.int k (eR k i j),fun w1 _=>?_,.int _ _⟩
 simp [execOp,(bf (σ:=⟨n,tm,hp⟩) r hx).er,(bf (σ:=⟨n,tm,hp⟩) r hy).er,eqGuard_at_int,binOp,Op.shift,h0,eR]
end rules
end Go.Eng
namespace Go.Eng
open Go Go.RowKit
variable [bD]
theorem zo (l:List Int):flat (l.map I)=l.map I:=by
 induction l with
 | nil=>rfl
 | cons x r ih=>rw [List.map_cons,gE,ih];rfl
theorem GV {P:Program} {f:FuncId} {a:Option Addr} {len cap:Nat} {zs:List Int} {w:World}
 (xA:(a=none∧len=0∧cap=0∧zs=[])∨∃ x,a=some x∧len≤cap∧cap≤maxLen∧zs.length=cap∧(∀ i,i < zs.length→w.cell? (x.add i)=some (.int .i64 (zs.getD i 0)))∧∀ n∈zs,(Lit.int .i64 n).wf=true)
 (hG:∀ g o,bD.Nc g=some o→g < w.heap.size∧o (w.heap[g]?))
 (c:∀ l:List Int,Pu P f [.list 1 (l.map I)] (.bool true)):
 Calls P f #[.slice a len cap] w fun e w'=>e=.returned (.bool true)∧Below w.heap.size w w':=by
 let S:Nat→Prop:=fun n=>n < w.heap.size
 have nQ:∃ l:List Int,At w S (.list 1 (l.map I)) (.slice a len cap):=by
  rcases xA with ⟨rfl,rfl,rfl,rfl⟩ | ⟨x,rfl,h1,h2,h3,h4,h5⟩
  ·exact ⟨[],.list 1 [] none 0 [] (by simp) rfl (by simp [flat]) (by simp) (by simp)⟩
  ·refine ⟨zs.take len,?_⟩
   have hl:((zs.take len).map I).length=len:=by simp;omega
   have key:=At.list (w:=w) (S:=S) 1 ((zs.take len).map I) (some x) cap ((zs.take len).map (fun n=>Value.int .i64 n)) ?_ ?_ ?_ ?_ ?_
   ·rw [hl] at key;exact key
   ·intro y hy
    obtain ⟨n,_,rfl⟩:=List.mem_map.1 hy
    exact ⟨rfl,fun c hc=>by simp [AV.cells] at hc;subst hc;rfl⟩
   ·rw [zo];simp
   ·intro i c v hc hv
    rw [zo,List.getElem?_map] at hc
    rw [List.getElem?_map] at hv
    cases hn:(zs.take len)[i]? with
    | none=>rw [hn] at hc;cases hc
    | some n=>
      rw [hn] at hc hv
      obtain rfl:=Option.some.inj hc
      obtain rfl:=Option.some.inj hv
      exact .int _ _
   ·intro i v hv
    rw [List.getElem?_map] at hv
    cases hn:(zs.take len)[i]? with
    | none=>rw [hn] at hv;cases hv
    | some n=>
      rw [hn] at hv
      obtain rfl:=Option.some.inj hv
      have hi:i < zs.length:=by
       have:=(List.getElem?_eq_some_iff.1 hn).1
       simp at this;omega
      have hz:zs.getD i 0=n:=by
       rw [List.getElem?_take] at hn
       split at hn
       ·rw [List.getD_eq_getElem?_getD,hn];rfl
       ·cases hn
      have sc:=h4 i hi
      rw [hz] at sc
      obtain ⟨bk,of,sp⟩:=x
      have Ks:sp=none:=by
       cases sp with
       | none=>rfl
       | some q=>
         have ND:=h4 0 (by omega)
         unfold World.cell? Addr.add at ND
         simp only [if_true] at ND
         split at ND
         ·simp at ND
         ·cases ND
      subst Ks
      rw [jZ] at sc
      have hblk:bk < w.heap.size:=by
       rcases Nat.lt_or_ge bk w.heap.size with h | h
       ·exact h
       ·unfold World.cell? at sc
        simp only [Array.getElem?_eq_none h] at sc
        cases sc
      exact ⟨_,rfl,rfl,hblk,sc⟩
   ·rw [hl];exact h1
 obtain ⟨l,nQ⟩:=nQ
 refine (c l w S #[.slice a len cap] (sb (fun n hn=>hn) hG) rfl ?_).mono ?_
 ·intro i c' v hc hv
  match i with
  | 0=>simp at hc hv;subst hc;subst hv;exact nQ
  | i+1=>simp at hc
 ·rintro e w' ⟨v,r,h',S',rfl,rfl,h1,h2,h3⟩
  refine ⟨by rw [h1.ko],h3.os,h3.tape,h3.output,h3.size,fun k hk=>(h3.jX k hk).2⟩
end Go.Eng
namespace Go.Eng
open Go
variable [bD]
def mF (e:Env) (d:Option Nat) (o:Option AV):Env:=match d with
 | some d=>fun s=>if d=s then o else e s
 | none=>e
theorem gL {e:Env} {d:Option Nat} {o:Option AV} {s:Nat} (h:d≠some s):mF e d o s=e s:=by
 cases d with
 | none=>rfl
 | some d=>simp only [mF];rw [if_neg (fun e=>h (by rw [e]))]
theorem jx {e:Env} {o:Option AV} {s:Nat}:mF e (some s) o s=o:=by simp [mF]
section order
variable {P:Program} {all:Array Oper} {n m:Nat} {hp:Heap}
def ru (all:Array Oper) (kq:Nat→Option AV) (e:Env) (listed:Array Bool):Nat→Env
 | 0=>e
 | k+1=>if listed.getD k false then mF (ru all kq e listed k) ((all[k]?).bind (·.dst)) (kq k) else ru all kq e listed k
variable {kq:Nat→Option AV} {en:Nat→Env} {e:Env}
theorem Fc (hB:qW all m) {listed:Array Bool} (L:IE all m listed) (h0:en 0=e) (hs:∀ i o,i < m→all[i]? =some o→en (i+1)=mF (en i) o.dst (kq i)) (hm:m≤all.size)
 {i:Nat} {o:Oper} (ho:all[i]? =some o) (Bf:i < m) (sZ:listed.getD i false=false) (hr:∀ j,vZ all i j→listed.getD j false=true) {s:Nat} (IF:s∈looks all o):∀ k,k≤all.size→ru all kq e listed k s=en (min k i) s:=by
 intro k
 induction k with
 | zero=>intro _;simp [ru,h0]
 | succ k ih=>
   intro hk
   have rl:=ih (by omega)
   have nV:all[k]? =some all[k]:=by simp [show k < all.size by omega]
   simp only [ru,nV,Option.bind_some]
   rcases Nat.lt_trichotomy k i with iO | heq | C8
   ·rw [Nat.min_eq_left (by omega)] at rl
    rw [Nat.min_eq_left (by omega),hs k _ (by omega) nV]
    by_cases hd:(all[k]).dst=some s
    ·have hl:listed.getD k false=true:=hr k ((iH hB ho nV iO).1 Bf (tP hd IF))
     rw [if_pos hl,hd,jx,jx]
    ·rw [gL hd]
     split
     ·rw [gL hd];exact rl
     ·exact rl
   ·subst heq
    rw [sZ]
    simp only [Bool.false_eq_true,if_false]
    rw [Nat.min_eq_right (by omega)]
    rw [Nat.min_eq_right (by omega)] at rl
    exact rl
   ·rw [Nat.min_eq_right (by omega)] at rl
    rw [Nat.min_eq_right (by omega)]
    by_cases hl:listed.getD k false=true
    ·by_cases hd:(all[k]).dst=some s
     ·exfalso
      have hw:=(iH hB nV ho C8).1 (L.head k hl) (wc hd IF)
      have:=jo.I8 L.closed hw hl
      rw [sZ] at this;cases this
     ·rw [if_pos hl,gL hd];exact rl
    ·rw [if_neg hl];exact rl
theorem GW (hB:qW all m) {listed:Array Bool} (L:IE all m listed) {i:Nat} {o:Oper} (ho:all[i]? =some o) (Bf:i < m) (sZ:listed.getD i false=false) (s:Nat):
 ∀ k,k≤all.size→ru all kq e (listed.setIfInBounds i true) k s=(if i < k then mF (ru all kq e listed k) o.dst (kq i) s else ru all kq e listed k s):=by
 have hi:i < listed.size:=by rw [L.size];exact (Array.getElem?_eq_some_iff.1 ho).1
 intro k
 induction k with
 | zero=>intro _;simp [ru]
 | succ k ih=>
   intro hk
   have rl:=ih (by omega)
   have nV:all[k]? =some all[k]:=by simp [show k < all.size by omega]
   simp only [ru,nV,Option.bind_some,gJ hi]
   rcases Nat.lt_trichotomy k i with iO | heq | C8
   ·rw [if_neg (by omega)] at rl
    have e1:(if k=i then true else listed.getD k false)=listed.getD k false:=if_neg (by omega)
    rw [e1,if_neg (show ¬ i < k+1 by omega)]
    by_cases hl:listed.getD k false=true
    ·rw [if_pos hl,if_pos hl]
     by_cases hd:(all[k]).dst=some s
     ·rw [hd,jx,jx]
     ·rw [gL hd,gL hd];exact rl
    ·rw [if_neg hl,if_neg hl];exact rl
   ·subst heq
    rw [if_neg (by omega)] at rl
    have e1:(if k=k then true else listed.getD k false)=true:=if_pos rfl
    rw [e1,if_pos (show k < k+1 by omega),if_pos rfl,sZ,if_neg Bool.false_ne_true]
    obtain rfl:all[k]=o:=by rw [nV] at ho;exact Option.some.inj ho
    by_cases hd:(all[k]).dst=some s
    ·rw [hd,jx,jx]
    ·rw [gL hd,gL hd];exact rl
   ·rw [if_pos C8] at rl
    have e1:(if k=i then true else listed.getD k false)=listed.getD k false:=if_neg (by omega)
    rw [e1,if_pos (show i < k+1 by omega)]
    by_cases hl:listed.getD k false=true
    ·rw [if_pos hl,if_pos hl]
     by_cases hd:(all[k]).dst=some s
     ·by_cases E7:o.dst=some s
      ·exfalso
       have hw:=(iH hB nV ho C8).1 (L.head k hl) (zj E7 hd)
       have:=jo.I8 L.closed hw hl
       rw [sZ] at this;cases this
      ·rw [hd,jx,gL E7,jx]
     ·by_cases E7:o.dst=some s
      ·rw [gL hd,rl,E7,jx,jx]
      ·rw [gL hd,rl,gL E7,gL E7,gL hd]
    ·rw [if_neg hl,if_neg hl];exact rl
structure Tok where
 prod:Option Nat
 cons:Option Nat
 P5:List Nat
 U3:Bk→Bk×Ob
 O9:Option Nat
 RR:List Nat
def Tok.ix (t:Tok):Option Nat:=match t.O9 with | some a=>some a | none=>t.prod
def Tok.at (t:Tok) (β:Nat→Bk):Bk×Ob:=t.U3 (match t.ix with | some i=>β i | none=>⟨none,0⟩)
def tT (listed:Array Bool) (t:Tok):Bool:=(match t.prod with | none=>true | some i=>listed.getD i false)&&(match t.cons with | none=>true | some i=>!listed.getD i false)
def wK (i:Nat) (t:Tok):Bool:=match t.cons with | some c=>Nat.beq c i | none=>false
def Jd (i:Nat) (t:Tok):Bool:=match t.prod with | some c=>Nat.beq c i | none=>false
def D9 (i:Nat) (t:Tok):Bool:=t.P5.contains i
def uB (tk:List Tok) (i:Nat) (β:Nat→Bk):Heap:=(tk.filter (D9 i)).map (·.at β)
def IC (i:Nat) (t:Tok):Bool:=t.RR.contains i
def s9 (tk:List Tok) (i:Nat) (β:Nat→Bk):List Heap:=match tk.filter (IC i) with
 | []=>[uB tk i β]
 | l=>l.map fun t=>t.at β :: uB tk i β
def oq (tk:List Tok) (listed:Array Bool) (β:Nat→Bk):Heap:=(tk.filter (tT listed)).map (·.at β)
def ry (tk:List Tok) (i:Nat) (β:Nat→Bk):Heap:=(tk.filter (wK i)).map (·.at β)
def jy (tk:List Tok) (i:Nat) (β:Nat→Bk):Heap:=(tk.filter (Jd i)).map (·.at β)
def mK (β:Nat→Bk) (i:Nat) (b:Bk):Nat→Bk:=fun k=>bif Nat.beq k i then b else β k
theorem Je (β:Nat→Bk) (i:Nat) (b:Bk):mK β i b i=b:=by simp [mK]
theorem Ea {β:Nat→Bk} {i k:Nat} {b:Bk} (h:k≠i):mK β i b k=β k:=by simp [mK,nd h]
def GX (tk:List Tok) (β:Nat→Bk):Heap:=(tk.filter (fun t=>t.cons.isNone)).map (·.at β)
def NF (A:List Nat) (m:Nat) (tk:List Tok):Bool:=tk.all fun t=>
 (match t.prod with | some p=>Nat.blt p m | none=>true)&&(match t.cons with | some c=>Nat.blt c m&&(match t.prod with | some p=>(A.getD c 0).testBit p | none=>true) | none=>true)&&
 (match t.O9 with | some a=>(match t.prod with | some p=>(A.getD p 0).testBit a | none=>false) | none=>true)&&
 t.P5.all fun i=>Nat.blt i m&&(match t.prod with | some p=>(A.getD i 0).testBit p | none=>true)&&(match t.cons with | some c=>(A.getD c 0).testBit i | none=>true)
def KE (A:List Nat) (m:Nat) (tk:List Tok):Bool:=(List.range m).all fun i=>match tk.filter (IC i) with
 | []=>true
 | [t0,t1]=>(match t0.cons,t1.prod with | some j,some j'=>Nat.beq j j'&&!Nat.beq j i | _,_=>false)&&(match t0.prod with | some p=>(A.getD i 0).testBit p | none=>true)&&(match t1.cons with | some c=>(A.getD c 0).testBit i | none=>true)&&!D9 i t0&&!D9 i t1
 | _=>false
def Dc (all:Array Oper) (m:Nat) (tk:List Tok):Prop:=∀ i,i < m→tk.filter (IC i)=[]∨∃ t0 t1 j,tk.filter (IC i)=[t0,t1]∧t0.cons=some j∧t1.prod=some j∧j≠i∧(∀ p,t0.prod=some p→vZ all i p)∧(∀ c,t1.cons=some c→vZ all c i)∧D9 i t0=false∧D9 i t1=false
theorem Dd {A:List Nat} {tk:List Tok} (hA:E6 all=A) (h:KE A m tk=true):Dc all m tk:=by
 intro i hi
 have:=List.all_eq_true.1 h i (List.mem_range.2 hi)
 split at this
 ·rename_i e;exact .inl e
 ·rename_i t0 t1 e
  simp only [Bool.and_eq_true,Bool.not_eq_true'] at this
  obtain ⟨⟨⟨⟨h1,h2⟩,h3⟩,h4⟩,h5⟩:=this
  split at h1
  ·rename_i j j' hj ML
   simp only [Bool.and_eq_true,Bool.not_eq_true'] at h1
   obtain ⟨h6,h7⟩:=h1
   obtain rfl:=Nat.eq_of_beq_eq_true h6
   refine .inr ⟨t0,t1,j,e,hj,ML,fun e=>by rw [e] at h7;simp at h7,fun p hp=>?_,fun c hc=>?_,h4,h5⟩
   ·rw [hp] at h2;subst hA;exact lE h2
   ·rw [hc] at h3;subst hA;exact lE h3
  ·cases h1
 ·cases this
def xB (all:Array Oper) (m:Nat) (tk:List Tok):Prop:=∀ t∈tk,(∀ p,t.prod=some p→p < m)∧(∀ c,t.cons=some c→c < m∧∀ p,t.prod=some p→vZ all c p)∧(∀ i,D9 i t=true→i < m∧(∀ p,t.prod=some p→vZ all i p)∧∀ c,t.cons=some c→vZ all c i)∧∀ a,t.O9=some a→∃ p,t.prod=some p∧vZ all p a
theorem Fe {A:List Nat} {tk:List Tok} (hA:E6 all=A) (h:NF A m tk=true):xB all m tk:=by
 intro t ht
 have:=List.all_eq_true.1 h t ht
 rw [Bool.and_eq_true,Bool.and_eq_true,Bool.and_eq_true] at this
 obtain ⟨⟨⟨h1,h2⟩,h9⟩,h4⟩:=this
 subst hA
 refine ⟨fun p hp=>by rw [hp] at h1;simpa using h1,fun c hc=>?_,fun i hi=>?_,fun a ha=>?_⟩
 ·rw [hc] at h2
  simp only [Bool.and_eq_true] at h2
  refine ⟨by simpa using h2.1,fun p hp=>?_⟩
  have h3:=h2.2
  rw [hp] at h3
  exact lE h3
 ·have h5:=List.all_eq_true.1 h4 i (by simpa [D9] using hi)
  rw [Bool.and_eq_true,Bool.and_eq_true] at h5
  obtain ⟨⟨h6,h7⟩,h8⟩:=h5
  exact ⟨by simpa using h6,fun p hp=>by rw [hp] at h7;exact lE h7,fun c hc=>by rw [hc] at h8;exact lE h8⟩
 ·rw [ha] at h9
  cases hp:t.prod with
  | none=>rw [hp] at h9;cases h9
  | some p=>rw [hp] at h9;exact ⟨p,rfl,lE h9⟩
theorem qE {α:Type} (p q:α→Bool) (l:List α):(l.filter p).Perm (l.filter (fun x=>p x&&q x)++l.filter (fun x=>p x&&!q x)):=by
 induction l with
 | nil=>exact List.Perm.refl _
 | cons x l ih=>
   simp only [List.filter_cons]
   cases hp:p x<;>cases hq:q x
   ·simpa using ih
   ·simpa using ih
   ·simp only [Bool.true_and,Bool.not_false,Bool.false_eq_true,if_false,if_true]
    exact (List.Perm.cons x ih).trans List.perm_middle.symm
   ·simp only [Bool.true_and,Bool.not_true,Bool.false_eq_true,if_false,if_true,List.cons_append]
    exact List.Perm.cons x ih
theorem Ls {tk:List Tok} (hT:xB all m tk) {listed:Array Bool} {i:Nat} (sZ:listed.getD i false=false) (Ao:∀ j,vZ all i j→listed.getD j false=true) (β:Nat→Bk):
 (oq tk listed β).Perm (ry tk i β++(tk.filter (fun t=>tT listed t&&!wK i t)).map (·.at β)):=by
 unfold oq ry
 rw [← List.map_append]
 refine List.Perm.map _ ?_
 have e:tk.filter (wK i)=tk.filter (fun t=>tT listed t&&wK i t):=by
  apply List.filter_congr
  intro t ht
  cases hc:wK i t with
  | false=>simp
  | true=>
    unfold wK at hc
    split at hc
    ·rename_i c CZ
     obtain rfl:c=i:=Nat.eq_of_beq_eq_true hc
     have:=(hT t ht).2.1 c CZ
     have Nx:tT listed t=true:=by
      unfold tT
      rw [CZ]
      simp only [sZ,Bool.not_false,Bool.and_true]
      split
      ·rfl
      ·rename_i p hp;exact Ao p (this.2 p hp)
     rw [Nx];rfl
    ·cases hc
 rw [e]
 exact qE _ _ _
theorem Jf {tk:List Tok} (hT:xB all m tk) {listed:Array Bool} (yH:jo all listed) {i:Nat} (hi:i < listed.size) (sZ:listed.getD i false=false) (Ap:∀ c,vZ all c i→c≠i) (β:Nat→Bk) (b:Bk):
 (oq tk (listed.setIfInBounds i true) (mK β i b)).Perm (jy tk i (mK β i b)++(tk.filter (fun t=>tT listed t&&!wK i t)).map (·.at β)):=by
 unfold oq jy
 have e2:(tk.filter (fun t=>tT listed t&&!wK i t)).map (·.at β)=(tk.filter (fun t=>tT listed t&&!wK i t)).map (·.at (mK β i b)):=by
  apply List.map_congr_left
  intro t ht
  have h0:=(List.mem_filter.1 ht).1
  have h1:=(List.mem_filter.1 ht).2
  rw [Bool.and_eq_true] at h1
  have OZ:∀ p,t.prod=some p→listed.getD p false=true:=by
   intro p hp
   have:=h1.1
   unfold tT at this
   rw [hp,Bool.and_eq_true] at this
   exact this.1
  unfold Tok.at
  cases hx:t.ix with
  | none=>rfl
  | some p=>
    have Ld:listed.getD p false=true:=by
     unfold Tok.ix at hx
     cases ha:t.O9 with
     | none=>rw [ha] at hx;exact OZ p hx
     | some a=>
       rw [ha] at hx
       obtain rfl:=Option.some.inj hx
       obtain ⟨q,q1,q2⟩:=(hT t h0).2.2.2 a ha
       exact yH.I8 q2 (OZ q q1)
    have:p≠i:=fun e=>by subst e;rw [sZ] at Ld;cases Ld
    simp only [Ea this]
 rw [e2,← List.map_append]
 refine List.Perm.map _ ?_
 refine (qE _ (Jd i) _).trans ?_
 have f1:tk.filter (fun t=>tT (listed.setIfInBounds i true) t&&Jd i t)=tk.filter (Jd i):=by
  apply List.filter_congr
  intro t ht
  cases hp:Jd i t with
  | false=>simp
  | true=>
    unfold Jd at hp
    split at hp
    ·rename_i p RS
     obtain rfl:p=i:=Nat.eq_of_beq_eq_true hp
     have Nx:tT (listed.setIfInBounds p true) t=true:=by
      unfold tT
      rw [RS]
      simp only [gJ hi,if_true,Bool.true_and]
      cases hc:t.cons with
      | none=>rfl
      | some c=>
        have Ao:=((hT t ht).2.1 c hc).2 p RS
        have wV:=Ap c Ao
        simp only [wV,if_false]
        cases hl:listed.getD c false with
        | false=>rfl
        | true=>have:=yH.I8 Ao hl;rw [sZ] at this;cases this
     rw [Nx];rfl
    ·cases hp
 have f2:tk.filter (fun t=>tT (listed.setIfInBounds i true) t&&!Jd i t)=tk.filter (fun t=>tT listed t&&!wK i t):=by
  apply List.filter_congr
  intro t ht
  unfold tT Jd wK
  cases hp:t.prod with
  | none=>
    cases hc:t.cons with
    | none=>simp
    | some c=>
      simp only [gJ hi]
      by_cases IG:c=i
      ·subst IG;simp
      ·have:Nat.beq c i=false:=nd IG
       simp [IG,this]
  | some p=>
    by_cases Pa:p=i
    ·subst Pa
     simp [sZ]
    ·have hb:Nat.beq p i=false:=nd Pa
     cases hc:t.cons with
     | none=>simp [gJ hi,Pa,hb]
     | some c=>
       simp only [gJ hi,Pa,hb,if_false]
       by_cases IG:c=i
       ·subst IG;simp
       ·have:Nat.beq c i=false:=nd IG
        simp [IG,this]
 rw [f1,f2]
theorem GY {tk:List Tok} (hT:xB all m tk) {listed:Array Bool} (yH:jo all listed) {i:Nat} (sZ:listed.getD i false=false) (Ao:∀ j,vZ all i j→listed.getD j false=true) (Ap:∀ c,vZ all c i→c≠i) (β:Nat→Bk):
 ((tk.filter (fun t=>tT listed t&&!wK i t)).map (·.at β)).Perm (uB tk i β++(tk.filter (fun t=>(tT listed t&&!wK i t)&&!D9 i t)).map (·.at β)):=by
 unfold uB
 rw [← List.map_append]
 refine List.Perm.map _ ?_
 have e:tk.filter (D9 i)=tk.filter (fun t=>(tT listed t&&!wK i t)&&D9 i t):=by
  apply List.filter_congr
  intro t ht
  cases hr:D9 i t with
  | false=>simp
  | true=>
    obtain ⟨_,q2,q3⟩:=(hT t ht).2.2.1 i hr
    have h1:tT listed t=true:=by
     unfold tT
     have e1:(match t.prod with | none=>true | some i=>listed.getD i false)=true:=by
      cases hp:t.prod with
      | none=>rfl
      | some p=>exact Ao p (q2 p hp)
     have e2:(match t.cons with | none=>true | some i=>!listed.getD i false)=true:=by
      cases hc:t.cons with
      | none=>rfl
      | some c=>
        have:=q3 c hc
        show (!listed.getD c false)=true
        cases hl:listed.getD c false with
        | false=>rfl
        | true=>have:=yH.I8 this hl;rw [sZ] at this;cases this
     rw [e1,e2];rfl
    have h2:wK i t=false:=by
     unfold wK
     cases hc:t.cons with
     | none=>rfl
     | some c=>exact nd (Ap c (q3 c hc))
    rw [h1,h2];rfl
 rw [e]
 exact qE _ _ _
theorem Ff {tk:List Tok} (hT:xB all m tk) (hS:Dc all m tk) {listed:Array Bool} (yH:jo all listed) {i:Nat} (Bf:i < m) (sZ:listed.getD i false=false) (Ao:∀ j,vZ all i j→listed.getD j false=true) (Ap:∀ c,vZ all c i→c≠i) (β:Nat→Bk):
 ∃ X∈s9 tk i β,∃ rest,((tk.filter (fun t=>tT listed t&&!wK i t)).map (·.at β)).Perm (X++rest):=by
 have h0:=GY hT yH sZ Ao Ap β
 rcases hS i Bf with e | ⟨t0,t1,j,e,a1,a2,a3,a4,a5,a6,a7⟩
 ·exact ⟨uB tk i β,by unfold s9;rw [e];simp,_,h0⟩
 ·have m0:t0∈tk:=(List.mem_filter.1 (by rw [e];simp:t0∈tk.filter (IC i))).1
  have m1:t1∈tk:=(List.mem_filter.1 (by rw [e];simp:t1∈tk.filter (IC i))).1
  have go:∀ t,t∈tk→tT listed t=true→wK i t=false→D9 i t=false→∃ rest,((tk.filter (fun t=>tT listed t&&!wK i t)).map (·.at β)).Perm ((t.at β :: uB tk i β)++rest):=by
   intro t ht h1 h2 h3
   have hm:t∈tk.filter (fun t=>(tT listed t&&!wK i t)&&!D9 i t):=List.mem_filter.2 ⟨ht,by simp [h1,h2,h3]⟩
   obtain ⟨a,b,yI⟩:=List.append_of_mem hm
   rw [yI] at h0
   refine ⟨(a++b).map (·.at β),h0.trans ?_⟩
   rw [List.map_append,List.map_cons,List.map_append]
   refine (List.Perm.append_left _ List.perm_middle).trans ?_
   exact List.perm_middle
  have hX:∀ t,t∈[t0,t1]→(t.at β :: uB tk i β)∈s9 tk i β:=by
   intro t ht
   unfold s9
   rw [e]
   exact List.mem_map.2 ⟨t,ht,rfl⟩
  cases hj:listed.getD j false with
  | false=>
    have h1:tT listed t0=true:=by
     unfold tT
     rw [a1]
     simp only [hj,Bool.not_false,Bool.and_true]
     split
     ·rfl
     ·rename_i p hp;exact Ao p (a4 p hp)
    have h2:wK i t0=false:=by unfold wK;rw [a1];exact nd a3
    obtain ⟨rest,hr⟩:=go t0 m0 h1 h2 a6
    exact ⟨_,hX t0 (by simp),rest,hr⟩
  | true=>
    have h1:tT listed t1=true:=by
     unfold tT
     rw [a2]
     simp only [hj,Bool.true_and]
     split
     ·rfl
     ·rename_i c hc
      cases hl:listed.getD c false with
      | false=>rfl
      | true=>have:=yH.I8 (a5 c hc) hl;rw [sZ] at this;cases this
    have h2:wK i t1=false:=by
     unfold wK
     split
     ·rename_i c hc;exact nd (Ap c (a5 c hc))
     ·rfl
    obtain ⟨rest,hr⟩:=go t1 m1 h1 h2 a7
    exact ⟨_,hX t1 (by simp),rest,hr⟩
def TV (P:Program) (all:Array Oper) (n:Nat) (B:Heap) (o:Oper) (e:Env) (Ti:Heap) (V:Bk→AV) (Pi:Bk→Heap):Prop:=
 ∀ w S a,a.tmps.size=n→a.defers=[]→bZ w S (Ti++B)→Ai w S (looks all o) e a→∀ (K:Act→World→Prop) (Q:Exit→Act→World→Prop),
   (∀ b v w' S',iF w S (Ti++B) w' S' (Pi b++B)→bZ w' S' (Pi b++B)→At w' S' (V b) v→K (a.put o.dst v) w')→o.wp P a w K Q
def oQ (P:Program) (all:Array Oper) (n:Nat) (B:Heap) (o:Oper) (e:Env) (Ti:Heap) (V:Bk→AV) (Pi:Bk→Heap):Prop:=
 (∀ d,o.dst=some d→d < n)∧((lz all o e true∧TV P all n B o e Ti V Pi)∨(lz all o e false∧∀ b,Pi b=Ti∧V b=.raw undef))
def Fg (e c:Env):Env:=fun s=>match e s with | some av=>some av | none=>c s
theorem GZ {e c:Env} {s:Nat} {av:AV} (h:e s=some av):Fg e c s=some av:=by simp [Fg,h]
theorem lz.up {all:Array Oper} {o:Oper} {e c:Env} {b:Bool} (h:lz all o e b):lz all o (Fg e c) b:=by
 unfold lz at *
 cases hg:o.guard with
 | none=>rw [hg] at h;exact h
 | some g=>
   rw [hg] at h
   obtain ⟨s,h1,h2⟩:=h
   refine ⟨s,h1,?_⟩
   rcases h2 with ⟨x,h3,h4⟩ | ⟨h3,h4⟩
   ·exact .inl ⟨x,GZ h3,h4⟩
   ·exact .inr ⟨GZ h3,h4⟩
theorem Ai.down {w:World} {S:Nat→Prop} {ls:List Nat} {e c:Env} {a:Act} (h:Ai w S ls (Fg e c) a):Ai w S ls e a:=fun s hs av nz=>h s hs av (GZ nz)
theorem oQ.up {P:Program} {all:Array Oper} {n:Nat} {B:Heap} {o:Oper} {e c:Env} {Ti:Heap} {V:Bk→AV} {Pi:Bk→Heap} (h:oQ P all n B o e Ti V Pi):oQ P all n B o (Fg e c) Ti V Pi:=by
 refine ⟨h.1,h.2.imp (fun x=>⟨x.1.up,fun w S a h1 h2 h3 h4=>x.2 w S a h1 h2 h3 h4.down⟩) (fun x=>⟨x.1.up,x.2⟩)⟩
theorem G0 {all:Array Oper} {kq:Nat→Option AV} {V:Nat→Bk→AV} {cn:Nat→(Nat→Bk)→Env} {m:Nat} (h0:∀ β s,cn 0 β s=none) (hc:∀ i o,i < m→all[i]? =some o→∀ β,cn (i+1) β=match kq i with | none=>mF (cn i β) o.dst (some (V i (β i))) | some _=>cn i β) (hm:m≤all.size):
 ∀ i,i≤m→∀ β s av,cn i β s=some av→∃ k o,k < i∧all[k]? =some o∧o.dst=some s∧kq k=none∧av=V k (β k):=by
 intro i
 induction i with
 | zero=>intro _ β s av h;rw [h0] at h;cases h
 | succ i ih=>
   intro hi β s av h
   have nV:all[i]? =some all[i]:=by simp [show i < all.size by omega]
   rw [hc i _ (by omega) nV] at h
   cases nz:kq i with
   | some x=>
     rw [nz] at h
     obtain ⟨k,o,h1,h2⟩:=ih (by omega) β s av h
     exact ⟨k,o,by omega,h2⟩
   | none=>
     rw [nz] at h
     by_cases hd:(all[i]).dst=some s
     ·simp only [hd,jx] at h
      exact ⟨i,_,by omega,nV,hd,nz,(Option.some.inj h).symm⟩
     ·simp only [gL hd] at h
      obtain ⟨k,o,h1,h2⟩:=ih (by omega) β s av h
      exact ⟨k,o,by omega,h2⟩
theorem Fh {cn:Nat→(Nat→Bk)→Env} {B:Heap} {tk:List Tok} {V:Nat→Bk→AV} (hB:qW all m) (hT:xB all m tk) (U4:Dc all m tk) (hm:m≤all.size) {Q:Exit→Act→World→Prop} (h0:en 0=e)
 (Lp:∀ β s,cn 0 β s=none) (U5:∀ i o,i < m→all[i]? =some o→∀ β,cn (i+1) β=match kq i with | none=>mF (cn i β) o.dst (some (V i (β i))) | some _=>cn i β)
 (hs:∀ i o,i < m→all[i]? =some o→(∀ β,∀ X∈s9 tk i β,oQ P all n (X++B) o (Fg (en i) (cn i β)) (ry tk i β) (V i) (fun b=>jy tk i (mK β i b)))∧en (i+1)=mF (en i) o.dst (kq i)∧(∀ av,kq i=some av→∀ b,V i b=av))
 (hU:∀ i j oi oj d,i < m→j < m→i≠j→all[i]? =some oi→all[j]? =some oj→kq i=none→oi.dst=some d→oj.dst≠some d) {w0:World} {S0:Nat→Prop} {Pb:Heap}
 (fin:∀ β a w S,a.tmps.size=n→a.defers=[]→bZ w S (GX tk β++B)→iF w0 S0 Pb w S (GX tk β++B)→xw w S (en m) a→(∀ j o d,j < m→all[j]? =some o→kq j=none→o.dst=some d→∃ v,a.tmps[d]? =some v∧At w S (V j (β j)) v)→wpList P all Q (all.toList.drop m) a w):
 ∀ (fuel:Nat) (listed:Array Bool) (a:Act) (w:World) (S:Nat→Prop) (β:Nat→Bk),IE all m listed→(listed.toList.count true)+fuel=all.size→a.tmps.size=n→a.defers=[]→bZ w S (oq tk listed β++B)→iF w0 S0 Pb w S (oq tk listed β++B)→xw w S (ru all kq e listed all.size) a→
   (∀ j o d,listed.getD j false=true→all[j]? =some o→kq j=none→o.dst=some d→∃ v,a.tmps[d]? =some v∧At w S (V j (β j)) v)→
   wpAny P .any all Q fuel listed a w:=by
 have Nz:∀ i o,i < m→all[i]? =some o→en (i+1)=mF (en i) o.dst (kq i):=fun i o h1 h2=>(hs i o h1 h2).2.1
 have Ap:∀ c i,vZ all c i→c≠i:=by
  have key:∀ c i,vZ all c i→i < c:=by
   intro c i h
   have one:∀ {j i:Nat} {oj:Oper},all[j]? =some oj→waits oj i=true→i < j:=by
    intro j i oj hj hw
    simp only [waits,List.any_eq_true,Bool.and_eq_true] at hw
    obtain ⟨e',P0,w4,Lm⟩:=hw
    have:=tO hB hj (by simpa using P0) w4
    obtain rfl:e'.on=i:=Nat.eq_of_beq_eq_true Lm
    exact this
   induction h with
   | one hj hw=>exact one hj hw
   | step hj hw _ ih=>have:=one hj hw;omega
  intro c i h e;have:=key c i h;omega
 have done:∀ (fuel:Nat) (listed:Array Bool) (a:Act) (w:World) (S:Nat→Prop) (β:Nat→Bk),IE all m listed→(listed.toList.count true)+fuel=all.size→a.tmps.size=n→a.defers=[]→bZ w S (oq tk listed β++B)→iF w0 S0 Pb w S (oq tk listed β++B)→xw w S (ru all kq e listed all.size) a→
  (∀ j o d,listed.getD j false=true→all[j]? =some o→kq j=none→o.dst=some d→∃ v,a.tmps[d]? =some v∧At w S (V j (β j)) v)→
  (∀ i,i < m→listed.getD i false=true)→wpAny P .any all Q fuel listed a w:=by
  intro fuel listed a w S β L hc hJ C9 hr hg pE De iW
  have yP:∀ i,m≤i→listed.getD i false=false:=fun i hi=>by
   cases hv:listed.getD i false with
   | false=>rfl
   | true=>have:=L.head i hv;omega
  have Ln:listed.toList.count true=m:=by
   have:listed.toList=List.replicate m true++List.replicate (all.size - m) false:=by
    apply List.ext_getElem?
    intro i
    rcases Nat.lt_or_ge i m with hi | hi
    ·have o6:i < listed.size:=by rw [L.size];omega
     rw [List.getElem?_append_left (by simpa using hi)]
     have:=iW i hi
     simp [o6] at this
     simp [o6,hi,this]
    ·rw [List.getElem?_append_right (by simpa using hi)]
     rcases Nat.lt_or_ge i listed.size with o6 | o6
     ·have:=yP i hi
      simp [o6] at this
      have h2:i - m < all.size - m:=by rw [L.size] at o6;omega
      simp [o6,h2,this]
     ·have h2:¬ i - m < all.size - m:=by rw [L.size] at o6;omega
      simp [List.getElem?_eq_none (l:=listed.toList) (by simpa using o6),h2]
   rw [this,List.count_append,List.count_replicate,List.count_replicate]
   simp
  have Lo:ru all kq e listed all.size=en m:=by
   have key:∀ k,k≤all.size→ru all kq e listed k=en (min k m):=by
    intro k
    induction k with
    | zero=>intro _;simp [ru,h0]
    | succ k ih=>
      intro hk
      have nV:all[k]? =some all[k]:=by simp [show k < all.size by omega]
      simp only [ru,nV,Option.bind_some,ih (by omega)]
      rcases Nat.lt_or_ge k m with h | h
      ·rw [if_pos (iW k h),Nat.min_eq_left (by omega),Nat.min_eq_left (by omega),Nz k _ h nV]
      ·rw [if_neg (by rw [yP k h];simp),Nat.min_eq_right (by omega),Nat.min_eq_right (by omega)]
   rw [key all.size (Nat.le_refl _),Nat.min_eq_right hm]
  have NG:oq tk listed β=GX tk β:=by
   unfold oq GX
   congr 1
   apply List.filter_congr
   intro t ht
   obtain ⟨q1,q2,_⟩:=hT t ht
   unfold tT
   cases hp:t.prod with
   | none=>
     cases hc:t.cons with
     | none=>rfl
     | some c=>simp [iW c (q2 c hc).1]
   | some p=>
     cases hc:t.cons with
     | none=>simp [iW p (q1 p hp)]
     | some c=>simp [iW c (q2 c hc).1]
  rw [Lo] at pE
  rw [NG] at hr hg
  exact BA hB fuel m listed a w (Nat.le_refl _) (by omega) L.size iW yP (fin β a w S hJ C9 hr hg pE (fun j o d hj ho nz hd=>De j o d (iW j hj) ho nz hd))
 intro fuel
 induction fuel with
 | zero=>
   intro listed a w S β L hc hJ C9 hr hg pE De
   refine done 0 listed a w S β L hc hJ C9 hr hg pE De (fun i hi=>?_)
   have BC:listed.toList.count true=listed.toList.length:=by rw [Array.length_toList,L.size];omega
   have iW:=List.count_eq_length.1 BC
   have o6:i < listed.size:=by rw [L.size];omega
   have:=iW listed[i] (by simp)
   simp [o6];exact this.symm
 | succ fuel ih=>
   intro listed a w S β L hc hJ C9 hr hg pE De
   by_cases iW:∀ i,i < m→listed.getD i false=true
   ·exact done _ listed a w S β L hc hJ C9 hr hg pE De iW
   ·refine ⟨fun Ja=>(iW fun i hi=>vr hB L.size Ja i (by omega)).elim,fun i hi=>?_⟩
    obtain ⟨E8,BB⟩:=sH hi
    have sZ:=w7 BB
    have wb:all[i]? =some all[i]:=by simp [E8]
    have Bf:i < m:=by
     rcases Nat.lt_or_ge i m with h | h
     ·exact h
     ·refine (iW fun j hj=>?_).elim
      have ID:all[j]? =some all[j]:=by simp [show j < all.size by omega]
      exact jo.ready L.closed ((iH hB wb ID (by omega)).2 h) hi
    have o6:i < listed.size:=by rw [L.size];exact E8
    obtain ⟨P6,_,hV⟩:=hs i _ Bf wb
    obtain ⟨X,hX,rest,RT⟩:=Ff hT U4 L.closed Bf sZ (fun j hj=>jo.ready L.closed hj hi) (fun c h=>Ap c i h) β
    obtain ⟨Ku,qX⟩:=P6 β X hX
    have tM:Ai w S (looks all all[i]) (Fg (en i) (cn i β)) a:=by
     intro s IF av nz
     rw [Fg] at nz
     cases Lt:en i s with
     | none=>
       rw [Lt] at nz
       obtain ⟨k,o,k1,k2,k3,k4,k5⟩:=G0 Lp U5 hm i (by omega) β s av nz
       have Fi:listed.getD k false=true:=jo.ready L.closed ((iH hB wb k2 k1).1 Bf (tP k3 IF)) hi
       rw [k5]
       exact De k o s Fi k2 k4 k3
     | some ep=>
     rw [Lt] at nz
     obtain rfl:=Option.some.inj nz
     have hc:=Fc (kq:=kq) (en:=en) (e:=e) hB L h0 Nz hm wb Bf sZ (fun j hj=>jo.ready L.closed hj hi) IF all.size (Nat.le_refl _)
     rw [Nat.min_eq_right (by omega)] at hc
     exact pE s ep (by rw [hc];exact Lt)
    have L':IE all m (listed.setIfInBounds i true):=by
     refine ⟨by simpa using L.size,fun k hk=>?_,fun k j o hk nV hw=>?_⟩
     ·rw [gJ o6] at hk
      split at hk
      ·omega
      ·exact L.head k hk
     ·rw [gJ o6] at hk
      rw [gJ o6]
      split
      ·rfl
      ·split at hk
       ·rename_i P1
        subst P1
        obtain rfl:all[k]=o:=by rw [wb] at nV;exact Option.some.inj nV
        exact pf wb hi hw
       ·exact L.closed k j o hk nV hw
    have BC:(listed.setIfInBounds i true).toList.count true+fuel=all.size:=by
     have GK:listed[i]=false:=by simpa [o6] using sZ
     have:(listed.setIfInBounds i true).toList=listed.toList.set i true:=by simp
     rw [this,List.count_set (by simpa using o6)]
     have Le:listed.toList[i]'(by simpa using o6)=false:=by simpa using GK
     rw [Le]
     have e1:(if (false==true)=true then 1 else 0)=0:=rfl
     have e2:(if (true==true)=true then 1 else 0)=1:=rfl
     rw [e1,e2]
     omega
    have NH:∀ T:Heap,(T++(X++rest)++B).Perm ((T++(X++B))++rest):=fun T=>by
     rw [List.append_assoc,List.append_assoc,List.append_assoc,List.append_assoc]
     exact List.Perm.append_left _ (List.Perm.append_left _ List.perm_append_comm)
    have RU:(oq tk listed β++B).Perm ((ry tk i β++(X++B))++rest):=
     (((Ls hT sZ (fun j hj=>jo.ready L.closed hj hi) β).trans (List.Perm.append_left _ RT)).append_right B).trans (NH _)
    have NI:∀ b,((jy tk i (mK β i b)++(X++B))++rest).Perm (oq tk (listed.setIfInBounds i true) (mK β i b)++B):=fun b=>
     List.Perm.symm ((((Jf hT L.closed o6 sZ (fun c h=>Ap c i h) β b).trans (List.Perm.append_left _ RT)).append_right B).trans (NH _))
    have P7:bZ w S ((ry tk i β++(X++B))++rest):=hr.perm RU
    have O6:∀ v,(a.put (all[i]).dst v).tmps.size=n:=fun v=>by cases (all[i]).dst<;>simp [Act.put,hJ]
    have O7:∀ v,(a.put (all[i]).dst v).defers=[]:=fun v=>by cases (all[i]).dst<;>simp [Act.put,C9]
    have P8:∀ {w1 w2:World} {S1 S2:Nat→Prop} {h1 h2 CV Lg:Heap},iF w1 S1 h1 w2 S2 h2→h1.Perm CV→h2.Perm Lg→iF w1 S1 CV w2 S2 Lg:=by
     intro w1 w2 S1 S2 h1 h2 CV Lg ev p1 p2
     have has:∀ {g g':Heap} {k:Nat},g.Perm g'→(Has g k↔Has g' k):=fun p=>
      ⟨fun ⟨x,hx,hb⟩=>⟨x,p.mem_iff.1 hx,hb⟩,fun ⟨x,hx,hb⟩=>⟨x,p.mem_iff.2 hx,hb⟩⟩
     exact ⟨ev.os,ev.tape,ev.output,ev.size,ev.jX,fun k hk hh=>ev.other k hk (fun hc=>hh ((has p1).1 hc)),fun k hk=>((ev.new k ((has p2).2 hk)).imp (has p1).1 id),ev.drawn⟩
    have next:∀ (b:Bk) (v:Value) (w':World) (S':Nat→Prop),iF w S (ry tk i β++(X++B)) w' S' (jy tk i (mK β i b)++(X++B))→bZ w' S' (jy tk i (mK β i b)++(X++B))→At w' S' (V i b) v→wpAny P .any all Q fuel (listed.setIfInBounds i true) (a.put (all[i]).dst v) w':=by
     intro b v w' S' Jg Jh nQ
     have Kx:bZ w' S' ((jy tk i (mK β i b)++(X++B))++rest):=P7.frame Jg Jh
     have U6:=Jg.frame rest
     refine ih _ _ _ S' (mK β i b) L' BC (O6 v) (O7 v) (Kx.perm (NI b)) (hg.trans (P8 U6 RU.symm (NI b))) ?_ ?_
     ·intro s av nz
      rw [GW (kq:=kq) (e:=e) hB L wb Bf sZ s all.size (Nat.le_refl _),if_pos (by omega)] at nz
      by_cases hd:(all[i]).dst=some s
      ·rw [hd,jx] at nz
       have Gd:=Ku s hd
       exact ⟨v,by rw [hd];simp [Act.put,hJ,Gd],by rw [← hV av nz b];exact nQ⟩
      ·rw [gL hd] at nz
       obtain ⟨u,h1,h2⟩:=pE s av nz
       refine ⟨u,?_,h2.mono Jg.jX⟩
       cases Al:(all[i]).dst with
       | none=>simpa [Act.put] using h1
       | some d'=>
         have wV:d'≠s:=fun e=>hd (by rw [Al,e])
         simp [Act.put,wV,h1]
     ·intro j o d hj ho nz hd
      by_cases Pc:j=i
      ·subst Pc
       rw [wb] at ho;obtain rfl:=Option.some.inj ho
       have Gd:=Ku d hd
       exact ⟨v,by rw [hd];simp [Act.put,hJ,Gd],by rw [Je];exact nQ⟩
      ·have w6:listed.getD j false=true:=by rw [gJ o6,if_neg Pc] at hj;exact hj
       obtain ⟨u,h1,h2⟩:=De j o d w6 ho nz hd
       refine ⟨u,?_,by rw [Ea Pc];exact h2.mono Jg.jX⟩
       cases Al:(all[i]).dst with
       | none=>simpa [Act.put] using h1
       | some d'=>
         have wV:d'≠d:=fun e=>hU j i o all[i] d (L.head j w6) Bf Pc ho wb nz hd (by rw [Al,e])
         simp [Act.put,wV,h1]
    simp only [wpOp,wb]
    rcases qX with ⟨hw,P2⟩ | ⟨hw,nz⟩
    ·rw [if_pos (sI hw tM)]
     exact .inl (P2 w S a hJ C9 (P7.sub (List.sublist_append_left _ _)) tM _ _ (fun b v w' S' Jg Jh nQ=>next b v w' S' Jg Jh nQ))
    ·rw [if_neg (by rw [sI hw tM];simp)]
     obtain ⟨e1,e2⟩:=nz ⟨none,0⟩
     replace e1:jy tk i (mK β i ⟨none,0⟩)=ry tk i β:=e1
     refine next ⟨none,0⟩ _ w S (by rw [e1];exact iF.refl _ _ _) (by rw [e1];exact P7.sub (List.sublist_append_left _ _)) ?_
     rw [e2];exact .raw _
end order
end Go.Eng
namespace Go.Eng
open Go
variable [bD]
theorem G1 {P:Program} {o:Oper} {a:Act} {K0 K:Act→World→Prop} {G:Act→World→Prop} {Q':Exit→Act→World→Prop} (hK:∀ v w',K0 (a.put o.dst v) w'→K (a.put o.dst v) w') (hd:∀ a' w',K0 a' w'→a'.defers=[]):
 ∀ r,o.upon P a K0 (tI G) r→o.upon P a K Q' r:=by
 intro r h
 unfold Oper.upon at *
 split at h
 ·exact hK _ _ h
 ·exact hK _ _ h
 ·rename_i d w'
  have:=hd _ _ h
  cases BL:o.dst<;>simp [Act.put,BL] at this
 ·refine Calls.mono h ?_
  intro e w' he
  cases e with
  | returned v=>exact hK _ _ he
  | panicked c=>cases he.1
  | outgrown=>obtain ⟨a0,w0,h0⟩:=he;cases h0.1
 ·exact Rows.mono h fun v w' hv=>hK _ _ hv
 ·cases h.1
 ·exact h.elim
theorem Ji {P:Program} {all:Array Oper} {o:Oper} {σ:St} {Q:St→Prop} (hg:o.guard=none) (h:ae P all [o] σ Q) {w:World} {S:Nat→Prop} {a:Act} (r:df w S σ a) {K:Act→World→Prop} {Q':Exit→Act→World→Prop}
 (hK:∀ v w',OX w S σ.hp Q (a.put o.dst v) w'→K (a.put o.dst v) w'):o.wp P a w K Q':=by
 have:=h w S a r
 unfold wpList at this
 rw [if_pos (by simp [Region.wanted,hg])] at this
 rcases this with h1 | ⟨_,a0,w0,h0,_⟩
 ·refine G1 (G:=OX w S σ.hp Q) (fun v w' hh=>hK v w' hh.2) (fun a' w' hh=>?_) _ h1
  obtain ⟨_,aC,S',_,hr,_⟩:=hh
  exact hr.defers
 ·cases h0
variable {P:Program} {all:Array Oper} {n:Nat} {B:Heap} {tk:List Tok}
def Jj (x:Option AV) (c:(Nat→Bk)→Env) (d:Option Nat) (V:Bk→AV) (i:Nat):(Nat→Bk)→Env:=fun β=>match x with | none=>mF (c β) d (some (V (β i))) | some _=>c β
inductive KF (P:Program) (all:Array Oper) (n:Nat) (B:Heap) (tk:List Tok) (dy:List Nat):Nat→List Oper→Env→((Nat→Bk)→Env)→List (Option AV×(Bk→AV))→Env→Prop
 | nil (i:Nat) (e:Env) (c:(Nat→Bk)→Env):KF P all n B tk dy i [] e c [] e
 | cons {i:Nat} {o:Oper} {l:List Oper} {e e':Env} {c:(Nat→Bk)→Env} {D:List (Option AV×(Bk→AV))} {x:Option AV} {V:Bk→AV} (h:∀ β,∀ X∈s9 tk i β,oQ P all n (X++B) o (Fg e (c β)) (ry tk i β) V (fun b=>jy tk i (mK β i b))) (hv:∀ av,x=some av→∀ b,V b=av) (hx:x=none→dy.contains i=true)
  (k:KF P all n B tk dy (i+1) l (mF e o.dst x) (Jj x c o.dst V i) D e'):KF P all n B tk dy i (o :: l) e c ((x,V) :: D) e'
def vw (β:Nat→Bk):Nat→List Oper→List (Option AV×(Bk→AV))→List (Nat×AV)→List (Nat×AV)
 | i,o :: l,(none,V) :: D,a=>match o.dst with
   | some d=>vw β (i+1) l D ((d,V (β i)) :: a)
   | none=>vw β (i+1) l D a
 | i,_ :: l,(some _,_) :: D,a=>vw β (i+1) l D a
 | _,_,_,a=>a
def AT (P:Program) (all:Array Oper) (n:Nat) (B:Heap) (tk:List Tok) (dy:List Nat) (i:Nat) (l:List Oper) (tm:List (Nat×AV)) (acc:(Nat→Bk)→List (Nat×AV)) (Q:(Nat→Bk)→List (Nat×AV)→Prop):Prop:=
 ∃ D nB,KF P all n B tk dy i l (lk tm) (fun β=>lk (acc β)) D (lk nB)∧∀ β,Q β (vw β i l D (acc β)++nB)
section rules
variable {dy:List Nat} {i:Nat} {rest:List Oper} {tm:List (Nat×AV)} {acc:(Nat→Bk)→List (Nat×AV)} {Q:(Nat→Bk)→List (Nat×AV)→Prop} {d:Nat} {ty:TypeId} {pos:String} {af:Array Edge} {op:Op}
theorem AT.nil {F:(Nat→Bk)→List (Nat×AV)} (hF:∀ β,F β=acc β++tm) (h:∀ β,Q β (F β)):AT P all n B tk dy i [] tm acc Q:=
 ⟨[],tm,.nil _ _ _,fun β=>by rw [show vw β i [] [] (acc β)=acc β from rfl,← hF];exact h β⟩
theorem AT.RW {o:Oper} {d:Nat} {av:AV} (hd:o.dst=some d) (h:∀ β,∀ X∈s9 tk i β,oQ P all n (X++B) o (Fg (lk tm) (lk (acc β))) (ry tk i β) (fun _=>av) (fun b=>jy tk i (mK β i b))) (k:AT P all n B tk dy (i+1) rest ((d,av) :: tm) acc Q):AT P all n B tk dy i (o :: rest) tm acc Q:=by
 obtain ⟨D,nB,k1,k2⟩:=k
 refine ⟨(some av,fun _=>av) :: D,nB,.cons h (fun ep e b=>Option.some.inj e) (fun e=>by cases e) ?_,k2⟩
 have:mF (lk tm) o.dst (some av)=lk ((d,av) :: tm):=by
  rw [sJ,hd];rfl
 rw [this];exact k1
theorem AT.dyn {o:Oper} {d:Nat} {V:Bk→AV} (hd:o.dst=some d) (wE:lk tm d=none) (P9:dy.contains i=true) (h:∀ β,∀ X∈s9 tk i β,oQ P all n (X++B) o (Fg (lk tm) (lk (acc β))) (ry tk i β) V (fun b=>jy tk i (mK β i b))) (k:AT P all n B tk dy (i+1) rest tm (fun β=>(d,V (β i)) :: acc β) Q):AT P all n B tk dy i (o :: rest) tm acc Q:=by
 obtain ⟨D,nB,k1,k2⟩:=k
 refine ⟨(none,V) :: D,nB,.cons h (fun ep e b=>by cases e) (fun _=>P9) ?_,fun β=>?_⟩
 ·have:mF (lk tm) o.dst none=lk tm:=by
   funext s
   rw [hd]
   simp only [mF]
   split
   ·rename_i e;subst e;exact wE.symm
   ·rfl
  rw [this]
  have e2:Jj none (fun β=>lk (acc β)) o.dst V i=fun β=>lk ((d,V (β i)) :: acc β):=by
   funext β
   simp only [Jj,hd]
   rw [sJ];rfl
  rw [e2];exact k1
 ·have:=k2 β
  simp only [vw,hd]
  exact this
theorem AT.U7 {o:Oper} (hd:o.dst=none) (h:∀ β,∀ X∈s9 tk i β,oQ P all n (X++B) o (Fg (lk tm) (lk (acc β))) (ry tk i β) (fun _=>.raw undef) (fun b=>jy tk i (mK β i b))) (k:AT P all n B tk dy (i+1) rest tm acc Q):AT P all n B tk dy i (o :: rest) tm acc Q:=by
 obtain ⟨D,nB,k1,k2⟩:=k
 refine ⟨(some (.raw undef),fun _=>.raw undef) :: D,nB,.cons h (fun ep e b=>Option.some.inj e) (fun e=>by cases e) ?_,k2⟩
 rw [hd];exact k1
def pF (tk:List Tok) (i j:Nat):Bool:=tk.all fun t=>(match t.prod with | some p=>Nat.blt p i||Nat.ble j p | none=>true)&&(match t.cons with | some p=>Nat.blt p i||Nat.ble j p | none=>true)&&((t.P5.all fun p=>Nat.blt p i||Nat.ble j p)&&t.RR.all fun p=>Nat.blt p i||Nat.ble j p)
theorem BM {i j:Nat} (h:pF tk i j=true) {k:Nat} (h1:i≤k) (h2:k < j) (β:Nat→Bk):ry tk k β=[]:=by
 unfold ry
 rw [List.map_eq_nil_iff,List.filter_eq_nil_iff]
 intro t ht hc
 have:=List.all_eq_true.1 h t ht
 rw [Bool.and_eq_true,Bool.and_eq_true] at this
 replace this:=this.1
 unfold wK at hc
 split at hc
 ·rename_i c CZ
  obtain rfl:c=k:=Nat.eq_of_beq_eq_true hc
  have:=this.2
  rw [CZ] at this
  simp at this;omega
 ·cases hc
theorem zp {i j:Nat} (h:pF tk i j=true) {k:Nat} (h1:i≤k) (h2:k < j) (β:Nat→Bk):jy tk k β=[]:=by
 unfold jy
 rw [List.map_eq_nil_iff,List.filter_eq_nil_iff]
 intro t ht hc
 have:=List.all_eq_true.1 h t ht
 rw [Bool.and_eq_true,Bool.and_eq_true] at this
 replace this:=this.1
 unfold Jd at hc
 split at hc
 ·rename_i c CZ
  obtain rfl:c=k:=Nat.eq_of_beq_eq_true hc
  have:=this.1
  rw [CZ] at this
  simp at this;omega
 ·cases hc
theorem G2 {i j:Nat} (h:pF tk i j=true) {k:Nat} (h1:i≤k) (h2:k < j) (β:Nat→Bk):uB tk k β=[]:=by
 unfold uB
 rw [List.map_eq_nil_iff,List.filter_eq_nil_iff]
 intro t ht hc
 have:=List.all_eq_true.1 h t ht
 rw [Bool.and_eq_true] at this
 have h3:=List.all_eq_true.1 (Bool.and_eq_true_iff.1 this.2).1 k (by simpa [D9] using hc)
 simp at h3;omega
theorem zq {i j:Nat} (h:pF tk i j=true) {k:Nat} (h1:i≤k) (h2:k < j) (β:Nat→Bk):s9 tk k β=[[]]:=by
 have e:tk.filter (IC k)=[]:=by
  rw [List.filter_eq_nil_iff]
  intro t ht hc
  have:=List.all_eq_true.1 h t ht
  rw [Bool.and_eq_true] at this
  have h3:=List.all_eq_true.1 (Bool.and_eq_true_iff.1 this.2).2 k (by simpa [IC] using hc)
  simp at h3;omega
 unfold s9
 rw [e,G2 h h1 h2 β]
theorem xC (e:Env) (d:Option Nat) (av:AV):mF e d (some av)=sY e d av:=by
 cases d<;>rfl
theorem BN {o:Oper} {e:Env} {av:AV} (hd:∀ d,o.dst=some d→d < n) (hg:lz all o e true) (h:MV P all n o e B av):oQ P all n B o e [] (fun _=>av) (fun _=>[]):=by
 refine ⟨hd,.inl ⟨hg,fun w S a h1 h2 h3 h4 K Q hK=>?_⟩⟩
 exact h w S a h1 h2 h3 h4 K Q (fun v w' S' KC nQ=>hK ⟨none,0⟩ v w' S' (KC.RM h3.slt _) (h3.grow KC) nQ)
theorem NJ:∀ {l1:List Oper} {e e':Env} {i:Nat} (h:I7 P all n B l1 e e') (hn:pF tk i (i+l1.length)=true) {l2:List Oper} {c:(Nat→Bk)→Env} {D:List (Option AV×(Bk→AV))} {e2:Env},KF P all n B tk dy (i+l1.length) l2 e' c D e2→
 ∃ D1,KF P all n B tk dy i (l1++l2) e c (D1++D) e2∧D1.length=l1.length∧∀ x∈D1,x.1.isSome=true:=by
 intro l1 e e' i h
 induction h generalizing i with
 | nil e=>intro hn l2 c D e2 k;exact ⟨[],by simpa using k,rfl,by simp⟩
 | @run o l e e' av hg hm hd k ih=>
   intro hn l2 c D e2 kk
   have Eb:pF tk (i+1) (i+1+l.length)=true:=by
    unfold pF at hn ⊢
    rw [List.all_eq_true] at hn ⊢
    intro t ht
    have:=hn t ht
    rw [Bool.and_eq_true,Bool.and_eq_true] at this ⊢
    refine ⟨⟨?_,?_⟩,?_⟩
    ·have h1:=this.1.1
     cases hp:t.prod<;>rw [hp] at h1<;>simp_all<;>omega
    ·have h1:=this.1.2
     cases hp:t.cons<;>rw [hp] at h1<;>simp_all<;>omega
    ·have h1:=this.2
     rw [Bool.and_eq_true,List.all_eq_true,List.all_eq_true] at h1 ⊢
     exact ⟨fun p hp=>by have:=h1.1 p hp;simp at this ⊢;omega,fun p hp=>by have:=h1.2 p hp;simp at this ⊢;omega⟩
   obtain ⟨D1,a1,a2,a3⟩:=ih Eb (l2:=l2) (D:=D) (e2:=e2) (by rw [show i+1+l.length=i+(o :: l).length by simp;omega];exact kk)
   refine ⟨(some av,fun _=>av) :: D1,?_,by simp [a2],?_⟩
   ·refine .cons (fun β X hX=>?_) (fun ep e b=>Option.some.inj e) (fun e=>by cases e) (by rw [xC];exact a1)
    rw [zq hn (Nat.le_refl _) (by simp)] at hX
    obtain rfl:=List.mem_singleton.1 hX
    rw [BM hn (Nat.le_refl _) (by simp),show (fun b=>jy tk i (mK β i b))=fun _=>[] from funext fun b=>zp hn (Nat.le_refl _) (by simp) _]
    exact (BN hd hg hm).up
   ·intro x hx
    rcases List.mem_cons.1 hx with rfl | hx
    ·rfl
    ·exact a3 x hx
 | @pass o l e e' hg hd k ih=>
   intro hn l2 c D e2 kk
   have Eb:pF tk (i+1) (i+1+l.length)=true:=by
    unfold pF at hn ⊢
    rw [List.all_eq_true] at hn ⊢
    intro t ht
    have:=hn t ht
    rw [Bool.and_eq_true,Bool.and_eq_true] at this ⊢
    refine ⟨⟨?_,?_⟩,?_⟩
    ·have h1:=this.1.1
     cases hp:t.prod<;>rw [hp] at h1<;>simp_all<;>omega
    ·have h1:=this.1.2
     cases hp:t.cons<;>rw [hp] at h1<;>simp_all<;>omega
    ·have h1:=this.2
     rw [Bool.and_eq_true,List.all_eq_true,List.all_eq_true] at h1 ⊢
     exact ⟨fun p hp=>by have:=h1.1 p hp;simp at this ⊢;omega,fun p hp=>by have:=h1.2 p hp;simp at this ⊢;omega⟩
   obtain ⟨D1,a1,a2,a3⟩:=ih Eb (l2:=l2) (D:=D) (e2:=e2) (by rw [show i+1+l.length=i+(o :: l).length by simp;omega];exact kk)
   refine ⟨(some (.raw undef),fun _=>.raw undef) :: D1,?_,by simp [a2],?_⟩
   ·refine .cons (fun β X hX=>?_) (fun ep e b=>Option.some.inj e) (fun e=>by cases e) (by rw [xC];exact a1)
    rw [zq hn (Nat.le_refl _) (by simp)] at hX
    obtain rfl:=List.mem_singleton.1 hX
    rw [BM hn (Nat.le_refl _) (by simp),show (fun b=>jy tk i (mK β i b))=fun _=>[] from funext fun b=>zp hn (Nat.le_refl _) (by simp) _]
    exact ⟨hd,.inr ⟨hg.up,fun b=>⟨rfl,rfl⟩⟩⟩
   ·intro x hx
    rcases List.mem_cons.1 hx with rfl | hx
    ·rfl
    ·exact a3 x hx
theorem zr (β:Nat→Bk):∀ {l1:List Oper} {D1:List (Option AV×(Bk→AV))} (i:Nat) {l2:List Oper} {D:List (Option AV×(Bk→AV))} (a:List (Nat×AV)),D1.length=l1.length→(∀ x∈D1,x.1.isSome=true)→vw β i (l1++l2) (D1++D) a=vw β (i+l1.length) l2 D a
 | [],[],i,l2,D,a,_,_=>by simp
 | o :: l1,(some av,V) :: D1,i,l2,D,a,h,hs=>by
   simp only [List.cons_append,vw]
   rw [zr β (i+1) a (by simpa using h) (fun x hx=>hs x (by simp [hx]))]
   simp [Nat.add_assoc,Nat.add_comm 1]
 | o :: l1,(none,V) :: D1,i,l2,D,a,h,hs=>by have:=hs (none,V) (by simp);cases this
 | [],_ :: _,i,l2,D,a,h,hs=>by cases h
 | _ :: _,[],i,l2,D,a,h,hs=>by cases h
theorem AT.am {l l1 l2:List Oper} (m:Nat) (hs:BD m l=some (l1,l2)) (hn:pF tk i (i+m)=true) (h:AM P all n B l1 tm (fun nB=>AT P all n B tk dy (i+m) l2 nB acc Q)):AT P all n B tk dy i l tm acc Q:=by
 obtain ⟨rfl,rfl⟩:=sK hs
 obtain ⟨Bg,h1,D,nB,h2,h3⟩:=h
 obtain ⟨D1,a1,a2,a3⟩:=NJ h1 hn h2
 refine ⟨D1++D,nB,a1,fun β=>?_⟩
 rw [zr β i (acc β) a2 a3]
 exact h3 β
theorem vx {o:Oper} {Ti H1:Heap} {V:Bk→AV} {Pi H2:Bk→Heap} (hg:o.guard=none) (hd:∀ d,o.dst=some d→d < n) (h1:pT Ti B=some H1) (h2:∀ b,pT (Pi b) B=some (H2 b))
 (rZ:ae P all [o] ⟨n,CY (looks all o) tm,H1⟩ (fun aC=>∃ b Bg,aC=⟨n,Bg,H2 b⟩∧∀ d,o.dst=some d→lk Bg d=some (V b)))
 (hv:o.dst=none→∀ b,V b=.raw undef):oQ P all n B o (lk tm) Ti V Pi:=by
 refine ⟨hd,.inl ⟨by simp [lz,hg],fun w S a s1 s2 s3 s4 K Q hK=>?_⟩⟩
 have e1:=lV h1
 rw [e1] at s3 hK
 refine Ji hg rZ (oH s1 s2 s3 s4) (fun v w' Qa=>?_)
 obtain ⟨aC,S',⟨b,Bg,rfl,Jk⟩,hr,Jg⟩:=Qa
 have e2:=lV (h2 b)
 cases BL:o.dst with
 | some d=>
   have Ku:=hd d BL
   obtain ⟨u,g1,g2⟩:=hr.tm d _ (Jk d BL)
   have hu:u=v:=by
    rw [BL] at g1
    simp [Act.put,s1,Ku] at g1
    exact g1.symm
   rw [hu] at g2
   rw [← BL]
   exact hK b v w' S' (by rw [e2];exact Jg) (by rw [e2];exact hr.hp) g2
 | none=>
   have:a.put none v=a.put o.dst undef:=by rw [BL];rfl
   rw [this]
   exact hK b undef w' S' (by rw [e2];exact Jg) (by rw [e2];exact hr.hp) (by rw [hv BL b];exact .raw _)
theorem AT.xD {av:AV} {Ti H1 Pi H2:Heap} (Ja:∀ β,s9 tk i β=[[]]) (Lu:∀ β,ry tk i β=Ti) (Lv:∀ β,jy tk i β=Pi) (h1:pT Ti B=some H1) (h2:pT Pi B=some H2) (hn:Nat.blt d n=true)
 (rZ:ae P all [⟨some d,op,ty,pos,af,none⟩] ⟨n,CY (looks all ⟨some d,op,ty,pos,af,none⟩) tm,H1⟩ (fun aC=>∃ Bg,aC=⟨n,Bg,H2⟩∧lk Bg d=some av))
 (k:AT P all n B tk dy (i+1) rest ((d,av) :: tm) acc Q):AT P all n B tk dy i (⟨some d,op,ty,pos,af,none⟩ :: rest) tm acc Q:=by
 refine AT.RW rfl (fun β X hX=>?_) k
 rw [Ja β] at hX
 obtain rfl:=List.mem_singleton.1 hX
 rw [List.nil_append,Lu β,show (fun b=>jy tk i (mK β i b))=fun _=>Pi from funext fun b=>Lv _]
 refine oQ.up ?_
 refine vx rfl (fun d' uC=>by obtain rfl:=Option.some.inj uC;simpa using hn) h1 (fun _=>h2) ?_ (fun e=>by cases e)
 refine fun w S a r=>iu ?_ _ _ _ (rZ w S a r)
 rintro e a' w' ⟨he,aC,S',⟨Bg,q1,q2⟩,hh⟩
 exact ⟨he,aC,S',⟨⟨none,0⟩,Bg,q1,fun d' uC=>by obtain rfl:=Option.some.inj uC;exact q2⟩,hh⟩
theorem AT.Fj {V:Bk→AV} {Ti H1:Heap} {Pi H2:Bk→Heap} (Ja:∀ β,s9 tk i β=[[]]) (Lu:∀ β,ry tk i β=Ti) (Lv:∀ β b,jy tk i (mK β i b)=Pi b) (h1:pT Ti B=some H1) (h2:∀ b,pT (Pi b) B=some (H2 b)) (hn:Nat.blt d n=true) (wE:lk tm d=none) (P9:dy.contains i=true)
 (rZ:ae P all [⟨some d,op,ty,pos,af,none⟩] ⟨n,CY (looks all ⟨some d,op,ty,pos,af,none⟩) tm,H1⟩ (fun aC=>∃ b Bg,aC=⟨n,Bg,H2 b⟩∧lk Bg d=some (V b)))
 (k:AT P all n B tk dy (i+1) rest tm (fun β=>(d,V (β i)) :: acc β) Q):AT P all n B tk dy i (⟨some d,op,ty,pos,af,none⟩ :: rest) tm acc Q:=by
 refine AT.dyn rfl wE P9 (fun β X hX=>?_) k
 rw [Ja β] at hX
 obtain rfl:=List.mem_singleton.1 hX
 rw [List.nil_append,Lu β,show (fun b=>jy tk i (mK β i b))=Pi from funext (Lv β)]
 refine oQ.up ?_
 refine vx rfl (fun d' uC=>by obtain rfl:=Option.some.inj uC;simpa using hn) h1 h2 ?_ (fun e=>by cases e)
 refine fun w S a r=>iu ?_ _ _ _ (rZ w S a r)
 rintro e a' w' ⟨he,aC,S',⟨b,Bg,q1,q2⟩,hh⟩
 exact ⟨he,aC,S',⟨b,Bg,q1,fun d' uC=>by obtain rfl:=Option.some.inj uC;exact q2⟩,hh⟩
theorem AT.yS {Ti H1 Pi H2:Heap} (Ja:∀ β,s9 tk i β=[[]]) (Lu:∀ β,ry tk i β=Ti) (Lv:∀ β,jy tk i β=Pi) (h1:pT Ti B=some H1) (h2:pT Pi B=some H2)
 (rZ:ae P all [⟨none,op,ty,pos,af,none⟩] ⟨n,CY (looks all ⟨none,op,ty,pos,af,none⟩) tm,H1⟩ (fun aC=>∃ Bg,aC=⟨n,Bg,H2⟩))
 (k:AT P all n B tk dy (i+1) rest tm acc Q):AT P all n B tk dy i (⟨none,op,ty,pos,af,none⟩ :: rest) tm acc Q:=by
 refine AT.U7 rfl (fun β X hX=>?_) k
 rw [Ja β] at hX
 obtain rfl:=List.mem_singleton.1 hX
 rw [List.nil_append,Lu β,show (fun b=>jy tk i (mK β i b))=fun _=>Pi from funext fun b=>Lv _]
 refine oQ.up ?_
 refine vx rfl (fun d' uC=>by cases uC) h1 (fun _=>h2) ?_ (fun _ b=>rfl)
 refine fun w S a r=>iu ?_ _ _ _ (rZ w S a r)
 rintro e a' w' ⟨he,aC,S',⟨Bg,q1⟩,hh⟩
 exact ⟨he,aC,S',⟨⟨none,0⟩,Bg,q1,fun d' uC=>by cases uC⟩,hh⟩
theorem AT.rd {av:AV} {Rs H1:Heap} (hr:∀ β,s9 tk i β=[Rs]) (h1:pT Rs B=some H1) (Lu:∀ β,ry tk i β=[]) (Lv:∀ β,jy tk i β=[])
 (q:QV P ⟨some d,op,ty,pos,af,none⟩ ⟨n,CY (looks all ⟨some d,op,ty,pos,af,none⟩) tm,H1⟩ av) (hn:Nat.blt d n=true)
 (k:AT P all n B tk dy (i+1) rest ((d,av) :: tm) acc Q):AT P all n B tk dy i (⟨some d,op,ty,pos,af,none⟩ :: rest) tm acc Q:=by
 refine AT.RW rfl (fun β X hX=>?_) k
 rw [hr β] at hX
 obtain rfl:=List.mem_singleton.1 hX
 rw [lV h1,Lu β,show (fun b=>jy tk i (mK β i b))=fun _=>[] from funext fun b=>Lv _]
 refine oQ.up ?_
 refine BN (fun d' uC=>by obtain rfl:=Option.some.inj uC;simpa using hn) rfl (fun w S a s1 s2 s3 s4 K Q' hK=>?_)
 obtain ⟨v,g1,g2⟩:=q w S a (oH s1 s2 s3 s4)
 show Oper.upon P _ a K Q' _
 rw [g1 w (Ext.refl w)]
 exact hK v w S (Grow.refl s3.slt) g2
end rules
end Go.Eng
namespace Go.Eng
open Go
variable [bD]
theorem KF.C7 {P:Program} {all:Array Oper} {n:Nat} {B:Heap} {tk:List Tok} {dy:List Nat} {i:Nat} {l:List Oper} {e e':Env} {c:(Nat→Bk)→Env} {D:List (Option AV×(Bk→AV))} (h:KF P all n B tk dy i l e c D e'):
 ∃ (en:Nat→Env) (cn:Nat→(Nat→Bk)→Env),en i=e∧cn i=c∧en (i+l.length)=e'∧D.length=l.length∧∀ j o x V,l[j]? =some o→D[j]? =some (x,V)→
   (∀ β,∀ X∈s9 tk (i+j) β,oQ P all n (X++B) o (Fg (en (i+j)) (cn (i+j) β)) (ry tk (i+j) β) V (fun b=>jy tk (i+j) (mK β (i+j) b)))∧en (i+j+1)=mF (en (i+j)) o.dst x∧(∀ av,x=some av→∀ b,V b=av)∧(x=none→dy.contains (i+j)=true)∧cn (i+j+1)=Jj x (cn (i+j)) o.dst V (i+j):=by
 induction h with
 | nil i e c=>exact ⟨fun _=>e,fun _=>c,rfl,rfl,rfl,rfl,fun j o x V h=>by simp at h⟩
 | @cons i o l e e' c D x V h hv hx k ih=>
   obtain ⟨en,cn,h0,Lp,h1,h2,h3⟩:=ih
   refine ⟨fun k=>if k=i then e else en k,fun k=>if k=i then c else cn k,by simp,by simp,?_,by simp [h2],fun j o' x' V' ho hD=>?_⟩
   ·show (if i+(o :: l).length=i then e else en (i+(o :: l).length))=e'
    rw [if_neg (by simp),← h1]
    congr 1
    simp;omega
   ·match j with
    | 0=>
      simp at ho hD
      obtain ⟨rfl,rfl⟩:=hD
      subst ho
      simp only [Nat.add_zero,if_true]
      refine ⟨h,?_,hv,hx,?_⟩
      ·rw [if_neg (by omega),h0]
      ·rw [if_neg (by omega),Lp]
    | j+1=>
      have:=h3 j o' x' V' (by simpa using ho) (by simpa using hD)
      rw [show i+1+j=i+(j+1) by omega] at this
      simp only
      rw [if_neg (show ¬ i+(j+1)=i by omega),if_neg (show ¬ i+(j+1)+1=i by omega),if_neg (show ¬ i+(j+1)=i by omega),if_neg (show ¬ i+(j+1)+1=i by omega)]
      exact this
def KG (l:List Oper) (dy:List Nat):Bool:=dy.all fun i=>(List.range l.length).all fun j=>Nat.beq i j||(match l[i]?,l[j]? with
 | some oi,some oj=>(match oi.dst,oj.dst with | some d,some d'=>!Nat.beq d d' | _,_=>true)
 | _,_=>true)
theorem Df {l:List Oper} {dy:List Nat} (h:KG l dy=true) {i j:Nat} {oi oj:Oper} {d:Nat} (hi:dy.contains i=true) (uk:i≠j) (h1:l[i]? =some oi) (h2:l[j]? =some oj) (hd:oi.dst=some d):oj.dst≠some d:=by
 intro uC
 have hm:i∈dy:=by simpa using hi
 have hj:j < l.length:=(List.getElem?_eq_some_iff.1 h2).1
 have:=List.all_eq_true.1 (List.all_eq_true.1 h i hm) j (List.mem_range.2 hj)
 rw [h1,h2] at this
 simp only [hd,uC] at this
 have hb:Nat.beq i j=false:=nd uk
 rw [hb] at this
 simp at this
def G3 (tk:List Tok):Heap:=(tk.filter (fun t=>t.prod.isNone)).map (fun t=>t.at (fun _=>⟨none,0⟩))
theorem G4:∀ (a b:List (Nat×AV)) (s:Nat) (av:AV),lk (a++b) s=some av→lk a s=some av∨lk b s=some av
 | [],b,s,av,h=>.inr h
 | (k,v) :: a,b,s,av,h=>by
   simp only [List.cons_append,lk] at h ⊢
   split at h
   ·exact .inl h
   ·exact G4 a b s av h
theorem uD (β:Nat→Bk):∀ (l:List Oper) (D:List (Option AV×(Bk→AV))) (i:Nat) (a:List (Nat×AV)) (s:Nat) (av:AV),lk (vw β i l D a) s=some av→lk a s=some av∨∃ (j:Nat) (o:Oper) (V:Bk→AV),l[j]? =some o∧D[j]? =some (none,V)∧o.dst=some s∧av=V (β (i+j))
 | [],D,i,a,s,av,h=>by
   have:vw β i [] D a=a:=by cases D<;>rfl
   rw [this] at h;exact .inl h
 | o :: l,[],i,a,s,av,h=>.inl h
 | o :: l,(some x,V) :: D,i,a,s,av,h=>by
   simp only [vw] at h
   rcases uD β l D (i+1) a s av h with h | ⟨j,o',V',h1,h2,h3,h4⟩
   ·exact .inl h
   ·exact .inr ⟨j+1,o',V',by simpa using h1,by simpa using h2,h3,by rw [h4];congr 2;omega⟩
 | o :: l,(none,V) :: D,i,a,s,av,h=>by
   simp only [vw] at h
   cases hd:o.dst with
   | none=>
     rw [hd] at h
     rcases uD β l D (i+1) a s av h with h | ⟨j,o',V',h1,h2,h3,h4⟩
     ·exact .inl h
     ·exact .inr ⟨j+1,o',V',by simpa using h1,by simpa using h2,h3,by rw [h4];congr 2;omega⟩
   | some d=>
     rw [hd] at h
     rcases uD β l D (i+1) _ s av h with h5 | ⟨j,o',V',h1,h2,h3,h4⟩
     ·simp only [lk] at h5
      split at h5
      ·rename_i hb
       obtain rfl:d=s:=by simpa using hb
       exact .inr ⟨0,o,V,rfl,rfl,hd,by simpa using (Option.some.inj h5).symm⟩
      ·exact .inl h5
     ·exact .inr ⟨j+1,o',V',by simpa using h1,by simpa using h2,h3,by rw [h4];congr 2;omega⟩
theorem ab.j6 {P:Program} {R:St→Prop} {k:List It} {id n:Nat} {tm:List (Nat×AV)} {hp:Heap} {l hd tl:List Oper} (m:Nat) (hm:P.follows .mixedOrders=true) (hs:BD m l=some (hd,tl)) {A:List Nat} (hA:E6 l.toArray=A) (P3:Bz l.toArray m A=true)
 (tk:List Tok) (dy:List Nat) (NK:(NF A m tk&&KE A m tk)=true) (U8:KG hd dy=true) {B H0:Heap} (Bq:G3 tk=H0) (Qb:BF hp H0 B) {HH:(Nat→Bk)→Heap} (G5:∀ β,pT (GX tk β) B=some (HH β))
 (h:AT P l.toArray n B tk dy 0 hd tm (fun _=>[]) (fun β nB=>ae P l.toArray tl ⟨n,nB,HH β⟩ (ab P R k))):ab P R (.code (.region id l.toArray true) :: k) ⟨n,tm,hp⟩:=by
 have hB:qW l.toArray m:=⟨A,hA,P3⟩
 have hT:xB l.toArray m tk:=Fe hA (Bool.and_eq_true_iff.1 NK).1
 intro w S a r
 obtain ⟨hl,Jb⟩:=sK hs
 obtain ⟨D,nB,U9,rZ⟩:=h
 obtain ⟨en,cn,e0,Va,e1,e2,e3⟩:=U9.C7
 rw [Nat.zero_add,Jb] at e1
 have hJ:m≤l.toArray.size:=by simp [hl,Jb]
 let kq:Nat→Option AV:=fun j=>(D[j]?).bind (·.1)
 let V:Nat→Bk→AV:=fun j=>match D[j]? with | some x=>x.2 | none=>fun _=>.nil
 have Dg:∀ j o,j < m→l.toArray[j]? =some o→hd[j]? =some o:=by
  intro j o hj ho
  have:l[j]? =some o:=by simpa using ho
  rw [hl,List.getElem?_append_left (by omega)] at this
  exact this
 have hD:∀ j,j < m→∃ x W,D[j]? =some (x,W)∧kq j=x∧V j=W:=by
  intro j hj
  have:j < D.length:=by rw [e2,Jb];exact hj
  refine ⟨D[j].1,D[j].2,by simp [this],?_,?_⟩
  ·simp [kq,this]
  ·simp [V,this]
 refine wp_region_any hm ?_
 have xx:Ext w {w with drawn:=w.drawn+1}:=Ext.Gq w _ (Nat.le_succ _)
 let Pd:Nat→Bk:=fun _=>⟨none,0⟩
 have hf:∀ k,(Array.replicate l.toArray.size false).getD k false=false:=by
  intro k
  rcases Nat.lt_or_ge k l.toArray.size with h | h
  ·simp at h;simp [h]
  ·simp at h;simp [Nat.not_lt.2 h]
 have Lp:∀ k,ru l.toArray kq (lk tm) (Array.replicate l.toArray.size false) k=lk tm:=by
  intro k
  induction k with
  | zero=>rfl
  | succ k ih=>simp only [ru,ih];rw [if_neg (by rw [hf k];simp)]
 have MJ:oq tk (Array.replicate l.toArray.size false) Pd=H0:=by
  rw [← Bq]
  unfold oq G3
  have e:tk.filter (tT (Array.replicate l.toArray.size false))=tk.filter (fun t=>t.prod.isNone):=by
   apply List.filter_congr
   intro t ht
   unfold tT
   cases t.prod with
   | none=>
     cases t.cons with
     | none=>rfl
     | some c=>simp only [hf c,Bool.not_false,Bool.and_self,Option.isNone]
   | some p=>simp only [hf p,Bool.false_and,Option.isNone]
  rw [e]
 have kr:=Qb.perm
 have Vb:bZ {w with drawn:=w.drawn+1} S (oq tk (Array.replicate l.toArray.size false) Pd++B):=by
  rw [MJ];exact (r.hp.ext xx).perm kr
 have Vc:iF w S hp {w with drawn:=w.drawn+1} S (oq tk (Array.replicate l.toArray.size false) Pd++B):=by
  rw [MJ]
  have:=iF.ext (h:=hp) r.hp.slt xx
  exact {this with new:=fun k hk=>this.new k (by
   obtain ⟨x,hx,hb⟩:=hk
   exact ⟨x,kr.mem_iff.2 hx,hb⟩)}
 refine Fh (P:=P) (all:=l.toArray) (n:=n) (m:=m) (kq:=kq) (en:=en) (cn:=cn) (e:=lk tm) (V:=V) (B:=B) (tk:=tk) hB hT (Dd hA (Bool.and_eq_true_iff.1 NK).2) hJ e0 (fun β s=>by rw [Va];rfl) ?_ ?_ ?_ (w0:=w) (S0:=S) (Pb:=hp) ?_ l.toArray.size (Array.replicate l.toArray.size false) a _ S Pd
  ⟨by simp,(fun k hk=>by rw [hf k] at hk;cases hk),(fun k i o hk=>by rw [hf k] at hk;cases hk)⟩ (by simp [List.count_replicate]) r.size r.defers Vb Vc (by rw [Lp];exact (r.ext xx).tm) (fun j o d hj=>by rw [hf j] at hj;cases hj)
 ·intro i o hi ho β
  obtain ⟨x,W,d1,d2,d3⟩:=hD i hi
  have:=e3 i o x W (Dg i o hi ho) d1
  rw [Nat.zero_add] at this
  rw [d2,d3,this.2.2.2.2];rfl
 ·intro i o hi ho
  obtain ⟨x,W,d1,d2,d3⟩:=hD i hi
  have:=e3 i o x W (Dg i o hi ho) d1
  rw [Nat.zero_add] at this
  rw [d2,d3]
  exact ⟨this.1,this.2.1,this.2.2.1⟩
 ·intro i j oi oj d hi hj uk wb ID nz Al
  obtain ⟨x,W,d1,d2,d3⟩:=hD i hi
  have:=e3 i oi x W (Dg i oi hi wb) d1
  rw [Nat.zero_add] at this
  exact Df U8 (this.2.2.2.1 (by rw [← d2];exact nz)) uk (Dg i oi hi wb) (Dg j oj hj ID) Al
 ·intro β a' w' S' h1 h2 h3 h4 h5 h6
  have NA:l.toArray.toList.drop m=tl:=by
   simp only [hl,← Jb]
   exact List.drop_left
  rw [NA]
  rw [lV (G5 β)] at h3 h4
  rw [e1] at h5
  refine iu ?_ _ _ _ ((rZ β).go (h:=hp) (w:=w) (S:=S) ⟨h1,h2,fun s av Jk=>?_,h3⟩ h4)
  ·rintro ex a2 w2 ⟨rfl,DT,S2,q1,q2,q3⟩
   exact ⟨DT,S2,q1,q2,q3⟩
  ·rcases G4 _ _ _ _ Jk with Jk | Jk
   ·rcases uD β hd D 0 [] s av Jk with Jk | ⟨j,o,W,g1,g2,g3,g4⟩
    ·cases Jk
    ·have hj:j < m:=by rw [← Jb];exact (List.getElem?_eq_some_iff.1 g1).1
     obtain ⟨x,W',d1,d2,d3⟩:=hD j hj
     rw [g2] at d1
     obtain ⟨rfl,rfl⟩:=Prod.mk.inj (Option.some.inj d1)
     have ID:l.toArray[j]? =some o:=by
      have:l[j]? =some o:=by rw [hl,List.getElem?_append_left (by omega)];exact g1
      simpa using this
     obtain ⟨v,k1,k2⟩:=h6 j o s hj ID d2 g3
     rw [d3] at k2
     rw [g4,Nat.zero_add]
     exact ⟨v,k1,k2⟩
   ·exact h5 s av Jk
def G6 {α:Type}:List α→List α→Option (List α)
 | [],r=>some r
 | x :: l,r=>match G6 l r with
   | some m=>some (x :: m)
   | none=>none
theorem Ec {α:Type}:∀ {l r m:List α},G6 l r=some m→l++r=m
 | [],r,m,h=>by simpa [G6] using h
 | x :: l,r,m,h=>by
   simp only [G6] at h
   split at h
   ·rename_i m' hm
    obtain rfl:=Option.some.inj h
    rw [List.cons_append,Ec hm]
   ·cases h
theorem AT.uE {P:Program} {all:Array Oper} {n:Nat} {B:Heap} {tk:List Tok} {dy:List Nat} {i:Nat} {tm:List (Nat×AV)} {acc F:(Nat→Bk)→List (Nat×AV)} {Q:(Nat→Bk)→List (Nat×AV)→Prop} (hF:∀ β,G6 (acc β) tm=some (F β)) (h:∀ β,Q β (F β)):AT P all n B tk dy i [] tm acc Q:=
 AT.nil (fun β=>(Ec (hF β)).symm) h
theorem zt {w:World} {S:Nat→Prop} {hp bU:Heap} {b:Bk} {cs kI:List AV} (r:bZ w S hp) (u:jY hp b (.cells cs) b (.cells kI) bU) (hl:kI.length=cs.length) (h1:∀ c∈kI,c.one=true) (nQ:∀ (i:Nat) c c' v,cs[i]? =some c→kI[i]? =some c'→At w S c v→At w S c' v):bZ w S bU∧iF w S hp w S bU:=by
 obtain ⟨pre,post,e1,e2⟩:=u.split
 subst e1;subst e2
 have hblk:∀ n,Has (pre++(b,Ob.cells kI) :: post) n↔Has (pre++(b,Ob.cells cs) :: post) n:=by
  intro n
  constructor<;>rintro ⟨x,hx,hb⟩<;>rcases aY.1 hx with rfl | hx
  ·exact ⟨(b,.cells cs),aY.2 (.inl rfl),hb⟩
  ·exact ⟨x,aY.2 (.inr hx),hb⟩
  ·exact ⟨(b,.cells kI),aY.2 (.inl rfl),hb⟩
  ·exact ⟨x,aY.2 (.inr hx),hb⟩
 refine ⟨⟨?_,?_,?_,r.slt,r.fU⟩,⟨rfl,rfl,rfl,Nat.le_refl _,fun n hn=>⟨hn,rfl⟩,fun n _ _=>⟨rfl,id⟩,fun n hn=>.inl ((hblk n).1 hn),fun _=>Nat.le_refl _⟩⟩
 ·have:=r.nodup
  simpa [List.flatMap_append,List.flatMap_cons,eb,Ob.more] using this
 ·intro x hx
  rcases aY.1 hx with rfl | hx
  ·obtain ⟨h0,n,vs,E,g1,g2,g3,g4⟩:=r.holds (b,.cells cs) (aY.2 (.inl rfl))
   refine ⟨h1,n,vs,E,g1,g2,by rw [hl];exact g3,fun i c v hc hv=>?_⟩
   have hi:i < cs.length:=by rw [← hl];exact (List.getElem?_eq_some_iff.1 hc).1
   have IG:cs[i]? =some cs[i]:=by simp [hi]
   exact nQ i cs[i] c v IG hc (g4 i _ v IG hv)
  ·exact r.holds x (aY.2 (.inr hx))
 ·intro x hx n hn
  rcases aY.1 hx with rfl | hx
  ·have:=r.sep (b,.cells cs) (aY.2 (.inl rfl)) n hn
   exact ⟨fun h=>(this.1 h).elim,fun h=>h.elim⟩
  ·exact r.sep x (aY.2 (.inr hx)) n hn
theorem aj.NL {n j:Nat} {tm:List (Nat×AV)} {hp bU:Heap} {T:St→Prop} {b:Bk} {cs kI:List AV} {av ep:AV} (u:jY hp b (.cells cs) b (.cells kI) bU) (hj:cs[j]? =some av) (c:Co hp av ep) (hc:oP (cs.set j ep)=some kI) (h1:iV kI=true) (k:aj ⟨n,tm,bU⟩ T):aj ⟨n,tm,hp⟩ T:=by
 refine aj.step (wW:=⟨n,tm,bU⟩) (fun w S a r=>?_) k
 have e:=jw hc
 obtain ⟨g1,g2⟩:=zt r.hp u (by rw [← e];simp) (cL h1) (fun i c1 c2 v Ed G7 nQ=>by
  rw [← e] at G7
  by_cases uk:j=i
  ·subst uk
   rw [List.getElem?_set_self (List.getElem?_eq_some_iff.1 hj).1] at G7
   obtain rfl:=Option.some.inj G7
   rw [hj] at Ed
   obtain rfl:=Option.some.inj Ed
   exact c.at r.hp nQ
  ·rw [List.getElem?_set_ne uk,Ed] at G7
   obtain rfl:=Option.some.inj G7
   exact nQ)
 exact ⟨_,S,rfl,⟨r.size,r.defers,r.tm,g1⟩,g2⟩
theorem aj.G8 {n j:Nat} {tm:List (Nat×AV)} {hp:Heap} {bU:Bk→Heap} {T:St→Prop} {b:Bk} {cs:List AV} {kI:Bk→List AV} (sz:Nat) (u:∀ q,jY hp b (.cells cs) b (.cells (kI q)) (bU q)) (hj:cs[j]? =some .nil) (hc:∀ q,oP (cs.set j (.sl sz q 0 0))=some (kI q)) (h1:∀ q,iV (kI q)=true)
 (k:∀ q,aj ⟨n,tm,(q,.arr sz []) :: bU q⟩ T):aj ⟨n,tm,hp⟩ T:=by
 refine aj.step (wW:=⟨n,tm,(⟨none,0⟩,.arr sz []) :: bU ⟨none,0⟩⟩) (fun w S a r=>?_) (k ⟨none,0⟩)
 have e:=jw (hc ⟨none,0⟩)
 obtain ⟨g1,g2⟩:=zt r.hp (u ⟨none,0⟩) (by rw [← e];simp) (cL (h1 _)) (fun i c1 c2 v Ed G7 nQ=>by
  rw [← e] at G7
  by_cases uk:j=i
  ·subst uk
   rw [List.getElem?_set_self (List.getElem?_eq_some_iff.1 hj).1] at G7
   obtain rfl:=Option.some.inj G7
   rw [hj] at Ed
   obtain rfl:=Option.some.inj Ed
   cases nQ
   exact .xh sz _ rfl
  ·rw [List.getElem?_set_ne uk,Ed] at G7
   obtain rfl:=Option.some.inj G7
   exact nQ)
 obtain ⟨q1,q2,q3⟩:=nf (b:=⟨none,0⟩) (o:=.arr sz []) g1 (Ext.refl w) id ⟨by simp,by simp,.inl ⟨rfl,rfl⟩⟩ (.inl rfl)
 exact ⟨_,S,rfl,⟨r.size,r.defers,r.tm,q1⟩,g2.trans q2⟩
section rules
variable {P:Program} {all:Array Oper} {rest:List Oper} {n:Nat} {tm:List (Nat×AV)} {hp:Heap} {Q:St→Prop} {d:Nat} {ty:TypeId} {pos:String} {af:Array Edge}
end rules
end Go.Eng
