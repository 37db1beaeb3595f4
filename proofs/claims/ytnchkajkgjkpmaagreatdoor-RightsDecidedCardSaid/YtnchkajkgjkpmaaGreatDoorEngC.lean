/- The engine: abstract values, the symbolic heap, one rule for each operation. No program in sight. -/
import Derived.Test.YtnchkajkgjkpmaaGreatDoorEngB
import Derived.Laws.StructEq
import Derived.Below
set_option linter.unusedVariables false
set_option linter.unusedSectionVars false
namespace Go.Eng
open Go
variable [bc]
abbrev ae:=List UInt8
def Ba {α:Type} (sz:Nat) (g:α→AV) (l:List α):AV:=.list sz (l.map g)
section rules
variable {P:Program} {all:Array Oper} {rest:List Oper} {n:Nat} {tm:List (Nat×AV)} {hp:Heap} {Q:St→Prop} {d:Nat} {ty:TypeId} {pos:String} {af:Array Edge}
theorem Np {α:Type} {g:α→AV} {Ys Zs:List α} {t e:TypeId} {i:TypeInfo} {z:Value} {x y:Operand} {src:AV} {sz:Nat} [ay P t (.slice e)] [aO P e i] (hx:dh tm x=some .nil) (hy:dh tm y=some src) (hz:i.zero=some z)
 (Gm:Nat.beq z.cells.size i.size=true) (jX:Nat.beq i.size sz=true) (h0:Nat.blt 0 sz=true) (hn:Nat.blt d n=true) (RR:Nat.ble i.bytes 65536=true) (hs:Src hp sz src (Ys.map g)) (hv:app [] Ys=some Zs)
 (kk:∀ b':Bk,ARun P all rest ⟨n,(d,.sl sz b' 0 Zs.length) :: tm,(b',.arr sz (Zs.map g)) :: hp⟩ Q):ARun P all (⟨some d,.call {callee:=.builtin .append,args:=#[x,y],argTypes:=#[t,t]},ty,pos,af,none⟩ :: rest) ⟨n,tm,hp⟩ Q:=by
 obtain ⟨hb,rfl⟩:=Ej hv
 refine ARun.OA rfl fun w S a r=>?_
 obtain rfl:i.size=sz:=Nat.eq_of_beq_eq_true jX
 obtain ⟨a1,a2,a3⟩:=qX (b:=⟨none,0⟩) (o:=.arr i.size []) r.hp (Ext.refl w) id ⟨by simp,by simp,.inl ⟨rfl,rfl⟩⟩ (.inl rfl)
 have O7:=(bg (σ:=⟨n,tm,hp⟩) r hx).qV
 have hAt:At w S (.sl i.size ⟨none,0⟩ 0 ([]:List AV).length) (a.eval x):=by rw [O7];exact .Cd _ _ rfl
 have h1:=Nat.le_of_ble_eq_true RR
 have hlen:([]:List AV).length+(Zs.map g).length≤1000000000:=by simpa using hb
 have hm:=Nat.mul_le_mul hlen h1
 obtain ⟨v',w',b',g1,g2,g3,g4,g5⟩:=Ec (P:=P) (ty:=ty) a1 (ay.h (P:=P) (t:=t)) (aO.h (P:=P) (t:=e)) hz (Nat.eq_of_beq_eq_true Gm) (by simpa using h0) (ox.here (b:=⟨none,0⟩) (o:=.arr i.size []) (h:=hp)) hAt (hs.at r.hp (bg (σ:=⟨n,tm,hp⟩) r hy)) (by omega) (by omega)
 obtain ⟨k1,k2,k3⟩:=xl a1 (qW.here (b':=b') (o':=.arr i.size ([]++Zs.map g))) g3 id id g4 g5
 refine ⟨v',w',S,⟨n,(d,.sl i.size b' 0 (Zs.length)) :: tm,(b',.arr i.size (Zs.map g)) :: hp⟩,?_,?_,?_,kk b'⟩
 ·simp [execOp,resolve,invoke,builtin,g1]
 ·have:=(r.heap k3 k1).put hn g2
  simpa using this
 ·have:=a2.trans k2
  simpa using this
theorem iO {x:Operand} {t e:TypeId} {sz len:Nat} {b:Bk} [ay P t (.slice e)] (hx:dh tm x=some (.sl sz b 0 len)):QV P ⟨some d,.call {callee:=.builtin .len,args:=#[x],argTypes:=#[t]},ty,pos,af,none⟩ ⟨n,tm,hp⟩ (.int .i64 (len:Nat)):=IP hx
theorem fg {α:Type} {Xs:List α} {el:α} {t e:TypeId} {i:TypeInfo} {x y:Operand} {k:IntKind} {j:Int} {sz:Nat} {b:Bk} [ay P t (.slice e)] [aO P e i] (hx:dh tm x=some (.sl sz b 0 Xs.length)) (jX:Nat.beq i.size sz=true) (hy:dh tm y=some (.int k j))
 (hv:idx Xs j=some el):QV P ⟨some d,.indexAddr t x y,ty,pos,af,none⟩ ⟨n,tm,hp⟩ (.uU sz b j.toNat 0):=by
 obtain ⟨h0,h1,_⟩:=wL hv
 have h:=D9 (P:=P) (d:=d) (ty:=ty) (pos:=pos) (af:=af) (n:=n) (tm:=tm) (hp:=hp) (t:=t) (e:=e) hx jX hy ⟨h0,h1⟩
 rw [Nat.zero_add] at h
 exact h
theorem Hz {α:Type} {g:α→AV} {Xs:List α} {el:α} {j:Int} (hv:idx Xs j=some el):(Xs.map g)[j.toNat]? =some (g el):=by
 rw [List.getElem?_map,(wL hv).2.2];rfl
theorem iP {α:Type} {g:α→AV} {Xs:List α} {el:α} {j:Int} {t:TypeId} {D:TypeDesc} {x:Operand} {b:Bk} {sz o:Nat} {av:AV} [ay P t D] (hD:TypeDesc.ma D=false) (hx:dh tm x=some (.uU sz b j.toNat o)) (f:ox hp b (.arr sz (Xs.map g))∨ox hp b (.A0 sz (Xs.map g)))
 (hv:idx Xs j=some el) (ho:(g el).cells[o]? =some av):QV P ⟨some d,.load t x,ty,pos,af,none⟩ ⟨n,tm,hp⟩ av:=
 IV hD hx f (Hz hv) ho
theorem pX {α:Type} {g:α→AV} {Xs:List α} {el:α} {j:Int} {t:TypeId} {D:TypeDesc} {i:TypeInfo} {x:Operand} {b:Bk} {sz:Nat} {cs:List AV} [ay P t D] [aO P t i] (hD:TypeDesc.ma D=true) (hx:dh tm x=some (.uU sz b j.toNat 0)) (f:ox hp b (.arr sz (Xs.map g))∨ox hp b (.A0 sz (Xs.map g))) (jX:Nat.beq i.size sz=true)
 (hv:idx Xs j=some el) (hc:g el=.agg cs):QV P ⟨some d,.load t x,ty,pos,af,none⟩ ⟨n,tm,hp⟩ (.agg cs):=
 Dg hD hx f jX (by rw [Hz (g:=g) hv,hc])
theorem vP {t:TypeId} {x:Operand} {lo hi:Option Operand} {l h:Option Int} {s zs:List UInt8} {L H:Int} [ay P t .string] (hx:dh tm x=some (.str s)) (hl:Mj tm lo l) (hh:Mj tm hi h) (eL:pB l=L) (eH:oA s.length h=H) (hv:yb s L H=some zs):
 QV P ⟨some d,.slice t x lo hi none,ty,pos,af,none⟩ ⟨n,tm,hp⟩ (.str zs):=by
 obtain ⟨⟨h0,h1,h2⟩,rfl⟩:=tI hv
 subst eL;subst eH
 exact IZ hx hl hh h0 h1 h2
def vJ:Heap→Heap→Option Heap
 | [],r=>some r
 | x :: l,r=>match vJ l r with
   | some m=>some (x :: m)
   | none=>none
theorem rj:∀ {l r m:Heap},vJ l r=some m→l++r=m
 | [],r,m,h=>by simpa [vJ] using h
 | x :: l,r,m,h=>by
   simp only [vJ] at h
   split at h
   ·rename_i m' hm
    obtain rfl:=Option.some.inj h
    rw [List.cons_append,rj hm]
   ·cases h
def T0 (H:Heap) (V:AV):AV→Heap→Prop:=fun v h=>h=H∧v=V
def T1 {Gr:Type} (H:Gr→Heap) (V:Gr→AV):AV→Heap→Prop:=fun v h=>∃ b,h=H b∧v=V b
theorem aJ {f:FuncId} {args:List Operand} {ts:Array TypeId} {l l':List AV} {h0 hr H H':Heap} {V:AV} [aZ P f] (hl:B6 tm args=some l) (c:ACall P f l' h0 (T0 H V)) (co:Aw hp l l') (hs:KK hp h0 hr) (ha:vJ H hr=some H') (hn:Nat.blt d n=true)
 (kk:ARun P all rest ⟨n,(d,V) :: tm,H'⟩ Q):ARun P all (⟨some d,.call {callee:=.value (.func f),args:=args.toArray,argTypes:=ts},ty,pos,af,none⟩ :: rest) ⟨n,tm,hp⟩ Q:=
 Hy hl c co hs hn (fun r h' ⟨e1,e2⟩=>by subst e1;subst e2;rw [rj ha];exact kk)
theorem eE {Gr:Type} {f:FuncId} {args:List Operand} {ts:Array TypeId} {l l':List AV} {h0 hr:Heap} {H H':Gr→Heap} {V:Gr→AV} [aZ P f] (hl:B6 tm args=some l) (c:ACall P f l' h0 (T1 H V)) (co:Aw hp l l') (hs:KK hp h0 hr) (ha:∀ b,vJ (H b) hr=some (H' b)) (hn:Nat.blt d n=true)
 (kk:∀ b,ARun P all rest ⟨n,(d,V b) :: tm,H' b⟩ Q):ARun P all (⟨some d,.call {callee:=.value (.func f),args:=args.toArray,argTypes:=ts},ty,pos,af,none⟩ :: rest) ⟨n,tm,hp⟩ Q:=
 Hy hl c co hs hn (fun r h' ⟨b,e1,e2⟩=>by subst e1;subst e2;rw [rj (ha b)];exact kk b)
theorem pC {f:FuncId} {x:Operand} {args:List Operand} {ts:Array TypeId} {ue l l' lc:List AV} {h0 hr H H':Heap} {V:AV} [aZ P f] (hx:dh tm x=some (.func (.func f) ue)) (hl:B6 tm args=some l) (hlc:tH (l++ue)=some lc) (c:ACall P f l' h0 (T0 H V)) (co:Aw hp lc l') (hs:KK hp h0 hr) (ha:vJ H hr=some H') (hn:Nat.blt d n=true)
 (kk:ARun P all rest ⟨n,(d,V) :: tm,H'⟩ Q):ARun P all (⟨some d,.call {callee:=.value x,args:=args.toArray,argTypes:=ts},ty,pos,af,none⟩ :: rest) ⟨n,tm,hp⟩ Q:=
 RY hx hl hlc c co hs hn (fun r h' ⟨e1,e2⟩=>by subst e1;subst e2;rw [rj ha];exact kk)
end rules
theorem Co.Ck {hp:Heap} {α:Type} {g:α→AV} {Xs:List α} {sz:Nat} {b:Bk} (f:ox hp b (.A0 sz (Xs.map g))):Co hp (.sl sz b 0 Xs.length) (.list sz (Xs.map g)):=.A0 sz b _ _ f (by simp)
theorem vI.uf {hp:Heap} {α:Type} {g:α→AV} {Xs:List α} {sz:Nat} {b:Bk} (f:ox hp b (.arr sz (Xs.map g))):vI hp (.sl sz b 0 Xs.length) (.list sz (Xs.map g)):=.arr sz b _ _ f (by simp)
end Go.Eng
set_option linter.unusedVariables false
set_option linter.unusedSectionVars false
namespace Go.Eng
open Go
variable [bc]
section rules
variable {P:Program} {all:Array Oper} {rest:List Oper} {n:Nat} {tm:List (Nat×AV)} {hp:Heap} {Q:St→Prop} {d:Nat} {ty:TypeId} {pos:String} {af:Array Edge}
theorem Bb {x:Operand} {s:TypeId} {j off:Nat} {sz:Nat} {b:Bk} {q o o':Nat} [oy P s j off] (hx:dh tm x=some (.uU sz b q o)) (ho:o+off=o'):QV P ⟨some d,.fieldAddr s x j,ty,pos,af,none⟩ ⟨n,tm,hp⟩ (.uU sz b q o'):=by
 subst ho
 exact Ho hx
theorem FH {t:TypeId} {i:TypeInfo} {x y:Operand} {b:Bk} {sz q o:Nat} {xs:List AV} {av el Mm:AV} {eV:Heap} [aO P t i] (hx:dh tm x=some (.uU sz b q o)) (hy:dh tm y=some av) (h1:lD av.cells=true) (jX:Nat.beq av.cells.length i.size=true)
 (u:qW hp b (.arr sz xs) b (.arr sz (xs.set q Mm)) eV) (hq:xs[q]? =some el) (RE:Mm.cells=pn el.cells o av.cells) (ho:Nat.ble (o+av.cells.length) el.cells.length=true) (kk:ARun P all rest ⟨n,tm,eV⟩ Q):ARun P all (⟨none,.store t x y,ty,pos,af,none⟩ :: rest) ⟨n,tm,hp⟩ Q:=by
 refine ARun.act rfl rfl (aB:=⟨n,tm,eV⟩) (fun w S a r=>?_) kk
 obtain ⟨m,e1,e2⟩:=(bg (σ:=⟨n,tm,hp⟩) r hx).A2
 obtain ⟨g0,g1,⟨g2,_⟩ | ⟨m',vs,E,g2,g3,g4,g5⟩⟩:=uN r.hp (.inl u.OU)
 ·rw [g2] at e1;cases e1
 obtain rfl:m'=m:=by rw [g2] at e1;exact Option.some.inj e1
 have hv:=bg (σ:=⟨n,tm,hp⟩) r hy
 obtain ⟨hl,vF⟩:=wJ hv (dM h1)
 have Oz:=dM h1
 have jX:=Nat.eq_of_beq_eq_true jX
 have ho:=Nat.le_of_ble_eq_true ho
 clear h1 hv hy
 generalize av.cells=nc at *
 generalize RZ:el.cells=cs at *
 have hle:o+nc.length≤cs.length:=ho
 have yp:=g0 el (List.mem_of_getElem? hq)
 have Gh:cs.length=sz:=by rw [← RZ];exact yp.1
 have hqx:q < xs.length:=(List.getElem?_eq_some_iff.1 hq).1
 have hmul:(q+1) * sz≤xs.length * sz:=Nat.mul_le_mul_right _ (by omega)
 have Pg:xs.length * sz≤b.cap * sz:=Nat.mul_le_mul_right _ g1
 rw [Nat.add_mul,Nat.one_mul] at hmul
 have Cg:=A6 hl vF Oz
 have IU:=run_storeCells_at (P:=P) m' (q * sz+o) E (a.eval y).cells.toList 0 vs w g3 (by simp;omega) Cg
 simp only [Nat.add_zero] at IU
 have OW:(a.eval y).cells.size=i.size:=by rw [← hl];exact jX
 have We:=cZ g0
 have TR:El sz Mm:=by
  refine ⟨by rw [RE];simp [pn];omega,fun c hc=>?_⟩
  rw [RE] at hc
  simp only [pn,List.mem_append] at hc
  rcases hc with (hc | hc) | hc
  ·exact yp.2 c (by rw [RZ];exact List.mem_of_mem_take hc)
  ·exact Oz c hc
  ·exact yp.2 c (by rw [RZ];exact List.mem_of_mem_drop hc)
 have I8:flat (xs.set q Mm)=(flat xs).take (q * sz+o)++nc++(flat xs).drop (q * sz+o+nc.length):=by
  rw [I0 g0 TR hq]
  rw [RE];simp only [pn]
  have OD:cs=((flat xs).drop (q * sz)).take sz:=by
   apply List.ext_getElem?
   intro j
   by_cases hj:j < sz
   ·have:=uV g0 hq j hj
    rw [List.getElem?_take,if_pos hj,List.getElem?_drop,this,RZ]
   ·rw [List.getElem?_eq_none (by omega),List.getElem?_eq_none (by simp;omega)]
  have e1:cs.take o=((flat xs).drop (q * sz)).take o:=by rw [OD,List.take_take,Nat.min_eq_left (by omega)]
  have e2:cs.drop (o+nc.length)=(((flat xs).drop (q * sz+o+nc.length)).take (sz - (o+nc.length))):=by
   rw [OD,List.drop_take,List.drop_drop]
   rw [show q * sz+(o+nc.length)=q * sz+o+nc.length from by omega]
  rw [e1,e2]
  have e3:(flat xs).take (q * sz+o)=(flat xs).take (q * sz)++((flat xs).drop (q * sz)).take o:=by rw [List.take_add]
  rw [e3]
  have e4:(flat xs).drop (q * sz+o+nc.length)=((flat xs).drop (q * sz+o+nc.length)).take (sz - (o+nc.length))++(flat xs).drop (q * sz+sz):=by
   conv=>lhs;rw [← List.take_append_drop (sz - (o+nc.length)) ((flat xs).drop (q * sz+o+nc.length))]
   rw [List.drop_drop,show q * sz+o+nc.length+(sz - (o+nc.length))=q * sz+sz from by omega]
  conv=>rhs;rw [e4]
  simp only [List.append_assoc]
 have Ph:=fun (w':World) (ha:nX w' S (flat xs) vs) (hb:nX w' S nc (a.eval y).cells)=>Mk (q * sz+o) (by rw [We,g4];exact Pg) ha hl hb (by omega)
 have Pj:(vs.toList.take (q * sz+o)++(a.eval y).cells.toList++vs.toList.drop (q * sz+o+(a.eval y).cells.toList.length)).toArray.size=b.cap * sz:=by
  simp;omega
 generalize (vs.toList.take (q * sz+o)++(a.eval y).cells.toList++vs.toList.drop (q * sz+o+(a.eval y).cells.toList.length)).toArray=FE at IU Ph Pj
 have c:GB w (w.setRow m' FE) b.bU:=⟨⟨rfl,rfl,rfl,by simp,fun k hk sE=>setRow_other w m' k _ (fun e=>sE (by rw [e1,e]))⟩,fun _=>Nat.le_refl _⟩
 have k1:∀ n,S n→S n∧(w.setRow m' FE).heap[n]? =w.heap[n]?:=by
  intro k hk
  refine ⟨hk,setRow_other w m' k _ (fun e=>?_)⟩
  subst e
  exact (r.hp.sep _ u.OU.mem k (lR e1)).1 hk
 have hh:=xl r.hp u c id id ⟨?_,by simpa using g1,.inr ⟨m',FE,E,e1,setRow_heap w m' vs _ E _ g3,Pj,by rw [I8];exact Ph _ (g5.mono k1) (vF.mono k1)⟩⟩ (.inl rfl)
 ·refine ⟨w.setRow m' FE,S,?_,r.heap hh.2.2 hh.1,hh.2.1⟩
  simp [execOp,e2,Instr.storeAt,Instr.sureAddr,storeVar,sizeOf,typeInfo,aO.h (P:=P) (t:=t),OW,IU]
 ·intro z hz
  rcases List.mem_or_eq_of_mem_set hz with h | rfl
  ·exact g0 z h
  ·exact TR
theorem pD {α:Type} {g:α→AV} {Xs:List α} {el Mm:α} {j:Int} {t:TypeId} {i:TypeInfo} {x y:Operand} {b:Bk} {sz o:Nat} {av:AV} {eV:Heap} [aO P t i] (hx:dh tm x=some (.uU sz b j.toNat o)) (hy:dh tm y=some av) (h1:lD av.cells=true) (jX:Nat.beq av.cells.length i.size=true)
 (hv:idx Xs j=some el) (RE:(g Mm).cells=pn (g el).cells o av.cells) (u:qW hp b (.arr sz (Xs.map g)) b (.arr sz ((Xs.set j.toNat Mm).map g)) eV) (ho:Nat.ble (o+av.cells.length) (g el).cells.length=true) (kk:ARun P all rest ⟨n,tm,eV⟩ Q):
 ARun P all (⟨none,.store t x y,ty,pos,af,none⟩ :: rest) ⟨n,tm,hp⟩ Q:=by
 refine FH (xs:=Xs.map g) (el:=g el) (Mm:=g Mm) hx hy h1 jX ?_ (Hz hv) RE ho kk
 rw [List.map_set] at u
 exact u
end rules
theorem dw.hs {w:World} {S:Nat→Prop} {h h':Heap} (r:dw w S h) (s:HS h h'):dw w S h':=by
 obtain ⟨q,hq⟩:=s.perm
 exact (r.perm hq).sub (List.sublist_append_left _ _)
theorem Has.hs {h h':Heap} (s:HS h h') {n:Nat} (hh:Has h' n):Has h n:=by
 obtain ⟨q,hq⟩:=s.perm
 obtain ⟨e,he,hb⟩:=hh
 exact ⟨e,hq.mem_iff.2 (List.mem_append_left _ he),hb⟩
theorem ACall.dN {P:Program} {f:FuncId} {args:List AV} {h:Heap} {Q:AV→Heap→Prop} (c:ACall P f args h (fun r h1=>∃ h',HS h1 h'∧Q r h')):ACall P f args h Q:=
 fun w S vs r hl ha=>(c w S vs r hl ha).mono fun _ _ ⟨v,r,_,S',h1,⟨h',hs,hq⟩,h3,h4,h5⟩=>⟨v,r,h',S',h1,hq,h3,h4.hs hs,h5.less fun _ hn=>hn.hs hs⟩
theorem ImpX.eqs {n s:Nat} {tm:List (Nat×AV)} {hp:Heap} {T:St→Prop} {av pz:AV} (hs:lk tm s=some av) (he:pz=av) (k:ImpX ⟨n,(s,pz) :: tm,hp⟩ T):ImpX ⟨n,tm,hp⟩ T:=by
 subst he
 exact ImpX.co hs (.refl _) k
theorem Nq {hp eV:Heap} {b:Bk} {o:Ob} (u:qW hp b o b o eV):eV=hp:=by
 generalize hb:b=b',ho:o=o' at u
 have:∀ {h h':Heap} {b b':Bk} {o o':Ob},qW h b o b' o' h'→b=b'→o=o'→h'=h:=by
  intro h h' b b' o o' u
  induction u with
  | here=>rintro rfl rfl;rfl
  | next _ ih=>intro e1 e2;rw [ih e1 e2]
  | skip _ ih=>intro e1 e2;rw [ih e1 e2]
 subst hb ho
 exact this u rfl rfl
theorem ImpX.TS {n j:Nat} {tm:List (Nat×AV)} {hp eV:Heap} {T:St→Prop} {b:Bk} {cs oz:List AV} {av pz:AV} (u:qW hp b (.cells cs) b (.cells oz) eV) (hj:cs[j]? =some av) (he:pz=av) (hc:tH (cs.set j pz)=some oz) (k:ImpX ⟨n,tm,eV⟩ T):ImpX ⟨n,tm,hp⟩ T:=by
 subst he
 have OD:cs.set j pz=cs:=by
  apply List.ext_getElem?
  intro i
  by_cases hi:j=i
  ·subst hi
   have nD:=(List.getElem?_eq_some_iff.1 hj).1
   rw [List.getElem?_set_self nD,hj]
  ·rw [List.getElem?_set_ne hi]
 rw [OD] at hc
 obtain rfl:=mY hc
 rw [Nq u] at k
 exact k
theorem ux {p:Prop} [Decidable p] {x:Bool} (h:p):(decide p&&x)=x:=by simp [h]
theorem uy {p:Prop} [Decidable p] {x:Bool} (h:¬ p):(decide p&&x)=false:=by simp [h]
theorem zE {p:Prop} [Decidable p] {x:Bool} (h:p):(decide p||x)=true:=by simp [h]
theorem zF {p:Prop} [Decidable p] {x:Bool} (h:¬ p):(decide p||x)=x:=by simp [h]
theorem Bc {b x:Bool} (h:b=true):(b&&x)=x:=by simp [h]
theorem Bd {b x:Bool} (h:b=false):(b&&x)=false:=by simp [h]
theorem FI {b x:Bool} (h:b=true):(b||x)=true:=by simp [h]
theorem FJ {b x:Bool} (h:b=false):(b||x)=x:=by simp [h]
end Go.Eng
set_option linter.unusedVariables false
set_option linter.unusedSectionVars false
namespace Go.Eng
open Go
variable [bc]
def Be (P:Program) (k:Nat) (t:TypeId) (v u:Value) (b:Bool):Prop:=∀ d w,(Op.equalIn (d+k) t v u).run P w=.ok b w
theorem Be.up {P:Program} {k:Nat} {t:TypeId} {v u:Value} {b:Bool} (h:Be P k t v u b) (j:Nat):Be P (k+j) t v u b:=fun d w=>by
 rw [show d+(k+j)=(d+j)+k from by omega];exact h _ w
theorem Be.cast {P:Program} {k:Nat} {t:TypeId} {v u:Value} {b b':Bool} (h:Be P k t v u b) (e:b=b'):Be P k t v u b':=by rw [← e];exact h
inductive Nr (P:Program) (k:Nat) (xs ys:Array Value):List Field→Bool→Prop
 | nil:Nr P k xs ys [] true
 | cons {f:Field} {fs:List Field} {px py:Value} {b b':Bool} (hn:f.name≠"_") (hx:∀ w,(part f.type xs f.offset).run P w=.ok px w) (hy:∀ w,(part f.type ys f.offset).run P w=.ok py w) (he:Be P k f.type px py b) (kk:Nr P k xs ys fs b'):Nr P k xs ys (f :: fs) (b&&b')
theorem Nr.run {P:Program} {k:Nat} {xs ys:Array Value} {fs:List Field} {b:Bool} (h:Nr P k xs ys fs b) (d:Nat) (w:World):(Op.eqFields (d+k) xs ys fs).run P w=.ok b w:=by
 induction h with
 | nil=>simp [Op.eqFields]
 | @cons f fs px py b b' hn hx hy he kk ih=>
   simp only [Op.eqFields,hn,ne_eq,not_false_eq_true,if_true,Sem.run_bind,hx,hy,he d w,Result.andThen_ok]
   cases b
   ·simp
   ·simpa using ih
theorem Be.struct {P:Program} {k:Nat} {t:TypeId} {xs ys:Array Value} {fs:List Field} {b:Bool} (hu:P.underlying t=some (.struct fs.toArray)) (hp:P.stoodInHeld t=false) (h:Nr P k xs ys fs b):Be P (k+1) t (.agg xs) (.agg ys) b:=by
 intro d w
 have hf:P.fieldsOf t=fs.toArray:=by simp [Program.fieldsOf,hu]
 rw [show d+(k+1)=(d+k)+1 from rfl,run_equalIn_struct w (d+k) t xs ys (by rw [hf];exact hu) hp,hf]
 exact h.run d w
theorem fh {P:Program} {t:TypeId} {D:TypeDesc} [ay P t D] (hD:TypeDesc.ma D=false) {cs:Array Value} {off:Nat} {v:Value} (h:cs[off]? =some v) (w:World):(part t cs off).run P w=.ok v w:=by
 unfold part isAgg
 simp only [Sem.run_bind,run_underlying (ay.h (P:=P) (t:=t)),Result.andThen_ok]
 cases D<;>simp_all [TypeDesc.ma]
theorem nX.get {w:World} {S:Nat→Prop} {cs:List AV} {vs:Array Value} (hl:cs.length=vs.size) (ha:nX w S cs vs) {off:Nat} {c:AV} (hc:cs[off]? =some c):∃ v,vs[off]? =some v∧At w S c v:=by
 have nD:=(List.getElem?_eq_some_iff.1 hc).1
 have:off < vs.size:=by omega
 exact ⟨vs[off],by simp [this],ha off c _ hc (by simp [this])⟩
class ug (P:Program) (t:TypeId) (k:outParam Nat) {α:Type} [DecidableEq α] (g:α→AV):Prop where
 h:∀ (x y:α) (w:World) (S:Nat→Prop) (v u:Value),At w S (g x) v→At w S (g y) u→Be P k t v u (decide (x=y))
class KZ (P:Program) (t:TypeId):Prop where
 h:P.eqGuardType P.depth t=false
instance XG {P:Program} {t:TypeId} {k:IntKind} [ay P t (.int k)]:ug P t 1 (AV.int k):=⟨fun x y w S v u hv hu d w'=>by
 rw [hv.gy,hu.gy,Op.equalIn]
 simp [run_underlying (ay.h (P:=P) (t:=t))]
 rw [Bool.eq_iff_iff];simp⟩
instance Zf {P:Program} {t:TypeId} [ay P t (.int .i64)]:ug P t 1 I:=XG (k:=.i64)
instance aa3 {P:Program} {t:TypeId} [ay P t .bool]:ug P t 1 AV.bool:=⟨fun x y w S v u hv hu d w'=>by
 rw [hv.jY,hu.jY,Op.equalIn]
 simp [run_underlying (ay.h (P:=P) (t:=t))]
 rw [Bool.eq_iff_iff];simp⟩
instance eqStr {P:Program} {t:TypeId} [ay P t .string]:ug P t 1 AV.str:=⟨fun x y w S v u hv hu d w'=>by
 rw [hv.dz,hu.dz,Op.equalIn]
 simp [run_underlying (ay.h (P:=P) (t:=t))]
 rw [Bool.eq_iff_iff]
 rw [beq_toListBytes,ByteArray.toList_eq,ByteArray.toList_eq]
 simp⟩
section rules
variable {P:Program} {all:Array Oper} {rest:List Oper} {n:Nat} {tm:List (Nat×AV)} {hp:Heap} {Q:St→Prop} {d:Nat} {ty:TypeId} {pos:String} {af:Array Edge}
theorem XH {α:Type} [DecidableEq α] {g:α→AV} {X Y:α} {k:Nat} {xt yt:TypeId} {x y:Operand} {cs ds:List AV} [ug P xt k g] [KZ P xt] (hk:Nat.ble k 10000=true) (hx:dh tm x=some (.agg cs)) (hy:dh tm y=some (.agg ds)) (eX:g X=.agg cs) (eY:g Y=.agg ds):
 QV P ⟨some d,.binOp .eql xt x y yt,ty,pos,af,none⟩ ⟨n,tm,hp⟩ (.bool (decide (X=Y))):=by
 intro w S a r
 have hv:=bg (σ:=⟨n,tm,hp⟩) r hx
 have hu:=bg (σ:=⟨n,tm,hp⟩) r hy
 have he:=ug.h (P:=P) (t:=xt) (g:=g) X Y w S _ _ (by rw [eX];exact hv) (by rw [eY];exact hu)
 obtain ⟨vs,e1,_,_⟩:=hv.kY
 obtain ⟨us,e2,_,_⟩:=hu.kY
 refine ⟨.bool (decide (X=Y)),fun w1 _=>?_,.bool _⟩
 have h1:=run_eqGuard_agg (P:=P) w1 .eql xt x y vs us KZ.h
 rw [e1,e2] at he
 have h2:(Op.equal xt (.agg vs) (.agg us)).run P w1=.ok (decide (X=Y)) w1:=by
  have:=he (10000 - k) w1
  rw [Nat.sub_add_cancel (Nat.le_of_ble_eq_true hk)] at this
  exact this
 have h3:(binOp .eql xt (.agg vs) (.agg us)).run P w1=.ok (.bool (decide (X=Y))) w1:=by
  rw [show binOp .eql xt (.agg vs) (.agg us)=(do pure (.bool (← Op.equal xt (.agg vs) (.agg us)))) from rfl]
  simp [h2]
 simp [execOp,e1,e2,h1,h3]
theorem Aa {α:Type} [DecidableEq α] {g:α→AV} {X Y:α} {k:Nat} {xt yt:TypeId} {x y:Operand} {cs ds:List AV} [ug P xt k g] [KZ P xt] (hk:Nat.ble k 10000=true) (hx:dh tm x=some (.agg cs)) (hy:dh tm y=some (.agg ds)) (eX:g X=.agg cs) (eY:g Y=.agg ds):
 QV P ⟨some d,.binOp .neq xt x y yt,ty,pos,af,none⟩ ⟨n,tm,hp⟩ (.bool (decide (X≠Y))):=by
 intro w S a r
 have hv:=bg (σ:=⟨n,tm,hp⟩) r hx
 have hu:=bg (σ:=⟨n,tm,hp⟩) r hy
 have he:=ug.h (P:=P) (t:=xt) (g:=g) X Y w S _ _ (by rw [eX];exact hv) (by rw [eY];exact hu)
 obtain ⟨vs,e1,_,_⟩:=hv.kY
 obtain ⟨us,e2,_,_⟩:=hu.kY
 refine ⟨.bool (decide (X≠Y)),fun w1 _=>?_,.bool _⟩
 have h1:=run_eqGuard_agg (P:=P) w1 .neq xt x y vs us KZ.h
 rw [e1,e2] at he
 have h2:(Op.equal xt (.agg vs) (.agg us)).run P w1=.ok (decide (X=Y)) w1:=by
  have:=he (10000 - k) w1
  rw [Nat.sub_add_cancel (Nat.le_of_ble_eq_true hk)] at this
  exact this
 have h3:(binOp .neq xt (.agg vs) (.agg us)).run P w1=.ok (.bool (decide (X≠Y))) w1:=by
  rw [show binOp .neq xt (.agg vs) (.agg us)=(do pure (.bool (!(← Op.equal xt (.agg vs) (.agg us))))) from rfl]
  simp [h2]
 simp [execOp,e1,e2,h1,h3]
theorem rk {xt yt:TypeId} {x y:Operand} {s t:List UInt8} (hx:dh tm x=some (.str s)) (hy:dh tm y=some (.str t)):QV P ⟨some d,.binOp .leq xt x y yt,ty,pos,af,none⟩ ⟨n,tm,hp⟩ (.bool (Op.bytesLess s t||s==t)):=by
 refine fun w S a r=>⟨.bool (Op.bytesLess s t||s==t),fun w1 _=>?_,.bool _⟩
 simp [execOp,(bg (σ:=⟨n,tm,hp⟩) r hx).dz,(bg (σ:=⟨n,tm,hp⟩) r hy).dz,eqGuard_at_string,binOp,Op.stringOp,ByteArray.toList_eq]
end rules
end Go.Eng
set_option linter.unusedVariables false
set_option linter.unusedSectionVars false
namespace Go.Eng
open Go Go.RowKit
variable [bc]
theorem Gs (l:List Int):flat (l.map I)=l.map I:=by
 induction l with
 | nil=>rfl
 | cons x r ih=>rw [List.map_cons,jM,ih];rfl
theorem Pk {P:Program} {f:FuncId} {a:Option Addr} {len cap:Nat} {zs:List Int} {w:World}
 (Ek:(a=none∧len=0∧cap=0∧zs=[])∨∃ x,a=some x∧len≤cap∧cap≤maxLen∧zs.length=cap∧(∀ i,i < zs.length→w.cell? (x.add i)=some (.int .i64 (zs.getD i 0)))∧∀ n∈zs,(Lit.int .i64 n).wf=true)
 (hG:∀ g o,bc.Xh g=some o→g < w.heap.size∧o (w.heap[g]?))
 (c:∀ l:List Int,Pu P f [.list 1 (l.map I)] (.bool true)):
 Calls P f #[.slice a len cap] w fun e w'=>e=.returned (.bool true)∧Below w.heap.size w w':=by
 let S:Nat→Prop:=fun n=>n < w.heap.size
 have vF:∃ l:List Int,At w S (.list 1 (l.map I)) (.slice a len cap):=by
  rcases Ek with ⟨rfl,rfl,rfl,rfl⟩ | ⟨x,rfl,h1,h2,h3,h4,h5⟩
  ·exact ⟨[],.list 1 [] none 0 [] (by simp) rfl (by simp [flat]) (by simp) (by simp)⟩
  ·refine ⟨zs.take len,?_⟩
   have hl:((zs.take len).map I).length=len:=by simp;omega
   have key:=At.list (w:=w) (S:=S) 1 ((zs.take len).map I) (some x) cap ((zs.take len).map (fun n=>Value.int .i64 n)) ?_ ?_ ?_ ?_ ?_
   ·rw [hl] at key;exact key
   ·intro y hy
    obtain ⟨n,_,rfl⟩:=List.mem_map.1 hy
    exact ⟨rfl,fun c hc=>by simp [AV.cells] at hc;subst hc;rfl⟩
   ·rw [Gs];simp
   ·intro i c v hc hv
    rw [Gs,List.getElem?_map] at hc
    rw [List.getElem?_map] at hv
    cases hn:(zs.take len)[i]? with
    | none=>rw [hn] at hc;cases hc
    | some n=>
      rw [hn] at hc hv
      obtain rfl:=Option.some.inj hc
      obtain rfl:=Option.some.inj hv
      exact .int _ _
   ·intro i v hv
    rw [List.getElem?_map] at hv
    cases hn:(zs.take len)[i]? with
    | none=>rw [hn] at hv;cases hv
    | some n=>
      rw [hn] at hv
      obtain rfl:=Option.some.inj hv
      have hi:i < zs.length:=by
       have:=(List.getElem?_eq_some_iff.1 hn).1
       simp at this;omega
      have hz:zs.getD i 0=n:=by
       rw [List.getElem?_take] at hn
       split at hn
       ·rw [List.getD_eq_getElem?_getD,hn];rfl
       ·cases hn
      have yv:=h4 i hi
      rw [hz] at yv
      obtain ⟨bk,of,sp⟩:=x
      have Rj:sp=none:=by
       cases sp with
       | none=>rfl
       | some q=>
         have XI:=h4 0 (by omega)
         unfold World.cell? Addr.add at XI
         simp only [if_true] at XI
         split at XI
         ·simp at XI
         ·cases XI
      subst Rj
      rw [pk] at yv
      have hblk:bk < w.heap.size:=by
       rcases Nat.lt_or_ge bk w.heap.size with h | h
       ·exact h
       ·unfold World.cell? at yv
        simp only [Array.getElem?_eq_none h] at yv
        cases yv
      exact ⟨_,rfl,rfl,hblk,yv⟩
   ·rw [hl];exact h1
 obtain ⟨l,vF⟩:=vF
 refine (c l w S #[.slice a len cap] (uY (fun n hn=>hn) hG) rfl ?_).mono ?_
 ·intro i c' v hc hv
  match i with
  | 0=>simp at hc hv;subst hc;subst hv;exact vF
  | i+1=>simp at hc
 ·rintro e w' ⟨v,r,h',S',rfl,rfl,h1,h2,h3⟩
  refine ⟨by rw [h1.jY],h3.os,h3.tape,h3.output,h3.size,fun k hk=>(h3.mW k hk).2⟩
end Go.Eng
set_option linter.unusedVariables false
set_option linter.unusedSectionVars false
namespace Go.Eng
open Go
variable [bc]
def oB (e:Env) (d:Option Nat) (o:Option AV):Env:=match d with
 | some d=>fun s=>if d=s then o else e s
 | none=>e
theorem j0 {e:Env} {d:Option Nat} {o:Option AV} {s:Nat} (h:d≠some s):oB e d o s=e s:=by
 cases d with
 | none=>rfl
 | some d=>simp only [oB];rw [if_neg (fun e=>h (by rw [e]))]
theorem na {e:Env} {o:Option AV} {s:Nat}:oB e (some s) o s=o:=by simp [oB]
section order
variable {P:Program} {all:Array Oper} {n m:Nat} {hp:Heap}
def yc (all:Array Oper) (mZ:Nat→Option AV) (e:Env) (listed:Array Bool):Nat→Env
 | 0=>e
 | k+1=>if listed.getD k false then oB (yc all mZ e listed k) ((all[k]?).bind (·.dst)) (mZ k) else yc all mZ e listed k
variable {mZ:Nat→Option AV} {en:Nat→Env} {e:Env}
theorem Ns (hB:xT all m) {listed:Array Bool} (L:Rn all m listed) (h0:en 0=e) (hs:∀ i o,i < m→all[i]? =some o→en (i+1)=oB (en i) o.dst (mZ i)) (hm:m≤all.size)
 {i:Nat} {o:Oper} (ho:all[i]? =some o) (II:i < m) (zD:listed.getD i false=false) (hr:∀ j,CO all i j→listed.getD j false=true) {s:Nat} (O5:s∈looks all o):∀ k,k≤all.size→yc all mZ e listed k s=en (min k i) s:=by
 intro k
 induction k with
 | zero=>intro _;simp [yc,h0]
 | succ k ih=>
   intro hk
   have xf:=ih (by omega)
   have xg:all[k]? =some all[k]:=by simp [show k < all.size by omega]
   simp only [yc,xg,Option.bind_some]
   rcases Nat.lt_trichotomy k i with nD | heq | O6
   ·rw [Nat.min_eq_left (by omega)] at xf
    rw [Nat.min_eq_left (by omega),hs k _ (by omega) xg]
    by_cases hd:(all[k]).dst=some s
    ·have hl:listed.getD k false=true:=hr k ((lG hB ho xg nD).1 II (Az hd O5))
     rw [if_pos hl,hd,na,na]
    ·rw [j0 hd]
     split
     ·rw [j0 hd];exact xf
     ·exact xf
   ·subst heq
    rw [zD]
    simp only [Bool.false_eq_true,if_false]
    rw [Nat.min_eq_right (by omega)]
    rw [Nat.min_eq_right (by omega)] at xf
    exact xf
   ·rw [Nat.min_eq_right (by omega)] at xf
    rw [Nat.min_eq_right (by omega)]
    by_cases hl:listed.getD k false=true
    ·by_cases hd:(all[k]).dst=some s
     ·exfalso
      have hw:=(lG hB xg ho O6).1 (L.head k hl) (CR hd O5)
      have:=mI.RU L.closed hw hl
      rw [zD] at this;cases this
     ·rw [if_pos hl,j0 hd];exact xf
    ·rw [if_neg hl];exact xf
theorem Pl (hB:xT all m) {listed:Array Bool} (L:Rn all m listed) {i:Nat} {o:Oper} (ho:all[i]? =some o) (II:i < m) (zD:listed.getD i false=false) (s:Nat):
 ∀ k,k≤all.size→yc all mZ e (listed.setIfInBounds i true) k s=(if i < k then oB (yc all mZ e listed k) o.dst (mZ i) s else yc all mZ e listed k s):=by
 have hi:i < listed.size:=by rw [L.size];exact (Array.getElem?_eq_some_iff.1 ho).1
 intro k
 induction k with
 | zero=>intro _;simp [yc]
 | succ k ih=>
   intro hk
   have xf:=ih (by omega)
   have xg:all[k]? =some all[k]:=by simp [show k < all.size by omega]
   simp only [yc,xg,Option.bind_some,jZ hi]
   rcases Nat.lt_trichotomy k i with nD | heq | O6
   ·rw [if_neg (by omega)] at xf
    have e1:(if k=i then true else listed.getD k false)=listed.getD k false:=if_neg (by omega)
    rw [e1,if_neg (show ¬ i < k+1 by omega)]
    by_cases hl:listed.getD k false=true
    ·rw [if_pos hl,if_pos hl]
     by_cases hd:(all[k]).dst=some s
     ·rw [hd,na,na]
     ·rw [j0 hd,j0 hd];exact xf
    ·rw [if_neg hl,if_neg hl];exact xf
   ·subst heq
    rw [if_neg (by omega)] at xf
    have e1:(if k=k then true else listed.getD k false)=true:=if_pos rfl
    rw [e1,if_pos (show k < k+1 by omega),if_pos rfl,zD,if_neg Bool.false_ne_true]
    obtain rfl:all[k]=o:=by rw [xg] at ho;exact Option.some.inj ho
    by_cases hd:(all[k]).dst=some s
    ·rw [hd,na,na]
    ·rw [j0 hd,j0 hd];exact xf
   ·rw [if_pos O6] at xf
    have e1:(if k=i then true else listed.getD k false)=listed.getD k false:=if_neg (by omega)
    rw [e1,if_pos (show i < k+1 by omega)]
    by_cases hl:listed.getD k false=true
    ·rw [if_pos hl,if_pos hl]
     by_cases hd:(all[k]).dst=some s
     ·by_cases Nl:o.dst=some s
      ·exfalso
       have hw:=(lG hB xg ho O6).1 (L.head k hl) (Gq Nl hd)
       have:=mI.RU L.closed hw hl
       rw [zD] at this;cases this
      ·rw [hd,na,j0 Nl,na]
     ·by_cases Nl:o.dst=some s
      ·rw [j0 hd,xf,Nl,na,na]
      ·rw [j0 hd,xf,j0 Nl,j0 Nl,j0 hd]
    ·rw [if_neg hl,if_neg hl];exact xf
structure Tok where
 prod:Option Nat
 cons:Option Nat
 rds:List Nat
 ent:Bk→Bk×Ob
 Zg:Option Nat
 sft:List Nat
def Tok.ix (t:Tok):Option Nat:=match t.Zg with | some a=>some a | none=>t.prod
def Tok.at (t:Tok) (β:Nat→Bk):Bk×Ob:=t.ent (match t.ix with | some i=>β i | none=>⟨none,0⟩)
def AA (listed:Array Bool) (t:Tok):Bool:=(match t.prod with | none=>true | some i=>listed.getD i false)&&(match t.cons with | none=>true | some i=>!listed.getD i false)
def Dj (i:Nat) (t:Tok):Bool:=match t.cons with | some c=>Nat.beq c i | none=>false
def R0 (i:Nat) (t:Tok):Bool:=match t.prod with | some c=>Nat.beq c i | none=>false
def Mn (i:Nat) (t:Tok):Bool:=t.rds.contains i
def Bf (tk:List Tok) (i:Nat) (β:Nat→Bk):Heap:=(tk.filter (Mn i)).map (·.at β)
def Rl (i:Nat) (t:Tok):Bool:=t.sft.contains i
def yw (tk:List Tok) (i:Nat) (β:Nat→Bk):List Heap:=match tk.filter (Rl i) with
 | []=>[Bf tk i β]
 | l=>l.map fun t=>t.at β :: Bf tk i β
def uz (tk:List Tok) (listed:Array Bool) (β:Nat→Bk):Heap:=(tk.filter (AA listed)).map (·.at β)
def xm (tk:List Tok) (i:Nat) (β:Nat→Bk):Heap:=(tk.filter (Dj i)).map (·.at β)
def mG (tk:List Tok) (i:Nat) (β:Nat→Bk):Heap:=(tk.filter (R0 i)).map (·.at β)
def rl (β:Nat→Bk) (i:Nat) (b:Bk):Nat→Bk:=fun k=>bif Nat.beq k i then b else β k
theorem R1 (β:Nat→Bk) (i:Nat) (b:Bk):rl β i b i=b:=by simp [rl]
theorem Mo {β:Nat→Bk} {i k:Nat} {b:Bk} (h:k≠i):rl β i b k=β k:=by simp [rl,sY h]
def Pm (tk:List Tok) (β:Nat→Bk):Heap:=(tk.filter (fun t=>t.cons.isNone)).map (·.at β)
def XJ (A:List Nat) (m:Nat) (tk:List Tok):Bool:=tk.all fun t=>
 (match t.prod with | some p=>Nat.blt p m | none=>true)&&(match t.cons with | some c=>Nat.blt c m&&(match t.prod with | some p=>(A.getD c 0).testBit p | none=>true) | none=>true)&&
 (match t.Zg with | some a=>(match t.prod with | some p=>(A.getD p 0).testBit a | none=>false) | none=>true)&&
 t.rds.all fun i=>Nat.blt i m&&(match t.prod with | some p=>(A.getD i 0).testBit p | none=>true)&&(match t.cons with | some c=>(A.getD c 0).testBit i | none=>true)
def TT (A:List Nat) (m:Nat) (tk:List Tok):Bool:=(List.range m).all fun i=>match tk.filter (Rl i) with
 | []=>true
 | [t0,t1]=>(match t0.cons,t1.prod with | some j,some j'=>Nat.beq j j'&&!Nat.beq j i | _,_=>false)&&(match t0.prod with | some p=>(A.getD i 0).testBit p | none=>true)&&(match t1.cons with | some c=>(A.getD c 0).testBit i | none=>true)&&!Mn i t0&&!Mn i t1
 | _=>false
def K1 (all:Array Oper) (m:Nat) (tk:List Tok):Prop:=∀ i,i < m→tk.filter (Rl i)=[]∨∃ t0 t1 j,tk.filter (Rl i)=[t0,t1]∧t0.cons=some j∧t1.prod=some j∧j≠i∧(∀ p,t0.prod=some p→CO all i p)∧(∀ c,t1.cons=some c→CO all c i)∧Mn i t0=false∧Mn i t1=false
theorem K2 {A:List Nat} {tk:List Tok} (hA:Nk all=A) (h:TT A m tk=true):K1 all m tk:=by
 intro i hi
 have:=List.all_eq_true.1 h i (List.mem_range.2 hi)
 split at this
 ·rename_i e;exact .inl e
 ·rename_i t0 t1 e
  simp only [Bool.and_eq_true,Bool.not_eq_true'] at this
  obtain ⟨⟨⟨⟨h1,h2⟩,h3⟩,h4⟩,h5⟩:=this
  split at h1
  ·rename_i j j' hj Wl
   simp only [Bool.and_eq_true,Bool.not_eq_true'] at h1
   obtain ⟨h6,h7⟩:=h1
   obtain rfl:=Nat.eq_of_beq_eq_true h6
   refine .inr ⟨t0,t1,j,e,hj,Wl,fun e=>by rw [e] at h7;simp at h7,fun p hp=>?_,fun c hc=>?_,h4,h5⟩
   ·rw [hp] at h2;subst hA;exact qE h2
   ·rw [hc] at h3;subst hA;exact qE h3
  ·cases h1
 ·cases this
def Em (all:Array Oper) (m:Nat) (tk:List Tok):Prop:=∀ t∈tk,(∀ p,t.prod=some p→p < m)∧(∀ c,t.cons=some c→c < m∧∀ p,t.prod=some p→CO all c p)∧(∀ i,Mn i t=true→i < m∧(∀ p,t.prod=some p→CO all i p)∧∀ c,t.cons=some c→CO all c i)∧∀ a,t.Zg=some a→∃ p,t.prod=some p∧CO all p a
theorem Nt {A:List Nat} {tk:List Tok} (hA:Nk all=A) (h:XJ A m tk=true):Em all m tk:=by
 intro t ht
 have:=List.all_eq_true.1 h t ht
 rw [Bool.and_eq_true,Bool.and_eq_true,Bool.and_eq_true] at this
 obtain ⟨⟨⟨h1,h2⟩,h9⟩,h4⟩:=this
 subst hA
 refine ⟨fun p hp=>by rw [hp] at h1;simpa using h1,fun c hc=>?_,fun i hi=>?_,fun a ha=>?_⟩
 ·rw [hc] at h2
  simp only [Bool.and_eq_true] at h2
  refine ⟨by simpa using h2.1,fun p hp=>?_⟩
  have h3:=h2.2
  rw [hp] at h3
  exact qE h3
 ·have h5:=List.all_eq_true.1 h4 i (by simpa [Mn] using hi)
  rw [Bool.and_eq_true,Bool.and_eq_true] at h5
  obtain ⟨⟨h6,h7⟩,h8⟩:=h5
  exact ⟨by simpa using h6,fun p hp=>by rw [hp] at h7;exact qE h7,fun c hc=>by rw [hc] at h8;exact qE h8⟩
 ·rw [ha] at h9
  cases hp:t.prod with
  | none=>rw [hp] at h9;cases h9
  | some p=>rw [hp] at h9;exact ⟨p,rfl,qE h9⟩
theorem xn {α:Type} (p q:α→Bool) (l:List α):(l.filter p).Perm (l.filter (fun x=>p x&&q x)++l.filter (fun x=>p x&&!q x)):=by
 induction l with
 | nil=>exact List.Perm.refl _
 | cons x l ih=>
   simp only [List.filter_cons]
   cases hp:p x<;>cases hq:q x
   ·simpa using ih
   ·simpa using ih
   ·simp only [Bool.true_and,Bool.not_false,Bool.false_eq_true,if_false,if_true]
    exact (List.Perm.cons x ih).trans List.perm_middle.symm
   ·simp only [Bool.true_and,Bool.not_true,Bool.false_eq_true,if_false,if_true,List.cons_append]
    exact List.Perm.cons x ih
theorem UP {tk:List Tok} (hT:Em all m tk) {listed:Array Bool} {i:Nat} (zD:listed.getD i false=false) (HA:∀ j,CO all i j→listed.getD j false=true) (β:Nat→Bk):
 (uz tk listed β).Perm (xm tk i β++(tk.filter (fun t=>AA listed t&&!Dj i t)).map (·.at β)):=by
 unfold uz xm
 rw [← List.map_append]
 refine List.Perm.map _ ?_
 have e:tk.filter (Dj i)=tk.filter (fun t=>AA listed t&&Dj i t):=by
  apply List.filter_congr
  intro t ht
  cases hc:Dj i t with
  | false=>simp
  | true=>
    unfold Dj at hc
    split at hc
    ·rename_i c R2
     obtain rfl:c=i:=Nat.eq_of_beq_eq_true hc
     have:=(hT t ht).2.1 c R2
     have XB:AA listed t=true:=by
      unfold AA
      rw [R2]
      simp only [zD,Bool.not_false,Bool.and_true]
      split
      ·rfl
      ·rename_i p hp;exact HA p (this.2 p hp)
     rw [XB];rfl
    ·cases hc
 rw [e]
 exact xn _ _ _
theorem R3 {tk:List Tok} (hT:Em all m tk) {listed:Array Bool} (Gh:mI all listed) {i:Nat} (hi:i < listed.size) (zD:listed.getD i false=false) (HB:∀ c,CO all c i→c≠i) (β:Nat→Bk) (b:Bk):
 (uz tk (listed.setIfInBounds i true) (rl β i b)).Perm (mG tk i (rl β i b)++(tk.filter (fun t=>AA listed t&&!Dj i t)).map (·.at β)):=by
 unfold uz mG
 have e2:(tk.filter (fun t=>AA listed t&&!Dj i t)).map (·.at β)=(tk.filter (fun t=>AA listed t&&!Dj i t)).map (·.at (rl β i b)):=by
  apply List.map_congr_left
  intro t ht
  have h0:=(List.mem_filter.1 ht).1
  have h1:=(List.mem_filter.1 ht).2
  rw [Bool.and_eq_true] at h1
  have Y7:∀ p,t.prod=some p→listed.getD p false=true:=by
   intro p hp
   have:=h1.1
   unfold AA at this
   rw [hp,Bool.and_eq_true] at this
   exact this.1
  unfold Tok.at
  cases hx:t.ix with
  | none=>rfl
  | some p=>
    have OY:listed.getD p false=true:=by
     unfold Tok.ix at hx
     cases ha:t.Zg with
     | none=>rw [ha] at hx;exact Y7 p hx
     | some a=>
       rw [ha] at hx
       obtain rfl:=Option.some.inj hx
       obtain ⟨q,q1,q2⟩:=(hT t h0).2.2.2 a ha
       exact Gh.RU q2 (Y7 q q1)
    have:p≠i:=fun e=>by subst e;rw [zD] at OY;cases OY
    simp only [Mo this]
 rw [e2,← List.map_append]
 refine List.Perm.map _ ?_
 refine (xn _ (R0 i) _).trans ?_
 have f1:tk.filter (fun t=>AA (listed.setIfInBounds i true) t&&R0 i t)=tk.filter (R0 i):=by
  apply List.filter_congr
  intro t ht
  cases hp:R0 i t with
  | false=>simp
  | true=>
    unfold R0 at hp
    split at hp
    ·rename_i p Zh
     obtain rfl:p=i:=Nat.eq_of_beq_eq_true hp
     have XB:AA (listed.setIfInBounds p true) t=true:=by
      unfold AA
      rw [Zh]
      simp only [jZ hi,if_true,Bool.true_and]
      cases hc:t.cons with
      | none=>rfl
      | some c=>
        have HA:=((hT t ht).2.1 c hc).2 p Zh
        have sE:=HB c HA
        simp only [sE,if_false]
        cases hl:listed.getD c false with
        | false=>rfl
        | true=>have:=Gh.RU HA hl;rw [zD] at this;cases this
     rw [XB];rfl
    ·cases hp
 have f2:tk.filter (fun t=>AA (listed.setIfInBounds i true) t&&!R0 i t)=tk.filter (fun t=>AA listed t&&!Dj i t):=by
  apply List.filter_congr
  intro t ht
  unfold AA R0 Dj
  cases hp:t.prod with
  | none=>
    cases hc:t.cons with
    | none=>simp
    | some c=>
      simp only [jZ hi]
      by_cases Ro:c=i
      ·subst Ro;simp
      ·have:Nat.beq c i=false:=sY Ro
       simp [Ro,this]
  | some p=>
    by_cases Wm:p=i
    ·subst Wm
     simp [zD]
    ·have hb:Nat.beq p i=false:=sY Wm
     cases hc:t.cons with
     | none=>simp [jZ hi,Wm,hb]
     | some c=>
       simp only [jZ hi,Wm,hb,if_false]
       by_cases Ro:c=i
       ·subst Ro;simp
       ·have:Nat.beq c i=false:=sY Ro
        simp [Ro,this]
 rw [f1,f2]
theorem Pn {tk:List Tok} (hT:Em all m tk) {listed:Array Bool} (Gh:mI all listed) {i:Nat} (zD:listed.getD i false=false) (HA:∀ j,CO all i j→listed.getD j false=true) (HB:∀ c,CO all c i→c≠i) (β:Nat→Bk):
 ((tk.filter (fun t=>AA listed t&&!Dj i t)).map (·.at β)).Perm (Bf tk i β++(tk.filter (fun t=>(AA listed t&&!Dj i t)&&!Mn i t)).map (·.at β)):=by
 unfold Bf
 rw [← List.map_append]
 refine List.Perm.map _ ?_
 have e:tk.filter (Mn i)=tk.filter (fun t=>(AA listed t&&!Dj i t)&&Mn i t):=by
  apply List.filter_congr
  intro t ht
  cases hr:Mn i t with
  | false=>simp
  | true=>
    obtain ⟨_,q2,q3⟩:=(hT t ht).2.2.1 i hr
    have h1:AA listed t=true:=by
     unfold AA
     have e1:(match t.prod with | none=>true | some i=>listed.getD i false)=true:=by
      cases hp:t.prod with
      | none=>rfl
      | some p=>exact HA p (q2 p hp)
     have e2:(match t.cons with | none=>true | some i=>!listed.getD i false)=true:=by
      cases hc:t.cons with
      | none=>rfl
      | some c=>
        have:=q3 c hc
        show (!listed.getD c false)=true
        cases hl:listed.getD c false with
        | false=>rfl
        | true=>have:=Gh.RU this hl;rw [zD] at this;cases this
     rw [e1,e2];rfl
    have h2:Dj i t=false:=by
     unfold Dj
     cases hc:t.cons with
     | none=>rfl
     | some c=>exact sY (HB c (q3 c hc))
    rw [h1,h2];rfl
 rw [e]
 exact xn _ _ _
theorem Nu {tk:List Tok} (hT:Em all m tk) (hS:K1 all m tk) {listed:Array Bool} (Gh:mI all listed) {i:Nat} (II:i < m) (zD:listed.getD i false=false) (HA:∀ j,CO all i j→listed.getD j false=true) (HB:∀ c,CO all c i→c≠i) (β:Nat→Bk):
 ∃ X∈yw tk i β,∃ rest,((tk.filter (fun t=>AA listed t&&!Dj i t)).map (·.at β)).Perm (X++rest):=by
 have h0:=Pn hT Gh zD HA HB β
 rcases hS i II with e | ⟨t0,t1,j,e,a1,a2,a3,a4,a5,a6,a7⟩
 ·exact ⟨Bf tk i β,by unfold yw;rw [e];simp,_,h0⟩
 ·have m0:t0∈tk:=(List.mem_filter.1 (by rw [e];simp:t0∈tk.filter (Rl i))).1
  have m1:t1∈tk:=(List.mem_filter.1 (by rw [e];simp:t1∈tk.filter (Rl i))).1
  have go:∀ t,t∈tk→AA listed t=true→Dj i t=false→Mn i t=false→∃ rest,((tk.filter (fun t=>AA listed t&&!Dj i t)).map (·.at β)).Perm ((t.at β :: Bf tk i β)++rest):=by
   intro t ht h1 h2 h3
   have hm:t∈tk.filter (fun t=>(AA listed t&&!Dj i t)&&!Mn i t):=List.mem_filter.2 ⟨ht,by simp [h1,h2,h3]⟩
   obtain ⟨a,b,K4⟩:=List.append_of_mem hm
   rw [K4] at h0
   refine ⟨(a++b).map (·.at β),h0.trans ?_⟩
   rw [List.map_append,List.map_cons,List.map_append]
   refine (List.Perm.append_left _ List.perm_middle).trans ?_
   exact List.perm_middle
  have hX:∀ t,t∈[t0,t1]→(t.at β :: Bf tk i β)∈yw tk i β:=by
   intro t ht
   unfold yw
   rw [e]
   exact List.mem_map.2 ⟨t,ht,rfl⟩
  cases hj:listed.getD j false with
  | false=>
    have h1:AA listed t0=true:=by
     unfold AA
     rw [a1]
     simp only [hj,Bool.not_false,Bool.and_true]
     split
     ·rfl
     ·rename_i p hp;exact HA p (a4 p hp)
    have h2:Dj i t0=false:=by unfold Dj;rw [a1];exact sY a3
    obtain ⟨rest,hr⟩:=go t0 m0 h1 h2 a6
    exact ⟨_,hX t0 (by simp),rest,hr⟩
  | true=>
    have h1:AA listed t1=true:=by
     unfold AA
     rw [a2]
     simp only [hj,Bool.true_and]
     split
     ·rfl
     ·rename_i c hc
      cases hl:listed.getD c false with
      | false=>rfl
      | true=>have:=Gh.RU (a5 c hc) hl;rw [zD] at this;cases this
    have h2:Dj i t1=false:=by
     unfold Dj
     split
     ·rename_i c hc;exact sY (HB c (a5 c hc))
     ·rfl
    obtain ⟨rest,hr⟩:=go t1 m1 h1 h2 a7
    exact ⟨_,hX t1 (by simp),rest,hr⟩
def TV (P:Program) (all:Array Oper) (n:Nat) (B:Heap) (o:Oper) (e:Env) (Ti:Heap) (V:Bk→AV) (Pi:Bk→Heap):Prop:=
 ∀ w S a,a.tmps.size=n→a.defers=[]→dw w S (Ti++B)→Hs w S (looks all o) e a→∀ (K:Act→World→Prop) (Q:Exit→Act→World→Prop),
   (∀ b v w' S',lB w S (Ti++B) w' S' (Pi b++B)→dw w' S' (Pi b++B)→At w' S' (V b) v→K (a.put o.dst v) w')→o.wp P a w K Q
def uZ (P:Program) (all:Array Oper) (n:Nat) (B:Heap) (o:Oper) (e:Env) (Ti:Heap) (V:Bk→AV) (Pi:Bk→Heap):Prop:=
 (∀ d,o.dst=some d→d < n)∧((qn all o e true∧TV P all n B o e Ti V Pi)∨(qn all o e false∧∀ b,Pi b=Ti∧V b=.raw undef))
def KL (e c:Env):Env:=fun s=>match e s with | some av=>some av | none=>c s
theorem Po {e c:Env} {s:Nat} {av:AV} (h:e s=some av):KL e c s=some av:=by simp [KL,h]
theorem qn.up {all:Array Oper} {o:Oper} {e c:Env} {b:Bool} (h:qn all o e b):qn all o (KL e c) b:=by
 unfold qn at *
 cases hg:o.guard with
 | none=>rw [hg] at h;exact h
 | some g=>
   rw [hg] at h
   obtain ⟨s,h1,h2⟩:=h
   refine ⟨s,h1,?_⟩
   rcases h2 with ⟨x,h3,h4⟩ | ⟨h3,h4⟩
   ·exact .inl ⟨x,Po h3,h4⟩
   ·exact .inr ⟨Po h3,h4⟩
theorem Hs.down {w:World} {S:Nat→Prop} {ls:List Nat} {e c:Env} {a:Act} (h:Hs w S ls (KL e c) a):Hs w S ls e a:=fun s hs av so=>h s hs av (Po so)
theorem uZ.up {P:Program} {all:Array Oper} {n:Nat} {B:Heap} {o:Oper} {e c:Env} {Ti:Heap} {V:Bk→AV} {Pi:Bk→Heap} (h:uZ P all n B o e Ti V Pi):uZ P all n B o (KL e c) Ti V Pi:=by
 refine ⟨h.1,h.2.imp (fun x=>⟨x.1.up,fun w S a h1 h2 h3 h4=>x.2 w S a h1 h2 h3 h4.down⟩) (fun x=>⟨x.1.up,x.2⟩)⟩
theorem Pp {all:Array Oper} {mZ:Nat→Option AV} {V:Nat→Bk→AV} {cn:Nat→(Nat→Bk)→Env} {m:Nat} (h0:∀ β s,cn 0 β s=none) (hc:∀ i o,i < m→all[i]? =some o→∀ β,cn (i+1) β=match mZ i with | none=>oB (cn i β) o.dst (some (V i (β i))) | some _=>cn i β) (hm:m≤all.size):
 ∀ i,i≤m→∀ β s av,cn i β s=some av→∃ k o,k < i∧all[k]? =some o∧o.dst=some s∧mZ k=none∧av=V k (β k):=by
 intro i
 induction i with
 | zero=>intro _ β s av h;rw [h0] at h;cases h
 | succ i ih=>
   intro hi β s av h
   have xg:all[i]? =some all[i]:=by simp [show i < all.size by omega]
   rw [hc i _ (by omega) xg] at h
   cases so:mZ i with
   | some x=>
     rw [so] at h
     obtain ⟨k,o,h1,h2⟩:=ih (by omega) β s av h
     exact ⟨k,o,by omega,h2⟩
   | none=>
     rw [so] at h
     by_cases hd:(all[i]).dst=some s
     ·simp only [hd,na] at h
      exact ⟨i,_,by omega,xg,hd,so,(Option.some.inj h).symm⟩
     ·simp only [j0 hd] at h
      obtain ⟨k,o,h1,h2⟩:=ih (by omega) β s av h
      exact ⟨k,o,by omega,h2⟩
theorem Nv {cn:Nat→(Nat→Bk)→Env} {B:Heap} {tk:List Tok} {V:Nat→Bk→AV} (hB:xT all m) (hT:Em all m tk) (hSf:K1 all m tk) (hm:m≤all.size) {Q:Exit→Act→World→Prop} (h0:en 0=e)
 (UM:∀ β s,cn 0 β s=none) (hcn:∀ i o,i < m→all[i]? =some o→∀ β,cn (i+1) β=match mZ i with | none=>oB (cn i β) o.dst (some (V i (β i))) | some _=>cn i β)
 (hs:∀ i o,i < m→all[i]? =some o→(∀ β,∀ X∈yw tk i β,uZ P all n (X++B) o (KL (en i) (cn i β)) (xm tk i β) (V i) (fun b=>mG tk i (rl β i b)))∧en (i+1)=oB (en i) o.dst (mZ i)∧(∀ av,mZ i=some av→∀ b,V i b=av))
 (hU:∀ i j oi oj d,i < m→j < m→i≠j→all[i]? =some oi→all[j]? =some oj→mZ i=none→oi.dst=some d→oj.dst≠some d) {w0:World} {S0:Nat→Prop} {Zi:Heap}
 (fin:∀ β a w S,a.tmps.size=n→a.defers=[]→dw w S (Pm tk β++B)→lB w0 S0 Zi w S (Pm tk β++B)→Eg w S (en m) a→(∀ j o d,j < m→all[j]? =some o→mZ j=none→o.dst=some d→∃ v,a.tmps[d]? =some v∧At w S (V j (β j)) v)→wpList P all Q (all.toList.drop m) a w):
 ∀ (fuel:Nat) (listed:Array Bool) (a:Act) (w:World) (S:Nat→Prop) (β:Nat→Bk),Rn all m listed→(listed.toList.count true)+fuel=all.size→a.tmps.size=n→a.defers=[]→dw w S (uz tk listed β++B)→lB w0 S0 Zi w S (uz tk listed β++B)→Eg w S (yc all mZ e listed all.size) a→
   (∀ j o d,listed.getD j false=true→all[j]? =some o→mZ j=none→o.dst=some d→∃ v,a.tmps[d]? =some v∧At w S (V j (β j)) v)→
   wpAny P .any all Q fuel listed a w:=by
 have XD:∀ i o,i < m→all[i]? =some o→en (i+1)=oB (en i) o.dst (mZ i):=fun i o h1 h2=>(hs i o h1 h2).2.1
 have HB:∀ c i,CO all c i→c≠i:=by
  have key:∀ c i,CO all c i→i < c:=by
   intro c i h
   have one:∀ {j i:Nat} {oj:Oper},all[j]? =some oj→waits oj i=true→i < j:=by
    intro j i oj hj hw
    simp only [waits,List.any_eq_true,Bool.and_eq_true] at hw
    obtain ⟨e',he',D6,UH⟩:=hw
    have:=Ay hB hj (by simpa using he') D6
    obtain rfl:e'.on=i:=Nat.eq_of_beq_eq_true UH
    exact this
   induction h with
   | one hj hw=>exact one hj hw
   | step hj hw _ ih=>have:=one hj hw;omega
  intro c i h e;have:=key c i h;omega
 have done:∀ (fuel:Nat) (listed:Array Bool) (a:Act) (w:World) (S:Nat→Prop) (β:Nat→Bk),Rn all m listed→(listed.toList.count true)+fuel=all.size→a.tmps.size=n→a.defers=[]→dw w S (uz tk listed β++B)→lB w0 S0 Zi w S (uz tk listed β++B)→Eg w S (yc all mZ e listed all.size) a→
  (∀ j o d,listed.getD j false=true→all[j]? =some o→mZ j=none→o.dst=some d→∃ v,a.tmps[d]? =some v∧At w S (V j (β j)) v)→
  (∀ i,i < m→listed.getD i false=true)→wpAny P .any all Q fuel listed a w:=by
  intro fuel listed a w S β L hc jX KY hr hg xS K5 qM
  have I4:∀ i,m≤i→listed.getD i false=false:=fun i hi=>by
   cases hv:listed.getD i false with
   | false=>rfl
   | true=>have:=L.head i hv;omega
  have UI:listed.toList.count true=m:=by
   have:listed.toList=List.replicate m true++List.replicate (all.size - m) false:=by
    apply List.ext_getElem?
    intro i
    rcases Nat.lt_or_ge i m with hi | hi
    ·have wI:i < listed.size:=by rw [L.size];omega
     rw [List.getElem?_append_left (by simpa using hi)]
     have:=qM i hi
     simp [wI] at this
     simp [wI,hi,this]
    ·rw [List.getElem?_append_right (by simpa using hi)]
     rcases Nat.lt_or_ge i listed.size with wI | wI
     ·have:=I4 i hi
      simp [wI] at this
      have h2:i - m < all.size - m:=by rw [L.size] at wI;omega
      simp [wI,h2,this]
     ·have h2:¬ i - m < all.size - m:=by rw [L.size] at wI;omega
      simp [List.getElem?_eq_none (l:=listed.toList) (by simpa using wI),h2]
   rw [this,List.count_append,List.count_replicate,List.count_replicate]
   simp
  have UJ:yc all mZ e listed all.size=en m:=by
   have key:∀ k,k≤all.size→yc all mZ e listed k=en (min k m):=by
    intro k
    induction k with
    | zero=>intro _;simp [yc,h0]
    | succ k ih=>
      intro hk
      have xg:all[k]? =some all[k]:=by simp [show k < all.size by omega]
      simp only [yc,xg,Option.bind_some,ih (by omega)]
      rcases Nat.lt_or_ge k m with h | h
      ·rw [if_pos (qM k h),Nat.min_eq_left (by omega),Nat.min_eq_left (by omega),XD k _ h xg]
      ·rw [if_neg (by rw [I4 k h];simp),Nat.min_eq_right (by omega),Nat.min_eq_right (by omega)]
   rw [key all.size (Nat.le_refl _),Nat.min_eq_right hm]
  have XK:uz tk listed β=Pm tk β:=by
   unfold uz Pm
   congr 1
   apply List.filter_congr
   intro t ht
   obtain ⟨q1,q2,_⟩:=hT t ht
   unfold AA
   cases hp:t.prod with
   | none=>
     cases hc:t.cons with
     | none=>rfl
     | some c=>simp [qM c (q2 c hc).1]
   | some p=>
     cases hc:t.cons with
     | none=>simp [qM p (q1 p hp)]
     | some c=>simp [qM c (q2 c hc).1]
  rw [UJ] at xS
  rw [XK] at hr hg
  exact I3 hB fuel m listed a w (Nat.le_refl _) (by omega) L.size qM I4 (fin β a w S jX KY hr hg xS (fun j o d hj ho so hd=>K5 j o d (qM j hj) ho so hd))
 intro fuel
 induction fuel with
 | zero=>
   intro listed a w S β L hc jX KY hr hg xS K5
   refine done 0 listed a w S β L hc jX KY hr hg xS K5 (fun i hi=>?_)
   have I5:listed.toList.count true=listed.toList.length:=by rw [Array.length_toList,L.size];omega
   have qM:=List.count_eq_length.1 I5
   have wI:i < listed.size:=by rw [L.size];omega
   have:=qM listed[i] (by simp)
   simp [wI];exact this.symm
 | succ fuel ih=>
   intro listed a w S β L hc jX KY hr hg xS K5
   by_cases qM:∀ i,i < m→listed.getD i false=true
   ·exact done _ listed a w S β L hc jX KY hr hg xS K5 qM
   ·refine ⟨fun O9=>(qM fun i hi=>Cj hB L.size O9 i (by omega)).elim,fun i hi=>?_⟩
    obtain ⟨KJ,KX⟩:=ze hi
    have zD:=DN KX
    have CQ:all[i]? =some all[i]:=by simp [KJ]
    have II:i < m:=by
     rcases Nat.lt_or_ge i m with h | h
     ·exact h
     ·refine (qM fun j hj=>?_).elim
      have Rm:all[j]? =some all[j]:=by simp [show j < all.size by omega]
      exact mI.ready L.closed ((lG hB CQ Rm (by omega)).2 h) hi
    have wI:i < listed.size:=by rw [L.size];exact KJ
    obtain ⟨aa4,_,hV⟩:=hs i _ II CQ
    obtain ⟨X,hX,rest,prd⟩:=Nu hT hSf L.closed II zD (fun j hj=>mI.ready L.closed hj hi) (fun c h=>HB c i h) β
    obtain ⟨TE,Pa⟩:=aa4 β X hX
    have Av:Hs w S (looks all all[i]) (KL (en i) (cn i β)) a:=by
     intro s O5 av so
     rw [KL] at so
     cases UQ:en i s with
     | none=>
       rw [UQ] at so
       obtain ⟨k,o,k1,k2,k3,k4,k5⟩:=Pp UM hcn hm i (by omega) β s av so
       have TU:listed.getD k false=true:=mI.ready L.closed ((lG hB CQ k2 k1).1 II (Az k3 O5)) hi
       rw [k5]
       exact K5 k o s TU k2 k4 k3
     | some pz=>
     rw [UQ] at so
     obtain rfl:=Option.some.inj so
     have hc:=Ns (mZ:=mZ) (en:=en) (e:=e) hB L h0 XD hm CQ II zD (fun j hj=>mI.ready L.closed hj hi) O5 all.size (Nat.le_refl _)
     rw [Nat.min_eq_right (by omega)] at hc
     exact xS s pz (by rw [hc];exact UQ)
    have L':Rn all m (listed.setIfInBounds i true):=by
     refine ⟨by simpa using L.size,fun k hk=>?_,fun k j o hk xg hw=>?_⟩
     ·rw [jZ wI] at hk
      split at hk
      ·omega
      ·exact L.head k hk
     ·rw [jZ wI] at hk
      rw [jZ wI]
      split
      ·rfl
      ·split at hk
       ·rename_i hki
        subst hki
        obtain rfl:all[k]=o:=by rw [CQ] at xg;exact Option.some.inj xg
        exact vO CQ hi hw
       ·exact L.closed k j o hk xg hw
    have I5:(listed.setIfInBounds i true).toList.count true+fuel=all.size:=by
     have Pb:listed[i]=false:=by simpa [wI] using zD
     have:(listed.setIfInBounds i true).toList=listed.toList.set i true:=by simp
     rw [this,List.count_set (by simpa using wI)]
     have Rk:listed.toList[i]'(by simpa using wI)=false:=by simpa using Pb
     rw [Rk]
     have e1:(if (false==true)=true then 1 else 0)=0:=rfl
     have e2:(if (true==true)=true then 1 else 0)=1:=rfl
     rw [e1,e2]
     omega
    have XL:∀ T:Heap,(T++(X++rest)++B).Perm ((T++(X++B))++rest):=fun T=>by
     rw [List.append_assoc,List.append_assoc,List.append_assoc,List.append_assoc]
     exact List.Perm.append_left _ (List.Perm.append_left _ List.perm_append_comm)
    have pin:(uz tk listed β++B).Perm ((xm tk i β++(X++B))++rest):=
     (((UP hT zD (fun j hj=>mI.ready L.closed hj hi) β).trans (List.Perm.append_left _ prd)).append_right B).trans (XL _)
    have XM:∀ b,((mG tk i (rl β i b)++(X++B))++rest).Perm (uz tk (listed.setIfInBounds i true) (rl β i b)++B):=fun b=>
     List.Perm.symm ((((R3 hT L.closed wI zD (fun c h=>HB c i h) β b).trans (List.Perm.append_left _ prd)).append_right B).trans (XL _))
    have hrp:dw w S ((xm tk i β++(X++B))++rest):=hr.perm pin
    have Zd:∀ v,(a.put (all[i]).dst v).tmps.size=n:=fun v=>by cases (all[i]).dst<;>simp [Act.put,jX]
    have Ze:∀ v,(a.put (all[i]).dst v).defers=[]:=fun v=>by cases (all[i]).dst<;>simp [Act.put,KY]
    have aa5:∀ {w1 w2:World} {S1 S2:Nat→Prop} {h1 h2 Oz Xv:Heap},lB w1 S1 h1 w2 S2 h2→h1.Perm Oz→h2.Perm Xv→lB w1 S1 Oz w2 S2 Xv:=by
     intro w1 w2 S1 S2 h1 h2 Oz Xv ev p1 p2
     have has:∀ {g g':Heap} {k:Nat},g.Perm g'→(Has g k↔Has g' k):=fun p=>
      ⟨fun ⟨x,hx,hb⟩=>⟨x,p.mem_iff.1 hx,hb⟩,fun ⟨x,hx,hb⟩=>⟨x,p.mem_iff.2 hx,hb⟩⟩
     exact ⟨ev.os,ev.tape,ev.output,ev.size,ev.mW,fun k hk hh=>ev.other k hk (fun hc=>hh ((has p1).1 hc)),fun k hk=>((ev.new k ((has p2).2 hk)).imp (has p1).1 id),ev.drawn⟩
    have next:∀ (b:Bk) (v:Value) (w':World) (S':Nat→Prop),lB w S (xm tk i β++(X++B)) w' S' (mG tk i (rl β i b)++(X++B))→dw w' S' (mG tk i (rl β i b)++(X++B))→At w' S' (V i b) v→wpAny P .any all Q fuel (listed.setIfInBounds i true) (a.put (all[i]).dst v) w':=by
     intro b v w' S' R4 UR vF
     have OB:dw w' S' ((mG tk i (rl β i b)++(X++B))++rest):=hrp.frame R4 UR
     have ev2:=R4.frame rest
     refine ih _ _ _ S' (rl β i b) L' I5 (Zd v) (Ze v) (OB.perm (XM b)) (hg.trans (aa5 ev2 pin.symm (XM b))) ?_ ?_
     ·intro s av so
      rw [Pl (mZ:=mZ) (e:=e) hB L CQ II zD s all.size (Nat.le_refl _),if_pos (by omega)] at so
      by_cases hd:(all[i]).dst=some s
      ·rw [hd,na] at so
       have XE:=TE s hd
       exact ⟨v,by rw [hd];simp [Act.put,jX,XE],by rw [← hV av so b];exact vF⟩
      ·rw [j0 hd] at so
       obtain ⟨u,h1,h2⟩:=xS s av so
       refine ⟨u,?_,h2.mono R4.mW⟩
       cases Hv:(all[i]).dst with
       | none=>simpa [Act.put] using h1
       | some d'=>
         have sE:d'≠s:=fun e=>hd (by rw [Hv,e])
         simp [Act.put,sE,h1]
     ·intro j o d hj ho so hd
      by_cases Zj:j=i
      ·subst Zj
       rw [CQ] at ho;obtain rfl:=Option.some.inj ho
       have XE:=TE d hd
       exact ⟨v,by rw [hd];simp [Act.put,jX,XE],by rw [R1];exact vF⟩
      ·have Mf:listed.getD j false=true:=by rw [jZ wI,if_neg Zj] at hj;exact hj
       obtain ⟨u,h1,h2⟩:=K5 j o d Mf ho so hd
       refine ⟨u,?_,by rw [Mo Zj];exact h2.mono R4.mW⟩
       cases Hv:(all[i]).dst with
       | none=>simpa [Act.put] using h1
       | some d'=>
         have sE:d'≠d:=fun e=>hU j i o all[i] d (L.head j Mf) II Zj ho CQ so hd (by rw [Hv,e])
         simp [Act.put,sE,h1]
    simp only [wpOp,CQ]
    rcases Pa with ⟨hw,hmv⟩ | ⟨hw,so⟩
    ·rw [if_pos (zf hw Av)]
     exact .inl (hmv w S a jX KY (hrp.sub (List.sublist_append_left _ _)) Av _ _ (fun b v w' S' R4 UR vF=>next b v w' S' R4 UR vF))
    ·rw [if_neg (by rw [zf hw Av];simp)]
     obtain ⟨e1,e2⟩:=so ⟨none,0⟩
     replace e1:mG tk i (rl β i ⟨none,0⟩)=xm tk i β:=e1
     refine next ⟨none,0⟩ _ w S (by rw [e1];exact lB.refl _ _ _) (by rw [e1];exact hrp.sub (List.sublist_append_left _ _)) ?_
     rw [e2];exact .raw _
end order
end Go.Eng
set_option linter.unusedVariables false
set_option linter.unusedSectionVars false
namespace Go.Eng
open Go
variable [bc]
theorem Pq {P:Program} {o:Oper} {a:Act} {K0 K:Act→World→Prop} {G:Act→World→Prop} {Q':Exit→Act→World→Prop} (hK:∀ v w',K0 (a.put o.dst v) w'→K (a.put o.dst v) w') (hd:∀ a' w',K0 a' w'→a'.defers=[]):
 ∀ r,o.upon P a K0 (Ap G) r→o.upon P a K Q' r:=by
 intro r h
 unfold Oper.upon at *
 split at h
 ·exact hK _ _ h
 ·exact hK _ _ h
 ·rename_i d w'
  have:=hd _ _ h
  cases I9:o.dst<;>simp [Act.put,I9] at this
 ·refine Calls.mono h ?_
  intro e w' he
  cases e with
  | returned v=>exact hK _ _ he
  | panicked c=>cases he.1
  | outgrown=>obtain ⟨a0,w0,h0⟩:=he;cases h0.1
 ·exact Rows.mono h fun v w' hv=>hK _ _ hv
 ·cases h.1
 ·exact h.elim
theorem R5 {P:Program} {all:Array Oper} {o:Oper} {σ:St} {Q:St→Prop} (hg:o.guard=none) (h:ARun P all [o] σ Q) {w:World} {S:Nat→Prop} {a:Act} (r:eC w S σ a) {K:Act→World→Prop} {Q':Exit→Act→World→Prop}
 (hK:∀ v w',Y3 w S σ.hp Q (a.put o.dst v) w'→K (a.put o.dst v) w'):o.wp P a w K Q':=by
 have:=h w S a r
 unfold wpList at this
 rw [if_pos (by simp [Region.wanted,hg])] at this
 rcases this with h1 | ⟨_,a0,w0,h0,_⟩
 ·refine Pq (G:=Y3 w S σ.hp Q) (fun v w' hh=>hK v w' hh.2) (fun a' w' hh=>?_) _ h1
  obtain ⟨_,aB,S',_,hr,_⟩:=hh
  exact hr.defers
 ·cases h0
variable {P:Program} {all:Array Oper} {n:Nat} {B:Heap} {tk:List Tok}
def Nw (x:Option AV) (c:(Nat→Bk)→Env) (d:Option Nat) (V:Bk→AV) (i:Nat):(Nat→Bk)→Env:=fun β=>match x with | none=>oB (c β) d (some (V (β i))) | some _=>c β
inductive TW (P:Program) (all:Array Oper) (n:Nat) (B:Heap) (tk:List Tok) (dy:List Nat):Nat→List Oper→Env→((Nat→Bk)→Env)→List (Option AV×(Bk→AV))→Env→Prop
 | nil (i:Nat) (e:Env) (c:(Nat→Bk)→Env):TW P all n B tk dy i [] e c [] e
 | cons {i:Nat} {o:Oper} {l:List Oper} {e e':Env} {c:(Nat→Bk)→Env} {D:List (Option AV×(Bk→AV))} {x:Option AV} {V:Bk→AV} (h:∀ β,∀ X∈yw tk i β,uZ P all n (X++B) o (KL e (c β)) (xm tk i β) V (fun b=>mG tk i (rl β i b))) (hv:∀ av,x=some av→∀ b,V b=av) (hx:x=none→dy.contains i=true)
  (k:TW P all n B tk dy (i+1) l (oB e o.dst x) (Nw x c o.dst V i) D e'):TW P all n B tk dy i (o :: l) e c ((x,V) :: D) e'
def Bg (β:Nat→Bk):Nat→List Oper→List (Option AV×(Bk→AV))→List (Nat×AV)→List (Nat×AV)
 | i,o :: l,(none,V) :: D,a=>match o.dst with
   | some d=>Bg β (i+1) l D ((d,V (β i)) :: a)
   | none=>Bg β (i+1) l D a
 | i,_ :: l,(some _,_) :: D,a=>Bg β (i+1) l D a
 | _,_,_,a=>a
def AT (P:Program) (all:Array Oper) (n:Nat) (B:Heap) (tk:List Tok) (dy:List Nat) (i:Nat) (l:List Oper) (tm:List (Nat×AV)) (acc:(Nat→Bk)→List (Nat×AV)) (Q:(Nat→Bk)→List (Nat×AV)→Prop):Prop:=
 ∃ D sZ,TW P all n B tk dy i l (lk tm) (fun β=>lk (acc β)) D (lk sZ)∧∀ β,Q β (Bg β i l D (acc β)++sZ)
section rules
variable {dy:List Nat} {i:Nat} {rest:List Oper} {tm:List (Nat×AV)} {acc:(Nat→Bk)→List (Nat×AV)} {Q:(Nat→Bk)→List (Nat×AV)→Prop} {d:Nat} {ty:TypeId} {pos:String} {af:Array Edge} {op:Op}
theorem AT.nil {F:(Nat→Bk)→List (Nat×AV)} (hF:∀ β,F β=acc β++tm) (h:∀ β,Q β (F β)):AT P all n B tk dy i [] tm acc Q:=
 ⟨[],tm,.nil _ _ _,fun β=>by rw [show Bg β i [] [] (acc β)=acc β from rfl,← hF];exact h β⟩
theorem AT.sta {o:Oper} {d:Nat} {av:AV} (hd:o.dst=some d) (h:∀ β,∀ X∈yw tk i β,uZ P all n (X++B) o (KL (lk tm) (lk (acc β))) (xm tk i β) (fun _=>av) (fun b=>mG tk i (rl β i b))) (k:AT P all n B tk dy (i+1) rest ((d,av) :: tm) acc Q):AT P all n B tk dy i (o :: rest) tm acc Q:=by
 obtain ⟨D,sZ,k1,k2⟩:=k
 refine ⟨(some av,fun _=>av) :: D,sZ,.cons h (fun pz e b=>Option.some.inj e) (fun e=>by cases e) ?_,k2⟩
 have:oB (lk tm) o.dst (some av)=lk ((d,av) :: tm):=by
  rw [zg,hd];rfl
 rw [this];exact k1
theorem AT.dyn {o:Oper} {d:Nat} {V:Bk→AV} (hd:o.dst=some d) (Ar:lk tm d=none) (US:dy.contains i=true) (h:∀ β,∀ X∈yw tk i β,uZ P all n (X++B) o (KL (lk tm) (lk (acc β))) (xm tk i β) V (fun b=>mG tk i (rl β i b))) (k:AT P all n B tk dy (i+1) rest tm (fun β=>(d,V (β i)) :: acc β) Q):AT P all n B tk dy i (o :: rest) tm acc Q:=by
 obtain ⟨D,sZ,k1,k2⟩:=k
 refine ⟨(none,V) :: D,sZ,.cons h (fun pz e b=>by cases e) (fun _=>US) ?_,fun β=>?_⟩
 ·have:oB (lk tm) o.dst none=lk tm:=by
   funext s
   rw [hd]
   simp only [oB]
   split
   ·rename_i e;subst e;exact Ar.symm
   ·rfl
  rw [this]
  have e2:Nw none (fun β=>lk (acc β)) o.dst V i=fun β=>lk ((d,V (β i)) :: acc β):=by
   funext β
   simp only [Nw,hd]
   rw [zg];rfl
  rw [e2];exact k1
 ·have:=k2 β
  simp only [Bg,hd]
  exact this
theorem AT.sto {o:Oper} (hd:o.dst=none) (h:∀ β,∀ X∈yw tk i β,uZ P all n (X++B) o (KL (lk tm) (lk (acc β))) (xm tk i β) (fun _=>.raw undef) (fun b=>mG tk i (rl β i b))) (k:AT P all n B tk dy (i+1) rest tm acc Q):AT P all n B tk dy i (o :: rest) tm acc Q:=by
 obtain ⟨D,sZ,k1,k2⟩:=k
 refine ⟨(some (.raw undef),fun _=>.raw undef) :: D,sZ,.cons h (fun pz e b=>Option.some.inj e) (fun e=>by cases e) ?_,k2⟩
 rw [hd];exact k1
def wu (tk:List Tok) (i j:Nat):Bool:=tk.all fun t=>(match t.prod with | some p=>Nat.blt p i||Nat.ble j p | none=>true)&&(match t.cons with | some p=>Nat.blt p i||Nat.ble j p | none=>true)&&((t.rds.all fun p=>Nat.blt p i||Nat.ble j p)&&t.sft.all fun p=>Nat.blt p i||Nat.ble j p)
theorem Ja {i j:Nat} (h:wu tk i j=true) {k:Nat} (h1:i≤k) (h2:k < j) (β:Nat→Bk):xm tk k β=[]:=by
 unfold xm
 rw [List.map_eq_nil_iff,List.filter_eq_nil_iff]
 intro t ht hc
 have:=List.all_eq_true.1 h t ht
 rw [Bool.and_eq_true,Bool.and_eq_true] at this
 replace this:=this.1
 unfold Dj at hc
 split at hc
 ·rename_i c R2
  obtain rfl:c=k:=Nat.eq_of_beq_eq_true hc
  have:=this.2
  rw [R2] at this
  simp at this;omega
 ·cases hc
theorem Gt {i j:Nat} (h:wu tk i j=true) {k:Nat} (h1:i≤k) (h2:k < j) (β:Nat→Bk):mG tk k β=[]:=by
 unfold mG
 rw [List.map_eq_nil_iff,List.filter_eq_nil_iff]
 intro t ht hc
 have:=List.all_eq_true.1 h t ht
 rw [Bool.and_eq_true,Bool.and_eq_true] at this
 replace this:=this.1
 unfold R0 at hc
 split at hc
 ·rename_i c R2
  obtain rfl:c=k:=Nat.eq_of_beq_eq_true hc
  have:=this.1
  rw [R2] at this
  simp at this;omega
 ·cases hc
theorem Pr {i j:Nat} (h:wu tk i j=true) {k:Nat} (h1:i≤k) (h2:k < j) (β:Nat→Bk):Bf tk k β=[]:=by
 unfold Bf
 rw [List.map_eq_nil_iff,List.filter_eq_nil_iff]
 intro t ht hc
 have:=List.all_eq_true.1 h t ht
 rw [Bool.and_eq_true] at this
 have h3:=List.all_eq_true.1 (Bool.and_eq_true_iff.1 this.2).1 k (by simpa [Mn] using hc)
 simp at h3;omega
theorem Gu {i j:Nat} (h:wu tk i j=true) {k:Nat} (h1:i≤k) (h2:k < j) (β:Nat→Bk):yw tk k β=[[]]:=by
 have e:tk.filter (Rl k)=[]:=by
  rw [List.filter_eq_nil_iff]
  intro t ht hc
  have:=List.all_eq_true.1 h t ht
  rw [Bool.and_eq_true] at this
  have h3:=List.all_eq_true.1 (Bool.and_eq_true_iff.1 this.2).2 k (by simpa [Rl] using hc)
  simp at h3;omega
 unfold yw
 rw [e,Pr h h1 h2 β]
theorem En (e:Env) (d:Option Nat) (av:AV):oB e d (some av)=zC e d av:=by
 cases d<;>rfl
theorem Ps {o:Oper} {e:Env} {av:AV} (hd:∀ d,o.dst=some d→d < n) (hg:qn all o e true) (h:MV P all n o e B av):uZ P all n B o e [] (fun _=>av) (fun _=>[]):=by
 refine ⟨hd,.inl ⟨hg,fun w S a h1 h2 h3 h4 K Q hK=>?_⟩⟩
 exact h w S a h1 h2 h3 h4 K Q (fun v w' S' TQ vF=>hK ⟨none,0⟩ v w' S' (TQ.evo h3.slt _) (h3.grow TQ) vF)
theorem XN:∀ {l1:List Oper} {e e':Env} {i:Nat} (h:RT P all n B l1 e e') (hn:wu tk i (i+l1.length)=true) {l2:List Oper} {c:(Nat→Bk)→Env} {D:List (Option AV×(Bk→AV))} {e2:Env},TW P all n B tk dy (i+l1.length) l2 e' c D e2→
 ∃ D1,TW P all n B tk dy i (l1++l2) e c (D1++D) e2∧D1.length=l1.length∧∀ x∈D1,x.1.isSome=true:=by
 intro l1 e e' i h
 induction h generalizing i with
 | nil e=>intro hn l2 c D e2 k;exact ⟨[],by simpa using k,rfl,by simp⟩
 | @run o l e e' av hg hm hd k ih=>
   intro hn l2 c D e2 kk
   have Pt:wu tk (i+1) (i+1+l.length)=true:=by
    unfold wu at hn ⊢
    rw [List.all_eq_true] at hn ⊢
    intro t ht
    have:=hn t ht
    rw [Bool.and_eq_true,Bool.and_eq_true] at this ⊢
    refine ⟨⟨?_,?_⟩,?_⟩
    ·have h1:=this.1.1
     cases hp:t.prod<;>rw [hp] at h1<;>simp_all<;>omega
    ·have h1:=this.1.2
     cases hp:t.cons<;>rw [hp] at h1<;>simp_all<;>omega
    ·have h1:=this.2
     rw [Bool.and_eq_true,List.all_eq_true,List.all_eq_true] at h1 ⊢
     exact ⟨fun p hp=>by have:=h1.1 p hp;simp at this ⊢;omega,fun p hp=>by have:=h1.2 p hp;simp at this ⊢;omega⟩
   obtain ⟨D1,a1,a2,a3⟩:=ih Pt (l2:=l2) (D:=D) (e2:=e2) (by rw [show i+1+l.length=i+(o :: l).length by simp;omega];exact kk)
   refine ⟨(some av,fun _=>av) :: D1,?_,by simp [a2],?_⟩
   ·refine .cons (fun β X hX=>?_) (fun pz e b=>Option.some.inj e) (fun e=>by cases e) (by rw [En];exact a1)
    rw [Gu hn (Nat.le_refl _) (by simp)] at hX
    obtain rfl:=List.mem_singleton.1 hX
    rw [Ja hn (Nat.le_refl _) (by simp),show (fun b=>mG tk i (rl β i b))=fun _=>[] from funext fun b=>Gt hn (Nat.le_refl _) (by simp) _]
    exact (Ps hd hg hm).up
   ·intro x hx
    rcases List.mem_cons.1 hx with rfl | hx
    ·rfl
    ·exact a3 x hx
 | @pass o l e e' hg hd k ih=>
   intro hn l2 c D e2 kk
   have Pt:wu tk (i+1) (i+1+l.length)=true:=by
    unfold wu at hn ⊢
    rw [List.all_eq_true] at hn ⊢
    intro t ht
    have:=hn t ht
    rw [Bool.and_eq_true,Bool.and_eq_true] at this ⊢
    refine ⟨⟨?_,?_⟩,?_⟩
    ·have h1:=this.1.1
     cases hp:t.prod<;>rw [hp] at h1<;>simp_all<;>omega
    ·have h1:=this.1.2
     cases hp:t.cons<;>rw [hp] at h1<;>simp_all<;>omega
    ·have h1:=this.2
     rw [Bool.and_eq_true,List.all_eq_true,List.all_eq_true] at h1 ⊢
     exact ⟨fun p hp=>by have:=h1.1 p hp;simp at this ⊢;omega,fun p hp=>by have:=h1.2 p hp;simp at this ⊢;omega⟩
   obtain ⟨D1,a1,a2,a3⟩:=ih Pt (l2:=l2) (D:=D) (e2:=e2) (by rw [show i+1+l.length=i+(o :: l).length by simp;omega];exact kk)
   refine ⟨(some (.raw undef),fun _=>.raw undef) :: D1,?_,by simp [a2],?_⟩
   ·refine .cons (fun β X hX=>?_) (fun pz e b=>Option.some.inj e) (fun e=>by cases e) (by rw [En];exact a1)
    rw [Gu hn (Nat.le_refl _) (by simp)] at hX
    obtain rfl:=List.mem_singleton.1 hX
    rw [Ja hn (Nat.le_refl _) (by simp),show (fun b=>mG tk i (rl β i b))=fun _=>[] from funext fun b=>Gt hn (Nat.le_refl _) (by simp) _]
    exact ⟨hd,.inr ⟨hg.up,fun b=>⟨rfl,rfl⟩⟩⟩
   ·intro x hx
    rcases List.mem_cons.1 hx with rfl | hx
    ·rfl
    ·exact a3 x hx
theorem Gv (β:Nat→Bk):∀ {l1:List Oper} {D1:List (Option AV×(Bk→AV))} (i:Nat) {l2:List Oper} {D:List (Option AV×(Bk→AV))} (a:List (Nat×AV)),D1.length=l1.length→(∀ x∈D1,x.1.isSome=true)→Bg β i (l1++l2) (D1++D) a=Bg β (i+l1.length) l2 D a
 | [],[],i,l2,D,a,_,_=>by simp
 | o :: l1,(some av,V) :: D1,i,l2,D,a,h,hs=>by
   simp only [List.cons_append,Bg]
   rw [Gv β (i+1) a (by simpa using h) (fun x hx=>hs x (by simp [hx]))]
   simp [Nat.add_assoc,Nat.add_comm 1]
 | o :: l1,(none,V) :: D1,i,l2,D,a,h,hs=>by have:=hs (none,V) (by simp);cases this
 | [],_ :: _,i,l2,D,a,h,hs=>by cases h
 | _ :: _,[],i,l2,D,a,h,hs=>by cases h
theorem AT.am {l l1 l2:List Oper} (m:Nat) (hs:I6 m l=some (l1,l2)) (hn:wu tk i (i+m)=true) (h:AM P all n B l1 tm (fun sZ=>AT P all n B tk dy (i+m) l2 sZ acc Q)):AT P all n B tk dy i l tm acc Q:=by
 obtain ⟨rfl,rfl⟩:=zh hs
 obtain ⟨Dk,h1,D,sZ,h2,h3⟩:=h
 obtain ⟨D1,a1,a2,a3⟩:=XN h1 hn h2
 refine ⟨D1++D,sZ,a1,fun β=>?_⟩
 rw [Gv β i (acc β) a2 a3]
 exact h3 β
theorem zj {o:Oper} {Ti H1:Heap} {V:Bk→AV} {Pi H2:Bk→Heap} (hg:o.guard=none) (hd:∀ d,o.dst=some d→d < n) (h1:vJ Ti B=some H1) (h2:∀ b,vJ (Pi b) B=some (H2 b))
 (wj:ARun P all [o] ⟨n,Hw (looks all o) tm,H1⟩ (fun aB=>∃ b Dk,aB=⟨n,Dk,H2 b⟩∧∀ d,o.dst=some d→lk Dk d=some (V b)))
 (hv:o.dst=none→∀ b,V b=.raw undef):uZ P all n B o (lk tm) Ti V Pi:=by
 refine ⟨hd,.inl ⟨by simp [qn,hg],fun w S a s1 s2 s3 s4 K Q hK=>?_⟩⟩
 have e1:=rj h1
 rw [e1] at s3 hK
 refine R5 hg wj (sG s1 s2 s3 s4) (fun v w' aa6=>?_)
 obtain ⟨aB,S',⟨b,Dk,rfl,R6⟩,hr,R4⟩:=aa6
 have e2:=rj (h2 b)
 cases I9:o.dst with
 | some d=>
   have TE:=hd d I9
   obtain ⟨u,g1,g2⟩:=hr.tm d _ (R6 d I9)
   have hu:u=v:=by
    rw [I9] at g1
    simp [Act.put,s1,TE] at g1
    exact g1.symm
   rw [hu] at g2
   rw [← I9]
   exact hK b v w' S' (by rw [e2];exact R4) (by rw [e2];exact hr.hp) g2
 | none=>
   have:a.put none v=a.put o.dst undef:=by rw [I9];rfl
   rw [this]
   exact hK b undef w' S' (by rw [e2];exact R4) (by rw [e2];exact hr.hp) (by rw [hv I9 b];exact .raw _)
theorem AT.qN {av:AV} {Ti H1 Pi H2:Heap} (O9:∀ β,yw tk i β=[[]]) (TX:∀ β,xm tk i β=Ti) (UT:∀ β,mG tk i β=Pi) (h1:vJ Ti B=some H1) (h2:vJ Pi B=some H2) (hn:Nat.blt d n=true)
 (wj:ARun P all [⟨some d,op,ty,pos,af,none⟩] ⟨n,Hw (looks all ⟨some d,op,ty,pos,af,none⟩) tm,H1⟩ (fun aB=>∃ Dk,aB=⟨n,Dk,H2⟩∧lk Dk d=some av))
 (k:AT P all n B tk dy (i+1) rest ((d,av) :: tm) acc Q):AT P all n B tk dy i (⟨some d,op,ty,pos,af,none⟩ :: rest) tm acc Q:=by
 refine AT.sta rfl (fun β X hX=>?_) k
 rw [O9 β] at hX
 obtain rfl:=List.mem_singleton.1 hX
 rw [List.nil_append,TX β,show (fun b=>mG tk i (rl β i b))=fun _=>Pi from funext fun b=>UT _]
 refine uZ.up ?_
 refine zj rfl (fun d' CS=>by obtain rfl:=Option.some.inj CS;simpa using hn) h1 (fun _=>h2) ?_ (fun e=>by cases e)
 refine fun w S a r=>jG ?_ _ _ _ (wj w S a r)
 rintro e a' w' ⟨he,aB,S',⟨Dk,q1,q2⟩,hh⟩
 exact ⟨he,aB,S',⟨⟨none,0⟩,Dk,q1,fun d' CS=>by obtain rfl:=Option.some.inj CS;exact q2⟩,hh⟩
theorem AT.UU {V:Bk→AV} {Ti H1:Heap} {Pi H2:Bk→Heap} (O9:∀ β,yw tk i β=[[]]) (TX:∀ β,xm tk i β=Ti) (UT:∀ β b,mG tk i (rl β i b)=Pi b) (h1:vJ Ti B=some H1) (h2:∀ b,vJ (Pi b) B=some (H2 b)) (hn:Nat.blt d n=true) (Ar:lk tm d=none) (US:dy.contains i=true)
 (wj:ARun P all [⟨some d,op,ty,pos,af,none⟩] ⟨n,Hw (looks all ⟨some d,op,ty,pos,af,none⟩) tm,H1⟩ (fun aB=>∃ b Dk,aB=⟨n,Dk,H2 b⟩∧lk Dk d=some (V b)))
 (k:AT P all n B tk dy (i+1) rest tm (fun β=>(d,V (β i)) :: acc β) Q):AT P all n B tk dy i (⟨some d,op,ty,pos,af,none⟩ :: rest) tm acc Q:=by
 refine AT.dyn rfl Ar US (fun β X hX=>?_) k
 rw [O9 β] at hX
 obtain rfl:=List.mem_singleton.1 hX
 rw [List.nil_append,TX β,show (fun b=>mG tk i (rl β i b))=Pi from funext (UT β)]
 refine uZ.up ?_
 refine zj rfl (fun d' CS=>by obtain rfl:=Option.some.inj CS;simpa using hn) h1 h2 ?_ (fun e=>by cases e)
 refine fun w S a r=>jG ?_ _ _ _ (wj w S a r)
 rintro e a' w' ⟨he,aB,S',⟨b,Dk,q1,q2⟩,hh⟩
 exact ⟨he,aB,S',⟨b,Dk,q1,fun d' CS=>by obtain rfl:=Option.some.inj CS;exact q2⟩,hh⟩
theorem AT.UW {Ti H1 Pi H2:Heap} (O9:∀ β,yw tk i β=[[]]) (TX:∀ β,xm tk i β=Ti) (UT:∀ β,mG tk i β=Pi) (h1:vJ Ti B=some H1) (h2:vJ Pi B=some H2)
 (wj:ARun P all [⟨none,op,ty,pos,af,none⟩] ⟨n,Hw (looks all ⟨none,op,ty,pos,af,none⟩) tm,H1⟩ (fun aB=>∃ Dk,aB=⟨n,Dk,H2⟩))
 (k:AT P all n B tk dy (i+1) rest tm acc Q):AT P all n B tk dy i (⟨none,op,ty,pos,af,none⟩ :: rest) tm acc Q:=by
 refine AT.sto rfl (fun β X hX=>?_) k
 rw [O9 β] at hX
 obtain rfl:=List.mem_singleton.1 hX
 rw [List.nil_append,TX β,show (fun b=>mG tk i (rl β i b))=fun _=>Pi from funext fun b=>UT _]
 refine uZ.up ?_
 refine zj rfl (fun d' CS=>by cases CS) h1 (fun _=>h2) ?_ (fun _ b=>rfl)
 refine fun w S a r=>jG ?_ _ _ _ (wj w S a r)
 rintro e a' w' ⟨he,aB,S',⟨Dk,q1⟩,hh⟩
 exact ⟨he,aB,S',⟨⟨none,0⟩,Dk,q1,fun d' CS=>by cases CS⟩,hh⟩
theorem Nx (a b:List (Nat×AV)):lk (a++b)=KL (lk a) (lk b):=by
 funext s
 induction a with
 | nil=>rfl
 | cons x a ih=>
   obtain ⟨k,v⟩:=x
   simp only [List.cons_append,lk,KL] at ih ⊢
   split
   ·rfl
   ·exact ih
end rules
end Go.Eng
set_option linter.unusedVariables false
set_option linter.unusedSectionVars false
namespace Go.Eng
open Go
variable [bc]
theorem TW.KW {P:Program} {all:Array Oper} {n:Nat} {B:Heap} {tk:List Tok} {dy:List Nat} {i:Nat} {l:List Oper} {e e':Env} {c:(Nat→Bk)→Env} {D:List (Option AV×(Bk→AV))} (h:TW P all n B tk dy i l e c D e'):
 ∃ (en:Nat→Env) (cn:Nat→(Nat→Bk)→Env),en i=e∧cn i=c∧en (i+l.length)=e'∧D.length=l.length∧∀ j o x V,l[j]? =some o→D[j]? =some (x,V)→
   (∀ β,∀ X∈yw tk (i+j) β,uZ P all n (X++B) o (KL (en (i+j)) (cn (i+j) β)) (xm tk (i+j) β) V (fun b=>mG tk (i+j) (rl β (i+j) b)))∧en (i+j+1)=oB (en (i+j)) o.dst x∧(∀ av,x=some av→∀ b,V b=av)∧(x=none→dy.contains (i+j)=true)∧cn (i+j+1)=Nw x (cn (i+j)) o.dst V (i+j):=by
 induction h with
 | nil i e c=>exact ⟨fun _=>e,fun _=>c,rfl,rfl,rfl,rfl,fun j o x V h=>by simp at h⟩
 | @cons i o l e e' c D x V h hv hx k ih=>
   obtain ⟨en,cn,h0,UM,h1,h2,h3⟩:=ih
   refine ⟨fun k=>if k=i then e else en k,fun k=>if k=i then c else cn k,by simp,by simp,?_,by simp [h2],fun j o' x' V' ho hD=>?_⟩
   ·show (if i+(o :: l).length=i then e else en (i+(o :: l).length))=e'
    rw [if_neg (by simp),← h1]
    congr 1
    simp;omega
   ·match j with
    | 0=>
      simp at ho hD
      obtain ⟨rfl,rfl⟩:=hD
      subst ho
      simp only [Nat.add_zero,if_true]
      refine ⟨h,?_,hv,hx,?_⟩
      ·rw [if_neg (by omega),h0]
      ·rw [if_neg (by omega),UM]
    | j+1=>
      have:=h3 j o' x' V' (by simpa using ho) (by simpa using hD)
      rw [show i+1+j=i+(j+1) by omega] at this
      simp only
      rw [if_neg (show ¬ i+(j+1)=i by omega),if_neg (show ¬ i+(j+1)+1=i by omega),if_neg (show ¬ i+(j+1)=i by omega),if_neg (show ¬ i+(j+1)+1=i by omega)]
      exact this
def TY (l:List Oper) (dy:List Nat):Bool:=dy.all fun i=>(List.range l.length).all fun j=>Nat.beq i j||(match l[i]?,l[j]? with
 | some oi,some oj=>(match oi.dst,oj.dst with | some d,some d'=>!Nat.beq d d' | _,_=>true)
 | _,_=>true)
theorem K6 {l:List Oper} {dy:List Nat} (h:TY l dy=true) {i j:Nat} {oi oj:Oper} {d:Nat} (hi:dy.contains i=true) (Hu:i≠j) (h1:l[i]? =some oi) (h2:l[j]? =some oj) (hd:oi.dst=some d):oj.dst≠some d:=by
 intro CS
 have hm:i∈dy:=by simpa using hi
 have hj:j < l.length:=(List.getElem?_eq_some_iff.1 h2).1
 have:=List.all_eq_true.1 (List.all_eq_true.1 h i hm) j (List.mem_range.2 hj)
 rw [h1,h2] at this
 simp only [hd,CS] at this
 have hb:Nat.beq i j=false:=sY Hu
 rw [hb] at this
 simp at this
def Pv (tk:List Tok):Heap:=(tk.filter (fun t=>t.prod.isNone)).map (fun t=>t.at (fun _=>⟨none,0⟩))
theorem Pw:∀ (a b:List (Nat×AV)) (s:Nat) (av:AV),lk (a++b) s=some av→lk a s=some av∨lk b s=some av
 | [],b,s,av,h=>.inr h
 | (k,v) :: a,b,s,av,h=>by
   simp only [List.cons_append,lk] at h ⊢
   split at h
   ·exact .inl h
   ·exact Pw a b s av h
theorem Bh (β:Nat→Bk):∀ (l:List Oper) (D:List (Option AV×(Bk→AV))) (i:Nat) (a:List (Nat×AV)) (s:Nat) (av:AV),lk (Bg β i l D a) s=some av→lk a s=some av∨∃ (j:Nat) (o:Oper) (V:Bk→AV),l[j]? =some o∧D[j]? =some (none,V)∧o.dst=some s∧av=V (β (i+j))
 | [],D,i,a,s,av,h=>by
   have:Bg β i [] D a=a:=by cases D<;>rfl
   rw [this] at h;exact .inl h
 | o :: l,[],i,a,s,av,h=>.inl h
 | o :: l,(some x,V) :: D,i,a,s,av,h=>by
   simp only [Bg] at h
   rcases Bh β l D (i+1) a s av h with h | ⟨j,o',V',h1,h2,h3,h4⟩
   ·exact .inl h
   ·exact .inr ⟨j+1,o',V',by simpa using h1,by simpa using h2,h3,by rw [h4];congr 2;omega⟩
 | o :: l,(none,V) :: D,i,a,s,av,h=>by
   simp only [Bg] at h
   cases hd:o.dst with
   | none=>
     rw [hd] at h
     rcases Bh β l D (i+1) a s av h with h | ⟨j,o',V',h1,h2,h3,h4⟩
     ·exact .inl h
     ·exact .inr ⟨j+1,o',V',by simpa using h1,by simpa using h2,h3,by rw [h4];congr 2;omega⟩
   | some d=>
     rw [hd] at h
     rcases Bh β l D (i+1) _ s av h with h5 | ⟨j,o',V',h1,h2,h3,h4⟩
     ·simp only [lk] at h5
      split at h5
      ·rename_i hb
       obtain rfl:d=s:=by simpa using hb
       exact .inr ⟨0,o,V,rfl,rfl,hd,by simpa using (Option.some.inj h5).symm⟩
      ·exact .inl h5
     ·exact .inr ⟨j+1,o',V',by simpa using h1,by simpa using h2,h3,by rw [h4];congr 2;omega⟩
theorem ATodo.kZ {P:Program} {R:St→Prop} {k:List It} {id n:Nat} {tm:List (Nat×AV)} {hp:Heap} {l hd tl:List Oper} (m:Nat) (hm:P.follows .mixedOrders=true) (hs:I6 m l=some (hd,tl)) {A:List Nat} (hA:Nk l.toArray=A) (hB0:I2 l.toArray m A=true)
 (tk:List Tok) (dy:List Nat) (hT0:(XJ A m tk&&TT A m tk)=true) (hU0:TY hd dy=true) {B H0:Heap} (IU:Pv tk=H0) (UX:KK hp H0 B) {HH:(Nat→Bk)→Heap} (aa7:∀ β,vJ (Pm tk β) B=some (HH β))
 (h:AT P l.toArray n B tk dy 0 hd tm (fun _=>[]) (fun β sZ=>ARun P l.toArray tl ⟨n,sZ,HH β⟩ (ATodo P R k))):ATodo P R (.code (.region id l.toArray true) :: k) ⟨n,tm,hp⟩:=by
 have hB:xT l.toArray m:=⟨A,hA,hB0⟩
 have hT:Em l.toArray m tk:=Nt hA (Bool.and_eq_true_iff.1 hT0).1
 intro w S a r
 obtain ⟨hl,RX⟩:=zh hs
 obtain ⟨D,sZ,hAf,wj⟩:=h
 obtain ⟨en,cn,e0,ec0,e1,e2,e3⟩:=hAf.KW
 rw [Nat.zero_add,RX] at e1
 have jX:m≤l.toArray.size:=by simp [hl,RX]
 let mZ:Nat→Option AV:=fun j=>(D[j]?).bind (·.1)
 let V:Nat→Bk→AV:=fun j=>match D[j]? with | some x=>x.2 | none=>fun _=>.nil
 have Px:∀ j o,j < m→l.toArray[j]? =some o→hd[j]? =some o:=by
  intro j o hj ho
  have:l[j]? =some o:=by simpa using ho
  rw [hl,List.getElem?_append_left (by omega)] at this
  exact this
 have hD:∀ j,j < m→∃ x W,D[j]? =some (x,W)∧mZ j=x∧V j=W:=by
  intro j hj
  have:j < D.length:=by rw [e2,RX];exact hj
  refine ⟨D[j].1,D[j].2,by simp [this],?_,?_⟩
  ·simp [mZ,this]
  ·simp [V,this]
 refine wp_region_any hm ?_
 have Eh:Ext w {w with drawn:=w.drawn+1}:=Ext.Ma w _ (Nat.le_succ _)
 let Zk:Nat→Bk:=fun _=>⟨none,0⟩
 have hf:∀ k,(Array.replicate l.toArray.size false).getD k false=false:=by
  intro k
  rcases Nat.lt_or_ge k l.toArray.size with h | h
  ·simp at h;simp [h]
  ·simp at h;simp [Nat.not_lt.2 h]
 have UM:∀ k,yc l.toArray mZ (lk tm) (Array.replicate l.toArray.size false) k=lk tm:=by
  intro k
  induction k with
  | zero=>rfl
  | succ k ih=>simp only [yc,ih];rw [if_neg (by rw [hf k];simp)]
 have TN:uz tk (Array.replicate l.toArray.size false) Zk=H0:=by
  rw [← IU]
  unfold uz Pv
  have e:tk.filter (AA (Array.replicate l.toArray.size false))=tk.filter (fun t=>t.prod.isNone):=by
   apply List.filter_congr
   intro t ht
   unfold AA
   cases t.prod with
   | none=>
     cases t.cons with
     | none=>rfl
     | some c=>simp only [hf c,Bool.not_false,Bool.and_self,Option.isNone]
   | some p=>simp only [hf p,Bool.false_and,Option.isNone]
  rw [e]
 have pE:=UX.perm
 have XO:dw {w with drawn:=w.drawn+1} S (uz tk (Array.replicate l.toArray.size false) Zk++B):=by
  rw [TN];exact (r.hp.ext Eh).perm pE
 have ev0:lB w S hp {w with drawn:=w.drawn+1} S (uz tk (Array.replicate l.toArray.size false) Zk++B):=by
  rw [TN]
  have:=lB.ext (h:=hp) r.hp.slt Eh
  exact {this with new:=fun k hk=>this.new k (by
   obtain ⟨x,hx,hb⟩:=hk
   exact ⟨x,pE.mem_iff.2 hx,hb⟩)}
 refine Nv (P:=P) (all:=l.toArray) (n:=n) (m:=m) (mZ:=mZ) (en:=en) (cn:=cn) (e:=lk tm) (V:=V) (B:=B) (tk:=tk) hB hT (K2 hA (Bool.and_eq_true_iff.1 hT0).2) jX e0 (fun β s=>by rw [ec0];rfl) ?_ ?_ ?_ (w0:=w) (S0:=S) (Zi:=hp) ?_ l.toArray.size (Array.replicate l.toArray.size false) a _ S Zk
  ⟨by simp,(fun k hk=>by rw [hf k] at hk;cases hk),(fun k i o hk=>by rw [hf k] at hk;cases hk)⟩ (by simp [List.count_replicate]) r.size r.defers XO ev0 (by rw [UM];exact (r.ext Eh).tm) (fun j o d hj=>by rw [hf j] at hj;cases hj)
 ·intro i o hi ho β
  obtain ⟨x,W,d1,d2,d3⟩:=hD i hi
  have:=e3 i o x W (Px i o hi ho) d1
  rw [Nat.zero_add] at this
  rw [d2,d3,this.2.2.2.2];rfl
 ·intro i o hi ho
  obtain ⟨x,W,d1,d2,d3⟩:=hD i hi
  have:=e3 i o x W (Px i o hi ho) d1
  rw [Nat.zero_add] at this
  rw [d2,d3]
  exact ⟨this.1,this.2.1,this.2.2.1⟩
 ·intro i j oi oj d hi hj Hu CQ Rm so Hv
  obtain ⟨x,W,d1,d2,d3⟩:=hD i hi
  have:=e3 i oi x W (Px i oi hi CQ) d1
  rw [Nat.zero_add] at this
  exact K6 hU0 (this.2.2.2.1 (by rw [← d2];exact so)) Hu (Px i oi hi CQ) (Px j oj hj Rm) Hv
 ·intro β a' w' S' h1 h2 h3 h4 h5 h6
  have Wj:l.toArray.toList.drop m=tl:=by
   simp only [hl,← RX]
   exact List.drop_left
  rw [Wj]
  rw [rj (aa7 β)] at h3 h4
  rw [e1] at h5
  refine jG ?_ _ _ _ ((wj β).go (h:=hp) (w:=w) (S:=S) ⟨h1,h2,fun s av R6=>?_,h3⟩ h4)
  ·rintro ex a2 w2 ⟨rfl,IN,S2,q1,q2,q3⟩
   exact ⟨IN,S2,q1,q2,q3⟩
  ·rcases Pw _ _ _ _ R6 with R6 | R6
   ·rcases Bh β hd D 0 [] s av R6 with R6 | ⟨j,o,W,g1,g2,g3,g4⟩
    ·cases R6
    ·have hj:j < m:=by rw [← RX];exact (List.getElem?_eq_some_iff.1 g1).1
     obtain ⟨x,W',d1,d2,d3⟩:=hD j hj
     rw [g2] at d1
     obtain ⟨rfl,rfl⟩:=Prod.mk.inj (Option.some.inj d1)
     have Rm:l.toArray[j]? =some o:=by
      have:l[j]? =some o:=by rw [hl,List.getElem?_append_left (by omega)];exact g1
      simpa using this
     obtain ⟨v,k1,k2⟩:=h6 j o s hj Rm d2 g3
     rw [d3] at k2
     rw [g4,Nat.zero_add]
     exact ⟨v,k1,k2⟩
   ·exact h5 s av R6
end Go.Eng
set_option linter.unusedVariables false
set_option linter.unusedSectionVars false
namespace Go.Eng
open Go
variable [bc]
def Py {α:Type}:List α→List α→Option (List α)
 | [],r=>some r
 | x :: l,r=>match Py l r with
   | some m=>some (x :: m)
   | none=>none
theorem Mp {α:Type}:∀ {l r m:List α},Py l r=some m→l++r=m
 | [],r,m,h=>by simpa [Py] using h
 | x :: l,r,m,h=>by
   simp only [Py] at h
   split at h
   ·rename_i m' hm
    obtain rfl:=Option.some.inj h
    rw [List.cons_append,Mp hm]
   ·cases h
theorem AT.yx {P:Program} {all:Array Oper} {n:Nat} {B:Heap} {tk:List Tok} {dy:List Nat} {i:Nat} {tm:List (Nat×AV)} {acc F:(Nat→Bk)→List (Nat×AV)} {Q:(Nat→Bk)→List (Nat×AV)→Prop} (hF:∀ β,Py (acc β) tm=some (F β)) (h:∀ β,Q β (F β)):AT P all n B tk dy i [] tm acc Q:=
 AT.nil (fun β=>(Mp (hF β)).symm) h
theorem Gw {w:World} {S:Nat→Prop} {hp eV:Heap} {b:Bk} {cs oz:List AV} (r:dw w S hp) (u:qW hp b (.cells cs) b (.cells oz) eV) (hl:oz.length=cs.length) (h1:∀ c∈oz,c.one=true) (vF:∀ (i:Nat) c c' v,cs[i]? =some c→oz[i]? =some c'→At w S c v→At w S c' v):dw w S eV∧lB w S hp w S eV:=by
 obtain ⟨pre,post,e1,e2⟩:=u.split
 subst e1;subst e2
 have hblk:∀ n,Has (pre++(b,Ob.cells oz) :: post) n↔Has (pre++(b,Ob.cells cs) :: post) n:=by
  intro n
  constructor<;>rintro ⟨x,hx,hb⟩<;>rcases bC.1 hx with rfl | hx
  ·exact ⟨(b,.cells cs),bC.2 (.inl rfl),hb⟩
  ·exact ⟨x,bC.2 (.inr hx),hb⟩
  ·exact ⟨(b,.cells oz),bC.2 (.inl rfl),hb⟩
  ·exact ⟨x,bC.2 (.inr hx),hb⟩
 refine ⟨⟨?_,?_,?_,r.slt,r.ib⟩,⟨rfl,rfl,rfl,Nat.le_refl _,fun n hn=>⟨hn,rfl⟩,fun n _ _=>⟨rfl,id⟩,fun n hn=>.inl ((hblk n).1 hn),fun _=>Nat.le_refl _⟩⟩
 ·have:=r.nodup
  simpa [List.flatMap_append,List.flatMap_cons,eb,Ob.more] using this
 ·intro x hx
  rcases bC.1 hx with rfl | hx
  ·obtain ⟨h0,n,vs,E,g1,g2,g3,g4⟩:=r.holds (b,.cells cs) (bC.2 (.inl rfl))
   refine ⟨h1,n,vs,E,g1,g2,by rw [hl];exact g3,fun i c v hc hv=>?_⟩
   have hi:i < cs.length:=by rw [← hl];exact (List.getElem?_eq_some_iff.1 hc).1
   have Ro:cs[i]? =some cs[i]:=by simp [hi]
   exact vF i cs[i] c v Ro hc (g4 i _ v Ro hv)
  ·exact r.holds x (bC.2 (.inr hx))
 ·intro x hx n hn
  rcases bC.1 hx with rfl | hx
  ·have:=r.sep (b,.cells cs) (bC.2 (.inl rfl)) n hn
   exact ⟨fun h=>(this.1 h).elim,fun h=>h.elim⟩
  ·exact r.sep x (bC.2 (.inr hx)) n hn
theorem ImpX.Bi {n j:Nat} {tm:List (Nat×AV)} {hp eV:Heap} {T:St→Prop} {b:Bk} {cs oz:List AV} {av pz:AV} (u:qW hp b (.cells cs) b (.cells oz) eV) (hj:cs[j]? =some av) (c:Co hp av pz) (hc:tH (cs.set j pz)=some oz) (h1:lD oz=true) (k:ImpX ⟨n,tm,eV⟩ T):ImpX ⟨n,tm,hp⟩ T:=by
 refine ImpX.step (Ge:=⟨n,tm,eV⟩) (fun w S a r=>?_) k
 have e:=mY hc
 obtain ⟨g1,g2⟩:=Gw r.hp u (by rw [← e];simp) (dM h1) (fun i c1 c2 v UY Pz vF=>by
  rw [← e] at Pz
  by_cases Hu:j=i
  ·subst Hu
   rw [List.getElem?_set_self (List.getElem?_eq_some_iff.1 hj).1] at Pz
   obtain rfl:=Option.some.inj Pz
   rw [hj] at UY
   obtain rfl:=Option.some.inj UY
   exact c.at r.hp vF
  ·rw [List.getElem?_set_ne Hu,UY] at Pz
   obtain rfl:=Option.some.inj Pz
   exact vF)
 exact ⟨_,S,rfl,⟨r.size,r.defers,r.tm,g1⟩,g2⟩
theorem ImpX.yy {n j:Nat} {tm:List (Nat×AV)} {hp eV:Heap} {T:St→Prop} {b:Bk} {cs oz:List AV} (sz:Nat) (u:qW hp b (.cells cs) b (.cells oz) eV) (hj:cs[j]? =some .nil) (hc:tH (cs.set j (.list sz []))=some oz) (h1:lD oz=true) (k:ImpX ⟨n,tm,eV⟩ T):ImpX ⟨n,tm,hp⟩ T:=
 ImpX.Bi u hj (.nil sz) hc h1 k
theorem ImpX.Eo {n j:Nat} {tm:List (Nat×AV)} {hp:Heap} {eV:Bk→Heap} {T:St→Prop} {b:Bk} {cs:List AV} {oz:Bk→List AV} (sz:Nat) (u:∀ q,qW hp b (.cells cs) b (.cells (oz q)) (eV q)) (hj:cs[j]? =some .nil) (hc:∀ q,tH (cs.set j (.sl sz q 0 0))=some (oz q)) (h1:∀ q,lD (oz q)=true)
 (k:∀ q,ImpX ⟨n,tm,(q,.arr sz []) :: eV q⟩ T):ImpX ⟨n,tm,hp⟩ T:=by
 refine ImpX.step (Ge:=⟨n,tm,(⟨none,0⟩,.arr sz []) :: eV ⟨none,0⟩⟩) (fun w S a r=>?_) (k ⟨none,0⟩)
 have e:=mY (hc ⟨none,0⟩)
 obtain ⟨g1,g2⟩:=Gw r.hp (u ⟨none,0⟩) (by rw [← e];simp) (dM (h1 _)) (fun i c1 c2 v UY Pz vF=>by
  rw [← e] at Pz
  by_cases Hu:j=i
  ·subst Hu
   rw [List.getElem?_set_self (List.getElem?_eq_some_iff.1 hj).1] at Pz
   obtain rfl:=Option.some.inj Pz
   rw [hj] at UY
   obtain rfl:=Option.some.inj UY
   cases vF
   exact .Cd sz _ rfl
  ·rw [List.getElem?_set_ne Hu,UY] at Pz
   obtain rfl:=Option.some.inj Pz
   exact vF)
 obtain ⟨q1,q2,q3⟩:=qX (b:=⟨none,0⟩) (o:=.arr sz []) g1 (Ext.refl w) id ⟨by simp,by simp,.inl ⟨rfl,rfl⟩⟩ (.inl rfl)
 exact ⟨_,S,rfl,⟨r.size,r.defers,r.tm,q1⟩,g2.trans q2⟩
section rules
variable {P:Program} {all:Array Oper} {rest:List Oper} {n:Nat} {tm:List (Nat×AV)} {hp:Heap} {Q:St→Prop} {d:Nat} {ty:TypeId} {pos:String} {af:Array Edge}
theorem Mq {t e yt:TypeId} {x y:Operand} {sz:Nat} {xs:List AV} [ay P t (.slice e)] (hx:dh tm x=some (.list sz xs)) (hy:dh tm y=some .nil) (h0:Nat.blt 0 sz=true) (hn:Nat.blt d n=true)
 (kk:∀ c:Bool,(c=true→xs=[])→ARun P all rest ⟨n,(d,.bool c) :: tm,hp⟩ Q):ARun P all (⟨some d,.binOp .eql t x y yt,ty,pos,af,none⟩ :: rest) ⟨n,tm,hp⟩ Q:=by
 refine ARun.OA rfl fun w S a r=>?_
 obtain ⟨oa,cap,vs,e1,e2,e3,e4,e5,e6⟩:=(bg (σ:=⟨n,tm,hp⟩) r hx).A4
 have e7:=(bg (σ:=⟨n,tm,hp⟩) r hy).qV
 refine ⟨.bool oa.isNone,w,S,⟨n,(d,.bool oa.isNone) :: tm,hp⟩,?_,r.put hn (.bool _),lB.refl _ _ _,kk _ (fun hc=>?_)⟩
 ·have h2:(Op.equal t (.slice oa xs.length cap) (.slice none 0 0)).run P w=.ok oa.isNone w:=by
   show (Op.equalIn (9999+1) t _ _).run P w=_
   rw [Op.equalIn]
   cases oa with
   | none=>simp [run_underlying (ay.h (P:=P) (t:=t))]
   | some ad=>simp [run_underlying (ay.h (P:=P) (t:=t))]
  have h3:(binOp .eql t (.slice oa xs.length cap) (.slice none 0 0)).run P w=.ok (.bool oa.isNone) w:=by
   rw [show binOp .eql t (.slice oa xs.length cap) (.slice none 0 0)=(do pure (.bool (← Op.equal t (.slice oa xs.length cap) (.slice none 0 0)))) from rfl]
   simp [h2]
  simp [execOp,e1,e7,eqGuard_at_slice,h3]
 ·have hoa:oa=none:=by simpa using hc
  have XP:vs=[]:=by
   cases vs with
   | nil=>rfl
   | cons v vs=>
     obtain ⟨ad,h1,_⟩:=e5 0 v rfl
     rw [hoa] at h1;cases h1
  rw [XP,cZ e2] at e3
  have h0':0 < sz:=by simpa using h0
  have:xs.length=0:=by
   rcases Nat.eq_zero_or_pos xs.length with h | h
   ·exact h
   ·have:=Nat.mul_pos h h0';simp at e3;omega
  exact List.length_eq_zero_iff.1 this
end rules
theorem Bj {α:Type} {p r:List α} (h:app [] p=some r) (hp:p=[]):r=[]:=by
 subst hp
 obtain ⟨_,e⟩:=Ej h
 simpa using e
end Go.Eng
