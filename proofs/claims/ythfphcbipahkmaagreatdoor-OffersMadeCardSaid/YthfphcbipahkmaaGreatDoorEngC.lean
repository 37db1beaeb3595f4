/- The engine: abstract values, the symbolic heap, one rule for each operation. No program in sight. -/
import Derived.Test.YthfphcbipahkmaaGreatDoorEngB
import Derived.Laws.StructEq
import Derived.Below
open Array renaming replicate→bm
open BitVec renaming ofInt→dg
open Bool renaming and_eq_true→ac,true_and→b9,not_false→cb,and_eq_true_iff→ce,false_eq_true→cz,eq_iff_iff→da,not_eq_true'→dR,and_true→d4
open List renaming all_eq_true→ag,getElem?_eq_some_iff→aI,mem_singleton→bi,cons_append→bp,getElem?_take→bs,filter_congr→bv,getElem?_drop→bx,append_assoc→bY,map_append→b4,mem_filter→b5,Perm.append_left→b6,getElem?_map→b7,getElem?_set_self→b8,filter_eq_nil_iff→cc,nil_append→cf,ext_getElem?→cl,getElem?_eq_none→cm,sublist_append_left→cp,getElem?_set_ne→cv,perm_middle→cP,Perm.map→cQ,getElem?_append_left→cS,count_replicate→cW,map_eq_nil_iff→cX,mem_of_getElem?→c6,drop_drop→c8,map_cons→dl,mem_map→dn,mem_range→dQ,Perm.cons→d0,replicate→d5,mem_cons→d6
open Nat renaming beq→ai,blt→al,le_refl→ap,ble→aw,eq_of_beq_eq_true→a8,min_eq_right→be,zero_add→bo,lt_or_ge→bt,le_of_ble_eq_true→bw,min_eq_left→bz,mul_le_mul_right→ci,add_zero→c7,sub_add_cancel→dk,lt_trichotomy→du,add_assoc→d7
open Option renaming some.inj→aa,bind_some→cy,isNone→d8
set_option linter.unusedVariables false
set_option linter.unusedSectionVars false
namespace Go.Eng
open Go
variable [bN]
abbrev bn:=List UInt8
def K7 {α:Type} (sz:Nat) (g:α→AV) (l:List α):AV:=.list sz (l.map g)
section rules
variable {P:Program} {all:Array Oper} {rest:List Oper} {n:Nat} {tm:List (Nat×AV)} {hp:Heap} {Q:St→Prop} {d:Nat} {ty:TypeId} {pos:String} {af:Array Edge}
theorem NJ {α:Type} {g:α→AV} {Ys Zs:List α} {t e:TypeId} {i:TypeInfo} {z:Value} {x y:Operand} {src:AV} {sz:Nat} [aB P t (.slice e)] [aX P e i] (hx:de tm x=some .nil) (hy:de tm y=some src) (hz:i.zero=some z)
 (D5:ai z.cells.size i.size=true) (iV:ai i.size sz=true) (h0:al 0 sz=true) (hn:al d n=true) (WZ:aw i.bytes 65536=true) (hs:Src hp sz src (Ys.map g)) (hv:app [] Ys=some Zs)
 (kk:∀ b':Bk,ae P all rest ⟨n,(d,.sl sz b' 0 Zs.length) :: tm,(b',.arr sz (Zs.map g)) :: hp⟩ Q):ae P all (⟨some d,.call {callee:=.builtin .append,args:=#[x,y],argTypes:=#[t,t]},ty,pos,af,none⟩ :: rest) ⟨n,tm,hp⟩ Q:=by
 obtain ⟨hb,rfl⟩:=Ed hv
 refine ae.IJ rfl fun w S a r=>?_
 obtain rfl:i.size=sz:=a8 iV
 obtain ⟨a1,a2,a3⟩:=pP (b:=⟨none,0⟩) (o:=.arr i.size []) r.hp (Ext.refl w) id ⟨by simp,by simp,.inl ⟨rfl,rfl⟩⟩ (.inl rfl)
 have Pq:=(bj (σ:=⟨n,tm,hp⟩) r hx).DH
 have hAt:At w S (.sl i.size ⟨none,0⟩ 0 ([]:List AV).length) (a.eval x):=by rw [Pq];exact .Ba _ _ rfl
 have h1:=bw WZ
 have hlen:([]:List AV).length+(Zs.map g).length≤1000000000:=by simpa using hb
 have hm:=Nat.mul_le_mul hlen h1
 obtain ⟨v',w',b',g1,g2,g3,g4,g5⟩:=D4 (P:=P) (ty:=ty) a1 (aB.h (P:=P) (t:=t)) (aX.h (P:=P) (t:=e)) hz (a8 D5) (by simpa using h0) (mD.here (b:=⟨none,0⟩) (o:=.arr i.size []) (h:=hp)) hAt (hs.at r.hp (bj (σ:=⟨n,tm,hp⟩) r hy)) (by omega) (by omega)
 obtain ⟨k1,k2,k3⟩:=tA a1 (na.here (b':=b') (o':=.arr i.size ([]++Zs.map g))) g3 id id g4 g5
 refine ⟨v',w',S,⟨n,(d,.sl i.size b' 0 (Zs.length)) :: tm,(b',.arr i.size (Zs.map g)) :: hp⟩,?_,?_,?_,kk b'⟩
 ·simp [execOp,resolve,invoke,builtin,g1]
 ·have:=(r.heap k3 k1).put hn g2
  simpa using this
 ·have:=a2.trans k2
  simpa using this
theorem ee {x:Operand} {t e:TypeId} {sz len:Nat} {b:Bk} [aB P t (.slice e)] (hx:de tm x=some (.sl sz b 0 len)):QV P ⟨some d,.call {callee:=.builtin .len,args:=#[x],argTypes:=#[t]},ty,pos,af,none⟩ ⟨n,tm,hp⟩ (.int .i64 (len:Nat)):=IL hx
theorem bu {α:Type} {Xs:List α} {el:α} {t e:TypeId} {i:TypeInfo} {x y:Operand} {k:IntKind} {j:Int} {sz:Nat} {b:Bk} [aB P t (.slice e)] [aX P e i] (hx:de tm x=some (.sl sz b 0 Xs.length)) (iV:ai i.size sz=true) (hy:de tm y=some (.int k j))
 (hv:idx Xs j=some el):QV P ⟨some d,.indexAddr t x y,ty,pos,af,none⟩ ⟨n,tm,hp⟩ (.sQ sz b j.toNat 0):=by
 obtain ⟨h0,h1,_⟩:=jC hv
 have h:=D0 (P:=P) (d:=d) (ty:=ty) (pos:=pos) (af:=af) (n:=n) (tm:=tm) (hp:=hp) (t:=t) (e:=e) hx iV hy ⟨h0,h1⟩
 rw [bo] at h
 exact h
theorem pR {α:Type} {g:α→AV} {Xs:List α} {el:α} {j:Int} (hv:idx Xs j=some el):(Xs.map g)[j.toNat]? =some (g el):=by
 rw [b7,(jC hv).2.2];rfl
theorem dJ {α:Type} {g:α→AV} {Xs:List α} {el:α} {j:Int} {t:TypeId} {D:TypeDesc} {x:Operand} {b:Bk} {sz o:Nat} {av:AV} [aB P t D] (hD:TypeDesc.jA D=false) (hx:de tm x=some (.sQ sz b j.toNat o)) (f:mD hp b (.arr sz (Xs.map g))∨mD hp b (.Bb sz (Xs.map g)))
 (hv:idx Xs j=some el) (ho:(g el).cells[o]? =some av):QV P ⟨some d,.load t x,ty,pos,af,none⟩ ⟨n,tm,hp⟩ av:=
 IS hD hx f (pR hv) ho
theorem bP {α:Type} {g:α→AV} {Xs:List α} {el:α} {j:Int} {t:TypeId} {D:TypeDesc} {i:TypeInfo} {x:Operand} {b:Bk} {sz:Nat} {cs:List AV} [aB P t D] [aX P t i] (hD:TypeDesc.jA D=true) (hx:de tm x=some (.sQ sz b j.toNat 0)) (f:mD hp b (.arr sz (Xs.map g))∨mD hp b (.Bb sz (Xs.map g))) (iV:ai i.size sz=true)
 (hv:idx Xs j=some el) (hc:g el=.agg cs):QV P ⟨some d,.load t x,ty,pos,af,none⟩ ⟨n,tm,hp⟩ (.agg cs):=
 Dl hD hx f iV (by rw [pR (g:=g) hv,hc])
theorem Hw {α:Type} {g:α→AV} {Xs Zs:List α} {t e:TypeId} {i:TypeInfo} {x:Operand} {lo hi:Option Operand} {l h:Option Int} {sz:Nat} {L H:Int} [aB P t (.slice e)] [aX P e i] (hx:de tm x=some (.list sz (Xs.map g))) (iV:ai i.size sz=true) (hl:KM tm lo l) (hh:KM tm hi h)
 (eL:iH l=L) (eH:jB Xs.length h=H) (hv:A5 Xs L H=some Zs):QV P ⟨some d,.slice t x lo hi none,ty,pos,af,none⟩ ⟨n,tm,hp⟩ (.list sz (Zs.map g)):=by
 obtain ⟨⟨h0,h1,h2⟩,rfl⟩:=vb hv
 subst eL;subst eH
 have:=Ho (P:=P) (d:=d) (ty:=ty) (pos:=pos) (af:=af) (n:=n) (tm:=tm) (hp:=hp) (t:=t) (e:=e) (xs:=Xs.map g) hx iV hl hh h0 (by simpa using h1) (by simpa using h2)
 simpa [List.map_take,List.map_drop] using this
theorem I6 {t:TypeId} {x:Operand} {lo hi:Option Operand} {l h:Option Int} {s zs:List UInt8} {L H:Int} [aB P t .string] (hx:de tm x=some (.str s)) (hl:KM tm lo l) (hh:KM tm hi h) (eL:iH l=L) (eH:jB s.length h=H) (hv:A5 s L H=some zs):
 QV P ⟨some d,.slice t x lo hi none,ty,pos,af,none⟩ ⟨n,tm,hp⟩ (.str zs):=by
 obtain ⟨⟨h0,h1,h2⟩,rfl⟩:=vb hv
 subst eL;subst eH
 exact IX hx hl hh h0 h1 h2
def uo:Heap→Heap→Option Heap
 | [],r=>some r
 | x :: l,r=>match uo l r with
   | some m=>some (x :: m)
   | none=>none
theorem qQ:∀ {l r m:Heap},uo l r=some m→l++r=m
 | [],r,m,h=>by simpa [uo] using h
 | x :: l,r,m,h=>by
   simp only [uo] at h
   split at h
   ·rename_i m' hm
    obtain rfl:=aa h
    rw [bp,qQ hm]
   ·cases h
def T0 (H:Heap) (V:AV):AV→Heap→Prop:=fun v h=>h=H∧v=V
def T1 {CY:Type} (H:CY→Heap) (V:CY→AV):AV→Heap→Prop:=fun v h=>∃ b,h=H b∧v=V b
theorem br {f:FuncId} {args:List Operand} {ts:Array TypeId} {l l':List AV} {h0 hr H H':Heap} {V:AV} [bJ P f] (hl:CO tm args=some l) (c:aP P f l' h0 (T0 H V)) (co:B7 hp l l') (hs:IC hp h0 hr) (ha:uo H hr=some H') (hn:al d n=true)
 (kk:ae P all rest ⟨n,(d,V) :: tm,H'⟩ Q):ae P all (⟨some d,.call {callee:=.value (.func f),args:=args.toArray,argTypes:=ts},ty,pos,af,none⟩ :: rest) ⟨n,tm,hp⟩ Q:=
 Ee hl c co hs hn (fun r h' ⟨e1,e2⟩=>by subst e1;subst e2;rw [qQ ha];exact kk)
theorem jn {CY:Type} {f:FuncId} {args:List Operand} {ts:Array TypeId} {l l':List AV} {h0 hr:Heap} {H H':CY→Heap} {V:CY→AV} [bJ P f] (hl:CO tm args=some l) (c:aP P f l' h0 (T1 H V)) (co:B7 hp l l') (hs:IC hp h0 hr) (ha:∀ b,uo (H b) hr=some (H' b)) (hn:al d n=true)
 (kk:∀ b,ae P all rest ⟨n,(d,V b) :: tm,H' b⟩ Q):ae P all (⟨some d,.call {callee:=.value (.func f),args:=args.toArray,argTypes:=ts},ty,pos,af,none⟩ :: rest) ⟨n,tm,hp⟩ Q:=
 Ee hl c co hs hn (fun r h' ⟨b,e1,e2⟩=>by subst e1;subst e2;rw [qQ (ha b)];exact kk b)
end rules
theorem Co.Ef {hp:Heap} {α:Type} {g:α→AV} {Xs:List α} {sz:Nat} {b:Bk} (f:mD hp b (.Bb sz (Xs.map g))):Co hp (.sl sz b 0 Xs.length) (.list sz (Xs.map g)):=.Bb sz b _ _ f (by simp)
theorem lO.jX {hp:Heap} {α:Type} {g:α→AV} {Xs:List α} {sz:Nat} {b:Bk} (f:mD hp b (.arr sz (Xs.map g))):lO hp (.sl sz b 0 Xs.length) (.list sz (Xs.map g)):=.arr sz b _ _ f (by simp)
section rules
variable {P:Program} {all:Array Oper} {rest:List Oper} {n:Nat} {tm:List (Nat×AV)} {hp:Heap} {Q:St→Prop} {d:Nat} {ty:TypeId} {pos:String} {af:Array Edge}
theorem fW {x:Operand} {s:TypeId} {j off sz:Nat} {b:Bk} {q o o':Nat} [ou P s j off] (hx:de tm x=some (.sQ sz b q o)) (ho:o+off=o'):QV P ⟨some d,.fieldAddr s x j,ty,pos,af,none⟩ ⟨n,tm,hp⟩ (.sQ sz b q o'):=by
 subst ho
 exact Hi hx
theorem FO {t:TypeId} {i:TypeInfo} {x y:Operand} {b:Bk} {sz q o:Nat} {xs:List AV} {av el A6:AV} {cL:Heap} [aX P t i] (hx:de tm x=some (.sQ sz b q o)) (hy:de tm y=some av) (h1:kr av.cells=true) (iV:ai av.cells.length i.size=true)
 (u:na hp b (.arr sz xs) b (.arr sz (xs.set q A6)) cL) (hq:xs[q]? =some el) (xx:A6.cells=qh el.cells o av.cells) (ho:aw (o+av.cells.length) el.cells.length=true) (kk:ae P all rest ⟨n,tm,cL⟩ Q):ae P all (⟨none,.store t x y,ty,pos,af,none⟩ :: rest) ⟨n,tm,hp⟩ Q:=by
 refine ae.act rfl rfl (aK:=⟨n,tm,cL⟩) (fun w S a r=>?_) kk
 obtain ⟨m,e1,e2⟩:=(bj (σ:=⟨n,tm,hp⟩) r hx).wM
 obtain ⟨g0,g1,⟨g2,_⟩ | ⟨m',vs,E,g2,g3,g4,g5⟩⟩:=rn r.hp (.inl u.lS)
 ·rw [g2] at e1;cases e1
 obtain rfl:m'=m:=by rw [g2] at e1;exact aa e1
 have hv:=bj (σ:=⟨n,tm,hp⟩) r hy
 obtain ⟨hl,sB⟩:=wP hv (ey h1)
 have DX:=ey h1
 have iV:=a8 iV
 have ho:=bw ho
 clear h1 hv hy
 generalize av.cells=nc at *
 generalize SE:el.cells=cs at *
 have hle:o+nc.length≤cs.length:=ho
 have x7:=g0 el (c6 hq)
 have Ag:cs.length=sz:=by rw [← SE];exact x7.1
 have hqx:q < xs.length:=(aI.1 hq).1
 have hmul:(q+1) * sz≤xs.length * sz:=ci _ (by omega)
 have CZ:xs.length * sz≤b.cap * sz:=ci _ g1
 rw [Nat.add_mul,Nat.one_mul] at hmul
 have vE:=yL hl sB DX
 have FJ:=run_storeCells_at (P:=P) m' (q * sz+o) E (a.eval y).cells.toList 0 vs w g3 (by simp;omega) vE
 simp only [c7] at FJ
 have Pg:(a.eval y).cells.size=i.size:=by rw [← hl];exact iV
 have Hl:=cN g0
 have UB:El sz A6:=by
  refine ⟨by rw [xx];simp [qh];omega,fun c hc=>?_⟩
  rw [xx] at hc
  simp only [qh,List.mem_append] at hc
  rcases hc with (hc | hc) | hc
  ·exact x7.2 c (by rw [SE];exact List.mem_of_mem_take hc)
  ·exact DX c hc
  ·exact x7.2 c (by rw [SE];exact List.mem_of_mem_drop hc)
 have Bg:flat (xs.set q A6)=(flat xs).take (q * sz+o)++nc++(flat xs).drop (q * sz+o+nc.length):=by
  rw [IY g0 UB hq]
  rw [xx];simp only [qh]
  have Hq:cs=((flat xs).drop (q * sz)).take sz:=by
   apply cl
   intro j
   by_cases hj:j < sz
   ·have:=qm g0 hq j hj
    rw [bs,if_pos hj,bx,this,SE]
   ·rw [cm (by omega),cm (by simp;omega)]
  have e1:cs.take o=((flat xs).drop (q * sz)).take o:=by rw [Hq,List.take_take,bz (by omega)]
  have e2:cs.drop (o+nc.length)=(((flat xs).drop (q * sz+o+nc.length)).take (sz - (o+nc.length))):=by
   rw [Hq,List.drop_take,c8]
   rw [show q * sz+(o+nc.length)=q * sz+o+nc.length from by omega]
  rw [e1,e2]
  have e3:(flat xs).take (q * sz+o)=(flat xs).take (q * sz)++((flat xs).drop (q * sz)).take o:=by rw [List.take_add]
  rw [e3]
  have e4:(flat xs).drop (q * sz+o+nc.length)=((flat xs).drop (q * sz+o+nc.length)).take (sz - (o+nc.length))++(flat xs).drop (q * sz+sz):=by
   conv=>lhs;rw [← List.take_append_drop (sz - (o+nc.length)) ((flat xs).drop (q * sz+o+nc.length))]
   rw [c8,show q * sz+o+nc.length+(sz - (o+nc.length))=q * sz+sz from by omega]
  conv=>rhs;rw [e4]
  simp only [bY]
 have I7:=fun (w':World) (ha:o8 w' S (flat xs) vs) (hb:o8 w' S nc (a.eval y).cells)=>Hp (q * sz+o) (by rw [Hl,g4];exact CZ) ha hl hb (by omega)
 have I8:(vs.toList.take (q * sz+o)++(a.eval y).cells.toList++vs.toList.drop (q * sz+o+(a.eval y).cells.toList.length)).toArray.size=b.cap * sz:=by
  simp;omega
 generalize (vs.toList.take (q * sz+o)++(a.eval y).cells.toList++vs.toList.drop (q * sz+o+(a.eval y).cells.toList.length)).toArray=CP at FJ I7 I8
 have c:GB w (w.setRow m' CP) b.cw:=⟨⟨rfl,rfl,rfl,by simp,fun k hk A2=>setRow_other w m' k _ (fun e=>A2 (by rw [e1,e]))⟩,fun _=>ap _⟩
 have k1:∀ n,S n→S n∧(w.setRow m' CP).heap[n]? =w.heap[n]?:=by
  intro k hk
  refine ⟨hk,setRow_other w m' k _ (fun e=>?_)⟩
  subst e
  exact (r.hp.sep _ u.lS.mem k (fV e1)).1 hk
 have hh:=tA r.hp u c id id ⟨?_,by simpa using g1,.inr ⟨m',CP,E,e1,setRow_heap w m' vs _ E _ g3,I8,by rw [Bg];exact I7 _ (g5.mono k1) (sB.mono k1)⟩⟩ (.inl rfl)
 ·refine ⟨w.setRow m' CP,S,?_,r.heap hh.2.2 hh.1,hh.2.1⟩
  simp [execOp,e2,Instr.storeAt,Instr.sureAddr,storeVar,sizeOf,typeInfo,aX.h (P:=P) (t:=t),Pg,FJ]
 ·intro z hz
  rcases List.mem_or_eq_of_mem_set hz with h | rfl
  ·exact g0 z h
  ·exact UB
theorem cE {α:Type} {g:α→AV} {Xs:List α} {el A6:α} {j:Int} {t:TypeId} {i:TypeInfo} {x y:Operand} {b:Bk} {sz o:Nat} {av:AV} {cL:Heap} [aX P t i] (hx:de tm x=some (.sQ sz b j.toNat o)) (hy:de tm y=some av) (h1:kr av.cells=true) (iV:ai av.cells.length i.size=true)
 (hv:idx Xs j=some el) (xx:(g A6).cells=qh (g el).cells o av.cells) (u:na hp b (.arr sz (Xs.map g)) b (.arr sz ((Xs.set j.toNat A6).map g)) cL) (ho:aw (o+av.cells.length) (g el).cells.length=true) (kk:ae P all rest ⟨n,tm,cL⟩ Q):
 ae P all (⟨none,.store t x y,ty,pos,af,none⟩ :: rest) ⟨n,tm,hp⟩ Q:=by
 refine FO (xs:=Xs.map g) (el:=g el) (A6:=g A6) hx hy h1 iV ?_ (pR hv) xx ho kk
 rw [List.map_set] at u
 exact u
end rules
theorem rW {α:Type} {xs:List α} {i:Int} {el v:α} (h:idx xs i=some el):idx (xs.set i.toNat v) i=some v:=by
 obtain ⟨h0,h1,_⟩:=jC h
 unfold idx;rw [if_pos h0,b8 (by omega)]
theorem db.hs {w:World} {S:Nat→Prop} {h h':Heap} (r:db w S h) (s:HS h h'):db w S h':=by
 obtain ⟨q,hq⟩:=s.perm
 exact (r.perm hq).sub (cp _ _)
theorem Has.hs {h h':Heap} (s:HS h h') {n:Nat} (hh:Has h' n):Has h n:=by
 obtain ⟨q,hq⟩:=s.perm
 obtain ⟨e,he,hb⟩:=hh
 exact ⟨e,hq.mem_iff.2 (List.mem_append_left _ he),hb⟩
theorem aP.hC {P:Program} {f:FuncId} {args:List AV} {h:Heap} {Q:AV→Heap→Prop} (c:aP P f args h (fun r h1=>∃ h',HS h1 h'∧Q r h')):aP P f args h Q:=
 fun w S vs r hl ha=>(c w S vs r hl ha).mono fun _ _ ⟨v,r,_,S',h1,⟨h',hs,hq⟩,h3,h4,h5⟩=>⟨v,r,h',S',h1,hq,h3,h4.hs hs,h5.less fun _ hn=>hn.hs hs⟩
theorem aj.eqs {n s:Nat} {tm:List (Nat×AV)} {hp:Heap} {T:St→Prop} {av gx:AV} (hs:lk tm s=some av) (he:gx=av) (k:aj ⟨n,(s,gx) :: tm,hp⟩ T):aj ⟨n,tm,hp⟩ T:=by
 subst he
 exact aj.co hs (.refl _) k
theorem Gj {hp cL:Heap} {b:Bk} {o:Ob} (u:na hp b o b o cL):cL=hp:=by
 generalize hb:b=b',ho:o=o' at u
 have:∀ {h h':Heap} {b b':Bk} {o o':Ob},na h b o b' o' h'→b=b'→o=o'→h'=h:=by
  intro h h' b b' o o' u
  induction u with
  | here=>rintro rfl rfl;rfl
  | next _ ih=>intro e1 e2;rw [ih e1 e2]
  | skip _ ih=>intro e1 e2;rw [ih e1 e2]
 subst hb ho
 exact this u rfl rfl
theorem aj.I9 {n j:Nat} {tm:List (Nat×AV)} {hp cL:Heap} {T:St→Prop} {b:Bk} {cs lF:List AV} {av gx:AV} (u:na hp b (.cells cs) b (.cells lF) cL) (hj:cs[j]? =some av) (he:gx=av) (hc:rU (cs.set j gx)=some lF) (k:aj ⟨n,tm,cL⟩ T):aj ⟨n,tm,hp⟩ T:=by
 subst he
 have Hq:cs.set j gx=cs:=by
  apply cl
  intro i
  by_cases hi:j=i
  ·subst hi
   have iW:=(aI.1 hj).1
   rw [b8 iW,hj]
  ·rw [cv hi]
 rw [Hq] at hc
 obtain rfl:=mb hc
 rw [Gj u] at k
 exact k
theorem vc {p:Prop} [Decidable p] {x:Bool} (h:p):(decide p&&x)=x:=by simp [h]
theorem vd {p:Prop} [Decidable p] {x:Bool} (h:¬ p):(decide p&&x)=false:=by simp [h]
theorem wT {p:Prop} [Decidable p] {x:Bool} (h:p):(decide p||x)=true:=by simp [h]
theorem wU {p:Prop} [Decidable p] {x:Bool} (h:¬ p):(decide p||x)=x:=by simp [h]
theorem Gk {b x:Bool} (h:b=true):(b&&x)=x:=by simp [h]
theorem Gl {b x:Bool} (h:b=false):(b&&x)=false:=by simp [h]
theorem vH {b x:Bool} (h:b=true):(b||x)=true:=by simp [h]
theorem vI {b x:Bool} (h:b=false):(b||x)=x:=by simp [h]
def Gm (P:Program) (k:Nat) (t:TypeId) (v u:Value) (b:Bool):Prop:=∀ d w,(Op.equalIn (d+k) t v u).run P w=.ok b w
theorem Gm.up {P:Program} {k:Nat} {t:TypeId} {v u:Value} {b:Bool} (h:Gm P k t v u b) (j:Nat):Gm P (k+j) t v u b:=fun d w=>by
 rw [show d+(k+j)=(d+j)+k from by omega];exact h _ w
theorem Gm.cast {P:Program} {k:Nat} {t:TypeId} {v u:Value} {b b':Bool} (h:Gm P k t v u b) (e:b=b'):Gm P k t v u b':=by rw [← e];exact h
inductive NK (P:Program) (k:Nat) (xs ys:Array Value):List Field→Bool→Prop
 | nil:NK P k xs ys [] true
 | cons {f:Field} {fs:List Field} {px py:Value} {b b':Bool} (hn:f.name≠"_") (hx:∀ w,(part f.type xs f.offset).run P w=.ok px w) (hy:∀ w,(part f.type ys f.offset).run P w=.ok py w) (he:Gm P k f.type px py b) (kk:NK P k xs ys fs b'):NK P k xs ys (f :: fs) (b&&b')
theorem NK.run {P:Program} {k:Nat} {xs ys:Array Value} {fs:List Field} {b:Bool} (h:NK P k xs ys fs b) (d:Nat) (w:World):(Op.eqFields (d+k) xs ys fs).run P w=.ok b w:=by
 induction h with
 | nil=>simp [Op.eqFields]
 | @cons f fs px py b b' hn hx hy he kk ih=>
   simp only [Op.eqFields,hn,ne_eq,not_false_eq_true,if_true,Sem.run_bind,hx,hy,he d w,Result.andThen_ok]
   cases b
   ·simp
   ·simpa using ih
theorem Gm.struct {P:Program} {k:Nat} {t:TypeId} {xs ys:Array Value} {fs:List Field} {b:Bool} (hu:P.underlying t=some (.struct fs.toArray)) (hp:P.stoodInHeld t=false) (h:NK P k xs ys fs b):Gm P (k+1) t (.agg xs) (.agg ys) b:=by
 intro d w
 have hf:P.fieldsOf t=fs.toArray:=by simp [Program.fieldsOf,hu]
 rw [show d+(k+1)=(d+k)+1 from rfl,run_equalIn_struct w (d+k) t xs ys (by rw [hf];exact hu) hp,hf]
 exact h.run d w
theorem qo {P:Program} {t:TypeId} {D:TypeDesc} [aB P t D] (hD:TypeDesc.jA D=false) {cs:Array Value} {off:Nat} {v:Value} (h:cs[off]? =some v) (w:World):(part t cs off).run P w=.ok v w:=by
 unfold part isAgg
 simp only [Sem.run_bind,run_underlying (aB.h (P:=P) (t:=t)),Result.andThen_ok]
 cases D<;>simp_all [TypeDesc.jA]
theorem Eg {P:Program} {t:TypeId} {D:TypeDesc} {i:TypeInfo} [aB P t D] [aX P t i] (hD:TypeDesc.jA D=true) {cs:Array Value} {off n:Nat} (hn:i.size=n) (w:World):(part t cs off).run P w=.ok (.agg (cs.extract off (off+n))) w:=by
 subst hn
 unfold part isAgg
 simp only [Sem.run_bind,run_underlying (aB.h (P:=P) (t:=t)),Result.andThen_ok]
 cases D<;>simp_all [TypeDesc.jA,sizeOf,typeInfo,aX.h (P:=P) (t:=t)]
theorem o8.get {w:World} {S:Nat→Prop} {cs:List AV} {vs:Array Value} (hl:cs.length=vs.size) (ha:o8 w S cs vs) {off:Nat} {c:AV} (hc:cs[off]? =some c):∃ v,vs[off]? =some v∧At w S c v:=by
 have iW:=(aI.1 hc).1
 have:off < vs.size:=by omega
 exact ⟨vs[off],by simp [this],ha off c _ hc (by simp [this])⟩
theorem o8.sub {w:World} {S:Nat→Prop} {cs:List AV} {vs:Array Value} (hl:cs.length=vs.size) (ha:o8 w S cs vs) (off n:Nat) (h:off+n≤cs.length):At w S (.agg ((cs.drop off).take n)) (.agg (vs.extract off (off+n))):=by
 refine .agg _ _ (by simp;omega) (fun i c v hc hv=>?_)
 simp only [bs,bx] at hc
 split at hc
 ·rename_i hi
  refine ha (off+i) c v hc ?_
  rw [Array.getElem?_extract] at hv
  split at hv
  ·exact hv
  ·cases hv
 ·cases hc
class yS (P:Program) (t:TypeId) (k:outParam Nat) {α:Type} [DecidableEq α] (g:α→AV):Prop where
 h:∀ (x y:α) (w:World) (S:Nat→Prop) (v u:Value),At w S (g x) v→At w S (g y) u→Gm P k t v u (decide (x=y))
class NL (P:Program) (t:TypeId):Prop where
 h:P.eqGuardType P.depth t=false
instance XX {P:Program} {t:TypeId} {k:IntKind} [aB P t (.int k)]:yS P t 1 (AV.int k):=⟨fun x y w S v u hv hu d w'=>by
 rw [hv.eP,hu.eP,Op.equalIn]
 simp [run_underlying (aB.h (P:=P) (t:=t))]
 rw [da];simp⟩
instance ZC {P:Program} {t:TypeId} [aB P t (.int .i64)]:yS P t 1 I:=XX (k:=.i64)
instance eqStr {P:Program} {t:TypeId} [aB P t .string]:yS P t 1 AV.str:=⟨fun x y w S v u hv hu d w'=>by
 rw [hv.fj,hu.fj,Op.equalIn]
 simp [run_underlying (aB.h (P:=P) (t:=t))]
 rw [da]
 rw [beq_toListBytes,ByteArray.toList_eq,ByteArray.toList_eq]
 simp⟩
def AB (k:IntKind) (x y:Int):Int:=k.wrap ((dg k.bits x ^^^ dg k.bits y).toNat:Int)
def Hx (k:IntKind) (x y:Int):Int:=x.fdiv (2 ^ min y.toNat k.bits)
section rules
variable {P:Program} {all:Array Oper} {rest:List Oper} {n:Nat} {tm:List (Nat×AV)} {hp:Heap} {Q:St→Prop} {d:Nat} {ty:TypeId} {pos:String} {af:Array Edge}
theorem Eh {α:Type} [DecidableEq α] {g:α→AV} {X Y:α} {k:Nat} {xt yt:TypeId} {x y:Operand} {cs ds:List AV} [yS P xt k g] [NL P xt] (hk:aw k 10000=true) (hx:de tm x=some (.agg cs)) (hy:de tm y=some (.agg ds)) (eX:g X=.agg cs) (eY:g Y=.agg ds):
 QV P ⟨some d,.binOp .eql xt x y yt,ty,pos,af,none⟩ ⟨n,tm,hp⟩ (.bool (decide (X=Y))):=by
 intro w S a r
 have hv:=bj (σ:=⟨n,tm,hp⟩) r hx
 have hu:=bj (σ:=⟨n,tm,hp⟩) r hy
 have he:=yS.h (P:=P) (t:=xt) (g:=g) X Y w S _ _ (by rw [eX];exact hv) (by rw [eY];exact hu)
 obtain ⟨vs,e1,_,_⟩:=hv.pO
 obtain ⟨us,e2,_,_⟩:=hu.pO
 refine ⟨.bool (decide (X=Y)),fun w1 _=>?_,.bool _⟩
 have h1:=run_eqGuard_agg (P:=P) w1 .eql xt x y vs us NL.h
 rw [e1,e2] at he
 have h2:(Op.equal xt (.agg vs) (.agg us)).run P w1=.ok (decide (X=Y)) w1:=by
  have:=he (10000 - k) w1
  rw [dk (bw hk)] at this
  exact this
 have h3:(binOp .eql xt (.agg vs) (.agg us)).run P w1=.ok (.bool (decide (X=Y))) w1:=by
  rw [show binOp .eql xt (.agg vs) (.agg us)=(do pure (.bool (← Op.equal xt (.agg vs) (.agg us)))) from rfl]
  simp [h2]
 simp [execOp,e1,e2,h1,h3]
theorem UC {α:Type} [DecidableEq α] {g:α→AV} {X Y:α} {k:Nat} {xt yt:TypeId} {x y:Operand} {cs ds:List AV} [yS P xt k g] [NL P xt] (hk:aw k 10000=true) (hx:de tm x=some (.agg cs)) (hy:de tm y=some (.agg ds)) (eX:g X=.agg cs) (eY:g Y=.agg ds):
 QV P ⟨some d,.binOp .neq xt x y yt,ty,pos,af,none⟩ ⟨n,tm,hp⟩ (.bool (decide (X≠Y))):=by
 intro w S a r
 have hv:=bj (σ:=⟨n,tm,hp⟩) r hx
 have hu:=bj (σ:=⟨n,tm,hp⟩) r hy
 have he:=yS.h (P:=P) (t:=xt) (g:=g) X Y w S _ _ (by rw [eX];exact hv) (by rw [eY];exact hu)
 obtain ⟨vs,e1,_,_⟩:=hv.pO
 obtain ⟨us,e2,_,_⟩:=hu.pO
 refine ⟨.bool (decide (X≠Y)),fun w1 _=>?_,.bool _⟩
 have h1:=run_eqGuard_agg (P:=P) w1 .neq xt x y vs us NL.h
 rw [e1,e2] at he
 have h2:(Op.equal xt (.agg vs) (.agg us)).run P w1=.ok (decide (X=Y)) w1:=by
  have:=he (10000 - k) w1
  rw [dk (bw hk)] at this
  exact this
 have h3:(binOp .neq xt (.agg vs) (.agg us)).run P w1=.ok (.bool (decide (X≠Y))) w1:=by
  rw [show binOp .neq xt (.agg vs) (.agg us)=(do pure (.bool (!(← Op.equal xt (.agg vs) (.agg us))))) from rfl]
  simp [h2]
 simp [execOp,e1,e2,h1,h3]
theorem Hy {xt yt:TypeId} {x y:Operand} {s t:List UInt8} (hx:de tm x=some (.str s)) (hy:de tm y=some (.str t)):QV P ⟨some d,.binOp .leq xt x y yt,ty,pos,af,none⟩ ⟨n,tm,hp⟩ (.bool (Op.bytesLess s t||s==t)):=by
 refine fun w S a r=>⟨.bool (Op.bytesLess s t||s==t),fun w1 _=>?_,.bool _⟩
 simp [execOp,(bj (σ:=⟨n,tm,hp⟩) r hx).fj,(bj (σ:=⟨n,tm,hp⟩) r hy).fj,eqGuard_at_string,binOp,Op.stringOp,ByteArray.toList_eq]
theorem Mq {k:IntKind} {xt yt:TypeId} {x y:Operand} {i j:Int} (hx:de tm x=some (.int k i)) (hy:de tm y=some (.int k j)):QV P ⟨some d,.binOp .xor xt x y yt,ty,pos,af,none⟩ ⟨n,tm,hp⟩ (.int k (AB k i j)):=
 x6 hx hy (v:=.int k (AB k i j)) (fun w=>by simp [binOp,Op.intBits,AB]) (fun w S=>.int _ _)
theorem UD {k k':IntKind} {xt yt:TypeId} {x y:Operand} {i j:Int} (hx:de tm x=some (.int k i)) (hy:de tm y=some (.int k' j)) (h0:¬ j < 0):QV P ⟨some d,.binOp .shr xt x y yt,ty,pos,af,none⟩ ⟨n,tm,hp⟩ (.int k (Hx k i j)):=by
 refine fun w S a r=>⟨.int k (Hx k i j),fun w1 _=>?_,.int _ _⟩
 simp [execOp,(bj (σ:=⟨n,tm,hp⟩) r hx).eP,(bj (σ:=⟨n,tm,hp⟩) r hy).eP,eqGuard_at_int,binOp,Op.shift,h0,Hx]
end rules
end Go.Eng
namespace Go.Eng
open Go Go.RowKit
variable [bN]
theorem Gn (l:List Int):flat (l.map I)=l.map I:=by
 induction l with
 | nil=>rfl
 | cons x r ih=>rw [dl,kK,ih];rfl
theorem PA {P:Program} {f:FuncId} {a:Option Addr} {len cap:Nat} {zs:List Int} {w:World}
 (z6:(a=none∧len=0∧cap=0∧zs=[])∨∃ x,a=some x∧len≤cap∧cap≤maxLen∧zs.length=cap∧(∀ i,i < zs.length→w.cell? (x.add i)=some (.int .i64 (zs.getD i 0)))∧∀ n∈zs,(Lit.int .i64 n).wf=true)
 (hG:∀ g o,bN.XA g=some o→g < w.heap.size∧o (w.heap[g]?))
 (c:∀ l:List Int,Pu P f [.list 1 (l.map I)] (.bool true)):
 Calls P f #[.slice a len cap] w fun e w'=>e=.returned (.bool true)∧Below w.heap.size w w':=by
 let S:Nat→Prop:=fun n=>n < w.heap.size
 have sB:∃ l:List Int,At w S (.list 1 (l.map I)) (.slice a len cap):=by
  rcases z6 with ⟨rfl,rfl,rfl,rfl⟩ | ⟨x,rfl,h1,h2,h3,h4,h5⟩
  ·exact ⟨[],.list 1 [] none 0 [] (by simp) rfl (by simp [flat]) (by simp) (by simp)⟩
  ·refine ⟨zs.take len,?_⟩
   have hl:((zs.take len).map I).length=len:=by simp;omega
   have key:=At.list (w:=w) (S:=S) 1 ((zs.take len).map I) (some x) cap ((zs.take len).map (fun n=>Value.int .i64 n)) ?_ ?_ ?_ ?_ ?_
   ·rw [hl] at key;exact key
   ·intro y hy
    obtain ⟨n,_,rfl⟩:=dn.1 hy
    exact ⟨rfl,fun c hc=>by simp [AV.cells] at hc;subst hc;rfl⟩
   ·rw [Gn];simp
   ·intro i c v hc hv
    rw [Gn,b7] at hc
    rw [b7] at hv
    cases hn:(zs.take len)[i]? with
    | none=>rw [hn] at hc;cases hc
    | some n=>
      rw [hn] at hc hv
      obtain rfl:=aa hc
      obtain rfl:=aa hv
      exact .int _ _
   ·intro i v hv
    rw [b7] at hv
    cases hn:(zs.take len)[i]? with
    | none=>rw [hn] at hv;cases hv
    | some n=>
      rw [hn] at hv
      obtain rfl:=aa hv
      have hi:i < zs.length:=by
       have:=(aI.1 hn).1
       simp at this;omega
      have hz:zs.getD i 0=n:=by
       rw [bs] at hn
       split at hn
       ·rw [List.getD_eq_getElem?_getD,hn];rfl
       ·cases hn
      have vO:=h4 i hi
      rw [hz] at vO
      obtain ⟨bk,of,sp⟩:=x
      have Pb:sp=none:=by
       cases sp with
       | none=>rfl
       | some q=>
         have XY:=h4 0 (by omega)
         unfold World.cell? Addr.add at XY
         simp only [if_true] at XY
         split at XY
         ·simp at XY
         ·cases XY
      subst Pb
      rw [nX] at vO
      have hblk:bk < w.heap.size:=by
       rcases bt bk w.heap.size with h | h
       ·exact h
       ·unfold World.cell? at vO
        simp only [Array.getElem?_eq_none h] at vO
        cases vO
      exact ⟨_,rfl,rfl,hblk,vO⟩
   ·rw [hl];exact h1
 obtain ⟨l,sB⟩:=sB
 refine (c l w S #[.slice a len cap] (va (fun n hn=>hn) hG) rfl ?_).mono ?_
 ·intro i c' v hc hv
  match i with
  | 0=>simp at hc hv;subst hc;subst hv;exact sB
  | i+1=>simp at hc
 ·rintro e w' ⟨v,r,h',S',rfl,rfl,h1,h2,h3⟩
  refine ⟨by rw [h1.kW],h3.os,h3.tape,h3.output,h3.size,fun k hk=>(h3.mB k hk).2⟩
end Go.Eng
namespace Go.Eng
open Go
variable [bN]
def pr (e:Env) (d:Option Nat) (o:Option AV):Env:=match d with
 | some d=>fun s=>if d=s then o else e s
 | none=>e
theorem kY {e:Env} {d:Option Nat} {o:Option AV} {s:Nat} (h:d≠some s):pr e d o s=e s:=by
 cases d with
 | none=>rfl
 | some d=>simp only [pr];rw [if_neg (fun e=>h (by rw [e]))]
theorem ov {e:Env} {o:Option AV} {s:Nat}:pr e (some s) o s=o:=by simp [pr]
section order
variable {P:Program} {all:Array Oper} {n m:Nat} {hp:Heap}
def yn (all:Array Oper) (pk:Nat→Option AV) (e:Env) (listed:Array Bool):Nat→Env
 | 0=>e
 | k+1=>if listed.getD k false then pr (yn all pk e listed k) ((all[k]?).bind (·.dst)) (pk k) else yn all pk e listed k
variable {pk:Nat→Option AV} {en:Nat→Env} {e:Env}
theorem NM (hB:x9 all m) {listed:Array Bool} (L:R3 all m listed) (h0:en 0=e) (hs:∀ i o,i < m→all[i]? =some o→en (i+1)=pr (en i) o.dst (pk i)) (hm:m≤all.size)
 {i:Nat} {o:Oper} (ho:all[i]? =some o) (FN:i < m) (zY:listed.getD i false=false) (hr:∀ j,CU all i j→listed.getD j false=true) {s:Nat} (R4:s∈looks all o):∀ k,k≤all.size→yn all pk e listed k s=en (min k i) s:=by
 intro k
 induction k with
 | zero=>intro _;simp [yn,h0]
 | succ k ih=>
   intro hk
   have ym:=ih (by omega)
   have iv:all[k]? =some all[k]:=by simp [show k < all.size by omega]
   simp only [yn,iv,cy]
   rcases du k i with iW | heq | K6
   ·rw [bz (by omega)] at ym
    rw [bz (by omega),hs k _ (by omega) iv]
    by_cases hd:(all[k]).dst=some s
    ·have hl:listed.getD k false=true:=hr k ((mF hB ho iv iW).1 FN (AA hd R4))
     rw [if_pos hl,hd,ov,ov]
    ·rw [kY hd]
     split
     ·rw [kY hd];exact ym
     ·exact ym
   ·subst heq
    rw [zY]
    simp only [cz,if_false]
    rw [be (by omega)]
    rw [be (by omega)] at ym
    exact ym
   ·rw [be (by omega)] at ym
    rw [be (by omega)]
    by_cases hl:listed.getD k false=true
    ·by_cases hd:(all[k]).dst=some s
     ·exfalso
      have hw:=(mF hB iv ho K6).1 (L.head k hl) (CX hd R4)
      have:=nZ.Sz L.closed hw hl
      rw [zY] at this;cases this
     ·rw [if_pos hl,kY hd];exact ym
    ·rw [if_neg hl];exact ym
theorem PB (hB:x9 all m) {listed:Array Bool} (L:R3 all m listed) {i:Nat} {o:Oper} (ho:all[i]? =some o) (FN:i < m) (zY:listed.getD i false=false) (s:Nat):
 ∀ k,k≤all.size→yn all pk e (listed.setIfInBounds i true) k s=(if i < k then pr (yn all pk e listed k) o.dst (pk i) s else yn all pk e listed k s):=by
 have hi:i < listed.size:=by rw [L.size];exact (Array.getElem?_eq_some_iff.1 ho).1
 intro k
 induction k with
 | zero=>intro _;simp [yn]
 | succ k ih=>
   intro hk
   have ym:=ih (by omega)
   have iv:all[k]? =some all[k]:=by simp [show k < all.size by omega]
   simp only [yn,iv,cy,kX hi]
   rcases du k i with iW | heq | K6
   ·rw [if_neg (by omega)] at ym
    have e1:(if k=i then true else listed.getD k false)=listed.getD k false:=if_neg (by omega)
    rw [e1,if_neg (show ¬ i < k+1 by omega)]
    by_cases hl:listed.getD k false=true
    ·rw [if_pos hl,if_pos hl]
     by_cases hd:(all[k]).dst=some s
     ·rw [hd,ov,ov]
     ·rw [kY hd,kY hd];exact ym
    ·rw [if_neg hl,if_neg hl];exact ym
   ·subst heq
    rw [if_neg (by omega)] at ym
    have e1:(if k=k then true else listed.getD k false)=true:=if_pos rfl
    rw [e1,if_pos (show k < k+1 by omega),if_pos rfl,zY,if_neg Bool.false_ne_true]
    obtain rfl:all[k]=o:=by rw [iv] at ho;exact aa ho
    by_cases hd:(all[k]).dst=some s
    ·rw [hd,ov,ov]
    ·rw [kY hd,kY hd];exact ym
   ·rw [if_pos K6] at ym
    have e1:(if k=i then true else listed.getD k false)=listed.getD k false:=if_neg (by omega)
    rw [e1,if_pos (show i < k+1 by omega)]
    by_cases hl:listed.getD k false=true
    ·rw [if_pos hl,if_pos hl]
     by_cases hd:(all[k]).dst=some s
     ·by_cases KN:o.dst=some s
      ·exfalso
       have hw:=(mF hB iv ho K6).1 (L.head k hl) (Gi KN hd)
       have:=nZ.Sz L.closed hw hl
       rw [zY] at this;cases this
      ·rw [hd,ov,kY KN,ov]
     ·by_cases KN:o.dst=some s
      ·rw [kY hd,ym,KN,ov,ov]
      ·rw [kY hd,ym,kY KN,kY KN,kY hd]
    ·rw [if_neg hl,if_neg hl];exact ym
structure Tok where
 prod:Option Nat
 cons:Option Nat
 rds:List Nat
 ZD:Bk→Bk×Ob
 ZE:Option Nat
 sft:List Nat
def Tok.ix (t:Tok):Option Nat:=match t.ZE with | some a=>some a | none=>t.prod
def Tok.at (t:Tok) (β:Nat→Bk):Bk×Ob:=t.ZD (match t.ix with | some i=>β i | none=>⟨none,0⟩)
def AD (listed:Array Bool) (t:Tok):Bool:=(match t.prod with | none=>true | some i=>listed.getD i false)&&(match t.cons with | none=>true | some i=>!listed.getD i false)
def Dq (i:Nat) (t:Tok):Bool:=match t.cons with | some c=>ai c i | none=>false
def SF (i:Nat) (t:Tok):Bool:=match t.prod with | some c=>ai c i | none=>false
def Mr (i:Nat) (t:Tok):Bool:=t.rds.contains i
def Bh (tk:List Tok) (i:Nat) (β:Nat→Bk):Heap:=(tk.filter (Mr i)).map (·.at β)
def RZ (i:Nat) (t:Tok):Bool:=t.sft.contains i
def xF (tk:List Tok) (i:Nat) (β:Nat→Bk):List Heap:=match tk.filter (RZ i) with
 | []=>[Bh tk i β]
 | l=>l.map fun t=>t.at β :: Bh tk i β
def uB (tk:List Tok) (listed:Array Bool) (β:Nat→Bk):Heap:=(tk.filter (AD listed)).map (·.at β)
def wA (tk:List Tok) (i:Nat) (β:Nat→Bk):Heap:=(tk.filter (Dq i)).map (·.at β)
def lJ (tk:List Tok) (i:Nat) (β:Nat→Bk):Heap:=(tk.filter (SF i)).map (·.at β)
def qp (β:Nat→Bk) (i:Nat) (b:Bk):Nat→Bk:=fun k=>bif ai k i then b else β k
theorem SG (β:Nat→Bk) (i:Nat) (b:Bk):qp β i b i=b:=by simp [qp]
theorem Ms {β:Nat→Bk} {i k:Nat} {b:Bk} (h:k≠i):qp β i b k=β k:=by simp [qp,tx h]
def PC (tk:List Tok) (β:Nat→Bk):Heap:=(tk.filter (fun t=>t.cons.isNone)).map (·.at β)
def XZ (A:List Nat) (m:Nat) (tk:List Tok):Bool:=tk.all fun t=>
 (match t.prod with | some p=>al p m | none=>true)&&(match t.cons with | some c=>al c m&&(match t.prod with | some p=>(A.getD c 0).testBit p | none=>true) | none=>true)&&
 (match t.ZE with | some a=>(match t.prod with | some p=>(A.getD p 0).testBit a | none=>false) | none=>true)&&
 t.rds.all fun i=>al i m&&(match t.prod with | some p=>(A.getD i 0).testBit p | none=>true)&&(match t.cons with | some c=>(A.getD c 0).testBit i | none=>true)
def UE (A:List Nat) (m:Nat) (tk:List Tok):Bool:=(List.range m).all fun i=>match tk.filter (RZ i) with
 | []=>true
 | [t0,t1]=>(match t0.cons,t1.prod with | some j,some j'=>ai j j'&&!Nat.beq j i | _,_=>false)&&(match t0.prod with | some p=>(A.getD i 0).testBit p | none=>true)&&(match t1.cons with | some c=>(A.getD c 0).testBit i | none=>true)&&!Mr i t0&&!Mr i t1
 | _=>false
def K8 (all:Array Oper) (m:Nat) (tk:List Tok):Prop:=∀ i,i < m→tk.filter (RZ i)=[]∨∃ t0 t1 j,tk.filter (RZ i)=[t0,t1]∧t0.cons=some j∧t1.prod=some j∧j≠i∧(∀ p,t0.prod=some p→CU all i p)∧(∀ c,t1.cons=some c→CU all c i)∧Mr i t0=false∧Mr i t1=false
theorem K9 {A:List Nat} {tk:List Tok} (hA:ND all=A) (h:UE A m tk=true):K8 all m tk:=by
 intro i hi
 have:=ag.1 h i (dQ.2 hi)
 split at this
 ·rename_i e;exact .inl e
 ·rename_i t0 t1 e
  simp only [ac,dR] at this
  obtain ⟨⟨⟨⟨h1,h2⟩,h3⟩,h4⟩,h5⟩:=this
  split at h1
  ·rename_i j j' hj W1
   simp only [ac,dR] at h1
   obtain ⟨h6,h7⟩:=h1
   obtain rfl:=a8 h6
   refine .inr ⟨t0,t1,j,e,hj,W1,fun e=>by rw [e] at h7;simp at h7,fun p hp=>?_,fun c hc=>?_,h4,h5⟩
   ·rw [hp] at h2;subst hA;exact rq h2
   ·rw [hc] at h3;subst hA;exact rq h3
  ·cases h1
 ·cases this
def Ei (all:Array Oper) (m:Nat) (tk:List Tok):Prop:=∀ t∈tk,(∀ p,t.prod=some p→p < m)∧(∀ c,t.cons=some c→c < m∧∀ p,t.prod=some p→CU all c p)∧(∀ i,Mr i t=true→i < m∧(∀ p,t.prod=some p→CU all i p)∧∀ c,t.cons=some c→CU all c i)∧∀ a,t.ZE=some a→∃ p,t.prod=some p∧CU all p a
theorem NN {A:List Nat} {tk:List Tok} (hA:ND all=A) (h:XZ A m tk=true):Ei all m tk:=by
 intro t ht
 have:=ag.1 h t ht
 rw [ac,ac,ac] at this
 obtain ⟨⟨⟨h1,h2⟩,h9⟩,h4⟩:=this
 subst hA
 refine ⟨fun p hp=>by rw [hp] at h1;simpa using h1,fun c hc=>?_,fun i hi=>?_,fun a ha=>?_⟩
 ·rw [hc] at h2
  simp only [ac] at h2
  refine ⟨by simpa using h2.1,fun p hp=>?_⟩
  have h3:=h2.2
  rw [hp] at h3
  exact rq h3
 ·have h5:=ag.1 h4 i (by simpa [Mr] using hi)
  rw [ac,ac] at h5
  obtain ⟨⟨h6,h7⟩,h8⟩:=h5
  exact ⟨by simpa using h6,fun p hp=>by rw [hp] at h7;exact rq h7,fun c hc=>by rw [hc] at h8;exact rq h8⟩
 ·rw [ha] at h9
  cases hp:t.prod with
  | none=>rw [hp] at h9;cases h9
  | some p=>rw [hp] at h9;exact ⟨p,rfl,rq h9⟩
theorem xG {α:Type} (p q:α→Bool) (l:List α):(l.filter p).Perm (l.filter (fun x=>p x&&q x)++l.filter (fun x=>p x&&!q x)):=by
 induction l with
 | nil=>exact List.Perm.refl _
 | cons x l ih=>
   simp only [List.filter_cons]
   cases hp:p x<;>cases hq:q x
   ·simpa using ih
   ·simpa using ih
   ·simp only [b9,cb,cz,if_false,if_true]
    exact (d0 x ih).trans cP.symm
   ·simp only [b9,Bool.not_true,cz,if_false,if_true,bp]
    exact d0 x ih
theorem Vt {tk:List Tok} (hT:Ei all m tk) {listed:Array Bool} {i:Nat} (zY:listed.getD i false=false) (Hz:∀ j,CU all i j→listed.getD j false=true) (β:Nat→Bk):
 (uB tk listed β).Perm (wA tk i β++(tk.filter (fun t=>AD listed t&&!Dq i t)).map (·.at β)):=by
 unfold uB wA
 rw [← b4]
 refine cQ _ ?_
 have e:tk.filter (Dq i)=tk.filter (fun t=>AD listed t&&Dq i t):=by
  apply bv
  intro t ht
  cases hc:Dq i t with
  | false=>simp
  | true=>
    unfold Dq at hc
    split at hc
    ·rename_i c Gp
     obtain rfl:c=i:=a8 hc
     have:=(hT t ht).2.1 c Gp
     have XS:AD listed t=true:=by
      unfold AD
      rw [Gp]
      simp only [zY,cb,d4]
      split
      ·rfl
      ·rename_i p hp;exact Hz p (this.2 p hp)
     rw [XS];rfl
    ·cases hc
 rw [e]
 exact xG _ _ _
theorem SH {tk:List Tok} (hT:Ei all m tk) {listed:Array Bool} (Ag:nZ all listed) {i:Nat} (hi:i < listed.size) (zY:listed.getD i false=false) (HA:∀ c,CU all c i→c≠i) (β:Nat→Bk) (b:Bk):
 (uB tk (listed.setIfInBounds i true) (qp β i b)).Perm (lJ tk i (qp β i b)++(tk.filter (fun t=>AD listed t&&!Dq i t)).map (·.at β)):=by
 unfold uB lJ
 have e2:(tk.filter (fun t=>AD listed t&&!Dq i t)).map (·.at β)=(tk.filter (fun t=>AD listed t&&!Dq i t)).map (·.at (qp β i b)):=by
  apply List.map_congr_left
  intro t ht
  have h0:=(b5.1 ht).1
  have h1:=(b5.1 ht).2
  rw [ac] at h1
  have Zu:∀ p,t.prod=some p→listed.getD p false=true:=by
   intro p hp
   have:=h1.1
   unfold AD at this
   rw [hp,ac] at this
   exact this.1
  unfold Tok.at
  cases hx:t.ix with
  | none=>rfl
  | some p=>
    have Vi:listed.getD p false=true:=by
     unfold Tok.ix at hx
     cases ha:t.ZE with
     | none=>rw [ha] at hx;exact Zu p hx
     | some a=>
       rw [ha] at hx
       obtain rfl:=aa hx
       obtain ⟨q,q1,q2⟩:=(hT t h0).2.2.2 a ha
       exact Ag.Sz q2 (Zu q q1)
    have:p≠i:=fun e=>by subst e;rw [zY] at Vi;cases Vi
    simp only [Ms this]
 rw [e2,← b4]
 refine cQ _ ?_
 refine (xG _ (SF i) _).trans ?_
 have f1:tk.filter (fun t=>AD (listed.setIfInBounds i true) t&&SF i t)=tk.filter (SF i):=by
  apply bv
  intro t ht
  cases hp:SF i t with
  | false=>simp
  | true=>
    unfold SF at hp
    split at hp
    ·rename_i p W2
     obtain rfl:p=i:=a8 hp
     have XS:AD (listed.setIfInBounds p true) t=true:=by
      unfold AD
      rw [W2]
      simp only [kX hi,if_true,b9]
      cases hc:t.cons with
      | none=>rfl
      | some c=>
        have Hz:=((hT t ht).2.1 c hc).2 p W2
        have A2:=HA c Hz
        simp only [A2,if_false]
        cases hl:listed.getD c false with
        | false=>rfl
        | true=>have:=Ag.Sz Hz hl;rw [zY] at this;cases this
     rw [XS];rfl
    ·cases hp
 have f2:tk.filter (fun t=>AD (listed.setIfInBounds i true) t&&!SF i t)=tk.filter (fun t=>AD listed t&&!Dq i t):=by
  apply bv
  intro t ht
  unfold AD SF Dq
  cases hp:t.prod with
  | none=>
    cases hc:t.cons with
    | none=>simp
    | some c=>
      simp only [kX hi]
      by_cases R6:c=i
      ·subst R6;simp
      ·have:ai c i=false:=tx R6
       simp [R6,this]
  | some p=>
    by_cases ZF:p=i
    ·subst ZF
     simp [zY]
    ·have hb:ai p i=false:=tx ZF
     cases hc:t.cons with
     | none=>simp [kX hi,ZF,hb]
     | some c=>
       simp only [kX hi,ZF,hb,if_false]
       by_cases R6:c=i
       ·subst R6;simp
       ·have:ai c i=false:=tx R6
        simp [R6,this]
 rw [f1,f2]
theorem PE {tk:List Tok} (hT:Ei all m tk) {listed:Array Bool} (Ag:nZ all listed) {i:Nat} (zY:listed.getD i false=false) (Hz:∀ j,CU all i j→listed.getD j false=true) (HA:∀ c,CU all c i→c≠i) (β:Nat→Bk):
 ((tk.filter (fun t=>AD listed t&&!Dq i t)).map (·.at β)).Perm (Bh tk i β++(tk.filter (fun t=>(AD listed t&&!Dq i t)&&!Mr i t)).map (·.at β)):=by
 unfold Bh
 rw [← b4]
 refine cQ _ ?_
 have e:tk.filter (Mr i)=tk.filter (fun t=>(AD listed t&&!Dq i t)&&Mr i t):=by
  apply bv
  intro t ht
  cases hr:Mr i t with
  | false=>simp
  | true=>
    obtain ⟨_,q2,q3⟩:=(hT t ht).2.2.1 i hr
    have h1:AD listed t=true:=by
     unfold AD
     have e1:(match t.prod with | none=>true | some i=>listed.getD i false)=true:=by
      cases hp:t.prod with
      | none=>rfl
      | some p=>exact Hz p (q2 p hp)
     have e2:(match t.cons with | none=>true | some i=>!listed.getD i false)=true:=by
      cases hc:t.cons with
      | none=>rfl
      | some c=>
        have:=q3 c hc
        show (!listed.getD c false)=true
        cases hl:listed.getD c false with
        | false=>rfl
        | true=>have:=Ag.Sz this hl;rw [zY] at this;cases this
     rw [e1,e2];rfl
    have h2:Dq i t=false:=by
     unfold Dq
     cases hc:t.cons with
     | none=>rfl
     | some c=>exact tx (HA c (q3 c hc))
    rw [h1,h2];rfl
 rw [e]
 exact xG _ _ _
theorem NO {tk:List Tok} (hT:Ei all m tk) (hS:K8 all m tk) {listed:Array Bool} (Ag:nZ all listed) {i:Nat} (FN:i < m) (zY:listed.getD i false=false) (Hz:∀ j,CU all i j→listed.getD j false=true) (HA:∀ c,CU all c i→c≠i) (β:Nat→Bk):
 ∃ X∈xF tk i β,∃ rest,((tk.filter (fun t=>AD listed t&&!Dq i t)).map (·.at β)).Perm (X++rest):=by
 have h0:=PE hT Ag zY Hz HA β
 rcases hS i FN with e | ⟨t0,t1,j,e,a1,a2,a3,a4,a5,a6,a7⟩
 ·exact ⟨Bh tk i β,by unfold xF;rw [e];simp,_,h0⟩
 ·have m0:t0∈tk:=(b5.1 (by rw [e];simp:t0∈tk.filter (RZ i))).1
  have m1:t1∈tk:=(b5.1 (by rw [e];simp:t1∈tk.filter (RZ i))).1
  have go:∀ t,t∈tk→AD listed t=true→Dq i t=false→Mr i t=false→∃ rest,((tk.filter (fun t=>AD listed t&&!Dq i t)).map (·.at β)).Perm ((t.at β :: Bh tk i β)++rest):=by
   intro t ht h1 h2 h3
   have hm:t∈tk.filter (fun t=>(AD listed t&&!Dq i t)&&!Mr i t):=b5.2 ⟨ht,by simp [h1,h2,h3]⟩
   obtain ⟨a,b,DL⟩:=List.append_of_mem hm
   rw [DL] at h0
   refine ⟨(a++b).map (·.at β),h0.trans ?_⟩
   rw [b4,dl,b4]
   refine (b6 _ cP).trans ?_
   exact cP
  have hX:∀ t,t∈[t0,t1]→(t.at β :: Bh tk i β)∈xF tk i β:=by
   intro t ht
   unfold xF
   rw [e]
   exact dn.2 ⟨t,ht,rfl⟩
  cases hj:listed.getD j false with
  | false=>
    have h1:AD listed t0=true:=by
     unfold AD
     rw [a1]
     simp only [hj,cb,d4]
     split
     ·rfl
     ·rename_i p hp;exact Hz p (a4 p hp)
    have h2:Dq i t0=false:=by unfold Dq;rw [a1];exact tx a3
    obtain ⟨rest,hr⟩:=go t0 m0 h1 h2 a6
    exact ⟨_,hX t0 (by simp),rest,hr⟩
  | true=>
    have h1:AD listed t1=true:=by
     unfold AD
     rw [a2]
     simp only [hj,b9]
     split
     ·rfl
     ·rename_i c hc
      cases hl:listed.getD c false with
      | false=>rfl
      | true=>have:=Ag.Sz (a5 c hc) hl;rw [zY] at this;cases this
    have h2:Dq i t1=false:=by
     unfold Dq
     split
     ·rename_i c hc;exact tx (HA c (a5 c hc))
     ·rfl
    obtain ⟨rest,hr⟩:=go t1 m1 h1 h2 a7
    exact ⟨_,hX t1 (by simp),rest,hr⟩
def TV (P:Program) (all:Array Oper) (n:Nat) (B:Heap) (o:Oper) (e:Env) (Ti:Heap) (V:Bk→AV) (Pi:Bk→Heap):Prop:=
 ∀ w S a,a.tmps.size=n→a.defers=[]→db w S (Ti++B)→Hr w S (looks all o) e a→∀ (K:Act→World→Prop) (Q:Exit→Act→World→Prop),
   (∀ b v w' S',kS w S (Ti++B) w' S' (Pi b++B)→db w' S' (Pi b++B)→At w' S' (V b) v→K (a.put o.dst v) w')→o.wp P a w K Q
def uC (P:Program) (all:Array Oper) (n:Nat) (B:Heap) (o:Oper) (e:Env) (Ti:Heap) (V:Bk→AV) (Pi:Bk→Heap):Prop:=
 (∀ d,o.dst=some d→d < n)∧((qY all o e true∧TV P all n B o e Ti V Pi)∨(qY all o e false∧∀ b,Pi b=Ti∧V b=.raw undef))
def KO (e c:Env):Env:=fun s=>match e s with | some av=>some av | none=>c s
theorem PF {e c:Env} {s:Nat} {av:AV} (h:e s=some av):KO e c s=some av:=by simp [KO,h]
theorem qY.up {all:Array Oper} {o:Oper} {e c:Env} {b:Bool} (h:qY all o e b):qY all o (KO e c) b:=by
 unfold qY at *
 cases hg:o.guard with
 | none=>rw [hg] at h;exact h
 | some g=>
   rw [hg] at h
   obtain ⟨s,h1,h2⟩:=h
   refine ⟨s,h1,?_⟩
   rcases h2 with ⟨x,h3,h4⟩ | ⟨h3,h4⟩
   ·exact .inl ⟨x,PF h3,h4⟩
   ·exact .inr ⟨PF h3,h4⟩
theorem Hr.down {w:World} {S:Nat→Prop} {ls:List Nat} {e c:Env} {a:Act} (h:Hr w S ls (KO e c) a):Hr w S ls e a:=fun s hs av qn=>h s hs av (PF qn)
theorem uC.up {P:Program} {all:Array Oper} {n:Nat} {B:Heap} {o:Oper} {e c:Env} {Ti:Heap} {V:Bk→AV} {Pi:Bk→Heap} (h:uC P all n B o e Ti V Pi):uC P all n B o (KO e c) Ti V Pi:=by
 refine ⟨h.1,h.2.imp (fun x=>⟨x.1.up,fun w S a h1 h2 h3 h4=>x.2 w S a h1 h2 h3 h4.down⟩) (fun x=>⟨x.1.up,x.2⟩)⟩
theorem PG {all:Array Oper} {pk:Nat→Option AV} {V:Nat→Bk→AV} {cn:Nat→(Nat→Bk)→Env} {m:Nat} (h0:∀ β s,cn 0 β s=none) (hc:∀ i o,i < m→all[i]? =some o→∀ β,cn (i+1) β=match pk i with | none=>pr (cn i β) o.dst (some (V i (β i))) | some _=>cn i β) (hm:m≤all.size):
 ∀ i,i≤m→∀ β s av,cn i β s=some av→∃ k o,k < i∧all[k]? =some o∧o.dst=some s∧pk k=none∧av=V k (β k):=by
 intro i
 induction i with
 | zero=>intro _ β s av h;rw [h0] at h;cases h
 | succ i ih=>
   intro hi β s av h
   have iv:all[i]? =some all[i]:=by simp [show i < all.size by omega]
   rw [hc i _ (by omega) iv] at h
   cases qn:pk i with
   | some x=>
     rw [qn] at h
     obtain ⟨k,o,h1,h2⟩:=ih (by omega) β s av h
     exact ⟨k,o,by omega,h2⟩
   | none=>
     rw [qn] at h
     by_cases hd:(all[i]).dst=some s
     ·simp only [hd,ov] at h
      exact ⟨i,_,by omega,iv,hd,qn,(aa h).symm⟩
     ·simp only [kY hd] at h
      obtain ⟨k,o,h1,h2⟩:=ih (by omega) β s av h
      exact ⟨k,o,by omega,h2⟩
theorem NP {cn:Nat→(Nat→Bk)→Env} {B:Heap} {tk:List Tok} {V:Nat→Bk→AV} (hB:x9 all m) (hT:Ei all m tk) (hSf:K8 all m tk) (hm:m≤all.size) {Q:Exit→Act→World→Prop} (h0:en 0=e)
 (Vr:∀ β s,cn 0 β s=none) (hcn:∀ i o,i < m→all[i]? =some o→∀ β,cn (i+1) β=match pk i with | none=>pr (cn i β) o.dst (some (V i (β i))) | some _=>cn i β)
 (hs:∀ i o,i < m→all[i]? =some o→(∀ β,∀ X∈xF tk i β,uC P all n (X++B) o (KO (en i) (cn i β)) (wA tk i β) (V i) (fun b=>lJ tk i (qp β i b)))∧en (i+1)=pr (en i) o.dst (pk i)∧(∀ av,pk i=some av→∀ b,V i b=av))
 (hU:∀ i j oi oj d,i < m→j < m→i≠j→all[i]? =some oi→all[j]? =some oj→pk i=none→oi.dst=some d→oj.dst≠some d) {w0:World} {S0:Nat→Prop} {ZG:Heap}
 (fin:∀ β a w S,a.tmps.size=n→a.defers=[]→db w S (PC tk β++B)→kS w0 S0 ZG w S (PC tk β++B)→D9 w S (en m) a→(∀ j o d,j < m→all[j]? =some o→pk j=none→o.dst=some d→∃ v,a.tmps[d]? =some v∧At w S (V j (β j)) v)→wpList P all Q (all.toList.drop m) a w):
 ∀ (fuel:Nat) (listed:Array Bool) (a:Act) (w:World) (S:Nat→Prop) (β:Nat→Bk),R3 all m listed→(listed.toList.count true)+fuel=all.size→a.tmps.size=n→a.defers=[]→db w S (uB tk listed β++B)→kS w0 S0 ZG w S (uB tk listed β++B)→D9 w S (yn all pk e listed all.size) a→
   (∀ j o d,listed.getD j false=true→all[j]? =some o→pk j=none→o.dst=some d→∃ v,a.tmps[d]? =some v∧At w S (V j (β j)) v)→
   wpAny P .any all Q fuel listed a w:=by
 have XU:∀ i o,i < m→all[i]? =some o→en (i+1)=pr (en i) o.dst (pk i):=fun i o h1 h2=>(hs i o h1 h2).2.1
 have HA:∀ c i,CU all c i→c≠i:=by
  have key:∀ c i,CU all c i→i < c:=by
   intro c i h
   have one:∀ {j i:Nat} {oj:Oper},all[j]? =some oj→waits oj i=true→i < j:=by
    intro j i oj hj hw
    simp only [waits,List.any_eq_true,ac] at hw
    obtain ⟨e',he',B6,Vo⟩:=hw
    have:=Az hB hj (by simpa using he') B6
    obtain rfl:e'.on=i:=a8 Vo
    exact this
   induction h with
   | one hj hw=>exact one hj hw
   | step hj hw _ ih=>have:=one hj hw;omega
  intro c i h e;have:=key c i h;omega
 have done:∀ (fuel:Nat) (listed:Array Bool) (a:Act) (w:World) (S:Nat→Prop) (β:Nat→Bk),R3 all m listed→(listed.toList.count true)+fuel=all.size→a.tmps.size=n→a.defers=[]→db w S (uB tk listed β++B)→kS w0 S0 ZG w S (uB tk listed β++B)→D9 w S (yn all pk e listed all.size) a→
  (∀ j o d,listed.getD j false=true→all[j]? =some o→pk j=none→o.dst=some d→∃ v,a.tmps[d]? =some v∧At w S (V j (β j)) v)→
  (∀ i,i < m→listed.getD i false=true)→wpAny P .any all Q fuel listed a w:=by
  intro fuel listed a w S β L hc iV IA hr hg vD La mc
  have Ea:∀ i,m≤i→listed.getD i false=false:=fun i hi=>by
   cases hv:listed.getD i false with
   | false=>rfl
   | true=>have:=L.head i hv;omega
  have Vp:listed.toList.count true=m:=by
   have:listed.toList=d5 m true++d5 (all.size - m) false:=by
    apply cl
    intro i
    rcases bt i m with hi | hi
    ·have ru:i < listed.size:=by rw [L.size];omega
     rw [cS (by simpa using hi)]
     have:=mc i hi
     simp [ru] at this
     simp [ru,hi,this]
    ·rw [List.getElem?_append_right (by simpa using hi)]
     rcases bt i listed.size with ru | ru
     ·have:=Ea i hi
      simp [ru] at this
      have h2:i - m < all.size - m:=by rw [L.size] at ru;omega
      simp [ru,h2,this]
     ·have h2:¬ i - m < all.size - m:=by rw [L.size] at ru;omega
      simp [cm (l:=listed.toList) (by simpa using ru),h2]
   rw [this,List.count_append,cW,cW]
   simp
  have Vq:yn all pk e listed all.size=en m:=by
   have key:∀ k,k≤all.size→yn all pk e listed k=en (min k m):=by
    intro k
    induction k with
    | zero=>intro _;simp [yn,h0]
    | succ k ih=>
      intro hk
      have iv:all[k]? =some all[k]:=by simp [show k < all.size by omega]
      simp only [yn,iv,cy,ih (by omega)]
      rcases bt k m with h | h
      ·rw [if_pos (mc k h),bz (by omega),bz (by omega),XU k _ h iv]
      ·rw [if_neg (by rw [Ea k h];simp),be (by omega),be (by omega)]
   rw [key all.size (ap _),be hm]
  have X0:uB tk listed β=PC tk β:=by
   unfold uB PC
   congr 1
   apply bv
   intro t ht
   obtain ⟨q1,q2,_⟩:=hT t ht
   unfold AD
   cases hp:t.prod with
   | none=>
     cases hc:t.cons with
     | none=>rfl
     | some c=>simp [mc c (q2 c hc).1]
   | some p=>
     cases hc:t.cons with
     | none=>simp [mc p (q1 p hp)]
     | some c=>simp [mc c (q2 c hc).1]
  rw [Vq] at vD
  rw [X0] at hr hg
  exact I1 hB fuel m listed a w (ap _) (by omega) L.size mc Ea (fin β a w S iV IA hr hg vD (fun j o d hj ho qn hd=>La j o d (mc j hj) ho qn hd))
 intro fuel
 induction fuel with
 | zero=>
   intro listed a w S β L hc iV IA hr hg vD La
   refine done 0 listed a w S β L hc iV IA hr hg vD La (fun i hi=>?_)
   have I3:listed.toList.count true=listed.toList.length:=by rw [Array.length_toList,L.size];omega
   have mc:=List.count_eq_length.1 I3
   have ru:i < listed.size:=by rw [L.size];omega
   have:=mc listed[i] (by simp)
   simp [ru];exact this.symm
 | succ fuel ih=>
   intro listed a w S β L hc iV IA hr hg vD La
   by_cases mc:∀ i,i < m→listed.getD i false=true
   ·exact done _ listed a w S β L hc iV IA hr hg vD La mc
   ·refine ⟨fun NG=>(mc fun i hi=>Cd hB L.size NG i (by omega)).elim,fun i hi=>?_⟩
    obtain ⟨NF,I2⟩:=zD hi
    have zY:=DK I2
    have CW:all[i]? =some all[i]:=by simp [NF]
    have FN:i < m:=by
     rcases bt i m with h | h
     ·exact h
     ·refine (mc fun j hj=>?_).elim
      have R1:all[j]? =some all[j]:=by simp [show j < all.size by omega]
      exact nZ.ready L.closed ((mF hB CW R1 (by omega)).2 h) hi
    have ru:i < listed.size:=by rw [L.size];exact NF
    obtain ⟨aaE,_,hV⟩:=hs i _ FN CW
    obtain ⟨X,hX,rest,prd⟩:=NO hT hSf L.closed FN zY (fun j hj=>nZ.ready L.closed hj hi) (fun c h=>HA c i h) β
    obtain ⟨Uq,sN⟩:=aaE β X hX
    have u9:Hr w S (looks all all[i]) (KO (en i) (cn i β)) a:=by
     intro s R4 av qn
     rw [KO] at qn
     cases Vu:en i s with
     | none=>
       rw [Vu] at qn
       obtain ⟨k,o,k1,k2,k3,k4,k5⟩:=PG Vr hcn hm i (by omega) β s av qn
       have Ja:listed.getD k false=true:=nZ.ready L.closed ((mF hB CW k2 k1).1 FN (AA k3 R4)) hi
       rw [k5]
       exact La k o s Ja k2 k4 k3
     | some gx=>
     rw [Vu] at qn
     obtain rfl:=aa qn
     have hc:=NM (pk:=pk) (en:=en) (e:=e) hB L h0 XU hm CW FN zY (fun j hj=>nZ.ready L.closed hj hi) R4 all.size (ap _)
     rw [be (by omega)] at hc
     exact vD s gx (by rw [hc];exact Vu)
    have L':R3 all m (listed.setIfInBounds i true):=by
     refine ⟨by simpa using L.size,fun k hk=>?_,fun k j o hk iv hw=>?_⟩
     ·rw [kX ru] at hk
      split at hk
      ·omega
      ·exact L.head k hk
     ·rw [kX ru] at hk
      rw [kX ru]
      split
      ·rfl
      ·split at hk
       ·rename_i hki
        subst hki
        obtain rfl:all[k]=o:=by rw [CW] at iv;exact aa iv
        exact vN CW hi hw
       ·exact L.closed k j o hk iv hw
    have I3:(listed.setIfInBounds i true).toList.count true+fuel=all.size:=by
     have Pt:listed[i]=false:=by simpa [ru] using zY
     have:(listed.setIfInBounds i true).toList=listed.toList.set i true:=by simp
     rw [this,List.count_set (by simpa using ru)]
     have Vj:listed.toList[i]'(by simpa using ru)=false:=by simpa using Pt
     rw [Vj]
     have e1:(if (false==true)=true then 1 else 0)=0:=rfl
     have e2:(if (true==true)=true then 1 else 0)=1:=rfl
     rw [e1,e2]
     omega
    have X1:∀ T:Heap,(T++(X++rest)++B).Perm ((T++(X++B))++rest):=fun T=>by
     rw [bY,bY,bY,bY]
     exact b6 _ (b6 _ List.perm_append_comm)
    have pin:(uB tk listed β++B).Perm ((wA tk i β++(X++B))++rest):=
     (((Vt hT zY (fun j hj=>nZ.ready L.closed hj hi) β).trans (b6 _ prd)).append_right B).trans (X1 _)
    have X2:∀ b,((lJ tk i (qp β i b)++(X++B))++rest).Perm (uB tk (listed.setIfInBounds i true) (qp β i b)++B):=fun b=>
     List.Perm.symm ((((SH hT L.closed ru zY (fun c h=>HA c i h) β b).trans (b6 _ prd)).append_right B).trans (X1 _))
    have hrp:db w S ((wA tk i β++(X++B))++rest):=hr.perm pin
    have ZA:∀ v,(a.put (all[i]).dst v).tmps.size=n:=fun v=>by cases (all[i]).dst<;>simp [Act.put,iV]
    have ZB:∀ v,(a.put (all[i]).dst v).defers=[]:=fun v=>by cases (all[i]).dst<;>simp [Act.put,IA]
    have aaF:∀ {w1 w2:World} {S1 S2:Nat→Prop} {h1 h2 DX NB:Heap},kS w1 S1 h1 w2 S2 h2→h1.Perm DX→h2.Perm NB→kS w1 S1 DX w2 S2 NB:=by
     intro w1 w2 S1 S2 h1 h2 DX NB ev p1 p2
     have has:∀ {g g':Heap} {k:Nat},g.Perm g'→(Has g k↔Has g' k):=fun p=>
      ⟨fun ⟨x,hx,hb⟩=>⟨x,p.mem_iff.1 hx,hb⟩,fun ⟨x,hx,hb⟩=>⟨x,p.mem_iff.2 hx,hb⟩⟩
     exact ⟨ev.os,ev.tape,ev.output,ev.size,ev.mB,fun k hk hh=>ev.other k hk (fun hc=>hh ((has p1).1 hc)),fun k hk=>((ev.new k ((has p2).2 hk)).imp (has p1).1 id),ev.drawn⟩
    have next:∀ (b:Bk) (v:Value) (w':World) (S':Nat→Prop),kS w S (wA tk i β++(X++B)) w' S' (lJ tk i (qp β i b)++(X++B))→db w' S' (lJ tk i (qp β i b)++(X++B))→At w' S' (V i b) v→wpAny P .any all Q fuel (listed.setIfInBounds i true) (a.put (all[i]).dst v) w':=by
     intro b v w' S' SJ SK sB
     have Us:db w' S' ((lJ tk i (qp β i b)++(X++B))++rest):=hrp.frame SJ SK
     have ev2:=SJ.frame rest
     refine ih _ _ _ S' (qp β i b) L' I3 (ZA v) (ZB v) (Us.perm (X2 b)) (hg.trans (aaF ev2 pin.symm (X2 b))) ?_ ?_
     ·intro s av qn
      rw [PB (pk:=pk) (e:=e) hB L CW FN zY s all.size (ap _),if_pos (by omega)] at qn
      by_cases hd:(all[i]).dst=some s
      ·rw [hd,ov] at qn
       have OX:=Uq s hd
       exact ⟨v,by rw [hd];simp [Act.put,iV,OX],by rw [← hV av qn b];exact sB⟩
      ·rw [kY hd] at qn
       obtain ⟨u,h1,h2⟩:=vD s av qn
       refine ⟨u,?_,h2.mono SJ.mB⟩
       cases Ht:(all[i]).dst with
       | none=>simpa [Act.put] using h1
       | some d'=>
         have A2:d'≠s:=fun e=>hd (by rw [Ht,e])
         simp [Act.put,A2,h1]
     ·intro j o d hj ho qn hd
      by_cases ZH:j=i
      ·subst ZH
       rw [CW] at ho;obtain rfl:=aa ho
       have OX:=Uq d hd
       exact ⟨v,by rw [hd];simp [Act.put,iV,OX],by rw [SG];exact sB⟩
      ·have Af:listed.getD j false=true:=by rw [kX ru,if_neg ZH] at hj;exact hj
       obtain ⟨u,h1,h2⟩:=La j o d Af ho qn hd
       refine ⟨u,?_,by rw [Ms ZH];exact h2.mono SJ.mB⟩
       cases Ht:(all[i]).dst with
       | none=>simpa [Act.put] using h1
       | some d'=>
         have A2:d'≠d:=fun e=>hU j i o all[i] d (L.head j Af) FN ZH ho CW qn hd (by rw [Ht,e])
         simp [Act.put,A2,h1]
    simp only [wpOp,CW]
    rcases sN with ⟨hw,hmv⟩ | ⟨hw,qn⟩
    ·rw [if_pos (zE hw u9)]
     exact .inl (hmv w S a iV IA (hrp.sub (cp _ _)) u9 _ _ (fun b v w' S' SJ SK sB=>next b v w' S' SJ SK sB))
    ·rw [if_neg (by rw [zE hw u9];simp)]
     obtain ⟨e1,e2⟩:=qn ⟨none,0⟩
     replace e1:lJ tk i (qp β i ⟨none,0⟩)=wA tk i β:=e1
     refine next ⟨none,0⟩ _ w S (by rw [e1];exact kS.refl _ _ _) (by rw [e1];exact hrp.sub (cp _ _)) ?_
     rw [e2];exact .raw _
end order
end Go.Eng
namespace Go.Eng
open Go
variable [bN]
theorem PH {P:Program} {o:Oper} {a:Act} {K0 K G:Act→World→Prop} {Q':Exit→Act→World→Prop} (hK:∀ v w',K0 (a.put o.dst v) w'→K (a.put o.dst v) w') (hd:∀ a' w',K0 a' w'→a'.defers=[]):
 ∀ r,o.upon P a K0 (Au G) r→o.upon P a K Q' r:=by
 intro r h
 unfold Oper.upon at *
 split at h
 ·exact hK _ _ h
 ·exact hK _ _ h
 ·rename_i d w'
  have:=hd _ _ h
  cases Jb:o.dst<;>simp [Act.put,Jb] at this
 ·refine Calls.mono h ?_
  intro e w' he
  cases e with
  | returned v=>exact hK _ _ he
  | panicked c=>cases he.1
  | outgrown=>obtain ⟨a0,w0,h0⟩:=he;cases h0.1
 ·exact Rows.mono h fun v w' hv=>hK _ _ hv
 ·cases h.1
 ·exact h.elim
theorem SL {P:Program} {all:Array Oper} {o:Oper} {σ:St} {Q:St→Prop} (hg:o.guard=none) (h:ae P all [o] σ Q) {w:World} {S:Nat→Prop} {a:Act} (r:fh w S σ a) {K:Act→World→Prop} {Q':Exit→Act→World→Prop}
 (hK:∀ v w',Zt w S σ.hp Q (a.put o.dst v) w'→K (a.put o.dst v) w'):o.wp P a w K Q':=by
 have:=h w S a r
 unfold wpList at this
 rw [if_pos (by simp [Region.wanted,hg])] at this
 rcases this with h1 | ⟨_,a0,w0,h0,_⟩
 ·refine PH (G:=Zt w S σ.hp Q) (fun v w' hh=>hK v w' hh.2) (fun a' w' hh=>?_) _ h1
  obtain ⟨_,aK,S',_,hr,_⟩:=hh
  exact hr.defers
 ·cases h0
variable {P:Program} {all:Array Oper} {n:Nat} {B:Heap} {tk:List Tok}
def NQ (x:Option AV) (c:(Nat→Bk)→Env) (d:Option Nat) (V:Bk→AV) (i:Nat):(Nat→Bk)→Env:=fun β=>match x with | none=>pr (c β) d (some (V (β i))) | some _=>c β
inductive UF (P:Program) (all:Array Oper) (n:Nat) (B:Heap) (tk:List Tok) (dy:List Nat):Nat→List Oper→Env→((Nat→Bk)→Env)→List (Option AV×(Bk→AV))→Env→Prop
 | nil (i:Nat) (e:Env) (c:(Nat→Bk)→Env):UF P all n B tk dy i [] e c [] e
 | cons {i:Nat} {o:Oper} {l:List Oper} {e e':Env} {c:(Nat→Bk)→Env} {D:List (Option AV×(Bk→AV))} {x:Option AV} {V:Bk→AV} (h:∀ β,∀ X∈xF tk i β,uC P all n (X++B) o (KO e (c β)) (wA tk i β) V (fun b=>lJ tk i (qp β i b))) (hv:∀ av,x=some av→∀ b,V b=av) (hx:x=none→dy.contains i=true)
  (k:UF P all n B tk dy (i+1) l (pr e o.dst x) (NQ x c o.dst V i) D e'):UF P all n B tk dy i (o :: l) e c ((x,V) :: D) e'
def Bi (β:Nat→Bk):Nat→List Oper→List (Option AV×(Bk→AV))→List (Nat×AV)→List (Nat×AV)
 | i,o :: l,(none,V) :: D,a=>match o.dst with
   | some d=>Bi β (i+1) l D ((d,V (β i)) :: a)
   | none=>Bi β (i+1) l D a
 | i,_ :: l,(some _,_) :: D,a=>Bi β (i+1) l D a
 | _,_,_,a=>a
def AT (P:Program) (all:Array Oper) (n:Nat) (B:Heap) (tk:List Tok) (dy:List Nat) (i:Nat) (l:List Oper) (tm:List (Nat×AV)) (acc:(Nat→Bk)→List (Nat×AV)) (Q:(Nat→Bk)→List (Nat×AV)→Prop):Prop:=
 ∃ D sF,UF P all n B tk dy i l (lk tm) (fun β=>lk (acc β)) D (lk sF)∧∀ β,Q β (Bi β i l D (acc β)++sF)
section rules
variable {dy:List Nat} {i:Nat} {rest:List Oper} {tm:List (Nat×AV)} {acc:(Nat→Bk)→List (Nat×AV)} {Q:(Nat→Bk)→List (Nat×AV)→Prop} {d:Nat} {ty:TypeId} {pos:String} {af:Array Edge} {op:Op}
theorem AT.nil {F:(Nat→Bk)→List (Nat×AV)} (hF:∀ β,F β=acc β++tm) (h:∀ β,Q β (F β)):AT P all n B tk dy i [] tm acc Q:=
 ⟨[],tm,.nil _ _ _,fun β=>by rw [show Bi β i [] [] (acc β)=acc β from rfl,← hF];exact h β⟩
theorem AT.sta {o:Oper} {d:Nat} {av:AV} (hd:o.dst=some d) (h:∀ β,∀ X∈xF tk i β,uC P all n (X++B) o (KO (lk tm) (lk (acc β))) (wA tk i β) (fun _=>av) (fun b=>lJ tk i (qp β i b))) (k:AT P all n B tk dy (i+1) rest ((d,av) :: tm) acc Q):AT P all n B tk dy i (o :: rest) tm acc Q:=by
 obtain ⟨D,sF,k1,k2⟩:=k
 refine ⟨(some av,fun _=>av) :: D,sF,.cons h (fun gx e b=>aa e) (fun e=>by cases e) ?_,k2⟩
 have:pr (lk tm) o.dst (some av)=lk ((d,av) :: tm):=by
  rw [xE,hd];rfl
 rw [this];exact k1
theorem AT.dyn {o:Oper} {d:Nat} {V:Bk→AV} (hd:o.dst=some d) (wz:lk tm d=none) (Vv:dy.contains i=true) (h:∀ β,∀ X∈xF tk i β,uC P all n (X++B) o (KO (lk tm) (lk (acc β))) (wA tk i β) V (fun b=>lJ tk i (qp β i b))) (k:AT P all n B tk dy (i+1) rest tm (fun β=>(d,V (β i)) :: acc β) Q):AT P all n B tk dy i (o :: rest) tm acc Q:=by
 obtain ⟨D,sF,k1,k2⟩:=k
 refine ⟨(none,V) :: D,sF,.cons h (fun gx e b=>by cases e) (fun _=>Vv) ?_,fun β=>?_⟩
 ·have:pr (lk tm) o.dst none=lk tm:=by
   funext s
   rw [hd]
   simp only [pr]
   split
   ·rename_i e;subst e;exact wz.symm
   ·rfl
  rw [this]
  have e2:NQ none (fun β=>lk (acc β)) o.dst V i=fun β=>lk ((d,V (β i)) :: acc β):=by
   funext β
   simp only [NQ,hd]
   rw [xE];rfl
  rw [e2];exact k1
 ·have:=k2 β
  simp only [Bi,hd]
  exact this
theorem AT.sto {o:Oper} (hd:o.dst=none) (h:∀ β,∀ X∈xF tk i β,uC P all n (X++B) o (KO (lk tm) (lk (acc β))) (wA tk i β) (fun _=>.raw undef) (fun b=>lJ tk i (qp β i b))) (k:AT P all n B tk dy (i+1) rest tm acc Q):AT P all n B tk dy i (o :: rest) tm acc Q:=by
 obtain ⟨D,sF,k1,k2⟩:=k
 refine ⟨(some (.raw undef),fun _=>.raw undef) :: D,sF,.cons h (fun gx e b=>aa e) (fun e=>by cases e) ?_,k2⟩
 rw [hd];exact k1
def wB (tk:List Tok) (i j:Nat):Bool:=tk.all fun t=>(match t.prod with | some p=>al p i||aw j p | none=>true)&&(match t.cons with | some p=>al p i||aw j p | none=>true)&&((t.rds.all fun p=>al p i||aw j p)&&t.sft.all fun p=>al p i||aw j p)
theorem Jc {i j:Nat} (h:wB tk i j=true) {k:Nat} (h1:i≤k) (h2:k < j) (β:Nat→Bk):wA tk k β=[]:=by
 unfold wA
 rw [cX,cc]
 intro t ht hc
 have:=ag.1 h t ht
 rw [ac,ac] at this
 replace this:=this.1
 unfold Dq at hc
 split at hc
 ·rename_i c Gp
  obtain rfl:c=k:=a8 hc
  have:=this.2
  rw [Gp] at this
  simp at this;omega
 ·cases hc
theorem Gq {i j:Nat} (h:wB tk i j=true) {k:Nat} (h1:i≤k) (h2:k < j) (β:Nat→Bk):lJ tk k β=[]:=by
 unfold lJ
 rw [cX,cc]
 intro t ht hc
 have:=ag.1 h t ht
 rw [ac,ac] at this
 replace this:=this.1
 unfold SF at hc
 split at hc
 ·rename_i c Gp
  obtain rfl:c=k:=a8 hc
  have:=this.1
  rw [Gp] at this
  simp at this;omega
 ·cases hc
theorem PI {i j:Nat} (h:wB tk i j=true) {k:Nat} (h1:i≤k) (h2:k < j) (β:Nat→Bk):Bh tk k β=[]:=by
 unfold Bh
 rw [cX,cc]
 intro t ht hc
 have:=ag.1 h t ht
 rw [ac] at this
 have h3:=ag.1 (ce.1 this.2).1 k (by simpa [Mr] using hc)
 simp at h3;omega
theorem Gr {i j:Nat} (h:wB tk i j=true) {k:Nat} (h1:i≤k) (h2:k < j) (β:Nat→Bk):xF tk k β=[[]]:=by
 have e:tk.filter (RZ k)=[]:=by
  rw [cc]
  intro t ht hc
  have:=ag.1 h t ht
  rw [ac] at this
  have h3:=ag.1 (ce.1 this.2).2 k (by simpa [RZ] using hc)
  simp at h3;omega
 unfold xF
 rw [e,PI h h1 h2 β]
theorem Ej (e:Env) (d:Option Nat) (av:AV):pr e d (some av)=zX e d av:=by
 cases d<;>rfl
theorem Jd {o:Oper} {e:Env} {av:AV} (hd:∀ d,o.dst=some d→d < n) (hg:qY all o e true) (h:MV P all n o e B av):uC P all n B o e [] (fun _=>av) (fun _=>[]):=by
 refine ⟨hd,.inl ⟨hg,fun w S a h1 h2 h3 h4 K Q hK=>?_⟩⟩
 exact h w S a h1 h2 h3 h4 K Q (fun v w' S' UA sB=>hK ⟨none,0⟩ v w' S' (UA.evo h3.slt _) (h3.grow UA) sB)
theorem X3:∀ {l1:List Oper} {e e':Env} {i:Nat} (h:Sy P all n B l1 e e') (hn:wB tk i (i+l1.length)=true) {l2:List Oper} {c:(Nat→Bk)→Env} {D:List (Option AV×(Bk→AV))} {e2:Env},UF P all n B tk dy (i+l1.length) l2 e' c D e2→
 ∃ D1,UF P all n B tk dy i (l1++l2) e c (D1++D) e2∧D1.length=l1.length∧∀ x∈D1,x.1.isSome=true:=by
 intro l1 e e' i h
 induction h generalizing i with
 | nil e=>intro hn l2 c D e2 k;exact ⟨[],by simpa using k,rfl,by simp⟩
 | @run o l e e' av hg hm hd k ih=>
   intro hn l2 c D e2 kk
   have Je:wB tk (i+1) (i+1+l.length)=true:=by
    unfold wB at hn ⊢
    rw [ag] at hn ⊢
    intro t ht
    have:=hn t ht
    rw [ac,ac] at this ⊢
    refine ⟨⟨?_,?_⟩,?_⟩
    ·have h1:=this.1.1
     cases hp:t.prod<;>rw [hp] at h1<;>simp_all<;>omega
    ·have h1:=this.1.2
     cases hp:t.cons<;>rw [hp] at h1<;>simp_all<;>omega
    ·have h1:=this.2
     rw [ac,ag,ag] at h1 ⊢
     exact ⟨fun p hp=>by have:=h1.1 p hp;simp at this ⊢;omega,fun p hp=>by have:=h1.2 p hp;simp at this ⊢;omega⟩
   obtain ⟨D1,a1,a2,a3⟩:=ih Je (l2:=l2) (D:=D) (e2:=e2) (by rw [show i+1+l.length=i+(o :: l).length by simp;omega];exact kk)
   refine ⟨(some av,fun _=>av) :: D1,?_,by simp [a2],?_⟩
   ·refine .cons (fun β X hX=>?_) (fun gx e b=>aa e) (fun e=>by cases e) (by rw [Ej];exact a1)
    rw [Gr hn (ap _) (by simp)] at hX
    obtain rfl:=bi.1 hX
    rw [Jc hn (ap _) (by simp),show (fun b=>lJ tk i (qp β i b))=fun _=>[] from funext fun b=>Gq hn (ap _) (by simp) _]
    exact (Jd hd hg hm).up
   ·intro x hx
    rcases d6.1 hx with rfl | hx
    ·rfl
    ·exact a3 x hx
 | @pass o l e e' hg hd k ih=>
   intro hn l2 c D e2 kk
   have Je:wB tk (i+1) (i+1+l.length)=true:=by
    unfold wB at hn ⊢
    rw [ag] at hn ⊢
    intro t ht
    have:=hn t ht
    rw [ac,ac] at this ⊢
    refine ⟨⟨?_,?_⟩,?_⟩
    ·have h1:=this.1.1
     cases hp:t.prod<;>rw [hp] at h1<;>simp_all<;>omega
    ·have h1:=this.1.2
     cases hp:t.cons<;>rw [hp] at h1<;>simp_all<;>omega
    ·have h1:=this.2
     rw [ac,ag,ag] at h1 ⊢
     exact ⟨fun p hp=>by have:=h1.1 p hp;simp at this ⊢;omega,fun p hp=>by have:=h1.2 p hp;simp at this ⊢;omega⟩
   obtain ⟨D1,a1,a2,a3⟩:=ih Je (l2:=l2) (D:=D) (e2:=e2) (by rw [show i+1+l.length=i+(o :: l).length by simp;omega];exact kk)
   refine ⟨(some (.raw undef),fun _=>.raw undef) :: D1,?_,by simp [a2],?_⟩
   ·refine .cons (fun β X hX=>?_) (fun gx e b=>aa e) (fun e=>by cases e) (by rw [Ej];exact a1)
    rw [Gr hn (ap _) (by simp)] at hX
    obtain rfl:=bi.1 hX
    rw [Jc hn (ap _) (by simp),show (fun b=>lJ tk i (qp β i b))=fun _=>[] from funext fun b=>Gq hn (ap _) (by simp) _]
    exact ⟨hd,.inr ⟨hg.up,fun b=>⟨rfl,rfl⟩⟩⟩
   ·intro x hx
    rcases d6.1 hx with rfl | hx
    ·rfl
    ·exact a3 x hx
theorem Gs (β:Nat→Bk):∀ {l1:List Oper} {D1:List (Option AV×(Bk→AV))} (i:Nat) {l2:List Oper} {D:List (Option AV×(Bk→AV))} (a:List (Nat×AV)),D1.length=l1.length→(∀ x∈D1,x.1.isSome=true)→Bi β i (l1++l2) (D1++D) a=Bi β (i+l1.length) l2 D a
 | [],[],i,l2,D,a,_,_=>by simp
 | o :: l1,(some av,V) :: D1,i,l2,D,a,h,hs=>by
   simp only [bp,Bi]
   rw [Gs β (i+1) a (by simpa using h) (fun x hx=>hs x (by simp [hx]))]
   simp [d7,Nat.add_comm 1]
 | o :: l1,(none,V) :: D1,i,l2,D,a,h,hs=>by have:=hs (none,V) (by simp);cases this
 | [],_ :: _,i,l2,D,a,h,hs=>by cases h
 | _ :: _,[],i,l2,D,a,h,hs=>by cases h
theorem AT.am {l l1 l2:List Oper} (m:Nat) (hs:I4 m l=some (l1,l2)) (hn:wB tk i (i+m)=true) (h:AM P all n B l1 tm (fun sF=>AT P all n B tk dy (i+m) l2 sF acc Q)):AT P all n B tk dy i l tm acc Q:=by
 obtain ⟨rfl,rfl⟩:=zF hs
 obtain ⟨Bj,h1,D,sF,h2,h3⟩:=h
 obtain ⟨D1,a1,a2,a3⟩:=X3 h1 hn h2
 refine ⟨D1++D,sF,a1,fun β=>?_⟩
 rw [Gs β i (acc β) a2 a3]
 exact h3 β
theorem wV {o:Oper} {Ti H1:Heap} {V:Bk→AV} {Pi H2:Bk→Heap} (hg:o.guard=none) (hd:∀ d,o.dst=some d→d < n) (h1:uo Ti B=some H1) (h2:∀ b,uo (Pi b) B=some (H2 b))
 (wy:ae P all [o] ⟨n,Hu (looks all o) tm,H1⟩ (fun aK=>∃ b Bj,aK=⟨n,Bj,H2 b⟩∧∀ d,o.dst=some d→lk Bj d=some (V b)))
 (hv:o.dst=none→∀ b,V b=.raw undef):uC P all n B o (lk tm) Ti V Pi:=by
 refine ⟨hd,.inl ⟨by simp [qY,hg],fun w S a s1 s2 s3 s4 K Q hK=>?_⟩⟩
 have e1:=qQ h1
 rw [e1] at s3 hK
 refine SL hg wy (sS s1 s2 s3 s4) (fun v w' aaG=>?_)
 obtain ⟨aK,S',⟨b,Bj,rfl,SN⟩,hr,SJ⟩:=aaG
 have e2:=qQ (h2 b)
 cases Jb:o.dst with
 | some d=>
   have Uq:=hd d Jb
   obtain ⟨u,g1,g2⟩:=hr.tm d _ (SN d Jb)
   have hu:u=v:=by
    rw [Jb] at g1
    simp [Act.put,s1,Uq] at g1
    exact g1.symm
   rw [hu] at g2
   rw [← Jb]
   exact hK b v w' S' (by rw [e2];exact SJ) (by rw [e2];exact hr.hp) g2
 | none=>
   have:a.put none v=a.put o.dst undef:=by rw [Jb];rfl
   rw [this]
   exact hK b undef w' S' (by rw [e2];exact SJ) (by rw [e2];exact hr.hp) (by rw [hv Jb b];exact .raw _)
theorem AT.Bl {av:AV} {Ti H1 Pi H2:Heap} (NG:∀ β,xF tk i β=[[]]) (PJ:∀ β,wA tk i β=Ti) (NR:∀ β,lJ tk i β=Pi) (h1:uo Ti B=some H1) (h2:uo Pi B=some H2) (hn:al d n=true)
 (wy:ae P all [⟨some d,op,ty,pos,af,none⟩] ⟨n,Hu (looks all ⟨some d,op,ty,pos,af,none⟩) tm,H1⟩ (fun aK=>∃ Bj,aK=⟨n,Bj,H2⟩∧lk Bj d=some av))
 (k:AT P all n B tk dy (i+1) rest ((d,av) :: tm) acc Q):AT P all n B tk dy i (⟨some d,op,ty,pos,af,none⟩ :: rest) tm acc Q:=by
 refine AT.sta rfl (fun β X hX=>?_) k
 rw [NG β] at hX
 obtain rfl:=bi.1 hX
 rw [cf,PJ β,show (fun b=>lJ tk i (qp β i b))=fun _=>Pi from funext fun b=>NR _]
 refine uC.up ?_
 refine wV rfl (fun d' ya=>by obtain rfl:=aa ya;simpa using hn) h1 (fun _=>h2) ?_ (fun e=>by cases e)
 refine fun w S a r=>jz ?_ _ _ _ (wy w S a r)
 rintro e a' w' ⟨he,aK,S',⟨Bj,q1,q2⟩,hh⟩
 exact ⟨he,aK,S',⟨⟨none,0⟩,Bj,q1,fun d' ya=>by obtain rfl:=aa ya;exact q2⟩,hh⟩
theorem AT.Bm {V:Bk→AV} {Ti H1:Heap} {Pi H2:Bk→Heap} (NG:∀ β,xF tk i β=[[]]) (PJ:∀ β,wA tk i β=Ti) (NR:∀ β b,lJ tk i (qp β i b)=Pi b) (h1:uo Ti B=some H1) (h2:∀ b,uo (Pi b) B=some (H2 b)) (hn:al d n=true) (wz:lk tm d=none) (Vv:dy.contains i=true)
 (wy:ae P all [⟨some d,op,ty,pos,af,none⟩] ⟨n,Hu (looks all ⟨some d,op,ty,pos,af,none⟩) tm,H1⟩ (fun aK=>∃ b Bj,aK=⟨n,Bj,H2 b⟩∧lk Bj d=some (V b)))
 (k:AT P all n B tk dy (i+1) rest tm (fun β=>(d,V (β i)) :: acc β) Q):AT P all n B tk dy i (⟨some d,op,ty,pos,af,none⟩ :: rest) tm acc Q:=by
 refine AT.dyn rfl wz Vv (fun β X hX=>?_) k
 rw [NG β] at hX
 obtain rfl:=bi.1 hX
 rw [cf,PJ β,show (fun b=>lJ tk i (qp β i b))=Pi from funext (NR β)]
 refine uC.up ?_
 refine wV rfl (fun d' ya=>by obtain rfl:=aa ya;simpa using hn) h1 h2 ?_ (fun e=>by cases e)
 refine fun w S a r=>jz ?_ _ _ _ (wy w S a r)
 rintro e a' w' ⟨he,aK,S',⟨b,Bj,q1,q2⟩,hh⟩
 exact ⟨he,aK,S',⟨b,Bj,q1,fun d' ya=>by obtain rfl:=aa ya;exact q2⟩,hh⟩
theorem AT.HB {Ti H1 Pi H2:Heap} (NG:∀ β,xF tk i β=[[]]) (PJ:∀ β,wA tk i β=Ti) (NR:∀ β,lJ tk i β=Pi) (h1:uo Ti B=some H1) (h2:uo Pi B=some H2)
 (wy:ae P all [⟨none,op,ty,pos,af,none⟩] ⟨n,Hu (looks all ⟨none,op,ty,pos,af,none⟩) tm,H1⟩ (fun aK=>∃ Bj,aK=⟨n,Bj,H2⟩))
 (k:AT P all n B tk dy (i+1) rest tm acc Q):AT P all n B tk dy i (⟨none,op,ty,pos,af,none⟩ :: rest) tm acc Q:=by
 refine AT.sto rfl (fun β X hX=>?_) k
 rw [NG β] at hX
 obtain rfl:=bi.1 hX
 rw [cf,PJ β,show (fun b=>lJ tk i (qp β i b))=fun _=>Pi from funext fun b=>NR _]
 refine uC.up ?_
 refine wV rfl (fun d' ya=>by cases ya) h1 (fun _=>h2) ?_ (fun _ b=>rfl)
 refine fun w S a r=>jz ?_ _ _ _ (wy w S a r)
 rintro e a' w' ⟨he,aK,S',⟨Bj,q1⟩,hh⟩
 exact ⟨he,aK,S',⟨⟨none,0⟩,Bj,q1,fun d' ya=>by cases ya⟩,hh⟩
theorem Gt (a b:List (Nat×AV)):lk (a++b)=KO (lk a) (lk b):=by
 funext s
 induction a with
 | nil=>rfl
 | cons x a ih=>
   obtain ⟨k,v⟩:=x
   simp only [bp,lk,KO] at ih ⊢
   split
   ·rfl
   ·exact ih
theorem AT.runN {Ti H1 Pi H2:(Nat→Bk)→Heap} (NG:∀ β,xF tk i β=[[]]) (PJ:∀ β,wA tk i β=Ti β) (NR:∀ β b,lJ tk i (qp β i b)=Pi β) (h1:∀ β,uo (Ti β) B=some (H1 β)) (h2:∀ β,uo (Pi β) B=some (H2 β))
 (wy:∀ β,ae P all [⟨none,op,ty,pos,af,none⟩] ⟨n,Hu (looks all ⟨none,op,ty,pos,af,none⟩) (tm++acc β),H1 β⟩ (fun aK=>∃ Bj,aK=⟨n,Bj,H2 β⟩))
 (k:AT P all n B tk dy (i+1) rest tm acc Q):AT P all n B tk dy i (⟨none,op,ty,pos,af,none⟩ :: rest) tm acc Q:=by
 refine AT.sto rfl (fun β X hX=>?_) k
 rw [NG β] at hX
 obtain rfl:=bi.1 hX
 rw [cf,PJ β,show (fun b=>lJ tk i (qp β i b))=fun _=>Pi β from funext (NR β),← Gt]
 refine wV rfl (fun d' ya=>by cases ya) (h1 β) (fun _=>h2 β) ?_ (fun _ b=>rfl)
 refine fun w S a r=>jz ?_ _ _ _ (wy β w S a r)
 rintro e a' w' ⟨he,aK,S',⟨Bj,q1⟩,hh⟩
 exact ⟨he,aK,S',⟨⟨none,0⟩,Bj,q1,fun d' ya=>by cases ya⟩,hh⟩
theorem AT.rd {av:AV} {Rs H1:Heap} (hr:∀ β,xF tk i β=[Rs]) (h1:uo Rs B=some H1) (PJ:∀ β,wA tk i β=[]) (NR:∀ β,lJ tk i β=[])
 (q:QV P ⟨some d,op,ty,pos,af,none⟩ ⟨n,Hu (looks all ⟨some d,op,ty,pos,af,none⟩) tm,H1⟩ av) (hn:al d n=true)
 (k:AT P all n B tk dy (i+1) rest ((d,av) :: tm) acc Q):AT P all n B tk dy i (⟨some d,op,ty,pos,af,none⟩ :: rest) tm acc Q:=by
 refine AT.sta rfl (fun β X hX=>?_) k
 rw [hr β] at hX
 obtain rfl:=bi.1 hX
 rw [qQ h1,PJ β,show (fun b=>lJ tk i (qp β i b))=fun _=>[] from funext fun b=>NR _]
 refine uC.up ?_
 refine Jd (fun d' ya=>by obtain rfl:=aa ya;simpa using hn) rfl (fun w S a s1 s2 s3 s4 K Q' hK=>?_)
 obtain ⟨v,g1,g2⟩:=q w S a (sS s1 s2 s3 s4)
 show Oper.upon P _ a K Q' _
 rw [g1 w (Ext.refl w)]
 exact hK v w S (Grow.refl s3.slt) g2
end rules
end Go.Eng
namespace Go.Eng
open Go
variable [bN]
theorem UF.K5 {P:Program} {all:Array Oper} {n:Nat} {B:Heap} {tk:List Tok} {dy:List Nat} {i:Nat} {l:List Oper} {e e':Env} {c:(Nat→Bk)→Env} {D:List (Option AV×(Bk→AV))} (h:UF P all n B tk dy i l e c D e'):
 ∃ (en:Nat→Env) (cn:Nat→(Nat→Bk)→Env),en i=e∧cn i=c∧en (i+l.length)=e'∧D.length=l.length∧∀ j o x V,l[j]? =some o→D[j]? =some (x,V)→
   (∀ β,∀ X∈xF tk (i+j) β,uC P all n (X++B) o (KO (en (i+j)) (cn (i+j) β)) (wA tk (i+j) β) V (fun b=>lJ tk (i+j) (qp β (i+j) b)))∧en (i+j+1)=pr (en (i+j)) o.dst x∧(∀ av,x=some av→∀ b,V b=av)∧(x=none→dy.contains (i+j)=true)∧cn (i+j+1)=NQ x (cn (i+j)) o.dst V (i+j):=by
 induction h with
 | nil i e c=>exact ⟨fun _=>e,fun _=>c,rfl,rfl,rfl,rfl,fun j o x V h=>by simp at h⟩
 | @cons i o l e e' c D x V h hv hx k ih=>
   obtain ⟨en,cn,h0,Vr,h1,h2,h3⟩:=ih
   refine ⟨fun k=>if k=i then e else en k,fun k=>if k=i then c else cn k,by simp,by simp,?_,by simp [h2],fun j o' x' V' ho hD=>?_⟩
   ·show (if i+(o :: l).length=i then e else en (i+(o :: l).length))=e'
    rw [if_neg (by simp),← h1]
    congr 1
    simp;omega
   ·match j with
    | 0=>
      simp at ho hD
      obtain ⟨rfl,rfl⟩:=hD
      subst ho
      simp only [c7,if_true]
      refine ⟨h,?_,hv,hx,?_⟩
      ·rw [if_neg (by omega),h0]
      ·rw [if_neg (by omega),Vr]
    | j+1=>
      have:=h3 j o' x' V' (by simpa using ho) (by simpa using hD)
      rw [show i+1+j=i+(j+1) by omega] at this
      simp only
      rw [if_neg (show ¬ i+(j+1)=i by omega),if_neg (show ¬ i+(j+1)+1=i by omega),if_neg (show ¬ i+(j+1)=i by omega),if_neg (show ¬ i+(j+1)+1=i by omega)]
      exact this
def UG (l:List Oper) (dy:List Nat):Bool:=dy.all fun i=>(List.range l.length).all fun j=>ai i j||(match l[i]?,l[j]? with
 | some oi,some oj=>(match oi.dst,oj.dst with | some d,some d'=>!Nat.beq d d' | _,_=>true)
 | _,_=>true)
theorem Lb {l:List Oper} {dy:List Nat} (h:UG l dy=true) {i j:Nat} {oi oj:Oper} {d:Nat} (hi:dy.contains i=true) (zC:i≠j) (h1:l[i]? =some oi) (h2:l[j]? =some oj) (hd:oi.dst=some d):oj.dst≠some d:=by
 intro ya
 have hm:i∈dy:=by simpa using hi
 have hj:j < l.length:=(aI.1 h2).1
 have:=ag.1 (ag.1 h i hm) j (dQ.2 hj)
 rw [h1,h2] at this
 simp only [hd,ya] at this
 have hb:ai i j=false:=tx zC
 rw [hb] at this
 simp at this
def PK (tk:List Tok):Heap:=(tk.filter (fun t=>t.prod.isNone)).map (fun t=>t.at (fun _=>⟨none,0⟩))
theorem PL:∀ (a b:List (Nat×AV)) (s:Nat) (av:AV),lk (a++b) s=some av→lk a s=some av∨lk b s=some av
 | [],b,s,av,h=>.inr h
 | (k,v) :: a,b,s,av,h=>by
   simp only [bp,lk] at h ⊢
   split at h
   ·exact .inl h
   ·exact PL a b s av h
theorem Bn (β:Nat→Bk):∀ (l:List Oper) (D:List (Option AV×(Bk→AV))) (i:Nat) (a:List (Nat×AV)) (s:Nat) (av:AV),lk (Bi β i l D a) s=some av→lk a s=some av∨∃ (j:Nat) (o:Oper) (V:Bk→AV),l[j]? =some o∧D[j]? =some (none,V)∧o.dst=some s∧av=V (β (i+j))
 | [],D,i,a,s,av,h=>by
   have:Bi β i [] D a=a:=by cases D<;>rfl
   rw [this] at h;exact .inl h
 | o :: l,[],i,a,s,av,h=>.inl h
 | o :: l,(some x,V) :: D,i,a,s,av,h=>by
   simp only [Bi] at h
   rcases Bn β l D (i+1) a s av h with h | ⟨j,o',V',h1,h2,h3,h4⟩
   ·exact .inl h
   ·exact .inr ⟨j+1,o',V',by simpa using h1,by simpa using h2,h3,by rw [h4];congr 2;omega⟩
 | o :: l,(none,V) :: D,i,a,s,av,h=>by
   simp only [Bi] at h
   cases hd:o.dst with
   | none=>
     rw [hd] at h
     rcases Bn β l D (i+1) a s av h with h | ⟨j,o',V',h1,h2,h3,h4⟩
     ·exact .inl h
     ·exact .inr ⟨j+1,o',V',by simpa using h1,by simpa using h2,h3,by rw [h4];congr 2;omega⟩
   | some d=>
     rw [hd] at h
     rcases Bn β l D (i+1) _ s av h with h5 | ⟨j,o',V',h1,h2,h3,h4⟩
     ·simp only [lk] at h5
      split at h5
      ·rename_i hb
       obtain rfl:d=s:=by simpa using hb
       exact .inr ⟨0,o,V,rfl,rfl,hd,by simpa using (aa h5).symm⟩
      ·exact .inl h5
     ·exact .inr ⟨j+1,o',V',by simpa using h1,by simpa using h2,h3,by rw [h4];congr 2;omega⟩
theorem ab.jN {P:Program} {R:St→Prop} {k:List It} {id n:Nat} {tm:List (Nat×AV)} {hp:Heap} {l hd tl:List Oper} (m:Nat) (hm:P.follows .mixedOrders=true) (hs:I4 m l=some (hd,tl)) {A:List Nat} (hA:ND l.toArray=A) (hB0:I0 l.toArray m A=true)
 (tk:List Tok) (dy:List Nat) (X4:(XZ A m tk&&UE A m tk)=true) (hU0:UG hd dy=true) {B H0:Heap} (FJ:PK tk=H0) (aaH:IC hp H0 B) {HH:(Nat→Bk)→Heap} (PM:∀ β,uo (PC tk β) B=some (HH β))
 (h:AT P l.toArray n B tk dy 0 hd tm (fun _=>[]) (fun β sF=>ae P l.toArray tl ⟨n,sF,HH β⟩ (ab P R k))):ab P R (.code (.region id l.toArray true) :: k) ⟨n,tm,hp⟩:=by
 have hB:x9 l.toArray m:=⟨A,hA,hB0⟩
 have hT:Ei l.toArray m tk:=NN hA (ce.1 X4).1
 intro w S a r
 obtain ⟨hl,SD⟩:=zF hs
 obtain ⟨D,sF,hAf,wy⟩:=h
 obtain ⟨en,cn,e0,ec0,e1,e2,e3⟩:=hAf.K5
 rw [bo,SD] at e1
 have iV:m≤l.toArray.size:=by simp [hl,SD]
 let pk:Nat→Option AV:=fun j=>(D[j]?).bind (·.1)
 let V:Nat→Bk→AV:=fun j=>match D[j]? with | some x=>x.2 | none=>fun _=>.nil
 have HC:∀ j o,j < m→l.toArray[j]? =some o→hd[j]? =some o:=by
  intro j o hj ho
  have:l[j]? =some o:=by simpa using ho
  rw [hl,cS (by omega)] at this
  exact this
 have hD:∀ j,j < m→∃ x W,D[j]? =some (x,W)∧pk j=x∧V j=W:=by
  intro j hj
  have:j < D.length:=by rw [e2,SD];exact hj
  refine ⟨D[j].1,D[j].2,by simp [this],?_,?_⟩
  ·simp [pk,this]
  ·simp [V,this]
 refine wp_region_any hm ?_
 have Eb:Ext w {w with drawn:=w.drawn+1}:=Ext.Mh w _ (Nat.le_succ _)
 let ZJ:Nat→Bk:=fun _=>⟨none,0⟩
 have hf:∀ k,(bm l.toArray.size false).getD k false=false:=by
  intro k
  rcases bt k l.toArray.size with h | h
  ·simp at h;simp [h]
  ·simp at h;simp [Nat.not_lt.2 h]
 have Vr:∀ k,yn l.toArray pk (lk tm) (bm l.toArray.size false) k=lk tm:=by
  intro k
  induction k with
  | zero=>rfl
  | succ k ih=>simp only [yn,ih];rw [if_neg (by rw [hf k];simp)]
 have Uy:uB tk (bm l.toArray.size false) ZJ=H0:=by
  rw [← FJ]
  unfold uB PK
  have e:tk.filter (AD (bm l.toArray.size false))=tk.filter (fun t=>t.prod.isNone):=by
   apply bv
   intro t ht
   unfold AD
   cases t.prod with
   | none=>
     cases t.cons with
     | none=>rfl
     | some c=>simp only [hf c,cb,Bool.and_self,d8]
   | some p=>simp only [hf p,Bool.false_and,d8]
  rw [e]
 have mW:=aaH.perm
 have hr0:db {w with drawn:=w.drawn+1} S (uB tk (bm l.toArray.size false) ZJ++B):=by
  rw [Uy];exact (r.hp.ext Eb).perm mW
 have ev0:kS w S hp {w with drawn:=w.drawn+1} S (uB tk (bm l.toArray.size false) ZJ++B):=by
  rw [Uy]
  have:=kS.ext (h:=hp) r.hp.slt Eb
  exact {this with new:=fun k hk=>this.new k (by
   obtain ⟨x,hx,hb⟩:=hk
   exact ⟨x,mW.mem_iff.2 hx,hb⟩)}
 refine NP (P:=P) (all:=l.toArray) (n:=n) (m:=m) (pk:=pk) (en:=en) (cn:=cn) (e:=lk tm) (V:=V) (B:=B) (tk:=tk) hB hT (K9 hA (ce.1 X4).2) iV e0 (fun β s=>by rw [ec0];rfl) ?_ ?_ ?_ (w0:=w) (S0:=S) (ZG:=hp) ?_ l.toArray.size (bm l.toArray.size false) a _ S ZJ
  ⟨by simp,(fun k hk=>by rw [hf k] at hk;cases hk),(fun k i o hk=>by rw [hf k] at hk;cases hk)⟩ (by simp [cW]) r.size r.defers hr0 ev0 (by rw [Vr];exact (r.ext Eb).tm) (fun j o d hj=>by rw [hf j] at hj;cases hj)
 ·intro i o hi ho β
  obtain ⟨x,W,d1,d2,d3⟩:=hD i hi
  have:=e3 i o x W (HC i o hi ho) d1
  rw [bo] at this
  rw [d2,d3,this.2.2.2.2];rfl
 ·intro i o hi ho
  obtain ⟨x,W,d1,d2,d3⟩:=hD i hi
  have:=e3 i o x W (HC i o hi ho) d1
  rw [bo] at this
  rw [d2,d3]
  exact ⟨this.1,this.2.1,this.2.2.1⟩
 ·intro i j oi oj d hi hj zC CW R1 qn Ht
  obtain ⟨x,W,d1,d2,d3⟩:=hD i hi
  have:=e3 i oi x W (HC i oi hi CW) d1
  rw [bo] at this
  exact Lb hU0 (this.2.2.2.1 (by rw [← d2];exact qn)) zC (HC i oi hi CW) (HC j oj hj R1) Ht
 ·intro β a' w' S' h1 h2 h3 h4 h5 h6
  have XV:l.toArray.toList.drop m=tl:=by
   simp only [hl,← SD]
   exact List.drop_left
  rw [XV]
  rw [qQ (PM β)] at h3 h4
  rw [e1] at h5
  refine jz ?_ _ _ _ ((wy β).go (h:=hp) (w:=w) (S:=S) ⟨h1,h2,fun s av SN=>?_,h3⟩ h4)
  ·rintro ex a2 w2 ⟨rfl,Mj,S2,q1,q2,q3⟩
   exact ⟨Mj,S2,q1,q2,q3⟩
  ·rcases PL _ _ _ _ SN with SN | SN
   ·rcases Bn β hd D 0 [] s av SN with SN | ⟨j,o,W,g1,g2,g3,g4⟩
    ·cases SN
    ·have hj:j < m:=by rw [← SD];exact (aI.1 g1).1
     obtain ⟨x,W',d1,d2,d3⟩:=hD j hj
     rw [g2] at d1
     obtain ⟨rfl,rfl⟩:=Prod.mk.inj (aa d1)
     have R1:l.toArray[j]? =some o:=by
      have:l[j]? =some o:=by rw [hl,cS (by omega)];exact g1
      simpa using this
     obtain ⟨v,k1,k2⟩:=h6 j o s hj R1 d2 g3
     rw [d3] at k2
     rw [g4,bo]
     exact ⟨v,k1,k2⟩
   ·exact h5 s av SN
def PN {α:Type}:List α→List α→Option (List α)
 | [],r=>some r
 | x :: l,r=>match PN l r with
   | some m=>some (x :: m)
   | none=>none
theorem Mt {α:Type}:∀ {l r m:List α},PN l r=some m→l++r=m
 | [],r,m,h=>by simpa [PN] using h
 | x :: l,r,m,h=>by
   simp only [PN] at h
   split at h
   ·rename_i m' hm
    obtain rfl:=aa h
    rw [bp,Mt hm]
   ·cases h
theorem AT.wW {P:Program} {all:Array Oper} {n:Nat} {B:Heap} {tk:List Tok} {dy:List Nat} {i:Nat} {tm:List (Nat×AV)} {acc F:(Nat→Bk)→List (Nat×AV)} {Q:(Nat→Bk)→List (Nat×AV)→Prop} (hF:∀ β,PN (acc β) tm=some (F β)) (h:∀ β,Q β (F β)):AT P all n B tk dy i [] tm acc Q:=
 AT.nil (fun β=>(Mt (hF β)).symm) h
theorem Gu {w:World} {S:Nat→Prop} {hp cL:Heap} {b:Bk} {cs lF:List AV} (r:db w S hp) (u:na hp b (.cells cs) b (.cells lF) cL) (hl:lF.length=cs.length) (h1:∀ c∈lF,c.one=true) (sB:∀ (i:Nat) c c' v,cs[i]? =some c→lF[i]? =some c'→At w S c v→At w S c' v):db w S cL∧kS w S hp w S cL:=by
 obtain ⟨pre,post,e1,e2⟩:=u.split
 subst e1;subst e2
 have hblk:∀ n,Has (pre++(b,Ob.cells lF) :: post) n↔Has (pre++(b,Ob.cells cs) :: post) n:=by
  intro n
  constructor<;>rintro ⟨x,hx,hb⟩<;>rcases bE.1 hx with rfl | hx
  ·exact ⟨(b,.cells cs),bE.2 (.inl rfl),hb⟩
  ·exact ⟨x,bE.2 (.inr hx),hb⟩
  ·exact ⟨(b,.cells lF),bE.2 (.inl rfl),hb⟩
  ·exact ⟨x,bE.2 (.inr hx),hb⟩
 refine ⟨⟨?_,?_,?_,r.slt,r.gz⟩,⟨rfl,rfl,rfl,ap _,fun n hn=>⟨hn,rfl⟩,fun n _ _=>⟨rfl,id⟩,fun n hn=>.inl ((hblk n).1 hn),fun _=>ap _⟩⟩
 ·have:=r.nodup
  simpa [List.flatMap_append,List.flatMap_cons,eb,Ob.more] using this
 ·intro x hx
  rcases bE.1 hx with rfl | hx
  ·obtain ⟨h0,n,vs,E,g1,g2,g3,g4⟩:=r.holds (b,.cells cs) (bE.2 (.inl rfl))
   refine ⟨h1,n,vs,E,g1,g2,by rw [hl];exact g3,fun i c v hc hv=>?_⟩
   have hi:i < cs.length:=by rw [← hl];exact (aI.1 hc).1
   have R6:cs[i]? =some cs[i]:=by simp [hi]
   exact sB i cs[i] c v R6 hc (g4 i _ v R6 hv)
  ·exact r.holds x (bE.2 (.inr hx))
 ·intro x hx n hn
  rcases bE.1 hx with rfl | hx
  ·have:=r.sep (b,.cells cs) (bE.2 (.inl rfl)) n hn
   exact ⟨fun h=>(this.1 h).elim,fun h=>h.elim⟩
  ·exact r.sep x (bE.2 (.inr hx)) n hn
theorem aj.UH {n j:Nat} {tm:List (Nat×AV)} {hp cL:Heap} {T:St→Prop} {b:Bk} {cs lF:List AV} {av gx:AV} (u:na hp b (.cells cs) b (.cells lF) cL) (hj:cs[j]? =some av) (c:Co hp av gx) (hc:rU (cs.set j gx)=some lF) (h1:kr lF=true) (k:aj ⟨n,tm,cL⟩ T):aj ⟨n,tm,hp⟩ T:=by
 refine aj.step (A3:=⟨n,tm,cL⟩) (fun w S a r=>?_) k
 have e:=mb hc
 obtain ⟨g1,g2⟩:=Gu r.hp u (by rw [← e];simp) (ey h1) (fun i c1 c2 v KP PQ sB=>by
  rw [← e] at PQ
  by_cases zC:j=i
  ·subst zC
   rw [b8 (aI.1 hj).1] at PQ
   obtain rfl:=aa PQ
   rw [hj] at KP
   obtain rfl:=aa KP
   exact c.at r.hp sB
  ·rw [cv zC,KP] at PQ
   obtain rfl:=aa PQ
   exact sB)
 exact ⟨_,S,rfl,⟨r.size,r.defers,r.tm,g1⟩,g2⟩
theorem aj.HD {n j:Nat} {tm:List (Nat×AV)} {hp cL:Heap} {T:St→Prop} {b:Bk} {cs lF:List AV} (sz:Nat) (u:na hp b (.cells cs) b (.cells lF) cL) (hj:cs[j]? =some .nil) (hc:rU (cs.set j (.list sz []))=some lF) (h1:kr lF=true) (k:aj ⟨n,tm,cL⟩ T):aj ⟨n,tm,hp⟩ T:=
 aj.UH u hj (.nil sz) hc h1 k
theorem aj.Lc {n j:Nat} {tm:List (Nat×AV)} {hp:Heap} {cL:Bk→Heap} {T:St→Prop} {b:Bk} {cs:List AV} {lF:Bk→List AV} (sz:Nat) (u:∀ q,na hp b (.cells cs) b (.cells (lF q)) (cL q)) (hj:cs[j]? =some .nil) (hc:∀ q,rU (cs.set j (.sl sz q 0 0))=some (lF q)) (h1:∀ q,kr (lF q)=true)
 (k:∀ q,aj ⟨n,tm,(q,.arr sz []) :: cL q⟩ T):aj ⟨n,tm,hp⟩ T:=by
 refine aj.step (A3:=⟨n,tm,(⟨none,0⟩,.arr sz []) :: cL ⟨none,0⟩⟩) (fun w S a r=>?_) (k ⟨none,0⟩)
 have e:=mb (hc ⟨none,0⟩)
 obtain ⟨g1,g2⟩:=Gu r.hp (u ⟨none,0⟩) (by rw [← e];simp) (ey (h1 _)) (fun i c1 c2 v KP PQ sB=>by
  rw [← e] at PQ
  by_cases zC:j=i
  ·subst zC
   rw [b8 (aI.1 hj).1] at PQ
   obtain rfl:=aa PQ
   rw [hj] at KP
   obtain rfl:=aa KP
   cases sB
   exact .Ba sz _ rfl
  ·rw [cv zC,KP] at PQ
   obtain rfl:=aa PQ
   exact sB)
 obtain ⟨q1,q2,q3⟩:=pP (b:=⟨none,0⟩) (o:=.arr sz []) g1 (Ext.refl w) id ⟨by simp,by simp,.inl ⟨rfl,rfl⟩⟩ (.inl rfl)
 exact ⟨_,S,rfl,⟨r.size,r.defers,r.tm,q1⟩,g2.trans q2⟩
section rules
variable {P:Program} {all:Array Oper} {rest:List Oper} {n:Nat} {tm:List (Nat×AV)} {hp:Heap} {Q:St→Prop} {d:Nat} {ty:TypeId} {pos:String} {af:Array Edge}
theorem Ce {t:TypeId} {D:TypeDesc} {i:TypeInfo} {x:Operand} {b:Bk} {sz q o:Nat} {xs lF:List AV} {el:AV} [aB P t D] [aX P t i] (hD:TypeDesc.jA D=true) (hx:de tm x=some (.sQ sz b q o)) (f:mD hp b (.arr sz xs)∨mD hp b (.Bb sz xs))
 (hq:xs[q]? =some el) (ho:aw (o+i.size) el.cells.length=true) (xx:rU ((el.cells.drop o).take i.size)=some lF):QV P ⟨some d,.load t x,ty,pos,af,none⟩ ⟨n,tm,hp⟩ (.agg lF):=
 (fun w S a r=>by
  have Hq:=mb xx
  have ho:=bw ho
  obtain ⟨m,h1,h2⟩:=(bj (σ:=⟨n,tm,hp⟩) r hx).wM
  obtain ⟨g0,g1,⟨g2,_⟩ | ⟨m',vs,E,g2,g3,g4,g5⟩⟩:=rn r.hp f
  ·rw [g2] at h1;cases h1
  ·obtain rfl:m'=m:=by rw [g2] at h1;exact aa h1
   have x7:=g0 el (c6 hq)
   have Ag:el.cells.length=sz:=x7.1
   have hqx:q < xs.length:=(aI.1 hq).1
   have hmul:(q+1) * sz≤b.cap * sz:=ci _ (by omega)
   rw [Nat.add_mul,Nat.one_mul] at hmul
   have hlen:((vs.toList.drop (q * sz+o)).take i.size).length=i.size:=by simp;omega
   refine ⟨.agg ((vs.toList.drop (q * sz+o)).take i.size).toArray,fun w1 ex=>?_,.agg _ _ (by rw [← Hq];simp;omega) (fun j c v hc hv=>?_)⟩
   ·have:=jW (P:=P) (aB.h (P:=P) (t:=t)) hD (aX.h (P:=P) (t:=t)) (w:=w1) (ad:=⟨m',q * sz+o,none⟩) (vs:=(vs.toList.drop (q * sz+o)).take i.size) hlen (fun j v hv=>by
     rw [nX,nY (ex.at g3)]
     simp only [bs,bx] at hv
     split at hv
     ·simpa using hv
     ·cases hv)
    simp [execOp,h2,Instr.loadAt,Instr.sureAddr,this]
   ·simp only [List.getElem?_toArray,bs,bx] at hv
    split at hv
    ·rename_i iW
     rw [← Hq,bs,if_pos iW,bx] at hc
     have hf:=qm g0 hq (o+j) (by omega)
     rw [hc] at hf
     exact g5 _ c v hf (by rw [← d7];simpa using hv)
    ·cases hv)
theorem sT {α:Type} {g:α→AV} {Xs:List α} {el:α} {j:Int} {t:TypeId} {D:TypeDesc} {i:TypeInfo} {x:Operand} {b:Bk} {sz o:Nat} {lF:List AV} [aB P t D] [aX P t i] (hD:TypeDesc.jA D=true) (hx:de tm x=some (.sQ sz b j.toNat o)) (f:mD hp b (.arr sz (Xs.map g))∨mD hp b (.Bb sz (Xs.map g)))
 (hv:idx Xs j=some el) (ho:aw (o+i.size) (g el).cells.length=true) (xx:rU (((g el).cells.drop o).take i.size)=some lF):QV P ⟨some d,.load t x,ty,pos,af,none⟩ ⟨n,tm,hp⟩ (.agg lF):=
 Ce hD hx f (pR hv) ho xx
theorem HE {t e yt:TypeId} {x y:Operand} {sz:Nat} {xs:List AV} [aB P t (.slice e)] (hx:de tm x=some (.list sz xs)) (hy:de tm y=some .nil) (h0:al 0 sz=true) (hn:al d n=true)
 (kk:∀ c:Bool,(c=true→xs=[])→ae P all rest ⟨n,(d,.bool c) :: tm,hp⟩ Q):ae P all (⟨some d,.binOp .eql t x y yt,ty,pos,af,none⟩ :: rest) ⟨n,tm,hp⟩ Q:=by
 refine ae.IJ rfl fun w S a r=>?_
 obtain ⟨oa,cap,vs,e1,e2,e3,e4,e5,e6⟩:=(bj (σ:=⟨n,tm,hp⟩) r hx).yI
 have e7:=(bj (σ:=⟨n,tm,hp⟩) r hy).DH
 refine ⟨.bool oa.isNone,w,S,⟨n,(d,.bool oa.isNone) :: tm,hp⟩,?_,r.put hn (.bool _),kS.refl _ _ _,kk _ (fun hc=>?_)⟩
 ·have h2:(Op.equal t (.slice oa xs.length cap) (.slice none 0 0)).run P w=.ok oa.isNone w:=by
   show (Op.equalIn (9999+1) t _ _).run P w=_
   rw [Op.equalIn]
   cases oa with
   | none=>simp [run_underlying (aB.h (P:=P) (t:=t))]
   | some ad=>simp [run_underlying (aB.h (P:=P) (t:=t))]
  have h3:(binOp .eql t (.slice oa xs.length cap) (.slice none 0 0)).run P w=.ok (.bool oa.isNone) w:=by
   rw [show binOp .eql t (.slice oa xs.length cap) (.slice none 0 0)=(do pure (.bool (← Op.equal t (.slice oa xs.length cap) (.slice none 0 0)))) from rfl]
   simp [h2]
  simp [execOp,e1,e7,eqGuard_at_slice,h3]
 ·have Vw:oa=none:=by simpa using hc
  have SO:vs=[]:=by
   cases vs with
   | nil=>rfl
   | cons v vs=>
     obtain ⟨ad,h1,_⟩:=e5 0 v rfl
     rw [Vw] at h1;cases h1
  rw [SO,cN e2] at e3
  have h0':0 < sz:=by simpa using h0
  have:xs.length=0:=by
   rcases Nat.eq_zero_or_pos xs.length with h | h
   ·exact h
   ·have:=Nat.mul_pos h h0';simp at e3;omega
  exact List.length_eq_zero_iff.1 this
end rules
theorem xH {α:Type} {p r:List α} (h:app [] p=some r) (hp:p=[]):r=[]:=by
 subst hp
 obtain ⟨_,e⟩:=Ed h
 simpa using e
end Go.Eng
