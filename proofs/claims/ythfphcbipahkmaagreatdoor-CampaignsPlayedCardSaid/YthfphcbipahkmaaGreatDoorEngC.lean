/- The engine: abstract values, the symbolic heap, one rule for each operation. No program in sight. -/
import Derived.Test.YthfphcbipahkmaaGreatDoorEngB
import Derived.Laws.StructEq
import Derived.Below
open Array renaming replicate→bm
open BitVec renaming ofInt→dd
open Bool renaming and_eq_true→ac,true_and→b9,not_false→cb,and_eq_true_iff→ce,false_eq_true→cy,eq_iff_iff→db,not_eq_true'→dY,and_true→d4
open List renaming all_eq_true→ag,getElem?_eq_some_iff→aH,mem_singleton→bi,cons_append→bp,getElem?_take→bs,filter_congr→bx,getElem?_drop→bO,append_assoc→bX,map_append→b4,mem_filter→b5,Perm.append_left→b6,getElem?_map→b7,getElem?_set_self→b8,filter_eq_nil_iff→cc,nil_append→cf,ext_getElem?→ck,getElem?_eq_none→cl,sublist_append_left→cm,getElem?_set_ne→cp,perm_middle→cz,Perm.map→cA,getElem?_append_left→cJ,count_replicate→cK,map_eq_nil_iff→c6,mem_of_getElem?→c7,drop_drop→da,map_cons→dk,mem_map→dl,mem_range→dV,Perm.cons→d0,replicate→d5,mem_cons→d6
open Nat renaming beq→ai,blt→al,le_refl→ap,ble→aw,eq_of_beq_eq_true→bc,min_eq_right→be,zero_add→bo,lt_or_ge→bv,le_of_ble_eq_true→bz,min_eq_left→bW,mul_le_mul_right→ci,add_zero→c8,sub_add_cancel→dg,lt_trichotomy→dn,add_assoc→d7
open Option renaming some.inj→aa,bind_some→cv,isNone→d8
set_option linter.unusedVariables false
set_option linter.unusedSectionVars false
namespace Go.Eng
open Go
variable [bU]
abbrev bj:=List UInt8
def Ky {α:Type} (sz:Nat) (g:α→AV) (l:List α):AV:=.list sz (l.map g)
section rules
variable {P:Program} {all:Array Oper} {rest:List Oper} {n:Nat} {tm:List (Nat×AV)} {hp:Heap} {Q:St→Prop} {d:Nat} {ty:TypeId} {pos:String} {af:Array Edge}
theorem MX {α:Type} {g:α→AV} {Ys Zs:List α} {t e:TypeId} {i:TypeInfo} {z:Value} {x y:Operand} {src:AV} {sz:Nat} [aC P t (.slice e)] [a8 P e i] (hx:du tm x=some .nil) (hy:du tm y=some src) (hz:i.zero=some z)
 (Du:ai z.cells.size i.size=true) (jc:ai i.size sz=true) (h0:al 0 sz=true) (hn:al d n=true) (WI:aw i.bytes 65536=true) (hs:Src hp sz src (Ys.map g)) (hv:app [] Ys=some Zs)
 (kk:∀ b':Bk,ae P all rest ⟨n,(d,.sl sz b' 0 Zs.length) :: tm,(b',.arr sz (Zs.map g)) :: hp⟩ Q):ae P all (⟨some d,.call {callee:=.builtin .append,args:=#[x,y],argTypes:=#[t,t]},ty,pos,af,none⟩ :: rest) ⟨n,tm,hp⟩ Q:=by
 obtain ⟨hb,rfl⟩:=DC hv
 refine ae.HY rfl fun w S a r=>?_
 obtain rfl:i.size=sz:=bc jc
 obtain ⟨a1,a2,a3⟩:=pg (b:=⟨none,0⟩) (o:=.arr i.size []) r.hp (Ext.refl w) id ⟨by simp,by simp,.inl ⟨rfl,rfl⟩⟩ (.inl rfl)
 have OK:=(bl (σ:=⟨n,tm,hp⟩) r hx).C5
 have hAt:At w S (.sl i.size ⟨none,0⟩ 0 ([]:List AV).length) (a.eval x):=by rw [OK];exact .Ax _ _ rfl
 have h1:=bz WI
 have hlen:([]:List AV).length+(Zs.map g).length≤1000000000:=by simpa using hb
 have hm:=Nat.mul_le_mul hlen h1
 obtain ⟨v',w',b',g1,g2,g3,g4,g5⟩:=Dt (P:=P) (ty:=ty) a1 (aC.h (P:=P) (t:=t)) (a8.h (P:=P) (t:=e)) hz (bc Du) (by simpa using h0) (mh.here (b:=⟨none,0⟩) (o:=.arr i.size []) (h:=hp)) hAt (hs.at r.hp (bl (σ:=⟨n,tm,hp⟩) r hy)) (by omega) (by omega)
 obtain ⟨k1,k2,k3⟩:=sS a1 (mF.here (b':=b') (o':=.arr i.size ([]++Zs.map g))) g3 id id g4 g5
 refine ⟨v',w',S,⟨n,(d,.sl i.size b' 0 (Zs.length)) :: tm,(b',.arr i.size (Zs.map g)) :: hp⟩,?_,?_,?_,kk b'⟩
 ·simp [execOp,resolve,invoke,builtin,g1]
 ·have:=(r.heap k3 k1).put hn g2
  simpa using this
 ·have:=a2.trans k2
  simpa using this
theorem dH {x:Operand} {t e:TypeId} {sz len:Nat} {b:Bk} [aC P t (.slice e)] (hx:du tm x=some (.sl sz b 0 len)):QV P ⟨some d,.call {callee:=.builtin .len,args:=#[x],argTypes:=#[t]},ty,pos,af,none⟩ ⟨n,tm,hp⟩ (.int .i64 (len:Nat)):=Oz hx
theorem bB {α:Type} {Xs:List α} {el:α} {t e:TypeId} {i:TypeInfo} {x y:Operand} {k:IntKind} {j:Int} {sz:Nat} {b:Bk} [aC P t (.slice e)] [a8 P e i] (hx:du tm x=some (.sl sz b 0 Xs.length)) (jc:ai i.size sz=true) (hy:du tm y=some (.int k j))
 (hv:idx Xs j=some el):QV P ⟨some d,.indexAddr t x y,ty,pos,af,none⟩ ⟨n,tm,hp⟩ (.tg sz b j.toNat 0):=by
 obtain ⟨h0,h1,_⟩:=jX hv
 have h:=Kr (P:=P) (d:=d) (ty:=ty) (pos:=pos) (af:=af) (n:=n) (tm:=tm) (hp:=hp) (t:=t) (e:=e) hx jc hy ⟨h0,h1⟩
 rw [bo] at h
 exact h
theorem nD {α:Type} {g:α→AV} {Xs:List α} {el:α} {j:Int} (hv:idx Xs j=some el):(Xs.map g)[j.toNat]? =some (g el):=by
 rw [b7,(jX hv).2.2];rfl
theorem dK {α:Type} {g:α→AV} {Xs:List α} {el:α} {j:Int} {t:TypeId} {D:TypeDesc} {x:Operand} {b:Bk} {sz o:Nat} {av:AV} [aC P t D] (hD:TypeDesc.js D=false) (hx:du tm x=some (.tg sz b j.toNat o)) (f:mh hp b (.arr sz (Xs.map g))∨mh hp b (.Bw sz (Xs.map g)))
 (hv:idx Xs j=some el) (ho:(g el).cells[o]? =some av):QV P ⟨some d,.load t x,ty,pos,af,none⟩ ⟨n,tm,hp⟩ av:=
 H7 hD hx f (nD hv) ho
theorem cq {α:Type} {g:α→AV} {Xs:List α} {el:α} {j:Int} {t:TypeId} {D:TypeDesc} {i:TypeInfo} {x:Operand} {b:Bk} {sz:Nat} {cs:List AV} [aC P t D] [a8 P t i] (hD:TypeDesc.js D=true) (hx:du tm x=some (.tg sz b j.toNat 0)) (f:mh hp b (.arr sz (Xs.map g))∨mh hp b (.Bw sz (Xs.map g))) (jc:ai i.size sz=true)
 (hv:idx Xs j=some el) (hc:g el=.agg cs):QV P ⟨some d,.load t x,ty,pos,af,none⟩ ⟨n,tm,hp⟩ (.agg cs):=
 CG hD hx f jc (by rw [nD (g:=g) hv,hc])
theorem GW {α:Type} {g:α→AV} {Xs Zs:List α} {t e:TypeId} {i:TypeInfo} {x:Operand} {lo hi:Option Operand} {l h:Option Int} {sz:Nat} {L H:Int} [aC P t (.slice e)] [a8 P e i] (hx:du tm x=some (.list sz (Xs.map g))) (jc:ai i.size sz=true) (hl:J9 tm lo l) (hh:J9 tm hi h)
 (eL:iJ l=L) (eH:jt Xs.length h=H) (hv:Cj Xs L H=some Zs):QV P ⟨some d,.slice t x lo hi none,ty,pos,af,none⟩ ⟨n,tm,hp⟩ (.list sz (Zs.map g)):=by
 obtain ⟨⟨h0,h1,h2⟩,rfl⟩:=uD hv
 subst eL;subst eH
 have:=GM (P:=P) (d:=d) (ty:=ty) (pos:=pos) (af:=af) (n:=n) (tm:=tm) (hp:=hp) (t:=t) (e:=e) (xs:=Xs.map g) hx jc hl hh h0 (by simpa using h1) (by simpa using h2)
 simpa [List.map_take,List.map_drop] using this
theorem Im {t:TypeId} {x:Operand} {lo hi:Option Operand} {l h:Option Int} {s zs:List UInt8} {L H:Int} [aC P t .string] (hx:du tm x=some (.str s)) (hl:J9 tm lo l) (hh:J9 tm hi h) (eL:iJ l=L) (eH:jt s.length h=H) (hv:Cj s L H=some zs):
 QV P ⟨some d,.slice t x lo hi none,ty,pos,af,none⟩ ⟨n,tm,hp⟩ (.str zs):=by
 obtain ⟨⟨h0,h1,h2⟩,rfl⟩:=uD hv
 subst eL;subst eH
 exact Ib hx hl hh h0 h1 h2
def tJ:Heap→Heap→Option Heap
 | [],r=>some r
 | x :: l,r=>match tJ l r with
   | some m=>some (x :: m)
   | none=>none
theorem qq:∀ {l r m:Heap},tJ l r=some m→l++r=m
 | [],r,m,h=>by simpa [tJ] using h
 | x :: l,r,m,h=>by
   simp only [tJ] at h
   split at h
   ·rename_i m' hm
    obtain rfl:=aa h
    rw [bp,qq hm]
   ·cases h
def T0 (H:Heap) (V:AV):AV→Heap→Prop:=fun v h=>h=H∧v=V
def T1 {Ck:Type} (H:Ck→Heap) (V:Ck→AV):AV→Heap→Prop:=fun v h=>∃ b,h=H b∧v=V b
theorem bC {f:FuncId} {args:List Operand} {ts:Array TypeId} {l l':List AV} {h0 hr H H':Heap} {V:AV} [bN P f] (hl:B9 tm args=some l) (c:aR P f l' h0 (T0 H V)) (co:By hp l l') (hs:HR hp h0 hr) (ha:tJ H hr=some H') (hn:al d n=true)
 (kk:ae P all rest ⟨n,(d,V) :: tm,H'⟩ Q):ae P all (⟨some d,.call {callee:=.value (.func f),args:=args.toArray,argTypes:=ts},ty,pos,af,none⟩ :: rest) ⟨n,tm,hp⟩ Q:=
 DD hl c co hs hn (fun r h' ⟨e1,e2⟩=>by subst e1;subst e2;rw [qq ha];exact kk)
theorem jH {Ck:Type} {f:FuncId} {args:List Operand} {ts:Array TypeId} {l l':List AV} {h0 hr:Heap} {H H':Ck→Heap} {V:Ck→AV} [bN P f] (hl:B9 tm args=some l) (c:aR P f l' h0 (T1 H V)) (co:By hp l l') (hs:HR hp h0 hr) (ha:∀ b,tJ (H b) hr=some (H' b)) (hn:al d n=true)
 (kk:∀ b,ae P all rest ⟨n,(d,V b) :: tm,H' b⟩ Q):ae P all (⟨some d,.call {callee:=.value (.func f),args:=args.toArray,argTypes:=ts},ty,pos,af,none⟩ :: rest) ⟨n,tm,hp⟩ Q:=
 DD hl c co hs hn (fun r h' ⟨b,e1,e2⟩=>by subst e1;subst e2;rw [qq (ha b)];exact kk b)
end rules
theorem Co.Kz {hp:Heap} {α:Type} {g:α→AV} {Xs:List α} {sz:Nat} {b:Bk} (f:mh hp b (.Bw sz (Xs.map g))):Co hp (.sl sz b 0 Xs.length) (.list sz (Xs.map g)):=.Bw sz b _ _ f (by simp)
theorem lD.jd {hp:Heap} {α:Type} {g:α→AV} {Xs:List α} {sz:Nat} {b:Bk} (f:mh hp b (.arr sz (Xs.map g))):lD hp (.sl sz b 0 Xs.length) (.list sz (Xs.map g)):=.arr sz b _ _ f (by simp)
section rules
variable {P:Program} {all:Array Oper} {rest:List Oper} {n:Nat} {tm:List (Nat×AV)} {hp:Heap} {Q:St→Prop} {d:Nat} {ty:TypeId} {pos:String} {af:Array Edge}
theorem fG {x:Operand} {s:TypeId} {j off sz:Nat} {b:Bk} {q o o':Nat} [nQ P s j off] (hx:du tm x=some (.tg sz b q o)) (ho:o+off=o'):QV P ⟨some d,.fieldAddr s x j,ty,pos,af,none⟩ ⟨n,tm,hp⟩ (.tg sz b q o'):=by
 subst ho
 exact GF hx
theorem E5 {t:TypeId} {i:TypeInfo} {x y:Operand} {b:Bk} {sz q o:Nat} {xs:List AV} {av el BE:AV} {cQ:Heap} [a8 P t i] (hx:du tm x=some (.tg sz b q o)) (hy:du tm y=some av) (h1:ke av.cells=true) (jc:ai av.cells.length i.size=true)
 (u:mF hp b (.arr sz xs) b (.arr sz (xs.set q BE)) cQ) (hq:xs[q]? =some el) (wR:BE.cells=pJ el.cells o av.cells) (ho:aw (o+av.cells.length) el.cells.length=true) (kk:ae P all rest ⟨n,tm,cQ⟩ Q):ae P all (⟨none,.store t x y,ty,pos,af,none⟩ :: rest) ⟨n,tm,hp⟩ Q:=by
 refine ae.act rfl rfl (aJ:=⟨n,tm,cQ⟩) (fun w S a r=>?_) kk
 obtain ⟨m,e1,e2⟩:=(bl (σ:=⟨n,tm,hp⟩) r hx).vW
 obtain ⟨g0,g1,⟨g2,_⟩ | ⟨m',vs,E,g2,g3,g4,g5⟩⟩:=qO r.hp (.inl u.qN)
 ·rw [g2] at e1;cases e1
 obtain rfl:m'=m:=by rw [g2] at e1;exact aa e1
 have hv:=bl (σ:=⟨n,tm,hp⟩) r hy
 obtain ⟨hl,qo⟩:=vY hv (eo h1)
 have GA:=eo h1
 have jc:=bc jc
 have ho:=bz ho
 clear h1 hv hy
 generalize av.cells=nc at *
 generalize RZ:el.cells=cs at *
 have hle:o+nc.length≤cs.length:=ho
 have xv:=g0 el (c7 hq)
 have zy:cs.length=sz:=by rw [← RZ];exact xv.1
 have hqx:q < xs.length:=(aH.1 hq).1
 have hmul:(q+1) * sz≤xs.length * sz:=ci _ (by omega)
 have Cl:xs.length * sz≤b.cap * sz:=ci _ g1
 rw [Nat.add_mul,Nat.one_mul] at hmul
 have u6:=x8 hl qo GA
 have Ca:=run_storeCells_at (P:=P) m' (q * sz+o) E (a.eval y).cells.toList 0 vs w g3 (by simp;omega) u6
 simp only [c8] at Ca
 have OA:(a.eval y).cells.size=i.size:=by rw [← hl];exact jc
 have FD:=cT g0
 have Uk:El sz BE:=by
  refine ⟨by rw [wR];simp [pJ];omega,fun c hc=>?_⟩
  rw [wR] at hc
  simp only [pJ,List.mem_append] at hc
  rcases hc with (hc | hc) | hc
  ·exact xv.2 c (by rw [RZ];exact List.mem_of_mem_take hc)
  ·exact GA c hc
  ·exact xv.2 c (by rw [RZ];exact List.mem_of_mem_drop hc)
 have AE:flat (xs.set q BE)=(flat xs).take (q * sz+o)++nc++(flat xs).drop (q * sz+o+nc.length):=by
  rw [Ic g0 Uk hq]
  rw [wR];simp only [pJ]
  have GO:cs=((flat xs).drop (q * sz)).take sz:=by
   apply ck
   intro j
   by_cases hj:j < sz
   ·have:=pL g0 hq j hj
    rw [bs,if_pos hj,bO,this,RZ]
   ·rw [cl (by omega),cl (by simp;omega)]
  have e1:cs.take o=((flat xs).drop (q * sz)).take o:=by rw [GO,List.take_take,bW (by omega)]
  have e2:cs.drop (o+nc.length)=(((flat xs).drop (q * sz+o+nc.length)).take (sz - (o+nc.length))):=by
   rw [GO,List.drop_take,da]
   rw [show q * sz+(o+nc.length)=q * sz+o+nc.length from by omega]
  rw [e1,e2]
  have e3:(flat xs).take (q * sz+o)=(flat xs).take (q * sz)++((flat xs).drop (q * sz)).take o:=by rw [List.take_add]
  rw [e3]
  have e4:(flat xs).drop (q * sz+o+nc.length)=((flat xs).drop (q * sz+o+nc.length)).take (sz - (o+nc.length))++(flat xs).drop (q * sz+sz):=by
   conv=>lhs;rw [← List.take_append_drop (sz - (o+nc.length)) ((flat xs).drop (q * sz+o+nc.length))]
   rw [da,show q * sz+o+nc.length+(sz - (o+nc.length))=q * sz+sz from by omega]
  conv=>rhs;rw [e4]
  simp only [bX]
 have Io:=fun (w':World) (ha:oe w' S (flat xs) vs) (hb:oe w' S nc (a.eval y).cells)=>GN (q * sz+o) (by rw [FD,g4];exact Cl) ha hl hb (by omega)
 have Ip:(vs.toList.take (q * sz+o)++(a.eval y).cells.toList++vs.toList.drop (q * sz+o+(a.eval y).cells.toList.length)).toArray.size=b.cap * sz:=by
  simp;omega
 generalize (vs.toList.take (q * sz+o)++(a.eval y).cells.toList++vs.toList.drop (q * sz+o+(a.eval y).cells.toList.length)).toArray=Cb at Ca Io Ip
 have c:GB w (w.setRow m' Cb) b.cH:=⟨⟨rfl,rfl,rfl,by simp,fun k hk Aq=>setRow_other w m' k _ (fun e=>Aq (by rw [e1,e]))⟩,fun _=>ap _⟩
 have k1:∀ n,S n→S n∧(w.setRow m' Cb).heap[n]? =w.heap[n]?:=by
  intro k hk
  refine ⟨hk,setRow_other w m' k _ (fun e=>?_)⟩
  subst e
  exact (r.hp.sep _ u.qN.mem k (fF e1)).1 hk
 have hh:=sS r.hp u c id id ⟨?_,by simpa using g1,.inr ⟨m',Cb,E,e1,setRow_heap w m' vs _ E _ g3,Ip,by rw [AE];exact Io _ (g5.mono k1) (qo.mono k1)⟩⟩ (.inl rfl)
 ·refine ⟨w.setRow m' Cb,S,?_,r.heap hh.2.2 hh.1,hh.2.1⟩
  simp [execOp,e2,Instr.storeAt,Instr.sureAddr,storeVar,sizeOf,typeInfo,a8.h (P:=P) (t:=t),OA,Ca]
 ·intro z hz
  rcases List.mem_or_eq_of_mem_set hz with h | rfl
  ·exact g0 z h
  ·exact Uk
theorem dj {α:Type} {g:α→AV} {Xs:List α} {el BE:α} {j:Int} {t:TypeId} {i:TypeInfo} {x y:Operand} {b:Bk} {sz o:Nat} {av:AV} {cQ:Heap} [a8 P t i] (hx:du tm x=some (.tg sz b j.toNat o)) (hy:du tm y=some av) (h1:ke av.cells=true) (jc:ai av.cells.length i.size=true)
 (hv:idx Xs j=some el) (wR:(g BE).cells=pJ (g el).cells o av.cells) (u:mF hp b (.arr sz (Xs.map g)) b (.arr sz ((Xs.set j.toNat BE).map g)) cQ) (ho:aw (o+av.cells.length) (g el).cells.length=true) (kk:ae P all rest ⟨n,tm,cQ⟩ Q):
 ae P all (⟨none,.store t x y,ty,pos,af,none⟩ :: rest) ⟨n,tm,hp⟩ Q:=by
 refine E5 (xs:=Xs.map g) (el:=g el) (BE:=g BE) hx hy h1 jc ?_ (nD hv) wR ho kk
 rw [List.map_set] at u
 exact u
end rules
theorem ru {α:Type} {xs:List α} {i:Int} {el v:α} (h:idx xs i=some el):idx (xs.set i.toNat v) i=some v:=by
 obtain ⟨h0,h1,_⟩:=jX h
 unfold idx;rw [if_pos h0,b8 (by omega)]
theorem de.hs {w:World} {S:Nat→Prop} {h h':Heap} (r:de w S h) (s:HS h h'):de w S h':=by
 obtain ⟨q,hq⟩:=s.perm
 exact (r.perm hq).sub (cm _ _)
theorem Has.hs {h h':Heap} (s:HS h h') {n:Nat} (hh:Has h' n):Has h n:=by
 obtain ⟨q,hq⟩:=s.perm
 obtain ⟨e,he,hb⟩:=hh
 exact ⟨e,hq.mem_iff.2 (List.mem_append_left _ he),hb⟩
theorem aR.iL {P:Program} {f:FuncId} {args:List AV} {h:Heap} {Q:AV→Heap→Prop} (c:aR P f args h (fun r h1=>∃ h',HS h1 h'∧Q r h')):aR P f args h Q:=
 fun w S vs r hl ha=>(c w S vs r hl ha).mono fun _ _ ⟨v,r,_,S',h1,⟨h',hs,hq⟩,h3,h4,h5⟩=>⟨v,r,h',S',h1,hq,h3,h4.hs hs,h5.less fun _ hn=>hn.hs hs⟩
theorem aj.eqs {n s:Nat} {tm:List (Nat×AV)} {hp:Heap} {T:St→Prop} {av iI:AV} (hs:lk tm s=some av) (he:iI=av) (k:aj ⟨n,(s,iI) :: tm,hp⟩ T):aj ⟨n,tm,hp⟩ T:=by
 subst he
 exact aj.co hs (.refl _) k
theorem FL {hp cQ:Heap} {b:Bk} {o:Ob} (u:mF hp b o b o cQ):cQ=hp:=by
 generalize hb:b=b',ho:o=o' at u
 have:∀ {h h':Heap} {b b':Bk} {o o':Ob},mF h b o b' o' h'→b=b'→o=o'→h'=h:=by
  intro h h' b b' o o' u
  induction u with
  | here=>rintro rfl rfl;rfl
  | next _ ih=>intro e1 e2;rw [ih e1 e2]
  | skip _ ih=>intro e1 e2;rw [ih e1 e2]
 subst hb ho
 exact this u rfl rfl
theorem aj.Iq {n j:Nat} {tm:List (Nat×AV)} {hp cQ:Heap} {T:St→Prop} {b:Bk} {cs lA:List AV} {av iI:AV} (u:mF hp b (.cells cs) b (.cells lA) cQ) (hj:cs[j]? =some av) (he:iI=av) (hc:rn (cs.set j iI)=some lA) (k:aj ⟨n,tm,cQ⟩ T):aj ⟨n,tm,hp⟩ T:=by
 subst he
 have GO:cs.set j iI=cs:=by
  apply ck
  intro i
  by_cases hi:j=i
  ·subst hi
   have eI:=(aH.1 hj).1
   rw [b8 eI,hj]
  ·rw [cp hi]
 rw [GO] at hc
 obtain rfl:=lQ hc
 rw [FL u] at k
 exact k
theorem uE {p:Prop} [Decidable p] {x:Bool} (h:p):(decide p&&x)=x:=by simp [h]
theorem uF {p:Prop} [Decidable p] {x:Bool} (h:¬ p):(decide p&&x)=false:=by simp [h]
theorem wc {p:Prop} [Decidable p] {x:Bool} (h:p):(decide p||x)=true:=by simp [h]
theorem we {p:Prop} [Decidable p] {x:Bool} (h:¬ p):(decide p||x)=x:=by simp [h]
theorem DE {b x:Bool} (h:b=true):(b&&x)=x:=by simp [h]
theorem DF {b x:Bool} (h:b=false):(b&&x)=false:=by simp [h]
theorem u9 {b x:Bool} (h:b=true):(b||x)=true:=by simp [h]
theorem va {b x:Bool} (h:b=false):(b||x)=x:=by simp [h]
def E6 (P:Program) (k:Nat) (t:TypeId) (v u:Value) (b:Bool):Prop:=∀ d w,(Op.equalIn (d+k) t v u).run P w=.ok b w
theorem E6.up {P:Program} {k:Nat} {t:TypeId} {v u:Value} {b:Bool} (h:E6 P k t v u b) (j:Nat):E6 P (k+j) t v u b:=fun d w=>by
 rw [show d+(k+j)=(d+j)+k from by omega];exact h _ w
theorem E6.cast {P:Program} {k:Nat} {t:TypeId} {v u:Value} {b b':Bool} (h:E6 P k t v u b) (e:b=b'):E6 P k t v u b':=by rw [← e];exact h
inductive MY (P:Program) (k:Nat) (xs ys:Array Value):List Field→Bool→Prop
 | nil:MY P k xs ys [] true
 | cons {f:Field} {fs:List Field} {px py:Value} {b b':Bool} (hn:f.name≠"_") (hx:∀ w,(part f.type xs f.offset).run P w=.ok px w) (hy:∀ w,(part f.type ys f.offset).run P w=.ok py w) (he:E6 P k f.type px py b) (kk:MY P k xs ys fs b'):MY P k xs ys (f :: fs) (b&&b')
theorem MY.run {P:Program} {k:Nat} {xs ys:Array Value} {fs:List Field} {b:Bool} (h:MY P k xs ys fs b) (d:Nat) (w:World):(Op.eqFields (d+k) xs ys fs).run P w=.ok b w:=by
 induction h with
 | nil=>simp [Op.eqFields]
 | @cons f fs px py b b' hn hx hy he kk ih=>
   simp only [Op.eqFields,hn,ne_eq,not_false_eq_true,if_true,Sem.run_bind,hx,hy,he d w,Result.andThen_ok]
   cases b
   ·simp
   ·simpa using ih
theorem E6.struct {P:Program} {k:Nat} {t:TypeId} {xs ys:Array Value} {fs:List Field} {b:Bool} (hu:P.underlying t=some (.struct fs.toArray)) (hp:P.stoodInHeld t=false) (h:MY P k xs ys fs b):E6 P (k+1) t (.agg xs) (.agg ys) b:=by
 intro d w
 have hf:P.fieldsOf t=fs.toArray:=by simp [Program.fieldsOf,hu]
 rw [show d+(k+1)=(d+k)+1 from rfl,run_equalIn_struct w (d+k) t xs ys (by rw [hf];exact hu) hp,hf]
 exact h.run d w
theorem nR {P:Program} {t:TypeId} {D:TypeDesc} [aC P t D] (hD:TypeDesc.js D=false) {cs:Array Value} {off:Nat} {v:Value} (h:cs[off]? =some v) (w:World):(part t cs off).run P w=.ok v w:=by
 unfold part isAgg
 simp only [Sem.run_bind,run_underlying (aC.h (P:=P) (t:=t)),Result.andThen_ok]
 cases D<;>simp_all [TypeDesc.js]
theorem DG {P:Program} {t:TypeId} {D:TypeDesc} {i:TypeInfo} [aC P t D] [a8 P t i] (hD:TypeDesc.js D=true) {cs:Array Value} {off n:Nat} (hn:i.size=n) (w:World):(part t cs off).run P w=.ok (.agg (cs.extract off (off+n))) w:=by
 subst hn
 unfold part isAgg
 simp only [Sem.run_bind,run_underlying (aC.h (P:=P) (t:=t)),Result.andThen_ok]
 cases D<;>simp_all [TypeDesc.js,sizeOf,typeInfo,a8.h (P:=P) (t:=t)]
theorem oe.get {w:World} {S:Nat→Prop} {cs:List AV} {vs:Array Value} (hl:cs.length=vs.size) (ha:oe w S cs vs) {off:Nat} {c:AV} (hc:cs[off]? =some c):∃ v,vs[off]? =some v∧At w S c v:=by
 have eI:=(aH.1 hc).1
 have:off < vs.size:=by omega
 exact ⟨vs[off],by simp [this],ha off c _ hc (by simp [this])⟩
theorem oe.sub {w:World} {S:Nat→Prop} {cs:List AV} {vs:Array Value} (hl:cs.length=vs.size) (ha:oe w S cs vs) (off n:Nat) (h:off+n≤cs.length):At w S (.agg ((cs.drop off).take n)) (.agg (vs.extract off (off+n))):=by
 refine .agg _ _ (by simp;omega) (fun i c v hc hv=>?_)
 simp only [bs,bO] at hc
 split at hc
 ·rename_i hi
  refine ha (off+i) c v hc ?_
  rw [Array.getElem?_extract] at hv
  split at hv
  ·exact hv
  ·cases hv
 ·cases hc
class xI (P:Program) (t:TypeId) (k:outParam Nat) {α:Type} [DecidableEq α] (g:α→AV):Prop where
 h:∀ (x y:α) (w:World) (S:Nat→Prop) (v u:Value),At w S (g x) v→At w S (g y) u→E6 P k t v u (decide (x=y))
class MZ (P:Program) (t:TypeId):Prop where
 h:P.eqGuardType P.depth t=false
instance XI {P:Program} {t:TypeId} {k:IntKind} [aC P t (.int k)]:xI P t 1 (AV.int k):=⟨fun x y w S v u hv hu d w'=>by
 rw [hv.eE,hu.eE,Op.equalIn]
 simp [run_underlying (aC.h (P:=P) (t:=t))]
 rw [db];simp⟩
instance Zm {P:Program} {t:TypeId} [aC P t (.int .i64)]:xI P t 1 I:=XI (k:=.i64)
instance eqStr {P:Program} {t:TypeId} [aC P t .string]:xI P t 1 AV.str:=⟨fun x y w S v u hv hu d w'=>by
 rw [hv.eV,hu.eV,Op.equalIn]
 simp [run_underlying (aC.h (P:=P) (t:=t))]
 rw [db]
 rw [beq_toListBytes,ByteArray.toList_eq,ByteArray.toList_eq]
 simp⟩
def zS (k:IntKind) (x y:Int):Int:=k.wrap ((dd k.bits x ^^^ dd k.bits y).toNat:Int)
def GX (k:IntKind) (x y:Int):Int:=x.fdiv (2 ^ min y.toNat k.bits)
section rules
variable {P:Program} {all:Array Oper} {rest:List Oper} {n:Nat} {tm:List (Nat×AV)} {hp:Heap} {Q:St→Prop} {d:Nat} {ty:TypeId} {pos:String} {af:Array Edge}
theorem DH {α:Type} [DecidableEq α] {g:α→AV} {X Y:α} {k:Nat} {xt yt:TypeId} {x y:Operand} {cs ds:List AV} [xI P xt k g] [MZ P xt] (hk:aw k 10000=true) (hx:du tm x=some (.agg cs)) (hy:du tm y=some (.agg ds)) (eX:g X=.agg cs) (eY:g Y=.agg ds):
 QV P ⟨some d,.binOp .eql xt x y yt,ty,pos,af,none⟩ ⟨n,tm,hp⟩ (.bool (decide (X=Y))):=by
 intro w S a r
 have hv:=bl (σ:=⟨n,tm,hp⟩) r hx
 have hu:=bl (σ:=⟨n,tm,hp⟩) r hy
 have he:=xI.h (P:=P) (t:=xt) (g:=g) X Y w S _ _ (by rw [eX];exact hv) (by rw [eY];exact hu)
 obtain ⟨vs,e1,_,_⟩:=hv.pf
 obtain ⟨us,e2,_,_⟩:=hu.pf
 refine ⟨.bool (decide (X=Y)),fun w1 _=>?_,.bool _⟩
 have h1:=run_eqGuard_agg (P:=P) w1 .eql xt x y vs us MZ.h
 rw [e1,e2] at he
 have h2:(Op.equal xt (.agg vs) (.agg us)).run P w1=.ok (decide (X=Y)) w1:=by
  have:=he (10000 - k) w1
  rw [dg (bz hk)] at this
  exact this
 have h3:(binOp .eql xt (.agg vs) (.agg us)).run P w1=.ok (.bool (decide (X=Y))) w1:=by
  rw [show binOp .eql xt (.agg vs) (.agg us)=(do pure (.bool (← Op.equal xt (.agg vs) (.agg us)))) from rfl]
  simp [h2]
 simp [execOp,e1,e2,h1,h3]
theorem Ul {α:Type} [DecidableEq α] {g:α→AV} {X Y:α} {k:Nat} {xt yt:TypeId} {x y:Operand} {cs ds:List AV} [xI P xt k g] [MZ P xt] (hk:aw k 10000=true) (hx:du tm x=some (.agg cs)) (hy:du tm y=some (.agg ds)) (eX:g X=.agg cs) (eY:g Y=.agg ds):
 QV P ⟨some d,.binOp .neq xt x y yt,ty,pos,af,none⟩ ⟨n,tm,hp⟩ (.bool (decide (X≠Y))):=by
 intro w S a r
 have hv:=bl (σ:=⟨n,tm,hp⟩) r hx
 have hu:=bl (σ:=⟨n,tm,hp⟩) r hy
 have he:=xI.h (P:=P) (t:=xt) (g:=g) X Y w S _ _ (by rw [eX];exact hv) (by rw [eY];exact hu)
 obtain ⟨vs,e1,_,_⟩:=hv.pf
 obtain ⟨us,e2,_,_⟩:=hu.pf
 refine ⟨.bool (decide (X≠Y)),fun w1 _=>?_,.bool _⟩
 have h1:=run_eqGuard_agg (P:=P) w1 .neq xt x y vs us MZ.h
 rw [e1,e2] at he
 have h2:(Op.equal xt (.agg vs) (.agg us)).run P w1=.ok (decide (X=Y)) w1:=by
  have:=he (10000 - k) w1
  rw [dg (bz hk)] at this
  exact this
 have h3:(binOp .neq xt (.agg vs) (.agg us)).run P w1=.ok (.bool (decide (X≠Y))) w1:=by
  rw [show binOp .neq xt (.agg vs) (.agg us)=(do pure (.bool (!(← Op.equal xt (.agg vs) (.agg us))))) from rfl]
  simp [h2]
 simp [execOp,e1,e2,h1,h3]
theorem GY {xt yt:TypeId} {x y:Operand} {s t:List UInt8} (hx:du tm x=some (.str s)) (hy:du tm y=some (.str t)):QV P ⟨some d,.binOp .leq xt x y yt,ty,pos,af,none⟩ ⟨n,tm,hp⟩ (.bool (Op.bytesLess s t||s==t)):=by
 refine fun w S a r=>⟨.bool (Op.bytesLess s t||s==t),fun w1 _=>?_,.bool _⟩
 simp [execOp,(bl (σ:=⟨n,tm,hp⟩) r hx).eV,(bl (σ:=⟨n,tm,hp⟩) r hy).eV,eqGuard_at_string,binOp,Op.stringOp,ByteArray.toList_eq]
theorem LS {k:IntKind} {xt yt:TypeId} {x y:Operand} {i j:Int} (hx:du tm x=some (.int k i)) (hy:du tm y=some (.int k j)):QV P ⟨some d,.binOp .xor xt x y yt,ty,pos,af,none⟩ ⟨n,tm,hp⟩ (.int k (zS k i j)):=
 xu hx hy (v:=.int k (zS k i j)) (fun w=>by simp [binOp,Op.intBits,zS]) (fun w S=>.int _ _)
theorem Um {k k':IntKind} {xt yt:TypeId} {x y:Operand} {i j:Int} (hx:du tm x=some (.int k i)) (hy:du tm y=some (.int k' j)) (h0:¬ j < 0):QV P ⟨some d,.binOp .shr xt x y yt,ty,pos,af,none⟩ ⟨n,tm,hp⟩ (.int k (GX k i j)):=by
 refine fun w S a r=>⟨.int k (GX k i j),fun w1 _=>?_,.int _ _⟩
 simp [execOp,(bl (σ:=⟨n,tm,hp⟩) r hx).eE,(bl (σ:=⟨n,tm,hp⟩) r hy).eE,eqGuard_at_int,binOp,Op.shift,h0,GX]
end rules
end Go.Eng
namespace Go.Eng
open Go Go.RowKit
variable [bU]
theorem FN (l:List Int):flat (l.map I)=l.map I:=by
 induction l with
 | nil=>rfl
 | cons x r ih=>rw [dk,kI,ih];rfl
theorem OR {P:Program} {f:FuncId} {a:Option Addr} {len cap:Nat} {zs:List Int} {w:World}
 (zh:(a=none∧len=0∧cap=0∧zs=[])∨∃ x,a=some x∧len≤cap∧cap≤maxLen∧zs.length=cap∧(∀ i,i < zs.length→w.cell? (x.add i)=some (.int .i64 (zs.getD i 0)))∧∀ n∈zs,(Lit.int .i64 n).wf=true)
 (hG:∀ g o,bU.Xk g=some o→g < w.heap.size∧o (w.heap[g]?))
 (c:∀ l:List Int,Pu P f [.list 1 (l.map I)] (.bool true)):
 Calls P f #[.slice a len cap] w fun e w'=>e=.returned (.bool true)∧Below w.heap.size w w':=by
 let S:Nat→Prop:=fun n=>n < w.heap.size
 have qo:∃ l:List Int,At w S (.list 1 (l.map I)) (.slice a len cap):=by
  rcases zh with ⟨rfl,rfl,rfl,rfl⟩ | ⟨x,rfl,h1,h2,h3,h4,h5⟩
  ·exact ⟨[],.list 1 [] none 0 [] (by simp) rfl (by simp [flat]) (by simp) (by simp)⟩
  ·refine ⟨zs.take len,?_⟩
   have hl:((zs.take len).map I).length=len:=by simp;omega
   have key:=At.list (w:=w) (S:=S) 1 ((zs.take len).map I) (some x) cap ((zs.take len).map (fun n=>Value.int .i64 n)) ?_ ?_ ?_ ?_ ?_
   ·rw [hl] at key;exact key
   ·intro y hy
    obtain ⟨n,_,rfl⟩:=dl.1 hy
    exact ⟨rfl,fun c hc=>by simp [AV.cells] at hc;subst hc;rfl⟩
   ·rw [FN];simp
   ·intro i c v hc hv
    rw [FN,b7] at hc
    rw [b7] at hv
    cases hn:(zs.take len)[i]? with
    | none=>rw [hn] at hc;cases hc
    | some n=>
      rw [hn] at hc hv
      obtain rfl:=aa hc
      obtain rfl:=aa hv
      exact .int _ _
   ·intro i v hv
    rw [b7] at hv
    cases hn:(zs.take len)[i]? with
    | none=>rw [hn] at hv;cases hv
    | some n=>
      rw [hn] at hv
      obtain rfl:=aa hv
      have hi:i < zs.length:=by
       have:=(aH.1 hn).1
       simp at this;omega
      have hz:zs.getD i 0=n:=by
       rw [bs] at hn
       split at hn
       ·rw [List.getD_eq_getElem?_getD,hn];rfl
       ·cases hn
      have vi:=h4 i hi
      rw [hz] at vi
      obtain ⟨bk,of,sp⟩:=x
      have Ot:sp=none:=by
       cases sp with
       | none=>rfl
       | some q=>
         have XJ:=h4 0 (by omega)
         unfold World.cell? Addr.add at XJ
         simp only [if_true] at XJ
         split at XJ
         ·simp at XJ
         ·cases XJ
      subst Ot
      rw [nA] at vi
      have hblk:bk < w.heap.size:=by
       rcases bv bk w.heap.size with h | h
       ·exact h
       ·unfold World.cell? at vi
        simp only [Array.getElem?_eq_none h] at vi
        cases vi
      exact ⟨_,rfl,rfl,hblk,vi⟩
   ·rw [hl];exact h1
 obtain ⟨l,qo⟩:=qo
 refine (c l w S #[.slice a len cap] (uC (fun n hn=>hn) hG) rfl ?_).mono ?_
 ·intro i c' v hc hv
  match i with
  | 0=>simp at hc hv;subst hc;subst hv;exact qo
  | i+1=>simp at hc
 ·rintro e w' ⟨v,r,h',S',rfl,rfl,h1,h2,h3⟩
  refine ⟨by rw [h1.mL],h3.os,h3.tape,h3.output,h3.size,fun k hk=>(h3.mf k hk).2⟩
end Go.Eng
namespace Go.Eng
open Go
variable [bU]
def oT (e:Env) (d:Option Nat) (o:Option AV):Env:=match d with
 | some d=>fun s=>if d=s then o else e s
 | none=>e
theorem kW {e:Env} {d:Option Nat} {o:Option AV} {s:Nat} (h:d≠some s):oT e d o s=e s:=by
 cases d with
 | none=>rfl
 | some d=>simp only [oT];rw [if_neg (fun e=>h (by rw [e]))]
theorem nT {e:Env} {o:Option AV} {s:Nat}:oT e (some s) o s=o:=by simp [oT]
section order
variable {P:Program} {all:Array Oper} {n m:Nat} {hp:Heap}
def xJ (all:Array Oper) (oR:Nat→Option AV) (e:Env) (listed:Array Bool):Nat→Env
 | 0=>e
 | k+1=>if listed.getD k false then oT (xJ all oR e listed k) ((all[k]?).bind (·.dst)) (oR k) else xJ all oR e listed k
variable {oR:Nat→Option AV} {en:Nat→Env} {e:Env}
theorem M1 (hB:xx all m) {listed:Array Bool} (L:Rl all m listed) (h0:en 0=e) (hs:∀ i o,i < m→all[i]? =some o→en (i+1)=oT (en i) o.dst (oR i)) (hm:m≤all.size)
 {i:Nat} {o:Oper} (ho:all[i]? =some o) (Dy:i < m) (zg:listed.getD i false=false) (hr:∀ j,Cf all i j→listed.getD j false=true) {s:Nat} (Rm:s∈looks all o):∀ k,k≤all.size→xJ all oR e listed k s=en (min k i) s:=by
 intro k
 induction k with
 | zero=>intro _;simp [xJ,h0]
 | succ k ih=>
   intro hk
   have xH:=ih (by omega)
   have gN:all[k]? =some all[k]:=by simp [show k < all.size by omega]
   simp only [xJ,gN,cv]
   rcases dn k i with eI | heq | Of
   ·rw [bW (by omega)] at xH
    rw [bW (by omega),hs k _ (by omega) gN]
    by_cases hd:(all[k]).dst=some s
    ·have hl:listed.getD k false=true:=hr k ((mi hB ho gN eI).1 Dy (zR hd Rm))
     rw [if_pos hl,hd,nT,nT]
    ·rw [kW hd]
     split
     ·rw [kW hd];exact xH
     ·exact xH
   ·subst heq
    rw [zg]
    simp only [cy,if_false]
    rw [be (by omega)]
    rw [be (by omega)] at xH
    exact xH
   ·rw [be (by omega)] at xH
    rw [be (by omega)]
    by_cases hl:listed.getD k false=true
    ·by_cases hd:(all[k]).dst=some s
     ·exfalso
      have hw:=(mi hB gN ho Of).1 (L.head k hl) (Ci hd Rm)
      have:=nC.RW L.closed hw hl
      rw [zg] at this;cases this
     ·rw [if_pos hl,kW hd];exact xH
    ·rw [if_neg hl];exact xH
theorem OS (hB:xx all m) {listed:Array Bool} (L:Rl all m listed) {i:Nat} {o:Oper} (ho:all[i]? =some o) (Dy:i < m) (zg:listed.getD i false=false) (s:Nat):
 ∀ k,k≤all.size→xJ all oR e (listed.setIfInBounds i true) k s=(if i < k then oT (xJ all oR e listed k) o.dst (oR i) s else xJ all oR e listed k s):=by
 have hi:i < listed.size:=by rw [L.size];exact (Array.getElem?_eq_some_iff.1 ho).1
 intro k
 induction k with
 | zero=>intro _;simp [xJ]
 | succ k ih=>
   intro hk
   have xH:=ih (by omega)
   have gN:all[k]? =some all[k]:=by simp [show k < all.size by omega]
   simp only [xJ,gN,cv,kV hi]
   rcases dn k i with eI | heq | Of
   ·rw [if_neg (by omega)] at xH
    have e1:(if k=i then true else listed.getD k false)=listed.getD k false:=if_neg (by omega)
    rw [e1,if_neg (show ¬ i < k+1 by omega)]
    by_cases hl:listed.getD k false=true
    ·rw [if_pos hl,if_pos hl]
     by_cases hd:(all[k]).dst=some s
     ·rw [hd,nT,nT]
     ·rw [kW hd,kW hd];exact xH
    ·rw [if_neg hl,if_neg hl];exact xH
   ·subst heq
    rw [if_neg (by omega)] at xH
    have e1:(if k=k then true else listed.getD k false)=true:=if_pos rfl
    rw [e1,if_pos (show k < k+1 by omega),if_pos rfl,zg,if_neg Bool.false_ne_true]
    obtain rfl:all[k]=o:=by rw [gN] at ho;exact aa ho
    by_cases hd:(all[k]).dst=some s
    ·rw [hd,nT,nT]
    ·rw [kW hd,kW hd];exact xH
   ·rw [if_pos Of] at xH
    have e1:(if k=i then true else listed.getD k false)=listed.getD k false:=if_neg (by omega)
    rw [e1,if_pos (show i < k+1 by omega)]
    by_cases hl:listed.getD k false=true
    ·rw [if_pos hl,if_pos hl]
     by_cases hd:(all[k]).dst=some s
     ·by_cases GR:o.dst=some s
      ·exfalso
       have hw:=(mi hB gN ho Of).1 (L.head k hl) (FK GR hd)
       have:=nC.RW L.closed hw hl
       rw [zg] at this;cases this
      ·rw [hd,nT,kW GR,nT]
     ·by_cases GR:o.dst=some s
      ·rw [kW hd,xH,GR,nT,nT]
      ·rw [kW hd,xH,kW GR,kW GR,kW hd]
    ·rw [if_neg hl,if_neg hl];exact xH
structure Tok where
 prod:Option Nat
 cons:Option Nat
 rds:List Nat
 Zn:Bk→Bk×Ob
 Zo:Option Nat
 sft:List Nat
def Tok.ix (t:Tok):Option Nat:=match t.Zo with | some a=>some a | none=>t.prod
def Tok.at (t:Tok) (β:Nat→Bk):Bk×Ob:=t.Zn (match t.ix with | some i=>β i | none=>⟨none,0⟩)
def zT (listed:Array Bool) (t:Tok):Bool:=(match t.prod with | none=>true | some i=>listed.getD i false)&&(match t.cons with | none=>true | some i=>!listed.getD i false)
def CL (i:Nat) (t:Tok):Bool:=match t.cons with | some c=>ai c i | none=>false
def R4 (i:Nat) (t:Tok):Bool:=match t.prod with | some c=>ai c i | none=>false
def LU (i:Nat) (t:Tok):Bool:=t.rds.contains i
def AF (tk:List Tok) (i:Nat) (β:Nat→Bk):Heap:=(tk.filter (LU i)).map (·.at β)
def Rj (i:Nat) (t:Tok):Bool:=t.sft.contains i
def wY (tk:List Tok) (i:Nat) (β:Nat→Bk):List Heap:=match tk.filter (Rj i) with
 | []=>[AF tk i β]
 | l=>l.map fun t=>t.at β :: AF tk i β
def tT (tk:List Tok) (listed:Array Bool) (β:Nat→Bk):Heap:=(tk.filter (zT listed)).map (·.at β)
def vK (tk:List Tok) (i:Nat) (β:Nat→Bk):Heap:=(tk.filter (CL i)).map (·.at β)
def lG (tk:List Tok) (i:Nat) (β:Nat→Bk):Heap:=(tk.filter (R4 i)).map (·.at β)
def pO (β:Nat→Bk) (i:Nat) (b:Bk):Nat→Bk:=fun k=>bif ai k i then b else β k
theorem R5 (β:Nat→Bk) (i:Nat) (b:Bk):pO β i b i=b:=by simp [pO]
theorem LV {β:Nat→Bk} {i k:Nat} {b:Bk} (h:k≠i):pO β i b k=β k:=by simp [pO,sQ h]
def OT (tk:List Tok) (β:Nat→Bk):Heap:=(tk.filter (fun t=>t.cons.isNone)).map (·.at β)
def XK (A:List Nat) (m:Nat) (tk:List Tok):Bool:=tk.all fun t=>
 (match t.prod with | some p=>al p m | none=>true)&&(match t.cons with | some c=>al c m&&(match t.prod with | some p=>(A.getD c 0).testBit p | none=>true) | none=>true)&&
 (match t.Zo with | some a=>(match t.prod with | some p=>(A.getD p 0).testBit a | none=>false) | none=>true)&&
 t.rds.all fun i=>al i m&&(match t.prod with | some p=>(A.getD i 0).testBit p | none=>true)&&(match t.cons with | some c=>(A.getD c 0).testBit i | none=>true)
def Un (A:List Nat) (m:Nat) (tk:List Tok):Bool:=(List.range m).all fun i=>match tk.filter (Rj i) with
 | []=>true
 | [t0,t1]=>(match t0.cons,t1.prod with | some j,some j'=>ai j j'&&!Nat.beq j i | _,_=>false)&&(match t0.prod with | some p=>(A.getD i 0).testBit p | none=>true)&&(match t1.cons with | some c=>(A.getD c 0).testBit i | none=>true)&&!LU i t0&&!LU i t1
 | _=>false
def KA (all:Array Oper) (m:Nat) (tk:List Tok):Prop:=∀ i,i < m→tk.filter (Rj i)=[]∨∃ t0 t1 j,tk.filter (Rj i)=[t0,t1]∧t0.cons=some j∧t1.prod=some j∧j≠i∧(∀ p,t0.prod=some p→Cf all i p)∧(∀ c,t1.cons=some c→Cf all c i)∧LU i t0=false∧LU i t1=false
theorem KC {A:List Nat} {tk:List Tok} (hA:MS all=A) (h:Un A m tk=true):KA all m tk:=by
 intro i hi
 have:=ag.1 h i (dV.2 hi)
 split at this
 ·rename_i e;exact .inl e
 ·rename_i t0 t1 e
  simp only [ac,dY] at this
  obtain ⟨⟨⟨⟨h1,h2⟩,h3⟩,h4⟩,h5⟩:=this
  split at h1
  ·rename_i j j' hj WK
   simp only [ac,dY] at h1
   obtain ⟨h6,h7⟩:=h1
   obtain rfl:=bc h6
   refine .inr ⟨t0,t1,j,e,hj,WK,fun e=>by rw [e] at h7;simp at h7,fun p hp=>?_,fun c hc=>?_,h4,h5⟩
   ·rw [hp] at h2;subst hA;exact qP h2
   ·rw [hc] at h3;subst hA;exact qP h3
  ·cases h1
 ·cases this
def DI (all:Array Oper) (m:Nat) (tk:List Tok):Prop:=∀ t∈tk,(∀ p,t.prod=some p→p < m)∧(∀ c,t.cons=some c→c < m∧∀ p,t.prod=some p→Cf all c p)∧(∀ i,LU i t=true→i < m∧(∀ p,t.prod=some p→Cf all i p)∧∀ c,t.cons=some c→Cf all c i)∧∀ a,t.Zo=some a→∃ p,t.prod=some p∧Cf all p a
theorem M3 {A:List Nat} {tk:List Tok} (hA:MS all=A) (h:XK A m tk=true):DI all m tk:=by
 intro t ht
 have:=ag.1 h t ht
 rw [ac,ac,ac] at this
 obtain ⟨⟨⟨h1,h2⟩,h9⟩,h4⟩:=this
 subst hA
 refine ⟨fun p hp=>by rw [hp] at h1;simpa using h1,fun c hc=>?_,fun i hi=>?_,fun a ha=>?_⟩
 ·rw [hc] at h2
  simp only [ac] at h2
  refine ⟨by simpa using h2.1,fun p hp=>?_⟩
  have h3:=h2.2
  rw [hp] at h3
  exact qP h3
 ·have h5:=ag.1 h4 i (by simpa [LU] using hi)
  rw [ac,ac] at h5
  obtain ⟨⟨h6,h7⟩,h8⟩:=h5
  exact ⟨by simpa using h6,fun p hp=>by rw [hp] at h7;exact qP h7,fun c hc=>by rw [hc] at h8;exact qP h8⟩
 ·rw [ha] at h9
  cases hp:t.prod with
  | none=>rw [hp] at h9;cases h9
  | some p=>rw [hp] at h9;exact ⟨p,rfl,qP h9⟩
theorem wZ {α:Type} (p q:α→Bool) (l:List α):(l.filter p).Perm (l.filter (fun x=>p x&&q x)++l.filter (fun x=>p x&&!q x)):=by
 induction l with
 | nil=>exact List.Perm.refl _
 | cons x l ih=>
   simp only [List.filter_cons]
   cases hp:p x<;>cases hq:q x
   ·simpa using ih
   ·simpa using ih
   ·simp only [b9,cb,cy,if_false,if_true]
    exact (d0 x ih).trans cz.symm
   ·simp only [b9,Bool.not_true,cy,if_false,if_true,bp]
    exact d0 x ih
theorem U7 {tk:List Tok} (hT:DI all m tk) {listed:Array Bool} {i:Nat} (zg:listed.getD i false=false) (GZ:∀ j,Cf all i j→listed.getD j false=true) (β:Nat→Bk):
 (tT tk listed β).Perm (vK tk i β++(tk.filter (fun t=>zT listed t&&!CL i t)).map (·.at β)):=by
 unfold tT vK
 rw [← b4]
 refine cA _ ?_
 have e:tk.filter (CL i)=tk.filter (fun t=>zT listed t&&CL i t):=by
  apply bx
  intro t ht
  cases hc:CL i t with
  | false=>simp
  | true=>
    unfold CL at hc
    split at hc
    ·rename_i c FO
     obtain rfl:c=i:=bc hc
     have:=(hT t ht).2.1 c FO
     have XD:zT listed t=true:=by
      unfold zT
      rw [FO]
      simp only [zg,cb,d4]
      split
      ·rfl
      ·rename_i p hp;exact GZ p (this.2 p hp)
     rw [XD];rfl
    ·cases hc
 rw [e]
 exact wZ _ _ _
theorem R6 {tk:List Tok} (hT:DI all m tk) {listed:Array Bool} (zy:nC all listed) {i:Nat} (hi:i < listed.size) (zg:listed.getD i false=false) (G0:∀ c,Cf all c i→c≠i) (β:Nat→Bk) (b:Bk):
 (tT tk (listed.setIfInBounds i true) (pO β i b)).Perm (lG tk i (pO β i b)++(tk.filter (fun t=>zT listed t&&!CL i t)).map (·.at β)):=by
 unfold tT lG
 have e2:(tk.filter (fun t=>zT listed t&&!CL i t)).map (·.at β)=(tk.filter (fun t=>zT listed t&&!CL i t)).map (·.at (pO β i b)):=by
  apply List.map_congr_left
  intro t ht
  have h0:=(b5.1 ht).1
  have h1:=(b5.1 ht).2
  rw [ac] at h1
  have Ze:∀ p,t.prod=some p→listed.getD p false=true:=by
   intro p hp
   have:=h1.1
   unfold zT at this
   rw [hp,ac] at this
   exact this.1
  unfold Tok.at
  cases hx:t.ix with
  | none=>rfl
  | some p=>
    have UU:listed.getD p false=true:=by
     unfold Tok.ix at hx
     cases ha:t.Zo with
     | none=>rw [ha] at hx;exact Ze p hx
     | some a=>
       rw [ha] at hx
       obtain rfl:=aa hx
       obtain ⟨q,q1,q2⟩:=(hT t h0).2.2.2 a ha
       exact zy.RW q2 (Ze q q1)
    have:p≠i:=fun e=>by subst e;rw [zg] at UU;cases UU
    simp only [LV this]
 rw [e2,← b4]
 refine cA _ ?_
 refine (wZ _ (R4 i) _).trans ?_
 have f1:tk.filter (fun t=>zT (listed.setIfInBounds i true) t&&R4 i t)=tk.filter (R4 i):=by
  apply bx
  intro t ht
  cases hp:R4 i t with
  | false=>simp
  | true=>
    unfold R4 at hp
    split at hp
    ·rename_i p WL
     obtain rfl:p=i:=bc hp
     have XD:zT (listed.setIfInBounds p true) t=true:=by
      unfold zT
      rw [WL]
      simp only [kV hi,if_true,b9]
      cases hc:t.cons with
      | none=>rfl
      | some c=>
        have GZ:=((hT t ht).2.1 c hc).2 p WL
        have Aq:=G0 c GZ
        simp only [Aq,if_false]
        cases hl:listed.getD c false with
        | false=>rfl
        | true=>have:=zy.RW GZ hl;rw [zg] at this;cases this
     rw [XD];rfl
    ·cases hp
 have f2:tk.filter (fun t=>zT (listed.setIfInBounds i true) t&&!R4 i t)=tk.filter (fun t=>zT listed t&&!CL i t):=by
  apply bx
  intro t ht
  unfold zT R4 CL
  cases hp:t.prod with
  | none=>
    cases hc:t.cons with
    | none=>simp
    | some c=>
      simp only [kV hi]
      by_cases Ro:c=i
      ·subst Ro;simp
      ·have:ai c i=false:=sQ Ro
       simp [Ro,this]
  | some p=>
    by_cases Zp:p=i
    ·subst Zp
     simp [zg]
    ·have hb:ai p i=false:=sQ Zp
     cases hc:t.cons with
     | none=>simp [kV hi,Zp,hb]
     | some c=>
       simp only [kV hi,Zp,hb,if_false]
       by_cases Ro:c=i
       ·subst Ro;simp
       ·have:ai c i=false:=sQ Ro
        simp [Ro,this]
 rw [f1,f2]
theorem OU {tk:List Tok} (hT:DI all m tk) {listed:Array Bool} (zy:nC all listed) {i:Nat} (zg:listed.getD i false=false) (GZ:∀ j,Cf all i j→listed.getD j false=true) (G0:∀ c,Cf all c i→c≠i) (β:Nat→Bk):
 ((tk.filter (fun t=>zT listed t&&!CL i t)).map (·.at β)).Perm (AF tk i β++(tk.filter (fun t=>(zT listed t&&!CL i t)&&!LU i t)).map (·.at β)):=by
 unfold AF
 rw [← b4]
 refine cA _ ?_
 have e:tk.filter (LU i)=tk.filter (fun t=>(zT listed t&&!CL i t)&&LU i t):=by
  apply bx
  intro t ht
  cases hr:LU i t with
  | false=>simp
  | true=>
    obtain ⟨_,q2,q3⟩:=(hT t ht).2.2.1 i hr
    have h1:zT listed t=true:=by
     unfold zT
     have e1:(match t.prod with | none=>true | some i=>listed.getD i false)=true:=by
      cases hp:t.prod with
      | none=>rfl
      | some p=>exact GZ p (q2 p hp)
     have e2:(match t.cons with | none=>true | some i=>!listed.getD i false)=true:=by
      cases hc:t.cons with
      | none=>rfl
      | some c=>
        have:=q3 c hc
        show (!listed.getD c false)=true
        cases hl:listed.getD c false with
        | false=>rfl
        | true=>have:=zy.RW this hl;rw [zg] at this;cases this
     rw [e1,e2];rfl
    have h2:CL i t=false:=by
     unfold CL
     cases hc:t.cons with
     | none=>rfl
     | some c=>exact sQ (G0 c (q3 c hc))
    rw [h1,h2];rfl
 rw [e]
 exact wZ _ _ _
theorem M4 {tk:List Tok} (hT:DI all m tk) (hS:KA all m tk) {listed:Array Bool} (zy:nC all listed) {i:Nat} (Dy:i < m) (zg:listed.getD i false=false) (GZ:∀ j,Cf all i j→listed.getD j false=true) (G0:∀ c,Cf all c i→c≠i) (β:Nat→Bk):
 ∃ X∈wY tk i β,∃ rest,((tk.filter (fun t=>zT listed t&&!CL i t)).map (·.at β)).Perm (X++rest):=by
 have h0:=OU hT zy zg GZ G0 β
 rcases hS i Dy with e | ⟨t0,t1,j,e,a1,a2,a3,a4,a5,a6,a7⟩
 ·exact ⟨AF tk i β,by unfold wY;rw [e];simp,_,h0⟩
 ·have m0:t0∈tk:=(b5.1 (by rw [e];simp:t0∈tk.filter (Rj i))).1
  have m1:t1∈tk:=(b5.1 (by rw [e];simp:t1∈tk.filter (Rj i))).1
  have go:∀ t,t∈tk→zT listed t=true→CL i t=false→LU i t=false→∃ rest,((tk.filter (fun t=>zT listed t&&!CL i t)).map (·.at β)).Perm ((t.at β :: AF tk i β)++rest):=by
   intro t ht h1 h2 h3
   have hm:t∈tk.filter (fun t=>(zT listed t&&!CL i t)&&!LU i t):=b5.2 ⟨ht,by simp [h1,h2,h3]⟩
   obtain ⟨a,b,C9⟩:=List.append_of_mem hm
   rw [C9] at h0
   refine ⟨(a++b).map (·.at β),h0.trans ?_⟩
   rw [b4,dk,b4]
   refine (b6 _ cz).trans ?_
   exact cz
  have hX:∀ t,t∈[t0,t1]→(t.at β :: AF tk i β)∈wY tk i β:=by
   intro t ht
   unfold wY
   rw [e]
   exact dl.2 ⟨t,ht,rfl⟩
  cases hj:listed.getD j false with
  | false=>
    have h1:zT listed t0=true:=by
     unfold zT
     rw [a1]
     simp only [hj,cb,d4]
     split
     ·rfl
     ·rename_i p hp;exact GZ p (a4 p hp)
    have h2:CL i t0=false:=by unfold CL;rw [a1];exact sQ a3
    obtain ⟨rest,hr⟩:=go t0 m0 h1 h2 a6
    exact ⟨_,hX t0 (by simp),rest,hr⟩
  | true=>
    have h1:zT listed t1=true:=by
     unfold zT
     rw [a2]
     simp only [hj,b9]
     split
     ·rfl
     ·rename_i c hc
      cases hl:listed.getD c false with
      | false=>rfl
      | true=>have:=zy.RW (a5 c hc) hl;rw [zg] at this;cases this
    have h2:CL i t1=false:=by
     unfold CL
     split
     ·rename_i c hc;exact sQ (G0 c (a5 c hc))
     ·rfl
    obtain ⟨rest,hr⟩:=go t1 m1 h1 h2 a7
    exact ⟨_,hX t1 (by simp),rest,hr⟩
def TV (P:Program) (all:Array Oper) (n:Nat) (B:Heap) (o:Oper) (e:Env) (Ti:Heap) (V:Bk→AV) (Pi:Bk→Heap):Prop:=
 ∀ w S a,a.tmps.size=n→a.defers=[]→de w S (Ti++B)→GP w S (looks all o) e a→∀ (K:Act→World→Prop) (Q:Exit→Act→World→Prop),
   (∀ b v w' S',kT w S (Ti++B) w' S' (Pi b++B)→de w' S' (Pi b++B)→At w' S' (V b) v→K (a.put o.dst v) w')→o.wp P a w K Q
def tU (P:Program) (all:Array Oper) (n:Nat) (B:Heap) (o:Oper) (e:Env) (Ti:Heap) (V:Bk→AV) (Pi:Bk→Heap):Prop:=
 (∀ d,o.dst=some d→d < n)∧((qB all o e true∧TV P all n B o e Ti V Pi)∨(qB all o e false∧∀ b,Pi b=Ti∧V b=.raw undef))
def Ka (e c:Env):Env:=fun s=>match e s with | some av=>some av | none=>c s
theorem OV {e c:Env} {s:Nat} {av:AV} (h:e s=some av):Ka e c s=some av:=by simp [Ka,h]
theorem qB.up {all:Array Oper} {o:Oper} {e c:Env} {b:Bool} (h:qB all o e b):qB all o (Ka e c) b:=by
 unfold qB at *
 cases hg:o.guard with
 | none=>rw [hg] at h;exact h
 | some g=>
   rw [hg] at h
   obtain ⟨s,h1,h2⟩:=h
   refine ⟨s,h1,?_⟩
   rcases h2 with ⟨x,h3,h4⟩ | ⟨h3,h4⟩
   ·exact .inl ⟨x,OV h3,h4⟩
   ·exact .inr ⟨OV h3,h4⟩
theorem GP.down {w:World} {S:Nat→Prop} {ls:List Nat} {e c:Env} {a:Act} (h:GP w S ls (Ka e c) a):GP w S ls e a:=fun s hs av pM=>h s hs av (OV pM)
theorem tU.up {P:Program} {all:Array Oper} {n:Nat} {B:Heap} {o:Oper} {e c:Env} {Ti:Heap} {V:Bk→AV} {Pi:Bk→Heap} (h:tU P all n B o e Ti V Pi):tU P all n B o (Ka e c) Ti V Pi:=by
 refine ⟨h.1,h.2.imp (fun x=>⟨x.1.up,fun w S a h1 h2 h3 h4=>x.2 w S a h1 h2 h3 h4.down⟩) (fun x=>⟨x.1.up,x.2⟩)⟩
theorem OW {all:Array Oper} {oR:Nat→Option AV} {V:Nat→Bk→AV} {cn:Nat→(Nat→Bk)→Env} {m:Nat} (h0:∀ β s,cn 0 β s=none) (hc:∀ i o,i < m→all[i]? =some o→∀ β,cn (i+1) β=match oR i with | none=>oT (cn i β) o.dst (some (V i (β i))) | some _=>cn i β) (hm:m≤all.size):
 ∀ i,i≤m→∀ β s av,cn i β s=some av→∃ k o,k < i∧all[k]? =some o∧o.dst=some s∧oR k=none∧av=V k (β k):=by
 intro i
 induction i with
 | zero=>intro _ β s av h;rw [h0] at h;cases h
 | succ i ih=>
   intro hi β s av h
   have gN:all[i]? =some all[i]:=by simp [show i < all.size by omega]
   rw [hc i _ (by omega) gN] at h
   cases pM:oR i with
   | some x=>
     rw [pM] at h
     obtain ⟨k,o,h1,h2⟩:=ih (by omega) β s av h
     exact ⟨k,o,by omega,h2⟩
   | none=>
     rw [pM] at h
     by_cases hd:(all[i]).dst=some s
     ·simp only [hd,nT] at h
      exact ⟨i,_,by omega,gN,hd,pM,(aa h).symm⟩
     ·simp only [kW hd] at h
      obtain ⟨k,o,h1,h2⟩:=ih (by omega) β s av h
      exact ⟨k,o,by omega,h2⟩
theorem M5 {cn:Nat→(Nat→Bk)→Env} {B:Heap} {tk:List Tok} {V:Nat→Bk→AV} (hB:xx all m) (hT:DI all m tk) (hSf:KA all m tk) (hm:m≤all.size) {Q:Exit→Act→World→Prop} (h0:en 0=e)
 (U6:∀ β s,cn 0 β s=none) (hcn:∀ i o,i < m→all[i]? =some o→∀ β,cn (i+1) β=match oR i with | none=>oT (cn i β) o.dst (some (V i (β i))) | some _=>cn i β)
 (hs:∀ i o,i < m→all[i]? =some o→(∀ β,∀ X∈wY tk i β,tU P all n (X++B) o (Ka (en i) (cn i β)) (vK tk i β) (V i) (fun b=>lG tk i (pO β i b)))∧en (i+1)=oT (en i) o.dst (oR i)∧(∀ av,oR i=some av→∀ b,V i b=av))
 (hU:∀ i j oi oj d,i < m→j < m→i≠j→all[i]? =some oi→all[j]? =some oj→oR i=none→oi.dst=some d→oj.dst≠some d) {w0:World} {S0:Nat→Prop} {Zq:Heap}
 (fin:∀ β a w S,a.tmps.size=n→a.defers=[]→de w S (OT tk β++B)→kT w0 S0 Zq w S (OT tk β++B)→Dz w S (en m) a→(∀ j o d,j < m→all[j]? =some o→oR j=none→o.dst=some d→∃ v,a.tmps[d]? =some v∧At w S (V j (β j)) v)→wpList P all Q (all.toList.drop m) a w):
 ∀ (fuel:Nat) (listed:Array Bool) (a:Act) (w:World) (S:Nat→Prop) (β:Nat→Bk),Rl all m listed→(listed.toList.count true)+fuel=all.size→a.tmps.size=n→a.defers=[]→de w S (tT tk listed β++B)→kT w0 S0 Zq w S (tT tk listed β++B)→Dz w S (xJ all oR e listed all.size) a→
   (∀ j o d,listed.getD j false=true→all[j]? =some o→oR j=none→o.dst=some d→∃ v,a.tmps[d]? =some v∧At w S (V j (β j)) v)→
   wpAny P .any all Q fuel listed a w:=by
 have XF:∀ i o,i < m→all[i]? =some o→en (i+1)=oT (en i) o.dst (oR i):=fun i o h1 h2=>(hs i o h1 h2).2.1
 have G0:∀ c i,Cf all c i→c≠i:=by
  have key:∀ c i,Cf all c i→i < c:=by
   intro c i h
   have one:∀ {j i:Nat} {oj:Oper},all[j]? =some oj→waits oj i=true→i < j:=by
    intro j i oj hj hw
    simp only [waits,List.any_eq_true,ac] at hw
    obtain ⟨e',he',Bx,U2⟩:=hw
    have:=zQ hB hj (by simpa using he') Bx
    obtain rfl:e'.on=i:=bc U2
    exact this
   induction h with
   | one hj hw=>exact one hj hw
   | step hj hw _ ih=>have:=one hj hw;omega
  intro c i h e;have:=key c i h;omega
 have done:∀ (fuel:Nat) (listed:Array Bool) (a:Act) (w:World) (S:Nat→Prop) (β:Nat→Bk),Rl all m listed→(listed.toList.count true)+fuel=all.size→a.tmps.size=n→a.defers=[]→de w S (tT tk listed β++B)→kT w0 S0 Zq w S (tT tk listed β++B)→Dz w S (xJ all oR e listed all.size) a→
  (∀ j o d,listed.getD j false=true→all[j]? =some o→oR j=none→o.dst=some d→∃ v,a.tmps[d]? =some v∧At w S (V j (β j)) v)→
  (∀ i,i < m→listed.getD i false=true)→wpAny P .any all Q fuel listed a w:=by
  intro fuel listed a w S β L hc jc HP hr hg u5 KD lE
  have CK:∀ i,m≤i→listed.getD i false=false:=fun i hi=>by
   cases hv:listed.getD i false with
   | false=>rfl
   | true=>have:=L.head i hv;omega
  have U3:listed.toList.count true=m:=by
   have:listed.toList=d5 m true++d5 (all.size - m) false:=by
    apply ck
    intro i
    rcases bv i m with hi | hi
    ·have qQ:i < listed.size:=by rw [L.size];omega
     rw [cJ (by simpa using hi)]
     have:=lE i hi
     simp [qQ] at this
     simp [qQ,hi,this]
    ·rw [List.getElem?_append_right (by simpa using hi)]
     rcases bv i listed.size with qQ | qQ
     ·have:=CK i hi
      simp [qQ] at this
      have h2:i - m < all.size - m:=by rw [L.size] at qQ;omega
      simp [qQ,h2,this]
     ·have h2:¬ i - m < all.size - m:=by rw [L.size] at qQ;omega
      simp [cl (l:=listed.toList) (by simpa using qQ),h2]
   rw [this,List.count_append,cK,cK]
   simp
  have U4:xJ all oR e listed all.size=en m:=by
   have key:∀ k,k≤all.size→xJ all oR e listed k=en (min k m):=by
    intro k
    induction k with
    | zero=>intro _;simp [xJ,h0]
    | succ k ih=>
      intro hk
      have gN:all[k]? =some all[k]:=by simp [show k < all.size by omega]
      simp only [xJ,gN,cv,ih (by omega)]
      rcases bv k m with h | h
      ·rw [if_pos (lE k h),bW (by omega),bW (by omega),XF k _ h gN]
      ·rw [if_neg (by rw [CK k h];simp),be (by omega),be (by omega)]
   rw [key all.size (ap _),be hm]
  have XL:tT tk listed β=OT tk β:=by
   unfold tT OT
   congr 1
   apply bx
   intro t ht
   obtain ⟨q1,q2,_⟩:=hT t ht
   unfold zT
   cases hp:t.prod with
   | none=>
     cases hc:t.cons with
     | none=>rfl
     | some c=>simp [lE c (q2 c hc).1]
   | some p=>
     cases hc:t.cons with
     | none=>simp [lE p (q1 p hp)]
     | some c=>simp [lE c (q2 c hc).1]
  rw [U4] at u5
  rw [XL] at hr hg
  exact Ih hB fuel m listed a w (ap _) (by omega) L.size lE CK (fin β a w S jc HP hr hg u5 (fun j o d hj ho pM hd=>KD j o d (lE j hj) ho pM hd))
 intro fuel
 induction fuel with
 | zero=>
   intro listed a w S β L hc jc HP hr hg u5 KD
   refine done 0 listed a w S β L hc jc HP hr hg u5 KD (fun i hi=>?_)
   have Ij:listed.toList.count true=listed.toList.length:=by rw [Array.length_toList,L.size];omega
   have lE:=List.count_eq_length.1 Ij
   have qQ:i < listed.size:=by rw [L.size];omega
   have:=lE listed[i] (by simp)
   simp [qQ];exact this.symm
 | succ fuel ih=>
   intro listed a w S β L hc jc HP hr hg u5 KD
   by_cases lE:∀ i,i < m→listed.getD i false=true
   ·exact done _ listed a w S β L hc jc HP hr hg u5 KD lE
   ·refine ⟨fun MU=>(lE fun i hi=>BC hB L.size MU i (by omega)).elim,fun i hi=>?_⟩
    obtain ⟨MT,Ii⟩:=yR hi
    have zg:=C8 Ii
    have Ch:all[i]? =some all[i]:=by simp [MT]
    have Dy:i < m:=by
     rcases bv i m with h | h
     ·exact h
     ·refine (lE fun j hj=>?_).elim
      have Rk:all[j]? =some all[j]:=by simp [show j < all.size by omega]
      exact nC.ready L.closed ((mi hB Ch Rk (by omega)).2 h) hi
    have qQ:i < listed.size:=by rw [L.size];exact MT
    obtain ⟨aa4,_,hV⟩:=hs i _ Dy Ch
    obtain ⟨X,hX,rest,prd⟩:=M4 hT hSf L.closed Dy zg (fun j hj=>nC.ready L.closed hj hi) (fun c h=>G0 c i h) β
    obtain ⟨T9,sk⟩:=aa4 β X hX
    have uB:GP w S (looks all all[i]) (Ka (en i) (cn i β)) a:=by
     intro s Rm av pM
     rw [Ka] at pM
     cases U8:en i s with
     | none=>
       rw [U8] at pM
       obtain ⟨k,o,k1,k2,k3,k4,k5⟩:=OW U6 hcn hm i (by omega) β s av pM
       have M6:listed.getD k false=true:=nC.ready L.closed ((mi hB Ch k2 k1).1 Dy (zR k3 Rm)) hi
       rw [k5]
       exact KD k o s M6 k2 k4 k3
     | some iI=>
     rw [U8] at pM
     obtain rfl:=aa pM
     have hc:=M1 (oR:=oR) (en:=en) (e:=e) hB L h0 XF hm Ch Dy zg (fun j hj=>nC.ready L.closed hj hi) Rm all.size (ap _)
     rw [be (by omega)] at hc
     exact u5 s iI (by rw [hc];exact U8)
    have L':Rl all m (listed.setIfInBounds i true):=by
     refine ⟨by simpa using L.size,fun k hk=>?_,fun k j o hk gN hw=>?_⟩
     ·rw [kV qQ] at hk
      split at hk
      ·omega
      ·exact L.head k hk
     ·rw [kV qQ] at hk
      rw [kV qQ]
      split
      ·rfl
      ·split at hk
       ·rename_i hki
        subst hki
        obtain rfl:all[k]=o:=by rw [Ch] at gN;exact aa gN
        exact vh Ch hi hw
       ·exact L.closed k j o hk gN hw
    have Ij:(listed.setIfInBounds i true).toList.count true+fuel=all.size:=by
     have OM:listed[i]=false:=by simpa [qQ] using zg
     have:(listed.setIfInBounds i true).toList=listed.toList.set i true:=by simp
     rw [this,List.count_set (by simpa using qQ)]
     have UW:listed.toList[i]'(by simpa using qQ)=false:=by simpa using OM
     rw [UW]
     have e1:(if (false==true)=true then 1 else 0)=0:=rfl
     have e2:(if (true==true)=true then 1 else 0)=1:=rfl
     rw [e1,e2]
     omega
    have XM:∀ T:Heap,(T++(X++rest)++B).Perm ((T++(X++B))++rest):=fun T=>by
     rw [bX,bX,bX,bX]
     exact b6 _ (b6 _ List.perm_append_comm)
    have pin:(tT tk listed β++B).Perm ((vK tk i β++(X++B))++rest):=
     (((U7 hT zg (fun j hj=>nC.ready L.closed hj hi) β).trans (b6 _ prd)).append_right B).trans (XM _)
    have XN:∀ b,((lG tk i (pO β i b)++(X++B))++rest).Perm (tT tk (listed.setIfInBounds i true) (pO β i b)++B):=fun b=>
     List.Perm.symm ((((R6 hT L.closed qQ zg (fun c h=>G0 c i h) β b).trans (b6 _ prd)).append_right B).trans (XM _))
    have hrp:de w S ((vK tk i β++(X++B))++rest):=hr.perm pin
    have Zk:∀ v,(a.put (all[i]).dst v).tmps.size=n:=fun v=>by cases (all[i]).dst<;>simp [Act.put,jc]
    have Zl:∀ v,(a.put (all[i]).dst v).defers=[]:=fun v=>by cases (all[i]).dst<;>simp [Act.put,HP]
    have aa5:∀ {w1 w2:World} {S1 S2:Nat→Prop} {h1 h2 GA OE:Heap},kT w1 S1 h1 w2 S2 h2→h1.Perm GA→h2.Perm OE→kT w1 S1 GA w2 S2 OE:=by
     intro w1 w2 S1 S2 h1 h2 GA OE ev p1 p2
     have has:∀ {g g':Heap} {k:Nat},g.Perm g'→(Has g k↔Has g' k):=fun p=>
      ⟨fun ⟨x,hx,hb⟩=>⟨x,p.mem_iff.1 hx,hb⟩,fun ⟨x,hx,hb⟩=>⟨x,p.mem_iff.2 hx,hb⟩⟩
     exact ⟨ev.os,ev.tape,ev.output,ev.size,ev.mf,fun k hk hh=>ev.other k hk (fun hc=>hh ((has p1).1 hc)),fun k hk=>((ev.new k ((has p2).2 hk)).imp (has p1).1 id),ev.drawn⟩
    have next:∀ (b:Bk) (v:Value) (w':World) (S':Nat→Prop),kT w S (vK tk i β++(X++B)) w' S' (lG tk i (pO β i b)++(X++B))→de w' S' (lG tk i (pO β i b)++(X++B))→At w' S' (V i b) v→wpAny P .any all Q fuel (listed.setIfInBounds i true) (a.put (all[i]).dst v) w':=by
     intro b v w' S' R7 R9 qo
     have Uc:de w' S' ((lG tk i (pO β i b)++(X++B))++rest):=hrp.frame R7 R9
     have ev2:=R7.frame rest
     refine ih _ _ _ S' (pO β i b) L' Ij (Zk v) (Zl v) (Uc.perm (XN b)) (hg.trans (aa5 ev2 pin.symm (XN b))) ?_ ?_
     ·intro s av pM
      rw [OS (oR:=oR) (e:=e) hB L Ch Dy zg s all.size (ap _),if_pos (by omega)] at pM
      by_cases hd:(all[i]).dst=some s
      ·rw [hd,nT] at pM
       have Og:=T9 s hd
       exact ⟨v,by rw [hd];simp [Act.put,jc,Og],by rw [← hV av pM b];exact qo⟩
      ·rw [kW hd] at pM
       obtain ⟨u,h1,h2⟩:=u5 s av pM
       refine ⟨u,?_,h2.mono R7.mf⟩
       cases U5:(all[i]).dst with
       | none=>simpa [Act.put] using h1
       | some d'=>
         have Aq:d'≠s:=fun e=>hd (by rw [U5,e])
         simp [Act.put,Aq,h1]
     ·intro j o d hj ho pM hd
      by_cases Zr:j=i
      ·subst Zr
       rw [Ch] at ho;obtain rfl:=aa ho
       have Og:=T9 d hd
       exact ⟨v,by rw [hd];simp [Act.put,jc,Og],by rw [R5];exact qo⟩
      ·have zw:listed.getD j false=true:=by rw [kV qQ,if_neg Zr] at hj;exact hj
       obtain ⟨u,h1,h2⟩:=KD j o d zw ho pM hd
       refine ⟨u,?_,by rw [LV Zr];exact h2.mono R7.mf⟩
       cases U5:(all[i]).dst with
       | none=>simpa [Act.put] using h1
       | some d'=>
         have Aq:d'≠d:=fun e=>hU j i o all[i] d (L.head j zw) Dy Zr ho Ch pM hd (by rw [U5,e])
         simp [Act.put,Aq,h1]
    simp only [wpOp,Ch]
    rcases sk with ⟨hw,hmv⟩ | ⟨hw,pM⟩
    ·rw [if_pos (yS hw uB)]
     exact .inl (hmv w S a jc HP (hrp.sub (cm _ _)) uB _ _ (fun b v w' S' R7 R9 qo=>next b v w' S' R7 R9 qo))
    ·rw [if_neg (by rw [yS hw uB];simp)]
     obtain ⟨e1,e2⟩:=pM ⟨none,0⟩
     replace e1:lG tk i (pO β i ⟨none,0⟩)=vK tk i β:=e1
     refine next ⟨none,0⟩ _ w S (by rw [e1];exact kT.refl _ _ _) (by rw [e1];exact hrp.sub (cm _ _)) ?_
     rw [e2];exact .raw _
end order
end Go.Eng
namespace Go.Eng
open Go
variable [bU]
theorem OX {P:Program} {o:Oper} {a:Act} {K0 K G:Act→World→Prop} {Q':Exit→Act→World→Prop} (hK:∀ v w',K0 (a.put o.dst v) w'→K (a.put o.dst v) w') (hd:∀ a' w',K0 a' w'→a'.defers=[]):
 ∀ r,o.upon P a K0 (zM G) r→o.upon P a K Q' r:=by
 intro r h
 unfold Oper.upon at *
 split at h
 ·exact hK _ _ h
 ·exact hK _ _ h
 ·rename_i d w'
  have:=hd _ _ h
  cases Ir:o.dst<;>simp [Act.put,Ir] at this
 ·refine Calls.mono h ?_
  intro e w' he
  cases e with
  | returned v=>exact hK _ _ he
  | panicked c=>cases he.1
  | outgrown=>obtain ⟨a0,w0,h0⟩:=he;cases h0.1
 ·exact Rows.mono h fun v w' hv=>hK _ _ hv
 ·cases h.1
 ·exact h.elim
theorem Sa {P:Program} {all:Array Oper} {o:Oper} {σ:St} {Q:St→Prop} (hg:o.guard=none) (h:ae P all [o] σ Q) {w:World} {S:Nat→Prop} {a:Act} (r:eU w S σ a) {K:Act→World→Prop} {Q':Exit→Act→World→Prop}
 (hK:∀ v w',Zd w S σ.hp Q (a.put o.dst v) w'→K (a.put o.dst v) w'):o.wp P a w K Q':=by
 have:=h w S a r
 unfold wpList at this
 rw [if_pos (by simp [Region.wanted,hg])] at this
 rcases this with h1 | ⟨_,a0,w0,h0,_⟩
 ·refine OX (G:=Zd w S σ.hp Q) (fun v w' hh=>hK v w' hh.2) (fun a' w' hh=>?_) _ h1
  obtain ⟨_,aJ,S',_,hr,_⟩:=hh
  exact hr.defers
 ·cases h0
variable {P:Program} {all:Array Oper} {n:Nat} {B:Heap} {tk:List Tok}
def M7 (x:Option AV) (c:(Nat→Bk)→Env) (d:Option Nat) (V:Bk→AV) (i:Nat):(Nat→Bk)→Env:=fun β=>match x with | none=>oT (c β) d (some (V (β i))) | some _=>c β
inductive Uo (P:Program) (all:Array Oper) (n:Nat) (B:Heap) (tk:List Tok) (dy:List Nat):Nat→List Oper→Env→((Nat→Bk)→Env)→List (Option AV×(Bk→AV))→Env→Prop
 | nil (i:Nat) (e:Env) (c:(Nat→Bk)→Env):Uo P all n B tk dy i [] e c [] e
 | cons {i:Nat} {o:Oper} {l:List Oper} {e e':Env} {c:(Nat→Bk)→Env} {D:List (Option AV×(Bk→AV))} {x:Option AV} {V:Bk→AV} (h:∀ β,∀ X∈wY tk i β,tU P all n (X++B) o (Ka e (c β)) (vK tk i β) V (fun b=>lG tk i (pO β i b))) (hv:∀ av,x=some av→∀ b,V b=av) (hx:x=none→dy.contains i=true)
  (k:Uo P all n B tk dy (i+1) l (oT e o.dst x) (M7 x c o.dst V i) D e'):Uo P all n B tk dy i (o :: l) e c ((x,V) :: D) e'
def AG (β:Nat→Bk):Nat→List Oper→List (Option AV×(Bk→AV))→List (Nat×AV)→List (Nat×AV)
 | i,o :: l,(none,V) :: D,a=>match o.dst with
   | some d=>AG β (i+1) l D ((d,V (β i)) :: a)
   | none=>AG β (i+1) l D a
 | i,_ :: l,(some _,_) :: D,a=>AG β (i+1) l D a
 | _,_,_,a=>a
def AT (P:Program) (all:Array Oper) (n:Nat) (B:Heap) (tk:List Tok) (dy:List Nat) (i:Nat) (l:List Oper) (tm:List (Nat×AV)) (acc:(Nat→Bk)→List (Nat×AV)) (Q:(Nat→Bk)→List (Nat×AV)→Prop):Prop:=
 ∃ D sb,Uo P all n B tk dy i l (lk tm) (fun β=>lk (acc β)) D (lk sb)∧∀ β,Q β (AG β i l D (acc β)++sb)
section rules
variable {dy:List Nat} {i:Nat} {rest:List Oper} {tm:List (Nat×AV)} {acc:(Nat→Bk)→List (Nat×AV)} {Q:(Nat→Bk)→List (Nat×AV)→Prop} {d:Nat} {ty:TypeId} {pos:String} {af:Array Edge} {op:Op}
theorem AT.nil {F:(Nat→Bk)→List (Nat×AV)} (hF:∀ β,F β=acc β++tm) (h:∀ β,Q β (F β)):AT P all n B tk dy i [] tm acc Q:=
 ⟨[],tm,.nil _ _ _,fun β=>by rw [show AG β i [] [] (acc β)=acc β from rfl,← hF];exact h β⟩
theorem AT.sta {o:Oper} {d:Nat} {av:AV} (hd:o.dst=some d) (h:∀ β,∀ X∈wY tk i β,tU P all n (X++B) o (Ka (lk tm) (lk (acc β))) (vK tk i β) (fun _=>av) (fun b=>lG tk i (pO β i b))) (k:AT P all n B tk dy (i+1) rest ((d,av) :: tm) acc Q):AT P all n B tk dy i (o :: rest) tm acc Q:=by
 obtain ⟨D,sb,k1,k2⟩:=k
 refine ⟨(some av,fun _=>av) :: D,sb,.cons h (fun iI e b=>aa e) (fun e=>by cases e) ?_,k2⟩
 have:oT (lk tm) o.dst (some av)=lk ((d,av) :: tm):=by
  rw [wX,hd];rfl
 rw [this];exact k1
theorem AT.dyn {o:Oper} {d:Nat} {V:Bk→AV} (hd:o.dst=some d) (um:lk tm d=none) (U9:dy.contains i=true) (h:∀ β,∀ X∈wY tk i β,tU P all n (X++B) o (Ka (lk tm) (lk (acc β))) (vK tk i β) V (fun b=>lG tk i (pO β i b))) (k:AT P all n B tk dy (i+1) rest tm (fun β=>(d,V (β i)) :: acc β) Q):AT P all n B tk dy i (o :: rest) tm acc Q:=by
 obtain ⟨D,sb,k1,k2⟩:=k
 refine ⟨(none,V) :: D,sb,.cons h (fun iI e b=>by cases e) (fun _=>U9) ?_,fun β=>?_⟩
 ·have:oT (lk tm) o.dst none=lk tm:=by
   funext s
   rw [hd]
   simp only [oT]
   split
   ·rename_i e;subst e;exact um.symm
   ·rfl
  rw [this]
  have e2:M7 none (fun β=>lk (acc β)) o.dst V i=fun β=>lk ((d,V (β i)) :: acc β):=by
   funext β
   simp only [M7,hd]
   rw [wX];rfl
  rw [e2];exact k1
 ·have:=k2 β
  simp only [AG,hd]
  exact this
theorem AT.sto {o:Oper} (hd:o.dst=none) (h:∀ β,∀ X∈wY tk i β,tU P all n (X++B) o (Ka (lk tm) (lk (acc β))) (vK tk i β) (fun _=>.raw undef) (fun b=>lG tk i (pO β i b))) (k:AT P all n B tk dy (i+1) rest tm acc Q):AT P all n B tk dy i (o :: rest) tm acc Q:=by
 obtain ⟨D,sb,k1,k2⟩:=k
 refine ⟨(some (.raw undef),fun _=>.raw undef) :: D,sb,.cons h (fun iI e b=>aa e) (fun e=>by cases e) ?_,k2⟩
 rw [hd];exact k1
def vL (tk:List Tok) (i j:Nat):Bool:=tk.all fun t=>(match t.prod with | some p=>al p i||aw j p | none=>true)&&(match t.cons with | some p=>al p i||aw j p | none=>true)&&((t.rds.all fun p=>al p i||aw j p)&&t.sft.all fun p=>al p i||aw j p)
theorem Is {i j:Nat} (h:vL tk i j=true) {k:Nat} (h1:i≤k) (h2:k < j) (β:Nat→Bk):vK tk k β=[]:=by
 unfold vK
 rw [c6,cc]
 intro t ht hc
 have:=ag.1 h t ht
 rw [ac,ac] at this
 replace this:=this.1
 unfold CL at hc
 split at hc
 ·rename_i c FO
  obtain rfl:c=k:=bc hc
  have:=this.2
  rw [FO] at this
  simp at this;omega
 ·cases hc
theorem FP {i j:Nat} (h:vL tk i j=true) {k:Nat} (h1:i≤k) (h2:k < j) (β:Nat→Bk):lG tk k β=[]:=by
 unfold lG
 rw [c6,cc]
 intro t ht hc
 have:=ag.1 h t ht
 rw [ac,ac] at this
 replace this:=this.1
 unfold R4 at hc
 split at hc
 ·rename_i c FO
  obtain rfl:c=k:=bc hc
  have:=this.1
  rw [FO] at this
  simp at this;omega
 ·cases hc
theorem OY {i j:Nat} (h:vL tk i j=true) {k:Nat} (h1:i≤k) (h2:k < j) (β:Nat→Bk):AF tk k β=[]:=by
 unfold AF
 rw [c6,cc]
 intro t ht hc
 have:=ag.1 h t ht
 rw [ac] at this
 have h3:=ag.1 (ce.1 this.2).1 k (by simpa [LU] using hc)
 simp at h3;omega
theorem FQ {i j:Nat} (h:vL tk i j=true) {k:Nat} (h1:i≤k) (h2:k < j) (β:Nat→Bk):wY tk k β=[[]]:=by
 have e:tk.filter (Rj k)=[]:=by
  rw [cc]
  intro t ht hc
  have:=ag.1 h t ht
  rw [ac] at this
  have h3:=ag.1 (ce.1 this.2).2 k (by simpa [Rj] using hc)
  simp at h3;omega
 unfold wY
 rw [e,OY h h1 h2 β]
theorem DJ (e:Env) (d:Option Nat) (av:AV):oT e d (some av)=zf e d av:=by
 cases d<;>rfl
theorem Iu {o:Oper} {e:Env} {av:AV} (hd:∀ d,o.dst=some d→d < n) (hg:qB all o e true) (h:MV P all n o e B av):tU P all n B o e [] (fun _=>av) (fun _=>[]):=by
 refine ⟨hd,.inl ⟨hg,fun w S a h1 h2 h3 h4 K Q hK=>?_⟩⟩
 exact h w S a h1 h2 h3 h4 K Q (fun v w' S' Uj qo=>hK ⟨none,0⟩ v w' S' (Uj.evo h3.slt _) (h3.grow Uj) qo)
theorem XO:∀ {l1:List Oper} {e e':Env} {i:Nat} (h:RU P all n B l1 e e') (hn:vL tk i (i+l1.length)=true) {l2:List Oper} {c:(Nat→Bk)→Env} {D:List (Option AV×(Bk→AV))} {e2:Env},Uo P all n B tk dy (i+l1.length) l2 e' c D e2→
 ∃ D1,Uo P all n B tk dy i (l1++l2) e c (D1++D) e2∧D1.length=l1.length∧∀ x∈D1,x.1.isSome=true:=by
 intro l1 e e' i h
 induction h generalizing i with
 | nil e=>intro hn l2 c D e2 k;exact ⟨[],by simpa using k,rfl,by simp⟩
 | @run o l e e' av hg hm hd k ih=>
   intro hn l2 c D e2 kk
   have Iv:vL tk (i+1) (i+1+l.length)=true:=by
    unfold vL at hn ⊢
    rw [ag] at hn ⊢
    intro t ht
    have:=hn t ht
    rw [ac,ac] at this ⊢
    refine ⟨⟨?_,?_⟩,?_⟩
    ·have h1:=this.1.1
     cases hp:t.prod<;>rw [hp] at h1<;>simp_all<;>omega
    ·have h1:=this.1.2
     cases hp:t.cons<;>rw [hp] at h1<;>simp_all<;>omega
    ·have h1:=this.2
     rw [ac,ag,ag] at h1 ⊢
     exact ⟨fun p hp=>by have:=h1.1 p hp;simp at this ⊢;omega,fun p hp=>by have:=h1.2 p hp;simp at this ⊢;omega⟩
   obtain ⟨D1,a1,a2,a3⟩:=ih Iv (l2:=l2) (D:=D) (e2:=e2) (by rw [show i+1+l.length=i+(o :: l).length by simp;omega];exact kk)
   refine ⟨(some av,fun _=>av) :: D1,?_,by simp [a2],?_⟩
   ·refine .cons (fun β X hX=>?_) (fun iI e b=>aa e) (fun e=>by cases e) (by rw [DJ];exact a1)
    rw [FQ hn (ap _) (by simp)] at hX
    obtain rfl:=bi.1 hX
    rw [Is hn (ap _) (by simp),show (fun b=>lG tk i (pO β i b))=fun _=>[] from funext fun b=>FP hn (ap _) (by simp) _]
    exact (Iu hd hg hm).up
   ·intro x hx
    rcases d6.1 hx with rfl | hx
    ·rfl
    ·exact a3 x hx
 | @pass o l e e' hg hd k ih=>
   intro hn l2 c D e2 kk
   have Iv:vL tk (i+1) (i+1+l.length)=true:=by
    unfold vL at hn ⊢
    rw [ag] at hn ⊢
    intro t ht
    have:=hn t ht
    rw [ac,ac] at this ⊢
    refine ⟨⟨?_,?_⟩,?_⟩
    ·have h1:=this.1.1
     cases hp:t.prod<;>rw [hp] at h1<;>simp_all<;>omega
    ·have h1:=this.1.2
     cases hp:t.cons<;>rw [hp] at h1<;>simp_all<;>omega
    ·have h1:=this.2
     rw [ac,ag,ag] at h1 ⊢
     exact ⟨fun p hp=>by have:=h1.1 p hp;simp at this ⊢;omega,fun p hp=>by have:=h1.2 p hp;simp at this ⊢;omega⟩
   obtain ⟨D1,a1,a2,a3⟩:=ih Iv (l2:=l2) (D:=D) (e2:=e2) (by rw [show i+1+l.length=i+(o :: l).length by simp;omega];exact kk)
   refine ⟨(some (.raw undef),fun _=>.raw undef) :: D1,?_,by simp [a2],?_⟩
   ·refine .cons (fun β X hX=>?_) (fun iI e b=>aa e) (fun e=>by cases e) (by rw [DJ];exact a1)
    rw [FQ hn (ap _) (by simp)] at hX
    obtain rfl:=bi.1 hX
    rw [Is hn (ap _) (by simp),show (fun b=>lG tk i (pO β i b))=fun _=>[] from funext fun b=>FP hn (ap _) (by simp) _]
    exact ⟨hd,.inr ⟨hg.up,fun b=>⟨rfl,rfl⟩⟩⟩
   ·intro x hx
    rcases d6.1 hx with rfl | hx
    ·rfl
    ·exact a3 x hx
theorem FR (β:Nat→Bk):∀ {l1:List Oper} {D1:List (Option AV×(Bk→AV))} (i:Nat) {l2:List Oper} {D:List (Option AV×(Bk→AV))} (a:List (Nat×AV)),D1.length=l1.length→(∀ x∈D1,x.1.isSome=true)→AG β i (l1++l2) (D1++D) a=AG β (i+l1.length) l2 D a
 | [],[],i,l2,D,a,_,_=>by simp
 | o :: l1,(some av,V) :: D1,i,l2,D,a,h,hs=>by
   simp only [bp,AG]
   rw [FR β (i+1) a (by simpa using h) (fun x hx=>hs x (by simp [hx]))]
   simp [d7,Nat.add_comm 1]
 | o :: l1,(none,V) :: D1,i,l2,D,a,h,hs=>by have:=hs (none,V) (by simp);cases this
 | [],_ :: _,i,l2,D,a,h,hs=>by cases h
 | _ :: _,[],i,l2,D,a,h,hs=>by cases h
theorem AT.am {l l1 l2:List Oper} (m:Nat) (hs:Ik m l=some (l1,l2)) (hn:vL tk i (i+m)=true) (h:AM P all n B l1 tm (fun sb=>AT P all n B tk dy (i+m) l2 sb acc Q)):AT P all n B tk dy i l tm acc Q:=by
 obtain ⟨rfl,rfl⟩:=yT hs
 obtain ⟨AH,h1,D,sb,h2,h3⟩:=h
 obtain ⟨D1,a1,a2,a3⟩:=XO h1 hn h2
 refine ⟨D1++D,sb,a1,fun β=>?_⟩
 rw [FR β i (acc β) a2 a3]
 exact h3 β
theorem wg {o:Oper} {Ti H1:Heap} {V:Bk→AV} {Pi H2:Bk→Heap} (hg:o.guard=none) (hd:∀ d,o.dst=some d→d < n) (h1:tJ Ti B=some H1) (h2:∀ b,tJ (Pi b) B=some (H2 b))
 (vJ:ae P all [o] ⟨n,GS (looks all o) tm,H1⟩ (fun aJ=>∃ b AH,aJ=⟨n,AH,H2 b⟩∧∀ d,o.dst=some d→lk AH d=some (V b)))
 (hv:o.dst=none→∀ b,V b=.raw undef):tU P all n B o (lk tm) Ti V Pi:=by
 refine ⟨hd,.inl ⟨by simp [qB,hg],fun w S a s1 s2 s3 s4 K Q hK=>?_⟩⟩
 have e1:=qq h1
 rw [e1] at s3 hK
 refine Sa hg vJ (sr s1 s2 s3 s4) (fun v w' aa6=>?_)
 obtain ⟨aJ,S',⟨b,AH,rfl,Sb⟩,hr,R7⟩:=aa6
 have e2:=qq (h2 b)
 cases Ir:o.dst with
 | some d=>
   have T9:=hd d Ir
   obtain ⟨u,g1,g2⟩:=hr.tm d _ (Sb d Ir)
   have hu:u=v:=by
    rw [Ir] at g1
    simp [Act.put,s1,T9] at g1
    exact g1.symm
   rw [hu] at g2
   rw [← Ir]
   exact hK b v w' S' (by rw [e2];exact R7) (by rw [e2];exact hr.hp) g2
 | none=>
   have:a.put none v=a.put o.dst undef:=by rw [Ir];rfl
   rw [this]
   exact hK b undef w' S' (by rw [e2];exact R7) (by rw [e2];exact hr.hp) (by rw [hv Ir b];exact .raw _)
theorem AT.CN {av:AV} {Ti H1 Pi H2:Heap} (MU:∀ β,wY tk i β=[[]]) (OZ:∀ β,vK tk i β=Ti) (M8:∀ β,lG tk i β=Pi) (h1:tJ Ti B=some H1) (h2:tJ Pi B=some H2) (hn:al d n=true)
 (vJ:ae P all [⟨some d,op,ty,pos,af,none⟩] ⟨n,GS (looks all ⟨some d,op,ty,pos,af,none⟩) tm,H1⟩ (fun aJ=>∃ AH,aJ=⟨n,AH,H2⟩∧lk AH d=some av))
 (k:AT P all n B tk dy (i+1) rest ((d,av) :: tm) acc Q):AT P all n B tk dy i (⟨some d,op,ty,pos,af,none⟩ :: rest) tm acc Q:=by
 refine AT.sta rfl (fun β X hX=>?_) k
 rw [MU β] at hX
 obtain rfl:=bi.1 hX
 rw [cf,OZ β,show (fun b=>lG tk i (pO β i b))=fun _=>Pi from funext fun b=>M8 _]
 refine tU.up ?_
 refine wg rfl (fun d' vT=>by obtain rfl:=aa vT;simpa using hn) h1 (fun _=>h2) ?_ (fun e=>by cases e)
 refine fun w S a r=>jr ?_ _ _ _ (vJ w S a r)
 rintro e a' w' ⟨he,aJ,S',⟨AH,q1,q2⟩,hh⟩
 exact ⟨he,aJ,S',⟨⟨none,0⟩,AH,q1,fun d' vT=>by obtain rfl:=aa vT;exact q2⟩,hh⟩
theorem AT.zU {V:Bk→AV} {Ti H1:Heap} {Pi H2:Bk→Heap} (MU:∀ β,wY tk i β=[[]]) (OZ:∀ β,vK tk i β=Ti) (M8:∀ β b,lG tk i (pO β i b)=Pi b) (h1:tJ Ti B=some H1) (h2:∀ b,tJ (Pi b) B=some (H2 b)) (hn:al d n=true) (um:lk tm d=none) (U9:dy.contains i=true)
 (vJ:ae P all [⟨some d,op,ty,pos,af,none⟩] ⟨n,GS (looks all ⟨some d,op,ty,pos,af,none⟩) tm,H1⟩ (fun aJ=>∃ b AH,aJ=⟨n,AH,H2 b⟩∧lk AH d=some (V b)))
 (k:AT P all n B tk dy (i+1) rest tm (fun β=>(d,V (β i)) :: acc β) Q):AT P all n B tk dy i (⟨some d,op,ty,pos,af,none⟩ :: rest) tm acc Q:=by
 refine AT.dyn rfl um U9 (fun β X hX=>?_) k
 rw [MU β] at hX
 obtain rfl:=bi.1 hX
 rw [cf,OZ β,show (fun b=>lG tk i (pO β i b))=Pi from funext (M8 β)]
 refine tU.up ?_
 refine wg rfl (fun d' vT=>by obtain rfl:=aa vT;simpa using hn) h1 h2 ?_ (fun e=>by cases e)
 refine fun w S a r=>jr ?_ _ _ _ (vJ w S a r)
 rintro e a' w' ⟨he,aJ,S',⟨b,AH,q1,q2⟩,hh⟩
 exact ⟨he,aJ,S',⟨b,AH,q1,fun d' vT=>by obtain rfl:=aa vT;exact q2⟩,hh⟩
theorem AT.M9 {Ti H1 Pi H2:Heap} (MU:∀ β,wY tk i β=[[]]) (OZ:∀ β,vK tk i β=Ti) (M8:∀ β,lG tk i β=Pi) (h1:tJ Ti B=some H1) (h2:tJ Pi B=some H2)
 (vJ:ae P all [⟨none,op,ty,pos,af,none⟩] ⟨n,GS (looks all ⟨none,op,ty,pos,af,none⟩) tm,H1⟩ (fun aJ=>∃ AH,aJ=⟨n,AH,H2⟩))
 (k:AT P all n B tk dy (i+1) rest tm acc Q):AT P all n B tk dy i (⟨none,op,ty,pos,af,none⟩ :: rest) tm acc Q:=by
 refine AT.sto rfl (fun β X hX=>?_) k
 rw [MU β] at hX
 obtain rfl:=bi.1 hX
 rw [cf,OZ β,show (fun b=>lG tk i (pO β i b))=fun _=>Pi from funext fun b=>M8 _]
 refine tU.up ?_
 refine wg rfl (fun d' vT=>by cases vT) h1 (fun _=>h2) ?_ (fun _ b=>rfl)
 refine fun w S a r=>jr ?_ _ _ _ (vJ w S a r)
 rintro e a' w' ⟨he,aJ,S',⟨AH,q1⟩,hh⟩
 exact ⟨he,aJ,S',⟨⟨none,0⟩,AH,q1,fun d' vT=>by cases vT⟩,hh⟩
theorem FT (a b:List (Nat×AV)):lk (a++b)=Ka (lk a) (lk b):=by
 funext s
 induction a with
 | nil=>rfl
 | cons x a ih=>
   obtain ⟨k,v⟩:=x
   simp only [bp,lk,Ka] at ih ⊢
   split
   ·rfl
   ·exact ih
theorem AT.runN {Ti H1 Pi H2:(Nat→Bk)→Heap} (MU:∀ β,wY tk i β=[[]]) (OZ:∀ β,vK tk i β=Ti β) (M8:∀ β b,lG tk i (pO β i b)=Pi β) (h1:∀ β,tJ (Ti β) B=some (H1 β)) (h2:∀ β,tJ (Pi β) B=some (H2 β))
 (vJ:∀ β,ae P all [⟨none,op,ty,pos,af,none⟩] ⟨n,GS (looks all ⟨none,op,ty,pos,af,none⟩) (tm++acc β),H1 β⟩ (fun aJ=>∃ AH,aJ=⟨n,AH,H2 β⟩))
 (k:AT P all n B tk dy (i+1) rest tm acc Q):AT P all n B tk dy i (⟨none,op,ty,pos,af,none⟩ :: rest) tm acc Q:=by
 refine AT.sto rfl (fun β X hX=>?_) k
 rw [MU β] at hX
 obtain rfl:=bi.1 hX
 rw [cf,OZ β,show (fun b=>lG tk i (pO β i b))=fun _=>Pi β from funext (M8 β),← FT]
 refine wg rfl (fun d' vT=>by cases vT) (h1 β) (fun _=>h2 β) ?_ (fun _ b=>rfl)
 refine fun w S a r=>jr ?_ _ _ _ (vJ β w S a r)
 rintro e a' w' ⟨he,aJ,S',⟨AH,q1⟩,hh⟩
 exact ⟨he,aJ,S',⟨⟨none,0⟩,AH,q1,fun d' vT=>by cases vT⟩,hh⟩
theorem AT.rd {av:AV} {Rs H1:Heap} (hr:∀ β,wY tk i β=[Rs]) (h1:tJ Rs B=some H1) (OZ:∀ β,vK tk i β=[]) (M8:∀ β,lG tk i β=[])
 (q:QV P ⟨some d,op,ty,pos,af,none⟩ ⟨n,GS (looks all ⟨some d,op,ty,pos,af,none⟩) tm,H1⟩ av) (hn:al d n=true)
 (k:AT P all n B tk dy (i+1) rest ((d,av) :: tm) acc Q):AT P all n B tk dy i (⟨some d,op,ty,pos,af,none⟩ :: rest) tm acc Q:=by
 refine AT.sta rfl (fun β X hX=>?_) k
 rw [hr β] at hX
 obtain rfl:=bi.1 hX
 rw [qq h1,OZ β,show (fun b=>lG tk i (pO β i b))=fun _=>[] from funext fun b=>M8 _]
 refine tU.up ?_
 refine Iu (fun d' vT=>by obtain rfl:=aa vT;simpa using hn) rfl (fun w S a s1 s2 s3 s4 K Q' hK=>?_)
 obtain ⟨v,g1,g2⟩:=q w S a (sr s1 s2 s3 s4)
 show Oper.upon P _ a K Q' _
 rw [g1 w (Ext.refl w)]
 exact hK v w S (Grow.refl s3.slt) g2
end rules
end Go.Eng
namespace Go.Eng
open Go
variable [bU]
theorem Uo.Kw {P:Program} {all:Array Oper} {n:Nat} {B:Heap} {tk:List Tok} {dy:List Nat} {i:Nat} {l:List Oper} {e e':Env} {c:(Nat→Bk)→Env} {D:List (Option AV×(Bk→AV))} (h:Uo P all n B tk dy i l e c D e'):
 ∃ (en:Nat→Env) (cn:Nat→(Nat→Bk)→Env),en i=e∧cn i=c∧en (i+l.length)=e'∧D.length=l.length∧∀ j o x V,l[j]? =some o→D[j]? =some (x,V)→
   (∀ β,∀ X∈wY tk (i+j) β,tU P all n (X++B) o (Ka (en (i+j)) (cn (i+j) β)) (vK tk (i+j) β) V (fun b=>lG tk (i+j) (pO β (i+j) b)))∧en (i+j+1)=oT (en (i+j)) o.dst x∧(∀ av,x=some av→∀ b,V b=av)∧(x=none→dy.contains (i+j)=true)∧cn (i+j+1)=M7 x (cn (i+j)) o.dst V (i+j):=by
 induction h with
 | nil i e c=>exact ⟨fun _=>e,fun _=>c,rfl,rfl,rfl,rfl,fun j o x V h=>by simp at h⟩
 | @cons i o l e e' c D x V h hv hx k ih=>
   obtain ⟨en,cn,h0,U6,h1,h2,h3⟩:=ih
   refine ⟨fun k=>if k=i then e else en k,fun k=>if k=i then c else cn k,by simp,by simp,?_,by simp [h2],fun j o' x' V' ho hD=>?_⟩
   ·show (if i+(o :: l).length=i then e else en (i+(o :: l).length))=e'
    rw [if_neg (by simp),← h1]
    congr 1
    simp;omega
   ·match j with
    | 0=>
      simp at ho hD
      obtain ⟨rfl,rfl⟩:=hD
      subst ho
      simp only [c8,if_true]
      refine ⟨h,?_,hv,hx,?_⟩
      ·rw [if_neg (by omega),h0]
      ·rw [if_neg (by omega),U6]
    | j+1=>
      have:=h3 j o' x' V' (by simpa using ho) (by simpa using hD)
      rw [show i+1+j=i+(j+1) by omega] at this
      simp only
      rw [if_neg (show ¬ i+(j+1)=i by omega),if_neg (show ¬ i+(j+1)+1=i by omega),if_neg (show ¬ i+(j+1)=i by omega),if_neg (show ¬ i+(j+1)+1=i by omega)]
      exact this
def Up (l:List Oper) (dy:List Nat):Bool:=dy.all fun i=>(List.range l.length).all fun j=>ai i j||(match l[i]?,l[j]? with
 | some oi,some oj=>(match oi.dst,oj.dst with | some d,some d'=>!Nat.beq d d' | _,_=>true)
 | _,_=>true)
theorem KE {l:List Oper} {dy:List Nat} (h:Up l dy=true) {i j:Nat} {oi oj:Oper} {d:Nat} (hi:dy.contains i=true) (yQ:i≠j) (h1:l[i]? =some oi) (h2:l[j]? =some oj) (hd:oi.dst=some d):oj.dst≠some d:=by
 intro vT
 have hm:i∈dy:=by simpa using hi
 have hj:j < l.length:=(aH.1 h2).1
 have:=ag.1 (ag.1 h i hm) j (dV.2 hj)
 rw [h1,h2] at this
 simp only [hd,vT] at this
 have hb:ai i j=false:=sQ yQ
 rw [hb] at this
 simp at this
def O0 (tk:List Tok):Heap:=(tk.filter (fun t=>t.prod.isNone)).map (fun t=>t.at (fun _=>⟨none,0⟩))
theorem O1:∀ (a b:List (Nat×AV)) (s:Nat) (av:AV),lk (a++b) s=some av→lk a s=some av∨lk b s=some av
 | [],b,s,av,h=>.inr h
 | (k,v) :: a,b,s,av,h=>by
   simp only [bp,lk] at h ⊢
   split at h
   ·exact .inl h
   ·exact O1 a b s av h
theorem AI (β:Nat→Bk):∀ (l:List Oper) (D:List (Option AV×(Bk→AV))) (i:Nat) (a:List (Nat×AV)) (s:Nat) (av:AV),lk (AG β i l D a) s=some av→lk a s=some av∨∃ (j:Nat) (o:Oper) (V:Bk→AV),l[j]? =some o∧D[j]? =some (none,V)∧o.dst=some s∧av=V (β (i+j))
 | [],D,i,a,s,av,h=>by
   have:AG β i [] D a=a:=by cases D<;>rfl
   rw [this] at h;exact .inl h
 | o :: l,[],i,a,s,av,h=>.inl h
 | o :: l,(some x,V) :: D,i,a,s,av,h=>by
   simp only [AG] at h
   rcases AI β l D (i+1) a s av h with h | ⟨j,o',V',h1,h2,h3,h4⟩
   ·exact .inl h
   ·exact .inr ⟨j+1,o',V',by simpa using h1,by simpa using h2,h3,by rw [h4];congr 2;omega⟩
 | o :: l,(none,V) :: D,i,a,s,av,h=>by
   simp only [AG] at h
   cases hd:o.dst with
   | none=>
     rw [hd] at h
     rcases AI β l D (i+1) a s av h with h | ⟨j,o',V',h1,h2,h3,h4⟩
     ·exact .inl h
     ·exact .inr ⟨j+1,o',V',by simpa using h1,by simpa using h2,h3,by rw [h4];congr 2;omega⟩
   | some d=>
     rw [hd] at h
     rcases AI β l D (i+1) _ s av h with h5 | ⟨j,o',V',h1,h2,h3,h4⟩
     ·simp only [lk] at h5
      split at h5
      ·rename_i hb
       obtain rfl:d=s:=by simpa using hb
       exact .inr ⟨0,o,V,rfl,rfl,hd,by simpa using (aa h5).symm⟩
      ·exact .inl h5
     ·exact .inr ⟨j+1,o',V',by simpa using h1,by simpa using h2,h3,by rw [h4];congr 2;omega⟩
theorem ab.lB {P:Program} {R:St→Prop} {k:List It} {id n:Nat} {tm:List (Nat×AV)} {hp:Heap} {l hd tl:List Oper} (m:Nat) (hm:P.follows .mixedOrders=true) (hs:Ik m l=some (hd,tl)) {A:List Nat} (hA:MS l.toArray=A) (hB0:Ig l.toArray m A=true)
 (tk:List Tok) (dy:List Nat) (hT0:(XK A m tk&&Un A m tk)=true) (hU0:Up hd dy=true) {B H0:Heap} (Ca:O0 tk=H0) (aa7:HR hp H0 B) {HH:(Nat→Bk)→Heap} (O2:∀ β,tJ (OT tk β) B=some (HH β))
 (h:AT P l.toArray n B tk dy 0 hd tm (fun _=>[]) (fun β sb=>ae P l.toArray tl ⟨n,sb,HH β⟩ (ab P R k))):ab P R (.code (.region id l.toArray true) :: k) ⟨n,tm,hp⟩:=by
 have hB:xx l.toArray m:=⟨A,hA,hB0⟩
 have hT:DI l.toArray m tk:=M3 hA (ce.1 hT0).1
 intro w S a r
 obtain ⟨hl,RY⟩:=yT hs
 obtain ⟨D,sb,hAf,vJ⟩:=h
 obtain ⟨en,cn,e0,ec0,e1,e2,e3⟩:=hAf.Kw
 rw [bo,RY] at e1
 have jc:m≤l.toArray.size:=by simp [hl,RY]
 let oR:Nat→Option AV:=fun j=>(D[j]?).bind (·.1)
 let V:Nat→Bk→AV:=fun j=>match D[j]? with | some x=>x.2 | none=>fun _=>.nil
 have G1:∀ j o,j < m→l.toArray[j]? =some o→hd[j]? =some o:=by
  intro j o hj ho
  have:l[j]? =some o:=by simpa using ho
  rw [hl,cJ (by omega)] at this
  exact this
 have hD:∀ j,j < m→∃ x W,D[j]? =some (x,W)∧oR j=x∧V j=W:=by
  intro j hj
  have:j < D.length:=by rw [e2,RY];exact hj
  refine ⟨D[j].1,D[j].2,by simp [this],?_,?_⟩
  ·simp [oR,this]
  ·simp [V,this]
 refine wp_region_any hm ?_
 have DA:Ext w {w with drawn:=w.drawn+1}:=Ext.LK w _ (Nat.le_succ _)
 let Zt:Nat→Bk:=fun _=>⟨none,0⟩
 have hf:∀ k,(bm l.toArray.size false).getD k false=false:=by
  intro k
  rcases bv k l.toArray.size with h | h
  ·simp at h;simp [h]
  ·simp at h;simp [Nat.not_lt.2 h]
 have U6:∀ k,xJ l.toArray oR (lk tm) (bm l.toArray.size false) k=lk tm:=by
  intro k
  induction k with
  | zero=>rfl
  | succ k ih=>simp only [xJ,ih];rw [if_neg (by rw [hf k];simp)]
 have Uh:tT tk (bm l.toArray.size false) Zt=H0:=by
  rw [← Ca]
  unfold tT O0
  have e:tk.filter (zT (bm l.toArray.size false))=tk.filter (fun t=>t.prod.isNone):=by
   apply bx
   intro t ht
   unfold zT
   cases t.prod with
   | none=>
     cases t.cons with
     | none=>rfl
     | some c=>simp only [hf c,cb,Bool.and_self,d8]
   | some p=>simp only [hf p,Bool.false_and,d8]
  rw [e]
 have mC:=aa7.perm
 have hr0:de {w with drawn:=w.drawn+1} S (tT tk (bm l.toArray.size false) Zt++B):=by
  rw [Uh];exact (r.hp.ext DA).perm mC
 have ev0:kT w S hp {w with drawn:=w.drawn+1} S (tT tk (bm l.toArray.size false) Zt++B):=by
  rw [Uh]
  have:=kT.ext (h:=hp) r.hp.slt DA
  exact {this with new:=fun k hk=>this.new k (by
   obtain ⟨x,hx,hb⟩:=hk
   exact ⟨x,mC.mem_iff.2 hx,hb⟩)}
 refine M5 (P:=P) (all:=l.toArray) (n:=n) (m:=m) (oR:=oR) (en:=en) (cn:=cn) (e:=lk tm) (V:=V) (B:=B) (tk:=tk) hB hT (KC hA (ce.1 hT0).2) jc e0 (fun β s=>by rw [ec0];rfl) ?_ ?_ ?_ (w0:=w) (S0:=S) (Zq:=hp) ?_ l.toArray.size (bm l.toArray.size false) a _ S Zt
  ⟨by simp,(fun k hk=>by rw [hf k] at hk;cases hk),(fun k i o hk=>by rw [hf k] at hk;cases hk)⟩ (by simp [cK]) r.size r.defers hr0 ev0 (by rw [U6];exact (r.ext DA).tm) (fun j o d hj=>by rw [hf j] at hj;cases hj)
 ·intro i o hi ho β
  obtain ⟨x,W,d1,d2,d3⟩:=hD i hi
  have:=e3 i o x W (G1 i o hi ho) d1
  rw [bo] at this
  rw [d2,d3,this.2.2.2.2];rfl
 ·intro i o hi ho
  obtain ⟨x,W,d1,d2,d3⟩:=hD i hi
  have:=e3 i o x W (G1 i o hi ho) d1
  rw [bo] at this
  rw [d2,d3]
  exact ⟨this.1,this.2.1,this.2.2.1⟩
 ·intro i j oi oj d hi hj yQ Ch Rk pM U5
  obtain ⟨x,W,d1,d2,d3⟩:=hD i hi
  have:=e3 i oi x W (G1 i oi hi Ch) d1
  rw [bo] at this
  exact KE hU0 (this.2.2.2.1 (by rw [← d2];exact pM)) yQ (G1 i oi hi Ch) (G1 j oj hj Rk) U5
 ·intro β a' w' S' h1 h2 h3 h4 h5 h6
  have XG:l.toArray.toList.drop m=tl:=by
   simp only [hl,← RY]
   exact List.drop_left
  rw [XG]
  rw [qq (O2 β)] at h3 h4
  rw [e1] at h5
  refine jr ?_ _ _ _ ((vJ β).go (h:=hp) (w:=w) (S:=S) ⟨h1,h2,fun s av Sb=>?_,h3⟩ h4)
  ·rintro ex a2 w2 ⟨rfl,LM,S2,q1,q2,q3⟩
   exact ⟨LM,S2,q1,q2,q3⟩
  ·rcases O1 _ _ _ _ Sb with Sb | Sb
   ·rcases AI β hd D 0 [] s av Sb with Sb | ⟨j,o,W,g1,g2,g3,g4⟩
    ·cases Sb
    ·have hj:j < m:=by rw [← RY];exact (aH.1 g1).1
     obtain ⟨x,W',d1,d2,d3⟩:=hD j hj
     rw [g2] at d1
     obtain ⟨rfl,rfl⟩:=Prod.mk.inj (aa d1)
     have Rk:l.toArray[j]? =some o:=by
      have:l[j]? =some o:=by rw [hl,cJ (by omega)];exact g1
      simpa using this
     obtain ⟨v,k1,k2⟩:=h6 j o s hj Rk d2 g3
     rw [d3] at k2
     rw [g4,bo]
     exact ⟨v,k1,k2⟩
   ·exact h5 s av Sb
def O3 {α:Type}:List α→List α→Option (List α)
 | [],r=>some r
 | x :: l,r=>match O3 l r with
   | some m=>some (x :: m)
   | none=>none
theorem LW {α:Type}:∀ {l r m:List α},O3 l r=some m→l++r=m
 | [],r,m,h=>by simpa [O3] using h
 | x :: l,r,m,h=>by
   simp only [O3] at h
   split at h
   ·rename_i m' hm
    obtain rfl:=aa h
    rw [bp,LW hm]
   ·cases h
theorem AT.xK {P:Program} {all:Array Oper} {n:Nat} {B:Heap} {tk:List Tok} {dy:List Nat} {i:Nat} {tm:List (Nat×AV)} {acc F:(Nat→Bk)→List (Nat×AV)} {Q:(Nat→Bk)→List (Nat×AV)→Prop} (hF:∀ β,O3 (acc β) tm=some (F β)) (h:∀ β,Q β (F β)):AT P all n B tk dy i [] tm acc Q:=
 AT.nil (fun β=>(LW (hF β)).symm) h
theorem FU {w:World} {S:Nat→Prop} {hp cQ:Heap} {b:Bk} {cs lA:List AV} (r:de w S hp) (u:mF hp b (.cells cs) b (.cells lA) cQ) (hl:lA.length=cs.length) (h1:∀ c∈lA,c.one=true) (qo:∀ (i:Nat) c c' v,cs[i]? =some c→lA[i]? =some c'→At w S c v→At w S c' v):de w S cQ∧kT w S hp w S cQ:=by
 obtain ⟨pre,post,e1,e2⟩:=u.split
 subst e1;subst e2
 have hblk:∀ n,Has (pre++(b,Ob.cells lA) :: post) n↔Has (pre++(b,Ob.cells cs) :: post) n:=by
  intro n
  constructor<;>rintro ⟨x,hx,hb⟩<;>rcases bw.1 hx with rfl | hx
  ·exact ⟨(b,.cells cs),bw.2 (.inl rfl),hb⟩
  ·exact ⟨x,bw.2 (.inr hx),hb⟩
  ·exact ⟨(b,.cells lA),bw.2 (.inl rfl),hb⟩
  ·exact ⟨x,bw.2 (.inr hx),hb⟩
 refine ⟨⟨?_,?_,?_,r.slt,r.gh⟩,⟨rfl,rfl,rfl,ap _,fun n hn=>⟨hn,rfl⟩,fun n _ _=>⟨rfl,id⟩,fun n hn=>.inl ((hblk n).1 hn),fun _=>ap _⟩⟩
 ·have:=r.nodup
  simpa [List.flatMap_append,List.flatMap_cons,eb,Ob.more] using this
 ·intro x hx
  rcases bw.1 hx with rfl | hx
  ·obtain ⟨h0,n,vs,E,g1,g2,g3,g4⟩:=r.holds (b,.cells cs) (bw.2 (.inl rfl))
   refine ⟨h1,n,vs,E,g1,g2,by rw [hl];exact g3,fun i c v hc hv=>?_⟩
   have hi:i < cs.length:=by rw [← hl];exact (aH.1 hc).1
   have Ro:cs[i]? =some cs[i]:=by simp [hi]
   exact qo i cs[i] c v Ro hc (g4 i _ v Ro hv)
  ·exact r.holds x (bw.2 (.inr hx))
 ·intro x hx n hn
  rcases bw.1 hx with rfl | hx
  ·have:=r.sep (b,.cells cs) (bw.2 (.inl rfl)) n hn
   exact ⟨fun h=>(this.1 h).elim,fun h=>h.elim⟩
  ·exact r.sep x (bw.2 (.inr hx)) n hn
theorem aj.Uq {n j:Nat} {tm:List (Nat×AV)} {hp cQ:Heap} {T:St→Prop} {b:Bk} {cs lA:List AV} {av iI:AV} (u:mF hp b (.cells cs) b (.cells lA) cQ) (hj:cs[j]? =some av) (c:Co hp av iI) (hc:rn (cs.set j iI)=some lA) (h1:ke lA=true) (k:aj ⟨n,tm,cQ⟩ T):aj ⟨n,tm,hp⟩ T:=by
 refine aj.step (Ar:=⟨n,tm,cQ⟩) (fun w S a r=>?_) k
 have e:=lQ hc
 obtain ⟨g1,g2⟩:=FU r.hp u (by rw [← e];simp) (eo h1) (fun i c1 c2 v Kb O4 qo=>by
  rw [← e] at O4
  by_cases yQ:j=i
  ·subst yQ
   rw [b8 (aH.1 hj).1] at O4
   obtain rfl:=aa O4
   rw [hj] at Kb
   obtain rfl:=aa Kb
   exact c.at r.hp qo
  ·rw [cp yQ,Kb] at O4
   obtain rfl:=aa O4
   exact qo)
 exact ⟨_,S,rfl,⟨r.size,r.defers,r.tm,g1⟩,g2⟩
theorem aj.G2 {n j:Nat} {tm:List (Nat×AV)} {hp cQ:Heap} {T:St→Prop} {b:Bk} {cs lA:List AV} (sz:Nat) (u:mF hp b (.cells cs) b (.cells lA) cQ) (hj:cs[j]? =some .nil) (hc:rn (cs.set j (.list sz []))=some lA) (h1:ke lA=true) (k:aj ⟨n,tm,cQ⟩ T):aj ⟨n,tm,hp⟩ T:=
 aj.Uq u hj (.nil sz) hc h1 k
theorem aj.KF {n j:Nat} {tm:List (Nat×AV)} {hp:Heap} {cQ:Bk→Heap} {T:St→Prop} {b:Bk} {cs:List AV} {lA:Bk→List AV} (sz:Nat) (u:∀ q,mF hp b (.cells cs) b (.cells (lA q)) (cQ q)) (hj:cs[j]? =some .nil) (hc:∀ q,rn (cs.set j (.sl sz q 0 0))=some (lA q)) (h1:∀ q,ke (lA q)=true)
 (k:∀ q,aj ⟨n,tm,(q,.arr sz []) :: cQ q⟩ T):aj ⟨n,tm,hp⟩ T:=by
 refine aj.step (Ar:=⟨n,tm,(⟨none,0⟩,.arr sz []) :: cQ ⟨none,0⟩⟩) (fun w S a r=>?_) (k ⟨none,0⟩)
 have e:=lQ (hc ⟨none,0⟩)
 obtain ⟨g1,g2⟩:=FU r.hp (u ⟨none,0⟩) (by rw [← e];simp) (eo (h1 _)) (fun i c1 c2 v Kb O4 qo=>by
  rw [← e] at O4
  by_cases yQ:j=i
  ·subst yQ
   rw [b8 (aH.1 hj).1] at O4
   obtain rfl:=aa O4
   rw [hj] at Kb
   obtain rfl:=aa Kb
   cases qo
   exact .Ax sz _ rfl
  ·rw [cp yQ,Kb] at O4
   obtain rfl:=aa O4
   exact qo)
 obtain ⟨q1,q2,q3⟩:=pg (b:=⟨none,0⟩) (o:=.arr sz []) g1 (Ext.refl w) id ⟨by simp,by simp,.inl ⟨rfl,rfl⟩⟩ (.inl rfl)
 exact ⟨_,S,rfl,⟨r.size,r.defers,r.tm,q1⟩,g2.trans q2⟩
section rules
variable {P:Program} {all:Array Oper} {rest:List Oper} {n:Nat} {tm:List (Nat×AV)} {hp:Heap} {Q:St→Prop} {d:Nat} {ty:TypeId} {pos:String} {af:Array Edge}
theorem BF {t:TypeId} {D:TypeDesc} {i:TypeInfo} {x:Operand} {b:Bk} {sz q o:Nat} {xs lA:List AV} {el:AV} [aC P t D] [a8 P t i] (hD:TypeDesc.js D=true) (hx:du tm x=some (.tg sz b q o)) (f:mh hp b (.arr sz xs)∨mh hp b (.Bw sz xs))
 (hq:xs[q]? =some el) (ho:aw (o+i.size) el.cells.length=true) (wR:rn ((el.cells.drop o).take i.size)=some lA):QV P ⟨some d,.load t x,ty,pos,af,none⟩ ⟨n,tm,hp⟩ (.agg lA):=
 (fun w S a r=>by
  have GO:=lQ wR
  have ho:=bz ho
  obtain ⟨m,h1,h2⟩:=(bl (σ:=⟨n,tm,hp⟩) r hx).vW
  obtain ⟨g0,g1,⟨g2,_⟩ | ⟨m',vs,E,g2,g3,g4,g5⟩⟩:=qO r.hp f
  ·rw [g2] at h1;cases h1
  ·obtain rfl:m'=m:=by rw [g2] at h1;exact aa h1
   have xv:=g0 el (c7 hq)
   have zy:el.cells.length=sz:=xv.1
   have hqx:q < xs.length:=(aH.1 hq).1
   have hmul:(q+1) * sz≤b.cap * sz:=ci _ (by omega)
   rw [Nat.add_mul,Nat.one_mul] at hmul
   have hlen:((vs.toList.drop (q * sz+o)).take i.size).length=i.size:=by simp;omega
   refine ⟨.agg ((vs.toList.drop (q * sz+o)).take i.size).toArray,fun w1 ex=>?_,.agg _ _ (by rw [← GO];simp;omega) (fun j c v hc hv=>?_)⟩
   ·have:=jR (P:=P) (aC.h (P:=P) (t:=t)) hD (a8.h (P:=P) (t:=t)) (w:=w1) (ad:=⟨m',q * sz+o,none⟩) (vs:=(vs.toList.drop (q * sz+o)).take i.size) hlen (fun j v hv=>by
     rw [nA,nB (ex.at g3)]
     simp only [bs,bO] at hv
     split at hv
     ·simpa using hv
     ·cases hv)
    simp [execOp,h2,Instr.loadAt,Instr.sureAddr,this]
   ·simp only [List.getElem?_toArray,bs,bO] at hv
    split at hv
    ·rename_i eI
     rw [← GO,bs,if_pos eI,bO] at hc
     have hf:=pL g0 hq (o+j) (by omega)
     rw [hc] at hf
     exact g5 _ c v hf (by rw [← d7];simpa using hv)
    ·cases hv)
theorem su {α:Type} {g:α→AV} {Xs:List α} {el:α} {j:Int} {t:TypeId} {D:TypeDesc} {i:TypeInfo} {x:Operand} {b:Bk} {sz o:Nat} {lA:List AV} [aC P t D] [a8 P t i] (hD:TypeDesc.js D=true) (hx:du tm x=some (.tg sz b j.toNat o)) (f:mh hp b (.arr sz (Xs.map g))∨mh hp b (.Bw sz (Xs.map g)))
 (hv:idx Xs j=some el) (ho:aw (o+i.size) (g el).cells.length=true) (wR:rn (((g el).cells.drop o).take i.size)=some lA):QV P ⟨some d,.load t x,ty,pos,af,none⟩ ⟨n,tm,hp⟩ (.agg lA):=
 BF hD hx f (nD hv) ho wR
theorem G3 {t e yt:TypeId} {x y:Operand} {sz:Nat} {xs:List AV} [aC P t (.slice e)] (hx:du tm x=some (.list sz xs)) (hy:du tm y=some .nil) (h0:al 0 sz=true) (hn:al d n=true)
 (kk:∀ c:Bool,(c=true→xs=[])→ae P all rest ⟨n,(d,.bool c) :: tm,hp⟩ Q):ae P all (⟨some d,.binOp .eql t x y yt,ty,pos,af,none⟩ :: rest) ⟨n,tm,hp⟩ Q:=by
 refine ae.HY rfl fun w S a r=>?_
 obtain ⟨oa,cap,vs,e1,e2,e3,e4,e5,e6⟩:=(bl (σ:=⟨n,tm,hp⟩) r hx).x5
 have e7:=(bl (σ:=⟨n,tm,hp⟩) r hy).C5
 refine ⟨.bool oa.isNone,w,S,⟨n,(d,.bool oa.isNone) :: tm,hp⟩,?_,r.put hn (.bool _),kT.refl _ _ _,kk _ (fun hc=>?_)⟩
 ·have h2:(Op.equal t (.slice oa xs.length cap) (.slice none 0 0)).run P w=.ok oa.isNone w:=by
   show (Op.equalIn (9999+1) t _ _).run P w=_
   rw [Op.equalIn]
   cases oa with
   | none=>simp [run_underlying (aC.h (P:=P) (t:=t))]
   | some ad=>simp [run_underlying (aC.h (P:=P) (t:=t))]
  have h3:(binOp .eql t (.slice oa xs.length cap) (.slice none 0 0)).run P w=.ok (.bool oa.isNone) w:=by
   rw [show binOp .eql t (.slice oa xs.length cap) (.slice none 0 0)=(do pure (.bool (← Op.equal t (.slice oa xs.length cap) (.slice none 0 0)))) from rfl]
   simp [h2]
  simp [execOp,e1,e7,eqGuard_at_slice,h3]
 ·have Kc:oa=none:=by simpa using hc
  have Sc:vs=[]:=by
   cases vs with
   | nil=>rfl
   | cons v vs=>
     obtain ⟨ad,h1,_⟩:=e5 0 v rfl
     rw [Kc] at h1;cases h1
  rw [Sc,cT e2] at e3
  have h0':0 < sz:=by simpa using h0
  have:xs.length=0:=by
   rcases Nat.eq_zero_or_pos xs.length with h | h
   ·exact h
   ·have:=Nat.mul_pos h h0';simp at e3;omega
  exact List.length_eq_zero_iff.1 this
end rules
theorem w4 {α:Type} {p r:List α} (h:app [] p=some r) (hp:p=[]):r=[]:=by
 subst hp
 obtain ⟨_,e⟩:=DC h
 simpa using e
end Go.Eng
