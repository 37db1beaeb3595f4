/- The engine: abstract values, the symbolic heap, one rule for each operation. No program in sight. -/
import Derived.Test.YtipbfaojbmendaaGreatDoorEngB
import Derived.Laws.StructEq
import Derived.Below
open Array renaming replicate→bi
open BitVec renaming ofInt→bp
open Bool renaming and_eq_true→ac,true_and→b7,not_false→b8,and_eq_true_iff→ca,false_eq_true→cv,not_eq_true'→d4,and_true→d6
open List renaming all_eq_true→ag,getElem?_eq_some_iff→aL,cons_append→bo,filter_congr→bv,mem_singleton→bx,getElem?_take→bG,append_assoc→bU,map_append→bW,mem_filter→bX,Perm.append_left→b3,getElem?_map→b4,getElem?_drop→b5,getElem?_set_self→b6,filter_eq_nil_iff→b9,nil_append→cb,ext_getElem?→ce,getElem?_eq_none→cf,sublist_append_left→ci,getElem?_set_ne→cl,perm_middle→cy,Perm.map→cz,getElem?_append_left→cA,count_replicate→cH,map_eq_nil_iff→cU,mem_of_getElem?→c7,drop_drop→dd,map_cons→dk,mem_map→dl,mem_range→d0,Perm.cons→d5,replicate→d7,mem_cons→d8
open Nat renaming beq→ai,blt→al,le_refl→ap,ble→aw,eq_of_beq_eq_true→a8,min_eq_right→be,zero_add→bm,lt_or_ge→bu,le_of_ble_eq_true→bz,min_eq_left→bP,mul_le_mul_right→cc,add_zero→c8,sub_add_cancel→dg,lt_trichotomy→dn,add_assoc→d9
open Option renaming some.inj→aa,bind_some→cp,isNone→ea
set_option linter.unusedVariables false
set_option linter.unusedSectionVars false
namespace Go.Eng
open Go
variable [ck]
abbrev bq:=List UInt8
def K1 {α:Type} (sz:Nat) (g:α→AV) (l:List α):AV:=.list sz (l.map g)
section rules
variable {P:Program} {all:Array Oper} {rest:List Oper} {n:Nat} {tm:List (Nat×AV)} {hp:Heap} {Q:St→Prop} {d:Nat} {ty:TypeId} {pos:String} {af:Array Edge}
theorem K2 {α:Type} {g:α→AV} {Ys Zs:List α} {t e:TypeId} {i:TypeInfo} {z:Value} {x y:Operand} {src:AV} {sz:Nat} [aF P t (.slice e)] [aZ P e i] (hx:dh tm x=some .nil) (hy:dh tm y=some src) (hz:i.zero=some z)
 (Is:ai z.cells.size i.size=true) (lp:ai i.size sz=true) (h0:al 0 sz=true) (hn:al d n=true) (UG:aw i.bytes 65536=true) (hs:Src hp sz src (Ys.map g)) (hv:app [] Ys=some Zs)
 (kk:∀ b':Bk,ae P all rest ⟨n,(d,.sl sz b' 0 Zs.length) :: tm,(b',.arr sz (Zs.map g)) :: hp⟩ Q):ae P all (⟨some d,.call {callee:=.builtin .append,args:=#[x,y],argTypes:=#[t,t]},ty,pos,af,none⟩ :: rest) ⟨n,tm,hp⟩ Q:=by
 obtain ⟨hb,rfl⟩:=GA hv
 refine ae.O1 rfl fun w S a r=>?_
 obtain rfl:i.size=sz:=a8 lp
 obtain ⟨a1,a2,a3⟩:=qL (b:=⟨none,0⟩) (o:=.arr i.size []) r.hp (Ext.refl w) id ⟨by simp,by simp,.inl ⟨rfl,rfl⟩⟩ (.inl rfl)
 have SJ:=(bt (σ:=⟨n,tm,hp⟩) r hx).EP
 have UI:At w S (.sl i.size ⟨none,0⟩ 0 ([]:List AV).length) (a.eval x):=by rw [SJ];exact .A7 _ _ rfl
 have h1:=bz UG
 have hlen:([]:List AV).length+(Zs.map g).length≤1000000000:=by simpa using hb
 have hm:=Nat.mul_le_mul hlen h1
 obtain ⟨v',w',b',g1,g2,g3,g4,g5⟩:=BZ (P:=P) (ty:=ty) a1 (aF.h (P:=P) (t:=t)) (aZ.h (P:=P) (t:=e)) hz (a8 Is) (by simpa using h0) (mb.here (b:=⟨none,0⟩) (o:=.arr i.size []) (h:=hp)) UI (hs.at r.hp (bt (σ:=⟨n,tm,hp⟩) r hy)) (by omega) (by omega)
 obtain ⟨k1,k2,k3⟩:=xf a1 (nC.here (b':=b') (o':=.arr i.size ([]++Zs.map g))) g3 id id g4 g5
 refine ⟨v',w',S,⟨n,(d,.sl i.size b' 0 (Zs.length)) :: tm,(b',.arr i.size (Zs.map g)) :: hp⟩,?_,?_,?_,kk b'⟩
 ·simp [execOp,resolve,invoke,builtin,g1]
 ·have:=(r.heap k3 k1).put hn g2
  simpa using this
 ·have:=a2.trans k2
  simpa using this
theorem iH {x:Operand} {t e:TypeId} {sz len:Nat} {b:Bk} [aF P t (.slice e)] (hx:dh tm x=some (.sl sz b 0 len)):QV P ⟨some d,.call {callee:=.builtin .len,args:=#[x],argTypes:=#[t]},ty,pos,af,none⟩ ⟨n,tm,hp⟩ (.int .i64 (len:Nat)):=Mg hx
theorem cm {α:Type} {Xs:List α} {el:α} {t e:TypeId} {i:TypeInfo} {x y:Operand} {k:IntKind} {j:Int} {sz:Nat} {b:Bk} [aF P t (.slice e)] [aZ P e i] (hx:dh tm x=some (.sl sz b 0 Xs.length)) (lp:ai i.size sz=true) (hy:dh tm y=some (.int k j))
 (hv:idx Xs j=some el):QV P ⟨some d,.indexAddr t x y,ty,pos,af,none⟩ ⟨n,tm,hp⟩ (.sh sz b j.toNat 0):=by
 obtain ⟨h0,h1,_⟩:=eR hv
 have h:=Iq (P:=P) (d:=d) (ty:=ty) (pos:=pos) (af:=af) (n:=n) (tm:=tm) (hp:=hp) (t:=t) (e:=e) hx lp hy ⟨h0,h1⟩
 rw [bm] at h
 exact h
theorem mg {α:Type} {g:α→AV} {Xs:List α} {el:α} {j:Int} (hv:idx Xs j=some el):(Xs.map g)[j.toNat]? =some (g el):=by
 rw [b4,(eR hv).2.2];rfl
theorem eS {α:Type} {g:α→AV} {Xs:List α} {el:α} {j:Int} {t:TypeId} {D:TypeDesc} {x:Operand} {b:Bk} {sz o:Nat} {av:AV} [aF P t D] (hD:TypeDesc.jN D=false) (hx:dh tm x=some (.sh sz b j.toNat o)) (f:mb hp b (.arr sz (Xs.map g))∨mb hp b (.yD sz (Xs.map g)))
 (hv:idx Xs j=some el) (ho:(g el).cells[o]? =some av):QV P ⟨some d,.load t x,ty,pos,af,none⟩ ⟨n,tm,hp⟩ av:=
 Gi hD hx f (mg hv) ho
theorem gP {α:Type} {g:α→AV} {Xs:List α} {el:α} {j:Int} {t:TypeId} {D:TypeDesc} {i:TypeInfo} {x:Operand} {b:Bk} {sz:Nat} {cs:List AV} [aF P t D] [aZ P t i] (hD:TypeDesc.jN D=true) (hx:dh tm x=some (.sh sz b j.toNat 0)) (f:mb hp b (.arr sz (Xs.map g))∨mb hp b (.yD sz (Xs.map g))) (lp:ai i.size sz=true)
 (hv:idx Xs j=some el) (hc:g el=.agg cs):QV P ⟨some d,.load t x,ty,pos,af,none⟩ ⟨n,tm,hp⟩ (.agg cs):=
 Bb hD hx f lp (by rw [mg (g:=g) hv,hc])
theorem E4 {α:Type} {g:α→AV} {Xs Zs:List α} {t e:TypeId} {i:TypeInfo} {x:Operand} {lo hi:Option Operand} {l h:Option Int} {sz:Nat} {L H:Int} [aF P t (.slice e)] [aZ P e i] (hx:dh tm x=some (.list sz (Xs.map g))) (lp:ai i.size sz=true) (hl:RH tm lo l) (hh:RH tm hi h)
 (eL:na l=L) (eH:oh Xs.length h=H) (hv:Gz Xs L H=some Zs):QV P ⟨some d,.slice t x lo hi none,ty,pos,af,none⟩ ⟨n,tm,hp⟩ (.list sz (Zs.map g)):=by
 obtain ⟨⟨h0,h1,h2⟩,rfl⟩:=Mx hv
 subst eL;subst eH
 have:=EW (P:=P) (d:=d) (ty:=ty) (pos:=pos) (af:=af) (n:=n) (tm:=tm) (hp:=hp) (t:=t) (e:=e) (xs:=Xs.map g) hx lp hl hh h0 (by simpa using h1) (by simpa using h2)
 simpa [List.map_take,List.map_drop] using this
def sk:Heap→Heap→Option Heap
 | [],r=>some r
 | x :: l,r=>match sk l r with
   | some m=>some (x :: m)
   | none=>none
theorem pg:∀ {l r m:Heap},sk l r=some m→l++r=m
 | [],r,m,h=>by simpa [sk] using h
 | x :: l,r,m,h=>by
   simp only [sk] at h
   split at h
   ·rename_i m' hm
    obtain rfl:=aa h
    rw [bo,pg hm]
   ·cases h
def T0 (H:Heap) (V:AV):AV→Heap→Prop:=fun v h=>h=H∧v=V
def T1 {AD:Type} (H:AD→Heap) (V:AD→AV):AV→Heap→Prop:=fun v h=>∃ b,h=H b∧v=V b
theorem eB {f:FuncId} {args:List Operand} {ts:Array TypeId} {l l':List AV} {h0 hr H H':Heap} {V:AV} [cq P f] (hl:A8 tm args=some l) (c:aY P f l' h0 (T0 H V)) (co:Av hp l l') (hs:F2 hp h0 hr) (ha:sk H hr=some H') (hn:al d n=true)
 (kk:ae P all rest ⟨n,(d,V) :: tm,H'⟩ Q):ae P all (⟨some d,.call {callee:=.value (.func f),args:=args.toArray,argTypes:=ts},ty,pos,af,none⟩ :: rest) ⟨n,tm,hp⟩ Q:=
 B8 hl c co hs hn (fun r h' ⟨e1,e2⟩=>by subst e1;subst e2;rw [pg ha];exact kk)
theorem kK {AD:Type} {f:FuncId} {args:List Operand} {ts:Array TypeId} {l l':List AV} {h0 hr:Heap} {H H':AD→Heap} {V:AD→AV} [cq P f] (hl:A8 tm args=some l) (c:aY P f l' h0 (T1 H V)) (co:Av hp l l') (hs:F2 hp h0 hr) (ha:∀ b,sk (H b) hr=some (H' b)) (hn:al d n=true)
 (kk:∀ b,ae P all rest ⟨n,(d,V b) :: tm,H' b⟩ Q):ae P all (⟨some d,.call {callee:=.value (.func f),args:=args.toArray,argTypes:=ts},ty,pos,af,none⟩ :: rest) ⟨n,tm,hp⟩ Q:=
 B8 hl c co hs hn (fun r h' ⟨b,e1,e2⟩=>by subst e1;subst e2;rw [pg (ha b)];exact kk b)
end rules
theorem Co.E5 {hp:Heap} {α:Type} {g:α→AV} {Xs:List α} {sz:Nat} {b:Bk} (f:mb hp b (.yD sz (Xs.map g))):Co hp (.sl sz b 0 Xs.length) (.list sz (Xs.map g)):=.yD sz b _ _ f (by simp)
theorem ku.jS {hp:Heap} {α:Type} {g:α→AV} {Xs:List α} {sz:Nat} {b:Bk} (f:mb hp b (.arr sz (Xs.map g))):ku hp (.sl sz b 0 Xs.length) (.list sz (Xs.map g)):=.arr sz b _ _ f (by simp)
section rules
variable {P:Program} {all:Array Oper} {rest:List Oper} {n:Nat} {tm:List (Nat×AV)} {hp:Heap} {Q:St→Prop} {d:Nat} {ty:TypeId} {pos:String} {af:Array Edge}
theorem yH {x:Operand} {s:TypeId} {j off sz:Nat} {b:Bk} {q o o':Nat} [l0 P s j off] (hx:dh tm x=some (.sh sz b q o)) (ho:o+off=o'):QV P ⟨some d,.fieldAddr s x j,ty,pos,af,none⟩ ⟨n,tm,hp⟩ (.sh sz b q o'):=by
 subst ho
 exact ER hx
theorem Dq {t:TypeId} {i:TypeInfo} {x y:Operand} {b:Bk} {sz q o:Nat} {xs:List AV} {av el H7:AV} {dE:Heap} [aZ P t i] (hx:dh tm x=some (.sh sz b q o)) (hy:dh tm y=some av) (h1:jq av.cells=true) (lp:ai av.cells.length i.size=true)
 (u:nC hp b (.arr sz xs) b (.arr sz (xs.set q H7)) dE) (hq:xs[q]? =some el) (uZ:H7.cells=nX el.cells o av.cells) (ho:aw (o+av.cells.length) el.cells.length=true) (kk:ae P all rest ⟨n,tm,dE⟩ Q):ae P all (⟨none,.store t x y,ty,pos,af,none⟩ :: rest) ⟨n,tm,hp⟩ Q:=by
 refine ae.act rfl rfl (aS:=⟨n,tm,dE⟩) (fun w S a r=>?_) kk
 obtain ⟨m,e1,e2⟩:=(bt (σ:=⟨n,tm,hp⟩) r hx).wa
 obtain ⟨g0,g1,⟨g2,_⟩ | ⟨m',vs,E,g2,g3,g4,g5⟩⟩:=sH r.hp (.inl u.sF)
 ·rw [g2] at e1;cases e1
 obtain rfl:m'=m:=by rw [g2] at e1;exact aa e1
 have hv:=bt (σ:=⟨n,tm,hp⟩) r hy
 obtain ⟨hl,pX⟩:=ux hv (dQ h1)
 have Gb:=dQ h1
 have lp:=a8 lp
 have ho:=bz ho
 clear h1 hv hy
 generalize av.cells=nc at *
 generalize PR:el.cells=cs at *
 have hle:o+nc.length≤cs.length:=ho
 have zF:=g0 el (c7 hq)
 have yF:cs.length=sz:=by rw [← PR];exact zF.1
 have Ym:q < xs.length:=(aL.1 hq).1
 have hmul:(q+1) * sz≤xs.length * sz:=cc _ (by omega)
 have GC:xs.length * sz≤b.cap * sz:=cc _ g1
 rw [Nat.add_mul,Nat.one_mul] at hmul
 have vJ:=BU hl pX Gb
 have Dl:=run_storeCells_at (P:=P) m' (q * sz+o) E (a.eval y).cells.toList 0 vs w g3 (by simp;omega) vJ
 simp only [c8] at Dl
 have Mh:(a.eval y).cells.size=i.size:=by rw [← hl];exact lp
 have DO:=dP g0
 have RM:El sz H7:=by
  refine ⟨by rw [uZ];simp [nX];omega,fun c hc=>?_⟩
  rw [uZ] at hc
  simp only [nX,List.mem_append] at hc
  rcases hc with (hc | hc) | hc
  ·exact zF.2 c (by rw [PR];exact List.mem_of_mem_take hc)
  ·exact Gb c hc
  ·exact zF.2 c (by rw [PR];exact List.mem_of_mem_drop hc)
 have GD:flat (xs.set q H7)=(flat xs).take (q * sz+o)++nc++(flat xs).drop (q * sz+o+nc.length):=by
  rw [Gp g0 RM hq]
  rw [uZ];simp only [nX]
  have EX:cs=((flat xs).drop (q * sz)).take sz:=by
   apply ce
   intro j
   by_cases hj:j < sz
   ·have:=oe g0 hq j hj
    rw [bG,if_pos hj,b5,this,PR]
   ·rw [cf (by omega),cf (by simp;omega)]
  have e1:cs.take o=((flat xs).drop (q * sz)).take o:=by rw [EX,List.take_take,bP (by omega)]
  have e2:cs.drop (o+nc.length)=(((flat xs).drop (q * sz+o+nc.length)).take (sz - (o+nc.length))):=by
   rw [EX,List.drop_take,dd]
   rw [show q * sz+(o+nc.length)=q * sz+o+nc.length from by omega]
  rw [e1,e2]
  have e3:(flat xs).take (q * sz+o)=(flat xs).take (q * sz)++((flat xs).drop (q * sz)).take o:=by rw [List.take_add]
  rw [e3]
  have e4:(flat xs).drop (q * sz+o+nc.length)=((flat xs).drop (q * sz+o+nc.length)).take (sz - (o+nc.length))++(flat xs).drop (q * sz+sz):=by
   conv=>lhs;rw [← List.take_append_drop (sz - (o+nc.length)) ((flat xs).drop (q * sz+o+nc.length))]
   rw [dd,show q * sz+o+nc.length+(sz - (o+nc.length))=q * sz+sz from by omega]
  conv=>rhs;rw [e4]
  simp only [bU]
 have Vu:=fun (w':World) (ha:pY w' S (flat xs) vs) (hb:pY w' S nc (a.eval y).cells)=>PK (q * sz+o) (by rw [DO,g4];exact GC) ha hl hb (by omega)
 have Vv:(vs.toList.take (q * sz+o)++(a.eval y).cells.toList++vs.toList.drop (q * sz+o+(a.eval y).cells.toList.length)).toArray.size=b.cap * sz:=by
  simp;omega
 generalize (vs.toList.take (q * sz+o)++(a.eval y).cells.toList++vs.toList.drop (q * sz+o+(a.eval y).cells.toList.length)).toArray=H5 at Dl Vu Vv
 have c:GB w (w.setRow m' H5) b.dp:=⟨⟨rfl,rfl,rfl,by simp,fun k hk Aq=>setRow_other w m' k _ (fun e=>Aq (by rw [e1,e]))⟩,fun _=>ap _⟩
 have k1:∀ n,S n→S n∧(w.setRow m' H5).heap[n]? =w.heap[n]?:=by
  intro k hk
  refine ⟨hk,setRow_other w m' k _ (fun e=>?_)⟩
  subst e
  exact (r.hp.sep _ u.sF.mem k (gO e1)).1 hk
 have hh:=xf r.hp u c id id ⟨?_,by simpa using g1,.inr ⟨m',H5,E,e1,setRow_heap w m' vs _ E _ g3,Vv,by rw [GD];exact Vu _ (g5.mono k1) (pX.mono k1)⟩⟩ (.inl rfl)
 ·refine ⟨w.setRow m' H5,S,?_,r.heap hh.2.2 hh.1,hh.2.1⟩
  simp [execOp,e2,Instr.storeAt,Instr.sureAddr,storeVar,sizeOf,typeInfo,aZ.h (P:=P) (t:=t),Mh,Dl]
 ·intro z hz
  rcases List.mem_or_eq_of_mem_set hz with h | rfl
  ·exact g0 z h
  ·exact RM
theorem lg {α:Type} {g:α→AV} {Xs:List α} {el H7:α} {j:Int} {t:TypeId} {i:TypeInfo} {x y:Operand} {b:Bk} {sz o:Nat} {av:AV} {dE:Heap} [aZ P t i] (hx:dh tm x=some (.sh sz b j.toNat o)) (hy:dh tm y=some av) (h1:jq av.cells=true) (lp:ai av.cells.length i.size=true)
 (hv:idx Xs j=some el) (uZ:(g H7).cells=nX (g el).cells o av.cells) (u:nC hp b (.arr sz (Xs.map g)) b (.arr sz ((Xs.set j.toNat H7).map g)) dE) (ho:aw (o+av.cells.length) (g el).cells.length=true) (kk:ae P all rest ⟨n,tm,dE⟩ Q):
 ae P all (⟨none,.store t x y,ty,pos,af,none⟩ :: rest) ⟨n,tm,hp⟩ Q:=by
 refine Dq (xs:=Xs.map g) (el:=g el) (H7:=g H7) hx hy h1 lp ?_ (mg hv) uZ ho kk
 rw [List.map_set] at u
 exact u
end rules
theorem yI {α:Type} {xs:List α} {i:Int} {el v:α} (h:idx xs i=some el):idx (xs.set i.toNat v) i=some v:=by
 obtain ⟨h0,h1,_⟩:=eR h
 unfold idx;rw [if_pos h0,b6 (by omega)]
theorem cY.hs {w:World} {S:Nat→Prop} {h h':Heap} (r:cY w S h) (s:HS h h'):cY w S h':=by
 obtain ⟨q,hq⟩:=s.perm
 exact (r.perm hq).sub (ci _ _)
theorem Has.hs {h h':Heap} (s:HS h h') {n:Nat} (hh:Has h' n):Has h n:=by
 obtain ⟨q,hq⟩:=s.perm
 obtain ⟨e,he,hb⟩:=hh
 exact ⟨e,hq.mem_iff.2 (List.mem_append_left _ he),hb⟩
theorem aY.lD {P:Program} {f:FuncId} {args:List AV} {h:Heap} {Q:AV→Heap→Prop} (c:aY P f args h (fun r h1=>∃ h',HS h1 h'∧Q r h')):aY P f args h Q:=
 fun w S vs r hl ha=>(c w S vs r hl ha).mono fun _ _ ⟨v,r,_,S',h1,⟨h',hs,hq⟩,h3,h4,h5⟩=>⟨v,r,h',S',h1,hq,h3,h4.hs hs,h5.less fun _ hn=>hn.hs hs⟩
theorem aq.eqs {n s:Nat} {tm:List (Nat×AV)} {hp:Heap} {T:St→Prop} {av rf:AV} (hs:lk tm s=some av) (he:rf=av) (k:aq ⟨n,(s,rf) :: tm,hp⟩ T):aq ⟨n,tm,hp⟩ T:=by
 subst he
 exact aq.co hs (.refl _) k
theorem DV {hp dE:Heap} {b:Bk} {o:Ob} (u:nC hp b o b o dE):dE=hp:=by
 generalize hb:b=b',ho:o=o' at u
 have:∀ {h h':Heap} {b b':Bk} {o o':Ob},nC h b o b' o' h'→b=b'→o=o'→h'=h:=by
  intro h h' b b' o o' u
  induction u with
  | here=>rintro rfl rfl;rfl
  | next _ ih=>intro e1 e2;rw [ih e1 e2]
  | skip _ ih=>intro e1 e2;rw [ih e1 e2]
 subst hb ho
 exact this u rfl rfl
theorem aq.DW {n j:Nat} {tm:List (Nat×AV)} {hp dE:Heap} {T:St→Prop} {b:Bk} {cs jP:List AV} {av rf:AV} (u:nC hp b (.cells cs) b (.cells jP) dE) (hj:cs[j]? =some av) (he:rf=av) (hc:qg (cs.set j rf)=some jP) (k:aq ⟨n,tm,dE⟩ T):aq ⟨n,tm,hp⟩ T:=by
 subst he
 have EX:cs.set j rf=cs:=by
  apply ce
  intro i
  by_cases hi:j=i
  ·subst hi
   have ew:=(aL.1 hj).1
   rw [b6 ew,hj]
  ·rw [cl hi]
 rw [EX] at hc
 obtain rfl:=lB hc
 rw [DV u] at k
 exact k
theorem sR {p:Prop} [Decidable p] {x:Bool} (h:p):(decide p&&x)=x:=by simp [h]
theorem sS {p:Prop} [Decidable p] {x:Bool} (h:¬ p):(decide p&&x)=false:=by simp [h]
theorem yJ {p:Prop} [Decidable p] {x:Bool} (h:p):(decide p||x)=true:=by simp [h]
theorem yK {p:Prop} [Decidable p] {x:Bool} (h:¬ p):(decide p||x)=x:=by simp [h]
theorem AE {b x:Bool} (h:b=true):(b&&x)=x:=by simp [h]
theorem AF {b x:Bool} (h:b=false):(b&&x)=false:=by simp [h]
theorem x9 {b x:Bool} (h:b=true):(b||x)=true:=by simp [h]
theorem ya {b x:Bool} (h:b=false):(b||x)=x:=by simp [h]
def Iy (P:Program) (k:Nat) (t:TypeId) (v u:Value) (b:Bool):Prop:=∀ d w,(Op.equalIn (d+k) t v u).run P w=.ok b w
theorem Iy.up {P:Program} {k:Nat} {t:TypeId} {v u:Value} {b:Bool} (h:Iy P k t v u b) (j:Nat):Iy P (k+j) t v u b:=fun d w=>by
 rw [show d+(k+j)=(d+j)+k from by omega];exact h _ w
theorem Iy.cast {P:Program} {k:Nat} {t:TypeId} {v u:Value} {b b':Bool} (h:Iy P k t v u b) (e:b=b'):Iy P k t v u b':=by rw [← e];exact h
inductive K3 (P:Program) (k:Nat) (xs ys:Array Value):List Field→Bool→Prop
 | nil:K3 P k xs ys [] true
 | cons {f:Field} {fs:List Field} {px py:Value} {b b':Bool} (hn:f.name≠"_") (hx:∀ w,(part f.type xs f.offset).run P w=.ok px w) (hy:∀ w,(part f.type ys f.offset).run P w=.ok py w) (he:Iy P k f.type px py b) (kk:K3 P k xs ys fs b'):K3 P k xs ys (f :: fs) (b&&b')
theorem K3.run {P:Program} {k:Nat} {xs ys:Array Value} {fs:List Field} {b:Bool} (h:K3 P k xs ys fs b) (d:Nat) (w:World):(Op.eqFields (d+k) xs ys fs).run P w=.ok b w:=by
 induction h with
 | nil=>simp [Op.eqFields]
 | @cons f fs px py b b' hn hx hy he kk ih=>
   simp only [Op.eqFields,hn,ne_eq,not_false_eq_true,if_true,Sem.run_bind,hx,hy,he d w,Result.andThen_ok]
   cases b
   ·simp
   ·simpa using ih
theorem Iy.struct {P:Program} {k:Nat} {t:TypeId} {xs ys:Array Value} {fs:List Field} {b:Bool} (hu:P.underlying t=some (.struct fs.toArray)) (hp:P.stoodInHeld t=false) (h:K3 P k xs ys fs b):Iy P (k+1) t (.agg xs) (.agg ys) b:=by
 intro d w
 have hf:P.fieldsOf t=fs.toArray:=by simp [Program.fieldsOf,hu]
 rw [show d+(k+1)=(d+k)+1 from rfl,run_equalIn_struct w (d+k) t xs ys (by rw [hf];exact hu) hp,hf]
 exact h.run d w
theorem uz {P:Program} {t:TypeId} {D:TypeDesc} [aF P t D] (hD:TypeDesc.jN D=false) {cs:Array Value} {off:Nat} {v:Value} (h:cs[off]? =some v) (w:World):(part t cs off).run P w=.ok v w:=by
 unfold part isAgg
 simp only [Sem.run_bind,run_underlying (aF.h (P:=P) (t:=t)),Result.andThen_ok]
 cases D<;>simp_all [TypeDesc.jN]
theorem pY.get {w:World} {S:Nat→Prop} {cs:List AV} {vs:Array Value} (hl:cs.length=vs.size) (ha:pY w S cs vs) {off:Nat} {c:AV} (hc:cs[off]? =some c):∃ v,vs[off]? =some v∧At w S c v:=by
 have ew:=(aL.1 hc).1
 have:off < vs.size:=by omega
 exact ⟨vs[off],by simp [this],ha off c _ hc (by simp [this])⟩
class Bf (P:Program) (t:TypeId) (k:outParam Nat) {α:Type} [DecidableEq α] (g:α→AV):Prop where
 h:∀ (x y:α) (w:World) (S:Nat→Prop) (v u:Value),At w S (g x) v→At w S (g y) u→Iy P k t v u (decide (x=y))
class MC (P:Program) (t:TypeId):Prop where
 h:P.eqGuardType P.depth t=false
instance Vw {P:Program} {t:TypeId} {k:IntKind} [aF P t (.int k)]:Bf P t 1 (AV.int k):=⟨fun x y w S v u hv hu d w'=>by
 rw [hv.ez,hu.ez,Op.equalIn]
 simp [run_underlying (aF.h (P:=P) (t:=t))]
 rw [Bool.eq_iff_iff];simp⟩
instance Xq {P:Program} {t:TypeId} [aF P t (.int .i64)]:Bf P t 1 I:=Vw (k:=.i64)
def Iz (k:IntKind) (x y:Int):Int:=k.wrap ((bp k.bits x&&& bp k.bits y).toNat:Int)
def SQ (k:IntKind) (x y:Int):Int:=k.wrap ((bp k.bits x||| bp k.bits y).toNat:Int)
def yb (k:IntKind) (x y:Int):Int:=k.wrap ((bp k.bits x ^^^ bp k.bits y).toNat:Int)
def B9 (k:IntKind) (x y:Int):Int:=x.fdiv (2 ^ min y.toNat k.bits)
section rules
variable {P:Program} {all:Array Oper} {rest:List Oper} {n:Nat} {tm:List (Nat×AV)} {hp:Heap} {Q:St→Prop} {d:Nat} {ty:TypeId} {pos:String} {af:Array Edge}
theorem MD {α:Type} [DecidableEq α] {g:α→AV} {X Y:α} {k:Nat} {xt yt:TypeId} {x y:Operand} {cs ds:List AV} [Bf P xt k g] [MC P xt] (hk:aw k 10000=true) (hx:dh tm x=some (.agg cs)) (hy:dh tm y=some (.agg ds)) (eX:g X=.agg cs) (eY:g Y=.agg ds):
 QV P ⟨some d,.binOp .eql xt x y yt,ty,pos,af,none⟩ ⟨n,tm,hp⟩ (.bool (decide (X=Y))):=by
 intro w S a r
 have hv:=bt (σ:=⟨n,tm,hp⟩) r hx
 have hu:=bt (σ:=⟨n,tm,hp⟩) r hy
 have he:=Bf.h (P:=P) (t:=xt) (g:=g) X Y w S _ _ (by rw [eX];exact hv) (by rw [eY];exact hu)
 obtain ⟨vs,e1,_,_⟩:=hv.qK
 obtain ⟨us,e2,_,_⟩:=hu.qK
 refine ⟨.bool (decide (X=Y)),fun w1 _=>?_,.bool _⟩
 have h1:=run_eqGuard_agg (P:=P) w1 .eql xt x y vs us MC.h
 rw [e1,e2] at he
 have h2:(Op.equal xt (.agg vs) (.agg us)).run P w1=.ok (decide (X=Y)) w1:=by
  have:=he (10000 - k) w1
  rw [dg (bz hk)] at this
  exact this
 have h3:(binOp .eql xt (.agg vs) (.agg us)).run P w1=.ok (.bool (decide (X=Y))) w1:=by
  rw [show binOp .eql xt (.agg vs) (.agg us)=(do pure (.bool (← Op.equal xt (.agg vs) (.agg us)))) from rfl]
  simp [h2]
 simp [execOp,e1,e2,h1,h3]
theorem DX {α:Type} [DecidableEq α] {g:α→AV} {X Y:α} {k:Nat} {xt yt:TypeId} {x y:Operand} {cs ds:List AV} [Bf P xt k g] [MC P xt] (hk:aw k 10000=true) (hx:dh tm x=some (.agg cs)) (hy:dh tm y=some (.agg ds)) (eX:g X=.agg cs) (eY:g Y=.agg ds):
 QV P ⟨some d,.binOp .neq xt x y yt,ty,pos,af,none⟩ ⟨n,tm,hp⟩ (.bool (decide (X≠Y))):=by
 intro w S a r
 have hv:=bt (σ:=⟨n,tm,hp⟩) r hx
 have hu:=bt (σ:=⟨n,tm,hp⟩) r hy
 have he:=Bf.h (P:=P) (t:=xt) (g:=g) X Y w S _ _ (by rw [eX];exact hv) (by rw [eY];exact hu)
 obtain ⟨vs,e1,_,_⟩:=hv.qK
 obtain ⟨us,e2,_,_⟩:=hu.qK
 refine ⟨.bool (decide (X≠Y)),fun w1 _=>?_,.bool _⟩
 have h1:=run_eqGuard_agg (P:=P) w1 .neq xt x y vs us MC.h
 rw [e1,e2] at he
 have h2:(Op.equal xt (.agg vs) (.agg us)).run P w1=.ok (decide (X=Y)) w1:=by
  have:=he (10000 - k) w1
  rw [dg (bz hk)] at this
  exact this
 have h3:(binOp .neq xt (.agg vs) (.agg us)).run P w1=.ok (.bool (decide (X≠Y))) w1:=by
  rw [show binOp .neq xt (.agg vs) (.agg us)=(do pure (.bool (!(← Op.equal xt (.agg vs) (.agg us))))) from rfl]
  simp [h2]
 simp [execOp,e1,e2,h1,h3]
theorem ME {xt yt:TypeId} {x y:Operand} {s t:List UInt8} (hx:dh tm x=some (.str s)) (hy:dh tm y=some (.str t)):QV P ⟨some d,.binOp .leq xt x y yt,ty,pos,af,none⟩ ⟨n,tm,hp⟩ (.bool (Op.bytesLess s t||s==t)):=by
 refine fun w S a r=>⟨.bool (Op.bytesLess s t||s==t),fun w1 _=>?_,.bool _⟩
 simp [execOp,(bt (σ:=⟨n,tm,hp⟩) r hx).gV,(bt (σ:=⟨n,tm,hp⟩) r hy).gV,eqGuard_at_string,binOp,Op.stringOp,ByteArray.toList_eq]
theorem RN {k:IntKind} {xt yt:TypeId} {x y:Operand} {i j:Int} (hx:dh tm x=some (.int k i)) (hy:dh tm y=some (.int k j)):QV P ⟨some d,.binOp .and xt x y yt,ty,pos,af,none⟩ ⟨n,tm,hp⟩ (.int k (Iz k i j)):=
 tB hx hy (v:=.int k (Iz k i j)) (fun w=>by simp [binOp,Op.intBits,Iz]) (fun w S=>.int _ _)
theorem Vx {k:IntKind} {xt yt:TypeId} {x y:Operand} {i j:Int} (hx:dh tm x=some (.int k i)) (hy:dh tm y=some (.int k j)):QV P ⟨some d,.binOp .or xt x y yt,ty,pos,af,none⟩ ⟨n,tm,hp⟩ (.int k (SQ k i j)):=
 tB hx hy (v:=.int k (SQ k i j)) (fun w=>by simp [binOp,Op.intBits,SQ]) (fun w S=>.int _ _)
theorem RO {k:IntKind} {xt yt:TypeId} {x y:Operand} {i j:Int} (hx:dh tm x=some (.int k i)) (hy:dh tm y=some (.int k j)):QV P ⟨some d,.binOp .xor xt x y yt,ty,pos,af,none⟩ ⟨n,tm,hp⟩ (.int k (yb k i j)):=
 tB hx hy (v:=.int k (yb k i j)) (fun w=>by simp [binOp,Op.intBits,yb]) (fun w S=>.int _ _)
theorem MF {k k':IntKind} {xt yt:TypeId} {x y:Operand} {i j:Int} (hx:dh tm x=some (.int k i)) (hy:dh tm y=some (.int k' j)) (h0:¬ j < 0):QV P ⟨some d,.binOp .shr xt x y yt,ty,pos,af,none⟩ ⟨n,tm,hp⟩ (.int k (B9 k i j)):=by
 refine fun w S a r=>⟨.int k (B9 k i j),fun w1 _=>?_,.int _ _⟩
 simp [execOp,(bt (σ:=⟨n,tm,hp⟩) r hx).ez,(bt (σ:=⟨n,tm,hp⟩) r hy).ez,eqGuard_at_int,binOp,Op.shift,h0,B9]
end rules
end Go.Eng
namespace Go.Eng
open Go Go.RowKit
variable [ck]
theorem DY (l:List Int):flat (l.map I)=l.map I:=by
 induction l with
 | nil=>rfl
 | cons x r ih=>rw [dk,jG,ih];rfl
theorem MG {P:Program} {f:FuncId} {a:Option Addr} {len cap:Nat} {zs:List Int} {w:World}
 (Ca:(a=none∧len=0∧cap=0∧zs=[])∨∃ x,a=some x∧len≤cap∧cap≤maxLen∧zs.length=cap∧(∀ i,i < zs.length→w.cell? (x.add i)=some (.int .i64 (zs.getD i 0)))∧∀ n∈zs,(Lit.int .i64 n).wf=true)
 (hG:∀ g o,ck.U7 g=some o→g < w.heap.size∧o (w.heap[g]?))
 (c:∀ l:List Int,Pu P f [.list 1 (l.map I)] (.bool true)):
 Calls P f #[.slice a len cap] w fun e w'=>e=.returned (.bool true)∧Below w.heap.size w w':=by
 let S:Nat→Prop:=fun n=>n < w.heap.size
 have pX:∃ l:List Int,At w S (.list 1 (l.map I)) (.slice a len cap):=by
  rcases Ca with ⟨rfl,rfl,rfl,rfl⟩ | ⟨x,rfl,h1,h2,h3,h4,h5⟩
  ·exact ⟨[],.list 1 [] none 0 [] (by simp) rfl (by simp [flat]) (by simp) (by simp)⟩
  ·refine ⟨zs.take len,?_⟩
   have hl:((zs.take len).map I).length=len:=by simp;omega
   have key:=At.list (w:=w) (S:=S) 1 ((zs.take len).map I) (some x) cap ((zs.take len).map (fun n=>Value.int .i64 n)) ?_ ?_ ?_ ?_ ?_
   ·rw [hl] at key;exact key
   ·intro y hy
    obtain ⟨n,_,rfl⟩:=dl.1 hy
    exact ⟨rfl,fun c hc=>by simp [AV.cells] at hc;subst hc;rfl⟩
   ·rw [DY];simp
   ·intro i c v hc hv
    rw [DY,b4] at hc
    rw [b4] at hv
    cases hn:(zs.take len)[i]? with
    | none=>rw [hn] at hc;cases hc
    | some n=>
      rw [hn] at hc hv
      obtain rfl:=aa hc
      obtain rfl:=aa hv
      exact .int _ _
   ·intro i v hv
    rw [b4] at hv
    cases hn:(zs.take len)[i]? with
    | none=>rw [hn] at hv;cases hv
    | some n=>
      rw [hn] at hv
      obtain rfl:=aa hv
      have hi:i < zs.length:=by
       have:=(aL.1 hn).1
       simp at this;omega
      have hz:zs.getD i 0=n:=by
       rw [bG] at hn
       split at hn
       ·rw [List.getD_eq_getElem?_getD,hn];rfl
       ·cases hn
      have tE:=h4 i hi
      rw [hz] at tE
      obtain ⟨bk,of,sp⟩:=x
      have Mc:sp=none:=by
       cases sp with
       | none=>rfl
       | some q=>
         have Vy:=h4 0 (by omega)
         unfold World.cell? Addr.add at Vy
         simp only [if_true] at Vy
         split at Vy
         ·simp at Vy
         ·cases Vy
      subst Mc
      rw [mN] at tE
      have hblk:bk < w.heap.size:=by
       rcases bu bk w.heap.size with h | h
       ·exact h
       ·unfold World.cell? at tE
        simp only [Array.getElem?_eq_none h] at tE
        cases tE
      exact ⟨_,rfl,rfl,hblk,tE⟩
   ·rw [hl];exact h1
 obtain ⟨l,pX⟩:=pX
 refine (c l w S #[.slice a len cap] (uy (fun n hn=>hn) hG) rfl ?_).mono ?_
 ·intro i c' v hc hv
  match i with
  | 0=>simp at hc hv;subst hc;subst hv;exact pX
  | i+1=>simp at hc
 ·rintro e w' ⟨v,r,h',S',rfl,rfl,h1,h2,h3⟩
  refine ⟨by rw [h1.lA],h3.os,h3.tape,h3.output,h3.size,fun k hk=>(h3.lz k hk).2⟩
end Go.Eng
namespace Go.Eng
open Go
variable [ck]
def nf (e:Env) (d:Option Nat) (o:Option AV):Env:=match d with
 | some d=>fun s=>if d=s then o else e s
 | none=>e
theorem jT {e:Env} {d:Option Nat} {o:Option AV} {s:Nat} (h:d≠some s):nf e d o s=e s:=by
 cases d with
 | none=>rfl
 | some d=>simp only [nf];rw [if_neg (fun e=>h (by rw [e]))]
theorem mA {e:Env} {o:Option AV} {s:Nat}:nf e (some s) o s=o:=by simp [nf]
section order
variable {P:Program} {all:Array Oper} {n m:Nat} {hp:Heap}
def vL (all:Array Oper) (mY:Nat→Option AV) (e:Env) (listed:Array Bool):Nat→Env
 | 0=>e
 | k+1=>if listed.getD k false then nf (vL all mY e listed k) ((all[k]?).bind (·.dst)) (mY k) else vL all mY e listed k
variable {mY:Nat→Option AV} {en:Nat→Env} {e:Env}
theorem K4 (hB:vz all m) {listed:Array Bool} (L:O5 all m listed) (h0:en 0=e) (hs:∀ i o,i < m→all[i]? =some o→en (i+1)=nf (en i) o.dst (mY i)) (hm:m≤all.size)
 {i:Nat} {o:Oper} (ho:all[i]? =some o) (Dg:i < m) (xD:listed.getD i false=false) (hr:∀ j,Ay all i j→listed.getD j false=true) {s:Nat} (O6:s∈looks all o):∀ k,k≤all.size→vL all mY e listed k s=en (min k i) s:=by
 intro k
 induction k with
 | zero=>intro _;simp [vL,h0]
 | succ k ih=>
   intro hk
   have vK:=ih (by omega)
   have dW:all[k]? =some all[k]:=by simp [show k < all.size by omega]
   simp only [vL,dW,cp]
   rcases dn k i with ew | heq | Iw
   ·rw [bP (by omega)] at vK
    rw [bP (by omega),hs k _ (by omega) dW]
    by_cases hd:(all[k]).dst=some s
    ·have hl:listed.getD k false=true:=hr k ((kZ hB ho dW ew).1 Dg (x8 hd O6))
     rw [if_pos hl,hd,mA,mA]
    ·rw [jT hd]
     split
     ·rw [jT hd];exact vK
     ·exact vK
   ·subst heq
    rw [xD]
    simp only [cv,if_false]
    rw [be (by omega)]
    rw [be (by omega)] at vK
    exact vK
   ·rw [be (by omega)] at vK
    rw [be (by omega)]
    by_cases hl:listed.getD k false=true
    ·by_cases hd:(all[k]).dst=some s
     ·exfalso
      have hw:=(kZ hB dW ho Iw).1 (L.head k hl) (AB hd O6)
      have:=mf.PM L.closed hw hl
      rw [xD] at this;cases this
     ·rw [if_pos hl,jT hd];exact vK
    ·rw [if_neg hl];exact vK
theorem MH (hB:vz all m) {listed:Array Bool} (L:O5 all m listed) {i:Nat} {o:Oper} (ho:all[i]? =some o) (Dg:i < m) (xD:listed.getD i false=false) (s:Nat):
 ∀ k,k≤all.size→vL all mY e (listed.setIfInBounds i true) k s=(if i < k then nf (vL all mY e listed k) o.dst (mY i) s else vL all mY e listed k s):=by
 have hi:i < listed.size:=by rw [L.size];exact (Array.getElem?_eq_some_iff.1 ho).1
 intro k
 induction k with
 | zero=>intro _;simp [vL]
 | succ k ih=>
   intro hk
   have vK:=ih (by omega)
   have dW:all[k]? =some all[k]:=by simp [show k < all.size by omega]
   simp only [vL,dW,cp,jR hi]
   rcases dn k i with ew | heq | Iw
   ·rw [if_neg (by omega)] at vK
    have e1:(if k=i then true else listed.getD k false)=listed.getD k false:=if_neg (by omega)
    rw [e1,if_neg (show ¬ i < k+1 by omega)]
    by_cases hl:listed.getD k false=true
    ·rw [if_pos hl,if_pos hl]
     by_cases hd:(all[k]).dst=some s
     ·rw [hd,mA,mA]
     ·rw [jT hd,jT hd];exact vK
    ·rw [if_neg hl,if_neg hl];exact vK
   ·subst heq
    rw [if_neg (by omega)] at vK
    have e1:(if k=k then true else listed.getD k false)=true:=if_pos rfl
    rw [e1,if_pos (show k < k+1 by omega),if_pos rfl,xD,if_neg Bool.false_ne_true]
    obtain rfl:all[k]=o:=by rw [dW] at ho;exact aa ho
    by_cases hd:(all[k]).dst=some s
    ·rw [hd,mA,mA]
    ·rw [jT hd,jT hd];exact vK
   ·rw [if_pos Iw] at vK
    have e1:(if k=i then true else listed.getD k false)=listed.getD k false:=if_neg (by omega)
    rw [e1,if_pos (show i < k+1 by omega)]
    by_cases hl:listed.getD k false=true
    ·rw [if_pos hl,if_pos hl]
     by_cases hd:(all[k]).dst=some s
     ·by_cases E1:o.dst=some s
      ·exfalso
       have hw:=(kZ hB dW ho Iw).1 (L.head k hl) (DU E1 hd)
       have:=mf.PM L.closed hw hl
       rw [xD] at this;cases this
      ·rw [hd,mA,jT E1,mA]
     ·by_cases E1:o.dst=some s
      ·rw [jT hd,vK,E1,mA,mA]
      ·rw [jT hd,vK,jT E1,jT E1,jT hd]
    ·rw [if_neg hl,if_neg hl];exact vK
structure Tok where
 prod:Option Nat
 cons:Option Nat
 Yx:List Nat
 Xr:Bk→Bk×Ob
 Xt:Option Nat
 sft:List Nat
def Tok.ix (t:Tok):Option Nat:=match t.Xt with | some a=>some a | none=>t.prod
def Tok.at (t:Tok) (β:Nat→Bk):Bk×Ob:=t.Xr (match t.ix with | some i=>β i | none=>⟨none,0⟩)
def yc (listed:Array Bool) (t:Tok):Bool:=(match t.prod with | none=>true | some i=>listed.getD i false)&&(match t.cons with | none=>true | some i=>!listed.getD i false)
def Bg (i:Nat) (t:Tok):Bool:=match t.cons with | some c=>ai c i | none=>false
def PS (i:Nat) (t:Tok):Bool:=match t.prod with | some c=>ai c i | none=>false
def JN (i:Nat) (t:Tok):Bool:=t.Yx.contains i
def yL (tk:List Tok) (i:Nat) (β:Nat→Bk):Heap:=(tk.filter (JN i)).map (·.at β)
def O3 (i:Nat) (t:Tok):Bool:=t.sft.contains i
def u7 (tk:List Tok) (i:Nat) (β:Nat→Bk):List Heap:=match tk.filter (O3 i) with
 | []=>[yL tk i β]
 | l=>l.map fun t=>t.at β :: yL tk i β
def r9 (tk:List Tok) (listed:Array Bool) (β:Nat→Bk):Heap:=(tk.filter (yc listed)).map (·.at β)
def tZ (tk:List Tok) (i:Nat) (β:Nat→Bk):Heap:=(tk.filter (Bg i)).map (·.at β)
def kB (tk:List Tok) (i:Nat) (β:Nat→Bk):Heap:=(tk.filter (PS i)).map (·.at β)
def om (β:Nat→Bk) (i:Nat) (b:Bk):Nat→Bk:=fun k=>bif ai k i then b else β k
theorem PT (β:Nat→Bk) (i:Nat) (b:Bk):om β i b i=b:=by simp [om]
theorem JO {β:Nat→Bk} {i k:Nat} {b:Bk} (h:k≠i):om β i b k=β k:=by simp [om,qI h]
def MI (tk:List Tok) (β:Nat→Bk):Heap:=(tk.filter (fun t=>t.cons.isNone)).map (·.at β)
def Vz (A:List Nat) (m:Nat) (tk:List Tok):Bool:=tk.all fun t=>
 (match t.prod with | some p=>al p m | none=>true)&&(match t.cons with | some c=>al c m&&(match t.prod with | some p=>(A.getD c 0).testBit p | none=>true) | none=>true)&&
 (match t.Xt with | some a=>(match t.prod with | some p=>(A.getD p 0).testBit a | none=>false) | none=>true)&&
 t.Yx.all fun i=>al i m&&(match t.prod with | some p=>(A.getD i 0).testBit p | none=>true)&&(match t.cons with | some c=>(A.getD c 0).testBit i | none=>true)
def RP (A:List Nat) (m:Nat) (tk:List Tok):Bool:=(List.range m).all fun i=>match tk.filter (O3 i) with
 | []=>true
 | [t0,t1]=>(match t0.cons,t1.prod with | some j,some j'=>ai j j'&&!Nat.beq j i | _,_=>false)&&(match t0.prod with | some p=>(A.getD i 0).testBit p | none=>true)&&(match t1.cons with | some c=>(A.getD c 0).testBit i | none=>true)&&!JN i t0&&!JN i t1
 | _=>false
def IA (all:Array Oper) (m:Nat) (tk:List Tok):Prop:=∀ i,i < m→tk.filter (O3 i)=[]∨∃ t0 t1 j,tk.filter (O3 i)=[t0,t1]∧t0.cons=some j∧t1.prod=some j∧j≠i∧(∀ p,t0.prod=some p→Ay all i p)∧(∀ c,t1.cons=some c→Ay all c i)∧JN i t0=false∧JN i t1=false
theorem IB {A:List Nat} {tk:List Tok} (hA:KV all=A) (h:RP A m tk=true):IA all m tk:=by
 intro i hi
 have:=ag.1 h i (d0.2 hi)
 split at this
 ·rename_i e;exact .inl e
 ·rename_i t0 t1 e
  simp only [ac,d4] at this
  obtain ⟨⟨⟨⟨h1,h2⟩,h3⟩,h4⟩,h5⟩:=this
  split at h1
  ·rename_i j j' hj Yy
   simp only [ac,d4] at h1
   obtain ⟨h6,h7⟩:=h1
   obtain rfl:=a8 h6
   refine .inr ⟨t0,t1,j,e,hj,Yy,fun e=>by rw [e] at h7;simp at h7,fun p hp=>?_,fun c hc=>?_,h4,h5⟩
   ·rw [hp] at h2;subst hA;exact oT h2
   ·rw [hc] at h3;subst hA;exact oT h3
  ·cases h1
 ·cases this
def Cb (all:Array Oper) (m:Nat) (tk:List Tok):Prop:=∀ t∈tk,(∀ p,t.prod=some p→p < m)∧(∀ c,t.cons=some c→c < m∧∀ p,t.prod=some p→Ay all c p)∧(∀ i,JN i t=true→i < m∧(∀ p,t.prod=some p→Ay all i p)∧∀ c,t.cons=some c→Ay all c i)∧∀ a,t.Xt=some a→∃ p,t.prod=some p∧Ay all p a
theorem K5 {A:List Nat} {tk:List Tok} (hA:KV all=A) (h:Vz A m tk=true):Cb all m tk:=by
 intro t ht
 have:=ag.1 h t ht
 rw [ac,ac,ac] at this
 obtain ⟨⟨⟨h1,h2⟩,h9⟩,h4⟩:=this
 subst hA
 refine ⟨fun p hp=>by rw [hp] at h1;simpa using h1,fun c hc=>?_,fun i hi=>?_,fun a ha=>?_⟩
 ·rw [hc] at h2
  simp only [ac] at h2
  refine ⟨by simpa using h2.1,fun p hp=>?_⟩
  have h3:=h2.2
  rw [hp] at h3
  exact oT h3
 ·have h5:=ag.1 h4 i (by simpa [JN] using hi)
  rw [ac,ac] at h5
  obtain ⟨⟨h6,h7⟩,h8⟩:=h5
  exact ⟨by simpa using h6,fun p hp=>by rw [hp] at h7;exact oT h7,fun c hc=>by rw [hc] at h8;exact oT h8⟩
 ·rw [ha] at h9
  cases hp:t.prod with
  | none=>rw [hp] at h9;cases h9
  | some p=>rw [hp] at h9;exact ⟨p,rfl,oT h9⟩
theorem u9 {α:Type} (p q:α→Bool) (l:List α):(l.filter p).Perm (l.filter (fun x=>p x&&q x)++l.filter (fun x=>p x&&!q x)):=by
 induction l with
 | nil=>exact List.Perm.refl _
 | cons x l ih=>
   simp only [List.filter_cons]
   cases hp:p x<;>cases hq:q x
   ·simpa using ih
   ·simpa using ih
   ·simp only [b7,b8,cv,if_false,if_true]
    exact (d5 x ih).trans cy.symm
   ·simp only [b7,Bool.not_true,cv,if_false,if_true,bo]
    exact d5 x ih
theorem SR {tk:List Tok} (hT:Cb all m tk) {listed:Array Bool} {i:Nat} (xD:listed.getD i false=false) (E6:∀ j,Ay all i j→listed.getD j false=true) (β:Nat→Bk):
 (r9 tk listed β).Perm (tZ tk i β++(tk.filter (fun t=>yc listed t&&!Bg i t)).map (·.at β)):=by
 unfold r9 tZ
 rw [← bW]
 refine cz _ ?_
 have e:tk.filter (Bg i)=tk.filter (fun t=>yc listed t&&Bg i t):=by
  apply bv
  intro t ht
  cases hc:Bg i t with
  | false=>simp
  | true=>
    unfold Bg at hc
    split at hc
    ·rename_i c GF
     obtain rfl:c=i:=a8 hc
     have:=(hT t ht).2.1 c GF
     have Vs:yc listed t=true:=by
      unfold yc
      rw [GF]
      simp only [xD,b8,d6]
      split
      ·rfl
      ·rename_i p hp;exact E6 p (this.2 p hp)
     rw [Vs];rfl
    ·cases hc
 rw [e]
 exact u9 _ _ _
theorem PU {tk:List Tok} (hT:Cb all m tk) {listed:Array Bool} (yF:mf all listed) {i:Nat} (hi:i < listed.size) (xD:listed.getD i false=false) (E7:∀ c,Ay all c i→c≠i) (β:Nat→Bk) (b:Bk):
 (r9 tk (listed.setIfInBounds i true) (om β i b)).Perm (kB tk i (om β i b)++(tk.filter (fun t=>yc listed t&&!Bg i t)).map (·.at β)):=by
 unfold r9 kB
 have e2:(tk.filter (fun t=>yc listed t&&!Bg i t)).map (·.at β)=(tk.filter (fun t=>yc listed t&&!Bg i t)).map (·.at (om β i b)):=by
  apply List.map_congr_left
  intro t ht
  have h0:=(bX.1 ht).1
  have h1:=(bX.1 ht).2
  rw [ac] at h1
  have Xi:∀ p,t.prod=some p→listed.getD p false=true:=by
   intro p hp
   have:=h1.1
   unfold yc at this
   rw [hp,ac] at this
   exact this.1
  unfold Tok.at
  cases hx:t.ix with
  | none=>rfl
  | some p=>
    have Sy:listed.getD p false=true:=by
     unfold Tok.ix at hx
     cases ha:t.Xt with
     | none=>rw [ha] at hx;exact Xi p hx
     | some a=>
       rw [ha] at hx
       obtain rfl:=aa hx
       obtain ⟨q,q1,q2⟩:=(hT t h0).2.2.2 a ha
       exact yF.PM q2 (Xi q q1)
    have:p≠i:=fun e=>by subst e;rw [xD] at Sy;cases Sy
    simp only [JO this]
 rw [e2,← bW]
 refine cz _ ?_
 refine (u9 _ (PS i) _).trans ?_
 have f1:tk.filter (fun t=>yc (listed.setIfInBounds i true) t&&PS i t)=tk.filter (PS i):=by
  apply bv
  intro t ht
  cases hp:PS i t with
  | false=>simp
  | true=>
    unfold PS at hp
    split at hp
    ·rename_i p Xu
     obtain rfl:p=i:=a8 hp
     have Vs:yc (listed.setIfInBounds p true) t=true:=by
      unfold yc
      rw [Xu]
      simp only [jR hi,if_true,b7]
      cases hc:t.cons with
      | none=>rfl
      | some c=>
        have E6:=((hT t ht).2.1 c hc).2 p Xu
        have Aq:=E7 c E6
        simp only [Aq,if_false]
        cases hl:listed.getD c false with
        | false=>rfl
        | true=>have:=yF.PM E6 hl;rw [xD] at this;cases this
     rw [Vs];rfl
    ·cases hp
 have f2:tk.filter (fun t=>yc (listed.setIfInBounds i true) t&&!PS i t)=tk.filter (fun t=>yc listed t&&!Bg i t):=by
  apply bv
  intro t ht
  unfold yc PS Bg
  cases hp:t.prod with
  | none=>
    cases hc:t.cons with
    | none=>simp
    | some c=>
      simp only [jR hi]
      by_cases O9:c=i
      ·subst O9;simp
      ·have:ai c i=false:=qI O9
       simp [O9,this]
  | some p=>
    by_cases Xv:p=i
    ·subst Xv
     simp [xD]
    ·have hb:ai p i=false:=qI Xv
     cases hc:t.cons with
     | none=>simp [jR hi,Xv,hb]
     | some c=>
       simp only [jR hi,Xv,hb,if_false]
       by_cases O9:c=i
       ·subst O9;simp
       ·have:ai c i=false:=qI O9
        simp [O9,this]
 rw [f1,f2]
theorem MJ {tk:List Tok} (hT:Cb all m tk) {listed:Array Bool} (yF:mf all listed) {i:Nat} (xD:listed.getD i false=false) (E6:∀ j,Ay all i j→listed.getD j false=true) (E7:∀ c,Ay all c i→c≠i) (β:Nat→Bk):
 ((tk.filter (fun t=>yc listed t&&!Bg i t)).map (·.at β)).Perm (yL tk i β++(tk.filter (fun t=>(yc listed t&&!Bg i t)&&!JN i t)).map (·.at β)):=by
 unfold yL
 rw [← bW]
 refine cz _ ?_
 have e:tk.filter (JN i)=tk.filter (fun t=>(yc listed t&&!Bg i t)&&JN i t):=by
  apply bv
  intro t ht
  cases hr:JN i t with
  | false=>simp
  | true=>
    obtain ⟨_,q2,q3⟩:=(hT t ht).2.2.1 i hr
    have h1:yc listed t=true:=by
     unfold yc
     have e1:(match t.prod with | none=>true | some i=>listed.getD i false)=true:=by
      cases hp:t.prod with
      | none=>rfl
      | some p=>exact E6 p (q2 p hp)
     have e2:(match t.cons with | none=>true | some i=>!listed.getD i false)=true:=by
      cases hc:t.cons with
      | none=>rfl
      | some c=>
        have:=q3 c hc
        show (!listed.getD c false)=true
        cases hl:listed.getD c false with
        | false=>rfl
        | true=>have:=yF.PM this hl;rw [xD] at this;cases this
     rw [e1,e2];rfl
    have h2:Bg i t=false:=by
     unfold Bg
     cases hc:t.cons with
     | none=>rfl
     | some c=>exact qI (E7 c (q3 c hc))
    rw [h1,h2];rfl
 rw [e]
 exact u9 _ _ _
theorem K6 {tk:List Tok} (hT:Cb all m tk) (hS:IA all m tk) {listed:Array Bool} (yF:mf all listed) {i:Nat} (Dg:i < m) (xD:listed.getD i false=false) (E6:∀ j,Ay all i j→listed.getD j false=true) (E7:∀ c,Ay all c i→c≠i) (β:Nat→Bk):
 ∃ X∈u7 tk i β,∃ rest,((tk.filter (fun t=>yc listed t&&!Bg i t)).map (·.at β)).Perm (X++rest):=by
 have h0:=MJ hT yF xD E6 E7 β
 rcases hS i Dg with e | ⟨t0,t1,j,e,a1,a2,a3,a4,a5,a6,a7⟩
 ·exact ⟨yL tk i β,by unfold u7;rw [e];simp,_,h0⟩
 ·have m0:t0∈tk:=(bX.1 (by rw [e];simp:t0∈tk.filter (O3 i))).1
  have m1:t1∈tk:=(bX.1 (by rw [e];simp:t1∈tk.filter (O3 i))).1
  have go:∀ t,t∈tk→yc listed t=true→Bg i t=false→JN i t=false→∃ rest,((tk.filter (fun t=>yc listed t&&!Bg i t)).map (·.at β)).Perm ((t.at β :: yL tk i β)++rest):=by
   intro t ht h1 h2 h3
   have hm:t∈tk.filter (fun t=>(yc listed t&&!Bg i t)&&!JN i t):=bX.2 ⟨ht,by simp [h1,h2,h3]⟩
   obtain ⟨a,b,DZ⟩:=List.append_of_mem hm
   rw [DZ] at h0
   refine ⟨(a++b).map (·.at β),h0.trans ?_⟩
   rw [bW,dk,bW]
   refine (b3 _ cy).trans ?_
   exact cy
  have hX:∀ t,t∈[t0,t1]→(t.at β :: yL tk i β)∈u7 tk i β:=by
   intro t ht
   unfold u7
   rw [e]
   exact dl.2 ⟨t,ht,rfl⟩
  cases hj:listed.getD j false with
  | false=>
    have h1:yc listed t0=true:=by
     unfold yc
     rw [a1]
     simp only [hj,b8,d6]
     split
     ·rfl
     ·rename_i p hp;exact E6 p (a4 p hp)
    have h2:Bg i t0=false:=by unfold Bg;rw [a1];exact qI a3
    obtain ⟨rest,hr⟩:=go t0 m0 h1 h2 a6
    exact ⟨_,hX t0 (by simp),rest,hr⟩
  | true=>
    have h1:yc listed t1=true:=by
     unfold yc
     rw [a2]
     simp only [hj,b7]
     split
     ·rfl
     ·rename_i c hc
      cases hl:listed.getD c false with
      | false=>rfl
      | true=>have:=yF.PM (a5 c hc) hl;rw [xD] at this;cases this
    have h2:Bg i t1=false:=by
     unfold Bg
     split
     ·rename_i c hc;exact qI (E7 c (a5 c hc))
     ·rfl
    obtain ⟨rest,hr⟩:=go t1 m1 h1 h2 a7
    exact ⟨_,hX t1 (by simp),rest,hr⟩
def TV (P:Program) (all:Array Oper) (n:Nat) (B:Heap) (o:Oper) (e:Env) (Ti:Heap) (V:Bk→AV) (Pi:Bk→Heap):Prop:=
 ∀ w S a,a.tmps.size=n→a.defers=[]→cY w S (Ti++B)→EY w S (looks all o) e a→∀ (K:Act→World→Prop) (Q:Exit→Act→World→Prop),
   (∀ b v w' S',lr w S (Ti++B) w' S' (Pi b++B)→cY w' S' (Pi b++B)→At w' S' (V b) v→K (a.put o.dst v) w')→o.wp P a w K Q
def sT (P:Program) (all:Array Oper) (n:Nat) (B:Heap) (o:Oper) (e:Env) (Ti:Heap) (V:Bk→AV) (Pi:Bk→Heap):Prop:=
 (∀ d,o.dst=some d→d < n)∧((oK all o e true∧TV P all n B o e Ti V Pi)∨(oK all o e false∧∀ b,Pi b=Ti∧V b=.raw undef))
def H8 (e c:Env):Env:=fun s=>match e s with | some av=>some av | none=>c s
theorem MK {e c:Env} {s:Nat} {av:AV} (h:e s=some av):H8 e c s=some av:=by simp [H8,h]
theorem oK.up {all:Array Oper} {o:Oper} {e c:Env} {b:Bool} (h:oK all o e b):oK all o (H8 e c) b:=by
 unfold oK at *
 cases hg:o.guard with
 | none=>rw [hg] at h;exact h
 | some g=>
   rw [hg] at h
   obtain ⟨s,h1,h2⟩:=h
   refine ⟨s,h1,?_⟩
   rcases h2 with ⟨x,h3,h4⟩ | ⟨h3,h4⟩
   ·exact .inl ⟨x,MK h3,h4⟩
   ·exact .inr ⟨MK h3,h4⟩
theorem EY.down {w:World} {S:Nat→Prop} {ls:List Nat} {e c:Env} {a:Act} (h:EY w S ls (H8 e c) a):EY w S ls e a:=fun s hs av pa=>h s hs av (MK pa)
theorem sT.up {P:Program} {all:Array Oper} {n:Nat} {B:Heap} {o:Oper} {e c:Env} {Ti:Heap} {V:Bk→AV} {Pi:Bk→Heap} (h:sT P all n B o e Ti V Pi):sT P all n B o (H8 e c) Ti V Pi:=by
 refine ⟨h.1,h.2.imp (fun x=>⟨x.1.up,fun w S a h1 h2 h3 h4=>x.2 w S a h1 h2 h3 h4.down⟩) (fun x=>⟨x.1.up,x.2⟩)⟩
theorem ML {all:Array Oper} {mY:Nat→Option AV} {V:Nat→Bk→AV} {cn:Nat→(Nat→Bk)→Env} {m:Nat} (h0:∀ β s,cn 0 β s=none) (hc:∀ i o,i < m→all[i]? =some o→∀ β,cn (i+1) β=match mY i with | none=>nf (cn i β) o.dst (some (V i (β i))) | some _=>cn i β) (hm:m≤all.size):
 ∀ i,i≤m→∀ β s av,cn i β s=some av→∃ k o,k < i∧all[k]? =some o∧o.dst=some s∧mY k=none∧av=V k (β k):=by
 intro i
 induction i with
 | zero=>intro _ β s av h;rw [h0] at h;cases h
 | succ i ih=>
   intro hi β s av h
   have dW:all[i]? =some all[i]:=by simp [show i < all.size by omega]
   rw [hc i _ (by omega) dW] at h
   cases pa:mY i with
   | some x=>
     rw [pa] at h
     obtain ⟨k,o,h1,h2⟩:=ih (by omega) β s av h
     exact ⟨k,o,by omega,h2⟩
   | none=>
     rw [pa] at h
     by_cases hd:(all[i]).dst=some s
     ·simp only [hd,mA] at h
      exact ⟨i,_,by omega,dW,hd,pa,(aa h).symm⟩
     ·simp only [jT hd] at h
      obtain ⟨k,o,h1,h2⟩:=ih (by omega) β s av h
      exact ⟨k,o,by omega,h2⟩
theorem K7 {cn:Nat→(Nat→Bk)→Env} {B:Heap} {tk:List Tok} {V:Nat→Bk→AV} (hB:vz all m) (hT:Cb all m tk) (hSf:IA all m tk) (hm:m≤all.size) {Q:Exit→Act→World→Prop} (h0:en 0=e)
 (SP:∀ β s,cn 0 β s=none) (hcn:∀ i o,i < m→all[i]? =some o→∀ β,cn (i+1) β=match mY i with | none=>nf (cn i β) o.dst (some (V i (β i))) | some _=>cn i β)
 (hs:∀ i o,i < m→all[i]? =some o→(∀ β,∀ X∈u7 tk i β,sT P all n (X++B) o (H8 (en i) (cn i β)) (tZ tk i β) (V i) (fun b=>kB tk i (om β i b)))∧en (i+1)=nf (en i) o.dst (mY i)∧(∀ av,mY i=some av→∀ b,V i b=av))
 (hU:∀ i j oi oj d,i < m→j < m→i≠j→all[i]? =some oi→all[j]? =some oj→mY i=none→oi.dst=some d→oj.dst≠some d) {w0:World} {S0:Nat→Prop} {Xw:Heap}
 (fin:∀ β a w S,a.tmps.size=n→a.defers=[]→cY w S (MI tk β++B)→lr w0 S0 Xw w S (MI tk β++B)→B5 w S (en m) a→(∀ j o d,j < m→all[j]? =some o→mY j=none→o.dst=some d→∃ v,a.tmps[d]? =some v∧At w S (V j (β j)) v)→wpList P all Q (all.toList.drop m) a w):
 ∀ (fuel:Nat) (listed:Array Bool) (a:Act) (w:World) (S:Nat→Prop) (β:Nat→Bk),O5 all m listed→(listed.toList.count true)+fuel=all.size→a.tmps.size=n→a.defers=[]→cY w S (r9 tk listed β++B)→lr w0 S0 Xw w S (r9 tk listed β++B)→B5 w S (vL all mY e listed all.size) a→
   (∀ j o d,listed.getD j false=true→all[j]? =some o→mY j=none→o.dst=some d→∃ v,a.tmps[d]? =some v∧At w S (V j (β j)) v)→
   wpAny P .any all Q fuel listed a w:=by
 have Vt:∀ i o,i < m→all[i]? =some o→en (i+1)=nf (en i) o.dst (mY i):=fun i o h1 h2=>(hs i o h1 h2).2.1
 have E7:∀ c i,Ay all c i→c≠i:=by
  have key:∀ c i,Ay all c i→i < c:=by
   intro c i h
   have one:∀ {j i:Nat} {oj:Oper},all[j]? =some oj→waits oj i=true→i < j:=by
    intro j i oj hj hw
    simp only [waits,List.any_eq_true,ac] at hw
    obtain ⟨e',Yt,Ar,SK⟩:=hw
    have:=x7 hB hj (by simpa using Yt) Ar
    obtain rfl:e'.on=i:=a8 SK
    exact this
   induction h with
   | one hj hw=>exact one hj hw
   | step hj hw _ ih=>have:=one hj hw;omega
  intro c i h e;have:=key c i h;omega
 have done:∀ (fuel:Nat) (listed:Array Bool) (a:Act) (w:World) (S:Nat→Prop) (β:Nat→Bk),O5 all m listed→(listed.toList.count true)+fuel=all.size→a.tmps.size=n→a.defers=[]→cY w S (r9 tk listed β++B)→lr w0 S0 Xw w S (r9 tk listed β++B)→B5 w S (vL all mY e listed all.size) a→
  (∀ j o d,listed.getD j false=true→all[j]? =some o→mY j=none→o.dst=some d→∃ v,a.tmps[d]? =some v∧At w S (V j (β j)) v)→
  (∀ i,i < m→listed.getD i false=true)→wpAny P .any all Q fuel listed a w:=by
  intro fuel listed a w S β L hc lp Gu hr hg tY IC lf
  have Dp:∀ i,m≤i→listed.getD i false=false:=fun i hi=>by
   cases hv:listed.getD i false with
   | false=>rfl
   | true=>have:=L.head i hv;omega
  have SL:listed.toList.count true=m:=by
   have:listed.toList=d7 m true++d7 (all.size - m) false:=by
    apply ce
    intro i
    rcases bu i m with hi | hi
    ·have rP:i < listed.size:=by rw [L.size];omega
     rw [cA (by simpa using hi)]
     have:=lf i hi
     simp [rP] at this
     simp [rP,hi,this]
    ·rw [List.getElem?_append_right (by simpa using hi)]
     rcases bu i listed.size with rP | rP
     ·have:=Dp i hi
      simp [rP] at this
      have h2:i - m < all.size - m:=by rw [L.size] at rP;omega
      simp [rP,h2,this]
     ·have h2:¬ i - m < all.size - m:=by rw [L.size] at rP;omega
      simp [cf (l:=listed.toList) (by simpa using rP),h2]
   rw [this,List.count_append,cH,cH]
   simp
  have SN:vL all mY e listed all.size=en m:=by
   have key:∀ k,k≤all.size→vL all mY e listed k=en (min k m):=by
    intro k
    induction k with
    | zero=>intro _;simp [vL,h0]
    | succ k ih=>
      intro hk
      have dW:all[k]? =some all[k]:=by simp [show k < all.size by omega]
      simp only [vL,dW,cp,ih (by omega)]
      rcases bu k m with h | h
      ·rw [if_pos (lf k h),bP (by omega),bP (by omega),Vt k _ h dW]
      ·rw [if_neg (by rw [Dp k h];simp),be (by omega),be (by omega)]
   rw [key all.size (ap _),be hm]
  have VA:r9 tk listed β=MI tk β:=by
   unfold r9 MI
   congr 1
   apply bv
   intro t ht
   obtain ⟨q1,q2,_⟩:=hT t ht
   unfold yc
   cases hp:t.prod with
   | none=>
     cases hc:t.cons with
     | none=>rfl
     | some c=>simp [lf c (q2 c hc).1]
   | some p=>
     cases hc:t.cons with
     | none=>simp [lf p (q1 p hp)]
     | some c=>simp [lf c (q2 c hc).1]
  rw [SN] at tY
  rw [VA] at hr hg
  exact Gs hB fuel m listed a w (ap _) (by omega) L.size lf Dp (fin β a w S lp Gu hr hg tY (fun j o d hj ho pa hd=>IC j o d (lf j hj) ho pa hd))
 intro fuel
 induction fuel with
 | zero=>
   intro listed a w S β L hc lp Gu hr hg tY IC
   refine done 0 listed a w S β L hc lp Gu hr hg tY IC (fun i hi=>?_)
   have Gv:listed.toList.count true=listed.toList.length:=by rw [Array.length_toList,L.size];omega
   have lf:=List.count_eq_length.1 Gv
   have rP:i < listed.size:=by rw [L.size];omega
   have:=lf listed[i] (by simp)
   simp [rP];exact this.symm
 | succ fuel ih=>
   intro listed a w S β L hc lp Gu hr hg tY IC
   by_cases lf:∀ i,i < m→listed.getD i false=true
   ·exact done _ listed a w S β L hc lp Gu hr hg tY IC lf
   ·refine ⟨fun KX=>(lf fun i hi=>zN hB L.size KX i (by omega)).elim,fun i hi=>?_⟩
    obtain ⟨KW,Gt⟩:=xg hi
    have xD:=Bx Gt
    have AA:all[i]? =some all[i]:=by simp [KW]
    have Dg:i < m:=by
     rcases bu i m with h | h
     ·exact h
     ·refine (lf fun j hj=>?_).elim
      have O4:all[j]? =some all[j]:=by simp [show j < all.size by omega]
      exact mf.ready L.closed ((kZ hB AA O4 (by omega)).2 h) hi
    have rP:i < listed.size:=by rw [L.size];exact KW
    obtain ⟨Yz,_,hV⟩:=hs i _ Dg AA
    obtain ⟨X,hX,rest,prd⟩:=K6 hT hSf L.closed Dg xD (fun j hj=>mf.ready L.closed hj hi) (fun c h=>E7 c i h) β
    obtain ⟨RB,sQ⟩:=Yz β X hX
    have u5:EY w S (looks all all[i]) (H8 (en i) (cn i β)) a:=by
     intro s O6 av pa
     rw [H8] at pa
     cases SS:en i s with
     | none=>
       rw [SS] at pa
       obtain ⟨k,o,k1,k2,k3,k4,k5⟩:=ML SP hcn hm i (by omega) β s av pa
       have JP:listed.getD k false=true:=mf.ready L.closed ((kZ hB AA k2 k1).1 Dg (x8 k3 O6)) hi
       rw [k5]
       exact IC k o s JP k2 k4 k3
     | some rf=>
     rw [SS] at pa
     obtain rfl:=aa pa
     have hc:=K4 (mY:=mY) (en:=en) (e:=e) hB L h0 Vt hm AA Dg xD (fun j hj=>mf.ready L.closed hj hi) O6 all.size (ap _)
     rw [be (by omega)] at hc
     exact tY s rf (by rw [hc];exact SS)
    have L':O5 all m (listed.setIfInBounds i true):=by
     refine ⟨by simpa using L.size,fun k hk=>?_,fun k j o hk dW hw=>?_⟩
     ·rw [jR rP] at hk
      split at hk
      ·omega
      ·exact L.head k hk
     ·rw [jR rP] at hk
      rw [jR rP]
      split
      ·rfl
      ·split at hk
       ·rename_i Yu
        subst Yu
        obtain rfl:all[k]=o:=by rw [AA] at dW;exact aa dW
        exact tC AA hi hw
       ·exact L.closed k j o hk dW hw
    have Gv:(listed.setIfInBounds i true).toList.count true+fuel=all.size:=by
     have Mu:listed[i]=false:=by simpa [rP] using xD
     have:(listed.setIfInBounds i true).toList=listed.toList.set i true:=by simp
     rw [this,List.count_set (by simpa using rP)]
     have Sz:listed.toList[i]'(by simpa using rP)=false:=by simpa using Mu
     rw [Sz]
     have e1:(if (false==true)=true then 1 else 0)=0:=rfl
     have e2:(if (true==true)=true then 1 else 0)=1:=rfl
     rw [e1,e2]
     omega
    have VB:∀ T:Heap,(T++(X++rest)++B).Perm ((T++(X++B))++rest):=fun T=>by
     rw [bU,bU,bU,bU]
     exact b3 _ (b3 _ List.perm_append_comm)
    have pin:(r9 tk listed β++B).Perm ((tZ tk i β++(X++B))++rest):=
     (((SR hT xD (fun j hj=>mf.ready L.closed hj hi) β).trans (b3 _ prd)).append_right B).trans (VB _)
    have VC:∀ b,((kB tk i (om β i b)++(X++B))++rest).Perm (r9 tk (listed.setIfInBounds i true) (om β i b)++B):=fun b=>
     List.Perm.symm ((((PU hT L.closed rP xD (fun c h=>E7 c i h) β b).trans (b3 _ prd)).append_right B).trans (VB _))
    have YA:cY w S ((tZ tk i β++(X++B))++rest):=hr.perm pin
    have Xo:∀ v,(a.put (all[i]).dst v).tmps.size=n:=fun v=>by cases (all[i]).dst<;>simp [Act.put,lp]
    have Xp:∀ v,(a.put (all[i]).dst v).defers=[]:=fun v=>by cases (all[i]).dst<;>simp [Act.put,Gu]
    have YB:∀ {w1 w2:World} {S1 S2:Nat→Prop} {h1 h2 Gb Mm:Heap},lr w1 S1 h1 w2 S2 h2→h1.Perm Gb→h2.Perm Mm→lr w1 S1 Gb w2 S2 Mm:=by
     intro w1 w2 S1 S2 h1 h2 Gb Mm ev p1 p2
     have has:∀ {g g':Heap} {k:Nat},g.Perm g'→(Has g k↔Has g' k):=fun p=>
      ⟨fun ⟨x,hx,hb⟩=>⟨x,p.mem_iff.1 hx,hb⟩,fun ⟨x,hx,hb⟩=>⟨x,p.mem_iff.2 hx,hb⟩⟩
     exact ⟨ev.os,ev.tape,ev.output,ev.size,ev.lz,fun k hk hh=>ev.other k hk (fun hc=>hh ((has p1).1 hc)),fun k hk=>((ev.new k ((has p2).2 hk)).imp (has p1).1 id),ev.drawn⟩
    have next:∀ (b:Bk) (v:Value) (w':World) (S':Nat→Prop),lr w S (tZ tk i β++(X++B)) w' S' (kB tk i (om β i b)++(X++B))→cY w' S' (kB tk i (om β i b)++(X++B))→At w' S' (V i b) v→wpAny P .any all Q fuel (listed.setIfInBounds i true) (a.put (all[i]).dst v) w':=by
     intro b v w' S' PV PW pX
     have RE:cY w' S' ((kB tk i (om β i b)++(X++B))++rest):=YA.frame PV PW
     have ev2:=PV.frame rest
     refine ih _ _ _ S' (om β i b) L' Gv (Xo v) (Xp v) (RE.perm (VC b)) (hg.trans (YB ev2 pin.symm (VC b))) ?_ ?_
     ·intro s av pa
      rw [MH (mY:=mY) (e:=e) hB L AA Dg xD s all.size (ap _),if_pos (by omega)] at pa
      by_cases hd:(all[i]).dst=some s
      ·rw [hd,mA] at pa
       have L0:=RB s hd
       exact ⟨v,by rw [hd];simp [Act.put,lp,L0],by rw [← hV av pa b];exact pX⟩
      ·rw [jT hd] at pa
       obtain ⟨u,h1,h2⟩:=tY s av pa
       refine ⟨u,?_,h2.mono PV.lz⟩
       cases SO:(all[i]).dst with
       | none=>simpa [Act.put] using h1
       | some d'=>
         have Aq:d'≠s:=fun e=>hd (by rw [SO,e])
         simp [Act.put,Aq,h1]
     ·intro j o d hj ho pa hd
      by_cases Xx:j=i
      ·subst Xx
       rw [AA] at ho;obtain rfl:=aa ho
       have L0:=RB d hd
       exact ⟨v,by rw [hd];simp [Act.put,lp,L0],by rw [PT];exact pX⟩
      ·have zK:listed.getD j false=true:=by rw [jR rP,if_neg Xx] at hj;exact hj
       obtain ⟨u,h1,h2⟩:=IC j o d zK ho pa hd
       refine ⟨u,?_,by rw [JO Xx];exact h2.mono PV.lz⟩
       cases SO:(all[i]).dst with
       | none=>simpa [Act.put] using h1
       | some d'=>
         have Aq:d'≠d:=fun e=>hU j i o all[i] d (L.head j zK) Dg Xx ho AA pa hd (by rw [SO,e])
         simp [Act.put,Aq,h1]
    simp only [wpOp,AA]
    rcases sQ with ⟨hw,Yv⟩ | ⟨hw,pa⟩
    ·rw [if_pos (xh hw u5)]
     exact .inl (Yv w S a lp Gu (YA.sub (ci _ _)) u5 _ _ (fun b v w' S' PV PW pX=>next b v w' S' PV PW pX))
    ·rw [if_neg (by rw [xh hw u5];simp)]
     obtain ⟨e1,e2⟩:=pa ⟨none,0⟩
     replace e1:kB tk i (om β i ⟨none,0⟩)=tZ tk i β:=e1
     refine next ⟨none,0⟩ _ w S (by rw [e1];exact lr.refl _ _ _) (by rw [e1];exact YA.sub (ci _ _)) ?_
     rw [e2];exact .raw _
end order
end Go.Eng
namespace Go.Eng
open Go
variable [ck]
theorem MM {P:Program} {o:Oper} {a:Act} {K0 K G:Act→World→Prop} {Q':Exit→Act→World→Prop} (hK:∀ v w',K0 (a.put o.dst v) w'→K (a.put o.dst v) w') (hd:∀ a' w',K0 a' w'→a'.defers=[]):
 ∀ r,o.upon P a K0 (x3 G) r→o.upon P a K Q' r:=by
 intro r h
 unfold Oper.upon at *
 split at h
 ·exact hK _ _ h
 ·exact hK _ _ h
 ·rename_i d w'
  have:=hd _ _ h
  cases GG:o.dst<;>simp [Act.put,GG] at this
 ·refine Calls.mono h ?_
  intro e w' he
  cases e with
  | returned v=>exact hK _ _ he
  | panicked c=>cases he.1
  | outgrown=>obtain ⟨a0,w0,h0⟩:=he;cases h0.1
 ·exact Rows.mono h fun v w' hv=>hK _ _ hv
 ·cases h.1
 ·exact h.elim
theorem PX {P:Program} {all:Array Oper} {o:Oper} {σ:St} {Q:St→Prop} (hg:o.guard=none) (h:ae P all [o] σ Q) {w:World} {S:Nat→Prop} {a:Act} (r:ey w S σ a) {K:Act→World→Prop} {Q':Exit→Act→World→Prop}
 (hK:∀ v w',Xh w S σ.hp Q (a.put o.dst v) w'→K (a.put o.dst v) w'):o.wp P a w K Q':=by
 have:=h w S a r
 unfold wpList at this
 rw [if_pos (by simp [Region.wanted,hg])] at this
 rcases this with h1 | ⟨_,a0,w0,h0,_⟩
 ·refine MM (G:=Xh w S σ.hp Q) (fun v w' hh=>hK v w' hh.2) (fun a' w' hh=>?_) _ h1
  obtain ⟨_,aS,S',_,hr,_⟩:=hh
  exact hr.defers
 ·cases h0
variable {P:Program} {all:Array Oper} {n:Nat} {B:Heap} {tk:List Tok}
def K8 (x:Option AV) (c:(Nat→Bk)→Env) (d:Option Nat) (V:Bk→AV) (i:Nat):(Nat→Bk)→Env:=fun β=>match x with | none=>nf (c β) d (some (V (β i))) | some _=>c β
inductive RQ (P:Program) (all:Array Oper) (n:Nat) (B:Heap) (tk:List Tok) (dy:List Nat):Nat→List Oper→Env→((Nat→Bk)→Env)→List (Option AV×(Bk→AV))→Env→Prop
 | nil (i:Nat) (e:Env) (c:(Nat→Bk)→Env):RQ P all n B tk dy i [] e c [] e
 | cons {i:Nat} {o:Oper} {l:List Oper} {e e':Env} {c:(Nat→Bk)→Env} {D:List (Option AV×(Bk→AV))} {x:Option AV} {V:Bk→AV} (h:∀ β,∀ X∈u7 tk i β,sT P all n (X++B) o (H8 e (c β)) (tZ tk i β) V (fun b=>kB tk i (om β i b))) (hv:∀ av,x=some av→∀ b,V b=av) (hx:x=none→dy.contains i=true)
  (k:RQ P all n B tk dy (i+1) l (nf e o.dst x) (K8 x c o.dst V i) D e'):RQ P all n B tk dy i (o :: l) e c ((x,V) :: D) e'
def yM (β:Nat→Bk):Nat→List Oper→List (Option AV×(Bk→AV))→List (Nat×AV)→List (Nat×AV)
 | i,o :: l,(none,V) :: D,a=>match o.dst with
   | some d=>yM β (i+1) l D ((d,V (β i)) :: a)
   | none=>yM β (i+1) l D a
 | i,_ :: l,(some _,_) :: D,a=>yM β (i+1) l D a
 | _,_,_,a=>a
def AT (P:Program) (all:Array Oper) (n:Nat) (B:Heap) (tk:List Tok) (dy:List Nat) (i:Nat) (l:List Oper) (tm:List (Nat×AV)) (acc:(Nat→Bk)→List (Nat×AV)) (Q:(Nat→Bk)→List (Nat×AV)→Prop):Prop:=
 ∃ D pZ,RQ P all n B tk dy i l (lk tm) (fun β=>lk (acc β)) D (lk pZ)∧∀ β,Q β (yM β i l D (acc β)++pZ)
section rules
variable {dy:List Nat} {i:Nat} {rest:List Oper} {tm:List (Nat×AV)} {acc:(Nat→Bk)→List (Nat×AV)} {Q:(Nat→Bk)→List (Nat×AV)→Prop} {d:Nat} {ty:TypeId} {pos:String} {af:Array Edge} {op:Op}
theorem AT.nil {F:(Nat→Bk)→List (Nat×AV)} (hF:∀ β,F β=acc β++tm) (h:∀ β,Q β (F β)):AT P all n B tk dy i [] tm acc Q:=
 ⟨[],tm,.nil _ _ _,fun β=>by rw [show yM β i [] [] (acc β)=acc β from rfl,← hF];exact h β⟩
theorem AT.sta {o:Oper} {d:Nat} {av:AV} (hd:o.dst=some d) (h:∀ β,∀ X∈u7 tk i β,sT P all n (X++B) o (H8 (lk tm) (lk (acc β))) (tZ tk i β) (fun _=>av) (fun b=>kB tk i (om β i b))) (k:AT P all n B tk dy (i+1) rest ((d,av) :: tm) acc Q):AT P all n B tk dy i (o :: rest) tm acc Q:=by
 obtain ⟨D,pZ,k1,k2⟩:=k
 refine ⟨(some av,fun _=>av) :: D,pZ,.cons h (fun rf e b=>aa e) (fun e=>by cases e) ?_,k2⟩
 have:nf (lk tm) o.dst (some av)=lk ((d,av) :: tm):=by
  rw [u6,hd];rfl
 rw [this];exact k1
theorem AT.dyn {o:Oper} {d:Nat} {V:Bk→AV} (hd:o.dst=some d) (vy:lk tm d=none) (SU:dy.contains i=true) (h:∀ β,∀ X∈u7 tk i β,sT P all n (X++B) o (H8 (lk tm) (lk (acc β))) (tZ tk i β) V (fun b=>kB tk i (om β i b))) (k:AT P all n B tk dy (i+1) rest tm (fun β=>(d,V (β i)) :: acc β) Q):AT P all n B tk dy i (o :: rest) tm acc Q:=by
 obtain ⟨D,pZ,k1,k2⟩:=k
 refine ⟨(none,V) :: D,pZ,.cons h (fun rf e b=>by cases e) (fun _=>SU) ?_,fun β=>?_⟩
 ·have:nf (lk tm) o.dst none=lk tm:=by
   funext s
   rw [hd]
   simp only [nf]
   split
   ·rename_i e;subst e;exact vy.symm
   ·rfl
  rw [this]
  have e2:K8 none (fun β=>lk (acc β)) o.dst V i=fun β=>lk ((d,V (β i)) :: acc β):=by
   funext β
   simp only [K8,hd]
   rw [u6];rfl
  rw [e2];exact k1
 ·have:=k2 β
  simp only [yM,hd]
  exact this
theorem AT.sto {o:Oper} (hd:o.dst=none) (h:∀ β,∀ X∈u7 tk i β,sT P all n (X++B) o (H8 (lk tm) (lk (acc β))) (tZ tk i β) (fun _=>.raw undef) (fun b=>kB tk i (om β i b))) (k:AT P all n B tk dy (i+1) rest tm acc Q):AT P all n B tk dy i (o :: rest) tm acc Q:=by
 obtain ⟨D,pZ,k1,k2⟩:=k
 refine ⟨(some (.raw undef),fun _=>.raw undef) :: D,pZ,.cons h (fun rf e b=>aa e) (fun e=>by cases e) ?_,k2⟩
 rw [hd];exact k1
def ua (tk:List Tok) (i j:Nat):Bool:=tk.all fun t=>(match t.prod with | some p=>al p i||aw j p | none=>true)&&(match t.cons with | some p=>al p i||aw j p | none=>true)&&((t.Yx.all fun p=>al p i||aw j p)&&t.sft.all fun p=>al p i||aw j p)
theorem GH {i j:Nat} (h:ua tk i j=true) {k:Nat} (h1:i≤k) (h2:k < j) (β:Nat→Bk):tZ tk k β=[]:=by
 unfold tZ
 rw [cU,b9]
 intro t ht hc
 have:=ag.1 h t ht
 rw [ac,ac] at this
 replace this:=this.1
 unfold Bg at hc
 split at hc
 ·rename_i c GF
  obtain rfl:c=k:=a8 hc
  have:=this.2
  rw [GF] at this
  simp at this;omega
 ·cases hc
theorem D0 {i j:Nat} (h:ua tk i j=true) {k:Nat} (h1:i≤k) (h2:k < j) (β:Nat→Bk):kB tk k β=[]:=by
 unfold kB
 rw [cU,b9]
 intro t ht hc
 have:=ag.1 h t ht
 rw [ac,ac] at this
 replace this:=this.1
 unfold PS at hc
 split at hc
 ·rename_i c GF
  obtain rfl:c=k:=a8 hc
  have:=this.1
  rw [GF] at this
  simp at this;omega
 ·cases hc
theorem MN {i j:Nat} (h:ua tk i j=true) {k:Nat} (h1:i≤k) (h2:k < j) (β:Nat→Bk):yL tk k β=[]:=by
 unfold yL
 rw [cU,b9]
 intro t ht hc
 have:=ag.1 h t ht
 rw [ac] at this
 have h3:=ag.1 (ca.1 this.2).1 k (by simpa [JN] using hc)
 simp at h3;omega
theorem D2 {i j:Nat} (h:ua tk i j=true) {k:Nat} (h1:i≤k) (h2:k < j) (β:Nat→Bk):u7 tk k β=[[]]:=by
 have e:tk.filter (O3 k)=[]:=by
  rw [b9]
  intro t ht hc
  have:=ag.1 h t ht
  rw [ac] at this
  have h3:=ag.1 (ca.1 this.2).2 k (by simpa [O3] using hc)
  simp at h3;omega
 unfold u7
 rw [e,MN h h1 h2 β]
theorem Cc (e:Env) (d:Option Nat) (av:AV):nf e d (some av)=xC e d av:=by
 cases d<;>rfl
theorem GJ {o:Oper} {e:Env} {av:AV} (hd:∀ d,o.dst=some d→d < n) (hg:oK all o e true) (h:MV P all n o e B av):sT P all n B o e [] (fun _=>av) (fun _=>[]):=by
 refine ⟨hd,.inl ⟨hg,fun w S a h1 h2 h3 h4 K Q hK=>?_⟩⟩
 exact h w S a h1 h2 h3 h4 K Q (fun v w' S' RJ pX=>hK ⟨none,0⟩ v w' S' (RJ.evo h3.slt _) (h3.grow RJ) pX)
theorem VD:∀ {l1:List Oper} {e e':Env} {i:Nat} (h:PL P all n B l1 e e') (hn:ua tk i (i+l1.length)=true) {l2:List Oper} {c:(Nat→Bk)→Env} {D:List (Option AV×(Bk→AV))} {e2:Env},RQ P all n B tk dy (i+l1.length) l2 e' c D e2→
 ∃ D1,RQ P all n B tk dy i (l1++l2) e c (D1++D) e2∧D1.length=l1.length∧∀ x∈D1,x.1.isSome=true:=by
 intro l1 e e' i h
 induction h generalizing i with
 | nil e=>intro hn l2 c D e2 k;exact ⟨[],by simpa using k,rfl,by simp⟩
 | @run o l e e' av hg hm hd k ih=>
   intro hn l2 c D e2 kk
   have F3:ua tk (i+1) (i+1+l.length)=true:=by
    unfold ua at hn ⊢
    rw [ag] at hn ⊢
    intro t ht
    have:=hn t ht
    rw [ac,ac] at this ⊢
    refine ⟨⟨?_,?_⟩,?_⟩
    ·have h1:=this.1.1
     cases hp:t.prod<;>rw [hp] at h1<;>simp_all<;>omega
    ·have h1:=this.1.2
     cases hp:t.cons<;>rw [hp] at h1<;>simp_all<;>omega
    ·have h1:=this.2
     rw [ac,ag,ag] at h1 ⊢
     exact ⟨fun p hp=>by have:=h1.1 p hp;simp at this ⊢;omega,fun p hp=>by have:=h1.2 p hp;simp at this ⊢;omega⟩
   obtain ⟨D1,a1,a2,a3⟩:=ih F3 (l2:=l2) (D:=D) (e2:=e2) (by rw [show i+1+l.length=i+(o :: l).length by simp;omega];exact kk)
   refine ⟨(some av,fun _=>av) :: D1,?_,by simp [a2],?_⟩
   ·refine .cons (fun β X hX=>?_) (fun rf e b=>aa e) (fun e=>by cases e) (by rw [Cc];exact a1)
    rw [D2 hn (ap _) (by simp)] at hX
    obtain rfl:=bx.1 hX
    rw [GH hn (ap _) (by simp),show (fun b=>kB tk i (om β i b))=fun _=>[] from funext fun b=>D0 hn (ap _) (by simp) _]
    exact (GJ hd hg hm).up
   ·intro x hx
    rcases d8.1 hx with rfl | hx
    ·rfl
    ·exact a3 x hx
 | @pass o l e e' hg hd k ih=>
   intro hn l2 c D e2 kk
   have F3:ua tk (i+1) (i+1+l.length)=true:=by
    unfold ua at hn ⊢
    rw [ag] at hn ⊢
    intro t ht
    have:=hn t ht
    rw [ac,ac] at this ⊢
    refine ⟨⟨?_,?_⟩,?_⟩
    ·have h1:=this.1.1
     cases hp:t.prod<;>rw [hp] at h1<;>simp_all<;>omega
    ·have h1:=this.1.2
     cases hp:t.cons<;>rw [hp] at h1<;>simp_all<;>omega
    ·have h1:=this.2
     rw [ac,ag,ag] at h1 ⊢
     exact ⟨fun p hp=>by have:=h1.1 p hp;simp at this ⊢;omega,fun p hp=>by have:=h1.2 p hp;simp at this ⊢;omega⟩
   obtain ⟨D1,a1,a2,a3⟩:=ih F3 (l2:=l2) (D:=D) (e2:=e2) (by rw [show i+1+l.length=i+(o :: l).length by simp;omega];exact kk)
   refine ⟨(some (.raw undef),fun _=>.raw undef) :: D1,?_,by simp [a2],?_⟩
   ·refine .cons (fun β X hX=>?_) (fun rf e b=>aa e) (fun e=>by cases e) (by rw [Cc];exact a1)
    rw [D2 hn (ap _) (by simp)] at hX
    obtain rfl:=bx.1 hX
    rw [GH hn (ap _) (by simp),show (fun b=>kB tk i (om β i b))=fun _=>[] from funext fun b=>D0 hn (ap _) (by simp) _]
    exact ⟨hd,.inr ⟨hg.up,fun b=>⟨rfl,rfl⟩⟩⟩
   ·intro x hx
    rcases d8.1 hx with rfl | hx
    ·rfl
    ·exact a3 x hx
theorem D3 (β:Nat→Bk):∀ {l1:List Oper} {D1:List (Option AV×(Bk→AV))} (i:Nat) {l2:List Oper} {D:List (Option AV×(Bk→AV))} (a:List (Nat×AV)),D1.length=l1.length→(∀ x∈D1,x.1.isSome=true)→yM β i (l1++l2) (D1++D) a=yM β (i+l1.length) l2 D a
 | [],[],i,l2,D,a,_,_=>by simp
 | o :: l1,(some av,V) :: D1,i,l2,D,a,h,hs=>by
   simp only [bo,yM]
   rw [D3 β (i+1) a (by simpa using h) (fun x hx=>hs x (by simp [hx]))]
   simp [d9,Nat.add_comm 1]
 | o :: l1,(none,V) :: D1,i,l2,D,a,h,hs=>by have:=hs (none,V) (by simp);cases this
 | [],_ :: _,i,l2,D,a,h,hs=>by cases h
 | _ :: _,[],i,l2,D,a,h,hs=>by cases h
theorem AT.am {l l1 l2:List Oper} (m:Nat) (hs:Gx m l=some (l1,l2)) (hn:ua tk i (i+m)=true) (h:AM P all n B l1 tm (fun pZ=>AT P all n B tk dy (i+m) l2 pZ acc Q)):AT P all n B tk dy i l tm acc Q:=by
 obtain ⟨rfl,rfl⟩:=xi hs
 obtain ⟨yN,h1,D,pZ,h2,h3⟩:=h
 obtain ⟨D1,a1,a2,a3⟩:=VD h1 hn h2
 refine ⟨D1++D,pZ,a1,fun β=>?_⟩
 rw [D3 β i (acc β) a2 a3]
 exact h3 β
theorem uA {o:Oper} {Ti H1:Heap} {V:Bk→AV} {Pi H2:Bk→Heap} (hg:o.guard=none) (hd:∀ d,o.dst=some d→d < n) (h1:sk Ti B=some H1) (h2:∀ b,sk (Pi b) B=some (H2 b))
 (u3:ae P all [o] ⟨n,Gw (looks all o) tm,H1⟩ (fun aS=>∃ b yN,aS=⟨n,yN,H2 b⟩∧∀ d,o.dst=some d→lk yN d=some (V b)))
 (hv:o.dst=none→∀ b,V b=.raw undef):sT P all n B o (lk tm) Ti V Pi:=by
 refine ⟨hd,.inl ⟨by simp [oK,hg],fun w S a s1 s2 s3 s4 K Q hK=>?_⟩⟩
 have e1:=pg h1
 rw [e1] at s3 hK
 refine PX hg u3 (sI s1 s2 s3 s4) (fun v w' YC=>?_)
 obtain ⟨aS,S',⟨b,yN,rfl,PY⟩,hr,PV⟩:=YC
 have e2:=pg (h2 b)
 cases GG:o.dst with
 | some d=>
   have RB:=hd d GG
   obtain ⟨u,g1,g2⟩:=hr.tm d _ (PY d GG)
   have hu:u=v:=by
    rw [GG] at g1
    simp [Act.put,s1,RB] at g1
    exact g1.symm
   rw [hu] at g2
   rw [← GG]
   exact hK b v w' S' (by rw [e2];exact PV) (by rw [e2];exact hr.hp) g2
 | none=>
   have:a.put none v=a.put o.dst undef:=by rw [GG];rfl
   rw [this]
   exact hK b undef w' S' (by rw [e2];exact PV) (by rw [e2];exact hr.hp) (by rw [hv GG b];exact .raw _)
theorem AT.ID {av:AV} {Ti H1 Pi H2:Heap} (KX:∀ β,u7 tk i β=[[]]) (MO:∀ β,tZ tk i β=Ti) (K9:∀ β,kB tk i β=Pi) (h1:sk Ti B=some H1) (h2:sk Pi B=some H2) (hn:al d n=true)
 (u3:ae P all [⟨some d,op,ty,pos,af,none⟩] ⟨n,Gw (looks all ⟨some d,op,ty,pos,af,none⟩) tm,H1⟩ (fun aS=>∃ yN,aS=⟨n,yN,H2⟩∧lk yN d=some av))
 (k:AT P all n B tk dy (i+1) rest ((d,av) :: tm) acc Q):AT P all n B tk dy i (⟨some d,op,ty,pos,af,none⟩ :: rest) tm acc Q:=by
 refine AT.sta rfl (fun β X hX=>?_) k
 rw [KX β] at hX
 obtain rfl:=bx.1 hX
 rw [cb,MO β,show (fun b=>kB tk i (om β i b))=fun _=>Pi from funext fun b=>K9 _]
 refine sT.up ?_
 refine uA rfl (fun d' ub=>by obtain rfl:=aa ub;simpa using hn) h1 (fun _=>h2) ?_ (fun e=>by cases e)
 refine fun w S a r=>iG ?_ _ _ _ (u3 w S a r)
 rintro e a' w' ⟨he,aS,S',⟨yN,q1,q2⟩,hh⟩
 exact ⟨he,aS,S',⟨⟨none,0⟩,yN,q1,fun d' ub=>by obtain rfl:=aa ub;exact q2⟩,hh⟩
theorem AT.yO {V:Bk→AV} {Ti H1:Heap} {Pi H2:Bk→Heap} (KX:∀ β,u7 tk i β=[[]]) (MO:∀ β,tZ tk i β=Ti) (K9:∀ β b,kB tk i (om β i b)=Pi b) (h1:sk Ti B=some H1) (h2:∀ b,sk (Pi b) B=some (H2 b)) (hn:al d n=true) (vy:lk tm d=none) (SU:dy.contains i=true)
 (u3:ae P all [⟨some d,op,ty,pos,af,none⟩] ⟨n,Gw (looks all ⟨some d,op,ty,pos,af,none⟩) tm,H1⟩ (fun aS=>∃ b yN,aS=⟨n,yN,H2 b⟩∧lk yN d=some (V b)))
 (k:AT P all n B tk dy (i+1) rest tm (fun β=>(d,V (β i)) :: acc β) Q):AT P all n B tk dy i (⟨some d,op,ty,pos,af,none⟩ :: rest) tm acc Q:=by
 refine AT.dyn rfl vy SU (fun β X hX=>?_) k
 rw [KX β] at hX
 obtain rfl:=bx.1 hX
 rw [cb,MO β,show (fun b=>kB tk i (om β i b))=Pi from funext (K9 β)]
 refine sT.up ?_
 refine uA rfl (fun d' ub=>by obtain rfl:=aa ub;simpa using hn) h1 h2 ?_ (fun e=>by cases e)
 refine fun w S a r=>iG ?_ _ _ _ (u3 w S a r)
 rintro e a' w' ⟨he,aS,S',⟨b,yN,q1,q2⟩,hh⟩
 exact ⟨he,aS,S',⟨b,yN,q1,fun d' ub=>by obtain rfl:=aa ub;exact q2⟩,hh⟩
theorem AT.MP {Ti H1 Pi H2:Heap} (KX:∀ β,u7 tk i β=[[]]) (MO:∀ β,tZ tk i β=Ti) (K9:∀ β,kB tk i β=Pi) (h1:sk Ti B=some H1) (h2:sk Pi B=some H2)
 (u3:ae P all [⟨none,op,ty,pos,af,none⟩] ⟨n,Gw (looks all ⟨none,op,ty,pos,af,none⟩) tm,H1⟩ (fun aS=>∃ yN,aS=⟨n,yN,H2⟩))
 (k:AT P all n B tk dy (i+1) rest tm acc Q):AT P all n B tk dy i (⟨none,op,ty,pos,af,none⟩ :: rest) tm acc Q:=by
 refine AT.sto rfl (fun β X hX=>?_) k
 rw [KX β] at hX
 obtain rfl:=bx.1 hX
 rw [cb,MO β,show (fun b=>kB tk i (om β i b))=fun _=>Pi from funext fun b=>K9 _]
 refine sT.up ?_
 refine uA rfl (fun d' ub=>by cases ub) h1 (fun _=>h2) ?_ (fun _ b=>rfl)
 refine fun w S a r=>iG ?_ _ _ _ (u3 w S a r)
 rintro e a' w' ⟨he,aS,S',⟨yN,q1⟩,hh⟩
 exact ⟨he,aS,S',⟨⟨none,0⟩,yN,q1,fun d' ub=>by cases ub⟩,hh⟩
theorem zO (a b:List (Nat×AV)):lk (a++b)=H8 (lk a) (lk b):=by
 funext s
 induction a with
 | nil=>rfl
 | cons x a ih=>
   obtain ⟨k,v⟩:=x
   simp only [bo,lk,H8] at ih ⊢
   split
   ·rfl
   ·exact ih
theorem AT.runN {Ti H1 Pi H2:(Nat→Bk)→Heap} (KX:∀ β,u7 tk i β=[[]]) (MO:∀ β,tZ tk i β=Ti β) (K9:∀ β b,kB tk i (om β i b)=Pi β) (h1:∀ β,sk (Ti β) B=some (H1 β)) (h2:∀ β,sk (Pi β) B=some (H2 β))
 (u3:∀ β,ae P all [⟨none,op,ty,pos,af,none⟩] ⟨n,Gw (looks all ⟨none,op,ty,pos,af,none⟩) (tm++acc β),H1 β⟩ (fun aS=>∃ yN,aS=⟨n,yN,H2 β⟩))
 (k:AT P all n B tk dy (i+1) rest tm acc Q):AT P all n B tk dy i (⟨none,op,ty,pos,af,none⟩ :: rest) tm acc Q:=by
 refine AT.sto rfl (fun β X hX=>?_) k
 rw [KX β] at hX
 obtain rfl:=bx.1 hX
 rw [cb,MO β,show (fun b=>kB tk i (om β i b))=fun _=>Pi β from funext (K9 β),← zO]
 refine uA rfl (fun d' ub=>by cases ub) (h1 β) (fun _=>h2 β) ?_ (fun _ b=>rfl)
 refine fun w S a r=>iG ?_ _ _ _ (u3 β w S a r)
 rintro e a' w' ⟨he,aS,S',⟨yN,q1⟩,hh⟩
 exact ⟨he,aS,S',⟨⟨none,0⟩,yN,q1,fun d' ub=>by cases ub⟩,hh⟩
end rules
end Go.Eng
namespace Go.Eng
open Go
variable [ck]
theorem RQ.Iv {P:Program} {all:Array Oper} {n:Nat} {B:Heap} {tk:List Tok} {dy:List Nat} {i:Nat} {l:List Oper} {e e':Env} {c:(Nat→Bk)→Env} {D:List (Option AV×(Bk→AV))} (h:RQ P all n B tk dy i l e c D e'):
 ∃ (en:Nat→Env) (cn:Nat→(Nat→Bk)→Env),en i=e∧cn i=c∧en (i+l.length)=e'∧D.length=l.length∧∀ j o x V,l[j]? =some o→D[j]? =some (x,V)→
   (∀ β,∀ X∈u7 tk (i+j) β,sT P all n (X++B) o (H8 (en (i+j)) (cn (i+j) β)) (tZ tk (i+j) β) V (fun b=>kB tk (i+j) (om β (i+j) b)))∧en (i+j+1)=nf (en (i+j)) o.dst x∧(∀ av,x=some av→∀ b,V b=av)∧(x=none→dy.contains (i+j)=true)∧cn (i+j+1)=K8 x (cn (i+j)) o.dst V (i+j):=by
 induction h with
 | nil i e c=>exact ⟨fun _=>e,fun _=>c,rfl,rfl,rfl,rfl,fun j o x V h=>by simp at h⟩
 | @cons i o l e e' c D x V h hv hx k ih=>
   obtain ⟨en,cn,h0,SP,h1,h2,h3⟩:=ih
   refine ⟨fun k=>if k=i then e else en k,fun k=>if k=i then c else cn k,by simp,by simp,?_,by simp [h2],fun j o' x' V' ho hD=>?_⟩
   ·show (if i+(o :: l).length=i then e else en (i+(o :: l).length))=e'
    rw [if_neg (by simp),← h1]
    congr 1
    simp;omega
   ·match j with
    | 0=>
      simp at ho hD
      obtain ⟨rfl,rfl⟩:=hD
      subst ho
      simp only [c8,if_true]
      refine ⟨h,?_,hv,hx,?_⟩
      ·rw [if_neg (by omega),h0]
      ·rw [if_neg (by omega),SP]
    | j+1=>
      have:=h3 j o' x' V' (by simpa using ho) (by simpa using hD)
      rw [show i+1+j=i+(j+1) by omega] at this
      simp only
      rw [if_neg (show ¬ i+(j+1)=i by omega),if_neg (show ¬ i+(j+1)+1=i by omega),if_neg (show ¬ i+(j+1)=i by omega),if_neg (show ¬ i+(j+1)+1=i by omega)]
      exact this
def RR (l:List Oper) (dy:List Nat):Bool:=dy.all fun i=>(List.range l.length).all fun j=>ai i j||(match l[i]?,l[j]? with
 | some oi,some oj=>(match oi.dst,oj.dst with | some d,some d'=>!Nat.beq d d' | _,_=>true)
 | _,_=>true)
theorem IE {l:List Oper} {dy:List Nat} (h:RR l dy=true) {i j:Nat} {oi oj:Oper} {d:Nat} (hi:dy.contains i=true) (yz:i≠j) (h1:l[i]? =some oi) (h2:l[j]? =some oj) (hd:oi.dst=some d):oj.dst≠some d:=by
 intro ub
 have hm:i∈dy:=by simpa using hi
 have hj:j < l.length:=(aL.1 h2).1
 have:=ag.1 (ag.1 h i hm) j (d0.2 hj)
 rw [h1,h2] at this
 simp only [hd,ub] at this
 have hb:ai i j=false:=qI yz
 rw [hb] at this
 simp at this
def MQ (tk:List Tok):Heap:=(tk.filter (fun t=>t.prod.isNone)).map (fun t=>t.at (fun _=>⟨none,0⟩))
theorem MR:∀ (a b:List (Nat×AV)) (s:Nat) (av:AV),lk (a++b) s=some av→lk a s=some av∨lk b s=some av
 | [],b,s,av,h=>.inr h
 | (k,v) :: a,b,s,av,h=>by
   simp only [bo,lk] at h ⊢
   split at h
   ·exact .inl h
   ·exact MR a b s av h
theorem yP (β:Nat→Bk):∀ (l:List Oper) (D:List (Option AV×(Bk→AV))) (i:Nat) (a:List (Nat×AV)) (s:Nat) (av:AV),lk (yM β i l D a) s=some av→lk a s=some av∨∃ (j:Nat) (o:Oper) (V:Bk→AV),l[j]? =some o∧D[j]? =some (none,V)∧o.dst=some s∧av=V (β (i+j))
 | [],D,i,a,s,av,h=>by
   have:yM β i [] D a=a:=by cases D<;>rfl
   rw [this] at h;exact .inl h
 | o :: l,[],i,a,s,av,h=>.inl h
 | o :: l,(some x,V) :: D,i,a,s,av,h=>by
   simp only [yM] at h
   rcases yP β l D (i+1) a s av h with h | ⟨j,o',V',h1,h2,h3,h4⟩
   ·exact .inl h
   ·exact .inr ⟨j+1,o',V',by simpa using h1,by simpa using h2,h3,by rw [h4];congr 2;omega⟩
 | o :: l,(none,V) :: D,i,a,s,av,h=>by
   simp only [yM] at h
   cases hd:o.dst with
   | none=>
     rw [hd] at h
     rcases yP β l D (i+1) a s av h with h | ⟨j,o',V',h1,h2,h3,h4⟩
     ·exact .inl h
     ·exact .inr ⟨j+1,o',V',by simpa using h1,by simpa using h2,h3,by rw [h4];congr 2;omega⟩
   | some d=>
     rw [hd] at h
     rcases yP β l D (i+1) _ s av h with h5 | ⟨j,o',V',h1,h2,h3,h4⟩
     ·simp only [lk] at h5
      split at h5
      ·rename_i hb
       obtain rfl:d=s:=by simpa using hb
       exact .inr ⟨0,o,V,rfl,rfl,hd,by simpa using (aa h5).symm⟩
      ·exact .inl h5
     ·exact .inr ⟨j+1,o',V',by simpa using h1,by simpa using h2,h3,by rw [h4];congr 2;omega⟩
theorem ab.mh {P:Program} {R:St→Prop} {k:List It} {id n:Nat} {tm:List (Nat×AV)} {hp:Heap} {l hd tl:List Oper} (m:Nat) (hm:P.follows .mixedOrders=true) (hs:Gx m l=some (hd,tl)) {A:List Nat} (hA:KV l.toArray=A) (Yw:Gr l.toArray m A=true)
 (tk:List Tok) (dy:List Nat) (VE:(Vz A m tk&&RP A m tk)=true) (hU0:RR hd dy=true) {B H0:Heap} (Dl:MQ tk=H0) (YD:F2 hp H0 B) {HH:(Nat→Bk)→Heap} (MS:∀ β,sk (MI tk β) B=some (HH β))
 (h:AT P l.toArray n B tk dy 0 hd tm (fun _=>[]) (fun β pZ=>ae P l.toArray tl ⟨n,pZ,HH β⟩ (ab P R k))):ab P R (.code (.region id l.toArray true) :: k) ⟨n,tm,hp⟩:=by
 have hB:vz l.toArray m:=⟨A,hA,Yw⟩
 have hT:Cb l.toArray m tk:=K5 hA (ca.1 VE).1
 intro w S a r
 obtain ⟨hl,O8⟩:=xi hs
 obtain ⟨D,pZ,hAf,u3⟩:=h
 obtain ⟨en,cn,e0,ec0,e1,e2,e3⟩:=hAf.Iv
 rw [bm,O8] at e1
 have lp:m≤l.toArray.size:=by simp [hl,O8]
 let mY:Nat→Option AV:=fun j=>(D[j]?).bind (·.1)
 let V:Nat→Bk→AV:=fun j=>match D[j]? with | some x=>x.2 | none=>fun _=>.nil
 have E8:∀ j o,j < m→l.toArray[j]? =some o→hd[j]? =some o:=by
  intro j o hj ho
  have:l[j]? =some o:=by simpa using ho
  rw [hl,cA (by omega)] at this
  exact this
 have hD:∀ j,j < m→∃ x W,D[j]? =some (x,W)∧mY j=x∧V j=W:=by
  intro j hj
  have:j < D.length:=by rw [e2,O8];exact hj
  refine ⟨D[j].1,D[j].2,by simp [this],?_,?_⟩
  ·simp [mY,this]
  ·simp [V,this]
 refine wp_region_any hm ?_
 have B6:Ext w {w with drawn:=w.drawn+1}:=Ext.Me w _ (Nat.le_succ _)
 let Xy:Nat→Bk:=fun _=>⟨none,0⟩
 have hf:∀ k,(bi l.toArray.size false).getD k false=false:=by
  intro k
  rcases bu k l.toArray.size with h | h
  ·simp at h;simp [h]
  ·simp at h;simp [Nat.not_lt.2 h]
 have SP:∀ k,vL l.toArray mY (lk tm) (bi l.toArray.size false) k=lk tm:=by
  intro k
  induction k with
  | zero=>rfl
  | succ k ih=>simp only [vL,ih];rw [if_neg (by rw [hf k];simp)]
 have Xz:r9 tk (bi l.toArray.size false) Xy=H0:=by
  rw [← Dl]
  unfold r9 MQ
  have e:tk.filter (yc (bi l.toArray.size false))=tk.filter (fun t=>t.prod.isNone):=by
   apply bv
   intro t ht
   unfold yc
   cases t.prod with
   | none=>
     cases t.cons with
     | none=>rfl
     | some c=>simp only [hf c,b8,Bool.and_self,ea]
   | some p=>simp only [hf p,Bool.false_and,ea]
  rw [e]
 have mB:=YD.perm
 have hr0:cY {w with drawn:=w.drawn+1} S (r9 tk (bi l.toArray.size false) Xy++B):=by
  rw [Xz];exact (r.hp.ext B6).perm mB
 have ev0:lr w S hp {w with drawn:=w.drawn+1} S (r9 tk (bi l.toArray.size false) Xy++B):=by
  rw [Xz]
  have:=lr.ext (h:=hp) r.hp.slt B6
  exact {this with new:=fun k hk=>this.new k (by
   obtain ⟨x,hx,hb⟩:=hk
   exact ⟨x,mB.mem_iff.2 hx,hb⟩)}
 refine K7 (P:=P) (all:=l.toArray) (n:=n) (m:=m) (mY:=mY) (en:=en) (cn:=cn) (e:=lk tm) (V:=V) (B:=B) (tk:=tk) hB hT (IB hA (ca.1 VE).2) lp e0 (fun β s=>by rw [ec0];rfl) ?_ ?_ ?_ (w0:=w) (S0:=S) (Xw:=hp) ?_ l.toArray.size (bi l.toArray.size false) a _ S Xy
  ⟨by simp,(fun k hk=>by rw [hf k] at hk;cases hk),(fun k i o hk=>by rw [hf k] at hk;cases hk)⟩ (by simp [cH]) r.size r.defers hr0 ev0 (by rw [SP];exact (r.ext B6).tm) (fun j o d hj=>by rw [hf j] at hj;cases hj)
 ·intro i o hi ho β
  obtain ⟨x,W,d1,d2,d3⟩:=hD i hi
  have:=e3 i o x W (E8 i o hi ho) d1
  rw [bm] at this
  rw [d2,d3,this.2.2.2.2];rfl
 ·intro i o hi ho
  obtain ⟨x,W,d1,d2,d3⟩:=hD i hi
  have:=e3 i o x W (E8 i o hi ho) d1
  rw [bm] at this
  rw [d2,d3]
  exact ⟨this.1,this.2.1,this.2.2.1⟩
 ·intro i j oi oj d hi hj yz AA O4 pa SO
  obtain ⟨x,W,d1,d2,d3⟩:=hD i hi
  have:=e3 i oi x W (E8 i oi hi AA) d1
  rw [bm] at this
  exact IE hU0 (this.2.2.2.1 (by rw [← d2];exact pa)) yz (E8 i oi hi AA) (E8 j oj hj O4) SO
 ·intro β a' w' S' h1 h2 h3 h4 h5 h6
  have PQ:l.toArray.toList.drop m=tl:=by
   simp only [hl,← O8]
   exact List.drop_left
  rw [PQ]
  rw [pg (MS β)] at h3 h4
  rw [e1] at h5
  refine iG ?_ _ _ _ ((u3 β).go (h:=hp) (w:=w) (S:=S) ⟨h1,h2,fun s av PY=>?_,h3⟩ h4)
  ·rintro ex a2 w2 ⟨rfl,JH,S2,q1,q2,q3⟩
   exact ⟨JH,S2,q1,q2,q3⟩
  ·rcases MR _ _ _ _ PY with PY | PY
   ·rcases yP β hd D 0 [] s av PY with PY | ⟨j,o,W,g1,g2,g3,g4⟩
    ·cases PY
    ·have hj:j < m:=by rw [← O8];exact (aL.1 g1).1
     obtain ⟨x,W',d1,d2,d3⟩:=hD j hj
     rw [g2] at d1
     obtain ⟨rfl,rfl⟩:=Prod.mk.inj (aa d1)
     have O4:l.toArray[j]? =some o:=by
      have:l[j]? =some o:=by rw [hl,cA (by omega)];exact g1
      simpa using this
     obtain ⟨v,k1,k2⟩:=h6 j o s hj O4 d2 g3
     rw [d3] at k2
     rw [g4,bm]
     exact ⟨v,k1,k2⟩
   ·exact h5 s av PY
def MT {α:Type}:List α→List α→Option (List α)
 | [],r=>some r
 | x :: l,r=>match MT l r with
   | some m=>some (x :: m)
   | none=>none
theorem JQ {α:Type}:∀ {l r m:List α},MT l r=some m→l++r=m
 | [],r,m,h=>by simpa [MT] using h
 | x :: l,r,m,h=>by
   simp only [MT] at h
   split at h
   ·rename_i m' hm
    obtain rfl:=aa h
    rw [bo,JQ hm]
   ·cases h
theorem AT.yd {P:Program} {all:Array Oper} {n:Nat} {B:Heap} {tk:List Tok} {dy:List Nat} {i:Nat} {tm:List (Nat×AV)} {acc F:(Nat→Bk)→List (Nat×AV)} {Q:(Nat→Bk)→List (Nat×AV)→Prop} (hF:∀ β,MT (acc β) tm=some (F β)) (h:∀ β,Q β (F β)):AT P all n B tk dy i [] tm acc Q:=
 AT.nil (fun β=>(JQ (hF β)).symm) h
theorem D4 {w:World} {S:Nat→Prop} {hp dE:Heap} {b:Bk} {cs jP:List AV} (r:cY w S hp) (u:nC hp b (.cells cs) b (.cells jP) dE) (hl:jP.length=cs.length) (h1:∀ c∈jP,c.one=true) (pX:∀ (i:Nat) c c' v,cs[i]? =some c→jP[i]? =some c'→At w S c v→At w S c' v):cY w S dE∧lr w S hp w S dE:=by
 obtain ⟨pre,post,e1,e2⟩:=u.split
 subst e1;subst e2
 have hblk:∀ n,Has (pre++(b,Ob.cells jP) :: post) n↔Has (pre++(b,Ob.cells cs) :: post) n:=by
  intro n
  constructor<;>rintro ⟨x,hx,hb⟩<;>rcases bN.1 hx with rfl | hx
  ·exact ⟨(b,.cells cs),bN.2 (.inl rfl),hb⟩
  ·exact ⟨x,bN.2 (.inr hx),hb⟩
  ·exact ⟨(b,.cells jP),bN.2 (.inl rfl),hb⟩
  ·exact ⟨x,bN.2 (.inr hx),hb⟩
 refine ⟨⟨?_,?_,?_,r.slt,r.ib⟩,⟨rfl,rfl,rfl,ap _,fun n hn=>⟨hn,rfl⟩,fun n _ _=>⟨rfl,id⟩,fun n hn=>.inl ((hblk n).1 hn),fun _=>ap _⟩⟩
 ·have:=r.nodup
  simpa [List.flatMap_append,List.flatMap_cons,eb,Ob.more] using this
 ·intro x hx
  rcases bN.1 hx with rfl | hx
  ·obtain ⟨h0,n,vs,E,g1,g2,g3,g4⟩:=r.holds (b,.cells cs) (bN.2 (.inl rfl))
   refine ⟨h1,n,vs,E,g1,g2,by rw [hl];exact g3,fun i c v hc hv=>?_⟩
   have hi:i < cs.length:=by rw [← hl];exact (aL.1 hc).1
   have O9:cs[i]? =some cs[i]:=by simp [hi]
   exact pX i cs[i] c v O9 hc (g4 i _ v O9 hv)
  ·exact r.holds x (bN.2 (.inr hx))
 ·intro x hx n hn
  rcases bN.1 hx with rfl | hx
  ·have:=r.sep (b,.cells cs) (bN.2 (.inl rfl)) n hn
   exact ⟨fun h=>(this.1 h).elim,fun h=>h.elim⟩
  ·exact r.sep x (bN.2 (.inr hx)) n hn
theorem aq.VF {n j:Nat} {tm:List (Nat×AV)} {hp dE:Heap} {T:St→Prop} {b:Bk} {cs jP:List AV} {av rf:AV} (u:nC hp b (.cells cs) b (.cells jP) dE) (hj:cs[j]? =some av) (c:Co hp av rf) (hc:qg (cs.set j rf)=some jP) (h1:jq jP=true) (k:aq ⟨n,tm,dE⟩ T):aq ⟨n,tm,hp⟩ T:=by
 refine aq.step (Df:=⟨n,tm,dE⟩) (fun w S a r=>?_) k
 have e:=lB hc
 obtain ⟨g1,g2⟩:=D4 r.hp u (by rw [← e];simp) (dQ h1) (fun i c1 c2 v PZ MU pX=>by
  rw [← e] at MU
  by_cases yz:j=i
  ·subst yz
   rw [b6 (aL.1 hj).1] at MU
   obtain rfl:=aa MU
   rw [hj] at PZ
   obtain rfl:=aa PZ
   exact c.at r.hp pX
  ·rw [cl yz,PZ] at MU
   obtain rfl:=aa MU
   exact pX)
 exact ⟨_,S,rfl,⟨r.size,r.defers,r.tm,g1⟩,g2⟩
theorem aq.E9 {n j:Nat} {tm:List (Nat×AV)} {hp dE:Heap} {T:St→Prop} {b:Bk} {cs jP:List AV} (sz:Nat) (u:nC hp b (.cells cs) b (.cells jP) dE) (hj:cs[j]? =some .nil) (hc:qg (cs.set j (.list sz []))=some jP) (h1:jq jP=true) (k:aq ⟨n,tm,dE⟩ T):aq ⟨n,tm,hp⟩ T:=
 aq.VF u hj (.nil sz) hc h1 k
theorem aq.IF {n j:Nat} {tm:List (Nat×AV)} {hp:Heap} {dE:Bk→Heap} {T:St→Prop} {b:Bk} {cs:List AV} {jP:Bk→List AV} (sz:Nat) (u:∀ q,nC hp b (.cells cs) b (.cells (jP q)) (dE q)) (hj:cs[j]? =some .nil) (hc:∀ q,qg (cs.set j (.sl sz q 0 0))=some (jP q)) (h1:∀ q,jq (jP q)=true)
 (k:∀ q,aq ⟨n,tm,(q,.arr sz []) :: dE q⟩ T):aq ⟨n,tm,hp⟩ T:=by
 refine aq.step (Df:=⟨n,tm,(⟨none,0⟩,.arr sz []) :: dE ⟨none,0⟩⟩) (fun w S a r=>?_) (k ⟨none,0⟩)
 have e:=lB (hc ⟨none,0⟩)
 obtain ⟨g1,g2⟩:=D4 r.hp (u ⟨none,0⟩) (by rw [← e];simp) (dQ (h1 _)) (fun i c1 c2 v PZ MU pX=>by
  rw [← e] at MU
  by_cases yz:j=i
  ·subst yz
   rw [b6 (aL.1 hj).1] at MU
   obtain rfl:=aa MU
   rw [hj] at PZ
   obtain rfl:=aa PZ
   cases pX
   exact .A7 sz _ rfl
  ·rw [cl yz,PZ] at MU
   obtain rfl:=aa MU
   exact pX)
 obtain ⟨q1,q2,q3⟩:=qL (b:=⟨none,0⟩) (o:=.arr sz []) g1 (Ext.refl w) id ⟨by simp,by simp,.inl ⟨rfl,rfl⟩⟩ (.inl rfl)
 exact ⟨_,S,rfl,⟨r.size,r.defers,r.tm,q1⟩,g2.trans q2⟩
section rules
variable {P:Program} {all:Array Oper} {rest:List Oper} {n:Nat} {tm:List (Nat×AV)} {hp:Heap} {Q:St→Prop} {d:Nat} {ty:TypeId} {pos:String} {af:Array Edge}
theorem zP {t:TypeId} {D:TypeDesc} {i:TypeInfo} {x:Operand} {b:Bk} {sz q o:Nat} {xs jP:List AV} {el:AV} [aF P t D] [aZ P t i] (hD:TypeDesc.jN D=true) (hx:dh tm x=some (.sh sz b q o)) (f:mb hp b (.arr sz xs)∨mb hp b (.yD sz xs))
 (hq:xs[q]? =some el) (ho:aw (o+i.size) el.cells.length=true) (uZ:qg ((el.cells.drop o).take i.size)=some jP):QV P ⟨some d,.load t x,ty,pos,af,none⟩ ⟨n,tm,hp⟩ (.agg jP):=
 (fun w S a r=>by
  have EX:=lB uZ
  have ho:=bz ho
  obtain ⟨m,h1,h2⟩:=(bt (σ:=⟨n,tm,hp⟩) r hx).wa
  obtain ⟨g0,g1,⟨g2,_⟩ | ⟨m',vs,E,g2,g3,g4,g5⟩⟩:=sH r.hp f
  ·rw [g2] at h1;cases h1
  ·obtain rfl:m'=m:=by rw [g2] at h1;exact aa h1
   have zF:=g0 el (c7 hq)
   have yF:el.cells.length=sz:=zF.1
   have Ym:q < xs.length:=(aL.1 hq).1
   have hmul:(q+1) * sz≤b.cap * sz:=cc _ (by omega)
   rw [Nat.add_mul,Nat.one_mul] at hmul
   have hlen:((vs.toList.drop (q * sz+o)).take i.size).length=i.size:=by simp;omega
   refine ⟨.agg ((vs.toList.drop (q * sz+o)).take i.size).toArray,fun w1 ex=>?_,.agg _ _ (by rw [← EX];simp;omega) (fun j c v hc hv=>?_)⟩
   ·have:=iZ (P:=P) (aF.h (P:=P) (t:=t)) hD (aZ.h (P:=P) (t:=t)) (w:=w1) (ad:=⟨m',q * sz+o,none⟩) (vs:=(vs.toList.drop (q * sz+o)).take i.size) hlen (fun j v hv=>by
     rw [mN,mR (ex.at g3)]
     simp only [bG,b5] at hv
     split at hv
     ·simpa using hv
     ·cases hv)
    simp [execOp,h2,Instr.loadAt,Instr.sureAddr,this]
   ·simp only [List.getElem?_toArray,bG,b5] at hv
    split at hv
    ·rename_i ew
     rw [← EX,bG,if_pos ew,b5] at hc
     have hf:=oe g0 hq (o+j) (by omega)
     rw [hc] at hf
     exact g5 _ c v hf (by rw [← d9];simpa using hv)
    ·cases hv)
theorem zQ {α:Type} {g:α→AV} {Xs:List α} {el:α} {j:Int} {t:TypeId} {D:TypeDesc} {i:TypeInfo} {x:Operand} {b:Bk} {sz o:Nat} {jP:List AV} [aF P t D] [aZ P t i] (hD:TypeDesc.jN D=true) (hx:dh tm x=some (.sh sz b j.toNat o)) (f:mb hp b (.arr sz (Xs.map g))∨mb hp b (.yD sz (Xs.map g)))
 (hv:idx Xs j=some el) (ho:aw (o+i.size) (g el).cells.length=true) (uZ:qg (((g el).cells.drop o).take i.size)=some jP):QV P ⟨some d,.load t x,ty,pos,af,none⟩ ⟨n,tm,hp⟩ (.agg jP):=
 zP hD hx f (mg hv) ho uZ
end rules
end Go.Eng
