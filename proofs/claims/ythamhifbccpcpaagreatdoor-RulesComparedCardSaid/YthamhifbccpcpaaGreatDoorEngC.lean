/- The engine: abstract values, the symbolic heap, one rule for each operation. No program in sight. -/
import Derived.Test.YthamhifbccpcpaaGreatDoorEngB
import Derived.Laws.StructEq
import Derived.Below
set_option linter.unusedVariables false
set_option linter.unusedSectionVars false
namespace Go.Eng
open Go
variable [bI]
abbrev aO:=List UInt8
def Gp {α:Type} (sz:Nat) (g:α→AV) (l:List α):AV:=.list sz (l.map g)
section rules
variable {P:Program} {all:Array Oper} {rest:List Oper} {n:Nat} {tm:List (Nat×AV)} {hp:Heap} {Q:St→Prop} {d:Nat} {ty:TypeId} {pos:String} {af:Array Edge}
theorem cE {x:Operand} {t e:TypeId} {sz len:Nat} {b:Bk} [aR P t (.slice e)] (hx:dt tm x=some (.sl sz b 0 len)):QV P ⟨some d,.call {callee:=.builtin .len,args:=#[x],argTypes:=#[t]},ty,pos,af,none⟩ ⟨n,tm,hp⟩ (.int .i64 (len:Nat)):=tB hx
theorem aV {α:Type} {Xs:List α} {el:α} {t e:TypeId} {i:TypeInfo} {x y:Operand} {k:IntKind} {j:Int} {sz:Nat} {b:Bk} [aR P t (.slice e)] [bf P e i] (hx:dt tm x=some (.sl sz b 0 Xs.length)) (jH:Nat.beq i.size sz=true) (hy:dt tm y=some (.int k j))
 (hv:idx Xs j=some el):QV P ⟨some d,.indexAddr t x y,ty,pos,af,none⟩ ⟨n,tm,hp⟩ (.qp sz b j.toNat 0):=by
 obtain ⟨h0,h1,_⟩:=lZ hv
 have h:=yZ (P:=P) (d:=d) (ty:=ty) (pos:=pos) (af:=af) (n:=n) (tm:=tm) (hp:=hp) (t:=t) (e:=e) hx jH hy ⟨h0,h1⟩
 rw [Nat.zero_add] at h
 exact h
theorem Gq {α:Type} {g:α→AV} {Xs:List α} {el:α} {j:Int} (hv:idx Xs j=some el):(Xs.map g)[j.toNat]? =some (g el):=by
 rw [List.getElem?_map,(lZ hv).2.2];rfl
theorem bg {α:Type} {g:α→AV} {Xs:List α} {el:α} {j:Int} {t:TypeId} {D:TypeDesc} {x:Operand} {b:Bk} {sz o:Nat} {av:AV} [aR P t D] (hD:TypeDesc.lH D=false) (hx:dt tm x=some (.qp sz b j.toNat o)) (f:nU hp b (.arr sz (Xs.map g))∨nU hp b (.AL sz (Xs.map g)))
 (hv:idx Xs j=some el) (ho:(g el).cells[o]? =some av):QV P ⟨some d,.load t x,ty,pos,af,none⟩ ⟨n,tm,hp⟩ av:=
 BD hD hx f (Gq hv) ho
theorem bw {α:Type} {g:α→AV} {Xs:List α} {el:α} {j:Int} {t:TypeId} {D:TypeDesc} {i:TypeInfo} {x:Operand} {b:Bk} {sz:Nat} {cs:List AV} [aR P t D] [bf P t i] (hD:TypeDesc.lH D=true) (hx:dt tm x=some (.qp sz b j.toNat 0)) (f:nU hp b (.arr sz (Xs.map g))∨nU hp b (.AL sz (Xs.map g))) (jH:Nat.beq i.size sz=true)
 (hv:idx Xs j=some el) (hc:g el=.agg cs):QV P ⟨some d,.load t x,ty,pos,af,none⟩ ⟨n,tm,hp⟩ (.agg cs):=
 wG hD hx f jH (by rw [Gq (g:=g) hv,hc])
def uC:Heap→Heap→Option Heap
 | [],r=>some r
 | x :: l,r=>match uC l r with
   | some m=>some (x :: m)
   | none=>none
theorem pJ:∀ {l r m:Heap},uC l r=some m→l++r=m
 | [],r,m,h=>by simpa [uC] using h
 | x :: l,r,m,h=>by
   simp only [uC] at h
   split at h
   ·rename_i m' hm
    obtain rfl:=Option.some.inj h
    rw [List.cons_append,pJ hm]
   ·cases h
def T0 (H:Heap) (V:AV):AV→Heap→Prop:=fun v h=>h=H∧v=V
def T1 {Dy:Type} (H:Dy→Heap) (V:Dy→AV):AV→Heap→Prop:=fun v h=>∃ b,h=H b∧v=V b
theorem bd {f:FuncId} {args:List Operand} {ts:Array TypeId} {l l':List AV} {h0 hr H H':Heap} {V:AV} [bD P f] (hl:BB tm args=some l) (c:aM P f l' h0 (T0 H V)) (co:AN hp l l') (hs:KN hp h0 hr) (ha:uC H hr=some H') (hn:Nat.blt d n=true)
 (kk:ai P all rest ⟨n,(d,V) :: tm,H'⟩ Q):ai P all (⟨some d,.call {callee:=.value (.func f),args:=args.toArray,argTypes:=ts},ty,pos,af,none⟩ :: rest) ⟨n,tm,hp⟩ Q:=
 Gm hl c co hs hn (fun r h' ⟨e1,e2⟩=>by subst e1;subst e2;rw [pJ ha];exact kk)
theorem eM {Dy:Type} {f:FuncId} {args:List Operand} {ts:Array TypeId} {l l':List AV} {h0 hr:Heap} {H H':Dy→Heap} {V:Dy→AV} [bD P f] (hl:BB tm args=some l) (c:aM P f l' h0 (T1 H V)) (co:AN hp l l') (hs:KN hp h0 hr) (ha:∀ b,uC (H b) hr=some (H' b)) (hn:Nat.blt d n=true)
 (kk:∀ b,ai P all rest ⟨n,(d,V b) :: tm,H' b⟩ Q):ai P all (⟨some d,.call {callee:=.value (.func f),args:=args.toArray,argTypes:=ts},ty,pos,af,none⟩ :: rest) ⟨n,tm,hp⟩ Q:=
 Gm hl c co hs hn (fun r h' ⟨b,e1,e2⟩=>by subst e1;subst e2;rw [pJ (ha b)];exact kk b)
theorem NF {Dy:Type} {f:FuncId} {x:Operand} {args:List Operand} {ts:Array TypeId} {sy l l' lc:List AV} {h0 hr:Heap} {H H':Dy→Heap} {V:Dy→AV} [bD P f] (hx:dt tm x=some (.func (.func f) sy)) (hl:BB tm args=some l) (YI:uF (l++sy)=some lc) (c:aM P f l' h0 (T1 H V)) (co:AN hp lc l') (hs:KN hp h0 hr) (ha:∀ b,uC (H b) hr=some (H' b)) (hn:Nat.blt d n=true)
 (kk:∀ b,ai P all rest ⟨n,(d,V b) :: tm,H' b⟩ Q):ai P all (⟨some d,.call {callee:=.value x,args:=args.toArray,argTypes:=ts},ty,pos,af,none⟩ :: rest) ⟨n,tm,hp⟩ Q:=
 Qw hx hl YI c co hs hn (fun r h' ⟨b,e1,e2⟩=>by subst e1;subst e2;rw [pJ (ha b)];exact kk b)
end rules
theorem Co.LP {hp:Heap} {α:Type} {g:α→AV} {Xs:List α} {sz:Nat} {b:Bk} (f:nU hp b (.AL sz (Xs.map g))):Co hp (.sl sz b 0 Xs.length) (.list sz (Xs.map g)):=.AL sz b _ _ f (by simp)
theorem pj.gq {hp:Heap} {α:Type} {g:α→AV} {Xs:List α} {sz:Nat} {b:Bk} (f:nU hp b (.arr sz (Xs.map g))):pj hp (.sl sz b 0 Xs.length) (.list sz (Xs.map g)):=.arr sz b _ _ f (by simp)
section rules
variable {P:Program} {all:Array Oper} {rest:List Oper} {n:Nat} {tm:List (Nat×AV)} {hp:Heap} {Q:St→Prop} {d:Nat} {ty:TypeId} {pos:String} {af:Array Edge}
theorem bC {x:Operand} {s:TypeId} {j off:Nat} {sz:Nat} {b:Bk} {q o o':Nat} [o9 P s j off] (hx:dt tm x=some (.qp sz b q o)) (ho:o+off=o'):QV P ⟨some d,.fieldAddr s x j,ty,pos,af,none⟩ ⟨n,tm,hp⟩ (.qp sz b q o'):=by
 subst ho
 exact Gb hx
theorem EN {t:TypeId} {i:TypeInfo} {x y:Operand} {b:Bk} {sz q o:Nat} {xs:List AV} {av el za:AV} {dG:Heap} [bf P t i] (hx:dt tm x=some (.qp sz b q o)) (hy:dt tm y=some av) (h1:mB av.cells=true) (jH:Nat.beq av.cells.length i.size=true)
 (u:pB hp b (.arr sz xs) b (.arr sz (xs.set q za)) dG) (hq:xs[q]? =some el) (Qf:za.cells=nW el.cells o av.cells) (ho:Nat.ble (o+av.cells.length) el.cells.length=true) (kk:ai P all rest ⟨n,tm,dG⟩ Q):ai P all (⟨none,.store t x y,ty,pos,af,none⟩ :: rest) ⟨n,tm,hp⟩ Q:=by
 refine ai.act rfl rfl (aL:=⟨n,tm,dG⟩) (fun w S a r=>?_) kk
 obtain ⟨m,e1,e2⟩:=(bn (σ:=⟨n,tm,hp⟩) r hx).xc
 obtain ⟨g0,g1,⟨g2,_⟩ | ⟨m',vs,E,g2,g3,g4,g5⟩⟩:=qH r.hp (.inl u.nO)
 ·rw [g2] at e1;cases e1
 obtain rfl:m'=m:=by rw [g2] at e1;exact Option.some.inj e1
 have hv:=bn (σ:=⟨n,tm,hp⟩) r hy
 obtain ⟨hl,vl⟩:=vo hv (ec h1)
 have Hw:=ec h1
 have jH:=Nat.eq_of_beq_eq_true jH
 have ho:=Nat.le_of_ble_eq_true ho
 clear h1 hv hy
 generalize av.cells=nc at *
 generalize Qx:el.cells=cs at *
 have hle:o+nc.length≤cs.length:=ho
 have zK:=g0 el (List.mem_of_getElem? hq)
 have Dh:cs.length=sz:=by rw [← Qx];exact zK.1
 have VG:q < xs.length:=(List.getElem?_eq_some_iff.1 hq).1
 have hmul:(q+1) * sz≤xs.length * sz:=Nat.mul_le_mul_right _ (by omega)
 have NG:xs.length * sz≤b.cap * sz:=Nat.mul_le_mul_right _ g1
 rw [Nat.add_mul,Nat.one_mul] at hmul
 have AX:=xg hl vl Hw
 have yX:=run_storeCells_at (P:=P) m' (q * sz+o) E (a.eval y).cells.toList 0 vs w g3 (by simp;omega) AX
 simp only [Nat.add_zero] at yX
 have Ng:(a.eval y).cells.size=i.size:=by rw [← hl];exact jH
 have Jz:=bQ g0
 have Sb:El sz za:=by
  refine ⟨by rw [Qf];simp [nW];omega,fun c hc=>?_⟩
  rw [Qf] at hc
  simp only [nW,List.mem_append] at hc
  rcases hc with (hc | hc) | hc
  ·exact zK.2 c (by rw [Qx];exact List.mem_of_mem_take hc)
  ·exact Hw c hc
  ·exact zK.2 c (by rw [Qx];exact List.mem_of_mem_drop hc)
 have H8:flat (xs.set q za)=(flat xs).take (q * sz+o)++nc++(flat xs).drop (q * sz+o+nc.length):=by
  rw [HX g0 Sb hq]
  rw [Qf];simp only [nW]
  have M0:cs=((flat xs).drop (q * sz)).take sz:=by
   apply List.ext_getElem?
   intro j
   by_cases hj:j < sz
   ·have:=tA g0 hq j hj
    rw [List.getElem?_take,if_pos hj,List.getElem?_drop,this,Qx]
   ·rw [List.getElem?_eq_none (by omega),List.getElem?_eq_none (by simp;omega)]
  have e1:cs.take o=((flat xs).drop (q * sz)).take o:=by rw [M0,List.take_take,Nat.min_eq_left (by omega)]
  have e2:cs.drop (o+nc.length)=(((flat xs).drop (q * sz+o+nc.length)).take (sz - (o+nc.length))):=by
   rw [M0,List.drop_take,List.drop_drop]
   rw [show q * sz+(o+nc.length)=q * sz+o+nc.length from by omega]
  rw [e1,e2]
  have e3:(flat xs).take (q * sz+o)=(flat xs).take (q * sz)++((flat xs).drop (q * sz)).take o:=by rw [List.take_add]
  rw [e3]
  have e4:(flat xs).drop (q * sz+o+nc.length)=((flat xs).drop (q * sz+o+nc.length)).take (sz - (o+nc.length))++(flat xs).drop (q * sz+sz):=by
   conv=>lhs;rw [← List.take_append_drop (sz - (o+nc.length)) ((flat xs).drop (q * sz+o+nc.length))]
   rw [List.drop_drop,show q * sz+o+nc.length+(sz - (o+nc.length))=q * sz+sz from by omega]
  conv=>rhs;rw [e4]
  simp only [List.append_assoc]
 have Dz:=fun (w':World) (ha:mS w' S (flat xs) vs) (hb:mS w' S nc (a.eval y).cells)=>KI (q * sz+o) (by rw [Jz,g4];exact NG) ha hl hb (by omega)
 have NH:(vs.toList.take (q * sz+o)++(a.eval y).cells.toList++vs.toList.drop (q * sz+o+(a.eval y).cells.toList.length)).toArray.size=b.cap * sz:=by
  simp;omega
 generalize (vs.toList.take (q * sz+o)++(a.eval y).cells.toList++vs.toList.drop (q * sz+o+(a.eval y).cells.toList.length)).toArray=E6 at yX Dz NH
 have c:GB w (w.setRow m' E6) b.cd:=⟨⟨rfl,rfl,rfl,by simp,fun k hk wF=>setRow_other w m' k _ (fun e=>wF (by rw [e1,e]))⟩,fun _=>Nat.le_refl _⟩
 have k1:∀ n,S n→S n∧(w.setRow m' E6).heap[n]? =w.heap[n]?:=by
  intro k hk
  refine ⟨hk,setRow_other w m' k _ (fun e=>?_)⟩
  subst e
  exact (r.hp.sep _ u.nO.mem k (lV e1)).1 hk
 have hh:=qY r.hp u c id id ⟨?_,by simpa using g1,.inr ⟨m',E6,E,e1,setRow_heap w m' vs _ E _ g3,NH,by rw [H8];exact Dz _ (g5.mono k1) (vl.mono k1)⟩⟩ (.inl rfl)
 ·refine ⟨w.setRow m' E6,S,?_,r.heap hh.2.2 hh.1,hh.2.1⟩
  simp [execOp,e2,Instr.storeAt,Instr.sureAddr,storeVar,sizeOf,typeInfo,bf.h (P:=P) (t:=t),Ng,yX]
 ·intro z hz
  rcases List.mem_or_eq_of_mem_set hz with h | rfl
  ·exact g0 z h
  ·exact Sb
theorem bX {α:Type} {g:α→AV} {Xs:List α} {el za:α} {j:Int} {t:TypeId} {i:TypeInfo} {x y:Operand} {b:Bk} {sz o:Nat} {av:AV} {dG:Heap} [bf P t i] (hx:dt tm x=some (.qp sz b j.toNat o)) (hy:dt tm y=some av) (h1:mB av.cells=true) (jH:Nat.beq av.cells.length i.size=true)
 (hv:idx Xs j=some el) (Qf:(g za).cells=nW (g el).cells o av.cells) (u:pB hp b (.arr sz (Xs.map g)) b (.arr sz ((Xs.set j.toNat za).map g)) dG) (ho:Nat.ble (o+av.cells.length) (g el).cells.length=true) (kk:ai P all rest ⟨n,tm,dG⟩ Q):
 ai P all (⟨none,.store t x y,ty,pos,af,none⟩ :: rest) ⟨n,tm,hp⟩ Q:=by
 refine EN (xs:=Xs.map g) (el:=g el) (za:=g za) hx hy h1 jH ?_ (Gq hv) Qf ho kk
 rw [List.map_set] at u
 exact u
end rules
theorem vR {α:Type} {xs:List α} {i:Int} {el v:α} (h:idx xs i=some el):idx (xs.set i.toNat v) i=some v:=by
 obtain ⟨h0,h1,_⟩:=lZ h
 unfold idx;rw [if_pos h0,List.getElem?_set_self (by omega)]
theorem du.hs {w:World} {S:Nat→Prop} {h h':Heap} (r:du w S h) (s:HS h h'):du w S h':=by
 obtain ⟨q,hq⟩:=s.perm
 exact (r.perm hq).sub (List.sublist_append_left _ _)
theorem Has.hs {h h':Heap} (s:HS h h') {n:Nat} (hh:Has h' n):Has h n:=by
 obtain ⟨q,hq⟩:=s.perm
 obtain ⟨e,he,hb⟩:=hh
 exact ⟨e,hq.mem_iff.2 (List.mem_append_left _ he),hb⟩
theorem aM.dx {P:Program} {f:FuncId} {args:List AV} {h:Heap} {Q:AV→Heap→Prop} (c:aM P f args h (fun r h1=>∃ h',HS h1 h'∧Q r h')):aM P f args h Q:=
 fun w S vs r hl ha=>(c w S vs r hl ha).mono fun _ _ ⟨v,r,_,S',h1,⟨h',hs,hq⟩,h3,h4,h5⟩=>⟨v,r,h',S',h1,hq,h3,h4.hs hs,h5.less fun _ hn=>hn.hs hs⟩
theorem ak.eqs {n s:Nat} {tm:List (Nat×AV)} {hp:Heap} {T:St→Prop} {av dF:AV} (hs:lk tm s=some av) (he:dF=av) (k:ak ⟨n,(s,dF) :: tm,hp⟩ T):ak ⟨n,tm,hp⟩ T:=by
 subst he
 exact ak.co hs (.refl _) k
theorem Fh {hp dG:Heap} {b:Bk} {o:Ob} (u:pB hp b o b o dG):dG=hp:=by
 generalize hb:b=b',ho:o=o' at u
 have:∀ {h h':Heap} {b b':Bk} {o o':Ob},pB h b o b' o' h'→b=b'→o=o'→h'=h:=by
  intro h h' b b' o o' u
  induction u with
  | here=>rintro rfl rfl;rfl
  | next _ ih=>intro e1 e2;rw [ih e1 e2]
  | skip _ ih=>intro e1 e2;rw [ih e1 e2]
 subst hb ho
 exact this u rfl rfl
theorem ak.DA {n j:Nat} {tm:List (Nat×AV)} {hp dG:Heap} {T:St→Prop} {b:Bk} {cs pC:List AV} {av dF:AV} (u:pB hp b (.cells cs) b (.cells pC) dG) (hj:cs[j]? =some av) (he:dF=av) (hc:uF (cs.set j dF)=some pC) (k:ak ⟨n,tm,dG⟩ T):ak ⟨n,tm,hp⟩ T:=by
 subst he
 have M0:cs.set j dF=cs:=by
  apply List.ext_getElem?
  intro i
  by_cases hi:j=i
  ·subst hi
   have lh:=(List.getElem?_eq_some_iff.1 hj).1
   rw [List.getElem?_set_self lh,hj]
  ·rw [List.getElem?_set_ne hi]
 rw [M0] at hc
 obtain rfl:=og hc
 rw [Fh u] at k
 exact k
theorem tG {p:Prop} [Decidable p] {x:Bool} (h:p):(decide p&&x)=x:=by simp [h]
theorem tH {p:Prop} [Decidable p] {x:Bool} (h:¬ p):(decide p&&x)=false:=by simp [h]
theorem NI {p:Prop} [Decidable p] {x:Bool} (h:p):(decide p||x)=true:=by simp [h]
theorem NJ {p:Prop} [Decidable p] {x:Bool} (h:¬ p):(decide p||x)=x:=by simp [h]
theorem H9 {b x:Bool} (h:b=true):(b&&x)=x:=by simp [h]
theorem Ia {b x:Bool} (h:b=false):(b&&x)=false:=by simp [h]
theorem Ck {b x:Bool} (h:b=true):(b||x)=true:=by simp [h]
theorem Cl {b x:Bool} (h:b=false):(b||x)=x:=by simp [h]
def CM (P:Program) (k:Nat) (t:TypeId) (v u:Value) (b:Bool):Prop:=∀ d w,(Op.equalIn (d+k) t v u).run P w=.ok b w
theorem CM.up {P:Program} {k:Nat} {t:TypeId} {v u:Value} {b:Bool} (h:CM P k t v u b) (j:Nat):CM P (k+j) t v u b:=fun d w=>by
 rw [show d+(k+j)=(d+j)+k from by omega];exact h _ w
theorem CM.cast {P:Program} {k:Nat} {t:TypeId} {v u:Value} {b b':Bool} (h:CM P k t v u b) (e:b=b'):CM P k t v u b':=by rw [← e];exact h
inductive LQ (P:Program) (k:Nat) (xs ys:Array Value):List Field→Bool→Prop
 | nil:LQ P k xs ys [] true
 | cons {f:Field} {fs:List Field} {px py:Value} {b b':Bool} (hn:f.name≠"_") (hx:∀ w,(part f.type xs f.offset).run P w=.ok px w) (hy:∀ w,(part f.type ys f.offset).run P w=.ok py w) (he:CM P k f.type px py b) (kk:LQ P k xs ys fs b'):LQ P k xs ys (f :: fs) (b&&b')
theorem LQ.run {P:Program} {k:Nat} {xs ys:Array Value} {fs:List Field} {b:Bool} (h:LQ P k xs ys fs b) (d:Nat) (w:World):(Op.eqFields (d+k) xs ys fs).run P w=.ok b w:=by
 induction h with
 | nil=>simp [Op.eqFields]
 | @cons f fs px py b b' hn hx hy he kk ih=>
   simp only [Op.eqFields,hn,ne_eq,not_false_eq_true,if_true,Sem.run_bind,hx,hy,he d w,Result.andThen_ok]
   cases b
   ·simp
   ·simpa using ih
theorem CM.struct {P:Program} {k:Nat} {t:TypeId} {xs ys:Array Value} {fs:List Field} {b:Bool} (hu:P.underlying t=some (.struct fs.toArray)) (hp:P.stoodInHeld t=false) (h:LQ P k xs ys fs b):CM P (k+1) t (.agg xs) (.agg ys) b:=by
 intro d w
 have hf:P.fieldsOf t=fs.toArray:=by simp [Program.fieldsOf,hu]
 rw [show d+(k+1)=(d+k)+1 from rfl,run_equalIn_struct w (d+k) t xs ys (by rw [hf];exact hu) hp,hf]
 exact h.run d w
theorem jm {P:Program} {t:TypeId} {D:TypeDesc} [aR P t D] (hD:TypeDesc.lH D=false) {cs:Array Value} {off:Nat} {v:Value} (h:cs[off]? =some v) (w:World):(part t cs off).run P w=.ok v w:=by
 unfold part isAgg
 simp only [Sem.run_bind,run_underlying (aR.h (P:=P) (t:=t)),Result.andThen_ok]
 cases D<;>simp_all [TypeDesc.lH]
theorem mS.get {w:World} {S:Nat→Prop} {cs:List AV} {vs:Array Value} (hl:cs.length=vs.size) (ha:mS w S cs vs) {off:Nat} {c:AV} (hc:cs[off]? =some c):∃ v,vs[off]? =some v∧At w S c v:=by
 have lh:=(List.getElem?_eq_some_iff.1 hc).1
 have:off < vs.size:=by omega
 exact ⟨vs[off],by simp [this],ha off c _ hc (by simp [this])⟩
class wY (P:Program) (t:TypeId) (k:outParam Nat) {α:Type} [DecidableEq α] (g:α→AV):Prop where
 h:∀ (x y:α) (w:World) (S:Nat→Prop) (v u:Value),At w S (g x) v→At w S (g y) u→CM P k t v u (decide (x=y))
class JR (P:Program) (t:TypeId):Prop where
 h:P.eqGuardType P.depth t=false
instance VP {P:Program} {t:TypeId} {k:IntKind} [aR P t (.int k)]:wY P t 1 (AV.int k):=⟨fun x y w S v u hv hu d w'=>by
 rw [hv.eh,hu.eh,Op.equalIn]
 simp [run_underlying (aR.h (P:=P) (t:=t))]
 rw [Bool.eq_iff_iff];simp⟩
instance Xz {P:Program} {t:TypeId} [aR P t (.int .i64)]:wY P t 1 I:=VP (k:=.i64)
instance eqStr {P:Program} {t:TypeId} [aR P t .string]:wY P t 1 AV.str:=⟨fun x y w S v u hv hu d w'=>by
 rw [hv.iF,hu.iF,Op.equalIn]
 simp [run_underlying (aR.h (P:=P) (t:=t))]
 rw [Bool.eq_iff_iff]
 rw [beq_toListBytes,ByteArray.toList_eq,ByteArray.toList_eq]
 simp⟩
def fS (k:IntKind) (x y:Int):Int:=x.fdiv (2 ^ min y.toNat k.bits)
section rules
variable {P:Program} {all:Array Oper} {rest:List Oper} {n:Nat} {tm:List (Nat×AV)} {hp:Heap} {Q:St→Prop} {d:Nat} {ty:TypeId} {pos:String} {af:Array Edge}
theorem Sc {α:Type} [DecidableEq α] {g:α→AV} {X Y:α} {k:Nat} {xt yt:TypeId} {x y:Operand} {cs ds:List AV} [wY P xt k g] [JR P xt] (hk:Nat.ble k 10000=true) (hx:dt tm x=some (.agg cs)) (hy:dt tm y=some (.agg ds)) (eX:g X=.agg cs) (eY:g Y=.agg ds):
 QV P ⟨some d,.binOp .eql xt x y yt,ty,pos,af,none⟩ ⟨n,tm,hp⟩ (.bool (decide (X=Y))):=by
 intro w S a r
 have hv:=bn (σ:=⟨n,tm,hp⟩) r hx
 have hu:=bn (σ:=⟨n,tm,hp⟩) r hy
 have he:=wY.h (P:=P) (t:=xt) (g:=g) X Y w S _ _ (by rw [eX];exact hv) (by rw [eY];exact hu)
 obtain ⟨vs,e1,_,_⟩:=hv.qX
 obtain ⟨us,e2,_,_⟩:=hu.qX
 refine ⟨.bool (decide (X=Y)),fun w1 _=>?_,.bool _⟩
 have h1:=run_eqGuard_agg (P:=P) w1 .eql xt x y vs us JR.h
 rw [e1,e2] at he
 have h2:(Op.equal xt (.agg vs) (.agg us)).run P w1=.ok (decide (X=Y)) w1:=by
  have:=he (10000 - k) w1
  rw [Nat.sub_add_cancel (Nat.le_of_ble_eq_true hk)] at this
  exact this
 have h3:(binOp .eql xt (.agg vs) (.agg us)).run P w1=.ok (.bool (decide (X=Y))) w1:=by
  rw [show binOp .eql xt (.agg vs) (.agg us)=(do pure (.bool (← Op.equal xt (.agg vs) (.agg us)))) from rfl]
  simp [h2]
 simp [execOp,e1,e2,h1,h3]
theorem Sd {α:Type} [DecidableEq α] {g:α→AV} {X Y:α} {k:Nat} {xt yt:TypeId} {x y:Operand} {cs ds:List AV} [wY P xt k g] [JR P xt] (hk:Nat.ble k 10000=true) (hx:dt tm x=some (.agg cs)) (hy:dt tm y=some (.agg ds)) (eX:g X=.agg cs) (eY:g Y=.agg ds):
 QV P ⟨some d,.binOp .neq xt x y yt,ty,pos,af,none⟩ ⟨n,tm,hp⟩ (.bool (decide (X≠Y))):=by
 intro w S a r
 have hv:=bn (σ:=⟨n,tm,hp⟩) r hx
 have hu:=bn (σ:=⟨n,tm,hp⟩) r hy
 have he:=wY.h (P:=P) (t:=xt) (g:=g) X Y w S _ _ (by rw [eX];exact hv) (by rw [eY];exact hu)
 obtain ⟨vs,e1,_,_⟩:=hv.qX
 obtain ⟨us,e2,_,_⟩:=hu.qX
 refine ⟨.bool (decide (X≠Y)),fun w1 _=>?_,.bool _⟩
 have h1:=run_eqGuard_agg (P:=P) w1 .neq xt x y vs us JR.h
 rw [e1,e2] at he
 have h2:(Op.equal xt (.agg vs) (.agg us)).run P w1=.ok (decide (X=Y)) w1:=by
  have:=he (10000 - k) w1
  rw [Nat.sub_add_cancel (Nat.le_of_ble_eq_true hk)] at this
  exact this
 have h3:(binOp .neq xt (.agg vs) (.agg us)).run P w1=.ok (.bool (decide (X≠Y))) w1:=by
  rw [show binOp .neq xt (.agg vs) (.agg us)=(do pure (.bool (!(← Op.equal xt (.agg vs) (.agg us))))) from rfl]
  simp [h2]
 simp [execOp,e1,e2,h1,h3]
theorem NK {xt yt:TypeId} {x y:Operand} {s t:List UInt8} (hx:dt tm x=some (.str s)) (hy:dt tm y=some (.str t)):QV P ⟨some d,.binOp .leq xt x y yt,ty,pos,af,none⟩ ⟨n,tm,hp⟩ (.bool (Op.bytesLess s t||s==t)):=by
 refine fun w S a r=>⟨.bool (Op.bytesLess s t||s==t),fun w1 _=>?_,.bool _⟩
 simp [execOp,(bn (σ:=⟨n,tm,hp⟩) r hx).iF,(bn (σ:=⟨n,tm,hp⟩) r hy).iF,eqGuard_at_string,binOp,Op.stringOp,ByteArray.toList_eq]
theorem KO {k k':IntKind} {xt yt:TypeId} {x y:Operand} {i j:Int} (hx:dt tm x=some (.int k i)) (hy:dt tm y=some (.int k' j)) (h0:¬ j < 0):QV P ⟨some d,.binOp .shr xt x y yt,ty,pos,af,none⟩ ⟨n,tm,hp⟩ (.int k (fS k i j)):=by
 refine fun w S a r=>⟨.int k (fS k i j),fun w1 _=>?_,.int _ _⟩
 simp [execOp,(bn (σ:=⟨n,tm,hp⟩) r hx).eh,(bn (σ:=⟨n,tm,hp⟩) r hy).eh,eqGuard_at_int,binOp,Op.shift,h0,fS]
end rules
end Go.Eng
namespace Go.Eng
open Go Go.RowKit
variable [bI]
theorem Fi (l:List Int):flat (l.map I)=l.map I:=by
 induction l with
 | nil=>rfl
 | cons x r ih=>rw [List.map_cons,jD,ih];rfl
theorem NL {P:Program} {f:FuncId} {a:Option Addr} {len cap:Nat} {zs:List Int} {w:World}
 (DB:(a=none∧len=0∧cap=0∧zs=[])∨∃ x,a=some x∧len≤cap∧cap≤maxLen∧zs.length=cap∧(∀ i,i < zs.length→w.cell? (x.add i)=some (.int .i64 (zs.getD i 0)))∧∀ n∈zs,(Lit.int .i64 n).wf=true)
 (hG:∀ g o,bI.Vu g=some o→g < w.heap.size∧o (w.heap[g]?))
 (c:∀ l:List Int,Pu P f [.list 1 (l.map I)] (.bool true)):
 Calls P f #[.slice a len cap] w fun e w'=>e=.returned (.bool true)∧Below w.heap.size w w':=by
 let S:Nat→Prop:=fun n=>n < w.heap.size
 have vl:∃ l:List Int,At w S (.list 1 (l.map I)) (.slice a len cap):=by
  rcases DB with ⟨rfl,rfl,rfl,rfl⟩ | ⟨x,rfl,h1,h2,h3,h4,h5⟩
  ·exact ⟨[],.list 1 [] none 0 [] (by simp) rfl (by simp [flat]) (by simp) (by simp)⟩
  ·refine ⟨zs.take len,?_⟩
   have hl:((zs.take len).map I).length=len:=by simp;omega
   have key:=At.list (w:=w) (S:=S) 1 ((zs.take len).map I) (some x) cap ((zs.take len).map (fun n=>Value.int .i64 n)) ?_ ?_ ?_ ?_ ?_
   ·rw [hl] at key;exact key
   ·intro y hy
    obtain ⟨n,_,rfl⟩:=List.mem_map.1 hy
    exact ⟨rfl,fun c hc=>by simp [AV.cells] at hc;subst hc;rfl⟩
   ·rw [Fi];simp
   ·intro i c v hc hv
    rw [Fi,List.getElem?_map] at hc
    rw [List.getElem?_map] at hv
    cases hn:(zs.take len)[i]? with
    | none=>rw [hn] at hc;cases hc
    | some n=>
      rw [hn] at hc hv
      obtain rfl:=Option.some.inj hc
      obtain rfl:=Option.some.inj hv
      exact .int _ _
   ·intro i v hv
    rw [List.getElem?_map] at hv
    cases hn:(zs.take len)[i]? with
    | none=>rw [hn] at hv;cases hv
    | some n=>
      rw [hn] at hv
      obtain rfl:=Option.some.inj hv
      have hi:i < zs.length:=by
       have:=(List.getElem?_eq_some_iff.1 hn).1
       simp at this;omega
      have hz:zs.getD i 0=n:=by
       rw [List.getElem?_take] at hn
       split at hn
       ·rw [List.getD_eq_getElem?_getD,hn];rfl
       ·cases hn
      have xn:=h4 i hi
      rw [hz] at xn
      obtain ⟨bk,of,sp⟩:=x
      have RT:sp=none:=by
       cases sp with
       | none=>rfl
       | some q=>
         have VQ:=h4 0 (by omega)
         unfold World.cell? Addr.add at VQ
         simp only [if_true] at VQ
         split at VQ
         ·simp at VQ
         ·cases VQ
      subst RT
      rw [nV] at xn
      have hblk:bk < w.heap.size:=by
       rcases Nat.lt_or_ge bk w.heap.size with h | h
       ·exact h
       ·unfold World.cell? at xn
        simp only [Array.getElem?_eq_none h] at xn
        cases xn
      exact ⟨_,rfl,rfl,hblk,xn⟩
   ·rw [hl];exact h1
 obtain ⟨l,vl⟩:=vl
 refine (c l w S #[.slice a len cap] (tE (fun n hn=>hn) hG) rfl ?_).mono ?_
 ·intro i c' v hc hv
  match i with
  | 0=>simp at hc hv;subst hc;subst hv;exact vl
  | i+1=>simp at hc
 ·rintro e w' ⟨v,r,h',S',rfl,rfl,h1,h2,h3⟩
  refine ⟨by rw [h1.pD],h3.os,h3.tape,h3.output,h3.size,fun k hk=>(h3.keep k hk).2⟩
end Go.Eng
namespace Go.Eng
open Go
variable [bI]
def mV (e:Env) (d:Option Nat) (o:Option AV):Env:=match d with
 | some d=>fun s=>if d=s then o else e s
 | none=>e
theorem jM {e:Env} {d:Option Nat} {o:Option AV} {s:Nat} (h:d≠some s):mV e d o s=e s:=by
 cases d with
 | none=>rfl
 | some d=>simp only [mV];rw [if_neg (fun e=>h (by rw [e]))]
theorem l0 {e:Env} {o:Option AV} {s:Nat}:mV e (some s) o s=o:=by simp [mV]
section order
variable {P:Program} {all:Array Oper} {n m:Nat} {hp:Heap}
def wZ (all:Array Oper) (mP:Nat→Option AV) (e:Env) (listed:Array Bool):Nat→Env
 | 0=>e
 | k+1=>if listed.getD k false then mV (wZ all mP e listed k) ((all[k]?).bind (·.dst)) (mP k) else wZ all mP e listed k
variable {mP:Nat→Option AV} {en:Nat→Env} {e:Env}
theorem LR (hB:wI all m) {listed:Array Bool} (L:PZ all m listed) (h0:en 0=e) (hs:∀ i o,i < m→all[i]? =some o→en (i+1)=mV (en i) o.dst (mP i)) (hm:m≤all.size)
 {i:Nat} {o:Oper} (ho:all[i]? =some o) (Ff:i < m) (yp:listed.getD i false=false) (hr:∀ j,BG all i j→listed.getD j false=true) {s:Nat} (Dr:s∈looks all o):∀ k,k≤all.size→wZ all mP e listed k s=en (min k i) s:=by
 intro k
 induction k with
 | zero=>intro _;simp [wZ,h0]
 | succ k ih=>
   intro hk
   have wW:=ih (by omega)
   have wX:all[k]? =some all[k]:=by simp [show k < all.size by omega]
   simp only [wZ,wX,Option.bind_some]
   rcases Nat.lt_trichotomy k i with lh | heq | Nu
   ·rw [Nat.min_eq_left (by omega)] at wW
    rw [Nat.min_eq_left (by omega),hs k _ (by omega) wX]
    by_cases hd:(all[k]).dst=some s
    ·have hl:listed.getD k false=true:=hr k ((kU hB ho wX lh).1 Ff (y8 hd Dr))
     rw [if_pos hl,hd,l0,l0]
    ·rw [jM hd]
     split
     ·rw [jM hd];exact wW
     ·exact wW
   ·subst heq
    rw [yp]
    simp only [Bool.false_eq_true,if_false]
    rw [Nat.min_eq_right (by omega)]
    rw [Nat.min_eq_right (by omega)] at wW
    exact wW
   ·rw [Nat.min_eq_right (by omega)] at wW
    rw [Nat.min_eq_right (by omega)]
    by_cases hl:listed.getD k false=true
    ·by_cases hd:(all[k]).dst=some s
     ·exfalso
      have hw:=(kU hB wX ho Nu).1 (L.head k hl) (BK hd Dr)
      have:=lI.Qt L.closed hw hl
      rw [yp] at this;cases this
     ·rw [if_pos hl,jM hd];exact wW
    ·rw [if_neg hl];exact wW
theorem NM (hB:wI all m) {listed:Array Bool} (L:PZ all m listed) {i:Nat} {o:Oper} (ho:all[i]? =some o) (Ff:i < m) (yp:listed.getD i false=false) (s:Nat):
 ∀ k,k≤all.size→wZ all mP e (listed.setIfInBounds i true) k s=(if i < k then mV (wZ all mP e listed k) o.dst (mP i) s else wZ all mP e listed k s):=by
 have hi:i < listed.size:=by rw [L.size];exact (Array.getElem?_eq_some_iff.1 ho).1
 intro k
 induction k with
 | zero=>intro _;simp [wZ]
 | succ k ih=>
   intro hk
   have wW:=ih (by omega)
   have wX:all[k]? =some all[k]:=by simp [show k < all.size by omega]
   simp only [wZ,wX,Option.bind_some,jL hi]
   rcases Nat.lt_trichotomy k i with lh | heq | Nu
   ·rw [if_neg (by omega)] at wW
    have e1:(if k=i then true else listed.getD k false)=listed.getD k false:=if_neg (by omega)
    rw [e1,if_neg (show ¬ i < k+1 by omega)]
    by_cases hl:listed.getD k false=true
    ·rw [if_pos hl,if_pos hl]
     by_cases hd:(all[k]).dst=some s
     ·rw [hd,l0,l0]
     ·rw [jM hd,jM hd];exact wW
    ·rw [if_neg hl,if_neg hl];exact wW
   ·subst heq
    rw [if_neg (by omega)] at wW
    have e1:(if k=k then true else listed.getD k false)=true:=if_pos rfl
    rw [e1,if_pos (show k < k+1 by omega),if_pos rfl,yp,if_neg Bool.false_ne_true]
    obtain rfl:all[k]=o:=by rw [wX] at ho;exact Option.some.inj ho
    by_cases hd:(all[k]).dst=some s
    ·rw [hd,l0,l0]
    ·rw [jM hd,jM hd];exact wW
   ·rw [if_pos Nu] at wW
    have e1:(if k=i then true else listed.getD k false)=listed.getD k false:=if_neg (by omega)
    rw [e1,if_pos (show i < k+1 by omega)]
    by_cases hl:listed.getD k false=true
    ·rw [if_pos hl,if_pos hl]
     by_cases hd:(all[k]).dst=some s
     ·by_cases LL:o.dst=some s
      ·exfalso
       have hw:=(kU hB wX ho Nu).1 (L.head k hl) (Fe LL hd)
       have:=lI.Qt L.closed hw hl
       rw [yp] at this;cases this
      ·rw [hd,l0,jM LL,l0]
     ·by_cases LL:o.dst=some s
      ·rw [jM hd,wW,LL,l0,l0]
      ·rw [jM hd,wW,jM LL,jM LL,jM hd]
    ·rw [if_neg hl,if_neg hl];exact wW
structure Tok where
 prod:Option Nat
 cons:Option Nat
 YJ:List Nat
 ent:Bk→Bk×Ob
 XA:Option Nat
 sft:List Nat
def Tok.ix (t:Tok):Option Nat:=match t.XA with | some a=>some a | none=>t.prod
def Tok.at (t:Tok) (β:Nat→Bk):Bk×Ob:=t.ent (match t.ix with | some i=>β i | none=>⟨none,0⟩)
def zb (listed:Array Bool) (t:Tok):Bool:=(match t.prod with | none=>true | some i=>listed.getD i false)&&(match t.cons with | none=>true | some i=>!listed.getD i false)
def Cm (i:Nat) (t:Tok):Bool:=match t.cons with | some c=>Nat.beq c i | none=>false
def Qy (i:Nat) (t:Tok):Bool:=match t.prod with | some c=>Nat.beq c i | none=>false
def KP (i:Nat) (t:Tok):Bool:=t.YJ.contains i
def zN (tk:List Tok) (i:Nat) (β:Nat→Bk):Heap:=(tk.filter (KP i)).map (·.at β)
def PX (i:Nat) (t:Tok):Bool:=t.sft.contains i
def w4 (tk:List Tok) (i:Nat) (β:Nat→Bk):List Heap:=match tk.filter (PX i) with
 | []=>[zN tk i β]
 | l=>l.map fun t=>t.at β :: zN tk i β
def sP (tk:List Tok) (listed:Array Bool) (β:Nat→Bk):Heap:=(tk.filter (zb listed)).map (·.at β)
def vr (tk:List Tok) (i:Nat) (β:Nat→Bk):Heap:=(tk.filter (Cm i)).map (·.at β)
def kZ (tk:List Tok) (i:Nat) (β:Nat→Bk):Heap:=(tk.filter (Qy i)).map (·.at β)
def pk (β:Nat→Bk) (i:Nat) (b:Bk):Nat→Bk:=fun k=>bif Nat.beq k i then b else β k
theorem Qz (β:Nat→Bk) (i:Nat) (b:Bk):pk β i b i=b:=by simp [pk]
theorem KQ {β:Nat→Bk} {i k:Nat} {b:Bk} (h:k≠i):pk β i b k=β k:=by simp [pk,qW h]
def NN (tk:List Tok) (β:Nat→Bk):Heap:=(tk.filter (fun t=>t.cons.isNone)).map (·.at β)
def VR (A:List Nat) (m:Nat) (tk:List Tok):Bool:=tk.all fun t=>
 (match t.prod with | some p=>Nat.blt p m | none=>true)&&(match t.cons with | some c=>Nat.blt c m&&(match t.prod with | some p=>(A.getD c 0).testBit p | none=>true) | none=>true)&&
 (match t.XA with | some a=>(match t.prod with | some p=>(A.getD p 0).testBit a | none=>false) | none=>true)&&
 t.YJ.all fun i=>Nat.blt i m&&(match t.prod with | some p=>(A.getD i 0).testBit p | none=>true)&&(match t.cons with | some c=>(A.getD c 0).testBit i | none=>true)
def Se (A:List Nat) (m:Nat) (tk:List Tok):Bool:=(List.range m).all fun i=>match tk.filter (PX i) with
 | []=>true
 | [t0,t1]=>(match t0.cons,t1.prod with | some j,some j'=>Nat.beq j j'&&!Nat.beq j i | _,_=>false)&&(match t0.prod with | some p=>(A.getD i 0).testBit p | none=>true)&&(match t1.cons with | some c=>(A.getD c 0).testBit i | none=>true)&&!KP i t0&&!KP i t1
 | _=>false
def JS (all:Array Oper) (m:Nat) (tk:List Tok):Prop:=∀ i,i < m→tk.filter (PX i)=[]∨∃ t0 t1 j,tk.filter (PX i)=[t0,t1]∧t0.cons=some j∧t1.prod=some j∧j≠i∧(∀ p,t0.prod=some p→BG all i p)∧(∀ c,t1.cons=some c→BG all c i)∧KP i t0=false∧KP i t1=false
theorem JT {A:List Nat} {tk:List Tok} (hA:LK all=A) (h:Se A m tk=true):JS all m tk:=by
 intro i hi
 have:=List.all_eq_true.1 h i (List.mem_range.2 hi)
 split at this
 ·rename_i e;exact .inl e
 ·rename_i t0 t1 e
  simp only [Bool.and_eq_true,Bool.not_eq_true'] at this
  obtain ⟨⟨⟨⟨h1,h2⟩,h3⟩,h4⟩,h5⟩:=this
  split at h1
  ·rename_i j j' hj M3
   simp only [Bool.and_eq_true,Bool.not_eq_true'] at h1
   obtain ⟨h6,h7⟩:=h1
   obtain rfl:=Nat.eq_of_beq_eq_true h6
   refine .inr ⟨t0,t1,j,e,hj,M3,fun e=>by rw [e] at h7;simp at h7,fun p hp=>?_,fun c hc=>?_,h4,h5⟩
   ·rw [hp] at h2;subst hA;exact pa h2
   ·rw [hc] at h3;subst hA;exact pa h3
  ·cases h1
 ·cases this
def DC (all:Array Oper) (m:Nat) (tk:List Tok):Prop:=∀ t∈tk,(∀ p,t.prod=some p→p < m)∧(∀ c,t.cons=some c→c < m∧∀ p,t.prod=some p→BG all c p)∧(∀ i,KP i t=true→i < m∧(∀ p,t.prod=some p→BG all i p)∧∀ c,t.cons=some c→BG all c i)∧∀ a,t.XA=some a→∃ p,t.prod=some p∧BG all p a
theorem LS {A:List Nat} {tk:List Tok} (hA:LK all=A) (h:VR A m tk=true):DC all m tk:=by
 intro t ht
 have:=List.all_eq_true.1 h t ht
 rw [Bool.and_eq_true,Bool.and_eq_true,Bool.and_eq_true] at this
 obtain ⟨⟨⟨h1,h2⟩,h9⟩,h4⟩:=this
 subst hA
 refine ⟨fun p hp=>by rw [hp] at h1;simpa using h1,fun c hc=>?_,fun i hi=>?_,fun a ha=>?_⟩
 ·rw [hc] at h2
  simp only [Bool.and_eq_true] at h2
  refine ⟨by simpa using h2.1,fun p hp=>?_⟩
  have h3:=h2.2
  rw [hp] at h3
  exact pa h3
 ·have h5:=List.all_eq_true.1 h4 i (by simpa [KP] using hi)
  rw [Bool.and_eq_true,Bool.and_eq_true] at h5
  obtain ⟨⟨h6,h7⟩,h8⟩:=h5
  exact ⟨by simpa using h6,fun p hp=>by rw [hp] at h7;exact pa h7,fun c hc=>by rw [hc] at h8;exact pa h8⟩
 ·rw [ha] at h9
  cases hp:t.prod with
  | none=>rw [hp] at h9;cases h9
  | some p=>rw [hp] at h9;exact ⟨p,rfl,pa h9⟩
theorem vT {α:Type} (p q:α→Bool) (l:List α):(l.filter p).Perm (l.filter (fun x=>p x&&q x)++l.filter (fun x=>p x&&!q x)):=by
 induction l with
 | nil=>exact List.Perm.refl _
 | cons x l ih=>
   simp only [List.filter_cons]
   cases hp:p x<;>cases hq:q x
   ·simpa using ih
   ·simpa using ih
   ·simp only [Bool.true_and,Bool.not_false,Bool.false_eq_true,if_false,if_true]
    exact (List.Perm.cons x ih).trans List.perm_middle.symm
   ·simp only [Bool.true_and,Bool.not_true,Bool.false_eq_true,if_false,if_true,List.cons_append]
    exact List.Perm.cons x ih
theorem Te {tk:List Tok} (hT:DC all m tk) {listed:Array Bool} {i:Nat} (yp:listed.getD i false=false) (Gr:∀ j,BG all i j→listed.getD j false=true) (β:Nat→Bk):
 (sP tk listed β).Perm (vr tk i β++(tk.filter (fun t=>zb listed t&&!Cm i t)).map (·.at β)):=by
 unfold sP vr
 rw [← List.map_append]
 refine List.Perm.map _ ?_
 have e:tk.filter (Cm i)=tk.filter (fun t=>zb listed t&&Cm i t):=by
  apply List.filter_congr
  intro t ht
  cases hc:Cm i t with
  | false=>simp
  | true=>
    unfold Cm at hc
    split at hc
    ·rename_i c LU
     obtain rfl:c=i:=Nat.eq_of_beq_eq_true hc
     have:=(hT t ht).2.1 c LU
     have Sa:zb listed t=true:=by
      unfold zb
      rw [LU]
      simp only [yp,Bool.not_false,Bool.and_true]
      split
      ·rfl
      ·rename_i p hp;exact Gr p (this.2 p hp)
     rw [Sa];rfl
    ·cases hc
 rw [e]
 exact vT _ _ _
theorem QA {tk:List Tok} (hT:DC all m tk) {listed:Array Bool} (Dh:lI all listed) {i:Nat} (hi:i < listed.size) (yp:listed.getD i false=false) (Gs:∀ c,BG all c i→c≠i) (β:Nat→Bk) (b:Bk):
 (sP tk (listed.setIfInBounds i true) (pk β i b)).Perm (kZ tk i (pk β i b)++(tk.filter (fun t=>zb listed t&&!Cm i t)).map (·.at β)):=by
 unfold sP kZ
 have e2:(tk.filter (fun t=>zb listed t&&!Cm i t)).map (·.at β)=(tk.filter (fun t=>zb listed t&&!Cm i t)).map (·.at (pk β i b)):=by
  apply List.map_congr_left
  intro t ht
  have h0:=(List.mem_filter.1 ht).1
  have h1:=(List.mem_filter.1 ht).2
  rw [Bool.and_eq_true] at h1
  have Xv:∀ p,t.prod=some p→listed.getD p false=true:=by
   intro p hp
   have:=h1.1
   unfold zb at this
   rw [hp,Bool.and_eq_true] at this
   exact this.1
  unfold Tok.at
  cases hx:t.ix with
  | none=>rfl
  | some p=>
    have R5:listed.getD p false=true:=by
     unfold Tok.ix at hx
     cases ha:t.XA with
     | none=>rw [ha] at hx;exact Xv p hx
     | some a=>
       rw [ha] at hx
       obtain rfl:=Option.some.inj hx
       obtain ⟨q,q1,q2⟩:=(hT t h0).2.2.2 a ha
       exact Dh.Qt q2 (Xv q q1)
    have:p≠i:=fun e=>by subst e;rw [yp] at R5;cases R5
    simp only [KQ this]
 rw [e2,← List.map_append]
 refine List.Perm.map _ ?_
 refine (vT _ (Qy i) _).trans ?_
 have f1:tk.filter (fun t=>zb (listed.setIfInBounds i true) t&&Qy i t)=tk.filter (Qy i):=by
  apply List.filter_congr
  intro t ht
  cases hp:Qy i t with
  | false=>simp
  | true=>
    unfold Qy at hp
    split at hp
    ·rename_i p Tf
     obtain rfl:p=i:=Nat.eq_of_beq_eq_true hp
     have Sa:zb (listed.setIfInBounds p true) t=true:=by
      unfold zb
      rw [Tf]
      simp only [jL hi,if_true,Bool.true_and]
      cases hc:t.cons with
      | none=>rfl
      | some c=>
        have Gr:=((hT t ht).2.1 c hc).2 p Tf
        have wF:=Gs c Gr
        simp only [wF,if_false]
        cases hl:listed.getD c false with
        | false=>rfl
        | true=>have:=Dh.Qt Gr hl;rw [yp] at this;cases this
     rw [Sa];rfl
    ·cases hp
 have f2:tk.filter (fun t=>zb (listed.setIfInBounds i true) t&&!Qy i t)=tk.filter (fun t=>zb listed t&&!Cm i t):=by
  apply List.filter_congr
  intro t ht
  unfold zb Qy Cm
  cases hp:t.prod with
  | none=>
    cases hc:t.cons with
    | none=>simp
    | some c=>
      simp only [jL hi]
      by_cases P0:c=i
      ·subst P0;simp
      ·have:Nat.beq c i=false:=qW P0
       simp [P0,this]
  | some p=>
    by_cases XB:p=i
    ·subst XB
     simp [yp]
    ·have hb:Nat.beq p i=false:=qW XB
     cases hc:t.cons with
     | none=>simp [jL hi,XB,hb]
     | some c=>
       simp only [jL hi,XB,hb,if_false]
       by_cases P0:c=i
       ·subst P0;simp
       ·have:Nat.beq c i=false:=qW P0
        simp [P0,this]
 rw [f1,f2]
theorem NO {tk:List Tok} (hT:DC all m tk) {listed:Array Bool} (Dh:lI all listed) {i:Nat} (yp:listed.getD i false=false) (Gr:∀ j,BG all i j→listed.getD j false=true) (Gs:∀ c,BG all c i→c≠i) (β:Nat→Bk):
 ((tk.filter (fun t=>zb listed t&&!Cm i t)).map (·.at β)).Perm (zN tk i β++(tk.filter (fun t=>(zb listed t&&!Cm i t)&&!KP i t)).map (·.at β)):=by
 unfold zN
 rw [← List.map_append]
 refine List.Perm.map _ ?_
 have e:tk.filter (KP i)=tk.filter (fun t=>(zb listed t&&!Cm i t)&&KP i t):=by
  apply List.filter_congr
  intro t ht
  cases hr:KP i t with
  | false=>simp
  | true=>
    obtain ⟨_,q2,q3⟩:=(hT t ht).2.2.1 i hr
    have h1:zb listed t=true:=by
     unfold zb
     have e1:(match t.prod with | none=>true | some i=>listed.getD i false)=true:=by
      cases hp:t.prod with
      | none=>rfl
      | some p=>exact Gr p (q2 p hp)
     have e2:(match t.cons with | none=>true | some i=>!listed.getD i false)=true:=by
      cases hc:t.cons with
      | none=>rfl
      | some c=>
        have:=q3 c hc
        show (!listed.getD c false)=true
        cases hl:listed.getD c false with
        | false=>rfl
        | true=>have:=Dh.Qt this hl;rw [yp] at this;cases this
     rw [e1,e2];rfl
    have h2:Cm i t=false:=by
     unfold Cm
     cases hc:t.cons with
     | none=>rfl
     | some c=>exact qW (Gs c (q3 c hc))
    rw [h1,h2];rfl
 rw [e]
 exact vT _ _ _
theorem LV {tk:List Tok} (hT:DC all m tk) (hS:JS all m tk) {listed:Array Bool} (Dh:lI all listed) {i:Nat} (Ff:i < m) (yp:listed.getD i false=false) (Gr:∀ j,BG all i j→listed.getD j false=true) (Gs:∀ c,BG all c i→c≠i) (β:Nat→Bk):
 ∃ X∈w4 tk i β,∃ rest,((tk.filter (fun t=>zb listed t&&!Cm i t)).map (·.at β)).Perm (X++rest):=by
 have h0:=NO hT Dh yp Gr Gs β
 rcases hS i Ff with e | ⟨t0,t1,j,e,a1,a2,a3,a4,a5,a6,a7⟩
 ·exact ⟨zN tk i β,by unfold w4;rw [e];simp,_,h0⟩
 ·have m0:t0∈tk:=(List.mem_filter.1 (by rw [e];simp:t0∈tk.filter (PX i))).1
  have m1:t1∈tk:=(List.mem_filter.1 (by rw [e];simp:t1∈tk.filter (PX i))).1
  have go:∀ t,t∈tk→zb listed t=true→Cm i t=false→KP i t=false→∃ rest,((tk.filter (fun t=>zb listed t&&!Cm i t)).map (·.at β)).Perm ((t.at β :: zN tk i β)++rest):=by
   intro t ht h1 h2 h3
   have hm:t∈tk.filter (fun t=>(zb listed t&&!Cm i t)&&!KP i t):=List.mem_filter.2 ⟨ht,by simp [h1,h2,h3]⟩
   obtain ⟨a,b,uz⟩:=List.append_of_mem hm
   rw [uz] at h0
   refine ⟨(a++b).map (·.at β),h0.trans ?_⟩
   rw [List.map_append,List.map_cons,List.map_append]
   refine (List.Perm.append_left _ List.perm_middle).trans ?_
   exact List.perm_middle
  have hX:∀ t,t∈[t0,t1]→(t.at β :: zN tk i β)∈w4 tk i β:=by
   intro t ht
   unfold w4
   rw [e]
   exact List.mem_map.2 ⟨t,ht,rfl⟩
  cases hj:listed.getD j false with
  | false=>
    have h1:zb listed t0=true:=by
     unfold zb
     rw [a1]
     simp only [hj,Bool.not_false,Bool.and_true]
     split
     ·rfl
     ·rename_i p hp;exact Gr p (a4 p hp)
    have h2:Cm i t0=false:=by unfold Cm;rw [a1];exact qW a3
    obtain ⟨rest,hr⟩:=go t0 m0 h1 h2 a6
    exact ⟨_,hX t0 (by simp),rest,hr⟩
  | true=>
    have h1:zb listed t1=true:=by
     unfold zb
     rw [a2]
     simp only [hj,Bool.true_and]
     split
     ·rfl
     ·rename_i c hc
      cases hl:listed.getD c false with
      | false=>rfl
      | true=>have:=Dh.Qt (a5 c hc) hl;rw [yp] at this;cases this
    have h2:Cm i t1=false:=by
     unfold Cm
     split
     ·rename_i c hc;exact qW (Gs c (a5 c hc))
     ·rfl
    obtain ⟨rest,hr⟩:=go t1 m1 h1 h2 a7
    exact ⟨_,hX t1 (by simp),rest,hr⟩
def TV (P:Program) (all:Array Oper) (n:Nat) (B:Heap) (o:Oper) (e:Env) (Ti:Heap) (V:Bk→AV) (Pi:Bk→Heap):Prop:=
 ∀ w S a,a.tmps.size=n→a.defers=[]→du w S (Ti++B)→Gi w S (looks all o) e a→∀ (K:Act→World→Prop) (Q:Exit→Act→World→Prop),
   (∀ b v w' S',kT w S (Ti++B) w' S' (Pi b++B)→du w' S' (Pi b++B)→At w' S' (V b) v→K (a.put o.dst v) w')→o.wp P a w K Q
def sQ (P:Program) (all:Array Oper) (n:Nat) (B:Heap) (o:Oper) (e:Env) (Ti:Heap) (V:Bk→AV) (Pi:Bk→Heap):Prop:=
 (∀ d,o.dst=some d→d < n)∧((oY all o e true∧TV P all n B o e Ti V Pi)∨(oY all o e false∧∀ b,Pi b=Ti∧V b=.raw undef))
def JA (e c:Env):Env:=fun s=>match e s with | some av=>some av | none=>c s
theorem NP {e c:Env} {s:Nat} {av:AV} (h:e s=some av):JA e c s=some av:=by simp [JA,h]
theorem oY.up {all:Array Oper} {o:Oper} {e c:Env} {b:Bool} (h:oY all o e b):oY all o (JA e c) b:=by
 unfold oY at *
 cases hg:o.guard with
 | none=>rw [hg] at h;exact h
 | some g=>
   rw [hg] at h
   obtain ⟨s,h1,h2⟩:=h
   refine ⟨s,h1,?_⟩
   rcases h2 with ⟨x,h3,h4⟩ | ⟨h3,h4⟩
   ·exact .inl ⟨x,NP h3,h4⟩
   ·exact .inr ⟨NP h3,h4⟩
theorem Gi.down {w:World} {S:Nat→Prop} {ls:List Nat} {e c:Env} {a:Act} (h:Gi w S ls (JA e c) a):Gi w S ls e a:=fun s hs av tC=>h s hs av (NP tC)
theorem sQ.up {P:Program} {all:Array Oper} {n:Nat} {B:Heap} {o:Oper} {e c:Env} {Ti:Heap} {V:Bk→AV} {Pi:Bk→Heap} (h:sQ P all n B o e Ti V Pi):sQ P all n B o (JA e c) Ti V Pi:=by
 refine ⟨h.1,h.2.imp (fun x=>⟨x.1.up,fun w S a h1 h2 h3 h4=>x.2 w S a h1 h2 h3 h4.down⟩) (fun x=>⟨x.1.up,x.2⟩)⟩
theorem NQ {all:Array Oper} {mP:Nat→Option AV} {V:Nat→Bk→AV} {cn:Nat→(Nat→Bk)→Env} {m:Nat} (h0:∀ β s,cn 0 β s=none) (hc:∀ i o,i < m→all[i]? =some o→∀ β,cn (i+1) β=match mP i with | none=>mV (cn i β) o.dst (some (V i (β i))) | some _=>cn i β) (hm:m≤all.size):
 ∀ i,i≤m→∀ β s av,cn i β s=some av→∃ k o,k < i∧all[k]? =some o∧o.dst=some s∧mP k=none∧av=V k (β k):=by
 intro i
 induction i with
 | zero=>intro _ β s av h;rw [h0] at h;cases h
 | succ i ih=>
   intro hi β s av h
   have wX:all[i]? =some all[i]:=by simp [show i < all.size by omega]
   rw [hc i _ (by omega) wX] at h
   cases tC:mP i with
   | some x=>
     rw [tC] at h
     obtain ⟨k,o,h1,h2⟩:=ih (by omega) β s av h
     exact ⟨k,o,by omega,h2⟩
   | none=>
     rw [tC] at h
     by_cases hd:(all[i]).dst=some s
     ·simp only [hd,l0] at h
      exact ⟨i,_,by omega,wX,hd,tC,(Option.some.inj h).symm⟩
     ·simp only [jM hd] at h
      obtain ⟨k,o,h1,h2⟩:=ih (by omega) β s av h
      exact ⟨k,o,by omega,h2⟩
theorem LW {cn:Nat→(Nat→Bk)→Env} {B:Heap} {tk:List Tok} {V:Nat→Bk→AV} (hB:wI all m) (hT:DC all m tk) (hSf:JS all m tk) (hm:m≤all.size) {Q:Exit→Act→World→Prop} (h0:en 0=e)
 (Td:∀ β s,cn 0 β s=none) (hcn:∀ i o,i < m→all[i]? =some o→∀ β,cn (i+1) β=match mP i with | none=>mV (cn i β) o.dst (some (V i (β i))) | some _=>cn i β)
 (hs:∀ i o,i < m→all[i]? =some o→(∀ β,∀ X∈w4 tk i β,sQ P all n (X++B) o (JA (en i) (cn i β)) (vr tk i β) (V i) (fun b=>kZ tk i (pk β i b)))∧en (i+1)=mV (en i) o.dst (mP i)∧(∀ av,mP i=some av→∀ b,V i b=av))
 (hU:∀ i j oi oj d,i < m→j < m→i≠j→all[i]? =some oi→all[j]? =some oj→mP i=none→oi.dst=some d→oj.dst≠some d) {w0:World} {S0:Nat→Prop} {Tg:Heap}
 (fin:∀ β a w S,a.tmps.size=n→a.defers=[]→du w S (NN tk β++B)→kT w0 S0 Tg w S (NN tk β++B)→Ds w S (en m) a→(∀ j o d,j < m→all[j]? =some o→mP j=none→o.dst=some d→∃ v,a.tmps[d]? =some v∧At w S (V j (β j)) v)→wpList P all Q (all.toList.drop m) a w):
 ∀ (fuel:Nat) (listed:Array Bool) (a:Act) (w:World) (S:Nat→Prop) (β:Nat→Bk),PZ all m listed→(listed.toList.count true)+fuel=all.size→a.tmps.size=n→a.defers=[]→du w S (sP tk listed β++B)→kT w0 S0 Tg w S (sP tk listed β++B)→Ds w S (wZ all mP e listed all.size) a→
   (∀ j o d,listed.getD j false=true→all[j]? =some o→mP j=none→o.dst=some d→∃ v,a.tmps[d]? =some v∧At w S (V j (β j)) v)→
   wpAny P .any all Q fuel listed a w:=by
 have KM:∀ i o,i < m→all[i]? =some o→en (i+1)=mV (en i) o.dst (mP i):=fun i o h1 h2=>(hs i o h1 h2).2.1
 have Gs:∀ c i,BG all c i→c≠i:=by
  have key:∀ c i,BG all c i→i < c:=by
   intro c i h
   have one:∀ {j i:Nat} {oj:Oper},all[j]? =some oj→waits oj i=true→i < j:=by
    intro j i oj hj hw
    simp only [waits,List.any_eq_true,Bool.and_eq_true] at hw
    obtain ⟨e',YD,Ci,Ta⟩:=hw
    have:=y7 hB hj (by simpa using YD) Ci
    obtain rfl:e'.on=i:=Nat.eq_of_beq_eq_true Ta
    exact this
   induction h with
   | one hj hw=>exact one hj hw
   | step hj hw _ ih=>have:=one hj hw;omega
  intro c i h e;have:=key c i h;omega
 have done:∀ (fuel:Nat) (listed:Array Bool) (a:Act) (w:World) (S:Nat→Prop) (β:Nat→Bk),PZ all m listed→(listed.toList.count true)+fuel=all.size→a.tmps.size=n→a.defers=[]→du w S (sP tk listed β++B)→kT w0 S0 Tg w S (sP tk listed β++B)→Ds w S (wZ all mP e listed all.size) a→
  (∀ j o d,listed.getD j false=true→all[j]? =some o→mP j=none→o.dst=some d→∃ v,a.tmps[d]? =some v∧At w S (V j (β j)) v)→
  (∀ i,i < m→listed.getD i false=true)→wpAny P .any all Q fuel listed a w:=by
  intro fuel listed a w S β L hc jH JP hr hg wE JU mC
  have Fg:∀ i,m≤i→listed.getD i false=false:=fun i hi=>by
   cases hv:listed.getD i false with
   | false=>rfl
   | true=>have:=L.head i hv;omega
  have Tb:listed.toList.count true=m:=by
   have:listed.toList=List.replicate m true++List.replicate (all.size - m) false:=by
    apply List.ext_getElem?
    intro i
    rcases Nat.lt_or_ge i m with hi | hi
    ·have qJ:i < listed.size:=by rw [L.size];omega
     rw [List.getElem?_append_left (by simpa using hi)]
     have:=mC i hi
     simp [qJ] at this
     simp [qJ,hi,this]
    ·rw [List.getElem?_append_right (by simpa using hi)]
     rcases Nat.lt_or_ge i listed.size with qJ | qJ
     ·have:=Fg i hi
      simp [qJ] at this
      have h2:i - m < all.size - m:=by rw [L.size] at qJ;omega
      simp [qJ,h2,this]
     ·have h2:¬ i - m < all.size - m:=by rw [L.size] at qJ;omega
      simp [List.getElem?_eq_none (l:=listed.toList) (by simpa using qJ),h2]
   rw [this,List.count_append,List.count_replicate,List.count_replicate]
   simp
  have Tc:wZ all mP e listed all.size=en m:=by
   have key:∀ k,k≤all.size→wZ all mP e listed k=en (min k m):=by
    intro k
    induction k with
    | zero=>intro _;simp [wZ,h0]
    | succ k ih=>
      intro hk
      have wX:all[k]? =some all[k]:=by simp [show k < all.size by omega]
      simp only [wZ,wX,Option.bind_some,ih (by omega)]
      rcases Nat.lt_or_ge k m with h | h
      ·rw [if_pos (mC k h),Nat.min_eq_left (by omega),Nat.min_eq_left (by omega),KM k _ h wX]
      ·rw [if_neg (by rw [Fg k h];simp),Nat.min_eq_right (by omega),Nat.min_eq_right (by omega)]
   rw [key all.size (Nat.le_refl _),Nat.min_eq_right hm]
  have VS:sP tk listed β=NN tk β:=by
   unfold sP NN
   congr 1
   apply List.filter_congr
   intro t ht
   obtain ⟨q1,q2,_⟩:=hT t ht
   unfold zb
   cases hp:t.prod with
   | none=>
     cases hc:t.cons with
     | none=>rfl
     | some c=>simp [mC c (q2 c hc).1]
   | some p=>
     cases hc:t.cons with
     | none=>simp [mC p (q1 p hp)]
     | some c=>simp [mC c (q2 c hc).1]
  rw [Tc] at wE
  rw [VS] at hr hg
  exact H3 hB fuel m listed a w (Nat.le_refl _) (by omega) L.size mC Fg (fin β a w S jH JP hr hg wE (fun j o d hj ho tC hd=>JU j o d (mC j hj) ho tC hd))
 intro fuel
 induction fuel with
 | zero=>
   intro listed a w S β L hc jH JP hr hg wE JU
   refine done 0 listed a w S β L hc jH JP hr hg wE JU (fun i hi=>?_)
   have H4:listed.toList.count true=listed.toList.length:=by rw [Array.length_toList,L.size];omega
   have mC:=List.count_eq_length.1 H4
   have qJ:i < listed.size:=by rw [L.size];omega
   have:=mC listed[i] (by simp)
   simp [qJ];exact this.symm
 | succ fuel ih=>
   intro listed a w S β L hc jH JP hr hg wE JU
   by_cases mC:∀ i,i < m→listed.getD i false=true
   ·exact done _ listed a w S β L hc jH JP hr hg wE JU mC
   ·refine ⟨fun Nw=>(mC fun i hi=>A1 hB L.size Nw i (by omega)).elim,fun i hi=>?_⟩
    obtain ⟨Cj,LM⟩:=x7 hi
    have yp:=CL LM
    have BJ:all[i]? =some all[i]:=by simp [Cj]
    have Ff:i < m:=by
     rcases Nat.lt_or_ge i m with h | h
     ·exact h
     ·refine (mC fun j hj=>?_).elim
      have PY:all[j]? =some all[j]:=by simp [show j < all.size by omega]
      exact lI.ready L.closed ((kU hB BJ PY (by omega)).2 h) hi
    have qJ:i < listed.size:=by rw [L.size];exact Cj
    obtain ⟨YK,_,hV⟩:=hs i _ Ff BJ
    obtain ⟨X,hX,rest,prd⟩:=LV hT hSf L.closed Ff yp (fun j hj=>lI.ready L.closed hj hi) (fun c h=>Gs c i h) β
    obtain ⟨RW,Dt⟩:=YK β X hX
    have A0:Gi w S (looks all all[i]) (JA (en i) (cn i β)) a:=by
     intro s Dr av tC
     rw [JA] at tC
     cases Th:en i s with
     | none=>
       rw [Th] at tC
       obtain ⟨k,o,k1,k2,k3,k4,k5⟩:=NQ Td hcn hm i (by omega) β s av tC
       have Tj:listed.getD k false=true:=lI.ready L.closed ((kU hB BJ k2 k1).1 Ff (y8 k3 Dr)) hi
       rw [k5]
       exact JU k o s Tj k2 k4 k3
     | some dF=>
     rw [Th] at tC
     obtain rfl:=Option.some.inj tC
     have hc:=LR (mP:=mP) (en:=en) (e:=e) hB L h0 KM hm BJ Ff yp (fun j hj=>lI.ready L.closed hj hi) Dr all.size (Nat.le_refl _)
     rw [Nat.min_eq_right (by omega)] at hc
     exact wE s dF (by rw [hc];exact Th)
    have L':PZ all m (listed.setIfInBounds i true):=by
     refine ⟨by simpa using L.size,fun k hk=>?_,fun k j o hk wX hw=>?_⟩
     ·rw [jL qJ] at hk
      split at hk
      ·omega
      ·exact L.head k hk
     ·rw [jL qJ] at hk
      rw [jL qJ]
      split
      ·rfl
      ·split at hk
       ·rename_i YE
        subst YE
        obtain rfl:all[k]=o:=by rw [BJ] at wX;exact Option.some.inj wX
        exact uG BJ hi hw
       ·exact L.closed k j o hk wX hw
    have H4:(listed.setIfInBounds i true).toList.count true+fuel=all.size:=by
     have Nx:listed[i]=false:=by simpa [qJ] using yp
     have:(listed.setIfInBounds i true).toList=listed.toList.set i true:=by simp
     rw [this,List.count_set (by simpa using qJ)]
     have Qk:listed.toList[i]'(by simpa using qJ)=false:=by simpa using Nx
     rw [Qk]
     have e1:(if (false==true)=true then 1 else 0)=0:=rfl
     have e2:(if (true==true)=true then 1 else 0)=1:=rfl
     rw [e1,e2]
     omega
    have VT:∀ T:Heap,(T++(X++rest)++B).Perm ((T++(X++B))++rest):=fun T=>by
     rw [List.append_assoc,List.append_assoc,List.append_assoc,List.append_assoc]
     exact List.Perm.append_left _ (List.Perm.append_left _ List.perm_append_comm)
    have pin:(sP tk listed β++B).Perm ((vr tk i β++(X++B))++rest):=
     (((Te hT yp (fun j hj=>lI.ready L.closed hj hi) β).trans (List.Perm.append_left _ prd)).append_right B).trans (VT _)
    have VU:∀ b,((kZ tk i (pk β i b)++(X++B))++rest).Perm (sP tk (listed.setIfInBounds i true) (pk β i b)++B):=fun b=>
     List.Perm.symm ((((QA hT L.closed qJ yp (fun c h=>Gs c i h) β b).trans (List.Perm.append_left _ prd)).append_right B).trans (VT _))
    have YL:du w S ((vr tk i β++(X++B))++rest):=hr.perm pin
    have Xx:∀ v,(a.put (all[i]).dst v).tmps.size=n:=fun v=>by cases (all[i]).dst<;>simp [Act.put,jH]
    have Xy:∀ v,(a.put (all[i]).dst v).defers=[]:=fun v=>by cases (all[i]).dst<;>simp [Act.put,JP]
    have YM:∀ {w1 w2:World} {S1 S2:Nat→Prop} {h1 h2 Hw MZ:Heap},kT w1 S1 h1 w2 S2 h2→h1.Perm Hw→h2.Perm MZ→kT w1 S1 Hw w2 S2 MZ:=by
     intro w1 w2 S1 S2 h1 h2 Hw MZ ev p1 p2
     have has:∀ {g g':Heap} {k:Nat},g.Perm g'→(Has g k↔Has g' k):=fun p=>
      ⟨fun ⟨x,hx,hb⟩=>⟨x,p.mem_iff.1 hx,hb⟩,fun ⟨x,hx,hb⟩=>⟨x,p.mem_iff.2 hx,hb⟩⟩
     exact ⟨ev.os,ev.tape,ev.output,ev.size,ev.keep,fun k hk hh=>ev.other k hk (fun hc=>hh ((has p1).1 hc)),fun k hk=>((ev.new k ((has p2).2 hk)).imp (has p1).1 id),ev.drawn⟩
    have next:∀ (b:Bk) (v:Value) (w':World) (S':Nat→Prop),kT w S (vr tk i β++(X++B)) w' S' (kZ tk i (pk β i b)++(X++B))→du w' S' (kZ tk i (pk β i b)++(X++B))→At w' S' (V i b) v→wpAny P .any all Q fuel (listed.setIfInBounds i true) (a.put (all[i]).dst v) w':=by
     intro b v w' S' QB US vl
     have RZ:du w' S' ((kZ tk i (pk β i b)++(X++B))++rest):=YL.frame QB US
     have ev2:=QB.frame rest
     refine ih _ _ _ S' (pk β i b) L' H4 (Xx v) (Xy v) (RZ.perm (VU b)) (hg.trans (YM ev2 pin.symm (VU b))) ?_ ?_
     ·intro s av tC
      rw [NM (mP:=mP) (e:=e) hB L BJ Ff yp s all.size (Nat.le_refl _),if_pos (by omega)] at tC
      by_cases hd:(all[i]).dst=some s
      ·rw [hd,l0] at tC
       have VM:=RW s hd
       exact ⟨v,by rw [hd];simp [Act.put,jH,VM],by rw [← hV av tC b];exact vl⟩
      ·rw [jM hd] at tC
       obtain ⟨u,h1,h2⟩:=wE s av tC
       refine ⟨u,?_,h2.mono QB.keep⟩
       cases Gk:(all[i]).dst with
       | none=>simpa [Act.put] using h1
       | some d'=>
         have wF:d'≠s:=fun e=>hd (by rw [Gk,e])
         simp [Act.put,wF,h1]
     ·intro j o d hj ho tC hd
      by_cases XC:j=i
      ·subst XC
       rw [BJ] at ho;obtain rfl:=Option.some.inj ho
       have VM:=RW d hd
       exact ⟨v,by rw [hd];simp [Act.put,jH,VM],by rw [Qz];exact vl⟩
      ·have Ge:listed.getD j false=true:=by rw [jL qJ,if_neg XC] at hj;exact hj
       obtain ⟨u,h1,h2⟩:=JU j o d Ge ho tC hd
       refine ⟨u,?_,by rw [KQ XC];exact h2.mono QB.keep⟩
       cases Gk:(all[i]).dst with
       | none=>simpa [Act.put] using h1
       | some d'=>
         have wF:d'≠d:=fun e=>hU j i o all[i] d (L.head j Ge) Ff XC ho BJ tC hd (by rw [Gk,e])
         simp [Act.put,wF,h1]
    simp only [wpOp,BJ]
    rcases Dt with ⟨hw,YF⟩ | ⟨hw,tC⟩
    ·rw [if_pos (x8 hw A0)]
     exact .inl (YF w S a jH JP (YL.sub (List.sublist_append_left _ _)) A0 _ _ (fun b v w' S' QB US vl=>next b v w' S' QB US vl))
    ·rw [if_neg (by rw [x8 hw A0];simp)]
     obtain ⟨e1,e2⟩:=tC ⟨none,0⟩
     replace e1:kZ tk i (pk β i ⟨none,0⟩)=vr tk i β:=e1
     refine next ⟨none,0⟩ _ w S (by rw [e1];exact kT.refl _ _ _) (by rw [e1];exact YL.sub (List.sublist_append_left _ _)) ?_
     rw [e2];exact .raw _
end order
end Go.Eng
namespace Go.Eng
open Go
variable [bI]
theorem NR {P:Program} {o:Oper} {a:Act} {K0 K:Act→World→Prop} {G:Act→World→Prop} {Q':Exit→Act→World→Prop} (hK:∀ v w',K0 (a.put o.dst v) w'→K (a.put o.dst v) w') (hd:∀ a' w',K0 a' w'→a'.defers=[]):
 ∀ r,o.upon P a K0 (yV G) r→o.upon P a K Q' r:=by
 intro r h
 unfold Oper.upon at *
 split at h
 ·exact hK _ _ h
 ·exact hK _ _ h
 ·rename_i d w'
  have:=hd _ _ h
  cases Ib:o.dst<;>simp [Act.put,Ib] at this
 ·refine Calls.mono h ?_
  intro e w' he
  cases e with
  | returned v=>exact hK _ _ he
  | panicked c=>cases he.1
  | outgrown=>obtain ⟨a0,w0,h0⟩:=he;cases h0.1
 ·exact Rows.mono h fun v w' hv=>hK _ _ hv
 ·cases h.1
 ·exact h.elim
theorem QC {P:Program} {all:Array Oper} {o:Oper} {σ:St} {Q:St→Prop} (hg:o.guard=none) (h:ai P all [o] σ Q) {w:World} {S:Nat→Prop} {a:Act} (r:ef w S σ a) {K:Act→World→Prop} {Q':Exit→Act→World→Prop}
 (hK:∀ v w',Xu w S σ.hp Q (a.put o.dst v) w'→K (a.put o.dst v) w'):o.wp P a w K Q':=by
 have:=h w S a r
 unfold wpList at this
 rw [if_pos (by simp [Region.wanted,hg])] at this
 rcases this with h1 | ⟨_,a0,w0,h0,_⟩
 ·refine NR (G:=Xu w S σ.hp Q) (fun v w' hh=>hK v w' hh.2) (fun a' w' hh=>?_) _ h1
  obtain ⟨_,aL,S',_,hr,_⟩:=hh
  exact hr.defers
 ·cases h0
variable {P:Program} {all:Array Oper} {n:Nat} {B:Heap} {tk:List Tok}
def LX (x:Option AV) (c:(Nat→Bk)→Env) (d:Option Nat) (V:Bk→AV) (i:Nat):(Nat→Bk)→Env:=fun β=>match x with | none=>mV (c β) d (some (V (β i))) | some _=>c β
inductive Sf (P:Program) (all:Array Oper) (n:Nat) (B:Heap) (tk:List Tok) (dy:List Nat):Nat→List Oper→Env→((Nat→Bk)→Env)→List (Option AV×(Bk→AV))→Env→Prop
 | nil (i:Nat) (e:Env) (c:(Nat→Bk)→Env):Sf P all n B tk dy i [] e c [] e
 | cons {i:Nat} {o:Oper} {l:List Oper} {e e':Env} {c:(Nat→Bk)→Env} {D:List (Option AV×(Bk→AV))} {x:Option AV} {V:Bk→AV} (h:∀ β,∀ X∈w4 tk i β,sQ P all n (X++B) o (JA e (c β)) (vr tk i β) V (fun b=>kZ tk i (pk β i b))) (hv:∀ av,x=some av→∀ b,V b=av) (hx:x=none→dy.contains i=true)
  (k:Sf P all n B tk dy (i+1) l (mV e o.dst x) (LX x c o.dst V i) D e'):Sf P all n B tk dy i (o :: l) e c ((x,V) :: D) e'
def zO (β:Nat→Bk):Nat→List Oper→List (Option AV×(Bk→AV))→List (Nat×AV)→List (Nat×AV)
 | i,o :: l,(none,V) :: D,a=>match o.dst with
   | some d=>zO β (i+1) l D ((d,V (β i)) :: a)
   | none=>zO β (i+1) l D a
 | i,_ :: l,(some _,_) :: D,a=>zO β (i+1) l D a
 | _,_,_,a=>a
def AT (P:Program) (all:Array Oper) (n:Nat) (B:Heap) (tk:List Tok) (dy:List Nat) (i:Nat) (l:List Oper) (tm:List (Nat×AV)) (acc:(Nat→Bk)→List (Nat×AV)) (Q:(Nat→Bk)→List (Nat×AV)→Prop):Prop:=
 ∃ D qq,Sf P all n B tk dy i l (lk tm) (fun β=>lk (acc β)) D (lk qq)∧∀ β,Q β (zO β i l D (acc β)++qq)
section rules
variable {dy:List Nat} {i:Nat} {rest:List Oper} {tm:List (Nat×AV)} {acc:(Nat→Bk)→List (Nat×AV)} {Q:(Nat→Bk)→List (Nat×AV)→Prop} {d:Nat} {ty:TypeId} {pos:String} {af:Array Edge} {op:Op}
theorem AT.nil {F:(Nat→Bk)→List (Nat×AV)} (hF:∀ β,F β=acc β++tm) (h:∀ β,Q β (F β)):AT P all n B tk dy i [] tm acc Q:=
 ⟨[],tm,.nil _ _ _,fun β=>by rw [show zO β i [] [] (acc β)=acc β from rfl,← hF];exact h β⟩
theorem AT.sta {o:Oper} {d:Nat} {av:AV} (hd:o.dst=some d) (h:∀ β,∀ X∈w4 tk i β,sQ P all n (X++B) o (JA (lk tm) (lk (acc β))) (vr tk i β) (fun _=>av) (fun b=>kZ tk i (pk β i b))) (k:AT P all n B tk dy (i+1) rest ((d,av) :: tm) acc Q):AT P all n B tk dy i (o :: rest) tm acc Q:=by
 obtain ⟨D,qq,k1,k2⟩:=k
 refine ⟨(some av,fun _=>av) :: D,qq,.cons h (fun dF e b=>Option.some.inj e) (fun e=>by cases e) ?_,k2⟩
 have:mV (lk tm) o.dst (some av)=lk ((d,av) :: tm):=by
  rw [vQ,hd];rfl
 rw [this];exact k1
theorem AT.dyn {o:Oper} {d:Nat} {V:Bk→AV} (hd:o.dst=some d) (xf:lk tm d=none) (Tk:dy.contains i=true) (h:∀ β,∀ X∈w4 tk i β,sQ P all n (X++B) o (JA (lk tm) (lk (acc β))) (vr tk i β) V (fun b=>kZ tk i (pk β i b))) (k:AT P all n B tk dy (i+1) rest tm (fun β=>(d,V (β i)) :: acc β) Q):AT P all n B tk dy i (o :: rest) tm acc Q:=by
 obtain ⟨D,qq,k1,k2⟩:=k
 refine ⟨(none,V) :: D,qq,.cons h (fun dF e b=>by cases e) (fun _=>Tk) ?_,fun β=>?_⟩
 ·have:mV (lk tm) o.dst none=lk tm:=by
   funext s
   rw [hd]
   simp only [mV]
   split
   ·rename_i e;subst e;exact xf.symm
   ·rfl
  rw [this]
  have e2:LX none (fun β=>lk (acc β)) o.dst V i=fun β=>lk ((d,V (β i)) :: acc β):=by
   funext β
   simp only [LX,hd]
   rw [vQ];rfl
  rw [e2];exact k1
 ·have:=k2 β
  simp only [zO,hd]
  exact this
theorem AT.sto {o:Oper} (hd:o.dst=none) (h:∀ β,∀ X∈w4 tk i β,sQ P all n (X++B) o (JA (lk tm) (lk (acc β))) (vr tk i β) (fun _=>.raw undef) (fun b=>kZ tk i (pk β i b))) (k:AT P all n B tk dy (i+1) rest tm acc Q):AT P all n B tk dy i (o :: rest) tm acc Q:=by
 obtain ⟨D,qq,k1,k2⟩:=k
 refine ⟨(some (.raw undef),fun _=>.raw undef) :: D,qq,.cons h (fun dF e b=>Option.some.inj e) (fun e=>by cases e) ?_,k2⟩
 rw [hd];exact k1
def u7 (tk:List Tok) (i j:Nat):Bool:=tk.all fun t=>(match t.prod with | some p=>Nat.blt p i||Nat.ble j p | none=>true)&&(match t.cons with | some p=>Nat.blt p i||Nat.ble j p | none=>true)&&((t.YJ.all fun p=>Nat.blt p i||Nat.ble j p)&&t.sft.all fun p=>Nat.blt p i||Nat.ble j p)
theorem Ic {i j:Nat} (h:u7 tk i j=true) {k:Nat} (h1:i≤k) (h2:k < j) (β:Nat→Bk):vr tk k β=[]:=by
 unfold vr
 rw [List.map_eq_nil_iff,List.filter_eq_nil_iff]
 intro t ht hc
 have:=List.all_eq_true.1 h t ht
 rw [Bool.and_eq_true,Bool.and_eq_true] at this
 replace this:=this.1
 unfold Cm at hc
 split at hc
 ·rename_i c LU
  obtain rfl:c=k:=Nat.eq_of_beq_eq_true hc
  have:=this.2
  rw [LU] at this
  simp at this;omega
 ·cases hc
theorem Fj {i j:Nat} (h:u7 tk i j=true) {k:Nat} (h1:i≤k) (h2:k < j) (β:Nat→Bk):kZ tk k β=[]:=by
 unfold kZ
 rw [List.map_eq_nil_iff,List.filter_eq_nil_iff]
 intro t ht hc
 have:=List.all_eq_true.1 h t ht
 rw [Bool.and_eq_true,Bool.and_eq_true] at this
 replace this:=this.1
 unfold Qy at hc
 split at hc
 ·rename_i c LU
  obtain rfl:c=k:=Nat.eq_of_beq_eq_true hc
  have:=this.1
  rw [LU] at this
  simp at this;omega
 ·cases hc
theorem NS {i j:Nat} (h:u7 tk i j=true) {k:Nat} (h1:i≤k) (h2:k < j) (β:Nat→Bk):zN tk k β=[]:=by
 unfold zN
 rw [List.map_eq_nil_iff,List.filter_eq_nil_iff]
 intro t ht hc
 have:=List.all_eq_true.1 h t ht
 rw [Bool.and_eq_true] at this
 have h3:=List.all_eq_true.1 (Bool.and_eq_true_iff.1 this.2).1 k (by simpa [KP] using hc)
 simp at h3;omega
theorem Fk {i j:Nat} (h:u7 tk i j=true) {k:Nat} (h1:i≤k) (h2:k < j) (β:Nat→Bk):w4 tk k β=[[]]:=by
 have e:tk.filter (PX k)=[]:=by
  rw [List.filter_eq_nil_iff]
  intro t ht hc
  have:=List.all_eq_true.1 h t ht
  rw [Bool.and_eq_true] at this
  have h3:=List.all_eq_true.1 (Bool.and_eq_true_iff.1 this.2).2 k (by simpa [PX] using hc)
  simp at h3;omega
 unfold w4
 rw [e,NS h h1 h2 β]
theorem DD (e:Env) (d:Option Nat) (av:AV):mV e d (some av)=yo e d av:=by
 cases d<;>rfl
theorem Ie {o:Oper} {e:Env} {av:AV} (hd:∀ d,o.dst=some d→d < n) (hg:oY all o e true) (h:MV P all n o e B av):sQ P all n B o e [] (fun _=>av) (fun _=>[]):=by
 refine ⟨hd,.inl ⟨hg,fun w S a h1 h2 h3 h4 K Q hK=>?_⟩⟩
 exact h w S a h1 h2 h3 h4 K Q (fun v w' S' Ny vl=>hK ⟨none,0⟩ v w' S' (Ny.evo h3.slt _) (h3.grow Ny) vl)
theorem VV:∀ {l1:List Oper} {e e':Env} {i:Nat} (h:Qr P all n B l1 e e') (hn:u7 tk i (i+l1.length)=true) {l2:List Oper} {c:(Nat→Bk)→Env} {D:List (Option AV×(Bk→AV))} {e2:Env},Sf P all n B tk dy (i+l1.length) l2 e' c D e2→
 ∃ D1,Sf P all n B tk dy i (l1++l2) e c (D1++D) e2∧D1.length=l1.length∧∀ x∈D1,x.1.isSome=true:=by
 intro l1 e e' i h
 induction h generalizing i with
 | nil e=>intro hn l2 c D e2 k;exact ⟨[],by simpa using k,rfl,by simp⟩
 | @run o l e e' av hg hm hd k ih=>
   intro hn l2 c D e2 kk
   have VW:u7 tk (i+1) (i+1+l.length)=true:=by
    unfold u7 at hn ⊢
    rw [List.all_eq_true] at hn ⊢
    intro t ht
    have:=hn t ht
    rw [Bool.and_eq_true,Bool.and_eq_true] at this ⊢
    refine ⟨⟨?_,?_⟩,?_⟩
    ·have h1:=this.1.1
     cases hp:t.prod<;>rw [hp] at h1<;>simp_all<;>omega
    ·have h1:=this.1.2
     cases hp:t.cons<;>rw [hp] at h1<;>simp_all<;>omega
    ·have h1:=this.2
     rw [Bool.and_eq_true,List.all_eq_true,List.all_eq_true] at h1 ⊢
     exact ⟨fun p hp=>by have:=h1.1 p hp;simp at this ⊢;omega,fun p hp=>by have:=h1.2 p hp;simp at this ⊢;omega⟩
   obtain ⟨D1,a1,a2,a3⟩:=ih VW (l2:=l2) (D:=D) (e2:=e2) (by rw [show i+1+l.length=i+(o :: l).length by simp;omega];exact kk)
   refine ⟨(some av,fun _=>av) :: D1,?_,by simp [a2],?_⟩
   ·refine .cons (fun β X hX=>?_) (fun dF e b=>Option.some.inj e) (fun e=>by cases e) (by rw [DD];exact a1)
    rw [Fk hn (Nat.le_refl _) (by simp)] at hX
    obtain rfl:=List.mem_singleton.1 hX
    rw [Ic hn (Nat.le_refl _) (by simp),show (fun b=>kZ tk i (pk β i b))=fun _=>[] from funext fun b=>Fj hn (Nat.le_refl _) (by simp) _]
    exact (Ie hd hg hm).up
   ·intro x hx
    rcases List.mem_cons.1 hx with rfl | hx
    ·rfl
    ·exact a3 x hx
 | @pass o l e e' hg hd k ih=>
   intro hn l2 c D e2 kk
   have VW:u7 tk (i+1) (i+1+l.length)=true:=by
    unfold u7 at hn ⊢
    rw [List.all_eq_true] at hn ⊢
    intro t ht
    have:=hn t ht
    rw [Bool.and_eq_true,Bool.and_eq_true] at this ⊢
    refine ⟨⟨?_,?_⟩,?_⟩
    ·have h1:=this.1.1
     cases hp:t.prod<;>rw [hp] at h1<;>simp_all<;>omega
    ·have h1:=this.1.2
     cases hp:t.cons<;>rw [hp] at h1<;>simp_all<;>omega
    ·have h1:=this.2
     rw [Bool.and_eq_true,List.all_eq_true,List.all_eq_true] at h1 ⊢
     exact ⟨fun p hp=>by have:=h1.1 p hp;simp at this ⊢;omega,fun p hp=>by have:=h1.2 p hp;simp at this ⊢;omega⟩
   obtain ⟨D1,a1,a2,a3⟩:=ih VW (l2:=l2) (D:=D) (e2:=e2) (by rw [show i+1+l.length=i+(o :: l).length by simp;omega];exact kk)
   refine ⟨(some (.raw undef),fun _=>.raw undef) :: D1,?_,by simp [a2],?_⟩
   ·refine .cons (fun β X hX=>?_) (fun dF e b=>Option.some.inj e) (fun e=>by cases e) (by rw [DD];exact a1)
    rw [Fk hn (Nat.le_refl _) (by simp)] at hX
    obtain rfl:=List.mem_singleton.1 hX
    rw [Ic hn (Nat.le_refl _) (by simp),show (fun b=>kZ tk i (pk β i b))=fun _=>[] from funext fun b=>Fj hn (Nat.le_refl _) (by simp) _]
    exact ⟨hd,.inr ⟨hg.up,fun b=>⟨rfl,rfl⟩⟩⟩
   ·intro x hx
    rcases List.mem_cons.1 hx with rfl | hx
    ·rfl
    ·exact a3 x hx
theorem Fl (β:Nat→Bk):∀ {l1:List Oper} {D1:List (Option AV×(Bk→AV))} (i:Nat) {l2:List Oper} {D:List (Option AV×(Bk→AV))} (a:List (Nat×AV)),D1.length=l1.length→(∀ x∈D1,x.1.isSome=true)→zO β i (l1++l2) (D1++D) a=zO β (i+l1.length) l2 D a
 | [],[],i,l2,D,a,_,_=>by simp
 | o :: l1,(some av,V) :: D1,i,l2,D,a,h,hs=>by
   simp only [List.cons_append,zO]
   rw [Fl β (i+1) a (by simpa using h) (fun x hx=>hs x (by simp [hx]))]
   simp [Nat.add_assoc,Nat.add_comm 1]
 | o :: l1,(none,V) :: D1,i,l2,D,a,h,hs=>by have:=hs (none,V) (by simp);cases this
 | [],_ :: _,i,l2,D,a,h,hs=>by cases h
 | _ :: _,[],i,l2,D,a,h,hs=>by cases h
theorem AT.am {l l1 l2:List Oper} (m:Nat) (hs:H5 m l=some (l1,l2)) (hn:u7 tk i (i+m)=true) (h:AM P all n B l1 tm (fun qq=>AT P all n B tk dy (i+m) l2 qq acc Q)):AT P all n B tk dy i l tm acc Q:=by
 obtain ⟨rfl,rfl⟩:=x9 hs
 obtain ⟨Cn,h1,D,qq,h2,h3⟩:=h
 obtain ⟨D1,a1,a2,a3⟩:=VV h1 hn h2
 refine ⟨D1++D,qq,a1,fun β=>?_⟩
 rw [Fl β i (acc β) a2 a3]
 exact h3 β
theorem ya {o:Oper} {Ti H1:Heap} {V:Bk→AV} {Pi H2:Bk→Heap} (hg:o.guard=none) (hd:∀ d,o.dst=some d→d < n) (h1:uC Ti B=some H1) (h2:∀ b,uC (Pi b) B=some (H2 b))
 (xe:ai P all [o] ⟨n,Hy (looks all o) tm,H1⟩ (fun aL=>∃ b Cn,aL=⟨n,Cn,H2 b⟩∧∀ d,o.dst=some d→lk Cn d=some (V b)))
 (hv:o.dst=none→∀ b,V b=.raw undef):sQ P all n B o (lk tm) Ti V Pi:=by
 refine ⟨hd,.inl ⟨by simp [oY,hg],fun w S a s1 s2 s3 s4 K Q hK=>?_⟩⟩
 have e1:=pJ h1
 rw [e1] at s3 hK
 refine QC hg xe (qK s1 s2 s3 s4) (fun v w' YN=>?_)
 obtain ⟨aL,S',⟨b,Cn,rfl,QD⟩,hr,QB⟩:=YN
 have e2:=pJ (h2 b)
 cases Ib:o.dst with
 | some d=>
   have RW:=hd d Ib
   obtain ⟨u,g1,g2⟩:=hr.tm d _ (QD d Ib)
   have hu:u=v:=by
    rw [Ib] at g1
    simp [Act.put,s1,RW] at g1
    exact g1.symm
   rw [hu] at g2
   rw [← Ib]
   exact hK b v w' S' (by rw [e2];exact QB) (by rw [e2];exact hr.hp) g2
 | none=>
   have:a.put none v=a.put o.dst undef:=by rw [Ib];rfl
   rw [this]
   exact hK b undef w' S' (by rw [e2];exact QB) (by rw [e2];exact hr.hp) (by rw [hv Ib b];exact .raw _)
theorem AT.LY {av:AV} {Ti H1 Pi H2:Heap} (Nw:∀ β,w4 tk i β=[[]]) (QE:∀ β,vr tk i β=Ti) (QF:∀ β,kZ tk i β=Pi) (h1:uC Ti B=some H1) (h2:uC Pi B=some H2) (hn:Nat.blt d n=true)
 (xe:ai P all [⟨some d,op,ty,pos,af,none⟩] ⟨n,Hy (looks all ⟨some d,op,ty,pos,af,none⟩) tm,H1⟩ (fun aL=>∃ Cn,aL=⟨n,Cn,H2⟩∧lk Cn d=some av))
 (k:AT P all n B tk dy (i+1) rest ((d,av) :: tm) acc Q):AT P all n B tk dy i (⟨some d,op,ty,pos,af,none⟩ :: rest) tm acc Q:=by
 refine AT.sta rfl (fun β X hX=>?_) k
 rw [Nw β] at hX
 obtain rfl:=List.mem_singleton.1 hX
 rw [List.nil_append,QE β,show (fun b=>kZ tk i (pk β i b))=fun _=>Pi from funext fun b=>QF _]
 refine sQ.up ?_
 refine ya rfl (fun d' BL=>by obtain rfl:=Option.some.inj BL;simpa using hn) h1 (fun _=>h2) ?_ (fun e=>by cases e)
 refine fun w S a r=>jy ?_ _ _ _ (xe w S a r)
 rintro e a' w' ⟨he,aL,S',⟨Cn,q1,q2⟩,hh⟩
 exact ⟨he,aL,S',⟨⟨none,0⟩,Cn,q1,fun d' BL=>by obtain rfl:=Option.some.inj BL;exact q2⟩,hh⟩
theorem AT.yq {V:Bk→AV} {Ti H1:Heap} {Pi H2:Bk→Heap} (Nw:∀ β,w4 tk i β=[[]]) (QE:∀ β,vr tk i β=Ti) (QF:∀ β b,kZ tk i (pk β i b)=Pi b) (h1:uC Ti B=some H1) (h2:∀ b,uC (Pi b) B=some (H2 b)) (hn:Nat.blt d n=true) (xf:lk tm d=none) (Tk:dy.contains i=true)
 (xe:ai P all [⟨some d,op,ty,pos,af,none⟩] ⟨n,Hy (looks all ⟨some d,op,ty,pos,af,none⟩) tm,H1⟩ (fun aL=>∃ b Cn,aL=⟨n,Cn,H2 b⟩∧lk Cn d=some (V b)))
 (k:AT P all n B tk dy (i+1) rest tm (fun β=>(d,V (β i)) :: acc β) Q):AT P all n B tk dy i (⟨some d,op,ty,pos,af,none⟩ :: rest) tm acc Q:=by
 refine AT.dyn rfl xf Tk (fun β X hX=>?_) k
 rw [Nw β] at hX
 obtain rfl:=List.mem_singleton.1 hX
 rw [List.nil_append,QE β,show (fun b=>kZ tk i (pk β i b))=Pi from funext (QF β)]
 refine sQ.up ?_
 refine ya rfl (fun d' BL=>by obtain rfl:=Option.some.inj BL;simpa using hn) h1 h2 ?_ (fun e=>by cases e)
 refine fun w S a r=>jy ?_ _ _ _ (xe w S a r)
 rintro e a' w' ⟨he,aL,S',⟨b,Cn,q1,q2⟩,hh⟩
 exact ⟨he,aL,S',⟨b,Cn,q1,fun d' BL=>by obtain rfl:=Option.some.inj BL;exact q2⟩,hh⟩
theorem AT.Gt {Ti H1 Pi H2:Heap} (Nw:∀ β,w4 tk i β=[[]]) (QE:∀ β,vr tk i β=Ti) (QF:∀ β,kZ tk i β=Pi) (h1:uC Ti B=some H1) (h2:uC Pi B=some H2)
 (xe:ai P all [⟨none,op,ty,pos,af,none⟩] ⟨n,Hy (looks all ⟨none,op,ty,pos,af,none⟩) tm,H1⟩ (fun aL=>∃ Cn,aL=⟨n,Cn,H2⟩))
 (k:AT P all n B tk dy (i+1) rest tm acc Q):AT P all n B tk dy i (⟨none,op,ty,pos,af,none⟩ :: rest) tm acc Q:=by
 refine AT.sto rfl (fun β X hX=>?_) k
 rw [Nw β] at hX
 obtain rfl:=List.mem_singleton.1 hX
 rw [List.nil_append,QE β,show (fun b=>kZ tk i (pk β i b))=fun _=>Pi from funext fun b=>QF _]
 refine sQ.up ?_
 refine ya rfl (fun d' BL=>by cases BL) h1 (fun _=>h2) ?_ (fun _ b=>rfl)
 refine fun w S a r=>jy ?_ _ _ _ (xe w S a r)
 rintro e a' w' ⟨he,aL,S',⟨Cn,q1⟩,hh⟩
 exact ⟨he,aL,S',⟨⟨none,0⟩,Cn,q1,fun d' BL=>by cases BL⟩,hh⟩
theorem LZ (a b:List (Nat×AV)):lk (a++b)=JA (lk a) (lk b):=by
 funext s
 induction a with
 | nil=>rfl
 | cons x a ih=>
   obtain ⟨k,v⟩:=x
   simp only [List.cons_append,lk,JA] at ih ⊢
   split
   ·rfl
   ·exact ih
theorem AT.rd {av:AV} {Rs H1:Heap} (hr:∀ β,w4 tk i β=[Rs]) (h1:uC Rs B=some H1) (QE:∀ β,vr tk i β=[]) (QF:∀ β,kZ tk i β=[])
 (q:QV P ⟨some d,op,ty,pos,af,none⟩ ⟨n,Hy (looks all ⟨some d,op,ty,pos,af,none⟩) tm,H1⟩ av) (hn:Nat.blt d n=true)
 (k:AT P all n B tk dy (i+1) rest ((d,av) :: tm) acc Q):AT P all n B tk dy i (⟨some d,op,ty,pos,af,none⟩ :: rest) tm acc Q:=by
 refine AT.sta rfl (fun β X hX=>?_) k
 rw [hr β] at hX
 obtain rfl:=List.mem_singleton.1 hX
 rw [pJ h1,QE β,show (fun b=>kZ tk i (pk β i b))=fun _=>[] from funext fun b=>QF _]
 refine sQ.up ?_
 refine Ie (fun d' BL=>by obtain rfl:=Option.some.inj BL;simpa using hn) rfl (fun w S a s1 s2 s3 s4 K Q' hK=>?_)
 obtain ⟨v,g1,g2⟩:=q w S a (qK s1 s2 s3 s4)
 show Oper.upon P _ a K Q' _
 rw [g1 w (Ext.refl w)]
 exact hK v w S (Grow.refl s3.slt) g2
end rules
end Go.Eng
namespace Go.Eng
open Go
variable [bI]
theorem Sf.JO {P:Program} {all:Array Oper} {n:Nat} {B:Heap} {tk:List Tok} {dy:List Nat} {i:Nat} {l:List Oper} {e e':Env} {c:(Nat→Bk)→Env} {D:List (Option AV×(Bk→AV))} (h:Sf P all n B tk dy i l e c D e'):
 ∃ (en:Nat→Env) (cn:Nat→(Nat→Bk)→Env),en i=e∧cn i=c∧en (i+l.length)=e'∧D.length=l.length∧∀ j o x V,l[j]? =some o→D[j]? =some (x,V)→
   (∀ β,∀ X∈w4 tk (i+j) β,sQ P all n (X++B) o (JA (en (i+j)) (cn (i+j) β)) (vr tk (i+j) β) V (fun b=>kZ tk (i+j) (pk β (i+j) b)))∧en (i+j+1)=mV (en (i+j)) o.dst x∧(∀ av,x=some av→∀ b,V b=av)∧(x=none→dy.contains (i+j)=true)∧cn (i+j+1)=LX x (cn (i+j)) o.dst V (i+j):=by
 induction h with
 | nil i e c=>exact ⟨fun _=>e,fun _=>c,rfl,rfl,rfl,rfl,fun j o x V h=>by simp at h⟩
 | @cons i o l e e' c D x V h hv hx k ih=>
   obtain ⟨en,cn,h0,Td,h1,h2,h3⟩:=ih
   refine ⟨fun k=>if k=i then e else en k,fun k=>if k=i then c else cn k,by simp,by simp,?_,by simp [h2],fun j o' x' V' ho hD=>?_⟩
   ·show (if i+(o :: l).length=i then e else en (i+(o :: l).length))=e'
    rw [if_neg (by simp),← h1]
    congr 1
    simp;omega
   ·match j with
    | 0=>
      simp at ho hD
      obtain ⟨rfl,rfl⟩:=hD
      subst ho
      simp only [Nat.add_zero,if_true]
      refine ⟨h,?_,hv,hx,?_⟩
      ·rw [if_neg (by omega),h0]
      ·rw [if_neg (by omega),Td]
    | j+1=>
      have:=h3 j o' x' V' (by simpa using ho) (by simpa using hD)
      rw [show i+1+j=i+(j+1) by omega] at this
      simp only
      rw [if_neg (show ¬ i+(j+1)=i by omega),if_neg (show ¬ i+(j+1)+1=i by omega),if_neg (show ¬ i+(j+1)=i by omega),if_neg (show ¬ i+(j+1)+1=i by omega)]
      exact this
def Sg (l:List Oper) (dy:List Nat):Bool:=dy.all fun i=>(List.range l.length).all fun j=>Nat.beq i j||(match l[i]?,l[j]? with
 | some oi,some oj=>(match oi.dst,oj.dst with | some d,some d'=>!Nat.beq d d' | _,_=>true)
 | _,_=>true)
theorem JV {l:List Oper} {dy:List Nat} (h:Sg l dy=true) {i j:Nat} {oi oj:Oper} {d:Nat} (hi:dy.contains i=true) (BI:i≠j) (h1:l[i]? =some oi) (h2:l[j]? =some oj) (hd:oi.dst=some d):oj.dst≠some d:=by
 intro BL
 have hm:i∈dy:=by simpa using hi
 have hj:j < l.length:=(List.getElem?_eq_some_iff.1 h2).1
 have:=List.all_eq_true.1 (List.all_eq_true.1 h i hm) j (List.mem_range.2 hj)
 rw [h1,h2] at this
 simp only [hd,BL] at this
 have hb:Nat.beq i j=false:=qW BI
 rw [hb] at this
 simp at this
def NT (tk:List Tok):Heap:=(tk.filter (fun t=>t.prod.isNone)).map (fun t=>t.at (fun _=>⟨none,0⟩))
theorem NU:∀ (a b:List (Nat×AV)) (s:Nat) (av:AV),lk (a++b) s=some av→lk a s=some av∨lk b s=some av
 | [],b,s,av,h=>.inr h
 | (k,v) :: a,b,s,av,h=>by
   simp only [List.cons_append,lk] at h ⊢
   split at h
   ·exact .inl h
   ·exact NU a b s av h
theorem zP (β:Nat→Bk):∀ (l:List Oper) (D:List (Option AV×(Bk→AV))) (i:Nat) (a:List (Nat×AV)) (s:Nat) (av:AV),lk (zO β i l D a) s=some av→lk a s=some av∨∃ (j:Nat) (o:Oper) (V:Bk→AV),l[j]? =some o∧D[j]? =some (none,V)∧o.dst=some s∧av=V (β (i+j))
 | [],D,i,a,s,av,h=>by
   have:zO β i [] D a=a:=by cases D<;>rfl
   rw [this] at h;exact .inl h
 | o :: l,[],i,a,s,av,h=>.inl h
 | o :: l,(some x,V) :: D,i,a,s,av,h=>by
   simp only [zO] at h
   rcases zP β l D (i+1) a s av h with h | ⟨j,o',V',h1,h2,h3,h4⟩
   ·exact .inl h
   ·exact .inr ⟨j+1,o',V',by simpa using h1,by simpa using h2,h3,by rw [h4];congr 2;omega⟩
 | o :: l,(none,V) :: D,i,a,s,av,h=>by
   simp only [zO] at h
   cases hd:o.dst with
   | none=>
     rw [hd] at h
     rcases zP β l D (i+1) a s av h with h | ⟨j,o',V',h1,h2,h3,h4⟩
     ·exact .inl h
     ·exact .inr ⟨j+1,o',V',by simpa using h1,by simpa using h2,h3,by rw [h4];congr 2;omega⟩
   | some d=>
     rw [hd] at h
     rcases zP β l D (i+1) _ s av h with h5 | ⟨j,o',V',h1,h2,h3,h4⟩
     ·simp only [lk] at h5
      split at h5
      ·rename_i hb
       obtain rfl:d=s:=by simpa using hb
       exact .inr ⟨0,o,V,rfl,rfl,hd,by simpa using (Option.some.inj h5).symm⟩
      ·exact .inl h5
     ·exact .inr ⟨j+1,o',V',by simpa using h1,by simpa using h2,h3,by rw [h4];congr 2;omega⟩
theorem ab.gj {P:Program} {R:St→Prop} {k:List It} {id n:Nat} {tm:List (Nat×AV)} {hp:Heap} {l hd tl:List Oper} (m:Nat) (hm:P.follows .mixedOrders=true) (hs:H5 m l=some (hd,tl)) {A:List Nat} (hA:LK l.toArray=A) (VN:HZ l.toArray m A=true)
 (tk:List Tok) (dy:List Nat) (hT0:(VR A m tk&&Se A m tk)=true) (hU0:Sg hd dy=true) {B H0:Heap} (yX:NT tk=H0) (YO:KN hp H0 B) {HH:(Nat→Bk)→Heap} (YP:∀ β,uC (NN tk β) B=some (HH β))
 (h:AT P l.toArray n B tk dy 0 hd tm (fun _=>[]) (fun β qq=>ai P l.toArray tl ⟨n,qq,HH β⟩ (ab P R k))):ab P R (.code (.region id l.toArray true) :: k) ⟨n,tm,hp⟩:=by
 have hB:wI l.toArray m:=⟨A,hA,VN⟩
 have hT:DC l.toArray m tk:=LS hA (Bool.and_eq_true_iff.1 hT0).1
 intro w S a r
 obtain ⟨hl,Qv⟩:=x9 hs
 obtain ⟨D,qq,hAf,xe⟩:=h
 obtain ⟨en,cn,e0,ec0,e1,e2,e3⟩:=hAf.JO
 rw [Nat.zero_add,Qv] at e1
 have jH:m≤l.toArray.size:=by simp [hl,Qv]
 let mP:Nat→Option AV:=fun j=>(D[j]?).bind (·.1)
 let V:Nat→Bk→AV:=fun j=>match D[j]? with | some x=>x.2 | none=>fun _=>.nil
 have JW:∀ j o,j < m→l.toArray[j]? =some o→hd[j]? =some o:=by
  intro j o hj ho
  have:l[j]? =some o:=by simpa using ho
  rw [hl,List.getElem?_append_left (by omega)] at this
  exact this
 have hD:∀ j,j < m→∃ x W,D[j]? =some (x,W)∧mP j=x∧V j=W:=by
  intro j hj
  have:j < D.length:=by rw [e2,Qv];exact hj
  refine ⟨D[j].1,D[j].2,by simp [this],?_,?_⟩
  ·simp [mP,this]
  ·simp [V,this]
 refine wp_region_any hm ?_
 have Du:Ext w {w with drawn:=w.drawn+1}:=Ext.HL w _ (Nat.le_succ _)
 let XD:Nat→Bk:=fun _=>⟨none,0⟩
 have hf:∀ k,(Array.replicate l.toArray.size false).getD k false=false:=by
  intro k
  rcases Nat.lt_or_ge k l.toArray.size with h | h
  ·simp at h;simp [h]
  ·simp at h;simp [Nat.not_lt.2 h]
 have Td:∀ k,wZ l.toArray mP (lk tm) (Array.replicate l.toArray.size false) k=lk tm:=by
  intro k
  induction k with
  | zero=>rfl
  | succ k ih=>simp only [wZ,ih];rw [if_neg (by rw [hf k];simp)]
 have UP:sP tk (Array.replicate l.toArray.size false) XD=H0:=by
  rw [← yX]
  unfold sP NT
  have e:tk.filter (zb (Array.replicate l.toArray.size false))=tk.filter (fun t=>t.prod.isNone):=by
   apply List.filter_congr
   intro t ht
   unfold zb
   cases t.prod with
   | none=>
     cases t.cons with
     | none=>rfl
     | some c=>simp only [hf c,Bool.not_false,Bool.and_self,Option.isNone]
   | some p=>simp only [hf p,Bool.false_and,Option.isNone]
  rw [e]
 have nP:=YO.perm
 have hr0:du {w with drawn:=w.drawn+1} S (sP tk (Array.replicate l.toArray.size false) XD++B):=by
  rw [UP];exact (r.hp.ext Du).perm nP
 have ev0:kT w S hp {w with drawn:=w.drawn+1} S (sP tk (Array.replicate l.toArray.size false) XD++B):=by
  rw [UP]
  have:=kT.ext (h:=hp) r.hp.slt Du
  exact {this with new:=fun k hk=>this.new k (by
   obtain ⟨x,hx,hb⟩:=hk
   exact ⟨x,nP.mem_iff.2 hx,hb⟩)}
 refine LW (P:=P) (all:=l.toArray) (n:=n) (m:=m) (mP:=mP) (en:=en) (cn:=cn) (e:=lk tm) (V:=V) (B:=B) (tk:=tk) hB hT (JT hA (Bool.and_eq_true_iff.1 hT0).2) jH e0 (fun β s=>by rw [ec0];rfl) ?_ ?_ ?_ (w0:=w) (S0:=S) (Tg:=hp) ?_ l.toArray.size (Array.replicate l.toArray.size false) a _ S XD
  ⟨by simp,(fun k hk=>by rw [hf k] at hk;cases hk),(fun k i o hk=>by rw [hf k] at hk;cases hk)⟩ (by simp [List.count_replicate]) r.size r.defers hr0 ev0 (by rw [Td];exact (r.ext Du).tm) (fun j o d hj=>by rw [hf j] at hj;cases hj)
 ·intro i o hi ho β
  obtain ⟨x,W,d1,d2,d3⟩:=hD i hi
  have:=e3 i o x W (JW i o hi ho) d1
  rw [Nat.zero_add] at this
  rw [d2,d3,this.2.2.2.2];rfl
 ·intro i o hi ho
  obtain ⟨x,W,d1,d2,d3⟩:=hD i hi
  have:=e3 i o x W (JW i o hi ho) d1
  rw [Nat.zero_add] at this
  rw [d2,d3]
  exact ⟨this.1,this.2.1,this.2.2.1⟩
 ·intro i j oi oj d hi hj BI BJ PY tC Gk
  obtain ⟨x,W,d1,d2,d3⟩:=hD i hi
  have:=e3 i oi x W (JW i oi hi BJ) d1
  rw [Nat.zero_add] at this
  exact JV hU0 (this.2.2.2.1 (by rw [← d2];exact tC)) BI (JW i oi hi BJ) (JW j oj hj PY) Gk
 ·intro β a' w' S' h1 h2 h3 h4 h5 h6
  have YG:l.toArray.toList.drop m=tl:=by
   simp only [hl,← Qv]
   exact List.drop_left
  rw [YG]
  rw [pJ (YP β)] at h3 h4
  rw [e1] at h5
  refine jy ?_ _ _ _ ((xe β).go (h:=hp) (w:=w) (S:=S) ⟨h1,h2,fun s av QD=>?_,h3⟩ h4)
  ·rintro ex a2 w2 ⟨rfl,KE,S2,q1,q2,q3⟩
   exact ⟨KE,S2,q1,q2,q3⟩
  ·rcases NU _ _ _ _ QD with QD | QD
   ·rcases zP β hd D 0 [] s av QD with QD | ⟨j,o,W,g1,g2,g3,g4⟩
    ·cases QD
    ·have hj:j < m:=by rw [← Qv];exact (List.getElem?_eq_some_iff.1 g1).1
     obtain ⟨x,W',d1,d2,d3⟩:=hD j hj
     rw [g2] at d1
     obtain ⟨rfl,rfl⟩:=Prod.mk.inj (Option.some.inj d1)
     have PY:l.toArray[j]? =some o:=by
      have:l[j]? =some o:=by rw [hl,List.getElem?_append_left (by omega)];exact g1
      simpa using this
     obtain ⟨v,k1,k2⟩:=h6 j o s hj PY d2 g3
     rw [d3] at k2
     rw [g4,Nat.zero_add]
     exact ⟨v,k1,k2⟩
   ·exact h5 s av QD
def NV {α:Type}:List α→List α→Option (List α)
 | [],r=>some r
 | x :: l,r=>match NV l r with
   | some m=>some (x :: m)
   | none=>none
theorem KR {α:Type}:∀ {l r m:List α},NV l r=some m→l++r=m
 | [],r,m,h=>by simpa [NV] using h
 | x :: l,r,m,h=>by
   simp only [NV] at h
   split at h
   ·rename_i m' hm
    obtain rfl:=Option.some.inj h
    rw [List.cons_append,KR hm]
   ·cases h
theorem AT.sY {P:Program} {all:Array Oper} {n:Nat} {B:Heap} {tk:List Tok} {dy:List Nat} {i:Nat} {tm:List (Nat×AV)} {acc F:(Nat→Bk)→List (Nat×AV)} {Q:(Nat→Bk)→List (Nat×AV)→Prop} (hF:∀ β,NV (acc β) tm=some (F β)) (h:∀ β,Q β (F β)):AT P all n B tk dy i [] tm acc Q:=
 AT.nil (fun β=>(KR (hF β)).symm) h
theorem L0 {w:World} {S:Nat→Prop} {hp dG:Heap} {b:Bk} {cs pC:List AV} (r:du w S hp) (u:pB hp b (.cells cs) b (.cells pC) dG) (hl:pC.length=cs.length) (h1:∀ c∈pC,c.one=true) (vl:∀ (i:Nat) c c' v,cs[i]? =some c→pC[i]? =some c'→At w S c v→At w S c' v):du w S dG∧kT w S hp w S dG:=by
 obtain ⟨pre,post,e1,e2⟩:=u.split
 subst e1;subst e2
 have hblk:∀ n,Has (pre++(b,Ob.cells pC) :: post) n↔Has (pre++(b,Ob.cells cs) :: post) n:=by
  intro n
  constructor<;>rintro ⟨x,hx,hb⟩<;>rcases bG.1 hx with rfl | hx
  ·exact ⟨(b,.cells cs),bG.2 (.inl rfl),hb⟩
  ·exact ⟨x,bG.2 (.inr hx),hb⟩
  ·exact ⟨(b,.cells pC),bG.2 (.inl rfl),hb⟩
  ·exact ⟨x,bG.2 (.inr hx),hb⟩
 refine ⟨⟨?_,?_,?_,r.slt,r.jC⟩,⟨rfl,rfl,rfl,Nat.le_refl _,fun n hn=>⟨hn,rfl⟩,fun n _ _=>⟨rfl,id⟩,fun n hn=>.inl ((hblk n).1 hn),fun _=>Nat.le_refl _⟩⟩
 ·have:=r.nodup
  simpa [List.flatMap_append,List.flatMap_cons,eb,Ob.more] using this
 ·intro x hx
  rcases bG.1 hx with rfl | hx
  ·obtain ⟨h0,n,vs,E,g1,g2,g3,g4⟩:=r.holds (b,.cells cs) (bG.2 (.inl rfl))
   refine ⟨h1,n,vs,E,g1,g2,by rw [hl];exact g3,fun i c v hc hv=>?_⟩
   have hi:i < cs.length:=by rw [← hl];exact (List.getElem?_eq_some_iff.1 hc).1
   have P0:cs[i]? =some cs[i]:=by simp [hi]
   exact vl i cs[i] c v P0 hc (g4 i _ v P0 hv)
  ·exact r.holds x (bG.2 (.inr hx))
 ·intro x hx n hn
  rcases bG.1 hx with rfl | hx
  ·have:=r.sep (b,.cells cs) (bG.2 (.inl rfl)) n hn
   exact ⟨fun h=>(this.1 h).elim,fun h=>h.elim⟩
  ·exact r.sep x (bG.2 (.inr hx)) n hn
theorem ak.Gu {n j:Nat} {tm:List (Nat×AV)} {hp:Heap} {dG:Bk→Heap} {T:St→Prop} {b:Bk} {cs:List AV} {pC:Bk→List AV} (sz:Nat) (u:∀ q,pB hp b (.cells cs) b (.cells (pC q)) (dG q)) (hj:cs[j]? =some .nil) (hc:∀ q,uF (cs.set j (.sl sz q 0 0))=some (pC q)) (h1:∀ q,mB (pC q)=true)
 (k:∀ q,ak ⟨n,tm,(q,.arr sz []) :: dG q⟩ T):ak ⟨n,tm,hp⟩ T:=by
 refine ak.step (CK:=⟨n,tm,(⟨none,0⟩,.arr sz []) :: dG ⟨none,0⟩⟩) (fun w S a r=>?_) (k ⟨none,0⟩)
 have e:=og (hc ⟨none,0⟩)
 obtain ⟨g1,g2⟩:=L0 r.hp (u ⟨none,0⟩) (by rw [← e];simp) (ec (h1 _)) (fun i c1 c2 v YQ VX vl=>by
  rw [← e] at VX
  by_cases BI:j=i
  ·subst BI
   rw [List.getElem?_set_self (List.getElem?_eq_some_iff.1 hj).1] at VX
   obtain rfl:=Option.some.inj VX
   rw [hj] at YQ
   obtain rfl:=Option.some.inj YQ
   cases vl
   exact .Dd sz _ rfl
  ·rw [List.getElem?_set_ne BI,YQ] at VX
   obtain rfl:=Option.some.inj VX
   exact vl)
 obtain ⟨q1,q2,q3⟩:=sW (b:=⟨none,0⟩) (o:=.arr sz []) g1 (Ext.refl w) id ⟨by simp,by simp,.inl ⟨rfl,rfl⟩⟩ (.inl rfl)
 exact ⟨_,S,rfl,⟨r.size,r.defers,r.tm,q1⟩,g2.trans q2⟩
section rules
variable {P:Program} {all:Array Oper} {rest:List Oper} {n:Nat} {tm:List (Nat×AV)} {hp:Heap} {Q:St→Prop} {d:Nat} {ty:TypeId} {pos:String} {af:Array Edge}
theorem KS {t e yt:TypeId} {x y:Operand} {sz:Nat} {xs:List AV} [aR P t (.slice e)] (hx:dt tm x=some (.list sz xs)) (hy:dt tm y=some .nil) (h0:Nat.blt 0 sz=true) (hn:Nat.blt d n=true)
 (kk:∀ c:Bool,(c=true→xs=[])→ai P all rest ⟨n,(d,.bool c) :: tm,hp⟩ Q):ai P all (⟨some d,.binOp .eql t x y yt,ty,pos,af,none⟩ :: rest) ⟨n,tm,hp⟩ Q:=by
 refine ai.LD rfl fun w S a r=>?_
 obtain ⟨oa,cap,vs,e1,e2,e3,e4,e5,e6⟩:=(bn (σ:=⟨n,tm,hp⟩) r hx).zG
 have e7:=(bn (σ:=⟨n,tm,hp⟩) r hy).Ga
 refine ⟨.bool oa.isNone,w,S,⟨n,(d,.bool oa.isNone) :: tm,hp⟩,?_,r.put hn (.bool _),kT.refl _ _ _,kk _ (fun hc=>?_)⟩
 ·have h2:(Op.equal t (.slice oa xs.length cap) (.slice none 0 0)).run P w=.ok oa.isNone w:=by
   show (Op.equalIn (9999+1) t _ _).run P w=_
   rw [Op.equalIn]
   cases oa with
   | none=>simp [run_underlying (aR.h (P:=P) (t:=t))]
   | some ad=>simp [run_underlying (aR.h (P:=P) (t:=t))]
  have h3:(binOp .eql t (.slice oa xs.length cap) (.slice none 0 0)).run P w=.ok (.bool oa.isNone) w:=by
   rw [show binOp .eql t (.slice oa xs.length cap) (.slice none 0 0)=(do pure (.bool (← Op.equal t (.slice oa xs.length cap) (.slice none 0 0)))) from rfl]
   simp [h2]
  simp [execOp,e1,e7,eqGuard_at_slice,h3]
 ·have hoa:oa=none:=by simpa using hc
  have VY:vs=[]:=by
   cases vs with
   | nil=>rfl
   | cons v vs=>
     obtain ⟨ad,h1,_⟩:=e5 0 v rfl
     rw [hoa] at h1;cases h1
  rw [VY,bQ e2] at e3
  have h0':0 < sz:=by simpa using h0
  have:xs.length=0:=by
   rcases Nat.eq_zero_or_pos xs.length with h | h
   ·exact h
   ·have:=Nat.mul_pos h h0';simp at e3;omega
  exact List.length_eq_zero_iff.1 this
end rules
theorem zQ {α:Type} {p r:List α} (h:app [] p=some r) (hp:p=[]):r=[]:=by
 subst hp
 obtain ⟨_,e⟩:=Dw h
 simpa using e
end Go.Eng
