/- The engine: abstract values, the symbolic heap, one rule for each operation. No program in sight. -/
import Derived.Test.YthfphcbipahkmaaGreatDoorEngE
import Derived.Shelf.SlSortCmp.NoneTotal
import Derived.Lib.Case
import Derived.Lib.Overlaps
import Derived.Lib.AppendZeros
open Array renaming getElem?_eq_getElem→bk,range→bm,length_toList→db,getElem?_map→d4,getElem?_eq_some_iff→d6,eq_empty_of_size_eq_zero→d7,getElem?_modify→eX,getElem?_toList→fj,size_range→fl,getElem?_append_left→fz
open Bool renaming false_eq_true→b5,not_eq_true'→em
open ForInStep renaming yield→eg
open Function renaming comp_def→ej
open Int renaming toNat_natCast→e8
open List renaming getElem?_map→ac,getElem?_eq_getElem→al,replicate→aH,getElem?_eq_some_iff→a6,mem_flatMap→a7,nodup_append→bc,mem_append→bi,mem_map→bv,mem_singleton→bz,flatMap_append→bO,mem_append_left→bW,getElem_mem→bX,map_cons→b6,flatMap_cons→b8,mem_cons_of_mem→b9,map_append→cb,map_set→ce,Sublist.append→cl,Sublist.refl→cm,sublist_cons_self→cn,length→cz,getElem?_of_mem→cJ,Perm.append_left→cK,eq_of_mem_replicate→c7,mem_cons_self→da,map_map→dg,perm_middle→dn,Perm.cons→ds,filter_eq_self→dy,Perm.trans→dV,perm_append_comm→dY,getElem?_inj→d0,Perm.refl→d1,append_assoc→d2,getElem?_set→d9,getElem_of_mem→ea,pairwise_map→ek,filter_cons→el,Perm.map→eL,Perm.append_right→eY,length_map→e5,append_nil→e6,mem_cons→e9,getElem?_cons_zero→fd,length_cons→fi
open Nat renaming le_refl→ai,blt→be,le_of_ble_eq_true→b4,lt_of_lt_of_le→b7,zero_add→cf,mod_lt→ci,mul_le_mul_right→ck,lt_of_succ_le→c6,add_mul→c8,eq_of_beq_eq_true→d8,lt_or_ge→eq,div_lt_iff_lt_mul→fr,div_add_mod'→fv
open Option renaming some.inj→aa,map_some→bx,getD_none→cp,some.injEq→d3,map_eq_some_iff→d5,getD_some→eH
open PUnit renaming unit→cy
open Prod renaming fst→ap,mk.inj→cA
set_option linter.unusedVariables false
set_option linter.unusedSectionVars false
namespace Go.Eng
open Go
variable [bU]
end Go.Eng
namespace Go.Eng
open Go Go.Proofs Go.Shelf Go.Lib
variable {P:Program} [bU]
end Go.Eng
namespace Go.Eng
open Go
variable [bU]
def zlB (z:Value) (a:AV):Bool:=match z,a with
 | .slice none 0 0,.list _ []=>true
 | _,_=>false
theorem Vu (w:World) (S:Nat→Prop) {z:Value} {a:AV} (h:zlB z a=true):a.cells.length=z.cells.size∧∀ (j:Nat) c v,a.cells[j]? =some c→z.cells[j]? =some v→At w S c v:=by
 unfold zlB at h
 split at h
 ·rename_i sz
  refine ⟨rfl,fun j c v h1 h2=>?_⟩
  have e1:(AV.list sz []).cells=[AV.list sz []]:=rfl
  have e2:(Value.slice none 0 0).cells=#[Value.slice none 0 0]:=rfl
  rw [e1] at h1
  rw [e2] at h2
  cases j with
  | zero=>
    simp at h1 h2
    subst h1 h2
    exact At.list sz [] none 0 [] (fun x hx=>by cases hx) rfl (fun i c v h=>by simp [flat] at h) (fun i v h=>by simp at h) (ai _)
  | succ j=>simp at h1
 ·cases h
section rules
variable {P:Program} {all:Array Oper} {rest:List Oper} {n:Nat} {tm:List (Nat×AV)} {hp:Heap} {Q:St→Prop} {d:Nat} {ty:TypeId} {pos:String} {af:Array Edge}
theorem G9 {α:Type} {g:α→AV} {Z:α} {Xs:List α} {t e:TypeId} {i:TypeInfo} {z:Value} {x y:Operand} {k k':IntKind} {l c:Int} {sz:Nat} [aC P t (.slice e)] [a8 P e i] (hx:du tm x=some (.int k l)) (hy:du tm y=some (.int k' c)) (hz:i.zero=some z) (hg:zlB z (g Z)=true) (hs:i.size=sz) (xv:RL sz (g Z)=true) (tI:be 0 sz=true) (hb:Nat.ble i.bytes 65536=true)
 (hn:be d n=true) (hm:Oh Z l c=some Xs) (kk:∀ b:Bk,ae P all rest ⟨n,(d,.sl sz b 0 Xs.length) :: tm,(b,.arr sz (Xs.map g)) :: hp⟩ Q):ae P all (⟨some d,.makeSlice t x y,ty,pos,af,none⟩ :: rest) ⟨n,tm,hp⟩ Q:=by
 subst hs
 have tI:0 < i.size:=b7 (c6 (b4 tI)) (ai _)
 have hb:=b4 hb
 unfold Oh at hm
 split at hm
 ·rename_i hc
  obtain rfl:=aa hm
  obtain ⟨c0,c1,c2⟩:=hc
  refine ae.HY rfl fun w S a r=>?_
  have e1:=(bl (σ:=⟨n,tm,hp⟩) r hx).eE
  have e2:=(bl (σ:=⟨n,tm,hp⟩) r hy).eE
  have hE:=ya xv
  obtain ⟨hl,qo⟩:=Vu w S hg
  have Du:z.cells.size=i.size:=by rw [← hl];exact hE.1
  obtain ⟨vs,Sc⟩:∃ vs:Array Value,vs=(bm (c.toNat * i.size)).map (z.cells[· % z.cells.size]!):=⟨_,rfl⟩
  have jc:vs.size=c.toNat * i.size:=by rw [Sc];simp
  have G1:∀ (j:Nat) (v:Value),vs[j]? =some v→z.cells[j % i.size]? =some v:=by
   intro j v hv
   rw [Sc] at hv
   simp only [d4,d5] at hv
   obtain ⟨q,hq,rfl⟩:=hv
   have:q=j:=by
    rw [d6] at hq
    obtain ⟨h1,h2⟩:=hq
    simpa using h2.symm
   subst this
   rw [Du]
   have eI:q % i.size < z.cells.size:=by rw [Du];exact ci _ tI
   simp [eI]
  have e0:=Ext.alloc w (.cells vs e)
  have O7:(aH l.toNat Z).map g=aH l.toNat (g Z):=by simp
  have hh:Holds (w.alloc (.cells vs e)) S ⟨some w.heap.size,c.toNat⟩ (.arr i.size ((aH l.toNat Z).map g)):=by
   rw [O7]
   refine ⟨fun x hx=>by rw [c7 hx];exact hE,by simp;omega,.inr ⟨w.heap.size,vs,e,rfl,?_,jc,fun j cc v FO hv=>?_⟩⟩
   ·show (w.heap.push _)[w.heap.size]? =_
    simp
   ·have zw:j < (flat (aH l.toNat (g Z))).length:=(a6.1 FO).1
    rw [cT (fun x hx=>by rw [c7 hx];exact hE)] at zw
    rw [yf hE.1 _ _ (by simpa using zw)] at FO
    exact (qo _ _ _ FO (G1 j v hv)).mono fun m hm=>⟨hm,e0.same m (r.hp.slt m hm)⟩
  obtain ⟨k1,k2,k3⟩:=pg r.hp e0 id hh (.inr ⟨_,rfl,ai _⟩)
  refine ⟨.slice (some ⟨w.heap.size,0,none⟩) l.toNat c.toNat,w.alloc (.cells vs e),S,_,?_,(r.heap k3 k1).put hn ?_,k2,kk ⟨some w.heap.size,c.toNat⟩⟩
  ·have w1:IntKind.i64.wrap l=l:=vX ⟨by omega,by omega⟩
   have w2:IntKind.i64.wrap c=c:=vX ⟨by omega,by omega⟩
   have hbc:(i.bytes:Int) * c≤65536 * 1000000000:=Int.mul_le_mul (by omega) (by omega) (by omega) (by omega)
   have f1:decide (c < 0)=false:=decide_eq_false (by omega)
   have f2:decide (((i.bytes:Int) * c) > 2 ^ 48)=false:=decide_eq_false (by omega)
   have f3:decide (l < 0)=false:=decide_eq_false (by omega)
   have f4:decide (l > c)=false:=decide_eq_false (by omega)
   have xw:¬ c.toNat * i.bytes > roomBytes:=by
    have:c.toNat * i.bytes≤1000000000 * 65536:=Nat.mul_le_mul (by omega) hb
    unfold roomBytes;omega
   have a1:∀ (k:IntKind) (x:Int) (w:World),(asInt (.int k x)).run P w=.ok x w:=fun k x w=>by simp [asInt,asIntOf]
   simp only [execOp,Instr.makeSlice,Sem.run_bind,run_underlying (aC.h (P:=P) (t:=t)),Result.andThen_ok,e1,e2,a1,typeInfo,sizeOf,run_program,a8.h (P:=P) (t:=e),Sem.run_pure,w1,w2,f1,f2,f3,f4,Bool.or_self,b5,if_false,askRoom,if_neg xw]
   by_cases h0:c.toNat * i.size=0
   ·rw [if_pos h0]
    have XQ:vs=#[]:=by apply d7;omega
    simp only [Sem.run_bind,Sem.run_pure,Result.andThen_ok,h0,oS,XQ]
    rw [show bm 0=#[] from rfl]
    simp
   ·rw [if_neg h0]
    simp only [Sem.run_bind,Result.andThen_ok,Sem.run_pure,zeroValue,typeInfo,run_program,a8.h (P:=P) (t:=e),hz,oS,← Sc]
  ·have:=At.sl (w:=w.alloc (.cells vs e)) (S:=S) i.size ⟨some w.heap.size,c.toNat⟩ 0 l.toNat w.heap.size c.toNat rfl (by omega) (by simp)
   simpa using this
 ·cases hm
end rules
def Zy:Value→AV→Bool
 | .slice none 0 0,.list _ []=>true
 | .int k n,.int k' n'=>decide (k=k'∧n=n')
 | .bool b,.bool c=>b==c
 | .string s,.str []=>Nat.beq s.data.size 0
 | _,_=>false
def X8:List Value→List AV→Bool
 | [],[]=>true
 | v :: vs,a :: cs=>Zy v a&&X8 vs cs
 | _,_=>false
def zlC (z:Value) (a:AV):Bool:=X8 z.cells.toList a.cells
theorem Ps (w:World) (S:Nat→Prop) {z:Value} {a:AV} (h:Zy z a=true):At w S a z:=by
 unfold Zy at h
 split at h
 ·rename_i sz
  exact At.list sz [] none 0 [] (fun x hx=>by cases hx) rfl (fun i c v h=>by simp [flat] at h) (fun i v h=>by simp at h) (ai _)
 ·obtain ⟨rfl,rfl⟩:=of_decide_eq_true h
  exact .int _ _
 ·have:=eq_of_beq h
  subst this
  exact .bool _
 ·rename_i s
  have hs:=d8 h
  obtain ⟨d⟩:=s
  have hd:d=#[]:=d7 hs
  subst hd
  exact .str []
 ·cases h
theorem KV (w:World) (S:Nat→Prop):∀ {vs:List Value} {cs:List AV},X8 vs cs=true→cs.length=vs.length∧∀ (j:Nat) c v,cs[j]? =some c→vs[j]? =some v→At w S c v
 | [],[],_=>⟨rfl,fun j c v h=>by simp at h⟩
 | v :: vs,a :: cs,h=>by
   simp only [X8,Bool.and_eq_true] at h
   obtain ⟨h1,h2⟩:=KV w S h.2
   refine ⟨by simp [h1],fun j c u k1 k2=>?_⟩
   cases j with
   | zero=>simp at k1 k2;subst k1 k2;exact Ps w S h.1
   | succ j=>exact h2 j c u (by simpa using k1) (by simpa using k2)
 | [],_ :: _,h=>by cases h
 | _ :: _,[],h=>by cases h
theorem Vv (w:World) (S:Nat→Prop) {z:Value} {a:AV} (h:zlC z a=true):a.cells.length=z.cells.size∧oe w S a.cells z.cells:=by
 obtain ⟨h1,h2⟩:=KV w S h
 refine ⟨by simpa using h1,fun j c v k1 k2=>h2 j c v k1 (by simpa using k2)⟩
section rules
variable {P:Program} {all:Array Oper} {rest:List Oper} {n:Nat} {tm:List (Nat×AV)} {hp:Heap} {Q:St→Prop} {d:Nat} {ty:TypeId} {pos:String} {af:Array Edge}
theorem Pt {t e:TypeId} {i:TypeInfo} {z:Value} {x:Operand} {b:Bk} {L N sz:Nat} {xs:List AV} {zx:AV} {cQ:Heap} [aC P t (.slice e)] [a8 P e i] (hx:du tm x=some (.sl sz b L N)) (hz:i.zero=some z) (DL:zlC z zx=true) (jc:Nat.beq i.size sz=true) (xv:RL sz zx=true) (tI:be 0 sz=true) (hL:L+N≤xs.length)
 (u:mF hp b (.arr sz xs) b (.arr sz (xs.take L++aH N zx++xs.drop (L+N))) cQ) (kk:ae P all rest ⟨n,tm,cQ⟩ Q):
 ae P all (⟨none,.call {callee:=.builtin .clear,args:=#[x],argTypes:=#[t]},ty,pos,af,none⟩ :: rest) ⟨n,tm,hp⟩ Q:=by
 have jc:=d8 jc
 have tI:0 < sz:=b7 (c6 (b4 tI)) (ai _)
 have hE:=ya xv
 refine ae.HY rfl fun w S a r=>?_
 obtain ⟨oa,cap,e1,e2⟩:=(bl (σ:=⟨n,tm,hp⟩) r hx).uz
 rcases Nat.eq_zero_or_pos N with h0 | h0
 ·subst h0
  have zA:xs.take L++aH 0 zx++xs.drop (L+0)=xs:=by simp
  rw [zA] at u
  obtain ⟨p,q,hq1,hq2⟩:=u.split
  obtain rfl:cQ=hp:=by rw [hq1,hq2]
  refine ⟨.tuple #[],w,S,⟨n,tm,cQ⟩,?_,r,kT.refl _ _ _,kk⟩
  cases oa<;>simp [execOp,e1,resolve,invoke,builtin,Builtin.clear_,run_underlying (aC.h (P:=P) (t:=t))]
 ·rcases e2 with ⟨_,_,hl,_,_⟩ | ⟨m,hb,rfl,h1,h2⟩ | ⟨_,_,_,_,hl,_⟩
  ·omega
  ·obtain ⟨g0,g1,⟨g2,_⟩ | ⟨m',vs,E,g2,g3,g4,g5⟩⟩:=qO r.hp (.inl u.qN)
   ·rw [g2] at hb;cases hb
   obtain rfl:m'=m:=by rw [g2] at hb;exact aa hb
   obtain ⟨zl,Zu⟩:=Vv w S DL
   have Du:z.cells.size=sz:=by rw [← zl];exact hE.1
   have Si:∀ y∈aH N zx,El sz y:=fun y hy=>by rw [c7 hy];exact hE
   have Kq:(Builtin.zeroCells z.cells N).size=N * sz:=by rw [size_zeroCells,Du]
   have GJ:(flat (aH N zx)).length=(Builtin.zeroCells z.cells N).size:=by rw [cT Si,Kq];simp
   have Pc:oe w S (flat (aH N zx)) (Builtin.zeroCells z.cells N):=by
    intro j c v hc hv
    have hj:j < N * sz:=by
     have:=(a6.1 hc).1
     rw [cT Si] at this;simpa using this
    rw [yf hE.1 N j hj] at hc
    refine Zu (j % sz) c v hc ?_
    unfold Builtin.zeroCells at hv
    simp only [d4,d5] at hv
    obtain ⟨q,hq,rfl⟩:=hv
    have:q=j:=by
     rw [d6] at hq
     obtain ⟨k1,k2⟩:=hq
     simpa using k2.symm
    subst this
    rw [Du]
    have eI:q % sz < z.cells.size:=by rw [Du];exact ci _ tI
    simp [eI]
   have u6:=x8 GJ Pc (fun c hc=>by
    unfold flat at hc
    rw [a7] at hc
    obtain ⟨y,hy,hcy⟩:=hc
    exact (Si y hy).2 c hcy)
   have FD:=cT g0
   have hmul:(L+N) * sz≤xs.length * sz:=ck _ hL
   have Cl:xs.length * sz≤b.cap * sz:=ck _ g1
   rw [c8] at hmul
   have Ca:=run_storeCells_at (P:=P) m' (L * sz) E (Builtin.zeroCells z.cells N).toList 0 vs w g3 (by simp [Kq];omega) u6
   simp only [Nat.add_zero] at Ca
   have AE:flat (xs.take L++aH N zx++xs.drop (L+N))=(flat xs).take (L * sz)++flat (aH N zx)++(flat xs).drop (L * sz+(flat (aH N zx)).length):=by
    rw [qL,qL,wa xs L g0,vZ xs (L+N) g0,GJ,Kq,c8]
   have Io:=fun (w':World) (ha:oe w' S (flat xs) vs) (hb:oe w' S (flat (aH N zx)) (Builtin.zeroCells z.cells N))=>GN (L * sz) (by rw [FD,g4];exact Cl) ha GJ hb (by rw [GJ,Kq,FD];omega)
   have Ip:(vs.toList.take (L * sz)++(Builtin.zeroCells z.cells N).toList++vs.toList.drop (L * sz+(Builtin.zeroCells z.cells N).toList.length)).toArray.size=b.cap * sz:=by
    simp [Kq];omega
   generalize (vs.toList.take (L * sz)++(Builtin.zeroCells z.cells N).toList++vs.toList.drop (L * sz+(Builtin.zeroCells z.cells N).toList.length)).toArray=Cb at Ca Io Ip
   have c:GB w (w.setRow m' Cb) b.cH:=⟨⟨rfl,rfl,rfl,by simp,fun k hk Aq=>setRow_other w m' k _ (fun e=>Aq (by rw [g2,e]))⟩,fun _=>ai _⟩
   have k1:∀ n,S n→S n∧(w.setRow m' Cb).heap[n]? =w.heap[n]?:=by
    intro k hk
    refine ⟨hk,setRow_other w m' k _ (fun e=>?_)⟩
    subst e
    exact (r.hp.sep _ u.qN.mem k (fF g2)).1 hk
   have hh:=sS r.hp u c id id ⟨fun y hy=>?_,by simp;omega,.inr ⟨m',Cb,E,g2,setRow_heap w m' vs _ E _ g3,Ip,by rw [AE];exact Io _ (g5.mono k1) (Pc.mono k1)⟩⟩ (.inl rfl)
   ·refine ⟨.tuple #[],w.setRow m' Cb,S,⟨n,tm,cQ⟩,?_,r.heap hh.2.2 hh.1,hh.2.1,kk⟩
    obtain ⟨N',rfl⟩:∃ k,N=k+1:=⟨N - 1,by omega⟩
    simp [execOp,e1,resolve,invoke,builtin,Builtin.clear_,run_underlying (aC.h (P:=P) (t:=t)),zeroValue,typeInfo,a8.h (P:=P) (t:=e),hz,Ca]
   ·rcases bi.1 hy with h | h
    ·rcases bi.1 h with h | h
     ·exact g0 y (List.mem_of_mem_take h)
     ·exact Si y h
    ·exact g0 y (List.mem_of_mem_drop h)
  ·omega
theorem Pv {α:Type} {g:α→AV} {Z:α} {Xs V:List α} {H:Int} {t e:TypeId} {i:TypeInfo} {z:Value} {x:Operand} {b:Bk} {L:Int} {sz:Nat} {cQ:Heap} [aC P t (.slice e)] [a8 P e i] (hx:du tm x=some (.sl sz b L.toNat V.length)) (hz:i.zero=some z) (DL:zlC z (g Z)=true) (jc:Nat.beq i.size sz=true) (xv:RL sz (g Z)=true) (tI:be 0 sz=true) (hv:Cj Xs L H=some V)
 (u:mF hp b (.arr sz (Xs.map g)) b (.arr sz ((E7 Xs L V.length Z).map g)) cQ) (kk:ae P all rest ⟨n,tm,cQ⟩ Q):
 ae P all (⟨none,.call {callee:=.builtin .clear,args:=#[x],argTypes:=#[t]},ty,pos,af,none⟩ :: rest) ⟨n,tm,hp⟩ Q:=by
 obtain ⟨⟨h0,h1,h2⟩,_⟩:=uD hv
 have hlen:=(AJ hv).1
 refine Pt (xs:=Xs.map g) hx hz DL jc xv tI (by simp;omega) ?_ kk
 have:(E7 Xs L V.length Z).map g=(Xs.map g).take L.toNat++aH V.length (g Z)++(Xs.map g).drop (L.toNat+V.length):=by
  unfold E7
  simp
 rw [← this]
 exact u
end rules
theorem aj.Pw {n s j:Nat} {tm:List (Nat×AV)} {hp vc:Heap} {T:St→Prop} {fn:Fn} {vI Ux:List AV} {b:Bk} {cs:List AV} (hs:lk tm s=some (.func fn vI)) (hj:vI[j]? =some (.ptr b 0)) (KW:vI.set j (.ch cs)=Ux) (dl:x7 hp b (.cells cs) vc) (k:aj ⟨n,(s,.func fn Ux) :: tm,vc⟩ T):aj ⟨n,tm,hp⟩ T:=by
 subst KW
 refine aj.step (Ar:=⟨n,(s,.func fn (vI.set j (.ch cs))) :: tm,vc⟩) (fun w S a r=>?_) k
 obtain ⟨p,q,rfl,rfl⟩:=dl.split
 have lK:(b,Ob.cells cs)∈p++(b,.cells cs) :: q:=bw.2 (.inl rfl)
 obtain ⟨h1,m0,vs,E,B8,hh,jc,ha⟩:=r.hp.holds _ lK
 have H4:∀ m,b.cH=some m→m < w.heap.size:=fun m hm=>r.hp.lt ⟨_,lK,fF hm⟩
 let S':Nat→Prop:=fun m=>S m∨b.cH=some m
 have mono:∀ m,S m→S' m∧w.heap[m]? =w.heap[m]?:=fun m hm=>⟨.inl hm,rfl⟩
 have um:=r.hp.nodup
 have nU:(p++q).Sublist (p++(b,Ob.cells cs) :: q):=cl (cm _) (cn _ _)
 have uB:de w S' (p++q):=by
  refine ⟨um.sublist (th nU),fun e he=>(r.hp.holds e (nU.subset he)).mono mono (fun _ _=>rfl),fun e he m hm=>?_,fun m hm=>?_,fun g o ho=>⟨.inl (r.hp.gh g o ho).1,(r.hp.gh g o ho).2⟩⟩
  ·rw [← r.hp.sep e (nU.subset he) m hm]
   refine ⟨fun hs=>hs.elim id fun hb=>?_,.inl⟩
   exfalso
   rw [bO,b8,bc,bc] at um
   rcases bi.1 he with h | h
   ·exact um.2.2 m (a7.2 ⟨e,h,hm⟩) m (bW _ (fF hb)) rfl
   ·exact um.2.1.2.2 m (fF hb) m (a7.2 ⟨e,h,hm⟩) rfl
  ·rcases hm with h | h
   ·exact r.hp.slt m h
   ·exact H4 m h
 have hr:=r.heap mono uB
 refine ⟨_,S',rfl,⟨hr.size,hr.defers,fun t av h=>?_,hr.hp⟩,rfl,rfl,rfl,ai _,mono,fun m hm hh=>⟨rfl,fun hs=>hs.elim id fun hb=>(hh ⟨_,lK,fF hb⟩).elim⟩,fun m hm=>.inl ?_,fun _=>ai _⟩
 ·simp only [lk] at h
  split at h
  ·rename_i hbq
   obtain rfl:s=t:=by simpa using hbq
   obtain rfl:=aa h
   obtain ⟨v,e1,e2⟩:=hr.tm s _ hs
   obtain ⟨us,rfl,ul,ua⟩:=e2.x4
   refine ⟨_,e1,.func fn _ us (by simp [ul]) (fun i c v hc hv=>?_)⟩
   rw [d9] at hc
   split at hc
   ·rename_i yQ
    subst yQ
    split at hc
    ·obtain rfl:=aa hc
     have hp:=ua j _ v hj hv
     cases hp with
     | ptr _ _ m hb=>
       obtain rfl:=aa (hb.symm.trans B8)
       refine .ch cs ⟨m,0,none⟩ vs.toList (by simp [jc]) (fun i c v hc hv=>(ha i c v hc (by simpa using hv)).mono mono) rfl (.inr hb) (fun i v hv=>?_)
       rw [nB hh];simpa using hv
    ·cases hc
   ·exact ua i c v hc hv
  ·exact hr.tm t av h
 ·obtain ⟨e,he,hb⟩:=hm
  exact ⟨e,nU.subset he,hb⟩
def zlV:Value→AV→Bool
 | .agg vs,.agg cs=>X8 vs.toList cs
 | z,a=>Zy z a
theorem Vw (w:World) (S:Nat→Prop) {z:Value} {a:AV} (h:zlV z a=true):At w S a z:=by
 unfold zlV at h
 split at h
 ·obtain ⟨h1,h2⟩:=KV w S h
  exact .agg _ _ (by simpa using h1) (fun i c v k1 k2=>h2 i c v k1 (by simpa using k2))
 ·exact Ps w S h
section rules
variable {P:Program} {all:Array Oper} {rest:List Oper} {n:Nat} {tm:List (Nat×AV)} {hp:Heap} {Q:St→Prop} {d:Nat} {ty:TypeId} {pos:String} {af:Array Edge}
theorem D2 {K V:Type} [DecidableEq K] {gk:K→AV} {gv:V→AV} {M:List (K×V)} {key:K} {Z:V} {v:V×Bool} {t kt vt:TypeId} {i:TypeInfo} {z:Value} {x y:Operand} {b:Bk} {av:AV} [aC P t (.map kt vt)] [a8 P vt i] [dD P kt gk] (hx:du tm x=some (.bV b)) (hy:du tm y=some (gk key)) (f:mh hp b (.mp (M.map fun e=>(gk e.1,gv e.2)))) (hz:i.zero=some z) (DL:zlV z (gv Z)=true) (h:tV M key Z=some v) (pM:gv v.1=av):
 QV P ⟨some d,.lookup t x y true,ty,pos,af,none⟩ ⟨n,tm,hp⟩ (.lM [av,.bool v.2]):=by
 intro w S a r
 have kx:=bl (σ:=⟨n,tm,hp⟩) r hx
 have ky:=bl (σ:=⟨n,tm,hp⟩) r hy
 obtain ⟨nb,hb,ex⟩:=kx.jY
 obtain ⟨L,c,M',yX,cC,p1,p2,p3,p4,p5,p6,p7,p8⟩:=qs (dD.inj P kt) r.hp f
 obtain rfl:yX=nb:=by rw [p4] at hb;exact aa hb
 unfold tV at h
 have hv:=aa h
 rw [← je p1 p8] at hv
 have ju:=dD.find (P:=P) (t:=kt) (g:=gk) ky cC.toList (M'.map ap) (by simpa using p6.symm) (fun j k' e h1 h2=>by
  rw [ac] at h1
  cases hm:M'[j]? with
  | none=>rw [hm] at h1;cases h1
  | some q=>rw [hm] at h1;rw [← aa h1];exact (p7 j q e hm h2).1)
 rcases nE (gv:=gv) (w:=w) (S:=S) (k:=key) M' cC.toList 0 p6.symm (fun j e m h1 h2=>(p7 j e m h1 h2).2) with ⟨q1,q2⟩ | ⟨v',j,val,q1,q2,q3,_⟩
 ·refine ⟨.tuple #[z,.bool false],fun w1 e1=>?_,?_⟩
  ·simp [execOp,Instr.lookup,ex,run_underlying (aC.h (P:=P) (t:=t)),cY (e1.heap p5),dD.check (P:=P) (t:=kt) ky,ju,q2,zeroValue,typeInfo,a8.h (P:=P) (t:=vt),hz]
  ·rw [← pM,← hv,q1]
   refine .lM _ _ rfl (pd ?_ (.bool _))
   rw [cp];exact Vw w S DL
 ·refine ⟨.tuple #[val,.bool true],fun w1 e1=>?_,?_⟩
  ·simp [execOp,Instr.lookup,ex,run_underlying (aC.h (P:=P) (t:=t)),cY (e1.heap p5),dD.check (P:=P) (t:=kt) ky,ju,q2]
  ·rw [← pM,← hv,q1]
   exact .lM _ _ rfl (pd q3 (.bool _))
end rules
def Zz:AV→Bool
 | .int _ _=>true
 | .bool _=>true
 | .str _=>true
 | _=>false
theorem Vx {w:World} {S:Nat→Prop} {a:AV} {v u:Value} (h:Zz a=true) (hv:At w S a v) (hu:At w S a u):v=u∧∀ n,Instr.sameBits n v v=true:=by
 cases a<;>simp only [Zz,b5] at h
 ·rw [hv.eE,hu.eE];exact ⟨rfl,fun n=>by cases n<;>simp [Instr.sameBits]⟩
 ·rw [hv.mL,hu.mL];exact ⟨rfl,fun n=>by cases n<;>simp [Instr.sameBits]⟩
 ·rw [hv.eV,hu.eV]
  refine ⟨rfl,fun n=>?_⟩
  cases n<;>(simp only [Instr.sameBits];exact (KN _ _).2 rfl)
theorem AR {α:Type} (p:α×α→Bool):∀ (l:List α),(∀ x∈l,p (x,x)=true)→(l.zip l).all p=true
 | [],_=>rfl
 | x :: r,h=>by
   rw [List.zip_cons_cons,List.all_cons,h x da,AR p r (fun y hy=>h y (b9 _ hy))];rfl
theorem Sz {w:World} {S:Nat→Prop} {cs:List AV} {v u:Value} (h:∀ c∈cs,Zz c=true) (hv:At w S (.agg cs) v) (hu:At w S (.agg cs) u):Instr.sameBits 10000 v u=true:=by
 obtain ⟨vs,rfl,hl,ha⟩:=hv.pf
 obtain ⟨us,rfl,FC,KX⟩:=hu.pf
 have key:∀ (i:Nat) (h1:i < vs.size) (h2:i < us.size),vs[i]=us[i]∧∀ n,Instr.sameBits n vs[i] vs[i]=true:=fun i h1 h2=>by
  have hc:cs[i]? =some (cs[i]'(by omega)):=by simp [show i < cs.length by omega]
  exact Vx (h _ (bX _)) (ha i _ _ hc (by simp [h1])) (KX i _ _ hc (by simp [h2]))
 have heq:vs=us:=Array.ext (by omega) (fun i h1 h2=>(key i h1 h2).1)
 subst heq
 have g:∀ n:Nat,Instr.sameBits (n+1) (.agg vs) (.agg vs)=true:=fun n=>by
  simp only [Instr.sameBits,beq_self_eq_true,Bool.true_and]
  refine AR _ _ (fun x hx=>?_)
  obtain ⟨i,hi,rfl⟩:=ea hx
  simpa using (key i (by simpa using hi) (by simpa using hi)).2 n
 exact g 9999
def WU (D:TypeDesc):Bool:=match D with
 | .int _=>true
 | .bool=>true
 | .string=>true
 | _=>false
theorem X9 {P:Program} {t:TypeId} {D:TypeDesc} (hu:P.underlying t=some D) (hD:WU D=true) (b:Bool) (n:Nat) (v:Value) (w:World):(Instr.checkKey b (n+1) t v).run P w=.ok () w:=by
 cases D<;>simp only [WU,b5] at hD<;>simp [Instr.checkKey,run_underlying hu]
theorem SC {P:Program} {t:TypeId} {D:TypeDesc} (hu:P.underlying t=some D) (hD:WU D=true) {cs:Array Value} {off:Nat} {v:Value} (h:cs[off]? =some v) (w:World):(part t cs off).run P w=.ok v w:=by
 unfold part isAgg
 simp only [Sem.run_bind,run_underlying hu,Result.andThen_ok]
 cases D<;>simp_all [WU]
theorem F2 {P:Program} (b:Bool) (n:Nat) (vs:Array Value) (w:World):∀ (fs:List Field),(∀ f∈fs,∃ D,P.underlying f.type=some D∧WU D=true∧f.offset < vs.size)→(forIn fs cy (fun f (_:PUnit)=>(if f.name≠"_" then do
 let x ← part f.type vs f.offset
 Instr.checkKey b (n+1) f.type x
 pure (eg cy)
 else pure (eg cy):Sem (ForInStep PUnit)))).run P w=.ok cy w
 | [],_=>by simp
 | f :: fs,h=>by
   obtain ⟨D,h1,h2,h3⟩:=h f da
   have hp:∀ w1,(part f.type vs f.offset).run P w1=.ok vs[f.offset] w1:=SC h1 h2 (by simp [h3])
   have ih:=F2 b n vs w fs (fun g hg=>h g (b9 _ hg))
   simp only [List.forIn_cons,Sem.run_bind]
   by_cases hn:f.name="_"
   ·simp only [hn,ne_eq,not_true_eq_false,if_false,Sem.run_pure,Result.andThen_ok]
    exact ih
   ·simp only [hn,ne_eq,not_false_eq_true,if_true,Sem.run_bind,hp,Result.andThen_ok,X9 h1 h2,Sem.run_pure]
    exact ih
theorem Uy {P:Program} {t:TypeId} {v:Value} {K:Type} [DecidableEq K] {k:K} {q:K→Value→Prop} (hq:∀ k' u,q k' u→∀ w,(Op.equal t v u).run P w=.ok (decide (k'=k)) w):∀ (es:List MapEntry) (ks:List K) (i:Nat) (w:World),ks.length=es.length→(∀ (i:Nat) k' e,ks[i]? =some k'→es[i]? =some e→q k' e.key)→(Instr.findAsking t v es i).run P w=.ok (yi k ks es i) w
 | [],[],i,w,_,_=>by simp [Instr.findAsking,yi]
 | [],k' :: ks,i,w,hl,_=>by simp at hl
 | e :: es,[],i,w,hl,_=>by simp at hl
 | e :: es,k' :: ks,i,w,hl,h=>by
   unfold Instr.findAsking yi
   rw [Sem.run_bind,hq k' e.key (h 0 k' e rfl rfl)]
   by_cases hk:k'=k
   ·simp [hk]
   ·simp only [hk,decide_false,Result.andThen_ok,b5,if_false]
    exact Uy hq es ks (i+1) w (by simpa using hl) (fun i k' e h1 h2=>h (i+1) k' e (by simpa using h1) (by simpa using h2))
theorem dD.struct {P:Program} {t:TypeId} {K:Type} [DecidableEq K] {g:K→AV} {dd:Nat} {fs:List Field} {n:Nat} [xI P t dd g] (hk:Nat.ble dd 10000=true) (hu:P.underlying t=some (.struct fs.toArray))
 (hf:∀ f∈fs,∃ D,P.underlying f.type=some D∧WU D=true∧f.offset < n) (hg:∀ x,∃ cs,g x=.agg cs∧cs.length=n∧∀ c∈cs,Zz c=true) (inj:∀ a b,g a=g b→a=b):dD P t g where
 inj:=inj
 check:=fun {w S k v} hv b w1=>by
  obtain ⟨cs,e,hl,hs⟩:=hg k
  rw [e] at hv
  obtain ⟨vs,rfl,FC,ha⟩:=hv.pf
  have key:∀ m:Nat,(Instr.checkKey b (m+1+1) t (.agg vs)).run P w1=.ok () w1:=fun m=>by
   have h1:=F2 (P:=P) b m vs w1 fs (fun f hm=>by obtain ⟨D,h1,h2,h3⟩:=hf f hm;exact ⟨D,h1,h2,by omega⟩)
   rw [Instr.checkKey]
   simp only [Sem.run_bind,run_underlying hu,Result.andThen_ok]
   rw [← Array.forIn_toList]
   simp only [h1,Result.andThen_ok,Sem.run_pure]
  exact key 9998
 find:=fun {w S k v} hv es ks hl Rn w1=>by
  obtain ⟨cs,e,hn,hs⟩:=hg k
  have Ut:=hv
  rw [e] at Ut
  obtain ⟨vs,rfl,FC,ha⟩:=Ut.pf
  have hq:=Uy (P:=P) (t:=t) (v:=.agg vs) (k:=k) (q:=fun k' u=>At w S (g k') u) (fun k' u hu w2=>by
   have:=xI.h (P:=P) (t:=t) (g:=g) k k' w S _ _ hv hu (10000 - dd) w2
   rw [Nat.sub_add_cancel (b4 hk)] at this
   rw [show decide (k'=k)=decide (k=k') by rw [Bool.eq_iff_iff];simp;exact eq_comm]
   exact this) es ks 0 w1 hl (fun i k' e h1 h2=>Rn i k' e h1 h2)
  unfold Instr.findKey
  rw [Sem.run_bind,run_underlying hu]
  simp only [Result.andThen_ok]
  cases es with
  | nil=>
    cases ks with
    | nil=>simp [Instr.findNow,yi]
    | cons _ _=>simp at hl
  | cons m es=>
    have:Instr.findNow (.struct fs.toArray) (.agg vs) (m :: es) 0=none:=by
     unfold Instr.findNow;simp [Instr.sameNow]
    rw [this];exact hq
 bits:=fun {w S k v u} h1 h2=>by
  obtain ⟨cs,e,hn,hs⟩:=hg k
  rw [e] at h1 h2
  exact Sz hs h1 h2
section rules
variable {P:Program} {all:Array Oper} {rest:List Oper} {n:Nat} {tm:List (Nat×AV)} {hp:Heap} {Q:List (Nat×AV)→Prop} {d:Nat} {ty:TypeId} {pos:String} {af:Array Edge} {op:Op}
theorem AM.Vy {f:FuncId} {x:Operand} {args:List Operand} {ts:Array TypeId} {vI l l':List AV} {R:AV} [bN P f](hx:du (GS (looks all ⟨some d,.call {callee:=.value x,args:=args.toArray,argTypes:=ts},ty,pos,af,none⟩) tm) x=some (.func (.func f) vI)) (hl:B9 (GS (looks all ⟨some d,.call {callee:=.value x,args:=args.toArray,argTypes:=ts},ty,pos,af,none⟩) tm) args=some l) (c:Pu P f l' R) (co:By hp (l++vI) l') (hn:be d n=true)
 (k:AM P all n hp rest ((d,R) :: tm) Q):AM P all n hp (⟨some d,.call {callee:=.value x,args:=args.toArray,argTypes:=ts},ty,pos,af,none⟩ :: rest) tm Q:=by
 refine AM.mv (fun w S a h1 h2 h3 h4 K Q' hK=>?_) hn k
 have r:=sr h1 h2 h3 h4
 obtain ⟨cv,e1,e2,e3⟩:=(bl r hx).x4
 show Oper.upon P _ a K Q' _
 rw [yc a _ e1]
 obtain ⟨g1,g2⟩:=tj r hl
 obtain ⟨g3,g4⟩:=By.at r.hp co (vs:=args.map a.eval++cv.toList) (by simp [g1,e2]) (yb g1 g2 (by simpa using e3))
 refine (c w S _ (uC h3.slt h3.gh) (by simpa using g3) g4).mono ?_
 rintro e w' ⟨v,rr,h',S',rfl,rfl,k3,k4,k5⟩
 exact hK v w' S' ⟨k5.FJ,fun m hm=>(k5.mf m hm).1,fun m hm hs=>(k5.other m hm (fun ⟨x,hx,_⟩=>by simp at hx)).2 hs,k4.slt⟩ k3
end rules
section values
variable {P:Program} {n:Nat} {tm:List (Nat×AV)} {hp:Heap} {d:Nat} {ty:TypeId} {pos:String} {af:Array Edge}
theorem No {x:Operand} {s ft:TypeId} {j off:Nat} {D:TypeDesc} {i:TypeInfo} {cs lA:List AV} [aC P ft D] [a8 P ft i] (hf:∃ fs f,P.underlying s=some (.struct fs)∧fs[j]? =some f∧f.type=ft∧f.offset=off) (hx:du tm x=some (.agg cs))
 (hD:TypeDesc.js D=true) (hl:Nat.ble (off+i.size) cs.length=true) (hc:rn ((cs.drop off).take i.size)=some lA):QV P ⟨some d,.field s x j,ty,pos,af,none⟩ ⟨n,tm,hp⟩ (.agg lA):=
 (fun w S a r=>by
  obtain ⟨fs,f,hu,hj,rfl,rfl⟩:=hf
  obtain ⟨vs,h2,h3,h4⟩:=(bl (σ:=⟨n,tm,hp⟩) r hx).pf
  have g:=oe.sub h3 h4 f.offset i.size (b4 hl)
  rw [lQ hc] at g
  refine ⟨_,fun w1 _=>?_,g⟩
  have hr:=DG (P:=P) (t:=f.type) hD (cs:=vs) (off:=f.offset) (n:=i.size) rfl w1
  simp only [execOp,h2,Instr.field,Sem.run_bind,run_underlying hu,Result.andThen_ok,hj]
  simp [asAgg,hr])
end values
theorem aj.Px {n s:Nat} {tm:List (Nat×AV)} {hp vc:Heap} {T:St→Prop} {b:Bk} {cs:List AV} (hs:lk tm s=some (.ptr b 0)) (dl:x7 hp b (.cells cs) vc) (k:aj ⟨n,(s,.ch cs) :: tm,vc⟩ T):aj ⟨n,tm,hp⟩ T:=by
 refine aj.step (Ar:=⟨n,(s,.ch cs) :: tm,vc⟩) (fun w S a r=>?_) k
 obtain ⟨p,q,rfl,rfl⟩:=dl.split
 have lK:(b,Ob.cells cs)∈p++(b,.cells cs) :: q:=bw.2 (.inl rfl)
 obtain ⟨h1,m0,vs,E,B8,hh,jc,ha⟩:=r.hp.holds _ lK
 have H4:∀ m,b.cH=some m→m < w.heap.size:=fun m hm=>r.hp.lt ⟨_,lK,fF hm⟩
 let S':Nat→Prop:=fun m=>S m∨b.cH=some m
 have mono:∀ m,S m→S' m∧w.heap[m]? =w.heap[m]?:=fun m hm=>⟨.inl hm,rfl⟩
 have um:=r.hp.nodup
 have nU:(p++q).Sublist (p++(b,Ob.cells cs) :: q):=cl (cm _) (cn _ _)
 have uB:de w S' (p++q):=by
  refine ⟨um.sublist (th nU),fun e he=>(r.hp.holds e (nU.subset he)).mono mono (fun _ _=>rfl),fun e he m hm=>?_,fun m hm=>?_,fun g o ho=>⟨.inl (r.hp.gh g o ho).1,(r.hp.gh g o ho).2⟩⟩
  ·rw [← r.hp.sep e (nU.subset he) m hm]
   refine ⟨fun hs=>hs.elim id fun hb=>?_,.inl⟩
   exfalso
   rw [bO,b8,bc,bc] at um
   rcases bi.1 he with h | h
   ·exact um.2.2 m (a7.2 ⟨e,h,hm⟩) m (bW _ (fF hb)) rfl
   ·exact um.2.1.2.2 m (fF hb) m (a7.2 ⟨e,h,hm⟩) rfl
  ·rcases hm with h | h
   ·exact r.hp.slt m h
   ·exact H4 m h
 have hr:=r.heap mono uB
 refine ⟨_,S',rfl,⟨hr.size,hr.defers,fun t av h=>?_,hr.hp⟩,rfl,rfl,rfl,ai _,mono,fun m hm hh=>⟨rfl,fun hs=>hs.elim id fun hb=>(hh ⟨_,lK,fF hb⟩).elim⟩,fun m hm=>.inl ?_,fun _=>ai _⟩
 ·simp only [lk] at h
  split at h
  ·rename_i hbq
   obtain rfl:s=t:=by simpa using hbq
   obtain rfl:=aa h
   obtain ⟨v,e1,e2⟩:=hr.tm s _ hs
   cases e2 with
   | ptr _ _ m hb=>
     obtain rfl:=aa (hb.symm.trans B8)
     refine ⟨_,e1,.ch cs ⟨m,0,none⟩ vs.toList (by simp [jc]) (fun i c v hc hv=>(ha i c v hc (by simpa using hv)).mono mono) rfl (.inr hb) (fun i v hv=>?_)⟩
     rw [nB hh];simpa using hv
  ·exact hr.tm t av h
 ·obtain ⟨e,he,hb⟩:=hm
  exact ⟨e,nU.subset he,hb⟩
theorem J {α:Sort _} {a:α}:a=a:=rfl
end Go.Eng
set_option linter.unusedSimpArgs false
namespace Go.Eng
open Go
variable [bU]
theorem aj.Uz {n:Nat} {tm:List (Nat×AV)} {hp:Heap} {cQ:Nat→Heap} {T:St→Prop} {b:Bk} {es:List (AV×AV)} {k:AV} (u:∀ q,mF hp b (.mp es) b (.Gz es q k) (cQ q)) (kk:∀ q,aj ⟨n,tm,cQ q⟩ T):aj ⟨n,tm,hp⟩ T:=fun w S a r=>by
 obtain ⟨L,c,hL,hH⟩:=r.hp.holds _ (u 0).qN.mem
 have hq:∃ q,(∃ e∈L,e.k=k∧e.born=q)∨((∀ e∈L,e.k≠k)∧q=c):=by
  by_cases h:∃ e∈L,e.k=k
  ·obtain ⟨e,he,hk⟩:=h;exact ⟨e.born,.inl ⟨e,he,hk,rfl⟩⟩
  ·exact ⟨c,.inr ⟨fun e he hk=>h ⟨e,he,hk⟩,rfl⟩⟩
 obtain ⟨q,hq⟩:=hq
 obtain ⟨r1,e1,_⟩:=sS r.hp (u q) (G8 w b.cH) id id ⟨L,c,hL,hH,hq⟩ (.inl rfl)
 obtain ⟨aJ,S',t1,t2,t3⟩:=kk q w S a (r.heap (fun m hm=>⟨hm,rfl⟩) r1)
 exact ⟨aJ,S',t1,t2,e1.trans t3⟩
theorem IQ {K V:Type} {gk:K→AV} {gv:V→AV} {w:World} {S:Nat→Prop} {hp:Heap} {b:Bk} {M:List (K×V)} {q:Nat} {key:K} (IF:∀ a b,gk a=gk b→a=b) (r:de w S hp) (f:mh hp b (.Gz (M.map fun e=>(gk e.1,gv e.2)) q (gk key))):
 ∃ (L:List me) (c:Nat) (M':List (K×V)) (n:Nat) (cC:Array MapEntry),M'.Perm M∧L.map me.kv=M'.map (fun e=>(gk e.1,gv e.2))∧uy w S b L c∧b.cH=some n∧w.heap[n]? =some (.map cC c)∧cC.toList.length=M'.length∧
   (∀ (i:Nat) e m,M'[i]? =some e→cC.toList[i]? =some m→At w S (gk e.1) m.key∧At w S (gv e.2) m.val)∧(M'.map ap).Nodup∧((∃ e∈L,e.k=gk key∧e.born=q)∨((∀ e∈L,e.k≠gk key)∧q=c)):=by
 obtain ⟨L,c,mC,hH,hq⟩:=r.holds _ f.mem
 obtain ⟨M',h1,h2⟩:=ry _ _ _ mC
 have Vh:=hH
 obtain ⟨n,cC,g1,g2,g3,g4,g5,g6,g7⟩:=hH
 have hlen:L.length=M'.length:=by have:=congrArg cz h2;simpa using this
 refine ⟨L,c,M',n,cC,h1,h2,Vh,g1,g2,by rw [db,g3,hlen],fun i e m he hm=>?_,?_,hq⟩
 ·have:(L.map me.kv)[i]? =some (gk e.1,gv e.2):=by rw [h2,ac,he];rfl
  rw [ac] at this
  cases hL:L[i]? with
  | none=>rw [hL] at this;cases this
  | some x=>
    rw [hL] at this
    have hx:(x.k,x.v)=(gk e.1,gv e.2):=aa this
    obtain ⟨q1,q2⟩:=cA hx
    have:=g4 i x m hL (by simpa using hm)
    rw [q1,q2] at this
    exact this.2
 ·have hk:L.map (·.k)=(M'.map ap).map gk:=by
   have:=congrArg (List.map ap) h2
   simpa [dg,ej,me.kv] using this
  rw [hk] at g7
  exact (ek.1 g7).imp (fun h e=>h (by rw [e]))
theorem set_perm {K V:Type} [DecidableEq K] {M M':List (K×V)} {j:Nat} {key:K} {v v':V} (p1:M'.Perm M) (p8:(M'.map ap).Nodup) (q4:M'[j]? =some (key,v)):(M'.set j (key,v')).Perm ((key,v') :: mj M key):=by
 have Uu:j < M'.length:=(a6.1 q4).1
 have e2:M'=M'.take j++(key,v) :: M'.drop (j+1):=by
  have:=List.take_append_drop j M'
  rw [List.drop_eq_getElem_cons Uu] at this
  have hq:M'[j]=(key,v):=by rw [al Uu] at q4;exact aa q4
  rw [hq] at this
  exact this.symm
 have e3:M'.set j (key,v')=M'.take j++(key,v') :: M'.drop (j+1):=by
  rw [List.set_eq_take_append_cons_drop,if_pos Uu]
 rw [e3]
 refine dn.trans (ds _ ?_)
 have e4:mj M' key=M'.take j++M'.drop (j+1):=by
  have Vj:=p8
  rw [e2,cb,b6,bc,List.nodup_cons] at Vj
  unfold mj
  rw [e2,List.filter_append,el]
  simp only [ne_eq,not_true_eq_false,decide_false,b5,if_false]
  rw [← e2]
  congr 1
  ·refine dy.2 fun e he=>?_
   simp only [decide_not,em,decide_eq_false_iff_not]
   intro hk
   exact Vj.2.2 e.1 (bv.2 ⟨e,he,rfl⟩) key (by simp) hk
  ·refine dy.2 fun e he=>?_
   simp only [decide_not,em,decide_eq_false_iff_not]
   intro hk
   exact Vj.2.1.1 (bv.2 ⟨e,he,hk⟩)
 rw [← e4]
 exact p1.filter _
theorem Np {K V:Type} [DecidableEq K] [vU K] (M:List (K×V)) (key:K) (v:V):(mj (ca M key v) key).Perm (mj M key):=by
 refine ((uu M key v).filter _).trans ?_
 rw [el,if_neg (by simp)]
 have:(mj M key).filter (fun e=>decide (e.1≠key))=mj M key:=dy.2 fun e he=>by simpa using DW M key e he
 rw [this]
section rules
variable {P:Program} {all:Array Oper} {rest:List Oper} {n:Nat} {tm:List (Nat×AV)} {hp:Heap} {Q:St→Prop} {d:Nat} {ty:TypeId} {pos:String} {af:Array Edge}
theorem D3 {K V:Type} [DecidableEq K] [vU K] {gk:K→AV} {gv:V→AV} {M:List (K×V)} {key:K} {q:Nat} {Z v:V} {t kt vt:TypeId} {i:TypeInfo} {z:Value} {x y:Operand} {b:Bk} {cQ:Heap} [aC P t (.map kt vt)] [a8 P vt i] [dD P kt gk] (hx:du tm x=some (.bV b)) (hy:du tm y=some (gk key)) (hz:i.zero=some z) (DL:As z=gv Z) (h1:ke (As z).cells=true) (h:oJ M key Z=some v)
 (u:mF hp b (.Gz (M.map fun e=>(gk e.1,gv e.2)) q (gk key)) b (.Gz ((ca M key v).map fun e=>(gk e.1,gv e.2)) q (gk key)) cQ) (hn:be d n=true)
 (kk:ae P all rest ⟨n,(d,.lM [gv v,.int .i64 (q:Int)]) :: tm,cQ⟩ Q):ae P all (⟨some d,.mapEntry t x y,ty,pos,af,none⟩ :: rest) ⟨n,tm,hp⟩ Q:=by
 refine ae.HY rfl fun w S a r=>?_
 have kx:=bl (σ:=⟨n,tm,hp⟩) r hx
 have ky:=bl (σ:=⟨n,tm,hp⟩) r hy
 obtain ⟨nb,hb,ex⟩:=kx.jY
 obtain ⟨L,c,M',yX,cC,p1,p2,p3,p4,p5,p6,p7,p8,hq⟩:=IQ (dD.inj P kt) r.hp u.qN
 obtain rfl:yX=nb:=by rw [p4] at hb;exact aa hb
 unfold oJ at h
 have hv:=aa h
 rw [← je p1 p8] at hv
 have ju:=dD.find (P:=P) (t:=kt) (g:=gk) ky cC.toList (M'.map ap) (by simpa using p6.symm) (fun j k' e h1 h2=>by
  rw [ac] at h1
  cases hm:M'[j]? with
  | none=>rw [hm] at h1;cases h1
  | some q=>rw [hm] at h1;rw [← aa h1];exact (p7 j q e hm h2).1)
 obtain ⟨Rr,iW,g1,g2,g3,g4,g5,g6,g7⟩:=p3
 obtain rfl:Rr=yX:=by rw [p4] at g1;exact (aa g1).symm
 obtain rfl:iW=cC:=by rw [p5] at g2;exact (Obj.map.inj (aa g2)).1.symm
 have Zv:L.length=M'.length:=by have:=congrArg cz p2;simpa using this
 have Vi:∀ (j:Nat) (x:me) (e:K×V),L[j]? =some x→M'[j]? =some e→x.k=gk e.1∧x.v=gv e.2:=by
  intro j x e h1 h2
  have:(L.map me.kv)[j]? =(M'.map fun e=>(gk e.1,gv e.2))[j]?:=by rw [p2]
  rw [ac,ac,h1,h2] at this
  exact cA (aa this)
 rcases nE (gv:=gv) (w:=w) (S:=S) (k:=key) M' iW.toList 0 p6.symm (fun j e m h1 h2=>(p7 j e m h1 h2).2) with ⟨q1,q2⟩ | ⟨v',j,val,q1,q2,q3,q4⟩
 ·
  have wb:∀ e∈L,e.k≠gk key:=by
   intro e he hk
   obtain ⟨j,hj⟩:=cJ he
   have zw:j < M'.length:=by rw [← Zv];exact (a6.1 hj).1
   have:=(Vi j e M'[j] hj (al zw)).1
   rw [hk] at this
   exact (ph.1 q1) M'[j] (bX zw) (dD.inj P kt _ _ this.symm)
  have hqc:q=c:=by
   rcases hq with ⟨e,he,hk,_⟩ | ⟨_,hc⟩
   ·exact absurd hk (wb e he)
   ·exact hc
  rw [q1,cp] at hv
  subst hv
  have kz:At w S (gv Z) z:=by rw [← DL];exact DP w S z h1
  have hw:=ur (ob:=.map (iW.push ⟨a.eval y,z,c⟩) (c+1)) r.hp u p4 p5 id id (fun k1=>by
   refine ⟨L++[⟨gk key,gv Z,c⟩],c+1,?_,⟨Rr,iW.push ⟨a.eval y,z,c⟩,p4,uq p5,by simp [g3],?_,?_,?_,?_⟩,.inl ⟨⟨gk key,gv Z,c⟩,by simp,rfl,hqc.symm⟩⟩
   ·rw [cb,p2]
    refine dV ?_ ((sv key Z (mj M key)).symm.map _)
    rw [wj (by rw [← je p1 p8];exact q1)]
    exact dY.trans (ds _ (p1.map _))
   ·intro i e m he hm
    rw [Array.getElem?_push] at hm
    rcases eq i L.length with hi | hi
    ·rw [List.getElem?_append_left hi] at he
     rw [if_neg (by omega)] at hm
     obtain ⟨s1,s2,s3⟩:=g4 i e m he hm
     exact ⟨s1,s2.mono k1,s3.mono k1⟩
    ·have Ii:i=L.length:=by
      have:=(a6.1 he).1
      simp at this;omega
     subst Ii
     rw [if_pos g3.symm] at hm
     simp at he
     obtain rfl:=aa hm
     subst he
     exact ⟨rfl,ky.mono k1,kz.mono k1⟩
   ·intro e he
    rcases bi.1 he with h | h
    ·have:=g5 e h;omega
    ·simp at h;subst h;simp
   ·rw [cb,bc]
    refine ⟨g6,by simp,fun a1 ha b1 C6 C9=>?_⟩
    simp at C6
    subst C6
    obtain ⟨e,he,rfl⟩:=bv.1 ha
    have:=g5 e he
    omega
   ·rw [cb,bc]
    refine ⟨g7,by simp,fun a1 ha b1 C6 C9=>?_⟩
    simp at C6
    subst C6
    obtain ⟨e,he,rfl⟩:=bv.1 ha
    exact wb e he C9)
  refine ⟨.tuple #[z,goInt c],_,S,_,?_,(r.heap hw.2.2 hw.1).put hn (.lM _ _ rfl (pd (kz.mono hw.2.2) ?_)),hw.2.1,kk⟩
  ·simp [execOp,Instr.mapEntry,ex,run_underlying (aC.h (P:=P) (t:=t)),cY p5,dD.check (P:=P) (t:=kt) ky,ju,q2,zeroValue,typeInfo,a8.h (P:=P) (t:=vt),hz,uG _ p5]
  ·rw [hqc];exact .int _ _
 ·
  have zw:j < iW.toList.length:=by rw [p6];exact (a6.1 q4).1
  have CJ:j < iW.size:=by simpa using zw
  have WO:iW.toList[j]? =some iW[j]:=by simp [CJ]
  have G4:=(p7 j _ _ q4 WO).1
  have Pj:Instr.sameBits 10000 iW[j].key (a.eval y)=true:=dD.bits (P:=P) (t:=kt) G4 ky
  have Cn:j < L.length:=by omega
  have SD:L[j].k=gk key:=(Vi j L[j] _ (al Cn) q4).1
  have DR:iW[j].born=L[j].born:=(g4 j L[j] iW[j] (al Cn) (bk CJ)).1
  have Ya:L[j].born=q:=by
   rcases hq with ⟨e,he,hk,hb⟩ | ⟨CK,_⟩
   ·obtain ⟨i,hi⟩:=cJ he
    have qQ:=(a6.1 hi).1
    have e1:(L.map (·.k))[i]? =some (gk key):=by rw [ac,hi,bx,hk]
    have e2:(L.map (·.k))[j]? =some (gk key):=by rw [ac,al Cn,bx,SD]
    have yQ:i=j:=(d0 (by simpa using qQ) g7).1 (e1.trans e2.symm)
    subst yQ
    rw [← hb]
    exact congrArg me.born (aa ((al Cn).symm.trans hi))
   ·exact absurd SD (CK _ (bX Cn))
  rw [q1,eH] at hv
  subst hv
  have hw:=ur (ob:=.map (iW.modify j fun e=>{e with key:=a.eval y}) c) r.hp u p4 p5 id id (fun k1=>by
   refine ⟨L,c,?_,⟨Rr,_,p4,uq p5,by simp [g3],?_,g5,g6,g7⟩,.inl ⟨L[j],bX Cn,SD,Ya⟩⟩
   ·rw [p2]
    refine eL _ ?_
    refine dV ?_ (uu M key v').symm
    have e1:M'.set j (key,v')=M':=wk q4
    rw [← e1]
    exact set_perm p1 p8 q4
   ·intro i e m he hm
    rw [eX] at hm
    by_cases yQ:j=i
    ·subst yQ
     simp only [if_true,bk CJ,bx] at hm
     obtain rfl:=aa hm
     obtain ⟨s1,s2,s3⟩:=g4 j e iW[j] he (bk CJ)
     have:e=L[j]:=aa (he.symm.trans (al Cn))
     refine ⟨s1,?_,s3.mono k1⟩
     rw [this,SD];exact ky.mono k1
    ·rw [if_neg yQ] at hm
     obtain ⟨s1,s2,s3⟩:=g4 i e m he hm
     exact ⟨s1,s2.mono k1,s3.mono k1⟩)
  refine ⟨.tuple #[val,goInt iW[j].born],_,S,_,?_,(r.heap hw.2.2 hw.1).put hn (.lM _ _ rfl (pd (q3.mono hw.2.2) ?_)),hw.2.1,kk⟩
  ·simp [execOp,Instr.mapEntry,ex,run_underlying (aC.h (P:=P) (t:=t)),cY p5,dD.check (P:=P) (t:=kt) ky,ju,q2,Instr.keyThatStays,CJ,Pj,uG _ p5]
  ·rw [DR,Ya];exact .int _ _
theorem AS {K V:Type} [DecidableEq K] [vU K] {gk:K→AV} {gv:V→AV} {M:List (K×V)} {key:K} {q:Nat} {v v':V} {t kt:TypeId} {x s y:Operand} {b:Bk} {av:AV} {cQ:Heap} [dD P kt gk] (hx:du tm x=some (.bV b)) (hs:du tm s=some (.int .i64 (q:Int))) (hy:du tm y=some av) (pM:av=gv v')
 (u:mF hp b (.Gz ((ca M key v).map fun e=>(gk e.1,gv e.2)) q (gk key)) b (.mp ((ca M key v').map fun e=>(gk e.1,gv e.2))) cQ)
 (kk:ae P all rest ⟨n,tm,cQ⟩ Q):ae P all (⟨none,.entryStore t x s y,ty,pos,af,none⟩ :: rest) ⟨n,tm,hp⟩ Q:=by
 refine ae.act rfl rfl (fun w S a r=>?_) kk
 have kx:=bl (σ:=⟨n,tm,hp⟩) r hx
 have ks:=(bl (σ:=⟨n,tm,hp⟩) r hs).eE
 have ky:=bl (σ:=⟨n,tm,hp⟩) r hy
 obtain ⟨nb,hb,ex⟩:=kx.jY
 obtain ⟨L,c,M',yX,cC,p1,p2,p3,p4,p5,p6,p7,p8,hq⟩:=IQ (dD.inj P kt) r.hp u.qN
 obtain rfl:yX=nb:=by rw [p4] at hb;exact aa hb
 obtain ⟨Rr,iW,g1,g2,g3,g4,g5,g6,g7⟩:=p3
 obtain rfl:Rr=yX:=by rw [p4] at g1;exact (aa g1).symm
 obtain rfl:iW=cC:=by rw [p5] at g2;exact (Obj.map.inj (aa g2)).1.symm
 have Zv:L.length=M'.length:=by have:=congrArg cz p2;simpa using this
 have Vi:∀ (j:Nat) (x:me) (e:K×V),L[j]? =some x→M'[j]? =some e→x.k=gk e.1∧x.v=gv e.2:=by
  intro j x e h1 h2
  have:(L.map me.kv)[j]? =(M'.map fun e=>(gk e.1,gv e.2))[j]?:=by rw [p2]
  rw [ac,ac,h1,h2] at this
  exact cA (aa this)
 have H4:(key,v)∈M':=p1.mem_iff.2 ((uu M key v).mem_iff.2 (by simp))
 obtain ⟨j,hj⟩:=cJ H4
 have Uu:=(a6.1 hj).1
 have Cn:j < L.length:=by omega
 have CJ:j < iW.size:=by omega
 have SD:L[j].k=gk key:=(Vi j L[j] _ (al Cn) hj).1
 have DR:iW[j].born=L[j].born:=(g4 j L[j] iW[j] (al Cn) (bk CJ)).1
 have Ya:L[j].born=q:=by
  rcases hq with ⟨e,he,hk,hb⟩ | ⟨CK,_⟩
  ·obtain ⟨i,hi⟩:=cJ he
   have qQ:=(a6.1 hi).1
   have e1:(L.map (·.k))[i]? =some (gk key):=by rw [ac,hi,bx,hk]
   have e2:(L.map (·.k))[j]? =some (gk key):=by rw [ac,al Cn,bx,SD]
   have yQ:i=j:=(d0 (by simpa using qQ) g7).1 (e1.trans e2.symm)
   subst yQ
   rw [← hb]
   exact congrArg me.born (aa ((al Cn).symm.trans hi))
  ·exact absurd SD (CK _ (bX Cn))
 have hfi:iW.findIdx? (fun e=>(e.born:Int)==(q:Int))=some j:=by
  rw [Array.findIdx?_eq_some_iff_getElem]
  refine ⟨CJ,by simp [DR,Ya],fun i hi=>?_⟩
  have MT:i < iW.size:=by omega
  have Ii:i < L.length:=by omega
  have Nc:iW[i].born=L[i].born:=(g4 i L[i] iW[i] (al Ii) (bk MT)).1
  simp only [beq_iff_eq,Int.natCast_inj,Nc]
  intro hc
  have e1:(L.map (·.born))[i]? =some q:=by rw [ac,al Ii,bx,hc]
  have e2:(L.map (·.born))[j]? =some q:=by rw [ac,al Cn,bx,Ya]
  have yQ:i=j:=(d0 (by simpa using Ii) g6).1 (e1.trans e2.symm)
  omega
 have hw:=ur (ob:=.map (iW.modify j fun e=>{e with val:=a.eval y}) c) r.hp u p4 p5 id id (fun k1=>by
  refine ⟨L.set j ⟨gk key,gv v',L[j].born⟩,c,?_,Rr,_,p4,uq p5,by simp [g3],?_,?_,?_,?_⟩
  ·rw [ce]
   have e1:(L.map me.kv).set j (gk key,gv v')=(M'.set j (key,v')).map fun e=>(gk e.1,gv e.2):=by rw [p2,ce]
   show ((L.map me.kv).set j (gk key,gv v')).Perm _
   rw [e1]
   refine eL _ ?_
   refine (set_perm p1 p8 hj).trans ?_
   refine dV ?_ (uu M key v').symm
   exact ds _ (Np M key v)
  ·intro i e m he hm
   rw [eX] at hm
   rw [d9] at he
   by_cases yQ:j=i
   ·subst yQ
    simp only [if_true,Cn] at he
    simp only [if_true,bk CJ,bx] at hm
    obtain rfl:=aa he
    obtain rfl:=aa hm
    obtain ⟨s1,s2,s3⟩:=g4 j L[j] iW[j] (al Cn) (bk CJ)
    rw [SD] at s2
    exact ⟨s1,s2.mono k1,by rw [pM] at ky;exact ky.mono k1⟩
   ·rw [if_neg yQ] at he hm
    obtain ⟨s1,s2,s3⟩:=g4 i e m he hm
    exact ⟨s1,s2.mono k1,s3.mono k1⟩
  ·intro e he
   rcases List.mem_or_eq_of_mem_set he with h | h
   ·exact g5 e h
   ·subst h;exact g5 L[j] (bX Cn)
  ·rw [ce]
   have:(L.map (·.born)).set j L[j].born=L.map (·.born):=by
    exact wk (by rw [ac,al Cn];rfl)
   rw [this];exact g6
  ·rw [ce]
   have:(L.map (·.k)).set j (gk key)=L.map (·.k):=by
    exact wk (by rw [ac,al Cn,bx,SD])
   rw [this];exact g7)
 refine ⟨_,S,?_,r.heap hw.2.2 hw.1,hw.2.1⟩
 have KO:∀ w1:World,(asInt (Value.int .i64 (q:Int))).run P w1=.ok (q:Int) w1:=fun w1=>by simp [asInt,asIntOf]
 simp [execOp,Instr.entryStore,ex,ks,cY p5,KO,hfi,uG _ p5]
end rules
theorem mF.mid {h h':Heap} {b b':Bk} {o o':Ob} (u:mF h b o b' o' h') (b2:Bk) (o2:Ob):∃ h2,mF h b o b2 o2 h2∧mF h2 b2 o2 b' o' h':=by
 induction u with
 | here=>exact ⟨_,.here,.here⟩
 | next _ ih=>obtain ⟨h2,a,b⟩:=ih;exact ⟨_,.next a,.next b⟩
 | skip _ ih=>obtain ⟨h2,a,b⟩:=ih;exact ⟨_,.skip a,.skip b⟩
theorem F3 {w:World} {S:Nat→Prop} {hp cQ:Heap} {bp:Bk} {es Au:List (Bk×PO)} (r:de w S hp) (u:mF hp bp (.cu es) bp (.cu Au) cQ) (h:es.Perm Au):de w S cQ∧kT w S hp w S cQ:=by
 obtain ⟨p,q,rfl,rfl⟩:=u.split
 obtain ⟨B8,lE⟩:bp.cH=none∧∀ e∈es,qz w S e.1 e.2:=r.holds (bp,.cu es) (bw.2 (.inl rfl))
 have DT:∀ n,n∈eb (bp,.cu Au)↔n∈eb (bp,.cu es):=by
  intro n
  rw [w7,w7]
  constructor
  ·rintro (k | ⟨e,he,hn⟩)
   ·exact .inl k
   ·exact .inr ⟨e,h.mem_iff.2 he,hn⟩
  ·rintro (k | ⟨e,he,hn⟩)
   ·exact .inl k
   ·exact .inr ⟨e,h.mem_iff.1 he,hn⟩
 have e1:(eb (bp,.cu es)).Perm (eb (bp,.cu Au)):=by
  simp only [eb,Ob.more]
  exact cK _ (h.filterMap _)
 have KO:∀ n,Has (p++(bp,.cu Au) :: q) n→Has (p++(bp,.cu es) :: q) n:=by
  rintro n ⟨e,he,hn⟩
  rcases bw.1 he with rfl | he
  ·exact ⟨_,bw.2 (.inl rfl),(DT n).1 hn⟩
  ·exact ⟨e,bw.2 (.inr he),hn⟩
 refine ⟨⟨?_,?_,?_,r.slt,r.gh⟩,⟨rfl,rfl,rfl,ai _,fun n hn=>⟨hn,rfl⟩,fun n _ _=>⟨rfl,id⟩,fun n hn=>.inl (KO n hn),fun _=>ai _⟩⟩
 ·have:=r.nodup
  rw [bO,b8] at this ⊢
  exact ((cK _ (eY _ e1)).nodup_iff).1 this
 ·intro e he
  rcases bw.1 he with rfl | he
  ·exact ⟨B8,fun e he=>lE e (h.mem_iff.2 he)⟩
  ·exact r.holds e (bw.2 (.inr he))
 ·intro e he n hn
  rcases bw.1 he with rfl | he
  ·have:=r.sep (bp,.cu es) (bw.2 (.inl rfl)) n ((DT n).1 hn)
   exact ⟨fun h=>(this.1 h).elim,fun h=>h.elim⟩
  ·exact r.sep e (bw.2 (.inr he)) n hn
theorem de.same {w:World} {S:Nat→Prop} {h h':Heap} (r:de w S h) (hp:h.Perm h'):de w S h'∧kT w S h w S h':=
 ⟨r.perm hp,rfl,rfl,rfl,ai _,fun n hn=>⟨hn,rfl⟩,fun n _ _=>⟨rfl,id⟩,fun n ⟨e,he,hn⟩=>.inl ⟨e,hp.mem_iff.2 he,hn⟩,fun _=>ai _⟩
def KY (xs:List (Bk×PO)):Heap:=xs.map fun e=>(e.1,e.2.ob)
theorem zY {w:World} {S:Nat→Prop} {bp:Bk} {Au:List (Bk×PO)}:∀ (xs es:List (Bk×PO)) {hp cQ:Heap},de w S hp→mF hp bp (.cu es) bp (.cu Au) cQ→es.Perm (xs++Au)→de w S (KY xs++cQ)∧kT w S hp w S (KY xs++cQ)
 | [],es,hp,cQ,r,u,h=>F3 r u h
 | x :: xs,es,hp,cQ,r,u,h=>by
   obtain ⟨h2,u1,u2⟩:=u.mid bp (.cu (xs++Au))
   obtain ⟨r1,e1⟩:=F0 r u1 h
   obtain ⟨r2,e2⟩:=zY xs (xs++Au) r1 (.next u2) (d1 _)
   obtain ⟨r3,e3⟩:=r2.same (h':=KY (x :: xs)++cQ) dn
   exact ⟨r3,(e1.trans e2).trans e3⟩
theorem BG {w:World} {S:Nat→Prop} {bp:Bk} {es:List (Bk×PO)}:∀ (xs Au:List (Bk×PO)) {vc cQ:Heap},de w S (KY xs++vc)→mF vc bp (.cu es) bp (.cu Au) cQ→Au.Perm (xs++es)→de w S cQ∧kT w S (KY xs++vc) w S cQ
 | [],Au,vc,cQ,r,u,h=>F3 r u h.symm
 | x :: xs,Au,vc,cQ,r,u,h=>by
   obtain ⟨h2,u1,u2⟩:=u.mid bp (.cu (xs++es))
   obtain ⟨r0,e0⟩:=r.same (h':=KY xs++(x.1,x.2.ob) :: vc) dn.symm
   obtain ⟨r1,e1⟩:=BG xs (xs++es) r0 (.next u1) (d1 _)
   obtain ⟨r2,e2⟩:=DU r1 .here u2 h
   exact ⟨r2,(e0.trans e1).trans e2⟩
section ara
variable {V:Type}
def uH (kb:Bk→(Nat→Bk)→V→List (Bk×PO)) (bo:Nat→Bk) (bs:Nat→Nat→Bk):Nat→List (Option V)→List (Bk×PO)
 | _,[]=>[]
 | i,some v :: r=>kb (bo i) (bs i) v++uH kb bo bs (i+1) r
 | i,none :: r=>uH kb bo bs (i+1) r
def iK (kb:Bk→(Nat→Bk)→V→List (Bk×PO)) (bo:Nat→Bk) (bs:Nat→Nat→Bk) (M:List V):List (Bk×PO):=uH kb bo bs 0 (M.map some)
def E8 (kb:Bk→(Nat→Bk)→V→List (Bk×PO)) (bo:Nat→Bk) (bs:Nat→Nat→Bk) (M:List V) (i:Int):List (Bk×PO):=uH kb bo bs 0 ((M.map some).set i.toNat none)
variable {kb:Bk→(Nat→Bk)→V→List (Bk×PO)} {bo yk:Nat→Bk} {bs xZ:Nat→Nat→Bk}
theorem w9:∀ (l:List (Option V)) (i:Nat),(∀ j v,l[j]? =some (some v)→bo (i+j)=yk (i+j)∧bs (i+j)=xZ (i+j))→uH kb bo bs i l=uH kb yk xZ i l
 | [],_,_=>rfl
 | some v :: r,i,h=>by
   obtain ⟨h1,h2⟩:=h 0 v rfl
   show kb (bo i) (bs i) v++uH kb bo bs (i+1) r=kb (yk i) (xZ i) v++uH kb yk xZ (i+1) r
   rw [show bo i=yk i from h1,show bs i=xZ i from h2,w9 r (i+1) (fun j v hj=>by
    have:=h (j+1) v (by simpa using hj)
    rw [show i+1+j=i+(j+1) by omega];exact this)]
 | none :: r,i,h=>w9 r (i+1) (fun j v hj=>by
  have:=h (j+1) v (by simpa using hj)
  rw [show i+1+j=i+(j+1) by omega];exact this)
theorem D4:∀ (l:List (Option V)) (i j:Nat) (v:V),l[j]? =some none→(uH kb bo bs i (l.set j (some v))).Perm (kb (bo (i+j)) (bs (i+j)) v++uH kb bo bs i l)
 | [],_,_,_,h=>by simp at h
 | o :: r,i,0,v,h=>by
   obtain rfl:o=none:=by simpa using h
   exact d1 _
 | some u :: r,i,j+1,v,h=>by
   have:=D4 r (i+1) j v (by simpa using h)
   rw [show i+1+j=i+(j+1) by omega] at this
   show (kb (bo i) (bs i) u++uH kb bo bs (i+1) (r.set j (some v))).Perm _
   refine (cK _ this).trans ?_
   show (kb (bo i) (bs i) u++(kb (bo (i+(j+1))) (bs (i+(j+1))) v++uH kb bo bs (i+1) r)).Perm (kb (bo (i+(j+1))) (bs (i+(j+1))) v++(kb (bo i) (bs i) u++uH kb bo bs (i+1) r))
   rw [← d2,← d2]
   exact eY _ dY
 | none :: r,i,j+1,v,h=>by
   have:=D4 r (i+1) j v (by simpa using h)
   rw [show i+1+j=i+(j+1) by omega] at this
   exact this
theorem D5:∀ (l m:List (Option V)) (i:Nat),uH kb bo bs i (l++m)=uH kb bo bs i l++uH kb bo bs (i+l.length) m
 | [],m,i=>rfl
 | some v :: r,m,i=>by
   show kb (bo i) (bs i) v++uH kb bo bs (i+1) (r++m)=(kb (bo i) (bs i) v++uH kb bo bs (i+1) r)++uH kb bo bs (i+(r.length+1)) m
   rw [D5 r m (i+1),d2,show i+1+r.length=i+(r.length+1) by omega]
 | none :: r,m,i=>by
   show uH kb bo bs (i+1) (r++m)=uH kb bo bs (i+1) r++uH kb bo bs (i+(r.length+1)) m
   rw [D5 r m (i+1),show i+1+r.length=i+(r.length+1) by omega]
theorem F4 {M M':List V} {i:Int} {v v':V} {s:Nat→Bk} (h:idx M i=some v) (hM:M'=M.set i.toNat v') (hs:xZ=fun j=>if j=i.toNat then s else bs j):(iK kb bo xZ M').Perm (kb (bo i.toNat) s v'++E8 kb bo bs M i):=by
 obtain ⟨h0,h1,h2⟩:=jX h
 unfold iK E8
 have hl:(M.map some)[i.toNat]? =some (some v):=by rw [ac,h2];rfl
 have eI:i.toNat < (M.map some).length:=(a6.1 hl).1
 have hn:((M.map some).set i.toNat none)[i.toNat]? =some none:=by rw [List.getElem?_set_self eI]
 have e1:M'.map some=((M.map some).set i.toNat none).set i.toNat (some v'):=by rw [hM,ce,List.set_set]
 rw [e1]
 have:=D4 (kb:=kb) (bo:=bo) (bs:=xZ) ((M.map some).set i.toNat none) 0 i.toNat v' hn
 rw [cf] at this
 refine this.trans ?_
 rw [show xZ i.toNat=s by rw [hs];simp]
 refine cK _ ?_
 rw [w9 (yk:=bo) (xZ:=bs) ((M.map some).set i.toNat none) 0 (fun j u hj=>by
  rw [cf]
  refine ⟨rfl,?_⟩
  have:j≠i.toNat:=fun e=>by rw [e,hn] at hj;simp at hj
  rw [hs];simp [this])]
theorem F5 {M:List V} {i:Int} {v:V} (h:idx M i=some v):(iK kb bo bs M).Perm (kb (bo i.toNat) (bs i.toNat) v++E8 kb bo bs M i):=
 F4 h (wk (jX h).2.2).symm (by funext j;split<;>simp_all)
theorem Py {M:List V} {b:Bk} {s:Nat→Bk} {v:V} (h1:∀ j,j < M.length→yk j=bo j) (h2:yk M.length=b) (h3:∀ j,j < M.length→xZ j=bs j) (h4:xZ M.length=s):(iK kb yk xZ (M++[v])).Perm (kb b s v++iK kb bo bs M):=by
 unfold iK
 rw [cb,D5,e5,cf]
 have e1:uH kb yk xZ M.length ([v].map some)=kb b s v:=by
  show kb (yk M.length) (xZ M.length) v++[]=_
  rw [h2,h4,e6]
 rw [e1,w9 (yk:=bo) (xZ:=bs) (M.map some) 0 (fun j u hj=>by
  have:j < M.length:=by
   have:=(a6.1 hj).1
   simpa using this
  rw [cf]
  exact ⟨h1 j this,h3 j this⟩)]
 exact dY
end ara
theorem aj.SE {n:Nat} {tm:List (Nat×AV)} {hp:Heap} {T:St→Prop} {V:Type} {kb:Bk→(Nat→Bk)→V→List (Bk×PO)} (k:∀ (bp:Bk) (bo:Nat→Bk) (bs:Nat→Nat→Bk),aj ⟨n,tm,(bp,.cu (iK kb bo bs [])) :: hp⟩ T):aj ⟨n,tm,hp⟩ T:=by
 refine aj.step (Ar:=⟨n,tm,(⟨none,0⟩,.cu (iK kb (fun _=>⟨none,0⟩) (fun _ _=>⟨none,0⟩) [])) :: hp⟩) (fun w S a r=>?_) (k _ _ _)
 obtain ⟨g1,g2,g3⟩:=pg (b:=⟨none,0⟩) (o:=.cu []) r.hp (Ext.refl w) id ⟨rfl,by simp⟩ (.inl rfl)
 exact ⟨_,S,rfl,r.heap g3 g1,g2⟩
theorem aj.SF {n:Nat} {tm:List (Nat×AV)} {hp cQ:Heap} {T:St→Prop} {V:Type} {kb:Bk→(Nat→Bk)→V→List (Bk×PO)} {bo:Nat→Bk} {bs:Nat→Nat→Bk} {M:List V} {i:Int} {v:V} {bp:Bk} (h:idx M i=some v) (u:mF hp bp (.cu (iK kb bo bs M)) bp (.cu (E8 kb bo bs M i)) cQ)
 (k:aj ⟨n,tm,KY (kb (bo i.toNat) (bs i.toNat) v)++cQ⟩ T):aj ⟨n,tm,hp⟩ T:=by
 refine aj.step (fun w S a r=>?_) k
 obtain ⟨g1,g2⟩:=zY _ _ r.hp u (F5 h)
 exact ⟨_,S,rfl,r.heap (fun m hm=>⟨hm,rfl⟩) g1,g2⟩
theorem aj.Vz {n:Nat} {tm:List (Nat×AV)} {hp vc h0:Heap} {cQ:(Nat→Nat→Bk)→Heap} {T:St→Prop} {V:Type} {kb:Bk→(Nat→Bk)→V→List (Bk×PO)} {bo:Nat→Bk} {bs:Nat→Nat→Bk} {M M':List V} {i:Int} {v v':V} {b0 bp:Bk} {s:Nat→Bk} (h:idx M i=some v) (hb:b0=bo i.toNat) (hM:M'=M.set i.toNat v') (hs:HR hp h0 vc) (ho:h0=KY (kb b0 s v')) (u:∀ xZ,mF vc bp (.cu (E8 kb bo bs M i)) bp (.cu (iK kb bo xZ M')) (cQ xZ))
 (k:∀ xZ,aj ⟨n,tm,cQ xZ⟩ T):aj ⟨n,tm,hp⟩ T:=by
 refine aj.step (Ar:=⟨n,tm,cQ (fun j=>if j=i.toNat then s else bs j)⟩) (fun w S a r=>?_) (k _)
 obtain ⟨g0,e0⟩:=r.hp.same hs.perm
 rw [ho] at g0 e0
 obtain ⟨g1,g2⟩:=BG _ _ g0 (u (fun j=>if j=i.toNat then s else bs j)) (by rw [hb];exact F4 h hM rfl)
 exact ⟨_,S,rfl,r.heap (fun m hm=>⟨hm,rfl⟩) g1,e0.trans g2⟩
theorem aj.VA {n:Nat} {tm:List (Nat×AV)} {hp vc h0:Heap} {cQ:(Nat→Bk)→(Nat→Nat→Bk)→Heap} {T:St→Prop} {V:Type} {kb:Bk→(Nat→Bk)→V→List (Bk×PO)} {bo:Nat→Bk} {bs:Nat→Nat→Bk} {M:List V} {v:V} {b bp:Bk} {s:Nat→Bk} (hs:HR hp h0 vc) (ho:h0=KY (kb b s v)) (u:∀ yk xZ,mF vc bp (.cu (iK kb bo bs M)) bp (.cu (iK kb yk xZ (M++[v]))) (cQ yk xZ))
 (k:∀ yk xZ,(∀ j,j < M.length→yk j=bo j)→yk M.length=b→aj ⟨n,tm,cQ yk xZ⟩ T):aj ⟨n,tm,hp⟩ T:=by
 have c1:∀ j,j < M.length→(fun j=>if j=M.length then b else bo j) j=bo j:=fun j hj=>if_neg (by omega)
 have c2:(fun j=>if j=M.length then b else bo j) M.length=b:=if_pos rfl
 refine aj.step (Ar:=⟨n,tm,cQ (fun j=>if j=M.length then b else bo j) (fun j=>if j=M.length then s else bs j)⟩) (fun w S a r=>?_) (k _ _ c1 c2)
 obtain ⟨g0,e0⟩:=r.hp.same hs.perm
 rw [ho] at g0 e0
 obtain ⟨g1,g2⟩:=BG _ _ g0 (u (fun j=>if j=M.length then b else bo j) (fun j=>if j=M.length then s else bs j)) (Py c1 c2 (fun j hj=>if_neg (by omega)) (if_pos rfl))
 exact ⟨_,S,rfl,r.heap (fun m hm=>⟨hm,rfl⟩) g1,e0.trans g2⟩
theorem aj.aaE {n:Nat} {tm:List (Nat×AV)} {hp cQ:Heap} {T:St→Prop} {b:Bk} {o o':Ob} (he:o=o') (u:mF hp b o b o' cQ) (k:aj ⟨n,tm,cQ⟩ T):aj ⟨n,tm,hp⟩ T:=by
 subst he
 rw [FL u] at k
 exact k
def VB (n:Nat) (l:List Int):Option Unit:=if ∀ x∈l,0≤x∧x < n then some () else none
theorem Pz {n:Nat} {l:List Int} {u:Unit} (h:VB n l=some u):∀ x∈l,0≤x∧x < n:=by
 unfold VB at h
 split at h
 ·assumption
 ·cases h
def pA (bo:Nat→Bk) (i:Int):AV:=.ptr (bo i.toNat) 0
theorem Yb {bo yk:Nat→Bk} {N:Nat} (h:∀ j,j < N→yk j=bo j) {i:Int} (hi:0≤i∧i < N):pA bo i=pA yk i:=by
 unfold pA;rw [h i.toNat (by omega)]
theorem VC {K:Type} {gk:K→AV} {bo yk:Nat→Bk} {N:Nat} (h:∀ j,j < N→yk j=bo j) {M:List (K×Int)} {u:Unit} (hg:VB N (M.map Prod.snd)=some u):(M.map fun e=>(gk e.1,pA bo e.2))=M.map fun e=>(gk e.1,pA yk e.2):=
 List.map_congr_left fun e he=>by rw [Yb h (Pz hg e.2 (bv.2 ⟨e,he,rfl⟩))]
theorem VD {bo:Nat→Bk} {N:Nat} {b:Bk} (h:bo N=b) (o:Nat):AV.ptr (bo (N:Int).toNat) o=AV.ptr b o:=by
 rw [e8,h]
section rules
variable {P:Program} {all:Array Oper} {rest:List Oper} {n:Nat} {tm:List (Nat×AV)} {hp:Heap} {Q:St→Prop} {d:Nat} {ty:TypeId} {pos:String} {af:Array Edge}
theorem D6 {K:Type} [DecidableEq K] {gk:K→AV} {gv:Int→AV} {M:List (K×Int)} {key:K} {t kt vt:TypeId} {i:TypeInfo} {x y:Operand} {b:Bk} [aC P t (.map kt vt)] [a8 P vt i] [dD P kt gk] (hx:du tm x=some (.bV b)) (hy:du tm y=some (gk key)) (f:mh hp b (.mp (M.map fun e=>(gk e.1,gv e.2)))) (hz:i.zero=some (.pointer none)) (h:bh M key=none):
 QV P ⟨some d,.lookup t x y false,ty,pos,af,none⟩ ⟨n,tm,hp⟩ (.raw (.pointer none)):=by
 intro w S a r
 have kx:=bl (σ:=⟨n,tm,hp⟩) r hx
 have ky:=bl (σ:=⟨n,tm,hp⟩) r hy
 obtain ⟨nb,hb,ex⟩:=kx.jY
 obtain ⟨L,c,M',yX,cC,p1,p2,p3,p4,p5,p6,p7,p8⟩:=qs (dD.inj P kt) r.hp f
 obtain rfl:yX=nb:=by rw [p4] at hb;exact aa hb
 rw [← je p1 p8] at h
 have ju:=dD.find (P:=P) (t:=kt) (g:=gk) ky cC.toList (M'.map ap) (by simpa using p6.symm) (fun j k' e h1 h2=>by
  rw [ac] at h1
  cases hm:M'[j]? with
  | none=>rw [hm] at h1;cases h1
  | some q=>rw [hm] at h1;rw [← aa h1];exact (p7 j q e hm h2).1)
 rcases nE (gv:=gv) (w:=w) (S:=S) (k:=key) M' cC.toList 0 p6.symm (fun j e m h1 h2=>(p7 j e m h1 h2).2) with ⟨q1,q2⟩ | ⟨v',j,val,q1,q2,q3,_⟩
 ·refine ⟨.pointer none,fun w1 e1=>?_,.raw _⟩
  simp [execOp,Instr.lookup,ex,run_underlying (aC.h (P:=P) (t:=t)),cY (e1.heap p5),dD.check (P:=P) (t:=kt) ky,ju,q2,zeroValue,typeInfo,a8.h (P:=P) (t:=vt),hz]
 ·rw [q1] at h;cases h
theorem zZ {K:Type} [DecidableEq K] {gk:K→AV} {gv:Int→AV} {M:List (K×Int)} {key:K} {v:Int} {t kt vt:TypeId} {i:TypeInfo} {x y:Operand} {b:Bk} [aC P t (.map kt vt)] [a8 P vt i] [dD P kt gk] (hx:du tm x=some (.bV b)) (hy:du tm y=some (gk key)) (f:mh hp b (.mp (M.map fun e=>(gk e.1,gv e.2)))) (h:bh M key=some v):
 QV P ⟨some d,.lookup t x y false,ty,pos,af,none⟩ ⟨n,tm,hp⟩ (gv v):=by
 intro w S a r
 have kx:=bl (σ:=⟨n,tm,hp⟩) r hx
 have ky:=bl (σ:=⟨n,tm,hp⟩) r hy
 obtain ⟨nb,hb,ex⟩:=kx.jY
 obtain ⟨L,c,M',yX,cC,p1,p2,p3,p4,p5,p6,p7,p8⟩:=qs (dD.inj P kt) r.hp f
 obtain rfl:yX=nb:=by rw [p4] at hb;exact aa hb
 rw [← je p1 p8] at h
 have ju:=dD.find (P:=P) (t:=kt) (g:=gk) ky cC.toList (M'.map ap) (by simpa using p6.symm) (fun j k' e h1 h2=>by
  rw [ac] at h1
  cases hm:M'[j]? with
  | none=>rw [hm] at h1;cases h1
  | some q=>rw [hm] at h1;rw [← aa h1];exact (p7 j q e hm h2).1)
 rcases nE (gv:=gv) (w:=w) (S:=S) (k:=key) M' cC.toList 0 p6.symm (fun j e m h1 h2=>(p7 j e m h1 h2).2) with ⟨q1,q2⟩ | ⟨v',j,val,q1,q2,q3,_⟩
 ·rw [q1] at h;cases h
 ·rw [q1] at h
  obtain rfl:=aa h
  refine ⟨val,fun w1 e1=>?_,q3⟩
  simp [execOp,Instr.lookup,ex,run_underlying (aC.h (P:=P) (t:=t)),cY (e1.heap p5),dD.check (P:=P) (t:=kt) ky,ju,q2]
theorem KZ {K:Type} [DecidableEq K] {gk:K→AV} {gv:Int→AV} {M:List (K×Int)} {key:K} {t kt vt:TypeId} {i:TypeInfo} {x y:Operand} {b:Bk} [aC P t (.map kt vt)] [a8 P vt i] [dD P kt gk] (hx:du tm x=some (.bV b)) (hy:du tm y=some (gk key)) (f:mh hp b (.mp (M.map fun e=>(gk e.1,gv e.2)))) (hz:i.zero=some (.pointer none)) (h:bh M key=none):
 QV P ⟨some d,.lookup t x y true,ty,pos,af,none⟩ ⟨n,tm,hp⟩ (.lM [.raw (.pointer none),.bool false]):=by
 intro w S a r
 have kx:=bl (σ:=⟨n,tm,hp⟩) r hx
 have ky:=bl (σ:=⟨n,tm,hp⟩) r hy
 obtain ⟨nb,hb,ex⟩:=kx.jY
 obtain ⟨L,c,M',yX,cC,p1,p2,p3,p4,p5,p6,p7,p8⟩:=qs (dD.inj P kt) r.hp f
 obtain rfl:yX=nb:=by rw [p4] at hb;exact aa hb
 rw [← je p1 p8] at h
 have ju:=dD.find (P:=P) (t:=kt) (g:=gk) ky cC.toList (M'.map ap) (by simpa using p6.symm) (fun j k' e h1 h2=>by
  rw [ac] at h1
  cases hm:M'[j]? with
  | none=>rw [hm] at h1;cases h1
  | some q=>rw [hm] at h1;rw [← aa h1];exact (p7 j q e hm h2).1)
 rcases nE (gv:=gv) (w:=w) (S:=S) (k:=key) M' cC.toList 0 p6.symm (fun j e m h1 h2=>(p7 j e m h1 h2).2) with ⟨q1,q2⟩ | ⟨v',j,val,q1,q2,q3,_⟩
 ·refine ⟨.tuple #[.pointer none,.bool false],fun w1 e1=>?_,.lM _ _ rfl (pd (.raw _) (.bool _))⟩
  simp [execOp,Instr.lookup,ex,run_underlying (aC.h (P:=P) (t:=t)),cY (e1.heap p5),dD.check (P:=P) (t:=kt) ky,ju,q2,zeroValue,typeInfo,a8.h (P:=P) (t:=vt),hz]
 ·rw [q1] at h;cases h
theorem K1 {K:Type} [DecidableEq K] {gk:K→AV} {gv:Int→AV} {M:List (K×Int)} {key:K} {v:Int} {t kt vt:TypeId} {i:TypeInfo} {x y:Operand} {b:Bk} [aC P t (.map kt vt)] [a8 P vt i] [dD P kt gk] (hx:du tm x=some (.bV b)) (hy:du tm y=some (gk key)) (f:mh hp b (.mp (M.map fun e=>(gk e.1,gv e.2)))) (h:bh M key=some v):
 QV P ⟨some d,.lookup t x y true,ty,pos,af,none⟩ ⟨n,tm,hp⟩ (.lM [gv v,.bool true]):=by
 intro w S a r
 have kx:=bl (σ:=⟨n,tm,hp⟩) r hx
 have ky:=bl (σ:=⟨n,tm,hp⟩) r hy
 obtain ⟨nb,hb,ex⟩:=kx.jY
 obtain ⟨L,c,M',yX,cC,p1,p2,p3,p4,p5,p6,p7,p8⟩:=qs (dD.inj P kt) r.hp f
 obtain rfl:yX=nb:=by rw [p4] at hb;exact aa hb
 rw [← je p1 p8] at h
 have ju:=dD.find (P:=P) (t:=kt) (g:=gk) ky cC.toList (M'.map ap) (by simpa using p6.symm) (fun j k' e h1 h2=>by
  rw [ac] at h1
  cases hm:M'[j]? with
  | none=>rw [hm] at h1;cases h1
  | some q=>rw [hm] at h1;rw [← aa h1];exact (p7 j q e hm h2).1)
 rcases nE (gv:=gv) (w:=w) (S:=S) (k:=key) M' cC.toList 0 p6.symm (fun j e m h1 h2=>(p7 j e m h1 h2).2) with ⟨q1,q2⟩ | ⟨v',j,val,q1,q2,q3,_⟩
 ·rw [q1] at h;cases h
 ·rw [q1] at h
  obtain rfl:=aa h
  refine ⟨.tuple #[val,.bool true],fun w1 e1=>?_,.lM _ _ rfl (pd q3 (.bool _))⟩
  simp [execOp,Instr.lookup,ex,run_underlying (aC.h (P:=P) (t:=t)),cY (e1.heap p5),dD.check (P:=P) (t:=kt) ky,ju,q2]
end rules
section todo
variable {P:Program} {R:St→Prop} {k:List It} {σ:St}
theorem cD {α:Type} {c:Operand} {x y:Code} {p:Prop} [Decidable p] {a b z:α} (h:(if p then a else b)=z) (hc:du σ.tm c=some (.bool (decide p))) (h1:a=z→ab P R (.code x :: k) σ) (h2:b=z→ab P R (.code y :: k) σ):ab P R (.code (.cond c x y) :: k) σ:=
 ab.UZ hc (fun hp=>h1 (pN hp h)) (fun hp=>h2 (AD hp h))
theorem cB {α:Type} {c:Operand} {x y:Code} {p:Bool} {a b z:α} (h:(if p=true then a else b)=z) (hc:du σ.tm c=some (.bool p)) (h1:a=z→ab P R (.code x :: k) σ) (h2:b=z→ab P R (.code y :: k) σ):ab P R (.code (.cond c x y) :: k) σ:=
 ab.cond hc (fun hp=>h1 (pN hp h)) (fun hp=>h2 (sn hp h))
end todo
section rules
variable {P:Program} {all:Array Oper} {rest:List Oper} {n:Nat} {tm:List (Nat×AV)} {hp:Heap} {Q:St→Prop} {d:Nat} {ty:TypeId} {pos:String} {af:Array Edge} {op:Op} {s:Nat} {j:Nat}
theorem gT {α:Type} {p:Prop} [Decidable p] {a b z:α} (h:(if p then a else b)=z) (hj:(all[j]?).bind (·.dst)=some s) (hs:lk tm s=some (.bool (decide p))) (hn:be d n=true) (h1:a=z→ae P all (⟨some d,op,ty,pos,af,none⟩ :: rest) ⟨n,(s,.bool true) :: tm,hp⟩ Q)
 (h2:b=z→ae P all rest ⟨n,(d,.raw undef) :: (s,.bool false) :: tm,hp⟩ Q):ae P all (⟨some d,op,ty,pos,af,some (j,true)⟩ :: rest) ⟨n,tm,hp⟩ Q:=
 ae.dJ hj hs hn (fun hp=>h1 (pN hp h)) (fun hp=>h2 (AD hp h))
theorem gF {α:Type} {p:Prop} [Decidable p] {a b z:α} (h:(if p then a else b)=z) (hj:(all[j]?).bind (·.dst)=some s) (hs:lk tm s=some (.bool (decide p))) (hn:be d n=true) (h1:b=z→ae P all (⟨some d,op,ty,pos,af,none⟩ :: rest) ⟨n,(s,.bool false) :: tm,hp⟩ Q)
 (h2:a=z→ae P all rest ⟨n,(d,.raw undef) :: (s,.bool true) :: tm,hp⟩ Q):ae P all (⟨some d,op,ty,pos,af,some (j,false)⟩ :: rest) ⟨n,tm,hp⟩ Q:=
 ae.dA hj hs hn (fun hp=>h1 (AD hp h)) (fun hp=>h2 (pN hp h))
end rules
theorem hP {P:Program} {σ:St} {s:Nat} {av:AV} {Q:List AV→St→Prop} (h1:lk σ.tm s=some av) (h2:Q [av] σ):aj σ (fun aJ=>∃ rs,Rs P aJ [.tmp s] rs∧Q rs aJ):=aj.here ⟨[av],.cons (.tmp _ _ h1) .nil,h2⟩
theorem cR {hp:Heap} {l:List AV}:By hp l l:=By.refl _
theorem hH {P:Program} {σ:St} {s:Nat} {av:AV} {Q:List AV→Heap→Prop} {cQ:Heap} (h1:lk σ.tm s=some av) (is:List Nat) (hs:DS σ.hp is=some cQ) (h2:Q [av] cQ):aj σ (fun aJ=>∃ rs,Rs P aJ [.tmp s] rs∧(∃ h',HS aJ.hp h'∧Q rs h')):=aj.here ⟨[av],.cons (.tmp _ _ h1) .nil,cQ,AO hs,h2⟩
theorem hQ {P:Program} {σ:St} {s t:Nat} {av aw:AV} {Q:List AV→St→Prop} (h1:lk σ.tm s=some av) (GA:lk σ.tm t=some aw) (h2:Q [av,aw] σ):aj σ (fun aJ=>∃ rs,Rs P aJ [.tmp s,.tmp t] rs∧Q rs aJ):=aj.here ⟨[av,aw],.cons (.tmp _ _ h1) (.cons (.tmp _ _ GA) .nil),h2⟩
theorem hI {P:Program} {σ:St} {s t:Nat} {av aw:AV} {Q:List AV→Heap→Prop} {cQ:Heap} (h1:lk σ.tm s=some av) (GA:lk σ.tm t=some aw) (is:List Nat) (hs:DS σ.hp is=some cQ) (h2:Q [av,aw] cQ):aj σ (fun aJ=>∃ rs,Rs P aJ [.tmp s,.tmp t] rs∧(∃ h',HS aJ.hp h'∧Q rs h')):=aj.here ⟨[av,aw],.cons (.tmp _ _ h1) (.cons (.tmp _ _ GA) .nil),cQ,AO hs,h2⟩
end Go.Eng
namespace Go.Eng
open Go
end Go.Eng
namespace Go.Eng
open Go
variable [bU]
inductive CD:Type 1 where
 | v (a:AV)
 | l {α:Type} (sz:Nat) (g:α→AV) (xs:List α)
def PA (s:Nat→Bk):Nat→List CD→List AV
 | _,[]=>[]
 | k,.v a :: r=>a :: PA s k r
 | k,.l sz _ xs :: r=>.sl sz (s k) 0 xs.length :: PA s (k+1) r
def VE (s:Nat→Bk):Nat→List CD→List (Bk×PO)
 | _,[]=>[]
 | k,.v _ :: r=>VE s k r
 | k,.l sz g xs :: r=>(s k,.arr sz (xs.map g)) :: VE s (k+1) r
def SG:List CD→List AV
 | []=>[]
 | .v a :: r=>a :: SG r
 | .l sz g xs :: r=>.list sz (xs.map g) :: SG r
theorem K2 (s:Nat→Bk):∀ (k:Nat) (D:List CD),(PA s k D).length=(SG D).length
 | _,[]=>rfl
 | k,.v a :: r=>congrArg (· +1) (K2 s k r)
 | k,.l sz g xs :: r=>congrArg (· +1) (K2 s (k+1) r)
structure KB {V:Type} (kb:Bk→(Nat→Bk)→V→List (Bk×PO)) (fs:V→List AV):Prop where
 ok:∃ D:V→List CD,(∀ b s v,kb b s v=(b,.cells (PA s 0 (D v))) :: VE s 0 (D v))∧∀ v,fs v=SG (D v)
theorem z8 {b:Bk} {o:Ob}:∀ {h:Heap},(b,o)∈h→mh h b o
 | [],h=>by simp at h
 | e :: r,h=>by
   rcases e9.1 h with rfl | h
   ·exact .here
   ·exact .next (z8 h)
theorem K3 {s:Nat→Bk} {hp:Heap}:∀ (D:List CD) (k:Nat),(∀ e∈VE s k D,mh hp e.1 e.2.ob)→∀ (i:Nat) c c',(PA s k D)[i]? =some c→(SG D)[i]? =some c'→lD hp c c'
 | [],_,_,i,c,c',h,_=>by simp [PA] at h
 | .v a :: r,k,hf,i,c,c',h,h'=>by
   match i with
   | 0=>
     simp only [PA,SG,fd,d3] at h h'
     subst h;subst h';exact .co (.refl _)
   | i+1=>exact K3 r k (fun e he=>hf e (by simpa [VE] using he)) i c c' (by simpa [PA] using h) (by simpa [SG] using h')
 | .l sz g xs :: r,k,hf,i,c,c',h,h'=>by
   match i with
   | 0=>
     simp only [PA,SG,fd,d3] at h h'
     subst h;subst h'
     exact .arr sz (s k) _ _ (hf (s k,.arr sz (xs.map g)) (by simp [VE])) (by simp)
   | i+1=>exact K3 r (k+1) (fun e he=>hf e (by simp only [VE,e9];exact .inr he)) i c c' (by simpa [PA] using h) (by simpa [SG] using h')
theorem SH {e:Bk×PO} {l:List (Bk×PO)} (h:e∈l):(e.1,e.2.ob)∈KY l:=bv.2 ⟨e,h,rfl⟩
theorem KB.cob {V:Type} {kb:Bk→(Nat→Bk)→V→List (Bk×PO)} {fs:V→List AV} (K:KB kb fs) (b:Bk) (s:Nat→Bk) (v:V) (cQ:Heap):lD (KY (kb b s v)++cQ) (.ptr b 0) (.ch (fs v)):=by
 obtain ⟨D,h1,h2⟩:=K.ok
 rw [h2]
 refine .box b (PA s 0 (D v)) _ (z8 (bW _ ?_)) (K2 s 0 (D v)).symm (K3 (D v) 0 fun e he=>z8 (bW _ (SH ?_)))
 ·rw [h1];exact da ..
 ·rw [h1];exact b9 _ he
def E9:List (Bk×PO)→Heap→Option Heap
 | [],r=>some r
 | (b,.cells cs) :: l,r=>match E9 l r with
   | some m=>some ((b,.cells cs) :: m)
   | none=>none
 | (b,.arr sz xs) :: l,r=>match E9 l r with
   | some m=>some ((b,.arr sz xs) :: m)
   | none=>none
theorem AU:∀ {l:List (Bk×PO)} {r m:Heap},E9 l r=some m→KY l++r=m
 | [],r,m,h=>aa h
 | (b,.cells cs) :: l,r,m,h=>by
   unfold E9 at h
   split at h
   ·rename_i m' hm
    obtain rfl:=aa h
    rw [← AU hm];rfl
   ·cases h
 | (b,.arr sz xs) :: l,r,m,h=>by
   unfold E9 at h
   split at h
   ·rename_i m' hm
    obtain rfl:=aa h
    rw [← AU hm];rfl
   ·cases h
theorem IS {l:List (Bk×PO)} {m:Heap} (h:E9 l []=some m):m=KY l:=by rw [← AU h,e6]
section view
variable {V:Type} {kb:Bk→(Nat→Bk)→V→List (Bk×PO)} {fs:V→List AV} {bo:Nat→Bk} {bs:Nat→Nat→Bk} {M:List V} {i:Int} {v:V} {hp cQ RD:Heap} {b bp:Bk}
theorem IT {w:World} {S:Nat→Prop} (r:de w S hp) (h:idx M i=some v) (u:mF hp bp (.cu (iK kb bo bs M)) bp (.cu (E8 kb bo bs M i)) cQ):de w S (KY (kb (bo i.toNat) (bs i.toNat) v)++cQ)∧∀ n,Has (KY (kb (bo i.toNat) (bs i.toNat) v)++cQ) n→Has hp n:=by
 obtain ⟨r1,e1⟩:=zY _ _ r u (F5 h)
 refine ⟨r1,fun n hn=>?_⟩
 rcases e1.new n hn with h | h
 ·exact h
 ·have:=r1.lt hn;omega
theorem QV.ara {P:Program} {o:Oper} {n:Nat} {tm:List (Nat×AV)} {av:AV} (h:idx M i=some v) (u:mF hp bp (.cu (iK kb bo bs M)) bp (.cu (E8 kb bo bs M i)) cQ) (e:E9 (kb (bo i.toNat) (bs i.toNat) v) cQ=some RD) (q:QV P o ⟨n,tm,RD⟩ av):QV P o ⟨n,tm,hp⟩ av:=by
 intro w S a r
 have:=AU e
 subst this
 exact q w S a ⟨r.size,r.defers,r.tm,(IT r.hp h u).1⟩
theorem SJ {o:Ob} {hp:Heap} (f:mh hp b o) (o':Ob):∃ cQ,mF hp b o b o' cQ:=by
 induction f with
 | here=>exact ⟨_,.here⟩
 | next _ ih=>obtain ⟨h,u⟩:=ih;exact ⟨_,.next u⟩
 | skip _ ih=>obtain ⟨h,u⟩:=ih;exact ⟨_,.skip u⟩
theorem lD.aaF (K:KB kb fs) (h:idx M i=some v) (f:mh hp bp (.cu (iK kb bo bs M))):lD hp (pA bo i) (.ch (fs v)):=by
 obtain ⟨cQ,u⟩:=SJ f (.cu (E8 kb bo bs M i))
 refine .LI fun w S x r at_=>?_
 obtain ⟨r1,r2⟩:=IT r h u
 exact ((K.cob (bo i.toNat) (bs i.toNat) v cQ).at r1 at_).mono fun m hm=>⟨hm.imp id (r2 m),rfl⟩
theorem lD.Cq (K:KB kb fs) (h:idx M i=some v) (f:mh hp bp (.cu (iK kb bo bs M))):lD hp (.ptr (bo i.toNat) 0) (.ch (fs v)):=lD.aaF K h f
end view
theorem aj.PB {n:Nat} {tm:List (Nat×AV)} {hp cQ RD:Heap} {T:St→Prop} {V:Type} {kb:Bk→(Nat→Bk)→V→List (Bk×PO)} {bo:Nat→Bk} {bs:Nat→Nat→Bk} {M:List V} {i:Int} {v:V} {bp:Bk} (h:idx M i=some v) (u:mF hp bp (.cu (iK kb bo bs M)) bp (.cu (E8 kb bo bs M i)) cQ) (e:E9 (kb (bo i.toNat) (bs i.toNat) v) cQ=some RD)
 (k:aj ⟨n,tm,RD⟩ T):aj ⟨n,tm,hp⟩ T:=aj.SF h u (by rw [AU e];exact k)
theorem aj.SK {n:Nat} {tm:List (Nat×AV)} {hp vc h0:Heap} {cQ:(Nat→Nat→Bk)→Heap} {T:St→Prop} {V:Type} {kb:Bk→(Nat→Bk)→V→List (Bk×PO)} {bo:Nat→Bk} {bs:Nat→Nat→Bk} {M:List V} {i:Int} {v v':V} {bp:Bk} {s:Nat→Bk} (h:idx M i=some v) (hs:HR hp h0 vc) (ho:E9 (kb (bo i.toNat) s v') []=some h0) (u:∀ xZ,mF vc bp (.cu (E8 kb bo bs M i)) bp (.cu (iK kb bo xZ (M.set i.toNat v'))) (cQ xZ))
 (k:∀ xZ,aj ⟨n,tm,cQ xZ⟩ T):aj ⟨n,tm,hp⟩ T:=aj.Vz h rfl rfl hs (IS ho) u k
theorem aj.SL {n:Nat} {tm:List (Nat×AV)} {hp vc h0:Heap} {cQ:(Nat→Bk)→(Nat→Nat→Bk)→Heap} {T:St→Prop} {V:Type} {kb:Bk→(Nat→Bk)→V→List (Bk×PO)} {bo:Nat→Bk} {bs:Nat→Nat→Bk} {M:List V} {v:V} {b bp:Bk} {s:Nat→Bk} (hs:HR hp h0 vc) (ho:E9 (kb b s v) []=some h0) (u:∀ yk xZ,mF vc bp (.cu (iK kb bo bs M)) bp (.cu (iK kb yk xZ (M++[v]))) (cQ yk xZ))
 (k:∀ yk xZ,(∀ j,j < M.length→yk j=bo j)→yk M.length=b→aj ⟨n,tm,cQ yk xZ⟩ T):aj ⟨n,tm,hp⟩ T:=aj.VA hs (IS ho) u k
theorem SN {α:Type} (M:List α) (v:α):idx (M++[v]) (M.length:Int)=some v:=by
 unfold idx
 rw [if_pos (Int.natCast_nonneg _),e8,List.getElem?_append_right (ai _),Nat.sub_self];rfl
theorem PC {bo:Nat→Bk} {N:Nat} {b:Bk} (h:bo N=b) (o:Nat):AV.ptr (bo ((N:Nat):Int).toNat) o=AV.ptr b o:=VD h o
theorem Yc {K:Type} {gk:K→AV} {bo yk:Nat→Bk} {N:Nat} (h:∀ j,j < N→yk j=bo j) {M:List (K×Int)} {u:Unit} (hg:VB N (M.map Prod.snd)=some u):Ob.mp (M.map fun e=>(gk e.1,pA bo e.2))=Ob.mp (M.map fun e=>(gk e.1,pA yk e.2)):=congrArg Ob.mp (VC h hg)
def nbk (l:List Bk) (k:Nat):Bk:=l.getD k ⟨none,0⟩
end Go.Eng
namespace Go.Eng
open Go Go.Sort Go.Proofs
variable [bU]
end Go.Eng
namespace Go.Eng
open Go
variable [bU]
def PE (cs:List AV):List Nat→List (Nat×AV)→List (Nat×AV)
 | [],tm=>tm
 | s :: r,tm=>(s,.ch cs) :: PE cs r tm
theorem L4 {cs:List AV} {tm:List (Nat×AV)} {t:Nat} {av:AV}:∀ {ss:List Nat},lk (PE cs ss tm) t=some av→(t∈ss∧av=.ch cs)∨lk tm t=some av
 | [],h=>.inr h
 | s :: r,h=>by
   simp only [PE,lk] at h
   split at h
   ·rename_i hb
    obtain rfl:s=t:=by simpa using hb
    exact .inl ⟨by simp,(aa h).symm⟩
   ·rcases L4 h with ⟨h1,h2⟩ | h1
    ·exact .inl ⟨b9 _ h1,h2⟩
    ·exact .inr h1
theorem aj.SO {n:Nat} {ss:List Nat} {tm:List (Nat×AV)} {hp vc:Heap} {T:St→Prop} {b:Bk} {cs:List AV} (hs:∀ s∈ss,lk tm s=some (.ptr b 0)) (dl:x7 hp b (.cells cs) vc) (k:aj ⟨n,PE cs ss tm,vc⟩ T):aj ⟨n,tm,hp⟩ T:=by
 refine aj.step (Ar:=⟨n,PE cs ss tm,vc⟩) (fun w S a r=>?_) k
 obtain ⟨p,q,rfl,rfl⟩:=dl.split
 have lK:(b,Ob.cells cs)∈p++(b,.cells cs) :: q:=bw.2 (.inl rfl)
 obtain ⟨h1,m0,vs,E,B8,hh,jc,ha⟩:=r.hp.holds _ lK
 have H4:∀ m,b.cH=some m→m < w.heap.size:=fun m hm=>r.hp.lt ⟨_,lK,fF hm⟩
 let S':Nat→Prop:=fun m=>S m∨b.cH=some m
 have mono:∀ m,S m→S' m∧w.heap[m]? =w.heap[m]?:=fun m hm=>⟨.inl hm,rfl⟩
 have um:=r.hp.nodup
 have nU:(p++q).Sublist (p++(b,Ob.cells cs) :: q):=cl (cm _) (cn _ _)
 have uB:de w S' (p++q):=by
  refine ⟨um.sublist (th nU),fun e he=>(r.hp.holds e (nU.subset he)).mono mono (fun _ _=>rfl),fun e he m hm=>?_,fun m hm=>?_,fun g o ho=>⟨.inl (r.hp.gh g o ho).1,(r.hp.gh g o ho).2⟩⟩
  ·rw [← r.hp.sep e (nU.subset he) m hm]
   refine ⟨fun hs=>hs.elim id fun hb=>?_,.inl⟩
   exfalso
   rw [bO,b8,bc,bc] at um
   rcases bi.1 he with h | h
   ·exact um.2.2 m (a7.2 ⟨e,h,hm⟩) m (bW _ (fF hb)) rfl
   ·exact um.2.1.2.2 m (fF hb) m (a7.2 ⟨e,h,hm⟩) rfl
  ·rcases hm with h | h
   ·exact r.hp.slt m h
   ·exact H4 m h
 have hr:=r.heap mono uB
 refine ⟨_,S',rfl,⟨hr.size,hr.defers,fun t av h=>?_,hr.hp⟩,rfl,rfl,rfl,ai _,mono,fun m hm hh=>⟨rfl,fun hs=>hs.elim id fun hb=>(hh ⟨_,lK,fF hb⟩).elim⟩,fun m hm=>.inl ?_,fun _=>ai _⟩
 ·rcases L4 h with ⟨ht,rfl⟩ | h
  ·obtain ⟨v,e1,e2⟩:=hr.tm t _ (hs t ht)
   cases e2 with
   | ptr _ _ m hb=>
     obtain rfl:=aa (hb.symm.trans B8)
     refine ⟨_,e1,.ch cs ⟨m,0,none⟩ vs.toList (by simp [jc]) (fun i c v hc hv=>(ha i c v hc (by simpa using hv)).mono mono) rfl (.inr hb) (fun i v hv=>?_)⟩
     rw [nB hh];simpa using hv
  ·exact hr.tm t av h
 ·obtain ⟨e,he,hb⟩:=hm
  exact ⟨e,nU.subset he,hb⟩
def pQ (bo:Nat→Bk):Option Int→AV
 | none=>.raw (.pointer none)
 | some i=>pA bo i
def tt {K:Type} (M:List (K×Int)):List (K×Option Int):=M.map fun e=>(e.1,some e.2)
theorem F6 {K:Type} {gk:K→AV} (bo:Nat→Bk) (M:List (K×Int)):((tt M).map fun e=>(gk e.1,pQ bo e.2))=M.map fun e=>(gk e.1,pA bo e.2):=by
 unfold tt;rw [dg];rfl
theorem F7 {K:Type} [DecidableEq K] (k:K):∀ (M:List (K×Int)),oJ (tt M) k none=some (bh M k)
 | []=>rfl
 | e :: M=>by
   have ih:=F7 k M
   unfold oJ tt at ih ⊢
   rw [b6]
   unfold bh
   by_cases h:e.1=k
   ·rw [if_pos h,if_pos h];rfl
   ·rw [if_neg h,if_neg h];exact ih
theorem D7 {K:Type} [DecidableEq K] [vU K] (k:K) (v:Int):∀ (M:List (K×Int)),wi k (some v) (tt M)=tt (wi k v M)
 | []=>rfl
 | e :: M=>by
   have ih:=D7 k v M
   unfold tt at ih ⊢
   rw [b6]
   unfold wi
   by_cases h:vU.lt e.1 k=true
   ·rw [if_pos h,if_pos h,b6,ih]
   ·rw [if_neg h,if_neg h,b6,b6]
theorem K4 {K:Type} [DecidableEq K] [vU K] (M:List (K×Int)) (k:K) (v:Int):ca (tt M) k (some v)=tt (ca M k v):=by
 unfold ca
 rw [← D7]
 congr 1
 unfold mj tt
 rw [List.filter_map];rfl
section rules
variable {P:Program} {all:Array Oper} {rest:List Oper} {n:Nat} {tm:List (Nat×AV)} {hp:Heap} {Q:St→Prop} {d:Nat} {ty:TypeId} {pos:String} {af:Array Edge}
theorem IU {K:Type} [DecidableEq K] [vU K] {gk:K→AV} {bo:Nat→Bk} {M:List (K×Int)} {key:K} {q:Nat} {t kt vt:TypeId} {i:TypeInfo} {z:Value} {x y:Operand} {b:Bk} {cQ:Heap} [aC P t (.map kt vt)] [a8 P vt i] [dD P kt gk] (hx:du tm x=some (.bV b)) (hy:du tm y=some (gk key)) (hz:i.zero=some z) (DL:As z=.raw (.pointer none))
 (u:mF hp b (.Gz (M.map fun e=>(gk e.1,pA bo e.2)) q (gk key)) b (.Gz ((ca (tt M) key (bh M key)).map fun e=>(gk e.1,pQ bo e.2)) q (gk key)) cQ) (hn:be d n=true)
 (kk:ae P all rest ⟨n,(d,.lM [pQ bo (bh M key),.int .i64 (q:Int)]) :: tm,cQ⟩ Q):ae P all (⟨some d,.mapEntry t x y,ty,pos,af,none⟩ :: rest) ⟨n,tm,hp⟩ Q:=by
 rw [← F6 bo M] at u
 exact D3 (gk:=gk) (gv:=pQ bo) (M:=tt M) (key:=key) (Z:=none) (v:=bh M key) hx hy hz DL (by rw [DL];rfl) (F7 key M) u hn kk
theorem Fa {K:Type} [DecidableEq K] [vU K] {gk:K→AV} {bo:Nat→Bk} {M:List (K×Int)} {key:K} {q:Nat} {v':Int} {t kt:TypeId} {x s y:Operand} {b:Bk} {av:AV} {cQ:Heap} [dD P kt gk] (hx:du tm x=some (.bV b)) (hs:du tm s=some (.int .i64 (q:Int))) (hy:du tm y=some av) (pM:av=pA bo v')
 (u:mF hp b (.Gz ((ca (tt M) key (bh M key)).map fun e=>(gk e.1,pQ bo e.2)) q (gk key)) b (.mp ((ca M key v').map fun e=>(gk e.1,pA bo e.2))) cQ)
 (kk:ae P all rest ⟨n,tm,cQ⟩ Q):ae P all (⟨none,.entryStore t x s y,ty,pos,af,none⟩ :: rest) ⟨n,tm,hp⟩ Q:=by
 rw [← F6 bo (ca M key v'),← K4] at u
 exact AS (gk:=gk) (gv:=pQ bo) (M:=tt M) (key:=key) (v:=bh M key) (v':=some v') (t:=t) (kt:=kt) hx hs hy pM u kk
end rules
end Go.Eng
namespace Go.Eng
open Go Go.Proofs
def WV (es:List (AV×AV)):World→(Nat→Prop)→Value→Prop:=fun w S v=>∃ n b,v=.map (some n)∧S n∧b.cH=some n∧∃ L c,(L.map me.kv).Perm es∧uy w S b L c
def F8 {K V:Type} (gk:K→AV) (gv:V→AV) (M:List (K×V)):AV:=.LI (WV (M.map fun e=>(gk e.1,gv e.2)))
variable [bU]
theorem PF (es:List (AV×AV)) (w w':World) (S S':Nat→Prop) (v:Value) (hs:∀ n,S n→S' n∧w'.heap[n]? =w.heap[n]?) (h:WV es w S v):WV es w' S' v:=by
 obtain ⟨n,b,h1,h2,h3,L,c,h4,h5⟩:=h
 refine ⟨n,b,h1,(hs n h2).1,h3,L,c,h4,h5.mono hs (fun m hm=>?_)⟩
 obtain rfl:m=n:=aa (hm.symm.trans h3)
 exact (hs m h2).2
theorem SP (es:List (AV×AV)) (w:World) (S:Nat→Prop) (v:Value) (h:WV es w S v):v.oneCell'=true:=by
 obtain ⟨n,b,rfl,_⟩:=h;rfl
theorem At.fm {K V:Type} {gk:K→AV} {gv:V→AV} {M:List (K×V)} {w:World} {S:Nat→Prop} {v:Value} (h:WV (M.map fun e=>(gk e.1,gv e.2)) w S v):At w S (F8 gk gv M) v:=.LI _ _ (PF _) (SP _) h
theorem At.VF {K V:Type} {gk:K→AV} {gv:V→AV} {M:List (K×V)} {w:World} {S:Nat→Prop} {v:Value} (h:At w S (F8 gk gv M) v):WV (M.map fun e=>(gk e.1,gv e.2)) w S v:=by
 unfold F8 at h
 cases h with
 | LI _ _ _ _ h=>exact h
theorem lD.fm {K V:Type} {gk:K→AV} {gv:V→AV} {M:List (K×V)} {hp:Heap} {b:Bk} (f:mh hp b (.mp (M.map fun e=>(gk e.1,gv e.2)))):lD hp (.bV b) (F8 gk gv M):=by
 refine .LI fun w S v r h=>?_
 obtain ⟨n,hb,rfl⟩:=h.jY
 obtain ⟨L,c,h1,h2⟩:=r.holds _ f.mem
 exact .fm ⟨n,b,rfl,.inr ⟨_,f.mem,fF hb⟩,hb,L,c,h1,h2.mono (fun m hm=>⟨.inl hm,rfl⟩) (fun _ _=>rfl)⟩
theorem L5 {K V:Type} {gk:K→AV} {gv:V→AV} {w:World} {S:Nat→Prop} {M:List (K×V)} {v:Value} (IF:∀ a b,gk a=gk b→a=b) (h:At w S (F8 gk gv M) v):
 ∃ (M':List (K×V)) (n c:Nat) (cC:Array MapEntry),v=.map (some n)∧M'.Perm M∧w.heap[n]? =some (.map cC c)∧cC.toList.length=M'.length∧
   (∀ (i:Nat) e m,M'[i]? =some e→cC.toList[i]? =some m→At w S (gk e.1) m.key∧At w S (gv e.2) m.val)∧(M'.map ap).Nodup:=by
 obtain ⟨n0,b,e0,hS,hb,L,c,mC,hH⟩:=h.VF
 obtain ⟨M',h1,h2⟩:=ry _ _ _ mC
 obtain ⟨n,cC,g1,g2,g3,g4,g5,g6,g7⟩:=hH
 obtain rfl:n=n0:=aa (g1.symm.trans hb)
 have hlen:L.length=M'.length:=by have:=congrArg cz h2;simpa using this
 refine ⟨M',n,c,cC,e0,h1,g2,by rw [db,g3,hlen],fun i e m he hm=>?_,?_⟩
 ·have:(L.map me.kv)[i]? =some (gk e.1,gv e.2):=by rw [h2,ac,he];rfl
  rw [ac] at this
  cases hL:L[i]? with
  | none=>rw [hL] at this;cases this
  | some x=>
    rw [hL] at this
    have hx:(x.k,x.v)=(gk e.1,gv e.2):=aa this
    obtain ⟨q1,q2⟩:=cA hx
    have:=g4 i x m hL (by simpa using hm)
    rw [q1,q2] at this
    exact this.2
 ·have hk:L.map (·.k)=(M'.map ap).map gk:=by
   have:=congrArg (List.map ap) h2
   simpa [dg,ej,me.kv] using this
  rw [hk] at g7
  exact (ek.1 g7).imp (fun h e=>h (by rw [e]))
section rules
variable {P:Program} {all:Array Oper} {rest:List Oper} {n:Nat} {tm:List (Nat×AV)} {hp:Heap} {Q:St→Prop} {d:Nat} {ty:TypeId} {pos:String} {af:Array Edge}
theorem F9 {K V:Type} [DecidableEq K] {gk:K→AV} {gv:V→AV} {M:List (K×V)} {key:K} {Z v:V} {t kt vt:TypeId} {i:TypeInfo} {z:Value} {x y:Operand} {av:AV} [aC P t (.map kt vt)] [a8 P vt i] [dD P kt gk] (hx:du tm x=some (F8 gk gv M)) (hy:du tm y=some (gk key)) (hz:i.zero=some z) (DL:As z=gv Z) (h1:ke (As z).cells=true) (h:oJ M key Z=some v) (pM:gv v=av):
 QV P ⟨some d,.lookup t x y false,ty,pos,af,none⟩ ⟨n,tm,hp⟩ av:=by
 intro w S a r
 have kx:=bl (σ:=⟨n,tm,hp⟩) r hx
 have ky:=bl (σ:=⟨n,tm,hp⟩) r hy
 obtain ⟨M',nb,c,cC,ex,p1,p5,p6,p7,p8⟩:=L5 (dD.inj P kt) kx
 unfold oJ at h
 have hv:=aa h
 rw [← je p1 p8] at hv
 have ju:=dD.find (P:=P) (t:=kt) (g:=gk) ky cC.toList (M'.map ap) (by simpa using p6.symm) (fun j k' e h1 h2=>by
  rw [ac] at h1
  cases hm:M'[j]? with
  | none=>rw [hm] at h1;cases h1
  | some q=>rw [hm] at h1;rw [← aa h1];exact (p7 j q e hm h2).1)
 rcases nE (gv:=gv) (w:=w) (S:=S) (k:=key) M' cC.toList 0 p6.symm (fun j e m h1 h2=>(p7 j e m h1 h2).2) with ⟨q1,q2⟩ | ⟨v',j,val,q1,q2,q3,_⟩
 ·refine ⟨z,fun w1 e1=>?_,?_⟩
  ·simp [execOp,Instr.lookup,ex,run_underlying (aC.h (P:=P) (t:=t)),cY (e1.heap p5),dD.check (P:=P) (t:=kt) ky,ju,q2,zeroValue,typeInfo,a8.h (P:=P) (t:=vt),hz]
  ·rw [← pM,← hv,q1,cp,← DL];exact DP w S z h1
 ·refine ⟨val,fun w1 e1=>?_,?_⟩
  ·simp [execOp,Instr.lookup,ex,run_underlying (aC.h (P:=P) (t:=t)),cY (e1.heap p5),dD.check (P:=P) (t:=kt) ky,ju,q2]
  ·rw [← pM,← hv,q1,eH];exact q3
end rules
end Go.Eng
namespace Go.Eng
open Go Go.Sort Go.Proofs
variable [bU]
theorem PG {P:Program} {T:Type} {g:T→AV} {f:FuncId} {k:Nat} (K:Ix P f k) (G4:be 0 k=true) {gf:FuncId} [bN P gf] {C:List AV} {fn:T→T→Option Int} (Sd:∀ {x y:T} {u:Int},fn x y=some u→@Pu nz P gf (g x :: g y :: C) (I u))
 (O8:∀ x,g x=.agg (g x).cells) {Xs Ys:List T} {b:Bk} (h:DK fn Xs=some Ys) {w:World} {S S1:Nat→Prop} {v0 v1:Value} (ZA:∀ n,S n→S1 n) (Yd:∀ n,S1 n→n < w.heap.size) (C6:∀ n,b.cH=some n→¬ S1 n)
 (r:de w S [(b,.arr k (Xs.map g))]) (a0:At w S (.sl k b 0 Xs.length) v0) (a1:At w S1 (.func (.func gf) C) v1):
 Calls P f #[v0,v1] w (fun e w'=>e=.returned (.tuple #[])∧de w' S [(b,.arr k (Ys.map g))]∧kT w S [(b,.arr k (Xs.map g))] w' S [(b,.arr k (Ys.map g))]∧∀ n,n < w.heap.size→b.cH≠some n→w'.heap[n]? =w.heap[n]?):=by
 have G4:0 < k:=b7 (c6 (b4 G4)) (ai _)
 obtain ⟨oa,cap,rfl,e2⟩:=a0.uz
 obtain ⟨cv,rfl,zy,hca⟩:=a1.x4
 match Xs,h with
 | [],h=>
   obtain rfl:=aa h
   refine (K.none_ oa cap _ w).mono ?_
   rintro e w' ⟨rfl,rfl⟩
   exact ⟨rfl,r,kT.refl _ _ _,fun _ _ _=>rfl⟩
 | x :: xr,h=>
   rw [zV] at h
   by_cases hc:(xr.length+1 < 4611686018427387904∧(∀ a∈x :: xr,∀ b∈x :: xr,∃ u,fn a b=some u)∧SWO (ltOf (vb fn x xr)))
   ·rw [if_pos hc] at h
    obtain rfl:=aa h
    obtain ⟨hlen,Vb,hO⟩:=hc
    obtain ⟨h0,h1,h2⟩:=r.holds _ (bz.2 rfl)
    simp only [e5,fi] at h1
    rcases h2 with ⟨_,Ku⟩ | ⟨m,row,E,hb,zh,jc,qo⟩
    ·have Us:b.cap=0:=Ku
     omega
    rcases e2 with ⟨hn,_,_,_,_⟩ | ⟨m',Bx,rfl,hle,XR⟩ | ⟨m',ad,_,_,Ug,_⟩
    ·rw [hn] at hb;cases hb
    ·obtain rfl:m'=m:=by rw [Bx] at hb;exact aa hb
     have O9:m' < w.heap.size:=by
      rcases eq m' w.heap.size with h | h
      ·exact h
      ·simp [Array.getElem?_eq_none h] at zh
     have nS:¬ S m':=fun hs=>by have:=(r.sep _ (bz.2 rfl) m' (fF hb)).1 hs;exact this
     let ix:Nat→Nat:=fun i=>if i < xr.length+1 then i else 0
     have Kd:∀ i,ix i < xr.length+1:=fun i=>by simp only [ix];split<;>omega
     have Vc:∀ i,(x :: xr)[ix i]? =some (tP x xr i):=by
      intro i
      simp only [ix,tP,List.getD_eq_getElem?_getD]
      split
      ·rename_i hi
       rw [al (by simpa using hi)];simp
      ·rename_i hi
       rw [List.getElem?_eq_none (l:=x :: xr) (i:=i) (by simp;omega)];simp
     have WG:(xr.length+1) * k≤row.size:=by rw [jc];exact ck k h1
     let enc:Nat→List Value:=fun i=>(row.toList.drop (ix i * k)).take k
     have G5:∀ i,(enc i).length=k:=by
      intro i
      have:ix i * k+k≤row.size:=by
       have:=ck k (show ix i+1≤xr.length+1 from Kd i)
       rw [c8,Nat.one_mul] at this
       omega
      simp only [enc,List.length_take,List.length_drop,db];omega
     have Pa:∀ i j,j < k→(enc i)[j]? =row[ix i * k+j]?:=by
      intro i j hj
      simp only [enc,List.getElem?_take,if_pos hj,List.getElem?_drop,fj]
     have AE:∀ i j,j < k→(flat ((x :: xr).map g))[ix i * k+j]? =(g (tP x xr i)).cells[j]?:=by
      intro i j hj
      exact pL h0 (by rw [ac,Vc i];rfl) j hj
     have zy:∀ i,(g (tP x xr i)).cells.length=k:=fun i=>(h0 _ (bv.2 ⟨_,jl x xr i,rfl⟩)).1
     have u6:∀ i,∀ c∈(g (tP x xr i)).cells,c.one=true:=fun i=>(h0 _ (bv.2 ⟨_,jl x xr i,rfl⟩)).2
     have KH:∀ i,oe w S (g (tP x xr i)).cells (enc i).toArray:=by
      intro i j c v hc hv
      have hj:j < k:=by rw [← zy i];exact (a6.1 hc).1
      refine qo (ix i * k+j) c v (by rw [AE i j hj];exact hc) ?_
      rw [← Pa i j hj]
      simpa using hv
     have Vd:∀ i,∀ v∈enc i,v.oneCell'=true:=by
      intro i v hv
      obtain ⟨j,hj,rfl⟩:=ea hv
      have hjk:j < k:=by rw [G5 i] at hj;exact hj
      have Se:j < (g (tP x xr i)).cells.length:=by rw [zy i];exact hjk
      exact (KH i j (g (tP x xr i)).cells[j] (enc i)[j] (by simp [Se]) (by simp [hj])).Kn (u6 i _ (bX Se))
     have vi:∀ (d:Array Nat) (t:Nat),t < d.size * k→(flatK enc k d)[t]! =(enc d[t / k]!)[t % k]!:=fun d t ht=>get_flatK enc k d t ht
     have Pb:HoldsK enc k w m' 0 (bm (xr.length+1)):=by
      intro j hj
      rw [size_flatK,fl] at hj
      have hdiv:j / k < xr.length+1:=(fr G4).2 hj
      have G6:j % k < k:=ci _ G4
      have LX:j < row.size:=by omega
      have e1:(flatK enc k (bm (xr.length+1)))[j]! =row[j]:=by
       rw [vi _ _ (by simpa using hj)]
       have:(bm (xr.length+1))[j / k]! =j / k:=by
        rw [getElem!_pos _ _ (by simpa using hdiv)];simp
       rw [this]
       have hv:=Pa (j / k) (j % k) G6
       have:ix (j / k)=j / k:=by simp only [ix];rw [if_pos hdiv]
       rw [this,fv] at hv
       rw [bk LX] at hv
       rw [List.getElem!_eq_getElem?_getD,hv];rfl
      constructor
      ·simp only [World.cell?,zh,id,e1,cf,Option.isSome_none,b5,if_false]
       rw [bk LX]
      ·simp [World.frozen?,zh]
     have Ve:CmpLays P gf cv enc k (vb fn x xr) m' 0 (bm (xr.length+1)).size w:=by
      intro mm os dk hdk i j
      obtain ⟨u,hu⟩:=Vb _ (jl x xr i) _ (jl x xr j)
      have hW1:∀ n,S1 n→S1 n∧(sortWorldK enc k w m' 0 mm dk os).heap[n]? =w.heap[n]?:=fun n hs=>
       ⟨hs,qC enc k w m' 0 mm dk os (Yd n hs) (fun e=>C6 m' hb (e▸hs))⟩
      have hW:∀ n,S n→S1 n∧(sortWorldK enc k w m' 0 mm dk os).heap[n]? =w.heap[n]?:=fun n hs=>hW1 n (ZA n hs)
      have LY:oe (sortWorldK enc k w m' 0 mm dk os) S1 (g (tP x xr i) :: g (tP x xr j) :: C) (#[.agg (enc i).toArray,.agg (enc j).toArray]++cv):=by
       intro q c v hc hv
       have ag:∀ i,At (sortWorldK enc k w m' 0 mm dk os) S1 (g (tP x xr i)) (.agg (enc i).toArray):=fun i=>by
        rw [O8 (tP x xr i)]
        exact .agg _ _ (by rw [zy i];simp [G5 i]) (fun a c v hc hv=>((KH i) a c v hc hv).mono hW)
       match q with
       | 0=>
         rw [fz (by simp)] at hv
         simp at hc hv;subst hc;subst hv;exact ag i
       | 1=>
         rw [fz (by simp)] at hv
         simp at hc hv;subst hc;subst hv;exact ag j
       | q+2=>
         simp only [List.getElem?_cons_succ] at hc
         rw [Array.getElem?_append_right (by simp)] at hv
         simp only [List.size_toArray,fi,List.length_nil,Nat.add_sub_cancel] at hv
         exact (hca q c v hc (by simpa using hv)).mono hW1
      refine (Sd hu _ S1 _ (@uC nz _ _ (fun n hn=>b7 (Yd n hn) (w6 _ _ _ _ _ _ _ _)) (fun g o ho=>⟨ZA _ (r.gh g o ho).1,Aw (hW g (r.gh g o ho).1).2 (r.gh g o ho).2⟩)) (by simp [zy,‹C.length=cv.size›];omega) LY).mono ?_
      rintro e w' ⟨v,rr,h',S',rfl,hq,h3,h4,h5⟩
      obtain rfl:=hq
      rw [h3.eE]
      refine ⟨?_,@Ext.grown nz _ _ trivial (@kT.FJ nz _ _ _ _ _ h5)⟩
      unfold vb
      rw [hu];rfl
     have Sf:(bm (xr.length+1)).size=xr.length+1:=fl
     have Iy:=K.some_ enc G5 Vd (vb fn x xr) hO gf cv m' 0 cap (bm (xr.length+1)) w (fun args w=>tY gf args w) Ve Pb O9 (by rw [Sf];exact hlen)
     rw [Sf] at Iy
     simp only [Nat.zero_mul]
     refine Iy.mono ?_
     rintro e w' ⟨rfl,q,os,rfl⟩
     have Sg:=pdq_sorts (ltOf (vb fn x xr)) hO (bm (xr.length+1)) 0 (xr.length+1) (Lib.bitLen (xr.length+1)) true true (Nat.zero_le _) (by rw [Sf];exact ai _) (Or.inl rfl)
     generalize vT:pdq (ltOf (vb fn x xr)) (bm (xr.length+1)) 0 (xr.length+1) (Lib.bitLen (xr.length+1)) true true=d' at Sg ⊢
     have G7:d'.size=xr.length+1:=by rw [Sg.1.1,Sf]
     have hW:∀ n,S n→S n∧(sortWorldK enc k w m' 0 q d' os).heap[n]? =w.heap[n]?:=fun n hs=>
      ⟨hs,qC enc k w m' 0 q d' os (r.slt n hs) (fun e=>nS (e▸hs))⟩
     have Rp:∀ y∈(d'.toList.map (tP x xr)).map g,El k y:=by
      intro y hy
      simp only [bv] at hy
      obtain ⟨z,⟨i,_,rfl⟩,rfl⟩:=hy
      exact h0 _ (bv.2 ⟨_,jl x xr i,rfl⟩)
     have hh:Go.Eng.Holds (sortWorldK enc k w m' 0 q d' os) S b (.arr k ((d'.toList.map (tP x xr)).map g)):=by
      refine ⟨Rp,by simp [G7];omega,.inr ⟨m',_,E,hb,FV enc k w m' q d' os zh,by simp [putCells,jc],?_⟩⟩
      intro j c v hc hv
      have zw:j < (xr.length+1) * k:=by
       have:=(a6.1 hc).1
       rw [cT Rp] at this
       simpa [G7] using this
      have hdiv:j / k < xr.length+1:=(fr G4).2 zw
      have G6:j % k < k:=ci _ G4
      have LX:j < row.size:=by omega
      have WN:(d'.toList.map (tP x xr))[j / k]? =some (tP x xr d'[j / k]!):=by
       rw [ac,fj,bk (by omega),getElem!_pos d' (j / k) (by omega)];rfl
      have wR:(g (tP x xr d'[j / k]!)).cells[j % k]? =some c:=by
       rw [← pL (sz:=k) Rp (i:=j / k) (x:=g (tP x xr d'[j / k]!)) (by rw [ac,WN];rfl) (j % k) G6,fv]
       exact hc
      have Ut:(enc d'[j / k]!)[j % k]? =some v:=by
       simp only [putCells,Array.getElem?_mapIdx,bk LX,bx,d3] at hv
       rw [if_pos ⟨Nat.zero_le _,by rw [size_flatK,G7];omega⟩,Nat.sub_zero,vi d' j (by rw [G7];exact zw)] at hv
       have eI:j % k < (enc d'[j / k]!).length:=by rw [G5];exact G6
       rw [al eI,← hv]
       simp only [id,getElem!_pos (enc d'[j / k]!) (j % k) eI]
      exact (KH _ _ _ _ wR (by simpa using Ut)).mono hW
     have Iz:=w6 enc k w m' 0 q d' os
     refine ⟨rfl,⟨r.nodup,fun e he=>by rw [bz] at he;subst he;exact hh,fun e he n hn=>?_,fun n hn=>b7 (r.slt n hn) Iz,fun g o ho=>⟨(r.gh g o ho).1,Aw (hW g (r.gh g o ho).1).2 (r.gh g o ho).2⟩⟩,?_,fun n hn Aq=>qC enc k w m' 0 q d' os hn (fun e=>Aq (by rw [e];exact hb))⟩
     ·rw [bz] at he;subst he
      replace hn:=(wV rfl).1 hn
      rw [hb] at hn
      obtain rfl:=aa hn
      exact ⟨fun hs=>(nS hs).elim,fun hf=>hf.elim⟩
     ·refine ⟨rfl,rfl,rfl,Iz,hW,fun n hn XS=>⟨qC enc k w m' 0 q d' os hn (fun e=>XS ⟨_,bz.2 rfl,by rw [e];exact fF hb⟩),id⟩,?_,?_⟩
      ·rintro n ⟨e,he,u5⟩
       rw [bz] at he;subst he
       exact .inl ⟨_,bz.2 rfl,u5⟩
      ·intro _
       show w.drawn≤(sortWorldK enc k w m' 0 q d' os).drawn
       show w.drawn≤w.drawn+q
       omega
    ·simp at Ug
   ·rw [if_neg hc] at h;cases h
def K5 (P:Program) (f:FuncId) (l:List AV) (h0 H:Heap) (V:AV):Prop:=
 ∀ (w:World) (S S1:Nat→Prop) (vs:Array Value),(∀ n,S n→S1 n)→(∀ n,S1 n→n < w.heap.size)→(∀ n,Has h0 n→¬ S1 n)→de w S h0→l.length=vs.size→oe w S1 l vs→
   Calls P f vs w (fun e w'=>∃ v,e=.returned v∧At w' S V v∧de w' S H∧kT w S h0 w' S H∧∀ n,n < w.heap.size→¬ Has h0 n→w'.heap[n]? =w.heap[n]?)
theorem IV {P:Program} {T:Type} {g:T→AV} {f:FuncId} {k:Nat} (K:Ix P f k) (G4:be 0 k=true) {gf:FuncId} [bN P gf] {C:List AV} {fn:T→T→Option Int} (Sd:∀ {x y:T} {u:Int},fn x y=some u→@Pu nz P gf (g x :: g y :: C) (I u))
 (O8:∀ x,g x=.agg (g x).cells) {Xs Ys:List T} {b:Bk} (h:DK fn Xs=some Ys):K5 P f [.sl k b 0 Xs.length,.func (.func gf) C] [(b,.arr k (Xs.map g))] [(b,.arr k (Ys.map g))] (.lM []):=by
 intro w S S1 vs ZA eI CK r hl ha
 obtain ⟨v0,v1,rfl⟩:∃ v0 v1,vs=#[v0,v1]:=by
  match vs,hl with
  | ⟨[v0,v1]⟩,_=>exact ⟨v0,v1,rfl⟩
 have a0:=ha 0 _ v0 rfl rfl
 have a1:=ha 1 _ v1 rfl rfl
 have a0':At w S (.sl k b 0 Xs.length) v0:=by
  generalize hx:AV.sl k b 0 Xs.length=x at a0 ⊢
  cases a0 with
  | sl sz b off len n cap hb h1 h2=>exact .sl sz b off len n cap hb h1 h2
  | Ax sz b hb=>exact .Ax sz b hb
  | Oq sz b off n ad hb=>exact .Oq sz b off n ad hb
  | _=>cases hx
 refine (PG (g:=g) (fn:=fn) K G4 Sd O8 h ZA eI (fun n hn=>CK n ⟨_,bz.2 rfl,fF hn⟩) r a0' a1).mono ?_
 rintro e w' ⟨rfl,h1,h2,h3⟩
 exact ⟨_,rfl,.lM [] #[] rfl (fun i c v hc=>by simp at hc),h1,h2,fun n hn hh=>h3 n hn (fun hb=>hh ⟨_,bz.2 rfl,fF hb⟩)⟩
section rules
variable {P:Program} {all:Array Oper} {rest:List Oper} {n:Nat} {tm:List (Nat×AV)} {hp:Heap} {Q:St→Prop} {d:Nat} {ty:TypeId} {pos:String} {af:Array Edge}
theorem SQ {f:FuncId} {args:List Operand} {ts:Array TypeId} {l l':List AV} {b0:Bk} {ZB:Nat} {xs0:List AV} {hr H H':Heap} {V:AV} [bN P f] (hl:B9 tm args=some l) (c:K5 P f l' [(b0,.arr ZB xs0)] H V) (hs:HR hp [(b0,.arr ZB xs0)] hr) (co:u7 hr l l') (ha:tJ H hr=some H') (hn:be d n=true)
 (kk:ae P all rest ⟨n,(d,V) :: tm,H'⟩ Q):ae P all (⟨some d,.call {callee:=.value (.func f),args:=args.toArray,argTypes:=ts},ty,pos,af,none⟩ :: rest) ⟨n,tm,hp⟩ Q:=by
 rw [← qq ha] at kk
 have hs:=hs.perm
 generalize Uh:[(b0,Ob.arr ZB xs0)]=h0 at c hs
 refine ae.HZ rfl fun w S a r=>⟨f,_,oh a w,?_⟩
 obtain ⟨g1,g2⟩:=tj (σ:=⟨n,tm,hp⟩) r hl
 have rp:=r.hp.perm hs
 have KK:de w S hr:=rp.sub (List.sublist_append_right _ _)
 have Pg:de w S h0:=rp.sub (List.sublist_append_left _ _)
 obtain ⟨g3,g4⟩:=u7.at KK co g1 g2
 have KL:∀ m,Has h0 m→¬ Has hr m:=by
  rintro m ⟨x,hx,zW⟩ ⟨y,hy,hym⟩
  have:=rp.nodup
  rw [bO,bc] at this
  exact this.2.2 m (a7.2 ⟨x,hx,zW⟩) m (a7.2 ⟨y,hy,hym⟩) rfl
 have Po:¬ ∃ m,Has h0 m∧S m:=by
  rintro ⟨m,⟨e,he,hm⟩,hS⟩
  have h1:=(Pg.sep e he m hm).1 hS
  rw [← Uh,bz] at he
  subst he;exact h1
 refine (c w S (SB S hr) _ (fun m hm=>.inl hm) (fun m hm=>hm.elim (r.hp.slt m) (fun h=>KK.lt h)) (fun m hm hh=>hh.elim (fun h=>Po ⟨m,hm,h⟩) (KL m hm)) Pg (by simpa using g3) g4).mono ?_
 rintro e w' ⟨v,rfl,h3,h4,h5,h6⟩
 have Vg:∀ m,S m→S m∧w'.heap[m]? =w.heap[m]?:=h5.mf
 have zA:∀ m,Has hr m→w'.heap[m]? =w.heap[m]?:=fun m hm=>h6 m (KK.lt hm) (fun h=>KL m h hm)
 have uB:de w' S (H++hr):=by
  refine ⟨?_,?_,?_,h4.slt,h4.gh⟩
  ·rw [bO,bc]
   refine ⟨h4.nodup,KK.nodup,fun x hx y hy HO=>?_⟩
   subst HO
   obtain ⟨e1,RC,C6⟩:=a7.1 hx
   obtain ⟨e2,LN,Nc⟩:=a7.1 hy
   rcases h5.new x ⟨e1,RC,C6⟩ with h | h
   ·exact KL x h ⟨e2,LN,Nc⟩
   ·have:=KK.lt ⟨e2,LN,Nc⟩;omega
  ·intro e he
   rcases bi.1 he with he | he
   ·exact h4.holds e he
   ·exact (KK.holds e he).mono Vg (fun m hm=>zA m ⟨e,he,hm⟩)
  ·intro e he m hm
   rcases bi.1 he with he | he
   ·exact h4.sep e he m hm
   ·exact KK.sep e he m hm
 have ID:∀ m,Has hp m↔Has h0 m∨Has hr m:=by
  intro m
  constructor
  ·rintro ⟨x,hx,hb⟩
   rcases bi.1 (hs.mem_iff.1 hx) with h | h
   ·exact .inl ⟨x,h,hb⟩
   ·exact .inr ⟨x,h,hb⟩
  ·rintro (⟨x,hx,hb⟩ | ⟨x,hx,hb⟩)
   ·exact ⟨x,hs.mem_iff.2 (bW _ hx),hb⟩
   ·exact ⟨x,hs.mem_iff.2 (List.mem_append_right _ hx),hb⟩
 refine ⟨v,S,⟨n,(d,V) :: tm,H++hr⟩,rfl,(r.heap Vg uB).put hn h3,?_,kk⟩
 refine ⟨h5.os,h5.tape,h5.output,h5.size,Vg,fun m hm hh=>⟨h6 m hm (fun h=>hh ((ID m).2 (.inl h))),id⟩,fun m hm=>?_,h5.drawn⟩
 obtain ⟨e,he,hb⟩:=hm
 rcases bi.1 he with he | he
 ·rcases h5.new m ⟨e,he,hb⟩ with h | h
  ·exact .inl ((ID m).2 (.inl h))
  ·exact .inr h
 ·exact .inl ((ID m).2 (.inr ⟨e,he,hb⟩))
end rules
end Go.Eng
namespace Go.Eng
open Go Go.Proofs
variable [bU]
end Go.Eng
namespace Go.Eng
open Go
variable [bU]
end Go.Eng
namespace Go.Eng
open Go Go.Proofs
variable [bU]
def PH (av:AV):List Nat→List (Nat×AV)→List (Nat×AV)
 | [],tm=>tm
 | s :: r,tm=>(s,av) :: PH av r tm
theorem L6 {a:AV} {tm:List (Nat×AV)} {t:Nat} {av:AV}:∀ {ss:List Nat},lk (PH a ss tm) t=some av→(t∈ss∧av=a)∨lk tm t=some av
 | [],h=>.inr h
 | s :: r,h=>by
   simp only [PH,lk] at h
   split at h
   ·rename_i hb
    obtain rfl:s=t:=by simpa using hb
    exact .inl ⟨by simp,(aa h).symm⟩
   ·rcases L6 h with ⟨h1,h2⟩ | h1
    ·exact .inl ⟨b9 _ h1,h2⟩
    ·exact .inr h1
theorem aj.VG {K V:Type} {gk:K→AV} {gv:V→AV} {M:List (K×V)} {n:Nat} {ss:List Nat} {tm:List (Nat×AV)} {hp vc:Heap} {T:St→Prop} {b:Bk} (hs:∀ s∈ss,lk tm s=some (.bV b)) (dl:x7 hp b (.mp (M.map fun e=>(gk e.1,gv e.2))) vc) (k:aj ⟨n,PH (F8 gk gv M) ss tm,vc⟩ T):aj ⟨n,tm,hp⟩ T:=by
 refine aj.step (Ar:=⟨n,PH (F8 gk gv M) ss tm,vc⟩) (fun w S a r=>?_) k
 obtain ⟨p,q,rfl,rfl⟩:=dl.split
 have lK:(b,Ob.mp (M.map fun e=>(gk e.1,gv e.2)))∈p++(b,.mp (M.map fun e=>(gk e.1,gv e.2))) :: q:=bw.2 (.inl rfl)
 obtain ⟨L,c,h1,h2⟩:=r.hp.holds _ lK
 have H4:∀ m,b.cH=some m→m < w.heap.size:=fun m hm=>r.hp.lt ⟨_,lK,fF hm⟩
 let S':Nat→Prop:=fun m=>S m∨b.cH=some m
 have mono:∀ m,S m→S' m∧w.heap[m]? =w.heap[m]?:=fun m hm=>⟨.inl hm,rfl⟩
 have um:=r.hp.nodup
 have nU:(p++q).Sublist (p++(b,Ob.mp (M.map fun e=>(gk e.1,gv e.2))) :: q):=cl (cm _) (cn _ _)
 have uB:de w S' (p++q):=by
  refine ⟨um.sublist (th nU),fun e he=>(r.hp.holds e (nU.subset he)).mono mono (fun _ _=>rfl),fun e he m hm=>?_,fun m hm=>?_,fun g o ho=>⟨.inl (r.hp.gh g o ho).1,(r.hp.gh g o ho).2⟩⟩
  ·rw [← r.hp.sep e (nU.subset he) m hm]
   refine ⟨fun hs=>hs.elim id fun hb=>?_,.inl⟩
   exfalso
   rw [bO,b8,bc,bc] at um
   rcases bi.1 he with h | h
   ·exact um.2.2 m (a7.2 ⟨e,h,hm⟩) m (bW _ (fF hb)) rfl
   ·exact um.2.1.2.2 m (fF hb) m (a7.2 ⟨e,h,hm⟩) rfl
  ·rcases hm with h | h
   ·exact r.hp.slt m h
   ·exact H4 m h
 have hr:=r.heap mono uB
 refine ⟨_,S',rfl,⟨hr.size,hr.defers,fun t av h=>?_,hr.hp⟩,rfl,rfl,rfl,ai _,mono,fun m hm hh=>⟨rfl,fun hs=>hs.elim id fun hb=>(hh ⟨_,lK,fF hb⟩).elim⟩,fun m hm=>.inl ?_,fun _=>ai _⟩
 ·rcases L6 h with ⟨ht,rfl⟩ | h
  ·obtain ⟨v,e1,e2⟩:=hr.tm t _ (hs t ht)
   obtain ⟨m,hb,rfl⟩:=e2.jY
   exact ⟨_,e1,.fm ⟨m,b,rfl,.inr hb,hb,L,c,h1,h2.mono mono (fun _ _=>rfl)⟩⟩
  ·exact hr.tm t av h
 ·obtain ⟨e,he,hb⟩:=hm
  exact ⟨e,nU.subset he,hb⟩
theorem lD.Ye {hp:Heap} {cs lA:List AV} (k:u7 hp cs lA):lD hp (.ch cs) (.ch lA):=.LI fun w S v r h=>by
 cases h with
 | ch _ ad vs hl h hs hS hm=>
   refine .ch lA ad vs (by rw [k.each.1,hl]) (fun i c v hc hv=>?_) hs (.inl hS) hm
   have hi:i < cs.length:=by rw [← k.each.1];exact (a6.1 hc).1
   exact (k.each.2 i cs[i] c (al hi) hc).at r (h i _ _ (al hi) hv)
section rules
variable {P:Program} {all:Array Oper} {rest:List Oper} {n:Nat} {tm:List (Nat×AV)} {hp:Heap} {Q:St→Prop} {d:Nat} {ty:TypeId} {pos:String} {af:Array Edge}
theorem K6 {K V:Type} [DecidableEq K] {gk:K→AV} {gv:V→AV} {M:List (K×V)} {key:K} {t kt vt:TypeId} {i:TypeInfo} {x y:Operand} {b:Bk} [aC P t (.map kt vt)] [a8 P vt i] [dD P kt gk] (hx:du tm x=some (.bV b)) (hy:du tm y=some (gk key)) (f:mh hp b (.mp (M.map fun e=>(gk e.1,gv e.2)))) (hz:i.zero=some (.map none)) (h:bh M key=none):
 QV P ⟨some d,.lookup t x y true,ty,pos,af,none⟩ ⟨n,tm,hp⟩ (.lM [.raw (.map none),.bool false]):=by
 intro w S a r
 have kx:=bl (σ:=⟨n,tm,hp⟩) r hx
 have ky:=bl (σ:=⟨n,tm,hp⟩) r hy
 obtain ⟨nb,hb,ex⟩:=kx.jY
 obtain ⟨L,c,M',yX,cC,p1,p2,p3,p4,p5,p6,p7,p8⟩:=qs (dD.inj P kt) r.hp f
 obtain rfl:yX=nb:=by rw [p4] at hb;exact aa hb
 rw [← je p1 p8] at h
 have ju:=dD.find (P:=P) (t:=kt) (g:=gk) ky cC.toList (M'.map ap) (by simpa using p6.symm) (fun j k' e h1 h2=>by
  rw [ac] at h1
  cases hm:M'[j]? with
  | none=>rw [hm] at h1;cases h1
  | some q=>rw [hm] at h1;rw [← aa h1];exact (p7 j q e hm h2).1)
 rcases nE (gv:=gv) (w:=w) (S:=S) (k:=key) M' cC.toList 0 p6.symm (fun j e m h1 h2=>(p7 j e m h1 h2).2) with ⟨q1,q2⟩ | ⟨v',j,val,q1,q2,q3,_⟩
 ·refine ⟨.tuple #[.map none,.bool false],fun w1 e1=>?_,.lM _ _ rfl (pd (.raw _) (.bool _))⟩
  simp [execOp,Instr.lookup,ex,run_underlying (aC.h (P:=P) (t:=t)),cY (e1.heap p5),dD.check (P:=P) (t:=kt) ky,ju,q2,zeroValue,typeInfo,a8.h (P:=P) (t:=vt),hz]
 ·rw [q1] at h;cases h
theorem K7 {K V:Type} [DecidableEq K] {gk:K→AV} {gv:V→AV} {M:List (K×V)} {key:K} {v:V} {t kt vt:TypeId} {i:TypeInfo} {x y:Operand} {b:Bk} [aC P t (.map kt vt)] [a8 P vt i] [dD P kt gk] (hx:du tm x=some (.bV b)) (hy:du tm y=some (gk key)) (f:mh hp b (.mp (M.map fun e=>(gk e.1,gv e.2)))) (h:bh M key=some v):
 QV P ⟨some d,.lookup t x y true,ty,pos,af,none⟩ ⟨n,tm,hp⟩ (.lM [gv v,.bool true]):=by
 intro w S a r
 have kx:=bl (σ:=⟨n,tm,hp⟩) r hx
 have ky:=bl (σ:=⟨n,tm,hp⟩) r hy
 obtain ⟨nb,hb,ex⟩:=kx.jY
 obtain ⟨L,c,M',yX,cC,p1,p2,p3,p4,p5,p6,p7,p8⟩:=qs (dD.inj P kt) r.hp f
 obtain rfl:yX=nb:=by rw [p4] at hb;exact aa hb
 rw [← je p1 p8] at h
 have ju:=dD.find (P:=P) (t:=kt) (g:=gk) ky cC.toList (M'.map ap) (by simpa using p6.symm) (fun j k' e h1 h2=>by
  rw [ac] at h1
  cases hm:M'[j]? with
  | none=>rw [hm] at h1;cases h1
  | some q=>rw [hm] at h1;rw [← aa h1];exact (p7 j q e hm h2).1)
 rcases nE (gv:=gv) (w:=w) (S:=S) (k:=key) M' cC.toList 0 p6.symm (fun j e m h1 h2=>(p7 j e m h1 h2).2) with ⟨q1,q2⟩ | ⟨v',j,val,q1,q2,q3,_⟩
 ·rw [q1] at h;cases h
 ·rw [q1] at h
  obtain rfl:=aa h
  refine ⟨.tuple #[val,.bool true],fun w1 e1=>?_,.lM _ _ rfl (pd q3 (.bool _))⟩
  simp [execOp,Instr.lookup,ex,run_underlying (aC.h (P:=P) (t:=t)),cY (e1.heap p5),dD.check (P:=P) (t:=kt) ky,ju,q2]
theorem K8 {K V:Type} [DecidableEq K] {gk:K→AV} {gv:V→AV} {M:List (K×V)} {key:K} {Z:V} {v:V×Bool} {t kt vt:TypeId} {i:TypeInfo} {z:Value} {x y:Operand} {av:AV} [aC P t (.map kt vt)] [a8 P vt i] [dD P kt gk] (hx:du tm x=some (F8 gk gv M)) (hy:du tm y=some (gk key)) (hz:i.zero=some z) (DL:As z=gv Z) (h1:ke (As z).cells=true) (h:tV M key Z=some v) (pM:gv v.1=av):
 QV P ⟨some d,.lookup t x y true,ty,pos,af,none⟩ ⟨n,tm,hp⟩ (.lM [av,.bool v.2]):=by
 intro w S a r
 have kx:=bl (σ:=⟨n,tm,hp⟩) r hx
 have ky:=bl (σ:=⟨n,tm,hp⟩) r hy
 obtain ⟨M',nb,c,cC,ex,p1,p5,p6,p7,p8⟩:=L5 (dD.inj P kt) kx
 unfold tV at h
 have hv:=aa h
 rw [← je p1 p8] at hv
 have ju:=dD.find (P:=P) (t:=kt) (g:=gk) ky cC.toList (M'.map ap) (by simpa using p6.symm) (fun j k' e h1 h2=>by
  rw [ac] at h1
  cases hm:M'[j]? with
  | none=>rw [hm] at h1;cases h1
  | some q=>rw [hm] at h1;rw [← aa h1];exact (p7 j q e hm h2).1)
 rcases nE (gv:=gv) (w:=w) (S:=S) (k:=key) M' cC.toList 0 p6.symm (fun j e m h1 h2=>(p7 j e m h1 h2).2) with ⟨q1,q2⟩ | ⟨v',j,val,q1,q2,q3,_⟩
 ·refine ⟨.tuple #[z,.bool false],fun w1 e1=>?_,?_⟩
  ·simp [execOp,Instr.lookup,ex,run_underlying (aC.h (P:=P) (t:=t)),cY (e1.heap p5),dD.check (P:=P) (t:=kt) ky,ju,q2,zeroValue,typeInfo,a8.h (P:=P) (t:=vt),hz]
  ·rw [← pM,← hv,q1]
   refine .lM _ _ rfl (pd ?_ (.bool _))
   rw [cp,← DL];exact DP w S z h1
 ·refine ⟨.tuple #[val,.bool true],fun w1 e1=>?_,?_⟩
  ·simp [execOp,Instr.lookup,ex,run_underlying (aC.h (P:=P) (t:=t)),cY (e1.heap p5),dD.check (P:=P) (t:=kt) ky,ju,q2]
  ·rw [← pM,← hv,q1]
   exact .lM _ _ rfl (pd q3 (.bool _))
end rules
end Go.Eng
