/- The engine: abstract values, the symbolic heap, one rule for each operation. No program in sight. -/
import Derived.Test.YthfphcbipahkmaaGreatDoorEngE
import Derived.Shelf.SlSortCmp.NoneTotal
import Derived.Lib.Case
import Derived.Lib.Overlaps
import Derived.Lib.AppendZeros
open Array renaming getElem?_eq_getElem→bk,range→bm,length_toList→da,getElem?_map→d3,getElem?_eq_some_iff→d5,eq_empty_of_size_eq_zero→d6,getElem?_modify→eH,getElem?_toList→fd,size_range→fg,getElem?_append_left→fr
open Bool renaming false_eq_true→b5,not_eq_true'→em
open ForInStep renaming yield→ea
open Function renaming comp_def→eg
open Int renaming toNat_natCast→e5
open List renaming getElem?_map→ac,getElem?_eq_getElem→al,replicate→aI,getElem?_eq_some_iff→a6,mem_flatMap→a7,nodup_append→a8,mem_append→bi,mem_map→bt,mem_singleton→bw,flatMap_append→bx,mem_append_left→bz,getElem_mem→bY,map_cons→b6,flatMap_cons→b8,mem_cons_of_mem→b9,map_append→cb,map_set→ce,Sublist.append→cm,Sublist.refl→cn,sublist_cons_self→cp,length→cP,getElem?_of_mem→cS,Perm.append_left→cW,eq_of_mem_replicate→c6,mem_cons_self→c8,map_map→dg,perm_middle→dn,Perm.cons→ds,filter_eq_self→du,Perm.trans→dy,perm_append_comm→dQ,getElem?_inj→dR,Perm.refl→d0,append_assoc→d1,getElem?_set→d8,getElem_of_mem→d9,pairwise_map→ej,filter_cons→el,Perm.map→eC,Perm.append_right→eL,length_map→eX,append_nil→eY,mem_cons→e6,getElem?_cons_zero→e8,length_cons→e9
open Nat renaming le_refl→ai,blt→be,le_of_ble_eq_true→b4,lt_of_lt_of_le→b7,zero_add→cf,mod_lt→ci,mul_le_mul_right→cl,lt_of_succ_le→cX,add_mul→c7,eq_of_beq_eq_true→d7,lt_or_ge→eq,div_lt_iff_lt_mul→fi,div_add_mod'→fl
open Option renaming some.inj→aa,map_some→bv,getD_none→cy,some.injEq→d2,map_eq_some_iff→d4,getD_some→eB
open PUnit renaming unit→cz
open Prod renaming fst→ap,mk.inj→cQ
set_option linter.unusedVariables false
set_option linter.unusedSectionVars false
namespace Go.Eng
open Go
variable [bN]
end Go.Eng
namespace Go.Eng
open Go Go.Proofs Go.Shelf Go.Lib
variable {P:Program} [bN]
end Go.Eng
namespace Go.Eng
open Go
variable [bN]
def zlB (z:Value) (a:AV):Bool:=match z,a with
 | .slice none 0 0,.list _ []=>true
 | _,_=>false
theorem VS (w:World) (S:Nat→Prop) {z:Value} {a:AV} (h:zlB z a=true):a.cells.length=z.cells.size∧∀ (j:Nat) c v,a.cells[j]? =some c→z.cells[j]? =some v→At w S c v:=by
 unfold zlB at h
 split at h
 ·rename_i sz
  refine ⟨rfl,fun j c v h1 h2=>?_⟩
  have e1:(AV.list sz []).cells=[AV.list sz []]:=rfl
  have e2:(Value.slice none 0 0).cells=#[Value.slice none 0 0]:=rfl
  rw [e1] at h1
  rw [e2] at h2
  cases j with
  | zero=>
    simp at h1 h2
    subst h1 h2
    exact At.list sz [] none 0 [] (fun x hx=>by cases hx) rfl (fun i c v h=>by simp [flat] at h) (fun i v h=>by simp at h) (ai _)
  | succ j=>simp at h1
 ·cases h
section rules
variable {P:Program} {all:Array Oper} {rest:List Oper} {n:Nat} {tm:List (Nat×AV)} {hp:Heap} {Q:St→Prop} {d:Nat} {ty:TypeId} {pos:String} {af:Array Edge}
theorem HM {α:Type} {g:α→AV} {Z:α} {Xs:List α} {t e:TypeId} {i:TypeInfo} {z:Value} {x y:Operand} {k k':IntKind} {l c:Int} {sz:Nat} [aB P t (.slice e)] [aX P e i] (hx:de tm x=some (.int k l)) (hy:de tm y=some (.int k' c)) (hz:i.zero=some z) (hg:zlB z (g Z)=true) (hs:i.size=sz) (x7:Sp sz (g Z)=true) (tQ:be 0 sz=true) (hb:Nat.ble i.bytes 65536=true)
 (hn:be d n=true) (hm:OY Z l c=some Xs) (kk:∀ b:Bk,ae P all rest ⟨n,(d,.sl sz b 0 Xs.length) :: tm,(b,.arr sz (Xs.map g)) :: hp⟩ Q):ae P all (⟨some d,.makeSlice t x y,ty,pos,af,none⟩ :: rest) ⟨n,tm,hp⟩ Q:=by
 subst hs
 have tQ:0 < i.size:=b7 (cX (b4 tQ)) (ai _)
 have hb:=b4 hb
 unfold OY at hm
 split at hm
 ·rename_i hc
  obtain rfl:=aa hm
  obtain ⟨c0,c1,c2⟩:=hc
  refine ae.IJ rfl fun w S a r=>?_
  have e1:=(bj (σ:=⟨n,tm,hp⟩) r hx).eP
  have e2:=(bj (σ:=⟨n,tm,hp⟩) r hy).eP
  have hE:=yN x7
  obtain ⟨hl,sB⟩:=VS w S hg
  have D5:z.cells.size=i.size:=by rw [← hl];exact hE.1
  obtain ⟨vs,SO⟩:∃ vs:Array Value,vs=(bm (c.toNat * i.size)).map (z.cells[· % z.cells.size]!):=⟨_,rfl⟩
  have iV:vs.size=c.toNat * i.size:=by rw [SO];simp
  have HC:∀ (j:Nat) (v:Value),vs[j]? =some v→z.cells[j % i.size]? =some v:=by
   intro j v hv
   rw [SO] at hv
   simp only [d3,d4] at hv
   obtain ⟨q,hq,rfl⟩:=hv
   have:q=j:=by
    rw [d5] at hq
    obtain ⟨h1,h2⟩:=hq
    simpa using h2.symm
   subst this
   rw [D5]
   have iW:q % i.size < z.cells.size:=by rw [D5];exact ci _ tQ
   simp [iW]
  have e0:=Ext.alloc w (.cells vs e)
  have PU:(aI l.toNat Z).map g=aI l.toNat (g Z):=by simp
  have hh:Holds (w.alloc (.cells vs e)) S ⟨some w.heap.size,c.toNat⟩ (.arr i.size ((aI l.toNat Z).map g)):=by
   rw [PU]
   refine ⟨fun x hx=>by rw [c6 hx];exact hE,by simp;omega,.inr ⟨w.heap.size,vs,e,rfl,?_,iV,fun j cc v Gp hv=>?_⟩⟩
   ·show (w.heap.push _)[w.heap.size]? =_
    simp
   ·have Af:j < (flat (aI l.toNat (g Z))).length:=(a6.1 Gp).1
    rw [cN (fun x hx=>by rw [c6 hx];exact hE)] at Af
    rw [yT hE.1 _ _ (by simpa using Af)] at Gp
    exact (sB _ _ _ Gp (HC j v hv)).mono fun m hm=>⟨hm,e0.same m (r.hp.slt m hm)⟩
  obtain ⟨k1,k2,k3⟩:=pP r.hp e0 id hh (.inr ⟨_,rfl,ai _⟩)
  refine ⟨.slice (some ⟨w.heap.size,0,none⟩) l.toNat c.toNat,w.alloc (.cells vs e),S,_,?_,(r.heap k3 k1).put hn ?_,k2,kk ⟨some w.heap.size,c.toNat⟩⟩
  ·have w1:IntKind.i64.wrap l=l:=wN ⟨by omega,by omega⟩
   have w2:IntKind.i64.wrap c=c:=wN ⟨by omega,by omega⟩
   have hbc:(i.bytes:Int) * c≤65536 * 1000000000:=Int.mul_le_mul (by omega) (by omega) (by omega) (by omega)
   have f1:decide (c < 0)=false:=decide_eq_false (by omega)
   have f2:decide (((i.bytes:Int) * c) > 2 ^ 48)=false:=decide_eq_false (by omega)
   have f3:decide (l < 0)=false:=decide_eq_false (by omega)
   have f4:decide (l > c)=false:=decide_eq_false (by omega)
   have x8:¬ c.toNat * i.bytes > roomBytes:=by
    have:c.toNat * i.bytes≤1000000000 * 65536:=Nat.mul_le_mul (by omega) hb
    unfold roomBytes;omega
   have a1:∀ (k:IntKind) (x:Int) (w:World),(asInt (.int k x)).run P w=.ok x w:=fun k x w=>by simp [asInt,asIntOf]
   simp only [execOp,Instr.makeSlice,Sem.run_bind,run_underlying (aB.h (P:=P) (t:=t)),Result.andThen_ok,e1,e2,a1,typeInfo,sizeOf,run_program,aX.h (P:=P) (t:=e),Sem.run_pure,w1,w2,f1,f2,f3,f4,Bool.or_self,b5,if_false,askRoom,if_neg x8]
   by_cases h0:c.toNat * i.size=0
   ·rw [if_pos h0]
    have ZK:vs=#[]:=by apply d6;omega
    simp only [Sem.run_bind,Sem.run_pure,Result.andThen_ok,h0,pq,ZK]
    rw [show bm 0=#[] from rfl]
    simp
   ·rw [if_neg h0]
    simp only [Sem.run_bind,Result.andThen_ok,Sem.run_pure,zeroValue,typeInfo,run_program,aX.h (P:=P) (t:=e),hz,pq,← SO]
  ·have:=At.sl (w:=w.alloc (.cells vs e)) (S:=S) i.size ⟨some w.heap.size,c.toNat⟩ 0 l.toNat w.heap.size c.toNat rfl (by omega) (by simp)
   simpa using this
 ·cases hm
end rules
def ZR:Value→AV→Bool
 | .slice none 0 0,.list _ []=>true
 | .int k n,.int k' n'=>decide (k=k'∧n=n')
 | .bool b,.bool c=>b==c
 | .string s,.str []=>Nat.beq s.data.size 0
 | _,_=>false
def Ym:List Value→List AV→Bool
 | [],[]=>true
 | v :: vs,a :: cs=>ZR v a&&Ym vs cs
 | _,_=>false
def zlC (z:Value) (a:AV):Bool:=Ym z.cells.toList a.cells
theorem Qf (w:World) (S:Nat→Prop) {z:Value} {a:AV} (h:ZR z a=true):At w S a z:=by
 unfold ZR at h
 split at h
 ·rename_i sz
  exact At.list sz [] none 0 [] (fun x hx=>by cases hx) rfl (fun i c v h=>by simp [flat] at h) (fun i v h=>by simp at h) (ai _)
 ·obtain ⟨rfl,rfl⟩:=of_decide_eq_true h
  exact .int _ _
 ·have:=eq_of_beq h
  subst this
  exact .bool _
 ·rename_i s
  have hs:=d7 h
  obtain ⟨d⟩:=s
  have hd:d=#[]:=d6 hs
  subst hd
  exact .str []
 ·cases h
theorem Lt (w:World) (S:Nat→Prop):∀ {vs:List Value} {cs:List AV},Ym vs cs=true→cs.length=vs.length∧∀ (j:Nat) c v,cs[j]? =some c→vs[j]? =some v→At w S c v
 | [],[],_=>⟨rfl,fun j c v h=>by simp at h⟩
 | v :: vs,a :: cs,h=>by
   simp only [Ym,Bool.and_eq_true] at h
   obtain ⟨h1,h2⟩:=Lt w S h.2
   refine ⟨by simp [h1],fun j c u k1 k2=>?_⟩
   cases j with
   | zero=>simp at k1 k2;subst k1 k2;exact Qf w S h.1
   | succ j=>exact h2 j c u (by simpa using k1) (by simpa using k2)
 | [],_ :: _,h=>by cases h
 | _ :: _,[],h=>by cases h
theorem VT (w:World) (S:Nat→Prop) {z:Value} {a:AV} (h:zlC z a=true):a.cells.length=z.cells.size∧o8 w S a.cells z.cells:=by
 obtain ⟨h1,h2⟩:=Lt w S h
 refine ⟨by simpa using h1,fun j c v k1 k2=>h2 j c v k1 (by simpa using k2)⟩
section rules
variable {P:Program} {all:Array Oper} {rest:List Oper} {n:Nat} {tm:List (Nat×AV)} {hp:Heap} {Q:St→Prop} {d:Nat} {ty:TypeId} {pos:String} {af:Array Edge}
theorem Qg {t e:TypeId} {i:TypeInfo} {z:Value} {x:Operand} {b:Bk} {L N sz:Nat} {xs:List AV} {zx:AV} {cL:Heap} [aB P t (.slice e)] [aX P e i] (hx:de tm x=some (.sl sz b L N)) (hz:i.zero=some z) (Em:zlC z zx=true) (iV:Nat.beq i.size sz=true) (x7:Sp sz zx=true) (tQ:be 0 sz=true) (hL:L+N≤xs.length)
 (u:na hp b (.arr sz xs) b (.arr sz (xs.take L++aI N zx++xs.drop (L+N))) cL) (kk:ae P all rest ⟨n,tm,cL⟩ Q):
 ae P all (⟨none,.call {callee:=.builtin .clear,args:=#[x],argTypes:=#[t]},ty,pos,af,none⟩ :: rest) ⟨n,tm,hp⟩ Q:=by
 have iV:=d7 iV
 have tQ:0 < sz:=b7 (cX (b4 tQ)) (ai _)
 have hE:=yN x7
 refine ae.IJ rfl fun w S a r=>?_
 obtain ⟨oa,cap,e1,e2⟩:=(bj (σ:=⟨n,tm,hp⟩) r hx).u7
 rcases Nat.eq_zero_or_pos N with h0 | h0
 ·subst h0
  have Ah:xs.take L++aI 0 zx++xs.drop (L+0)=xs:=by simp
  rw [Ah] at u
  obtain ⟨p,q,hq1,hq2⟩:=u.split
  obtain rfl:cL=hp:=by rw [hq1,hq2]
  refine ⟨.tuple #[],w,S,⟨n,tm,cL⟩,?_,r,kS.refl _ _ _,kk⟩
  cases oa<;>simp [execOp,e1,resolve,invoke,builtin,Builtin.clear_,run_underlying (aB.h (P:=P) (t:=t))]
 ·rcases e2 with ⟨_,_,hl,_,_⟩ | ⟨m,hb,rfl,h1,h2⟩ | ⟨_,_,_,_,hl,_⟩
  ·omega
  ·obtain ⟨g0,g1,⟨g2,_⟩ | ⟨m',vs,E,g2,g3,g4,g5⟩⟩:=rn r.hp (.inl u.lS)
   ·rw [g2] at hb;cases hb
   obtain rfl:m'=m:=by rw [g2] at hb;exact aa hb
   obtain ⟨zl,ZL⟩:=VT w S Em
   have D5:z.cells.size=sz:=by rw [← zl];exact hE.1
   have SU:∀ y∈aI N zx,El sz y:=fun y hy=>by rw [c6 hy];exact hE
   have KZ:(Builtin.zeroCells z.cells N).size=N * sz:=by rw [size_zeroCells,D5]
   have IU:(flat (aI N zx)).length=(Builtin.zeroCells z.cells N).size:=by rw [cN SU,KZ];simp
   have PZ:o8 w S (flat (aI N zx)) (Builtin.zeroCells z.cells N):=by
    intro j c v hc hv
    have hj:j < N * sz:=by
     have:=(a6.1 hc).1
     rw [cN SU] at this;simpa using this
    rw [yT hE.1 N j hj] at hc
    refine ZL (j % sz) c v hc ?_
    unfold Builtin.zeroCells at hv
    simp only [d3,d4] at hv
    obtain ⟨q,hq,rfl⟩:=hv
    have:q=j:=by
     rw [d5] at hq
     obtain ⟨k1,k2⟩:=hq
     simpa using k2.symm
    subst this
    rw [D5]
    have iW:q % sz < z.cells.size:=by rw [D5];exact ci _ tQ
    simp [iW]
   have vE:=yL IU PZ (fun c hc=>by
    unfold flat at hc
    rw [a7] at hc
    obtain ⟨y,hy,hcy⟩:=hc
    exact (SU y hy).2 c hcy)
   have Hl:=cN g0
   have hmul:(L+N) * sz≤xs.length * sz:=cl _ hL
   have CZ:xs.length * sz≤b.cap * sz:=cl _ g1
   rw [c7] at hmul
   have FJ:=run_storeCells_at (P:=P) m' (L * sz) E (Builtin.zeroCells z.cells N).toList 0 vs w g3 (by simp [KZ];omega) vE
   simp only [Nat.add_zero] at FJ
   have Bg:flat (xs.take L++aI N zx++xs.drop (L+N))=(flat xs).take (L * sz)++flat (aI N zx)++(flat xs).drop (L * sz+(flat (aI N zx)).length):=by
    rw [rm,rm,wR xs L g0,wQ xs (L+N) g0,IU,KZ,c7]
   have I7:=fun (w':World) (ha:o8 w' S (flat xs) vs) (hb:o8 w' S (flat (aI N zx)) (Builtin.zeroCells z.cells N))=>Hp (L * sz) (by rw [Hl,g4];exact CZ) ha IU hb (by rw [IU,KZ,Hl];omega)
   have I8:(vs.toList.take (L * sz)++(Builtin.zeroCells z.cells N).toList++vs.toList.drop (L * sz+(Builtin.zeroCells z.cells N).toList.length)).toArray.size=b.cap * sz:=by
    simp [KZ];omega
   generalize (vs.toList.take (L * sz)++(Builtin.zeroCells z.cells N).toList++vs.toList.drop (L * sz+(Builtin.zeroCells z.cells N).toList.length)).toArray=CP at FJ I7 I8
   have c:GB w (w.setRow m' CP) b.cw:=⟨⟨rfl,rfl,rfl,by simp,fun k hk A2=>setRow_other w m' k _ (fun e=>A2 (by rw [g2,e]))⟩,fun _=>ai _⟩
   have k1:∀ n,S n→S n∧(w.setRow m' CP).heap[n]? =w.heap[n]?:=by
    intro k hk
    refine ⟨hk,setRow_other w m' k _ (fun e=>?_)⟩
    subst e
    exact (r.hp.sep _ u.lS.mem k (fV g2)).1 hk
   have hh:=tA r.hp u c id id ⟨fun y hy=>?_,by simp;omega,.inr ⟨m',CP,E,g2,setRow_heap w m' vs _ E _ g3,I8,by rw [Bg];exact I7 _ (g5.mono k1) (PZ.mono k1)⟩⟩ (.inl rfl)
   ·refine ⟨.tuple #[],w.setRow m' CP,S,⟨n,tm,cL⟩,?_,r.heap hh.2.2 hh.1,hh.2.1,kk⟩
    obtain ⟨N',rfl⟩:∃ k,N=k+1:=⟨N - 1,by omega⟩
    simp [execOp,e1,resolve,invoke,builtin,Builtin.clear_,run_underlying (aB.h (P:=P) (t:=t)),zeroValue,typeInfo,aX.h (P:=P) (t:=e),hz,FJ]
   ·rcases bi.1 hy with h | h
    ·rcases bi.1 h with h | h
     ·exact g0 y (List.mem_of_mem_take h)
     ·exact SU y h
    ·exact g0 y (List.mem_of_mem_drop h)
  ·omega
theorem Qh {α:Type} {g:α→AV} {Z:α} {Xs V:List α} {H:Int} {t e:TypeId} {i:TypeInfo} {z:Value} {x:Operand} {b:Bk} {L:Int} {sz:Nat} {cL:Heap} [aB P t (.slice e)] [aX P e i] (hx:de tm x=some (.sl sz b L.toNat V.length)) (hz:i.zero=some z) (Em:zlC z (g Z)=true) (iV:Nat.beq i.size sz=true) (x7:Sp sz (g Z)=true) (tQ:be 0 sz=true) (hv:A5 Xs L H=some V)
 (u:na hp b (.arr sz (Xs.map g)) b (.arr sz ((DM Xs L V.length Z).map g)) cL) (kk:ae P all rest ⟨n,tm,cL⟩ Q):
 ae P all (⟨none,.call {callee:=.builtin .clear,args:=#[x],argTypes:=#[t]},ty,pos,af,none⟩ :: rest) ⟨n,tm,hp⟩ Q:=by
 obtain ⟨⟨h0,h1,h2⟩,_⟩:=vb hv
 have hlen:=(Bo hv).1
 refine Qg (xs:=Xs.map g) hx hz Em iV x7 tQ (by simp;omega) ?_ kk
 have:(DM Xs L V.length Z).map g=(Xs.map g).take L.toNat++aI V.length (g Z)++(Xs.map g).drop (L.toNat+V.length):=by
  unfold DM
  simp
 rw [← this]
 exact u
end rules
theorem aj.Qi {n s j:Nat} {tm:List (Nat×AV)} {hp vA:Heap} {T:St→Prop} {fn:Fn} {wx UO:List AV} {b:Bk} {cs:List AV} (hs:lk tm s=some (.func fn wx)) (hj:wx[j]? =some (.ptr b 0)) (Lu:wx.set j (.ch cs)=UO) (dl:yK hp b (.cells cs) vA) (k:aj ⟨n,(s,.func fn UO) :: tm,vA⟩ T):aj ⟨n,tm,hp⟩ T:=by
 subst Lu
 refine aj.step (A3:=⟨n,(s,.func fn (wx.set j (.ch cs))) :: tm,vA⟩) (fun w S a r=>?_) k
 obtain ⟨p,q,rfl,rfl⟩:=dl.split
 have lI:(b,Ob.cells cs)∈p++(b,.cells cs) :: q:=bE.2 (.inl rfl)
 obtain ⟨h1,m0,vs,E,CN,hh,iV,ha⟩:=r.hp.holds _ lI
 have IN:∀ m,b.cw=some m→m < w.heap.size:=fun m hm=>r.hp.lt ⟨_,lI,fV hm⟩
 let S':Nat→Prop:=fun m=>S m∨b.cw=some m
 have mono:∀ m,S m→S' m∧w.heap[m]? =w.heap[m]?:=fun m hm=>⟨.inl hm,rfl⟩
 have wz:=r.hp.nodup
 have ow:(p++q).Sublist (p++(b,Ob.cells cs) :: q):=cm (cn _) (cp _ _)
 have u9:db w S' (p++q):=by
  refine ⟨wz.sublist (tP ow),fun e he=>(r.hp.holds e (ow.subset he)).mono mono (fun _ _=>rfl),fun e he m hm=>?_,fun m hm=>?_,fun g o ho=>⟨.inl (r.hp.gz g o ho).1,(r.hp.gz g o ho).2⟩⟩
  ·rw [← r.hp.sep e (ow.subset he) m hm]
   refine ⟨fun hs=>hs.elim id fun hb=>?_,.inl⟩
   exfalso
   rw [bx,b8,a8,a8] at wz
   rcases bi.1 he with h | h
   ·exact wz.2.2 m (a7.2 ⟨e,h,hm⟩) m (bz _ (fV hb)) rfl
   ·exact wz.2.1.2.2 m (fV hb) m (a7.2 ⟨e,h,hm⟩) rfl
  ·rcases hm with h | h
   ·exact r.hp.slt m h
   ·exact IN m h
 have hr:=r.heap mono u9
 refine ⟨_,S',rfl,⟨hr.size,hr.defers,fun t av h=>?_,hr.hp⟩,rfl,rfl,rfl,ai _,mono,fun m hm hh=>⟨rfl,fun hs=>hs.elim id fun hb=>(hh ⟨_,lI,fV hb⟩).elim⟩,fun m hm=>.inl ?_,fun _=>ai _⟩
 ·simp only [lk] at h
  split at h
  ·rename_i hbq
   obtain rfl:s=t:=by simpa using hbq
   obtain rfl:=aa h
   obtain ⟨v,e1,e2⟩:=hr.tm s _ hs
   obtain ⟨us,rfl,ul,ua⟩:=e2.yH
   refine ⟨_,e1,.func fn _ us (by simp [ul]) (fun i c v hc hv=>?_)⟩
   rw [d8] at hc
   split at hc
   ·rename_i zC
    subst zC
    split at hc
    ·obtain rfl:=aa hc
     have hp:=ua j _ v hj hv
     cases hp with
     | ptr _ _ m hb=>
       obtain rfl:=aa (hb.symm.trans CN)
       refine .ch cs ⟨m,0,none⟩ vs.toList (by simp [iV]) (fun i c v hc hv=>(ha i c v hc (by simpa using hv)).mono mono) rfl (.inr hb) (fun i v hv=>?_)
       rw [nY hh];simpa using hv
    ·cases hc
   ·exact ua i c v hc hv
  ·exact hr.tm t av h
 ·obtain ⟨e,he,hb⟩:=hm
  exact ⟨e,ow.subset he,hb⟩
def zlV:Value→AV→Bool
 | .agg vs,.agg cs=>Ym vs.toList cs
 | z,a=>ZR z a
theorem VU (w:World) (S:Nat→Prop) {z:Value} {a:AV} (h:zlV z a=true):At w S a z:=by
 unfold zlV at h
 split at h
 ·obtain ⟨h1,h2⟩:=Lt w S h
  exact .agg _ _ (by simpa using h1) (fun i c v k1 k2=>h2 i c v k1 (by simpa using k2))
 ·exact Qf w S h
section rules
variable {P:Program} {all:Array Oper} {rest:List Oper} {n:Nat} {tm:List (Nat×AV)} {hp:Heap} {Q:St→Prop} {d:Nat} {ty:TypeId} {pos:String} {af:Array Edge}
theorem EE {K V:Type} [DecidableEq K] {gk:K→AV} {gv:V→AV} {M:List (K×V)} {key:K} {Z:V} {v:V×Bool} {t kt vt:TypeId} {i:TypeInfo} {z:Value} {x y:Operand} {b:Bk} {av:AV} [aB P t (.map kt vt)] [aX P vt i] [dC P kt gk] (hx:de tm x=some (.bV b)) (hy:de tm y=some (gk key)) (f:mD hp b (.mp (M.map fun e=>(gk e.1,gv e.2)))) (hz:i.zero=some z) (Em:zlV z (gv Z)=true) (h:uD M key Z=some v) (qn:gv v.1=av):
 QV P ⟨some d,.lookup t x y true,ty,pos,af,none⟩ ⟨n,tm,hp⟩ (.lE [av,.bool v.2]):=by
 intro w S a r
 have kx:=bj (σ:=⟨n,tm,hp⟩) r hx
 have ky:=bj (σ:=⟨n,tm,hp⟩) r hy
 obtain ⟨nb,hb,ex⟩:=kx.kf
 obtain ⟨L,c,M',zJ,cq,p1,p2,p3,p4,p5,p6,p7,p8⟩:=qR (dC.inj P kt) r.hp f
 obtain rfl:zJ=nb:=by rw [p4] at hb;exact aa hb
 unfold uD at h
 have hv:=aa h
 rw [← jg p1 p8] at hv
 have jD:=dC.find (P:=P) (t:=kt) (g:=gk) ky cq.toList (M'.map ap) (by simpa using p6.symm) (fun j k' e h1 h2=>by
  rw [ac] at h1
  cases hm:M'[j]? with
  | none=>rw [hm] at h1;cases h1
  | some q=>rw [hm] at h1;rw [← aa h1];exact (p7 j q e hm h2).1)
 rcases oc (gv:=gv) (w:=w) (S:=S) (k:=key) M' cq.toList 0 p6.symm (fun j e m h1 h2=>(p7 j e m h1 h2).2) with ⟨q1,q2⟩ | ⟨v',j,val,q1,q2,q3,_⟩
 ·refine ⟨.tuple #[z,.bool false],fun w1 e1=>?_,?_⟩
  ·simp [execOp,Instr.lookup,ex,run_underlying (aB.h (P:=P) (t:=t)),cY (e1.heap p5),dC.check (P:=P) (t:=kt) ky,jD,q2,zeroValue,typeInfo,aX.h (P:=P) (t:=vt),hz]
  ·rw [← qn,← hv,q1]
   refine .lE _ _ rfl (pN ?_ (.bool _))
   rw [cy];exact VU w S Em
 ·refine ⟨.tuple #[val,.bool true],fun w1 e1=>?_,?_⟩
  ·simp [execOp,Instr.lookup,ex,run_underlying (aB.h (P:=P) (t:=t)),cY (e1.heap p5),dC.check (P:=P) (t:=kt) ky,jD,q2]
  ·rw [← qn,← hv,q1]
   exact .lE _ _ rfl (pN q3 (.bool _))
end rules
def ZS:AV→Bool
 | .int _ _=>true
 | .bool _=>true
 | .str _=>true
 | _=>false
theorem VV {w:World} {S:Nat→Prop} {a:AV} {v u:Value} (h:ZS a=true) (hv:At w S a v) (hu:At w S a u):v=u∧∀ n,Instr.sameBits n v v=true:=by
 cases a<;>simp only [ZS,b5] at h
 ·rw [hv.eP,hu.eP];exact ⟨rfl,fun n=>by cases n<;>simp [Instr.sameBits]⟩
 ·rw [hv.kW,hu.kW];exact ⟨rfl,fun n=>by cases n<;>simp [Instr.sameBits]⟩
 ·rw [hv.fj,hu.fj]
  refine ⟨rfl,fun n=>?_⟩
  cases n<;>(simp only [Instr.sameBits];exact (Ll _ _).2 rfl)
theorem Bu {α:Type} (p:α×α→Bool):∀ (l:List α),(∀ x∈l,p (x,x)=true)→(l.zip l).all p=true
 | [],_=>rfl
 | x :: r,h=>by
   rw [List.zip_cons_cons,List.all_cons,h x c8,Bu p r (fun y hy=>h y (b9 _ hy))];rfl
theorem Tb {w:World} {S:Nat→Prop} {cs:List AV} {v u:Value} (h:∀ c∈cs,ZS c=true) (hv:At w S (.agg cs) v) (hu:At w S (.agg cs) u):Instr.sameBits 10000 v u=true:=by
 obtain ⟨vs,rfl,hl,ha⟩:=hv.pO
 obtain ⟨us,rfl,FI,ME⟩:=hu.pO
 have key:∀ (i:Nat) (h1:i < vs.size) (h2:i < us.size),vs[i]=us[i]∧∀ n,Instr.sameBits n vs[i] vs[i]=true:=fun i h1 h2=>by
  have hc:cs[i]? =some (cs[i]'(by omega)):=by simp [show i < cs.length by omega]
  exact VV (h _ (bY _)) (ha i _ _ hc (by simp [h1])) (ME i _ _ hc (by simp [h2]))
 have heq:vs=us:=Array.ext (by omega) (fun i h1 h2=>(key i h1 h2).1)
 subst heq
 have g:∀ n:Nat,Instr.sameBits (n+1) (.agg vs) (.agg vs)=true:=fun n=>by
  simp only [Instr.sameBits,beq_self_eq_true,Bool.true_and]
  refine Bu _ _ (fun x hx=>?_)
  obtain ⟨i,hi,rfl⟩:=d9 hx
  simpa using (key i (by simpa using hi) (by simpa using hi)).2 n
 exact g 9999
def W6 (D:TypeDesc):Bool:=match D with
 | .int _=>true
 | .bool=>true
 | .string=>true
 | _=>false
theorem Yn {P:Program} {t:TypeId} {D:TypeDesc} (hu:P.underlying t=some D) (hD:W6 D=true) (b:Bool) (n:Nat) (v:Value) (w:World):(Instr.checkKey b (n+1) t v).run P w=.ok () w:=by
 cases D<;>simp only [W6,b5] at hD<;>simp [Instr.checkKey,run_underlying hu]
theorem Tc {P:Program} {t:TypeId} {D:TypeDesc} (hu:P.underlying t=some D) (hD:W6 D=true) {cs:Array Value} {off:Nat} {v:Value} (h:cs[off]? =some v) (w:World):(part t cs off).run P w=.ok v w:=by
 unfold part isAgg
 simp only [Sem.run_bind,run_underlying hu,Result.andThen_ok]
 cases D<;>simp_all [W6]
theorem GD {P:Program} (b:Bool) (n:Nat) (vs:Array Value) (w:World):∀ (fs:List Field),(∀ f∈fs,∃ D,P.underlying f.type=some D∧W6 D=true∧f.offset < vs.size)→(forIn fs cz (fun f (_:PUnit)=>(if f.name≠"_" then do
 let x ← part f.type vs f.offset
 Instr.checkKey b (n+1) f.type x
 pure (ea cz)
 else pure (ea cz):Sem (ForInStep PUnit)))).run P w=.ok cz w
 | [],_=>by simp
 | f :: fs,h=>by
   obtain ⟨D,h1,h2,h3⟩:=h f c8
   have hp:∀ w1,(part f.type vs f.offset).run P w1=.ok vs[f.offset] w1:=Tc h1 h2 (by simp [h3])
   have ih:=GD b n vs w fs (fun g hg=>h g (b9 _ hg))
   simp only [List.forIn_cons,Sem.run_bind]
   by_cases hn:f.name="_"
   ·simp only [hn,ne_eq,not_true_eq_false,if_false,Sem.run_pure,Result.andThen_ok]
    exact ih
   ·simp only [hn,ne_eq,not_false_eq_true,if_true,Sem.run_bind,hp,Result.andThen_ok,Yn h1 h2,Sem.run_pure]
    exact ih
theorem UP {P:Program} {t:TypeId} {v:Value} {K:Type} [DecidableEq K] {k:K} {q:K→Value→Prop} (hq:∀ k' u,q k' u→∀ w,(Op.equal t v u).run P w=.ok (decide (k'=k)) w):∀ (es:List MapEntry) (ks:List K) (i:Nat) (w:World),ks.length=es.length→(∀ (i:Nat) k' e,ks[i]? =some k'→es[i]? =some e→q k' e.key)→(Instr.findAsking t v es i).run P w=.ok (yW k ks es i) w
 | [],[],i,w,_,_=>by simp [Instr.findAsking,yW]
 | [],k' :: ks,i,w,hl,_=>by simp at hl
 | e :: es,[],i,w,hl,_=>by simp at hl
 | e :: es,k' :: ks,i,w,hl,h=>by
   unfold Instr.findAsking yW
   rw [Sem.run_bind,hq k' e.key (h 0 k' e rfl rfl)]
   by_cases hk:k'=k
   ·simp [hk]
   ·simp only [hk,decide_false,Result.andThen_ok,b5,if_false]
    exact UP hq es ks (i+1) w (by simpa using hl) (fun i k' e h1 h2=>h (i+1) k' e (by simpa using h1) (by simpa using h2))
theorem dC.struct {P:Program} {t:TypeId} {K:Type} [DecidableEq K] {g:K→AV} {dd:Nat} {fs:List Field} {n:Nat} [yS P t dd g] (hk:Nat.ble dd 10000=true) (hu:P.underlying t=some (.struct fs.toArray))
 (hf:∀ f∈fs,∃ D,P.underlying f.type=some D∧W6 D=true∧f.offset < n) (hg:∀ x,∃ cs,g x=.agg cs∧cs.length=n∧∀ c∈cs,ZS c=true) (inj:∀ a b,g a=g b→a=b):dC P t g where
 inj:=inj
 check:=fun {w S k v} hv b w1=>by
  obtain ⟨cs,e,hl,hs⟩:=hg k
  rw [e] at hv
  obtain ⟨vs,rfl,FI,ha⟩:=hv.pO
  have key:∀ m:Nat,(Instr.checkKey b (m+1+1) t (.agg vs)).run P w1=.ok () w1:=fun m=>by
   have h1:=GD (P:=P) b m vs w1 fs (fun f hm=>by obtain ⟨D,h1,h2,h3⟩:=hf f hm;exact ⟨D,h1,h2,by omega⟩)
   rw [Instr.checkKey]
   simp only [Sem.run_bind,run_underlying hu,Result.andThen_ok]
   rw [← Array.forIn_toList]
   simp only [h1,Result.andThen_ok,Sem.run_pure]
  exact key 9998
 find:=fun {w S k v} hv es ks hl R5 w1=>by
  obtain ⟨cs,e,hn,hs⟩:=hg k
  have UJ:=hv
  rw [e] at UJ
  obtain ⟨vs,rfl,FI,ha⟩:=UJ.pO
  have hq:=UP (P:=P) (t:=t) (v:=.agg vs) (k:=k) (q:=fun k' u=>At w S (g k') u) (fun k' u hu w2=>by
   have:=yS.h (P:=P) (t:=t) (g:=g) k k' w S _ _ hv hu (10000 - dd) w2
   rw [Nat.sub_add_cancel (b4 hk)] at this
   rw [show decide (k'=k)=decide (k=k') by rw [Bool.eq_iff_iff];simp;exact eq_comm]
   exact this) es ks 0 w1 hl (fun i k' e h1 h2=>R5 i k' e h1 h2)
  unfold Instr.findKey
  rw [Sem.run_bind,run_underlying hu]
  simp only [Result.andThen_ok]
  cases es with
  | nil=>
    cases ks with
    | nil=>simp [Instr.findNow,yW]
    | cons _ _=>simp at hl
  | cons m es=>
    have:Instr.findNow (.struct fs.toArray) (.agg vs) (m :: es) 0=none:=by
     unfold Instr.findNow;simp [Instr.sameNow]
    rw [this];exact hq
 bits:=fun {w S k v u} h1 h2=>by
  obtain ⟨cs,e,hn,hs⟩:=hg k
  rw [e] at h1 h2
  exact Tb hs h1 h2
section rules
variable {P:Program} {all:Array Oper} {rest:List Oper} {n:Nat} {tm:List (Nat×AV)} {hp:Heap} {Q:List (Nat×AV)→Prop} {d:Nat} {ty:TypeId} {pos:String} {af:Array Edge} {op:Op}
theorem AM.HN {f:FuncId} {x:Operand} {args:List Operand} {ts:Array TypeId} {wx l l':List AV} {R:AV} [bJ P f](hx:de (Hu (looks all ⟨some d,.call {callee:=.value x,args:=args.toArray,argTypes:=ts},ty,pos,af,none⟩) tm) x=some (.func (.func f) wx)) (hl:CO (Hu (looks all ⟨some d,.call {callee:=.value x,args:=args.toArray,argTypes:=ts},ty,pos,af,none⟩) tm) args=some l) (c:Pu P f l' R) (co:B7 hp (l++wx) l') (hn:be d n=true)
 (k:AM P all n hp rest ((d,R) :: tm) Q):AM P all n hp (⟨some d,.call {callee:=.value x,args:=args.toArray,argTypes:=ts},ty,pos,af,none⟩ :: rest) tm Q:=by
 refine AM.mv (fun w S a h1 h2 h3 h4 K Q' hK=>?_) hn k
 have r:=sS h1 h2 h3 h4
 obtain ⟨cv,e1,e2,e3⟩:=(bj r hx).yH
 show Oper.upon P _ a K Q' _
 rw [yP a _ e1]
 obtain ⟨g1,g2⟩:=tU r hl
 obtain ⟨g3,g4⟩:=B7.at r.hp co (vs:=args.map a.eval++cv.toList) (by simp [g1,e2]) (yO g1 g2 (by simpa using e3))
 refine (c w S _ (va h3.slt h3.gz) (by simpa using g3) g4).mono ?_
 rintro e w' ⟨v,rr,h',S',rfl,rfl,k3,k4,k5⟩
 exact hK v w' S' ⟨k5.Gh,fun m hm=>(k5.mB m hm).1,fun m hm hs=>(k5.other m hm (fun ⟨x,hx,_⟩=>by simp at hx)).2 hs,k4.slt⟩ k3
end rules
section values
variable {P:Program} {n:Nat} {tm:List (Nat×AV)} {hp:Heap} {d:Nat} {ty:TypeId} {pos:String} {af:Array Edge}
theorem N6 {x:Operand} {s ft:TypeId} {j off:Nat} {D:TypeDesc} {i:TypeInfo} {cs lF:List AV} [aB P ft D] [aX P ft i] (hf:∃ fs f,P.underlying s=some (.struct fs)∧fs[j]? =some f∧f.type=ft∧f.offset=off) (hx:de tm x=some (.agg cs))
 (hD:TypeDesc.jA D=true) (hl:Nat.ble (off+i.size) cs.length=true) (hc:rU ((cs.drop off).take i.size)=some lF):QV P ⟨some d,.field s x j,ty,pos,af,none⟩ ⟨n,tm,hp⟩ (.agg lF):=
 (fun w S a r=>by
  obtain ⟨fs,f,hu,hj,rfl,rfl⟩:=hf
  obtain ⟨vs,h2,h3,h4⟩:=(bj (σ:=⟨n,tm,hp⟩) r hx).pO
  have g:=o8.sub h3 h4 f.offset i.size (b4 hl)
  rw [mb hc] at g
  refine ⟨_,fun w1 _=>?_,g⟩
  have hr:=Eg (P:=P) (t:=f.type) hD (cs:=vs) (off:=f.offset) (n:=i.size) rfl w1
  simp only [execOp,h2,Instr.field,Sem.run_bind,run_underlying hu,Result.andThen_ok,hj]
  simp [asAgg,hr])
end values
theorem aj.Qj {n s:Nat} {tm:List (Nat×AV)} {hp vA:Heap} {T:St→Prop} {b:Bk} {cs:List AV} (hs:lk tm s=some (.ptr b 0)) (dl:yK hp b (.cells cs) vA) (k:aj ⟨n,(s,.ch cs) :: tm,vA⟩ T):aj ⟨n,tm,hp⟩ T:=by
 refine aj.step (A3:=⟨n,(s,.ch cs) :: tm,vA⟩) (fun w S a r=>?_) k
 obtain ⟨p,q,rfl,rfl⟩:=dl.split
 have lI:(b,Ob.cells cs)∈p++(b,.cells cs) :: q:=bE.2 (.inl rfl)
 obtain ⟨h1,m0,vs,E,CN,hh,iV,ha⟩:=r.hp.holds _ lI
 have IN:∀ m,b.cw=some m→m < w.heap.size:=fun m hm=>r.hp.lt ⟨_,lI,fV hm⟩
 let S':Nat→Prop:=fun m=>S m∨b.cw=some m
 have mono:∀ m,S m→S' m∧w.heap[m]? =w.heap[m]?:=fun m hm=>⟨.inl hm,rfl⟩
 have wz:=r.hp.nodup
 have ow:(p++q).Sublist (p++(b,Ob.cells cs) :: q):=cm (cn _) (cp _ _)
 have u9:db w S' (p++q):=by
  refine ⟨wz.sublist (tP ow),fun e he=>(r.hp.holds e (ow.subset he)).mono mono (fun _ _=>rfl),fun e he m hm=>?_,fun m hm=>?_,fun g o ho=>⟨.inl (r.hp.gz g o ho).1,(r.hp.gz g o ho).2⟩⟩
  ·rw [← r.hp.sep e (ow.subset he) m hm]
   refine ⟨fun hs=>hs.elim id fun hb=>?_,.inl⟩
   exfalso
   rw [bx,b8,a8,a8] at wz
   rcases bi.1 he with h | h
   ·exact wz.2.2 m (a7.2 ⟨e,h,hm⟩) m (bz _ (fV hb)) rfl
   ·exact wz.2.1.2.2 m (fV hb) m (a7.2 ⟨e,h,hm⟩) rfl
  ·rcases hm with h | h
   ·exact r.hp.slt m h
   ·exact IN m h
 have hr:=r.heap mono u9
 refine ⟨_,S',rfl,⟨hr.size,hr.defers,fun t av h=>?_,hr.hp⟩,rfl,rfl,rfl,ai _,mono,fun m hm hh=>⟨rfl,fun hs=>hs.elim id fun hb=>(hh ⟨_,lI,fV hb⟩).elim⟩,fun m hm=>.inl ?_,fun _=>ai _⟩
 ·simp only [lk] at h
  split at h
  ·rename_i hbq
   obtain rfl:s=t:=by simpa using hbq
   obtain rfl:=aa h
   obtain ⟨v,e1,e2⟩:=hr.tm s _ hs
   cases e2 with
   | ptr _ _ m hb=>
     obtain rfl:=aa (hb.symm.trans CN)
     refine ⟨_,e1,.ch cs ⟨m,0,none⟩ vs.toList (by simp [iV]) (fun i c v hc hv=>(ha i c v hc (by simpa using hv)).mono mono) rfl (.inr hb) (fun i v hv=>?_)⟩
     rw [nY hh];simpa using hv
  ·exact hr.tm t av h
 ·obtain ⟨e,he,hb⟩:=hm
  exact ⟨e,ow.subset he,hb⟩
theorem J {α:Sort _} {a:α}:a=a:=rfl
end Go.Eng
set_option linter.unusedSimpArgs false
namespace Go.Eng
open Go
variable [bN]
theorem aj.UQ {n:Nat} {tm:List (Nat×AV)} {hp:Heap} {cL:Nat→Heap} {T:St→Prop} {b:Bk} {es:List (AV×AV)} {k:AV} (u:∀ q,na hp b (.mp es) b (.He es q k) (cL q)) (kk:∀ q,aj ⟨n,tm,cL q⟩ T):aj ⟨n,tm,hp⟩ T:=fun w S a r=>by
 obtain ⟨L,c,hL,hH⟩:=r.hp.holds _ (u 0).lS.mem
 have hq:∃ q,(∃ e∈L,e.k=k∧e.born=q)∨((∀ e∈L,e.k≠k)∧q=c):=by
  by_cases h:∃ e∈L,e.k=k
  ·obtain ⟨e,he,hk⟩:=h;exact ⟨e.born,.inl ⟨e,he,hk,rfl⟩⟩
  ·exact ⟨c,.inr ⟨fun e he hk=>h ⟨e,he,hk⟩,rfl⟩⟩
 obtain ⟨q,hq⟩:=hq
 obtain ⟨r1,e1,_⟩:=tA r.hp (u q) (HK w b.cw) id id ⟨L,c,hL,hH,hq⟩ (.inl rfl)
 obtain ⟨aK,S',t1,t2,t3⟩:=kk q w S a (r.heap (fun m hm=>⟨hm,rfl⟩) r1)
 exact ⟨aK,S',t1,t2,e1.trans t3⟩
theorem Jx {K V:Type} {gk:K→AV} {gv:V→AV} {w:World} {S:Nat→Prop} {hp:Heap} {b:Bk} {M:List (K×V)} {q:Nat} {key:K} (NW:∀ a b,gk a=gk b→a=b) (r:db w S hp) (f:mD hp b (.He (M.map fun e=>(gk e.1,gv e.2)) q (gk key))):
 ∃ (L:List mA) (c:Nat) (M':List (K×V)) (n:Nat) (cq:Array MapEntry),M'.Perm M∧L.map mA.kv=M'.map (fun e=>(gk e.1,gv e.2))∧u6 w S b L c∧b.cw=some n∧w.heap[n]? =some (.map cq c)∧cq.toList.length=M'.length∧
   (∀ (i:Nat) e m,M'[i]? =some e→cq.toList[i]? =some m→At w S (gk e.1) m.key∧At w S (gv e.2) m.val)∧(M'.map ap).Nodup∧((∃ e∈L,e.k=gk key∧e.born=q)∨((∀ e∈L,e.k≠gk key)∧q=c)):=by
 obtain ⟨L,c,mW,hH,hq⟩:=r.holds _ f.mem
 obtain ⟨M',h1,h2⟩:=r4 _ _ _ mW
 have VE:=hH
 obtain ⟨n,cq,g1,g2,g3,g4,g5,g6,g7⟩:=hH
 have hlen:L.length=M'.length:=by have:=congrArg cP h2;simpa using this
 refine ⟨L,c,M',n,cq,h1,h2,VE,g1,g2,by rw [da,g3,hlen],fun i e m he hm=>?_,?_,hq⟩
 ·have:(L.map mA.kv)[i]? =some (gk e.1,gv e.2):=by rw [h2,ac,he];rfl
  rw [ac] at this
  cases hL:L[i]? with
  | none=>rw [hL] at this;cases this
  | some x=>
    rw [hL] at this
    have hx:(x.k,x.v)=(gk e.1,gv e.2):=aa this
    obtain ⟨q1,q2⟩:=cQ hx
    have:=g4 i x m hL (by simpa using hm)
    rw [q1,q2] at this
    exact this.2
 ·have hk:L.map (·.k)=(M'.map ap).map gk:=by
   have:=congrArg (List.map ap) h2
   simpa [dg,eg,mA.kv] using this
  rw [hk] at g7
  exact (ej.1 g7).imp (fun h e=>h (by rw [e]))
theorem set_perm {K V:Type} [DecidableEq K] {M M':List (K×V)} {j:Nat} {key:K} {v v':V} (p1:M'.Perm M) (p8:(M'.map ap).Nodup) (q4:M'[j]? =some (key,v)):(M'.set j (key,v')).Perm ((key,v') :: mG M key):=by
 have UL:j < M'.length:=(a6.1 q4).1
 have e2:M'=M'.take j++(key,v) :: M'.drop (j+1):=by
  have:=List.take_append_drop j M'
  rw [List.drop_eq_getElem_cons UL] at this
  have hq:M'[j]=(key,v):=by rw [al UL] at q4;exact aa q4
  rw [hq] at this
  exact this.symm
 have e3:M'.set j (key,v')=M'.take j++(key,v') :: M'.drop (j+1):=by
  rw [List.set_eq_take_append_cons_drop,if_pos UL]
 rw [e3]
 refine dn.trans (ds _ ?_)
 have e4:mG M' key=M'.take j++M'.drop (j+1):=by
  have VG:=p8
  rw [e2,cb,b6,a8,List.nodup_cons] at VG
  unfold mG
  rw [e2,List.filter_append,el]
  simp only [ne_eq,not_true_eq_false,decide_false,b5,if_false]
  rw [← e2]
  congr 1
  ·refine du.2 fun e he=>?_
   simp only [decide_not,em,decide_eq_false_iff_not]
   intro hk
   exact VG.2.2 e.1 (bt.2 ⟨e,he,rfl⟩) key (by simp) hk
  ·refine du.2 fun e he=>?_
   simp only [decide_not,em,decide_eq_false_iff_not]
   intro hk
   exact VG.2.1.1 (bt.2 ⟨e,he,hk⟩)
 rw [← e4]
 exact p1.filter _
theorem N7 {K V:Type} [DecidableEq K] [wJ K] (M:List (K×V)) (key:K) (v:V):(mG (bW M key v) key).Perm (mG M key):=by
 refine ((uZ M key v).filter _).trans ?_
 rw [el,if_neg (by simp)]
 have:(mG M key).filter (fun e=>decide (e.1≠key))=mG M key:=du.2 fun e he=>by simpa using Ez M key e he
 rw [this]
section rules
variable {P:Program} {all:Array Oper} {rest:List Oper} {n:Nat} {tm:List (Nat×AV)} {hp:Heap} {Q:St→Prop} {d:Nat} {ty:TypeId} {pos:String} {af:Array Edge}
theorem EF {K V:Type} [DecidableEq K] [wJ K] {gk:K→AV} {gv:V→AV} {M:List (K×V)} {key:K} {q:Nat} {Z v:V} {t kt vt:TypeId} {i:TypeInfo} {z:Value} {x y:Operand} {b:Bk} {cL:Heap} [aB P t (.map kt vt)] [aX P vt i] [dC P kt gk] (hx:de tm x=some (.bV b)) (hy:de tm y=some (gk key)) (hz:i.zero=some z) (Em:A4 z=gv Z) (h1:kr (A4 z).cells=true) (h:pc M key Z=some v)
 (u:na hp b (.He (M.map fun e=>(gk e.1,gv e.2)) q (gk key)) b (.He ((bW M key v).map fun e=>(gk e.1,gv e.2)) q (gk key)) cL) (hn:be d n=true)
 (kk:ae P all rest ⟨n,(d,.lE [gv v,.int .i64 (q:Int)]) :: tm,cL⟩ Q):ae P all (⟨some d,.mapEntry t x y,ty,pos,af,none⟩ :: rest) ⟨n,tm,hp⟩ Q:=by
 refine ae.IJ rfl fun w S a r=>?_
 have kx:=bj (σ:=⟨n,tm,hp⟩) r hx
 have ky:=bj (σ:=⟨n,tm,hp⟩) r hy
 obtain ⟨nb,hb,ex⟩:=kx.kf
 obtain ⟨L,c,M',zJ,cq,p1,p2,p3,p4,p5,p6,p7,p8,hq⟩:=Jx (dC.inj P kt) r.hp u.lS
 obtain rfl:zJ=nb:=by rw [p4] at hb;exact aa hb
 unfold pc at h
 have hv:=aa h
 rw [← jg p1 p8] at hv
 have jD:=dC.find (P:=P) (t:=kt) (g:=gk) ky cq.toList (M'.map ap) (by simpa using p6.symm) (fun j k' e h1 h2=>by
  rw [ac] at h1
  cases hm:M'[j]? with
  | none=>rw [hm] at h1;cases h1
  | some q=>rw [hm] at h1;rw [← aa h1];exact (p7 j q e hm h2).1)
 obtain ⟨R9,iY,g1,g2,g3,g4,g5,g6,g7⟩:=p3
 obtain rfl:R9=zJ:=by rw [p4] at g1;exact (aa g1).symm
 obtain rfl:iY=cq:=by rw [p5] at g2;exact (Obj.map.inj (aa g2)).1.symm
 have ZO:L.length=M'.length:=by have:=congrArg cP p2;simpa using this
 have VF:∀ (j:Nat) (x:mA) (e:K×V),L[j]? =some x→M'[j]? =some e→x.k=gk e.1∧x.v=gv e.2:=by
  intro j x e h1 h2
  have:(L.map mA.kv)[j]? =(M'.map fun e=>(gk e.1,gv e.2))[j]?:=by rw [p2]
  rw [ac,ac,h1,h2] at this
  exact cQ (aa this)
 rcases oc (gv:=gv) (w:=w) (S:=S) (k:=key) M' iY.toList 0 p6.symm (fun j e m h1 h2=>(p7 j e m h1 h2).2) with ⟨q1,q2⟩ | ⟨v',j,val,q1,q2,q3,q4⟩
 ·
  have wS:∀ e∈L,e.k≠gk key:=by
   intro e he hk
   obtain ⟨j,hj⟩:=cS he
   have Af:j < M'.length:=by rw [← ZO];exact (a6.1 hj).1
   have:=(VF j e M'[j] hj (al Af)).1
   rw [hk] at this
   exact (pS.1 q1) M'[j] (bY Af) (dC.inj P kt _ _ this.symm)
  have hqc:q=c:=by
   rcases hq with ⟨e,he,hk,_⟩ | ⟨_,hc⟩
   ·exact absurd hk (wS e he)
   ·exact hc
  rw [q1,cy] at hv
  subst hv
  have kz:At w S (gv Z) z:=by rw [← Em];exact Es w S z h1
  have hw:=uY (ob:=.map (iY.push ⟨a.eval y,z,c⟩) (c+1)) r.hp u p4 p5 id id (fun k1=>by
   refine ⟨L++[⟨gk key,gv Z,c⟩],c+1,?_,⟨R9,iY.push ⟨a.eval y,z,c⟩,p4,uX p5,by simp [g3],?_,?_,?_,?_⟩,.inl ⟨⟨gk key,gv Z,c⟩,by simp,rfl,hqc.symm⟩⟩
   ·rw [cb,p2]
    refine dy ?_ ((sU key Z (mG M key)).symm.map _)
    rw [wZ (by rw [← jg p1 p8];exact q1)]
    exact dQ.trans (ds _ (p1.map _))
   ·intro i e m he hm
    rw [Array.getElem?_push] at hm
    rcases eq i L.length with hi | hi
    ·rw [List.getElem?_append_left hi] at he
     rw [if_neg (by omega)] at hm
     obtain ⟨s1,s2,s3⟩:=g4 i e m he hm
     exact ⟨s1,s2.mono k1,s3.mono k1⟩
    ·have I2:i=L.length:=by
      have:=(a6.1 he).1
      simp at this;omega
     subst I2
     rw [if_pos g3.symm] at hm
     simp at he
     obtain rfl:=aa hm
     subst he
     exact ⟨rfl,ky.mono k1,kz.mono k1⟩
   ·intro e he
    rcases bi.1 he with h | h
    ·have:=g5 e h;omega
    ·simp at h;subst h;simp
   ·rw [cb,a8]
    refine ⟨g6,by simp,fun a1 ha b1 DI DL=>?_⟩
    simp at DI
    subst DI
    obtain ⟨e,he,rfl⟩:=bt.1 ha
    have:=g5 e he
    omega
   ·rw [cb,a8]
    refine ⟨g7,by simp,fun a1 ha b1 DI DL=>?_⟩
    simp at DI
    subst DI
    obtain ⟨e,he,rfl⟩:=bt.1 ha
    exact wS e he DL)
  refine ⟨.tuple #[z,goInt c],_,S,_,?_,(r.heap hw.2.2 hw.1).put hn (.lE _ _ rfl (pN (kz.mono hw.2.2) ?_)),hw.2.1,kk⟩
  ·simp [execOp,Instr.mapEntry,ex,run_underlying (aB.h (P:=P) (t:=t)),cY p5,dC.check (P:=P) (t:=kt) ky,jD,q2,zeroValue,typeInfo,aX.h (P:=P) (t:=vt),hz,ve _ p5]
  ·rw [hqc];exact .int _ _
 ·
  have Af:j < iY.toList.length:=by rw [p6];exact (a6.1 q4).1
  have Dp:j < iY.size:=by simpa using Af
  have W4:iY.toList[j]? =some iY[j]:=by simp [Dp]
  have HF:=(p7 j _ _ q4 W4).1
  have P5:Instr.sameBits 10000 iY[j].key (a.eval y)=true:=dC.bits (P:=P) (t:=kt) HF ky
  have C1:j < L.length:=by omega
  have Td:L[j].k=gk key:=(VF j L[j] _ (al C1) q4).1
  have Eu:iY[j].born=L[j].born:=(g4 j L[j] iY[j] (al C1) (bk Dp)).1
  have Yo:L[j].born=q:=by
   rcases hq with ⟨e,he,hk,hb⟩ | ⟨Ea,_⟩
   ·obtain ⟨i,hi⟩:=cS he
    have ru:=(a6.1 hi).1
    have e1:(L.map (·.k))[i]? =some (gk key):=by rw [ac,hi,bv,hk]
    have e2:(L.map (·.k))[j]? =some (gk key):=by rw [ac,al C1,bv,Td]
    have zC:i=j:=(dR (by simpa using ru) g7).1 (e1.trans e2.symm)
    subst zC
    rw [← hb]
    exact congrArg mA.born (aa ((al C1).symm.trans hi))
   ·exact absurd Td (Ea _ (bY C1))
  rw [q1,eB] at hv
  subst hv
  have hw:=uY (ob:=.map (iY.modify j fun e=>{e with key:=a.eval y}) c) r.hp u p4 p5 id id (fun k1=>by
   refine ⟨L,c,?_,⟨R9,_,p4,uX p5,by simp [g3],?_,g5,g6,g7⟩,.inl ⟨L[j],bY C1,Td,Yo⟩⟩
   ·rw [p2]
    refine eC _ ?_
    refine dy ?_ (uZ M key v').symm
    have e1:M'.set j (key,v')=M':=w4 q4
    rw [← e1]
    exact set_perm p1 p8 q4
   ·intro i e m he hm
    rw [eH] at hm
    by_cases zC:j=i
    ·subst zC
     simp only [if_true,bk Dp,bv] at hm
     obtain rfl:=aa hm
     obtain ⟨s1,s2,s3⟩:=g4 j e iY[j] he (bk Dp)
     have:e=L[j]:=aa (he.symm.trans (al C1))
     refine ⟨s1,?_,s3.mono k1⟩
     rw [this,Td];exact ky.mono k1
    ·rw [if_neg zC] at hm
     obtain ⟨s1,s2,s3⟩:=g4 i e m he hm
     exact ⟨s1,s2.mono k1,s3.mono k1⟩)
  refine ⟨.tuple #[val,goInt iY[j].born],_,S,_,?_,(r.heap hw.2.2 hw.1).put hn (.lE _ _ rfl (pN (q3.mono hw.2.2) ?_)),hw.2.1,kk⟩
  ·simp [execOp,Instr.mapEntry,ex,run_underlying (aB.h (P:=P) (t:=t)),cY p5,dC.check (P:=P) (t:=kt) ky,jD,q2,Instr.keyThatStays,Dp,P5,ve _ p5]
  ·rw [Eu,Yo];exact .int _ _
theorem Bv {K V:Type} [DecidableEq K] [wJ K] {gk:K→AV} {gv:V→AV} {M:List (K×V)} {key:K} {q:Nat} {v v':V} {t kt:TypeId} {x s y:Operand} {b:Bk} {av:AV} {cL:Heap} [dC P kt gk] (hx:de tm x=some (.bV b)) (hs:de tm s=some (.int .i64 (q:Int))) (hy:de tm y=some av) (qn:av=gv v')
 (u:na hp b (.He ((bW M key v).map fun e=>(gk e.1,gv e.2)) q (gk key)) b (.mp ((bW M key v').map fun e=>(gk e.1,gv e.2))) cL)
 (kk:ae P all rest ⟨n,tm,cL⟩ Q):ae P all (⟨none,.entryStore t x s y,ty,pos,af,none⟩ :: rest) ⟨n,tm,hp⟩ Q:=by
 refine ae.act rfl rfl (fun w S a r=>?_) kk
 have kx:=bj (σ:=⟨n,tm,hp⟩) r hx
 have ks:=(bj (σ:=⟨n,tm,hp⟩) r hs).eP
 have ky:=bj (σ:=⟨n,tm,hp⟩) r hy
 obtain ⟨nb,hb,ex⟩:=kx.kf
 obtain ⟨L,c,M',zJ,cq,p1,p2,p3,p4,p5,p6,p7,p8,hq⟩:=Jx (dC.inj P kt) r.hp u.lS
 obtain rfl:zJ=nb:=by rw [p4] at hb;exact aa hb
 obtain ⟨R9,iY,g1,g2,g3,g4,g5,g6,g7⟩:=p3
 obtain rfl:R9=zJ:=by rw [p4] at g1;exact (aa g1).symm
 obtain rfl:iY=cq:=by rw [p5] at g2;exact (Obj.map.inj (aa g2)).1.symm
 have ZO:L.length=M'.length:=by have:=congrArg cP p2;simpa using this
 have VF:∀ (j:Nat) (x:mA) (e:K×V),L[j]? =some x→M'[j]? =some e→x.k=gk e.1∧x.v=gv e.2:=by
  intro j x e h1 h2
  have:(L.map mA.kv)[j]? =(M'.map fun e=>(gk e.1,gv e.2))[j]?:=by rw [p2]
  rw [ac,ac,h1,h2] at this
  exact cQ (aa this)
 have IN:(key,v)∈M':=p1.mem_iff.2 ((uZ M key v).mem_iff.2 (by simp))
 obtain ⟨j,hj⟩:=cS IN
 have UL:=(a6.1 hj).1
 have C1:j < L.length:=by omega
 have Dp:j < iY.size:=by omega
 have Td:L[j].k=gk key:=(VF j L[j] _ (al C1) hj).1
 have Eu:iY[j].born=L[j].born:=(g4 j L[j] iY[j] (al C1) (bk Dp)).1
 have Yo:L[j].born=q:=by
  rcases hq with ⟨e,he,hk,hb⟩ | ⟨Ea,_⟩
  ·obtain ⟨i,hi⟩:=cS he
   have ru:=(a6.1 hi).1
   have e1:(L.map (·.k))[i]? =some (gk key):=by rw [ac,hi,bv,hk]
   have e2:(L.map (·.k))[j]? =some (gk key):=by rw [ac,al C1,bv,Td]
   have zC:i=j:=(dR (by simpa using ru) g7).1 (e1.trans e2.symm)
   subst zC
   rw [← hb]
   exact congrArg mA.born (aa ((al C1).symm.trans hi))
  ·exact absurd Td (Ea _ (bY C1))
 have hfi:iY.findIdx? (fun e=>(e.born:Int)==(q:Int))=some j:=by
  rw [Array.findIdx?_eq_some_iff_getElem]
  refine ⟨Dp,by simp [Eu,Yo],fun i hi=>?_⟩
  have NF:i < iY.size:=by omega
  have I2:i < L.length:=by omega
  have NV:iY[i].born=L[i].born:=(g4 i L[i] iY[i] (al I2) (bk NF)).1
  simp only [beq_iff_eq,Int.natCast_inj,NV]
  intro hc
  have e1:(L.map (·.born))[i]? =some q:=by rw [ac,al I2,bv,hc]
  have e2:(L.map (·.born))[j]? =some q:=by rw [ac,al C1,bv,Yo]
  have zC:i=j:=(dR (by simpa using I2) g6).1 (e1.trans e2.symm)
  omega
 have hw:=uY (ob:=.map (iY.modify j fun e=>{e with val:=a.eval y}) c) r.hp u p4 p5 id id (fun k1=>by
  refine ⟨L.set j ⟨gk key,gv v',L[j].born⟩,c,?_,R9,_,p4,uX p5,by simp [g3],?_,?_,?_,?_⟩
  ·rw [ce]
   have e1:(L.map mA.kv).set j (gk key,gv v')=(M'.set j (key,v')).map fun e=>(gk e.1,gv e.2):=by rw [p2,ce]
   show ((L.map mA.kv).set j (gk key,gv v')).Perm _
   rw [e1]
   refine eC _ ?_
   refine (set_perm p1 p8 hj).trans ?_
   refine dy ?_ (uZ M key v').symm
   exact ds _ (N7 M key v)
  ·intro i e m he hm
   rw [eH] at hm
   rw [d8] at he
   by_cases zC:j=i
   ·subst zC
    simp only [if_true,C1] at he
    simp only [if_true,bk Dp,bv] at hm
    obtain rfl:=aa he
    obtain rfl:=aa hm
    obtain ⟨s1,s2,s3⟩:=g4 j L[j] iY[j] (al C1) (bk Dp)
    rw [Td] at s2
    exact ⟨s1,s2.mono k1,by rw [qn] at ky;exact ky.mono k1⟩
   ·rw [if_neg zC] at he hm
    obtain ⟨s1,s2,s3⟩:=g4 i e m he hm
    exact ⟨s1,s2.mono k1,s3.mono k1⟩
  ·intro e he
   rcases List.mem_or_eq_of_mem_set he with h | h
   ·exact g5 e h
   ·subst h;exact g5 L[j] (bY C1)
  ·rw [ce]
   have:(L.map (·.born)).set j L[j].born=L.map (·.born):=by
    exact w4 (by rw [ac,al C1];rfl)
   rw [this];exact g6
  ·rw [ce]
   have:(L.map (·.k)).set j (gk key)=L.map (·.k):=by
    exact w4 (by rw [ac,al C1,bv,Td])
   rw [this];exact g7)
 refine ⟨_,S,?_,r.heap hw.2.2 hw.1,hw.2.1⟩
 have Lm:∀ w1:World,(asInt (Value.int .i64 (q:Int))).run P w1=.ok (q:Int) w1:=fun w1=>by simp [asInt,asIntOf]
 simp [execOp,Instr.entryStore,ex,ks,cY p5,Lm,hfi,ve _ p5]
end rules
theorem na.mid {h h':Heap} {b b':Bk} {o o':Ob} (u:na h b o b' o' h') (b2:Bk) (o2:Ob):∃ h2,na h b o b2 o2 h2∧na h2 b2 o2 b' o' h':=by
 induction u with
 | here=>exact ⟨_,.here,.here⟩
 | next _ ih=>obtain ⟨h2,a,b⟩:=ih;exact ⟨_,.next a,.next b⟩
 | skip _ ih=>obtain ⟨h2,a,b⟩:=ih;exact ⟨_,.skip a,.skip b⟩
theorem GF {w:World} {S:Nat→Prop} {hp cL:Heap} {bp:Bk} {es A7:List (Bk×PO)} (r:db w S hp) (u:na hp bp (.ct es) bp (.ct A7) cL) (h:es.Perm A7):db w S cL∧kS w S hp w S cL:=by
 obtain ⟨p,q,rfl,rfl⟩:=u.split
 obtain ⟨CN,mc⟩:bp.cw=none∧∀ e∈es,qW w S e.1 e.2:=r.holds (bp,.ct es) (bE.2 (.inl rfl))
 have Ew:∀ n,n∈eb (bp,.ct A7)↔n∈eb (bp,.ct es):=by
  intro n
  rw [xJ,xJ]
  constructor
  ·rintro (k | ⟨e,he,hn⟩)
   ·exact .inl k
   ·exact .inr ⟨e,h.mem_iff.2 he,hn⟩
  ·rintro (k | ⟨e,he,hn⟩)
   ·exact .inl k
   ·exact .inr ⟨e,h.mem_iff.1 he,hn⟩
 have e1:(eb (bp,.ct es)).Perm (eb (bp,.ct A7)):=by
  simp only [eb,Ob.more]
  exact cW _ (h.filterMap _)
 have Lm:∀ n,Has (p++(bp,.ct A7) :: q) n→Has (p++(bp,.ct es) :: q) n:=by
  rintro n ⟨e,he,hn⟩
  rcases bE.1 he with rfl | he
  ·exact ⟨_,bE.2 (.inl rfl),(Ew n).1 hn⟩
  ·exact ⟨e,bE.2 (.inr he),hn⟩
 refine ⟨⟨?_,?_,?_,r.slt,r.gz⟩,⟨rfl,rfl,rfl,ai _,fun n hn=>⟨hn,rfl⟩,fun n _ _=>⟨rfl,id⟩,fun n hn=>.inl (Lm n hn),fun _=>ai _⟩⟩
 ·have:=r.nodup
  rw [bx,b8] at this ⊢
  exact ((cW _ (eL _ e1)).nodup_iff).1 this
 ·intro e he
  rcases bE.1 he with rfl | he
  ·exact ⟨CN,fun e he=>mc e (h.mem_iff.2 he)⟩
  ·exact r.holds e (bE.2 (.inr he))
 ·intro e he n hn
  rcases bE.1 he with rfl | he
  ·have:=r.sep (bp,.ct es) (bE.2 (.inl rfl)) n ((Ew n).1 hn)
   exact ⟨fun h=>(this.1 h).elim,fun h=>h.elim⟩
  ·exact r.sep e (bE.2 (.inr he)) n hn
theorem db.same {w:World} {S:Nat→Prop} {h h':Heap} (r:db w S h) (hp:h.Perm h'):db w S h'∧kS w S h w S h':=
 ⟨r.perm hp,rfl,rfl,rfl,ai _,fun n hn=>⟨hn,rfl⟩,fun n _ _=>⟨rfl,id⟩,fun n ⟨e,he,hn⟩=>.inl ⟨e,hp.mem_iff.2 he,hn⟩,fun _=>ai _⟩
def Lv (xs:List (Bk×PO)):Heap:=xs.map fun e=>(e.1,e.2.ob)
theorem AF {w:World} {S:Nat→Prop} {bp:Bk} {A7:List (Bk×PO)}:∀ (xs es:List (Bk×PO)) {hp cL:Heap},db w S hp→na hp bp (.ct es) bp (.ct A7) cL→es.Perm (xs++A7)→db w S (Lv xs++cL)∧kS w S hp w S (Lv xs++cL)
 | [],es,hp,cL,r,u,h=>GF r u h
 | x :: xs,es,hp,cL,r,u,h=>by
   obtain ⟨h2,u1,u2⟩:=u.mid bp (.ct (xs++A7))
   obtain ⟨r1,e1⟩:=GA r u1 h
   obtain ⟨r2,e2⟩:=AF xs (xs++A7) r1 (.next u2) (d0 _)
   obtain ⟨r3,e3⟩:=r2.same (h':=Lv (x :: xs)++cL) dn
   exact ⟨r3,(e1.trans e2).trans e3⟩
theorem Ch {w:World} {S:Nat→Prop} {bp:Bk} {es:List (Bk×PO)}:∀ (xs A7:List (Bk×PO)) {vA cL:Heap},db w S (Lv xs++vA)→na vA bp (.ct es) bp (.ct A7) cL→A7.Perm (xs++es)→db w S cL∧kS w S (Lv xs++vA) w S cL
 | [],A7,vA,cL,r,u,h=>GF r u h.symm
 | x :: xs,A7,vA,cL,r,u,h=>by
   obtain ⟨h2,u1,u2⟩:=u.mid bp (.ct (xs++es))
   obtain ⟨r0,e0⟩:=r.same (h':=Lv xs++(x.1,x.2.ob) :: vA) dn.symm
   obtain ⟨r1,e1⟩:=Ch xs (xs++es) r0 (.next u1) (d0 _)
   obtain ⟨r2,e2⟩:=Ex r1 .here u2 h
   exact ⟨r2,(e0.trans e1).trans e2⟩
section ara
variable {V:Type}
def vf (kb:Bk→(Nat→Bk)→V→List (Bk×PO)) (bo:Nat→Bk) (bs:Nat→Nat→Bk):Nat→List (Option V)→List (Bk×PO)
 | _,[]=>[]
 | i,some v :: r=>kb (bo i) (bs i) v++vf kb bo bs (i+1) r
 | i,none :: r=>vf kb bo bs (i+1) r
def jq (kb:Bk→(Nat→Bk)→V→List (Bk×PO)) (bo:Nat→Bk) (bs:Nat→Nat→Bk) (M:List V):List (Bk×PO):=vf kb bo bs 0 (M.map some)
def FP (kb:Bk→(Nat→Bk)→V→List (Bk×PO)) (bo:Nat→Bk) (bs:Nat→Nat→Bk) (M:List V) (i:Int):List (Bk×PO):=vf kb bo bs 0 ((M.map some).set i.toNat none)
variable {kb:Bk→(Nat→Bk)→V→List (Bk×PO)} {bo yY:Nat→Bk} {bs yE:Nat→Nat→Bk}
theorem xL:∀ (l:List (Option V)) (i:Nat),(∀ j v,l[j]? =some (some v)→bo (i+j)=yY (i+j)∧bs (i+j)=yE (i+j))→vf kb bo bs i l=vf kb yY yE i l
 | [],_,_=>rfl
 | some v :: r,i,h=>by
   obtain ⟨h1,h2⟩:=h 0 v rfl
   show kb (bo i) (bs i) v++vf kb bo bs (i+1) r=kb (yY i) (yE i) v++vf kb yY yE (i+1) r
   rw [show bo i=yY i from h1,show bs i=yE i from h2,xL r (i+1) (fun j v hj=>by
    have:=h (j+1) v (by simpa using hj)
    rw [show i+1+j=i+(j+1) by omega];exact this)]
 | none :: r,i,h=>xL r (i+1) (fun j v hj=>by
  have:=h (j+1) v (by simpa using hj)
  rw [show i+1+j=i+(j+1) by omega];exact this)
theorem EG:∀ (l:List (Option V)) (i j:Nat) (v:V),l[j]? =some none→(vf kb bo bs i (l.set j (some v))).Perm (kb (bo (i+j)) (bs (i+j)) v++vf kb bo bs i l)
 | [],_,_,_,h=>by simp at h
 | o :: r,i,0,v,h=>by
   obtain rfl:o=none:=by simpa using h
   exact d0 _
 | some u :: r,i,j+1,v,h=>by
   have:=EG r (i+1) j v (by simpa using h)
   rw [show i+1+j=i+(j+1) by omega] at this
   show (kb (bo i) (bs i) u++vf kb bo bs (i+1) (r.set j (some v))).Perm _
   refine (cW _ this).trans ?_
   show (kb (bo i) (bs i) u++(kb (bo (i+(j+1))) (bs (i+(j+1))) v++vf kb bo bs (i+1) r)).Perm (kb (bo (i+(j+1))) (bs (i+(j+1))) v++(kb (bo i) (bs i) u++vf kb bo bs (i+1) r))
   rw [← d1,← d1]
   exact eL _ dQ
 | none :: r,i,j+1,v,h=>by
   have:=EG r (i+1) j v (by simpa using h)
   rw [show i+1+j=i+(j+1) by omega] at this
   exact this
theorem EH:∀ (l m:List (Option V)) (i:Nat),vf kb bo bs i (l++m)=vf kb bo bs i l++vf kb bo bs (i+l.length) m
 | [],m,i=>rfl
 | some v :: r,m,i=>by
   show kb (bo i) (bs i) v++vf kb bo bs (i+1) (r++m)=(kb (bo i) (bs i) v++vf kb bo bs (i+1) r)++vf kb bo bs (i+(r.length+1)) m
   rw [EH r m (i+1),d1,show i+1+r.length=i+(r.length+1) by omega]
 | none :: r,m,i=>by
   show vf kb bo bs (i+1) (r++m)=vf kb bo bs (i+1) r++vf kb bo bs (i+(r.length+1)) m
   rw [EH r m (i+1),show i+1+r.length=i+(r.length+1) by omega]
theorem GG {M M':List V} {i:Int} {v v':V} {s:Nat→Bk} (h:idx M i=some v) (hM:M'=M.set i.toNat v') (hs:yE=fun j=>if j=i.toNat then s else bs j):(jq kb bo yE M').Perm (kb (bo i.toNat) s v'++FP kb bo bs M i):=by
 obtain ⟨h0,h1,h2⟩:=jC h
 unfold jq FP
 have hl:(M.map some)[i.toNat]? =some (some v):=by rw [ac,h2];rfl
 have iW:i.toNat < (M.map some).length:=(a6.1 hl).1
 have hn:((M.map some).set i.toNat none)[i.toNat]? =some none:=by rw [List.getElem?_set_self iW]
 have e1:M'.map some=((M.map some).set i.toNat none).set i.toNat (some v'):=by rw [hM,ce,List.set_set]
 rw [e1]
 have:=EG (kb:=kb) (bo:=bo) (bs:=yE) ((M.map some).set i.toNat none) 0 i.toNat v' hn
 rw [cf] at this
 refine this.trans ?_
 rw [show yE i.toNat=s by rw [hs];simp]
 refine cW _ ?_
 rw [xL (yY:=bo) (yE:=bs) ((M.map some).set i.toNat none) 0 (fun j u hj=>by
  rw [cf]
  refine ⟨rfl,?_⟩
  have:j≠i.toNat:=fun e=>by rw [e,hn] at hj;simp at hj
  rw [hs];simp [this])]
theorem GH {M:List V} {i:Int} {v:V} (h:idx M i=some v):(jq kb bo bs M).Perm (kb (bo i.toNat) (bs i.toNat) v++FP kb bo bs M i):=
 GG h (w4 (jC h).2.2).symm (by funext j;split<;>simp_all)
theorem Qk {M:List V} {b:Bk} {s:Nat→Bk} {v:V} (h1:∀ j,j < M.length→yY j=bo j) (h2:yY M.length=b) (h3:∀ j,j < M.length→yE j=bs j) (h4:yE M.length=s):(jq kb yY yE (M++[v])).Perm (kb b s v++jq kb bo bs M):=by
 unfold jq
 rw [cb,EH,eX,cf]
 have e1:vf kb yY yE M.length ([v].map some)=kb b s v:=by
  show kb (yY M.length) (yE M.length) v++[]=_
  rw [h2,h4,eY]
 rw [e1,xL (yY:=bo) (yE:=bs) (M.map some) 0 (fun j u hj=>by
  have:j < M.length:=by
   have:=(a6.1 hj).1
   simpa using this
  rw [cf]
  exact ⟨h1 j this,h3 j this⟩)]
 exact dQ
end ara
theorem aj.Te {n:Nat} {tm:List (Nat×AV)} {hp:Heap} {T:St→Prop} {V:Type} {kb:Bk→(Nat→Bk)→V→List (Bk×PO)} (k:∀ (bp:Bk) (bo:Nat→Bk) (bs:Nat→Nat→Bk),aj ⟨n,tm,(bp,.ct (jq kb bo bs [])) :: hp⟩ T):aj ⟨n,tm,hp⟩ T:=by
 refine aj.step (A3:=⟨n,tm,(⟨none,0⟩,.ct (jq kb (fun _=>⟨none,0⟩) (fun _ _=>⟨none,0⟩) [])) :: hp⟩) (fun w S a r=>?_) (k _ _ _)
 obtain ⟨g1,g2,g3⟩:=pP (b:=⟨none,0⟩) (o:=.ct []) r.hp (Ext.refl w) id ⟨rfl,by simp⟩ (.inl rfl)
 exact ⟨_,S,rfl,r.heap g3 g1,g2⟩
theorem aj.Tf {n:Nat} {tm:List (Nat×AV)} {hp cL:Heap} {T:St→Prop} {V:Type} {kb:Bk→(Nat→Bk)→V→List (Bk×PO)} {bo:Nat→Bk} {bs:Nat→Nat→Bk} {M:List V} {i:Int} {v:V} {bp:Bk} (h:idx M i=some v) (u:na hp bp (.ct (jq kb bo bs M)) bp (.ct (FP kb bo bs M i)) cL)
 (k:aj ⟨n,tm,Lv (kb (bo i.toNat) (bs i.toNat) v)++cL⟩ T):aj ⟨n,tm,hp⟩ T:=by
 refine aj.step (fun w S a r=>?_) k
 obtain ⟨g1,g2⟩:=AF _ _ r.hp u (GH h)
 exact ⟨_,S,rfl,r.heap (fun m hm=>⟨hm,rfl⟩) g1,g2⟩
theorem aj.VW {n:Nat} {tm:List (Nat×AV)} {hp vA h0:Heap} {cL:(Nat→Nat→Bk)→Heap} {T:St→Prop} {V:Type} {kb:Bk→(Nat→Bk)→V→List (Bk×PO)} {bo:Nat→Bk} {bs:Nat→Nat→Bk} {M M':List V} {i:Int} {v v':V} {b0 bp:Bk} {s:Nat→Bk} (h:idx M i=some v) (hb:b0=bo i.toNat) (hM:M'=M.set i.toNat v') (hs:IC hp h0 vA) (ho:h0=Lv (kb b0 s v')) (u:∀ yE,na vA bp (.ct (FP kb bo bs M i)) bp (.ct (jq kb bo yE M')) (cL yE))
 (k:∀ yE,aj ⟨n,tm,cL yE⟩ T):aj ⟨n,tm,hp⟩ T:=by
 refine aj.step (A3:=⟨n,tm,cL (fun j=>if j=i.toNat then s else bs j)⟩) (fun w S a r=>?_) (k _)
 obtain ⟨g0,e0⟩:=r.hp.same hs.perm
 rw [ho] at g0 e0
 obtain ⟨g1,g2⟩:=Ch _ _ g0 (u (fun j=>if j=i.toNat then s else bs j)) (by rw [hb];exact GG h hM rfl)
 exact ⟨_,S,rfl,r.heap (fun m hm=>⟨hm,rfl⟩) g1,e0.trans g2⟩
theorem aj.VX {n:Nat} {tm:List (Nat×AV)} {hp vA h0:Heap} {cL:(Nat→Bk)→(Nat→Nat→Bk)→Heap} {T:St→Prop} {V:Type} {kb:Bk→(Nat→Bk)→V→List (Bk×PO)} {bo:Nat→Bk} {bs:Nat→Nat→Bk} {M:List V} {v:V} {b bp:Bk} {s:Nat→Bk} (hs:IC hp h0 vA) (ho:h0=Lv (kb b s v)) (u:∀ yY yE,na vA bp (.ct (jq kb bo bs M)) bp (.ct (jq kb yY yE (M++[v]))) (cL yY yE))
 (k:∀ yY yE,(∀ j,j < M.length→yY j=bo j)→yY M.length=b→aj ⟨n,tm,cL yY yE⟩ T):aj ⟨n,tm,hp⟩ T:=by
 have c1:∀ j,j < M.length→(fun j=>if j=M.length then b else bo j) j=bo j:=fun j hj=>if_neg (by omega)
 have c2:(fun j=>if j=M.length then b else bo j) M.length=b:=if_pos rfl
 refine aj.step (A3:=⟨n,tm,cL (fun j=>if j=M.length then b else bo j) (fun j=>if j=M.length then s else bs j)⟩) (fun w S a r=>?_) (k _ _ c1 c2)
 obtain ⟨g0,e0⟩:=r.hp.same hs.perm
 rw [ho] at g0 e0
 obtain ⟨g1,g2⟩:=Ch _ _ g0 (u (fun j=>if j=M.length then b else bo j) (fun j=>if j=M.length then s else bs j)) (Qk c1 c2 (fun j hj=>if_neg (by omega)) (if_pos rfl))
 exact ⟨_,S,rfl,r.heap (fun m hm=>⟨hm,rfl⟩) g1,e0.trans g2⟩
theorem aj.aaO {n:Nat} {tm:List (Nat×AV)} {hp cL:Heap} {T:St→Prop} {b:Bk} {o o':Ob} (he:o=o') (u:na hp b o b o' cL) (k:aj ⟨n,tm,cL⟩ T):aj ⟨n,tm,hp⟩ T:=by
 subst he
 rw [Gj u] at k
 exact k
def VY (n:Nat) (l:List Int):Option Unit:=if ∀ x∈l,0≤x∧x < n then some () else none
theorem Ql {n:Nat} {l:List Int} {u:Unit} (h:VY n l=some u):∀ x∈l,0≤x∧x < n:=by
 unfold VY at h
 split at h
 ·assumption
 ·cases h
def pA (bo:Nat→Bk) (i:Int):AV:=.ptr (bo i.toNat) 0
theorem Yp {bo yY:Nat→Bk} {N:Nat} (h:∀ j,j < N→yY j=bo j) {i:Int} (hi:0≤i∧i < N):pA bo i=pA yY i:=by
 unfold pA;rw [h i.toNat (by omega)]
theorem VZ {K:Type} {gk:K→AV} {bo yY:Nat→Bk} {N:Nat} (h:∀ j,j < N→yY j=bo j) {M:List (K×Int)} {u:Unit} (hg:VY N (M.map Prod.snd)=some u):(M.map fun e=>(gk e.1,pA bo e.2))=M.map fun e=>(gk e.1,pA yY e.2):=
 List.map_congr_left fun e he=>by rw [Yp h (Ql hg e.2 (bt.2 ⟨e,he,rfl⟩))]
theorem V0 {bo:Nat→Bk} {N:Nat} {b:Bk} (h:bo N=b) (o:Nat):AV.ptr (bo (N:Int).toNat) o=AV.ptr b o:=by
 rw [e5,h]
section rules
variable {P:Program} {all:Array Oper} {rest:List Oper} {n:Nat} {tm:List (Nat×AV)} {hp:Heap} {Q:St→Prop} {d:Nat} {ty:TypeId} {pos:String} {af:Array Edge}
theorem Lw {K:Type} [DecidableEq K] {gk:K→AV} {gv:Int→AV} {M:List (K×Int)} {key:K} {t kt vt:TypeId} {i:TypeInfo} {x y:Operand} {b:Bk} [aB P t (.map kt vt)] [aX P vt i] [dC P kt gk] (hx:de tm x=some (.bV b)) (hy:de tm y=some (gk key)) (f:mD hp b (.mp (M.map fun e=>(gk e.1,gv e.2)))) (hz:i.zero=some (.pointer none)) (h:bc M key=none):
 QV P ⟨some d,.lookup t x y false,ty,pos,af,none⟩ ⟨n,tm,hp⟩ (.raw (.pointer none)):=by
 intro w S a r
 have kx:=bj (σ:=⟨n,tm,hp⟩) r hx
 have ky:=bj (σ:=⟨n,tm,hp⟩) r hy
 obtain ⟨nb,hb,ex⟩:=kx.kf
 obtain ⟨L,c,M',zJ,cq,p1,p2,p3,p4,p5,p6,p7,p8⟩:=qR (dC.inj P kt) r.hp f
 obtain rfl:zJ=nb:=by rw [p4] at hb;exact aa hb
 rw [← jg p1 p8] at h
 have jD:=dC.find (P:=P) (t:=kt) (g:=gk) ky cq.toList (M'.map ap) (by simpa using p6.symm) (fun j k' e h1 h2=>by
  rw [ac] at h1
  cases hm:M'[j]? with
  | none=>rw [hm] at h1;cases h1
  | some q=>rw [hm] at h1;rw [← aa h1];exact (p7 j q e hm h2).1)
 rcases oc (gv:=gv) (w:=w) (S:=S) (k:=key) M' cq.toList 0 p6.symm (fun j e m h1 h2=>(p7 j e m h1 h2).2) with ⟨q1,q2⟩ | ⟨v',j,val,q1,q2,q3,_⟩
 ·refine ⟨.pointer none,fun w1 e1=>?_,.raw _⟩
  simp [execOp,Instr.lookup,ex,run_underlying (aB.h (P:=P) (t:=t)),cY (e1.heap p5),dC.check (P:=P) (t:=kt) ky,jD,q2,zeroValue,typeInfo,aX.h (P:=P) (t:=vt),hz]
 ·rw [q1] at h;cases h
theorem EI {K:Type} [DecidableEq K] {gk:K→AV} {gv:Int→AV} {M:List (K×Int)} {key:K} {v:Int} {t kt vt:TypeId} {i:TypeInfo} {x y:Operand} {b:Bk} [aB P t (.map kt vt)] [aX P vt i] [dC P kt gk] (hx:de tm x=some (.bV b)) (hy:de tm y=some (gk key)) (f:mD hp b (.mp (M.map fun e=>(gk e.1,gv e.2)))) (h:bc M key=some v):
 QV P ⟨some d,.lookup t x y false,ty,pos,af,none⟩ ⟨n,tm,hp⟩ (gv v):=by
 intro w S a r
 have kx:=bj (σ:=⟨n,tm,hp⟩) r hx
 have ky:=bj (σ:=⟨n,tm,hp⟩) r hy
 obtain ⟨nb,hb,ex⟩:=kx.kf
 obtain ⟨L,c,M',zJ,cq,p1,p2,p3,p4,p5,p6,p7,p8⟩:=qR (dC.inj P kt) r.hp f
 obtain rfl:zJ=nb:=by rw [p4] at hb;exact aa hb
 rw [← jg p1 p8] at h
 have jD:=dC.find (P:=P) (t:=kt) (g:=gk) ky cq.toList (M'.map ap) (by simpa using p6.symm) (fun j k' e h1 h2=>by
  rw [ac] at h1
  cases hm:M'[j]? with
  | none=>rw [hm] at h1;cases h1
  | some q=>rw [hm] at h1;rw [← aa h1];exact (p7 j q e hm h2).1)
 rcases oc (gv:=gv) (w:=w) (S:=S) (k:=key) M' cq.toList 0 p6.symm (fun j e m h1 h2=>(p7 j e m h1 h2).2) with ⟨q1,q2⟩ | ⟨v',j,val,q1,q2,q3,_⟩
 ·rw [q1] at h;cases h
 ·rw [q1] at h
  obtain rfl:=aa h
  refine ⟨val,fun w1 e1=>?_,q3⟩
  simp [execOp,Instr.lookup,ex,run_underlying (aB.h (P:=P) (t:=t)),cY (e1.heap p5),dC.check (P:=P) (t:=kt) ky,jD,q2]
theorem Lx {K:Type} [DecidableEq K] {gk:K→AV} {gv:Int→AV} {M:List (K×Int)} {key:K} {t kt vt:TypeId} {i:TypeInfo} {x y:Operand} {b:Bk} [aB P t (.map kt vt)] [aX P vt i] [dC P kt gk] (hx:de tm x=some (.bV b)) (hy:de tm y=some (gk key)) (f:mD hp b (.mp (M.map fun e=>(gk e.1,gv e.2)))) (hz:i.zero=some (.pointer none)) (h:bc M key=none):
 QV P ⟨some d,.lookup t x y true,ty,pos,af,none⟩ ⟨n,tm,hp⟩ (.lE [.raw (.pointer none),.bool false]):=by
 intro w S a r
 have kx:=bj (σ:=⟨n,tm,hp⟩) r hx
 have ky:=bj (σ:=⟨n,tm,hp⟩) r hy
 obtain ⟨nb,hb,ex⟩:=kx.kf
 obtain ⟨L,c,M',zJ,cq,p1,p2,p3,p4,p5,p6,p7,p8⟩:=qR (dC.inj P kt) r.hp f
 obtain rfl:zJ=nb:=by rw [p4] at hb;exact aa hb
 rw [← jg p1 p8] at h
 have jD:=dC.find (P:=P) (t:=kt) (g:=gk) ky cq.toList (M'.map ap) (by simpa using p6.symm) (fun j k' e h1 h2=>by
  rw [ac] at h1
  cases hm:M'[j]? with
  | none=>rw [hm] at h1;cases h1
  | some q=>rw [hm] at h1;rw [← aa h1];exact (p7 j q e hm h2).1)
 rcases oc (gv:=gv) (w:=w) (S:=S) (k:=key) M' cq.toList 0 p6.symm (fun j e m h1 h2=>(p7 j e m h1 h2).2) with ⟨q1,q2⟩ | ⟨v',j,val,q1,q2,q3,_⟩
 ·refine ⟨.tuple #[.pointer none,.bool false],fun w1 e1=>?_,.lE _ _ rfl (pN (.raw _) (.bool _))⟩
  simp [execOp,Instr.lookup,ex,run_underlying (aB.h (P:=P) (t:=t)),cY (e1.heap p5),dC.check (P:=P) (t:=kt) ky,jD,q2,zeroValue,typeInfo,aX.h (P:=P) (t:=vt),hz]
 ·rw [q1] at h;cases h
theorem Ly {K:Type} [DecidableEq K] {gk:K→AV} {gv:Int→AV} {M:List (K×Int)} {key:K} {v:Int} {t kt vt:TypeId} {i:TypeInfo} {x y:Operand} {b:Bk} [aB P t (.map kt vt)] [aX P vt i] [dC P kt gk] (hx:de tm x=some (.bV b)) (hy:de tm y=some (gk key)) (f:mD hp b (.mp (M.map fun e=>(gk e.1,gv e.2)))) (h:bc M key=some v):
 QV P ⟨some d,.lookup t x y true,ty,pos,af,none⟩ ⟨n,tm,hp⟩ (.lE [gv v,.bool true]):=by
 intro w S a r
 have kx:=bj (σ:=⟨n,tm,hp⟩) r hx
 have ky:=bj (σ:=⟨n,tm,hp⟩) r hy
 obtain ⟨nb,hb,ex⟩:=kx.kf
 obtain ⟨L,c,M',zJ,cq,p1,p2,p3,p4,p5,p6,p7,p8⟩:=qR (dC.inj P kt) r.hp f
 obtain rfl:zJ=nb:=by rw [p4] at hb;exact aa hb
 rw [← jg p1 p8] at h
 have jD:=dC.find (P:=P) (t:=kt) (g:=gk) ky cq.toList (M'.map ap) (by simpa using p6.symm) (fun j k' e h1 h2=>by
  rw [ac] at h1
  cases hm:M'[j]? with
  | none=>rw [hm] at h1;cases h1
  | some q=>rw [hm] at h1;rw [← aa h1];exact (p7 j q e hm h2).1)
 rcases oc (gv:=gv) (w:=w) (S:=S) (k:=key) M' cq.toList 0 p6.symm (fun j e m h1 h2=>(p7 j e m h1 h2).2) with ⟨q1,q2⟩ | ⟨v',j,val,q1,q2,q3,_⟩
 ·rw [q1] at h;cases h
 ·rw [q1] at h
  obtain rfl:=aa h
  refine ⟨.tuple #[val,.bool true],fun w1 e1=>?_,.lE _ _ rfl (pN q3 (.bool _))⟩
  simp [execOp,Instr.lookup,ex,run_underlying (aB.h (P:=P) (t:=t)),cY (e1.heap p5),dC.check (P:=P) (t:=kt) ky,jD,q2]
end rules
section todo
variable {P:Program} {R:St→Prop} {k:List It} {σ:St}
theorem cD {α:Type} {c:Operand} {x y:Code} {p:Prop} [Decidable p] {a b z:α} (h:(if p then a else b)=z) (hc:de σ.tm c=some (.bool (decide p))) (h1:a=z→ab P R (.code x :: k) σ) (h2:b=z→ab P R (.code y :: k) σ):ab P R (.code (.cond c x y) :: k) σ:=
 ab.Vm hc (fun hp=>h1 (pj hp h)) (fun hp=>h2 (zZ hp h))
theorem cB {α:Type} {c:Operand} {x y:Code} {p:Bool} {a b z:α} (h:(if p=true then a else b)=z) (hc:de σ.tm c=some (.bool p)) (h1:a=z→ab P R (.code x :: k) σ) (h2:b=z→ab P R (.code y :: k) σ):ab P R (.code (.cond c x y) :: k) σ:=
 ab.cond hc (fun hp=>h1 (pj hp h)) (fun hp=>h2 (ry hp h))
end todo
section rules
variable {P:Program} {all:Array Oper} {rest:List Oper} {n:Nat} {tm:List (Nat×AV)} {hp:Heap} {Q:St→Prop} {d:Nat} {ty:TypeId} {pos:String} {af:Array Edge} {op:Op} {s:Nat} {j:Nat}
theorem gT {α:Type} {p:Prop} [Decidable p] {a b z:α} (h:(if p then a else b)=z) (hj:(all[j]?).bind (·.dst)=some s) (hs:lk tm s=some (.bool (decide p))) (hn:be d n=true) (h1:a=z→ae P all (⟨some d,op,ty,pos,af,none⟩ :: rest) ⟨n,(s,.bool true) :: tm,hp⟩ Q)
 (h2:b=z→ae P all rest ⟨n,(d,.raw undef) :: (s,.bool false) :: tm,hp⟩ Q):ae P all (⟨some d,op,ty,pos,af,some (j,true)⟩ :: rest) ⟨n,tm,hp⟩ Q:=
 ae.dw hj hs hn (fun hp=>h1 (pj hp h)) (fun hp=>h2 (zZ hp h))
theorem gF {α:Type} {p:Prop} [Decidable p] {a b z:α} (h:(if p then a else b)=z) (hj:(all[j]?).bind (·.dst)=some s) (hs:lk tm s=some (.bool (decide p))) (hn:be d n=true) (h1:b=z→ae P all (⟨some d,op,ty,pos,af,none⟩ :: rest) ⟨n,(s,.bool false) :: tm,hp⟩ Q)
 (h2:a=z→ae P all rest ⟨n,(d,.raw undef) :: (s,.bool true) :: tm,hp⟩ Q):ae P all (⟨some d,op,ty,pos,af,some (j,false)⟩ :: rest) ⟨n,tm,hp⟩ Q:=
 ae.dG hj hs hn (fun hp=>h1 (zZ hp h)) (fun hp=>h2 (pj hp h))
end rules
theorem hP {P:Program} {σ:St} {s:Nat} {av:AV} {Q:List AV→St→Prop} (h1:lk σ.tm s=some av) (h2:Q [av] σ):aj σ (fun aK=>∃ rs,Rs P aK [.tmp s] rs∧Q rs aK):=aj.here ⟨[av],.cons (.tmp _ _ h1) .nil,h2⟩
theorem cR {hp:Heap} {l:List AV}:B7 hp l l:=B7.refl _
theorem hH {P:Program} {σ:St} {s:Nat} {av:AV} {Q:List AV→Heap→Prop} {cL:Heap} (h1:lk σ.tm s=some av) (is:List Nat) (hs:Ev σ.hp is=some cL) (h2:Q [av] cL):aj σ (fun aK=>∃ rs,Rs P aK [.tmp s] rs∧(∃ h',HS aK.hp h'∧Q rs h')):=aj.here ⟨[av],.cons (.tmp _ _ h1) .nil,cL,Bs hs,h2⟩
theorem hQ {P:Program} {σ:St} {s t:Nat} {av aw:AV} {Q:List AV→St→Prop} (h1:lk σ.tm s=some av) (DX:lk σ.tm t=some aw) (h2:Q [av,aw] σ):aj σ (fun aK=>∃ rs,Rs P aK [.tmp s,.tmp t] rs∧Q rs aK):=aj.here ⟨[av,aw],.cons (.tmp _ _ h1) (.cons (.tmp _ _ DX) .nil),h2⟩
theorem hI {P:Program} {σ:St} {s t:Nat} {av aw:AV} {Q:List AV→Heap→Prop} {cL:Heap} (h1:lk σ.tm s=some av) (DX:lk σ.tm t=some aw) (is:List Nat) (hs:Ev σ.hp is=some cL) (h2:Q [av,aw] cL):aj σ (fun aK=>∃ rs,Rs P aK [.tmp s,.tmp t] rs∧(∃ h',HS aK.hp h'∧Q rs h')):=aj.here ⟨[av,aw],.cons (.tmp _ _ h1) (.cons (.tmp _ _ DX) .nil),cL,Bs hs,h2⟩
end Go.Eng
namespace Go.Eng
open Go
end Go.Eng
namespace Go.Eng
open Go
variable [bN]
inductive CD:Type 1 where
 | v (a:AV)
 | l {α:Type} (sz:Nat) (g:α→AV) (xs:List α)
def Qm (s:Nat→Bk):Nat→List CD→List AV
 | _,[]=>[]
 | k,.v a :: r=>a :: Qm s k r
 | k,.l sz _ xs :: r=>.sl sz (s k) 0 xs.length :: Qm s (k+1) r
def V1 (s:Nat→Bk):Nat→List CD→List (Bk×PO)
 | _,[]=>[]
 | k,.v _ :: r=>V1 s k r
 | k,.l sz g xs :: r=>(s k,.arr sz (xs.map g)) :: V1 s (k+1) r
def Tg:List CD→List AV
 | []=>[]
 | .v a :: r=>a :: Tg r
 | .l sz g xs :: r=>.list sz (xs.map g) :: Tg r
theorem Lz (s:Nat→Bk):∀ (k:Nat) (D:List CD),(Qm s k D).length=(Tg D).length
 | _,[]=>rfl
 | k,.v a :: r=>congrArg (· +1) (Lz s k r)
 | k,.l sz g xs :: r=>congrArg (· +1) (Lz s (k+1) r)
structure KB {V:Type} (kb:Bk→(Nat→Bk)→V→List (Bk×PO)) (fs:V→List AV):Prop where
 ok:∃ D:V→List CD,(∀ b s v,kb b s v=(b,.cells (Qm s 0 (D v))) :: V1 s 0 (D v))∧∀ v,fs v=Tg (D v)
theorem AG {b:Bk} {o:Ob}:∀ {h:Heap},(b,o)∈h→mD h b o
 | [],h=>by simp at h
 | e :: r,h=>by
   rcases e6.1 h with rfl | h
   ·exact .here
   ·exact .next (AG h)
theorem LA {s:Nat→Bk} {hp:Heap}:∀ (D:List CD) (k:Nat),(∀ e∈V1 s k D,mD hp e.1 e.2.ob)→∀ (i:Nat) c c',(Qm s k D)[i]? =some c→(Tg D)[i]? =some c'→lO hp c c'
 | [],_,_,i,c,c',h,_=>by simp [Qm] at h
 | .v a :: r,k,hf,i,c,c',h,h'=>by
   match i with
   | 0=>
     simp only [Qm,Tg,e8,d2] at h h'
     subst h;subst h';exact .co (.refl _)
   | i+1=>exact LA r k (fun e he=>hf e (by simpa [V1] using he)) i c c' (by simpa [Qm] using h) (by simpa [Tg] using h')
 | .l sz g xs :: r,k,hf,i,c,c',h,h'=>by
   match i with
   | 0=>
     simp only [Qm,Tg,e8,d2] at h h'
     subst h;subst h'
     exact .arr sz (s k) _ _ (hf (s k,.arr sz (xs.map g)) (by simp [V1])) (by simp)
   | i+1=>exact LA r (k+1) (fun e he=>hf e (by simp only [V1,e6];exact .inr he)) i c c' (by simpa [Qm] using h) (by simpa [Tg] using h')
theorem Th {e:Bk×PO} {l:List (Bk×PO)} (h:e∈l):(e.1,e.2.ob)∈Lv l:=bt.2 ⟨e,h,rfl⟩
theorem KB.cob {V:Type} {kb:Bk→(Nat→Bk)→V→List (Bk×PO)} {fs:V→List AV} (K:KB kb fs) (b:Bk) (s:Nat→Bk) (v:V) (cL:Heap):lO (Lv (kb b s v)++cL) (.ptr b 0) (.ch (fs v)):=by
 obtain ⟨D,h1,h2⟩:=K.ok
 rw [h2]
 refine .box b (Qm s 0 (D v)) _ (AG (bz _ ?_)) (Lz s 0 (D v)).symm (LA (D v) 0 fun e he=>AG (bz _ (Th ?_)))
 ·rw [h1];exact c8 ..
 ·rw [h1];exact b9 _ he
def FQ:List (Bk×PO)→Heap→Option Heap
 | [],r=>some r
 | (b,.cells cs) :: l,r=>match FQ l r with
   | some m=>some ((b,.cells cs) :: m)
   | none=>none
 | (b,.arr sz xs) :: l,r=>match FQ l r with
   | some m=>some ((b,.arr sz xs) :: m)
   | none=>none
theorem Bw:∀ {l:List (Bk×PO)} {r m:Heap},FQ l r=some m→Lv l++r=m
 | [],r,m,h=>aa h
 | (b,.cells cs) :: l,r,m,h=>by
   unfold FQ at h
   split at h
   ·rename_i m' hm
    obtain rfl:=aa h
    rw [← Bw hm];rfl
   ·cases h
 | (b,.arr sz xs) :: l,r,m,h=>by
   unfold FQ at h
   split at h
   ·rename_i m' hm
    obtain rfl:=aa h
    rw [← Bw hm];rfl
   ·cases h
theorem Jy {l:List (Bk×PO)} {m:Heap} (h:FQ l []=some m):m=Lv l:=by rw [← Bw h,eY]
section view
variable {V:Type} {kb:Bk→(Nat→Bk)→V→List (Bk×PO)} {fs:V→List AV} {bo:Nat→Bk} {bs:Nat→Nat→Bk} {M:List V} {i:Int} {v:V} {hp cL Sh:Heap} {b bp:Bk}
theorem Jz {w:World} {S:Nat→Prop} (r:db w S hp) (h:idx M i=some v) (u:na hp bp (.ct (jq kb bo bs M)) bp (.ct (FP kb bo bs M i)) cL):db w S (Lv (kb (bo i.toNat) (bs i.toNat) v)++cL)∧∀ n,Has (Lv (kb (bo i.toNat) (bs i.toNat) v)++cL) n→Has hp n:=by
 obtain ⟨r1,e1⟩:=AF _ _ r u (GH h)
 refine ⟨r1,fun n hn=>?_⟩
 rcases e1.new n hn with h | h
 ·exact h
 ·have:=r1.lt hn;omega
theorem QV.ara {P:Program} {o:Oper} {n:Nat} {tm:List (Nat×AV)} {av:AV} (h:idx M i=some v) (u:na hp bp (.ct (jq kb bo bs M)) bp (.ct (FP kb bo bs M i)) cL) (e:FQ (kb (bo i.toNat) (bs i.toNat) v) cL=some Sh) (q:QV P o ⟨n,tm,Sh⟩ av):QV P o ⟨n,tm,hp⟩ av:=by
 intro w S a r
 have:=Bw e
 subst this
 exact q w S a ⟨r.size,r.defers,r.tm,(Jz r.hp h u).1⟩
theorem Tj {o:Ob} {hp:Heap} (f:mD hp b o) (o':Ob):∃ cL,na hp b o b o' cL:=by
 induction f with
 | here=>exact ⟨_,.here⟩
 | next _ ih=>obtain ⟨h,u⟩:=ih;exact ⟨_,.next u⟩
 | skip _ ih=>obtain ⟨h,u⟩:=ih;exact ⟨_,.skip u⟩
theorem lO.aaP (K:KB kb fs) (h:idx M i=some v) (f:mD hp bp (.ct (jq kb bo bs M))):lO hp (pA bo i) (.ch (fs v)):=by
 obtain ⟨cL,u⟩:=Tj f (.ct (FP kb bo bs M i))
 refine .Mf fun w S x r at_=>?_
 obtain ⟨r1,r2⟩:=Jz r h u
 exact ((K.cob (bo i.toNat) (bs i.toNat) v cL).at r1 at_).mono fun m hm=>⟨hm.imp id (r2 m),rfl⟩
theorem lO.C3 (K:KB kb fs) (h:idx M i=some v) (f:mD hp bp (.ct (jq kb bo bs M))):lO hp (.ptr (bo i.toNat) 0) (.ch (fs v)):=lO.aaP K h f
end view
theorem aj.Qn {n:Nat} {tm:List (Nat×AV)} {hp cL Sh:Heap} {T:St→Prop} {V:Type} {kb:Bk→(Nat→Bk)→V→List (Bk×PO)} {bo:Nat→Bk} {bs:Nat→Nat→Bk} {M:List V} {i:Int} {v:V} {bp:Bk} (h:idx M i=some v) (u:na hp bp (.ct (jq kb bo bs M)) bp (.ct (FP kb bo bs M i)) cL) (e:FQ (kb (bo i.toNat) (bs i.toNat) v) cL=some Sh)
 (k:aj ⟨n,tm,Sh⟩ T):aj ⟨n,tm,hp⟩ T:=aj.Tf h u (by rw [Bw e];exact k)
theorem aj.Tk {n:Nat} {tm:List (Nat×AV)} {hp vA h0:Heap} {cL:(Nat→Nat→Bk)→Heap} {T:St→Prop} {V:Type} {kb:Bk→(Nat→Bk)→V→List (Bk×PO)} {bo:Nat→Bk} {bs:Nat→Nat→Bk} {M:List V} {i:Int} {v v':V} {bp:Bk} {s:Nat→Bk} (h:idx M i=some v) (hs:IC hp h0 vA) (ho:FQ (kb (bo i.toNat) s v') []=some h0) (u:∀ yE,na vA bp (.ct (FP kb bo bs M i)) bp (.ct (jq kb bo yE (M.set i.toNat v'))) (cL yE))
 (k:∀ yE,aj ⟨n,tm,cL yE⟩ T):aj ⟨n,tm,hp⟩ T:=aj.VW h rfl rfl hs (Jy ho) u k
theorem aj.Tl {n:Nat} {tm:List (Nat×AV)} {hp vA h0:Heap} {cL:(Nat→Bk)→(Nat→Nat→Bk)→Heap} {T:St→Prop} {V:Type} {kb:Bk→(Nat→Bk)→V→List (Bk×PO)} {bo:Nat→Bk} {bs:Nat→Nat→Bk} {M:List V} {v:V} {b bp:Bk} {s:Nat→Bk} (hs:IC hp h0 vA) (ho:FQ (kb b s v) []=some h0) (u:∀ yY yE,na vA bp (.ct (jq kb bo bs M)) bp (.ct (jq kb yY yE (M++[v]))) (cL yY yE))
 (k:∀ yY yE,(∀ j,j < M.length→yY j=bo j)→yY M.length=b→aj ⟨n,tm,cL yY yE⟩ T):aj ⟨n,tm,hp⟩ T:=aj.VX hs (Jy ho) u k
theorem Tm {α:Type} (M:List α) (v:α):idx (M++[v]) (M.length:Int)=some v:=by
 unfold idx
 rw [if_pos (Int.natCast_nonneg _),e5,List.getElem?_append_right (ai _),Nat.sub_self];rfl
theorem Qo {bo:Nat→Bk} {N:Nat} {b:Bk} (h:bo N=b) (o:Nat):AV.ptr (bo ((N:Nat):Int).toNat) o=AV.ptr b o:=V0 h o
theorem Yq {K:Type} {gk:K→AV} {bo yY:Nat→Bk} {N:Nat} (h:∀ j,j < N→yY j=bo j) {M:List (K×Int)} {u:Unit} (hg:VY N (M.map Prod.snd)=some u):Ob.mp (M.map fun e=>(gk e.1,pA bo e.2))=Ob.mp (M.map fun e=>(gk e.1,pA yY e.2)):=congrArg Ob.mp (VZ h hg)
def nbk (l:List Bk) (k:Nat):Bk:=l.getD k ⟨none,0⟩
end Go.Eng
namespace Go.Eng
open Go Go.Sort Go.Proofs
variable [bN]
end Go.Eng
namespace Go.Eng
open Go
variable [bN]
def Qp (cs:List AV):List Nat→List (Nat×AV)→List (Nat×AV)
 | [],tm=>tm
 | s :: r,tm=>(s,.ch cs) :: Qp cs r tm
theorem MF {cs:List AV} {tm:List (Nat×AV)} {t:Nat} {av:AV}:∀ {ss:List Nat},lk (Qp cs ss tm) t=some av→(t∈ss∧av=.ch cs)∨lk tm t=some av
 | [],h=>.inr h
 | s :: r,h=>by
   simp only [Qp,lk] at h
   split at h
   ·rename_i hb
    obtain rfl:s=t:=by simpa using hb
    exact .inl ⟨by simp,(aa h).symm⟩
   ·rcases MF h with ⟨h1,h2⟩ | h1
    ·exact .inl ⟨b9 _ h1,h2⟩
    ·exact .inr h1
theorem aj.Tn {n:Nat} {ss:List Nat} {tm:List (Nat×AV)} {hp vA:Heap} {T:St→Prop} {b:Bk} {cs:List AV} (hs:∀ s∈ss,lk tm s=some (.ptr b 0)) (dl:yK hp b (.cells cs) vA) (k:aj ⟨n,Qp cs ss tm,vA⟩ T):aj ⟨n,tm,hp⟩ T:=by
 refine aj.step (A3:=⟨n,Qp cs ss tm,vA⟩) (fun w S a r=>?_) k
 obtain ⟨p,q,rfl,rfl⟩:=dl.split
 have lI:(b,Ob.cells cs)∈p++(b,.cells cs) :: q:=bE.2 (.inl rfl)
 obtain ⟨h1,m0,vs,E,CN,hh,iV,ha⟩:=r.hp.holds _ lI
 have IN:∀ m,b.cw=some m→m < w.heap.size:=fun m hm=>r.hp.lt ⟨_,lI,fV hm⟩
 let S':Nat→Prop:=fun m=>S m∨b.cw=some m
 have mono:∀ m,S m→S' m∧w.heap[m]? =w.heap[m]?:=fun m hm=>⟨.inl hm,rfl⟩
 have wz:=r.hp.nodup
 have ow:(p++q).Sublist (p++(b,Ob.cells cs) :: q):=cm (cn _) (cp _ _)
 have u9:db w S' (p++q):=by
  refine ⟨wz.sublist (tP ow),fun e he=>(r.hp.holds e (ow.subset he)).mono mono (fun _ _=>rfl),fun e he m hm=>?_,fun m hm=>?_,fun g o ho=>⟨.inl (r.hp.gz g o ho).1,(r.hp.gz g o ho).2⟩⟩
  ·rw [← r.hp.sep e (ow.subset he) m hm]
   refine ⟨fun hs=>hs.elim id fun hb=>?_,.inl⟩
   exfalso
   rw [bx,b8,a8,a8] at wz
   rcases bi.1 he with h | h
   ·exact wz.2.2 m (a7.2 ⟨e,h,hm⟩) m (bz _ (fV hb)) rfl
   ·exact wz.2.1.2.2 m (fV hb) m (a7.2 ⟨e,h,hm⟩) rfl
  ·rcases hm with h | h
   ·exact r.hp.slt m h
   ·exact IN m h
 have hr:=r.heap mono u9
 refine ⟨_,S',rfl,⟨hr.size,hr.defers,fun t av h=>?_,hr.hp⟩,rfl,rfl,rfl,ai _,mono,fun m hm hh=>⟨rfl,fun hs=>hs.elim id fun hb=>(hh ⟨_,lI,fV hb⟩).elim⟩,fun m hm=>.inl ?_,fun _=>ai _⟩
 ·rcases MF h with ⟨ht,rfl⟩ | h
  ·obtain ⟨v,e1,e2⟩:=hr.tm t _ (hs t ht)
   cases e2 with
   | ptr _ _ m hb=>
     obtain rfl:=aa (hb.symm.trans CN)
     refine ⟨_,e1,.ch cs ⟨m,0,none⟩ vs.toList (by simp [iV]) (fun i c v hc hv=>(ha i c v hc (by simpa using hv)).mono mono) rfl (.inr hb) (fun i v hv=>?_)⟩
     rw [nY hh];simpa using hv
  ·exact hr.tm t av h
 ·obtain ⟨e,he,hb⟩:=hm
  exact ⟨e,ow.subset he,hb⟩
def pQ (bo:Nat→Bk):Option Int→AV
 | none=>.raw (.pointer none)
 | some i=>pA bo i
def tX {K:Type} (M:List (K×Int)):List (K×Option Int):=M.map fun e=>(e.1,some e.2)
theorem GJ {K:Type} {gk:K→AV} (bo:Nat→Bk) (M:List (K×Int)):((tX M).map fun e=>(gk e.1,pQ bo e.2))=M.map fun e=>(gk e.1,pA bo e.2):=by
 unfold tX;rw [dg];rfl
theorem GK {K:Type} [DecidableEq K] (k:K):∀ (M:List (K×Int)),pc (tX M) k none=some (bc M k)
 | []=>rfl
 | e :: M=>by
   have ih:=GK k M
   unfold pc tX at ih ⊢
   rw [b6]
   unfold bc
   by_cases h:e.1=k
   ·rw [if_pos h,if_pos h];rfl
   ·rw [if_neg h,if_neg h];exact ih
theorem EJ {K:Type} [DecidableEq K] [wJ K] (k:K) (v:Int):∀ (M:List (K×Int)),wY k (some v) (tX M)=tX (wY k v M)
 | []=>rfl
 | e :: M=>by
   have ih:=EJ k v M
   unfold tX at ih ⊢
   rw [b6]
   unfold wY
   by_cases h:wJ.lt e.1 k=true
   ·rw [if_pos h,if_pos h,b6,ih]
   ·rw [if_neg h,if_neg h,b6,b6]
theorem LB {K:Type} [DecidableEq K] [wJ K] (M:List (K×Int)) (k:K) (v:Int):bW (tX M) k (some v)=tX (bW M k v):=by
 unfold bW
 rw [← EJ]
 congr 1
 unfold mG tX
 rw [List.filter_map];rfl
section rules
variable {P:Program} {all:Array Oper} {rest:List Oper} {n:Nat} {tm:List (Nat×AV)} {hp:Heap} {Q:St→Prop} {d:Nat} {ty:TypeId} {pos:String} {af:Array Edge}
theorem JA {K:Type} [DecidableEq K] [wJ K] {gk:K→AV} {bo:Nat→Bk} {M:List (K×Int)} {key:K} {q:Nat} {t kt vt:TypeId} {i:TypeInfo} {z:Value} {x y:Operand} {b:Bk} {cL:Heap} [aB P t (.map kt vt)] [aX P vt i] [dC P kt gk] (hx:de tm x=some (.bV b)) (hy:de tm y=some (gk key)) (hz:i.zero=some z) (Em:A4 z=.raw (.pointer none))
 (u:na hp b (.He (M.map fun e=>(gk e.1,pA bo e.2)) q (gk key)) b (.He ((bW (tX M) key (bc M key)).map fun e=>(gk e.1,pQ bo e.2)) q (gk key)) cL) (hn:be d n=true)
 (kk:ae P all rest ⟨n,(d,.lE [pQ bo (bc M key),.int .i64 (q:Int)]) :: tm,cL⟩ Q):ae P all (⟨some d,.mapEntry t x y,ty,pos,af,none⟩ :: rest) ⟨n,tm,hp⟩ Q:=by
 rw [← GJ bo M] at u
 exact EF (gk:=gk) (gv:=pQ bo) (M:=tX M) (key:=key) (Z:=none) (v:=bc M key) hx hy hz Em (by rw [Em];rfl) (GK key M) u hn kk
theorem FR {K:Type} [DecidableEq K] [wJ K] {gk:K→AV} {bo:Nat→Bk} {M:List (K×Int)} {key:K} {q:Nat} {v':Int} {t kt:TypeId} {x s y:Operand} {b:Bk} {av:AV} {cL:Heap} [dC P kt gk] (hx:de tm x=some (.bV b)) (hs:de tm s=some (.int .i64 (q:Int))) (hy:de tm y=some av) (qn:av=pA bo v')
 (u:na hp b (.He ((bW (tX M) key (bc M key)).map fun e=>(gk e.1,pQ bo e.2)) q (gk key)) b (.mp ((bW M key v').map fun e=>(gk e.1,pA bo e.2))) cL)
 (kk:ae P all rest ⟨n,tm,cL⟩ Q):ae P all (⟨none,.entryStore t x s y,ty,pos,af,none⟩ :: rest) ⟨n,tm,hp⟩ Q:=by
 rw [← GJ bo (bW M key v'),← LB] at u
 exact Bv (gk:=gk) (gv:=pQ bo) (M:=tX M) (key:=key) (v:=bc M key) (v':=some v') (t:=t) (kt:=kt) hx hs hy qn u kk
end rules
end Go.Eng
namespace Go.Eng
open Go Go.Proofs
def W7 (es:List (AV×AV)):World→(Nat→Prop)→Value→Prop:=fun w S v=>∃ n b,v=.map (some n)∧S n∧b.cw=some n∧∃ L c,(L.map mA.kv).Perm es∧u6 w S b L c
def GL {K V:Type} (gk:K→AV) (gv:V→AV) (M:List (K×V)):AV:=.Mf (W7 (M.map fun e=>(gk e.1,gv e.2)))
variable [bN]
theorem Qq (es:List (AV×AV)) (w w':World) (S S':Nat→Prop) (v:Value) (hs:∀ n,S n→S' n∧w'.heap[n]? =w.heap[n]?) (h:W7 es w S v):W7 es w' S' v:=by
 obtain ⟨n,b,h1,h2,h3,L,c,h4,h5⟩:=h
 refine ⟨n,b,h1,(hs n h2).1,h3,L,c,h4,h5.mono hs (fun m hm=>?_)⟩
 obtain rfl:m=n:=aa (hm.symm.trans h3)
 exact (hs m h2).2
theorem Tp (es:List (AV×AV)) (w:World) (S:Nat→Prop) (v:Value) (h:W7 es w S v):v.oneCell'=true:=by
 obtain ⟨n,b,rfl,_⟩:=h;rfl
theorem At.fm {K V:Type} {gk:K→AV} {gv:V→AV} {M:List (K×V)} {w:World} {S:Nat→Prop} {v:Value} (h:W7 (M.map fun e=>(gk e.1,gv e.2)) w S v):At w S (GL gk gv M) v:=.Mf _ _ (Qq _) (Tp _) h
theorem At.V2 {K V:Type} {gk:K→AV} {gv:V→AV} {M:List (K×V)} {w:World} {S:Nat→Prop} {v:Value} (h:At w S (GL gk gv M) v):W7 (M.map fun e=>(gk e.1,gv e.2)) w S v:=by
 unfold GL at h
 cases h with
 | Mf _ _ _ _ h=>exact h
theorem lO.fm {K V:Type} {gk:K→AV} {gv:V→AV} {M:List (K×V)} {hp:Heap} {b:Bk} (f:mD hp b (.mp (M.map fun e=>(gk e.1,gv e.2)))):lO hp (.bV b) (GL gk gv M):=by
 refine .Mf fun w S v r h=>?_
 obtain ⟨n,hb,rfl⟩:=h.kf
 obtain ⟨L,c,h1,h2⟩:=r.holds _ f.mem
 exact .fm ⟨n,b,rfl,.inr ⟨_,f.mem,fV hb⟩,hb,L,c,h1,h2.mono (fun m hm=>⟨.inl hm,rfl⟩) (fun _ _=>rfl)⟩
theorem MH {K V:Type} {gk:K→AV} {gv:V→AV} {w:World} {S:Nat→Prop} {M:List (K×V)} {v:Value} (NW:∀ a b,gk a=gk b→a=b) (h:At w S (GL gk gv M) v):
 ∃ (M':List (K×V)) (n c:Nat) (cq:Array MapEntry),v=.map (some n)∧M'.Perm M∧w.heap[n]? =some (.map cq c)∧cq.toList.length=M'.length∧
   (∀ (i:Nat) e m,M'[i]? =some e→cq.toList[i]? =some m→At w S (gk e.1) m.key∧At w S (gv e.2) m.val)∧(M'.map ap).Nodup:=by
 obtain ⟨n0,b,e0,hS,hb,L,c,mW,hH⟩:=h.V2
 obtain ⟨M',h1,h2⟩:=r4 _ _ _ mW
 obtain ⟨n,cq,g1,g2,g3,g4,g5,g6,g7⟩:=hH
 obtain rfl:n=n0:=aa (g1.symm.trans hb)
 have hlen:L.length=M'.length:=by have:=congrArg cP h2;simpa using this
 refine ⟨M',n,c,cq,e0,h1,g2,by rw [da,g3,hlen],fun i e m he hm=>?_,?_⟩
 ·have:(L.map mA.kv)[i]? =some (gk e.1,gv e.2):=by rw [h2,ac,he];rfl
  rw [ac] at this
  cases hL:L[i]? with
  | none=>rw [hL] at this;cases this
  | some x=>
    rw [hL] at this
    have hx:(x.k,x.v)=(gk e.1,gv e.2):=aa this
    obtain ⟨q1,q2⟩:=cQ hx
    have:=g4 i x m hL (by simpa using hm)
    rw [q1,q2] at this
    exact this.2
 ·have hk:L.map (·.k)=(M'.map ap).map gk:=by
   have:=congrArg (List.map ap) h2
   simpa [dg,eg,mA.kv] using this
  rw [hk] at g7
  exact (ej.1 g7).imp (fun h e=>h (by rw [e]))
section rules
variable {P:Program} {all:Array Oper} {rest:List Oper} {n:Nat} {tm:List (Nat×AV)} {hp:Heap} {Q:St→Prop} {d:Nat} {ty:TypeId} {pos:String} {af:Array Edge}
theorem GM {K V:Type} [DecidableEq K] {gk:K→AV} {gv:V→AV} {M:List (K×V)} {key:K} {Z v:V} {t kt vt:TypeId} {i:TypeInfo} {z:Value} {x y:Operand} {av:AV} [aB P t (.map kt vt)] [aX P vt i] [dC P kt gk] (hx:de tm x=some (GL gk gv M)) (hy:de tm y=some (gk key)) (hz:i.zero=some z) (Em:A4 z=gv Z) (h1:kr (A4 z).cells=true) (h:pc M key Z=some v) (qn:gv v=av):
 QV P ⟨some d,.lookup t x y false,ty,pos,af,none⟩ ⟨n,tm,hp⟩ av:=by
 intro w S a r
 have kx:=bj (σ:=⟨n,tm,hp⟩) r hx
 have ky:=bj (σ:=⟨n,tm,hp⟩) r hy
 obtain ⟨M',nb,c,cq,ex,p1,p5,p6,p7,p8⟩:=MH (dC.inj P kt) kx
 unfold pc at h
 have hv:=aa h
 rw [← jg p1 p8] at hv
 have jD:=dC.find (P:=P) (t:=kt) (g:=gk) ky cq.toList (M'.map ap) (by simpa using p6.symm) (fun j k' e h1 h2=>by
  rw [ac] at h1
  cases hm:M'[j]? with
  | none=>rw [hm] at h1;cases h1
  | some q=>rw [hm] at h1;rw [← aa h1];exact (p7 j q e hm h2).1)
 rcases oc (gv:=gv) (w:=w) (S:=S) (k:=key) M' cq.toList 0 p6.symm (fun j e m h1 h2=>(p7 j e m h1 h2).2) with ⟨q1,q2⟩ | ⟨v',j,val,q1,q2,q3,_⟩
 ·refine ⟨z,fun w1 e1=>?_,?_⟩
  ·simp [execOp,Instr.lookup,ex,run_underlying (aB.h (P:=P) (t:=t)),cY (e1.heap p5),dC.check (P:=P) (t:=kt) ky,jD,q2,zeroValue,typeInfo,aX.h (P:=P) (t:=vt),hz]
  ·rw [← qn,← hv,q1,cy,← Em];exact Es w S z h1
 ·refine ⟨val,fun w1 e1=>?_,?_⟩
  ·simp [execOp,Instr.lookup,ex,run_underlying (aB.h (P:=P) (t:=t)),cY (e1.heap p5),dC.check (P:=P) (t:=kt) ky,jD,q2]
  ·rw [← qn,← hv,q1,eB];exact q3
end rules
end Go.Eng
namespace Go.Eng
open Go Go.Sort Go.Proofs
variable [bN]
theorem Qr {P:Program} {T:Type} {g:T→AV} {f:FuncId} {k:Nat} (K:Jg P f k) (HF:be 0 k=true) {gf:FuncId} [bJ P gf] {C:List AV} {fn:T→T→Option Int} (SP:∀ {x y:T} {u:Int},fn x y=some u→@Pu pM P gf (g x :: g y :: C) (I u))
 (PV:∀ x,g x=.agg (g x).cells) {Xs Ys:List T} {b:Bk} (h:Ek fn Xs=some Ys) {w:World} {S S1:Nat→Prop} {v0 v1:Value} (ZT:∀ n,S n→S1 n) (Yr:∀ n,S1 n→n < w.heap.size) (DI:∀ n,b.cw=some n→¬ S1 n)
 (r:db w S [(b,.arr k (Xs.map g))]) (a0:At w S (.sl k b 0 Xs.length) v0) (a1:At w S1 (.func (.func gf) C) v1):
 Calls P f #[v0,v1] w (fun e w'=>e=.returned (.tuple #[])∧db w' S [(b,.arr k (Ys.map g))]∧kS w S [(b,.arr k (Xs.map g))] w' S [(b,.arr k (Ys.map g))]∧∀ n,n < w.heap.size→b.cw≠some n→w'.heap[n]? =w.heap[n]?):=by
 have HF:0 < k:=b7 (cX (b4 HF)) (ai _)
 obtain ⟨oa,cap,rfl,e2⟩:=a0.u7
 obtain ⟨cv,rfl,Ag,hca⟩:=a1.yH
 match Xs,h with
 | [],h=>
   obtain rfl:=aa h
   refine (K.none_ oa cap _ w).mono ?_
   rintro e w' ⟨rfl,rfl⟩
   exact ⟨rfl,r,kS.refl _ _ _,fun _ _ _=>rfl⟩
 | x :: xr,h=>
   rw [AE] at h
   by_cases hc:(xr.length+1 < 4611686018427387904∧(∀ a∈x :: xr,∀ b∈x :: xr,∃ u,fn a b=some u)∧SWO (ltOf (vJ fn x xr)))
   ·rw [if_pos hc] at h
    obtain rfl:=aa h
    obtain ⟨hlen,Vy,hO⟩:=hc
    obtain ⟨h0,h1,h2⟩:=r.holds _ (bw.2 rfl)
    simp only [eX,e9] at h1
    rcases h2 with ⟨_,K3⟩ | ⟨m,row,E,hb,z6,iV,sB⟩
    ·have UI:b.cap=0:=K3
     omega
    rcases e2 with ⟨hn,_,_,_,_⟩ | ⟨m',B6,rfl,hle,X6⟩ | ⟨m',ad,_,_,Ux,_⟩
    ·rw [hn] at hb;cases hb
    ·obtain rfl:m'=m:=by rw [B6] at hb;exact aa hb
     have PW:m' < w.heap.size:=by
      rcases eq m' w.heap.size with h | h
      ·exact h
      ·simp [Array.getElem?_eq_none h] at z6
     have nS:¬ S m':=fun hs=>by have:=(r.sep _ (bw.2 rfl) m' (fV hb)).1 hs;exact this
     let ix:Nat→Nat:=fun i=>if i < xr.length+1 then i else 0
     have Mu:∀ i,ix i < xr.length+1:=fun i=>by simp only [ix];split<;>omega
     have Vz:∀ i,(x :: xr)[ix i]? =some (uz x xr i):=by
      intro i
      simp only [ix,uz,List.getD_eq_getElem?_getD]
      split
      ·rename_i hi
       rw [al (by simpa using hi)];simp
      ·rename_i hi
       rw [List.getElem?_eq_none (l:=x :: xr) (i:=i) (by simp;omega)];simp
     have WX:(xr.length+1) * k≤row.size:=by rw [iV];exact cl k h1
     let enc:Nat→List Value:=fun i=>(row.toList.drop (ix i * k)).take k
     have HG:∀ i,(enc i).length=k:=by
      intro i
      have:ix i * k+k≤row.size:=by
       have:=cl k (show ix i+1≤xr.length+1 from Mu i)
       rw [c7,Nat.one_mul] at this
       omega
      simp only [enc,List.length_take,List.length_drop,da];omega
     have PX:∀ i j,j < k→(enc i)[j]? =row[ix i * k+j]?:=by
      intro i j hj
      simp only [enc,List.getElem?_take,if_pos hj,List.getElem?_drop,fd]
     have Bg:∀ i j,j < k→(flat ((x :: xr).map g))[ix i * k+j]? =(g (uz x xr i)).cells[j]?:=by
      intro i j hj
      exact qm h0 (by rw [ac,Vz i];rfl) j hj
     have Ag:∀ i,(g (uz x xr i)).cells.length=k:=fun i=>(h0 _ (bt.2 ⟨_,jo x xr i,rfl⟩)).1
     have vE:∀ i,∀ c∈(g (uz x xr i)).cells,c.one=true:=fun i=>(h0 _ (bt.2 ⟨_,jo x xr i,rfl⟩)).2
     have Lf:∀ i,o8 w S (g (uz x xr i)).cells (enc i).toArray:=by
      intro i j c v hc hv
      have hj:j < k:=by rw [← Ag i];exact (a6.1 hc).1
      refine sB (ix i * k+j) c v (by rw [Bg i j hj];exact hc) ?_
      rw [← PX i j hj]
      simpa using hv
     have VA:∀ i,∀ v∈enc i,v.oneCell'=true:=by
      intro i v hv
      obtain ⟨j,hj,rfl⟩:=d9 hv
      have hjk:j < k:=by rw [HG i] at hj;exact hj
      have SQ:j < (g (uz x xr i)).cells.length:=by rw [Ag i];exact hjk
      exact (Lf i j (g (uz x xr i)).cells[j] (enc i)[j] (by simp [SQ]) (by simp [hj])).KW (vE i _ (bY SQ))
     have vO:∀ (d:Array Nat) (t:Nat),t < d.size * k→(flatK enc k d)[t]! =(enc d[t / k]!)[t % k]!:=fun d t ht=>get_flatK enc k d t ht
     have PY:HoldsK enc k w m' 0 (bm (xr.length+1)):=by
      intro j hj
      rw [size_flatK,fg] at hj
      have hdiv:j / k < xr.length+1:=(fi HF).2 hj
      have HI:j % k < k:=ci _ HF
      have Mv:j < row.size:=by omega
      have e1:(flatK enc k (bm (xr.length+1)))[j]! =row[j]:=by
       rw [vO _ _ (by simpa using hj)]
       have:(bm (xr.length+1))[j / k]! =j / k:=by
        rw [getElem!_pos _ _ (by simpa using hdiv)];simp
       rw [this]
       have hv:=PX (j / k) (j % k) HI
       have:ix (j / k)=j / k:=by simp only [ix];rw [if_pos hdiv]
       rw [this,fl] at hv
       rw [bk Mv] at hv
       rw [List.getElem!_eq_getElem?_getD,hv];rfl
      constructor
      ·simp only [World.cell?,z6,id,e1,cf,Option.isSome_none,b5,if_false]
       rw [bk Mv]
      ·simp [World.frozen?,z6]
     have VB:CmpLays P gf cv enc k (vJ fn x xr) m' 0 (bm (xr.length+1)).size w:=by
      intro mm os dk hdk i j
      obtain ⟨u,hu⟩:=Vy _ (jo x xr i) _ (jo x xr j)
      have hW1:∀ n,S1 n→S1 n∧(sortWorldK enc k w m' 0 mm dk os).heap[n]? =w.heap[n]?:=fun n hs=>
       ⟨hs,ra enc k w m' 0 mm dk os (Yr n hs) (fun e=>DI m' hb (e▸hs))⟩
      have hW:∀ n,S n→S1 n∧(sortWorldK enc k w m' 0 mm dk os).heap[n]? =w.heap[n]?:=fun n hs=>hW1 n (ZT n hs)
      have Mw:o8 (sortWorldK enc k w m' 0 mm dk os) S1 (g (uz x xr i) :: g (uz x xr j) :: C) (#[.agg (enc i).toArray,.agg (enc j).toArray]++cv):=by
       intro q c v hc hv
       have ag:∀ i,At (sortWorldK enc k w m' 0 mm dk os) S1 (g (uz x xr i)) (.agg (enc i).toArray):=fun i=>by
        rw [PV (uz x xr i)]
        exact .agg _ _ (by rw [Ag i];simp [HG i]) (fun a c v hc hv=>((Lf i) a c v hc hv).mono hW)
       match q with
       | 0=>
         rw [fr (by simp)] at hv
         simp at hc hv;subst hc;subst hv;exact ag i
       | 1=>
         rw [fr (by simp)] at hv
         simp at hc hv;subst hc;subst hv;exact ag j
       | q+2=>
         simp only [List.getElem?_cons_succ] at hc
         rw [Array.getElem?_append_right (by simp)] at hv
         simp only [List.size_toArray,e9,List.length_nil,Nat.add_sub_cancel] at hv
         exact (hca q c v hc (by simpa using hv)).mono hW1
      refine (SP hu _ S1 _ (@va pM _ _ (fun n hn=>b7 (Yr n hn) (xI _ _ _ _ _ _ _ _)) (fun g o ho=>⟨ZT _ (r.gz g o ho).1,A9 (hW g (r.gz g o ho).1).2 (r.gz g o ho).2⟩)) (by simp [Ag,‹C.length=cv.size›];omega) Mw).mono ?_
      rintro e w' ⟨v,rr,h',S',rfl,hq,h3,h4,h5⟩
      obtain rfl:=hq
      rw [h3.eP]
      refine ⟨?_,@Ext.grown pM _ _ trivial (@kS.Gh pM _ _ _ _ _ h5)⟩
      unfold vJ
      rw [hu];rfl
     have OZ:(bm (xr.length+1)).size=xr.length+1:=fg
     have Jh:=K.some_ enc HG VA (vJ fn x xr) hO gf cv m' 0 cap (bm (xr.length+1)) w (fun args w=>uG gf args w) VB PY PW (by rw [OZ];exact hlen)
     rw [OZ] at Jh
     simp only [Nat.zero_mul]
     refine Jh.mono ?_
     rintro e w' ⟨rfl,q,os,rfl⟩
     have SR:=pdq_sorts (ltOf (vJ fn x xr)) hO (bm (xr.length+1)) 0 (xr.length+1) (Lib.bitLen (xr.length+1)) true true (Nat.zero_le _) (by rw [OZ];exact ai _) (Or.inl rfl)
     generalize ya:pdq (ltOf (vJ fn x xr)) (bm (xr.length+1)) 0 (xr.length+1) (Lib.bitLen (xr.length+1)) true true=d' at SR ⊢
     have HJ:d'.size=xr.length+1:=by rw [SR.1.1,OZ]
     have hW:∀ n,S n→S n∧(sortWorldK enc k w m' 0 q d' os).heap[n]? =w.heap[n]?:=fun n hs=>
      ⟨hs,ra enc k w m' 0 q d' os (r.slt n hs) (fun e=>nS (e▸hs))⟩
     have R7:∀ y∈(d'.toList.map (uz x xr)).map g,El k y:=by
      intro y hy
      simp only [bt] at hy
      obtain ⟨z,⟨i,_,rfl⟩,rfl⟩:=hy
      exact h0 _ (bt.2 ⟨_,jo x xr i,rfl⟩)
     have hh:Go.Eng.Holds (sortWorldK enc k w m' 0 q d' os) S b (.arr k ((d'.toList.map (uz x xr)).map g)):=by
      refine ⟨R7,by simp [HJ];omega,.inr ⟨m',_,E,hb,Gv enc k w m' q d' os z6,by simp [putCells,iV],?_⟩⟩
      intro j c v hc hv
      have Af:j < (xr.length+1) * k:=by
       have:=(a6.1 hc).1
       rw [cN R7] at this
       simpa [HJ] using this
      have hdiv:j / k < xr.length+1:=(fi HF).2 Af
      have HI:j % k < k:=ci _ HF
      have Mv:j < row.size:=by omega
      have W3:(d'.toList.map (uz x xr))[j / k]? =some (uz x xr d'[j / k]!):=by
       rw [ac,fd,bk (by omega),getElem!_pos d' (j / k) (by omega)];rfl
      have xx:(g (uz x xr d'[j / k]!)).cells[j % k]? =some c:=by
       rw [← qm (sz:=k) R7 (i:=j / k) (x:=g (uz x xr d'[j / k]!)) (by rw [ac,W3];rfl) (j % k) HI,fl]
       exact hc
      have UJ:(enc d'[j / k]!)[j % k]? =some v:=by
       simp only [putCells,Array.getElem?_mapIdx,bk Mv,bv,d2] at hv
       rw [if_pos ⟨Nat.zero_le _,by rw [size_flatK,HJ];omega⟩,Nat.sub_zero,vO d' j (by rw [HJ];exact Af)] at hv
       have iW:j % k < (enc d'[j / k]!).length:=by rw [HG];exact HI
       rw [al iW,← hv]
       simp only [id,getElem!_pos (enc d'[j / k]!) (j % k) iW]
      exact (Lf _ _ _ _ xx (by simpa using UJ)).mono hW
     have Ji:=xI enc k w m' 0 q d' os
     refine ⟨rfl,⟨r.nodup,fun e he=>by rw [bw] at he;subst he;exact hh,fun e he n hn=>?_,fun n hn=>b7 (r.slt n hn) Ji,fun g o ho=>⟨(r.gz g o ho).1,A9 (hW g (r.gz g o ho).1).2 (r.gz g o ho).2⟩⟩,?_,fun n hn A2=>ra enc k w m' 0 q d' os hn (fun e=>A2 (by rw [e];exact hb))⟩
     ·rw [bw] at he;subst he
      replace hn:=(xB rfl).1 hn
      rw [hb] at hn
      obtain rfl:=aa hn
      exact ⟨fun hs=>(nS hs).elim,fun hf=>hf.elim⟩
     ·refine ⟨rfl,rfl,rfl,Ji,hW,fun n hn X7=>⟨ra enc k w m' 0 q d' os hn (fun e=>X7 ⟨_,bw.2 rfl,by rw [e];exact fV hb⟩),id⟩,?_,?_⟩
      ·rintro n ⟨e,he,vD⟩
       rw [bw] at he;subst he
       exact .inl ⟨_,bw.2 rfl,vD⟩
      ·intro _
       show w.drawn≤(sortWorldK enc k w m' 0 q d' os).drawn
       show w.drawn≤w.drawn+q
       omega
    ·simp at Ux
   ·rw [if_neg hc] at h;cases h
def LC (P:Program) (f:FuncId) (l:List AV) (h0 H:Heap) (V:AV):Prop:=
 ∀ (w:World) (S S1:Nat→Prop) (vs:Array Value),(∀ n,S n→S1 n)→(∀ n,S1 n→n < w.heap.size)→(∀ n,Has h0 n→¬ S1 n)→db w S h0→l.length=vs.size→o8 w S1 l vs→
   Calls P f vs w (fun e w'=>∃ v,e=.returned v∧At w' S V v∧db w' S H∧kS w S h0 w' S H∧∀ n,n < w.heap.size→¬ Has h0 n→w'.heap[n]? =w.heap[n]?)
theorem JB {P:Program} {T:Type} {g:T→AV} {f:FuncId} {k:Nat} (K:Jg P f k) (HF:be 0 k=true) {gf:FuncId} [bJ P gf] {C:List AV} {fn:T→T→Option Int} (SP:∀ {x y:T} {u:Int},fn x y=some u→@Pu pM P gf (g x :: g y :: C) (I u))
 (PV:∀ x,g x=.agg (g x).cells) {Xs Ys:List T} {b:Bk} (h:Ek fn Xs=some Ys):LC P f [.sl k b 0 Xs.length,.func (.func gf) C] [(b,.arr k (Xs.map g))] [(b,.arr k (Ys.map g))] (.lE []):=by
 intro w S S1 vs ZT iW Ea r hl ha
 obtain ⟨v0,v1,rfl⟩:∃ v0 v1,vs=#[v0,v1]:=by
  match vs,hl with
  | ⟨[v0,v1]⟩,_=>exact ⟨v0,v1,rfl⟩
 have a0:=ha 0 _ v0 rfl rfl
 have a1:=ha 1 _ v1 rfl rfl
 have a0':At w S (.sl k b 0 Xs.length) v0:=by
  generalize hx:AV.sl k b 0 Xs.length=x at a0 ⊢
  cases a0 with
  | sl sz b off len n cap hb h1 h2=>exact .sl sz b off len n cap hb h1 h2
  | Ba sz b hb=>exact .Ba sz b hb
  | Pa sz b off n ad hb=>exact .Pa sz b off n ad hb
  | _=>cases hx
 refine (Qr (g:=g) (fn:=fn) K HF SP PV h ZT iW (fun n hn=>Ea n ⟨_,bw.2 rfl,fV hn⟩) r a0' a1).mono ?_
 rintro e w' ⟨rfl,h1,h2,h3⟩
 exact ⟨_,rfl,.lE [] #[] rfl (fun i c v hc=>by simp at hc),h1,h2,fun n hn hh=>h3 n hn (fun hb=>hh ⟨_,bw.2 rfl,fV hb⟩)⟩
section rules
variable {P:Program} {all:Array Oper} {rest:List Oper} {n:Nat} {tm:List (Nat×AV)} {hp:Heap} {Q:St→Prop} {d:Nat} {ty:TypeId} {pos:String} {af:Array Edge}
theorem Tq {f:FuncId} {args:List Operand} {ts:Array TypeId} {l l':List AV} {b0:Bk} {ZU:Nat} {xs0:List AV} {hr H H':Heap} {V:AV} [bJ P f] (hl:CO tm args=some l) (c:LC P f l' [(b0,.arr ZU xs0)] H V) (hs:IC hp [(b0,.arr ZU xs0)] hr) (co:vF hr l l') (ha:uo H hr=some H') (hn:be d n=true)
 (kk:ae P all rest ⟨n,(d,V) :: tm,H'⟩ Q):ae P all (⟨some d,.call {callee:=.value (.func f),args:=args.toArray,argTypes:=ts},ty,pos,af,none⟩ :: rest) ⟨n,tm,hp⟩ Q:=by
 rw [← qQ ha] at kk
 have hs:=hs.perm
 generalize Uy:[(b0,Ob.arr ZU xs0)]=h0 at c hs
 refine ae.IK rfl fun w S a r=>⟨f,_,oN a w,?_⟩
 obtain ⟨g1,g2⟩:=tU (σ:=⟨n,tm,hp⟩) r hl
 have rp:=r.hp.perm hs
 have Li:db w S hr:=rp.sub (List.sublist_append_right _ _)
 have P3:db w S h0:=rp.sub (List.sublist_append_left _ _)
 obtain ⟨g3,g4⟩:=vF.at Li co g1 g2
 have Lj:∀ m,Has h0 m→¬ Has hr m:=by
  rintro m ⟨x,hx,z7⟩ ⟨y,hy,ZN⟩
  have:=rp.nodup
  rw [bx,a8] at this
  exact this.2.2 m (a7.2 ⟨x,hx,z7⟩) m (a7.2 ⟨y,hy,ZN⟩) rfl
 have Qa:¬ ∃ m,Has h0 m∧S m:=by
  rintro ⟨m,⟨e,he,hm⟩,hS⟩
  have h1:=(P3.sep e he m hm).1 hS
  rw [← Uy,bw] at he
  subst he;exact h1
 refine (c w S (SB S hr) _ (fun m hm=>.inl hm) (fun m hm=>hm.elim (r.hp.slt m) (fun h=>Li.lt h)) (fun m hm hh=>hh.elim (fun h=>Qa ⟨m,hm,h⟩) (Lj m hm)) P3 (by simpa using g3) g4).mono ?_
 rintro e w' ⟨v,rfl,h3,h4,h5,h6⟩
 have VD:∀ m,S m→S m∧w'.heap[m]? =w.heap[m]?:=h5.mB
 have Ah:∀ m,Has hr m→w'.heap[m]? =w.heap[m]?:=fun m hm=>h6 m (Li.lt hm) (fun h=>Lj m h hm)
 have u9:db w' S (H++hr):=by
  refine ⟨?_,?_,?_,h4.slt,h4.gz⟩
  ·rw [bx,a8]
   refine ⟨h4.nodup,Li.nodup,fun x hx y hy Hh=>?_⟩
   subst Hh
   obtain ⟨e1,Sg,DI⟩:=a7.1 hx
   obtain ⟨e2,Mk,NV⟩:=a7.1 hy
   rcases h5.new x ⟨e1,Sg,DI⟩ with h | h
   ·exact Lj x h ⟨e2,Mk,NV⟩
   ·have:=Li.lt ⟨e2,Mk,NV⟩;omega
  ·intro e he
   rcases bi.1 he with he | he
   ·exact h4.holds e he
   ·exact (Li.holds e he).mono VD (fun m hm=>Ah m ⟨e,he,hm⟩)
  ·intro e he m hm
   rcases bi.1 he with he | he
   ·exact h4.sep e he m hm
   ·exact Li.sep e he m hm
 have Jm:∀ m,Has hp m↔Has h0 m∨Has hr m:=by
  intro m
  constructor
  ·rintro ⟨x,hx,hb⟩
   rcases bi.1 (hs.mem_iff.1 hx) with h | h
   ·exact .inl ⟨x,h,hb⟩
   ·exact .inr ⟨x,h,hb⟩
  ·rintro (⟨x,hx,hb⟩ | ⟨x,hx,hb⟩)
   ·exact ⟨x,hs.mem_iff.2 (bz _ hx),hb⟩
   ·exact ⟨x,hs.mem_iff.2 (List.mem_append_right _ hx),hb⟩
 refine ⟨v,S,⟨n,(d,V) :: tm,H++hr⟩,rfl,(r.heap VD u9).put hn h3,?_,kk⟩
 refine ⟨h5.os,h5.tape,h5.output,h5.size,VD,fun m hm hh=>⟨h6 m hm (fun h=>hh ((Jm m).2 (.inl h))),id⟩,fun m hm=>?_,h5.drawn⟩
 obtain ⟨e,he,hb⟩:=hm
 rcases bi.1 he with he | he
 ·rcases h5.new m ⟨e,he,hb⟩ with h | h
  ·exact .inl ((Jm m).2 (.inl h))
  ·exact .inr h
 ·exact .inl ((Jm m).2 (.inr ⟨e,he,hb⟩))
end rules
end Go.Eng
namespace Go.Eng
open Go Go.Proofs
variable [bN]
end Go.Eng
namespace Go.Eng
open Go
variable [bN]
end Go.Eng
namespace Go.Eng
open Go Go.Proofs
variable [bN]
def Qs (av:AV):List Nat→List (Nat×AV)→List (Nat×AV)
 | [],tm=>tm
 | s :: r,tm=>(s,av) :: Qs av r tm
theorem MI {a:AV} {tm:List (Nat×AV)} {t:Nat} {av:AV}:∀ {ss:List Nat},lk (Qs a ss tm) t=some av→(t∈ss∧av=a)∨lk tm t=some av
 | [],h=>.inr h
 | s :: r,h=>by
   simp only [Qs,lk] at h
   split at h
   ·rename_i hb
    obtain rfl:s=t:=by simpa using hb
    exact .inl ⟨by simp,(aa h).symm⟩
   ·rcases MI h with ⟨h1,h2⟩ | h1
    ·exact .inl ⟨b9 _ h1,h2⟩
    ·exact .inr h1
theorem aj.V3 {K V:Type} {gk:K→AV} {gv:V→AV} {M:List (K×V)} {n:Nat} {ss:List Nat} {tm:List (Nat×AV)} {hp vA:Heap} {T:St→Prop} {b:Bk} (hs:∀ s∈ss,lk tm s=some (.bV b)) (dl:yK hp b (.mp (M.map fun e=>(gk e.1,gv e.2))) vA) (k:aj ⟨n,Qs (GL gk gv M) ss tm,vA⟩ T):aj ⟨n,tm,hp⟩ T:=by
 refine aj.step (A3:=⟨n,Qs (GL gk gv M) ss tm,vA⟩) (fun w S a r=>?_) k
 obtain ⟨p,q,rfl,rfl⟩:=dl.split
 have lI:(b,Ob.mp (M.map fun e=>(gk e.1,gv e.2)))∈p++(b,.mp (M.map fun e=>(gk e.1,gv e.2))) :: q:=bE.2 (.inl rfl)
 obtain ⟨L,c,h1,h2⟩:=r.hp.holds _ lI
 have IN:∀ m,b.cw=some m→m < w.heap.size:=fun m hm=>r.hp.lt ⟨_,lI,fV hm⟩
 let S':Nat→Prop:=fun m=>S m∨b.cw=some m
 have mono:∀ m,S m→S' m∧w.heap[m]? =w.heap[m]?:=fun m hm=>⟨.inl hm,rfl⟩
 have wz:=r.hp.nodup
 have ow:(p++q).Sublist (p++(b,Ob.mp (M.map fun e=>(gk e.1,gv e.2))) :: q):=cm (cn _) (cp _ _)
 have u9:db w S' (p++q):=by
  refine ⟨wz.sublist (tP ow),fun e he=>(r.hp.holds e (ow.subset he)).mono mono (fun _ _=>rfl),fun e he m hm=>?_,fun m hm=>?_,fun g o ho=>⟨.inl (r.hp.gz g o ho).1,(r.hp.gz g o ho).2⟩⟩
  ·rw [← r.hp.sep e (ow.subset he) m hm]
   refine ⟨fun hs=>hs.elim id fun hb=>?_,.inl⟩
   exfalso
   rw [bx,b8,a8,a8] at wz
   rcases bi.1 he with h | h
   ·exact wz.2.2 m (a7.2 ⟨e,h,hm⟩) m (bz _ (fV hb)) rfl
   ·exact wz.2.1.2.2 m (fV hb) m (a7.2 ⟨e,h,hm⟩) rfl
  ·rcases hm with h | h
   ·exact r.hp.slt m h
   ·exact IN m h
 have hr:=r.heap mono u9
 refine ⟨_,S',rfl,⟨hr.size,hr.defers,fun t av h=>?_,hr.hp⟩,rfl,rfl,rfl,ai _,mono,fun m hm hh=>⟨rfl,fun hs=>hs.elim id fun hb=>(hh ⟨_,lI,fV hb⟩).elim⟩,fun m hm=>.inl ?_,fun _=>ai _⟩
 ·rcases MI h with ⟨ht,rfl⟩ | h
  ·obtain ⟨v,e1,e2⟩:=hr.tm t _ (hs t ht)
   obtain ⟨m,hb,rfl⟩:=e2.kf
   exact ⟨_,e1,.fm ⟨m,b,rfl,.inr hb,hb,L,c,h1,h2.mono mono (fun _ _=>rfl)⟩⟩
  ·exact hr.tm t av h
 ·obtain ⟨e,he,hb⟩:=hm
  exact ⟨e,ow.subset he,hb⟩
theorem lO.Yt {hp:Heap} {cs lF:List AV} (k:vF hp cs lF):lO hp (.ch cs) (.ch lF):=.Mf fun w S v r h=>by
 cases h with
 | ch _ ad vs hl h hs hS hm=>
   refine .ch lF ad vs (by rw [k.each.1,hl]) (fun i c v hc hv=>?_) hs (.inl hS) hm
   have hi:i < cs.length:=by rw [← k.each.1];exact (a6.1 hc).1
   exact (k.each.2 i cs[i] c (al hi) hc).at r (h i _ _ (al hi) hv)
section rules
variable {P:Program} {all:Array Oper} {rest:List Oper} {n:Nat} {tm:List (Nat×AV)} {hp:Heap} {Q:St→Prop} {d:Nat} {ty:TypeId} {pos:String} {af:Array Edge}
theorem LD {K V:Type} [DecidableEq K] {gk:K→AV} {gv:V→AV} {M:List (K×V)} {key:K} {t kt vt:TypeId} {i:TypeInfo} {x y:Operand} {b:Bk} [aB P t (.map kt vt)] [aX P vt i] [dC P kt gk] (hx:de tm x=some (.bV b)) (hy:de tm y=some (gk key)) (f:mD hp b (.mp (M.map fun e=>(gk e.1,gv e.2)))) (hz:i.zero=some (.map none)) (h:bc M key=none):
 QV P ⟨some d,.lookup t x y true,ty,pos,af,none⟩ ⟨n,tm,hp⟩ (.lE [.raw (.map none),.bool false]):=by
 intro w S a r
 have kx:=bj (σ:=⟨n,tm,hp⟩) r hx
 have ky:=bj (σ:=⟨n,tm,hp⟩) r hy
 obtain ⟨nb,hb,ex⟩:=kx.kf
 obtain ⟨L,c,M',zJ,cq,p1,p2,p3,p4,p5,p6,p7,p8⟩:=qR (dC.inj P kt) r.hp f
 obtain rfl:zJ=nb:=by rw [p4] at hb;exact aa hb
 rw [← jg p1 p8] at h
 have jD:=dC.find (P:=P) (t:=kt) (g:=gk) ky cq.toList (M'.map ap) (by simpa using p6.symm) (fun j k' e h1 h2=>by
  rw [ac] at h1
  cases hm:M'[j]? with
  | none=>rw [hm] at h1;cases h1
  | some q=>rw [hm] at h1;rw [← aa h1];exact (p7 j q e hm h2).1)
 rcases oc (gv:=gv) (w:=w) (S:=S) (k:=key) M' cq.toList 0 p6.symm (fun j e m h1 h2=>(p7 j e m h1 h2).2) with ⟨q1,q2⟩ | ⟨v',j,val,q1,q2,q3,_⟩
 ·refine ⟨.tuple #[.map none,.bool false],fun w1 e1=>?_,.lE _ _ rfl (pN (.raw _) (.bool _))⟩
  simp [execOp,Instr.lookup,ex,run_underlying (aB.h (P:=P) (t:=t)),cY (e1.heap p5),dC.check (P:=P) (t:=kt) ky,jD,q2,zeroValue,typeInfo,aX.h (P:=P) (t:=vt),hz]
 ·rw [q1] at h;cases h
theorem LF {K V:Type} [DecidableEq K] {gk:K→AV} {gv:V→AV} {M:List (K×V)} {key:K} {v:V} {t kt vt:TypeId} {i:TypeInfo} {x y:Operand} {b:Bk} [aB P t (.map kt vt)] [aX P vt i] [dC P kt gk] (hx:de tm x=some (.bV b)) (hy:de tm y=some (gk key)) (f:mD hp b (.mp (M.map fun e=>(gk e.1,gv e.2)))) (h:bc M key=some v):
 QV P ⟨some d,.lookup t x y true,ty,pos,af,none⟩ ⟨n,tm,hp⟩ (.lE [gv v,.bool true]):=by
 intro w S a r
 have kx:=bj (σ:=⟨n,tm,hp⟩) r hx
 have ky:=bj (σ:=⟨n,tm,hp⟩) r hy
 obtain ⟨nb,hb,ex⟩:=kx.kf
 obtain ⟨L,c,M',zJ,cq,p1,p2,p3,p4,p5,p6,p7,p8⟩:=qR (dC.inj P kt) r.hp f
 obtain rfl:zJ=nb:=by rw [p4] at hb;exact aa hb
 rw [← jg p1 p8] at h
 have jD:=dC.find (P:=P) (t:=kt) (g:=gk) ky cq.toList (M'.map ap) (by simpa using p6.symm) (fun j k' e h1 h2=>by
  rw [ac] at h1
  cases hm:M'[j]? with
  | none=>rw [hm] at h1;cases h1
  | some q=>rw [hm] at h1;rw [← aa h1];exact (p7 j q e hm h2).1)
 rcases oc (gv:=gv) (w:=w) (S:=S) (k:=key) M' cq.toList 0 p6.symm (fun j e m h1 h2=>(p7 j e m h1 h2).2) with ⟨q1,q2⟩ | ⟨v',j,val,q1,q2,q3,_⟩
 ·rw [q1] at h;cases h
 ·rw [q1] at h
  obtain rfl:=aa h
  refine ⟨.tuple #[val,.bool true],fun w1 e1=>?_,.lE _ _ rfl (pN q3 (.bool _))⟩
  simp [execOp,Instr.lookup,ex,run_underlying (aB.h (P:=P) (t:=t)),cY (e1.heap p5),dC.check (P:=P) (t:=kt) ky,jD,q2]
theorem LG {K V:Type} [DecidableEq K] {gk:K→AV} {gv:V→AV} {M:List (K×V)} {key:K} {Z:V} {v:V×Bool} {t kt vt:TypeId} {i:TypeInfo} {z:Value} {x y:Operand} {av:AV} [aB P t (.map kt vt)] [aX P vt i] [dC P kt gk] (hx:de tm x=some (GL gk gv M)) (hy:de tm y=some (gk key)) (hz:i.zero=some z) (Em:A4 z=gv Z) (h1:kr (A4 z).cells=true) (h:uD M key Z=some v) (qn:gv v.1=av):
 QV P ⟨some d,.lookup t x y true,ty,pos,af,none⟩ ⟨n,tm,hp⟩ (.lE [av,.bool v.2]):=by
 intro w S a r
 have kx:=bj (σ:=⟨n,tm,hp⟩) r hx
 have ky:=bj (σ:=⟨n,tm,hp⟩) r hy
 obtain ⟨M',nb,c,cq,ex,p1,p5,p6,p7,p8⟩:=MH (dC.inj P kt) kx
 unfold uD at h
 have hv:=aa h
 rw [← jg p1 p8] at hv
 have jD:=dC.find (P:=P) (t:=kt) (g:=gk) ky cq.toList (M'.map ap) (by simpa using p6.symm) (fun j k' e h1 h2=>by
  rw [ac] at h1
  cases hm:M'[j]? with
  | none=>rw [hm] at h1;cases h1
  | some q=>rw [hm] at h1;rw [← aa h1];exact (p7 j q e hm h2).1)
 rcases oc (gv:=gv) (w:=w) (S:=S) (k:=key) M' cq.toList 0 p6.symm (fun j e m h1 h2=>(p7 j e m h1 h2).2) with ⟨q1,q2⟩ | ⟨v',j,val,q1,q2,q3,_⟩
 ·refine ⟨.tuple #[z,.bool false],fun w1 e1=>?_,?_⟩
  ·simp [execOp,Instr.lookup,ex,run_underlying (aB.h (P:=P) (t:=t)),cY (e1.heap p5),dC.check (P:=P) (t:=kt) ky,jD,q2,zeroValue,typeInfo,aX.h (P:=P) (t:=vt),hz]
  ·rw [← qn,← hv,q1]
   refine .lE _ _ rfl (pN ?_ (.bool _))
   rw [cy,← Em];exact Es w S z h1
 ·refine ⟨.tuple #[val,.bool true],fun w1 e1=>?_,?_⟩
  ·simp [execOp,Instr.lookup,ex,run_underlying (aB.h (P:=P) (t:=t)),cY (e1.heap p5),dC.check (P:=P) (t:=kt) ky,jD,q2]
  ·rw [← qn,← hv,q1]
   exact .lE _ _ rfl (pN q3 (.bool _))
end rules
end Go.Eng
