/- The engine: abstract values, the symbolic heap, one rule for each operation. No program in sight. -/
import Derived.Test.YtipbfaojbmendaaGreatDoorEngE
import Derived.Shelf.SlSortCmp.NoneTotal
import Derived.Lib.Case
import Derived.Lib.Overlaps
import Derived.Lib.AppendZeros
open Array renaming getElem?_eq_getElem→a8,range→bi,length_toList→cz,getElem?_modify→em,getElem?_toList→e7,size_range→e8,getElem?_append_left→fc
open Bool renaming false_eq_true→bz,not_eq_true'→ea
open ForInStep renaming yield→d6
open Function renaming comp_def→d7
open Int renaming toNat_natCast→eL
open List renaming getElem?_map→ac,getElem?_eq_getElem→ai,getElem?_eq_some_iff→aL,mem_singleton→a6,nodup_append→a7,mem_flatMap→bk,mem_map→bm,mem_append→bv,getElem_mem→bx,flatMap_append→bG,mem_append_left→bP,map_cons→bU,mem_cons_of_mem→bW,map_append→bX,map_set→b3,replicate→b7,Sublist.append→b8,Sublist.refl→b9,sublist_cons_self→ca,flatMap_cons→ce,length→cf,getElem?_of_mem→cl,Perm.append_left→cn,mem_cons_self→cy,map_map→cA,perm_middle→cH,Perm.cons→cU,filter_eq_self→c7,Perm.trans→dg,perm_append_comm→dn,getElem?_inj→ds,Perm.refl→d0,append_assoc→d1,eq_of_mem_replicate→d4,getElem_of_mem→d5,pairwise_map→d8,filter_cons→d9,Perm.map→el,Perm.append_right→eq,length_map→eF,append_nil→eH,mem_cons→eX,getElem?_cons_zero→eY,length_cons→e5
open Nat renaming le_refl→al,blt→be,zero_add→b4,lt_of_lt_of_le→b5,le_of_ble_eq_true→b6,mod_lt→cp,lt_of_succ_le→d3,lt_or_ge→eg,mul_le_mul_right→e6,div_lt_iff_lt_mul→e9,div_add_mod'→fb
open Option renaming some.inj→aa,map_some→bu,getD_none→c8,some.injEq→d2,getD_some→ej
open PUnit renaming unit→cb
open Prod renaming fst→ap,mk.inj→ci
set_option linter.unusedVariables false
set_option linter.unusedSectionVars false
namespace Go.Eng
open Go
variable [ck]
section rules
variable {P:Program} {all:Array Oper} {n:Nat} {B:Heap} {tk:List Tok} {dy:List Nat} {i:Nat} {rest:List Oper} {tm:List (Nat×AV)} {acc:(Nat→Bk)→List (Nat×AV)} {Q:(Nat→Bk)→List (Nat×AV)→Prop} {d:Nat} {ty:TypeId} {pos:String} {af:Array Edge} {op:Op}
theorem AT.stE {av:AV} (hr:∀ β,u7 tk i β=[[]]) (MO:∀ β,tZ tk i β=[]) (K9:∀ β,kB tk i β=[])
 (q:∀ β,QV P ⟨some d,op,ty,pos,af,none⟩ ⟨n,Gw (looks all ⟨some d,op,ty,pos,af,none⟩) (tm++acc β),B⟩ av) (hn:be d n=true)
 (k:AT P all n B tk dy (i+1) rest ((d,av) :: tm) acc Q):AT P all n B tk dy i (⟨some d,op,ty,pos,af,none⟩ :: rest) tm acc Q:=by
 refine AT.sta rfl (fun β X hX=>?_) k
 rw [hr β] at hX
 obtain rfl:=a6.1 hX
 rw [List.nil_append,MO β,show (fun b=>kB tk i (om β i b))=fun _=>[] from funext fun b=>K9 _,← zO]
 refine GJ (fun d' ub=>by obtain rfl:=aa ub;simpa using hn) rfl (fun w S a s1 s2 s3 s4 K Q' hK=>?_)
 obtain ⟨v,g1,g2⟩:=q β w S a (sI s1 s2 s3 s4)
 show Oper.upon P _ a K Q' _
 rw [g1 w (Ext.refl w)]
 exact hK v w S (Grow.refl s3.slt) g2
end rules
end Go.Eng
namespace Go.Eng
open Go Go.Proofs Go.Shelf Go.Lib
variable {P:Program} [ck]
end Go.Eng
namespace Go.Eng
open Go
variable [ck]
def YM (z:Value) (a:AV):Bool:=match z,a with
 | .slice none 0 0,.list _ []=>true
 | _,_=>false
theorem Tf (w:World) (S:Nat→Prop) {z:Value} {a:AV} (h:YM z a=true):a.cells.length=z.cells.size∧∀ (j:Nat) c v,a.cells[j]? =some c→z.cells[j]? =some v→At w S c v:=by
 unfold YM at h
 split at h
 ·rename_i sz
  refine ⟨rfl,fun j c v h1 h2=>?_⟩
  have e1:(AV.list sz []).cells=[AV.list sz []]:=rfl
  have e2:(Value.slice none 0 0).cells=#[Value.slice none 0 0]:=rfl
  rw [e1] at h1
  rw [e2] at h2
  cases j with
  | zero=>
    simp at h1 h2
    subst h1 h2
    exact At.list sz [] none 0 [] (fun x hx=>by cases hx) rfl (fun i c v h=>by simp [flat] at h) (fun i v h=>by simp at h) (al _)
  | succ j=>simp at h1
 ·cases h
section rules
variable {P:Program} {all:Array Oper} {rest:List Oper} {n:Nat} {tm:List (Nat×AV)} {hp:Heap} {Q:St→Prop} {d:Nat} {ty:TypeId} {pos:String} {af:Array Edge}
theorem Ff {α:Type} {g:α→AV} {Z:α} {Xs:List α} {t e:TypeId} {i:TypeInfo} {z:Value} {x y:Operand} {k k':IntKind} {l c:Int} {sz:Nat} [aF P t (.slice e)] [aZ P e i] (hx:dh tm x=some (.int k l)) (hy:dh tm y=some (.int k' c)) (hz:i.zero=some z) (hg:YM z (g Z)=true) (hs:i.size=sz) (zF:Vk sz (g Z)=true) (Ba:be 0 sz=true) (hb:Nat.ble i.bytes 65536=true)
 (hn:be d n=true) (hm:L1 Z l c=some Xs) (kk:∀ b:Bk,ae P all rest ⟨n,(d,.sl sz b 0 Xs.length) :: tm,(b,.arr sz (Xs.map g)) :: hp⟩ Q):ae P all (⟨some d,.makeSlice t x y,ty,pos,af,none⟩ :: rest) ⟨n,tm,hp⟩ Q:=by
 subst hs
 have Ba:0 < i.size:=b5 (d3 (b6 Ba)) (al _)
 have hb:=b6 hb
 unfold L1 at hm
 split at hm
 ·rename_i hc
  obtain rfl:=aa hm
  obtain ⟨c0,c1,c2⟩:=hc
  refine ae.O1 rfl fun w S a r=>?_
  have e1:=(bt (σ:=⟨n,tm,hp⟩) r hx).ez
  have e2:=(bt (σ:=⟨n,tm,hp⟩) r hy).ez
  have hE:=BW zF
  obtain ⟨hl,pX⟩:=Tf w S hg
  have Is:z.cells.size=i.size:=by rw [← hl];exact hE.1
  obtain ⟨vs,Pa⟩:∃ vs:Array Value,vs=(bi (c.toNat * i.size)).map (z.cells[· % z.cells.size]!):=⟨_,rfl⟩
  have lp:vs.size=c.toNat * i.size:=by rw [Pa];simp
  have E8:∀ (j:Nat) (v:Value),vs[j]? =some v→z.cells[j % i.size]? =some v:=by
   intro j v hv
   rw [Pa] at hv
   simp only [Array.getElem?_map,Option.map_eq_some_iff] at hv
   obtain ⟨q,hq,rfl⟩:=hv
   have:q=j:=by
    rw [Array.getElem?_eq_some_iff] at hq
    obtain ⟨h1,h2⟩:=hq
    simpa using h2.symm
   subst this
   rw [Is]
   have ew:q % i.size < z.cells.size:=by rw [Is];exact cp _ Ba
   simp [ew]
  have e0:=Ext.alloc w (.cells vs e)
  have MX:(b7 l.toNat Z).map g=b7 l.toNat (g Z):=by simp
  have hh:Holds (w.alloc (.cells vs e)) S ⟨some w.heap.size,c.toNat⟩ (.arr i.size ((b7 l.toNat Z).map g)):=by
   rw [MX]
   refine ⟨fun x hx=>by rw [d4 hx];exact hE,by simp;omega,.inr ⟨w.heap.size,vs,e,rfl,?_,lp,fun j cc v GF hv=>?_⟩⟩
   ·show (w.heap.push _)[w.heap.size]? =_
    simp
   ·have zK:j < (flat (b7 l.toNat (g Z))).length:=(aL.1 GF).1
    rw [dP (fun x hx=>by rw [d4 hx];exact hE)] at zK
    rw [Cd hE.1 _ _ (by simpa using zK)] at GF
    exact (pX _ _ _ GF (E8 j v hv)).mono fun m hm=>⟨hm,e0.same m (r.hp.slt m hm)⟩
  obtain ⟨k1,k2,k3⟩:=qL r.hp e0 id hh (.inr ⟨_,rfl,al _⟩)
  refine ⟨.slice (some ⟨w.heap.size,0,none⟩) l.toNat c.toNat,w.alloc (.cells vs e),S,_,?_,(r.heap k3 k1).put hn ?_,k2,kk ⟨some w.heap.size,c.toNat⟩⟩
  ·have w1:IntKind.i64.wrap l=l:=uw ⟨by omega,by omega⟩
   have w2:IntKind.i64.wrap c=c:=uw ⟨by omega,by omega⟩
   have hbc:(i.bytes:Int) * c≤65536 * 1000000000:=Int.mul_le_mul (by omega) (by omega) (by omega) (by omega)
   have f1:decide (c < 0)=false:=decide_eq_false (by omega)
   have f2:decide (((i.bytes:Int) * c) > 2 ^ 48)=false:=decide_eq_false (by omega)
   have f3:decide (l < 0)=false:=decide_eq_false (by omega)
   have f4:decide (l > c)=false:=decide_eq_false (by omega)
   have xK:¬ c.toNat * i.bytes > roomBytes:=by
    have:c.toNat * i.bytes≤1000000000 * 65536:=Nat.mul_le_mul (by omega) hb
    unfold roomBytes;omega
   have a1:∀ (k:IntKind) (x:Int) (w:World),(asInt (.int k x)).run P w=.ok x w:=fun k x w=>by simp [asInt,asIntOf]
   simp only [execOp,Instr.makeSlice,Sem.run_bind,run_underlying (aF.h (P:=P) (t:=t)),Result.andThen_ok,e1,e2,a1,typeInfo,sizeOf,run_program,aZ.h (P:=P) (t:=e),Sem.run_pure,w1,w2,f1,f2,f3,f4,Bool.or_self,bz,if_false,askRoom,if_neg xK]
   by_cases h0:c.toNat * i.size=0
   ·rw [if_pos h0]
    have VI:vs=#[]:=by apply Array.eq_empty_of_size_eq_zero;omega
    simp only [Sem.run_bind,Sem.run_pure,Result.andThen_ok,h0,mZ,VI]
    rw [show bi 0=#[] from rfl]
    simp
   ·rw [if_neg h0]
    simp only [Sem.run_bind,Result.andThen_ok,Sem.run_pure,zeroValue,typeInfo,run_program,aZ.h (P:=P) (t:=e),hz,mZ,← Pa]
  ·have:=At.sl (w:=w.alloc (.cells vs e)) (S:=S) i.size ⟨some w.heap.size,c.toNat⟩ 0 l.toNat w.heap.size c.toNat rfl (by omega) (by simp)
   simpa using this
 ·cases hm
end rules
theorem aq.drop {n:Nat} {tm:List (Nat×AV)} {hp vb:Heap} {T:St→Prop} {b:Bk} {o:Ob} (dl:xA hp b o vb) (k:aq ⟨n,tm,vb⟩ T):aq ⟨n,tm,hp⟩ T:=by
 have hs:vb.Sublist hp:=by
  obtain ⟨p,q,rfl,rfl⟩:=dl.split
  exact b8 (b9 _) (ca _ _)
 exact aq.step (Df:=⟨n,tm,vb⟩) (fun w S a r=>⟨_,S,rfl,r.less ⟨rfl,fun _ _ h=>h,hs⟩,lr.less (lr.refl w S hp) fun _ hn=>hn.sub hs⟩) k
def XB:AV→Bool
 | .int _ _=>true
 | .bool _=>true
 | .str _=>true
 | _=>false
theorem Tg {w:World} {S:Nat→Prop} {a:AV} {v u:Value} (h:XB a=true) (hv:At w S a v) (hu:At w S a u):v=u∧∀ n,Instr.sameBits n v v=true:=by
 cases a<;>simp only [XB,bz] at h
 ·rw [hv.ez,hu.ez];exact ⟨rfl,fun n=>by cases n<;>simp [Instr.sameBits]⟩
 ·rw [hv.lA,hu.lA];exact ⟨rfl,fun n=>by cases n<;>simp [Instr.sameBits]⟩
 ·rw [hv.gV,hu.gV]
  refine ⟨rfl,fun n=>?_⟩
  cases n<;>(simp only [Instr.sameBits];exact (IL _ _).2 rfl)
theorem yW {α:Type} (p:α×α→Bool):∀ (l:List α),(∀ x∈l,p (x,x)=true)→(l.zip l).all p=true
 | [],_=>rfl
 | x :: r,h=>by
   rw [List.zip_cons_cons,List.all_cons,h x cy,yW p r (fun y hy=>h y (bW _ hy))];rfl
theorem Qf {w:World} {S:Nat→Prop} {cs:List AV} {v u:Value} (h:∀ c∈cs,XB c=true) (hv:At w S (.agg cs) v) (hu:At w S (.agg cs) u):Instr.sameBits 10000 v u=true:=by
 obtain ⟨vs,rfl,hl,ha⟩:=hv.qK
 obtain ⟨us,rfl,JK,Pe⟩:=hu.qK
 have key:∀ (i:Nat) (h1:i < vs.size) (h2:i < us.size),vs[i]=us[i]∧∀ n,Instr.sameBits n vs[i] vs[i]=true:=fun i h1 h2=>by
  have hc:cs[i]? =some (cs[i]'(by omega)):=by simp [show i < cs.length by omega]
  exact Tg (h _ (bx _)) (ha i _ _ hc (by simp [h1])) (Pe i _ _ hc (by simp [h2]))
 have heq:vs=us:=Array.ext (by omega) (fun i h1 h2=>(key i h1 h2).1)
 subst heq
 have g:∀ n:Nat,Instr.sameBits (n+1) (.agg vs) (.agg vs)=true:=fun n=>by
  simp only [Instr.sameBits,beq_self_eq_true,Bool.true_and]
  refine yW _ _ (fun x hx=>?_)
  obtain ⟨i,hi,rfl⟩:=d5 hx
  simpa using (key i (by simpa using hi) (by simpa using hi)).2 n
 exact g 9999
def UM (D:TypeDesc):Bool:=match D with
 | .int _=>true
 | .bool=>true
 | .string=>true
 | _=>false
theorem VZ {P:Program} {t:TypeId} {D:TypeDesc} (hu:P.underlying t=some D) (hD:UM D=true) (b:Bool) (n:Nat) (v:Value) (w:World):(Instr.checkKey b (n+1) t v).run P w=.ok () w:=by
 cases D<;>simp only [UM,bz] at hD<;>simp [Instr.checkKey,run_underlying hu]
theorem Qg {P:Program} {t:TypeId} {D:TypeDesc} (hu:P.underlying t=some D) (hD:UM D=true) {cs:Array Value} {off:Nat} {v:Value} (h:cs[off]? =some v) (w:World):(part t cs off).run P w=.ok v w:=by
 unfold part isAgg
 simp only [Sem.run_bind,run_underlying hu,Result.andThen_ok]
 cases D<;>simp_all [UM]
theorem Ea {P:Program} (b:Bool) (n:Nat) (vs:Array Value) (w:World):∀ (fs:List Field),(∀ f∈fs,∃ D,P.underlying f.type=some D∧UM D=true∧f.offset < vs.size)→(forIn fs cb (fun f (_:PUnit)=>(if f.name≠"_" then do
 let x ← part f.type vs f.offset
 Instr.checkKey b (n+1) f.type x
 pure (d6 cb)
 else pure (d6 cb):Sem (ForInStep PUnit)))).run P w=.ok cb w
 | [],_=>by simp
 | f :: fs,h=>by
   obtain ⟨D,h1,h2,h3⟩:=h f cy
   have hp:∀ w1,(part f.type vs f.offset).run P w1=.ok vs[f.offset] w1:=Qg h1 h2 (by simp [h3])
   have ih:=Ea b n vs w fs (fun g hg=>h g (bW _ hg))
   simp only [List.forIn_cons,Sem.run_bind]
   by_cases hn:f.name="_"
   ·simp only [hn,ne_eq,not_true_eq_false,if_false,Sem.run_pure,Result.andThen_ok]
    exact ih
   ·simp only [hn,ne_eq,not_false_eq_true,if_true,Sem.run_bind,hp,Result.andThen_ok,VZ h1 h2,Sem.run_pure]
    exact ih
theorem RY {P:Program} {t:TypeId} {v:Value} {K:Type} [DecidableEq K] {k:K} {q:K→Value→Prop} (hq:∀ k' u,q k' u→∀ w,(Op.equal t v u).run P w=.ok (decide (k'=k)) w):∀ (es:List MapEntry) (ks:List K) (i:Nat) (w:World),ks.length=es.length→(∀ (i:Nat) k' e,ks[i]? =some k'→es[i]? =some e→q k' e.key)→(Instr.findAsking t v es i).run P w=.ok (wj k ks es i) w
 | [],[],i,w,_,_=>by simp [Instr.findAsking,wj]
 | [],k' :: ks,i,w,hl,_=>by simp at hl
 | e :: es,[],i,w,hl,_=>by simp at hl
 | e :: es,k' :: ks,i,w,hl,h=>by
   unfold Instr.findAsking wj
   rw [Sem.run_bind,hq k' e.key (h 0 k' e rfl rfl)]
   by_cases hk:k'=k
   ·simp [hk]
   ·simp only [hk,decide_false,Result.andThen_ok,bz,if_false]
    exact RY hq es ks (i+1) w (by simpa using hl) (fun i k' e h1 h2=>h (i+1) k' e (by simpa using h1) (by simpa using h2))
theorem dY.struct {P:Program} {t:TypeId} {K:Type} [DecidableEq K] {g:K→AV} {dd:Nat} {fs:List Field} {n:Nat} [Bf P t dd g] (hk:Nat.ble dd 10000=true) (hu:P.underlying t=some (.struct fs.toArray))
 (hf:∀ f∈fs,∃ D,P.underlying f.type=some D∧UM D=true∧f.offset < n) (hg:∀ x,∃ cs,g x=.agg cs∧cs.length=n∧∀ c∈cs,XB c=true) (inj:∀ a b,g a=g b→a=b):dY P t g where
 inj:=inj
 check:=fun {w S k v} hv b w1=>by
  obtain ⟨cs,e,hl,hs⟩:=hg k
  rw [e] at hv
  obtain ⟨vs,rfl,JK,ha⟩:=hv.qK
  have key:∀ m:Nat,(Instr.checkKey b (m+1+1) t (.agg vs)).run P w1=.ok () w1:=fun m=>by
   have h1:=Ea (P:=P) b m vs w1 fs (fun f hm=>by obtain ⟨D,h1,h2,h3⟩:=hf f hm;exact ⟨D,h1,h2,by omega⟩)
   rw [Instr.checkKey]
   simp only [Sem.run_bind,run_underlying hu,Result.andThen_ok]
   rw [← Array.forIn_toList]
   simp only [h1,Result.andThen_ok,Sem.run_pure]
  exact key 9998
 find:=fun {w S k v} hv es ks hl O7 w1=>by
  obtain ⟨cs,e,hn,hs⟩:=hg k
  have UK:=hv
  rw [e] at UK
  obtain ⟨vs,rfl,JK,ha⟩:=UK.qK
  have hq:=RY (P:=P) (t:=t) (v:=.agg vs) (k:=k) (q:=fun k' u=>At w S (g k') u) (fun k' u hu w2=>by
   have:=Bf.h (P:=P) (t:=t) (g:=g) k k' w S _ _ hv hu (10000 - dd) w2
   rw [Nat.sub_add_cancel (b6 hk)] at this
   rw [show decide (k'=k)=decide (k=k') by rw [Bool.eq_iff_iff];simp;exact eq_comm]
   exact this) es ks 0 w1 hl (fun i k' e h1 h2=>O7 i k' e h1 h2)
  unfold Instr.findKey
  rw [Sem.run_bind,run_underlying hu]
  simp only [Result.andThen_ok]
  cases es with
  | nil=>
    cases ks with
    | nil=>simp [Instr.findNow,wj]
    | cons _ _=>simp at hl
  | cons m es=>
    have:Instr.findNow (.struct fs.toArray) (.agg vs) (m :: es) 0=none:=by
     unfold Instr.findNow;simp [Instr.sameNow]
    rw [this];exact hq
 bits:=fun {w S k v u} h1 h2=>by
  obtain ⟨cs,e,hn,hs⟩:=hg k
  rw [e] at h1 h2
  exact Qf hs h1 h2
theorem aq.Th {n s:Nat} {tm:List (Nat×AV)} {hp vb:Heap} {T:St→Prop} {b:Bk} {cs:List AV} (hs:lk tm s=some (.ptr b 0)) (dl:xA hp b (.cells cs) vb) (k:aq ⟨n,(s,.cw cs) :: tm,vb⟩ T):aq ⟨n,tm,hp⟩ T:=by
 refine aq.step (Df:=⟨n,(s,.cw cs) :: tm,vb⟩) (fun w S a r=>?_) k
 obtain ⟨p,q,rfl,rfl⟩:=dl.split
 have og:(b,Ob.cells cs)∈p++(b,.cells cs) :: q:=bN.2 (.inl rfl)
 obtain ⟨h1,m0,vs,E,Bu,hh,lp,ha⟩:=r.hp.holds _ og
 have Io:∀ m,b.dp=some m→m < w.heap.size:=fun m hm=>r.hp.lt ⟨_,og,gO hm⟩
 let S':Nat→Prop:=fun m=>S m∨b.dp=some m
 have mono:∀ m,S m→S' m∧w.heap[m]? =w.heap[m]?:=fun m hm=>⟨.inl hm,rfl⟩
 have vy:=r.hp.nodup
 have pj:(p++q).Sublist (p++(b,Ob.cells cs) :: q):=b8 (b9 _) (ca _ _)
 have u5:cY w S' (p++q):=by
  refine ⟨vy.sublist (tz pj),fun e he=>(r.hp.holds e (pj.subset he)).mono mono (fun _ _=>rfl),fun e he m hm=>?_,fun m hm=>?_,fun g o ho=>⟨.inl (r.hp.ib g o ho).1,(r.hp.ib g o ho).2⟩⟩
  ·rw [← r.hp.sep e (pj.subset he) m hm]
   refine ⟨fun hs=>hs.elim id fun hb=>?_,.inl⟩
   exfalso
   rw [bG,ce,a7,a7] at vy
   rcases bv.1 he with h | h
   ·exact vy.2.2 m (bk.2 ⟨e,h,hm⟩) m (bP _ (gO hb)) rfl
   ·exact vy.2.1.2.2 m (gO hb) m (bk.2 ⟨e,h,hm⟩) rfl
  ·rcases hm with h | h
   ·exact r.hp.slt m h
   ·exact Io m h
 have hr:=r.heap mono u5
 refine ⟨_,S',rfl,⟨hr.size,hr.defers,fun t av h=>?_,hr.hp⟩,rfl,rfl,rfl,al _,mono,fun m hm hh=>⟨rfl,fun hs=>hs.elim id fun hb=>(hh ⟨_,og,gO hb⟩).elim⟩,fun m hm=>.inl ?_,fun _=>al _⟩
 ·simp only [lk] at h
  split at h
  ·rename_i hbq
   obtain rfl:s=t:=by simpa using hbq
   obtain rfl:=aa h
   obtain ⟨v,e1,e2⟩:=hr.tm s _ hs
   cases e2 with
   | ptr _ _ m hb=>
     obtain rfl:=aa (hb.symm.trans Bu)
     refine ⟨_,e1,.cw cs ⟨m,0,none⟩ vs.toList (by simp [lp]) (fun i c v hc hv=>(ha i c v hc (by simpa using hv)).mono mono) rfl (.inr hb) (fun i v hv=>?_)⟩
     rw [mR hh];simpa using hv
  ·exact hr.tm t av h
 ·obtain ⟨e,he,hb⟩:=hm
  exact ⟨e,pj.subset he,hb⟩
theorem J {α:Sort _} {a:α}:a=a:=rfl
end Go.Eng
set_option linter.unusedSimpArgs false
namespace Go.Eng
open Go
variable [ck]
theorem aq.RZ {n:Nat} {tm:List (Nat×AV)} {hp:Heap} {dE:Nat→Heap} {T:St→Prop} {b:Bk} {es:List (AV×AV)} {k:AV} (u:∀ q,nC hp b (.mp es) b (.EN es q k) (dE q)) (kk:∀ q,aq ⟨n,tm,dE q⟩ T):aq ⟨n,tm,hp⟩ T:=fun w S a r=>by
 obtain ⟨L,c,hL,hH⟩:=r.hp.holds _ (u 0).sF.mem
 have hq:∃ q,(∃ e∈L,e.k=k∧e.born=q)∨((∀ e∈L,e.k≠k)∧q=c):=by
  by_cases h:∃ e∈L,e.k=k
  ·obtain ⟨e,he,hk⟩:=h;exact ⟨e.born,.inl ⟨e,he,hk,rfl⟩⟩
  ·exact ⟨c,.inr ⟨fun e he hk=>h ⟨e,he,hk⟩,rfl⟩⟩
 obtain ⟨q,hq⟩:=hq
 obtain ⟨r1,e1,_⟩:=xf r.hp (u q) (P6 w b.dp) id id ⟨L,c,hL,hH,hq⟩ (.inl rfl)
 obtain ⟨aS,S',t1,t2,t3⟩:=kk q w S a (r.heap (fun m hm=>⟨hm,rfl⟩) r1)
 exact ⟨aS,S',t1,t2,e1.trans t3⟩
theorem GX {K V:Type} {gk:K→AV} {gv:V→AV} {w:World} {S:Nat→Prop} {hp:Heap} {b:Bk} {M:List (K×V)} {q:Nat} {key:K} (P7:∀ a b,gk a=gk b→a=b) (r:cY w S hp) (f:mb hp b (.EN (M.map fun e=>(gk e.1,gv e.2)) q (gk key))):
 ∃ (L:List oY) (c:Nat) (M':List (K×V)) (n:Nat) (dC:Array MapEntry),M'.Perm M∧L.map oY.kv=M'.map (fun e=>(gk e.1,gv e.2))∧tX w S b L c∧b.dp=some n∧w.heap[n]? =some (.map dC c)∧dC.toList.length=M'.length∧
   (∀ (i:Nat) e m,M'[i]? =some e→dC.toList[i]? =some m→At w S (gk e.1) m.key∧At w S (gv e.2) m.val)∧(M'.map ap).Nodup∧((∃ e∈L,e.k=gk key∧e.born=q)∨((∀ e∈L,e.k≠gk key)∧q=c)):=by
 obtain ⟨L,c,mB,hH,hq⟩:=r.holds _ f.mem
 obtain ⟨M',h1,h2⟩:=sn _ _ _ mB
 have YI:=hH
 obtain ⟨n,dC,g1,g2,g3,g4,g5,g6,g7⟩:=hH
 have hlen:L.length=M'.length:=by have:=congrArg cf h2;simpa using this
 refine ⟨L,c,M',n,dC,h1,h2,YI,g1,g2,by rw [cz,g3,hlen],fun i e m he hm=>?_,?_,hq⟩
 ·have:(L.map oY.kv)[i]? =some (gk e.1,gv e.2):=by rw [h2,ac,he];rfl
  rw [ac] at this
  cases hL:L[i]? with
  | none=>rw [hL] at this;cases this
  | some x=>
    rw [hL] at this
    have hx:(x.k,x.v)=(gk e.1,gv e.2):=aa this
    obtain ⟨q1,q2⟩:=ci hx
    have:=g4 i x m hL (by simpa using hm)
    rw [q1,q2] at this
    exact this.2
 ·have hk:L.map (·.k)=(M'.map ap).map gk:=by
   have:=congrArg (List.map ap) h2
   simpa [cA,d7,oY.kv] using this
  rw [hk] at g7
  exact (d8.1 g7).imp (fun h e=>h (by rw [e]))
theorem set_perm {K V:Type} [DecidableEq K] {M M':List (K×V)} {j:Nat} {key:K} {v v':V} (p1:M'.Perm M) (p8:(M'.map ap).Nodup) (q4:M'[j]? =some (key,v)):(M'.set j (key,v')).Perm ((key,v') :: rQ M key):=by
 have RX:j < M'.length:=(aL.1 q4).1
 have e2:M'=M'.take j++(key,v) :: M'.drop (j+1):=by
  have:=List.take_append_drop j M'
  rw [List.drop_eq_getElem_cons RX] at this
  have hq:M'[j]=(key,v):=by rw [ai RX] at q4;exact aa q4
  rw [hq] at this
  exact this.symm
 have e3:M'.set j (key,v')=M'.take j++(key,v') :: M'.drop (j+1):=by
  rw [List.set_eq_take_append_cons_drop,if_pos RX]
 rw [e3]
 refine cH.trans (cU _ ?_)
 have e4:rQ M' key=M'.take j++M'.drop (j+1):=by
  have Ta:=p8
  rw [e2,bX,bU,a7,List.nodup_cons] at Ta
  unfold rQ
  rw [e2,List.filter_append,d9]
  simp only [ne_eq,not_true_eq_false,decide_false,bz,if_false]
  rw [← e2]
  congr 1
  ·refine c7.2 fun e he=>?_
   simp only [decide_not,ea,decide_eq_false_iff_not]
   intro hk
   exact Ta.2.2 e.1 (bm.2 ⟨e,he,rfl⟩) key (by simp) hk
  ·refine c7.2 fun e he=>?_
   simp only [decide_not,ea,decide_eq_false_iff_not]
   intro hk
   exact Ta.2.1.1 (bm.2 ⟨e,he,hk⟩)
 rw [← e4]
 exact p1.filter _
theorem Lh {K V:Type} [DecidableEq K] [vM K] (M:List (K×V)) (key:K) (v:V):(rQ (dX M key v) key).Perm (rQ M key):=by
 refine ((uE M key v).filter _).trans ?_
 rw [d9,if_neg (by simp)]
 have:(rQ M key).filter (fun e=>decide (e.1≠key))=rQ M key:=c7.2 fun e he=>by simpa using Nf M key e he
 rw [this]
section rules
variable {P:Program} {all:Array Oper} {rest:List Oper} {n:Nat} {tm:List (Nat×AV)} {hp:Heap} {Q:St→Prop} {d:Nat} {ty:TypeId} {pos:String} {af:Array Edge}
theorem Cm {K V:Type} [DecidableEq K] [vM K] {gk:K→AV} {gv:V→AV} {M:List (K×V)} {key:K} {q:Nat} {Z v:V} {t kt vt:TypeId} {i:TypeInfo} {z:Value} {x y:Operand} {b:Bk} {dE:Heap} [aF P t (.map kt vt)] [aZ P vt i] [dY P kt gk] (hx:dh tm x=some (.bO b)) (hy:dh tm y=some (gk key)) (hz:i.zero=some z) (L3:zE z=gv Z) (h1:jq (zE z).cells=true) (h:nU M key Z=some v)
 (u:nC hp b (.EN (M.map fun e=>(gk e.1,gv e.2)) q (gk key)) b (.EN ((dX M key v).map fun e=>(gk e.1,gv e.2)) q (gk key)) dE) (hn:be d n=true)
 (kk:ae P all rest ⟨n,(d,.ma [gv v,.int .i64 (q:Int)]) :: tm,dE⟩ Q):ae P all (⟨some d,.mapEntry t x y,ty,pos,af,none⟩ :: rest) ⟨n,tm,hp⟩ Q:=by
 refine ae.O1 rfl fun w S a r=>?_
 have kx:=bt (σ:=⟨n,tm,hp⟩) r hx
 have ky:=bt (σ:=⟨n,tm,hp⟩) r hy
 obtain ⟨nb,hb,ex⟩:=kx.lE
 obtain ⟨L,c,M',BB,dC,p1,p2,p3,p4,p5,p6,p7,p8,hq⟩:=GX (dY.inj P kt) r.hp u.sF
 obtain rfl:BB=nb:=by rw [p4] at hb;exact aa hb
 unfold nU at h
 have hv:=aa h
 rw [← jI p1 p8] at hv
 have kL:=dY.find (P:=P) (t:=kt) (g:=gk) ky dC.toList (M'.map ap) (by simpa using p6.symm) (fun j k' e h1 h2=>by
  rw [ac] at h1
  cases hm:M'[j]? with
  | none=>rw [hm] at h1;cases h1
  | some q=>rw [hm] at h1;rw [← aa h1];exact (p7 j q e hm h2).1)
 obtain ⟨Pc,ic,g1,g2,g3,g4,g5,g6,g7⟩:=p3
 obtain rfl:Pc=BB:=by rw [p4] at g1;exact (aa g1).symm
 obtain rfl:ic=dC:=by rw [p5] at g2;exact (Obj.map.inj (aa g2)).1.symm
 have XA:L.length=M'.length:=by have:=congrArg cf p2;simpa using this
 have S9:∀ (j:Nat) (x:oY) (e:K×V),L[j]? =some x→M'[j]? =some e→x.k=gk e.1∧x.v=gv e.2:=by
  intro j x e h1 h2
  have:(L.map oY.kv)[j]? =(M'.map fun e=>(gk e.1,gv e.2))[j]?:=by rw [p2]
  rw [ac,ac,h1,h2] at this
  exact ci (aa this)
 rcases nF (gv:=gv) (w:=w) (S:=S) (k:=key) M' ic.toList 0 p6.symm (fun j e m h1 h2=>(p7 j e m h1 h2).2) with ⟨q1,q2⟩ | ⟨v',j,val,q1,q2,q3,q4⟩
 ·
  have xE:∀ e∈L,e.k≠gk key:=by
   intro e he hk
   obtain ⟨j,hj⟩:=cl he
   have zK:j < M'.length:=by rw [← XA];exact (aL.1 hj).1
   have:=(S9 j e M'[j] hj (ai zK)).1
   rw [hk] at this
   exact (nE.1 q1) M'[j] (bx zK) (dY.inj P kt _ _ this.symm)
  have hqc:q=c:=by
   rcases hq with ⟨e,he,hk,_⟩ | ⟨_,hc⟩
   ·exact absurd hk (xE e he)
   ·exact hc
  rw [q1,c8] at hv
  subst hv
  have kz:At w S (gv Z) z:=by rw [← L3];exact Ch w S z h1
  have hw:=uD (ob:=.map (ic.push ⟨a.eval y,z,c⟩) (c+1)) r.hp u p4 p5 id id (fun k1=>by
   refine ⟨L++[⟨gk key,gv Z,c⟩],c+1,?_,⟨Pc,ic.push ⟨a.eval y,z,c⟩,p4,uB p5,by simp [g3],?_,?_,?_,?_⟩,.inl ⟨⟨gk key,gv Z,c⟩,by simp,rfl,hqc.symm⟩⟩
   ·rw [bX,p2]
    refine dg ?_ ((qn key Z (rQ M key)).symm.map _)
    rw [zR (by rw [← jI p1 p8];exact q1)]
    exact dn.trans (cU _ (p1.map _))
   ·intro i e m he hm
    rw [Array.getElem?_push] at hm
    rcases eg i L.length with hi | hi
    ·rw [List.getElem?_append_left hi] at he
     rw [if_neg (by omega)] at hm
     obtain ⟨s1,s2,s3⟩:=g4 i e m he hm
     exact ⟨s1,s2.mono k1,s3.mono k1⟩
    ·have Gt:i=L.length:=by
      have:=(aL.1 he).1
      simp at this;omega
     subst Gt
     rw [if_pos g3.symm] at hm
     simp at he
     obtain rfl:=aa hm
     subst he
     exact ⟨rfl,ky.mono k1,kz.mono k1⟩
   ·intro e he
    rcases bv.1 he with h | h
    ·have:=g5 e h;omega
    ·simp at h;subst h;simp
   ·rw [bX,a7]
    refine ⟨g6,by simp,fun a1 ha b1 Bv DZ=>?_⟩
    simp at Bv
    subst Bv
    obtain ⟨e,he,rfl⟩:=bm.1 ha
    have:=g5 e he
    omega
   ·rw [bX,a7]
    refine ⟨g7,by simp,fun a1 ha b1 Bv DZ=>?_⟩
    simp at Bv
    subst Bv
    obtain ⟨e,he,rfl⟩:=bm.1 ha
    exact xE e he DZ)
  refine ⟨.tuple #[z,goInt c],_,S,_,?_,(r.heap hw.2.2 hw.1).put hn (.ma _ _ rfl (qJ (kz.mono hw.2.2) ?_)),hw.2.1,kk⟩
  ·simp [execOp,Instr.mapEntry,ex,run_underlying (aF.h (P:=P) (t:=t)),dZ p5,dY.check (P:=P) (t:=kt) ky,kL,q2,zeroValue,typeInfo,aZ.h (P:=P) (t:=vt),hz,sV _ p5]
  ·rw [hqc];exact .int _ _
 ·
  have zK:j < ic.toList.length:=by rw [p6];exact (aL.1 q4).1
  have E0:j < ic.size:=by simpa using zK
  have P8:ic.toList[j]? =some ic[j]:=by simp [E0]
  have Fa:=(p7 j _ _ q4 P8).1
  have M7:Instr.sameBits 10000 ic[j].key (a.eval y)=true:=dY.bits (P:=P) (t:=kt) Fa ky
  have AG:j < L.length:=by omega
  have Qh:L[j].k=gk key:=(S9 j L[j] _ (ai AG) q4).1
  have Nh:ic[j].born=L[j].born:=(g4 j L[j] ic[j] (ai AG) (a8 E0)).1
  have V0:L[j].born=q:=by
   rcases hq with ⟨e,he,hk,hb⟩ | ⟨Dp,_⟩
   ·obtain ⟨i,hi⟩:=cl he
    have rP:=(aL.1 hi).1
    have e1:(L.map (·.k))[i]? =some (gk key):=by rw [ac,hi,bu,hk]
    have e2:(L.map (·.k))[j]? =some (gk key):=by rw [ac,ai AG,bu,Qh]
    have yz:i=j:=(ds (by simpa using rP) g7).1 (e1.trans e2.symm)
    subst yz
    rw [← hb]
    exact congrArg oY.born (aa ((ai AG).symm.trans hi))
   ·exact absurd Qh (Dp _ (bx AG))
  rw [q1,ej] at hv
  subst hv
  have hw:=uD (ob:=.map (ic.modify j fun e=>{e with key:=a.eval y}) c) r.hp u p4 p5 id id (fun k1=>by
   refine ⟨L,c,?_,⟨Pc,_,p4,uB p5,by simp [g3],?_,g5,g6,g7⟩,.inl ⟨L[j],bx AG,Qh,V0⟩⟩
   ·rw [p2]
    refine el _ ?_
    refine dg ?_ (uE M key v').symm
    have e1:M'.set j (key,v')=M':=uC q4
    rw [← e1]
    exact set_perm p1 p8 q4
   ·intro i e m he hm
    rw [em] at hm
    by_cases yz:j=i
    ·subst yz
     simp only [if_true,a8 E0,bu] at hm
     obtain rfl:=aa hm
     obtain ⟨s1,s2,s3⟩:=g4 j e ic[j] he (a8 E0)
     have:e=L[j]:=aa (he.symm.trans (ai AG))
     refine ⟨s1,?_,s3.mono k1⟩
     rw [this,Qh];exact ky.mono k1
    ·rw [if_neg yz] at hm
     obtain ⟨s1,s2,s3⟩:=g4 i e m he hm
     exact ⟨s1,s2.mono k1,s3.mono k1⟩)
  refine ⟨.tuple #[val,goInt ic[j].born],_,S,_,?_,(r.heap hw.2.2 hw.1).put hn (.ma _ _ rfl (qJ (q3.mono hw.2.2) ?_)),hw.2.1,kk⟩
  ·simp [execOp,Instr.mapEntry,ex,run_underlying (aF.h (P:=P) (t:=t)),dZ p5,dY.check (P:=P) (t:=kt) ky,kL,q2,Instr.keyThatStays,E0,M7,sV _ p5]
  ·rw [Nh,V0];exact .int _ _
theorem yX {K V:Type} [DecidableEq K] [vM K] {gk:K→AV} {gv:V→AV} {M:List (K×V)} {key:K} {q:Nat} {v v':V} {t kt:TypeId} {x s y:Operand} {b:Bk} {av:AV} {dE:Heap} [dY P kt gk] (hx:dh tm x=some (.bO b)) (hs:dh tm s=some (.int .i64 (q:Int))) (hy:dh tm y=some av) (pa:av=gv v')
 (u:nC hp b (.EN ((dX M key v).map fun e=>(gk e.1,gv e.2)) q (gk key)) b (.mp ((dX M key v').map fun e=>(gk e.1,gv e.2))) dE)
 (kk:ae P all rest ⟨n,tm,dE⟩ Q):ae P all (⟨none,.entryStore t x s y,ty,pos,af,none⟩ :: rest) ⟨n,tm,hp⟩ Q:=by
 refine ae.act rfl rfl (fun w S a r=>?_) kk
 have kx:=bt (σ:=⟨n,tm,hp⟩) r hx
 have ks:=(bt (σ:=⟨n,tm,hp⟩) r hs).ez
 have ky:=bt (σ:=⟨n,tm,hp⟩) r hy
 obtain ⟨nb,hb,ex⟩:=kx.lE
 obtain ⟨L,c,M',BB,dC,p1,p2,p3,p4,p5,p6,p7,p8,hq⟩:=GX (dY.inj P kt) r.hp u.sF
 obtain rfl:BB=nb:=by rw [p4] at hb;exact aa hb
 obtain ⟨Pc,ic,g1,g2,g3,g4,g5,g6,g7⟩:=p3
 obtain rfl:Pc=BB:=by rw [p4] at g1;exact (aa g1).symm
 obtain rfl:ic=dC:=by rw [p5] at g2;exact (Obj.map.inj (aa g2)).1.symm
 have XA:L.length=M'.length:=by have:=congrArg cf p2;simpa using this
 have S9:∀ (j:Nat) (x:oY) (e:K×V),L[j]? =some x→M'[j]? =some e→x.k=gk e.1∧x.v=gv e.2:=by
  intro j x e h1 h2
  have:(L.map oY.kv)[j]? =(M'.map fun e=>(gk e.1,gv e.2))[j]?:=by rw [p2]
  rw [ac,ac,h1,h2] at this
  exact ci (aa this)
 have Io:(key,v)∈M':=p1.mem_iff.2 ((uE M key v).mem_iff.2 (by simp))
 obtain ⟨j,hj⟩:=cl Io
 have RX:=(aL.1 hj).1
 have AG:j < L.length:=by omega
 have E0:j < ic.size:=by omega
 have Qh:L[j].k=gk key:=(S9 j L[j] _ (ai AG) hj).1
 have Nh:ic[j].born=L[j].born:=(g4 j L[j] ic[j] (ai AG) (a8 E0)).1
 have V0:L[j].born=q:=by
  rcases hq with ⟨e,he,hk,hb⟩ | ⟨Dp,_⟩
  ·obtain ⟨i,hi⟩:=cl he
   have rP:=(aL.1 hi).1
   have e1:(L.map (·.k))[i]? =some (gk key):=by rw [ac,hi,bu,hk]
   have e2:(L.map (·.k))[j]? =some (gk key):=by rw [ac,ai AG,bu,Qh]
   have yz:i=j:=(ds (by simpa using rP) g7).1 (e1.trans e2.symm)
   subst yz
   rw [← hb]
   exact congrArg oY.born (aa ((ai AG).symm.trans hi))
  ·exact absurd Qh (Dp _ (bx AG))
 have hfi:ic.findIdx? (fun e=>(e.born:Int)==(q:Int))=some j:=by
  rw [Array.findIdx?_eq_some_iff_getElem]
  refine ⟨E0,by simp [Nh,V0],fun i hi=>?_⟩
  have KW:i < ic.size:=by omega
  have Gt:i < L.length:=by omega
  have Lc:ic[i].born=L[i].born:=(g4 i L[i] ic[i] (ai Gt) (a8 KW)).1
  simp only [beq_iff_eq,Int.natCast_inj,Lc]
  intro hc
  have e1:(L.map (·.born))[i]? =some q:=by rw [ac,ai Gt,bu,hc]
  have e2:(L.map (·.born))[j]? =some q:=by rw [ac,ai AG,bu,V0]
  have yz:i=j:=(ds (by simpa using Gt) g6).1 (e1.trans e2.symm)
  omega
 have hw:=uD (ob:=.map (ic.modify j fun e=>{e with val:=a.eval y}) c) r.hp u p4 p5 id id (fun k1=>by
  refine ⟨L.set j ⟨gk key,gv v',L[j].born⟩,c,?_,Pc,_,p4,uB p5,by simp [g3],?_,?_,?_,?_⟩
  ·rw [b3]
   have e1:(L.map oY.kv).set j (gk key,gv v')=(M'.set j (key,v')).map fun e=>(gk e.1,gv e.2):=by rw [p2,b3]
   show ((L.map oY.kv).set j (gk key,gv v')).Perm _
   rw [e1]
   refine el _ ?_
   refine (set_perm p1 p8 hj).trans ?_
   refine dg ?_ (uE M key v').symm
   exact cU _ (Lh M key v)
  ·intro i e m he hm
   rw [em] at hm
   rw [List.getElem?_set] at he
   by_cases yz:j=i
   ·subst yz
    simp only [if_true,AG] at he
    simp only [if_true,a8 E0,bu] at hm
    obtain rfl:=aa he
    obtain rfl:=aa hm
    obtain ⟨s1,s2,s3⟩:=g4 j L[j] ic[j] (ai AG) (a8 E0)
    rw [Qh] at s2
    exact ⟨s1,s2.mono k1,by rw [pa] at ky;exact ky.mono k1⟩
   ·rw [if_neg yz] at he hm
    obtain ⟨s1,s2,s3⟩:=g4 i e m he hm
    exact ⟨s1,s2.mono k1,s3.mono k1⟩
  ·intro e he
   rcases List.mem_or_eq_of_mem_set he with h | h
   ·exact g5 e h
   ·subst h;exact g5 L[j] (bx AG)
  ·rw [b3]
   have:(L.map (·.born)).set j L[j].born=L.map (·.born):=by
    exact uC (by rw [ac,ai AG];rfl)
   rw [this];exact g6
  ·rw [b3]
   have:(L.map (·.k)).set j (gk key)=L.map (·.k):=by
    exact uC (by rw [ac,ai AG,bu,Qh])
   rw [this];exact g7)
 refine ⟨_,S,?_,r.heap hw.2.2 hw.1,hw.2.1⟩
 have IM:∀ w1:World,(asInt (Value.int .i64 (q:Int))).run P w1=.ok (q:Int) w1:=fun w1=>by simp [asInt,asIntOf]
 simp [execOp,Instr.entryStore,ex,ks,dZ p5,IM,hfi,sV _ p5]
end rules
theorem nC.mid {h h':Heap} {b b':Bk} {o o':Ob} (u:nC h b o b' o' h') (b2:Bk) (o2:Ob):∃ h2,nC h b o b2 o2 h2∧nC h2 b2 o2 b' o' h':=by
 induction u with
 | here=>exact ⟨_,.here,.here⟩
 | next _ ih=>obtain ⟨h2,a,b⟩:=ih;exact ⟨_,.next a,.next b⟩
 | skip _ ih=>obtain ⟨h2,a,b⟩:=ih;exact ⟨_,.skip a,.skip b⟩
theorem Eb {w:World} {S:Nat→Prop} {hp dE:Heap} {bp:Bk} {es yA:List (Bk×PO)} (r:cY w S hp) (u:nC hp bp (.cC es) bp (.cC yA) dE) (h:es.Perm yA):cY w S dE∧lr w S hp w S dE:=by
 obtain ⟨p,q,rfl,rfl⟩:=u.split
 obtain ⟨Bu,lf⟩:bp.dp=none∧∀ e∈es,pc w S e.1 e.2:=r.holds (bp,.cC es) (bN.2 (.inl rfl))
 have Ck:∀ n,n∈eb (bp,.cC yA)↔n∈eb (bp,.cC es):=by
  intro n
  rw [xm,xm]
  constructor
  ·rintro (k | ⟨e,he,hn⟩)
   ·exact .inl k
   ·exact .inr ⟨e,h.mem_iff.2 he,hn⟩
  ·rintro (k | ⟨e,he,hn⟩)
   ·exact .inl k
   ·exact .inr ⟨e,h.mem_iff.1 he,hn⟩
 have e1:(eb (bp,.cC es)).Perm (eb (bp,.cC yA)):=by
  simp only [eb,Ob.more]
  exact cn _ (h.filterMap _)
 have IM:∀ n,Has (p++(bp,.cC yA) :: q) n→Has (p++(bp,.cC es) :: q) n:=by
  rintro n ⟨e,he,hn⟩
  rcases bN.1 he with rfl | he
  ·exact ⟨_,bN.2 (.inl rfl),(Ck n).1 hn⟩
  ·exact ⟨e,bN.2 (.inr he),hn⟩
 refine ⟨⟨?_,?_,?_,r.slt,r.ib⟩,⟨rfl,rfl,rfl,al _,fun n hn=>⟨hn,rfl⟩,fun n _ _=>⟨rfl,id⟩,fun n hn=>.inl (IM n hn),fun _=>al _⟩⟩
 ·have:=r.nodup
  rw [bG,ce] at this ⊢
  exact ((cn _ (eq _ e1)).nodup_iff).1 this
 ·intro e he
  rcases bN.1 he with rfl | he
  ·exact ⟨Bu,fun e he=>lf e (h.mem_iff.2 he)⟩
  ·exact r.holds e (bN.2 (.inr he))
 ·intro e he n hn
  rcases bN.1 he with rfl | he
  ·have:=r.sep (bp,.cC es) (bN.2 (.inl rfl)) n ((Ck n).1 hn)
   exact ⟨fun h=>(this.1 h).elim,fun h=>h.elim⟩
  ·exact r.sep e (bN.2 (.inr he)) n hn
theorem cY.same {w:World} {S:Nat→Prop} {h h':Heap} (r:cY w S h) (hp:h.Perm h'):cY w S h'∧lr w S h w S h':=
 ⟨r.perm hp,rfl,rfl,rfl,al _,fun n hn=>⟨hn,rfl⟩,fun n _ _=>⟨rfl,id⟩,fun n ⟨e,he,hn⟩=>.inl ⟨e,hp.mem_iff.2 he,hn⟩,fun _=>al _⟩
def IT (xs:List (Bk×PO)):Heap:=xs.map fun e=>(e.1,e.2.ob)
theorem yg {w:World} {S:Nat→Prop} {bp:Bk} {yA:List (Bk×PO)}:∀ (xs es:List (Bk×PO)) {hp dE:Heap},cY w S hp→nC hp bp (.cC es) bp (.cC yA) dE→es.Perm (xs++yA)→cY w S (IT xs++dE)∧lr w S hp w S (IT xs++dE)
 | [],es,hp,dE,r,u,h=>Eb r u h
 | x :: xs,es,hp,dE,r,u,h=>by
   obtain ⟨h2,u1,u2⟩:=u.mid bp (.cC (xs++yA))
   obtain ⟨r1,e1⟩:=Lf r u1 h
   obtain ⟨r2,e2⟩:=yg xs (xs++yA) r1 (.next u2) (d0 _)
   obtain ⟨r3,e3⟩:=r2.same (h':=IT (x :: xs)++dE) cH
   exact ⟨r3,(e1.trans e2).trans e3⟩
theorem zV {w:World} {S:Nat→Prop} {bp:Bk} {es:List (Bk×PO)}:∀ (xs yA:List (Bk×PO)) {vb dE:Heap},cY w S (IT xs++vb)→nC vb bp (.cC es) bp (.cC yA) dE→yA.Perm (xs++es)→cY w S dE∧lr w S (IT xs++vb) w S dE
 | [],yA,vb,dE,r,u,h=>Eb r u h.symm
 | x :: xs,yA,vb,dE,r,u,h=>by
   obtain ⟨h2,u1,u2⟩:=u.mid bp (.cC (xs++es))
   obtain ⟨r0,e0⟩:=r.same (h':=IT xs++(x.1,x.2.ob) :: vb) cH.symm
   obtain ⟨r1,e1⟩:=zV xs (xs++es) r0 (.next u1) (d0 _)
   obtain ⟨r2,e2⟩:=Nd r1 .here u2 h
   exact ⟨r2,(e0.trans e1).trans e2⟩
section ara
variable {V:Type}
def sW (kb:Bk→(Nat→Bk)→V→List (Bk×PO)) (bo:Nat→Bk) (bs:Nat→Nat→Bk):Nat→List (Option V)→List (Bk×PO)
 | _,[]=>[]
 | i,some v :: r=>kb (bo i) (bs i) v++sW kb bo bs (i+1) r
 | i,none :: r=>sW kb bo bs (i+1) r
def fV (kb:Bk→(Nat→Bk)→V→List (Bk×PO)) (bo:Nat→Bk) (bs:Nat→Nat→Bk) (M:List V):List (Bk×PO):=sW kb bo bs 0 (M.map some)
def Dr (kb:Bk→(Nat→Bk)→V→List (Bk×PO)) (bo:Nat→Bk) (bs:Nat→Nat→Bk) (M:List V) (i:Int):List (Bk×PO):=sW kb bo bs 0 ((M.map some).set i.toNat none)
variable {kb:Bk→(Nat→Bk)→V→List (Bk×PO)} {bo wq:Nat→Bk} {bs uc:Nat→Nat→Bk}
theorem vc:∀ (l:List (Option V)) (i:Nat),(∀ j v,l[j]? =some (some v)→bo (i+j)=wq (i+j)∧bs (i+j)=uc (i+j))→sW kb bo bs i l=sW kb wq uc i l
 | [],_,_=>rfl
 | some v :: r,i,h=>by
   obtain ⟨h1,h2⟩:=h 0 v rfl
   show kb (bo i) (bs i) v++sW kb bo bs (i+1) r=kb (wq i) (uc i) v++sW kb wq uc (i+1) r
   rw [show bo i=wq i from h1,show bs i=uc i from h2,vc r (i+1) (fun j v hj=>by
    have:=h (j+1) v (by simpa using hj)
    rw [show i+1+j=i+(j+1) by omega];exact this)]
 | none :: r,i,h=>vc r (i+1) (fun j v hj=>by
  have:=h (j+1) v (by simpa using hj)
  rw [show i+1+j=i+(j+1) by omega];exact this)
theorem Cn:∀ (l:List (Option V)) (i j:Nat) (v:V),l[j]? =some none→(sW kb bo bs i (l.set j (some v))).Perm (kb (bo (i+j)) (bs (i+j)) v++sW kb bo bs i l)
 | [],_,_,_,h=>by simp at h
 | o :: r,i,0,v,h=>by
   obtain rfl:o=none:=by simpa using h
   exact d0 _
 | some u :: r,i,j+1,v,h=>by
   have:=Cn r (i+1) j v (by simpa using h)
   rw [show i+1+j=i+(j+1) by omega] at this
   show (kb (bo i) (bs i) u++sW kb bo bs (i+1) (r.set j (some v))).Perm _
   refine (cn _ this).trans ?_
   show (kb (bo i) (bs i) u++(kb (bo (i+(j+1))) (bs (i+(j+1))) v++sW kb bo bs (i+1) r)).Perm (kb (bo (i+(j+1))) (bs (i+(j+1))) v++(kb (bo i) (bs i) u++sW kb bo bs (i+1) r))
   rw [← d1,← d1]
   exact eq _ dn
 | none :: r,i,j+1,v,h=>by
   have:=Cn r (i+1) j v (by simpa using h)
   rw [show i+1+j=i+(j+1) by omega] at this
   exact this
theorem Cp:∀ (l m:List (Option V)) (i:Nat),sW kb bo bs i (l++m)=sW kb bo bs i l++sW kb bo bs (i+l.length) m
 | [],m,i=>rfl
 | some v :: r,m,i=>by
   show kb (bo i) (bs i) v++sW kb bo bs (i+1) (r++m)=(kb (bo i) (bs i) v++sW kb bo bs (i+1) r)++sW kb bo bs (i+(r.length+1)) m
   rw [Cp r m (i+1),d1,show i+1+r.length=i+(r.length+1) by omega]
 | none :: r,m,i=>by
   show sW kb bo bs (i+1) (r++m)=sW kb bo bs (i+1) r++sW kb bo bs (i+(r.length+1)) m
   rw [Cp r m (i+1),show i+1+r.length=i+(r.length+1) by omega]
theorem Ec {M M':List V} {i:Int} {v v':V} {s:Nat→Bk} (h:idx M i=some v) (hM:M'=M.set i.toNat v') (hs:uc=fun j=>if j=i.toNat then s else bs j):(fV kb bo uc M').Perm (kb (bo i.toNat) s v'++Dr kb bo bs M i):=by
 obtain ⟨h0,h1,h2⟩:=eR h
 unfold fV Dr
 have hl:(M.map some)[i.toNat]? =some (some v):=by rw [ac,h2];rfl
 have ew:i.toNat < (M.map some).length:=(aL.1 hl).1
 have hn:((M.map some).set i.toNat none)[i.toNat]? =some none:=by rw [List.getElem?_set_self ew]
 have e1:M'.map some=((M.map some).set i.toNat none).set i.toNat (some v'):=by rw [hM,b3,List.set_set]
 rw [e1]
 have:=Cn (kb:=kb) (bo:=bo) (bs:=uc) ((M.map some).set i.toNat none) 0 i.toNat v' hn
 rw [b4] at this
 refine this.trans ?_
 rw [show uc i.toNat=s by rw [hs];simp]
 refine cn _ ?_
 rw [vc (wq:=bo) (uc:=bs) ((M.map some).set i.toNat none) 0 (fun j u hj=>by
  rw [b4]
  refine ⟨rfl,?_⟩
  have:j≠i.toNat:=fun e=>by rw [e,hn] at hj;simp at hj
  rw [hs];simp [this])]
theorem Ed {M:List V} {i:Int} {v:V} (h:idx M i=some v):(fV kb bo bs M).Perm (kb (bo i.toNat) (bs i.toNat) v++Dr kb bo bs M i):=
 Ec h (uC (eR h).2.2).symm (by funext j;split<;>simp_all)
theorem Ni {M:List V} {b:Bk} {s:Nat→Bk} {v:V} (h1:∀ j,j < M.length→wq j=bo j) (h2:wq M.length=b) (h3:∀ j,j < M.length→uc j=bs j) (h4:uc M.length=s):(fV kb wq uc (M++[v])).Perm (kb b s v++fV kb bo bs M):=by
 unfold fV
 rw [bX,Cp,eF,b4]
 have e1:sW kb wq uc M.length ([v].map some)=kb b s v:=by
  show kb (wq M.length) (uc M.length) v++[]=_
  rw [h2,h4,eH]
 rw [e1,vc (wq:=bo) (uc:=bs) (M.map some) 0 (fun j u hj=>by
  have:j < M.length:=by
   have:=(aL.1 hj).1
   simpa using this
  rw [b4]
  exact ⟨h1 j this,h3 j this⟩)]
 exact dn
end ara
theorem aq.Qi {n:Nat} {tm:List (Nat×AV)} {hp:Heap} {T:St→Prop} {V:Type} {kb:Bk→(Nat→Bk)→V→List (Bk×PO)} (k:∀ (bp:Bk) (bo:Nat→Bk) (bs:Nat→Nat→Bk),aq ⟨n,tm,(bp,.cC (fV kb bo bs [])) :: hp⟩ T):aq ⟨n,tm,hp⟩ T:=by
 refine aq.step (Df:=⟨n,tm,(⟨none,0⟩,.cC (fV kb (fun _=>⟨none,0⟩) (fun _ _=>⟨none,0⟩) [])) :: hp⟩) (fun w S a r=>?_) (k _ _ _)
 obtain ⟨g1,g2,g3⟩:=qL (b:=⟨none,0⟩) (o:=.cC []) r.hp (Ext.refl w) id ⟨rfl,by simp⟩ (.inl rfl)
 exact ⟨_,S,rfl,r.heap g3 g1,g2⟩
theorem aq.Qj {n:Nat} {tm:List (Nat×AV)} {hp dE:Heap} {T:St→Prop} {V:Type} {kb:Bk→(Nat→Bk)→V→List (Bk×PO)} {bo:Nat→Bk} {bs:Nat→Nat→Bk} {M:List V} {i:Int} {v:V} {bp:Bk} (h:idx M i=some v) (u:nC hp bp (.cC (fV kb bo bs M)) bp (.cC (Dr kb bo bs M i)) dE)
 (k:aq ⟨n,tm,IT (kb (bo i.toNat) (bs i.toNat) v)++dE⟩ T):aq ⟨n,tm,hp⟩ T:=by
 refine aq.step (fun w S a r=>?_) k
 obtain ⟨g1,g2⟩:=yg _ _ r.hp u (Ed h)
 exact ⟨_,S,rfl,r.heap (fun m hm=>⟨hm,rfl⟩) g1,g2⟩
theorem aq.Tj {n:Nat} {tm:List (Nat×AV)} {hp vb h0:Heap} {dE:(Nat→Nat→Bk)→Heap} {T:St→Prop} {V:Type} {kb:Bk→(Nat→Bk)→V→List (Bk×PO)} {bo:Nat→Bk} {bs:Nat→Nat→Bk} {M M':List V} {i:Int} {v v':V} {b0 bp:Bk} {s:Nat→Bk} (h:idx M i=some v) (hb:b0=bo i.toNat) (hM:M'=M.set i.toNat v') (hs:F2 hp h0 vb) (ho:h0=IT (kb b0 s v')) (u:∀ uc,nC vb bp (.cC (Dr kb bo bs M i)) bp (.cC (fV kb bo uc M')) (dE uc))
 (k:∀ uc,aq ⟨n,tm,dE uc⟩ T):aq ⟨n,tm,hp⟩ T:=by
 refine aq.step (Df:=⟨n,tm,dE (fun j=>if j=i.toNat then s else bs j)⟩) (fun w S a r=>?_) (k _)
 obtain ⟨g0,e0⟩:=r.hp.same hs.perm
 rw [ho] at g0 e0
 obtain ⟨g1,g2⟩:=zV _ _ g0 (u (fun j=>if j=i.toNat then s else bs j)) (by rw [hb];exact Ec h hM rfl)
 exact ⟨_,S,rfl,r.heap (fun m hm=>⟨hm,rfl⟩) g1,e0.trans g2⟩
theorem aq.Tk {n:Nat} {tm:List (Nat×AV)} {hp vb h0:Heap} {dE:(Nat→Bk)→(Nat→Nat→Bk)→Heap} {T:St→Prop} {V:Type} {kb:Bk→(Nat→Bk)→V→List (Bk×PO)} {bo:Nat→Bk} {bs:Nat→Nat→Bk} {M:List V} {v:V} {b bp:Bk} {s:Nat→Bk} (hs:F2 hp h0 vb) (ho:h0=IT (kb b s v)) (u:∀ wq uc,nC vb bp (.cC (fV kb bo bs M)) bp (.cC (fV kb wq uc (M++[v]))) (dE wq uc))
 (k:∀ wq uc,(∀ j,j < M.length→wq j=bo j)→wq M.length=b→aq ⟨n,tm,dE wq uc⟩ T):aq ⟨n,tm,hp⟩ T:=by
 have c1:∀ j,j < M.length→(fun j=>if j=M.length then b else bo j) j=bo j:=fun j hj=>if_neg (by omega)
 have c2:(fun j=>if j=M.length then b else bo j) M.length=b:=if_pos rfl
 refine aq.step (Df:=⟨n,tm,dE (fun j=>if j=M.length then b else bo j) (fun j=>if j=M.length then s else bs j)⟩) (fun w S a r=>?_) (k _ _ c1 c2)
 obtain ⟨g0,e0⟩:=r.hp.same hs.perm
 rw [ho] at g0 e0
 obtain ⟨g1,g2⟩:=zV _ _ g0 (u (fun j=>if j=M.length then b else bo j) (fun j=>if j=M.length then s else bs j)) (Ni c1 c2 (fun j hj=>if_neg (by omega)) (if_pos rfl))
 exact ⟨_,S,rfl,r.heap (fun m hm=>⟨hm,rfl⟩) g1,e0.trans g2⟩
theorem aq.YN {n:Nat} {tm:List (Nat×AV)} {hp dE:Heap} {T:St→Prop} {b:Bk} {o o':Ob} (he:o=o') (u:nC hp b o b o' dE) (k:aq ⟨n,tm,dE⟩ T):aq ⟨n,tm,hp⟩ T:=by
 subst he
 rw [DV u] at k
 exact k
def Tl (n:Nat) (l:List Int):Option Unit:=if ∀ x∈l,0≤x∧x < n then some () else none
theorem Nj {n:Nat} {l:List Int} {u:Unit} (h:Tl n l=some u):∀ x∈l,0≤x∧x < n:=by
 unfold Tl at h
 split at h
 ·assumption
 ·cases h
def pA (bo:Nat→Bk) (i:Int):AV:=.ptr (bo i.toNat) 0
theorem V1 {bo wq:Nat→Bk} {N:Nat} (h:∀ j,j < N→wq j=bo j) {i:Int} (hi:0≤i∧i < N):pA bo i=pA wq i:=by
 unfold pA;rw [h i.toNat (by omega)]
theorem Tm {K:Type} {gk:K→AV} {bo wq:Nat→Bk} {N:Nat} (h:∀ j,j < N→wq j=bo j) {M:List (K×Int)} {u:Unit} (hg:Tl N (M.map Prod.snd)=some u):(M.map fun e=>(gk e.1,pA bo e.2))=M.map fun e=>(gk e.1,pA wq e.2):=
 List.map_congr_left fun e he=>by rw [V1 h (Nj hg e.2 (bm.2 ⟨e,he,rfl⟩))]
theorem Tn {bo:Nat→Bk} {N:Nat} {b:Bk} (h:bo N=b) (o:Nat):AV.ptr (bo (N:Int).toNat) o=AV.ptr b o:=by
 rw [eL,h]
section rules
variable {P:Program} {all:Array Oper} {rest:List Oper} {n:Nat} {tm:List (Nat×AV)} {hp:Heap} {Q:St→Prop} {d:Nat} {ty:TypeId} {pos:String} {af:Array Edge}
theorem Cq {K:Type} [DecidableEq K] {gk:K→AV} {gv:Int→AV} {M:List (K×Int)} {key:K} {t kt vt:TypeId} {i:TypeInfo} {x y:Operand} {b:Bk} [aF P t (.map kt vt)] [aZ P vt i] [dY P kt gk] (hx:dh tm x=some (.bO b)) (hy:dh tm y=some (gk key)) (f:mb hp b (.mp (M.map fun e=>(gk e.1,gv e.2)))) (hz:i.zero=some (.pointer none)) (h:bj M key=none):
 QV P ⟨some d,.lookup t x y false,ty,pos,af,none⟩ ⟨n,tm,hp⟩ (.raw (.pointer none)):=by
 intro w S a r
 have kx:=bt (σ:=⟨n,tm,hp⟩) r hx
 have ky:=bt (σ:=⟨n,tm,hp⟩) r hy
 obtain ⟨nb,hb,ex⟩:=kx.lE
 obtain ⟨L,c,M',BB,dC,p1,p2,p3,p4,p5,p6,p7,p8⟩:=so (dY.inj P kt) r.hp f
 obtain rfl:BB=nb:=by rw [p4] at hb;exact aa hb
 rw [← jI p1 p8] at h
 have kL:=dY.find (P:=P) (t:=kt) (g:=gk) ky dC.toList (M'.map ap) (by simpa using p6.symm) (fun j k' e h1 h2=>by
  rw [ac] at h1
  cases hm:M'[j]? with
  | none=>rw [hm] at h1;cases h1
  | some q=>rw [hm] at h1;rw [← aa h1];exact (p7 j q e hm h2).1)
 rcases nF (gv:=gv) (w:=w) (S:=S) (k:=key) M' dC.toList 0 p6.symm (fun j e m h1 h2=>(p7 j e m h1 h2).2) with ⟨q1,q2⟩ | ⟨v',j,val,q1,q2,q3,_⟩
 ·refine ⟨.pointer none,fun w1 e1=>?_,.raw _⟩
  simp [execOp,Instr.lookup,ex,run_underlying (aF.h (P:=P) (t:=t)),dZ (e1.heap p5),dY.check (P:=P) (t:=kt) ky,kL,q2,zeroValue,typeInfo,aZ.h (P:=P) (t:=vt),hz]
 ·rw [q1] at h;cases h
theorem yh {K:Type} [DecidableEq K] {gk:K→AV} {gv:Int→AV} {M:List (K×Int)} {key:K} {v:Int} {t kt vt:TypeId} {i:TypeInfo} {x y:Operand} {b:Bk} [aF P t (.map kt vt)] [aZ P vt i] [dY P kt gk] (hx:dh tm x=some (.bO b)) (hy:dh tm y=some (gk key)) (f:mb hp b (.mp (M.map fun e=>(gk e.1,gv e.2)))) (h:bj M key=some v):
 QV P ⟨some d,.lookup t x y false,ty,pos,af,none⟩ ⟨n,tm,hp⟩ (gv v):=by
 intro w S a r
 have kx:=bt (σ:=⟨n,tm,hp⟩) r hx
 have ky:=bt (σ:=⟨n,tm,hp⟩) r hy
 obtain ⟨nb,hb,ex⟩:=kx.lE
 obtain ⟨L,c,M',BB,dC,p1,p2,p3,p4,p5,p6,p7,p8⟩:=so (dY.inj P kt) r.hp f
 obtain rfl:BB=nb:=by rw [p4] at hb;exact aa hb
 rw [← jI p1 p8] at h
 have kL:=dY.find (P:=P) (t:=kt) (g:=gk) ky dC.toList (M'.map ap) (by simpa using p6.symm) (fun j k' e h1 h2=>by
  rw [ac] at h1
  cases hm:M'[j]? with
  | none=>rw [hm] at h1;cases h1
  | some q=>rw [hm] at h1;rw [← aa h1];exact (p7 j q e hm h2).1)
 rcases nF (gv:=gv) (w:=w) (S:=S) (k:=key) M' dC.toList 0 p6.symm (fun j e m h1 h2=>(p7 j e m h1 h2).2) with ⟨q1,q2⟩ | ⟨v',j,val,q1,q2,q3,_⟩
 ·rw [q1] at h;cases h
 ·rw [q1] at h
  obtain rfl:=aa h
  refine ⟨val,fun w1 e1=>?_,q3⟩
  simp [execOp,Instr.lookup,ex,run_underlying (aF.h (P:=P) (t:=t)),dZ (e1.heap p5),dY.check (P:=P) (t:=kt) ky,kL,q2]
theorem IU {K:Type} [DecidableEq K] {gk:K→AV} {gv:Int→AV} {M:List (K×Int)} {key:K} {t kt vt:TypeId} {i:TypeInfo} {x y:Operand} {b:Bk} [aF P t (.map kt vt)] [aZ P vt i] [dY P kt gk] (hx:dh tm x=some (.bO b)) (hy:dh tm y=some (gk key)) (f:mb hp b (.mp (M.map fun e=>(gk e.1,gv e.2)))) (hz:i.zero=some (.pointer none)) (h:bj M key=none):
 QV P ⟨some d,.lookup t x y true,ty,pos,af,none⟩ ⟨n,tm,hp⟩ (.ma [.raw (.pointer none),.bool false]):=by
 intro w S a r
 have kx:=bt (σ:=⟨n,tm,hp⟩) r hx
 have ky:=bt (σ:=⟨n,tm,hp⟩) r hy
 obtain ⟨nb,hb,ex⟩:=kx.lE
 obtain ⟨L,c,M',BB,dC,p1,p2,p3,p4,p5,p6,p7,p8⟩:=so (dY.inj P kt) r.hp f
 obtain rfl:BB=nb:=by rw [p4] at hb;exact aa hb
 rw [← jI p1 p8] at h
 have kL:=dY.find (P:=P) (t:=kt) (g:=gk) ky dC.toList (M'.map ap) (by simpa using p6.symm) (fun j k' e h1 h2=>by
  rw [ac] at h1
  cases hm:M'[j]? with
  | none=>rw [hm] at h1;cases h1
  | some q=>rw [hm] at h1;rw [← aa h1];exact (p7 j q e hm h2).1)
 rcases nF (gv:=gv) (w:=w) (S:=S) (k:=key) M' dC.toList 0 p6.symm (fun j e m h1 h2=>(p7 j e m h1 h2).2) with ⟨q1,q2⟩ | ⟨v',j,val,q1,q2,q3,_⟩
 ·refine ⟨.tuple #[.pointer none,.bool false],fun w1 e1=>?_,.ma _ _ rfl (qJ (.raw _) (.bool _))⟩
  simp [execOp,Instr.lookup,ex,run_underlying (aF.h (P:=P) (t:=t)),dZ (e1.heap p5),dY.check (P:=P) (t:=kt) ky,kL,q2,zeroValue,typeInfo,aZ.h (P:=P) (t:=vt),hz]
 ·rw [q1] at h;cases h
theorem IV {K:Type} [DecidableEq K] {gk:K→AV} {gv:Int→AV} {M:List (K×Int)} {key:K} {v:Int} {t kt vt:TypeId} {i:TypeInfo} {x y:Operand} {b:Bk} [aF P t (.map kt vt)] [aZ P vt i] [dY P kt gk] (hx:dh tm x=some (.bO b)) (hy:dh tm y=some (gk key)) (f:mb hp b (.mp (M.map fun e=>(gk e.1,gv e.2)))) (h:bj M key=some v):
 QV P ⟨some d,.lookup t x y true,ty,pos,af,none⟩ ⟨n,tm,hp⟩ (.ma [gv v,.bool true]):=by
 intro w S a r
 have kx:=bt (σ:=⟨n,tm,hp⟩) r hx
 have ky:=bt (σ:=⟨n,tm,hp⟩) r hy
 obtain ⟨nb,hb,ex⟩:=kx.lE
 obtain ⟨L,c,M',BB,dC,p1,p2,p3,p4,p5,p6,p7,p8⟩:=so (dY.inj P kt) r.hp f
 obtain rfl:BB=nb:=by rw [p4] at hb;exact aa hb
 rw [← jI p1 p8] at h
 have kL:=dY.find (P:=P) (t:=kt) (g:=gk) ky dC.toList (M'.map ap) (by simpa using p6.symm) (fun j k' e h1 h2=>by
  rw [ac] at h1
  cases hm:M'[j]? with
  | none=>rw [hm] at h1;cases h1
  | some q=>rw [hm] at h1;rw [← aa h1];exact (p7 j q e hm h2).1)
 rcases nF (gv:=gv) (w:=w) (S:=S) (k:=key) M' dC.toList 0 p6.symm (fun j e m h1 h2=>(p7 j e m h1 h2).2) with ⟨q1,q2⟩ | ⟨v',j,val,q1,q2,q3,_⟩
 ·rw [q1] at h;cases h
 ·rw [q1] at h
  obtain rfl:=aa h
  refine ⟨.tuple #[val,.bool true],fun w1 e1=>?_,.ma _ _ rfl (qJ q3 (.bool _))⟩
  simp [execOp,Instr.lookup,ex,run_underlying (aF.h (P:=P) (t:=t)),dZ (e1.heap p5),dY.check (P:=P) (t:=kt) ky,kL,q2]
end rules
section todo
variable {P:Program} {R:St→Prop} {k:List It} {σ:St}
theorem cD {α:Type} {c:Operand} {x y:Code} {p:Prop} [Decidable p] {a b z:α} (h:(if p then a else b)=z) (hc:dh σ.tm c=some (.bool (decide p))) (h1:a=z→ab P R (.code x :: k) σ) (h2:b=z→ab P R (.code y :: k) σ):ab P R (.code (.cond c x y) :: k) σ:=
 ab.SF hc (fun hp=>h1 (rk hp h)) (fun hp=>h2 (Be hp h))
theorem cB {α:Type} {c:Operand} {x y:Code} {p:Bool} {a b z:α} (h:(if p=true then a else b)=z) (hc:dh σ.tm c=some (.bool p)) (h1:a=z→ab P R (.code x :: k) σ) (h2:b=z→ab P R (.code y :: k) σ):ab P R (.code (.cond c x y) :: k) σ:=
 ab.cond hc (fun hp=>h1 (rk hp h)) (fun hp=>h2 (tD hp h))
end todo
section rules
variable {P:Program} {all:Array Oper} {rest:List Oper} {n:Nat} {tm:List (Nat×AV)} {hp:Heap} {Q:St→Prop} {d:Nat} {ty:TypeId} {pos:String} {af:Array Edge} {op:Op} {s:Nat} {j:Nat}
theorem gT {α:Type} {p:Prop} [Decidable p] {a b z:α} (h:(if p then a else b)=z) (hj:(all[j]?).bind (·.dst)=some s) (hs:lk tm s=some (.bool (decide p))) (hn:be d n=true) (h1:a=z→ae P all (⟨some d,op,ty,pos,af,none⟩ :: rest) ⟨n,(s,.bool true) :: tm,hp⟩ Q)
 (h2:b=z→ae P all rest ⟨n,(d,.raw undef) :: (s,.bool false) :: tm,hp⟩ Q):ae P all (⟨some d,op,ty,pos,af,some (j,true)⟩ :: rest) ⟨n,tm,hp⟩ Q:=
 ae.dq hj hs hn (fun hp=>h1 (rk hp h)) (fun hp=>h2 (Be hp h))
theorem gF {α:Type} {p:Prop} [Decidable p] {a b z:α} (h:(if p then a else b)=z) (hj:(all[j]?).bind (·.dst)=some s) (hs:lk tm s=some (.bool (decide p))) (hn:be d n=true) (h1:b=z→ae P all (⟨some d,op,ty,pos,af,none⟩ :: rest) ⟨n,(s,.bool false) :: tm,hp⟩ Q)
 (h2:a=z→ae P all rest ⟨n,(d,.raw undef) :: (s,.bool true) :: tm,hp⟩ Q):ae P all (⟨some d,op,ty,pos,af,some (j,false)⟩ :: rest) ⟨n,tm,hp⟩ Q:=
 ae.ek hj hs hn (fun hp=>h1 (Be hp h)) (fun hp=>h2 (rk hp h))
end rules
theorem hP {P:Program} {σ:St} {s:Nat} {av:AV} {Q:List AV→St→Prop} (h1:lk σ.tm s=some av) (h2:Q [av] σ):aq σ (fun aS=>∃ rs,Rs P aS [.tmp s] rs∧Q rs aS):=aq.here ⟨[av],.cons (.tmp _ _ h1) .nil,h2⟩
theorem cR {hp:Heap} {l:List AV}:Av hp l l:=Av.refl _
theorem hH {P:Program} {σ:St} {s:Nat} {av:AV} {Q:List AV→Heap→Prop} {dE:Heap} (h1:lk σ.tm s=some av) (is:List Nat) (hs:Ci σ.hp is=some dE) (h2:Q [av] dE):aq σ (fun aS=>∃ rs,Rs P aS [.tmp s] rs∧(∃ h',HS aS.hp h'∧Q rs h')):=aq.here ⟨[av],.cons (.tmp _ _ h1) .nil,dE,yU hs,h2⟩
theorem hQ {P:Program} {σ:St} {s t:Nat} {av aw:AV} {Q:List AV→St→Prop} (h1:lk σ.tm s=some av) (Gb:lk σ.tm t=some aw) (h2:Q [av,aw] σ):aq σ (fun aS=>∃ rs,Rs P aS [.tmp s,.tmp t] rs∧Q rs aS):=aq.here ⟨[av,aw],.cons (.tmp _ _ h1) (.cons (.tmp _ _ Gb) .nil),h2⟩
theorem hI {P:Program} {σ:St} {s t:Nat} {av aw:AV} {Q:List AV→Heap→Prop} {dE:Heap} (h1:lk σ.tm s=some av) (Gb:lk σ.tm t=some aw) (is:List Nat) (hs:Ci σ.hp is=some dE) (h2:Q [av,aw] dE):aq σ (fun aS=>∃ rs,Rs P aS [.tmp s,.tmp t] rs∧(∃ h',HS aS.hp h'∧Q rs h')):=aq.here ⟨[av,aw],.cons (.tmp _ _ h1) (.cons (.tmp _ _ Gb) .nil),dE,yU hs,h2⟩
end Go.Eng
namespace Go.Eng
open Go
end Go.Eng
namespace Go.Eng
open Go
variable [ck]
inductive CD:Type 1 where
 | v (a:AV)
 | l {α:Type} (sz:Nat) (g:α→AV) (xs:List α)
def Nk (s:Nat→Bk):Nat→List CD→List AV
 | _,[]=>[]
 | k,.v a :: r=>a :: Nk s k r
 | k,.l sz _ xs :: r=>.sl sz (s k) 0 xs.length :: Nk s (k+1) r
def Tp (s:Nat→Bk):Nat→List CD→List (Bk×PO)
 | _,[]=>[]
 | k,.v _ :: r=>Tp s k r
 | k,.l sz g xs :: r=>(s k,.arr sz (xs.map g)) :: Tp s (k+1) r
def Qk:List CD→List AV
 | []=>[]
 | .v a :: r=>a :: Qk r
 | .l sz g xs :: r=>.list sz (xs.map g) :: Qk r
theorem IW (s:Nat→Bk):∀ (k:Nat) (D:List CD),(Nk s k D).length=(Qk D).length
 | _,[]=>rfl
 | k,.v a :: r=>congrArg (· +1) (IW s k r)
 | k,.l sz g xs :: r=>congrArg (· +1) (IW s (k+1) r)
structure KB {V:Type} (kb:Bk→(Nat→Bk)→V→List (Bk×PO)) (fs:V→List AV):Prop where
 ok:∃ D:V→List CD,(∀ b s v,kb b s v=(b,.cells (Nk s 0 (D v))) :: Tp s 0 (D v))∧∀ v,fs v=Qk (D v)
theorem yi {b:Bk} {o:Ob}:∀ {h:Heap},(b,o)∈h→mb h b o
 | [],h=>by simp at h
 | e :: r,h=>by
   rcases eX.1 h with rfl | h
   ·exact .here
   ·exact .next (yi h)
theorem IX {s:Nat→Bk} {hp:Heap}:∀ (D:List CD) (k:Nat),(∀ e∈Tp s k D,mb hp e.1 e.2.ob)→∀ (i:Nat) c c',(Nk s k D)[i]? =some c→(Qk D)[i]? =some c'→ku hp c c'
 | [],_,_,i,c,c',h,_=>by simp [Nk] at h
 | .v a :: r,k,hf,i,c,c',h,h'=>by
   match i with
   | 0=>
     simp only [Nk,Qk,eY,d2] at h h'
     subst h;subst h';exact .co (.refl _)
   | i+1=>exact IX r k (fun e he=>hf e (by simpa [Tp] using he)) i c c' (by simpa [Nk] using h) (by simpa [Qk] using h')
 | .l sz g xs :: r,k,hf,i,c,c',h,h'=>by
   match i with
   | 0=>
     simp only [Nk,Qk,eY,d2] at h h'
     subst h;subst h'
     exact .arr sz (s k) _ _ (hf (s k,.arr sz (xs.map g)) (by simp [Tp])) (by simp)
   | i+1=>exact IX r (k+1) (fun e he=>hf e (by simp only [Tp,eX];exact .inr he)) i c c' (by simpa [Nk] using h) (by simpa [Qk] using h')
theorem Ql {e:Bk×PO} {l:List (Bk×PO)} (h:e∈l):(e.1,e.2.ob)∈IT l:=bm.2 ⟨e,h,rfl⟩
theorem KB.cob {V:Type} {kb:Bk→(Nat→Bk)→V→List (Bk×PO)} {fs:V→List AV} (K:KB kb fs) (b:Bk) (s:Nat→Bk) (v:V) (dE:Heap):ku (IT (kb b s v)++dE) (.ptr b 0) (.cw (fs v)):=by
 obtain ⟨D,h1,h2⟩:=K.ok
 rw [h2]
 refine .box b (Nk s 0 (D v)) _ (yi (bP _ ?_)) (IW s 0 (D v)).symm (IX (D v) 0 fun e he=>yi (bP _ (Ql ?_)))
 ·rw [h1];exact cy ..
 ·rw [h1];exact bW _ he
def Ds:List (Bk×PO)→Heap→Option Heap
 | [],r=>some r
 | (b,.cells cs) :: l,r=>match Ds l r with
   | some m=>some ((b,.cells cs) :: m)
   | none=>none
 | (b,.arr sz xs) :: l,r=>match Ds l r with
   | some m=>some ((b,.arr sz xs) :: m)
   | none=>none
theorem yY:∀ {l:List (Bk×PO)} {r m:Heap},Ds l r=some m→IT l++r=m
 | [],r,m,h=>aa h
 | (b,.cells cs) :: l,r,m,h=>by
   unfold Ds at h
   split at h
   ·rename_i m' hm
    obtain rfl:=aa h
    rw [← yY hm];rfl
   ·cases h
 | (b,.arr sz xs) :: l,r,m,h=>by
   unfold Ds at h
   split at h
   ·rename_i m' hm
    obtain rfl:=aa h
    rw [← yY hm];rfl
   ·cases h
theorem GY {l:List (Bk×PO)} {m:Heap} (h:Ds l []=some m):m=IT l:=by rw [← yY h,eH]
section view
variable {V:Type} {kb:Bk→(Nat→Bk)→V→List (Bk×PO)} {fs:V→List AV} {bo:Nat→Bk} {bs:Nat→Nat→Bk} {M:List V} {i:Int} {v:V} {hp dE Ps:Heap} {b bp:Bk}
theorem GZ {w:World} {S:Nat→Prop} (r:cY w S hp) (h:idx M i=some v) (u:nC hp bp (.cC (fV kb bo bs M)) bp (.cC (Dr kb bo bs M i)) dE):cY w S (IT (kb (bo i.toNat) (bs i.toNat) v)++dE)∧∀ n,Has (IT (kb (bo i.toNat) (bs i.toNat) v)++dE) n→Has hp n:=by
 obtain ⟨r1,e1⟩:=yg _ _ r u (Ed h)
 refine ⟨r1,fun n hn=>?_⟩
 rcases e1.new n hn with h | h
 ·exact h
 ·have:=r1.lt hn;omega
theorem QV.ara {P:Program} {o:Oper} {n:Nat} {tm:List (Nat×AV)} {av:AV} (h:idx M i=some v) (u:nC hp bp (.cC (fV kb bo bs M)) bp (.cC (Dr kb bo bs M i)) dE) (e:Ds (kb (bo i.toNat) (bs i.toNat) v) dE=some Ps) (q:QV P o ⟨n,tm,Ps⟩ av):QV P o ⟨n,tm,hp⟩ av:=by
 intro w S a r
 have:=yY e
 subst this
 exact q w S a ⟨r.size,r.defers,r.tm,(GZ r.hp h u).1⟩
theorem Qm {o:Ob} {hp:Heap} (f:mb hp b o) (o':Ob):∃ dE,nC hp b o b o' dE:=by
 induction f with
 | here=>exact ⟨_,.here⟩
 | next _ ih=>obtain ⟨h,u⟩:=ih;exact ⟨_,.next u⟩
 | skip _ ih=>obtain ⟨h,u⟩:=ih;exact ⟨_,.skip u⟩
theorem ku.YO (K:KB kb fs) (h:idx M i=some v) (f:mb hp bp (.cC (fV kb bo bs M))):ku hp (pA bo i) (.cw (fs v)):=by
 obtain ⟨dE,u⟩:=Qm f (.cC (Dr kb bo bs M i))
 refine .JF fun w S x r at_=>?_
 obtain ⟨r1,r2⟩:=GZ r h u
 exact ((K.cob (bo i.toNat) (bs i.toNat) v dE).at r1 at_).mono fun m hm=>⟨hm.imp id (r2 m),rfl⟩
theorem ku.AI (K:KB kb fs) (h:idx M i=some v) (f:mb hp bp (.cC (fV kb bo bs M))):ku hp (.ptr (bo i.toNat) 0) (.cw (fs v)):=ku.YO K h f
end view
theorem aq.Nl {n:Nat} {tm:List (Nat×AV)} {hp dE Ps:Heap} {T:St→Prop} {V:Type} {kb:Bk→(Nat→Bk)→V→List (Bk×PO)} {bo:Nat→Bk} {bs:Nat→Nat→Bk} {M:List V} {i:Int} {v:V} {bp:Bk} (h:idx M i=some v) (u:nC hp bp (.cC (fV kb bo bs M)) bp (.cC (Dr kb bo bs M i)) dE) (e:Ds (kb (bo i.toNat) (bs i.toNat) v) dE=some Ps)
 (k:aq ⟨n,tm,Ps⟩ T):aq ⟨n,tm,hp⟩ T:=aq.Qj h u (by rw [yY e];exact k)
theorem aq.Qn {n:Nat} {tm:List (Nat×AV)} {hp vb h0:Heap} {dE:(Nat→Nat→Bk)→Heap} {T:St→Prop} {V:Type} {kb:Bk→(Nat→Bk)→V→List (Bk×PO)} {bo:Nat→Bk} {bs:Nat→Nat→Bk} {M:List V} {i:Int} {v v':V} {bp:Bk} {s:Nat→Bk} (h:idx M i=some v) (hs:F2 hp h0 vb) (ho:Ds (kb (bo i.toNat) s v') []=some h0) (u:∀ uc,nC vb bp (.cC (Dr kb bo bs M i)) bp (.cC (fV kb bo uc (M.set i.toNat v'))) (dE uc))
 (k:∀ uc,aq ⟨n,tm,dE uc⟩ T):aq ⟨n,tm,hp⟩ T:=aq.Tj h rfl rfl hs (GY ho) u k
theorem aq.Qo {n:Nat} {tm:List (Nat×AV)} {hp vb h0:Heap} {dE:(Nat→Bk)→(Nat→Nat→Bk)→Heap} {T:St→Prop} {V:Type} {kb:Bk→(Nat→Bk)→V→List (Bk×PO)} {bo:Nat→Bk} {bs:Nat→Nat→Bk} {M:List V} {v:V} {b bp:Bk} {s:Nat→Bk} (hs:F2 hp h0 vb) (ho:Ds (kb b s v) []=some h0) (u:∀ wq uc,nC vb bp (.cC (fV kb bo bs M)) bp (.cC (fV kb wq uc (M++[v]))) (dE wq uc))
 (k:∀ wq uc,(∀ j,j < M.length→wq j=bo j)→wq M.length=b→aq ⟨n,tm,dE wq uc⟩ T):aq ⟨n,tm,hp⟩ T:=aq.Tk hs (GY ho) u k
theorem Qp {α:Type} (M:List α) (v:α):idx (M++[v]) (M.length:Int)=some v:=by
 unfold idx
 rw [if_pos (Int.natCast_nonneg _),eL,List.getElem?_append_right (al _),Nat.sub_self];rfl
theorem Nn {bo:Nat→Bk} {N:Nat} {b:Bk} (h:bo N=b) (o:Nat):AV.ptr (bo ((N:Nat):Int).toNat) o=AV.ptr b o:=Tn h o
theorem V2 {K:Type} {gk:K→AV} {bo wq:Nat→Bk} {N:Nat} (h:∀ j,j < N→wq j=bo j) {M:List (K×Int)} {u:Unit} (hg:Tl N (M.map Prod.snd)=some u):Ob.mp (M.map fun e=>(gk e.1,pA bo e.2))=Ob.mp (M.map fun e=>(gk e.1,pA wq e.2)):=congrArg Ob.mp (Tm h hg)
def nbk (l:List Bk) (k:Nat):Bk:=l.getD k ⟨none,0⟩
end Go.Eng
namespace Go.Eng
open Go Go.Sort Go.Proofs
variable [ck]
end Go.Eng
namespace Go.Eng
open Go
variable [ck]
def No (cs:List AV):List Nat→List (Nat×AV)→List (Nat×AV)
 | [],tm=>tm
 | s :: r,tm=>(s,.cw cs) :: No cs r tm
theorem JY {cs:List AV} {tm:List (Nat×AV)} {t:Nat} {av:AV}:∀ {ss:List Nat},lk (No cs ss tm) t=some av→(t∈ss∧av=.cw cs)∨lk tm t=some av
 | [],h=>.inr h
 | s :: r,h=>by
   simp only [No,lk] at h
   split at h
   ·rename_i hb
    obtain rfl:s=t:=by simpa using hb
    exact .inl ⟨by simp,(aa h).symm⟩
   ·rcases JY h with ⟨h1,h2⟩ | h1
    ·exact .inl ⟨bW _ h1,h2⟩
    ·exact .inr h1
theorem aq.Fg {n:Nat} {ss:List Nat} {tm:List (Nat×AV)} {hp vb:Heap} {T:St→Prop} {b:Bk} {cs:List AV} (hs:∀ s∈ss,lk tm s=some (.ptr b 0)) (dl:xA hp b (.cells cs) vb) (k:aq ⟨n,No cs ss tm,vb⟩ T):aq ⟨n,tm,hp⟩ T:=by
 refine aq.step (Df:=⟨n,No cs ss tm,vb⟩) (fun w S a r=>?_) k
 obtain ⟨p,q,rfl,rfl⟩:=dl.split
 have og:(b,Ob.cells cs)∈p++(b,.cells cs) :: q:=bN.2 (.inl rfl)
 obtain ⟨h1,m0,vs,E,Bu,hh,lp,ha⟩:=r.hp.holds _ og
 have Io:∀ m,b.dp=some m→m < w.heap.size:=fun m hm=>r.hp.lt ⟨_,og,gO hm⟩
 let S':Nat→Prop:=fun m=>S m∨b.dp=some m
 have mono:∀ m,S m→S' m∧w.heap[m]? =w.heap[m]?:=fun m hm=>⟨.inl hm,rfl⟩
 have vy:=r.hp.nodup
 have pj:(p++q).Sublist (p++(b,Ob.cells cs) :: q):=b8 (b9 _) (ca _ _)
 have u5:cY w S' (p++q):=by
  refine ⟨vy.sublist (tz pj),fun e he=>(r.hp.holds e (pj.subset he)).mono mono (fun _ _=>rfl),fun e he m hm=>?_,fun m hm=>?_,fun g o ho=>⟨.inl (r.hp.ib g o ho).1,(r.hp.ib g o ho).2⟩⟩
  ·rw [← r.hp.sep e (pj.subset he) m hm]
   refine ⟨fun hs=>hs.elim id fun hb=>?_,.inl⟩
   exfalso
   rw [bG,ce,a7,a7] at vy
   rcases bv.1 he with h | h
   ·exact vy.2.2 m (bk.2 ⟨e,h,hm⟩) m (bP _ (gO hb)) rfl
   ·exact vy.2.1.2.2 m (gO hb) m (bk.2 ⟨e,h,hm⟩) rfl
  ·rcases hm with h | h
   ·exact r.hp.slt m h
   ·exact Io m h
 have hr:=r.heap mono u5
 refine ⟨_,S',rfl,⟨hr.size,hr.defers,fun t av h=>?_,hr.hp⟩,rfl,rfl,rfl,al _,mono,fun m hm hh=>⟨rfl,fun hs=>hs.elim id fun hb=>(hh ⟨_,og,gO hb⟩).elim⟩,fun m hm=>.inl ?_,fun _=>al _⟩
 ·rcases JY h with ⟨ht,rfl⟩ | h
  ·obtain ⟨v,e1,e2⟩:=hr.tm t _ (hs t ht)
   cases e2 with
   | ptr _ _ m hb=>
     obtain rfl:=aa (hb.symm.trans Bu)
     refine ⟨_,e1,.cw cs ⟨m,0,none⟩ vs.toList (by simp [lp]) (fun i c v hc hv=>(ha i c v hc (by simpa using hv)).mono mono) rfl (.inr hb) (fun i v hv=>?_)⟩
     rw [mR hh];simpa using hv
  ·exact hr.tm t av h
 ·obtain ⟨e,he,hb⟩:=hm
  exact ⟨e,pj.subset he,hb⟩
def pQ (bo:Nat→Bk):Option Int→AV
 | none=>.raw (.pointer none)
 | some i=>pA bo i
def rn {K:Type} (M:List (K×Int)):List (K×Option Int):=M.map fun e=>(e.1,some e.2)
theorem Ee {K:Type} {gk:K→AV} (bo:Nat→Bk) (M:List (K×Int)):((rn M).map fun e=>(gk e.1,pQ bo e.2))=M.map fun e=>(gk e.1,pA bo e.2):=by
 unfold rn;rw [cA];rfl
theorem Ef {K:Type} [DecidableEq K] (k:K):∀ (M:List (K×Int)),nU (rn M) k none=some (bj M k)
 | []=>rfl
 | e :: M=>by
   have ih:=Ef k M
   unfold nU rn at ih ⊢
   rw [bU]
   unfold bj
   by_cases h:e.1=k
   ·rw [if_pos h,if_pos h];rfl
   ·rw [if_neg h,if_neg h];exact ih
theorem Cr {K:Type} [DecidableEq K] [vM K] (k:K) (v:Int):∀ (M:List (K×Int)),yS k (some v) (rn M)=rn (yS k v M)
 | []=>rfl
 | e :: M=>by
   have ih:=Cr k v M
   unfold rn at ih ⊢
   rw [bU]
   unfold yS
   by_cases h:vM.lt e.1 k=true
   ·rw [if_pos h,if_pos h,bU,ih]
   ·rw [if_neg h,if_neg h,bU,bU]
theorem IY {K:Type} [DecidableEq K] [vM K] (M:List (K×Int)) (k:K) (v:Int):dX (rn M) k (some v)=rn (dX M k v):=by
 unfold dX
 rw [← Cr]
 congr 1
 unfold rQ rn
 rw [List.filter_map];rfl
section rules
variable {P:Program} {all:Array Oper} {rest:List Oper} {n:Nat} {tm:List (Nat×AV)} {hp:Heap} {Q:St→Prop} {d:Nat} {ty:TypeId} {pos:String} {af:Array Edge}
theorem G0 {K:Type} [DecidableEq K] [vM K] {gk:K→AV} {bo:Nat→Bk} {M:List (K×Int)} {key:K} {q:Nat} {t kt vt:TypeId} {i:TypeInfo} {z:Value} {x y:Operand} {b:Bk} {dE:Heap} [aF P t (.map kt vt)] [aZ P vt i] [dY P kt gk] (hx:dh tm x=some (.bO b)) (hy:dh tm y=some (gk key)) (hz:i.zero=some z) (L3:zE z=.raw (.pointer none))
 (u:nC hp b (.EN (M.map fun e=>(gk e.1,pA bo e.2)) q (gk key)) b (.EN ((dX (rn M) key (bj M key)).map fun e=>(gk e.1,pQ bo e.2)) q (gk key)) dE) (hn:be d n=true)
 (kk:ae P all rest ⟨n,(d,.ma [pQ bo (bj M key),.int .i64 (q:Int)]) :: tm,dE⟩ Q):ae P all (⟨some d,.mapEntry t x y,ty,pos,af,none⟩ :: rest) ⟨n,tm,hp⟩ Q:=by
 rw [← Ee bo M] at u
 exact Cm (gk:=gk) (gv:=pQ bo) (M:=rn M) (key:=key) (Z:=none) (v:=bj M key) hx hy hz L3 (by rw [L3];rfl) (Ef key M) u hn kk
theorem Dt {K:Type} [DecidableEq K] [vM K] {gk:K→AV} {bo:Nat→Bk} {M:List (K×Int)} {key:K} {q:Nat} {v':Int} {t kt:TypeId} {x s y:Operand} {b:Bk} {av:AV} {dE:Heap} [dY P kt gk] (hx:dh tm x=some (.bO b)) (hs:dh tm s=some (.int .i64 (q:Int))) (hy:dh tm y=some av) (pa:av=pA bo v')
 (u:nC hp b (.EN ((dX (rn M) key (bj M key)).map fun e=>(gk e.1,pQ bo e.2)) q (gk key)) b (.mp ((dX M key v').map fun e=>(gk e.1,pA bo e.2))) dE)
 (kk:ae P all rest ⟨n,tm,dE⟩ Q):ae P all (⟨none,.entryStore t x s y,ty,pos,af,none⟩ :: rest) ⟨n,tm,hp⟩ Q:=by
 rw [← Ee bo (dX M key v'),← IY] at u
 exact yX (gk:=gk) (gv:=pQ bo) (M:=rn M) (key:=key) (v:=bj M key) (v':=some v') (t:=t) (kt:=kt) hx hs hy pa u kk
end rules
end Go.Eng
namespace Go.Eng
open Go Go.Proofs
def UN (es:List (AV×AV)):World→(Nat→Prop)→Value→Prop:=fun w S v=>∃ n b,v=.map (some n)∧S n∧b.dp=some n∧∃ L c,(L.map oY.kv).Perm es∧tX w S b L c
def Eg {K V:Type} (gk:K→AV) (gv:V→AV) (M:List (K×V)):AV:=.JF (UN (M.map fun e=>(gk e.1,gv e.2)))
variable [ck]
theorem Np (es:List (AV×AV)) (w w':World) (S S':Nat→Prop) (v:Value) (hs:∀ n,S n→S' n∧w'.heap[n]? =w.heap[n]?) (h:UN es w S v):UN es w' S' v:=by
 obtain ⟨n,b,h1,h2,h3,L,c,h4,h5⟩:=h
 refine ⟨n,b,h1,(hs n h2).1,h3,L,c,h4,h5.mono hs (fun m hm=>?_)⟩
 obtain rfl:m=n:=aa (hm.symm.trans h3)
 exact (hs m h2).2
theorem Qq (es:List (AV×AV)) (w:World) (S:Nat→Prop) (v:Value) (h:UN es w S v):v.oneCell'=true:=by
 obtain ⟨n,b,rfl,_⟩:=h;rfl
theorem At.fm {K V:Type} {gk:K→AV} {gv:V→AV} {M:List (K×V)} {w:World} {S:Nat→Prop} {v:Value} (h:UN (M.map fun e=>(gk e.1,gv e.2)) w S v):At w S (Eg gk gv M) v:=.JF _ _ (Np _) (Qq _) h
theorem At.Tq {K V:Type} {gk:K→AV} {gv:V→AV} {M:List (K×V)} {w:World} {S:Nat→Prop} {v:Value} (h:At w S (Eg gk gv M) v):UN (M.map fun e=>(gk e.1,gv e.2)) w S v:=by
 unfold Eg at h
 cases h with
 | JF _ _ _ _ h=>exact h
theorem ku.fm {K V:Type} {gk:K→AV} {gv:V→AV} {M:List (K×V)} {hp:Heap} {b:Bk} (f:mb hp b (.mp (M.map fun e=>(gk e.1,gv e.2)))):ku hp (.bO b) (Eg gk gv M):=by
 refine .JF fun w S v r h=>?_
 obtain ⟨n,hb,rfl⟩:=h.lE
 obtain ⟨L,c,h1,h2⟩:=r.holds _ f.mem
 exact .fm ⟨n,b,rfl,.inr ⟨_,f.mem,gO hb⟩,hb,L,c,h1,h2.mono (fun m hm=>⟨.inl hm,rfl⟩) (fun _ _=>rfl)⟩
theorem JZ {K V:Type} {gk:K→AV} {gv:V→AV} {w:World} {S:Nat→Prop} {M:List (K×V)} {v:Value} (P7:∀ a b,gk a=gk b→a=b) (h:At w S (Eg gk gv M) v):
 ∃ (M':List (K×V)) (n c:Nat) (dC:Array MapEntry),v=.map (some n)∧M'.Perm M∧w.heap[n]? =some (.map dC c)∧dC.toList.length=M'.length∧
   (∀ (i:Nat) e m,M'[i]? =some e→dC.toList[i]? =some m→At w S (gk e.1) m.key∧At w S (gv e.2) m.val)∧(M'.map ap).Nodup:=by
 obtain ⟨n0,b,e0,hS,hb,L,c,mB,hH⟩:=h.Tq
 obtain ⟨M',h1,h2⟩:=sn _ _ _ mB
 obtain ⟨n,dC,g1,g2,g3,g4,g5,g6,g7⟩:=hH
 obtain rfl:n=n0:=aa (g1.symm.trans hb)
 have hlen:L.length=M'.length:=by have:=congrArg cf h2;simpa using this
 refine ⟨M',n,c,dC,e0,h1,g2,by rw [cz,g3,hlen],fun i e m he hm=>?_,?_⟩
 ·have:(L.map oY.kv)[i]? =some (gk e.1,gv e.2):=by rw [h2,ac,he];rfl
  rw [ac] at this
  cases hL:L[i]? with
  | none=>rw [hL] at this;cases this
  | some x=>
    rw [hL] at this
    have hx:(x.k,x.v)=(gk e.1,gv e.2):=aa this
    obtain ⟨q1,q2⟩:=ci hx
    have:=g4 i x m hL (by simpa using hm)
    rw [q1,q2] at this
    exact this.2
 ·have hk:L.map (·.k)=(M'.map ap).map gk:=by
   have:=congrArg (List.map ap) h2
   simpa [cA,d7,oY.kv] using this
  rw [hk] at g7
  exact (d8.1 g7).imp (fun h e=>h (by rw [e]))
section rules
variable {P:Program} {all:Array Oper} {rest:List Oper} {n:Nat} {tm:List (Nat×AV)} {hp:Heap} {Q:St→Prop} {d:Nat} {ty:TypeId} {pos:String} {af:Array Edge}
theorem Eh {K V:Type} [DecidableEq K] {gk:K→AV} {gv:V→AV} {M:List (K×V)} {key:K} {Z v:V} {t kt vt:TypeId} {i:TypeInfo} {z:Value} {x y:Operand} {av:AV} [aF P t (.map kt vt)] [aZ P vt i] [dY P kt gk] (hx:dh tm x=some (Eg gk gv M)) (hy:dh tm y=some (gk key)) (hz:i.zero=some z) (L3:zE z=gv Z) (h1:jq (zE z).cells=true) (h:nU M key Z=some v) (pa:gv v=av):
 QV P ⟨some d,.lookup t x y false,ty,pos,af,none⟩ ⟨n,tm,hp⟩ av:=by
 intro w S a r
 have kx:=bt (σ:=⟨n,tm,hp⟩) r hx
 have ky:=bt (σ:=⟨n,tm,hp⟩) r hy
 obtain ⟨M',nb,c,dC,ex,p1,p5,p6,p7,p8⟩:=JZ (dY.inj P kt) kx
 unfold nU at h
 have hv:=aa h
 rw [← jI p1 p8] at hv
 have kL:=dY.find (P:=P) (t:=kt) (g:=gk) ky dC.toList (M'.map ap) (by simpa using p6.symm) (fun j k' e h1 h2=>by
  rw [ac] at h1
  cases hm:M'[j]? with
  | none=>rw [hm] at h1;cases h1
  | some q=>rw [hm] at h1;rw [← aa h1];exact (p7 j q e hm h2).1)
 rcases nF (gv:=gv) (w:=w) (S:=S) (k:=key) M' dC.toList 0 p6.symm (fun j e m h1 h2=>(p7 j e m h1 h2).2) with ⟨q1,q2⟩ | ⟨v',j,val,q1,q2,q3,_⟩
 ·refine ⟨z,fun w1 e1=>?_,?_⟩
  ·simp [execOp,Instr.lookup,ex,run_underlying (aF.h (P:=P) (t:=t)),dZ (e1.heap p5),dY.check (P:=P) (t:=kt) ky,kL,q2,zeroValue,typeInfo,aZ.h (P:=P) (t:=vt),hz]
  ·rw [← pa,← hv,q1,c8,← L3];exact Ch w S z h1
 ·refine ⟨val,fun w1 e1=>?_,?_⟩
  ·simp [execOp,Instr.lookup,ex,run_underlying (aF.h (P:=P) (t:=t)),dZ (e1.heap p5),dY.check (P:=P) (t:=kt) ky,kL,q2]
  ·rw [← pa,← hv,q1,ej];exact q3
end rules
end Go.Eng
namespace Go.Eng
open Go Go.Sort Go.Proofs
variable [ck]
theorem Nq {P:Program} {T:Type} {g:T→AV} {f:FuncId} {k:Nat} (K:GL P f k) (Fa:be 0 k=true) {gf:FuncId} [cq P gf] {C:List AV} {fn:T→T→Option Int} (P0:∀ {x y:T} {u:Int},fn x y=some u→@Pu nB P gf (g x :: g y :: C) (I u))
 (MY:∀ x,g x=.agg (g x).cells) {Xs Ys:List T} {b:Bk} (h:Ce fn Xs=some Ys) {w:World} {S S1:Nat→Prop} {v0 v1:Value} (XC:∀ n,S n→S1 n) (V3:∀ n,S1 n→n < w.heap.size) (Bv:∀ n,b.dp=some n→¬ S1 n)
 (r:cY w S [(b,.arr k (Xs.map g))]) (a0:At w S (.sl k b 0 Xs.length) v0) (a1:At w S1 (.func (.func gf) C) v1):
 Calls P f #[v0,v1] w (fun e w'=>e=.returned (.tuple #[])∧cY w' S [(b,.arr k (Ys.map g))]∧lr w S [(b,.arr k (Xs.map g))] w' S [(b,.arr k (Ys.map g))]∧∀ n,n < w.heap.size→b.dp≠some n→w'.heap[n]? =w.heap[n]?):=by
 have Fa:0 < k:=b5 (d3 (b6 Fa)) (al _)
 obtain ⟨oa,cap,rfl,e2⟩:=a0.x4
 obtain ⟨cv,rfl,yF,YE⟩:=a1.BT
 match Xs,h with
 | [],h=>
   obtain rfl:=aa h
   refine (K.none_ oa cap _ w).mono ?_
   rintro e w' ⟨rfl,rfl⟩
   exact ⟨rfl,r,lr.refl _ _ _,fun _ _ _=>rfl⟩
 | x :: xr,h=>
   rw [ye] at h
   by_cases hc:(xr.length+1 < 4611686018427387904∧(∀ a∈x :: xr,∀ b∈x :: xr,∃ u,fn a b=some u)∧SWO (ltOf (tt fn x xr)))
   ·rw [if_pos hc] at h
    obtain rfl:=aa h
    obtain ⟨hlen,SV,hO⟩:=hc
    obtain ⟨h0,h1,h2⟩:=r.holds _ (a6.2 rfl)
    simp only [eF,e5] at h1
    rcases h2 with ⟨_,SY⟩ | ⟨m,row,E,hb,Ca,lp,pX⟩
    ·have VJ:b.cap=0:=SY
     omega
    rcases e2 with ⟨hn,_,_,_,_⟩ | ⟨m',Ar,rfl,hle,YF⟩ | ⟨m',ad,_,_,YG,_⟩
    ·rw [hn] at hb;cases hb
    ·obtain rfl:m'=m:=by rw [Ar] at hb;exact aa hb
     have SZ:m' < w.heap.size:=by
      rcases eg m' w.heap.size with h | h
      ·exact h
      ·simp [Array.getElem?_eq_none h] at Ca
     have nS:¬ S m':=fun hs=>by have:=(r.sep _ (a6.2 rfl) m' (gO hb)).1 hs;exact this
     let ix:Nat→Nat:=fun i=>if i < xr.length+1 then i else 0
     have GM:∀ i,ix i < xr.length+1:=fun i=>by simp only [ix];split<;>omega
     have S3:∀ i,(x :: xr)[ix i]? =some (r7 x xr i):=by
      intro i
      simp only [ix,r7,List.getD_eq_getElem?_getD]
      split
      ·rename_i hi
       rw [ai (by simpa using hi)];simp
      ·rename_i hi
       rw [List.getElem?_eq_none (l:=x :: xr) (i:=i) (by simp;omega)];simp
     have Yp:(xr.length+1) * k≤row.size:=by rw [lp];exact e6 k h1
     let enc:Nat→List Value:=fun i=>(row.toList.drop (ix i * k)).take k
     have Fb:∀ i,(enc i).length=k:=by
      intro i
      have:ix i * k+k≤row.size:=by
       have:=e6 k (show ix i+1≤xr.length+1 from GM i)
       rw [Nat.add_mul,Nat.one_mul] at this
       omega
      simp only [enc,List.length_take,List.length_drop,cz];omega
     have MZ:∀ i j,j < k→(enc i)[j]? =row[ix i * k+j]?:=by
      intro i j hj
      simp only [enc,List.getElem?_take,if_pos hj,List.getElem?_drop,e7]
     have GD:∀ i j,j < k→(flat ((x :: xr).map g))[ix i * k+j]? =(g (r7 x xr i)).cells[j]?:=by
      intro i j hj
      exact oe h0 (by rw [ac,S3 i];rfl) j hj
     have yF:∀ i,(g (r7 x xr i)).cells.length=k:=fun i=>(h0 _ (bm.2 ⟨_,iy x xr i,rfl⟩)).1
     have vJ:∀ i,∀ c∈(g (r7 x xr i)).cells,c.one=true:=fun i=>(h0 _ (bm.2 ⟨_,iy x xr i,rfl⟩)).2
     have IH:∀ i,pY w S (g (r7 x xr i)).cells (enc i).toArray:=by
      intro i j c v hc hv
      have hj:j < k:=by rw [← yF i];exact (aL.1 hc).1
      refine pX (ix i * k+j) c v (by rw [GD i j hj];exact hc) ?_
      rw [← MZ i j hj]
      simpa using hv
     have S4:∀ i,∀ v∈enc i,v.oneCell'=true:=by
      intro i v hv
      obtain ⟨j,hj,rfl⟩:=d5 hv
      have VK:j < k:=by rw [Fb i] at hj;exact hj
      have VL:j < (g (r7 x xr i)).cells.length:=by rw [yF i];exact VK
      exact (IH i j (g (r7 x xr i)).cells[j] (enc i)[j] (by simp [VL]) (by simp [hj])).Ik (vJ i _ (bx VL))
     have tE:∀ (d:Array Nat) (t:Nat),t < d.size * k→(flatK enc k d)[t]! =(enc d[t / k]!)[t % k]!:=fun d t ht=>get_flatK enc k d t ht
     have M1:HoldsK enc k w m' 0 (bi (xr.length+1)):=by
      intro j hj
      rw [size_flatK,e8] at hj
      have hdiv:j / k < xr.length+1:=(e9 Fa).2 hj
      have Fc:j % k < k:=cp _ Fa
      have P1:j < row.size:=by omega
      have e1:(flatK enc k (bi (xr.length+1)))[j]! =row[j]:=by
       rw [tE _ _ (by simpa using hj)]
       have:(bi (xr.length+1))[j / k]! =j / k:=by
        rw [getElem!_pos _ _ (by simpa using hdiv)];simp
       rw [this]
       have hv:=MZ (j / k) (j % k) Fc
       have:ix (j / k)=j / k:=by simp only [ix];rw [if_pos hdiv]
       rw [this,fb] at hv
       rw [a8 P1] at hv
       rw [List.getElem!_eq_getElem?_getD,hv];rfl
      constructor
      ·simp only [World.cell?,Ca,id,e1,b4,Option.isSome_none,bz,if_false]
       rw [a8 P1]
      ·simp [World.frozen?,Ca]
     have S5:CmpLays P gf cv enc k (tt fn x xr) m' 0 (bi (xr.length+1)).size w:=by
      intro mm os dk hdk i j
      obtain ⟨u,hu⟩:=SV _ (iy x xr i) _ (iy x xr j)
      have hW1:∀ n,S1 n→S1 n∧(sortWorldK enc k w m' 0 mm dk os).heap[n]? =w.heap[n]?:=fun n hs=>
       ⟨hs,oL enc k w m' 0 mm dk os (V3 n hs) (fun e=>Bv m' hb (e▸hs))⟩
      have hW:∀ n,S n→S1 n∧(sortWorldK enc k w m' 0 mm dk os).heap[n]? =w.heap[n]?:=fun n hs=>hW1 n (XC n hs)
      have JT:pY (sortWorldK enc k w m' 0 mm dk os) S1 (g (r7 x xr i) :: g (r7 x xr j) :: C) (#[.agg (enc i).toArray,.agg (enc j).toArray]++cv):=by
       intro q c v hc hv
       have ag:∀ i,At (sortWorldK enc k w m' 0 mm dk os) S1 (g (r7 x xr i)) (.agg (enc i).toArray):=fun i=>by
        rw [MY (r7 x xr i)]
        exact .agg _ _ (by rw [yF i];simp [Fb i]) (fun a c v hc hv=>((IH i) a c v hc hv).mono hW)
       match q with
       | 0=>
         rw [fc (by simp)] at hv
         simp at hc hv;subst hc;subst hv;exact ag i
       | 1=>
         rw [fc (by simp)] at hv
         simp at hc hv;subst hc;subst hv;exact ag j
       | q+2=>
         simp only [List.getElem?_cons_succ] at hc
         rw [Array.getElem?_append_right (by simp)] at hv
         simp only [List.size_toArray,e5,List.length_nil,Nat.add_sub_cancel] at hv
         exact (YE q c v hc (by simpa using hv)).mono hW1
      refine (P0 hu _ S1 _ (@uy nB _ _ (fun n hn=>b5 (V3 n hn) (va _ _ _ _ _ _ _ _)) (fun g o ho=>⟨XC _ (r.ib g o ho).1,BR (hW g (r.ib g o ho).1).2 (r.ib g o ho).2⟩)) (by simp [yF,‹C.length=cv.size›];omega) JT).mono ?_
      rintro e w' ⟨v,rr,h',S',rfl,hq,h3,h4,h5⟩
      obtain rfl:=hq
      rw [h3.ez]
      refine ⟨?_,@Ext.grown nB _ _ trivial (@lr.Gn nB _ _ _ _ _ h5)⟩
      unfold tt
      rw [hu];rfl
     have L2:(bi (xr.length+1)).size=xr.length+1:=e8
     have GN:=K.some_ enc Fb S4 (tt fn x xr) hO gf cv m' 0 cap (bi (xr.length+1)) w (fun args w=>sj gf args w) S5 M1 SZ (by rw [L2];exact hlen)
     rw [L2] at GN
     simp only [Nat.zero_mul]
     refine GN.mono ?_
     rintro e w' ⟨rfl,q,os,rfl⟩
     have P2:=pdq_sorts (ltOf (tt fn x xr)) hO (bi (xr.length+1)) 0 (xr.length+1) (Lib.bitLen (xr.length+1)) true true (Nat.zero_le _) (by rw [L2];exact al _) (Or.inl rfl)
     generalize ub:pdq (ltOf (tt fn x xr)) (bi (xr.length+1)) 0 (xr.length+1) (Lib.bitLen (xr.length+1)) true true=d' at P2 ⊢
     have Fe:d'.size=xr.length+1:=by rw [P2.1.1,L2]
     have hW:∀ n,S n→S n∧(sortWorldK enc k w m' 0 q d' os).heap[n]? =w.heap[n]?:=fun n hs=>
      ⟨hs,oL enc k w m' 0 q d' os (r.slt n hs) (fun e=>nS (e▸hs))⟩
     have RU:∀ y∈(d'.toList.map (r7 x xr)).map g,El k y:=by
      intro y hy
      simp only [bm] at hy
      obtain ⟨z,⟨i,_,rfl⟩,rfl⟩:=hy
      exact h0 _ (bm.2 ⟨_,iy x xr i,rfl⟩)
     have hh:Go.Eng.Holds (sortWorldK enc k w m' 0 q d' os) S b (.arr k ((d'.toList.map (r7 x xr)).map g)):=by
      refine ⟨RU,by simp [Fe];omega,.inr ⟨m',_,E,hb,D5 enc k w m' q d' os Ca,by simp [putCells,lp],?_⟩⟩
      intro j c v hc hv
      have zK:j < (xr.length+1) * k:=by
       have:=(aL.1 hc).1
       rw [dP RU] at this
       simpa [Fe] using this
      have hdiv:j / k < xr.length+1:=(e9 Fa).2 zK
      have Fc:j % k < k:=cp _ Fa
      have P1:j < row.size:=by omega
      have UJ:(d'.toList.map (r7 x xr))[j / k]? =some (r7 x xr d'[j / k]!):=by
       rw [ac,e7,a8 (by omega),getElem!_pos d' (j / k) (by omega)];rfl
      have uZ:(g (r7 x xr d'[j / k]!)).cells[j % k]? =some c:=by
       rw [← oe (sz:=k) RU (i:=j / k) (x:=g (r7 x xr d'[j / k]!)) (by rw [ac,UJ];rfl) (j % k) Fc,fb]
       exact hc
      have UK:(enc d'[j / k]!)[j % k]? =some v:=by
       simp only [putCells,Array.getElem?_mapIdx,a8 P1,bu,d2] at hv
       rw [if_pos ⟨Nat.zero_le _,by rw [size_flatK,Fe];omega⟩,Nat.sub_zero,tE d' j (by rw [Fe];exact zK)] at hv
       have ew:j % k < (enc d'[j / k]!).length:=by rw [Fb];exact Fc
       rw [ai ew,← hv]
       simp only [id,getElem!_pos (enc d'[j / k]!) (j % k) ew]
      exact (IH _ _ _ _ uZ (by simpa using UK)).mono hW
     have M3:=va enc k w m' 0 q d' os
     refine ⟨rfl,⟨r.nodup,fun e he=>by rw [a6] at he;subst he;exact hh,fun e he n hn=>?_,fun n hn=>b5 (r.slt n hn) M3,fun g o ho=>⟨(r.ib g o ho).1,BR (hW g (r.ib g o ho).1).2 (r.ib g o ho).2⟩⟩,?_,fun n hn Aq=>oL enc k w m' 0 q d' os hn (fun e=>Aq (by rw [e];exact hb))⟩
     ·rw [a6] at he;subst he
      replace hn:=(vZ rfl).1 hn
      rw [hb] at hn
      obtain rfl:=aa hn
      exact ⟨fun hs=>(nS hs).elim,fun hf=>hf.elim⟩
     ·refine ⟨rfl,rfl,rfl,M3,hW,fun n hn YH=>⟨oL enc k w m' 0 q d' os hn (fun e=>YH ⟨_,a6.2 rfl,by rw [e];exact gO hb⟩),id⟩,?_,?_⟩
      ·rintro n ⟨e,he,tY⟩
       rw [a6] at he;subst he
       exact .inl ⟨_,a6.2 rfl,tY⟩
      ·intro _
       show w.drawn≤(sortWorldK enc k w m' 0 q d' os).drawn
       show w.drawn≤w.drawn+q
       omega
    ·simp at YG
   ·rw [if_neg hc] at h;cases h
def IZ (P:Program) (f:FuncId) (l:List AV) (h0 H:Heap) (V:AV):Prop:=
 ∀ (w:World) (S S1:Nat→Prop) (vs:Array Value),(∀ n,S n→S1 n)→(∀ n,S1 n→n < w.heap.size)→(∀ n,Has h0 n→¬ S1 n)→cY w S h0→l.length=vs.size→pY w S1 l vs→
   Calls P f vs w (fun e w'=>∃ v,e=.returned v∧At w' S V v∧cY w' S H∧lr w S h0 w' S H∧∀ n,n < w.heap.size→¬ Has h0 n→w'.heap[n]? =w.heap[n]?)
theorem G1 {P:Program} {T:Type} {g:T→AV} {f:FuncId} {k:Nat} (K:GL P f k) (Fa:be 0 k=true) {gf:FuncId} [cq P gf] {C:List AV} {fn:T→T→Option Int} (P0:∀ {x y:T} {u:Int},fn x y=some u→@Pu nB P gf (g x :: g y :: C) (I u))
 (MY:∀ x,g x=.agg (g x).cells) {Xs Ys:List T} {b:Bk} (h:Ce fn Xs=some Ys):IZ P f [.sl k b 0 Xs.length,.func (.func gf) C] [(b,.arr k (Xs.map g))] [(b,.arr k (Ys.map g))] (.ma []):=by
 intro w S S1 vs XC ew Dp r hl ha
 obtain ⟨v0,v1,rfl⟩:∃ v0 v1,vs=#[v0,v1]:=by
  match vs,hl with
  | ⟨[v0,v1]⟩,_=>exact ⟨v0,v1,rfl⟩
 have a0:=ha 0 _ v0 rfl rfl
 have a1:=ha 1 _ v1 rfl rfl
 have a0':At w S (.sl k b 0 Xs.length) v0:=by
  generalize hx:AV.sl k b 0 Xs.length=x at a0 ⊢
  cases a0 with
  | sl sz b off len n cap hb h1 h2=>exact .sl sz b off len n cap hb h1 h2
  | A7 sz b hb=>exact .A7 sz b hb
  | Pq sz b off n ad hb=>exact .Pq sz b off n ad hb
  | _=>cases hx
 refine (Nq (g:=g) (fn:=fn) K Fa P0 MY h XC ew (fun n hn=>Dp n ⟨_,a6.2 rfl,gO hn⟩) r a0' a1).mono ?_
 rintro e w' ⟨rfl,h1,h2,h3⟩
 exact ⟨_,rfl,.ma [] #[] rfl (fun i c v hc=>by simp at hc),h1,h2,fun n hn hh=>h3 n hn (fun hb=>hh ⟨_,a6.2 rfl,gO hb⟩)⟩
section rules
variable {P:Program} {all:Array Oper} {rest:List Oper} {n:Nat} {tm:List (Nat×AV)} {hp:Heap} {Q:St→Prop} {d:Nat} {ty:TypeId} {pos:String} {af:Array Edge}
theorem Qr {f:FuncId} {args:List Operand} {ts:Array TypeId} {l l':List AV} {b0:Bk} {XD:Nat} {YP:List AV} {hr H H':Heap} {V:AV} [cq P f] (hl:A8 tm args=some l) (c:IZ P f l' [(b0,.arr XD YP)] H V) (hs:F2 hp [(b0,.arr XD YP)] hr) (co:sP hr l l') (ha:sk H hr=some H') (hn:be d n=true)
 (kk:ae P all rest ⟨n,(d,V) :: tm,H'⟩ Q):ae P all (⟨some d,.call {callee:=.value (.func f),args:=args.toArray,argTypes:=ts},ty,pos,af,none⟩ :: rest) ⟨n,tm,hp⟩ Q:=by
 rw [← pg ha] at kk
 have hs:=hs.perm
 generalize Xz:[(b0,Ob.arr XD YP)]=h0 at c hs
 refine ae.Gd rfl fun w S a r=>⟨f,_,mH a w,?_⟩
 obtain ⟨g1,g2⟩:=sO (σ:=⟨n,tm,hp⟩) r hl
 have rp:=r.hp.perm hs
 have IJ:cY w S hr:=rp.sub (List.sublist_append_right _ _)
 have M5:cY w S h0:=rp.sub (List.sublist_append_left _ _)
 obtain ⟨g3,g4⟩:=sP.at IJ co g1 g2
 have IK:∀ m,Has h0 m→¬ Has hr m:=by
  rintro m ⟨x,hx,xL⟩ ⟨y,hy,VN⟩
  have:=rp.nodup
  rw [bG,a7] at this
  exact this.2.2 m (bk.2 ⟨x,hx,xL⟩) m (bk.2 ⟨y,hy,VN⟩) rfl
 have Nc:¬ ∃ m,Has h0 m∧S m:=by
  rintro ⟨m,⟨e,he,hm⟩,hS⟩
  have h1:=(M5.sep e he m hm).1 hS
  rw [← Xz,a6] at he
  subst he;exact h1
 refine (c w S (SB S hr) _ (fun m hm=>.inl hm) (fun m hm=>hm.elim (r.hp.slt m) (fun h=>IJ.lt h)) (fun m hm hh=>hh.elim (fun h=>Nc ⟨m,hm,h⟩) (IK m hm)) M5 (by simpa using g3) g4).mono ?_
 rintro e w' ⟨v,rfl,h3,h4,h5,h6⟩
 have Pb:∀ m,S m→S m∧w'.heap[m]? =w.heap[m]?:=h5.lz
 have Nr:∀ m,Has hr m→w'.heap[m]? =w.heap[m]?:=fun m hm=>h6 m (IJ.lt hm) (fun h=>IK m h hm)
 have u5:cY w' S (H++hr):=by
  refine ⟨?_,?_,?_,h4.slt,h4.ib⟩
  ·rw [bG,a7]
   refine ⟨h4.nodup,IJ.nodup,fun x hx y hy Ip=>?_⟩
   subst Ip
   obtain ⟨e1,Vf,Bv⟩:=bk.1 hx
   obtain ⟨e2,LZ,Lc⟩:=bk.1 hy
   rcases h5.new x ⟨e1,Vf,Bv⟩ with h | h
   ·exact IK x h ⟨e2,LZ,Lc⟩
   ·have:=IJ.lt ⟨e2,LZ,Lc⟩;omega
  ·intro e he
   rcases bv.1 he with he | he
   ·exact h4.holds e he
   ·exact (IJ.holds e he).mono Pb (fun m hm=>Nr m ⟨e,he,hm⟩)
  ·intro e he m hm
   rcases bv.1 he with he | he
   ·exact h4.sep e he m hm
   ·exact IJ.sep e he m hm
 have GO:∀ m,Has hp m↔Has h0 m∨Has hr m:=by
  intro m
  constructor
  ·rintro ⟨x,hx,hb⟩
   rcases bv.1 (hs.mem_iff.1 hx) with h | h
   ·exact .inl ⟨x,h,hb⟩
   ·exact .inr ⟨x,h,hb⟩
  ·rintro (⟨x,hx,hb⟩ | ⟨x,hx,hb⟩)
   ·exact ⟨x,hs.mem_iff.2 (bP _ hx),hb⟩
   ·exact ⟨x,hs.mem_iff.2 (List.mem_append_right _ hx),hb⟩
 refine ⟨v,S,⟨n,(d,V) :: tm,H++hr⟩,rfl,(r.heap Pb u5).put hn h3,?_,kk⟩
 refine ⟨h5.os,h5.tape,h5.output,h5.size,Pb,fun m hm hh=>⟨h6 m hm (fun h=>hh ((GO m).2 (.inl h))),id⟩,fun m hm=>?_,h5.drawn⟩
 obtain ⟨e,he,hb⟩:=hm
 rcases bv.1 he with he | he
 ·rcases h5.new m ⟨e,he,hb⟩ with h | h
  ·exact .inl ((GO m).2 (.inl h))
  ·exact .inr h
 ·exact .inl ((GO m).2 (.inr ⟨e,he,hb⟩))
end rules
end Go.Eng
namespace Go.Eng
open Go Go.Proofs
variable [ck]
end Go.Eng
namespace Go.Eng
open Go
variable [ck]
end Go.Eng
namespace Go.Eng
open Go Go.Proofs
variable [ck]
def Ns (av:AV):List Nat→List (Nat×AV)→List (Nat×AV)
 | [],tm=>tm
 | s :: r,tm=>(s,av) :: Ns av r tm
theorem J0 {a:AV} {tm:List (Nat×AV)} {t:Nat} {av:AV}:∀ {ss:List Nat},lk (Ns a ss tm) t=some av→(t∈ss∧av=a)∨lk tm t=some av
 | [],h=>.inr h
 | s :: r,h=>by
   simp only [Ns,lk] at h
   split at h
   ·rename_i hb
    obtain rfl:s=t:=by simpa using hb
    exact .inl ⟨by simp,(aa h).symm⟩
   ·rcases J0 h with ⟨h1,h2⟩ | h1
    ·exact .inl ⟨bW _ h1,h2⟩
    ·exact .inr h1
theorem aq.Tr {K V:Type} {gk:K→AV} {gv:V→AV} {M:List (K×V)} {n:Nat} {ss:List Nat} {tm:List (Nat×AV)} {hp vb:Heap} {T:St→Prop} {b:Bk} (hs:∀ s∈ss,lk tm s=some (.bO b)) (dl:xA hp b (.mp (M.map fun e=>(gk e.1,gv e.2))) vb) (k:aq ⟨n,Ns (Eg gk gv M) ss tm,vb⟩ T):aq ⟨n,tm,hp⟩ T:=by
 refine aq.step (Df:=⟨n,Ns (Eg gk gv M) ss tm,vb⟩) (fun w S a r=>?_) k
 obtain ⟨p,q,rfl,rfl⟩:=dl.split
 have og:(b,Ob.mp (M.map fun e=>(gk e.1,gv e.2)))∈p++(b,.mp (M.map fun e=>(gk e.1,gv e.2))) :: q:=bN.2 (.inl rfl)
 obtain ⟨L,c,h1,h2⟩:=r.hp.holds _ og
 have Io:∀ m,b.dp=some m→m < w.heap.size:=fun m hm=>r.hp.lt ⟨_,og,gO hm⟩
 let S':Nat→Prop:=fun m=>S m∨b.dp=some m
 have mono:∀ m,S m→S' m∧w.heap[m]? =w.heap[m]?:=fun m hm=>⟨.inl hm,rfl⟩
 have vy:=r.hp.nodup
 have pj:(p++q).Sublist (p++(b,Ob.mp (M.map fun e=>(gk e.1,gv e.2))) :: q):=b8 (b9 _) (ca _ _)
 have u5:cY w S' (p++q):=by
  refine ⟨vy.sublist (tz pj),fun e he=>(r.hp.holds e (pj.subset he)).mono mono (fun _ _=>rfl),fun e he m hm=>?_,fun m hm=>?_,fun g o ho=>⟨.inl (r.hp.ib g o ho).1,(r.hp.ib g o ho).2⟩⟩
  ·rw [← r.hp.sep e (pj.subset he) m hm]
   refine ⟨fun hs=>hs.elim id fun hb=>?_,.inl⟩
   exfalso
   rw [bG,ce,a7,a7] at vy
   rcases bv.1 he with h | h
   ·exact vy.2.2 m (bk.2 ⟨e,h,hm⟩) m (bP _ (gO hb)) rfl
   ·exact vy.2.1.2.2 m (gO hb) m (bk.2 ⟨e,h,hm⟩) rfl
  ·rcases hm with h | h
   ·exact r.hp.slt m h
   ·exact Io m h
 have hr:=r.heap mono u5
 refine ⟨_,S',rfl,⟨hr.size,hr.defers,fun t av h=>?_,hr.hp⟩,rfl,rfl,rfl,al _,mono,fun m hm hh=>⟨rfl,fun hs=>hs.elim id fun hb=>(hh ⟨_,og,gO hb⟩).elim⟩,fun m hm=>.inl ?_,fun _=>al _⟩
 ·rcases J0 h with ⟨ht,rfl⟩ | h
  ·obtain ⟨v,e1,e2⟩:=hr.tm t _ (hs t ht)
   obtain ⟨m,hb,rfl⟩:=e2.lE
   exact ⟨_,e1,.fm ⟨m,b,rfl,.inr hb,hb,L,c,h1,h2.mono mono (fun _ _=>rfl)⟩⟩
  ·exact hr.tm t av h
 ·obtain ⟨e,he,hb⟩:=hm
  exact ⟨e,pj.subset he,hb⟩
theorem ku.V4 {hp:Heap} {cs jP:List AV} (k:sP hp cs jP):ku hp (.cw cs) (.cw jP):=.JF fun w S v r h=>by
 cases h with
 | cw _ ad vs hl h hs hS hm=>
   refine .cw jP ad vs (by rw [k.each.1,hl]) (fun i c v hc hv=>?_) hs (.inl hS) hm
   have hi:i < cs.length:=by rw [← k.each.1];exact (aL.1 hc).1
   exact (k.each.2 i cs[i] c (ai hi) hc).at r (h i _ _ (ai hi) hv)
section rules
variable {P:Program} {all:Array Oper} {rest:List Oper} {n:Nat} {tm:List (Nat×AV)} {hp:Heap} {Q:St→Prop} {d:Nat} {ty:TypeId} {pos:String} {af:Array Edge}
theorem I0 {K V:Type} [DecidableEq K] {gk:K→AV} {gv:V→AV} {M:List (K×V)} {key:K} {t kt vt:TypeId} {i:TypeInfo} {x y:Operand} {b:Bk} [aF P t (.map kt vt)] [aZ P vt i] [dY P kt gk] (hx:dh tm x=some (.bO b)) (hy:dh tm y=some (gk key)) (f:mb hp b (.mp (M.map fun e=>(gk e.1,gv e.2)))) (hz:i.zero=some (.map none)) (h:bj M key=none):
 QV P ⟨some d,.lookup t x y true,ty,pos,af,none⟩ ⟨n,tm,hp⟩ (.ma [.raw (.map none),.bool false]):=by
 intro w S a r
 have kx:=bt (σ:=⟨n,tm,hp⟩) r hx
 have ky:=bt (σ:=⟨n,tm,hp⟩) r hy
 obtain ⟨nb,hb,ex⟩:=kx.lE
 obtain ⟨L,c,M',BB,dC,p1,p2,p3,p4,p5,p6,p7,p8⟩:=so (dY.inj P kt) r.hp f
 obtain rfl:BB=nb:=by rw [p4] at hb;exact aa hb
 rw [← jI p1 p8] at h
 have kL:=dY.find (P:=P) (t:=kt) (g:=gk) ky dC.toList (M'.map ap) (by simpa using p6.symm) (fun j k' e h1 h2=>by
  rw [ac] at h1
  cases hm:M'[j]? with
  | none=>rw [hm] at h1;cases h1
  | some q=>rw [hm] at h1;rw [← aa h1];exact (p7 j q e hm h2).1)
 rcases nF (gv:=gv) (w:=w) (S:=S) (k:=key) M' dC.toList 0 p6.symm (fun j e m h1 h2=>(p7 j e m h1 h2).2) with ⟨q1,q2⟩ | ⟨v',j,val,q1,q2,q3,_⟩
 ·refine ⟨.tuple #[.map none,.bool false],fun w1 e1=>?_,.ma _ _ rfl (qJ (.raw _) (.bool _))⟩
  simp [execOp,Instr.lookup,ex,run_underlying (aF.h (P:=P) (t:=t)),dZ (e1.heap p5),dY.check (P:=P) (t:=kt) ky,kL,q2,zeroValue,typeInfo,aZ.h (P:=P) (t:=vt),hz]
 ·rw [q1] at h;cases h
theorem I1 {K V:Type} [DecidableEq K] {gk:K→AV} {gv:V→AV} {M:List (K×V)} {key:K} {v:V} {t kt vt:TypeId} {i:TypeInfo} {x y:Operand} {b:Bk} [aF P t (.map kt vt)] [aZ P vt i] [dY P kt gk] (hx:dh tm x=some (.bO b)) (hy:dh tm y=some (gk key)) (f:mb hp b (.mp (M.map fun e=>(gk e.1,gv e.2)))) (h:bj M key=some v):
 QV P ⟨some d,.lookup t x y true,ty,pos,af,none⟩ ⟨n,tm,hp⟩ (.ma [gv v,.bool true]):=by
 intro w S a r
 have kx:=bt (σ:=⟨n,tm,hp⟩) r hx
 have ky:=bt (σ:=⟨n,tm,hp⟩) r hy
 obtain ⟨nb,hb,ex⟩:=kx.lE
 obtain ⟨L,c,M',BB,dC,p1,p2,p3,p4,p5,p6,p7,p8⟩:=so (dY.inj P kt) r.hp f
 obtain rfl:BB=nb:=by rw [p4] at hb;exact aa hb
 rw [← jI p1 p8] at h
 have kL:=dY.find (P:=P) (t:=kt) (g:=gk) ky dC.toList (M'.map ap) (by simpa using p6.symm) (fun j k' e h1 h2=>by
  rw [ac] at h1
  cases hm:M'[j]? with
  | none=>rw [hm] at h1;cases h1
  | some q=>rw [hm] at h1;rw [← aa h1];exact (p7 j q e hm h2).1)
 rcases nF (gv:=gv) (w:=w) (S:=S) (k:=key) M' dC.toList 0 p6.symm (fun j e m h1 h2=>(p7 j e m h1 h2).2) with ⟨q1,q2⟩ | ⟨v',j,val,q1,q2,q3,_⟩
 ·rw [q1] at h;cases h
 ·rw [q1] at h
  obtain rfl:=aa h
  refine ⟨.tuple #[val,.bool true],fun w1 e1=>?_,.ma _ _ rfl (qJ q3 (.bool _))⟩
  simp [execOp,Instr.lookup,ex,run_underlying (aF.h (P:=P) (t:=t)),dZ (e1.heap p5),dY.check (P:=P) (t:=kt) ky,kL,q2]
theorem I2 {K V:Type} [DecidableEq K] {gk:K→AV} {gv:V→AV} {M:List (K×V)} {key:K} {Z:V} {v:V×Bool} {t kt vt:TypeId} {i:TypeInfo} {z:Value} {x y:Operand} {av:AV} [aF P t (.map kt vt)] [aZ P vt i] [dY P kt gk] (hx:dh tm x=some (Eg gk gv M)) (hy:dh tm y=some (gk key)) (hz:i.zero=some z) (L3:zE z=gv Z) (h1:jq (zE z).cells=true) (h:sU M key Z=some v) (pa:gv v.1=av):
 QV P ⟨some d,.lookup t x y true,ty,pos,af,none⟩ ⟨n,tm,hp⟩ (.ma [av,.bool v.2]):=by
 intro w S a r
 have kx:=bt (σ:=⟨n,tm,hp⟩) r hx
 have ky:=bt (σ:=⟨n,tm,hp⟩) r hy
 obtain ⟨M',nb,c,dC,ex,p1,p5,p6,p7,p8⟩:=JZ (dY.inj P kt) kx
 unfold sU at h
 have hv:=aa h
 rw [← jI p1 p8] at hv
 have kL:=dY.find (P:=P) (t:=kt) (g:=gk) ky dC.toList (M'.map ap) (by simpa using p6.symm) (fun j k' e h1 h2=>by
  rw [ac] at h1
  cases hm:M'[j]? with
  | none=>rw [hm] at h1;cases h1
  | some q=>rw [hm] at h1;rw [← aa h1];exact (p7 j q e hm h2).1)
 rcases nF (gv:=gv) (w:=w) (S:=S) (k:=key) M' dC.toList 0 p6.symm (fun j e m h1 h2=>(p7 j e m h1 h2).2) with ⟨q1,q2⟩ | ⟨v',j,val,q1,q2,q3,_⟩
 ·refine ⟨.tuple #[z,.bool false],fun w1 e1=>?_,?_⟩
  ·simp [execOp,Instr.lookup,ex,run_underlying (aF.h (P:=P) (t:=t)),dZ (e1.heap p5),dY.check (P:=P) (t:=kt) ky,kL,q2,zeroValue,typeInfo,aZ.h (P:=P) (t:=vt),hz]
  ·rw [← pa,← hv,q1]
   refine .ma _ _ rfl (qJ ?_ (.bool _))
   rw [c8,← L3];exact Ch w S z h1
 ·refine ⟨.tuple #[val,.bool true],fun w1 e1=>?_,?_⟩
  ·simp [execOp,Instr.lookup,ex,run_underlying (aF.h (P:=P) (t:=t)),dZ (e1.heap p5),dY.check (P:=P) (t:=kt) ky,kL,q2]
  ·rw [← pa,← hv,q1]
   exact .ma _ _ rfl (qJ q3 (.bool _))
end rules
end Go.Eng
