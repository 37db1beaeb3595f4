/- The engine: abstract values, the symbolic heap, one rule for each operation. No program in sight. -/
import Derived.Test.YtodkphmmhgkodaaGreatDoorEngE
import Derived.Shelf.SlSortCmp.NoneTotal
import Derived.Lib.Case
import Derived.Lib.Overlaps
import Derived.Lib.AppendZeros
set_option linter.unusedVariables false
set_option linter.unusedSectionVars false
namespace Go.Eng
open Go
variable [bM]
section rules
variable {P:Program} {all:Array Oper} {n:Nat} {B:Heap} {tk:List Tok} {dy:List Nat} {i:Nat} {rest:List Oper} {tm:List (Nat×AV)} {acc:(Nat→Bk)→List (Nat×AV)} {Q:(Nat→Bk)→List (Nat×AV)→Prop} {d:Nat} {ty:TypeId} {pos:String} {af:Array Edge} {op:Op}
theorem AT.Zc {av:AV} (hr:∀ β,uE tk i β=[[]]) (Ke:∀ β,tE tk i β=[]) (Hv:∀ β,jW tk i β=[])
 (q:∀ β,QV P ⟨some d,op,ty,pos,af,none⟩ ⟨n,DV (looks all ⟨some d,op,ty,pos,af,none⟩) (tm++acc β),B⟩ av) (hn:Nat.blt d n=true)
 (k:AT P all n B tk dy (i+1) rest ((d,av) :: tm) acc Q):AT P all n B tk dy i (⟨some d,op,ty,pos,af,none⟩ :: rest) tm acc Q:=by
 refine AT.Uy rfl (fun β X hX=>?_) k
 rw [hr β] at hX
 obtain rfl:=List.mem_singleton.1 hX
 rw [List.nil_append,Ke β,show (fun b=>jW tk i (oU β i b))=fun _=>[] from funext fun b=>Hv _,← Db]
 refine Bz (fun d' Az=>by obtain rfl:=Option.some.inj Az;simpa using hn) rfl (fun w S a s1 s2 s3 s4 K Q' hK=>?_)
 obtain ⟨v,g1,g2⟩:=q β w S a (o8 s1 s2 s3 s4)
 show Oper.upon P _ a K Q' _
 rw [g1 w (Ext.refl w)]
 exact hK v w S (Grow.refl s3.slt) g2
end rules
end Go.Eng
namespace Go.Eng
open Go Go.Proofs Go.Shelf Go.Lib
variable {P:Program} [bM]
end Go.Eng
namespace Go.Eng
open Go
variable [bM]
section rules
variable {P:Program} {all:Array Oper} {rest:List Oper} {n:Nat} {tm:List (Nat×AV)} {hp:Heap} {Q:List (Nat×AV)→Prop} {d1 d2 j s x:Nat} {t1 t2:TypeId} {p1 p2:String} {a1 a2:Array Edge} {a b:Bool}
end rules
section rules
variable {P:Program} {all:Array Oper} {rest:List Oper} {n:Nat} {tm:List (Nat×AV)} {hp:Heap} {Q:St→Prop} {d:Nat} {ty:TypeId} {pos:String} {af:Array Edge}
end rules
theorem aj.drop {n:Nat} {tm:List (Nat×AV)} {hp re:Heap} {T:St→Prop} {b:Bk} {o:Ob} (dl:w7 hp b o re) (k:aj ⟨n,tm,re⟩ T):aj ⟨n,tm,hp⟩ T:=by
 have hs:re.Sublist hp:=by
  obtain ⟨p,q,rfl,rfl⟩:=dl.split
  exact List.Sublist.append (List.Sublist.refl _) (List.sublist_cons_self _ _)
 exact aj.step (Aq:=⟨n,tm,re⟩) (fun w S a r=>⟨_,S,rfl,r.less ⟨rfl,fun _ _ h=>h,hs⟩,k9.less (k9.refl w S hp) fun _ hn=>hn.sub hs⟩) k
section rules
variable {P:Program} {all:Array Oper} {rest:List Oper} {n:Nat} {tm:List (Nat×AV)} {hp:Heap} {Q:St→Prop} {d:Nat} {ty:TypeId} {pos:String} {af:Array Edge}
end rules
section rules
variable {P:Program} {all:Array Oper} {rest:List Oper} {n:Nat} {tm:List (Nat×AV)} {hp:Heap} {Q:St→Prop} {d:Nat} {ty:TypeId} {pos:String} {af:Array Edge}
end rules
def S8:AV→Bool
 | .int _ _=>true
 | .bool _=>true
 | .str _=>true
 | _=>false
theorem O7 {w:World} {S:Nat→Prop} {a:AV} {v u:Value} (h:S8 a=true) (hv:At w S a v) (hu:At w S a u):v=u∧∀ n,Instr.sameBits n v v=true:=by
 cases a<;>simp only [S8,Bool.false_eq_true] at h
 ·rw [hv.eG,hu.eG];exact ⟨rfl,fun n=>by cases n<;>simp [Instr.sameBits]⟩
 ·rw [hv.ln,hu.ln];exact ⟨rfl,fun n=>by cases n<;>simp [Instr.sameBits]⟩
 ·rw [hv.gQ,hu.gQ]
  refine ⟨rfl,fun n=>?_⟩
  cases n<;>(simp only [Instr.sameBits];exact (GL _ _).2 rfl)
theorem yv {α:Type} (p:α×α→Bool):∀ (l:List α),(∀ x∈l,p (x,x)=true)→(l.zip l).all p=true
 | [],_=>rfl
 | x :: r,h=>by
   rw [List.zip_cons_cons,List.all_cons,h x List.mem_cons_self,yv p r (fun y hy=>h y (List.mem_cons_of_mem _ hy))];rfl
theorem MQ {w:World} {S:Nat→Prop} {cs:List AV} {v u:Value} (h:∀ c∈cs,S8 c=true) (hv:At w S (.agg cs) v) (hu:At w S (.agg cs) u):Instr.sameBits 10000 v u=true:=by
 obtain ⟨vs,rfl,hl,ha⟩:=hv.nQ
 obtain ⟨us,rfl,x4,D5⟩:=hu.nQ
 have key:∀ (i:Nat) (h1:i < vs.size) (h2:i < us.size),vs[i]=us[i]∧∀ n,Instr.sameBits n vs[i] vs[i]=true:=fun i h1 h2=>by
  have hc:cs[i]? =some (cs[i]'(by omega)):=by simp [show i < cs.length by omega]
  exact O7 (h _ (List.getElem_mem _)) (ha i _ _ hc (by simp [h1])) (D5 i _ _ hc (by simp [h2]))
 have heq:vs=us:=Array.ext (by omega) (fun i h1 h2=>(key i h1 h2).1)
 subst heq
 have g:∀ n:Nat,Instr.sameBits (n+1) (.agg vs) (.agg vs)=true:=fun n=>by
  simp only [Instr.sameBits,beq_self_eq_true,Bool.true_and]
  refine yv _ _ (fun x hx=>?_)
  obtain ⟨i,hi,rfl⟩:=List.getElem_of_mem hx
  simpa using (key i (by simpa using hi) (by simpa using hi)).2 n
 exact g 9999
def Qk (D:TypeDesc):Bool:=match D with
 | .int _=>true
 | .bool=>true
 | .string=>true
 | _=>false
theorem RD {P:Program} {t:TypeId} {D:TypeDesc} (hu:P.underlying t=some D) (hD:Qk D=true) (b:Bool) (n:Nat) (v:Value) (w:World):(Instr.checkKey b (n+1) t v).run P w=.ok () w:=by
 cases D<;>simp only [Qk,Bool.false_eq_true] at hD<;>simp [Instr.checkKey,run_underlying hu]
theorem MR {P:Program} {t:TypeId} {D:TypeDesc} (hu:P.underlying t=some D) (hD:Qk D=true) {cs:Array Value} {off:Nat} {v:Value} (h:cs[off]? =some v) (w:World):(part t cs off).run P w=.ok v w:=by
 unfold part isAgg
 simp only [Sem.run_bind,run_underlying hu,Result.andThen_ok]
 cases D<;>simp_all [Qk]
theorem Dj {P:Program} (b:Bool) (n:Nat) (vs:Array Value) (w:World):∀ (fs:List Field),(∀ f∈fs,∃ D,P.underlying f.type=some D∧Qk D=true∧f.offset < vs.size)→(forIn fs PUnit.unit (fun f (_:PUnit)=>(if f.name≠"_" then do
 let x ← part f.type vs f.offset
 Instr.checkKey b (n+1) f.type x
 pure (ForInStep.yield PUnit.unit)
 else pure (ForInStep.yield PUnit.unit):Sem (ForInStep PUnit)))).run P w=.ok PUnit.unit w
 | [],_=>by simp
 | f :: fs,h=>by
   obtain ⟨D,h1,h2,h3⟩:=h f List.mem_cons_self
   have hp:∀ w1,(part f.type vs f.offset).run P w1=.ok vs[f.offset] w1:=MR h1 h2 (by simp [h3])
   have ih:=Dj b n vs w fs (fun g hg=>h g (List.mem_cons_of_mem _ hg))
   simp only [List.forIn_cons,Sem.run_bind]
   by_cases hn:f.name="_"
   ·simp only [hn,ne_eq,not_true_eq_false,if_false,Sem.run_pure,Result.andThen_ok]
    exact ih
   ·simp only [hn,ne_eq,not_false_eq_true,if_true,Sem.run_bind,hp,Result.andThen_ok,RD h1 h2,Sem.run_pure]
    exact ih
theorem N9 {P:Program} {t:TypeId} {v:Value} {K:Type} [DecidableEq K] {k:K} {q:K→Value→Prop} (hq:∀ k' u,q k' u→∀ w,(Op.equal t v u).run P w=.ok (decide (k'=k)) w):∀ (es:List MapEntry) (ks:List K) (i:Nat) (w:World),ks.length=es.length→(∀ (i:Nat) k' e,ks[i]? =some k'→es[i]? =some e→q k' e.key)→(Instr.findAsking t v es i).run P w=.ok (vQ k ks es i) w
 | [],[],i,w,_,_=>by simp [Instr.findAsking,vQ]
 | [],k' :: ks,i,w,hl,_=>by simp at hl
 | e :: es,[],i,w,hl,_=>by simp at hl
 | e :: es,k' :: ks,i,w,hl,h=>by
   unfold Instr.findAsking vQ
   rw [Sem.run_bind,hq k' e.key (h 0 k' e rfl rfl)]
   by_cases hk:k'=k
   ·simp [hk]
   ·simp only [hk,decide_false,Result.andThen_ok,Bool.false_eq_true,if_false]
    exact N9 hq es ks (i+1) w (by simpa using hl) (fun i k' e h1 h2=>h (i+1) k' e (by simpa using h1) (by simpa using h2))
theorem mM.struct {P:Program} {t:TypeId} {K:Type} [DecidableEq K] {g:K→AV} {dd:Nat} {fs:List Field} {n:Nat} [tW P t dd g] (hk:Nat.ble dd 10000=true) (hu:P.underlying t=some (.struct fs.toArray))
 (hf:∀ f∈fs,∃ D,P.underlying f.type=some D∧Qk D=true∧f.offset < n) (hg:∀ x,∃ cs,g x=.agg cs∧cs.length=n∧∀ c∈cs,S8 c=true) (inj:∀ a b,g a=g b→a=b):mM P t g where
 inj:=inj
 check:=fun {w S k v} hv b w1=>by
  obtain ⟨cs,e,hl,hs⟩:=hg k
  rw [e] at hv
  obtain ⟨vs,rfl,x4,ha⟩:=hv.nQ
  have key:∀ m:Nat,(Instr.checkKey b (m+1+1) t (.agg vs)).run P w1=.ok () w1:=fun m=>by
   have h1:=Dj (P:=P) b m vs w1 fs (fun f hm=>by obtain ⟨D,h1,h2,h3⟩:=hf f hm;exact ⟨D,h1,h2,by omega⟩)
   rw [Instr.checkKey]
   simp only [Sem.run_bind,run_underlying hu,Result.andThen_ok]
   rw [← Array.forIn_toList]
   simp only [h1,Result.andThen_ok,Sem.run_pure]
  exact key 9998
 find:=fun {w S k v} hv es ks hl SU w1=>by
  obtain ⟨cs,e,hn,hs⟩:=hg k
  have Qg:=hv
  rw [e] at Qg
  obtain ⟨vs,rfl,x4,ha⟩:=Qg.nQ
  have hq:=N9 (P:=P) (t:=t) (v:=.agg vs) (k:=k) (q:=fun k' u=>At w S (g k') u) (fun k' u hu w2=>by
   have:=tW.h (P:=P) (t:=t) (g:=g) k k' w S _ _ hv hu (10000 - dd) w2
   rw [Nat.sub_add_cancel (Nat.le_of_ble_eq_true hk)] at this
   rw [show decide (k'=k)=decide (k=k') by rw [Bool.eq_iff_iff];simp;exact eq_comm]
   exact this) es ks 0 w1 hl (fun i k' e h1 h2=>SU i k' e h1 h2)
  unfold Instr.findKey
  rw [Sem.run_bind,run_underlying hu]
  simp only [Result.andThen_ok]
  cases es with
  | nil=>
    cases ks with
    | nil=>simp [Instr.findNow,vQ]
    | cons _ _=>simp at hl
  | cons m es=>
    have:Instr.findNow (.struct fs.toArray) (.agg vs) (m :: es) 0=none:=by
     unfold Instr.findNow;simp [Instr.sameNow]
    rw [this];exact hq
 bits:=fun {w S k v u} h1 h2=>by
  obtain ⟨cs,e,hn,hs⟩:=hg k
  rw [e] at h1 h2
  exact MQ hs h1 h2
section rules
variable {P:Program} {all:Array Oper} {rest:List Oper} {n:Nat} {tm:List (Nat×AV)} {hp:Heap} {Q:List (Nat×AV)→Prop} {d:Nat} {ty:TypeId} {pos:String} {af:Array Edge} {op:Op}
theorem AM.tG {f:FuncId} {x:Operand} {args:List Operand} {ts:Array TypeId} {ra l l':List AV} {R:AV} [bF P f] (hx:dm (DV (looks all ⟨some d,.call {callee:=.value x,args:=args.toArray,argTypes:=ts},ty,pos,af,none⟩) tm) x=some (.func (.func f) ra)) (hl:zS (DV (looks all ⟨some d,.call {callee:=.value x,args:=args.toArray,argTypes:=ts},ty,pos,af,none⟩) tm) args=some l) (c:Pu P f l' R) (co:yc hp (l++ra) l') (hn:Nat.blt d n=true)
 (k:AM P all n hp rest ((d,R) :: tm) Q):AM P all n hp (⟨some d,.call {callee:=.value x,args:=args.toArray,argTypes:=ts},ty,pos,af,none⟩ :: rest) tm Q:=by
 refine AM.mv (fun w S a h1 h2 h3 h4 K Q' hK=>?_) hn k
 have r:=o8 h1 h2 h3 h4
 obtain ⟨cv,e1,e2,e3⟩:=(bA r hx).x8
 show Oper.upon P _ a K Q' _
 rw [vI a _ e1]
 obtain ⟨g1,g2⟩:=so r hl
 obtain ⟨g3,g4⟩:=yc.at r.hp co (vs:=args.map a.eval++cv.toList) (by simp [g1,e2]) (vG g1 g2 (by simpa using e3))
 refine (c w S _ (sq h3.slt h3.iy) (by simpa using g3) g4).mono ?_
 rintro e w' ⟨v,rr,h',S',rfl,rfl,k3,k4,k5⟩
 exact hK v w' S' ⟨k5.C2,fun m hm=>(k5.nf m hm).1,fun m hm hs=>(k5.other m hm (fun ⟨x,hx,_⟩=>by simp at hx)).2 hs,k4.slt⟩ k3
end rules
section values
variable {P:Program} {n:Nat} {tm:List (Nat×AV)} {hp:Heap} {d:Nat} {ty:TypeId} {pos:String} {af:Array Edge}
theorem IM {x:Operand} {s ft:TypeId} {j off:Nat} {D:TypeDesc} {cs:List AV} {c:AV} [aP P ft D] (hf:∃ fs f,P.underlying s=some (.struct fs)∧fs[j]? =some f∧f.type=ft∧f.offset=off) (hx:dm tm x=some (.agg cs))
 (hD:TypeDesc.lp D=false) (hc:cs[off]? =some c):QV P ⟨some d,.field s x j,ty,pos,af,none⟩ ⟨n,tm,hp⟩ c:=
 (fun w S a r=>by
  obtain ⟨fs,f,hu,hj,rfl,rfl⟩:=hf
  obtain ⟨vs,h2,h3,h4⟩:=(bA (σ:=⟨n,tm,hp⟩) r hx).nQ
  obtain ⟨v,g1,g2⟩:=mR.get h3 h4 hc
  refine ⟨v,fun w1 _=>?_,g2⟩
  have hr:=fN (P:=P) (t:=f.type) hD g1 w1
  simp only [execOp,h2,Instr.field,Sem.run_bind,run_underlying hu,Result.andThen_ok,hj]
  simp [asAgg,hr])
end values
theorem aj.zy {n s:Nat} {tm:List (Nat×AV)} {hp re:Heap} {T:St→Prop} {b:Bk} {cs:List AV} (hs:lk tm s=some (.ptr b 0)) (dl:w7 hp b (.cells cs) re) (k:aj ⟨n,(s,.bR cs) :: tm,re⟩ T):aj ⟨n,tm,hp⟩ T:=by
 refine aj.step (Aq:=⟨n,(s,.bR cs) :: tm,re⟩) (fun w S a r=>?_) k
 obtain ⟨p,q,rfl,rfl⟩:=dl.split
 have oy:(b,Ob.cells cs)∈p++(b,.cells cs) :: q:=bx.2 (.inl rfl)
 obtain ⟨h1,m0,vs,E,AN,hh,jZ,ha⟩:=r.hp.holds _ oy
 have LN:∀ m,b.cu=some m→m < w.heap.size:=fun m hm=>r.hp.lt ⟨_,oy,ki hm⟩
 let S':Nat→Prop:=fun m=>S m∨b.cu=some m
 have mono:∀ m,S m→S' m∧w.heap[m]? =w.heap[m]?:=fun m hm=>⟨.inl hm,rfl⟩
 have vE:=r.hp.nodup
 have vk:(p++q).Sublist (p++(b,Ob.cells cs) :: q):=List.Sublist.append (List.Sublist.refl _) (List.sublist_cons_self _ _)
 have vH:cI w S' (p++q):=by
  refine ⟨vE.sublist (vy vk),fun e he=>(r.hp.holds e (vk.subset he)).mono mono (fun _ _=>rfl),fun e he m hm=>?_,fun m hm=>?_,fun g o ho=>⟨.inl (r.hp.iy g o ho).1,(r.hp.iy g o ho).2⟩⟩
  ·rw [← r.hp.sep e (vk.subset he) m hm]
   refine ⟨fun hs=>hs.elim id fun hb=>?_,.inl⟩
   exfalso
   rw [List.flatMap_append,List.flatMap_cons,List.nodup_append,List.nodup_append] at vE
   rcases List.mem_append.1 he with h | h
   ·exact vE.2.2 m (List.mem_flatMap.2 ⟨e,h,hm⟩) m (List.mem_append_left _ (ki hb)) rfl
   ·exact vE.2.1.2.2 m (ki hb) m (List.mem_flatMap.2 ⟨e,h,hm⟩) rfl
  ·rcases hm with h | h
   ·exact r.hp.slt m h
   ·exact LN m h
 have hr:=r.heap mono vH
 refine ⟨_,S',rfl,⟨hr.size,hr.defers,fun t av h=>?_,hr.hp⟩,rfl,rfl,rfl,Nat.le_refl _,mono,fun m hm hh=>⟨rfl,fun hs=>hs.elim id fun hb=>(hh ⟨_,oy,ki hb⟩).elim⟩,fun m hm=>.inl ?_,fun _=>Nat.le_refl _⟩
 ·simp only [lk] at h
  split at h
  ·rename_i UR
   obtain rfl:s=t:=by simpa using UR
   obtain rfl:=Option.some.inj h
   obtain ⟨v,e1,e2⟩:=hr.tm s _ hs
   cases e2 with
   | ptr _ _ m hb=>
     obtain rfl:=Option.some.inj (hb.symm.trans AN)
     refine ⟨_,e1,.bR cs ⟨m,0,none⟩ vs.toList (by simp [jZ]) (fun i c v hc hv=>(ha i c v hc (by simpa using hv)).mono mono) rfl (.inr hb) (fun i v hv=>?_)⟩
     rw [pn hh];simpa using hv
  ·exact hr.tm t av h
 ·obtain ⟨e,he,hb⟩:=hm
  exact ⟨e,vk.subset he,hb⟩
section rules
variable {P:Program} {n:Nat} {tm:List (Nat×AV)} {hp:Heap} {d:Nat} {ty:TypeId} {pos:String} {af:Array Edge}
end rules
section
variable {K E:Type}
def CE (sz:Nat) (g:E→AV) (β:K→Bk) (M:List (K×List E)):Heap:=M.map fun e=>(β e.1,.x3 sz (e.2.map g))
theorem MS (sz:Nat) (g:E→AV) (β:K→Bk) (M:List (K×List E)):(CE sz g β M).flatMap eb=(te (rC sz g) β M).filterMap (·.1.cu):=by
 induction M with
 | nil=>rfl
 | cons e r ih=>
   unfold CE te at ih ⊢
   rw [List.map_cons,List.flatMap_cons,List.map_cons,List.filterMap_cons,ih]
   show (β e.1).cu.toList++_++_=_
   cases (β e.1).cu<;>simp [Ob.more]
theorem Ku {w:World} {S:Nat→Prop} {hp cN:Heap} {bp:Bk} {sz:Nat} {g:E→AV} {β:K→Bk} {M:List (K×List E)} (r:cI w S hp) (dl:w7 hp bp (.cm (te (rC sz g) β M)) cN):
 ∃ S':Nat→Prop,cI w S' (CE sz g β M++cN)∧k9 w S hp w S' (CE sz g β M++cN)∧∀ m,S m→S' m:=by
 obtain ⟨p,q,rfl,rfl⟩:=dl.split
 have oy:(bp,Ob.cm (te (rC sz g) β M))∈p++(bp,.cm (te (rC sz g) β M)) :: q:=bx.2 (.inl rfl)
 obtain ⟨AN,oA⟩:bp.cu=none∧∀ e∈te (rC sz g) β M,ou w S e.1 e.2:=r.holds _ oy
 have RE:eb (bp,Ob.cm (te (rC sz g) β M))=(CE sz g β M).flatMap eb:=by
  rw [MS];unfold eb Ob.more;rw [AN];rfl
 have hF:∀ e∈CE sz g β M,∀ m,m∈eb e→m∈eb (bp,Ob.cm (te (rC sz g) β M)):=fun e he m hm=>by
  rw [RE];exact List.mem_flatMap.2 ⟨e,he,hm⟩
 let S':Nat→Prop:=fun m=>S m∨m∈eb (bp,Ob.cm (te (rC sz g) β M))
 have mono:∀ m,S m→S' m∧w.heap[m]? =w.heap[m]?:=fun m hm=>⟨.inl hm,rfl⟩
 have vE:=r.nodup
 have vk:(p++q).Sublist (p++(bp,Ob.cm (te (rC sz g) β M)) :: q):=List.Sublist.append (List.Sublist.refl _) (List.sublist_cons_self _ _)
 have pv:((CE sz g β M++(p++q)).flatMap eb).Perm ((p++(bp,Ob.cm (te (rC sz g) β M)) :: q).flatMap eb):=by
  rw [List.flatMap_append,List.flatMap_append,List.flatMap_append,List.flatMap_cons,RE,← List.append_assoc,← List.append_assoc]
  exact List.perm_append_comm.append_right _
 have US:∀ e∈p++q,∀ m,m∈eb e→m∈eb (bp,Ob.cm (te (rC sz g) β M))→False:=fun e he m hm Ql=>by
  rw [List.flatMap_append,List.flatMap_cons,List.nodup_append,List.nodup_append] at vE
  rcases List.mem_append.1 he with h | h
  ·exact vE.2.2 m (List.mem_flatMap.2 ⟨e,h,hm⟩) m (List.mem_append_left _ Ql) rfl
  ·exact vE.2.1.2.2 m Ql m (List.mem_flatMap.2 ⟨e,h,hm⟩) rfl
 have vH:cI w S' (CE sz g β M++(p++q)):=by
  refine ⟨pv.nodup_iff.2 vE,fun e he=>?_,fun e he m hm=>?_,fun m hm=>?_,fun g o ho=>⟨.inl (r.iy g o ho).1,(r.iy g o ho).2⟩⟩
  ·rcases List.mem_append.1 he with h | h
   ·obtain ⟨x,hx,rfl⟩:=List.mem_map.1 h
    exact Holds.mono (o:=.x3 sz (x.2.map g)) mono (fun _ _=>rfl) (show Holds w S (β x.1) (.arr sz (x.2.map g)) from ou.ob.1 (oA (β x.1,.arr sz (x.2.map g)) (List.mem_map.2 ⟨x,hx,rfl⟩)))
   ·exact (r.holds e (vk.subset h)).mono mono (fun _ _=>rfl)
  ·rcases List.mem_append.1 he with h | h
   ·have h2:=hF e h m hm
    obtain ⟨x,hx,rfl⟩:=List.mem_map.1 h
    exact ⟨fun _=>trivial,fun _=>.inr h2⟩
   ·rw [← r.sep e (vk.subset h) m hm]
    exact ⟨fun hs=>hs.elim id fun hb=>(US e h m hm hb).elim,.inl⟩
  ·rcases hm with h | h
   ·exact r.slt m h
   ·exact r.lt ⟨_,oy,h⟩
 refine ⟨S',vH,⟨rfl,rfl,rfl,Nat.le_refl _,mono,fun m hm hh=>⟨rfl,fun hs=>hs.elim id fun hb=>(hh ⟨_,oy,hb⟩).elim⟩,fun m hm=>.inl ?_,fun _=>Nat.le_refl _⟩,fun m h=>.inl h⟩
 obtain ⟨e,he,hm⟩:=hm
 rcases List.mem_append.1 he with h | h
 ·exact ⟨_,oy,hF e h m hm⟩
 ·exact ⟨e,vk.subset h,hm⟩
theorem HB {e:Bk×Ob}:∀ {h:Heap},e∈h→nM h e.1 e.2
 | x :: r,he=>by
   rcases List.mem_cons.1 he with rfl | he
   ·exact .here
   ·exact .next (HB he)
end
section rules
variable {P:Program} {all:Array Oper} {rest:List Oper} {n:Nat} {tm:List (Nat×AV)} {hp:Heap} {Q:St→Prop} {d:Nat} {ty:TypeId} {pos:String} {af:Array Edge}
end rules
section
variable {P:Program} {R:St→Prop} {k:List It} {σ:St}
end
theorem J {α:Sort _} {a:α}:a=a:=rfl
section rules
variable {P:Program} {all:Array Oper} {n:Nat} {B:Heap} {tk:List Tok} {dy:List Nat} {i:Nat} {rest:List Oper} {tm:List (Nat×AV)} {acc:(Nat→Bk)→List (Nat×AV)} {Q:(Nat→Bk)→List (Nat×AV)→Prop} {d:Nat} {ty:TypeId} {pos:String} {af:Array Edge} {op:Op}
end rules
section
variable {P:Program} {o:Oper} {σ:St}
theorem QV.dT {p:Prop} [Decidable p] (hc:p) (h:QV P o σ (.bool (decide p))):QV P o σ (.bool true):=by rw [decide_eq_true hc] at h;exact h
theorem QV.dF {p:Prop} [Decidable p] (hc:¬ p) (h:QV P o σ (.bool (decide p))):QV P o σ (.bool false):=by rw [decide_eq_false hc] at h;exact h
end
section rules
variable {P:Program} {all:Array Oper} {n:Nat} {B:Heap} {tk:List Tok} {dy:List Nat} {i:Nat} {rest:List Oper} {tm:List (Nat×AV)} {acc:(Nat→Bk)→List (Nat×AV)} {Q:(Nat→Bk)→List (Nat×AV)→Prop} {d:Nat} {ty:TypeId} {pos:String} {af:Array Edge} {op:Op}
end rules
end Go.Eng
set_option linter.unusedSimpArgs false
namespace Go.Eng
open Go
variable [bM]
section rules
variable {P:Program} {all:Array Oper} {rest:List Oper} {n:Nat} {tm:List (Nat×AV)} {hp:Heap} {Q:St→Prop} {d:Nat} {ty:TypeId} {pos:String} {af:Array Edge}
end rules
theorem nN.mN {h h':Heap} {b b':Bk} {o o':Ob} (u:nN h b o b' o' h') (b2:Bk) (o2:Ob):∃ h2,nN h b o b2 o2 h2∧nN h2 b2 o2 b' o' h':=by
 induction u with
 | here=>exact ⟨_,.here,.here⟩
 | next _ ih=>obtain ⟨h2,a,b⟩:=ih;exact ⟨_,.next a,.next b⟩
 | skip _ ih=>obtain ⟨h2,a,b⟩:=ih;exact ⟨_,.skip a,.skip b⟩
theorem Dk {w:World} {S:Nat→Prop} {hp cN:Heap} {bp:Bk} {es x5:List (Bk×PO)} (r:cI w S hp) (u:nN hp bp (.cm es) bp (.cm x5) cN) (h:es.Perm x5):cI w S cN∧k9 w S hp w S cN:=by
 obtain ⟨p,q,rfl,rfl⟩:=u.split
 obtain ⟨AN,oA⟩:bp.cu=none∧∀ e∈es,ou w S e.1 e.2:=r.holds (bp,.cm es) (bx.2 (.inl rfl))
 have BJ:∀ n,n∈eb (bp,.cm x5)↔n∈eb (bp,.cm es):=by
  intro n
  rw [wP,wP]
  constructor
  ·rintro (k | ⟨e,he,hn⟩)
   ·exact .inl k
   ·exact .inr ⟨e,h.mem_iff.2 he,hn⟩
  ·rintro (k | ⟨e,he,hn⟩)
   ·exact .inl k
   ·exact .inr ⟨e,h.mem_iff.1 he,hn⟩
 have e1:(eb (bp,.cm es)).Perm (eb (bp,.cm x5)):=by
  simp only [eb,Ob.more]
  exact List.Perm.append_left _ (h.filterMap _)
 have Kt:∀ n,Has (p++(bp,.cm x5) :: q) n→Has (p++(bp,.cm es) :: q) n:=by
  rintro n ⟨e,he,hn⟩
  rcases bx.1 he with rfl | he
  ·exact ⟨_,bx.2 (.inl rfl),(BJ n).1 hn⟩
  ·exact ⟨e,bx.2 (.inr he),hn⟩
 refine ⟨⟨?_,?_,?_,r.slt,r.iy⟩,⟨rfl,rfl,rfl,Nat.le_refl _,fun n hn=>⟨hn,rfl⟩,fun n _ _=>⟨rfl,id⟩,fun n hn=>.inl (Kt n hn),fun _=>Nat.le_refl _⟩⟩
 ·have:=r.nodup
  rw [List.flatMap_append,List.flatMap_cons] at this ⊢
  exact ((List.Perm.append_left _ (List.Perm.append_right _ e1)).nodup_iff).1 this
 ·intro e he
  rcases bx.1 he with rfl | he
  ·exact ⟨AN,fun e he=>oA e (h.mem_iff.2 he)⟩
  ·exact r.holds e (bx.2 (.inr he))
 ·intro e he n hn
  rcases bx.1 he with rfl | he
  ·have:=r.sep (bp,.cm es) (bx.2 (.inl rfl)) n ((BJ n).1 hn)
   exact ⟨fun h=>(this.1 h).elim,fun h=>h.elim⟩
  ·exact r.sep e (bx.2 (.inr he)) n hn
theorem cI.same {w:World} {S:Nat→Prop} {h h':Heap} (r:cI w S h) (hp:h.Perm h'):cI w S h'∧k9 w S h w S h':=
 ⟨r.perm hp,rfl,rfl,rfl,Nat.le_refl _,fun n hn=>⟨hn,rfl⟩,fun n _ _=>⟨rfl,id⟩,fun n ⟨e,he,hn⟩=>.inl ⟨e,hp.mem_iff.2 he,hn⟩,fun _=>Nat.le_refl _⟩
def GM (xs:List (Bk×PO)):Heap:=xs.map fun e=>(e.1,e.2.ob)
theorem xL {w:World} {S:Nat→Prop} {bp:Bk} {x5:List (Bk×PO)}:∀ (xs es:List (Bk×PO)) {hp cN:Heap},cI w S hp→nN hp bp (.cm es) bp (.cm x5) cN→es.Perm (xs++x5)→cI w S (GM xs++cN)∧k9 w S hp w S (GM xs++cN)
 | [],es,hp,cN,r,u,h=>Dk r u h
 | x :: xs,es,hp,cN,r,u,h=>by
   obtain ⟨h2,u1,u2⟩:=u.mN bp (.cm (xs++x5))
   obtain ⟨r1,e1⟩:=Dh r u1 h
   obtain ⟨r2,e2⟩:=xL xs (xs++x5) r1 (.next u2) (List.Perm.refl _)
   obtain ⟨r3,e3⟩:=r2.same (h':=GM (x :: xs)++cN) List.perm_middle
   exact ⟨r3,(e1.trans e2).trans e3⟩
theorem zA {w:World} {S:Nat→Prop} {bp:Bk} {es:List (Bk×PO)}:∀ (xs x5:List (Bk×PO)) {re cN:Heap},cI w S (GM xs++re)→nN re bp (.cm es) bp (.cm x5) cN→x5.Perm (xs++es)→cI w S cN∧k9 w S (GM xs++re) w S cN
 | [],x5,re,cN,r,u,h=>Dk r u h.symm
 | x :: xs,x5,re,cN,r,u,h=>by
   obtain ⟨h2,u1,u2⟩:=u.mN bp (.cm (xs++es))
   obtain ⟨r0,e0⟩:=r.same (h':=GM xs++(x.1,x.2.ob) :: re) List.perm_middle.symm
   obtain ⟨r1,e1⟩:=zA xs (xs++es) r0 (.next u1) (List.Perm.refl _)
   obtain ⟨r2,e2⟩:=BK r1 .here u2 h
   exact ⟨r2,(e0.trans e1).trans e2⟩
section ara
variable {V:Type}
def sA (kb:Bk→(Nat→Bk)→V→List (Bk×PO)) (bo:Nat→Bk) (bs:Nat→Nat→Bk):Nat→List (Option V)→List (Bk×PO)
 | _,[]=>[]
 | i,some v :: r=>kb (bo i) (bs i) v++sA kb bo bs (i+1) r
 | i,none :: r=>sA kb bo bs (i+1) r
def nT (kb:Bk→(Nat→Bk)→V→List (Bk×PO)) (bo:Nat→Bk) (bs:Nat→Nat→Bk) (M:List V):List (Bk×PO):=sA kb bo bs 0 (M.map some)
def D6 (kb:Bk→(Nat→Bk)→V→List (Bk×PO)) (bo:Nat→Bk) (bs:Nat→Nat→Bk) (M:List V) (i:Int):List (Bk×PO):=sA kb bo bs 0 ((M.map some).set i.toNat none)
variable {kb:Bk→(Nat→Bk)→V→List (Bk×PO)} {bo tX:Nat→Bk} {bs vp:Nat→Nat→Bk}
theorem uH:∀ (l:List (Option V)) (i:Nat),(∀ j v,l[j]? =some (some v)→bo (i+j)=tX (i+j)∧bs (i+j)=vp (i+j))→sA kb bo bs i l=sA kb tX vp i l
 | [],_,_=>rfl
 | some v :: r,i,h=>by
   obtain ⟨h1,h2⟩:=h 0 v rfl
   show kb (bo i) (bs i) v++sA kb bo bs (i+1) r=kb (tX i) (vp i) v++sA kb tX vp (i+1) r
   rw [show bo i=tX i from h1,show bs i=vp i from h2,uH r (i+1) (fun j v hj=>by
    have:=h (j+1) v (by simpa using hj)
    rw [show i+1+j=i+(j+1) by omega];exact this)]
 | none :: r,i,h=>uH r (i+1) (fun j v hj=>by
  have:=h (j+1) v (by simpa using hj)
  rw [show i+1+j=i+(j+1) by omega];exact this)
theorem BL:∀ (l:List (Option V)) (i j:Nat) (v:V),l[j]? =some none→(sA kb bo bs i (l.set j (some v))).Perm (kb (bo (i+j)) (bs (i+j)) v++sA kb bo bs i l)
 | [],_,_,_,h=>by simp at h
 | o :: r,i,0,v,h=>by
   obtain rfl:o=none:=by simpa using h
   exact List.Perm.refl _
 | some u :: r,i,j+1,v,h=>by
   have:=BL r (i+1) j v (by simpa using h)
   rw [show i+1+j=i+(j+1) by omega] at this
   show (kb (bo i) (bs i) u++sA kb bo bs (i+1) (r.set j (some v))).Perm _
   refine (List.Perm.append_left _ this).trans ?_
   show (kb (bo i) (bs i) u++(kb (bo (i+(j+1))) (bs (i+(j+1))) v++sA kb bo bs (i+1) r)).Perm (kb (bo (i+(j+1))) (bs (i+(j+1))) v++(kb (bo i) (bs i) u++sA kb bo bs (i+1) r))
   rw [← List.append_assoc,← List.append_assoc]
   exact List.Perm.append_right _ List.perm_append_comm
 | none :: r,i,j+1,v,h=>by
   have:=BL r (i+1) j v (by simpa using h)
   rw [show i+1+j=i+(j+1) by omega] at this
   exact this
theorem BM:∀ (l m:List (Option V)) (i:Nat),sA kb bo bs i (l++m)=sA kb bo bs i l++sA kb bo bs (i+l.length) m
 | [],m,i=>rfl
 | some v :: r,m,i=>by
   show kb (bo i) (bs i) v++sA kb bo bs (i+1) (r++m)=(kb (bo i) (bs i) v++sA kb bo bs (i+1) r)++sA kb bo bs (i+(r.length+1)) m
   rw [BM r m (i+1),List.append_assoc,show i+1+r.length=i+(r.length+1) by omega]
 | none :: r,m,i=>by
   show sA kb bo bs (i+1) (r++m)=sA kb bo bs (i+1) r++sA kb bo bs (i+(r.length+1)) m
   rw [BM r m (i+1),show i+1+r.length=i+(r.length+1) by omega]
theorem Dl {M M':List V} {i:Int} {v v':V} {s:Nat→Bk} (h:idx M i=some v) (hM:M'=M.set i.toNat v') (hs:vp=fun j=>if j=i.toNat then s else bs j):(nT kb bo vp M').Perm (kb (bo i.toNat) s v'++D6 kb bo bs M i):=by
 obtain ⟨h0,h1,h2⟩:=fg h
 unfold nT D6
 have hl:(M.map some)[i.toNat]? =some (some v):=by rw [List.getElem?_map,h2];rfl
 have jh:i.toNat < (M.map some).length:=(List.getElem?_eq_some_iff.1 hl).1
 have hn:((M.map some).set i.toNat none)[i.toNat]? =some none:=by rw [List.getElem?_set_self jh]
 have e1:M'.map some=((M.map some).set i.toNat none).set i.toNat (some v'):=by rw [hM,List.map_set,List.set_set]
 rw [e1]
 have:=BL (kb:=kb) (bo:=bo) (bs:=vp) ((M.map some).set i.toNat none) 0 i.toNat v' hn
 rw [Nat.zero_add] at this
 refine this.trans ?_
 rw [show vp i.toNat=s by rw [hs];simp]
 refine List.Perm.append_left _ ?_
 rw [uH (tX:=bo) (vp:=bs) ((M.map some).set i.toNat none) 0 (fun j u hj=>by
  rw [Nat.zero_add]
  refine ⟨rfl,?_⟩
  have:j≠i.toNat:=fun e=>by rw [e,hn] at hj;simp at hj
  rw [hs];simp [this])]
theorem Dm {M:List V} {i:Int} {v:V} (h:idx M i=some v):(nT kb bo bs M).Perm (kb (bo i.toNat) (bs i.toNat) v++D6 kb bo bs M i):=
 Dl h (BH (fg h).2.2).symm (by funext j;split<;>simp_all)
theorem Kv {M:List V} {b:Bk} {s:Nat→Bk} {v:V} (h1:∀ j,j < M.length→tX j=bo j) (h2:tX M.length=b) (h3:∀ j,j < M.length→vp j=bs j) (h4:vp M.length=s):(nT kb tX vp (M++[v])).Perm (kb b s v++nT kb bo bs M):=by
 unfold nT
 rw [List.map_append,BM,List.length_map,Nat.zero_add]
 have e1:sA kb tX vp M.length ([v].map some)=kb b s v:=by
  show kb (tX M.length) (vp M.length) v++[]=_
  rw [h2,h4,List.append_nil]
 rw [e1,uH (tX:=bo) (vp:=bs) (M.map some) 0 (fun j u hj=>by
  have:j < M.length:=by
   have:=(List.getElem?_eq_some_iff.1 hj).1
   simpa using this
  rw [Nat.zero_add]
  exact ⟨h1 j this,h3 j this⟩)]
 exact List.perm_append_comm
end ara
theorem aj.HC {n:Nat} {tm:List (Nat×AV)} {hp:Heap} {T:St→Prop} {V:Type} {kb:Bk→(Nat→Bk)→V→List (Bk×PO)} (k:∀ (bp:Bk) (bo:Nat→Bk) (bs:Nat→Nat→Bk),aj ⟨n,tm,(bp,.cm (nT kb bo bs [])) :: hp⟩ T):aj ⟨n,tm,hp⟩ T:=by
 refine aj.step (Aq:=⟨n,tm,(⟨none,0⟩,.cm (nT kb (fun _=>⟨none,0⟩) (fun _ _=>⟨none,0⟩) [])) :: hp⟩) (fun w S a r=>?_) (k _ _ _)
 obtain ⟨g1,g2,g3⟩:=uC (b:=⟨none,0⟩) (o:=.cm []) r.hp (Ext.refl w) id ⟨rfl,by simp⟩ (.inl rfl)
 exact ⟨_,S,rfl,r.heap g3 g1,g2⟩
theorem aj.MT {n:Nat} {tm:List (Nat×AV)} {hp cN:Heap} {T:St→Prop} {V:Type} {kb:Bk→(Nat→Bk)→V→List (Bk×PO)} {bo:Nat→Bk} {bs:Nat→Nat→Bk} {M:List V} {i:Int} {v:V} {bp:Bk} (h:idx M i=some v) (u:nN hp bp (.cm (nT kb bo bs M)) bp (.cm (D6 kb bo bs M i)) cN)
 (k:aj ⟨n,tm,GM (kb (bo i.toNat) (bs i.toNat) v)++cN⟩ T):aj ⟨n,tm,hp⟩ T:=by
 refine aj.step (fun w S a r=>?_) k
 obtain ⟨g1,g2⟩:=xL _ _ r.hp u (Dm h)
 exact ⟨_,S,rfl,r.heap (fun m hm=>⟨hm,rfl⟩) g1,g2⟩
theorem aj.O8 {n:Nat} {tm:List (Nat×AV)} {hp re h0:Heap} {cN:(Nat→Nat→Bk)→Heap} {T:St→Prop} {V:Type} {kb:Bk→(Nat→Bk)→V→List (Bk×PO)} {bo:Nat→Bk} {bs:Nat→Nat→Bk} {M M':List V} {i:Int} {v v':V} {b0 bp:Bk} {s:Nat→Bk} (h:idx M i=some v) (hb:b0=bo i.toNat) (hM:M'=M.set i.toNat v') (hs:C5 hp h0 re) (ho:h0=GM (kb b0 s v')) (u:∀ vp,nN re bp (.cm (D6 kb bo bs M i)) bp (.cm (nT kb bo vp M')) (cN vp))
 (k:∀ vp,aj ⟨n,tm,cN vp⟩ T):aj ⟨n,tm,hp⟩ T:=by
 refine aj.step (Aq:=⟨n,tm,cN (fun j=>if j=i.toNat then s else bs j)⟩) (fun w S a r=>?_) (k _)
 obtain ⟨g0,e0⟩:=r.hp.same hs.perm
 rw [ho] at g0 e0
 obtain ⟨g1,g2⟩:=zA _ _ g0 (u (fun j=>if j=i.toNat then s else bs j)) (by rw [hb];exact Dl h hM rfl)
 exact ⟨_,S,rfl,r.heap (fun m hm=>⟨hm,rfl⟩) g1,e0.trans g2⟩
theorem aj.O9 {n:Nat} {tm:List (Nat×AV)} {hp re h0:Heap} {cN:(Nat→Bk)→(Nat→Nat→Bk)→Heap} {T:St→Prop} {V:Type} {kb:Bk→(Nat→Bk)→V→List (Bk×PO)} {bo:Nat→Bk} {bs:Nat→Nat→Bk} {M:List V} {v:V} {b bp:Bk} {s:Nat→Bk} (hs:C5 hp h0 re) (ho:h0=GM (kb b s v)) (u:∀ tX vp,nN re bp (.cm (nT kb bo bs M)) bp (.cm (nT kb tX vp (M++[v]))) (cN tX vp))
 (k:∀ tX vp,(∀ j,j < M.length→tX j=bo j)→tX M.length=b→aj ⟨n,tm,cN tX vp⟩ T):aj ⟨n,tm,hp⟩ T:=by
 have c1:∀ j,j < M.length→(fun j=>if j=M.length then b else bo j) j=bo j:=fun j hj=>if_neg (by omega)
 have c2:(fun j=>if j=M.length then b else bo j) M.length=b:=if_pos rfl
 refine aj.step (Aq:=⟨n,tm,cN (fun j=>if j=M.length then b else bo j) (fun j=>if j=M.length then s else bs j)⟩) (fun w S a r=>?_) (k _ _ c1 c2)
 obtain ⟨g0,e0⟩:=r.hp.same hs.perm
 rw [ho] at g0 e0
 obtain ⟨g1,g2⟩:=zA _ _ g0 (u (fun j=>if j=M.length then b else bo j) (fun j=>if j=M.length then s else bs j)) (Kv c1 c2 (fun j hj=>if_neg (by omega)) (if_pos rfl))
 exact ⟨_,S,rfl,r.heap (fun m hm=>⟨hm,rfl⟩) g1,e0.trans g2⟩
theorem aj.GN {n:Nat} {tm:List (Nat×AV)} {hp cN:Heap} {T:St→Prop} {b:Bk} {o o':Ob} (he:o=o') (u:nN hp b o b o' cN) (k:aj ⟨n,tm,cN⟩ T):aj ⟨n,tm,hp⟩ T:=by
 subst he
 rw [C6 u] at k
 exact k
def EN (n:Nat) (l:List Int):Option Unit:=if ∀ x∈l,0≤x∧x < n then some () else none
theorem yw {n:Nat} {l:List Int} {u:Unit} (h:EN n l=some u):∀ x∈l,0≤x∧x < n:=by
 unfold EN at h
 split at h
 ·assumption
 ·cases h
def pA (bo:Nat→Bk) (i:Int):AV:=.ptr (bo i.toNat) 0
theorem Oa {bo tX:Nat→Bk} {N:Nat} (h:∀ j,j < N→tX j=bo j) {i:Int} (hi:0≤i∧i < N):pA bo i=pA tX i:=by
 unfold pA;rw [h i.toNat (by omega)]
theorem MU {bo tX:Nat→Bk} {N:Nat} (h:∀ j,j < N→tX j=bo j) {l:List Int} {u:Unit} (hg:EN N l=some u):l.map (pA bo)=l.map (pA tX):=
 List.map_congr_left fun x hx=>Oa h (yw hg x hx)
theorem Pa {K:Type} {gk:K→AV} {bo tX:Nat→Bk} {N:Nat} (h:∀ j,j < N→tX j=bo j) {M:List (K×Int)} {u:Unit} (hg:EN N (M.map Prod.snd)=some u):(M.map fun e=>(gk e.1,pA bo e.2))=M.map fun e=>(gk e.1,pA tX e.2):=
 List.map_congr_left fun e he=>by rw [Oa h (yw hg e.2 (List.mem_map.2 ⟨e,he,rfl⟩))]
theorem Pb {bo:Nat→Bk} {N:Nat} {b:Bk} (h:bo N=b) (o:Nat):AV.ptr (bo (N:Int).toNat) o=AV.ptr b o:=by
 rw [Int.toNat_natCast,h]
section rules
variable {P:Program} {all:Array Oper} {rest:List Oper} {n:Nat} {tm:List (Nat×AV)} {hp:Heap} {Q:St→Prop} {d:Nat} {ty:TypeId} {pos:String} {af:Array Edge}
theorem xM {K:Type} [DecidableEq K] {gk:K→AV} {gv:Int→AV} {M:List (K×Int)} {key:K} {t kt vt:TypeId} {i:TypeInfo} {x y:Operand} {b:Bk} [aP P t (.map kt vt)] [br P vt i] [mM P kt gk] (hx:dm tm x=some (.sg b)) (hy:dm tm y=some (gk key)) (f:nM hp b (.mp (M.map fun e=>(gk e.1,gv e.2)))) (hz:i.zero=some (.pointer none)) (h:gL M key=none):
 QV P ⟨some d,.lookup t x y false,ty,pos,af,none⟩ ⟨n,tm,hp⟩ (.raw (.pointer none)):=by
 intro w S a r
 have kx:=bA (σ:=⟨n,tm,hp⟩) r hx
 have ky:=bA (σ:=⟨n,tm,hp⟩) r hy
 obtain ⟨nb,hb,ex⟩:=kx.yo
 obtain ⟨L,c,M',N8,qI,p1,p2,p3,p4,p5,p6,p7,p8⟩:=AS (mM.inj P kt) r.hp f
 obtain rfl:N8=nb:=by rw [p4] at hb;exact Option.some.inj hb
 rw [← wN p1 p8] at h
 have yq:=mM.find (P:=P) (t:=kt) (g:=gk) ky qI.toList (M'.map Prod.fst) (by simpa using p6.symm) (fun j k' e h1 h2=>by
  rw [List.getElem?_map] at h1
  cases hm:M'[j]? with
  | none=>rw [hm] at h1;cases h1
  | some q=>rw [hm] at h1;rw [← Option.some.inj h1];exact (p7 j q e hm h2).1)
 rcases yp (gv:=gv) (w:=w) (S:=S) (k:=key) M' qI.toList 0 p6.symm (fun j e m h1 h2=>(p7 j e m h1 h2).2) with ⟨q1,q2⟩ | ⟨v',j,val,q1,q2,q3,_⟩
 ·refine ⟨.pointer none,fun w1 e1=>?_,.raw _⟩
  simp [execOp,Instr.lookup,ex,run_underlying (aP.h (P:=P) (t:=t)),qk (e1.heap p5),mM.check (P:=P) (t:=kt) ky,yq,q2,zeroValue,typeInfo,br.h (P:=P) (t:=vt),hz]
 ·rw [q1] at h;cases h
theorem xN {K:Type} [DecidableEq K] {gk:K→AV} {gv:Int→AV} {M:List (K×Int)} {key:K} {v:Int} {t kt vt:TypeId} {i:TypeInfo} {x y:Operand} {b:Bk} [aP P t (.map kt vt)] [br P vt i] [mM P kt gk] (hx:dm tm x=some (.sg b)) (hy:dm tm y=some (gk key)) (f:nM hp b (.mp (M.map fun e=>(gk e.1,gv e.2)))) (h:gL M key=some v):
 QV P ⟨some d,.lookup t x y false,ty,pos,af,none⟩ ⟨n,tm,hp⟩ (gv v):=by
 intro w S a r
 have kx:=bA (σ:=⟨n,tm,hp⟩) r hx
 have ky:=bA (σ:=⟨n,tm,hp⟩) r hy
 obtain ⟨nb,hb,ex⟩:=kx.yo
 obtain ⟨L,c,M',N8,qI,p1,p2,p3,p4,p5,p6,p7,p8⟩:=AS (mM.inj P kt) r.hp f
 obtain rfl:N8=nb:=by rw [p4] at hb;exact Option.some.inj hb
 rw [← wN p1 p8] at h
 have yq:=mM.find (P:=P) (t:=kt) (g:=gk) ky qI.toList (M'.map Prod.fst) (by simpa using p6.symm) (fun j k' e h1 h2=>by
  rw [List.getElem?_map] at h1
  cases hm:M'[j]? with
  | none=>rw [hm] at h1;cases h1
  | some q=>rw [hm] at h1;rw [← Option.some.inj h1];exact (p7 j q e hm h2).1)
 rcases yp (gv:=gv) (w:=w) (S:=S) (k:=key) M' qI.toList 0 p6.symm (fun j e m h1 h2=>(p7 j e m h1 h2).2) with ⟨q1,q2⟩ | ⟨v',j,val,q1,q2,q3,_⟩
 ·rw [q1] at h;cases h
 ·rw [q1] at h
  obtain rfl:=Option.some.inj h
  refine ⟨val,fun w1 e1=>?_,q3⟩
  simp [execOp,Instr.lookup,ex,run_underlying (aP.h (P:=P) (t:=t)),qk (e1.heap p5),mM.check (P:=P) (t:=kt) ky,yq,q2]
end rules
section todo
variable {P:Program} {R:St→Prop} {k:List It} {σ:St}
theorem cD {α:Type} {c:Operand} {x y:Code} {p:Prop} [Decidable p] {a b z:α} (h:(if p then a else b)=z) (hc:dm σ.tm c=some (.bool (decide p))) (h1:a=z→aa P R (.code x :: k) σ) (h2:b=z→aa P R (.code y :: k) σ):aa P R (.code (.cond c x y) :: k) σ:=
 aa.OJ hc (fun hp=>h1 (sW hp h)) (fun hp=>h2 (zq hp h))
theorem cB {α:Type} {c:Operand} {x y:Code} {p:Bool} {a b z:α} (h:(if p=true then a else b)=z) (hc:dm σ.tm c=some (.bool p)) (h1:a=z→aa P R (.code x :: k) σ) (h2:b=z→aa P R (.code y :: k) σ):aa P R (.code (.cond c x y) :: k) σ:=
 aa.cond hc (fun hp=>h1 (sW hp h)) (fun hp=>h2 (ye hp h))
end todo
section rules
variable {P:Program} {all:Array Oper} {rest:List Oper} {n:Nat} {tm:List (Nat×AV)} {hp:Heap} {Q:St→Prop} {d:Nat} {ty:TypeId} {pos:String} {af:Array Edge} {op:Op} {s:Nat} {j:Nat}
theorem gT {α:Type} {p:Prop} [Decidable p] {a b z:α} (h:(if p then a else b)=z) (hj:(all[j]?).bind (·.dst)=some s) (hs:lk tm s=some (.bool (decide p))) (hn:Nat.blt d n=true) (h1:a=z→ae P all (⟨some d,op,ty,pos,af,none⟩ :: rest) ⟨n,(s,.bool true) :: tm,hp⟩ Q)
 (h2:b=z→ae P all rest ⟨n,(d,.raw undef) :: (s,.bool false) :: tm,hp⟩ Q):ae P all (⟨some d,op,ty,pos,af,some (j,true)⟩ :: rest) ⟨n,tm,hp⟩ Q:=
 ae.bH hj hs hn (fun hp=>h1 (sW hp h)) (fun hp=>h2 (zq hp h))
theorem gF {α:Type} {p:Prop} [Decidable p] {a b z:α} (h:(if p then a else b)=z) (hj:(all[j]?).bind (·.dst)=some s) (hs:lk tm s=some (.bool (decide p))) (hn:Nat.blt d n=true) (h1:b=z→ae P all (⟨some d,op,ty,pos,af,none⟩ :: rest) ⟨n,(s,.bool false) :: tm,hp⟩ Q)
 (h2:a=z→ae P all rest ⟨n,(d,.raw undef) :: (s,.bool true) :: tm,hp⟩ Q):ae P all (⟨some d,op,ty,pos,af,some (j,false)⟩ :: rest) ⟨n,tm,hp⟩ Q:=
 ae.ff hj hs hn (fun hp=>h1 (zq hp h)) (fun hp=>h2 (sW hp h))
end rules
theorem hP {P:Program} {σ:St} {s:Nat} {av:AV} {Q:List AV→St→Prop} (h1:lk σ.tm s=some av) (h2:Q [av] σ):aj σ (fun aH=>∃ rs,Rs P aH [.tmp s] rs∧Q rs aH):=aj.here ⟨[av],.cons (.tmp _ _ h1) .nil,h2⟩
theorem cR {hp:Heap} {l:List AV}:yc hp l l:=yc.refl _
theorem hH {P:Program} {σ:St} {s:Nat} {av:AV} {Q:List AV→Heap→Prop} {cN:Heap} (h1:lk σ.tm s=some av) (is:List Nat) (hs:BI σ.hp is=some cN) (h2:Q [av] cN):aj σ (fun aH=>∃ rs,Rs P aH [.tmp s] rs∧(∃ h',HS aH.hp h'∧Q rs h')):=aj.here ⟨[av],.cons (.tmp _ _ h1) .nil,cN,yu hs,h2⟩
theorem hQ {P:Program} {σ:St} {s t:Nat} {av aw:AV} {Q:List AV→St→Prop} (h1:lk σ.tm s=some av) (CR:lk σ.tm t=some aw) (h2:Q [av,aw] σ):aj σ (fun aH=>∃ rs,Rs P aH [.tmp s,.tmp t] rs∧Q rs aH):=aj.here ⟨[av,aw],.cons (.tmp _ _ h1) (.cons (.tmp _ _ CR) .nil),h2⟩
theorem hI {P:Program} {σ:St} {s t:Nat} {av aw:AV} {Q:List AV→Heap→Prop} {cN:Heap} (h1:lk σ.tm s=some av) (CR:lk σ.tm t=some aw) (is:List Nat) (hs:BI σ.hp is=some cN) (h2:Q [av,aw] cN):aj σ (fun aH=>∃ rs,Rs P aH [.tmp s,.tmp t] rs∧(∃ h',HS aH.hp h'∧Q rs h')):=aj.here ⟨[av,aw],.cons (.tmp _ _ h1) (.cons (.tmp _ _ CR) .nil),cN,yu hs,h2⟩
end Go.Eng
namespace Go.Eng
open Go
section
variable {K V:Type} [DecidableEq K] [xK K]
end
end Go.Eng
namespace Go.Eng
open Go
variable [bM]
section rules
variable {P:Program} {all:Array Oper} {n:Nat} {B:Heap} {tk:List Tok} {dy:List Nat} {i:Nat} {rest:List Oper} {tm qj:List (Nat×AV)} {acc:(Nat→Bk)→List (Nat×AV)} {Q:(Nat→Bk)→List (Nat×AV)→Prop} {d:Nat} {ty:TypeId} {pos:String} {af:Array Edge} {op:Op}
end rules
section
variable {P:Program} {R:St→Prop} {k:List It} {σ:St}
end
inductive CD:Type 1 where
 | v (a:AV)
 | l {α:Type} (sz:Nat) (g:α→AV) (xs:List α)
def Kw (s:Nat→Bk):Nat→List CD→List AV
 | _,[]=>[]
 | k,.v a :: r=>a :: Kw s k r
 | k,.l sz _ xs :: r=>.sl sz (s k) 0 xs.length :: Kw s (k+1) r
def Pc (s:Nat→Bk):Nat→List CD→List (Bk×PO)
 | _,[]=>[]
 | k,.v _ :: r=>Pc s k r
 | k,.l sz g xs :: r=>(s k,.arr sz (xs.map g)) :: Pc s (k+1) r
def MW:List CD→List AV
 | []=>[]
 | .v a :: r=>a :: MW r
 | .l sz g xs :: r=>.list sz (xs.map g) :: MW r
theorem GO (s:Nat→Bk):∀ (k:Nat) (D:List CD),(Kw s k D).length=(MW D).length
 | _,[]=>rfl
 | k,.v a :: r=>congrArg (· +1) (GO s k r)
 | k,.l sz g xs :: r=>congrArg (· +1) (GO s (k+1) r)
structure KB {V:Type} (kb:Bk→(Nat→Bk)→V→List (Bk×PO)) (fs:V→List AV):Prop where
 ok:∃ D:V→List CD,(∀ b s v,kb b s v=(b,.cells (Kw s 0 (D v))) :: Pc s 0 (D v))∧∀ v,fs v=MW (D v)
theorem xO {b:Bk} {o:Ob}:∀ {h:Heap},(b,o)∈h→nM h b o
 | [],h=>by simp at h
 | e :: r,h=>by
   rcases List.mem_cons.1 h with rfl | h
   ·exact .here
   ·exact .next (xO h)
theorem GP {s:Nat→Bk} {hp:Heap}:∀ (D:List CD) (k:Nat),(∀ e∈Pc s k D,nM hp e.1 e.2.ob)→∀ (i:Nat) c c',(Kw s k D)[i]? =some c→(MW D)[i]? =some c'→pk hp c c'
 | [],_,_,i,c,c',h,_=>by simp [Kw] at h
 | .v a :: r,k,hf,i,c,c',h,h'=>by
   match i with
   | 0=>
     simp only [Kw,MW,List.getElem?_cons_zero,Option.some.injEq] at h h'
     subst h;subst h';exact .co (.refl _)
   | i+1=>exact GP r k (fun e he=>hf e (by simpa [Pc] using he)) i c c' (by simpa [Kw] using h) (by simpa [MW] using h')
 | .l sz g xs :: r,k,hf,i,c,c',h,h'=>by
   match i with
   | 0=>
     simp only [Kw,MW,List.getElem?_cons_zero,Option.some.injEq] at h h'
     subst h;subst h'
     exact .arr sz (s k) _ _ (hf (s k,.arr sz (xs.map g)) (by simp [Pc])) (by simp)
   | i+1=>exact GP r (k+1) (fun e he=>hf e (by simp only [Pc,List.mem_cons];exact .inr he)) i c c' (by simpa [Kw] using h) (by simpa [MW] using h')
theorem MX {e:Bk×PO} {l:List (Bk×PO)} (h:e∈l):(e.1,e.2.ob)∈GM l:=List.mem_map.2 ⟨e,h,rfl⟩
theorem KB.Zd {V:Type} {kb:Bk→(Nat→Bk)→V→List (Bk×PO)} {fs:V→List AV} (K:KB kb fs) (b:Bk) (s:Nat→Bk) (v:V) (cN:Heap):pk (GM (kb b s v)++cN) (.ptr b 0) (.bR (fs v)):=by
 obtain ⟨D,h1,h2⟩:=K.ok
 rw [h2]
 refine .box b (Kw s 0 (D v)) _ (xO (List.mem_append_left _ ?_)) (GO s 0 (D v)).symm (GP (D v) 0 fun e he=>xO (List.mem_append_left _ (MX ?_)))
 ·rw [h1];exact List.mem_cons_self ..
 ·rw [h1];exact List.mem_cons_of_mem _ he
def D7:List (Bk×PO)→Heap→Option Heap
 | [],r=>some r
 | (b,.cells cs) :: l,r=>match D7 l r with
   | some m=>some ((b,.cells cs) :: m)
   | none=>none
 | (b,.arr sz xs) :: l,r=>match D7 l r with
   | some m=>some ((b,.arr sz xs) :: m)
   | none=>none
theorem AW:∀ {l:List (Bk×PO)} {r m:Heap},D7 l r=some m→GM l++r=m
 | [],r,m,h=>Option.some.inj h
 | (b,.cells cs) :: l,r,m,h=>by
   unfold D7 at h
   split at h
   ·rename_i m' hm
    obtain rfl:=Option.some.inj h
    rw [← AW hm];rfl
   ·cases h
 | (b,.arr sz xs) :: l,r,m,h=>by
   unfold D7 at h
   split at h
   ·rename_i m' hm
    obtain rfl:=Option.some.inj h
    rw [← AW hm];rfl
   ·cases h
theorem Ft {l:List (Bk×PO)} {m:Heap} (h:D7 l []=some m):m=GM l:=by rw [← AW h,List.append_nil]
section view
variable {V:Type} {kb:Bk→(Nat→Bk)→V→List (Bk×PO)} {fs:V→List AV} {bo:Nat→Bk} {bs:Nat→Nat→Bk} {M:List V} {i:Int} {v:V} {hp cN Gt:Heap} {b bp:Bk}
theorem Kx {w:World} {S:Nat→Prop} (r:cI w S hp) (h:idx M i=some v) (u:nN hp bp (.cm (nT kb bo bs M)) bp (.cm (D6 kb bo bs M i)) cN):cI w S (GM (kb (bo i.toNat) (bs i.toNat) v)++cN)∧∀ n,Has (GM (kb (bo i.toNat) (bs i.toNat) v)++cN) n→Has hp n:=by
 obtain ⟨r1,e1⟩:=xL _ _ r u (Dm h)
 refine ⟨r1,fun n hn=>?_⟩
 rcases e1.new n hn with h | h
 ·exact h
 ·have:=r1.lt hn;omega
theorem MY {o:Ob} {hp:Heap} (f:nM hp b o) (o':Ob):∃ cN,nN hp b o b o' cN:=by
 induction f with
 | here=>exact ⟨_,.here⟩
 | next _ ih=>obtain ⟨h,u⟩:=ih;exact ⟨_,.next u⟩
 | skip _ ih=>obtain ⟨h,u⟩:=ih;exact ⟨_,.skip u⟩
theorem pk.MZ (K:KB kb fs) (h:idx M i=some v) (f:nM hp bp (.cm (nT kb bo bs M))):pk hp (pA bo i) (.bR (fs v)):=by
 obtain ⟨cN,u⟩:=MY f (.cm (D6 kb bo bs M i))
 refine .LL fun w S x r at_=>?_
 obtain ⟨r1,r2⟩:=Kx r h u
 exact ((K.Zd (bo i.toNat) (bs i.toNat) v cN).at r1 at_).mono fun m hm=>⟨hm.imp id (r2 m),rfl⟩
theorem pk.RF (K:KB kb fs) (h:idx M i=some v) (f:nM hp bp (.cm (nT kb bo bs M))):pk hp (.ptr (bo i.toNat) 0) (.bR (fs v)):=pk.MZ K h f
def idxs (M:List V):List Int→Option (List V)
 | []=>some []
 | i :: r=>(idx M i).bind fun v=>(idxs M r).bind fun l=>some (v :: l)
theorem Dn {M:List V} {i:Int} {r:List Int} {vs:List V} (h:idxs M (i :: r)=some vs):∃ v l,idx M i=some v∧idxs M r=some l∧vs=v :: l:=by
 unfold idxs at h
 cases h1:idx M i with
 | none=>rw [h1] at h;cases h
 | some v=>
   rw [h1] at h
   cases h2:idxs M r with
   | none=>rw [h2] at h;cases h
   | some l=>rw [h2] at h;exact ⟨v,l,rfl,rfl,(Option.some.inj h).symm⟩
theorem Fu {M:List V}:∀ {l:List Int} {vs:List V},idxs M l=some vs→vs.length=l.length
 | [],vs,h=>by obtain rfl:=Option.some.inj h;rfl
 | i :: r,vs,h=>by obtain ⟨v,l,_,h2,rfl⟩:=Dn h;simp [Fu h2]
theorem Fv {M:List V}:∀ {l:List Int} {vs:List V},idxs M l=some vs→∀ (j:Nat) i,l[j]? =some i→∃ v,vs[j]? =some v∧idx M i=some v
 | [],vs,_,j,i,h=>by simp at h
 | i0 :: r,vs,h,j,i,hj=>by
   obtain ⟨v,l,h1,h2,rfl⟩:=Dn h
   match j with
   | 0=>simp at hj;subst hj;exact ⟨v,rfl,h1⟩
   | j+1=>exact Fv h2 j i (by simpa using hj)
theorem Dp {α:Type} (f:α→AV) (h:∀ x,(f x).cells=[f x]) (l:List α):flat (l.map f)=l.map f:=by
 induction l with
 | nil=>rfl
 | cons x r ih=>rw [List.map_cons,gI,h,ih];rfl
theorem pk.Pd (K:KB kb fs) {l:List Int} {vs:List V} (hl:idxs M l=some vs) (f:nM hp b (.arr 1 (l.map (pA bo)))∨nM hp b (.x3 1 (l.map (pA bo)))) (fp:nM hp bp (.cm (nT kb bo bs M))):pk hp (.sl 1 b 0 l.length) (.list 1 (vs.map fun x=>.bR (fs x))):=by
 refine .LL fun w S x r at_=>?_
 have h0:At w (SB S hp) (.list 1 (l.map (pA bo))) x:=by
  have h1:pk hp (.sl 1 b 0 l.length) (.list 1 (l.map (pA bo))):=by
   rcases f with f | f
   ·exact .arr 1 b _ _ f (by simp)
   ·exact .co (.x3 1 b _ _ f (by simp))
  exact h1.at r at_
 have hlen:=Fu hl
 cases h0 with
 | list sz xs a cap ws jZ Oc hh hm hc=>
   have e1:flat (l.map (pA bo))=l.map (pA bo):=Dp _ (fun _=>rfl) l
   have e2:flat (vs.map fun x=>AV.bR (fs x))=vs.map fun x=>AV.bR (fs x):=Dp _ (fun _=>rfl) vs
   rw [e1] at Oc hh
   have:(vs.map fun x=>AV.bR (fs x)).length=(l.map (pA bo)).length:=by simp [hlen]
   rw [← this] at hc ⊢
   refine .list 1 _ a cap ws (fun y hy=>?_) (by rw [e2,this];exact Oc) (fun j c v' x9 hv=>?_) hm hc
   ·obtain ⟨q,_,rfl⟩:=List.mem_map.1 hy
    exact ⟨rfl,fun c hc=>by simp only [AV.cells,List.mem_singleton] at hc;subst hc;rfl⟩
   ·rw [e2] at x9
    have hj:j < l.length:=by
     have:=(List.getElem?_eq_some_iff.1 x9).1
     simp [hlen] at this;exact this
    obtain ⟨y,hy,S9⟩:=Fv hl j l[j] (by simp [hj])
    rw [List.getElem?_map,hy] at x9
    obtain rfl:=Option.some.inj x9
    have ha:=hh j (pA bo l[j]) v' (by simp [hj]) hv
    have D5:At w S (pA bo l[j]) v':=by
     unfold pA at ha ⊢
     cases ha with
     | ptr _ _ n hb=>exact .ptr _ _ n hb
    exact (pk.MZ K S9 fp).at r D5
end view
theorem aj.Fw {n:Nat} {tm:List (Nat×AV)} {hp cN Gt:Heap} {T:St→Prop} {V:Type} {kb:Bk→(Nat→Bk)→V→List (Bk×PO)} {bo:Nat→Bk} {bs:Nat→Nat→Bk} {M:List V} {i:Int} {v:V} {bp:Bk} (h:idx M i=some v) (u:nN hp bp (.cm (nT kb bo bs M)) bp (.cm (D6 kb bo bs M i)) cN) (e:D7 (kb (bo i.toNat) (bs i.toNat) v) cN=some Gt)
 (k:aj ⟨n,tm,Gt⟩ T):aj ⟨n,tm,hp⟩ T:=aj.MT h u (by rw [AW e];exact k)
theorem aj.HD {n:Nat} {tm:List (Nat×AV)} {hp re h0:Heap} {cN:(Nat→Nat→Bk)→Heap} {T:St→Prop} {V:Type} {kb:Bk→(Nat→Bk)→V→List (Bk×PO)} {bo:Nat→Bk} {bs:Nat→Nat→Bk} {M:List V} {i:Int} {v v':V} {bp:Bk} {s:Nat→Bk} (h:idx M i=some v) (hs:C5 hp h0 re) (ho:D7 (kb (bo i.toNat) s v') []=some h0) (u:∀ vp,nN re bp (.cm (D6 kb bo bs M i)) bp (.cm (nT kb bo vp (M.set i.toNat v'))) (cN vp))
 (k:∀ vp,aj ⟨n,tm,cN vp⟩ T):aj ⟨n,tm,hp⟩ T:=aj.O8 h rfl rfl hs (Ft ho) u k
theorem aj.HE {n:Nat} {tm:List (Nat×AV)} {hp re h0:Heap} {cN:(Nat→Bk)→(Nat→Nat→Bk)→Heap} {T:St→Prop} {V:Type} {kb:Bk→(Nat→Bk)→V→List (Bk×PO)} {bo:Nat→Bk} {bs:Nat→Nat→Bk} {M:List V} {v:V} {b bp:Bk} {s:Nat→Bk} (hs:C5 hp h0 re) (ho:D7 (kb b s v) []=some h0) (u:∀ tX vp,nN re bp (.cm (nT kb bo bs M)) bp (.cm (nT kb tX vp (M++[v]))) (cN tX vp))
 (k:∀ tX vp,(∀ j,j < M.length→tX j=bo j)→tX M.length=b→aj ⟨n,tm,cN tX vp⟩ T):aj ⟨n,tm,hp⟩ T:=aj.O9 hs (Ft ho) u k
theorem RG {n:Nat} {a c:List Int} {u:Unit} (h:EN n (a++c)=some u):EN n a=some ():=by
 have:=yw h
 unfold EN;rw [if_pos]
 exact fun x hx=>this x (List.mem_append_left _ hx)
theorem RH {n:Nat} {a c:List Int} {u:Unit} (h:EN n (a++c)=some u):EN n c=some ():=by
 have:=yw h
 unfold EN;rw [if_pos]
 exact fun x hx=>this x (List.mem_append_right _ hx)
theorem D8 {bo:Nat→Bk} {N:Nat} {b:Bk} (h:bo N=b) (o:Nat):AV.ptr (bo ((N:Nat):Int).toNat) o=AV.ptr b o:=Pb h o
theorem Ky {bo tX:Nat→Bk} {N:Nat} (h:∀ j,j < N→tX j=bo j) {l:List Int} {u:Unit} (hg:EN N l=some u):Ob.arr 1 (l.map (pA bo))=Ob.arr 1 (l.map (pA tX)):=congrArg (Ob.arr 1) (MU h hg)
theorem RI {K:Type} {gk:K→AV} {bo tX:Nat→Bk} {N:Nat} (h:∀ j,j < N→tX j=bo j) {M:List (K×Int)} {u:Unit} (hg:EN N (M.map Prod.snd)=some u):Ob.mp (M.map fun e=>(gk e.1,pA bo e.2))=Ob.mp (M.map fun e=>(gk e.1,pA tX e.2)):=congrArg Ob.mp (Pa h hg)
def Ta (l:List Bk) (k:Nat):Bk:=l.getD k ⟨none,0⟩
theorem aj.Kz {n s:Nat} {tm:List (Nat×AV)} {hp h0 re:Heap} {T:St→Prop} {av cy:AV} (hs:lk tm s=some av) (UT:C5 hp h0 re) (co:pk h0 av cy) (k:aj ⟨n,(s,cy) :: tm,re⟩ T):aj ⟨n,tm,hp⟩ T:=by
 refine aj.step (Aq:=⟨n,(s,cy) :: tm,re⟩) (fun w S a r=>?_) k
 obtain ⟨g0,e0⟩:=r.hp.same UT.perm
 let S':Nat→Prop:=SB S h0
 have mono:∀ m,S m→S' m∧w.heap[m]? =w.heap[m]?:=fun m hm=>⟨.inl hm,rfl⟩
 have vE:=g0.nodup
 have vk:re.Sublist (h0++re):=List.sublist_append_right _ _
 have KA:h0.Sublist (h0++re):=List.sublist_append_left _ _
 have vH:cI w S' re:=by
  refine ⟨vE.sublist (vy vk),fun e he=>(g0.holds e (vk.subset he)).mono mono (fun _ _=>rfl),fun e he m hm=>?_,fun m hm=>?_,fun g o ho=>⟨.inl (r.hp.iy g o ho).1,(r.hp.iy g o ho).2⟩⟩
  ·rw [← g0.sep e (vk.subset he) m hm]
   refine ⟨fun hs=>hs.elim id fun ⟨x,hx,IK⟩=>?_,.inl⟩
   exfalso
   rw [List.flatMap_append,List.nodup_append] at vE
   exact vE.2.2 m (List.mem_flatMap.2 ⟨x,hx,IK⟩) m (List.mem_flatMap.2 ⟨e,he,hm⟩) rfl
  ·rcases hm with h | ⟨x,hx,IK⟩
   ·exact r.hp.slt m h
   ·exact g0.lt ⟨x,KA.subset hx,IK⟩
 have hr:=r.heap mono vH
 refine ⟨_,S',rfl,⟨hr.size,hr.defers,fun t av h=>?_,hr.hp⟩,rfl,rfl,rfl,Nat.le_refl _,mono,fun m hm hh=>⟨rfl,fun hs=>hs.elim id fun ⟨x,hx,IK⟩=>(hh ⟨x,UT.perm.mem_iff.2 (KA.subset hx),IK⟩).elim⟩,fun m hm=>.inl ?_,fun _=>Nat.le_refl _⟩
 ·simp only [lk] at h
  split at h
  ·rename_i UR
   obtain rfl:s=t:=by simpa using UR
   obtain rfl:=Option.some.inj h
   obtain ⟨v,e1,e2⟩:=r.tm s _ hs
   exact ⟨v,e1,co.at (g0.sub KA) e2⟩
  ·exact hr.tm t av h
 ·obtain ⟨e,he,hb⟩:=hm
  exact ⟨e,UT.perm.mem_iff.2 (vk.subset he),hb⟩
end Go.Eng
namespace Go.Eng
open Go Go.Sort Go.Proofs
variable [bM]
structure HF (P:Program) (f:FuncId):Prop where
 some_:∀ (enc:Nat→Value) (_:OneCell enc) (cf:Nat→Nat→Int) (_:SWO (ltOf cf)) (g:Nat) (cb:Array Value) (cu off cap:Nat) (d:Array Nat) (w:World)
  (_:∀ args w,(callFunc g args).run P w=.ok (.enter g args) w) (_:CmpLays1 P g cb enc cf cu off d.size w) (_:Sort.Holds enc w cu off d) (_:cu < w.heap.size) (_:d.size < 4611686018427387904),
  Calls P f #[.slice (some ⟨cu,off,none⟩) d.size cap,.func (.func g) #[] cb] w fun e w'=>
   e=.returned (.tuple #[])∧∃ n os,w'=sortWorld enc w cu off n (pdq (ltOf cf) d 0 d.size (Lib.bitLen d.size) true true) os
 none_:∀ (p:Option Addr) (cap:Nat) (fv:Value) (w:World),Calls P f #[.slice p 0 cap,fv] w fun e w'=>e=.returned (.tuple #[])∧w'=w
theorem Fx {P:Program} {α:Type} {f:FuncId} (K:HF P f) {gf:FuncId} [bF P gf] {g:α→AV} {C C':List AV} {LY:Heap} {fn:α→α→Option Int}
 (Kk:∀ {x y:α} {u:Int},fn x y=some u→∃ a c,pk LY (g x) a∧pk LY (g y) c∧@Pu nP P gf (a :: c :: C') (I u)) (hC:rO LY C C')
 (Qf:∀ x,(g x).cells=[g x]) (Bb:∀ x,(g x).one=true) {Xs Ys:List α} {b:Bk} (h:BB fn Xs=some Ys):
 aT P f [.sl 1 b 0 Xs.length,.func (.func gf) C] ((b,.arr 1 (Xs.map g)) :: LY) (T0 ((b,.arr 1 (Ys.map g)) :: LY) (.oL [])):=by
 intro w S vs r hl ha
 obtain ⟨v0,v1,rfl⟩:∃ v0 v1,vs=#[v0,v1]:=by
  match vs,hl with
  | ⟨[v0,v1]⟩,_=>exact ⟨v0,v1,rfl⟩
 have a0:=ha 0 _ v0 rfl rfl
 have a1:=ha 1 _ v1 rfl rfl
 obtain ⟨oa,cap,rfl,e2⟩:=a0.uB
 obtain ⟨cv,rfl,Bd,UE⟩:=a1.x8
 match Xs,h with
 | [],h=>
   obtain rfl:=Option.some.inj h
   refine (K.none_ oa cap _ w).mono ?_
   rintro e w' ⟨rfl,rfl⟩
   exact ⟨_,.oL [],_,S,rfl,⟨rfl,rfl⟩,.oL [] #[] rfl (fun i c v hc=>by simp at hc),r,k9.refl _ _ _⟩
 | x :: xr,h=>
   rw [uG] at h
   by_cases hc:(xr.length+1 < 4611686018427387904∧(∀ a∈x :: xr,∀ b∈x :: xr,∃ u,fn a b=some u)∧SWO (ltOf (rQ fn x xr)))
   ·rw [if_pos hc] at h
    obtain rfl:=Option.some.inj h
    obtain ⟨hlen,OW,hO⟩:=hc
    have oy:(b,Ob.arr 1 ((x :: xr).map g))∈(b,Ob.arr 1 ((x :: xr).map g)) :: LY:=List.mem_cons_self ..
    obtain ⟨h0,h1,h2⟩:=r.holds _ oy
    replace h1:xr.length+1≤b.cap:=by simpa using h1
    rcases h2 with ⟨_,JJ⟩ | ⟨m,row,E,hb,Bu,jZ,sV⟩
    ·have Rl:b.cap=0:=JJ
     omega
    rcases e2 with ⟨hn,_,_,_,_⟩ | ⟨m',Ar,rfl,hle,UG⟩ | ⟨m',ad,_,_,OK,_⟩
    ·rw [hn] at hb;cases hb
    ·obtain rfl:m'=m:=by rw [Ar] at hb;exact Option.some.inj hb
     have OX:m' < w.heap.size:=tP Bu
     have nS:¬ S m':=fun hs=>by have:=(r.sep _ oy m' (ki hb)).1 hs;exact this
     have nR:¬ Has LY m':=fun ⟨e,he,tQ⟩=>by
      have:=r.nodup
      rw [List.flatMap_cons,List.nodup_append] at this
      exact this.2.2 m' (ki hb) m' (List.mem_flatMap.2 ⟨e,he,tQ⟩) rfl
     have rR:cI w S LY:=r.sub (List.sublist_cons_self _ _)
     rw [zt Qf] at sV
     have Uk:xr.length+1≤row.size:=by rw [show row.size=b.cap from jZ.trans (Nat.mul_one _)];exact h1
     let ix:Nat→Nat:=fun i=>if i < xr.length+1 then i else 0
     have UH:∀ i,ix i < xr.length+1:=fun i=>by simp only [ix];split<;>omega
     have OY:∀ i,(x :: xr)[ix i]? =some (tD x xr i):=by
      intro i
      simp only [ix,tD,List.getD_eq_getElem?_getD]
      split
      ·rename_i hi
       rw [List.getElem?_eq_getElem (by simpa using hi)];simp
      ·rename_i hi
       rw [List.getElem?_eq_none (l:=x :: xr) (i:=i) (by simp;omega)];simp
     let enc:Nat→Value:=fun i=>row[ix i]!
     have Fk:∀ i,At w S (g (tD x xr i)) (enc i):=by
      intro i
      have hi:=UH i
      refine sV (ix i) _ _ (by rw [List.getElem?_map,OY i];rfl) ?_
      simp only [enc]
      rw [getElem!_pos row (ix i) (by omega),Array.getElem?_eq_getElem (by omega)]
     have OZ:OneCell enc:=fun i=>(Fk i).Gs (Bb _)
     have Kl:Sort.Holds enc w m' 0 (Array.range (xr.length+1)):=by
      intro j hj
      rw [Array.size_range] at hj
      have MJ:j < row.size:=by omega
      have e1:enc (Array.range (xr.length+1))[j]! =row[j]:=by
       rw [getElem!_pos _ _ (by simpa using hj),Array.getElem_range]
       simp only [enc,ix,if_pos hj]
       rw [getElem!_pos row j MJ]
      rw [e1]
      constructor
      ·simp only [World.cell?,Bu,Nat.zero_add,Option.isSome_none,Bool.false_eq_true,if_false]
       rw [Array.getElem?_eq_getElem MJ]
      ·simp [World.frozen?,Bu]
     have E2:∀ (mm:Nat) (dk:Array Nat) (os:Array Obj) (n:Nat),n < w.heap.size→n≠m'→(sortWorld enc w m' 0 mm dk os).heap[n]? =w.heap[n]?:=fun mm dk os n hn sT=>II enc w m' 0 mm dk os hn sT
     have CV:∀ (mm:Nat) (dk:Array Nat) (os:Array Obj),w.heap.size≤(sortWorld enc w m' 0 mm dk os).heap.size:=fun mm dk os=>by unfold sortWorld;simp
     have Qm:∀ (mm:Nat) (dk:Array Nat) (os:Array Obj) n,S n→S n∧(sortWorld enc w m' 0 mm dk os).heap[n]? =w.heap[n]?:=fun mm dk os n hs=>⟨hs,E2 mm dk os n (r.slt n hs) (fun e=>nS (e▸hs))⟩
     have RJ:∀ (mm:Nat) (dk:Array Nat) (os:Array Obj),cI (sortWorld enc w m' 0 mm dk os) S LY:=fun mm dk os=>
      ⟨rR.nodup,fun e he=>(rR.holds e he).mono (Qm mm dk os) (fun n hn=>E2 mm dk os n (rR.lt ⟨e,he,hn⟩) (fun e'=>nR ⟨e,he,e'▸hn⟩)),rR.sep,fun n hn=>Nat.lt_of_lt_of_le (rR.slt n hn) (CV mm dk os),fun g o ho=>⟨(r.iy g o ho).1,CQ (Qm mm dk os g (r.iy g o ho).1).2 (r.iy g o ho).2⟩⟩
     have O0:CmpLays1 P gf cv enc (rQ fn x xr) m' 0 (Array.range (xr.length+1)).size w:=by
      intro mm os dk Y4 i j
      obtain ⟨u,hu⟩:=OW _ (ji x xr i) _ (ji x xr j)
      obtain ⟨a,c,ca,cc,hp⟩:=Kk hu
      have rr:=RJ mm dk os
      have Ze:(g (tD x xr i) :: g (tD x xr j) :: C).length=([enc i,enc j]++cv.toList).length:=by simp [‹C.length=cv.size›]
      have Hx:mR (sortWorld enc w m' 0 mm dk os) S (g (tD x xr i) :: g (tD x xr j) :: C) (([enc i,enc j]++cv.toList).toArray):=by
       intro q e v he hv
       match q with
       | 0=>simp at he hv;subst he;subst hv;exact (Fk i).mono (Qm mm dk os)
       | 1=>simp at he hv;subst he;subst hv;exact (Fk j).mono (Qm mm dk os)
       | q+2=>
         simp only [List.getElem?_cons_succ] at he
         have Qg:cv[q]? =some v:=by simpa using hv
         exact (UE q e v he Qg).mono (Qm mm dk os)
      obtain ⟨k1,k2⟩:=rO.at rr (.cons ca (.cons cc hC)) Ze Hx
      have e1:(#[enc i,enc j]++cv:Array Value)=([enc i,enc j]++cv.toList).toArray:=by simp
      rw [e1]
      refine (hp _ (SB S LY) _ (@sq nP _ _ (fun n hn=>hn.elim (rr.slt n) fun h=>rr.lt h) (fun g o ho=>⟨.inl (rr.iy g o ho).1,(rr.iy g o ho).2⟩)) (by simpa using k1) k2).mono ?_
      rintro e w' ⟨v,rv,h',S',rfl,hq,h3,h4,h5⟩
      obtain rfl:=hq
      rw [h3.eG]
      refine ⟨?_,@Ext.grown nP _ _ trivial (@k9.C2 nP _ _ _ _ _ h5)⟩
      unfold rQ
      rw [hu];rfl
     have MK:(Array.range (xr.length+1)).size=xr.length+1:=Array.size_range
     have Fl:=K.some_ enc OZ (rQ fn x xr) hO gf cv m' 0 cap (Array.range (xr.length+1)) w (fun args w=>rK gf args w) O0 Kl OX (by rw [MK];exact hlen)
     rw [MK] at Fl
     simp only [Nat.zero_mul]
     refine Fl.mono ?_
     rintro e w' ⟨rfl,q,os,rfl⟩
     have LW:=pdq_sorts (ltOf (rQ fn x xr)) hO (Array.range (xr.length+1)) 0 (xr.length+1) (Lib.bitLen (xr.length+1)) true true (Nat.zero_le _) (by rw [MK];exact Nat.le_refl _) (Or.inl rfl)
     generalize Az:pdq (ltOf (rQ fn x xr)) (Array.range (xr.length+1)) 0 (xr.length+1) (Lib.bitLen (xr.length+1)) true true=d' at LW ⊢
     have Fm:d'.size=xr.length+1:=by rw [LW.1.1,MK]
     have hW:=Qm q d' os
     have Rn:∀ y∈(d'.toList.map (tD x xr)).map g,El 1 y:=by
      intro y hy
      simp only [List.mem_map] at hy
      obtain ⟨z,⟨i,_,rfl⟩,rfl⟩:=hy
      exact h0 _ (List.mem_map.2 ⟨_,ji x xr i,rfl⟩)
     have hh:Go.Eng.Holds (sortWorld enc w m' 0 q d' os) S b (.arr 1 ((d'.toList.map (tD x xr)).map g)):=by
      refine ⟨Rn,by simp [Fm];omega,.inr ⟨m',_,E,hb,Ko enc w m' q d' os Bu,by simp [putCells,jZ],?_⟩⟩
      rw [zt Qf]
      intro j c v hc hv
      have Jl:j < xr.length+1:=by
       have:=(List.getElem?_eq_some_iff.1 hc).1
       simpa [Fm] using this
      have MJ:j < row.size:=by omega
      have UI:(d'.toList.map (tD x xr))[j]? =some (tD x xr d'[j]!):=by
       rw [List.getElem?_map,Array.getElem?_toList,Array.getElem?_eq_getElem (by omega),getElem!_pos d' j (by omega)];rfl
      rw [List.getElem?_map,UI] at hc
      obtain rfl:=Option.some.inj hc
      simp only [putCells,Array.getElem?_mapIdx,Array.getElem?_eq_getElem MJ,Option.map_some,Option.some.injEq] at hv
      rw [if_pos ⟨Nat.zero_le _,by rw [Fm];omega⟩,Nat.sub_zero] at hv
      rw [← hv]
      exact (Fk _).mono hW
     have Km:=CV q d' os
     have rN:=RJ q d' os
     refine ⟨_,.oL [],_,S,rfl,⟨rfl,rfl⟩,.oL [] #[] rfl (fun i c v hc=>by simp at hc),⟨r.nodup,fun e he=>?_,fun e he n hn=>?_,fun n hn=>Nat.lt_of_lt_of_le (r.slt n hn) Km,rN.iy⟩,?_⟩
     ·rcases List.mem_cons.1 he with rfl | he
      ·exact hh
      ·exact rN.holds e he
     ·rcases List.mem_cons.1 he with rfl | he
      ·replace hn:=(vw rfl).1 hn
       rw [hb] at hn
       obtain rfl:=Option.some.inj hn
       exact ⟨fun hs=>(nS hs).elim,fun hf=>hf.elim⟩
      ·exact rN.sep e he n hn
     ·refine ⟨rfl,rfl,rfl,Km,hW,fun n hn UJ=>⟨E2 q d' os n hn (fun e=>UJ ⟨_,oy,by rw [e];exact ki hb⟩),id⟩,?_,?_⟩
      ·rintro n ⟨e,he,tQ⟩
       rcases List.mem_cons.1 he with rfl | he
       ·exact .inl ⟨_,oy,tQ⟩
       ·exact .inl ⟨e,List.mem_cons_of_mem _ he,tQ⟩
      ·intro _
       show w.drawn≤w.drawn+q
       omega
    ·simp at OK
   ·rw [if_neg hc] at h;cases h
noncomputable def Fy {V:Type} (fn:V→V→Option Int) (M:List V) (l:List Int):Option (List Int):=
 BB (fun i j=>(idx M i).bind fun x=>(idx M j).bind fun y=>fn x y) l
theorem Ae {P:Program} {V:Type} {f:FuncId} (K:HF P f) {gf:FuncId} [bF P gf] {kb:Bk→(Nat→Bk)→V→List (Bk×PO)} {fs:V→List AV} (B:KB kb fs) {C:List AV} {fn:V→V→Option Int} (Kk:∀ {x y:V} {u:Int},fn x y=some u→@Pu nP P gf (.bR (fs x) :: .bR (fs y) :: C) (I u))
 {M:List V} {bo:Nat→Bk} {bs:Nat→Nat→Bk} {bp b:Bk} {l r:List Int} (h:Fy fn M l=some r):
 aT P f [.sl 1 b 0 l.length,.func (.func gf) C] [(b,.arr 1 (l.map (pA bo))),(bp,.cm (nT kb bo bs M))] (T0 [(b,.arr 1 (r.map (pA bo))),(bp,.cm (nT kb bo bs M))] (.oL [])):=by
 refine Fx K (g:=pA bo) (fn:=fun i j=>(idx M i).bind fun x=>(idx M j).bind fun y=>fn x y) (C':=C) ?_ (rO.refl C) (fun _=>rfl) (fun _=>rfl) h
 intro i j u hu
 cases hi:idx M i with
 | none=>rw [hi] at hu;cases hu
 | some x=>
   cases hj:idx M j with
   | none=>rw [hi,hj] at hu;cases hu
   | some y=>
     rw [hi,hj] at hu
     exact ⟨_,_,pk.MZ B hi .here,pk.MZ B hj .here,Kk hu⟩
theorem IN {α:Type} {fn:α→α→Option Int} {Xs Ys:List α} (h:BB fn Xs=some Ys):Ys.length=Xs.length:=by
 match Xs,h with
 | [],h=>obtain rfl:=Option.some.inj h;rfl
 | x :: xr,h=>
   rw [uG] at h
   by_cases hc:(xr.length+1 < 4611686018427387904∧(∀ a∈x :: xr,∀ b∈x :: xr,∃ u,fn a b=some u)∧SWO (ltOf (rQ fn x xr)))
   ·rw [if_pos hc] at h
    obtain rfl:=Option.some.inj h
    have LW:=pdq_sorts (ltOf (rQ fn x xr)) hc.2.2 (Array.range (xr.length+1)) 0 (xr.length+1) (Lib.bitLen (xr.length+1)) true true (Nat.zero_le _) (by rw [Array.size_range];exact Nat.le_refl _) (Or.inl rfl)
    have:=LW.1.1
    rw [Array.size_range] at this
    simp [this]
   ·rw [if_neg hc] at h;cases h
theorem wQ {V:Type} {fn:V→V→Option Int} {M:List V} {l r:List Int} (h:Fy fn M l=some r):r.length=l.length:=IN h
end Go.Eng
namespace Go.Eng
open Go
variable [bM]
section rules
variable {P:Program} {all:Array Oper} {rest:List Oper} {n:Nat} {tm:List (Nat×AV)} {hp:Heap} {Q:St→Prop} {d:Nat} {ty:TypeId} {pos:String} {af:Array Edge}
end rules
section rules
variable {P:Program} {all:Array Oper} {rest:List Oper} {n:Nat} {tm:List (Nat×AV)} {hp:Heap} {Q:St→Prop} {d:Nat} {ty:TypeId} {pos:String} {af:Array Edge}
end rules
section rules
variable {P:Program} {all:Array Oper} {rest:List Oper} {n:Nat} {tm:List (Nat×AV)} {hp:Heap} {Q:St→Prop} {d:Nat} {ty:TypeId} {pos:String} {af:Array Edge}
end rules
end Go.Eng
namespace Go.Eng
open Go Go.Proofs
variable [bM]
section rules
variable {P:Program} {all:Array Oper} {rest:List Oper} {n:Nat} {tm:List (Nat×AV)} {hp:Heap} {Q:St→Prop} {d:Nat} {ty:TypeId} {pos:String} {af:Array Edge}
end rules
end Go.Eng
namespace Go.Eng
open Go Go.Sort Go.Proofs
variable [bM]
section rules
variable {P:Program} {all:Array Oper} {rest:List Oper} {n:Nat} {tm:List (Nat×AV)} {hp:Heap} {Q:St→Prop} {d:Nat} {ty:TypeId} {pos:String} {af:Array Edge}
end rules
end Go.Eng
namespace Go.Eng
open Go Go.Proofs
variable [bM]
section rules
variable {P:Program} {all:Array Oper} {rest:List Oper} {n:Nat} {tm:List (Nat×AV)} {hp:Heap} {Q:St→Prop} {d:Nat} {ty:TypeId} {pos:String} {af:Array Edge}
end rules
section order
variable {P:Program} {all:Array Oper} {n m:Nat}
variable {ni:Nat→Option AV} {en:Nat→Env} {e:Env} {I:Array Bool→Act→World→(Nat→Prop)→Prop}
end order
section lit
variable {K V:Type} [DecidableEq K] [xK K]
variable {P:Program} {all:Array Oper} {n m:Nat} {hp:Heap} {p:Nat} {al:List (Nat×Nat)} {gk:K→AV} {gv:V→AV} {lit:List (Nat×K×V)}
end lit
section rules
variable {K V:Type} [DecidableEq K] [xK K] {P:Program} {all:Array Oper} {n:Nat} {hp:Heap} {p:Nat} {al:List (Nat×Nat)} {gk:K→AV} {gv:V→AV} {lit:List (Nat×K×V)} {A:List Nat}
variable {i:Nat} {l l1 l2 rest:List Oper} {tm:List (Nat×AV)} {Q:List (Nat×AV)→Prop} {d:Nat} {ty:TypeId} {pos:String} {af:Array Edge} {op:Op}
end rules
end Go.Eng
namespace Go.Eng
open Go
variable [bM]
section rules
variable {P:Program} {all:Array Oper} {rest:List Oper} {n:Nat} {tm:List (Nat×AV)} {hp:Heap} {Q:St→Prop} {d:Nat} {ty:TypeId} {pos:String} {af:Array Edge}
end rules
section
variable {P:Program} {n:Nat} {tm:List (Nat×AV)} {hp:Heap} {d:Nat} {ty:TypeId} {pos:String} {af:Array Edge}
end
section rules
variable {P:Program} {all:Array Oper} {rest:List Oper} {n:Nat} {tm:List (Nat×AV)} {hp:Heap} {Q:St→Prop} {d:Nat} {ty:TypeId} {pos:String} {af:Array Edge}
end rules
section rules
variable {P:Program} {all:Array Oper} {rest:List Oper} {n:Nat} {tm:List (Nat×AV)} {hp:Heap} {Q:St→Prop} {d:Nat} {ty:TypeId} {pos:String} {af:Array Edge}
end rules
section rules
variable {P:Program} {all:Array Oper} {rest:List Oper} {n:Nat} {tm:List (Nat×AV)} {hp:Heap} {Q:St→Prop} {d:Nat} {ty:TypeId} {pos:String} {af:Array Edge}
end rules
section rules
variable {P:Program} {all:Array Oper} {rest:List Oper} {n:Nat} {tm:List (Nat×AV)} {hp:Heap} {Q:St→Prop} {d:Nat} {ty:TypeId} {pos:String} {af:Array Edge}
end rules
section rules
variable {P:Program} {all:Array Oper} {rest:List Oper} {n:Nat} {tm:List (Nat×AV)} {hp:Heap} {Q:St→Prop} {d:Nat} {ty:TypeId} {pos:String} {af:Array Edge}
end rules
section plain
variable {K E:Type} [DecidableEq K]
end plain
section plain
variable {V E:Type}
def mT (sz:Nat) (g:E→AV) (rg:V→List E) (Xs:List (V×Bk)):List (Bk×PO):=Xs.map fun p=>(p.2,(rC sz g).po (rg p.1))
def Od (β:Nat→Bk):Nat→List V→List (V×Bk)
 | _,[]=>[]
 | i,x :: r=>(x,β i) :: Od β (i+1) r
def kZ (β:Nat→Bk) (l:List V):List (V×Bk):=Od β 0 l
theorem HG (β:Nat→Bk):∀ (l:List V) (i j:Nat),(Od β i l)[j]? =(l[j]?).map fun v=>(v,β (i+j))
 | [],i,j=>by simp [Od]
 | x :: r,i,0=>by simp [Od]
 | x :: r,i,j+1=>by
   unfold Od
   rw [List.getElem?_cons_succ,List.getElem?_cons_succ,HG β r (i+1) j,show i+1+j=i+(j+1) by omega]
theorem zB (β:Nat→Bk) (l:List V) (j:Nat):(kZ β l)[j]? =(l[j]?).map fun v=>(v,β j):=by
 unfold kZ
 rw [HG,Nat.zero_add]
theorem BN (β:Nat→Bk) (l:List V):(kZ β l).length=l.length:=by
 have:∀ (l:List V) (i:Nat),(Od β i l).length=l.length:=by
  intro l
  induction l with
  | nil=>intro i;rfl
  | cons x r ih=>intro i;unfold Od;rw [List.length_cons,List.length_cons,ih]
 exact this l 0
theorem Pe (β:Nat→Bk) (l:List V):(kZ β l).map Prod.fst=l:=by
 apply List.ext_getElem?
 intro j
 rw [List.getElem?_map,zB,Option.map_map]
 cases l[j]?<;>rfl
theorem Af {β:Nat→Bk} {l:List V} {i:Int} {v:V} (h:idx l i=some v):idx (kZ β l) i=some (v,β i.toNat):=by
 unfold idx at h ⊢
 split at h
 ·rename_i hi
  rw [if_pos hi,zB,h];rfl
 ·cases h
theorem Oe {β:Nat→Bk} {l:List V} {i:Int} {v:V} {b:Bk} (h:idx l i=some v) (hb:b=β i.toNat):idx (kZ β l) i=some (v,b):=by
 subst hb;exact Af h
theorem yx {β:Nat→Bk} {i j:Nat} {b:Bk}:AA β i b j=if j=i then b else β j:=rfl
theorem KC (β:Nat→Bk) (l:List V) (v:V) (b:Bk):kZ β l++[(v,b)]=kZ (AA β l.length b) (l++[v]):=by
 apply List.ext_getElem?
 intro j
 rw [zB,List.getElem?_append,List.getElem?_append,BN]
 by_cases hj:j < l.length
 ·rw [if_pos hj,if_pos hj,zB,yx,if_neg (by omega)]
 ·rw [if_neg hj,if_neg hj]
  by_cases h0:j - l.length=0
  ·rw [h0,yx,if_pos (by omega)];rfl
  ·rw [List.getElem?_eq_none (by simp;omega),List.getElem?_eq_none (by simp;omega)];rfl
theorem GQ (β:Nat→Bk) (l:List V) (i:Nat) (v:V) (b:Bk):(kZ β l).set i (v,b)=kZ (AA β i b) (l.set i v):=by
 apply List.ext_getElem?
 intro j
 rw [zB,List.getElem?_set,List.getElem?_set,BN,yx]
 by_cases hj:i=j
 ·subst hj
  rw [if_pos rfl,if_pos rfl,if_pos rfl]
  split<;>rfl
 ·rw [if_neg hj,if_neg hj,zB,if_neg (fun e=>hj e.symm)]
theorem KD (β:Nat→Bk) (i:Nat):AA β i (β i)=β:=by
 funext j
 rw [yx]
 split
 ·rename_i h;rw [h]
 ·rfl
theorem RL {β:Nat→Bk} {l:List V} {v:V} {z:List V} (h:app l [v]=some z) (b:Bk):app (kZ β l) [(v,b)]=some (kZ (AA β l.length b) z):=by
 obtain ⟨hb,rfl⟩:=yf h
 rw [← KC]
 unfold app
 rw [BN]
 exact if_pos (by simpa using hb)
theorem BO {α:Type}:∀ {Xs:List α} {i:Nat} {x:α},Xs[i]? =some x→Xs.Perm (x :: Xs.eraseIdx i)
 | y :: r,0,x,h=>by
   rw [List.getElem?_cons_zero,Option.some.injEq] at h
   subst h
   exact List.Perm.refl _
 | y :: r,i+1,x,h=>by
   rw [List.getElem?_cons_succ] at h
   exact ((BO h).cons y).trans (List.Perm.swap x y _)
theorem BP {α:Type}:∀ {Xs:List α} {i:Nat} {x:α} (y:α),Xs[i]? =some x→(Xs.set i y).Perm (y :: Xs.eraseIdx i)
 | z :: r,0,x,y,h=>List.Perm.refl _
 | z :: r,i+1,x,y,h=>by
   rw [List.getElem?_cons_succ] at h
   exact ((BP y h).cons z).trans (List.Perm.swap y z _)
end plain
theorem aj.UU {n:Nat} {tm:List (Nat×AV)} {hp:Heap} {T:St→Prop} (k:∀ bp:Bk,aj ⟨n,tm,(bp,.cm []) :: hp⟩ T):aj ⟨n,tm,hp⟩ T:=by
 refine aj.step (Aq:=⟨n,tm,(⟨none,0⟩,.cm []) :: hp⟩) (fun w S a r=>?_) (k _)
 obtain ⟨g1,g2,g3⟩:=uC (b:=⟨none,0⟩) (o:=.cm []) r.hp (Ext.refl w) id ⟨rfl,by simp⟩ (.inl rfl)
 exact ⟨_,S,rfl,r.heap (fun m hm=>⟨hm,rfl⟩) g1,g2⟩
section
variable {V E:Type} {sz:Nat} {g:E→AV} {rg:V→List E} {β:Nat→Bk} {l:List V} {n:Nat} {tm:List (Nat×AV)} {hp re Gt cN:Heap} {T:St→Prop} {bp:Bk}
theorem aj.RM {i:Int} {v:V} (h:idx l i=some v) (u:nN hp bp (.cm (mT sz g rg (kZ β l))) bp (.cm (mT sz g rg ((kZ β l).eraseIdx i.toNat))) cN) (k:∀ b,b=β i.toNat→aj ⟨n,tm,(b,.arr sz ((rg v).map g)) :: cN⟩ T):aj ⟨n,tm,hp⟩ T:=by
 refine aj.step (Aq:=⟨n,tm,(β i.toNat,.arr sz ((rg v).map g)) :: cN⟩) (fun w S a r=>?_) (k _ rfl)
 obtain ⟨_,_,hx⟩:=fg (Af (β:=β) h)
 have UW:(mT sz g rg (kZ β l)).Perm ((β i.toNat,(rC sz g).po (rg v)) :: mT sz g rg ((kZ β l).eraseIdx i.toNat)):=(BO hx).map _
 obtain ⟨g1,g2⟩:=Dh r.hp u UW
 exact ⟨_,S,rfl,r.heap (fun m hm=>⟨hm,rfl⟩) g1,g2⟩
theorem aj.UX {i:Int} {v v':V} {b' bo:Bk} {k0:Nat} {xs:List E} {gK:V×Bk→AV} (h:idx l i=some v) (hv:rg v'=xs) (dl:w7 hp b' (.arr sz (xs.map g)) re) (u:nN re bp (.cm (mT sz g rg ((kZ β l).eraseIdx i.toNat))) bp (.cm (mT sz g rg (kZ (AA β i.toNat b') (l.set i.toNat v')))) Gt)
 (u2:nN Gt bo (.arr k0 (((kZ β l).set i.toNat (v',b')).map gK)) bo (.arr k0 ((kZ (AA β i.toNat b') (l.set i.toNat v')).map gK)) cN) (k:aj ⟨n,tm,cN⟩ T):aj ⟨n,tm,hp⟩ T:=by
 subst hv
 refine aj.step (Aq:=⟨n,tm,Gt⟩) (fun w S a r=>?_) (aj.GN (by rw [GQ]) u2 k)
 obtain ⟨_,_,hx⟩:=fg (Af (β:=β) h)
 rw [← GQ] at u
 obtain ⟨g1,g2⟩:=BK (x:=(b',(rC sz g).po (rg v'))) r.hp dl u ((BP _ hx).map _)
 exact ⟨_,S,rfl,r.heap (fun m hm=>⟨hm,rfl⟩) g1,g2⟩
theorem aj.UY {i:Int} {v v':V} {bo:Bk} {k0:Nat} {gK:V×Bk→AV} (h:idx l i=some v) (hv:rg v'=rg v) (u:nN hp bp (.cm (mT sz g rg (kZ β l))) bp (.cm (mT sz g rg (kZ β (l.set i.toNat v')))) Gt)
 (u2:nN Gt bo (.arr k0 (((kZ β l).set i.toNat (v',β i.toNat)).map gK)) bo (.arr k0 ((kZ β (l.set i.toNat v')).map gK)) cN) (k:aj ⟨n,tm,cN⟩ T):aj ⟨n,tm,hp⟩ T:=by
 obtain ⟨_,_,hx⟩:=fg (Af (β:=β) h)
 have e:kZ β (l.set i.toNat v')=(kZ β l).set i.toNat (v',β i.toNat):=by rw [GQ,KD]
 refine aj.GN ?_ u (aj.GN (by rw [e]) u2 k)
 rw [e]
 unfold mT
 rw [List.map_set]
 congr 1
 apply List.ext_getElem?
 intro j
 rw [List.getElem?_set]
 by_cases hj:i.toNat=j
 ·subst hj
  rw [if_pos rfl,List.getElem?_map,hx,Option.map_some,hv]
  have:=(List.getElem?_eq_some_iff.1 hx).1
  rw [if_pos (by rw [List.length_map];exact this)]
 ·rw [if_neg hj]
theorem aj.UZ {v:V} {b:Bk} {xs:List E} {z:List V} (h:app l [v]=some z) (hv:rg v=xs) (dl:w7 hp b (.arr sz (xs.map g)) re) (u:nN re bp (.cm (mT sz g rg (kZ β l))) bp (.cm (mT sz g rg (kZ (AA β l.length b) z))) cN) (k:aj ⟨n,tm,cN⟩ T):aj ⟨n,tm,hp⟩ T:=by
 subst hv
 obtain ⟨_,rfl⟩:=yf h
 refine aj.step (Aq:=⟨n,tm,cN⟩) (fun w S a r=>?_) k
 rw [← KC] at u
 obtain ⟨g1,g2⟩:=BK (x:=(b,(rC sz g).po (rg v))) r.hp dl u (by
  unfold mT
  rw [List.map_append]
  exact List.perm_append_comm)
 exact ⟨_,S,rfl,r.heap (fun m hm=>⟨hm,rfl⟩) g1,g2⟩
end
section rules
variable {P:Program} {all:Array Oper} {rest:List Oper} {n:Nat} {tm:List (Nat×AV)} {hp:Heap} {Q:St→Prop} {d:Nat} {ty:TypeId} {pos:String} {af:Array Edge}
theorem Fz {V:Type} {gK:V×Bk→AV} {β:Nat→Bk} {l:List V} {v:V} {b bo:Bk} {Zs:List V} {t e:TypeId} {i:TypeInfo} {z:Value} {x y:Operand} {len sz:Nat} {cN:Bk→Heap} [aP P t (.slice e)] [br P e i] (hx:dm tm x=some (.sl sz bo 0 len)) (hy:dm tm y=some (.list sz [gK (v,b)])) (hz:i.zero=some z)
 (Iq:Nat.beq z.cells.size i.size=true) (jZ:Nat.beq i.size sz=true) (h0:Nat.blt 0 sz=true) (hn:Nat.blt d n=true) (Q3:Nat.ble i.bytes 65536=true) (hv:app l [v]=some Zs) (u:∀ b',nN hp bo (.arr sz ((kZ β l).map gK)) b' (.arr sz ((kZ (AA β l.length b) Zs).map gK)) (cN b')) (hlen:len=l.length)
 (kk:∀ b':Bk,ae P all rest ⟨n,(d,.sl sz b' 0 Zs.length) :: tm,cN b'⟩ Q):ae P all (⟨some d,.call {callee:=.builtin .append,args:=#[x,y],argTypes:=#[t,t]},ty,pos,af,none⟩ :: rest) ⟨n,tm,hp⟩ Q:=by
 refine eK (g:=gK) (Xs:=kZ β l) (Ys:=[(v,b)]) (Zs:=kZ (AA β l.length b) Zs) hx hy hz Iq jZ h0 hn Q3 (.list _) (RL hv b) u (by rw [BN];exact hlen) (fun b'=>?_)
 rw [BN]
 exact kk b'
end rules
def D9 (w:World) (S:Nat→Prop) (cs pW:List AV):Prop:=cs.length=pW.length∧∀ (i:Nat) c c',cs[i]? =some c→pW[i]? =some c'→(∀ v,At w S c v→At w S c' v)∧(c.one=true→c'.one=true)
theorem D9.app {w:World} {S:Nat→Prop} {a a' b b':List AV} (h:D9 w S a a') (k:D9 w S b b'):D9 w S (a++b) (a'++b'):=by
 refine ⟨by rw [List.length_append,List.length_append,h.1,k.1],fun i c c' hc x9=>?_⟩
 by_cases hi:i < a.length
 ·rw [List.getElem?_append_left hi] at hc
  rw [List.getElem?_append_left (by rw [← h.1];exact hi)] at x9
  exact h.2 i c c' hc x9
 ·rw [List.getElem?_append_right (by omega)] at hc
  rw [List.getElem?_append_right (by rw [← h.1];omega),← h.1] at x9
  exact k.2 _ c c' hc x9
theorem D9.refl (w:World) (S:Nat→Prop) (a:List AV):D9 w S a a:=⟨rfl,fun i c c' hc x9=>by
 rw [hc] at x9
 obtain rfl:=Option.some.inj x9
 exact ⟨fun _ h=>h,id⟩⟩
theorem D9.one {w:World} {S:Nat→Prop} {c c':AV} (h:∀ v,At w S c v→At w S c' v) (ho:c.one=true→c'.one=true):D9 w S [c] [c']:=⟨rfl,fun i x x' hx U0=>by
 cases i with
 | zero=>
   obtain rfl:=Option.some.inj hx
   obtain rfl:=Option.some.inj U0
   exact ⟨h,ho⟩
 | succ i=>simp at hx⟩
theorem D9.Zf {w:World} {S:Nat→Prop} {cs pW:List AV} (h:D9 w S cs pW) {vs:Array Value} (a:mR w S cs vs):mR w S pW vs:=fun i c' v x9 hv=>by
 have hi:i < cs.length:=by
  rw [h.1]
  exact (List.getElem?_eq_some_iff.1 x9).1
 exact (h.2 i cs[i] c' (List.getElem?_eq_getElem hi) x9).1 v (a i cs[i] v (List.getElem?_eq_getElem hi) hv)
theorem D9.el {w:World} {S:Nat→Prop} {k:Nat} {x y:AV} (h:D9 w S x.cells y.cells) (e:El k x):El k y:=by
 refine ⟨by rw [← h.1];exact e.1,fun c hc=>?_⟩
 obtain ⟨i,hi,rfl⟩:=List.getElem_of_mem hc
 have Gw:i < x.cells.length:=by rw [h.1];exact hi
 exact (h.2 i _ _ (List.getElem?_eq_getElem Gw) (List.getElem?_eq_getElem hi)).2 (e.2 _ (List.getElem_mem Gw))
theorem GR {α:Type} {w:World} {S:Nat→Prop} {hp re:Heap} {b:Bk} {k:Nat} {f1 f2:α→AV} {Xs:List α} (r:cI w S hp) (u:nN hp b (.arr k (Xs.map f1)) b (.arr k (Xs.map f2)) re)
 (hc:∀ x∈Xs,D9 w S (f1 x).cells (f2 x).cells):cI w S re∧k9 w S hp w S re:=by
 obtain ⟨h1,h2,h3⟩:Holds w S b (.arr k (Xs.map f1)):=r.holds _ u.lW.mem
 have Bs:D9 w S (flat (Xs.map f1)) (flat (Xs.map f2)):=by
  clear h1 h2 h3 u
  induction Xs with
  | nil=>exact D9.refl w S []
  | cons x X ih=>
    rw [List.map_cons,List.map_cons,gI,gI]
    exact (hc x (by simp)).app (ih fun y hy=>hc y (by simp [hy]))
 have hH:Holds w S b (.arr k (Xs.map f2)):=by
  refine ⟨fun y hy=>?_,by simpa using h2,?_⟩
  ·obtain ⟨x,hx,rfl⟩:=List.mem_map.1 hy
   exact (hc x hx).el (h1 _ (List.mem_map.2 ⟨x,hx,rfl⟩))
  ·rcases h3 with h3 | ⟨m,vs,E,q1,q2,q3,q4⟩
   ·exact .inl h3
   ·exact .inr ⟨m,vs,E,q1,q2,q3,Bs.Zf q4⟩
 obtain ⟨r1,e1,_⟩:=wC r u (MP w b.cu) id id hH (.inl rfl)
 exact ⟨r1,e1⟩
theorem aj.U3 {V E:Type} {sz k:Nat} {g:E→AV} {rg:V→List E} {β:Nat→Bk} {l:List V} {n:Nat} {tm:List (Nat×AV)} {hp re cN:Heap} {T:St→Prop} {bp b:Bk} {gK:V×Bk→AV} {gF:V→AV} {pre post:V→List AV}
 (hK:∀ p,(gK p).cells=pre p.1++.sl sz p.2 0 (rg p.1).length :: post p.1) (hF:∀ v,(gF v).cells=pre v++.list sz ((rg v).map g) :: post v)
 (dl:w7 hp bp (.cm (mT sz g rg (kZ β l))) re) (u:nN re b (.arr k ((kZ β l).map gK)) b (.arr k (l.map gF)) cN) (kk:aj ⟨n,tm,cN⟩ T):aj ⟨n,tm,hp⟩ T:=by
 have hl:=Pe β l
 revert dl u
 generalize kZ β l=Xs at hl ⊢
 intro dl u
 refine aj.step (Aq:=⟨n,tm,cN⟩) (fun w S a r=>?_) kk
 have hM:mT sz g rg Xs=te (rC sz g) id (Xs.map fun p=>(p.2,rg p.1)):=by
  unfold mT te
  rw [List.map_map];rfl
 rw [hM] at dl
 obtain ⟨S',r1,e1,m1⟩:=Ku r.hp dl
 have Zg:l.map gF=Xs.map (fun p=>gF p.1):=by rw [← hl,List.map_map];rfl
 rw [Zg] at u
 obtain ⟨r2,e2⟩:=GR (f1:=gK) (f2:=fun p=>gF p.1) r1 (.skip u) (fun p hp=>by
  rw [hK p,hF p.1]
  refine (D9.refl _ _ _).app (?_:D9 w S' ([_]++_) ([_]++_))
  refine (D9.one (fun v hv=>?_) (fun _=>rfl)).app (D9.refl _ _ _)
  have Ks:(p.2,Ob.x3 sz ((rg p.1).map g))∈CE sz g id (Xs.map fun p=>(p.2,rg p.1))++re:=List.mem_append_left _ (List.mem_map.2 ⟨(p.2,rg p.1),List.mem_map.2 ⟨p,hp,rfl⟩,rfl⟩)
  exact (Co.Q9 (HB Ks)).at r1 hv)
 have hs:cN.Sublist (CE sz g id (Xs.map fun p=>(p.2,rg p.1))++cN):=List.sublist_append_right _ _
 have q:=r.heap (S':=S') (fun m hm=>⟨m1 m hm,rfl⟩) r2
 exact ⟨_,S',rfl,q.less ⟨rfl,fun _ _ h=>h,hs⟩,k9.less (e1.trans e2) fun _ hn=>hn.sub hs⟩
end Go.Eng
