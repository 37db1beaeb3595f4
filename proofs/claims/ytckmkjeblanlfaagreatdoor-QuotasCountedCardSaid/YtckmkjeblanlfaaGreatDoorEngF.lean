/- The engine: abstract values, the symbolic heap, one rule for each operation. No program in sight. -/
import Derived.Test.YtckmkjeblanlfaaGreatDoorEngE
set_option linter.unusedVariables false
set_option linter.unusedSectionVars false
namespace Go.Eng
open Go
variable [bx]
section rules
variable {P:Program} {all:Array Oper} {n:Nat} {B:Heap} {tk:List Tok} {dy:List Nat} {i:Nat} {rest:List Oper} {tm:List (Nat×AV)} {acc:(Nat→Bk)→List (Nat×AV)} {Q:(Nat→Bk)→List (Nat×AV)→Prop} {d:Nat} {ty:TypeId} {pos:String} {af:Array Edge} {op:Op}
end rules
end Go.Eng
namespace Go.Eng
open Go Go.Proofs Go.Shelf Go.Lib
variable {P:Program} [bx]
end Go.Eng
namespace Go.Eng
open Go
variable [bx]
section rules
variable {P:Program} {all:Array Oper} {rest:List Oper} {n:Nat} {tm:List (Nat×AV)} {hp:Heap} {Q:List (Nat×AV)→Prop} {d1 d2 j s x:Nat} {t1 t2:TypeId} {p1 p2:String} {a1 a2:Array Edge} {a b:Bool}
end rules
section rules
variable {P:Program} {all:Array Oper} {rest:List Oper} {n:Nat} {tm:List (Nat×AV)} {hp:Heap} {Q:St→Prop} {d:Nat} {ty:TypeId} {pos:String} {af:Array Edge}
end rules
def Uw:Value→AV→Bool
 | .slice none 0 0,.list _ []=>true
 | .int k n,.int k' n'=>decide (k=k'∧n=n')
 | .bool b,.bool c=>b==c
 | .string s,.str []=>Nat.beq s.data.size 0
 | _,_=>false
def Ux:List Value→List AV→Bool
 | [],[]=>true
 | v :: vs,a :: cs=>Uw v a&&Ux vs cs
 | _,_=>false
theorem LU (w:World) (S:Nat→Prop) {z:Value} {a:AV} (h:Uw z a=true):At w S a z:=by
 unfold Uw at h
 split at h
 ·rename_i sz
  exact At.list sz [] none 0 [] (fun x hx=>by cases hx) rfl (fun i c v h=>by simp [flat] at h) (fun i v h=>by simp at h) (Nat.le_refl _)
 ·obtain ⟨rfl,rfl⟩:=of_decide_eq_true h
  exact .int _ _
 ·have:=eq_of_beq h
  subst this
  exact .bool _
 ·rename_i s
  have hs:=Nat.eq_of_beq_eq_true h
  obtain ⟨d⟩:=s
  have hd:d=#[]:=Array.eq_empty_of_size_eq_zero hs
  subst hd
  exact .str []
 ·cases h
theorem LV (w:World) (S:Nat→Prop):∀ {vs:List Value} {cs:List AV},Ux vs cs=true→cs.length=vs.length∧∀ (j:Nat) c v,cs[j]? =some c→vs[j]? =some v→At w S c v
 | [],[],_=>⟨rfl,fun j c v h=>by simp at h⟩
 | v :: vs,a :: cs,h=>by
   simp only [Ux,Bool.and_eq_true] at h
   obtain ⟨h1,h2⟩:=LV w S h.2
   refine ⟨by simp [h1],fun j c u k1 k2=>?_⟩
   cases j with
   | zero=>simp at k1 k2;subst k1 k2;exact LU w S h.1
   | succ j=>exact h2 j c u (by simpa using k1) (by simpa using k2)
 | [],_ :: _,h=>by cases h
 | _ :: _,[],h=>by cases h
section rules
variable {P:Program} {all:Array Oper} {rest:List Oper} {n:Nat} {tm:List (Nat×AV)} {hp:Heap} {Q:St→Prop} {d:Nat} {ty:TypeId} {pos:String} {af:Array Edge}
end rules
def Wh:Value→AV→Bool
 | .agg vs,.agg cs=>Ux vs.toList cs
 | z,a=>Uw z a
theorem Qq (w:World) (S:Nat→Prop) {z:Value} {a:AV} (h:Wh z a=true):At w S a z:=by
 unfold Wh at h
 split at h
 ·obtain ⟨h1,h2⟩:=LV w S h
  exact .agg _ _ (by simpa using h1) (fun i c v k1 k2=>h2 i c v k1 (by simpa using k2))
 ·exact LU w S h
section rules
variable {P:Program} {all:Array Oper} {rest:List Oper} {n:Nat} {tm:List (Nat×AV)} {hp:Heap} {Q:St→Prop} {d:Nat} {ty:TypeId} {pos:String} {af:Array Edge}
theorem HI {K V:Type} [DecidableEq K] {gk:K→AV} {gv:V→AV} {M:List (K×V)} {key:K} {Z:V} {v:V×Bool} {t kt vt:TypeId} {i:TypeInfo} {z:Value} {x y:Operand} {b:Bk} {av:AV} [aA P t (.map kt vt)] [aN P vt i] [gn P kt gk] (hx:dk tm x=some (.gl b)) (hy:dk tm y=some (gk key)) (f:mf hp b (.mp (M.map fun e=>(gk e.1,gv e.2)))) (hz:i.zero=some z) (Ga:Wh z (gv Z)=true) (h:AE M key Z=some v) (qN:gv v.1=av):
 QV P ⟨some d,.lookup t x y true,ty,pos,af,none⟩ ⟨n,tm,hp⟩ (.om [av,.bool v.2]):=by
 intro w S a r
 have kx:=aV (σ:=⟨n,tm,hp⟩) r hx
 have ky:=aV (σ:=⟨n,tm,hp⟩) r hy
 obtain ⟨nb,hb,ex⟩:=kx.ov
 obtain ⟨L,c,M',AH,dJ,p1,p2,p3,p4,p5,p6,p7,p8⟩:=vB (gn.inj P kt) r.hp f
 obtain rfl:AH=nb:=by rw [p4] at hb;exact Option.some.inj hb
 unfold AE at h
 have hv:=Option.some.inj h
 rw [← pt p1 p8] at hv
 have pv:=gn.find (P:=P) (t:=kt) (g:=gk) ky dJ.toList (M'.map Prod.fst) (by simpa using p6.symm) (fun j k' e h1 h2=>by
  rw [List.getElem?_map] at h1
  cases hm:M'[j]? with
  | none=>rw [hm] at h1;cases h1
  | some q=>rw [hm] at h1;rw [← Option.some.inj h1];exact (p7 j q e hm h2).1)
 rcases um (gv:=gv) (w:=w) (S:=S) (k:=key) M' dJ.toList 0 p6.symm (fun j e m h1 h2=>(p7 j e m h1 h2).2) with ⟨q1,q2⟩ | ⟨v',j,val,q1,q2,q3,_⟩
 ·refine ⟨.tuple #[z,.bool false],fun w1 e1=>?_,?_⟩
  ·simp [execOp,Instr.lookup,ex,run_underlying (aA.h (P:=P) (t:=t)),dO (e1.heap p5),gn.check (P:=P) (t:=kt) ky,pv,q2,zeroValue,typeInfo,aN.h (P:=P) (t:=vt),hz]
  ·rw [← qN,← hv,q1]
   refine .om _ _ rfl (vx ?_ (.bool _))
   rw [Option.getD_none];exact Qq w S Ga
 ·refine ⟨.tuple #[val,.bool true],fun w1 e1=>?_,?_⟩
  ·simp [execOp,Instr.lookup,ex,run_underlying (aA.h (P:=P) (t:=t)),dO (e1.heap p5),gn.check (P:=P) (t:=kt) ky,pv,q2]
  ·rw [← qN,← hv,q1]
   exact .om _ _ rfl (vx q3 (.bool _))
end rules
def Uy:AV→Bool
 | .int _ _=>true
 | .bool _=>true
 | .str _=>true
 | _=>false
theorem Qr {w:World} {S:Nat→Prop} {a:AV} {v u:Value} (h:Uy a=true) (hv:At w S a v) (hu:At w S a u):v=u∧∀ n,Instr.sameBits n v v=true:=by
 cases a<;>simp only [Uy,Bool.false_eq_true] at h
 ·rw [hv.fK,hu.fK];exact ⟨rfl,fun n=>by cases n<;>simp [Instr.sameBits]⟩
 ·rw [hv.kR,hu.kR];exact ⟨rfl,fun n=>by cases n<;>simp [Instr.sameBits]⟩
 ·rw [hv.eI,hu.eI]
  refine ⟨rfl,fun n=>?_⟩
  cases n<;>(simp only [Instr.sameBits];exact (Hz _ _).2 rfl)
theorem yX {α:Type} (p:α×α→Bool):∀ (l:List α),(∀ x∈l,p (x,x)=true)→(l.zip l).all p=true
 | [],_=>rfl
 | x :: r,h=>by
   rw [List.zip_cons_cons,List.all_cons,h x List.mem_cons_self,yX p r (fun y hy=>h y (List.mem_cons_of_mem _ hy))];rfl
theorem N4 {w:World} {S:Nat→Prop} {cs:List AV} {v u:Value} (h:∀ c∈cs,Uy c=true) (hv:At w S (.agg cs) v) (hu:At w S (.agg cs) u):Instr.sameBits 10000 v u=true:=by
 obtain ⟨vs,rfl,hl,ha⟩:=hv.gR
 obtain ⟨us,rfl,uZ,zN⟩:=hu.gR
 have key:∀ (i:Nat) (h1:i < vs.size) (h2:i < us.size),vs[i]=us[i]∧∀ n,Instr.sameBits n vs[i] vs[i]=true:=fun i h1 h2=>by
  have hc:cs[i]? =some (cs[i]'(by omega)):=by simp [show i < cs.length by omega]
  exact Qr (h _ (List.getElem_mem _)) (ha i _ _ hc (by simp [h1])) (zN i _ _ hc (by simp [h2]))
 have heq:vs=us:=Array.ext (by omega) (fun i h1 h2=>(key i h1 h2).1)
 subst heq
 have g:∀ n:Nat,Instr.sameBits (n+1) (.agg vs) (.agg vs)=true:=fun n=>by
  simp only [Instr.sameBits,beq_self_eq_true,Bool.true_and]
  refine yX _ _ (fun x hx=>?_)
  obtain ⟨i,hi,rfl⟩:=List.getElem_of_mem hx
  simpa using (key i (by simpa using hi) (by simpa using hi)).2 n
 exact g 9999
def Rq (D:TypeDesc):Bool:=match D with
 | .int _=>true
 | .bool=>true
 | .string=>true
 | _=>false
theorem Tk {P:Program} {t:TypeId} {D:TypeDesc} (hu:P.underlying t=some D) (hD:Rq D=true) (b:Bool) (n:Nat) (v:Value) (w:World):(Instr.checkKey b (n+1) t v).run P w=.ok () w:=by
 cases D<;>simp only [Rq,Bool.false_eq_true] at hD<;>simp [Instr.checkKey,run_underlying hu]
theorem N5 {P:Program} {t:TypeId} {D:TypeDesc} (hu:P.underlying t=some D) (hD:Rq D=true) {cs:Array Value} {off:Nat} {v:Value} (h:cs[off]? =some v) (w:World):(part t cs off).run P w=.ok v w:=by
 unfold part isAgg
 simp only [Sem.run_bind,run_underlying hu,Result.andThen_ok]
 cases D<;>simp_all [Rq]
theorem Ec {P:Program} (b:Bool) (n:Nat) (vs:Array Value) (w:World):∀ (fs:List Field),(∀ f∈fs,∃ D,P.underlying f.type=some D∧Rq D=true∧f.offset < vs.size)→(forIn fs PUnit.unit (fun f (_:PUnit)=>(if f.name≠"_" then do
 let x ← part f.type vs f.offset
 Instr.checkKey b (n+1) f.type x
 pure (ForInStep.yield PUnit.unit)
 else pure (ForInStep.yield PUnit.unit):Sem (ForInStep PUnit)))).run P w=.ok PUnit.unit w
 | [],_=>by simp
 | f :: fs,h=>by
   obtain ⟨D,h1,h2,h3⟩:=h f List.mem_cons_self
   have hp:∀ w1,(part f.type vs f.offset).run P w1=.ok vs[f.offset] w1:=N5 h1 h2 (by simp [h3])
   have ih:=Ec b n vs w fs (fun g hg=>h g (List.mem_cons_of_mem _ hg))
   simp only [List.forIn_cons,Sem.run_bind]
   by_cases hn:f.name="_"
   ·simp only [hn,ne_eq,not_true_eq_false,if_false,Sem.run_pure,Result.andThen_ok]
    exact ih
   ·simp only [hn,ne_eq,not_false_eq_true,if_true,Sem.run_bind,hp,Result.andThen_ok,Tk h1 h2,Sem.run_pure]
    exact ih
theorem Pr {P:Program} {t:TypeId} {v:Value} {K:Type} [DecidableEq K] {k:K} {q:K→Value→Prop} (hq:∀ k' u,q k' u→∀ w,(Op.equal t v u).run P w=.ok (decide (k'=k)) w):∀ (es:List MapEntry) (ks:List K) (i:Nat) (w:World),ks.length=es.length→(∀ (i:Nat) k' e,ks[i]? =some k'→es[i]? =some e→q k' e.key)→(Instr.findAsking t v es i).run P w=.ok (wK k ks es i) w
 | [],[],i,w,_,_=>by simp [Instr.findAsking,wK]
 | [],k' :: ks,i,w,hl,_=>by simp at hl
 | e :: es,[],i,w,hl,_=>by simp at hl
 | e :: es,k' :: ks,i,w,hl,h=>by
   unfold Instr.findAsking wK
   rw [Sem.run_bind,hq k' e.key (h 0 k' e rfl rfl)]
   by_cases hk:k'=k
   ·simp [hk]
   ·simp only [hk,decide_false,Result.andThen_ok,Bool.false_eq_true,if_false]
    exact Pr hq es ks (i+1) w (by simpa using hl) (fun i k' e h1 h2=>h (i+1) k' e (by simpa using h1) (by simpa using h2))
theorem gn.struct {P:Program} {t:TypeId} {K:Type} [DecidableEq K] {g:K→AV} {dd:Nat} {fs:List Field} {n:Nat} [mP P t dd g] (hk:Nat.ble dd 10000=true) (hu:P.underlying t=some (.struct fs.toArray))
 (hf:∀ f∈fs,∃ D,P.underlying f.type=some D∧Rq D=true∧f.offset < n) (hg:∀ x,∃ cs,g x=.agg cs∧cs.length=n∧∀ c∈cs,Uy c=true) (inj:∀ a b,g a=g b→a=b):gn P t g where
 inj:=inj
 check:=fun {w S k v} hv b w1=>by
  obtain ⟨cs,e,hl,hs⟩:=hg k
  rw [e] at hv
  obtain ⟨vs,rfl,uZ,ha⟩:=hv.gR
  have key:∀ m:Nat,(Instr.checkKey b (m+1+1) t (.agg vs)).run P w1=.ok () w1:=fun m=>by
   have h1:=Ec (P:=P) b m vs w1 fs (fun f hm=>by obtain ⟨D,h1,h2,h3⟩:=hf f hm;exact ⟨D,h1,h2,by omega⟩)
   rw [Instr.checkKey]
   simp only [Sem.run_bind,run_underlying hu,Result.andThen_ok]
   rw [← Array.forIn_toList]
   simp only [h1,Result.andThen_ok,Sem.run_pure]
  exact key 9998
 find:=fun {w S k v} hv es ks hl Uj w1=>by
  obtain ⟨cs,e,hn,hs⟩:=hg k
  have Uv:=hv
  rw [e] at Uv
  obtain ⟨vs,rfl,uZ,ha⟩:=Uv.gR
  have hq:=Pr (P:=P) (t:=t) (v:=.agg vs) (k:=k) (q:=fun k' u=>At w S (g k') u) (fun k' u hu w2=>by
   have:=mP.h (P:=P) (t:=t) (g:=g) k k' w S _ _ hv hu (10000 - dd) w2
   rw [Nat.sub_add_cancel (Nat.le_of_ble_eq_true hk)] at this
   rw [show decide (k'=k)=decide (k=k') by rw [Bool.eq_iff_iff];simp;exact eq_comm]
   exact this) es ks 0 w1 hl (fun i k' e h1 h2=>Uj i k' e h1 h2)
  unfold Instr.findKey
  rw [Sem.run_bind,run_underlying hu]
  simp only [Result.andThen_ok]
  cases es with
  | nil=>
    cases ks with
    | nil=>simp [Instr.findNow,wK]
    | cons _ _=>simp at hl
  | cons m es=>
    have:Instr.findNow (.struct fs.toArray) (.agg vs) (m :: es) 0=none:=by
     unfold Instr.findNow;simp [Instr.sameNow]
    rw [this];exact hq
 bits:=fun {w S k v u} h1 h2=>by
  obtain ⟨cs,e,hn,hs⟩:=hg k
  rw [e] at h1 h2
  exact N4 hs h1 h2
section rules
variable {P:Program} {all:Array Oper} {rest:List Oper} {n:Nat} {tm:List (Nat×AV)} {hp:Heap} {Q:List (Nat×AV)→Prop} {d:Nat} {ty:TypeId} {pos:String} {af:Array Edge} {op:Op}
theorem MV.Rp {o:Oper} {e:Env} {av r7:AV} (h:MV P all n o e hp av) (c:zr hp av r7):MV P all n o e hp r7:=
 fun w S a h1 h2 h3 h4 K Q hK=>h w S a h1 h2 h3 h4 K Q (fun v w' S' g hv=>hK v w' S' g (c.at (h3.grow g) hv))
theorem MV.bz {t e:TypeId} {i:TypeInfo} {z:Value} {len sz:Nat} {parts:List (Nat×Operand)} {xs:List AV} [aA P t (.slice e)] [aN P e i] [lH P e sz] (hz:i.zero=some z)
 (hl:Ix (Dd (looks all ⟨some d,.buildSlice t len parts.toArray,ty,pos,af,none⟩) tm) parts 0=some xs) (hlen:Nat.beq parts.length len=true) (wA:wB i.size xs=true) (Ha:Nat.ble (len * i.size) 16777216=true):MV P all n ⟨some d,.buildSlice t len parts.toArray,ty,pos,af,none⟩ (lk tm) hp (.list sz xs):=by
 obtain ⟨i',FC,Db⟩:=lH.h (P:=P) (t:=e)
 obtain rfl:i'=i:=by rw [aN.h (P:=P) (t:=e)] at FC;exact (Option.some.inj FC).symm
 subst Db
 intro w S a h1 h2 h3 h4 K Q' hK
 have r:=qZ h1 h2 h3 h4
 obtain rfl:parts.length=len:=Nat.eq_of_beq_eq_true hlen
 have Ha:=Nat.le_of_ble_eq_true Ha
 obtain ⟨zz,Hb⟩:∃ zz:Array Value,zz=if parts.length * i'.size=0 then #[] else z.cells:=⟨_,rfl⟩
 obtain ⟨vs,g1,g2,g3,g4⟩:=yN r i'.size parts 0 xs ((Array.range (parts.length * i'.size)).map (zz[· % zz.size]!)) hl (kC wA) (by simp)
 simp only [Nat.zero_mul,List.take_zero,List.nil_append] at g1
 have e0:=Ext.alloc w (.cells vs.toArray e)
 have uK:(execOp a.eval ⟨some d,.buildSlice t parts.length parts.toArray,ty,pos,af,none⟩).run P w=.ok (.value (.slice (some ⟨w.heap.size,0,none⟩) parts.length parts.length)) (w.alloc (.cells vs.toArray e)):=by
  have hm:((parts.toArray.map fun p=>(p.1,a.eval p.2))).toList=parts.map fun p=>(p.1,a.eval p.2):=by simp
  simp only [execOp,Instr.buildSlice,Sem.run_bind,run_underlying (aA.h (P:=P) (t:=t)),Result.andThen_ok,sizeOf,typeInfo,run_program,aN.h (P:=P) (t:=e),Sem.run_pure]
  rw [if_neg (by omega)]
  by_cases h0:parts.length * i'.size=0
  ·rw [if_pos h0] at Hb ⊢
   subst Hb
   simp only [Sem.run_bind,Result.andThen_ok,Sem.run_pure,hm,g1,qY]
  ·rw [if_neg h0] at Hb ⊢
   subst Hb
   simp only [Sem.run_bind,Result.andThen_ok,Sem.run_pure,zeroValue,typeInfo,run_program,aN.h (P:=P) (t:=e),hz,hm,g1,qY]
 show Oper.upon P _ a K Q' _
 rw [uK]
 have De:(w.alloc (.cells vs.toArray e)).heap[w.heap.size]? =some (.cells vs.toArray e (0,0)):=by
  show (w.heap.push _)[w.heap.size]? =_
  simp
 refine hK _ _ (fun m=>S m∨m=w.heap.size) ⟨e0,fun m hm=>.inl hm,fun m hm hs=>hs.elim id (fun h=>by omega),fun m hm=>?_⟩ ?_
 ·rcases hm with hm | hm
  ·exact Nat.lt_of_lt_of_le (h3.slt m hm) e0.size
  ·subst hm;simp
 ·have:=At.list (w:=w.alloc (.cells vs.toArray e)) (S:=fun m=>S m∨m=w.heap.size) i'.size xs (some ⟨w.heap.size,0,none⟩) parts.length vs (kC wA) (by rw [dj (kC wA),g2]) (fun j c u hc hu=>?_) (fun j u hu=>?_) (by omega)
  ·rw [g3] at this;exact this
  ·exact (g4 j c u hc (by simpa using hu)).mono fun m hm=>⟨.inl hm,e0.same m (h3.slt m hm)⟩
  ·refine ⟨_,rfl,rfl,.inr rfl,?_⟩
   rw [nJ De]
   simpa using hu
theorem AM.AJ {t e:TypeId} {i:TypeInfo} {z:Value} {len sz:Nat} {parts:List (Nat×Operand)} {xs:List AV} {av:AV} [aA P t (.slice e)] [aN P e i] [lH P e sz] (hz:i.zero=some z)
 (hl:Ix (Dd (looks all ⟨some d,.buildSlice t len parts.toArray,ty,pos,af,none⟩) tm) parts 0=some xs) (hlen:Nat.beq parts.length len=true) (wA:wB i.size xs=true) (Ha:Nat.ble (len * i.size) 16777216=true) (hn:Nat.blt d n=true) (c:zr hp (.list sz xs) av)
 (k:AM P all n hp rest ((d,av) :: tm) Q):AM P all n hp (⟨some d,.buildSlice t len parts.toArray,ty,pos,af,none⟩ :: rest) tm Q:=
 AM.mv (MV.Rp (MV.bz hz hl hlen wA Ha) c) hn k
end rules
section values
variable {P:Program} {n:Nat} {tm:List (Nat×AV)} {hp:Heap} {d:Nat} {ty:TypeId} {pos:String} {af:Array Edge}
end values
theorem ai.Qs {n s:Nat} {tm:List (Nat×AV)} {hp Gg:Heap} {T:St→Prop} {b:Bk} {cs:List AV} (hs:lk tm s=some (.ptr b 0)) (dl:xK hp b (.cells cs) Gg) (k:ai ⟨n,(s,.mu cs) :: tm,Gg⟩ T):ai ⟨n,tm,hp⟩ T:=by
 refine ai.step (yI:=⟨n,(s,.mu cs) :: tm,Gg⟩) (fun w S a r=>?_) k
 obtain ⟨p,q,rfl,rfl⟩:=dl.split
 have wC:(b,Ob.cells cs)∈p++(b,.cells cs) :: q:=bB.2 (.inl rfl)
 obtain ⟨h1,m0,vs,E,DO,hh,kM,ha⟩:=r.hp.holds _ wC
 have No:∀ m,b.cF=some m→m < w.heap.size:=fun m hm=>r.hp.lt ⟨_,wC,mz hm⟩
 let S':Nat→Prop:=fun m=>S m∨b.cF=some m
 have mono:∀ m,S m→S' m∧w.heap[m]? =w.heap[m]?:=fun m hm=>⟨.inl hm,rfl⟩
 have xZ:=r.hp.nodup
 have B7:(p++q).Sublist (p++(b,Ob.cells cs) :: q):=List.Sublist.append (List.Sublist.refl _) (List.sublist_cons_self _ _)
 have yb:dv w S' (p++q):=by
  refine ⟨xZ.sublist (Ar B7),fun e he=>(r.hp.holds e (B7.subset he)).mono mono (fun _ _=>rfl),fun e he m hm=>?_,fun m hm=>?_,fun g o ho=>⟨.inl (r.hp.kN g o ho).1,(r.hp.kN g o ho).2⟩⟩
  ·rw [← r.hp.sep e (B7.subset he) m hm]
   refine ⟨fun hs=>hs.elim id fun hb=>?_,.inl⟩
   exfalso
   rw [List.flatMap_append,List.flatMap_cons,List.nodup_append,List.nodup_append] at xZ
   rcases List.mem_append.1 he with h | h
   ·exact xZ.2.2 m (List.mem_flatMap.2 ⟨e,h,hm⟩) m (List.mem_append_left _ (mz hb)) rfl
   ·exact xZ.2.1.2.2 m (mz hb) m (List.mem_flatMap.2 ⟨e,h,hm⟩) rfl
  ·rcases hm with h | h
   ·exact r.hp.slt m h
   ·exact No m h
 have hr:=r.heap mono yb
 refine ⟨_,S',rfl,⟨hr.size,hr.defers,fun t av h=>?_,hr.hp⟩,rfl,rfl,rfl,Nat.le_refl _,mono,fun m hm hh=>⟨rfl,fun hs=>hs.elim id fun hb=>(hh ⟨_,wC,mz hb⟩).elim⟩,fun m hm=>.inl ?_,fun _=>Nat.le_refl _⟩
 ·simp only [lk] at h
  split at h
  ·rename_i hbq
   obtain rfl:s=t:=by simpa using hbq
   obtain rfl:=Option.some.inj h
   obtain ⟨v,e1,e2⟩:=hr.tm s _ hs
   cases e2 with
   | ptr _ _ m hb=>
     obtain rfl:=Option.some.inj (hb.symm.trans DO)
     refine ⟨_,e1,.mu cs ⟨m,0,none⟩ vs.toList (by simp [kM]) (fun i c v hc hv=>(ha i c v hc (by simpa using hv)).mono mono) rfl (.inr hb) (fun i v hv=>?_)⟩
     rw [nJ hh];simpa using hv
  ·exact hr.tm t av h
 ·obtain ⟨e,he,hb⟩:=hm
  exact ⟨e,B7.subset he,hb⟩
def Ca {α:Type} (l:List α):Option Unit:=match l with
 | []=>none
 | _ :: _=>some ()
theorem HJ {α:Type} {l:List α} {u:Unit} (h:Ca l=some u):0 < l.length:=by
 cases l with
 | nil=>cases h
 | cons a l=>simp
section rules
variable {P:Program} {n:Nat} {tm:List (Nat×AV)} {hp:Heap} {d:Nat} {ty:TypeId} {pos:String} {af:Array Edge}
theorem AK {t e:TypeId} [aA P t (.slice e)] (oa:Option Addr) (len cap:Nat) (w:World):(Op.equal t (.slice oa len cap) (.slice none 0 0)).run P w=.ok oa.isNone w:=by
 show (Op.equalIn (9999+1) t _ _).run P w=_
 rw [Op.equalIn]
 cases oa with
 | none=>simp [run_underlying (aA.h (P:=P) (t:=t))]
 | some ad=>simp [run_underlying (aA.h (P:=P) (t:=t))]
theorem LW {t e yt:TypeId} {x y:Operand} [aA P t (.slice e)] (hx:dk tm x=some .nil) (hy:dk tm y=some .nil):QV P ⟨some d,.binOp .eql t x y yt,ty,pos,af,none⟩ ⟨n,tm,hp⟩ (.bool true):=by
 intro w S a r
 have e1:=(aV (σ:=⟨n,tm,hp⟩) r hx).pE
 have e7:=(aV (σ:=⟨n,tm,hp⟩) r hy).pE
 refine ⟨.bool true,fun w' _=>?_,.bool _⟩
 have h2:=AK (P:=P) (t:=t) none 0 0 w'
 have h3:(binOp .eql t (.slice none 0 0) (.slice none 0 0)).run P w'=.ok (.bool true) w':=by
  rw [show binOp .eql t (.slice none 0 0) (.slice none 0 0)=(do pure (.bool (← Op.equal t (.slice none 0 0) (.slice none 0 0)))) from rfl]
  simp [h2]
 simp [execOp,e1,e7,eqGuard_at_slice,h3]
theorem LX {α:Type} {l:List α} {u:Unit} {t e yt:TypeId} {x y:Operand} {sz off:Nat} {b:Bk} [aA P t (.slice e)] (hx:dk tm x=some (.sl sz b off l.length)) (hy:dk tm y=some .nil) (h0:Ca l=some u):QV P ⟨some d,.binOp .eql t x y yt,ty,pos,af,none⟩ ⟨n,tm,hp⟩ (.bool false):=by
 intro w S a r
 have h0:=HJ h0
 obtain ⟨oa,cap,e1,e2⟩:=(aV (σ:=⟨n,tm,hp⟩) r hx).wx
 have e7:=(aV (σ:=⟨n,tm,hp⟩) r hy).pE
 obtain ⟨ad,rfl⟩:∃ ad,oa=some ad:=by
  rcases e2 with ⟨_,_,h,_⟩ | ⟨m,_,h,_⟩ | ⟨m,ad,_,h,_⟩
  ·omega
  ·exact ⟨_,h⟩
  ·exact ⟨_,h⟩
 refine ⟨.bool false,fun w' _=>?_,.bool _⟩
 have h2:=AK (P:=P) (t:=t) (some ad) l.length cap w'
 have h3:(binOp .eql t (.slice (some ad) l.length cap) (.slice none 0 0)).run P w'=.ok (.bool false) w':=by
  rw [show binOp .eql t (.slice (some ad) l.length cap) (.slice none 0 0)=(do pure (.bool (← Op.equal t (.slice (some ad) l.length cap) (.slice none 0 0)))) from rfl]
  simp [h2]
 simp [execOp,e1,e7,eqGuard_at_slice,h3]
end rules
section
variable {K E:Type}
def xO (sz:Nat) (g:E→AV) (β:K→Bk) (M:List (K×List E)):Heap:=M.map fun e=>(β e.1,.yG sz (e.2.map g))
theorem N6 (sz:Nat) (g:E→AV) (β:K→Bk) (M:List (K×List E)):(xO sz g β M).flatMap eb=(im (fa sz g) β M).filterMap (·.1.cF):=by
 induction M with
 | nil=>rfl
 | cons e r ih=>
   unfold xO im at ih ⊢
   rw [List.map_cons,List.flatMap_cons,List.map_cons,List.filterMap_cons,ih]
   show (β e.1).cF.toList++_++_=_
   cases (β e.1).cF<;>simp [Ob.more]
theorem LY {w:World} {S:Nat→Prop} {hp dR:Heap} {bp:Bk} {sz:Nat} {g:E→AV} {β:K→Bk} {M:List (K×List E)} (r:dv w S hp) (dl:xK hp bp (.gm (im (fa sz g) β M)) dR):
 ∃ S':Nat→Prop,dv w S' (xO sz g β M++dR)∧kP w S hp w S' (xO sz g β M++dR)∧∀ m,S m→S' m:=by
 obtain ⟨p,q,rfl,rfl⟩:=dl.split
 have wC:(bp,Ob.gm (im (fa sz g) β M))∈p++(bp,.gm (im (fa sz g) β M)) :: q:=bB.2 (.inl rfl)
 obtain ⟨DO,od⟩:bp.cF=none∧∀ e∈im (fa sz g) β M,pb w S e.1 e.2:=r.holds _ wC
 have Tl:eb (bp,Ob.gm (im (fa sz g) β M))=(xO sz g β M).flatMap eb:=by
  rw [N6];unfold eb Ob.more;rw [DO];rfl
 have hF:∀ e∈xO sz g β M,∀ m,m∈eb e→m∈eb (bp,Ob.gm (im (fa sz g) β M)):=fun e he m hm=>by
  rw [Tl];exact List.mem_flatMap.2 ⟨e,he,hm⟩
 let S':Nat→Prop:=fun m=>S m∨m∈eb (bp,Ob.gm (im (fa sz g) β M))
 have mono:∀ m,S m→S' m∧w.heap[m]? =w.heap[m]?:=fun m hm=>⟨.inl hm,rfl⟩
 have xZ:=r.nodup
 have B7:(p++q).Sublist (p++(bp,Ob.gm (im (fa sz g) β M)) :: q):=List.Sublist.append (List.Sublist.refl _) (List.sublist_cons_self _ _)
 have mB:((xO sz g β M++(p++q)).flatMap eb).Perm ((p++(bp,Ob.gm (im (fa sz g) β M)) :: q).flatMap eb):=by
  rw [List.flatMap_append,List.flatMap_append,List.flatMap_append,List.flatMap_cons,Tl,← List.append_assoc,← List.append_assoc]
  exact List.perm_append_comm.append_right _
 have Wi:∀ e∈p++q,∀ m,m∈eb e→m∈eb (bp,Ob.gm (im (fa sz g) β M))→False:=fun e he m hm Uz=>by
  rw [List.flatMap_append,List.flatMap_cons,List.nodup_append,List.nodup_append] at xZ
  rcases List.mem_append.1 he with h | h
  ·exact xZ.2.2 m (List.mem_flatMap.2 ⟨e,h,hm⟩) m (List.mem_append_left _ Uz) rfl
  ·exact xZ.2.1.2.2 m Uz m (List.mem_flatMap.2 ⟨e,h,hm⟩) rfl
 have yb:dv w S' (xO sz g β M++(p++q)):=by
  refine ⟨mB.nodup_iff.2 xZ,fun e he=>?_,fun e he m hm=>?_,fun m hm=>?_,fun g o ho=>⟨.inl (r.kN g o ho).1,(r.kN g o ho).2⟩⟩
  ·rcases List.mem_append.1 he with h | h
   ·obtain ⟨x,hx,rfl⟩:=List.mem_map.1 h
    exact Holds.mono (o:=.yG sz (x.2.map g)) mono (fun _ _=>rfl) (show Holds w S (β x.1) (.arr sz (x.2.map g)) from pb.ob.1 (od (β x.1,.arr sz (x.2.map g)) (List.mem_map.2 ⟨x,hx,rfl⟩)))
   ·exact (r.holds e (B7.subset h)).mono mono (fun _ _=>rfl)
  ·rcases List.mem_append.1 he with h | h
   ·have h2:=hF e h m hm
    obtain ⟨x,hx,rfl⟩:=List.mem_map.1 h
    exact ⟨fun _=>trivial,fun _=>.inr h2⟩
   ·rw [← r.sep e (B7.subset h) m hm]
    exact ⟨fun hs=>hs.elim id fun hb=>(Wi e h m hm hb).elim,.inl⟩
  ·rcases hm with h | h
   ·exact r.slt m h
   ·exact r.lt ⟨_,wC,h⟩
 refine ⟨S',yb,⟨rfl,rfl,rfl,Nat.le_refl _,mono,fun m hm hh=>⟨rfl,fun hs=>hs.elim id fun hb=>(hh ⟨_,wC,hb⟩).elim⟩,fun m hm=>.inl ?_,fun _=>Nat.le_refl _⟩,fun m h=>.inl h⟩
 obtain ⟨e,he,hm⟩:=hm
 rcases List.mem_append.1 he with h | h
 ·exact ⟨_,wC,hF e h m hm⟩
 ·exact ⟨e,B7.subset h,hm⟩
theorem IS {e:Bk×Ob}:∀ {h:Heap},e∈h→mf h e.1 e.2
 | x :: r,he=>by
   rcases List.mem_cons.1 he with rfl | he
   ·exact .here
   ·exact .next (IS he)
theorem N7 {w:World} {S:Nat→Prop} {hp Gg:Heap} {bm:Bk} {gk:K→AV} {sz:Nat} {g:E→AV} {β:K→Bk} {M:List (K×List E)} (HA:∀ a b,gk a=gk b→a=b) (r:dv w S (xO sz g β M++hp)) (u:oW hp bm (.mp (vC gk (fa sz g) β M)) bm (.mp (M.map fun e=>(gk e.1,.list sz (e.2.map g)))) Gg):
 dv w S (xO sz g β M++Gg)∧kP w S (xO sz g β M++hp) w S (xO sz g β M++Gg):=by
 have u':oW (xO sz g β M++hp) bm (.mp (vC gk (fa sz g) β M)) bm (.mp (M.map fun e=>(gk e.1,.list sz (e.2.map g)))) (xO sz g β M++Gg):=.skip u
 have f:=u'.FN
 rw [tB] at f
 obtain ⟨L,c,M2,n,dJ,p1,p2,p3,p4,p5,p6,p7,p8⟩:=vB (gv:=fun p:Bk×List E=>(fa sz g).val p.1 p.2) HA r f
 obtain ⟨n',Tm,g1,g2,g3,g4,g5,g6,g7⟩:=p3
 have hM2:∀ x∈M2,∃ e∈M,x=(e.1,(β e.1,e.2)):=fun x hx=>by
  obtain ⟨e,he,rfl⟩:=List.mem_map.1 (p1.mem_iff.1 hx);exact ⟨e,he,rfl⟩
 let cv:jA×(K×(Bk×List E))→jA:=fun z=>⟨z.1.k,.list sz (z.2.2.2.map g),z.1.born⟩
 have hlen:L.length=M2.length:=by have:=congrArg List.length p2;simpa using this
 have UA:(L.zip M2).map (fun z=>z.1)=L:=List.map_fst_zip (by omega)
 have XO:(L.zip M2).map (fun z=>z.2)=M2:=List.map_snd_zip (by omega)
 have Ut:∀ z∈L.zip M2,z.1.k=gk z.2.1∧z.1.v=(fa sz g).val z.2.2.1 z.2.2.2:=fun z hz=>by
  obtain ⟨i,hi,Rr⟩:=List.getElem_of_mem hz
  have FC:i < L.length:=by simp at hi;omega
  have Db:i < M2.length:=by omega
  have Hb:z=(L[i],M2[i]):=by rw [← Rr,List.getElem_zip]
  have h1:(L.map jA.kv)[i]? =(M2.map fun e=>(gk e.1,(fa sz g).val e.2.1 e.2.2))[i]?:=by rw [p2]
  rw [List.getElem?_map,List.getElem?_map,List.getElem?_eq_getElem FC,List.getElem?_eq_getElem Db] at h1
  have h2:=Prod.mk.inj (Option.some.inj h1)
  rw [Hb];exact h2
 have hH:Holds w S bm (.mp (M.map fun e=>(gk e.1,.list sz (e.2.map g)))):=by
  refine ⟨(L.zip M2).map cv,c,?_,n',Tm,g1,g2,by rw [g3];simp;omega,fun i e m he hm=>?_,fun e he=>?_,?_,?_⟩
  ·have e1:((L.zip M2).map cv).map jA.kv=M2.map (fun x=>(gk x.1,AV.list sz (x.2.2.map g))):=by
    conv=>rhs;rw [← XO]
    rw [List.map_map,List.map_map]
    refine List.map_congr_left fun z hz=>?_
    show (z.1.k,AV.list sz (z.2.2.2.map g))=(gk (z.2).1,AV.list sz ((z.2).2.2.map g))
    rw [(Ut z hz).1]
   rw [e1]
   refine (p1.map _).trans ?_
   unfold ox
   rw [List.map_map]
   exact List.Perm.refl _
  ·rw [List.getElem?_map] at he
   cases Rr:(L.zip M2)[i]? with
   | none=>rw [Rr] at he;cases he
   | some z=>
     rw [Rr] at he
     obtain rfl:=Option.some.inj he
     have hz:z∈L.zip M2:=List.mem_of_getElem? Rr
     have NU:L[i]? =some z.1:=by
      have:((L.zip M2).map (fun z=>z.1))[i]? =some z.1:=by rw [List.getElem?_map,Rr];rfl
      rw [UA] at this;exact this
     obtain ⟨a1,a2,a3⟩:=g4 i z.1 m NU hm
     refine ⟨a1,a2,?_⟩
     obtain ⟨x,hx,XP⟩:=hM2 z.2 (by rw [← XO];exact List.mem_map.2 ⟨z,hz,rfl⟩)
     rw [(Ut z hz).2,XP] at a3
     show At w S (.list sz (z.2.2.2.map g)) m.val
     rw [XP]
     have LP:(β x.1,Ob.yG sz (x.2.map g))∈xO sz g β M++hp:=List.mem_append_left _ (List.mem_map.2 ⟨x,hx,rfl⟩)
     exact (Co.sx (IS LP)).at r a3
  ·obtain ⟨z,hz,rfl⟩:=List.mem_map.1 he
   exact g5 z.1 (by rw [← UA];exact List.mem_map.2 ⟨z,hz,rfl⟩)
  ·rw [List.map_map]
   have:(L.zip M2).map ((fun e:jA=>e.born)∘cv)=L.map (·.born):=by
    conv=>rhs;rw [← UA,List.map_map]
    rfl
   rw [this];exact g6
  ·rw [List.map_map]
   have:(L.zip M2).map ((fun e:jA=>e.k)∘cv)=L.map (·.k):=by
    conv=>rhs;rw [← UA,List.map_map]
    rfl
   rw [this];exact g7
 obtain ⟨r1,e1,_⟩:=rD r u' (BA w bm.cF) id id hH (.inl rfl)
 exact ⟨r1,e1⟩
end
theorem ai.Qt {n:Nat} {tm:List (Nat×AV)} {hp Gg dR:Heap} {T:St→Prop} {K E:Type} {gk:K→AV} {sz:Nat} {g:E→AV} {β:K→Bk} {M:List (K×List E)} {bm bp:Bk} (HA:∀ a b,gk a=gk b→a=b)
 (dl:xK hp bp (.gm (im (fa sz g) β M)) Gg) (u:oW Gg bm (.mp (vC gk (fa sz g) β M)) bm (.mp (M.map fun e=>(gk e.1,.list sz (e.2.map g)))) dR) (k:ai ⟨n,tm,dR⟩ T):ai ⟨n,tm,hp⟩ T:=by
 refine ai.step (yI:=⟨n,tm,dR⟩) (fun w S a r=>?_) k
 obtain ⟨S',r1,e1,m1⟩:=LY r.hp dl
 obtain ⟨r2,e2⟩:=N7 HA r1 u
 have hs:dR.Sublist (xO sz g β M++dR):=List.sublist_append_right _ _
 have q:=r.heap (S':=S') (fun m hm=>⟨m1 m hm,rfl⟩) r2
 exact ⟨_,S',rfl,q.less ⟨rfl,fun _ _ h=>h,hs⟩,kP.less (e1.trans e2) fun _ hn=>hn.sub hs⟩
theorem ai.IT {n:Nat} {tm:List (Nat×AV)} {hp:Heap} {T:St→Prop} {b:Bk} {cs:List AV} (f:mf hp b (.cells cs)) (k:∀ m,b.cF=some m→ai ⟨n,tm,hp⟩ T):ai ⟨n,tm,hp⟩ T:=fun w S a r=>by
 obtain ⟨_,m,vs,E,hb,_⟩:=r.hp.holds _ f.mem
 exact k m hb w S a r
section rules
variable {P:Program} {all:Array Oper} {rest:List Oper} {n:Nat} {tm:List (Nat×AV)} {hp:Heap} {Q:St→Prop} {d:Nat} {ty:TypeId} {pos:String} {af:Array Edge}
theorem uo {fn:Fn} {x:Operand} {b:Bk} {m:Nat} (hb:b.cF=some m) (hx:dk tm x=some (.ptr b 0)):QV P ⟨some d,.makeFunc fn #[x] #[],ty,pos,af,none⟩ ⟨n,tm,hp⟩ (.raw (.func fn #[.pointer (some ⟨m,0,none⟩)] #[])):=
 (fun w S a r=>by
  have h:=aV (σ:=⟨n,tm,hp⟩) r hx
  have e:a.eval x=.pointer (some ⟨m,0,none⟩):=by
   cases hh:a.eval x<;>rw [hh] at h<;>cases h
   rename_i k hk
   rw [hb] at hk;obtain rfl:=Option.some.inj hk;rfl
  exact ⟨_,fun _ _=>by simp [execOp,Instr.makeFunc,e],.raw _⟩)
theorem Cb {f:FuncId} {x:Operand} {args:List Operand} {ts:Array TypeId} {dd:Option Nat} {v:Value} [bb P f] (a:Act) (w:World) (hx:a.eval x=.func (.func f) #[v] #[]):
 (execOp a.eval ⟨dd,.call {callee:=.value x,args:=args.toArray,argTypes:=ts},ty,pos,af,none⟩).run P w=.ok (.enter f (v :: args.map a.eval).toArray) w:=by
 simp [execOp,resolve,hx,Deferred.ofValue,invoke,vy]
theorem N8 {f:FuncId} {x:Operand} {args:List Operand} {ts:Array TypeId} {l l':List AV} {h0 hr:Heap} {Qc:AV→Heap→Prop} {b:Bk} {m:Nat} [bb P f] (hb:b.cF=some m) (hx:dk tm x=some (.raw (.func (.func f) #[.pointer (some ⟨m,0,none⟩)] #[]))) (hl:Au tm args=some l) (c:aB P f l' h0 Qc) (co:yP hp (.ptr b 0 :: l) l') (P9:Hc hp h0 hr) (hn:Nat.blt d n=true)
 (kk:∀ r h',Qc r h'→ae P all rest ⟨n,(d,r) :: tm,h'++hr⟩ Q):ae P all (⟨some d,.call {callee:=.value x,args:=args.toArray,argTypes:=ts},ty,pos,af,none⟩ :: rest) ⟨n,tm,hp⟩ Q:=by
 have hs:=P9.perm
 refine ae.FK rfl fun w S a r=>?_
 have e1:=(aV (σ:=⟨n,tm,hp⟩) r hx).Bw
 refine ⟨f,_,Cb a w e1,?_⟩
 obtain ⟨g1,g2⟩:=tu (σ:=⟨n,tm,hp⟩) r hl
 obtain ⟨g3,g4⟩:=yP.at r.hp co (vs:=.pointer (some ⟨m,0,none⟩) :: args.map a.eval) (by simp [g1]) (fun i c v hc hv=>by
  match i with
  | 0=>
    simp at hc hv
    subst hc;subst hv
    exact .ptr b 0 m hb
  | i+1=>exact g2 i c v (by simpa using hc) (by simpa using hv))
 have rp:=r.hp.perm hs
 refine (c.frame hr w S _ rp (by simpa using g3) g4).mono ?_
 rintro e w' ⟨v,rr,h',S',rfl,⟨h1,rfl,hq⟩,h3,h4,h5⟩
 have ev:kP w S hp w' S' (h1++hr):={h5 with
  other:=fun m hm hh=>h5.other m hm (fun ⟨x,hx,hb⟩=>hh ⟨x,hs.mem_iff.2 hx,hb⟩)
  new:=fun m hm=>(h5.new m hm).imp (fun ⟨x,hx,hb⟩=>⟨x,hs.mem_iff.2 hx,hb⟩) id}
 exact ⟨v,S',⟨n,(d,rr) :: tm,h1++hr⟩,rfl,(r.heap h5.mO h4).put hn h3,ev,kk rr h1 hq⟩
theorem yY {f:FuncId} {x:Operand} {args:List Operand} {ts:Array TypeId} {l l':List AV} {h0 hr H H':Heap} {V:AV} {b:Bk} {m:Nat} [bb P f] (hb:b.cF=some m) (hx:dk tm x=some (.raw (.func (.func f) #[.pointer (some ⟨m,0,none⟩)] #[]))) (hl:Au tm args=some l) (c:aB P f l' h0 (T0 H V)) (co:yP hp (.ptr b 0 :: l) l') (hs:Hc hp h0 hr) (ha:sc H hr=some H') (hn:Nat.blt d n=true)
 (kk:ae P all rest ⟨n,(d,V) :: tm,H'⟩ Q):ae P all (⟨some d,.call {callee:=.value x,args:=args.toArray,argTypes:=ts},ty,pos,af,none⟩ :: rest) ⟨n,tm,hp⟩ Q:=
 N8 hb hx hl c co hs hn (fun r h' ⟨e1,e2⟩=>by subst e1;subst e2;rw [nK ha];exact kk)
end rules
section
variable {P:Program} {R:St→Prop} {k:List It} {σ:St}
def pU (P:Program) (R:St→Prop) (body:Code) (k:List It):Nat→St→Prop
 | 0=>fun _=>False
 | n+1=>fun σ=>ab P R (.code body :: .stop (fun aE=>ai aE (pU P R body k n)) :: k) σ
theorem pU.next {body:Code} {n:Nat} (h:ab P R (.code body :: .stop (fun aE=>ai aE (pU P R body k n)) :: k) σ):pU P R body k (n+1) σ:=h
theorem TD.JP {I J:St→Prop} (h:∀ σ,I σ→J σ):∀ (e:Exit) (σ:St),TD P R (.stop I :: k) e σ→TD P R (.stop J :: k) e σ
 | .normal,σ,g=>h σ g
 | .exit _,_,g=>g
 | .goto _,_,g=>g
 | .ret,_,g=>g
 | .panic _,_,g=>g
 | .outgrown,_,g=>g
theorem ab.Tn {body:Code} (m:Nat) (h:pU P R body k m σ):ab P R (.code (.loop body) :: k) σ:=by
 refine ab.Iz (fun m σ=>pU P R body k m σ) m (ai.here h) (fun m σ hI=>?_)
 cases m with
 | zero=>exact hI.elim
 | succ m=>
   intro w S a r
   refine wp_mono (hI w S a r) ?_
   rintro e a2 w2 ⟨FL,S2,h2,Ir,Jk⟩
   exact ⟨FL,S2,TD.JP (fun aE hk=>⟨m,Nat.lt_succ_self m,hk⟩) e FL h2,Ir,Jk⟩
end
theorem J {α:Sort _} {a:α}:a=a:=rfl
section rules
variable {P:Program} {all:Array Oper} {n:Nat} {B:Heap} {tk:List Tok} {dy:List Nat} {i:Nat} {rest:List Oper} {tm:List (Nat×AV)} {acc:(Nat→Bk)→List (Nat×AV)} {Q:(Nat→Bk)→List (Nat×AV)→Prop} {d:Nat} {ty:TypeId} {pos:String} {af:Array Edge} {op:Op}
end rules
section
variable {P:Program} {o:Oper} {σ:St}
theorem QV.LZ {k:IntKind} {a b:Int} (h:a=b) (q:QV P o σ (.int k a)):QV P o σ (.int k b):=h▸q
theorem QV.dT {p:Prop} [Decidable p] (hc:p) (h:QV P o σ (.bool (decide p))):QV P o σ (.bool true):=by rw [decide_eq_true hc] at h;exact h
theorem QV.dF {p:Prop} [Decidable p] (hc:¬ p) (h:QV P o σ (.bool (decide p))):QV P o σ (.bool false):=by rw [decide_eq_false hc] at h;exact h
end
section rules
variable {P:Program} {all:Array Oper} {n:Nat} {B:Heap} {tk:List Tok} {dy:List Nat} {i:Nat} {rest:List Oper} {tm:List (Nat×AV)} {acc:(Nat→Bk)→List (Nat×AV)} {Q:(Nat→Bk)→List (Nat×AV)→Prop} {d:Nat} {ty:TypeId} {pos:String} {af:Array Edge} {op:Op}
theorem AT.XQ {av:AV} {R0 R1 H0 H1:(Nat→Bk)→Heap} (hr:∀ β,vz tk i β=[R0 β,R1 β]) (h0:∀ β,sc (R0 β) B=some (H0 β)) (h1:∀ β,sc (R1 β) B=some (H1 β)) (Lu:∀ β,uM tk i β=[]) (Lv:∀ β,jL tk i β=[])
 (q0:∀ β,QV P ⟨some d,op,ty,pos,af,none⟩ ⟨n,Dd (looks all ⟨some d,op,ty,pos,af,none⟩) tm,H0 β⟩ av) (q1:∀ β,QV P ⟨some d,op,ty,pos,af,none⟩ ⟨n,Dd (looks all ⟨some d,op,ty,pos,af,none⟩) tm,H1 β⟩ av) (hn:Nat.blt d n=true)
 (k:AT P all n B tk dy (i+1) rest ((d,av) :: tm) acc Q):AT P all n B tk dy i (⟨some d,op,ty,pos,af,none⟩ :: rest) tm acc Q:=by
 refine AT.XK rfl (fun β X hX=>?_) k
 have go:∀ {H:Heap},QV P ⟨some d,op,ty,pos,af,none⟩ ⟨n,Dd (looks all ⟨some d,op,ty,pos,af,none⟩) tm,H⟩ av→sd P all n H ⟨some d,op,ty,pos,af,none⟩ (lk tm) [] (fun _=>av) (fun _=>[]):=by
  intro H q
  refine F7 (fun d' Bb=>by obtain rfl:=Option.some.inj Bb;simpa using hn) rfl (fun w S a s1 s2 s3 s4 K Q' hK=>?_)
  obtain ⟨v,g1,g2⟩:=q w S a (qZ s1 s2 s3 s4)
  show Oper.upon P _ a K Q' _
  rw [g1 w (Ext.refl w)]
  exact hK v w S (Grow.refl s3.slt) g2
 rw [hr β] at hX
 rw [Lu β,show (fun b=>jL tk i (pd β i b))=fun _=>[] from funext fun b=>Lv _]
 refine sd.up ?_
 rcases List.mem_cons.1 hX with rfl | hX
 ·rw [nK (h0 β)];exact go (q0 β)
 ·obtain rfl:=List.mem_singleton.1 hX
  rw [nK (h1 β)];exact go (q1 β)
end rules
end Go.Eng
set_option linter.unusedSimpArgs false
namespace Go.Eng
open Go
variable [bx]
theorem ai.Ps {n:Nat} {tm:List (Nat×AV)} {hp:Heap} {dR:Nat→Heap} {T:St→Prop} {b:Bk} {es:List (AV×AV)} {k:AV} (u:∀ q,oW hp b (.mp es) b (.zy es q k) (dR q)) (kk:∀ q,ai ⟨n,tm,dR q⟩ T):ai ⟨n,tm,hp⟩ T:=fun w S a r=>by
 obtain ⟨L,c,hL,hH⟩:=r.hp.holds _ (u 0).FN.mem
 have hq:∃ q,(∃ e∈L,e.k=k∧e.born=q)∨((∀ e∈L,e.k≠k)∧q=c):=by
  by_cases h:∃ e∈L,e.k=k
  ·obtain ⟨e,he,hk⟩:=h;exact ⟨e.born,.inl ⟨e,he,hk,rfl⟩⟩
  ·exact ⟨c,.inr ⟨fun e he hk=>h ⟨e,he,hk⟩,rfl⟩⟩
 obtain ⟨q,hq⟩:=hq
 obtain ⟨r1,e1,_⟩:=rD r.hp (u q) (BA w b.cF) id id ⟨L,c,hL,hH,hq⟩ (.inl rfl)
 obtain ⟨aE,S',t1,t2,t3⟩:=kk q w S a (r.heap (fun m hm=>⟨hm,rfl⟩) r1)
 exact ⟨aE,S',t1,t2,e1.trans t3⟩
theorem Cc {K V:Type} {gk:K→AV} {gv:V→AV} {w:World} {S:Nat→Prop} {hp:Heap} {b:Bk} {M:List (K×V)} {q:Nat} {key:K} (HA:∀ a b,gk a=gk b→a=b) (r:dv w S hp) (f:mf hp b (.zy (M.map fun e=>(gk e.1,gv e.2)) q (gk key))):
 ∃ (L:List jA) (c:Nat) (M':List (K×V)) (n:Nat) (dJ:Array MapEntry),M'.Perm M∧L.map jA.kv=M'.map (fun e=>(gk e.1,gv e.2))∧uJ w S b L c∧b.cF=some n∧w.heap[n]? =some (.map dJ c)∧dJ.toList.length=M'.length∧
   (∀ (i:Nat) e m,M'[i]? =some e→dJ.toList[i]? =some m→At w S (gk e.1) m.key∧At w S (gv e.2) m.val)∧(M'.map Prod.fst).Nodup∧((∃ e∈L,e.k=gk key∧e.born=q)∨((∀ e∈L,e.k≠gk key)∧q=c)):=by
 obtain ⟨L,c,mB,hH,hq⟩:=r.holds _ f.mem
 obtain ⟨M',h1,h2⟩:=sT _ _ _ mB
 have Qh:=hH
 obtain ⟨n,dJ,g1,g2,g3,g4,g5,g6,g7⟩:=hH
 have hlen:L.length=M'.length:=by have:=congrArg List.length h2;simpa using this
 refine ⟨L,c,M',n,dJ,h1,h2,Qh,g1,g2,by rw [Array.length_toList,g3,hlen],fun i e m he hm=>?_,?_,hq⟩
 ·have:(L.map jA.kv)[i]? =some (gk e.1,gv e.2):=by rw [h2,List.getElem?_map,he];rfl
  rw [List.getElem?_map] at this
  cases hL:L[i]? with
  | none=>rw [hL] at this;cases this
  | some x=>
    rw [hL] at this
    have hx:(x.k,x.v)=(gk e.1,gv e.2):=Option.some.inj this
    obtain ⟨q1,q2⟩:=Prod.mk.inj hx
    have:=g4 i x m hL (by simpa using hm)
    rw [q1,q2] at this
    exact this.2
 ·have hk:L.map (·.k)=(M'.map Prod.fst).map gk:=by
   have:=congrArg (List.map Prod.fst) h2
   simpa [List.map_map,Function.comp_def,jA.kv] using this
  rw [hk] at g7
  exact (List.pairwise_map.1 g7).imp (fun h e=>h (by rw [e]))
theorem set_perm {K V:Type} [DecidableEq K] {M M':List (K×V)} {j:Nat} {key:K} {v v':V} (p1:M'.Perm M) (p8:(M'.map Prod.fst).Nodup) (q4:M'[j]? =some (key,v)):(M'.set j (key,v')).Perm ((key,v') :: mQ M key):=by
 have Pp:j < M'.length:=(List.getElem?_eq_some_iff.1 q4).1
 have e2:M'=M'.take j++(key,v) :: M'.drop (j+1):=by
  have:=List.take_append_drop j M'
  rw [List.drop_eq_getElem_cons Pp] at this
  have hq:M'[j]=(key,v):=by rw [List.getElem?_eq_getElem Pp] at q4;exact Option.some.inj q4
  rw [hq] at this
  exact this.symm
 have e3:M'.set j (key,v')=M'.take j++(key,v') :: M'.drop (j+1):=by
  rw [List.set_eq_take_append_cons_drop,if_pos Pp]
 rw [e3]
 refine List.perm_middle.trans (List.Perm.cons _ ?_)
 have e4:mQ M' key=M'.take j++M'.drop (j+1):=by
  have Qi:=p8
  rw [e2,List.map_append,List.map_cons,List.nodup_append,List.nodup_cons] at Qi
  unfold mQ
  rw [e2,List.filter_append,List.filter_cons]
  simp only [ne_eq,not_true_eq_false,decide_false,Bool.false_eq_true,if_false]
  rw [← e2]
  congr 1
  ·refine List.filter_eq_self.2 fun e he=>?_
   simp only [decide_not,Bool.not_eq_true',decide_eq_false_iff_not]
   intro hk
   exact Qi.2.2 e.1 (List.mem_map.2 ⟨e,he,rfl⟩) key (by simp) hk
  ·refine List.filter_eq_self.2 fun e he=>?_
   simp only [decide_not,Bool.not_eq_true',decide_eq_false_iff_not]
   intro hk
   exact Qi.2.1.1 (List.mem_map.2 ⟨e,he,hk⟩)
 rw [← e4]
 exact p1.filter _
theorem JQ {K V:Type} [DecidableEq K] [vV K] (M:List (K×V)) (key:K) (v:V):(mQ (kO M key v) key).Perm (mQ M key):=by
 refine ((tf M key v).filter _).trans ?_
 rw [List.filter_cons,if_neg (by simp)]
 have:(mQ M key).filter (fun e=>decide (e.1≠key))=mQ M key:=List.filter_eq_self.2 fun e he=>by simpa using B8 M key e he
 rw [this]
section rules
variable {P:Program} {all:Array Oper} {rest:List Oper} {n:Nat} {tm:List (Nat×AV)} {hp:Heap} {Q:St→Prop} {d:Nat} {ty:TypeId} {pos:String} {af:Array Edge}
theorem xw {K V:Type} [DecidableEq K] {gk:K→AV} {gv:V→AV} {M:List (K×V)} {key L0:K} {q:Nat} {Z v:V} {t kt vt:TypeId} {i:TypeInfo} {z:Value} {x y:Operand} {b:Bk} {av:AV} [aA P t (.map kt vt)] [aN P vt i] [gn P kt gk] (hx:dk tm x=some (.gl b)) (hy:dk tm y=some (gk key)) (f:mf hp b (.zy (M.map fun e=>(gk e.1,gv e.2)) q (gk L0))) (hz:i.zero=some z) (Ga:zE z=gv Z) (h1:jl (zE z).cells=true) (h:kK M key Z=some v) (qN:gv v=av):
 QV P ⟨some d,.lookup t x y false,ty,pos,af,none⟩ ⟨n,tm,hp⟩ av:=by
 intro w S a r
 have kx:=aV (σ:=⟨n,tm,hp⟩) r hx
 have ky:=aV (σ:=⟨n,tm,hp⟩) r hy
 obtain ⟨nb,hb,ex⟩:=kx.ov
 obtain ⟨L,c,M',AH,dJ,p1,p2,p3,p4,p5,p6,p7,p8,_⟩:=Cc (gn.inj P kt) r.hp f
 obtain rfl:AH=nb:=by rw [p4] at hb;exact Option.some.inj hb
 unfold kK at h
 have hv:=Option.some.inj h
 rw [← pt p1 p8] at hv
 have pv:=gn.find (P:=P) (t:=kt) (g:=gk) ky dJ.toList (M'.map Prod.fst) (by simpa using p6.symm) (fun j k' e h1 h2=>by
  rw [List.getElem?_map] at h1
  cases hm:M'[j]? with
  | none=>rw [hm] at h1;cases h1
  | some q=>rw [hm] at h1;rw [← Option.some.inj h1];exact (p7 j q e hm h2).1)
 rcases um (gv:=gv) (w:=w) (S:=S) (k:=key) M' dJ.toList 0 p6.symm (fun j e m h1 h2=>(p7 j e m h1 h2).2) with ⟨q1,q2⟩ | ⟨v',j,val,q1,q2,q3,_⟩
 ·refine ⟨z,fun w1 e1=>?_,?_⟩
  ·simp [execOp,Instr.lookup,ex,run_underlying (aA.h (P:=P) (t:=t)),dO (e1.heap p5),gn.check (P:=P) (t:=kt) ky,pv,q2,zeroValue,typeInfo,aN.h (P:=P) (t:=vt),hz]
  ·rw [← qN,← hv,q1,Option.getD_none,← Ga];exact EZ w S z h1
 ·refine ⟨val,fun w1 e1=>?_,?_⟩
  ·simp [execOp,Instr.lookup,ex,run_underlying (aA.h (P:=P) (t:=t)),dO (e1.heap p5),gn.check (P:=P) (t:=kt) ky,pv,q2]
  ·rw [← qN,← hv,q1,Option.getD_some];exact q3
theorem Cd {K V:Type} [DecidableEq K] [vV K] {gk:K→AV} {gv:V→AV} {M:List (K×V)} {key:K} {q:Nat} {Z v:V} {t kt vt:TypeId} {i:TypeInfo} {z:Value} {x y:Operand} {b:Bk} {dR:Heap} [aA P t (.map kt vt)] [aN P vt i] [gn P kt gk] (hx:dk tm x=some (.gl b)) (hy:dk tm y=some (gk key)) (hz:i.zero=some z) (Ga:zE z=gv Z) (h1:jl (zE z).cells=true) (h:kK M key Z=some v)
 (u:oW hp b (.zy (M.map fun e=>(gk e.1,gv e.2)) q (gk key)) b (.zy ((kO M key v).map fun e=>(gk e.1,gv e.2)) q (gk key)) dR) (hn:Nat.blt d n=true)
 (kk:ae P all rest ⟨n,(d,.om [gv v,.int .i64 (q:Int)]) :: tm,dR⟩ Q):ae P all (⟨some d,.mapEntry t x y,ty,pos,af,none⟩ :: rest) ⟨n,tm,hp⟩ Q:=by
 refine ae.Iq rfl fun w S a r=>?_
 have kx:=aV (σ:=⟨n,tm,hp⟩) r hx
 have ky:=aV (σ:=⟨n,tm,hp⟩) r hy
 obtain ⟨nb,hb,ex⟩:=kx.ov
 obtain ⟨L,c,M',AH,dJ,p1,p2,p3,p4,p5,p6,p7,p8,hq⟩:=Cc (gn.inj P kt) r.hp u.FN
 obtain rfl:AH=nb:=by rw [p4] at hb;exact Option.some.inj hb
 unfold kK at h
 have hv:=Option.some.inj h
 rw [← pt p1 p8] at hv
 have pv:=gn.find (P:=P) (t:=kt) (g:=gk) ky dJ.toList (M'.map Prod.fst) (by simpa using p6.symm) (fun j k' e h1 h2=>by
  rw [List.getElem?_map] at h1
  cases hm:M'[j]? with
  | none=>rw [hm] at h1;cases h1
  | some q=>rw [hm] at h1;rw [← Option.some.inj h1];exact (p7 j q e hm h2).1)
 obtain ⟨M8,gS,g1,g2,g3,g4,g5,g6,g7⟩:=p3
 obtain rfl:M8=AH:=by rw [p4] at g1;exact (Option.some.inj g1).symm
 obtain rfl:gS=dJ:=by rw [p5] at g2;exact (Obj.map.inj (Option.some.inj g2)).1.symm
 have Us:L.length=M'.length:=by have:=congrArg List.length p2;simpa using this
 have NU:∀ (j:Nat) (x:jA) (e:K×V),L[j]? =some x→M'[j]? =some e→x.k=gk e.1∧x.v=gv e.2:=by
  intro j x e h1 h2
  have:(L.map jA.kv)[j]? =(M'.map fun e=>(gk e.1,gv e.2))[j]?:=by rw [p2]
  rw [List.getElem?_map,List.getElem?_map,h1,h2] at this
  exact Prod.mk.inj (Option.some.inj this)
 rcases um (gv:=gv) (w:=w) (S:=S) (k:=key) M' gS.toList 0 p6.symm (fun j e m h1 h2=>(p7 j e m h1 h2).2) with ⟨q1,q2⟩ | ⟨v',j,val,q1,q2,q3,q4⟩
 ·
  have De:∀ e∈L,e.k≠gk key:=by
   intro e he hk
   obtain ⟨j,hj⟩:=List.getElem?_of_mem he
   have Hk:j < M'.length:=by rw [← Us];exact (List.getElem?_eq_some_iff.1 hj).1
   have:=(NU j e M'[j] hj (List.getElem?_eq_getElem Hk)).1
   rw [hk] at this
   exact (ps.1 q1) M'[j] (List.getElem_mem Hk) (gn.inj P kt _ _ this.symm)
  have XR:q=c:=by
   rcases hq with ⟨e,he,hk,_⟩ | ⟨_,hc⟩
   ·exact absurd hk (De e he)
   ·exact hc
  rw [q1,Option.getD_none] at hv
  subst hv
  have kz:At w S (gv Z) z:=by rw [← Ga];exact EZ w S z h1
  have hw:=te (ob:=.map (gS.push ⟨a.eval y,z,c⟩) (c+1)) r.hp u p4 p5 id id (fun k1=>by
   refine ⟨L++[⟨gk key,gv Z,c⟩],c+1,?_,⟨M8,gS.push ⟨a.eval y,z,c⟩,p4,td p5,by simp [g3],?_,?_,?_,?_⟩,.inl ⟨⟨gk key,gv Z,c⟩,by simp,rfl,XR.symm⟩⟩
   ·rw [List.map_append,p2]
    refine List.Perm.trans ?_ ((rb key Z (mQ M key)).symm.map _)
    rw [u9 (by rw [← pt p1 p8];exact q1)]
    exact List.perm_append_comm.trans (List.Perm.cons _ (p1.map _))
   ·intro i e m he hm
    rw [Array.getElem?_push] at hm
    rcases Nat.lt_or_ge i L.length with hi | hi
    ·rw [List.getElem?_append_left hi] at he
     rw [if_neg (by omega)] at hm
     obtain ⟨s1,s2,s3⟩:=g4 i e m he hm
     exact ⟨s1,s2.mono k1,s3.mono k1⟩
    ·have Db:i=L.length:=by
      have:=(List.getElem?_eq_some_iff.1 he).1
      simp at this;omega
     subst Db
     rw [if_pos g3.symm] at hm
     simp at he
     obtain rfl:=Option.some.inj hm
     subst he
     exact ⟨rfl,ky.mono k1,kz.mono k1⟩
   ·intro e he
    rcases List.mem_append.1 he with h | h
    ·have:=g5 e h;omega
    ·simp at h;subst h;simp
   ·rw [List.map_append,List.nodup_append]
    refine ⟨g6,by simp,fun a1 ha b1 Hm JB=>?_⟩
    simp at Hm
    subst Hm
    obtain ⟨e,he,rfl⟩:=List.mem_map.1 ha
    have:=g5 e he
    omega
   ·rw [List.map_append,List.nodup_append]
    refine ⟨g7,by simp,fun a1 ha b1 Hm JB=>?_⟩
    simp at Hm
    subst Hm
    obtain ⟨e,he,rfl⟩:=List.mem_map.1 ha
    exact De e he JB)
  refine ⟨.tuple #[z,goInt c],_,S,_,?_,(r.heap hw.2.2 hw.1).put hn (.om _ _ rfl (vx (kz.mono hw.2.2) ?_)),hw.2.1,kk⟩
  ·simp [execOp,Instr.mapEntry,ex,run_underlying (aA.h (P:=P) (t:=t)),dO p5,gn.check (P:=P) (t:=kt) ky,pv,q2,zeroValue,typeInfo,aN.h (P:=P) (t:=vt),hz,tA _ p5]
  ·rw [XR];exact .int _ _
 ·
  have Hk:j < gS.toList.length:=by rw [p6];exact (List.getElem?_eq_some_iff.1 q4).1
  have A8:j < gS.size:=by simpa using Hk
  have V8:gS.toList[j]? =some gS[j]:=by simp [A8]
  have V9:=(p7 j _ _ q4 V8).1
  have LH:Instr.sameBits 10000 gS[j].key (a.eval y)=true:=gn.bits (P:=P) (t:=kt) V9 ky
  have AI:j < L.length:=by omega
  have N9:L[j].k=gk key:=(NU j L[j] _ (List.getElem?_eq_getElem AI) q4).1
  have B4:gS[j].born=L[j].born:=(g4 j L[j] gS[j] (List.getElem?_eq_getElem AI) (Array.getElem?_eq_getElem A8)).1
  have Tp:L[j].born=q:=by
   rcases hq with ⟨e,he,hk,hb⟩ | ⟨Dc,_⟩
   ·obtain ⟨i,hi⟩:=List.getElem?_of_mem he
    have pL:=(List.getElem?_eq_some_iff.1 hi).1
    have e1:(L.map (·.k))[i]? =some (gk key):=by rw [List.getElem?_map,hi,Option.map_some,hk]
    have e2:(L.map (·.k))[j]? =some (gk key):=by rw [List.getElem?_map,List.getElem?_eq_getElem AI,Option.map_some,N9]
    have yC:i=j:=(List.getElem?_inj (by simpa using pL) g7).1 (e1.trans e2.symm)
    subst yC
    rw [← hb]
    exact congrArg jA.born (Option.some.inj ((List.getElem?_eq_getElem AI).symm.trans hi))
   ·exact absurd N9 (Dc _ (List.getElem_mem AI))
  rw [q1,Option.getD_some] at hv
  subst hv
  have hw:=te (ob:=.map (gS.modify j fun e=>{e with key:=a.eval y}) c) r.hp u p4 p5 id id (fun k1=>by
   refine ⟨L,c,?_,⟨M8,_,p4,td p5,by simp [g3],?_,g5,g6,g7⟩,.inl ⟨L[j],List.getElem_mem AI,N9,Tp⟩⟩
   ·rw [p2]
    refine List.Perm.map _ ?_
    refine List.Perm.trans ?_ (tf M key v').symm
    have e1:M'.set j (key,v')=M':=wL q4
    rw [← e1]
    exact set_perm p1 p8 q4
   ·intro i e m he hm
    rw [Array.getElem?_modify] at hm
    by_cases yC:j=i
    ·subst yC
     simp only [if_true,Array.getElem?_eq_getElem A8,Option.map_some] at hm
     obtain rfl:=Option.some.inj hm
     obtain ⟨s1,s2,s3⟩:=g4 j e gS[j] he (Array.getElem?_eq_getElem A8)
     have:e=L[j]:=Option.some.inj (he.symm.trans (List.getElem?_eq_getElem AI))
     refine ⟨s1,?_,s3.mono k1⟩
     rw [this,N9];exact ky.mono k1
    ·rw [if_neg yC] at hm
     obtain ⟨s1,s2,s3⟩:=g4 i e m he hm
     exact ⟨s1,s2.mono k1,s3.mono k1⟩)
  refine ⟨.tuple #[val,goInt gS[j].born],_,S,_,?_,(r.heap hw.2.2 hw.1).put hn (.om _ _ rfl (vx (q3.mono hw.2.2) ?_)),hw.2.1,kk⟩
  ·simp [execOp,Instr.mapEntry,ex,run_underlying (aA.h (P:=P) (t:=t)),dO p5,gn.check (P:=P) (t:=kt) ky,pv,q2,Instr.keyThatStays,A8,LH,tA _ p5]
  ·rw [B4,Tp];exact .int _ _
theorem yZ {K V:Type} [DecidableEq K] [vV K] {gk:K→AV} {gv:V→AV} {M:List (K×V)} {key:K} {q:Nat} {v v':V} {t kt:TypeId} {x s y:Operand} {b:Bk} {av:AV} {dR:Heap} [gn P kt gk] (hx:dk tm x=some (.gl b)) (hs:dk tm s=some (.int .i64 (q:Int))) (hy:dk tm y=some av) (qN:av=gv v')
 (u:oW hp b (.zy ((kO M key v).map fun e=>(gk e.1,gv e.2)) q (gk key)) b (.mp ((kO M key v').map fun e=>(gk e.1,gv e.2))) dR)
 (kk:ae P all rest ⟨n,tm,dR⟩ Q):ae P all (⟨none,.entryStore t x s y,ty,pos,af,none⟩ :: rest) ⟨n,tm,hp⟩ Q:=by
 refine ae.act rfl rfl (fun w S a r=>?_) kk
 have kx:=aV (σ:=⟨n,tm,hp⟩) r hx
 have ks:=(aV (σ:=⟨n,tm,hp⟩) r hs).fK
 have ky:=aV (σ:=⟨n,tm,hp⟩) r hy
 obtain ⟨nb,hb,ex⟩:=kx.ov
 obtain ⟨L,c,M',AH,dJ,p1,p2,p3,p4,p5,p6,p7,p8,hq⟩:=Cc (gn.inj P kt) r.hp u.FN
 obtain rfl:AH=nb:=by rw [p4] at hb;exact Option.some.inj hb
 obtain ⟨M8,gS,g1,g2,g3,g4,g5,g6,g7⟩:=p3
 obtain rfl:M8=AH:=by rw [p4] at g1;exact (Option.some.inj g1).symm
 obtain rfl:gS=dJ:=by rw [p5] at g2;exact (Obj.map.inj (Option.some.inj g2)).1.symm
 have Us:L.length=M'.length:=by have:=congrArg List.length p2;simpa using this
 have NU:∀ (j:Nat) (x:jA) (e:K×V),L[j]? =some x→M'[j]? =some e→x.k=gk e.1∧x.v=gv e.2:=by
  intro j x e h1 h2
  have:(L.map jA.kv)[j]? =(M'.map fun e=>(gk e.1,gv e.2))[j]?:=by rw [p2]
  rw [List.getElem?_map,List.getElem?_map,h1,h2] at this
  exact Prod.mk.inj (Option.some.inj this)
 have No:(key,v)∈M':=p1.mem_iff.2 ((tf M key v).mem_iff.2 (by simp))
 obtain ⟨j,hj⟩:=List.getElem?_of_mem No
 have Pp:=(List.getElem?_eq_some_iff.1 hj).1
 have AI:j < L.length:=by omega
 have A8:j < gS.size:=by omega
 have N9:L[j].k=gk key:=(NU j L[j] _ (List.getElem?_eq_getElem AI) hj).1
 have B4:gS[j].born=L[j].born:=(g4 j L[j] gS[j] (List.getElem?_eq_getElem AI) (Array.getElem?_eq_getElem A8)).1
 have Tp:L[j].born=q:=by
  rcases hq with ⟨e,he,hk,hb⟩ | ⟨Dc,_⟩
  ·obtain ⟨i,hi⟩:=List.getElem?_of_mem he
   have pL:=(List.getElem?_eq_some_iff.1 hi).1
   have e1:(L.map (·.k))[i]? =some (gk key):=by rw [List.getElem?_map,hi,Option.map_some,hk]
   have e2:(L.map (·.k))[j]? =some (gk key):=by rw [List.getElem?_map,List.getElem?_eq_getElem AI,Option.map_some,N9]
   have yC:i=j:=(List.getElem?_inj (by simpa using pL) g7).1 (e1.trans e2.symm)
   subst yC
   rw [← hb]
   exact congrArg jA.born (Option.some.inj ((List.getElem?_eq_getElem AI).symm.trans hi))
  ·exact absurd N9 (Dc _ (List.getElem_mem AI))
 have hfi:gS.findIdx? (fun e=>(e.born:Int)==(q:Int))=some j:=by
  rw [Array.findIdx?_eq_some_iff_getElem]
  refine ⟨A8,by simp [B4,Tp],fun i hi=>?_⟩
  have FC:i < gS.size:=by omega
  have Db:i < L.length:=by omega
  have Qg:gS[i].born=L[i].born:=(g4 i L[i] gS[i] (List.getElem?_eq_getElem Db) (Array.getElem?_eq_getElem FC)).1
  simp only [beq_iff_eq,Int.natCast_inj,Qg]
  intro hc
  have e1:(L.map (·.born))[i]? =some q:=by rw [List.getElem?_map,List.getElem?_eq_getElem Db,Option.map_some,hc]
  have e2:(L.map (·.born))[j]? =some q:=by rw [List.getElem?_map,List.getElem?_eq_getElem AI,Option.map_some,Tp]
  have yC:i=j:=(List.getElem?_inj (by simpa using Db) g6).1 (e1.trans e2.symm)
  omega
 have hw:=te (ob:=.map (gS.modify j fun e=>{e with val:=a.eval y}) c) r.hp u p4 p5 id id (fun k1=>by
  refine ⟨L.set j ⟨gk key,gv v',L[j].born⟩,c,?_,M8,_,p4,td p5,by simp [g3],?_,?_,?_,?_⟩
  ·rw [List.map_set]
   have e1:(L.map jA.kv).set j (gk key,gv v')=(M'.set j (key,v')).map fun e=>(gk e.1,gv e.2):=by rw [p2,List.map_set]
   show ((L.map jA.kv).set j (gk key,gv v')).Perm _
   rw [e1]
   refine List.Perm.map _ ?_
   refine (set_perm p1 p8 hj).trans ?_
   refine List.Perm.trans ?_ (tf M key v').symm
   exact List.Perm.cons _ (JQ M key v)
  ·intro i e m he hm
   rw [Array.getElem?_modify] at hm
   rw [List.getElem?_set] at he
   by_cases yC:j=i
   ·subst yC
    simp only [if_true,AI] at he
    simp only [if_true,Array.getElem?_eq_getElem A8,Option.map_some] at hm
    obtain rfl:=Option.some.inj he
    obtain rfl:=Option.some.inj hm
    obtain ⟨s1,s2,s3⟩:=g4 j L[j] gS[j] (List.getElem?_eq_getElem AI) (Array.getElem?_eq_getElem A8)
    rw [N9] at s2
    exact ⟨s1,s2.mono k1,by rw [qN] at ky;exact ky.mono k1⟩
   ·rw [if_neg yC] at he hm
    obtain ⟨s1,s2,s3⟩:=g4 i e m he hm
    exact ⟨s1,s2.mono k1,s3.mono k1⟩
  ·intro e he
   rcases List.mem_or_eq_of_mem_set he with h | h
   ·exact g5 e h
   ·subst h;exact g5 L[j] (List.getElem_mem AI)
  ·rw [List.map_set]
   have:(L.map (·.born)).set j L[j].born=L.map (·.born):=by
    exact wL (by rw [List.getElem?_map,List.getElem?_eq_getElem AI];rfl)
   rw [this];exact g6
  ·rw [List.map_set]
   have:(L.map (·.k)).set j (gk key)=L.map (·.k):=by
    exact wL (by rw [List.getElem?_map,List.getElem?_eq_getElem AI,Option.map_some,N9])
   rw [this];exact g7)
 refine ⟨_,S,?_,r.heap hw.2.2 hw.1,hw.2.1⟩
 have LQ:∀ w1:World,(asInt (Value.int .i64 (q:Int))).run P w1=.ok (q:Int) w1:=fun w1=>by simp [asInt,asIntOf]
 simp [execOp,Instr.entryStore,ex,ks,dO p5,LQ,hfi,tA _ p5]
end rules
section ara
variable {V:Type}
variable {kb:Bk→(Nat→Bk)→V→List (Bk×PO)} {bo bo':Nat→Bk} {bs bs':Nat→Nat→Bk}
end ara
section rules
variable {P:Program} {all:Array Oper} {rest:List Oper} {n:Nat} {tm:List (Nat×AV)} {hp:Heap} {Q:St→Prop} {d:Nat} {ty:TypeId} {pos:String} {af:Array Edge}
end rules
section todo
variable {P:Program} {R:St→Prop} {k:List It} {σ:St}
theorem cD {α:Type} {c:Operand} {x y:Code} {p:Prop} [Decidable p] {a b z:α} (h:(if p then a else b)=z) (hc:dk σ.tm c=some (.bool (decide p))) (h1:a=z→ab P R (.code x :: k) σ) (h2:b=z→ab P R (.code y :: k) σ):ab P R (.code (.cond c x y) :: k) σ:=
 ab.PV hc (fun hp=>h1 (lL hp h)) (fun hp=>h2 (zI hp h))
theorem cB {α:Type} {c:Operand} {x y:Code} {p:Bool} {a b z:α} (h:(if p=true then a else b)=z) (hc:dk σ.tm c=some (.bool p)) (h1:a=z→ab P R (.code x :: k) σ) (h2:b=z→ab P R (.code y :: k) σ):ab P R (.code (.cond c x y) :: k) σ:=
 ab.cond hc (fun hp=>h1 (lL hp h)) (fun hp=>h2 (lM hp h))
end todo
section rules
variable {P:Program} {all:Array Oper} {rest:List Oper} {n:Nat} {tm:List (Nat×AV)} {hp:Heap} {Q:St→Prop} {d:Nat} {ty:TypeId} {pos:String} {af:Array Edge} {op:Op} {s:Nat} {j:Nat}
theorem gT {α:Type} {p:Prop} [Decidable p] {a b z:α} (h:(if p then a else b)=z) (hj:(all[j]?).bind (·.dst)=some s) (hs:lk tm s=some (.bool (decide p))) (hn:Nat.blt d n=true) (h1:a=z→ae P all (⟨some d,op,ty,pos,af,none⟩ :: rest) ⟨n,(s,.bool true) :: tm,hp⟩ Q)
 (h2:b=z→ae P all rest ⟨n,(d,.raw undef) :: (s,.bool false) :: tm,hp⟩ Q):ae P all (⟨some d,op,ty,pos,af,some (j,true)⟩ :: rest) ⟨n,tm,hp⟩ Q:=
 ae.cN hj hs hn (fun hp=>h1 (lL hp h)) (fun hp=>h2 (zI hp h))
theorem gF {α:Type} {p:Prop} [Decidable p] {a b z:α} (h:(if p then a else b)=z) (hj:(all[j]?).bind (·.dst)=some s) (hs:lk tm s=some (.bool (decide p))) (hn:Nat.blt d n=true) (h1:b=z→ae P all (⟨some d,op,ty,pos,af,none⟩ :: rest) ⟨n,(s,.bool false) :: tm,hp⟩ Q)
 (h2:a=z→ae P all rest ⟨n,(d,.raw undef) :: (s,.bool true) :: tm,hp⟩ Q):ae P all (⟨some d,op,ty,pos,af,some (j,false)⟩ :: rest) ⟨n,tm,hp⟩ Q:=
 ae.fC hj hs hn (fun hp=>h1 (zI hp h)) (fun hp=>h2 (lL hp h))
end rules
theorem hP {P:Program} {σ:St} {s:Nat} {av:AV} {Q:List AV→St→Prop} (h1:lk σ.tm s=some av) (h2:Q [av] σ):ai σ (fun aE=>∃ rs,Rs P aE [.tmp s] rs∧Q rs aE):=ai.here ⟨[av],.cons (.tmp _ _ h1) .nil,h2⟩
theorem cR {hp:Heap} {l:List AV}:yP hp l l:=yP.refl _
theorem hH {P:Program} {σ:St} {s:Nat} {av:AV} {Q:List AV→Heap→Prop} {dR:Heap} (h1:lk σ.tm s=some av) (is:List Nat) (hs:B5 σ.hp is=some dR) (h2:Q [av] dR):ai σ (fun aE=>∃ rs,Rs P aE [.tmp s] rs∧(∃ h',HS aE.hp h'∧Q rs h')):=ai.here ⟨[av],.cons (.tmp _ _ h1) .nil,dR,yW hs,h2⟩
theorem hQ {P:Program} {σ:St} {s t:Nat} {av aw:AV} {Q:List AV→St→Prop} (h1:lk σ.tm s=some av) (Hh:lk σ.tm t=some aw) (h2:Q [av,aw] σ):ai σ (fun aE=>∃ rs,Rs P aE [.tmp s,.tmp t] rs∧Q rs aE):=ai.here ⟨[av,aw],.cons (.tmp _ _ h1) (.cons (.tmp _ _ Hh) .nil),h2⟩
theorem hI {P:Program} {σ:St} {s t:Nat} {av aw:AV} {Q:List AV→Heap→Prop} {dR:Heap} (h1:lk σ.tm s=some av) (Hh:lk σ.tm t=some aw) (is:List Nat) (hs:B5 σ.hp is=some dR) (h2:Q [av,aw] dR):ai σ (fun aE=>∃ rs,Rs P aE [.tmp s,.tmp t] rs∧(∃ h',HS aE.hp h'∧Q rs h')):=ai.here ⟨[av,aw],.cons (.tmp _ _ h1) (.cons (.tmp _ _ Hh) .nil),dR,yW hs,h2⟩
end Go.Eng
namespace Go.Eng
open Go
section
variable {K V:Type} [DecidableEq K] [vV K]
theorem Ed (k:K) (v:V):∀ m:List (K×V),(∀ e∈m,e.1≠k)→bM (u7 k v m) k=some v
 | [],_=>by simp [u7,bM]
 | e :: r,h=>by
   unfold u7
   split
   ·unfold bM
    rw [if_neg (h e (by simp))]
    exact Ed k v r (fun x hx=>h x (by simp [hx]))
   ·unfold bM
    rw [if_pos rfl]
theorem Ee {m:List (K×V)} {k:K} {z v:V} (h:kK m k z=some v):kK (kO m k v) k z=some v:=by
 unfold kK kO
 rw [Ed k v _ (fun e he=>by unfold mQ at he;simpa using (List.mem_filter.1 he).2)]
 rfl
end
end Go.Eng
namespace Go.Eng
open Go
variable [bx]
def pN:Nat→Nat→Nat
 | 0,b=>2 * b+1
 | a+1,b=>2 * pN a b
theorem E1:∀ (a b a' b':Nat),pN a b=pN a' b'→a=a'∧b=b'
 | 0,b,0,b',h=>by unfold pN at h;exact ⟨rfl,by omega⟩
 | 0,b,a'+1,b',h=>by unfold pN at h;omega
 | a+1,b,0,b',h=>by unfold pN at h;omega
 | a+1,b,a'+1,b',h=>by
   unfold pN at h
   obtain ⟨h1,h2⟩:=E1 a b a' b' (by omega)
   exact ⟨by rw [h1],h2⟩
def pO:Option Nat→Nat
 | none=>0
 | some n=>n+1
theorem Wj:pO none=0:=rfl
theorem Wk (n:Nat):pO (some n)=n+1:=rfl
theorem L2 {a b:Option Nat} (h:pO a=pO b):a=b:=by
 cases a<;>cases b<;>simp only [Wj,Wk] at h
 ·rfl
 ·omega
 ·omega
 ·rename_i n m
  rw [show n=m by omega]
def L3 (a b:Bk):Bk:=⟨some (pN (pN (pO a.cF) a.cap) (pN (pO b.cF) b.cap)),0⟩
theorem IU {a b a' b':Bk} (h:L3 a b=L3 a' b'):a=a'∧b=b':=by
 have h1:=Option.some.inj (Bk.mk.inj h).1
 obtain ⟨h2,h3⟩:=E1 _ _ _ _ h1
 obtain ⟨h4,h5⟩:=E1 _ _ _ _ h2
 obtain ⟨h6,h7⟩:=E1 _ _ _ _ h3
 cases a;cases b;cases a';cases b'
 simp only at h4 h5 h6 h7
 rw [L2 h4,h5,L2 h6,h7]
 exact ⟨rfl,rfl⟩
open Classical in
noncomputable def Na (x:Bk):Bk:=if h:∃ a b,L3 a b=x then h.choose else x
open Classical in
noncomputable def Nb (x:Bk):Bk:=if h:∃ a b,L3 a b=x then h.choose_spec.choose else x
theorem L4 (a b:Bk):Na (L3 a b)=a:=by
 have h:∃ a' b',L3 a' b'=L3 a b:=⟨a,b,rfl⟩
 unfold Na
 rw [dif_pos h]
 exact (IU h.choose_spec.choose_spec).1
theorem L5 (a b:Bk):Nb (L3 a b)=b:=by
 have h:∃ a' b',L3 a' b'=L3 a b:=⟨a,b,rfl⟩
 unfold Nb
 rw [dif_pos h]
 exact (IU h.choose_spec.choose_spec).2
section rules
variable {P:Program} {all:Array Oper} {n:Nat} {B:Heap} {tk:List Tok} {dy:List Nat} {i:Nat} {rest:List Oper} {tm qP:List (Nat×AV)} {acc:(Nat→Bk)→List (Nat×AV)} {Q:(Nat→Bk)→List (Nat×AV)→Prop} {d:Nat} {ty:TypeId} {pos:String} {af:Array Edge} {op:Op}
theorem AT.Tq {V:Bk→Bk→AV} {Ti H1:(Nat→Bk)→Heap} {Pi H2:Bk→Bk→Heap} (Jr:∀ β,vz tk i β=[[]]) (Lu:∀ β,uM tk i β=Ti β) (Lv:∀ β b,jL tk i (pd β i b)=Pi (Na b) (Nb b)) (h1:∀ β,sc (Ti β) B=some (H1 β)) (h2:∀ x y,sc (Pi x y) B=some (H2 x y)) (hn:Nat.blt d n=true) (hr:Qn d tm=qP) (NM:dy.contains i=true)
 (uK:∀ β,ae P all [⟨some d,op,ty,pos,af,none⟩] ⟨n,Dd (looks all ⟨some d,op,ty,pos,af,none⟩) (tm++acc β),H1 β⟩ (fun aE=>∃ x y yE,aE=⟨n,yE,H2 x y⟩∧lk yE d=some (V x y)))
 (k:AT P all n B tk dy (i+1) rest qP (fun β=>(d,V (Na (β i)) (Nb (β i))) :: acc β) Q):AT P all n B tk dy i (⟨some d,op,ty,pos,af,none⟩ :: rest) tm acc Q:=by
 refine AT.Tg (V:=fun b=>V (Na b) (Nb b)) (Pi:=fun b=>Pi (Na b) (Nb b)) (H2:=fun b=>H2 (Na b) (Nb b)) Jr Lu Lv h1 (fun b=>h2 _ _) hn hr NM (fun β=>?_) k
 refine fun w S a r=>il ?_ _ _ _ (uK β w S a r)
 rintro e a' w' ⟨he,aE,S',⟨x,y,yE,q1,q2⟩,hh⟩
 exact ⟨he,aE,S',⟨L3 x y,yE,by rw [L4,L5];exact q1,by rw [L4,L5];exact q2⟩,hh⟩
end rules
section
variable {P:Program} {R:St→Prop} {k:List It} {σ:St}
theorem ab.Pt {body:Code} {X A:Type} (f:X→Option (X⊕A)) (mk:X→St→Prop) {a:A} {s0:X⊕A} (h:after (iter f) s0=some a)
 (hf:∀ (J:St→Prop),(∀ y aE,s0=.inl y→ai aE (mk y)→J aE)→(∀ a',s0=.inr a'→a'=a)→ab P R (.code body :: .stop J :: k) σ)
 (hs:∀ x s σ (J:St→Prop),mk x σ→f x=some s→(∀ y aE,s=.inl y→ai aE (mk y)→J aE)→(∀ a',s=.inr a'→a'=a)→ab P R (.code body :: .stop J :: k) σ):
 ab P R (.code (.loop body) :: k) σ:=by
 obtain ⟨M,hM,hA⟩:∃ M,(∀ y,s0=.inl y→pM f M y=some a)∧∀ a',s0=.inr a'→a'=a:=by
  cases s0 with
  | inl y=>
    obtain ⟨m,hm⟩:=u5.1 (show iter f y=some a from h)
    exact ⟨m,fun y' e=>by rw [← Sum.inl.inj e];exact hm,fun a' e=>by cases e⟩
  | inr b=>exact ⟨0,fun y e=>by (cases e),fun a' e=>by rw [← Sum.inr.inj e];exact Option.some.inj (show some b=some a from h)⟩
 refine ab.Iz (fun m yI=>(yI=σ∧m=M+1)∨(m≤M∧∃ x,pM f m x=some a∧mk x yI)) (M+1) (ai.here (.inl ⟨rfl,rfl⟩)) ?_
 rintro m yI (⟨h1,h2⟩ | ⟨hm,x,hx,dN⟩)
 ·subst h1 h2
  exact hf _ (fun y aE e hi=>⟨M,by omega,hi.mono fun EO hk=>.inr ⟨Nat.le_refl _,y,hM y e,hk⟩⟩) hA
 ·match m with
  | 0=>cases hx
  | m+1=>
    unfold pM at hx
    split at hx
    ·cases hx
    ·rename_i y hy
     refine hs x _ yI _ dN hy (fun y' aE e hi=>⟨m,by omega,hi.mono fun EO hk=>.inr ⟨by omega,y',?_,hk⟩⟩) (fun a' e=>by cases e)
     have:=Sum.inl.inj e
     rw [← this];exact hx
    ·rename_i b hb
     refine hs x _ yI _ dN hb (fun y' aE e _=>by cases e) (fun a' e=>?_)
     rw [← Sum.inr.inj e];exact Option.some.inj hx
end
end Go.Eng
