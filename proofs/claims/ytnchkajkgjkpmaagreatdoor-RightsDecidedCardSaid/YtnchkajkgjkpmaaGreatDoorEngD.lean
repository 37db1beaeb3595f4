/- The engine: abstract values, the symbolic heap, one rule for each operation. No program in sight. -/
import Derived.Test.YtnchkajkgjkpmaaGreatDoorEngC
import Derived.Laws.BytesArg
import Derived.Shelf.SlSortCmp.NoneTotal
set_option linter.unusedVariables false
set_option linter.unusedSectionVars false
namespace Go.Eng
open Go
variable [bc]
def depth:Nat:=100000
section rules
variable {P:Program} {all:Array Oper} {rest:List Oper} {n:Nat} {tm:List (Nat×AV)} {hp:Heap} {Q:St→Prop} {d:Nat} {ty:TypeId} {pos:String} {af:Array Edge}
theorem Gx {f:FuncId} {x:Operand} {args:List Operand} {ts:Array TypeId} {ue l l':List AV} {R:AV} [aZ P f] (hx:dh tm x=some (.func (.func f) ue)) (hl:B6 tm args=some l) (c:Pu P f l' R) (co:wm hp (l++ue) l') (hn:Nat.blt d n=true) (hR:R.Wi=true)
 (kk:ARun P all rest ⟨n,(d,R) :: tm,hp⟩ Q):ARun P all (⟨some d,.call {callee:=.value x,args:=args.toArray,argTypes:=ts},ty,pos,af,none⟩ :: rest) ⟨n,tm,hp⟩ Q:=by
 refine ARun.Gc rfl fun w S a r=>?_
 obtain ⟨cv,e1,e2,e3⟩:=(bg (σ:=⟨n,tm,hp⟩) r hx).A3
 refine ⟨f,_,uW a w e1,?_⟩
 obtain ⟨g1,g2⟩:=re (σ:=⟨n,tm,hp⟩) r hl
 obtain ⟨g3,g4⟩:=wm.at r.hp co (vs:=args.map a.eval++cv.toList) (by simp [g1,e2]) (wK g1 g2 (by simpa using e3))
 refine (c w (SB S hp) _ (uY (fun m hm=>hm.elim (r.hp.slt m) fun h=>r.hp.lt h) (fun g o ho=>⟨.inl (r.hp.ib g o ho).1,(r.hp.ib g o ho).2⟩)) (by simpa using g3) g4).mono ?_
 rintro e w' ⟨v,rr,h',S',rfl,hq,h3,h4,h5⟩
 subst hq
 have ex:=h5.Gp
 exact ⟨v,S,⟨n,(d,rr) :: tm,hp⟩,rfl,(r.ext ex).put hn (KU h3 hR),lB.ext r.hp.slt ex,kk⟩
end rules
end Go.Eng
set_option linter.unusedVariables false
set_option linter.unusedSectionVars false
namespace Go.Eng
open Go
variable [bc]
theorem PA {w:World} {S:Nat→Prop} {hp eV:Heap} {b:Bk} {sz k:Nat} {xs:List AV} (r:dw w S hp) (u:qW hp b (.arr sz xs) b (.arr sz (xs.take k)) eV):dw w S eV∧lB w S hp w S eV:=by
 obtain ⟨pre,post,e1,e2⟩:=u.split
 subst e1;subst e2
 have hblk:∀ n,Has (pre++(b,Ob.arr sz (xs.take k)) :: post) n↔Has (pre++(b,Ob.arr sz xs) :: post) n:=by
  intro n
  constructor<;>rintro ⟨x,hx,hb⟩<;>rcases bC.1 hx with rfl | hx
  ·exact ⟨(b,.arr sz xs),bC.2 (.inl rfl),hb⟩
  ·exact ⟨x,bC.2 (.inr hx),hb⟩
  ·exact ⟨(b,.arr sz (xs.take k)),bC.2 (.inl rfl),hb⟩
  ·exact ⟨x,bC.2 (.inr hx),hb⟩
 refine ⟨⟨?_,?_,?_,r.slt,r.ib⟩,⟨rfl,rfl,rfl,Nat.le_refl _,fun n hn=>⟨hn,rfl⟩,fun n _ _=>⟨rfl,id⟩,fun n hn=>.inl ((hblk n).1 hn),fun _=>Nat.le_refl _⟩⟩
 ·have:=r.nodup
  simpa [List.flatMap_append,List.flatMap_cons,eb,Ob.more] using this
 ·intro x hx
  rcases bC.1 hx with rfl | hx
  ·obtain ⟨h0,h1,h2⟩:=r.holds (b,.arr sz xs) (bC.2 (.inl rfl))
   refine ⟨fun x hx=>h0 x (List.mem_of_mem_take hx),Nat.le_trans (by simp only [List.length_take];omega) h1,h2.imp id ?_⟩
   rintro ⟨n,vs,E,g1,g2,g3,g4⟩
   refine ⟨n,vs,E,g1,g2,g3,fun i c v hc hv=>?_⟩
   have hp:∃ t,flat xs=flat (xs.take k)++t:=⟨flat (xs.drop k),by
    show xs.flatMap AV.cells=(xs.take k).flatMap AV.cells++(xs.drop k).flatMap AV.cells
    rw [← List.flatMap_append,List.take_append_drop]⟩
   obtain ⟨t,ht⟩:=hp
   refine g4 i c v ?_ hv
   rw [ht,List.getElem?_append_left (List.getElem?_eq_some_iff.1 hc).1]
   exact hc
  ·exact r.holds x (bC.2 (.inr hx))
 ·intro x hx n hn
  rcases bC.1 hx with rfl | hx
  ·have:=r.sep (b,.arr sz xs) (bC.2 (.inl rfl)) n hn
   exact ⟨fun h=>(this.1 h).elim,fun h=>h.elim⟩
  ·exact r.sep x (bC.2 (.inr hx)) n hn
theorem ImpX.take {n k:Nat} {tm:List (Nat×AV)} {hp eV:Heap} {T:St→Prop} {b:Bk} {sz:Nat} {xs:List AV} (u:qW hp b (.arr sz xs) b (.arr sz (xs.take k)) eV) (kk:ImpX ⟨n,tm,eV⟩ T):ImpX ⟨n,tm,hp⟩ T:=by
 refine ImpX.step (Ge:=⟨n,tm,eV⟩) (fun w S a r=>?_) kk
 obtain ⟨g1,g2⟩:=PA r.hp u
 exact ⟨_,S,rfl,⟨r.size,r.defers,r.tm,g1⟩,g2⟩
section rules
variable {P:Program} {all:Array Oper} {rest:List Oper} {n:Nat} {tm:List (Nat×AV)} {hp:Heap} {Q:St→Prop} {d:Nat} {ty:TypeId} {pos:String} {af:Array Edge}
theorem vQ {α:Type} {Xs V:List α} {L H:Int} (h:yb Xs L H=some V):V.length=H.toNat - L.toNat∧L.toNat+V.length≤Xs.length∧V=(Xs.drop L.toNat).take V.length:=by
 obtain ⟨⟨h0,h1,h2⟩,rfl⟩:=tI h
 have:((Xs.drop L.toNat).take (H.toNat - L.toNat)).length=H.toNat - L.toNat:=by simp;omega
 refine ⟨this,by rw [this];omega,by rw [this]⟩
theorem lH {α:Type} {Xs Zs:List α} {t e:TypeId} {i:TypeInfo} {x:Operand} {lo hi:Option Operand} {l h:Option Int} {sz:Nat} {b:Bk} {L H:Int} [ay P t (.slice e)] [aO P e i] (hx:dh tm x=some (.sl sz b 0 Xs.length)) (jX:Nat.beq i.size sz=true) (hl:Mj tm lo l) (hh:Mj tm hi h)
 (eL:pB l=L) (eH:oA Xs.length h=H) (hv:yb Xs L H=some Zs):QV P ⟨some d,.slice t x lo hi none,ty,pos,af,none⟩ ⟨n,tm,hp⟩ (.sl sz b L.toNat Zs.length):=by
 obtain ⟨⟨h0,h1,h2⟩,_⟩:=tI hv
 have hlen:=(vQ hv).1
 subst eL;subst eH
 have:=KV (P:=P) (d:=d) (ty:=ty) (pos:=pos) (af:=af) (n:=n) (tm:=tm) (hp:=hp) (t:=t) (e:=e) hx jX hl hh h0 h1 h2
 rw [Nat.zero_add] at this
 rw [hlen];exact this
theorem ImpX.Jb {α:Type} {g:α→AV} {Xs V:List α} {H:Int} {T:St→Prop} {b:Bk} {sz:Nat} {eV:Heap} (hv:yb Xs 0 H=some V) (u:qW hp b (.arr sz (Xs.map g)) b (.arr sz (V.map g)) eV) (kk:ImpX ⟨n,tm,eV⟩ T):ImpX ⟨n,tm,hp⟩ T:=by
 refine ImpX.take (k:=V.length) (xs:=Xs.map g) (b:=b) (sz:=sz) ?_ kk
 rw [← List.map_take]
 have:=(vQ hv).2.2
 simp only [Int.toNat_zero,List.drop_zero] at this
 rw [← this];exact u
end rules
end Go.Eng
set_option linter.unusedVariables false
set_option linter.unusedSectionVars false
namespace Go.Eng
open Go
variable [bc]
inductive Fw (hp:Heap):AV→AV→Prop
 | co {a a':AV} (c:Co hp a a'):Fw hp a a'
 | agg (cs oz:List AV) (hl:oz.length=cs.length) (h:∀ (i:Nat) c c',cs[i]? =some c→oz[i]? =some c'→Fw hp c c'):Fw hp (.agg cs) (.agg oz)
 | pj (cs oz:List AV) (hl:oz.length=cs.length) (h:∀ (i:Nat) c c',cs[i]? =some c→oz[i]? =some c'→Fw hp c c'):Fw hp (.pj cs) (.pj oz)
 | list (sz:Nat) (xs ys:List AV) (hn:ys.length=xs.length) (hl:(flat ys).length=(flat xs).length) (he:∀ y∈ys,El sz y) (h:∀ (i:Nat) c c',(flat xs)[i]? =some c→(flat ys)[i]? =some c'→Fw hp c c'):Fw hp (.list sz xs) (.list sz ys)
inductive K7 (hp:Heap):List AV→List AV→Prop
 | nil:K7 hp [] []
 | cons {a a':AV} {l l':List AV} (c:Fw hp a a') (k:K7 hp l l'):K7 hp (a :: l) (a' :: l')
theorem Fw.r {hp:Heap} {a:AV}:Fw hp a a:=.co (.refl _)
theorem Fw.n {hp:Heap} {sz:Nat}:Fw hp .nil (.list sz []):=.co (.nil _)
theorem K7.each {hp:Heap}:∀ {l l':List AV},K7 hp l l'→l'.length=l.length∧∀ (i:Nat) c c',l[i]? =some c→l'[i]? =some c'→Fw hp c c'
 | [],_,.nil=>⟨rfl,fun i c c' h=>by simp at h⟩
 | _ :: _,_,.cons c k=>by
   obtain ⟨g1,g2⟩:=K7.each k
   refine ⟨by simp [g1],fun i c1 c2 h1 h2=>?_⟩
   match i with
   | 0=>simp at h1 h2;subst h1;subst h2;assumption
   | i+1=>exact g2 i c1 c2 (by simpa using h1) (by simpa using h2)
theorem Fw.TZ {hp:Heap} {sz:Nat} {xs ys:List AV} (k:K7 hp (flat xs) (flat ys)) (hn:Nat.beq ys.length xs.length=true) (he:yq sz ys=true):Fw hp (.list sz xs) (.list sz ys):=
 .list sz xs ys (Nat.eq_of_beq_eq_true hn) k.each.1 (lE he) k.each.2
theorem Fw.at {w:World} {S:Nat→Prop} {hp:Heap} {a a':AV} {v:Value} (c:Fw hp a a') (r:dw w S hp) (h:At w S a v):At w S a' v:=by
 induction c generalizing v with
 | co c=>exact c.at r h
 | agg cs oz hl _ ih=>
   cases h with
   | agg _ vs h1 h2=>
     refine .agg oz vs (by rw [hl,h1]) (fun i c v hc hv=>?_)
     have hi:i < cs.length:=by rw [← hl];exact (List.getElem?_eq_some_iff.1 hc).1
     exact ih i cs[i] c (by simp [hi]) hc (h2 i _ _ (by simp [hi]) hv)
 | pj cs oz hl _ ih=>
   cases h with
   | pj _ vs h1 h2=>
     refine .pj oz vs (by rw [hl,h1]) (fun i c v hc hv=>?_)
     have hi:i < cs.length:=by rw [← hl];exact (List.getElem?_eq_some_iff.1 hc).1
     exact ih i cs[i] c (by simp [hi]) hc (h2 i _ _ (by simp [hi]) hv)
 | list sz xs ys hn hl he _ ih=>
   cases h with
   | list _ _ a cap vs g1 g2 g3 g4 g5=>
     rw [← hn]
     refine .list sz ys a cap vs he (by rw [hl,g2]) (fun i c v hc hv=>?_) g4 (by rw [hn];exact g5)
     have hi:i < (flat xs).length:=by rw [← hl];exact (List.getElem?_eq_some_iff.1 hc).1
     exact ih i (flat xs)[i] c (by simp [hi]) hc (g3 i _ _ (by simp [hi]) hv)
theorem ImpX.cox {n s:Nat} {tm:List (Nat×AV)} {hp:Heap} {T:St→Prop} {av pz:AV} (hs:lk tm s=some av) (c:Fw hp av pz) (k:ImpX ⟨n,(s,pz) :: tm,hp⟩ T):ImpX ⟨n,tm,hp⟩ T:=by
 refine ImpX.step (Ge:=⟨n,(s,pz) :: tm,hp⟩) (fun w S a r=>⟨_,S,rfl,⟨r.size,r.defers,fun t av h=>?_,r.hp⟩,lB.refl _ _ _⟩) k
 simp only [lk] at h
 split at h
 ·rename_i hb
  obtain rfl:s=t:=by simpa using hb
  obtain rfl:=Option.some.inj h
  obtain ⟨v,h1,h2⟩:=r.tm s _ hs
  exact ⟨v,h1,c.at r.hp h2⟩
 ·exact r.tm t av h
def wM {R:Type} (n:Nat) (len:R→Nat) (x:Option R):Option R:=x.bind fun r=>if len r=n then some r else none
theorem DO {R:Type} {n:Nat} {len:R→Nat} {x:Option R} {r:R} (h:wM n len x=some r):x=some r:=by
 unfold wM at h
 cases x with
 | none=>cases h
 | some y=>
   simp only [Option.bind_some] at h
   split at h
   ·exact h
   ·cases h
theorem s0 {R:Type} {n:Nat} {len:R→Nat} {x:Option R} {r:R} (h:wM n len x=some r):len r=n:=by
 unfold wM at h
 cases x with
 | none=>cases h
 | some y=>
   simp only [Option.bind_some] at h
   split at h
   ·rename_i hh;obtain rfl:=Option.some.inj h;exact hh
   ·cases h
def XQ {α:Type} (z:α) (l c:Int):Option (List α):=if 0≤l∧l≤c∧c≤1000000000 then some (List.replicate l.toNat z) else none
theorem Ep {sz:Nat} {x:AV} (h:x.cells.length=sz):∀ (k i:Nat),i < k * sz→(flat (List.replicate k x))[i]? =x.cells[i % sz]?
 | 0,i,hi=>by simp at hi
 | k+1,i,hi=>by
   rw [List.replicate_succ,show flat (x :: List.replicate k x)=x.cells++flat (List.replicate k x) from rfl]
   by_cases nD:i < sz
   ·rw [List.getElem?_append_left (by omega),Nat.mod_eq_of_lt nD]
   ·rw [List.getElem?_append_right (by omega),h,Ep h k (i - sz) (by rw [Nat.add_mul] at hi;omega)]
    rw [Nat.mod_eq_sub_mod (a:=i) (by omega)]
section rules
variable {P:Program} {all:Array Oper} {rest:List Oper} {n:Nat} {tm:List (Nat×AV)} {hp:Heap} {Q:St→Prop} {d:Nat} {ty:TypeId} {pos:String} {af:Array Edge}
end rules
end Go.Eng
set_option linter.unusedVariables false
set_option linter.unusedSimpArgs false
set_option linter.unusedSectionVars false
namespace Go.Eng
open Go Go.Sort Go.Proofs
variable [bc]
structure T2 (P:Program) (f:FuncId) (k:Nat):Prop where
 some_:∀ (enc:Nat→List Value) (_:∀ x,(enc x).length=k) (_:∀ x,∀ v∈enc x,v.oneCell'=true) (cf:Nat→Nat→Int) (_:SWO (ltOf cf)) (g:Nat) (cb:Array Value) (bU off cap:Nat) (d:Array Nat) (w:World)
  (_:∀ args w,(callFunc g args).run P w=.ok (.enter g args) w) (_:CmpLays P g cb enc k cf bU off d.size w) (_:HoldsK enc k w bU off d) (_:bU < w.heap.size) (_:d.size < 4611686018427387904),
  Calls P f #[.slice (some ⟨bU,off,none⟩) d.size cap,.func (.func g) #[] cb] w fun e w'=>
   e=.returned (.tuple #[])∧∃ n os,w'=sortWorldK enc k w bU off n (pdq (ltOf cf) d 0 d.size (Lib.bitLen d.size) true true) os
 none_:∀ (p:Option Addr) (cap:Nat) (fv:Value) (w:World),Calls P f #[.slice p 0 cap,fv] w fun e w'=>e=.returned (.tuple #[])∧w'=w
def z8 {α:Type} (x:α) (r:List α) (i:Nat):α:=(x :: r).getD i x
def zG {α:Type} (f:α→α→Option Int) (x:α) (r:List α) (i j:Nat):Int:=(f (z8 x r i) (z8 x r j)).getD 0
noncomputable def Mr {α:Type} (f:α→α→Option Int):List α→Option (List α)
 | []=>some []
 | x :: r=>@ite _ (r.length+1 < 4611686018427387904∧(∀ a∈x :: r,∀ b∈x :: r,∃ u,f a b=some u)∧SWO (ltOf (zG f x r))) (Classical.propDecidable _)
     (some ((pdq (ltOf (zG f x r)) (Array.range (r.length+1)) 0 (r.length+1) (Lib.bitLen (r.length+1)) true true).toList.map (z8 x r))) none
theorem Er {α:Type} (f:α→α→Option Int) (x:α) (r:List α):Mr f (x :: r)=@ite _ (r.length+1 < 4611686018427387904∧(∀ a∈x :: r,∀ b∈x :: r,∃ u,f a b=some u)∧SWO (ltOf (zG f x r))) (Classical.propDecidable _)
 (some ((pdq (ltOf (zG f x r)) (Array.range (r.length+1)) 0 (r.length+1) (Lib.bitLen (r.length+1)) true true).toList.map (z8 x r))) none:=rfl
theorem lX {α:Type} (x:α) (r:List α) (i:Nat):z8 x r i∈x :: r:=by
 unfold z8
 rw [List.getD_eq_getElem?_getD]
 rcases h:(x :: r)[i]? with _ | y
 ·simp
 ·exact List.mem_of_getElem? h
theorem AB (enc:Nat→List Value) (k:Nat) (w:World) (bU off m:Nat) (dk:Array Nat) (os:Array Obj) {n:Nat} (hn:n < w.heap.size) (sE:n≠bU):(sortWorldK enc k w bU off m dk os).heap[n]? =w.heap[n]?:=by
 unfold sortWorldK putRowK putRow
 rw [heap_grow_old _ _ (by simpa [mapBlock] using hn)]
 simp only [mapBlock,heap_ahead,Array.getElem?_modify]
 rw [if_neg (fun h=>sE h.symm)]
theorem Es (enc:Nat→List Value) (k:Nat) (w:World) (bU off m:Nat) (dk:Array Nat) (os:Array Obj):w.heap.size≤(sortWorldK enc k w bU off m dk os).heap.size:=by
 unfold sortWorldK putRowK
 simp
theorem Ny (enc:Nat→List Value) (k:Nat) (w:World) (bU m:Nat) (dk:Array Nat) (os:Array Obj) {vs:Array Value} {E:TypeId} (hb:w.heap[bU]? =some (.cells vs E (0,0))):(sortWorldK enc k w bU 0 m dk os).heap[bU]? =some (.cells (putCells id 0 (flatK enc k dk) vs) E (0,0)):=by
 have nD:bU < w.heap.size:=by
  rcases Nat.lt_or_ge bU w.heap.size with h | h
  ·exact h
  ·simp [Array.getElem?_eq_none h] at hb
 unfold sortWorldK putRowK putRow
 rw [heap_grow_old _ _ (by simpa [mapBlock] using nD)]
 simp only [mapBlock,heap_ahead,Array.getElem?_modify]
 rw [if_pos trivial,hb]
 rfl
theorem Ext.grown {w w':World} (hd:bc.dr) (e:Ext w w'):∃ q os,w'=grow (w.drewN q) os:=by
 refine ⟨w'.drawn - w.drawn,w'.heap.extract w.heap.size w'.heap.size,?_⟩
 obtain ⟨h',t',d',o',aiP⟩:=w'
 have e1:=e.os;have e2:=e.tape;have e3:=e.output;have e4:=e.drawn hd;have e5:=e.size;have e6:=e.same
 simp only at e1 e2 e3 e4 e5 e6
 subst e1 e2 e3
 unfold grow World.drewN
 simp only [World.mk.injEq,and_true,true_and]
 refine ⟨?_,by omega⟩
 apply Array.ext_getElem?
 intro i
 by_cases hi:i < w.heap.size
 ·rw [e6 i hi,Array.getElem?_append_left hi]
 ·rw [Array.getElem?_append_right (by omega),Array.getElem?_extract]
  by_cases h2:i < h'.size
  ·rw [if_pos (by omega)]
   congr 1;omega
  ·rw [if_neg (by omega),Array.getElem?_eq_none (by omega)]
theorem K8 {P:Program} {T:Type} {g:T→AV} {f:FuncId} {k:Nat} (K:T2 P f k) (T3:Nat.blt 0 k=true) {gf:FuncId} [aZ P gf] {C:List AV} {fn:T→T→Option Int} (XR:∀ {x y:T} {u:Int},fn x y=some u→@Pu xk P gf (g x :: g y :: C) (I u))
 (aa8:∀ x,g x=.agg (g x).cells) {Xs Ys:List T} {b:Bk} (h:Mr fn Xs=some Ys):ACall P f [.sl k b 0 Xs.length,.func (.func gf) C] [(b,.arr k (Xs.map g))] (T0 [(b,.arr k (Ys.map g))] (.pj [])):=by
 have T3:0 < k:=Nat.lt_of_lt_of_le (Nat.lt_of_succ_le (Nat.le_of_ble_eq_true T3)) (Nat.le_refl _)
 intro w S vs r hl ha
 obtain ⟨v0,v1,rfl⟩:∃ v0 v1,vs=#[v0,v1]:=by
  match vs,hl with
  | ⟨[v0,v1]⟩,_=>exact ⟨v0,v1,rfl⟩
 have a0:=ha 0 _ v0 rfl rfl
 have a1:=ha 1 _ v1 rfl rfl
 obtain ⟨oa,cap,rfl,e2⟩:=a0.wi
 obtain ⟨cv,rfl,Gh,hca⟩:=a1.A3
 match Xs,h with
 | [],h=>
   obtain rfl:=Option.some.inj h
   refine (K.none_ oa cap _ w).mono ?_
   rintro e w' ⟨rfl,rfl⟩
   exact ⟨_,.pj [],_,S,rfl,⟨rfl,rfl⟩,.pj [] #[] rfl (fun i c v hc=>by simp at hc),r,lB.refl _ _ _⟩
 | x :: xr,h=>
   rw [Er] at h
   by_cases hc:(xr.length+1 < 4611686018427387904∧(∀ a∈x :: xr,∀ b∈x :: xr,∃ u,fn a b=some u)∧SWO (ltOf (zG fn x xr)))
   ·rw [if_pos hc] at h
    obtain rfl:=Option.some.inj h
    obtain ⟨hlen,aa9,hO⟩:=hc
    obtain ⟨h0,h1,h2⟩:=r.holds _ (List.mem_singleton.2 rfl)
    simp only [List.length_map,List.length_cons] at h1
    rcases h2 with ⟨_,O1⟩ | ⟨m,row,E,hb,Ek,jX,vF⟩
    ·have XS:b.cap=0:=O1
     omega
    rcases e2 with ⟨hn,_,_,_,_⟩ | ⟨m',D6,rfl,hle,aaA⟩ | ⟨m',ad,_,_,TL,_⟩
    ·rw [hn] at hb;cases hb
    ·obtain rfl:m'=m:=by rw [D6] at hb;exact Option.some.inj hb
     have UZ:m' < w.heap.size:=by
      rcases Nat.lt_or_ge m' w.heap.size with h | h
      ·exact h
      ·simp [Array.getElem?_eq_none h] at Ek
     have nS:¬ S m':=fun hs=>by have:=(r.sep _ (List.mem_singleton.2 rfl) m' (lR hb)).1 hs;exact this
     let ix:Nat→Nat:=fun i=>if i < xr.length+1 then i else 0
     have Rp:∀ i,ix i < xr.length+1:=fun i=>by simp only [ix];split<;>omega
     have aaB:∀ i,(x :: xr)[ix i]? =some (z8 x xr i):=by
      intro i
      simp only [ix,z8,List.getD_eq_getElem?_getD]
      split
      ·rename_i hi
       rw [List.getElem?_eq_getElem (by simpa using hi)];simp
      ·rename_i hi
       rw [List.getElem?_eq_none (l:=x :: xr) (i:=i) (by simp;omega)];simp
     have Xz:(xr.length+1) * k≤row.size:=by rw [jX];exact Nat.mul_le_mul_right k h1
     let enc:Nat→List Value:=fun i=>(row.toList.drop (ix i * k)).take k
     have R7:∀ i,(enc i).length=k:=by
      intro i
      have:ix i * k+k≤row.size:=by
       have:=Nat.mul_le_mul_right k (show ix i+1≤xr.length+1 from Rp i)
       rw [Nat.add_mul,Nat.one_mul] at this
       omega
      simp only [enc,List.length_take,List.length_drop,Array.length_toList];omega
     have XT:∀ i j,j < k→(enc i)[j]? =row[ix i * k+j]?:=by
      intro i j hj
      simp only [enc,List.getElem?_take,if_pos hj,List.getElem?_drop,Array.getElem?_toList]
     have I8:∀ i j,j < k→(flat ((x :: xr).map g))[ix i * k+j]? =(g (z8 x xr i)).cells[j]?:=by
      intro i j hj
      exact uV h0 (by rw [List.getElem?_map,aaB i];rfl) j hj
     have Gh:∀ i,(g (z8 x xr i)).cells.length=k:=fun i=>(h0 _ (List.mem_map.2 ⟨_,lX x xr i,rfl⟩)).1
     have Cg:∀ i,∀ c∈(g (z8 x xr i)).cells,c.one=true:=fun i=>(h0 _ (List.mem_map.2 ⟨_,lX x xr i,rfl⟩)).2
     have U0:∀ i,nX w S (g (z8 x xr i)).cells (enc i).toArray:=by
      intro i j c v hc hv
      have hj:j < k:=by rw [← Gh i];exact (List.getElem?_eq_some_iff.1 hc).1
      refine vF (ix i * k+j) c v (by rw [I8 i j hj];exact hc) ?_
      rw [← XT i j hj]
      simpa using hv
     have aaC:∀ i,∀ v∈enc i,v.oneCell'=true:=by
      intro i v hv
      obtain ⟨j,hj,rfl⟩:=List.getElem_of_mem hv
      have hjk:j < k:=by rw [R7 i] at hj;exact hj
      have Wn:j < (g (z8 x xr i)).cells.length:=by rw [Gh i];exact hjk
      exact (U0 i j (g (z8 x xr i)).cells[j] (enc i)[j] (by simp [Wn]) (by simp [hj])).OO (Cg i _ (List.getElem_mem Wn))
     have yv:∀ (d:Array Nat) (t:Nat),t < d.size * k→(flatK enc k d)[t]! =(enc d[t / k]!)[t % k]!:=fun d t ht=>get_flatK enc k d t ht
     have XU:HoldsK enc k w m' 0 (Array.range (xr.length+1)):=by
      intro j hj
      rw [size_flatK,Array.size_range] at hj
      have hdiv:j / k < xr.length+1:=(Nat.div_lt_iff_lt_mul T3).2 hj
      have R8:j % k < k:=Nat.mod_lt _ T3
      have R9:j < row.size:=by omega
      have e1:(flatK enc k (Array.range (xr.length+1)))[j]! =row[j]:=by
       rw [yv _ _ (by simpa using hj)]
       have:(Array.range (xr.length+1))[j / k]! =j / k:=by
        rw [getElem!_pos _ _ (by simpa using hdiv)];simp
       rw [this]
       have hv:=XT (j / k) (j % k) R8
       have:ix (j / k)=j / k:=by simp only [ix];rw [if_pos hdiv]
       rw [this,Nat.div_add_mod'] at hv
       rw [Array.getElem?_eq_getElem R9] at hv
       rw [List.getElem!_eq_getElem?_getD,hv];rfl
      constructor
      ·simp only [World.cell?,Ek,id,e1,Nat.zero_add,Option.isSome_none,Bool.false_eq_true,if_false]
       rw [Array.getElem?_eq_getElem R9]
      ·simp [World.frozen?,Ek]
     have U1:CmpLays P gf cv enc k (zG fn x xr) m' 0 (Array.range (xr.length+1)).size w:=by
      intro mm os dk hdk i j
      obtain ⟨u,hu⟩:=aa9 _ (lX x xr i) _ (lX x xr j)
      have hW:∀ n,S n→S n∧(sortWorldK enc k w m' 0 mm dk os).heap[n]? =w.heap[n]?:=fun n hs=>
       ⟨hs,AB enc k w m' 0 mm dk os (r.slt n hs) (fun e=>nS (e▸hs))⟩
      have T5:nX (sortWorldK enc k w m' 0 mm dk os) S (g (z8 x xr i) :: g (z8 x xr j) :: C) (#[.agg (enc i).toArray,.agg (enc j).toArray]++cv):=by
       intro q c v hc hv
       have ag:∀ i,At (sortWorldK enc k w m' 0 mm dk os) S (g (z8 x xr i)) (.agg (enc i).toArray):=fun i=>by
        rw [aa8 (z8 x xr i)]
        exact .agg _ _ (by rw [Gh i];simp [R7 i]) (fun a c v hc hv=>((U0 i) a c v hc hv).mono hW)
       match q with
       | 0=>
         rw [Array.getElem?_append_left (by simp)] at hv
         simp at hc hv;subst hc;subst hv;exact ag i
       | 1=>
         rw [Array.getElem?_append_left (by simp)] at hv
         simp at hc hv;subst hc;subst hv;exact ag j
       | q+2=>
         simp only [List.getElem?_cons_succ] at hc
         rw [Array.getElem?_append_right (by simp)] at hv
         simp only [List.size_toArray,List.length_cons,List.length_nil,Nat.add_sub_cancel] at hv
         exact (hca q c v hc (by simpa using hv)).mono hW
      refine (XR hu _ S _ (@uY xk _ _ (fun n hn=>Nat.lt_of_lt_of_le (r.slt n hn) (Es _ _ _ _ _ _ _ _)) (fun g o ho=>⟨(r.ib g o ho).1,D2 (hW g (r.ib g o ho).1).2 (r.ib g o ho).2⟩)) (by simp [Gh,‹C.length=cv.size›];omega) T5).mono ?_
      rintro e w' ⟨v,rr,h',S',rfl,hq,h3,h4,h5⟩
      obtain rfl:=hq
      rw [h3.gy]
      refine ⟨?_,@Ext.grown xk _ _ trivial (@lB.Gp xk _ _ _ _ _ h5)⟩
      unfold zG
      rw [hu];rfl
     have Zl:(Array.range (xr.length+1)).size=xr.length+1:=Array.size_range
     have T7:=K.some_ enc R7 aaC (zG fn x xr) hO gf cv m' 0 cap (Array.range (xr.length+1)) w (fun args w=>uD gf args w) U1 XU UZ (by rw [Zl];exact hlen)
     rw [Zl] at T7
     simp only [Nat.zero_mul]
     refine T7.mono ?_
     rintro e w' ⟨rfl,q,os,rfl⟩
     have XV:=pdq_sorts (ltOf (zG fn x xr)) hO (Array.range (xr.length+1)) 0 (xr.length+1) (Lib.bitLen (xr.length+1)) true true (Nat.zero_le _) (by rw [Zl];exact Nat.le_refl _) (Or.inl rfl)
     generalize CS:pdq (ltOf (zG fn x xr)) (Array.range (xr.length+1)) 0 (xr.length+1) (Lib.bitLen (xr.length+1)) true true=d' at XV ⊢
     have Sa:d'.size=xr.length+1:=by rw [XV.1.1,Zl]
     have hW:∀ n,S n→S n∧(sortWorldK enc k w m' 0 q d' os).heap[n]? =w.heap[n]?:=fun n hs=>
      ⟨hs,AB enc k w m' 0 q d' os (r.slt n hs) (fun e=>nS (e▸hs))⟩
     have XW:∀ y∈(d'.toList.map (z8 x xr)).map g,El k y:=by
      intro y hy
      simp only [List.mem_map] at hy
      obtain ⟨z,⟨i,_,rfl⟩,rfl⟩:=hy
      exact h0 _ (List.mem_map.2 ⟨_,lX x xr i,rfl⟩)
     have hh:Go.Eng.Holds (sortWorldK enc k w m' 0 q d' os) S b (.arr k ((d'.toList.map (z8 x xr)).map g)):=by
      refine ⟨XW,by simp [Sa];omega,.inr ⟨m',_,E,hb,Ny enc k w m' q d' os Ek,by simp [putCells,jX],?_⟩⟩
      intro j c v hc hv
      have Mf:j < (xr.length+1) * k:=by
       have:=(List.getElem?_eq_some_iff.1 hc).1
       rw [cZ XW] at this
       simpa [Sa] using this
      have hdiv:j / k < xr.length+1:=(Nat.div_lt_iff_lt_mul T3).2 Mf
      have R8:j % k < k:=Nat.mod_lt _ T3
      have R9:j < row.size:=by omega
      have hdj:(d'.toList.map (z8 x xr))[j / k]? =some (z8 x xr d'[j / k]!):=by
       rw [List.getElem?_map,Array.getElem?_toList,Array.getElem?_eq_getElem (by omega),getElem!_pos d' (j / k) (by omega)];rfl
      have RE:(g (z8 x xr d'[j / k]!)).cells[j % k]? =some c:=by
       rw [← uV (sz:=k) XW (i:=j / k) (x:=g (z8 x xr d'[j / k]!)) (by rw [List.getElem?_map,hdj];rfl) (j % k) R8,Nat.div_add_mod']
       exact hc
      have Wo:(enc d'[j / k]!)[j % k]? =some v:=by
       simp only [putCells,Array.getElem?_mapIdx,Array.getElem?_eq_getElem R9,Option.map_some,Option.some.injEq] at hv
       rw [if_pos ⟨Nat.zero_le _,by rw [size_flatK,Sa];omega⟩,Nat.sub_zero,yv d' j (by rw [Sa];exact Mf)] at hv
       have nD:j % k < (enc d'[j / k]!).length:=by rw [R7];exact R8
       rw [List.getElem?_eq_getElem nD,← hv]
       simp only [id,getElem!_pos (enc d'[j / k]!) (j % k) nD]
      exact (U0 _ _ _ _ RE (by simpa using Wo)).mono hW
     have PB:=Es enc k w m' 0 q d' os
     refine ⟨_,.pj [],_,S,rfl,⟨rfl,rfl⟩,.pj [] #[] rfl (fun i c v hc=>by simp at hc),⟨r.nodup,fun e he=>by rw [List.mem_singleton] at he;subst he;exact hh,fun e he n hn=>?_,fun n hn=>Nat.lt_of_lt_of_le (r.slt n hn) PB,fun g o ho=>⟨(r.ib g o ho).1,D2 (hW g (r.ib g o ho).1).2 (r.ib g o ho).2⟩⟩,?_⟩
     ·rw [List.mem_singleton] at he;subst he
      replace hn:=(yl rfl).1 hn
      rw [hb] at hn
      obtain rfl:=Option.some.inj hn
      exact ⟨fun hs=>(nS hs).elim,fun hf=>hf.elim⟩
     ·refine ⟨rfl,rfl,rfl,PB,hW,fun n hn hnh=>⟨AB enc k w m' 0 q d' os hn (fun e=>hnh ⟨_,List.mem_singleton.2 rfl,by rw [e];exact lR hb⟩),id⟩,?_,?_⟩
      ·rintro n ⟨e,he,xS⟩
       rw [List.mem_singleton] at he;subst he
       exact .inl ⟨_,List.mem_singleton.2 rfl,xS⟩
      ·intro _
       show w.drawn≤(sortWorldK enc k w m' 0 q d' os).drawn
       show w.drawn≤w.drawn+q
       omega
    ·simp at TL
   ·rw [if_neg hc] at h;cases h
end Go.Eng
set_option linter.unusedVariables false
set_option linter.unusedSimpArgs false
set_option linter.unusedSectionVars false
namespace Go.Eng
open Go
variable [bc]
def zH {α:Type} (xs:List α) (L:Int) (n:Nat) (j:Int):Option α:=if 0≤L∧0≤j∧j < n then idx xs (L+j) else none
theorem zk {α:Type} {xs:List α} {L:Int} {n:Nat} {j:Int} {x:α} (h:zH xs L n j=some x):(0≤L∧0≤j∧j < n)∧idx xs (L+j)=some x:=by
 unfold zH at h
 split at h
 ·rename_i hc;exact ⟨hc,h⟩
 ·cases h
def FK {α:Type} (xs:List α) (L:Int) (n:Nat) (z:α):List α:=xs.take L.toNat++List.replicate n z++xs.drop (L.toNat+n)
theorem vR {α:Type} {xs v:List α} {L H:Int} {z:α} (h:yb xs L H=some v):(FK xs L v.length z).length=xs.length:=by
 obtain ⟨⟨h0,h1,h2⟩,_⟩:=tI h
 have:=(vQ h).1
 unfold FK
 simp only [List.length_append,List.length_take,List.length_replicate,List.length_drop]
 omega
section rules
variable {P:Program} {all:Array Oper} {rest:List Oper} {n:Nat} {tm:List (Nat×AV)} {hp:Heap} {Q:St→Prop} {d:Nat} {ty:TypeId} {pos:String} {af:Array Edge}
theorem yz {α:Type} {Xs:List α} {el:α} {t e:TypeId} {i:TypeInfo} {x y:Operand} {k:IntKind} {j L:Int} {sz m:Nat} {b:Bk} [ay P t (.slice e)] [aO P e i] (hx:dh tm x=some (.sl sz b L.toNat m)) (jX:Nat.beq i.size sz=true) (hy:dh tm y=some (.int k j))
 (hv:zH Xs L m j=some el):QV P ⟨some d,.indexAddr t x y,ty,pos,af,none⟩ ⟨n,tm,hp⟩ (.uU sz b (L+j).toNat 0):=by
 obtain ⟨⟨h0,h1,h2⟩,h3⟩:=zk hv
 have h:=D9 (P:=P) (d:=d) (ty:=ty) (pos:=pos) (af:=af) (n:=n) (tm:=tm) (hp:=hp) (t:=t) (e:=e) hx jX hy ⟨h1,h2⟩
 rw [show (L+j).toNat=L.toNat+j.toNat by omega]
 exact h
theorem Nz {x:Operand} {t e:TypeId} {sz off len:Nat} {b:Bk} [ay P t (.slice e)] (hx:dh tm x=some (.sl sz b off len)):QV P ⟨some d,.call {callee:=.builtin .len,args:=#[x],argTypes:=#[t]},ty,pos,af,none⟩ ⟨n,tm,hp⟩ (.int .i64 (len:Nat)):=IP hx
theorem Gy {x:Operand} {t e:TypeId} [ay P t (.slice e)] (hx:dh tm x=some .nil):QV P ⟨some d,.call {callee:=.builtin .cap,args:=#[x],argTypes:=#[t]},ty,pos,af,none⟩ ⟨n,tm,hp⟩ (.int .i64 0):=
 (fun w S a r=>⟨.int .i64 0,fun w1 _=>by
  simp [execOp,(bg (σ:=⟨n,tm,hp⟩) r hx).qV,resolve,invoke,builtin,Builtin.cap_,run_underlying (ay.h (P:=P) (t:=t)),goInt],.int _ _⟩)
theorem Jc {α:Type} {V:List α} {t e:TypeId} {i:TypeInfo} {x:Operand} {lo hi:Option Operand} {l h:Option Int} {L H:Int} [ay P t (.slice e)] [aO P e i] (hx:dh tm x=some .nil) (hl:Mj tm lo l) (hh:Mj tm hi h) (eL:pB l=L) (eH:oA 0 h=H) (hv:yb ([]:List α) L H=some V):
 QV P ⟨some d,.slice t x lo hi none,ty,pos,af,none⟩ ⟨n,tm,hp⟩ .nil:=by
 obtain ⟨⟨h0,h1,h2⟩,_⟩:=tI hv
 simp only [List.length_nil] at h2
 subst eL;subst eH
 intro w S a r
 have e1:=(bg (σ:=⟨n,tm,hp⟩) r hx).qV
 refine ⟨.slice none 0 0,fun w1 _=>?_,.nil⟩
 have hb:=Ax (P:=P) (σ:=⟨n,tm,hp⟩) r hl hh true 0 0 h0 h1 (by simpa using h2) (Nat.le_refl _) w1
 have TL:(pB l).toNat=0:=by omega
 have TN:(oA 0 h).toNat=0:=by omega
 rw [TL,TN] at hb
 simp [execOp,Instr.sliceAt,run_underlying (ay.h (P:=P) (t:=t)),Instr.slice,e1,hb,sizeOf,typeInfo,aO.h (P:=P) (t:=e)]
theorem FL {z:Array Value} {N sz:Nat} (Gm:z.size=sz) (ya:0 < sz) {j:Nat} {v:Value} (hv:(Builtin.zeroCells z N)[j]? =some v):z[j % sz]? =some v:=by
 unfold Builtin.zeroCells at hv
 simp only [Array.getElem?_map,Option.map_eq_some_iff] at hv
 obtain ⟨q,hq,rfl⟩:=hv
 have:q=j:=by
  rw [Array.getElem?_eq_some_iff] at hq
  obtain ⟨k1,k2⟩:=hq
  simpa using k2.symm
 subst this
 rw [Gm]
 have nD:q % sz < z.size:=by rw [Gm];exact Nat.mod_lt _ ya
 simp [nD]
theorem NA {α:Type} {g:α→AV} {Z:α} {Zs:List α} {t u e:TypeId} {i:TypeInfo} {z:Value} {x y:Operand} {l:Int} {sz:Nat} {ki:IntKind} [ay P t (.slice e)] [ay P u (.int ki)] [aO P e i] (hx:dh tm x=some .nil) (hy:dh tm y=some (.int .i64 l)) (hz:i.zero=some z) (K9:D7 z=g Z)
 (jX:i.size=sz) (yp:Wg sz (g Z)=true) (ya:Nat.blt 0 sz=true) (hn:Nat.blt d n=true) (RR:Nat.ble i.bytes 65536=true) (hv:XQ Z l l=some Zs)
 (kk:∀ b':Bk,ARun P all rest ⟨n,(d,.sl sz b' 0 Zs.length) :: tm,(b',.arr sz (Zs.map g)) :: hp⟩ Q):ARun P all (⟨some d,.call {callee:=.builtin .append,args:=#[x,y],argTypes:=#[t,u]},ty,pos,af,none⟩ :: rest) ⟨n,tm,hp⟩ Q:=by
 subst jX
 have ya:0 < i.size:=Nat.lt_of_lt_of_le (Nat.lt_of_succ_le (Nat.le_of_ble_eq_true ya)) (Nat.le_refl _)
 have RR:=Nat.le_of_ble_eq_true RR
 have hE:=Ea yp
 unfold XQ at hv
 split at hv
 ·rename_i hc
  obtain rfl:=Option.some.inj hv
  obtain ⟨c0,_,c2⟩:=hc
  refine ARun.OA rfl fun w S a r=>?_
  have e1:=(bg (σ:=⟨n,tm,hp⟩) r hx).qV
  have e2:=(bg (σ:=⟨n,tm,hp⟩) r hy).gy
  have w1:IntKind.i64.wrap l=l:=Gf ⟨by omega,by omega⟩
  have hmul:l * (i.bytes:Int)≤1000000000 * 65536:=Int.mul_le_mul c2 (by omega) (by omega) (by omega)
  have f1:¬ l < 0:=by omega
  have f2:¬ (281474976710656 < l * (i.bytes:Int)):=by omega
  have aaD:(List.replicate l.toNat Z).map g=List.replicate l.toNat (g Z):=by simp
  by_cases h0:l=0
  ·subst h0
   obtain ⟨a1,a2,a3⟩:=qX (b:=⟨none,0⟩) (o:=.arr i.size []) r.hp (Ext.refl w) id ⟨by simp,by simp,.inl ⟨rfl,rfl⟩⟩ (.inl rfl)
   refine ⟨.slice none 0 0,w,S,_,?_,(r.heap a3 a1).put hn (.Cd _ _ rfl),a2,kk ⟨none,0⟩⟩
   simp [execOp,resolve,invoke,builtin,e1,e2,Builtin.append_,run_underlying (ay.h (P:=P) (t:=t)),run_underlying (ay.h (P:=P) (t:=u)),sizeOf,typeInfo,aO.h (P:=P) (t:=e),asInt,asIntOf,w1]
  ·obtain ⟨N,hN⟩:∃ N:Nat,N=l.toNat:=⟨_,rfl⟩
   have hN0:0 < N:=by omega
   have hlN:l=(N:Int):=by omega
   obtain ⟨zl,XX⟩:=qY w S z (by rw [K9];exact hE.2)
   rw [K9] at zl XX
   have Gm:z.cells.size=i.size:=by rw [← zl];exact hE.1
   have h48:N * i.bytes≤1000000000 * 65536:=Nat.mul_le_mul (by omega) RR
   have aaE:¬ (281474976710656 < Builtin.nextslicecap N 0 * i.bytes):=by rw [nextslicecap_zero hN0];omega
   have aaF:¬ (9223372036854775807 < (N:Int)):=by omega
   have sE:N≠0:=by omega
   have aaG:¬ (N=0∨i.size=0):=by omega
   have TJ:=grownCap_ge w N 0 e
   obtain ⟨vs,XP⟩:∃ vs:Array Value,vs=Builtin.zeroCells z.cells N++Builtin.zeroCells z.cells (grownCap w N 0 e - N):=⟨_,rfl⟩
   have ex:Ext w (w.drew.alloc (.cells vs e)):=(Ext.Ma w _ (Nat.le_succ _)).trans (Ext.alloc w.drew _)
   have U2:∀ y∈List.replicate N (g Z),El i.size y:=fun y hy=>by rw [List.eq_of_mem_replicate hy];exact hE
   have OV:(Builtin.zeroCells z.cells N).size=N * i.size:=by rw [size_zeroCells,Gm]
   have hh:Holds (w.drew.alloc (.cells vs e)) S ⟨some w.heap.size,grownCap w N 0 e⟩ (.arr i.size ((List.replicate l.toNat Z).map g)):=by
    rw [aaD,← hN]
    refine ⟨U2,by simpa using TJ,.inr ⟨w.heap.size,vs,e,rfl,?_,?_,fun j c v hc hv=>?_⟩⟩
    ·show (w.heap.push _)[w.heap.size]? =_
     simp
    ·rw [XP,Array.size_append,size_zeroCells,size_zeroCells,Gm,← Nat.add_mul]
     show (N+(grownCap w N 0 e - N)) * i.size=grownCap w N 0 e * i.size
     rw [show N+(grownCap w N 0 e - N)=grownCap w N 0 e by omega]
    ·have hj:j < N * i.size:=by
      have:=(List.getElem?_eq_some_iff.1 hc).1
      rw [cZ U2] at this;simpa using this
     rw [Ep hE.1 N j hj] at hc
     rw [XP,Array.getElem?_append_left (by rw [OV];exact hj)] at hv
     exact (XX _ _ _ hc (FL Gm ya hv)).mono fun m hm=>⟨hm,ex.same m (r.hp.slt m hm)⟩
   obtain ⟨k1,k2,k3⟩:=qX r.hp ex id hh (.inr ⟨_,rfl,Nat.le_refl _⟩)
   refine ⟨.slice (some ⟨w.heap.size,0,none⟩) N (grownCap w N 0 e),w.drew.alloc (.cells vs e),S,_,?_,(r.heap k3 k1).put hn ?_,k2,kk ⟨some w.heap.size,grownCap w N 0 e⟩⟩
   ·have f2':¬ (281474976710656 < (N:Int) * (i.bytes:Int)):=by rw [← hlN];exact f2
    have f1':¬ ((N:Int) < 0):=by omega
    have w1':IntKind.i64.wrap (N:Int)=N:=by rw [← hlN];exact w1
    rw [XP]
    simp [execOp,resolve,invoke,builtin,e1,e2,Builtin.append_,run_underlying (ay.h (P:=P) (t:=t)),run_underlying (ay.h (P:=P) (t:=u)),sizeOf,typeInfo,aO.h (P:=P) (t:=e),asInt,asIntOf,hlN,w1',f1',f2',sE,aaG,aaF,aaE,Question.forced,run_firstCells_none,zeroValue,hz,newRow,grownCap]
    intro hzero
    exact absurd (Nat.mul_eq_zero.1 hzero) (by omega)
   ·have:=At.sl (w:=w.drew.alloc (.cells vs e)) (S:=S) i.size ⟨some w.heap.size,grownCap w N 0 e⟩ 0 N w.heap.size (grownCap w N 0 e) rfl TJ (by simp)
    simp only [List.length_replicate,← hN]
    simpa using this
 ·cases hv
theorem Sb {t e:TypeId} {i:TypeInfo} {z:Value} {x:Operand} {b:Bk} {L N sz:Nat} {xs:List AV} {zx:AV} {eV:Heap} [ay P t (.slice e)] [aO P e i] (hx:dh tm x=some (.sl sz b L N)) (hz:i.zero=some z) (K9:D7 z=zx) (jX:Nat.beq i.size sz=true) (yp:Wg sz zx=true) (ya:Nat.blt 0 sz=true) (hL:L+N≤xs.length)
 (u:qW hp b (.arr sz xs) b (.arr sz (xs.take L++List.replicate N zx++xs.drop (L+N))) eV) (kk:ARun P all rest ⟨n,tm,eV⟩ Q):
 ARun P all (⟨none,.call {callee:=.builtin .clear,args:=#[x],argTypes:=#[t]},ty,pos,af,none⟩ :: rest) ⟨n,tm,hp⟩ Q:=by
 have jX:=Nat.eq_of_beq_eq_true jX
 have ya:0 < sz:=Nat.lt_of_lt_of_le (Nat.lt_of_succ_le (Nat.le_of_ble_eq_true ya)) (Nat.le_refl _)
 have hE:=Ea yp
 refine ARun.OA rfl fun w S a r=>?_
 obtain ⟨oa,cap,e1,e2⟩:=(bg (σ:=⟨n,tm,hp⟩) r hx).wi
 rcases Nat.eq_zero_or_pos N with h0 | h0
 ·subst h0
  have Ms:xs.take L++List.replicate 0 zx++xs.drop (L+0)=xs:=by simp
  rw [Ms] at u
  obtain ⟨p,q,hq1,hq2⟩:=u.split
  obtain rfl:eV=hp:=by rw [hq1,hq2]
  refine ⟨.tuple #[],w,S,⟨n,tm,eV⟩,?_,r,lB.refl _ _ _,kk⟩
  cases oa<;>simp [execOp,e1,resolve,invoke,builtin,Builtin.clear_,run_underlying (ay.h (P:=P) (t:=t))]
 ·rcases e2 with ⟨_,_,hl,_,_⟩ | ⟨m,hb,rfl,h1,h2⟩ | ⟨_,_,_,_,hl,_⟩
  ·omega
  ·obtain ⟨g0,g1,⟨g2,_⟩ | ⟨m',vs,E,g2,g3,g4,g5⟩⟩:=uN r.hp (.inl u.OU)
   ·rw [g2] at hb;cases hb
   obtain rfl:m'=m:=by rw [g2] at hb;exact Option.some.inj hb
   obtain ⟨zl,XX⟩:=qY w S z (by rw [K9];exact hE.2)
   rw [K9] at zl XX
   have Gm:z.cells.size=sz:=by rw [← zl];exact hE.1
   have U2:∀ y∈List.replicate N zx,El sz y:=fun y hy=>by rw [List.eq_of_mem_replicate hy];exact hE
   have OV:(Builtin.zeroCells z.cells N).size=N * sz:=by rw [size_zeroCells,Gm]
   have Wh:(flat (List.replicate N zx)).length=(Builtin.zeroCells z.cells N).size:=by rw [cZ U2,OV];simp
   have XY:nX w S (flat (List.replicate N zx)) (Builtin.zeroCells z.cells N):=by
    intro j c v hc hv
    have hj:j < N * sz:=by
     have:=(List.getElem?_eq_some_iff.1 hc).1
     rw [cZ U2] at this;simpa using this
    rw [Ep hE.1 N j hj] at hc
    refine XX (j % sz) c v hc ?_
    unfold Builtin.zeroCells at hv
    simp only [Array.getElem?_map,Option.map_eq_some_iff] at hv
    obtain ⟨q,hq,rfl⟩:=hv
    have:q=j:=by
     rw [Array.getElem?_eq_some_iff] at hq
     obtain ⟨k1,k2⟩:=hq
     simpa using k2.symm
    subst this
    rw [Gm]
    have nD:q % sz < z.cells.size:=by rw [Gm];exact Nat.mod_lt _ ya
    simp [nD]
   have Cg:=A6 Wh XY (fun c hc=>by
    unfold flat at hc
    rw [List.mem_flatMap] at hc
    obtain ⟨y,hy,hcy⟩:=hc
    exact (U2 y hy).2 c hcy)
   have We:=cZ g0
   have hmul:(L+N) * sz≤xs.length * sz:=Nat.mul_le_mul_right _ hL
   have Pg:xs.length * sz≤b.cap * sz:=Nat.mul_le_mul_right _ g1
   rw [Nat.add_mul] at hmul
   have IU:=run_storeCells_at (P:=P) m' (L * sz) E (Builtin.zeroCells z.cells N).toList 0 vs w g3 (by simp [OV];omega) Cg
   simp only [Nat.add_zero] at IU
   have I8:flat (xs.take L++List.replicate N zx++xs.drop (L+N))=(flat xs).take (L * sz)++flat (List.replicate N zx)++(flat xs).drop (L * sz+(flat (List.replicate N zx)).length):=by
    rw [vN,vN,Ci xs L g0,Ch xs (L+N) g0,Wh,OV,Nat.add_mul]
   have Ph:=fun (w':World) (ha:nX w' S (flat xs) vs) (hb:nX w' S (flat (List.replicate N zx)) (Builtin.zeroCells z.cells N))=>Mk (L * sz) (by rw [We,g4];exact Pg) ha Wh hb (by rw [Wh,OV,We];omega)
   have Pj:(vs.toList.take (L * sz)++(Builtin.zeroCells z.cells N).toList++vs.toList.drop (L * sz+(Builtin.zeroCells z.cells N).toList.length)).toArray.size=b.cap * sz:=by
    simp [OV];omega
   generalize (vs.toList.take (L * sz)++(Builtin.zeroCells z.cells N).toList++vs.toList.drop (L * sz+(Builtin.zeroCells z.cells N).toList.length)).toArray=FE at IU Ph Pj
   have c:GB w (w.setRow m' FE) b.bU:=⟨⟨rfl,rfl,rfl,by simp,fun k hk sE=>setRow_other w m' k _ (fun e=>sE (by rw [g2,e]))⟩,fun _=>Nat.le_refl _⟩
   have k1:∀ n,S n→S n∧(w.setRow m' FE).heap[n]? =w.heap[n]?:=by
    intro k hk
    refine ⟨hk,setRow_other w m' k _ (fun e=>?_)⟩
    subst e
    exact (r.hp.sep _ u.OU.mem k (lR g2)).1 hk
   have hh:=xl r.hp u c id id ⟨fun y hy=>?_,by simp;omega,.inr ⟨m',FE,E,g2,setRow_heap w m' vs _ E _ g3,Pj,by rw [I8];exact Ph _ (g5.mono k1) (XY.mono k1)⟩⟩ (.inl rfl)
   ·refine ⟨.tuple #[],w.setRow m' FE,S,⟨n,tm,eV⟩,?_,r.heap hh.2.2 hh.1,hh.2.1,kk⟩
    obtain ⟨N',rfl⟩:∃ k,N=k+1:=⟨N - 1,by omega⟩
    simp [execOp,e1,resolve,invoke,builtin,Builtin.clear_,run_underlying (ay.h (P:=P) (t:=t)),zeroValue,typeInfo,aO.h (P:=P) (t:=e),hz,IU]
   ·rcases List.mem_append.1 hy with h | h
    ·rcases List.mem_append.1 h with h | h
     ·exact g0 y (List.mem_of_mem_take h)
     ·exact U2 y h
    ·exact g0 y (List.mem_of_mem_drop h)
  ·omega
theorem HC {α:Type} {g:α→AV} {Z:α} {Xs V:List α} {H:Int} {t e:TypeId} {i:TypeInfo} {z:Value} {x:Operand} {b:Bk} {L:Int} {sz:Nat} {eV:Heap} [ay P t (.slice e)] [aO P e i] (hx:dh tm x=some (.sl sz b L.toNat V.length)) (hz:i.zero=some z) (K9:D7 z=g Z) (jX:Nat.beq i.size sz=true) (yp:Wg sz (g Z)=true) (ya:Nat.blt 0 sz=true) (hv:yb Xs L H=some V)
 (u:qW hp b (.arr sz (Xs.map g)) b (.arr sz ((FK Xs L V.length Z).map g)) eV) (kk:ARun P all rest ⟨n,tm,eV⟩ Q):
 ARun P all (⟨none,.call {callee:=.builtin .clear,args:=#[x],argTypes:=#[t]},ty,pos,af,none⟩ :: rest) ⟨n,tm,hp⟩ Q:=by
 obtain ⟨⟨h0,h1,h2⟩,_⟩:=tI hv
 have hlen:=(vQ hv).1
 refine Sb (xs:=Xs.map g) hx hz K9 jX yp ya (by simp;omega) ?_ kk
 have:(FK Xs L V.length Z).map g=(Xs.map g).take L.toNat++List.replicate V.length (g Z)++(Xs.map g).drop (L.toNat+V.length):=by
  unfold FK
  simp
 rw [← this]
 exact u
end rules
end Go.Eng
set_option linter.unusedVariables false
set_option linter.unusedSimpArgs false
set_option linter.unusedSectionVars false
namespace Go.Eng
open Go Go.Sort Go.Proofs
variable [bc]
structure T8 {α:Type} [Inhabited α] (P:Program) (f:FuncId) (enc:α→Value) (La:List α→List α):Prop where
 some_:∀ (bU off cap:Nat) (zs:List α) (w:World),Sort.Holds enc w bU off zs.toArray→bU < w.heap.size→zs.length < 4611686018427387904→Calls P f #[.slice (some ⟨bU,off,none⟩) zs.length cap] w fun e w'=>
  e=.returned (.tuple #[])∧∃ n os,w'=grow (putRow enc (Sort.ahead w n) bU off (La zs).toArray) os
 none_:∀ (p:Option Addr) (cap:Nat) (w:World),Calls P f #[.slice p 0 cap] w fun e w'=>e=.returned (.tuple #[])∧w'=w
def Mt {α:Type} (La:List α→List α) (xs:List α):Option (List α):=if xs.length < 4611686018427387904 then some (La xs) else none
theorem Gz {α:Type} [Inhabited α] (enc:α→Value) (w:World) (bU off m:Nat) (dk:Array α) (os:Array Obj) {n:Nat} (hn:n < w.heap.size) (sE:n≠bU):(grow (putRow enc (Sort.ahead w m) bU off dk) os).heap[n]? =w.heap[n]?:=by
 unfold putRow
 rw [heap_grow_old _ _ (by simpa [mapBlock] using hn)]
 simp only [mapBlock,heap_ahead,Array.getElem?_modify]
 rw [if_neg (fun h=>sE h.symm)]
theorem PC {α:Type} [Inhabited α] (enc:α→Value) (w:World) (bU m:Nat) (dk:Array α) (os:Array Obj) {vs:Array Value} {E:TypeId} (hb:w.heap[bU]? =some (.cells vs E (0,0))):(grow (putRow enc (Sort.ahead w m) bU 0 dk) os).heap[bU]? =some (.cells (putCells enc 0 dk vs) E (0,0)):=by
 have nD:bU < w.heap.size:=by
  rcases Nat.lt_or_ge bU w.heap.size with h | h
  ·exact h
  ·simp [Array.getElem?_eq_none h] at hb
 unfold putRow
 rw [heap_grow_old _ _ (by simpa [mapBlock] using nD)]
 simp only [mapBlock,heap_ahead,Array.getElem?_modify]
 rw [if_pos trivial,hb]
 rfl
theorem wN {α:Type} {g:α→AV} (hc:∀ x,(g x).cells=[g x]):∀ xs:List α,flat (xs.map g)=xs.map g
 | []=>rfl
 | x :: r=>by rw [List.map_cons,jM,hc,wN hc r];rfl
theorem Jd {P:Program} {α:Type} [Inhabited α] {f:FuncId} {enc:α→Value} {La:List α→List α} (K:T8 P f enc La) {g:α→AV} (hg:∀ {w:World} {S:Nat→Prop} {x:α} {v:Value},At w S (g x) v→v=enc x) (Wp:∀ (w:World) (S:Nat→Prop) (x:α),At w S (g x) (enc x)) (hc:∀ x,(g x).cells=[g x])
 (hlen:∀ xs,(La xs).length=xs.length) (Cg:∀ x,(g x).one=true) {Xs Ys:List α} {b:Bk} (h:Mt La Xs=some Ys):ACall P f [.sl 1 b 0 Xs.length] [(b,.arr 1 (Xs.map g))] (T0 [(b,.arr 1 (Ys.map g))] (.pj [])):=by
 unfold Mt at h
 split at h
 ·rename_i jX
  obtain rfl:=Option.some.inj h
  intro w S vs r hl ha
  obtain ⟨v0,rfl⟩:∃ v0,vs=#[v0]:=by
   match vs,hl with
   | ⟨[v0]⟩,_=>exact ⟨v0,rfl⟩
  have a0:=ha 0 _ v0 rfl rfl
  obtain ⟨oa,cap,rfl,e2⟩:=a0.wi
  have XW:∀ (zs:List α),∀ y∈zs.map g,El 1 y:=by
   intro zs y hy
   obtain ⟨x,_,rfl⟩:=List.mem_map.1 hy
   exact ⟨by rw [hc];rfl,fun c R2=>by rw [hc] at R2;rw [List.mem_singleton.1 R2];exact Cg x⟩
  have O7:Xs.length=0→La Xs=Xs:=fun h0=>by
   have h1:=hlen Xs
   have e1:Xs=[]:=List.eq_nil_of_length_eq_zero h0
   rw [e1]
   apply List.eq_nil_of_length_eq_zero
   rw [hlen];rfl
  rcases Nat.eq_zero_or_pos Xs.length with h0 | h0
  ·have hK:=K.none_ oa cap w
   rw [← h0] at hK
   refine hK.mono ?_
   rintro e w' ⟨rfl,rfl⟩
   rw [O7 h0]
   exact ⟨_,.pj [],_,S,rfl,⟨rfl,rfl⟩,.pj [] #[] rfl (fun i c v hc=>by simp at hc),r,lB.refl _ _ _⟩
  ·obtain ⟨_,h1,h2⟩:=r.holds _ (List.mem_singleton.2 rfl)
   simp only [List.length_map] at h1
   rcases h2 with ⟨_,O1⟩ | ⟨m,row,E,hb,Ek,Xz,vF⟩
   ·have XS:b.cap=0:=O1
    omega
   rcases e2 with ⟨hn,_,_,_,_⟩ | ⟨m',D6,rfl,hle,aaA⟩ | ⟨m',ad,_,_,TL,_⟩
   ·rw [hn] at hb;cases hb
   ·obtain rfl:m'=m:=by rw [D6] at hb;exact Option.some.inj hb
    have UZ:m' < w.heap.size:=by
     rcases Nat.lt_or_ge m' w.heap.size with h | h
     ·exact h
     ·simp [Array.getElem?_eq_none h] at Ek
    have nS:¬ S m':=fun hs=>by have:=(r.sep _ (List.mem_singleton.2 rfl) m' (lR hb)).1 hs;exact this
    have aiQ:row.size=b.cap:=by rw [Xz];exact Nat.mul_one _
    rw [wN hc] at vF
    have hH:Sort.Holds enc w m' 0 Xs.toArray:=by
     intro j hj
     have Wl:j < Xs.length:=by simpa using hj
     have R9:j < row.size:=by omega
     have hv:=hg (vF j (g Xs[j]) row[j] (by simp [Wl]) (by simp [R9]))
     constructor
     ·simp only [World.cell?,Ek,Nat.zero_add,Option.isSome_none,Bool.false_eq_true,if_false]
      rw [Array.getElem?_eq_getElem R9,hv]
      simp [Wl]
     ·simp [World.frozen?,Ek]
    simp only [Nat.zero_mul]
    refine (K.some_ m' 0 cap Xs w hH UZ jX).mono ?_
    rintro e w' ⟨rfl,q,os,rfl⟩
    have hW:∀ n,S n→S n∧(grow (putRow enc (Sort.ahead w q) m' 0 (La Xs).toArray) os).heap[n]? =w.heap[n]?:=fun n hs=>
     ⟨hs,Gz enc w m' 0 q _ os (r.slt n hs) (fun e=>nS (e▸hs))⟩
    have PB:w.heap.size≤(grow (putRow enc (Sort.ahead w q) m' 0 (La Xs).toArray) os).heap.size:=by simp
    have hls:=hlen Xs
    have hh:Go.Eng.Holds (grow (putRow enc (Sort.ahead w q) m' 0 (La Xs).toArray) os) S b (.arr 1 ((La Xs).map g)):=by
     refine ⟨XW _,by simp;omega,.inr ⟨m',_,E,hb,PC enc w m' q _ os Ek,by simp [putCells,Xz],?_⟩⟩
     rw [wN hc]
     intro j c v Wn hv
     have Mf:j < (La Xs).length:=by have:=(List.getElem?_eq_some_iff.1 Wn).1;simpa using this
     have R9:j < row.size:=by omega
     rw [List.getElem?_map,List.getElem?_eq_getElem Mf] at Wn
     obtain rfl:=Option.some.inj Wn
     simp only [putCells,Array.getElem?_mapIdx,Array.getElem?_eq_getElem R9,Option.map_some,Option.some.injEq] at hv
     rw [if_pos ⟨Nat.zero_le _,by simp;omega⟩] at hv
     rw [← hv]
     have:(La Xs).toArray[j - 0]! =(La Xs)[j]:=by simp [Mf]
     rw [this]
     exact Wp _ _ _
    refine ⟨_,.pj [],_,S,rfl,⟨rfl,rfl⟩,.pj [] #[] rfl (fun i c v hc=>by simp at hc),⟨r.nodup,fun e he=>by rw [List.mem_singleton] at he;subst he;exact hh,fun e he n hn=>?_,fun n hn=>Nat.lt_of_lt_of_le (r.slt n hn) PB,fun g o ho=>⟨(r.ib g o ho).1,D2 (hW g (r.ib g o ho).1).2 (r.ib g o ho).2⟩⟩,?_⟩
    ·rw [List.mem_singleton] at he;subst he
     replace hn:=(yl rfl).1 hn
     rw [hb] at hn
     obtain rfl:=Option.some.inj hn
     exact ⟨fun hs=>(nS hs).elim,fun hf=>hf.elim⟩
    ·refine ⟨rfl,rfl,rfl,PB,hW,fun n hn hnh=>⟨Gz enc w m' 0 q _ os hn (fun e=>hnh ⟨_,List.mem_singleton.2 rfl,by rw [e];exact lR hb⟩),id⟩,?_,?_⟩
     ·rintro n ⟨e,he,xS⟩
      rw [List.mem_singleton] at he;subst he
      exact .inl ⟨_,List.mem_singleton.2 rfl,xS⟩
     ·intro _
      show w.drawn≤w.drawn+q
      omega
   ·omega
 ·cases h
def Et (xs:List (List UInt8)):List (List UInt8):=xs.mergeSort fun x y=>decide (x≤y)
end Go.Eng
set_option linter.unusedVariables false
set_option linter.unusedSimpArgs false
set_option linter.unusedSectionVars false
namespace Go.Eng
open Go
variable [bc]
def AV.PD:AV→Bool
 | .sl _ _ _ _=>true
 | .ptr _ _=>true
 | .agg cs=>IX cs
 | v=>v.Hq
def PE:List AV→Bool
 | []=>true
 | c :: r=>c.PD&&PE r
def AV.XZ:AV→Bool
 | .pj cs=>PE cs
 | v=>v.PD
theorem HD {w:World} {S S':Nat→Prop} {av:AV} {v:Value} (h:At w S av v) (hn:av.PD=true):At w S' av v:=by
 cases h with
 | agg cs vs hl h=>exact .agg cs vs hl fun i c u hc hu=>yr (h i c u hc hu) (yu hn c (List.mem_of_getElem? hc))
 | sl sz b off len n cap hb h1 h2=>exact .sl sz b off len n cap hb h1 h2
 | Cd sz b hb=>exact .Cd sz b hb
 | RA sz b off n ad hb=>exact .RA sz b off n ad hb
 | ptr b o n hb=>exact .ptr b o n hb
 | int k n=>exact .int k n
 | bool b=>exact .bool b
 | str s=>exact .str s
 | nil=>exact .nil
 | raw v=>exact .raw v
 | _=>simp [AV.PD,AV.Hq] at hn
theorem Eu:∀ {cs:List AV},PE cs=true→∀ c∈cs,c.PD=true
 | [],_,c,hc=>by simp at hc
 | x :: r,h,c,hc=>by
   simp only [PE,Bool.and_eq_true] at h
   rcases List.mem_cons.1 hc with rfl | hc
   ·exact h.1
   ·exact Eu h.2 c hc
theorem U3 {w:World} {S S':Nat→Prop} {av:AV} {v:Value} (h:At w S av v) (hn:av.XZ=true):At w S' av v:=by
 cases av with
 | pj cs=>
   cases h with
   | pj _ vs hl h=>exact .pj cs vs hl fun i c u hc hu=>HD (h i c u hc hu) (Eu hn c (List.mem_of_getElem? hc))
 | _=>exact HD h hn
def Ob.Sc:Ob→Prop
 | .cells cs=>PE cs=true
 | .arr _ xs=>∀ x∈xs,IX x.cells=true
 | _=>False
inductive Lb:Heap→Prop
 | nil:Lb []
 | cons {b:Bk} {o:Ob} {h:Heap} (c:o.Sc) (k:Lb h):Lb ((b,o) :: h)
theorem Lb.mem {h:Heap} (k:Lb h):∀ e∈h,e.2.Sc:=by
 induction k with
 | nil=>intro e he;simp at he
 | cons c k ih=>
   intro e he
   rcases List.mem_cons.1 he with rfl | he
   ·exact c
   ·exact ih e he
theorem Sc.uf {α:Type} {g:α→AV} {sz:Nat} {Xs:List α} (h:∀ x,IX (g x).cells=true):(Ob.arr sz (Xs.map g)).Sc:=fun x hx=>by
 obtain ⟨y,_,rfl⟩:=List.mem_map.1 hx
 exact h y
theorem Holds.XZ {w:World} {S S':Nat→Prop} {b:Bk} {o:Ob} (h:Holds w S b o) (hn:o.Sc):Holds w S' b o:=by
 cases o with
 | cells cs=>
   obtain ⟨h0,n,vs,E,h1,h2,h3,h4⟩:=h
   exact ⟨h0,n,vs,E,h1,h2,h3,fun i c v hc hv=>HD (h4 i c v hc hv) (Eu hn c (List.mem_of_getElem? hc))⟩
 | arr sz xs=>
   obtain ⟨h0,h1,h2⟩:=h
   refine ⟨h0,h1,h2.imp id ?_⟩
   rintro ⟨n,vs,E,g1,g2,g3,g4⟩
   refine ⟨n,vs,E,g1,g2,g3,fun i c v hc hv=>yr (g4 i c v hc hv) ?_⟩
   have hm:=List.mem_of_getElem? hc
   unfold flat at hm
   rw [List.mem_flatMap] at hm
   obtain ⟨x,hx,hcx⟩:=hm
   exact yu (hn x hx) c hcx
 | A0 _ _=>exact hn.elim
 | mp _=>exact hn.elim
 | Xi _ _=>exact hn.elim
 | Xj _ _ _=>exact hn.elim
 | Xk _ _ _=>exact hn.elim
 | gx _=>exact hn.elim
 | Wd _ _ _ _=>exact hn.elim
theorem Co.T9 {hp:Heap} {α:Type} {g:α→AV} {Xs V:List α} {L H:Int} {sz:Nat} {b:Bk} (hv:yb Xs L H=some V) (f:ox hp b (.A0 sz (Xs.map g))):Co hp (.sl sz b L.toNat V.length) (.list sz (V.map g)):=by
 obtain ⟨⟨h0,h1,h2⟩,h3⟩:=tI hv
 have hl:=(vQ hv).1
 have h:=Co.part sz b L.toNat V.length (Xs.map g) f (by simp;omega)
 have e:V.map g=((Xs.map g).drop L.toNat).take V.length:=by
  have:=(vQ hv).2.2
  rw [← List.map_drop,← List.map_take,← this]
 rw [e]
 exact h
theorem vI.T9 {hp:Heap} {α:Type} {g:α→AV} {Xs V:List α} {L H:Int} {sz:Nat} {b:Bk} (hv:yb Xs L H=some V) (f:ox hp b (.arr sz (Xs.map g))):vI hp (.sl sz b L.toNat V.length) (.list sz (V.map g)):=by
 obtain ⟨⟨h0,h1,h2⟩,h3⟩:=tI hv
 have hl:=(vQ hv).1
 have h:=vI.part sz b L.toNat V.length (Xs.map g) f (by simp;omega)
 have e:V.map g=((Xs.map g).drop L.toNat).take V.length:=by
  have:=(vQ hv).2.2
  rw [← List.map_drop,← List.map_take,← this]
 rw [e]
 exact h
section rules
variable {P:Program} {all:Array Oper} {rest:List Oper} {n:Nat} {tm:List (Nat×AV)} {hp:Heap} {Q:St→Prop} {d:Nat} {ty:TypeId} {pos:String} {af:Array Edge}
theorem Sd {f:FuncId} {args:List Operand} {ts:Array TypeId} {l l':List AV} {h0 hr:Heap} {Qc:AV→Heap→Prop} [aZ P f] (hl:B6 tm args=some l) (c:ACall P f l' h0 Qc) (co:wm hr l l') (hs:hp.Perm (h0++hr)) (hn:Nat.blt d n=true)
 (kk:∀ r h',Qc r h'→r.XZ=true∧Lb h'∧ARun P all rest ⟨n,(d,r) :: tm,h'++hr⟩ Q):ARun P all (⟨some d,.call {callee:=.value (.func f),args:=args.toArray,argTypes:=ts},ty,pos,af,none⟩ :: rest) ⟨n,tm,hp⟩ Q:=by
 refine ARun.Gc rfl fun w S a r=>⟨f,_,pA a w,?_⟩
 obtain ⟨g1,g2⟩:=re (σ:=⟨n,tm,hp⟩) r hl
 have rp:=r.hp.perm hs
 have U4:dw w S hr:=rp.sub (List.sublist_append_right _ _)
 have Ua:dw w S h0:=rp.sub (List.sublist_append_left _ _)
 obtain ⟨g3,g4⟩:=wm.at U4 co g1 g2
 have U5:∀ m,Has h0 m→¬ Has hr m:=by
  rintro m ⟨x,hx,U6⟩ ⟨y,hy,hym⟩
  have:=rp.nodup
  rw [List.flatMap_append,List.nodup_append] at this
  exact this.2.2 m (List.mem_flatMap.2 ⟨x,hx,U6⟩) m (List.mem_flatMap.2 ⟨y,hy,hym⟩) rfl
 have rh:dw w (SB S hr) h0:=by
  refine ⟨Ua.nodup,fun e he=>(Ua.holds e he).mono (fun m hm=>⟨.inl hm,rfl⟩) (fun m _=>rfl),fun e he m hm=>?_,fun m hm=>?_,fun g o ho=>⟨.inl (Ua.ib g o ho).1,(Ua.ib g o ho).2⟩⟩
  ·constructor
   ·rintro (h | h)
    ·exact (Ua.sep e he m hm).1 h
    ·exact (U5 m ⟨e,he,hm⟩ h).elim
   ·exact fun h=>.inl ((Ua.sep e he m hm).2 h)
  ·rcases hm with h | h
   ·exact Ua.slt m h
   ·exact U4.lt h
 refine (c w (SB S hr) _ rh (by simpa using g3) g4).mono ?_
 rintro e w' ⟨v,res,h',S',rfl,hq,h3,h4,h5⟩
 obtain ⟨k1,k2,k3⟩:=kk res h' hq
 have hup:∀ m,S m→(S' m∧(Has hr m→S m))∧w'.heap[m]? =w.heap[m]?:=fun m hm=>⟨⟨(h5.mW m (.inl hm)).1,fun _=>hm⟩,(h5.mW m (.inl hm)).2⟩
 have Av:dw w' (fun m=>S' m∧(Has hr m→S m)) (h'++hr):=by
  refine ⟨?_,?_,?_,fun m hm=>h4.slt m hm.1,fun g o ho=>⟨⟨(h4.ib g o ho).1,fun _=>(Ua.ib g o ho).1⟩,(h4.ib g o ho).2⟩⟩
  ·rw [List.flatMap_append,List.nodup_append]
   refine ⟨h4.nodup,U4.nodup,fun x hx y hy Nf=>?_⟩
   subst Nf
   obtain ⟨e1,he1,RL⟩:=List.mem_flatMap.1 hx
   obtain ⟨e2,OR,hb2⟩:=List.mem_flatMap.1 hy
   rcases h5.new x ⟨e1,he1,RL⟩ with h | h
   ·exact U5 x h ⟨e2,OR,hb2⟩
   ·have:=U4.lt ⟨e2,OR,hb2⟩;omega
  ·intro e he
   rcases List.mem_append.1 he with he | he
   ·exact (h4.holds e he).XZ (k2.mem e he)
   ·exact (U4.holds e he).mono hup (fun m hm=>(h5.mW m (.inr ⟨e,he,hm⟩)).2)
  ·intro e he m hm
   rcases List.mem_append.1 he with he | he
   ·rw [← h4.sep e he m hm]
    refine ⟨fun h=>h.1,fun h=>⟨h,fun hh=>?_⟩⟩
    rcases h5.new m ⟨e,he,hm⟩ with h6 | h6
    ·exact (U5 m h6 hh).elim
    ·have:=U4.lt hh;omega
   ·rw [← U4.sep e he m hm]
    exact ⟨fun h=>h.2 ⟨e,he,hm⟩,fun h=>⟨(h5.mW m (.inl h)).1,fun _=>h⟩⟩
 have Se:∀ m,Has hp m↔Has h0 m∨Has hr m:=by
  intro m
  constructor
  ·rintro ⟨x,hx,hb⟩
   rcases List.mem_append.1 (hs.mem_iff.1 hx) with h | h
   ·exact .inl ⟨x,h,hb⟩
   ·exact .inr ⟨x,h,hb⟩
  ·rintro (⟨x,hx,hb⟩ | ⟨x,hx,hb⟩)
   ·exact ⟨x,hs.mem_iff.2 (List.mem_append_left _ hx),hb⟩
   ·exact ⟨x,hs.mem_iff.2 (List.mem_append_right _ hx),hb⟩
 refine ⟨v,fun m=>S' m∧(Has hr m→S m),⟨n,(d,res) :: tm,h'++hr⟩,rfl,(r.heap hup Av).put hn (U3 h3 k1),?_,k3⟩
 refine ⟨h5.os,h5.tape,h5.output,h5.size,hup,fun m hm hh=>?_,fun m hm=>?_,h5.drawn⟩
 ·have n0:¬ Has h0 m:=fun h=>hh ((Se m).2 (.inl h))
  have nr:¬ Has hr m:=fun h=>hh ((Se m).2 (.inr h))
  obtain ⟨q1,q2⟩:=h5.other m hm n0
  refine ⟨q1,fun h=>?_⟩
  rcases q2 h.1 with h | h
  ·exact h
  ·exact (nr h).elim
 ·obtain ⟨x,hx,hb⟩:=hm
  rcases List.mem_append.1 hx with hx | hx
  ·rcases h5.new m ⟨x,hx,hb⟩ with h | h
   ·exact .inl ((Se m).2 (.inl h))
   ·exact .inr h
  ·exact .inl ((Se m).2 (.inr ⟨x,hx,hb⟩))
theorem Bl {Gr:Type} {f:FuncId} {args:List Operand} {ts:Array TypeId} {l l':List AV} {h0 hr:Heap} {H H':Gr→Heap} {V:Gr→AV} [aZ P f] (hl:B6 tm args=some l) (c:ACall P f l' h0 (T1 H V)) (hs:KK hp h0 hr) (co:wm hr l l') (ha:∀ b,vJ (H b) hr=some (H' b)) (hV:∀ b,(V b).XZ=true) (hH:∀ b,Lb (H b)) (hn:Nat.blt d n=true)
 (kk:∀ b,ARun P all rest ⟨n,(d,V b) :: tm,H' b⟩ Q):ARun P all (⟨some d,.call {callee:=.value (.func f),args:=args.toArray,argTypes:=ts},ty,pos,af,none⟩ :: rest) ⟨n,tm,hp⟩ Q:=
 Sd hl c co hs.perm hn (fun r h' ⟨b,e1,e2⟩=>by subst e1;subst e2;rw [rj (ha b)];exact ⟨hV b,hH b,kk b⟩)
end rules
end Go.Eng
set_option linter.unusedVariables false
set_option linter.unusedSimpArgs false
set_option linter.unusedSectionVars false
namespace Go.Eng
open Go
variable [bc]
class CT (K:Type) where
 lt:K→K→Bool
instance:CT Int:=⟨fun a b=>decide (a < b)⟩
instance:CT Bool:=⟨fun a b=>!a&&b⟩
instance:CT (List UInt8):=⟨fun a b=>Op.bytesLess a b⟩
section plain
variable {K V:Type}
def tJ [DecidableEq K] (m:List (K×V)) (k:K):List (K×V):=m.filter (fun e=>decide (e.1≠k))
def Bm [CT K] (k:K) (v:V):List (K×V)→List (K×V)
 | []=>[(k,v)]
 | e :: r=>if CT.lt e.1 k=true then e :: Bm k v r else (k,v) :: e :: r
def ji [DecidableEq K] [CT K] (m:List (K×V)) (k:K) (v:V):List (K×V):=Bm k v (tJ m k)
def cM [DecidableEq K]:List (K×V)→K→Option V
 | [],_=>none
 | e :: r,k=>if e.1=k then some e.2 else cM r k
def u4 [DecidableEq K] (m:List (K×V)) (k:K) (z:V):Option V:=some ((cM m k).getD z)
def Ab [DecidableEq K] (m:List (K×V)) (k:K) (z:V):Option (V×Bool):=some ((cM m k).getD z,(cM m k).isSome)
theorem wO [CT K] (k:K) (v:V):∀ (m:List (K×V)),(Bm k v m).Perm ((k,v) :: m)
 | []=>List.Perm.refl _
 | e :: r=>by
   unfold Bm
   split
   ·exact (List.Perm.cons e (wO k v r)).trans (List.Perm.swap _ _ _)
   ·exact List.Perm.refl _
theorem Bn {α β:Type} (f:α→β):∀ (l:List β) (M:List α),l.Perm (M.map f)→∃ M':List α,M'.Perm M∧l=M'.map f
 | [],M,h=>by
   have:=h.nil_eq
   rw [eq_comm,List.map_eq_nil_iff] at this
   subst this;exact ⟨[],List.Perm.refl _,rfl⟩
 | x :: t,M,h=>by
   have hx:x∈M.map f:=h.mem_iff.1 (by simp)
   obtain ⟨e,he,rfl⟩:=List.mem_map.1 hx
   obtain ⟨p,q,rfl⟩:=List.append_of_mem he
   have h2:(f e :: t).Perm (f e :: (p++q).map f):=h.trans (by rw [List.map_append,List.map_cons,List.map_append];exact List.perm_middle)
   obtain ⟨M',h3,rfl⟩:=Bn f t (p++q) (List.Perm.cons_inv h2)
   exact ⟨e :: M',(List.Perm.cons e h3).trans List.perm_middle.symm,rfl⟩
theorem Je [DecidableEq K] {k:K} {v:V}:∀ {m:List (K×V)},cM m k=some v→(k,v)∈m
 | [],h=>by cases h
 | e :: r,h=>by
   unfold cM at h
   split at h
   ·rename_i hk
    obtain rfl:=Option.some.inj h
    subst hk;simp
   ·exact List.mem_cons_of_mem _ (Je h)
theorem CU [DecidableEq K] {k:K} {v:V}:∀ {m:List (K×V)},(m.map Prod.fst).Nodup→(k,v)∈m→cM m k=some v
 | [],_,h=>by simp at h
 | e :: r,hn,h=>by
   rw [List.map_cons,List.nodup_cons] at hn
   unfold cM
   rcases List.mem_cons.1 h with rfl | h
   ·simp
   ·rw [if_neg (fun hk=>hn.1 (List.mem_map.2 ⟨_,h,hk.symm⟩))]
    exact CU hn.2 h
theorem zm [DecidableEq K] {k:K}:∀ {m:List (K×V)},cM m k=none↔∀ e∈m,e.1≠k
 | []=>by simp [cM]
 | e :: r=>by
   unfold cM
   split
   ·rename_i hk;simp [hk]
   ·rename_i hk
    rw [zm (m:=r)]
    simp [hk]
theorem uO [DecidableEq K] {m m':List (K×V)} (hp:m'.Perm m) (hn:(m'.map Prod.fst).Nodup) (k:K):cM m' k=cM m k:=by
 have Pt:(m.map Prod.fst).Nodup:=(hp.map _).nodup_iff.1 hn
 cases h:cM m' k with
 | none=>
   symm
   rw [zm] at h ⊢
   exact fun e he=>h e (hp.mem_iff.2 he)
 | some v=>exact (CU Pt (hp.mem_iff.1 (Je h))).symm
theorem Cl [DecidableEq K] {m:List (K×V)} {k:K} (h:cM m k=none):tJ m k=m:=by
 rw [zm] at h
 unfold tJ
 exact List.filter_eq_self.2 fun e he=>by simpa using h e he
end plain
def yA {K:Type} [DecidableEq K] (k:K):List K→List MapEntry→Nat→Option (Nat×Value)
 | k' :: ks,e :: es,i=>if k'=k then some (i,e.val) else yA k ks es (i+1)
 | _,_,_=>none
class iX (P:Program) (t:TypeId) {K:Type} [DecidableEq K] (g:K→AV):Prop where
 inj:∀ a b,g a=g b→a=b
 check:∀ {w:World} {S:Nat→Prop} {k:K} {v:Value},At w S (g k) v→∀ (b:Bool) (w1:World),(Instr.checkKey b 10000 t v).run P w1=.ok () w1
 find:∀ {w:World} {S:Nat→Prop} {k:K} {v:Value},At w S (g k) v→∀ (es:List MapEntry) (ks:List K),ks.length=es.length→(∀ (i:Nat) k' e,ks[i]? =some k'→es[i]? =some e→At w S (g k') e.key)→∀ w1:World,(Instr.findKey t v es).run P w1=.ok (yA k ks es 0) w1
 bits:∀ {w:World} {S:Nat→Prop} {k:K} {v u:Value},At w S (g k) v→At w S (g k) u→Instr.sameBits 10000 v u=true
theorem zn {K:Type} [DecidableEq K] {d:TypeDesc} {v:Value} {k:K} {q:K→Value→Prop} (hq:∀ k' u,q k' u→Instr.sameNow d v u=some (decide (k'=k))):∀ (es:List MapEntry) (ks:List K) (i:Nat),ks.length=es.length→(∀ (i:Nat) k' e,ks[i]? =some k'→es[i]? =some e→q k' e.key)→Instr.findNow d v es i=some (yA k ks es i)
 | [],[],i,_,_=>rfl
 | [],k' :: ks,i,hl,_=>by simp at hl
 | e :: es,[],i,hl,_=>by simp at hl
 | e :: es,k' :: ks,i,hl,h=>by
   unfold Instr.findNow yA
   rw [hq k' e.key (h 0 k' e rfl rfl)]
   by_cases hk:k'=k
   ·simp [hk]
   ·simp only [hk,decide_false,if_false]
    exact zn hq es ks (i+1) (by simpa using hl) (fun i k' e h1 h2=>h (i+1) k' e (by simpa using h1) (by simpa using h2))
theorem Lc (a b:ByteArray):((a==b)=true)↔a=b:=by
 cases a with
 | mk a=>
   cases b with
   | mk b=>
     show (a==b)=true↔_
     rw [beq_iff_eq]
     exact ⟨fun h=>by rw [h],fun h=>by cases h;rfl⟩
theorem iX.int {P:Program} {t:TypeId} {q:IntKind} (h:P.underlying t=some (.int q)):iX P t (K:=Int) (fun n=>AV.int q n) where
 inj a b h:=by simpa using h
 check:=fun {w S k v} hv b w1=>by
  rw [hv.gy]
  have key:∀ n:Nat,(Instr.checkKey b (n+1) t (Value.int q k)).run P w1=.ok () w1:=fun n=>by simp [Instr.checkKey,run_underlying h]
  exact key 9999
 find:=fun {w S k v} hv es ks hl hk w1=>by
  rw [hv.gy]
  have hf:=zn (d:=(.int q)) (v:=(Value.int q k)) (k:=k) (q:=fun k' u=>u=(Value.int q k')) (fun k' u hu=>by subst hu;simp only [Instr.sameNow,if_true];congr 1;rw [Bool.eq_iff_iff];simp;exact eq_comm) es ks 0 hl (fun i k' e h1 h2=>(hk i k' e h1 h2).gy)
  simp [Instr.findKey,run_underlying h,hf]
 bits:=fun {w S k v u} h1 h2=>by rw [h1.gy,h2.gy];simp [Instr.sameBits]
theorem iX.bool {P:Program} {t:TypeId} (h:P.underlying t=some .bool):iX P t (K:=Bool) AV.bool where
 inj a b h:=by simpa using h
 check:=fun {w S k v} hv b w1=>by
  rw [hv.jY]
  have key:∀ n:Nat,(Instr.checkKey b (n+1) t (Value.bool k)).run P w1=.ok () w1:=fun n=>by simp [Instr.checkKey,run_underlying h]
  exact key 9999
 find:=fun {w S k v} hv es ks hl hk w1=>by
  rw [hv.jY]
  have hf:=zn (d:=.bool) (v:=(Value.bool k)) (k:=k) (q:=fun k' u=>u=(Value.bool k')) (fun k' u hu=>by subst hu;simp only [Instr.sameNow];congr 1;rw [Bool.eq_iff_iff];simp;exact eq_comm) es ks 0 hl (fun i k' e h1 h2=>(hk i k' e h1 h2).jY)
  simp [Instr.findKey,run_underlying h,hf]
 bits:=fun {w S k v u} h1 h2=>by rw [h1.jY,h2.jY];simp [Instr.sameBits]
theorem iX.str {P:Program} {t:TypeId} (h:P.underlying t=some .string):iX P t (K:=List UInt8) AV.str where
 inj a b h:=by simpa using h
 check:=fun {w S k v} hv b w1=>by
  rw [hv.dz]
  have key:∀ n:Nat,(Instr.checkKey b (n+1) t (Value.string ⟨k.toArray⟩)).run P w1=.ok () w1:=fun n=>by simp [Instr.checkKey,run_underlying h]
  exact key 9999
 find:=fun {w S k v} hv es ks hl hk w1=>by
  rw [hv.dz]
  have hf:=zn (d:=.string) (v:=(Value.string ⟨k.toArray⟩)) (k:=k) (q:=fun k' u=>u=(Value.string ⟨k'.toArray⟩)) (fun k' u hu=>by subst hu;simp only [Instr.sameNow];congr 1;rw [Bool.eq_iff_iff,Lc];simp;exact eq_comm) es ks 0 hl (fun i k' e h1 h2=>(hk i k' e h1 h2).dz)
  simp [Instr.findKey,run_underlying h,hf]
 bits:=fun {w S k v u} h1 h2=>by rw [h1.dz,h2.dz];simp only [Instr.sameBits];exact (Lc _ _).2 rfl
instance {P:Program} {t:TypeId} [h:ay P t (.int .i64)]:iX P t (K:=Int) I:=iX.int h.h
instance {P:Program} {t:TypeId} [h:ay P t .bool]:iX P t (K:=Bool) AV.bool:=iX.bool h.h
instance {P:Program} {t:TypeId} [h:ay P t .string]:iX P t (K:=List UInt8) AV.str:=iX.str h.h
end Go.Eng
set_option linter.unusedVariables false
set_option linter.unusedSimpArgs false
set_option linter.unusedSectionVars false
namespace Go.Eng
open Go
variable [bc]
theorem il {P:Program} {w:World} {r:Nat} {es:Array MapEntry} {c:Nat} (h:w.heap[r]? =some (.map es c)):(getObj r).run P w=.ok (.map es c) w:=by
 simp only [getObj,Sem.run,h]
def Cm (w:World) (r:Nat) (o:Obj):World:={w with heap:=w.heap.setIfInBounds r o}
theorem Ev {P:Program} {w:World} {r:Nat} {es:Array MapEntry} {c:Nat} (o:Obj) (h:w.heap[r]? =some (.map es c)):(setObj r o).run P w=.ok () (Cm w r o):=by
 simp only [setObj,Sem.run,h];rfl
theorem GA {w:World} {r:Nat} {o o':Obj} (h:w.heap[r]? =some o'):(Cm w r o).heap[r]? =some o:=by
 have nD:r < w.heap.size:=(Array.getElem?_eq_some_iff.1 h).1
 simp [Cm,Array.getElem?_setIfInBounds,nD]
theorem Ew {w:World} {r k:Nat} {o:Obj} (h:k≠r):(Cm w r o).heap[k]? =w.heap[k]?:=by
 simp [Cm,Array.getElem?_setIfInBounds,Ne.symm h]
theorem Sf {w:World} {r:Nat} {o:Obj} {x:Option Nat} (hx:x=some r):GB w (Cm w r o) x:=
 ⟨⟨rfl,rfl,rfl,by simp [Cm],fun k hk sE=>Ew (fun e=>sE (by rw [hx,e]))⟩,fun _=>Nat.le_refl _⟩
theorem Sg (w:World) (x:Option Nat):GB w w x:=⟨⟨rfl,rfl,rfl,Nat.le_refl _,fun _ _ _=>rfl⟩,fun _=>Nat.le_refl _⟩
theorem Ext.heap {w w':World} {n:Nat} {o:Obj} (e:Ext w w') (h:w.heap[n]? =some o):w'.heap[n]? =some o:=by
 rw [e.same n (Array.getElem?_eq_some_iff.1 h).1];exact h
theorem At.u5 {w:World} {S:Nat→Prop} {b:Bk} {v:Value} (h:At w S (.bZ b) v):∃ n,b.bU=some n∧v=.map (some n):=by cases h with | bZ _ n hb=>exact ⟨n,hb,rfl⟩
theorem PF (w:World) (S:Nat→Prop) (z:Value) (h1:lD (D7 z).cells=true):At w S (D7 z) z:=by
 by_cases hz:∃ cs,z=.agg cs
 ·obtain ⟨cs,rfl⟩:=hz
  obtain ⟨h2,h3⟩:=qY w S (.agg cs) (dM h1)
  exact .agg _ _ h2 h3
 ·have OV:D7 z=TC z:=by
   cases z<;>first | rfl | (exact (hz ⟨_,rfl⟩).elim)
  rw [OV];exact Hm w S z
theorem vS {K V:Type} {gk:K→AV} {gv:V→AV} {w:World} {S:Nat→Prop} {hp:Heap} {b:Bk} {M:List (K×V)} (NB:∀ a b,gk a=gk b→a=b) (r:dw w S hp) (f:ox hp b (.mp (M.map fun e=>(gk e.1,gv e.2)))):
 ∃ (L:List wh) (c:Nat) (M':List (K×V)) (n:Nat) (ow:Array MapEntry),M'.Perm M∧L.map wh.kv=M'.map (fun e=>(gk e.1,gv e.2))∧ym w S b L c∧b.bU=some n∧w.heap[n]? =some (.map ow c)∧ow.toList.length=M'.length∧
   (∀ (i:Nat) e m,M'[i]? =some e→ow.toList[i]? =some m→At w S (gk e.1) m.key∧At w S (gv e.2) m.val)∧(M'.map Prod.fst).Nodup:=by
 obtain ⟨L,c,pE,hH⟩:=r.holds _ f.mem
 obtain ⟨M',h1,h2⟩:=Bn _ _ _ pE
 have hH':=hH
 obtain ⟨n,ow,g1,g2,g3,g4,g5,g6,g7⟩:=hH
 have hlen:L.length=M'.length:=by have:=congrArg List.length h2;simpa using this
 refine ⟨L,c,M',n,ow,h1,h2,hH',g1,g2,by rw [Array.length_toList,g3,hlen],fun i e m he hm=>?_,?_⟩
 ·have:(L.map wh.kv)[i]? =some (gk e.1,gv e.2):=by rw [h2,List.getElem?_map,he];rfl
  rw [List.getElem?_map] at this
  cases hL:L[i]? with
  | none=>rw [hL] at this;cases this
  | some x=>
    rw [hL] at this
    have hx:(x.k,x.v)=(gk e.1,gv e.2):=Option.some.inj this
    obtain ⟨q1,q2⟩:=Prod.mk.inj hx
    have:=g4 i x m hL (by simpa using hm)
    rw [q1,q2] at this
    exact this.2
 ·have hk:L.map (·.k)=(M'.map Prod.fst).map gk:=by
   have:=congrArg (List.map Prod.fst) h2
   simpa [List.map_map,Function.comp_def,wh.kv] using this
  rw [hk] at g7
  exact (List.pairwise_map.1 g7).imp (fun h e=>h (by rw [e]))
theorem Jf {α:Type} {l:List α} {j:Nat} {x:α} (h:l[j]? =some x):l.set j x=l:=by
 apply List.ext_getElem?
 intro i
 rw [List.getElem?_set]
 by_cases Hu:j=i
 ·subst Hu
  have:=(List.getElem?_eq_some_iff.1 h).1
  rw [if_pos rfl,if_pos this,h]
 ·simp [Hu]
theorem xo {K V:Type} [DecidableEq K] {gv:V→AV} {w:World} {S:Nat→Prop} {k:K}:∀ (M:List (K×V)) (es:List MapEntry) (i:Nat),M.length=es.length→(∀ (j:Nat) e m,M[j]? =some e→es[j]? =some m→At w S (gv e.2) m.val)→
 (cM M k=none∧yA k (M.map Prod.fst) es i=none)∨∃ v j val,cM M k=some v∧yA k (M.map Prod.fst) es i=some (i+j,val)∧At w S (gv v) val∧M[j]? =some (k,v)
 | [],[],i,_,_=>.inl ⟨rfl,rfl⟩
 | [],m :: es,i,hl,_=>by simp at hl
 | e :: M,[],i,hl,_=>by simp at hl
 | e :: M,m :: es,i,hl,h=>by
   unfold cM
   simp only [List.map_cons,yA]
   by_cases hk:e.1=k
   ·simp only [hk,if_true]
    refine .inr ⟨e.2,0,m.val,rfl,rfl,h 0 e m rfl rfl,?_⟩
    subst hk;rfl
   ·simp only [hk,if_false]
    rcases xo M es (i+1) (by simpa using hl) (fun j e' m' h1 h2=>h (j+1) e' m' (by simpa using h1) (by simpa using h2)) with ⟨h1,h2⟩ | ⟨v,j,val,h1,h2,h3,h4⟩
    ·exact .inl ⟨h1,h2⟩
    ·exact .inr ⟨v,j+1,val,h1,by rw [h2];congr 2;omega,h3,by simpa using h4⟩
section rules
variable {P:Program} {all:Array Oper} {rest:List Oper} {n:Nat} {tm:List (Nat×AV)} {hp:Heap} {Q:St→Prop} {d:Nat} {ty:TypeId} {pos:String} {af:Array Edge}
theorem uP {t:TypeId} (hn:Nat.blt d n=true) (kk:∀ b:Bk,ARun P all rest ⟨n,(d,.bZ b) :: tm,(b,.mp []) :: hp⟩ Q):ARun P all (⟨some d,.makeMap t none,ty,pos,af,none⟩ :: rest) ⟨n,tm,hp⟩ Q:=by
 refine ARun.OA rfl fun w S a r=>?_
 have hh:Holds (w.alloc (.map #[] 0)) S ⟨some w.heap.size,0⟩ (.mp []):=⟨[],0,List.Perm.refl _,w.heap.size,#[],rfl,by show (w.heap.push _)[w.heap.size]? =_;simp,rfl,by simp,by simp,by simp,by simp⟩
 obtain ⟨k1,k2,k3⟩:=qX r.hp (Ext.alloc w (.map #[] 0)) id hh (.inr ⟨_,rfl,Nat.le_refl _⟩)
 exact ⟨.map (some w.heap.size),w.alloc (.map #[] 0),S,_,by simp [execOp,Instr.makeMap],(r.heap k3 k1).put hn (.bZ _ _ rfl),k2,kk ⟨some w.heap.size,0⟩⟩
theorem Jg {K V:Type} [DecidableEq K] {gk:K→AV} {gv:V→AV} {M:List (K×V)} {key:K} {Z v:V} {t kt vt:TypeId} {i:TypeInfo} {z:Value} {x y:Operand} {b:Bk} {av:AV} [ay P t (.map kt vt)] [aO P vt i] [iX P kt gk] (hx:dh tm x=some (.bZ b)) (hy:dh tm y=some (gk key)) (f:ox hp b (.mp (M.map fun e=>(gk e.1,gv e.2)))) (hz:i.zero=some z) (K9:D7 z=gv Z) (h1:lD (D7 z).cells=true) (h:u4 M key Z=some v) (so:gv v=av):
 QV P ⟨some d,.lookup t x y false,ty,pos,af,none⟩ ⟨n,tm,hp⟩ av:=by
 intro w S a r
 have kx:=bg (σ:=⟨n,tm,hp⟩) r hx
 have ky:=bg (σ:=⟨n,tm,hp⟩) r hy
 obtain ⟨nb,hb,ex⟩:=kx.u5
 obtain ⟨L,c,M',Mu,ow,p1,p2,p3,p4,p5,p6,p7,p8⟩:=vS (iX.inj P kt) r.hp f
 obtain rfl:Mu=nb:=by rw [p4] at hb;exact Option.some.inj hb
 unfold u4 at h
 have hv:=Option.some.inj h
 rw [← uO p1 p8] at hv
 have tL:=iX.find (P:=P) (t:=kt) (g:=gk) ky ow.toList (M'.map Prod.fst) (by simpa using p6.symm) (fun j k' e h1 h2=>by
  rw [List.getElem?_map] at h1
  cases hm:M'[j]? with
  | none=>rw [hm] at h1;cases h1
  | some q=>rw [hm] at h1;rw [← Option.some.inj h1];exact (p7 j q e hm h2).1)
 rcases xo (gv:=gv) (w:=w) (S:=S) (k:=key) M' ow.toList 0 p6.symm (fun j e m h1 h2=>(p7 j e m h1 h2).2) with ⟨q1,q2⟩ | ⟨v',j,val,q1,q2,q3,_⟩
 ·refine ⟨z,fun w1 e1=>?_,?_⟩
  ·simp [execOp,Instr.lookup,ex,run_underlying (ay.h (P:=P) (t:=t)),il (e1.heap p5),iX.check (P:=P) (t:=kt) ky,tL,q2,zeroValue,typeInfo,aO.h (P:=P) (t:=vt),hz]
  ·rw [← so,← hv,q1,Option.getD_none,← K9];exact PF w S z h1
 ·refine ⟨val,fun w1 e1=>?_,?_⟩
  ·simp [execOp,Instr.lookup,ex,run_underlying (ay.h (P:=P) (t:=t)),il (e1.heap p5),iX.check (P:=P) (t:=kt) ky,tL,q2]
  ·rw [← so,← hv,q1,Option.getD_some];exact q3
theorem NC {K V:Type} [DecidableEq K] {gk:K→AV} {gv:V→AV} {M:List (K×V)} {key:K} {Z:V} {v:V×Bool} {t kt vt:TypeId} {i:TypeInfo} {z:Value} {x y:Operand} {b:Bk} {av:AV} [ay P t (.map kt vt)] [aO P vt i] [iX P kt gk] (hx:dh tm x=some (.bZ b)) (hy:dh tm y=some (gk key)) (f:ox hp b (.mp (M.map fun e=>(gk e.1,gv e.2)))) (hz:i.zero=some z) (K9:D7 z=gv Z) (h1:lD (D7 z).cells=true) (h:Ab M key Z=some v) (so:gv v.1=av):
 QV P ⟨some d,.lookup t x y true,ty,pos,af,none⟩ ⟨n,tm,hp⟩ (.pj [av,.bool v.2]):=by
 intro w S a r
 have kx:=bg (σ:=⟨n,tm,hp⟩) r hx
 have ky:=bg (σ:=⟨n,tm,hp⟩) r hy
 obtain ⟨nb,hb,ex⟩:=kx.u5
 obtain ⟨L,c,M',Mu,ow,p1,p2,p3,p4,p5,p6,p7,p8⟩:=vS (iX.inj P kt) r.hp f
 obtain rfl:Mu=nb:=by rw [p4] at hb;exact Option.some.inj hb
 unfold Ab at h
 have hv:=Option.some.inj h
 rw [← uO p1 p8] at hv
 have tL:=iX.find (P:=P) (t:=kt) (g:=gk) ky ow.toList (M'.map Prod.fst) (by simpa using p6.symm) (fun j k' e h1 h2=>by
  rw [List.getElem?_map] at h1
  cases hm:M'[j]? with
  | none=>rw [hm] at h1;cases h1
  | some q=>rw [hm] at h1;rw [← Option.some.inj h1];exact (p7 j q e hm h2).1)
 rcases xo (gv:=gv) (w:=w) (S:=S) (k:=key) M' ow.toList 0 p6.symm (fun j e m h1 h2=>(p7 j e m h1 h2).2) with ⟨q1,q2⟩ | ⟨v',j,val,q1,q2,q3,_⟩
 ·refine ⟨.tuple #[z,.bool false],fun w1 e1=>?_,?_⟩
  ·simp [execOp,Instr.lookup,ex,run_underlying (ay.h (P:=P) (t:=t)),il (e1.heap p5),iX.check (P:=P) (t:=kt) ky,tL,q2,zeroValue,typeInfo,aO.h (P:=P) (t:=vt),hz]
  ·rw [← so,← hv,q1]
   refine .pj _ _ rfl (DL ?_ (.bool _))
   rw [Option.getD_none,← K9];exact PF w S z h1
 ·refine ⟨.tuple #[val,.bool true],fun w1 e1=>?_,?_⟩
  ·simp [execOp,Instr.lookup,ex,run_underlying (ay.h (P:=P) (t:=t)),il (e1.heap p5),iX.check (P:=P) (t:=kt) ky,tL,q2]
  ·rw [← so,← hv,q1]
   exact .pj _ _ rfl (DL q3 (.bool _))
theorem GC {w:World} {S:Nat→Prop} {hp eV:Heap} {b:Bk} {m:Nat} {o o':Ob} {ob OC:Obj} (r:dw w S hp) (u:qW hp b o b o' eV) (hb:b.bU=some m) (ho:w.heap[m]? =some OC) (hf:¬ o.CK) (RF:¬ o'.CK) (hh:(∀ n,S n→S n∧(Cm w m ob).heap[n]? =w.heap[n]?)→Holds (Cm w m ob) S b o') (hm:o'.more=[]:=by rfl):
 dw (Cm w m ob) S eV∧lB w S hp (Cm w m ob) S eV∧∀ n,S n→S n∧(Cm w m ob).heap[n]? =w.heap[n]?:=by
 have k1:∀ n,S n→S n∧(Cm w m ob).heap[n]? =w.heap[n]?:=fun k hk=>⟨hk,Ew (fun e=>by
  subst e
  exact hf ((r.sep _ u.OU.mem _ (lR hb)).1 hk))⟩
 exact xl r u (Sf hb) hf RF (hh k1) (.inl rfl) hm
theorem tM {K V:Type} [DecidableEq K] [CT K] {gk:K→AV} {gv:V→AV} {M:List (K×V)} {key:K} {v:V} {t kt vt:TypeId} {x y z:Operand} {b:Bk} {av:AV} {eV:Heap} [ay P t (.map kt vt)] [iX P kt gk] (hx:dh tm x=some (.bZ b)) (hy:dh tm y=some (gk key)) (hz:dh tm z=some av) (so:av=gv v) (u:qW hp b (.mp (M.map fun e=>(gk e.1,gv e.2))) b (.mp ((ji M key v).map fun e=>(gk e.1,gv e.2))) eV)
 (kk:ARun P all rest ⟨n,tm,eV⟩ Q):ARun P all (⟨none,.mapUpdate t x y z,ty,pos,af,none⟩ :: rest) ⟨n,tm,hp⟩ Q:=by
 refine ARun.act rfl rfl (fun w S a r=>?_) kk
 have kx:=bg (σ:=⟨n,tm,hp⟩) r hx
 have ky:=bg (σ:=⟨n,tm,hp⟩) r hy
 have kz:=bg (σ:=⟨n,tm,hp⟩) r hz
 obtain ⟨nb,hb,ex⟩:=kx.u5
 obtain ⟨L,c,M',Mu,ow,p1,p2,p3,p4,p5,p6,p7,p8⟩:=vS (iX.inj P kt) r.hp u.OU
 obtain rfl:Mu=nb:=by rw [p4] at hb;exact Option.some.inj hb
 have tL:=iX.find (P:=P) (t:=kt) (g:=gk) ky ow.toList (M'.map Prod.fst) (by simpa using p6.symm) (fun j k' e h1 h2=>by
  rw [List.getElem?_map] at h1
  cases hm:M'[j]? with
  | none=>rw [hm] at h1;cases h1
  | some q=>rw [hm] at h1;rw [← Option.some.inj h1];exact (p7 j q e hm h2).1)
 obtain ⟨nb2,yB,g1,g2,g3,g4,g5,g6,g7⟩:=p3
 obtain rfl:nb2=Mu:=by rw [p4] at g1;exact (Option.some.inj g1).symm
 obtain rfl:yB=ow:=by rw [p5] at g2;exact (Obj.map.inj (Option.some.inj g2)).1.symm
 have hLM:L.length=M'.length:=by have:=congrArg List.length p2;simpa using this
 have Zm:∀ (j:Nat) (x:wh) (e:K×V),L[j]? =some x→M'[j]? =some e→x.k=gk e.1∧x.v=gv e.2:=by
  intro j x e h1 h2
  have:(L.map wh.kv)[j]? =(M'.map fun e=>(gk e.1,gv e.2))[j]?:=by rw [p2]
  rw [List.getElem?_map,List.getElem?_map,h1,h2] at this
  exact Prod.mk.inj (Option.some.inj this)
 rcases xo (gv:=gv) (w:=w) (S:=S) (k:=key) M' yB.toList 0 p6.symm (fun j e m h1 h2=>(p7 j e m h1 h2).2) with ⟨q1,q2⟩ | ⟨v',j,val,q1,q2,q3,q4⟩
 ·
  have hw:=GC (ob:=.map (yB.push ⟨a.eval y,a.eval z,c⟩) (c+1)) r.hp u p4 p5 id id (fun k1=>by
   refine ⟨L++[⟨gk key,gv v,c⟩],c+1,?_,nb2,yB.push ⟨a.eval y,a.eval z,c⟩,p4,GA p5,by simp [g3],?_,?_,?_,?_⟩
   ·rw [List.map_append,p2]
    refine List.Perm.trans ?_ ((wO key v (tJ M key)).symm.map _)
    rw [Cl (by rw [← uO p1 p8];exact q1)]
    exact List.perm_append_comm.trans (List.Perm.cons _ (p1.map _))
   ·intro i e m he hm
    rw [Array.getElem?_push] at hm
    rcases Nat.lt_or_ge i L.length with hi | hi
    ·rw [List.getElem?_append_left hi] at he
     rw [if_neg (by omega)] at hm
     obtain ⟨s1,s2,s3⟩:=g4 i e m he hm
     exact ⟨s1,s2.mono k1,s3.mono k1⟩
    ·have KX:i=L.length:=by
      have:=(List.getElem?_eq_some_iff.1 he).1
      simp at this;omega
     subst KX
     rw [if_pos g3.symm] at hm
     simp at he
     obtain rfl:=Option.some.inj hm
     subst he
     exact ⟨rfl,ky.mono k1,by rw [so] at kz;exact kz.mono k1⟩
   ·intro e he
    rcases List.mem_append.1 he with h | h
    ·have:=g5 e h;omega
    ·simp at h;subst h;simp
   ·rw [List.map_append,List.nodup_append]
    refine ⟨g6,by simp,fun a1 ha b1 RL K4=>?_⟩
    simp at RL
    subst RL
    obtain ⟨e,he,rfl⟩:=List.mem_map.1 ha
    have:=g5 e he
    omega
   ·rw [List.map_append,List.nodup_append]
    refine ⟨g7,by simp,fun a1 ha b1 RL K4=>?_⟩
    simp at RL
    subst RL
    obtain ⟨e,he,rfl⟩:=List.mem_map.1 ha
    obtain ⟨j,hj⟩:=List.getElem?_of_mem he
    have Mf:j < M'.length:=by rw [← hLM];exact (List.getElem?_eq_some_iff.1 hj).1
    have:=(Zm j e M'[j] hj (List.getElem?_eq_getElem Mf)).1
    rw [this] at K4
    exact (zm.1 q1) M'[j] (List.getElem_mem Mf) (iX.inj P kt _ _ K4))
  refine ⟨_,S,?_,r.heap hw.2.2 hw.1,hw.2.1⟩
  simp [execOp,Instr.mapUpdate,ex,run_underlying (ay.h (P:=P) (t:=t)),il p5,iX.check (P:=P) (t:=kt) ky,tL,q2,Ev _ p5]
 ·
  have Mf:j < yB.toList.length:=by rw [p6];exact (List.getElem?_eq_some_iff.1 q4).1
  have TP:j < yB.size:=by simpa using Mf
  have hm0:yB.toList[j]? =some yB[j]:=by simp [TP]
  have T3:=(p7 j _ _ q4 hm0).1
  have X0:Instr.sameBits 10000 yB[j].key (a.eval y)=true:=iX.bits (P:=P) (t:=kt) T3 ky
  have Wq:j < L.length:=by omega
  have hw:=GC (ob:=.map (yB.modify j fun e=>{e with key:=a.eval y,val:=a.eval z}) c) r.hp u p4 p5 id id (fun k1=>by
   refine ⟨L.set j ⟨gk key,gv v,L[j].born⟩,c,?_,nb2,_,p4,GA p5,by simp [g3],?_,?_,?_,?_⟩
   ·rw [List.map_set]
    refine List.Perm.trans ?_ ((wO key v (tJ M key)).symm.map _)
    have e1:(L.map wh.kv).set j (gk key,gv v)=(M'.set j (key,v)).map fun e=>(gk e.1,gv e.2):=by rw [p2,List.map_set]
    show ((L.map wh.kv).set j (gk key,gv v)).Perm _
    rw [e1]
    refine List.Perm.map _ ?_
    have hjM:j < M'.length:=by omega
    have e2:M'=M'.take j++(key,v') :: M'.drop (j+1):=by
     have:=List.take_append_drop j M'
     rw [List.drop_eq_getElem_cons hjM] at this
     have hq:M'[j]=(key,v'):=by rw [List.getElem?_eq_getElem hjM] at q4;exact Option.some.inj q4
     rw [hq] at this
     exact this.symm
    have e3:M'.set j (key,v)=M'.take j++(key,v) :: M'.drop (j+1):=by
     rw [List.set_eq_take_append_cons_drop,if_pos hjM]
    rw [e3]
    refine List.perm_middle.trans (List.Perm.cons _ ?_)
    have e4:tJ M' key=M'.take j++M'.drop (j+1):=by
     have p8':=p8
     rw [e2,List.map_append,List.map_cons,List.nodup_append,List.nodup_cons] at p8'
     unfold tJ
     rw [e2,List.filter_append,List.filter_cons]
     simp only [ne_eq,not_true_eq_false,decide_false,Bool.false_eq_true,if_false]
     rw [← e2]
     congr 1
     ·refine List.filter_eq_self.2 fun e he=>?_
      simp only [decide_not,Bool.not_eq_true',decide_eq_false_iff_not]
      intro hk
      exact p8'.2.2 e.1 (List.mem_map.2 ⟨e,he,rfl⟩) key (by simp) hk
     ·refine List.filter_eq_self.2 fun e he=>?_
      simp only [decide_not,Bool.not_eq_true',decide_eq_false_iff_not]
      intro hk
      exact p8'.2.1.1 (List.mem_map.2 ⟨e,he,hk⟩)
    rw [← e4]
    exact p1.filter _
   ·intro i e m he hm
    rw [Array.getElem?_modify] at hm
    rw [List.getElem?_set] at he
    by_cases Hu:j=i
    ·subst Hu
     simp only [if_true,Wq] at he
     simp only [if_true,Array.getElem?_eq_getElem TP,Option.map_some] at hm
     obtain rfl:=Option.some.inj he
     obtain rfl:=Option.some.inj hm
     refine ⟨(g4 j L[j] yB[j] (List.getElem?_eq_getElem Wq) (Array.getElem?_eq_getElem TP)).1,ky.mono k1,by rw [so] at kz;exact kz.mono k1⟩
    ·rw [if_neg Hu] at he hm
     obtain ⟨s1,s2,s3⟩:=g4 i e m he hm
     exact ⟨s1,s2.mono k1,s3.mono k1⟩
   ·intro e he
    rcases List.mem_or_eq_of_mem_set he with h | h
    ·exact g5 e h
    ·subst h;exact g5 L[j] (List.getElem_mem Wq)
   ·rw [List.map_set]
    have:(L.map (·.born)).set j L[j].born=L.map (·.born):=by
     exact Jf (by rw [List.getElem?_map,List.getElem?_eq_getElem Wq];rfl)
    rw [this];exact g6
   ·rw [List.map_set]
    have:(L.map (·.k)).set j (gk key)=L.map (·.k):=by
     have hk:=(Zm j L[j] _ (List.getElem?_eq_getElem Wq) q4).1
     exact Jf (by rw [List.getElem?_map,List.getElem?_eq_getElem Wq,Option.map_some,hk])
    rw [this];exact g7)
  refine ⟨_,S,?_,r.heap hw.2.2 hw.1,hw.2.1⟩
  simp [execOp,Instr.mapUpdate,ex,run_underlying (ay.h (P:=P) (t:=t)),il p5,iX.check (P:=P) (t:=kt) ky,tL,q2,Instr.keyThatStays,TP,X0,Ev _ p5]
theorem wP {K V:Type} [DecidableEq K] [CT K] {gk:K→AV} {gv:V→AV} {M:List (K×V)} {key:K} {v:V} {t kt vt:TypeId} {x y z:Operand} {b:Bk} {av:AV} {eV:Heap} [ay P t (.map kt vt)] [iX P kt gk] (hx:dh tm x=some (.bZ b)) (hy:dh tm y=some (gk key)) (hz:dh tm z=some av) (so:av=gv v) (u:qW hp b (.mp (M.map fun e=>(gk e.1,gv e.2))) b (.mp ((ji M key v).map fun e=>(gk e.1,gv e.2))) eV)
 (kk:ARun P all rest ⟨n,tm,eV⟩ Q):ARun P all (⟨none,.insert t x y z,ty,pos,af,none⟩ :: rest) ⟨n,tm,hp⟩ Q:=by
 intro w S a r
 have:=tM (all:=all) (rest:=rest) (ty:=ty) (pos:=pos) (af:=af) (t:=t) (kt:=kt) (vt:=vt) (gk:=gk) (gv:=gv) hx hy hz so u kk w S a r
 unfold wpList at this ⊢
 exact this
end rules
end Go.Eng
set_option linter.unusedVariables false
set_option linter.unusedSimpArgs false
set_option linter.unusedSectionVars false
namespace Go.Eng
open Go
variable [bc]
section rules
variable {P:Program} {all:Array Oper} {rest:List Oper} {n:Nat} {tm:List (Nat×AV)} {hp:Heap} {Q:St→Prop} {d:Nat} {ty:TypeId} {pos:String} {af:Array Edge}
theorem ND {K V:Type} {gk:K→AV} {gv:V→AV} {M:List (K×V)} {t kt vt:TypeId} {x:Operand} {b:Bk} [ay P t (.map kt vt)] (hx:dh tm x=some (.bZ b)) (f:ox hp b (.mp (M.map fun e=>(gk e.1,gv e.2)))):
 QV P ⟨some d,.call {callee:=.builtin .len,args:=#[x],argTypes:=#[t]},ty,pos,af,none⟩ ⟨n,tm,hp⟩ (.int .i64 (M.length:Nat)):=by
 intro w S a r
 obtain ⟨nb,hb,ex⟩:=(bg (σ:=⟨n,tm,hp⟩) r hx).u5
 obtain ⟨L,c,pE,Mu,ow,g1,g2,g3,_⟩:=r.hp.holds _ f.mem
 obtain rfl:Mu=nb:=by rw [g1] at hb;exact Option.some.inj hb
 have hl:ow.size=M.length:=by have:=pE.length_eq;simp at this;omega
 refine ⟨.int .i64 (M.length:Nat),fun w1 e1=>?_,.int _ _⟩
 simp [execOp,ex,resolve,invoke,builtin,Builtin.len_,run_underlying (ay.h (P:=P) (t:=t)),il (e1.heap g2),goInt,hl]
end rules
end Go.Eng
set_option linter.unusedVariables false
set_option linter.unusedSectionVars false
namespace Go.Eng
open Go
variable [bc]
theorem aq {α β:Type} {o:Option α} {f:α→Option β} {r:β} {C:Prop} (h:o.bind f=some r) (k:∀ v,o=some v→f v=some r→C):C:=
 let ⟨v,h1,h2⟩:=UN h;k v h1 h2
def GD:Heap→Nat→Option ((Bk×Ob)×Heap)
 | [],_=>none
 | e :: h,0=>some (e,h)
 | e :: h,i+1=>match GD h i with
   | some (x,h')=>some (x,e :: h')
   | none=>none
def Ex:Heap→List Nat→Option Heap
 | _,[]=>some []
 | h,i :: r=>match GD h i with
   | some (e,h')=>match Ex h' r with
     | some t=>some (e :: t)
     | none=>none
   | none=>none
theorem GF:∀ {h:Heap} {i:Nat} {e:Bk×Ob} {h':Heap},GD h i=some (e,h')→zB h e.1 e.2 h'
 | [],_,_,_,hh=>by simp [GD] at hh
 | x :: h,0,e,h',hh=>by
   simp only [GD,Option.some.injEq,Prod.mk.injEq] at hh
   obtain ⟨rfl,rfl⟩:=hh
   exact .here
 | x :: h,i+1,e,h',hh=>by
   simp only [GD] at hh
   split at hh
   ·rename_i y h1 h2
    simp only [Option.some.injEq,Prod.mk.injEq] at hh
    obtain ⟨rfl,rfl⟩:=hh
    exact .next (GF h2)
   ·cases hh
theorem Bo:∀ {l:List Nat} {h t:Heap},Ex h l=some t→HS h t
 | [],h,t,hh=>by
   simp only [Ex,Option.some.injEq] at hh
   subst hh;exact .nil
 | i :: r,h,t,hh=>by
   simp only [Ex] at hh
   split at hh
   ·rename_i e h' h1
    split at hh
    ·rename_i t' h2
     obtain rfl:=Option.some.inj hh
     exact .cons (GF h1) (Bo h2)
    ·cases hh
   ·cases hh
def PG (tm:List (Nat×AV)):List Nat→Option (List (Nat×AV))
 | []=>some []
 | s :: r=>match lk tm s with
   | some av=>match PG tm r with
     | some l=>some ((s,av) :: l)
     | none=>none
   | none=>none
theorem Jh {tm:List (Nat×AV)}:∀ {l:List Nat} {sZ:List (Nat×AV)},PG tm l=some sZ→Gn tm sZ
 | [],sZ,h=>by
   simp only [PG,Option.some.injEq] at h
   subst h;exact True.intro
 | s :: r,sZ,h=>by
   simp only [PG] at h
   split at h
   ·rename_i av h1
    split at h
    ·rename_i t' h2
     obtain rfl:=Option.some.inj h
     exact ⟨h1,Jh h2⟩
    ·cases h
   ·cases h
theorem ImpX.lq {n:Nat} {tm sZ:List (Nat×AV)} {hp eV:Heap} {T:St→Prop} (is:List Nat) (h:T ⟨n,sZ,eV⟩) (ht:PG tm (sZ.map Prod.fst)=some sZ) (hs:Ex hp is=some eV):ImpX ⟨n,tm,hp⟩ T:=
 ImpX.XA (Jh ht) (Bo hs) (ImpX.here h)
theorem ox.p0 {b:Bk} {o:Ob} {h:Heap}:ox ((b,o) :: h) b o:=.here
theorem qW.p0 {b b':Bk} {o o':Ob} {h:Heap}:qW ((b,o) :: h) b o b' o' ((b',o') :: h):=.here
theorem zB.p0 {b:Bk} {o:Ob} {h:Heap}:zB ((b,o) :: h) b o (h):=.here
theorem ox.p1 {e0:Bk×Ob} {b:Bk} {o:Ob} {h:Heap}:ox (e0 :: (b,o) :: h) b o:=.next .p0
theorem qW.p1 {e0:Bk×Ob} {b b':Bk} {o o':Ob} {h:Heap}:qW (e0 :: (b,o) :: h) b o b' o' (e0 :: (b',o') :: h):=.next .p0
theorem zB.p1 {e0:Bk×Ob} {b:Bk} {o:Ob} {h:Heap}:zB (e0 :: (b,o) :: h) b o (e0 :: h):=.next .p0
theorem ox.p2 {e0:Bk×Ob} {e1:Bk×Ob} {b:Bk} {o:Ob} {h:Heap}:ox (e0 :: e1 :: (b,o) :: h) b o:=.next .p1
theorem qW.p2 {e0:Bk×Ob} {e1:Bk×Ob} {b b':Bk} {o o':Ob} {h:Heap}:qW (e0 :: e1 :: (b,o) :: h) b o b' o' (e0 :: e1 :: (b',o') :: h):=.next .p1
theorem zB.p2 {e0:Bk×Ob} {e1:Bk×Ob} {b:Bk} {o:Ob} {h:Heap}:zB (e0 :: e1 :: (b,o) :: h) b o (e0 :: e1 :: h):=.next .p1
theorem ox.p3 {e0:Bk×Ob} {e1:Bk×Ob} {e2:Bk×Ob} {b:Bk} {o:Ob} {h:Heap}:ox (e0 :: e1 :: e2 :: (b,o) :: h) b o:=.next .p2
theorem qW.p3 {e0:Bk×Ob} {e1:Bk×Ob} {e2:Bk×Ob} {b b':Bk} {o o':Ob} {h:Heap}:qW (e0 :: e1 :: e2 :: (b,o) :: h) b o b' o' (e0 :: e1 :: e2 :: (b',o') :: h):=.next .p2
theorem zB.p3 {e0:Bk×Ob} {e1:Bk×Ob} {e2:Bk×Ob} {b:Bk} {o:Ob} {h:Heap}:zB (e0 :: e1 :: e2 :: (b,o) :: h) b o (e0 :: e1 :: e2 :: h):=.next .p2
theorem ox.p4 {e0:Bk×Ob} {e1:Bk×Ob} {e2:Bk×Ob} {e3:Bk×Ob} {b:Bk} {o:Ob} {h:Heap}:ox (e0 :: e1 :: e2 :: e3 :: (b,o) :: h) b o:=.next .p3
theorem qW.p4 {e0:Bk×Ob} {e1:Bk×Ob} {e2:Bk×Ob} {e3:Bk×Ob} {b b':Bk} {o o':Ob} {h:Heap}:qW (e0 :: e1 :: e2 :: e3 :: (b,o) :: h) b o b' o' (e0 :: e1 :: e2 :: e3 :: (b',o') :: h):=.next .p3
theorem zB.p4 {e0:Bk×Ob} {e1:Bk×Ob} {e2:Bk×Ob} {e3:Bk×Ob} {b:Bk} {o:Ob} {h:Heap}:zB (e0 :: e1 :: e2 :: e3 :: (b,o) :: h) b o (e0 :: e1 :: e2 :: e3 :: h):=.next .p3
theorem ox.p5 {e0:Bk×Ob} {e1:Bk×Ob} {e2:Bk×Ob} {e3:Bk×Ob} {e4:Bk×Ob} {b:Bk} {o:Ob} {h:Heap}:ox (e0 :: e1 :: e2 :: e3 :: e4 :: (b,o) :: h) b o:=.next .p4
theorem qW.p5 {e0:Bk×Ob} {e1:Bk×Ob} {e2:Bk×Ob} {e3:Bk×Ob} {e4:Bk×Ob} {b b':Bk} {o o':Ob} {h:Heap}:qW (e0 :: e1 :: e2 :: e3 :: e4 :: (b,o) :: h) b o b' o' (e0 :: e1 :: e2 :: e3 :: e4 :: (b',o') :: h):=.next .p4
theorem zB.p5 {e0:Bk×Ob} {e1:Bk×Ob} {e2:Bk×Ob} {e3:Bk×Ob} {e4:Bk×Ob} {b:Bk} {o:Ob} {h:Heap}:zB (e0 :: e1 :: e2 :: e3 :: e4 :: (b,o) :: h) b o (e0 :: e1 :: e2 :: e3 :: e4 :: h):=.next .p4
theorem ox.p6 {e0:Bk×Ob} {e1:Bk×Ob} {e2:Bk×Ob} {e3:Bk×Ob} {e4:Bk×Ob} {e5:Bk×Ob} {b:Bk} {o:Ob} {h:Heap}:ox (e0 :: e1 :: e2 :: e3 :: e4 :: e5 :: (b,o) :: h) b o:=.next .p5
theorem qW.p6 {e0:Bk×Ob} {e1:Bk×Ob} {e2:Bk×Ob} {e3:Bk×Ob} {e4:Bk×Ob} {e5:Bk×Ob} {b b':Bk} {o o':Ob} {h:Heap}:qW (e0 :: e1 :: e2 :: e3 :: e4 :: e5 :: (b,o) :: h) b o b' o' (e0 :: e1 :: e2 :: e3 :: e4 :: e5 :: (b',o') :: h):=.next .p5
theorem zB.p6 {e0:Bk×Ob} {e1:Bk×Ob} {e2:Bk×Ob} {e3:Bk×Ob} {e4:Bk×Ob} {e5:Bk×Ob} {b:Bk} {o:Ob} {h:Heap}:zB (e0 :: e1 :: e2 :: e3 :: e4 :: e5 :: (b,o) :: h) b o (e0 :: e1 :: e2 :: e3 :: e4 :: e5 :: h):=.next .p5
theorem ox.p7 {e0:Bk×Ob} {e1:Bk×Ob} {e2:Bk×Ob} {e3:Bk×Ob} {e4:Bk×Ob} {e5:Bk×Ob} {e6:Bk×Ob} {b:Bk} {o:Ob} {h:Heap}:ox (e0 :: e1 :: e2 :: e3 :: e4 :: e5 :: e6 :: (b,o) :: h) b o:=.next .p6
theorem qW.p7 {e0:Bk×Ob} {e1:Bk×Ob} {e2:Bk×Ob} {e3:Bk×Ob} {e4:Bk×Ob} {e5:Bk×Ob} {e6:Bk×Ob} {b b':Bk} {o o':Ob} {h:Heap}:qW (e0 :: e1 :: e2 :: e3 :: e4 :: e5 :: e6 :: (b,o) :: h) b o b' o' (e0 :: e1 :: e2 :: e3 :: e4 :: e5 :: e6 :: (b',o') :: h):=.next .p6
theorem zB.p7 {e0:Bk×Ob} {e1:Bk×Ob} {e2:Bk×Ob} {e3:Bk×Ob} {e4:Bk×Ob} {e5:Bk×Ob} {e6:Bk×Ob} {b:Bk} {o:Ob} {h:Heap}:zB (e0 :: e1 :: e2 :: e3 :: e4 :: e5 :: e6 :: (b,o) :: h) b o (e0 :: e1 :: e2 :: e3 :: e4 :: e5 :: e6 :: h):=.next .p6
section rules
variable {P:Program} {all:Array Oper} {rest:List Oper} {n:Nat} {tm:List (Nat×AV)} {hp:Heap} {Q:St→Prop} {d:Nat} {ty:TypeId} {pos:String} {af:Array Edge}
theorem rM {x:Operand} {av:AV} (hx:dh tm x=some av) (hn:Nat.blt d n=true) (k:ARun P all rest ⟨n,(d,av) :: tm,hp⟩ Q):ARun P all (⟨some d,.move x,ty,pos,af,none⟩ :: rest) ⟨n,tm,hp⟩ Q:=ARun.qv (aL hx) hn k
theorem rA {x:Operand} {av:AV} (hx:dh tm x=some av) (hn:Nat.blt d n=true) (k:ARun P all rest ⟨n,(d,av) :: tm,hp⟩ Q):ARun P all (⟨some d,.assign x,ty,pos,af,none⟩ :: rest) ⟨n,tm,hp⟩ Q:=ARun.qv (bM hx) hn k
theorem rF {x:Operand} {s:TypeId} {j off:Nat} {b:Bk} {o o':Nat} [oy P s j off] (hx:dh tm x=some (.ptr b o)) (ho:o+off=o') (hn:Nat.blt d n=true) (k:ARun P all rest ⟨n,(d,.ptr b o') :: tm,hp⟩ Q):ARun P all (⟨some d,.fieldAddr s x j,ty,pos,af,none⟩ :: rest) ⟨n,tm,hp⟩ Q:=ARun.qv (an hx ho) hn k
theorem rL {t:TypeId} {D:TypeDesc} {x:Operand} {b:Bk} {o:Nat} {cs:List AV} {av:AV} [ay P t D] (hD:TypeDesc.ma D=false) (hx:dh tm x=some (.ptr b o)) (f:ox hp b (.cells cs)) (ho:cs[o]? =some av) (hn:Nat.blt d n=true) (k:ARun P all rest ⟨n,(d,av) :: tm,hp⟩ Q):ARun P all (⟨some d,.load t x,ty,pos,af,none⟩ :: rest) ⟨n,tm,hp⟩ Q:=ARun.qv (az hD hx f ho) hn k
theorem rT {c x y:Operand} {av:AV} (hc:dh tm c=some (.bool true)) (hx:dh tm x=some av) (hn:Nat.blt d n=true) (k:ARun P all rest ⟨n,(d,av) :: tm,hp⟩ Q):ARun P all (⟨some d,.pick c x y,ty,pos,af,none⟩ :: rest) ⟨n,tm,hp⟩ Q:=ARun.qv (cJ hc hx) hn k
theorem rE {c x y:Operand} {av:AV} (hc:dh tm c=some (.bool false)) (hx:dh tm y=some av) (hn:Nat.blt d n=true) (k:ARun P all rest ⟨n,(d,av) :: tm,hp⟩ Q):ARun P all (⟨some d,.pick c x y,ty,pos,af,none⟩ :: rest) ⟨n,tm,hp⟩ Q:=ARun.qv (eD hc hx) hn k
theorem rX {x:Operand} {i:Nat} {vs:List AV} {av:AV} (hx:dh tm x=some (.pj vs)) (hi:vs[i]? =some av) (hn:Nat.blt d n=true) (k:ARun P all rest ⟨n,(d,av) :: tm,hp⟩ Q):ARun P all (⟨some d,.extract x i,ty,pos,af,none⟩ :: rest) ⟨n,tm,hp⟩ Q:=ARun.qv (Ce hx hi) hn k
theorem rN (h:Q ⟨n,tm,hp⟩):ARun P all [] ⟨n,tm,hp⟩ Q:=ARun.nil h
theorem rG {op:Op} {j:Nat} {want b:Bool} {s:Nat} (hj:(all[j]?).bind (·.dst)=some s) (hs:lk tm s=some (.bool b)) (hb:b=!want) (hn:Nat.blt d n=true) (k:ARun P all rest ⟨n,(d,.raw undef) :: tm,hp⟩ Q):ARun P all (⟨some d,op,ty,pos,af,some (j,want)⟩ :: rest) ⟨n,tm,hp⟩ Q:=ARun.ai hj hs hb hn k
theorem rY {op:Op} {j:Nat} {want b:Bool} {s:Nat} (hj:(all[j]?).bind (·.dst)=some s) (hs:lk tm s=some (.bool b)) (hb:b=want) (k:ARun P all (⟨some d,op,ty,pos,af,none⟩ :: rest) ⟨n,tm,hp⟩ Q):ARun P all (⟨some d,op,ty,pos,af,some (j,want)⟩ :: rest) ⟨n,tm,hp⟩ Q:=ARun.aj hj hs hb k
end rules
section rules
variable {P:Program} {R:St→Prop} {k:List It} {σ:St}
theorem tS {x y:Code} (h:ATodo P R (.code x :: .code y :: k) σ):ATodo P R (.code (.seq x y) :: k) σ:=ATodo.seq h
theorem tR {id:Nat} {l:List Oper} (h:ARun P l.toArray l σ (ATodo P R k)):ATodo P R (.code (.region id l.toArray false) :: k) σ:=ATodo.region h
theorem ax {id:Nat} {l:List Oper} {y:Code} (h:ARun P l.toArray l σ (ATodo P R (.code y :: k))):ATodo P R (.code (.seq (.region id l.toArray false) y) :: k) σ:=ATodo.seq (ATodo.region h)
theorem tK (h:ATodo P R k σ):ATodo P R (.code .skip :: k) σ:=ATodo.skip h
end rules
end Go.Eng
