/- The engine: abstract values, the symbolic heap, one rule for each operation. No program in sight. -/
import Derived.Test.YtnchkajkgjkpmaaGreatDoorEngC
import Derived.Laws.BytesArg
import Derived.Shelf.SlSortCmp.NoneTotal
set_option linter.unusedVariables false
set_option linter.unusedSectionVars false
namespace Go.Eng
open Go
variable [bD]
def depth:Nat:=100000
section rules
variable {P:Program} {all:Array Oper} {rest:List Oper} {n:Nat} {tm:List (Nat×AV)} {hp:Heap} {Q:St→Prop} {d:Nat} {ty:TypeId} {pos:String} {af:Array Edge}
theorem HG {f:FuncId} {x:Operand} {args:List Operand} {ts:Array TypeId} {uF l l':List AV} {R:AV} [bh P f] (hx:dx tm x=some (.func (.func f) uF)) (hl:BI tm args=some l) (c:Pu P f l' R) (co:wL hp (l++uF) l') (hn:Nat.blt d n=true) (hR:R.YD=true)
 (kk:ae P all rest ⟨n,(d,R) :: tm,hp⟩ Q):ae P all (⟨some d,.call {callee:=.value x,args:=args.toArray,argTypes:=ts},ty,pos,af,none⟩ :: rest) ⟨n,tm,hp⟩ Q:=by
 refine ae.Hn rfl fun w S a r=>?_
 obtain ⟨cv,e1,e2,e3⟩:=(bj (σ:=⟨n,tm,hp⟩) r hx).BG
 refine ⟨f,_,vo a w e1,?_⟩
 obtain ⟨g1,g2⟩:=rJ (σ:=⟨n,tm,hp⟩) r hl
 obtain ⟨g3,g4⟩:=wL.at r.hp co (vs:=args.map a.eval++cv.toList) (by simp [g1,e2]) (xe g1 g2 (by simpa using e3))
 refine (c w (SB S hp) _ (vp (fun m hm=>hm.elim (r.hp.slt m) fun h=>r.hp.lt h) (fun g o ho=>⟨.inl (r.hp.hJ g o ho).1,(r.hp.hJ g o ho).2⟩)) (by simpa using g3) g4).mono ?_
 rintro e w' ⟨v,rr,h',S',rfl,hq,h3,h4,h5⟩
 subst hq
 have ex:=h5.Hz
 exact ⟨v,S,⟨n,(d,rr) :: tm,hp⟩,rfl,(r.ext ex).put hn (Mf h3 hR),lD.ext r.hp.slt ex,kk⟩
end rules
theorem Rc {w:World} {S:Nat→Prop} {hp fj:Heap} {b:Bk} {sz k:Nat} {xs:List AV} (r:dO w S hp) (u:sL hp b (.arr sz xs) b (.arr sz (xs.take k)) fj):dO w S fj∧lD w S hp w S fj:=by
 obtain ⟨pre,post,e1,e2⟩:=u.split
 subst e1;subst e2
 have hblk:∀ n,Has (pre++(b,Ob.arr sz (xs.take k)) :: post) n↔Has (pre++(b,Ob.arr sz xs) :: post) n:=by
  intro n
  constructor<;>rintro ⟨x,hx,hb⟩<;>rcases bG.1 hx with rfl | hx
  ·exact ⟨(b,.arr sz xs),bG.2 (.inl rfl),hb⟩
  ·exact ⟨x,bG.2 (.inr hx),hb⟩
  ·exact ⟨(b,.arr sz (xs.take k)),bG.2 (.inl rfl),hb⟩
  ·exact ⟨x,bG.2 (.inr hx),hb⟩
 refine ⟨⟨?_,?_,?_,r.slt,r.hJ⟩,⟨rfl,rfl,rfl,Nat.le_refl _,fun n hn=>⟨hn,rfl⟩,fun n _ _=>⟨rfl,id⟩,fun n hn=>.inl ((hblk n).1 hn),fun _=>Nat.le_refl _⟩⟩
 ·have:=r.nodup
  simpa [List.flatMap_append,List.flatMap_cons,eb,Ob.more] using this
 ·intro x hx
  rcases bG.1 hx with rfl | hx
  ·obtain ⟨h0,h1,h2⟩:=r.holds (b,.arr sz xs) (bG.2 (.inl rfl))
   refine ⟨fun x hx=>h0 x (List.mem_of_mem_take hx),Nat.le_trans (by simp only [List.length_take];omega) h1,h2.imp id ?_⟩
   rintro ⟨n,vs,E,g1,g2,g3,g4⟩
   refine ⟨n,vs,E,g1,g2,g3,fun i c v hc hv=>?_⟩
   have hp:∃ t,flat xs=flat (xs.take k)++t:=⟨flat (xs.drop k),by
    show xs.flatMap AV.cells=(xs.take k).flatMap AV.cells++(xs.drop k).flatMap AV.cells
    rw [← List.flatMap_append,List.take_append_drop]⟩
   obtain ⟨t,ht⟩:=hp
   refine g4 i c v ?_ hv
   rw [ht,List.getElem?_append_left (List.getElem?_eq_some_iff.1 hc).1]
   exact hc
  ·exact r.holds x (bG.2 (.inr hx))
 ·intro x hx n hn
  rcases bG.1 hx with rfl | hx
  ·have:=r.sep (b,.arr sz xs) (bG.2 (.inl rfl)) n hn
   exact ⟨fun h=>(this.1 h).elim,fun h=>h.elim⟩
  ·exact r.sep x (bG.2 (.inr hx)) n hn
theorem aj.take {n k:Nat} {tm:List (Nat×AV)} {hp fj:Heap} {T:St→Prop} {b:Bk} {sz:Nat} {xs:List AV} (u:sL hp b (.arr sz xs) b (.arr sz (xs.take k)) fj) (kk:aj ⟨n,tm,fj⟩ T):aj ⟨n,tm,hp⟩ T:=by
 refine aj.step (Hp:=⟨n,tm,fj⟩) (fun w S a r=>?_) kk
 obtain ⟨g1,g2⟩:=Rc r.hp u
 exact ⟨_,S,rfl,⟨r.size,r.defers,r.tm,g1⟩,g2⟩
section rules
variable {P:Program} {all:Array Oper} {rest:List Oper} {n:Nat} {tm:List (Nat×AV)} {hp:Heap} {Q:St→Prop} {d:Nat} {ty:TypeId} {pos:String} {af:Array Edge}
theorem wu {α:Type} {Xs V:List α} {L H:Int} (h:BN Xs L H=some V):V.length=H.toNat - L.toNat∧L.toNat+V.length≤Xs.length∧V=(Xs.drop L.toNat).take V.length:=by
 obtain ⟨⟨h0,h1,h2⟩,rfl⟩:=ug h
 have:((Xs.drop L.toNat).take (H.toNat - L.toNat)).length=H.toNat - L.toNat:=by simp;omega
 refine ⟨this,by rw [this];omega,by rw [this]⟩
theorem sZ {α:Type} {Xs Zs:List α} {t e:TypeId} {i:TypeInfo} {x:Operand} {lo hi:Option Operand} {l h:Option Int} {sz:Nat} {b:Bk} {L H:Int} [aC P t (.slice e)] [aU P e i] (hx:dx tm x=some (.sl sz b 0 Xs.length)) (j9:Nat.beq i.size sz=true) (hl:NF tm lo l) (hh:NF tm hi h)
 (eL:pV l=L) (eH:oJ Xs.length h=H) (hv:BN Xs L H=some Zs):QV P ⟨some d,.slice t x lo hi none,ty,pos,af,none⟩ ⟨n,tm,hp⟩ (.sl sz b L.toNat Zs.length):=by
 obtain ⟨⟨h0,h1,h2⟩,_⟩:=ug hv
 have hlen:=(wu hv).1
 subst eL;subst eH
 have:=Mg (P:=P) (d:=d) (ty:=ty) (pos:=pos) (af:=af) (n:=n) (tm:=tm) (hp:=hp) (t:=t) (e:=e) hx j9 hl hh h0 h1 h2
 rw [Nat.zero_add] at this
 rw [hlen];exact this
theorem aj.Re {α:Type} {g:α→AV} {Xs V:List α} {H:Int} {T:St→Prop} {b:Bk} {sz:Nat} {fj:Heap} (hv:BN Xs 0 H=some V) (u:sL hp b (.arr sz (Xs.map g)) b (.arr sz (V.map g)) fj) (kk:aj ⟨n,tm,fj⟩ T):aj ⟨n,tm,hp⟩ T:=by
 refine aj.take (k:=V.length) (xs:=Xs.map g) (b:=b) (sz:=sz) ?_ kk
 rw [← List.map_take]
 have:=(wu hv).2.2
 simp only [Int.toNat_zero,List.drop_zero] at this
 rw [← this];exact u
end rules
inductive Fi (hp:Heap):AV→AV→Prop
 | co {a a':AV} (c:Co hp a a'):Fi hp a a'
 | agg (cs oI:List AV) (hl:oI.length=cs.length) (h:∀ (i:Nat) c c',cs[i]? =some c→oI[i]? =some c'→Fi hp c c'):Fi hp (.agg cs) (.agg oI)
 | pT (cs oI:List AV) (hl:oI.length=cs.length) (h:∀ (i:Nat) c c',cs[i]? =some c→oI[i]? =some c'→Fi hp c c'):Fi hp (.pT cs) (.pT oI)
 | list (sz:Nat) (xs ys:List AV) (hn:ys.length=xs.length) (hl:(flat ys).length=(flat xs).length) (he:∀ y∈ys,El sz y) (h:∀ (i:Nat) c c',(flat xs)[i]? =some c→(flat ys)[i]? =some c'→Fi hp c c'):Fi hp (.list sz xs) (.list sz ys)
inductive Mp (hp:Heap):List AV→List AV→Prop
 | nil:Mp hp [] []
 | cons {a a':AV} {l l':List AV} (c:Fi hp a a') (k:Mp hp l l'):Mp hp (a :: l) (a' :: l')
theorem Fi.r {hp:Heap} {a:AV}:Fi hp a a:=.co (.refl _)
theorem Fi.n {hp:Heap} {sz:Nat}:Fi hp .nil (.list sz []):=.co (.nil _)
theorem Mp.each {hp:Heap}:∀ {l l':List AV},Mp hp l l'→l'.length=l.length∧∀ (i:Nat) c c',l[i]? =some c→l'[i]? =some c'→Fi hp c c'
 | [],_,.nil=>⟨rfl,fun i c c' h=>by simp at h⟩
 | _ :: _,_,.cons c k=>by
   obtain ⟨g1,g2⟩:=Mp.each k
   refine ⟨by simp [g1],fun i c1 c2 h1 h2=>?_⟩
   match i with
   | 0=>simp at h1 h2;subst h1;subst h2;assumption
   | i+1=>exact g2 i c1 c2 (by simpa using h1) (by simpa using h2)
theorem Fi.Rf {hp:Heap} {sz:Nat} {xs ys:List AV} (k:Mp hp (flat xs) (flat ys)) (hn:Nat.beq ys.length xs.length=true) (he:yR sz ys=true):Fi hp (.list sz xs) (.list sz ys):=
 .list sz xs ys (Nat.eq_of_beq_eq_true hn) k.each.1 (lG he) k.each.2
theorem Fi.at {w:World} {S:Nat→Prop} {hp:Heap} {a a':AV} {v:Value} (c:Fi hp a a') (r:dO w S hp) (h:At w S a v):At w S a' v:=by
 induction c generalizing v with
 | co c=>exact c.at r h
 | agg cs oI hl _ ih=>
   cases h with
   | agg _ vs h1 h2=>
     refine .agg oI vs (by rw [hl,h1]) (fun i c v hc hv=>?_)
     have hi:i < cs.length:=by rw [← hl];exact (List.getElem?_eq_some_iff.1 hc).1
     exact ih i cs[i] c (by simp [hi]) hc (h2 i _ _ (by simp [hi]) hv)
 | pT cs oI hl _ ih=>
   cases h with
   | pT _ vs h1 h2=>
     refine .pT oI vs (by rw [hl,h1]) (fun i c v hc hv=>?_)
     have hi:i < cs.length:=by rw [← hl];exact (List.getElem?_eq_some_iff.1 hc).1
     exact ih i cs[i] c (by simp [hi]) hc (h2 i _ _ (by simp [hi]) hv)
 | list sz xs ys hn hl he _ ih=>
   cases h with
   | list _ _ a cap vs g1 g2 g3 g4 g5=>
     rw [← hn]
     refine .list sz ys a cap vs he (by rw [hl,g2]) (fun i c v hc hv=>?_) g4 (by rw [hn];exact g5)
     have hi:i < (flat xs).length:=by rw [← hl];exact (List.getElem?_eq_some_iff.1 hc).1
     exact ih i (flat xs)[i] c (by simp [hi]) hc (g3 i _ _ (by simp [hi]) hv)
theorem aj.cox {n s:Nat} {tm:List (Nat×AV)} {hp:Heap} {T:St→Prop} {av rz:AV} (hs:lk tm s=some av) (c:Fi hp av rz) (k:aj ⟨n,(s,rz) :: tm,hp⟩ T):aj ⟨n,tm,hp⟩ T:=by
 refine aj.step (Hp:=⟨n,(s,rz) :: tm,hp⟩) (fun w S a r=>⟨_,S,rfl,⟨r.size,r.defers,fun t av h=>?_,r.hp⟩,lD.refl _ _ _⟩) k
 simp only [lk] at h
 split at h
 ·rename_i hb
  obtain rfl:s=t:=by simpa using hb
  obtain rfl:=Option.some.inj h
  obtain ⟨v,h1,h2⟩:=r.tm s _ hs
  exact ⟨v,h1,c.at r.hp h2⟩
 ·exact r.tm t av h
def pX {R:Type} (n:Nat) (len:R→Nat) (x:Option R):Option R:=x.bind fun r=>if len r=n then some r else none
theorem rU {R:Type} {n:Nat} {len:R→Nat} {x:Option R} {r:R} (h:pX n len x=some r):x=some r:=by
 unfold pX at h
 cases x with
 | none=>cases h
 | some y=>
   simp only [Option.bind_some] at h
   split at h
   ·exact h
   ·cases h
theorem kX {R:Type} {n:Nat} {len:R→Nat} {x:Option R} {r:R} (h:pX n len x=some r):len r=n:=by
 unfold pX at h
 cases x with
 | none=>cases h
 | some y=>
   simp only [Option.bind_some] at h
   split at h
   ·rename_i hh;obtain rfl:=Option.some.inj h;exact hh
   ·cases h
def mkS {α:Type} (z:α) (l c:Int):Option (List α):=if 0≤l∧l≤c∧c≤1000000000 then some (List.replicate l.toNat z) else none
theorem Fj {sz:Nat} {x:AV} (h:x.cells.length=sz):∀ (k i:Nat),i < k * sz→(flat (List.replicate k x))[i]? =x.cells[i % sz]?
 | 0,i,hi=>by simp at hi
 | k+1,i,hi=>by
   rw [List.replicate_succ,show flat (x :: List.replicate k x)=x.cells++flat (List.replicate k x) from rfl]
   by_cases lV:i < sz
   ·rw [List.getElem?_append_left (by omega),Nat.mod_eq_of_lt lV]
   ·rw [List.getElem?_append_right (by omega),h,Fj h k (i - sz) (by rw [Nat.add_mul] at hi;omega)]
    rw [Nat.mod_eq_sub_mod (a:=i) (by omega)]
section rules
variable {P:Program} {all:Array Oper} {rest:List Oper} {n:Nat} {tm:List (Nat×AV)} {hp:Heap} {Q:St→Prop} {d:Nat} {ty:TypeId} {pos:String} {af:Array Edge}
end rules
end Go.Eng
set_option linter.unusedSimpArgs false
namespace Go.Eng
open Go Go.Sort Go.Proofs
variable [bD]
structure Rg (P:Program) (f:FuncId) (k:Nat):Prop where
 some_:∀ (enc:Nat→List Value) (_:∀ x,(enc x).length=k) (_:∀ x,∀ v∈enc x,v.oneCell'=true) (cf:Nat→Nat→Int) (_:SWO (ltOf cf)) (g:Nat) (cb:Array Value) (bX off cap:Nat) (d:Array Nat) (w:World)
  (_:∀ args w,(callFunc g args).run P w=.ok (.enter g args) w) (_:CmpLays P g cb enc k cf bX off d.size w) (_:HoldsK enc k w bX off d) (_:bX < w.heap.size) (_:d.size < 4611686018427387904),
  Calls P f #[.slice (some ⟨bX,off,none⟩) d.size cap,.func (.func g) #[] cb] w fun e w'=>
   e=.returned (.tuple #[])∧∃ n os,w'=sortWorldK enc k w bX off n (pdq (ltOf cf) d 0 d.size (Lib.bitLen d.size) true true) os
 none_:∀ (p:Option Addr) (cap:Nat) (fv:Value) (w:World),Calls P f #[.slice p 0 cap,fv] w fun e w'=>e=.returned (.tuple #[])∧w'=w
def AA {α:Type} (x:α) (r:List α) (i:Nat):α:=(x :: r).getD i x
def Ai {α:Type} (f:α→α→Option Int) (x:α) (r:List α) (i j:Nat):Int:=(f (AA x r i) (AA x r j)).getD 0
noncomputable def Ku {α:Type} (f:α→α→Option Int):List α→Option (List α)
 | []=>some []
 | x :: r=>@ite _ (r.length+1 < 4611686018427387904∧(∀ a∈x :: r,∀ b∈x :: r,∃ u,f a b=some u)∧SWO (ltOf (Ai f x r))) (Classical.propDecidable _)
     (some ((pdq (ltOf (Ai f x r)) (Array.range (r.length+1)) 0 (r.length+1) (Lib.bitLen (r.length+1)) true true).toList.map (AA x r))) none
theorem Fk {α:Type} (f:α→α→Option Int) (x:α) (r:List α):Ku f (x :: r)=@ite _ (r.length+1 < 4611686018427387904∧(∀ a∈x :: r,∀ b∈x :: r,∃ u,f a b=some u)∧SWO (ltOf (Ai f x r))) (Classical.propDecidable _)
 (some ((pdq (ltOf (Ai f x r)) (Array.range (r.length+1)) 0 (r.length+1) (Lib.bitLen (r.length+1)) true true).toList.map (AA x r))) none:=rfl
theorem lW {α:Type} (x:α) (r:List α) (i:Nat):AA x r i∈x :: r:=by
 unfold AA
 rw [List.getD_eq_getElem?_getD]
 rcases h:(x :: r)[i]? with _ | y
 ·simp
 ·exact List.mem_of_getElem? h
theorem A8 (enc:Nat→List Value) (k:Nat) (w:World) (bX off m:Nat) (dk:Array Nat) (os:Array Obj) {n:Nat} (hn:n < w.heap.size) (uc:n≠bX):(sortWorldK enc k w bX off m dk os).heap[n]? =w.heap[n]?:=by
 unfold sortWorldK putRowK putRow
 rw [heap_grow_old _ _ (by simpa [mapBlock] using hn)]
 simp only [mapBlock,heap_ahead,Array.getElem?_modify]
 rw [if_neg (fun h=>uc h.symm)]
theorem Fl (enc:Nat→List Value) (k:Nat) (w:World) (bX off m:Nat) (dk:Array Nat) (os:Array Obj):w.heap.size≤(sortWorldK enc k w bX off m dk os).heap.size:=by
 unfold sortWorldK putRowK
 simp
theorem O0 (enc:Nat→List Value) (k:Nat) (w:World) (bX m:Nat) (dk:Array Nat) (os:Array Obj) {vs:Array Value} {E:TypeId} (hb:w.heap[bX]? =some (.cells vs E (0,0))):(sortWorldK enc k w bX 0 m dk os).heap[bX]? =some (.cells (putCells id 0 (flatK enc k dk) vs) E (0,0)):=by
 have lV:bX < w.heap.size:=by
  rcases Nat.lt_or_ge bX w.heap.size with h | h
  ·exact h
  ·simp [Array.getElem?_eq_none h] at hb
 unfold sortWorldK putRowK putRow
 rw [heap_grow_old _ _ (by simpa [mapBlock] using lV)]
 simp only [mapBlock,heap_ahead,Array.getElem?_modify]
 rw [if_pos trivial,hb]
 rfl
theorem Ext.grown {w w':World} (hd:bD.dr) (e:Ext w w'):∃ q os,w'=grow (w.drewN q) os:=by
 refine ⟨w'.drawn - w.drawn,w'.heap.extract w.heap.size w'.heap.size,?_⟩
 obtain ⟨h',t',d',o',am9⟩:=w'
 have e1:=e.os;have e2:=e.tape;have e3:=e.output;have e4:=e.drawn hd;have e5:=e.size;have e6:=e.same
 simp only at e1 e2 e3 e4 e5 e6
 subst e1 e2 e3
 unfold grow World.drewN
 simp only [World.mk.injEq,and_true,true_and]
 refine ⟨?_,by omega⟩
 apply Array.ext_getElem?
 intro i
 by_cases hi:i < w.heap.size
 ·rw [e6 i hi,Array.getElem?_append_left hi]
 ·rw [Array.getElem?_append_right (by omega),Array.getElem?_extract]
  by_cases h2:i < h'.size
  ·rw [if_pos (by omega)]
   congr 1;omega
  ·rw [if_neg (by omega),Array.getElem?_eq_none (by omega)]
theorem Fm {P:Program} {T:Type} {g:T→AV} {f:FuncId} {k:Nat} (K:Rg P f k) (V5:Nat.blt 0 k=true) {gf:FuncId} [bh P gf] {C:List AV} {fn:T→T→Option Int} (hfn:∀ {x y:T} {u:Int},fn x y=some u→@Pu mJ P gf (g x :: g y :: C) (I u))
 (acU:∀ x,g x=.agg (g x).cells) {Xs Ys:List T} {b:Bk} (h:Ku fn Xs=some Ys):aI P f [.sl k b 0 Xs.length,.func (.func gf) C] [(b,.arr k (Xs.map g))] (T0 [(b,.arr k (Ys.map g))] (.pT [])):=by
 have V5:0 < k:=Nat.lt_of_lt_of_le (Nat.lt_of_succ_le (Nat.le_of_ble_eq_true V5)) (Nat.le_refl _)
 intro w S vs r hl ha
 obtain ⟨v0,v1,rfl⟩:∃ v0 v1,vs=#[v0,v1]:=by
  match vs,hl with
  | ⟨[v0,v1]⟩,_=>exact ⟨v0,v1,rfl⟩
 have a0:=ha 0 _ v0 rfl rfl
 have a1:=ha 1 _ v1 rfl rfl
 obtain ⟨oa,cap,rfl,e2⟩:=a0.wJ
 obtain ⟨cv,rfl,Hs,Um⟩:=a1.BG
 match Xs,h with
 | [],h=>
   obtain rfl:=Option.some.inj h
   refine (K.none_ oa cap _ w).mono ?_
   rintro e w' ⟨rfl,rfl⟩
   exact ⟨_,.pT [],_,S,rfl,⟨rfl,rfl⟩,.pT [] #[] rfl (fun i c v hc=>by simp at hc),r,lD.refl _ _ _⟩
 | x :: xr,h=>
   rw [Fk] at h
   by_cases hc:(xr.length+1 < 4611686018427387904∧(∀ a∈x :: xr,∀ b∈x :: xr,∃ u,fn a b=some u)∧SWO (ltOf (Ai fn x xr)))
   ·rw [if_pos hc] at h
    obtain rfl:=Option.some.inj h
    obtain ⟨hlen,acV,hO⟩:=hc
    obtain ⟨h0,h1,h2⟩:=r.holds _ (List.mem_singleton.2 rfl)
    simp only [List.length_map,List.length_cons] at h1
    rcases h2 with ⟨_,QC⟩ | ⟨m,row,E,hb,Fc,j9,vX⟩
    ·have aa8:b.cap=0:=QC
     omega
    rcases e2 with ⟨hn,_,_,_,_⟩ | ⟨m',EU,rfl,hle,acW⟩ | ⟨m',ad,_,_,VU,_⟩
    ·rw [hn] at hb;cases hb
    ·obtain rfl:m'=m:=by rw [EU] at hb;exact Option.some.inj hb
     have W1:m' < w.heap.size:=by
      rcases Nat.lt_or_ge m' w.heap.size with h | h
      ·exact h
      ·simp [Array.getElem?_eq_none h] at Fc
     have nS:¬ S m':=fun hs=>by have:=(r.sep _ (List.mem_singleton.2 rfl) m' (lS hb)).1 hs;exact this
     let ix:Nat→Nat:=fun i=>if i < xr.length+1 then i else 0
     have Tq:∀ i,ix i < xr.length+1:=fun i=>by simp only [ix];split<;>omega
     have acX:∀ i,(x :: xr)[ix i]? =some (AA x xr i):=by
      intro i
      simp only [ix,AA,List.getD_eq_getElem?_getD]
      split
      ·rename_i hi
       rw [List.getElem?_eq_getElem (by simpa using hi)];simp
      ·rename_i hi
       rw [List.getElem?_eq_none (l:=x :: xr) (i:=i) (by simp;omega)];simp
     have Z3:(xr.length+1) * k≤row.size:=by rw [j9];exact Nat.mul_le_mul_right k h1
     let enc:Nat→List Value:=fun i=>(row.toList.drop (ix i * k)).take k
     have Un:∀ i,(enc i).length=k:=by
      intro i
      have:ix i * k+k≤row.size:=by
       have:=Nat.mul_le_mul_right k (show ix i+1≤xr.length+1 from Tq i)
       rw [Nat.add_mul,Nat.one_mul] at this
       omega
      simp only [enc,List.length_take,List.length_drop,Array.length_toList];omega
     have aa9:∀ i j,j < k→(enc i)[j]? =row[ix i * k+j]?:=by
      intro i j hj
      simp only [enc,List.getElem?_take,if_pos hj,List.getElem?_drop,Array.getElem?_toList]
     have Kr:∀ i j,j < k→(flat ((x :: xr).map g))[ix i * k+j]? =(g (AA x xr i)).cells[j]?:=by
      intro i j hj
      exact vm h0 (by rw [List.getElem?_map,acX i];rfl) j hj
     have Hs:∀ i,(g (AA x xr i)).cells.length=k:=fun i=>(h0 _ (List.mem_map.2 ⟨_,lW x xr i,rfl⟩)).1
     have EX:∀ i,∀ c∈(g (AA x xr i)).cells,c.one=true:=fun i=>(h0 _ (List.mem_map.2 ⟨_,lW x xr i,rfl⟩)).2
     have W2:∀ i,nK w S (g (AA x xr i)).cells (enc i).toArray:=by
      intro i j c v hc hv
      have hj:j < k:=by rw [← Hs i];exact (List.getElem?_eq_some_iff.1 hc).1
      refine vX (ix i * k+j) c v (by rw [Kr i j hj];exact hc) ?_
      rw [← aa9 i j hj]
      simpa using hv
     have acY:∀ i,∀ v∈enc i,v.oneCell'=true:=by
      intro i v hv
      obtain ⟨j,hj,rfl⟩:=List.getElem_of_mem hv
      have hjk:j < k:=by rw [Un i] at hj;exact hj
      have YI:j < (g (AA x xr i)).cells.length:=by rw [Hs i];exact hjk
      exact (W2 i j (g (AA x xr i)).cells[j] (enc i)[j] (by simp [YI]) (by simp [hj])).Qo (EX i _ (List.getElem_mem YI))
     have yX:∀ (d:Array Nat) (t:Nat),t < d.size * k→(flatK enc k d)[t]! =(enc d[t / k]!)[t % k]!:=fun d t ht=>get_flatK enc k d t ht
     have aaA:HoldsK enc k w m' 0 (Array.range (xr.length+1)):=by
      intro j hj
      rw [size_flatK,Array.size_range] at hj
      have hdiv:j / k < xr.length+1:=(Nat.div_lt_iff_lt_mul V5).2 hj
      have Uo:j % k < k:=Nat.mod_lt _ V5
      have Up:j < row.size:=by omega
      have e1:(flatK enc k (Array.range (xr.length+1)))[j]! =row[j]:=by
       rw [yX _ _ (by simpa using hj)]
       have:(Array.range (xr.length+1))[j / k]! =j / k:=by
        rw [getElem!_pos _ _ (by simpa using hdiv)];simp
       rw [this]
       have hv:=aa9 (j / k) (j % k) Uo
       have:ix (j / k)=j / k:=by simp only [ix];rw [if_pos hdiv]
       rw [this,Nat.div_add_mod'] at hv
       rw [Array.getElem?_eq_getElem Up] at hv
       rw [List.getElem!_eq_getElem?_getD,hv];rfl
      constructor
      ·simp only [World.cell?,Fc,id,e1,Nat.zero_add,Option.isSome_none,Bool.false_eq_true,if_false]
       rw [Array.getElem?_eq_getElem Up]
      ·simp [World.frozen?,Fc]
     have W3:CmpLays P gf cv enc k (Ai fn x xr) m' 0 (Array.range (xr.length+1)).size w:=by
      intro mm os dk hdk i j
      obtain ⟨u,hu⟩:=acV _ (lW x xr i) _ (lW x xr j)
      have hW:∀ n,S n→S n∧(sortWorldK enc k w m' 0 mm dk os).heap[n]? =w.heap[n]?:=fun n hs=>
       ⟨hs,A8 enc k w m' 0 mm dk os (r.slt n hs) (fun e=>nS (e▸hs))⟩
      have V6:nK (sortWorldK enc k w m' 0 mm dk os) S (g (AA x xr i) :: g (AA x xr j) :: C) (#[.agg (enc i).toArray,.agg (enc j).toArray]++cv):=by
       intro q c v hc hv
       have ag:∀ i,At (sortWorldK enc k w m' 0 mm dk os) S (g (AA x xr i)) (.agg (enc i).toArray):=fun i=>by
        rw [acU (AA x xr i)]
        exact .agg _ _ (by rw [Hs i];simp [Un i]) (fun a c v hc hv=>((W2 i) a c v hc hv).mono hW)
       match q with
       | 0=>
         rw [Array.getElem?_append_left (by simp)] at hv
         simp at hc hv;subst hc;subst hv;exact ag i
       | 1=>
         rw [Array.getElem?_append_left (by simp)] at hv
         simp at hc hv;subst hc;subst hv;exact ag j
       | q+2=>
         simp only [List.getElem?_cons_succ] at hc
         rw [Array.getElem?_append_right (by simp)] at hv
         simp only [List.size_toArray,List.length_cons,List.length_nil,Nat.add_sub_cancel] at hv
         exact (Um q c v hc (by simpa using hv)).mono hW
      refine (hfn hu _ S _ (@vp mJ _ _ (fun n hn=>Nat.lt_of_lt_of_le (r.slt n hn) (Fl _ _ _ _ _ _ _ _)) (fun g o ho=>⟨(r.hJ g o ho).1,EO (hW g (r.hJ g o ho).1).2 (r.hJ g o ho).2⟩)) (by simp [Hs,‹C.length=cv.size›];omega) V6).mono ?_
      rintro e w' ⟨v,rr,h',S',rfl,hq,h3,h4,h5⟩
      obtain rfl:=hq
      rw [h3.eU]
      refine ⟨?_,@Ext.grown mJ _ _ trivial (@lD.Hz mJ _ _ _ _ _ h5)⟩
      unfold Ai
      rw [hu];rfl
     have hsd:(Array.range (xr.length+1)).size=xr.length+1:=Array.size_range
     have V7:=K.some_ enc Un acY (Ai fn x xr) hO gf cv m' 0 cap (Array.range (xr.length+1)) w (fun args w=>uX gf args w) W3 aaA W1 (by rw [hsd];exact hlen)
     rw [hsd] at V7
     simp only [Nat.zero_mul]
     refine V7.mono ?_
     rintro e w' ⟨rfl,q,os,rfl⟩
     have hps:=pdq_sorts (ltOf (Ai fn x xr)) hO (Array.range (xr.length+1)) 0 (xr.length+1) (Lib.bitLen (xr.length+1)) true true (Nat.zero_le _) (by rw [hsd];exact Nat.le_refl _) (Or.inl rfl)
     generalize DC:pdq (ltOf (Ai fn x xr)) (Array.range (xr.length+1)) 0 (xr.length+1) (Lib.bitLen (xr.length+1)) true true=d' at hps ⊢
     have Uq:d'.size=xr.length+1:=by rw [hps.1.1,hsd]
     have hW:∀ n,S n→S n∧(sortWorldK enc k w m' 0 q d' os).heap[n]? =w.heap[n]?:=fun n hs=>
      ⟨hs,A8 enc k w m' 0 q d' os (r.slt n hs) (fun e=>nS (e▸hs))⟩
     have hEl:∀ y∈(d'.toList.map (AA x xr)).map g,El k y:=by
      intro y hy
      simp only [List.mem_map] at hy
      obtain ⟨z,⟨i,_,rfl⟩,rfl⟩:=hy
      exact h0 _ (List.mem_map.2 ⟨_,lW x xr i,rfl⟩)
     have hh:Go.Eng.Holds (sortWorldK enc k w m' 0 q d' os) S b (.arr k ((d'.toList.map (AA x xr)).map g)):=by
      refine ⟨hEl,by simp [Uq];omega,.inr ⟨m',_,E,hb,O0 enc k w m' q d' os Fc,by simp [putCells,j9],?_⟩⟩
      intro j c v hc hv
      have NA:j < (xr.length+1) * k:=by
       have:=(List.getElem?_eq_some_iff.1 hc).1
       rw [dt hEl] at this
       simpa [Uq] using this
      have hdiv:j / k < xr.length+1:=(Nat.div_lt_iff_lt_mul V5).2 NA
      have Uo:j % k < k:=Nat.mod_lt _ V5
      have Up:j < row.size:=by omega
      have hdj:(d'.toList.map (AA x xr))[j / k]? =some (AA x xr d'[j / k]!):=by
       rw [List.getElem?_map,Array.getElem?_toList,Array.getElem?_eq_getElem (by omega),getElem!_pos d' (j / k) (by omega)];rfl
      have TQ:(g (AA x xr d'[j / k]!)).cells[j % k]? =some c:=by
       rw [← vm (sz:=k) hEl (i:=j / k) (x:=g (AA x xr d'[j / k]!)) (by rw [List.getElem?_map,hdj];rfl) (j % k) Uo,Nat.div_add_mod']
       exact hc
      have YJ:(enc d'[j / k]!)[j % k]? =some v:=by
       simp only [putCells,Array.getElem?_mapIdx,Array.getElem?_eq_getElem Up,Option.map_some,Option.some.injEq] at hv
       rw [if_pos ⟨Nat.zero_le _,by rw [size_flatK,Uq];omega⟩,Nat.sub_zero,yX d' j (by rw [Uq];exact NA)] at hv
       have lV:j % k < (enc d'[j / k]!).length:=by rw [Un];exact Uo
       rw [List.getElem?_eq_getElem lV,← hv]
       simp only [id,getElem!_pos (enc d'[j / k]!) (j % k) lV]
      exact (W2 _ _ _ _ TQ (by simpa using YJ)).mono hW
     have Rh:=Fl enc k w m' 0 q d' os
     refine ⟨_,.pT [],_,S,rfl,⟨rfl,rfl⟩,.pT [] #[] rfl (fun i c v hc=>by simp at hc),⟨r.nodup,fun e he=>by rw [List.mem_singleton] at he;subst he;exact hh,fun e he n hn=>?_,fun n hn=>Nat.lt_of_lt_of_le (r.slt n hn) Rh,fun g o ho=>⟨(r.hJ g o ho).1,EO (hW g (r.hJ g o ho).1).2 (r.hJ g o ho).2⟩⟩,?_⟩
     ·rw [List.mem_singleton] at he;subst he
      replace hn:=(yM rfl).1 hn
      rw [hb] at hn
      obtain rfl:=Option.some.inj hn
      exact ⟨fun hs=>(nS hs).elim,fun hf=>hf.elim⟩
     ·refine ⟨rfl,rfl,rfl,Rh,hW,fun n hn hnh=>⟨A8 enc k w m' 0 q d' os hn (fun e=>hnh ⟨_,List.mem_singleton.2 rfl,by rw [e];exact lS hb⟩),id⟩,?_,?_⟩
      ·rintro n ⟨e,he,yl⟩
       rw [List.mem_singleton] at he;subst he
       exact .inl ⟨_,List.mem_singleton.2 rfl,yl⟩
      ·intro _
       show w.drawn≤(sortWorldK enc k w m' 0 q d' os).drawn
       show w.drawn≤w.drawn+q
       omega
    ·simp at VU
   ·rw [if_neg hc] at h;cases h
end Go.Eng
namespace Go.Eng
open Go
variable [bD]
def Aj {α:Type} (xs:List α) (L:Int) (n:Nat) (j:Int):Option α:=if 0≤L∧0≤j∧j < n then idx xs (L+j) else none
theorem zN {α:Type} {xs:List α} {L:Int} {n:Nat} {j:Int} {x:α} (h:Aj xs L n j=some x):(0≤L∧0≤j∧j < n)∧idx xs (L+j)=some x:=by
 unfold Aj at h
 split at h
 ·rename_i hc;exact ⟨hc,h⟩
 ·cases h
def Ri {α:Type} (xs:List α) (L:Int) (n:Nat) (z:α):List α:=xs.take L.toNat++List.replicate n z++xs.drop (L.toNat+n)
theorem NN {α:Type} {xs v:List α} {L H:Int} {z:α} (h:BN xs L H=some v):(Ri xs L v.length z).length=xs.length:=by
 obtain ⟨⟨h0,h1,h2⟩,_⟩:=ug h
 have:=(wu h).1
 unfold Ri
 simp only [List.length_append,List.length_take,List.length_replicate,List.length_drop]
 omega
section rules
variable {P:Program} {all:Array Oper} {rest:List Oper} {n:Nat} {tm:List (Nat×AV)} {hp:Heap} {Q:St→Prop} {d:Nat} {ty:TypeId} {pos:String} {af:Array Edge}
theorem y5 {α:Type} {Xs:List α} {el:α} {t e:TypeId} {i:TypeInfo} {x y:Operand} {k:IntKind} {j L:Int} {sz m:Nat} {b:Bk} [aC P t (.slice e)] [aU P e i] (hx:dx tm x=some (.sl sz b L.toNat m)) (j9:Nat.beq i.size sz=true) (hy:dx tm y=some (.int k j))
 (hv:Aj Xs L m j=some el):QV P ⟨some d,.indexAddr t x y,ty,pos,af,none⟩ ⟨n,tm,hp⟩ (.vl sz b (L+j).toNat 0):=by
 obtain ⟨⟨h0,h1,h2⟩,h3⟩:=zN hv
 have h:=EY (P:=P) (d:=d) (ty:=ty) (pos:=pos) (af:=af) (n:=n) (tm:=tm) (hp:=hp) (t:=t) (e:=e) hx j9 hy ⟨h1,h2⟩
 rw [show (L+j).toNat=L.toNat+j.toNat by omega]
 exact h
theorem O1 {x:Operand} {t e:TypeId} {sz off len:Nat} {b:Bk} [aC P t (.slice e)] (hx:dx tm x=some (.sl sz b off len)):QV P ⟨some d,.call {callee:=.builtin .len,args:=#[x],argTypes:=#[t]},ty,pos,af,none⟩ ⟨n,tm,hp⟩ (.int .i64 (len:Nat)):=JY hx
theorem HI {x:Operand} {t e:TypeId} [aC P t (.slice e)] (hx:dx tm x=some .nil):QV P ⟨some d,.call {callee:=.builtin .cap,args:=#[x],argTypes:=#[t]},ty,pos,af,none⟩ ⟨n,tm,hp⟩ (.int .i64 0):=
 (fun w S a r=>⟨.int .i64 0,fun w1 _=>by
  simp [execOp,(bj (σ:=⟨n,tm,hp⟩) r hx).rB,resolve,invoke,builtin,Builtin.cap_,run_underlying (aC.h (P:=P) (t:=t)),goInt],.int _ _⟩)
theorem Kv {α:Type} {V:List α} {t e:TypeId} {i:TypeInfo} {x:Operand} {lo hi:Option Operand} {l h:Option Int} {L H:Int} [aC P t (.slice e)] [aU P e i] (hx:dx tm x=some .nil) (hl:NF tm lo l) (hh:NF tm hi h) (eL:pV l=L) (eH:oJ 0 h=H) (hv:BN ([]:List α) L H=some V):
 QV P ⟨some d,.slice t x lo hi none,ty,pos,af,none⟩ ⟨n,tm,hp⟩ .nil:=by
 obtain ⟨⟨h0,h1,h2⟩,_⟩:=ug hv
 simp only [List.length_nil] at h2
 subst eL;subst eH
 intro w S a r
 have e1:=(bj (σ:=⟨n,tm,hp⟩) r hx).rB
 refine ⟨.slice none 0 0,fun w1 _=>?_,.nil⟩
 have hb:=A3 (P:=P) (σ:=⟨n,tm,hp⟩) r hl hh true 0 0 h0 h1 (by simpa using h2) (Nat.le_refl _) w1
 have VU:(pV l).toNat=0:=by omega
 have VV:(oJ 0 h).toNat=0:=by omega
 rw [VU,VV] at hb
 simp [execOp,Instr.sliceAt,run_underlying (aC.h (P:=P) (t:=t)),Instr.slice,e1,hb,sizeOf,typeInfo,aU.h (P:=P) (t:=e)]
theorem GU {z:Array Value} {N sz:Nat} (Hx:z.size=sz) (yD:0 < sz) {j:Nat} {v:Value} (hv:(Builtin.zeroCells z N)[j]? =some v):z[j % sz]? =some v:=by
 unfold Builtin.zeroCells at hv
 simp only [Array.getElem?_map,Option.map_eq_some_iff] at hv
 obtain ⟨q,hq,rfl⟩:=hv
 have:q=j:=by
  rw [Array.getElem?_eq_some_iff] at hq
  obtain ⟨k1,k2⟩:=hq
  simpa using k2.symm
 subst this
 rw [Hx]
 have lV:q % sz < z.size:=by rw [Hx];exact Nat.mod_lt _ yD
 simp [lV]
theorem O2 {α:Type} {g:α→AV} {Z:α} {Zs:List α} {t u e:TypeId} {i:TypeInfo} {z:Value} {x y:Operand} {l:Int} {sz:Nat} {ki:IntKind} [aC P t (.slice e)] [aC P u (.int ki)] [aU P e i] (hx:dx tm x=some .nil) (hy:dx tm y=some (.int .i64 l)) (hz:i.zero=some z) (Mq:EV z=g Z)
 (j9:i.size=sz) (yQ:YB sz (g Z)=true) (yD:Nat.blt 0 sz=true) (hn:Nat.blt d n=true) (T7:Nat.ble i.bytes 65536=true) (hv:mkS Z l l=some Zs)
 (kk:∀ b':Bk,ae P all rest ⟨n,(d,.sl sz b' 0 Zs.length) :: tm,(b',.arr sz (Zs.map g)) :: hp⟩ Q):ae P all (⟨some d,.call {callee:=.builtin .append,args:=#[x,y],argTypes:=#[t,u]},ty,pos,af,none⟩ :: rest) ⟨n,tm,hp⟩ Q:=by
 subst j9
 have yD:0 < i.size:=Nat.lt_of_lt_of_le (Nat.lt_of_succ_le (Nat.le_of_ble_eq_true yD)) (Nat.le_refl _)
 have T7:=Nat.le_of_ble_eq_true T7
 have hE:=EZ yQ
 unfold mkS at hv
 split at hv
 ·rename_i hc
  obtain rfl:=Option.some.inj hv
  obtain ⟨c0,_,c2⟩:=hc
  refine ae.P2 rfl fun w S a r=>?_
  have e1:=(bj (σ:=⟨n,tm,hp⟩) r hx).rB
  have e2:=(bj (σ:=⟨n,tm,hp⟩) r hy).eU
  have w1:IntKind.i64.wrap l=l:=Hq ⟨by omega,by omega⟩
  have hmul:l * (i.bytes:Int)≤1000000000 * 65536:=Int.mul_le_mul c2 (by omega) (by omega) (by omega)
  have f1:¬ l < 0:=by omega
  have f2:¬ (281474976710656 < l * (i.bytes:Int)):=by omega
  have acZ:(List.replicate l.toNat Z).map g=List.replicate l.toNat (g Z):=by simp
  by_cases h0:l=0
  ·subst h0
   obtain ⟨a1,a2,a3⟩:=rC (b:=⟨none,0⟩) (o:=.arr i.size []) r.hp (Ext.refl w) id ⟨by simp,by simp,.inl ⟨rfl,rfl⟩⟩ (.inl rfl)
   refine ⟨.slice none 0 0,w,S,_,?_,(r.heap a3 a1).put hn (.CP _ _ rfl),a2,kk ⟨none,0⟩⟩
   simp [execOp,resolve,invoke,builtin,e1,e2,Builtin.append_,run_underlying (aC.h (P:=P) (t:=t)),run_underlying (aC.h (P:=P) (t:=u)),sizeOf,typeInfo,aU.h (P:=P) (t:=e),asInt,asIntOf,w1]
  ·obtain ⟨N,hN⟩:∃ N:Nat,N=l.toNat:=⟨_,rfl⟩
   have hN0:0 < N:=by omega
   have hlN:l=(N:Int):=by omega
   obtain ⟨zl,zat⟩:=rD w S z (by rw [Mq];exact hE.2)
   rw [Mq] at zl zat
   have Hx:z.cells.size=i.size:=by rw [← zl];exact hE.1
   have h48:N * i.bytes≤1000000000 * 65536:=Nat.mul_le_mul (by omega) T7
   have ad0:¬ (281474976710656 < Builtin.nextslicecap N 0 * i.bytes):=by rw [nextslicecap_zero hN0];omega
   have ad1:¬ (9223372036854775807 < (N:Int)):=by omega
   have uc:N≠0:=by omega
   have ad2:¬ (N=0∨i.size=0):=by omega
   have VS:=grownCap_ge w N 0 e
   obtain ⟨vs,hvs⟩:∃ vs:Array Value,vs=Builtin.zeroCells z.cells N++Builtin.zeroCells z.cells (grownCap w N 0 e - N):=⟨_,rfl⟩
   have ex:Ext w (w.drew.alloc (.cells vs e)):=(Ext.Nv w _ (Nat.le_succ _)).trans (Ext.alloc w.drew _)
   have W4:∀ y∈List.replicate N (g Z),El i.size y:=fun y hy=>by rw [List.eq_of_mem_replicate hy];exact hE
   have Qv:(Builtin.zeroCells z.cells N).size=N * i.size:=by rw [size_zeroCells,Hx]
   have hh:Holds (w.drew.alloc (.cells vs e)) S ⟨some w.heap.size,grownCap w N 0 e⟩ (.arr i.size ((List.replicate l.toNat Z).map g)):=by
    rw [acZ,← hN]
    refine ⟨W4,by simpa using VS,.inr ⟨w.heap.size,vs,e,rfl,?_,?_,fun j c v hc hv=>?_⟩⟩
    ·show (w.heap.push _)[w.heap.size]? =_
     simp
    ·rw [hvs,Array.size_append,size_zeroCells,size_zeroCells,Hx,← Nat.add_mul]
     show (N+(grownCap w N 0 e - N)) * i.size=grownCap w N 0 e * i.size
     rw [show N+(grownCap w N 0 e - N)=grownCap w N 0 e by omega]
    ·have hj:j < N * i.size:=by
      have:=(List.getElem?_eq_some_iff.1 hc).1
      rw [dt W4] at this;simpa using this
     rw [Fj hE.1 N j hj] at hc
     rw [hvs,Array.getElem?_append_left (by rw [Qv];exact hj)] at hv
     exact (zat _ _ _ hc (GU Hx yD hv)).mono fun m hm=>⟨hm,ex.same m (r.hp.slt m hm)⟩
   obtain ⟨k1,k2,k3⟩:=rC r.hp ex id hh (.inr ⟨_,rfl,Nat.le_refl _⟩)
   refine ⟨.slice (some ⟨w.heap.size,0,none⟩) N (grownCap w N 0 e),w.drew.alloc (.cells vs e),S,_,?_,(r.heap k3 k1).put hn ?_,k2,kk ⟨some w.heap.size,grownCap w N 0 e⟩⟩
   ·have f2':¬ (281474976710656 < (N:Int) * (i.bytes:Int)):=by rw [← hlN];exact f2
    have f1':¬ ((N:Int) < 0):=by omega
    have w1':IntKind.i64.wrap (N:Int)=N:=by rw [← hlN];exact w1
    rw [hvs]
    simp [execOp,resolve,invoke,builtin,e1,e2,Builtin.append_,run_underlying (aC.h (P:=P) (t:=t)),run_underlying (aC.h (P:=P) (t:=u)),sizeOf,typeInfo,aU.h (P:=P) (t:=e),asInt,asIntOf,hlN,w1',f1',f2',uc,ad2,ad1,ad0,Question.forced,run_firstCells_none,zeroValue,hz,newRow,grownCap]
    intro hzero
    exact absurd (Nat.mul_eq_zero.1 hzero) (by omega)
   ·have:=At.sl (w:=w.drew.alloc (.cells vs e)) (S:=S) i.size ⟨some w.heap.size,grownCap w N 0 e⟩ 0 N w.heap.size (grownCap w N 0 e) rfl VS (by simp)
    simp only [List.length_replicate,← hN]
    simpa using this
 ·cases hv
theorem Ur {t e:TypeId} {i:TypeInfo} {z:Value} {x:Operand} {b:Bk} {L N sz:Nat} {xs:List AV} {zx:AV} {fj:Heap} [aC P t (.slice e)] [aU P e i] (hx:dx tm x=some (.sl sz b L N)) (hz:i.zero=some z) (Mq:EV z=zx) (j9:Nat.beq i.size sz=true) (yQ:YB sz zx=true) (yD:Nat.blt 0 sz=true) (hL:L+N≤xs.length)
 (u:sL hp b (.arr sz xs) b (.arr sz (xs.take L++List.replicate N zx++xs.drop (L+N))) fj) (kk:ae P all rest ⟨n,tm,fj⟩ Q):
 ae P all (⟨none,.call {callee:=.builtin .clear,args:=#[x],argTypes:=#[t]},ty,pos,af,none⟩ :: rest) ⟨n,tm,hp⟩ Q:=by
 have j9:=Nat.eq_of_beq_eq_true j9
 have yD:0 < sz:=Nat.lt_of_lt_of_le (Nat.lt_of_succ_le (Nat.le_of_ble_eq_true yD)) (Nat.le_refl _)
 have hE:=EZ yQ
 refine ae.P2 rfl fun w S a r=>?_
 obtain ⟨oa,cap,e1,e2⟩:=(bj (σ:=⟨n,tm,hp⟩) r hx).wJ
 rcases Nat.eq_zero_or_pos N with h0 | h0
 ·subst h0
  have NO:xs.take L++List.replicate 0 zx++xs.drop (L+0)=xs:=by simp
  rw [NO] at u
  obtain ⟨p,q,hq1,hq2⟩:=u.split
  obtain rfl:fj=hp:=by rw [hq1,hq2]
  refine ⟨.tuple #[],w,S,⟨n,tm,fj⟩,?_,r,lD.refl _ _ _,kk⟩
  cases oa<;>simp [execOp,e1,resolve,invoke,builtin,Builtin.clear_,run_underlying (aC.h (P:=P) (t:=t))]
 ·rcases e2 with ⟨_,_,hl,_,_⟩ | ⟨m,hb,rfl,h1,h2⟩ | ⟨_,_,_,_,hl,_⟩
  ·omega
  ·obtain ⟨g0,g1,⟨g2,_⟩ | ⟨m',vs,E,g2,g3,g4,g5⟩⟩:=ve r.hp (.inl u.Qu)
   ·rw [g2] at hb;cases hb
   obtain rfl:m'=m:=by rw [g2] at hb;exact Option.some.inj hb
   obtain ⟨zl,zat⟩:=rD w S z (by rw [Mq];exact hE.2)
   rw [Mq] at zl zat
   have Hx:z.cells.size=sz:=by rw [← zl];exact hE.1
   have W4:∀ y∈List.replicate N zx,El sz y:=fun y hy=>by rw [List.eq_of_mem_replicate hy];exact hE
   have Qv:(Builtin.zeroCells z.cells N).size=N * sz:=by rw [size_zeroCells,Hx]
   have YC:(flat (List.replicate N zx)).length=(Builtin.zeroCells z.cells N).size:=by rw [dt W4,Qv];simp
   have aaB:nK w S (flat (List.replicate N zx)) (Builtin.zeroCells z.cells N):=by
    intro j c v hc hv
    have hj:j < N * sz:=by
     have:=(List.getElem?_eq_some_iff.1 hc).1
     rw [dt W4] at this;simpa using this
    rw [Fj hE.1 N j hj] at hc
    refine zat (j % sz) c v hc ?_
    unfold Builtin.zeroCells at hv
    simp only [Array.getElem?_map,Option.map_eq_some_iff] at hv
    obtain ⟨q,hq,rfl⟩:=hv
    have:q=j:=by
     rw [Array.getElem?_eq_some_iff] at hq
     obtain ⟨k1,k2⟩:=hq
     simpa using k2.symm
    subst this
    rw [Hx]
    have lV:q % sz < z.cells.size:=by rw [Hx];exact Nat.mod_lt _ yD
    simp [lV]
   have EX:=BJ YC aaB (fun c hc=>by
    unfold flat at hc
    rw [List.mem_flatMap] at hc
    obtain ⟨y,hy,hcy⟩:=hc
    exact (W4 y hy).2 c hcy)
   have Yz:=dt g0
   have hmul:(L+N) * sz≤xs.length * sz:=Nat.mul_le_mul_right _ hL
   have QR:xs.length * sz≤b.cap * sz:=Nat.mul_le_mul_right _ g1
   rw [Nat.add_mul] at hmul
   have Kb:=run_storeCells_at (P:=P) m' (L * sz) E (Builtin.zeroCells z.cells N).toList 0 vs w g3 (by simp [Qv];omega) EX
   simp only [Nat.add_zero] at Kb
   have Kr:flat (xs.take L++List.replicate N zx++xs.drop (L+N))=(flat xs).take (L * sz)++flat (List.replicate N zx)++(flat xs).drop (L * sz+(flat (List.replicate N zx)).length):=by
    rw [wj,wj,CS xs L g0,CR xs (L+N) g0,YC,Qv,Nat.add_mul]
   have QT:=fun (w':World) (ha:nK w' S (flat xs) vs) (hb:nK w' S (flat (List.replicate N zx)) (Builtin.zeroCells z.cells N))=>NG (L * sz) (by rw [Yz,g4];exact QR) ha YC hb (by rw [YC,Qv,Yz];omega)
   have QU:(vs.toList.take (L * sz)++(Builtin.zeroCells z.cells N).toList++vs.toList.drop (L * sz+(Builtin.zeroCells z.cells N).toList.length)).toArray.size=b.cap * sz:=by
    simp [Qv];omega
   generalize (vs.toList.take (L * sz)++(Builtin.zeroCells z.cells N).toList++vs.toList.drop (L * sz+(Builtin.zeroCells z.cells N).toList.length)).toArray=GM at Kb QT QU
   have c:GB w (w.setRow m' GM) b.bX:=⟨⟨rfl,rfl,rfl,by simp,fun k hk uc=>setRow_other w m' k _ (fun e=>uc (by rw [g2,e]))⟩,fun _=>Nat.le_refl _⟩
   have k1:∀ n,S n→S n∧(w.setRow m' GM).heap[n]? =w.heap[n]?:=by
    intro k hk
    refine ⟨hk,setRow_other w m' k _ (fun e=>?_)⟩
    subst e
    exact (r.hp.sep _ u.Qu.mem k (lS g2)).1 hk
   have hh:=xM r.hp u c id id ⟨fun y hy=>?_,by simp;omega,.inr ⟨m',GM,E,g2,setRow_heap w m' vs _ E _ g3,QU,by rw [Kr];exact QT _ (g5.mono k1) (aaB.mono k1)⟩⟩ (.inl rfl)
   ·refine ⟨.tuple #[],w.setRow m' GM,S,⟨n,tm,fj⟩,?_,r.heap hh.2.2 hh.1,hh.2.1,kk⟩
    obtain ⟨N',rfl⟩:∃ k,N=k+1:=⟨N - 1,by omega⟩
    simp [execOp,e1,resolve,invoke,builtin,Builtin.clear_,run_underlying (aC.h (P:=P) (t:=t)),zeroValue,typeInfo,aU.h (P:=P) (t:=e),hz,Kb]
   ·rcases List.mem_append.1 hy with h | h
    ·rcases List.mem_append.1 h with h | h
     ·exact g0 y (List.mem_of_mem_take h)
     ·exact W4 y h
    ·exact g0 y (List.mem_of_mem_drop h)
  ·omega
theorem Us {α:Type} {g:α→AV} {Z:α} {Xs V:List α} {H:Int} {t e:TypeId} {i:TypeInfo} {z:Value} {x:Operand} {b:Bk} {L:Int} {sz:Nat} {fj:Heap} [aC P t (.slice e)] [aU P e i] (hx:dx tm x=some (.sl sz b L.toNat V.length)) (hz:i.zero=some z) (Mq:EV z=g Z) (j9:Nat.beq i.size sz=true) (yQ:YB sz (g Z)=true) (yD:Nat.blt 0 sz=true) (hv:BN Xs L H=some V)
 (u:sL hp b (.arr sz (Xs.map g)) b (.arr sz ((Ri Xs L V.length Z).map g)) fj) (kk:ae P all rest ⟨n,tm,fj⟩ Q):
 ae P all (⟨none,.call {callee:=.builtin .clear,args:=#[x],argTypes:=#[t]},ty,pos,af,none⟩ :: rest) ⟨n,tm,hp⟩ Q:=by
 obtain ⟨⟨h0,h1,h2⟩,_⟩:=ug hv
 have hlen:=(wu hv).1
 refine Ur (xs:=Xs.map g) hx hz Mq j9 yQ yD (by simp;omega) ?_ kk
 have:(Ri Xs L V.length Z).map g=(Xs.map g).take L.toNat++List.replicate V.length (g Z)++(Xs.map g).drop (L.toNat+V.length):=by
  unfold Ri
  simp
 rw [← this]
 exact u
end rules
end Go.Eng
namespace Go.Eng
open Go Go.Sort Go.Proofs
variable [bD]
structure V8 {α:Type} [Inhabited α] (P:Program) (f:FuncId) (enc:α→Value) (Mr:List α→List α):Prop where
 some_:∀ (bX off cap:Nat) (zs:List α) (w:World),Sort.Holds enc w bX off zs.toArray→bX < w.heap.size→zs.length < 4611686018427387904→Calls P f #[.slice (some ⟨bX,off,none⟩) zs.length cap] w fun e w'=>
  e=.returned (.tuple #[])∧∃ n os,w'=grow (putRow enc (Sort.ahead w n) bX off (Mr zs).toArray) os
 none_:∀ (p:Option Addr) (cap:Nat) (w:World),Calls P f #[.slice p 0 cap] w fun e w'=>e=.returned (.tuple #[])∧w'=w
def NP {α:Type} (Mr:List α→List α) (xs:List α):Option (List α):=if xs.length < 4611686018427387904 then some (Mr xs) else none
theorem HJ {α:Type} [Inhabited α] (enc:α→Value) (w:World) (bX off m:Nat) (dk:Array α) (os:Array Obj) {n:Nat} (hn:n < w.heap.size) (uc:n≠bX):(grow (putRow enc (Sort.ahead w m) bX off dk) os).heap[n]? =w.heap[n]?:=by
 unfold putRow
 rw [heap_grow_old _ _ (by simpa [mapBlock] using hn)]
 simp only [mapBlock,heap_ahead,Array.getElem?_modify]
 rw [if_neg (fun h=>uc h.symm)]
theorem Rj {α:Type} [Inhabited α] (enc:α→Value) (w:World) (bX m:Nat) (dk:Array α) (os:Array Obj) {vs:Array Value} {E:TypeId} (hb:w.heap[bX]? =some (.cells vs E (0,0))):(grow (putRow enc (Sort.ahead w m) bX 0 dk) os).heap[bX]? =some (.cells (putCells enc 0 dk vs) E (0,0)):=by
 have lV:bX < w.heap.size:=by
  rcases Nat.lt_or_ge bX w.heap.size with h | h
  ·exact h
  ·simp [Array.getElem?_eq_none h] at hb
 unfold putRow
 rw [heap_grow_old _ _ (by simpa [mapBlock] using lV)]
 simp only [mapBlock,heap_ahead,Array.getElem?_modify]
 rw [if_pos trivial,hb]
 rfl
theorem xg {α:Type} {g:α→AV} (hc:∀ x,(g x).cells=[g x]):∀ xs:List α,flat (xs.map g)=xs.map g
 | []=>rfl
 | x :: r=>by rw [List.map_cons,jR,hc,xg hc r];rfl
theorem Kw {P:Program} {α:Type} [Inhabited α] {f:FuncId} {enc:α→Value} {Mr:List α→List α} (K:V8 P f enc Mr) {g:α→AV} (hg:∀ {w:World} {S:Nat→Prop} {x:α} {v:Value},At w S (g x) v→v=enc x) (hg':∀ (w:World) (S:Nat→Prop) (x:α),At w S (g x) (enc x)) (hc:∀ x,(g x).cells=[g x])
 (hlen:∀ xs,(Mr xs).length=xs.length) (EX:∀ x,(g x).one=true) {Xs Ys:List α} {b:Bk} (h:NP Mr Xs=some Ys):aI P f [.sl 1 b 0 Xs.length] [(b,.arr 1 (Xs.map g))] (T0 [(b,.arr 1 (Ys.map g))] (.pT [])):=by
 unfold NP at h
 split at h
 ·rename_i j9
  obtain rfl:=Option.some.inj h
  intro w S vs r hl ha
  obtain ⟨v0,rfl⟩:∃ v0,vs=#[v0]:=by
   match vs,hl with
   | ⟨[v0]⟩,_=>exact ⟨v0,rfl⟩
  have a0:=ha 0 _ v0 rfl rfl
  obtain ⟨oa,cap,rfl,e2⟩:=a0.wJ
  have hEl:∀ (zs:List α),∀ y∈zs.map g,El 1 y:=by
   intro zs y hy
   obtain ⟨x,_,rfl⟩:=List.mem_map.1 hy
   exact ⟨by rw [hc];rfl,fun c OV=>by rw [hc] at OV;rw [List.mem_singleton.1 OV];exact EX x⟩
  have QI:Xs.length=0→Mr Xs=Xs:=fun h0=>by
   have h1:=hlen Xs
   have e1:Xs=[]:=List.eq_nil_of_length_eq_zero h0
   rw [e1]
   apply List.eq_nil_of_length_eq_zero
   rw [hlen];rfl
  rcases Nat.eq_zero_or_pos Xs.length with h0 | h0
  ·have hK:=K.none_ oa cap w
   rw [← h0] at hK
   refine hK.mono ?_
   rintro e w' ⟨rfl,rfl⟩
   rw [QI h0]
   exact ⟨_,.pT [],_,S,rfl,⟨rfl,rfl⟩,.pT [] #[] rfl (fun i c v hc=>by simp at hc),r,lD.refl _ _ _⟩
  ·obtain ⟨_,h1,h2⟩:=r.holds _ (List.mem_singleton.2 rfl)
   simp only [List.length_map] at h1
   rcases h2 with ⟨_,QC⟩ | ⟨m,row,E,hb,Fc,Z3,vX⟩
   ·have aa8:b.cap=0:=QC
    omega
   rcases e2 with ⟨hn,_,_,_,_⟩ | ⟨m',EU,rfl,hle,acW⟩ | ⟨m',ad,_,_,VU,_⟩
   ·rw [hn] at hb;cases hb
   ·obtain rfl:m'=m:=by rw [EU] at hb;exact Option.some.inj hb
    have W1:m' < w.heap.size:=by
     rcases Nat.lt_or_ge m' w.heap.size with h | h
     ·exact h
     ·simp [Array.getElem?_eq_none h] at Fc
    have nS:¬ S m':=fun hs=>by have:=(r.sep _ (List.mem_singleton.2 rfl) m' (lS hb)).1 hs;exact this
    have amA:row.size=b.cap:=by rw [Z3];exact Nat.mul_one _
    rw [xg hc] at vX
    have hH:Sort.Holds enc w m' 0 Xs.toArray:=by
     intro j hj
     have YG:j < Xs.length:=by simpa using hj
     have Up:j < row.size:=by omega
     have hv:=hg (vX j (g Xs[j]) row[j] (by simp [YG]) (by simp [Up]))
     constructor
     ·simp only [World.cell?,Fc,Nat.zero_add,Option.isSome_none,Bool.false_eq_true,if_false]
      rw [Array.getElem?_eq_getElem Up,hv]
      simp [YG]
     ·simp [World.frozen?,Fc]
    simp only [Nat.zero_mul]
    refine (K.some_ m' 0 cap Xs w hH W1 j9).mono ?_
    rintro e w' ⟨rfl,q,os,rfl⟩
    have hW:∀ n,S n→S n∧(grow (putRow enc (Sort.ahead w q) m' 0 (Mr Xs).toArray) os).heap[n]? =w.heap[n]?:=fun n hs=>
     ⟨hs,HJ enc w m' 0 q _ os (r.slt n hs) (fun e=>nS (e▸hs))⟩
    have Rh:w.heap.size≤(grow (putRow enc (Sort.ahead w q) m' 0 (Mr Xs).toArray) os).heap.size:=by simp
    have hls:=hlen Xs
    have hh:Go.Eng.Holds (grow (putRow enc (Sort.ahead w q) m' 0 (Mr Xs).toArray) os) S b (.arr 1 ((Mr Xs).map g)):=by
     refine ⟨hEl _,by simp;omega,.inr ⟨m',_,E,hb,Rj enc w m' q _ os Fc,by simp [putCells,Z3],?_⟩⟩
     rw [xg hc]
     intro j c v YI hv
     have NA:j < (Mr Xs).length:=by have:=(List.getElem?_eq_some_iff.1 YI).1;simpa using this
     have Up:j < row.size:=by omega
     rw [List.getElem?_map,List.getElem?_eq_getElem NA] at YI
     obtain rfl:=Option.some.inj YI
     simp only [putCells,Array.getElem?_mapIdx,Array.getElem?_eq_getElem Up,Option.map_some,Option.some.injEq] at hv
     rw [if_pos ⟨Nat.zero_le _,by simp;omega⟩] at hv
     rw [← hv]
     have:(Mr Xs).toArray[j - 0]! =(Mr Xs)[j]:=by simp [NA]
     rw [this]
     exact hg' _ _ _
    refine ⟨_,.pT [],_,S,rfl,⟨rfl,rfl⟩,.pT [] #[] rfl (fun i c v hc=>by simp at hc),⟨r.nodup,fun e he=>by rw [List.mem_singleton] at he;subst he;exact hh,fun e he n hn=>?_,fun n hn=>Nat.lt_of_lt_of_le (r.slt n hn) Rh,fun g o ho=>⟨(r.hJ g o ho).1,EO (hW g (r.hJ g o ho).1).2 (r.hJ g o ho).2⟩⟩,?_⟩
    ·rw [List.mem_singleton] at he;subst he
     replace hn:=(yM rfl).1 hn
     rw [hb] at hn
     obtain rfl:=Option.some.inj hn
     exact ⟨fun hs=>(nS hs).elim,fun hf=>hf.elim⟩
    ·refine ⟨rfl,rfl,rfl,Rh,hW,fun n hn hnh=>⟨HJ enc w m' 0 q _ os hn (fun e=>hnh ⟨_,List.mem_singleton.2 rfl,by rw [e];exact lS hb⟩),id⟩,?_,?_⟩
     ·rintro n ⟨e,he,yl⟩
      rw [List.mem_singleton] at he;subst he
      exact .inl ⟨_,List.mem_singleton.2 rfl,yl⟩
     ·intro _
      show w.drawn≤w.drawn+q
      omega
   ·omega
 ·cases h
def Kx (xs:List (List UInt8)):List (List UInt8):=xs.mergeSort fun x y=>decide (x≤y)
end Go.Eng
namespace Go.Eng
open Go
variable [bD]
def AV.Rk:AV→Bool
 | .sl _ _ _ _=>true
 | .ptr _ _=>true
 | .agg cs=>Ke cs
 | v=>v.ID
def Rl:List AV→Bool
 | []=>true
 | c :: r=>c.Rk&&Rl r
def AV.noS:AV→Bool
 | .pT cs=>Rl cs
 | v=>v.Rk
theorem IN {w:World} {S S':Nat→Prop} {av:AV} {v:Value} (h:At w S av v) (hn:av.Rk=true):At w S' av v:=by
 cases h with
 | agg cs vs hl h=>exact .agg cs vs hl fun i c u hc hu=>yS (h i c u hc hu) (yT hn c (List.mem_of_getElem? hc))
 | sl sz b off len n cap hb h1 h2=>exact .sl sz b off len n cap hb h1 h2
 | CP sz b hb=>exact .CP sz b hb
 | TI sz b off n ad hb=>exact .TI sz b off n ad hb
 | ptr b o n hb=>exact .ptr b o n hb
 | int k n=>exact .int k n
 | bool b=>exact .bool b
 | str s=>exact .str s
 | nil=>exact .nil
 | raw v=>exact .raw v
 | _=>simp [AV.Rk,AV.ID] at hn
theorem Fo:∀ {cs:List AV},Rl cs=true→∀ c∈cs,c.Rk=true
 | [],_,c,hc=>by simp at hc
 | x :: r,h,c,hc=>by
   simp only [Rl,Bool.and_eq_true] at h
   rcases List.mem_cons.1 hc with rfl | hc
   ·exact h.1
   ·exact Fo h.2 c hc
theorem W5 {w:World} {S S':Nat→Prop} {av:AV} {v:Value} (h:At w S av v) (hn:av.noS=true):At w S' av v:=by
 cases av with
 | pT cs=>
   cases h with
   | pT _ vs hl h=>exact .pT cs vs hl fun i c u hc hu=>IN (h i c u hc hu) (Fo hn c (List.mem_of_getElem? hc))
 | _=>exact IN h hn
def Ob.V9:Ob→Prop
 | .cells cs=>Rl cs=true
 | .arr _ xs=>∀ x∈xs,Ke x.cells=true
 | _=>False
inductive Ms:Heap→Prop
 | nil:Ms []
 | cons {b:Bk} {o:Ob} {h:Heap} (c:o.V9) (k:Ms h):Ms ((b,o) :: h)
theorem Ms.mem {h:Heap} (k:Ms h):∀ e∈h,e.2.V9:=by
 induction k with
 | nil=>intro e he;simp at he
 | cons c k ih=>
   intro e he
   rcases List.mem_cons.1 he with rfl | he
   ·exact c
   ·exact ih e he
theorem V9.wN {α:Type} {g:α→AV} {sz:Nat} {Xs:List α} (h:∀ x,Ke (g x).cells=true):(Ob.arr sz (Xs.map g)).V9:=fun x hx=>by
 obtain ⟨y,_,rfl⟩:=List.mem_map.1 hx
 exact h y
theorem Holds.noS {w:World} {S S':Nat→Prop} {b:Bk} {o:Ob} (h:Holds w S b o) (hn:o.V9):Holds w S' b o:=by
 cases o with
 | cells cs=>
   obtain ⟨h0,n,vs,E,h1,h2,h3,h4⟩:=h
   exact ⟨h0,n,vs,E,h1,h2,h3,fun i c v hc hv=>IN (h4 i c v hc hv) (Fo hn c (List.mem_of_getElem? hc))⟩
 | arr sz xs=>
   obtain ⟨h0,h1,h2⟩:=h
   refine ⟨h0,h1,h2.imp id ?_⟩
   rintro ⟨n,vs,E,g1,g2,g3,g4⟩
   refine ⟨n,vs,E,g1,g2,g3,fun i c v hc hv=>yS (g4 i c v hc hv) ?_⟩
   have hm:=List.mem_of_getElem? hc
   unfold flat at hm
   rw [List.mem_flatMap] at hm
   obtain ⟨x,hx,hcx⟩:=hm
   exact yT (hn x hx) c hcx
 | By _ _=>exact hn.elim
 | mp _=>exact hn.elim
 | ZK _ _=>exact hn.elim
 | ZL _ _ _=>exact hn.elim
 | ZM _ _ _=>exact hn.elim
 | gy _=>exact hn.elim
 | Yx _ _ _ _=>exact hn.elim
theorem Co.Wa {hp:Heap} {α:Type} {g:α→AV} {Xs V:List α} {L H:Int} {sz:Nat} {b:Bk} (hv:BN Xs L H=some V) (f:oG hp b (.By sz (Xs.map g))):Co hp (.sl sz b L.toNat V.length) (.list sz (V.map g)):=by
 obtain ⟨⟨h0,h1,h2⟩,h3⟩:=ug hv
 have hl:=(wu hv).1
 have h:=Co.part sz b L.toNat V.length (Xs.map g) f (by simp;omega)
 have e:V.map g=((Xs.map g).drop L.toNat).take V.length:=by
  have:=(wu hv).2.2
  rw [← List.map_drop,← List.map_take,← this]
 rw [e]
 exact h
theorem w7.Wa {hp:Heap} {α:Type} {g:α→AV} {Xs V:List α} {L H:Int} {sz:Nat} {b:Bk} (hv:BN Xs L H=some V) (f:oG hp b (.arr sz (Xs.map g))):w7 hp (.sl sz b L.toNat V.length) (.list sz (V.map g)):=by
 obtain ⟨⟨h0,h1,h2⟩,h3⟩:=ug hv
 have hl:=(wu hv).1
 have h:=w7.part sz b L.toNat V.length (Xs.map g) f (by simp;omega)
 have e:V.map g=((Xs.map g).drop L.toNat).take V.length:=by
  have:=(wu hv).2.2
  rw [← List.map_drop,← List.map_take,← this]
 rw [e]
 exact h
section rules
variable {P:Program} {all:Array Oper} {rest:List Oper} {n:Nat} {tm:List (Nat×AV)} {hp:Heap} {Q:St→Prop} {d:Nat} {ty:TypeId} {pos:String} {af:Array Edge}
theorem Ut {f:FuncId} {args:List Operand} {ts:Array TypeId} {l l':List AV} {h0 hr:Heap} {Qc:AV→Heap→Prop} [bh P f] (hl:BI tm args=some l) (c:aI P f l' h0 Qc) (co:wL hr l l') (hs:hp.Perm (h0++hr)) (hn:Nat.blt d n=true)
 (kk:∀ r h',Qc r h'→r.noS=true∧Ms h'∧ae P all rest ⟨n,(d,r) :: tm,h'++hr⟩ Q):ae P all (⟨some d,.call {callee:=.value (.func f),args:=args.toArray,argTypes:=ts},ty,pos,af,none⟩ :: rest) ⟨n,tm,hp⟩ Q:=by
 refine ae.Hn rfl fun w S a r=>⟨f,_,pU a w,?_⟩
 obtain ⟨g1,g2⟩:=rJ (σ:=⟨n,tm,hp⟩) r hl
 have rp:=r.hp.perm hs
 have W6:dO w S hr:=rp.sub (List.sublist_append_right _ _)
 have Wb:dO w S h0:=rp.sub (List.sublist_append_left _ _)
 obtain ⟨g3,g4⟩:=wL.at W6 co g1 g2
 have W7:∀ m,Has h0 m→¬ Has hr m:=by
  rintro m ⟨x,hx,Mt⟩ ⟨y,hy,hym⟩
  have:=rp.nodup
  rw [List.flatMap_append,List.nodup_append] at this
  exact this.2.2 m (List.mem_flatMap.2 ⟨x,hx,Mt⟩) m (List.mem_flatMap.2 ⟨y,hy,hym⟩) rfl
 have rh:dO w (SB S hr) h0:=by
  refine ⟨Wb.nodup,fun e he=>(Wb.holds e he).mono (fun m hm=>⟨.inl hm,rfl⟩) (fun m _=>rfl),fun e he m hm=>?_,fun m hm=>?_,fun g o ho=>⟨.inl (Wb.hJ g o ho).1,(Wb.hJ g o ho).2⟩⟩
  ·constructor
   ·rintro (h | h)
    ·exact (Wb.sep e he m hm).1 h
    ·exact (W7 m ⟨e,he,hm⟩ h).elim
   ·exact fun h=>.inl ((Wb.sep e he m hm).2 h)
  ·rcases hm with h | h
   ·exact Wb.slt m h
   ·exact W6.lt h
 refine (c w (SB S hr) _ rh (by simpa using g3) g4).mono ?_
 rintro e w' ⟨v,res,h',S',rfl,hq,h3,h4,h5⟩
 obtain ⟨k1,k2,k3⟩:=kk res h' hq
 have hup:∀ m,S m→(S' m∧(Has hr m→S m))∧w'.heap[m]? =w.heap[m]?:=fun m hm=>⟨⟨(h5.mZ m (.inl hm)).1,fun _=>hm⟩,(h5.mZ m (.inl hm)).2⟩
 have A2:dO w' (fun m=>S' m∧(Has hr m→S m)) (h'++hr):=by
  refine ⟨?_,?_,?_,fun m hm=>h4.slt m hm.1,fun g o ho=>⟨⟨(h4.hJ g o ho).1,fun _=>(Wb.hJ g o ho).1⟩,(h4.hJ g o ho).2⟩⟩
  ·rw [List.flatMap_append,List.nodup_append]
   refine ⟨h4.nodup,W6.nodup,fun x hx y hy Md=>?_⟩
   subst Md
   obtain ⟨e1,he1,P4⟩:=List.mem_flatMap.1 hx
   obtain ⟨e2,Qr,hb2⟩:=List.mem_flatMap.1 hy
   rcases h5.new x ⟨e1,he1,P4⟩ with h | h
   ·exact W7 x h ⟨e2,Qr,hb2⟩
   ·have:=W6.lt ⟨e2,Qr,hb2⟩;omega
  ·intro e he
   rcases List.mem_append.1 he with he | he
   ·exact (h4.holds e he).noS (k2.mem e he)
   ·exact (W6.holds e he).mono hup (fun m hm=>(h5.mZ m (.inr ⟨e,he,hm⟩)).2)
  ·intro e he m hm
   rcases List.mem_append.1 he with he | he
   ·rw [← h4.sep e he m hm]
    refine ⟨fun h=>h.1,fun h=>⟨h,fun hh=>?_⟩⟩
    rcases h5.new m ⟨e,he,hm⟩ with h6 | h6
    ·exact (W7 m h6 hh).elim
    ·have:=W6.lt hh;omega
   ·rw [← W6.sep e he m hm]
    exact ⟨fun h=>h.2 ⟨e,he,hm⟩,fun h=>⟨(h5.mZ m (.inl h)).1,fun _=>h⟩⟩
 have Uu:∀ m,Has hp m↔Has h0 m∨Has hr m:=by
  intro m
  constructor
  ·rintro ⟨x,hx,hb⟩
   rcases List.mem_append.1 (hs.mem_iff.1 hx) with h | h
   ·exact .inl ⟨x,h,hb⟩
   ·exact .inr ⟨x,h,hb⟩
  ·rintro (⟨x,hx,hb⟩ | ⟨x,hx,hb⟩)
   ·exact ⟨x,hs.mem_iff.2 (List.mem_append_left _ hx),hb⟩
   ·exact ⟨x,hs.mem_iff.2 (List.mem_append_right _ hx),hb⟩
 refine ⟨v,fun m=>S' m∧(Has hr m→S m),⟨n,(d,res) :: tm,h'++hr⟩,rfl,(r.heap hup A2).put hn (W5 h3 k1),?_,k3⟩
 refine ⟨h5.os,h5.tape,h5.output,h5.size,hup,fun m hm hh=>?_,fun m hm=>?_,h5.drawn⟩
 ·have n0:¬ Has h0 m:=fun h=>hh ((Uu m).2 (.inl h))
  have nr:¬ Has hr m:=fun h=>hh ((Uu m).2 (.inr h))
  obtain ⟨q1,q2⟩:=h5.other m hm n0
  refine ⟨q1,fun h=>?_⟩
  rcases q2 h.1 with h | h
  ·exact h
  ·exact (nr h).elim
 ·obtain ⟨x,hx,hb⟩:=hm
  rcases List.mem_append.1 hx with hx | hx
  ·rcases h5.new m ⟨x,hx,hb⟩ with h | h
   ·exact .inl ((Uu m).2 (.inl h))
   ·exact .inr h
  ·exact .inl ((Uu m).2 (.inr ⟨x,hx,hb⟩))
theorem Fp {DB:Type} {f:FuncId} {args:List Operand} {ts:Array TypeId} {l l':List AV} {h0 hr:Heap} {H H':DB→Heap} {V:DB→AV} [bh P f] (hl:BI tm args=some l) (c:aI P f l' h0 (T1 H V)) (hs:Kp hp h0 hr) (co:wL hr l l') (ha:∀ b,vq (H b) hr=some (H' b)) (hV:∀ b,(V b).noS=true) (hH:∀ b,Ms (H b)) (hn:Nat.blt d n=true)
 (kk:∀ b,ae P all rest ⟨n,(d,V b) :: tm,H' b⟩ Q):ae P all (⟨some d,.call {callee:=.value (.func f),args:=args.toArray,argTypes:=ts},ty,pos,af,none⟩ :: rest) ⟨n,tm,hp⟩ Q:=
 Ut hl c co hs.perm hn (fun r h' ⟨b,e1,e2⟩=>by subst e1;subst e2;rw [qz (ha b)];exact ⟨hV b,hH b,kk b⟩)
end rules
class DD (K:Type) where
 lt:K→K→Bool
instance:DD Int:=⟨fun a b=>decide (a < b)⟩
instance:DD Bool:=⟨fun a b=>!a&&b⟩
instance:DD (List UInt8):=⟨fun a b=>Op.bytesLess a b⟩
section plain
variable {K V:Type}
def ui [DecidableEq K] (m:List (K×V)) (k:K):List (K×V):=m.filter (fun e=>decide (e.1≠k))
def BU [DD K] (k:K) (v:V):List (K×V)→List (K×V)
 | []=>[(k,v)]
 | e :: r=>if DD.lt e.1 k=true then e :: BU k v r else (k,v) :: e :: r
def jl [DecidableEq K] [DD K] (m:List (K×V)) (k:K) (v:V):List (K×V):=BU k v (ui m k)
def cX [DecidableEq K]:List (K×V)→K→Option V
 | [],_=>none
 | e :: r,k=>if e.1=k then some e.2 else cX r k
def vu [DecidableEq K] (m:List (K×V)) (k:K) (z:V):Option V:=some ((cX m k).getD z)
def AG [DecidableEq K] (m:List (K×V)) (k:K) (z:V):Option (V×Bool):=some ((cX m k).getD z,(cX m k).isSome)
theorem xh [DD K] (k:K) (v:V):∀ (m:List (K×V)),(BU k v m).Perm ((k,v) :: m)
 | []=>List.Perm.refl _
 | e :: r=>by
   unfold BU
   split
   ·exact (List.Perm.cons e (xh k v r)).trans (List.Perm.swap _ _ _)
   ·exact List.Perm.refl _
theorem BV {α β:Type} (f:α→β):∀ (l:List β) (M:List α),l.Perm (M.map f)→∃ M':List α,M'.Perm M∧l=M'.map f
 | [],M,h=>by
   have:=h.nil_eq
   rw [eq_comm,List.map_eq_nil_iff] at this
   subst this;exact ⟨[],List.Perm.refl _,rfl⟩
 | x :: t,M,h=>by
   have hx:x∈M.map f:=h.mem_iff.1 (by simp)
   obtain ⟨e,he,rfl⟩:=List.mem_map.1 hx
   obtain ⟨p,q,rfl⟩:=List.append_of_mem he
   have h2:(f e :: t).Perm (f e :: (p++q).map f):=h.trans (by rw [List.map_append,List.map_cons,List.map_append];exact List.perm_middle)
   obtain ⟨M',h3,rfl⟩:=BV f t (p++q) (List.Perm.cons_inv h2)
   exact ⟨e :: M',(List.Perm.cons e h3).trans List.perm_middle.symm,rfl⟩
theorem Ky [DecidableEq K] {k:K} {v:V}:∀ {m:List (K×V)},cX m k=some v→(k,v)∈m
 | [],h=>by cases h
 | e :: r,h=>by
   unfold cX at h
   split at h
   ·rename_i hk
    obtain rfl:=Option.some.inj h
    subst hk;simp
   ·exact List.mem_cons_of_mem _ (Ky h)
theorem DE [DecidableEq K] {k:K} {v:V}:∀ {m:List (K×V)},(m.map Prod.fst).Nodup→(k,v)∈m→cX m k=some v
 | [],_,h=>by simp at h
 | e :: r,hn,h=>by
   rw [List.map_cons,List.nodup_cons] at hn
   unfold cX
   rcases List.mem_cons.1 h with rfl | h
   ·simp
   ·rw [if_neg (fun hk=>hn.1 (List.mem_map.2 ⟨_,h,hk.symm⟩))]
    exact DE hn.2 h
theorem zO [DecidableEq K] {k:K}:∀ {m:List (K×V)},cX m k=none↔∀ e∈m,e.1≠k
 | []=>by simp [cX]
 | e :: r=>by
   unfold cX
   split
   ·rename_i hk;simp [hk]
   ·rename_i hk
    rw [zO (m:=r)]
    simp [hk]
theorem vf [DecidableEq K] {m m':List (K×V)} (hp:m'.Perm m) (hn:(m'.map Prod.fst).Nodup) (k:K):cX m' k=cX m k:=by
 have Q6:(m.map Prod.fst).Nodup:=(hp.map _).nodup_iff.1 hn
 cases h:cX m' k with
 | none=>
   symm
   rw [zO] at h ⊢
   exact fun e he=>h e (hp.mem_iff.2 he)
 | some v=>exact (DE Q6 (hp.mem_iff.1 (Ky h))).symm
theorem CU [DecidableEq K] {m:List (K×V)} {k:K} (h:cX m k=none):ui m k=m:=by
 rw [zO] at h
 unfold ui
 exact List.filter_eq_self.2 fun e he=>by simpa using h e he
end plain
def y7 {K:Type} [DecidableEq K] (k:K):List K→List MapEntry→Nat→Option (Nat×Value)
 | k' :: ks,e :: es,i=>if k'=k then some (i,e.val) else y7 k ks es (i+1)
 | _,_,_=>none
class iZ (P:Program) (t:TypeId) {K:Type} [DecidableEq K] (g:K→AV):Prop where
 inj:∀ a b,g a=g b→a=b
 check:∀ {w:World} {S:Nat→Prop} {k:K} {v:Value},At w S (g k) v→∀ (b:Bool) (w1:World),(Instr.checkKey b 10000 t v).run P w1=.ok () w1
 find:∀ {w:World} {S:Nat→Prop} {k:K} {v:Value},At w S (g k) v→∀ (es:List MapEntry) (ks:List K),ks.length=es.length→(∀ (i:Nat) k' e,ks[i]? =some k'→es[i]? =some e→At w S (g k') e.key)→∀ w1:World,(Instr.findKey t v es).run P w1=.ok (y7 k ks es 0) w1
 bits:∀ {w:World} {S:Nat→Prop} {k:K} {v u:Value},At w S (g k) v→At w S (g k) u→Instr.sameBits 10000 v u=true
theorem zP {K:Type} [DecidableEq K] {d:TypeDesc} {v:Value} {k:K} {q:K→Value→Prop} (hq:∀ k' u,q k' u→Instr.sameNow d v u=some (decide (k'=k))):∀ (es:List MapEntry) (ks:List K) (i:Nat),ks.length=es.length→(∀ (i:Nat) k' e,ks[i]? =some k'→es[i]? =some e→q k' e.key)→Instr.findNow d v es i=some (y7 k ks es i)
 | [],[],i,_,_=>rfl
 | [],k' :: ks,i,hl,_=>by simp at hl
 | e :: es,[],i,hl,_=>by simp at hl
 | e :: es,k' :: ks,i,hl,h=>by
   unfold Instr.findNow y7
   rw [hq k' e.key (h 0 k' e rfl rfl)]
   by_cases hk:k'=k
   ·simp [hk]
   ·simp only [hk,decide_false,if_false]
    exact zP hq es ks (i+1) (by simpa using hl) (fun i k' e h1 h2=>h (i+1) k' e (by simpa using h1) (by simpa using h2))
theorem Mu (a b:ByteArray):((a==b)=true)↔a=b:=by
 cases a with
 | mk a=>
   cases b with
   | mk b=>
     show (a==b)=true↔_
     rw [beq_iff_eq]
     exact ⟨fun h=>by rw [h],fun h=>by cases h;rfl⟩
theorem iZ.int {P:Program} {t:TypeId} {q:IntKind} (h:P.underlying t=some (.int q)):iZ P t (K:=Int) (fun n=>AV.int q n) where
 inj a b h:=by simpa using h
 check:=fun {w S k v} hv b w1=>by
  rw [hv.eU]
  have key:∀ n:Nat,(Instr.checkKey b (n+1) t (Value.int q k)).run P w1=.ok () w1:=fun n=>by simp [Instr.checkKey,run_underlying h]
  exact key 9999
 find:=fun {w S k v} hv es ks hl hk w1=>by
  rw [hv.eU]
  have hf:=zP (d:=(.int q)) (v:=(Value.int q k)) (k:=k) (q:=fun k' u=>u=(Value.int q k')) (fun k' u hu=>by subst hu;simp only [Instr.sameNow,if_true];congr 1;rw [Bool.eq_iff_iff];simp;exact eq_comm) es ks 0 hl (fun i k' e h1 h2=>(hk i k' e h1 h2).eU)
  simp [Instr.findKey,run_underlying h,hf]
 bits:=fun {w S k v u} h1 h2=>by rw [h1.eU,h2.eU];simp [Instr.sameBits]
theorem iZ.bool {P:Program} {t:TypeId} (h:P.underlying t=some .bool):iZ P t (K:=Bool) AV.bool where
 inj a b h:=by simpa using h
 check:=fun {w S k v} hv b w1=>by
  rw [hv.ke]
  have key:∀ n:Nat,(Instr.checkKey b (n+1) t (Value.bool k)).run P w1=.ok () w1:=fun n=>by simp [Instr.checkKey,run_underlying h]
  exact key 9999
 find:=fun {w S k v} hv es ks hl hk w1=>by
  rw [hv.ke]
  have hf:=zP (d:=.bool) (v:=(Value.bool k)) (k:=k) (q:=fun k' u=>u=(Value.bool k')) (fun k' u hu=>by subst hu;simp only [Instr.sameNow];congr 1;rw [Bool.eq_iff_iff];simp;exact eq_comm) es ks 0 hl (fun i k' e h1 h2=>(hk i k' e h1 h2).ke)
  simp [Instr.findKey,run_underlying h,hf]
 bits:=fun {w S k v u} h1 h2=>by rw [h1.ke,h2.ke];simp [Instr.sameBits]
theorem iZ.str {P:Program} {t:TypeId} (h:P.underlying t=some .string):iZ P t (K:=List UInt8) AV.str where
 inj a b h:=by simpa using h
 check:=fun {w S k v} hv b w1=>by
  rw [hv.dB]
  have key:∀ n:Nat,(Instr.checkKey b (n+1) t (Value.string ⟨k.toArray⟩)).run P w1=.ok () w1:=fun n=>by simp [Instr.checkKey,run_underlying h]
  exact key 9999
 find:=fun {w S k v} hv es ks hl hk w1=>by
  rw [hv.dB]
  have hf:=zP (d:=.string) (v:=(Value.string ⟨k.toArray⟩)) (k:=k) (q:=fun k' u=>u=(Value.string ⟨k'.toArray⟩)) (fun k' u hu=>by subst hu;simp only [Instr.sameNow];congr 1;rw [Bool.eq_iff_iff,Mu];simp;exact eq_comm) es ks 0 hl (fun i k' e h1 h2=>(hk i k' e h1 h2).dB)
  simp [Instr.findKey,run_underlying h,hf]
 bits:=fun {w S k v u} h1 h2=>by rw [h1.dB,h2.dB];simp only [Instr.sameBits];exact (Mu _ _).2 rfl
instance {P:Program} {t:TypeId} [h:aC P t (.int .i64)]:iZ P t (K:=Int) I:=iZ.int h.h
instance {P:Program} {t:TypeId} [h:aC P t .bool]:iZ P t (K:=Bool) AV.bool:=iZ.bool h.h
instance {P:Program} {t:TypeId} [h:aC P t .string]:iZ P t (K:=List UInt8) AV.str:=iZ.str h.h
theorem iw {P:Program} {w:World} {r:Nat} {es:Array MapEntry} {c:Nat} (h:w.heap[r]? =some (.map es c)):(getObj r).run P w=.ok (.map es c) w:=by
 simp only [getObj,Sem.run,h]
def CV (w:World) (r:Nat) (o:Obj):World:={w with heap:=w.heap.setIfInBounds r o}
theorem Fq {P:Program} {w:World} {r:Nat} {es:Array MapEntry} {c:Nat} (o:Obj) (h:w.heap[r]? =some (.map es c)):(setObj r o).run P w=.ok () (CV w r o):=by
 simp only [setObj,Sem.run,h];rfl
theorem HK {w:World} {r:Nat} {o o':Obj} (h:w.heap[r]? =some o'):(CV w r o).heap[r]? =some o:=by
 have lV:r < w.heap.size:=(Array.getElem?_eq_some_iff.1 h).1
 simp [CV,Array.getElem?_setIfInBounds,lV]
theorem Fs {w:World} {r k:Nat} {o:Obj} (h:k≠r):(CV w r o).heap[k]? =w.heap[k]?:=by
 simp [CV,Array.getElem?_setIfInBounds,Ne.symm h]
theorem Uv {w:World} {r:Nat} {o:Obj} {x:Option Nat} (hx:x=some r):GB w (CV w r o) x:=
 ⟨⟨rfl,rfl,rfl,by simp [CV],fun k hk uc=>Fs (fun e=>uc (by rw [hx,e]))⟩,fun _=>Nat.le_refl _⟩
theorem Uw (w:World) (x:Option Nat):GB w w x:=⟨⟨rfl,rfl,rfl,Nat.le_refl _,fun _ _ _=>rfl⟩,fun _=>Nat.le_refl _⟩
theorem Ext.heap {w w':World} {n:Nat} {o:Obj} (e:Ext w w') (h:w.heap[n]? =some o):w'.heap[n]? =some o:=by
 rw [e.same n (Array.getElem?_eq_some_iff.1 h).1];exact h
theorem At.vv {w:World} {S:Nat→Prop} {b:Bk} {v:Value} (h:At w S (.bC b) v):∃ n,b.bX=some n∧v=.map (some n):=by cases h with | bC _ n hb=>exact ⟨n,hb,rfl⟩
theorem Rm (w:World) (S:Nat→Prop) (z:Value) (h1:lE (EV z).cells=true):At w S (EV z) z:=by
 by_cases hz:∃ cs,z=.agg cs
 ·obtain ⟨cs,rfl⟩:=hz
  obtain ⟨h2,h3⟩:=rD w S (.agg cs) (ea h1)
  exact .agg _ _ h2 h3
 ·have Qv:EV z=VN z:=by
   cases z<;>first | rfl | (exact (hz ⟨_,rfl⟩).elim)
  rw [Qv];exact Iz w S z
theorem wv {K V:Type} {gk:K→AV} {gv:V→AV} {w:World} {S:Nat→Prop} {hp:Heap} {b:Bk} {M:List (K×V)} (O3:∀ a b,gk a=gk b→a=b) (r:dO w S hp) (f:oG hp b (.mp (M.map fun e=>(gk e.1,gv e.2)))):
 ∃ (L:List wI) (c:Nat) (M':List (K×V)) (n:Nat) (oF:Array MapEntry),M'.Perm M∧L.map wI.kv=M'.map (fun e=>(gk e.1,gv e.2))∧yN w S b L c∧b.bX=some n∧w.heap[n]? =some (.map oF c)∧oF.toList.length=M'.length∧
   (∀ (i:Nat) e m,M'[i]? =some e→oF.toList[i]? =some m→At w S (gk e.1) m.key∧At w S (gv e.2) m.val)∧(M'.map Prod.fst).Nodup:=by
 obtain ⟨L,c,pW,hH⟩:=r.holds _ f.mem
 obtain ⟨M',h1,h2⟩:=BV _ _ _ pW
 have hH':=hH
 obtain ⟨n,oF,g1,g2,g3,g4,g5,g6,g7⟩:=hH
 have hlen:L.length=M'.length:=by have:=congrArg List.length h2;simpa using this
 refine ⟨L,c,M',n,oF,h1,h2,hH',g1,g2,by rw [Array.length_toList,g3,hlen],fun i e m he hm=>?_,?_⟩
 ·have:(L.map wI.kv)[i]? =some (gk e.1,gv e.2):=by rw [h2,List.getElem?_map,he];rfl
  rw [List.getElem?_map] at this
  cases hL:L[i]? with
  | none=>rw [hL] at this;cases this
  | some x=>
    rw [hL] at this
    have hx:(x.k,x.v)=(gk e.1,gv e.2):=Option.some.inj this
    obtain ⟨q1,q2⟩:=Prod.mk.inj hx
    have:=g4 i x m hL (by simpa using hm)
    rw [q1,q2] at this
    exact this.2
 ·have hk:L.map (·.k)=(M'.map Prod.fst).map gk:=by
   have:=congrArg (List.map Prod.fst) h2
   simpa [List.map_map,Function.comp_def,wI.kv] using this
  rw [hk] at g7
  exact (List.pairwise_map.1 g7).imp (fun h e=>h (by rw [e]))
theorem Kz {α:Type} {l:List α} {j:Nat} {x:α} (h:l[j]? =some x):l.set j x=l:=by
 apply List.ext_getElem?
 intro i
 rw [List.getElem?_set]
 by_cases E6:j=i
 ·subst E6
  have:=(List.getElem?_eq_some_iff.1 h).1
  rw [if_pos rfl,if_pos this,h]
 ·simp [E6]
theorem xQ {K V:Type} [DecidableEq K] {gv:V→AV} {w:World} {S:Nat→Prop} {k:K}:∀ (M:List (K×V)) (es:List MapEntry) (i:Nat),M.length=es.length→(∀ (j:Nat) e m,M[j]? =some e→es[j]? =some m→At w S (gv e.2) m.val)→
 (cX M k=none∧y7 k (M.map Prod.fst) es i=none)∨∃ v j val,cX M k=some v∧y7 k (M.map Prod.fst) es i=some (i+j,val)∧At w S (gv v) val∧M[j]? =some (k,v)
 | [],[],i,_,_=>.inl ⟨rfl,rfl⟩
 | [],m :: es,i,hl,_=>by simp at hl
 | e :: M,[],i,hl,_=>by simp at hl
 | e :: M,m :: es,i,hl,h=>by
   unfold cX
   simp only [List.map_cons,y7]
   by_cases hk:e.1=k
   ·simp only [hk,if_true]
    refine .inr ⟨e.2,0,m.val,rfl,rfl,h 0 e m rfl rfl,?_⟩
    subst hk;rfl
   ·simp only [hk,if_false]
    rcases xQ M es (i+1) (by simpa using hl) (fun j e' m' h1 h2=>h (j+1) e' m' (by simpa using h1) (by simpa using h2)) with ⟨h1,h2⟩ | ⟨v,j,val,h1,h2,h3,h4⟩
    ·exact .inl ⟨h1,h2⟩
    ·exact .inr ⟨v,j+1,val,h1,by rw [h2];congr 2;omega,h3,by simpa using h4⟩
section rules
variable {P:Program} {all:Array Oper} {rest:List Oper} {n:Nat} {tm:List (Nat×AV)} {hp:Heap} {Q:St→Prop} {d:Nat} {ty:TypeId} {pos:String} {af:Array Edge}
theorem vg {t:TypeId} (hn:Nat.blt d n=true) (kk:∀ b:Bk,ae P all rest ⟨n,(d,.bC b) :: tm,(b,.mp []) :: hp⟩ Q):ae P all (⟨some d,.makeMap t none,ty,pos,af,none⟩ :: rest) ⟨n,tm,hp⟩ Q:=by
 refine ae.P2 rfl fun w S a r=>?_
 have hh:Holds (w.alloc (.map #[] 0)) S ⟨some w.heap.size,0⟩ (.mp []):=⟨[],0,List.Perm.refl _,w.heap.size,#[],rfl,by show (w.heap.push _)[w.heap.size]? =_;simp,rfl,by simp,by simp,by simp,by simp⟩
 obtain ⟨k1,k2,k3⟩:=rC r.hp (Ext.alloc w (.map #[] 0)) id hh (.inr ⟨_,rfl,Nat.le_refl _⟩)
 exact ⟨.map (some w.heap.size),w.alloc (.map #[] 0),S,_,by simp [execOp,Instr.makeMap],(r.heap k3 k1).put hn (.bC _ _ rfl),k2,kk ⟨some w.heap.size,0⟩⟩
theorem KA {K V:Type} [DecidableEq K] {gk:K→AV} {gv:V→AV} {M:List (K×V)} {key:K} {Z v:V} {t kt vt:TypeId} {i:TypeInfo} {z:Value} {x y:Operand} {b:Bk} {av:AV} [aC P t (.map kt vt)] [aU P vt i] [iZ P kt gk] (hx:dx tm x=some (.bC b)) (hy:dx tm y=some (gk key)) (f:oG hp b (.mp (M.map fun e=>(gk e.1,gv e.2)))) (hz:i.zero=some z) (Mq:EV z=gv Z) (h1:lE (EV z).cells=true) (h:vu M key Z=some v) (sJ:gv v=av):
 QV P ⟨some d,.lookup t x y false,ty,pos,af,none⟩ ⟨n,tm,hp⟩ av:=by
 intro w S a r
 have kx:=bj (σ:=⟨n,tm,hp⟩) r hx
 have ky:=bj (σ:=⟨n,tm,hp⟩) r hy
 obtain ⟨nb,hb,ex⟩:=kx.vv
 obtain ⟨L,c,M',NQ,oF,p1,p2,p3,p4,p5,p6,p7,p8⟩:=wv (iZ.inj P kt) r.hp f
 obtain rfl:NQ=nb:=by rw [p4] at hb;exact Option.some.inj hb
 unfold vu at h
 have hv:=Option.some.inj h
 rw [← vf p1 p8] at hv
 have uj:=iZ.find (P:=P) (t:=kt) (g:=gk) ky oF.toList (M'.map Prod.fst) (by simpa using p6.symm) (fun j k' e h1 h2=>by
  rw [List.getElem?_map] at h1
  cases hm:M'[j]? with
  | none=>rw [hm] at h1;cases h1
  | some q=>rw [hm] at h1;rw [← Option.some.inj h1];exact (p7 j q e hm h2).1)
 rcases xQ (gv:=gv) (w:=w) (S:=S) (k:=key) M' oF.toList 0 p6.symm (fun j e m h1 h2=>(p7 j e m h1 h2).2) with ⟨q1,q2⟩ | ⟨v',j,val,q1,q2,q3,_⟩
 ·refine ⟨z,fun w1 e1=>?_,?_⟩
  ·simp [execOp,Instr.lookup,ex,run_underlying (aC.h (P:=P) (t:=t)),iw (e1.heap p5),iZ.check (P:=P) (t:=kt) ky,uj,q2,zeroValue,typeInfo,aU.h (P:=P) (t:=vt),hz]
  ·rw [← sJ,← hv,q1,Option.getD_none,← Mq];exact Rm w S z h1
 ·refine ⟨val,fun w1 e1=>?_,?_⟩
  ·simp [execOp,Instr.lookup,ex,run_underlying (aC.h (P:=P) (t:=t)),iw (e1.heap p5),iZ.check (P:=P) (t:=kt) ky,uj,q2]
  ·rw [← sJ,← hv,q1,Option.getD_some];exact q3
theorem O4 {K V:Type} [DecidableEq K] {gk:K→AV} {gv:V→AV} {M:List (K×V)} {key:K} {Z:V} {v:V×Bool} {t kt vt:TypeId} {i:TypeInfo} {z:Value} {x y:Operand} {b:Bk} {av:AV} [aC P t (.map kt vt)] [aU P vt i] [iZ P kt gk] (hx:dx tm x=some (.bC b)) (hy:dx tm y=some (gk key)) (f:oG hp b (.mp (M.map fun e=>(gk e.1,gv e.2)))) (hz:i.zero=some z) (Mq:EV z=gv Z) (h1:lE (EV z).cells=true) (h:AG M key Z=some v) (sJ:gv v.1=av):
 QV P ⟨some d,.lookup t x y true,ty,pos,af,none⟩ ⟨n,tm,hp⟩ (.pT [av,.bool v.2]):=by
 intro w S a r
 have kx:=bj (σ:=⟨n,tm,hp⟩) r hx
 have ky:=bj (σ:=⟨n,tm,hp⟩) r hy
 obtain ⟨nb,hb,ex⟩:=kx.vv
 obtain ⟨L,c,M',NQ,oF,p1,p2,p3,p4,p5,p6,p7,p8⟩:=wv (iZ.inj P kt) r.hp f
 obtain rfl:NQ=nb:=by rw [p4] at hb;exact Option.some.inj hb
 unfold AG at h
 have hv:=Option.some.inj h
 rw [← vf p1 p8] at hv
 have uj:=iZ.find (P:=P) (t:=kt) (g:=gk) ky oF.toList (M'.map Prod.fst) (by simpa using p6.symm) (fun j k' e h1 h2=>by
  rw [List.getElem?_map] at h1
  cases hm:M'[j]? with
  | none=>rw [hm] at h1;cases h1
  | some q=>rw [hm] at h1;rw [← Option.some.inj h1];exact (p7 j q e hm h2).1)
 rcases xQ (gv:=gv) (w:=w) (S:=S) (k:=key) M' oF.toList 0 p6.symm (fun j e m h1 h2=>(p7 j e m h1 h2).2) with ⟨q1,q2⟩ | ⟨v',j,val,q1,q2,q3,_⟩
 ·refine ⟨.tuple #[z,.bool false],fun w1 e1=>?_,?_⟩
  ·simp [execOp,Instr.lookup,ex,run_underlying (aC.h (P:=P) (t:=t)),iw (e1.heap p5),iZ.check (P:=P) (t:=kt) ky,uj,q2,zeroValue,typeInfo,aU.h (P:=P) (t:=vt),hz]
  ·rw [← sJ,← hv,q1]
   refine .pT _ _ rfl (EB ?_ (.bool _))
   rw [Option.getD_none,← Mq];exact Rm w S z h1
 ·refine ⟨.tuple #[val,.bool true],fun w1 e1=>?_,?_⟩
  ·simp [execOp,Instr.lookup,ex,run_underlying (aC.h (P:=P) (t:=t)),iw (e1.heap p5),iZ.check (P:=P) (t:=kt) ky,uj,q2]
  ·rw [← sJ,← hv,q1]
   exact .pT _ _ rfl (EB q3 (.bool _))
theorem HL {w:World} {S:Nat→Prop} {hp fj:Heap} {b:Bk} {m:Nat} {o o':Ob} {ob P5:Obj} (r:dO w S hp) (u:sL hp b o b o' fj) (hb:b.bX=some m) (ho:w.heap[m]? =some P5) (hf:¬ o.Dt) (TR:¬ o'.Dt) (hh:(∀ n,S n→S n∧(CV w m ob).heap[n]? =w.heap[n]?)→Holds (CV w m ob) S b o') (hm:o'.more=[]:=by rfl):
 dO (CV w m ob) S fj∧lD w S hp (CV w m ob) S fj∧∀ n,S n→S n∧(CV w m ob).heap[n]? =w.heap[n]?:=by
 have k1:∀ n,S n→S n∧(CV w m ob).heap[n]? =w.heap[n]?:=fun k hk=>⟨hk,Fs (fun e=>by
  subst e
  exact hf ((r.sep _ u.Qu.mem _ (lS hb)).1 hk))⟩
 exact xM r u (Uv hb) hf TR (hh k1) (.inl rfl) hm
theorem uk {K V:Type} [DecidableEq K] [DD K] {gk:K→AV} {gv:V→AV} {M:List (K×V)} {key:K} {v:V} {t kt vt:TypeId} {x y z:Operand} {b:Bk} {av:AV} {fj:Heap} [aC P t (.map kt vt)] [iZ P kt gk] (hx:dx tm x=some (.bC b)) (hy:dx tm y=some (gk key)) (hz:dx tm z=some av) (sJ:av=gv v) (u:sL hp b (.mp (M.map fun e=>(gk e.1,gv e.2))) b (.mp ((jl M key v).map fun e=>(gk e.1,gv e.2))) fj)
 (kk:ae P all rest ⟨n,tm,fj⟩ Q):ae P all (⟨none,.mapUpdate t x y z,ty,pos,af,none⟩ :: rest) ⟨n,tm,hp⟩ Q:=by
 refine ae.act rfl rfl (fun w S a r=>?_) kk
 have kx:=bj (σ:=⟨n,tm,hp⟩) r hx
 have ky:=bj (σ:=⟨n,tm,hp⟩) r hy
 have kz:=bj (σ:=⟨n,tm,hp⟩) r hz
 obtain ⟨nb,hb,ex⟩:=kx.vv
 obtain ⟨L,c,M',NQ,oF,p1,p2,p3,p4,p5,p6,p7,p8⟩:=wv (iZ.inj P kt) r.hp u.Qu
 obtain rfl:NQ=nb:=by rw [p4] at hb;exact Option.some.inj hb
 have uj:=iZ.find (P:=P) (t:=kt) (g:=gk) ky oF.toList (M'.map Prod.fst) (by simpa using p6.symm) (fun j k' e h1 h2=>by
  rw [List.getElem?_map] at h1
  cases hm:M'[j]? with
  | none=>rw [hm] at h1;cases h1
  | some q=>rw [hm] at h1;rw [← Option.some.inj h1];exact (p7 j q e hm h2).1)
 obtain ⟨nb2,y8,g1,g2,g3,g4,g5,g6,g7⟩:=p3
 obtain rfl:nb2=NQ:=by rw [p4] at g1;exact (Option.some.inj g1).symm
 obtain rfl:y8=oF:=by rw [p5] at g2;exact (Obj.map.inj (Option.some.inj g2)).1.symm
 have hLM:L.length=M'.length:=by have:=congrArg List.length p2;simpa using this
 have hLi:∀ (j:Nat) (x:wI) (e:K×V),L[j]? =some x→M'[j]? =some e→x.k=gk e.1∧x.v=gv e.2:=by
  intro j x e h1 h2
  have:(L.map wI.kv)[j]? =(M'.map fun e=>(gk e.1,gv e.2))[j]?:=by rw [p2]
  rw [List.getElem?_map,List.getElem?_map,h1,h2] at this
  exact Prod.mk.inj (Option.some.inj this)
 rcases xQ (gv:=gv) (w:=w) (S:=S) (k:=key) M' y8.toList 0 p6.symm (fun j e m h1 h2=>(p7 j e m h1 h2).2) with ⟨q1,q2⟩ | ⟨v',j,val,q1,q2,q3,q4⟩
 ·
  have hw:=HL (ob:=.map (y8.push ⟨a.eval y,a.eval z,c⟩) (c+1)) r.hp u p4 p5 id id (fun k1=>by
   refine ⟨L++[⟨gk key,gv v,c⟩],c+1,?_,nb2,y8.push ⟨a.eval y,a.eval z,c⟩,p4,HK p5,by simp [g3],?_,?_,?_,?_⟩
   ·rw [List.map_append,p2]
    refine List.Perm.trans ?_ ((xh key v (ui M key)).symm.map _)
    rw [CU (by rw [← vf p1 p8];exact q1)]
    exact List.perm_append_comm.trans (List.Perm.cons _ (p1.map _))
   ·intro i e m he hm
    rw [Array.getElem?_push] at hm
    rcases Nat.lt_or_ge i L.length with hi | hi
    ·rw [List.getElem?_append_left hi] at he
     rw [if_neg (by omega)] at hm
     obtain ⟨s1,s2,s3⟩:=g4 i e m he hm
     exact ⟨s1,s2.mono k1,s3.mono k1⟩
    ·have Mi:i=L.length:=by
      have:=(List.getElem?_eq_some_iff.1 he).1
      simp at this;omega
     subst Mi
     rw [if_pos g3.symm] at hm
     simp at he
     obtain rfl:=Option.some.inj hm
     subst he
     exact ⟨rfl,ky.mono k1,by rw [sJ] at kz;exact kz.mono k1⟩
   ·intro e he
    rcases List.mem_append.1 he with h | h
    ·have:=g5 e h;omega
    ·simp at h;subst h;simp
   ·rw [List.map_append,List.nodup_append]
    refine ⟨g6,by simp,fun a1 ha b1 P4 Ff=>?_⟩
    simp at P4
    subst P4
    obtain ⟨e,he,rfl⟩:=List.mem_map.1 ha
    have:=g5 e he
    omega
   ·rw [List.map_append,List.nodup_append]
    refine ⟨g7,by simp,fun a1 ha b1 P4 Ff=>?_⟩
    simp at P4
    subst P4
    obtain ⟨e,he,rfl⟩:=List.mem_map.1 ha
    obtain ⟨j,hj⟩:=List.getElem?_of_mem he
    have NA:j < M'.length:=by rw [← hLM];exact (List.getElem?_eq_some_iff.1 hj).1
    have:=(hLi j e M'[j] hj (List.getElem?_eq_getElem NA)).1
    rw [this] at Ff
    exact (zO.1 q1) M'[j] (List.getElem_mem NA) (iZ.inj P kt _ _ Ff))
  refine ⟨_,S,?_,r.heap hw.2.2 hw.1,hw.2.1⟩
  simp [execOp,Instr.mapUpdate,ex,run_underlying (aC.h (P:=P) (t:=t)),iw p5,iZ.check (P:=P) (t:=kt) ky,uj,q2,Fq _ p5]
 ·
  have NA:j < y8.toList.length:=by rw [p6];exact (List.getElem?_eq_some_iff.1 q4).1
  have VX:j < y8.size:=by simpa using NA
  have hm0:y8.toList[j]? =some y8[j]:=by simp [VX]
  have V5:=(p7 j _ _ q4 hm0).1
  have aaC:Instr.sameBits 10000 y8[j].key (a.eval y)=true:=iZ.bits (P:=P) (t:=kt) V5 ky
  have YK:j < L.length:=by omega
  have hw:=HL (ob:=.map (y8.modify j fun e=>{e with key:=a.eval y,val:=a.eval z}) c) r.hp u p4 p5 id id (fun k1=>by
   refine ⟨L.set j ⟨gk key,gv v,L[j].born⟩,c,?_,nb2,_,p4,HK p5,by simp [g3],?_,?_,?_,?_⟩
   ·rw [List.map_set]
    refine List.Perm.trans ?_ ((xh key v (ui M key)).symm.map _)
    have e1:(L.map wI.kv).set j (gk key,gv v)=(M'.set j (key,v)).map fun e=>(gk e.1,gv e.2):=by rw [p2,List.map_set]
    show ((L.map wI.kv).set j (gk key,gv v)).Perm _
    rw [e1]
    refine List.Perm.map _ ?_
    have hjM:j < M'.length:=by omega
    have e2:M'=M'.take j++(key,v') :: M'.drop (j+1):=by
     have:=List.take_append_drop j M'
     rw [List.drop_eq_getElem_cons hjM] at this
     have hq:M'[j]=(key,v'):=by rw [List.getElem?_eq_getElem hjM] at q4;exact Option.some.inj q4
     rw [hq] at this
     exact this.symm
    have e3:M'.set j (key,v)=M'.take j++(key,v) :: M'.drop (j+1):=by
     rw [List.set_eq_take_append_cons_drop,if_pos hjM]
    rw [e3]
    refine List.perm_middle.trans (List.Perm.cons _ ?_)
    have e4:ui M' key=M'.take j++M'.drop (j+1):=by
     have p8':=p8
     rw [e2,List.map_append,List.map_cons,List.nodup_append,List.nodup_cons] at p8'
     unfold ui
     rw [e2,List.filter_append,List.filter_cons]
     simp only [ne_eq,not_true_eq_false,decide_false,Bool.false_eq_true,if_false]
     rw [← e2]
     congr 1
     ·refine List.filter_eq_self.2 fun e he=>?_
      simp only [decide_not,Bool.not_eq_true',decide_eq_false_iff_not]
      intro hk
      exact p8'.2.2 e.1 (List.mem_map.2 ⟨e,he,rfl⟩) key (by simp) hk
     ·refine List.filter_eq_self.2 fun e he=>?_
      simp only [decide_not,Bool.not_eq_true',decide_eq_false_iff_not]
      intro hk
      exact p8'.2.1.1 (List.mem_map.2 ⟨e,he,hk⟩)
    rw [← e4]
    exact p1.filter _
   ·intro i e m he hm
    rw [Array.getElem?_modify] at hm
    rw [List.getElem?_set] at he
    by_cases E6:j=i
    ·subst E6
     simp only [if_true,YK] at he
     simp only [if_true,Array.getElem?_eq_getElem VX,Option.map_some] at hm
     obtain rfl:=Option.some.inj he
     obtain rfl:=Option.some.inj hm
     refine ⟨(g4 j L[j] y8[j] (List.getElem?_eq_getElem YK) (Array.getElem?_eq_getElem VX)).1,ky.mono k1,by rw [sJ] at kz;exact kz.mono k1⟩
    ·rw [if_neg E6] at he hm
     obtain ⟨s1,s2,s3⟩:=g4 i e m he hm
     exact ⟨s1,s2.mono k1,s3.mono k1⟩
   ·intro e he
    rcases List.mem_or_eq_of_mem_set he with h | h
    ·exact g5 e h
    ·subst h;exact g5 L[j] (List.getElem_mem YK)
   ·rw [List.map_set]
    have:(L.map (·.born)).set j L[j].born=L.map (·.born):=by
     exact Kz (by rw [List.getElem?_map,List.getElem?_eq_getElem YK];rfl)
    rw [this];exact g6
   ·rw [List.map_set]
    have:(L.map (·.k)).set j (gk key)=L.map (·.k):=by
     have hk:=(hLi j L[j] _ (List.getElem?_eq_getElem YK) q4).1
     exact Kz (by rw [List.getElem?_map,List.getElem?_eq_getElem YK,Option.map_some,hk])
    rw [this];exact g7)
  refine ⟨_,S,?_,r.heap hw.2.2 hw.1,hw.2.1⟩
  simp [execOp,Instr.mapUpdate,ex,run_underlying (aC.h (P:=P) (t:=t)),iw p5,iZ.check (P:=P) (t:=kt) ky,uj,q2,Instr.keyThatStays,VX,aaC,Fq _ p5]
theorem xi {K V:Type} [DecidableEq K] [DD K] {gk:K→AV} {gv:V→AV} {M:List (K×V)} {key:K} {v:V} {t kt vt:TypeId} {x y z:Operand} {b:Bk} {av:AV} {fj:Heap} [aC P t (.map kt vt)] [iZ P kt gk] (hx:dx tm x=some (.bC b)) (hy:dx tm y=some (gk key)) (hz:dx tm z=some av) (sJ:av=gv v) (u:sL hp b (.mp (M.map fun e=>(gk e.1,gv e.2))) b (.mp ((jl M key v).map fun e=>(gk e.1,gv e.2))) fj)
 (kk:ae P all rest ⟨n,tm,fj⟩ Q):ae P all (⟨none,.insert t x y z,ty,pos,af,none⟩ :: rest) ⟨n,tm,hp⟩ Q:=by
 intro w S a r
 have:=uk (all:=all) (rest:=rest) (ty:=ty) (pos:=pos) (af:=af) (t:=t) (kt:=kt) (vt:=vt) (gk:=gk) (gv:=gv) hx hy hz sJ u kk w S a r
 unfold wpList at this ⊢
 exact this
end rules
section rules
variable {P:Program} {all:Array Oper} {rest:List Oper} {n:Nat} {tm:List (Nat×AV)} {hp:Heap} {Q:St→Prop} {d:Nat} {ty:TypeId} {pos:String} {af:Array Edge}
theorem O5 {K V:Type} {gk:K→AV} {gv:V→AV} {M:List (K×V)} {t kt vt:TypeId} {x:Operand} {b:Bk} [aC P t (.map kt vt)] (hx:dx tm x=some (.bC b)) (f:oG hp b (.mp (M.map fun e=>(gk e.1,gv e.2)))):
 QV P ⟨some d,.call {callee:=.builtin .len,args:=#[x],argTypes:=#[t]},ty,pos,af,none⟩ ⟨n,tm,hp⟩ (.int .i64 (M.length:Nat)):=by
 intro w S a r
 obtain ⟨nb,hb,ex⟩:=(bj (σ:=⟨n,tm,hp⟩) r hx).vv
 obtain ⟨L,c,pW,NQ,oF,g1,g2,g3,_⟩:=r.hp.holds _ f.mem
 obtain rfl:NQ=nb:=by rw [g1] at hb;exact Option.some.inj hb
 have hl:oF.size=M.length:=by have:=pW.length_eq;simp at this;omega
 refine ⟨.int .i64 (M.length:Nat),fun w1 e1=>?_,.int _ _⟩
 simp [execOp,ex,resolve,invoke,builtin,Builtin.len_,run_underlying (aC.h (P:=P) (t:=t)),iw (e1.heap g2),goInt,hl]
end rules
theorem ax {α β:Type} {o:Option α} {f:α→Option β} {r:β} {C:Prop} (h:o.bind f=some r) (k:∀ v,o=some v→f v=some r→C):C:=
 let ⟨v,h1,h2⟩:=WR h;k v h1 h2
def HM:Heap→Nat→Option ((Bk×Ob)×Heap)
 | [],_=>none
 | e :: h,0=>some (e,h)
 | e :: h,i+1=>match HM h i with
   | some (x,h')=>some (x,e :: h')
   | none=>none
def Ft:Heap→List Nat→Option Heap
 | _,[]=>some []
 | h,i :: r=>match HM h i with
   | some (e,h')=>match Ft h' r with
     | some t=>some (e :: t)
     | none=>none
   | none=>none
theorem HN:∀ {h:Heap} {i:Nat} {e:Bk×Ob} {h':Heap},HM h i=some (e,h')→Ae h e.1 e.2 h'
 | [],_,_,_,hh=>by simp [HM] at hh
 | x :: h,0,e,h',hh=>by
   simp only [HM,Option.some.injEq,Prod.mk.injEq] at hh
   obtain ⟨rfl,rfl⟩:=hh
   exact .here
 | x :: h,i+1,e,h',hh=>by
   simp only [HM] at hh
   split at hh
   ·rename_i y h1 h2
    simp only [Option.some.injEq,Prod.mk.injEq] at hh
    obtain ⟨rfl,rfl⟩:=hh
    exact .next (HN h2)
   ·cases hh
theorem BW:∀ {l:List Nat} {h t:Heap},Ft h l=some t→HS h t
 | [],h,t,hh=>by
   simp only [Ft,Option.some.injEq] at hh
   subst hh;exact .nil
 | i :: r,h,t,hh=>by
   simp only [Ft] at hh
   split at hh
   ·rename_i e h' h1
    split at hh
    ·rename_i t' h2
     obtain rfl:=Option.some.inj hh
     exact .cons (HN h1) (BW h2)
    ·cases hh
   ·cases hh
def Rn (tm:List (Nat×AV)):List Nat→Option (List (Nat×AV))
 | []=>some []
 | s :: r=>match lk tm s with
   | some av=>match Rn tm r with
     | some l=>some ((s,av) :: l)
     | none=>none
   | none=>none
theorem KB {tm:List (Nat×AV)}:∀ {l:List Nat} {tD:List (Nat×AV)},Rn tm l=some tD→Hy tm tD
 | [],tD,h=>by
   simp only [Rn,Option.some.injEq] at h
   subst h;exact True.intro
 | s :: r,tD,h=>by
   simp only [Rn] at h
   split at h
   ·rename_i av h1
    split at h
    ·rename_i t' h2
     obtain rfl:=Option.some.inj h
     exact ⟨h1,KB h2⟩
    ·cases h
   ·cases h
theorem aj.lq {n:Nat} {tm tD:List (Nat×AV)} {hp fj:Heap} {T:St→Prop} (is:List Nat) (h:T ⟨n,tD,fj⟩) (ht:Rn tm (tD.map Prod.fst)=some tD) (hs:Ft hp is=some fj):aj ⟨n,tm,hp⟩ T:=
 aj.Z4 (KB ht) (BW hs) (aj.here h)
theorem oG.p0 {b:Bk} {o:Ob} {h:Heap}:oG ((b,o) :: h) b o:=.here
theorem sL.p0 {b b':Bk} {o o':Ob} {h:Heap}:sL ((b,o) :: h) b o b' o' ((b',o') :: h):=.here
theorem Ae.p0 {b:Bk} {o:Ob} {h:Heap}:Ae ((b,o) :: h) b o (h):=.here
theorem oG.p1 {e0:Bk×Ob} {b:Bk} {o:Ob} {h:Heap}:oG (e0 :: (b,o) :: h) b o:=.next .p0
theorem sL.p1 {e0:Bk×Ob} {b b':Bk} {o o':Ob} {h:Heap}:sL (e0 :: (b,o) :: h) b o b' o' (e0 :: (b',o') :: h):=.next .p0
theorem Ae.p1 {e0:Bk×Ob} {b:Bk} {o:Ob} {h:Heap}:Ae (e0 :: (b,o) :: h) b o (e0 :: h):=.next .p0
theorem oG.p2 {e0:Bk×Ob} {e1:Bk×Ob} {b:Bk} {o:Ob} {h:Heap}:oG (e0 :: e1 :: (b,o) :: h) b o:=.next .p1
theorem sL.p2 {e0:Bk×Ob} {e1:Bk×Ob} {b b':Bk} {o o':Ob} {h:Heap}:sL (e0 :: e1 :: (b,o) :: h) b o b' o' (e0 :: e1 :: (b',o') :: h):=.next .p1
theorem Ae.p2 {e0:Bk×Ob} {e1:Bk×Ob} {b:Bk} {o:Ob} {h:Heap}:Ae (e0 :: e1 :: (b,o) :: h) b o (e0 :: e1 :: h):=.next .p1
theorem oG.p3 {e0:Bk×Ob} {e1:Bk×Ob} {e2:Bk×Ob} {b:Bk} {o:Ob} {h:Heap}:oG (e0 :: e1 :: e2 :: (b,o) :: h) b o:=.next .p2
theorem sL.p3 {e0:Bk×Ob} {e1:Bk×Ob} {e2:Bk×Ob} {b b':Bk} {o o':Ob} {h:Heap}:sL (e0 :: e1 :: e2 :: (b,o) :: h) b o b' o' (e0 :: e1 :: e2 :: (b',o') :: h):=.next .p2
theorem Ae.p3 {e0:Bk×Ob} {e1:Bk×Ob} {e2:Bk×Ob} {b:Bk} {o:Ob} {h:Heap}:Ae (e0 :: e1 :: e2 :: (b,o) :: h) b o (e0 :: e1 :: e2 :: h):=.next .p2
theorem oG.p4 {e0:Bk×Ob} {e1:Bk×Ob} {e2:Bk×Ob} {e3:Bk×Ob} {b:Bk} {o:Ob} {h:Heap}:oG (e0 :: e1 :: e2 :: e3 :: (b,o) :: h) b o:=.next .p3
theorem sL.p4 {e0:Bk×Ob} {e1:Bk×Ob} {e2:Bk×Ob} {e3:Bk×Ob} {b b':Bk} {o o':Ob} {h:Heap}:sL (e0 :: e1 :: e2 :: e3 :: (b,o) :: h) b o b' o' (e0 :: e1 :: e2 :: e3 :: (b',o') :: h):=.next .p3
theorem Ae.p4 {e0:Bk×Ob} {e1:Bk×Ob} {e2:Bk×Ob} {e3:Bk×Ob} {b:Bk} {o:Ob} {h:Heap}:Ae (e0 :: e1 :: e2 :: e3 :: (b,o) :: h) b o (e0 :: e1 :: e2 :: e3 :: h):=.next .p3
theorem oG.p5 {e0:Bk×Ob} {e1:Bk×Ob} {e2:Bk×Ob} {e3:Bk×Ob} {e4:Bk×Ob} {b:Bk} {o:Ob} {h:Heap}:oG (e0 :: e1 :: e2 :: e3 :: e4 :: (b,o) :: h) b o:=.next .p4
theorem sL.p5 {e0:Bk×Ob} {e1:Bk×Ob} {e2:Bk×Ob} {e3:Bk×Ob} {e4:Bk×Ob} {b b':Bk} {o o':Ob} {h:Heap}:sL (e0 :: e1 :: e2 :: e3 :: e4 :: (b,o) :: h) b o b' o' (e0 :: e1 :: e2 :: e3 :: e4 :: (b',o') :: h):=.next .p4
theorem Ae.p5 {e0:Bk×Ob} {e1:Bk×Ob} {e2:Bk×Ob} {e3:Bk×Ob} {e4:Bk×Ob} {b:Bk} {o:Ob} {h:Heap}:Ae (e0 :: e1 :: e2 :: e3 :: e4 :: (b,o) :: h) b o (e0 :: e1 :: e2 :: e3 :: e4 :: h):=.next .p4
theorem oG.p6 {e0:Bk×Ob} {e1:Bk×Ob} {e2:Bk×Ob} {e3:Bk×Ob} {e4:Bk×Ob} {e5:Bk×Ob} {b:Bk} {o:Ob} {h:Heap}:oG (e0 :: e1 :: e2 :: e3 :: e4 :: e5 :: (b,o) :: h) b o:=.next .p5
theorem sL.p6 {e0:Bk×Ob} {e1:Bk×Ob} {e2:Bk×Ob} {e3:Bk×Ob} {e4:Bk×Ob} {e5:Bk×Ob} {b b':Bk} {o o':Ob} {h:Heap}:sL (e0 :: e1 :: e2 :: e3 :: e4 :: e5 :: (b,o) :: h) b o b' o' (e0 :: e1 :: e2 :: e3 :: e4 :: e5 :: (b',o') :: h):=.next .p5
theorem Ae.p6 {e0:Bk×Ob} {e1:Bk×Ob} {e2:Bk×Ob} {e3:Bk×Ob} {e4:Bk×Ob} {e5:Bk×Ob} {b:Bk} {o:Ob} {h:Heap}:Ae (e0 :: e1 :: e2 :: e3 :: e4 :: e5 :: (b,o) :: h) b o (e0 :: e1 :: e2 :: e3 :: e4 :: e5 :: h):=.next .p5
theorem oG.p7 {e0:Bk×Ob} {e1:Bk×Ob} {e2:Bk×Ob} {e3:Bk×Ob} {e4:Bk×Ob} {e5:Bk×Ob} {e6:Bk×Ob} {b:Bk} {o:Ob} {h:Heap}:oG (e0 :: e1 :: e2 :: e3 :: e4 :: e5 :: e6 :: (b,o) :: h) b o:=.next .p6
theorem Ae.p7 {e0:Bk×Ob} {e1:Bk×Ob} {e2:Bk×Ob} {e3:Bk×Ob} {e4:Bk×Ob} {e5:Bk×Ob} {e6:Bk×Ob} {b:Bk} {o:Ob} {h:Heap}:Ae (e0 :: e1 :: e2 :: e3 :: e4 :: e5 :: e6 :: (b,o) :: h) b o (e0 :: e1 :: e2 :: e3 :: e4 :: e5 :: e6 :: h):=.next .p6
section rules
variable {P:Program} {all:Array Oper} {rest:List Oper} {n:Nat} {tm:List (Nat×AV)} {hp:Heap} {Q:St→Prop} {d:Nat} {ty:TypeId} {pos:String} {af:Array Edge}
theorem rM {x:Operand} {av:AV} (hx:dx tm x=some av) (hn:Nat.blt d n=true) (k:ae P all rest ⟨n,(d,av) :: tm,hp⟩ Q):ae P all (⟨some d,.move x,ty,pos,af,none⟩ :: rest) ⟨n,tm,hp⟩ Q:=ae.qv (aO hx) hn k
theorem rA {x:Operand} {av:AV} (hx:dx tm x=some av) (hn:Nat.blt d n=true) (k:ae P all rest ⟨n,(d,av) :: tm,hp⟩ Q):ae P all (⟨some d,.assign x,ty,pos,af,none⟩ :: rest) ⟨n,tm,hp⟩ Q:=ae.qv (bR hx) hn k
theorem rF {x:Operand} {s:TypeId} {j off:Nat} {b:Bk} {o o':Nat} [mK P s j off] (hx:dx tm x=some (.ptr b o)) (ho:o+off=o') (hn:Nat.blt d n=true) (k:ae P all rest ⟨n,(d,.ptr b o') :: tm,hp⟩ Q):ae P all (⟨some d,.fieldAddr s x j,ty,pos,af,none⟩ :: rest) ⟨n,tm,hp⟩ Q:=ae.qv (ar hx ho) hn k
theorem rL {t:TypeId} {D:TypeDesc} {x:Operand} {b:Bk} {o:Nat} {cs:List AV} {av:AV} [aC P t D] (hD:TypeDesc.lZ D=false) (hx:dx tm x=some (.ptr b o)) (f:oG hp b (.cells cs)) (ho:cs[o]? =some av) (hn:Nat.blt d n=true) (k:ae P all rest ⟨n,(d,av) :: tm,hp⟩ Q):ae P all (⟨some d,.load t x,ty,pos,af,none⟩ :: rest) ⟨n,tm,hp⟩ Q:=ae.qv (aD hD hx f ho) hn k
theorem rT {c x y:Operand} {av:AV} (hc:dx tm c=some (.bool true)) (hx:dx tm x=some av) (hn:Nat.blt d n=true) (k:ae P all rest ⟨n,(d,av) :: tm,hp⟩ Q):ae P all (⟨some d,.pick c x y,ty,pos,af,none⟩ :: rest) ⟨n,tm,hp⟩ Q:=ae.qv (cQ hc hx) hn k
theorem rE {c x y:Operand} {av:AV} (hc:dx tm c=some (.bool false)) (hx:dx tm y=some av) (hn:Nat.blt d n=true) (k:ae P all rest ⟨n,(d,av) :: tm,hp⟩ Q):ae P all (⟨some d,.pick c x y,ty,pos,af,none⟩ :: rest) ⟨n,tm,hp⟩ Q:=ae.qv (eE hc hx) hn k
theorem rX {x:Operand} {i:Nat} {vs:List AV} {av:AV} (hx:dx tm x=some (.pT vs)) (hi:vs[i]? =some av) (hn:Nat.blt d n=true) (k:ae P all rest ⟨n,(d,av) :: tm,hp⟩ Q):ae P all (⟨some d,.extract x i,ty,pos,af,none⟩ :: rest) ⟨n,tm,hp⟩ Q:=ae.qv (CQ hx hi) hn k
theorem rN (h:Q ⟨n,tm,hp⟩):ae P all [] ⟨n,tm,hp⟩ Q:=ae.nil h
theorem rG {op:Op} {j:Nat} {want b:Bool} {s:Nat} (hj:(all[j]?).bind (·.dst)=some s) (hs:lk tm s=some (.bool b)) (hb:b=!want) (hn:Nat.blt d n=true) (k:ae P all rest ⟨n,(d,.raw undef) :: tm,hp⟩ Q):ae P all (⟨some d,op,ty,pos,af,some (j,want)⟩ :: rest) ⟨n,tm,hp⟩ Q:=ae.al hj hs hb hn k
theorem rY {op:Op} {j:Nat} {want b:Bool} {s:Nat} (hj:(all[j]?).bind (·.dst)=some s) (hs:lk tm s=some (.bool b)) (hb:b=want) (k:ae P all (⟨some d,op,ty,pos,af,none⟩ :: rest) ⟨n,tm,hp⟩ Q):ae P all (⟨some d,op,ty,pos,af,some (j,want)⟩ :: rest) ⟨n,tm,hp⟩ Q:=ae.an hj hs hb k
end rules
section rules
variable {P:Program} {R:St→Prop} {k:List It} {σ:St}
theorem tS {x y:Code} (h:ab P R (.code x :: .code y :: k) σ):ab P R (.code (.seq x y) :: k) σ:=ab.seq h
theorem tR {id:Nat} {l:List Oper} (h:ae P l.toArray l σ (ab P R k)):ab P R (.code (.region id l.toArray false) :: k) σ:=ab.region h
theorem az {id:Nat} {l:List Oper} {y:Code} (h:ae P l.toArray l σ (ab P R (.code y :: k))):ab P R (.code (.seq (.region id l.toArray false) y) :: k) σ:=ab.seq (ab.region h)
theorem tK (h:ab P R k σ):ab P R (.code .skip :: k) σ:=ab.skip h
end rules
end Go.Eng
