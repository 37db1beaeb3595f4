/- The engine: abstract values, the symbolic heap, one rule for each operation. No program in sight. -/
import Derived.Test.YtjgdilohhcheoaaGreatDoorEngC
import Derived.Laws.BytesArg
import Derived.Shelf.SlSortCmp.NoneTotal
set_option linter.unusedVariables false
set_option linter.unusedSectionVars false
namespace Go.Eng
open Go
variable [bz]
def depth:Nat:=100000
section rules
variable {P:Program} {all:Array Oper} {rest:List Oper} {n:Nat} {tm:List (Nat×AV)} {hp:Heap} {Q:St→Prop} {d:Nat} {ty:TypeId} {pos:String} {af:Array Edge}
end rules
theorem C1 {w:World} {S:Nat→Prop} {hp bY:Heap} {b:Bk} {sz k:Nat} {xs:List AV} (r:bZ w S hp) (u:iE hp b (.arr sz xs) b (.arr sz (xs.take k)) bY):bZ w S bY∧gY w S hp w S bY:=by
 obtain ⟨pre,post,e1,e2⟩:=u.split
 subst e1;subst e2
 have hblk:∀ n,Has (pre++(b,Ob.arr sz (xs.take k)) :: post) n↔Has (pre++(b,Ob.arr sz xs) :: post) n:=by
  intro n
  constructor<;>rintro ⟨x,hx,hb⟩<;>rcases bb.1 hx with rfl | hx
  ·exact ⟨(b,.arr sz xs),bb.2 (.inl rfl),hb⟩
  ·exact ⟨x,bb.2 (.inr hx),hb⟩
  ·exact ⟨(b,.arr sz (xs.take k)),bb.2 (.inl rfl),hb⟩
  ·exact ⟨x,bb.2 (.inr hx),hb⟩
 refine ⟨⟨?_,?_,?_,r.slt,r.gQ⟩,⟨rfl,rfl,rfl,Nat.le_refl _,fun n hn=>⟨hn,rfl⟩,fun n _ _=>⟨rfl,id⟩,fun n hn=>.inl ((hblk n).1 hn),fun _=>Nat.le_refl _⟩⟩
 ·have:=r.nodup
  simpa [List.flatMap_append,List.flatMap_cons,eb,Ob.more] using this
 ·intro x hx
  rcases bb.1 hx with rfl | hx
  ·obtain ⟨h0,h1,h2⟩:=r.holds (b,.arr sz xs) (bb.2 (.inl rfl))
   refine ⟨fun x hx=>h0 x (List.mem_of_mem_take hx),Nat.le_trans (by simp only [List.length_take];omega) h1,h2.imp id ?_⟩
   rintro ⟨n,vs,E,g1,g2,g3,g4⟩
   refine ⟨n,vs,E,g1,g2,g3,fun i c v hc hv=>?_⟩
   have hp:∃ t,flat xs=flat (xs.take k)++t:=⟨flat (xs.drop k),by
    show xs.flatMap AV.cells=(xs.take k).flatMap AV.cells++(xs.drop k).flatMap AV.cells
    rw [← List.flatMap_append,List.take_append_drop]⟩
   obtain ⟨t,ht⟩:=hp
   refine g4 i c v ?_ hv
   rw [ht,List.getElem?_append_left (List.getElem?_eq_some_iff.1 hc).1]
   exact hc
  ·exact r.holds x (bb.2 (.inr hx))
 ·intro x hx n hn
  rcases bb.1 hx with rfl | hx
  ·have:=r.sep (b,.arr sz xs) (bb.2 (.inl rfl)) n hn
   exact ⟨fun h=>(this.1 h).elim,fun h=>h.elim⟩
  ·exact r.sep x (bb.2 (.inr hx)) n hn
theorem aj.take {n k:Nat} {tm:List (Nat×AV)} {hp bY:Heap} {T:St→Prop} {b:Bk} {sz:Nat} {xs:List AV} (u:iE hp b (.arr sz xs) b (.arr sz (xs.take k)) bY) (kk:aj ⟨n,tm,bY⟩ T):aj ⟨n,tm,hp⟩ T:=by
 refine aj.step (yy:=⟨n,tm,bY⟩) (fun w S a r=>?_) kk
 obtain ⟨g1,g2⟩:=C1 r.hp u
 exact ⟨_,S,rfl,⟨r.size,r.defers,r.tm,g1⟩,g2⟩
section rules
variable {P:Program} {all:Array Oper} {rest:List Oper} {n:Nat} {tm:List (Nat×AV)} {hp:Heap} {Q:St→Prop} {d:Nat} {ty:TypeId} {pos:String} {af:Array Edge}
theorem yj {α:Type} {Xs V:List α} {L H:Int} (h:yN Xs L H=some V):V.length=H.toNat - L.toNat∧L.toNat+V.length≤Xs.length∧V=(Xs.drop L.toNat).take V.length:=by
 obtain ⟨⟨h0,h1,h2⟩,rfl⟩:=qX h
 have:((Xs.drop L.toNat).take (H.toNat - L.toNat)).length=H.toNat - L.toNat:=by simp;omega
 refine ⟨this,by rw [this];omega,by rw [this]⟩
theorem yR {α:Type} {Xs Zs:List α} {t e:TypeId} {i:TypeInfo} {x:Operand} {lo hi:Option Operand} {l h:Option Int} {sz:Nat} {b:Bk} {L H:Int} [ay P t (.slice e)] [aP P e i] (hx:bS tm x=some (.sl sz b 0 Xs.length)) (eF:Nat.beq i.size sz=true) (hl:Eb tm lo l) (hh:Eb tm hi h)
 (eL:eZ l=L) (eH:fU Xs.length h=H) (hv:yN Xs L H=some Zs):QV P ⟨some d,.slice t x lo hi none,ty,pos,af,none⟩ ⟨n,tm,hp⟩ (.sl sz b L.toNat Zs.length):=by
 obtain ⟨⟨h0,h1,h2⟩,_⟩:=qX hv
 have hlen:=(yj hv).1
 subst eL;subst eH
 have:=rS (P:=P) (d:=d) (ty:=ty) (pos:=pos) (af:=af) (n:=n) (tm:=tm) (hp:=hp) (t:=t) (e:=e) hx eF hl hh h0 h1 h2
 rw [Nat.zero_add] at this
 rw [hlen];exact this
theorem aj.PL {α:Type} {g:α→AV} {Xs V:List α} {H:Int} {T:St→Prop} {b:Bk} {sz:Nat} {bY:Heap} (hv:yN Xs 0 H=some V) (u:iE hp b (.arr sz (Xs.map g)) b (.arr sz (V.map g)) bY) (kk:aj ⟨n,tm,bY⟩ T):aj ⟨n,tm,hp⟩ T:=by
 refine aj.take (k:=V.length) (xs:=Xs.map g) (b:=b) (sz:=sz) ?_ kk
 rw [← List.map_take]
 have:=(yj hv).2.2
 simp only [Int.toNat_zero,List.drop_zero] at this
 rw [← this];exact u
end rules
inductive Ae (hp:Heap):AV→AV→Prop
 | co {a a':AV} (c:Co hp a a'):Ae hp a a'
 | agg (cs lP:List AV) (hl:lP.length=cs.length) (h:∀ (i:Nat) c c',cs[i]? =some c→lP[i]? =some c'→Ae hp c c'):Ae hp (.agg cs) (.agg lP)
 | mA (cs lP:List AV) (hl:lP.length=cs.length) (h:∀ (i:Nat) c c',cs[i]? =some c→lP[i]? =some c'→Ae hp c c'):Ae hp (.mA cs) (.mA lP)
 | list (sz:Nat) (xs ys:List AV) (hn:ys.length=xs.length) (hl:(flat ys).length=(flat xs).length) (he:∀ y∈ys,El sz y) (h:∀ (i:Nat) c c',(flat xs)[i]? =some c→(flat ys)[i]? =some c'→Ae hp c c'):Ae hp (.list sz xs) (.list sz ys)
inductive EA (hp:Heap):List AV→List AV→Prop
 | nil:EA hp [] []
 | cons {a a':AV} {l l':List AV} (c:Ae hp a a') (k:EA hp l l'):EA hp (a :: l) (a' :: l')
theorem Ae.r {hp:Heap} {a:AV}:Ae hp a a:=.co (.refl _)
theorem Ae.n {hp:Heap} {sz:Nat}:Ae hp .nil (.list sz []):=.co (.nil _)
theorem EA.each {hp:Heap}:∀ {l l':List AV},EA hp l l'→l'.length=l.length∧∀ (i:Nat) c c',l[i]? =some c→l'[i]? =some c'→Ae hp c c'
 | [],_,.nil=>⟨rfl,fun i c c' h=>by simp at h⟩
 | _ :: _,_,.cons c k=>by
   obtain ⟨g1,g2⟩:=EA.each k
   refine ⟨by simp [g1],fun i c1 c2 h1 h2=>?_⟩
   match i with
   | 0=>simp at h1 h2;subst h1;subst h2;assumption
   | i+1=>exact g2 i c1 c2 (by simpa using h1) (by simpa using h2)
theorem Ae.H9 {hp:Heap} {sz:Nat} {xs ys:List AV} (k:EA hp (flat xs) (flat ys)) (hn:Nat.beq ys.length xs.length=true) (he:sQ sz ys=true):Ae hp (.list sz xs) (.list sz ys):=
 .list sz xs ys (Nat.eq_of_beq_eq_true hn) k.each.1 (jg he) k.each.2
theorem Ae.at {w:World} {S:Nat→Prop} {hp:Heap} {a a':AV} {v:Value} (c:Ae hp a a') (r:bZ w S hp) (h:At w S a v):At w S a' v:=by
 induction c generalizing v with
 | co c=>exact c.at r h
 | agg cs lP hl _ ih=>
   cases h with
   | agg _ vs h1 h2=>
     refine .agg lP vs (by rw [hl,h1]) (fun i c v hc hv=>?_)
     have hi:i < cs.length:=by rw [← hl];exact (List.getElem?_eq_some_iff.1 hc).1
     exact ih i cs[i] c (by simp [hi]) hc (h2 i _ _ (by simp [hi]) hv)
 | mA cs lP hl _ ih=>
   cases h with
   | mA _ vs h1 h2=>
     refine .mA lP vs (by rw [hl,h1]) (fun i c v hc hv=>?_)
     have hi:i < cs.length:=by rw [← hl];exact (List.getElem?_eq_some_iff.1 hc).1
     exact ih i cs[i] c (by simp [hi]) hc (h2 i _ _ (by simp [hi]) hv)
 | list sz xs ys hn hl he _ ih=>
   cases h with
   | list _ _ a cap vs g1 g2 g3 g4 g5=>
     rw [← hn]
     refine .list sz ys a cap vs he (by rw [hl,g2]) (fun i c v hc hv=>?_) g4 (by rw [hn];exact g5)
     have hi:i < (flat xs).length:=by rw [← hl];exact (List.getElem?_eq_some_iff.1 hc).1
     exact ih i (flat xs)[i] c (by simp [hi]) hc (g3 i _ _ (by simp [hi]) hv)
theorem aj.Sh {n s:Nat} {tm:List (Nat×AV)} {hp:Heap} {T:St→Prop} {av dt:AV} (hs:lk tm s=some av) (c:Ae hp av dt) (k:aj ⟨n,(s,dt) :: tm,hp⟩ T):aj ⟨n,tm,hp⟩ T:=by
 refine aj.step (yy:=⟨n,(s,dt) :: tm,hp⟩) (fun w S a r=>⟨_,S,rfl,⟨r.size,r.defers,fun t av h=>?_,r.hp⟩,gY.refl _ _ _⟩) k
 simp only [lk] at h
 split at h
 ·rename_i hb
  obtain rfl:s=t:=by simpa using hb
  obtain rfl:=Option.some.inj h
  obtain ⟨v,h1,h2⟩:=r.tm s _ hs
  exact ⟨v,h1,c.at r.hp h2⟩
 ·exact r.tm t av h
def lX {R:Type} (n:Nat) (len:R→Nat) (x:Option R):Option R:=x.bind fun r=>if len r=n then some r else none
theorem lu {R:Type} {n:Nat} {len:R→Nat} {x:Option R} {r:R} (h:lX n len x=some r):x=some r:=by
 unfold lX at h
 cases x with
 | none=>cases h
 | some y=>
   simp only [Option.bind_some] at h
   split at h
   ·exact h
   ·cases h
theorem dP {R:Type} {n:Nat} {len:R→Nat} {x:Option R} {r:R} (h:lX n len x=some r):len r=n:=by
 unfold lX at h
 cases x with
 | none=>cases h
 | some y=>
   simp only [Option.bind_some] at h
   split at h
   ·rename_i hh;obtain rfl:=Option.some.inj h;exact hh
   ·cases h
theorem yS {sz:Nat} {x:AV} (h:x.cells.length=sz):∀ (k i:Nat),i < k * sz→(flat (List.replicate k x))[i]? =x.cells[i % sz]?
 | 0,i,hi=>by simp at hi
 | k+1,i,hi=>by
   rw [List.replicate_succ,show flat (x :: List.replicate k x)=x.cells++flat (List.replicate k x) from rfl]
   by_cases gZ:i < sz
   ·rw [List.getElem?_append_left (by omega),Nat.mod_eq_of_lt gZ]
   ·rw [List.getElem?_append_right (by omega),h,yS h k (i - sz) (by rw [Nat.add_mul] at hi;omega)]
    rw [Nat.mod_eq_sub_mod (a:=i) (by omega)]
section rules
variable {P:Program} {all:Array Oper} {rest:List Oper} {n:Nat} {tm:List (Nat×AV)} {hp:Heap} {Q:St→Prop} {d:Nat} {ty:TypeId} {pos:String} {af:Array Edge}
end rules
end Go.Eng
set_option linter.unusedSimpArgs false
namespace Go.Eng
open Go Go.Sort Go.Proofs
variable [bz]
structure L5 (P:Program) (f:FuncId) (k:Nat):Prop where
 some_:∀ (enc:Nat→List Value) (_:∀ x,(enc x).length=k) (_:∀ x,∀ v∈enc x,v.oneCell'=true) (cf:Nat→Nat→Int) (_:SWO (ltOf cf)) (g:Nat) (cb:Array Value) (cr off cap:Nat) (d:Array Nat) (w:World)
  (_:∀ args w,(callFunc g args).run P w=.ok (.enter g args) w) (_:CmpLays P g cb enc k cf cr off d.size w) (_:HoldsK enc k w cr off d) (_:cr < w.heap.size) (_:d.size < 4611686018427387904),
  Calls P f #[.slice (some ⟨cr,off,none⟩) d.size cap,.func (.func g) #[] cb] w fun e w'=>
   e=.returned (.tuple #[])∧∃ n os,w'=sortWorldK enc k w cr off n (pdq (ltOf cf) d 0 d.size (Lib.bitLen d.size) true true) os
 none_:∀ (p:Option Addr) (cap:Nat) (fv:Value) (w:World),Calls P f #[.slice p 0 cap,fv] w fun e w'=>e=.returned (.tuple #[])∧w'=w
def tQ {α:Type} (x:α) (r:List α) (i:Nat):α:=(x :: r).getD i x
def uq {α:Type} (f:α→α→Option Int) (x:α) (r:List α) (i j:Nat):Int:=(f (tQ x r i) (tQ x r j)).getD 0
noncomputable def FC {α:Type} (f:α→α→Option Int):List α→Option (List α)
 | []=>some []
 | x :: r=>@ite _ (r.length+1 < 4611686018427387904∧(∀ a∈x :: r,∀ b∈x :: r,∃ u,f a b=some u)∧SWO (ltOf (uq f x r))) (Classical.propDecidable _)
     (some ((pdq (ltOf (uq f x r)) (Array.range (r.length+1)) 0 (r.length+1) (Lib.bitLen (r.length+1)) true true).toList.map (tQ x r))) none
theorem yT {α:Type} (f:α→α→Option Int) (x:α) (r:List α):FC f (x :: r)=@ite _ (r.length+1 < 4611686018427387904∧(∀ a∈x :: r,∀ b∈x :: r,∃ u,f a b=some u)∧SWO (ltOf (uq f x r))) (Classical.propDecidable _)
 (some ((pdq (ltOf (uq f x r)) (Array.range (r.length+1)) 0 (r.length+1) (Lib.bitLen (r.length+1)) true true).toList.map (tQ x r))) none:=rfl
theorem jq {α:Type} (x:α) (r:List α) (i:Nat):tQ x r i∈x :: r:=by
 unfold tQ
 rw [List.getD_eq_getElem?_getD]
 rcases h:(x :: r)[i]? with _ | y
 ·simp
 ·exact List.mem_of_getElem? h
theorem ve (enc:Nat→List Value) (k:Nat) (w:World) (cr off m:Nat) (dk:Array Nat) (os:Array Obj) {n:Nat} (hn:n < w.heap.size) (qN:n≠cr):(sortWorldK enc k w cr off m dk os).heap[n]? =w.heap[n]?:=by
 unfold sortWorldK putRowK putRow
 rw [heap_grow_old _ _ (by simpa [mapBlock] using hn)]
 simp only [mapBlock,heap_ahead,Array.getElem?_modify]
 rw [if_neg (fun h=>qN h.symm)]
theorem yU (enc:Nat→List Value) (k:Nat) (w:World) (cr off m:Nat) (dk:Array Nat) (os:Array Obj):w.heap.size≤(sortWorldK enc k w cr off m dk os).heap.size:=by
 unfold sortWorldK putRowK
 simp
theorem Gw (enc:Nat→List Value) (k:Nat) (w:World) (cr m:Nat) (dk:Array Nat) (os:Array Obj) {vs:Array Value} {E:TypeId} (hb:w.heap[cr]? =some (.cells vs E (0,0))):(sortWorldK enc k w cr 0 m dk os).heap[cr]? =some (.cells (putCells id 0 (flatK enc k dk) vs) E (0,0)):=by
 have gZ:cr < w.heap.size:=by
  rcases Nat.lt_or_ge cr w.heap.size with h | h
  ·exact h
  ·simp [Array.getElem?_eq_none h] at hb
 unfold sortWorldK putRowK putRow
 rw [heap_grow_old _ _ (by simpa [mapBlock] using gZ)]
 simp only [mapBlock,heap_ahead,Array.getElem?_modify]
 rw [if_pos trivial,hb]
 rfl
theorem Ext.grown {w w':World} (hd:bz.dr) (e:Ext w w'):∃ q os,w'=grow (w.drewN q) os:=by
 refine ⟨w'.drawn - w.drawn,w'.heap.extract w.heap.size w'.heap.size,?_⟩
 obtain ⟨h',t',d',o',Yw⟩:=w'
 have e1:=e.os;have e2:=e.tape;have e3:=e.output;have e4:=e.drawn hd;have e5:=e.size;have e6:=e.same
 simp only at e1 e2 e3 e4 e5 e6
 subst e1 e2 e3
 unfold grow World.drewN
 simp only [World.mk.injEq,and_true,true_and]
 refine ⟨?_,by omega⟩
 apply Array.ext_getElem?
 intro i
 by_cases hi:i < w.heap.size
 ·rw [e6 i hi,Array.getElem?_append_left hi]
 ·rw [Array.getElem?_append_right (by omega),Array.getElem?_extract]
  by_cases h2:i < h'.size
  ·rw [if_pos (by omega)]
   congr 1;omega
  ·rw [if_neg (by omega),Array.getElem?_eq_none (by omega)]
theorem EC {P:Program} {T:Type} {g:T→AV} {f:FuncId} {k:Nat} (K:L5 P f k) (Ia:Nat.blt 0 k=true) {gf:FuncId} [bf P gf] {C:List AV} {fn:T→T→Option Int} (Ky:∀ {x y:T} {u:Int},fn x y=some u→@Pu tO P gf (g x :: g y :: C) (I u))
 (Si:∀ x,g x=.agg (g x).cells) {Xs Ys:List T} {b:Bk} (h:FC fn Xs=some Ys):aH P f [.sl k b 0 Xs.length,.func (.func gf) C] [(b,.arr k (Xs.map g))] (T0 [(b,.arr k (Ys.map g))] (.mA [])):=by
 have Ia:0 < k:=Nat.lt_of_lt_of_le (Nat.lt_of_succ_le (Nat.le_of_ble_eq_true Ia)) (Nat.le_refl _)
 intro w S vs r hl ha
 obtain ⟨v0,v1,rfl⟩:∃ v0 v1,vs=#[v0,v1]:=by
  match vs,hl with
  | ⟨[v0,v1]⟩,_=>exact ⟨v0,v1,rfl⟩
 have a0:=ha 0 _ v0 rfl rfl
 have a1:=ha 1 _ v1 rfl rfl
 obtain ⟨oa,cap,rfl,e2⟩:=a0.mB
 obtain ⟨cv,rfl,wA,Yx⟩:=a1.yz
 match Xs,h with
 | [],h=>
   obtain rfl:=Option.some.inj h
   refine (K.none_ oa cap _ w).mono ?_
   rintro e w' ⟨rfl,rfl⟩
   exact ⟨_,.mA [],_,S,rfl,⟨rfl,rfl⟩,.mA [] #[] rfl (fun i c v hc=>by simp at hc),r,gY.refl _ _ _⟩
 | x :: xr,h=>
   rw [yT] at h
   by_cases hc:(xr.length+1 < 4611686018427387904∧(∀ a∈x :: xr,∀ b∈x :: xr,∃ u,fn a b=some u)∧SWO (ltOf (uq fn x xr)))
   ·rw [if_pos hc] at h
    obtain rfl:=Option.some.inj h
    obtain ⟨hlen,Sj,hO⟩:=hc
    obtain ⟨h0,h1,h2⟩:=r.holds _ (List.mem_singleton.2 rfl)
    simp only [List.length_map,List.length_cons] at h1
    rcases h2 with ⟨_,CN⟩ | ⟨m,row,E,hb,Gq,eF,lU⟩
    ·have UY:b.cap=0:=CN
     omega
    rcases e2 with ⟨hn,_,_,_,_⟩ | ⟨m',xo,rfl,hle,Yy⟩ | ⟨m',ad,_,_,Ps,_⟩
    ·rw [hn] at hb;cases hb
    ·obtain rfl:m'=m:=by rw [xo] at hb;exact Option.some.inj hb
     have Sk:m' < w.heap.size:=by
      rcases Nat.lt_or_ge m' w.heap.size with h | h
      ·exact h
      ·simp [Array.getElem?_eq_none h] at Gq
     have nS:¬ S m':=fun hs=>by have:=(r.sep _ (List.mem_singleton.2 rfl) m' (jZ hb)).1 hs;exact this
     let ix:Nat→Nat:=fun i=>if i < xr.length+1 then i else 0
     have JO:∀ i,ix i < xr.length+1:=fun i=>by simp only [ix];split<;>omega
     have Sl:∀ i,(x :: xr)[ix i]? =some (tQ x xr i):=by
      intro i
      simp only [ix,tQ,List.getD_eq_getElem?_getD]
      split
      ·rename_i hi
       rw [List.getElem?_eq_getElem (by simpa using hi)];simp
      ·rename_i hi
       rw [List.getElem?_eq_none (l:=x :: xr) (i:=i) (by simp;omega)];simp
     have QZ:(xr.length+1) * k≤row.size:=by rw [eF];exact Nat.mul_le_mul_right k h1
     let enc:Nat→List Value:=fun i=>(row.toList.drop (ix i * k)).take k
     have Kz:∀ i,(enc i).length=k:=by
      intro i
      have:ix i * k+k≤row.size:=by
       have:=Nat.mul_le_mul_right k (show ix i+1≤xr.length+1 from JO i)
       rw [Nat.add_mul,Nat.one_mul] at this
       omega
      simp only [enc,List.length_take,List.length_drop,Array.length_toList];omega
     have PM:∀ i j,j < k→(enc i)[j]? =row[ix i * k+j]?:=by
      intro i j hj
      simp only [enc,List.getElem?_take,if_pos hj,List.getElem?_drop,Array.getElem?_toList]
     have CU:∀ i j,j < k→(flat ((x :: xr).map g))[ix i * k+j]? =(g (tQ x xr i)).cells[j]?:=by
      intro i j hj
      exact pr h0 (by rw [List.getElem?_map,Sl i];rfl) j hj
     have wA:∀ i,(g (tQ x xr i)).cells.length=k:=fun i=>(h0 _ (List.mem_map.2 ⟨_,jq x xr i,rfl⟩)).1
     have uT:∀ i,∀ c∈(g (tQ x xr i)).cells,c.one=true:=fun i=>(h0 _ (List.mem_map.2 ⟨_,jq x xr i,rfl⟩)).2
     have M0:∀ i,gX w S (g (tQ x xr i)).cells (enc i).toArray:=by
      intro i j c v hc hv
      have hj:j < k:=by rw [← wA i];exact (List.getElem?_eq_some_iff.1 hc).1
      refine lU (ix i * k+j) c v (by rw [CU i j hj];exact hc) ?_
      rw [← PM i j hj]
      simpa using hv
     have Sm:∀ i,∀ v∈enc i,v.oneCell'=true:=by
      intro i v hv
      obtain ⟨j,hj,rfl⟩:=List.getElem_of_mem hv
      have Yz:j < k:=by rw [Kz i] at hj;exact hj
      have UZ:j < (g (tQ x xr i)).cells.length:=by rw [wA i];exact Yz
      exact (M0 i j (g (tQ x xr i)).cells[j] (enc i)[j] (by simp [UZ]) (by simp [hj])).Hx (uT i _ (List.getElem_mem UZ))
     have ta:∀ (d:Array Nat) (t:Nat),t < d.size * k→(flatK enc k d)[t]! =(enc d[t / k]!)[t % k]!:=fun d t ht=>get_flatK enc k d t ht
     have PN:HoldsK enc k w m' 0 (Array.range (xr.length+1)):=by
      intro j hj
      rw [size_flatK,Array.size_range] at hj
      have hdiv:j / k < xr.length+1:=(Nat.div_lt_iff_lt_mul Ia).2 hj
      have KA:j % k < k:=Nat.mod_lt _ Ia
      have Q5:j < row.size:=by omega
      have e1:(flatK enc k (Array.range (xr.length+1)))[j]! =row[j]:=by
       rw [ta _ _ (by simpa using hj)]
       have:(Array.range (xr.length+1))[j / k]! =j / k:=by
        rw [getElem!_pos _ _ (by simpa using hdiv)];simp
       rw [this]
       have hv:=PM (j / k) (j % k) KA
       have:ix (j / k)=j / k:=by simp only [ix];rw [if_pos hdiv]
       rw [this,Nat.div_add_mod'] at hv
       rw [Array.getElem?_eq_getElem Q5] at hv
       rw [List.getElem!_eq_getElem?_getD,hv];rfl
      constructor
      ·simp only [World.cell?,Gq,id,e1,Nat.zero_add,Option.isSome_none,Bool.false_eq_true,if_false]
       rw [Array.getElem?_eq_getElem Q5]
      ·simp [World.frozen?,Gq]
     have Sn:CmpLays P gf cv enc k (uq fn x xr) m' 0 (Array.range (xr.length+1)).size w:=by
      intro mm os dk hdk i j
      obtain ⟨u,hu⟩:=Sj _ (jq x xr i) _ (jq x xr j)
      have hW:∀ n,S n→S n∧(sortWorldK enc k w m' 0 mm dk os).heap[n]? =w.heap[n]?:=fun n hs=>
       ⟨hs,ve enc k w m' 0 mm dk os (r.slt n hs) (fun e=>nS (e▸hs))⟩
      have L6:gX (sortWorldK enc k w m' 0 mm dk os) S (g (tQ x xr i) :: g (tQ x xr j) :: C) (#[.agg (enc i).toArray,.agg (enc j).toArray]++cv):=by
       intro q c v hc hv
       have ag:∀ i,At (sortWorldK enc k w m' 0 mm dk os) S (g (tQ x xr i)) (.agg (enc i).toArray):=fun i=>by
        rw [Si (tQ x xr i)]
        exact .agg _ _ (by rw [wA i];simp [Kz i]) (fun a c v hc hv=>((M0 i) a c v hc hv).mono hW)
       match q with
       | 0=>
         rw [Array.getElem?_append_left (by simp)] at hv
         simp at hc hv;subst hc;subst hv;exact ag i
       | 1=>
         rw [Array.getElem?_append_left (by simp)] at hv
         simp at hc hv;subst hc;subst hv;exact ag j
       | q+2=>
         simp only [List.getElem?_cons_succ] at hc
         rw [Array.getElem?_append_right (by simp)] at hv
         simp only [List.size_toArray,List.length_cons,List.length_nil,Nat.add_sub_cancel] at hv
         exact (Yx q c v hc (by simpa using hv)).mono hW
      refine (Ky hu _ S _ (@sY tO _ _ (fun n hn=>Nat.lt_of_lt_of_le (r.slt n hn) (yU _ _ _ _ _ _ _ _)) (fun g o ho=>⟨(r.gQ g o ho).1,AB (hW g (r.gQ g o ho).1).2 (r.gQ g o ho).2⟩)) (by simp [wA,‹C.length=cv.size›];omega) L6).mono ?_
      rintro e w' ⟨v,rr,h',S',rfl,hq,h3,h4,h5⟩
      obtain rfl:=hq
      rw [h3.bR]
      refine ⟨?_,@Ext.grown tO _ _ trivial (@gY.Fo tO _ _ _ _ _ h5)⟩
      unfold uq
      rw [hu];rfl
     have Q6:(Array.range (xr.length+1)).size=xr.length+1:=Array.size_range
     have L7:=K.some_ enc Kz Sm (uq fn x xr) hO gf cv m' 0 cap (Array.range (xr.length+1)) w (fun args w=>rR gf args w) Sn PN Sk (by rw [Q6];exact hlen)
     rw [Q6] at L7
     simp only [Nat.zero_mul]
     refine L7.mono ?_
     rintro e w' ⟨rfl,q,os,rfl⟩
     have M1:=pdq_sorts (ltOf (uq fn x xr)) hO (Array.range (xr.length+1)) 0 (xr.length+1) (Lib.bitLen (xr.length+1)) true true (Nat.zero_le _) (by rw [Q6];exact Nat.le_refl _) (Or.inl rfl)
     generalize uo:pdq (ltOf (uq fn x xr)) (Array.range (xr.length+1)) 0 (xr.length+1) (Lib.bitLen (xr.length+1)) true true=d' at M1 ⊢
     have KB:d'.size=xr.length+1:=by rw [M1.1.1,Q6]
     have hW:∀ n,S n→S n∧(sortWorldK enc k w m' 0 q d' os).heap[n]? =w.heap[n]?:=fun n hs=>
      ⟨hs,ve enc k w m' 0 q d' os (r.slt n hs) (fun e=>nS (e▸hs))⟩
     have Og:∀ y∈(d'.toList.map (tQ x xr)).map g,El k y:=by
      intro y hy
      simp only [List.mem_map] at hy
      obtain ⟨z,⟨i,_,rfl⟩,rfl⟩:=hy
      exact h0 _ (List.mem_map.2 ⟨_,jq x xr i,rfl⟩)
     have hh:Go.Eng.Holds (sortWorldK enc k w m' 0 q d' os) S b (.arr k ((d'.toList.map (tQ x xr)).map g)):=by
      refine ⟨Og,by simp [KB];omega,.inr ⟨m',_,E,hb,Gw enc k w m' q d' os Gq,by simp [putCells,eF],?_⟩⟩
      intro j c v hc hv
      have CD:j < (xr.length+1) * k:=by
       have:=(List.getElem?_eq_some_iff.1 hc).1
       rw [bu Og] at this
       simpa [KB] using this
      have hdiv:j / k < xr.length+1:=(Nat.div_lt_iff_lt_mul Ia).2 CD
      have KA:j % k < k:=Nat.mod_lt _ Ia
      have Q5:j < row.size:=by omega
      have YA:(d'.toList.map (tQ x xr))[j / k]? =some (tQ x xr d'[j / k]!):=by
       rw [List.getElem?_map,Array.getElem?_toList,Array.getElem?_eq_getElem (by omega),getElem!_pos d' (j / k) (by omega)];rfl
      have J8:(g (tQ x xr d'[j / k]!)).cells[j % k]? =some c:=by
       rw [← pr (sz:=k) Og (i:=j / k) (x:=g (tQ x xr d'[j / k]!)) (by rw [List.getElem?_map,YA];rfl) (j % k) KA,Nat.div_add_mod']
       exact hc
      have Q7:(enc d'[j / k]!)[j % k]? =some v:=by
       simp only [putCells,Array.getElem?_mapIdx,Array.getElem?_eq_getElem Q5,Option.map_some,Option.some.injEq] at hv
       rw [if_pos ⟨Nat.zero_le _,by rw [size_flatK,KB];omega⟩,Nat.sub_zero,ta d' j (by rw [KB];exact CD)] at hv
       have gZ:j % k < (enc d'[j / k]!).length:=by rw [Kz];exact KA
       rw [List.getElem?_eq_getElem gZ,← hv]
       simp only [id,getElem!_pos (enc d'[j / k]!) (j % k) gZ]
      exact (M0 _ _ _ _ J8 (by simpa using Q7)).mono hW
     have PQ:=yU enc k w m' 0 q d' os
     refine ⟨_,.mA [],_,S,rfl,⟨rfl,rfl⟩,.mA [] #[] rfl (fun i c v hc=>by simp at hc),⟨r.nodup,fun e he=>by rw [List.mem_singleton] at he;subst he;exact hh,fun e he n hn=>?_,fun n hn=>Nat.lt_of_lt_of_le (r.slt n hn) PQ,fun g o ho=>⟨(r.gQ g o ho).1,AB (hW g (r.gQ g o ho).1).2 (r.gQ g o ho).2⟩⟩,?_⟩
     ·rw [List.mem_singleton] at he;subst he
      replace hn:=(uR rfl).1 hn
      rw [hb] at hn
      obtain rfl:=Option.some.inj hn
      exact ⟨fun hs=>(nS hs).elim,fun hf=>hf.elim⟩
     ·refine ⟨rfl,rfl,rfl,PQ,hW,fun n hn YB=>⟨ve enc k w m' 0 q d' os hn (fun e=>YB ⟨_,List.mem_singleton.2 rfl,by rw [e];exact jZ hb⟩),id⟩,?_,?_⟩
      ·rintro n ⟨e,he,qa⟩
       rw [List.mem_singleton] at he;subst he
       exact .inl ⟨_,List.mem_singleton.2 rfl,qa⟩
      ·intro _
       show w.drawn≤(sortWorldK enc k w m' 0 q d' os).drawn
       show w.drawn≤w.drawn+q
       omega
    ·simp at Ps
   ·rw [if_neg hc] at h;cases h
end Go.Eng
namespace Go.Eng
open Go
variable [bz]
def FD {α:Type} (xs:List α) (L:Int) (n:Nat) (z:α):List α:=xs.take L.toNat++List.replicate n z++xs.drop (L.toNat+n)
theorem BO {α:Type} {xs v:List α} {L H:Int} {z:α} (h:yN xs L H=some v):(FD xs L v.length z).length=xs.length:=by
 obtain ⟨⟨h0,h1,h2⟩,_⟩:=qX h
 have:=(yj h).1
 unfold FD
 simp only [List.length_append,List.length_take,List.length_replicate,List.length_drop]
 omega
section rules
variable {P:Program} {all:Array Oper} {rest:List Oper} {n:Nat} {tm:List (Nat×AV)} {hp:Heap} {Q:St→Prop} {d:Nat} {ty:TypeId} {pos:String} {af:Array Edge}
theorem KC {t e:TypeId} {i:TypeInfo} {z:Value} {x:Operand} {b:Bk} {L N sz:Nat} {xs:List AV} {zx:AV} {bY:Heap} [ay P t (.slice e)] [aP P e i] (hx:bS tm x=some (.sl sz b L N)) (hz:i.zero=some z) (L8:yC z=zx) (eF:Nat.beq i.size sz=true) (sB:N9 sz zx=true) (vv:Nat.blt 0 sz=true) (hL:L+N≤xs.length)
 (u:iE hp b (.arr sz xs) b (.arr sz (xs.take L++List.replicate N zx++xs.drop (L+N))) bY) (kk:ah P all rest ⟨n,tm,bY⟩ Q):
 ah P all (⟨none,.call {callee:=.builtin .clear,args:=#[x],argTypes:=#[t]},ty,pos,af,none⟩ :: rest) ⟨n,tm,hp⟩ Q:=by
 have eF:=Nat.eq_of_beq_eq_true eF
 have vv:0 < sz:=Nat.lt_of_lt_of_le (Nat.lt_of_succ_le (Nat.le_of_ble_eq_true vv)) (Nat.le_refl _)
 have hE:=yE sB
 refine ah.Cv rfl fun w S a r=>?_
 obtain ⟨oa,cap,e1,e2⟩:=(aN (σ:=⟨n,tm,hp⟩) r hx).mB
 rcases Nat.eq_zero_or_pos N with h0 | h0
 ·subst h0
  have pz:xs.take L++List.replicate 0 zx++xs.drop (L+0)=xs:=by simp
  rw [pz] at u
  obtain ⟨p,q,YC,YD⟩:=u.split
  obtain rfl:bY=hp:=by rw [YC,YD]
  refine ⟨.tuple #[],w,S,⟨n,tm,bY⟩,?_,r,gY.refl _ _ _,kk⟩
  cases oa<;>simp [execOp,e1,resolve,invoke,builtin,Builtin.clear_,run_underlying (ay.h (P:=P) (t:=t))]
 ·rcases e2 with ⟨_,_,hl,_,_⟩ | ⟨m,hb,rfl,h1,h2⟩ | ⟨_,_,_,_,hl,_⟩
  ·omega
  ·obtain ⟨g0,g1,⟨g2,_⟩ | ⟨m',vs,E,g2,g3,g4,g5⟩⟩:=iO r.hp (.inl u.lp)
   ·rw [g2] at hb;cases hb
   obtain rfl:m'=m:=by rw [g2] at hb;exact Option.some.inj hb
   obtain ⟨zl,U0⟩:=mT w S z (by rw [L8];exact hE.2)
   rw [L8] at zl U0
   have wB:z.cells.size=sz:=by rw [← zl];exact hE.1
   have Q8:∀ y∈List.replicate N zx,El sz y:=fun y hy=>by rw [List.eq_of_mem_replicate hy];exact hE
   have Fg:(Builtin.zeroCells z.cells N).size=N * sz:=by rw [size_zeroCells,wB]
   have Fk:(flat (List.replicate N zx)).length=(Builtin.zeroCells z.cells N).size:=by rw [bu Q8,Fg];simp
   have PR:gX w S (flat (List.replicate N zx)) (Builtin.zeroCells z.cells N):=by
    intro j c v hc hv
    have hj:j < N * sz:=by
     have:=(List.getElem?_eq_some_iff.1 hc).1
     rw [bu Q8] at this;simpa using this
    rw [yS hE.1 N j hj] at hc
    refine U0 (j % sz) c v hc ?_
    unfold Builtin.zeroCells at hv
    simp only [Array.getElem?_map,Option.map_eq_some_iff] at hv
    obtain ⟨q,hq,rfl⟩:=hv
    have:q=j:=by
     rw [Array.getElem?_eq_some_iff] at hq
     obtain ⟨k1,k2⟩:=hq
     simpa using k2.symm
    subst this
    rw [wB]
    have gZ:q % sz < z.cells.size:=by rw [wB];exact Nat.mod_lt _ vv
    simp [gZ]
   have uT:=qQ Fk PR (fun c hc=>by
    unfold flat at hc
    rw [List.mem_flatMap] at hc
    obtain ⟨y,hy,YE⟩:=hc
    exact (Q8 y hy).2 c YE)
   have Fh:=bu g0
   have hmul:(L+N) * sz≤xs.length * sz:=Nat.mul_le_mul_right _ hL
   have xz:xs.length * sz≤b.cap * sz:=Nat.mul_le_mul_right _ g1
   rw [Nat.add_mul] at hmul
   have xp:=run_storeCells_at (P:=P) m' (L * sz) E (Builtin.zeroCells z.cells N).toList 0 vs w g3 (by simp [Fg];omega) uT
   simp only [Nat.add_zero] at xp
   have CU:flat (xs.take L++List.replicate N zx++xs.drop (L+N))=(flat xs).take (L * sz)++flat (List.replicate N zx)++(flat xs).drop (L * sz+(flat (List.replicate N zx)).length):=by
    rw [jJ,jJ,nI xs L g0,qS xs (L+N) g0,Fk,Fg,Nat.add_mul]
   have HU:=fun (w':World) (ha:gX w' S (flat xs) vs) (hb:gX w' S (flat (List.replicate N zx)) (Builtin.zeroCells z.cells N))=>Fp (L * sz) (by rw [Fh,g4];exact xz) ha Fk hb (by rw [Fk,Fg,Fh];omega)
   have yO:(vs.toList.take (L * sz)++(Builtin.zeroCells z.cells N).toList++vs.toList.drop (L * sz+(Builtin.zeroCells z.cells N).toList.length)).toArray.size=b.cap * sz:=by
    simp [Fg];omega
   generalize (vs.toList.take (L * sz)++(Builtin.zeroCells z.cells N).toList++vs.toList.drop (L * sz+(Builtin.zeroCells z.cells N).toList.length)).toArray=uU at xp HU yO
   have c:GB w (w.setRow m' uU) b.cr:=⟨⟨rfl,rfl,rfl,by simp,fun k hk qN=>setRow_other w m' k _ (fun e=>qN (by rw [g2,e]))⟩,fun _=>Nat.le_refl _⟩
   have k1:∀ n,S n→S n∧(w.setRow m' uU).heap[n]? =w.heap[n]?:=by
    intro k hk
    refine ⟨hk,setRow_other w m' k _ (fun e=>?_)⟩
    subst e
    exact (r.hp.sep _ u.lp.mem k (jZ g2)).1 hk
   have hh:=kM r.hp u c id id ⟨fun y hy=>?_,by simp;omega,.inr ⟨m',uU,E,g2,setRow_heap w m' vs _ E _ g3,yO,by rw [CU];exact HU _ (g5.mono k1) (PR.mono k1)⟩⟩ (.inl rfl)
   ·refine ⟨.tuple #[],w.setRow m' uU,S,⟨n,tm,bY⟩,?_,r.heap hh.2.2 hh.1,hh.2.1,kk⟩
    obtain ⟨N',rfl⟩:∃ k,N=k+1:=⟨N - 1,by omega⟩
    simp [execOp,e1,resolve,invoke,builtin,Builtin.clear_,run_underlying (ay.h (P:=P) (t:=t)),zeroValue,typeInfo,aP.h (P:=P) (t:=e),hz,xp]
   ·rcases List.mem_append.1 hy with h | h
    ·rcases List.mem_append.1 h with h | h
     ·exact g0 y (List.mem_of_mem_take h)
     ·exact Q8 y h
    ·exact g0 y (List.mem_of_mem_drop h)
  ·omega
theorem KD {α:Type} {g:α→AV} {Z:α} {Xs V:List α} {H:Int} {t e:TypeId} {i:TypeInfo} {z:Value} {x:Operand} {b:Bk} {L:Int} {sz:Nat} {bY:Heap} [ay P t (.slice e)] [aP P e i] (hx:bS tm x=some (.sl sz b L.toNat V.length)) (hz:i.zero=some z) (L8:yC z=g Z) (eF:Nat.beq i.size sz=true) (sB:N9 sz (g Z)=true) (vv:Nat.blt 0 sz=true) (hv:yN Xs L H=some V)
 (u:iE hp b (.arr sz (Xs.map g)) b (.arr sz ((FD Xs L V.length Z).map g)) bY) (kk:ah P all rest ⟨n,tm,bY⟩ Q):
 ah P all (⟨none,.call {callee:=.builtin .clear,args:=#[x],argTypes:=#[t]},ty,pos,af,none⟩ :: rest) ⟨n,tm,hp⟩ Q:=by
 obtain ⟨⟨h0,h1,h2⟩,_⟩:=qX hv
 have hlen:=(yj hv).1
 refine KC (xs:=Xs.map g) hx hz L8 eF sB vv (by simp;omega) ?_ kk
 have:(FD Xs L V.length Z).map g=(Xs.map g).take L.toNat++List.replicate V.length (g Z)++(Xs.map g).drop (L.toNat+V.length):=by
  unfold FD
  simp
 rw [← this]
 exact u
end rules
end Go.Eng
namespace Go.Eng
open Go Go.Sort Go.Proofs
variable [bz]
theorem wN {α:Type} {g:α→AV} (hc:∀ x,(g x).cells=[g x]):∀ xs:List α,flat (xs.map g)=xs.map g
 | []=>rfl
 | x :: r=>by rw [List.map_cons,ij,hc,wN hc r];rfl
end Go.Eng
namespace Go.Eng
open Go
variable [bz]
def AV.Ib:AV→Bool
 | .sl _ _ _ _=>true
 | .ptr _ _=>true
 | .agg cs=>CJ cs
 | v=>v.BD
def Gx:List AV→Bool
 | []=>true
 | c :: r=>c.Ib&&Gx r
def AV.PS:AV→Bool
 | .mA cs=>Gx cs
 | .agg cs=>Gx cs
 | v=>v.Ib
theorem yk {w:World} {S S':Nat→Prop} {av:AV} {v:Value} (h:At w S av v) (hn:av.Ib=true):At w S' av v:=by
 cases h with
 | agg cs vs hl h=>exact .agg cs vs hl fun i c u hc hu=>sU (h i c u hc hu) (sV hn c (List.mem_of_getElem? hc))
 | sl sz b off len n cap hb h1 h2=>exact .sl sz b off len n cap hb h1 h2
 | yv sz b hb=>exact .yv sz b hb
 | Hg sz b off n ad hb=>exact .Hg sz b off n ad hb
 | ptr b o n hb=>exact .ptr b o n hb
 | int k n=>exact .int k n
 | bool b=>exact .bool b
 | str s=>exact .str s
 | nil=>exact .nil
 | raw v=>exact .raw v
 | _=>simp [AV.Ib,AV.BD] at hn
theorem vI:∀ {cs:List AV},Gx cs=true→∀ c∈cs,c.Ib=true
 | [],_,c,hc=>by simp at hc
 | x :: r,h,c,hc=>by
   simp only [Gx,Bool.and_eq_true] at h
   rcases List.mem_cons.1 hc with rfl | hc
   ·exact h.1
   ·exact vI h.2 c hc
theorem M3 {w:World} {S S':Nat→Prop} {av:AV} {v:Value} (h:At w S av v) (hn:av.PS=true):At w S' av v:=by
 cases av with
 | mA cs=>
   cases h with
   | mA _ vs hl h=>exact .mA cs vs hl fun i c u hc hu=>yk (h i c u hc hu) (vI hn c (List.mem_of_getElem? hc))
 | agg cs=>
   cases h with
   | agg _ vs hl h=>exact .agg cs vs hl fun i c u hc hu=>yk (h i c u hc hu) (vI hn c (List.mem_of_getElem? hc))
 | _=>exact yk h hn
def Ob.KE:Ob→Prop
 | .cells cs=>Gx cs=true
 | .arr _ xs=>∀ x∈xs,CJ x.cells=true
 | _=>False
inductive ED:Heap→Prop
 | nil:ED []
 | cons {b:Bk} {o:Ob} {h:Heap} (c:o.KE) (k:ED h):ED ((b,o) :: h)
theorem ED.mem {h:Heap} (k:ED h):∀ e∈h,e.2.KE:=by
 induction k with
 | nil=>intro e he;simp at he
 | cons c k ih=>
   intro e he
   rcases List.mem_cons.1 he with rfl | he
   ·exact c
   ·exact ih e he
theorem KE.sD {α:Type} {g:α→AV} {sz:Nat} {Xs:List α} (h:∀ x,CJ (g x).cells=true):(Ob.arr sz (Xs.map g)).KE:=fun x hx=>by
 obtain ⟨y,_,rfl⟩:=List.mem_map.1 hx
 exact h y
theorem Holds.PS {w:World} {S S':Nat→Prop} {b:Bk} {o:Ob} (h:Holds w S b o) (hn:o.KE):Holds w S' b o:=by
 cases o with
 | cells cs=>
   obtain ⟨h0,n,vs,E,h1,h2,h3,h4⟩:=h
   exact ⟨h0,n,vs,E,h1,h2,h3,fun i c v hc hv=>yk (h4 i c v hc hv) (vI hn c (List.mem_of_getElem? hc))⟩
 | arr sz xs=>
   obtain ⟨h0,h1,h2⟩:=h
   refine ⟨h0,h1,h2.imp id ?_⟩
   rintro ⟨n,vs,E,g1,g2,g3,g4⟩
   refine ⟨n,vs,E,g1,g2,g3,fun i c v hc hv=>sU (g4 i c v hc hv) ?_⟩
   have hm:=List.mem_of_getElem? hc
   unfold flat at hm
   rw [List.mem_flatMap] at hm
   obtain ⟨x,hx,Pj⟩:=hm
   exact sV (hn x hx) c Pj
 | xR _ _=>exact hn.elim
 | mp _=>exact hn.elim
 | Ei _ _=>exact hn.elim
 | Pf _ _ _=>exact hn.elim
 | D8 _ _ _=>exact hn.elim
 | bU _=>exact hn.elim
 | N6 _ _ _ _=>exact hn.elim
 | Pg _ _=>exact hn.elim
 | Ph _=>exact hn.elim
section rules
variable {P:Program} {all:Array Oper} {rest:List Oper} {n:Nat} {tm:List (Nat×AV)} {hp:Heap} {Q:St→Prop} {d:Nat} {ty:TypeId} {pos:String} {af:Array Edge}
theorem KF {f:FuncId} {args:List Operand} {ts:Array TypeId} {l l':List AV} {h0 hr:Heap} {Qc:AV→Heap→Prop} [bf P f] (hl:wH tm args=some l) (c:aH P f l' h0 Qc) (co:sX hr l l') (hs:hp.Perm (h0++hr)) (hn:Nat.blt d n=true)
 (kk:∀ r h',Qc r h'→r.PS=true∧ED h'∧ah P all rest ⟨n,(d,r) :: tm,h'++hr⟩ Q):ah P all (⟨some d,.call {callee:=.value (.func f),args:=args.toArray,argTypes:=ts},ty,pos,af,none⟩ :: rest) ⟨n,tm,hp⟩ Q:=by
 refine ah.Fc rfl fun w S a r=>⟨f,_,od a w,?_⟩
 obtain ⟨g1,g2⟩:=qU (σ:=⟨n,tm,hp⟩) r hl
 have rp:=r.hp.perm hs
 have M4:bZ w S hr:=rp.sub (List.sublist_append_right _ _)
 have L9:bZ w S h0:=rp.sub (List.sublist_append_left _ _)
 obtain ⟨g3,g4⟩:=sX.at M4 co g1 g2
 have M5:∀ m,Has h0 m→¬ Has hr m:=by
  rintro m ⟨x,hx,Ed⟩ ⟨y,hy,YF⟩
  have:=rp.nodup
  rw [List.flatMap_append,List.nodup_append] at this
  exact this.2.2 m (List.mem_flatMap.2 ⟨x,hx,Ed⟩) m (List.mem_flatMap.2 ⟨y,hy,YF⟩) rfl
 have rh:bZ w (SB S hr) h0:=by
  refine ⟨L9.nodup,fun e he=>(L9.holds e he).mono (fun m hm=>⟨.inl hm,rfl⟩) (fun m _=>rfl),fun e he m hm=>?_,fun m hm=>?_,fun g o ho=>⟨.inl (L9.gQ g o ho).1,(L9.gQ g o ho).2⟩⟩
  ·constructor
   ·rintro (h | h)
    ·exact (L9.sep e he m hm).1 h
    ·exact (M5 m ⟨e,he,hm⟩ h).elim
   ·exact fun h=>.inl ((L9.sep e he m hm).2 h)
  ·rcases hm with h | h
   ·exact L9.slt m h
   ·exact M4.lt h
 refine (c w (SB S hr) _ rh (by simpa using g3) g4).mono ?_
 rintro e w' ⟨v,res,h',S',rfl,hq,h3,h4,h5⟩
 obtain ⟨k1,k2,k3⟩:=kk res h' hq
 have Sp:∀ m,S m→(S' m∧(Has hr m→S m))∧w'.heap[m]? =w.heap[m]?:=fun m hm=>⟨⟨(h5.iH m (.inl hm)).1,fun _=>hm⟩,(h5.iH m (.inl hm)).2⟩
 have nJ:bZ w' (fun m=>S' m∧(Has hr m→S m)) (h'++hr):=by
  refine ⟨?_,?_,?_,fun m hm=>h4.slt m hm.1,fun g o ho=>⟨⟨(h4.gQ g o ho).1,fun _=>(L9.gQ g o ho).1⟩,(h4.gQ g o ho).2⟩⟩
  ·rw [List.flatMap_append,List.nodup_append]
   refine ⟨h4.nodup,M4.nodup,fun x hx y hy Ea=>?_⟩
   subst Ea
   obtain ⟨e1,MM,Ke⟩:=List.mem_flatMap.1 hx
   obtain ⟨e2,Hy,Q9⟩:=List.mem_flatMap.1 hy
   rcases h5.new x ⟨e1,MM,Ke⟩ with h | h
   ·exact M5 x h ⟨e2,Hy,Q9⟩
   ·have:=M4.lt ⟨e2,Hy,Q9⟩;omega
  ·intro e he
   rcases List.mem_append.1 he with he | he
   ·exact (h4.holds e he).PS (k2.mem e he)
   ·exact (M4.holds e he).mono Sp (fun m hm=>(h5.iH m (.inr ⟨e,he,hm⟩)).2)
  ·intro e he m hm
   rcases List.mem_append.1 he with he | he
   ·rw [← h4.sep e he m hm]
    refine ⟨fun h=>h.1,fun h=>⟨h,fun hh=>?_⟩⟩
    rcases h5.new m ⟨e,he,hm⟩ with h6 | h6
    ·exact (M5 m h6 hh).elim
    ·have:=M4.lt hh;omega
   ·rw [← M4.sep e he m hm]
    exact ⟨fun h=>h.2 ⟨e,he,hm⟩,fun h=>⟨(h5.iH m (.inl h)).1,fun _=>h⟩⟩
 have KG:∀ m,Has hp m↔Has h0 m∨Has hr m:=by
  intro m
  constructor
  ·rintro ⟨x,hx,hb⟩
   rcases List.mem_append.1 (hs.mem_iff.1 hx) with h | h
   ·exact .inl ⟨x,h,hb⟩
   ·exact .inr ⟨x,h,hb⟩
  ·rintro (⟨x,hx,hb⟩ | ⟨x,hx,hb⟩)
   ·exact ⟨x,hs.mem_iff.2 (List.mem_append_left _ hx),hb⟩
   ·exact ⟨x,hs.mem_iff.2 (List.mem_append_right _ hx),hb⟩
 refine ⟨v,fun m=>S' m∧(Has hr m→S m),⟨n,(d,res) :: tm,h'++hr⟩,rfl,(r.heap Sp nJ).put hn (M3 h3 k1),?_,k3⟩
 refine ⟨h5.os,h5.tape,h5.output,h5.size,Sp,fun m hm hh=>?_,fun m hm=>?_,h5.drawn⟩
 ·have n0:¬ Has h0 m:=fun h=>hh ((KG m).2 (.inl h))
  have nr:¬ Has hr m:=fun h=>hh ((KG m).2 (.inr h))
  obtain ⟨q1,q2⟩:=h5.other m hm n0
  refine ⟨q1,fun h=>?_⟩
  rcases q2 h.1 with h | h
  ·exact h
  ·exact (nr h).elim
 ·obtain ⟨x,hx,hb⟩:=hm
  rcases List.mem_append.1 hx with hx | hx
  ·rcases h5.new m ⟨x,hx,hb⟩ with h | h
   ·exact .inl ((KG m).2 (.inl h))
   ·exact .inr h
  ·exact .inl ((KG m).2 (.inr ⟨x,hx,hb⟩))
theorem vJ {su:Type} {f:FuncId} {args:List Operand} {ts:Array TypeId} {l l':List AV} {h0 hr:Heap} {H H':su→Heap} {V:su→AV} [bf P f] (hl:wH tm args=some l) (c:aH P f l' h0 (T1 H V)) (hs:zT hp h0 hr) (co:sX hr l l') (ha:∀ b,nK (H b) hr=some (H' b)) (hV:∀ b,(V b).PS=true) (hH:∀ b,ED (H b)) (hn:Nat.blt d n=true)
 (kk:∀ b,ah P all rest ⟨n,(d,V b) :: tm,H' b⟩ Q):ah P all (⟨some d,.call {callee:=.value (.func f),args:=args.toArray,argTypes:=ts},ty,pos,af,none⟩ :: rest) ⟨n,tm,hp⟩ Q:=
 KF hl c co hs.perm hn (fun r h' ⟨b,e1,e2⟩=>by subst e1;subst e2;rw [kO (ha b)];exact ⟨hV b,hH b,kk b⟩)
end rules
class wC (K:Type) where
 lt:K→K→Bool
instance:wC Int:=⟨fun a b=>decide (a < b)⟩
instance:wC Bool:=⟨fun a b=>!a&&b⟩
instance:wC (List UInt8):=⟨fun a b=>Op.bytesLess a b⟩
section plain
variable {K V:Type}
def o3 [DecidableEq K] (m:List (K×V)) (k:K):List (K×V):=m.filter (fun e=>decide (e.1≠k))
def Af [wC K] (k:K) (v:V):List (K×V)→List (K×V)
 | []=>[(k,v)]
 | e :: r=>if wC.lt e.1 k=true then e :: Af k v r else (k,v) :: e :: r
def gm [DecidableEq K] [wC K] (m:List (K×V)) (k:K) (v:V):List (K×V):=Af k v (o3 m k)
def bB [DecidableEq K]:List (K×V)→K→Option V
 | [],_=>none
 | e :: r,k=>if e.1=k then some e.2 else bB r k
def qn [DecidableEq K] (m:List (K×V)) (k:K) (z:V):Option V:=some ((bB m k).getD z)
def A1 [DecidableEq K] (m:List (K×V)) (k:K) (z:V):Option (V×Bool):=some ((bB m k).getD z,(bB m k).isSome)
theorem rb [wC K] (k:K) (v:V):∀ (m:List (K×V)),(Af k v m).Perm ((k,v) :: m)
 | []=>List.Perm.refl _
 | e :: r=>by
   unfold Af
   split
   ·exact (List.Perm.cons e (rb k v r)).trans (List.Perm.swap _ _ _)
   ·exact List.Perm.refl _
theorem r6 {α β:Type} (f:α→β):∀ (l:List β) (M:List α),l.Perm (M.map f)→∃ M':List α,M'.Perm M∧l=M'.map f
 | [],M,h=>by
   have:=h.nil_eq
   rw [eq_comm,List.map_eq_nil_iff] at this
   subst this;exact ⟨[],List.Perm.refl _,rfl⟩
 | x :: t,M,h=>by
   have hx:x∈M.map f:=h.mem_iff.1 (by simp)
   obtain ⟨e,he,rfl⟩:=List.mem_map.1 hx
   obtain ⟨p,q,rfl⟩:=List.append_of_mem he
   have h2:(f e :: t).Perm (f e :: (p++q).map f):=h.trans (by rw [List.map_append,List.map_cons,List.map_append];exact List.perm_middle)
   obtain ⟨M',h3,rfl⟩:=r6 f t (p++q) (List.Perm.cons_inv h2)
   exact ⟨e :: M',(List.Perm.cons e h3).trans List.perm_middle.symm,rfl⟩
theorem yV [DecidableEq K] {k:K} {v:V}:∀ {m:List (K×V)},bB m k=some v→(k,v)∈m
 | [],h=>by cases h
 | e :: r,h=>by
   unfold bB at h
   split at h
   ·rename_i hk
    obtain rfl:=Option.some.inj h
    subst hk;simp
   ·exact List.mem_cons_of_mem _ (yV h)
theorem tc [DecidableEq K] {k:K} {v:V}:∀ {m:List (K×V)},(m.map Prod.fst).Nodup→(k,v)∈m→bB m k=some v
 | [],_,h=>by simp at h
 | e :: r,hn,h=>by
   rw [List.map_cons,List.nodup_cons] at hn
   unfold bB
   rcases List.mem_cons.1 h with rfl | h
   ·simp
   ·rw [if_neg (fun hk=>hn.1 (List.mem_map.2 ⟨_,h,hk.symm⟩))]
    exact tc hn.2 h
theorem nN [DecidableEq K] {k:K}:∀ {m:List (K×V)},bB m k=none↔∀ e∈m,e.1≠k
 | []=>by simp [bB]
 | e :: r=>by
   unfold bB
   split
   ·rename_i hk;simp [hk]
   ·rename_i hk
    rw [nN (m:=r)]
    simp [hk]
theorem pj [DecidableEq K] {m m':List (K×V)} (hp:m'.Perm m) (hn:(m'.map Prod.fst).Nodup) (k:K):bB m' k=bB m k:=by
 have Kx:(m.map Prod.fst).Nodup:=(hp.map _).nodup_iff.1 hn
 cases h:bB m' k with
 | none=>
   symm
   rw [nN] at h ⊢
   exact fun e he=>h e (hp.mem_iff.2 he)
 | some v=>exact (tc Kx (hp.mem_iff.1 (yV h))).symm
theorem A2 [DecidableEq K] {m:List (K×V)} {k:K} (h:bB m k=none):o3 m k=m:=by
 rw [nN] at h
 unfold o3
 exact List.filter_eq_self.2 fun e he=>by simpa using h e he
end plain
noncomputable def uH {E A:Type} (es:List E) (g:List E→Option A):Option A:=
 open Classical in if h:∃ r,∀ p,p.Perm es→g p=some r then some h.choose else none
theorem EE {E A:Type} {es:List E} {g:List E→Option A} {r:A} (h:uH es g=some r):∀ p,p.Perm es→g p=some r:=by
 unfold uH at h
 split at h
 ·rename_i hx
  obtain rfl:=Option.some.inj h
  exact hx.choose_spec
 ·cases h
theorem Ic {E A:Type} {es:List E} {g:List E→Option A} {r:A} (h:∀ p,p.Perm es→g p=some r):uH es g=some r:=by
 unfold uH
 have hx:∃ r,∀ p,p.Perm es→g p=some r:=⟨r,h⟩
 rw [dif_pos hx]
 have:=hx.choose_spec es (List.Perm.refl _)
 rw [h es (List.Perm.refl _)] at this
 exact this.symm
def oY {E S A:Type} (b:E→S→Option (S⊕A)) (f:S→Option A):List E→S→Option A
 | [],s=>f s
 | e :: p,s=>(b e s).bind (after (oY b f p))
theorem Ie {E S A:Type} {b:E→S→Option (S⊕A)} {f:S→Option A} {rest uI:List E} {e:E} {s:S} {a:A} (h:∀ p,p.Perm rest→oY b f p s=some a) (hp:rest.Perm (e :: uI)):
 ∃ z,b e s=some z∧(∀ y,z=.inl y→∀ p,p.Perm uI→oY b f p y=some a)∧∀ a',z=.inr a'→a'=a:=by
 have h1:=h (e :: uI) hp.symm
 unfold oY at h1
 obtain ⟨z,hz,h2⟩:=R6 h1
 refine ⟨z,hz,fun y hy p hq=>?_,fun a' ha=>?_⟩
 ·have h3:=h (e :: p) ((List.Perm.cons e hq).trans hp.symm)
  unfold oY at h3
  rw [hz,hy] at h3
  exact h3
 ·rw [ha] at h2
  exact Option.some.inj h2
theorem M6 {E S A:Type} {b:E→S→Option (S⊕A)} {f:S→Option A} {rest:List E} {s:S} {a:A} (h:∀ p,p.Perm rest→oY b f p s=some a) (hn:rest=[]):f s=some a:=by
 subst hn;exact h [] (List.Perm.refl _)
theorem aa.BP {P:Program} {R:St→Prop} {k:List It} {σ:St} {body:Code} {E S A:Type} (b:E→S→Option (S⊕A)) (f:S→Option A) (mk:List E→S→St→Prop) {a:A} {FE:List E} {s0:S} (h:uH FE (fun p=>oY b f p s0)=some a) (h0:aj σ (mk FE s0))
 (hs:∀ rest s σ (J:St→Prop),mk rest s σ→(∀ p,p.Perm rest→oY b f p s=some a)→(∀ uI s' aI,uI.length < rest.length→(∀ p,p.Perm uI→oY b f p s'=some a)→aj aI (mk uI s')→J aI)→aa P R (.code body :: .stop J :: k) σ):
 aa P R (.code (.loop body) :: k) σ:=by
 refine aa.LU (fun m σ=>∃ rest s,rest.length=m∧(∀ p,p.Perm rest→oY b f p s=some a)∧mk rest s σ) FE.length (h0.mono fun aI R7=>⟨FE,s0,rfl,EE h,R7⟩) ?_
 rintro m yy ⟨rest,s,hm,hH,iQ⟩
 refine hs rest s yy _ iQ hH (fun uI s' aI hl PT hi=>⟨uI.length,by omega,hi.mono fun Eo hk=>⟨uI,s',rfl,PT,hk⟩⟩)
def td {K:Type} [DecidableEq K] (k:K):List K→List MapEntry→Nat→Option (Nat×Value)
 | k' :: ks,e :: es,i=>if k'=k then some (i,e.val) else td k ks es (i+1)
 | _,_,_=>none
class il (P:Program) (t:TypeId) {K:Type} [DecidableEq K] (g:K→AV):Prop where
 inj:∀ a b,g a=g b→a=b
 check:∀ {w:World} {S:Nat→Prop} {k:K} {v:Value},At w S (g k) v→∀ (b:Bool) (w1:World),(Instr.checkKey b 10000 t v).run P w1=.ok () w1
 find:∀ {w:World} {S:Nat→Prop} {k:K} {v:Value},At w S (g k) v→∀ (es:List MapEntry) (ks:List K),ks.length=es.length→(∀ (i:Nat) k' e,ks[i]? =some k'→es[i]? =some e→At w S (g k') e.key)→∀ w1:World,(Instr.findKey t v es).run P w1=.ok (td k ks es 0) w1
 bits:∀ {w:World} {S:Nat→Prop} {k:K} {v u:Value},At w S (g k) v→At w S (g k) u→Instr.sameBits 10000 v u=true
theorem tX {K:Type} [DecidableEq K] {d:TypeDesc} {v:Value} {k:K} {q:K→Value→Prop} (hq:∀ k' u,q k' u→Instr.sameNow d v u=some (decide (k'=k))):∀ (es:List MapEntry) (ks:List K) (i:Nat),ks.length=es.length→(∀ (i:Nat) k' e,ks[i]? =some k'→es[i]? =some e→q k' e.key)→Instr.findNow d v es i=some (td k ks es i)
 | [],[],i,_,_=>rfl
 | [],k' :: ks,i,hl,_=>by simp at hl
 | e :: es,[],i,hl,_=>by simp at hl
 | e :: es,k' :: ks,i,hl,h=>by
   unfold Instr.findNow td
   rw [hq k' e.key (h 0 k' e rfl rfl)]
   by_cases hk:k'=k
   ·simp [hk]
   ·simp only [hk,decide_false,if_false]
    exact tX hq es ks (i+1) (by simpa using hl) (fun i k' e h1 h2=>h (i+1) k' e (by simpa using h1) (by simpa using h2))
theorem EF (a b:ByteArray):((a==b)=true)↔a=b:=by
 cases a with
 | mk a=>
   cases b with
   | mk b=>
     show (a==b)=true↔_
     rw [beq_iff_eq]
     exact ⟨fun h=>by rw [h],fun h=>by cases h;rfl⟩
theorem il.int {P:Program} {t:TypeId} {q:IntKind} (h:P.underlying t=some (.int q)):il P t (K:=Int) (fun n=>AV.int q n) where
 inj a b h:=by simpa using h
 check:=fun {w S k v} hv b w1=>by
  rw [hv.bR]
  have key:∀ n:Nat,(Instr.checkKey b (n+1) t (Value.int q k)).run P w1=.ok () w1:=fun n=>by simp [Instr.checkKey,run_underlying h]
  exact key 9999
 find:=fun {w S k v} hv es ks hl hk w1=>by
  rw [hv.bR]
  have hf:=tX (d:=(.int q)) (v:=(Value.int q k)) (k:=k) (q:=fun k' u=>u=(Value.int q k')) (fun k' u hu=>by subst hu;simp only [Instr.sameNow,if_true];congr 1;rw [Bool.eq_iff_iff];simp;exact eq_comm) es ks 0 hl (fun i k' e h1 h2=>(hk i k' e h1 h2).bR)
  simp [Instr.findKey,run_underlying h,hf]
 bits:=fun {w S k v u} h1 h2=>by rw [h1.bR,h2.bR];simp [Instr.sameBits]
theorem il.bool {P:Program} {t:TypeId} (h:P.underlying t=some .bool):il P t (K:=Bool) AV.bool where
 inj a b h:=by simpa using h
 check:=fun {w S k v} hv b w1=>by
  rw [hv.kS]
  have key:∀ n:Nat,(Instr.checkKey b (n+1) t (Value.bool k)).run P w1=.ok () w1:=fun n=>by simp [Instr.checkKey,run_underlying h]
  exact key 9999
 find:=fun {w S k v} hv es ks hl hk w1=>by
  rw [hv.kS]
  have hf:=tX (d:=.bool) (v:=(Value.bool k)) (k:=k) (q:=fun k' u=>u=(Value.bool k')) (fun k' u hu=>by subst hu;simp only [Instr.sameNow];congr 1;rw [Bool.eq_iff_iff];simp;exact eq_comm) es ks 0 hl (fun i k' e h1 h2=>(hk i k' e h1 h2).kS)
  simp [Instr.findKey,run_underlying h,hf]
 bits:=fun {w S k v u} h1 h2=>by rw [h1.kS,h2.kS];simp [Instr.sameBits]
theorem il.str {P:Program} {t:TypeId} (h:P.underlying t=some .string):il P t (K:=List UInt8) AV.str where
 inj a b h:=by simpa using h
 check:=fun {w S k v} hv b w1=>by
  rw [hv.ct]
  have key:∀ n:Nat,(Instr.checkKey b (n+1) t (Value.string ⟨k.toArray⟩)).run P w1=.ok () w1:=fun n=>by simp [Instr.checkKey,run_underlying h]
  exact key 9999
 find:=fun {w S k v} hv es ks hl hk w1=>by
  rw [hv.ct]
  have hf:=tX (d:=.string) (v:=(Value.string ⟨k.toArray⟩)) (k:=k) (q:=fun k' u=>u=(Value.string ⟨k'.toArray⟩)) (fun k' u hu=>by subst hu;simp only [Instr.sameNow];congr 1;rw [Bool.eq_iff_iff,EF];simp;exact eq_comm) es ks 0 hl (fun i k' e h1 h2=>(hk i k' e h1 h2).ct)
  simp [Instr.findKey,run_underlying h,hf]
 bits:=fun {w S k v u} h1 h2=>by rw [h1.ct,h2.ct];simp only [Instr.sameBits];exact (EF _ _).2 rfl
instance {P:Program} {t:TypeId} [h:ay P t (.int .i64)]:il P t (K:=Int) I:=il.int h.h
instance {P:Program} {t:TypeId} [h:ay P t .bool]:il P t (K:=Bool) AV.bool:=il.bool h.h
instance {P:Program} {t:TypeId} [h:ay P t .string]:il P t (K:=List UInt8) AV.str:=il.str h.h
theorem fh {P:Program} {w:World} {r:Nat} {es:Array MapEntry} {c:Nat} (h:w.heap[r]? =some (.map es c)):(getObj r).run P w=.ok (.map es c) w:=by
 simp only [getObj,Sem.run,h]
theorem xC {P:Program} {w:World} {r:Nat} {m:Option Nat} {a b:Nat} {s:Array Nat} (h:w.heap[r]? =some (.mapIter m a s b)):(getObj r).run P w=.ok (.mapIter m a s b) w:=by
 simp only [getObj,Sem.run,h]
def ur (w:World) (r:Nat) (o:Obj):World:={w with heap:=w.heap.setIfInBounds r o}
theorem r7 {P:Program} {w:World} {r:Nat} {es:Array MapEntry} {c:Nat} (o:Obj) (h:w.heap[r]? =some (.map es c)):(setObj r o).run P w=.ok () (ur w r o):=by
 simp only [setObj,Sem.run,h];rfl
theorem C2 {P:Program} {w:World} {r:Nat} {m:Option Nat} {a b:Nat} {s:Array Nat} (o:Obj) (h:w.heap[r]? =some (.mapIter m a s b)):(setObj r o).run P w=.ok () (ur w r o):=by
 simp only [setObj,Sem.run,h];rfl
theorem re {w:World} {r:Nat} {o o':Obj} (h:w.heap[r]? =some o'):(ur w r o).heap[r]? =some o:=by
 have gZ:r < w.heap.size:=(Array.getElem?_eq_some_iff.1 h).1
 simp [ur,Array.getElem?_setIfInBounds,gZ]
theorem yW {w:World} {r k:Nat} {o:Obj} (h:k≠r):(ur w r o).heap[k]? =w.heap[k]?:=by
 simp [ur,Array.getElem?_setIfInBounds,Ne.symm h]
theorem KH {w:World} {r:Nat} {o:Obj} {x:Option Nat} (hx:x=some r):GB w (ur w r o) x:=
 ⟨⟨rfl,rfl,rfl,by simp [ur],fun k hk qN=>yW (fun e=>qN (by rw [hx,e]))⟩,fun _=>Nat.le_refl _⟩
theorem vK (w:World) (x:Option Nat):GB w w x:=⟨⟨rfl,rfl,rfl,Nat.le_refl _,fun _ _ _=>rfl⟩,fun _=>Nat.le_refl _⟩
theorem Ext.heap {w w':World} {n:Nat} {o:Obj} (e:Ext w w') (h:w.heap[n]? =some o):w'.heap[n]? =some o:=by
 rw [e.same n (Array.getElem?_eq_some_iff.1 h).1];exact h
theorem At.lY {w:World} {S:Nat→Prop} {b:Bk} {v:Value} (h:At w S (.cd b) v):∃ n,b.cr=some n∧v=.map (some n):=by cases h with | cd _ n hb=>exact ⟨n,hb,rfl⟩
theorem Ig (w:World) (S:Nat→Prop) (z:Value) (h1:jr (yC z).cells=true):At w S (yC z) z:=by
 by_cases hz:∃ cs,z=.agg cs
 ·obtain ⟨cs,rfl⟩:=hz
  obtain ⟨h2,h3⟩:=mT w S (.agg cs) (cQ h1)
  exact .agg _ _ h2 h3
 ·have Fg:yC z=LL z:=by
   cases z<;>first | rfl | (exact (hz ⟨_,rfl⟩).elim)
  rw [Fg];exact Bw w S z
theorem tY {K V:Type} {gk:K→AV} {gv:V→AV} {w:World} {S:Nat→Prop} {hp:Heap} {b:Bk} {M:List (K×V)} (YG:∀ a b,gk a=gk b→a=b) (r:bZ w S hp) (f:kR hp b (.mp (M.map fun e=>(gk e.1,gv e.2)))):
 ∃ (L:List mR) (c:Nat) (M':List (K×V)) (n:Nat) (dW:Array MapEntry),M'.Perm M∧L.map mR.kv=M'.map (fun e=>(gk e.1,gv e.2))∧rP w S b L c∧b.cr=some n∧w.heap[n]? =some (.map dW c)∧dW.toList.length=M'.length∧
   (∀ (i:Nat) e m,M'[i]? =some e→dW.toList[i]? =some m→At w S (gk e.1) m.key∧At w S (gv e.2) m.val)∧(M'.map Prod.fst).Nodup:=by
 obtain ⟨L,c,j8,hH⟩:=r.holds _ f.mem
 obtain ⟨M',h1,h2⟩:=r6 _ _ _ j8
 have PT:=hH
 obtain ⟨n,dW,g1,g2,g3,g4,g5,g6,g7⟩:=hH
 have hlen:L.length=M'.length:=by have:=congrArg List.length h2;simpa using this
 refine ⟨L,c,M',n,dW,h1,h2,PT,g1,g2,by rw [Array.length_toList,g3,hlen],fun i e m he hm=>?_,?_⟩
 ·have:(L.map mR.kv)[i]? =some (gk e.1,gv e.2):=by rw [h2,List.getElem?_map,he];rfl
  rw [List.getElem?_map] at this
  cases hL:L[i]? with
  | none=>rw [hL] at this;cases this
  | some x=>
    rw [hL] at this
    have hx:(x.k,x.v)=(gk e.1,gv e.2):=Option.some.inj this
    obtain ⟨q1,q2⟩:=Prod.mk.inj hx
    have:=g4 i x m hL (by simpa using hm)
    rw [q1,q2] at this
    exact this.2
 ·have hk:L.map (·.k)=(M'.map Prod.fst).map gk:=by
   have:=congrArg (List.map Prod.fst) h2
   simpa [List.map_map,Function.comp_def,mR.kv] using this
  rw [hk] at g7
  exact (List.pairwise_map.1 g7).imp (fun h e=>h (by rw [e]))
theorem yX {α:Type} {l:List α} {j:Nat} {x:α} (h:l[j]? =some x):l.set j x=l:=by
 apply List.ext_getElem?
 intro i
 rw [List.getElem?_set]
 by_cases zR:j=i
 ·subst zR
  have:=(List.getElem?_eq_some_iff.1 h).1
  rw [if_pos rfl,if_pos this,h]
 ·simp [zR]
theorem r8 {K V:Type} [DecidableEq K] {gv:V→AV} {w:World} {S:Nat→Prop} {k:K}:∀ (M:List (K×V)) (es:List MapEntry) (i:Nat),M.length=es.length→(∀ (j:Nat) e m,M[j]? =some e→es[j]? =some m→At w S (gv e.2) m.val)→
 (bB M k=none∧td k (M.map Prod.fst) es i=none)∨∃ v j val,bB M k=some v∧td k (M.map Prod.fst) es i=some (i+j,val)∧At w S (gv v) val∧M[j]? =some (k,v)
 | [],[],i,_,_=>.inl ⟨rfl,rfl⟩
 | [],m :: es,i,hl,_=>by simp at hl
 | e :: M,[],i,hl,_=>by simp at hl
 | e :: M,m :: es,i,hl,h=>by
   unfold bB
   simp only [List.map_cons,td]
   by_cases hk:e.1=k
   ·simp only [hk,if_true]
    refine .inr ⟨e.2,0,m.val,rfl,rfl,h 0 e m rfl rfl,?_⟩
    subst hk;rfl
   ·simp only [hk,if_false]
    rcases r8 M es (i+1) (by simpa using hl) (fun j e' m' h1 h2=>h (j+1) e' m' (by simpa using h1) (by simpa using h2)) with ⟨h1,h2⟩ | ⟨v,j,val,h1,h2,h3,h4⟩
    ·exact .inl ⟨h1,h2⟩
    ·exact .inr ⟨v,j+1,val,h1,by rw [h2];congr 2;omega,h3,by simpa using h4⟩
section rules
variable {P:Program} {all:Array Oper} {rest:List Oper} {n:Nat} {tm:List (Nat×AV)} {hp:Heap} {Q:St→Prop} {d:Nat} {ty:TypeId} {pos:String} {af:Array Edge}
theorem kE {t:TypeId} (hn:Nat.blt d n=true) (kk:∀ b:Bk,ah P all rest ⟨n,(d,.cd b) :: tm,(b,.mp []) :: hp⟩ Q):ah P all (⟨some d,.makeMap t none,ty,pos,af,none⟩ :: rest) ⟨n,tm,hp⟩ Q:=by
 refine ah.Cv rfl fun w S a r=>?_
 have hh:Holds (w.alloc (.map #[] 0)) S ⟨some w.heap.size,0⟩ (.mp []):=⟨[],0,List.Perm.refl _,w.heap.size,#[],rfl,by show (w.heap.push _)[w.heap.size]? =_;simp,rfl,by simp,by simp,by simp,by simp⟩
 obtain ⟨k1,k2,k3⟩:=oc r.hp (Ext.alloc w (.map #[] 0)) id hh (.inr ⟨_,rfl,Nat.le_refl _⟩)
 exact ⟨.map (some w.heap.size),w.alloc (.map #[] 0),S,_,by simp [execOp,Instr.makeMap],(r.heap k3 k1).put hn (.cd _ _ rfl),k2,kk ⟨some w.heap.size,0⟩⟩
theorem pB {K V:Type} [DecidableEq K] {gk:K→AV} {gv:V→AV} {M:List (K×V)} {key:K} {Z v:V} {t kt vt:TypeId} {i:TypeInfo} {z:Value} {x y:Operand} {b:Bk} {av:AV} [ay P t (.map kt vt)] [aP P vt i] [il P kt gk] (hx:bS tm x=some (.cd b)) (hy:bS tm y=some (gk key)) (f:kR hp b (.mp (M.map fun e=>(gk e.1,gv e.2)))) (hz:i.zero=some z) (L8:yC z=gv Z) (h1:jr (yC z).cells=true) (h:qn M key Z=some v) (kC:gv v=av):
 QV P ⟨some d,.lookup t x y false,ty,pos,af,none⟩ ⟨n,tm,hp⟩ av:=by
 intro w S a r
 have kx:=aN (σ:=⟨n,tm,hp⟩) r hx
 have ky:=aN (σ:=⟨n,tm,hp⟩) r hy
 obtain ⟨nb,hb,ex⟩:=kx.lY
 obtain ⟨L,c,M',zU,dW,p1,p2,p3,p4,p5,p6,p7,p8⟩:=tY (il.inj P kt) r.hp f
 obtain rfl:zU=nb:=by rw [p4] at hb;exact Option.some.inj hb
 unfold qn at h
 have hv:=Option.some.inj h
 rw [← pj p1 p8] at hv
 have pC:=il.find (P:=P) (t:=kt) (g:=gk) ky dW.toList (M'.map Prod.fst) (by simpa using p6.symm) (fun j k' e h1 h2=>by
  rw [List.getElem?_map] at h1
  cases hm:M'[j]? with
  | none=>rw [hm] at h1;cases h1
  | some q=>rw [hm] at h1;rw [← Option.some.inj h1];exact (p7 j q e hm h2).1)
 rcases r8 (gv:=gv) (w:=w) (S:=S) (k:=key) M' dW.toList 0 p6.symm (fun j e m h1 h2=>(p7 j e m h1 h2).2) with ⟨q1,q2⟩ | ⟨v',j,val,q1,q2,q3,_⟩
 ·refine ⟨z,fun w1 e1=>?_,?_⟩
  ·simp [execOp,Instr.lookup,ex,run_underlying (ay.h (P:=P) (t:=t)),fh (e1.heap p5),il.check (P:=P) (t:=kt) ky,pC,q2,zeroValue,typeInfo,aP.h (P:=P) (t:=vt),hz]
  ·rw [← kC,← hv,q1,Option.getD_none,← L8];exact Ig w S z h1
 ·refine ⟨val,fun w1 e1=>?_,?_⟩
  ·simp [execOp,Instr.lookup,ex,run_underlying (ay.h (P:=P) (t:=t)),fh (e1.heap p5),il.check (P:=P) (t:=kt) ky,pC,q2]
  ·rw [← kC,← hv,q1,Option.getD_some];exact q3
theorem A3 {K V:Type} [DecidableEq K] {gk:K→AV} {gv:V→AV} {M:List (K×V)} {key:K} {Z:V} {v:V×Bool} {t kt vt:TypeId} {i:TypeInfo} {z:Value} {x y:Operand} {b:Bk} {av:AV} [ay P t (.map kt vt)] [aP P vt i] [il P kt gk] (hx:bS tm x=some (.cd b)) (hy:bS tm y=some (gk key)) (f:kR hp b (.mp (M.map fun e=>(gk e.1,gv e.2)))) (hz:i.zero=some z) (L8:yC z=gv Z) (h1:jr (yC z).cells=true) (h:A1 M key Z=some v) (kC:gv v.1=av):
 QV P ⟨some d,.lookup t x y true,ty,pos,af,none⟩ ⟨n,tm,hp⟩ (.mA [av,.bool v.2]):=by
 intro w S a r
 have kx:=aN (σ:=⟨n,tm,hp⟩) r hx
 have ky:=aN (σ:=⟨n,tm,hp⟩) r hy
 obtain ⟨nb,hb,ex⟩:=kx.lY
 obtain ⟨L,c,M',zU,dW,p1,p2,p3,p4,p5,p6,p7,p8⟩:=tY (il.inj P kt) r.hp f
 obtain rfl:zU=nb:=by rw [p4] at hb;exact Option.some.inj hb
 unfold A1 at h
 have hv:=Option.some.inj h
 rw [← pj p1 p8] at hv
 have pC:=il.find (P:=P) (t:=kt) (g:=gk) ky dW.toList (M'.map Prod.fst) (by simpa using p6.symm) (fun j k' e h1 h2=>by
  rw [List.getElem?_map] at h1
  cases hm:M'[j]? with
  | none=>rw [hm] at h1;cases h1
  | some q=>rw [hm] at h1;rw [← Option.some.inj h1];exact (p7 j q e hm h2).1)
 rcases r8 (gv:=gv) (w:=w) (S:=S) (k:=key) M' dW.toList 0 p6.symm (fun j e m h1 h2=>(p7 j e m h1 h2).2) with ⟨q1,q2⟩ | ⟨v',j,val,q1,q2,q3,_⟩
 ·refine ⟨.tuple #[z,.bool false],fun w1 e1=>?_,?_⟩
  ·simp [execOp,Instr.lookup,ex,run_underlying (ay.h (P:=P) (t:=t)),fh (e1.heap p5),il.check (P:=P) (t:=kt) ky,pC,q2,zeroValue,typeInfo,aP.h (P:=P) (t:=vt),hz]
  ·rw [← kC,← hv,q1]
   refine .mA _ _ rfl (Bx ?_ (.bool _))
   rw [Option.getD_none,← L8];exact Ig w S z h1
 ·refine ⟨.tuple #[val,.bool true],fun w1 e1=>?_,?_⟩
  ·simp [execOp,Instr.lookup,ex,run_underlying (ay.h (P:=P) (t:=t)),fh (e1.heap p5),il.check (P:=P) (t:=kt) ky,pC,q2]
  ·rw [← kC,← hv,q1]
   exact .mA _ _ rfl (Bx q3 (.bool _))
theorem rf {w:World} {S:Nat→Prop} {hp bY:Heap} {b:Bk} {m:Nat} {o o':Ob} {ob old:Obj} (r:bZ w S hp) (u:iE hp b o b o' bY) (hb:b.cr=some m) (ho:w.heap[m]? =some old) (hf:¬ o.xn) (RR:¬ o'.xn) (hh:(∀ n,S n→S n∧(ur w m ob).heap[n]? =w.heap[n]?)→Holds (ur w m ob) S b o') (hm:o'.more=[]:=by rfl):
 bZ (ur w m ob) S bY∧gY w S hp (ur w m ob) S bY∧∀ n,S n→S n∧(ur w m ob).heap[n]? =w.heap[n]?:=by
 have k1:∀ n,S n→S n∧(ur w m ob).heap[n]? =w.heap[n]?:=fun k hk=>⟨hk,yW (fun e=>by
  subst e
  exact hf ((r.sep _ u.lp.mem _ (jZ hb)).1 hk))⟩
 exact kM r u (KH hb) hf RR (hh k1) (.inl rfl) hm
theorem fA {K V:Type} [DecidableEq K] [wC K] {gk:K→AV} {gv:V→AV} {M:List (K×V)} {key:K} {v:V} {t kt vt:TypeId} {x y z:Operand} {b:Bk} {av:AV} {bY:Heap} [ay P t (.map kt vt)] [il P kt gk] (hx:bS tm x=some (.cd b)) (hy:bS tm y=some (gk key)) (hz:bS tm z=some av) (kC:av=gv v) (u:iE hp b (.mp (M.map fun e=>(gk e.1,gv e.2))) b (.mp ((gm M key v).map fun e=>(gk e.1,gv e.2))) bY)
 (kk:ah P all rest ⟨n,tm,bY⟩ Q):ah P all (⟨none,.mapUpdate t x y z,ty,pos,af,none⟩ :: rest) ⟨n,tm,hp⟩ Q:=by
 refine ah.act rfl rfl (fun w S a r=>?_) kk
 have kx:=aN (σ:=⟨n,tm,hp⟩) r hx
 have ky:=aN (σ:=⟨n,tm,hp⟩) r hy
 have kz:=aN (σ:=⟨n,tm,hp⟩) r hz
 obtain ⟨nb,hb,ex⟩:=kx.lY
 obtain ⟨L,c,M',zU,dW,p1,p2,p3,p4,p5,p6,p7,p8⟩:=tY (il.inj P kt) r.hp u.lp
 obtain rfl:zU=nb:=by rw [p4] at hb;exact Option.some.inj hb
 have pC:=il.find (P:=P) (t:=kt) (g:=gk) ky dW.toList (M'.map Prod.fst) (by simpa using p6.symm) (fun j k' e h1 h2=>by
  rw [List.getElem?_map] at h1
  cases hm:M'[j]? with
  | none=>rw [hm] at h1;cases h1
  | some q=>rw [hm] at h1;rw [← Option.some.inj h1];exact (p7 j q e hm h2).1)
 obtain ⟨M7,nE,g1,g2,g3,g4,g5,g6,g7⟩:=p3
 obtain rfl:M7=zU:=by rw [p4] at g1;exact (Option.some.inj g1).symm
 obtain rfl:nE=dW:=by rw [p5] at g2;exact (Obj.map.inj (Option.some.inj g2)).1.symm
 have U1:L.length=M'.length:=by have:=congrArg List.length p2;simpa using this
 have U2:∀ (j:Nat) (x:mR) (e:K×V),L[j]? =some x→M'[j]? =some e→x.k=gk e.1∧x.v=gv e.2:=by
  intro j x e h1 h2
  have:(L.map mR.kv)[j]? =(M'.map fun e=>(gk e.1,gv e.2))[j]?:=by rw [p2]
  rw [List.getElem?_map,List.getElem?_map,h1,h2] at this
  exact Prod.mk.inj (Option.some.inj this)
 rcases r8 (gv:=gv) (w:=w) (S:=S) (k:=key) M' nE.toList 0 p6.symm (fun j e m h1 h2=>(p7 j e m h1 h2).2) with ⟨q1,q2⟩ | ⟨v',j,val,q1,q2,q3,q4⟩
 ·
  have hw:=rf (ob:=.map (nE.push ⟨a.eval y,a.eval z,c⟩) (c+1)) r.hp u p4 p5 id id (fun k1=>by
   refine ⟨L++[⟨gk key,gv v,c⟩],c+1,?_,M7,nE.push ⟨a.eval y,a.eval z,c⟩,p4,re p5,by simp [g3],?_,?_,?_,?_⟩
   ·rw [List.map_append,p2]
    refine List.Perm.trans ?_ ((rb key v (o3 M key)).symm.map _)
    rw [A2 (by rw [← pj p1 p8];exact q1)]
    exact List.perm_append_comm.trans (List.Perm.cons _ (p1.map _))
   ·intro i e m he hm
    rw [Array.getElem?_push] at hm
    rcases Nat.lt_or_ge i L.length with hi | hi
    ·rw [List.getElem?_append_left hi] at he
     rw [if_neg (by omega)] at hm
     obtain ⟨s1,s2,s3⟩:=g4 i e m he hm
     exact ⟨s1,s2.mono k1,s3.mono k1⟩
    ·have Ep:i=L.length:=by
      have:=(List.getElem?_eq_some_iff.1 he).1
      simp at this;omega
     subst Ep
     rw [if_pos g3.symm] at hm
     simp at he
     obtain rfl:=Option.some.inj hm
     subst he
     exact ⟨rfl,ky.mono k1,by rw [kC] at kz;exact kz.mono k1⟩
   ·intro e he
    rcases List.mem_append.1 he with h | h
    ·have:=g5 e h;omega
    ·simp at h;subst h;simp
   ·rw [List.map_append,List.nodup_append]
    refine ⟨g6,by simp,fun a1 ha b1 Ke AU=>?_⟩
    simp at Ke
    subst Ke
    obtain ⟨e,he,rfl⟩:=List.mem_map.1 ha
    have:=g5 e he
    omega
   ·rw [List.map_append,List.nodup_append]
    refine ⟨g7,by simp,fun a1 ha b1 Ke AU=>?_⟩
    simp at Ke
    subst Ke
    obtain ⟨e,he,rfl⟩:=List.mem_map.1 ha
    obtain ⟨j,hj⟩:=List.getElem?_of_mem he
    have CD:j < M'.length:=by rw [← U1];exact (List.getElem?_eq_some_iff.1 hj).1
    have:=(U2 j e M'[j] hj (List.getElem?_eq_getElem CD)).1
    rw [this] at AU
    exact (nN.1 q1) M'[j] (List.getElem_mem CD) (il.inj P kt _ _ AU))
  refine ⟨_,S,?_,r.heap hw.2.2 hw.1,hw.2.1⟩
  simp [execOp,Instr.mapUpdate,ex,run_underlying (ay.h (P:=P) (t:=t)),fh p5,il.check (P:=P) (t:=kt) ky,pC,q2,r7 _ p5]
 ·
  have CD:j < nE.toList.length:=by rw [p6];exact (List.getElem?_eq_some_iff.1 q4).1
  have Fs:j < nE.size:=by simpa using CD
  have YH:nE.toList[j]? =some nE[j]:=by simp [Fs]
  have Ia:=(p7 j _ _ q4 YH).1
  have PU:Instr.sameBits 10000 nE[j].key (a.eval y)=true:=il.bits (P:=P) (t:=kt) Ia ky
  have Oh:j < L.length:=by omega
  have hw:=rf (ob:=.map (nE.modify j fun e=>{e with key:=a.eval y,val:=a.eval z}) c) r.hp u p4 p5 id id (fun k1=>by
   refine ⟨L.set j ⟨gk key,gv v,L[j].born⟩,c,?_,M7,_,p4,re p5,by simp [g3],?_,?_,?_,?_⟩
   ·rw [List.map_set]
    refine List.Perm.trans ?_ ((rb key v (o3 M key)).symm.map _)
    have e1:(L.map mR.kv).set j (gk key,gv v)=(M'.set j (key,v)).map fun e=>(gk e.1,gv e.2):=by rw [p2,List.map_set]
    show ((L.map mR.kv).set j (gk key,gv v)).Perm _
    rw [e1]
    refine List.Perm.map _ ?_
    have Oi:j < M'.length:=by omega
    have e2:M'=M'.take j++(key,v') :: M'.drop (j+1):=by
     have:=List.take_append_drop j M'
     rw [List.drop_eq_getElem_cons Oi] at this
     have hq:M'[j]=(key,v'):=by rw [List.getElem?_eq_getElem Oi] at q4;exact Option.some.inj q4
     rw [hq] at this
     exact this.symm
    have e3:M'.set j (key,v)=M'.take j++(key,v) :: M'.drop (j+1):=by
     rw [List.set_eq_take_append_cons_drop,if_pos Oi]
    rw [e3]
    refine List.perm_middle.trans (List.Perm.cons _ ?_)
    have e4:o3 M' key=M'.take j++M'.drop (j+1):=by
     have KI:=p8
     rw [e2,List.map_append,List.map_cons,List.nodup_append,List.nodup_cons] at KI
     unfold o3
     rw [e2,List.filter_append,List.filter_cons]
     simp only [ne_eq,not_true_eq_false,decide_false,Bool.false_eq_true,if_false]
     rw [← e2]
     congr 1
     ·refine List.filter_eq_self.2 fun e he=>?_
      simp only [decide_not,Bool.not_eq_true',decide_eq_false_iff_not]
      intro hk
      exact KI.2.2 e.1 (List.mem_map.2 ⟨e,he,rfl⟩) key (by simp) hk
     ·refine List.filter_eq_self.2 fun e he=>?_
      simp only [decide_not,Bool.not_eq_true',decide_eq_false_iff_not]
      intro hk
      exact KI.2.1.1 (List.mem_map.2 ⟨e,he,hk⟩)
    rw [← e4]
    exact p1.filter _
   ·intro i e m he hm
    rw [Array.getElem?_modify] at hm
    rw [List.getElem?_set] at he
    by_cases zR:j=i
    ·subst zR
     simp only [if_true,Oh] at he
     simp only [if_true,Array.getElem?_eq_getElem Fs,Option.map_some] at hm
     obtain rfl:=Option.some.inj he
     obtain rfl:=Option.some.inj hm
     refine ⟨(g4 j L[j] nE[j] (List.getElem?_eq_getElem Oh) (Array.getElem?_eq_getElem Fs)).1,ky.mono k1,by rw [kC] at kz;exact kz.mono k1⟩
    ·rw [if_neg zR] at he hm
     obtain ⟨s1,s2,s3⟩:=g4 i e m he hm
     exact ⟨s1,s2.mono k1,s3.mono k1⟩
   ·intro e he
    rcases List.mem_or_eq_of_mem_set he with h | h
    ·exact g5 e h
    ·subst h;exact g5 L[j] (List.getElem_mem Oh)
   ·rw [List.map_set]
    have:(L.map (·.born)).set j L[j].born=L.map (·.born):=by
     exact yX (by rw [List.getElem?_map,List.getElem?_eq_getElem Oh];rfl)
    rw [this];exact g6
   ·rw [List.map_set]
    have:(L.map (·.k)).set j (gk key)=L.map (·.k):=by
     have hk:=(U2 j L[j] _ (List.getElem?_eq_getElem Oh) q4).1
     exact yX (by rw [List.getElem?_map,List.getElem?_eq_getElem Oh,Option.map_some,hk])
    rw [this];exact g7)
  refine ⟨_,S,?_,r.heap hw.2.2 hw.1,hw.2.1⟩
  simp [execOp,Instr.mapUpdate,ex,run_underlying (ay.h (P:=P) (t:=t)),fh p5,il.check (P:=P) (t:=kt) ky,pC,q2,Instr.keyThatStays,Fs,PU,r7 _ p5]
theorem C3 {K V:Type} [DecidableEq K] [wC K] {gk:K→AV} {gv:V→AV} {M:List (K×V)} {key:K} {v:V} {t kt vt:TypeId} {x y z:Operand} {b:Bk} {av:AV} {bY:Heap} [ay P t (.map kt vt)] [il P kt gk] (hx:bS tm x=some (.cd b)) (hy:bS tm y=some (gk key)) (hz:bS tm z=some av) (kC:av=gv v) (u:iE hp b (.mp (M.map fun e=>(gk e.1,gv e.2))) b (.mp ((gm M key v).map fun e=>(gk e.1,gv e.2))) bY)
 (kk:ah P all rest ⟨n,tm,bY⟩ Q):ah P all (⟨none,.insert t x y z,ty,pos,af,none⟩ :: rest) ⟨n,tm,hp⟩ Q:=by
 intro w S a r
 have:=fA (all:=all) (rest:=rest) (ty:=ty) (pos:=pos) (af:=af) (t:=t) (kt:=kt) (vt:=vt) (gk:=gk) (gv:=gv) hx hy hz kC u kk w S a r
 unfold wpList at this ⊢
 exact this
end rules
def te (L:List mR) (c:Nat) (seen:List Nat) (rest:List (AV×AV)):Prop:=((L.filter (fun e=>!seen.contains e.born)).map mR.kv).Perm rest
def PV (L:List mR) (seen:List Nat) (e:AV×AV):Prop:=∃ x∈L,seen.getLast? =some x.born∧x.kv=e
theorem find_born {L:List mR} (hn:(L.map (·.born)).Nodup) {x:mR} (hx:x∈L) {w:World} {S:Nat→Prop} {dW:Array MapEntry} (hl:dW.size=L.length) (h:∀ (i:Nat) e m,L[i]? =some e→dW[i]? =some m→m.born=e.born∧At w S e.k m.key∧At w S e.v m.val):
 ∃ m,dW.find? (·.born==x.born)=some m∧At w S x.k m.key∧At w S x.v m.val:=by
 obtain ⟨j,hj⟩:=List.getElem?_of_mem hx
 have CD:j < L.length:=(List.getElem?_eq_some_iff.1 hj).1
 have Fs:j < dW.size:=by omega
 have lU:=h j x dW[j] hj (Array.getElem?_eq_getElem Fs)
 cases hf:dW.find? (·.born==x.born) with
 | none=>
   rw [Array.find?_eq_none] at hf
   exact absurd (by simpa using lU.1) (hf dW[j] (Array.getElem_mem Fs))
 | some m=>
   have hb:m.born=x.born:=by have:=Array.find?_some hf;simpa using this
   have hm:=Array.mem_of_find?_eq_some hf
   obtain ⟨i,hi,rfl⟩:=Array.getElem_of_mem hm
   have iV:i < L.length:=by omega
   have Q9:=(h i L[i] dW[i] (List.getElem?_eq_getElem iV) (Array.getElem?_eq_getElem hi)).1
   have zR:i=j:=by
    have e1:(L.map (·.born))[i]? =some x.born:=by rw [List.getElem?_map,List.getElem?_eq_getElem iV,Option.map_some,← Q9,hb]
    have e2:(L.map (·.born))[j]? =some x.born:=by rw [List.getElem?_map,hj];rfl
    exact (List.getElem?_inj (by simpa using iV) hn).1 (e1.trans e2.symm)
   subst zR
   exact ⟨_,rfl,lU.2⟩
theorem C4 {P:Program} {w:World} {r m c:Nat} {seen:Array Nat} {dW wD:Array MapEntry} {ty:TypeId} (g:w.heap[r]? =some (.mapIter (some m) c seen c)) (p:w.heap[m]? =some (.map dW c)) (KJ:(!seen.isEmpty&&!dW.isEmpty&&dW.all (fun e=>decide (e.born≥c)))=false)
 (hl:(dW.filter fun e=>!seen.contains e.born)=wD) (ho:wD.filter (fun e=>decide (e.born < c))=wD) (hn:wD.filter (fun e=>decide (e.born≥c))=#[]):
 (Instr.next (.pointer (some ⟨r,0,none⟩)) false ty).run P w=((choose (.mapNext ((if wD.isEmpty then #[none] else #[])++(wD++#[]).map some).size)).run P w).andThen fun i w'=>
  (match ((if wD.isEmpty then #[none] else #[])++(wD++#[]).map some)[i]? with
  | some (some e)=>(do setObj r (.mapIter (some m) c (seen.push e.born) c);pure (.tuple #[.bool true,e.key,e.val]):Sem Value)
  | some none=>pure (.tuple #[.bool false])
  | none=>stuck "Next: no such candidate").run P w':=by
 subst hl
 unfold Instr.next
 simp only [Sem.run_bind,xC g,fh p,Result.andThen_ok,KJ,ho,hn,Bool.false_eq_true,if_false,Sem.run_pure]
 rfl
section rules
variable {P:Program} {all:Array Oper} {rest:List Oper} {n:Nat} {tm:List (Nat×AV)} {hp:Heap} {Q:St→Prop} {d:Nat} {ty:TypeId} {pos:String} {af:Array Edge}
theorem tZ {K V:Type} {gk:K→AV} {gv:V→AV} {M:List (K×V)} {t kt vt:TypeId} {x:Operand} {b:Bk} [ay P t (.map kt vt)] (hx:bS tm x=some (.cd b)) (f:kR hp b (.mp (M.map fun e=>(gk e.1,gv e.2)))):
 QV P ⟨some d,.call {callee:=.builtin .len,args:=#[x],argTypes:=#[t]},ty,pos,af,none⟩ ⟨n,tm,hp⟩ (.int .i64 (M.length:Nat)):=by
 intro w S a r
 obtain ⟨nb,hb,ex⟩:=(aN (σ:=⟨n,tm,hp⟩) r hx).lY
 obtain ⟨L,c,j8,zU,dW,g1,g2,g3,_⟩:=r.hp.holds _ f.mem
 obtain rfl:zU=nb:=by rw [g1] at hb;exact Option.some.inj hb
 have hl:dW.size=M.length:=by have:=j8.length_eq;simp at this;omega
 refine ⟨.int .i64 (M.length:Nat),fun w1 e1=>?_,.int _ _⟩
 simp [execOp,ex,resolve,invoke,builtin,Builtin.len_,run_underlying (ay.h (P:=P) (t:=t)),fh (e1.heap g2),goInt,hl]
theorem BQ {E:Type} {enc:E→AV×AV} {M:List E} {t kt vt:TypeId} {x:Operand} {b:Bk} {bY:List mR→Nat→Heap} [ay P t (.map kt vt)] (hx:bS tm x=some (.cd b)) (u:∀ L c,iE hp b (.mp (M.map enc)) b (.Ei L c) (bY L c)) (hn:Nat.blt d n=true)
 (kk:∀ bi L c,(L.map mR.kv).Perm (M.map enc)→te L c [] (M.map enc)→ah P all rest ⟨n,(d,.ptr bi 0) :: tm,(bi,.D8 b c []) :: bY L c⟩ Q):ah P all (⟨some d,.range t x,ty,pos,af,none⟩ :: rest) ⟨n,tm,hp⟩ Q:=by
 refine ah.Cv rfl fun w S a r=>?_
 obtain ⟨nb,hb,ex⟩:=(aN (σ:=⟨n,tm,hp⟩) r hx).lY
 have f:=(u [] 0).lp
 obtain ⟨L,c,j8,hH⟩:=r.hp.holds _ f.mem
 have PT:=hH
 obtain ⟨zU,dW,g1,g2,g3,_⟩:=hH
 obtain rfl:zU=nb:=by rw [g1] at hb;exact Option.some.inj hb
 obtain ⟨r1,e1,k1⟩:=kM r.hp (u L c) (vK w b.cr) id id PT (.inl rfl)
 have hh:Holds (w.alloc (.mapIter (some zU) c #[] c)) S ⟨some w.heap.size,0⟩ (.D8 b c []):=⟨w.heap.size,zU,rfl,hb,by show (w.heap.push _)[w.heap.size]? =_;simp⟩
 obtain ⟨r2,e2,k2⟩:=oc r1 (Ext.alloc w (.mapIter (some zU) c #[] c)) id hh (.inr ⟨_,rfl,Nat.le_refl _⟩)
 refine ⟨.pointer (some ⟨w.heap.size,0,none⟩),w.alloc (.mapIter (some zU) c #[] c),S,_,?_,(r.heap k2 r2).put hn (.ptr _ _ _ rfl),e1.trans e2,kk ⟨some w.heap.size,0⟩ L c j8 ?_⟩
 ·simp [execOp,Instr.range,ex,run_underlying (ay.h (P:=P) (t:=t)),fh g2]
 ·unfold te
  have e:L.filter (fun e=>!([]:List Nat).contains e.born)=L:=List.filter_eq_self.2 (fun _ _=>by simp)
  rw [e];exact j8
theorem BR {L:List mR} {c:Nat} {seen:List Nat} {x:Operand} {bi bm:Bk} {e:AV×AV} {k v:AV} (hx:bS tm x=some (.ptr bi 0)) (fi:kR hp bi (.D8 bm c seen)) (fm:kR hp bm (.Ei L c)) (hc:PV L seen e) (hk:e.1=k) (hv:e.2=v):
 QV P ⟨some d,.entry x,ty,pos,af,none⟩ ⟨n,tm,hp⟩ (.mA [k,v]):=by
 intro w S a r
 obtain ⟨ni,hi,ex⟩:=(aN (σ:=⟨n,tm,hp⟩) r hx).ml
 obtain ⟨M8,nm,g1,g2,g3⟩:=r.hp.holds _ fi.mem
 obtain rfl:M8=ni:=by rw [g1] at hi;exact Option.some.inj hi
 obtain ⟨Ma,dW,p1,p2,p3,p4,p5,p6,_⟩:=r.hp.holds _ fm.mem
 obtain rfl:Ma=nm:=by rw [p1] at g2;exact Option.some.inj g2
 obtain ⟨y,hy,hs,YI⟩:=hc
 obtain ⟨m,m1,m2,m3⟩:=find_born p6 hy p3 p4
 have YJ:seen.toArray.back? =some y.born:=by rw [← hs];simp [List.getLast?_eq_getElem?,Array.back?]
 subst YI
 refine ⟨.tuple #[m.key,m.val],fun w1 e1=>?_,?_⟩
 ·simp [execOp,Instr.entry,ex,xC (e1.heap g3),fh (e1.heap p2),YJ,m1]
 ·rw [← hk,← hv];exact .mA _ _ rfl (Bx m2 m3)
theorem EG {E:Type} {enc:E→AV×AV} {R:List E} {L:List mR} {c:Nat} {seen:List Nat} {x:Operand} {bi bm:Bk} {bY:List Nat→Heap} (hx:bS tm x=some (.ptr bi 0)) (hI:te L c seen (R.map enc)) (fm:kR hp bm (.Ei L c)) (u:∀ s,iE hp bi (.D8 bm c seen) bi (.D8 bm c s) (bY s)) (hn:Nat.blt d n=true)
 (k0:R=[]→ah P all rest ⟨n,(d,.mA [.bool false]) :: tm,hp⟩ Q)
 (k1:∀ e R' s,R.Perm (e :: R')→R'.length < R.length→te L c s (R'.map enc)→PV L s (enc e)→ah P all rest ⟨n,(d,.mA [.bool true,(enc e).1,(enc e).2]) :: tm,bY s⟩ Q):ah P all (⟨some d,.next x false,ty,pos,af,none⟩ :: rest) ⟨n,tm,hp⟩ Q:=by
 refine ah.Cv rfl fun w S a r=>?_
 obtain ⟨ni,hi,ex⟩:=(aN (σ:=⟨n,tm,hp⟩) r hx).ml
 obtain ⟨M8,nm,g1,g2,g3⟩:=r.hp.holds _ (u []).lp.mem
 obtain rfl:M8=ni:=by rw [g1] at hi;exact Option.some.inj hi
 obtain ⟨Ma,dW,p1,p2,p3,p4,p5,p6,_⟩:=r.hp.holds _ fm.mem
 obtain rfl:Ma=nm:=by rw [p1] at g2;exact Option.some.inj g2
 have Ih:∀ m∈dW,m.born < c:=by
  intro m hm
  obtain ⟨i,hi,rfl⟩:=Array.getElem_of_mem hm
  have iV:i < L.length:=by omega
  have:=(p4 i L[i] dW[i] (List.getElem?_eq_getElem iV) (Array.getElem?_eq_getElem hi)).1
  rw [this];exact p5 _ (List.getElem_mem iV)
 have KJ:(!seen.toArray.isEmpty&&!dW.isEmpty&&dW.all (fun e=>decide (e.born≥c)))=false:=by
  by_cases h0:dW.isEmpty=true
  ·simp [h0]
  ·have h1:0 < dW.size:=by
    have:dW.size≠0:=by simpa [Array.isEmpty] using h0
    omega
   have:dW.all (fun e=>decide (e.born≥c))=false:=by
    rw [Bool.eq_false_iff]
    intro ga
    rw [Array.all_eq_true] at ga
    have:=ga 0 h1
    have hb:=Ih dW[0] (Array.getElem_mem h1)
    simp at this;omega
   simp [this]
 have hold:(dW.filter fun e=>!seen.toArray.contains e.born).filter (fun e=>decide (e.born < c))=dW.filter fun e=>!seen.toArray.contains e.born:=by
  rw [Array.filter_eq_self]
  intro m hm
  simpa using Ih m (Array.mem_filter.1 hm).1
 have HO:(dW.filter fun e=>!seen.toArray.contains e.born).filter (fun e=>decide (e.born≥c))=#[]:=by
  rw [Array.filter_eq_empty_iff]
  intro m hm
  have:=Ih m (Array.mem_filter.1 hm).1
  simp;omega
 generalize KK:(dW.filter fun e=>!seen.toArray.contains e.born)=wD at hold HO
 have sR:∀ m∈wD,∃ y∈L,(seen.contains y.born=false)∧m.born=y.born∧At w S y.k m.key∧At w S y.v m.val:=by
  intro m hm
  rw [← KK] at hm
  obtain ⟨h1,h2⟩:=Array.mem_filter.1 hm
  obtain ⟨i,hi,rfl⟩:=Array.getElem_of_mem h1
  have iV:i < L.length:=by omega
  have hh:=p4 i L[i] dW[i] (List.getElem?_eq_getElem iV) (Array.getElem?_eq_getElem hi)
  refine ⟨L[i],List.getElem_mem iV,?_,hh⟩
  rw [← hh.1];simpa using h2
 have hex:∀ y∈L,seen.contains y.born=false→∃ m,m∈wD:=by
  intro y hy hs
  obtain ⟨j,hj⟩:=List.getElem?_of_mem hy
  have CD:j < L.length:=(List.getElem?_eq_some_iff.1 hj).1
  have Fs:j < dW.size:=by omega
  refine ⟨dW[j],?_⟩
  rw [← KK,Array.mem_filter]
  refine ⟨Array.getElem_mem Fs,?_⟩
  rw [(p4 j y dW[j] hj (Array.getElem?_eq_getElem Fs)).1]
  simpa using hs
 by_cases hz:wD.size=0
 ·
  have hR:R=[]:=by
   cases R with
   | nil=>rfl
   | cons e R'=>
     unfold te at hI
     have hm:enc e∈(L.filter (fun e=>!seen.contains e.born)).map mR.kv:=hI.mem_iff.2 (by simp)
     obtain ⟨y,hy,_⟩:=List.mem_map.1 hm
     obtain ⟨YK,YL⟩:=List.mem_filter.1 hy
     obtain ⟨m,hm⟩:=hex y YK (by simpa using YL)
     obtain ⟨i,hi,_⟩:=Array.getElem_of_mem hm
     omega
  obtain rfl:wD=#[]:=Array.eq_empty_of_size_eq_zero hz
  refine ⟨.tuple #[.bool false],w,S,_,?_,r.put hn (.mA _ _ rfl ?_),gY.refl _ _ _,k0 hR⟩
  ·have Sq:(Instr.next (a.eval x) false ty).run P w=.ok (.tuple #[.bool false]) w:=by
    rw [ex,C4 (P:=P) (ty:=ty) g3 p2 KJ KK hold HO]
    simp [run_choose,Question.forced]
   simp [execOp,Sq]
  ·intro i c' v h1 h2
   cases i with
   | zero=>simp at h1 h2;subst h1;subst h2;exact .bool _
   | succ i=>simp at h1
 ·obtain ⟨i,w1,YM,iV,hE⟩:∃ i w1,(choose (.mapNext wD.size)).run P w=.ok i w1∧i < wD.size∧(w1=w∨w1=w.drew):=by
   by_cases hf:(Question.mapNext wD.size).forced=true
   ·refine ⟨0,w,?_,by omega,.inl rfl⟩
    rw [run_choose,if_pos hf]
   ·have hc:=run_choose P w (Question.mapNext wD.size)
    rw [if_neg hf] at hc
    exact ⟨_,w.drew,hc,Nat.mod_lt _ (by omega:0 < wD.size),.inr rfl⟩
  have ext:Ext w w1:=by
   rcases hE with rfl | rfl
   ·exact Ext.refl _
   ·exact Ext.AE w (w.drawn+1) (Nat.le_succ _)
  obtain ⟨y,hy,Ra,hb,hk,hv⟩:=sR wD[i] (Array.getElem_mem iV)
  have CA:∀ z∈L,z.born=y.born→z=y:=by
   intro z hz YN
   obtain ⟨i1,h1⟩:=List.getElem?_of_mem hz
   obtain ⟨i2,h2⟩:=List.getElem?_of_mem hy
   have Sr:i1 < L.length:=(List.getElem?_eq_some_iff.1 h1).1
   have:i1=i2:=(List.getElem?_inj (by simpa using Sr) p6).1 (by rw [List.getElem?_map,List.getElem?_map,h1,h2,Option.map_some,Option.map_some,YN])
   subst this
   rw [h1] at h2;exact Option.some.inj h2
  unfold te at hI
  have hyR:y.kv∈R.map enc:=hI.mem_iff.1 (List.mem_map.2 ⟨y,List.mem_filter.2 ⟨hy,by simpa using Ra⟩,rfl⟩)
  obtain ⟨pre,post,Hm⟩:=List.append_of_mem (List.mem_filter.2 ⟨hy,(by simpa using Ra:(!seen.contains y.born)=true)⟩:y∈L.filter (fun e=>!seen.contains e.born))
  have Ss:L.filter (fun e=>!(seen++[y.born]).contains e.born)=pre++post:=by
   have e1:L.filter (fun e=>!(seen++[y.born]).contains e.born)=(L.filter (fun e=>!seen.contains e.born)).filter (fun e=>decide (e.born≠y.born)):=by
    rw [List.filter_filter]
    apply List.filter_congr
    intro e he
    simp only [List.contains_eq_mem,List.mem_append,List.mem_singleton,ne_eq,decide_not]
    by_cases q1:e.born∈seen<;>by_cases q2:e.born=y.born<;>simp [q1,q2]
   have M9:((L.filter (fun e=>!seen.contains e.born)).map (·.born)).Nodup:=p6.sublist ((List.filter_sublist).map _)
   rw [Hm,List.map_append,List.map_cons,List.nodup_append,List.nodup_cons] at M9
   rw [e1,Hm,List.filter_append,List.filter_cons]
   simp only [ne_eq,not_true_eq_false,decide_false,Bool.false_eq_true,if_false]
   congr 1
   ·refine List.filter_eq_self.2 fun e he=>?_
    simp only [decide_not,Bool.not_eq_true',decide_eq_false_iff_not]
    intro hk
    exact M9.2.2 e.born (List.mem_map.2 ⟨e,he,rfl⟩) y.born (by simp) hk
   ·refine List.filter_eq_self.2 fun e he=>?_
    simp only [decide_not,Bool.not_eq_true',decide_eq_false_iff_not]
    intro hk
    exact M9.2.1.1 (List.mem_map.2 ⟨e,he,hk⟩)
  have hP:(y.kv :: (pre++post).map mR.kv).Perm (R.map enc):=by
   refine List.Perm.trans ?_ hI
   rw [Hm]
   simp only [List.map_append,List.map_cons]
   exact List.perm_middle.symm
  obtain ⟨R2,U3,PW⟩:=r6 enc _ _ hP
  cases R2 with
  | nil=>simp at PW
  | cons e R'=>
    obtain ⟨MM,Hy⟩:=List.cons.inj (by simpa using PW)
    have Su:w1.heap[M8]? =some (.mapIter (some Ma) c seen.toArray c):=ext.heap g3
    have YO:te L c (seen++[y.born]) (R'.map enc):=by unfold te;rw [Ss,← Hy];simp
    have r1:=r.ext ext
    have hw:=rf (ob:=.mapIter (some Ma) c (seen++[y.born]).toArray c) r1.hp (u (seen++[y.born])) g1 Su id id (fun k1=>⟨M8,Ma,g1,g2,re Su⟩)
    have Sv:gY w S hp w1 S hp:=gY.ext (fun n hn=>r.hp.slt n hn) ext
    refine ⟨.tuple #[.bool true,wD[i].key,wD[i].val],ur w1 M8 (.mapIter (some Ma) c (seen++[y.born]).toArray c),S,_,?_,(r1.heap hw.2.2 hw.1).put hn (.mA _ _ rfl (Gf (.bool _) ?_ ?_)),Sv.trans hw.2.1,k1 e R' (seen++[y.born]) U3.symm (by have:=U3.length_eq;simp at this;omega) YO ⟨y,hy,by simp,MM⟩⟩
    ·have YP:wD.isEmpty=false:=by
      have:wD.size≠0:=hz
      simpa [Array.isEmpty] using this
     have Sq:(Instr.next (a.eval x) false ty).run P w=.ok (.tuple #[.bool true,wD[i].key,wD[i].val]) (ur w1 M8 (.mapIter (some Ma) c (seen++[y.born]).toArray c)):=by
      rw [ex,C4 (P:=P) (ty:=ty) g3 p2 KJ KK hold HO]
      have eF:((if wD.isEmpty=true then #[none] else #[])++(wD++#[]).map some)=wD.map some:=by simp [YP]
      rw [eF,Array.size_map,YM]
      simp [iV,hb,C2 _ Su]
     simp [execOp,Sq]
    ·rw [← MM]
     exact (hk.mono (fun n hn=>⟨hn,ext.same n (r.hp.slt n hn)⟩)).mono hw.2.2
    ·rw [← MM]
     exact (hv.mono (fun n hn=>⟨hn,ext.same n (r.hp.slt n hn)⟩)).mono hw.2.2
end rules
theorem aj.wO {n:Nat} {tm:List (Nat×AV)} {hp bY:Heap} {T:St→Prop} {b:Bk} {L:List mR} {c:Nat} {es:List (AV×AV)} (hL:(L.map mR.kv).Perm es) (u:iE hp b (.Ei L c) b (.mp es) bY) (k:aj ⟨n,tm,bY⟩ T):aj ⟨n,tm,hp⟩ T:=by
 refine aj.step (yy:=⟨n,tm,bY⟩) (fun w S a r=>?_) k
 have hH:rP w S b L c:=r.hp.holds _ u.lp.mem
 obtain ⟨r1,e1,k1⟩:=kM r.hp u (vK w b.cr) id id ⟨L,c,hL,hH⟩ (.inl rfl)
 exact ⟨_,S,rfl,r.heap k1 r1,e1⟩
theorem aG {α β:Type} {o:Option α} {f:α→Option β} {r:β} {C:Prop} (h:o.bind f=some r) (k:∀ v,o=some v→f v=some r→C):C:=
 let ⟨v,h1,h2⟩:=R6 h;k v h1 h2
def A4:Heap→Nat→Option ((Bk×Ob)×Heap)
 | [],_=>none
 | e :: h,0=>some (e,h)
 | e :: h,i+1=>match A4 h i with
   | some (x,h')=>some (x,e :: h')
   | none=>none
def yY:Heap→List Nat→Option Heap
 | _,[]=>some []
 | h,i :: r=>match A4 h i with
   | some (e,h')=>match yY h' r with
     | some t=>some (e :: t)
     | none=>none
   | none=>none
theorem A5:∀ {h:Heap} {i:Nat} {e:Bk×Ob} {h':Heap},A4 h i=some (e,h')→wI h e.1 e.2 h'
 | [],_,_,_,hh=>by simp [A4] at hh
 | x :: h,0,e,h',hh=>by
   simp only [A4,Option.some.injEq,Prod.mk.injEq] at hh
   obtain ⟨rfl,rfl⟩:=hh
   exact .here
 | x :: h,i+1,e,h',hh=>by
   simp only [A4] at hh
   split at hh
   ·rename_i y h1 h2
    simp only [Option.some.injEq,Prod.mk.injEq] at hh
    obtain ⟨rfl,rfl⟩:=hh
    exact .next (A5 h2)
   ·cases hh
theorem vL:∀ {l:List Nat} {h t:Heap},yY h l=some t→HS h t
 | [],h,t,hh=>by
   simp only [yY,Option.some.injEq] at hh
   subst hh;exact .nil
 | i :: r,h,t,hh=>by
   simp only [yY] at hh
   split at hh
   ·rename_i e h' h1
    split at hh
    ·rename_i t' h2
     obtain rfl:=Option.some.inj hh
     exact .cons (A5 h1) (vL h2)
    ·cases hh
   ·cases hh
def Ii (tm:List (Nat×AV)):List Nat→Option (List (Nat×AV))
 | []=>some []
 | s :: r=>match lk tm s with
   | some av=>match Ii tm r with
     | some l=>some ((s,av) :: l)
     | none=>none
   | none=>none
theorem C5 {tm:List (Nat×AV)}:∀ {l:List Nat} {kD:List (Nat×AV)},Ii tm l=some kD→AJ tm kD
 | [],kD,h=>by
   simp only [Ii,Option.some.injEq] at h
   subst h;exact True.intro
 | s :: r,kD,h=>by
   simp only [Ii] at h
   split at h
   ·rename_i av h1
    split at h
    ·rename_i t' h2
     obtain rfl:=Option.some.inj h
     exact ⟨h1,C5 h2⟩
    ·cases h
   ·cases h
theorem aj.lq {n:Nat} {tm kD:List (Nat×AV)} {hp bY:Heap} {T:St→Prop} (is:List Nat) (h:T ⟨n,kD,bY⟩) (ht:Ii tm (kD.map Prod.fst)=some kD) (hs:yY hp is=some bY):aj ⟨n,tm,hp⟩ T:=
 aj.Pw (C5 ht) (vL hs) (aj.here h)
theorem kR.p0 {b:Bk} {o:Ob} {h:Heap}:kR ((b,o) :: h) b o:=.here
theorem iE.p0 {b b':Bk} {o o':Ob} {h:Heap}:iE ((b,o) :: h) b o b' o' ((b',o') :: h):=.here
theorem wI.p0 {b:Bk} {o:Ob} {h:Heap}:wI ((b,o) :: h) b o (h):=.here
theorem kR.p1 {e0:Bk×Ob} {b:Bk} {o:Ob} {h:Heap}:kR (e0 :: (b,o) :: h) b o:=.next .p0
theorem iE.p1 {e0:Bk×Ob} {b b':Bk} {o o':Ob} {h:Heap}:iE (e0 :: (b,o) :: h) b o b' o' (e0 :: (b',o') :: h):=.next .p0
theorem wI.p1 {e0:Bk×Ob} {b:Bk} {o:Ob} {h:Heap}:wI (e0 :: (b,o) :: h) b o (e0 :: h):=.next .p0
theorem kR.p2 {e0:Bk×Ob} {e1:Bk×Ob} {b:Bk} {o:Ob} {h:Heap}:kR (e0 :: e1 :: (b,o) :: h) b o:=.next .p1
theorem iE.p2 {e0:Bk×Ob} {e1:Bk×Ob} {b b':Bk} {o o':Ob} {h:Heap}:iE (e0 :: e1 :: (b,o) :: h) b o b' o' (e0 :: e1 :: (b',o') :: h):=.next .p1
theorem wI.p2 {e0:Bk×Ob} {e1:Bk×Ob} {b:Bk} {o:Ob} {h:Heap}:wI (e0 :: e1 :: (b,o) :: h) b o (e0 :: e1 :: h):=.next .p1
theorem kR.p3 {e0:Bk×Ob} {e1:Bk×Ob} {e2:Bk×Ob} {b:Bk} {o:Ob} {h:Heap}:kR (e0 :: e1 :: e2 :: (b,o) :: h) b o:=.next .p2
theorem iE.p3 {e0:Bk×Ob} {e1:Bk×Ob} {e2:Bk×Ob} {b b':Bk} {o o':Ob} {h:Heap}:iE (e0 :: e1 :: e2 :: (b,o) :: h) b o b' o' (e0 :: e1 :: e2 :: (b',o') :: h):=.next .p2
theorem wI.p3 {e0:Bk×Ob} {e1:Bk×Ob} {e2:Bk×Ob} {b:Bk} {o:Ob} {h:Heap}:wI (e0 :: e1 :: e2 :: (b,o) :: h) b o (e0 :: e1 :: e2 :: h):=.next .p2
theorem kR.p4 {e0:Bk×Ob} {e1:Bk×Ob} {e2:Bk×Ob} {e3:Bk×Ob} {b:Bk} {o:Ob} {h:Heap}:kR (e0 :: e1 :: e2 :: e3 :: (b,o) :: h) b o:=.next .p3
theorem iE.p4 {e0:Bk×Ob} {e1:Bk×Ob} {e2:Bk×Ob} {e3:Bk×Ob} {b b':Bk} {o o':Ob} {h:Heap}:iE (e0 :: e1 :: e2 :: e3 :: (b,o) :: h) b o b' o' (e0 :: e1 :: e2 :: e3 :: (b',o') :: h):=.next .p3
theorem wI.p4 {e0:Bk×Ob} {e1:Bk×Ob} {e2:Bk×Ob} {e3:Bk×Ob} {b:Bk} {o:Ob} {h:Heap}:wI (e0 :: e1 :: e2 :: e3 :: (b,o) :: h) b o (e0 :: e1 :: e2 :: e3 :: h):=.next .p3
theorem kR.p5 {e0:Bk×Ob} {e1:Bk×Ob} {e2:Bk×Ob} {e3:Bk×Ob} {e4:Bk×Ob} {b:Bk} {o:Ob} {h:Heap}:kR (e0 :: e1 :: e2 :: e3 :: e4 :: (b,o) :: h) b o:=.next .p4
theorem iE.p5 {e0:Bk×Ob} {e1:Bk×Ob} {e2:Bk×Ob} {e3:Bk×Ob} {e4:Bk×Ob} {b b':Bk} {o o':Ob} {h:Heap}:iE (e0 :: e1 :: e2 :: e3 :: e4 :: (b,o) :: h) b o b' o' (e0 :: e1 :: e2 :: e3 :: e4 :: (b',o') :: h):=.next .p4
theorem wI.p5 {e0:Bk×Ob} {e1:Bk×Ob} {e2:Bk×Ob} {e3:Bk×Ob} {e4:Bk×Ob} {b:Bk} {o:Ob} {h:Heap}:wI (e0 :: e1 :: e2 :: e3 :: e4 :: (b,o) :: h) b o (e0 :: e1 :: e2 :: e3 :: e4 :: h):=.next .p4
theorem kR.p6 {e0:Bk×Ob} {e1:Bk×Ob} {e2:Bk×Ob} {e3:Bk×Ob} {e4:Bk×Ob} {e5:Bk×Ob} {b:Bk} {o:Ob} {h:Heap}:kR (e0 :: e1 :: e2 :: e3 :: e4 :: e5 :: (b,o) :: h) b o:=.next .p5
theorem iE.p6 {e0:Bk×Ob} {e1:Bk×Ob} {e2:Bk×Ob} {e3:Bk×Ob} {e4:Bk×Ob} {e5:Bk×Ob} {b b':Bk} {o o':Ob} {h:Heap}:iE (e0 :: e1 :: e2 :: e3 :: e4 :: e5 :: (b,o) :: h) b o b' o' (e0 :: e1 :: e2 :: e3 :: e4 :: e5 :: (b',o') :: h):=.next .p5
theorem wI.p6 {e0:Bk×Ob} {e1:Bk×Ob} {e2:Bk×Ob} {e3:Bk×Ob} {e4:Bk×Ob} {e5:Bk×Ob} {b:Bk} {o:Ob} {h:Heap}:wI (e0 :: e1 :: e2 :: e3 :: e4 :: e5 :: (b,o) :: h) b o (e0 :: e1 :: e2 :: e3 :: e4 :: e5 :: h):=.next .p5
theorem kR.p7 {e0:Bk×Ob} {e1:Bk×Ob} {e2:Bk×Ob} {e3:Bk×Ob} {e4:Bk×Ob} {e5:Bk×Ob} {e6:Bk×Ob} {b:Bk} {o:Ob} {h:Heap}:kR (e0 :: e1 :: e2 :: e3 :: e4 :: e5 :: e6 :: (b,o) :: h) b o:=.next .p6
theorem iE.p7 {e0:Bk×Ob} {e1:Bk×Ob} {e2:Bk×Ob} {e3:Bk×Ob} {e4:Bk×Ob} {e5:Bk×Ob} {e6:Bk×Ob} {b b':Bk} {o o':Ob} {h:Heap}:iE (e0 :: e1 :: e2 :: e3 :: e4 :: e5 :: e6 :: (b,o) :: h) b o b' o' (e0 :: e1 :: e2 :: e3 :: e4 :: e5 :: e6 :: (b',o') :: h):=.next .p6
section rules
variable {P:Program} {all:Array Oper} {rest:List Oper} {n:Nat} {tm:List (Nat×AV)} {hp:Heap} {Q:St→Prop} {d:Nat} {ty:TypeId} {pos:String} {af:Array Edge}
theorem rM {x:Operand} {av:AV} (hx:bS tm x=some av) (hn:Nat.blt d n=true) (k:ah P all rest ⟨n,(d,av) :: tm,hp⟩ Q):ah P all (⟨some d,.move x,ty,pos,af,none⟩ :: rest) ⟨n,tm,hp⟩ Q:=ah.qv (ar hx) hn k
theorem rA {x:Operand} {av:AV} (hx:bS tm x=some av) (hn:Nat.blt d n=true) (k:ah P all rest ⟨n,(d,av) :: tm,hp⟩ Q):ah P all (⟨some d,.assign x,ty,pos,af,none⟩ :: rest) ⟨n,tm,hp⟩ Q:=ah.qv (bl hx) hn k
theorem rF {x:Operand} {s:TypeId} {j off:Nat} {b:Bk} {o o':Nat} [lN P s j off] (hx:bS tm x=some (.ptr b o)) (ho:o+off=o') (hn:Nat.blt d n=true) (k:ah P all rest ⟨n,(d,.ptr b o') :: tm,hp⟩ Q):ah P all (⟨some d,.fieldAddr s x j,ty,pos,af,none⟩ :: rest) ⟨n,tm,hp⟩ Q:=ah.qv (au hx ho) hn k
theorem rL {t:TypeId} {D:TypeDesc} {x:Operand} {b:Bk} {o:Nat} {cs:List AV} {av:AV} [ay P t D] (hD:TypeDesc.jf D=false) (hx:bS tm x=some (.ptr b o)) (f:kR hp b (.cells cs)) (ho:cs[o]? =some av) (hn:Nat.blt d n=true) (k:ah P all rest ⟨n,(d,av) :: tm,hp⟩ Q):ah P all (⟨some d,.load t x,ty,pos,af,none⟩ :: rest) ⟨n,tm,hp⟩ Q:=ah.qv (aB hD hx f ho) hn k
theorem rT {c x y:Operand} {av:AV} (hc:bS tm c=some (.bool true)) (hx:bS tm x=some av) (hn:Nat.blt d n=true) (k:ah P all rest ⟨n,(d,av) :: tm,hp⟩ Q):ah P all (⟨some d,.pick c x y,ty,pos,af,none⟩ :: rest) ⟨n,tm,hp⟩ Q:=ah.qv (fT hc hx) hn k
theorem rE {c x y:Operand} {av:AV} (hc:bS tm c=some (.bool false)) (hx:bS tm y=some av) (hn:Nat.blt d n=true) (k:ah P all rest ⟨n,(d,av) :: tm,hp⟩ Q):ah P all (⟨some d,.pick c x y,ty,pos,af,none⟩ :: rest) ⟨n,tm,hp⟩ Q:=ah.qv (eI hc hx) hn k
theorem rX {x:Operand} {i:Nat} {vs:List AV} {av:AV} (hx:bS tm x=some (.mA vs)) (hi:vs[i]? =some av) (hn:Nat.blt d n=true) (k:ah P all rest ⟨n,(d,av) :: tm,hp⟩ Q):ah P all (⟨some d,.extract x i,ty,pos,af,none⟩ :: rest) ⟨n,tm,hp⟩ Q:=ah.qv (qO hx hi) hn k
theorem rN (h:Q ⟨n,tm,hp⟩):ah P all [] ⟨n,tm,hp⟩ Q:=ah.nil h
theorem rG {op:Op} {j:Nat} {want b:Bool} {s:Nat} (hj:(all[j]?).bind (·.dst)=some s) (hs:lk tm s=some (.bool b)) (hb:b=!want) (hn:Nat.blt d n=true) (k:ah P all rest ⟨n,(d,.raw undef) :: tm,hp⟩ Q):ah P all (⟨some d,op,ty,pos,af,some (j,want)⟩ :: rest) ⟨n,tm,hp⟩ Q:=ah.aF hj hs hb hn k
theorem rY {op:Op} {j:Nat} {want b:Bool} {s:Nat} (hj:(all[j]?).bind (·.dst)=some s) (hs:lk tm s=some (.bool b)) (hb:b=want) (k:ah P all (⟨some d,op,ty,pos,af,none⟩ :: rest) ⟨n,tm,hp⟩ Q):ah P all (⟨some d,op,ty,pos,af,some (j,want)⟩ :: rest) ⟨n,tm,hp⟩ Q:=ah.aA hj hs hb k
end rules
section rules
variable {P:Program} {R:St→Prop} {k:List It} {σ:St}
theorem tS {x y:Code} (h:aa P R (.code x :: .code y :: k) σ):aa P R (.code (.seq x y) :: k) σ:=aa.seq h
theorem tR {id:Nat} {l:List Oper} (h:ah P l.toArray l σ (aa P R k)):aa P R (.code (.region id l.toArray false) :: k) σ:=aa.region h
theorem aE {id:Nat} {l:List Oper} {y:Code} (h:ah P l.toArray l σ (aa P R (.code y :: k))):aa P R (.code (.seq (.region id l.toArray false) y) :: k) σ:=aa.seq (aa.region h)
theorem tK (h:aa P R k σ):aa P R (.code .skip :: k) σ:=aa.skip h
end rules
end Go.Eng
