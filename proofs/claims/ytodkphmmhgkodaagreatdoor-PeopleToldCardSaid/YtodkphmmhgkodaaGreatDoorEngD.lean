/- The engine: abstract values, the symbolic heap, one rule for each operation. No program in sight. -/
import Derived.Test.YtodkphmmhgkodaaGreatDoorEngC
import Derived.Laws.BytesArg
import Derived.Shelf.SlSortCmp.NoneTotal
set_option linter.unusedVariables false
set_option linter.unusedSectionVars false
namespace Go.Eng
open Go
variable [bM]
def depth:Nat:=100000
section rules
variable {P:Program} {all:Array Oper} {rest:List Oper} {n:Nat} {tm:List (Nat×AV)} {hp:Heap} {Q:St→Prop} {d:Nat} {ty:TypeId} {pos:String} {af:Array Edge}
end rules
theorem Kj {w:World} {S:Nat→Prop} {hp cN:Heap} {b:Bk} {sz k:Nat} {xs:List AV} (r:cI w S hp) (u:nN hp b (.arr sz xs) b (.arr sz (xs.take k)) cN):cI w S cN∧k9 w S hp w S cN:=by
 obtain ⟨pre,post,e1,e2⟩:=u.split
 subst e1;subst e2
 have hblk:∀ n,Has (pre++(b,Ob.arr sz (xs.take k)) :: post) n↔Has (pre++(b,Ob.arr sz xs) :: post) n:=by
  intro n
  constructor<;>rintro ⟨x,hx,hb⟩<;>rcases bx.1 hx with rfl | hx
  ·exact ⟨(b,.arr sz xs),bx.2 (.inl rfl),hb⟩
  ·exact ⟨x,bx.2 (.inr hx),hb⟩
  ·exact ⟨(b,.arr sz (xs.take k)),bx.2 (.inl rfl),hb⟩
  ·exact ⟨x,bx.2 (.inr hx),hb⟩
 refine ⟨⟨?_,?_,?_,r.slt,r.iy⟩,⟨rfl,rfl,rfl,Nat.le_refl _,fun n hn=>⟨hn,rfl⟩,fun n _ _=>⟨rfl,id⟩,fun n hn=>.inl ((hblk n).1 hn),fun _=>Nat.le_refl _⟩⟩
 ·have:=r.nodup
  simpa [List.flatMap_append,List.flatMap_cons,eb,Ob.more] using this
 ·intro x hx
  rcases bx.1 hx with rfl | hx
  ·obtain ⟨h0,h1,h2⟩:=r.holds (b,.arr sz xs) (bx.2 (.inl rfl))
   refine ⟨fun x hx=>h0 x (List.mem_of_mem_take hx),Nat.le_trans (by simp only [List.length_take];omega) h1,h2.imp id ?_⟩
   rintro ⟨n,vs,E,g1,g2,g3,g4⟩
   refine ⟨n,vs,E,g1,g2,g3,fun i c v hc hv=>?_⟩
   have hp:∃ t,flat xs=flat (xs.take k)++t:=⟨flat (xs.drop k),by
    show xs.flatMap AV.cells=(xs.take k).flatMap AV.cells++(xs.drop k).flatMap AV.cells
    rw [← List.flatMap_append,List.take_append_drop]⟩
   obtain ⟨t,ht⟩:=hp
   refine g4 i c v ?_ hv
   rw [ht,List.getElem?_append_left (List.getElem?_eq_some_iff.1 hc).1]
   exact hc
  ·exact r.holds x (bx.2 (.inr hx))
 ·intro x hx n hn
  rcases bx.1 hx with rfl | hx
  ·have:=r.sep (b,.arr sz xs) (bx.2 (.inl rfl)) n hn
   exact ⟨fun h=>(this.1 h).elim,fun h=>h.elim⟩
  ·exact r.sep x (bx.2 (.inr hx)) n hn
theorem aj.take {n k:Nat} {tm:List (Nat×AV)} {hp cN:Heap} {T:St→Prop} {b:Bk} {sz:Nat} {xs:List AV} (u:nN hp b (.arr sz xs) b (.arr sz (xs.take k)) cN) (kk:aj ⟨n,tm,cN⟩ T):aj ⟨n,tm,hp⟩ T:=by
 refine aj.step (Aq:=⟨n,tm,cN⟩) (fun w S a r=>?_) kk
 obtain ⟨g1,g2⟩:=Kj r.hp u
 exact ⟨_,S,rfl,⟨r.size,r.defers,r.tm,g1⟩,g2⟩
section rules
variable {P:Program} {all:Array Oper} {rest:List Oper} {n:Nat} {tm:List (Nat×AV)} {hp:Heap} {Q:St→Prop} {d:Nat} {ty:TypeId} {pos:String} {af:Array Edge}
theorem AP {α:Type} {Xs V:List α} {L H:Int} (h:Bq Xs L H=some V):V.length=H.toNat - L.toNat∧L.toNat+V.length≤Xs.length∧V=(Xs.drop L.toNat).take V.length:=by
 obtain ⟨⟨h0,h1,h2⟩,rfl⟩:=vL h
 have:((Xs.drop L.toNat).take (H.toNat - L.toNat)).length=H.toNat - L.toNat:=by simp;omega
 refine ⟨this,by rw [this];omega,by rw [this]⟩
theorem sy {α:Type} {Xs Zs:List α} {t e:TypeId} {i:TypeInfo} {x:Operand} {lo hi:Option Operand} {l h:Option Int} {sz:Nat} {b:Bk} {L H:Int} [aP P t (.slice e)] [br P e i] (hx:dm tm x=some (.sl sz b 0 Xs.length)) (jZ:Nat.beq i.size sz=true) (hl:Jo tm lo l) (hh:Jo tm hi h)
 (eL:iK l=L) (eH:jV Xs.length h=H) (hv:Bq Xs L H=some Zs):QV P ⟨some d,.slice t x lo hi none,ty,pos,af,none⟩ ⟨n,tm,hp⟩ (.sl sz b L.toNat Zs.length):=by
 obtain ⟨⟨h0,h1,h2⟩,_⟩:=vL hv
 have hlen:=(AP hv).1
 subst eL;subst eH
 have:=Gz (P:=P) (d:=d) (ty:=ty) (pos:=pos) (af:=af) (n:=n) (tm:=tm) (hp:=hp) (t:=t) (e:=e) hx jZ hl hh h0 h1 h2
 rw [Nat.zero_add] at this
 rw [hlen];exact this
theorem aj.N5 {α:Type} {g:α→AV} {Xs V:List α} {H:Int} {T:St→Prop} {b:Bk} {sz:Nat} {cN:Heap} (hv:Bq Xs 0 H=some V) (u:nN hp b (.arr sz (Xs.map g)) b (.arr sz (V.map g)) cN) (kk:aj ⟨n,tm,cN⟩ T):aj ⟨n,tm,hp⟩ T:=by
 refine aj.take (k:=V.length) (xs:=Xs.map g) (b:=b) (sz:=sz) ?_ kk
 rw [← List.map_take]
 have:=(AP hv).2.2
 simp only [Int.toNat_zero,List.drop_zero] at this
 rw [← this];exact u
end rules
def fO {R:Type} (n:Nat) (len:R→Nat) (x:Option R):Option R:=x.bind fun r=>if len r=n then some r else none
theorem fU {R:Type} {n:Nat} {len:R→Nat} {x:Option R} {r:R} (h:fO n len x=some r):x=some r:=by
 unfold fO at h
 cases x with
 | none=>cases h
 | some y=>
   simp only [Option.bind_some] at h
   split at h
   ·exact h
   ·cases h
theorem bP {R:Type} {n:Nat} {len:R→Nat} {x:Option R} {r:R} (h:fO n len x=some r):len r=n:=by
 unfold fO at h
 cases x with
 | none=>cases h
 | some y=>
   simp only [Option.bind_some] at h
   split at h
   ·rename_i hh;obtain rfl:=Option.some.inj h;exact hh
   ·cases h
theorem Fj {sz:Nat} {x:AV} (h:x.cells.length=sz):∀ (k i:Nat),i < k * sz→(flat (List.replicate k x))[i]? =x.cells[i % sz]?
 | 0,i,hi=>by simp at hi
 | k+1,i,hi=>by
   rw [List.replicate_succ,show flat (x :: List.replicate k x)=x.cells++flat (List.replicate k x) from rfl]
   by_cases jh:i < sz
   ·rw [List.getElem?_append_left (by omega),Nat.mod_eq_of_lt jh]
   ·rw [List.getElem?_append_right (by omega),h,Fj h k (i - sz) (by rw [Nat.add_mul] at hi;omega)]
    rw [Nat.mod_eq_sub_mod (a:=i) (by omega)]
section rules
variable {P:Program} {all:Array Oper} {rest:List Oper} {n:Nat} {tm:List (Nat×AV)} {hp:Heap} {Q:St→Prop} {d:Nat} {ty:TypeId} {pos:String} {af:Array Edge}
end rules
end Go.Eng
set_option linter.unusedSimpArgs false
namespace Go.Eng
open Go Go.Sort Go.Proofs
variable [bM]
structure N6 (P:Program) (f:FuncId) (k:Nat):Prop where
 some_:∀ (enc:Nat→List Value) (_:∀ x,(enc x).length=k) (_:∀ x,∀ v∈enc x,v.oneCell'=true) (cf:Nat→Nat→Int) (_:SWO (ltOf cf)) (g:Nat) (cb:Array Value) (cu off cap:Nat) (d:Array Nat) (w:World)
  (_:∀ args w,(callFunc g args).run P w=.ok (.enter g args) w) (_:CmpLays P g cb enc k cf cu off d.size w) (_:HoldsK enc k w cu off d) (_:cu < w.heap.size) (_:d.size < 4611686018427387904),
  Calls P f #[.slice (some ⟨cu,off,none⟩) d.size cap,.func (.func g) #[] cb] w fun e w'=>
   e=.returned (.tuple #[])∧∃ n os,w'=sortWorldK enc k w cu off n (pdq (ltOf cf) d 0 d.size (Lib.bitLen d.size) true true) os
 none_:∀ (p:Option Addr) (cap:Nat) (fv:Value) (w:World),Calls P f #[.slice p 0 cap,fv] w fun e w'=>e=.returned (.tuple #[])∧w'=w
def tD {α:Type} (x:α) (r:List α) (i:Nat):α:=(x :: r).getD i x
def rQ {α:Type} (f:α→α→Option Int) (x:α) (r:List α) (i j:Nat):Int:=(f (tD x r i) (tD x r j)).getD 0
noncomputable def BB {α:Type} (f:α→α→Option Int):List α→Option (List α)
 | []=>some []
 | x :: r=>@ite _ (r.length+1 < 4611686018427387904∧(∀ a∈x :: r,∀ b∈x :: r,∃ u,f a b=some u)∧SWO (ltOf (rQ f x r))) (Classical.propDecidable _)
     (some ((pdq (ltOf (rQ f x r)) (Array.range (r.length+1)) 0 (r.length+1) (Lib.bitLen (r.length+1)) true true).toList.map (tD x r))) none
theorem uG {α:Type} (f:α→α→Option Int) (x:α) (r:List α):BB f (x :: r)=@ite _ (r.length+1 < 4611686018427387904∧(∀ a∈x :: r,∀ b∈x :: r,∃ u,f a b=some u)∧SWO (ltOf (rQ f x r))) (Classical.propDecidable _)
 (some ((pdq (ltOf (rQ f x r)) (Array.range (r.length+1)) 0 (r.length+1) (Lib.bitLen (r.length+1)) true true).toList.map (tD x r))) none:=rfl
theorem ji {α:Type} (x:α) (r:List α) (i:Nat):tD x r i∈x :: r:=by
 unfold tD
 rw [List.getD_eq_getElem?_getD]
 rcases h:(x :: r)[i]? with _ | y
 ·simp
 ·exact List.mem_of_getElem? h
theorem xJ (enc:Nat→List Value) (k:Nat) (w:World) (cu off m:Nat) (dk:Array Nat) (os:Array Obj) {n:Nat} (hn:n < w.heap.size) (sT:n≠cu):(sortWorldK enc k w cu off m dk os).heap[n]? =w.heap[n]?:=by
 unfold sortWorldK putRowK putRow
 rw [heap_grow_old _ _ (by simpa [mapBlock] using hn)]
 simp only [mapBlock,heap_ahead,Array.getElem?_modify]
 rw [if_neg (fun h=>sT h.symm)]
theorem BC (enc:Nat→List Value) (k:Nat) (w:World) (cu off m:Nat) (dk:Array Nat) (os:Array Obj):w.heap.size≤(sortWorldK enc k w cu off m dk os).heap.size:=by
 unfold sortWorldK putRowK
 simp
theorem IG (enc:Nat→List Value) (k:Nat) (w:World) (cu m:Nat) (dk:Array Nat) (os:Array Obj) {vs:Array Value} {E:TypeId} (hb:w.heap[cu]? =some (.cells vs E (0,0))):(sortWorldK enc k w cu 0 m dk os).heap[cu]? =some (.cells (putCells id 0 (flatK enc k dk) vs) E (0,0)):=by
 have jh:cu < w.heap.size:=by
  rcases Nat.lt_or_ge cu w.heap.size with h | h
  ·exact h
  ·simp [Array.getElem?_eq_none h] at hb
 unfold sortWorldK putRowK putRow
 rw [heap_grow_old _ _ (by simpa [mapBlock] using jh)]
 simp only [mapBlock,heap_ahead,Array.getElem?_modify]
 rw [if_pos trivial,hb]
 rfl
theorem Ext.grown {w w':World} (hd:bM.dr) (e:Ext w w'):∃ q os,w'=grow (w.drewN q) os:=by
 refine ⟨w'.drawn - w.drawn,w'.heap.extract w.heap.size w'.heap.size,?_⟩
 obtain ⟨h',t',d',o',pX⟩:=w'
 have e1:=e.os;have e2:=e.tape;have e3:=e.output;have e4:=e.drawn hd;have e5:=e.size;have e6:=e.same
 simp only at e1 e2 e3 e4 e5 e6
 subst e1 e2 e3
 unfold grow World.drewN
 simp only [World.mk.injEq,and_true,true_and]
 refine ⟨?_,by omega⟩
 apply Array.ext_getElem?
 intro i
 by_cases hi:i < w.heap.size
 ·rw [e6 i hi,Array.getElem?_append_left hi]
 ·rw [Array.getElem?_append_right (by omega),Array.getElem?_extract]
  by_cases h2:i < h'.size
  ·rw [if_pos (by omega)]
   congr 1;omega
  ·rw [if_neg (by omega),Array.getElem?_eq_none (by omega)]
theorem GJ {P:Program} {T:Type} {g:T→AV} {f:FuncId} {k:Nat} (K:N6 P f k) (LV:Nat.blt 0 k=true) {gf:FuncId} [bF P gf] {C:List AV} {fn:T→T→Option Int} (Kk:∀ {x y:T} {u:Int},fn x y=some u→@Pu nP P gf (g x :: g y :: C) (I u))
 (UD:∀ x,g x=.agg (g x).cells) {Xs Ys:List T} {b:Bk} (h:BB fn Xs=some Ys):aT P f [.sl k b 0 Xs.length,.func (.func gf) C] [(b,.arr k (Xs.map g))] (T0 [(b,.arr k (Ys.map g))] (.oL [])):=by
 have LV:0 < k:=Nat.lt_of_lt_of_le (Nat.lt_of_succ_le (Nat.le_of_ble_eq_true LV)) (Nat.le_refl _)
 intro w S vs r hl ha
 obtain ⟨v0,v1,rfl⟩:∃ v0 v1,vs=#[v0,v1]:=by
  match vs,hl with
  | ⟨[v0,v1]⟩,_=>exact ⟨v0,v1,rfl⟩
 have a0:=ha 0 _ v0 rfl rfl
 have a1:=ha 1 _ v1 rfl rfl
 obtain ⟨oa,cap,rfl,e2⟩:=a0.uB
 obtain ⟨cv,rfl,Bd,UE⟩:=a1.x8
 match Xs,h with
 | [],h=>
   obtain rfl:=Option.some.inj h
   refine (K.none_ oa cap _ w).mono ?_
   rintro e w' ⟨rfl,rfl⟩
   exact ⟨_,.oL [],_,S,rfl,⟨rfl,rfl⟩,.oL [] #[] rfl (fun i c v hc=>by simp at hc),r,k9.refl _ _ _⟩
 | x :: xr,h=>
   rw [uG] at h
   by_cases hc:(xr.length+1 < 4611686018427387904∧(∀ a∈x :: xr,∀ b∈x :: xr,∃ u,fn a b=some u)∧SWO (ltOf (rQ fn x xr)))
   ·rw [if_pos hc] at h
    obtain rfl:=Option.some.inj h
    obtain ⟨hlen,OW,hO⟩:=hc
    obtain ⟨h0,h1,h2⟩:=r.holds _ (List.mem_singleton.2 rfl)
    simp only [List.length_map,List.length_cons] at h1
    rcases h2 with ⟨_,JJ⟩ | ⟨m,row,E,hb,Bu,jZ,sV⟩
    ·have Rl:b.cap=0:=JJ
     omega
    rcases e2 with ⟨hn,_,_,_,_⟩ | ⟨m',Ar,rfl,hle,UG⟩ | ⟨m',ad,_,_,OK,_⟩
    ·rw [hn] at hb;cases hb
    ·obtain rfl:m'=m:=by rw [Ar] at hb;exact Option.some.inj hb
     have OX:m' < w.heap.size:=by
      rcases Nat.lt_or_ge m' w.heap.size with h | h
      ·exact h
      ·simp [Array.getElem?_eq_none h] at Bu
     have nS:¬ S m':=fun hs=>by have:=(r.sep _ (List.mem_singleton.2 rfl) m' (ki hb)).1 hs;exact this
     let ix:Nat→Nat:=fun i=>if i < xr.length+1 then i else 0
     have UH:∀ i,ix i < xr.length+1:=fun i=>by simp only [ix];split<;>omega
     have OY:∀ i,(x :: xr)[ix i]? =some (tD x xr i):=by
      intro i
      simp only [ix,tD,List.getD_eq_getElem?_getD]
      split
      ·rename_i hi
       rw [List.getElem?_eq_getElem (by simpa using hi)];simp
      ·rename_i hi
       rw [List.getElem?_eq_none (l:=x :: xr) (i:=i) (by simp;omega)];simp
     have Uk:(xr.length+1) * k≤row.size:=by rw [jZ];exact Nat.mul_le_mul_right k h1
     let enc:Nat→List Value:=fun i=>(row.toList.drop (ix i * k)).take k
     have MH:∀ i,(enc i).length=k:=by
      intro i
      have:ix i * k+k≤row.size:=by
       have:=Nat.mul_le_mul_right k (show ix i+1≤xr.length+1 from UH i)
       rw [Nat.add_mul,Nat.one_mul] at this
       omega
      simp only [enc,List.length_take,List.length_drop,Array.length_toList];omega
     have Rm:∀ i j,j < k→(enc i)[j]? =row[ix i * k+j]?:=by
      intro i j hj
      simp only [enc,List.getElem?_take,if_pos hj,List.getElem?_drop,Array.getElem?_toList]
     have Bs:∀ i j,j < k→(flat ((x :: xr).map g))[ix i * k+j]? =(g (tD x xr i)).cells[j]?:=by
      intro i j hj
      exact si h0 (by rw [List.getElem?_map,OY i];rfl) j hj
     have Bd:∀ i,(g (tD x xr i)).cells.length=k:=fun i=>(h0 _ (List.mem_map.2 ⟨_,ji x xr i,rfl⟩)).1
     have Bb:∀ i,∀ c∈(g (tD x xr i)).cells,c.one=true:=fun i=>(h0 _ (List.mem_map.2 ⟨_,ji x xr i,rfl⟩)).2
     have Fk:∀ i,mR w S (g (tD x xr i)).cells (enc i).toArray:=by
      intro i j c v hc hv
      have hj:j < k:=by rw [← Bd i];exact (List.getElem?_eq_some_iff.1 hc).1
      refine sV (ix i * k+j) c v (by rw [Bs i j hj];exact hc) ?_
      rw [← Rm i j hj]
      simpa using hv
     have OZ:∀ i,∀ v∈enc i,v.oneCell'=true:=by
      intro i v hv
      obtain ⟨j,hj,rfl⟩:=List.getElem_of_mem hv
      have Y3:j < k:=by rw [MH i] at hj;exact hj
      have Wx:j < (g (tD x xr i)).cells.length:=by rw [Bd i];exact Y3
      exact (Fk i j (g (tD x xr i)).cells[j] (enc i)[j] (by simp [Wx]) (by simp [hj])).Gs (Bb i _ (List.getElem_mem Wx))
     have vM:∀ (d:Array Nat) (t:Nat),t < d.size * k→(flatK enc k d)[t]! =(enc d[t / k]!)[t % k]!:=fun d t ht=>get_flatK enc k d t ht
     have Kl:HoldsK enc k w m' 0 (Array.range (xr.length+1)):=by
      intro j hj
      rw [size_flatK,Array.size_range] at hj
      have hdiv:j / k < xr.length+1:=(Nat.div_lt_iff_lt_mul LV).2 hj
      have MI:j % k < k:=Nat.mod_lt _ LV
      have MJ:j < row.size:=by omega
      have e1:(flatK enc k (Array.range (xr.length+1)))[j]! =row[j]:=by
       rw [vM _ _ (by simpa using hj)]
       have:(Array.range (xr.length+1))[j / k]! =j / k:=by
        rw [getElem!_pos _ _ (by simpa using hdiv)];simp
       rw [this]
       have hv:=Rm (j / k) (j % k) MI
       have:ix (j / k)=j / k:=by simp only [ix];rw [if_pos hdiv]
       rw [this,Nat.div_add_mod'] at hv
       rw [Array.getElem?_eq_getElem MJ] at hv
       rw [List.getElem!_eq_getElem?_getD,hv];rfl
      constructor
      ·simp only [World.cell?,Bu,id,e1,Nat.zero_add,Option.isSome_none,Bool.false_eq_true,if_false]
       rw [Array.getElem?_eq_getElem MJ]
      ·simp [World.frozen?,Bu]
     have O0:CmpLays P gf cv enc k (rQ fn x xr) m' 0 (Array.range (xr.length+1)).size w:=by
      intro mm os dk Y4 i j
      obtain ⟨u,hu⟩:=OW _ (ji x xr i) _ (ji x xr j)
      have hW:∀ n,S n→S n∧(sortWorldK enc k w m' 0 mm dk os).heap[n]? =w.heap[n]?:=fun n hs=>
       ⟨hs,xJ enc k w m' 0 mm dk os (r.slt n hs) (fun e=>nS (e▸hs))⟩
      have Hx:mR (sortWorldK enc k w m' 0 mm dk os) S (g (tD x xr i) :: g (tD x xr j) :: C) (#[.agg (enc i).toArray,.agg (enc j).toArray]++cv):=by
       intro q c v hc hv
       have ag:∀ i,At (sortWorldK enc k w m' 0 mm dk os) S (g (tD x xr i)) (.agg (enc i).toArray):=fun i=>by
        rw [UD (tD x xr i)]
        exact .agg _ _ (by rw [Bd i];simp [MH i]) (fun a c v hc hv=>((Fk i) a c v hc hv).mono hW)
       match q with
       | 0=>
         rw [Array.getElem?_append_left (by simp)] at hv
         simp at hc hv;subst hc;subst hv;exact ag i
       | 1=>
         rw [Array.getElem?_append_left (by simp)] at hv
         simp at hc hv;subst hc;subst hv;exact ag j
       | q+2=>
         simp only [List.getElem?_cons_succ] at hc
         rw [Array.getElem?_append_right (by simp)] at hv
         simp only [List.size_toArray,List.length_cons,List.length_nil,Nat.add_sub_cancel] at hv
         exact (UE q c v hc (by simpa using hv)).mono hW
      refine (Kk hu _ S _ (@sq nP _ _ (fun n hn=>Nat.lt_of_lt_of_le (r.slt n hn) (BC _ _ _ _ _ _ _ _)) (fun g o ho=>⟨(r.iy g o ho).1,CQ (hW g (r.iy g o ho).1).2 (r.iy g o ho).2⟩)) (by simp [Bd,‹C.length=cv.size›];omega) Hx).mono ?_
      rintro e w' ⟨v,rr,h',S',rfl,hq,h3,h4,h5⟩
      obtain rfl:=hq
      rw [h3.eG]
      refine ⟨?_,@Ext.grown nP _ _ trivial (@k9.C2 nP _ _ _ _ _ h5)⟩
      unfold rQ
      rw [hu];rfl
     have MK:(Array.range (xr.length+1)).size=xr.length+1:=Array.size_range
     have Fl:=K.some_ enc MH OZ (rQ fn x xr) hO gf cv m' 0 cap (Array.range (xr.length+1)) w (fun args w=>rK gf args w) O0 Kl OX (by rw [MK];exact hlen)
     rw [MK] at Fl
     simp only [Nat.zero_mul]
     refine Fl.mono ?_
     rintro e w' ⟨rfl,q,os,rfl⟩
     have LW:=pdq_sorts (ltOf (rQ fn x xr)) hO (Array.range (xr.length+1)) 0 (xr.length+1) (Lib.bitLen (xr.length+1)) true true (Nat.zero_le _) (by rw [MK];exact Nat.le_refl _) (Or.inl rfl)
     generalize Az:pdq (ltOf (rQ fn x xr)) (Array.range (xr.length+1)) 0 (xr.length+1) (Lib.bitLen (xr.length+1)) true true=d' at LW ⊢
     have Fm:d'.size=xr.length+1:=by rw [LW.1.1,MK]
     have hW:∀ n,S n→S n∧(sortWorldK enc k w m' 0 q d' os).heap[n]? =w.heap[n]?:=fun n hs=>
      ⟨hs,xJ enc k w m' 0 q d' os (r.slt n hs) (fun e=>nS (e▸hs))⟩
     have Rn:∀ y∈(d'.toList.map (tD x xr)).map g,El k y:=by
      intro y hy
      simp only [List.mem_map] at hy
      obtain ⟨z,⟨i,_,rfl⟩,rfl⟩:=hy
      exact h0 _ (List.mem_map.2 ⟨_,ji x xr i,rfl⟩)
     have hh:Go.Eng.Holds (sortWorldK enc k w m' 0 q d' os) S b (.arr k ((d'.toList.map (tD x xr)).map g)):=by
      refine ⟨Rn,by simp [Fm];omega,.inr ⟨m',_,E,hb,IG enc k w m' q d' os Bu,by simp [putCells,jZ],?_⟩⟩
      intro j c v hc hv
      have Jl:j < (xr.length+1) * k:=by
       have:=(List.getElem?_eq_some_iff.1 hc).1
       rw [c0 Rn] at this
       simpa [Fm] using this
      have hdiv:j / k < xr.length+1:=(Nat.div_lt_iff_lt_mul LV).2 Jl
      have MI:j % k < k:=Nat.mod_lt _ LV
      have MJ:j < row.size:=by omega
      have UI:(d'.toList.map (tD x xr))[j / k]? =some (tD x xr d'[j / k]!):=by
       rw [List.getElem?_map,Array.getElem?_toList,Array.getElem?_eq_getElem (by omega),getElem!_pos d' (j / k) (by omega)];rfl
      have x9:(g (tD x xr d'[j / k]!)).cells[j % k]? =some c:=by
       rw [← si (sz:=k) Rn (i:=j / k) (x:=g (tD x xr d'[j / k]!)) (by rw [List.getElem?_map,UI];rfl) (j % k) MI,Nat.div_add_mod']
       exact hc
      have Qg:(enc d'[j / k]!)[j % k]? =some v:=by
       simp only [putCells,Array.getElem?_mapIdx,Array.getElem?_eq_getElem MJ,Option.map_some,Option.some.injEq] at hv
       rw [if_pos ⟨Nat.zero_le _,by rw [size_flatK,Fm];omega⟩,Nat.sub_zero,vM d' j (by rw [Fm];exact Jl)] at hv
       have jh:j % k < (enc d'[j / k]!).length:=by rw [MH];exact MI
       rw [List.getElem?_eq_getElem jh,← hv]
       simp only [id,getElem!_pos (enc d'[j / k]!) (j % k) jh]
      exact (Fk _ _ _ _ x9 (by simpa using Qg)).mono hW
     have Km:=BC enc k w m' 0 q d' os
     refine ⟨_,.oL [],_,S,rfl,⟨rfl,rfl⟩,.oL [] #[] rfl (fun i c v hc=>by simp at hc),⟨r.nodup,fun e he=>by rw [List.mem_singleton] at he;subst he;exact hh,fun e he n hn=>?_,fun n hn=>Nat.lt_of_lt_of_le (r.slt n hn) Km,fun g o ho=>⟨(r.iy g o ho).1,CQ (hW g (r.iy g o ho).1).2 (r.iy g o ho).2⟩⟩,?_⟩
     ·rw [List.mem_singleton] at he;subst he
      replace hn:=(vw rfl).1 hn
      rw [hb] at hn
      obtain rfl:=Option.some.inj hn
      exact ⟨fun hs=>(nS hs).elim,fun hf=>hf.elim⟩
     ·refine ⟨rfl,rfl,rfl,Km,hW,fun n hn UJ=>⟨xJ enc k w m' 0 q d' os hn (fun e=>UJ ⟨_,List.mem_singleton.2 rfl,by rw [e];exact ki hb⟩),id⟩,?_,?_⟩
      ·rintro n ⟨e,he,tQ⟩
       rw [List.mem_singleton] at he;subst he
       exact .inl ⟨_,List.mem_singleton.2 rfl,tQ⟩
      ·intro _
       show w.drawn≤(sortWorldK enc k w m' 0 q d' os).drawn
       show w.drawn≤w.drawn+q
       omega
    ·simp at OK
   ·rw [if_neg hc] at h;cases h
end Go.Eng
namespace Go.Eng
open Go
variable [bM]
def zr {α:Type} (xs:List α) (L:Int) (n:Nat) (j:Int):Option α:=if 0≤L∧0≤j∧j < n then idx xs (L+j) else none
theorem wK {α:Type} {xs:List α} {L:Int} {n:Nat} {j:Int} {x:α} (h:zr xs L n j=some x):(0≤L∧0≤j∧j < n)∧idx xs (L+j)=some x:=by
 unfold zr at h
 split at h
 ·rename_i hc;exact ⟨hc,h⟩
 ·cases h
def Dc {α:Type} (xs:List α) (L:Int) (n:Nat) (z:α):List α:=xs.take L.toNat++List.replicate n z++xs.drop (L.toNat+n)
theorem yl {α:Type} {xs v:List α} {L H:Int} {z:α} (h:Bq xs L H=some v):(Dc xs L v.length z).length=xs.length:=by
 obtain ⟨⟨h0,h1,h2⟩,_⟩:=vL h
 have:=(AP h).1
 unfold Dc
 simp only [List.length_append,List.length_take,List.length_replicate,List.length_drop]
 omega
section rules
variable {P:Program} {all:Array Oper} {rest:List Oper} {n:Nat} {tm:List (Nat×AV)} {hp:Heap} {Q:St→Prop} {d:Nat} {ty:TypeId} {pos:String} {af:Array Edge}
theorem vN {α:Type} {Xs:List α} {el:α} {t e:TypeId} {i:TypeInfo} {x y:Operand} {k:IntKind} {j L:Int} {sz m:Nat} {b:Bk} [aP P t (.slice e)] [br P e i] (hx:dm tm x=some (.sl sz b L.toNat m)) (jZ:Nat.beq i.size sz=true) (hy:dm tm y=some (.int k j))
 (hv:zr Xs L m j=some el):QV P ⟨some d,.indexAddr t x y,ty,pos,af,none⟩ ⟨n,tm,hp⟩ (.qH sz b (L+j).toNat 0):=by
 obtain ⟨⟨h0,h1,h2⟩,h3⟩:=wK hv
 have h:=Bc (P:=P) (d:=d) (ty:=ty) (pos:=pos) (af:=af) (n:=n) (tm:=tm) (hp:=hp) (t:=t) (e:=e) hx jZ hy ⟨h1,h2⟩
 rw [show (L+j).toNat=L.toNat+j.toNat by omega]
 exact h
theorem IH {x:Operand} {t e:TypeId} {sz off len:Nat} {b:Bk} [aP P t (.slice e)] (hx:dm tm x=some (.sl sz b off len)):QV P ⟨some d,.call {callee:=.builtin .len,args:=#[x],argTypes:=#[t]},ty,pos,af,none⟩ ⟨n,tm,hp⟩ (.int .i64 (len:Nat)):=A9 hx
theorem ML {t e:TypeId} {i:TypeInfo} {z:Value} {x:Operand} {b:Bk} {L N sz:Nat} {xs:List AV} {zx:AV} {cN:Heap} [aP P t (.slice e)] [br P e i] (hx:dm tm x=some (.sl sz b L N)) (hz:i.zero=some z) (Qh:CU z=zx) (jZ:Nat.beq i.size sz=true) (zo:QW sz zx=true) (vg:Nat.blt 0 sz=true) (hL:L+N≤xs.length)
 (u:nN hp b (.arr sz xs) b (.arr sz (xs.take L++List.replicate N zx++xs.drop (L+N))) cN) (kk:ae P all rest ⟨n,tm,cN⟩ Q):
 ae P all (⟨none,.call {callee:=.builtin .clear,args:=#[x],argTypes:=#[t]},ty,pos,af,none⟩ :: rest) ⟨n,tm,hp⟩ Q:=by
 have jZ:=Nat.eq_of_beq_eq_true jZ
 have vg:0 < sz:=Nat.lt_of_lt_of_le (Nat.lt_of_succ_le (Nat.le_of_ble_eq_true vg)) (Nat.le_refl _)
 have hE:=E1 zo
 refine ae.NR rfl fun w S a r=>?_
 obtain ⟨oa,cap,e1,e2⟩:=(bA (σ:=⟨n,tm,hp⟩) r hx).uB
 rcases Nat.eq_zero_or_pos N with h0 | h0
 ·subst h0
  have Kn:xs.take L++List.replicate 0 zx++xs.drop (L+0)=xs:=by simp
  rw [Kn] at u
  obtain ⟨p,q,Ro,Y5⟩:=u.split
  obtain rfl:cN=hp:=by rw [Ro,Y5]
  refine ⟨.tuple #[],w,S,⟨n,tm,cN⟩,?_,r,k9.refl _ _ _,kk⟩
  cases oa<;>simp [execOp,e1,resolve,invoke,builtin,Builtin.clear_,run_underlying (aP.h (P:=P) (t:=t))]
 ·rcases e2 with ⟨_,_,hl,_,_⟩ | ⟨m,hb,rfl,h1,h2⟩ | ⟨_,_,_,_,hl,_⟩
  ·omega
  ·obtain ⟨g0,g1,⟨g2,_⟩ | ⟨m',vs,E,g2,g3,g4,g5⟩⟩:=se r.hp (.inl u.lW)
   ·rw [g2] at hb;cases hb
   obtain rfl:m'=m:=by rw [g2] at hb;exact Option.some.inj hb
   obtain ⟨zl,Wy⟩:=rJ w S z (by rw [Qh];exact hE.2)
   rw [Qh] at zl Wy
   have Iq:z.cells.size=sz:=by rw [← zl];exact hE.1
   have S7:∀ y∈List.replicate N zx,El sz y:=fun y hy=>by rw [List.eq_of_mem_replicate hy];exact hE
   have Me:(Builtin.zeroCells z.cells N).size=N * sz:=by rw [size_zeroCells,Iq]
   have P8:(flat (List.replicate N zx)).length=(Builtin.zeroCells z.cells N).size:=by rw [c0 S7,Me];simp
   have Rp:mR w S (flat (List.replicate N zx)) (Builtin.zeroCells z.cells N):=by
    intro j c v hc hv
    have hj:j < N * sz:=by
     have:=(List.getElem?_eq_some_iff.1 hc).1
     rw [c0 S7] at this;simpa using this
    rw [Fj hE.1 N j hj] at hc
    refine Wy (j % sz) c v hc ?_
    unfold Builtin.zeroCells at hv
    simp only [Array.getElem?_map,Option.map_eq_some_iff] at hv
    obtain ⟨q,hq,rfl⟩:=hv
    have:q=j:=by
     rw [Array.getElem?_eq_some_iff] at hq
     obtain ⟨k1,k2⟩:=hq
     simpa using k2.symm
    subst this
    rw [Iq]
    have jh:q % sz < z.cells.size:=by rw [Iq];exact Nat.mod_lt _ vg
    simp [jh]
   have Bb:=ya P8 Rp (fun c hc=>by
    unfold flat at hc
    rw [List.mem_flatMap] at hc
    obtain ⟨y,hy,Y6⟩:=hc
    exact (S7 y hy).2 c Y6)
   have Hl:=c0 g0
   have hmul:(L+N) * sz≤xs.length * sz:=Nat.mul_le_mul_right _ hL
   have JW:xs.length * sz≤b.cap * sz:=Nat.mul_le_mul_right _ g1
   rw [Nat.add_mul] at hmul
   have xn:=run_storeCells_at (P:=P) m' (L * sz) E (Builtin.zeroCells z.cells N).toList 0 vs w g3 (by simp [Me];omega) Bb
   simp only [Nat.add_zero] at xn
   have Bs:flat (xs.take L++List.replicate N zx++xs.drop (L+N))=(flat xs).take (L * sz)++flat (List.replicate N zx)++(flat xs).drop (L * sz+(flat (List.replicate N zx)).length):=by
    rw [sZ,sZ,wE xs L g0,wD xs (L+N) g0,P8,Me,Nat.add_mul]
   have Bt:=fun (w':World) (ha:mR w' S (flat xs) vs) (hb:mR w' S (flat (List.replicate N zx)) (Builtin.zeroCells z.cells N))=>Hp (L * sz) (by rw [Hl,g4];exact JW) ha P8 hb (by rw [P8,Me,Hl];omega)
   have JX:(vs.toList.take (L * sz)++(Builtin.zeroCells z.cells N).toList++vs.toList.drop (L * sz+(Builtin.zeroCells z.cells N).toList.length)).toArray.size=b.cap * sz:=by
    simp [Me];omega
   generalize (vs.toList.take (L * sz)++(Builtin.zeroCells z.cells N).toList++vs.toList.drop (L * sz+(Builtin.zeroCells z.cells N).toList.length)).toArray=CW at xn Bt JX
   have c:GB w (w.setRow m' CW) b.cu:=⟨⟨rfl,rfl,rfl,by simp,fun k hk sT=>setRow_other w m' k _ (fun e=>sT (by rw [g2,e]))⟩,fun _=>Nat.le_refl _⟩
   have k1:∀ n,S n→S n∧(w.setRow m' CW).heap[n]? =w.heap[n]?:=by
    intro k hk
    refine ⟨hk,setRow_other w m' k _ (fun e=>?_)⟩
    subst e
    exact (r.hp.sep _ u.lW.mem k (ki g2)).1 hk
   have hh:=wC r.hp u c id id ⟨fun y hy=>?_,by simp;omega,.inr ⟨m',CW,E,g2,setRow_heap w m' vs _ E _ g3,JX,by rw [Bs];exact Bt _ (g5.mono k1) (Rp.mono k1)⟩⟩ (.inl rfl)
   ·refine ⟨.tuple #[],w.setRow m' CW,S,⟨n,tm,cN⟩,?_,r.heap hh.2.2 hh.1,hh.2.1,kk⟩
    obtain ⟨N',rfl⟩:∃ k,N=k+1:=⟨N - 1,by omega⟩
    simp [execOp,e1,resolve,invoke,builtin,Builtin.clear_,run_underlying (aP.h (P:=P) (t:=t)),zeroValue,typeInfo,br.h (P:=P) (t:=e),hz,xn]
   ·rcases List.mem_append.1 hy with h | h
    ·rcases List.mem_append.1 h with h | h
     ·exact g0 y (List.mem_of_mem_take h)
     ·exact S7 y h
    ·exact g0 y (List.mem_of_mem_drop h)
  ·omega
theorem Hy {α:Type} {g:α→AV} {Z:α} {Xs V:List α} {H:Int} {t e:TypeId} {i:TypeInfo} {z:Value} {x:Operand} {b:Bk} {L:Int} {sz:Nat} {cN:Heap} [aP P t (.slice e)] [br P e i] (hx:dm tm x=some (.sl sz b L.toNat V.length)) (hz:i.zero=some z) (Qh:CU z=g Z) (jZ:Nat.beq i.size sz=true) (zo:QW sz (g Z)=true) (vg:Nat.blt 0 sz=true) (hv:Bq Xs L H=some V)
 (u:nN hp b (.arr sz (Xs.map g)) b (.arr sz ((Dc Xs L V.length Z).map g)) cN) (kk:ae P all rest ⟨n,tm,cN⟩ Q):
 ae P all (⟨none,.call {callee:=.builtin .clear,args:=#[x],argTypes:=#[t]},ty,pos,af,none⟩ :: rest) ⟨n,tm,hp⟩ Q:=by
 obtain ⟨⟨h0,h1,h2⟩,_⟩:=vL hv
 have hlen:=(AP hv).1
 refine ML (xs:=Xs.map g) hx hz Qh jZ zo vg (by simp;omega) ?_ kk
 have:(Dc Xs L V.length Z).map g=(Xs.map g).take L.toNat++List.replicate V.length (g Z)++(Xs.map g).drop (L.toNat+V.length):=by
  unfold Dc
  simp
 rw [← this]
 exact u
end rules
end Go.Eng
namespace Go.Eng
open Go Go.Sort Go.Proofs
variable [bM]
theorem II {α:Type} [Inhabited α] (enc:α→Value) (w:World) (cu off m:Nat) (dk:Array α) (os:Array Obj) {n:Nat} (hn:n < w.heap.size) (sT:n≠cu):(grow (putRow enc (Sort.ahead w m) cu off dk) os).heap[n]? =w.heap[n]?:=by
 unfold putRow
 rw [heap_grow_old _ _ (by simpa [mapBlock] using hn)]
 simp only [mapBlock,heap_ahead,Array.getElem?_modify]
 rw [if_neg (fun h=>sT h.symm)]
theorem Ko {α:Type} [Inhabited α] (enc:α→Value) (w:World) (cu m:Nat) (dk:Array α) (os:Array Obj) {vs:Array Value} {E:TypeId} (hb:w.heap[cu]? =some (.cells vs E (0,0))):(grow (putRow enc (Sort.ahead w m) cu 0 dk) os).heap[cu]? =some (.cells (putCells enc 0 dk vs) E (0,0)):=by
 have jh:cu < w.heap.size:=by
  rcases Nat.lt_or_ge cu w.heap.size with h | h
  ·exact h
  ·simp [Array.getElem?_eq_none h] at hb
 unfold putRow
 rw [heap_grow_old _ _ (by simpa [mapBlock] using jh)]
 simp only [mapBlock,heap_ahead,Array.getElem?_modify]
 rw [if_pos trivial,hb]
 rfl
theorem zt {α:Type} {g:α→AV} (hc:∀ x,(g x).cells=[g x]):∀ xs:List α,flat (xs.map g)=xs.map g
 | []=>rfl
 | x :: r=>by rw [List.map_cons,gI,hc,zt hc r];rfl
end Go.Eng
namespace Go.Eng
open Go
variable [bM]
def AV.Kp:AV→Bool
 | .sl _ _ _ _=>true
 | .ptr _ _=>true
 | .agg cs=>E3 cs
 | v=>v.DP
def IJ:List AV→Bool
 | []=>true
 | c :: r=>c.Kp&&IJ r
def AV.Rq:AV→Bool
 | .oL cs=>IJ cs
 | .agg cs=>IJ cs
 | v=>v.Kp
theorem AR {w:World} {S S':Nat→Prop} {av:AV} {v:Value} (h:At w S av v) (hn:av.Kp=true):At w S' av v:=by
 cases h with
 | agg cs vs hl h=>exact .agg cs vs hl fun i c u hc hu=>vJ (h i c u hc hu) (vK hn c (List.mem_of_getElem? hc))
 | sl sz b off len n cap hb h1 h2=>exact .sl sz b off len n cap hb h1 h2
 | Cx sz b hb=>exact .Cx sz b hb
 | L9 sz b off n ad hb=>exact .L9 sz b off n ad hb
 | ptr b o n hb=>exact .ptr b o n hb
 | int k n=>exact .int k n
 | bool b=>exact .bool b
 | str s=>exact .str s
 | nil=>exact .nil
 | raw v=>exact .raw v
 | _=>simp [AV.Kp,AV.DP] at hn
theorem ym:∀ {cs:List AV},IJ cs=true→∀ c∈cs,c.Kp=true
 | [],_,c,hc=>by simp at hc
 | x :: r,h,c,hc=>by
   simp only [IJ,Bool.and_eq_true] at h
   rcases List.mem_cons.1 hc with rfl | hc
   ·exact h.1
   ·exact ym h.2 c hc
theorem O1 {w:World} {S S':Nat→Prop} {av:AV} {v:Value} (h:At w S av v) (hn:av.Rq=true):At w S' av v:=by
 cases av with
 | oL cs=>
   cases h with
   | oL _ vs hl h=>exact .oL cs vs hl fun i c u hc hu=>AR (h i c u hc hu) (ym hn c (List.mem_of_getElem? hc))
 | agg cs=>
   cases h with
   | agg _ vs hl h=>exact .agg cs vs hl fun i c u hc hu=>AR (h i c u hc hu) (ym hn c (List.mem_of_getElem? hc))
 | _=>exact AR h hn
def Ob.LX:Ob→Prop
 | .cells cs=>IJ cs=true
 | .arr _ xs=>∀ x∈xs,E3 x.cells=true
 | _=>False
inductive GK:Heap→Prop
 | nil:GK []
 | cons {b:Bk} {o:Ob} {h:Heap} (c:o.LX) (k:GK h):GK ((b,o) :: h)
theorem GK.mem {h:Heap} (k:GK h):∀ e∈h,e.2.LX:=by
 induction k with
 | nil=>intro e he;simp at he
 | cons c k ih=>
   intro e he
   rcases List.mem_cons.1 he with rfl | he
   ·exact c
   ·exact ih e he
theorem LX.rP {α:Type} {g:α→AV} {sz:Nat} {Xs:List α} (h:∀ x,E3 (g x).cells=true):(Ob.arr sz (Xs.map g)).LX:=fun x hx=>by
 obtain ⟨y,_,rfl⟩:=List.mem_map.1 hx
 exact h y
theorem Holds.Rq {w:World} {S S':Nat→Prop} {b:Bk} {o:Ob} (h:Holds w S b o) (hn:o.LX):Holds w S' b o:=by
 cases o with
 | cells cs=>
   obtain ⟨h0,n,vs,E,h1,h2,h3,h4⟩:=h
   exact ⟨h0,n,vs,E,h1,h2,h3,fun i c v hc hv=>AR (h4 i c v hc hv) (ym hn c (List.mem_of_getElem? hc))⟩
 | arr sz xs=>
   obtain ⟨h0,h1,h2⟩:=h
   refine ⟨h0,h1,h2.imp id ?_⟩
   rintro ⟨n,vs,E,g1,g2,g3,g4⟩
   refine ⟨n,vs,E,g1,g2,g3,fun i c v hc hv=>vJ (g4 i c v hc hv) ?_⟩
   have hm:=List.mem_of_getElem? hc
   unfold flat at hm
   rw [List.mem_flatMap] at hm
   obtain ⟨x,hx,T9⟩:=hm
   exact vK (hn x hx) c T9
 | x3 _ _=>exact hn.elim
 | mp _=>exact hn.elim
 | QH _ _=>exact hn.elim
 | QI _ _ _=>exact hn.elim
 | QJ _ _ _=>exact hn.elim
 | cm _=>exact hn.elim
 | P4 _ _ _ _=>exact hn.elim
 | QK _ _=>exact hn.elim
 | QL _=>exact hn.elim
section rules
variable {P:Program} {all:Array Oper} {rest:List Oper} {n:Nat} {tm:List (Nat×AV)} {hp:Heap} {Q:St→Prop} {d:Nat} {ty:TypeId} {pos:String} {af:Array Edge}
theorem MM {f:FuncId} {args:List Operand} {ts:Array TypeId} {l l':List AV} {h0 hr:Heap} {Qc:AV→Heap→Prop} [bF P f] (hl:zS tm args=some l) (c:aT P f l' h0 Qc) (co:rO hr l l') (hs:hp.Perm (h0++hr)) (hn:Nat.blt d n=true)
 (kk:∀ r h',Qc r h'→r.Rq=true∧GK h'∧ae P all rest ⟨n,(d,r) :: tm,h'++hr⟩ Q):ae P all (⟨some d,.call {callee:=.value (.func f),args:=args.toArray,argTypes:=ts},ty,pos,af,none⟩ :: rest) ⟨n,tm,hp⟩ Q:=by
 refine ae.Hh rfl fun w S a r=>⟨f,_,oz a w,?_⟩
 obtain ⟨g1,g2⟩:=so (σ:=⟨n,tm,hp⟩) r hl
 have rp:=r.hp.perm hs
 have O2:cI w S hr:=rp.sub (List.sublist_append_right _ _)
 have N7:cI w S h0:=rp.sub (List.sublist_append_left _ _)
 obtain ⟨g3,g4⟩:=rO.at O2 co g1 g2
 have O3:∀ m,Has h0 m→¬ Has hr m:=by
  rintro m ⟨x,hx,IK⟩ ⟨y,hy,Y7⟩
  have:=rp.nodup
  rw [List.flatMap_append,List.nodup_append] at this
  exact this.2.2 m (List.mem_flatMap.2 ⟨x,hx,IK⟩) m (List.mem_flatMap.2 ⟨y,hy,Y7⟩) rfl
 have rh:cI w (SB S hr) h0:=by
  refine ⟨N7.nodup,fun e he=>(N7.holds e he).mono (fun m hm=>⟨.inl hm,rfl⟩) (fun m _=>rfl),fun e he m hm=>?_,fun m hm=>?_,fun g o ho=>⟨.inl (N7.iy g o ho).1,(N7.iy g o ho).2⟩⟩
  ·constructor
   ·rintro (h | h)
    ·exact (N7.sep e he m hm).1 h
    ·exact (O3 m ⟨e,he,hm⟩ h).elim
   ·exact fun h=>.inl ((N7.sep e he m hm).2 h)
  ·rcases hm with h | h
   ·exact N7.slt m h
   ·exact O2.lt h
 refine (c w (SB S hr) _ rh (by simpa using g3) g4).mono ?_
 rintro e w' ⟨v,res,h',S',rfl,hq,h3,h4,h5⟩
 obtain ⟨k1,k2,k3⟩:=kk res h' hq
 have UK:∀ m,S m→(S' m∧(Has hr m→S m))∧w'.heap[m]? =w.heap[m]?:=fun m hm=>⟨⟨(h5.nf m (.inl hm)).1,fun _=>hm⟩,(h5.nf m (.inl hm)).2⟩
 have vH:cI w' (fun m=>S' m∧(Has hr m→S m)) (h'++hr):=by
  refine ⟨?_,?_,?_,fun m hm=>h4.slt m hm.1,fun g o ho=>⟨⟨(h4.iy g o ho).1,fun _=>(N7.iy g o ho).1⟩,(h4.iy g o ho).2⟩⟩
  ·rw [List.flatMap_append,List.nodup_append]
   refine ⟨h4.nodup,O2.nodup,fun x hx y hy Gn=>?_⟩
   subst Gn
   obtain ⟨e1,Ub,Mm⟩:=List.mem_flatMap.1 hx
   obtain ⟨e2,Mb,Wz⟩:=List.mem_flatMap.1 hy
   rcases h5.new x ⟨e1,Ub,Mm⟩ with h | h
   ·exact O3 x h ⟨e2,Mb,Wz⟩
   ·have:=O2.lt ⟨e2,Mb,Wz⟩;omega
  ·intro e he
   rcases List.mem_append.1 he with he | he
   ·exact (h4.holds e he).Rq (k2.mem e he)
   ·exact (O2.holds e he).mono UK (fun m hm=>(h5.nf m (.inr ⟨e,he,hm⟩)).2)
  ·intro e he m hm
   rcases List.mem_append.1 he with he | he
   ·rw [← h4.sep e he m hm]
    refine ⟨fun h=>h.1,fun h=>⟨h,fun hh=>?_⟩⟩
    rcases h5.new m ⟨e,he,hm⟩ with h6 | h6
    ·exact (O3 m h6 hh).elim
    ·have:=O2.lt hh;omega
   ·rw [← O2.sep e he m hm]
    exact ⟨fun h=>h.2 ⟨e,he,hm⟩,fun h=>⟨(h5.nf m (.inl h)).1,fun _=>h⟩⟩
 have MN:∀ m,Has hp m↔Has h0 m∨Has hr m:=by
  intro m
  constructor
  ·rintro ⟨x,hx,hb⟩
   rcases List.mem_append.1 (hs.mem_iff.1 hx) with h | h
   ·exact .inl ⟨x,h,hb⟩
   ·exact .inr ⟨x,h,hb⟩
  ·rintro (⟨x,hx,hb⟩ | ⟨x,hx,hb⟩)
   ·exact ⟨x,hs.mem_iff.2 (List.mem_append_left _ hx),hb⟩
   ·exact ⟨x,hs.mem_iff.2 (List.mem_append_right _ hx),hb⟩
 refine ⟨v,fun m=>S' m∧(Has hr m→S m),⟨n,(d,res) :: tm,h'++hr⟩,rfl,(r.heap UK vH).put hn (O1 h3 k1),?_,k3⟩
 refine ⟨h5.os,h5.tape,h5.output,h5.size,UK,fun m hm hh=>?_,fun m hm=>?_,h5.drawn⟩
 ·have n0:¬ Has h0 m:=fun h=>hh ((MN m).2 (.inl h))
  have nr:¬ Has hr m:=fun h=>hh ((MN m).2 (.inr h))
  obtain ⟨q1,q2⟩:=h5.other m hm n0
  refine ⟨q1,fun h=>?_⟩
  rcases q2 h.1 with h | h
  ·exact h
  ·exact (nr h).elim
 ·obtain ⟨x,hx,hb⟩:=hm
  rcases List.mem_append.1 hx with hx | hx
  ·rcases h5.new m ⟨x,hx,hb⟩ with h | h
   ·exact .inl ((MN m).2 (.inl h))
   ·exact .inr h
  ·exact .inl ((MN m).2 (.inr ⟨x,hx,hb⟩))
theorem vO {Br:Type} {f:FuncId} {args:List Operand} {ts:Array TypeId} {l l':List AV} {h0 hr:Heap} {H H':Br→Heap} {V:Br→AV} [bF P f] (hl:zS tm args=some l) (c:aT P f l' h0 (T1 H V)) (hs:C5 hp h0 hr) (co:rO hr l l') (ha:∀ b,su (H b) hr=some (H' b)) (hV:∀ b,(V b).Rq=true) (hH:∀ b,GK (H b)) (hn:Nat.blt d n=true)
 (kk:∀ b,ae P all rest ⟨n,(d,V b) :: tm,H' b⟩ Q):ae P all (⟨some d,.call {callee:=.value (.func f),args:=args.toArray,argTypes:=ts},ty,pos,af,none⟩ :: rest) ⟨n,tm,hp⟩ Q:=
 MM hl c co hs.perm hn (fun r h' ⟨b,e1,e2⟩=>by subst e1;subst e2;rw [oN (ha b)];exact ⟨hV b,hH b,kk b⟩)
end rules
class xK (K:Type) where
 lt:K→K→Bool
instance:xK Int:=⟨fun a b=>decide (a < b)⟩
instance:xK Bool:=⟨fun a b=>!a&&b⟩
instance:xK (List UInt8):=⟨fun a b=>Op.bytesLess a b⟩
section plain
variable {K V:Type}
def BD [DecidableEq K] (m:List (K×V)) (k:K):List (K×V):=m.filter (fun e=>decide (e.1≠k))
def CC [xK K] (k:K) (v:V):List (K×V)→List (K×V)
 | []=>[(k,v)]
 | e :: r=>if xK.lt e.1 k=true then e :: CC k v r else (k,v) :: e :: r
def pz [DecidableEq K] [xK K] (m:List (K×V)) (k:K) (v:V):List (K×V):=CC k v (BD m k)
def gL [DecidableEq K]:List (K×V)→K→Option V
 | [],_=>none
 | e :: r,k=>if e.1=k then some e.2 else gL r k
def Aa [DecidableEq K] (m:List (K×V)) (k:K) (z:V):Option V:=some ((gL m k).getD z)
theorem wL [xK K] (k:K) (v:V):∀ (m:List (K×V)),(CC k v m).Perm ((k,v) :: m)
 | []=>List.Perm.refl _
 | e :: r=>by
   unfold CC
   split
   ·exact (List.Perm.cons e (wL k v r)).trans (List.Perm.swap _ _ _)
   ·exact List.Perm.refl _
theorem yn {α β:Type} (f:α→β):∀ (l:List β) (M:List α),l.Perm (M.map f)→∃ M':List α,M'.Perm M∧l=M'.map f
 | [],M,h=>by
   have:=h.nil_eq
   rw [eq_comm,List.map_eq_nil_iff] at this
   subst this;exact ⟨[],List.Perm.refl _,rfl⟩
 | x :: t,M,h=>by
   have hx:x∈M.map f:=h.mem_iff.1 (by simp)
   obtain ⟨e,he,rfl⟩:=List.mem_map.1 hx
   obtain ⟨p,q,rfl⟩:=List.append_of_mem he
   have h2:(f e :: t).Perm (f e :: (p++q).map f):=h.trans (by rw [List.map_append,List.map_cons,List.map_append];exact List.perm_middle)
   obtain ⟨M',h3,rfl⟩:=yn f t (p++q) (List.Perm.cons_inv h2)
   exact ⟨e :: M',(List.Perm.cons e h3).trans List.perm_middle.symm,rfl⟩
theorem BE [DecidableEq K] {k:K} {v:V}:∀ {m:List (K×V)},gL m k=some v→(k,v)∈m
 | [],h=>by cases h
 | e :: r,h=>by
   unfold gL at h
   split at h
   ·rename_i hk
    obtain rfl:=Option.some.inj h
    subst hk;simp
   ·exact List.mem_cons_of_mem _ (BE h)
theorem vP [DecidableEq K] {k:K} {v:V}:∀ {m:List (K×V)},(m.map Prod.fst).Nodup→(k,v)∈m→gL m k=some v
 | [],_,h=>by simp at h
 | e :: r,hn,h=>by
   rw [List.map_cons,List.nodup_cons] at hn
   unfold gL
   rcases List.mem_cons.1 h with rfl | h
   ·simp
   ·rw [if_neg (fun hk=>hn.1 (List.mem_map.2 ⟨_,h,hk.symm⟩))]
    exact vP hn.2 h
theorem wM [DecidableEq K] {k:K}:∀ {m:List (K×V)},gL m k=none↔∀ e∈m,e.1≠k
 | []=>by simp [gL]
 | e :: r=>by
   unfold gL
   split
   ·rename_i hk;simp [hk]
   ·rename_i hk
    rw [wM (m:=r)]
    simp [hk]
theorem wN [DecidableEq K] {m m':List (K×V)} (hp:m'.Perm m) (hn:(m'.map Prod.fst).Nodup) (k:K):gL m' k=gL m k:=by
 have N3:(m.map Prod.fst).Nodup:=(hp.map _).nodup_iff.1 hn
 cases h:gL m' k with
 | none=>
   symm
   rw [wM] at h ⊢
   exact fun e he=>h e (hp.mem_iff.2 he)
 | some v=>exact (vP N3 (hp.mem_iff.1 (BE h))).symm
theorem IL [DecidableEq K] {m:List (K×V)} {k:K} (h:gL m k=none):BD m k=m:=by
 rw [wM] at h
 unfold BD
 exact List.filter_eq_self.2 fun e he=>by simpa using h e he
end plain
def vQ {K:Type} [DecidableEq K] (k:K):List K→List MapEntry→Nat→Option (Nat×Value)
 | k' :: ks,e :: es,i=>if k'=k then some (i,e.val) else vQ k ks es (i+1)
 | _,_,_=>none
class mM (P:Program) (t:TypeId) {K:Type} [DecidableEq K] (g:K→AV):Prop where
 inj:∀ a b,g a=g b→a=b
 check:∀ {w:World} {S:Nat→Prop} {k:K} {v:Value},At w S (g k) v→∀ (b:Bool) (w1:World),(Instr.checkKey b 10000 t v).run P w1=.ok () w1
 find:∀ {w:World} {S:Nat→Prop} {k:K} {v:Value},At w S (g k) v→∀ (es:List MapEntry) (ks:List K),ks.length=es.length→(∀ (i:Nat) k' e,ks[i]? =some k'→es[i]? =some e→At w S (g k') e.key)→∀ w1:World,(Instr.findKey t v es).run P w1=.ok (vQ k ks es 0) w1
 bits:∀ {w:World} {S:Nat→Prop} {k:K} {v u:Value},At w S (g k) v→At w S (g k) u→Instr.sameBits 10000 v u=true
theorem wO {K:Type} [DecidableEq K] {d:TypeDesc} {v:Value} {k:K} {q:K→Value→Prop} (hq:∀ k' u,q k' u→Instr.sameNow d v u=some (decide (k'=k))):∀ (es:List MapEntry) (ks:List K) (i:Nat),ks.length=es.length→(∀ (i:Nat) k' e,ks[i]? =some k'→es[i]? =some e→q k' e.key)→Instr.findNow d v es i=some (vQ k ks es i)
 | [],[],i,_,_=>rfl
 | [],k' :: ks,i,hl,_=>by simp at hl
 | e :: es,[],i,hl,_=>by simp at hl
 | e :: es,k' :: ks,i,hl,h=>by
   unfold Instr.findNow vQ
   rw [hq k' e.key (h 0 k' e rfl rfl)]
   by_cases hk:k'=k
   ·simp [hk]
   ·simp only [hk,decide_false,if_false]
    exact wO hq es ks (i+1) (by simpa using hl) (fun i k' e h1 h2=>h (i+1) k' e (by simpa using h1) (by simpa using h2))
theorem GL (a b:ByteArray):((a==b)=true)↔a=b:=by
 cases a with
 | mk a=>
   cases b with
   | mk b=>
     show (a==b)=true↔_
     rw [beq_iff_eq]
     exact ⟨fun h=>by rw [h],fun h=>by cases h;rfl⟩
theorem mM.int {P:Program} {t:TypeId} {q:IntKind} (h:P.underlying t=some (.int q)):mM P t (K:=Int) (fun n=>AV.int q n) where
 inj a b h:=by simpa using h
 check:=fun {w S k v} hv b w1=>by
  rw [hv.eG]
  have key:∀ n:Nat,(Instr.checkKey b (n+1) t (Value.int q k)).run P w1=.ok () w1:=fun n=>by simp [Instr.checkKey,run_underlying h]
  exact key 9999
 find:=fun {w S k v} hv es ks hl hk w1=>by
  rw [hv.eG]
  have hf:=wO (d:=(.int q)) (v:=(Value.int q k)) (k:=k) (q:=fun k' u=>u=(Value.int q k')) (fun k' u hu=>by subst hu;simp only [Instr.sameNow,if_true];congr 1;rw [Bool.eq_iff_iff];simp;exact eq_comm) es ks 0 hl (fun i k' e h1 h2=>(hk i k' e h1 h2).eG)
  simp [Instr.findKey,run_underlying h,hf]
 bits:=fun {w S k v u} h1 h2=>by rw [h1.eG,h2.eG];simp [Instr.sameBits]
theorem mM.bool {P:Program} {t:TypeId} (h:P.underlying t=some .bool):mM P t (K:=Bool) AV.bool where
 inj a b h:=by simpa using h
 check:=fun {w S k v} hv b w1=>by
  rw [hv.ln]
  have key:∀ n:Nat,(Instr.checkKey b (n+1) t (Value.bool k)).run P w1=.ok () w1:=fun n=>by simp [Instr.checkKey,run_underlying h]
  exact key 9999
 find:=fun {w S k v} hv es ks hl hk w1=>by
  rw [hv.ln]
  have hf:=wO (d:=.bool) (v:=(Value.bool k)) (k:=k) (q:=fun k' u=>u=(Value.bool k')) (fun k' u hu=>by subst hu;simp only [Instr.sameNow];congr 1;rw [Bool.eq_iff_iff];simp;exact eq_comm) es ks 0 hl (fun i k' e h1 h2=>(hk i k' e h1 h2).ln)
  simp [Instr.findKey,run_underlying h,hf]
 bits:=fun {w S k v u} h1 h2=>by rw [h1.ln,h2.ln];simp [Instr.sameBits]
theorem mM.str {P:Program} {t:TypeId} (h:P.underlying t=some .string):mM P t (K:=List UInt8) AV.str where
 inj a b h:=by simpa using h
 check:=fun {w S k v} hv b w1=>by
  rw [hv.gQ]
  have key:∀ n:Nat,(Instr.checkKey b (n+1) t (Value.string ⟨k.toArray⟩)).run P w1=.ok () w1:=fun n=>by simp [Instr.checkKey,run_underlying h]
  exact key 9999
 find:=fun {w S k v} hv es ks hl hk w1=>by
  rw [hv.gQ]
  have hf:=wO (d:=.string) (v:=(Value.string ⟨k.toArray⟩)) (k:=k) (q:=fun k' u=>u=(Value.string ⟨k'.toArray⟩)) (fun k' u hu=>by subst hu;simp only [Instr.sameNow];congr 1;rw [Bool.eq_iff_iff,GL];simp;exact eq_comm) es ks 0 hl (fun i k' e h1 h2=>(hk i k' e h1 h2).gQ)
  simp [Instr.findKey,run_underlying h,hf]
 bits:=fun {w S k v u} h1 h2=>by rw [h1.gQ,h2.gQ];simp only [Instr.sameBits];exact (GL _ _).2 rfl
instance {P:Program} {t:TypeId} [h:aP P t (.int .i64)]:mM P t (K:=Int) I:=mM.int h.h
instance {P:Program} {t:TypeId} [h:aP P t .bool]:mM P t (K:=Bool) AV.bool:=mM.bool h.h
instance {P:Program} {t:TypeId} [h:aP P t .string]:mM P t (K:=List UInt8) AV.str:=mM.str h.h
theorem qk {P:Program} {w:World} {r:Nat} {es:Array MapEntry} {c:Nat} (h:w.heap[r]? =some (.map es c)):(getObj r).run P w=.ok (.map es c) w:=by
 simp only [getObj,Sem.run,h]
def zu (w:World) (r:Nat) (o:Obj):World:={w with heap:=w.heap.setIfInBounds r o}
theorem BF {P:Program} {w:World} {r:Nat} {es:Array MapEntry} {c:Nat} (o:Obj) (h:w.heap[r]? =some (.map es c)):(setObj r o).run P w=.ok () (zu w r o):=by
 simp only [setObj,Sem.run,h];rfl
theorem Dd {w:World} {r:Nat} {o o':Obj} (h:w.heap[r]? =some o'):(zu w r o).heap[r]? =some o:=by
 have jh:r < w.heap.size:=(Array.getElem?_eq_some_iff.1 h).1
 simp [zu,Array.getElem?_setIfInBounds,jh]
theorem BG {w:World} {r k:Nat} {o:Obj} (h:k≠r):(zu w r o).heap[k]? =w.heap[k]?:=by
 simp [zu,Array.getElem?_setIfInBounds,Ne.symm h]
theorem MO {w:World} {r:Nat} {o:Obj} {x:Option Nat} (hx:x=some r):GB w (zu w r o) x:=
 ⟨⟨rfl,rfl,rfl,by simp [zu],fun k hk sT=>BG (fun e=>sT (by rw [hx,e]))⟩,fun _=>Nat.le_refl _⟩
theorem MP (w:World) (x:Option Nat):GB w w x:=⟨⟨rfl,rfl,rfl,Nat.le_refl _,fun _ _ _=>rfl⟩,fun _=>Nat.le_refl _⟩
theorem Ext.heap {w w':World} {n:Nat} {o:Obj} (e:Ext w w') (h:w.heap[n]? =some o):w'.heap[n]? =some o:=by
 rw [e.same n (Array.getElem?_eq_some_iff.1 h).1];exact h
theorem At.yo {w:World} {S:Nat→Prop} {b:Bk} {v:Value} (h:At w S (.sg b) v):∃ n,b.cu=some n∧v=.map (some n):=by cases h with | sg _ n hb=>exact ⟨n,hb,rfl⟩
theorem O4 (w:World) (S:Nat→Prop) (z:Value) (h1:mL (CU z).cells=true):At w S (CU z) z:=by
 by_cases hz:∃ cs,z=.agg cs
 ·obtain ⟨cs,rfl⟩:=hz
  obtain ⟨h2,h3⟩:=rJ w S (.agg cs) (dG h1)
  exact .agg _ _ h2 h3
 ·have Me:CU z=NQ z:=by
   cases z<;>first | rfl | (exact (hz ⟨_,rfl⟩).elim)
  rw [Me];exact DJ w S z
theorem AS {K V:Type} {gk:K→AV} {gv:V→AV} {w:World} {S:Nat→Prop} {hp:Heap} {b:Bk} {M:List (K×V)} (Rr:∀ a b,gk a=gk b→a=b) (r:cI w S hp) (f:nM hp b (.mp (M.map fun e=>(gk e.1,gv e.2)))):
 ∃ (L:List xC) (c:Nat) (M':List (K×V)) (n:Nat) (qI:Array MapEntry),M'.Perm M∧L.map xC.kv=M'.map (fun e=>(gk e.1,gv e.2))∧vx w S b L c∧b.cu=some n∧w.heap[n]? =some (.map qI c)∧qI.toList.length=M'.length∧
   (∀ (i:Nat) e m,M'[i]? =some e→qI.toList[i]? =some m→At w S (gk e.1) m.key∧At w S (gv e.2) m.val)∧(M'.map Prod.fst).Nodup:=by
 obtain ⟨L,c,pv,hH⟩:=r.holds _ f.mem
 obtain ⟨M',h1,h2⟩:=yn _ _ _ pv
 have Y8:=hH
 obtain ⟨n,qI,g1,g2,g3,g4,g5,g6,g7⟩:=hH
 have hlen:L.length=M'.length:=by have:=congrArg List.length h2;simpa using this
 refine ⟨L,c,M',n,qI,h1,h2,Y8,g1,g2,by rw [Array.length_toList,g3,hlen],fun i e m he hm=>?_,?_⟩
 ·have:(L.map xC.kv)[i]? =some (gk e.1,gv e.2):=by rw [h2,List.getElem?_map,he];rfl
  rw [List.getElem?_map] at this
  cases hL:L[i]? with
  | none=>rw [hL] at this;cases this
  | some x=>
    rw [hL] at this
    have hx:(x.k,x.v)=(gk e.1,gv e.2):=Option.some.inj this
    obtain ⟨q1,q2⟩:=Prod.mk.inj hx
    have:=g4 i x m hL (by simpa using hm)
    rw [q1,q2] at this
    exact this.2
 ·have hk:L.map (·.k)=(M'.map Prod.fst).map gk:=by
   have:=congrArg (List.map Prod.fst) h2
   simpa [List.map_map,Function.comp_def,xC.kv] using this
  rw [hk] at g7
  exact (List.pairwise_map.1 g7).imp (fun h e=>h (by rw [e]))
theorem BH {α:Type} {l:List α} {j:Nat} {x:α} (h:l[j]? =some x):l.set j x=l:=by
 apply List.ext_getElem?
 intro i
 rw [List.getElem?_set]
 by_cases Bl:j=i
 ·subst Bl
  have:=(List.getElem?_eq_some_iff.1 h).1
  rw [if_pos rfl,if_pos this,h]
 ·simp [Bl]
theorem yp {K V:Type} [DecidableEq K] {gv:V→AV} {w:World} {S:Nat→Prop} {k:K}:∀ (M:List (K×V)) (es:List MapEntry) (i:Nat),M.length=es.length→(∀ (j:Nat) e m,M[j]? =some e→es[j]? =some m→At w S (gv e.2) m.val)→
 (gL M k=none∧vQ k (M.map Prod.fst) es i=none)∨∃ v j val,gL M k=some v∧vQ k (M.map Prod.fst) es i=some (i+j,val)∧At w S (gv v) val∧M[j]? =some (k,v)
 | [],[],i,_,_=>.inl ⟨rfl,rfl⟩
 | [],m :: es,i,hl,_=>by simp at hl
 | e :: M,[],i,hl,_=>by simp at hl
 | e :: M,m :: es,i,hl,h=>by
   unfold gL
   simp only [List.map_cons,vQ]
   by_cases hk:e.1=k
   ·simp only [hk,if_true]
    refine .inr ⟨e.2,0,m.val,rfl,rfl,h 0 e m rfl rfl,?_⟩
    subst hk;rfl
   ·simp only [hk,if_false]
    rcases yp M es (i+1) (by simpa using hl) (fun j e' m' h1 h2=>h (j+1) e' m' (by simpa using h1) (by simpa using h2)) with ⟨h1,h2⟩ | ⟨v,j,val,h1,h2,h3,h4⟩
    ·exact .inl ⟨h1,h2⟩
    ·exact .inr ⟨v,j+1,val,h1,by rw [h2];congr 2;omega,h3,by simpa using h4⟩
section rules
variable {P:Program} {all:Array Oper} {rest:List Oper} {n:Nat} {tm:List (Nat×AV)} {hp:Heap} {Q:St→Prop} {d:Nat} {ty:TypeId} {pos:String} {af:Array Edge}
theorem zv {t:TypeId} (hn:Nat.blt d n=true) (kk:∀ b:Bk,ae P all rest ⟨n,(d,.sg b) :: tm,(b,.mp []) :: hp⟩ Q):ae P all (⟨some d,.makeMap t none,ty,pos,af,none⟩ :: rest) ⟨n,tm,hp⟩ Q:=by
 refine ae.NR rfl fun w S a r=>?_
 have hh:Holds (w.alloc (.map #[] 0)) S ⟨some w.heap.size,0⟩ (.mp []):=⟨[],0,List.Perm.refl _,w.heap.size,#[],rfl,by show (w.heap.push _)[w.heap.size]? =_;simp,rfl,by simp,by simp,by simp,by simp⟩
 obtain ⟨k1,k2,k3⟩:=uC r.hp (Ext.alloc w (.map #[] 0)) id hh (.inr ⟨_,rfl,Nat.le_refl _⟩)
 exact ⟨.map (some w.heap.size),w.alloc (.map #[] 0),S,_,by simp [execOp,Instr.makeMap],(r.heap k3 k1).put hn (.sg _ _ rfl),k2,kk ⟨some w.heap.size,0⟩⟩
theorem Fo {K V:Type} [DecidableEq K] {gk:K→AV} {gv:V→AV} {M:List (K×V)} {key:K} {Z v:V} {t kt vt:TypeId} {i:TypeInfo} {z:Value} {x y:Operand} {b:Bk} {av:AV} [aP P t (.map kt vt)] [br P vt i] [mM P kt gk] (hx:dm tm x=some (.sg b)) (hy:dm tm y=some (gk key)) (f:nM hp b (.mp (M.map fun e=>(gk e.1,gv e.2)))) (hz:i.zero=some z) (Qh:CU z=gv Z) (h1:mL (CU z).cells=true) (h:Aa M key Z=some v) (sn:gv v=av):
 QV P ⟨some d,.lookup t x y false,ty,pos,af,none⟩ ⟨n,tm,hp⟩ av:=by
 intro w S a r
 have kx:=bA (σ:=⟨n,tm,hp⟩) r hx
 have ky:=bA (σ:=⟨n,tm,hp⟩) r hy
 obtain ⟨nb,hb,ex⟩:=kx.yo
 obtain ⟨L,c,M',N8,qI,p1,p2,p3,p4,p5,p6,p7,p8⟩:=AS (mM.inj P kt) r.hp f
 obtain rfl:N8=nb:=by rw [p4] at hb;exact Option.some.inj hb
 unfold Aa at h
 have hv:=Option.some.inj h
 rw [← wN p1 p8] at hv
 have yq:=mM.find (P:=P) (t:=kt) (g:=gk) ky qI.toList (M'.map Prod.fst) (by simpa using p6.symm) (fun j k' e h1 h2=>by
  rw [List.getElem?_map] at h1
  cases hm:M'[j]? with
  | none=>rw [hm] at h1;cases h1
  | some q=>rw [hm] at h1;rw [← Option.some.inj h1];exact (p7 j q e hm h2).1)
 rcases yp (gv:=gv) (w:=w) (S:=S) (k:=key) M' qI.toList 0 p6.symm (fun j e m h1 h2=>(p7 j e m h1 h2).2) with ⟨q1,q2⟩ | ⟨v',j,val,q1,q2,q3,_⟩
 ·refine ⟨z,fun w1 e1=>?_,?_⟩
  ·simp [execOp,Instr.lookup,ex,run_underlying (aP.h (P:=P) (t:=t)),qk (e1.heap p5),mM.check (P:=P) (t:=kt) ky,yq,q2,zeroValue,typeInfo,br.h (P:=P) (t:=vt),hz]
  ·rw [← sn,← hv,q1,Option.getD_none,← Qh];exact O4 w S z h1
 ·refine ⟨val,fun w1 e1=>?_,?_⟩
  ·simp [execOp,Instr.lookup,ex,run_underlying (aP.h (P:=P) (t:=t)),qk (e1.heap p5),mM.check (P:=P) (t:=kt) ky,yq,q2]
  ·rw [← sn,← hv,q1,Option.getD_some];exact q3
theorem De {w:World} {S:Nat→Prop} {hp cN:Heap} {b:Bk} {m:Nat} {o o':Ob} {ob old:Obj} (r:cI w S hp) (u:nN hp b o b o' cN) (hb:b.cu=some m) (ho:w.heap[m]? =some old) (hf:¬ o.zR) (Uc:¬ o'.zR) (hh:(∀ n,S n→S n∧(zu w m ob).heap[n]? =w.heap[n]?)→Holds (zu w m ob) S b o') (hm:o'.more=[]:=by rfl):
 cI (zu w m ob) S cN∧k9 w S hp (zu w m ob) S cN∧∀ n,S n→S n∧(zu w m ob).heap[n]? =w.heap[n]?:=by
 have k1:∀ n,S n→S n∧(zu w m ob).heap[n]? =w.heap[n]?:=fun k hk=>⟨hk,BG (fun e=>by
  subst e
  exact hf ((r.sep _ u.lW.mem _ (ki hb)).1 hk))⟩
 exact wC r u (MO hb) hf Uc (hh k1) (.inl rfl) hm
theorem Ab {K V:Type} [DecidableEq K] [xK K] {gk:K→AV} {gv:V→AV} {M:List (K×V)} {key:K} {v:V} {t kt vt:TypeId} {x y z:Operand} {b:Bk} {av:AV} {cN:Heap} [aP P t (.map kt vt)] [mM P kt gk] (hx:dm tm x=some (.sg b)) (hy:dm tm y=some (gk key)) (hz:dm tm z=some av) (sn:av=gv v) (u:nN hp b (.mp (M.map fun e=>(gk e.1,gv e.2))) b (.mp ((pz M key v).map fun e=>(gk e.1,gv e.2))) cN)
 (kk:ae P all rest ⟨n,tm,cN⟩ Q):ae P all (⟨none,.mapUpdate t x y z,ty,pos,af,none⟩ :: rest) ⟨n,tm,hp⟩ Q:=by
 refine ae.act rfl rfl (fun w S a r=>?_) kk
 have kx:=bA (σ:=⟨n,tm,hp⟩) r hx
 have ky:=bA (σ:=⟨n,tm,hp⟩) r hy
 have kz:=bA (σ:=⟨n,tm,hp⟩) r hz
 obtain ⟨nb,hb,ex⟩:=kx.yo
 obtain ⟨L,c,M',N8,qI,p1,p2,p3,p4,p5,p6,p7,p8⟩:=AS (mM.inj P kt) r.hp u.lW
 obtain rfl:N8=nb:=by rw [p4] at hb;exact Option.some.inj hb
 have yq:=mM.find (P:=P) (t:=kt) (g:=gk) ky qI.toList (M'.map Prod.fst) (by simpa using p6.symm) (fun j k' e h1 h2=>by
  rw [List.getElem?_map] at h1
  cases hm:M'[j]? with
  | none=>rw [hm] at h1;cases h1
  | some q=>rw [hm] at h1;rw [← Option.some.inj h1];exact (p7 j q e hm h2).1)
 obtain ⟨UL,vR,g1,g2,g3,g4,g5,g6,g7⟩:=p3
 obtain rfl:UL=N8:=by rw [p4] at g1;exact (Option.some.inj g1).symm
 obtain rfl:vR=qI:=by rw [p5] at g2;exact (Obj.map.inj (Option.some.inj g2)).1.symm
 have Y9:L.length=M'.length:=by have:=congrArg List.length p2;simpa using this
 have WA:∀ (j:Nat) (x:xC) (e:K×V),L[j]? =some x→M'[j]? =some e→x.k=gk e.1∧x.v=gv e.2:=by
  intro j x e h1 h2
  have:(L.map xC.kv)[j]? =(M'.map fun e=>(gk e.1,gv e.2))[j]?:=by rw [p2]
  rw [List.getElem?_map,List.getElem?_map,h1,h2] at this
  exact Prod.mk.inj (Option.some.inj this)
 rcases yp (gv:=gv) (w:=w) (S:=S) (k:=key) M' vR.toList 0 p6.symm (fun j e m h1 h2=>(p7 j e m h1 h2).2) with ⟨q1,q2⟩ | ⟨v',j,val,q1,q2,q3,q4⟩
 ·
  have hw:=De (ob:=.map (vR.push ⟨a.eval y,a.eval z,c⟩) (c+1)) r.hp u p4 p5 id id (fun k1=>by
   refine ⟨L++[⟨gk key,gv v,c⟩],c+1,?_,UL,vR.push ⟨a.eval y,a.eval z,c⟩,p4,Dd p5,by simp [g3],?_,?_,?_,?_⟩
   ·rw [List.map_append,p2]
    refine List.Perm.trans ?_ ((wL key v (BD M key)).symm.map _)
    rw [IL (by rw [← wN p1 p8];exact q1)]
    exact List.perm_append_comm.trans (List.Perm.cons _ (p1.map _))
   ·intro i e m he hm
    rw [Array.getElem?_push] at hm
    rcases Nat.lt_or_ge i L.length with hi | hi
    ·rw [List.getElem?_append_left hi] at he
     rw [if_neg (by omega)] at hm
     obtain ⟨s1,s2,s3⟩:=g4 i e m he hm
     exact ⟨s1,s2.mono k1,s3.mono k1⟩
    ·have Hr:i=L.length:=by
      have:=(List.getElem?_eq_some_iff.1 he).1
      simp at this;omega
     subst Hr
     rw [if_pos g3.symm] at hm
     simp at he
     obtain rfl:=Option.some.inj hm
     subst he
     exact ⟨rfl,ky.mono k1,by rw [sn] at kz;exact kz.mono k1⟩
   ·intro e he
    rcases List.mem_append.1 he with h | h
    ·have:=g5 e h;omega
    ·simp at h;subst h;simp
   ·rw [List.map_append,List.nodup_append]
    refine ⟨g6,by simp,fun a1 ha b1 Mm Bw=>?_⟩
    simp at Mm
    subst Mm
    obtain ⟨e,he,rfl⟩:=List.mem_map.1 ha
    have:=g5 e he
    omega
   ·rw [List.map_append,List.nodup_append]
    refine ⟨g7,by simp,fun a1 ha b1 Mm Bw=>?_⟩
    simp at Mm
    subst Mm
    obtain ⟨e,he,rfl⟩:=List.mem_map.1 ha
    obtain ⟨j,hj⟩:=List.getElem?_of_mem he
    have Jl:j < M'.length:=by rw [← Y9];exact (List.getElem?_eq_some_iff.1 hj).1
    have:=(WA j e M'[j] hj (List.getElem?_eq_getElem Jl)).1
    rw [this] at Bw
    exact (wM.1 q1) M'[j] (List.getElem_mem Jl) (mM.inj P kt _ _ Bw))
  refine ⟨_,S,?_,r.heap hw.2.2 hw.1,hw.2.1⟩
  simp [execOp,Instr.mapUpdate,ex,run_underlying (aP.h (P:=P) (t:=t)),qk p5,mM.check (P:=P) (t:=kt) ky,yq,q2,BF _ p5]
 ·
  have Jl:j < vR.toList.length:=by rw [p6];exact (List.getElem?_eq_some_iff.1 q4).1
  have NX:j < vR.size:=by simpa using Jl
  have Za:vR.toList[j]? =some vR[j]:=by simp [NX]
  have LV:=(p7 j _ _ q4 Za).1
  have Rt:Instr.sameBits 10000 vR[j].key (a.eval y)=true:=mM.bits (P:=P) (t:=kt) LV ky
  have Qi:j < L.length:=by omega
  have hw:=De (ob:=.map (vR.modify j fun e=>{e with key:=a.eval y,val:=a.eval z}) c) r.hp u p4 p5 id id (fun k1=>by
   refine ⟨L.set j ⟨gk key,gv v,L[j].born⟩,c,?_,UL,_,p4,Dd p5,by simp [g3],?_,?_,?_,?_⟩
   ·rw [List.map_set]
    refine List.Perm.trans ?_ ((wL key v (BD M key)).symm.map _)
    have e1:(L.map xC.kv).set j (gk key,gv v)=(M'.set j (key,v)).map fun e=>(gk e.1,gv e.2):=by rw [p2,List.map_set]
    show ((L.map xC.kv).set j (gk key,gv v)).Perm _
    rw [e1]
    refine List.Perm.map _ ?_
    have UM:j < M'.length:=by omega
    have e2:M'=M'.take j++(key,v') :: M'.drop (j+1):=by
     have:=List.take_append_drop j M'
     rw [List.drop_eq_getElem_cons UM] at this
     have hq:M'[j]=(key,v'):=by rw [List.getElem?_eq_getElem UM] at q4;exact Option.some.inj q4
     rw [hq] at this
     exact this.symm
    have e3:M'.set j (key,v)=M'.take j++(key,v) :: M'.drop (j+1):=by
     rw [List.set_eq_take_append_cons_drop,if_pos UM]
    rw [e3]
    refine List.perm_middle.trans (List.Perm.cons _ ?_)
    have e4:BD M' key=M'.take j++M'.drop (j+1):=by
     have UN:=p8
     rw [e2,List.map_append,List.map_cons,List.nodup_append,List.nodup_cons] at UN
     unfold BD
     rw [e2,List.filter_append,List.filter_cons]
     simp only [ne_eq,not_true_eq_false,decide_false,Bool.false_eq_true,if_false]
     rw [← e2]
     congr 1
     ·refine List.filter_eq_self.2 fun e he=>?_
      simp only [decide_not,Bool.not_eq_true',decide_eq_false_iff_not]
      intro hk
      exact UN.2.2 e.1 (List.mem_map.2 ⟨e,he,rfl⟩) key (by simp) hk
     ·refine List.filter_eq_self.2 fun e he=>?_
      simp only [decide_not,Bool.not_eq_true',decide_eq_false_iff_not]
      intro hk
      exact UN.2.1.1 (List.mem_map.2 ⟨e,he,hk⟩)
    rw [← e4]
    exact p1.filter _
   ·intro i e m he hm
    rw [Array.getElem?_modify] at hm
    rw [List.getElem?_set] at he
    by_cases Bl:j=i
    ·subst Bl
     simp only [if_true,Qi] at he
     simp only [if_true,Array.getElem?_eq_getElem NX,Option.map_some] at hm
     obtain rfl:=Option.some.inj he
     obtain rfl:=Option.some.inj hm
     refine ⟨(g4 j L[j] vR[j] (List.getElem?_eq_getElem Qi) (Array.getElem?_eq_getElem NX)).1,ky.mono k1,by rw [sn] at kz;exact kz.mono k1⟩
    ·rw [if_neg Bl] at he hm
     obtain ⟨s1,s2,s3⟩:=g4 i e m he hm
     exact ⟨s1,s2.mono k1,s3.mono k1⟩
   ·intro e he
    rcases List.mem_or_eq_of_mem_set he with h | h
    ·exact g5 e h
    ·subst h;exact g5 L[j] (List.getElem_mem Qi)
   ·rw [List.map_set]
    have:(L.map (·.born)).set j L[j].born=L.map (·.born):=by
     exact BH (by rw [List.getElem?_map,List.getElem?_eq_getElem Qi];rfl)
    rw [this];exact g6
   ·rw [List.map_set]
    have:(L.map (·.k)).set j (gk key)=L.map (·.k):=by
     have hk:=(WA j L[j] _ (List.getElem?_eq_getElem Qi) q4).1
     exact BH (by rw [List.getElem?_map,List.getElem?_eq_getElem Qi,Option.map_some,hk])
    rw [this];exact g7)
  refine ⟨_,S,?_,r.heap hw.2.2 hw.1,hw.2.1⟩
  simp [execOp,Instr.mapUpdate,ex,run_underlying (aP.h (P:=P) (t:=t)),qk p5,mM.check (P:=P) (t:=kt) ky,yq,q2,Instr.keyThatStays,NX,Rt,BF _ p5]
theorem yr {K V:Type} [DecidableEq K] [xK K] {gk:K→AV} {gv:V→AV} {M:List (K×V)} {key:K} {v:V} {t kt vt:TypeId} {x y z:Operand} {b:Bk} {av:AV} {cN:Heap} [aP P t (.map kt vt)] [mM P kt gk] (hx:dm tm x=some (.sg b)) (hy:dm tm y=some (gk key)) (hz:dm tm z=some av) (sn:av=gv v) (u:nN hp b (.mp (M.map fun e=>(gk e.1,gv e.2))) b (.mp ((pz M key v).map fun e=>(gk e.1,gv e.2))) cN)
 (kk:ae P all rest ⟨n,tm,cN⟩ Q):ae P all (⟨none,.insert t x y z,ty,pos,af,none⟩ :: rest) ⟨n,tm,hp⟩ Q:=by
 intro w S a r
 have:=Ab (all:=all) (rest:=rest) (ty:=ty) (pos:=pos) (af:=af) (t:=t) (kt:=kt) (vt:=vt) (gk:=gk) (gv:=gv) hx hy hz sn u kk w S a r
 unfold wpList at this ⊢
 exact this
end rules
section rules
variable {P:Program} {all:Array Oper} {rest:List Oper} {n:Nat} {tm:List (Nat×AV)} {hp:Heap} {Q:St→Prop} {d:Nat} {ty:TypeId} {pos:String} {af:Array Edge}
end rules
theorem aK {α β:Type} {o:Option α} {f:α→Option β} {r:β} {C:Prop} (h:o.bind f=some r) (k:∀ v,o=some v→f v=some r→C):C:=
 let ⟨v,h1,h2⟩:=Qb h;k v h1 h2
def Df:Heap→Nat→Option ((Bk×Ob)×Heap)
 | [],_=>none
 | e :: h,0=>some (e,h)
 | e :: h,i+1=>match Df h i with
   | some (x,h')=>some (x,e :: h')
   | none=>none
def BI:Heap→List Nat→Option Heap
 | _,[]=>some []
 | h,i :: r=>match Df h i with
   | some (e,h')=>match BI h' r with
     | some t=>some (e :: t)
     | none=>none
   | none=>none
theorem Dg:∀ {h:Heap} {i:Nat} {e:Bk×Ob} {h':Heap},Df h i=some (e,h')→w7 h e.1 e.2 h'
 | [],_,_,_,hh=>by simp [Df] at hh
 | x :: h,0,e,h',hh=>by
   simp only [Df,Option.some.injEq,Prod.mk.injEq] at hh
   obtain ⟨rfl,rfl⟩:=hh
   exact .here
 | x :: h,i+1,e,h',hh=>by
   simp only [Df] at hh
   split at hh
   ·rename_i y h1 h2
    simp only [Option.some.injEq,Prod.mk.injEq] at hh
    obtain ⟨rfl,rfl⟩:=hh
    exact .next (Dg h2)
   ·cases hh
theorem yu:∀ {l:List Nat} {h t:Heap},BI h l=some t→HS h t
 | [],h,t,hh=>by
   simp only [BI,Option.some.injEq] at hh
   subst hh;exact .nil
 | i :: r,h,t,hh=>by
   simp only [BI] at hh
   split at hh
   ·rename_i e h' h1
    split at hh
    ·rename_i t' h2
     obtain rfl:=Option.some.inj hh
     exact .cons (Dg h1) (yu h2)
    ·cases hh
   ·cases hh
def Kq (tm:List (Nat×AV)):List Nat→Option (List (Nat×AV))
 | []=>some []
 | s :: r=>match lk tm s with
   | some av=>match Kq tm r with
     | some l=>some ((s,av) :: l)
     | none=>none
   | none=>none
theorem Fp {tm:List (Nat×AV)}:∀ {l:List Nat} {qj:List (Nat×AV)},Kq tm l=some qj→C1 tm qj
 | [],qj,h=>by
   simp only [Kq,Option.some.injEq] at h
   subst h;exact True.intro
 | s :: r,qj,h=>by
   simp only [Kq] at h
   split at h
   ·rename_i av h1
    split at h
    ·rename_i t' h2
     obtain rfl:=Option.some.inj h
     exact ⟨h1,Fp h2⟩
    ·cases h
   ·cases h
theorem aj.lq {n:Nat} {tm qj:List (Nat×AV)} {hp cN:Heap} {T:St→Prop} (is:List Nat) (h:T ⟨n,qj,cN⟩) (ht:Kq tm (qj.map Prod.fst)=some qj) (hs:BI hp is=some cN):aj ⟨n,tm,hp⟩ T:=
 aj.Q2 (Fp ht) (yu hs) (aj.here h)
theorem nM.p0 {b:Bk} {o:Ob} {h:Heap}:nM ((b,o) :: h) b o:=.here
theorem nN.p0 {b b':Bk} {o o':Ob} {h:Heap}:nN ((b,o) :: h) b o b' o' ((b',o') :: h):=.here
theorem w7.p0 {b:Bk} {o:Ob} {h:Heap}:w7 ((b,o) :: h) b o (h):=.here
theorem nM.p1 {e0:Bk×Ob} {b:Bk} {o:Ob} {h:Heap}:nM (e0 :: (b,o) :: h) b o:=.next .p0
theorem nN.p1 {e0:Bk×Ob} {b b':Bk} {o o':Ob} {h:Heap}:nN (e0 :: (b,o) :: h) b o b' o' (e0 :: (b',o') :: h):=.next .p0
theorem w7.p1 {e0:Bk×Ob} {b:Bk} {o:Ob} {h:Heap}:w7 (e0 :: (b,o) :: h) b o (e0 :: h):=.next .p0
theorem nM.p2 {e0:Bk×Ob} {e1:Bk×Ob} {b:Bk} {o:Ob} {h:Heap}:nM (e0 :: e1 :: (b,o) :: h) b o:=.next .p1
theorem nN.p2 {e0:Bk×Ob} {e1:Bk×Ob} {b b':Bk} {o o':Ob} {h:Heap}:nN (e0 :: e1 :: (b,o) :: h) b o b' o' (e0 :: e1 :: (b',o') :: h):=.next .p1
theorem w7.p2 {e0:Bk×Ob} {e1:Bk×Ob} {b:Bk} {o:Ob} {h:Heap}:w7 (e0 :: e1 :: (b,o) :: h) b o (e0 :: e1 :: h):=.next .p1
theorem nM.p3 {e0:Bk×Ob} {e1:Bk×Ob} {e2:Bk×Ob} {b:Bk} {o:Ob} {h:Heap}:nM (e0 :: e1 :: e2 :: (b,o) :: h) b o:=.next .p2
theorem nN.p3 {e0:Bk×Ob} {e1:Bk×Ob} {e2:Bk×Ob} {b b':Bk} {o o':Ob} {h:Heap}:nN (e0 :: e1 :: e2 :: (b,o) :: h) b o b' o' (e0 :: e1 :: e2 :: (b',o') :: h):=.next .p2
theorem w7.p3 {e0:Bk×Ob} {e1:Bk×Ob} {e2:Bk×Ob} {b:Bk} {o:Ob} {h:Heap}:w7 (e0 :: e1 :: e2 :: (b,o) :: h) b o (e0 :: e1 :: e2 :: h):=.next .p2
theorem nM.p4 {e0:Bk×Ob} {e1:Bk×Ob} {e2:Bk×Ob} {e3:Bk×Ob} {b:Bk} {o:Ob} {h:Heap}:nM (e0 :: e1 :: e2 :: e3 :: (b,o) :: h) b o:=.next .p3
theorem nN.p4 {e0:Bk×Ob} {e1:Bk×Ob} {e2:Bk×Ob} {e3:Bk×Ob} {b b':Bk} {o o':Ob} {h:Heap}:nN (e0 :: e1 :: e2 :: e3 :: (b,o) :: h) b o b' o' (e0 :: e1 :: e2 :: e3 :: (b',o') :: h):=.next .p3
theorem w7.p4 {e0:Bk×Ob} {e1:Bk×Ob} {e2:Bk×Ob} {e3:Bk×Ob} {b:Bk} {o:Ob} {h:Heap}:w7 (e0 :: e1 :: e2 :: e3 :: (b,o) :: h) b o (e0 :: e1 :: e2 :: e3 :: h):=.next .p3
theorem nM.p5 {e0:Bk×Ob} {e1:Bk×Ob} {e2:Bk×Ob} {e3:Bk×Ob} {e4:Bk×Ob} {b:Bk} {o:Ob} {h:Heap}:nM (e0 :: e1 :: e2 :: e3 :: e4 :: (b,o) :: h) b o:=.next .p4
theorem nN.p5 {e0:Bk×Ob} {e1:Bk×Ob} {e2:Bk×Ob} {e3:Bk×Ob} {e4:Bk×Ob} {b b':Bk} {o o':Ob} {h:Heap}:nN (e0 :: e1 :: e2 :: e3 :: e4 :: (b,o) :: h) b o b' o' (e0 :: e1 :: e2 :: e3 :: e4 :: (b',o') :: h):=.next .p4
theorem w7.p5 {e0:Bk×Ob} {e1:Bk×Ob} {e2:Bk×Ob} {e3:Bk×Ob} {e4:Bk×Ob} {b:Bk} {o:Ob} {h:Heap}:w7 (e0 :: e1 :: e2 :: e3 :: e4 :: (b,o) :: h) b o (e0 :: e1 :: e2 :: e3 :: e4 :: h):=.next .p4
theorem nM.p6 {e0:Bk×Ob} {e1:Bk×Ob} {e2:Bk×Ob} {e3:Bk×Ob} {e4:Bk×Ob} {e5:Bk×Ob} {b:Bk} {o:Ob} {h:Heap}:nM (e0 :: e1 :: e2 :: e3 :: e4 :: e5 :: (b,o) :: h) b o:=.next .p5
theorem w7.p6 {e0:Bk×Ob} {e1:Bk×Ob} {e2:Bk×Ob} {e3:Bk×Ob} {e4:Bk×Ob} {e5:Bk×Ob} {b:Bk} {o:Ob} {h:Heap}:w7 (e0 :: e1 :: e2 :: e3 :: e4 :: e5 :: (b,o) :: h) b o (e0 :: e1 :: e2 :: e3 :: e4 :: e5 :: h):=.next .p5
theorem nM.p7 {e0:Bk×Ob} {e1:Bk×Ob} {e2:Bk×Ob} {e3:Bk×Ob} {e4:Bk×Ob} {e5:Bk×Ob} {e6:Bk×Ob} {b:Bk} {o:Ob} {h:Heap}:nM (e0 :: e1 :: e2 :: e3 :: e4 :: e5 :: e6 :: (b,o) :: h) b o:=.next .p6
section rules
variable {P:Program} {all:Array Oper} {rest:List Oper} {n:Nat} {tm:List (Nat×AV)} {hp:Heap} {Q:St→Prop} {d:Nat} {ty:TypeId} {pos:String} {af:Array Edge}
theorem rM {x:Operand} {av:AV} (hx:dm tm x=some av) (hn:Nat.blt d n=true) (k:ae P all rest ⟨n,(d,av) :: tm,hp⟩ Q):ae P all (⟨some d,.move x,ty,pos,af,none⟩ :: rest) ⟨n,tm,hp⟩ Q:=ae.qv (ax hx) hn k
theorem rA {x:Operand} {av:AV} (hx:dm tm x=some av) (hn:Nat.blt d n=true) (k:ae P all rest ⟨n,(d,av) :: tm,hp⟩ Q):ae P all (⟨some d,.assign x,ty,pos,af,none⟩ :: rest) ⟨n,tm,hp⟩ Q:=ae.qv (bZ hx) hn k
theorem rF {x:Operand} {s:TypeId} {j off:Nat} {b:Bk} {o o':Nat} [ng P s j off] (hx:dm tm x=some (.ptr b o)) (ho:o+off=o') (hn:Nat.blt d n=true) (k:ae P all rest ⟨n,(d,.ptr b o') :: tm,hp⟩ Q):ae P all (⟨some d,.fieldAddr s x j,ty,pos,af,none⟩ :: rest) ⟨n,tm,hp⟩ Q:=ae.qv (az hx ho) hn k
theorem rL {t:TypeId} {D:TypeDesc} {x:Operand} {b:Bk} {o:Nat} {cs:List AV} {av:AV} [aP P t D] (hD:TypeDesc.lp D=false) (hx:dm tm x=some (.ptr b o)) (f:nM hp b (.cells cs)) (ho:cs[o]? =some av) (hn:Nat.blt d n=true) (k:ae P all rest ⟨n,(d,av) :: tm,hp⟩ Q):ae P all (⟨some d,.load t x,ty,pos,af,none⟩ :: rest) ⟨n,tm,hp⟩ Q:=ae.qv (aF hD hx f ho) hn k
theorem rT {c x y:Operand} {av:AV} (hc:dm tm c=some (.bool true)) (hx:dm tm x=some av) (hn:Nat.blt d n=true) (k:ae P all rest ⟨n,(d,av) :: tm,hp⟩ Q):ae P all (⟨some d,.pick c x y,ty,pos,af,none⟩ :: rest) ⟨n,tm,hp⟩ Q:=ae.qv (kj hc hx) hn k
theorem rE {c x y:Operand} {av:AV} (hc:dm tm c=some (.bool false)) (hx:dm tm y=some av) (hn:Nat.blt d n=true) (k:ae P all rest ⟨n,(d,av) :: tm,hp⟩ Q):ae P all (⟨some d,.pick c x y,ty,pos,af,none⟩ :: rest) ⟨n,tm,hp⟩ Q:=ae.qv (jz hc hx) hn k
theorem rX {x:Operand} {i:Nat} {vs:List AV} {av:AV} (hx:dm tm x=some (.oL vs)) (hi:vs[i]? =some av) (hn:Nat.blt d n=true) (k:ae P all rest ⟨n,(d,av) :: tm,hp⟩ Q):ae P all (⟨some d,.extract x i,ty,pos,af,none⟩ :: rest) ⟨n,tm,hp⟩ Q:=ae.qv (Im hx hi) hn k
theorem rN (h:Q ⟨n,tm,hp⟩):ae P all [] ⟨n,tm,hp⟩ Q:=ae.nil h
theorem rG {op:Op} {j:Nat} {want b:Bool} {s:Nat} (hj:(all[j]?).bind (·.dst)=some s) (hs:lk tm s=some (.bool b)) (hb:b=!want) (hn:Nat.blt d n=true) (k:ae P all rest ⟨n,(d,.raw undef) :: tm,hp⟩ Q):ae P all (⟨some d,op,ty,pos,af,some (j,want)⟩ :: rest) ⟨n,tm,hp⟩ Q:=ae.aN hj hs hb hn k
theorem rY {op:Op} {j:Nat} {want b:Bool} {s:Nat} (hj:(all[j]?).bind (·.dst)=some s) (hs:lk tm s=some (.bool b)) (hb:b=want) (k:ae P all (⟨some d,op,ty,pos,af,none⟩ :: rest) ⟨n,tm,hp⟩ Q):ae P all (⟨some d,op,ty,pos,af,some (j,want)⟩ :: rest) ⟨n,tm,hp⟩ Q:=ae.aI hj hs hb k
end rules
section rules
variable {P:Program} {R:St→Prop} {k:List It} {σ:St}
theorem tS {x y:Code} (h:aa P R (.code x :: .code y :: k) σ):aa P R (.code (.seq x y) :: k) σ:=aa.seq h
theorem tR {id:Nat} {l:List Oper} (h:ae P l.toArray l σ (aa P R k)):aa P R (.code (.region id l.toArray false) :: k) σ:=aa.region h
theorem aS {id:Nat} {l:List Oper} {y:Code} (h:ae P l.toArray l σ (aa P R (.code y :: k))):aa P R (.code (.seq (.region id l.toArray false) y) :: k) σ:=aa.seq (aa.region h)
theorem tK (h:aa P R k σ):aa P R (.code .skip :: k) σ:=aa.skip h
end rules
end Go.Eng
