/- The engine: abstract values, the symbolic heap, one rule for each operation. No program in sight. -/
import Derived.Test.YtifmjkaghhkhfaaGreatDoorEngC
import Derived.Laws.BytesArg
import Derived.Shelf.SlSortCmp.NoneTotal
set_option linter.unusedVariables false
set_option linter.unusedSectionVars false
namespace Go.Eng
open Go
variable [bA]
def depth:Nat:=100000
section rules
variable {P:Program} {all:Array Oper} {rest:List Oper} {n:Nat} {tm:List (Nat×AV)} {hp:Heap} {Q:St→Prop} {d:Nat} {ty:TypeId} {pos:String} {af:Array Edge}
end rules
theorem Jv {w:World} {S:Nat→Prop} {hp de:Heap} {b:Bk} {sz k:Nat} {xs:List AV} (r:cG w S hp) (u:nA hp b (.arr sz xs) b (.arr sz (xs.take k)) de):cG w S de∧lz w S hp w S de:=by
 obtain ⟨pre,post,e1,e2⟩:=u.split
 subst e1;subst e2
 have hblk:∀ n,Has (pre++(b,Ob.arr sz (xs.take k)) :: post) n↔Has (pre++(b,Ob.arr sz xs) :: post) n:=by
  intro n
  constructor<;>rintro ⟨x,hx,hb⟩<;>rcases bl.1 hx with rfl | hx
  ·exact ⟨(b,.arr sz xs),bl.2 (.inl rfl),hb⟩
  ·exact ⟨x,bl.2 (.inr hx),hb⟩
  ·exact ⟨(b,.arr sz (xs.take k)),bl.2 (.inl rfl),hb⟩
  ·exact ⟨x,bl.2 (.inr hx),hb⟩
 refine ⟨⟨?_,?_,?_,r.slt,r.jt⟩,⟨rfl,rfl,rfl,Nat.le_refl _,fun n hn=>⟨hn,rfl⟩,fun n _ _=>⟨rfl,id⟩,fun n hn=>.inl ((hblk n).1 hn),fun _=>Nat.le_refl _⟩⟩
 ·have:=r.nodup
  simpa [List.flatMap_append,List.flatMap_cons,eb,Ob.more] using this
 ·intro x hx
  rcases bl.1 hx with rfl | hx
  ·obtain ⟨h0,h1,h2⟩:=r.holds (b,.arr sz xs) (bl.2 (.inl rfl))
   refine ⟨fun x hx=>h0 x (List.mem_of_mem_take hx),Nat.le_trans (by simp only [List.length_take];omega) h1,h2.imp id ?_⟩
   rintro ⟨n,vs,E,g1,g2,g3,g4⟩
   refine ⟨n,vs,E,g1,g2,g3,fun i c v hc hv=>?_⟩
   have hp:∃ t,flat xs=flat (xs.take k)++t:=⟨flat (xs.drop k),by
    show xs.flatMap AV.cells=(xs.take k).flatMap AV.cells++(xs.drop k).flatMap AV.cells
    rw [← List.flatMap_append,List.take_append_drop]⟩
   obtain ⟨t,ht⟩:=hp
   refine g4 i c v ?_ hv
   rw [ht,List.getElem?_append_left (List.getElem?_eq_some_iff.1 hc).1]
   exact hc
  ·exact r.holds x (bl.2 (.inr hx))
 ·intro x hx n hn
  rcases bl.1 hx with rfl | hx
  ·have:=r.sep (b,.arr sz xs) (bl.2 (.inl rfl)) n hn
   exact ⟨fun h=>(this.1 h).elim,fun h=>h.elim⟩
  ·exact r.sep x (bl.2 (.inr hx)) n hn
theorem aj.take {n k:Nat} {tm:List (Nat×AV)} {hp de:Heap} {T:St→Prop} {b:Bk} {sz:Nat} {xs:List AV} (u:nA hp b (.arr sz xs) b (.arr sz (xs.take k)) de) (kk:aj ⟨n,tm,de⟩ T):aj ⟨n,tm,hp⟩ T:=by
 refine aj.step (De:=⟨n,tm,de⟩) (fun w S a r=>?_) kk
 obtain ⟨g1,g2⟩:=Jv r.hp u
 exact ⟨_,S,rfl,⟨r.size,r.defers,r.tm,g1⟩,g2⟩
section rules
variable {P:Program} {all:Array Oper} {rest:List Oper} {n:Nat} {tm:List (Nat×AV)} {hp:Heap} {Q:St→Prop} {d:Nat} {ty:TypeId} {pos:String} {af:Array Edge}
theorem Ax {α:Type} {Xs V:List α} {L H:Int} (h:Av Xs L H=some V):V.length=H.toNat - L.toNat∧L.toNat+V.length≤Xs.length∧V=(Xs.drop L.toNat).take V.length:=by
 obtain ⟨⟨h0,h1,h2⟩,rfl⟩:=x5 h
 have:((Xs.drop L.toNat).take (H.toNat - L.toNat)).length=H.toNat - L.toNat:=by simp;omega
 refine ⟨this,by rw [this];omega,by rw [this]⟩
theorem mL {α:Type} {Xs Zs:List α} {t e:TypeId} {i:TypeInfo} {x:Operand} {lo hi:Option Operand} {l h:Option Int} {sz:Nat} {b:Bk} {L H:Int} [aD P t (.slice e)] [aX P e i] (hx:cZ tm x=some (.sl sz b 0 Xs.length)) (lx:Nat.beq i.size sz=true) (hl:M8 tm lo l) (hh:M8 tm hi h)
 (eL:rK l=L) (eH:rl Xs.length h=H) (hv:Av Xs L H=some Zs):QV P ⟨some d,.slice t x lo hi none,ty,pos,af,none⟩ ⟨n,tm,hp⟩ (.sl sz b L.toNat Zs.length):=by
 obtain ⟨⟨h0,h1,h2⟩,_⟩:=x5 hv
 have hlen:=(Ax hv).1
 subst eL;subst eH
 have:=F2 (P:=P) (d:=d) (ty:=ty) (pos:=pos) (af:=af) (n:=n) (tm:=tm) (hp:=hp) (t:=t) (e:=e) hx lx hl hh h0 h1 h2
 rw [Nat.zero_add] at this
 rw [hlen];exact this
theorem aj.Jw {α:Type} {g:α→AV} {Xs V:List α} {H:Int} {T:St→Prop} {b:Bk} {sz:Nat} {de:Heap} (hv:Av Xs 0 H=some V) (u:nA hp b (.arr sz (Xs.map g)) b (.arr sz (V.map g)) de) (kk:aj ⟨n,tm,de⟩ T):aj ⟨n,tm,hp⟩ T:=by
 refine aj.take (k:=V.length) (xs:=Xs.map g) (b:=b) (sz:=sz) ?_ kk
 rw [← List.map_take]
 have:=(Ax hv).2.2
 simp only [Int.toNat_zero,List.drop_zero] at this
 rw [← this];exact u
end rules
def iK {R:Type} (n:Nat) (len:R→Nat) (x:Option R):Option R:=x.bind fun r=>if len r=n then some r else none
theorem fL {R:Type} {n:Nat} {len:R→Nat} {x:Option R} {r:R} (h:iK n len x=some r):x=some r:=by
 unfold iK at h
 cases x with
 | none=>cases h
 | some y=>
   simp only [Option.bind_some] at h
   split at h
   ·exact h
   ·cases h
theorem bG {R:Type} {n:Nat} {len:R→Nat} {x:Option R} {r:R} (h:iK n len x=some r):len r=n:=by
 unfold iK at h
 cases x with
 | none=>cases h
 | some y=>
   simp only [Option.bind_some] at h
   split at h
   ·rename_i hh;obtain rfl:=Option.some.inj h;exact hh
   ·cases h
theorem EN {sz:Nat} {x:AV} (h:x.cells.length=sz):∀ (k i:Nat),i < k * sz→(flat (List.replicate k x))[i]? =x.cells[i % sz]?
 | 0,i,hi=>by simp at hi
 | k+1,i,hi=>by
   rw [List.replicate_succ,show flat (x :: List.replicate k x)=x.cells++flat (List.replicate k x) from rfl]
   by_cases lA:i < sz
   ·rw [List.getElem?_append_left (by omega),Nat.mod_eq_of_lt lA]
   ·rw [List.getElem?_append_right (by omega),h,EN h k (i - sz) (by rw [Nat.add_mul] at hi;omega)]
    rw [Nat.mod_eq_sub_mod (a:=i) (by omega)]
section rules
variable {P:Program} {all:Array Oper} {rest:List Oper} {n:Nat} {tm:List (Nat×AV)} {hp:Heap} {Q:St→Prop} {d:Nat} {ty:TypeId} {pos:String} {af:Array Edge}
end rules
end Go.Eng
set_option linter.unusedSimpArgs false
namespace Go.Eng
open Go Go.Sort Go.Proofs
variable [bA]
structure Nk (P:Program) (f:FuncId) (k:Nat):Prop where
 some_:∀ (enc:Nat→List Value) (_:∀ x,(enc x).length=k) (_:∀ x,∀ v∈enc x,v.oneCell'=true) (cf:Nat→Nat→Int) (_:SWO (ltOf cf)) (g:Nat) (cb:Array Value) (cd off cap:Nat) (d:Array Nat) (w:World)
  (_:∀ args w,(callFunc g args).run P w=.ok (.enter g args) w) (_:CmpLays P g cb enc k cf cd off d.size w) (_:HoldsK enc k w cd off d) (_:cd < w.heap.size) (_:d.size < 4611686018427387904),
  Calls P f #[.slice (some ⟨cd,off,none⟩) d.size cap,.func (.func g) #[] cb] w fun e w'=>
   e=.returned (.tuple #[])∧∃ n os,w'=sortWorldK enc k w cd off n (pdq (ltOf cf) d 0 d.size (Lib.bitLen d.size) true true) os
 none_:∀ (p:Option Addr) (cap:Nat) (fv:Value) (w:World),Calls P f #[.slice p 0 cap,fv] w fun e w'=>e=.returned (.tuple #[])∧w'=w
def tz {α:Type} (x:α) (r:List α) (i:Nat):α:=(x :: r).getD i x
def rP {α:Type} (f:α→α→Option Int) (x:α) (r:List α) (i j:Nat):Int:=(f (tz x r i) (tz x r j)).getD 0
noncomputable def A3 {α:Type} (f:α→α→Option Int):List α→Option (List α)
 | []=>some []
 | x :: r=>@ite _ (r.length+1 < 4611686018427387904∧(∀ a∈x :: r,∀ b∈x :: r,∃ u,f a b=some u)∧SWO (ltOf (rP f x r))) (Classical.propDecidable _)
     (some ((pdq (ltOf (rP f x r)) (Array.range (r.length+1)) 0 (r.length+1) (Lib.bitLen (r.length+1)) true true).toList.map (tz x r))) none
theorem uD {α:Type} (f:α→α→Option Int) (x:α) (r:List α):A3 f (x :: r)=@ite _ (r.length+1 < 4611686018427387904∧(∀ a∈x :: r,∀ b∈x :: r,∃ u,f a b=some u)∧SWO (ltOf (rP f x r))) (Classical.propDecidable _)
 (some ((pdq (ltOf (rP f x r)) (Array.range (r.length+1)) 0 (r.length+1) (Lib.bitLen (r.length+1)) true true).toList.map (tz x r))) none:=rfl
theorem jg {α:Type} (x:α) (r:List α) (i:Nat):tz x r i∈x :: r:=by
 unfold tz
 rw [List.getD_eq_getElem?_getD]
 rcases h:(x :: r)[i]? with _ | y
 ·simp
 ·exact List.mem_of_getElem? h
theorem xu (enc:Nat→List Value) (k:Nat) (w:World) (cd off m:Nat) (dk:Array Nat) (os:Array Obj) {n:Nat} (hn:n < w.heap.size) (mJ:n≠cd):(sortWorldK enc k w cd off m dk os).heap[n]? =w.heap[n]?:=by
 unfold sortWorldK putRowK putRow
 rw [heap_grow_old _ _ (by simpa [mapBlock] using hn)]
 simp only [mapBlock,heap_ahead,Array.getElem?_modify]
 rw [if_neg (fun h=>mJ h.symm)]
theorem A4 (enc:Nat→List Value) (k:Nat) (w:World) (cd off m:Nat) (dk:Array Nat) (os:Array Obj):w.heap.size≤(sortWorldK enc k w cd off m dk os).heap.size:=by
 unfold sortWorldK putRowK
 simp
theorem HV (enc:Nat→List Value) (k:Nat) (w:World) (cd m:Nat) (dk:Array Nat) (os:Array Obj) {vs:Array Value} {E:TypeId} (hb:w.heap[cd]? =some (.cells vs E (0,0))):(sortWorldK enc k w cd 0 m dk os).heap[cd]? =some (.cells (putCells id 0 (flatK enc k dk) vs) E (0,0)):=by
 have lA:cd < w.heap.size:=by
  rcases Nat.lt_or_ge cd w.heap.size with h | h
  ·exact h
  ·simp [Array.getElem?_eq_none h] at hb
 unfold sortWorldK putRowK putRow
 rw [heap_grow_old _ _ (by simpa [mapBlock] using lA)]
 simp only [mapBlock,heap_ahead,Array.getElem?_modify]
 rw [if_pos trivial,hb]
 rfl
theorem Ext.grown {w w':World} (hd:bA.dr) (e:Ext w w'):∃ q os,w'=grow (w.drewN q) os:=by
 refine ⟨w'.drawn - w.drawn,w'.heap.extract w.heap.size w'.heap.size,?_⟩
 obtain ⟨h',t',d',o',YQ⟩:=w'
 have e1:=e.os;have e2:=e.tape;have e3:=e.output;have e4:=e.drawn hd;have e5:=e.size;have e6:=e.same
 simp only at e1 e2 e3 e4 e5 e6
 subst e1 e2 e3
 unfold grow World.drewN
 simp only [World.mk.injEq,and_true,true_and]
 refine ⟨?_,by omega⟩
 apply Array.ext_getElem?
 intro i
 by_cases hi:i < w.heap.size
 ·rw [e6 i hi,Array.getElem?_append_left hi]
 ·rw [Array.getElem?_append_right (by omega),Array.getElem?_extract]
  by_cases h2:i < h'.size
  ·rw [if_pos (by omega)]
   congr 1;omega
  ·rw [if_neg (by omega),Array.getElem?_eq_none (by omega)]
theorem Ga {P:Program} {T:Type} {g:T→AV} {f:FuncId} {k:Nat} (K:Nk P f k) (K8:Nat.blt 0 k=true) {gf:FuncId} [bq P gf] {C:List AV} {fn:T→T→Option Int} (Jx:∀ {x y:T} {u:Int},fn x y=some u→@Pu nk P gf (g x :: g y :: C) (I u))
 (Sz:∀ x,g x=.agg (g x).cells) {Xs Ys:List T} {b:Bk} (h:A3 fn Xs=some Ys):aG P f [.sl k b 0 Xs.length,.func (.func gf) C] [(b,.arr k (Xs.map g))] (T0 [(b,.arr k (Ys.map g))] (.nI [])):=by
 have K8:0 < k:=Nat.lt_of_lt_of_le (Nat.lt_of_succ_le (Nat.le_of_ble_eq_true K8)) (Nat.le_refl _)
 intro w S vs r hl ha
 obtain ⟨v0,v1,rfl⟩:∃ v0 v1,vs=#[v0,v1]:=by
  match vs,hl with
  | ⟨[v0,v1]⟩,_=>exact ⟨v0,v1,rfl⟩
 have a0:=ha 0 _ v0 rfl rfl
 have a1:=ha 1 _ v1 rfl rfl
 obtain ⟨oa,cap,rfl,e2⟩:=a0.uy
 obtain ⟨cv,rfl,BV,SA⟩:=a1.xS
 match Xs,h with
 | [],h=>
   obtain rfl:=Option.some.inj h
   refine (K.none_ oa cap _ w).mono ?_
   rintro e w' ⟨rfl,rfl⟩
   exact ⟨_,.nI [],_,S,rfl,⟨rfl,rfl⟩,.nI [] #[] rfl (fun i c v hc=>by simp at hc),r,lz.refl _ _ _⟩
 | x :: xr,h=>
   rw [uD] at h
   by_cases hc:(xr.length+1 < 4611686018427387904∧(∀ a∈x :: xr,∀ b∈x :: xr,∃ u,fn a b=some u)∧SWO (ltOf (rP fn x xr)))
   ·rw [if_pos hc] at h
    obtain rfl:=Option.some.inj h
    obtain ⟨hlen,N6,hO⟩:=hc
    obtain ⟨h0,h1,h2⟩:=r.holds _ (List.mem_singleton.2 rfl)
    simp only [List.length_map,List.length_cons] at h1
    rcases h2 with ⟨_,IZ⟩ | ⟨m,row,E,hb,AZ,lx,tJ⟩
    ·have P4:b.cap=0:=IZ
     omega
    rcases e2 with ⟨hn,_,_,_,_⟩ | ⟨m',B2,rfl,hle,SC⟩ | ⟨m',ad,_,_,NT,_⟩
    ·rw [hn] at hb;cases hb
    ·obtain rfl:m'=m:=by rw [B2] at hb;exact Option.some.inj hb
     have N7:m' < w.heap.size:=by
      rcases Nat.lt_or_ge m' w.heap.size with h | h
      ·exact h
      ·simp [Array.getElem?_eq_none h] at AZ
     have nS:¬ S m':=fun hs=>by have:=(r.sep _ (List.mem_singleton.2 rfl) m' (lY hb)).1 hs;exact this
     let ix:Nat→Nat:=fun i=>if i < xr.length+1 then i else 0
     have SD:∀ i,ix i < xr.length+1:=fun i=>by simp only [ix];split<;>omega
     have N8:∀ i,(x :: xr)[ix i]? =some (tz x xr i):=by
      intro i
      simp only [ix,tz,List.getD_eq_getElem?_getD]
      split
      ·rename_i hi
       rw [List.getElem?_eq_getElem (by simpa using hi)];simp
      ·rename_i hi
       rw [List.getElem?_eq_none (l:=x :: xr) (i:=i) (by simp;omega)];simp
     have Se:(xr.length+1) * k≤row.size:=by rw [lx];exact Nat.mul_le_mul_right k h1
     let enc:Nat→List Value:=fun i=>(row.toList.drop (ix i * k)).take k
     have LS:∀ i,(enc i).length=k:=by
      intro i
      have:ix i * k+k≤row.size:=by
       have:=Nat.mul_le_mul_right k (show ix i+1≤xr.length+1 from SD i)
       rw [Nat.add_mul,Nat.one_mul] at this
       omega
      simp only [enc,List.length_take,List.length_drop,Array.length_toList];omega
     have P5:∀ i j,j < k→(enc i)[j]? =row[ix i * k+j]?:=by
      intro i j hj
      simp only [enc,List.getElem?_take,if_pos hj,List.getElem?_drop,Array.getElem?_toList]
     have EI:∀ i j,j < k→(flat ((x :: xr).map g))[ix i * k+j]? =(g (tz x xr i)).cells[j]?:=by
      intro i j hj
      exact qo h0 (by rw [List.getElem?_map,N8 i];rfl) j hj
     have BV:∀ i,(g (tz x xr i)).cells.length=k:=fun i=>(h0 _ (List.mem_map.2 ⟨_,jg x xr i,rfl⟩)).1
     have AJ:∀ i,∀ c∈(g (tz x xr i)).cells,c.one=true:=fun i=>(h0 _ (List.mem_map.2 ⟨_,jg x xr i,rfl⟩)).2
     have EO:∀ i,lZ w S (g (tz x xr i)).cells (enc i).toArray:=by
      intro i j c v hc hv
      have hj:j < k:=by rw [← BV i];exact (List.getElem?_eq_some_iff.1 hc).1
      refine tJ (ix i * k+j) c v (by rw [EI i j hj];exact hc) ?_
      rw [← P5 i j hj]
      simpa using hv
     have N9:∀ i,∀ v∈enc i,v.oneCell'=true:=by
      intro i v hv
      obtain ⟨j,hj,rfl⟩:=List.getElem_of_mem hv
      have YR:j < k:=by rw [LS i] at hj;exact hj
      have UD:j < (g (tz x xr i)).cells.length:=by rw [BV i];exact YR
      exact (EO i j (g (tz x xr i)).cells[j] (enc i)[j] (by simp [UD]) (by simp [hj])).FW (AJ i _ (List.getElem_mem UD))
     have vA:∀ (d:Array Nat) (t:Nat),t < d.size * k→(flatK enc k d)[t]! =(enc d[t / k]!)[t % k]!:=fun d t ht=>get_flatK enc k d t ht
     have Jy:HoldsK enc k w m' 0 (Array.range (xr.length+1)):=by
      intro j hj
      rw [size_flatK,Array.size_range] at hj
      have hdiv:j / k < xr.length+1:=(Nat.div_lt_iff_lt_mul K8).2 hj
      have LU:j % k < k:=Nat.mod_lt _ K8
      have LV:j < row.size:=by omega
      have e1:(flatK enc k (Array.range (xr.length+1)))[j]! =row[j]:=by
       rw [vA _ _ (by simpa using hj)]
       have:(Array.range (xr.length+1))[j / k]! =j / k:=by
        rw [getElem!_pos _ _ (by simpa using hdiv)];simp
       rw [this]
       have hv:=P5 (j / k) (j % k) LU
       have:ix (j / k)=j / k:=by simp only [ix];rw [if_pos hdiv]
       rw [this,Nat.div_add_mod'] at hv
       rw [Array.getElem?_eq_getElem LV] at hv
       rw [List.getElem!_eq_getElem?_getD,hv];rfl
      constructor
      ·simp only [World.cell?,AZ,id,e1,Nat.zero_add,Option.isSome_none,Bool.false_eq_true,if_false]
       rw [Array.getElem?_eq_getElem LV]
      ·simp [World.frozen?,AZ]
     have Oa:CmpLays P gf cv enc k (rP fn x xr) m' 0 (Array.range (xr.length+1)).size w:=by
      intro mm os dk YS i j
      obtain ⟨u,hu⟩:=N6 _ (jg x xr i) _ (jg x xr j)
      have hW:∀ n,S n→S n∧(sortWorldK enc k w m' 0 mm dk os).heap[n]? =w.heap[n]?:=fun n hs=>
       ⟨hs,xu enc k w m' 0 mm dk os (r.slt n hs) (fun e=>nS (e▸hs))⟩
      have G8:lZ (sortWorldK enc k w m' 0 mm dk os) S (g (tz x xr i) :: g (tz x xr j) :: C) (#[.agg (enc i).toArray,.agg (enc j).toArray]++cv):=by
       intro q c v hc hv
       have ag:∀ i,At (sortWorldK enc k w m' 0 mm dk os) S (g (tz x xr i)) (.agg (enc i).toArray):=fun i=>by
        rw [Sz (tz x xr i)]
        exact .agg _ _ (by rw [BV i];simp [LS i]) (fun a c v hc hv=>((EO i) a c v hc hv).mono hW)
       match q with
       | 0=>
         rw [Array.getElem?_append_left (by simp)] at hv
         simp at hc hv;subst hc;subst hv;exact ag i
       | 1=>
         rw [Array.getElem?_append_left (by simp)] at hv
         simp at hc hv;subst hc;subst hv;exact ag j
       | q+2=>
         simp only [List.getElem?_cons_succ] at hc
         rw [Array.getElem?_append_right (by simp)] at hv
         simp only [List.size_toArray,List.length_cons,List.length_nil,Nat.add_sub_cancel] at hv
         exact (SA q c v hc (by simpa using hv)).mono hW
      refine (Jx hu _ S _ (@tU nk _ _ (fun n hn=>Nat.lt_of_lt_of_le (r.slt n hn) (A4 _ _ _ _ _ _ _ _)) (fun g o ho=>⟨(r.jt g o ho).1,Cq (hW g (r.jt g o ho).1).2 (r.jt g o ho).2⟩)) (by simp [BV,‹C.length=cv.size›];omega) G8).mono ?_
      rintro e w' ⟨v,rr,h',S',rfl,hq,h3,h4,h5⟩
      obtain rfl:=hq
      rw [h3.eB]
      refine ⟨?_,@Ext.grown nk _ _ trivial (@lz.Ey nk _ _ _ _ _ h5)⟩
      unfold rP
      rw [hu];rfl
     have LW:(Array.range (xr.length+1)).size=xr.length+1:=Array.size_range
     have EP:=K.some_ enc LS N9 (rP fn x xr) hO gf cv m' 0 cap (Array.range (xr.length+1)) w (fun args w=>rJ gf args w) Oa Jy N7 (by rw [LW];exact hlen)
     rw [LW] at EP
     simp only [Nat.zero_mul]
     refine EP.mono ?_
     rintro e w' ⟨rfl,q,os,rfl⟩
     have K9:=pdq_sorts (ltOf (rP fn x xr)) hO (Array.range (xr.length+1)) 0 (xr.length+1) (Lib.bitLen (xr.length+1)) true true (Nat.zero_le _) (by rw [LW];exact Nat.le_refl _) (Or.inl rfl)
     generalize Dx:pdq (ltOf (rP fn x xr)) (Array.range (xr.length+1)) 0 (xr.length+1) (Lib.bitLen (xr.length+1)) true true=d' at K9 ⊢
     have ER:d'.size=xr.length+1:=by rw [K9.1.1,LW]
     have hW:∀ n,S n→S n∧(sortWorldK enc k w m' 0 q d' os).heap[n]? =w.heap[n]?:=fun n hs=>
      ⟨hs,xu enc k w m' 0 q d' os (r.slt n hs) (fun e=>nS (e▸hs))⟩
     have P6:∀ y∈(d'.toList.map (tz x xr)).map g,El k y:=by
      intro y hy
      simp only [List.mem_map] at hy
      obtain ⟨z,⟨i,_,rfl⟩,rfl⟩:=hy
      exact h0 _ (List.mem_map.2 ⟨_,jg x xr i,rfl⟩)
     have hh:Go.Eng.Holds (sortWorldK enc k w m' 0 q d' os) S b (.arr k ((d'.toList.map (tz x xr)).map g)):=by
      refine ⟨P6,by simp [ER];omega,.inr ⟨m',_,E,hb,HV enc k w m' q d' os AZ,by simp [putCells,lx],?_⟩⟩
      intro j c v hc hv
      have Iz:j < (xr.length+1) * k:=by
       have:=(List.getElem?_eq_some_iff.1 hc).1
       rw [cQ P6] at this
       simpa [ER] using this
      have hdiv:j / k < xr.length+1:=(Nat.div_lt_iff_lt_mul K8).2 Iz
      have LU:j % k < k:=Nat.mod_lt _ K8
      have LV:j < row.size:=by omega
      have SE:(d'.toList.map (tz x xr))[j / k]? =some (tz x xr d'[j / k]!):=by
       rw [List.getElem?_map,Array.getElem?_toList,Array.getElem?_eq_getElem (by omega),getElem!_pos d' (j / k) (by omega)];rfl
      have Dh:(g (tz x xr d'[j / k]!)).cells[j % k]? =some c:=by
       rw [← qo (sz:=k) P6 (i:=j / k) (x:=g (tz x xr d'[j / k]!)) (by rw [List.getElem?_map,SE];rfl) (j % k) LU,Nat.div_add_mod']
       exact hc
      have O6:(enc d'[j / k]!)[j % k]? =some v:=by
       simp only [putCells,Array.getElem?_mapIdx,Array.getElem?_eq_getElem LV,Option.map_some,Option.some.injEq] at hv
       rw [if_pos ⟨Nat.zero_le _,by rw [size_flatK,ER];omega⟩,Nat.sub_zero,vA d' j (by rw [ER];exact Iz)] at hv
       have lA:j % k < (enc d'[j / k]!).length:=by rw [LS];exact LU
       rw [List.getElem?_eq_getElem lA,← hv]
       simp only [id,getElem!_pos (enc d'[j / k]!) (j % k) lA]
      exact (EO _ _ _ _ Dh (by simpa using O6)).mono hW
     have Jz:=A4 enc k w m' 0 q d' os
     refine ⟨_,.nI [],_,S,rfl,⟨rfl,rfl⟩,.nI [] #[] rfl (fun i c v hc=>by simp at hc),⟨r.nodup,fun e he=>by rw [List.mem_singleton] at he;subst he;exact hh,fun e he n hn=>?_,fun n hn=>Nat.lt_of_lt_of_le (r.slt n hn) Jz,fun g o ho=>⟨(r.jt g o ho).1,Cq (hW g (r.jt g o ho).1).2 (r.jt g o ho).2⟩⟩,?_⟩
     ·rw [List.mem_singleton] at he;subst he
      replace hn:=(vm rfl).1 hn
      rw [hb] at hn
      obtain rfl:=Option.some.inj hn
      exact ⟨fun hs=>(nS hs).elim,fun hf=>hf.elim⟩
     ·refine ⟨rfl,rfl,rfl,Jz,hW,fun n hn SF=>⟨xu enc k w m' 0 q d' os hn (fun e=>SF ⟨_,List.mem_singleton.2 rfl,by rw [e];exact lY hb⟩),id⟩,?_,?_⟩
      ·rintro n ⟨e,he,tO⟩
       rw [List.mem_singleton] at he;subst he
       exact .inl ⟨_,List.mem_singleton.2 rfl,tO⟩
      ·intro _
       show w.drawn≤(sortWorldK enc k w m' 0 q d' os).drawn
       show w.drawn≤w.drawn+q
       omega
    ·simp at NT
   ·rw [if_neg hc] at h;cases h
end Go.Eng
namespace Go.Eng
open Go
variable [bA]
def wO {α:Type} (xs:List α) (L:Int) (n:Nat) (j:Int):Option α:=if 0≤L∧0≤j∧j < n then idx xs (L+j) else none
theorem tW {α:Type} {xs:List α} {L:Int} {n:Nat} {j:Int} {x:α} (h:wO xs L n j=some x):(0≤L∧0≤j∧j < n)∧idx xs (L+j)=some x:=by
 unfold wO at h
 split at h
 ·rename_i hc;exact ⟨hc,h⟩
 ·cases h
def Ay {α:Type} (xs:List α) (L:Int) (n:Nat) (z:α):List α:=xs.take L.toNat++List.replicate n z++xs.drop (L.toNat+n)
theorem tb {α:Type} {xs v:List α} {L H:Int} {z:α} (h:Av xs L H=some v):(Ay xs L v.length z).length=xs.length:=by
 obtain ⟨⟨h0,h1,h2⟩,_⟩:=x5 h
 have:=(Ax h).1
 unfold Ay
 simp only [List.length_append,List.length_take,List.length_replicate,List.length_drop]
 omega
section rules
variable {P:Program} {all:Array Oper} {rest:List Oper} {n:Nat} {tm:List (Nat×AV)} {hp:Heap} {Q:St→Prop} {d:Nat} {ty:TypeId} {pos:String} {af:Array Edge}
theorem tc {α:Type} {Xs:List α} {el:α} {t e:TypeId} {i:TypeInfo} {x y:Operand} {k:IntKind} {j L:Int} {sz m:Nat} {b:Bk} [aD P t (.slice e)] [aX P e i] (hx:cZ tm x=some (.sl sz b L.toNat m)) (lx:Nat.beq i.size sz=true) (hy:cZ tm y=some (.int k j))
 (hv:wO Xs L m j=some el):QV P ⟨some d,.indexAddr t x y,ty,pos,af,none⟩ ⟨n,tm,hp⟩ (.pB sz b (L+j).toNat 0):=by
 obtain ⟨⟨h0,h1,h2⟩,h3⟩:=tW hv
 have h:=AK (P:=P) (d:=d) (ty:=ty) (pos:=pos) (af:=af) (n:=n) (tm:=tm) (hp:=hp) (t:=t) (e:=e) hx lx hy ⟨h1,h2⟩
 rw [show (L+j).toNat=L.toNat+j.toNat by omega]
 exact h
theorem CI {x:Operand} {t e:TypeId} {sz off len:Nat} {b:Bk} [aD P t (.slice e)] (hx:cZ tm x=some (.sl sz b off len)):QV P ⟨some d,.call {callee:=.builtin .len,args:=#[x],argTypes:=#[t]},ty,pos,af,none⟩ ⟨n,tm,hp⟩ (.int .i64 (len:Nat)):=En hx
theorem LX {t e:TypeId} {i:TypeInfo} {z:Value} {x:Operand} {b:Bk} {L N sz:Nat} {xs:List AV} {zx:AV} {de:Heap} [aD P t (.slice e)] [aX P e i] (hx:cZ tm x=some (.sl sz b L N)) (hz:i.zero=some z) (Nl:BU z=zx) (lx:Nat.beq i.size sz=true) (xX:PI sz zx=true) (uz:Nat.blt 0 sz=true) (hL:L+N≤xs.length)
 (u:nA hp b (.arr sz xs) b (.arr sz (xs.take L++List.replicate N zx++xs.drop (L+N))) de) (kk:ah P all rest ⟨n,tm,de⟩ Q):
 ah P all (⟨none,.call {callee:=.builtin .clear,args:=#[x],argTypes:=#[t]},ty,pos,af,none⟩ :: rest) ⟨n,tm,hp⟩ Q:=by
 have lx:=Nat.eq_of_beq_eq_true lx
 have uz:0 < sz:=Nat.lt_of_lt_of_le (Nat.lt_of_succ_le (Nat.le_of_ble_eq_true uz)) (Nat.le_refl _)
 have hE:=Eu xX
 refine ah.M0 rfl fun w S a r=>?_
 obtain ⟨oa,cap,e1,e2⟩:=(bj (σ:=⟨n,tm,hp⟩) r hx).uy
 rcases Nat.eq_zero_or_pos N with h0 | h0
 ·subst h0
  have JA:xs.take L++List.replicate 0 zx++xs.drop (L+0)=xs:=by simp
  rw [JA] at u
  obtain ⟨p,q,YT,YU⟩:=u.split
  obtain rfl:de=hp:=by rw [YT,YU]
  refine ⟨.tuple #[],w,S,⟨n,tm,de⟩,?_,r,lz.refl _ _ _,kk⟩
  cases oa<;>simp [execOp,e1,resolve,invoke,builtin,Builtin.clear_,run_underlying (aD.h (P:=P) (t:=t))]
 ·rcases e2 with ⟨_,_,hl,_,_⟩ | ⟨m,hb,rfl,h1,h2⟩ | ⟨_,_,_,_,hl,_⟩
  ·omega
  ·obtain ⟨g0,g1,⟨g2,_⟩ | ⟨m',vs,E,g2,g3,g4,g5⟩⟩:=pL r.hp (.inl u.ml)
   ·rw [g2] at hb;cases hb
   obtain rfl:m'=m:=by rw [g2] at hb;exact Option.some.inj hb
   obtain ⟨zl,UE⟩:=rH w S z (by rw [Nl];exact hE.2)
   rw [Nl] at zl UE
   have IW:z.cells.size=sz:=by rw [← zl];exact hE.1
   have Re:∀ y∈List.replicate N zx,El sz y:=fun y hy=>by rw [List.eq_of_mem_replicate hy];exact hE
   have Ln:(Builtin.zeroCells z.cells N).size=N * sz:=by rw [size_zeroCells,IW]
   have Lv:(flat (List.replicate N zx)).length=(Builtin.zeroCells z.cells N).size:=by rw [cQ Re,Ln];simp
   have P7:lZ w S (flat (List.replicate N zx)) (Builtin.zeroCells z.cells N):=by
    intro j c v hc hv
    have hj:j < N * sz:=by
     have:=(List.getElem?_eq_some_iff.1 hc).1
     rw [cQ Re] at this;simpa using this
    rw [EN hE.1 N j hj] at hc
    refine UE (j % sz) c v hc ?_
    unfold Builtin.zeroCells at hv
    simp only [Array.getElem?_map,Option.map_eq_some_iff] at hv
    obtain ⟨q,hq,rfl⟩:=hv
    have:q=j:=by
     rw [Array.getElem?_eq_some_iff] at hq
     obtain ⟨k1,k2⟩:=hq
     simpa using k2.symm
    subst this
    rw [IW]
    have lA:q % sz < z.cells.size:=by rw [IW];exact Nat.mod_lt _ uz
    simp [lA]
   have AJ:=xW Lv P7 (fun c hc=>by
    unfold flat at hc
    rw [List.mem_flatMap] at hc
    obtain ⟨y,hy,YV⟩:=hc
    exact (Re y hy).2 c YV)
   have Iy:=cQ g0
   have hmul:(L+N) * sz≤xs.length * sz:=Nat.mul_le_mul_right _ hL
   have Je:xs.length * sz≤b.cap * sz:=Nat.mul_le_mul_right _ g1
   rw [Nat.add_mul] at hmul
   have Dk:=run_storeCells_at (P:=P) m' (L * sz) E (Builtin.zeroCells z.cells N).toList 0 vs w g3 (by simp [Ln];omega) AJ
   simp only [Nat.add_zero] at Dk
   have EI:flat (xs.take L++List.replicate N zx++xs.drop (L+N))=(flat xs).take (L * sz)++flat (List.replicate N zx)++(flat xs).drop (L * sz+(flat (List.replicate N zx)).length):=by
    rw [sY,sY,yR xs L g0,yQ xs (L+N) g0,Lv,Ln,Nat.add_mul]
   have Jf:=fun (w':World) (ha:lZ w' S (flat xs) vs) (hb:lZ w' S (flat (List.replicate N zx)) (Builtin.zeroCells z.cells N))=>G0 (L * sz) (by rw [Iy,g4];exact Je) ha Lv hb (by rw [Lv,Ln,Iy];omega)
   have Jg:(vs.toList.take (L * sz)++(Builtin.zeroCells z.cells N).toList++vs.toList.drop (L * sz+(Builtin.zeroCells z.cells N).toList.length)).toArray.size=b.cap * sz:=by
    simp [Ln];omega
   generalize (vs.toList.take (L * sz)++(Builtin.zeroCells z.cells N).toList++vs.toList.drop (L * sz+(Builtin.zeroCells z.cells N).toList.length)).toArray=Ct at Dk Jf Jg
   have c:GB w (w.setRow m' Ct) b.cd:=⟨⟨rfl,rfl,rfl,by simp,fun k hk mJ=>setRow_other w m' k _ (fun e=>mJ (by rw [g2,e]))⟩,fun _=>Nat.le_refl _⟩
   have k1:∀ n,S n→S n∧(w.setRow m' Ct).heap[n]? =w.heap[n]?:=by
    intro k hk
    refine ⟨hk,setRow_other w m' k _ (fun e=>?_)⟩
    subst e
    exact (r.hp.sep _ u.ml.mem k (lY g2)).1 hk
   have hh:=xV r.hp u c id id ⟨fun y hy=>?_,by simp;omega,.inr ⟨m',Ct,E,g2,setRow_heap w m' vs _ E _ g3,Jg,by rw [EI];exact Jf _ (g5.mono k1) (P7.mono k1)⟩⟩ (.inl rfl)
   ·refine ⟨.tuple #[],w.setRow m' Ct,S,⟨n,tm,de⟩,?_,r.heap hh.2.2 hh.1,hh.2.1,kk⟩
    obtain ⟨N',rfl⟩:∃ k,N=k+1:=⟨N - 1,by omega⟩
    simp [execOp,e1,resolve,invoke,builtin,Builtin.clear_,run_underlying (aD.h (P:=P) (t:=t)),zeroValue,typeInfo,aX.h (P:=P) (t:=e),hz,Dk]
   ·rcases List.mem_append.1 hy with h | h
    ·rcases List.mem_append.1 h with h | h
     ·exact g0 y (List.mem_of_mem_take h)
     ·exact Re y h
    ·exact g0 y (List.mem_of_mem_drop h)
  ·omega
theorem Dz {α:Type} {g:α→AV} {Z:α} {Xs V:List α} {H:Int} {t e:TypeId} {i:TypeInfo} {z:Value} {x:Operand} {b:Bk} {L:Int} {sz:Nat} {de:Heap} [aD P t (.slice e)] [aX P e i] (hx:cZ tm x=some (.sl sz b L.toNat V.length)) (hz:i.zero=some z) (Nl:BU z=g Z) (lx:Nat.beq i.size sz=true) (xX:PI sz (g Z)=true) (uz:Nat.blt 0 sz=true) (hv:Av Xs L H=some V)
 (u:nA hp b (.arr sz (Xs.map g)) b (.arr sz ((Ay Xs L V.length Z).map g)) de) (kk:ah P all rest ⟨n,tm,de⟩ Q):
 ah P all (⟨none,.call {callee:=.builtin .clear,args:=#[x],argTypes:=#[t]},ty,pos,af,none⟩ :: rest) ⟨n,tm,hp⟩ Q:=by
 obtain ⟨⟨h0,h1,h2⟩,_⟩:=x5 hv
 have hlen:=(Ax hv).1
 refine LX (xs:=Xs.map g) hx hz Nl lx xX uz (by simp;omega) ?_ kk
 have:(Ay Xs L V.length Z).map g=(Xs.map g).take L.toNat++List.replicate V.length (g Z)++(Xs.map g).drop (L.toNat+V.length):=by
  unfold Ay
  simp
 rw [← this]
 exact u
end rules
end Go.Eng
namespace Go.Eng
open Go Go.Sort Go.Proofs
variable [bA]
theorem HW {α:Type} [Inhabited α] (enc:α→Value) (w:World) (cd off m:Nat) (dk:Array α) (os:Array Obj) {n:Nat} (hn:n < w.heap.size) (mJ:n≠cd):(grow (putRow enc (Sort.ahead w m) cd off dk) os).heap[n]? =w.heap[n]?:=by
 unfold putRow
 rw [heap_grow_old _ _ (by simpa [mapBlock] using hn)]
 simp only [mapBlock,heap_ahead,Array.getElem?_modify]
 rw [if_neg (fun h=>mJ h.symm)]
theorem JB {α:Type} [Inhabited α] (enc:α→Value) (w:World) (cd m:Nat) (dk:Array α) (os:Array Obj) {vs:Array Value} {E:TypeId} (hb:w.heap[cd]? =some (.cells vs E (0,0))):(grow (putRow enc (Sort.ahead w m) cd 0 dk) os).heap[cd]? =some (.cells (putCells enc 0 dk vs) E (0,0)):=by
 have lA:cd < w.heap.size:=by
  rcases Nat.lt_or_ge cd w.heap.size with h | h
  ·exact h
  ·simp [Array.getElem?_eq_none h] at hb
 unfold putRow
 rw [heap_grow_old _ _ (by simpa [mapBlock] using lA)]
 simp only [mapBlock,heap_ahead,Array.getElem?_modify]
 rw [if_pos trivial,hb]
 rfl
theorem y7 {α:Type} {g:α→AV} (hc:∀ x,(g x).cells=[g x]):∀ xs:List α,flat (xs.map g)=xs.map g
 | []=>rfl
 | x :: r=>by rw [List.map_cons,iJ,hc,y7 hc r];rfl
end Go.Eng
namespace Go.Eng
open Go
variable [bA]
def AV.JC:AV→Bool
 | .sl _ _ _ _=>true
 | .ptr _ _=>true
 | .agg cs=>Ew cs
 | v=>v.Dm
def JD:List AV→Bool
 | []=>true
 | c :: r=>c.JC&&JD r
def AV.P8:AV→Bool
 | .nI cs=>JD cs
 | v=>v.JC
theorem DA {w:World} {S S':Nat→Prop} {av:AV} {v:Value} (h:At w S av v) (hn:av.JC=true):At w S' av v:=by
 cases h with
 | agg cs vs hl h=>exact .agg cs vs hl fun i c u hc hu=>vx (h i c u hc hu) (vy hn c (List.mem_of_getElem? hc))
 | sl sz b off len n cap hb h1 h2=>exact .sl sz b off len n cap hb h1 h2
 | B0 sz b hb=>exact .B0 sz b hb
 | Lh sz b off n ad hb=>exact .Lh sz b off n ad hb
 | ptr b o n hb=>exact .ptr b o n hb
 | int k n=>exact .int k n
 | bool b=>exact .bool b
 | str s=>exact .str s
 | nil=>exact .nil
 | raw v=>exact .raw v
 | _=>simp [AV.JC,AV.Dm] at hn
theorem A5:∀ {cs:List AV},JD cs=true→∀ c∈cs,c.JC=true
 | [],_,c,hc=>by simp at hc
 | x :: r,h,c,hc=>by
   simp only [JD,Bool.and_eq_true] at h
   rcases List.mem_cons.1 hc with rfl | hc
   ·exact h.1
   ·exact A5 h.2 c hc
theorem Oc {w:World} {S S':Nat→Prop} {av:AV} {v:Value} (h:At w S av v) (hn:av.P8=true):At w S' av v:=by
 cases av with
 | nI cs=>
   cases h with
   | nI _ vs hl h=>exact .nI cs vs hl fun i c u hc hu=>DA (h i c u hc hu) (A5 hn c (List.mem_of_getElem? hc))
 | _=>exact DA h hn
def Ob.La:Ob→Prop
 | .cells cs=>JD cs=true
 | .arr _ xs=>∀ x∈xs,Ew x.cells=true
 | _=>False
inductive Gb:Heap→Prop
 | nil:Gb []
 | cons {b:Bk} {o:Ob} {h:Heap} (c:o.La) (k:Gb h):Gb ((b,o) :: h)
theorem Gb.mem {h:Heap} (k:Gb h):∀ e∈h,e.2.La:=by
 induction k with
 | nil=>intro e he;simp at he
 | cons c k ih=>
   intro e he
   rcases List.mem_cons.1 he with rfl | he
   ·exact c
   ·exact ih e he
theorem La.qR {α:Type} {g:α→AV} {sz:Nat} {Xs:List α} (h:∀ x,Ew (g x).cells=true):(Ob.arr sz (Xs.map g)).La:=fun x hx=>by
 obtain ⟨y,_,rfl⟩:=List.mem_map.1 hx
 exact h y
theorem Holds.P8 {w:World} {S S':Nat→Prop} {b:Bk} {o:Ob} (h:Holds w S b o) (hn:o.La):Holds w S' b o:=by
 cases o with
 | cells cs=>
   obtain ⟨h0,n,vs,E,h1,h2,h3,h4⟩:=h
   exact ⟨h0,n,vs,E,h1,h2,h3,fun i c v hc hv=>DA (h4 i c v hc hv) (A5 hn c (List.mem_of_getElem? hc))⟩
 | arr sz xs=>
   obtain ⟨h0,h1,h2⟩:=h
   refine ⟨h0,h1,h2.imp id ?_⟩
   rintro ⟨n,vs,E,g1,g2,g3,g4⟩
   refine ⟨n,vs,E,g1,g2,g3,fun i c v hc hv=>vx (g4 i c v hc hv) ?_⟩
   have hm:=List.mem_of_getElem? hc
   unfold flat at hm
   rw [List.mem_flatMap] at hm
   obtain ⟨x,hx,R3⟩:=hm
   exact vy (hn x hx) c R3
 | yM _ _=>exact hn.elim
 | mp _=>exact hn.elim
 | Pv _ _=>exact hn.elim
 | Pw _ _ _=>exact hn.elim
 | Px _ _ _=>exact hn.elim
 | cj _=>exact hn.elim
 | OZ _ _ _ _=>exact hn.elim
section rules
variable {P:Program} {all:Array Oper} {rest:List Oper} {n:Nat} {tm:List (Nat×AV)} {hp:Heap} {Q:St→Prop} {d:Nat} {ty:TypeId} {pos:String} {af:Array Edge}
theorem LY {f:FuncId} {args:List Operand} {ts:Array TypeId} {l l':List AV} {h0 hr:Heap} {Qc:AV→Heap→Prop} [bq P f] (hl:zZ tm args=some l) (c:aG P f l' h0 Qc) (co:sV hr l l') (hs:hp.Perm (h0++hr)) (hn:Nat.blt d n=true)
 (kk:∀ r h',Qc r h'→r.P8=true∧Gb h'∧ah P all rest ⟨n,(d,r) :: tm,h'++hr⟩ Q):ah P all (⟨some d,.call {callee:=.value (.func f),args:=args.toArray,argTypes:=ts},ty,pos,af,none⟩ :: rest) ⟨n,tm,hp⟩ Q:=by
 refine ah.GR rfl fun w S a r=>⟨f,_,p9 a w,?_⟩
 obtain ⟨g1,g2⟩:=tT (σ:=⟨n,tm,hp⟩) r hl
 have rp:=r.hp.perm hs
 have Od:cG w S hr:=rp.sub (List.sublist_append_right _ _)
 have Nn:cG w S h0:=rp.sub (List.sublist_append_left _ _)
 obtain ⟨g3,g4⟩:=sV.at Od co g1 g2
 have Oe:∀ m,Has h0 m→¬ Has hr m:=by
  rintro m ⟨x,hx,JE⟩ ⟨y,hy,YW⟩
  have:=rp.nodup
  rw [List.flatMap_append,List.nodup_append] at this
  exact this.2.2 m (List.mem_flatMap.2 ⟨x,hx,JE⟩) m (List.mem_flatMap.2 ⟨y,hy,YW⟩) rfl
 have rh:cG w (SB S hr) h0:=by
  refine ⟨Nn.nodup,fun e he=>(Nn.holds e he).mono (fun m hm=>⟨.inl hm,rfl⟩) (fun m _=>rfl),fun e he m hm=>?_,fun m hm=>?_,fun g o ho=>⟨.inl (Nn.jt g o ho).1,(Nn.jt g o ho).2⟩⟩
  ·constructor
   ·rintro (h | h)
    ·exact (Nn.sep e he m hm).1 h
    ·exact (Oe m ⟨e,he,hm⟩ h).elim
   ·exact fun h=>.inl ((Nn.sep e he m hm).2 h)
  ·rcases hm with h | h
   ·exact Nn.slt m h
   ·exact Od.lt h
 refine (c w (SB S hr) _ rh (by simpa using g3) g4).mono ?_
 rintro e w' ⟨v,res,h',S',rfl,hq,h3,h4,h5⟩
 obtain ⟨k1,k2,k3⟩:=kk res h' hq
 have SH:∀ m,S m→(S' m∧(Has hr m→S m))∧w'.heap[m]? =w.heap[m]?:=fun m hm=>⟨⟨(h5.mH m (.inl hm)).1,fun _=>hm⟩,(h5.mH m (.inl hm)).2⟩
 have yS:cG w' (fun m=>S' m∧(Has hr m→S m)) (h'++hr):=by
  refine ⟨?_,?_,?_,fun m hm=>h4.slt m hm.1,fun g o ho=>⟨⟨(h4.jt g o ho).1,fun _=>(Nn.jt g o ho).1⟩,(h4.jt g o ho).2⟩⟩
  ·rw [List.flatMap_append,List.nodup_append]
   refine ⟨h4.nodup,Od.nodup,fun x hx y hy FR=>?_⟩
   subst FR
   obtain ⟨e1,R5,Lu⟩:=List.mem_flatMap.1 hx
   obtain ⟨e2,Lj,UF⟩:=List.mem_flatMap.1 hy
   rcases h5.new x ⟨e1,R5,Lu⟩ with h | h
   ·exact Oe x h ⟨e2,Lj,UF⟩
   ·have:=Od.lt ⟨e2,Lj,UF⟩;omega
  ·intro e he
   rcases List.mem_append.1 he with he | he
   ·exact (h4.holds e he).P8 (k2.mem e he)
   ·exact (Od.holds e he).mono SH (fun m hm=>(h5.mH m (.inr ⟨e,he,hm⟩)).2)
  ·intro e he m hm
   rcases List.mem_append.1 he with he | he
   ·rw [← h4.sep e he m hm]
    refine ⟨fun h=>h.1,fun h=>⟨h,fun hh=>?_⟩⟩
    rcases h5.new m ⟨e,he,hm⟩ with h6 | h6
    ·exact (Oe m h6 hh).elim
    ·have:=Od.lt hh;omega
   ·rw [← Od.sep e he m hm]
    exact ⟨fun h=>h.2 ⟨e,he,hm⟩,fun h=>⟨(h5.mH m (.inl h)).1,fun _=>h⟩⟩
 have LZ:∀ m,Has hp m↔Has h0 m∨Has hr m:=by
  intro m
  constructor
  ·rintro ⟨x,hx,hb⟩
   rcases List.mem_append.1 (hs.mem_iff.1 hx) with h | h
   ·exact .inl ⟨x,h,hb⟩
   ·exact .inr ⟨x,h,hb⟩
  ·rintro (⟨x,hx,hb⟩ | ⟨x,hx,hb⟩)
   ·exact ⟨x,hs.mem_iff.2 (List.mem_append_left _ hx),hb⟩
   ·exact ⟨x,hs.mem_iff.2 (List.mem_append_right _ hx),hb⟩
 refine ⟨v,fun m=>S' m∧(Has hr m→S m),⟨n,(d,res) :: tm,h'++hr⟩,rfl,(r.heap SH yS).put hn (Oc h3 k1),?_,k3⟩
 refine ⟨h5.os,h5.tape,h5.output,h5.size,SH,fun m hm hh=>?_,fun m hm=>?_,h5.drawn⟩
 ·have n0:¬ Has h0 m:=fun h=>hh ((LZ m).2 (.inl h))
  have nr:¬ Has hr m:=fun h=>hh ((LZ m).2 (.inr h))
  obtain ⟨q1,q2⟩:=h5.other m hm n0
  refine ⟨q1,fun h=>?_⟩
  rcases q2 h.1 with h | h
  ·exact h
  ·exact (nr h).elim
 ·obtain ⟨x,hx,hb⟩:=hm
  rcases List.mem_append.1 hx with hx | hx
  ·rcases h5.new m ⟨x,hx,hb⟩ with h | h
   ·exact .inl ((LZ m).2 (.inl h))
   ·exact .inr h
  ·exact .inl ((LZ m).2 (.inr ⟨x,hx,hb⟩))
theorem vB {zF:Type} {f:FuncId} {args:List Operand} {ts:Array TypeId} {l l':List AV} {h0 hr:Heap} {H H':zF→Heap} {V:zF→AV} [bq P f] (hl:zZ tm args=some l) (c:aG P f l' h0 (T1 H V)) (hs:CA hp h0 hr) (co:sV hr l l') (ha:∀ b,tA (H b) hr=some (H' b)) (hV:∀ b,(V b).P8=true) (hH:∀ b,Gb (H b)) (hn:Nat.blt d n=true)
 (kk:∀ b,ah P all rest ⟨n,(d,V b) :: tm,H' b⟩ Q):ah P all (⟨some d,.call {callee:=.value (.func f),args:=args.toArray,argTypes:=ts},ty,pos,af,none⟩ :: rest) ⟨n,tm,hp⟩ Q:=
 LY hl c co hs.perm hn (fun r h' ⟨b,e1,e2⟩=>by subst e1;subst e2;rw [og (ha b)];exact ⟨hV b,hH b,kk b⟩)
end rules
class x8 (K:Type) where
 lt:K→K→Bool
instance:x8 Int:=⟨fun a b=>decide (a < b)⟩
instance:x8 Bool:=⟨fun a b=>!a&&b⟩
instance:x8 (List UInt8):=⟨fun a b=>Op.bytesLess a b⟩
section plain
variable {K V:Type}
def A6 [DecidableEq K] (m:List (K×V)) (k:K):List (K×V):=m.filter (fun e=>decide (e.1≠k))
def A7 [x8 K] (k:K) (v:V):List (K×V)→List (K×V)
 | []=>[(k,v)]
 | e :: r=>if x8.lt e.1 k=true then e :: A7 k v r else (k,v) :: e :: r
def jh [DecidableEq K] [x8 K] (m:List (K×V)) (k:K) (v:V):List (K×V):=A7 k v (A6 m k)
def bQ [DecidableEq K]:List (K×V)→K→Option V
 | [],_=>none
 | e :: r,k=>if e.1=k then some e.2 else bQ r k
def qq [DecidableEq K] (m:List (K×V)) (k:K) (z:V):Option V:=some ((bQ m k).getD z)
def vC [DecidableEq K] (m:List (K×V)) (k:K) (z:V):Option (V×Bool):=some ((bQ m k).getD z,(bQ m k).isSome)
theorem tX [x8 K] (k:K) (v:V):∀ (m:List (K×V)),(A7 k v m).Perm ((k,v) :: m)
 | []=>List.Perm.refl _
 | e :: r=>by
   unfold A7
   split
   ·exact (List.Perm.cons e (tX k v r)).trans (List.Perm.swap _ _ _)
   ·exact List.Perm.refl _
theorem x9 {α β:Type} (f:α→β):∀ (l:List β) (M:List α),l.Perm (M.map f)→∃ M':List α,M'.Perm M∧l=M'.map f
 | [],M,h=>by
   have:=h.nil_eq
   rw [eq_comm,List.map_eq_nil_iff] at this
   subst this;exact ⟨[],List.Perm.refl _,rfl⟩
 | x :: t,M,h=>by
   have hx:x∈M.map f:=h.mem_iff.1 (by simp)
   obtain ⟨e,he,rfl⟩:=List.mem_map.1 hx
   obtain ⟨p,q,rfl⟩:=List.append_of_mem he
   have h2:(f e :: t).Perm (f e :: (p++q).map f):=h.trans (by rw [List.map_append,List.map_cons,List.map_append];exact List.perm_middle)
   obtain ⟨M',h3,rfl⟩:=x9 f t (p++q) (List.Perm.cons_inv h2)
   exact ⟨e :: M',(List.Perm.cons e h3).trans List.perm_middle.symm,rfl⟩
theorem A8 [DecidableEq K] {k:K} {v:V}:∀ {m:List (K×V)},bQ m k=some v→(k,v)∈m
 | [],h=>by cases h
 | e :: r,h=>by
   unfold bQ at h
   split at h
   ·rename_i hk
    obtain rfl:=Option.some.inj h
    subst hk;simp
   ·exact List.mem_cons_of_mem _ (A8 h)
theorem vD [DecidableEq K] {k:K} {v:V}:∀ {m:List (K×V)},(m.map Prod.fst).Nodup→(k,v)∈m→bQ m k=some v
 | [],_,h=>by simp at h
 | e :: r,hn,h=>by
   rw [List.map_cons,List.nodup_cons] at hn
   unfold bQ
   rcases List.mem_cons.1 h with rfl | h
   ·simp
   ·rw [if_neg (fun hk=>hn.1 (List.mem_map.2 ⟨_,h,hk.symm⟩))]
    exact vD hn.2 h
theorem wv [DecidableEq K] {k:K}:∀ {m:List (K×V)},bQ m k=none↔∀ e∈m,e.1≠k
 | []=>by simp [bQ]
 | e :: r=>by
   unfold bQ
   split
   ·rename_i hk;simp [hk]
   ·rename_i hk
    rw [wv (m:=r)]
    simp [hk]
theorem tY [DecidableEq K] {m m':List (K×V)} (hp:m'.Perm m) (hn:(m'.map Prod.fst).Nodup) (k:K):bQ m' k=bQ m k:=by
 have Jp:(m.map Prod.fst).Nodup:=(hp.map _).nodup_iff.1 hn
 cases h:bQ m' k with
 | none=>
   symm
   rw [wv] at h ⊢
   exact fun e he=>h e (hp.mem_iff.2 he)
 | some v=>exact (vD Jp (hp.mem_iff.1 (A8 h))).symm
theorem CJ [DecidableEq K] {m:List (K×V)} {k:K} (h:bQ m k=none):A6 m k=m:=by
 rw [wv] at h
 unfold A6
 exact List.filter_eq_self.2 fun e he=>by simpa using h e he
end plain
def vE {K:Type} [DecidableEq K] (k:K):List K→List MapEntry→Nat→Option (Nat×Value)
 | k' :: ks,e :: es,i=>if k'=k then some (i,e.val) else vE k ks es (i+1)
 | _,_,_=>none
class kL (P:Program) (t:TypeId) {K:Type} [DecidableEq K] (g:K→AV):Prop where
 inj:∀ a b,g a=g b→a=b
 check:∀ {w:World} {S:Nat→Prop} {k:K} {v:Value},At w S (g k) v→∀ (b:Bool) (w1:World),(Instr.checkKey b 10000 t v).run P w1=.ok () w1
 find:∀ {w:World} {S:Nat→Prop} {k:K} {v:Value},At w S (g k) v→∀ (es:List MapEntry) (ks:List K),ks.length=es.length→(∀ (i:Nat) k' e,ks[i]? =some k'→es[i]? =some e→At w S (g k') e.key)→∀ w1:World,(Instr.findKey t v es).run P w1=.ok (vE k ks es 0) w1
 bits:∀ {w:World} {S:Nat→Prop} {k:K} {v u:Value},At w S (g k) v→At w S (g k) u→Instr.sameBits 10000 v u=true
theorem wx {K:Type} [DecidableEq K] {d:TypeDesc} {v:Value} {k:K} {q:K→Value→Prop} (hq:∀ k' u,q k' u→Instr.sameNow d v u=some (decide (k'=k))):∀ (es:List MapEntry) (ks:List K) (i:Nat),ks.length=es.length→(∀ (i:Nat) k' e,ks[i]? =some k'→es[i]? =some e→q k' e.key)→Instr.findNow d v es i=some (vE k ks es i)
 | [],[],i,_,_=>rfl
 | [],k' :: ks,i,hl,_=>by simp at hl
 | e :: es,[],i,hl,_=>by simp at hl
 | e :: es,k' :: ks,i,hl,h=>by
   unfold Instr.findNow vE
   rw [hq k' e.key (h 0 k' e rfl rfl)]
   by_cases hk:k'=k
   ·simp [hk]
   ·simp only [hk,decide_false,if_false]
    exact wx hq es ks (i+1) (by simpa using hl) (fun i k' e h1 h2=>h (i+1) k' e (by simpa using h1) (by simpa using h2))
theorem Gc (a b:ByteArray):((a==b)=true)↔a=b:=by
 cases a with
 | mk a=>
   cases b with
   | mk b=>
     show (a==b)=true↔_
     rw [beq_iff_eq]
     exact ⟨fun h=>by rw [h],fun h=>by cases h;rfl⟩
theorem kL.int {P:Program} {t:TypeId} {q:IntKind} (h:P.underlying t=some (.int q)):kL P t (K:=Int) (fun n=>AV.int q n) where
 inj a b h:=by simpa using h
 check:=fun {w S k v} hv b w1=>by
  rw [hv.eB]
  have key:∀ n:Nat,(Instr.checkKey b (n+1) t (Value.int q k)).run P w1=.ok () w1:=fun n=>by simp [Instr.checkKey,run_underlying h]
  exact key 9999
 find:=fun {w S k v} hv es ks hl hk w1=>by
  rw [hv.eB]
  have hf:=wx (d:=(.int q)) (v:=(Value.int q k)) (k:=k) (q:=fun k' u=>u=(Value.int q k')) (fun k' u hu=>by subst hu;simp only [Instr.sameNow,if_true];congr 1;rw [Bool.eq_iff_iff];simp;exact eq_comm) es ks 0 hl (fun i k' e h1 h2=>(hk i k' e h1 h2).eB)
  simp [Instr.findKey,run_underlying h,hf]
 bits:=fun {w S k v u} h1 h2=>by rw [h1.eB,h2.eB];simp [Instr.sameBits]
theorem kL.bool {P:Program} {t:TypeId} (h:P.underlying t=some .bool):kL P t (K:=Bool) AV.bool where
 inj a b h:=by simpa using h
 check:=fun {w S k v} hv b w1=>by
  rw [hv.kP]
  have key:∀ n:Nat,(Instr.checkKey b (n+1) t (Value.bool k)).run P w1=.ok () w1:=fun n=>by simp [Instr.checkKey,run_underlying h]
  exact key 9999
 find:=fun {w S k v} hv es ks hl hk w1=>by
  rw [hv.kP]
  have hf:=wx (d:=.bool) (v:=(Value.bool k)) (k:=k) (q:=fun k' u=>u=(Value.bool k')) (fun k' u hu=>by subst hu;simp only [Instr.sameNow];congr 1;rw [Bool.eq_iff_iff];simp;exact eq_comm) es ks 0 hl (fun i k' e h1 h2=>(hk i k' e h1 h2).kP)
  simp [Instr.findKey,run_underlying h,hf]
 bits:=fun {w S k v u} h1 h2=>by rw [h1.kP,h2.kP];simp [Instr.sameBits]
theorem kL.str {P:Program} {t:TypeId} (h:P.underlying t=some .string):kL P t (K:=List UInt8) AV.str where
 inj a b h:=by simpa using h
 check:=fun {w S k v} hv b w1=>by
  rw [hv.gO]
  have key:∀ n:Nat,(Instr.checkKey b (n+1) t (Value.string ⟨k.toArray⟩)).run P w1=.ok () w1:=fun n=>by simp [Instr.checkKey,run_underlying h]
  exact key 9999
 find:=fun {w S k v} hv es ks hl hk w1=>by
  rw [hv.gO]
  have hf:=wx (d:=.string) (v:=(Value.string ⟨k.toArray⟩)) (k:=k) (q:=fun k' u=>u=(Value.string ⟨k'.toArray⟩)) (fun k' u hu=>by subst hu;simp only [Instr.sameNow];congr 1;rw [Bool.eq_iff_iff,Gc];simp;exact eq_comm) es ks 0 hl (fun i k' e h1 h2=>(hk i k' e h1 h2).gO)
  simp [Instr.findKey,run_underlying h,hf]
 bits:=fun {w S k v u} h1 h2=>by rw [h1.gO,h2.gO];simp only [Instr.sameBits];exact (Gc _ _).2 rfl
instance {P:Program} {t:TypeId} [h:aD P t (.int .i64)]:kL P t (K:=Int) I:=kL.int h.h
instance {P:Program} {t:TypeId} [h:aD P t .bool]:kL P t (K:=Bool) AV.bool:=kL.bool h.h
instance {P:Program} {t:TypeId} [h:aD P t .string]:kL P t (K:=List UInt8) AV.str:=kL.str h.h
theorem lQ {P:Program} {w:World} {r:Nat} {es:Array MapEntry} {c:Nat} (h:w.heap[r]? =some (.map es c)):(getObj r).run P w=.ok (.map es c) w:=by
 simp only [getObj,Sem.run,h]
def y8 (w:World) (r:Nat) (o:Obj):World:={w with heap:=w.heap.setIfInBounds r o}
theorem A9 {P:Program} {w:World} {r:Nat} {es:Array MapEntry} {c:Nat} (o:Obj) (h:w.heap[r]? =some (.map es c)):(setObj r o).run P w=.ok () (y8 w r o):=by
 simp only [setObj,Sem.run,h];rfl
theorem CK {w:World} {r:Nat} {o o':Obj} (h:w.heap[r]? =some o'):(y8 w r o).heap[r]? =some o:=by
 have lA:r < w.heap.size:=(Array.getElem?_eq_some_iff.1 h).1
 simp [y8,Array.getElem?_setIfInBounds,lA]
theorem Ba {w:World} {r k:Nat} {o:Obj} (h:k≠r):(y8 w r o).heap[k]? =w.heap[k]?:=by
 simp [y8,Array.getElem?_setIfInBounds,Ne.symm h]
theorem L0 {w:World} {r:Nat} {o:Obj} {x:Option Nat} (hx:x=some r):GB w (y8 w r o) x:=
 ⟨⟨rfl,rfl,rfl,by simp [y8],fun k hk mJ=>Ba (fun e=>mJ (by rw [hx,e]))⟩,fun _=>Nat.le_refl _⟩
theorem Ext.heap {w w':World} {n:Nat} {o:Obj} (e:Ext w w') (h:w.heap[n]? =some o):w'.heap[n]? =some o:=by
 rw [e.same n (Array.getElem?_eq_some_iff.1 h).1];exact h
theorem At.tZ {w:World} {S:Nat→Prop} {b:Bk} {v:Value} (h:At w S (.gD b) v):∃ n,b.cd=some n∧v=.map (some n):=by cases h with | gD _ n hb=>exact ⟨n,hb,rfl⟩
theorem JF (w:World) (S:Nat→Prop) (z:Value) (h1:kQ (BU z).cells=true):At w S (BU z) z:=by
 by_cases hz:∃ cs,z=.agg cs
 ·obtain ⟨cs,rfl⟩:=hz
  obtain ⟨h2,h3⟩:=rH w S (.agg cs) (dp h1)
  exact .agg _ _ h2 h3
 ·have Ln:BU z=MZ z:=by
   cases z<;>first | rfl | (exact (hz ⟨_,rfl⟩).elim)
  rw [Ln];exact Dd w S z
theorem ya {K V:Type} {gk:K→AV} {gv:V→AV} {w:World} {S:Nat→Prop} {hp:Heap} {b:Bk} {M:List (K×V)} (YX:∀ a b,gk a=gk b→a=b) (r:cG w S hp) (f:mr hp b (.mp (M.map fun e=>(gk e.1,gv e.2)))):
 ∃ (L:List xi) (c:Nat) (M':List (K×V)) (n:Nat) (ov:Array MapEntry),M'.Perm M∧L.map xi.kv=M'.map (fun e=>(gk e.1,gv e.2))∧vn w S b L c∧b.cd=some n∧w.heap[n]? =some (.map ov c)∧ov.toList.length=M'.length∧
   (∀ (i:Nat) e m,M'[i]? =some e→ov.toList[i]? =some m→At w S (gk e.1) m.key∧At w S (gv e.2) m.val)∧(M'.map Prod.fst).Nodup:=by
 obtain ⟨L,c,o0,hH⟩:=r.holds _ f.mem
 obtain ⟨M',h1,h2⟩:=x9 _ _ _ o0
 have YY:=hH
 obtain ⟨n,ov,g1,g2,g3,g4,g5,g6,g7⟩:=hH
 have hlen:L.length=M'.length:=by have:=congrArg List.length h2;simpa using this
 refine ⟨L,c,M',n,ov,h1,h2,YY,g1,g2,by rw [Array.length_toList,g3,hlen],fun i e m he hm=>?_,?_⟩
 ·have:(L.map xi.kv)[i]? =some (gk e.1,gv e.2):=by rw [h2,List.getElem?_map,he];rfl
  rw [List.getElem?_map] at this
  cases hL:L[i]? with
  | none=>rw [hL] at this;cases this
  | some x=>
    rw [hL] at this
    have hx:(x.k,x.v)=(gk e.1,gv e.2):=Option.some.inj this
    obtain ⟨q1,q2⟩:=Prod.mk.inj hx
    have:=g4 i x m hL (by simpa using hm)
    rw [q1,q2] at this
    exact this.2
 ·have hk:L.map (·.k)=(M'.map Prod.fst).map gk:=by
   have:=congrArg (List.map Prod.fst) h2
   simpa [List.map_map,Function.comp_def,xi.kv] using this
  rw [hk] at g7
  exact (List.pairwise_map.1 g7).imp (fun h e=>h (by rw [e]))
theorem Bb {α:Type} {l:List α} {j:Nat} {x:α} (h:l[j]? =some x):l.set j x=l:=by
 apply List.ext_getElem?
 intro i
 rw [List.getElem?_set]
 by_cases x3:j=i
 ·subst x3
  have:=(List.getElem?_eq_some_iff.1 h).1
  rw [if_pos rfl,if_pos this,h]
 ·simp [x3]
theorem wy {K V:Type} [DecidableEq K] {gv:V→AV} {w:World} {S:Nat→Prop} {k:K}:∀ (M:List (K×V)) (es:List MapEntry) (i:Nat),M.length=es.length→(∀ (j:Nat) e m,M[j]? =some e→es[j]? =some m→At w S (gv e.2) m.val)→
 (bQ M k=none∧vE k (M.map Prod.fst) es i=none)∨∃ v j val,bQ M k=some v∧vE k (M.map Prod.fst) es i=some (i+j,val)∧At w S (gv v) val∧M[j]? =some (k,v)
 | [],[],i,_,_=>.inl ⟨rfl,rfl⟩
 | [],m :: es,i,hl,_=>by simp at hl
 | e :: M,[],i,hl,_=>by simp at hl
 | e :: M,m :: es,i,hl,h=>by
   unfold bQ
   simp only [List.map_cons,vE]
   by_cases hk:e.1=k
   ·simp only [hk,if_true]
    refine .inr ⟨e.2,0,m.val,rfl,rfl,h 0 e m rfl rfl,?_⟩
    subst hk;rfl
   ·simp only [hk,if_false]
    rcases wy M es (i+1) (by simpa using hl) (fun j e' m' h1 h2=>h (j+1) e' m' (by simpa using h1) (by simpa using h2)) with ⟨h1,h2⟩ | ⟨v,j,val,h1,h2,h3,h4⟩
    ·exact .inl ⟨h1,h2⟩
    ·exact .inr ⟨v,j+1,val,h1,by rw [h2];congr 2;omega,h3,by simpa using h4⟩
section rules
variable {P:Program} {all:Array Oper} {rest:List Oper} {n:Nat} {tm:List (Nat×AV)} {hp:Heap} {Q:St→Prop} {d:Nat} {ty:TypeId} {pos:String} {af:Array Edge}
theorem pO {t:TypeId} (hn:Nat.blt d n=true) (kk:∀ b:Bk,ah P all rest ⟨n,(d,.gD b) :: tm,(b,.mp []) :: hp⟩ Q):ah P all (⟨some d,.makeMap t none,ty,pos,af,none⟩ :: rest) ⟨n,tm,hp⟩ Q:=by
 refine ah.M0 rfl fun w S a r=>?_
 have hh:Holds (w.alloc (.map #[] 0)) S ⟨some w.heap.size,0⟩ (.mp []):=⟨[],0,List.Perm.refl _,w.heap.size,#[],rfl,by show (w.heap.push _)[w.heap.size]? =_;simp,rfl,by simp,by simp,by simp,by simp⟩
 obtain ⟨k1,k2,k3⟩:=wk r.hp (Ext.alloc w (.map #[] 0)) id hh (.inr ⟨_,rfl,Nat.le_refl _⟩)
 exact ⟨.map (some w.heap.size),w.alloc (.map #[] 0),S,_,by simp [execOp,Instr.makeMap],(r.heap k3 k1).put hn (.gD _ _ rfl),k2,kk ⟨some w.heap.size,0⟩⟩
theorem ss {K V:Type} [DecidableEq K] {gk:K→AV} {gv:V→AV} {M:List (K×V)} {key:K} {Z v:V} {t kt vt:TypeId} {i:TypeInfo} {z:Value} {x y:Operand} {b:Bk} {av:AV} [aD P t (.map kt vt)] [aX P vt i] [kL P kt gk] (hx:cZ tm x=some (.gD b)) (hy:cZ tm y=some (gk key)) (f:mr hp b (.mp (M.map fun e=>(gk e.1,gv e.2)))) (hz:i.zero=some z) (Nl:BU z=gv Z) (h1:kQ (BU z).cells=true) (h:qq M key Z=some v) (rk:gv v=av):
 QV P ⟨some d,.lookup t x y false,ty,pos,af,none⟩ ⟨n,tm,hp⟩ av:=by
 intro w S a r
 have kx:=bj (σ:=⟨n,tm,hp⟩) r hx
 have ky:=bj (σ:=⟨n,tm,hp⟩) r hy
 obtain ⟨nb,hb,ex⟩:=kx.tZ
 obtain ⟨L,c,M',IC,ov,p1,p2,p3,p4,p5,p6,p7,p8⟩:=ya (kL.inj P kt) r.hp f
 obtain rfl:IC=nb:=by rw [p4] at hb;exact Option.some.inj hb
 unfold qq at h
 have hv:=Option.some.inj h
 rw [← tY p1 p8] at hv
 have uZ:=kL.find (P:=P) (t:=kt) (g:=gk) ky ov.toList (M'.map Prod.fst) (by simpa using p6.symm) (fun j k' e h1 h2=>by
  rw [List.getElem?_map] at h1
  cases hm:M'[j]? with
  | none=>rw [hm] at h1;cases h1
  | some q=>rw [hm] at h1;rw [← Option.some.inj h1];exact (p7 j q e hm h2).1)
 rcases wy (gv:=gv) (w:=w) (S:=S) (k:=key) M' ov.toList 0 p6.symm (fun j e m h1 h2=>(p7 j e m h1 h2).2) with ⟨q1,q2⟩ | ⟨v',j,val,q1,q2,q3,_⟩
 ·refine ⟨z,fun w1 e1=>?_,?_⟩
  ·simp [execOp,Instr.lookup,ex,run_underlying (aD.h (P:=P) (t:=t)),lQ (e1.heap p5),kL.check (P:=P) (t:=kt) ky,uZ,q2,zeroValue,typeInfo,aX.h (P:=P) (t:=vt),hz]
  ·rw [← rk,← hv,q1,Option.getD_none,← Nl];exact JF w S z h1
 ·refine ⟨val,fun w1 e1=>?_,?_⟩
  ·simp [execOp,Instr.lookup,ex,run_underlying (aD.h (P:=P) (t:=t)),lQ (e1.heap p5),kL.check (P:=P) (t:=kt) ky,uZ,q2]
  ·rw [← rk,← hv,q1,Option.getD_some];exact q3
theorem wz {K V:Type} [DecidableEq K] {gk:K→AV} {gv:V→AV} {M:List (K×V)} {key:K} {Z:V} {v:V×Bool} {t kt vt:TypeId} {i:TypeInfo} {z:Value} {x y:Operand} {b:Bk} {av:AV} [aD P t (.map kt vt)] [aX P vt i] [kL P kt gk] (hx:cZ tm x=some (.gD b)) (hy:cZ tm y=some (gk key)) (f:mr hp b (.mp (M.map fun e=>(gk e.1,gv e.2)))) (hz:i.zero=some z) (Nl:BU z=gv Z) (h1:kQ (BU z).cells=true) (h:vC M key Z=some v) (rk:gv v.1=av):
 QV P ⟨some d,.lookup t x y true,ty,pos,af,none⟩ ⟨n,tm,hp⟩ (.nI [av,.bool v.2]):=by
 intro w S a r
 have kx:=bj (σ:=⟨n,tm,hp⟩) r hx
 have ky:=bj (σ:=⟨n,tm,hp⟩) r hy
 obtain ⟨nb,hb,ex⟩:=kx.tZ
 obtain ⟨L,c,M',IC,ov,p1,p2,p3,p4,p5,p6,p7,p8⟩:=ya (kL.inj P kt) r.hp f
 obtain rfl:IC=nb:=by rw [p4] at hb;exact Option.some.inj hb
 unfold vC at h
 have hv:=Option.some.inj h
 rw [← tY p1 p8] at hv
 have uZ:=kL.find (P:=P) (t:=kt) (g:=gk) ky ov.toList (M'.map Prod.fst) (by simpa using p6.symm) (fun j k' e h1 h2=>by
  rw [List.getElem?_map] at h1
  cases hm:M'[j]? with
  | none=>rw [hm] at h1;cases h1
  | some q=>rw [hm] at h1;rw [← Option.some.inj h1];exact (p7 j q e hm h2).1)
 rcases wy (gv:=gv) (w:=w) (S:=S) (k:=key) M' ov.toList 0 p6.symm (fun j e m h1 h2=>(p7 j e m h1 h2).2) with ⟨q1,q2⟩ | ⟨v',j,val,q1,q2,q3,_⟩
 ·refine ⟨.tuple #[z,.bool false],fun w1 e1=>?_,?_⟩
  ·simp [execOp,Instr.lookup,ex,run_underlying (aD.h (P:=P) (t:=t)),lQ (e1.heap p5),kL.check (P:=P) (t:=kt) ky,uZ,q2,zeroValue,typeInfo,aX.h (P:=P) (t:=vt),hz]
  ·rw [← rk,← hv,q1]
   refine .nI _ _ rfl (GU ?_ (.bool _))
   rw [Option.getD_none,← Nl];exact JF w S z h1
 ·refine ⟨.tuple #[val,.bool true],fun w1 e1=>?_,?_⟩
  ·simp [execOp,Instr.lookup,ex,run_underlying (aD.h (P:=P) (t:=t)),lQ (e1.heap p5),kL.check (P:=P) (t:=kt) ky,uZ,q2]
  ·rw [← rk,← hv,q1]
   exact .nI _ _ rfl (GU q3 (.bool _))
theorem CL {w:World} {S:Nat→Prop} {hp de:Heap} {b:Bk} {m:Nat} {o o':Ob} {ob IB:Obj} (r:cG w S hp) (u:nA hp b o b o' de) (hb:b.cd=some m) (ho:w.heap[m]? =some IB) (hf:¬ o.zt) (R6:¬ o'.zt) (hh:(∀ n,S n→S n∧(y8 w m ob).heap[n]? =w.heap[n]?)→Holds (y8 w m ob) S b o') (hm:o'.more=[]:=by rfl):
 cG (y8 w m ob) S de∧lz w S hp (y8 w m ob) S de∧∀ n,S n→S n∧(y8 w m ob).heap[n]? =w.heap[n]?:=by
 have k1:∀ n,S n→S n∧(y8 w m ob).heap[n]? =w.heap[n]?:=fun k hk=>⟨hk,Ba (fun e=>by
  subst e
  exact hf ((r.sep _ u.ml.mem _ (lY hb)).1 hk))⟩
 exact xV r u (L0 hb) hf R6 (hh k1) (.inl rfl) hm
theorem oF {K V:Type} [DecidableEq K] [x8 K] {gk:K→AV} {gv:V→AV} {M:List (K×V)} {key:K} {v:V} {t kt vt:TypeId} {x y z:Operand} {b:Bk} {av:AV} {de:Heap} [aD P t (.map kt vt)] [kL P kt gk] (hx:cZ tm x=some (.gD b)) (hy:cZ tm y=some (gk key)) (hz:cZ tm z=some av) (rk:av=gv v) (u:nA hp b (.mp (M.map fun e=>(gk e.1,gv e.2))) b (.mp ((jh M key v).map fun e=>(gk e.1,gv e.2))) de)
 (kk:ah P all rest ⟨n,tm,de⟩ Q):ah P all (⟨none,.mapUpdate t x y z,ty,pos,af,none⟩ :: rest) ⟨n,tm,hp⟩ Q:=by
 refine ah.act rfl rfl (fun w S a r=>?_) kk
 have kx:=bj (σ:=⟨n,tm,hp⟩) r hx
 have ky:=bj (σ:=⟨n,tm,hp⟩) r hy
 have kz:=bj (σ:=⟨n,tm,hp⟩) r hz
 obtain ⟨nb,hb,ex⟩:=kx.tZ
 obtain ⟨L,c,M',IC,ov,p1,p2,p3,p4,p5,p6,p7,p8⟩:=ya (kL.inj P kt) r.hp u.ml
 obtain rfl:IC=nb:=by rw [p4] at hb;exact Option.some.inj hb
 have uZ:=kL.find (P:=P) (t:=kt) (g:=gk) ky ov.toList (M'.map Prod.fst) (by simpa using p6.symm) (fun j k' e h1 h2=>by
  rw [List.getElem?_map] at h1
  cases hm:M'[j]? with
  | none=>rw [hm] at h1;cases h1
  | some q=>rw [hm] at h1;rw [← Option.some.inj h1];exact (p7 j q e hm h2).1)
 obtain ⟨SI,vF,g1,g2,g3,g4,g5,g6,g7⟩:=p3
 obtain rfl:SI=IC:=by rw [p4] at g1;exact (Option.some.inj g1).symm
 obtain rfl:vF=ov:=by rw [p5] at g2;exact (Obj.map.inj (Option.some.inj g2)).1.symm
 have YZ:L.length=M'.length:=by have:=congrArg List.length p2;simpa using this
 have UG:∀ (j:Nat) (x:xi) (e:K×V),L[j]? =some x→M'[j]? =some e→x.k=gk e.1∧x.v=gv e.2:=by
  intro j x e h1 h2
  have:(L.map xi.kv)[j]? =(M'.map fun e=>(gk e.1,gv e.2))[j]?:=by rw [p2]
  rw [List.getElem?_map,List.getElem?_map,h1,h2] at this
  exact Prod.mk.inj (Option.some.inj this)
 rcases wy (gv:=gv) (w:=w) (S:=S) (k:=key) M' vF.toList 0 p6.symm (fun j e m h1 h2=>(p7 j e m h1 h2).2) with ⟨q1,q2⟩ | ⟨v',j,val,q1,q2,q3,q4⟩
 ·
  have hw:=CL (ob:=.map (vF.push ⟨a.eval y,a.eval z,c⟩) (c+1)) r.hp u p4 p5 id id (fun k1=>by
   refine ⟨L++[⟨gk key,gv v,c⟩],c+1,?_,SI,vF.push ⟨a.eval y,a.eval z,c⟩,p4,CK p5,by simp [g3],?_,?_,?_,?_⟩
   ·rw [List.map_append,p2]
    refine List.Perm.trans ?_ ((tX key v (A6 M key)).symm.map _)
    rw [CJ (by rw [← tY p1 p8];exact q1)]
    exact List.perm_append_comm.trans (List.Perm.cons _ (p1.map _))
   ·intro i e m he hm
    rw [Array.getElem?_push] at hm
    rcases Nat.lt_or_ge i L.length with hi | hi
    ·rw [List.getElem?_append_left hi] at he
     rw [if_neg (by omega)] at hm
     obtain ⟨s1,s2,s3⟩:=g4 i e m he hm
     exact ⟨s1,s2.mono k1,s3.mono k1⟩
    ·have I6:i=L.length:=by
      have:=(List.getElem?_eq_some_iff.1 he).1
      simp at this;omega
     subst I6
     rw [if_pos g3.symm] at hm
     simp at he
     obtain rfl:=Option.some.inj hm
     subst he
     exact ⟨rfl,ky.mono k1,by rw [rk] at kz;exact kz.mono k1⟩
   ·intro e he
    rcases List.mem_append.1 he with h | h
    ·have:=g5 e h;omega
    ·simp at h;subst h;simp
   ·rw [List.map_append,List.nodup_append]
    refine ⟨g6,by simp,fun a1 ha b1 Lu G6=>?_⟩
    simp at Lu
    subst Lu
    obtain ⟨e,he,rfl⟩:=List.mem_map.1 ha
    have:=g5 e he
    omega
   ·rw [List.map_append,List.nodup_append]
    refine ⟨g7,by simp,fun a1 ha b1 Lu G6=>?_⟩
    simp at Lu
    subst Lu
    obtain ⟨e,he,rfl⟩:=List.mem_map.1 ha
    obtain ⟨j,hj⟩:=List.getElem?_of_mem he
    have Iz:j < M'.length:=by rw [← YZ];exact (List.getElem?_eq_some_iff.1 hj).1
    have:=(UG j e M'[j] hj (List.getElem?_eq_getElem Iz)).1
    rw [this] at G6
    exact (wv.1 q1) M'[j] (List.getElem_mem Iz) (kL.inj P kt _ _ G6))
  refine ⟨_,S,?_,r.heap hw.2.2 hw.1,hw.2.1⟩
  simp [execOp,Instr.mapUpdate,ex,run_underlying (aD.h (P:=P) (t:=t)),lQ p5,kL.check (P:=P) (t:=kt) ky,uZ,q2,A9 _ p5]
 ·
  have Iz:j < vF.toList.length:=by rw [p6];exact (List.getElem?_eq_some_iff.1 q4).1
  have Na:j < vF.size:=by simpa using Iz
  have Y0:vF.toList[j]? =some vF[j]:=by simp [Na]
  have K8:=(p7 j _ _ q4 Y0).1
  have P9:Instr.sameBits 10000 vF[j].key (a.eval y)=true:=kL.bits (P:=P) (t:=kt) K8 ky
  have O7:j < L.length:=by omega
  have hw:=CL (ob:=.map (vF.modify j fun e=>{e with key:=a.eval y,val:=a.eval z}) c) r.hp u p4 p5 id id (fun k1=>by
   refine ⟨L.set j ⟨gk key,gv v,L[j].born⟩,c,?_,SI,_,p4,CK p5,by simp [g3],?_,?_,?_,?_⟩
   ·rw [List.map_set]
    refine List.Perm.trans ?_ ((tX key v (A6 M key)).symm.map _)
    have e1:(L.map xi.kv).set j (gk key,gv v)=(M'.set j (key,v)).map fun e=>(gk e.1,gv e.2):=by rw [p2,List.map_set]
    show ((L.map xi.kv).set j (gk key,gv v)).Perm _
    rw [e1]
    refine List.Perm.map _ ?_
    have SJ:j < M'.length:=by omega
    have e2:M'=M'.take j++(key,v') :: M'.drop (j+1):=by
     have:=List.take_append_drop j M'
     rw [List.drop_eq_getElem_cons SJ] at this
     have hq:M'[j]=(key,v'):=by rw [List.getElem?_eq_getElem SJ] at q4;exact Option.some.inj q4
     rw [hq] at this
     exact this.symm
    have e3:M'.set j (key,v)=M'.take j++(key,v) :: M'.drop (j+1):=by
     rw [List.set_eq_take_append_cons_drop,if_pos SJ]
    rw [e3]
    refine List.perm_middle.trans (List.Perm.cons _ ?_)
    have e4:A6 M' key=M'.take j++M'.drop (j+1):=by
     have SK:=p8
     rw [e2,List.map_append,List.map_cons,List.nodup_append,List.nodup_cons] at SK
     unfold A6
     rw [e2,List.filter_append,List.filter_cons]
     simp only [ne_eq,not_true_eq_false,decide_false,Bool.false_eq_true,if_false]
     rw [← e2]
     congr 1
     ·refine List.filter_eq_self.2 fun e he=>?_
      simp only [decide_not,Bool.not_eq_true',decide_eq_false_iff_not]
      intro hk
      exact SK.2.2 e.1 (List.mem_map.2 ⟨e,he,rfl⟩) key (by simp) hk
     ·refine List.filter_eq_self.2 fun e he=>?_
      simp only [decide_not,Bool.not_eq_true',decide_eq_false_iff_not]
      intro hk
      exact SK.2.1.1 (List.mem_map.2 ⟨e,he,hk⟩)
    rw [← e4]
    exact p1.filter _
   ·intro i e m he hm
    rw [Array.getElem?_modify] at hm
    rw [List.getElem?_set] at he
    by_cases x3:j=i
    ·subst x3
     simp only [if_true,O7] at he
     simp only [if_true,Array.getElem?_eq_getElem Na,Option.map_some] at hm
     obtain rfl:=Option.some.inj he
     obtain rfl:=Option.some.inj hm
     refine ⟨(g4 j L[j] vF[j] (List.getElem?_eq_getElem O7) (Array.getElem?_eq_getElem Na)).1,ky.mono k1,by rw [rk] at kz;exact kz.mono k1⟩
    ·rw [if_neg x3] at he hm
     obtain ⟨s1,s2,s3⟩:=g4 i e m he hm
     exact ⟨s1,s2.mono k1,s3.mono k1⟩
   ·intro e he
    rcases List.mem_or_eq_of_mem_set he with h | h
    ·exact g5 e h
    ·subst h;exact g5 L[j] (List.getElem_mem O7)
   ·rw [List.map_set]
    have:(L.map (·.born)).set j L[j].born=L.map (·.born):=by
     exact Bb (by rw [List.getElem?_map,List.getElem?_eq_getElem O7];rfl)
    rw [this];exact g6
   ·rw [List.map_set]
    have:(L.map (·.k)).set j (gk key)=L.map (·.k):=by
     have hk:=(UG j L[j] _ (List.getElem?_eq_getElem O7) q4).1
     exact Bb (by rw [List.getElem?_map,List.getElem?_eq_getElem O7,Option.map_some,hk])
    rw [this];exact g7)
  refine ⟨_,S,?_,r.heap hw.2.2 hw.1,hw.2.1⟩
  simp [execOp,Instr.mapUpdate,ex,run_underlying (aD.h (P:=P) (t:=t)),lQ p5,kL.check (P:=P) (t:=kt) ky,uZ,q2,Instr.keyThatStays,Na,P9,A9 _ p5]
theorem yb {K V:Type} [DecidableEq K] [x8 K] {gk:K→AV} {gv:V→AV} {M:List (K×V)} {key:K} {v:V} {t kt vt:TypeId} {x y z:Operand} {b:Bk} {av:AV} {de:Heap} [aD P t (.map kt vt)] [kL P kt gk] (hx:cZ tm x=some (.gD b)) (hy:cZ tm y=some (gk key)) (hz:cZ tm z=some av) (rk:av=gv v) (u:nA hp b (.mp (M.map fun e=>(gk e.1,gv e.2))) b (.mp ((jh M key v).map fun e=>(gk e.1,gv e.2))) de)
 (kk:ah P all rest ⟨n,tm,de⟩ Q):ah P all (⟨none,.insert t x y z,ty,pos,af,none⟩ :: rest) ⟨n,tm,hp⟩ Q:=by
 intro w S a r
 have:=oF (all:=all) (rest:=rest) (ty:=ty) (pos:=pos) (af:=af) (t:=t) (kt:=kt) (vt:=vt) (gk:=gk) (gv:=gv) hx hy hz rk u kk w S a r
 unfold wpList at this ⊢
 exact this
end rules
section rules
variable {P:Program} {all:Array Oper} {rest:List Oper} {n:Nat} {tm:List (Nat×AV)} {hp:Heap} {Q:St→Prop} {d:Nat} {ty:TypeId} {pos:String} {af:Array Edge}
theorem HX {K V:Type} {gk:K→AV} {gv:V→AV} {M:List (K×V)} {t kt vt:TypeId} {x:Operand} {b:Bk} [aD P t (.map kt vt)] (hx:cZ tm x=some (.gD b)) (f:mr hp b (.mp (M.map fun e=>(gk e.1,gv e.2)))):
 QV P ⟨some d,.call {callee:=.builtin .len,args:=#[x],argTypes:=#[t]},ty,pos,af,none⟩ ⟨n,tm,hp⟩ (.int .i64 (M.length:Nat)):=by
 intro w S a r
 obtain ⟨nb,hb,ex⟩:=(bj (σ:=⟨n,tm,hp⟩) r hx).tZ
 obtain ⟨L,c,o0,IC,ov,g1,g2,g3,_⟩:=r.hp.holds _ f.mem
 obtain rfl:IC=nb:=by rw [g1] at hb;exact Option.some.inj hb
 have hl:ov.size=M.length:=by have:=o0.length_eq;simp at this;omega
 refine ⟨.int .i64 (M.length:Nat),fun w1 e1=>?_,.int _ _⟩
 simp [execOp,ex,resolve,invoke,builtin,Builtin.len_,run_underlying (aD.h (P:=P) (t:=t)),lQ (e1.heap g2),goInt,hl]
end rules
theorem aA {α β:Type} {o:Option α} {f:α→Option β} {r:β} {C:Prop} (h:o.bind f=some r) (k:∀ v,o=some v→f v=some r→C):C:=
 let ⟨v,h1,h2⟩:=O3 h;k v h1 h2
def CM:Heap→Nat→Option ((Bk×Ob)×Heap)
 | [],_=>none
 | e :: h,0=>some (e,h)
 | e :: h,i+1=>match CM h i with
   | some (x,h')=>some (x,e :: h')
   | none=>none
def Bc:Heap→List Nat→Option Heap
 | _,[]=>some []
 | h,i :: r=>match CM h i with
   | some (e,h')=>match Bc h' r with
     | some t=>some (e :: t)
     | none=>none
   | none=>none
theorem CN:∀ {h:Heap} {i:Nat} {e:Bk×Ob} {h':Heap},CM h i=some (e,h')→xU h e.1 e.2 h'
 | [],_,_,_,hh=>by simp [CM] at hh
 | x :: h,0,e,h',hh=>by
   simp only [CM,Option.some.injEq,Prod.mk.injEq] at hh
   obtain ⟨rfl,rfl⟩:=hh
   exact .here
 | x :: h,i+1,e,h',hh=>by
   simp only [CM] at hh
   split at hh
   ·rename_i y h1 h2
    simp only [Option.some.injEq,Prod.mk.injEq] at hh
    obtain ⟨rfl,rfl⟩:=hh
    exact .next (CN h2)
   ·cases hh
theorem yc:∀ {l:List Nat} {h t:Heap},Bc h l=some t→HS h t
 | [],h,t,hh=>by
   simp only [Bc,Option.some.injEq] at hh
   subst hh;exact .nil
 | i :: r,h,t,hh=>by
   simp only [Bc] at hh
   split at hh
   ·rename_i e h' h1
    split at hh
    ·rename_i t' h2
     obtain rfl:=Option.some.inj hh
     exact .cons (CN h1) (yc h2)
    ·cases hh
   ·cases hh
def JG (tm:List (Nat×AV)):List Nat→Option (List (Nat×AV))
 | []=>some []
 | s :: r=>match lk tm s with
   | some av=>match JG tm r with
     | some l=>some ((s,av) :: l)
     | none=>none
   | none=>none
theorem ES {tm:List (Nat×AV)}:∀ {l:List Nat} {qQ:List (Nat×AV)},JG tm l=some qQ→Cy tm qQ
 | [],qQ,h=>by
   simp only [JG,Option.some.injEq] at h
   subst h;exact True.intro
 | s :: r,qQ,h=>by
   simp only [JG] at h
   split at h
   ·rename_i av h1
    split at h
    ·rename_i t' h2
     obtain rfl:=Option.some.inj h
     exact ⟨h1,ES h2⟩
    ·cases h
   ·cases h
theorem aj.lq {n:Nat} {tm qQ:List (Nat×AV)} {hp de:Heap} {T:St→Prop} (is:List Nat) (h:T ⟨n,qQ,de⟩) (ht:JG tm (qQ.map Prod.fst)=some qQ) (hs:Bc hp is=some de):aj ⟨n,tm,hp⟩ T:=
 aj.PN (ES ht) (yc hs) (aj.here h)
theorem mr.p0 {b:Bk} {o:Ob} {h:Heap}:mr ((b,o) :: h) b o:=.here
theorem nA.p0 {b b':Bk} {o o':Ob} {h:Heap}:nA ((b,o) :: h) b o b' o' ((b',o') :: h):=.here
theorem xU.p0 {b:Bk} {o:Ob} {h:Heap}:xU ((b,o) :: h) b o (h):=.here
theorem mr.p1 {e0:Bk×Ob} {b:Bk} {o:Ob} {h:Heap}:mr (e0 :: (b,o) :: h) b o:=.next .p0
theorem nA.p1 {e0:Bk×Ob} {b b':Bk} {o o':Ob} {h:Heap}:nA (e0 :: (b,o) :: h) b o b' o' (e0 :: (b',o') :: h):=.next .p0
theorem xU.p1 {e0:Bk×Ob} {b:Bk} {o:Ob} {h:Heap}:xU (e0 :: (b,o) :: h) b o (e0 :: h):=.next .p0
theorem mr.p2 {e0:Bk×Ob} {e1:Bk×Ob} {b:Bk} {o:Ob} {h:Heap}:mr (e0 :: e1 :: (b,o) :: h) b o:=.next .p1
theorem nA.p2 {e0:Bk×Ob} {e1:Bk×Ob} {b b':Bk} {o o':Ob} {h:Heap}:nA (e0 :: e1 :: (b,o) :: h) b o b' o' (e0 :: e1 :: (b',o') :: h):=.next .p1
theorem xU.p2 {e0:Bk×Ob} {e1:Bk×Ob} {b:Bk} {o:Ob} {h:Heap}:xU (e0 :: e1 :: (b,o) :: h) b o (e0 :: e1 :: h):=.next .p1
theorem mr.p3 {e0:Bk×Ob} {e1:Bk×Ob} {e2:Bk×Ob} {b:Bk} {o:Ob} {h:Heap}:mr (e0 :: e1 :: e2 :: (b,o) :: h) b o:=.next .p2
theorem nA.p3 {e0:Bk×Ob} {e1:Bk×Ob} {e2:Bk×Ob} {b b':Bk} {o o':Ob} {h:Heap}:nA (e0 :: e1 :: e2 :: (b,o) :: h) b o b' o' (e0 :: e1 :: e2 :: (b',o') :: h):=.next .p2
theorem xU.p3 {e0:Bk×Ob} {e1:Bk×Ob} {e2:Bk×Ob} {b:Bk} {o:Ob} {h:Heap}:xU (e0 :: e1 :: e2 :: (b,o) :: h) b o (e0 :: e1 :: e2 :: h):=.next .p2
theorem mr.p4 {e0:Bk×Ob} {e1:Bk×Ob} {e2:Bk×Ob} {e3:Bk×Ob} {b:Bk} {o:Ob} {h:Heap}:mr (e0 :: e1 :: e2 :: e3 :: (b,o) :: h) b o:=.next .p3
theorem nA.p4 {e0:Bk×Ob} {e1:Bk×Ob} {e2:Bk×Ob} {e3:Bk×Ob} {b b':Bk} {o o':Ob} {h:Heap}:nA (e0 :: e1 :: e2 :: e3 :: (b,o) :: h) b o b' o' (e0 :: e1 :: e2 :: e3 :: (b',o') :: h):=.next .p3
theorem xU.p4 {e0:Bk×Ob} {e1:Bk×Ob} {e2:Bk×Ob} {e3:Bk×Ob} {b:Bk} {o:Ob} {h:Heap}:xU (e0 :: e1 :: e2 :: e3 :: (b,o) :: h) b o (e0 :: e1 :: e2 :: e3 :: h):=.next .p3
theorem mr.p5 {e0:Bk×Ob} {e1:Bk×Ob} {e2:Bk×Ob} {e3:Bk×Ob} {e4:Bk×Ob} {b:Bk} {o:Ob} {h:Heap}:mr (e0 :: e1 :: e2 :: e3 :: e4 :: (b,o) :: h) b o:=.next .p4
theorem nA.p5 {e0:Bk×Ob} {e1:Bk×Ob} {e2:Bk×Ob} {e3:Bk×Ob} {e4:Bk×Ob} {b b':Bk} {o o':Ob} {h:Heap}:nA (e0 :: e1 :: e2 :: e3 :: e4 :: (b,o) :: h) b o b' o' (e0 :: e1 :: e2 :: e3 :: e4 :: (b',o') :: h):=.next .p4
theorem xU.p5 {e0:Bk×Ob} {e1:Bk×Ob} {e2:Bk×Ob} {e3:Bk×Ob} {e4:Bk×Ob} {b:Bk} {o:Ob} {h:Heap}:xU (e0 :: e1 :: e2 :: e3 :: e4 :: (b,o) :: h) b o (e0 :: e1 :: e2 :: e3 :: e4 :: h):=.next .p4
theorem mr.p6 {e0:Bk×Ob} {e1:Bk×Ob} {e2:Bk×Ob} {e3:Bk×Ob} {e4:Bk×Ob} {e5:Bk×Ob} {b:Bk} {o:Ob} {h:Heap}:mr (e0 :: e1 :: e2 :: e3 :: e4 :: e5 :: (b,o) :: h) b o:=.next .p5
theorem nA.p6 {e0:Bk×Ob} {e1:Bk×Ob} {e2:Bk×Ob} {e3:Bk×Ob} {e4:Bk×Ob} {e5:Bk×Ob} {b b':Bk} {o o':Ob} {h:Heap}:nA (e0 :: e1 :: e2 :: e3 :: e4 :: e5 :: (b,o) :: h) b o b' o' (e0 :: e1 :: e2 :: e3 :: e4 :: e5 :: (b',o') :: h):=.next .p5
theorem xU.p6 {e0:Bk×Ob} {e1:Bk×Ob} {e2:Bk×Ob} {e3:Bk×Ob} {e4:Bk×Ob} {e5:Bk×Ob} {b:Bk} {o:Ob} {h:Heap}:xU (e0 :: e1 :: e2 :: e3 :: e4 :: e5 :: (b,o) :: h) b o (e0 :: e1 :: e2 :: e3 :: e4 :: e5 :: h):=.next .p5
theorem mr.p7 {e0:Bk×Ob} {e1:Bk×Ob} {e2:Bk×Ob} {e3:Bk×Ob} {e4:Bk×Ob} {e5:Bk×Ob} {e6:Bk×Ob} {b:Bk} {o:Ob} {h:Heap}:mr (e0 :: e1 :: e2 :: e3 :: e4 :: e5 :: e6 :: (b,o) :: h) b o:=.next .p6
theorem nA.p7 {e0:Bk×Ob} {e1:Bk×Ob} {e2:Bk×Ob} {e3:Bk×Ob} {e4:Bk×Ob} {e5:Bk×Ob} {e6:Bk×Ob} {b b':Bk} {o o':Ob} {h:Heap}:nA (e0 :: e1 :: e2 :: e3 :: e4 :: e5 :: e6 :: (b,o) :: h) b o b' o' (e0 :: e1 :: e2 :: e3 :: e4 :: e5 :: e6 :: (b',o') :: h):=.next .p6
theorem xU.p7 {e0:Bk×Ob} {e1:Bk×Ob} {e2:Bk×Ob} {e3:Bk×Ob} {e4:Bk×Ob} {e5:Bk×Ob} {e6:Bk×Ob} {b:Bk} {o:Ob} {h:Heap}:xU (e0 :: e1 :: e2 :: e3 :: e4 :: e5 :: e6 :: (b,o) :: h) b o (e0 :: e1 :: e2 :: e3 :: e4 :: e5 :: e6 :: h):=.next .p6
section rules
variable {P:Program} {all:Array Oper} {rest:List Oper} {n:Nat} {tm:List (Nat×AV)} {hp:Heap} {Q:St→Prop} {d:Nat} {ty:TypeId} {pos:String} {af:Array Edge}
theorem rM {x:Operand} {av:AV} (hx:cZ tm x=some av) (hn:Nat.blt d n=true) (k:ah P all rest ⟨n,(d,av) :: tm,hp⟩ Q):ah P all (⟨some d,.move x,ty,pos,af,none⟩ :: rest) ⟨n,tm,hp⟩ Q:=ah.qv (ax hx) hn k
theorem rA {x:Operand} {av:AV} (hx:cZ tm x=some av) (hn:Nat.blt d n=true) (k:ah P all rest ⟨n,(d,av) :: tm,hp⟩ Q):ah P all (⟨some d,.assign x,ty,pos,af,none⟩ :: rest) ⟨n,tm,hp⟩ Q:=ah.qv (c0 hx) hn k
theorem rF {x:Operand} {s:TypeId} {j off:Nat} {b:Bk} {o o':Nat} [mI P s j off] (hx:cZ tm x=some (.ptr b o)) (ho:o+off=o') (hn:Nat.blt d n=true) (k:ah P all rest ⟨n,(d,.ptr b o') :: tm,hp⟩ Q):ah P all (⟨some d,.fieldAddr s x j,ty,pos,af,none⟩ :: rest) ⟨n,tm,hp⟩ Q:=ah.qv (au hx ho) hn k
theorem rL {t:TypeId} {D:TypeDesc} {x:Operand} {b:Bk} {o:Nat} {cs:List AV} {av:AV} [aD P t D] (hD:TypeDesc.iA D=false) (hx:cZ tm x=some (.ptr b o)) (f:mr hp b (.cells cs)) (ho:cs[o]? =some av) (hn:Nat.blt d n=true) (k:ah P all rest ⟨n,(d,av) :: tm,hp⟩ Q):ah P all (⟨some d,.load t x,ty,pos,af,none⟩ :: rest) ⟨n,tm,hp⟩ Q:=ah.qv (aB hD hx f ho) hn k
theorem rT {c x y:Operand} {av:AV} (hc:cZ tm c=some (.bool true)) (hx:cZ tm x=some av) (hn:Nat.blt d n=true) (k:ah P all rest ⟨n,(d,av) :: tm,hp⟩ Q):ah P all (⟨some d,.pick c x y,ty,pos,af,none⟩ :: rest) ⟨n,tm,hp⟩ Q:=ah.qv (jv hc hx) hn k
theorem rE {c x y:Operand} {av:AV} (hc:cZ tm c=some (.bool false)) (hx:cZ tm y=some av) (hn:Nat.blt d n=true) (k:ah P all rest ⟨n,(d,av) :: tm,hp⟩ Q):ah P all (⟨some d,.pick c x y,ty,pos,af,none⟩ :: rest) ⟨n,tm,hp⟩ Q:=ah.qv (iX hc hx) hn k
theorem rX {x:Operand} {i:Nat} {vs:List AV} {av:AV} (hx:cZ tm x=some (.nI vs)) (hi:vs[i]? =some av) (hn:Nat.blt d n=true) (k:ah P all rest ⟨n,(d,av) :: tm,hp⟩ Q):ah P all (⟨some d,.extract x i,ty,pos,af,none⟩ :: rest) ⟨n,tm,hp⟩ Q:=ah.qv (Hz hx hi) hn k
theorem rN (h:Q ⟨n,tm,hp⟩):ah P all [] ⟨n,tm,hp⟩ Q:=ah.nil h
theorem rG {op:Op} {j:Nat} {want b:Bool} {s:Nat} (hj:(all[j]?).bind (·.dst)=some s) (hs:lk tm s=some (.bool b)) (hb:b=!want) (hn:Nat.blt d n=true) (k:ah P all rest ⟨n,(d,.raw undef) :: tm,hp⟩ Q):ah P all (⟨some d,op,ty,pos,af,some (j,want)⟩ :: rest) ⟨n,tm,hp⟩ Q:=ah.aJ hj hs hb hn k
theorem rY {op:Op} {j:Nat} {want b:Bool} {s:Nat} (hj:(all[j]?).bind (·.dst)=some s) (hs:lk tm s=some (.bool b)) (hb:b=want) (k:ah P all (⟨some d,op,ty,pos,af,none⟩ :: rest) ⟨n,tm,hp⟩ Q):ah P all (⟨some d,op,ty,pos,af,some (j,want)⟩ :: rest) ⟨n,tm,hp⟩ Q:=ah.aF hj hs hb k
end rules
section rules
variable {P:Program} {R:St→Prop} {k:List It} {σ:St}
theorem tS {x y:Code} (h:ae P R (.code x :: .code y :: k) σ):ae P R (.code (.seq x y) :: k) σ:=ae.seq h
theorem tR {id:Nat} {l:List Oper} (h:ah P l.toArray l σ (ae P R k)):ae P R (.code (.region id l.toArray false) :: k) σ:=ae.region h
theorem aI {id:Nat} {l:List Oper} {y:Code} (h:ah P l.toArray l σ (ae P R (.code y :: k))):ae P R (.code (.seq (.region id l.toArray false) y) :: k) σ:=ae.seq (ae.region h)
theorem tK (h:ae P R k σ):ae P R (.code .skip :: k) σ:=ae.skip h
end rules
end Go.Eng
