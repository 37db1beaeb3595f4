/- The engine: abstract values, the symbolic heap, one rule for each operation. No program in sight. -/
import Derived.Test.YtjgdilohhcheoaaGreatDoorEngC
import Derived.Laws.BytesArg
import Derived.Shelf.SlSortCmp.NoneTotal
set_option linter.unusedVariables false
set_option linter.unusedSectionVars false
namespace Go.Eng
open Go
variable [bt]
def depth:Nat:=100000
section rules
variable {P:Program} {all:Array Oper} {rest:List Oper} {n:Nat} {tm:List (Nat×AV)} {hp:Heap} {Q:St→Prop} {d:Nat} {ty:TypeId} {pos:String} {af:Array Edge}
end rules
theorem D7 {w:World} {S:Nat→Prop} {hp bZ:Heap} {b:Bk} {sz k:Nat} {xs:List AV} (r:ck w S hp) (u:iw hp b (.arr sz xs) b (.arr sz (xs.take k)) bZ):ck w S bZ∧ic w S hp w S bZ:=by
 obtain ⟨pre,post,e1,e2⟩:=u.split
 subst e1;subst e2
 have hblk:∀ n,Has (pre++(b,Ob.arr sz (xs.take k)) :: post) n↔Has (pre++(b,Ob.arr sz xs) :: post) n:=by
  intro n
  constructor<;>rintro ⟨x,hx,hb⟩<;>rcases bg.1 hx with rfl | hx
  ·exact ⟨(b,.arr sz xs),bg.2 (.inl rfl),hb⟩
  ·exact ⟨x,bg.2 (.inr hx),hb⟩
  ·exact ⟨(b,.arr sz (xs.take k)),bg.2 (.inl rfl),hb⟩
  ·exact ⟨x,bg.2 (.inr hx),hb⟩
 refine ⟨⟨?_,?_,?_,r.slt,r.gq⟩,⟨rfl,rfl,rfl,Nat.le_refl _,fun n hn=>⟨hn,rfl⟩,fun n _ _=>⟨rfl,id⟩,fun n hn=>.inl ((hblk n).1 hn),fun _=>Nat.le_refl _⟩⟩
 ·have:=r.nodup
  simpa [List.flatMap_append,List.flatMap_cons,eb,Ob.more] using this
 ·intro x hx
  rcases bg.1 hx with rfl | hx
  ·obtain ⟨h0,h1,h2⟩:=r.holds (b,.arr sz xs) (bg.2 (.inl rfl))
   refine ⟨fun x hx=>h0 x (List.mem_of_mem_take hx),Nat.le_trans (by simp only [List.length_take];omega) h1,h2.imp id ?_⟩
   rintro ⟨n,vs,E,g1,g2,g3,g4⟩
   refine ⟨n,vs,E,g1,g2,g3,fun i c v hc hv=>?_⟩
   have hp:∃ t,flat xs=flat (xs.take k)++t:=⟨flat (xs.drop k),by
    show xs.flatMap AV.cells=(xs.take k).flatMap AV.cells++(xs.drop k).flatMap AV.cells
    rw [← List.flatMap_append,List.take_append_drop]⟩
   obtain ⟨t,ht⟩:=hp
   refine g4 i c v ?_ hv
   rw [ht,List.getElem?_append_left (List.getElem?_eq_some_iff.1 hc).1]
   exact hc
  ·exact r.holds x (bg.2 (.inr hx))
 ·intro x hx n hn
  rcases bg.1 hx with rfl | hx
  ·have:=r.sep (b,.arr sz xs) (bg.2 (.inl rfl)) n hn
   exact ⟨fun h=>(this.1 h).elim,fun h=>h.elim⟩
  ·exact r.sep x (bg.2 (.inr hx)) n hn
theorem aj.take {n k:Nat} {tm:List (Nat×AV)} {hp bZ:Heap} {T:St→Prop} {b:Bk} {sz:Nat} {xs:List AV} (u:iw hp b (.arr sz xs) b (.arr sz (xs.take k)) bZ) (kk:aj ⟨n,tm,bZ⟩ T):aj ⟨n,tm,hp⟩ T:=by
 refine aj.step (zr:=⟨n,tm,bZ⟩) (fun w S a r=>?_) kk
 obtain ⟨g1,g2⟩:=D7 r.hp u
 exact ⟨_,S,rfl,⟨r.size,r.defers,r.tm,g1⟩,g2⟩
section rules
variable {P:Program} {all:Array Oper} {rest:List Oper} {n:Nat} {tm:List (Nat×AV)} {hp:Heap} {Q:St→Prop} {d:Nat} {ty:TypeId} {pos:String} {af:Array Edge}
theorem zw {α:Type} {Xs V:List α} {L H:Int} (h:zY Xs L H=some V):V.length=H.toNat - L.toNat∧L.toNat+V.length≤Xs.length∧V=(Xs.drop L.toNat).take V.length:=by
 obtain ⟨⟨h0,h1,h2⟩,rfl⟩:=sv h
 have:((Xs.drop L.toNat).take (H.toNat - L.toNat)).length=H.toNat - L.toNat:=by simp;omega
 refine ⟨this,by rw [this];omega,by rw [this]⟩
theorem z8 {α:Type} {Xs Zs:List α} {t e:TypeId} {i:TypeInfo} {x:Operand} {lo hi:Option Operand} {l h:Option Int} {sz:Nat} {b:Bk} {L H:Int} [ay P t (.slice e)] [aP P e i] (hx:bY tm x=some (.sl sz b 0 Xs.length)) (eN:Nat.beq i.size sz=true) (hl:Fp tm lo l) (hh:Fp tm hi h)
 (eL:fh l=L) (eH:gu Xs.length h=H) (hv:zY Xs L H=some Zs):QV P ⟨some d,.slice t x lo hi none,ty,pos,af,none⟩ ⟨n,tm,hp⟩ (.sl sz b L.toNat Zs.length):=by
 obtain ⟨⟨h0,h1,h2⟩,_⟩:=sv hv
 have hlen:=(zw hv).1
 subst eL;subst eH
 have:=sU (P:=P) (d:=d) (ty:=ty) (pos:=pos) (af:=af) (n:=n) (tm:=tm) (hp:=hp) (t:=t) (e:=e) hx eN hl hh h0 h1 h2
 rw [Nat.zero_add] at this
 rw [hlen];exact this
theorem aj.Rg {α:Type} {g:α→AV} {Xs V:List α} {H:Int} {T:St→Prop} {b:Bk} {sz:Nat} {bZ:Heap} (hv:zY Xs 0 H=some V) (u:iw hp b (.arr sz (Xs.map g)) b (.arr sz (V.map g)) bZ) (kk:aj ⟨n,tm,bZ⟩ T):aj ⟨n,tm,hp⟩ T:=by
 refine aj.take (k:=V.length) (xs:=Xs.map g) (b:=b) (sz:=sz) ?_ kk
 rw [← List.map_take]
 have:=(zw hv).2.2
 simp only [Int.toNat_zero,List.drop_zero] at this
 rw [← this];exact u
end rules
inductive Bc (hp:Heap):AV→AV→Prop
 | co {a a':AV} (c:Co hp a a'):Bc hp a a'
 | agg (cs lB:List AV) (hl:lB.length=cs.length) (h:∀ (i:Nat) c c',cs[i]? =some c→lB[i]? =some c'→Bc hp c c'):Bc hp (.agg cs) (.agg lB)
 | mN (cs lB:List AV) (hl:lB.length=cs.length) (h:∀ (i:Nat) c c',cs[i]? =some c→lB[i]? =some c'→Bc hp c c'):Bc hp (.mN cs) (.mN lB)
 | list (sz:Nat) (xs ys:List AV) (hn:ys.length=xs.length) (hl:(flat ys).length=(flat xs).length) (he:∀ y∈ys,El sz y) (h:∀ (i:Nat) c c',(flat xs)[i]? =some c→(flat ys)[i]? =some c'→Bc hp c c'):Bc hp (.list sz xs) (.list sz ys)
inductive FH (hp:Heap):List AV→List AV→Prop
 | nil:FH hp [] []
 | cons {a a':AV} {l l':List AV} (c:Bc hp a a') (k:FH hp l l'):FH hp (a :: l) (a' :: l')
theorem Bc.r {hp:Heap} {a:AV}:Bc hp a a:=.co (.refl _)
theorem Bc.n {hp:Heap} {sz:Nat}:Bc hp .nil (.list sz []):=.co (.nil _)
theorem FH.each {hp:Heap}:∀ {l l':List AV},FH hp l l'→l'.length=l.length∧∀ (i:Nat) c c',l[i]? =some c→l'[i]? =some c'→Bc hp c c'
 | [],_,.nil=>⟨rfl,fun i c c' h=>by simp at h⟩
 | _ :: _,_,.cons c k=>by
   obtain ⟨g1,g2⟩:=FH.each k
   refine ⟨by simp [g1],fun i c1 c2 h1 h2=>?_⟩
   match i with
   | 0=>simp at h1 h2;subst h1;subst h2;assumption
   | i+1=>exact g2 i c1 c2 (by simpa using h1) (by simpa using h2)
theorem Bc.GO {hp:Heap} {sz:Nat} {xs ys:List AV} (k:FH hp (flat xs) (flat ys)) (hn:Nat.beq ys.length xs.length=true) (he:ub sz ys=true):Bc hp (.list sz xs) (.list sz ys):=
 .list sz xs ys (Nat.eq_of_beq_eq_true hn) k.each.1 (jy he) k.each.2
theorem Bc.at {w:World} {S:Nat→Prop} {hp:Heap} {a a':AV} {v:Value} (c:Bc hp a a') (r:ck w S hp) (h:At w S a v):At w S a' v:=by
 induction c generalizing v with
 | co c=>exact c.at r h
 | agg cs lB hl _ ih=>
   cases h with
   | agg _ vs h1 h2=>
     refine .agg lB vs (by rw [hl,h1]) (fun i c v hc hv=>?_)
     have hi:i < cs.length:=by rw [← hl];exact (List.getElem?_eq_some_iff.1 hc).1
     exact ih i cs[i] c (by simp [hi]) hc (h2 i _ _ (by simp [hi]) hv)
 | mN cs lB hl _ ih=>
   cases h with
   | mN _ vs h1 h2=>
     refine .mN lB vs (by rw [hl,h1]) (fun i c v hc hv=>?_)
     have hi:i < cs.length:=by rw [← hl];exact (List.getElem?_eq_some_iff.1 hc).1
     exact ih i cs[i] c (by simp [hi]) hc (h2 i _ _ (by simp [hi]) hv)
 | list sz xs ys hn hl he _ ih=>
   cases h with
   | list _ _ a cap vs g1 g2 g3 g4 g5=>
     rw [← hn]
     refine .list sz ys a cap vs he (by rw [hl,g2]) (fun i c v hc hv=>?_) g4 (by rw [hn];exact g5)
     have hi:i < (flat xs).length:=by rw [← hl];exact (List.getElem?_eq_some_iff.1 hc).1
     exact ih i (flat xs)[i] c (by simp [hi]) hc (g3 i _ _ (by simp [hi]) hv)
theorem aj.SP {n s:Nat} {tm:List (Nat×AV)} {hp:Heap} {T:St→Prop} {av dD:AV} (hs:lk tm s=some av) (c:Bc hp av dD) (k:aj ⟨n,(s,dD) :: tm,hp⟩ T):aj ⟨n,tm,hp⟩ T:=by
 refine aj.step (zr:=⟨n,(s,dD) :: tm,hp⟩) (fun w S a r=>⟨_,S,rfl,⟨r.size,r.defers,fun t av h=>?_,r.hp⟩,ic.refl _ _ _⟩) k
 simp only [lk] at h
 split at h
 ·rename_i hb
  obtain rfl:s=t:=by simpa using hb
  obtain rfl:=Option.some.inj h
  obtain ⟨v,h1,h2⟩:=r.tm s _ hs
  exact ⟨v,h1,c.at r.hp h2⟩
 ·exact r.tm t av h
def lF {R:Type} (n:Nat) (len:R→Nat) (x:Option R):Option R:=x.bind fun r=>if len r=n then some r else none
theorem kq {R:Type} {n:Nat} {len:R→Nat} {x:Option R} {r:R} (h:lF n len x=some r):x=some r:=by
 unfold lF at h
 cases x with
 | none=>cases h
 | some y=>
   simp only [Option.bind_some] at h
   split at h
   ·exact h
   ·cases h
theorem dn {R:Type} {n:Nat} {len:R→Nat} {x:Option R} {r:R} (h:lF n len x=some r):len r=n:=by
 unfold lF at h
 cases x with
 | none=>cases h
 | some y=>
   simp only [Option.bind_some] at h
   split at h
   ·rename_i hh;obtain rfl:=Option.some.inj h;exact hh
   ·cases h
theorem Aa {sz:Nat} {x:AV} (h:x.cells.length=sz):∀ (k i:Nat),i < k * sz→(flat (List.replicate k x))[i]? =x.cells[i % sz]?
 | 0,i,hi=>by simp at hi
 | k+1,i,hi=>by
   rw [List.replicate_succ,show flat (x :: List.replicate k x)=x.cells++flat (List.replicate k x) from rfl]
   by_cases iv:i < sz
   ·rw [List.getElem?_append_left (by omega),Nat.mod_eq_of_lt iv]
   ·rw [List.getElem?_append_right (by omega),h,Aa h k (i - sz) (by rw [Nat.add_mul] at hi;omega)]
    rw [Nat.mod_eq_sub_mod (a:=i) (by omega)]
section rules
variable {P:Program} {all:Array Oper} {rest:List Oper} {n:Nat} {tm:List (Nat×AV)} {hp:Heap} {Q:St→Prop} {d:Nat} {ty:TypeId} {pos:String} {af:Array Edge}
end rules
end Go.Eng
set_option linter.unusedSimpArgs false
namespace Go.Eng
open Go Go.Sort Go.Proofs
variable [bt]
structure Jx (P:Program) (f:FuncId) (k:Nat):Prop where
 some_:∀ (enc:Nat→List Value) (_:∀ x,(enc x).length=k) (_:∀ x,∀ v∈enc x,v.oneCell'=true) (cf:Nat→Nat→Int) (_:SWO (ltOf cf)) (g:Nat) (cb:Array Value) (cy off cap:Nat) (d:Array Nat) (w:World)
  (_:∀ args w,(callFunc g args).run P w=.ok (.enter g args) w) (_:CmpLays P g cb enc k cf cy off d.size w) (_:HoldsK enc k w cy off d) (_:cy < w.heap.size) (_:d.size < 4611686018427387904),
  Calls P f #[.slice (some ⟨cy,off,none⟩) d.size cap,.func (.func g) #[] cb] w fun e w'=>
   e=.returned (.tuple #[])∧∃ n os,w'=sortWorldK enc k w cy off n (pdq (ltOf cf) d 0 d.size (Lib.bitLen d.size) true true) os
 none_:∀ (p:Option Addr) (cap:Nat) (fv:Value) (w:World),Calls P f #[.slice p 0 cap,fv] w fun e w'=>e=.returned (.tuple #[])∧w'=w
def uX {α:Type} (x:α) (r:List α) (i:Nat):α:=(x :: r).getD i x
def vv {α:Type} (f:α→α→Option Int) (x:α) (r:List α) (i j:Nat):Int:=(f (uX x r i) (uX x r j)).getD 0
noncomputable def D8 {α:Type} (f:α→α→Option Int):List α→Option (List α)
 | []=>some []
 | x :: r=>@ite _ (r.length+1 < 4611686018427387904∧(∀ a∈x :: r,∀ b∈x :: r,∃ u,f a b=some u)∧SWO (ltOf (vv f x r))) (Classical.propDecidable _)
     (some ((pdq (ltOf (vv f x r)) (Array.range (r.length+1)) 0 (r.length+1) (Lib.bitLen (r.length+1)) true true).toList.map (uX x r))) none
theorem Ab {α:Type} (f:α→α→Option Int) (x:α) (r:List α):D8 f (x :: r)=@ite _ (r.length+1 < 4611686018427387904∧(∀ a∈x :: r,∀ b∈x :: r,∃ u,f a b=some u)∧SWO (ltOf (vv f x r))) (Classical.propDecidable _)
 (some ((pdq (ltOf (vv f x r)) (Array.range (r.length+1)) 0 (r.length+1) (Lib.bitLen (r.length+1)) true true).toList.map (uX x r))) none:=rfl
theorem jH {α:Type} (x:α) (r:List α) (i:Nat):uX x r i∈x :: r:=by
 unfold uX
 rw [List.getD_eq_getElem?_getD]
 rcases h:(x :: r)[i]? with _ | y
 ·simp
 ·exact List.mem_of_getElem? h
theorem wm (enc:Nat→List Value) (k:Nat) (w:World) (cy off m:Nat) (dk:Array Nat) (os:Array Obj) {n:Nat} (hn:n < w.heap.size) (tE:n≠cy):(sortWorldK enc k w cy off m dk os).heap[n]? =w.heap[n]?:=by
 unfold sortWorldK putRowK putRow
 rw [heap_grow_old _ _ (by simpa [mapBlock] using hn)]
 simp only [mapBlock,heap_ahead,Array.getElem?_modify]
 rw [if_neg (fun h=>tE h.symm)]
theorem Ac (enc:Nat→List Value) (k:Nat) (w:World) (cy off m:Nat) (dk:Array Nat) (os:Array Obj):w.heap.size≤(sortWorldK enc k w cy off m dk os).heap.size:=by
 unfold sortWorldK putRowK
 simp
theorem HM (enc:Nat→List Value) (k:Nat) (w:World) (cy m:Nat) (dk:Array Nat) (os:Array Obj) {vs:Array Value} {E:TypeId} (hb:w.heap[cy]? =some (.cells vs E (0,0))):(sortWorldK enc k w cy 0 m dk os).heap[cy]? =some (.cells (putCells id 0 (flatK enc k dk) vs) E (0,0)):=by
 have iv:cy < w.heap.size:=by
  rcases Nat.lt_or_ge cy w.heap.size with h | h
  ·exact h
  ·simp [Array.getElem?_eq_none h] at hb
 unfold sortWorldK putRowK putRow
 rw [heap_grow_old _ _ (by simpa [mapBlock] using iv)]
 simp only [mapBlock,heap_ahead,Array.getElem?_modify]
 rw [if_pos trivial,hb]
 rfl
theorem Ext.grown {w w':World} (hd:bt.dr) (e:Ext w w'):∃ q os,w'=grow (w.drewN q) os:=by
 refine ⟨w'.drawn - w.drawn,w'.heap.extract w.heap.size w'.heap.size,?_⟩
 obtain ⟨h',t',d',o',aa0⟩:=w'
 have e1:=e.os;have e2:=e.tape;have e3:=e.output;have e4:=e.drawn hd;have e5:=e.size;have e6:=e.same
 simp only at e1 e2 e3 e4 e5 e6
 subst e1 e2 e3
 unfold grow World.drewN
 simp only [World.mk.injEq,and_true,true_and]
 refine ⟨?_,by omega⟩
 apply Array.ext_getElem?
 intro i
 by_cases hi:i < w.heap.size
 ·rw [e6 i hi,Array.getElem?_append_left hi]
 ·rw [Array.getElem?_append_right (by omega),Array.getElem?_extract]
  by_cases h2:i < h'.size
  ·rw [if_pos (by omega)]
   congr 1;omega
  ·rw [if_neg (by omega),Array.getElem?_eq_none (by omega)]
theorem Ad {P:Program} {T:Type} {g:T→AV} {f:FuncId} {k:Nat} (K:Jx P f k) (Jy:Nat.blt 0 k=true) {gf:FuncId} [ba P gf] {C:List AV} {fn:T→T→Option Int} (LS:∀ {x y:T} {u:Int},fn x y=some u→@Pu pZ P gf (g x :: g y :: C) (I u))
 (Ul:∀ x,g x=.agg (g x).cells) {Xs Ys:List T} {b:Bk} (h:D8 fn Xs=some Ys):aG P f [.sl k b 0 Xs.length,.func (.func gf) C] [(b,.arr k (Xs.map g))] (T0 [(b,.arr k (Ys.map g))] (.mN [])):=by
 have Jy:0 < k:=Nat.lt_of_lt_of_le (Nat.lt_of_succ_le (Nat.le_of_ble_eq_true Jy)) (Nat.le_refl _)
 intro w S vs r hl ha
 obtain ⟨v0,v1,rfl⟩:∃ v0 v1,vs=#[v0,v1]:=by
  match vs,hl with
  | ⟨[v0,v1]⟩,_=>exact ⟨v0,v1,rfl⟩
 have a0:=ha 0 _ v0 rfl rfl
 have a1:=ha 1 _ v1 rfl rfl
 obtain ⟨oa,cap,rfl,e2⟩:=a0.nv
 obtain ⟨cv,rfl,xQ,hca⟩:=a1.zM
 match Xs,h with
 | [],h=>
   obtain rfl:=Option.some.inj h
   refine (K.none_ oa cap _ w).mono ?_
   rintro e w' ⟨rfl,rfl⟩
   exact ⟨_,.mN [],_,S,rfl,⟨rfl,rfl⟩,.mN [] #[] rfl (fun i c v hc=>by simp at hc),r,ic.refl _ _ _⟩
 | x :: xr,h=>
   rw [Ab] at h
   by_cases hc:(xr.length+1 < 4611686018427387904∧(∀ a∈x :: xr,∀ b∈x :: xr,∃ u,fn a b=some u)∧SWO (ltOf (vv fn x xr)))
   ·rw [if_pos hc] at h
    obtain rfl:=Option.some.inj h
    obtain ⟨hlen,Um,hO⟩:=hc
    obtain ⟨h0,h1,h2⟩:=r.holds _ (List.mem_singleton.2 rfl)
    simp only [List.length_map,List.length_cons] at h1
    rcases h2 with ⟨_,DR⟩ | ⟨m,row,E,hb,HF,eN,mO⟩
    ·have WJ:b.cap=0:=DR
     omega
    rcases e2 with ⟨hn,_,_,_,_⟩ | ⟨m',yB,rfl,hle,aa1⟩ | ⟨m',ad,_,_,QX,_⟩
    ·rw [hn] at hb;cases hb
    ·obtain rfl:m'=m:=by rw [yB] at hb;exact Option.some.inj hb
     have Un:m' < w.heap.size:=by
      rcases Nat.lt_or_ge m' w.heap.size with h | h
      ·exact h
      ·simp [Array.getElem?_eq_none h] at HF
     have nS:¬ S m':=fun hs=>by have:=(r.sep _ (List.mem_singleton.2 rfl) m' (kJ hb)).1 hs;exact this
     let ix:Nat→Nat:=fun i=>if i < xr.length+1 then i else 0
     have Lc:∀ i,ix i < xr.length+1:=fun i=>by simp only [ix];split<;>omega
     have Uo:∀ i,(x :: xr)[ix i]? =some (uX x xr i):=by
      intro i
      simp only [ix,uX,List.getD_eq_getElem?_getD]
      split
      ·rename_i hi
       rw [List.getElem?_eq_getElem (by simpa using hi)];simp
      ·rename_i hi
       rw [List.getElem?_eq_none (l:=x :: xr) (i:=i) (by simp;omega)];simp
     have SF:(xr.length+1) * k≤row.size:=by rw [eN];exact Nat.mul_le_mul_right k h1
     let enc:Nat→List Value:=fun i=>(row.toList.drop (ix i * k)).take k
     have LU:∀ i,(enc i).length=k:=by
      intro i
      have:ix i * k+k≤row.size:=by
       have:=Nat.mul_le_mul_right k (show ix i+1≤xr.length+1 from Lc i)
       rw [Nat.add_mul,Nat.one_mul] at this
       omega
      simp only [enc,List.length_take,List.length_drop,Array.length_toList];omega
     have Rh:∀ i j,j < k→(enc i)[j]? =row[ix i * k+j]?:=by
      intro i j hj
      simp only [enc,List.getElem?_take,if_pos hj,List.getElem?_drop,Array.getElem?_toList]
     have DY:∀ i j,j < k→(flat ((x :: xr).map g))[ix i * k+j]? =(g (uX x xr i)).cells[j]?:=by
      intro i j hj
      exact qE h0 (by rw [List.getElem?_map,Uo i];rfl) j hj
     have xQ:∀ i,(g (uX x xr i)).cells.length=k:=fun i=>(h0 _ (List.mem_map.2 ⟨_,jH x xr i,rfl⟩)).1
     have vY:∀ i,∀ c∈(g (uX x xr i)).cells,c.one=true:=fun i=>(h0 _ (List.mem_map.2 ⟨_,jH x xr i,rfl⟩)).2
     have Ot:∀ i,gC w S (g (uX x xr i)).cells (enc i).toArray:=by
      intro i j c v hc hv
      have hj:j < k:=by rw [← xQ i];exact (List.getElem?_eq_some_iff.1 hc).1
      refine mO (ix i * k+j) c v (by rw [DY i j hj];exact hc) ?_
      rw [← Rh i j hj]
      simpa using hv
     have Up:∀ i,∀ v∈enc i,v.oneCell'=true:=by
      intro i v hv
      obtain ⟨j,hj,rfl⟩:=List.getElem_of_mem hv
      have hjk:j < k:=by rw [LU i] at hj;exact hj
      have WK:j < (g (uX x xr i)).cells.length:=by rw [xQ i];exact hjk
      exact (Ot i j (g (uX x xr i)).cells[j] (enc i)[j] (by simp [WK]) (by simp [hj])).IW (vY i _ (List.getElem_mem WK))
     have uk:∀ (d:Array Nat) (t:Nat),t < d.size * k→(flatK enc k d)[t]! =(enc d[t / k]!)[t % k]!:=fun d t ht=>get_flatK enc k d t ht
     have Ri:HoldsK enc k w m' 0 (Array.range (xr.length+1)):=by
      intro j hj
      rw [size_flatK,Array.size_range] at hj
      have hdiv:j / k < xr.length+1:=(Nat.div_lt_iff_lt_mul Jy).2 hj
      have LV:j % k < k:=Nat.mod_lt _ Jy
      have SQ:j < row.size:=by omega
      have e1:(flatK enc k (Array.range (xr.length+1)))[j]! =row[j]:=by
       rw [uk _ _ (by simpa using hj)]
       have:(Array.range (xr.length+1))[j / k]! =j / k:=by
        rw [getElem!_pos _ _ (by simpa using hdiv)];simp
       rw [this]
       have hv:=Rh (j / k) (j % k) LV
       have:ix (j / k)=j / k:=by simp only [ix];rw [if_pos hdiv]
       rw [this,Nat.div_add_mod'] at hv
       rw [Array.getElem?_eq_getElem SQ] at hv
       rw [List.getElem!_eq_getElem?_getD,hv];rfl
      constructor
      ·simp only [World.cell?,HF,id,e1,Nat.zero_add,Option.isSome_none,Bool.false_eq_true,if_false]
       rw [Array.getElem?_eq_getElem SQ]
      ·simp [World.frozen?,HF]
     have Uq:CmpLays P gf cv enc k (vv fn x xr) m' 0 (Array.range (xr.length+1)).size w:=by
      intro mm os dk hdk i j
      obtain ⟨u,hu⟩:=Um _ (jH x xr i) _ (jH x xr j)
      have hW:∀ n,S n→S n∧(sortWorldK enc k w m' 0 mm dk os).heap[n]? =w.heap[n]?:=fun n hs=>
       ⟨hs,wm enc k w m' 0 mm dk os (r.slt n hs) (fun e=>nS (e▸hs))⟩
      have NC:gC (sortWorldK enc k w m' 0 mm dk os) S (g (uX x xr i) :: g (uX x xr j) :: C) (#[.agg (enc i).toArray,.agg (enc j).toArray]++cv):=by
       intro q c v hc hv
       have ag:∀ i,At (sortWorldK enc k w m' 0 mm dk os) S (g (uX x xr i)) (.agg (enc i).toArray):=fun i=>by
        rw [Ul (uX x xr i)]
        exact .agg _ _ (by rw [xQ i];simp [LU i]) (fun a c v hc hv=>((Ot i) a c v hc hv).mono hW)
       match q with
       | 0=>
         rw [Array.getElem?_append_left (by simp)] at hv
         simp at hc hv;subst hc;subst hv;exact ag i
       | 1=>
         rw [Array.getElem?_append_left (by simp)] at hv
         simp at hc hv;subst hc;subst hv;exact ag j
       | q+2=>
         simp only [List.getElem?_cons_succ] at hc
         rw [Array.getElem?_append_right (by simp)] at hv
         simp only [List.size_toArray,List.length_cons,List.length_nil,Nat.add_sub_cancel] at hv
         exact (hca q c v hc (by simpa using hv)).mono hW
      refine (LS hu _ S _ (@ss pZ _ _ (fun n hn=>Nat.lt_of_lt_of_le (r.slt n hn) (Ac _ _ _ _ _ _ _ _)) (fun g o ho=>⟨(r.gq g o ho).1,BN (hW g (r.gq g o ho).1).2 (r.gq g o ho).2⟩)) (by simp [xQ,‹C.length=cv.size›];omega) NC).mono ?_
      rintro e w' ⟨v,rr,h',S',rfl,hq,h3,h4,h5⟩
      obtain rfl:=hq
      rw [h3.ca]
      refine ⟨?_,@Ext.grown pZ _ _ trivial (@ic.DP pZ _ _ _ _ _ h5)⟩
      unfold vv
      rw [hu];rfl
     have SR:(Array.range (xr.length+1)).size=xr.length+1:=Array.size_range
     have ND:=K.some_ enc LU Up (vv fn x xr) hO gf cv m' 0 cap (Array.range (xr.length+1)) w (fun args w=>sT gf args w) Uq Ri Un (by rw [SR];exact hlen)
     rw [SR] at ND
     simp only [Nat.zero_mul]
     refine ND.mono ?_
     rintro e w' ⟨rfl,q,os,rfl⟩
     have Ou:=pdq_sorts (ltOf (vv fn x xr)) hO (Array.range (xr.length+1)) 0 (xr.length+1) (Lib.bitLen (xr.length+1)) true true (Nat.zero_le _) (by rw [SR];exact Nat.le_refl _) (Or.inl rfl)
     generalize vu:pdq (ltOf (vv fn x xr)) (Array.range (xr.length+1)) 0 (xr.length+1) (Lib.bitLen (xr.length+1)) true true=d' at Ou ⊢
     have LW:d'.size=xr.length+1:=by rw [Ou.1.1,SR]
     have hW:∀ n,S n→S n∧(sortWorldK enc k w m' 0 q d' os).heap[n]? =w.heap[n]?:=fun n hs=>
      ⟨hs,wm enc k w m' 0 q d' os (r.slt n hs) (fun e=>nS (e▸hs))⟩
     have PE:∀ y∈(d'.toList.map (uX x xr)).map g,El k y:=by
      intro y hy
      simp only [List.mem_map] at hy
      obtain ⟨z,⟨i,_,rfl⟩,rfl⟩:=hy
      exact h0 _ (List.mem_map.2 ⟨_,jH x xr i,rfl⟩)
     have hh:Go.Eng.Holds (sortWorldK enc k w m' 0 q d' os) S b (.arr k ((d'.toList.map (uX x xr)).map g)):=by
      refine ⟨PE,by simp [LW];omega,.inr ⟨m',_,E,hb,HM enc k w m' q d' os HF,by simp [putCells,eN],?_⟩⟩
      intro j c v hc hv
      have DH:j < (xr.length+1) * k:=by
       have:=(List.getElem?_eq_some_iff.1 hc).1
       rw [bA PE] at this
       simpa [LW] using this
      have hdiv:j / k < xr.length+1:=(Nat.div_lt_iff_lt_mul Jy).2 DH
      have LV:j % k < k:=Nat.mod_lt _ Jy
      have SQ:j < row.size:=by omega
      have hdj:(d'.toList.map (uX x xr))[j / k]? =some (uX x xr d'[j / k]!):=by
       rw [List.getElem?_map,Array.getElem?_toList,Array.getElem?_eq_getElem (by omega),getElem!_pos d' (j / k) (by omega)];rfl
      have Lp:(g (uX x xr d'[j / k]!)).cells[j % k]? =some c:=by
       rw [← qE (sz:=k) PE (i:=j / k) (x:=g (uX x xr d'[j / k]!)) (by rw [List.getElem?_map,hdj];rfl) (j % k) LV,Nat.div_add_mod']
       exact hc
      have SS:(enc d'[j / k]!)[j % k]? =some v:=by
       simp only [putCells,Array.getElem?_mapIdx,Array.getElem?_eq_getElem SQ,Option.map_some,Option.some.injEq] at hv
       rw [if_pos ⟨Nat.zero_le _,by rw [size_flatK,LW];omega⟩,Nat.sub_zero,uk d' j (by rw [LW];exact DH)] at hv
       have iv:j % k < (enc d'[j / k]!).length:=by rw [LU];exact LV
       rw [List.getElem?_eq_getElem iv,← hv]
       simp only [id,getElem!_pos (enc d'[j / k]!) (j % k) iv]
      exact (Ot _ _ _ _ Lp (by simpa using SS)).mono hW
     have Rj:=Ac enc k w m' 0 q d' os
     refine ⟨_,.mN [],_,S,rfl,⟨rfl,rfl⟩,.mN [] #[] rfl (fun i c v hc=>by simp at hc),⟨r.nodup,fun e he=>by rw [List.mem_singleton] at he;subst he;exact hh,fun e he n hn=>?_,fun n hn=>Nat.lt_of_lt_of_le (r.slt n hn) Rj,fun g o ho=>⟨(r.gq g o ho).1,BN (hW g (r.gq g o ho).1).2 (r.gq g o ho).2⟩⟩,?_⟩
     ·rw [List.mem_singleton] at he;subst he
      replace hn:=(vU rfl).1 hn
      rw [hb] at hn
      obtain rfl:=Option.some.inj hn
      exact ⟨fun hs=>(nS hs).elim,fun hf=>hf.elim⟩
     ·refine ⟨rfl,rfl,rfl,Rj,hW,fun n hn hnh=>⟨wm enc k w m' 0 q d' os hn (fun e=>hnh ⟨_,List.mem_singleton.2 rfl,by rw [e];exact kJ hb⟩),id⟩,?_,?_⟩
      ·rintro n ⟨e,he,rq⟩
       rw [List.mem_singleton] at he;subst he
       exact .inl ⟨_,List.mem_singleton.2 rfl,rq⟩
      ·intro _
       show w.drawn≤(sortWorldK enc k w m' 0 q d' os).drawn
       show w.drawn≤w.drawn+q
       omega
    ·simp at QX
   ·rw [if_neg hc] at h;cases h
end Go.Eng
namespace Go.Eng
open Go
variable [bt]
def GP {α:Type} (xs:List α) (L:Int) (n:Nat) (z:α):List α:=xs.take L.toNat++List.replicate n z++xs.drop (L.toNat+n)
theorem CR {α:Type} {xs v:List α} {L H:Int} {z:α} (h:zY xs L H=some v):(GP xs L v.length z).length=xs.length:=by
 obtain ⟨⟨h0,h1,h2⟩,_⟩:=sv h
 have:=(zw h).1
 unfold GP
 simp only [List.length_append,List.length_take,List.length_replicate,List.length_drop]
 omega
section rules
variable {P:Program} {all:Array Oper} {rest:List Oper} {n:Nat} {tm:List (Nat×AV)} {hp:Heap} {Q:St→Prop} {d:Nat} {ty:TypeId} {pos:String} {af:Array Edge}
theorem LX {t e:TypeId} {i:TypeInfo} {z:Value} {x:Operand} {b:Bk} {L N sz:Nat} {xs:List AV} {zx:AV} {bZ:Heap} [ay P t (.slice e)] [aP P e i] (hx:bY tm x=some (.sl sz b L N)) (hz:i.zero=some z) (NF:zO z=zx) (eN:Nat.beq i.size sz=true) (tF:PA sz zx=true) (wO:Nat.blt 0 sz=true) (hL:L+N≤xs.length)
 (u:iw hp b (.arr sz xs) b (.arr sz (xs.take L++List.replicate N zx++xs.drop (L+N))) bZ) (kk:ae P all rest ⟨n,tm,bZ⟩ Q):
 ae P all (⟨none,.call {callee:=.builtin .clear,args:=#[x],argTypes:=#[t]},ty,pos,af,none⟩ :: rest) ⟨n,tm,hp⟩ Q:=by
 have eN:=Nat.eq_of_beq_eq_true eN
 have wO:0 < sz:=Nat.lt_of_lt_of_le (Nat.lt_of_succ_le (Nat.le_of_ble_eq_true wO)) (Nat.le_refl _)
 have hE:=zQ tF
 refine ae.Dz rfl fun w S a r=>?_
 obtain ⟨oa,cap,e1,e2⟩:=(aN (σ:=⟨n,tm,hp⟩) r hx).nv
 rcases Nat.eq_zero_or_pos N with h0 | h0
 ·subst h0
  have qK:xs.take L++List.replicate 0 zx++xs.drop (L+0)=xs:=by simp
  rw [qK] at u
  obtain ⟨p,q,hq1,hq2⟩:=u.split
  obtain rfl:bZ=hp:=by rw [hq1,hq2]
  refine ⟨.tuple #[],w,S,⟨n,tm,bZ⟩,?_,r,ic.refl _ _ _,kk⟩
  cases oa<;>simp [execOp,e1,resolve,invoke,builtin,Builtin.clear_,run_underlying (ay.h (P:=P) (t:=t))]
 ·rcases e2 with ⟨_,_,hl,_,_⟩ | ⟨m,hb,rfl,h1,h2⟩ | ⟨_,_,_,_,hl,_⟩
  ·omega
  ·obtain ⟨g0,g1,⟨g2,_⟩ | ⟨m',vs,E,g2,g3,g4,g5⟩⟩:=jd r.hp (.inl u.lN)
   ·rw [g2] at hb;cases hb
   obtain rfl:m'=m:=by rw [g2] at hb;exact Option.some.inj hb
   obtain ⟨zl,WL⟩:=nO w S z (by rw [NF];exact hE.2)
   rw [NF] at zl WL
   have xR:z.cells.size=sz:=by rw [← zl];exact hE.1
   have SU:∀ y∈List.replicate N zx,El sz y:=fun y hy=>by rw [List.eq_of_mem_replicate hy];exact hE
   have Gt:(Builtin.zeroCells z.cells N).size=N * sz:=by rw [size_zeroCells,xR]
   have Gw:(flat (List.replicate N zx)).length=(Builtin.zeroCells z.cells N).size:=by rw [bA SU,Gt];simp
   have Rk:gC w S (flat (List.replicate N zx)) (Builtin.zeroCells z.cells N):=by
    intro j c v hc hv
    have hj:j < N * sz:=by
     have:=(List.getElem?_eq_some_iff.1 hc).1
     rw [bA SU] at this;simpa using this
    rw [Aa hE.1 N j hj] at hc
    refine WL (j % sz) c v hc ?_
    unfold Builtin.zeroCells at hv
    simp only [Array.getElem?_map,Option.map_eq_some_iff] at hv
    obtain ⟨q,hq,rfl⟩:=hv
    have:q=j:=by
     rw [Array.getElem?_eq_some_iff] at hq
     obtain ⟨k1,k2⟩:=hq
     simpa using k2.symm
    subst this
    rw [xR]
    have iv:q % sz < z.cells.size:=by rw [xR];exact Nat.mod_lt _ wO
    simp [iv]
   have vY:=sn Gw Rk (fun c hc=>by
    unfold flat at hc
    rw [List.mem_flatMap] at hc
    obtain ⟨y,hy,hcy⟩:=hc
    exact (SU y hy).2 c hcy)
   have Gu:=bA g0
   have hmul:(L+N) * sz≤xs.length * sz:=Nat.mul_le_mul_right _ hL
   have yJ:xs.length * sz≤b.cap * sz:=Nat.mul_le_mul_right _ g1
   rw [Nat.add_mul] at hmul
   have yC:=run_storeCells_at (P:=P) m' (L * sz) E (Builtin.zeroCells z.cells N).toList 0 vs w g3 (by simp [Gt];omega) vY
   simp only [Nat.add_zero] at yC
   have DY:flat (xs.take L++List.replicate N zx++xs.drop (L+N))=(flat xs).take (L * sz)++flat (List.replicate N zx)++(flat xs).drop (L * sz+(flat (List.replicate N zx)).length):=by
    rw [j8,j8,oO xs L g0,sq xs (L+N) g0,Gw,Gt,Nat.add_mul]
   have Jj:=fun (w':World) (ha:gC w' S (flat xs) vs) (hb:gC w' S (flat (List.replicate N zx)) (Builtin.zeroCells z.cells N))=>Gy (L * sz) (by rw [Gu,g4];exact yJ) ha Gw hb (by rw [Gw,Gt,Gu];omega)
   have zZ:(vs.toList.take (L * sz)++(Builtin.zeroCells z.cells N).toList++vs.toList.drop (L * sz+(Builtin.zeroCells z.cells N).toList.length)).toArray.size=b.cap * sz:=by
    simp [Gt];omega
   generalize (vs.toList.take (L * sz)++(Builtin.zeroCells z.cells N).toList++vs.toList.drop (L * sz+(Builtin.zeroCells z.cells N).toList.length)).toArray=vZ at yC Jj zZ
   have c:GB w (w.setRow m' vZ) b.cy:=⟨⟨rfl,rfl,rfl,by simp,fun k hk tE=>setRow_other w m' k _ (fun e=>tE (by rw [g2,e]))⟩,fun _=>Nat.le_refl _⟩
   have k1:∀ n,S n→S n∧(w.setRow m' vZ).heap[n]? =w.heap[n]?:=by
    intro k hk
    refine ⟨hk,setRow_other w m' k _ (fun e=>?_)⟩
    subst e
    exact (r.hp.sep _ u.lN.mem k (kJ g2)).1 hk
   have hh:=kj r.hp u c id id ⟨fun y hy=>?_,by simp;omega,.inr ⟨m',vZ,E,g2,setRow_heap w m' vs _ E _ g3,zZ,by rw [DY];exact Jj _ (g5.mono k1) (Rk.mono k1)⟩⟩ (.inl rfl)
   ·refine ⟨.tuple #[],w.setRow m' vZ,S,⟨n,tm,bZ⟩,?_,r.heap hh.2.2 hh.1,hh.2.1,kk⟩
    obtain ⟨N',rfl⟩:∃ k,N=k+1:=⟨N - 1,by omega⟩
    simp [execOp,e1,resolve,invoke,builtin,Builtin.clear_,run_underlying (ay.h (P:=P) (t:=t)),zeroValue,typeInfo,aP.h (P:=P) (t:=e),hz,yC]
   ·rcases List.mem_append.1 hy with h | h
    ·rcases List.mem_append.1 h with h | h
     ·exact g0 y (List.mem_of_mem_take h)
     ·exact SU y h
    ·exact g0 y (List.mem_of_mem_drop h)
  ·omega
theorem LY {α:Type} {g:α→AV} {Z:α} {Xs V:List α} {H:Int} {t e:TypeId} {i:TypeInfo} {z:Value} {x:Operand} {b:Bk} {L:Int} {sz:Nat} {bZ:Heap} [ay P t (.slice e)] [aP P e i] (hx:bY tm x=some (.sl sz b L.toNat V.length)) (hz:i.zero=some z) (NF:zO z=g Z) (eN:Nat.beq i.size sz=true) (tF:PA sz (g Z)=true) (wO:Nat.blt 0 sz=true) (hv:zY Xs L H=some V)
 (u:iw hp b (.arr sz (Xs.map g)) b (.arr sz ((GP Xs L V.length Z).map g)) bZ) (kk:ae P all rest ⟨n,tm,bZ⟩ Q):
 ae P all (⟨none,.call {callee:=.builtin .clear,args:=#[x],argTypes:=#[t]},ty,pos,af,none⟩ :: rest) ⟨n,tm,hp⟩ Q:=by
 obtain ⟨⟨h0,h1,h2⟩,_⟩:=sv hv
 have hlen:=(zw hv).1
 refine LX (xs:=Xs.map g) hx hz NF eN tF wO (by simp;omega) ?_ kk
 have:(GP Xs L V.length Z).map g=(Xs.map g).take L.toNat++List.replicate V.length (g Z)++(Xs.map g).drop (L.toNat+V.length):=by
  unfold GP
  simp
 rw [← this]
 exact u
end rules
end Go.Eng
namespace Go.Eng
open Go Go.Sort Go.Proofs
variable [bt]
theorem x7 {α:Type} {g:α→AV} (hc:∀ x,(g x).cells=[g x]):∀ xs:List α,flat (xs.map g)=xs.map g
 | []=>rfl
 | x :: r=>by rw [List.map_cons,iA,hc,x7 hc r];rfl
end Go.Eng
namespace Go.Eng
open Go
variable [bt]
def AV.Jz:AV→Bool
 | .sl _ _ _ _=>true
 | .ptr _ _=>true
 | .agg cs=>DN cs
 | v=>v.CH
def HN:List AV→Bool
 | []=>true
 | c :: r=>c.Jz&&HN r
def AV.PF:AV→Bool
 | .mN cs=>HN cs
 | .agg cs=>HN cs
 | v=>v.Jz
theorem zy {w:World} {S S':Nat→Prop} {av:AV} {v:Value} (h:At w S av v) (hn:av.Jz=true):At w S' av v:=by
 cases h with
 | agg cs vs hl h=>exact .agg cs vs hl fun i c u hc hu=>uf (h i c u hc hu) (ug hn c (List.mem_of_getElem? hc))
 | sl sz b off len n cap hb h1 h2=>exact .sl sz b off len n cap hb h1 h2
 | zI sz b hb=>exact .zI sz b hb
 | IG sz b off n ad hb=>exact .IG sz b off n ad hb
 | ptr b o n hb=>exact .ptr b o n hb
 | int k n=>exact .int k n
 | bool b=>exact .bool b
 | str s=>exact .str s
 | nil=>exact .nil
 | raw v=>exact .raw v
 | _=>simp [AV.Jz,AV.CH] at hn
theorem w7:∀ {cs:List AV},HN cs=true→∀ c∈cs,c.Jz=true
 | [],_,c,hc=>by simp at hc
 | x :: r,h,c,hc=>by
   simp only [HN,Bool.and_eq_true] at h
   rcases List.mem_cons.1 hc with rfl | hc
   ·exact h.1
   ·exact w7 h.2 c hc
theorem Ov {w:World} {S S':Nat→Prop} {av:AV} {v:Value} (h:At w S av v) (hn:av.PF=true):At w S' av v:=by
 cases av with
 | mN cs=>
   cases h with
   | mN _ vs hl h=>exact .mN cs vs hl fun i c u hc hu=>zy (h i c u hc hu) (w7 hn c (List.mem_of_getElem? hc))
 | agg cs=>
   cases h with
   | agg _ vs hl h=>exact .agg cs vs hl fun i c u hc hu=>zy (h i c u hc hu) (w7 hn c (List.mem_of_getElem? hc))
 | _=>exact zy h hn
def Ob.JA:Ob→Prop
 | .cells cs=>HN cs=true
 | .arr _ xs=>∀ x∈xs,DN x.cells=true
 | _=>False
inductive D9:Heap→Prop
 | nil:D9 []
 | cons {b:Bk} {o:Ob} {h:Heap} (c:o.JA) (k:D9 h):D9 ((b,o) :: h)
theorem D9.mem {h:Heap} (k:D9 h):∀ e∈h,e.2.JA:=by
 induction k with
 | nil=>intro e he;simp at he
 | cons c k ih=>
   intro e he
   rcases List.mem_cons.1 he with rfl | he
   ·exact c
   ·exact ih e he
theorem JA.qJ {α:Type} {g:α→AV} {sz:Nat} {Xs:List α} (h:∀ x,DN (g x).cells=true):(Ob.arr sz (Xs.map g)).JA:=fun x hx=>by
 obtain ⟨y,_,rfl⟩:=List.mem_map.1 hx
 exact h y
theorem Holds.PF {w:World} {S S':Nat→Prop} {b:Bk} {o:Ob} (h:Holds w S b o) (hn:o.JA):Holds w S' b o:=by
 cases o with
 | cells cs=>
   obtain ⟨h0,n,vs,E,h1,h2,h3,h4⟩:=h
   exact ⟨h0,n,vs,E,h1,h2,h3,fun i c v hc hv=>zy (h4 i c v hc hv) (w7 hn c (List.mem_of_getElem? hc))⟩
 | arr sz xs=>
   obtain ⟨h0,h1,h2⟩:=h
   refine ⟨h0,h1,h2.imp id ?_⟩
   rintro ⟨n,vs,E,g1,g2,g3,g4⟩
   refine ⟨n,vs,E,g1,g2,g3,fun i c v hc hv=>uf (g4 i c v hc hv) ?_⟩
   have hm:=List.mem_of_getElem? hc
   unfold flat at hm
   rw [List.mem_flatMap] at hm
   obtain ⟨x,hx,QK⟩:=hm
   exact ug (hn x hx) c QK
 | yW _ _=>exact hn.elim
 | mp _=>exact hn.elim
 | DC _ _=>exact hn.elim
 | QH _ _ _=>exact hn.elim
 | Dx _ _ _=>exact hn.elim
 | bS _=>exact hn.elim
 | Px _ _ _ _=>exact hn.elim
 | QI _ _=>exact hn.elim
 | QJ _=>exact hn.elim
section rules
variable {P:Program} {all:Array Oper} {rest:List Oper} {n:Nat} {tm:List (Nat×AV)} {hp:Heap} {Q:St→Prop} {d:Nat} {ty:TypeId} {pos:String} {af:Array Edge}
theorem GQ {f:FuncId} {args:List Operand} {ts:Array TypeId} {l l':List AV} {h0 hr:Heap} {Qc:AV→Heap→Prop} [ba P f] (hl:wN tm args=some l) (c:aG P f l' h0 Qc) (co:r6 hr l l') (hs:hp.Perm (h0++hr)) (hn:Nat.blt d n=true)
 (kk:∀ r h',Qc r h'→r.PF=true∧D9 h'∧ae P all rest ⟨n,(d,r) :: tm,h'++hr⟩ Q):ae P all (⟨some d,.call {callee:=.value (.func f),args:=args.toArray,argTypes:=ts},ty,pos,af,none⟩ :: rest) ⟨n,tm,hp⟩ Q:=by
 refine ae.Gq rfl fun w S a r=>⟨f,_,mQ a w,?_⟩
 obtain ⟨g1,g2⟩:=qH (σ:=⟨n,tm,hp⟩) r hl
 have rp:=r.hp.perm hs
 have Ow:ck w S hr:=rp.sub (List.sublist_append_right _ _)
 have NG:ck w S h0:=rp.sub (List.sublist_append_left _ _)
 obtain ⟨g3,g4⟩:=r6.at Ow co g1 g2
 have Ox:∀ m,Has h0 m→¬ Has hr m:=by
  rintro m ⟨x,hx,Bd⟩ ⟨y,hy,hym⟩
  have:=rp.nodup
  rw [List.flatMap_append,List.nodup_append] at this
  exact this.2.2 m (List.mem_flatMap.2 ⟨x,hx,Bd⟩) m (List.mem_flatMap.2 ⟨y,hy,hym⟩) rfl
 have rh:ck w (SB S hr) h0:=by
  refine ⟨NG.nodup,fun e he=>(NG.holds e he).mono (fun m hm=>⟨.inl hm,rfl⟩) (fun m _=>rfl),fun e he m hm=>?_,fun m hm=>?_,fun g o ho=>⟨.inl (NG.gq g o ho).1,(NG.gq g o ho).2⟩⟩
  ·constructor
   ·rintro (h | h)
    ·exact (NG.sep e he m hm).1 h
    ·exact (Ox m ⟨e,he,hm⟩ h).elim
   ·exact fun h=>.inl ((NG.sep e he m hm).2 h)
  ·rcases hm with h | h
   ·exact NG.slt m h
   ·exact Ow.lt h
 refine (c w (SB S hr) _ rh (by simpa using g3) g4).mono ?_
 rintro e w' ⟨v,res,h',S',rfl,hq,h3,h4,h5⟩
 obtain ⟨k1,k2,k3⟩:=kk res h' hq
 have Ur:∀ m,S m→(S' m∧(Has hr m→S m))∧w'.heap[m]? =w.heap[m]?:=fun m hm=>⟨⟨(h5.iX m (.inl hm)).1,fun _=>hm⟩,(h5.iX m (.inl hm)).2⟩
 have nJ:ck w' (fun m=>S' m∧(Has hr m→S m)) (h'++hr):=by
  refine ⟨?_,?_,?_,fun m hm=>h4.slt m hm.1,fun g o ho=>⟨⟨(h4.gq g o ho).1,fun _=>(NG.gq g o ho).1⟩,(h4.gq g o ho).2⟩⟩
  ·rw [List.flatMap_append,List.nodup_append]
   refine ⟨h4.nodup,Ow.nodup,fun x hx y hy Ht=>?_⟩
   subst Ht
   obtain ⟨e1,Oc,Lv⟩:=List.mem_flatMap.1 hx
   obtain ⟨e2,IX,SV⟩:=List.mem_flatMap.1 hy
   rcases h5.new x ⟨e1,Oc,Lv⟩ with h | h
   ·exact Ox x h ⟨e2,IX,SV⟩
   ·have:=Ow.lt ⟨e2,IX,SV⟩;omega
  ·intro e he
   rcases List.mem_append.1 he with he | he
   ·exact (h4.holds e he).PF (k2.mem e he)
   ·exact (Ow.holds e he).mono Ur (fun m hm=>(h5.iX m (.inr ⟨e,he,hm⟩)).2)
  ·intro e he m hm
   rcases List.mem_append.1 he with he | he
   ·rw [← h4.sep e he m hm]
    refine ⟨fun h=>h.1,fun h=>⟨h,fun hh=>?_⟩⟩
    rcases h5.new m ⟨e,he,hm⟩ with h6 | h6
    ·exact (Ox m h6 hh).elim
    ·have:=Ow.lt hh;omega
   ·rw [← Ow.sep e he m hm]
    exact ⟨fun h=>h.2 ⟨e,he,hm⟩,fun h=>⟨(h5.iX m (.inl h)).1,fun _=>h⟩⟩
 have LZ:∀ m,Has hp m↔Has h0 m∨Has hr m:=by
  intro m
  constructor
  ·rintro ⟨x,hx,hb⟩
   rcases List.mem_append.1 (hs.mem_iff.1 hx) with h | h
   ·exact .inl ⟨x,h,hb⟩
   ·exact .inr ⟨x,h,hb⟩
  ·rintro (⟨x,hx,hb⟩ | ⟨x,hx,hb⟩)
   ·exact ⟨x,hs.mem_iff.2 (List.mem_append_left _ hx),hb⟩
   ·exact ⟨x,hs.mem_iff.2 (List.mem_append_right _ hx),hb⟩
 refine ⟨v,fun m=>S' m∧(Has hr m→S m),⟨n,(d,res) :: tm,h'++hr⟩,rfl,(r.heap Ur nJ).put hn (Ov h3 k1),?_,k3⟩
 refine ⟨h5.os,h5.tape,h5.output,h5.size,Ur,fun m hm hh=>?_,fun m hm=>?_,h5.drawn⟩
 ·have n0:¬ Has h0 m:=fun h=>hh ((LZ m).2 (.inl h))
  have nr:¬ Has hr m:=fun h=>hh ((LZ m).2 (.inr h))
  obtain ⟨q1,q2⟩:=h5.other m hm n0
  refine ⟨q1,fun h=>?_⟩
  rcases q2 h.1 with h | h
  ·exact h
  ·exact (nr h).elim
 ·obtain ⟨x,hx,hb⟩:=hm
  rcases List.mem_append.1 hx with hx | hx
  ·rcases h5.new m ⟨x,hx,hb⟩ with h | h
   ·exact .inl ((LZ m).2 (.inl h))
   ·exact .inr h
  ·exact .inl ((LZ m).2 (.inr ⟨x,hx,hb⟩))
theorem Ea {sw:Type} {f:FuncId} {args:List Operand} {ts:Array TypeId} {l l':List AV} {h0 hr:Heap} {H H':sw→Heap} {V:sw→AV} [ba P f] (hl:wN tm args=some l) (c:aG P f l' h0 (T1 H V)) (hs:zu hp h0 hr) (co:r6 hr l l') (ha:∀ b,ou (H b) hr=some (H' b)) (hV:∀ b,(V b).PF=true) (hH:∀ b,D9 (H b)) (hn:Nat.blt d n=true)
 (kk:∀ b,ae P all rest ⟨n,(d,V b) :: tm,H' b⟩ Q):ae P all (⟨some d,.call {callee:=.value (.func f),args:=args.toArray,argTypes:=ts},ty,pos,af,none⟩ :: rest) ⟨n,tm,hp⟩ Q:=
 GQ hl c co hs.perm hn (fun r h' ⟨b,e1,e2⟩=>by subst e1;subst e2;rw [kp (ha b)];exact ⟨hV b,hH b,kk b⟩)
end rules
class yK (K:Type) where
 lt:K→K→Bool
instance:yK Int:=⟨fun a b=>decide (a < b)⟩
instance:yK Bool:=⟨fun a b=>!a&&b⟩
instance:yK (List UInt8):=⟨fun a b=>Op.bytesLess a b⟩
section plain
variable {K V:Type}
def qg [DecidableEq K] (m:List (K×V)) (k:K):List (K×V):=m.filter (fun e=>decide (e.1≠k))
def Bu [yK K] (k:K) (v:V):List (K×V)→List (K×V)
 | []=>[(k,v)]
 | e :: r=>if yK.lt e.1 k=true then e :: Bu k v r else (k,v) :: e :: r
def ny [DecidableEq K] [yK K] (m:List (K×V)) (k:K) (v:V):List (K×V):=Bu k v (qg m k)
def bI [DecidableEq K]:List (K×V)→K→Option V
 | [],_=>none
 | e :: r,k=>if e.1=k then some e.2 else bI r k
def vJ [DecidableEq K] (m:List (K×V)) (k:K) (z:V):Option V:=some ((bI m k).getD z)
def B6 [DecidableEq K] (m:List (K×V)) (k:K) (z:V):Option (V×Bool):=some ((bI m k).getD z,(bI m k).isSome)
theorem sx [yK K] (k:K) (v:V):∀ (m:List (K×V)),(Bu k v m).Perm ((k,v) :: m)
 | []=>List.Perm.refl _
 | e :: r=>by
   unfold Bu
   split
   ·exact (List.Perm.cons e (sx k v r)).trans (List.Perm.swap _ _ _)
   ·exact List.Perm.refl _
theorem s9 {α β:Type} (f:α→β):∀ (l:List β) (M:List α),l.Perm (M.map f)→∃ M':List α,M'.Perm M∧l=M'.map f
 | [],M,h=>by
   have:=h.nil_eq
   rw [eq_comm,List.map_eq_nil_iff] at this
   subst this;exact ⟨[],List.Perm.refl _,rfl⟩
 | x :: t,M,h=>by
   have hx:x∈M.map f:=h.mem_iff.1 (by simp)
   obtain ⟨e,he,rfl⟩:=List.mem_map.1 hx
   obtain ⟨p,q,rfl⟩:=List.append_of_mem he
   have h2:(f e :: t).Perm (f e :: (p++q).map f):=h.trans (by rw [List.map_append,List.map_cons,List.map_append];exact List.perm_middle)
   obtain ⟨M',h3,rfl⟩:=s9 f t (p++q) (List.Perm.cons_inv h2)
   exact ⟨e :: M',(List.Perm.cons e h3).trans List.perm_middle.symm,rfl⟩
theorem Ae [DecidableEq K] {k:K} {v:V}:∀ {m:List (K×V)},bI m k=some v→(k,v)∈m
 | [],h=>by cases h
 | e :: r,h=>by
   unfold bI at h
   split at h
   ·rename_i hk
    obtain rfl:=Option.some.inj h
    subst hk;simp
   ·exact List.mem_cons_of_mem _ (Ae h)
theorem um [DecidableEq K] {k:K} {v:V}:∀ {m:List (K×V)},(m.map Prod.fst).Nodup→(k,v)∈m→bI m k=some v
 | [],_,h=>by simp at h
 | e :: r,hn,h=>by
   rw [List.map_cons,List.nodup_cons] at hn
   unfold bI
   rcases List.mem_cons.1 h with rfl | h
   ·simp
   ·rw [if_neg (fun hk=>hn.1 (List.mem_map.2 ⟨_,h,hk.symm⟩))]
    exact um hn.2 h
theorem vc [DecidableEq K] {k:K}:∀ {m:List (K×V)},bI m k=none↔∀ e∈m,e.1≠k
 | []=>by simp [bI]
 | e :: r=>by
   unfold bI
   split
   ·rename_i hk;simp [hk]
   ·rename_i hk
    rw [vc (m:=r)]
    simp [hk]
theorem qx [DecidableEq K] {m m':List (K×V)} (hp:m'.Perm m) (hn:(m'.map Prod.fst).Nodup) (k:K):bI m' k=bI m k:=by
 have LR:(m.map Prod.fst).Nodup:=(hp.map _).nodup_iff.1 hn
 cases h:bI m' k with
 | none=>
   symm
   rw [vc] at h ⊢
   exact fun e he=>h e (hp.mem_iff.2 he)
 | some v=>exact (um LR (hp.mem_iff.1 (Ae h))).symm
theorem B7 [DecidableEq K] {m:List (K×V)} {k:K} (h:bI m k=none):qg m k=m:=by
 rw [vc] at h
 unfold qg
 exact List.filter_eq_self.2 fun e he=>by simpa using h e he
end plain
noncomputable def tA {E A:Type} (es:List E) (g:List E→Option A):Option A:=
 open Classical in if h:∃ r,∀ p,p.Perm es→g p=some r then some h.choose else none
theorem FJ {E A:Type} {es:List E} {g:List E→Option A} {r:A} (h:tA es g=some r):∀ p,p.Perm es→g p=some r:=by
 unfold tA at h
 split at h
 ·rename_i hx
  obtain rfl:=Option.some.inj h
  exact hx.choose_spec
 ·cases h
theorem JB {E A:Type} {es:List E} {g:List E→Option A} {r:A} (h:∀ p,p.Perm es→g p=some r):tA es g=some r:=by
 unfold tA
 have hx:∃ r,∀ p,p.Perm es→g p=some r:=⟨r,h⟩
 rw [dif_pos hx]
 have:=hx.choose_spec es (List.Perm.refl _)
 rw [h es (List.Perm.refl _)] at this
 exact this.symm
def oH {E S A:Type} (b:E→S→Option (S⊕A)) (f:S→Option A):List E→S→Option A
 | [],s=>f s
 | e :: p,s=>(b e s).bind (after (oH b f p))
theorem Eb {E S A:Type} {b:E→S→Option (S⊕A)} {f:S→Option A} {rest vK:List E} {e:E} {s:S} {a:A} (h:∀ p,p.Perm rest→oH b f p s=some a) (hp:rest.Perm (e :: vK)):
 ∃ z,b e s=some z∧(∀ y,z=.inl y→∀ p,p.Perm vK→oH b f p y=some a)∧∀ a',z=.inr a'→a'=a:=by
 have h1:=h (e :: vK) hp.symm
 unfold oH at h1
 obtain ⟨z,hz,h2⟩:=Ua h1
 refine ⟨z,hz,fun y hy p hq=>?_,fun a' ha=>?_⟩
 ·have h3:=h (e :: p) ((List.Perm.cons e hq).trans hp.symm)
  unfold oH at h3
  rw [hz,hy] at h3
  exact h3
 ·rw [ha] at h2
  exact Option.some.inj h2
theorem JC {E S A:Type} {b:E→S→Option (S⊕A)} {f:S→Option A} {rest:List E} {s:S} {a:A} (h:∀ p,p.Perm rest→oH b f p s=some a) (hn:rest=[]):f s=some a:=by
 subst hn;exact h [] (List.Perm.refl _)
theorem aa.w8 {P:Program} {R:St→Prop} {k:List It} {σ:St} {body:Code} {E S A:Type} (b:E→S→Option (S⊕A)) (f:S→Option A) (mk:List E→S→St→Prop) {a:A} {GR:List E} {s0:S} (h:tA GR (fun p=>oH b f p s0)=some a) (h0:aj σ (mk GR s0))
 (hs:∀ rest s σ (J:St→Prop),mk rest s σ→(∀ p,p.Perm rest→oH b f p s=some a)→(∀ vK s' aK,vK.length < rest.length→(∀ p,p.Perm vK→oH b f p s'=some a)→aj aK (mk vK s')→J aK)→aa P R (.code body :: .stop J :: k) σ):
 aa P R (.code (.loop body) :: k) σ:=by
 refine aa.Nv (fun m σ=>∃ rest s,rest.length=m∧(∀ p,p.Perm rest→oH b f p s=some a)∧mk rest s σ) GR.length (h0.mono fun aK Ub=>⟨GR,s0,rfl,FJ h,Ub⟩) ?_
 rintro m zr ⟨rest,s,hm,hH,iV⟩
 refine hs rest s zr _ iV hH (fun vK s' aK hl Rl hi=>⟨vK.length,by omega,hi.mono fun Fy hk=>⟨vK,s',rfl,Rl,hk⟩⟩)
def uo {K:Type} [DecidableEq K] (k:K):List K→List MapEntry→Nat→Option (Nat×Value)
 | k' :: ks,e :: es,i=>if k'=k then some (i,e.val) else uo k ks es (i+1)
 | _,_,_=>none
class il (P:Program) (t:TypeId) {K:Type} [DecidableEq K] (g:K→AV):Prop where
 inj:∀ a b,g a=g b→a=b
 check:∀ {w:World} {S:Nat→Prop} {k:K} {v:Value},At w S (g k) v→∀ (b:Bool) (w1:World),(Instr.checkKey b 10000 t v).run P w1=.ok () w1
 find:∀ {w:World} {S:Nat→Prop} {k:K} {v:Value},At w S (g k) v→∀ (es:List MapEntry) (ks:List K),ks.length=es.length→(∀ (i:Nat) k' e,ks[i]? =some k'→es[i]? =some e→At w S (g k') e.key)→∀ w1:World,(Instr.findKey t v es).run P w1=.ok (uo k ks es 0) w1
 bits:∀ {w:World} {S:Nat→Prop} {k:K} {v u:Value},At w S (g k) v→At w S (g k) u→Instr.sameBits 10000 v u=true
theorem vd {K:Type} [DecidableEq K] {d:TypeDesc} {v:Value} {k:K} {q:K→Value→Prop} (hq:∀ k' u,q k' u→Instr.sameNow d v u=some (decide (k'=k))):∀ (es:List MapEntry) (ks:List K) (i:Nat),ks.length=es.length→(∀ (i:Nat) k' e,ks[i]? =some k'→es[i]? =some e→q k' e.key)→Instr.findNow d v es i=some (uo k ks es i)
 | [],[],i,_,_=>rfl
 | [],k' :: ks,i,hl,_=>by simp at hl
 | e :: es,[],i,hl,_=>by simp at hl
 | e :: es,k' :: ks,i,hl,h=>by
   unfold Instr.findNow uo
   rw [hq k' e.key (h 0 k' e rfl rfl)]
   by_cases hk:k'=k
   ·simp [hk]
   ·simp only [hk,decide_false,if_false]
    exact vd hq es ks (i+1) (by simpa using hl) (fun i k' e h1 h2=>h (i+1) k' e (by simpa using h1) (by simpa using h2))
theorem FK (a b:ByteArray):((a==b)=true)↔a=b:=by
 cases a with
 | mk a=>
   cases b with
   | mk b=>
     show (a==b)=true↔_
     rw [beq_iff_eq]
     exact ⟨fun h=>by rw [h],fun h=>by cases h;rfl⟩
theorem il.int {P:Program} {t:TypeId} {q:IntKind} (h:P.underlying t=some (.int q)):il P t (K:=Int) (fun n=>AV.int q n) where
 inj a b h:=by simpa using h
 check:=fun {w S k v} hv b w1=>by
  rw [hv.ca]
  have key:∀ n:Nat,(Instr.checkKey b (n+1) t (Value.int q k)).run P w1=.ok () w1:=fun n=>by simp [Instr.checkKey,run_underlying h]
  exact key 9999
 find:=fun {w S k v} hv es ks hl hk w1=>by
  rw [hv.ca]
  have hf:=vd (d:=(.int q)) (v:=(Value.int q k)) (k:=k) (q:=fun k' u=>u=(Value.int q k')) (fun k' u hu=>by subst hu;simp only [Instr.sameNow,if_true];congr 1;rw [Bool.eq_iff_iff];simp;exact eq_comm) es ks 0 hl (fun i k' e h1 h2=>(hk i k' e h1 h2).ca)
  simp [Instr.findKey,run_underlying h,hf]
 bits:=fun {w S k v u} h1 h2=>by rw [h1.ca,h2.ca];simp [Instr.sameBits]
theorem il.bool {P:Program} {t:TypeId} (h:P.underlying t=some .bool):il P t (K:=Bool) AV.bool where
 inj a b h:=by simpa using h
 check:=fun {w S k v} hv b w1=>by
  rw [hv.iJ]
  have key:∀ n:Nat,(Instr.checkKey b (n+1) t (Value.bool k)).run P w1=.ok () w1:=fun n=>by simp [Instr.checkKey,run_underlying h]
  exact key 9999
 find:=fun {w S k v} hv es ks hl hk w1=>by
  rw [hv.iJ]
  have hf:=vd (d:=.bool) (v:=(Value.bool k)) (k:=k) (q:=fun k' u=>u=(Value.bool k')) (fun k' u hu=>by subst hu;simp only [Instr.sameNow];congr 1;rw [Bool.eq_iff_iff];simp;exact eq_comm) es ks 0 hl (fun i k' e h1 h2=>(hk i k' e h1 h2).iJ)
  simp [Instr.findKey,run_underlying h,hf]
 bits:=fun {w S k v u} h1 h2=>by rw [h1.iJ,h2.iJ];simp [Instr.sameBits]
theorem il.str {P:Program} {t:TypeId} (h:P.underlying t=some .string):il P t (K:=List UInt8) AV.str where
 inj a b h:=by simpa using h
 check:=fun {w S k v} hv b w1=>by
  rw [hv.cI]
  have key:∀ n:Nat,(Instr.checkKey b (n+1) t (Value.string ⟨k.toArray⟩)).run P w1=.ok () w1:=fun n=>by simp [Instr.checkKey,run_underlying h]
  exact key 9999
 find:=fun {w S k v} hv es ks hl hk w1=>by
  rw [hv.cI]
  have hf:=vd (d:=.string) (v:=(Value.string ⟨k.toArray⟩)) (k:=k) (q:=fun k' u=>u=(Value.string ⟨k'.toArray⟩)) (fun k' u hu=>by subst hu;simp only [Instr.sameNow];congr 1;rw [Bool.eq_iff_iff,FK];simp;exact eq_comm) es ks 0 hl (fun i k' e h1 h2=>(hk i k' e h1 h2).cI)
  simp [Instr.findKey,run_underlying h,hf]
 bits:=fun {w S k v u} h1 h2=>by rw [h1.cI,h2.cI];simp only [Instr.sameBits];exact (FK _ _).2 rfl
instance {P:Program} {t:TypeId} [h:ay P t (.int .i64)]:il P t (K:=Int) I:=il.int h.h
instance {P:Program} {t:TypeId} [h:ay P t .bool]:il P t (K:=Bool) AV.bool:=il.bool h.h
instance {P:Program} {t:TypeId} [h:ay P t .string]:il P t (K:=List UInt8) AV.str:=il.str h.h
theorem fl {P:Program} {w:World} {r:Nat} {es:Array MapEntry} {c:Nat} (h:w.heap[r]? =some (.map es c)):(getObj r).run P w=.ok (.map es c) w:=by
 simp only [getObj,Sem.run,h]
theorem yL {P:Program} {w:World} {r:Nat} {m:Option Nat} {a b:Nat} {s:Array Nat} (h:w.heap[r]? =some (.mapIter m a s b)):(getObj r).run P w=.ok (.mapIter m a s b) w:=by
 simp only [getObj,Sem.run,h]
def vw (w:World) (r:Nat) (o:Obj):World:={w with heap:=w.heap.setIfInBounds r o}
theorem ta {P:Program} {w:World} {r:Nat} {es:Array MapEntry} {c:Nat} (o:Obj) (h:w.heap[r]? =some (.map es c)):(setObj r o).run P w=.ok () (vw w r o):=by
 simp only [setObj,Sem.run,h];rfl
theorem Ec {P:Program} {w:World} {r:Nat} {m:Option Nat} {a b:Nat} {s:Array Nat} (o:Obj) (h:w.heap[r]? =some (.mapIter m a s b)):(setObj r o).run P w=.ok () (vw w r o):=by
 simp only [setObj,Sem.run,h];rfl
theorem sy {w:World} {r:Nat} {o o':Obj} (h:w.heap[r]? =some o'):(vw w r o).heap[r]? =some o:=by
 have iv:r < w.heap.size:=(Array.getElem?_eq_some_iff.1 h).1
 simp [vw,Array.getElem?_setIfInBounds,iv]
theorem Af {w:World} {r k:Nat} {o:Obj} (h:k≠r):(vw w r o).heap[k]? =w.heap[k]?:=by
 simp [vw,Array.getElem?_setIfInBounds,Ne.symm h]
theorem L0 {w:World} {r:Nat} {o:Obj} {x:Option Nat} (hx:x=some r):GB w (vw w r o) x:=
 ⟨⟨rfl,rfl,rfl,by simp [vw],fun k hk tE=>Af (fun e=>tE (by rw [hx,e]))⟩,fun _=>Nat.le_refl _⟩
theorem ve (w:World) (x:Option Nat):GB w w x:=⟨⟨rfl,rfl,rfl,Nat.le_refl _,fun _ _ _=>rfl⟩,fun _=>Nat.le_refl _⟩
theorem Ext.heap {w w':World} {n:Nat} {o:Obj} (e:Ext w w') (h:w.heap[n]? =some o):w'.heap[n]? =some o:=by
 rw [e.same n (Array.getElem?_eq_some_iff.1 h).1];exact h
theorem At.mT {w:World} {S:Nat→Prop} {b:Bk} {v:Value} (h:At w S (.cd b) v):∃ n,b.cy=some n∧v=.map (some n):=by cases h with | cd _ n hb=>exact ⟨n,hb,rfl⟩
theorem JD (w:World) (S:Nat→Prop) (z:Value) (h1:jv (zO z).cells=true):At w S (zO z) z:=by
 by_cases hz:∃ cs,z=.agg cs
 ·obtain ⟨cs,rfl⟩:=hz
  obtain ⟨h2,h3⟩:=nO w S (.agg cs) (dc h1)
  exact .agg _ _ h2 h3
 ·have Gt:zO z=Nl z:=by
   cases z<;>first | rfl | (exact (hz ⟨_,rfl⟩).elim)
  rw [Gt];exact Cz w S z
theorem tc {K V:Type} {gk:K→AV} {gv:V→AV} {w:World} {S:Nat→Prop} {hp:Heap} {b:Bk} {M:List (K×V)} (L4:∀ a b,gk a=gk b→a=b) (r:ck w S hp) (f:lj hp b (.mp (M.map fun e=>(gk e.1,gv e.2)))):
 ∃ (L:List lM) (c:Nat) (M':List (K×V)) (n:Nat) (ee:Array MapEntry),M'.Perm M∧L.map lM.kv=M'.map (fun e=>(gk e.1,gv e.2))∧sR w S b L c∧b.cy=some n∧w.heap[n]? =some (.map ee c)∧ee.toList.length=M'.length∧
   (∀ (i:Nat) e m,M'[i]? =some e→ee.toList[i]? =some m→At w S (gk e.1) m.key∧At w S (gv e.2) m.val)∧(M'.map Prod.fst).Nodup:=by
 obtain ⟨L,c,kO,hH⟩:=r.holds _ f.mem
 obtain ⟨M',h1,h2⟩:=s9 _ _ _ kO
 have Rl:=hH
 obtain ⟨n,ee,g1,g2,g3,g4,g5,g6,g7⟩:=hH
 have hlen:L.length=M'.length:=by have:=congrArg List.length h2;simpa using this
 refine ⟨L,c,M',n,ee,h1,h2,Rl,g1,g2,by rw [Array.length_toList,g3,hlen],fun i e m he hm=>?_,?_⟩
 ·have:(L.map lM.kv)[i]? =some (gk e.1,gv e.2):=by rw [h2,List.getElem?_map,he];rfl
  rw [List.getElem?_map] at this
  cases hL:L[i]? with
  | none=>rw [hL] at this;cases this
  | some x=>
    rw [hL] at this
    have hx:(x.k,x.v)=(gk e.1,gv e.2):=Option.some.inj this
    obtain ⟨q1,q2⟩:=Prod.mk.inj hx
    have:=g4 i x m hL (by simpa using hm)
    rw [q1,q2] at this
    exact this.2
 ·have hk:L.map (·.k)=(M'.map Prod.fst).map gk:=by
   have:=congrArg (List.map Prod.fst) h2
   simpa [List.map_map,Function.comp_def,lM.kv] using this
  rw [hk] at g7
  exact (List.pairwise_map.1 g7).imp (fun h e=>h (by rw [e]))
theorem Ag {α:Type} {l:List α} {j:Nat} {x:α} (h:l[j]? =some x):l.set j x=l:=by
 apply List.ext_getElem?
 intro i
 rw [List.getElem?_set]
 by_cases Ba:j=i
 ·subst Ba
  have:=(List.getElem?_eq_some_iff.1 h).1
  rw [if_pos rfl,if_pos this,h]
 ·simp [Ba]
theorem td {K V:Type} [DecidableEq K] {gv:V→AV} {w:World} {S:Nat→Prop} {k:K}:∀ (M:List (K×V)) (es:List MapEntry) (i:Nat),M.length=es.length→(∀ (j:Nat) e m,M[j]? =some e→es[j]? =some m→At w S (gv e.2) m.val)→
 (bI M k=none∧uo k (M.map Prod.fst) es i=none)∨∃ v j val,bI M k=some v∧uo k (M.map Prod.fst) es i=some (i+j,val)∧At w S (gv v) val∧M[j]? =some (k,v)
 | [],[],i,_,_=>.inl ⟨rfl,rfl⟩
 | [],m :: es,i,hl,_=>by simp at hl
 | e :: M,[],i,hl,_=>by simp at hl
 | e :: M,m :: es,i,hl,h=>by
   unfold bI
   simp only [List.map_cons,uo]
   by_cases hk:e.1=k
   ·simp only [hk,if_true]
    refine .inr ⟨e.2,0,m.val,rfl,rfl,h 0 e m rfl rfl,?_⟩
    subst hk;rfl
   ·simp only [hk,if_false]
    rcases td M es (i+1) (by simpa using hl) (fun j e' m' h1 h2=>h (j+1) e' m' (by simpa using h1) (by simpa using h2)) with ⟨h1,h2⟩ | ⟨v,j,val,h1,h2,h3,h4⟩
    ·exact .inl ⟨h1,h2⟩
    ·exact .inr ⟨v,j+1,val,h1,by rw [h2];congr 2;omega,h3,by simpa using h4⟩
section rules
variable {P:Program} {all:Array Oper} {rest:List Oper} {n:Nat} {tm:List (Nat×AV)} {hp:Heap} {Q:St→Prop} {d:Nat} {ty:TypeId} {pos:String} {af:Array Edge}
theorem nD {t:TypeId} (hn:Nat.blt d n=true) (kk:∀ b:Bk,ae P all rest ⟨n,(d,.cd b) :: tm,(b,.mp []) :: hp⟩ Q):ae P all (⟨some d,.makeMap t none,ty,pos,af,none⟩ :: rest) ⟨n,tm,hp⟩ Q:=by
 refine ae.Dz rfl fun w S a r=>?_
 have hh:Holds (w.alloc (.map #[] 0)) S ⟨some w.heap.size,0⟩ (.mp []):=⟨[],0,List.Perm.refl _,w.heap.size,#[],rfl,by show (w.heap.push _)[w.heap.size]? =_;simp,rfl,by simp,by simp,by simp,by simp⟩
 obtain ⟨k1,k2,k3⟩:=o4 r.hp (Ext.alloc w (.map #[] 0)) id hh (.inr ⟨_,rfl,Nat.le_refl _⟩)
 exact ⟨.map (some w.heap.size),w.alloc (.map #[] 0),S,_,by simp [execOp,Instr.makeMap],(r.heap k3 k1).put hn (.cd _ _ rfl),k2,kk ⟨some w.heap.size,0⟩⟩
theorem uq {K V:Type} [DecidableEq K] {gk:K→AV} {gv:V→AV} {M:List (K×V)} {key:K} {Z v:V} {t kt vt:TypeId} {i:TypeInfo} {z:Value} {x y:Operand} {b:Bk} {av:AV} [ay P t (.map kt vt)] [aP P vt i] [il P kt gk] (hx:bY tm x=some (.cd b)) (hy:bY tm y=some (gk key)) (f:lj hp b (.mp (M.map fun e=>(gk e.1,gv e.2)))) (hz:i.zero=some z) (NF:zO z=gv Z) (h1:jv (zO z).cells=true) (h:vJ M key Z=some v) (ll:gv v=av):
 QV P ⟨some d,.lookup t x y false,ty,pos,af,none⟩ ⟨n,tm,hp⟩ av:=by
 intro w S a r
 have kx:=aN (σ:=⟨n,tm,hp⟩) r hx
 have ky:=aN (σ:=⟨n,tm,hp⟩) r hy
 obtain ⟨nb,hb,ex⟩:=kx.mT
 obtain ⟨L,c,M',Be,ee,p1,p2,p3,p4,p5,p6,p7,p8⟩:=tc (il.inj P kt) r.hp f
 obtain rfl:Be=nb:=by rw [p4] at hb;exact Option.some.inj hb
 unfold vJ at h
 have hv:=Option.some.inj h
 rw [← qx p1 p8] at hv
 have qL:=il.find (P:=P) (t:=kt) (g:=gk) ky ee.toList (M'.map Prod.fst) (by simpa using p6.symm) (fun j k' e h1 h2=>by
  rw [List.getElem?_map] at h1
  cases hm:M'[j]? with
  | none=>rw [hm] at h1;cases h1
  | some q=>rw [hm] at h1;rw [← Option.some.inj h1];exact (p7 j q e hm h2).1)
 rcases td (gv:=gv) (w:=w) (S:=S) (k:=key) M' ee.toList 0 p6.symm (fun j e m h1 h2=>(p7 j e m h1 h2).2) with ⟨q1,q2⟩ | ⟨v',j,val,q1,q2,q3,_⟩
 ·refine ⟨z,fun w1 e1=>?_,?_⟩
  ·simp [execOp,Instr.lookup,ex,run_underlying (ay.h (P:=P) (t:=t)),fl (e1.heap p5),il.check (P:=P) (t:=kt) ky,qL,q2,zeroValue,typeInfo,aP.h (P:=P) (t:=vt),hz]
  ·rw [← ll,← hv,q1,Option.getD_none,← NF];exact JD w S z h1
 ·refine ⟨val,fun w1 e1=>?_,?_⟩
  ·simp [execOp,Instr.lookup,ex,run_underlying (ay.h (P:=P) (t:=t)),fl (e1.heap p5),il.check (P:=P) (t:=kt) ky,qL,q2]
  ·rw [← ll,← hv,q1,Option.getD_some];exact q3
theorem B8 {K V:Type} [DecidableEq K] {gk:K→AV} {gv:V→AV} {M:List (K×V)} {key:K} {Z:V} {v:V×Bool} {t kt vt:TypeId} {i:TypeInfo} {z:Value} {x y:Operand} {b:Bk} {av:AV} [ay P t (.map kt vt)] [aP P vt i] [il P kt gk] (hx:bY tm x=some (.cd b)) (hy:bY tm y=some (gk key)) (f:lj hp b (.mp (M.map fun e=>(gk e.1,gv e.2)))) (hz:i.zero=some z) (NF:zO z=gv Z) (h1:jv (zO z).cells=true) (h:B6 M key Z=some v) (ll:gv v.1=av):
 QV P ⟨some d,.lookup t x y true,ty,pos,af,none⟩ ⟨n,tm,hp⟩ (.mN [av,.bool v.2]):=by
 intro w S a r
 have kx:=aN (σ:=⟨n,tm,hp⟩) r hx
 have ky:=aN (σ:=⟨n,tm,hp⟩) r hy
 obtain ⟨nb,hb,ex⟩:=kx.mT
 obtain ⟨L,c,M',Be,ee,p1,p2,p3,p4,p5,p6,p7,p8⟩:=tc (il.inj P kt) r.hp f
 obtain rfl:Be=nb:=by rw [p4] at hb;exact Option.some.inj hb
 unfold B6 at h
 have hv:=Option.some.inj h
 rw [← qx p1 p8] at hv
 have qL:=il.find (P:=P) (t:=kt) (g:=gk) ky ee.toList (M'.map Prod.fst) (by simpa using p6.symm) (fun j k' e h1 h2=>by
  rw [List.getElem?_map] at h1
  cases hm:M'[j]? with
  | none=>rw [hm] at h1;cases h1
  | some q=>rw [hm] at h1;rw [← Option.some.inj h1];exact (p7 j q e hm h2).1)
 rcases td (gv:=gv) (w:=w) (S:=S) (k:=key) M' ee.toList 0 p6.symm (fun j e m h1 h2=>(p7 j e m h1 h2).2) with ⟨q1,q2⟩ | ⟨v',j,val,q1,q2,q3,_⟩
 ·refine ⟨.tuple #[z,.bool false],fun w1 e1=>?_,?_⟩
  ·simp [execOp,Instr.lookup,ex,run_underlying (ay.h (P:=P) (t:=t)),fl (e1.heap p5),il.check (P:=P) (t:=kt) ky,qL,q2,zeroValue,typeInfo,aP.h (P:=P) (t:=vt),hz]
  ·rw [← ll,← hv,q1]
   refine .mN _ _ rfl (CA ?_ (.bool _))
   rw [Option.getD_none,← NF];exact JD w S z h1
 ·refine ⟨.tuple #[val,.bool true],fun w1 e1=>?_,?_⟩
  ·simp [execOp,Instr.lookup,ex,run_underlying (ay.h (P:=P) (t:=t)),fl (e1.heap p5),il.check (P:=P) (t:=kt) ky,qL,q2]
  ·rw [← ll,← hv,q1]
   exact .mN _ _ rfl (CA q3 (.bool _))
theorem sA {w:World} {S:Nat→Prop} {hp bZ:Heap} {b:Bk} {m:Nat} {o o':Ob} {ob old:Obj} (r:ck w S hp) (u:iw hp b o b o' bZ) (hb:b.cy=some m) (ho:w.heap[m]? =some old) (hf:¬ o.yA) (TP:¬ o'.yA) (hh:(∀ n,S n→S n∧(vw w m ob).heap[n]? =w.heap[n]?)→Holds (vw w m ob) S b o') (hm:o'.more=[]:=by rfl):
 ck (vw w m ob) S bZ∧ic w S hp (vw w m ob) S bZ∧∀ n,S n→S n∧(vw w m ob).heap[n]? =w.heap[n]?:=by
 have k1:∀ n,S n→S n∧(vw w m ob).heap[n]? =w.heap[n]?:=fun k hk=>⟨hk,Af (fun e=>by
  subst e
  exact hf ((r.sep _ u.lN.mem _ (kJ hb)).1 hk))⟩
 exact kj r u (L0 hb) hf TP (hh k1) (.inl rfl) hm
theorem jl {K V:Type} [DecidableEq K] [yK K] {gk:K→AV} {gv:V→AV} {M:List (K×V)} {key:K} {v:V} {t kt vt:TypeId} {x y z:Operand} {b:Bk} {av:AV} {bZ:Heap} [ay P t (.map kt vt)] [il P kt gk] (hx:bY tm x=some (.cd b)) (hy:bY tm y=some (gk key)) (hz:bY tm z=some av) (ll:av=gv v) (u:iw hp b (.mp (M.map fun e=>(gk e.1,gv e.2))) b (.mp ((ny M key v).map fun e=>(gk e.1,gv e.2))) bZ)
 (kk:ae P all rest ⟨n,tm,bZ⟩ Q):ae P all (⟨none,.mapUpdate t x y z,ty,pos,af,none⟩ :: rest) ⟨n,tm,hp⟩ Q:=by
 refine ae.act rfl rfl (fun w S a r=>?_) kk
 have kx:=aN (σ:=⟨n,tm,hp⟩) r hx
 have ky:=aN (σ:=⟨n,tm,hp⟩) r hy
 have kz:=aN (σ:=⟨n,tm,hp⟩) r hz
 obtain ⟨nb,hb,ex⟩:=kx.mT
 obtain ⟨L,c,M',Be,ee,p1,p2,p3,p4,p5,p6,p7,p8⟩:=tc (il.inj P kt) r.hp u.lN
 obtain rfl:Be=nb:=by rw [p4] at hb;exact Option.some.inj hb
 have qL:=il.find (P:=P) (t:=kt) (g:=gk) ky ee.toList (M'.map Prod.fst) (by simpa using p6.symm) (fun j k' e h1 h2=>by
  rw [List.getElem?_map] at h1
  cases hm:M'[j]? with
  | none=>rw [hm] at h1;cases h1
  | some q=>rw [hm] at h1;rw [← Option.some.inj h1];exact (p7 j q e hm h2).1)
 obtain ⟨Oy,oI,g1,g2,g3,g4,g5,g6,g7⟩:=p3
 obtain rfl:Oy=Be:=by rw [p4] at g1;exact (Option.some.inj g1).symm
 obtain rfl:oI=ee:=by rw [p5] at g2;exact (Obj.map.inj (Option.some.inj g2)).1.symm
 have WM:L.length=M'.length:=by have:=congrArg List.length p2;simpa using this
 have SX:∀ (j:Nat) (x:lM) (e:K×V),L[j]? =some x→M'[j]? =some e→x.k=gk e.1∧x.v=gv e.2:=by
  intro j x e h1 h2
  have:(L.map lM.kv)[j]? =(M'.map fun e=>(gk e.1,gv e.2))[j]?:=by rw [p2]
  rw [List.getElem?_map,List.getElem?_map,h1,h2] at this
  exact Prod.mk.inj (Option.some.inj this)
 rcases td (gv:=gv) (w:=w) (S:=S) (k:=key) M' oI.toList 0 p6.symm (fun j e m h1 h2=>(p7 j e m h1 h2).2) with ⟨q1,q2⟩ | ⟨v',j,val,q1,q2,q3,q4⟩
 ·
  have hw:=sA (ob:=.map (oI.push ⟨a.eval y,a.eval z,c⟩) (c+1)) r.hp u p4 p5 id id (fun k1=>by
   refine ⟨L++[⟨gk key,gv v,c⟩],c+1,?_,Oy,oI.push ⟨a.eval y,a.eval z,c⟩,p4,sy p5,by simp [g3],?_,?_,?_,?_⟩
   ·rw [List.map_append,p2]
    refine List.Perm.trans ?_ ((sx key v (qg M key)).symm.map _)
    rw [B7 (by rw [← qx p1 p8];exact q1)]
    exact List.perm_append_comm.trans (List.Perm.cons _ (p1.map _))
   ·intro i e m he hm
    rw [Array.getElem?_push] at hm
    rcases Nat.lt_or_ge i L.length with hi | hi
    ·rw [List.getElem?_append_left hi] at he
     rw [if_neg (by omega)] at hm
     obtain ⟨s1,s2,s3⟩:=g4 i e m he hm
     exact ⟨s1,s2.mono k1,s3.mono k1⟩
    ·have DU:i=L.length:=by
      have:=(List.getElem?_eq_some_iff.1 he).1
      simp at this;omega
     subst DU
     rw [if_pos g3.symm] at hm
     simp at he
     obtain rfl:=Option.some.inj hm
     subst he
     exact ⟨rfl,ky.mono k1,by rw [ll] at kz;exact kz.mono k1⟩
   ·intro e he
    rcases List.mem_append.1 he with h | h
    ·have:=g5 e h;omega
    ·simp at h;subst h;simp
   ·rw [List.map_append,List.nodup_append]
    refine ⟨g6,by simp,fun a1 ha b1 Lv zv=>?_⟩
    simp at Lv
    subst Lv
    obtain ⟨e,he,rfl⟩:=List.mem_map.1 ha
    have:=g5 e he
    omega
   ·rw [List.map_append,List.nodup_append]
    refine ⟨g7,by simp,fun a1 ha b1 Lv zv=>?_⟩
    simp at Lv
    subst Lv
    obtain ⟨e,he,rfl⟩:=List.mem_map.1 ha
    obtain ⟨j,hj⟩:=List.getElem?_of_mem he
    have DH:j < M'.length:=by rw [← WM];exact (List.getElem?_eq_some_iff.1 hj).1
    have:=(SX j e M'[j] hj (List.getElem?_eq_getElem DH)).1
    rw [this] at zv
    exact (vc.1 q1) M'[j] (List.getElem_mem DH) (il.inj P kt _ _ zv))
  refine ⟨_,S,?_,r.heap hw.2.2 hw.1,hw.2.1⟩
  simp [execOp,Instr.mapUpdate,ex,run_underlying (ay.h (P:=P) (t:=t)),fl p5,il.check (P:=P) (t:=kt) ky,qL,q2,ta _ p5]
 ·
  have DH:j < oI.toList.length:=by rw [p6];exact (List.getElem?_eq_some_iff.1 q4).1
  have GA:j < oI.size:=by simpa using DH
  have hm0:oI.toList[j]? =some oI[j]:=by simp [GA]
  have Jy:=(p7 j _ _ q4 hm0).1
  have Rm:Instr.sameBits 10000 oI[j].key (a.eval y)=true:=il.bits (P:=P) (t:=kt) Jy ky
  have PG:j < L.length:=by omega
  have hw:=sA (ob:=.map (oI.modify j fun e=>{e with key:=a.eval y,val:=a.eval z}) c) r.hp u p4 p5 id id (fun k1=>by
   refine ⟨L.set j ⟨gk key,gv v,L[j].born⟩,c,?_,Oy,_,p4,sy p5,by simp [g3],?_,?_,?_,?_⟩
   ·rw [List.map_set]
    refine List.Perm.trans ?_ ((sx key v (qg M key)).symm.map _)
    have e1:(L.map lM.kv).set j (gk key,gv v)=(M'.set j (key,v)).map fun e=>(gk e.1,gv e.2):=by rw [p2,List.map_set]
    show ((L.map lM.kv).set j (gk key,gv v)).Perm _
    rw [e1]
    refine List.Perm.map _ ?_
    have PH:j < M'.length:=by omega
    have e2:M'=M'.take j++(key,v') :: M'.drop (j+1):=by
     have:=List.take_append_drop j M'
     rw [List.drop_eq_getElem_cons PH] at this
     have hq:M'[j]=(key,v'):=by rw [List.getElem?_eq_getElem PH] at q4;exact Option.some.inj q4
     rw [hq] at this
     exact this.symm
    have e3:M'.set j (key,v)=M'.take j++(key,v) :: M'.drop (j+1):=by
     rw [List.set_eq_take_append_cons_drop,if_pos PH]
    rw [e3]
    refine List.perm_middle.trans (List.Perm.cons _ ?_)
    have e4:qg M' key=M'.take j++M'.drop (j+1):=by
     have L5:=p8
     rw [e2,List.map_append,List.map_cons,List.nodup_append,List.nodup_cons] at L5
     unfold qg
     rw [e2,List.filter_append,List.filter_cons]
     simp only [ne_eq,not_true_eq_false,decide_false,Bool.false_eq_true,if_false]
     rw [← e2]
     congr 1
     ·refine List.filter_eq_self.2 fun e he=>?_
      simp only [decide_not,Bool.not_eq_true',decide_eq_false_iff_not]
      intro hk
      exact L5.2.2 e.1 (List.mem_map.2 ⟨e,he,rfl⟩) key (by simp) hk
     ·refine List.filter_eq_self.2 fun e he=>?_
      simp only [decide_not,Bool.not_eq_true',decide_eq_false_iff_not]
      intro hk
      exact L5.2.1.1 (List.mem_map.2 ⟨e,he,hk⟩)
    rw [← e4]
    exact p1.filter _
   ·intro i e m he hm
    rw [Array.getElem?_modify] at hm
    rw [List.getElem?_set] at he
    by_cases Ba:j=i
    ·subst Ba
     simp only [if_true,PG] at he
     simp only [if_true,Array.getElem?_eq_getElem GA,Option.map_some] at hm
     obtain rfl:=Option.some.inj he
     obtain rfl:=Option.some.inj hm
     refine ⟨(g4 j L[j] oI[j] (List.getElem?_eq_getElem PG) (Array.getElem?_eq_getElem GA)).1,ky.mono k1,by rw [ll] at kz;exact kz.mono k1⟩
    ·rw [if_neg Ba] at he hm
     obtain ⟨s1,s2,s3⟩:=g4 i e m he hm
     exact ⟨s1,s2.mono k1,s3.mono k1⟩
   ·intro e he
    rcases List.mem_or_eq_of_mem_set he with h | h
    ·exact g5 e h
    ·subst h;exact g5 L[j] (List.getElem_mem PG)
   ·rw [List.map_set]
    have:(L.map (·.born)).set j L[j].born=L.map (·.born):=by
     exact Ag (by rw [List.getElem?_map,List.getElem?_eq_getElem PG];rfl)
    rw [this];exact g6
   ·rw [List.map_set]
    have:(L.map (·.k)).set j (gk key)=L.map (·.k):=by
     have hk:=(SX j L[j] _ (List.getElem?_eq_getElem PG) q4).1
     exact Ag (by rw [List.getElem?_map,List.getElem?_eq_getElem PG,Option.map_some,hk])
    rw [this];exact g7)
  refine ⟨_,S,?_,r.heap hw.2.2 hw.1,hw.2.1⟩
  simp [execOp,Instr.mapUpdate,ex,run_underlying (ay.h (P:=P) (t:=t)),fl p5,il.check (P:=P) (t:=kt) ky,qL,q2,Instr.keyThatStays,GA,Rm,ta _ p5]
theorem JE {K V:Type} [DecidableEq K] [yK K] {gk:K→AV} {gv:V→AV} {M:List (K×V)} {key:K} {v:V} {t kt vt:TypeId} {x y z:Operand} {b:Bk} {av:AV} {bZ:Heap} [ay P t (.map kt vt)] [il P kt gk] (hx:bY tm x=some (.cd b)) (hy:bY tm y=some (gk key)) (hz:bY tm z=some av) (ll:av=gv v) (u:iw hp b (.mp (M.map fun e=>(gk e.1,gv e.2))) b (.mp ((ny M key v).map fun e=>(gk e.1,gv e.2))) bZ)
 (kk:ae P all rest ⟨n,tm,bZ⟩ Q):ae P all (⟨none,.insert t x y z,ty,pos,af,none⟩ :: rest) ⟨n,tm,hp⟩ Q:=by
 intro w S a r
 have:=jl (all:=all) (rest:=rest) (ty:=ty) (pos:=pos) (af:=af) (t:=t) (kt:=kt) (vt:=vt) (gk:=gk) (gv:=gv) hx hy hz ll u kk w S a r
 unfold wpList at this ⊢
 exact this
end rules
def sB (L:List lM) (c:Nat) (seen:List Nat) (rest:List (AV×AV)):Prop:=((L.filter (fun e=>!seen.contains e.born)).map lM.kv).Perm rest
def Rn (L:List lM) (seen:List Nat) (e:AV×AV):Prop:=∃ x∈L,seen.getLast? =some x.born∧x.kv=e
theorem find_born {L:List lM} (hn:(L.map (·.born)).Nodup) {x:lM} (hx:x∈L) {w:World} {S:Nat→Prop} {ee:Array MapEntry} (hl:ee.size=L.length) (h:∀ (i:Nat) e m,L[i]? =some e→ee[i]? =some m→m.born=e.born∧At w S e.k m.key∧At w S e.v m.val):
 ∃ m,ee.find? (·.born==x.born)=some m∧At w S x.k m.key∧At w S x.v m.val:=by
 obtain ⟨j,hj⟩:=List.getElem?_of_mem hx
 have DH:j < L.length:=(List.getElem?_eq_some_iff.1 hj).1
 have GA:j < ee.size:=by omega
 have mO:=h j x ee[j] hj (Array.getElem?_eq_getElem GA)
 cases hf:ee.find? (·.born==x.born) with
 | none=>
   rw [Array.find?_eq_none] at hf
   exact absurd (by simpa using mO.1) (hf ee[j] (Array.getElem_mem GA))
 | some m=>
   have hb:m.born=x.born:=by have:=Array.find?_some hf;simpa using this
   have hm:=Array.mem_of_find?_eq_some hf
   obtain ⟨i,hi,rfl⟩:=Array.getElem_of_mem hm
   have jj:i < L.length:=by omega
   have SV:=(h i L[i] ee[i] (List.getElem?_eq_getElem jj) (Array.getElem?_eq_getElem hi)).1
   have Ba:i=j:=by
    have e1:(L.map (·.born))[i]? =some x.born:=by rw [List.getElem?_map,List.getElem?_eq_getElem jj,Option.map_some,← SV,hb]
    have e2:(L.map (·.born))[j]? =some x.born:=by rw [List.getElem?_map,hj];rfl
    exact (List.getElem?_inj (by simpa using jj) hn).1 (e1.trans e2.symm)
   subst Ba
   exact ⟨_,rfl,mO.2⟩
theorem Ed {P:Program} {w:World} {r m c:Nat} {seen:Array Nat} {ee xS:Array MapEntry} {ty:TypeId} (g:w.heap[r]? =some (.mapIter (some m) c seen c)) (p:w.heap[m]? =some (.map ee c)) (L6:(!seen.isEmpty&&!ee.isEmpty&&ee.all (fun e=>decide (e.born≥c)))=false)
 (hl:(ee.filter fun e=>!seen.contains e.born)=xS) (ho:xS.filter (fun e=>decide (e.born < c))=xS) (hn:xS.filter (fun e=>decide (e.born≥c))=#[]):
 (Instr.next (.pointer (some ⟨r,0,none⟩)) false ty).run P w=((choose (.mapNext ((if xS.isEmpty then #[none] else #[])++(xS++#[]).map some).size)).run P w).andThen fun i w'=>
  (match ((if xS.isEmpty then #[none] else #[])++(xS++#[]).map some)[i]? with
  | some (some e)=>(do setObj r (.mapIter (some m) c (seen.push e.born) c);pure (.tuple #[.bool true,e.key,e.val]):Sem Value)
  | some none=>pure (.tuple #[.bool false])
  | none=>stuck "Next: no such candidate").run P w':=by
 subst hl
 unfold Instr.next
 simp only [Sem.run_bind,yL g,fl p,Result.andThen_ok,L6,ho,hn,Bool.false_eq_true,if_false,Sem.run_pure]
 rfl
section rules
variable {P:Program} {all:Array Oper} {rest:List Oper} {n:Nat} {tm:List (Nat×AV)} {hp:Heap} {Q:St→Prop} {d:Nat} {ty:TypeId} {pos:String} {af:Array Edge}
theorem B9 {K V:Type} {gk:K→AV} {gv:V→AV} {M:List (K×V)} {t kt vt:TypeId} {x:Operand} {b:Bk} [ay P t (.map kt vt)] (hx:bY tm x=some (.cd b)) (f:lj hp b (.mp (M.map fun e=>(gk e.1,gv e.2)))):
 QV P ⟨some d,.call {callee:=.builtin .len,args:=#[x],argTypes:=#[t]},ty,pos,af,none⟩ ⟨n,tm,hp⟩ (.int .i64 (M.length:Nat)):=by
 intro w S a r
 obtain ⟨nb,hb,ex⟩:=(aN (σ:=⟨n,tm,hp⟩) r hx).mT
 obtain ⟨L,c,kO,Be,ee,g1,g2,g3,_⟩:=r.hp.holds _ f.mem
 obtain rfl:Be=nb:=by rw [g1] at hb;exact Option.some.inj hb
 have hl:ee.size=M.length:=by have:=kO.length_eq;simp at this;omega
 refine ⟨.int .i64 (M.length:Nat),fun w1 e1=>?_,.int _ _⟩
 simp [execOp,ex,resolve,invoke,builtin,Builtin.len_,run_underlying (ay.h (P:=P) (t:=t)),fl (e1.heap g2),goInt,hl]
theorem w9 {E:Type} {enc:E→AV×AV} {M:List E} {t kt vt:TypeId} {x:Operand} {b:Bk} {bZ:List lM→Nat→Heap} [ay P t (.map kt vt)] (hx:bY tm x=some (.cd b)) (u:∀ L c,iw hp b (.mp (M.map enc)) b (.DC L c) (bZ L c)) (hn:Nat.blt d n=true)
 (kk:∀ bi L c,(L.map lM.kv).Perm (M.map enc)→sB L c [] (M.map enc)→ae P all rest ⟨n,(d,.ptr bi 0) :: tm,(bi,.Dx b c []) :: bZ L c⟩ Q):ae P all (⟨some d,.range t x,ty,pos,af,none⟩ :: rest) ⟨n,tm,hp⟩ Q:=by
 refine ae.Dz rfl fun w S a r=>?_
 obtain ⟨nb,hb,ex⟩:=(aN (σ:=⟨n,tm,hp⟩) r hx).mT
 have f:=(u [] 0).lN
 obtain ⟨L,c,kO,hH⟩:=r.hp.holds _ f.mem
 have Rl:=hH
 obtain ⟨Be,ee,g1,g2,g3,_⟩:=hH
 obtain rfl:Be=nb:=by rw [g1] at hb;exact Option.some.inj hb
 obtain ⟨r1,e1,k1⟩:=kj r.hp (u L c) (ve w b.cy) id id Rl (.inl rfl)
 have hh:Holds (w.alloc (.mapIter (some Be) c #[] c)) S ⟨some w.heap.size,0⟩ (.Dx b c []):=⟨w.heap.size,Be,rfl,hb,by show (w.heap.push _)[w.heap.size]? =_;simp⟩
 obtain ⟨r2,e2,k2⟩:=o4 r1 (Ext.alloc w (.mapIter (some Be) c #[] c)) id hh (.inr ⟨_,rfl,Nat.le_refl _⟩)
 refine ⟨.pointer (some ⟨w.heap.size,0,none⟩),w.alloc (.mapIter (some Be) c #[] c),S,_,?_,(r.heap k2 r2).put hn (.ptr _ _ _ rfl),e1.trans e2,kk ⟨some w.heap.size,0⟩ L c kO ?_⟩
 ·simp [execOp,Instr.range,ex,run_underlying (ay.h (P:=P) (t:=t)),fl g2]
 ·unfold sB
  have e:L.filter (fun e=>!([]:List Nat).contains e.born)=L:=List.filter_eq_self.2 (fun _ _=>by simp)
  rw [e];exact kO
theorem xa {L:List lM} {c:Nat} {seen:List Nat} {x:Operand} {bi bm:Bk} {e:AV×AV} {k v:AV} (hx:bY tm x=some (.ptr bi 0)) (fi:lj hp bi (.Dx bm c seen)) (fm:lj hp bm (.DC L c)) (hc:Rn L seen e) (hk:e.1=k) (hv:e.2=v):
 QV P ⟨some d,.entry x,ty,pos,af,none⟩ ⟨n,tm,hp⟩ (.mN [k,v]):=by
 intro w S a r
 obtain ⟨ni,hi,ex⟩:=(aN (σ:=⟨n,tm,hp⟩) r hx).nh
 obtain ⟨Oz,nm,g1,g2,g3⟩:=r.hp.holds _ fi.mem
 obtain rfl:Oz=ni:=by rw [g1] at hi;exact Option.some.inj hi
 obtain ⟨NH,ee,p1,p2,p3,p4,p5,p6,_⟩:=r.hp.holds _ fm.mem
 obtain rfl:NH=nm:=by rw [p1] at g2;exact Option.some.inj g2
 obtain ⟨y,hy,hs,SY⟩:=hc
 obtain ⟨m,m1,m2,m3⟩:=find_born p6 hy p3 p4
 have hbk:seen.toArray.back? =some y.born:=by rw [← hs];simp [List.getLast?_eq_getElem?,Array.back?]
 subst SY
 refine ⟨.tuple #[m.key,m.val],fun w1 e1=>?_,?_⟩
 ·simp [execOp,Instr.entry,ex,yL (e1.heap g3),fl (e1.heap p2),hbk,m1]
 ·rw [← hk,← hv];exact .mN _ _ rfl (CA m2 m3)
theorem Ah {E:Type} {enc:E→AV×AV} {R:List E} {L:List lM} {c:Nat} {seen:List Nat} {x:Operand} {bi bm:Bk} {bZ:List Nat→Heap} (hx:bY tm x=some (.ptr bi 0)) (hI:sB L c seen (R.map enc)) (fm:lj hp bm (.DC L c)) (u:∀ s,iw hp bi (.Dx bm c seen) bi (.Dx bm c s) (bZ s)) (hn:Nat.blt d n=true)
 (k0:R=[]→ae P all rest ⟨n,(d,.mN [.bool false]) :: tm,hp⟩ Q)
 (k1:∀ e R' s,R.Perm (e :: R')→R'.length < R.length→sB L c s (R'.map enc)→Rn L s (enc e)→ae P all rest ⟨n,(d,.mN [.bool true,(enc e).1,(enc e).2]) :: tm,bZ s⟩ Q):ae P all (⟨some d,.next x false,ty,pos,af,none⟩ :: rest) ⟨n,tm,hp⟩ Q:=by
 refine ae.Dz rfl fun w S a r=>?_
 obtain ⟨ni,hi,ex⟩:=(aN (σ:=⟨n,tm,hp⟩) r hx).nh
 obtain ⟨Oz,nm,g1,g2,g3⟩:=r.hp.holds _ (u []).lN.mem
 obtain rfl:Oz=ni:=by rw [g1] at hi;exact Option.some.inj hi
 obtain ⟨NH,ee,p1,p2,p3,p4,p5,p6,_⟩:=r.hp.holds _ fm.mem
 obtain rfl:NH=nm:=by rw [p1] at g2;exact Option.some.inj g2
 have JF:∀ m∈ee,m.born < c:=by
  intro m hm
  obtain ⟨i,hi,rfl⟩:=Array.getElem_of_mem hm
  have jj:i < L.length:=by omega
  have:=(p4 i L[i] ee[i] (List.getElem?_eq_getElem jj) (Array.getElem?_eq_getElem hi)).1
  rw [this];exact p5 _ (List.getElem_mem jj)
 have L6:(!seen.toArray.isEmpty&&!ee.isEmpty&&ee.all (fun e=>decide (e.born≥c)))=false:=by
  by_cases h0:ee.isEmpty=true
  ·simp [h0]
  ·have h1:0 < ee.size:=by
    have:ee.size≠0:=by simpa [Array.isEmpty] using h0
    omega
   have:ee.all (fun e=>decide (e.born≥c))=false:=by
    rw [Bool.eq_false_iff]
    intro gB
    rw [Array.all_eq_true] at gB
    have:=gB 0 h1
    have hb:=JF ee[0] (Array.getElem_mem h1)
    simp at this;omega
   simp [this]
 have hold:(ee.filter fun e=>!seen.toArray.contains e.born).filter (fun e=>decide (e.born < c))=ee.filter fun e=>!seen.toArray.contains e.born:=by
  rw [Array.filter_eq_self]
  intro m hm
  simpa using JF m (Array.mem_filter.1 hm).1
 have Je:(ee.filter fun e=>!seen.toArray.contains e.born).filter (fun e=>decide (e.born≥c))=#[]:=by
  rw [Array.filter_eq_empty_iff]
  intro m hm
  have:=JF m (Array.mem_filter.1 hm).1
  simp;omega
 generalize L7:(ee.filter fun e=>!seen.toArray.contains e.born)=xS at hold Je
 have uc:∀ m∈xS,∃ y∈L,(seen.contains y.born=false)∧m.born=y.born∧At w S y.k m.key∧At w S y.v m.val:=by
  intro m hm
  rw [← L7] at hm
  obtain ⟨h1,h2⟩:=Array.mem_filter.1 hm
  obtain ⟨i,hi,rfl⟩:=Array.getElem_of_mem h1
  have jj:i < L.length:=by omega
  have hh:=p4 i L[i] ee[i] (List.getElem?_eq_getElem jj) (Array.getElem?_eq_getElem hi)
  refine ⟨L[i],List.getElem_mem jj,?_,hh⟩
  rw [← hh.1];simpa using h2
 have hex:∀ y∈L,seen.contains y.born=false→∃ m,m∈xS:=by
  intro y hy hs
  obtain ⟨j,hj⟩:=List.getElem?_of_mem hy
  have DH:j < L.length:=(List.getElem?_eq_some_iff.1 hj).1
  have GA:j < ee.size:=by omega
  refine ⟨ee[j],?_⟩
  rw [← L7,Array.mem_filter]
  refine ⟨Array.getElem_mem GA,?_⟩
  rw [(p4 j y ee[j] hj (Array.getElem?_eq_getElem GA)).1]
  simpa using hs
 by_cases hz:xS.size=0
 ·
  have hR:R=[]:=by
   cases R with
   | nil=>rfl
   | cons e R'=>
     unfold sB at hI
     have hm:enc e∈(L.filter (fun e=>!seen.contains e.born)).map lM.kv:=hI.mem_iff.2 (by simp)
     obtain ⟨y,hy,_⟩:=List.mem_map.1 hm
     obtain ⟨hy1,hy2⟩:=List.mem_filter.1 hy
     obtain ⟨m,hm⟩:=hex y hy1 (by simpa using hy2)
     obtain ⟨i,hi,_⟩:=Array.getElem_of_mem hm
     omega
  obtain rfl:xS=#[]:=Array.eq_empty_of_size_eq_zero hz
  refine ⟨.tuple #[.bool false],w,S,_,?_,r.put hn (.mN _ _ rfl ?_),ic.refl _ _ _,k0 hR⟩
  ·have Us:(Instr.next (a.eval x) false ty).run P w=.ok (.tuple #[.bool false]) w:=by
    rw [ex,Ed (P:=P) (ty:=ty) g3 p2 L6 L7 hold Je]
    simp [run_choose,Question.forced]
   simp [execOp,Us]
  ·intro i c' v h1 h2
   cases i with
   | zero=>simp at h1 h2;subst h1;subst h2;exact .bool _
   | succ i=>simp at h1
 ·obtain ⟨i,w1,hch,jj,hE⟩:∃ i w1,(choose (.mapNext xS.size)).run P w=.ok i w1∧i < xS.size∧(w1=w∨w1=w.drew):=by
   by_cases hf:(Question.mapNext xS.size).forced=true
   ·refine ⟨0,w,?_,by omega,.inl rfl⟩
    rw [run_choose,if_pos hf]
   ·have hc:=run_choose P w (Question.mapNext xS.size)
    rw [if_neg hf] at hc
    exact ⟨_,w.drew,hc,Nat.mod_lt _ (by omega:0 < xS.size),.inr rfl⟩
  have ext:Ext w w1:=by
   rcases hE with rfl | rfl
   ·exact Ext.refl _
   ·exact Ext.BO w (w.drawn+1) (Nat.le_succ _)
  obtain ⟨y,hy,SZ,hb,hk,hv⟩:=uc xS[i] (Array.getElem_mem jj)
  have Bo:∀ z∈L,z.born=y.born→z=y:=by
   intro z hz hzb
   obtain ⟨i1,h1⟩:=List.getElem?_of_mem hz
   obtain ⟨i2,h2⟩:=List.getElem?_of_mem hy
   have Ut:i1 < L.length:=(List.getElem?_eq_some_iff.1 h1).1
   have:i1=i2:=(List.getElem?_inj (by simpa using Ut) p6).1 (by rw [List.getElem?_map,List.getElem?_map,h1,h2,Option.map_some,Option.map_some,hzb])
   subst this
   rw [h1] at h2;exact Option.some.inj h2
  unfold sB at hI
  have hyR:y.kv∈R.map enc:=hI.mem_iff.1 (List.mem_map.2 ⟨y,List.mem_filter.2 ⟨hy,by simpa using SZ⟩,rfl⟩)
  obtain ⟨pre,post,IN⟩:=List.append_of_mem (List.mem_filter.2 ⟨hy,(by simpa using SZ:(!seen.contains y.born)=true)⟩:y∈L.filter (fun e=>!seen.contains e.born))
  have Uu:L.filter (fun e=>!(seen++[y.born]).contains e.born)=pre++post:=by
   have e1:L.filter (fun e=>!(seen++[y.born]).contains e.born)=(L.filter (fun e=>!seen.contains e.born)).filter (fun e=>decide (e.born≠y.born)):=by
    rw [List.filter_filter]
    apply List.filter_congr
    intro e he
    simp only [List.contains_eq_mem,List.mem_append,List.mem_singleton,ne_eq,decide_not]
    by_cases q1:e.born∈seen<;>by_cases q2:e.born=y.born<;>simp [q1,q2]
   have OA:((L.filter (fun e=>!seen.contains e.born)).map (·.born)).Nodup:=p6.sublist ((List.filter_sublist).map _)
   rw [IN,List.map_append,List.map_cons,List.nodup_append,List.nodup_cons] at OA
   rw [e1,IN,List.filter_append,List.filter_cons]
   simp only [ne_eq,not_true_eq_false,decide_false,Bool.false_eq_true,if_false]
   congr 1
   ·refine List.filter_eq_self.2 fun e he=>?_
    simp only [decide_not,Bool.not_eq_true',decide_eq_false_iff_not]
    intro hk
    exact OA.2.2 e.born (List.mem_map.2 ⟨e,he,rfl⟩) y.born (by simp) hk
   ·refine List.filter_eq_self.2 fun e he=>?_
    simp only [decide_not,Bool.not_eq_true',decide_eq_false_iff_not]
    intro hk
    exact OA.2.1.1 (List.mem_map.2 ⟨e,he,hk⟩)
  have hP:(y.kv :: (pre++post).map lM.kv).Perm (R.map enc):=by
   refine List.Perm.trans ?_ hI
   rw [IN]
   simp only [List.map_append,List.map_cons]
   exact List.perm_middle.symm
  obtain ⟨R2,WN,Ro⟩:=s9 enc _ _ hP
  cases R2 with
  | nil=>simp at Ro
  | cons e R'=>
    obtain ⟨Oc,IX⟩:=List.cons.inj (by simpa using Ro)
    have Uv:w1.heap[Oz]? =some (.mapIter (some NH) c seen.toArray c):=ext.heap g3
    have hIt:sB L c (seen++[y.born]) (R'.map enc):=by unfold sB;rw [Uu,← IX];simp
    have r1:=r.ext ext
    have hw:=sA (ob:=.mapIter (some NH) c (seen++[y.born]).toArray c) r1.hp (u (seen++[y.born])) g1 Uv id id (fun k1=>⟨Oz,NH,g1,g2,sy Uv⟩)
    have Uw:ic w S hp w1 S hp:=ic.ext (fun n hn=>r.hp.slt n hn) ext
    refine ⟨.tuple #[.bool true,xS[i].key,xS[i].val],vw w1 Oz (.mapIter (some NH) c (seen++[y.born]).toArray c),S,_,?_,(r1.heap hw.2.2 hw.1).put hn (.mN _ _ rfl (Hs (.bool _) ?_ ?_)),Uw.trans hw.2.1,k1 e R' (seen++[y.born]) WN.symm (by have:=WN.length_eq;simp at this;omega) hIt ⟨y,hy,by simp,Oc⟩⟩
    ·have hlz:xS.isEmpty=false:=by
      have:xS.size≠0:=hz
      simpa [Array.isEmpty] using this
     have Us:(Instr.next (a.eval x) false ty).run P w=.ok (.tuple #[.bool true,xS[i].key,xS[i].val]) (vw w1 Oz (.mapIter (some NH) c (seen++[y.born]).toArray c)):=by
      rw [ex,Ed (P:=P) (ty:=ty) g3 p2 L6 L7 hold Je]
      have eN:((if xS.isEmpty=true then #[none] else #[])++(xS++#[]).map some)=xS.map some:=by simp [hlz]
      rw [eN,Array.size_map,hch]
      simp [jj,hb,Ec _ Uv]
     simp [execOp,Us]
    ·rw [← Oc]
     exact (hk.mono (fun n hn=>⟨hn,ext.same n (r.hp.slt n hn)⟩)).mono hw.2.2
    ·rw [← Oc]
     exact (hv.mono (fun n hn=>⟨hn,ext.same n (r.hp.slt n hn)⟩)).mono hw.2.2
end rules
theorem aj.ur {n:Nat} {tm:List (Nat×AV)} {hp bZ:Heap} {T:St→Prop} {b:Bk} {L:List lM} {c:Nat} {es:List (AV×AV)} (hL:(L.map lM.kv).Perm es) (u:iw hp b (.DC L c) b (.mp es) bZ) (k:aj ⟨n,tm,bZ⟩ T):aj ⟨n,tm,hp⟩ T:=by
 refine aj.step (zr:=⟨n,tm,bZ⟩) (fun w S a r=>?_) k
 have hH:sR w S b L c:=r.hp.holds _ u.lN.mem
 obtain ⟨r1,e1,k1⟩:=kj r.hp u (ve w b.cy) id id ⟨L,c,hL,hH⟩ (.inl rfl)
 exact ⟨_,S,rfl,r.heap k1 r1,e1⟩
theorem aH {α β:Type} {o:Option α} {f:α→Option β} {r:β} {C:Prop} (h:o.bind f=some r) (k:∀ v,o=some v→f v=some r→C):C:=
 let ⟨v,h1,h2⟩:=Ua h;k v h1 h2
def Ca:Heap→Nat→Option ((Bk×Ob)×Heap)
 | [],_=>none
 | e :: h,0=>some (e,h)
 | e :: h,i+1=>match Ca h i with
   | some (x,h')=>some (x,e :: h')
   | none=>none
def Ai:Heap→List Nat→Option Heap
 | _,[]=>some []
 | h,i :: r=>match Ca h i with
   | some (e,h')=>match Ai h' r with
     | some t=>some (e :: t)
     | none=>none
   | none=>none
theorem Cb:∀ {h:Heap} {i:Nat} {e:Bk×Ob} {h':Heap},Ca h i=some (e,h')→xV h e.1 e.2 h'
 | [],_,_,_,hh=>by simp [Ca] at hh
 | x :: h,0,e,h',hh=>by
   simp only [Ca,Option.some.injEq,Prod.mk.injEq] at hh
   obtain ⟨rfl,rfl⟩:=hh
   exact .here
 | x :: h,i+1,e,h',hh=>by
   simp only [Ca] at hh
   split at hh
   ·rename_i y h1 h2
    simp only [Option.some.injEq,Prod.mk.injEq] at hh
    obtain ⟨rfl,rfl⟩:=hh
    exact .next (Cb h2)
   ·cases hh
theorem xb:∀ {l:List Nat} {h t:Heap},Ai h l=some t→HS h t
 | [],h,t,hh=>by
   simp only [Ai,Option.some.injEq] at hh
   subst hh;exact .nil
 | i :: r,h,t,hh=>by
   simp only [Ai] at hh
   split at hh
   ·rename_i e h' h1
    split at hh
    ·rename_i t' h2
     obtain rfl:=Option.some.inj hh
     exact .cons (Cb h1) (xb h2)
    ·cases hh
   ·cases hh
def JG (tm:List (Nat×AV)):List Nat→Option (List (Nat×AV))
 | []=>some []
 | s :: r=>match lk tm s with
   | some av=>match JG tm r with
     | some l=>some ((s,av) :: l)
     | none=>none
   | none=>none
theorem Ee {tm:List (Nat×AV)}:∀ {l:List Nat} {ln:List (Nat×AV)},JG tm l=some ln→BT tm ln
 | [],ln,h=>by
   simp only [JG,Option.some.injEq] at h
   subst h;exact True.intro
 | s :: r,ln,h=>by
   simp only [JG] at h
   split at h
   ·rename_i av h1
    split at h
    ·rename_i t' h2
     obtain rfl:=Option.some.inj h
     exact ⟨h1,Ee h2⟩
    ·cases h
   ·cases h
theorem aj.lq {n:Nat} {tm ln:List (Nat×AV)} {hp bZ:Heap} {T:St→Prop} (is:List Nat) (h:T ⟨n,ln,bZ⟩) (ht:JG tm (ln.map Prod.fst)=some ln) (hs:Ai hp is=some bZ):aj ⟨n,tm,hp⟩ T:=
 aj.Q0 (Ee ht) (xb hs) (aj.here h)
theorem lj.p0 {b:Bk} {o:Ob} {h:Heap}:lj ((b,o) :: h) b o:=.here
theorem iw.p0 {b b':Bk} {o o':Ob} {h:Heap}:iw ((b,o) :: h) b o b' o' ((b',o') :: h):=.here
theorem xV.p0 {b:Bk} {o:Ob} {h:Heap}:xV ((b,o) :: h) b o (h):=.here
theorem lj.p1 {e0:Bk×Ob} {b:Bk} {o:Ob} {h:Heap}:lj (e0 :: (b,o) :: h) b o:=.next .p0
theorem iw.p1 {e0:Bk×Ob} {b b':Bk} {o o':Ob} {h:Heap}:iw (e0 :: (b,o) :: h) b o b' o' (e0 :: (b',o') :: h):=.next .p0
theorem xV.p1 {e0:Bk×Ob} {b:Bk} {o:Ob} {h:Heap}:xV (e0 :: (b,o) :: h) b o (e0 :: h):=.next .p0
theorem lj.p2 {e0:Bk×Ob} {e1:Bk×Ob} {b:Bk} {o:Ob} {h:Heap}:lj (e0 :: e1 :: (b,o) :: h) b o:=.next .p1
theorem iw.p2 {e0:Bk×Ob} {e1:Bk×Ob} {b b':Bk} {o o':Ob} {h:Heap}:iw (e0 :: e1 :: (b,o) :: h) b o b' o' (e0 :: e1 :: (b',o') :: h):=.next .p1
theorem xV.p2 {e0:Bk×Ob} {e1:Bk×Ob} {b:Bk} {o:Ob} {h:Heap}:xV (e0 :: e1 :: (b,o) :: h) b o (e0 :: e1 :: h):=.next .p1
theorem lj.p3 {e0:Bk×Ob} {e1:Bk×Ob} {e2:Bk×Ob} {b:Bk} {o:Ob} {h:Heap}:lj (e0 :: e1 :: e2 :: (b,o) :: h) b o:=.next .p2
theorem iw.p3 {e0:Bk×Ob} {e1:Bk×Ob} {e2:Bk×Ob} {b b':Bk} {o o':Ob} {h:Heap}:iw (e0 :: e1 :: e2 :: (b,o) :: h) b o b' o' (e0 :: e1 :: e2 :: (b',o') :: h):=.next .p2
theorem xV.p3 {e0:Bk×Ob} {e1:Bk×Ob} {e2:Bk×Ob} {b:Bk} {o:Ob} {h:Heap}:xV (e0 :: e1 :: e2 :: (b,o) :: h) b o (e0 :: e1 :: e2 :: h):=.next .p2
theorem lj.p4 {e0:Bk×Ob} {e1:Bk×Ob} {e2:Bk×Ob} {e3:Bk×Ob} {b:Bk} {o:Ob} {h:Heap}:lj (e0 :: e1 :: e2 :: e3 :: (b,o) :: h) b o:=.next .p3
theorem iw.p4 {e0:Bk×Ob} {e1:Bk×Ob} {e2:Bk×Ob} {e3:Bk×Ob} {b b':Bk} {o o':Ob} {h:Heap}:iw (e0 :: e1 :: e2 :: e3 :: (b,o) :: h) b o b' o' (e0 :: e1 :: e2 :: e3 :: (b',o') :: h):=.next .p3
theorem xV.p4 {e0:Bk×Ob} {e1:Bk×Ob} {e2:Bk×Ob} {e3:Bk×Ob} {b:Bk} {o:Ob} {h:Heap}:xV (e0 :: e1 :: e2 :: e3 :: (b,o) :: h) b o (e0 :: e1 :: e2 :: e3 :: h):=.next .p3
theorem lj.p5 {e0:Bk×Ob} {e1:Bk×Ob} {e2:Bk×Ob} {e3:Bk×Ob} {e4:Bk×Ob} {b:Bk} {o:Ob} {h:Heap}:lj (e0 :: e1 :: e2 :: e3 :: e4 :: (b,o) :: h) b o:=.next .p4
theorem iw.p5 {e0:Bk×Ob} {e1:Bk×Ob} {e2:Bk×Ob} {e3:Bk×Ob} {e4:Bk×Ob} {b b':Bk} {o o':Ob} {h:Heap}:iw (e0 :: e1 :: e2 :: e3 :: e4 :: (b,o) :: h) b o b' o' (e0 :: e1 :: e2 :: e3 :: e4 :: (b',o') :: h):=.next .p4
theorem xV.p5 {e0:Bk×Ob} {e1:Bk×Ob} {e2:Bk×Ob} {e3:Bk×Ob} {e4:Bk×Ob} {b:Bk} {o:Ob} {h:Heap}:xV (e0 :: e1 :: e2 :: e3 :: e4 :: (b,o) :: h) b o (e0 :: e1 :: e2 :: e3 :: e4 :: h):=.next .p4
theorem lj.p6 {e0:Bk×Ob} {e1:Bk×Ob} {e2:Bk×Ob} {e3:Bk×Ob} {e4:Bk×Ob} {e5:Bk×Ob} {b:Bk} {o:Ob} {h:Heap}:lj (e0 :: e1 :: e2 :: e3 :: e4 :: e5 :: (b,o) :: h) b o:=.next .p5
theorem iw.p6 {e0:Bk×Ob} {e1:Bk×Ob} {e2:Bk×Ob} {e3:Bk×Ob} {e4:Bk×Ob} {e5:Bk×Ob} {b b':Bk} {o o':Ob} {h:Heap}:iw (e0 :: e1 :: e2 :: e3 :: e4 :: e5 :: (b,o) :: h) b o b' o' (e0 :: e1 :: e2 :: e3 :: e4 :: e5 :: (b',o') :: h):=.next .p5
theorem xV.p6 {e0:Bk×Ob} {e1:Bk×Ob} {e2:Bk×Ob} {e3:Bk×Ob} {e4:Bk×Ob} {e5:Bk×Ob} {b:Bk} {o:Ob} {h:Heap}:xV (e0 :: e1 :: e2 :: e3 :: e4 :: e5 :: (b,o) :: h) b o (e0 :: e1 :: e2 :: e3 :: e4 :: e5 :: h):=.next .p5
theorem lj.p7 {e0:Bk×Ob} {e1:Bk×Ob} {e2:Bk×Ob} {e3:Bk×Ob} {e4:Bk×Ob} {e5:Bk×Ob} {e6:Bk×Ob} {b:Bk} {o:Ob} {h:Heap}:lj (e0 :: e1 :: e2 :: e3 :: e4 :: e5 :: e6 :: (b,o) :: h) b o:=.next .p6
theorem iw.p7 {e0:Bk×Ob} {e1:Bk×Ob} {e2:Bk×Ob} {e3:Bk×Ob} {e4:Bk×Ob} {e5:Bk×Ob} {e6:Bk×Ob} {b b':Bk} {o o':Ob} {h:Heap}:iw (e0 :: e1 :: e2 :: e3 :: e4 :: e5 :: e6 :: (b,o) :: h) b o b' o' (e0 :: e1 :: e2 :: e3 :: e4 :: e5 :: e6 :: (b',o') :: h):=.next .p6
section rules
variable {P:Program} {all:Array Oper} {rest:List Oper} {n:Nat} {tm:List (Nat×AV)} {hp:Heap} {Q:St→Prop} {d:Nat} {ty:TypeId} {pos:String} {af:Array Edge}
theorem rM {x:Operand} {av:AV} (hx:bY tm x=some av) (hn:Nat.blt d n=true) (k:ae P all rest ⟨n,(d,av) :: tm,hp⟩ Q):ae P all (⟨some d,.move x,ty,pos,af,none⟩ :: rest) ⟨n,tm,hp⟩ Q:=ae.qv (aq hx) hn k
theorem rA {x:Operand} {av:AV} (hx:bY tm x=some av) (hn:Nat.blt d n=true) (k:ae P all rest ⟨n,(d,av) :: tm,hp⟩ Q):ae P all (⟨some d,.assign x,ty,pos,af,none⟩ :: rest) ⟨n,tm,hp⟩ Q:=ae.qv (bd hx) hn k
theorem rF {x:Operand} {s:TypeId} {j off:Nat} {b:Bk} {o o':Nat} [mG P s j off] (hx:bY tm x=some (.ptr b o)) (ho:o+off=o') (hn:Nat.blt d n=true) (k:ae P all rest ⟨n,(d,.ptr b o') :: tm,hp⟩ Q):ae P all (⟨some d,.fieldAddr s x j,ty,pos,af,none⟩ :: rest) ⟨n,tm,hp⟩ Q:=ae.qv (au hx ho) hn k
theorem rL {t:TypeId} {D:TypeDesc} {x:Operand} {b:Bk} {o:Nat} {cs:List AV} {av:AV} [ay P t D] (hD:TypeDesc.jx D=false) (hx:bY tm x=some (.ptr b o)) (f:lj hp b (.cells cs)) (ho:cs[o]? =some av) (hn:Nat.blt d n=true) (k:ae P all rest ⟨n,(d,av) :: tm,hp⟩ Q):ae P all (⟨some d,.load t x,ty,pos,af,none⟩ :: rest) ⟨n,tm,hp⟩ Q:=ae.qv (az hD hx f ho) hn k
theorem rT {c x y:Operand} {av:AV} (hc:bY tm c=some (.bool true)) (hx:bY tm x=some av) (hn:Nat.blt d n=true) (k:ae P all rest ⟨n,(d,av) :: tm,hp⟩ Q):ae P all (⟨some d,.pick c x y,ty,pos,af,none⟩ :: rest) ⟨n,tm,hp⟩ Q:=ae.qv (cJ hc hx) hn k
theorem rE {c x y:Operand} {av:AV} (hc:bY tm c=some (.bool false)) (hx:bY tm y=some av) (hn:Nat.blt d n=true) (k:ae P all rest ⟨n,(d,av) :: tm,hp⟩ Q):ae P all (⟨some d,.pick c x y,ty,pos,af,none⟩ :: rest) ⟨n,tm,hp⟩ Q:=ae.qv (cm hc hx) hn k
theorem rX {x:Operand} {i:Nat} {vs:List AV} {av:AV} (hx:bY tm x=some (.mN vs)) (hi:vs[i]? =some av) (hn:Nat.blt d n=true) (k:ae P all rest ⟨n,(d,av) :: tm,hp⟩ Q):ae P all (⟨some d,.extract x i,ty,pos,af,none⟩ :: rest) ⟨n,tm,hp⟩ Q:=ae.qv (sj hx hi) hn k
theorem rN (h:Q ⟨n,tm,hp⟩):ae P all [] ⟨n,tm,hp⟩ Q:=ae.nil h
theorem rG {op:Op} {j:Nat} {want b:Bool} {s:Nat} (hj:(all[j]?).bind (·.dst)=some s) (hs:lk tm s=some (.bool b)) (hb:b=!want) (hn:Nat.blt d n=true) (k:ae P all rest ⟨n,(d,.raw undef) :: tm,hp⟩ Q):ae P all (⟨some d,op,ty,pos,af,some (j,want)⟩ :: rest) ⟨n,tm,hp⟩ Q:=ae.aB hj hs hb hn k
theorem rY {op:Op} {j:Nat} {want b:Bool} {s:Nat} (hj:(all[j]?).bind (·.dst)=some s) (hs:lk tm s=some (.bool b)) (hb:b=want) (k:ae P all (⟨some d,op,ty,pos,af,none⟩ :: rest) ⟨n,tm,hp⟩ Q):ae P all (⟨some d,op,ty,pos,af,some (j,want)⟩ :: rest) ⟨n,tm,hp⟩ Q:=ae.ar hj hs hb k
end rules
section rules
variable {P:Program} {R:St→Prop} {k:List It} {σ:St}
theorem tS {x y:Code} (h:aa P R (.code x :: .code y :: k) σ):aa P R (.code (.seq x y) :: k) σ:=aa.seq h
theorem tR {id:Nat} {l:List Oper} (h:ae P l.toArray l σ (aa P R k)):aa P R (.code (.region id l.toArray false) :: k) σ:=aa.region h
theorem aF {id:Nat} {l:List Oper} {y:Code} (h:ae P l.toArray l σ (aa P R (.code y :: k))):aa P R (.code (.seq (.region id l.toArray false) y) :: k) σ:=aa.seq (aa.region h)
theorem tK (h:aa P R k σ):aa P R (.code .skip :: k) σ:=aa.skip h
end rules
end Go.Eng
