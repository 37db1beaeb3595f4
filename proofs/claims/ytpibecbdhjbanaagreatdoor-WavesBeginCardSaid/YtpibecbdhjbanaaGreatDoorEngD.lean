/- The engine: abstract values, the symbolic heap, one rule for each operation. No program in sight. -/
import Derived.Test.YtpibecbdhjbanaaGreatDoorEngC
import Derived.Laws.BytesArg
import Derived.Shelf.SlSortCmp.NoneTotal
set_option linter.unusedVariables false
set_option linter.unusedSectionVars false
namespace Go.Eng
open Go
variable [bD]
def depth:Nat:=100000
section rules
variable {P:Program} {all:Array Oper} {rest:List Oper} {n:Nat} {tm:List (Nat×AV)} {hp:Heap} {Q:St→Prop} {d:Nat} {ty:TypeId} {pos:String} {af:Array Edge}
end rules
theorem G9 {w:World} {S:Nat→Prop} {hp bU:Heap} {b:Bk} {sz k:Nat} {xs:List AV} (r:bZ w S hp) (u:jY hp b (.arr sz xs) b (.arr sz (xs.take k)) bU):bZ w S bU∧iF w S hp w S bU:=by
 obtain ⟨pre,post,e1,e2⟩:=u.split
 subst e1;subst e2
 have hblk:∀ n,Has (pre++(b,Ob.arr sz (xs.take k)) :: post) n↔Has (pre++(b,Ob.arr sz xs) :: post) n:=by
  intro n
  constructor<;>rintro ⟨x,hx,hb⟩<;>rcases aY.1 hx with rfl | hx
  ·exact ⟨(b,.arr sz xs),aY.2 (.inl rfl),hb⟩
  ·exact ⟨x,aY.2 (.inr hx),hb⟩
  ·exact ⟨(b,.arr sz (xs.take k)),aY.2 (.inl rfl),hb⟩
  ·exact ⟨x,aY.2 (.inr hx),hb⟩
 refine ⟨⟨?_,?_,?_,r.slt,r.fU⟩,⟨rfl,rfl,rfl,Nat.le_refl _,fun n hn=>⟨hn,rfl⟩,fun n _ _=>⟨rfl,id⟩,fun n hn=>.inl ((hblk n).1 hn),fun _=>Nat.le_refl _⟩⟩
 ·have:=r.nodup
  simpa [List.flatMap_append,List.flatMap_cons,eb,Ob.more] using this
 ·intro x hx
  rcases aY.1 hx with rfl | hx
  ·obtain ⟨h0,h1,h2⟩:=r.holds (b,.arr sz xs) (aY.2 (.inl rfl))
   refine ⟨fun x hx=>h0 x (List.mem_of_mem_take hx),Nat.le_trans (by simp only [List.length_take];omega) h1,h2.imp id ?_⟩
   rintro ⟨n,vs,E,g1,g2,g3,g4⟩
   refine ⟨n,vs,E,g1,g2,g3,fun i c v hc hv=>?_⟩
   have hp:∃ t,flat xs=flat (xs.take k)++t:=⟨flat (xs.drop k),by
    show xs.flatMap AV.cells=(xs.take k).flatMap AV.cells++(xs.drop k).flatMap AV.cells
    rw [← List.flatMap_append,List.take_append_drop]⟩
   obtain ⟨t,ht⟩:=hp
   refine g4 i c v ?_ hv
   rw [ht,List.getElem?_append_left (List.getElem?_eq_some_iff.1 hc).1]
   exact hc
  ·exact r.holds x (aY.2 (.inr hx))
 ·intro x hx n hn
  rcases aY.1 hx with rfl | hx
  ·have:=r.sep (b,.arr sz xs) (aY.2 (.inl rfl)) n hn
   exact ⟨fun h=>(this.1 h).elim,fun h=>h.elim⟩
  ·exact r.sep x (aY.2 (.inr hx)) n hn
theorem aj.take {n k:Nat} {tm:List (Nat×AV)} {hp bU:Heap} {T:St→Prop} {b:Bk} {sz:Nat} {xs:List AV} (u:jY hp b (.arr sz xs) b (.arr sz (xs.take k)) bU) (kk:aj ⟨n,tm,bU⟩ T):aj ⟨n,tm,hp⟩ T:=by
 refine aj.step (wW:=⟨n,tm,bU⟩) (fun w S a r=>?_) kk
 obtain ⟨g1,g2⟩:=G9 r.hp u
 exact ⟨_,S,rfl,⟨r.size,r.defers,r.tm,g1⟩,g2⟩
section rules
variable {P:Program} {all:Array Oper} {rest:List Oper} {n:Nat} {tm:List (Nat×AV)} {hp:Heap} {Q:St→Prop} {d:Nat} {ty:TypeId} {pos:String} {af:Array Edge}
theorem w8 {α:Type} {Xs V:List α} {L H:Int} (h:vu Xs L H=some V):V.length=H.toNat - L.toNat∧L.toNat+V.length≤Xs.length∧V=(Xs.drop L.toNat).take V.length:=by
 obtain ⟨⟨h0,h1,h2⟩,rfl⟩:=pS h
 have:((Xs.drop L.toNat).take (H.toNat - L.toNat)).length=H.toNat - L.toNat:=by simp;omega
 refine ⟨this,by rw [this];omega,by rw [this]⟩
theorem oR {α:Type} {Xs Zs:List α} {t e:TypeId} {i:TypeInfo} {x:Operand} {lo hi:Option Operand} {l h:Option Int} {sz:Nat} {b:Bk} {L H:Int} [ax P t (.slice e)] [aV P e i] (hx:cx tm x=some (.sl sz b 0 Xs.length)) (hJ:Nat.beq i.size sz=true) (hl:CW tm lo l) (hh:CW tm hi h)
 (eL:fg l=L) (eH:fM Xs.length h=H) (hv:vu Xs L H=some Zs):QV P ⟨some d,.slice t x lo hi none,ty,pos,af,none⟩ ⟨n,tm,hp⟩ (.sl sz b L.toNat Zs.length):=by
 obtain ⟨⟨h0,h1,h2⟩,_⟩:=pS hv
 have hlen:=(w8 hv).1
 subst eL;subst eH
 have:=C6 (P:=P) (d:=d) (ty:=ty) (pos:=pos) (af:=af) (n:=n) (tm:=tm) (hp:=hp) (t:=t) (e:=e) hx hJ hl hh h0 h1 h2
 rw [Nat.zero_add] at this
 rw [hlen];exact this
theorem aj.KH {α:Type} {g:α→AV} {Xs V:List α} {H:Int} {T:St→Prop} {b:Bk} {sz:Nat} {bU:Heap} (hv:vu Xs 0 H=some V) (u:jY hp b (.arr sz (Xs.map g)) b (.arr sz (V.map g)) bU) (kk:aj ⟨n,tm,bU⟩ T):aj ⟨n,tm,hp⟩ T:=by
 refine aj.take (k:=V.length) (xs:=Xs.map g) (b:=b) (sz:=sz) ?_ kk
 rw [← List.map_take]
 have:=(w8 hv).2.2
 simp only [Int.toNat_zero,List.drop_zero] at this
 rw [← this];exact u
end rules
inductive Aq (hp:Heap):AV→AV→Prop
 | co {a a':AV} (c:Co hp a a'):Aq hp a a'
 | agg (cs kI:List AV) (hl:kI.length=cs.length) (h:∀ (i:Nat) c c',cs[i]? =some c→kI[i]? =some c'→Aq hp c c'):Aq hp (.agg cs) (.agg kI)
 | kj (cs kI:List AV) (hl:kI.length=cs.length) (h:∀ (i:Nat) c c',cs[i]? =some c→kI[i]? =some c'→Aq hp c c'):Aq hp (.kj cs) (.kj kI)
 | list (sz:Nat) (xs ys:List AV) (hn:ys.length=xs.length) (hl:(flat ys).length=(flat xs).length) (he:∀ y∈ys,El sz y) (h:∀ (i:Nat) c c',(flat xs)[i]? =some c→(flat ys)[i]? =some c'→Aq hp c c'):Aq hp (.list sz xs) (.list sz ys)
inductive Dh (hp:Heap):List AV→List AV→Prop
 | nil:Dh hp [] []
 | cons {a a':AV} {l l':List AV} (c:Aq hp a a') (k:Dh hp l l'):Dh hp (a :: l) (a' :: l')
theorem Aq.r {hp:Heap} {a:AV}:Aq hp a a:=.co (.refl _)
theorem Aq.n {hp:Heap} {sz:Nat}:Aq hp .nil (.list sz []):=.co (.nil _)
theorem Dh.each {hp:Heap}:∀ {l l':List AV},Dh hp l l'→l'.length=l.length∧∀ (i:Nat) c c',l[i]? =some c→l'[i]? =some c'→Aq hp c c'
 | [],_,.nil=>⟨rfl,fun i c c' h=>by simp at h⟩
 | _ :: _,_,.cons c k=>by
   obtain ⟨g1,g2⟩:=Dh.each k
   refine ⟨by simp [g1],fun i c1 c2 h1 h2=>?_⟩
   match i with
   | 0=>simp at h1 h2;subst h1;subst h2;assumption
   | i+1=>exact g2 i c1 c2 (by simpa using h1) (by simpa using h2)
theorem Aq.NM {hp:Heap} {sz:Nat} {xs ys:List AV} (k:Dh hp (flat xs) (flat ys)) (hn:Nat.beq ys.length xs.length=true) (he:uw sz ys=true):Aq hp (.list sz xs) (.list sz ys):=
 .list sz xs ys (Nat.eq_of_beq_eq_true hn) k.each.1 (ly he) k.each.2
theorem Aq.at {w:World} {S:Nat→Prop} {hp:Heap} {a a':AV} {v:Value} (c:Aq hp a a') (r:bZ w S hp) (h:At w S a v):At w S a' v:=by
 induction c generalizing v with
 | co c=>exact c.at r h
 | agg cs kI hl _ ih=>
   cases h with
   | agg _ vs h1 h2=>
     refine .agg kI vs (by rw [hl,h1]) (fun i c v hc hv=>?_)
     have hi:i < cs.length:=by rw [← hl];exact (List.getElem?_eq_some_iff.1 hc).1
     exact ih i cs[i] c (by simp [hi]) hc (h2 i _ _ (by simp [hi]) hv)
 | kj cs kI hl _ ih=>
   cases h with
   | kj _ vs h1 h2=>
     refine .kj kI vs (by rw [hl,h1]) (fun i c v hc hv=>?_)
     have hi:i < cs.length:=by rw [← hl];exact (List.getElem?_eq_some_iff.1 hc).1
     exact ih i cs[i] c (by simp [hi]) hc (h2 i _ _ (by simp [hi]) hv)
 | list sz xs ys hn hl he _ ih=>
   cases h with
   | list _ _ a cap vs g1 g2 g3 g4 g5=>
     rw [← hn]
     refine .list sz ys a cap vs he (by rw [hl,g2]) (fun i c v hc hv=>?_) g4 (by rw [hn];exact g5)
     have hi:i < (flat xs).length:=by rw [← hl];exact (List.getElem?_eq_some_iff.1 hc).1
     exact ih i (flat xs)[i] c (by simp [hi]) hc (g3 i _ _ (by simp [hi]) hv)
theorem aj.Vd {n s:Nat} {tm:List (Nat×AV)} {hp:Heap} {T:St→Prop} {av ep:AV} (hs:lk tm s=some av) (c:Aq hp av ep) (k:aj ⟨n,(s,ep) :: tm,hp⟩ T):aj ⟨n,tm,hp⟩ T:=by
 refine aj.step (wW:=⟨n,(s,ep) :: tm,hp⟩) (fun w S a r=>⟨_,S,rfl,⟨r.size,r.defers,fun t av h=>?_,r.hp⟩,iF.refl _ _ _⟩) k
 simp only [lk] at h
 split at h
 ·rename_i hb
  obtain rfl:s=t:=by simpa using hb
  obtain rfl:=Option.some.inj h
  obtain ⟨v,h1,h2⟩:=r.tm s _ hs
  exact ⟨v,h1,c.at r.hp h2⟩
 ·exact r.tm t av h
def j7 {R:Type} (n:Nat) (len:R→Nat) (x:Option R):Option R:=x.bind fun r=>if len r=n then some r else none
theorem j9 {R:Type} {n:Nat} {len:R→Nat} {x:Option R} {r:R} (h:j7 n len x=some r):x=some r:=by
 unfold j7 at h
 cases x with
 | none=>cases h
 | some y=>
   simp only [Option.bind_some] at h
   split at h
   ·exact h
   ·cases h
theorem cY {R:Type} {n:Nat} {len:R→Nat} {x:Option R} {r:R} (h:j7 n len x=some r):len r=n:=by
 unfold j7 at h
 cases x with
 | none=>cases h
 | some y=>
   simp only [Option.bind_some] at h
   split at h
   ·rename_i hh;obtain rfl:=Option.some.inj h;exact hh
   ·cases h
def Lw {α:Type} (z:α) (l c:Int):Option (List α):=if 0≤l∧l≤c∧c≤1000000000 then some (List.replicate l.toNat z) else none
theorem xE {sz:Nat} {x:AV} (h:x.cells.length=sz):∀ (k i:Nat),i < k * sz→(flat (List.replicate k x))[i]? =x.cells[i % sz]?
 | 0,i,hi=>by simp at hi
 | k+1,i,hi=>by
   rw [List.replicate_succ,show flat (x :: List.replicate k x)=x.cells++flat (List.replicate k x) from rfl]
   by_cases iO:i < sz
   ·rw [List.getElem?_append_left (by omega),Nat.mod_eq_of_lt iO]
   ·rw [List.getElem?_append_right (by omega),h,xE h k (i - sz) (by rw [Nat.add_mul] at hi;omega)]
    rw [Nat.mod_eq_sub_mod (a:=i) (by omega)]
section rules
variable {P:Program} {all:Array Oper} {rest:List Oper} {n:Nat} {tm:List (Nat×AV)} {hp:Heap} {Q:St→Prop} {d:Nat} {ty:TypeId} {pos:String} {af:Array Edge}
theorem sd {α:Type} {g:α→AV} {Z:α} {Xs:List α} {t e:TypeId} {i:TypeInfo} {z:Value} {x y:Operand} {k k':IntKind} {l c:Int} {sz:Nat} [ax P t (.slice e)] [aV P e i] (hx:cx tm x=some (.int k l)) (hy:cx tm y=some (.int k' c)) (hz:i.zero=some z) (hg:w5 z=g Z) (hs:i.size=sz) (uj:MH sz (g Z)=true) (sX:Nat.blt 0 sz=true) (hb:Nat.ble i.bytes 65536=true)
 (hn:Nat.blt d n=true) (hm:Lw Z l c=some Xs) (kk:∀ b:Bk,ae P all rest ⟨n,(d,.sl sz b 0 Xs.length) :: tm,(b,.arr sz (Xs.map g)) :: hp⟩ Q):ae P all (⟨some d,.makeSlice t x y,ty,pos,af,none⟩ :: rest) ⟨n,tm,hp⟩ Q:=by
 subst hs
 have sX:0 < i.size:=Nat.lt_of_lt_of_le (Nat.lt_of_succ_le (Nat.le_of_ble_eq_true sX)) (Nat.le_refl _)
 have hb:=Nat.le_of_ble_eq_true hb
 unfold Lw at hm
 split at hm
 ·rename_i hc
  obtain rfl:=Option.some.inj hm
  obtain ⟨c0,c1,c2⟩:=hc
  refine ae.Gr rfl fun w S a r=>?_
  have e1:=(bf (σ:=⟨n,tm,hp⟩) r hx).er
  have e2:=(bf (σ:=⟨n,tm,hp⟩) r hy).er
  have hE:=xn uj
  obtain ⟨hl,nQ⟩:=lS w S z (by rw [hg];exact hE.2)
  rw [hg] at hl nQ
  have DZ:z.cells.size=i.size:=by rw [← hl];exact hE.1
  obtain ⟨vs,Qd⟩:∃ vs:Array Value,vs=(Array.range (c.toNat * i.size)).map (z.cells[· % z.cells.size]!):=⟨_,rfl⟩
  have hJ:vs.size=c.toNat * i.size:=by rw [Qd];simp
  have Dg:∀ (j:Nat) (v:Value),vs[j]? =some v→z.cells[j % i.size]? =some v:=by
   intro j v hv
   rw [Qd] at hv
   simp only [Array.getElem?_map,Option.map_eq_some_iff] at hv
   obtain ⟨q,hq,rfl⟩:=hv
   have:q=j:=by
    rw [Array.getElem?_eq_some_iff] at hq
    obtain ⟨h1,h2⟩:=hq
    simpa using h2.symm
   subst this
   rw [DZ]
   have iO:q % i.size < z.cells.size:=by rw [DZ];exact Nat.mod_lt _ sX
   simp [iO]
  have e0:=Ext.alloc w (.cells vs e)
  have Qe:(List.replicate l.toNat Z).map g=List.replicate l.toNat (g Z):=by simp
  have hh:Holds (w.alloc (.cells vs e)) S ⟨some w.heap.size,c.toNat⟩ (.arr i.size ((List.replicate l.toNat Z).map g)):=by
   rw [Qe]
   refine ⟨fun x hx=>by rw [List.eq_of_mem_replicate hx];exact hE,by simp;omega,.inr ⟨w.heap.size,vs,e,rfl,?_,hJ,fun j cc v CZ hv=>?_⟩⟩
   ·show (w.heap.push _)[w.heap.size]? =_
    simp
   ·have w6:j < (flat (List.replicate l.toNat (g Z))).length:=(List.getElem?_eq_some_iff.1 CZ).1
    rw [cA (fun x hx=>by rw [List.eq_of_mem_replicate hx];exact hE)] at w6
    rw [xE hE.1 _ _ (by simpa using w6)] at CZ
    exact (nQ _ _ _ CZ (Dg j v hv)).mono fun m hm=>⟨hm,e0.same m (r.hp.slt m hm)⟩
  obtain ⟨k1,k2,k3⟩:=nf r.hp e0 id hh (.inr ⟨_,rfl,Nat.le_refl _⟩)
  refine ⟨.slice (some ⟨w.heap.size,0,none⟩) l.toNat c.toNat,w.alloc (.cells vs e),S,_,?_,(r.heap k3 k1).put hn ?_,k2,kk ⟨some w.heap.size,c.toNat⟩⟩
  ·have w1:IntKind.i64.wrap l=l:=vp ⟨by omega,by omega⟩
   have w2:IntKind.i64.wrap c=c:=vp ⟨by omega,by omega⟩
   have YK:(i.bytes:Int) * c≤65536 * 1000000000:=Int.mul_le_mul (by omega) (by omega) (by omega) (by omega)
   have f1:decide (c < 0)=false:=decide_eq_false (by omega)
   have f2:decide (((i.bytes:Int) * c) > 2 ^ 48)=false:=decide_eq_false (by omega)
   have f3:decide (l < 0)=false:=decide_eq_false (by omega)
   have f4:decide (l > c)=false:=decide_eq_false (by omega)
   have zh:¬ c.toNat * i.bytes > roomBytes:=by
    have:c.toNat * i.bytes≤1000000000 * 65536:=Nat.mul_le_mul (by omega) hb
    unfold roomBytes;omega
   have a1:∀ (k:IntKind) (x:Int) (w:World),(asInt (.int k x)).run P w=.ok x w:=fun k x w=>by simp [asInt,asIntOf]
   simp only [execOp,Instr.makeSlice,Sem.run_bind,run_underlying (ax.h (P:=P) (t:=t)),Result.andThen_ok,e1,e2,a1,typeInfo,sizeOf,run_program,aV.h (P:=P) (t:=e),Sem.run_pure,w1,w2,f1,f2,f3,f4,Bool.or_self,Bool.false_eq_true,if_false,askRoom,if_neg zh]
   by_cases h0:c.toNat * i.size=0
   ·rw [if_pos h0]
    have RX:vs=#[]:=by apply Array.eq_empty_of_size_eq_zero;omega
    simp only [Sem.run_bind,Sem.run_pure,Result.andThen_ok,h0,mJ,RX]
    rw [show Array.range 0=#[] from rfl]
    simp
   ·rw [if_neg h0]
    simp only [Sem.run_bind,Result.andThen_ok,Sem.run_pure,zeroValue,typeInfo,run_program,aV.h (P:=P) (t:=e),hz,mJ,← Qd]
  ·have:=At.sl (w:=w.alloc (.cells vs e)) (S:=S) i.size ⟨some w.heap.size,c.toNat⟩ 0 l.toNat w.heap.size c.toNat rfl (by omega) (by simp)
   simpa using this
 ·cases hm
end rules
end Go.Eng
set_option linter.unusedSimpArgs false
namespace Go.Eng
open Go Go.Sort Go.Proofs
variable [bD]
structure KI (P:Program) (f:FuncId) (k:Nat):Prop where
 some_:∀ (enc:Nat→List Value) (_:∀ x,(enc x).length=k) (_:∀ x,∀ v∈enc x,v.oneCell'=true) (cf:Nat→Nat→Int) (_:SWO (ltOf cf)) (g:Nat) (cb:Array Value) (bY off cap:Nat) (d:Array Nat) (w:World)
  (_:∀ args w,(callFunc g args).run P w=.ok (.enter g args) w) (_:CmpLays P g cb enc k cf bY off d.size w) (_:HoldsK enc k w bY off d) (_:bY < w.heap.size) (_:d.size < 4611686018427387904),
  Calls P f #[.slice (some ⟨bY,off,none⟩) d.size cap,.func (.func g) #[] cb] w fun e w'=>
   e=.returned (.tuple #[])∧∃ n os,w'=sortWorldK enc k w bY off n (pdq (ltOf cf) d 0 d.size (Lib.bitLen d.size) true true) os
 none_:∀ (p:Option Addr) (cap:Nat) (fv:Value) (w:World),Calls P f #[.slice p 0 cap,fv] w fun e w'=>e=.returned (.tuple #[])∧w'=w
def tt {α:Type} (x:α) (r:List α) (i:Nat):α:=(x :: r).getD i x
def ta {α:Type} (f:α→α→Option Int) (x:α) (r:List α) (i j:Nat):Int:=(f (tt x r i) (tt x r j)).getD 0
noncomputable def Ee {α:Type} (f:α→α→Option Int):List α→Option (List α)
 | []=>some []
 | x :: r=>@ite _ (r.length+1 < 4611686018427387904∧(∀ a∈x :: r,∀ b∈x :: r,∃ u,f a b=some u)∧SWO (ltOf (ta f x r))) (Classical.propDecidable _)
     (some ((pdq (ltOf (ta f x r)) (Array.range (r.length+1)) 0 (r.length+1) (Lib.bitLen (r.length+1)) true true).toList.map (tt x r))) none
theorem xF {α:Type} (f:α→α→Option Int) (x:α) (r:List α):Ee f (x :: r)=@ite _ (r.length+1 < 4611686018427387904∧(∀ a∈x :: r,∀ b∈x :: r,∃ u,f a b=some u)∧SWO (ltOf (ta f x r))) (Classical.propDecidable _)
 (some ((pdq (ltOf (ta f x r)) (Array.range (r.length+1)) 0 (r.length+1) (Lib.bitLen (r.length+1)) true true).toList.map (tt x r))) none:=rfl
theorem iS {α:Type} (x:α) (r:List α) (i:Nat):tt x r i∈x :: r:=by
 unfold tt
 rw [List.getD_eq_getElem?_getD]
 rcases h:(x :: r)[i]? with _ | y
 ·simp
 ·exact List.mem_of_getElem? h
theorem tU (enc:Nat→List Value) (k:Nat) (w:World) (bY off m:Nat) (dk:Array Nat) (os:Array Obj) {n:Nat} (hn:n < w.heap.size) (wV:n≠bY):(sortWorldK enc k w bY off m dk os).heap[n]? =w.heap[n]?:=by
 unfold sortWorldK putRowK putRow
 rw [heap_grow_old _ _ (by simpa [mapBlock] using hn)]
 simp only [mapBlock,heap_ahead,Array.getElem?_modify]
 rw [if_neg (fun h=>wV h.symm)]
theorem xG (enc:Nat→List Value) (k:Nat) (w:World) (bY off m:Nat) (dk:Array Nat) (os:Array Obj):w.heap.size≤(sortWorldK enc k w bY off m dk os).heap.size:=by
 unfold sortWorldK putRowK
 simp
theorem Fk (enc:Nat→List Value) (k:Nat) (w:World) (bY m:Nat) (dk:Array Nat) (os:Array Obj) {vs:Array Value} {E:TypeId} (hb:w.heap[bY]? =some (.cells vs E (0,0))):(sortWorldK enc k w bY 0 m dk os).heap[bY]? =some (.cells (putCells id 0 (flatK enc k dk) vs) E (0,0)):=by
 have iO:bY < w.heap.size:=by
  rcases Nat.lt_or_ge bY w.heap.size with h | h
  ·exact h
  ·simp [Array.getElem?_eq_none h] at hb
 unfold sortWorldK putRowK putRow
 rw [heap_grow_old _ _ (by simpa [mapBlock] using iO)]
 simp only [mapBlock,heap_ahead,Array.getElem?_modify]
 rw [if_pos trivial,hb]
 rfl
theorem Ext.grown {w w':World} (hd:bD.dr) (e:Ext w w'):∃ q os,w'=grow (w.drewN q) os:=by
 refine ⟨w'.drawn - w.drawn,w'.heap.extract w.heap.size w'.heap.size,?_⟩
 obtain ⟨h',t',d',o',Ve⟩:=w'
 have e1:=e.os;have e2:=e.tape;have e3:=e.output;have e4:=e.drawn hd;have e5:=e.size;have e6:=e.same
 simp only at e1 e2 e3 e4 e5 e6
 subst e1 e2 e3
 unfold grow World.drewN
 simp only [World.mk.injEq,and_true,true_and]
 refine ⟨?_,by omega⟩
 apply Array.ext_getElem?
 intro i
 by_cases hi:i < w.heap.size
 ·rw [e6 i hi,Array.getElem?_append_left hi]
 ·rw [Array.getElem?_append_right (by omega),Array.getElem?_extract]
  by_cases h2:i < h'.size
  ·rw [if_pos (by omega)]
   congr 1;omega
  ·rw [if_neg (by omega),Array.getElem?_eq_none (by omega)]
theorem Di {P:Program} {T:Type} {g:T→AV} {f:FuncId} {k:Nat} (K:KI P f k) (IH:Nat.blt 0 k=true) {gf:FuncId} [bw P gf] {C:List AV} {fn:T→T→Option Int} (NN:∀ {x y:T} {u:Int},fn x y=some u→@Pu sC P gf (g x :: g y :: C) (I u))
 (Qf:∀ x,g x=.agg (g x).cells) {Xs Ys:List T} {b:Bk} (h:Ee fn Xs=some Ys):aF P f [.sl k b 0 Xs.length,.func (.func gf) C] [(b,.arr k (Xs.map g))] (T0 [(b,.arr k (Ys.map g))] (.kj [])):=by
 have IH:0 < k:=Nat.lt_of_lt_of_le (Nat.lt_of_succ_le (Nat.le_of_ble_eq_true IH)) (Nat.le_refl _)
 intro w S vs r hl ha
 obtain ⟨v0,v1,rfl⟩:∃ v0 v1,vs=#[v0,v1]:=by
  match vs,hl with
  | ⟨[v0,v1]⟩,_=>exact ⟨v0,v1,rfl⟩
 have a0:=ha 0 _ v0 rfl rfl
 have a1:=ha 1 _ v1 rfl rfl
 obtain ⟨oa,cap,rfl,e2⟩:=a0.qB
 obtain ⟨cv,rfl,yH,Vf⟩:=a1.xj
 match Xs,h with
 | [],h=>
   obtain rfl:=Option.some.inj h
   refine (K.none_ oa cap _ w).mono ?_
   rintro e w' ⟨rfl,rfl⟩
   exact ⟨_,.kj [],_,S,rfl,⟨rfl,rfl⟩,.kj [] #[] rfl (fun i c v hc=>by simp at hc),r,iF.refl _ _ _⟩
 | x :: xr,h=>
   rw [xF] at h
   by_cases hc:(xr.length+1 < 4611686018427387904∧(∀ a∈x :: xr,∀ b∈x :: xr,∃ u,fn a b=some u)∧SWO (ltOf (ta fn x xr)))
   ·rw [if_pos hc] at h
    obtain rfl:=Option.some.inj h
    obtain ⟨hlen,Qg,hO⟩:=hc
    obtain ⟨h0,h1,h2⟩:=r.holds _ (List.mem_singleton.2 rfl)
    simp only [List.length_map,List.length_cons] at h1
    rcases h2 with ⟨_,GC⟩ | ⟨m,row,E,hb,xA,hJ,nQ⟩
    ·have NO:b.cap=0:=GC
     omega
    rcases e2 with ⟨hn,_,_,_,_⟩ | ⟨m',w4,rfl,hle,Qh⟩ | ⟨m',ad,_,_,MI,_⟩
    ·rw [hn] at hb;cases hb
    ·obtain rfl:m'=m:=by rw [w4] at hb;exact Option.some.inj hb
     have Lx:m' < w.heap.size:=by
      rcases Nat.lt_or_ge m' w.heap.size with h | h
      ·exact h
      ·simp [Array.getElem?_eq_none h] at xA
     have nS:¬ S m':=fun hs=>by have:=(r.sep _ (List.mem_singleton.2 rfl) m' (iN hb)).1 hs;exact this
     let ix:Nat→Nat:=fun i=>if i < xr.length+1 then i else 0
     have NP:∀ i,ix i < xr.length+1:=fun i=>by simp only [ix];split<;>omega
     have Qi:∀ i,(x :: xr)[ix i]? =some (tt x xr i):=by
      intro i
      simp only [ix,tt,List.getD_eq_getElem?_getD]
      split
      ·rename_i hi
       rw [List.getElem?_eq_getElem (by simpa using hi)];simp
      ·rename_i hi
       rw [List.getElem?_eq_none (l:=x :: xr) (i:=i) (by simp;omega)];simp
     have Nv:(xr.length+1) * k≤row.size:=by rw [hJ];exact Nat.mul_le_mul_right k h1
     let enc:Nat→List Value:=fun i=>(row.toList.drop (ix i * k)).take k
     have Jl:∀ i,(enc i).length=k:=by
      intro i
      have:ix i * k+k≤row.size:=by
       have:=Nat.mul_le_mul_right k (show ix i+1≤xr.length+1 from NP i)
       rw [Nat.add_mul,Nat.one_mul] at this
       omega
      simp only [enc,List.length_take,List.length_drop,Array.length_toList];omega
     have NQ:∀ i j,j < k→(enc i)[j]? =row[ix i * k+j]?:=by
      intro i j hj
      simp only [enc,List.getElem?_take,if_pos hj,List.getElem?_drop,Array.getElem?_toList]
     have BH:∀ i j,j < k→(flat ((x :: xr).map g))[ix i * k+j]? =(g (tt x xr i)).cells[j]?:=by
      intro i j hj
      exact oO h0 (by rw [List.getElem?_map,Qi i];rfl) j hj
     have yH:∀ i,(g (tt x xr i)).cells.length=k:=fun i=>(h0 _ (List.mem_map.2 ⟨_,iS x xr i,rfl⟩)).1
     have rk:∀ i,∀ c∈(g (tt x xr i)).cells,c.one=true:=fun i=>(h0 _ (List.mem_map.2 ⟨_,iS x xr i,rfl⟩)).2
     have Ly:∀ i,mA w S (g (tt x xr i)).cells (enc i).toArray:=by
      intro i j c v hc hv
      have hj:j < k:=by rw [← yH i];exact (List.getElem?_eq_some_iff.1 hc).1
      refine nQ (ix i * k+j) c v (by rw [BH i j hj];exact hc) ?_
      rw [← NQ i j hj]
      simpa using hv
     have Qj:∀ i,∀ v∈enc i,v.oneCell'=true:=by
      intro i v hv
      obtain ⟨j,hj,rfl⟩:=List.getElem_of_mem hv
      have Vg:j < k:=by rw [Jl i] at hj;exact hj
      have MM:j < (g (tt x xr i)).cells.length:=by rw [yH i];exact Vg
      exact (Ly i j (g (tt x xr i)).cells[j] (enc i)[j] (by simp [MM]) (by simp [hj])).Gn (rk i _ (List.getElem_mem MM))
     have sc:∀ (d:Array Nat) (t:Nat),t < d.size * k→(flatK enc k d)[t]! =(enc d[t / k]!)[t % k]!:=fun d t ht=>get_flatK enc k d t ht
     have NR:HoldsK enc k w m' 0 (Array.range (xr.length+1)):=by
      intro j hj
      rw [size_flatK,Array.size_range] at hj
      have hdiv:j / k < xr.length+1:=(Nat.div_lt_iff_lt_mul IH).2 hj
      have Jm:j % k < k:=Nat.mod_lt _ IH
      have Jn:j < row.size:=by omega
      have e1:(flatK enc k (Array.range (xr.length+1)))[j]! =row[j]:=by
       rw [sc _ _ (by simpa using hj)]
       have:(Array.range (xr.length+1))[j / k]! =j / k:=by
        rw [getElem!_pos _ _ (by simpa using hdiv)];simp
       rw [this]
       have hv:=NQ (j / k) (j % k) Jm
       have:ix (j / k)=j / k:=by simp only [ix];rw [if_pos hdiv]
       rw [this,Nat.div_add_mod'] at hv
       rw [Array.getElem?_eq_getElem Jn] at hv
       rw [List.getElem!_eq_getElem?_getD,hv];rfl
      constructor
      ·simp only [World.cell?,xA,id,e1,Nat.zero_add,Option.isSome_none,Bool.false_eq_true,if_false]
       rw [Array.getElem?_eq_getElem Jn]
      ·simp [World.frozen?,xA]
     have Qk:CmpLays P gf cv enc k (ta fn x xr) m' 0 (Array.range (xr.length+1)).size w:=by
      intro mm os dk YL i j
      obtain ⟨u,hu⟩:=Qg _ (iS x xr i) _ (iS x xr j)
      have hW:∀ n,S n→S n∧(sortWorldK enc k w m' 0 mm dk os).heap[n]? =w.heap[n]?:=fun n hs=>
       ⟨hs,tU enc k w m' 0 mm dk os (r.slt n hs) (fun e=>nS (e▸hs))⟩
      have KJ:mA (sortWorldK enc k w m' 0 mm dk os) S (g (tt x xr i) :: g (tt x xr j) :: C) (#[.agg (enc i).toArray,.agg (enc j).toArray]++cv):=by
       intro q c v hc hv
       have ag:∀ i,At (sortWorldK enc k w m' 0 mm dk os) S (g (tt x xr i)) (.agg (enc i).toArray):=fun i=>by
        rw [Qf (tt x xr i)]
        exact .agg _ _ (by rw [yH i];simp [Jl i]) (fun a c v hc hv=>((Ly i) a c v hc hv).mono hW)
       match q with
       | 0=>
         rw [Array.getElem?_append_left (by simp)] at hv
         simp at hc hv;subst hc;subst hv;exact ag i
       | 1=>
         rw [Array.getElem?_append_left (by simp)] at hv
         simp at hc hv;subst hc;subst hv;exact ag j
       | q+2=>
         simp only [List.getElem?_cons_succ] at hc
         rw [Array.getElem?_append_right (by simp)] at hv
         simp only [List.size_toArray,List.length_cons,List.length_nil,Nat.add_sub_cancel] at hv
         exact (Vf q c v hc (by simpa using hv)).mono hW
      refine (NN hu _ S _ (@sb sC _ _ (fun n hn=>Nat.lt_of_lt_of_le (r.slt n hn) (xG _ _ _ _ _ _ _ _)) (fun g o ho=>⟨(r.fU g o ho).1,xg (hW g (r.fU g o ho).1).2 (r.fU g o ho).2⟩)) (by simp [yH,‹C.length=cv.size›];omega) KJ).mono ?_
      rintro e w' ⟨v,rr,h',S',rfl,hq,h3,h4,h5⟩
      obtain rfl:=hq
      rw [h3.er]
      refine ⟨?_,@Ext.grown sC _ _ trivial (@iF.D2 sC _ _ _ _ _ h5)⟩
      unfold ta
      rw [hu];rfl
     have Lz:(Array.range (xr.length+1)).size=xr.length+1:=Array.size_range
     have KK:=K.some_ enc Jl Qj (ta fn x xr) hO gf cv m' 0 cap (Array.range (xr.length+1)) w (fun args w=>qC gf args w) Qk NR Lx (by rw [Lz];exact hlen)
     rw [Lz] at KK
     simp only [Nat.zero_mul]
     refine KK.mono ?_
     rintro e w' ⟨rfl,q,os,rfl⟩
     have MN:=pdq_sorts (ltOf (ta fn x xr)) hO (Array.range (xr.length+1)) 0 (xr.length+1) (Lib.bitLen (xr.length+1)) true true (Nat.zero_le _) (by rw [Lz];exact Nat.le_refl _) (Or.inl rfl)
     generalize uC:pdq (ltOf (ta fn x xr)) (Array.range (xr.length+1)) 0 (xr.length+1) (Lib.bitLen (xr.length+1)) true true=d' at MN ⊢
     have Jo:d'.size=xr.length+1:=by rw [MN.1.1,Lz]
     have hW:∀ n,S n→S n∧(sortWorldK enc k w m' 0 q d' os).heap[n]? =w.heap[n]?:=fun n hs=>
      ⟨hs,tU enc k w m' 0 q d' os (r.slt n hs) (fun e=>nS (e▸hs))⟩
     have MO:∀ y∈(d'.toList.map (tt x xr)).map g,El k y:=by
      intro y hy
      simp only [List.mem_map] at hy
      obtain ⟨z,⟨i,_,rfl⟩,rfl⟩:=hy
      exact h0 _ (List.mem_map.2 ⟨_,iS x xr i,rfl⟩)
     have hh:Go.Eng.Holds (sortWorldK enc k w m' 0 q d' os) S b (.arr k ((d'.toList.map (tt x xr)).map g)):=by
      refine ⟨MO,by simp [Jo];omega,.inr ⟨m',_,E,hb,Fk enc k w m' q d' os xA,by simp [putCells,hJ],?_⟩⟩
      intro j c v hc hv
      have w6:j < (xr.length+1) * k:=by
       have:=(List.getElem?_eq_some_iff.1 hc).1
       rw [cA MO] at this
       simpa [Jo] using this
      have hdiv:j / k < xr.length+1:=(Nat.div_lt_iff_lt_mul IH).2 w6
      have Jm:j % k < k:=Nat.mod_lt _ IH
      have Jn:j < row.size:=by omega
      have Vh:(d'.toList.map (tt x xr))[j / k]? =some (tt x xr d'[j / k]!):=by
       rw [List.getElem?_map,Array.getElem?_toList,Array.getElem?_eq_getElem (by omega),getElem!_pos d' (j / k) (by omega)];rfl
      have IV:(g (tt x xr d'[j / k]!)).cells[j % k]? =some c:=by
       rw [← oO (sz:=k) MO (i:=j / k) (x:=g (tt x xr d'[j / k]!)) (by rw [List.getElem?_map,Vh];rfl) (j % k) Jm,Nat.div_add_mod']
       exact hc
      have Ql:(enc d'[j / k]!)[j % k]? =some v:=by
       simp only [putCells,Array.getElem?_mapIdx,Array.getElem?_eq_getElem Jn,Option.map_some,Option.some.injEq] at hv
       rw [if_pos ⟨Nat.zero_le _,by rw [size_flatK,Jo];omega⟩,Nat.sub_zero,sc d' j (by rw [Jo];exact w6)] at hv
       have iO:j % k < (enc d'[j / k]!).length:=by rw [Jl];exact Jm
       rw [List.getElem?_eq_getElem iO,← hv]
       simp only [id,getElem!_pos (enc d'[j / k]!) (j % k) iO]
      exact (Ly _ _ _ _ IV (by simpa using Ql)).mono hW
     have Ha:=xG enc k w m' 0 q d' os
     refine ⟨_,.kj [],_,S,rfl,⟨rfl,rfl⟩,.kj [] #[] rfl (fun i c v hc=>by simp at hc),⟨r.nodup,fun e he=>by rw [List.mem_singleton] at he;subst he;exact hh,fun e he n hn=>?_,fun n hn=>Nat.lt_of_lt_of_le (r.slt n hn) Ha,fun g o ho=>⟨(r.fU g o ho).1,xg (hW g (r.fU g o ho).1).2 (r.fU g o ho).2⟩⟩,?_⟩
     ·rw [List.mem_singleton] at he;subst he
      replace hn:=(rU rfl).1 hn
      rw [hb] at hn
      obtain rfl:=Option.some.inj hn
      exact ⟨fun hs=>(nS hs).elim,fun hf=>hf.elim⟩
     ·refine ⟨rfl,rfl,rfl,Ha,hW,fun n hn Qm=>⟨tU enc k w m' 0 q d' os hn (fun e=>Qm ⟨_,List.mem_singleton.2 rfl,by rw [e];exact iN hb⟩),id⟩,?_,?_⟩
      ·rintro n ⟨e,he,pE⟩
       rw [List.mem_singleton] at he;subst he
       exact .inl ⟨_,List.mem_singleton.2 rfl,pE⟩
      ·intro _
       show w.drawn≤(sortWorldK enc k w m' 0 q d' os).drawn
       show w.drawn≤w.drawn+q
       omega
    ·simp at MI
   ·rw [if_neg hc] at h;cases h
end Go.Eng
namespace Go.Eng
open Go
variable [bD]
def vy {α:Type} (xs:List α) (L:Int) (n:Nat) (j:Int):Option α:=if 0≤L∧0≤j∧j < n then idx xs (L+j) else none
theorem sM {α:Type} {xs:List α} {L:Int} {n:Nat} {j:Int} {x:α} (h:vy xs L n j=some x):(0≤L∧0≤j∧j < n)∧idx xs (L+j)=some x:=by
 unfold vy at h
 split at h
 ·rename_i hc;exact ⟨hc,h⟩
 ·cases h
def BO {α:Type} (xs:List α) (L:Int) (n:Nat) (z:α):List α:=xs.take L.toNat++List.replicate n z++xs.drop (L.toNat+n)
theorem uF {α:Type} {xs v:List α} {L H:Int} {z:α} (h:vu xs L H=some v):(BO xs L v.length z).length=xs.length:=by
 obtain ⟨⟨h0,h1,h2⟩,_⟩:=pS h
 have:=(w8 h).1
 unfold BO
 simp only [List.length_append,List.length_take,List.length_replicate,List.length_drop]
 omega
section rules
variable {P:Program} {all:Array Oper} {rest:List Oper} {n:Nat} {tm:List (Nat×AV)} {hp:Heap} {Q:St→Prop} {d:Nat} {ty:TypeId} {pos:String} {af:Array Edge}
theorem se {α:Type} {Xs:List α} {el:α} {t e:TypeId} {i:TypeInfo} {x y:Operand} {k:IntKind} {j L:Int} {sz m:Nat} {b:Bk} [ax P t (.slice e)] [aV P e i] (hx:cx tm x=some (.sl sz b L.toNat m)) (hJ:Nat.beq i.size sz=true) (hy:cx tm y=some (.int k j))
 (hv:vy Xs L m j=some el):QV P ⟨some d,.indexAddr t x y,ty,pos,af,none⟩ ⟨n,tm,hp⟩ (.nP sz b (L+j).toNat 0):=by
 obtain ⟨⟨h0,h1,h2⟩,h3⟩:=sM hv
 have h:=xm (P:=P) (d:=d) (ty:=ty) (pos:=pos) (af:=af) (n:=n) (tm:=tm) (hp:=hp) (t:=t) (e:=e) hx hJ hy ⟨h1,h2⟩
 rw [show (L+j).toNat=L.toNat+j.toNat by omega]
 exact h
theorem Fl {x:Operand} {t e:TypeId} {sz off len:Nat} {b:Bk} [ax P t (.slice e)] (hx:cx tm x=some (.sl sz b off len)):QV P ⟨some d,.call {callee:=.builtin .len,args:=#[x],argTypes:=#[t]},ty,pos,af,none⟩ ⟨n,tm,hp⟩ (.int .i64 (len:Nat)):=Bm hx
theorem Jp {t e:TypeId} {i:TypeInfo} {z:Value} {x:Operand} {b:Bk} {L N sz:Nat} {xs:List AV} {zx:AV} {bU:Heap} [ax P t (.slice e)] [aV P e i] (hx:cx tm x=some (.sl sz b L N)) (hz:i.zero=some z) (Hb:w5 z=zx) (hJ:Nat.beq i.size sz=true) (uj:MH sz zx=true) (sX:Nat.blt 0 sz=true) (hL:L+N≤xs.length)
 (u:jY hp b (.arr sz xs) b (.arr sz (xs.take L++List.replicate N zx++xs.drop (L+N))) bU) (kk:ae P all rest ⟨n,tm,bU⟩ Q):
 ae P all (⟨none,.call {callee:=.builtin .clear,args:=#[x],argTypes:=#[t]},ty,pos,af,none⟩ :: rest) ⟨n,tm,hp⟩ Q:=by
 have hJ:=Nat.eq_of_beq_eq_true hJ
 have sX:0 < sz:=Nat.lt_of_lt_of_le (Nat.lt_of_succ_le (Nat.le_of_ble_eq_true sX)) (Nat.le_refl _)
 have hE:=xn uj
 refine ae.Gr rfl fun w S a r=>?_
 obtain ⟨oa,cap,e1,e2⟩:=(bf (σ:=⟨n,tm,hp⟩) r hx).qB
 rcases Nat.eq_zero_or_pos N with h0 | h0
 ·subst h0
  have zu:xs.take L++List.replicate 0 zx++xs.drop (L+0)=xs:=by simp
  rw [zu] at u
  obtain ⟨p,q,Vi,Vj⟩:=u.split
  obtain rfl:bU=hp:=by rw [Vi,Vj]
  refine ⟨.tuple #[],w,S,⟨n,tm,bU⟩,?_,r,iF.refl _ _ _,kk⟩
  cases oa<;>simp [execOp,e1,resolve,invoke,builtin,Builtin.clear_,run_underlying (ax.h (P:=P) (t:=t))]
 ·rcases e2 with ⟨_,_,hl,_,_⟩ | ⟨m,hb,rfl,h1,h2⟩ | ⟨_,_,_,_,hl,_⟩
  ·omega
  ·obtain ⟨g0,g1,⟨g2,_⟩ | ⟨m',vs,E,g2,g3,g4,g5⟩⟩:=oG r.hp (.inl u.nU)
   ·rw [g2] at hb;cases hb
   obtain rfl:m'=m:=by rw [g2] at hb;exact Option.some.inj hb
   obtain ⟨zl,RY⟩:=lS w S z (by rw [Hb];exact hE.2)
   rw [Hb] at zl RY
   have DZ:z.cells.size=sz:=by rw [← zl];exact hE.1
   have Pe:∀ y∈List.replicate N zx,El sz y:=fun y hy=>by rw [List.eq_of_mem_replicate hy];exact hE
   have IW:(Builtin.zeroCells z.cells N).size=N * sz:=by rw [size_zeroCells,DZ]
   have Gb:(flat (List.replicate N zx)).length=(Builtin.zeroCells z.cells N).size:=by rw [cA Pe,IW];simp
   have NS:mA w S (flat (List.replicate N zx)) (Builtin.zeroCells z.cells N):=by
    intro j c v hc hv
    have hj:j < N * sz:=by
     have:=(List.getElem?_eq_some_iff.1 hc).1
     rw [cA Pe] at this;simpa using this
    rw [xE hE.1 N j hj] at hc
    refine RY (j % sz) c v hc ?_
    unfold Builtin.zeroCells at hv
    simp only [Array.getElem?_map,Option.map_eq_some_iff] at hv
    obtain ⟨q,hq,rfl⟩:=hv
    have:q=j:=by
     rw [Array.getElem?_eq_some_iff] at hq
     obtain ⟨k1,k2⟩:=hq
     simpa using k2.symm
    subst this
    rw [DZ]
    have iO:q % sz < z.cells.size:=by rw [DZ];exact Nat.mod_lt _ sX
    simp [iO]
   have rk:=uv Gb NS (fun c hc=>by
    unfold flat at hc
    rw [List.mem_flatMap] at hc
    obtain ⟨y,hy,Vk⟩:=hc
    exact (Pe y hy).2 c Vk)
   have DY:=cA g0
   have hmul:(L+N) * sz≤xs.length * sz:=Nat.mul_le_mul_right _ hL
   have zk:xs.length * sz≤b.cap * sz:=Nat.mul_le_mul_right _ g1
   rw [Nat.add_mul] at hmul
   have Bq:=run_storeCells_at (P:=P) m' (L * sz) E (Builtin.zeroCells z.cells N).toList 0 vs w g3 (by simp [IW];omega) rk
   simp only [Nat.add_zero] at Bq
   have BH:flat (xs.take L++List.replicate N zx++xs.drop (L+N))=(flat xs).take (L * sz)++flat (List.replicate N zx)++(flat xs).drop (L * sz+(flat (List.replicate N zx)).length):=by
    rw [pc,pc,sF xs L g0,sE xs (L+N) g0,Gb,IW,Nat.add_mul]
   have GR:=fun (w':World) (ha:mA w' S (flat xs) vs) (hb:mA w' S (flat (List.replicate N zx)) (Builtin.zeroCells z.cells N))=>D3 (L * sz) (by rw [DY,g4];exact zk) ha Gb hb (by rw [Gb,IW,DY];omega)
   have GS:(vs.toList.take (L * sz)++(Builtin.zeroCells z.cells N).toList++vs.toList.drop (L * sz+(Builtin.zeroCells z.cells N).toList.length)).toArray.size=b.cap * sz:=by
    simp [IW];omega
   generalize (vs.toList.take (L * sz)++(Builtin.zeroCells z.cells N).toList++vs.toList.drop (L * sz+(Builtin.zeroCells z.cells N).toList.length)).toArray=yM at Bq GR GS
   have c:GB w (w.setRow m' yM) b.bY:=⟨⟨rfl,rfl,rfl,by simp,fun k hk wV=>setRow_other w m' k _ (fun e=>wV (by rw [g2,e]))⟩,fun _=>Nat.le_refl _⟩
   have k1:∀ n,S n→S n∧(w.setRow m' yM).heap[n]? =w.heap[n]?:=by
    intro k hk
    refine ⟨hk,setRow_other w m' k _ (fun e=>?_)⟩
    subst e
    exact (r.hp.sep _ u.nU.mem k (iN g2)).1 hk
   have hh:=sD r.hp u c id id ⟨fun y hy=>?_,by simp;omega,.inr ⟨m',yM,E,g2,setRow_heap w m' vs _ E _ g3,GS,by rw [BH];exact GR _ (g5.mono k1) (NS.mono k1)⟩⟩ (.inl rfl)
   ·refine ⟨.tuple #[],w.setRow m' yM,S,⟨n,tm,bU⟩,?_,r.heap hh.2.2 hh.1,hh.2.1,kk⟩
    obtain ⟨N',rfl⟩:∃ k,N=k+1:=⟨N - 1,by omega⟩
    simp [execOp,e1,resolve,invoke,builtin,Builtin.clear_,run_underlying (ax.h (P:=P) (t:=t)),zeroValue,typeInfo,aV.h (P:=P) (t:=e),hz,Bq]
   ·rcases List.mem_append.1 hy with h | h
    ·rcases List.mem_append.1 h with h | h
     ·exact g0 y (List.mem_of_mem_take h)
     ·exact Pe y h
    ·exact g0 y (List.mem_of_mem_drop h)
  ·omega
theorem Ef {α:Type} {g:α→AV} {Z:α} {Xs V:List α} {H:Int} {t e:TypeId} {i:TypeInfo} {z:Value} {x:Operand} {b:Bk} {L:Int} {sz:Nat} {bU:Heap} [ax P t (.slice e)] [aV P e i] (hx:cx tm x=some (.sl sz b L.toNat V.length)) (hz:i.zero=some z) (Hb:w5 z=g Z) (hJ:Nat.beq i.size sz=true) (uj:MH sz (g Z)=true) (sX:Nat.blt 0 sz=true) (hv:vu Xs L H=some V)
 (u:jY hp b (.arr sz (Xs.map g)) b (.arr sz ((BO Xs L V.length Z).map g)) bU) (kk:ae P all rest ⟨n,tm,bU⟩ Q):
 ae P all (⟨none,.call {callee:=.builtin .clear,args:=#[x],argTypes:=#[t]},ty,pos,af,none⟩ :: rest) ⟨n,tm,hp⟩ Q:=by
 obtain ⟨⟨h0,h1,h2⟩,_⟩:=pS hv
 have hlen:=(w8 hv).1
 refine Jp (xs:=Xs.map g) hx hz Hb hJ uj sX (by simp;omega) ?_ kk
 have:(BO Xs L V.length Z).map g=(Xs.map g).take L.toNat++List.replicate V.length (g Z)++(Xs.map g).drop (L.toNat+V.length):=by
  unfold BO
  simp
 rw [← this]
 exact u
end rules
end Go.Eng
namespace Go.Eng
open Go Go.Sort Go.Proofs
variable [bD]
structure Hc {α:Type} [Inhabited α] (P:Program) (f:FuncId) (enc:α→Value) (Dj:List α→List α):Prop where
 some_:∀ (bY off cap:Nat) (zs:List α) (w:World),Sort.Holds enc w bY off zs.toArray→bY < w.heap.size→zs.length < 4611686018427387904→Calls P f #[.slice (some ⟨bY,off,none⟩) zs.length cap] w fun e w'=>
  e=.returned (.tuple #[])∧∃ n os,w'=grow (putRow enc (Sort.ahead w n) bY off (Dj zs).toArray) os
 none_:∀ (p:Option Addr) (cap:Nat) (w:World),Calls P f #[.slice p 0 cap] w fun e w'=>e=.returned (.tuple #[])∧w'=w
def BP {α:Type} (Dj:List α→List α) (xs:List α):Option (List α):=if xs.length < 4611686018427387904 then some (Dj xs) else none
theorem zv {α:Type} [Inhabited α] (enc:α→Value) (w:World) (bY off m:Nat) (dk:Array α) (os:Array Obj) {n:Nat} (hn:n < w.heap.size) (wV:n≠bY):(grow (putRow enc (Sort.ahead w m) bY off dk) os).heap[n]? =w.heap[n]?:=by
 unfold putRow
 rw [heap_grow_old _ _ (by simpa [mapBlock] using hn)]
 simp only [mapBlock,heap_ahead,Array.getElem?_modify]
 rw [if_neg (fun h=>wV h.symm)]
theorem Hd {α:Type} [Inhabited α] (enc:α→Value) (w:World) (bY m:Nat) (dk:Array α) (os:Array Obj) {vs:Array Value} {E:TypeId} (hb:w.heap[bY]? =some (.cells vs E (0,0))):(grow (putRow enc (Sort.ahead w m) bY 0 dk) os).heap[bY]? =some (.cells (putCells enc 0 dk vs) E (0,0)):=by
 have iO:bY < w.heap.size:=by
  rcases Nat.lt_or_ge bY w.heap.size with h | h
  ·exact h
  ·simp [Array.getElem?_eq_none h] at hb
 unfold putRow
 rw [heap_grow_old _ _ (by simpa [mapBlock] using iO)]
 simp only [mapBlock,heap_ahead,Array.getElem?_modify]
 rw [if_pos trivial,hb]
 rfl
theorem pV {α:Type} {g:α→AV} (hc:∀ x,(g x).cells=[g x]):∀ xs:List α,flat (xs.map g)=xs.map g
 | []=>rfl
 | x :: r=>by rw [List.map_cons,gE,hc,pV hc r];rfl
theorem BQ {P:Program} {α:Type} [Inhabited α] {f:FuncId} {enc:α→Value} {Dj:List α→List α} (K:Hc P f enc Dj) {g:α→AV} (hg:∀ {w:World} {S:Nat→Prop} {x:α} {v:Value},At w S (g x) v→v=enc x) (KL:∀ (w:World) (S:Nat→Prop) (x:α),At w S (g x) (enc x)) (hc:∀ x,(g x).cells=[g x])
 (hlen:∀ xs,(Dj xs).length=xs.length) (rk:∀ x,(g x).one=true) {Xs Ys:List α} {b:Bk} (h:BP Dj Xs=some Ys):aF P f [.sl 1 b 0 Xs.length] [(b,.arr 1 (Xs.map g))] (T0 [(b,.arr 1 (Ys.map g))] (.kj [])):=by
 unfold BP at h
 split at h
 ·rename_i hJ
  obtain rfl:=Option.some.inj h
  intro w S vs r hl ha
  obtain ⟨v0,rfl⟩:∃ v0,vs=#[v0]:=by
   match vs,hl with
   | ⟨[v0]⟩,_=>exact ⟨v0,rfl⟩
  have a0:=ha 0 _ v0 rfl rfl
  obtain ⟨oa,cap,rfl,e2⟩:=a0.qB
  have MO:∀ (zs:List α),∀ y∈zs.map g,El 1 y:=by
   intro zs y hy
   obtain ⟨x,_,rfl⟩:=List.mem_map.1 hy
   exact ⟨by rw [hc];rfl,fun c CZ=>by rw [hc] at CZ;rw [List.mem_singleton.1 CZ];exact rk x⟩
  have Ll:Xs.length=0→Dj Xs=Xs:=fun h0=>by
   have h1:=hlen Xs
   have e1:Xs=[]:=List.eq_nil_of_length_eq_zero h0
   rw [e1]
   apply List.eq_nil_of_length_eq_zero
   rw [hlen];rfl
  rcases Nat.eq_zero_or_pos Xs.length with h0 | h0
  ·have hK:=K.none_ oa cap w
   rw [← h0] at hK
   refine hK.mono ?_
   rintro e w' ⟨rfl,rfl⟩
   rw [Ll h0]
   exact ⟨_,.kj [],_,S,rfl,⟨rfl,rfl⟩,.kj [] #[] rfl (fun i c v hc=>by simp at hc),r,iF.refl _ _ _⟩
  ·obtain ⟨_,h1,h2⟩:=r.holds _ (List.mem_singleton.2 rfl)
   simp only [List.length_map] at h1
   rcases h2 with ⟨_,GC⟩ | ⟨m,row,E,hb,xA,Nv,nQ⟩
   ·have NO:b.cap=0:=GC
    omega
   rcases e2 with ⟨hn,_,_,_,_⟩ | ⟨m',w4,rfl,hle,Qh⟩ | ⟨m',ad,_,_,MI,_⟩
   ·rw [hn] at hb;cases hb
   ·obtain rfl:m'=m:=by rw [w4] at hb;exact Option.some.inj hb
    have Lx:m' < w.heap.size:=by
     rcases Nat.lt_or_ge m' w.heap.size with h | h
     ·exact h
     ·simp [Array.getElem?_eq_none h] at xA
    have nS:¬ S m':=fun hs=>by have:=(r.sep _ (List.mem_singleton.2 rfl) m' (iN hb)).1 hs;exact this
    have Vl:row.size=b.cap:=by rw [Nv];exact Nat.mul_one _
    rw [pV hc] at nQ
    have hH:Sort.Holds enc w m' 0 Xs.toArray:=by
     intro j hj
     have ML:j < Xs.length:=by simpa using hj
     have Jn:j < row.size:=by omega
     have hv:=hg (nQ j (g Xs[j]) row[j] (by simp [ML]) (by simp [Jn]))
     constructor
     ·simp only [World.cell?,xA,Nat.zero_add,Option.isSome_none,Bool.false_eq_true,if_false]
      rw [Array.getElem?_eq_getElem Jn,hv]
      simp [ML]
     ·simp [World.frozen?,xA]
    simp only [Nat.zero_mul]
    refine (K.some_ m' 0 cap Xs w hH Lx hJ).mono ?_
    rintro e w' ⟨rfl,q,os,rfl⟩
    have hW:∀ n,S n→S n∧(grow (putRow enc (Sort.ahead w q) m' 0 (Dj Xs).toArray) os).heap[n]? =w.heap[n]?:=fun n hs=>
     ⟨hs,zv enc w m' 0 q _ os (r.slt n hs) (fun e=>nS (e▸hs))⟩
    have Ha:w.heap.size≤(grow (putRow enc (Sort.ahead w q) m' 0 (Dj Xs).toArray) os).heap.size:=by simp
    have YM:=hlen Xs
    have hh:Go.Eng.Holds (grow (putRow enc (Sort.ahead w q) m' 0 (Dj Xs).toArray) os) S b (.arr 1 ((Dj Xs).map g)):=by
     refine ⟨MO _,by simp;omega,.inr ⟨m',_,E,hb,Hd enc w m' q _ os xA,by simp [putCells,Nv],?_⟩⟩
     rw [pV hc]
     intro j c v MM hv
     have w6:j < (Dj Xs).length:=by have:=(List.getElem?_eq_some_iff.1 MM).1;simpa using this
     have Jn:j < row.size:=by omega
     rw [List.getElem?_map,List.getElem?_eq_getElem w6] at MM
     obtain rfl:=Option.some.inj MM
     simp only [putCells,Array.getElem?_mapIdx,Array.getElem?_eq_getElem Jn,Option.map_some,Option.some.injEq] at hv
     rw [if_pos ⟨Nat.zero_le _,by simp;omega⟩] at hv
     rw [← hv]
     have:(Dj Xs).toArray[j - 0]! =(Dj Xs)[j]:=by simp [w6]
     rw [this]
     exact KL _ _ _
    refine ⟨_,.kj [],_,S,rfl,⟨rfl,rfl⟩,.kj [] #[] rfl (fun i c v hc=>by simp at hc),⟨r.nodup,fun e he=>by rw [List.mem_singleton] at he;subst he;exact hh,fun e he n hn=>?_,fun n hn=>Nat.lt_of_lt_of_le (r.slt n hn) Ha,fun g o ho=>⟨(r.fU g o ho).1,xg (hW g (r.fU g o ho).1).2 (r.fU g o ho).2⟩⟩,?_⟩
    ·rw [List.mem_singleton] at he;subst he
     replace hn:=(rU rfl).1 hn
     rw [hb] at hn
     obtain rfl:=Option.some.inj hn
     exact ⟨fun hs=>(nS hs).elim,fun hf=>hf.elim⟩
    ·refine ⟨rfl,rfl,rfl,Ha,hW,fun n hn Qm=>⟨zv enc w m' 0 q _ os hn (fun e=>Qm ⟨_,List.mem_singleton.2 rfl,by rw [e];exact iN hb⟩),id⟩,?_,?_⟩
     ·rintro n ⟨e,he,pE⟩
      rw [List.mem_singleton] at he;subst he
      exact .inl ⟨_,List.mem_singleton.2 rfl,pE⟩
     ·intro _
      show w.drawn≤w.drawn+q
      omega
   ·omega
 ·cases h
def Fm (xs:List Int):List Int:=xs.mergeSort fun x y=>decide (x≤y)
theorem BR {P:Program} {f:FuncId} (K:Hc P f (Value.int .i64) Fm) {Xs Ys:List Int} {b:Bk} (h:BP Fm Xs=some Ys):aF P f [.sl 1 b 0 Xs.length] [(b,.arr 1 (Xs.map I))] (T0 [(b,.arr 1 (Ys.map I))] (.kj [])):=
 BQ K (g:=I) (fun h=>h.er) (fun w S x=>.int _ _) (fun _=>rfl) (fun xs=>List.length_mergeSort _) (fun _=>rfl) h
end Go.Eng
namespace Go.Eng
open Go
variable [bD]
def AV.He:AV→Bool
 | .sl _ _ _ _=>true
 | .ptr _ _=>true
 | .agg cs=>Bu cs
 | v=>v.Af
def Hf:List AV→Bool
 | []=>true
 | c :: r=>c.He&&Hf r
def AV.NT:AV→Bool
 | .kj cs=>Hf cs
 | v=>v.He
theorem Ar {w:World} {S S':Nat→Prop} {av:AV} {v:Value} (h:At w S av v) (hn:av.He=true):At w S' av v:=by
 cases h with
 | agg cs vs hl h=>exact .agg cs vs hl fun i c u hc hu=>r8 (h i c u hc hu) (r9 hn c (List.mem_of_getElem? hc))
 | sl sz b off len n cap hb h1 h2=>exact .sl sz b off len n cap hb h1 h2
 | xh sz b hb=>exact .xh sz b hb
 | IN sz b off n ad hb=>exact .IN sz b off n ad hb
 | ptr b o n hb=>exact .ptr b o n hb
 | int k n=>exact .int k n
 | bool b=>exact .bool b
 | str s=>exact .str s
 | nil=>exact .nil
 | raw v=>exact .raw v
 | _=>simp [AV.He,AV.Af] at hn
theorem xH:∀ {cs:List AV},Hf cs=true→∀ c∈cs,c.He=true
 | [],_,c,hc=>by simp at hc
 | x :: r,h,c,hc=>by
   simp only [Hf,Bool.and_eq_true] at h
   rcases List.mem_cons.1 hc with rfl | hc
   ·exact h.1
   ·exact xH h.2 c hc
theorem LA {w:World} {S S':Nat→Prop} {av:AV} {v:Value} (h:At w S av v) (hn:av.NT=true):At w S' av v:=by
 cases av with
 | kj cs=>
   cases h with
   | kj _ vs hl h=>exact .kj cs vs hl fun i c u hc hu=>Ar (h i c u hc hu) (xH hn c (List.mem_of_getElem? hc))
 | _=>exact Ar h hn
def Ob.KM:Ob→Prop
 | .cells cs=>Hf cs=true
 | .arr _ xs=>∀ x∈xs,Bu x.cells=true
 | _=>False
inductive Dk:Heap→Prop
 | nil:Dk []
 | cons {b:Bk} {o:Ob} {h:Heap} (c:o.KM) (k:Dk h):Dk ((b,o) :: h)
theorem Dk.mem {h:Heap} (k:Dk h):∀ e∈h,e.2.KM:=by
 induction k with
 | nil=>intro e he;simp at he
 | cons c k ih=>
   intro e he
   rcases List.mem_cons.1 he with rfl | he
   ·exact c
   ·exact ih e he
theorem KM.kL {α:Type} {g:α→AV} {sz:Nat} {Xs:List α} (h:∀ x,Bu (g x).cells=true):(Ob.arr sz (Xs.map g)).KM:=fun x hx=>by
 obtain ⟨y,_,rfl⟩:=List.mem_map.1 hx
 exact h y
theorem Holds.NT {w:World} {S S':Nat→Prop} {b:Bk} {o:Ob} (h:Holds w S b o) (hn:o.KM):Holds w S' b o:=by
 cases o with
 | cells cs=>
   obtain ⟨h0,n,vs,E,h1,h2,h3,h4⟩:=h
   exact ⟨h0,n,vs,E,h1,h2,h3,fun i c v hc hv=>Ar (h4 i c v hc hv) (xH hn c (List.mem_of_getElem? hc))⟩
 | arr sz xs=>
   obtain ⟨h0,h1,h2⟩:=h
   refine ⟨h0,h1,h2.imp id ?_⟩
   rintro ⟨n,vs,E,g1,g2,g3,g4⟩
   refine ⟨n,vs,E,g1,g2,g3,fun i c v hc hv=>r8 (g4 i c v hc hv) ?_⟩
   have hm:=List.mem_of_getElem? hc
   unfold flat at hm
   rw [List.mem_flatMap] at hm
   obtain ⟨x,hx,PM⟩:=hm
   exact r9 (hn x hx) c PM
 | wD _ _=>exact hn.elim
 | mp _=>exact hn.elim
 | Nd _ _=>exact hn.elim
 | z8 _ _ _=>exact hn.elim
 | Nf _ _ _=>exact hn.elim
 | bM _=>exact hn.elim
 | MD _ _ _ _=>exact hn.elim
section rules
variable {P:Program} {all:Array Oper} {rest:List Oper} {n:Nat} {tm:List (Nat×AV)} {hp:Heap} {Q:St→Prop} {d:Nat} {ty:TypeId} {pos:String} {af:Array Edge}
theorem Jq {f:FuncId} {args:List Operand} {ts:Array TypeId} {l l':List AV} {h0 hr:Heap} {Qc:AV→Heap→Prop} [bw P f] (hl:wZ tm args=some l) (c:aF P f l' h0 Qc) (co:sa hr l l') (hs:hp.Perm (h0++hr)) (hn:Nat.blt d n=true)
 (kk:∀ r h',Qc r h'→r.NT=true∧Dk h'∧ae P all rest ⟨n,(d,r) :: tm,h'++hr⟩ Q):ae P all (⟨some d,.call {callee:=.value (.func f),args:=args.toArray,argTypes:=ts},ty,pos,af,none⟩ :: rest) ⟨n,tm,hp⟩ Q:=by
 refine ae.DS rfl fun w S a r=>⟨f,_,ng a w,?_⟩
 obtain ⟨g1,g2⟩:=pP (σ:=⟨n,tm,hp⟩) r hl
 have rp:=r.hp.perm hs
 have LB:bZ w S hr:=rp.sub (List.sublist_append_right _ _)
 have KN:bZ w S h0:=rp.sub (List.sublist_append_left _ _)
 obtain ⟨g3,g4⟩:=sa.at LB co g1 g2
 have LC:∀ m,Has h0 m→¬ Has hr m:=by
  rintro m ⟨x,hx,Hg⟩ ⟨y,hy,RZ⟩
  have:=rp.nodup
  rw [List.flatMap_append,List.nodup_append] at this
  exact this.2.2 m (List.mem_flatMap.2 ⟨x,hx,Hg⟩) m (List.mem_flatMap.2 ⟨y,hy,RZ⟩) rfl
 have rh:bZ w (SB S hr) h0:=by
  refine ⟨KN.nodup,fun e he=>(KN.holds e he).mono (fun m hm=>⟨.inl hm,rfl⟩) (fun m _=>rfl),fun e he m hm=>?_,fun m hm=>?_,fun g o ho=>⟨.inl (KN.fU g o ho).1,(KN.fU g o ho).2⟩⟩
  ·constructor
   ·rintro (h | h)
    ·exact (KN.sep e he m hm).1 h
    ·exact (LC m ⟨e,he,hm⟩ h).elim
   ·exact fun h=>.inl ((KN.sep e he m hm).2 h)
  ·rcases hm with h | h
   ·exact KN.slt m h
   ·exact LB.lt h
 refine (c w (SB S hr) _ rh (by simpa using g3) g4).mono ?_
 rintro e w' ⟨v,res,h',S',rfl,hq,h3,h4,h5⟩
 obtain ⟨k1,k2,k3⟩:=kk res h' hq
 have Qn:∀ m,S m→(S' m∧(Has hr m→S m))∧w'.heap[m]? =w.heap[m]?:=fun m hm=>⟨⟨(h5.jX m (.inl hm)).1,fun _=>hm⟩,(h5.jX m (.inl hm)).2⟩
 have tM:bZ w' (fun m=>S' m∧(Has hr m→S m)) (h'++hr):=by
  refine ⟨?_,?_,?_,fun m hm=>h4.slt m hm.1,fun g o ho=>⟨⟨(h4.fU g o ho).1,fun _=>(KN.fU g o ho).1⟩,(h4.fU g o ho).2⟩⟩
  ·rw [List.flatMap_append,List.nodup_append]
   refine ⟨h4.nodup,LB.nodup,fun x hx y hy DV=>?_⟩
   subst DV
   obtain ⟨e1,PQ,Bt⟩:=List.mem_flatMap.1 hx
   obtain ⟨e2,IQ,MP⟩:=List.mem_flatMap.1 hy
   rcases h5.new x ⟨e1,PQ,Bt⟩ with h | h
   ·exact LC x h ⟨e2,IQ,MP⟩
   ·have:=LB.lt ⟨e2,IQ,MP⟩;omega
  ·intro e he
   rcases List.mem_append.1 he with he | he
   ·exact (h4.holds e he).NT (k2.mem e he)
   ·exact (LB.holds e he).mono Qn (fun m hm=>(h5.jX m (.inr ⟨e,he,hm⟩)).2)
  ·intro e he m hm
   rcases List.mem_append.1 he with he | he
   ·rw [← h4.sep e he m hm]
    refine ⟨fun h=>h.1,fun h=>⟨h,fun hh=>?_⟩⟩
    rcases h5.new m ⟨e,he,hm⟩ with h6 | h6
    ·exact (LC m h6 hh).elim
    ·have:=LB.lt hh;omega
   ·rw [← LB.sep e he m hm]
    exact ⟨fun h=>h.2 ⟨e,he,hm⟩,fun h=>⟨(h5.jX m (.inl h)).1,fun _=>h⟩⟩
 have Jr:∀ m,Has hp m↔Has h0 m∨Has hr m:=by
  intro m
  constructor
  ·rintro ⟨x,hx,hb⟩
   rcases List.mem_append.1 (hs.mem_iff.1 hx) with h | h
   ·exact .inl ⟨x,h,hb⟩
   ·exact .inr ⟨x,h,hb⟩
  ·rintro (⟨x,hx,hb⟩ | ⟨x,hx,hb⟩)
   ·exact ⟨x,hs.mem_iff.2 (List.mem_append_left _ hx),hb⟩
   ·exact ⟨x,hs.mem_iff.2 (List.mem_append_right _ hx),hb⟩
 refine ⟨v,fun m=>S' m∧(Has hr m→S m),⟨n,(d,res) :: tm,h'++hr⟩,rfl,(r.heap Qn tM).put hn (LA h3 k1),?_,k3⟩
 refine ⟨h5.os,h5.tape,h5.output,h5.size,Qn,fun m hm hh=>?_,fun m hm=>?_,h5.drawn⟩
 ·have n0:¬ Has h0 m:=fun h=>hh ((Jr m).2 (.inl h))
  have nr:¬ Has hr m:=fun h=>hh ((Jr m).2 (.inr h))
  obtain ⟨q1,q2⟩:=h5.other m hm n0
  refine ⟨q1,fun h=>?_⟩
  rcases q2 h.1 with h | h
  ·exact h
  ·exact (nr h).elim
 ·obtain ⟨x,hx,hb⟩:=hm
  rcases List.mem_append.1 hx with hx | hx
  ·rcases h5.new m ⟨x,hx,hb⟩ with h | h
   ·exact .inl ((Jr m).2 (.inl h))
   ·exact .inr h
  ·exact .inl ((Jr m).2 (.inr ⟨x,hx,hb⟩))
theorem xI {wh:Type} {f:FuncId} {args:List Operand} {ts:Array TypeId} {l l':List AV} {h0 hr:Heap} {H H':wh→Heap} {V:wh→AV} [bw P f] (hl:wZ tm args=some l) (c:aF P f l' h0 (T1 H V)) (hs:BF hp h0 hr) (co:sa hr l l') (ha:∀ b,pT (H b) hr=some (H' b)) (hV:∀ b,(V b).NT=true) (hH:∀ b,Dk (H b)) (hn:Nat.blt d n=true)
 (kk:∀ b,ae P all rest ⟨n,(d,V b) :: tm,H' b⟩ Q):ae P all (⟨some d,.call {callee:=.value (.func f),args:=args.toArray,argTypes:=ts},ty,pos,af,none⟩ :: rest) ⟨n,tm,hp⟩ Q:=
 Jq hl c co hs.perm hn (fun r h' ⟨b,e1,e2⟩=>by subst e1;subst e2;rw [lV (ha b)];exact ⟨hV b,hH b,kk b⟩)
end rules
class tu (K:Type) where
 lt:K→K→Bool
instance:tu Int:=⟨fun a b=>decide (a < b)⟩
instance:tu Bool:=⟨fun a b=>!a&&b⟩
instance:tu (List UInt8):=⟨fun a b=>Op.bytesLess a b⟩
section plain
variable {K V:Type}
def iY [DecidableEq K] (m:List (K×V)) (k:K):List (K×V):=m.filter (fun e=>decide (e.1≠k))
def tb [tu K] (k:K) (v:V):List (K×V)→List (K×V)
 | []=>[(k,v)]
 | e :: r=>if tu.lt e.1 k=true then e :: tb k v r else (k,v) :: e :: r
def bT [DecidableEq K] [tu K] (m:List (K×V)) (k:K) (v:V):List (K×V):=tb k v (iY m k)
def ch [DecidableEq K]:List (K×V)→K→Option V
 | [],_=>none
 | e :: r,k=>if e.1=k then some e.2 else ch r k
def nD [DecidableEq K] (m:List (K×V)) (k:K) (z:V):Option V:=some ((ch m k).getD z)
theorem pW [tu K] (k:K) (v:V):∀ (m:List (K×V)),(tb k v m).Perm ((k,v) :: m)
 | []=>List.Perm.refl _
 | e :: r=>by
   unfold tb
   split
   ·exact (List.Perm.cons e (pW k v r)).trans (List.Perm.swap _ _ _)
   ·exact List.Perm.refl _
theorem qF {α β:Type} (f:α→β):∀ (l:List β) (M:List α),l.Perm (M.map f)→∃ M':List α,M'.Perm M∧l=M'.map f
 | [],M,h=>by
   have:=h.nil_eq
   rw [eq_comm,List.map_eq_nil_iff] at this
   subst this;exact ⟨[],List.Perm.refl _,rfl⟩
 | x :: t,M,h=>by
   have hx:x∈M.map f:=h.mem_iff.1 (by simp)
   obtain ⟨e,he,rfl⟩:=List.mem_map.1 hx
   obtain ⟨p,q,rfl⟩:=List.append_of_mem he
   have h2:(f e :: t).Perm (f e :: (p++q).map f):=h.trans (by rw [List.map_append,List.map_cons,List.map_append];exact List.perm_middle)
   obtain ⟨M',h3,rfl⟩:=qF f t (p++q) (List.Perm.cons_inv h2)
   exact ⟨e :: M',(List.Perm.cons e h3).trans List.perm_middle.symm,rfl⟩
theorem BS [DecidableEq K] {k:K} {v:V}:∀ {m:List (K×V)},ch m k=some v→(k,v)∈m
 | [],h=>by cases h
 | e :: r,h=>by
   unfold ch at h
   split at h
   ·rename_i hk
    obtain rfl:=Option.some.inj h
    subst hk;simp
   ·exact List.mem_cons_of_mem _ (BS h)
theorem pg [DecidableEq K] {k:K} {v:V}:∀ {m:List (K×V)},(m.map Prod.fst).Nodup→(k,v)∈m→ch m k=some v
 | [],_,h=>by simp at h
 | e :: r,hn,h=>by
   rw [List.map_cons,List.nodup_cons] at hn
   unfold ch
   rcases List.mem_cons.1 h with rfl | h
   ·simp
   ·rw [if_neg (fun hk=>hn.1 (List.mem_map.2 ⟨_,h,hk.symm⟩))]
    exact pg hn.2 h
theorem oI [DecidableEq K] {k:K}:∀ {m:List (K×V)},ch m k=none↔∀ e∈m,e.1≠k
 | []=>by simp [ch]
 | e :: r=>by
   unfold ch
   split
   ·rename_i hk;simp [hk]
   ·rename_i hk
    rw [oI (m:=r)]
    simp [hk]
theorem mL [DecidableEq K] {m m':List (K×V)} (hp:m'.Perm m) (hn:(m'.map Prod.fst).Nodup) (k:K):ch m' k=ch m k:=by
 have Eb:(m.map Prod.fst).Nodup:=(hp.map _).nodup_iff.1 hn
 cases h:ch m' k with
 | none=>
   symm
   rw [oI] at h ⊢
   exact fun e he=>h e (hp.mem_iff.2 he)
 | some v=>exact (pg Eb (hp.mem_iff.1 (BS h))).symm
theorem sN [DecidableEq K] {m:List (K×V)} {k:K} (h:ch m k=none):iY m k=m:=by
 rw [oI] at h
 unfold iY
 exact List.filter_eq_self.2 fun e he=>by simpa using h e he
end plain
def xJ {K:Type} [DecidableEq K] (k:K):List K→List MapEntry→Nat→Option (Nat×Value)
 | k' :: ks,e :: es,i=>if k'=k then some (i,e.val) else xJ k ks es (i+1)
 | _,_,_=>none
class fI (P:Program) (t:TypeId) {K:Type} [DecidableEq K] (g:K→AV):Prop where
 inj:∀ a b,g a=g b→a=b
 check:∀ {w:World} {S:Nat→Prop} {k:K} {v:Value},At w S (g k) v→∀ (b:Bool) (w1:World),(Instr.checkKey b 10000 t v).run P w1=.ok () w1
 find:∀ {w:World} {S:Nat→Prop} {k:K} {v:Value},At w S (g k) v→∀ (es:List MapEntry) (ks:List K),ks.length=es.length→(∀ (i:Nat) k' e,ks[i]? =some k'→es[i]? =some e→At w S (g k') e.key)→∀ w1:World,(Instr.findKey t v es).run P w1=.ok (xJ k ks es 0) w1
 bits:∀ {w:World} {S:Nat→Prop} {k:K} {v u:Value},At w S (g k) v→At w S (g k) u→Instr.sameBits 10000 v u=true
theorem sO {K:Type} [DecidableEq K] {d:TypeDesc} {v:Value} {k:K} {q:K→Value→Prop} (hq:∀ k' u,q k' u→Instr.sameNow d v u=some (decide (k'=k))):∀ (es:List MapEntry) (ks:List K) (i:Nat),ks.length=es.length→(∀ (i:Nat) k' e,ks[i]? =some k'→es[i]? =some e→q k' e.key)→Instr.findNow d v es i=some (xJ k ks es i)
 | [],[],i,_,_=>rfl
 | [],k' :: ks,i,hl,_=>by simp at hl
 | e :: es,[],i,hl,_=>by simp at hl
 | e :: es,k' :: ks,i,hl,h=>by
   unfold Instr.findNow xJ
   rw [hq k' e.key (h 0 k' e rfl rfl)]
   by_cases hk:k'=k
   ·simp [hk]
   ·simp only [hk,decide_false,if_false]
    exact sO hq es ks (i+1) (by simpa using hl) (fun i k' e h1 h2=>h (i+1) k' e (by simpa using h1) (by simpa using h2))
theorem Hh (a b:ByteArray):((a==b)=true)↔a=b:=by
 cases a with
 | mk a=>
   cases b with
   | mk b=>
     show (a==b)=true↔_
     rw [beq_iff_eq]
     exact ⟨fun h=>by rw [h],fun h=>by cases h;rfl⟩
theorem fI.int {P:Program} {t:TypeId} {q:IntKind} (h:P.underlying t=some (.int q)):fI P t (K:=Int) (fun n=>AV.int q n) where
 inj a b h:=by simpa using h
 check:=fun {w S k v} hv b w1=>by
  rw [hv.er]
  have key:∀ n:Nat,(Instr.checkKey b (n+1) t (Value.int q k)).run P w1=.ok () w1:=fun n=>by simp [Instr.checkKey,run_underlying h]
  exact key 9999
 find:=fun {w S k v} hv es ks hl hk w1=>by
  rw [hv.er]
  have hf:=sO (d:=(.int q)) (v:=(Value.int q k)) (k:=k) (q:=fun k' u=>u=(Value.int q k')) (fun k' u hu=>by subst hu;simp only [Instr.sameNow,if_true];congr 1;rw [Bool.eq_iff_iff];simp;exact eq_comm) es ks 0 hl (fun i k' e h1 h2=>(hk i k' e h1 h2).er)
  simp [Instr.findKey,run_underlying h,hf]
 bits:=fun {w S k v u} h1 h2=>by rw [h1.er,h2.er];simp [Instr.sameBits]
theorem fI.bool {P:Program} {t:TypeId} (h:P.underlying t=some .bool):fI P t (K:=Bool) AV.bool where
 inj a b h:=by simpa using h
 check:=fun {w S k v} hv b w1=>by
  rw [hv.ko]
  have key:∀ n:Nat,(Instr.checkKey b (n+1) t (Value.bool k)).run P w1=.ok () w1:=fun n=>by simp [Instr.checkKey,run_underlying h]
  exact key 9999
 find:=fun {w S k v} hv es ks hl hk w1=>by
  rw [hv.ko]
  have hf:=sO (d:=.bool) (v:=(Value.bool k)) (k:=k) (q:=fun k' u=>u=(Value.bool k')) (fun k' u hu=>by subst hu;simp only [Instr.sameNow];congr 1;rw [Bool.eq_iff_iff];simp;exact eq_comm) es ks 0 hl (fun i k' e h1 h2=>(hk i k' e h1 h2).ko)
  simp [Instr.findKey,run_underlying h,hf]
 bits:=fun {w S k v u} h1 h2=>by rw [h1.ko,h2.ko];simp [Instr.sameBits]
theorem fI.str {P:Program} {t:TypeId} (h:P.underlying t=some .string):fI P t (K:=List UInt8) AV.str where
 inj a b h:=by simpa using h
 check:=fun {w S k v} hv b w1=>by
  rw [hv.et]
  have key:∀ n:Nat,(Instr.checkKey b (n+1) t (Value.string ⟨k.toArray⟩)).run P w1=.ok () w1:=fun n=>by simp [Instr.checkKey,run_underlying h]
  exact key 9999
 find:=fun {w S k v} hv es ks hl hk w1=>by
  rw [hv.et]
  have hf:=sO (d:=.string) (v:=(Value.string ⟨k.toArray⟩)) (k:=k) (q:=fun k' u=>u=(Value.string ⟨k'.toArray⟩)) (fun k' u hu=>by subst hu;simp only [Instr.sameNow];congr 1;rw [Bool.eq_iff_iff,Hh];simp;exact eq_comm) es ks 0 hl (fun i k' e h1 h2=>(hk i k' e h1 h2).et)
  simp [Instr.findKey,run_underlying h,hf]
 bits:=fun {w S k v u} h1 h2=>by rw [h1.et,h2.et];simp only [Instr.sameBits];exact (Hh _ _).2 rfl
instance {P:Program} {t:TypeId} [h:ax P t (.int .i64)]:fI P t (K:=Int) I:=fI.int h.h
instance {P:Program} {t:TypeId} [h:ax P t .bool]:fI P t (K:=Bool) AV.bool:=fI.bool h.h
instance {P:Program} {t:TypeId} [h:ax P t .string]:fI P t (K:=List UInt8) AV.str:=fI.str h.h
theorem gM {P:Program} {w:World} {r:Nat} {es:Array MapEntry} {c:Nat} (h:w.heap[r]? =some (.map es c)):(getObj r).run P w=.ok (.map es c) w:=by
 simp only [getObj,Sem.run,h]
def vz (w:World) (r:Nat) (o:Obj):World:={w with heap:=w.heap.setIfInBounds r o}
theorem oS {P:Program} {w:World} {r:Nat} {es:Array MapEntry} {c:Nat} (o:Obj) (h:w.heap[r]? =some (.map es c)):(setObj r o).run P w=.ok () (vz w r o):=by
 simp only [setObj,Sem.run,h];rfl
theorem pX {w:World} {r:Nat} {o o':Obj} (h:w.heap[r]? =some o'):(vz w r o).heap[r]? =some o:=by
 have iO:r < w.heap.size:=(Array.getElem?_eq_some_iff.1 h).1
 simp [vz,Array.getElem?_setIfInBounds,iO]
theorem xK {w:World} {r k:Nat} {o:Obj} (h:k≠r):(vz w r o).heap[k]? =w.heap[k]?:=by
 simp [vz,Array.getElem?_setIfInBounds,Ne.symm h]
theorem Js {w:World} {r:Nat} {o:Obj} {x:Option Nat} (hx:x=some r):GB w (vz w r o) x:=
 ⟨⟨rfl,rfl,rfl,by simp [vz],fun k hk wV=>xK (fun e=>wV (by rw [hx,e]))⟩,fun _=>Nat.le_refl _⟩
theorem Jt (w:World) (x:Option Nat):GB w w x:=⟨⟨rfl,rfl,rfl,Nat.le_refl _,fun _ _ _=>rfl⟩,fun _=>Nat.le_refl _⟩
theorem Ext.heap {w w':World} {n:Nat} {o:Obj} (e:Ext w w') (h:w.heap[n]? =some o):w'.heap[n]? =some o:=by
 rw [e.same n (Array.getElem?_eq_some_iff.1 h).1];exact h
theorem At.oT {w:World} {S:Nat→Prop} {b:Bk} {v:Value} (h:At w S (.ct b) v):∃ n,b.bY=some n∧v=.map (some n):=by cases h with | ct _ n hb=>exact ⟨n,hb,rfl⟩
theorem Hi (w:World) (S:Nat→Prop) (z:Value) (h1:iV (w5 z).cells=true):At w S (w5 z) z:=by
 by_cases hz:∃ cs,z=.agg cs
 ·obtain ⟨cs,rfl⟩:=hz
  obtain ⟨h2,h3⟩:=lS w S (.agg cs) (cL h1)
  exact .agg _ _ h2 h3
 ·have IW:w5 z=Kt z:=by
   cases z<;>first | rfl | (exact (hz ⟨_,rfl⟩).elim)
  rw [IW];exact Aa w S z
theorem sP {K V:Type} {gk:K→AV} {gv:V→AV} {w:World} {S:Nat→Prop} {hp:Heap} {b:Bk} {M:List (K×V)} (Hj:∀ a b,gk a=gk b→a=b) (r:bZ w S hp) (f:ki hp b (.mp (M.map fun e=>(gk e.1,gv e.2)))):
 ∃ (L:List mI) (c:Nat) (M':List (K×V)) (n:Nat) (eF:Array MapEntry),M'.Perm M∧L.map mI.kv=M'.map (fun e=>(gk e.1,gv e.2))∧qA w S b L c∧b.bY=some n∧w.heap[n]? =some (.map eF c)∧eF.toList.length=M'.length∧
   (∀ (i:Nat) e m,M'[i]? =some e→eF.toList[i]? =some m→At w S (gk e.1) m.key∧At w S (gv e.2) m.val)∧(M'.map Prod.fst).Nodup:=by
 obtain ⟨L,c,kr,hH⟩:=r.holds _ f.mem
 obtain ⟨M',h1,h2⟩:=qF _ _ _ kr
 have Qo:=hH
 obtain ⟨n,eF,g1,g2,g3,g4,g5,g6,g7⟩:=hH
 have hlen:L.length=M'.length:=by have:=congrArg List.length h2;simpa using this
 refine ⟨L,c,M',n,eF,h1,h2,Qo,g1,g2,by rw [Array.length_toList,g3,hlen],fun i e m he hm=>?_,?_⟩
 ·have:(L.map mI.kv)[i]? =some (gk e.1,gv e.2):=by rw [h2,List.getElem?_map,he];rfl
  rw [List.getElem?_map] at this
  cases hL:L[i]? with
  | none=>rw [hL] at this;cases this
  | some x=>
    rw [hL] at this
    have hx:(x.k,x.v)=(gk e.1,gv e.2):=Option.some.inj this
    obtain ⟨q1,q2⟩:=Prod.mk.inj hx
    have:=g4 i x m hL (by simpa using hm)
    rw [q1,q2] at this
    exact this.2
 ·have hk:L.map (·.k)=(M'.map Prod.fst).map gk:=by
   have:=congrArg (List.map Prod.fst) h2
   simpa [List.map_map,Function.comp_def,mI.kv] using this
  rw [hk] at g7
  exact (List.pairwise_map.1 g7).imp (fun h e=>h (by rw [e]))
theorem pY {α:Type} {l:List α} {j:Nat} {x:α} (h:l[j]? =some x):l.set j x=l:=by
 apply List.ext_getElem?
 intro i
 rw [List.getElem?_set]
 by_cases uk:j=i
 ·subst uk
  have:=(List.getElem?_eq_some_iff.1 h).1
  rw [if_pos rfl,if_pos this,h]
 ·simp [uk]
theorem qG {K V:Type} [DecidableEq K] {gv:V→AV} {w:World} {S:Nat→Prop} {k:K}:∀ (M:List (K×V)) (es:List MapEntry) (i:Nat),M.length=es.length→(∀ (j:Nat) e m,M[j]? =some e→es[j]? =some m→At w S (gv e.2) m.val)→
 (ch M k=none∧xJ k (M.map Prod.fst) es i=none)∨∃ v j val,ch M k=some v∧xJ k (M.map Prod.fst) es i=some (i+j,val)∧At w S (gv v) val∧M[j]? =some (k,v)
 | [],[],i,_,_=>.inl ⟨rfl,rfl⟩
 | [],m :: es,i,hl,_=>by simp at hl
 | e :: M,[],i,hl,_=>by simp at hl
 | e :: M,m :: es,i,hl,h=>by
   unfold ch
   simp only [List.map_cons,xJ]
   by_cases hk:e.1=k
   ·simp only [hk,if_true]
    refine .inr ⟨e.2,0,m.val,rfl,rfl,h 0 e m rfl rfl,?_⟩
    subst hk;rfl
   ·simp only [hk,if_false]
    rcases qG M es (i+1) (by simpa using hl) (fun j e' m' h1 h2=>h (j+1) e' m' (by simpa using h1) (by simpa using h2)) with ⟨h1,h2⟩ | ⟨v,j,val,h1,h2,h3,h4⟩
    ·exact .inl ⟨h1,h2⟩
    ·exact .inr ⟨v,j+1,val,h1,by rw [h2];congr 2;omega,h3,by simpa using h4⟩
section rules
variable {P:Program} {all:Array Oper} {rest:List Oper} {n:Nat} {tm:List (Nat×AV)} {hp:Heap} {Q:St→Prop} {d:Nat} {ty:TypeId} {pos:String} {af:Array Edge}
theorem vA {t:TypeId} (hn:Nat.blt d n=true) (kk:∀ b:Bk,ae P all rest ⟨n,(d,.ct b) :: tm,(b,.mp []) :: hp⟩ Q):ae P all (⟨some d,.makeMap t none,ty,pos,af,none⟩ :: rest) ⟨n,tm,hp⟩ Q:=by
 refine ae.Gr rfl fun w S a r=>?_
 have hh:Holds (w.alloc (.map #[] 0)) S ⟨some w.heap.size,0⟩ (.mp []):=⟨[],0,List.Perm.refl _,w.heap.size,#[],rfl,by show (w.heap.push _)[w.heap.size]? =_;simp,rfl,by simp,by simp,by simp,by simp⟩
 obtain ⟨k1,k2,k3⟩:=nf r.hp (Ext.alloc w (.map #[] 0)) id hh (.inr ⟨_,rfl,Nat.le_refl _⟩)
 exact ⟨.map (some w.heap.size),w.alloc (.map #[] 0),S,_,by simp [execOp,Instr.makeMap],(r.heap k3 k1).put hn (.ct _ _ rfl),k2,kk ⟨some w.heap.size,0⟩⟩
theorem xL {K V:Type} [DecidableEq K] {gk:K→AV} {gv:V→AV} {M:List (K×V)} {key:K} {Z v:V} {t kt vt:TypeId} {i:TypeInfo} {z:Value} {x y:Operand} {b:Bk} {av:AV} [ax P t (.map kt vt)] [aV P vt i] [fI P kt gk] (hx:cx tm x=some (.ct b)) (hy:cx tm y=some (gk key)) (f:ki hp b (.mp (M.map fun e=>(gk e.1,gv e.2)))) (hz:i.zero=some z) (Hb:w5 z=gv Z) (h1:iV (w5 z).cells=true) (h:nD M key Z=some v) (nz:gv v=av):
 QV P ⟨some d,.lookup t x y false,ty,pos,af,none⟩ ⟨n,tm,hp⟩ av:=by
 intro w S a r
 have kx:=bf (σ:=⟨n,tm,hp⟩) r hx
 have ky:=bf (σ:=⟨n,tm,hp⟩) r hy
 obtain ⟨nb,hb,ex⟩:=kx.oT
 obtain ⟨L,c,M',C0,eF,p1,p2,p3,p4,p5,p6,p7,p8⟩:=sP (fI.inj P kt) r.hp f
 obtain rfl:C0=nb:=by rw [p4] at hb;exact Option.some.inj hb
 unfold nD at h
 have hv:=Option.some.inj h
 rw [← mL p1 p8] at hv
 have oU:=fI.find (P:=P) (t:=kt) (g:=gk) ky eF.toList (M'.map Prod.fst) (by simpa using p6.symm) (fun j k' e h1 h2=>by
  rw [List.getElem?_map] at h1
  cases hm:M'[j]? with
  | none=>rw [hm] at h1;cases h1
  | some q=>rw [hm] at h1;rw [← Option.some.inj h1];exact (p7 j q e hm h2).1)
 rcases qG (gv:=gv) (w:=w) (S:=S) (k:=key) M' eF.toList 0 p6.symm (fun j e m h1 h2=>(p7 j e m h1 h2).2) with ⟨q1,q2⟩ | ⟨v',j,val,q1,q2,q3,_⟩
 ·refine ⟨z,fun w1 e1=>?_,?_⟩
  ·simp [execOp,Instr.lookup,ex,run_underlying (ax.h (P:=P) (t:=t)),gM (e1.heap p5),fI.check (P:=P) (t:=kt) ky,oU,q2,zeroValue,typeInfo,aV.h (P:=P) (t:=vt),hz]
  ·rw [← nz,← hv,q1,Option.getD_none,← Hb];exact Hi w S z h1
 ·refine ⟨val,fun w1 e1=>?_,?_⟩
  ·simp [execOp,Instr.lookup,ex,run_underlying (ax.h (P:=P) (t:=t)),gM (e1.heap p5),fI.check (P:=P) (t:=kt) ky,oU,q2]
  ·rw [← nz,← hv,q1,Option.getD_some];exact q3
theorem pZ {w:World} {S:Nat→Prop} {hp bU:Heap} {b:Bk} {m:Nat} {o o':Ob} {ob Gc:Obj} (r:bZ w S hp) (u:jY hp b o b o' bU) (hb:b.bY=some m) (ho:w.heap[m]? =some Gc) (hf:¬ o.vV) (PR:¬ o'.vV) (hh:(∀ n,S n→S n∧(vz w m ob).heap[n]? =w.heap[n]?)→Holds (vz w m ob) S b o') (hm:o'.more=[]:=by rfl):
 bZ (vz w m ob) S bU∧iF w S hp (vz w m ob) S bU∧∀ n,S n→S n∧(vz w m ob).heap[n]? =w.heap[n]?:=by
 have k1:∀ n,S n→S n∧(vz w m ob).heap[n]? =w.heap[n]?:=fun k hk=>⟨hk,xK (fun e=>by
  subst e
  exact hf ((r.sep _ u.nU.mem _ (iN hb)).1 hk))⟩
 exact sD r u (Js hb) hf PR (hh k1) (.inl rfl) hm
theorem BT {K V:Type} [DecidableEq K] [tu K] {gk:K→AV} {gv:V→AV} {M:List (K×V)} {key:K} {v:V} {t kt vt:TypeId} {x y z:Operand} {b:Bk} {av:AV} {bU:Heap} [ax P t (.map kt vt)] [fI P kt gk] (hx:cx tm x=some (.ct b)) (hy:cx tm y=some (gk key)) (hz:cx tm z=some av) (nz:av=gv v) (u:jY hp b (.mp (M.map fun e=>(gk e.1,gv e.2))) b (.mp ((bT M key v).map fun e=>(gk e.1,gv e.2))) bU)
 (kk:ae P all rest ⟨n,tm,bU⟩ Q):ae P all (⟨none,.mapUpdate t x y z,ty,pos,af,none⟩ :: rest) ⟨n,tm,hp⟩ Q:=by
 refine ae.act rfl rfl (fun w S a r=>?_) kk
 have kx:=bf (σ:=⟨n,tm,hp⟩) r hx
 have ky:=bf (σ:=⟨n,tm,hp⟩) r hy
 have kz:=bf (σ:=⟨n,tm,hp⟩) r hz
 obtain ⟨nb,hb,ex⟩:=kx.oT
 obtain ⟨L,c,M',C0,eF,p1,p2,p3,p4,p5,p6,p7,p8⟩:=sP (fI.inj P kt) r.hp u.nU
 obtain rfl:C0=nb:=by rw [p4] at hb;exact Option.some.inj hb
 have oU:=fI.find (P:=P) (t:=kt) (g:=gk) ky eF.toList (M'.map Prod.fst) (by simpa using p6.symm) (fun j k' e h1 h2=>by
  rw [List.getElem?_map] at h1
  cases hm:M'[j]? with
  | none=>rw [hm] at h1;cases h1
  | some q=>rw [hm] at h1;rw [← Option.some.inj h1];exact (p7 j q e hm h2).1)
 obtain ⟨II,ft,g1,g2,g3,g4,g5,g6,g7⟩:=p3
 obtain rfl:II=C0:=by rw [p4] at g1;exact (Option.some.inj g1).symm
 obtain rfl:ft=eF:=by rw [p5] at g2;exact (Obj.map.inj (Option.some.inj g2)).1.symm
 have Pf:L.length=M'.length:=by have:=congrArg List.length p2;simpa using this
 have LD:∀ (j:Nat) (x:mI) (e:K×V),L[j]? =some x→M'[j]? =some e→x.k=gk e.1∧x.v=gv e.2:=by
  intro j x e h1 h2
  have:(L.map mI.kv)[j]? =(M'.map fun e=>(gk e.1,gv e.2))[j]?:=by rw [p2]
  rw [List.getElem?_map,List.getElem?_map,h1,h2] at this
  exact Prod.mk.inj (Option.some.inj this)
 rcases qG (gv:=gv) (w:=w) (S:=S) (k:=key) M' ft.toList 0 p6.symm (fun j e m h1 h2=>(p7 j e m h1 h2).2) with ⟨q1,q2⟩ | ⟨v',j,val,q1,q2,q3,q4⟩
 ·
  have hw:=pZ (ob:=.map (ft.push ⟨a.eval y,a.eval z,c⟩) (c+1)) r.hp u p4 p5 id id (fun k1=>by
   refine ⟨L++[⟨gk key,gv v,c⟩],c+1,?_,II,ft.push ⟨a.eval y,a.eval z,c⟩,p4,pX p5,by simp [g3],?_,?_,?_,?_⟩
   ·rw [List.map_append,p2]
    refine List.Perm.trans ?_ ((pW key v (iY M key)).symm.map _)
    rw [sN (by rw [← mL p1 p8];exact q1)]
    exact List.perm_append_comm.trans (List.Perm.cons _ (p1.map _))
   ·intro i e m he hm
    rw [Array.getElem?_push] at hm
    rcases Nat.lt_or_ge i L.length with hi | hi
    ·rw [List.getElem?_append_left hi] at he
     rw [if_neg (by omega)] at hm
     obtain ⟨s1,s2,s3⟩:=g4 i e m he hm
     exact ⟨s1,s2.mono k1,s3.mono k1⟩
    ·have BB:i=L.length:=by
      have:=(List.getElem?_eq_some_iff.1 he).1
      simp at this;omega
     subst BB
     rw [if_pos g3.symm] at hm
     simp at he
     obtain rfl:=Option.some.inj hm
     subst he
     exact ⟨rfl,ky.mono k1,by rw [nz] at kz;exact kz.mono k1⟩
   ·intro e he
    rcases List.mem_append.1 he with h | h
    ·have:=g5 e h;omega
    ·simp at h;subst h;simp
   ·rw [List.map_append,List.nodup_append]
    refine ⟨g6,by simp,fun a1 ha b1 Bt yI=>?_⟩
    simp at Bt
    subst Bt
    obtain ⟨e,he,rfl⟩:=List.mem_map.1 ha
    have:=g5 e he
    omega
   ·rw [List.map_append,List.nodup_append]
    refine ⟨g7,by simp,fun a1 ha b1 Bt yI=>?_⟩
    simp at Bt
    subst Bt
    obtain ⟨e,he,rfl⟩:=List.mem_map.1 ha
    obtain ⟨j,hj⟩:=List.getElem?_of_mem he
    have w6:j < M'.length:=by rw [← Pf];exact (List.getElem?_eq_some_iff.1 hj).1
    have:=(LD j e M'[j] hj (List.getElem?_eq_getElem w6)).1
    rw [this] at yI
    exact (oI.1 q1) M'[j] (List.getElem_mem w6) (fI.inj P kt _ _ yI))
  refine ⟨_,S,?_,r.heap hw.2.2 hw.1,hw.2.1⟩
  simp [execOp,Instr.mapUpdate,ex,run_underlying (ax.h (P:=P) (t:=t)),gM p5,fI.check (P:=P) (t:=kt) ky,oU,q2,oS _ p5]
 ·
  have w6:j < ft.toList.length:=by rw [p6];exact (List.getElem?_eq_some_iff.1 q4).1
  have Ak:j < ft.size:=by simpa using w6
  have MQ:ft.toList[j]? =some ft[j]:=by simp [Ak]
  have IH:=(p7 j _ _ q4 MQ).1
  have Hk:Instr.sameBits 10000 ft[j].key (a.eval y)=true:=fI.bits (P:=P) (t:=kt) IH ky
  have wi:j < L.length:=by omega
  have hw:=pZ (ob:=.map (ft.modify j fun e=>{e with key:=a.eval y,val:=a.eval z}) c) r.hp u p4 p5 id id (fun k1=>by
   refine ⟨L.set j ⟨gk key,gv v,L[j].born⟩,c,?_,II,_,p4,pX p5,by simp [g3],?_,?_,?_,?_⟩
   ·rw [List.map_set]
    refine List.Perm.trans ?_ ((pW key v (iY M key)).symm.map _)
    have e1:(L.map mI.kv).set j (gk key,gv v)=(M'.set j (key,v)).map fun e=>(gk e.1,gv e.2):=by rw [p2,List.map_set]
    show ((L.map mI.kv).set j (gk key,gv v)).Perm _
    rw [e1]
    refine List.Perm.map _ ?_
    have KO:j < M'.length:=by omega
    have e2:M'=M'.take j++(key,v') :: M'.drop (j+1):=by
     have:=List.take_append_drop j M'
     rw [List.drop_eq_getElem_cons KO] at this
     have hq:M'[j]=(key,v'):=by rw [List.getElem?_eq_getElem KO] at q4;exact Option.some.inj q4
     rw [hq] at this
     exact this.symm
    have e3:M'.set j (key,v)=M'.take j++(key,v) :: M'.drop (j+1):=by
     rw [List.set_eq_take_append_cons_drop,if_pos KO]
    rw [e3]
    refine List.perm_middle.trans (List.Perm.cons _ ?_)
    have e4:iY M' key=M'.take j++M'.drop (j+1):=by
     have LF:=p8
     rw [e2,List.map_append,List.map_cons,List.nodup_append,List.nodup_cons] at LF
     unfold iY
     rw [e2,List.filter_append,List.filter_cons]
     simp only [ne_eq,not_true_eq_false,decide_false,Bool.false_eq_true,if_false]
     rw [← e2]
     congr 1
     ·refine List.filter_eq_self.2 fun e he=>?_
      simp only [decide_not,Bool.not_eq_true',decide_eq_false_iff_not]
      intro hk
      exact LF.2.2 e.1 (List.mem_map.2 ⟨e,he,rfl⟩) key (by simp) hk
     ·refine List.filter_eq_self.2 fun e he=>?_
      simp only [decide_not,Bool.not_eq_true',decide_eq_false_iff_not]
      intro hk
      exact LF.2.1.1 (List.mem_map.2 ⟨e,he,hk⟩)
    rw [← e4]
    exact p1.filter _
   ·intro i e m he hm
    rw [Array.getElem?_modify] at hm
    rw [List.getElem?_set] at he
    by_cases uk:j=i
    ·subst uk
     simp only [if_true,wi] at he
     simp only [if_true,Array.getElem?_eq_getElem Ak,Option.map_some] at hm
     obtain rfl:=Option.some.inj he
     obtain rfl:=Option.some.inj hm
     refine ⟨(g4 j L[j] ft[j] (List.getElem?_eq_getElem wi) (Array.getElem?_eq_getElem Ak)).1,ky.mono k1,by rw [nz] at kz;exact kz.mono k1⟩
    ·rw [if_neg uk] at he hm
     obtain ⟨s1,s2,s3⟩:=g4 i e m he hm
     exact ⟨s1,s2.mono k1,s3.mono k1⟩
   ·intro e he
    rcases List.mem_or_eq_of_mem_set he with h | h
    ·exact g5 e h
    ·subst h;exact g5 L[j] (List.getElem_mem wi)
   ·rw [List.map_set]
    have:(L.map (·.born)).set j L[j].born=L.map (·.born):=by
     exact pY (by rw [List.getElem?_map,List.getElem?_eq_getElem wi];rfl)
    rw [this];exact g6
   ·rw [List.map_set]
    have:(L.map (·.k)).set j (gk key)=L.map (·.k):=by
     have hk:=(LD j L[j] _ (List.getElem?_eq_getElem wi) q4).1
     exact pY (by rw [List.getElem?_map,List.getElem?_eq_getElem wi,Option.map_some,hk])
    rw [this];exact g7)
  refine ⟨_,S,?_,r.heap hw.2.2 hw.1,hw.2.1⟩
  simp [execOp,Instr.mapUpdate,ex,run_underlying (ax.h (P:=P) (t:=t)),gM p5,fI.check (P:=P) (t:=kt) ky,oU,q2,Instr.keyThatStays,Ak,Hk,oS _ p5]
theorem Hl {K V:Type} [DecidableEq K] [tu K] {gk:K→AV} {gv:V→AV} {M:List (K×V)} {key:K} {v:V} {t kt vt:TypeId} {x y z:Operand} {b:Bk} {av:AV} {bU:Heap} [ax P t (.map kt vt)] [fI P kt gk] (hx:cx tm x=some (.ct b)) (hy:cx tm y=some (gk key)) (hz:cx tm z=some av) (nz:av=gv v) (u:jY hp b (.mp (M.map fun e=>(gk e.1,gv e.2))) b (.mp ((bT M key v).map fun e=>(gk e.1,gv e.2))) bU)
 (kk:ae P all rest ⟨n,tm,bU⟩ Q):ae P all (⟨none,.insert t x y z,ty,pos,af,none⟩ :: rest) ⟨n,tm,hp⟩ Q:=by
 intro w S a r
 have:=BT (all:=all) (rest:=rest) (ty:=ty) (pos:=pos) (af:=af) (t:=t) (kt:=kt) (vt:=vt) (gk:=gk) (gv:=gv) hx hy hz nz u kk w S a r
 unfold wpList at this ⊢
 exact this
end rules
section rules
variable {P:Program} {all:Array Oper} {rest:List Oper} {n:Nat} {tm:List (Nat×AV)} {hp:Heap} {Q:St→Prop} {d:Nat} {ty:TypeId} {pos:String} {af:Array Edge}
end rules
theorem aD {α β:Type} {o:Option α} {f:α→Option β} {r:β} {C:Prop} (h:o.bind f=some r) (k:∀ v,o=some v→f v=some r→C):C:=
 let ⟨v,h1,h2⟩:=RQ h;k v h1 h2
def zw:Heap→Nat→Option ((Bk×Ob)×Heap)
 | [],_=>none
 | e :: h,0=>some (e,h)
 | e :: h,i+1=>match zw h i with
   | some (x,h')=>some (x,e :: h')
   | none=>none
def xM:Heap→List Nat→Option Heap
 | _,[]=>some []
 | h,i :: r=>match zw h i with
   | some (e,h')=>match xM h' r with
     | some t=>some (e :: t)
     | none=>none
   | none=>none
theorem zy:∀ {h:Heap} {i:Nat} {e:Bk×Ob} {h':Heap},zw h i=some (e,h')→ui h e.1 e.2 h'
 | [],_,_,_,hh=>by simp [zw] at hh
 | x :: h,0,e,h',hh=>by
   simp only [zw,Option.some.injEq,Prod.mk.injEq] at hh
   obtain ⟨rfl,rfl⟩:=hh
   exact .here
 | x :: h,i+1,e,h',hh=>by
   simp only [zw] at hh
   split at hh
   ·rename_i y h1 h2
    simp only [Option.some.injEq,Prod.mk.injEq] at hh
    obtain ⟨rfl,rfl⟩:=hh
    exact .next (zy h2)
   ·cases hh
theorem uG:∀ {l:List Nat} {h t:Heap},xM h l=some t→HS h t
 | [],h,t,hh=>by
   simp only [xM,Option.some.injEq] at hh
   subst hh;exact .nil
 | i :: r,h,t,hh=>by
   simp only [xM] at hh
   split at hh
   ·rename_i e h' h1
    split at hh
    ·rename_i t' h2
     obtain rfl:=Option.some.inj hh
     exact .cons (zy h1) (uG h2)
    ·cases hh
   ·cases hh
def Hm (tm:List (Nat×AV)):List Nat→Option (List (Nat×AV))
 | []=>some []
 | s :: r=>match lk tm s with
   | some av=>match Hm tm r with
     | some l=>some ((s,av) :: l)
     | none=>none
   | none=>none
theorem BU {tm:List (Nat×AV)}:∀ {l:List Nat} {nB:List (Nat×AV)},Hm tm l=some nB→zi tm nB
 | [],nB,h=>by
   simp only [Hm,Option.some.injEq] at h
   subst h;exact True.intro
 | s :: r,nB,h=>by
   simp only [Hm] at h
   split at h
   ·rename_i av h1
    split at h
    ·rename_i t' h2
     obtain rfl:=Option.some.inj h
     exact ⟨h1,BU h2⟩
    ·cases h
   ·cases h
theorem aj.lq {n:Nat} {tm nB:List (Nat×AV)} {hp bU:Heap} {T:St→Prop} (is:List Nat) (h:T ⟨n,nB,bU⟩) (ht:Hm tm (nB.map Prod.fst)=some nB) (hs:xM hp is=some bU):aj ⟨n,tm,hp⟩ T:=
 aj.Nw (BU ht) (uG hs) (aj.here h)
theorem ki.p0 {b:Bk} {o:Ob} {h:Heap}:ki ((b,o) :: h) b o:=.here
theorem jY.p0 {b b':Bk} {o o':Ob} {h:Heap}:jY ((b,o) :: h) b o b' o' ((b',o') :: h):=.here
theorem ui.p0 {b:Bk} {o:Ob} {h:Heap}:ui ((b,o) :: h) b o (h):=.here
theorem ki.p1 {e0:Bk×Ob} {b:Bk} {o:Ob} {h:Heap}:ki (e0 :: (b,o) :: h) b o:=.next .p0
theorem jY.p1 {e0:Bk×Ob} {b b':Bk} {o o':Ob} {h:Heap}:jY (e0 :: (b,o) :: h) b o b' o' (e0 :: (b',o') :: h):=.next .p0
theorem ui.p1 {e0:Bk×Ob} {b:Bk} {o:Ob} {h:Heap}:ui (e0 :: (b,o) :: h) b o (e0 :: h):=.next .p0
theorem ki.p2 {e0:Bk×Ob} {e1:Bk×Ob} {b:Bk} {o:Ob} {h:Heap}:ki (e0 :: e1 :: (b,o) :: h) b o:=.next .p1
theorem jY.p2 {e0:Bk×Ob} {e1:Bk×Ob} {b b':Bk} {o o':Ob} {h:Heap}:jY (e0 :: e1 :: (b,o) :: h) b o b' o' (e0 :: e1 :: (b',o') :: h):=.next .p1
theorem ui.p2 {e0:Bk×Ob} {e1:Bk×Ob} {b:Bk} {o:Ob} {h:Heap}:ui (e0 :: e1 :: (b,o) :: h) b o (e0 :: e1 :: h):=.next .p1
theorem ki.p3 {e0:Bk×Ob} {e1:Bk×Ob} {e2:Bk×Ob} {b:Bk} {o:Ob} {h:Heap}:ki (e0 :: e1 :: e2 :: (b,o) :: h) b o:=.next .p2
theorem jY.p3 {e0:Bk×Ob} {e1:Bk×Ob} {e2:Bk×Ob} {b b':Bk} {o o':Ob} {h:Heap}:jY (e0 :: e1 :: e2 :: (b,o) :: h) b o b' o' (e0 :: e1 :: e2 :: (b',o') :: h):=.next .p2
theorem ui.p3 {e0:Bk×Ob} {e1:Bk×Ob} {e2:Bk×Ob} {b:Bk} {o:Ob} {h:Heap}:ui (e0 :: e1 :: e2 :: (b,o) :: h) b o (e0 :: e1 :: e2 :: h):=.next .p2
theorem ki.p4 {e0:Bk×Ob} {e1:Bk×Ob} {e2:Bk×Ob} {e3:Bk×Ob} {b:Bk} {o:Ob} {h:Heap}:ki (e0 :: e1 :: e2 :: e3 :: (b,o) :: h) b o:=.next .p3
theorem jY.p4 {e0:Bk×Ob} {e1:Bk×Ob} {e2:Bk×Ob} {e3:Bk×Ob} {b b':Bk} {o o':Ob} {h:Heap}:jY (e0 :: e1 :: e2 :: e3 :: (b,o) :: h) b o b' o' (e0 :: e1 :: e2 :: e3 :: (b',o') :: h):=.next .p3
theorem ui.p4 {e0:Bk×Ob} {e1:Bk×Ob} {e2:Bk×Ob} {e3:Bk×Ob} {b:Bk} {o:Ob} {h:Heap}:ui (e0 :: e1 :: e2 :: e3 :: (b,o) :: h) b o (e0 :: e1 :: e2 :: e3 :: h):=.next .p3
theorem ki.p5 {e0:Bk×Ob} {e1:Bk×Ob} {e2:Bk×Ob} {e3:Bk×Ob} {e4:Bk×Ob} {b:Bk} {o:Ob} {h:Heap}:ki (e0 :: e1 :: e2 :: e3 :: e4 :: (b,o) :: h) b o:=.next .p4
theorem jY.p5 {e0:Bk×Ob} {e1:Bk×Ob} {e2:Bk×Ob} {e3:Bk×Ob} {e4:Bk×Ob} {b b':Bk} {o o':Ob} {h:Heap}:jY (e0 :: e1 :: e2 :: e3 :: e4 :: (b,o) :: h) b o b' o' (e0 :: e1 :: e2 :: e3 :: e4 :: (b',o') :: h):=.next .p4
theorem ui.p5 {e0:Bk×Ob} {e1:Bk×Ob} {e2:Bk×Ob} {e3:Bk×Ob} {e4:Bk×Ob} {b:Bk} {o:Ob} {h:Heap}:ui (e0 :: e1 :: e2 :: e3 :: e4 :: (b,o) :: h) b o (e0 :: e1 :: e2 :: e3 :: e4 :: h):=.next .p4
theorem ki.p6 {e0:Bk×Ob} {e1:Bk×Ob} {e2:Bk×Ob} {e3:Bk×Ob} {e4:Bk×Ob} {e5:Bk×Ob} {b:Bk} {o:Ob} {h:Heap}:ki (e0 :: e1 :: e2 :: e3 :: e4 :: e5 :: (b,o) :: h) b o:=.next .p5
theorem jY.p6 {e0:Bk×Ob} {e1:Bk×Ob} {e2:Bk×Ob} {e3:Bk×Ob} {e4:Bk×Ob} {e5:Bk×Ob} {b b':Bk} {o o':Ob} {h:Heap}:jY (e0 :: e1 :: e2 :: e3 :: e4 :: e5 :: (b,o) :: h) b o b' o' (e0 :: e1 :: e2 :: e3 :: e4 :: e5 :: (b',o') :: h):=.next .p5
theorem ui.p6 {e0:Bk×Ob} {e1:Bk×Ob} {e2:Bk×Ob} {e3:Bk×Ob} {e4:Bk×Ob} {e5:Bk×Ob} {b:Bk} {o:Ob} {h:Heap}:ui (e0 :: e1 :: e2 :: e3 :: e4 :: e5 :: (b,o) :: h) b o (e0 :: e1 :: e2 :: e3 :: e4 :: e5 :: h):=.next .p5
theorem ki.p7 {e0:Bk×Ob} {e1:Bk×Ob} {e2:Bk×Ob} {e3:Bk×Ob} {e4:Bk×Ob} {e5:Bk×Ob} {e6:Bk×Ob} {b:Bk} {o:Ob} {h:Heap}:ki (e0 :: e1 :: e2 :: e3 :: e4 :: e5 :: e6 :: (b,o) :: h) b o:=.next .p6
section rules
variable {P:Program} {all:Array Oper} {rest:List Oper} {n:Nat} {tm:List (Nat×AV)} {hp:Heap} {Q:St→Prop} {d:Nat} {ty:TypeId} {pos:String} {af:Array Edge}
theorem rM {x:Operand} {av:AV} (hx:cx tm x=some av) (hn:Nat.blt d n=true) (k:ae P all rest ⟨n,(d,av) :: tm,hp⟩ Q):ae P all (⟨some d,.move x,ty,pos,af,none⟩ :: rest) ⟨n,tm,hp⟩ Q:=ae.qv (aA hx) hn k
theorem rA {x:Operand} {av:AV} (hx:cx tm x=some av) (hn:Nat.blt d n=true) (k:ae P all rest ⟨n,(d,av) :: tm,hp⟩ Q):ae P all (⟨some d,.assign x,ty,pos,af,none⟩ :: rest) ⟨n,tm,hp⟩ Q:=ae.qv (ek hx) hn k
theorem rF {x:Operand} {s:TypeId} {j off:Nat} {b:Bk} {o o':Nat} [lN P s j off] (hx:cx tm x=some (.ptr b o)) (ho:o+off=o') (hn:Nat.blt d n=true) (k:ae P all rest ⟨n,(d,.ptr b o') :: tm,hp⟩ Q):ae P all (⟨some d,.fieldAddr s x j,ty,pos,af,none⟩ :: rest) ⟨n,tm,hp⟩ Q:=ae.qv (aG hx ho) hn k
theorem rL {t:TypeId} {D:TypeDesc} {x:Operand} {b:Bk} {o:Nat} {cs:List AV} {av:AV} [ax P t D] (hD:TypeDesc.iG D=false) (hx:cx tm x=some (.ptr b o)) (f:ki hp b (.cells cs)) (ho:cs[o]? =some av) (hn:Nat.blt d n=true) (k:ae P all rest ⟨n,(d,av) :: tm,hp⟩ Q):ae P all (⟨some d,.load t x,ty,pos,af,none⟩ :: rest) ⟨n,tm,hp⟩ Q:=ae.qv (ba hD hx f ho) hn k
theorem rT {c x y:Operand} {av:AV} (hc:cx tm c=some (.bool true)) (hx:cx tm x=some av) (hn:Nat.blt d n=true) (k:ae P all rest ⟨n,(d,av) :: tm,hp⟩ Q):ae P all (⟨some d,.pick c x y,ty,pos,af,none⟩ :: rest) ⟨n,tm,hp⟩ Q:=ae.qv (gI hc hx) hn k
theorem rE {c x y:Operand} {av:AV} (hc:cx tm c=some (.bool false)) (hx:cx tm y=some av) (hn:Nat.blt d n=true) (k:ae P all rest ⟨n,(d,av) :: tm,hp⟩ Q):ae P all (⟨some d,.pick c x y,ty,pos,af,none⟩ :: rest) ⟨n,tm,hp⟩ Q:=ae.qv (fr hc hx) hn k
theorem rX {x:Operand} {i:Nat} {vs:List AV} {av:AV} (hx:cx tm x=some (.kj vs)) (hi:vs[i]? =some av) (hn:Nat.blt d n=true) (k:ae P all rest ⟨n,(d,av) :: tm,hp⟩ Q):ae P all (⟨some d,.extract x i,ty,pos,af,none⟩ :: rest) ⟨n,tm,hp⟩ Q:=ae.qv (oE hx hi) hn k
theorem rN (h:Q ⟨n,tm,hp⟩):ae P all [] ⟨n,tm,hp⟩ Q:=ae.nil h
theorem rG {op:Op} {j:Nat} {want b:Bool} {s:Nat} (hj:(all[j]?).bind (·.dst)=some s) (hs:lk tm s=some (.bool b)) (hb:b=!want) (hn:Nat.blt d n=true) (k:ae P all rest ⟨n,(d,.raw undef) :: tm,hp⟩ Q):ae P all (⟨some d,op,ty,pos,af,some (j,want)⟩ :: rest) ⟨n,tm,hp⟩ Q:=ae.ao hj hs hb hn k
theorem rY {op:Op} {j:Nat} {want b:Bool} {s:Nat} (hj:(all[j]?).bind (·.dst)=some s) (hs:lk tm s=some (.bool b)) (hb:b=want) (k:ae P all (⟨some d,op,ty,pos,af,none⟩ :: rest) ⟨n,tm,hp⟩ Q):ae P all (⟨some d,op,ty,pos,af,some (j,want)⟩ :: rest) ⟨n,tm,hp⟩ Q:=ae.aq hj hs hb k
end rules
section rules
variable {P:Program} {R:St→Prop} {k:List It} {σ:St}
theorem tS {x y:Code} (h:ab P R (.code x :: .code y :: k) σ):ab P R (.code (.seq x y) :: k) σ:=ab.seq h
theorem tR {id:Nat} {l:List Oper} (h:ae P l.toArray l σ (ab P R k)):ab P R (.code (.region id l.toArray false) :: k) σ:=ab.region h
theorem aE {id:Nat} {l:List Oper} {y:Code} (h:ae P l.toArray l σ (ab P R (.code y :: k))):ab P R (.code (.seq (.region id l.toArray false) y) :: k) σ:=ab.seq (ab.region h)
theorem tK (h:ab P R k σ):ab P R (.code .skip :: k) σ:=ab.skip h
end rules
end Go.Eng
