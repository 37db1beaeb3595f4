/- The engine: abstract values, the symbolic heap, one rule for each operation. No program in sight. -/
import Derived.Test.YthamhifbccpcpaaGreatDoorEngC
import Derived.Laws.BytesArg
import Derived.Shelf.SlSortCmp.NoneTotal
set_option linter.unusedVariables false
set_option linter.unusedSectionVars false
namespace Go.Eng
open Go
variable [bF]
def depth:Nat:=100000
section rules
variable {P:Program} {all:Array Oper} {rest:List Oper} {n:Nat} {tm:List (Nat×AV)} {hp:Heap} {Q:St→Prop} {d:Nat} {ty:TypeId} {pos:String} {af:Array Edge}
theorem nQ {f:FuncId} {x:Operand} {args:List Operand} {ts:Array TypeId} {oL l l':List AV} {R:AV} [bu P f] (hx:cG tm x=some (.func (.func f) oL)) (hl:x1 tm args=some l) (c:Pu P f l' R) (co:qs hp (l++oL) l') (hn:Nat.blt d n=true) (hR:R.Sw=true)
 (kk:ae P all rest ⟨n,(d,R) :: tm,hp⟩ Q):ae P all (⟨some d,.call {callee:=.value x,args:=args.toArray,argTypes:=ts},ty,pos,af,none⟩ :: rest) ⟨n,tm,hp⟩ Q:=by
 refine ae.Ek rfl fun w S a r=>?_
 obtain ⟨cv,e1,e2,e3⟩:=(bj (σ:=⟨n,tm,hp⟩) r hx).um
 refine ⟨f,_,qO a w e1,?_⟩
 obtain ⟨g1,g2⟩:=qN (σ:=⟨n,tm,hp⟩) r hl
 obtain ⟨g3,g4⟩:=qs.at r.hp co (vs:=args.map a.eval++cv.toList) (by simp [g1,e2]) (sB g1 g2 (by simpa using e3))
 refine (c w (SB S hp) _ (qP (fun m hm=>hm.elim (r.hp.slt m) fun h=>r.hp.lt h) (fun g o ho=>⟨.inl (r.hp.fe g o ho).1,(r.hp.fe g o ho).2⟩)) (by simpa using g3) g4).mono ?_
 rintro e w' ⟨v,rr,h',S',rfl,hq,h3,h4,h5⟩
 subst hq
 have ex:=h5.B6
 exact ⟨v,S,⟨n,(d,rr) :: tm,hp⟩,rfl,(r.ext ex).put hn (Kj h3 hR),iE.ext r.hp.slt ex,kk⟩
end rules
theorem KS {w:World} {S:Nat→Prop} {hp cC:Heap} {b:Bk} {sz k:Nat} {xs:List AV} (r:ck w S hp) (u:mT hp b (.arr sz xs) b (.arr sz (xs.take k)) cC):ck w S cC∧iE w S hp w S cC:=by
 obtain ⟨pre,post,e1,e2⟩:=u.split
 subst e1;subst e2
 have hblk:∀ n,Has (pre++(b,Ob.arr sz (xs.take k)) :: post) n↔Has (pre++(b,Ob.arr sz xs) :: post) n:=by
  intro n
  constructor<;>rintro ⟨x,hx,hb⟩<;>rcases bd.1 hx with rfl | hx
  ·exact ⟨(b,.arr sz xs),bd.2 (.inl rfl),hb⟩
  ·exact ⟨x,bd.2 (.inr hx),hb⟩
  ·exact ⟨(b,.arr sz (xs.take k)),bd.2 (.inl rfl),hb⟩
  ·exact ⟨x,bd.2 (.inr hx),hb⟩
 refine ⟨⟨?_,?_,?_,r.slt,r.fe⟩,⟨rfl,rfl,rfl,Nat.le_refl _,fun n hn=>⟨hn,rfl⟩,fun n _ _=>⟨rfl,id⟩,fun n hn=>.inl ((hblk n).1 hn),fun _=>Nat.le_refl _⟩⟩
 ·have:=r.nodup
  simpa [List.flatMap_append,List.flatMap_cons,eb,Ob.more] using this
 ·intro x hx
  rcases bd.1 hx with rfl | hx
  ·obtain ⟨h0,h1,h2⟩:=r.holds (b,.arr sz xs) (bd.2 (.inl rfl))
   refine ⟨fun x hx=>h0 x (List.mem_of_mem_take hx),Nat.le_trans (by simp only [List.length_take];omega) h1,h2.imp id ?_⟩
   rintro ⟨n,vs,E,g1,g2,g3,g4⟩
   refine ⟨n,vs,E,g1,g2,g3,fun i c v hc hv=>?_⟩
   have hp:∃ t,flat xs=flat (xs.take k)++t:=⟨flat (xs.drop k),by
    show xs.flatMap AV.cells=(xs.take k).flatMap AV.cells++(xs.drop k).flatMap AV.cells
    rw [← List.flatMap_append,List.take_append_drop]⟩
   obtain ⟨t,ht⟩:=hp
   refine g4 i c v ?_ hv
   rw [ht,List.getElem?_append_left (List.getElem?_eq_some_iff.1 hc).1]
   exact hc
  ·exact r.holds x (bd.2 (.inr hx))
 ·intro x hx n hn
  rcases bd.1 hx with rfl | hx
  ·have:=r.sep (b,.arr sz xs) (bd.2 (.inl rfl)) n hn
   exact ⟨fun h=>(this.1 h).elim,fun h=>h.elim⟩
  ·exact r.sep x (bd.2 (.inr hx)) n hn
theorem ai.take {n k:Nat} {tm:List (Nat×AV)} {hp cC:Heap} {T:St→Prop} {b:Bk} {sz:Nat} {xs:List AV} (u:mT hp b (.arr sz xs) b (.arr sz (xs.take k)) cC) (kk:ai ⟨n,tm,cC⟩ T):ai ⟨n,tm,hp⟩ T:=by
 refine ai.step (Bv:=⟨n,tm,cC⟩) (fun w S a r=>?_) kk
 obtain ⟨g1,g2⟩:=KS r.hp u
 exact ⟨_,S,rfl,⟨r.size,r.defers,r.tm,g1⟩,g2⟩
section rules
variable {P:Program} {all:Array Oper} {rest:List Oper} {n:Nat} {tm:List (Nat×AV)} {hp:Heap} {Q:St→Prop} {d:Nat} {ty:TypeId} {pos:String} {af:Array Edge}
theorem zD {α:Type} {Xs V:List α} {L H:Int} (h:sv Xs L H=some V):V.length=H.toNat - L.toNat∧L.toNat+V.length≤Xs.length∧V=(Xs.drop L.toNat).take V.length:=by
 obtain ⟨⟨h0,h1,h2⟩,rfl⟩:=sD h
 have:((Xs.drop L.toNat).take (H.toNat - L.toNat)).length=H.toNat - L.toNat:=by simp;omega
 refine ⟨this,by rw [this];omega,by rw [this]⟩
theorem kK {α:Type} {Xs Zs:List α} {t e:TypeId} {i:TypeInfo} {x:Operand} {lo hi:Option Operand} {l h:Option Int} {sz:Nat} {b:Bk} {L H:Int} [aE P t (.slice e)] [aX P e i] (hx:cG tm x=some (.sl sz b 0 Xs.length)) (gG:Nat.beq i.size sz=true) (hl:Gh tm lo l) (hh:Gh tm hi h)
 (eL:fO l=L) (eH:gC Xs.length h=H) (hv:sv Xs L H=some Zs):QV P ⟨some d,.slice t x lo hi none,ty,pos,af,none⟩ ⟨n,tm,hp⟩ (.sl sz b L.toNat Zs.length):=by
 obtain ⟨⟨h0,h1,h2⟩,_⟩:=sD hv
 have hlen:=(zD hv).1
 subst eL;subst eH
 have:=Gy (P:=P) (d:=d) (ty:=ty) (pos:=pos) (af:=af) (n:=n) (tm:=tm) (hp:=hp) (t:=t) (e:=e) hx gG hl hh h0 h1 h2
 rw [Nat.zero_add] at this
 rw [hlen];exact this
theorem ai.KT {α:Type} {g:α→AV} {Xs V:List α} {H:Int} {T:St→Prop} {b:Bk} {sz:Nat} {cC:Heap} (hv:sv Xs 0 H=some V) (u:mT hp b (.arr sz (Xs.map g)) b (.arr sz (V.map g)) cC) (kk:ai ⟨n,tm,cC⟩ T):ai ⟨n,tm,hp⟩ T:=by
 refine ai.take (k:=V.length) (xs:=Xs.map g) (b:=b) (sz:=sz) ?_ kk
 rw [← List.map_take]
 have:=(zD hv).2.2
 simp only [Int.toNat_zero,List.drop_zero] at this
 rw [← this];exact u
end rules
def kD {R:Type} (n:Nat) (len:R→Nat) (x:Option R):Option R:=x.bind fun r=>if len r=n then some r else none
theorem kL {R:Type} {n:Nat} {len:R→Nat} {x:Option R} {r:R} (h:kD n len x=some r):x=some r:=by
 unfold kD at h
 cases x with
 | none=>cases h
 | some y=>
   simp only [Option.bind_some] at h
   split at h
   ·exact h
   ·cases h
theorem cP {R:Type} {n:Nat} {len:R→Nat} {x:Option R} {r:R} (h:kD n len x=some r):len r=n:=by
 unfold kD at h
 cases x with
 | none=>cases h
 | some y=>
   simp only [Option.bind_some] at h
   split at h
   ·rename_i hh;obtain rfl:=Option.some.inj h;exact hh
   ·cases h
theorem ET {sz:Nat} {x:AV} (h:x.cells.length=sz):∀ (k i:Nat),i < k * sz→(flat (List.replicate k x))[i]? =x.cells[i % sz]?
 | 0,i,hi=>by simp at hi
 | k+1,i,hi=>by
   rw [List.replicate_succ,show flat (x :: List.replicate k x)=x.cells++flat (List.replicate k x) from rfl]
   by_cases iT:i < sz
   ·rw [List.getElem?_append_left (by omega),Nat.mod_eq_of_lt iT]
   ·rw [List.getElem?_append_right (by omega),h,ET h k (i - sz) (by rw [Nat.add_mul] at hi;omega)]
    rw [Nat.mod_eq_sub_mod (a:=i) (by omega)]
section rules
variable {P:Program} {all:Array Oper} {rest:List Oper} {n:Nat} {tm:List (Nat×AV)} {hp:Heap} {Q:St→Prop} {d:Nat} {ty:TypeId} {pos:String} {af:Array Edge}
end rules
end Go.Eng
set_option linter.unusedSimpArgs false
namespace Go.Eng
open Go Go.Sort Go.Proofs
variable [bF]
structure Pb (P:Program) (f:FuncId) (k:Nat):Prop where
 some_:∀ (enc:Nat→List Value) (_:∀ x,(enc x).length=k) (_:∀ x,∀ v∈enc x,v.oneCell'=true) (cf:Nat→Nat→Int) (_:SWO (ltOf cf)) (g:Nat) (cb:Array Value) (bN off cap:Nat) (d:Array Nat) (w:World)
  (_:∀ args w,(callFunc g args).run P w=.ok (.enter g args) w) (_:CmpLays P g cb enc k cf bN off d.size w) (_:HoldsK enc k w bN off d) (_:bN < w.heap.size) (_:d.size < 4611686018427387904),
  Calls P f #[.slice (some ⟨bN,off,none⟩) d.size cap,.func (.func g) #[] cb] w fun e w'=>
   e=.returned (.tuple #[])∧∃ n os,w'=sortWorldK enc k w bN off n (pdq (ltOf cf) d 0 d.size (Lib.bitLen d.size) true true) os
 none_:∀ (p:Option Addr) (cap:Nat) (fv:Value) (w:World),Calls P f #[.slice p 0 cap,fv] w fun e w'=>e=.returned (.tuple #[])∧w'=w
def se {α:Type} (x:α) (r:List α) (i:Nat):α:=(x :: r).getD i x
def qu {α:Type} (f:α→α→Option Int) (x:α) (r:List α) (i j:Nat):Int:=(f (se x r i) (se x r j)).getD 0
noncomputable def Ai {α:Type} (f:α→α→Option Int):List α→Option (List α)
 | []=>some []
 | x :: r=>@ite _ (r.length+1 < 4611686018427387904∧(∀ a∈x :: r,∀ b∈x :: r,∃ u,f a b=some u)∧SWO (ltOf (qu f x r))) (Classical.propDecidable _)
     (some ((pdq (ltOf (qu f x r)) (Array.range (r.length+1)) 0 (r.length+1) (Lib.bitLen (r.length+1)) true true).toList.map (se x r))) none
theorem th {α:Type} (f:α→α→Option Int) (x:α) (r:List α):Ai f (x :: r)=@ite _ (r.length+1 < 4611686018427387904∧(∀ a∈x :: r,∀ b∈x :: r,∃ u,f a b=some u)∧SWO (ltOf (qu f x r))) (Classical.propDecidable _)
 (some ((pdq (ltOf (qu f x r)) (Array.range (r.length+1)) 0 (r.length+1) (Lib.bitLen (r.length+1)) true true).toList.map (se x r))) none:=rfl
theorem ik {α:Type} (x:α) (r:List α) (i:Nat):se x r i∈x :: r:=by
 unfold se
 rw [List.getD_eq_getElem?_getD]
 rcases h:(x :: r)[i]? with _ | y
 ·simp
 ·exact List.mem_of_getElem? h
theorem wA (enc:Nat→List Value) (k:Nat) (w:World) (bN off m:Nat) (dk:Array Nat) (os:Array Obj) {n:Nat} (hn:n < w.heap.size) (mb:n≠bN):(sortWorldK enc k w bN off m dk os).heap[n]? =w.heap[n]?:=by
 unfold sortWorldK putRowK putRow
 rw [heap_grow_old _ _ (by simpa [mapBlock] using hn)]
 simp only [mapBlock,heap_ahead,Array.getElem?_modify]
 rw [if_neg (fun h=>mb h.symm)]
theorem Aj (enc:Nat→List Value) (k:Nat) (w:World) (bN off m:Nat) (dk:Array Nat) (os:Array Obj):w.heap.size≤(sortWorldK enc k w bN off m dk os).heap.size:=by
 unfold sortWorldK putRowK
 simp
theorem I8 (enc:Nat→List Value) (k:Nat) (w:World) (bN m:Nat) (dk:Array Nat) (os:Array Obj) {vs:Array Value} {E:TypeId} (hb:w.heap[bN]? =some (.cells vs E (0,0))):(sortWorldK enc k w bN 0 m dk os).heap[bN]? =some (.cells (putCells id 0 (flatK enc k dk) vs) E (0,0)):=by
 have iT:bN < w.heap.size:=by
  rcases Nat.lt_or_ge bN w.heap.size with h | h
  ·exact h
  ·simp [Array.getElem?_eq_none h] at hb
 unfold sortWorldK putRowK putRow
 rw [heap_grow_old _ _ (by simpa [mapBlock] using iT)]
 simp only [mapBlock,heap_ahead,Array.getElem?_modify]
 rw [if_pos trivial,hb]
 rfl
theorem Ext.grown {w w':World} (hd:bF.dr) (e:Ext w w'):∃ q os,w'=grow (w.drewN q) os:=by
 refine ⟨w'.drawn - w.drawn,w'.heap.extract w.heap.size w'.heap.size,?_⟩
 obtain ⟨h',t',d',o',acD⟩:=w'
 have e1:=e.os;have e2:=e.tape;have e3:=e.output;have e4:=e.drawn hd;have e5:=e.size;have e6:=e.same
 simp only at e1 e2 e3 e4 e5 e6
 subst e1 e2 e3
 unfold grow World.drewN
 simp only [World.mk.injEq,and_true,true_and]
 refine ⟨?_,by omega⟩
 apply Array.ext_getElem?
 intro i
 by_cases hi:i < w.heap.size
 ·rw [e6 i hi,Array.getElem?_append_left hi]
 ·rw [Array.getElem?_append_right (by omega),Array.getElem?_extract]
  by_cases h2:i < h'.size
  ·rw [if_pos (by omega)]
   congr 1;omega
  ·rw [if_neg (by omega),Array.getElem?_eq_none (by omega)]
theorem GJ {P:Program} {T:Type} {g:T→AV} {f:FuncId} {k:Nat} (K:Pb P f k) (MN:Nat.blt 0 k=true) {gf:FuncId} [bu P gf] {C:List AV} {fn:T→T→Option Int} (KU:∀ {x y:T} {u:Int},fn x y=some u→@Pu mC P gf (g x :: g y :: C) (I u))
 (Wl:∀ x,g x=.agg (g x).cells) {Xs Ys:List T} {b:Bk} (h:Ai fn Xs=some Ys):aJ P f [.sl k b 0 Xs.length,.func (.func gf) C] [(b,.arr k (Xs.map g))] (T0 [(b,.arr k (Ys.map g))] (.iV [])):=by
 have MN:0 < k:=Nat.lt_of_lt_of_le (Nat.lt_of_succ_le (Nat.le_of_ble_eq_true MN)) (Nat.le_refl _)
 intro w S vs r hl ha
 obtain ⟨v0,v1,rfl⟩:∃ v0 v1,vs=#[v0,v1]:=by
  match vs,hl with
  | ⟨[v0,v1]⟩,_=>exact ⟨v0,v1,rfl⟩
 have a0:=ha 0 _ v0 rfl rfl
 have a1:=ha 1 _ v1 rfl rfl
 obtain ⟨oa,cap,rfl,e2⟩:=a0.sd
 obtain ⟨cv,rfl,Bz,Wm⟩:=a1.um
 match Xs,h with
 | [],h=>
   obtain rfl:=Option.some.inj h
   refine (K.none_ oa cap _ w).mono ?_
   rintro e w' ⟨rfl,rfl⟩
   exact ⟨_,.iV [],_,S,rfl,⟨rfl,rfl⟩,.iV [] #[] rfl (fun i c v hc=>by simp at hc),r,iE.refl _ _ _⟩
 | x :: xr,h=>
   rw [th] at h
   by_cases hc:(xr.length+1 < 4611686018427387904∧(∀ a∈x :: xr,∀ b∈x :: xr,∃ u,fn a b=some u)∧SWO (ltOf (qu fn x xr)))
   ·rw [if_pos hc] at h
    obtain rfl:=Option.some.inj h
    obtain ⟨hlen,P9,hO⟩:=hc
    obtain ⟨h0,h1,h2⟩:=r.holds _ (List.mem_singleton.2 rfl)
    simp only [List.length_map,List.length_cons] at h1
    rcases h2 with ⟨_,C7⟩ | ⟨m,row,E,hb,tf,gG,pO⟩
    ·have Pc:b.cap=0:=C7
     omega
    rcases e2 with ⟨hn,_,_,_,_⟩ | ⟨m',zT,rfl,hle,SU⟩ | ⟨m',ad,_,_,Ni,_⟩
    ·rw [hn] at hb;cases hb
    ·obtain rfl:m'=m:=by rw [zT] at hb;exact Option.some.inj hb
     have KV:m' < w.heap.size:=by
      rcases Nat.lt_or_ge m' w.heap.size with h | h
      ·exact h
      ·simp [Array.getElem?_eq_none h] at tf
     have nS:¬ S m':=fun hs=>by have:=(r.sep _ (List.mem_singleton.2 rfl) m' (jT hb)).1 hs;exact this
     let ix:Nat→Nat:=fun i=>if i < xr.length+1 then i else 0
     have JS:∀ i,ix i < xr.length+1:=fun i=>by simp only [ix];split<;>omega
     have Qa:∀ i,(x :: xr)[ix i]? =some (se x xr i):=by
      intro i
      simp only [ix,se,List.getD_eq_getElem?_getD]
      split
      ·rename_i hi
       rw [List.getElem?_eq_getElem (by simpa using hi)];simp
      ·rename_i hi
       rw [List.getElem?_eq_none (l:=x :: xr) (i:=i) (by simp;omega)];simp
     have RG:(xr.length+1) * k≤row.size:=by rw [gG];exact Nat.mul_le_mul_right k h1
     let enc:Nat→List Value:=fun i=>(row.toList.drop (ix i * k)).take k
     have NA:∀ i,(enc i).length=k:=by
      intro i
      have:ix i * k+k≤row.size:=by
       have:=Nat.mul_le_mul_right k (show ix i+1≤xr.length+1 from JS i)
       rw [Nat.add_mul,Nat.one_mul] at this
       omega
      simp only [enc,List.length_take,List.length_drop,Array.length_toList];omega
     have SV:∀ i j,j < k→(enc i)[j]? =row[ix i * k+j]?:=by
      intro i j hj
      simp only [enc,List.getElem?_take,if_pos hj,List.getElem?_drop,Array.getElem?_toList]
     have EM:∀ i j,j < k→(flat ((x :: xr).map g))[ix i * k+j]? =(g (se x xr i)).cells[j]?:=by
      intro i j hj
      exact qL h0 (by rw [List.getElem?_map,Qa i];rfl) j hj
     have Bz:∀ i,(g (se x xr i)).cells.length=k:=fun i=>(h0 _ (List.mem_map.2 ⟨_,ik x xr i,rfl⟩)).1
     have tW:∀ i,∀ c∈(g (se x xr i)).cells,c.one=true:=fun i=>(h0 _ (List.mem_map.2 ⟨_,ik x xr i,rfl⟩)).2
     have EU:∀ i,kG w S (g (se x xr i)).cells (enc i).toArray:=by
      intro i j c v hc hv
      have hj:j < k:=by rw [← Bz i];exact (List.getElem?_eq_some_iff.1 hc).1
      refine pO (ix i * k+j) c v (by rw [EM i j hj];exact hc) ?_
      rw [← SV i j hj]
      simpa using hv
     have Qb:∀ i,∀ v∈enc i,v.oneCell'=true:=by
      intro i v hv
      obtain ⟨j,hj,rfl⟩:=List.getElem_of_mem hv
      have hjk:j < k:=by rw [NA i] at hj;exact hj
      have RN:j < (g (se x xr i)).cells.length:=by rw [Bz i];exact hjk
      exact (EU i j (g (se x xr i)).cells[j] (enc i)[j] (by simp [RN]) (by simp [hj])).Gs (tW i _ (List.getElem_mem RN))
     have uz:∀ (d:Array Nat) (t:Nat),t < d.size * k→(flatK enc k d)[t]! =(enc d[t / k]!)[t % k]!:=fun d t ht=>get_flatK enc k d t ht
     have KW:HoldsK enc k w m' 0 (Array.range (xr.length+1)):=by
      intro j hj
      rw [size_flatK,Array.size_range] at hj
      have hdiv:j / k < xr.length+1:=(Nat.div_lt_iff_lt_mul MN).2 hj
      have NC:j % k < k:=Nat.mod_lt _ MN
      have HR:j < row.size:=by omega
      have e1:(flatK enc k (Array.range (xr.length+1)))[j]! =row[j]:=by
       rw [uz _ _ (by simpa using hj)]
       have:(Array.range (xr.length+1))[j / k]! =j / k:=by
        rw [getElem!_pos _ _ (by simpa using hdiv)];simp
       rw [this]
       have hv:=SV (j / k) (j % k) NC
       have:ix (j / k)=j / k:=by simp only [ix];rw [if_pos hdiv]
       rw [this,Nat.div_add_mod'] at hv
       rw [Array.getElem?_eq_getElem HR] at hv
       rw [List.getElem!_eq_getElem?_getD,hv];rfl
      constructor
      ·simp only [World.cell?,tf,id,e1,Nat.zero_add,Option.isSome_none,Bool.false_eq_true,if_false]
       rw [Array.getElem?_eq_getElem HR]
      ·simp [World.frozen?,tf]
     have Qd:CmpLays P gf cv enc k (qu fn x xr) m' 0 (Array.range (xr.length+1)).size w:=by
      intro mm os dk hdk i j
      obtain ⟨u,hu⟩:=P9 _ (ik x xr i) _ (ik x xr j)
      have hW:∀ n,S n→S n∧(sortWorldK enc k w m' 0 mm dk os).heap[n]? =w.heap[n]?:=fun n hs=>
       ⟨hs,wA enc k w m' 0 mm dk os (r.slt n hs) (fun e=>nS (e▸hs))⟩
      have HT:kG (sortWorldK enc k w m' 0 mm dk os) S (g (se x xr i) :: g (se x xr j) :: C) (#[.agg (enc i).toArray,.agg (enc j).toArray]++cv):=by
       intro q c v hc hv
       have ag:∀ i,At (sortWorldK enc k w m' 0 mm dk os) S (g (se x xr i)) (.agg (enc i).toArray):=fun i=>by
        rw [Wl (se x xr i)]
        exact .agg _ _ (by rw [Bz i];simp [NA i]) (fun a c v hc hv=>((EU i) a c v hc hv).mono hW)
       match q with
       | 0=>
         rw [Array.getElem?_append_left (by simp)] at hv
         simp at hc hv;subst hc;subst hv;exact ag i
       | 1=>
         rw [Array.getElem?_append_left (by simp)] at hv
         simp at hc hv;subst hc;subst hv;exact ag j
       | q+2=>
         simp only [List.getElem?_cons_succ] at hc
         rw [Array.getElem?_append_right (by simp)] at hv
         simp only [List.size_toArray,List.length_cons,List.length_nil,Nat.add_sub_cancel] at hv
         exact (Wm q c v hc (by simpa using hv)).mono hW
      refine (KU hu _ S _ (@qP mC _ _ (fun n hn=>Nat.lt_of_lt_of_le (r.slt n hn) (Aj _ _ _ _ _ _ _ _)) (fun g o ho=>⟨(r.fe g o ho).1,wV (hW g (r.fe g o ho).1).2 (r.fe g o ho).2⟩)) (by simp [Bz,‹C.length=cv.size›];omega) HT).mono ?_
      rintro e w' ⟨v,rr,h',S',rfl,hq,h3,h4,h5⟩
      obtain rfl:=hq
      rw [h3.cO]
      refine ⟨?_,@Ext.grown mC _ _ trivial (@iE.B6 mC _ _ _ _ _ h5)⟩
      unfold qu
      rw [hu];rfl
     have ND:(Array.range (xr.length+1)).size=xr.length+1:=Array.size_range
     have Ce:=K.some_ enc NA Qb (qu fn x xr) hO gf cv m' 0 cap (Array.range (xr.length+1)) w (fun args w=>qq gf args w) Qd KW KV (by rw [ND];exact hlen)
     rw [ND] at Ce
     simp only [Nat.zero_mul]
     refine Ce.mono ?_
     rintro e w' ⟨rfl,q,os,rfl⟩
     have MO:=pdq_sorts (ltOf (qu fn x xr)) hO (Array.range (xr.length+1)) 0 (xr.length+1) (Lib.bitLen (xr.length+1)) true true (Nat.zero_le _) (by rw [ND];exact Nat.le_refl _) (Or.inl rfl)
     generalize Di:pdq (ltOf (qu fn x xr)) (Array.range (xr.length+1)) 0 (xr.length+1) (Lib.bitLen (xr.length+1)) true true=d' at MO ⊢
     have EV:d'.size=xr.length+1:=by rw [MO.1.1,ND]
     have hW:∀ n,S n→S n∧(sortWorldK enc k w m' 0 q d' os).heap[n]? =w.heap[n]?:=fun n hs=>
      ⟨hs,wA enc k w m' 0 q d' os (r.slt n hs) (fun e=>nS (e▸hs))⟩
     have Qe:∀ y∈(d'.toList.map (se x xr)).map g,El k y:=by
      intro y hy
      simp only [List.mem_map] at hy
      obtain ⟨z,⟨i,_,rfl⟩,rfl⟩:=hy
      exact h0 _ (List.mem_map.2 ⟨_,ik x xr i,rfl⟩)
     have hh:Go.Eng.Holds (sortWorldK enc k w m' 0 q d' os) S b (.arr k ((d'.toList.map (se x xr)).map g)):=by
      refine ⟨Qe,by simp [EV];omega,.inr ⟨m',_,E,hb,I8 enc k w m' q d' os tf,by simp [putCells,gG],?_⟩⟩
      intro j c v hc hv
      have Ec:j < (xr.length+1) * k:=by
       have:=(List.getElem?_eq_some_iff.1 hc).1
       rw [cA Qe] at this
       simpa [EV] using this
      have hdiv:j / k < xr.length+1:=(Nat.div_lt_iff_lt_mul MN).2 Ec
      have NC:j % k < k:=Nat.mod_lt _ MN
      have HR:j < row.size:=by omega
      have Wn:(d'.toList.map (se x xr))[j / k]? =some (se x xr d'[j / k]!):=by
       rw [List.getElem?_map,Array.getElem?_toList,Array.getElem?_eq_getElem (by omega),getElem!_pos d' (j / k) (by omega)];rfl
      have HB:(g (se x xr d'[j / k]!)).cells[j % k]? =some c:=by
       rw [← qL (sz:=k) Qe (i:=j / k) (x:=g (se x xr d'[j / k]!)) (by rw [List.getElem?_map,Wn];rfl) (j % k) NC,Nat.div_add_mod']
       exact hc
      have NG:(enc d'[j / k]!)[j % k]? =some v:=by
       simp only [putCells,Array.getElem?_mapIdx,Array.getElem?_eq_getElem HR,Option.map_some,Option.some.injEq] at hv
       rw [if_pos ⟨Nat.zero_le _,by rw [size_flatK,EV];omega⟩,Nat.sub_zero,uz d' j (by rw [EV];exact Ec)] at hv
       have iT:j % k < (enc d'[j / k]!).length:=by rw [NA];exact NC
       rw [List.getElem?_eq_getElem iT,← hv]
       simp only [id,getElem!_pos (enc d'[j / k]!) (j % k) iT]
      exact (EU _ _ _ _ HB (by simpa using NG)).mono hW
     have EW:=Aj enc k w m' 0 q d' os
     refine ⟨_,.iV [],_,S,rfl,⟨rfl,rfl⟩,.iV [] #[] rfl (fun i c v hc=>by simp at hc),⟨r.nodup,fun e he=>by rw [List.mem_singleton] at he;subst he;exact hh,fun e he n hn=>?_,fun n hn=>Nat.lt_of_lt_of_le (r.slt n hn) EW,fun g o ho=>⟨(r.fe g o ho).1,wV (hW g (r.fe g o ho).1).2 (r.fe g o ho).2⟩⟩,?_⟩
     ·rw [List.mem_singleton] at he;subst he
      replace hn:=(sY rfl).1 hn
      rw [hb] at hn
      obtain rfl:=Option.some.inj hn
      exact ⟨fun hs=>(nS hs).elim,fun hf=>hf.elim⟩
     ·refine ⟨rfl,rfl,rfl,EW,hW,fun n hn SX=>⟨wA enc k w m' 0 q d' os hn (fun e=>SX ⟨_,List.mem_singleton.2 rfl,by rw [e];exact jT hb⟩),id⟩,?_,?_⟩
      ·rintro n ⟨e,he,qe⟩
       rw [List.mem_singleton] at he;subst he
       exact .inl ⟨_,List.mem_singleton.2 rfl,qe⟩
      ·intro _
       show w.drawn≤(sortWorldK enc k w m' 0 q d' os).drawn
       show w.drawn≤w.drawn+q
       omega
    ·simp at Ni
   ·rw [if_neg hc] at h;cases h
end Go.Eng
namespace Go.Eng
open Go
variable [bF]
def rC {α:Type} (xs:List α) (L:Int) (n:Nat) (j:Int):Option α:=if 0≤L∧0≤j∧j < n then idx xs (L+j) else none
theorem lx {α:Type} {xs:List α} {L:Int} {n:Nat} {j:Int} {x:α} (h:rC xs L n j=some x):(0≤L∧0≤j∧j < n)∧idx xs (L+j)=some x:=by
 unfold rC at h
 split at h
 ·rename_i hc;exact ⟨hc,h⟩
 ·cases h
def Cf {α:Type} (xs:List α) (L:Int) (n:Nat) (z:α):List α:=xs.take L.toNat++List.replicate n z++xs.drop (L.toNat+n)
theorem vm {α:Type} {xs v:List α} {L H:Int} {z:α} (h:sv xs L H=some v):(Cf xs L v.length z).length=xs.length:=by
 obtain ⟨⟨h0,h1,h2⟩,_⟩:=sD h
 have:=(zD h).1
 unfold Cf
 simp only [List.length_append,List.length_take,List.length_replicate,List.length_drop]
 omega
section rules
variable {P:Program} {all:Array Oper} {rest:List Oper} {n:Nat} {tm:List (Nat×AV)} {hp:Heap} {Q:St→Prop} {d:Nat} {ty:TypeId} {pos:String} {af:Array Edge}
theorem jd {α:Type} {Xs:List α} {el:α} {t e:TypeId} {i:TypeInfo} {x y:Operand} {k:IntKind} {j L:Int} {sz m:Nat} {b:Bk} [aE P t (.slice e)] [aX P e i] (hx:cG tm x=some (.sl sz b L.toNat m)) (gG:Nat.beq i.size sz=true) (hy:cG tm y=some (.int k j))
 (hv:rC Xs L m j=some el):QV P ⟨some d,.indexAddr t x y,ty,pos,af,none⟩ ⟨n,tm,hp⟩ (.pq sz b (L+j).toNat 0):=by
 obtain ⟨⟨h0,h1,h2⟩,h3⟩:=lx hv
 have h:=zV (P:=P) (d:=d) (ty:=ty) (pos:=pos) (af:=af) (n:=n) (tm:=tm) (hp:=hp) (t:=t) (e:=e) hx gG hy ⟨h1,h2⟩
 rw [show (L+j).toNat=L.toNat+j.toNat by omega]
 exact h
theorem x9 {x:Operand} {t e:TypeId} {sz off len:Nat} {b:Bk} [aE P t (.slice e)] (hx:cG tm x=some (.sl sz b off len)):QV P ⟨some d,.call {callee:=.builtin .len,args:=#[x],argTypes:=#[t]},ty,pos,af,none⟩ ⟨n,tm,hp⟩ (.int .i64 (len:Nat)):=En hx
theorem NH {t e:TypeId} {i:TypeInfo} {z:Value} {x:Operand} {b:Bk} {L N sz:Nat} {xs:List AV} {zx:AV} {cC:Heap} [aE P t (.slice e)] [aX P e i] (hx:cG tm x=some (.sl sz b L N)) (hz:i.zero=some z) (RO:BZ z=zx) (gG:Nat.beq i.size sz=true) (x4:Sq sz zx=true) (tc:Nat.blt 0 sz=true) (hL:L+N≤xs.length)
 (u:mT hp b (.arr sz xs) b (.arr sz (xs.take L++List.replicate N zx++xs.drop (L+N))) cC) (kk:ae P all rest ⟨n,tm,cC⟩ Q):
 ae P all (⟨none,.call {callee:=.builtin .clear,args:=#[x],argTypes:=#[t]},ty,pos,af,none⟩ :: rest) ⟨n,tm,hp⟩ Q:=by
 have gG:=Nat.eq_of_beq_eq_true gG
 have tc:0 < sz:=Nat.lt_of_lt_of_le (Nat.lt_of_succ_le (Nat.le_of_ble_eq_true tc)) (Nat.le_refl _)
 have hE:=Eu x4
 refine ae.Kb rfl fun w S a r=>?_
 obtain ⟨oa,cap,e1,e2⟩:=(bj (σ:=⟨n,tm,hp⟩) r hx).sd
 rcases Nat.eq_zero_or_pos N with h0 | h0
 ·subst h0
  have jW:xs.take L++List.replicate 0 zx++xs.drop (L+0)=xs:=by simp
  rw [jW] at u
  obtain ⟨p,q,hq1,hq2⟩:=u.split
  obtain rfl:cC=hp:=by rw [hq1,hq2]
  refine ⟨.tuple #[],w,S,⟨n,tm,cC⟩,?_,r,iE.refl _ _ _,kk⟩
  cases oa<;>simp [execOp,e1,resolve,invoke,builtin,Builtin.clear_,run_underlying (aE.h (P:=P) (t:=t))]
 ·rcases e2 with ⟨_,_,hl,_,_⟩ | ⟨m,hb,rfl,h1,h2⟩ | ⟨_,_,_,_,hl,_⟩
  ·omega
  ·obtain ⟨g0,g1,⟨g2,_⟩ | ⟨m',vs,E,g2,g3,g4,g5⟩⟩:=qH r.hp (.inl u.mA)
   ·rw [g2] at hb;cases hb
   obtain rfl:m'=m:=by rw [g2] at hb;exact Option.some.inj hb
   obtain ⟨zl,Yg⟩:=qo w S z (by rw [RO];exact hE.2)
   rw [RO] at zl Yg
   have Kg:z.cells.size=sz:=by rw [← zl];exact hE.1
   have U3:∀ y∈List.replicate N zx,El sz y:=fun y hy=>by rw [List.eq_of_mem_replicate hy];exact hE
   have M6:(Builtin.zeroCells z.cells N).size=N * sz:=by rw [size_zeroCells,Kg]
   have RC:(flat (List.replicate N zx)).length=(Builtin.zeroCells z.cells N).size:=by rw [cA U3,M6];simp
   have SY:kG w S (flat (List.replicate N zx)) (Builtin.zeroCells z.cells N):=by
    intro j c v hc hv
    have hj:j < N * sz:=by
     have:=(List.getElem?_eq_some_iff.1 hc).1
     rw [cA U3] at this;simpa using this
    rw [ET hE.1 N j hj] at hc
    refine Yg (j % sz) c v hc ?_
    unfold Builtin.zeroCells at hv
    simp only [Array.getElem?_map,Option.map_eq_some_iff] at hv
    obtain ⟨q,hq,rfl⟩:=hv
    have:q=j:=by
     rw [Array.getElem?_eq_some_iff] at hq
     obtain ⟨k1,k2⟩:=hq
     simpa using k2.symm
    subst this
    rw [Kg]
    have iT:q % sz < z.cells.size:=by rw [Kg];exact Nat.mod_lt _ tc
    simp [iT]
   have tW:=wX RC SY (fun c hc=>by
    unfold flat at hc
    rw [List.mem_flatMap] at hc
    obtain ⟨y,hy,hcy⟩:=hc
    exact (U3 y hy).2 c hcy)
   have IU:=cA g0
   have hmul:(L+N) * sz≤xs.length * sz:=Nat.mul_le_mul_right _ hL
   have KC:xs.length * sz≤b.cap * sz:=Nat.mul_le_mul_right _ g1
   rw [Nat.add_mul] at hmul
   have wq:=run_storeCells_at (P:=P) m' (L * sz) E (Builtin.zeroCells z.cells N).toList 0 vs w g3 (by simp [M6];omega) tW
   simp only [Nat.add_zero] at wq
   have EM:flat (xs.take L++List.replicate N zx++xs.drop (L+N))=(flat xs).take (L * sz)++flat (List.replicate N zx)++(flat xs).drop (L * sz+(flat (List.replicate N zx)).length):=by
    rw [rQ,rQ,vh xs L g0,vg xs (L+N) g0,RC,M6,Nat.add_mul]
   have KD:=fun (w':World) (ha:kG w' S (flat xs) vs) (hb:kG w' S (flat (List.replicate N zx)) (Builtin.zeroCells z.cells N))=>HF (L * sz) (by rw [IU,g4];exact KC) ha RC hb (by rw [RC,M6,IU];omega)
   have KE:(vs.toList.take (L * sz)++(Builtin.zeroCells z.cells N).toList++vs.toList.drop (L * sz+(Builtin.zeroCells z.cells N).toList.length)).toArray.size=b.cap * sz:=by
    simp [M6];omega
   generalize (vs.toList.take (L * sz)++(Builtin.zeroCells z.cells N).toList++vs.toList.drop (L * sz+(Builtin.zeroCells z.cells N).toList.length)).toArray=Bx at wq KD KE
   have c:GB w (w.setRow m' Bx) b.bN:=⟨⟨rfl,rfl,rfl,by simp,fun k hk mb=>setRow_other w m' k _ (fun e=>mb (by rw [g2,e]))⟩,fun _=>Nat.le_refl _⟩
   have k1:∀ n,S n→S n∧(w.setRow m' Bx).heap[n]? =w.heap[n]?:=by
    intro k hk
    refine ⟨hk,setRow_other w m' k _ (fun e=>?_)⟩
    subst e
    exact (r.hp.sep _ u.mA.mem k (jT g2)).1 hk
   have hh:=tb r.hp u c id id ⟨fun y hy=>?_,by simp;omega,.inr ⟨m',Bx,E,g2,setRow_heap w m' vs _ E _ g3,KE,by rw [EM];exact KD _ (g5.mono k1) (SY.mono k1)⟩⟩ (.inl rfl)
   ·refine ⟨.tuple #[],w.setRow m' Bx,S,⟨n,tm,cC⟩,?_,r.heap hh.2.2 hh.1,hh.2.1,kk⟩
    obtain ⟨N',rfl⟩:∃ k,N=k+1:=⟨N - 1,by omega⟩
    simp [execOp,e1,resolve,invoke,builtin,Builtin.clear_,run_underlying (aE.h (P:=P) (t:=t)),zeroValue,typeInfo,aX.h (P:=P) (t:=e),hz,wq]
   ·rcases List.mem_append.1 hy with h | h
    ·rcases List.mem_append.1 h with h | h
     ·exact g0 y (List.mem_of_mem_take h)
     ·exact U3 y h
    ·exact g0 y (List.mem_of_mem_drop h)
  ·omega
theorem Dk {α:Type} {g:α→AV} {Z:α} {Xs V:List α} {H:Int} {t e:TypeId} {i:TypeInfo} {z:Value} {x:Operand} {b:Bk} {L:Int} {sz:Nat} {cC:Heap} [aE P t (.slice e)] [aX P e i] (hx:cG tm x=some (.sl sz b L.toNat V.length)) (hz:i.zero=some z) (RO:BZ z=g Z) (gG:Nat.beq i.size sz=true) (x4:Sq sz (g Z)=true) (tc:Nat.blt 0 sz=true) (hv:sv Xs L H=some V)
 (u:mT hp b (.arr sz (Xs.map g)) b (.arr sz ((Cf Xs L V.length Z).map g)) cC) (kk:ae P all rest ⟨n,tm,cC⟩ Q):
 ae P all (⟨none,.call {callee:=.builtin .clear,args:=#[x],argTypes:=#[t]},ty,pos,af,none⟩ :: rest) ⟨n,tm,hp⟩ Q:=by
 obtain ⟨⟨h0,h1,h2⟩,_⟩:=sD hv
 have hlen:=(zD hv).1
 refine NH (xs:=Xs.map g) hx hz RO gG x4 tc (by simp;omega) ?_ kk
 have:(Cf Xs L V.length Z).map g=(Xs.map g).take L.toNat++List.replicate V.length (g Z)++(Xs.map g).drop (L.toNat+V.length):=by
  unfold Cf
  simp
 rw [← this]
 exact u
end rules
end Go.Eng
namespace Go.Eng
open Go Go.Sort Go.Proofs
variable [bF]
structure HU {α:Type} [Inhabited α] (P:Program) (f:FuncId) (enc:α→Value) (zd:List α→List α):Prop where
 some_:∀ (bN off cap:Nat) (zs:List α) (w:World),Sort.Holds enc w bN off zs.toArray→bN < w.heap.size→zs.length < 4611686018427387904→Calls P f #[.slice (some ⟨bN,off,none⟩) zs.length cap] w fun e w'=>
  e=.returned (.tuple #[])∧∃ n os,w'=grow (putRow enc (Sort.ahead w n) bN off (zd zs).toArray) os
 none_:∀ (p:Option Addr) (cap:Nat) (w:World),Calls P f #[.slice p 0 cap] w fun e w'=>e=.returned (.tuple #[])∧w'=w
def Ak {α:Type} (zd:List α→List α) (xs:List α):Option (List α):=if xs.length < 4611686018427387904 then some (zd xs) else none
theorem ya {α:Type} [Inhabited α] (enc:α→Value) (w:World) (bN off m:Nat) (dk:Array α) (os:Array Obj) {n:Nat} (hn:n < w.heap.size) (mb:n≠bN):(grow (putRow enc (Sort.ahead w m) bN off dk) os).heap[n]? =w.heap[n]?:=by
 unfold putRow
 rw [heap_grow_old _ _ (by simpa [mapBlock] using hn)]
 simp only [mapBlock,heap_ahead,Array.getElem?_modify]
 rw [if_neg (fun h=>mb h.symm)]
theorem EX {α:Type} [Inhabited α] (enc:α→Value) (w:World) (bN m:Nat) (dk:Array α) (os:Array Obj) {vs:Array Value} {E:TypeId} (hb:w.heap[bN]? =some (.cells vs E (0,0))):(grow (putRow enc (Sort.ahead w m) bN 0 dk) os).heap[bN]? =some (.cells (putCells enc 0 dk vs) E (0,0)):=by
 have iT:bN < w.heap.size:=by
  rcases Nat.lt_or_ge bN w.heap.size with h | h
  ·exact h
  ·simp [Array.getElem?_eq_none h] at hb
 unfold putRow
 rw [heap_grow_old _ _ (by simpa [mapBlock] using iT)]
 simp only [mapBlock,heap_ahead,Array.getElem?_modify]
 rw [if_pos trivial,hb]
 rfl
theorem qJ {α:Type} {g:α→AV} (hc:∀ x,(g x).cells=[g x]):∀ xs:List α,flat (xs.map g)=xs.map g
 | []=>rfl
 | x :: r=>by rw [List.map_cons,gH,hc,qJ hc r];rfl
theorem yL {P:Program} {α:Type} [Inhabited α] {f:FuncId} {enc:α→Value} {zd:List α→List α} (K:HU P f enc zd) {g:α→AV} (hg:∀ {w:World} {S:Nat→Prop} {x:α} {v:Value},At w S (g x) v→v=enc x) (KX:∀ (w:World) (S:Nat→Prop) (x:α),At w S (g x) (enc x)) (hc:∀ x,(g x).cells=[g x])
 (hlen:∀ xs,(zd xs).length=xs.length) (tW:∀ x,(g x).one=true) {Xs Ys:List α} {b:Bk} (h:Ak zd Xs=some Ys):aJ P f [.sl 1 b 0 Xs.length] [(b,.arr 1 (Xs.map g))] (T0 [(b,.arr 1 (Ys.map g))] (.iV [])):=by
 unfold Ak at h
 split at h
 ·rename_i gG
  obtain rfl:=Option.some.inj h
  intro w S vs r hl ha
  obtain ⟨v0,rfl⟩:∃ v0,vs=#[v0]:=by
   match vs,hl with
   | ⟨[v0]⟩,_=>exact ⟨v0,rfl⟩
  have a0:=ha 0 _ v0 rfl rfl
  obtain ⟨oa,cap,rfl,e2⟩:=a0.sd
  have Qe:∀ (zs:List α),∀ y∈zs.map g,El 1 y:=by
   intro zs y hy
   obtain ⟨x,_,rfl⟩:=List.mem_map.1 hy
   exact ⟨by rw [hc];rfl,fun c Ns=>by rw [hc] at Ns;rw [List.mem_singleton.1 Ns];exact tW x⟩
  have IY:Xs.length=0→zd Xs=Xs:=fun h0=>by
   have h1:=hlen Xs
   have e1:Xs=[]:=List.eq_nil_of_length_eq_zero h0
   rw [e1]
   apply List.eq_nil_of_length_eq_zero
   rw [hlen];rfl
  rcases Nat.eq_zero_or_pos Xs.length with h0 | h0
  ·have hK:=K.none_ oa cap w
   rw [← h0] at hK
   refine hK.mono ?_
   rintro e w' ⟨rfl,rfl⟩
   rw [IY h0]
   exact ⟨_,.iV [],_,S,rfl,⟨rfl,rfl⟩,.iV [] #[] rfl (fun i c v hc=>by simp at hc),r,iE.refl _ _ _⟩
  ·obtain ⟨_,h1,h2⟩:=r.holds _ (List.mem_singleton.2 rfl)
   simp only [List.length_map] at h1
   rcases h2 with ⟨_,C7⟩ | ⟨m,row,E,hb,tf,RG,pO⟩
   ·have Pc:b.cap=0:=C7
    omega
   rcases e2 with ⟨hn,_,_,_,_⟩ | ⟨m',zT,rfl,hle,SU⟩ | ⟨m',ad,_,_,Ni,_⟩
   ·rw [hn] at hb;cases hb
   ·obtain rfl:m'=m:=by rw [zT] at hb;exact Option.some.inj hb
    have KV:m' < w.heap.size:=by
     rcases Nat.lt_or_ge m' w.heap.size with h | h
     ·exact h
     ·simp [Array.getElem?_eq_none h] at tf
    have nS:¬ S m':=fun hs=>by have:=(r.sep _ (List.mem_singleton.2 rfl) m' (jT hb)).1 hs;exact this
    have acE:row.size=b.cap:=by rw [RG];exact Nat.mul_one _
    rw [qJ hc] at pO
    have hH:Sort.Holds enc w m' 0 Xs.toArray:=by
     intro j hj
     have RI:j < Xs.length:=by simpa using hj
     have HR:j < row.size:=by omega
     have hv:=hg (pO j (g Xs[j]) row[j] (by simp [RI]) (by simp [HR]))
     constructor
     ·simp only [World.cell?,tf,Nat.zero_add,Option.isSome_none,Bool.false_eq_true,if_false]
      rw [Array.getElem?_eq_getElem HR,hv]
      simp [RI]
     ·simp [World.frozen?,tf]
    simp only [Nat.zero_mul]
    refine (K.some_ m' 0 cap Xs w hH KV gG).mono ?_
    rintro e w' ⟨rfl,q,os,rfl⟩
    have hW:∀ n,S n→S n∧(grow (putRow enc (Sort.ahead w q) m' 0 (zd Xs).toArray) os).heap[n]? =w.heap[n]?:=fun n hs=>
     ⟨hs,ya enc w m' 0 q _ os (r.slt n hs) (fun e=>nS (e▸hs))⟩
    have EW:w.heap.size≤(grow (putRow enc (Sort.ahead w q) m' 0 (zd Xs).toArray) os).heap.size:=by simp
    have Wo:=hlen Xs
    have hh:Go.Eng.Holds (grow (putRow enc (Sort.ahead w q) m' 0 (zd Xs).toArray) os) S b (.arr 1 ((zd Xs).map g)):=by
     refine ⟨Qe _,by simp;omega,.inr ⟨m',_,E,hb,EX enc w m' q _ os tf,by simp [putCells,RG],?_⟩⟩
     rw [qJ hc]
     intro j c v RN hv
     have Ec:j < (zd Xs).length:=by have:=(List.getElem?_eq_some_iff.1 RN).1;simpa using this
     have HR:j < row.size:=by omega
     rw [List.getElem?_map,List.getElem?_eq_getElem Ec] at RN
     obtain rfl:=Option.some.inj RN
     simp only [putCells,Array.getElem?_mapIdx,Array.getElem?_eq_getElem HR,Option.map_some,Option.some.injEq] at hv
     rw [if_pos ⟨Nat.zero_le _,by simp;omega⟩] at hv
     rw [← hv]
     have:(zd Xs).toArray[j - 0]! =(zd Xs)[j]:=by simp [Ec]
     rw [this]
     exact KX _ _ _
    refine ⟨_,.iV [],_,S,rfl,⟨rfl,rfl⟩,.iV [] #[] rfl (fun i c v hc=>by simp at hc),⟨r.nodup,fun e he=>by rw [List.mem_singleton] at he;subst he;exact hh,fun e he n hn=>?_,fun n hn=>Nat.lt_of_lt_of_le (r.slt n hn) EW,fun g o ho=>⟨(r.fe g o ho).1,wV (hW g (r.fe g o ho).1).2 (r.fe g o ho).2⟩⟩,?_⟩
    ·rw [List.mem_singleton] at he;subst he
     replace hn:=(sY rfl).1 hn
     rw [hb] at hn
     obtain rfl:=Option.some.inj hn
     exact ⟨fun hs=>(nS hs).elim,fun hf=>hf.elim⟩
    ·refine ⟨rfl,rfl,rfl,EW,hW,fun n hn SX=>⟨ya enc w m' 0 q _ os hn (fun e=>SX ⟨_,List.mem_singleton.2 rfl,by rw [e];exact jT hb⟩),id⟩,?_,?_⟩
     ·rintro n ⟨e,he,qe⟩
      rw [List.mem_singleton] at he;subst he
      exact .inl ⟨_,List.mem_singleton.2 rfl,qe⟩
     ·intro _
      show w.drawn≤w.drawn+q
      omega
   ·omega
 ·cases h
def Al (xs:List Int):List Int:=xs.mergeSort fun x y=>decide (x≤y)
def BH (xs:List (List UInt8)):List (List UInt8):=xs.mergeSort fun x y=>decide (x≤y)
theorem EY {P:Program} {f:FuncId} (K:HU P f (Value.int .i64) Al) {Xs Ys:List Int} {b:Bk} (h:Ak Al Xs=some Ys):aJ P f [.sl 1 b 0 Xs.length] [(b,.arr 1 (Xs.map I))] (T0 [(b,.arr 1 (Ys.map I))] (.iV [])):=
 yL K (g:=I) (fun h=>h.cO) (fun w S x=>.int _ _) (fun _=>rfl) (fun xs=>List.length_mergeSort _) (fun _=>rfl) h
end Go.Eng
namespace Go.Eng
open Go
variable [bF]
def AV.KY:AV→Bool
 | .sl _ _ _ _=>true
 | .ptr _ _=>true
 | .agg cs=>Ex cs
 | v=>v.C3
def I9:List AV→Bool
 | []=>true
 | c :: r=>c.KY&&I9 r
def AV.SZ:AV→Bool
 | .iV cs=>I9 cs
 | .agg cs=>I9 cs
 | v=>v.KY
theorem zE {w:World} {S S':Nat→Prop} {av:AV} {v:Value} (h:At w S av v) (hn:av.KY=true):At w S' av v:=by
 cases h with
 | agg cs vs hl h=>exact .agg cs vs hl fun i c u hc hu=>uw (h i c u hc hu) (ux hn c (List.mem_of_getElem? hc))
 | sl sz b off len n cap hb h1 h2=>exact .sl sz b off len n cap hb h1 h2
 | Bs sz b hb=>exact .Bs sz b hb
 | MZ sz b off n ad hb=>exact .MZ sz b off n ad hb
 | ptr b o n hb=>exact .ptr b o n hb
 | int k n=>exact .int k n
 | bool b=>exact .bool b
 | str s=>exact .str s
 | nil=>exact .nil
 | raw v=>exact .raw v
 | _=>simp [AV.KY,AV.C3] at hn
theorem w9:∀ {cs:List AV},I9 cs=true→∀ c∈cs,c.KY=true
 | [],_,c,hc=>by simp at hc
 | x :: r,h,c,hc=>by
   simp only [I9,Bool.and_eq_true] at h
   rcases List.mem_cons.1 hc with rfl | hc
   ·exact h.1
   ·exact w9 h.2 c hc
theorem Qf {w:World} {S S':Nat→Prop} {av:AV} {v:Value} (h:At w S av v) (hn:av.SZ=true):At w S' av v:=by
 cases av with
 | iV cs=>
   cases h with
   | iV _ vs hl h=>exact .iV cs vs hl fun i c u hc hu=>zE (h i c u hc hu) (w9 hn c (List.mem_of_getElem? hc))
 | agg cs=>
   cases h with
   | agg _ vs hl h=>exact .agg cs vs hl fun i c u hc hu=>zE (h i c u hc hu) (w9 hn c (List.mem_of_getElem? hc))
 | _=>exact zE h hn
def Ob.Pd:Ob→Prop
 | .cells cs=>I9 cs=true
 | .arr _ xs=>∀ x∈xs,Ex x.cells=true
 | _=>False
inductive GK:Heap→Prop
 | nil:GK []
 | cons {b:Bk} {o:Ob} {h:Heap} (c:o.Pd) (k:GK h):GK ((b,o) :: h)
theorem GK.mem {h:Heap} (k:GK h):∀ e∈h,e.2.Pd:=by
 induction k with
 | nil=>intro e he;simp at he
 | cons c k ih=>
   intro e he
   rcases List.mem_cons.1 he with rfl | he
   ·exact c
   ·exact ih e he
theorem Pd.sg {α:Type} {g:α→AV} {sz:Nat} {Xs:List α} (h:∀ x,Ex (g x).cells=true):(Ob.arr sz (Xs.map g)).Pd:=fun x hx=>by
 obtain ⟨y,_,rfl⟩:=List.mem_map.1 hx
 exact h y
theorem Holds.SZ {w:World} {S S':Nat→Prop} {b:Bk} {o:Ob} (h:Holds w S b o) (hn:o.Pd):Holds w S' b o:=by
 cases o with
 | cells cs=>
   obtain ⟨h0,n,vs,E,h1,h2,h3,h4⟩:=h
   exact ⟨h0,n,vs,E,h1,h2,h3,fun i c v hc hv=>zE (h4 i c v hc hv) (w9 hn c (List.mem_of_getElem? hc))⟩
 | arr sz xs=>
   obtain ⟨h0,h1,h2⟩:=h
   refine ⟨h0,h1,h2.imp id ?_⟩
   rintro ⟨n,vs,E,g1,g2,g3,g4⟩
   refine ⟨n,vs,E,g1,g2,g3,fun i c v hc hv=>uw (g4 i c v hc hv) ?_⟩
   have hm:=List.mem_of_getElem? hc
   unfold flat at hm
   rw [List.mem_flatMap] at hm
   obtain ⟨x,hx,VW⟩:=hm
   exact ux (hn x hx) c VW
 | zy _ _=>exact hn.elim
 | mp _=>exact hn.elim
 | MA _ _=>exact hn.elim
 | Sd _ _ _=>exact hn.elim
 | J0 _ _ _=>exact hn.elim
 | bU _=>exact hn.elim
 | qK _ _ _ _=>exact hn.elim
 | Se _ _=>exact hn.elim
 | Sf _=>exact hn.elim
section rules
variable {P:Program} {all:Array Oper} {rest:List Oper} {n:Nat} {tm:List (Nat×AV)} {hp:Heap} {Q:St→Prop} {d:Nat} {ty:TypeId} {pos:String} {af:Array Edge}
theorem NI {f:FuncId} {args:List Operand} {ts:Array TypeId} {l l':List AV} {h0 hr:Heap} {Qc:AV→Heap→Prop} [bu P f] (hl:x1 tm args=some l) (c:aJ P f l' h0 Qc) (co:qs hr l l') (hs:hp.Perm (h0++hr)) (hn:Nat.blt d n=true)
 (kk:∀ r h',Qc r h'→r.SZ=true∧GK h'∧ae P all rest ⟨n,(d,r) :: tm,h'++hr⟩ Q):ae P all (⟨some d,.call {callee:=.value (.func f),args:=args.toArray,argTypes:=ts},ty,pos,af,none⟩ :: rest) ⟨n,tm,hp⟩ Q:=by
 refine ae.Ek rfl fun w S a r=>⟨f,_,pf a w,?_⟩
 obtain ⟨g1,g2⟩:=qN (σ:=⟨n,tm,hp⟩) r hl
 have rp:=r.hp.perm hs
 have Qg:ck w S hr:=rp.sub (List.sublist_append_right _ _)
 have Pe:ck w S h0:=rp.sub (List.sublist_append_left _ _)
 obtain ⟨g3,g4⟩:=qs.at Qg co g1 g2
 have Qh:∀ m,Has h0 m→¬ Has hr m:=by
  rintro m ⟨x,hx,JT⟩ ⟨y,hy,hym⟩
  have:=rp.nodup
  rw [List.flatMap_append,List.nodup_append] at this
  exact this.2.2 m (List.mem_flatMap.2 ⟨x,hx,JT⟩) m (List.mem_flatMap.2 ⟨y,hy,hym⟩) rfl
 have rh:ck w (SB S hr) h0:=by
  refine ⟨Pe.nodup,fun e he=>(Pe.holds e he).mono (fun m hm=>⟨.inl hm,rfl⟩) (fun m _=>rfl),fun e he m hm=>?_,fun m hm=>?_,fun g o ho=>⟨.inl (Pe.fe g o ho).1,(Pe.fe g o ho).2⟩⟩
  ·constructor
   ·rintro (h | h)
    ·exact (Pe.sep e he m hm).1 h
    ·exact (Qh m ⟨e,he,hm⟩ h).elim
   ·exact fun h=>.inl ((Pe.sep e he m hm).2 h)
  ·rcases hm with h | h
   ·exact Pe.slt m h
   ·exact Qg.lt h
 refine (c w (SB S hr) _ rh (by simpa using g3) g4).mono ?_
 rintro e w' ⟨v,res,h',S',rfl,hq,h3,h4,h5⟩
 obtain ⟨k1,k2,k3⟩:=kk res h' hq
 have Pf:∀ m,S m→(S' m∧(Has hr m→S m))∧w'.heap[m]? =w.heap[m]?:=fun m hm=>⟨⟨(h5.keep m (.inl hm)).1,fun _=>hm⟩,(h5.keep m (.inl hm)).2⟩
 have x5:ck w' (fun m=>S' m∧(Has hr m→S m)) (h'++hr):=by
  refine ⟨?_,?_,?_,fun m hm=>h4.slt m hm.1,fun g o ho=>⟨⟨(h4.fe g o ho).1,fun _=>(Pe.fe g o ho).1⟩,(h4.fe g o ho).2⟩⟩
  ·rw [List.flatMap_append,List.nodup_append]
   refine ⟨h4.nodup,Qg.nodup,fun x hx y hy BY=>?_⟩
   subst BY
   obtain ⟨e1,PT,Ev⟩:=List.mem_flatMap.1 hx
   obtain ⟨e2,Kc,JU⟩:=List.mem_flatMap.1 hy
   rcases h5.new x ⟨e1,PT,Ev⟩ with h | h
   ·exact Qh x h ⟨e2,Kc,JU⟩
   ·have:=Qg.lt ⟨e2,Kc,JU⟩;omega
  ·intro e he
   rcases List.mem_append.1 he with he | he
   ·exact (h4.holds e he).SZ (k2.mem e he)
   ·exact (Qg.holds e he).mono Pf (fun m hm=>(h5.keep m (.inr ⟨e,he,hm⟩)).2)
  ·intro e he m hm
   rcases List.mem_append.1 he with he | he
   ·rw [← h4.sep e he m hm]
    refine ⟨fun h=>h.1,fun h=>⟨h,fun hh=>?_⟩⟩
    rcases h5.new m ⟨e,he,hm⟩ with h6 | h6
    ·exact (Qh m h6 hh).elim
    ·have:=Qg.lt hh;omega
   ·rw [← Qg.sep e he m hm]
    exact ⟨fun h=>h.2 ⟨e,he,hm⟩,fun h=>⟨(h5.keep m (.inl h)).1,fun _=>h⟩⟩
 have NJ:∀ m,Has hp m↔Has h0 m∨Has hr m:=by
  intro m
  constructor
  ·rintro ⟨x,hx,hb⟩
   rcases List.mem_append.1 (hs.mem_iff.1 hx) with h | h
   ·exact .inl ⟨x,h,hb⟩
   ·exact .inr ⟨x,h,hb⟩
  ·rintro (⟨x,hx,hb⟩ | ⟨x,hx,hb⟩)
   ·exact ⟨x,hs.mem_iff.2 (List.mem_append_left _ hx),hb⟩
   ·exact ⟨x,hs.mem_iff.2 (List.mem_append_right _ hx),hb⟩
 refine ⟨v,fun m=>S' m∧(Has hr m→S m),⟨n,(d,res) :: tm,h'++hr⟩,rfl,(r.heap Pf x5).put hn (Qf h3 k1),?_,k3⟩
 refine ⟨h5.os,h5.tape,h5.output,h5.size,Pf,fun m hm hh=>?_,fun m hm=>?_,h5.drawn⟩
 ·have n0:¬ Has h0 m:=fun h=>hh ((NJ m).2 (.inl h))
  have nr:¬ Has hr m:=fun h=>hh ((NJ m).2 (.inr h))
  obtain ⟨q1,q2⟩:=h5.other m hm n0
  refine ⟨q1,fun h=>?_⟩
  rcases q2 h.1 with h | h
  ·exact h
  ·exact (nr h).elim
 ·obtain ⟨x,hx,hb⟩:=hm
  rcases List.mem_append.1 hx with hx | hx
  ·rcases h5.new m ⟨x,hx,hb⟩ with h | h
   ·exact .inl ((NJ m).2 (.inl h))
   ·exact .inr h
  ·exact .inl ((NJ m).2 (.inr ⟨x,hx,hb⟩))
theorem Am {Ae:Type} {f:FuncId} {args:List Operand} {ts:Array TypeId} {l l':List AV} {h0 hr:Heap} {H H':Ae→Heap} {V:Ae→AV} [bu P f] (hl:x1 tm args=some l) (c:aJ P f l' h0 (T1 H V)) (hs:B8 hp h0 hr) (co:qs hr l l') (ha:∀ b,sf (H b) hr=some (H' b)) (hV:∀ b,(V b).SZ=true) (hH:∀ b,GK (H b)) (hn:Nat.blt d n=true)
 (kk:∀ b,ae P all rest ⟨n,(d,V b) :: tm,H' b⟩ Q):ae P all (⟨some d,.call {callee:=.value (.func f),args:=args.toArray,argTypes:=ts},ty,pos,af,none⟩ :: rest) ⟨n,tm,hp⟩ Q:=
 NI hl c co hs.perm hn (fun r h' ⟨b,e1,e2⟩=>by subst e1;subst e2;rw [nu (ha b)];exact ⟨hV b,hH b,kk b⟩)
end rules
class wB (K:Type) where
 lt:K→K→Bool
instance:wB Int:=⟨fun a b=>decide (a < b)⟩
instance:wB Bool:=⟨fun a b=>!a&&b⟩
instance:wB (List UInt8):=⟨fun a b=>Op.bytesLess a b⟩
section plain
variable {K V:Type}
def An [DecidableEq K] (m:List (K×V)) (k:K):List (K×V):=m.filter (fun e=>decide (e.1≠k))
def BI [wB K] (k:K) (v:V):List (K×V)→List (K×V)
 | []=>[(k,v)]
 | e :: r=>if wB.lt e.1 k=true then e :: BI k v r else (k,v) :: e :: r
def gV [DecidableEq K] [wB K] (m:List (K×V)) (k:K) (v:V):List (K×V):=BI k v (An m k)
def eB [DecidableEq K]:List (K×V)→K→Option V
 | [],_=>none
 | e :: r,k=>if e.1=k then some e.2 else eB r k
def yM [DecidableEq K] (m:List (K×V)) (k:K) (z:V):Option V:=some ((eB m k).getD z)
theorem vn [wB K] (k:K) (v:V):∀ (m:List (K×V)),(BI k v m).Perm ((k,v) :: m)
 | []=>List.Perm.refl _
 | e :: r=>by
   unfold BI
   split
   ·exact (List.Perm.cons e (vn k v r)).trans (List.Perm.swap _ _ _)
   ·exact List.Perm.refl _
theorem ti {α β:Type} (f:α→β):∀ (l:List β) (M:List α),l.Perm (M.map f)→∃ M':List α,M'.Perm M∧l=M'.map f
 | [],M,h=>by
   have:=h.nil_eq
   rw [eq_comm,List.map_eq_nil_iff] at this
   subst this;exact ⟨[],List.Perm.refl _,rfl⟩
 | x :: t,M,h=>by
   have hx:x∈M.map f:=h.mem_iff.1 (by simp)
   obtain ⟨e,he,rfl⟩:=List.mem_map.1 hx
   obtain ⟨p,q,rfl⟩:=List.append_of_mem he
   have h2:(f e :: t).Perm (f e :: (p++q).map f):=h.trans (by rw [List.map_append,List.map_cons,List.map_append];exact List.perm_middle)
   obtain ⟨M',h3,rfl⟩:=ti f t (p++q) (List.Perm.cons_inv h2)
   exact ⟨e :: M',(List.Perm.cons e h3).trans List.perm_middle.symm,rfl⟩
theorem Ao [DecidableEq K] {k:K} {v:V}:∀ {m:List (K×V)},eB m k=some v→(k,v)∈m
 | [],h=>by cases h
 | e :: r,h=>by
   unfold eB at h
   split at h
   ·rename_i hk
    obtain rfl:=Option.some.inj h
    subst hk;simp
   ·exact List.mem_cons_of_mem _ (Ao h)
theorem uA [DecidableEq K] {k:K} {v:V}:∀ {m:List (K×V)},(m.map Prod.fst).Nodup→(k,v)∈m→eB m k=some v
 | [],_,h=>by simp at h
 | e :: r,hn,h=>by
   rw [List.map_cons,List.nodup_cons] at hn
   unfold eB
   rcases List.mem_cons.1 h with rfl | h
   ·simp
   ·rw [if_neg (fun hk=>hn.1 (List.mem_map.2 ⟨_,h,hk.symm⟩))]
    exact uA hn.2 h
theorem vo [DecidableEq K] {k:K}:∀ {m:List (K×V)},eB m k=none↔∀ e∈m,e.1≠k
 | []=>by simp [eB]
 | e :: r=>by
   unfold eB
   split
   ·rename_i hk;simp [hk]
   ·rename_i hk
    rw [vo (m:=r)]
    simp [hk]
theorem vp [DecidableEq K] {m m':List (K×V)} (hp:m'.Perm m) (hn:(m'.map Prod.fst).Nodup) (k:K):eB m' k=eB m k:=by
 have MM:(m.map Prod.fst).Nodup:=(hp.map _).nodup_iff.1 hn
 cases h:eB m' k with
 | none=>
   symm
   rw [vo] at h ⊢
   exact fun e he=>h e (hp.mem_iff.2 he)
 | some v=>exact (uA MM (hp.mem_iff.1 (Ao h))).symm
theorem Ja [DecidableEq K] {m:List (K×V)} {k:K} (h:eB m k=none):An m k=m:=by
 rw [vo] at h
 unfold An
 exact List.filter_eq_self.2 fun e he=>by simpa using h e he
end plain
noncomputable def Ap {E A:Type} (es:List E) (g:List E→Option A):Option A:=
 open Classical in if h:∃ r,∀ p,p.Perm es→g p=some r then some h.choose else none
theorem GL {E A:Type} {es:List E} {g:List E→Option A} {r:A} (h:Ap es g=some r):∀ p,p.Perm es→g p=some r:=by
 unfold Ap at h
 split at h
 ·rename_i hx
  obtain rfl:=Option.some.inj h
  exact hx.choose_spec
 ·cases h
theorem KZ {E A:Type} {es:List E} {g:List E→Option A} {r:A} (h:∀ p,p.Perm es→g p=some r):Ap es g=some r:=by
 unfold Ap
 have hx:∃ r,∀ p,p.Perm es→g p=some r:=⟨r,h⟩
 rw [dif_pos hx]
 have:=hx.choose_spec es (List.Perm.refl _)
 rw [h es (List.Perm.refl _)] at this
 exact this.symm
def rW {E S A:Type} (b:E→S→Option (S⊕A)) (f:S→Option A):List E→S→Option A
 | [],s=>f s
 | e :: p,s=>(b e s).bind (after (rW b f p))
theorem S3 {E S A:Type} {b:E→S→Option (S⊕A)} {f:S→Option A} {rest vZ:List E} {e:E} {s:S} {a:A} (h:∀ p,p.Perm rest→rW b f p s=some a) (hp:rest.Perm (e :: vZ)):
 ∃ z,b e s=some z∧(∀ y,z=.inl y→∀ p,p.Perm vZ→rW b f p y=some a)∧∀ a',z=.inr a'→a'=a:=by
 have h1:=h (e :: vZ) hp.symm
 unfold rW at h1
 obtain ⟨z,hz,h2⟩:=MK h1
 refine ⟨z,hz,fun y hy p hq=>?_,fun a' ha=>?_⟩
 ·have h3:=h (e :: p) ((List.Perm.cons e hq).trans hp.symm)
  unfold rW at h3
  rw [hz,hy] at h3
  exact h3
 ·rw [ha] at h2
  exact Option.some.inj h2
theorem Wp {E S A:Type} {b:E→S→Option (S⊕A)} {f:S→Option A} {rest:List E} {s:S} {a:A} (h:∀ p,p.Perm rest→rW b f p s=some a) (hn:rest=[]):f s=some a:=by
 subst hn;exact h [] (List.Perm.refl _)
theorem aa.NK {P:Program} {R:St→Prop} {k:List It} {σ:St} {body:Code} {E S A:Type} (b:E→S→Option (S⊕A)) (f:S→Option A) (mk:List E→S→St→Prop) {a:A} {HV:List E} {s0:S} (h:Ap HV (fun p=>rW b f p s0)=some a) (h0:ai σ (mk HV s0))
 (hs:∀ rest s σ (J:St→Prop),mk rest s σ→(∀ p,p.Perm rest→rW b f p s=some a)→(∀ vZ s' aG,vZ.length < rest.length→(∀ p,p.Perm vZ→rW b f p s'=some a)→ai aG (mk vZ s')→J aG)→aa P R (.code body :: .stop J :: k) σ):
 aa P R (.code (.loop body) :: k) σ:=by
 refine aa.O3 (fun m σ=>∃ rest s,rest.length=m∧(∀ p,p.Perm rest→rW b f p s=some a)∧mk rest s σ) HV.length (h0.mono fun aG Wc=>⟨HV,s0,rfl,GL h,Wc⟩) ?_
 rintro m Bv ⟨rest,s,hm,hH,eZ⟩
 refine hs rest s Bv _ eZ hH (fun vZ s' aG hl S4 hi=>⟨vZ.length,by omega,hi.mono fun Gz hk=>⟨vZ,s',rfl,S4,hk⟩⟩)
def uB {K:Type} [DecidableEq K] (k:K):List K→List MapEntry→Nat→Option (Nat×Value)
 | k' :: ks,e :: es,i=>if k'=k then some (i,e.val) else uB k ks es (i+1)
 | _,_,_=>none
class lH (P:Program) (t:TypeId) {K:Type} [DecidableEq K] (g:K→AV):Prop where
 inj:∀ a b,g a=g b→a=b
 check:∀ {w:World} {S:Nat→Prop} {k:K} {v:Value},At w S (g k) v→∀ (b:Bool) (w1:World),(Instr.checkKey b 10000 t v).run P w1=.ok () w1
 find:∀ {w:World} {S:Nat→Prop} {k:K} {v:Value},At w S (g k) v→∀ (es:List MapEntry) (ks:List K),ks.length=es.length→(∀ (i:Nat) k' e,ks[i]? =some k'→es[i]? =some e→At w S (g k') e.key)→∀ w1:World,(Instr.findKey t v es).run P w1=.ok (uB k ks es 0) w1
 bits:∀ {w:World} {S:Nat→Prop} {k:K} {v u:Value},At w S (g k) v→At w S (g k) u→Instr.sameBits 10000 v u=true
theorem vq {K:Type} [DecidableEq K] {d:TypeDesc} {v:Value} {k:K} {q:K→Value→Prop} (hq:∀ k' u,q k' u→Instr.sameNow d v u=some (decide (k'=k))):∀ (es:List MapEntry) (ks:List K) (i:Nat),ks.length=es.length→(∀ (i:Nat) k' e,ks[i]? =some k'→es[i]? =some e→q k' e.key)→Instr.findNow d v es i=some (uB k ks es i)
 | [],[],i,_,_=>rfl
 | [],k' :: ks,i,hl,_=>by simp at hl
 | e :: es,[],i,hl,_=>by simp at hl
 | e :: es,k' :: ks,i,hl,h=>by
   unfold Instr.findNow uB
   rw [hq k' e.key (h 0 k' e rfl rfl)]
   by_cases hk:k'=k
   ·simp [hk]
   ·simp only [hk,decide_false,if_false]
    exact vq hq es ks (i+1) (by simpa using hl) (fun i k' e h1 h2=>h (i+1) k' e (by simpa using h1) (by simpa using h2))
theorem GM (a b:ByteArray):((a==b)=true)↔a=b:=by
 cases a with
 | mk a=>
   cases b with
   | mk b=>
     show (a==b)=true↔_
     rw [beq_iff_eq]
     exact ⟨fun h=>by rw [h],fun h=>by cases h;rfl⟩
theorem lH.int {P:Program} {t:TypeId} {q:IntKind} (h:P.underlying t=some (.int q)):lH P t (K:=Int) (fun n=>AV.int q n) where
 inj a b h:=by simpa using h
 check:=fun {w S k v} hv b w1=>by
  rw [hv.cO]
  have key:∀ n:Nat,(Instr.checkKey b (n+1) t (Value.int q k)).run P w1=.ok () w1:=fun n=>by simp [Instr.checkKey,run_underlying h]
  exact key 9999
 find:=fun {w S k v} hv es ks hl hk w1=>by
  rw [hv.cO]
  have hf:=vq (d:=(.int q)) (v:=(Value.int q k)) (k:=k) (q:=fun k' u=>u=(Value.int q k')) (fun k' u hu=>by subst hu;simp only [Instr.sameNow,if_true];congr 1;rw [Bool.eq_iff_iff];simp;exact eq_comm) es ks 0 hl (fun i k' e h1 h2=>(hk i k' e h1 h2).cO)
  simp [Instr.findKey,run_underlying h,hf]
 bits:=fun {w S k v u} h1 h2=>by rw [h1.cO,h2.cO];simp [Instr.sameBits]
theorem lH.bool {P:Program} {t:TypeId} (h:P.underlying t=some .bool):lH P t (K:=Bool) AV.bool where
 inj a b h:=by simpa using h
 check:=fun {w S k v} hv b w1=>by
  rw [hv.me]
  have key:∀ n:Nat,(Instr.checkKey b (n+1) t (Value.bool k)).run P w1=.ok () w1:=fun n=>by simp [Instr.checkKey,run_underlying h]
  exact key 9999
 find:=fun {w S k v} hv es ks hl hk w1=>by
  rw [hv.me]
  have hf:=vq (d:=.bool) (v:=(Value.bool k)) (k:=k) (q:=fun k' u=>u=(Value.bool k')) (fun k' u hu=>by subst hu;simp only [Instr.sameNow];congr 1;rw [Bool.eq_iff_iff];simp;exact eq_comm) es ks 0 hl (fun i k' e h1 h2=>(hk i k' e h1 h2).me)
  simp [Instr.findKey,run_underlying h,hf]
 bits:=fun {w S k v u} h1 h2=>by rw [h1.me,h2.me];simp [Instr.sameBits]
theorem lH.str {P:Program} {t:TypeId} (h:P.underlying t=some .string):lH P t (K:=List UInt8) AV.str where
 inj a b h:=by simpa using h
 check:=fun {w S k v} hv b w1=>by
  rw [hv.ct]
  have key:∀ n:Nat,(Instr.checkKey b (n+1) t (Value.string ⟨k.toArray⟩)).run P w1=.ok () w1:=fun n=>by simp [Instr.checkKey,run_underlying h]
  exact key 9999
 find:=fun {w S k v} hv es ks hl hk w1=>by
  rw [hv.ct]
  have hf:=vq (d:=.string) (v:=(Value.string ⟨k.toArray⟩)) (k:=k) (q:=fun k' u=>u=(Value.string ⟨k'.toArray⟩)) (fun k' u hu=>by subst hu;simp only [Instr.sameNow];congr 1;rw [Bool.eq_iff_iff,GM];simp;exact eq_comm) es ks 0 hl (fun i k' e h1 h2=>(hk i k' e h1 h2).ct)
  simp [Instr.findKey,run_underlying h,hf]
 bits:=fun {w S k v u} h1 h2=>by rw [h1.ct,h2.ct];simp only [Instr.sameBits];exact (GM _ _).2 rfl
instance {P:Program} {t:TypeId} [h:aE P t (.int .i64)]:lH P t (K:=Int) I:=lH.int h.h
instance {P:Program} {t:TypeId} [h:aE P t .bool]:lH P t (K:=Bool) AV.bool:=lH.bool h.h
instance {P:Program} {t:TypeId} [h:aE P t .string]:lH P t (K:=List UInt8) AV.str:=lH.str h.h
theorem kM {P:Program} {w:World} {r:Nat} {es:Array MapEntry} {c:Nat} (h:w.heap[r]? =some (.map es c)):(getObj r).run P w=.ok (.map es c) w:=by
 simp only [getObj,Sem.run,h]
theorem yN {P:Program} {w:World} {r:Nat} {m:Option Nat} {a b:Nat} {s:Array Nat} (h:w.heap[r]? =some (.mapIter m a s b)):(getObj r).run P w=.ok (.mapIter m a s b) w:=by
 simp only [getObj,Sem.run,h]
def vN (w:World) (r:Nat) (o:Obj):World:={w with heap:=w.heap.setIfInBounds r o}
theorem Aq {P:Program} {w:World} {r:Nat} {es:Array MapEntry} {c:Nat} (o:Obj) (h:w.heap[r]? =some (.map es c)):(setObj r o).run P w=.ok () (vN w r o):=by
 simp only [setObj,Sem.run,h];rfl
theorem EZ {P:Program} {w:World} {r:Nat} {m:Option Nat} {a b:Nat} {s:Array Nat} (o:Obj) (h:w.heap[r]? =some (.mapIter m a s b)):(setObj r o).run P w=.ok () (vN w r o):=by
 simp only [setObj,Sem.run,h];rfl
theorem yb {w:World} {r:Nat} {o o':Obj} (h:w.heap[r]? =some o'):(vN w r o).heap[r]? =some o:=by
 have iT:r < w.heap.size:=(Array.getElem?_eq_some_iff.1 h).1
 simp [vN,Array.getElem?_setIfInBounds,iT]
theorem Ar {w:World} {r k:Nat} {o:Obj} (h:k≠r):(vN w r o).heap[k]? =w.heap[k]?:=by
 simp [vN,Array.getElem?_setIfInBounds,Ne.symm h]
theorem NL {w:World} {r:Nat} {o:Obj} {x:Option Nat} (hx:x=some r):GB w (vN w r o) x:=
 ⟨⟨rfl,rfl,rfl,by simp [vN],fun k hk mb=>Ar (fun e=>mb (by rw [hx,e]))⟩,fun _=>Nat.le_refl _⟩
theorem HW (w:World) (x:Option Nat):GB w w x:=⟨⟨rfl,rfl,rfl,Nat.le_refl _,fun _ _ _=>rfl⟩,fun _=>Nat.le_refl _⟩
theorem Ext.heap {w w':World} {n:Nat} {o:Obj} (e:Ext w w') (h:w.heap[n]? =some o):w'.heap[n]? =some o:=by
 rw [e.same n (Array.getElem?_eq_some_iff.1 h).1];exact h
theorem At.uC {w:World} {S:Nat→Prop} {b:Bk} {v:Value} (h:At w S (.jO b) v):∃ n,b.bN=some n∧v=.map (some n):=by cases h with | jO _ n hb=>exact ⟨n,hb,rfl⟩
theorem Qi (w:World) (S:Nat→Prop) (z:Value) (h1:lG (BZ z).cells=true):At w S (BZ z) z:=by
 by_cases hz:∃ cs,z=.agg cs
 ·obtain ⟨cs,rfl⟩:=hz
  obtain ⟨h2,h3⟩:=qo w S (.agg cs) (dp h1)
  exact .agg _ _ h2 h3
 ·have M6:BZ z=OX z:=by
   cases z<;>first | rfl | (exact (hz ⟨_,rfl⟩).elim)
  rw [M6];exact CV w S z
theorem zF {K V:Type} {gk:K→AV} {gv:V→AV} {w:World} {S:Nat→Prop} {hp:Heap} {b:Bk} {M:List (K×V)} (S5:∀ a b,gk a=gk b→a=b) (r:ck w S hp) (f:mD hp b (.mp (M.map fun e=>(gk e.1,gv e.2)))):
 ∃ (L:List oM) (c:Nat) (M':List (K×V)) (n:Nat) (fy:Array MapEntry),M'.Perm M∧L.map oM.kv=M'.map (fun e=>(gk e.1,gv e.2))∧sZ w S b L c∧b.bN=some n∧w.heap[n]? =some (.map fy c)∧fy.toList.length=M'.length∧
   (∀ (i:Nat) e m,M'[i]? =some e→fy.toList[i]? =some m→At w S (gk e.1) m.key∧At w S (gv e.2) m.val)∧(M'.map Prod.fst).Nodup:=by
 obtain ⟨L,c,nP,hH⟩:=r.holds _ f.mem
 obtain ⟨M',h1,h2⟩:=ti _ _ _ nP
 have S4:=hH
 obtain ⟨n,fy,g1,g2,g3,g4,g5,g6,g7⟩:=hH
 have hlen:L.length=M'.length:=by have:=congrArg List.length h2;simpa using this
 refine ⟨L,c,M',n,fy,h1,h2,S4,g1,g2,by rw [Array.length_toList,g3,hlen],fun i e m he hm=>?_,?_⟩
 ·have:(L.map oM.kv)[i]? =some (gk e.1,gv e.2):=by rw [h2,List.getElem?_map,he];rfl
  rw [List.getElem?_map] at this
  cases hL:L[i]? with
  | none=>rw [hL] at this;cases this
  | some x=>
    rw [hL] at this
    have hx:(x.k,x.v)=(gk e.1,gv e.2):=Option.some.inj this
    obtain ⟨q1,q2⟩:=Prod.mk.inj hx
    have:=g4 i x m hL (by simpa using hm)
    rw [q1,q2] at this
    exact this.2
 ·have hk:L.map (·.k)=(M'.map Prod.fst).map gk:=by
   have:=congrArg (List.map Prod.fst) h2
   simpa [List.map_map,Function.comp_def,oM.kv] using this
  rw [hk] at g7
  exact (List.pairwise_map.1 g7).imp (fun h e=>h (by rw [e]))
theorem sE {α:Type} {l:List α} {j:Nat} {x:α} (h:l[j]? =some x):l.set j x=l:=by
 apply List.ext_getElem?
 intro i
 rw [List.getElem?_set]
 by_cases Da:j=i
 ·subst Da
  have:=(List.getElem?_eq_some_iff.1 h).1
  rw [if_pos rfl,if_pos this,h]
 ·simp [Da]
theorem xa {K V:Type} [DecidableEq K] {gv:V→AV} {w:World} {S:Nat→Prop} {k:K}:∀ (M:List (K×V)) (es:List MapEntry) (i:Nat),M.length=es.length→(∀ (j:Nat) e m,M[j]? =some e→es[j]? =some m→At w S (gv e.2) m.val)→
 (eB M k=none∧uB k (M.map Prod.fst) es i=none)∨∃ v j val,eB M k=some v∧uB k (M.map Prod.fst) es i=some (i+j,val)∧At w S (gv v) val∧M[j]? =some (k,v)
 | [],[],i,_,_=>.inl ⟨rfl,rfl⟩
 | [],m :: es,i,hl,_=>by simp at hl
 | e :: M,[],i,hl,_=>by simp at hl
 | e :: M,m :: es,i,hl,h=>by
   unfold eB
   simp only [List.map_cons,uB]
   by_cases hk:e.1=k
   ·simp only [hk,if_true]
    refine .inr ⟨e.2,0,m.val,rfl,rfl,h 0 e m rfl rfl,?_⟩
    subst hk;rfl
   ·simp only [hk,if_false]
    rcases xa M es (i+1) (by simpa using hl) (fun j e' m' h1 h2=>h (j+1) e' m' (by simpa using h1) (by simpa using h2)) with ⟨h1,h2⟩ | ⟨v,j,val,h1,h2,h3,h4⟩
    ·exact .inl ⟨h1,h2⟩
    ·exact .inr ⟨v,j+1,val,h1,by rw [h2];congr 2;omega,h3,by simpa using h4⟩
section rules
variable {P:Program} {all:Array Oper} {rest:List Oper} {n:Nat} {tm:List (Nat×AV)} {hp:Heap} {Q:St→Prop} {d:Nat} {ty:TypeId} {pos:String} {af:Array Edge}
theorem vr {t:TypeId} (hn:Nat.blt d n=true) (kk:∀ b:Bk,ae P all rest ⟨n,(d,.jO b) :: tm,(b,.mp []) :: hp⟩ Q):ae P all (⟨some d,.makeMap t none,ty,pos,af,none⟩ :: rest) ⟨n,tm,hp⟩ Q:=by
 refine ae.Kb rfl fun w S a r=>?_
 have hh:Holds (w.alloc (.map #[] 0)) S ⟨some w.heap.size,0⟩ (.mp []):=⟨[],0,List.Perm.refl _,w.heap.size,#[],rfl,by show (w.heap.push _)[w.heap.size]? =_;simp,rfl,by simp,by simp,by simp,by simp⟩
 obtain ⟨k1,k2,k3⟩:=qn r.hp (Ext.alloc w (.map #[] 0)) id hh (.inr ⟨_,rfl,Nat.le_refl _⟩)
 exact ⟨.map (some w.heap.size),w.alloc (.map #[] 0),S,_,by simp [execOp,Instr.makeMap],(r.heap k3 k1).put hn (.jO _ _ rfl),k2,kk ⟨some w.heap.size,0⟩⟩
theorem E0 {K V:Type} [DecidableEq K] {gk:K→AV} {gv:V→AV} {M:List (K×V)} {key:K} {Z v:V} {t kt vt:TypeId} {i:TypeInfo} {z:Value} {x y:Operand} {b:Bk} {av:AV} [aE P t (.map kt vt)] [aX P vt i] [lH P kt gk] (hx:cG tm x=some (.jO b)) (hy:cG tm y=some (gk key)) (f:mD hp b (.mp (M.map fun e=>(gk e.1,gv e.2)))) (hz:i.zero=some z) (RO:BZ z=gv Z) (h1:lG (BZ z).cells=true) (h:yM M key Z=some v) (qM:gv v=av):
 QV P ⟨some d,.lookup t x y false,ty,pos,af,none⟩ ⟨n,tm,hp⟩ av:=by
 intro w S a r
 have kx:=bj (σ:=⟨n,tm,hp⟩) r hx
 have ky:=bj (σ:=⟨n,tm,hp⟩) r hy
 obtain ⟨nb,hb,ex⟩:=kx.uC
 obtain ⟨L,c,M',HX,fy,p1,p2,p3,p4,p5,p6,p7,p8⟩:=zF (lH.inj P kt) r.hp f
 obtain rfl:HX=nb:=by rw [p4] at hb;exact Option.some.inj hb
 unfold yM at h
 have hv:=Option.some.inj h
 rw [← vp p1 p8] at hv
 have xb:=lH.find (P:=P) (t:=kt) (g:=gk) ky fy.toList (M'.map Prod.fst) (by simpa using p6.symm) (fun j k' e h1 h2=>by
  rw [List.getElem?_map] at h1
  cases hm:M'[j]? with
  | none=>rw [hm] at h1;cases h1
  | some q=>rw [hm] at h1;rw [← Option.some.inj h1];exact (p7 j q e hm h2).1)
 rcases xa (gv:=gv) (w:=w) (S:=S) (k:=key) M' fy.toList 0 p6.symm (fun j e m h1 h2=>(p7 j e m h1 h2).2) with ⟨q1,q2⟩ | ⟨v',j,val,q1,q2,q3,_⟩
 ·refine ⟨z,fun w1 e1=>?_,?_⟩
  ·simp [execOp,Instr.lookup,ex,run_underlying (aE.h (P:=P) (t:=t)),kM (e1.heap p5),lH.check (P:=P) (t:=kt) ky,xb,q2,zeroValue,typeInfo,aX.h (P:=P) (t:=vt),hz]
  ·rw [← qM,← hv,q1,Option.getD_none,← RO];exact Qi w S z h1
 ·refine ⟨val,fun w1 e1=>?_,?_⟩
  ·simp [execOp,Instr.lookup,ex,run_underlying (aE.h (P:=P) (t:=t)),kM (e1.heap p5),lH.check (P:=P) (t:=kt) ky,xb,q2]
  ·rw [← qM,← hv,q1,Option.getD_some];exact q3
theorem yc {w:World} {S:Nat→Prop} {hp cC:Heap} {b:Bk} {m:Nat} {o o':Ob} {ob old:Obj} (r:ck w S hp) (u:mT hp b o b o' cC) (hb:b.bN=some m) (ho:w.heap[m]? =some old) (hf:¬ o.yC) (VY:¬ o'.yC) (hh:(∀ n,S n→S n∧(vN w m ob).heap[n]? =w.heap[n]?)→Holds (vN w m ob) S b o') (hm:o'.more=[]:=by rfl):
 ck (vN w m ob) S cC∧iE w S hp (vN w m ob) S cC∧∀ n,S n→S n∧(vN w m ob).heap[n]? =w.heap[n]?:=by
 have k1:∀ n,S n→S n∧(vN w m ob).heap[n]? =w.heap[n]?:=fun k hk=>⟨hk,Ar (fun e=>by
  subst e
  exact hf ((r.sep _ u.mA.mem _ (jT hb)).1 hk))⟩
 exact tb r u (NL hb) hf VY (hh k1) (.inl rfl) hm
theorem uD {K V:Type} [DecidableEq K] [wB K] {gk:K→AV} {gv:V→AV} {M:List (K×V)} {key:K} {v:V} {t kt vt:TypeId} {x y z:Operand} {b:Bk} {av:AV} {cC:Heap} [aE P t (.map kt vt)] [lH P kt gk] (hx:cG tm x=some (.jO b)) (hy:cG tm y=some (gk key)) (hz:cG tm z=some av) (qM:av=gv v) (u:mT hp b (.mp (M.map fun e=>(gk e.1,gv e.2))) b (.mp ((gV M key v).map fun e=>(gk e.1,gv e.2))) cC)
 (kk:ae P all rest ⟨n,tm,cC⟩ Q):ae P all (⟨none,.mapUpdate t x y z,ty,pos,af,none⟩ :: rest) ⟨n,tm,hp⟩ Q:=by
 refine ae.act rfl rfl (fun w S a r=>?_) kk
 have kx:=bj (σ:=⟨n,tm,hp⟩) r hx
 have ky:=bj (σ:=⟨n,tm,hp⟩) r hy
 have kz:=bj (σ:=⟨n,tm,hp⟩) r hz
 obtain ⟨nb,hb,ex⟩:=kx.uC
 obtain ⟨L,c,M',HX,fy,p1,p2,p3,p4,p5,p6,p7,p8⟩:=zF (lH.inj P kt) r.hp u.mA
 obtain rfl:HX=nb:=by rw [p4] at hb;exact Option.some.inj hb
 have xb:=lH.find (P:=P) (t:=kt) (g:=gk) ky fy.toList (M'.map Prod.fst) (by simpa using p6.symm) (fun j k' e h1 h2=>by
  rw [List.getElem?_map] at h1
  cases hm:M'[j]? with
  | none=>rw [hm] at h1;cases h1
  | some q=>rw [hm] at h1;rw [← Option.some.inj h1];exact (p7 j q e hm h2).1)
 obtain ⟨Wq,uE,g1,g2,g3,g4,g5,g6,g7⟩:=p3
 obtain rfl:Wq=HX:=by rw [p4] at g1;exact (Option.some.inj g1).symm
 obtain rfl:uE=fy:=by rw [p5] at g2;exact (Obj.map.inj (Option.some.inj g2)).1.symm
 have hLM:L.length=M'.length:=by have:=congrArg List.length p2;simpa using this
 have Yh:∀ (j:Nat) (x:oM) (e:K×V),L[j]? =some x→M'[j]? =some e→x.k=gk e.1∧x.v=gv e.2:=by
  intro j x e h1 h2
  have:(L.map oM.kv)[j]? =(M'.map fun e=>(gk e.1,gv e.2))[j]?:=by rw [p2]
  rw [List.getElem?_map,List.getElem?_map,h1,h2] at this
  exact Prod.mk.inj (Option.some.inj this)
 rcases xa (gv:=gv) (w:=w) (S:=S) (k:=key) M' uE.toList 0 p6.symm (fun j e m h1 h2=>(p7 j e m h1 h2).2) with ⟨q1,q2⟩ | ⟨v',j,val,q1,q2,q3,q4⟩
 ·
  have hw:=yc (ob:=.map (uE.push ⟨a.eval y,a.eval z,c⟩) (c+1)) r.hp u p4 p5 id id (fun k1=>by
   refine ⟨L++[⟨gk key,gv v,c⟩],c+1,?_,Wq,uE.push ⟨a.eval y,a.eval z,c⟩,p4,yb p5,by simp [g3],?_,?_,?_,?_⟩
   ·rw [List.map_append,p2]
    refine List.Perm.trans ?_ ((vn key v (An M key)).symm.map _)
    rw [Ja (by rw [← vp p1 p8];exact q1)]
    exact List.perm_append_comm.trans (List.Perm.cons _ (p1.map _))
   ·intro i e m he hm
    rw [Array.getElem?_push] at hm
    rcases Nat.lt_or_ge i L.length with hi | hi
    ·rw [List.getElem?_append_left hi] at he
     rw [if_neg (by omega)] at hm
     obtain ⟨s1,s2,s3⟩:=g4 i e m he hm
     exact ⟨s1,s2.mono k1,s3.mono k1⟩
    ·have Kp:i=L.length:=by
      have:=(List.getElem?_eq_some_iff.1 he).1
      simp at this;omega
     subst Kp
     rw [if_pos g3.symm] at hm
     simp at he
     obtain rfl:=Option.some.inj hm
     subst he
     exact ⟨rfl,ky.mono k1,by rw [qM] at kz;exact kz.mono k1⟩
   ·intro e he
    rcases List.mem_append.1 he with h | h
    ·have:=g5 e h;omega
    ·simp at h;subst h;simp
   ·rw [List.map_append,List.nodup_append]
    refine ⟨g6,by simp,fun a1 ha b1 Ev vM=>?_⟩
    simp at Ev
    subst Ev
    obtain ⟨e,he,rfl⟩:=List.mem_map.1 ha
    have:=g5 e he
    omega
   ·rw [List.map_append,List.nodup_append]
    refine ⟨g7,by simp,fun a1 ha b1 Ev vM=>?_⟩
    simp at Ev
    subst Ev
    obtain ⟨e,he,rfl⟩:=List.mem_map.1 ha
    obtain ⟨j,hj⟩:=List.getElem?_of_mem he
    have Ec:j < M'.length:=by rw [← hLM];exact (List.getElem?_eq_some_iff.1 hj).1
    have:=(Yh j e M'[j] hj (List.getElem?_eq_getElem Ec)).1
    rw [this] at vM
    exact (vo.1 q1) M'[j] (List.getElem_mem Ec) (lH.inj P kt _ _ vM))
  refine ⟨_,S,?_,r.heap hw.2.2 hw.1,hw.2.1⟩
  simp [execOp,Instr.mapUpdate,ex,run_underlying (aE.h (P:=P) (t:=t)),kM p5,lH.check (P:=P) (t:=kt) ky,xb,q2,Aq _ p5]
 ·
  have Ec:j < uE.toList.length:=by rw [p6];exact (List.getElem?_eq_some_iff.1 q4).1
  have Gj:j < uE.size:=by simpa using Ec
  have Yi:uE.toList[j]? =some uE[j]:=by simp [Gj]
  have MN:=(p7 j _ _ q4 Yi).1
  have S6:Instr.sameBits 10000 uE[j].key (a.eval y)=true:=lH.bits (P:=P) (t:=kt) MN ky
  have RP:j < L.length:=by omega
  have hw:=yc (ob:=.map (uE.modify j fun e=>{e with key:=a.eval y,val:=a.eval z}) c) r.hp u p4 p5 id id (fun k1=>by
   refine ⟨L.set j ⟨gk key,gv v,L[j].born⟩,c,?_,Wq,_,p4,yb p5,by simp [g3],?_,?_,?_,?_⟩
   ·rw [List.map_set]
    refine List.Perm.trans ?_ ((vn key v (An M key)).symm.map _)
    have e1:(L.map oM.kv).set j (gk key,gv v)=(M'.set j (key,v)).map fun e=>(gk e.1,gv e.2):=by rw [p2,List.map_set]
    show ((L.map oM.kv).set j (gk key,gv v)).Perm _
    rw [e1]
    refine List.Perm.map _ ?_
    have Wr:j < M'.length:=by omega
    have e2:M'=M'.take j++(key,v') :: M'.drop (j+1):=by
     have:=List.take_append_drop j M'
     rw [List.drop_eq_getElem_cons Wr] at this
     have hq:M'[j]=(key,v'):=by rw [List.getElem?_eq_getElem Wr] at q4;exact Option.some.inj q4
     rw [hq] at this
     exact this.symm
    have e3:M'.set j (key,v)=M'.take j++(key,v) :: M'.drop (j+1):=by
     rw [List.set_eq_take_append_cons_drop,if_pos Wr]
    rw [e3]
    refine List.perm_middle.trans (List.Perm.cons _ ?_)
    have e4:An M' key=M'.take j++M'.drop (j+1):=by
     have Ws:=p8
     rw [e2,List.map_append,List.map_cons,List.nodup_append,List.nodup_cons] at Ws
     unfold An
     rw [e2,List.filter_append,List.filter_cons]
     simp only [ne_eq,not_true_eq_false,decide_false,Bool.false_eq_true,if_false]
     rw [← e2]
     congr 1
     ·refine List.filter_eq_self.2 fun e he=>?_
      simp only [decide_not,Bool.not_eq_true',decide_eq_false_iff_not]
      intro hk
      exact Ws.2.2 e.1 (List.mem_map.2 ⟨e,he,rfl⟩) key (by simp) hk
     ·refine List.filter_eq_self.2 fun e he=>?_
      simp only [decide_not,Bool.not_eq_true',decide_eq_false_iff_not]
      intro hk
      exact Ws.2.1.1 (List.mem_map.2 ⟨e,he,hk⟩)
    rw [← e4]
    exact p1.filter _
   ·intro i e m he hm
    rw [Array.getElem?_modify] at hm
    rw [List.getElem?_set] at he
    by_cases Da:j=i
    ·subst Da
     simp only [if_true,RP] at he
     simp only [if_true,Array.getElem?_eq_getElem Gj,Option.map_some] at hm
     obtain rfl:=Option.some.inj he
     obtain rfl:=Option.some.inj hm
     refine ⟨(g4 j L[j] uE[j] (List.getElem?_eq_getElem RP) (Array.getElem?_eq_getElem Gj)).1,ky.mono k1,by rw [qM] at kz;exact kz.mono k1⟩
    ·rw [if_neg Da] at he hm
     obtain ⟨s1,s2,s3⟩:=g4 i e m he hm
     exact ⟨s1,s2.mono k1,s3.mono k1⟩
   ·intro e he
    rcases List.mem_or_eq_of_mem_set he with h | h
    ·exact g5 e h
    ·subst h;exact g5 L[j] (List.getElem_mem RP)
   ·rw [List.map_set]
    have:(L.map (·.born)).set j L[j].born=L.map (·.born):=by
     exact sE (by rw [List.getElem?_map,List.getElem?_eq_getElem RP];rfl)
    rw [this];exact g6
   ·rw [List.map_set]
    have:(L.map (·.k)).set j (gk key)=L.map (·.k):=by
     have hk:=(Yh j L[j] _ (List.getElem?_eq_getElem RP) q4).1
     exact sE (by rw [List.getElem?_map,List.getElem?_eq_getElem RP,Option.map_some,hk])
    rw [this];exact g7)
  refine ⟨_,S,?_,r.heap hw.2.2 hw.1,hw.2.1⟩
  simp [execOp,Instr.mapUpdate,ex,run_underlying (aE.h (P:=P) (t:=t)),kM p5,lH.check (P:=P) (t:=kt) ky,xb,q2,Instr.keyThatStays,Gj,S6,Aq _ p5]
theorem xc {K V:Type} [DecidableEq K] [wB K] {gk:K→AV} {gv:V→AV} {M:List (K×V)} {key:K} {v:V} {t kt vt:TypeId} {x y z:Operand} {b:Bk} {av:AV} {cC:Heap} [aE P t (.map kt vt)] [lH P kt gk] (hx:cG tm x=some (.jO b)) (hy:cG tm y=some (gk key)) (hz:cG tm z=some av) (qM:av=gv v) (u:mT hp b (.mp (M.map fun e=>(gk e.1,gv e.2))) b (.mp ((gV M key v).map fun e=>(gk e.1,gv e.2))) cC)
 (kk:ae P all rest ⟨n,tm,cC⟩ Q):ae P all (⟨none,.insert t x y z,ty,pos,af,none⟩ :: rest) ⟨n,tm,hp⟩ Q:=by
 intro w S a r
 have:=uD (all:=all) (rest:=rest) (ty:=ty) (pos:=pos) (af:=af) (t:=t) (kt:=kt) (vt:=vt) (gk:=gk) (gv:=gv) hx hy hz qM u kk w S a r
 unfold wpList at this ⊢
 exact this
end rules
def xd (L:List oM) (c:Nat) (seen:List Nat) (rest:List (AV×AV)):Prop:=((L.filter (fun e=>!seen.contains e.born)).map oM.kv).Perm rest
def S7 (L:List oM) (seen:List Nat) (e:AV×AV):Prop:=∃ x∈L,seen.getLast? =some x.born∧x.kv=e
theorem find_born {L:List oM} (hn:(L.map (·.born)).Nodup) {x:oM} (hx:x∈L) {w:World} {S:Nat→Prop} {fy:Array MapEntry} (hl:fy.size=L.length) (h:∀ (i:Nat) e m,L[i]? =some e→fy[i]? =some m→m.born=e.born∧At w S e.k m.key∧At w S e.v m.val):
 ∃ m,fy.find? (·.born==x.born)=some m∧At w S x.k m.key∧At w S x.v m.val:=by
 obtain ⟨j,hj⟩:=List.getElem?_of_mem hx
 have Ec:j < L.length:=(List.getElem?_eq_some_iff.1 hj).1
 have Gj:j < fy.size:=by omega
 have pO:=h j x fy[j] hj (Array.getElem?_eq_getElem Gj)
 cases hf:fy.find? (·.born==x.born) with
 | none=>
   rw [Array.find?_eq_none] at hf
   exact absurd (by simpa using pO.1) (hf fy[j] (Array.getElem_mem Gj))
 | some m=>
   have hb:m.born=x.born:=by have:=Array.find?_some hf;simpa using this
   have hm:=Array.mem_of_find?_eq_some hf
   obtain ⟨i,hi,rfl⟩:=Array.getElem_of_mem hm
   have oX:i < L.length:=by omega
   have JU:=(h i L[i] fy[i] (List.getElem?_eq_getElem oX) (Array.getElem?_eq_getElem hi)).1
   have Da:i=j:=by
    have e1:(L.map (·.born))[i]? =some x.born:=by rw [List.getElem?_map,List.getElem?_eq_getElem oX,Option.map_some,← JU,hb]
    have e2:(L.map (·.born))[j]? =some x.born:=by rw [List.getElem?_map,hj];rfl
    exact (List.getElem?_inj (by simpa using oX) hn).1 (e1.trans e2.symm)
   subst Da
   exact ⟨_,rfl,pO.2⟩
theorem E1 {P:Program} {w:World} {r m c:Nat} {seen:Array Nat} {fy xW:Array MapEntry} {ty:TypeId} (g:w.heap[r]? =some (.mapIter (some m) c seen c)) (p:w.heap[m]? =some (.map fy c)) (NM:(!seen.isEmpty&&!fy.isEmpty&&fy.all (fun e=>decide (e.born≥c)))=false)
 (hl:(fy.filter fun e=>!seen.contains e.born)=xW) (ho:xW.filter (fun e=>decide (e.born < c))=xW) (hn:xW.filter (fun e=>decide (e.born≥c))=#[]):
 (Instr.next (.pointer (some ⟨r,0,none⟩)) false ty).run P w=((choose (.mapNext ((if xW.isEmpty then #[none] else #[])++(xW++#[]).map some).size)).run P w).andThen fun i w'=>
  (match ((if xW.isEmpty then #[none] else #[])++(xW++#[]).map some)[i]? with
  | some (some e)=>(do setObj r (.mapIter (some m) c (seen.push e.born) c);pure (.tuple #[.bool true,e.key,e.val]):Sem Value)
  | some none=>pure (.tuple #[.bool false])
  | none=>stuck "Next: no such candidate").run P w':=by
 subst hl
 unfold Instr.next
 simp only [Sem.run_bind,yN g,kM p,Result.andThen_ok,NM,ho,hn,Bool.false_eq_true,if_false,Sem.run_pure]
 rfl
section rules
variable {P:Program} {all:Array Oper} {rest:List Oper} {n:Nat} {tm:List (Nat×AV)} {hp:Heap} {Q:St→Prop} {d:Nat} {ty:TypeId} {pos:String} {af:Array Edge}
theorem NN {E:Type} {enc:E→AV×AV} {M:List E} {t kt vt:TypeId} {x:Operand} {b:Bk} {cC:List oM→Nat→Heap} [aE P t (.map kt vt)] (hx:cG tm x=some (.jO b)) (u:∀ L c,mT hp b (.mp (M.map enc)) b (.MA L c) (cC L c)) (hn:Nat.blt d n=true)
 (kk:∀ bi L c,(L.map oM.kv).Perm (M.map enc)→xd L c [] (M.map enc)→ae P all rest ⟨n,(d,.ptr bi 0) :: tm,(bi,.J0 b c []) :: cC L c⟩ Q):ae P all (⟨some d,.range t x,ty,pos,af,none⟩ :: rest) ⟨n,tm,hp⟩ Q:=by
 refine ae.Kb rfl fun w S a r=>?_
 obtain ⟨nb,hb,ex⟩:=(bj (σ:=⟨n,tm,hp⟩) r hx).uC
 have f:=(u [] 0).mA
 obtain ⟨L,c,nP,hH⟩:=r.hp.holds _ f.mem
 have S4:=hH
 obtain ⟨HX,fy,g1,g2,g3,_⟩:=hH
 obtain rfl:HX=nb:=by rw [g1] at hb;exact Option.some.inj hb
 obtain ⟨r1,e1,k1⟩:=tb r.hp (u L c) (HW w b.bN) id id S4 (.inl rfl)
 have hh:Holds (w.alloc (.mapIter (some HX) c #[] c)) S ⟨some w.heap.size,0⟩ (.J0 b c []):=⟨w.heap.size,HX,rfl,hb,by show (w.heap.push _)[w.heap.size]? =_;simp⟩
 obtain ⟨r2,e2,k2⟩:=qn r1 (Ext.alloc w (.mapIter (some HX) c #[] c)) id hh (.inr ⟨_,rfl,Nat.le_refl _⟩)
 refine ⟨.pointer (some ⟨w.heap.size,0,none⟩),w.alloc (.mapIter (some HX) c #[] c),S,_,?_,(r.heap k2 r2).put hn (.ptr _ _ _ rfl),e1.trans e2,kk ⟨some w.heap.size,0⟩ L c nP ?_⟩
 ·simp [execOp,Instr.range,ex,run_underlying (aE.h (P:=P) (t:=t)),kM g2]
 ·unfold xd
  have e:L.filter (fun e=>!([]:List Nat).contains e.born)=L:=List.filter_eq_self.2 (fun _ _=>by simp)
  rw [e];exact nP
theorem NO {L:List oM} {c:Nat} {seen:List Nat} {x:Operand} {bi bm:Bk} {e:AV×AV} {k v:AV} (hx:cG tm x=some (.ptr bi 0)) (fi:mD hp bi (.J0 bm c seen)) (fm:mD hp bm (.MA L c)) (hc:S7 L seen e) (hk:e.1=k) (hv:e.2=v):
 QV P ⟨some d,.entry x,ty,pos,af,none⟩ ⟨n,tm,hp⟩ (.iV [k,v]):=by
 intro w S a r
 obtain ⟨ni,hi,ex⟩:=(bj (σ:=⟨n,tm,hp⟩) r hx).lK
 obtain ⟨Qj,nm,g1,g2,g3⟩:=r.hp.holds _ fi.mem
 obtain rfl:Qj=ni:=by rw [g1] at hi;exact Option.some.inj hi
 obtain ⟨Pg,fy,p1,p2,p3,p4,p5,p6,_⟩:=r.hp.holds _ fm.mem
 obtain rfl:Pg=nm:=by rw [p1] at g2;exact Option.some.inj g2
 obtain ⟨y,hy,hs,hkv⟩:=hc
 obtain ⟨m,m1,m2,m3⟩:=find_born p6 hy p3 p4
 have Wt:seen.toArray.back? =some y.born:=by rw [← hs];simp [List.getLast?_eq_getElem?,Array.back?]
 subst hkv
 refine ⟨.tuple #[m.key,m.val],fun w1 e1=>?_,?_⟩
 ·simp [execOp,Instr.entry,ex,yN (e1.heap g3),kM (e1.heap p2),Wt,m1]
 ·rw [← hk,← hv];exact .iV _ _ rfl (M3 m2 m3)
theorem Qk {E:Type} {enc:E→AV×AV} {R:List E} {L:List oM} {c:Nat} {seen:List Nat} {x:Operand} {bi bm:Bk} {cC:List Nat→Heap} (hx:cG tm x=some (.ptr bi 0)) (hI:xd L c seen (R.map enc)) (fm:mD hp bm (.MA L c)) (u:∀ s,mT hp bi (.J0 bm c seen) bi (.J0 bm c s) (cC s)) (hn:Nat.blt d n=true)
 (k0:R=[]→ae P all rest ⟨n,(d,.iV [.bool false]) :: tm,hp⟩ Q)
 (k1:∀ e R' s,R.Perm (e :: R')→R'.length < R.length→xd L c s (R'.map enc)→S7 L s (enc e)→ae P all rest ⟨n,(d,.iV [.bool true,(enc e).1,(enc e).2]) :: tm,cC s⟩ Q):ae P all (⟨some d,.next x false,ty,pos,af,none⟩ :: rest) ⟨n,tm,hp⟩ Q:=by
 refine ae.Kb rfl fun w S a r=>?_
 obtain ⟨ni,hi,ex⟩:=(bj (σ:=⟨n,tm,hp⟩) r hx).lK
 obtain ⟨Qj,nm,g1,g2,g3⟩:=r.hp.holds _ (u []).mA.mem
 obtain rfl:Qj=ni:=by rw [g1] at hi;exact Option.some.inj hi
 obtain ⟨Pg,fy,p1,p2,p3,p4,p5,p6,_⟩:=r.hp.holds _ fm.mem
 obtain rfl:Pg=nm:=by rw [p1] at g2;exact Option.some.inj g2
 have K1:∀ m∈fy,m.born < c:=by
  intro m hm
  obtain ⟨i,hi,rfl⟩:=Array.getElem_of_mem hm
  have oX:i < L.length:=by omega
  have:=(p4 i L[i] fy[i] (List.getElem?_eq_getElem oX) (Array.getElem?_eq_getElem hi)).1
  rw [this];exact p5 _ (List.getElem_mem oX)
 have NM:(!seen.toArray.isEmpty&&!fy.isEmpty&&fy.all (fun e=>decide (e.born≥c)))=false:=by
  by_cases h0:fy.isEmpty=true
  ·simp [h0]
  ·have h1:0 < fy.size:=by
    have:fy.size≠0:=by simpa [Array.isEmpty] using h0
    omega
   have:fy.all (fun e=>decide (e.born≥c))=false:=by
    rw [Bool.eq_false_iff]
    intro gU
    rw [Array.all_eq_true] at gU
    have:=gU 0 h1
    have hb:=K1 fy[0] (Array.getElem_mem h1)
    simp at this;omega
   simp [this]
 have hold:(fy.filter fun e=>!seen.toArray.contains e.born).filter (fun e=>decide (e.born < c))=fy.filter fun e=>!seen.toArray.contains e.born:=by
  rw [Array.filter_eq_self]
  intro m hm
  simpa using K1 m (Array.mem_filter.1 hm).1
 have EG:(fy.filter fun e=>!seen.toArray.contains e.born).filter (fun e=>decide (e.born≥c))=#[]:=by
  rw [Array.filter_eq_empty_iff]
  intro m hm
  have:=K1 m (Array.mem_filter.1 hm).1
  simp;omega
 generalize NP:(fy.filter fun e=>!seen.toArray.contains e.born)=xW at hold EG
 have qp:∀ m∈xW,∃ y∈L,(seen.contains y.born=false)∧m.born=y.born∧At w S y.k m.key∧At w S y.v m.val:=by
  intro m hm
  rw [← NP] at hm
  obtain ⟨h1,h2⟩:=Array.mem_filter.1 hm
  obtain ⟨i,hi,rfl⟩:=Array.getElem_of_mem h1
  have oX:i < L.length:=by omega
  have hh:=p4 i L[i] fy[i] (List.getElem?_eq_getElem oX) (Array.getElem?_eq_getElem hi)
  refine ⟨L[i],List.getElem_mem oX,?_,hh⟩
  rw [← hh.1];simpa using h2
 have hex:∀ y∈L,seen.contains y.born=false→∃ m,m∈xW:=by
  intro y hy hs
  obtain ⟨j,hj⟩:=List.getElem?_of_mem hy
  have Ec:j < L.length:=(List.getElem?_eq_some_iff.1 hj).1
  have Gj:j < fy.size:=by omega
  refine ⟨fy[j],?_⟩
  rw [← NP,Array.mem_filter]
  refine ⟨Array.getElem_mem Gj,?_⟩
  rw [(p4 j y fy[j] hj (Array.getElem?_eq_getElem Gj)).1]
  simpa using hs
 by_cases hz:xW.size=0
 ·
  have hR:R=[]:=by
   cases R with
   | nil=>rfl
   | cons e R'=>
     unfold xd at hI
     have hm:enc e∈(L.filter (fun e=>!seen.contains e.born)).map oM.kv:=hI.mem_iff.2 (by simp)
     obtain ⟨y,hy,_⟩:=List.mem_map.1 hm
     obtain ⟨hy1,hy2⟩:=List.mem_filter.1 hy
     obtain ⟨m,hm⟩:=hex y hy1 (by simpa using hy2)
     obtain ⟨i,hi,_⟩:=Array.getElem_of_mem hm
     omega
  obtain rfl:xW=#[]:=Array.eq_empty_of_size_eq_zero hz
  refine ⟨.tuple #[.bool false],w,S,_,?_,r.put hn (.iV _ _ rfl ?_),iE.refl _ _ _,k0 hR⟩
  ·have Wu:(Instr.next (a.eval x) false ty).run P w=.ok (.tuple #[.bool false]) w:=by
    rw [ex,E1 (P:=P) (ty:=ty) g3 p2 NM NP hold EG]
    simp [run_choose,Question.forced]
   simp [execOp,Wu]
  ·intro i c' v h1 h2
   cases i with
   | zero=>simp at h1 h2;subst h1;subst h2;exact .bool _
   | succ i=>simp at h1
 ·obtain ⟨i,w1,hch,oX,hE⟩:∃ i w1,(choose (.mapNext xW.size)).run P w=.ok i w1∧i < xW.size∧(w1=w∨w1=w.drew):=by
   by_cases hf:(Question.mapNext xW.size).forced=true
   ·refine ⟨0,w,?_,by omega,.inl rfl⟩
    rw [run_choose,if_pos hf]
   ·have hc:=run_choose P w (Question.mapNext xW.size)
    rw [if_neg hf] at hc
    exact ⟨_,w.drew,hc,Nat.mod_lt _ (by omega:0 < xW.size),.inr rfl⟩
  have ext:Ext w w1:=by
   rcases hE with rfl | rfl
   ·exact Ext.refl _
   ·exact Ext.Hx w (w.drawn+1) (Nat.le_succ _)
  obtain ⟨y,hy,Yj,hb,hk,hv⟩:=qp xW[i] (Array.getElem_mem oX)
  have vf:∀ z∈L,z.born=y.born→z=y:=by
   intro z hz Ql
   obtain ⟨i1,h1⟩:=List.getElem?_of_mem hz
   obtain ⟨i2,h2⟩:=List.getElem?_of_mem hy
   have Wv:i1 < L.length:=(List.getElem?_eq_some_iff.1 h1).1
   have:i1=i2:=(List.getElem?_inj (by simpa using Wv) p6).1 (by rw [List.getElem?_map,List.getElem?_map,h1,h2,Option.map_some,Option.map_some,Ql])
   subst this
   rw [h1] at h2;exact Option.some.inj h2
  unfold xd at hI
  have hyR:y.kv∈R.map enc:=hI.mem_iff.1 (List.mem_map.2 ⟨y,List.mem_filter.2 ⟨hy,by simpa using Yj⟩,rfl⟩)
  obtain ⟨pre,post,RJ⟩:=List.append_of_mem (List.mem_filter.2 ⟨hy,(by simpa using Yj:(!seen.contains y.born)=true)⟩:y∈L.filter (fun e=>!seen.contains e.born))
  have Ww:L.filter (fun e=>!(seen++[y.born]).contains e.born)=pre++post:=by
   have e1:L.filter (fun e=>!(seen++[y.born]).contains e.born)=(L.filter (fun e=>!seen.contains e.born)).filter (fun e=>decide (e.born≠y.born)):=by
    rw [List.filter_filter]
    apply List.filter_congr
    intro e he
    simp only [List.contains_eq_mem,List.mem_append,List.mem_singleton,ne_eq,decide_not]
    by_cases q1:e.born∈seen<;>by_cases q2:e.born=y.born<;>simp [q1,q2]
   have Qm:((L.filter (fun e=>!seen.contains e.born)).map (·.born)).Nodup:=p6.sublist ((List.filter_sublist).map _)
   rw [RJ,List.map_append,List.map_cons,List.nodup_append,List.nodup_cons] at Qm
   rw [e1,RJ,List.filter_append,List.filter_cons]
   simp only [ne_eq,not_true_eq_false,decide_false,Bool.false_eq_true,if_false]
   congr 1
   ·refine List.filter_eq_self.2 fun e he=>?_
    simp only [decide_not,Bool.not_eq_true',decide_eq_false_iff_not]
    intro hk
    exact Qm.2.2 e.born (List.mem_map.2 ⟨e,he,rfl⟩) y.born (by simp) hk
   ·refine List.filter_eq_self.2 fun e he=>?_
    simp only [decide_not,Bool.not_eq_true',decide_eq_false_iff_not]
    intro hk
    exact Qm.2.1.1 (List.mem_map.2 ⟨e,he,hk⟩)
  have hP:(y.kv :: (pre++post).map oM.kv).Perm (R.map enc):=by
   refine List.Perm.trans ?_ hI
   rw [RJ]
   simp only [List.map_append,List.map_cons]
   exact List.perm_middle.symm
  obtain ⟨R2,Yk,S8⟩:=ti enc _ _ hP
  cases R2 with
  | nil=>simp at S8
  | cons e R'=>
    obtain ⟨PT,Kc⟩:=List.cons.inj (by simpa using S8)
    have Qn:w1.heap[Qj]? =some (.mapIter (some Pg) c seen.toArray c):=ext.heap g3
    have hIt:xd L c (seen++[y.born]) (R'.map enc):=by unfold xd;rw [Ww,← Kc];simp
    have r1:=r.ext ext
    have hw:=yc (ob:=.mapIter (some Pg) c (seen++[y.born]).toArray c) r1.hp (u (seen++[y.born])) g1 Qn id id (fun k1=>⟨Qj,Pg,g1,g2,yb Qn⟩)
    have Wx:iE w S hp w1 S hp:=iE.ext (fun n hn=>r.hp.slt n hn) ext
    refine ⟨.tuple #[.bool true,xW[i].key,xW[i].val],vN w1 Qj (.mapIter (some Pg) c (seen++[y.born]).toArray c),S,_,?_,(r1.heap hw.2.2 hw.1).put hn (.iV _ _ rfl (IN (.bool _) ?_ ?_)),Wx.trans hw.2.1,k1 e R' (seen++[y.born]) Yk.symm (by have:=Yk.length_eq;simp at this;omega) hIt ⟨y,hy,by simp,PT⟩⟩
    ·have hlz:xW.isEmpty=false:=by
      have:xW.size≠0:=hz
      simpa [Array.isEmpty] using this
     have Wu:(Instr.next (a.eval x) false ty).run P w=.ok (.tuple #[.bool true,xW[i].key,xW[i].val]) (vN w1 Qj (.mapIter (some Pg) c (seen++[y.born]).toArray c)):=by
      rw [ex,E1 (P:=P) (ty:=ty) g3 p2 NM NP hold EG]
      have gG:((if xW.isEmpty=true then #[none] else #[])++(xW++#[]).map some)=xW.map some:=by simp [hlz]
      rw [gG,Array.size_map,hch]
      simp [oX,hb,EZ _ Qn]
     simp [execOp,Wu]
    ·rw [← PT]
     exact (hk.mono (fun n hn=>⟨hn,ext.same n (r.hp.slt n hn)⟩)).mono hw.2.2
    ·rw [← PT]
     exact (hv.mono (fun n hn=>⟨hn,ext.same n (r.hp.slt n hn)⟩)).mono hw.2.2
end rules
theorem ai.Qo {n:Nat} {tm:List (Nat×AV)} {hp cC:Heap} {T:St→Prop} {b:Bk} {L:List oM} {c:Nat} {es:List (AV×AV)} (hL:(L.map oM.kv).Perm es) (u:mT hp b (.MA L c) b (.mp es) cC) (k:ai ⟨n,tm,cC⟩ T):ai ⟨n,tm,hp⟩ T:=by
 refine ai.step (Bv:=⟨n,tm,cC⟩) (fun w S a r=>?_) k
 have hH:sZ w S b L c:=r.hp.holds _ u.mA.mem
 obtain ⟨r1,e1,k1⟩:=tb r.hp u (HW w b.bN) id id ⟨L,c,hL,hH⟩ (.inl rfl)
 exact ⟨_,S,rfl,r.heap k1 r1,e1⟩
theorem aF {α β:Type} {o:Option α} {f:α→Option β} {r:β} {C:Prop} (h:o.bind f=some r) (k:∀ v,o=some v→f v=some r→C):C:=
 let ⟨v,h1,h2⟩:=MK h;k v h1 h2
def Cg:Heap→Nat→Option ((Bk×Ob)×Heap)
 | [],_=>none
 | e :: h,0=>some (e,h)
 | e :: h,i+1=>match Cg h i with
   | some (x,h')=>some (x,e :: h')
   | none=>none
def As:Heap→List Nat→Option Heap
 | _,[]=>some []
 | h,i :: r=>match Cg h i with
   | some (e,h')=>match As h' r with
     | some t=>some (e :: t)
     | none=>none
   | none=>none
theorem Ch:∀ {h:Heap} {i:Nat} {e:Bk×Ob} {h':Heap},Cg h i=some (e,h')→x2 h e.1 e.2 h'
 | [],_,_,_,hh=>by simp [Cg] at hh
 | x :: h,0,e,h',hh=>by
   simp only [Cg,Option.some.injEq,Prod.mk.injEq] at hh
   obtain ⟨rfl,rfl⟩:=hh
   exact .here
 | x :: h,i+1,e,h',hh=>by
   simp only [Cg] at hh
   split at hh
   ·rename_i y h1 h2
    simp only [Option.some.injEq,Prod.mk.injEq] at hh
    obtain ⟨rfl,rfl⟩:=hh
    exact .next (Ch h2)
   ·cases hh
theorem xe:∀ {l:List Nat} {h t:Heap},As h l=some t→HS h t
 | [],h,t,hh=>by
   simp only [As,Option.some.injEq] at hh
   subst hh;exact .nil
 | i :: r,h,t,hh=>by
   simp only [As] at hh
   split at hh
   ·rename_i e h' h1
    split at hh
    ·rename_i t' h2
     obtain rfl:=Option.some.inj hh
     exact .cons (Ch h1) (xe h2)
    ·cases hh
   ·cases hh
def K2 (tm:List (Nat×AV)):List Nat→Option (List (Nat×AV))
 | []=>some []
 | s :: r=>match lk tm s with
   | some av=>match K2 tm r with
     | some l=>some ((s,av) :: l)
     | none=>none
   | none=>none
theorem E2 {tm:List (Nat×AV)}:∀ {l:List Nat} {pP:List (Nat×AV)},K2 tm l=some pP→B5 tm pP
 | [],pP,h=>by
   simp only [K2,Option.some.injEq] at h
   subst h;exact True.intro
 | s :: r,pP,h=>by
   simp only [K2] at h
   split at h
   ·rename_i av h1
    split at h
    ·rename_i t' h2
     obtain rfl:=Option.some.inj h
     exact ⟨h1,E2 h2⟩
    ·cases h
   ·cases h
theorem ai.lq {n:Nat} {tm pP:List (Nat×AV)} {hp cC:Heap} {T:St→Prop} (is:List Nat) (h:T ⟨n,pP,cC⟩) (ht:K2 tm (pP.map Prod.fst)=some pP) (hs:As hp is=some cC):ai ⟨n,tm,hp⟩ T:=
 ai.SA (E2 ht) (xe hs) (ai.here h)
theorem mD.p0 {b:Bk} {o:Ob} {h:Heap}:mD ((b,o) :: h) b o:=.here
theorem mT.p0 {b b':Bk} {o o':Ob} {h:Heap}:mT ((b,o) :: h) b o b' o' ((b',o') :: h):=.here
theorem x2.p0 {b:Bk} {o:Ob} {h:Heap}:x2 ((b,o) :: h) b o (h):=.here
theorem mD.p1 {e0:Bk×Ob} {b:Bk} {o:Ob} {h:Heap}:mD (e0 :: (b,o) :: h) b o:=.next .p0
theorem mT.p1 {e0:Bk×Ob} {b b':Bk} {o o':Ob} {h:Heap}:mT (e0 :: (b,o) :: h) b o b' o' (e0 :: (b',o') :: h):=.next .p0
theorem x2.p1 {e0:Bk×Ob} {b:Bk} {o:Ob} {h:Heap}:x2 (e0 :: (b,o) :: h) b o (e0 :: h):=.next .p0
theorem mD.p2 {e0:Bk×Ob} {e1:Bk×Ob} {b:Bk} {o:Ob} {h:Heap}:mD (e0 :: e1 :: (b,o) :: h) b o:=.next .p1
theorem mT.p2 {e0:Bk×Ob} {e1:Bk×Ob} {b b':Bk} {o o':Ob} {h:Heap}:mT (e0 :: e1 :: (b,o) :: h) b o b' o' (e0 :: e1 :: (b',o') :: h):=.next .p1
theorem x2.p2 {e0:Bk×Ob} {e1:Bk×Ob} {b:Bk} {o:Ob} {h:Heap}:x2 (e0 :: e1 :: (b,o) :: h) b o (e0 :: e1 :: h):=.next .p1
theorem mD.p3 {e0:Bk×Ob} {e1:Bk×Ob} {e2:Bk×Ob} {b:Bk} {o:Ob} {h:Heap}:mD (e0 :: e1 :: e2 :: (b,o) :: h) b o:=.next .p2
theorem mT.p3 {e0:Bk×Ob} {e1:Bk×Ob} {e2:Bk×Ob} {b b':Bk} {o o':Ob} {h:Heap}:mT (e0 :: e1 :: e2 :: (b,o) :: h) b o b' o' (e0 :: e1 :: e2 :: (b',o') :: h):=.next .p2
theorem x2.p3 {e0:Bk×Ob} {e1:Bk×Ob} {e2:Bk×Ob} {b:Bk} {o:Ob} {h:Heap}:x2 (e0 :: e1 :: e2 :: (b,o) :: h) b o (e0 :: e1 :: e2 :: h):=.next .p2
theorem mD.p4 {e0:Bk×Ob} {e1:Bk×Ob} {e2:Bk×Ob} {e3:Bk×Ob} {b:Bk} {o:Ob} {h:Heap}:mD (e0 :: e1 :: e2 :: e3 :: (b,o) :: h) b o:=.next .p3
theorem mT.p4 {e0:Bk×Ob} {e1:Bk×Ob} {e2:Bk×Ob} {e3:Bk×Ob} {b b':Bk} {o o':Ob} {h:Heap}:mT (e0 :: e1 :: e2 :: e3 :: (b,o) :: h) b o b' o' (e0 :: e1 :: e2 :: e3 :: (b',o') :: h):=.next .p3
theorem x2.p4 {e0:Bk×Ob} {e1:Bk×Ob} {e2:Bk×Ob} {e3:Bk×Ob} {b:Bk} {o:Ob} {h:Heap}:x2 (e0 :: e1 :: e2 :: e3 :: (b,o) :: h) b o (e0 :: e1 :: e2 :: e3 :: h):=.next .p3
theorem mD.p5 {e0:Bk×Ob} {e1:Bk×Ob} {e2:Bk×Ob} {e3:Bk×Ob} {e4:Bk×Ob} {b:Bk} {o:Ob} {h:Heap}:mD (e0 :: e1 :: e2 :: e3 :: e4 :: (b,o) :: h) b o:=.next .p4
theorem mT.p5 {e0:Bk×Ob} {e1:Bk×Ob} {e2:Bk×Ob} {e3:Bk×Ob} {e4:Bk×Ob} {b b':Bk} {o o':Ob} {h:Heap}:mT (e0 :: e1 :: e2 :: e3 :: e4 :: (b,o) :: h) b o b' o' (e0 :: e1 :: e2 :: e3 :: e4 :: (b',o') :: h):=.next .p4
theorem x2.p5 {e0:Bk×Ob} {e1:Bk×Ob} {e2:Bk×Ob} {e3:Bk×Ob} {e4:Bk×Ob} {b:Bk} {o:Ob} {h:Heap}:x2 (e0 :: e1 :: e2 :: e3 :: e4 :: (b,o) :: h) b o (e0 :: e1 :: e2 :: e3 :: e4 :: h):=.next .p4
theorem mD.p6 {e0:Bk×Ob} {e1:Bk×Ob} {e2:Bk×Ob} {e3:Bk×Ob} {e4:Bk×Ob} {e5:Bk×Ob} {b:Bk} {o:Ob} {h:Heap}:mD (e0 :: e1 :: e2 :: e3 :: e4 :: e5 :: (b,o) :: h) b o:=.next .p5
theorem x2.p6 {e0:Bk×Ob} {e1:Bk×Ob} {e2:Bk×Ob} {e3:Bk×Ob} {e4:Bk×Ob} {e5:Bk×Ob} {b:Bk} {o:Ob} {h:Heap}:x2 (e0 :: e1 :: e2 :: e3 :: e4 :: e5 :: (b,o) :: h) b o (e0 :: e1 :: e2 :: e3 :: e4 :: e5 :: h):=.next .p5
theorem mD.p7 {e0:Bk×Ob} {e1:Bk×Ob} {e2:Bk×Ob} {e3:Bk×Ob} {e4:Bk×Ob} {e5:Bk×Ob} {e6:Bk×Ob} {b:Bk} {o:Ob} {h:Heap}:mD (e0 :: e1 :: e2 :: e3 :: e4 :: e5 :: e6 :: (b,o) :: h) b o:=.next .p6
section rules
variable {P:Program} {all:Array Oper} {rest:List Oper} {n:Nat} {tm:List (Nat×AV)} {hp:Heap} {Q:St→Prop} {d:Nat} {ty:TypeId} {pos:String} {af:Array Edge}
theorem rM {x:Operand} {av:AV} (hx:cG tm x=some av) (hn:Nat.blt d n=true) (k:ae P all rest ⟨n,(d,av) :: tm,hp⟩ Q):ae P all (⟨some d,.move x,ty,pos,af,none⟩ :: rest) ⟨n,tm,hp⟩ Q:=ae.qv (aA hx) hn k
theorem rA {x:Operand} {av:AV} (hx:cG tm x=some av) (hn:Nat.blt d n=true) (k:ae P all rest ⟨n,(d,av) :: tm,hp⟩ Q):ae P all (⟨some d,.assign x,ty,pos,af,none⟩ :: rest) ⟨n,tm,hp⟩ Q:=ae.qv (cU hx) hn k
theorem rF {x:Operand} {s:TypeId} {j off:Nat} {b:Bk} {o o':Nat} [nN P s j off] (hx:cG tm x=some (.ptr b o)) (ho:o+off=o') (hn:Nat.blt d n=true) (k:ae P all rest ⟨n,(d,.ptr b o') :: tm,hp⟩ Q):ae P all (⟨some d,.fieldAddr s x j,ty,pos,af,none⟩ :: rest) ⟨n,tm,hp⟩ Q:=ae.qv (aC hx ho) hn k
theorem rL {t:TypeId} {D:TypeDesc} {x:Operand} {b:Bk} {o:Nat} {cs:List AV} {av:AV} [aE P t D] (hD:TypeDesc.kH D=false) (hx:cG tm x=some (.ptr b o)) (f:mD hp b (.cells cs)) (ho:cs[o]? =some av) (hn:Nat.blt d n=true) (k:ae P all rest ⟨n,(d,av) :: tm,hp⟩ Q):ae P all (⟨some d,.load t x,ty,pos,af,none⟩ :: rest) ⟨n,tm,hp⟩ Q:=ae.qv (aL hD hx f ho) hn k
theorem rT {c x y:Operand} {av:AV} (hc:cG tm c=some (.bool true)) (hx:cG tm x=some av) (hn:Nat.blt d n=true) (k:ae P all rest ⟨n,(d,av) :: tm,hp⟩ Q):ae P all (⟨some d,.pick c x y,ty,pos,af,none⟩ :: rest) ⟨n,tm,hp⟩ Q:=ae.qv (pr hc hx) hn k
theorem rE {c x y:Operand} {av:AV} (hc:cG tm c=some (.bool false)) (hx:cG tm y=some av) (hn:Nat.blt d n=true) (k:ae P all rest ⟨n,(d,av) :: tm,hp⟩ Q):ae P all (⟨some d,.pick c x y,ty,pos,af,none⟩ :: rest) ⟨n,tm,hp⟩ Q:=ae.qv (ps hc hx) hn k
theorem rX {x:Operand} {i:Nat} {vs:List AV} {av:AV} (hx:cG tm x=some (.iV vs)) (hi:vs[i]? =some av) (hn:Nat.blt d n=true) (k:ae P all rest ⟨n,(d,av) :: tm,hp⟩ Q):ae P all (⟨some d,.extract x i,ty,pos,af,none⟩ :: rest) ⟨n,tm,hp⟩ Q:=ae.qv (IQ hx hi) hn k
theorem rN (h:Q ⟨n,tm,hp⟩):ae P all [] ⟨n,tm,hp⟩ Q:=ae.nil h
theorem rG {op:Op} {j:Nat} {want b:Bool} {s:Nat} (hj:(all[j]?).bind (·.dst)=some s) (hs:lk tm s=some (.bool b)) (hb:b=!want) (hn:Nat.blt d n=true) (k:ae P all rest ⟨n,(d,.raw undef) :: tm,hp⟩ Q):ae P all (⟨some d,op,ty,pos,af,some (j,want)⟩ :: rest) ⟨n,tm,hp⟩ Q:=ae.bn hj hs hb hn k
theorem rY {op:Op} {j:Nat} {want b:Bool} {s:Nat} (hj:(all[j]?).bind (·.dst)=some s) (hs:lk tm s=some (.bool b)) (hb:b=want) (k:ae P all (⟨some d,op,ty,pos,af,none⟩ :: rest) ⟨n,tm,hp⟩ Q):ae P all (⟨some d,op,ty,pos,af,some (j,want)⟩ :: rest) ⟨n,tm,hp⟩ Q:=ae.bc hj hs hb k
end rules
section rules
variable {P:Program} {R:St→Prop} {k:List It} {σ:St}
theorem tS {x y:Code} (h:aa P R (.code x :: .code y :: k) σ):aa P R (.code (.seq x y) :: k) σ:=aa.seq h
theorem tR {id:Nat} {l:List Oper} (h:ae P l.toArray l σ (aa P R k)):aa P R (.code (.region id l.toArray false) :: k) σ:=aa.region h
theorem aM {id:Nat} {l:List Oper} {y:Code} (h:ae P l.toArray l σ (aa P R (.code y :: k))):aa P R (.code (.seq (.region id l.toArray false) y) :: k) σ:=aa.seq (aa.region h)
theorem tK (h:aa P R k σ):aa P R (.code .skip :: k) σ:=aa.skip h
end rules
end Go.Eng
