/- The engine: abstract values, the symbolic heap, one rule for each operation. No program in sight. -/
import Derived.Test.YthamhifbccpcpaaGreatDoorEngC
import Derived.Laws.BytesArg
import Derived.Shelf.SlSortCmp.NoneTotal
set_option linter.unusedVariables false
set_option linter.unusedSectionVars false
namespace Go.Eng
open Go
variable [bF]
def depth:Nat:=100000
section rules
variable {P:Program} {all:Array Oper} {rest:List Oper} {n:Nat} {tm:List (Nat×AV)} {hp:Heap} {Q:St→Prop} {d:Nat} {ty:TypeId} {pos:String} {af:Array Edge}
theorem nT {f:FuncId} {x:Operand} {args:List Operand} {ts:Array TypeId} {oM l l':List AV} {R:AV} [bu P f] (hx:cG tm x=some (.func (.func f) oM)) (hl:x5 tm args=some l) (c:Pu P f l' R) (co:qx hp (l++oM) l') (hn:Nat.blt d n=true) (hR:R.SF=true)
 (kk:ae P all rest ⟨n,(d,R) :: tm,hp⟩ Q):ae P all (⟨some d,.call {callee:=.value x,args:=args.toArray,argTypes:=ts},ty,pos,af,none⟩ :: rest) ⟨n,tm,hp⟩ Q:=by
 refine ae.Er rfl fun w S a r=>?_
 obtain ⟨cv,e1,e2,e3⟩:=(bj (σ:=⟨n,tm,hp⟩) r hx).ur
 refine ⟨f,_,qR a w e1,?_⟩
 obtain ⟨g1,g2⟩:=qQ (σ:=⟨n,tm,hp⟩) r hl
 obtain ⟨g3,g4⟩:=qx.at r.hp co (vs:=args.map a.eval++cv.toList) (by simp [g1,e2]) (sE g1 g2 (by simpa using e3))
 refine (c w (SB S hp) _ (qS (fun m hm=>hm.elim (r.hp.slt m) fun h=>r.hp.lt h) (fun g o ho=>⟨.inl (r.hp.fe g o ho).1,(r.hp.fe g o ho).2⟩)) (by simpa using g3) g4).mono ?_
 rintro e w' ⟨v,rr,h',S',rfl,hq,h3,h4,h5⟩
 subst hq
 have ex:=h5.Cb
 exact ⟨v,S,⟨n,(d,rr) :: tm,hp⟩,rfl,(r.ext ex).put hn (Kq h3 hR),iE.ext r.hp.slt ex,kk⟩
end rules
theorem KZ {w:World} {S:Nat→Prop} {hp cC:Heap} {b:Bk} {sz k:Nat} {xs:List AV} (r:ck w S hp) (u:mU hp b (.arr sz xs) b (.arr sz (xs.take k)) cC):ck w S cC∧iE w S hp w S cC:=by
 obtain ⟨pre,post,e1,e2⟩:=u.split
 subst e1;subst e2
 have hblk:∀ n,Has (pre++(b,Ob.arr sz (xs.take k)) :: post) n↔Has (pre++(b,Ob.arr sz xs) :: post) n:=by
  intro n
  constructor<;>rintro ⟨x,hx,hb⟩<;>rcases bd.1 hx with rfl | hx
  ·exact ⟨(b,.arr sz xs),bd.2 (.inl rfl),hb⟩
  ·exact ⟨x,bd.2 (.inr hx),hb⟩
  ·exact ⟨(b,.arr sz (xs.take k)),bd.2 (.inl rfl),hb⟩
  ·exact ⟨x,bd.2 (.inr hx),hb⟩
 refine ⟨⟨?_,?_,?_,r.slt,r.fe⟩,⟨rfl,rfl,rfl,Nat.le_refl _,fun n hn=>⟨hn,rfl⟩,fun n _ _=>⟨rfl,id⟩,fun n hn=>.inl ((hblk n).1 hn),fun _=>Nat.le_refl _⟩⟩
 ·have:=r.nodup
  simpa [List.flatMap_append,List.flatMap_cons,eb,Ob.more] using this
 ·intro x hx
  rcases bd.1 hx with rfl | hx
  ·obtain ⟨h0,h1,h2⟩:=r.holds (b,.arr sz xs) (bd.2 (.inl rfl))
   refine ⟨fun x hx=>h0 x (List.mem_of_mem_take hx),Nat.le_trans (by simp only [List.length_take];omega) h1,h2.imp id ?_⟩
   rintro ⟨n,vs,E,g1,g2,g3,g4⟩
   refine ⟨n,vs,E,g1,g2,g3,fun i c v hc hv=>?_⟩
   have hp:∃ t,flat xs=flat (xs.take k)++t:=⟨flat (xs.drop k),by
    show xs.flatMap AV.cells=(xs.take k).flatMap AV.cells++(xs.drop k).flatMap AV.cells
    rw [← List.flatMap_append,List.take_append_drop]⟩
   obtain ⟨t,ht⟩:=hp
   refine g4 i c v ?_ hv
   rw [ht,List.getElem?_append_left (List.getElem?_eq_some_iff.1 hc).1]
   exact hc
  ·exact r.holds x (bd.2 (.inr hx))
 ·intro x hx n hn
  rcases bd.1 hx with rfl | hx
  ·have:=r.sep (b,.arr sz xs) (bd.2 (.inl rfl)) n hn
   exact ⟨fun h=>(this.1 h).elim,fun h=>h.elim⟩
  ·exact r.sep x (bd.2 (.inr hx)) n hn
theorem ai.take {n k:Nat} {tm:List (Nat×AV)} {hp cC:Heap} {T:St→Prop} {b:Bk} {sz:Nat} {xs:List AV} (u:mU hp b (.arr sz xs) b (.arr sz (xs.take k)) cC) (kk:ai ⟨n,tm,cC⟩ T):ai ⟨n,tm,hp⟩ T:=by
 refine ai.step (BB:=⟨n,tm,cC⟩) (fun w S a r=>?_) kk
 obtain ⟨g1,g2⟩:=KZ r.hp u
 exact ⟨_,S,rfl,⟨r.size,r.defers,r.tm,g1⟩,g2⟩
section rules
variable {P:Program} {all:Array Oper} {rest:List Oper} {n:Nat} {tm:List (Nat×AV)} {hp:Heap} {Q:St→Prop} {d:Nat} {ty:TypeId} {pos:String} {af:Array Edge}
theorem zH {α:Type} {Xs V:List α} {L H:Int} (h:sy Xs L H=some V):V.length=H.toNat - L.toNat∧L.toNat+V.length≤Xs.length∧V=(Xs.drop L.toNat).take V.length:=by
 obtain ⟨⟨h0,h1,h2⟩,rfl⟩:=sG h
 have:((Xs.drop L.toNat).take (H.toNat - L.toNat)).length=H.toNat - L.toNat:=by simp;omega
 refine ⟨this,by rw [this];omega,by rw [this]⟩
theorem kK {α:Type} {Xs Zs:List α} {t e:TypeId} {i:TypeInfo} {x:Operand} {lo hi:Option Operand} {l h:Option Int} {sz:Nat} {b:Bk} {L H:Int} [aE P t (.slice e)] [aX P e i] (hx:cG tm x=some (.sl sz b 0 Xs.length)) (gG:Nat.beq i.size sz=true) (hl:Gn tm lo l) (hh:Gn tm hi h)
 (eL:fO l=L) (eH:gC Xs.length h=H) (hv:sy Xs L H=some Zs):QV P ⟨some d,.slice t x lo hi none,ty,pos,af,none⟩ ⟨n,tm,hp⟩ (.sl sz b L.toNat Zs.length):=by
 obtain ⟨⟨h0,h1,h2⟩,_⟩:=sG hv
 have hlen:=(zH hv).1
 subst eL;subst eH
 have:=GG (P:=P) (d:=d) (ty:=ty) (pos:=pos) (af:=af) (n:=n) (tm:=tm) (hp:=hp) (t:=t) (e:=e) hx gG hl hh h0 h1 h2
 rw [Nat.zero_add] at this
 rw [hlen];exact this
theorem ai.K1 {α:Type} {g:α→AV} {Xs V:List α} {H:Int} {T:St→Prop} {b:Bk} {sz:Nat} {cC:Heap} (hv:sy Xs 0 H=some V) (u:mU hp b (.arr sz (Xs.map g)) b (.arr sz (V.map g)) cC) (kk:ai ⟨n,tm,cC⟩ T):ai ⟨n,tm,hp⟩ T:=by
 refine ai.take (k:=V.length) (xs:=Xs.map g) (b:=b) (sz:=sz) ?_ kk
 rw [← List.map_take]
 have:=(zH hv).2.2
 simp only [Int.toNat_zero,List.drop_zero] at this
 rw [← this];exact u
end rules
def kD {R:Type} (n:Nat) (len:R→Nat) (x:Option R):Option R:=x.bind fun r=>if len r=n then some r else none
theorem kL {R:Type} {n:Nat} {len:R→Nat} {x:Option R} {r:R} (h:kD n len x=some r):x=some r:=by
 unfold kD at h
 cases x with
 | none=>cases h
 | some y=>
   simp only [Option.bind_some] at h
   split at h
   ·exact h
   ·cases h
theorem cP {R:Type} {n:Nat} {len:R→Nat} {x:Option R} {r:R} (h:kD n len x=some r):len r=n:=by
 unfold kD at h
 cases x with
 | none=>cases h
 | some y=>
   simp only [Option.bind_some] at h
   split at h
   ·rename_i hh;obtain rfl:=Option.some.inj h;exact hh
   ·cases h
theorem EY {sz:Nat} {x:AV} (h:x.cells.length=sz):∀ (k i:Nat),i < k * sz→(flat (List.replicate k x))[i]? =x.cells[i % sz]?
 | 0,i,hi=>by simp at hi
 | k+1,i,hi=>by
   rw [List.replicate_succ,show flat (x :: List.replicate k x)=x.cells++flat (List.replicate k x) from rfl]
   by_cases iT:i < sz
   ·rw [List.getElem?_append_left (by omega),Nat.mod_eq_of_lt iT]
   ·rw [List.getElem?_append_right (by omega),h,EY h k (i - sz) (by rw [Nat.add_mul] at hi;omega)]
    rw [Nat.mod_eq_sub_mod (a:=i) (by omega)]
section rules
variable {P:Program} {all:Array Oper} {rest:List Oper} {n:Nat} {tm:List (Nat×AV)} {hp:Heap} {Q:St→Prop} {d:Nat} {ty:TypeId} {pos:String} {af:Array Edge}
end rules
end Go.Eng
set_option linter.unusedSimpArgs false
namespace Go.Eng
open Go Go.Sort Go.Proofs
variable [bF]
structure Pj (P:Program) (f:FuncId) (k:Nat):Prop where
 some_:∀ (enc:Nat→List Value) (_:∀ x,(enc x).length=k) (_:∀ x,∀ v∈enc x,v.oneCell'=true) (cf:Nat→Nat→Int) (_:SWO (ltOf cf)) (g:Nat) (cb:Array Value) (bN off cap:Nat) (d:Array Nat) (w:World)
  (_:∀ args w,(callFunc g args).run P w=.ok (.enter g args) w) (_:CmpLays P g cb enc k cf bN off d.size w) (_:HoldsK enc k w bN off d) (_:bN < w.heap.size) (_:d.size < 4611686018427387904),
  Calls P f #[.slice (some ⟨bN,off,none⟩) d.size cap,.func (.func g) #[] cb] w fun e w'=>
   e=.returned (.tuple #[])∧∃ n os,w'=sortWorldK enc k w bN off n (pdq (ltOf cf) d 0 d.size (Lib.bitLen d.size) true true) os
 none_:∀ (p:Option Addr) (cap:Nat) (fv:Value) (w:World),Calls P f #[.slice p 0 cap,fv] w fun e w'=>e=.returned (.tuple #[])∧w'=w
def si {α:Type} (x:α) (r:List α) (i:Nat):α:=(x :: r).getD i x
def qz {α:Type} (f:α→α→Option Int) (x:α) (r:List α) (i j:Nat):Int:=(f (si x r i) (si x r j)).getD 0
noncomputable def An {α:Type} (f:α→α→Option Int):List α→Option (List α)
 | []=>some []
 | x :: r=>@ite _ (r.length+1 < 4611686018427387904∧(∀ a∈x :: r,∀ b∈x :: r,∃ u,f a b=some u)∧SWO (ltOf (qz f x r))) (Classical.propDecidable _)
     (some ((pdq (ltOf (qz f x r)) (Array.range (r.length+1)) 0 (r.length+1) (Lib.bitLen (r.length+1)) true true).toList.map (si x r))) none
theorem tp {α:Type} (f:α→α→Option Int) (x:α) (r:List α):An f (x :: r)=@ite _ (r.length+1 < 4611686018427387904∧(∀ a∈x :: r,∀ b∈x :: r,∃ u,f a b=some u)∧SWO (ltOf (qz f x r))) (Classical.propDecidable _)
 (some ((pdq (ltOf (qz f x r)) (Array.range (r.length+1)) 0 (r.length+1) (Lib.bitLen (r.length+1)) true true).toList.map (si x r))) none:=rfl
theorem ik {α:Type} (x:α) (r:List α) (i:Nat):si x r i∈x :: r:=by
 unfold si
 rw [List.getD_eq_getElem?_getD]
 rcases h:(x :: r)[i]? with _ | y
 ·simp
 ·exact List.mem_of_getElem? h
theorem wE (enc:Nat→List Value) (k:Nat) (w:World) (bN off m:Nat) (dk:Array Nat) (os:Array Obj) {n:Nat} (hn:n < w.heap.size) (mb:n≠bN):(sortWorldK enc k w bN off m dk os).heap[n]? =w.heap[n]?:=by
 unfold sortWorldK putRowK putRow
 rw [heap_grow_old _ _ (by simpa [mapBlock] using hn)]
 simp only [mapBlock,heap_ahead,Array.getElem?_modify]
 rw [if_neg (fun h=>mb h.symm)]
theorem Ao (enc:Nat→List Value) (k:Nat) (w:World) (bN off m:Nat) (dk:Array Nat) (os:Array Obj):w.heap.size≤(sortWorldK enc k w bN off m dk os).heap.size:=by
 unfold sortWorldK putRowK
 simp
theorem Jf (enc:Nat→List Value) (k:Nat) (w:World) (bN m:Nat) (dk:Array Nat) (os:Array Obj) {vs:Array Value} {E:TypeId} (hb:w.heap[bN]? =some (.cells vs E (0,0))):(sortWorldK enc k w bN 0 m dk os).heap[bN]? =some (.cells (putCells id 0 (flatK enc k dk) vs) E (0,0)):=by
 have iT:bN < w.heap.size:=by
  rcases Nat.lt_or_ge bN w.heap.size with h | h
  ·exact h
  ·simp [Array.getElem?_eq_none h] at hb
 unfold sortWorldK putRowK putRow
 rw [heap_grow_old _ _ (by simpa [mapBlock] using iT)]
 simp only [mapBlock,heap_ahead,Array.getElem?_modify]
 rw [if_pos trivial,hb]
 rfl
theorem Ext.grown {w w':World} (hd:bF.dr) (e:Ext w w'):∃ q os,w'=grow (w.drewN q) os:=by
 refine ⟨w'.drawn - w.drawn,w'.heap.extract w.heap.size w'.heap.size,?_⟩
 obtain ⟨h',t',d',o',acM⟩:=w'
 have e1:=e.os;have e2:=e.tape;have e3:=e.output;have e4:=e.drawn hd;have e5:=e.size;have e6:=e.same
 simp only at e1 e2 e3 e4 e5 e6
 subst e1 e2 e3
 unfold grow World.drewN
 simp only [World.mk.injEq,and_true,true_and]
 refine ⟨?_,by omega⟩
 apply Array.ext_getElem?
 intro i
 by_cases hi:i < w.heap.size
 ·rw [e6 i hi,Array.getElem?_append_left hi]
 ·rw [Array.getElem?_append_right (by omega),Array.getElem?_extract]
  by_cases h2:i < h'.size
  ·rw [if_pos (by omega)]
   congr 1;omega
  ·rw [if_neg (by omega),Array.getElem?_eq_none (by omega)]
theorem GP {P:Program} {T:Type} {g:T→AV} {f:FuncId} {k:Nat} (K:Pj P f k) (MU:Nat.blt 0 k=true) {gf:FuncId} [bu P gf] {C:List AV} {fn:T→T→Option Int} (K2:∀ {x y:T} {u:Int},fn x y=some u→@Pu mD P gf (g x :: g y :: C) (I u))
 (Wu:∀ x,g x=.agg (g x).cells) {Xs Ys:List T} {b:Bk} (h:An fn Xs=some Ys):aJ P f [.sl k b 0 Xs.length,.func (.func gf) C] [(b,.arr k (Xs.map g))] (T0 [(b,.arr k (Ys.map g))] (.iV [])):=by
 have MU:0 < k:=Nat.lt_of_lt_of_le (Nat.lt_of_succ_le (Nat.le_of_ble_eq_true MU)) (Nat.le_refl _)
 intro w S vs r hl ha
 obtain ⟨v0,v1,rfl⟩:∃ v0 v1,vs=#[v0,v1]:=by
  match vs,hl with
  | ⟨[v0,v1]⟩,_=>exact ⟨v0,v1,rfl⟩
 have a0:=ha 0 _ v0 rfl rfl
 have a1:=ha 1 _ v1 rfl rfl
 obtain ⟨oa,cap,rfl,e2⟩:=a0.sg
 obtain ⟨cv,rfl,BE,Wv⟩:=a1.ur
 match Xs,h with
 | [],h=>
   obtain rfl:=Option.some.inj h
   refine (K.none_ oa cap _ w).mono ?_
   rintro e w' ⟨rfl,rfl⟩
   exact ⟨_,.iV [],_,S,rfl,⟨rfl,rfl⟩,.iV [] #[] rfl (fun i c v hc=>by simp at hc),r,iE.refl _ _ _⟩
 | x :: xr,h=>
   rw [tp] at h
   by_cases hc:(xr.length+1 < 4611686018427387904∧(∀ a∈x :: xr,∀ b∈x :: xr,∃ u,fn a b=some u)∧SWO (ltOf (qz fn x xr)))
   ·rw [if_pos hc] at h
    obtain rfl:=Option.some.inj h
    obtain ⟨hlen,Qh,hO⟩:=hc
    obtain ⟨h0,h1,h2⟩:=r.holds _ (List.mem_singleton.2 rfl)
    simp only [List.length_map,List.length_cons] at h1
    rcases h2 with ⟨_,Dc⟩ | ⟨m,row,E,hb,ti,gG,pR⟩
    ·have Pk:b.cap=0:=Dc
     omega
    rcases e2 with ⟨hn,_,_,_,_⟩ | ⟨m',zY,rfl,hle,S6⟩ | ⟨m',ad,_,_,Nq,_⟩
    ·rw [hn] at hb;cases hb
    ·obtain rfl:m'=m:=by rw [zY] at hb;exact Option.some.inj hb
     have K3:m' < w.heap.size:=by
      rcases Nat.lt_or_ge m' w.heap.size with h | h
      ·exact h
      ·simp [Array.getElem?_eq_none h] at ti
     have nS:¬ S m':=fun hs=>by have:=(r.sep _ (List.mem_singleton.2 rfl) m' (jT hb)).1 hs;exact this
     let ix:Nat→Nat:=fun i=>if i < xr.length+1 then i else 0
     have JZ:∀ i,ix i < xr.length+1:=fun i=>by simp only [ix];split<;>omega
     have Qi:∀ i,(x :: xr)[ix i]? =some (si x xr i):=by
      intro i
      simp only [ix,si,List.getD_eq_getElem?_getD]
      split
      ·rename_i hi
       rw [List.getElem?_eq_getElem (by simpa using hi)];simp
      ·rename_i hi
       rw [List.getElem?_eq_none (l:=x :: xr) (i:=i) (by simp;omega)];simp
     have RP:(xr.length+1) * k≤row.size:=by rw [gG];exact Nat.mul_le_mul_right k h1
     let enc:Nat→List Value:=fun i=>(row.toList.drop (ix i * k)).take k
     have NK:∀ i,(enc i).length=k:=by
      intro i
      have:ix i * k+k≤row.size:=by
       have:=Nat.mul_le_mul_right k (show ix i+1≤xr.length+1 from JZ i)
       rw [Nat.add_mul,Nat.one_mul] at this
       omega
      simp only [enc,List.length_take,List.length_drop,Array.length_toList];omega
     have S7:∀ i j,j < k→(enc i)[j]? =row[ix i * k+j]?:=by
      intro i j hj
      simp only [enc,List.getElem?_take,if_pos hj,List.getElem?_drop,Array.getElem?_toList]
     have ES:∀ i j,j < k→(flat ((x :: xr).map g))[ix i * k+j]? =(g (si x xr i)).cells[j]?:=by
      intro i j hj
      exact qO h0 (by rw [List.getElem?_map,Qi i];rfl) j hj
     have BE:∀ i,(g (si x xr i)).cells.length=k:=fun i=>(h0 _ (List.mem_map.2 ⟨_,ik x xr i,rfl⟩)).1
     have tZ:∀ i,∀ c∈(g (si x xr i)).cells,c.one=true:=fun i=>(h0 _ (List.mem_map.2 ⟨_,ik x xr i,rfl⟩)).2
     have EZ:∀ i,kG w S (g (si x xr i)).cells (enc i).toArray:=by
      intro i j c v hc hv
      have hj:j < k:=by rw [← BE i];exact (List.getElem?_eq_some_iff.1 hc).1
      refine pR (ix i * k+j) c v (by rw [ES i j hj];exact hc) ?_
      rw [← S7 i j hj]
      simpa using hv
     have Qj:∀ i,∀ v∈enc i,v.oneCell'=true:=by
      intro i v hv
      obtain ⟨j,hj,rfl⟩:=List.getElem_of_mem hv
      have hjk:j < k:=by rw [NK i] at hj;exact hj
      have RX:j < (g (si x xr i)).cells.length:=by rw [BE i];exact hjk
      exact (EZ i j (g (si x xr i)).cells[j] (enc i)[j] (by simp [RX]) (by simp [hj])).Gy (tZ i _ (List.getElem_mem RX))
     have uC:∀ (d:Array Nat) (t:Nat),t < d.size * k→(flatK enc k d)[t]! =(enc d[t / k]!)[t % k]!:=fun d t ht=>get_flatK enc k d t ht
     have K4:HoldsK enc k w m' 0 (Array.range (xr.length+1)):=by
      intro j hj
      rw [size_flatK,Array.size_range] at hj
      have hdiv:j / k < xr.length+1:=(Nat.div_lt_iff_lt_mul MU).2 hj
      have NL:j % k < k:=Nat.mod_lt _ MU
      have HZ:j < row.size:=by omega
      have e1:(flatK enc k (Array.range (xr.length+1)))[j]! =row[j]:=by
       rw [uC _ _ (by simpa using hj)]
       have:(Array.range (xr.length+1))[j / k]! =j / k:=by
        rw [getElem!_pos _ _ (by simpa using hdiv)];simp
       rw [this]
       have hv:=S7 (j / k) (j % k) NL
       have:ix (j / k)=j / k:=by simp only [ix];rw [if_pos hdiv]
       rw [this,Nat.div_add_mod'] at hv
       rw [Array.getElem?_eq_getElem HZ] at hv
       rw [List.getElem!_eq_getElem?_getD,hv];rfl
      constructor
      ·simp only [World.cell?,ti,id,e1,Nat.zero_add,Option.isSome_none,Bool.false_eq_true,if_false]
       rw [Array.getElem?_eq_getElem HZ]
      ·simp [World.frozen?,ti]
     have Qk:CmpLays P gf cv enc k (qz fn x xr) m' 0 (Array.range (xr.length+1)).size w:=by
      intro mm os dk hdk i j
      obtain ⟨u,hu⟩:=Qh _ (ik x xr i) _ (ik x xr j)
      have hW:∀ n,S n→S n∧(sortWorldK enc k w m' 0 mm dk os).heap[n]? =w.heap[n]?:=fun n hs=>
       ⟨hs,wE enc k w m' 0 mm dk os (r.slt n hs) (fun e=>nS (e▸hs))⟩
      have H3:kG (sortWorldK enc k w m' 0 mm dk os) S (g (si x xr i) :: g (si x xr j) :: C) (#[.agg (enc i).toArray,.agg (enc j).toArray]++cv):=by
       intro q c v hc hv
       have ag:∀ i,At (sortWorldK enc k w m' 0 mm dk os) S (g (si x xr i)) (.agg (enc i).toArray):=fun i=>by
        rw [Wu (si x xr i)]
        exact .agg _ _ (by rw [BE i];simp [NK i]) (fun a c v hc hv=>((EZ i) a c v hc hv).mono hW)
       match q with
       | 0=>
         rw [Array.getElem?_append_left (by simp)] at hv
         simp at hc hv;subst hc;subst hv;exact ag i
       | 1=>
         rw [Array.getElem?_append_left (by simp)] at hv
         simp at hc hv;subst hc;subst hv;exact ag j
       | q+2=>
         simp only [List.getElem?_cons_succ] at hc
         rw [Array.getElem?_append_right (by simp)] at hv
         simp only [List.size_toArray,List.length_cons,List.length_nil,Nat.add_sub_cancel] at hv
         exact (Wv q c v hc (by simpa using hv)).mono hW
      refine (K2 hu _ S _ (@qS mD _ _ (fun n hn=>Nat.lt_of_lt_of_le (r.slt n hn) (Ao _ _ _ _ _ _ _ _)) (fun g o ho=>⟨(r.fe g o ho).1,wZ (hW g (r.fe g o ho).1).2 (r.fe g o ho).2⟩)) (by simp [BE,‹C.length=cv.size›];omega) H3).mono ?_
      rintro e w' ⟨v,rr,h',S',rfl,hq,h3,h4,h5⟩
      obtain rfl:=hq
      rw [h3.cO]
      refine ⟨?_,@Ext.grown mD _ _ trivial (@iE.Cb mD _ _ _ _ _ h5)⟩
      unfold qz
      rw [hu];rfl
     have NM:(Array.range (xr.length+1)).size=xr.length+1:=Array.size_range
     have Cj:=K.some_ enc NK Qj (qz fn x xr) hO gf cv m' 0 cap (Array.range (xr.length+1)) w (fun args w=>qu gf args w) Qk K4 K3 (by rw [NM];exact hlen)
     rw [NM] at Cj
     simp only [Nat.zero_mul]
     refine Cj.mono ?_
     rintro e w' ⟨rfl,q,os,rfl⟩
     have MW:=pdq_sorts (ltOf (qz fn x xr)) hO (Array.range (xr.length+1)) 0 (xr.length+1) (Lib.bitLen (xr.length+1)) true true (Nat.zero_le _) (by rw [NM];exact Nat.le_refl _) (Or.inl rfl)
     generalize Dn:pdq (ltOf (qz fn x xr)) (Array.range (xr.length+1)) 0 (xr.length+1) (Lib.bitLen (xr.length+1)) true true=d' at MW ⊢
     have E0:d'.size=xr.length+1:=by rw [MW.1.1,NM]
     have hW:∀ n,S n→S n∧(sortWorldK enc k w m' 0 q d' os).heap[n]? =w.heap[n]?:=fun n hs=>
      ⟨hs,wE enc k w m' 0 q d' os (r.slt n hs) (fun e=>nS (e▸hs))⟩
     have Ql:∀ y∈(d'.toList.map (si x xr)).map g,El k y:=by
      intro y hy
      simp only [List.mem_map] at hy
      obtain ⟨z,⟨i,_,rfl⟩,rfl⟩:=hy
      exact h0 _ (List.mem_map.2 ⟨_,ik x xr i,rfl⟩)
     have hh:Go.Eng.Holds (sortWorldK enc k w m' 0 q d' os) S b (.arr k ((d'.toList.map (si x xr)).map g)):=by
      refine ⟨Ql,by simp [E0];omega,.inr ⟨m',_,E,hb,Jf enc k w m' q d' os ti,by simp [putCells,gG],?_⟩⟩
      intro j c v hc hv
      have Eh:j < (xr.length+1) * k:=by
       have:=(List.getElem?_eq_some_iff.1 hc).1
       rw [cA Ql] at this
       simpa [E0] using this
      have hdiv:j / k < xr.length+1:=(Nat.div_lt_iff_lt_mul MU).2 Eh
      have NL:j % k < k:=Nat.mod_lt _ MU
      have HZ:j < row.size:=by omega
      have Ww:(d'.toList.map (si x xr))[j / k]? =some (si x xr d'[j / k]!):=by
       rw [List.getElem?_map,Array.getElem?_toList,Array.getElem?_eq_getElem (by omega),getElem!_pos d' (j / k) (by omega)];rfl
      have HJ:(g (si x xr d'[j / k]!)).cells[j % k]? =some c:=by
       rw [← qO (sz:=k) Ql (i:=j / k) (x:=g (si x xr d'[j / k]!)) (by rw [List.getElem?_map,Ww];rfl) (j % k) NL,Nat.div_add_mod']
       exact hc
      have NN:(enc d'[j / k]!)[j % k]? =some v:=by
       simp only [putCells,Array.getElem?_mapIdx,Array.getElem?_eq_getElem HZ,Option.map_some,Option.some.injEq] at hv
       rw [if_pos ⟨Nat.zero_le _,by rw [size_flatK,E0];omega⟩,Nat.sub_zero,uC d' j (by rw [E0];exact Eh)] at hv
       have iT:j % k < (enc d'[j / k]!).length:=by rw [NK];exact NL
       rw [List.getElem?_eq_getElem iT,← hv]
       simp only [id,getElem!_pos (enc d'[j / k]!) (j % k) iT]
      exact (EZ _ _ _ _ HJ (by simpa using NN)).mono hW
     have E1:=Ao enc k w m' 0 q d' os
     refine ⟨_,.iV [],_,S,rfl,⟨rfl,rfl⟩,.iV [] #[] rfl (fun i c v hc=>by simp at hc),⟨r.nodup,fun e he=>by rw [List.mem_singleton] at he;subst he;exact hh,fun e he n hn=>?_,fun n hn=>Nat.lt_of_lt_of_le (r.slt n hn) E1,fun g o ho=>⟨(r.fe g o ho).1,wZ (hW g (r.fe g o ho).1).2 (r.fe g o ho).2⟩⟩,?_⟩
     ·rw [List.mem_singleton] at he;subst he
      replace hn:=(tb rfl).1 hn
      rw [hb] at hn
      obtain rfl:=Option.some.inj hn
      exact ⟨fun hs=>(nS hs).elim,fun hf=>hf.elim⟩
     ·refine ⟨rfl,rfl,rfl,E1,hW,fun n hn S8=>⟨wE enc k w m' 0 q d' os hn (fun e=>S8 ⟨_,List.mem_singleton.2 rfl,by rw [e];exact jT hb⟩),id⟩,?_,?_⟩
      ·rintro n ⟨e,he,qj⟩
       rw [List.mem_singleton] at he;subst he
       exact .inl ⟨_,List.mem_singleton.2 rfl,qj⟩
      ·intro _
       show w.drawn≤(sortWorldK enc k w m' 0 q d' os).drawn
       show w.drawn≤w.drawn+q
       omega
    ·simp at Nq
   ·rw [if_neg hc] at h;cases h
end Go.Eng
namespace Go.Eng
open Go
variable [bF]
def rI {α:Type} (xs:List α) (L:Int) (n:Nat) (j:Int):Option α:=if 0≤L∧0≤j∧j < n then idx xs (L+j) else none
theorem lx {α:Type} {xs:List α} {L:Int} {n:Nat} {j:Int} {x:α} (h:rI xs L n j=some x):(0≤L∧0≤j∧j < n)∧idx xs (L+j)=some x:=by
 unfold rI at h
 split at h
 ·rename_i hc;exact ⟨hc,h⟩
 ·cases h
def Ck {α:Type} (xs:List α) (L:Int) (n:Nat) (z:α):List α:=xs.take L.toNat++List.replicate n z++xs.drop (L.toNat+n)
theorem vq {α:Type} {xs v:List α} {L H:Int} {z:α} (h:sy xs L H=some v):(Ck xs L v.length z).length=xs.length:=by
 obtain ⟨⟨h0,h1,h2⟩,_⟩:=sG h
 have:=(zH h).1
 unfold Ck
 simp only [List.length_append,List.length_take,List.length_replicate,List.length_drop]
 omega
section rules
variable {P:Program} {all:Array Oper} {rest:List Oper} {n:Nat} {tm:List (Nat×AV)} {hp:Heap} {Q:St→Prop} {d:Nat} {ty:TypeId} {pos:String} {af:Array Edge}
theorem jd {α:Type} {Xs:List α} {el:α} {t e:TypeId} {i:TypeInfo} {x y:Operand} {k:IntKind} {j L:Int} {sz m:Nat} {b:Bk} [aE P t (.slice e)] [aX P e i] (hx:cG tm x=some (.sl sz b L.toNat m)) (gG:Nat.beq i.size sz=true) (hy:cG tm y=some (.int k j))
 (hv:rI Xs L m j=some el):QV P ⟨some d,.indexAddr t x y,ty,pos,af,none⟩ ⟨n,tm,hp⟩ (.pr sz b (L+j).toNat 0):=by
 obtain ⟨⟨h0,h1,h2⟩,h3⟩:=lx hv
 have h:=Aa (P:=P) (d:=d) (ty:=ty) (pos:=pos) (af:=af) (n:=n) (tm:=tm) (hp:=hp) (t:=t) (e:=e) hx gG hy ⟨h1,h2⟩
 rw [show (L+j).toNat=L.toNat+j.toNat by omega]
 exact h
theorem yd {x:Operand} {t e:TypeId} {sz off len:Nat} {b:Bk} [aE P t (.slice e)] (hx:cG tm x=some (.sl sz b off len)):QV P ⟨some d,.call {callee:=.builtin .len,args:=#[x],argTypes:=#[t]},ty,pos,af,none⟩ ⟨n,tm,hp⟩ (.int .i64 (len:Nat)):=Et hx
theorem NO {t e:TypeId} {i:TypeInfo} {z:Value} {x:Operand} {b:Bk} {L N sz:Nat} {xs:List AV} {zx:AV} {cC:Heap} [aE P t (.slice e)] [aX P e i] (hx:cG tm x=some (.sl sz b L N)) (hz:i.zero=some z) (RY:B4 z=zx) (gG:Nat.beq i.size sz=true) (x8:Sz sz zx=true) (tg:Nat.blt 0 sz=true) (hL:L+N≤xs.length)
 (u:mU hp b (.arr sz xs) b (.arr sz (xs.take L++List.replicate N zx++xs.drop (L+N))) cC) (kk:ae P all rest ⟨n,tm,cC⟩ Q):
 ae P all (⟨none,.call {callee:=.builtin .clear,args:=#[x],argTypes:=#[t]},ty,pos,af,none⟩ :: rest) ⟨n,tm,hp⟩ Q:=by
 have gG:=Nat.eq_of_beq_eq_true gG
 have tg:0 < sz:=Nat.lt_of_lt_of_le (Nat.lt_of_succ_le (Nat.le_of_ble_eq_true tg)) (Nat.le_refl _)
 have hE:=Ez x8
 refine ae.Ki rfl fun w S a r=>?_
 obtain ⟨oa,cap,e1,e2⟩:=(bj (σ:=⟨n,tm,hp⟩) r hx).sg
 rcases Nat.eq_zero_or_pos N with h0 | h0
 ·subst h0
  have jW:xs.take L++List.replicate 0 zx++xs.drop (L+0)=xs:=by simp
  rw [jW] at u
  obtain ⟨p,q,hq1,hq2⟩:=u.split
  obtain rfl:cC=hp:=by rw [hq1,hq2]
  refine ⟨.tuple #[],w,S,⟨n,tm,cC⟩,?_,r,iE.refl _ _ _,kk⟩
  cases oa<;>simp [execOp,e1,resolve,invoke,builtin,Builtin.clear_,run_underlying (aE.h (P:=P) (t:=t))]
 ·rcases e2 with ⟨_,_,hl,_,_⟩ | ⟨m,hb,rfl,h1,h2⟩ | ⟨_,_,_,_,hl,_⟩
  ·omega
  ·obtain ⟨g0,g1,⟨g2,_⟩ | ⟨m',vs,E,g2,g3,g4,g5⟩⟩:=qK r.hp (.inl u.mB)
   ·rw [g2] at hb;cases hb
   obtain rfl:m'=m:=by rw [g2] at hb;exact Option.some.inj hb
   obtain ⟨zl,Yp⟩:=qs w S z (by rw [RY];exact hE.2)
   rw [RY] at zl Yp
   have Kn:z.cells.size=sz:=by rw [← zl];exact hE.1
   have Vb:∀ y∈List.replicate N zx,El sz y:=fun y hy=>by rw [List.eq_of_mem_replicate hy];exact hE
   have Nd:(Builtin.zeroCells z.cells N).size=N * sz:=by rw [size_zeroCells,Kn]
   have RL:(flat (List.replicate N zx)).length=(Builtin.zeroCells z.cells N).size:=by rw [cA Vb,Nd];simp
   have S9:kG w S (flat (List.replicate N zx)) (Builtin.zeroCells z.cells N):=by
    intro j c v hc hv
    have hj:j < N * sz:=by
     have:=(List.getElem?_eq_some_iff.1 hc).1
     rw [cA Vb] at this;simpa using this
    rw [EY hE.1 N j hj] at hc
    refine Yp (j % sz) c v hc ?_
    unfold Builtin.zeroCells at hv
    simp only [Array.getElem?_map,Option.map_eq_some_iff] at hv
    obtain ⟨q,hq,rfl⟩:=hv
    have:q=j:=by
     rw [Array.getElem?_eq_some_iff] at hq
     obtain ⟨k1,k2⟩:=hq
     simpa using k2.symm
    subst this
    rw [Kn]
    have iT:q % sz < z.cells.size:=by rw [Kn];exact Nat.mod_lt _ tg
    simp [iT]
   have tZ:=w6 RL S9 (fun c hc=>by
    unfold flat at hc
    rw [List.mem_flatMap] at hc
    obtain ⟨y,hy,hcy⟩:=hc
    exact (Vb y hy).2 c hcy)
   have I1:=cA g0
   have hmul:(L+N) * sz≤xs.length * sz:=Nat.mul_le_mul_right _ hL
   have KJ:xs.length * sz≤b.cap * sz:=Nat.mul_le_mul_right _ g1
   rw [Nat.add_mul] at hmul
   have wy:=run_storeCells_at (P:=P) m' (L * sz) E (Builtin.zeroCells z.cells N).toList 0 vs w g3 (by simp [Nd];omega) tZ
   simp only [Nat.add_zero] at wy
   have ES:flat (xs.take L++List.replicate N zx++xs.drop (L+N))=(flat xs).take (L * sz)++flat (List.replicate N zx)++(flat xs).drop (L * sz+(flat (List.replicate N zx)).length):=by
    rw [rV,rV,vl xs L g0,vk xs (L+N) g0,RL,Nd,Nat.add_mul]
   have KK:=fun (w':World) (ha:kG w' S (flat xs) vs) (hb:kG w' S (flat (List.replicate N zx)) (Builtin.zeroCells z.cells N))=>HO (L * sz) (by rw [I1,g4];exact KJ) ha RL hb (by rw [RL,Nd,I1];omega)
   have KL:(vs.toList.take (L * sz)++(Builtin.zeroCells z.cells N).toList++vs.toList.drop (L * sz+(Builtin.zeroCells z.cells N).toList.length)).toArray.size=b.cap * sz:=by
    simp [Nd];omega
   generalize (vs.toList.take (L * sz)++(Builtin.zeroCells z.cells N).toList++vs.toList.drop (L * sz+(Builtin.zeroCells z.cells N).toList.length)).toArray=BD at wy KK KL
   have c:GB w (w.setRow m' BD) b.bN:=⟨⟨rfl,rfl,rfl,by simp,fun k hk mb=>setRow_other w m' k _ (fun e=>mb (by rw [g2,e]))⟩,fun _=>Nat.le_refl _⟩
   have k1:∀ n,S n→S n∧(w.setRow m' BD).heap[n]? =w.heap[n]?:=by
    intro k hk
    refine ⟨hk,setRow_other w m' k _ (fun e=>?_)⟩
    subst e
    exact (r.hp.sep _ u.mB.mem k (jT g2)).1 hk
   have hh:=tf r.hp u c id id ⟨fun y hy=>?_,by simp;omega,.inr ⟨m',BD,E,g2,setRow_heap w m' vs _ E _ g3,KL,by rw [ES];exact KK _ (g5.mono k1) (S9.mono k1)⟩⟩ (.inl rfl)
   ·refine ⟨.tuple #[],w.setRow m' BD,S,⟨n,tm,cC⟩,?_,r.heap hh.2.2 hh.1,hh.2.1,kk⟩
    obtain ⟨N',rfl⟩:∃ k,N=k+1:=⟨N - 1,by omega⟩
    simp [execOp,e1,resolve,invoke,builtin,Builtin.clear_,run_underlying (aE.h (P:=P) (t:=t)),zeroValue,typeInfo,aX.h (P:=P) (t:=e),hz,wy]
   ·rcases List.mem_append.1 hy with h | h
    ·rcases List.mem_append.1 h with h | h
     ·exact g0 y (List.mem_of_mem_take h)
     ·exact Vb y h
    ·exact g0 y (List.mem_of_mem_drop h)
  ·omega
theorem Dq {α:Type} {g:α→AV} {Z:α} {Xs V:List α} {H:Int} {t e:TypeId} {i:TypeInfo} {z:Value} {x:Operand} {b:Bk} {L:Int} {sz:Nat} {cC:Heap} [aE P t (.slice e)] [aX P e i] (hx:cG tm x=some (.sl sz b L.toNat V.length)) (hz:i.zero=some z) (RY:B4 z=g Z) (gG:Nat.beq i.size sz=true) (x8:Sz sz (g Z)=true) (tg:Nat.blt 0 sz=true) (hv:sy Xs L H=some V)
 (u:mU hp b (.arr sz (Xs.map g)) b (.arr sz ((Ck Xs L V.length Z).map g)) cC) (kk:ae P all rest ⟨n,tm,cC⟩ Q):
 ae P all (⟨none,.call {callee:=.builtin .clear,args:=#[x],argTypes:=#[t]},ty,pos,af,none⟩ :: rest) ⟨n,tm,hp⟩ Q:=by
 obtain ⟨⟨h0,h1,h2⟩,_⟩:=sG hv
 have hlen:=(zH hv).1
 refine NO (xs:=Xs.map g) hx hz RY gG x8 tg (by simp;omega) ?_ kk
 have:(Ck Xs L V.length Z).map g=(Xs.map g).take L.toNat++List.replicate V.length (g Z)++(Xs.map g).drop (L.toNat+V.length):=by
  unfold Ck
  simp
 rw [← this]
 exact u
end rules
end Go.Eng
namespace Go.Eng
open Go Go.Sort Go.Proofs
variable [bF]
structure H4 {α:Type} [Inhabited α] (P:Program) (f:FuncId) (enc:α→Value) (zh:List α→List α):Prop where
 some_:∀ (bN off cap:Nat) (zs:List α) (w:World),Sort.Holds enc w bN off zs.toArray→bN < w.heap.size→zs.length < 4611686018427387904→Calls P f #[.slice (some ⟨bN,off,none⟩) zs.length cap] w fun e w'=>
  e=.returned (.tuple #[])∧∃ n os,w'=grow (putRow enc (Sort.ahead w n) bN off (zh zs).toArray) os
 none_:∀ (p:Option Addr) (cap:Nat) (w:World),Calls P f #[.slice p 0 cap] w fun e w'=>e=.returned (.tuple #[])∧w'=w
def Ap {α:Type} (zh:List α→List α) (xs:List α):Option (List α):=if xs.length < 4611686018427387904 then some (zh xs) else none
theorem ye {α:Type} [Inhabited α] (enc:α→Value) (w:World) (bN off m:Nat) (dk:Array α) (os:Array Obj) {n:Nat} (hn:n < w.heap.size) (mb:n≠bN):(grow (putRow enc (Sort.ahead w m) bN off dk) os).heap[n]? =w.heap[n]?:=by
 unfold putRow
 rw [heap_grow_old _ _ (by simpa [mapBlock] using hn)]
 simp only [mapBlock,heap_ahead,Array.getElem?_modify]
 rw [if_neg (fun h=>mb h.symm)]
theorem E2 {α:Type} [Inhabited α] (enc:α→Value) (w:World) (bN m:Nat) (dk:Array α) (os:Array Obj) {vs:Array Value} {E:TypeId} (hb:w.heap[bN]? =some (.cells vs E (0,0))):(grow (putRow enc (Sort.ahead w m) bN 0 dk) os).heap[bN]? =some (.cells (putCells enc 0 dk vs) E (0,0)):=by
 have iT:bN < w.heap.size:=by
  rcases Nat.lt_or_ge bN w.heap.size with h | h
  ·exact h
  ·simp [Array.getElem?_eq_none h] at hb
 unfold putRow
 rw [heap_grow_old _ _ (by simpa [mapBlock] using iT)]
 simp only [mapBlock,heap_ahead,Array.getElem?_modify]
 rw [if_pos trivial,hb]
 rfl
theorem qM {α:Type} {g:α→AV} (hc:∀ x,(g x).cells=[g x]):∀ xs:List α,flat (xs.map g)=xs.map g
 | []=>rfl
 | x :: r=>by rw [List.map_cons,gH,hc,qM hc r];rfl
theorem yP {P:Program} {α:Type} [Inhabited α] {f:FuncId} {enc:α→Value} {zh:List α→List α} (K:H4 P f enc zh) {g:α→AV} (hg:∀ {w:World} {S:Nat→Prop} {x:α} {v:Value},At w S (g x) v→v=enc x) (K5:∀ (w:World) (S:Nat→Prop) (x:α),At w S (g x) (enc x)) (hc:∀ x,(g x).cells=[g x])
 (hlen:∀ xs,(zh xs).length=xs.length) (tZ:∀ x,(g x).one=true) {Xs Ys:List α} {b:Bk} (h:Ap zh Xs=some Ys):aJ P f [.sl 1 b 0 Xs.length] [(b,.arr 1 (Xs.map g))] (T0 [(b,.arr 1 (Ys.map g))] (.iV [])):=by
 unfold Ap at h
 split at h
 ·rename_i gG
  obtain rfl:=Option.some.inj h
  intro w S vs r hl ha
  obtain ⟨v0,rfl⟩:∃ v0,vs=#[v0]:=by
   match vs,hl with
   | ⟨[v0]⟩,_=>exact ⟨v0,rfl⟩
  have a0:=ha 0 _ v0 rfl rfl
  obtain ⟨oa,cap,rfl,e2⟩:=a0.sg
  have Ql:∀ (zs:List α),∀ y∈zs.map g,El 1 y:=by
   intro zs y hy
   obtain ⟨x,_,rfl⟩:=List.mem_map.1 hy
   exact ⟨by rw [hc];rfl,fun c Nz=>by rw [hc] at Nz;rw [List.mem_singleton.1 Nz];exact tZ x⟩
  have I5:Xs.length=0→zh Xs=Xs:=fun h0=>by
   have h1:=hlen Xs
   have e1:Xs=[]:=List.eq_nil_of_length_eq_zero h0
   rw [e1]
   apply List.eq_nil_of_length_eq_zero
   rw [hlen];rfl
  rcases Nat.eq_zero_or_pos Xs.length with h0 | h0
  ·have hK:=K.none_ oa cap w
   rw [← h0] at hK
   refine hK.mono ?_
   rintro e w' ⟨rfl,rfl⟩
   rw [I5 h0]
   exact ⟨_,.iV [],_,S,rfl,⟨rfl,rfl⟩,.iV [] #[] rfl (fun i c v hc=>by simp at hc),r,iE.refl _ _ _⟩
  ·obtain ⟨_,h1,h2⟩:=r.holds _ (List.mem_singleton.2 rfl)
   simp only [List.length_map] at h1
   rcases h2 with ⟨_,Dc⟩ | ⟨m,row,E,hb,ti,RP,pR⟩
   ·have Pk:b.cap=0:=Dc
    omega
   rcases e2 with ⟨hn,_,_,_,_⟩ | ⟨m',zY,rfl,hle,S6⟩ | ⟨m',ad,_,_,Nq,_⟩
   ·rw [hn] at hb;cases hb
   ·obtain rfl:m'=m:=by rw [zY] at hb;exact Option.some.inj hb
    have K3:m' < w.heap.size:=by
     rcases Nat.lt_or_ge m' w.heap.size with h | h
     ·exact h
     ·simp [Array.getElem?_eq_none h] at ti
    have nS:¬ S m':=fun hs=>by have:=(r.sep _ (List.mem_singleton.2 rfl) m' (jT hb)).1 hs;exact this
    have acN:row.size=b.cap:=by rw [RP];exact Nat.mul_one _
    rw [qM hc] at pR
    have hH:Sort.Holds enc w m' 0 Xs.toArray:=by
     intro j hj
     have RR:j < Xs.length:=by simpa using hj
     have HZ:j < row.size:=by omega
     have hv:=hg (pR j (g Xs[j]) row[j] (by simp [RR]) (by simp [HZ]))
     constructor
     ·simp only [World.cell?,ti,Nat.zero_add,Option.isSome_none,Bool.false_eq_true,if_false]
      rw [Array.getElem?_eq_getElem HZ,hv]
      simp [RR]
     ·simp [World.frozen?,ti]
    simp only [Nat.zero_mul]
    refine (K.some_ m' 0 cap Xs w hH K3 gG).mono ?_
    rintro e w' ⟨rfl,q,os,rfl⟩
    have hW:∀ n,S n→S n∧(grow (putRow enc (Sort.ahead w q) m' 0 (zh Xs).toArray) os).heap[n]? =w.heap[n]?:=fun n hs=>
     ⟨hs,ye enc w m' 0 q _ os (r.slt n hs) (fun e=>nS (e▸hs))⟩
    have E1:w.heap.size≤(grow (putRow enc (Sort.ahead w q) m' 0 (zh Xs).toArray) os).heap.size:=by simp
    have Wx:=hlen Xs
    have hh:Go.Eng.Holds (grow (putRow enc (Sort.ahead w q) m' 0 (zh Xs).toArray) os) S b (.arr 1 ((zh Xs).map g)):=by
     refine ⟨Ql _,by simp;omega,.inr ⟨m',_,E,hb,E2 enc w m' q _ os ti,by simp [putCells,RP],?_⟩⟩
     rw [qM hc]
     intro j c v RX hv
     have Eh:j < (zh Xs).length:=by have:=(List.getElem?_eq_some_iff.1 RX).1;simpa using this
     have HZ:j < row.size:=by omega
     rw [List.getElem?_map,List.getElem?_eq_getElem Eh] at RX
     obtain rfl:=Option.some.inj RX
     simp only [putCells,Array.getElem?_mapIdx,Array.getElem?_eq_getElem HZ,Option.map_some,Option.some.injEq] at hv
     rw [if_pos ⟨Nat.zero_le _,by simp;omega⟩] at hv
     rw [← hv]
     have:(zh Xs).toArray[j - 0]! =(zh Xs)[j]:=by simp [Eh]
     rw [this]
     exact K5 _ _ _
    refine ⟨_,.iV [],_,S,rfl,⟨rfl,rfl⟩,.iV [] #[] rfl (fun i c v hc=>by simp at hc),⟨r.nodup,fun e he=>by rw [List.mem_singleton] at he;subst he;exact hh,fun e he n hn=>?_,fun n hn=>Nat.lt_of_lt_of_le (r.slt n hn) E1,fun g o ho=>⟨(r.fe g o ho).1,wZ (hW g (r.fe g o ho).1).2 (r.fe g o ho).2⟩⟩,?_⟩
    ·rw [List.mem_singleton] at he;subst he
     replace hn:=(tb rfl).1 hn
     rw [hb] at hn
     obtain rfl:=Option.some.inj hn
     exact ⟨fun hs=>(nS hs).elim,fun hf=>hf.elim⟩
    ·refine ⟨rfl,rfl,rfl,E1,hW,fun n hn S8=>⟨ye enc w m' 0 q _ os hn (fun e=>S8 ⟨_,List.mem_singleton.2 rfl,by rw [e];exact jT hb⟩),id⟩,?_,?_⟩
     ·rintro n ⟨e,he,qj⟩
      rw [List.mem_singleton] at he;subst he
      exact .inl ⟨_,List.mem_singleton.2 rfl,qj⟩
     ·intro _
      show w.drawn≤w.drawn+q
      omega
   ·omega
 ·cases h
def Aq (xs:List Int):List Int:=xs.mergeSort fun x y=>decide (x≤y)
def BM (xs:List (List UInt8)):List (List UInt8):=xs.mergeSort fun x y=>decide (x≤y)
theorem E3 {P:Program} {f:FuncId} (K:H4 P f (Value.int .i64) Aq) {Xs Ys:List Int} {b:Bk} (h:Ap Aq Xs=some Ys):aJ P f [.sl 1 b 0 Xs.length] [(b,.arr 1 (Xs.map I))] (T0 [(b,.arr 1 (Ys.map I))] (.iV [])):=
 yP K (g:=I) (fun h=>h.cO) (fun w S x=>.int _ _) (fun _=>rfl) (fun xs=>List.length_mergeSort _) (fun _=>rfl) h
end Go.Eng
namespace Go.Eng
open Go
variable [bF]
def AV.K6:AV→Bool
 | .sl _ _ _ _=>true
 | .ptr _ _=>true
 | .agg cs=>EC cs
 | v=>v.C8
def Jg:List AV→Bool
 | []=>true
 | c :: r=>c.K6&&Jg r
def AV.Ta:AV→Bool
 | .iV cs=>Jg cs
 | .agg cs=>Jg cs
 | v=>v.K6
theorem zI {w:World} {S S':Nat→Prop} {av:AV} {v:Value} (h:At w S av v) (hn:av.K6=true):At w S' av v:=by
 cases h with
 | agg cs vs hl h=>exact .agg cs vs hl fun i c u hc hu=>uz (h i c u hc hu) (uA hn c (List.mem_of_getElem? hc))
 | sl sz b off len n cap hb h1 h2=>exact .sl sz b off len n cap hb h1 h2
 | Bx sz b hb=>exact .Bx sz b hb
 | M7 sz b off n ad hb=>exact .M7 sz b off n ad hb
 | ptr b o n hb=>exact .ptr b o n hb
 | int k n=>exact .int k n
 | bool b=>exact .bool b
 | str s=>exact .str s
 | nil=>exact .nil
 | raw v=>exact .raw v
 | _=>simp [AV.K6,AV.C8] at hn
theorem xd:∀ {cs:List AV},Jg cs=true→∀ c∈cs,c.K6=true
 | [],_,c,hc=>by simp at hc
 | x :: r,h,c,hc=>by
   simp only [Jg,Bool.and_eq_true] at h
   rcases List.mem_cons.1 hc with rfl | hc
   ·exact h.1
   ·exact xd h.2 c hc
theorem Qm {w:World} {S S':Nat→Prop} {av:AV} {v:Value} (h:At w S av v) (hn:av.Ta=true):At w S' av v:=by
 cases av with
 | iV cs=>
   cases h with
   | iV _ vs hl h=>exact .iV cs vs hl fun i c u hc hu=>zI (h i c u hc hu) (xd hn c (List.mem_of_getElem? hc))
 | agg cs=>
   cases h with
   | agg _ vs hl h=>exact .agg cs vs hl fun i c u hc hu=>zI (h i c u hc hu) (xd hn c (List.mem_of_getElem? hc))
 | _=>exact zI h hn
def Ob.Pl:Ob→Prop
 | .cells cs=>Jg cs=true
 | .arr _ xs=>∀ x∈xs,EC x.cells=true
 | _=>False
inductive GQ:Heap→Prop
 | nil:GQ []
 | cons {b:Bk} {o:Ob} {h:Heap} (c:o.Pl) (k:GQ h):GQ ((b,o) :: h)
theorem GQ.mem {h:Heap} (k:GQ h):∀ e∈h,e.2.Pl:=by
 induction k with
 | nil=>intro e he;simp at he
 | cons c k ih=>
   intro e he
   rcases List.mem_cons.1 he with rfl | he
   ·exact c
   ·exact ih e he
theorem Pl.sk {α:Type} {g:α→AV} {sz:Nat} {Xs:List α} (h:∀ x,EC (g x).cells=true):(Ob.arr sz (Xs.map g)).Pl:=fun x hx=>by
 obtain ⟨y,_,rfl⟩:=List.mem_map.1 hx
 exact h y
theorem Holds.Ta {w:World} {S S':Nat→Prop} {b:Bk} {o:Ob} (h:Holds w S b o) (hn:o.Pl):Holds w S' b o:=by
 cases o with
 | cells cs=>
   obtain ⟨h0,n,vs,E,h1,h2,h3,h4⟩:=h
   exact ⟨h0,n,vs,E,h1,h2,h3,fun i c v hc hv=>zI (h4 i c v hc hv) (xd hn c (List.mem_of_getElem? hc))⟩
 | arr sz xs=>
   obtain ⟨h0,h1,h2⟩:=h
   refine ⟨h0,h1,h2.imp id ?_⟩
   rintro ⟨n,vs,E,g1,g2,g3,g4⟩
   refine ⟨n,vs,E,g1,g2,g3,fun i c v hc hv=>uz (g4 i c v hc hv) ?_⟩
   have hm:=List.mem_of_getElem? hc
   unfold flat at hm
   rw [List.mem_flatMap] at hm
   obtain ⟨x,hx,V5⟩:=hm
   exact uA (hn x hx) c V5
 | zE _ _=>exact hn.elim
 | mp _=>exact hn.elim
 | MH _ _=>exact hn.elim
 | Sl _ _ _=>exact hn.elim
 | Kg _ _ _=>exact hn.elim
 | bU _=>exact hn.elim
 | qN _ _ _ _=>exact hn.elim
 | Sm _ _=>exact hn.elim
 | Sn _=>exact hn.elim
section rules
variable {P:Program} {all:Array Oper} {rest:List Oper} {n:Nat} {tm:List (Nat×AV)} {hp:Heap} {Q:St→Prop} {d:Nat} {ty:TypeId} {pos:String} {af:Array Edge}
theorem NP {f:FuncId} {args:List Operand} {ts:Array TypeId} {l l':List AV} {h0 hr:Heap} {Qc:AV→Heap→Prop} [bu P f] (hl:x5 tm args=some l) (c:aJ P f l' h0 Qc) (co:qx hr l l') (hs:hp.Perm (h0++hr)) (hn:Nat.blt d n=true)
 (kk:∀ r h',Qc r h'→r.Ta=true∧GQ h'∧ae P all rest ⟨n,(d,r) :: tm,h'++hr⟩ Q):ae P all (⟨some d,.call {callee:=.value (.func f),args:=args.toArray,argTypes:=ts},ty,pos,af,none⟩ :: rest) ⟨n,tm,hp⟩ Q:=by
 refine ae.Er rfl fun w S a r=>⟨f,_,pg a w,?_⟩
 obtain ⟨g1,g2⟩:=qQ (σ:=⟨n,tm,hp⟩) r hl
 have rp:=r.hp.perm hs
 have Qn:ck w S hr:=rp.sub (List.sublist_append_right _ _)
 have Pm:ck w S h0:=rp.sub (List.sublist_append_left _ _)
 obtain ⟨g3,g4⟩:=qx.at Qn co g1 g2
 have Qo:∀ m,Has h0 m→¬ Has hr m:=by
  rintro m ⟨x,hx,J0⟩ ⟨y,hy,hym⟩
  have:=rp.nodup
  rw [List.flatMap_append,List.nodup_append] at this
  exact this.2.2 m (List.mem_flatMap.2 ⟨x,hx,J0⟩) m (List.mem_flatMap.2 ⟨y,hy,hym⟩) rfl
 have rh:ck w (SB S hr) h0:=by
  refine ⟨Pm.nodup,fun e he=>(Pm.holds e he).mono (fun m hm=>⟨.inl hm,rfl⟩) (fun m _=>rfl),fun e he m hm=>?_,fun m hm=>?_,fun g o ho=>⟨.inl (Pm.fe g o ho).1,(Pm.fe g o ho).2⟩⟩
  ·constructor
   ·rintro (h | h)
    ·exact (Pm.sep e he m hm).1 h
    ·exact (Qo m ⟨e,he,hm⟩ h).elim
   ·exact fun h=>.inl ((Pm.sep e he m hm).2 h)
  ·rcases hm with h | h
   ·exact Pm.slt m h
   ·exact Qn.lt h
 refine (c w (SB S hr) _ rh (by simpa using g3) g4).mono ?_
 rintro e w' ⟨v,res,h',S',rfl,hq,h3,h4,h5⟩
 obtain ⟨k1,k2,k3⟩:=kk res h' hq
 have Pn:∀ m,S m→(S' m∧(Has hr m→S m))∧w'.heap[m]? =w.heap[m]?:=fun m hm=>⟨⟨(h5.keep m (.inl hm)).1,fun _=>hm⟩,(h5.keep m (.inl hm)).2⟩
 have x9:ck w' (fun m=>S' m∧(Has hr m→S m)) (h'++hr):=by
  refine ⟨?_,?_,?_,fun m hm=>h4.slt m hm.1,fun g o ho=>⟨⟨(h4.fe g o ho).1,fun _=>(Pm.fe g o ho).1⟩,(h4.fe g o ho).2⟩⟩
  ·rw [List.flatMap_append,List.nodup_append]
   refine ⟨h4.nodup,Qn.nodup,fun x hx y hy B3=>?_⟩
   subst B3
   obtain ⟨e1,P0,EA⟩:=List.mem_flatMap.1 hx
   obtain ⟨e2,Kj,Ka⟩:=List.mem_flatMap.1 hy
   rcases h5.new x ⟨e1,P0,EA⟩ with h | h
   ·exact Qo x h ⟨e2,Kj,Ka⟩
   ·have:=Qn.lt ⟨e2,Kj,Ka⟩;omega
  ·intro e he
   rcases List.mem_append.1 he with he | he
   ·exact (h4.holds e he).Ta (k2.mem e he)
   ·exact (Qn.holds e he).mono Pn (fun m hm=>(h5.keep m (.inr ⟨e,he,hm⟩)).2)
  ·intro e he m hm
   rcases List.mem_append.1 he with he | he
   ·rw [← h4.sep e he m hm]
    refine ⟨fun h=>h.1,fun h=>⟨h,fun hh=>?_⟩⟩
    rcases h5.new m ⟨e,he,hm⟩ with h6 | h6
    ·exact (Qo m h6 hh).elim
    ·have:=Qn.lt hh;omega
   ·rw [← Qn.sep e he m hm]
    exact ⟨fun h=>h.2 ⟨e,he,hm⟩,fun h=>⟨(h5.keep m (.inl h)).1,fun _=>h⟩⟩
 have NQ:∀ m,Has hp m↔Has h0 m∨Has hr m:=by
  intro m
  constructor
  ·rintro ⟨x,hx,hb⟩
   rcases List.mem_append.1 (hs.mem_iff.1 hx) with h | h
   ·exact .inl ⟨x,h,hb⟩
   ·exact .inr ⟨x,h,hb⟩
  ·rintro (⟨x,hx,hb⟩ | ⟨x,hx,hb⟩)
   ·exact ⟨x,hs.mem_iff.2 (List.mem_append_left _ hx),hb⟩
   ·exact ⟨x,hs.mem_iff.2 (List.mem_append_right _ hx),hb⟩
 refine ⟨v,fun m=>S' m∧(Has hr m→S m),⟨n,(d,res) :: tm,h'++hr⟩,rfl,(r.heap Pn x9).put hn (Qm h3 k1),?_,k3⟩
 refine ⟨h5.os,h5.tape,h5.output,h5.size,Pn,fun m hm hh=>?_,fun m hm=>?_,h5.drawn⟩
 ·have n0:¬ Has h0 m:=fun h=>hh ((NQ m).2 (.inl h))
  have nr:¬ Has hr m:=fun h=>hh ((NQ m).2 (.inr h))
  obtain ⟨q1,q2⟩:=h5.other m hm n0
  refine ⟨q1,fun h=>?_⟩
  rcases q2 h.1 with h | h
  ·exact h
  ·exact (nr h).elim
 ·obtain ⟨x,hx,hb⟩:=hm
  rcases List.mem_append.1 hx with hx | hx
  ·rcases h5.new m ⟨x,hx,hb⟩ with h | h
   ·exact .inl ((NQ m).2 (.inl h))
   ·exact .inr h
  ·exact .inl ((NQ m).2 (.inr ⟨x,hx,hb⟩))
theorem Ar {Aj:Type} {f:FuncId} {args:List Operand} {ts:Array TypeId} {l l':List AV} {h0 hr:Heap} {H H':Aj→Heap} {V:Aj→AV} [bu P f] (hl:x5 tm args=some l) (c:aJ P f l' h0 (T1 H V)) (hs:Cd hp h0 hr) (co:qx hr l l') (ha:∀ b,sj (H b) hr=some (H' b)) (hV:∀ b,(V b).Ta=true) (hH:∀ b,GQ (H b)) (hn:Nat.blt d n=true)
 (kk:∀ b,ae P all rest ⟨n,(d,V b) :: tm,H' b⟩ Q):ae P all (⟨some d,.call {callee:=.value (.func f),args:=args.toArray,argTypes:=ts},ty,pos,af,none⟩ :: rest) ⟨n,tm,hp⟩ Q:=
 NP hl c co hs.perm hn (fun r h' ⟨b,e1,e2⟩=>by subst e1;subst e2;rw [nv (ha b)];exact ⟨hV b,hH b,kk b⟩)
end rules
class wG (K:Type) where
 lt:K→K→Bool
instance:wG Int:=⟨fun a b=>decide (a < b)⟩
instance:wG Bool:=⟨fun a b=>!a&&b⟩
instance:wG (List UInt8):=⟨fun a b=>Op.bytesLess a b⟩
section plain
variable {K V:Type}
def As [DecidableEq K] (m:List (K×V)) (k:K):List (K×V):=m.filter (fun e=>decide (e.1≠k))
def BN [wG K] (k:K) (v:V):List (K×V)→List (K×V)
 | []=>[(k,v)]
 | e :: r=>if wG.lt e.1 k=true then e :: BN k v r else (k,v) :: e :: r
def gV [DecidableEq K] [wG K] (m:List (K×V)) (k:K) (v:V):List (K×V):=BN k v (As m k)
def eB [DecidableEq K]:List (K×V)→K→Option V
 | [],_=>none
 | e :: r,k=>if e.1=k then some e.2 else eB r k
def yQ [DecidableEq K] (m:List (K×V)) (k:K) (z:V):Option V:=some ((eB m k).getD z)
theorem vr [wG K] (k:K) (v:V):∀ (m:List (K×V)),(BN k v m).Perm ((k,v) :: m)
 | []=>List.Perm.refl _
 | e :: r=>by
   unfold BN
   split
   ·exact (List.Perm.cons e (vr k v r)).trans (List.Perm.swap _ _ _)
   ·exact List.Perm.refl _
theorem tq {α β:Type} (f:α→β):∀ (l:List β) (M:List α),l.Perm (M.map f)→∃ M':List α,M'.Perm M∧l=M'.map f
 | [],M,h=>by
   have:=h.nil_eq
   rw [eq_comm,List.map_eq_nil_iff] at this
   subst this;exact ⟨[],List.Perm.refl _,rfl⟩
 | x :: t,M,h=>by
   have hx:x∈M.map f:=h.mem_iff.1 (by simp)
   obtain ⟨e,he,rfl⟩:=List.mem_map.1 hx
   obtain ⟨p,q,rfl⟩:=List.append_of_mem he
   have h2:(f e :: t).Perm (f e :: (p++q).map f):=h.trans (by rw [List.map_append,List.map_cons,List.map_append];exact List.perm_middle)
   obtain ⟨M',h3,rfl⟩:=tq f t (p++q) (List.Perm.cons_inv h2)
   exact ⟨e :: M',(List.Perm.cons e h3).trans List.perm_middle.symm,rfl⟩
theorem Au [DecidableEq K] {k:K} {v:V}:∀ {m:List (K×V)},eB m k=some v→(k,v)∈m
 | [],h=>by cases h
 | e :: r,h=>by
   unfold eB at h
   split at h
   ·rename_i hk
    obtain rfl:=Option.some.inj h
    subst hk;simp
   ·exact List.mem_cons_of_mem _ (Au h)
theorem uD [DecidableEq K] {k:K} {v:V}:∀ {m:List (K×V)},(m.map Prod.fst).Nodup→(k,v)∈m→eB m k=some v
 | [],_,h=>by simp at h
 | e :: r,hn,h=>by
   rw [List.map_cons,List.nodup_cons] at hn
   unfold eB
   rcases List.mem_cons.1 h with rfl | h
   ·simp
   ·rw [if_neg (fun hk=>hn.1 (List.mem_map.2 ⟨_,h,hk.symm⟩))]
    exact uD hn.2 h
theorem vu [DecidableEq K] {k:K}:∀ {m:List (K×V)},eB m k=none↔∀ e∈m,e.1≠k
 | []=>by simp [eB]
 | e :: r=>by
   unfold eB
   split
   ·rename_i hk;simp [hk]
   ·rename_i hk
    rw [vu (m:=r)]
    simp [hk]
theorem vw [DecidableEq K] {m m':List (K×V)} (hp:m'.Perm m) (hn:(m'.map Prod.fst).Nodup) (k:K):eB m' k=eB m k:=by
 have MT:(m.map Prod.fst).Nodup:=(hp.map _).nodup_iff.1 hn
 cases h:eB m' k with
 | none=>
   symm
   rw [vu] at h ⊢
   exact fun e he=>h e (hp.mem_iff.2 he)
 | some v=>exact (uD MT (hp.mem_iff.1 (Au h))).symm
theorem Jh [DecidableEq K] {m:List (K×V)} {k:K} (h:eB m k=none):As m k=m:=by
 rw [vu] at h
 unfold As
 exact List.filter_eq_self.2 fun e he=>by simpa using h e he
end plain
noncomputable def Av {E A:Type} (es:List E) (g:List E→Option A):Option A:=
 open Classical in if h:∃ r,∀ p,p.Perm es→g p=some r then some h.choose else none
theorem GR {E A:Type} {es:List E} {g:List E→Option A} {r:A} (h:Av es g=some r):∀ p,p.Perm es→g p=some r:=by
 unfold Av at h
 split at h
 ·rename_i hx
  obtain rfl:=Option.some.inj h
  exact hx.choose_spec
 ·cases h
theorem K7 {E A:Type} {es:List E} {g:List E→Option A} {r:A} (h:∀ p,p.Perm es→g p=some r):Av es g=some r:=by
 unfold Av
 have hx:∃ r,∀ p,p.Perm es→g p=some r:=⟨r,h⟩
 rw [dif_pos hx]
 have:=hx.choose_spec es (List.Perm.refl _)
 rw [h es (List.Perm.refl _)] at this
 exact this.symm
def r5 {E S A:Type} (b:E→S→Option (S⊕A)) (f:S→Option A):List E→S→Option A
 | [],s=>f s
 | e :: p,s=>(b e s).bind (after (r5 b f p))
theorem Tb {E S A:Type} {b:E→S→Option (S⊕A)} {f:S→Option A} {rest we:List E} {e:E} {s:S} {a:A} (h:∀ p,p.Perm rest→r5 b f p s=some a) (hp:rest.Perm (e :: we)):
 ∃ z,b e s=some z∧(∀ y,z=.inl y→∀ p,p.Perm we→r5 b f p y=some a)∧∀ a',z=.inr a'→a'=a:=by
 have h1:=h (e :: we) hp.symm
 unfold r5 at h1
 obtain ⟨z,hz,h2⟩:=MR h1
 refine ⟨z,hz,fun y hy p hq=>?_,fun a' ha=>?_⟩
 ·have h3:=h (e :: p) ((List.Perm.cons e hq).trans hp.symm)
  unfold r5 at h3
  rw [hz,hy] at h3
  exact h3
 ·rw [ha] at h2
  exact Option.some.inj h2
theorem Wy {E S A:Type} {b:E→S→Option (S⊕A)} {f:S→Option A} {rest:List E} {s:S} {a:A} (h:∀ p,p.Perm rest→r5 b f p s=some a) (hn:rest=[]):f s=some a:=by
 subst hn;exact h [] (List.Perm.refl _)
theorem aa.NR {P:Program} {R:St→Prop} {k:List It} {σ:St} {body:Code} {E S A:Type} (b:E→S→Option (S⊕A)) (f:S→Option A) (mk:List E→S→St→Prop) {a:A} {H5:List E} {s0:S} (h:Av H5 (fun p=>r5 b f p s0)=some a) (h0:ai σ (mk H5 s0))
 (hs:∀ rest s σ (J:St→Prop),mk rest s σ→(∀ p,p.Perm rest→r5 b f p s=some a)→(∀ we s' aG,we.length < rest.length→(∀ p,p.Perm we→r5 b f p s'=some a)→ai aG (mk we s')→J aG)→aa P R (.code body :: .stop J :: k) σ):
 aa P R (.code (.loop body) :: k) σ:=by
 refine aa.Pa (fun m σ=>∃ rest s,rest.length=m∧(∀ p,p.Perm rest→r5 b f p s=some a)∧mk rest s σ) H5.length (h0.mono fun aG Wl=>⟨H5,s0,rfl,GR h,Wl⟩) ?_
 rintro m BB ⟨rest,s,hm,hH,eZ⟩
 refine hs rest s BB _ eZ hH (fun we s' aG hl Tc hi=>⟨we.length,by omega,hi.mono fun GH hk=>⟨we,s',rfl,Tc,hk⟩⟩)
def uE {K:Type} [DecidableEq K] (k:K):List K→List MapEntry→Nat→Option (Nat×Value)
 | k' :: ks,e :: es,i=>if k'=k then some (i,e.val) else uE k ks es (i+1)
 | _,_,_=>none
class lH (P:Program) (t:TypeId) {K:Type} [DecidableEq K] (g:K→AV):Prop where
 inj:∀ a b,g a=g b→a=b
 check:∀ {w:World} {S:Nat→Prop} {k:K} {v:Value},At w S (g k) v→∀ (b:Bool) (w1:World),(Instr.checkKey b 10000 t v).run P w1=.ok () w1
 find:∀ {w:World} {S:Nat→Prop} {k:K} {v:Value},At w S (g k) v→∀ (es:List MapEntry) (ks:List K),ks.length=es.length→(∀ (i:Nat) k' e,ks[i]? =some k'→es[i]? =some e→At w S (g k') e.key)→∀ w1:World,(Instr.findKey t v es).run P w1=.ok (uE k ks es 0) w1
 bits:∀ {w:World} {S:Nat→Prop} {k:K} {v u:Value},At w S (g k) v→At w S (g k) u→Instr.sameBits 10000 v u=true
theorem vx {K:Type} [DecidableEq K] {d:TypeDesc} {v:Value} {k:K} {q:K→Value→Prop} (hq:∀ k' u,q k' u→Instr.sameNow d v u=some (decide (k'=k))):∀ (es:List MapEntry) (ks:List K) (i:Nat),ks.length=es.length→(∀ (i:Nat) k' e,ks[i]? =some k'→es[i]? =some e→q k' e.key)→Instr.findNow d v es i=some (uE k ks es i)
 | [],[],i,_,_=>rfl
 | [],k' :: ks,i,hl,_=>by simp at hl
 | e :: es,[],i,hl,_=>by simp at hl
 | e :: es,k' :: ks,i,hl,h=>by
   unfold Instr.findNow uE
   rw [hq k' e.key (h 0 k' e rfl rfl)]
   by_cases hk:k'=k
   ·simp [hk]
   ·simp only [hk,decide_false,if_false]
    exact vx hq es ks (i+1) (by simpa using hl) (fun i k' e h1 h2=>h (i+1) k' e (by simpa using h1) (by simpa using h2))
theorem GS (a b:ByteArray):((a==b)=true)↔a=b:=by
 cases a with
 | mk a=>
   cases b with
   | mk b=>
     show (a==b)=true↔_
     rw [beq_iff_eq]
     exact ⟨fun h=>by rw [h],fun h=>by cases h;rfl⟩
theorem lH.int {P:Program} {t:TypeId} {q:IntKind} (h:P.underlying t=some (.int q)):lH P t (K:=Int) (fun n=>AV.int q n) where
 inj a b h:=by simpa using h
 check:=fun {w S k v} hv b w1=>by
  rw [hv.cO]
  have key:∀ n:Nat,(Instr.checkKey b (n+1) t (Value.int q k)).run P w1=.ok () w1:=fun n=>by simp [Instr.checkKey,run_underlying h]
  exact key 9999
 find:=fun {w S k v} hv es ks hl hk w1=>by
  rw [hv.cO]
  have hf:=vx (d:=(.int q)) (v:=(Value.int q k)) (k:=k) (q:=fun k' u=>u=(Value.int q k')) (fun k' u hu=>by subst hu;simp only [Instr.sameNow,if_true];congr 1;rw [Bool.eq_iff_iff];simp;exact eq_comm) es ks 0 hl (fun i k' e h1 h2=>(hk i k' e h1 h2).cO)
  simp [Instr.findKey,run_underlying h,hf]
 bits:=fun {w S k v u} h1 h2=>by rw [h1.cO,h2.cO];simp [Instr.sameBits]
theorem lH.bool {P:Program} {t:TypeId} (h:P.underlying t=some .bool):lH P t (K:=Bool) AV.bool where
 inj a b h:=by simpa using h
 check:=fun {w S k v} hv b w1=>by
  rw [hv.me]
  have key:∀ n:Nat,(Instr.checkKey b (n+1) t (Value.bool k)).run P w1=.ok () w1:=fun n=>by simp [Instr.checkKey,run_underlying h]
  exact key 9999
 find:=fun {w S k v} hv es ks hl hk w1=>by
  rw [hv.me]
  have hf:=vx (d:=.bool) (v:=(Value.bool k)) (k:=k) (q:=fun k' u=>u=(Value.bool k')) (fun k' u hu=>by subst hu;simp only [Instr.sameNow];congr 1;rw [Bool.eq_iff_iff];simp;exact eq_comm) es ks 0 hl (fun i k' e h1 h2=>(hk i k' e h1 h2).me)
  simp [Instr.findKey,run_underlying h,hf]
 bits:=fun {w S k v u} h1 h2=>by rw [h1.me,h2.me];simp [Instr.sameBits]
theorem lH.str {P:Program} {t:TypeId} (h:P.underlying t=some .string):lH P t (K:=List UInt8) AV.str where
 inj a b h:=by simpa using h
 check:=fun {w S k v} hv b w1=>by
  rw [hv.ct]
  have key:∀ n:Nat,(Instr.checkKey b (n+1) t (Value.string ⟨k.toArray⟩)).run P w1=.ok () w1:=fun n=>by simp [Instr.checkKey,run_underlying h]
  exact key 9999
 find:=fun {w S k v} hv es ks hl hk w1=>by
  rw [hv.ct]
  have hf:=vx (d:=.string) (v:=(Value.string ⟨k.toArray⟩)) (k:=k) (q:=fun k' u=>u=(Value.string ⟨k'.toArray⟩)) (fun k' u hu=>by subst hu;simp only [Instr.sameNow];congr 1;rw [Bool.eq_iff_iff,GS];simp;exact eq_comm) es ks 0 hl (fun i k' e h1 h2=>(hk i k' e h1 h2).ct)
  simp [Instr.findKey,run_underlying h,hf]
 bits:=fun {w S k v u} h1 h2=>by rw [h1.ct,h2.ct];simp only [Instr.sameBits];exact (GS _ _).2 rfl
instance {P:Program} {t:TypeId} [h:aE P t (.int .i64)]:lH P t (K:=Int) I:=lH.int h.h
instance {P:Program} {t:TypeId} [h:aE P t .bool]:lH P t (K:=Bool) AV.bool:=lH.bool h.h
instance {P:Program} {t:TypeId} [h:aE P t .string]:lH P t (K:=List UInt8) AV.str:=lH.str h.h
theorem kM {P:Program} {w:World} {r:Nat} {es:Array MapEntry} {c:Nat} (h:w.heap[r]? =some (.map es c)):(getObj r).run P w=.ok (.map es c) w:=by
 simp only [getObj,Sem.run,h]
theorem yR {P:Program} {w:World} {r:Nat} {m:Option Nat} {a b:Nat} {s:Array Nat} (h:w.heap[r]? =some (.mapIter m a s b)):(getObj r).run P w=.ok (.mapIter m a s b) w:=by
 simp only [getObj,Sem.run,h]
def vR (w:World) (r:Nat) (o:Obj):World:={w with heap:=w.heap.setIfInBounds r o}
theorem Aw {P:Program} {w:World} {r:Nat} {es:Array MapEntry} {c:Nat} (o:Obj) (h:w.heap[r]? =some (.map es c)):(setObj r o).run P w=.ok () (vR w r o):=by
 simp only [setObj,Sem.run,h];rfl
theorem E4 {P:Program} {w:World} {r:Nat} {m:Option Nat} {a b:Nat} {s:Array Nat} (o:Obj) (h:w.heap[r]? =some (.mapIter m a s b)):(setObj r o).run P w=.ok () (vR w r o):=by
 simp only [setObj,Sem.run,h];rfl
theorem yf {w:World} {r:Nat} {o o':Obj} (h:w.heap[r]? =some o'):(vR w r o).heap[r]? =some o:=by
 have iT:r < w.heap.size:=(Array.getElem?_eq_some_iff.1 h).1
 simp [vR,Array.getElem?_setIfInBounds,iT]
theorem Ax {w:World} {r k:Nat} {o:Obj} (h:k≠r):(vR w r o).heap[k]? =w.heap[k]?:=by
 simp [vR,Array.getElem?_setIfInBounds,Ne.symm h]
theorem NS {w:World} {r:Nat} {o:Obj} {x:Option Nat} (hx:x=some r):GB w (vR w r o) x:=
 ⟨⟨rfl,rfl,rfl,by simp [vR],fun k hk mb=>Ax (fun e=>mb (by rw [hx,e]))⟩,fun _=>Nat.le_refl _⟩
theorem H6 (w:World) (x:Option Nat):GB w w x:=⟨⟨rfl,rfl,rfl,Nat.le_refl _,fun _ _ _=>rfl⟩,fun _=>Nat.le_refl _⟩
theorem Ext.heap {w w':World} {n:Nat} {o:Obj} (e:Ext w w') (h:w.heap[n]? =some o):w'.heap[n]? =some o:=by
 rw [e.same n (Array.getElem?_eq_some_iff.1 h).1];exact h
theorem At.uF {w:World} {S:Nat→Prop} {b:Bk} {v:Value} (h:At w S (.jO b) v):∃ n,b.bN=some n∧v=.map (some n):=by cases h with | jO _ n hb=>exact ⟨n,hb,rfl⟩
theorem Qp (w:World) (S:Nat→Prop) (z:Value) (h1:lG (B4 z).cells=true):At w S (B4 z) z:=by
 by_cases hz:∃ cs,z=.agg cs
 ·obtain ⟨cs,rfl⟩:=hz
  obtain ⟨h2,h3⟩:=qs w S (.agg cs) (dp h1)
  exact .agg _ _ h2 h3
 ·have Nd:B4 z=O4 z:=by
   cases z<;>first | rfl | (exact (hz ⟨_,rfl⟩).elim)
  rw [Nd];exact C0 w S z
theorem zJ {K V:Type} {gk:K→AV} {gv:V→AV} {w:World} {S:Nat→Prop} {hp:Heap} {b:Bk} {M:List (K×V)} (Td:∀ a b,gk a=gk b→a=b) (r:ck w S hp) (f:mE hp b (.mp (M.map fun e=>(gk e.1,gv e.2)))):
 ∃ (L:List oN) (c:Nat) (M':List (K×V)) (n:Nat) (fy:Array MapEntry),M'.Perm M∧L.map oN.kv=M'.map (fun e=>(gk e.1,gv e.2))∧tc w S b L c∧b.bN=some n∧w.heap[n]? =some (.map fy c)∧fy.toList.length=M'.length∧
   (∀ (i:Nat) e m,M'[i]? =some e→fy.toList[i]? =some m→At w S (gk e.1) m.key∧At w S (gv e.2) m.val)∧(M'.map Prod.fst).Nodup:=by
 obtain ⟨L,c,nQ,hH⟩:=r.holds _ f.mem
 obtain ⟨M',h1,h2⟩:=tq _ _ _ nQ
 have Tc:=hH
 obtain ⟨n,fy,g1,g2,g3,g4,g5,g6,g7⟩:=hH
 have hlen:L.length=M'.length:=by have:=congrArg List.length h2;simpa using this
 refine ⟨L,c,M',n,fy,h1,h2,Tc,g1,g2,by rw [Array.length_toList,g3,hlen],fun i e m he hm=>?_,?_⟩
 ·have:(L.map oN.kv)[i]? =some (gk e.1,gv e.2):=by rw [h2,List.getElem?_map,he];rfl
  rw [List.getElem?_map] at this
  cases hL:L[i]? with
  | none=>rw [hL] at this;cases this
  | some x=>
    rw [hL] at this
    have hx:(x.k,x.v)=(gk e.1,gv e.2):=Option.some.inj this
    obtain ⟨q1,q2⟩:=Prod.mk.inj hx
    have:=g4 i x m hL (by simpa using hm)
    rw [q1,q2] at this
    exact this.2
 ·have hk:L.map (·.k)=(M'.map Prod.fst).map gk:=by
   have:=congrArg (List.map Prod.fst) h2
   simpa [List.map_map,Function.comp_def,oN.kv] using this
  rw [hk] at g7
  exact (List.pairwise_map.1 g7).imp (fun h e=>h (by rw [e]))
theorem sH {α:Type} {l:List α} {j:Nat} {x:α} (h:l[j]? =some x):l.set j x=l:=by
 apply List.ext_getElem?
 intro i
 rw [List.getElem?_set]
 by_cases Df:j=i
 ·subst Df
  have:=(List.getElem?_eq_some_iff.1 h).1
  rw [if_pos rfl,if_pos this,h]
 ·simp [Df]
theorem xe {K V:Type} [DecidableEq K] {gv:V→AV} {w:World} {S:Nat→Prop} {k:K}:∀ (M:List (K×V)) (es:List MapEntry) (i:Nat),M.length=es.length→(∀ (j:Nat) e m,M[j]? =some e→es[j]? =some m→At w S (gv e.2) m.val)→
 (eB M k=none∧uE k (M.map Prod.fst) es i=none)∨∃ v j val,eB M k=some v∧uE k (M.map Prod.fst) es i=some (i+j,val)∧At w S (gv v) val∧M[j]? =some (k,v)
 | [],[],i,_,_=>.inl ⟨rfl,rfl⟩
 | [],m :: es,i,hl,_=>by simp at hl
 | e :: M,[],i,hl,_=>by simp at hl
 | e :: M,m :: es,i,hl,h=>by
   unfold eB
   simp only [List.map_cons,uE]
   by_cases hk:e.1=k
   ·simp only [hk,if_true]
    refine .inr ⟨e.2,0,m.val,rfl,rfl,h 0 e m rfl rfl,?_⟩
    subst hk;rfl
   ·simp only [hk,if_false]
    rcases xe M es (i+1) (by simpa using hl) (fun j e' m' h1 h2=>h (j+1) e' m' (by simpa using h1) (by simpa using h2)) with ⟨h1,h2⟩ | ⟨v,j,val,h1,h2,h3,h4⟩
    ·exact .inl ⟨h1,h2⟩
    ·exact .inr ⟨v,j+1,val,h1,by rw [h2];congr 2;omega,h3,by simpa using h4⟩
section rules
variable {P:Program} {all:Array Oper} {rest:List Oper} {n:Nat} {tm:List (Nat×AV)} {hp:Heap} {Q:St→Prop} {d:Nat} {ty:TypeId} {pos:String} {af:Array Edge}
theorem vy {t:TypeId} (hn:Nat.blt d n=true) (kk:∀ b:Bk,ae P all rest ⟨n,(d,.jO b) :: tm,(b,.mp []) :: hp⟩ Q):ae P all (⟨some d,.makeMap t none,ty,pos,af,none⟩ :: rest) ⟨n,tm,hp⟩ Q:=by
 refine ae.Ki rfl fun w S a r=>?_
 have hh:Holds (w.alloc (.map #[] 0)) S ⟨some w.heap.size,0⟩ (.mp []):=⟨[],0,List.Perm.refl _,w.heap.size,#[],rfl,by show (w.heap.push _)[w.heap.size]? =_;simp,rfl,by simp,by simp,by simp,by simp⟩
 obtain ⟨k1,k2,k3⟩:=qq r.hp (Ext.alloc w (.map #[] 0)) id hh (.inr ⟨_,rfl,Nat.le_refl _⟩)
 exact ⟨.map (some w.heap.size),w.alloc (.map #[] 0),S,_,by simp [execOp,Instr.makeMap],(r.heap k3 k1).put hn (.jO _ _ rfl),k2,kk ⟨some w.heap.size,0⟩⟩
theorem E5 {K V:Type} [DecidableEq K] {gk:K→AV} {gv:V→AV} {M:List (K×V)} {key:K} {Z v:V} {t kt vt:TypeId} {i:TypeInfo} {z:Value} {x y:Operand} {b:Bk} {av:AV} [aE P t (.map kt vt)] [aX P vt i] [lH P kt gk] (hx:cG tm x=some (.jO b)) (hy:cG tm y=some (gk key)) (f:mE hp b (.mp (M.map fun e=>(gk e.1,gv e.2)))) (hz:i.zero=some z) (RY:B4 z=gv Z) (h1:lG (B4 z).cells=true) (h:yQ M key Z=some v) (qP:gv v=av):
 QV P ⟨some d,.lookup t x y false,ty,pos,af,none⟩ ⟨n,tm,hp⟩ av:=by
 intro w S a r
 have kx:=bj (σ:=⟨n,tm,hp⟩) r hx
 have ky:=bj (σ:=⟨n,tm,hp⟩) r hy
 obtain ⟨nb,hb,ex⟩:=kx.uF
 obtain ⟨L,c,M',H7,fy,p1,p2,p3,p4,p5,p6,p7,p8⟩:=zJ (lH.inj P kt) r.hp f
 obtain rfl:H7=nb:=by rw [p4] at hb;exact Option.some.inj hb
 unfold yQ at h
 have hv:=Option.some.inj h
 rw [← vw p1 p8] at hv
 have xf:=lH.find (P:=P) (t:=kt) (g:=gk) ky fy.toList (M'.map Prod.fst) (by simpa using p6.symm) (fun j k' e h1 h2=>by
  rw [List.getElem?_map] at h1
  cases hm:M'[j]? with
  | none=>rw [hm] at h1;cases h1
  | some q=>rw [hm] at h1;rw [← Option.some.inj h1];exact (p7 j q e hm h2).1)
 rcases xe (gv:=gv) (w:=w) (S:=S) (k:=key) M' fy.toList 0 p6.symm (fun j e m h1 h2=>(p7 j e m h1 h2).2) with ⟨q1,q2⟩ | ⟨v',j,val,q1,q2,q3,_⟩
 ·refine ⟨z,fun w1 e1=>?_,?_⟩
  ·simp [execOp,Instr.lookup,ex,run_underlying (aE.h (P:=P) (t:=t)),kM (e1.heap p5),lH.check (P:=P) (t:=kt) ky,xf,q2,zeroValue,typeInfo,aX.h (P:=P) (t:=vt),hz]
  ·rw [← qP,← hv,q1,Option.getD_none,← RY];exact Qp w S z h1
 ·refine ⟨val,fun w1 e1=>?_,?_⟩
  ·simp [execOp,Instr.lookup,ex,run_underlying (aE.h (P:=P) (t:=t)),kM (e1.heap p5),lH.check (P:=P) (t:=kt) ky,xf,q2]
  ·rw [← qP,← hv,q1,Option.getD_some];exact q3
theorem yg {w:World} {S:Nat→Prop} {hp cC:Heap} {b:Bk} {m:Nat} {o o':Ob} {ob old:Obj} (r:ck w S hp) (u:mU hp b o b o' cC) (hb:b.bN=some m) (ho:w.heap[m]? =some old) (hf:¬ o.yG) (V7:¬ o'.yG) (hh:(∀ n,S n→S n∧(vR w m ob).heap[n]? =w.heap[n]?)→Holds (vR w m ob) S b o') (hm:o'.more=[]:=by rfl):
 ck (vR w m ob) S cC∧iE w S hp (vR w m ob) S cC∧∀ n,S n→S n∧(vR w m ob).heap[n]? =w.heap[n]?:=by
 have k1:∀ n,S n→S n∧(vR w m ob).heap[n]? =w.heap[n]?:=fun k hk=>⟨hk,Ax (fun e=>by
  subst e
  exact hf ((r.sep _ u.mB.mem _ (jT hb)).1 hk))⟩
 exact tf r u (NS hb) hf V7 (hh k1) (.inl rfl) hm
theorem uG {K V:Type} [DecidableEq K] [wG K] {gk:K→AV} {gv:V→AV} {M:List (K×V)} {key:K} {v:V} {t kt vt:TypeId} {x y z:Operand} {b:Bk} {av:AV} {cC:Heap} [aE P t (.map kt vt)] [lH P kt gk] (hx:cG tm x=some (.jO b)) (hy:cG tm y=some (gk key)) (hz:cG tm z=some av) (qP:av=gv v) (u:mU hp b (.mp (M.map fun e=>(gk e.1,gv e.2))) b (.mp ((gV M key v).map fun e=>(gk e.1,gv e.2))) cC)
 (kk:ae P all rest ⟨n,tm,cC⟩ Q):ae P all (⟨none,.mapUpdate t x y z,ty,pos,af,none⟩ :: rest) ⟨n,tm,hp⟩ Q:=by
 refine ae.act rfl rfl (fun w S a r=>?_) kk
 have kx:=bj (σ:=⟨n,tm,hp⟩) r hx
 have ky:=bj (σ:=⟨n,tm,hp⟩) r hy
 have kz:=bj (σ:=⟨n,tm,hp⟩) r hz
 obtain ⟨nb,hb,ex⟩:=kx.uF
 obtain ⟨L,c,M',H7,fy,p1,p2,p3,p4,p5,p6,p7,p8⟩:=zJ (lH.inj P kt) r.hp u.mB
 obtain rfl:H7=nb:=by rw [p4] at hb;exact Option.some.inj hb
 have xf:=lH.find (P:=P) (t:=kt) (g:=gk) ky fy.toList (M'.map Prod.fst) (by simpa using p6.symm) (fun j k' e h1 h2=>by
  rw [List.getElem?_map] at h1
  cases hm:M'[j]? with
  | none=>rw [hm] at h1;cases h1
  | some q=>rw [hm] at h1;rw [← Option.some.inj h1];exact (p7 j q e hm h2).1)
 obtain ⟨Wz,uH,g1,g2,g3,g4,g5,g6,g7⟩:=p3
 obtain rfl:Wz=H7:=by rw [p4] at g1;exact (Option.some.inj g1).symm
 obtain rfl:uH=fy:=by rw [p5] at g2;exact (Obj.map.inj (Option.some.inj g2)).1.symm
 have hLM:L.length=M'.length:=by have:=congrArg List.length p2;simpa using this
 have Yq:∀ (j:Nat) (x:oN) (e:K×V),L[j]? =some x→M'[j]? =some e→x.k=gk e.1∧x.v=gv e.2:=by
  intro j x e h1 h2
  have:(L.map oN.kv)[j]? =(M'.map fun e=>(gk e.1,gv e.2))[j]?:=by rw [p2]
  rw [List.getElem?_map,List.getElem?_map,h1,h2] at this
  exact Prod.mk.inj (Option.some.inj this)
 rcases xe (gv:=gv) (w:=w) (S:=S) (k:=key) M' uH.toList 0 p6.symm (fun j e m h1 h2=>(p7 j e m h1 h2).2) with ⟨q1,q2⟩ | ⟨v',j,val,q1,q2,q3,q4⟩
 ·
  have hw:=yg (ob:=.map (uH.push ⟨a.eval y,a.eval z,c⟩) (c+1)) r.hp u p4 p5 id id (fun k1=>by
   refine ⟨L++[⟨gk key,gv v,c⟩],c+1,?_,Wz,uH.push ⟨a.eval y,a.eval z,c⟩,p4,yf p5,by simp [g3],?_,?_,?_,?_⟩
   ·rw [List.map_append,p2]
    refine List.Perm.trans ?_ ((vr key v (As M key)).symm.map _)
    rw [Jh (by rw [← vw p1 p8];exact q1)]
    exact List.perm_append_comm.trans (List.Perm.cons _ (p1.map _))
   ·intro i e m he hm
    rw [Array.getElem?_push] at hm
    rcases Nat.lt_or_ge i L.length with hi | hi
    ·rw [List.getElem?_append_left hi] at he
     rw [if_neg (by omega)] at hm
     obtain ⟨s1,s2,s3⟩:=g4 i e m he hm
     exact ⟨s1,s2.mono k1,s3.mono k1⟩
    ·have Kw:i=L.length:=by
      have:=(List.getElem?_eq_some_iff.1 he).1
      simp at this;omega
     subst Kw
     rw [if_pos g3.symm] at hm
     simp at he
     obtain rfl:=Option.some.inj hm
     subst he
     exact ⟨rfl,ky.mono k1,by rw [qP] at kz;exact kz.mono k1⟩
   ·intro e he
    rcases List.mem_append.1 he with h | h
    ·have:=g5 e h;omega
    ·simp at h;subst h;simp
   ·rw [List.map_append,List.nodup_append]
    refine ⟨g6,by simp,fun a1 ha b1 EA vQ=>?_⟩
    simp at EA
    subst EA
    obtain ⟨e,he,rfl⟩:=List.mem_map.1 ha
    have:=g5 e he
    omega
   ·rw [List.map_append,List.nodup_append]
    refine ⟨g7,by simp,fun a1 ha b1 EA vQ=>?_⟩
    simp at EA
    subst EA
    obtain ⟨e,he,rfl⟩:=List.mem_map.1 ha
    obtain ⟨j,hj⟩:=List.getElem?_of_mem he
    have Eh:j < M'.length:=by rw [← hLM];exact (List.getElem?_eq_some_iff.1 hj).1
    have:=(Yq j e M'[j] hj (List.getElem?_eq_getElem Eh)).1
    rw [this] at vQ
    exact (vu.1 q1) M'[j] (List.getElem_mem Eh) (lH.inj P kt _ _ vQ))
  refine ⟨_,S,?_,r.heap hw.2.2 hw.1,hw.2.1⟩
  simp [execOp,Instr.mapUpdate,ex,run_underlying (aE.h (P:=P) (t:=t)),kM p5,lH.check (P:=P) (t:=kt) ky,xf,q2,Aw _ p5]
 ·
  have Eh:j < uH.toList.length:=by rw [p6];exact (List.getElem?_eq_some_iff.1 q4).1
  have Gq:j < uH.size:=by simpa using Eh
  have Yr:uH.toList[j]? =some uH[j]:=by simp [Gq]
  have MU:=(p7 j _ _ q4 Yr).1
  have Te:Instr.sameBits 10000 uH[j].key (a.eval y)=true:=lH.bits (P:=P) (t:=kt) MU ky
  have RZ:j < L.length:=by omega
  have hw:=yg (ob:=.map (uH.modify j fun e=>{e with key:=a.eval y,val:=a.eval z}) c) r.hp u p4 p5 id id (fun k1=>by
   refine ⟨L.set j ⟨gk key,gv v,L[j].born⟩,c,?_,Wz,_,p4,yf p5,by simp [g3],?_,?_,?_,?_⟩
   ·rw [List.map_set]
    refine List.Perm.trans ?_ ((vr key v (As M key)).symm.map _)
    have e1:(L.map oN.kv).set j (gk key,gv v)=(M'.set j (key,v)).map fun e=>(gk e.1,gv e.2):=by rw [p2,List.map_set]
    show ((L.map oN.kv).set j (gk key,gv v)).Perm _
    rw [e1]
    refine List.Perm.map _ ?_
    have WA:j < M'.length:=by omega
    have e2:M'=M'.take j++(key,v') :: M'.drop (j+1):=by
     have:=List.take_append_drop j M'
     rw [List.drop_eq_getElem_cons WA] at this
     have hq:M'[j]=(key,v'):=by rw [List.getElem?_eq_getElem WA] at q4;exact Option.some.inj q4
     rw [hq] at this
     exact this.symm
    have e3:M'.set j (key,v)=M'.take j++(key,v) :: M'.drop (j+1):=by
     rw [List.set_eq_take_append_cons_drop,if_pos WA]
    rw [e3]
    refine List.perm_middle.trans (List.Perm.cons _ ?_)
    have e4:As M' key=M'.take j++M'.drop (j+1):=by
     have WC:=p8
     rw [e2,List.map_append,List.map_cons,List.nodup_append,List.nodup_cons] at WC
     unfold As
     rw [e2,List.filter_append,List.filter_cons]
     simp only [ne_eq,not_true_eq_false,decide_false,Bool.false_eq_true,if_false]
     rw [← e2]
     congr 1
     ·refine List.filter_eq_self.2 fun e he=>?_
      simp only [decide_not,Bool.not_eq_true',decide_eq_false_iff_not]
      intro hk
      exact WC.2.2 e.1 (List.mem_map.2 ⟨e,he,rfl⟩) key (by simp) hk
     ·refine List.filter_eq_self.2 fun e he=>?_
      simp only [decide_not,Bool.not_eq_true',decide_eq_false_iff_not]
      intro hk
      exact WC.2.1.1 (List.mem_map.2 ⟨e,he,hk⟩)
    rw [← e4]
    exact p1.filter _
   ·intro i e m he hm
    rw [Array.getElem?_modify] at hm
    rw [List.getElem?_set] at he
    by_cases Df:j=i
    ·subst Df
     simp only [if_true,RZ] at he
     simp only [if_true,Array.getElem?_eq_getElem Gq,Option.map_some] at hm
     obtain rfl:=Option.some.inj he
     obtain rfl:=Option.some.inj hm
     refine ⟨(g4 j L[j] uH[j] (List.getElem?_eq_getElem RZ) (Array.getElem?_eq_getElem Gq)).1,ky.mono k1,by rw [qP] at kz;exact kz.mono k1⟩
    ·rw [if_neg Df] at he hm
     obtain ⟨s1,s2,s3⟩:=g4 i e m he hm
     exact ⟨s1,s2.mono k1,s3.mono k1⟩
   ·intro e he
    rcases List.mem_or_eq_of_mem_set he with h | h
    ·exact g5 e h
    ·subst h;exact g5 L[j] (List.getElem_mem RZ)
   ·rw [List.map_set]
    have:(L.map (·.born)).set j L[j].born=L.map (·.born):=by
     exact sH (by rw [List.getElem?_map,List.getElem?_eq_getElem RZ];rfl)
    rw [this];exact g6
   ·rw [List.map_set]
    have:(L.map (·.k)).set j (gk key)=L.map (·.k):=by
     have hk:=(Yq j L[j] _ (List.getElem?_eq_getElem RZ) q4).1
     exact sH (by rw [List.getElem?_map,List.getElem?_eq_getElem RZ,Option.map_some,hk])
    rw [this];exact g7)
  refine ⟨_,S,?_,r.heap hw.2.2 hw.1,hw.2.1⟩
  simp [execOp,Instr.mapUpdate,ex,run_underlying (aE.h (P:=P) (t:=t)),kM p5,lH.check (P:=P) (t:=kt) ky,xf,q2,Instr.keyThatStays,Gq,Te,Aw _ p5]
theorem xg {K V:Type} [DecidableEq K] [wG K] {gk:K→AV} {gv:V→AV} {M:List (K×V)} {key:K} {v:V} {t kt vt:TypeId} {x y z:Operand} {b:Bk} {av:AV} {cC:Heap} [aE P t (.map kt vt)] [lH P kt gk] (hx:cG tm x=some (.jO b)) (hy:cG tm y=some (gk key)) (hz:cG tm z=some av) (qP:av=gv v) (u:mU hp b (.mp (M.map fun e=>(gk e.1,gv e.2))) b (.mp ((gV M key v).map fun e=>(gk e.1,gv e.2))) cC)
 (kk:ae P all rest ⟨n,tm,cC⟩ Q):ae P all (⟨none,.insert t x y z,ty,pos,af,none⟩ :: rest) ⟨n,tm,hp⟩ Q:=by
 intro w S a r
 have:=uG (all:=all) (rest:=rest) (ty:=ty) (pos:=pos) (af:=af) (t:=t) (kt:=kt) (vt:=vt) (gk:=gk) (gv:=gv) hx hy hz qP u kk w S a r
 unfold wpList at this ⊢
 exact this
end rules
def xh (L:List oN) (c:Nat) (seen:List Nat) (rest:List (AV×AV)):Prop:=((L.filter (fun e=>!seen.contains e.born)).map oN.kv).Perm rest
def Tf (L:List oN) (seen:List Nat) (e:AV×AV):Prop:=∃ x∈L,seen.getLast? =some x.born∧x.kv=e
theorem find_born {L:List oN} (hn:(L.map (·.born)).Nodup) {x:oN} (hx:x∈L) {w:World} {S:Nat→Prop} {fy:Array MapEntry} (hl:fy.size=L.length) (h:∀ (i:Nat) e m,L[i]? =some e→fy[i]? =some m→m.born=e.born∧At w S e.k m.key∧At w S e.v m.val):
 ∃ m,fy.find? (·.born==x.born)=some m∧At w S x.k m.key∧At w S x.v m.val:=by
 obtain ⟨j,hj⟩:=List.getElem?_of_mem hx
 have Eh:j < L.length:=(List.getElem?_eq_some_iff.1 hj).1
 have Gq:j < fy.size:=by omega
 have pR:=h j x fy[j] hj (Array.getElem?_eq_getElem Gq)
 cases hf:fy.find? (·.born==x.born) with
 | none=>
   rw [Array.find?_eq_none] at hf
   exact absurd (by simpa using pR.1) (hf fy[j] (Array.getElem_mem Gq))
 | some m=>
   have hb:m.born=x.born:=by have:=Array.find?_some hf;simpa using this
   have hm:=Array.mem_of_find?_eq_some hf
   obtain ⟨i,hi,rfl⟩:=Array.getElem_of_mem hm
   have oY:i < L.length:=by omega
   have Ka:=(h i L[i] fy[i] (List.getElem?_eq_getElem oY) (Array.getElem?_eq_getElem hi)).1
   have Df:i=j:=by
    have e1:(L.map (·.born))[i]? =some x.born:=by rw [List.getElem?_map,List.getElem?_eq_getElem oY,Option.map_some,← Ka,hb]
    have e2:(L.map (·.born))[j]? =some x.born:=by rw [List.getElem?_map,hj];rfl
    exact (List.getElem?_inj (by simpa using oY) hn).1 (e1.trans e2.symm)
   subst Df
   exact ⟨_,rfl,pR.2⟩
theorem E6 {P:Program} {w:World} {r m c:Nat} {seen:Array Nat} {fy x1:Array MapEntry} {ty:TypeId} (g:w.heap[r]? =some (.mapIter (some m) c seen c)) (p:w.heap[m]? =some (.map fy c)) (NT:(!seen.isEmpty&&!fy.isEmpty&&fy.all (fun e=>decide (e.born≥c)))=false)
 (hl:(fy.filter fun e=>!seen.contains e.born)=x1) (ho:x1.filter (fun e=>decide (e.born < c))=x1) (hn:x1.filter (fun e=>decide (e.born≥c))=#[]):
 (Instr.next (.pointer (some ⟨r,0,none⟩)) false ty).run P w=((choose (.mapNext ((if x1.isEmpty then #[none] else #[])++(x1++#[]).map some).size)).run P w).andThen fun i w'=>
  (match ((if x1.isEmpty then #[none] else #[])++(x1++#[]).map some)[i]? with
  | some (some e)=>(do setObj r (.mapIter (some m) c (seen.push e.born) c);pure (.tuple #[.bool true,e.key,e.val]):Sem Value)
  | some none=>pure (.tuple #[.bool false])
  | none=>stuck "Next: no such candidate").run P w':=by
 subst hl
 unfold Instr.next
 simp only [Sem.run_bind,yR g,kM p,Result.andThen_ok,NT,ho,hn,Bool.false_eq_true,if_false,Sem.run_pure]
 rfl
section rules
variable {P:Program} {all:Array Oper} {rest:List Oper} {n:Nat} {tm:List (Nat×AV)} {hp:Heap} {Q:St→Prop} {d:Nat} {ty:TypeId} {pos:String} {af:Array Edge}
theorem NU {E:Type} {enc:E→AV×AV} {M:List E} {t kt vt:TypeId} {x:Operand} {b:Bk} {cC:List oN→Nat→Heap} [aE P t (.map kt vt)] (hx:cG tm x=some (.jO b)) (u:∀ L c,mU hp b (.mp (M.map enc)) b (.MH L c) (cC L c)) (hn:Nat.blt d n=true)
 (kk:∀ bi L c,(L.map oN.kv).Perm (M.map enc)→xh L c [] (M.map enc)→ae P all rest ⟨n,(d,.ptr bi 0) :: tm,(bi,.Kg b c []) :: cC L c⟩ Q):ae P all (⟨some d,.range t x,ty,pos,af,none⟩ :: rest) ⟨n,tm,hp⟩ Q:=by
 refine ae.Ki rfl fun w S a r=>?_
 obtain ⟨nb,hb,ex⟩:=(bj (σ:=⟨n,tm,hp⟩) r hx).uF
 have f:=(u [] 0).mB
 obtain ⟨L,c,nQ,hH⟩:=r.hp.holds _ f.mem
 have Tc:=hH
 obtain ⟨H7,fy,g1,g2,g3,_⟩:=hH
 obtain rfl:H7=nb:=by rw [g1] at hb;exact Option.some.inj hb
 obtain ⟨r1,e1,k1⟩:=tf r.hp (u L c) (H6 w b.bN) id id Tc (.inl rfl)
 have hh:Holds (w.alloc (.mapIter (some H7) c #[] c)) S ⟨some w.heap.size,0⟩ (.Kg b c []):=⟨w.heap.size,H7,rfl,hb,by show (w.heap.push _)[w.heap.size]? =_;simp⟩
 obtain ⟨r2,e2,k2⟩:=qq r1 (Ext.alloc w (.mapIter (some H7) c #[] c)) id hh (.inr ⟨_,rfl,Nat.le_refl _⟩)
 refine ⟨.pointer (some ⟨w.heap.size,0,none⟩),w.alloc (.mapIter (some H7) c #[] c),S,_,?_,(r.heap k2 r2).put hn (.ptr _ _ _ rfl),e1.trans e2,kk ⟨some w.heap.size,0⟩ L c nQ ?_⟩
 ·simp [execOp,Instr.range,ex,run_underlying (aE.h (P:=P) (t:=t)),kM g2]
 ·unfold xh
  have e:L.filter (fun e=>!([]:List Nat).contains e.born)=L:=List.filter_eq_self.2 (fun _ _=>by simp)
  rw [e];exact nQ
theorem NV {L:List oN} {c:Nat} {seen:List Nat} {x:Operand} {bi bm:Bk} {e:AV×AV} {k v:AV} (hx:cG tm x=some (.ptr bi 0)) (fi:mE hp bi (.Kg bm c seen)) (fm:mE hp bm (.MH L c)) (hc:Tf L seen e) (hk:e.1=k) (hv:e.2=v):
 QV P ⟨some d,.entry x,ty,pos,af,none⟩ ⟨n,tm,hp⟩ (.iV [k,v]):=by
 intro w S a r
 obtain ⟨ni,hi,ex⟩:=(bj (σ:=⟨n,tm,hp⟩) r hx).lK
 obtain ⟨Qq,nm,g1,g2,g3⟩:=r.hp.holds _ fi.mem
 obtain rfl:Qq=ni:=by rw [g1] at hi;exact Option.some.inj hi
 obtain ⟨Po,fy,p1,p2,p3,p4,p5,p6,_⟩:=r.hp.holds _ fm.mem
 obtain rfl:Po=nm:=by rw [p1] at g2;exact Option.some.inj g2
 obtain ⟨y,hy,hs,hkv⟩:=hc
 obtain ⟨m,m1,m2,m3⟩:=find_born p6 hy p3 p4
 have WD:seen.toArray.back? =some y.born:=by rw [← hs];simp [List.getLast?_eq_getElem?,Array.back?]
 subst hkv
 refine ⟨.tuple #[m.key,m.val],fun w1 e1=>?_,?_⟩
 ·simp [execOp,Instr.entry,ex,yR (e1.heap g3),kM (e1.heap p2),WD,m1]
 ·rw [← hk,← hv];exact .iV _ _ rfl (Na m2 m3)
theorem Qr {E:Type} {enc:E→AV×AV} {R:List E} {L:List oN} {c:Nat} {seen:List Nat} {x:Operand} {bi bm:Bk} {cC:List Nat→Heap} (hx:cG tm x=some (.ptr bi 0)) (hI:xh L c seen (R.map enc)) (fm:mE hp bm (.MH L c)) (u:∀ s,mU hp bi (.Kg bm c seen) bi (.Kg bm c s) (cC s)) (hn:Nat.blt d n=true)
 (k0:R=[]→ae P all rest ⟨n,(d,.iV [.bool false]) :: tm,hp⟩ Q)
 (k1:∀ e R' s,R.Perm (e :: R')→R'.length < R.length→xh L c s (R'.map enc)→Tf L s (enc e)→ae P all rest ⟨n,(d,.iV [.bool true,(enc e).1,(enc e).2]) :: tm,cC s⟩ Q):ae P all (⟨some d,.next x false,ty,pos,af,none⟩ :: rest) ⟨n,tm,hp⟩ Q:=by
 refine ae.Ki rfl fun w S a r=>?_
 obtain ⟨ni,hi,ex⟩:=(bj (σ:=⟨n,tm,hp⟩) r hx).lK
 obtain ⟨Qq,nm,g1,g2,g3⟩:=r.hp.holds _ (u []).mB.mem
 obtain rfl:Qq=ni:=by rw [g1] at hi;exact Option.some.inj hi
 obtain ⟨Po,fy,p1,p2,p3,p4,p5,p6,_⟩:=r.hp.holds _ fm.mem
 obtain rfl:Po=nm:=by rw [p1] at g2;exact Option.some.inj g2
 have K8:∀ m∈fy,m.born < c:=by
  intro m hm
  obtain ⟨i,hi,rfl⟩:=Array.getElem_of_mem hm
  have oY:i < L.length:=by omega
  have:=(p4 i L[i] fy[i] (List.getElem?_eq_getElem oY) (Array.getElem?_eq_getElem hi)).1
  rw [this];exact p5 _ (List.getElem_mem oY)
 have NT:(!seen.toArray.isEmpty&&!fy.isEmpty&&fy.all (fun e=>decide (e.born≥c)))=false:=by
  by_cases h0:fy.isEmpty=true
  ·simp [h0]
  ·have h1:0 < fy.size:=by
    have:fy.size≠0:=by simpa [Array.isEmpty] using h0
    omega
   have:fy.all (fun e=>decide (e.born≥c))=false:=by
    rw [Bool.eq_false_iff]
    intro gU
    rw [Array.all_eq_true] at gU
    have:=gU 0 h1
    have hb:=K8 fy[0] (Array.getElem_mem h1)
    simp at this;omega
   simp [this]
 have hold:(fy.filter fun e=>!seen.toArray.contains e.born).filter (fun e=>decide (e.born < c))=fy.filter fun e=>!seen.toArray.contains e.born:=by
  rw [Array.filter_eq_self]
  intro m hm
  simpa using K8 m (Array.mem_filter.1 hm).1
 have EL:(fy.filter fun e=>!seen.toArray.contains e.born).filter (fun e=>decide (e.born≥c))=#[]:=by
  rw [Array.filter_eq_empty_iff]
  intro m hm
  have:=K8 m (Array.mem_filter.1 hm).1
  simp;omega
 generalize NW:(fy.filter fun e=>!seen.toArray.contains e.born)=x1 at hold EL
 have qt:∀ m∈x1,∃ y∈L,(seen.contains y.born=false)∧m.born=y.born∧At w S y.k m.key∧At w S y.v m.val:=by
  intro m hm
  rw [← NW] at hm
  obtain ⟨h1,h2⟩:=Array.mem_filter.1 hm
  obtain ⟨i,hi,rfl⟩:=Array.getElem_of_mem h1
  have oY:i < L.length:=by omega
  have hh:=p4 i L[i] fy[i] (List.getElem?_eq_getElem oY) (Array.getElem?_eq_getElem hi)
  refine ⟨L[i],List.getElem_mem oY,?_,hh⟩
  rw [← hh.1];simpa using h2
 have hex:∀ y∈L,seen.contains y.born=false→∃ m,m∈x1:=by
  intro y hy hs
  obtain ⟨j,hj⟩:=List.getElem?_of_mem hy
  have Eh:j < L.length:=(List.getElem?_eq_some_iff.1 hj).1
  have Gq:j < fy.size:=by omega
  refine ⟨fy[j],?_⟩
  rw [← NW,Array.mem_filter]
  refine ⟨Array.getElem_mem Gq,?_⟩
  rw [(p4 j y fy[j] hj (Array.getElem?_eq_getElem Gq)).1]
  simpa using hs
 by_cases hz:x1.size=0
 ·
  have hR:R=[]:=by
   cases R with
   | nil=>rfl
   | cons e R'=>
     unfold xh at hI
     have hm:enc e∈(L.filter (fun e=>!seen.contains e.born)).map oN.kv:=hI.mem_iff.2 (by simp)
     obtain ⟨y,hy,_⟩:=List.mem_map.1 hm
     obtain ⟨hy1,hy2⟩:=List.mem_filter.1 hy
     obtain ⟨m,hm⟩:=hex y hy1 (by simpa using hy2)
     obtain ⟨i,hi,_⟩:=Array.getElem_of_mem hm
     omega
  obtain rfl:x1=#[]:=Array.eq_empty_of_size_eq_zero hz
  refine ⟨.tuple #[.bool false],w,S,_,?_,r.put hn (.iV _ _ rfl ?_),iE.refl _ _ _,k0 hR⟩
  ·have WE:(Instr.next (a.eval x) false ty).run P w=.ok (.tuple #[.bool false]) w:=by
    rw [ex,E6 (P:=P) (ty:=ty) g3 p2 NT NW hold EL]
    simp [run_choose,Question.forced]
   simp [execOp,WE]
  ·intro i c' v h1 h2
   cases i with
   | zero=>simp at h1 h2;subst h1;subst h2;exact .bool _
   | succ i=>simp at h1
 ·obtain ⟨i,w1,hch,oY,hE⟩:∃ i w1,(choose (.mapNext x1.size)).run P w=.ok i w1∧i < x1.size∧(w1=w∨w1=w.drew):=by
   by_cases hf:(Question.mapNext x1.size).forced=true
   ·refine ⟨0,w,?_,by omega,.inl rfl⟩
    rw [run_choose,if_pos hf]
   ·have hc:=run_choose P w (Question.mapNext x1.size)
    rw [if_neg hf] at hc
    exact ⟨_,w.drew,hc,Nat.mod_lt _ (by omega:0 < x1.size),.inr rfl⟩
  have ext:Ext w w1:=by
   rcases hE with rfl | rfl
   ·exact Ext.refl _
   ·exact Ext.HE w (w.drawn+1) (Nat.le_succ _)
  obtain ⟨y,hy,Yt,hb,hk,hv⟩:=qt x1[i] (Array.getElem_mem oY)
  have vj:∀ z∈L,z.born=y.born→z=y:=by
   intro z hz Qs
   obtain ⟨i1,h1⟩:=List.getElem?_of_mem hz
   obtain ⟨i2,h2⟩:=List.getElem?_of_mem hy
   have WG:i1 < L.length:=(List.getElem?_eq_some_iff.1 h1).1
   have:i1=i2:=(List.getElem?_inj (by simpa using WG) p6).1 (by rw [List.getElem?_map,List.getElem?_map,h1,h2,Option.map_some,Option.map_some,Qs])
   subst this
   rw [h1] at h2;exact Option.some.inj h2
  unfold xh at hI
  have hyR:y.kv∈R.map enc:=hI.mem_iff.1 (List.mem_map.2 ⟨y,List.mem_filter.2 ⟨hy,by simpa using Yt⟩,rfl⟩)
  obtain ⟨pre,post,RS⟩:=List.append_of_mem (List.mem_filter.2 ⟨hy,(by simpa using Yt:(!seen.contains y.born)=true)⟩:y∈L.filter (fun e=>!seen.contains e.born))
  have WH:L.filter (fun e=>!(seen++[y.born]).contains e.born)=pre++post:=by
   have e1:L.filter (fun e=>!(seen++[y.born]).contains e.born)=(L.filter (fun e=>!seen.contains e.born)).filter (fun e=>decide (e.born≠y.born)):=by
    rw [List.filter_filter]
    apply List.filter_congr
    intro e he
    simp only [List.contains_eq_mem,List.mem_append,List.mem_singleton,ne_eq,decide_not]
    by_cases q1:e.born∈seen<;>by_cases q2:e.born=y.born<;>simp [q1,q2]
   have Qt:((L.filter (fun e=>!seen.contains e.born)).map (·.born)).Nodup:=p6.sublist ((List.filter_sublist).map _)
   rw [RS,List.map_append,List.map_cons,List.nodup_append,List.nodup_cons] at Qt
   rw [e1,RS,List.filter_append,List.filter_cons]
   simp only [ne_eq,not_true_eq_false,decide_false,Bool.false_eq_true,if_false]
   congr 1
   ·refine List.filter_eq_self.2 fun e he=>?_
    simp only [decide_not,Bool.not_eq_true',decide_eq_false_iff_not]
    intro hk
    exact Qt.2.2 e.born (List.mem_map.2 ⟨e,he,rfl⟩) y.born (by simp) hk
   ·refine List.filter_eq_self.2 fun e he=>?_
    simp only [decide_not,Bool.not_eq_true',decide_eq_false_iff_not]
    intro hk
    exact Qt.2.1.1 (List.mem_map.2 ⟨e,he,hk⟩)
  have hP:(y.kv :: (pre++post).map oN.kv).Perm (R.map enc):=by
   refine List.Perm.trans ?_ hI
   rw [RS]
   simp only [List.map_append,List.map_cons]
   exact List.perm_middle.symm
  obtain ⟨R2,Yu,Tg⟩:=tq enc _ _ hP
  cases R2 with
  | nil=>simp at Tg
  | cons e R'=>
    obtain ⟨P0,Kj⟩:=List.cons.inj (by simpa using Tg)
    have Qu:w1.heap[Qq]? =some (.mapIter (some Po) c seen.toArray c):=ext.heap g3
    have hIt:xh L c (seen++[y.born]) (R'.map enc):=by unfold xh;rw [WH,← Kj];simp
    have r1:=r.ext ext
    have hw:=yg (ob:=.mapIter (some Po) c (seen++[y.born]).toArray c) r1.hp (u (seen++[y.born])) g1 Qu id id (fun k1=>⟨Qq,Po,g1,g2,yf Qu⟩)
    have WI:iE w S hp w1 S hp:=iE.ext (fun n hn=>r.hp.slt n hn) ext
    refine ⟨.tuple #[.bool true,x1[i].key,x1[i].val],vR w1 Qq (.mapIter (some Po) c (seen++[y.born]).toArray c),S,_,?_,(r1.heap hw.2.2 hw.1).put hn (.iV _ _ rfl (IW (.bool _) ?_ ?_)),WI.trans hw.2.1,k1 e R' (seen++[y.born]) Yu.symm (by have:=Yu.length_eq;simp at this;omega) hIt ⟨y,hy,by simp,P0⟩⟩
    ·have hlz:x1.isEmpty=false:=by
      have:x1.size≠0:=hz
      simpa [Array.isEmpty] using this
     have WE:(Instr.next (a.eval x) false ty).run P w=.ok (.tuple #[.bool true,x1[i].key,x1[i].val]) (vR w1 Qq (.mapIter (some Po) c (seen++[y.born]).toArray c)):=by
      rw [ex,E6 (P:=P) (ty:=ty) g3 p2 NT NW hold EL]
      have gG:((if x1.isEmpty=true then #[none] else #[])++(x1++#[]).map some)=x1.map some:=by simp [hlz]
      rw [gG,Array.size_map,hch]
      simp [oY,hb,E4 _ Qu]
     simp [execOp,WE]
    ·rw [← P0]
     exact (hk.mono (fun n hn=>⟨hn,ext.same n (r.hp.slt n hn)⟩)).mono hw.2.2
    ·rw [← P0]
     exact (hv.mono (fun n hn=>⟨hn,ext.same n (r.hp.slt n hn)⟩)).mono hw.2.2
end rules
theorem ai.Qv {n:Nat} {tm:List (Nat×AV)} {hp cC:Heap} {T:St→Prop} {b:Bk} {L:List oN} {c:Nat} {es:List (AV×AV)} (hL:(L.map oN.kv).Perm es) (u:mU hp b (.MH L c) b (.mp es) cC) (k:ai ⟨n,tm,cC⟩ T):ai ⟨n,tm,hp⟩ T:=by
 refine ai.step (BB:=⟨n,tm,cC⟩) (fun w S a r=>?_) k
 have hH:tc w S b L c:=r.hp.holds _ u.mB.mem
 obtain ⟨r1,e1,k1⟩:=tf r.hp u (H6 w b.bN) id id ⟨L,c,hL,hH⟩ (.inl rfl)
 exact ⟨_,S,rfl,r.heap k1 r1,e1⟩
theorem aF {α β:Type} {o:Option α} {f:α→Option β} {r:β} {C:Prop} (h:o.bind f=some r) (k:∀ v,o=some v→f v=some r→C):C:=
 let ⟨v,h1,h2⟩:=MR h;k v h1 h2
def Cl:Heap→Nat→Option ((Bk×Ob)×Heap)
 | [],_=>none
 | e :: h,0=>some (e,h)
 | e :: h,i+1=>match Cl h i with
   | some (x,h')=>some (x,e :: h')
   | none=>none
def Ay:Heap→List Nat→Option Heap
 | _,[]=>some []
 | h,i :: r=>match Cl h i with
   | some (e,h')=>match Ay h' r with
     | some t=>some (e :: t)
     | none=>none
   | none=>none
theorem Cm:∀ {h:Heap} {i:Nat} {e:Bk×Ob} {h':Heap},Cl h i=some (e,h')→x6 h e.1 e.2 h'
 | [],_,_,_,hh=>by simp [Cl] at hh
 | x :: h,0,e,h',hh=>by
   simp only [Cl,Option.some.injEq,Prod.mk.injEq] at hh
   obtain ⟨rfl,rfl⟩:=hh
   exact .here
 | x :: h,i+1,e,h',hh=>by
   simp only [Cl] at hh
   split at hh
   ·rename_i y h1 h2
    simp only [Option.some.injEq,Prod.mk.injEq] at hh
    obtain ⟨rfl,rfl⟩:=hh
    exact .next (Cm h2)
   ·cases hh
theorem xi:∀ {l:List Nat} {h t:Heap},Ay h l=some t→HS h t
 | [],h,t,hh=>by
   simp only [Ay,Option.some.injEq] at hh
   subst hh;exact .nil
 | i :: r,h,t,hh=>by
   simp only [Ay] at hh
   split at hh
   ·rename_i e h' h1
    split at hh
    ·rename_i t' h2
     obtain rfl:=Option.some.inj hh
     exact .cons (Cm h1) (xi h2)
    ·cases hh
   ·cases hh
def K9 (tm:List (Nat×AV)):List Nat→Option (List (Nat×AV))
 | []=>some []
 | s :: r=>match lk tm s with
   | some av=>match K9 tm r with
     | some l=>some ((s,av) :: l)
     | none=>none
   | none=>none
theorem E7 {tm:List (Nat×AV)}:∀ {l:List Nat} {pS:List (Nat×AV)},K9 tm l=some pS→Ca tm pS
 | [],pS,h=>by
   simp only [K9,Option.some.injEq] at h
   subst h;exact True.intro
 | s :: r,pS,h=>by
   simp only [K9] at h
   split at h
   ·rename_i av h1
    split at h
    ·rename_i t' h2
     obtain rfl:=Option.some.inj h
     exact ⟨h1,E7 h2⟩
    ·cases h
   ·cases h
theorem ai.lq {n:Nat} {tm pS:List (Nat×AV)} {hp cC:Heap} {T:St→Prop} (is:List Nat) (h:T ⟨n,pS,cC⟩) (ht:K9 tm (pS.map Prod.fst)=some pS) (hs:Ay hp is=some cC):ai ⟨n,tm,hp⟩ T:=
 ai.SL (E7 ht) (xi hs) (ai.here h)
theorem mE.p0 {b:Bk} {o:Ob} {h:Heap}:mE ((b,o) :: h) b o:=.here
theorem mU.p0 {b b':Bk} {o o':Ob} {h:Heap}:mU ((b,o) :: h) b o b' o' ((b',o') :: h):=.here
theorem x6.p0 {b:Bk} {o:Ob} {h:Heap}:x6 ((b,o) :: h) b o (h):=.here
theorem mE.p1 {e0:Bk×Ob} {b:Bk} {o:Ob} {h:Heap}:mE (e0 :: (b,o) :: h) b o:=.next .p0
theorem mU.p1 {e0:Bk×Ob} {b b':Bk} {o o':Ob} {h:Heap}:mU (e0 :: (b,o) :: h) b o b' o' (e0 :: (b',o') :: h):=.next .p0
theorem x6.p1 {e0:Bk×Ob} {b:Bk} {o:Ob} {h:Heap}:x6 (e0 :: (b,o) :: h) b o (e0 :: h):=.next .p0
theorem mE.p2 {e0:Bk×Ob} {e1:Bk×Ob} {b:Bk} {o:Ob} {h:Heap}:mE (e0 :: e1 :: (b,o) :: h) b o:=.next .p1
theorem mU.p2 {e0:Bk×Ob} {e1:Bk×Ob} {b b':Bk} {o o':Ob} {h:Heap}:mU (e0 :: e1 :: (b,o) :: h) b o b' o' (e0 :: e1 :: (b',o') :: h):=.next .p1
theorem x6.p2 {e0:Bk×Ob} {e1:Bk×Ob} {b:Bk} {o:Ob} {h:Heap}:x6 (e0 :: e1 :: (b,o) :: h) b o (e0 :: e1 :: h):=.next .p1
theorem mE.p3 {e0:Bk×Ob} {e1:Bk×Ob} {e2:Bk×Ob} {b:Bk} {o:Ob} {h:Heap}:mE (e0 :: e1 :: e2 :: (b,o) :: h) b o:=.next .p2
theorem mU.p3 {e0:Bk×Ob} {e1:Bk×Ob} {e2:Bk×Ob} {b b':Bk} {o o':Ob} {h:Heap}:mU (e0 :: e1 :: e2 :: (b,o) :: h) b o b' o' (e0 :: e1 :: e2 :: (b',o') :: h):=.next .p2
theorem x6.p3 {e0:Bk×Ob} {e1:Bk×Ob} {e2:Bk×Ob} {b:Bk} {o:Ob} {h:Heap}:x6 (e0 :: e1 :: e2 :: (b,o) :: h) b o (e0 :: e1 :: e2 :: h):=.next .p2
theorem mE.p4 {e0:Bk×Ob} {e1:Bk×Ob} {e2:Bk×Ob} {e3:Bk×Ob} {b:Bk} {o:Ob} {h:Heap}:mE (e0 :: e1 :: e2 :: e3 :: (b,o) :: h) b o:=.next .p3
theorem mU.p4 {e0:Bk×Ob} {e1:Bk×Ob} {e2:Bk×Ob} {e3:Bk×Ob} {b b':Bk} {o o':Ob} {h:Heap}:mU (e0 :: e1 :: e2 :: e3 :: (b,o) :: h) b o b' o' (e0 :: e1 :: e2 :: e3 :: (b',o') :: h):=.next .p3
theorem x6.p4 {e0:Bk×Ob} {e1:Bk×Ob} {e2:Bk×Ob} {e3:Bk×Ob} {b:Bk} {o:Ob} {h:Heap}:x6 (e0 :: e1 :: e2 :: e3 :: (b,o) :: h) b o (e0 :: e1 :: e2 :: e3 :: h):=.next .p3
theorem mE.p5 {e0:Bk×Ob} {e1:Bk×Ob} {e2:Bk×Ob} {e3:Bk×Ob} {e4:Bk×Ob} {b:Bk} {o:Ob} {h:Heap}:mE (e0 :: e1 :: e2 :: e3 :: e4 :: (b,o) :: h) b o:=.next .p4
theorem mU.p5 {e0:Bk×Ob} {e1:Bk×Ob} {e2:Bk×Ob} {e3:Bk×Ob} {e4:Bk×Ob} {b b':Bk} {o o':Ob} {h:Heap}:mU (e0 :: e1 :: e2 :: e3 :: e4 :: (b,o) :: h) b o b' o' (e0 :: e1 :: e2 :: e3 :: e4 :: (b',o') :: h):=.next .p4
theorem x6.p5 {e0:Bk×Ob} {e1:Bk×Ob} {e2:Bk×Ob} {e3:Bk×Ob} {e4:Bk×Ob} {b:Bk} {o:Ob} {h:Heap}:x6 (e0 :: e1 :: e2 :: e3 :: e4 :: (b,o) :: h) b o (e0 :: e1 :: e2 :: e3 :: e4 :: h):=.next .p4
theorem mE.p6 {e0:Bk×Ob} {e1:Bk×Ob} {e2:Bk×Ob} {e3:Bk×Ob} {e4:Bk×Ob} {e5:Bk×Ob} {b:Bk} {o:Ob} {h:Heap}:mE (e0 :: e1 :: e2 :: e3 :: e4 :: e5 :: (b,o) :: h) b o:=.next .p5
theorem x6.p6 {e0:Bk×Ob} {e1:Bk×Ob} {e2:Bk×Ob} {e3:Bk×Ob} {e4:Bk×Ob} {e5:Bk×Ob} {b:Bk} {o:Ob} {h:Heap}:x6 (e0 :: e1 :: e2 :: e3 :: e4 :: e5 :: (b,o) :: h) b o (e0 :: e1 :: e2 :: e3 :: e4 :: e5 :: h):=.next .p5
theorem mE.p7 {e0:Bk×Ob} {e1:Bk×Ob} {e2:Bk×Ob} {e3:Bk×Ob} {e4:Bk×Ob} {e5:Bk×Ob} {e6:Bk×Ob} {b:Bk} {o:Ob} {h:Heap}:mE (e0 :: e1 :: e2 :: e3 :: e4 :: e5 :: e6 :: (b,o) :: h) b o:=.next .p6
section rules
variable {P:Program} {all:Array Oper} {rest:List Oper} {n:Nat} {tm:List (Nat×AV)} {hp:Heap} {Q:St→Prop} {d:Nat} {ty:TypeId} {pos:String} {af:Array Edge}
theorem rM {x:Operand} {av:AV} (hx:cG tm x=some av) (hn:Nat.blt d n=true) (k:ae P all rest ⟨n,(d,av) :: tm,hp⟩ Q):ae P all (⟨some d,.move x,ty,pos,af,none⟩ :: rest) ⟨n,tm,hp⟩ Q:=ae.qv (aA hx) hn k
theorem rA {x:Operand} {av:AV} (hx:cG tm x=some av) (hn:Nat.blt d n=true) (k:ae P all rest ⟨n,(d,av) :: tm,hp⟩ Q):ae P all (⟨some d,.assign x,ty,pos,af,none⟩ :: rest) ⟨n,tm,hp⟩ Q:=ae.qv (cU hx) hn k
theorem rF {x:Operand} {s:TypeId} {j off:Nat} {b:Bk} {o o':Nat} [nO P s j off] (hx:cG tm x=some (.ptr b o)) (ho:o+off=o') (hn:Nat.blt d n=true) (k:ae P all rest ⟨n,(d,.ptr b o') :: tm,hp⟩ Q):ae P all (⟨some d,.fieldAddr s x j,ty,pos,af,none⟩ :: rest) ⟨n,tm,hp⟩ Q:=ae.qv (aC hx ho) hn k
theorem rL {t:TypeId} {D:TypeDesc} {x:Operand} {b:Bk} {o:Nat} {cs:List AV} {av:AV} [aE P t D] (hD:TypeDesc.kH D=false) (hx:cG tm x=some (.ptr b o)) (f:mE hp b (.cells cs)) (ho:cs[o]? =some av) (hn:Nat.blt d n=true) (k:ae P all rest ⟨n,(d,av) :: tm,hp⟩ Q):ae P all (⟨some d,.load t x,ty,pos,af,none⟩ :: rest) ⟨n,tm,hp⟩ Q:=ae.qv (aL hD hx f ho) hn k
theorem rT {c x y:Operand} {av:AV} (hc:cG tm c=some (.bool true)) (hx:cG tm x=some av) (hn:Nat.blt d n=true) (k:ae P all rest ⟨n,(d,av) :: tm,hp⟩ Q):ae P all (⟨some d,.pick c x y,ty,pos,af,none⟩ :: rest) ⟨n,tm,hp⟩ Q:=ae.qv (ps hc hx) hn k
theorem rE {c x y:Operand} {av:AV} (hc:cG tm c=some (.bool false)) (hx:cG tm y=some av) (hn:Nat.blt d n=true) (k:ae P all rest ⟨n,(d,av) :: tm,hp⟩ Q):ae P all (⟨some d,.pick c x y,ty,pos,af,none⟩ :: rest) ⟨n,tm,hp⟩ Q:=ae.qv (pt hc hx) hn k
theorem rX {x:Operand} {i:Nat} {vs:List AV} {av:AV} (hx:cG tm x=some (.iV vs)) (hi:vs[i]? =some av) (hn:Nat.blt d n=true) (k:ae P all rest ⟨n,(d,av) :: tm,hp⟩ Q):ae P all (⟨some d,.extract x i,ty,pos,af,none⟩ :: rest) ⟨n,tm,hp⟩ Q:=ae.qv (IY hx hi) hn k
theorem rN (h:Q ⟨n,tm,hp⟩):ae P all [] ⟨n,tm,hp⟩ Q:=ae.nil h
theorem rG {op:Op} {j:Nat} {want b:Bool} {s:Nat} (hj:(all[j]?).bind (·.dst)=some s) (hs:lk tm s=some (.bool b)) (hb:b=!want) (hn:Nat.blt d n=true) (k:ae P all rest ⟨n,(d,.raw undef) :: tm,hp⟩ Q):ae P all (⟨some d,op,ty,pos,af,some (j,want)⟩ :: rest) ⟨n,tm,hp⟩ Q:=ae.bn hj hs hb hn k
theorem rY {op:Op} {j:Nat} {want b:Bool} {s:Nat} (hj:(all[j]?).bind (·.dst)=some s) (hs:lk tm s=some (.bool b)) (hb:b=want) (k:ae P all (⟨some d,op,ty,pos,af,none⟩ :: rest) ⟨n,tm,hp⟩ Q):ae P all (⟨some d,op,ty,pos,af,some (j,want)⟩ :: rest) ⟨n,tm,hp⟩ Q:=ae.bc hj hs hb k
end rules
section rules
variable {P:Program} {R:St→Prop} {k:List It} {σ:St}
theorem tS {x y:Code} (h:aa P R (.code x :: .code y :: k) σ):aa P R (.code (.seq x y) :: k) σ:=aa.seq h
theorem tR {id:Nat} {l:List Oper} (h:ae P l.toArray l σ (aa P R k)):aa P R (.code (.region id l.toArray false) :: k) σ:=aa.region h
theorem aM {id:Nat} {l:List Oper} {y:Code} (h:ae P l.toArray l σ (aa P R (.code y :: k))):aa P R (.code (.seq (.region id l.toArray false) y) :: k) σ:=aa.seq (aa.region h)
theorem tK (h:aa P R k σ):aa P R (.code .skip :: k) σ:=aa.skip h
end rules
end Go.Eng
