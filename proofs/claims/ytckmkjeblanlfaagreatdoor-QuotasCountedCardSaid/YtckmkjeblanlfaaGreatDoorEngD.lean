/- The engine: abstract values, the symbolic heap, one rule for each operation. No program in sight. -/
import Derived.Test.YtckmkjeblanlfaaGreatDoorEngC
import Derived.Laws.BytesArg
import Derived.Shelf.SlSortCmp.NoneTotal
set_option linter.unusedVariables false
set_option linter.unusedSectionVars false
namespace Go.Eng
open Go
variable [bx]
def depth:Nat:=100000
section rules
variable {P:Program} {all:Array Oper} {rest:List Oper} {n:Nat} {tm:List (Nat×AV)} {hp:Heap} {Q:St→Prop} {d:Nat} {ty:TypeId} {pos:String} {af:Array Edge}
end rules
theorem LB {w:World} {S:Nat→Prop} {hp dR:Heap} {b:Bk} {sz k:Nat} {xs:List AV} (r:dv w S hp) (u:oW hp b (.arr sz xs) b (.arr sz (xs.take k)) dR):dv w S dR∧kP w S hp w S dR:=by
 obtain ⟨pre,post,e1,e2⟩:=u.split
 subst e1;subst e2
 have hblk:∀ n,Has (pre++(b,Ob.arr sz (xs.take k)) :: post) n↔Has (pre++(b,Ob.arr sz xs) :: post) n:=by
  intro n
  constructor<;>rintro ⟨x,hx,hb⟩<;>rcases bB.1 hx with rfl | hx
  ·exact ⟨(b,.arr sz xs),bB.2 (.inl rfl),hb⟩
  ·exact ⟨x,bB.2 (.inr hx),hb⟩
  ·exact ⟨(b,.arr sz (xs.take k)),bB.2 (.inl rfl),hb⟩
  ·exact ⟨x,bB.2 (.inr hx),hb⟩
 refine ⟨⟨?_,?_,?_,r.slt,r.kN⟩,⟨rfl,rfl,rfl,Nat.le_refl _,fun n hn=>⟨hn,rfl⟩,fun n _ _=>⟨rfl,id⟩,fun n hn=>.inl ((hblk n).1 hn),fun _=>Nat.le_refl _⟩⟩
 ·have:=r.nodup
  simpa [List.flatMap_append,List.flatMap_cons,eb,Ob.more] using this
 ·intro x hx
  rcases bB.1 hx with rfl | hx
  ·obtain ⟨h0,h1,h2⟩:=r.holds (b,.arr sz xs) (bB.2 (.inl rfl))
   refine ⟨fun x hx=>h0 x (List.mem_of_mem_take hx),Nat.le_trans (by simp only [List.length_take];omega) h1,h2.imp id ?_⟩
   rintro ⟨n,vs,E,g1,g2,g3,g4⟩
   refine ⟨n,vs,E,g1,g2,g3,fun i c v hc hv=>?_⟩
   have hp:∃ t,flat xs=flat (xs.take k)++t:=⟨flat (xs.drop k),by
    show xs.flatMap AV.cells=(xs.take k).flatMap AV.cells++(xs.drop k).flatMap AV.cells
    rw [← List.flatMap_append,List.take_append_drop]⟩
   obtain ⟨t,ht⟩:=hp
   refine g4 i c v ?_ hv
   rw [ht,List.getElem?_append_left (List.getElem?_eq_some_iff.1 hc).1]
   exact hc
  ·exact r.holds x (bB.2 (.inr hx))
 ·intro x hx n hn
  rcases bB.1 hx with rfl | hx
  ·have:=r.sep (b,.arr sz xs) (bB.2 (.inl rfl)) n hn
   exact ⟨fun h=>(this.1 h).elim,fun h=>h.elim⟩
  ·exact r.sep x (bB.2 (.inr hx)) n hn
theorem ai.take {n k:Nat} {tm:List (Nat×AV)} {hp dR:Heap} {T:St→Prop} {b:Bk} {sz:Nat} {xs:List AV} (u:oW hp b (.arr sz xs) b (.arr sz (xs.take k)) dR) (kk:ai ⟨n,tm,dR⟩ T):ai ⟨n,tm,hp⟩ T:=by
 refine ai.step (yI:=⟨n,tm,dR⟩) (fun w S a r=>?_) kk
 obtain ⟨g1,g2⟩:=LB r.hp u
 exact ⟨_,S,rfl,⟨r.size,r.defers,r.tm,g1⟩,g2⟩
section rules
variable {P:Program} {all:Array Oper} {rest:List Oper} {n:Nat} {tm:List (Nat×AV)} {hp:Heap} {Q:St→Prop} {d:Nat} {ty:TypeId} {pos:String} {af:Array Edge}
theorem uk {α:Type} {Xs V:List α} {L H:Int} (h:yD Xs L H=some V):V.length=H.toNat - L.toNat∧L.toNat+V.length≤Xs.length∧V=(Xs.drop L.toNat).take V.length:=by
 obtain ⟨⟨h0,h1,h2⟩,rfl⟩:=sb h
 have:((Xs.drop L.toNat).take (H.toNat - L.toNat)).length=H.toNat - L.toNat:=by simp;omega
 refine ⟨this,by rw [this];omega,by rw [this]⟩
theorem tz {α:Type} {Xs Zs:List α} {t e:TypeId} {i:TypeInfo} {x:Operand} {lo hi:Option Operand} {l h:Option Int} {sz:Nat} {b:Bk} {L H:Int} [aA P t (.slice e)] [aN P e i] (hx:dk tm x=some (.sl sz b 0 Xs.length)) (kM:Nat.beq i.size sz=true) (hl:IB tm lo l) (hh:IB tm hi h)
 (eL:oq l=L) (eH:mW Xs.length h=H) (hv:yD Xs L H=some Zs):QV P ⟨some d,.slice t x lo hi none,ty,pos,af,none⟩ ⟨n,tm,hp⟩ (.sl sz b L.toNat Zs.length):=by
 obtain ⟨⟨h0,h1,h2⟩,_⟩:=sb hv
 have hlen:=(uk hv).1
 subst eL;subst eH
 have:=Ho (P:=P) (d:=d) (ty:=ty) (pos:=pos) (af:=af) (n:=n) (tm:=tm) (hp:=hp) (t:=t) (e:=e) hx kM hl hh h0 h1 h2
 rw [Nat.zero_add] at this
 rw [hlen];exact this
theorem ai.LC {α:Type} {g:α→AV} {Xs V:List α} {H:Int} {T:St→Prop} {b:Bk} {sz:Nat} {dR:Heap} (hv:yD Xs 0 H=some V) (u:oW hp b (.arr sz (Xs.map g)) b (.arr sz (V.map g)) dR) (kk:ai ⟨n,tm,dR⟩ T):ai ⟨n,tm,hp⟩ T:=by
 refine ai.take (k:=V.length) (xs:=Xs.map g) (b:=b) (sz:=sz) ?_ kk
 rw [← List.map_take]
 have:=(uk hv).2.2
 simp only [Int.toNat_zero,List.drop_zero] at this
 rw [← this];exact u
end rules
inductive zr (hp:Heap):AV→AV→Prop
 | co {a a':AV} (c:Co hp a a'):zr hp a a'
 | agg (cs ly:List AV) (hl:ly.length=cs.length) (h:∀ (i:Nat) c c',cs[i]? =some c→ly[i]? =some c'→zr hp c c'):zr hp (.agg cs) (.agg ly)
 | om (cs ly:List AV) (hl:ly.length=cs.length) (h:∀ (i:Nat) c c',cs[i]? =some c→ly[i]? =some c'→zr hp c c'):zr hp (.om cs) (.om ly)
 | list (sz:Nat) (xs ys:List AV) (hn:ys.length=xs.length) (hl:(flat ys).length=(flat xs).length) (he:∀ y∈ys,El sz y) (h:∀ (i:Nat) c c',(flat xs)[i]? =some c→(flat ys)[i]? =some c'→zr hp c c'):zr hp (.list sz xs) (.list sz ys)
inductive F8 (hp:Heap):List AV→List AV→Prop
 | nil:F8 hp [] []
 | cons {a a':AV} {l l':List AV} (c:zr hp a a') (k:F8 hp l l'):F8 hp (a :: l) (a' :: l')
theorem zr.r {hp:Heap} {a:AV}:zr hp a a:=.co (.refl _)
theorem zr.n {hp:Heap} {sz:Nat}:zr hp .nil (.list sz []):=.co (.nil _)
theorem F8.each {hp:Heap}:∀ {l l':List AV},F8 hp l l'→l'.length=l.length∧∀ (i:Nat) c c',l[i]? =some c→l'[i]? =some c'→zr hp c c'
 | [],_,.nil=>⟨rfl,fun i c c' h=>by simp at h⟩
 | _ :: _,_,.cons c k=>by
   obtain ⟨g1,g2⟩:=F8.each k
   refine ⟨by simp [g1],fun i c1 c2 h1 h2=>?_⟩
   match i with
   | 0=>simp at h1 h2;subst h1;subst h2;assumption
   | i+1=>exact g2 i c1 c2 (by simpa using h1) (by simpa using h2)
theorem zr.Nx {hp:Heap} {cs ly:List AV} (k:F8 hp cs ly):zr hp (.agg cs) (.agg ly):=.agg cs ly k.each.1 k.each.2
theorem zr.IJ {hp:Heap} {sz:Nat} {xs ys:List AV} (k:F8 hp (flat xs) (flat ys)) (hn:Nat.beq ys.length xs.length=true) (he:wB sz ys=true):zr hp (.list sz xs) (.list sz ys):=
 .list sz xs ys (Nat.eq_of_beq_eq_true hn) k.each.1 (kC he) k.each.2
theorem zr.at {w:World} {S:Nat→Prop} {hp:Heap} {a a':AV} {v:Value} (c:zr hp a a') (r:dv w S hp) (h:At w S a v):At w S a' v:=by
 induction c generalizing v with
 | co c=>exact c.at r h
 | agg cs ly hl _ ih=>
   cases h with
   | agg _ vs h1 h2=>
     refine .agg ly vs (by rw [hl,h1]) (fun i c v hc hv=>?_)
     have hi:i < cs.length:=by rw [← hl];exact (List.getElem?_eq_some_iff.1 hc).1
     exact ih i cs[i] c (by simp [hi]) hc (h2 i _ _ (by simp [hi]) hv)
 | om cs ly hl _ ih=>
   cases h with
   | om _ vs h1 h2=>
     refine .om ly vs (by rw [hl,h1]) (fun i c v hc hv=>?_)
     have hi:i < cs.length:=by rw [← hl];exact (List.getElem?_eq_some_iff.1 hc).1
     exact ih i cs[i] c (by simp [hi]) hc (h2 i _ _ (by simp [hi]) hv)
 | list sz xs ys hn hl he _ ih=>
   cases h with
   | list _ _ a cap vs g1 g2 g3 g4 g5=>
     rw [← hn]
     refine .list sz ys a cap vs he (by rw [hl,g2]) (fun i c v hc hv=>?_) g4 (by rw [hn];exact g5)
     have hi:i < (flat xs).length:=by rw [← hl];exact (List.getElem?_eq_some_iff.1 hc).1
     exact ih i (flat xs)[i] c (by simp [hi]) hc (g3 i _ _ (by simp [hi]) hv)
theorem ai.Rp {n s:Nat} {tm:List (Nat×AV)} {hp:Heap} {T:St→Prop} {av r7:AV} (hs:lk tm s=some av) (c:zr hp av r7) (k:ai ⟨n,(s,r7) :: tm,hp⟩ T):ai ⟨n,tm,hp⟩ T:=by
 refine ai.step (yI:=⟨n,(s,r7) :: tm,hp⟩) (fun w S a r=>⟨_,S,rfl,⟨r.size,r.defers,fun t av h=>?_,r.hp⟩,kP.refl _ _ _⟩) k
 simp only [lk] at h
 split at h
 ·rename_i hb
  obtain rfl:s=t:=by simpa using hb
  obtain rfl:=Option.some.inj h
  obtain ⟨v,h1,h2⟩:=r.tm s _ hs
  exact ⟨v,h1,c.at r.hp h2⟩
 ·exact r.tm t av h
def S5 {α:Type} (z:α) (l c:Int):Option (List α):=if 0≤l∧l≤c∧c≤1000000000 then some (List.replicate l.toNat z) else none
theorem B0 {sz:Nat} {x:AV} (h:x.cells.length=sz):∀ (k i:Nat),i < k * sz→(flat (List.replicate k x))[i]? =x.cells[i % sz]?
 | 0,i,hi=>by simp at hi
 | k+1,i,hi=>by
   rw [List.replicate_succ,show flat (x :: List.replicate k x)=x.cells++flat (List.replicate k x) from rfl]
   by_cases pB:i < sz
   ·rw [List.getElem?_append_left (by omega),Nat.mod_eq_of_lt pB]
   ·rw [List.getElem?_append_right (by omega),h,B0 h k (i - sz) (by rw [Nat.add_mul] at hi;omega)]
    rw [Nat.mod_eq_sub_mod (a:=i) (by omega)]
section rules
variable {P:Program} {all:Array Oper} {rest:List Oper} {n:Nat} {tm:List (Nat×AV)} {hp:Heap} {Q:St→Prop} {d:Nat} {ty:TypeId} {pos:String} {af:Array Edge}
end rules
end Go.Eng
set_option linter.unusedSimpArgs false
namespace Go.Eng
open Go Go.Sort Go.Proofs
variable [bx]
end Go.Eng
namespace Go.Eng
open Go
variable [bx]
def IK {α:Type} (xs:List α) (L:Int) (n:Nat) (z:α):List α:=xs.take L.toNat++List.replicate n z++xs.drop (L.toNat+n)
theorem EX {α:Type} {xs v:List α} {L H:Int} {z:α} (h:yD xs L H=some v):(IK xs L v.length z).length=xs.length:=by
 obtain ⟨⟨h0,h1,h2⟩,_⟩:=sb h
 have:=(uk h).1
 unfold IK
 simp only [List.length_append,List.length_take,List.length_replicate,List.length_drop]
 omega
section rules
variable {P:Program} {all:Array Oper} {rest:List Oper} {n:Nat} {tm:List (Nat×AV)} {hp:Heap} {Q:St→Prop} {d:Nat} {ty:TypeId} {pos:String} {af:Array Edge}
theorem D6 {x:Operand} {t e:TypeId} [aA P t (.slice e)] (hx:dk tm x=some .nil):QV P ⟨some d,.call {callee:=.builtin .cap,args:=#[x],argTypes:=#[t]},ty,pos,af,none⟩ ⟨n,tm,hp⟩ (.int .i64 0):=
 (fun w S a r=>⟨.int .i64 0,fun w1 _=>by
  simp [execOp,(aV (σ:=⟨n,tm,hp⟩) r hx).pE,resolve,invoke,builtin,Builtin.cap_,run_underlying (aA.h (P:=P) (t:=t)),goInt],.int _ _⟩)
theorem F9 {α:Type} {V:List α} {t e:TypeId} {i:TypeInfo} {x:Operand} {lo hi:Option Operand} {l h:Option Int} {L H:Int} [aA P t (.slice e)] [aN P e i] (hx:dk tm x=some .nil) (hl:IB tm lo l) (hh:IB tm hi h) (eL:oq l=L) (eH:mW 0 h=H) (hv:yD ([]:List α) L H=some V):
 QV P ⟨some d,.slice t x lo hi none,ty,pos,af,none⟩ ⟨n,tm,hp⟩ .nil:=by
 obtain ⟨⟨h0,h1,h2⟩,_⟩:=sb hv
 simp only [List.length_nil] at h2
 subst eL;subst eH
 intro w S a r
 have e1:=(aV (σ:=⟨n,tm,hp⟩) r hx).pE
 refine ⟨.slice none 0 0,fun w1 _=>?_,.nil⟩
 have hb:=yc (P:=P) (σ:=⟨n,tm,hp⟩) r hl hh true 0 0 h0 h1 (by simpa using h2) (Nat.le_refl _) w1
 have SF:(oq l).toNat=0:=by omega
 have Pd:(mW 0 h).toNat=0:=by omega
 rw [SF,Pd] at hb
 simp [execOp,Instr.sliceAt,run_underlying (aA.h (P:=P) (t:=t)),Instr.slice,e1,hb,sizeOf,typeInfo,aN.h (P:=P) (t:=e)]
theorem Di {z:Array Value} {N sz:Nat} (DW:z.size=sz) (we:0 < sz) {j:Nat} {v:Value} (hv:(Builtin.zeroCells z N)[j]? =some v):z[j % sz]? =some v:=by
 unfold Builtin.zeroCells at hv
 simp only [Array.getElem?_map,Option.map_eq_some_iff] at hv
 obtain ⟨q,hq,rfl⟩:=hv
 have:q=j:=by
  rw [Array.getElem?_eq_some_iff] at hq
  obtain ⟨k1,k2⟩:=hq
  simpa using k2.symm
 subst this
 rw [DW]
 have pB:q % sz < z.size:=by rw [DW];exact Nat.mod_lt _ we
 simp [pB]
theorem JF {α:Type} {g:α→AV} {Z:α} {Zs:List α} {t u e:TypeId} {i:TypeInfo} {z:Value} {x y:Operand} {l:Int} {sz:Nat} {ki:IntKind} [aA P t (.slice e)] [aA P u (.int ki)] [aN P e i] (hx:dk tm x=some .nil) (hy:dk tm y=some (.int .i64 l)) (hz:i.zero=some z) (Ga:zE z=g Z)
 (kM:i.size=sz) (wA:Rl sz (g Z)=true) (we:Nat.blt 0 sz=true) (hn:Nat.blt d n=true) (Nz:Nat.ble i.bytes 65536=true) (hv:S5 Z l l=some Zs)
 (kk:∀ b':Bk,ae P all rest ⟨n,(d,.sl sz b' 0 Zs.length) :: tm,(b',.arr sz (Zs.map g)) :: hp⟩ Q):ae P all (⟨some d,.call {callee:=.builtin .append,args:=#[x,y],argTypes:=#[t,u]},ty,pos,af,none⟩ :: rest) ⟨n,tm,hp⟩ Q:=by
 subst kM
 have we:0 < i.size:=Nat.lt_of_lt_of_le (Nat.lt_of_succ_le (Nat.le_of_ble_eq_true we)) (Nat.le_refl _)
 have Nz:=Nat.le_of_ble_eq_true Nz
 have hE:=BN wA
 unfold S5 at hv
 split at hv
 ·rename_i hc
  obtain rfl:=Option.some.inj hv
  obtain ⟨c0,_,c2⟩:=hc
  refine ae.Iq rfl fun w S a r=>?_
  have e1:=(aV (σ:=⟨n,tm,hp⟩) r hx).pE
  have e2:=(aV (σ:=⟨n,tm,hp⟩) r hy).fK
  have w1:IntKind.i64.wrap l=l:=DQ ⟨by omega,by omega⟩
  have hmul:l * (i.bytes:Int)≤1000000000 * 65536:=Int.mul_le_mul c2 (by omega) (by omega) (by omega)
  have f1:¬ l < 0:=by omega
  have f2:¬ (281474976710656 < l * (i.bytes:Int)):=by omega
  have V0:(List.replicate l.toNat Z).map g=List.replicate l.toNat (g Z):=by simp
  by_cases h0:l=0
  ·subst h0
   obtain ⟨a1,a2,a3⟩:=oX (b:=⟨none,0⟩) (o:=.arr i.size []) r.hp (Ext.refl w) id ⟨by simp,by simp,.inl ⟨rfl,rfl⟩⟩ (.inl rfl)
   refine ⟨.slice none 0 0,w,S,_,?_,(r.heap a3 a1).put hn (.zw _ _ rfl),a2,kk ⟨none,0⟩⟩
   simp [execOp,resolve,invoke,builtin,e1,e2,Builtin.append_,run_underlying (aA.h (P:=P) (t:=t)),run_underlying (aA.h (P:=P) (t:=u)),sizeOf,typeInfo,aN.h (P:=P) (t:=e),asInt,asIntOf,w1]
  ·obtain ⟨N,hN⟩:∃ N:Nat,N=l.toNat:=⟨_,rfl⟩
   have hN0:0 < N:=by omega
   have V1:l=(N:Int):=by omega
   obtain ⟨zl,S6⟩:=pG w S z (by rw [Ga];exact hE.2)
   rw [Ga] at zl S6
   have DW:z.cells.size=i.size:=by rw [← zl];exact hE.1
   have h48:N * i.bytes≤1000000000 * 65536:=Nat.mul_le_mul (by omega) Nz
   have V2:¬ (281474976710656 < Builtin.nextslicecap N 0 * i.bytes):=by rw [nextslicecap_zero hN0];omega
   have V3:¬ (9223372036854775807 < (N:Int)):=by omega
   have sw:N≠0:=by omega
   have V4:¬ (N=0∨i.size=0):=by omega
   have Pb:=grownCap_ge w N 0 e
   obtain ⟨vs,S4⟩:∃ vs:Array Value,vs=Builtin.zeroCells z.cells N++Builtin.zeroCells z.cells (grownCap w N 0 e - N):=⟨_,rfl⟩
   have ex:Ext w (w.drew.alloc (.cells vs e)):=(Ext.FI w _ (Nat.le_succ _)).trans (Ext.alloc w.drew _)
   have Qb:∀ y∈List.replicate N (g Z),El i.size y:=fun y hy=>by rw [List.eq_of_mem_replicate hy];exact hE
   have KW:(Builtin.zeroCells z.cells N).size=N * i.size:=by rw [size_zeroCells,DW]
   have hh:Holds (w.drew.alloc (.cells vs e)) S ⟨some w.heap.size,grownCap w N 0 e⟩ (.arr i.size ((List.replicate l.toNat Z).map g)):=by
    rw [V0,← hN]
    refine ⟨Qb,by simpa using Pb,.inr ⟨w.heap.size,vs,e,rfl,?_,?_,fun j c v hc hv=>?_⟩⟩
    ·show (w.heap.push _)[w.heap.size]? =_
     simp
    ·rw [S4,Array.size_append,size_zeroCells,size_zeroCells,DW,← Nat.add_mul]
     show (N+(grownCap w N 0 e - N)) * i.size=grownCap w N 0 e * i.size
     rw [show N+(grownCap w N 0 e - N)=grownCap w N 0 e by omega]
    ·have hj:j < N * i.size:=by
      have:=(List.getElem?_eq_some_iff.1 hc).1
      rw [dj Qb] at this;simpa using this
     rw [B0 hE.1 N j hj] at hc
     rw [S4,Array.getElem?_append_left (by rw [KW];exact hj)] at hv
     exact (S6 _ _ _ hc (Di DW we hv)).mono fun m hm=>⟨hm,ex.same m (r.hp.slt m hm)⟩
   obtain ⟨k1,k2,k3⟩:=oX r.hp ex id hh (.inr ⟨_,rfl,Nat.le_refl _⟩)
   refine ⟨.slice (some ⟨w.heap.size,0,none⟩) N (grownCap w N 0 e),w.drew.alloc (.cells vs e),S,_,?_,(r.heap k3 k1).put hn ?_,k2,kk ⟨some w.heap.size,grownCap w N 0 e⟩⟩
   ·have f2':¬ (281474976710656 < (N:Int) * (i.bytes:Int)):=by rw [← V1];exact f2
    have f1':¬ ((N:Int) < 0):=by omega
    have w1':IntKind.i64.wrap (N:Int)=N:=by rw [← V1];exact w1
    rw [S4]
    simp [execOp,resolve,invoke,builtin,e1,e2,Builtin.append_,run_underlying (aA.h (P:=P) (t:=t)),run_underlying (aA.h (P:=P) (t:=u)),sizeOf,typeInfo,aN.h (P:=P) (t:=e),asInt,asIntOf,V1,w1',f1',f2',sw,V4,V3,V2,Question.forced,run_firstCells_none,zeroValue,hz,newRow,grownCap]
    intro hzero
    exact absurd (Nat.mul_eq_zero.1 hzero) (by omega)
   ·have:=At.sl (w:=w.drew.alloc (.cells vs e)) (S:=S) i.size ⟨some w.heap.size,grownCap w N 0 e⟩ 0 N w.heap.size (grownCap w N 0 e) rfl Pb (by simp)
    simp only [List.length_replicate,← hN]
    simpa using this
 ·cases hv
theorem NO {t e:TypeId} {i:TypeInfo} {z:Value} {x:Operand} {b:Bk} {L N sz:Nat} {xs:List AV} {zx:AV} {dR:Heap} [aA P t (.slice e)] [aN P e i] (hx:dk tm x=some (.sl sz b L N)) (hz:i.zero=some z) (Ga:zE z=zx) (kM:Nat.beq i.size sz=true) (wA:Rl sz zx=true) (we:Nat.blt 0 sz=true) (hL:L+N≤xs.length)
 (u:oW hp b (.arr sz xs) b (.arr sz (xs.take L++List.replicate N zx++xs.drop (L+N))) dR) (kk:ae P all rest ⟨n,tm,dR⟩ Q):
 ae P all (⟨none,.call {callee:=.builtin .clear,args:=#[x],argTypes:=#[t]},ty,pos,af,none⟩ :: rest) ⟨n,tm,hp⟩ Q:=by
 have kM:=Nat.eq_of_beq_eq_true kM
 have we:0 < sz:=Nat.lt_of_lt_of_le (Nat.lt_of_succ_le (Nat.le_of_ble_eq_true we)) (Nat.le_refl _)
 have hE:=BN wA
 refine ae.Iq rfl fun w S a r=>?_
 obtain ⟨oa,cap,e1,e2⟩:=(aV (σ:=⟨n,tm,hp⟩) r hx).wx
 rcases Nat.eq_zero_or_pos N with h0 | h0
 ·subst h0
  have IL:xs.take L++List.replicate 0 zx++xs.drop (L+0)=xs:=by simp
  rw [IL] at u
  obtain ⟨p,q,hq1,hq2⟩:=u.split
  obtain rfl:dR=hp:=by rw [hq1,hq2]
  refine ⟨.tuple #[],w,S,⟨n,tm,dR⟩,?_,r,kP.refl _ _ _,kk⟩
  cases oa<;>simp [execOp,e1,resolve,invoke,builtin,Builtin.clear_,run_underlying (aA.h (P:=P) (t:=t))]
 ·rcases e2 with ⟨_,_,hl,_,_⟩ | ⟨m,hb,rfl,h1,h2⟩ | ⟨_,_,_,_,hl,_⟩
  ·omega
  ·obtain ⟨g0,g1,⟨g2,_⟩ | ⟨m',vs,E,g2,g3,g4,g5⟩⟩:=tc r.hp (.inl u.FN)
   ·rw [g2] at hb;cases hb
   obtain rfl:m'=m:=by rw [g2] at hb;exact Option.some.inj hb
   obtain ⟨zl,S6⟩:=pG w S z (by rw [Ga];exact hE.2)
   rw [Ga] at zl S6
   have DW:z.cells.size=sz:=by rw [← zl];exact hE.1
   have Qb:∀ y∈List.replicate N zx,El sz y:=fun y hy=>by rw [List.eq_of_mem_replicate hy];exact hE
   have KW:(Builtin.zeroCells z.cells N).size=N * sz:=by rw [size_zeroCells,DW]
   have Rm:(flat (List.replicate N zx)).length=(Builtin.zeroCells z.cells N).size:=by rw [dj Qb,KW];simp
   have S7:kB w S (flat (List.replicate N zx)) (Builtin.zeroCells z.cells N):=by
    intro j c v hc hv
    have hj:j < N * sz:=by
     have:=(List.getElem?_eq_some_iff.1 hc).1
     rw [dj Qb] at this;simpa using this
    rw [B0 hE.1 N j hj] at hc
    refine S6 (j % sz) c v hc ?_
    unfold Builtin.zeroCells at hv
    simp only [Array.getElem?_map,Option.map_eq_some_iff] at hv
    obtain ⟨q,hq,rfl⟩:=hv
    have:q=j:=by
     rw [Array.getElem?_eq_some_iff] at hq
     obtain ⟨k1,k2⟩:=hq
     simpa using k2.symm
    subst this
    rw [DW]
    have pB:q % sz < z.cells.size:=by rw [DW];exact Nat.mod_lt _ we
    simp [pB]
   have Hj:=yL Rm S7 (fun c hc=>by
    unfold flat at hc
    rw [List.mem_flatMap] at hc
    obtain ⟨y,hy,hcy⟩:=hc
    exact (Qb y hy).2 c hcy)
   have Rj:=dj g0
   have hmul:(L+N) * sz≤xs.length * sz:=Nat.mul_le_mul_right _ hL
   have Lg:xs.length * sz≤b.cap * sz:=Nat.mul_le_mul_right _ g1
   rw [Nat.add_mul] at hmul
   have FQ:=run_storeCells_at (P:=P) m' (L * sz) E (Builtin.zeroCells z.cells N).toList 0 vs w g3 (by simp [KW];omega) Hj
   simp only [Nat.add_zero] at FQ
   have Lh:flat (xs.take L++List.replicate N zx++xs.drop (L+N))=(flat xs).take (L * sz)++flat (List.replicate N zx)++(flat xs).drop (L * sz+(flat (List.replicate N zx)).length):=by
    rw [uf,uf,zG xs L g0,zF xs (L+N) g0,Rm,KW,Nat.add_mul]
   have Li:=fun (w':World) (ha:kB w' S (flat xs) vs) (hb:kB w' S (flat (List.replicate N zx)) (Builtin.zeroCells z.cells N))=>IC (L * sz) (by rw [Rj,g4];exact Lg) ha Rm hb (by rw [Rm,KW,Rj];omega)
   have Lj:(vs.toList.take (L * sz)++(Builtin.zeroCells z.cells N).toList++vs.toList.drop (L * sz+(Builtin.zeroCells z.cells N).toList.length)).toArray.size=b.cap * sz:=by
    simp [KW];omega
   generalize (vs.toList.take (L * sz)++(Builtin.zeroCells z.cells N).toList++vs.toList.drop (L * sz+(Builtin.zeroCells z.cells N).toList.length)).toArray=C7 at FQ Li Lj
   have c:GB w (w.setRow m' C7) b.cF:=⟨⟨rfl,rfl,rfl,by simp,fun k hk sw=>setRow_other w m' k _ (fun e=>sw (by rw [g2,e]))⟩,fun _=>Nat.le_refl _⟩
   have k1:∀ n,S n→S n∧(w.setRow m' C7).heap[n]? =w.heap[n]?:=by
    intro k hk
    refine ⟨hk,setRow_other w m' k _ (fun e=>?_)⟩
    subst e
    exact (r.hp.sep _ u.FN.mem k (mz g2)).1 hk
   have hh:=rD r.hp u c id id ⟨fun y hy=>?_,by simp;omega,.inr ⟨m',C7,E,g2,setRow_heap w m' vs _ E _ g3,Lj,by rw [Lh];exact Li _ (g5.mono k1) (S7.mono k1)⟩⟩ (.inl rfl)
   ·refine ⟨.tuple #[],w.setRow m' C7,S,⟨n,tm,dR⟩,?_,r.heap hh.2.2 hh.1,hh.2.1,kk⟩
    obtain ⟨N',rfl⟩:∃ k,N=k+1:=⟨N - 1,by omega⟩
    simp [execOp,e1,resolve,invoke,builtin,Builtin.clear_,run_underlying (aA.h (P:=P) (t:=t)),zeroValue,typeInfo,aN.h (P:=P) (t:=e),hz,FQ]
   ·rcases List.mem_append.1 hy with h | h
    ·rcases List.mem_append.1 h with h | h
     ·exact g0 y (List.mem_of_mem_take h)
     ·exact Qb y h
    ·exact g0 y (List.mem_of_mem_drop h)
  ·omega
theorem NP {α:Type} {g:α→AV} {Z:α} {Xs V:List α} {H:Int} {t e:TypeId} {i:TypeInfo} {z:Value} {x:Operand} {b:Bk} {L:Int} {sz:Nat} {dR:Heap} [aA P t (.slice e)] [aN P e i] (hx:dk tm x=some (.sl sz b L.toNat V.length)) (hz:i.zero=some z) (Ga:zE z=g Z) (kM:Nat.beq i.size sz=true) (wA:Rl sz (g Z)=true) (we:Nat.blt 0 sz=true) (hv:yD Xs L H=some V)
 (u:oW hp b (.arr sz (Xs.map g)) b (.arr sz ((IK Xs L V.length Z).map g)) dR) (kk:ae P all rest ⟨n,tm,dR⟩ Q):
 ae P all (⟨none,.call {callee:=.builtin .clear,args:=#[x],argTypes:=#[t]},ty,pos,af,none⟩ :: rest) ⟨n,tm,hp⟩ Q:=by
 obtain ⟨⟨h0,h1,h2⟩,_⟩:=sb hv
 have hlen:=(uk hv).1
 refine NO (xs:=Xs.map g) hx hz Ga kM wA we (by simp;omega) ?_ kk
 have:(IK Xs L V.length Z).map g=(Xs.map g).take L.toNat++List.replicate V.length (g Z)++(Xs.map g).drop (L.toNat+V.length):=by
  unfold IK
  simp
 rw [← this]
 exact u
end rules
end Go.Eng
namespace Go.Eng
open Go Go.Sort Go.Proofs
variable [bx]
theorem D7 {α:Type} {g:α→AV} (hc:∀ x,(g x).cells=[g x]):∀ xs:List α,flat (xs.map g)=xs.map g
 | []=>rfl
 | x :: r=>by rw [List.map_cons,jg,hc,D7 hc r];rfl
end Go.Eng
namespace Go.Eng
open Go
variable [bx]
def AV.LD:AV→Bool
 | .sl _ _ _ _=>true
 | .ptr _ _=>true
 | .agg cs=>FU cs
 | v=>v.EM
def LF:List AV→Bool
 | []=>true
 | c :: r=>c.LD&&LF r
def AV.S8:AV→Bool
 | .om cs=>LF cs
 | v=>v.LD
theorem EY {w:World} {S S':Nat→Prop} {av:AV} {v:Value} (h:At w S av v) (hn:av.LD=true):At w S' av v:=by
 cases h with
 | agg cs vs hl h=>exact .agg cs vs hl fun i c u hc hu=>wD (h i c u hc hu) (wE hn c (List.mem_of_getElem? hc))
 | sl sz b off len n cap hb h1 h2=>exact .sl sz b off len n cap hb h1 h2
 | zw sz b hb=>exact .zw sz b hb
 | Nj sz b off n ad hb=>exact .Nj sz b off n ad hb
 | ptr b o n hb=>exact .ptr b o n hb
 | int k n=>exact .int k n
 | bool b=>exact .bool b
 | str s=>exact .str s
 | nil=>exact .nil
 | raw v=>exact .raw v
 | _=>simp [AV.LD,AV.EM] at hn
theorem B1:∀ {cs:List AV},LF cs=true→∀ c∈cs,c.LD=true
 | [],_,c,hc=>by simp at hc
 | x :: r,h,c,hc=>by
   simp only [LF,Bool.and_eq_true] at h
   rcases List.mem_cons.1 hc with rfl | hc
   ·exact h.1
   ·exact B1 h.2 c hc
theorem Qd {w:World} {S S':Nat→Prop} {av:AV} {v:Value} (h:At w S av v) (hn:av.S8=true):At w S' av v:=by
 cases av with
 | om cs=>
   cases h with
   | om _ vs hl h=>exact .om cs vs hl fun i c u hc hu=>EY (h i c u hc hu) (B1 hn c (List.mem_of_getElem? hc))
 | _=>exact EY h hn
def Ob.Pm:Ob→Prop
 | .cells cs=>LF cs=true
 | .arr _ xs=>∀ x∈xs,FU x.cells=true
 | _=>False
inductive Hx:Heap→Prop
 | nil:Hx []
 | cons {b:Bk} {o:Ob} {h:Heap} (c:o.Pm) (k:Hx h):Hx ((b,o) :: h)
theorem Hx.mem {h:Heap} (k:Hx h):∀ e∈h,e.2.Pm:=by
 induction k with
 | nil=>intro e he;simp at he
 | cons c k ih=>
   intro e he
   rcases List.mem_cons.1 he with rfl | he
   ·exact c
   ·exact ih e he
theorem Pm.nL {α:Type} {g:α→AV} {sz:Nat} {Xs:List α} (h:∀ x,FU (g x).cells=true):(Ob.arr sz (Xs.map g)).Pm:=fun x hx=>by
 obtain ⟨y,_,rfl⟩:=List.mem_map.1 hx
 exact h y
theorem Holds.S8 {w:World} {S S':Nat→Prop} {b:Bk} {o:Ob} (h:Holds w S b o) (hn:o.Pm):Holds w S' b o:=by
 cases o with
 | cells cs=>
   obtain ⟨h0,n,vs,E,h1,h2,h3,h4⟩:=h
   exact ⟨h0,n,vs,E,h1,h2,h3,fun i c v hc hv=>EY (h4 i c v hc hv) (B1 hn c (List.mem_of_getElem? hc))⟩
 | arr sz xs=>
   obtain ⟨h0,h1,h2⟩:=h
   refine ⟨h0,h1,h2.imp id ?_⟩
   rintro ⟨n,vs,E,g1,g2,g3,g4⟩
   refine ⟨n,vs,E,g1,g2,g3,fun i c v hc hv=>wD (g4 i c v hc hv) ?_⟩
   have hm:=List.mem_of_getElem? hc
   unfold flat at hm
   rw [List.mem_flatMap] at hm
   obtain ⟨x,hx,VA⟩:=hm
   exact wE (hn x hx) c VA
 | yG _ _=>exact hn.elim
 | mp _=>exact hn.elim
 | KA _ _=>exact hn.elim
 | zy _ _ _=>exact hn.elim
 | Ji _ _ _=>exact hn.elim
 | gm _=>exact hn.elim
 | Ri _ _ _ _=>exact hn.elim
theorem Co.Pn {hp:Heap} {α:Type} {g:α→AV} {Xs V:List α} {L H:Int} {sz:Nat} {b:Bk} (hv:yD Xs L H=some V) (f:mf hp b (.yG sz (Xs.map g))):Co hp (.sl sz b L.toNat V.length) (.list sz (V.map g)):=by
 obtain ⟨⟨h0,h1,h2⟩,h3⟩:=sb hv
 have hl:=(uk hv).1
 have h:=Co.part sz b L.toNat V.length (Xs.map g) f (by simp;omega)
 have e:V.map g=((Xs.map g).drop L.toNat).take V.length:=by
  have:=(uk hv).2.2
  rw [← List.map_drop,← List.map_take,← this]
 rw [e]
 exact h
theorem qO.Pn {hp:Heap} {α:Type} {g:α→AV} {Xs V:List α} {L H:Int} {sz:Nat} {b:Bk} (hv:yD Xs L H=some V) (f:mf hp b (.arr sz (Xs.map g))):qO hp (.sl sz b L.toNat V.length) (.list sz (V.map g)):=by
 obtain ⟨⟨h0,h1,h2⟩,h3⟩:=sb hv
 have hl:=(uk hv).1
 have h:=qO.part sz b L.toNat V.length (Xs.map g) f (by simp;omega)
 have e:V.map g=((Xs.map g).drop L.toNat).take V.length:=by
  have:=(uk hv).2.2
  rw [← List.map_drop,← List.map_take,← this]
 rw [e]
 exact h
section rules
variable {P:Program} {all:Array Oper} {rest:List Oper} {n:Nat} {tm:List (Nat×AV)} {hp:Heap} {Q:St→Prop} {d:Nat} {ty:TypeId} {pos:String} {af:Array Edge}
theorem NQ {f:FuncId} {args:List Operand} {ts:Array TypeId} {l l':List AV} {h0 hr:Heap} {Qc:AV→Heap→Prop} [bb P f] (hl:Au tm args=some l) (c:aB P f l' h0 Qc) (co:u4 hr l l') (hs:hp.Perm (h0++hr)) (hn:Nat.blt d n=true)
 (kk:∀ r h',Qc r h'→r.S8=true∧Hx h'∧ae P all rest ⟨n,(d,r) :: tm,h'++hr⟩ Q):ae P all (⟨some d,.call {callee:=.value (.func f),args:=args.toArray,argTypes:=ts},ty,pos,af,none⟩ :: rest) ⟨n,tm,hp⟩ Q:=by
 refine ae.FK rfl fun w S a r=>⟨f,_,oo a w,?_⟩
 obtain ⟨g1,g2⟩:=tu (σ:=⟨n,tm,hp⟩) r hl
 have rp:=r.hp.perm hs
 have Qe:dv w S hr:=rp.sub (List.sublist_append_right _ _)
 have Po:dv w S h0:=rp.sub (List.sublist_append_left _ _)
 obtain ⟨g3,g4⟩:=u4.at Qe co g1 g2
 have Qf:∀ m,Has h0 m→¬ Has hr m:=by
  rintro m ⟨x,hx,V5⟩ ⟨y,hy,hym⟩
  have:=rp.nodup
  rw [List.flatMap_append,List.nodup_append] at this
  exact this.2.2 m (List.mem_flatMap.2 ⟨x,hx,V5⟩) m (List.mem_flatMap.2 ⟨y,hy,hym⟩) rfl
 have rh:dv w (SB S hr) h0:=by
  refine ⟨Po.nodup,fun e he=>(Po.holds e he).mono (fun m hm=>⟨.inl hm,rfl⟩) (fun m _=>rfl),fun e he m hm=>?_,fun m hm=>?_,fun g o ho=>⟨.inl (Po.kN g o ho).1,(Po.kN g o ho).2⟩⟩
  ·constructor
   ·rintro (h | h)
    ·exact (Po.sep e he m hm).1 h
    ·exact (Qf m ⟨e,he,hm⟩ h).elim
   ·exact fun h=>.inl ((Po.sep e he m hm).2 h)
  ·rcases hm with h | h
   ·exact Po.slt m h
   ·exact Qe.lt h
 refine (c w (SB S hr) _ rh (by simpa using g3) g4).mono ?_
 rintro e w' ⟨v,res,h',S',rfl,hq,h3,h4,h5⟩
 obtain ⟨k1,k2,k3⟩:=kk res h' hq
 have V6:∀ m,S m→(S' m∧(Has hr m→S m))∧w'.heap[m]? =w.heap[m]?:=fun m hm=>⟨⟨(h5.mO m (.inl hm)).1,fun _=>hm⟩,(h5.mO m (.inl hm)).2⟩
 have yb:dv w' (fun m=>S' m∧(Has hr m→S m)) (h'++hr):=by
  refine ⟨?_,?_,?_,fun m hm=>h4.slt m hm.1,fun g o ho=>⟨⟨(h4.kN g o ho).1,fun _=>(Po.kN g o ho).1⟩,(h4.kN g o ho).2⟩⟩
  ·rw [List.flatMap_append,List.nodup_append]
   refine ⟨h4.nodup,Qe.nodup,fun x hx y hy Iu=>?_⟩
   subst Iu
   obtain ⟨e1,PQ,Hm⟩:=List.mem_flatMap.1 hx
   obtain ⟨e2,Jk,Qg⟩:=List.mem_flatMap.1 hy
   rcases h5.new x ⟨e1,PQ,Hm⟩ with h | h
   ·exact Qf x h ⟨e2,Jk,Qg⟩
   ·have:=Qe.lt ⟨e2,Jk,Qg⟩;omega
  ·intro e he
   rcases List.mem_append.1 he with he | he
   ·exact (h4.holds e he).S8 (k2.mem e he)
   ·exact (Qe.holds e he).mono V6 (fun m hm=>(h5.mO m (.inr ⟨e,he,hm⟩)).2)
  ·intro e he m hm
   rcases List.mem_append.1 he with he | he
   ·rw [← h4.sep e he m hm]
    refine ⟨fun h=>h.1,fun h=>⟨h,fun hh=>?_⟩⟩
    rcases h5.new m ⟨e,he,hm⟩ with h6 | h6
    ·exact (Qf m h6 hh).elim
    ·have:=Qe.lt hh;omega
   ·rw [← Qe.sep e he m hm]
    exact ⟨fun h=>h.2 ⟨e,he,hm⟩,fun h=>⟨(h5.mO m (.inl h)).1,fun _=>h⟩⟩
 have NR:∀ m,Has hp m↔Has h0 m∨Has hr m:=by
  intro m
  constructor
  ·rintro ⟨x,hx,hb⟩
   rcases List.mem_append.1 (hs.mem_iff.1 hx) with h | h
   ·exact .inl ⟨x,h,hb⟩
   ·exact .inr ⟨x,h,hb⟩
  ·rintro (⟨x,hx,hb⟩ | ⟨x,hx,hb⟩)
   ·exact ⟨x,hs.mem_iff.2 (List.mem_append_left _ hx),hb⟩
   ·exact ⟨x,hs.mem_iff.2 (List.mem_append_right _ hx),hb⟩
 refine ⟨v,fun m=>S' m∧(Has hr m→S m),⟨n,(d,res) :: tm,h'++hr⟩,rfl,(r.heap V6 yb).put hn (Qd h3 k1),?_,k3⟩
 refine ⟨h5.os,h5.tape,h5.output,h5.size,V6,fun m hm hh=>?_,fun m hm=>?_,h5.drawn⟩
 ·have n0:¬ Has h0 m:=fun h=>hh ((NR m).2 (.inl h))
  have nr:¬ Has hr m:=fun h=>hh ((NR m).2 (.inr h))
  obtain ⟨q1,q2⟩:=h5.other m hm n0
  refine ⟨q1,fun h=>?_⟩
  rcases q2 h.1 with h | h
  ·exact h
  ·exact (nr h).elim
 ·obtain ⟨x,hx,hb⟩:=hm
  rcases List.mem_append.1 hx with hx | hx
  ·rcases h5.new m ⟨x,hx,hb⟩ with h | h
   ·exact .inl ((NR m).2 (.inl h))
   ·exact .inr h
  ·exact .inl ((NR m).2 (.inr ⟨x,hx,hb⟩))
theorem B2 {DZ:Type} {f:FuncId} {args:List Operand} {ts:Array TypeId} {l l':List AV} {h0 hr:Heap} {H H':DZ→Heap} {V:DZ→AV} [bb P f] (hl:Au tm args=some l) (c:aB P f l' h0 (T1 H V)) (hs:Hc hp h0 hr) (co:u4 hr l l') (ha:∀ b,sc (H b) hr=some (H' b)) (hV:∀ b,(V b).S8=true) (hH:∀ b,Hx (H b)) (hn:Nat.blt d n=true)
 (kk:∀ b,ae P all rest ⟨n,(d,V b) :: tm,H' b⟩ Q):ae P all (⟨some d,.call {callee:=.value (.func f),args:=args.toArray,argTypes:=ts},ty,pos,af,none⟩ :: rest) ⟨n,tm,hp⟩ Q:=
 NQ hl c co hs.perm hn (fun r h' ⟨b,e1,e2⟩=>by subst e1;subst e2;rw [nK (ha b)];exact ⟨hV b,hH b,kk b⟩)
end rules
class vV (K:Type) where
 lt:K→K→Bool
instance:vV Int:=⟨fun a b=>decide (a < b)⟩
instance:vV Bool:=⟨fun a b=>!a&&b⟩
instance:vV (List UInt8):=⟨fun a b=>Op.bytesLess a b⟩
section plain
variable {K V:Type}
def mQ [DecidableEq K] (m:List (K×V)) (k:K):List (K×V):=m.filter (fun e=>decide (e.1≠k))
def u7 [vV K] (k:K) (v:V):List (K×V)→List (K×V)
 | []=>[(k,v)]
 | e :: r=>if vV.lt e.1 k=true then e :: u7 k v r else (k,v) :: e :: r
def kO [DecidableEq K] [vV K] (m:List (K×V)) (k:K) (v:V):List (K×V):=u7 k v (mQ m k)
def bM [DecidableEq K]:List (K×V)→K→Option V
 | [],_=>none
 | e :: r,k=>if e.1=k then some e.2 else bM r k
def kK [DecidableEq K] (m:List (K×V)) (k:K) (z:V):Option V:=some ((bM m k).getD z)
def AE [DecidableEq K] (m:List (K×V)) (k:K) (z:V):Option (V×Bool):=some ((bM m k).getD z,(bM m k).isSome)
theorem rb [vV K] (k:K) (v:V):∀ (m:List (K×V)),(u7 k v m).Perm ((k,v) :: m)
 | []=>List.Perm.refl _
 | e :: r=>by
   unfold u7
   split
   ·exact (List.Perm.cons e (rb k v r)).trans (List.Perm.swap _ _ _)
   ·exact List.Perm.refl _
theorem sT {α β:Type} (f:α→β):∀ (l:List β) (M:List α),l.Perm (M.map f)→∃ M':List α,M'.Perm M∧l=M'.map f
 | [],M,h=>by
   have:=h.nil_eq
   rw [eq_comm,List.map_eq_nil_iff] at this
   subst this;exact ⟨[],List.Perm.refl _,rfl⟩
 | x :: t,M,h=>by
   have hx:x∈M.map f:=h.mem_iff.1 (by simp)
   obtain ⟨e,he,rfl⟩:=List.mem_map.1 hx
   obtain ⟨p,q,rfl⟩:=List.append_of_mem he
   have h2:(f e :: t).Perm (f e :: (p++q).map f):=h.trans (by rw [List.map_append,List.map_cons,List.map_append];exact List.perm_middle)
   obtain ⟨M',h3,rfl⟩:=sT f t (p++q) (List.Perm.cons_inv h2)
   exact ⟨e :: M',(List.Perm.cons e h3).trans List.perm_middle.symm,rfl⟩
theorem Gb [DecidableEq K] {k:K} {v:V}:∀ {m:List (K×V)},bM m k=some v→(k,v)∈m
 | [],h=>by cases h
 | e :: r,h=>by
   unfold bM at h
   split at h
   ·rename_i hk
    obtain rfl:=Option.some.inj h
    subst hk;simp
   ·exact List.mem_cons_of_mem _ (Gb h)
theorem AF [DecidableEq K] {k:K} {v:V}:∀ {m:List (K×V)},(m.map Prod.fst).Nodup→(k,v)∈m→bM m k=some v
 | [],_,h=>by simp at h
 | e :: r,hn,h=>by
   rw [List.map_cons,List.nodup_cons] at hn
   unfold bM
   rcases List.mem_cons.1 h with rfl | h
   ·simp
   ·rw [if_neg (fun hk=>hn.1 (List.mem_map.2 ⟨_,h,hk.symm⟩))]
    exact AF hn.2 h
theorem ps [DecidableEq K] {k:K}:∀ {m:List (K×V)},bM m k=none↔∀ e∈m,e.1≠k
 | []=>by simp [bM]
 | e :: r=>by
   unfold bM
   split
   ·rename_i hk;simp [hk]
   ·rename_i hk
    rw [ps (m:=r)]
    simp [hk]
theorem pt [DecidableEq K] {m m':List (K×V)} (hp:m'.Perm m) (hn:(m'.map Prod.fst).Nodup) (k:K):bM m' k=bM m k:=by
 have P7:(m.map Prod.fst).Nodup:=(hp.map _).nodup_iff.1 hn
 cases h:bM m' k with
 | none=>
   symm
   rw [ps] at h ⊢
   exact fun e he=>h e (hp.mem_iff.2 he)
 | some v=>exact (AF P7 (hp.mem_iff.1 (Gb h))).symm
theorem u9 [DecidableEq K] {m:List (K×V)} {k:K} (h:bM m k=none):mQ m k=m:=by
 rw [ps] at h
 unfold mQ
 exact List.filter_eq_self.2 fun e he=>by simpa using h e he
end plain
noncomputable def D8 {E A:Type} (es:List E) (g:List E→Option A):Option A:=
 open Classical in if h:∃ r,∀ p,p.Perm es→g p=some r then some h.choose else none
theorem Hy {E A:Type} {es:List E} {g:List E→Option A} {r:A} (h:D8 es g=some r):∀ p,p.Perm es→g p=some r:=by
 unfold D8 at h
 split at h
 ·rename_i hx
  obtain rfl:=Option.some.inj h
  exact hx.choose_spec
 ·cases h
theorem LG {E A:Type} {es:List E} {g:List E→Option A} {r:A} (h:∀ p,p.Perm es→g p=some r):D8 es g=some r:=by
 unfold D8
 have hx:∃ r,∀ p,p.Perm es→g p=some r:=⟨r,h⟩
 rw [dif_pos hx]
 have:=hx.choose_spec es (List.Perm.refl _)
 rw [h es (List.Perm.refl _)] at this
 exact this.symm
def va {E S A:Type} (b:E→S→Option (S⊕A)) (f:S→Option A):List E→S→Option A
 | [],s=>f s
 | e :: p,s=>(b e s).bind (after (va b f p))
theorem S9 {E S A:Type} {b:E→S→Option (S⊕A)} {f:S→Option A} {rest x1:List E} {e:E} {s:S} {a:A} (h:∀ p,p.Perm rest→va b f p s=some a) (hp:rest.Perm (e :: x1)):
 ∃ z,b e s=some z∧(∀ y,z=.inl y→∀ p,p.Perm x1→va b f p y=some a)∧∀ a',z=.inr a'→a'=a:=by
 have h1:=h (e :: x1) hp.symm
 unfold va at h1
 obtain ⟨z,hz,h2⟩:=SP h1
 refine ⟨z,hz,fun y hy p hq=>?_,fun a' ha=>?_⟩
 ·have h3:=h (e :: p) ((List.Perm.cons e hq).trans hp.symm)
  unfold va at h3
  rw [hz,hy] at h3
  exact h3
 ·rw [ha] at h2
  exact Option.some.inj h2
theorem V7 {E S A:Type} {b:E→S→Option (S⊕A)} {f:S→Option A} {rest:List E} {s:S} {a:A} (h:∀ p,p.Perm rest→va b f p s=some a) (hn:rest=[]):f s=some a:=by
 subst hn;exact h [] (List.Perm.refl _)
theorem ab.NS {P:Program} {R:St→Prop} {k:List It} {σ:St} {body:Code} {E S A:Type} (b:E→S→Option (S⊕A)) (f:S→Option A) (mk:List E→S→St→Prop) {a:A} {IM:List E} {s0:S} (h:D8 IM (fun p=>va b f p s0)=some a) (h0:ai σ (mk IM s0))
 (hs:∀ rest s σ (J:St→Prop),mk rest s σ→(∀ p,p.Perm rest→va b f p s=some a)→(∀ x1 s' aE,x1.length < rest.length→(∀ p,p.Perm x1→va b f p s'=some a)→ai aE (mk x1 s')→J aE)→ab P R (.code body :: .stop J :: k) σ):
 ab P R (.code (.loop body) :: k) σ:=by
 refine ab.Iz (fun m σ=>∃ rest s,rest.length=m∧(∀ p,p.Perm rest→va b f p s=some a)∧mk rest s σ) IM.length (h0.mono fun aE VP=>⟨IM,s0,rfl,Hy h,VP⟩) ?_
 rintro m yI ⟨rest,s,hm,hH,dN⟩
 refine hs rest s yI _ dN hH (fun x1 s' aE hl Qh hi=>⟨x1.length,by omega,hi.mono fun EO hk=>⟨x1,s',rfl,Qh,hk⟩⟩)
def wK {K:Type} [DecidableEq K] (k:K):List K→List MapEntry→Nat→Option (Nat×Value)
 | k' :: ks,e :: es,i=>if k'=k then some (i,e.val) else wK k ks es (i+1)
 | _,_,_=>none
class gn (P:Program) (t:TypeId) {K:Type} [DecidableEq K] (g:K→AV):Prop where
 inj:∀ a b,g a=g b→a=b
 check:∀ {w:World} {S:Nat→Prop} {k:K} {v:Value},At w S (g k) v→∀ (b:Bool) (w1:World),(Instr.checkKey b 10000 t v).run P w1=.ok () w1
 find:∀ {w:World} {S:Nat→Prop} {k:K} {v:Value},At w S (g k) v→∀ (es:List MapEntry) (ks:List K),ks.length=es.length→(∀ (i:Nat) k' e,ks[i]? =some k'→es[i]? =some e→At w S (g k') e.key)→∀ w1:World,(Instr.findKey t v es).run P w1=.ok (wK k ks es 0) w1
 bits:∀ {w:World} {S:Nat→Prop} {k:K} {v u:Value},At w S (g k) v→At w S (g k) u→Instr.sameBits 10000 v u=true
theorem xv {K:Type} [DecidableEq K] {d:TypeDesc} {v:Value} {k:K} {q:K→Value→Prop} (hq:∀ k' u,q k' u→Instr.sameNow d v u=some (decide (k'=k))):∀ (es:List MapEntry) (ks:List K) (i:Nat),ks.length=es.length→(∀ (i:Nat) k' e,ks[i]? =some k'→es[i]? =some e→q k' e.key)→Instr.findNow d v es i=some (wK k ks es i)
 | [],[],i,_,_=>rfl
 | [],k' :: ks,i,hl,_=>by simp at hl
 | e :: es,[],i,hl,_=>by simp at hl
 | e :: es,k' :: ks,i,hl,h=>by
   unfold Instr.findNow wK
   rw [hq k' e.key (h 0 k' e rfl rfl)]
   by_cases hk:k'=k
   ·simp [hk]
   ·simp only [hk,decide_false,if_false]
    exact xv hq es ks (i+1) (by simpa using hl) (fun i k' e h1 h2=>h (i+1) k' e (by simpa using h1) (by simpa using h2))
theorem Hz (a b:ByteArray):((a==b)=true)↔a=b:=by
 cases a with
 | mk a=>
   cases b with
   | mk b=>
     show (a==b)=true↔_
     rw [beq_iff_eq]
     exact ⟨fun h=>by rw [h],fun h=>by cases h;rfl⟩
theorem gn.int {P:Program} {t:TypeId} {q:IntKind} (h:P.underlying t=some (.int q)):gn P t (K:=Int) (fun n=>AV.int q n) where
 inj a b h:=by simpa using h
 check:=fun {w S k v} hv b w1=>by
  rw [hv.fK]
  have key:∀ n:Nat,(Instr.checkKey b (n+1) t (Value.int q k)).run P w1=.ok () w1:=fun n=>by simp [Instr.checkKey,run_underlying h]
  exact key 9999
 find:=fun {w S k v} hv es ks hl hk w1=>by
  rw [hv.fK]
  have hf:=xv (d:=(.int q)) (v:=(Value.int q k)) (k:=k) (q:=fun k' u=>u=(Value.int q k')) (fun k' u hu=>by subst hu;simp only [Instr.sameNow,if_true];congr 1;rw [Bool.eq_iff_iff];simp;exact eq_comm) es ks 0 hl (fun i k' e h1 h2=>(hk i k' e h1 h2).fK)
  simp [Instr.findKey,run_underlying h,hf]
 bits:=fun {w S k v u} h1 h2=>by rw [h1.fK,h2.fK];simp [Instr.sameBits]
theorem gn.bool {P:Program} {t:TypeId} (h:P.underlying t=some .bool):gn P t (K:=Bool) AV.bool where
 inj a b h:=by simpa using h
 check:=fun {w S k v} hv b w1=>by
  rw [hv.kR]
  have key:∀ n:Nat,(Instr.checkKey b (n+1) t (Value.bool k)).run P w1=.ok () w1:=fun n=>by simp [Instr.checkKey,run_underlying h]
  exact key 9999
 find:=fun {w S k v} hv es ks hl hk w1=>by
  rw [hv.kR]
  have hf:=xv (d:=.bool) (v:=(Value.bool k)) (k:=k) (q:=fun k' u=>u=(Value.bool k')) (fun k' u hu=>by subst hu;simp only [Instr.sameNow];congr 1;rw [Bool.eq_iff_iff];simp;exact eq_comm) es ks 0 hl (fun i k' e h1 h2=>(hk i k' e h1 h2).kR)
  simp [Instr.findKey,run_underlying h,hf]
 bits:=fun {w S k v u} h1 h2=>by rw [h1.kR,h2.kR];simp [Instr.sameBits]
theorem gn.str {P:Program} {t:TypeId} (h:P.underlying t=some .string):gn P t (K:=List UInt8) AV.str where
 inj a b h:=by simpa using h
 check:=fun {w S k v} hv b w1=>by
  rw [hv.eI]
  have key:∀ n:Nat,(Instr.checkKey b (n+1) t (Value.string ⟨k.toArray⟩)).run P w1=.ok () w1:=fun n=>by simp [Instr.checkKey,run_underlying h]
  exact key 9999
 find:=fun {w S k v} hv es ks hl hk w1=>by
  rw [hv.eI]
  have hf:=xv (d:=.string) (v:=(Value.string ⟨k.toArray⟩)) (k:=k) (q:=fun k' u=>u=(Value.string ⟨k'.toArray⟩)) (fun k' u hu=>by subst hu;simp only [Instr.sameNow];congr 1;rw [Bool.eq_iff_iff,Hz];simp;exact eq_comm) es ks 0 hl (fun i k' e h1 h2=>(hk i k' e h1 h2).eI)
  simp [Instr.findKey,run_underlying h,hf]
 bits:=fun {w S k v u} h1 h2=>by rw [h1.eI,h2.eI];simp only [Instr.sameBits];exact (Hz _ _).2 rfl
instance {P:Program} {t:TypeId} [h:aA P t (.int .i64)]:gn P t (K:=Int) I:=gn.int h.h
instance {P:Program} {t:TypeId} [h:aA P t .bool]:gn P t (K:=Bool) AV.bool:=gn.bool h.h
instance {P:Program} {t:TypeId} [h:aA P t .string]:gn P t (K:=List UInt8) AV.str:=gn.str h.h
theorem dO {P:Program} {w:World} {r:Nat} {es:Array MapEntry} {c:Nat} (h:w.heap[r]? =some (.map es c)):(getObj r).run P w=.ok (.map es c) w:=by
 simp only [getObj,Sem.run,h]
theorem AG {P:Program} {w:World} {r:Nat} {m:Option Nat} {a b:Nat} {s:Array Nat} (h:w.heap[r]? =some (.mapIter m a s b)):(getObj r).run P w=.ok (.mapIter m a s b) w:=by
 simp only [getObj,Sem.run,h]
def xN (w:World) (r:Nat) (o:Obj):World:={w with heap:=w.heap.setIfInBounds r o}
theorem tA {P:Program} {w:World} {r:Nat} {es:Array MapEntry} {c:Nat} (o:Obj) (h:w.heap[r]? =some (.map es c)):(setObj r o).run P w=.ok () (xN w r o):=by
 simp only [setObj,Sem.run,h];rfl
theorem Gc {P:Program} {w:World} {r:Nat} {m:Option Nat} {a b:Nat} {s:Array Nat} (o:Obj) (h:w.heap[r]? =some (.mapIter m a s b)):(setObj r o).run P w=.ok () (xN w r o):=by
 simp only [setObj,Sem.run,h];rfl
theorem td {w:World} {r:Nat} {o o':Obj} (h:w.heap[r]? =some o'):(xN w r o).heap[r]? =some o:=by
 have pB:r < w.heap.size:=(Array.getElem?_eq_some_iff.1 h).1
 simp [xN,Array.getElem?_setIfInBounds,pB]
theorem B3 {w:World} {r k:Nat} {o:Obj} (h:k≠r):(xN w r o).heap[k]? =w.heap[k]?:=by
 simp [xN,Array.getElem?_setIfInBounds,Ne.symm h]
theorem NT {w:World} {r:Nat} {o:Obj} {x:Option Nat} (hx:x=some r):GB w (xN w r o) x:=
 ⟨⟨rfl,rfl,rfl,by simp [xN],fun k hk sw=>B3 (fun e=>sw (by rw [hx,e]))⟩,fun _=>Nat.le_refl _⟩
theorem BA (w:World) (x:Option Nat):GB w w x:=⟨⟨rfl,rfl,rfl,Nat.le_refl _,fun _ _ _=>rfl⟩,fun _=>Nat.le_refl _⟩
theorem Ext.heap {w w':World} {n:Nat} {o:Obj} (e:Ext w w') (h:w.heap[n]? =some o):w'.heap[n]? =some o:=by
 rw [e.same n (Array.getElem?_eq_some_iff.1 h).1];exact h
theorem At.ov {w:World} {S:Nat→Prop} {b:Bk} {v:Value} (h:At w S (.gl b) v):∃ n,b.cF=some n∧v=.map (some n):=by cases h with | gl _ n hb=>exact ⟨n,hb,rfl⟩
theorem EZ (w:World) (S:Nat→Prop) (z:Value) (h1:jl (zE z).cells=true):At w S (zE z) z:=by
 by_cases hz:∃ cs,z=.agg cs
 ·obtain ⟨cs,rfl⟩:=hz
  obtain ⟨h2,h3⟩:=pG w S (.agg cs) (dK h1)
  exact .agg _ _ h2 h3
 ·have KW:zE z=O4 z:=by
   cases z<;>first | rfl | (exact (hz ⟨_,rfl⟩).elim)
  rw [KW];exact EH w S z
theorem vB {K V:Type} {gk:K→AV} {gv:V→AV} {w:World} {S:Nat→Prop} {hp:Heap} {b:Bk} {M:List (K×V)} (HA:∀ a b,gk a=gk b→a=b) (r:dv w S hp) (f:mf hp b (.mp (M.map fun e=>(gk e.1,gv e.2)))):
 ∃ (L:List jA) (c:Nat) (M':List (K×V)) (n:Nat) (dJ:Array MapEntry),M'.Perm M∧L.map jA.kv=M'.map (fun e=>(gk e.1,gv e.2))∧uJ w S b L c∧b.cF=some n∧w.heap[n]? =some (.map dJ c)∧dJ.toList.length=M'.length∧
   (∀ (i:Nat) e m,M'[i]? =some e→dJ.toList[i]? =some m→At w S (gk e.1) m.key∧At w S (gv e.2) m.val)∧(M'.map Prod.fst).Nodup:=by
 obtain ⟨L,c,mB,hH⟩:=r.holds _ f.mem
 obtain ⟨M',h1,h2⟩:=sT _ _ _ mB
 have Qh:=hH
 obtain ⟨n,dJ,g1,g2,g3,g4,g5,g6,g7⟩:=hH
 have hlen:L.length=M'.length:=by have:=congrArg List.length h2;simpa using this
 refine ⟨L,c,M',n,dJ,h1,h2,Qh,g1,g2,by rw [Array.length_toList,g3,hlen],fun i e m he hm=>?_,?_⟩
 ·have:(L.map jA.kv)[i]? =some (gk e.1,gv e.2):=by rw [h2,List.getElem?_map,he];rfl
  rw [List.getElem?_map] at this
  cases hL:L[i]? with
  | none=>rw [hL] at this;cases this
  | some x=>
    rw [hL] at this
    have hx:(x.k,x.v)=(gk e.1,gv e.2):=Option.some.inj this
    obtain ⟨q1,q2⟩:=Prod.mk.inj hx
    have:=g4 i x m hL (by simpa using hm)
    rw [q1,q2] at this
    exact this.2
 ·have hk:L.map (·.k)=(M'.map Prod.fst).map gk:=by
   have:=congrArg (List.map Prod.fst) h2
   simpa [List.map_map,Function.comp_def,jA.kv] using this
  rw [hk] at g7
  exact (List.pairwise_map.1 g7).imp (fun h e=>h (by rw [e]))
theorem wL {α:Type} {l:List α} {j:Nat} {x:α} (h:l[j]? =some x):l.set j x=l:=by
 apply List.ext_getElem?
 intro i
 rw [List.getElem?_set]
 by_cases yC:j=i
 ·subst yC
  have:=(List.getElem?_eq_some_iff.1 h).1
  rw [if_pos rfl,if_pos this,h]
 ·simp [yC]
theorem um {K V:Type} [DecidableEq K] {gv:V→AV} {w:World} {S:Nat→Prop} {k:K}:∀ (M:List (K×V)) (es:List MapEntry) (i:Nat),M.length=es.length→(∀ (j:Nat) e m,M[j]? =some e→es[j]? =some m→At w S (gv e.2) m.val)→
 (bM M k=none∧wK k (M.map Prod.fst) es i=none)∨∃ v j val,bM M k=some v∧wK k (M.map Prod.fst) es i=some (i+j,val)∧At w S (gv v) val∧M[j]? =some (k,v)
 | [],[],i,_,_=>.inl ⟨rfl,rfl⟩
 | [],m :: es,i,hl,_=>by simp at hl
 | e :: M,[],i,hl,_=>by simp at hl
 | e :: M,m :: es,i,hl,h=>by
   unfold bM
   simp only [List.map_cons,wK]
   by_cases hk:e.1=k
   ·simp only [hk,if_true]
    refine .inr ⟨e.2,0,m.val,rfl,rfl,h 0 e m rfl rfl,?_⟩
    subst hk;rfl
   ·simp only [hk,if_false]
    rcases um M es (i+1) (by simpa using hl) (fun j e' m' h1 h2=>h (j+1) e' m' (by simpa using h1) (by simpa using h2)) with ⟨h1,h2⟩ | ⟨v,j,val,h1,h2,h3,h4⟩
    ·exact .inl ⟨h1,h2⟩
    ·exact .inr ⟨v,j+1,val,h1,by rw [h2];congr 2;omega,h3,by simpa using h4⟩
section rules
variable {P:Program} {all:Array Oper} {rest:List Oper} {n:Nat} {tm:List (Nat×AV)} {hp:Heap} {Q:St→Prop} {d:Nat} {ty:TypeId} {pos:String} {af:Array Edge}
theorem re {t:TypeId} (hn:Nat.blt d n=true) (kk:∀ b:Bk,ae P all rest ⟨n,(d,.gl b) :: tm,(b,.mp []) :: hp⟩ Q):ae P all (⟨some d,.makeMap t none,ty,pos,af,none⟩ :: rest) ⟨n,tm,hp⟩ Q:=by
 refine ae.Iq rfl fun w S a r=>?_
 have hh:Holds (w.alloc (.map #[] 0)) S ⟨some w.heap.size,0⟩ (.mp []):=⟨[],0,List.Perm.refl _,w.heap.size,#[],rfl,by show (w.heap.push _)[w.heap.size]? =_;simp,rfl,by simp,by simp,by simp,by simp⟩
 obtain ⟨k1,k2,k3⟩:=oX r.hp (Ext.alloc w (.map #[] 0)) id hh (.inr ⟨_,rfl,Nat.le_refl _⟩)
 exact ⟨.map (some w.heap.size),w.alloc (.map #[] 0),S,_,by simp [execOp,Instr.makeMap],(r.heap k3 k1).put hn (.gl _ _ rfl),k2,kk ⟨some w.heap.size,0⟩⟩
theorem vb {K V:Type} [DecidableEq K] {gk:K→AV} {gv:V→AV} {M:List (K×V)} {key:K} {Z v:V} {t kt vt:TypeId} {i:TypeInfo} {z:Value} {x y:Operand} {b:Bk} {av:AV} [aA P t (.map kt vt)] [aN P vt i] [gn P kt gk] (hx:dk tm x=some (.gl b)) (hy:dk tm y=some (gk key)) (f:mf hp b (.mp (M.map fun e=>(gk e.1,gv e.2)))) (hz:i.zero=some z) (Ga:zE z=gv Z) (h1:jl (zE z).cells=true) (h:kK M key Z=some v) (qN:gv v=av):
 QV P ⟨some d,.lookup t x y false,ty,pos,af,none⟩ ⟨n,tm,hp⟩ av:=by
 intro w S a r
 have kx:=aV (σ:=⟨n,tm,hp⟩) r hx
 have ky:=aV (σ:=⟨n,tm,hp⟩) r hy
 obtain ⟨nb,hb,ex⟩:=kx.ov
 obtain ⟨L,c,M',AH,dJ,p1,p2,p3,p4,p5,p6,p7,p8⟩:=vB (gn.inj P kt) r.hp f
 obtain rfl:AH=nb:=by rw [p4] at hb;exact Option.some.inj hb
 unfold kK at h
 have hv:=Option.some.inj h
 rw [← pt p1 p8] at hv
 have pv:=gn.find (P:=P) (t:=kt) (g:=gk) ky dJ.toList (M'.map Prod.fst) (by simpa using p6.symm) (fun j k' e h1 h2=>by
  rw [List.getElem?_map] at h1
  cases hm:M'[j]? with
  | none=>rw [hm] at h1;cases h1
  | some q=>rw [hm] at h1;rw [← Option.some.inj h1];exact (p7 j q e hm h2).1)
 rcases um (gv:=gv) (w:=w) (S:=S) (k:=key) M' dJ.toList 0 p6.symm (fun j e m h1 h2=>(p7 j e m h1 h2).2) with ⟨q1,q2⟩ | ⟨v',j,val,q1,q2,q3,_⟩
 ·refine ⟨z,fun w1 e1=>?_,?_⟩
  ·simp [execOp,Instr.lookup,ex,run_underlying (aA.h (P:=P) (t:=t)),dO (e1.heap p5),gn.check (P:=P) (t:=kt) ky,pv,q2,zeroValue,typeInfo,aN.h (P:=P) (t:=vt),hz]
  ·rw [← qN,← hv,q1,Option.getD_none,← Ga];exact EZ w S z h1
 ·refine ⟨val,fun w1 e1=>?_,?_⟩
  ·simp [execOp,Instr.lookup,ex,run_underlying (aA.h (P:=P) (t:=t)),dO (e1.heap p5),gn.check (P:=P) (t:=kt) ky,pv,q2]
  ·rw [← qN,← hv,q1,Option.getD_some];exact q3
theorem JG {K V:Type} [DecidableEq K] {gk:K→AV} {gv:V→AV} {M:List (K×V)} {key:K} {Z:V} {v:V×Bool} {t kt vt:TypeId} {i:TypeInfo} {z:Value} {x y:Operand} {b:Bk} {av:AV} [aA P t (.map kt vt)] [aN P vt i] [gn P kt gk] (hx:dk tm x=some (.gl b)) (hy:dk tm y=some (gk key)) (f:mf hp b (.mp (M.map fun e=>(gk e.1,gv e.2)))) (hz:i.zero=some z) (Ga:zE z=gv Z) (h1:jl (zE z).cells=true) (h:AE M key Z=some v) (qN:gv v.1=av):
 QV P ⟨some d,.lookup t x y true,ty,pos,af,none⟩ ⟨n,tm,hp⟩ (.om [av,.bool v.2]):=by
 intro w S a r
 have kx:=aV (σ:=⟨n,tm,hp⟩) r hx
 have ky:=aV (σ:=⟨n,tm,hp⟩) r hy
 obtain ⟨nb,hb,ex⟩:=kx.ov
 obtain ⟨L,c,M',AH,dJ,p1,p2,p3,p4,p5,p6,p7,p8⟩:=vB (gn.inj P kt) r.hp f
 obtain rfl:AH=nb:=by rw [p4] at hb;exact Option.some.inj hb
 unfold AE at h
 have hv:=Option.some.inj h
 rw [← pt p1 p8] at hv
 have pv:=gn.find (P:=P) (t:=kt) (g:=gk) ky dJ.toList (M'.map Prod.fst) (by simpa using p6.symm) (fun j k' e h1 h2=>by
  rw [List.getElem?_map] at h1
  cases hm:M'[j]? with
  | none=>rw [hm] at h1;cases h1
  | some q=>rw [hm] at h1;rw [← Option.some.inj h1];exact (p7 j q e hm h2).1)
 rcases um (gv:=gv) (w:=w) (S:=S) (k:=key) M' dJ.toList 0 p6.symm (fun j e m h1 h2=>(p7 j e m h1 h2).2) with ⟨q1,q2⟩ | ⟨v',j,val,q1,q2,q3,_⟩
 ·refine ⟨.tuple #[z,.bool false],fun w1 e1=>?_,?_⟩
  ·simp [execOp,Instr.lookup,ex,run_underlying (aA.h (P:=P) (t:=t)),dO (e1.heap p5),gn.check (P:=P) (t:=kt) ky,pv,q2,zeroValue,typeInfo,aN.h (P:=P) (t:=vt),hz]
  ·rw [← qN,← hv,q1]
   refine .om _ _ rfl (vx ?_ (.bool _))
   rw [Option.getD_none,← Ga];exact EZ w S z h1
 ·refine ⟨.tuple #[val,.bool true],fun w1 e1=>?_,?_⟩
  ·simp [execOp,Instr.lookup,ex,run_underlying (aA.h (P:=P) (t:=t)),dO (e1.heap p5),gn.check (P:=P) (t:=kt) ky,pv,q2]
  ·rw [← qN,← hv,q1]
   exact .om _ _ rfl (vx q3 (.bool _))
theorem te {w:World} {S:Nat→Prop} {hp dR:Heap} {b:Bk} {m:Nat} {o o':Ob} {ob KB:Obj} (r:dv w S hp) (u:oW hp b o b o' dR) (hb:b.cF=some m) (ho:w.heap[m]? =some KB) (hf:¬ o.As) (VC:¬ o'.As) (hh:(∀ n,S n→S n∧(xN w m ob).heap[n]? =w.heap[n]?)→Holds (xN w m ob) S b o') (hm:o'.more=[]:=by rfl):
 dv (xN w m ob) S dR∧kP w S hp (xN w m ob) S dR∧∀ n,S n→S n∧(xN w m ob).heap[n]? =w.heap[n]?:=by
 have k1:∀ n,S n→S n∧(xN w m ob).heap[n]? =w.heap[n]?:=fun k hk=>⟨hk,B3 (fun e=>by
  subst e
  exact hf ((r.sep _ u.FN.mem _ (mz hb)).1 hk))⟩
 exact rD r u (NT hb) hf VC (hh k1) (.inl rfl) hm
theorem wM {K V:Type} [DecidableEq K] [vV K] {gk:K→AV} {gv:V→AV} {M:List (K×V)} {key:K} {v:V} {t kt vt:TypeId} {x y z:Operand} {b:Bk} {av:AV} {dR:Heap} [aA P t (.map kt vt)] [gn P kt gk] (hx:dk tm x=some (.gl b)) (hy:dk tm y=some (gk key)) (hz:dk tm z=some av) (qN:av=gv v) (u:oW hp b (.mp (M.map fun e=>(gk e.1,gv e.2))) b (.mp ((kO M key v).map fun e=>(gk e.1,gv e.2))) dR)
 (kk:ae P all rest ⟨n,tm,dR⟩ Q):ae P all (⟨none,.mapUpdate t x y z,ty,pos,af,none⟩ :: rest) ⟨n,tm,hp⟩ Q:=by
 refine ae.act rfl rfl (fun w S a r=>?_) kk
 have kx:=aV (σ:=⟨n,tm,hp⟩) r hx
 have ky:=aV (σ:=⟨n,tm,hp⟩) r hy
 have kz:=aV (σ:=⟨n,tm,hp⟩) r hz
 obtain ⟨nb,hb,ex⟩:=kx.ov
 obtain ⟨L,c,M',AH,dJ,p1,p2,p3,p4,p5,p6,p7,p8⟩:=vB (gn.inj P kt) r.hp u.FN
 obtain rfl:AH=nb:=by rw [p4] at hb;exact Option.some.inj hb
 have pv:=gn.find (P:=P) (t:=kt) (g:=gk) ky dJ.toList (M'.map Prod.fst) (by simpa using p6.symm) (fun j k' e h1 h2=>by
  rw [List.getElem?_map] at h1
  cases hm:M'[j]? with
  | none=>rw [hm] at h1;cases h1
  | some q=>rw [hm] at h1;rw [← Option.some.inj h1];exact (p7 j q e hm h2).1)
 obtain ⟨M8,gS,g1,g2,g3,g4,g5,g6,g7⟩:=p3
 obtain rfl:M8=AH:=by rw [p4] at g1;exact (Option.some.inj g1).symm
 obtain rfl:gS=dJ:=by rw [p5] at g2;exact (Obj.map.inj (Option.some.inj g2)).1.symm
 have Us:L.length=M'.length:=by have:=congrArg List.length p2;simpa using this
 have NU:∀ (j:Nat) (x:jA) (e:K×V),L[j]? =some x→M'[j]? =some e→x.k=gk e.1∧x.v=gv e.2:=by
  intro j x e h1 h2
  have:(L.map jA.kv)[j]? =(M'.map fun e=>(gk e.1,gv e.2))[j]?:=by rw [p2]
  rw [List.getElem?_map,List.getElem?_map,h1,h2] at this
  exact Prod.mk.inj (Option.some.inj this)
 rcases um (gv:=gv) (w:=w) (S:=S) (k:=key) M' gS.toList 0 p6.symm (fun j e m h1 h2=>(p7 j e m h1 h2).2) with ⟨q1,q2⟩ | ⟨v',j,val,q1,q2,q3,q4⟩
 ·
  have hw:=te (ob:=.map (gS.push ⟨a.eval y,a.eval z,c⟩) (c+1)) r.hp u p4 p5 id id (fun k1=>by
   refine ⟨L++[⟨gk key,gv v,c⟩],c+1,?_,M8,gS.push ⟨a.eval y,a.eval z,c⟩,p4,td p5,by simp [g3],?_,?_,?_,?_⟩
   ·rw [List.map_append,p2]
    refine List.Perm.trans ?_ ((rb key v (mQ M key)).symm.map _)
    rw [u9 (by rw [← pt p1 p8];exact q1)]
    exact List.perm_append_comm.trans (List.Perm.cons _ (p1.map _))
   ·intro i e m he hm
    rw [Array.getElem?_push] at hm
    rcases Nat.lt_or_ge i L.length with hi | hi
    ·rw [List.getElem?_append_left hi] at he
     rw [if_neg (by omega)] at hm
     obtain ⟨s1,s2,s3⟩:=g4 i e m he hm
     exact ⟨s1,s2.mono k1,s3.mono k1⟩
    ·have Db:i=L.length:=by
      have:=(List.getElem?_eq_some_iff.1 he).1
      simp at this;omega
     subst Db
     rw [if_pos g3.symm] at hm
     simp at he
     obtain rfl:=Option.some.inj hm
     subst he
     exact ⟨rfl,ky.mono k1,by rw [qN] at kz;exact kz.mono k1⟩
   ·intro e he
    rcases List.mem_append.1 he with h | h
    ·have:=g5 e h;omega
    ·simp at h;subst h;simp
   ·rw [List.map_append,List.nodup_append]
    refine ⟨g6,by simp,fun a1 ha b1 Hm JB=>?_⟩
    simp at Hm
    subst Hm
    obtain ⟨e,he,rfl⟩:=List.mem_map.1 ha
    have:=g5 e he
    omega
   ·rw [List.map_append,List.nodup_append]
    refine ⟨g7,by simp,fun a1 ha b1 Hm JB=>?_⟩
    simp at Hm
    subst Hm
    obtain ⟨e,he,rfl⟩:=List.mem_map.1 ha
    obtain ⟨j,hj⟩:=List.getElem?_of_mem he
    have Hk:j < M'.length:=by rw [← Us];exact (List.getElem?_eq_some_iff.1 hj).1
    have:=(NU j e M'[j] hj (List.getElem?_eq_getElem Hk)).1
    rw [this] at JB
    exact (ps.1 q1) M'[j] (List.getElem_mem Hk) (gn.inj P kt _ _ JB))
  refine ⟨_,S,?_,r.heap hw.2.2 hw.1,hw.2.1⟩
  simp [execOp,Instr.mapUpdate,ex,run_underlying (aA.h (P:=P) (t:=t)),dO p5,gn.check (P:=P) (t:=kt) ky,pv,q2,tA _ p5]
 ·
  have Hk:j < gS.toList.length:=by rw [p6];exact (List.getElem?_eq_some_iff.1 q4).1
  have A8:j < gS.size:=by simpa using Hk
  have V8:gS.toList[j]? =some gS[j]:=by simp [A8]
  have V9:=(p7 j _ _ q4 V8).1
  have LH:Instr.sameBits 10000 gS[j].key (a.eval y)=true:=gn.bits (P:=P) (t:=kt) V9 ky
  have AI:j < L.length:=by omega
  have hw:=te (ob:=.map (gS.modify j fun e=>{e with key:=a.eval y,val:=a.eval z}) c) r.hp u p4 p5 id id (fun k1=>by
   refine ⟨L.set j ⟨gk key,gv v,L[j].born⟩,c,?_,M8,_,p4,td p5,by simp [g3],?_,?_,?_,?_⟩
   ·rw [List.map_set]
    refine List.Perm.trans ?_ ((rb key v (mQ M key)).symm.map _)
    have e1:(L.map jA.kv).set j (gk key,gv v)=(M'.set j (key,v)).map fun e=>(gk e.1,gv e.2):=by rw [p2,List.map_set]
    show ((L.map jA.kv).set j (gk key,gv v)).Perm _
    rw [e1]
    refine List.Perm.map _ ?_
    have Pp:j < M'.length:=by omega
    have e2:M'=M'.take j++(key,v') :: M'.drop (j+1):=by
     have:=List.take_append_drop j M'
     rw [List.drop_eq_getElem_cons Pp] at this
     have hq:M'[j]=(key,v'):=by rw [List.getElem?_eq_getElem Pp] at q4;exact Option.some.inj q4
     rw [hq] at this
     exact this.symm
    have e3:M'.set j (key,v)=M'.take j++(key,v) :: M'.drop (j+1):=by
     rw [List.set_eq_take_append_cons_drop,if_pos Pp]
    rw [e3]
    refine List.perm_middle.trans (List.Perm.cons _ ?_)
    have e4:mQ M' key=M'.take j++M'.drop (j+1):=by
     have Qi:=p8
     rw [e2,List.map_append,List.map_cons,List.nodup_append,List.nodup_cons] at Qi
     unfold mQ
     rw [e2,List.filter_append,List.filter_cons]
     simp only [ne_eq,not_true_eq_false,decide_false,Bool.false_eq_true,if_false]
     rw [← e2]
     congr 1
     ·refine List.filter_eq_self.2 fun e he=>?_
      simp only [decide_not,Bool.not_eq_true',decide_eq_false_iff_not]
      intro hk
      exact Qi.2.2 e.1 (List.mem_map.2 ⟨e,he,rfl⟩) key (by simp) hk
     ·refine List.filter_eq_self.2 fun e he=>?_
      simp only [decide_not,Bool.not_eq_true',decide_eq_false_iff_not]
      intro hk
      exact Qi.2.1.1 (List.mem_map.2 ⟨e,he,hk⟩)
    rw [← e4]
    exact p1.filter _
   ·intro i e m he hm
    rw [Array.getElem?_modify] at hm
    rw [List.getElem?_set] at he
    by_cases yC:j=i
    ·subst yC
     simp only [if_true,AI] at he
     simp only [if_true,Array.getElem?_eq_getElem A8,Option.map_some] at hm
     obtain rfl:=Option.some.inj he
     obtain rfl:=Option.some.inj hm
     refine ⟨(g4 j L[j] gS[j] (List.getElem?_eq_getElem AI) (Array.getElem?_eq_getElem A8)).1,ky.mono k1,by rw [qN] at kz;exact kz.mono k1⟩
    ·rw [if_neg yC] at he hm
     obtain ⟨s1,s2,s3⟩:=g4 i e m he hm
     exact ⟨s1,s2.mono k1,s3.mono k1⟩
   ·intro e he
    rcases List.mem_or_eq_of_mem_set he with h | h
    ·exact g5 e h
    ·subst h;exact g5 L[j] (List.getElem_mem AI)
   ·rw [List.map_set]
    have:(L.map (·.born)).set j L[j].born=L.map (·.born):=by
     exact wL (by rw [List.getElem?_map,List.getElem?_eq_getElem AI];rfl)
    rw [this];exact g6
   ·rw [List.map_set]
    have:(L.map (·.k)).set j (gk key)=L.map (·.k):=by
     have hk:=(NU j L[j] _ (List.getElem?_eq_getElem AI) q4).1
     exact wL (by rw [List.getElem?_map,List.getElem?_eq_getElem AI,Option.map_some,hk])
    rw [this];exact g7)
  refine ⟨_,S,?_,r.heap hw.2.2 hw.1,hw.2.1⟩
  simp [execOp,Instr.mapUpdate,ex,run_underlying (aA.h (P:=P) (t:=t)),dO p5,gn.check (P:=P) (t:=kt) ky,pv,q2,Instr.keyThatStays,A8,LH,tA _ p5]
end rules
def yV (L:List jA) (c:Nat) (seen:List Nat) (rest:List (AV×AV)):Prop:=((L.filter (fun e=>!seen.contains e.born)).map jA.kv).Perm rest
def Ta (L:List jA) (seen:List Nat) (e:AV×AV):Prop:=∃ x∈L,seen.getLast? =some x.born∧x.kv=e
theorem find_born {L:List jA} (hn:(L.map (·.born)).Nodup) {x:jA} (hx:x∈L) {w:World} {S:Nat→Prop} {dJ:Array MapEntry} (hl:dJ.size=L.length) (h:∀ (i:Nat) e m,L[i]? =some e→dJ[i]? =some m→m.born=e.born∧At w S e.k m.key∧At w S e.v m.val):
 ∃ m,dJ.find? (·.born==x.born)=some m∧At w S x.k m.key∧At w S x.v m.val:=by
 obtain ⟨j,hj⟩:=List.getElem?_of_mem hx
 have Hk:j < L.length:=(List.getElem?_eq_some_iff.1 hj).1
 have A8:j < dJ.size:=by omega
 have uW:=h j x dJ[j] hj (Array.getElem?_eq_getElem A8)
 cases hf:dJ.find? (·.born==x.born) with
 | none=>
   rw [Array.find?_eq_none] at hf
   exact absurd (by simpa using uW.1) (hf dJ[j] (Array.getElem_mem A8))
 | some m=>
   have hb:m.born=x.born:=by have:=Array.find?_some hf;simpa using this
   have hm:=Array.mem_of_find?_eq_some hf
   obtain ⟨i,hi,rfl⟩:=Array.getElem_of_mem hm
   have pL:i < L.length:=by omega
   have Qg:=(h i L[i] dJ[i] (List.getElem?_eq_getElem pL) (Array.getElem?_eq_getElem hi)).1
   have yC:i=j:=by
    have e1:(L.map (·.born))[i]? =some x.born:=by rw [List.getElem?_map,List.getElem?_eq_getElem pL,Option.map_some,← Qg,hb]
    have e2:(L.map (·.born))[j]? =some x.born:=by rw [List.getElem?_map,hj];rfl
    exact (List.getElem?_inj (by simpa using pL) hn).1 (e1.trans e2.symm)
   subst yC
   exact ⟨_,rfl,uW.2⟩
theorem Gd {P:Program} {w:World} {r m c:Nat} {seen:Array Nat} {dJ zt:Array MapEntry} {ty:TypeId} (g:w.heap[r]? =some (.mapIter (some m) c seen c)) (p:w.heap[m]? =some (.map dJ c)) (NV:(!seen.isEmpty&&!dJ.isEmpty&&dJ.all (fun e=>decide (e.born≥c)))=false)
 (hl:(dJ.filter fun e=>!seen.contains e.born)=zt) (ho:zt.filter (fun e=>decide (e.born < c))=zt) (hn:zt.filter (fun e=>decide (e.born≥c))=#[]):
 (Instr.next (.pointer (some ⟨r,0,none⟩)) false ty).run P w=((choose (.mapNext ((if zt.isEmpty then #[none] else #[])++(zt++#[]).map some).size)).run P w).andThen fun i w'=>
  (match ((if zt.isEmpty then #[none] else #[])++(zt++#[]).map some)[i]? with
  | some (some e)=>(do setObj r (.mapIter (some m) c (seen.push e.born) c);pure (.tuple #[.bool true,e.key,e.val]):Sem Value)
  | some none=>pure (.tuple #[.bool false])
  | none=>stuck "Next: no such candidate").run P w':=by
 subst hl
 unfold Instr.next
 simp only [Sem.run_bind,AG g,dO p,Result.andThen_ok,NV,ho,hn,Bool.false_eq_true,if_false,Sem.run_pure]
 rfl
section rules
variable {P:Program} {all:Array Oper} {rest:List Oper} {n:Nat} {tm:List (Nat×AV)} {hp:Heap} {Q:St→Prop} {d:Nat} {ty:TypeId} {pos:String} {af:Array Edge}
theorem JH {K V:Type} {gk:K→AV} {gv:V→AV} {M:List (K×V)} {t kt vt:TypeId} {x:Operand} {b:Bk} [aA P t (.map kt vt)] (hx:dk tm x=some (.gl b)) (f:mf hp b (.mp (M.map fun e=>(gk e.1,gv e.2)))):
 QV P ⟨some d,.call {callee:=.builtin .len,args:=#[x],argTypes:=#[t]},ty,pos,af,none⟩ ⟨n,tm,hp⟩ (.int .i64 (M.length:Nat)):=by
 intro w S a r
 obtain ⟨nb,hb,ex⟩:=(aV (σ:=⟨n,tm,hp⟩) r hx).ov
 obtain ⟨L,c,mB,AH,dJ,g1,g2,g3,_⟩:=r.hp.holds _ f.mem
 obtain rfl:AH=nb:=by rw [g1] at hb;exact Option.some.inj hb
 have hl:dJ.size=M.length:=by have:=mB.length_eq;simp at this;omega
 refine ⟨.int .i64 (M.length:Nat),fun w1 e1=>?_,.int _ _⟩
 simp [execOp,ex,resolve,invoke,builtin,Builtin.len_,run_underlying (aA.h (P:=P) (t:=t)),dO (e1.heap g2),goInt,hl]
theorem NW {E:Type} {enc:E→AV×AV} {M:List E} {t kt vt:TypeId} {x:Operand} {b:Bk} {dR:List jA→Nat→Heap} [aA P t (.map kt vt)] (hx:dk tm x=some (.gl b)) (u:∀ L c,oW hp b (.mp (M.map enc)) b (.KA L c) (dR L c)) (hn:Nat.blt d n=true)
 (kk:∀ bi L c,(L.map jA.kv).Perm (M.map enc)→yV L c [] (M.map enc)→ae P all rest ⟨n,(d,.ptr bi 0) :: tm,(bi,.Ji b c []) :: dR L c⟩ Q):ae P all (⟨some d,.range t x,ty,pos,af,none⟩ :: rest) ⟨n,tm,hp⟩ Q:=by
 refine ae.Iq rfl fun w S a r=>?_
 obtain ⟨nb,hb,ex⟩:=(aV (σ:=⟨n,tm,hp⟩) r hx).ov
 have f:=(u [] 0).FN
 obtain ⟨L,c,mB,hH⟩:=r.hp.holds _ f.mem
 have Qh:=hH
 obtain ⟨AH,dJ,g1,g2,g3,_⟩:=hH
 obtain rfl:AH=nb:=by rw [g1] at hb;exact Option.some.inj hb
 obtain ⟨r1,e1,k1⟩:=rD r.hp (u L c) (BA w b.cF) id id Qh (.inl rfl)
 have hh:Holds (w.alloc (.mapIter (some AH) c #[] c)) S ⟨some w.heap.size,0⟩ (.Ji b c []):=⟨w.heap.size,AH,rfl,hb,by show (w.heap.push _)[w.heap.size]? =_;simp⟩
 obtain ⟨r2,e2,k2⟩:=oX r1 (Ext.alloc w (.mapIter (some AH) c #[] c)) id hh (.inr ⟨_,rfl,Nat.le_refl _⟩)
 refine ⟨.pointer (some ⟨w.heap.size,0,none⟩),w.alloc (.mapIter (some AH) c #[] c),S,_,?_,(r.heap k2 r2).put hn (.ptr _ _ _ rfl),e1.trans e2,kk ⟨some w.heap.size,0⟩ L c mB ?_⟩
 ·simp [execOp,Instr.range,ex,run_underlying (aA.h (P:=P) (t:=t)),dO g2]
 ·unfold yV
  have e:L.filter (fun e=>!([]:List Nat).contains e.born)=L:=List.filter_eq_self.2 (fun _ _=>by simp)
  rw [e];exact mB
theorem NX {L:List jA} {c:Nat} {seen:List Nat} {x:Operand} {bi bm:Bk} {e:AV×AV} {k v:AV} (hx:dk tm x=some (.ptr bi 0)) (fi:mf hp bi (.Ji bm c seen)) (fm:mf hp bm (.KA L c)) (hc:Ta L seen e) (hk:e.1=k) (hv:e.2=v):
 QV P ⟨some d,.entry x,ty,pos,af,none⟩ ⟨n,tm,hp⟩ (.om [k,v]):=by
 intro w S a r
 obtain ⟨ni,hi,ex⟩:=(aV (σ:=⟨n,tm,hp⟩) r hx).pF
 obtain ⟨Qj,nm,g1,g2,g3⟩:=r.hp.holds _ fi.mem
 obtain rfl:Qj=ni:=by rw [g1] at hi;exact Option.some.inj hi
 obtain ⟨Pq,dJ,p1,p2,p3,p4,p5,p6,_⟩:=r.hp.holds _ fm.mem
 obtain rfl:Pq=nm:=by rw [p1] at g2;exact Option.some.inj g2
 obtain ⟨y,hy,hs,Ut⟩:=hc
 obtain ⟨m,m1,m2,m3⟩:=find_born p6 hy p3 p4
 have hbk:seen.toArray.back? =some y.born:=by rw [← hs];simp [List.getLast?_eq_getElem?,Array.back?]
 subst Ut
 refine ⟨.tuple #[m.key,m.val],fun w1 e1=>?_,?_⟩
 ·simp [execOp,Instr.entry,ex,AG (e1.heap g3),dO (e1.heap p2),hbk,m1]
 ·rw [← hk,← hv];exact .om _ _ rfl (vx m2 m3)
theorem Qk {E:Type} {enc:E→AV×AV} {R:List E} {L:List jA} {c:Nat} {seen:List Nat} {x:Operand} {bi bm:Bk} {dR:List Nat→Heap} (hx:dk tm x=some (.ptr bi 0)) (hI:yV L c seen (R.map enc)) (fm:mf hp bm (.KA L c)) (u:∀ s,oW hp bi (.Ji bm c seen) bi (.Ji bm c s) (dR s)) (hn:Nat.blt d n=true)
 (k0:R=[]→ae P all rest ⟨n,(d,.om [.bool false]) :: tm,hp⟩ Q)
 (k1:∀ e R' s,R.Perm (e :: R')→R'.length < R.length→yV L c s (R'.map enc)→Ta L s (enc e)→ae P all rest ⟨n,(d,.om [.bool true,(enc e).1,(enc e).2]) :: tm,dR s⟩ Q):ae P all (⟨some d,.next x false,ty,pos,af,none⟩ :: rest) ⟨n,tm,hp⟩ Q:=by
 refine ae.Iq rfl fun w S a r=>?_
 obtain ⟨ni,hi,ex⟩:=(aV (σ:=⟨n,tm,hp⟩) r hx).pF
 obtain ⟨Qj,nm,g1,g2,g3⟩:=r.hp.holds _ (u []).FN.mem
 obtain rfl:Qj=ni:=by rw [g1] at hi;exact Option.some.inj hi
 obtain ⟨Pq,dJ,p1,p2,p3,p4,p5,p6,_⟩:=r.hp.holds _ fm.mem
 obtain rfl:Pq=nm:=by rw [p1] at g2;exact Option.some.inj g2
 have B4:∀ m∈dJ,m.born < c:=by
  intro m hm
  obtain ⟨i,hi,rfl⟩:=Array.getElem_of_mem hm
  have pL:i < L.length:=by omega
  have:=(p4 i L[i] dJ[i] (List.getElem?_eq_getElem pL) (Array.getElem?_eq_getElem hi)).1
  rw [this];exact p5 _ (List.getElem_mem pL)
 have NV:(!seen.toArray.isEmpty&&!dJ.isEmpty&&dJ.all (fun e=>decide (e.born≥c)))=false:=by
  by_cases h0:dJ.isEmpty=true
  ·simp [h0]
  ·have h1:0 < dJ.size:=by
    have:dJ.size≠0:=by simpa [Array.isEmpty] using h0
    omega
   have:dJ.all (fun e=>decide (e.born≥c))=false:=by
    rw [Bool.eq_false_iff]
    intro od
    rw [Array.all_eq_true] at od
    have:=od 0 h1
    have hb:=B4 dJ[0] (Array.getElem_mem h1)
    simp at this;omega
   simp [this]
 have hold:(dJ.filter fun e=>!seen.toArray.contains e.born).filter (fun e=>decide (e.born < c))=dJ.filter fun e=>!seen.toArray.contains e.born:=by
  rw [Array.filter_eq_self]
  intro m hm
  simpa using B4 m (Array.mem_filter.1 hm).1
 have De:(dJ.filter fun e=>!seen.toArray.contains e.born).filter (fun e=>decide (e.born≥c))=#[]:=by
  rw [Array.filter_eq_empty_iff]
  intro m hm
  have:=B4 m (Array.mem_filter.1 hm).1
  simp;omega
 generalize NY:(dJ.filter fun e=>!seen.toArray.contains e.born)=zt at hold De
 have wC:∀ m∈zt,∃ y∈L,(seen.contains y.born=false)∧m.born=y.born∧At w S y.k m.key∧At w S y.v m.val:=by
  intro m hm
  rw [← NY] at hm
  obtain ⟨h1,h2⟩:=Array.mem_filter.1 hm
  obtain ⟨i,hi,rfl⟩:=Array.getElem_of_mem h1
  have pL:i < L.length:=by omega
  have hh:=p4 i L[i] dJ[i] (List.getElem?_eq_getElem pL) (Array.getElem?_eq_getElem hi)
  refine ⟨L[i],List.getElem_mem pL,?_,hh⟩
  rw [← hh.1];simpa using h2
 have hex:∀ y∈L,seen.contains y.born=false→∃ m,m∈zt:=by
  intro y hy hs
  obtain ⟨j,hj⟩:=List.getElem?_of_mem hy
  have Hk:j < L.length:=(List.getElem?_eq_some_iff.1 hj).1
  have A8:j < dJ.size:=by omega
  refine ⟨dJ[j],?_⟩
  rw [← NY,Array.mem_filter]
  refine ⟨Array.getElem_mem A8,?_⟩
  rw [(p4 j y dJ[j] hj (Array.getElem?_eq_getElem A8)).1]
  simpa using hs
 by_cases hz:zt.size=0
 ·
  have hR:R=[]:=by
   cases R with
   | nil=>rfl
   | cons e R'=>
     unfold yV at hI
     have hm:enc e∈(L.filter (fun e=>!seen.contains e.born)).map jA.kv:=hI.mem_iff.2 (by simp)
     obtain ⟨y,hy,_⟩:=List.mem_map.1 hm
     obtain ⟨hy1,hy2⟩:=List.mem_filter.1 hy
     obtain ⟨m,hm⟩:=hex y hy1 (by simpa using hy2)
     obtain ⟨i,hi,_⟩:=Array.getElem_of_mem hm
     omega
  obtain rfl:zt=#[]:=Array.eq_empty_of_size_eq_zero hz
  refine ⟨.tuple #[.bool false],w,S,_,?_,r.put hn (.om _ _ rfl ?_),kP.refl _ _ _,k0 hR⟩
  ·have LI:(Instr.next (a.eval x) false ty).run P w=.ok (.tuple #[.bool false]) w:=by
    rw [ex,Gd (P:=P) (ty:=ty) g3 p2 NV NY hold De]
    simp [run_choose,Question.forced]
   simp [execOp,LI]
  ·intro i c' v h1 h2
   cases i with
   | zero=>simp at h1 h2;subst h1;subst h2;exact .bool _
   | succ i=>simp at h1
 ·obtain ⟨i,w1,hch,pL,hE⟩:∃ i w1,(choose (.mapNext zt.size)).run P w=.ok i w1∧i < zt.size∧(w1=w∨w1=w.drew):=by
   by_cases hf:(Question.mapNext zt.size).forced=true
   ·refine ⟨0,w,?_,by omega,.inl rfl⟩
    rw [run_choose,if_pos hf]
   ·have hc:=run_choose P w (Question.mapNext zt.size)
    rw [if_neg hf] at hc
    exact ⟨_,w.drew,hc,Nat.mod_lt _ (by omega:0 < zt.size),.inr rfl⟩
  have ext:Ext w w1:=by
   rcases hE with rfl | rfl
   ·exact Ext.refl _
   ·exact Ext.FI w (w.drawn+1) (Nat.le_succ _)
  obtain ⟨y,hy,XM,hb,hk,hv⟩:=wC zt[i] (Array.getElem_mem pL)
  have xZ:∀ z∈L,z.born=y.born→z=y:=by
   intro z hz hzb
   obtain ⟨i1,h1⟩:=List.getElem?_of_mem hz
   obtain ⟨i2,h2⟩:=List.getElem?_of_mem hy
   have Wa:i1 < L.length:=(List.getElem?_eq_some_iff.1 h1).1
   have:i1=i2:=(List.getElem?_inj (by simpa using Wa) p6).1 (by rw [List.getElem?_map,List.getElem?_map,h1,h2,Option.map_some,Option.map_some,hzb])
   subst this
   rw [h1] at h2;exact Option.some.inj h2
  unfold yV at hI
  have hyR:y.kv∈R.map enc:=hI.mem_iff.1 (List.mem_map.2 ⟨y,List.mem_filter.2 ⟨hy,by simpa using XM⟩,rfl⟩)
  obtain ⟨pre,post,Pj⟩:=List.append_of_mem (List.mem_filter.2 ⟨hy,(by simpa using XM:(!seen.contains y.born)=true)⟩:y∈L.filter (fun e=>!seen.contains e.born))
  have Wb:L.filter (fun e=>!(seen++[y.born]).contains e.born)=pre++post:=by
   have e1:L.filter (fun e=>!(seen++[y.born]).contains e.born)=(L.filter (fun e=>!seen.contains e.born)).filter (fun e=>decide (e.born≠y.born)):=by
    rw [List.filter_filter]
    apply List.filter_congr
    intro e he
    simp only [List.contains_eq_mem,List.mem_append,List.mem_singleton,ne_eq,decide_not]
    by_cases q1:e.born∈seen<;>by_cases q2:e.born=y.born<;>simp [q1,q2]
   have Ql:((L.filter (fun e=>!seen.contains e.born)).map (·.born)).Nodup:=p6.sublist ((List.filter_sublist).map _)
   rw [Pj,List.map_append,List.map_cons,List.nodup_append,List.nodup_cons] at Ql
   rw [e1,Pj,List.filter_append,List.filter_cons]
   simp only [ne_eq,not_true_eq_false,decide_false,Bool.false_eq_true,if_false]
   congr 1
   ·refine List.filter_eq_self.2 fun e he=>?_
    simp only [decide_not,Bool.not_eq_true',decide_eq_false_iff_not]
    intro hk
    exact Ql.2.2 e.born (List.mem_map.2 ⟨e,he,rfl⟩) y.born (by simp) hk
   ·refine List.filter_eq_self.2 fun e he=>?_
    simp only [decide_not,Bool.not_eq_true',decide_eq_false_iff_not]
    intro hk
    exact Ql.2.1.1 (List.mem_map.2 ⟨e,he,hk⟩)
  have hP:(y.kv :: (pre++post).map jA.kv).Perm (R.map enc):=by
   refine List.Perm.trans ?_ hI
   rw [Pj]
   simp only [List.map_append,List.map_cons]
   exact List.perm_middle.symm
  obtain ⟨R2,XN,Tb⟩:=sT enc _ _ hP
  cases R2 with
  | nil=>simp at Tb
  | cons e R'=>
    obtain ⟨PQ,Jk⟩:=List.cons.inj (by simpa using Tb)
    have Uu:w1.heap[Qj]? =some (.mapIter (some Pq) c seen.toArray c):=ext.heap g3
    have hIt:yV L c (seen++[y.born]) (R'.map enc):=by unfold yV;rw [Wb,← Jk];simp
    have r1:=r.ext ext
    have hw:=te (ob:=.mapIter (some Pq) c (seen++[y.born]).toArray c) r1.hp (u (seen++[y.born])) g1 Uu id id (fun k1=>⟨Qj,Pq,g1,g2,td Uu⟩)
    have Wc:kP w S hp w1 S hp:=kP.ext (fun n hn=>r.hp.slt n hn) ext
    refine ⟨.tuple #[.bool true,zt[i].key,zt[i].val],xN w1 Qj (.mapIter (some Pq) c (seen++[y.born]).toArray c),S,_,?_,(r1.heap hw.2.2 hw.1).put hn (.om _ _ rfl (Jl (.bool _) ?_ ?_)),Wc.trans hw.2.1,k1 e R' (seen++[y.born]) XN.symm (by have:=XN.length_eq;simp at this;omega) hIt ⟨y,hy,by simp,PQ⟩⟩
    ·have hlz:zt.isEmpty=false:=by
      have:zt.size≠0:=hz
      simpa [Array.isEmpty] using this
     have LI:(Instr.next (a.eval x) false ty).run P w=.ok (.tuple #[.bool true,zt[i].key,zt[i].val]) (xN w1 Qj (.mapIter (some Pq) c (seen++[y.born]).toArray c)):=by
      rw [ex,Gd (P:=P) (ty:=ty) g3 p2 NV NY hold De]
      have kM:((if zt.isEmpty=true then #[none] else #[])++(zt++#[]).map some)=zt.map some:=by simp [hlz]
      rw [kM,Array.size_map,hch]
      simp [pL,hb,Gc _ Uu]
     simp [execOp,LI]
    ·rw [← PQ]
     exact (hk.mono (fun n hn=>⟨hn,ext.same n (r.hp.slt n hn)⟩)).mono hw.2.2
    ·rw [← PQ]
     exact (hv.mono (fun n hn=>⟨hn,ext.same n (r.hp.slt n hn)⟩)).mono hw.2.2
end rules
theorem ai.Qm {n:Nat} {tm:List (Nat×AV)} {hp dR:Heap} {T:St→Prop} {b:Bk} {L:List jA} {c:Nat} {es:List (AV×AV)} (hL:(L.map jA.kv).Perm es) (u:oW hp b (.KA L c) b (.mp es) dR) (k:ai ⟨n,tm,dR⟩ T):ai ⟨n,tm,hp⟩ T:=by
 refine ai.step (yI:=⟨n,tm,dR⟩) (fun w S a r=>?_) k
 have hH:uJ w S b L c:=r.hp.holds _ u.FN.mem
 obtain ⟨r1,e1,k1⟩:=rD r.hp u (BA w b.cF) id id ⟨L,c,hL,hH⟩ (.inl rfl)
 exact ⟨_,S,rfl,r.heap k1 r1,e1⟩
theorem au {α β:Type} {o:Option α} {f:α→Option β} {r:β} {C:Prop} (h:o.bind f=some r) (k:∀ v,o=some v→f v=some r→C):C:=
 let ⟨v,h1,h2⟩:=SP h;k v h1 h2
def D9:Heap→Nat→Option ((Bk×Ob)×Heap)
 | [],_=>none
 | e :: h,0=>some (e,h)
 | e :: h,i+1=>match D9 h i with
   | some (x,h')=>some (x,e :: h')
   | none=>none
def B5:Heap→List Nat→Option Heap
 | _,[]=>some []
 | h,i :: r=>match D9 h i with
   | some (e,h')=>match B5 h' r with
     | some t=>some (e :: t)
     | none=>none
   | none=>none
theorem Ea:∀ {h:Heap} {i:Nat} {e:Bk×Ob} {h':Heap},D9 h i=some (e,h')→xK h e.1 e.2 h'
 | [],_,_,_,hh=>by simp [D9] at hh
 | x :: h,0,e,h',hh=>by
   simp only [D9,Option.some.injEq,Prod.mk.injEq] at hh
   obtain ⟨rfl,rfl⟩:=hh
   exact .here
 | x :: h,i+1,e,h',hh=>by
   simp only [D9] at hh
   split at hh
   ·rename_i y h1 h2
    simp only [Option.some.injEq,Prod.mk.injEq] at hh
    obtain ⟨rfl,rfl⟩:=hh
    exact .next (Ea h2)
   ·cases hh
theorem yW:∀ {l:List Nat} {h t:Heap},B5 h l=some t→HS h t
 | [],h,t,hh=>by
   simp only [B5,Option.some.injEq] at hh
   subst hh;exact .nil
 | i :: r,h,t,hh=>by
   simp only [B5] at hh
   split at hh
   ·rename_i e h' h1
    split at hh
    ·rename_i t' h2
     obtain rfl:=Option.some.inj hh
     exact .cons (Ea h1) (yW h2)
    ·cases hh
   ·cases hh
def LJ (tm:List (Nat×AV)):List Nat→Option (List (Nat×AV))
 | []=>some []
 | s :: r=>match lk tm s with
   | some av=>match LJ tm r with
     | some l=>some ((s,av) :: l)
     | none=>none
   | none=>none
theorem Ge {tm:List (Nat×AV)}:∀ {l:List Nat} {qP:List (Nat×AV)},LJ tm l=some qP→DX tm qP
 | [],qP,h=>by
   simp only [LJ,Option.some.injEq] at h
   subst h;exact True.intro
 | s :: r,qP,h=>by
   simp only [LJ] at h
   split at h
   ·rename_i av h1
    split at h
    ·rename_i t' h2
     obtain rfl:=Option.some.inj h
     exact ⟨h1,Ge h2⟩
    ·cases h
   ·cases h
theorem ai.lq {n:Nat} {tm qP:List (Nat×AV)} {hp dR:Heap} {T:St→Prop} (is:List Nat) (h:T ⟨n,qP,dR⟩) (ht:LJ tm (qP.map Prod.fst)=some qP) (hs:B5 hp is=some dR):ai ⟨n,tm,hp⟩ T:=
 ai.SI (Ge ht) (yW hs) (ai.here h)
theorem mf.p0 {b:Bk} {o:Ob} {h:Heap}:mf ((b,o) :: h) b o:=.here
theorem oW.p0 {b b':Bk} {o o':Ob} {h:Heap}:oW ((b,o) :: h) b o b' o' ((b',o') :: h):=.here
theorem xK.p0 {b:Bk} {o:Ob} {h:Heap}:xK ((b,o) :: h) b o (h):=.here
theorem mf.p1 {e0:Bk×Ob} {b:Bk} {o:Ob} {h:Heap}:mf (e0 :: (b,o) :: h) b o:=.next .p0
theorem oW.p1 {e0:Bk×Ob} {b b':Bk} {o o':Ob} {h:Heap}:oW (e0 :: (b,o) :: h) b o b' o' (e0 :: (b',o') :: h):=.next .p0
theorem xK.p1 {e0:Bk×Ob} {b:Bk} {o:Ob} {h:Heap}:xK (e0 :: (b,o) :: h) b o (e0 :: h):=.next .p0
theorem mf.p2 {e0:Bk×Ob} {e1:Bk×Ob} {b:Bk} {o:Ob} {h:Heap}:mf (e0 :: e1 :: (b,o) :: h) b o:=.next .p1
theorem oW.p2 {e0:Bk×Ob} {e1:Bk×Ob} {b b':Bk} {o o':Ob} {h:Heap}:oW (e0 :: e1 :: (b,o) :: h) b o b' o' (e0 :: e1 :: (b',o') :: h):=.next .p1
theorem xK.p2 {e0:Bk×Ob} {e1:Bk×Ob} {b:Bk} {o:Ob} {h:Heap}:xK (e0 :: e1 :: (b,o) :: h) b o (e0 :: e1 :: h):=.next .p1
theorem mf.p3 {e0:Bk×Ob} {e1:Bk×Ob} {e2:Bk×Ob} {b:Bk} {o:Ob} {h:Heap}:mf (e0 :: e1 :: e2 :: (b,o) :: h) b o:=.next .p2
theorem oW.p3 {e0:Bk×Ob} {e1:Bk×Ob} {e2:Bk×Ob} {b b':Bk} {o o':Ob} {h:Heap}:oW (e0 :: e1 :: e2 :: (b,o) :: h) b o b' o' (e0 :: e1 :: e2 :: (b',o') :: h):=.next .p2
theorem xK.p3 {e0:Bk×Ob} {e1:Bk×Ob} {e2:Bk×Ob} {b:Bk} {o:Ob} {h:Heap}:xK (e0 :: e1 :: e2 :: (b,o) :: h) b o (e0 :: e1 :: e2 :: h):=.next .p2
theorem mf.p4 {e0:Bk×Ob} {e1:Bk×Ob} {e2:Bk×Ob} {e3:Bk×Ob} {b:Bk} {o:Ob} {h:Heap}:mf (e0 :: e1 :: e2 :: e3 :: (b,o) :: h) b o:=.next .p3
theorem oW.p4 {e0:Bk×Ob} {e1:Bk×Ob} {e2:Bk×Ob} {e3:Bk×Ob} {b b':Bk} {o o':Ob} {h:Heap}:oW (e0 :: e1 :: e2 :: e3 :: (b,o) :: h) b o b' o' (e0 :: e1 :: e2 :: e3 :: (b',o') :: h):=.next .p3
theorem xK.p4 {e0:Bk×Ob} {e1:Bk×Ob} {e2:Bk×Ob} {e3:Bk×Ob} {b:Bk} {o:Ob} {h:Heap}:xK (e0 :: e1 :: e2 :: e3 :: (b,o) :: h) b o (e0 :: e1 :: e2 :: e3 :: h):=.next .p3
theorem mf.p5 {e0:Bk×Ob} {e1:Bk×Ob} {e2:Bk×Ob} {e3:Bk×Ob} {e4:Bk×Ob} {b:Bk} {o:Ob} {h:Heap}:mf (e0 :: e1 :: e2 :: e3 :: e4 :: (b,o) :: h) b o:=.next .p4
theorem oW.p5 {e0:Bk×Ob} {e1:Bk×Ob} {e2:Bk×Ob} {e3:Bk×Ob} {e4:Bk×Ob} {b b':Bk} {o o':Ob} {h:Heap}:oW (e0 :: e1 :: e2 :: e3 :: e4 :: (b,o) :: h) b o b' o' (e0 :: e1 :: e2 :: e3 :: e4 :: (b',o') :: h):=.next .p4
theorem xK.p5 {e0:Bk×Ob} {e1:Bk×Ob} {e2:Bk×Ob} {e3:Bk×Ob} {e4:Bk×Ob} {b:Bk} {o:Ob} {h:Heap}:xK (e0 :: e1 :: e2 :: e3 :: e4 :: (b,o) :: h) b o (e0 :: e1 :: e2 :: e3 :: e4 :: h):=.next .p4
theorem mf.p6 {e0:Bk×Ob} {e1:Bk×Ob} {e2:Bk×Ob} {e3:Bk×Ob} {e4:Bk×Ob} {e5:Bk×Ob} {b:Bk} {o:Ob} {h:Heap}:mf (e0 :: e1 :: e2 :: e3 :: e4 :: e5 :: (b,o) :: h) b o:=.next .p5
theorem oW.p6 {e0:Bk×Ob} {e1:Bk×Ob} {e2:Bk×Ob} {e3:Bk×Ob} {e4:Bk×Ob} {e5:Bk×Ob} {b b':Bk} {o o':Ob} {h:Heap}:oW (e0 :: e1 :: e2 :: e3 :: e4 :: e5 :: (b,o) :: h) b o b' o' (e0 :: e1 :: e2 :: e3 :: e4 :: e5 :: (b',o') :: h):=.next .p5
theorem xK.p6 {e0:Bk×Ob} {e1:Bk×Ob} {e2:Bk×Ob} {e3:Bk×Ob} {e4:Bk×Ob} {e5:Bk×Ob} {b:Bk} {o:Ob} {h:Heap}:xK (e0 :: e1 :: e2 :: e3 :: e4 :: e5 :: (b,o) :: h) b o (e0 :: e1 :: e2 :: e3 :: e4 :: e5 :: h):=.next .p5
theorem mf.p7 {e0:Bk×Ob} {e1:Bk×Ob} {e2:Bk×Ob} {e3:Bk×Ob} {e4:Bk×Ob} {e5:Bk×Ob} {e6:Bk×Ob} {b:Bk} {o:Ob} {h:Heap}:mf (e0 :: e1 :: e2 :: e3 :: e4 :: e5 :: e6 :: (b,o) :: h) b o:=.next .p6
theorem oW.p7 {e0:Bk×Ob} {e1:Bk×Ob} {e2:Bk×Ob} {e3:Bk×Ob} {e4:Bk×Ob} {e5:Bk×Ob} {e6:Bk×Ob} {b b':Bk} {o o':Ob} {h:Heap}:oW (e0 :: e1 :: e2 :: e3 :: e4 :: e5 :: e6 :: (b,o) :: h) b o b' o' (e0 :: e1 :: e2 :: e3 :: e4 :: e5 :: e6 :: (b',o') :: h):=.next .p6
theorem xK.p7 {e0:Bk×Ob} {e1:Bk×Ob} {e2:Bk×Ob} {e3:Bk×Ob} {e4:Bk×Ob} {e5:Bk×Ob} {e6:Bk×Ob} {b:Bk} {o:Ob} {h:Heap}:xK (e0 :: e1 :: e2 :: e3 :: e4 :: e5 :: e6 :: (b,o) :: h) b o (e0 :: e1 :: e2 :: e3 :: e4 :: e5 :: e6 :: h):=.next .p6
section rules
variable {P:Program} {all:Array Oper} {rest:List Oper} {n:Nat} {tm:List (Nat×AV)} {hp:Heap} {Q:St→Prop} {d:Nat} {ty:TypeId} {pos:String} {af:Array Edge}
theorem rM {x:Operand} {av:AV} (hx:dk tm x=some av) (hn:Nat.blt d n=true) (k:ae P all rest ⟨n,(d,av) :: tm,hp⟩ Q):ae P all (⟨some d,.move x,ty,pos,af,none⟩ :: rest) ⟨n,tm,hp⟩ Q:=ae.qv (aQ hx) hn k
theorem rA {x:Operand} {av:AV} (hx:dk tm x=some av) (hn:Nat.blt d n=true) (k:ae P all rest ⟨n,(d,av) :: tm,hp⟩ Q):ae P all (⟨some d,.assign x,ty,pos,af,none⟩ :: rest) ⟨n,tm,hp⟩ Q:=ae.qv (bI hx) hn k
theorem rF {x:Operand} {s:TypeId} {j off:Nat} {b:Bk} {o o':Nat} [oY P s j off] (hx:dk tm x=some (.ptr b o)) (ho:o+off=o') (hn:Nat.blt d n=true) (k:ae P all rest ⟨n,(d,.ptr b o') :: tm,hp⟩ Q):ae P all (⟨some d,.fieldAddr s x j,ty,pos,af,none⟩ :: rest) ⟨n,tm,hp⟩ Q:=ae.qv (az hx ho) hn k
theorem rL {t:TypeId} {D:TypeDesc} {x:Operand} {b:Bk} {o:Nat} {cs:List AV} {av:AV} [aA P t D] (hD:TypeDesc.lv D=false) (hx:dk tm x=some (.ptr b o)) (f:mf hp b (.cells cs)) (ho:cs[o]? =some av) (hn:Nat.blt d n=true) (k:ae P all rest ⟨n,(d,av) :: tm,hp⟩ Q):ae P all (⟨some d,.load t x,ty,pos,af,none⟩ :: rest) ⟨n,tm,hp⟩ Q:=ae.qv (aI hD hx f ho) hn k
theorem rT {c x y:Operand} {av:AV} (hc:dk tm c=some (.bool true)) (hx:dk tm x=some av) (hn:Nat.blt d n=true) (k:ae P all rest ⟨n,(d,av) :: tm,hp⟩ Q):ae P all (⟨some d,.pick c x y,ty,pos,af,none⟩ :: rest) ⟨n,tm,hp⟩ Q:=ae.qv (kS hc hx) hn k
theorem rE {c x y:Operand} {av:AV} (hc:dk tm c=some (.bool false)) (hx:dk tm y=some av) (hn:Nat.blt d n=true) (k:ae P all rest ⟨n,(d,av) :: tm,hp⟩ Q):ae P all (⟨some d,.pick c x y,ty,pos,af,none⟩ :: rest) ⟨n,tm,hp⟩ Q:=ae.qv (kT hc hx) hn k
theorem rX {x:Operand} {i:Nat} {vs:List AV} {av:AV} (hx:dk tm x=some (.om vs)) (hi:vs[i]? =some av) (hn:Nat.blt d n=true) (k:ae P all rest ⟨n,(d,av) :: tm,hp⟩ Q):ae P all (⟨some d,.extract x i,ty,pos,af,none⟩ :: rest) ⟨n,tm,hp⟩ Q:=ae.qv (uX hx hi) hn k
theorem rN (h:Q ⟨n,tm,hp⟩):ae P all [] ⟨n,tm,hp⟩ Q:=ae.nil h
theorem rG {op:Op} {j:Nat} {want b:Bool} {s:Nat} (hj:(all[j]?).bind (·.dst)=some s) (hs:lk tm s=some (.bool b)) (hb:b=!want) (hn:Nat.blt d n=true) (k:ae P all rest ⟨n,(d,.raw undef) :: tm,hp⟩ Q):ae P all (⟨some d,op,ty,pos,af,some (j,want)⟩ :: rest) ⟨n,tm,hp⟩ Q:=ae.ay hj hs hb hn k
theorem rY {op:Op} {j:Nat} {want b:Bool} {s:Nat} (hj:(all[j]?).bind (·.dst)=some s) (hs:lk tm s=some (.bool b)) (hb:b=want) (k:ae P all (⟨some d,op,ty,pos,af,none⟩ :: rest) ⟨n,tm,hp⟩ Q):ae P all (⟨some d,op,ty,pos,af,some (j,want)⟩ :: rest) ⟨n,tm,hp⟩ Q:=ae.ar hj hs hb k
end rules
section rules
variable {P:Program} {R:St→Prop} {k:List It} {σ:St}
theorem tS {x y:Code} (h:ab P R (.code x :: .code y :: k) σ):ab P R (.code (.seq x y) :: k) σ:=ab.seq h
theorem tR {id:Nat} {l:List Oper} (h:ae P l.toArray l σ (ab P R k)):ab P R (.code (.region id l.toArray false) :: k) σ:=ab.region h
theorem ax {id:Nat} {l:List Oper} {y:Code} (h:ae P l.toArray l σ (ab P R (.code y :: k))):ab P R (.code (.seq (.region id l.toArray false) y) :: k) σ:=ab.seq (ab.region h)
theorem tK (h:ab P R k σ):ab P R (.code .skip :: k) σ:=ab.skip h
end rules
end Go.Eng
