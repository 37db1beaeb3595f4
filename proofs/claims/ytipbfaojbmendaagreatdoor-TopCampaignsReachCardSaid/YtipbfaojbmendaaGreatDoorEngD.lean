/- The engine: abstract values, the symbolic heap, one rule for each operation. No program in sight. -/
import Derived.Test.YtipbfaojbmendaaGreatDoorEngC
import Derived.Laws.BytesArg
import Derived.Shelf.SlSortCmp.NoneTotal
open Array renaming range→al,getElem?_eq_getElem→bi,getElem?_eq_some_iff→bX,getElem?_modify→b5,getElem?_eq_none→b6,getElem?_append_left→b7,getElem?_append_right→c8,length_toList→dl,getElem?_toList→dn,size_range→ds,getElem?_setIfInBounds→d3
open Bool renaming false_eq_true→b4,eq_iff_iff→cl,not_eq_true'→d9
open Classical renaming propDecidable→cU
open List renaming getElem?_map→ai,mem_map→aw,getElem?_eq_getElem→aL,getElem?_eq_some_iff→aS,replicate→a6,mem_singleton→a8,mem_of_getElem?→be,Perm.refl→bk,map_append→bm,map_cons→bp,mem_flatMap→bu,nodup_append→bv,mem_append→bx,Perm.cons→bP,map_set→bU,getElem_mem→b8,mem_cons→ca,perm_middle→ce,filter_eq_self→ci,ext_getElem?→cn,length_map→cp,getElem?_append_left→cz,eq_of_mem_replicate→cH,getD_eq_getElem?_getD→c7,length_cons→dd,flatMap_append→d1,nodup_cons→d2,length→d4,getElem?_set→d6,Perm.trans→d8
open Nat renaming blt→ac,le_refl→a7,lt_or_ge→bz,lt_of_lt_of_le→bG,le_of_ble_eq_true→bW,mod_lt→b3,lt_of_succ_le→cA,mul_le_mul_right→dg,div_lt_iff_lt_mul→dy,div_add_mod'→d0
open Option renaming some.inj→aa,some.injEq→bo,map_some→b9,bind_some→cy,getD_none→d7
open Prod renaming fst→ap,mk.inj→d5,mk.injEq→ea
set_option linter.unusedVariables false
set_option linter.unusedSectionVars false
namespace Go.Eng
open Go
variable [ck]
def MW (l:List Int):bq:=l.map (fun n=>UInt8.ofNat n.toNat)
theorem JR:∀ l:List Int,flat (l.map (AV.int .u8))=l.map (AV.int .u8)
 | []=>rfl
 | x :: l=>by
   show (AV.int .u8 x).cells++flat (l.map (AV.int .u8))=_
   rw [JR l];rfl
section rules
variable {P:Program} {all:Array Oper} {rest:List Oper} {n:Nat} {tm:List (Nat×AV)} {hp:Heap} {Q:St→Prop} {d:Nat} {ty:TypeId} {pos:String} {af:Array Edge}
theorem La {src dst e:TypeId} {x:Operand} {av:AV} {l:List Int} [aF P src (.slice e)] [aF P e (.int .u8)] [aF P dst .string] (hx:dh tm x=some av) (co:ku hp av (.list 1 (l.map (AV.int .u8)))):QV P ⟨some d,.convert src dst x,ty,pos,af,none⟩ ⟨n,tm,hp⟩ (.str (MW l)):=by
 intro w S a r
 obtain ⟨v,hv,pX⟩:∃ v,a.eval x=v∧At w S av v:=⟨_,rfl,bt (σ:=⟨n,tm,hp⟩) r hx⟩
 obtain ⟨oa,cap,vs,e1,e2,e3,e4,e5,e6⟩:=(co.at r.hp pX).wb
 rw [JR] at e3 e4
 have Pa:vs=l.map (Value.int .u8):=by
  apply cn
  intro i
  rcases bz i vs.length with h | h
  ·have hl:i < l.length:=by simpa [← e3] using h
   have:=e4 i (.int .u8 l[i]) vs[i] (by simp [hl]) (by simp [h])
   have:=this.ez
   simp [h,hl,this]
  ·have hl:l.length≤i:=by simpa [← e3] using h
   simp [h,hl]
 refine ⟨.string ⟨(MW l).toArray⟩,fun w1 ex=>?_,.str _⟩
 have VG:(convert src dst (.slice oa l.length cap)).run P w1=.ok (.string ⟨(MW l).toArray⟩) w1:=by
  cases l with
  | nil=>
    cases oa with
    | none=>rw [run_convert_bytes_nil w1 src e aF.h aF.h _ _ dst aF.h];rfl
    | some ad=>
      obtain ⟨b,off,sp⟩:=ad
      rw [run_convert_bytes_string w1 src dst e _ _ _ aF.h aF.h aF.h]
      simp [Conv.bytesToString,loadCells,loadCellsFrom,MW]
      rfl
  | cons y l=>
    obtain ⟨ad,h1,h2,h3,h4⟩:=e5 0 (.int .u8 y) (by rw [Pa];rfl)
    obtain ⟨b,off,sp⟩:=ad
    obtain rfl:sp=none:=h2
    rw [h1]
    exact run_convert_bytes_arg w1 src e aF.h aF.h b off _ cap (y :: l) rfl (fun i hi=>by
     obtain ⟨ad,g1,g2,g3,g4⟩:=e5 i (.int .u8 (y :: l)[i]) (by rw [Pa,ai,aL hi];rfl)
     rw [h1] at g1
     obtain rfl:=aa g1
     have:=ex.cell g4
     rw [this,List.getD,aL hi];rfl) dst aF.h
 simp only [cp] at e1
 simp [execOp,hv,e1,VG]
end rules
inductive By (hp:Heap):AV→AV→Prop
 | co {a a':AV} (c:Co hp a a'):By hp a a'
 | agg (cs jP:List AV) (hl:jP.length=cs.length) (h:∀ (i:Nat) c c',cs[i]? =some c→jP[i]? =some c'→By hp c c'):By hp (.agg cs) (.agg jP)
 | ma (cs jP:List AV) (hl:jP.length=cs.length) (h:∀ (i:Nat) c c',cs[i]? =some c→jP[i]? =some c'→By hp c c'):By hp (.ma cs) (.ma jP)
 | list (sz:Nat) (xs ys:List AV) (hn:ys.length=xs.length) (hl:(flat ys).length=(flat xs).length) (he:∀ y∈ys,El sz y) (h:∀ (i:Nat) c c',(flat xs)[i]? =some c→(flat ys)[i]? =some c'→By hp c c'):By hp (.list sz xs) (.list sz ys)
inductive GK (hp:Heap):List AV→List AV→Prop
 | nil:GK hp [] []
 | cons {a a':AV} {l l':List AV} (c:By hp a a') (k:GK hp l l'):GK hp (a :: l) (a' :: l')
theorem By.r {hp:Heap} {a:AV}:By hp a a:=.co (.refl _)
theorem By.n {hp:Heap} {sz:Nat}:By hp .nil (.list sz []):=.co (.nil _)
theorem GK.each {hp:Heap}:∀ {l l':List AV},GK hp l l'→l'.length=l.length∧∀ (i:Nat) c c',l[i]? =some c→l'[i]? =some c'→By hp c c'
 | [],_,.nil=>⟨rfl,fun i c c' h=>by simp at h⟩
 | _ :: _,_,.cons c k=>by
   obtain ⟨g1,g2⟩:=GK.each k
   refine ⟨by simp [g1],fun i c1 c2 h1 h2=>?_⟩
   match i with
   | 0=>simp at h1 h2;subst h1;subst h2;assumption
   | i+1=>exact g2 i c1 c2 (by simpa using h1) (by simpa using h2)
theorem By.KS {hp:Heap} {cs jP:List AV} (k:GK hp cs jP):By hp (.agg cs) (.agg jP):=.agg cs jP k.each.1 k.each.2
theorem By.RT {hp:Heap} {sz:Nat} {xs ys:List AV} (k:GK hp (flat xs) (flat ys)) (hn:Nat.beq ys.length xs.length=true) (he:Au sz ys=true):By hp (.list sz xs) (.list sz ys):=
 .list sz xs ys (Nat.eq_of_beq_eq_true hn) k.each.1 (oJ he) k.each.2
theorem By.at {w:World} {S:Nat→Prop} {hp:Heap} {a a':AV} {v:Value} (c:By hp a a') (r:cY w S hp) (h:At w S a v):At w S a' v:=by
 induction c generalizing v with
 | co c=>exact c.at r h
 | agg cs jP hl _ ih=>
   cases h with
   | agg _ vs h1 h2=>
     refine .agg jP vs (by rw [hl,h1]) (fun i c v hc hv=>?_)
     have hi:i < cs.length:=by rw [← hl];exact (aS.1 hc).1
     exact ih i cs[i] c (by simp [hi]) hc (h2 i _ _ (by simp [hi]) hv)
 | ma cs jP hl _ ih=>
   cases h with
   | ma _ vs h1 h2=>
     refine .ma jP vs (by rw [hl,h1]) (fun i c v hc hv=>?_)
     have hi:i < cs.length:=by rw [← hl];exact (aS.1 hc).1
     exact ih i cs[i] c (by simp [hi]) hc (h2 i _ _ (by simp [hi]) hv)
 | list sz xs ys hn hl he _ ih=>
   cases h with
   | list _ _ a cap vs g1 g2 g3 g4 g5=>
     rw [← hn]
     refine .list sz ys a cap vs he (by rw [hl,g2]) (fun i c v hc hv=>?_) g4 (by rw [hn];exact g5)
     have hi:i < (flat xs).length:=by rw [← hl];exact (aS.1 hc).1
     exact ih i (flat xs)[i] c (by simp [hi]) hc (g3 i _ _ (by simp [hi]) hv)
theorem aq.VH {n s:Nat} {tm:List (Nat×AV)} {hp:Heap} {T:St→Prop} {av rf:AV} (hs:lk tm s=some av) (c:By hp av rf) (k:aq ⟨n,(s,rf) :: tm,hp⟩ T):aq ⟨n,tm,hp⟩ T:=by
 refine aq.step (Df:=⟨n,(s,rf) :: tm,hp⟩) (fun w S a r=>⟨_,S,rfl,⟨r.size,r.defers,fun t av h=>?_,r.hp⟩,lr.refl _ _ _⟩) k
 simp only [lk] at h
 split at h
 ·rename_i hb
  obtain rfl:s=t:=by simpa using hb
  obtain rfl:=aa h
  obtain ⟨v,h1,h2⟩:=r.tm s _ hs
  exact ⟨v,h1,c.at r.hp h2⟩
 ·exact r.tm t av h
def ph {R:Type} (n:Nat) (len:R→Nat) (x:Option R):Option R:=x.bind fun r=>if len r=n then some r else none
theorem JS {R:Type} {n:Nat} {len:R→Nat} {x:Option R} {r:R} (h:ph n len x=some r):x=some r:=by
 unfold ph at h
 cases x with
 | none=>cases h
 | some y=>
   simp only [cy] at h
   split at h
   ·exact h
   ·cases h
theorem Bz {R:Type} {n:Nat} {len:R→Nat} {x:Option R} {r:R} (h:ph n len x=some r):len r=n:=by
 unfold ph at h
 cases x with
 | none=>cases h
 | some y=>
   simp only [cy] at h
   split at h
   ·rename_i hh;obtain rfl:=aa h;exact hh
   ·cases h
def L1 {α:Type} (z:α) (l c:Int):Option (List α):=if 0≤l∧l≤c∧c≤1000000000 then some (a6 l.toNat z) else none
theorem Cd {sz:Nat} {x:AV} (h:x.cells.length=sz):∀ (k i:Nat),i < k * sz→(flat (a6 k x))[i]? =x.cells[i % sz]?
 | 0,i,hi=>by simp at hi
 | k+1,i,hi=>by
   rw [List.replicate_succ,show flat (x :: a6 k x)=x.cells++flat (a6 k x) from rfl]
   by_cases ew:i < sz
   ·rw [cz (by omega),Nat.mod_eq_of_lt ew]
   ·rw [List.getElem?_append_right (by omega),h,Cd h k (i - sz) (by rw [Nat.add_mul] at hi;omega)]
    rw [Nat.mod_eq_sub_mod (a:=i) (by omega)]
section rules
variable {P:Program} {all:Array Oper} {rest:List Oper} {n:Nat} {tm:List (Nat×AV)} {hp:Heap} {Q:St→Prop} {d:Nat} {ty:TypeId} {pos:String} {af:Array Edge}
theorem wi {α:Type} {g:α→AV} {Z:α} {Xs:List α} {t e:TypeId} {i:TypeInfo} {z:Value} {x y:Operand} {k k':IntKind} {l c:Int} {sz:Nat} [aF P t (.slice e)] [aZ P e i] (hx:dh tm x=some (.int k l)) (hy:dh tm y=some (.int k' c)) (hz:i.zero=some z) (hg:zE z=g Z) (hs:i.size=sz) (zF:Vk sz (g Z)=true) (Ba:ac 0 sz=true) (hb:Nat.ble i.bytes 65536=true)
 (hn:ac d n=true) (hm:L1 Z l c=some Xs) (kk:∀ b:Bk,ae P all rest ⟨n,(d,.sl sz b 0 Xs.length) :: tm,(b,.arr sz (Xs.map g)) :: hp⟩ Q):ae P all (⟨some d,.makeSlice t x y,ty,pos,af,none⟩ :: rest) ⟨n,tm,hp⟩ Q:=by
 subst hs
 have Ba:0 < i.size:=bG (cA (bW Ba)) (a7 _)
 have hb:=bW hb
 unfold L1 at hm
 split at hm
 ·rename_i hc
  obtain rfl:=aa hm
  obtain ⟨c0,c1,c2⟩:=hc
  refine ae.O1 rfl fun w S a r=>?_
  have e1:=(bt (σ:=⟨n,tm,hp⟩) r hx).ez
  have e2:=(bt (σ:=⟨n,tm,hp⟩) r hy).ez
  have hE:=BW zF
  obtain ⟨hl,pX⟩:=si w S z (by rw [hg];exact hE.2)
  rw [hg] at hl pX
  have Is:z.cells.size=i.size:=by rw [← hl];exact hE.1
  obtain ⟨vs,Pa⟩:∃ vs:Array Value,vs=(al (c.toNat * i.size)).map (z.cells[· % z.cells.size]!):=⟨_,rfl⟩
  have lp:vs.size=c.toNat * i.size:=by rw [Pa];simp
  have E8:∀ (j:Nat) (v:Value),vs[j]? =some v→z.cells[j % i.size]? =some v:=by
   intro j v hv
   rw [Pa] at hv
   simp only [Array.getElem?_map,Option.map_eq_some_iff] at hv
   obtain ⟨q,hq,rfl⟩:=hv
   have:q=j:=by
    rw [bX] at hq
    obtain ⟨h1,h2⟩:=hq
    simpa using h2.symm
   subst this
   rw [Is]
   have ew:q % i.size < z.cells.size:=by rw [Is];exact b3 _ Ba
   simp [ew]
  have e0:=Ext.alloc w (.cells vs e)
  have MX:(a6 l.toNat Z).map g=a6 l.toNat (g Z):=by simp
  have hh:Holds (w.alloc (.cells vs e)) S ⟨some w.heap.size,c.toNat⟩ (.arr i.size ((a6 l.toNat Z).map g)):=by
   rw [MX]
   refine ⟨fun x hx=>by rw [cH hx];exact hE,by simp;omega,.inr ⟨w.heap.size,vs,e,rfl,?_,lp,fun j cc v GF hv=>?_⟩⟩
   ·show (w.heap.push _)[w.heap.size]? =_
    simp
   ·have zK:j < (flat (a6 l.toNat (g Z))).length:=(aS.1 GF).1
    rw [dP (fun x hx=>by rw [cH hx];exact hE)] at zK
    rw [Cd hE.1 _ _ (by simpa using zK)] at GF
    exact (pX _ _ _ GF (E8 j v hv)).mono fun m hm=>⟨hm,e0.same m (r.hp.slt m hm)⟩
  obtain ⟨k1,k2,k3⟩:=qL r.hp e0 id hh (.inr ⟨_,rfl,a7 _⟩)
  refine ⟨.slice (some ⟨w.heap.size,0,none⟩) l.toNat c.toNat,w.alloc (.cells vs e),S,_,?_,(r.heap k3 k1).put hn ?_,k2,kk ⟨some w.heap.size,c.toNat⟩⟩
  ·have w1:IntKind.i64.wrap l=l:=uw ⟨by omega,by omega⟩
   have w2:IntKind.i64.wrap c=c:=uw ⟨by omega,by omega⟩
   have hbc:(i.bytes:Int) * c≤65536 * 1000000000:=Int.mul_le_mul (by omega) (by omega) (by omega) (by omega)
   have f1:decide (c < 0)=false:=decide_eq_false (by omega)
   have f2:decide (((i.bytes:Int) * c) > 2 ^ 48)=false:=decide_eq_false (by omega)
   have f3:decide (l < 0)=false:=decide_eq_false (by omega)
   have f4:decide (l > c)=false:=decide_eq_false (by omega)
   have xK:¬ c.toNat * i.bytes > roomBytes:=by
    have:c.toNat * i.bytes≤1000000000 * 65536:=Nat.mul_le_mul (by omega) hb
    unfold roomBytes;omega
   have a1:∀ (k:IntKind) (x:Int) (w:World),(asInt (.int k x)).run P w=.ok x w:=fun k x w=>by simp [asInt,asIntOf]
   simp only [execOp,Instr.makeSlice,Sem.run_bind,run_underlying (aF.h (P:=P) (t:=t)),Result.andThen_ok,e1,e2,a1,typeInfo,sizeOf,run_program,aZ.h (P:=P) (t:=e),Sem.run_pure,w1,w2,f1,f2,f3,f4,Bool.or_self,b4,if_false,askRoom,if_neg xK]
   by_cases h0:c.toNat * i.size=0
   ·rw [if_pos h0]
    have VI:vs=#[]:=by apply Array.eq_empty_of_size_eq_zero;omega
    simp only [Sem.run_bind,Sem.run_pure,Result.andThen_ok,h0,mZ,VI]
    rw [show al 0=#[] from rfl]
    simp
   ·rw [if_neg h0]
    simp only [Sem.run_bind,Result.andThen_ok,Sem.run_pure,zeroValue,typeInfo,run_program,aZ.h (P:=P) (t:=e),hz,mZ,← Pa]
  ·have:=At.sl (w:=w.alloc (.cells vs e)) (S:=S) i.size ⟨some w.heap.size,c.toNat⟩ 0 l.toNat w.heap.size c.toNat rfl (by omega) (by simp)
   simpa using this
 ·cases hm
end rules
end Go.Eng
set_option linter.unusedSimpArgs false
namespace Go.Eng
open Go Go.Sort Go.Proofs
variable [ck]
structure GL (P:Program) (f:FuncId) (k:Nat):Prop where
 some_:∀ (enc:Nat→List Value) (_:∀ x,(enc x).length=k) (_:∀ x,∀ v∈enc x,v.oneCell'=true) (cf:Nat→Nat→Int) (_:SWO (ltOf cf)) (g:Nat) (cb:Array Value) (dp off cap:Nat) (d:Array Nat) (w:World)
  (_:∀ args w,(callFunc g args).run P w=.ok (.enter g args) w) (_:CmpLays P g cb enc k cf dp off d.size w) (_:HoldsK enc k w dp off d) (_:dp < w.heap.size) (_:d.size < 4611686018427387904),
  Calls P f #[.slice (some ⟨dp,off,none⟩) d.size cap,.func (.func g) #[] cb] w fun e w'=>
   e=.returned (.tuple #[])∧∃ n os,w'=sortWorldK enc k w dp off n (pdq (ltOf cf) d 0 d.size (Lib.bitLen d.size) true true) os
 none_:∀ (p:Option Addr) (cap:Nat) (fv:Value) (w:World),Calls P f #[.slice p 0 cap,fv] w fun e w'=>e=.returned (.tuple #[])∧w'=w
def r7 {α:Type} (x:α) (r:List α) (i:Nat):α:=(x :: r).getD i x
def tt {α:Type} (f:α→α→Option Int) (x:α) (r:List α) (i j:Nat):Int:=(f (r7 x r i) (r7 x r j)).getD 0
noncomputable def Ce {α:Type} (f:α→α→Option Int):List α→Option (List α)
 | []=>some []
 | x :: r=>@ite _ (r.length+1 < 4611686018427387904∧(∀ a∈x :: r,∀ b∈x :: r,∃ u,f a b=some u)∧SWO (ltOf (tt f x r))) (cU _)
     (some ((pdq (ltOf (tt f x r)) (al (r.length+1)) 0 (r.length+1) (Lib.bitLen (r.length+1)) true true).toList.map (r7 x r))) none
theorem ye {α:Type} (f:α→α→Option Int) (x:α) (r:List α):Ce f (x :: r)=@ite _ (r.length+1 < 4611686018427387904∧(∀ a∈x :: r,∀ b∈x :: r,∃ u,f a b=some u)∧SWO (ltOf (tt f x r))) (cU _)
 (some ((pdq (ltOf (tt f x r)) (al (r.length+1)) 0 (r.length+1) (Lib.bitLen (r.length+1)) true true).toList.map (r7 x r))) none:=rfl
theorem iy {α:Type} (x:α) (r:List α) (i:Nat):r7 x r i∈x :: r:=by
 unfold r7
 rw [c7]
 rcases h:(x :: r)[i]? with _ | y
 ·simp
 ·exact be h
theorem oL (enc:Nat→List Value) (k:Nat) (w:World) (dp off m:Nat) (dk:Array Nat) (os:Array Obj) {n:Nat} (hn:n < w.heap.size) (Aq:n≠dp):(sortWorldK enc k w dp off m dk os).heap[n]? =w.heap[n]?:=by
 unfold sortWorldK putRowK putRow
 rw [heap_grow_old _ _ (by simpa [mapBlock] using hn)]
 simp only [mapBlock,heap_ahead,b5]
 rw [if_neg (fun h=>Aq h.symm)]
theorem va (enc:Nat→List Value) (k:Nat) (w:World) (dp off m:Nat) (dk:Array Nat) (os:Array Obj):w.heap.size≤(sortWorldK enc k w dp off m dk os).heap.size:=by
 unfold sortWorldK putRowK
 simp
theorem D5 (enc:Nat→List Value) (k:Nat) (w:World) (dp m:Nat) (dk:Array Nat) (os:Array Obj) {vs:Array Value} {E:TypeId} (hb:w.heap[dp]? =some (.cells vs E (0,0))):(sortWorldK enc k w dp 0 m dk os).heap[dp]? =some (.cells (putCells id 0 (flatK enc k dk) vs) E (0,0)):=by
 have ew:dp < w.heap.size:=by
  rcases bz dp w.heap.size with h | h
  ·exact h
  ·simp [b6 h] at hb
 unfold sortWorldK putRowK putRow
 rw [heap_grow_old _ _ (by simpa [mapBlock] using ew)]
 simp only [mapBlock,heap_ahead,b5]
 rw [if_pos trivial,hb]
 rfl
theorem Ext.grown {w w':World} (hd:ck.dr) (e:Ext w w'):∃ q os,w'=grow (w.drewN q) os:=by
 refine ⟨w'.drawn - w.drawn,w'.heap.extract w.heap.size w'.heap.size,?_⟩
 obtain ⟨h',t',d',o',adR⟩:=w'
 have e1:=e.os;have e2:=e.tape;have e3:=e.output;have e4:=e.drawn hd;have e5:=e.size;have e6:=e.same
 simp only at e1 e2 e3 e4 e5 e6
 subst e1 e2 e3
 unfold grow World.drewN
 simp only [World.mk.injEq,and_true,true_and]
 refine ⟨?_,by omega⟩
 apply Array.ext_getElem?
 intro i
 by_cases hi:i < w.heap.size
 ·rw [e6 i hi,b7 hi]
 ·rw [c8 (by omega),Array.getElem?_extract]
  by_cases h2:i < h'.size
  ·rw [if_pos (by omega)]
   congr 1;omega
  ·rw [if_neg (by omega),b6 (by omega)]
theorem IG {P:Program} {T:Type} {g:T→AV} {f:FuncId} {k:Nat} (K:GL P f k) (Fa:ac 0 k=true) {gf:FuncId} [cq P gf] {C:List AV} {fn:T→T→Option Int} (P0:∀ {x y:T} {u:Int},fn x y=some u→@Pu nB P gf (g x :: g y :: C) (I u))
 (MY:∀ x,g x=.agg (g x).cells) {Xs Ys:List T} {b:Bk} (h:Ce fn Xs=some Ys):aY P f [.sl k b 0 Xs.length,.func (.func gf) C] [(b,.arr k (Xs.map g))] (T0 [(b,.arr k (Ys.map g))] (.ma [])):=by
 have Fa:0 < k:=bG (cA (bW Fa)) (a7 _)
 intro w S vs r hl ha
 obtain ⟨v0,v1,rfl⟩:∃ v0 v1,vs=#[v0,v1]:=by
  match vs,hl with
  | ⟨[v0,v1]⟩,_=>exact ⟨v0,v1,rfl⟩
 have a0:=ha 0 _ v0 rfl rfl
 have a1:=ha 1 _ v1 rfl rfl
 obtain ⟨oa,cap,rfl,e2⟩:=a0.x4
 obtain ⟨cv,rfl,yF,YE⟩:=a1.BT
 match Xs,h with
 | [],h=>
   obtain rfl:=aa h
   refine (K.none_ oa cap _ w).mono ?_
   rintro e w' ⟨rfl,rfl⟩
   exact ⟨_,.ma [],_,S,rfl,⟨rfl,rfl⟩,.ma [] #[] rfl (fun i c v hc=>by simp at hc),r,lr.refl _ _ _⟩
 | x :: xr,h=>
   rw [ye] at h
   by_cases hc:(xr.length+1 < 4611686018427387904∧(∀ a∈x :: xr,∀ b∈x :: xr,∃ u,fn a b=some u)∧SWO (ltOf (tt fn x xr)))
   ·rw [if_pos hc] at h
    obtain rfl:=aa h
    obtain ⟨hlen,SV,hO⟩:=hc
    obtain ⟨h0,h1,h2⟩:=r.holds _ (a8.2 rfl)
    simp only [cp,dd] at h1
    rcases h2 with ⟨_,SY⟩ | ⟨m,row,E,hb,Ca,lp,pX⟩
    ·have VJ:b.cap=0:=SY
     omega
    rcases e2 with ⟨hn,_,_,_,_⟩ | ⟨m',Ar,rfl,hle,YF⟩ | ⟨m',ad,_,_,YG,_⟩
    ·rw [hn] at hb;cases hb
    ·obtain rfl:m'=m:=by rw [Ar] at hb;exact aa hb
     have SZ:m' < w.heap.size:=by
      rcases bz m' w.heap.size with h | h
      ·exact h
      ·simp [b6 h] at Ca
     have nS:¬ S m':=fun hs=>by have:=(r.sep _ (a8.2 rfl) m' (gO hb)).1 hs;exact this
     let ix:Nat→Nat:=fun i=>if i < xr.length+1 then i else 0
     have GM:∀ i,ix i < xr.length+1:=fun i=>by simp only [ix];split<;>omega
     have S3:∀ i,(x :: xr)[ix i]? =some (r7 x xr i):=by
      intro i
      simp only [ix,r7,c7]
      split
      ·rename_i hi
       rw [aL (by simpa using hi)];simp
      ·rename_i hi
       rw [List.getElem?_eq_none (l:=x :: xr) (i:=i) (by simp;omega)];simp
     have Yp:(xr.length+1) * k≤row.size:=by rw [lp];exact dg k h1
     let enc:Nat→List Value:=fun i=>(row.toList.drop (ix i * k)).take k
     have Fb:∀ i,(enc i).length=k:=by
      intro i
      have:ix i * k+k≤row.size:=by
       have:=dg k (show ix i+1≤xr.length+1 from GM i)
       rw [Nat.add_mul,Nat.one_mul] at this
       omega
      simp only [enc,List.length_take,List.length_drop,dl];omega
     have MZ:∀ i j,j < k→(enc i)[j]? =row[ix i * k+j]?:=by
      intro i j hj
      simp only [enc,List.getElem?_take,if_pos hj,List.getElem?_drop,dn]
     have GD:∀ i j,j < k→(flat ((x :: xr).map g))[ix i * k+j]? =(g (r7 x xr i)).cells[j]?:=by
      intro i j hj
      exact oe h0 (by rw [ai,S3 i];rfl) j hj
     have yF:∀ i,(g (r7 x xr i)).cells.length=k:=fun i=>(h0 _ (aw.2 ⟨_,iy x xr i,rfl⟩)).1
     have vJ:∀ i,∀ c∈(g (r7 x xr i)).cells,c.one=true:=fun i=>(h0 _ (aw.2 ⟨_,iy x xr i,rfl⟩)).2
     have IH:∀ i,pY w S (g (r7 x xr i)).cells (enc i).toArray:=by
      intro i j c v hc hv
      have hj:j < k:=by rw [← yF i];exact (aS.1 hc).1
      refine pX (ix i * k+j) c v (by rw [GD i j hj];exact hc) ?_
      rw [← MZ i j hj]
      simpa using hv
     have S4:∀ i,∀ v∈enc i,v.oneCell'=true:=by
      intro i v hv
      obtain ⟨j,hj,rfl⟩:=List.getElem_of_mem hv
      have VK:j < k:=by rw [Fb i] at hj;exact hj
      have VL:j < (g (r7 x xr i)).cells.length:=by rw [yF i];exact VK
      exact (IH i j (g (r7 x xr i)).cells[j] (enc i)[j] (by simp [VL]) (by simp [hj])).Ik (vJ i _ (b8 VL))
     have tE:∀ (d:Array Nat) (t:Nat),t < d.size * k→(flatK enc k d)[t]! =(enc d[t / k]!)[t % k]!:=fun d t ht=>get_flatK enc k d t ht
     have M1:HoldsK enc k w m' 0 (al (xr.length+1)):=by
      intro j hj
      rw [size_flatK,ds] at hj
      have hdiv:j / k < xr.length+1:=(dy Fa).2 hj
      have Fc:j % k < k:=b3 _ Fa
      have P1:j < row.size:=by omega
      have e1:(flatK enc k (al (xr.length+1)))[j]! =row[j]:=by
       rw [tE _ _ (by simpa using hj)]
       have:(al (xr.length+1))[j / k]! =j / k:=by
        rw [getElem!_pos _ _ (by simpa using hdiv)];simp
       rw [this]
       have hv:=MZ (j / k) (j % k) Fc
       have:ix (j / k)=j / k:=by simp only [ix];rw [if_pos hdiv]
       rw [this,d0] at hv
       rw [bi P1] at hv
       rw [List.getElem!_eq_getElem?_getD,hv];rfl
      constructor
      ·simp only [World.cell?,Ca,id,e1,Nat.zero_add,Option.isSome_none,b4,if_false]
       rw [bi P1]
      ·simp [World.frozen?,Ca]
     have S5:CmpLays P gf cv enc k (tt fn x xr) m' 0 (al (xr.length+1)).size w:=by
      intro mm os dk hdk i j
      obtain ⟨u,hu⟩:=SV _ (iy x xr i) _ (iy x xr j)
      have hW:∀ n,S n→S n∧(sortWorldK enc k w m' 0 mm dk os).heap[n]? =w.heap[n]?:=fun n hs=>
       ⟨hs,oL enc k w m' 0 mm dk os (r.slt n hs) (fun e=>nS (e▸hs))⟩
      have JT:pY (sortWorldK enc k w m' 0 mm dk os) S (g (r7 x xr i) :: g (r7 x xr j) :: C) (#[.agg (enc i).toArray,.agg (enc j).toArray]++cv):=by
       intro q c v hc hv
       have ag:∀ i,At (sortWorldK enc k w m' 0 mm dk os) S (g (r7 x xr i)) (.agg (enc i).toArray):=fun i=>by
        rw [MY (r7 x xr i)]
        exact .agg _ _ (by rw [yF i];simp [Fb i]) (fun a c v hc hv=>((IH i) a c v hc hv).mono hW)
       match q with
       | 0=>
         rw [b7 (by simp)] at hv
         simp at hc hv;subst hc;subst hv;exact ag i
       | 1=>
         rw [b7 (by simp)] at hv
         simp at hc hv;subst hc;subst hv;exact ag j
       | q+2=>
         simp only [List.getElem?_cons_succ] at hc
         rw [c8 (by simp)] at hv
         simp only [List.size_toArray,dd,List.length_nil,Nat.add_sub_cancel] at hv
         exact (YE q c v hc (by simpa using hv)).mono hW
      refine (P0 hu _ S _ (@uy nB _ _ (fun n hn=>bG (r.slt n hn) (va _ _ _ _ _ _ _ _)) (fun g o ho=>⟨(r.ib g o ho).1,BR (hW g (r.ib g o ho).1).2 (r.ib g o ho).2⟩)) (by simp [yF,‹C.length=cv.size›];omega) JT).mono ?_
      rintro e w' ⟨v,rr,h',S',rfl,hq,h3,h4,h5⟩
      obtain rfl:=hq
      rw [h3.ez]
      refine ⟨?_,@Ext.grown nB _ _ trivial (@lr.Gn nB _ _ _ _ _ h5)⟩
      unfold tt
      rw [hu];rfl
     have L2:(al (xr.length+1)).size=xr.length+1:=ds
     have GN:=K.some_ enc Fb S4 (tt fn x xr) hO gf cv m' 0 cap (al (xr.length+1)) w (fun args w=>sj gf args w) S5 M1 SZ (by rw [L2];exact hlen)
     rw [L2] at GN
     simp only [Nat.zero_mul]
     refine GN.mono ?_
     rintro e w' ⟨rfl,q,os,rfl⟩
     have P2:=pdq_sorts (ltOf (tt fn x xr)) hO (al (xr.length+1)) 0 (xr.length+1) (Lib.bitLen (xr.length+1)) true true (Nat.zero_le _) (by rw [L2];exact a7 _) (Or.inl rfl)
     generalize ub:pdq (ltOf (tt fn x xr)) (al (xr.length+1)) 0 (xr.length+1) (Lib.bitLen (xr.length+1)) true true=d' at P2 ⊢
     have Fe:d'.size=xr.length+1:=by rw [P2.1.1,L2]
     have hW:∀ n,S n→S n∧(sortWorldK enc k w m' 0 q d' os).heap[n]? =w.heap[n]?:=fun n hs=>
      ⟨hs,oL enc k w m' 0 q d' os (r.slt n hs) (fun e=>nS (e▸hs))⟩
     have RU:∀ y∈(d'.toList.map (r7 x xr)).map g,El k y:=by
      intro y hy
      simp only [aw] at hy
      obtain ⟨z,⟨i,_,rfl⟩,rfl⟩:=hy
      exact h0 _ (aw.2 ⟨_,iy x xr i,rfl⟩)
     have hh:Go.Eng.Holds (sortWorldK enc k w m' 0 q d' os) S b (.arr k ((d'.toList.map (r7 x xr)).map g)):=by
      refine ⟨RU,by simp [Fe];omega,.inr ⟨m',_,E,hb,D5 enc k w m' q d' os Ca,by simp [putCells,lp],?_⟩⟩
      intro j c v hc hv
      have zK:j < (xr.length+1) * k:=by
       have:=(aS.1 hc).1
       rw [dP RU] at this
       simpa [Fe] using this
      have hdiv:j / k < xr.length+1:=(dy Fa).2 zK
      have Fc:j % k < k:=b3 _ Fa
      have P1:j < row.size:=by omega
      have UJ:(d'.toList.map (r7 x xr))[j / k]? =some (r7 x xr d'[j / k]!):=by
       rw [ai,dn,bi (by omega),getElem!_pos d' (j / k) (by omega)];rfl
      have uZ:(g (r7 x xr d'[j / k]!)).cells[j % k]? =some c:=by
       rw [← oe (sz:=k) RU (i:=j / k) (x:=g (r7 x xr d'[j / k]!)) (by rw [ai,UJ];rfl) (j % k) Fc,d0]
       exact hc
      have UK:(enc d'[j / k]!)[j % k]? =some v:=by
       simp only [putCells,Array.getElem?_mapIdx,bi P1,b9,bo] at hv
       rw [if_pos ⟨Nat.zero_le _,by rw [size_flatK,Fe];omega⟩,Nat.sub_zero,tE d' j (by rw [Fe];exact zK)] at hv
       have ew:j % k < (enc d'[j / k]!).length:=by rw [Fb];exact Fc
       rw [aL ew,← hv]
       simp only [id,getElem!_pos (enc d'[j / k]!) (j % k) ew]
      exact (IH _ _ _ _ uZ (by simpa using UK)).mono hW
     have M3:=va enc k w m' 0 q d' os
     refine ⟨_,.ma [],_,S,rfl,⟨rfl,rfl⟩,.ma [] #[] rfl (fun i c v hc=>by simp at hc),⟨r.nodup,fun e he=>by rw [a8] at he;subst he;exact hh,fun e he n hn=>?_,fun n hn=>bG (r.slt n hn) M3,fun g o ho=>⟨(r.ib g o ho).1,BR (hW g (r.ib g o ho).1).2 (r.ib g o ho).2⟩⟩,?_⟩
     ·rw [a8] at he;subst he
      replace hn:=(vZ rfl).1 hn
      rw [hb] at hn
      obtain rfl:=aa hn
      exact ⟨fun hs=>(nS hs).elim,fun hf=>hf.elim⟩
     ·refine ⟨rfl,rfl,rfl,M3,hW,fun n hn YH=>⟨oL enc k w m' 0 q d' os hn (fun e=>YH ⟨_,a8.2 rfl,by rw [e];exact gO hb⟩),id⟩,?_,?_⟩
      ·rintro n ⟨e,he,tY⟩
       rw [a8] at he;subst he
       exact .inl ⟨_,a8.2 rfl,tY⟩
      ·intro _
       show w.drawn≤(sortWorldK enc k w m' 0 q d' os).drawn
       show w.drawn≤w.drawn+q
       omega
    ·simp at YG
   ·rw [if_neg hc] at h;cases h
end Go.Eng
namespace Go.Eng
open Go
variable [ck]
def S6 {α:Type} (xs:List α) (L:Int) (n:Nat) (z:α):List α:=xs.take L.toNat++a6 n z++xs.drop (L.toNat+n)
end Go.Eng
namespace Go.Eng
open Go Go.Sort Go.Proofs
variable [ck]
def RW {α:Type} (srt:List α→List α) (xs:List α):Option (List α):=if xs.length < 4611686018427387904 then some (srt xs) else none
theorem D6 {α:Type} {g:α→AV} (hc:∀ x,(g x).cells=[g x]):∀ xs:List α,flat (xs.map g)=xs.map g
 | []=>rfl
 | x :: r=>by rw [bp,jG,hc,D6 hc r];rfl
def S7 (xs:List Int):List Int:=xs.mergeSort fun x y=>decide (x≤y)
end Go.Eng
namespace Go.Eng
open Go
variable [ck]
def AV.M4:AV→Bool
 | .sl _ _ _ _=>true
 | .ptr _ _=>true
 | .agg cs=>Gk cs
 | v=>v.EV
def Lb:List AV→Bool
 | []=>true
 | c :: r=>c.M4&&Lb r
def AV.VM:AV→Bool
 | .ma cs=>Lb cs
 | .agg cs=>Lb cs
 | v=>v.M4
theorem BA {w:World} {S S':Nat→Prop} {av:AV} {v:Value} (h:At w S av v) (hn:av.M4=true):At w S' av v:=by
 cases h with
 | agg cs vs hl h=>exact .agg cs vs hl fun i c u hc hu=>wg (h i c u hc hu) (wh hn c (be hc))
 | sl sz b off len n cap hb h1 h2=>exact .sl sz b off len n cap hb h1 h2
 | A7 sz b hb=>exact .A7 sz b hb
 | Pq sz b off n ad hb=>exact .Pq sz b off n ad hb
 | ptr b o n hb=>exact .ptr b o n hb
 | int k n=>exact .int k n
 | bool b=>exact .bool b
 | str s=>exact .str s
 | nil=>exact .nil
 | raw v=>exact .raw v
 | _=>simp [AV.M4,AV.EV] at hn
theorem yQ:∀ {cs:List AV},Lb cs=true→∀ c∈cs,c.M4=true
 | [],_,c,hc=>by simp at hc
 | x :: r,h,c,hc=>by
   simp only [Lb,Bool.and_eq_true] at h
   rcases ca.1 hc with rfl | hc
   ·exact h.1
   ·exact yQ h.2 c hc
theorem S8 {w:World} {S S':Nat→Prop} {av:AV} {v:Value} (h:At w S av v) (hn:av.VM=true):At w S' av v:=by
 cases av with
 | ma cs=>
   cases h with
   | ma _ vs hl h=>exact .ma cs vs hl fun i c u hc hu=>BA (h i c u hc hu) (yQ hn c (be hc))
 | agg cs=>
   cases h with
   | agg _ vs hl h=>exact .agg cs vs hl fun i c u hc hu=>BA (h i c u hc hu) (yQ hn c (be hc))
 | _=>exact BA h hn
def Ob.P3:Ob→Prop
 | .cells cs=>Lb cs=true
 | .arr _ xs=>∀ x∈xs,Gk x.cells=true
 | _=>False
inductive II:Heap→Prop
 | nil:II []
 | cons {b:Bk} {o:Ob} {h:Heap} (c:o.P3) (k:II h):II ((b,o) :: h)
theorem II.mem {h:Heap} (k:II h):∀ e∈h,e.2.P3:=by
 induction k with
 | nil=>intro e he;simp at he
 | cons c k ih=>
   intro e he
   rcases ca.1 he with rfl | he
   ·exact c
   ·exact ih e he
theorem P3.jS {α:Type} {g:α→AV} {sz:Nat} {Xs:List α} (h:∀ x,Gk (g x).cells=true):(Ob.arr sz (Xs.map g)).P3:=fun x hx=>by
 obtain ⟨y,_,rfl⟩:=aw.1 hx
 exact h y
theorem Holds.VM {w:World} {S S':Nat→Prop} {b:Bk} {o:Ob} (h:Holds w S b o) (hn:o.P3):Holds w S' b o:=by
 cases o with
 | cells cs=>
   obtain ⟨h0,n,vs,E,h1,h2,h3,h4⟩:=h
   exact ⟨h0,n,vs,E,h1,h2,h3,fun i c v hc hv=>BA (h4 i c v hc hv) (yQ hn c (be hc))⟩
 | arr sz xs=>
   obtain ⟨h0,h1,h2⟩:=h
   refine ⟨h0,h1,h2.imp id ?_⟩
   rintro ⟨n,vs,E,g1,g2,g3,g4⟩
   refine ⟨n,vs,E,g1,g2,g3,fun i c v hc hv=>wg (g4 i c v hc hv) ?_⟩
   have hm:=be hc
   unfold flat at hm
   rw [bu] at hm
   obtain ⟨x,hx,Yf⟩:=hm
   exact wh (hn x hx) c Yf
 | yD _ _=>exact hn.elim
 | mp _=>exact hn.elim
 | U8 _ _=>exact hn.elim
 | EN _ _ _=>exact hn.elim
 | U9 _ _ _=>exact hn.elim
 | cC _=>exact hn.elim
 | UE _ _ _ _=>exact hn.elim
 | Va _ _=>exact hn.elim
 | Vb _=>exact hn.elim
section rules
variable {P:Program} {all:Array Oper} {rest:List Oper} {n:Nat} {tm:List (Nat×AV)} {hp:Heap} {Q:St→Prop} {d:Nat} {ty:TypeId} {pos:String} {af:Array Edge}
theorem P4 {f:FuncId} {args:List Operand} {ts:Array TypeId} {l l':List AV} {h0 hr:Heap} {Qc:AV→Heap→Prop} [cq P f] (hl:A8 tm args=some l) (c:aY P f l' h0 Qc) (co:sP hr l l') (hs:hp.Perm (h0++hr)) (hn:ac d n=true)
 (kk:∀ r h',Qc r h'→r.VM=true∧II h'∧ae P all rest ⟨n,(d,r) :: tm,h'++hr⟩ Q):ae P all (⟨some d,.call {callee:=.value (.func f),args:=args.toArray,argTypes:=ts},ty,pos,af,none⟩ :: rest) ⟨n,tm,hp⟩ Q:=by
 refine ae.Gd rfl fun w S a r=>⟨f,_,mH a w,?_⟩
 obtain ⟨g1,g2⟩:=sO (σ:=⟨n,tm,hp⟩) r hl
 have rp:=r.hp.perm hs
 have IJ:cY w S hr:=rp.sub (List.sublist_append_right _ _)
 have M5:cY w S h0:=rp.sub (List.sublist_append_left _ _)
 obtain ⟨g3,g4⟩:=sP.at IJ co g1 g2
 have IK:∀ m,Has h0 m→¬ Has hr m:=by
  rintro m ⟨x,hx,xL⟩ ⟨y,hy,VN⟩
  have:=rp.nodup
  rw [d1,bv] at this
  exact this.2.2 m (bu.2 ⟨x,hx,xL⟩) m (bu.2 ⟨y,hy,VN⟩) rfl
 have rh:cY w (SB S hr) h0:=by
  refine ⟨M5.nodup,fun e he=>(M5.holds e he).mono (fun m hm=>⟨.inl hm,rfl⟩) (fun m _=>rfl),fun e he m hm=>?_,fun m hm=>?_,fun g o ho=>⟨.inl (M5.ib g o ho).1,(M5.ib g o ho).2⟩⟩
  ·constructor
   ·rintro (h | h)
    ·exact (M5.sep e he m hm).1 h
    ·exact (IK m ⟨e,he,hm⟩ h).elim
   ·exact fun h=>.inl ((M5.sep e he m hm).2 h)
  ·rcases hm with h | h
   ·exact M5.slt m h
   ·exact IJ.lt h
 refine (c w (SB S hr) _ rh (by simpa using g3) g4).mono ?_
 rintro e w' ⟨v,res,h',S',rfl,hq,h3,h4,h5⟩
 obtain ⟨k1,k2,k3⟩:=kk res h' hq
 have Pb:∀ m,S m→(S' m∧(Has hr m→S m))∧w'.heap[m]? =w.heap[m]?:=fun m hm=>⟨⟨(h5.lz m (.inl hm)).1,fun _=>hm⟩,(h5.lz m (.inl hm)).2⟩
 have u5:cY w' (fun m=>S' m∧(Has hr m→S m)) (h'++hr):=by
  refine ⟨?_,?_,?_,fun m hm=>h4.slt m hm.1,fun g o ho=>⟨⟨(h4.ib g o ho).1,fun _=>(M5.ib g o ho).1⟩,(h4.ib g o ho).2⟩⟩
  ·rw [d1,bv]
   refine ⟨h4.nodup,IJ.nodup,fun x hx y hy Ip=>?_⟩
   subst Ip
   obtain ⟨e1,Vf,Bv⟩:=bu.1 hx
   obtain ⟨e2,LZ,Lc⟩:=bu.1 hy
   rcases h5.new x ⟨e1,Vf,Bv⟩ with h | h
   ·exact IK x h ⟨e2,LZ,Lc⟩
   ·have:=IJ.lt ⟨e2,LZ,Lc⟩;omega
  ·intro e he
   rcases bx.1 he with he | he
   ·exact (h4.holds e he).VM (k2.mem e he)
   ·exact (IJ.holds e he).mono Pb (fun m hm=>(h5.lz m (.inr ⟨e,he,hm⟩)).2)
  ·intro e he m hm
   rcases bx.1 he with he | he
   ·rw [← h4.sep e he m hm]
    refine ⟨fun h=>h.1,fun h=>⟨h,fun hh=>?_⟩⟩
    rcases h5.new m ⟨e,he,hm⟩ with h6 | h6
    ·exact (IK m h6 hh).elim
    ·have:=IJ.lt hh;omega
   ·rw [← IJ.sep e he m hm]
    exact ⟨fun h=>h.2 ⟨e,he,hm⟩,fun h=>⟨(h5.lz m (.inl h)).1,fun _=>h⟩⟩
 have GO:∀ m,Has hp m↔Has h0 m∨Has hr m:=by
  intro m
  constructor
  ·rintro ⟨x,hx,hb⟩
   rcases bx.1 (hs.mem_iff.1 hx) with h | h
   ·exact .inl ⟨x,h,hb⟩
   ·exact .inr ⟨x,h,hb⟩
  ·rintro (⟨x,hx,hb⟩ | ⟨x,hx,hb⟩)
   ·exact ⟨x,hs.mem_iff.2 (List.mem_append_left _ hx),hb⟩
   ·exact ⟨x,hs.mem_iff.2 (List.mem_append_right _ hx),hb⟩
 refine ⟨v,fun m=>S' m∧(Has hr m→S m),⟨n,(d,res) :: tm,h'++hr⟩,rfl,(r.heap Pb u5).put hn (S8 h3 k1),?_,k3⟩
 refine ⟨h5.os,h5.tape,h5.output,h5.size,Pb,fun m hm hh=>?_,fun m hm=>?_,h5.drawn⟩
 ·have n0:¬ Has h0 m:=fun h=>hh ((GO m).2 (.inl h))
  have nr:¬ Has hr m:=fun h=>hh ((GO m).2 (.inr h))
  obtain ⟨q1,q2⟩:=h5.other m hm n0
  refine ⟨q1,fun h=>?_⟩
  rcases q2 h.1 with h | h
  ·exact h
  ·exact (nr h).elim
 ·obtain ⟨x,hx,hb⟩:=hm
  rcases bx.1 hx with hx | hx
  ·rcases h5.new m ⟨x,hx,hb⟩ with h | h
   ·exact .inl ((GO m).2 (.inl h))
   ·exact .inr h
  ·exact .inl ((GO m).2 (.inr ⟨x,hx,hb⟩))
theorem yR {AD:Type} {f:FuncId} {args:List Operand} {ts:Array TypeId} {l l':List AV} {h0 hr:Heap} {H H':AD→Heap} {V:AD→AV} [cq P f] (hl:A8 tm args=some l) (c:aY P f l' h0 (T1 H V)) (hs:F2 hp h0 hr) (co:sP hr l l') (ha:∀ b,sk (H b) hr=some (H' b)) (hV:∀ b,(V b).VM=true) (hH:∀ b,II (H b)) (hn:ac d n=true)
 (kk:∀ b,ae P all rest ⟨n,(d,V b) :: tm,H' b⟩ Q):ae P all (⟨some d,.call {callee:=.value (.func f),args:=args.toArray,argTypes:=ts},ty,pos,af,none⟩ :: rest) ⟨n,tm,hp⟩ Q:=
 P4 hl c co hs.perm hn (fun r h' ⟨b,e1,e2⟩=>by subst e1;subst e2;rw [pg (ha b)];exact ⟨hV b,hH b,kk b⟩)
end rules
class vM (K:Type) where
 lt:K→K→Bool
instance:vM Int:=⟨fun a b=>decide (a < b)⟩
instance:vM Bool:=⟨fun a b=>!a&&b⟩
instance:vM (List UInt8):=⟨fun a b=>Op.bytesLess a b⟩
section plain
variable {K V:Type}
def rQ [DecidableEq K] (m:List (K×V)) (k:K):List (K×V):=m.filter (fun e=>decide (e.1≠k))
def yS [vM K] (k:K) (v:V):List (K×V)→List (K×V)
 | []=>[(k,v)]
 | e :: r=>if vM.lt e.1 k=true then e :: yS k v r else (k,v) :: e :: r
def dX [DecidableEq K] [vM K] (m:List (K×V)) (k:K) (v:V):List (K×V):=yS k v (rQ m k)
def bj [DecidableEq K]:List (K×V)→K→Option V
 | [],_=>none
 | e :: r,k=>if e.1=k then some e.2 else bj r k
def nU [DecidableEq K] (m:List (K×V)) (k:K) (z:V):Option V:=some ((bj m k).getD z)
def sU [DecidableEq K] (m:List (K×V)) (k:K) (z:V):Option (V×Bool):=some ((bj m k).getD z,(bj m k).isSome)
theorem qn [vM K] (k:K) (v:V):∀ (m:List (K×V)),(yS k v m).Perm ((k,v) :: m)
 | []=>bk _
 | e :: r=>by
   unfold yS
   split
   ·exact (bP e (qn k v r)).trans (List.Perm.swap _ _ _)
   ·exact bk _
theorem sn {α β:Type} (f:α→β):∀ (l:List β) (M:List α),l.Perm (M.map f)→∃ M':List α,M'.Perm M∧l=M'.map f
 | [],M,h=>by
   have:=h.nil_eq
   rw [eq_comm,List.map_eq_nil_iff] at this
   subst this;exact ⟨[],bk _,rfl⟩
 | x :: t,M,h=>by
   have hx:x∈M.map f:=h.mem_iff.1 (by simp)
   obtain ⟨e,he,rfl⟩:=aw.1 hx
   obtain ⟨p,q,rfl⟩:=List.append_of_mem he
   have h2:(f e :: t).Perm (f e :: (p++q).map f):=h.trans (by rw [bm,bp,bm];exact ce)
   obtain ⟨M',h3,rfl⟩:=sn f t (p++q) (List.Perm.cons_inv h2)
   exact ⟨e :: M',(bP e h3).trans ce.symm,rfl⟩
theorem Cf [DecidableEq K] {k:K} {v:V}:∀ {m:List (K×V)},bj m k=some v→(k,v)∈m
 | [],h=>by cases h
 | e :: r,h=>by
   unfold bj at h
   split at h
   ·rename_i hk
    obtain rfl:=aa h
    subst hk;simp
   ·exact List.mem_cons_of_mem _ (Cf h)
theorem rl [DecidableEq K] {k:K} {v:V}:∀ {m:List (K×V)},(m.map ap).Nodup→(k,v)∈m→bj m k=some v
 | [],_,h=>by simp at h
 | e :: r,hn,h=>by
   rw [bp,d2] at hn
   unfold bj
   rcases ca.1 h with rfl | h
   ·simp
   ·rw [if_neg (fun hk=>hn.1 (aw.2 ⟨_,h,hk.symm⟩))]
    exact rl hn.2 h
theorem nE [DecidableEq K] {k:K}:∀ {m:List (K×V)},bj m k=none↔∀ e∈m,e.1≠k
 | []=>by simp [bj]
 | e :: r=>by
   unfold bj
   split
   ·rename_i hk;simp [hk]
   ·rename_i hk
    rw [nE (m:=r)]
    simp [hk]
theorem jI [DecidableEq K] {m m':List (K×V)} (hp:m'.Perm m) (hn:(m'.map ap).Nodup) (k:K):bj m' k=bj m k:=by
 have F3:(m.map ap).Nodup:=(hp.map _).nodup_iff.1 hn
 cases h:bj m' k with
 | none=>
   symm
   rw [nE] at h ⊢
   exact fun e he=>h e (hp.mem_iff.2 he)
 | some v=>exact (rl F3 (hp.mem_iff.1 (Cf h))).symm
theorem zR [DecidableEq K] {m:List (K×V)} {k:K} (h:bj m k=none):rQ m k=m:=by
 rw [nE] at h
 unfold rQ
 exact ci.2 fun e he=>by simpa using h e he
end plain
noncomputable def JU {E A:Type} (es:List E) (g:List E→Option A):Option A:=
 open Classical in if h:∃ r,∀ p,p.Perm es→g p=some r then some h.choose else none
theorem M6 {E A:Type} {es:List E} {g:List E→Option A} {r:A} (h:∀ p,p.Perm es→g p=some r):JU es g=some r:=by
 unfold JU
 have hx:∃ r,∀ p,p.Perm es→g p=some r:=⟨r,h⟩
 rw [dif_pos hx]
 have:=hx.choose_spec es (bk _)
 rw [h es (bk _)] at this
 exact this.symm
def GP {E S A:Type} (b:E→S→Option (S⊕A)) (f:S→Option A):List E→S→Option A
 | [],s=>f s
 | e :: p,s=>(b e s).bind (after (GP b f p))
def wj {K:Type} [DecidableEq K] (k:K):List K→List MapEntry→Nat→Option (Nat×Value)
 | k' :: ks,e :: es,i=>if k'=k then some (i,e.val) else wj k ks es (i+1)
 | _,_,_=>none
class dY (P:Program) (t:TypeId) {K:Type} [DecidableEq K] (g:K→AV):Prop where
 inj:∀ a b,g a=g b→a=b
 check:∀ {w:World} {S:Nat→Prop} {k:K} {v:Value},At w S (g k) v→∀ (b:Bool) (w1:World),(Instr.checkKey b 10000 t v).run P w1=.ok () w1
 find:∀ {w:World} {S:Nat→Prop} {k:K} {v:Value},At w S (g k) v→∀ (es:List MapEntry) (ks:List K),ks.length=es.length→(∀ (i:Nat) k' e,ks[i]? =some k'→es[i]? =some e→At w S (g k') e.key)→∀ w1:World,(Instr.findKey t v es).run P w1=.ok (wj k ks es 0) w1
 bits:∀ {w:World} {S:Nat→Prop} {k:K} {v u:Value},At w S (g k) v→At w S (g k) u→Instr.sameBits 10000 v u=true
theorem xk {K:Type} [DecidableEq K] {d:TypeDesc} {v:Value} {k:K} {q:K→Value→Prop} (hq:∀ k' u,q k' u→Instr.sameNow d v u=some (decide (k'=k))):∀ (es:List MapEntry) (ks:List K) (i:Nat),ks.length=es.length→(∀ (i:Nat) k' e,ks[i]? =some k'→es[i]? =some e→q k' e.key)→Instr.findNow d v es i=some (wj k ks es i)
 | [],[],i,_,_=>rfl
 | [],k' :: ks,i,hl,_=>by simp at hl
 | e :: es,[],i,hl,_=>by simp at hl
 | e :: es,k' :: ks,i,hl,h=>by
   unfold Instr.findNow wj
   rw [hq k' e.key (h 0 k' e rfl rfl)]
   by_cases hk:k'=k
   ·simp [hk]
   ·simp only [hk,decide_false,if_false]
    exact xk hq es ks (i+1) (by simpa using hl) (fun i k' e h1 h2=>h (i+1) k' e (by simpa using h1) (by simpa using h2))
theorem IL (a b:ByteArray):((a==b)=true)↔a=b:=by
 cases a with
 | mk a=>
   cases b with
   | mk b=>
     show (a==b)=true↔_
     rw [beq_iff_eq]
     exact ⟨fun h=>by rw [h],fun h=>by cases h;rfl⟩
theorem dY.int {P:Program} {t:TypeId} {q:IntKind} (h:P.underlying t=some (.int q)):dY P t (K:=Int) (fun n=>AV.int q n) where
 inj a b h:=by simpa using h
 check:=fun {w S k v} hv b w1=>by
  rw [hv.ez]
  have key:∀ n:Nat,(Instr.checkKey b (n+1) t (Value.int q k)).run P w1=.ok () w1:=fun n=>by simp [Instr.checkKey,run_underlying h]
  exact key 9999
 find:=fun {w S k v} hv es ks hl hk w1=>by
  rw [hv.ez]
  have hf:=xk (d:=(.int q)) (v:=(Value.int q k)) (k:=k) (q:=fun k' u=>u=(Value.int q k')) (fun k' u hu=>by subst hu;simp only [Instr.sameNow,if_true];congr 1;rw [cl];simp;exact eq_comm) es ks 0 hl (fun i k' e h1 h2=>(hk i k' e h1 h2).ez)
  simp [Instr.findKey,run_underlying h,hf]
 bits:=fun {w S k v u} h1 h2=>by rw [h1.ez,h2.ez];simp [Instr.sameBits]
theorem dY.bool {P:Program} {t:TypeId} (h:P.underlying t=some .bool):dY P t (K:=Bool) AV.bool where
 inj a b h:=by simpa using h
 check:=fun {w S k v} hv b w1=>by
  rw [hv.lA]
  have key:∀ n:Nat,(Instr.checkKey b (n+1) t (Value.bool k)).run P w1=.ok () w1:=fun n=>by simp [Instr.checkKey,run_underlying h]
  exact key 9999
 find:=fun {w S k v} hv es ks hl hk w1=>by
  rw [hv.lA]
  have hf:=xk (d:=.bool) (v:=(Value.bool k)) (k:=k) (q:=fun k' u=>u=(Value.bool k')) (fun k' u hu=>by subst hu;simp only [Instr.sameNow];congr 1;rw [cl];simp;exact eq_comm) es ks 0 hl (fun i k' e h1 h2=>(hk i k' e h1 h2).lA)
  simp [Instr.findKey,run_underlying h,hf]
 bits:=fun {w S k v u} h1 h2=>by rw [h1.lA,h2.lA];simp [Instr.sameBits]
theorem dY.str {P:Program} {t:TypeId} (h:P.underlying t=some .string):dY P t (K:=List UInt8) AV.str where
 inj a b h:=by simpa using h
 check:=fun {w S k v} hv b w1=>by
  rw [hv.gV]
  have key:∀ n:Nat,(Instr.checkKey b (n+1) t (Value.string ⟨k.toArray⟩)).run P w1=.ok () w1:=fun n=>by simp [Instr.checkKey,run_underlying h]
  exact key 9999
 find:=fun {w S k v} hv es ks hl hk w1=>by
  rw [hv.gV]
  have hf:=xk (d:=.string) (v:=(Value.string ⟨k.toArray⟩)) (k:=k) (q:=fun k' u=>u=(Value.string ⟨k'.toArray⟩)) (fun k' u hu=>by subst hu;simp only [Instr.sameNow];congr 1;rw [cl,IL];simp;exact eq_comm) es ks 0 hl (fun i k' e h1 h2=>(hk i k' e h1 h2).gV)
  simp [Instr.findKey,run_underlying h,hf]
 bits:=fun {w S k v u} h1 h2=>by rw [h1.gV,h2.gV];simp only [Instr.sameBits];exact (IL _ _).2 rfl
instance {P:Program} {t:TypeId} [h:aF P t (.int .i64)]:dY P t (K:=Int) I:=dY.int h.h
instance {P:Program} {t:TypeId} [h:aF P t .bool]:dY P t (K:=Bool) AV.bool:=dY.bool h.h
instance {P:Program} {t:TypeId} [h:aF P t .string]:dY P t (K:=List UInt8) AV.str:=dY.str h.h
theorem dZ {P:Program} {w:World} {r:Nat} {es:Array MapEntry} {c:Nat} (h:w.heap[r]? =some (.map es c)):(getObj r).run P w=.ok (.map es c) w:=by
 simp only [getObj,Sem.run,h]
def zS (w:World) (r:Nat) (o:Obj):World:={w with heap:=w.heap.setIfInBounds r o}
theorem sV {P:Program} {w:World} {r:Nat} {es:Array MapEntry} {c:Nat} (o:Obj) (h:w.heap[r]? =some (.map es c)):(setObj r o).run P w=.ok () (zS w r o):=by
 simp only [setObj,Sem.run,h];rfl
theorem uB {w:World} {r:Nat} {o o':Obj} (h:w.heap[r]? =some o'):(zS w r o).heap[r]? =some o:=by
 have ew:r < w.heap.size:=(bX.1 h).1
 simp [zS,d3,ew]
theorem Cg {w:World} {r k:Nat} {o:Obj} (h:k≠r):(zS w r o).heap[k]? =w.heap[k]?:=by
 simp [zS,d3,Ne.symm h]
theorem P5 {w:World} {r:Nat} {o:Obj} {x:Option Nat} (hx:x=some r):GB w (zS w r o) x:=
 ⟨⟨rfl,rfl,rfl,by simp [zS],fun k hk Aq=>Cg (fun e=>Aq (by rw [hx,e]))⟩,fun _=>a7 _⟩
theorem P6 (w:World) (x:Option Nat):GB w w x:=⟨⟨rfl,rfl,rfl,a7 _,fun _ _ _=>rfl⟩,fun _=>a7 _⟩
theorem Ext.heap {w w':World} {n:Nat} {o:Obj} (e:Ext w w') (h:w.heap[n]? =some o):w'.heap[n]? =some o:=by
 rw [e.same n (bX.1 h).1];exact h
theorem At.lE {w:World} {S:Nat→Prop} {b:Bk} {v:Value} (h:At w S (.bO b) v):∃ n,b.dp=some n∧v=.map (some n):=by cases h with | bO _ n hb=>exact ⟨n,hb,rfl⟩
theorem Ch (w:World) (S:Nat→Prop) (z:Value) (h1:jq (zE z).cells=true):At w S (zE z) z:=by
 by_cases hz:∃ cs,z=.agg cs
 ·obtain ⟨cs,rfl⟩:=hz
  obtain ⟨h2,h3⟩:=si w S (.agg cs) (dQ h1)
  exact .agg _ _ h2 h3
 ·have Yk:zE z=RA z:=by
   cases z<;>first | rfl | (exact (hz ⟨_,rfl⟩).elim)
  rw [Yk];exact EO w S z
theorem so {K V:Type} {gk:K→AV} {gv:V→AV} {w:World} {S:Nat→Prop} {hp:Heap} {b:Bk} {M:List (K×V)} (P7:∀ a b,gk a=gk b→a=b) (r:cY w S hp) (f:mb hp b (.mp (M.map fun e=>(gk e.1,gv e.2)))):
 ∃ (L:List oY) (c:Nat) (M':List (K×V)) (n:Nat) (dC:Array MapEntry),M'.Perm M∧L.map oY.kv=M'.map (fun e=>(gk e.1,gv e.2))∧tX w S b L c∧b.dp=some n∧w.heap[n]? =some (.map dC c)∧dC.toList.length=M'.length∧
   (∀ (i:Nat) e m,M'[i]? =some e→dC.toList[i]? =some m→At w S (gk e.1) m.key∧At w S (gv e.2) m.val)∧(M'.map ap).Nodup:=by
 obtain ⟨L,c,mB,hH⟩:=r.holds _ f.mem
 obtain ⟨M',h1,h2⟩:=sn _ _ _ mB
 have YI:=hH
 obtain ⟨n,dC,g1,g2,g3,g4,g5,g6,g7⟩:=hH
 have hlen:L.length=M'.length:=by have:=congrArg d4 h2;simpa using this
 refine ⟨L,c,M',n,dC,h1,h2,YI,g1,g2,by rw [dl,g3,hlen],fun i e m he hm=>?_,?_⟩
 ·have:(L.map oY.kv)[i]? =some (gk e.1,gv e.2):=by rw [h2,ai,he];rfl
  rw [ai] at this
  cases hL:L[i]? with
  | none=>rw [hL] at this;cases this
  | some x=>
    rw [hL] at this
    have hx:(x.k,x.v)=(gk e.1,gv e.2):=aa this
    obtain ⟨q1,q2⟩:=d5 hx
    have:=g4 i x m hL (by simpa using hm)
    rw [q1,q2] at this
    exact this.2
 ·have hk:L.map (·.k)=(M'.map ap).map gk:=by
   have:=congrArg (List.map ap) h2
   simpa [List.map_map,Function.comp_def,oY.kv] using this
  rw [hk] at g7
  exact (List.pairwise_map.1 g7).imp (fun h e=>h (by rw [e]))
theorem uC {α:Type} {l:List α} {j:Nat} {x:α} (h:l[j]? =some x):l.set j x=l:=by
 apply cn
 intro i
 rw [d6]
 by_cases yz:j=i
 ·subst yz
  have:=(aS.1 h).1
  rw [if_pos rfl,if_pos this,h]
 ·simp [yz]
theorem nF {K V:Type} [DecidableEq K] {gv:V→AV} {w:World} {S:Nat→Prop} {k:K}:∀ (M:List (K×V)) (es:List MapEntry) (i:Nat),M.length=es.length→(∀ (j:Nat) e m,M[j]? =some e→es[j]? =some m→At w S (gv e.2) m.val)→
 (bj M k=none∧wj k (M.map ap) es i=none)∨∃ v j val,bj M k=some v∧wj k (M.map ap) es i=some (i+j,val)∧At w S (gv v) val∧M[j]? =some (k,v)
 | [],[],i,_,_=>.inl ⟨rfl,rfl⟩
 | [],m :: es,i,hl,_=>by simp at hl
 | e :: M,[],i,hl,_=>by simp at hl
 | e :: M,m :: es,i,hl,h=>by
   unfold bj
   simp only [bp,wj]
   by_cases hk:e.1=k
   ·simp only [hk,if_true]
    refine .inr ⟨e.2,0,m.val,rfl,rfl,h 0 e m rfl rfl,?_⟩
    subst hk;rfl
   ·simp only [hk,if_false]
    rcases nF M es (i+1) (by simpa using hl) (fun j e' m' h1 h2=>h (j+1) e' m' (by simpa using h1) (by simpa using h2)) with ⟨h1,h2⟩ | ⟨v,j,val,h1,h2,h3,h4⟩
    ·exact .inl ⟨h1,h2⟩
    ·exact .inr ⟨v,j+1,val,h1,by rw [h2];congr 2;omega,h3,by simpa using h4⟩
section rules
variable {P:Program} {all:Array Oper} {rest:List Oper} {n:Nat} {tm:List (Nat×AV)} {hp:Heap} {Q:St→Prop} {d:Nat} {ty:TypeId} {pos:String} {af:Array Edge}
theorem xl {t:TypeId} (hn:ac d n=true) (kk:∀ b:Bk,ae P all rest ⟨n,(d,.bO b) :: tm,(b,.mp []) :: hp⟩ Q):ae P all (⟨some d,.makeMap t none,ty,pos,af,none⟩ :: rest) ⟨n,tm,hp⟩ Q:=by
 refine ae.O1 rfl fun w S a r=>?_
 have hh:Holds (w.alloc (.map #[] 0)) S ⟨some w.heap.size,0⟩ (.mp []):=⟨[],0,bk _,w.heap.size,#[],rfl,by show (w.heap.push _)[w.heap.size]? =_;simp,rfl,by simp,by simp,by simp,by simp⟩
 obtain ⟨k1,k2,k3⟩:=qL r.hp (Ext.alloc w (.map #[] 0)) id hh (.inr ⟨_,rfl,a7 _⟩)
 exact ⟨.map (some w.heap.size),w.alloc (.map #[] 0),S,_,by simp [execOp,Instr.makeMap],(r.heap k3 k1).put hn (.bO _ _ rfl),k2,kk ⟨some w.heap.size,0⟩⟩
theorem yT {K V:Type} [DecidableEq K] {gk:K→AV} {gv:V→AV} {M:List (K×V)} {key:K} {Z v:V} {t kt vt:TypeId} {i:TypeInfo} {z:Value} {x y:Operand} {b:Bk} {av:AV} [aF P t (.map kt vt)] [aZ P vt i] [dY P kt gk] (hx:dh tm x=some (.bO b)) (hy:dh tm y=some (gk key)) (f:mb hp b (.mp (M.map fun e=>(gk e.1,gv e.2)))) (hz:i.zero=some z) (L3:zE z=gv Z) (h1:jq (zE z).cells=true) (h:nU M key Z=some v) (pa:gv v=av):
 QV P ⟨some d,.lookup t x y false,ty,pos,af,none⟩ ⟨n,tm,hp⟩ av:=by
 intro w S a r
 have kx:=bt (σ:=⟨n,tm,hp⟩) r hx
 have ky:=bt (σ:=⟨n,tm,hp⟩) r hy
 obtain ⟨nb,hb,ex⟩:=kx.lE
 obtain ⟨L,c,M',BB,dC,p1,p2,p3,p4,p5,p6,p7,p8⟩:=so (dY.inj P kt) r.hp f
 obtain rfl:BB=nb:=by rw [p4] at hb;exact aa hb
 unfold nU at h
 have hv:=aa h
 rw [← jI p1 p8] at hv
 have kL:=dY.find (P:=P) (t:=kt) (g:=gk) ky dC.toList (M'.map ap) (by simpa using p6.symm) (fun j k' e h1 h2=>by
  rw [ai] at h1
  cases hm:M'[j]? with
  | none=>rw [hm] at h1;cases h1
  | some q=>rw [hm] at h1;rw [← aa h1];exact (p7 j q e hm h2).1)
 rcases nF (gv:=gv) (w:=w) (S:=S) (k:=key) M' dC.toList 0 p6.symm (fun j e m h1 h2=>(p7 j e m h1 h2).2) with ⟨q1,q2⟩ | ⟨v',j,val,q1,q2,q3,_⟩
 ·refine ⟨z,fun w1 e1=>?_,?_⟩
  ·simp [execOp,Instr.lookup,ex,run_underlying (aF.h (P:=P) (t:=t)),dZ (e1.heap p5),dY.check (P:=P) (t:=kt) ky,kL,q2,zeroValue,typeInfo,aZ.h (P:=P) (t:=vt),hz]
  ·rw [← pa,← hv,q1,d7,← L3];exact Ch w S z h1
 ·refine ⟨val,fun w1 e1=>?_,?_⟩
  ·simp [execOp,Instr.lookup,ex,run_underlying (aF.h (P:=P) (t:=t)),dZ (e1.heap p5),dY.check (P:=P) (t:=kt) ky,kL,q2]
  ·rw [← pa,← hv,q1,Option.getD_some];exact q3
theorem zT {K V:Type} [DecidableEq K] {gk:K→AV} {gv:V→AV} {M:List (K×V)} {key:K} {Z:V} {v:V×Bool} {t kt vt:TypeId} {i:TypeInfo} {z:Value} {x y:Operand} {b:Bk} {av:AV} [aF P t (.map kt vt)] [aZ P vt i] [dY P kt gk] (hx:dh tm x=some (.bO b)) (hy:dh tm y=some (gk key)) (f:mb hp b (.mp (M.map fun e=>(gk e.1,gv e.2)))) (hz:i.zero=some z) (L3:zE z=gv Z) (h1:jq (zE z).cells=true) (h:sU M key Z=some v) (pa:gv v.1=av):
 QV P ⟨some d,.lookup t x y true,ty,pos,af,none⟩ ⟨n,tm,hp⟩ (.ma [av,.bool v.2]):=by
 intro w S a r
 have kx:=bt (σ:=⟨n,tm,hp⟩) r hx
 have ky:=bt (σ:=⟨n,tm,hp⟩) r hy
 obtain ⟨nb,hb,ex⟩:=kx.lE
 obtain ⟨L,c,M',BB,dC,p1,p2,p3,p4,p5,p6,p7,p8⟩:=so (dY.inj P kt) r.hp f
 obtain rfl:BB=nb:=by rw [p4] at hb;exact aa hb
 unfold sU at h
 have hv:=aa h
 rw [← jI p1 p8] at hv
 have kL:=dY.find (P:=P) (t:=kt) (g:=gk) ky dC.toList (M'.map ap) (by simpa using p6.symm) (fun j k' e h1 h2=>by
  rw [ai] at h1
  cases hm:M'[j]? with
  | none=>rw [hm] at h1;cases h1
  | some q=>rw [hm] at h1;rw [← aa h1];exact (p7 j q e hm h2).1)
 rcases nF (gv:=gv) (w:=w) (S:=S) (k:=key) M' dC.toList 0 p6.symm (fun j e m h1 h2=>(p7 j e m h1 h2).2) with ⟨q1,q2⟩ | ⟨v',j,val,q1,q2,q3,_⟩
 ·refine ⟨.tuple #[z,.bool false],fun w1 e1=>?_,?_⟩
  ·simp [execOp,Instr.lookup,ex,run_underlying (aF.h (P:=P) (t:=t)),dZ (e1.heap p5),dY.check (P:=P) (t:=kt) ky,kL,q2,zeroValue,typeInfo,aZ.h (P:=P) (t:=vt),hz]
  ·rw [← pa,← hv,q1]
   refine .ma _ _ rfl (qJ ?_ (.bool _))
   rw [d7,← L3];exact Ch w S z h1
 ·refine ⟨.tuple #[val,.bool true],fun w1 e1=>?_,?_⟩
  ·simp [execOp,Instr.lookup,ex,run_underlying (aF.h (P:=P) (t:=t)),dZ (e1.heap p5),dY.check (P:=P) (t:=kt) ky,kL,q2]
  ·rw [← pa,← hv,q1]
   exact .ma _ _ rfl (qJ q3 (.bool _))
theorem uD {w:World} {S:Nat→Prop} {hp dE:Heap} {b:Bk} {m:Nat} {o o':Ob} {ob old:Obj} (r:cY w S hp) (u:nC hp b o b o' dE) (hb:b.dp=some m) (ho:w.heap[m]? =some old) (hf:¬ o.Ao) (Yh:¬ o'.Ao) (hh:(∀ n,S n→S n∧(zS w m ob).heap[n]? =w.heap[n]?)→Holds (zS w m ob) S b o')(hm:o'.more=[]:=by rfl):
 cY (zS w m ob) S dE∧lr w S hp (zS w m ob) S dE∧∀ n,S n→S n∧(zS w m ob).heap[n]? =w.heap[n]?:=by
 have k1:∀ n,S n→S n∧(zS w m ob).heap[n]? =w.heap[n]?:=fun k hk=>⟨hk,Cg (fun e=>by
  subst e
  exact hf ((r.sep _ u.sF.mem _ (gO hb)).1 hk))⟩
 exact xf r u (P5 hb) hf Yh (hh k1) (.inl rfl) hm
theorem wo {K V:Type} [DecidableEq K] [vM K] {gk:K→AV} {gv:V→AV} {M:List (K×V)} {key:K} {v:V} {t kt vt:TypeId} {x y z:Operand} {b:Bk} {av:AV} {dE:Heap} [aF P t (.map kt vt)] [dY P kt gk] (hx:dh tm x=some (.bO b)) (hy:dh tm y=some (gk key)) (hz:dh tm z=some av) (pa:av=gv v) (u:nC hp b (.mp (M.map fun e=>(gk e.1,gv e.2))) b (.mp ((dX M key v).map fun e=>(gk e.1,gv e.2))) dE)
 (kk:ae P all rest ⟨n,tm,dE⟩ Q):ae P all (⟨none,.mapUpdate t x y z,ty,pos,af,none⟩ :: rest) ⟨n,tm,hp⟩ Q:=by
 refine ae.act rfl rfl (fun w S a r=>?_) kk
 have kx:=bt (σ:=⟨n,tm,hp⟩) r hx
 have ky:=bt (σ:=⟨n,tm,hp⟩) r hy
 have kz:=bt (σ:=⟨n,tm,hp⟩) r hz
 obtain ⟨nb,hb,ex⟩:=kx.lE
 obtain ⟨L,c,M',BB,dC,p1,p2,p3,p4,p5,p6,p7,p8⟩:=so (dY.inj P kt) r.hp u.sF
 obtain rfl:BB=nb:=by rw [p4] at hb;exact aa hb
 have kL:=dY.find (P:=P) (t:=kt) (g:=gk) ky dC.toList (M'.map ap) (by simpa using p6.symm) (fun j k' e h1 h2=>by
  rw [ai] at h1
  cases hm:M'[j]? with
  | none=>rw [hm] at h1;cases h1
  | some q=>rw [hm] at h1;rw [← aa h1];exact (p7 j q e hm h2).1)
 obtain ⟨Pc,ic,g1,g2,g3,g4,g5,g6,g7⟩:=p3
 obtain rfl:Pc=BB:=by rw [p4] at g1;exact (aa g1).symm
 obtain rfl:ic=dC:=by rw [p5] at g2;exact (Obj.map.inj (aa g2)).1.symm
 have XA:L.length=M'.length:=by have:=congrArg d4 p2;simpa using this
 have S9:∀ (j:Nat) (x:oY) (e:K×V),L[j]? =some x→M'[j]? =some e→x.k=gk e.1∧x.v=gv e.2:=by
  intro j x e h1 h2
  have:(L.map oY.kv)[j]? =(M'.map fun e=>(gk e.1,gv e.2))[j]?:=by rw [p2]
  rw [ai,ai,h1,h2] at this
  exact d5 (aa this)
 rcases nF (gv:=gv) (w:=w) (S:=S) (k:=key) M' ic.toList 0 p6.symm (fun j e m h1 h2=>(p7 j e m h1 h2).2) with ⟨q1,q2⟩ | ⟨v',j,val,q1,q2,q3,q4⟩
 ·
  have hw:=uD (ob:=.map (ic.push ⟨a.eval y,a.eval z,c⟩) (c+1)) r.hp u p4 p5 id id (fun k1=>by
   refine ⟨L++[⟨gk key,gv v,c⟩],c+1,?_,Pc,ic.push ⟨a.eval y,a.eval z,c⟩,p4,uB p5,by simp [g3],?_,?_,?_,?_⟩
   ·rw [bm,p2]
    refine d8 ?_ ((qn key v (rQ M key)).symm.map _)
    rw [zR (by rw [← jI p1 p8];exact q1)]
    exact List.perm_append_comm.trans (bP _ (p1.map _))
   ·intro i e m he hm
    rw [Array.getElem?_push] at hm
    rcases bz i L.length with hi | hi
    ·rw [cz hi] at he
     rw [if_neg (by omega)] at hm
     obtain ⟨s1,s2,s3⟩:=g4 i e m he hm
     exact ⟨s1,s2.mono k1,s3.mono k1⟩
    ·have Gt:i=L.length:=by
      have:=(aS.1 he).1
      simp at this;omega
     subst Gt
     rw [if_pos g3.symm] at hm
     simp at he
     obtain rfl:=aa hm
     subst he
     exact ⟨rfl,ky.mono k1,by rw [pa] at kz;exact kz.mono k1⟩
   ·intro e he
    rcases bx.1 he with h | h
    ·have:=g5 e h;omega
    ·simp at h;subst h;simp
   ·rw [bm,bv]
    refine ⟨g6,by simp,fun a1 ha b1 Bv DZ=>?_⟩
    simp at Bv
    subst Bv
    obtain ⟨e,he,rfl⟩:=aw.1 ha
    have:=g5 e he
    omega
   ·rw [bm,bv]
    refine ⟨g7,by simp,fun a1 ha b1 Bv DZ=>?_⟩
    simp at Bv
    subst Bv
    obtain ⟨e,he,rfl⟩:=aw.1 ha
    obtain ⟨j,hj⟩:=List.getElem?_of_mem he
    have zK:j < M'.length:=by rw [← XA];exact (aS.1 hj).1
    have:=(S9 j e M'[j] hj (aL zK)).1
    rw [this] at DZ
    exact (nE.1 q1) M'[j] (b8 zK) (dY.inj P kt _ _ DZ))
  refine ⟨_,S,?_,r.heap hw.2.2 hw.1,hw.2.1⟩
  simp [execOp,Instr.mapUpdate,ex,run_underlying (aF.h (P:=P) (t:=t)),dZ p5,dY.check (P:=P) (t:=kt) ky,kL,q2,sV _ p5]
 ·
  have zK:j < ic.toList.length:=by rw [p6];exact (aS.1 q4).1
  have E0:j < ic.size:=by simpa using zK
  have P8:ic.toList[j]? =some ic[j]:=by simp [E0]
  have Fa:=(p7 j _ _ q4 P8).1
  have M7:Instr.sameBits 10000 ic[j].key (a.eval y)=true:=dY.bits (P:=P) (t:=kt) Fa ky
  have AG:j < L.length:=by omega
  have hw:=uD (ob:=.map (ic.modify j fun e=>{e with key:=a.eval y,val:=a.eval z}) c) r.hp u p4 p5 id id (fun k1=>by
   refine ⟨L.set j ⟨gk key,gv v,L[j].born⟩,c,?_,Pc,_,p4,uB p5,by simp [g3],?_,?_,?_,?_⟩
   ·rw [bU]
    refine d8 ?_ ((qn key v (rQ M key)).symm.map _)
    have e1:(L.map oY.kv).set j (gk key,gv v)=(M'.set j (key,v)).map fun e=>(gk e.1,gv e.2):=by rw [p2,bU]
    show ((L.map oY.kv).set j (gk key,gv v)).Perm _
    rw [e1]
    refine List.Perm.map _ ?_
    have RX:j < M'.length:=by omega
    have e2:M'=M'.take j++(key,v') :: M'.drop (j+1):=by
     have:=List.take_append_drop j M'
     rw [List.drop_eq_getElem_cons RX] at this
     have hq:M'[j]=(key,v'):=by rw [aL RX] at q4;exact aa q4
     rw [hq] at this
     exact this.symm
    have e3:M'.set j (key,v)=M'.take j++(key,v) :: M'.drop (j+1):=by
     rw [List.set_eq_take_append_cons_drop,if_pos RX]
    rw [e3]
    refine ce.trans (bP _ ?_)
    have e4:rQ M' key=M'.take j++M'.drop (j+1):=by
     have Ta:=p8
     rw [e2,bm,bp,bv,d2] at Ta
     unfold rQ
     rw [e2,List.filter_append,List.filter_cons]
     simp only [ne_eq,not_true_eq_false,decide_false,b4,if_false]
     rw [← e2]
     congr 1
     ·refine ci.2 fun e he=>?_
      simp only [decide_not,d9,decide_eq_false_iff_not]
      intro hk
      exact Ta.2.2 e.1 (aw.2 ⟨e,he,rfl⟩) key (by simp) hk
     ·refine ci.2 fun e he=>?_
      simp only [decide_not,d9,decide_eq_false_iff_not]
      intro hk
      exact Ta.2.1.1 (aw.2 ⟨e,he,hk⟩)
    rw [← e4]
    exact p1.filter _
   ·intro i e m he hm
    rw [b5] at hm
    rw [d6] at he
    by_cases yz:j=i
    ·subst yz
     simp only [if_true,AG] at he
     simp only [if_true,bi E0,b9] at hm
     obtain rfl:=aa he
     obtain rfl:=aa hm
     refine ⟨(g4 j L[j] ic[j] (aL AG) (bi E0)).1,ky.mono k1,by rw [pa] at kz;exact kz.mono k1⟩
    ·rw [if_neg yz] at he hm
     obtain ⟨s1,s2,s3⟩:=g4 i e m he hm
     exact ⟨s1,s2.mono k1,s3.mono k1⟩
   ·intro e he
    rcases List.mem_or_eq_of_mem_set he with h | h
    ·exact g5 e h
    ·subst h;exact g5 L[j] (b8 AG)
   ·rw [bU]
    have:(L.map (·.born)).set j L[j].born=L.map (·.born):=by
     exact uC (by rw [ai,aL AG];rfl)
    rw [this];exact g6
   ·rw [bU]
    have:(L.map (·.k)).set j (gk key)=L.map (·.k):=by
     have hk:=(S9 j L[j] _ (aL AG) q4).1
     exact uC (by rw [ai,aL AG,b9,hk])
    rw [this];exact g7)
  refine ⟨_,S,?_,r.heap hw.2.2 hw.1,hw.2.1⟩
  simp [execOp,Instr.mapUpdate,ex,run_underlying (aF.h (P:=P) (t:=t)),dZ p5,dY.check (P:=P) (t:=kt) ky,kL,q2,Instr.keyThatStays,E0,M7,sV _ p5]
theorem M8 {K V:Type} [DecidableEq K] [vM K] {gk:K→AV} {gv:V→AV} {M:List (K×V)} {key:K} {v:V} {t kt vt:TypeId} {x y z:Operand} {b:Bk} {av:AV} {dE:Heap} [aF P t (.map kt vt)] [dY P kt gk] (hx:dh tm x=some (.bO b)) (hy:dh tm y=some (gk key)) (hz:dh tm z=some av) (pa:av=gv v) (u:nC hp b (.mp (M.map fun e=>(gk e.1,gv e.2))) b (.mp ((dX M key v).map fun e=>(gk e.1,gv e.2))) dE)
 (kk:ae P all rest ⟨n,tm,dE⟩ Q):ae P all (⟨none,.insert t x y z,ty,pos,af,none⟩ :: rest) ⟨n,tm,hp⟩ Q:=by
 intro w S a r
 have:=wo (all:=all) (rest:=rest) (ty:=ty) (pos:=pos) (af:=af) (t:=t) (kt:=kt) (vt:=vt) (gk:=gk) (gv:=gv) hx hy hz pa u kk w S a r
 unfold wpList at this ⊢
 exact this
end rules
theorem aU {α β:Type} {o:Option α} {f:α→Option β} {r:β} {C:Prop} (h:o.bind f=some r) (k:∀ v,o=some v→f v=some r→C):C:=
 let ⟨v,h1,h2⟩:=bnd h;k v h1 h2
def D7:Heap→Nat→Option ((Bk×Ob)×Heap)
 | [],_=>none
 | e :: h,0=>some (e,h)
 | e :: h,i+1=>match D7 h i with
   | some (x,h')=>some (x,e :: h')
   | none=>none
def Ci:Heap→List Nat→Option Heap
 | _,[]=>some []
 | h,i :: r=>match D7 h i with
   | some (e,h')=>match Ci h' r with
     | some t=>some (e :: t)
     | none=>none
   | none=>none
theorem D8:∀ {h:Heap} {i:Nat} {e:Bk×Ob} {h':Heap},D7 h i=some (e,h')→xA h e.1 e.2 h'
 | [],_,_,_,hh=>by simp [D7] at hh
 | x :: h,0,e,h',hh=>by
   simp only [D7,bo,ea] at hh
   obtain ⟨rfl,rfl⟩:=hh
   exact .here
 | x :: h,i+1,e,h',hh=>by
   simp only [D7] at hh
   split at hh
   ·rename_i y h1 h2
    simp only [bo,ea] at hh
    obtain ⟨rfl,rfl⟩:=hh
    exact .next (D8 h2)
   ·cases hh
theorem yU:∀ {l:List Nat} {h t:Heap},Ci h l=some t→HS h t
 | [],h,t,hh=>by
   simp only [Ci,bo] at hh
   subst hh;exact .nil
 | i :: r,h,t,hh=>by
   simp only [Ci] at hh
   split at hh
   ·rename_i e h' h1
    split at hh
    ·rename_i t' h2
     obtain rfl:=aa hh
     exact .cons (D8 h1) (yU h2)
    ·cases hh
   ·cases hh
def M9 (tm:List (Nat×AV)):List Nat→Option (List (Nat×AV))
 | []=>some []
 | s :: r=>match lk tm s with
   | some av=>match M9 tm r with
     | some l=>some ((s,av) :: l)
     | none=>none
   | none=>none
theorem GQ {tm:List (Nat×AV)}:∀ {l:List Nat} {pZ:List (Nat×AV)},M9 tm l=some pZ→DT tm pZ
 | [],pZ,h=>by
   simp only [M9,bo] at h
   subst h;exact True.intro
 | s :: r,pZ,h=>by
   simp only [M9] at h
   split at h
   ·rename_i av h1
    split at h
    ·rename_i t' h2
     obtain rfl:=aa h
     exact ⟨h1,GQ h2⟩
    ·cases h
   ·cases h
theorem aq.lq {n:Nat} {tm pZ:List (Nat×AV)} {hp dE:Heap} {T:St→Prop} (is:List Nat) (h:T ⟨n,pZ,dE⟩) (ht:M9 tm (pZ.map ap)=some pZ) (hs:Ci hp is=some dE):aq ⟨n,tm,hp⟩ T:=
 aq.Vr (GQ ht) (yU hs) (aq.here h)
theorem mb.p0 {b:Bk} {o:Ob} {h:Heap}:mb ((b,o) :: h) b o:=.here
theorem nC.p0 {b b':Bk} {o o':Ob} {h:Heap}:nC ((b,o) :: h) b o b' o' ((b',o') :: h):=.here
theorem xA.p0 {b:Bk} {o:Ob} {h:Heap}:xA ((b,o) :: h) b o (h):=.here
theorem mb.p1 {e0:Bk×Ob} {b:Bk} {o:Ob} {h:Heap}:mb (e0 :: (b,o) :: h) b o:=.next .p0
theorem nC.p1 {e0:Bk×Ob} {b b':Bk} {o o':Ob} {h:Heap}:nC (e0 :: (b,o) :: h) b o b' o' (e0 :: (b',o') :: h):=.next .p0
theorem xA.p1 {e0:Bk×Ob} {b:Bk} {o:Ob} {h:Heap}:xA (e0 :: (b,o) :: h) b o (e0 :: h):=.next .p0
theorem mb.p2 {e0 e1:Bk×Ob} {b:Bk} {o:Ob} {h:Heap}:mb (e0 :: e1 :: (b,o) :: h) b o:=.next .p1
theorem nC.p2 {e0 e1:Bk×Ob} {b b':Bk} {o o':Ob} {h:Heap}:nC (e0 :: e1 :: (b,o) :: h) b o b' o' (e0 :: e1 :: (b',o') :: h):=.next .p1
theorem xA.p2 {e0 e1:Bk×Ob} {b:Bk} {o:Ob} {h:Heap}:xA (e0 :: e1 :: (b,o) :: h) b o (e0 :: e1 :: h):=.next .p1
theorem mb.p3 {e0 e1 e2:Bk×Ob} {b:Bk} {o:Ob} {h:Heap}:mb (e0 :: e1 :: e2 :: (b,o) :: h) b o:=.next .p2
theorem nC.p3 {e0 e1 e2:Bk×Ob} {b b':Bk} {o o':Ob} {h:Heap}:nC (e0 :: e1 :: e2 :: (b,o) :: h) b o b' o' (e0 :: e1 :: e2 :: (b',o') :: h):=.next .p2
theorem xA.p3 {e0 e1 e2:Bk×Ob} {b:Bk} {o:Ob} {h:Heap}:xA (e0 :: e1 :: e2 :: (b,o) :: h) b o (e0 :: e1 :: e2 :: h):=.next .p2
theorem mb.p4 {e0 e1 e2 e3:Bk×Ob} {b:Bk} {o:Ob} {h:Heap}:mb (e0 :: e1 :: e2 :: e3 :: (b,o) :: h) b o:=.next .p3
theorem nC.p4 {e0 e1 e2 e3:Bk×Ob} {b b':Bk} {o o':Ob} {h:Heap}:nC (e0 :: e1 :: e2 :: e3 :: (b,o) :: h) b o b' o' (e0 :: e1 :: e2 :: e3 :: (b',o') :: h):=.next .p3
theorem xA.p4 {e0 e1 e2 e3:Bk×Ob} {b:Bk} {o:Ob} {h:Heap}:xA (e0 :: e1 :: e2 :: e3 :: (b,o) :: h) b o (e0 :: e1 :: e2 :: e3 :: h):=.next .p3
theorem mb.p5 {e0 e1 e2 e3 e4:Bk×Ob} {b:Bk} {o:Ob} {h:Heap}:mb (e0 :: e1 :: e2 :: e3 :: e4 :: (b,o) :: h) b o:=.next .p4
theorem nC.p5 {e0 e1 e2 e3 e4:Bk×Ob} {b b':Bk} {o o':Ob} {h:Heap}:nC (e0 :: e1 :: e2 :: e3 :: e4 :: (b,o) :: h) b o b' o' (e0 :: e1 :: e2 :: e3 :: e4 :: (b',o') :: h):=.next .p4
theorem xA.p5 {e0 e1 e2 e3 e4:Bk×Ob} {b:Bk} {o:Ob} {h:Heap}:xA (e0 :: e1 :: e2 :: e3 :: e4 :: (b,o) :: h) b o (e0 :: e1 :: e2 :: e3 :: e4 :: h):=.next .p4
theorem mb.p6 {e0 e1 e2 e3 e4 e5:Bk×Ob} {b:Bk} {o:Ob} {h:Heap}:mb (e0 :: e1 :: e2 :: e3 :: e4 :: e5 :: (b,o) :: h) b o:=.next .p5
theorem nC.p6 {e0 e1 e2 e3 e4 e5:Bk×Ob} {b b':Bk} {o o':Ob} {h:Heap}:nC (e0 :: e1 :: e2 :: e3 :: e4 :: e5 :: (b,o) :: h) b o b' o' (e0 :: e1 :: e2 :: e3 :: e4 :: e5 :: (b',o') :: h):=.next .p5
theorem xA.p6 {e0 e1 e2 e3 e4 e5:Bk×Ob} {b:Bk} {o:Ob} {h:Heap}:xA (e0 :: e1 :: e2 :: e3 :: e4 :: e5 :: (b,o) :: h) b o (e0 :: e1 :: e2 :: e3 :: e4 :: e5 :: h):=.next .p5
theorem mb.p7 {e0 e1 e2 e3 e4 e5 e6:Bk×Ob} {b:Bk} {o:Ob} {h:Heap}:mb (e0 :: e1 :: e2 :: e3 :: e4 :: e5 :: e6 :: (b,o) :: h) b o:=.next .p6
theorem nC.p7 {e0 e1 e2 e3 e4 e5 e6:Bk×Ob} {b b':Bk} {o o':Ob} {h:Heap}:nC (e0 :: e1 :: e2 :: e3 :: e4 :: e5 :: e6 :: (b,o) :: h) b o b' o' (e0 :: e1 :: e2 :: e3 :: e4 :: e5 :: e6 :: (b',o') :: h):=.next .p6
theorem xA.p7 {e0 e1 e2 e3 e4 e5 e6:Bk×Ob} {b:Bk} {o:Ob} {h:Heap}:xA (e0 :: e1 :: e2 :: e3 :: e4 :: e5 :: e6 :: (b,o) :: h) b o (e0 :: e1 :: e2 :: e3 :: e4 :: e5 :: e6 :: h):=.next .p6
section rules
variable {P:Program} {all:Array Oper} {rest:List Oper} {n:Nat} {tm:List (Nat×AV)} {hp:Heap} {Q:St→Prop} {d:Nat} {ty:TypeId} {pos:String} {af:Array Edge}
theorem rM {x:Operand} {av:AV} (hx:dh tm x=some av) (hn:ac d n=true) (k:ae P all rest ⟨n,(d,av) :: tm,hp⟩ Q):ae P all (⟨some d,.move x,ty,pos,af,none⟩ :: rest) ⟨n,tm,hp⟩ Q:=ae.qv (aX hx) hn k
theorem rA {x:Operand} {av:AV} (hx:dh tm x=some av) (hn:ac d n=true) (k:ae P all rest ⟨n,(d,av) :: tm,hp⟩ Q):ae P all (⟨some d,.assign x,ty,pos,af,none⟩ :: rest) ⟨n,tm,hp⟩ Q:=ae.qv (bT hx) hn k
theorem rF {x:Operand} {s:TypeId} {j off:Nat} {b:Bk} {o o':Nat} [l0 P s j off] (hx:dh tm x=some (.ptr b o)) (ho:o+off=o') (hn:ac d n=true) (k:ae P all rest ⟨n,(d,.ptr b o') :: tm,hp⟩ Q):ae P all (⟨some d,.fieldAddr s x j,ty,pos,af,none⟩ :: rest) ⟨n,tm,hp⟩ Q:=ae.qv (aB hx ho) hn k
theorem rL {t:TypeId} {D:TypeDesc} {x:Operand} {b:Bk} {o:Nat} {cs:List AV} {av:AV} [aF P t D] (hD:TypeDesc.jN D=false) (hx:dh tm x=some (.ptr b o)) (f:mb hp b (.cells cs)) (ho:cs[o]? =some av) (hn:ac d n=true) (k:ae P all rest ⟨n,(d,av) :: tm,hp⟩ Q):ae P all (⟨some d,.load t x,ty,pos,af,none⟩ :: rest) ⟨n,tm,hp⟩ Q:=ae.qv (aJ hD hx f ho) hn k
theorem rT {c x y:Operand} {av:AV} (hc:dh tm c=some (.bool true)) (hx:dh tm x=some av) (hn:ac d n=true) (k:ae P all rest ⟨n,(d,av) :: tm,hp⟩ Q):ae P all (⟨some d,.pick c x y,ty,pos,af,none⟩ :: rest) ⟨n,tm,hp⟩ Q:=ae.qv (gr hc hx) hn k
theorem rE {c x y:Operand} {av:AV} (hc:dh tm c=some (.bool false)) (hx:dh tm y=some av) (hn:ac d n=true) (k:ae P all rest ⟨n,(d,av) :: tm,hp⟩ Q):ae P all (⟨some d,.pick c x y,ty,pos,af,none⟩ :: rest) ⟨n,tm,hp⟩ Q:=ae.qv (eQ hc hx) hn k
theorem rX {x:Operand} {i:Nat} {vs:List AV} {av:AV} (hx:dh tm x=some (.ma vs)) (hi:vs[i]? =some av) (hn:ac d n=true) (k:ae P all rest ⟨n,(d,av) :: tm,hp⟩ Q):ae P all (⟨some d,.extract x i,ty,pos,af,none⟩ :: rest) ⟨n,tm,hp⟩ Q:=ae.qv (jH hx hi) hn k
theorem rN (h:Q ⟨n,tm,hp⟩):ae P all [] ⟨n,tm,hp⟩ Q:=ae.nil h
theorem rG {op:Op} {j:Nat} {want b:Bool} {s:Nat} (hj:(all[j]?).bind (·.dst)=some s) (hs:lk tm s=some (.bool b)) (hb:b=!want) (hn:ac d n=true) (k:ae P all rest ⟨n,(d,.raw undef) :: tm,hp⟩ Q):ae P all (⟨some d,op,ty,pos,af,some (j,want)⟩ :: rest) ⟨n,tm,hp⟩ Q:=ae.az hj hs hb hn k
theorem rY {op:Op} {j:Nat} {want b:Bool} {s:Nat} (hj:(all[j]?).bind (·.dst)=some s) (hs:lk tm s=some (.bool b)) (hb:b=want) (k:ae P all (⟨some d,op,ty,pos,af,none⟩ :: rest) ⟨n,tm,hp⟩ Q):ae P all (⟨some d,op,ty,pos,af,some (j,want)⟩ :: rest) ⟨n,tm,hp⟩ Q:=ae.aD hj hs hb k
end rules
section rules
variable {P:Program} {R:St→Prop} {k:List It} {σ:St}
theorem tS {x y:Code} (h:ab P R (.code x :: .code y :: k) σ):ab P R (.code (.seq x y) :: k) σ:=ab.seq h
theorem tR {id:Nat} {l:List Oper} (h:ae P l.toArray l σ (ab P R k)):ab P R (.code (.region id l.toArray false) :: k) σ:=ab.region h
theorem aT {id:Nat} {l:List Oper} {y:Code} (h:ae P l.toArray l σ (ab P R (.code y :: k))):ab P R (.code (.seq (.region id l.toArray false) y) :: k) σ:=ab.seq (ab.region h)
theorem tK (h:ab P R k σ):ab P R (.code .skip :: k) σ:=ab.skip h
end rules
end Go.Eng
