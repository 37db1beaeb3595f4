/- Plain facts on what the functions compute. No program in sight. -/
import Derived.Test.YthfphcbipahkmaaGreatDoorCore
open Array renaming range→bc,toList_extract→bs
open Bool renaming false_eq_true→aJ,eq_iff_iff→bo,not_true→bW
open Go renaming Proofs.ltOf→al
open List renaming pairwise_cons→af,mem_cons→ag,drop_of_length_le→ap,getElem?_eq_none→aw,range→a6,ext_getElem?→a7,getElem?_drop→be,getElem?_take→bi,getElem_mem→bk,extract→bv,take_of_length_le→bx,pairwise_map→bz,drop_drop→bO,getElem?_set_ne→bX,filter_eq_self→b4
open Option renaming bind_some→ac,map→ad,some.injEq→bm,map_some→bp
set_option linter.unusedVariables false
namespace Go.Beacon
open Go Go.Eng
theorem bn {x:Int} (h1:-9223372036854775808≤x) (h2:x≤9223372036854775807):bE x=x:=vX ⟨h1,h2⟩
theorem Tc {a b:Int} (h:0 < b) (h0:0≤a):rem a b=some (a % b):=by
 unfold rem
 rw [if_neg (by omega),Int.tmod_eq_emod_of_nonneg h0]
theorem V2 {a b:Int} (h:b≠0):rem a b=some (a.tmod b):=by unfold rem;rw [if_neg h]
theorem P3 {a b:Int} (h:b≠0):quo a b=some (bE (a.tdiv b)):=by unfold quo;rw [if_neg h]
theorem gj {α:Type} (xs:List α) {i:Int} (h0:0≤i) (h1:i < xs.length):∃ x,idx xs i=some x∧x∈xs∧xs.drop i.toNat=x :: xs.drop (i+1).toNat:=by
 have h:i.toNat < xs.length:=by omega
 refine ⟨xs[i.toNat],by unfold idx;rw [if_pos h0];simp [h],bk h,?_⟩
 rw [show (i+1).toNat=i.toNat+1 by omega]
 exact List.drop_eq_getElem_cons h
theorem vC {α:Type} {xs:List α} {i:Int} {x:α} (h:idx xs i=some x):x∈xs:=List.mem_of_getElem? (jX h).2.2
theorem lx {α:Type} {xs ys:List α} (h:xs.length+ys.length≤1000000000):app xs ys=some (xs++ys):=by unfold app;rw [if_pos h]
theorem Lk {α:Type} {xs:List α} {l h:Int} (h0:0≤l) (h1:l≤h) (h2:h≤xs.length):Cj xs l h=some ((xs.drop l.toNat).take (h.toNat - l.toNat)):=by
 unfold Cj;rw [if_pos ⟨h0,h1,h2⟩]
def Ew {α σ A:Type} (step:σ→α→Int→Option (σ⊕A)) (fin:σ→Int→Option A):List α→σ→Int→Option A
 | [],s,i=>fin s i
 | x :: r,s,i=>match step s x i with
   | none=>none
   | some (.inl s')=>Ew step fin r s' (i+1)
   | some (.inr a)=>some a
theorem Ex {α σ A X:Type} (xs:List α) (mk:σ→Int→X) (f:X→Option (X⊕A)) (step:σ→α→Int→Option (σ⊕A)) (fin:σ→Int→Option A)
 (h1:∀ s (i:Int) x,0≤i→i < xs.length→idx xs i=some x→f (mk s i)=(step s x i).map (Sum.map (fun s'=>mk s' (i+1)) id))
 (h2:∀ s,f (mk s xs.length)=(fin s xs.length).map .inr):∀ (n:Nat) (s:σ) (i:Int),0≤i→i+n=xs.length→iter f (mk s i)=Ew step fin (xs.drop i.toNat) s i
 | 0,s,i,h0,hn=>by
   have hi:i=xs.length:=by omega
   subst hi
   rw [iter_eq,h2,bb]
   simp [Ew]
 | n+1,s,i,h0,hn=>by
   obtain ⟨x,hx,_,hd⟩:=gj xs h0 (by omega)
   rw [iter_eq,h1 s i x h0 (by omega) hx,hd]
   simp only [Ew]
   cases Ca:step s x i with
   | none=>rfl
   | some u=>
     cases u with
     | inl s'=>exact Ex xs mk f step fin h1 h2 n s' (i+1) (by omega) (by omega)
     | inr a=>rfl
theorem Jm {α σ A X:Type} (xs:List α) (mk:σ→Int→X) (f:X→Option (X⊕A)) (step:σ→α→Int→Option (σ⊕A)) (fin:σ→Int→Option A)
 (h1:∀ s (i:Int) x,0≤i→i < xs.length→idx xs i=some x→f (mk s i)=(step s x i).map (Sum.map (fun s'=>mk s' (i+1)) id))
 (h2:∀ s,f (mk s xs.length)=(fin s xs.length).map .inr) (s:σ):iter f (mk s 0)=Ew step fin xs s 0:=
 Ex xs mk f step fin h1 h2 xs.length s 0 (by omega) (by omega)
def Ey {α A:Type} (g:α→Option A) (e:A):List α→A
 | []=>e
 | x :: r=>match g x with
   | some a=>a
   | none=>Ey g e r
theorem BQ {α A:Type} (xs:List α) (f:Int→Option (Int⊕A)) (g:α→Option A) (e:A) (hlen:(xs.length:Int)≤4611686018427387904)
 (h1:∀ (i:Int) x,0≤i→i < xs.length→idx xs i=some x→f i=match g x with | some a=>some (.inr a) | none=>some (.inl (i+1)))
 (h2:f xs.length=some (.inr e)):iter f 0=some (Ey g e xs):=by
 have h:=Jm xs (fun (_:Unit) i=>i) f (fun _ x _=>match g x with | some a=>some (.inr a) | none=>some (.inl ())) (fun _ _=>some e)
  (fun s i x h0 h3 h4=>by rw [h1 i x h0 h3 h4];cases g x<;>rfl) (fun s=>by rw [h2];rfl) ()
 rw [h]
 clear h h1 h2 hlen
 suffices ∀ (xs:List α) (i:Int),Ew (fun (_:Unit) x _=>match g x with | some a=>some (.inr a) | none=>some (.inl ())) (fun _ _=>some e) xs () i=some (Ey g e xs) from this xs 0
 intro xs
 induction xs with
 | nil=>intro i;rfl
 | cons x r ih=>
   intro i
   simp only [Ew,Ey]
   cases g x with
   | none=>exact ih (i+1)
   | some a=>rfl
theorem Ah {α:Type} (p:α→Bool):∀ (xs:List α),Ey (fun x=>if p x=true then none else some false) true xs=xs.all p
 | []=>rfl
 | x :: r=>by
   simp only [Ey,List.all_cons]
   cases hp:p x<;>simp [Ah p r]
end Go.Beacon
set_option linter.unusedSimpArgs false
namespace Go.Beacon
open Go Go.Eng
def y9 {α:Type} [DecidableEq α] (xs ys:List α) (i:Int):Option (Int⊕Bool):=
 if i < (xs.length:Int) then
  (idx xs i).bind fun v3=>
  (idx ys i).bind fun v4=>
  if v3≠v4 then
   ad .inr (some false)
  else
   some (.inl (bE (i+(1:Int))))
 else
  ad .inr (some true)
noncomputable def P4 {α:Type} [DecidableEq α] (xs ys:List α):Option Bool:=
 if (xs.length:Int)≠(ys.length:Int) then
  some false
 else
  iter (fun x:Int=>y9 xs ys x) 0
theorem Cu {α:Type} [DecidableEq α] (xs ys:List α) (hl:xs.length=ys.length) (hb:(xs.length:Int)≤4611686018427387904):∀ (n:Nat) (i:Int),0≤i→i+n=xs.length→
 iter (fun x:Int=>y9 xs ys x) i=some (decide (xs.drop i.toNat=ys.drop i.toNat))
 | 0,i,h0,hn=>by
   rw [iter_eq,y9,if_neg (by omega),ap (by omega),ap (by omega)];simp
 | n+1,i,h0,hn=>by
   obtain ⟨x,hx,_,hd⟩:=gj xs h0 (by omega)
   obtain ⟨y,hy,_,vT⟩:=gj ys h0 (by omega)
   rw [iter_eq,y9,if_pos (by omega),hx,hy,hd,vT]
   simp only [ac]
   by_cases HO:x=y
   ·subst HO
    rw [if_neg (by simp)]
    simp only [ac,bD]
    rw [bn (by omega) (by omega)]
    have:=Cu xs ys hl hb n (i+1) (by omega) (by omega)
    rw [this];simp
   ·rw [if_pos HO];simp [HO]
theorem NB {α:Type} [DecidableEq α] (xs ys:List α) (hb:(xs.length:Int)≤4611686018427387904):P4 xs ys=some (decide (xs=ys)):=by
 unfold P4
 by_cases h:xs.length=ys.length
 ·rw [if_neg (by omega),Cu xs ys h hb xs.length 0 (by omega) (by omega)];simp
 ·rw [if_pos (by omega),decide_eq_false (fun e=>h (by rw [e]))]
def td {α:Type} (xs:List α) (f:α→Option Bool) (i:Int):Option (Int⊕Int):=
 if i < (xs.length:Int) then
  (idx xs i).bind fun v3=>
  (f v3).bind fun v4=>
  if v4=true then
   ad .inr (some i)
  else
   some (.inl (bE (i+(1:Int))))
 else
  ad .inr (some (-1:Int))
noncomputable def xj {α:Type} (xs:List α) (f:α→Option Bool):Option Int:=iter (fun x:Int=>td xs f x) 0
noncomputable def zH {α:Type} (xs:List α) (f:α→Option Bool):Option Bool:=(xj xs f).bind fun v1=>some (decide ((0:Int)≤v1))
def lI {α:Type} (p:α→Bool):List α→Int→Int
 | [],_=>-1
 | x :: r,i=>if p x=true then i else lI p r (i+1)
theorem Ge {α:Type} (p:α→Bool):∀ (xs:List α) (i:Int),0≤i→(0≤lI p xs i↔xs.any p=true)
 | [],i,h=>by simp [lI]
 | x :: r,i,h=>by
   have:=Ge p r (i+1) (by omega)
   simp only [lI,List.any_cons,Bool.or_eq_true]
   split
   ·rename_i hp;simp [hp,h]
   ·rename_i hp
    have cQ:p x=false:=by simpa using hp
    simp only [cQ,aJ,false_or];exact this
theorem xD {α:Type} (xs:List α) (f:α→Option Bool) (p:α→Bool) (hf:∀ x∈xs,f x=some (p x)) (hb:(xs.length:Int)≤4611686018427387904):∀ (n:Nat) (i:Int),0≤i→i+n=xs.length→
 iter (fun x:Int=>td xs f x) i=some (lI p (xs.drop i.toNat) i)
 | 0,i,h0,hn=>by
   rw [iter_eq,td,if_neg (by omega),ap (by omega)];rfl
 | n+1,i,h0,hn=>by
   obtain ⟨x,hx,hm,hd⟩:=gj xs h0 (by omega)
   rw [iter_eq,td,if_pos (by omega),hx,hd]
   simp only [ac,hf x hm,lI]
   split
   ·rfl
   ·simp only [ac,bD]
    rw [bn (by omega) (by omega)]
    exact xD xs f p hf hb n (i+1) (by omega) (by omega)
theorem qm {α:Type} (xs:List α) (f:α→Option Bool) (p:α→Bool) (hf:∀ x∈xs,f x=some (p x)) (hb:(xs.length:Int)≤4611686018427387904):xj xs f=some (lI p xs 0):=by
 unfold xj
 rw [xD xs f p hf hb xs.length 0 (by omega) (by omega)];simp
theorem wH {α:Type} (xs:List α) (f:α→Option Bool) (p:α→Bool) (hf:∀ x∈xs,f x=some (p x)) (hb:(xs.length:Int)≤4611686018427387904):zH xs f=some (xs.any p):=by
 unfold zH
 rw [qm xs f p hf hb]
 simp only [ac,bm]
 rw [bo,decide_eq_true_eq]
 exact Ge p xs 0 (by omega)
def Hj (xs:List Int) (i:Int):Option (Int⊕Int):=
 if i < (xs.length:Int) then
  (idx xs i).bind fun v3=>
  if v3≠(0:Int) then
   ad .inr (some v3)
  else
   some (.inl (bE (i+(1:Int))))
 else
  ad .inr (some (0:Int))
noncomputable def gOr (xs:List Int):Option Int:=iter (fun x:Int=>Hj xs x) 0
def rk:List Int→Int
 | []=>0
 | x :: r=>if x≠0 then x else rk r
theorem Ai (xs:List Int) (hb:(xs.length:Int)≤4611686018427387904):gOr xs=some (rk xs):=by
 unfold gOr
 rw [BQ xs (fun x:Int=>Hj xs x) (fun x=>if x≠0 then some x else none) 0 hb]
 ·congr 1
  clear hb
  induction xs with
  | nil=>rfl
  | cons x r ih=>
    simp only [Ey,rk]
    by_cases h:x=0
    ·subst h;simpa using ih
    ·simp [h]
 ·intro i x h0 h1 hx
  unfold Hj
  rw [if_pos h1,hx]
  simp only [ac]
  by_cases h:x=0
  ·rw [bn (by omega) (by omega)];simp [h]
  ·simp [h]
 ·unfold Hj;rw [if_neg (by omega)];rfl
def dZ (a b:Int):Int:=if a < b then -1 else if b < a then 1 else 0
theorem wI:∀ l:List UInt8,Lib.compareBytes l l=0
 | []=>rfl
 | a :: l=>by simp only [Lib.compareBytes];rw [if_neg (by simp),if_neg (by simp)];exact wI l
theorem Hk (a:UInt8):¬ a < a:=by simp
theorem BR (a b:UInt8):a < b∨a=b∨b < a:=by
 rcases Nat.lt_trichotomy a.toNat b.toNat with h | h | h
 ·exact .inl h
 ·exact .inr (.inl (UInt8.toNat_inj.1 h))
 ·exact .inr (.inr h)
theorem wJ {a b:UInt8} (h:a < b):¬ b < a:=by
 rw [UInt8.lt_iff_toNat_lt] at *;omega
theorem Ez:∀ a b:List UInt8,Lib.compareBytes a b=- Lib.compareBytes b a
 | [],[]=>rfl
 | [],_ :: _=>rfl
 | _ :: _,[]=>rfl
 | a :: la,b :: lb=>by
   simp only [Lib.compareBytes]
   rcases BR a b with h | h | h
   ·rw [if_pos h,if_neg (wJ h),if_pos h]
   ·subst h
    rw [if_neg (by simp),if_neg (by simp),if_neg (by simp),if_neg (by simp)];exact Ez la lb
   ·rw [if_neg (wJ h),if_pos h,if_pos h];rfl
theorem uv:∀ {a b:List UInt8},Lib.compareBytes a b=0→a=b
 | [],[],_=>rfl
 | [],_ :: _,h=>by simp [Lib.compareBytes] at h
 | _ :: _,[],h=>by simp [Lib.compareBytes] at h
 | a :: la,b :: lb,h=>by
   simp only [Lib.compareBytes] at h
   split at h
   ·simp at h
   ·split at h
    ·simp at h
    ·rename_i h1 h2
     rcases BR a b with h3 | h3 | h3
     ·exact absurd h3 h1
     ·rw [h3,uv h]
     ·exact absurd h3 h2
theorem wK:∀ a b:List UInt8,Op.bytesLess a b=decide (Lib.compareBytes a b < 0)
 | [],[]=>by simp [Op.bytesLess,Lib.compareBytes]
 | [],_ :: _=>by simp [Op.bytesLess,Lib.compareBytes]
 | _ :: _,[]=>by simp [Op.bytesLess,Lib.compareBytes]
 | a :: la,b :: lb=>by
   simp only [Op.bytesLess,Lib.compareBytes]
   rcases BR a b with h | h | h
   ·simp [h]
   ·subst h;simp [wK la lb]
   ·have h1:=wJ h
    have h2:(a==b)=false:=by
     rw [beq_eq_false_iff_ne];intro e;subst e;exact Hk _ h
    simp [h,h1,h2]
theorem Td (a b:List UInt8):(a==b)=decide (Lib.compareBytes a b=0):=by
 rw [bo]
 simp only [beq_iff_eq,decide_eq_true_eq]
 exact ⟨fun h=>by rw [h];exact wI b,uv⟩
theorem sM:∀ (l:List UInt8) (c:UInt8),(Lib.indexByte l c < 0)↔c∉l
 | [],c=>by simp [Lib.indexByte]
 | b :: l,c=>by
   have ih:=sM l c
   have Ue:=Lib.indexByte_ge l c
   simp only [Lib.indexByte,ag,not_or]
   by_cases hb:b=c
   ·subst hb;simp
   ·rw [if_neg (by simpa using hb)]
    by_cases h1:Lib.indexByte l c=-1
    ·rw [h1] at ih
     simp only [h1,beq_self_eq_true,if_true]
     exact ⟨fun _=>⟨fun e=>hb e.symm,ih.1 (by omega)⟩,fun _=>by omega⟩
    ·rw [if_neg (by simpa using h1)]
     exact ⟨fun h=>by omega,fun h=>absurd (ih.2 h.2) (by omega)⟩
theorem abT (c:UInt8):((c.toNat:Int)).toNat.toUInt8=c:=by simp
structure Fq {α:Type} (cf:α→α→Int) (xs:List α):Prop where
 NC:∀ x∈xs,¬ cf x x < 0
 tr:∀ x∈xs,∀ y∈xs,∀ z∈xs,cf x y < 0→cf y z < 0→cf x z < 0
 ntr:∀ x∈xs,∀ y∈xs,∀ z∈xs,¬ cf x y < 0→¬ cf y z < 0→¬ cf x z < 0
def UF {α:Type} (cf:α→α→Int) (xs:List α):Prop:=xs.Pairwise (fun a b=>¬ cf b a < 0)
theorem Fq.mono {α:Type} {cf:α→α→Int} {xs ys:List α} (h:Fq cf xs) (hs:∀ y∈ys,y∈xs):Fq cf ys:=
 ⟨fun x hx=>h.NC x (hs x hx),fun x hx y hy z hz=>h.tr x (hs x hx) y (hs y hy) z (hs z hz),fun x hx y hy z hz=>h.ntr x (hs x hx) y (hs y hy) z (hs z hz)⟩
def Ba {α:Type} (n4:Int) (l7:List α) (n8:Int) (c9:Bool):Option (((List α)×Int)⊕(((List α)×Int)⊕(List α))):=
 if c9=true then
  (idx l7 (bE (n8 - (1:Int)))).bind fun lF=>
  (idx l7 n8).bind fun sT=>
  (idx l7 n8).bind fun CQ=>
  (idx (l7.set n8.toNat lF) (bE (n8 - (1:Int)))).bind fun tL=>
  some (.inl ((l7.set n8.toNat lF).set (bE (n8 - (1:Int))).toNat sT,bE (n8 - (1:Int))))
 else
  ad .inr (some (.inl (l7,bE (n4+(1:Int)))))
def Df {α:Type} (ai:Int) (qN:α→α→Option Int) (n4:Int) (l7:List α) (n8:Int):Option (((List α)×Int)⊕(((List α)×Int)⊕(List α))):=
 if ai < n8 then
  (idx l7 n8).bind fun v10=>
  (idx l7 (bE (n8 - (1:Int)))).bind fun v11=>
  (qN v10 v11).bind fun v12=>
  Ba n4 l7 n8 (decide (v12 < (0:Int)))
 else
  Ba n4 l7 n8 false
noncomputable def Bb {α:Type} (ai:Int) (qN:α→α→Option Int) (n4:Int) (l7:List α) (n8:Int):Option (((List α)×Int)⊕(List α)):=
 iter (fun x:(List α)×Int=>Df ai qN n4 x.1 x.2) (l7,n8)
noncomputable def Dg {α:Type} (ai aH:Int) (qN:α→α→Option Int) (l3:List α) (n4:Int):Option (((List α)×Int)⊕(List α)):=
 if n4 < aH then
  Bb ai qN n4 l3 n4
 else
  ad .inr (some l3)
noncomputable def Bc {α:Type} (ai aH:Int) (qN:α→α→Option Int) (l3:List α) (n4:Int):Option (List α):=
 iter (fun x:(List α)×Int=>Dg ai aH qN x.1 x.2) (l3,n4)
noncomputable def YI {α:Type} (aa:List α) (ai aH:Int) (qN:α→α→Option Int):Option (List α):=
 Bc ai aH qN aa (bE (ai+(1:Int)))
theorem P5 {α:Type} (P:List α) (x y:α) (T:List α):((P++y :: x :: T).set (P.length+1) y).set P.length x=P++x :: y :: T:=by
 induction P with
 | nil=>rfl
 | cons p P ih=>simp only [List.cons_append,List.length_cons,List.set_cons_succ,ih]
theorem Hl {α:Type} (P:List α) (x:α) (T:List α) {i:Int} (hi:i=P.length):idx (P++x :: T) i=some x:=by
 subst hi
 unfold idx
 rw [if_pos (by omega)]
 simp
theorem V3 {α:Type} {f:α→α→Option Int} {cf:α→α→Int} {x:α} {r:List α} (hf:∀ a∈x :: r,∀ b∈x :: r,f a b=some (cf a b)) (hO:Fq cf (x :: r)):Sort.SWO (al (vb f x r)):=by
 have e:∀ i j,vb f x r i j=cf (tP x r i) (tP x r j):=fun i j=>by unfold vb;rw [hf _ (jl x r i) _ (jl x r j)];rfl
 refine ⟨fun i=>?_,fun i j k h1 h2=>?_,fun i j k h1 h2=>?_⟩
 ·unfold al;rw [e];simpa using hO.NC _ (jl x r i)
 ·unfold al at *;rw [e] at *
  simp only [decide_eq_true_eq] at *
  exact hO.tr _ (jl x r i) _ (jl x r j) _ (jl x r k) h1 h2
 ·unfold al at *;rw [e] at *
  simp only [decide_eq_false_iff_not] at *
  exact hO.ntr _ (jl x r i) _ (jl x r j) _ (jl x r k) h1 h2
theorem ND {α:Type} (x:α) (r:List α):(a6 (r.length+1)).map (tP x r)=x :: r:=by
 apply a7
 intro i
 rw [List.getElem?_map]
 by_cases hi:i < r.length+1
 ·rw [List.getElem?_range hi,bp]
  unfold tP
  rw [List.getD_eq_getElem?_getD,List.getElem?_eq_getElem (l:=x :: r) (by simpa using hi)];rfl
 ·rw [aw (by simp;omega),aw (by simp;omega)];rfl
theorem Bd {α:Type} (f:α→α→Option Int) (cf:α→α→Int) (xs:List α) (hl:xs.length≤100000) (hf:∀ a∈xs,∀ b∈xs,f a b=some (cf a b)) (hO:Fq cf xs):∃ Z,DK f xs=some Z∧Z.Perm xs∧UF cf Z:=by
 cases xs with
 | nil=>exact ⟨[],rfl,List.Perm.refl _,.nil⟩
 | cons x r=>
   have hS:=V3 hf hO
   have hlen:r.length+1≤100000:=by simpa using hl
   rw [zV,if_pos ⟨by omega,fun a ha b hb=>⟨_,hf a ha b hb⟩,hS⟩]
   have Sg:=Sort.pdq_sorts (al (vb f x r)) hS (bc (r.length+1)) 0 (r.length+1) (Lib.bitLen (r.length+1)) true true (Nat.zero_le _) (by simp) (Or.inl rfl)
   generalize Sort.pdq (al (vb f x r)) (bc (r.length+1)) 0 (r.length+1) (Lib.bitLen (r.length+1)) true true=d at Sg
   obtain ⟨⟨h1,_,h3⟩,h4⟩:=Sg
   have hd:d.size=r.length+1:=by simpa using h1
   have mC:d.toList.Perm (a6 (r.length+1)):=by
    have a1:(d.extract 0 (r.length+1)).toList=d.toList:=by
     rw [bs]
     simp [bv]
     exact bx (by simp [hd])
    have a2:((bc (r.length+1)).extract 0 (r.length+1)).toList=a6 (r.length+1):=by
     rw [bs]
     simp [bv]
    rw [a1,a2] at h3
    exact h3
   refine ⟨_,rfl,?_,?_⟩
   ·have:=mC.map (tP x r)
    rw [ND] at this
    exact this
   ·unfold UF
    rw [bz,List.pairwise_iff_getElem]
    intro i j hi hj yQ
    have UT:i < d.size:=by simpa using hi
    have WK:j < d.size:=by simpa using hj
    have h:=h4 i j (Nat.zero_le _) yQ (by omega)
    unfold al vb at h
    rw [hf _ (jl x r _) _ (jl x r _)] at h
    simp only [Option.getD_some,decide_eq_false_iff_not] at h
    rw [getElem!_pos d i UT,getElem!_pos d j WK] at h
    simpa using h
theorem xk {α:Type} {cf:α→α→Int}:∀ {X Y:List α},X.Perm Y→UF cf X→UF cf Y→(∀ a∈X,∀ b∈X,¬ cf a b < 0→¬ cf b a < 0→a=b)→X=Y
 | [],Y,hp,_,_,_=>by rw [List.nil_perm.1 hp]
 | x :: X,[],hp,_,_,_=>by have:=hp.length_eq;simp at this
 | x :: X,y :: Y,hp,hX,hY,ha=>by
   have HO:x=y:=by
    have hx:x∈y :: Y:=hp.mem_iff.1 (by simp)
    have hy:y∈x :: X:=hp.mem_iff.2 (by simp)
    rcases ag.1 hx with h | h
    ·exact h
    ·rcases ag.1 hy with h' | h'
     ·exact h'.symm
     ·exact ha x (by simp) y (by simp [h']) ((af.1 hY).1 x h) ((af.1 hX).1 y h')
   subst HO
   rw [xk (List.Perm.cons_inv hp) (af.1 hX).2 (af.1 hY).2 (fun a h b h'=>ha a (by simp [h]) b (by simp [h']))]
def EA {α:Type} (Z:α) (l10:List α) (n11:Int):Option (Int⊕(List α)):=
 (Cj l10 n11 (l10.length:Int)).bind fun jS=>
 (Cj (E7 l10 n11 jS.length Z) (0:Int) n11).bind fun Cs=>
 ad .inr (some Cs)
theorem V4 {α:Type} (Z:α) (l:List α) {k:Int} (h0:0≤k) (h1:k≤l.length):EA Z l k=some (.inr (l.take k.toNat)):=by
 unfold EA
 rw [Lk h0 h1 (by omega)]
 simp only [ac]
 have hlen:(((l.drop k.toNat).take (((l.length:Int)).toNat - k.toNat)).length)=l.length - k.toNat:=by simp
 rw [hlen,Lk (by omega) h0 (by unfold E7;simp;omega)]
 simp only [ac,bp,bm,Sum.inr.injEq]
 unfold E7
 simp only [Int.toNat_zero,List.drop_zero,Nat.sub_zero]
 rw [List.append_assoc,List.take_append_of_le_length (by simp;omega),List.take_take]
 congr 1;omega
def Hm {α:Type} (n7:Int) (vN:List α) (n12:Int):Option (((List α)×Int×Int)⊕(List α)):=
 some (.inl (vN,n12,bE (n7+(1:Int))))
def Hn {α:Type} (Z:α) (l5:List α) (n6:Int):Option (List α):=
 (Cj l5 n6 (l5.length:Int)).bind fun oK=>
 (Cj (E7 l5 n6 oK.length Z) (0:Int) n6).bind fun xL=>
 some xL
def Dh {α:Type} (Z:α) (iD:α→Option Bool) (l5:List α) (n6 n7:Int):Option (((List α)×Int×Int)⊕(List α)):=
 if n7 < (l5.length:Int) then
  (idx l5 n7).bind fun v8=>
  (iD v8).bind fun v10=>
  if (!v10)=true then
   (idx l5 n6).bind fun lF=>
   Hm n7 (l5.set n6.toNat v8) (bE (n6+(1:Int)))
  else
   Hm n7 l5 n6
 else
  ad .inr (Hn Z l5 n6)
noncomputable def V5 {α:Type} (Z:α) (aa:List α) (iD:α→Option Bool):Option (List α):=
 (xj aa iD).bind fun v1=>
 if v1=(-1:Int) then
  some aa
 else
  iter (fun x:(List α)×Int×Int=>Dh Z iD x.1 x.2.1 x.2.2) (aa,v1,bE (v1+(1:Int)))
theorem Te {α:Type} (Z:α) (l:List α) {k:Int} (h0:0≤k) (h1:k≤l.length):Hn Z l k=some (l.take k.toNat):=by
 have:=V4 Z l h0 h1
 unfold EA at this
 unfold Hn
 cases h:Cj l k l.length with
 | none=>rw [h] at this;simp at this
 | some v=>
   rw [h] at this
   simp only [ac] at this ⊢
   cases h2:Cj (E7 l k v.length Z) 0 k with
   | none=>rw [h2] at this;simp at this
   | some u=>rw [h2] at this;simpa using this
theorem Cv {α:Type} (p:α→Bool) {xs:List α} {m:Nat} (h:m < xs.length):(xs.take (m+1)).filter p=if p xs[m]=true then (xs.take m).filter p++[xs[m]] else (xs.take m).filter p:=by
 rw [← List.take_append_getElem h,List.filter_append]
 by_cases hp:p xs[m]=true<;>simp [hp]
theorem P6 {α:Type} (Z:α) (iD:α→Option Bool) (p:α→Bool) (xs:List α) (hl:(xs.length:Int)≤100000) (hf:∀ x∈xs,iD x=some (p x)):∀ (n:Nat) (l:List α) (k j:Int),1≤j→j+n=xs.length→l.length=xs.length→0≤k→k < j→l.drop j.toNat=xs.drop j.toNat→l.take k.toNat=(xs.take j.toNat).filter (fun x=>!p x)→
 iter (fun x:(List α)×Int×Int=>Dh Z iD x.1 x.2.1 x.2.2) (l,k,j)=some (xs.filter (fun x=>!p x)):=by
 intro n
 induction n with
 | zero=>
   intro l k j g1 g2 g3 g4 g5 g6 g7
   rw [iter_eq,Dh,if_neg (by simp only;omega),bb,Te Z l g4 (by omega),g7,bx (by omega)]
 | succ n ih=>
   intro l k j g1 g2 g3 g4 g5 g6 g7
   have w1:bE (j+1)=j+1:=by rw [bn]<;>omega
   have w3:bE (k+1)=k+1:=by rw [bn]<;>omega
   have hm:j.toNat < xs.length:=by omega
   have hgl:∀ m:Nat,j.toNat≤m→l[m]? =xs[m]?:=by
    intro m hm
    have:=congrArg (fun q:List α=>q[m - j.toNat]?) g6
    simp only [be] at this
    rw [show j.toNat+(m - j.toNat)=m by omega] at this
    exact this
   have e1:idx l j=some xs[j.toNat]:=by
    unfold idx;rw [if_pos (by omega),hgl _ (Nat.le_refl _)];simp [hm]
   have Ll:=Cv (fun x=>!p x) hm
   rw [show j.toNat+1=(j+1).toNat by omega] at Ll
   have V6:l.drop (j+1).toNat=xs.drop (j+1).toNat:=by
    have:=congrArg (List.drop 1) g6
    rw [bO,bO,show j.toNat+1=(j+1).toNat by omega] at this
    exact this
   rw [iter_eq,Dh,if_pos (by simp only;omega)]
   simp only [e1,ac,hf _ (bk hm)]
   unfold Hm
   rw [w1]
   cases hp:p xs[j.toNat] with
   | true=>
     rw [hp] at Ll
     simp only [bW,aJ,if_false] at Ll ⊢
     simp only [ac,bD]
     exact ih l k (j+1) (by omega) (by omega) g3 g4 (by omega) V6 (by rw [g7,Ll])
   | false=>
     rw [hp] at Ll
     simp only [Bool.not_false,if_true] at Ll ⊢
     obtain ⟨y,hy,_,_⟩:=gj l (i:=k) g4 (by omega)
     simp only [hy,ac,bD,w3]
     refine ih (l.set k.toNat _) (k+1) (j+1) (by omega) (by omega) (by simpa using g3) (by omega) (by omega) ?_ ?_
     ·apply a7
      intro m
      rw [be,be,bX (by omega),hgl _ (by omega)]
     ·rw [Ll,← g7,show (k+1).toNat=k.toNat+1 by omega]
      apply a7
      intro m
      have M6:k.toNat < l.length:=by omega
      by_cases hm:m < k.toNat
      ·rw [bi,if_pos (by omega),bX (by omega),List.getElem?_append_left (by simp;omega),bi,if_pos hm]
      ·by_cases hm2:m=k.toNat
       ·subst hm2
        rw [bi,if_pos (by omega),List.getElem?_set_self M6,List.getElem?_append_right (by simp only [List.length_take];omega)]
        simp [Nat.min_eq_left (Nat.le_of_lt M6)]
       ·rw [aw (by simp;omega),aw (by simp;omega)]
theorem yx {α:Type} (p:α→Bool):∀ (xs:List α) (i:Int),0≤i→(lI p xs i=-1∧∀ x∈xs,p x=false)∨(i≤lI p xs i∧lI p xs i < i+xs.length∧(∀ x∈xs.take (lI p xs i - i).toNat,p x=false)∧∃ y,xs[(lI p xs i - i).toNat]? =some y∧p y=true)
 | [],i,h=>.inl ⟨rfl,by simp⟩
 | x :: r,i,h=>by
   by_cases hp:p x=true
   ·have e:lI p (x :: r) i=i:=by simp [lI,hp]
    rw [e]
    exact .inr ⟨by omega,by simp;omega,by simp,x,by simp,hp⟩
   ·have e:lI p (x :: r) i=lI p r (i+1):=by simp [lI,hp]
    rw [e]
    have cQ:p x=false:=by simpa using hp
    rcases yx p r (i+1) (by omega) with ⟨h1,h2⟩ | ⟨h1,h2,h3,y,h4,h5⟩
    ·exact .inl ⟨h1,fun y hy=>by rcases ag.1 hy with rfl | hy;exact cQ;exact h2 y hy⟩
    ·have e:(lI p r (i+1) - i).toNat=(lI p r (i+1) - (i+1)).toNat+1:=by omega
     refine .inr ⟨by omega,by simp;omega,?_,y,?_,h5⟩
     ·rw [e]
      intro y hy
      rw [List.take_succ_cons] at hy
      rcases ag.1 hy with rfl | hy
      ·exact cQ
      ·exact h3 y hy
     ·rw [e,List.getElem?_cons_succ];exact h4
theorem Mc {α:Type} (Z:α) (iD:α→Option Bool) (p:α→Bool) (xs:List α) (hl:(xs.length:Int)≤100000) (hf:∀ x∈xs,iD x=some (p x)):V5 Z xs iD=some (xs.filter (fun x=>!p x)):=by
 unfold V5
 rw [qm xs iD p hf (by omega)]
 simp only [ac]
 rcases yx p xs 0 (by omega) with ⟨h1,h2⟩ | ⟨h1,h2,h3,y,h4,h5⟩
 ·rw [if_pos h1]
  congr 1
  exact (b4.2 (fun x hx=>by simp [h2 x hx])).symm
 ·generalize lI p xs 0=v at *
  simp only [Int.sub_zero] at h3 h4 h5
  rw [if_neg (by omega),bn (by omega) (by omega)]
  refine P6 Z iD p xs hl hf (xs.length - (v+1).toNat) xs v (v+1) (by omega) (by omega) rfl h1 (by omega) rfl ?_
  obtain ⟨h4',abU⟩:=List.getElem?_eq_some_iff.1 h4
  have Ll:=Cv (fun x=>!p x) h4'
  rw [show v.toNat+1=(v+1).toNat by omega,abU] at Ll
  rw [Ll,h5]
  simp only [bW,aJ,if_false]
  exact (b4.2 (fun x hx=>by simp [h3 x hx])).symm
structure tG {α:Type} (c:α→α→Int):Prop where
 neg:∀ a b,c a b=- c b a
 tr:∀ {a b d},c a b < 0→c b d < 0→c a d < 0
 cg:∀ {a b d},c a b=0→c b d < 0→c a d < 0
theorem tG.zero {α:Type} {c:α→α→Int} (h:tG c) (a:α):c a a=0:=by have:=h.neg a a;omega
theorem tG.cg' {α:Type} {c:α→α→Int} (h:tG c) {a b d:α} (h0:c a b=0) (h1:c d a < 0):c d b < 0:=by
 have n1:=h.neg d b
 have n2:=h.neg a b
 have n3:=h.neg d a
 by_cases e:c d b=0
 ·have:=h.cg e (d:=a)
  by_cases k:c b a < 0
  ·omega
  ·have e2:c b d=0:=by have:=h.neg b d;omega
   have:=h.cg e2 (d:=a) h1
   omega
 ·by_cases k:c d b < 0
  ·exact k
  ·have k1:c b d < 0:=by omega
   have k2:=h.tr k1 h1
   omega
theorem tG.lex {α:Type} {c1 c2:α→α→Int} (h1:tG c1) (h2:tG c2):tG (fun a b=>if c1 a b≠0 then c1 a b else c2 a b):=by
 refine ⟨fun a b=>?_,fun {a b d}=>?_,fun {a b d}=>?_⟩
 ·have n1:=h1.neg a b;have n2:=h2.neg a b
  repeat' split
  all_goals omega
 ·intro k1 k2
  by_cases e1:c1 a b=0
  ·by_cases e2:c1 b d=0
   ·have e3:c1 a d=0:=by
     have n1:=h1.neg a d
     have n2:=h1.neg b d
     have n3:=h1.neg a b
     by_cases k:c1 a d < 0
     ·have:=h1.cg (a:=b) (b:=a) (d:=d) (by omega) k;omega
     ·by_cases k':c1 d a < 0
      ·have:=h1.cg' (a:=a) (b:=b) (d:=d) e1 k';omega
      ·omega
    rw [if_neg (by simpa using e1)] at k1
    rw [if_neg (by simpa using e2)] at k2
    rw [if_neg (by simpa using e3)]
    exact h2.tr k1 k2
   ·rw [if_pos e2] at k2
    have:=h1.cg e1 k2
    rw [if_pos (by omega)];exact this
  ·rw [if_pos e1] at k1
   by_cases e2:c1 b d=0
   ·have:=h1.cg' e2 k1
    rw [if_pos (by omega)];exact this
   ·rw [if_pos e2] at k2
    have:=h1.tr k1 k2
    rw [if_pos (by omega)];exact this
 ·intro k1 k2
  by_cases e1:c1 a b=0
  ·rw [if_neg (by simpa using e1)] at k1
   by_cases e2:c1 b d=0
   ·have e3:c1 a d=0:=by
     have n1:=h1.neg a d
     have n2:=h1.neg b d
     have n3:=h1.neg a b
     by_cases k:c1 a d < 0
     ·have:=h1.cg (a:=b) (b:=a) (d:=d) (by omega) k;omega
     ·by_cases k':c1 d a < 0
      ·have:=h1.cg' (a:=a) (b:=b) (d:=d) e1 k';omega
      ·omega
    rw [if_neg (by simpa using e2)] at k2
    rw [if_neg (by simpa using e3)]
    exact h2.cg k1 k2
   ·rw [if_pos e2] at k2
    have:=h1.cg e1 k2
    rw [if_pos (by omega)];exact this
  ·rw [if_pos e1] at k1;exact absurd k1 e1
theorem tG.on {α β:Type} {c:α→α→Int} (h:tG c) (f:β→α):tG (fun a b=>c (f a) (f b)):=
 ⟨fun a b=>h.neg _ _,fun h1 h2=>h.tr h1 h2,fun h1 h2=>h.cg h1 h2⟩
theorem yy:tG dZ:=by
 refine ⟨fun a b=>?_,fun {a b d}=>?_,fun {a b d}=>?_⟩<;>unfold dZ<;>repeat' split
 all_goals omega
theorem Md:∀ {a b c:List UInt8},Lib.compareBytes a b < 0→Lib.compareBytes b c < 0→Lib.compareBytes a c < 0
 | [],[],c,h1,h2=>by simp [Lib.compareBytes] at h1
 | [],_ :: _,[],h1,h2=>by simp [Lib.compareBytes] at h2
 | [],_ :: _,_ :: _,h1,h2=>by simp [Lib.compareBytes]
 | _ :: _,[],c,h1,h2=>by simp [Lib.compareBytes] at h1
 | _ :: _,_ :: _,[],h1,h2=>by simp [Lib.compareBytes] at h2
 | a :: la,b :: lb,c :: lc,h1,h2=>by
   simp only [Lib.compareBytes] at h1 h2 ⊢
   rcases BR a b with h | h | h
   ·rcases BR b c with k | k | k
    ·rw [if_pos (UInt8.lt_trans h k)];omega
    ·subst k;rw [if_pos h];omega
    ·rw [if_neg (wJ k),if_pos k] at h2;omega
   ·subst h
    rcases BR a c with k | k | k
    ·rw [if_pos k];omega
    ·subst k
     rw [if_neg (by simp),if_neg (by simp)] at h1 h2 ⊢
     exact Md h1 h2
    ·rw [if_neg (wJ k),if_pos k] at h2;omega
   ·rw [if_neg (wJ h),if_pos h] at h1;omega
theorem BS:tG Lib.compareBytes:=⟨Ez,Md,fun h1 h2=>by rw [uv h1];exact h2⟩
theorem za {a b:Int} (h:dZ a b=0):a=b:=by
 unfold dZ at h
 repeat' split at h
 all_goals omega
theorem tG.ord {α:Type} {c:α→α→Int} (h:tG c) (xs:List α):Fq c xs:=by
 refine ⟨fun x _ k=>?_,fun x _ y _ z _ h1 h2=>h.tr h1 h2,fun x _ y _ z _ h1 h2 h3=>?_⟩
 ·have:=h.zero x;omega
 ·have n1:=h.neg x y
  have n2:=h.neg y z
  by_cases h4:c x y=0
  ·have h5:c y x=0:=by omega
   exact h2 (h.cg h5 h3)
  ·have:c y x < 0:=by omega
   exact h2 (h.tr this h3)
def sN {α:Type} (xs:List α) (i:Int):Option α:=if i≤0 then none else idx xs (i - 1)
def Be {α:Type} (st:Option α→α→Int):Option α→List α→Int
 | _,[]=>0
 | p,s :: r=>if st p s=0 then Be st (some s) r else st p s
theorem Gf {α:Type} (st:Option α→α→Int) (xs:List α) (f:Int→Option (Int⊕Int)) (hf:∀ {i:Int} {s:α},0≤i→i < xs.length→idx xs i=some s→f i=some (if st (sN xs i) s=0 then .inl (i+1) else .inr (st (sN xs i) s)))
 (he:f xs.length=some (.inr 0)):∀ (n:Nat) (i:Int),0≤i→i+n=xs.length→iter f i=some (Be st (sN xs i) (xs.drop i.toNat))
 | 0,i,h0,hn=>by
   obtain rfl:i=xs.length:=by omega
   rw [iter_eq,he,ap (by omega)];rfl
 | n+1,i,h0,hn=>by
   obtain ⟨s,hs,_,hd⟩:=gj xs h0 (by omega)
   rw [iter_eq,hf h0 (by omega) hs,hd]
   simp only [ac,Be]
   split
   ·have hp:sN xs (i+1)=some s:=by unfold sN;rw [if_neg (by omega),show i+1 - 1=i by omega,hs]
    have:=Gf st xs f hf he n (i+1) (by omega) (by omega)
    rw [bD,this,hp]
   ·rfl
theorem P7 {α:Type} (st:Option α→α→Int) (xs:List α) (f:Int→Option (Int⊕Int)) (hf:∀ {i:Int} {s:α},0≤i→i < xs.length→idx xs i=some s→f i=some (if st (sN xs i) s=0 then .inl (i+1) else .inr (st (sN xs i) s)))
 (he:f xs.length=some (.inr 0)):iter f 0=some (Be st none xs):=by
 rw [Gf st xs f hf he xs.length 0 (by omega) (by omega)];rfl
theorem Aj {α:Type} {n:Nat} {m:Option (List α)} {Z:List α} (h:m=some Z) (hl:Z.length=n):pP n (fun r:List α=>r.length) m=some Z:=by
 rw [h];unfold pP
 simp only [ac]
 rw [if_pos hl]
end Go.Beacon
set_option linter.unusedSectionVars false
namespace Go.Beacon
open Go Go.Eng
class BT (K:Type) [vU K]:Prop where
 NC:∀ a:K,vU.lt a a=false
 tr:∀ {a b c:K},vU.lt a b=true→vU.lt b c=true→vU.lt a c=true
 Xd:∀ a b:K,vU.lt a b=true∨a=b∨vU.lt b a=true
instance:BT Int where
 NC a:=by show decide (a < a)=false;simp
 tr {a b c} h1 h2:=by
  have h1:decide (a < b)=true:=h1
  have h2:decide (b < c)=true:=h2
  show decide (a < c)=true
  simp only [decide_eq_true_eq] at *;omega
 Xd a b:=by
  show decide (a < b)=true∨a=b∨decide (b < a)=true
  simp only [decide_eq_true_eq];omega
instance:BT Bool where
 NC a:=by cases a<;>rfl
 tr {a b c} h1 h2:=by revert h1 h2;cases a<;>cases b<;>cases c<;>decide
 Xd a b:=by cases a<;>cases b<;>decide
instance:BT (List UInt8) where
 NC a:=by
  show Op.bytesLess a a=false
  rw [wK,wI];rfl
 tr {a b c} h1 h2:=by
  have h1:Op.bytesLess a b=true:=h1
  have h2:Op.bytesLess b c=true:=h2
  show Op.bytesLess a c=true
  rw [wK,decide_eq_true_eq] at *
  exact BS.tr h1 h2
 Xd a b:=by
  show Op.bytesLess a b=true∨a=b∨Op.bytesLess b a=true
  rw [wK,wK,decide_eq_true_eq,decide_eq_true_eq]
  rcases Int.lt_trichotomy (Lib.compareBytes a b) 0 with h | h | h
  ·exact .inl h
  ·exact .inr (.inl (uv h))
  ·exact .inr (.inr (by have:=BS.neg a b;omega))
section
variable {K V:Type} [DecidableEq K]
theorem yz (k:K):bh ([]:List (K×V)) k=none:=rfl
theorem iG (e:K×V) (m:List (K×V)) (k:K):bh (e :: m) k=if e.1=k then some e.2 else bh m k:=rfl
theorem BU (m:List (K×V)) (k k':K):bh (mj m k) k'=if k=k' then none else bh m k':=by
 induction m with
 | nil=>simp [mj,bh]
 | cons e r ih=>
   unfold mj at ih ⊢
   rw [List.filter_cons]
   by_cases h:e.1=k
   ·rw [if_neg (by simp [h]),ih,iG]
    by_cases h2:k=k'
    ·rw [if_pos h2,if_pos h2]
    ·rw [if_neg h2,if_neg h2,if_neg (by rw [h];exact h2)]
   ·rw [if_pos (by simp [h]),iG,ih,iG]
    by_cases h2:k=k'
    ·rw [if_pos h2,if_pos h2,if_neg (by rw [← h2];exact h)]
    ·rw [if_neg h2,if_neg h2]
variable [vU K]
theorem Gg (k:K) (v:V) (k':K):∀ (m:List (K×V)),bh m k=none→bh (wi k v m) k'=if k=k' then some v else bh m k'
 | [],_=>by simp [wi,bh]
 | e :: r,h=>by
   rw [iG] at h
   have h1:e.1≠k:=fun he=>by rw [if_pos he] at h;cases h
   rw [if_neg h1] at h
   unfold wi
   split
   ·rw [iG,Gg k v k' r h,iG]
    by_cases h2:k=k'
    ·rw [if_pos h2,if_pos h2,if_neg (by rw [← h2];exact h1)]
    ·rw [if_neg h2,if_neg h2]
   ·rw [iG]
theorem iH (m:List (K×V)) (k:K) (v:V) (k':K):bh (ca m k v) k'=if k=k' then some v else bh m k':=by
 unfold ca
 rw [Gg k v k' _ (by rw [BU,if_pos rfl]),BU]
 by_cases h:k=k'
 ·rw [if_pos h,if_pos h]
 ·rw [if_neg h,if_neg h,if_neg h]
def SM (m:List (K×V)):Prop:=m.Pairwise (fun a b=>vU.lt a.1 b.1=true)
theorem SM.nil:SM ([]:List (K×V)):=List.Pairwise.nil
theorem SM.del {m:List (K×V)} (h:SM m) (k:K):SM (mj m k):=List.Pairwise.filter _ h
variable [BT K]
theorem SM.ne {m:List (K×V)} (h:SM m):m.Pairwise (fun a b=>a.1≠b.1):=
 List.Pairwise.imp (fun {a b} h e=>by rw [e,BT.NC] at h;cases h) h
theorem SM.nodup {m:List (K×V)} (h:SM m):(m.map Prod.fst).Nodup:=by
 unfold List.Nodup
 rw [bz]
 exact SM.ne h
theorem Me (k:K) (v:V):∀ {m:List (K×V)},SM m→bh m k=none→SM (wi k v m)
 | [],_,_=>by unfold wi SM;simp
 | e :: r,h,hn=>by
   have h':=af.1 h
   rw [iG] at hn
   have h1:e.1≠k:=fun he=>by rw [if_pos he] at hn;cases hn
   rw [if_neg h1] at hn
   unfold wi
   split
   ·rename_i eI
    refine af.2 ⟨fun z hz=>?_,Me k v h'.2 hn⟩
    rcases ag.1 ((sv k v r).mem_iff.1 hz) with rfl | hz
    ·exact eI
    ·exact h'.1 z hz
   ·rename_i eI
    have hke:vU.lt k e.1=true:=by
     rcases BT.Xd k e.1 with h | h | h
     ·exact h
     ·exact absurd h.symm h1
     ·exact absurd h eI
    refine af.2 ⟨fun z hz=>?_,h⟩
    rcases ag.1 hz with rfl | hz
    ·exact hke
    ·exact BT.tr hke (h'.1 z hz)
theorem SM.set {m:List (K×V)} (h:SM m) (k:K) (v:V):SM (ca m k v):=
 Me k v (h.del k) (by rw [BU,if_pos rfl])
theorem SM.Di {m:List (K×V)} (h:SM m) {k:K} {v:V}:bh m k=some v↔(k,v)∈m:=
 ⟨DM,tp h.nodup⟩
theorem SM.none_lt {e:K×V} {m:List (K×V)} (h:SM (e :: m)) {k:K} (hk:vU.lt k e.1=true):bh (e :: m) k=none:=by
 rw [ph]
 intro z hz he
 have h':=af.1 h
 have hkz:vU.lt k z.1=true:=by
  rcases ag.1 hz with rfl | hz
  ·exact hk
  ·exact BT.tr hk (h'.1 z hz)
 rw [he,BT.NC] at hkz;cases hkz
theorem Dj:∀ {m m':List (K×V)},SM m→SM m'→(∀ k,bh m k=bh m' k)→m=m'
 | [],[],_,_,_=>rfl
 | [],y :: B,_,_,h=>by have:=h y.1;rw [yz,iG,if_pos rfl] at this;cases this
 | x :: A,[],_,_,h=>by have:=h x.1;rw [yz,iG,if_pos rfl] at this;cases this
 | x :: A,y :: B,h1,h2,h=>by
   have GA:=af.1 h1
   have OE:=af.1 h2
   have HO:x.1=y.1:=by
    rcases BT.Xd x.1 y.1 with c | c | c
    ·have e:=h x.1
     rw [iG,if_pos rfl,h2.none_lt c] at e;cases e
    ·exact c
    ·have e:=h y.1
     rw [iG y,if_pos rfl,h1.none_lt c] at e;cases e
   have e:=h x.1
   rw [iG,if_pos rfl,iG,if_pos HO.symm] at e
   have hx:x=y:=Prod.ext HO (Option.some.inj e)
   subst hx
   rw [Dj GA.2 OE.2 (fun k=>?_)]
   have:=h k
   rw [iG,iG] at this
   by_cases hk:x.1=k
   ·subst hk
    have a1:bh A x.1=none:=ph.2 fun z hz he=>by have:=GA.1 z hz;rw [he,BT.NC] at this;cases this
    have a2:bh B x.1=none:=ph.2 fun z hz he=>by have:=OE.1 z hz;rw [he,BT.NC] at this;cases this
    rw [a1,a2]
   ·rw [if_neg hk,if_neg hk] at this;exact this
theorem EB (k:K) (v:V) (m:List (K×V)):(wi k v m).length=m.length+1:=by
 have:=(sv k v m).length_eq;simpa using this
theorem Ho {m:List (K×V)} (h:SM m) {k:K} {v:V} (hk:bh m k=some v):(mj m k).length+1=m.length:=by
 have hp:(ca m k v).Perm m:=by
  have:ca m k v=m:=Dj (h.set k v) h (fun k'=>by
   rw [iH];split
   ·rename_i e;subst e;exact hk.symm
   ·rfl)
  rw [this]
 have:=hp.length_eq
 unfold ca at this;rw [EB] at this;exact this
theorem xl {m:List (K×V)} {k:K} {v:V} (hk:bh m k=none):(ca m k v).length=m.length+1:=by
 unfold ca;rw [EB,wj hk]
theorem Hp {m:List (K×V)} (h:SM m) {k:K} {v u:V} (hk:bh m k=some u):(ca m k v).length=m.length:=by
 unfold ca;rw [EB];exact Ho h hk
end
section
variable {E S A:Type}
theorem Gh (b:E→S→Option (S⊕A)) (f:S→Option A) (es:List E) (r:A) (Inv:List E→S→Prop)
 (hs:∀ done e rest s,(done++e :: rest).Perm es→Inv done s→(∃ s',b e s=some (.inl s')∧Inv (done++[e]) s')∨b e s=some (.inr r))
 (hf:∀ p s,p.Perm es→Inv p s→f s=some r):∀ (rest done:List E) (s:S),(done++rest).Perm es→Inv done s→vj b f rest s=some r
 | [],done,s,hp,hi=>hf done s (by simpa using hp) hi
 | e :: rest,done,s,hp,hi=>by
   show (b e s).bind (after (vj b f rest))=some r
   rcases hs done e rest s hp hi with ⟨s',h1,h2⟩ | h1
   ·rw [h1]
    simp only [ac,bD]
    exact Gh b f es r Inv hs hf rest (done++[e]) s' (by simpa using hp) h2
   ·rw [h1];rfl
theorem NF (b:E→S→Option (S⊕A)) (f:S→Option A) (es:List E) (s0:S) (r:A) (Inv:List E→S→Prop) (h0:Inv [] s0)
 (hs:∀ done e rest s,(done++e :: rest).Perm es→Inv done s→(∃ s',b e s=some (.inl s')∧Inv (done++[e]) s')∨b e s=some (.inr r))
 (hf:∀ p s,p.Perm es→Inv p s→f s=some r):DN es (fun p=>vj b f p s0)=some r:=
 Ph fun p hp=>Gh b f es r Inv hs hf p [] s0 (by simpa using hp) h0
end
end Go.Beacon
