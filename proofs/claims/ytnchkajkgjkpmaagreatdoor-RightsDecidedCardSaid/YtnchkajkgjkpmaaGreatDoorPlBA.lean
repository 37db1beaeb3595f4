/- Plain facts on what the functions compute. No program in sight. -/
import Derived.Test.YtnchkajkgjkpmaaGreatDoorCore
set_option linter.unusedVariables false
namespace Go.Beacon
open Go Go.Eng
theorem bf {x:Int} (h1:-9223372036854775808≤x) (h2:x≤9223372036854775807):cr x=x:=Gf ⟨h1,h2⟩
theorem SR {a b:Int} (h:0 < b) (h0:0≤a):rem a b=some (a % b):=by
 unfold rem
 rw [if_neg (by omega),Int.tmod_eq_emod_of_nonneg h0]
theorem VI {a b:Int} (h:b≠0):rem a b=some (a.tmod b):=by unfold rem;rw [if_neg h]
theorem VJ {a b:Int} (h:b≠0):quo a b=some (cr (a.tdiv b)):=by unfold quo;rw [if_neg h]
theorem jq {α:Type} (xs:List α) {i:Int} (h0:0≤i) (h1:i < xs.length):∃ x,idx xs i=some x∧x∈xs∧xs.drop i.toNat=x :: xs.drop (i+1).toNat:=by
 have h:i.toNat < xs.length:=by omega
 refine ⟨xs[i.toNat],by unfold idx;rw [if_pos h0];simp [h],List.getElem_mem h,?_⟩
 rw [show (i+1).toNat=i.toNat+1 by omega]
 exact List.drop_eq_getElem_cons h
theorem gV {α:Type} {xs:List α} {i:Int} {x:α} (h:idx xs i=some x):x∈xs:=List.mem_of_getElem? (wL h).2.2
theorem nV {α:Type} {xs ys:List α} (h:xs.length+ys.length≤1000000000):app xs ys=some (xs++ys):=by unfold app;rw [if_pos h]
theorem wD {α:Type} {xs:List α} {l h:Int} (h0:0≤l) (h1:l≤h) (h2:h≤xs.length):yb xs l h=some ((xs.drop l.toNat).take (h.toNat - l.toNat)):=by
 unfold yb;rw [if_pos ⟨h0,h1,h2⟩]
def E1 {α σ A:Type} (step:σ→α→Int→Option (σ⊕A)) (fin:σ→Int→Option A):List α→σ→Int→Option A
 | [],s,i=>fin s i
 | x :: r,s,i=>match step s x i with
   | none=>none
   | some (.inl s')=>E1 step fin r s' (i+1)
   | some (.inr a)=>some a
theorem E2 {α σ A X:Type} (xs:List α) (mk:σ→Int→X) (f:X→Option (X⊕A)) (step:σ→α→Int→Option (σ⊕A)) (fin:σ→Int→Option A)
 (h1:∀ s (i:Int) x,0≤i→i < xs.length→idx xs i=some x→f (mk s i)=(step s x i).map (Sum.map (fun s'=>mk s' (i+1)) id))
 (h2:∀ s,f (mk s xs.length)=(fin s xs.length).map .inr):∀ (n:Nat) (s:σ) (i:Int),0≤i→i+n=xs.length→iter f (mk s i)=E1 step fin (xs.drop i.toNat) s i
 | 0,s,i,h0,hn=>by
   have hi:i=xs.length:=by omega
   subst hi
   rw [iter_eq,h2,cC]
   simp [E1]
 | n+1,s,i,h0,hn=>by
   obtain ⟨x,hx,_,hd⟩:=jq xs h0 (by omega)
   rw [iter_eq,h1 s i x h0 (by omega) hx,hd]
   simp only [E1]
   cases IU:step s x i with
   | none=>rfl
   | some u=>
     cases u with
     | inl s'=>exact E2 xs mk f step fin h1 h2 n s' (i+1) (by omega) (by omega)
     | inr a=>rfl
theorem JV {α σ A X:Type} (xs:List α) (mk:σ→Int→X) (f:X→Option (X⊕A)) (step:σ→α→Int→Option (σ⊕A)) (fin:σ→Int→Option A)
 (h1:∀ s (i:Int) x,0≤i→i < xs.length→idx xs i=some x→f (mk s i)=(step s x i).map (Sum.map (fun s'=>mk s' (i+1)) id))
 (h2:∀ s,f (mk s xs.length)=(fin s xs.length).map .inr) (s:σ):iter f (mk s 0)=E1 step fin xs s 0:=
 E2 xs mk f step fin h1 h2 xs.length s 0 (by omega) (by omega)
def nC {α A:Type} (g:α→Option A) (e:A):List α→A
 | []=>e
 | x :: r=>match g x with
   | some a=>a
   | none=>nC g e r
theorem jh {α A:Type} (xs:List α) (f:Int→Option (Int⊕A)) (g:α→Option A) (e:A) (hlen:(xs.length:Int)≤4611686018427387904)
 (h1:∀ (i:Int) x,0≤i→i < xs.length→idx xs i=some x→f i=match g x with | some a=>some (.inr a) | none=>some (.inl (i+1)))
 (h2:f xs.length=some (.inr e)):iter f 0=some (nC g e xs):=by
 have h:=JV xs (fun (_:Unit) i=>i) f (fun _ x _=>match g x with | some a=>some (.inr a) | none=>some (.inl ())) (fun _ _=>some e)
  (fun s i x h0 h3 h4=>by rw [h1 i x h0 h3 h4];cases g x<;>rfl) (fun s=>by rw [h2];rfl) ()
 rw [h]
 clear h h1 h2 hlen
 suffices ∀ (xs:List α) (i:Int),E1 (fun (_:Unit) x _=>match g x with | some a=>some (.inr a) | none=>some (.inl ())) (fun _ _=>some e) xs () i=some (nC g e xs) from this xs 0
 intro xs
 induction xs with
 | nil=>intro i;rfl
 | cons x r ih=>
   intro i
   simp only [E1,nC]
   cases g x with
   | none=>exact ih (i+1)
   | some a=>rfl
theorem E3 {α:Type} (p:α→Bool):∀ (xs:List α),nC (fun x=>if p x=true then none else some false) true xs=xs.all p
 | []=>rfl
 | x :: r=>by
   simp only [nC,List.all_cons]
   cases hp:p x<;>simp [E3 p r]
end Go.Beacon
set_option linter.unusedVariables false
set_option linter.unusedSimpArgs false
namespace Go.Beacon
open Go Go.Eng
def zq {α:Type} [DecidableEq α] (xs ys:List α) (i:Int):Option (Int⊕Bool):=
 if i < (xs.length:Int) then
  (idx xs i).bind fun v3=>
  (idx ys i).bind fun v4=>
  if v3≠v4 then
   Option.map .inr (some false)
  else
   some (.inl (cr (i+(1:Int))))
 else
  Option.map .inr (some true)
noncomputable def Qi {α:Type} [DecidableEq α] (xs ys:List α):Option Bool:=
 if (xs.length:Int)≠(ys.length:Int) then
  some false
 else
  iter (fun x:Int=>zq xs ys x) 0
theorem CZ {α:Type} [DecidableEq α] (xs ys:List α) (hl:xs.length=ys.length) (hb:(xs.length:Int)≤4611686018427387904):∀ (n:Nat) (i:Int),0≤i→i+n=xs.length→
 iter (fun x:Int=>zq xs ys x) i=some (decide (xs.drop i.toNat=ys.drop i.toNat))
 | 0,i,h0,hn=>by
   rw [iter_eq,zq,if_neg (by omega),List.drop_of_length_le (by omega),List.drop_of_length_le (by omega)];simp
 | n+1,i,h0,hn=>by
   obtain ⟨x,hx,_,hd⟩:=jq xs h0 (by omega)
   obtain ⟨y,hy,_,CS⟩:=jq ys h0 (by omega)
   rw [iter_eq,zq,if_pos (by omega),hx,hy,hd,CS]
   simp only [Option.bind_some]
   by_cases Nf:x=y
   ·subst Nf
    rw [if_neg (by simp)]
    simp only [Option.bind_some,dD]
    rw [bf (by omega) (by omega)]
    have:=CZ xs ys hl hb n (i+1) (by omega) (by omega)
    rw [this];simp
   ·rw [if_pos Nf];simp [Nf]
theorem GV {α:Type} [DecidableEq α] (xs ys:List α) (hb:(xs.length:Int)≤4611686018427387904):Qi xs ys=some (decide (xs=ys)):=by
 unfold Qi
 by_cases h:xs.length=ys.length
 ·rw [if_neg (by omega),CZ xs ys h hb xs.length 0 (by omega) (by omega)];simp
 ·rw [if_pos (by omega),decide_eq_false (fun e=>h (by rw [e]))]
def tA {α:Type} (xs:List α) (f:α→Option Bool) (i:Int):Option (Int⊕Int):=
 if i < (xs.length:Int) then
  (idx xs i).bind fun v3=>
  (f v3).bind fun v4=>
  if v4=true then
   Option.map .inr (some i)
  else
   some (.inl (cr (i+(1:Int))))
 else
  Option.map .inr (some (-1:Int))
noncomputable def xO {α:Type} (xs:List α) (f:α→Option Bool):Option Int:=iter (fun x:Int=>tA xs f x) 0
noncomputable def Aj {α:Type} (xs:List α) (f:α→Option Bool):Option Bool:=(xO xs f).bind fun v1=>some (decide ((0:Int)≤v1))
def iF {α:Type} (p:α→Bool):List α→Int→Int
 | [],_=>-1
 | x :: r,i=>if p x=true then i else iF p r (i+1)
theorem zr {α:Type} (p:α→Bool):∀ (xs:List α) (i:Int),0≤i→(0≤iF p xs i↔xs.any p=true)
 | [],i,h=>by simp [iF]
 | x :: r,i,h=>by
   have:=zr p r (i+1) (by omega)
   simp only [iF,List.any_cons,Bool.or_eq_true]
   split
   ·rename_i hp;simp [hp,h]
   ·rename_i hp
    have eV:p x=false:=by simpa using hp
    simp only [eV,Bool.false_eq_true,false_or];exact this
theorem x8 {α:Type} (xs:List α) (f:α→Option Bool) (p:α→Bool) (hf:∀ x∈xs,f x=some (p x)) (hb:(xs.length:Int)≤4611686018427387904):∀ (n:Nat) (i:Int),0≤i→i+n=xs.length→
 iter (fun x:Int=>tA xs f x) i=some (iF p (xs.drop i.toNat) i)
 | 0,i,h0,hn=>by
   rw [iter_eq,tA,if_neg (by omega),List.drop_of_length_le (by omega)];rfl
 | n+1,i,h0,hn=>by
   obtain ⟨x,hx,hm,hd⟩:=jq xs h0 (by omega)
   rw [iter_eq,tA,if_pos (by omega),hx,hd]
   simp only [Option.bind_some,hf x hm,iF]
   split
   ·rfl
   ·simp only [Option.bind_some,dD]
    rw [bf (by omega) (by omega)]
    exact x8 xs f p hf hb n (i+1) (by omega) (by omega)
theorem tB {α:Type} (xs:List α) (f:α→Option Bool) (p:α→Bool) (hf:∀ x∈xs,f x=some (p x)) (hb:(xs.length:Int)≤4611686018427387904):xO xs f=some (iF p xs 0):=by
 unfold xO
 rw [x8 xs f p hf hb xs.length 0 (by omega) (by omega)];simp
theorem dn {α:Type} (xs:List α) (f:α→Option Bool) (p:α→Bool) (hf:∀ x∈xs,f x=some (p x)) (hb:(xs.length:Int)≤4611686018427387904):Aj xs f=some (xs.any p):=by
 unfold Aj
 rw [tB xs f p hf hb]
 simp only [Option.bind_some,Option.some.injEq]
 rw [Bool.eq_iff_iff,decide_eq_true_eq]
 exact zr p xs 0 (by omega)
def Ia (xs:List Int) (i:Int):Option (Int⊕Int):=
 if i < (xs.length:Int) then
  (idx xs i).bind fun v3=>
  if v3≠(0:Int) then
   Option.map .inr (some v3)
  else
   some (.inl (cr (i+(1:Int))))
 else
  Option.map .inr (some (0:Int))
noncomputable def gOr (xs:List Int):Option Int:=iter (fun x:Int=>Ia xs x) 0
def mC:List Int→Int
 | []=>0
 | x :: r=>if x≠0 then x else mC r
theorem yR (xs:List Int) (hb:(xs.length:Int)≤4611686018427387904):gOr xs=some (mC xs):=by
 unfold gOr
 rw [jh xs (fun x:Int=>Ia xs x) (fun x=>if x≠0 then some x else none) 0 hb]
 ·congr 1
  clear hb
  induction xs with
  | nil=>rfl
  | cons x r ih=>
    simp only [nC,mC]
    by_cases h:x=0
    ·subst h;simpa using ih
    ·simp [h]
 ·intro i x h0 h1 hx
  unfold Ia
  rw [if_pos h1,hx]
  simp only [Option.bind_some]
  by_cases h:x=0
  ·rw [bf (by omega) (by omega)];simp [h]
  ·simp [h]
 ·unfold Ia;rw [if_neg (by omega)];rfl
def yS (a b:Int):Int:=if a < b then -1 else if b < a then 1 else 0
theorem w6:∀ l:List UInt8,Lib.compareBytes l l=0
 | []=>rfl
 | a :: l=>by simp only [Lib.compareBytes];rw [if_neg (by simp),if_neg (by simp)];exact w6 l
theorem Ib (a:UInt8):¬ a < a:=by simp
theorem CA (a b:UInt8):a < b∨a=b∨b < a:=by
 rcases Nat.lt_trichotomy a.toNat b.toNat with h | h | h
 ·exact .inl h
 ·exact .inr (.inl (UInt8.toNat_inj.1 h))
 ·exact .inr (.inr h)
theorem w7 {a b:UInt8} (h:a < b):¬ b < a:=by
 rw [UInt8.lt_iff_toNat_lt] at *;omega
theorem lA:∀ a b:List UInt8,Lib.compareBytes a b=- Lib.compareBytes b a
 | [],[]=>rfl
 | [],_ :: _=>rfl
 | _ :: _,[]=>rfl
 | a :: la,b :: lb=>by
   simp only [Lib.compareBytes]
   rcases CA a b with h | h | h
   ·rw [if_pos h,if_neg (w7 h),if_pos h]
   ·subst h
    rw [if_neg (by simp),if_neg (by simp),if_neg (by simp),if_neg (by simp)];exact lA la lb
   ·rw [if_neg (w7 h),if_pos h,if_pos h];rfl
theorem GW:∀ a b:List UInt8,Lib.compareBytes a b=-1∨Lib.compareBytes a b=0∨Lib.compareBytes a b=1
 | [],[]=>by simp [Lib.compareBytes]
 | [],_ :: _=>by simp [Lib.compareBytes]
 | _ :: _,[]=>by simp [Lib.compareBytes]
 | a :: la,b :: lb=>by
   simp only [Lib.compareBytes]
   split
   ·simp
   ·split
    ·simp
    ·exact GW la lb
theorem mD:∀ {a b:List UInt8},Lib.compareBytes a b=0→a=b
 | [],[],_=>rfl
 | [],_ :: _,h=>by simp [Lib.compareBytes] at h
 | _ :: _,[],h=>by simp [Lib.compareBytes] at h
 | a :: la,b :: lb,h=>by
   simp only [Lib.compareBytes] at h
   split at h
   ·simp at h
   ·split at h
    ·simp at h
    ·rename_i h1 h2
     rcases CA a b with h3 | h3 | h3
     ·exact absurd h3 h1
     ·rw [h3,mD h]
     ·exact absurd h3 h2
theorem w8:∀ a b:List UInt8,Op.bytesLess a b=decide (Lib.compareBytes a b < 0)
 | [],[]=>by simp [Op.bytesLess,Lib.compareBytes]
 | [],_ :: _=>by simp [Op.bytesLess,Lib.compareBytes]
 | _ :: _,[]=>by simp [Op.bytesLess,Lib.compareBytes]
 | a :: la,b :: lb=>by
   simp only [Op.bytesLess,Lib.compareBytes]
   rcases CA a b with h | h | h
   ·simp [h]
   ·subst h;simp [w8 la lb]
   ·have h1:=w7 h
    have h2:(a==b)=false:=by
     rw [beq_eq_false_iff_ne];intro e;subst e;exact Ib _ h
    simp [h,h1,h2]
theorem SU (a b:List UInt8):(a==b)=decide (Lib.compareBytes a b=0):=by
 rw [Bool.eq_iff_iff]
 simp only [beq_iff_eq,decide_eq_true_eq]
 exact ⟨fun h=>by rw [h];exact w6 b,mD⟩
theorem w9:∀ (l:List UInt8) (c:UInt8),(Lib.indexByte l c < 0)↔c∉l
 | [],c=>by simp [Lib.indexByte]
 | b :: l,c=>by
   have ih:=w9 l c
   have TJ:=Lib.indexByte_ge l c
   simp only [Lib.indexByte,List.mem_cons,not_or]
   by_cases hb:b=c
   ·subst hb;simp
   ·rw [if_neg (by simpa using hb)]
    by_cases h1:Lib.indexByte l c=-1
    ·rw [h1] at ih
     simp only [h1,beq_self_eq_true,if_true]
     exact ⟨fun _=>⟨fun e=>hb e.symm,ih.1 (by omega)⟩,fun _=>by omega⟩
    ·rw [if_neg (by simpa using h1)]
     exact ⟨fun h=>by omega,fun h=>absurd (ih.2 h.2) (by omega)⟩
theorem abG (c:UInt8):((c.toNat:Int)).toNat.toUInt8=c:=by simp
end Go.Beacon
set_option linter.unusedVariables false
set_option linter.unusedSimpArgs false
namespace Go.Beacon
open Go Go.Eng
structure VK {α:Type} (cf:α→α→Int) (xs:List α):Prop where
 YF:∀ x∈xs,¬ cf x x < 0
 tr:∀ x∈xs,∀ y∈xs,∀ z∈xs,cf x y < 0→cf y z < 0→cf x z < 0
 ntr:∀ x∈xs,∀ y∈xs,∀ z∈xs,¬ cf x y < 0→¬ cf y z < 0→¬ cf x z < 0
def SV {α:Type} (cf:α→α→Int) (xs:List α):Prop:=xs.Pairwise (fun a b=>¬ cf b a < 0)
theorem VL {α:Type} {f:α→α→Option Int} {cf:α→α→Int} {x:α} {r:List α} (hf:∀ a∈x :: r,∀ b∈x :: r,f a b=some (cf a b)) (hO:VK cf (x :: r)):Sort.SWO (Go.Proofs.ltOf (zG f x r)):=by
 have e:∀ i j,zG f x r i j=cf (z8 x r i) (z8 x r j):=fun i j=>by unfold zG;rw [hf _ (lX x r i) _ (lX x r j)];rfl
 refine ⟨fun i=>?_,fun i j k h1 h2=>?_,fun i j k h1 h2=>?_⟩
 ·unfold Go.Proofs.ltOf;rw [e];simpa using hO.YF _ (lX x r i)
 ·unfold Go.Proofs.ltOf at *;rw [e] at *
  simp only [decide_eq_true_eq] at *
  exact hO.tr _ (lX x r i) _ (lX x r j) _ (lX x r k) h1 h2
 ·unfold Go.Proofs.ltOf at *;rw [e] at *
  simp only [decide_eq_false_iff_not] at *
  exact hO.ntr _ (lX x r i) _ (lX x r j) _ (lX x r k) h1 h2
theorem N6 {α:Type} (x:α) (r:List α):(List.range (r.length+1)).map (z8 x r)=x :: r:=by
 apply List.ext_getElem?
 intro i
 rw [List.getElem?_map]
 by_cases hi:i < r.length+1
 ·rw [List.getElem?_range hi,Option.map_some]
  unfold z8
  rw [List.getD_eq_getElem?_getD,List.getElem?_eq_getElem (l:=x :: r) (by simpa using hi)];rfl
 ·rw [List.getElem?_eq_none (by simp;omega),List.getElem?_eq_none (by simp;omega)];rfl
theorem Qj {α:Type} (f:α→α→Option Int) (cf:α→α→Int) (xs:List α) (hl:xs.length≤100000) (hf:∀ a∈xs,∀ b∈xs,f a b=some (cf a b)) (hO:VK cf xs):∃ Z,Mr f xs=some Z∧Z.Perm xs∧SV cf Z:=by
 cases xs with
 | nil=>exact ⟨[],rfl,List.Perm.refl _,.nil⟩
 | cons x r=>
   have hS:=VL hf hO
   have hlen:r.length+1≤100000:=by simpa using hl
   rw [Er,if_pos ⟨by omega,fun a ha b hb=>⟨_,hf a ha b hb⟩,hS⟩]
   have XV:=Sort.pdq_sorts (Go.Proofs.ltOf (zG f x r)) hS (Array.range (r.length+1)) 0 (r.length+1) (Lib.bitLen (r.length+1)) true true (Nat.zero_le _) (by simp) (Or.inl rfl)
   generalize Sort.pdq (Go.Proofs.ltOf (zG f x r)) (Array.range (r.length+1)) 0 (r.length+1) (Lib.bitLen (r.length+1)) true true=d at XV
   obtain ⟨⟨h1,_,h3⟩,h4⟩:=XV
   have hd:d.size=r.length+1:=by simpa using h1
   have pE:d.toList.Perm (List.range (r.length+1)):=by
    have a1:(d.extract 0 (r.length+1)).toList=d.toList:=by
     rw [Array.toList_extract]
     simp [List.extract]
     exact List.take_of_length_le (by simp [hd])
    have a2:((Array.range (r.length+1)).extract 0 (r.length+1)).toList=List.range (r.length+1):=by
     rw [Array.toList_extract]
     simp [List.extract]
    rw [a1,a2] at h3
    exact h3
   refine ⟨_,rfl,?_,?_⟩
   ·have:=pE.map (z8 x r)
    rw [N6] at this
    exact this
   ·unfold SV
    rw [List.pairwise_map,List.pairwise_iff_getElem]
    intro i j hi hj Hu
    have Y5:i < d.size:=by simpa using hi
    have Wl:j < d.size:=by simpa using hj
    have h:=h4 i j (Nat.zero_le _) Hu (by omega)
    unfold Go.Proofs.ltOf zG at h
    rw [hf _ (lX x r _) _ (lX x r _)] at h
    simp only [Option.getD_some,decide_eq_false_iff_not] at h
    rw [getElem!_pos d i Y5,getElem!_pos d j Wl] at h
    simpa using h
theorem AP {α:Type} {cf:α→α→Int}:∀ {X Y:List α},X.Perm Y→SV cf X→SV cf Y→(∀ a∈X,∀ b∈X,¬ cf a b < 0→¬ cf b a < 0→a=b)→X=Y
 | [],Y,hp,_,_,_=>by rw [List.nil_perm.1 hp]
 | x :: X,[],hp,_,_,_=>by have:=hp.length_eq;simp at this
 | x :: X,y :: Y,hp,hX,hY,ha=>by
   have Nf:x=y:=by
    have hx:x∈y :: Y:=hp.mem_iff.1 (by simp)
    have hy:y∈x :: X:=hp.mem_iff.2 (by simp)
    rcases List.mem_cons.1 hx with h | h
    ·exact h
    ·rcases List.mem_cons.1 hy with h' | h'
     ·exact h'.symm
     ·exact ha x (by simp) y (by simp [h']) ((List.pairwise_cons.1 hY).1 x h) ((List.pairwise_cons.1 hX).1 y h')
   subst Nf
   rw [AP (List.Perm.cons_inv hp) (List.pairwise_cons.1 hX).2 (List.pairwise_cons.1 hY).2 (fun a h b h'=>ha a (by simp [h]) b (by simp [h']))]
end Go.Beacon
set_option linter.unusedVariables false
set_option linter.unusedSimpArgs false
namespace Go.Beacon
open Go Go.Eng
def yT {α:Type} (n12:Int) (Ud:List α) (n17:Int):Option (((List α)×Int×Int)⊕(Int⊕(List α))):=
 some (.inl (Ud,n17,cr (n12+(1:Int))))
def yU {α:Type} (Z:α) (l10:List α) (n11:Int):Option (Int⊕(List α)):=
 (yb l10 n11 (l10.length:Int)).bind fun B8=>
 (yb (FK l10 n11 B8.length Z) (0:Int) n11).bind fun IJ=>
 Option.map .inr (some IJ)
def vy {α:Type} (Z:α) (er:α→α→Option Bool) (n2:Int) (l6:List α) (l10:List α) (n11:Int) (n12:Int):Option (((List α)×Int×Int)⊕(Int⊕(List α))):=
 if n12 < (l6.length:Int) then
  (zH l10 n2 l6.length n12).bind fun mb=>
  (zH l10 n2 l6.length (cr (n12 - (1:Int)))).bind fun lW=>
  (er mb lW).bind fun FO=>
  if (!FO)=true then
   (zH l10 n2 l6.length n12).bind fun fH=>
   (idx l10 n11).bind fun dI=>
   yT n12 (l10.set n11.toNat fH) (cr (n11+(1:Int)))
  else
   yT n12 l10 n11
 else
  Option.map .inr (yU Z l10 n11)
noncomputable def yV {α:Type} (Z:α) (er:α→α→Option Bool) (n2:Int) (l6:List α) (l10:List α) (n11:Int) (n12:Int):Option (Int⊕(List α)):=
 iter (fun x:(List α)×Int×Int=>vy Z er n2 l6 x.1 x.2.1 x.2.2) (l10,n11,n12)
noncomputable def BQ {α:Type} (Z:α) (aa:List α) (er:α→α→Option Bool) (n2:Int):Option (Int⊕(List α)):=
 if n2 < (aa.length:Int) then
  (idx aa n2).bind fun v3=>
  (idx aa (cr (n2 - (1:Int)))).bind fun v4=>
  (er v3 v4).bind fun v5=>
  if v5=true then
   (yb aa n2 (aa.length:Int)).bind fun l6=>
   yV Z er n2 l6 aa n2 (1:Int)
  else
   some (.inl (cr (n2+(1:Int))))
 else
  Option.map .inr (some aa)
noncomputable def yW {α:Type} (Z:α) (aa:List α) (er:α→α→Option Bool) (n2:Int):Option (List α):=
 iter (fun x:Int=>BQ Z aa er x) n2
noncomputable def Qk {α:Type} (Z:α) (aa:List α) (er:α→α→Option Bool):Option (List α):=
 if (aa.length:Int) < (2:Int) then
  some aa
 else
  yW Z aa er (1:Int)
def LD {α:Type} (e:α→α→Bool):α→List α→List α
 | _,[]=>[]
 | p,y :: r=>if e y p=true then LD e y r else y :: LD e y r
def dd {α:Type} (e:α→α→Bool):List α→List α
 | []=>[]
 | x :: r=>x :: LD e x r
theorem JW {α:Type} (e:α→α→Bool):∀ (p:α) (ys:List α) (y z:α),LD e p (ys++[y,z])=if e z y=true then LD e p (ys++[y]) else LD e p (ys++[y])++[z]
 | p,[],y,z=>by
   simp only [List.nil_append,LD]
   by_cases h1:e y p=true<;>by_cases h2:e z y=true<;>simp [h1,h2]
 | p,w :: ys,y,z=>by
   simp only [List.cons_append,LD,JW e w ys y z]
   by_cases h1:e w p=true<;>by_cases h2:e z y=true<;>simp [h1,h2]
theorem SX {α:Type} (e:α→α→Bool) (ys:List α) (y z:α):dd e (ys++[y,z])=if e z y=true then dd e (ys++[y]) else dd e (ys++[y])++[z]:=by
 cases ys with
 | nil=>
   simp only [List.nil_append,dd,LD]
   by_cases h2:e z y=true<;>simp [h2]
 | cons w ys=>
   simp only [List.cons_append,dd,JW e w ys y z]
   by_cases h2:e z y=true<;>simp [h2]
theorem Ql {α:Type} {xs:List α} {m:Nat} (h1:1≤m) (h2:m < xs.length):xs.take (m+1)=xs.take (m - 1)++[xs[m - 1],xs[m]]∧xs.take m=xs.take (m - 1)++[xs[m - 1]]:=by
 have a:xs.take m=xs.take (m - 1)++[xs[m - 1]]:=by
  have:=List.take_append_getElem (l:=xs) (i:=m - 1) (by omega)
  rw [show m - 1+1=m by omega] at this
  exact this.symm
 refine ⟨?_,a⟩
 have:=List.take_append_getElem (l:=xs) (i:=m) h2
 rw [← this,a,List.append_assoc];rfl
theorem ML {α:Type} (e:α→α→Bool) {xs:List α} {m:Nat} (h1:1≤m) (h2:m < xs.length):dd e (xs.take (m+1))=if e xs[m] xs[m - 1]=true then dd e (xs.take m) else dd e (xs.take m)++[xs[m]]:=by
 obtain ⟨a,b⟩:=Ql h1 h2
 rw [a,b];exact SX e _ _ _
theorem MM {α:Type} (e:α→α→Bool):∀ (p:α) (r:List α),(LD e p r).length≤r.length
 | _,[]=>by simp [LD]
 | p,y :: r=>by
   have:=MM e y r
   simp only [LD]
   split<;>simp<;>omega
theorem Qm {α:Type} (e:α→α→Bool) (xs:List α):(dd e xs).length≤xs.length:=by
 cases xs with
 | nil=>simp [dd]
 | cons x r=>have:=MM e x r;simp [dd];omega
theorem SY {α:Type} {xs:List α} {i:Int} (h0:0≤i) (h1:i.toNat < xs.length):idx xs i=some xs[i.toNat]:=by
 unfold idx;rw [if_pos h0];simp [h1]
theorem Qn {α:Type} (Z:α) (l:List α) {k:Int} (h0:0≤k) (h1:k≤l.length):yU Z l k=some (.inr (l.take k.toNat)):=by
 unfold yU
 rw [wD h0 h1 (by omega)]
 simp only [Option.bind_some]
 have hlen:(((l.drop k.toNat).take (((l.length:Int)).toNat - k.toNat)).length)=l.length - k.toNat:=by simp
 rw [hlen,wD (by omega) h0 (by unfold FK;simp;omega)]
 simp only [Option.bind_some,Option.map_some,Option.some.injEq,Sum.inr.injEq]
 unfold FK
 simp only [Int.toNat_zero,List.drop_zero,Nat.sub_zero]
 rw [List.append_assoc,List.take_append_of_le_length (by simp;omega),List.take_take]
 congr 1;omega
theorem N7 {α:Type} (Z:α) (er:α→α→Option Bool) (e:α→α→Bool) (xs:List α) (hl:(xs.length:Int)≤100000) (hf:∀ x∈xs,∀ y∈xs,er x y=some (e x y)) (k0:Int) (h0:1≤k0) (h1:k0 < xs.length) (l6:List α) (hl6:(l6.length:Int)=xs.length - k0):∀ (n:Nat) (l:List α) (k k2:Int),1≤k2→k2+n=l6.length→l.length=xs.length→0≤k→k≤k0+k2 - 1→
 l.drop (k0+k2 - 1).toNat=xs.drop (k0+k2 - 1).toNat→l.take k.toNat=dd e (xs.take (k0+k2).toNat)→yV Z er k0 l6 l k k2=some (.inr (dd e xs)):=by
 intro n
 induction n with
 | zero=>
   intro l k k2 g1 g2 g3 g4 g5 g6 g7
   unfold yV
   rw [iter_eq,vy,if_neg (by simp only;omega),cC,Qn Z l g4 (by omega),g7,List.take_of_length_le (by omega)]
 | succ n ih=>
   intro l k k2 g1 g2 g3 g4 g5 g6 g7
   have w1:cr (k2+1)=k2+1:=by rw [bf]<;>omega
   have w2:cr (k2 - 1)=k2 - 1:=by rw [bf]<;>omega
   have w3:cr (k+1)=k+1:=by rw [bf]<;>omega
   have SZ:∀ m:Nat,(k0+k2 - 1).toNat≤m→l[m]? =xs[m]?:=by
    intro m hm
    have:=congrArg (fun q:List α=>q[m - (k0+k2 - 1).toNat]?) g6
    simp only [List.getElem?_drop] at this
    rw [show (k0+k2 - 1).toNat+(m - (k0+k2 - 1).toNat)=m by omega] at this
    exact this
   have TG:(k0+k2).toNat < xs.length:=by omega
   have e1:zH l k0 l6.length k2=some xs[(k0+k2).toNat]:=by
    unfold zH
    rw [if_pos ⟨by omega,by omega,by omega⟩]
    unfold idx
    rw [if_pos (by omega),SZ _ (by omega)];simp [TG]
   have e2:zH l k0 l6.length (k2 - 1)=some xs[(k0+k2).toNat - 1]:=by
    unfold zH
    rw [if_pos ⟨by omega,by omega,by omega⟩]
    unfold idx
    rw [if_pos (by omega),SZ _ (by omega),show (k0+(k2 - 1)).toNat=(k0+k2).toNat - 1 by omega,List.getElem?_eq_getElem (by omega)]
   have Hv:=ML e (xs:=xs) (m:=(k0+k2).toNat) (by omega) TG
   rw [show (k0+k2).toNat+1=(k0+(k2+1)).toNat by omega] at Hv
   unfold yV at ih ⊢
   rw [iter_eq,vy,if_pos (by simp only;omega)]
   simp only [w2,e1,e2,Option.bind_some,hf _ (List.getElem_mem TG) _ (List.getElem_mem (show (k0+k2).toNat - 1 < xs.length by omega))]
   unfold yT
   rw [w1]
   by_cases hc:e xs[(k0+k2).toNat] xs[(k0+k2).toNat - 1]=true
   ·rw [if_pos hc] at Hv
    rw [hc,if_neg (by simp)]
    simp only [Option.bind_some,dD]
    refine ih l k (k2+1) (by omega) (by omega) g3 g4 (by omega) ?_ (by rw [g7,Hv])
    have:=congrArg (List.drop 1) g6
    rw [List.drop_drop,List.drop_drop,show (k0+k2 - 1).toNat+1=(k0+(k2+1) - 1).toNat by omega] at this
    exact this
   ·rw [if_neg hc] at Hv
    rw [Bool.not_eq_true] at hc
    rw [hc,if_pos (by simp)]
    obtain ⟨y,hy,_,_⟩:=jq l (i:=k) g4 (by omega)
    simp only [hy,Option.bind_some,dD,w3]
    refine ih (l.set k.toNat _) (k+1) (k2+1) (by omega) (by omega) (by simpa using g3) (by omega) (by omega) ?_ ?_
    ·apply List.ext_getElem?
     intro m
     rw [List.getElem?_drop,List.getElem?_drop,List.getElem?_set_ne (by omega),SZ _ (by omega)]
    ·rw [Hv,← g7,show (k+1).toNat=k.toNat+1 by omega]
     apply List.ext_getElem?
     intro m
     have TU:k.toNat < l.length:=by omega
     by_cases hm:m < k.toNat
     ·rw [List.getElem?_take,if_pos (by omega),List.getElem?_set_ne (by omega),List.getElem?_append_left (by simp;omega),List.getElem?_take,if_pos hm]
     ·by_cases Wt:m=k.toNat
      ·subst Wt
       rw [List.getElem?_take,if_pos (by omega),List.getElem?_set_self TU,List.getElem?_append_right (by simp only [List.length_take];omega)]
       simp [Nat.min_eq_left (Nat.le_of_lt TU)]
      ·rw [List.getElem?_eq_none (by simp;omega),List.getElem?_eq_none (by simp;omega)]
theorem Qo {α:Type} (Z:α) (er:α→α→Option Bool) (e:α→α→Bool) (xs:List α) (hl:(xs.length:Int)≤100000) (hf:∀ x∈xs,∀ y∈xs,er x y=some (e x y)):Qk Z xs er=some (dd e xs):=by
 unfold Qk
 by_cases h2:(xs.length:Int) < 2
 ·rw [if_pos h2]
  cases xs with
  | nil=>rfl
  | cons x r=>
    cases r with
    | nil=>rfl
    | cons y r=>simp only [List.length_cons] at h2;omega
 ·rw [if_neg h2]
  have key:∀ (n:Nat) (i:Int),1≤i→i+n=xs.length→dd e (xs.take i.toNat)=xs.take i.toNat→yW Z xs er i=some (dd e xs):=by
   intro n
   induction n with
   | zero=>
     intro i h0 h1 hd
     unfold yW
     rw [iter_eq,BQ,if_neg (by omega),cC]
     rw [List.take_of_length_le (by omega)] at hd
     rw [hd]
   | succ n ih=>
     intro i h0 h1 hd
     have w1:cr (i+1)=i+1:=by rw [bf]<;>omega
     have w2:cr (i - 1)=i - 1:=by rw [bf]<;>omega
     have hm:i.toNat < xs.length:=by omega
     have e1:=SY (xs:=xs) (i:=i) (by omega) hm
     have e2:idx xs (i - 1)=some xs[i.toNat - 1]:=by
      unfold idx
      rw [if_pos (by omega),show (i - 1).toNat=i.toNat - 1 by omega,List.getElem?_eq_getElem (by omega)]
     have Hv:=ML e (xs:=xs) (m:=i.toNat) (by omega) hm
     rw [show i.toNat+1=(i+1).toNat by omega] at Hv
     unfold yW at ih ⊢
     rw [iter_eq,BQ,if_pos (by omega)]
     simp only [w2,e1,e2,Option.bind_some,hf _ (List.getElem_mem hm) _ (List.getElem_mem (show i.toNat - 1 < xs.length by omega))]
     by_cases hc:e xs[i.toNat] xs[i.toNat - 1]=true
     ·rw [if_pos hc] at Hv
      rw [hc,if_pos rfl,wD (by omega) (by omega) (by omega)]
      simp only [Option.bind_some]
      have hlen:((((xs.drop i.toNat).take (((xs.length:Int)).toNat - i.toNat)).length:Nat):Int)=xs.length - i:=by simp;omega
      rw [N7 Z er e xs hl hf i h0 (by omega) _ hlen n xs i 1 (by omega) (by rw [hlen];omega) rfl (by omega) (by omega) rfl (by rw [Hv,hd])]
      rfl
     ·rw [if_neg hc] at Hv
      rw [Bool.not_eq_true] at hc
      rw [hc,if_neg (by simp),w1]
      simp only [Option.bind_some,dD]
      refine ih (i+1) (by omega) (by omega) ?_
      rw [Hv,hd]
      have:=List.take_append_getElem (l:=xs) (i:=i.toNat) hm
      rw [this,show i.toNat+1=(i+1).toNat by omega]
  refine key (xs.length - 1) 1 (by omega) (by omega) ?_
  cases xs with
  | nil=>simp at h2
  | cons x r=>rfl
def Ic {α:Type} [DecidableEq α] (Z:α) (n2:Int) (l5:List α) (l9:List α) (n10:Int) (n11:Int):Option (((List α)×Int×Int)⊕(Int⊕(List α))):=
 if n11 < (l5.length:Int) then
  (zH l9 n2 l5.length n11).bind fun v12=>
  (zH l9 n2 l5.length (cr (n11 - (1:Int)))).bind fun mb=>
  if v12≠mb then
   (zH l9 n2 l5.length n11).bind fun dU=>
   (idx l9 n10).bind fun v17=>
   yT n11 (l9.set n10.toNat dU) (cr (n10+(1:Int)))
  else
   yT n11 l9 n10
 else
  Option.map .inr (yU Z l9 n10)
noncomputable def MN {α:Type} [DecidableEq α] (Z:α) (n2:Int) (l5:List α) (l9:List α) (n10:Int) (n11:Int):Option (Int⊕(List α)):=
 iter (fun x:(List α)×Int×Int=>Ic Z n2 l5 x.1 x.2.1 x.2.2) (l9,n10,n11)
noncomputable def MO {α:Type} [DecidableEq α] (Z:α) (aa:List α) (n2:Int):Option (Int⊕(List α)):=
 if n2 < (aa.length:Int) then
  (idx aa n2).bind fun v3=>
  (idx aa (cr (n2 - (1:Int)))).bind fun v4=>
  if v3=v4 then
   (yb aa n2 (aa.length:Int)).bind fun l5=>
   MN Z n2 l5 aa n2 (1:Int)
  else
   some (.inl (cr (n2+(1:Int))))
 else
  Option.map .inr (some aa)
noncomputable def YG {α:Type} [DecidableEq α] (Z:α) (aa:List α):Option (List α):=
 if (aa.length:Int) < (2:Int) then
  some aa
 else
  iter (fun x:Int=>MO Z aa x) (1:Int)
def GX {α:Type} [DecidableEq α] (a b:α):Bool:=decide (a=b)
theorem LF {α:Type} [DecidableEq α] (Z:α) (n2:Int) (l5 l9:List α) (n10 n11:Int):Ic Z n2 l5 l9 n10 n11=vy Z (fun a b=>some (GX a b)) n2 l5 l9 n10 n11:=by
 unfold Ic vy
 congr 1
 congr 1;funext v12
 congr 1;funext mb
 simp only [Option.bind_some,GX]
 by_cases h:v12=mb<;>simp [h]
theorem S3 {α:Type} [DecidableEq α] (Z:α) (xs:List α) (hl:(xs.length:Int)≤100000):YG Z xs=some (dd GX xs):=by
 rw [← Qo Z (fun a b=>some (GX a b)) GX xs hl (fun x _ y _=>rfl)]
 unfold YG Qk yW
 congr 2
 funext i
 unfold MO BQ MN yV
 congr 1
 congr 1;funext v3
 congr 1;funext v4
 have:(fun x:(List α)×Int×Int=>vy Z (fun a b=>some (GX a b)) i ((xs.drop 0)) x.1 x.2.1 x.2.2)=fun x=>vy Z (fun a b=>some (GX a b)) i (xs.drop 0) x.1 x.2.1 x.2.2:=rfl
 simp only [Option.bind_some,LF]
 by_cases h:v3=v4
 ·simp [h,GX]
 ·simp [h,GX]
def Ie {α:Type} (n7:Int) (AH:List α) (n12:Int):Option (((List α)×Int×Int)⊕(List α)):=
 some (.inl (AH,n12,cr (n7+(1:Int))))
def Ig {α:Type} (Z:α) (l5:List α) (n6:Int):Option (List α):=
 (yb l5 n6 (l5.length:Int)).bind fun xh=>
 (yb (FK l5 n6 xh.length Z) (0:Int) n6).bind fun qq=>
 some qq
def DV {α:Type} (Z:α) (er:α→Option Bool) (l5:List α) (n6:Int) (n7:Int):Option (((List α)×Int×Int)⊕(List α)):=
 if n7 < (l5.length:Int) then
  (idx l5 n7).bind fun v8=>
  (er v8).bind fun v10=>
  if (!v10)=true then
   (idx l5 n6).bind fun mb=>
   Ie n7 (l5.set n6.toNat v8) (cr (n6+(1:Int)))
  else
   Ie n7 l5 n6
 else
  Option.map .inr (Ig Z l5 n6)
noncomputable def YH {α:Type} (Z:α) (aa:List α) (er:α→Option Bool):Option (List α):=
 (xO aa er).bind fun v1=>
 if v1=(-1:Int) then
  some aa
 else
  iter (fun x:(List α)×Int×Int=>DV Z er x.1 x.2.1 x.2.2) (aa,v1,cr (v1+(1:Int)))
theorem S4 {α:Type} (Z:α) (l:List α) {k:Int} (h0:0≤k) (h1:k≤l.length):Ig Z l k=some (l.take k.toNat):=by
 have:=Qn Z l h0 h1
 unfold yU at this
 unfold Ig
 cases h:yb l k l.length with
 | none=>rw [h] at this;simp at this
 | some v=>
   rw [h] at this
   simp only [Option.bind_some] at this ⊢
   cases h2:yb (FK l k v.length Z) 0 k with
   | none=>rw [h2] at this;simp at this
   | some u=>rw [h2] at this;simpa using this
theorem C0 {α:Type} (p:α→Bool) {xs:List α} {m:Nat} (h:m < xs.length):(xs.take (m+1)).filter p=if p xs[m]=true then (xs.take m).filter p++[xs[m]] else (xs.take m).filter p:=by
 rw [← List.take_append_getElem h,List.filter_append]
 by_cases hp:p xs[m]=true<;>simp [hp]
theorem Qp {α:Type} (Z:α) (er:α→Option Bool) (p:α→Bool) (xs:List α) (hl:(xs.length:Int)≤100000) (hf:∀ x∈xs,er x=some (p x)):∀ (n:Nat) (l:List α) (k j:Int),1≤j→j+n=xs.length→l.length=xs.length→0≤k→k < j→l.drop j.toNat=xs.drop j.toNat→l.take k.toNat=(xs.take j.toNat).filter (fun x=>!p x)→
 iter (fun x:(List α)×Int×Int=>DV Z er x.1 x.2.1 x.2.2) (l,k,j)=some (xs.filter (fun x=>!p x)):=by
 intro n
 induction n with
 | zero=>
   intro l k j g1 g2 g3 g4 g5 g6 g7
   rw [iter_eq,DV,if_neg (by simp only;omega),cC,S4 Z l g4 (by omega),g7,List.take_of_length_le (by omega)]
 | succ n ih=>
   intro l k j g1 g2 g3 g4 g5 g6 g7
   have w1:cr (j+1)=j+1:=by rw [bf]<;>omega
   have w3:cr (k+1)=k+1:=by rw [bf]<;>omega
   have hm:j.toNat < xs.length:=by omega
   have SZ:∀ m:Nat,j.toNat≤m→l[m]? =xs[m]?:=by
    intro m hm
    have:=congrArg (fun q:List α=>q[m - j.toNat]?) g6
    simp only [List.getElem?_drop] at this
    rw [show j.toNat+(m - j.toNat)=m by omega] at this
    exact this
   have e1:idx l j=some xs[j.toNat]:=by
    unfold idx;rw [if_pos (by omega),SZ _ (Nat.le_refl _)];simp [hm]
   have Rw:=C0 (fun x=>!p x) hm
   rw [show j.toNat+1=(j+1).toNat by omega] at Rw
   have hdr:l.drop (j+1).toNat=xs.drop (j+1).toNat:=by
    have:=congrArg (List.drop 1) g6
    rw [List.drop_drop,List.drop_drop,show j.toNat+1=(j+1).toNat by omega] at this
    exact this
   rw [iter_eq,DV,if_pos (by simp only;omega)]
   simp only [e1,Option.bind_some,hf _ (List.getElem_mem hm)]
   unfold Ie
   rw [w1]
   cases hp:p xs[j.toNat] with
   | true=>
     rw [hp] at Rw
     simp only [Bool.not_true,Bool.false_eq_true,if_false] at Rw ⊢
     simp only [Option.bind_some,dD]
     exact ih l k (j+1) (by omega) (by omega) g3 g4 (by omega) hdr (by rw [g7,Rw])
   | false=>
     rw [hp] at Rw
     simp only [Bool.not_false,if_true] at Rw ⊢
     obtain ⟨y,hy,_,_⟩:=jq l (i:=k) g4 (by omega)
     simp only [hy,Option.bind_some,dD,w3]
     refine ih (l.set k.toNat _) (k+1) (j+1) (by omega) (by omega) (by simpa using g3) (by omega) (by omega) ?_ ?_
     ·apply List.ext_getElem?
      intro m
      rw [List.getElem?_drop,List.getElem?_drop,List.getElem?_set_ne (by omega),SZ _ (by omega)]
     ·rw [Rw,← g7,show (k+1).toNat=k.toNat+1 by omega]
      apply List.ext_getElem?
      intro m
      have TU:k.toNat < l.length:=by omega
      by_cases hm:m < k.toNat
      ·rw [List.getElem?_take,if_pos (by omega),List.getElem?_set_ne (by omega),List.getElem?_append_left (by simp;omega),List.getElem?_take,if_pos hm]
      ·by_cases Wt:m=k.toNat
       ·subst Wt
        rw [List.getElem?_take,if_pos (by omega),List.getElem?_set_self TU,List.getElem?_append_right (by simp only [List.length_take];omega)]
        simp [Nat.min_eq_left (Nat.le_of_lt TU)]
       ·rw [List.getElem?_eq_none (by simp;omega),List.getElem?_eq_none (by simp;omega)]
theorem C1 {α:Type} (p:α→Bool):∀ (xs:List α) (i:Int),0≤i→(iF p xs i=-1∧∀ x∈xs,p x=false)∨(i≤iF p xs i∧iF p xs i < i+xs.length∧(∀ x∈xs.take (iF p xs i - i).toNat,p x=false)∧∃ y,xs[(iF p xs i - i).toNat]? =some y∧p y=true)
 | [],i,h=>.inl ⟨rfl,by simp⟩
 | x :: r,i,h=>by
   by_cases hp:p x=true
   ·have e:iF p (x :: r) i=i:=by simp [iF,hp]
    rw [e]
    exact .inr ⟨by omega,by simp;omega,by simp,x,by simp,hp⟩
   ·have e:iF p (x :: r) i=iF p r (i+1):=by simp [iF,hp]
    rw [e]
    have eV:p x=false:=by simpa using hp
    rcases C1 p r (i+1) (by omega) with ⟨h1,h2⟩ | ⟨h1,h2,h3,y,h4,h5⟩
    ·exact .inl ⟨h1,fun y hy=>by rcases List.mem_cons.1 hy with rfl | hy;exact eV;exact h2 y hy⟩
    ·have e:(iF p r (i+1) - i).toNat=(iF p r (i+1) - (i+1)).toNat+1:=by omega
     refine .inr ⟨by omega,by simp;omega,?_,y,?_,h5⟩
     ·rw [e]
      intro y hy
      rw [List.take_succ_cons] at hy
      rcases List.mem_cons.1 hy with rfl | hy
      ·exact eV
      ·exact h3 y hy
     ·rw [e,List.getElem?_cons_succ];exact h4
theorem MP {α:Type} (Z:α) (er:α→Option Bool) (p:α→Bool) (xs:List α) (hl:(xs.length:Int)≤100000) (hf:∀ x∈xs,er x=some (p x)):YH Z xs er=some (xs.filter (fun x=>!p x)):=by
 unfold YH
 rw [tB xs er p hf (by omega)]
 simp only [Option.bind_some]
 rcases C1 p xs 0 (by omega) with ⟨h1,h2⟩ | ⟨h1,h2,h3,y,h4,h5⟩
 ·rw [if_pos h1]
  congr 1
  exact (List.filter_eq_self.2 (fun x hx=>by simp [h2 x hx])).symm
 ·generalize iF p xs 0=v at *
  simp only [Int.sub_zero] at h3 h4 h5
  rw [if_neg (by omega),bf (by omega) (by omega)]
  refine Qp Z er p xs hl hf (xs.length - (v+1).toNat) xs v (v+1) (by omega) (by omega) rfl h1 (by omega) rfl ?_
  obtain ⟨h4',abH⟩:=List.getElem?_eq_some_iff.1 h4
  have Rw:=C0 (fun x=>!p x) h4'
  rw [show v.toNat+1=(v+1).toNat by omega,abH] at Rw
  rw [Rw,h5]
  simp only [Bool.not_true,Bool.false_eq_true,if_false]
  exact (List.filter_eq_self.2 (fun x hx=>by simp [h3 x hx])).symm
end Go.Beacon
set_option linter.unusedVariables false
set_option linter.unusedSimpArgs false
namespace Go.Beacon
open Go Go.Eng
structure zW {α:Type} (c:α→α→Int):Prop where
 neg:∀ a b,c a b=- c b a
 tr:∀ {a b d},c a b < 0→c b d < 0→c a d < 0
 cg:∀ {a b d},c a b=0→c b d < 0→c a d < 0
theorem zW.zero {α:Type} {c:α→α→Int} (h:zW c) (a:α):c a a=0:=by have:=h.neg a a;omega
theorem zW.cg' {α:Type} {c:α→α→Int} (h:zW c) {a b d:α} (h0:c a b=0) (h1:c d a < 0):c d b < 0:=by
 have n1:=h.neg d b
 have n2:=h.neg a b
 have n3:=h.neg d a
 by_cases e:c d b=0
 ·have:=h.cg e (d:=a)
  by_cases k:c b a < 0
  ·omega
  ·have e2:c b d=0:=by have:=h.neg b d;omega
   have:=h.cg e2 (d:=a) h1
   omega
 ·by_cases k:c d b < 0
  ·exact k
  ·have k1:c b d < 0:=by omega
   have k2:=h.tr k1 h1
   omega
theorem zW.lex {α:Type} {c1 c2:α→α→Int} (h1:zW c1) (h2:zW c2):zW (fun a b=>if c1 a b≠0 then c1 a b else c2 a b):=by
 refine ⟨fun a b=>?_,fun {a b d}=>?_,fun {a b d}=>?_⟩
 ·have n1:=h1.neg a b;have n2:=h2.neg a b
  repeat' split
  all_goals omega
 ·intro k1 k2
  by_cases e1:c1 a b=0
  ·by_cases e2:c1 b d=0
   ·have e3:c1 a d=0:=by
     have n1:=h1.neg a d
     have n2:=h1.neg b d
     have n3:=h1.neg a b
     by_cases k:c1 a d < 0
     ·have:=h1.cg (a:=b) (b:=a) (d:=d) (by omega) k;omega
     ·by_cases k':c1 d a < 0
      ·have:=h1.cg' (a:=a) (b:=b) (d:=d) e1 k';omega
      ·omega
    rw [if_neg (by simpa using e1)] at k1
    rw [if_neg (by simpa using e2)] at k2
    rw [if_neg (by simpa using e3)]
    exact h2.tr k1 k2
   ·rw [if_pos e2] at k2
    have:=h1.cg e1 k2
    rw [if_pos (by omega)];exact this
  ·rw [if_pos e1] at k1
   by_cases e2:c1 b d=0
   ·have:=h1.cg' e2 k1
    rw [if_pos (by omega)];exact this
   ·rw [if_pos e2] at k2
    have:=h1.tr k1 k2
    rw [if_pos (by omega)];exact this
 ·intro k1 k2
  by_cases e1:c1 a b=0
  ·rw [if_neg (by simpa using e1)] at k1
   by_cases e2:c1 b d=0
   ·have e3:c1 a d=0:=by
     have n1:=h1.neg a d
     have n2:=h1.neg b d
     have n3:=h1.neg a b
     by_cases k:c1 a d < 0
     ·have:=h1.cg (a:=b) (b:=a) (d:=d) (by omega) k;omega
     ·by_cases k':c1 d a < 0
      ·have:=h1.cg' (a:=a) (b:=b) (d:=d) e1 k';omega
      ·omega
    rw [if_neg (by simpa using e2)] at k2
    rw [if_neg (by simpa using e3)]
    exact h2.cg k1 k2
   ·rw [if_pos e2] at k2
    have:=h1.cg e1 k2
    rw [if_pos (by omega)];exact this
  ·rw [if_pos e1] at k1;exact absurd k1 e1
theorem zW.on {α β:Type} {c:α→α→Int} (h:zW c) (f:β→α):zW (fun a b=>c (f a) (f b)):=
 ⟨fun a b=>h.neg _ _,fun h1 h2=>h.tr h1 h2,fun h1 h2=>h.cg h1 h2⟩
theorem VM:zW yS:=by
 refine ⟨fun a b=>?_,fun {a b d}=>?_,fun {a b d}=>?_⟩<;>unfold yS<;>repeat' split
 all_goals omega
theorem BR:∀ {a b c:List UInt8},Lib.compareBytes a b < 0→Lib.compareBytes b c < 0→Lib.compareBytes a c < 0
 | [],[],c,h1,h2=>by simp [Lib.compareBytes] at h1
 | [],_ :: _,[],h1,h2=>by simp [Lib.compareBytes] at h2
 | [],_ :: _,_ :: _,h1,h2=>by simp [Lib.compareBytes]
 | _ :: _,[],c,h1,h2=>by simp [Lib.compareBytes] at h1
 | _ :: _,_ :: _,[],h1,h2=>by simp [Lib.compareBytes] at h2
 | a :: la,b :: lb,c :: lc,h1,h2=>by
   simp only [Lib.compareBytes] at h1 h2 ⊢
   rcases CA a b with h | h | h
   ·rcases CA b c with k | k | k
    ·rw [if_pos (UInt8.lt_trans h k)];omega
    ·subst k;rw [if_pos h];omega
    ·rw [if_neg (w7 k),if_pos k] at h2;omega
   ·subst h
    rcases CA a c with k | k | k
    ·rw [if_pos k];omega
    ·subst k
     rw [if_neg (by simp),if_neg (by simp)] at h1 h2 ⊢
     exact BR h1 h2
    ·rw [if_neg (w7 k),if_pos k] at h2;omega
   ·rw [if_neg (w7 h),if_pos h] at h1;omega
theorem LG:zW Lib.compareBytes:=⟨lA,BR,fun h1 h2=>by rw [mD h1];exact h2⟩
theorem N8 {a b:Int} (h:yS a b=0):a=b:=by
 unfold yS at h
 repeat' split at h
 all_goals omega
theorem zW.ord {α:Type} {c:α→α→Int} (h:zW c) (xs:List α):VK c xs:=by
 refine ⟨fun x _ k=>?_,fun x _ y _ z _ h1 h2=>h.tr h1 h2,fun x _ y _ z _ h1 h2 h3=>?_⟩
 ·have:=h.zero x;omega
 ·have n1:=h.neg x y
  have n2:=h.neg y z
  by_cases h4:c x y=0
  ·have h5:c y x=0:=by omega
   exact h2 (h.cg h5 h3)
  ·have:c y x < 0:=by omega
   exact h2 (h.tr this h3)
theorem VN {α:Type} {n:Nat} {m:Option (List α)} {Z:List α} (h:m=some Z) (hl:Z.length=n):wM n (fun r:List α=>r.length) m=some Z:=by
 rw [h];unfold wM
 simp only [Option.bind_some]
 rw [if_pos hl]
end Go.Beacon
set_option linter.unusedVariables false
set_option linter.unusedSimpArgs false
set_option linter.unusedSectionVars false
namespace Go.Beacon
open Go Go.Eng
class S5 (K:Type) [CT K]:Prop where
 YF:∀ a:K,CT.lt a a=false
 tr:∀ {a b c:K},CT.lt a b=true→CT.lt b c=true→CT.lt a c=true
 tri:∀ a b:K,CT.lt a b=true∨a=b∨CT.lt b a=true
instance:S5 Int where
 YF a:=by show decide (a < a)=false;simp
 tr {a b c} h1 h2:=by
  have h1:decide (a < b)=true:=h1
  have h2:decide (b < c)=true:=h2
  show decide (a < c)=true
  simp only [decide_eq_true_eq] at *;omega
 tri a b:=by
  show decide (a < b)=true∨a=b∨decide (b < a)=true
  simp only [decide_eq_true_eq];omega
instance:S5 Bool where
 YF a:=by cases a<;>rfl
 tr {a b c} h1 h2:=by revert h1 h2;cases a<;>cases b<;>cases c<;>decide
 tri a b:=by cases a<;>cases b<;>decide
instance:S5 (List UInt8) where
 YF a:=by
  show Op.bytesLess a a=false
  rw [w8,w6];rfl
 tr {a b c} h1 h2:=by
  have h1:Op.bytesLess a b=true:=h1
  have h2:Op.bytesLess b c=true:=h2
  show Op.bytesLess a c=true
  rw [w8,decide_eq_true_eq] at *
  exact LG.tr h1 h2
 tri a b:=by
  show Op.bytesLess a b=true∨a=b∨Op.bytesLess b a=true
  rw [w8,w8,decide_eq_true_eq,decide_eq_true_eq]
  rcases Int.lt_trichotomy (Lib.compareBytes a b) 0 with h | h | h
  ·exact .inl h
  ·exact .inr (.inl (mD h))
  ·exact .inr (.inr (by have:=LG.neg a b;omega))
section
variable {K V:Type} [DecidableEq K]
theorem E4 (k:K):cM ([]:List (K×V)) k=none:=rfl
theorem sU (e:K×V) (m:List (K×V)) (k:K):cM (e :: m) k=if e.1=k then some e.2 else cM m k:=rfl
theorem GY (m:List (K×V)) (k k':K):cM (tJ m k) k'=if k=k' then none else cM m k':=by
 induction m with
 | nil=>simp [tJ,cM]
 | cons e r ih=>
   unfold tJ at ih ⊢
   rw [List.filter_cons]
   by_cases h:e.1=k
   ·rw [if_neg (by simp [h]),ih,sU]
    by_cases h2:k=k'
    ·rw [if_pos h2,if_pos h2]
    ·rw [if_neg h2,if_neg h2,if_neg (by rw [h];exact h2)]
   ·rw [if_pos (by simp [h]),sU,ih,sU]
    by_cases h2:k=k'
    ·rw [if_pos h2,if_pos h2,if_neg (by rw [← h2];exact h)]
    ·rw [if_neg h2,if_neg h2]
variable [CT K]
theorem GZ (k:K) (v:V) (k':K):∀ (m:List (K×V)),cM m k=none→cM (Bm k v m) k'=if k=k' then some v else cM m k'
 | [],_=>by simp [Bm,cM]
 | e :: r,h=>by
   rw [sU] at h
   have h1:e.1≠k:=fun he=>by rw [if_pos he] at h;cases h
   rw [if_neg h1] at h
   unfold Bm
   split
   ·rw [sU,GZ k v k' r h,sU]
    by_cases h2:k=k'
    ·rw [if_pos h2,if_pos h2,if_neg (by rw [← h2];exact h1)]
    ·rw [if_neg h2,if_neg h2]
   ·rw [sU]
theorem uT (m:List (K×V)) (k:K) (v:V) (k':K):cM (ji m k v) k'=if k=k' then some v else cM m k':=by
 unfold ji
 rw [GZ k v k' _ (by rw [GY,if_pos rfl]),GY]
 by_cases h:k=k'
 ·rw [if_pos h,if_pos h]
 ·rw [if_neg h,if_neg h,if_neg h]
variable [S5 K]
theorem Qq (k:K) (v:V) (m:List (K×V)):(Bm k v m).length=m.length+1:=by
 have:=(wO k v m).length_eq;simpa using this
theorem Ih {m:List (K×V)} {k:K} {v:V} (hk:cM m k=none):(ji m k v).length=m.length+1:=by
 unfold ji;rw [Qq,Cl hk]
end
section
variable {E S A:Type}
end
end Go.Beacon
set_option linter.unusedVariables false
set_option linter.unusedSimpArgs false
namespace Go.Beacon
open Go Go.Eng
section
variable {α:Type} (id:α→ae)
end
end Go.Beacon
