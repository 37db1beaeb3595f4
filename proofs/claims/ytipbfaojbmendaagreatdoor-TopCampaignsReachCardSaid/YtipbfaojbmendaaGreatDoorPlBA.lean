/- Plain facts on what the functions compute. No program in sight. -/
import Derived.Test.YtipbfaojbmendaaGreatDoorCore
open Array renaming range→a7,toList_extract→bu
open Bool renaming false_eq_true→aw,eq_iff_iff→bo,not_true→bP
open Go renaming Proofs.ltOf→ag
open List renaming pairwise_cons→ad,mem_cons→al,getElem?_eq_none→ap,range→aS,ext_getElem?→a6,getElem?_drop→a8,getElem?_take→be,getElem_mem→bi,drop_of_length_le→bk,extract→bv,take_of_length_le→bx,pairwise_map→bz,drop_drop→bG,getElem?_set_ne→bU,filter_eq_self→bW
open Option renaming bind_some→ac,map→af,some.injEq→bm,map_some→bp
set_option linter.unusedVariables false
namespace Go.Beacon
open Go Go.Eng
theorem bc {x:Int} (h1:-9223372036854775808≤x) (h2:x≤9223372036854775807):bA x=x:=uw ⟨h1,h2⟩
theorem QL {a b:Int} (h:0 < b) (h0:0≤a):rem a b=some (a % b):=by
 unfold rem
 rw [if_neg (by omega),Int.tmod_eq_emod_of_nonneg h0]
theorem TO {a b:Int} (h:b≠0):rem a b=some (a.tmod b):=by unfold rem;rw [if_neg h]
theorem TP {a b:Int} (h:b≠0):quo a b=some (bA (a.tdiv b)):=by unfold quo;rw [if_neg h]
theorem fe {α:Type} (xs:List α) {i:Int} (h0:0≤i) (h1:i < xs.length):∃ x,idx xs i=some x∧x∈xs∧xs.drop i.toNat=x :: xs.drop (i+1).toNat:=by
 have h:i.toNat < xs.length:=by omega
 refine ⟨xs[i.toNat],by unfold idx;rw [if_pos h0];simp [h],bi h,?_⟩
 rw [show (i+1).toNat=i.toNat+1 by omega]
 exact List.drop_eq_getElem_cons h
theorem vf {α:Type} {xs:List α} {i:Int} {x:α} (h:idx xs i=some x):x∈xs:=List.mem_of_getElem? (eR h).2.2
theorem mQ {α:Type} {xs ys:List α} (h:xs.length+ys.length≤1000000000):app xs ys=some (xs++ys):=by unfold app;rw [if_pos h]
theorem NF {α:Type} {xs:List α} {l h:Int} (h0:0≤l) (h1:l≤h) (h2:h≤xs.length):Gz xs l h=some ((xs.drop l.toNat).take (h.toNat - l.toNat)):=by
 unfold Gz;rw [if_pos ⟨h0,h1,h2⟩]
def CH {α σ A:Type} (step:σ→α→Int→Option (σ⊕A)) (fin:σ→Int→Option A):List α→σ→Int→Option A
 | [],s,i=>fin s i
 | x :: r,s,i=>match step s x i with
   | none=>none
   | some (.inl s')=>CH step fin r s' (i+1)
   | some (.inr a)=>some a
theorem CI {α σ A X:Type} (xs:List α) (mk:σ→Int→X) (f:X→Option (X⊕A)) (step:σ→α→Int→Option (σ⊕A)) (fin:σ→Int→Option A)
 (h1:∀ s (i:Int) x,0≤i→i < xs.length→idx xs i=some x→f (mk s i)=(step s x i).map (Sum.map (fun s'=>mk s' (i+1)) id))
 (h2:∀ s,f (mk s xs.length)=(fin s xs.length).map .inr):∀ (n:Nat) (s:σ) (i:Int),0≤i→i+n=xs.length→iter f (mk s i)=CH step fin (xs.drop i.toNat) s i
 | 0,s,i,h0,hn=>by
   have hi:i=xs.length:=by omega
   subst hi
   rw [iter_eq,h2,aW]
   simp [CH]
 | n+1,s,i,h0,hn=>by
   obtain ⟨x,hx,_,hd⟩:=fe xs h0 (by omega)
   rw [iter_eq,h1 s i x h0 (by omega) hx,hd]
   simp only [CH]
   cases Dl:step s x i with
   | none=>rfl
   | some u=>
     cases u with
     | inl s'=>exact CI xs mk f step fin h1 h2 n s' (i+1) (by omega) (by omega)
     | inr a=>rfl
theorem Hi {α σ A X:Type} (xs:List α) (mk:σ→Int→X) (f:X→Option (X⊕A)) (step:σ→α→Int→Option (σ⊕A)) (fin:σ→Int→Option A)
 (h1:∀ s (i:Int) x,0≤i→i < xs.length→idx xs i=some x→f (mk s i)=(step s x i).map (Sum.map (fun s'=>mk s' (i+1)) id))
 (h2:∀ s,f (mk s xs.length)=(fin s xs.length).map .inr) (s:σ):iter f (mk s 0)=CH step fin xs s 0:=
 CI xs mk f step fin h1 h2 xs.length s 0 (by omega) (by omega)
def CJ {α A:Type} (g:α→Option A) (e:A):List α→A
 | []=>e
 | x :: r=>match g x with
   | some a=>a
   | none=>CJ g e r
theorem En {α A:Type} (xs:List α) (f:Int→Option (Int⊕A)) (g:α→Option A) (e:A) (hlen:(xs.length:Int)≤4611686018427387904)
 (h1:∀ (i:Int) x,0≤i→i < xs.length→idx xs i=some x→f i=match g x with | some a=>some (.inr a) | none=>some (.inl (i+1)))
 (h2:f xs.length=some (.inr e)):iter f 0=some (CJ g e xs):=by
 have h:=Hi xs (fun (_:Unit) i=>i) f (fun _ x _=>match g x with | some a=>some (.inr a) | none=>some (.inl ())) (fun _ _=>some e)
  (fun s i x h0 h3 h4=>by rw [h1 i x h0 h3 h4];cases g x<;>rfl) (fun s=>by rw [h2];rfl) ()
 rw [h]
 clear h h1 h2 hlen
 suffices ∀ (xs:List α) (i:Int),CH (fun (_:Unit) x _=>match g x with | some a=>some (.inr a) | none=>some (.inl ())) (fun _ _=>some e) xs () i=some (CJ g e xs) from this xs 0
 intro xs
 induction xs with
 | nil=>intro i;rfl
 | cons x r ih=>
   intro i
   simp only [CH,CJ]
   cases g x with
   | none=>exact ih (i+1)
   | some a=>rfl
theorem CK {α:Type} (p:α→Bool):∀ (xs:List α),CJ (fun x=>if p x=true then none else some false) true xs=xs.all p
 | []=>rfl
 | x :: r=>by
   simp only [CJ,List.all_cons]
   cases hp:p x<;>simp [CK p r]
end Go.Beacon
set_option linter.unusedSimpArgs false
namespace Go.Beacon
open Go Go.Eng
def qR {α:Type} (xs:List α) (f:α→Option Bool) (i:Int):Option (Int⊕Int):=
 if i < (xs.length:Int) then
  (idx xs i).bind fun v3=>
  (f v3).bind fun v4=>
  if v4=true then
   af .inr (some i)
  else
   some (.inl (bA (i+(1:Int))))
 else
  af .inr (some (-1:Int))
noncomputable def vg {α:Type} (xs:List α) (f:α→Option Bool):Option Int:=iter (fun x:Int=>qR xs f x) 0
noncomputable def xR {α:Type} (xs:List α) (f:α→Option Bool):Option Bool:=(vg xs f).bind fun v1=>some (decide ((0:Int)≤v1))
def kW {α:Type} (p:α→Bool):List α→Int→Int
 | [],_=>-1
 | x :: r,i=>if p x=true then i else kW p r (i+1)
theorem Eo {α:Type} (p:α→Bool):∀ (xs:List α) (i:Int),0≤i→(0≤kW p xs i↔xs.any p=true)
 | [],i,h=>by simp [kW]
 | x :: r,i,h=>by
   have:=Eo p r (i+1) (by omega)
   simp only [kW,List.any_cons,Bool.or_eq_true]
   split
   ·rename_i hp;simp [hp,h]
   ·rename_i hp
    have dE:p x=false:=by simpa using hp
    simp only [dE,aw,false_or];exact this
theorem vF {α:Type} (xs:List α) (f:α→Option Bool) (p:α→Bool) (hf:∀ x∈xs,f x=some (p x)) (hb:(xs.length:Int)≤4611686018427387904):∀ (n:Nat) (i:Int),0≤i→i+n=xs.length→
 iter (fun x:Int=>qR xs f x) i=some (kW p (xs.drop i.toNat) i)
 | 0,i,h0,hn=>by
   rw [iter_eq,qR,if_neg (by omega),bk (by omega)];rfl
 | n+1,i,h0,hn=>by
   obtain ⟨x,hx,hm,hd⟩:=fe xs h0 (by omega)
   rw [iter_eq,qR,if_pos (by omega),hx,hd]
   simp only [ac,hf x hm,kW]
   split
   ·rfl
   ·simp only [ac,bh]
    rw [bc (by omega) (by omega)]
    exact vF xs f p hf hb n (i+1) (by omega) (by omega)
theorem qS {α:Type} (xs:List α) (f:α→Option Bool) (p:α→Bool) (hf:∀ x∈xs,f x=some (p x)) (hb:(xs.length:Int)≤4611686018427387904):vg xs f=some (kW p xs 0):=by
 unfold vg
 rw [vF xs f p hf hb xs.length 0 (by omega) (by omega)];simp
theorem uO {α:Type} (xs:List α) (f:α→Option Bool) (p:α→Bool) (hf:∀ x∈xs,f x=some (p x)) (hb:(xs.length:Int)≤4611686018427387904):xR xs f=some (xs.any p):=by
 unfold xR
 rw [qS xs f p hf hb]
 simp only [ac,bm]
 rw [bo,decide_eq_true_eq]
 exact Eo p xs 0 (by omega)
def Fo (xs:List Int) (i:Int):Option (Int⊕Int):=
 if i < (xs.length:Int) then
  (idx xs i).bind fun v3=>
  if v3≠(0:Int) then
   af .inr (some v3)
  else
   some (.inl (bA (i+(1:Int))))
 else
  af .inr (some (0:Int))
noncomputable def gOr (xs:List Int):Option Int:=iter (fun x:Int=>Fo xs x) 0
def sx:List Int→Int
 | []=>0
 | x :: r=>if x≠0 then x else sx r
theorem zY (xs:List Int) (hb:(xs.length:Int)≤4611686018427387904):gOr xs=some (sx xs):=by
 unfold gOr
 rw [En xs (fun x:Int=>Fo xs x) (fun x=>if x≠0 then some x else none) 0 hb]
 ·congr 1
  clear hb
  induction xs with
  | nil=>rfl
  | cons x r ih=>
    simp only [CJ,sx]
    by_cases h:x=0
    ·subst h;simpa using ih
    ·simp [h]
 ·intro i x h0 h1 hx
  unfold Fo
  rw [if_pos h1,hx]
  simp only [ac]
  by_cases h:x=0
  ·rw [bc (by omega) (by omega)];simp [h]
  ·simp [h]
 ·unfold Fo;rw [if_neg (by omega)];rfl
def dD (a b:Int):Int:=if a < b then -1 else if b < a then 1 else 0
theorem uP:∀ l:List UInt8,Lib.compareBytes l l=0
 | []=>rfl
 | a :: l=>by simp only [Lib.compareBytes];rw [if_neg (by simp),if_neg (by simp)];exact uP l
theorem Fp (a:UInt8):¬ a < a:=by simp
theorem zZ (a b:UInt8):a < b∨a=b∨b < a:=by
 rcases Nat.lt_trichotomy a.toNat b.toNat with h | h | h
 ·exact .inl h
 ·exact .inr (.inl (UInt8.toNat_inj.1 h))
 ·exact .inr (.inr h)
theorem uQ {a b:UInt8} (h:a < b):¬ b < a:=by
 rw [UInt8.lt_iff_toNat_lt] at *;omega
theorem ze:∀ a b:List UInt8,Lib.compareBytes a b=- Lib.compareBytes b a
 | [],[]=>rfl
 | [],_ :: _=>rfl
 | _ :: _,[]=>rfl
 | a :: la,b :: lb=>by
   simp only [Lib.compareBytes]
   rcases zZ a b with h | h | h
   ·rw [if_pos h,if_neg (uQ h),if_pos h]
   ·subst h
    rw [if_neg (by simp),if_neg (by simp),if_neg (by simp),if_neg (by simp)];exact ze la lb
   ·rw [if_neg (uQ h),if_pos h,if_pos h];rfl
theorem sK:∀ {a b:List UInt8},Lib.compareBytes a b=0→a=b
 | [],[],_=>rfl
 | [],_ :: _,h=>by simp [Lib.compareBytes] at h
 | _ :: _,[],h=>by simp [Lib.compareBytes] at h
 | a :: la,b :: lb,h=>by
   simp only [Lib.compareBytes] at h
   split at h
   ·simp at h
   ·split at h
    ·simp at h
    ·rename_i h1 h2
     rcases zZ a b with h3 | h3 | h3
     ·exact absurd h3 h1
     ·rw [h3,sK h]
     ·exact absurd h3 h2
theorem tc:∀ a b:List UInt8,Op.bytesLess a b=decide (Lib.compareBytes a b < 0)
 | [],[]=>by simp [Op.bytesLess,Lib.compareBytes]
 | [],_ :: _=>by simp [Op.bytesLess,Lib.compareBytes]
 | _ :: _,[]=>by simp [Op.bytesLess,Lib.compareBytes]
 | a :: la,b :: lb=>by
   simp only [Op.bytesLess,Lib.compareBytes]
   rcases zZ a b with h | h | h
   ·simp [h]
   ·subst h;simp [tc la lb]
   ·have h1:=uQ h
    have h2:(a==b)=false:=by
     rw [beq_eq_false_iff_ne];intro e;subst e;exact Fp _ h
    simp [h,h1,h2]
theorem Kc (a b:List UInt8):(a==b)=decide (Lib.compareBytes a b=0):=by
 rw [bo]
 simp only [beq_iff_eq,decide_eq_true_eq]
 exact ⟨fun h=>by rw [h];exact uP b,sK⟩
structure DF {α:Type} (cf:α→α→Int) (xs:List α):Prop where
 Lq:∀ x∈xs,¬ cf x x < 0
 tr:∀ x∈xs,∀ y∈xs,∀ z∈xs,cf x y < 0→cf y z < 0→cf x z < 0
 ZX:∀ x∈xs,∀ y∈xs,∀ z∈xs,¬ cf x y < 0→¬ cf y z < 0→¬ cf x z < 0
def R9 {α:Type} (cf:α→α→Int) (xs:List α):Prop:=xs.Pairwise (fun a b=>¬ cf b a < 0)
theorem DF.mono {α:Type} {cf:α→α→Int} {xs ys:List α} (h:DF cf xs) (hs:∀ y∈ys,y∈xs):DF cf ys:=
 ⟨fun x hx=>h.Lq x (hs x hx),fun x hx y hy z hz=>h.tr x (hs x hx) y (hs y hy) z (hs z hz),fun x hx y hy z hz=>h.ZX x (hs x hx) y (hs y hy) z (hs z hz)⟩
def zf {α:Type} (n4:Int) (l7:List α) (n8:Int) (c9:Bool):Option (((List α)×Int)⊕(((List α)×Int)⊕(List α))):=
 if c9=true then
  (idx l7 (bA (n8 - (1:Int)))).bind fun oZ=>
  (idx l7 n8).bind fun rq=>
  (idx l7 n8).bind fun zH=>
  (idx (l7.set n8.toNat oZ) (bA (n8 - (1:Int)))).bind fun Cw=>
  some (.inl ((l7.set n8.toNat oZ).set (bA (n8 - (1:Int))).toNat rq,bA (n8 - (1:Int))))
 else
  af .inr (some (.inl (l7,bA (n4+(1:Int)))))
def BI {α:Type} (ai:Int) (sF:α→α→Option Int) (n4:Int) (l7:List α) (n8:Int):Option (((List α)×Int)⊕(((List α)×Int)⊕(List α))):=
 if ai < n8 then
  (idx l7 n8).bind fun v10=>
  (idx l7 (bA (n8 - (1:Int)))).bind fun v11=>
  (sF v10 v11).bind fun v12=>
  zf n4 l7 n8 (decide (v12 < (0:Int)))
 else
  zf n4 l7 n8 false
noncomputable def zg {α:Type} (ai:Int) (sF:α→α→Option Int) (n4:Int) (l7:List α) (n8:Int):Option (((List α)×Int)⊕(List α)):=
 iter (fun x:(List α)×Int=>BI ai sF n4 x.1 x.2) (l7,n8)
noncomputable def BJ {α:Type} (ai aL:Int) (sF:α→α→Option Int) (l3:List α) (n4:Int):Option (((List α)×Int)⊕(List α)):=
 if n4 < aL then
  zg ai sF n4 l3 n4
 else
  af .inr (some l3)
noncomputable def zh {α:Type} (ai aL:Int) (sF:α→α→Option Int) (l3:List α) (n4:Int):Option (List α):=
 iter (fun x:(List α)×Int=>BJ ai aL sF x.1 x.2) (l3,n4)
noncomputable def Wt {α:Type} (aa:List α) (ai aL:Int) (sF:α→α→Option Int):Option (List α):=
 zh ai aL sF aa (bA (ai+(1:Int)))
theorem NG {α:Type} (P:List α) (x y:α) (T:List α):((P++y :: x :: T).set (P.length+1) y).set P.length x=P++x :: y :: T:=by
 induction P with
 | nil=>rfl
 | cons p P ih=>simp only [List.cons_append,List.length_cons,List.set_cons_succ,ih]
theorem Fq {α:Type} (P:List α) (x:α) (T:List α) {i:Int} (hi:i=P.length):idx (P++x :: T) i=some x:=by
 subst hi
 unfold idx
 rw [if_pos (by omega)]
 simp
theorem TQ {α:Type} {f:α→α→Option Int} {cf:α→α→Int} {x:α} {r:List α} (hf:∀ a∈x :: r,∀ b∈x :: r,f a b=some (cf a b)) (hO:DF cf (x :: r)):Sort.SWO (ag (tt f x r)):=by
 have e:∀ i j,tt f x r i j=cf (r7 x r i) (r7 x r j):=fun i j=>by unfold tt;rw [hf _ (iy x r i) _ (iy x r j)];rfl
 refine ⟨fun i=>?_,fun i j k h1 h2=>?_,fun i j k h1 h2=>?_⟩
 ·unfold ag;rw [e];simpa using hO.Lq _ (iy x r i)
 ·unfold ag at *;rw [e] at *
  simp only [decide_eq_true_eq] at *
  exact hO.tr _ (iy x r i) _ (iy x r j) _ (iy x r k) h1 h2
 ·unfold ag at *;rw [e] at *
  simp only [decide_eq_false_iff_not] at *
  exact hO.ZX _ (iy x r i) _ (iy x r j) _ (iy x r k) h1 h2
theorem Lr {α:Type} (x:α) (r:List α):(aS (r.length+1)).map (r7 x r)=x :: r:=by
 apply a6
 intro i
 rw [List.getElem?_map]
 by_cases hi:i < r.length+1
 ·rw [List.getElem?_range hi,bp]
  unfold r7
  rw [List.getD_eq_getElem?_getD,List.getElem?_eq_getElem (l:=x :: r) (by simpa using hi)];rfl
 ·rw [ap (by simp;omega),ap (by simp;omega)];rfl
theorem zi {α:Type} (f:α→α→Option Int) (cf:α→α→Int) (xs:List α) (hl:xs.length≤100000) (hf:∀ a∈xs,∀ b∈xs,f a b=some (cf a b)) (hO:DF cf xs):∃ Z,Ce f xs=some Z∧Z.Perm xs∧R9 cf Z:=by
 cases xs with
 | nil=>exact ⟨[],rfl,List.Perm.refl _,.nil⟩
 | cons x r=>
   have hS:=TQ hf hO
   have hlen:r.length+1≤100000:=by simpa using hl
   rw [ye,if_pos ⟨by omega,fun a ha b hb=>⟨_,hf a ha b hb⟩,hS⟩]
   have P2:=Sort.pdq_sorts (ag (tt f x r)) hS (a7 (r.length+1)) 0 (r.length+1) (Lib.bitLen (r.length+1)) true true (Nat.zero_le _) (by simp) (Or.inl rfl)
   generalize Sort.pdq (ag (tt f x r)) (a7 (r.length+1)) 0 (r.length+1) (Lib.bitLen (r.length+1)) true true=d at P2
   obtain ⟨⟨h1,_,h3⟩,h4⟩:=P2
   have hd:d.size=r.length+1:=by simpa using h1
   have mB:d.toList.Perm (aS (r.length+1)):=by
    have a1:(d.extract 0 (r.length+1)).toList=d.toList:=by
     rw [bu]
     simp [bv]
     exact bx (by simp [hd])
    have a2:((a7 (r.length+1)).extract 0 (r.length+1)).toList=aS (r.length+1):=by
     rw [bu]
     simp [bv]
    rw [a1,a2] at h3
    exact h3
   refine ⟨_,rfl,?_,?_⟩
   ·have:=mB.map (r7 x r)
    rw [Lr] at this
    exact this
   ·unfold R9
    rw [bz,List.pairwise_iff_getElem]
    intro i j hi hj yz
    have Sx:i < d.size:=by simpa using hi
    have Yy:j < d.size:=by simpa using hj
    have h:=h4 i j (Nat.zero_le _) yz (by omega)
    unfold ag tt at h
    rw [hf _ (iy x r _) _ (iy x r _)] at h
    simp only [Option.getD_some,decide_eq_false_iff_not] at h
    rw [getElem!_pos d i Sx,getElem!_pos d j Yy] at h
    simpa using h
theorem vh {α:Type} {cf:α→α→Int}:∀ {X Y:List α},X.Perm Y→R9 cf X→R9 cf Y→(∀ a∈X,∀ b∈X,¬ cf a b < 0→¬ cf b a < 0→a=b)→X=Y
 | [],Y,hp,_,_,_=>by rw [List.nil_perm.1 hp]
 | x :: X,[],hp,_,_,_=>by have:=hp.length_eq;simp at this
 | x :: X,y :: Y,hp,hX,hY,ha=>by
   have Ip:x=y:=by
    have hx:x∈y :: Y:=hp.mem_iff.1 (by simp)
    have hy:y∈x :: X:=hp.mem_iff.2 (by simp)
    rcases al.1 hx with h | h
    ·exact h
    ·rcases al.1 hy with h' | h'
     ·exact h'.symm
     ·exact ha x (by simp) y (by simp [h']) ((ad.1 hY).1 x h) ((ad.1 hX).1 y h')
   subst Ip
   rw [vh (List.Perm.cons_inv hp) (ad.1 hX).2 (ad.1 hY).2 (fun a h b h'=>ha a (by simp [h]) b (by simp [h']))]
def CL {α:Type} (Z:α) (l10:List α) (n11:Int):Option (Int⊕(List α)):=
 (Gz l10 n11 (l10.length:Int)).bind fun ja=>
 (Gz (S6 l10 n11 ja.length Z) (0:Int) n11).bind fun uG=>
 af .inr (some uG)
theorem TR {α:Type} (Z:α) (l:List α) {k:Int} (h0:0≤k) (h1:k≤l.length):CL Z l k=some (.inr (l.take k.toNat)):=by
 unfold CL
 rw [NF h0 h1 (by omega)]
 simp only [ac]
 have hlen:(((l.drop k.toNat).take (((l.length:Int)).toNat - k.toNat)).length)=l.length - k.toNat:=by simp
 rw [hlen,NF (by omega) h0 (by unfold S6;simp;omega)]
 simp only [ac,bp,bm,Sum.inr.injEq]
 unfold S6
 simp only [Int.toNat_zero,List.drop_zero,Nat.sub_zero]
 rw [List.append_assoc,List.take_append_of_le_length (by simp;omega),List.take_take]
 congr 1;omega
def Fs {α:Type} (n7:Int) (jM:List α) (n12:Int):Option (((List α)×Int×Int)⊕(List α)):=
 some (.inl (jM,n12,bA (n7+(1:Int))))
def Ft {α:Type} (Z:α) (l5:List α) (n6:Int):Option (List α):=
 (Gz l5 n6 (l5.length:Int)).bind fun yk=>
 (Gz (S6 l5 n6 yk.length Z) (0:Int) n6).bind fun BE=>
 some BE
def BK {α:Type} (Z:α) (jb:α→Option Bool) (l5:List α) (n6 n7:Int):Option (((List α)×Int×Int)⊕(List α)):=
 if n7 < (l5.length:Int) then
  (idx l5 n7).bind fun v8=>
  (jb v8).bind fun v10=>
  if (!v10)=true then
   (idx l5 n6).bind fun oZ=>
   Fs n7 (l5.set n6.toNat v8) (bA (n6+(1:Int)))
  else
   Fs n7 l5 n6
 else
  af .inr (Ft Z l5 n6)
noncomputable def TS {α:Type} (Z:α) (aa:List α) (jb:α→Option Bool):Option (List α):=
 (vg aa jb).bind fun v1=>
 if v1=(-1:Int) then
  some aa
 else
  iter (fun x:(List α)×Int×Int=>BK Z jb x.1 x.2.1 x.2.2) (aa,v1,bA (v1+(1:Int)))
theorem QM {α:Type} (Z:α) (l:List α) {k:Int} (h0:0≤k) (h1:k≤l.length):Ft Z l k=some (l.take k.toNat):=by
 have:=TR Z l h0 h1
 unfold CL at this
 unfold Ft
 cases h:Gz l k l.length with
 | none=>rw [h] at this;simp at this
 | some v=>
   rw [h] at this
   simp only [ac] at this ⊢
   cases h2:Gz (S6 l k v.length Z) 0 k with
   | none=>rw [h2] at this;simp at this
   | some u=>rw [h2] at this;simpa using this
theorem AN {α:Type} (p:α→Bool) {xs:List α} {m:Nat} (h:m < xs.length):(xs.take (m+1)).filter p=if p xs[m]=true then (xs.take m).filter p++[xs[m]] else (xs.take m).filter p:=by
 rw [← List.take_append_getElem h,List.filter_append]
 by_cases hp:p xs[m]=true<;>simp [hp]
theorem NH {α:Type} (Z:α) (jb:α→Option Bool) (p:α→Bool) (xs:List α) (hl:(xs.length:Int)≤100000) (hf:∀ x∈xs,jb x=some (p x)):∀ (n:Nat) (l:List α) (k j:Int),1≤j→j+n=xs.length→l.length=xs.length→0≤k→k < j→l.drop j.toNat=xs.drop j.toNat→l.take k.toNat=(xs.take j.toNat).filter (fun x=>!p x)→
 iter (fun x:(List α)×Int×Int=>BK Z jb x.1 x.2.1 x.2.2) (l,k,j)=some (xs.filter (fun x=>!p x)):=by
 intro n
 induction n with
 | zero=>
   intro l k j g1 g2 g3 g4 g5 g6 g7
   rw [iter_eq,BK,if_neg (by simp only;omega),aW,QM Z l g4 (by omega),g7,bx (by omega)]
 | succ n ih=>
   intro l k j g1 g2 g3 g4 g5 g6 g7
   have w1:bA (j+1)=j+1:=by rw [bc]<;>omega
   have w3:bA (k+1)=k+1:=by rw [bc]<;>omega
   have hm:j.toNat < xs.length:=by omega
   have hgl:∀ m:Nat,j.toNat≤m→l[m]? =xs[m]?:=by
    intro m hm
    have:=congrArg (fun q:List α=>q[m - j.toNat]?) g6
    simp only [a8] at this
    rw [show j.toNat+(m - j.toNat)=m by omega] at this
    exact this
   have e1:idx l j=some xs[j.toNat]:=by
    unfold idx;rw [if_pos (by omega),hgl _ (Nat.le_refl _)];simp [hm]
   have Jc:=AN (fun x=>!p x) hm
   rw [show j.toNat+1=(j+1).toNat by omega] at Jc
   have Sa:l.drop (j+1).toNat=xs.drop (j+1).toNat:=by
    have:=congrArg (List.drop 1) g6
    rw [bG,bG,show j.toNat+1=(j+1).toNat by omega] at this
    exact this
   rw [iter_eq,BK,if_pos (by simp only;omega)]
   simp only [e1,ac,hf _ (bi hm)]
   unfold Fs
   rw [w1]
   cases hp:p xs[j.toNat] with
   | true=>
     rw [hp] at Jc
     simp only [bP,aw,if_false] at Jc ⊢
     simp only [ac,bh]
     exact ih l k (j+1) (by omega) (by omega) g3 g4 (by omega) Sa (by rw [g7,Jc])
   | false=>
     rw [hp] at Jc
     simp only [Bool.not_false,if_true] at Jc ⊢
     obtain ⟨y,hy,_,_⟩:=fe l (i:=k) g4 (by omega)
     simp only [hy,ac,bh,w3]
     refine ih (l.set k.toNat _) (k+1) (j+1) (by omega) (by omega) (by simpa using g3) (by omega) (by omega) ?_ ?_
     ·apply a6
      intro m
      rw [a8,a8,bU (by omega),hgl _ (by omega)]
     ·rw [Jc,← g7,show (k+1).toNat=k.toNat+1 by omega]
      apply a6
      intro m
      have JP:k.toNat < l.length:=by omega
      by_cases hm:m < k.toNat
      ·rw [be,if_pos (by omega),bU (by omega),List.getElem?_append_left (by simp;omega),be,if_pos hm]
      ·by_cases hm2:m=k.toNat
       ·subst hm2
        rw [be,if_pos (by omega),List.getElem?_set_self JP,List.getElem?_append_right (by simp only [List.length_take];omega)]
        simp [Nat.min_eq_left (Nat.le_of_lt JP)]
       ·rw [ap (by simp;omega),ap (by simp;omega)]
theorem wJ {α:Type} (p:α→Bool):∀ (xs:List α) (i:Int),0≤i→(kW p xs i=-1∧∀ x∈xs,p x=false)∨(i≤kW p xs i∧kW p xs i < i+xs.length∧(∀ x∈xs.take (kW p xs i - i).toNat,p x=false)∧∃ y,xs[(kW p xs i - i).toNat]? =some y∧p y=true)
 | [],i,h=>.inl ⟨rfl,by simp⟩
 | x :: r,i,h=>by
   by_cases hp:p x=true
   ·have e:kW p (x :: r) i=i:=by simp [kW,hp]
    rw [e]
    exact .inr ⟨by omega,by simp;omega,by simp,x,by simp,hp⟩
   ·have e:kW p (x :: r) i=kW p r (i+1):=by simp [kW,hp]
    rw [e]
    have dE:p x=false:=by simpa using hp
    rcases wJ p r (i+1) (by omega) with ⟨h1,h2⟩ | ⟨h1,h2,h3,y,h4,h5⟩
    ·exact .inl ⟨h1,fun y hy=>by rcases al.1 hy with rfl | hy;exact dE;exact h2 y hy⟩
    ·have e:(kW p r (i+1) - i).toNat=(kW p r (i+1) - (i+1)).toNat+1:=by omega
     refine .inr ⟨by omega,by simp;omega,?_,y,?_,h5⟩
     ·rw [e]
      intro y hy
      rw [List.take_succ_cons] at hy
      rcases al.1 hy with rfl | hy
      ·exact dE
      ·exact h3 y hy
     ·rw [e,List.getElem?_cons_succ];exact h4
theorem Kd {α:Type} (Z:α) (jb:α→Option Bool) (p:α→Bool) (xs:List α) (hl:(xs.length:Int)≤100000) (hf:∀ x∈xs,jb x=some (p x)):TS Z xs jb=some (xs.filter (fun x=>!p x)):=by
 unfold TS
 rw [qS xs jb p hf (by omega)]
 simp only [ac]
 rcases wJ p xs 0 (by omega) with ⟨h1,h2⟩ | ⟨h1,h2,h3,y,h4,h5⟩
 ·rw [if_pos h1]
  congr 1
  exact (bW.2 (fun x hx=>by simp [h2 x hx])).symm
 ·generalize kW p xs 0=v at *
  simp only [Int.sub_zero] at h3 h4 h5
  rw [if_neg (by omega),bc (by omega) (by omega)]
  refine NH Z jb p xs hl hf (xs.length - (v+1).toNat) xs v (v+1) (by omega) (by omega) rfl h1 (by omega) rfl ?_
  obtain ⟨h4',ZY⟩:=List.getElem?_eq_some_iff.1 h4
  have Jc:=AN (fun x=>!p x) h4'
  rw [show v.toNat+1=(v+1).toNat by omega,ZY] at Jc
  rw [Jc,h5]
  simp only [bP,aw,if_false]
  exact (bW.2 (fun x hx=>by simp [h3 x hx])).symm
structure rD {α:Type} (c:α→α→Int):Prop where
 neg:∀ a b,c a b=- c b a
 tr:∀ {a b d},c a b < 0→c b d < 0→c a d < 0
 cg:∀ {a b d},c a b=0→c b d < 0→c a d < 0
theorem rD.zero {α:Type} {c:α→α→Int} (h:rD c) (a:α):c a a=0:=by have:=h.neg a a;omega
theorem rD.ZZ {α:Type} {c:α→α→Int} (h:rD c) {a b d:α} (h0:c a b=0) (h1:c d a < 0):c d b < 0:=by
 have n1:=h.neg d b
 have n2:=h.neg a b
 have n3:=h.neg d a
 by_cases e:c d b=0
 ·have:=h.cg e (d:=a)
  by_cases k:c b a < 0
  ·omega
  ·have e2:c b d=0:=by have:=h.neg b d;omega
   have:=h.cg e2 (d:=a) h1
   omega
 ·by_cases k:c d b < 0
  ·exact k
  ·have k1:c b d < 0:=by omega
   have k2:=h.tr k1 h1
   omega
theorem rD.lex {α:Type} {c1 c2:α→α→Int} (h1:rD c1) (h2:rD c2):rD (fun a b=>if c1 a b≠0 then c1 a b else c2 a b):=by
 refine ⟨fun a b=>?_,fun {a b d}=>?_,fun {a b d}=>?_⟩
 ·have n1:=h1.neg a b;have n2:=h2.neg a b
  repeat' split
  all_goals omega
 ·intro k1 k2
  by_cases e1:c1 a b=0
  ·by_cases e2:c1 b d=0
   ·have e3:c1 a d=0:=by
     have n1:=h1.neg a d
     have n2:=h1.neg b d
     have n3:=h1.neg a b
     by_cases k:c1 a d < 0
     ·have:=h1.cg (a:=b) (b:=a) (d:=d) (by omega) k;omega
     ·by_cases k':c1 d a < 0
      ·have:=h1.ZZ (a:=a) (b:=b) (d:=d) e1 k';omega
      ·omega
    rw [if_neg (by simpa using e1)] at k1
    rw [if_neg (by simpa using e2)] at k2
    rw [if_neg (by simpa using e3)]
    exact h2.tr k1 k2
   ·rw [if_pos e2] at k2
    have:=h1.cg e1 k2
    rw [if_pos (by omega)];exact this
  ·rw [if_pos e1] at k1
   by_cases e2:c1 b d=0
   ·have:=h1.ZZ e2 k1
    rw [if_pos (by omega)];exact this
   ·rw [if_pos e2] at k2
    have:=h1.tr k1 k2
    rw [if_pos (by omega)];exact this
 ·intro k1 k2
  by_cases e1:c1 a b=0
  ·rw [if_neg (by simpa using e1)] at k1
   by_cases e2:c1 b d=0
   ·have e3:c1 a d=0:=by
     have n1:=h1.neg a d
     have n2:=h1.neg b d
     have n3:=h1.neg a b
     by_cases k:c1 a d < 0
     ·have:=h1.cg (a:=b) (b:=a) (d:=d) (by omega) k;omega
     ·by_cases k':c1 d a < 0
      ·have:=h1.ZZ (a:=a) (b:=b) (d:=d) e1 k';omega
      ·omega
    rw [if_neg (by simpa using e2)] at k2
    rw [if_neg (by simpa using e3)]
    exact h2.cg k1 k2
   ·rw [if_pos e2] at k2
    have:=h1.cg e1 k2
    rw [if_pos (by omega)];exact this
  ·rw [if_pos e1] at k1;exact absurd k1 e1
theorem rD.on {α β:Type} {c:α→α→Int} (h:rD c) (f:β→α):rD (fun a b=>c (f a) (f b)):=
 ⟨fun a b=>h.neg _ _,fun h1 h2=>h.tr h1 h2,fun h1 h2=>h.cg h1 h2⟩
theorem wK:rD dD:=by
 refine ⟨fun a b=>?_,fun {a b d}=>?_,fun {a b d}=>?_⟩<;>unfold dD<;>repeat' split
 all_goals omega
theorem Ke:∀ {a b c:List UInt8},Lib.compareBytes a b < 0→Lib.compareBytes b c < 0→Lib.compareBytes a c < 0
 | [],[],c,h1,h2=>by simp [Lib.compareBytes] at h1
 | [],_ :: _,[],h1,h2=>by simp [Lib.compareBytes] at h2
 | [],_ :: _,_ :: _,h1,h2=>by simp [Lib.compareBytes]
 | _ :: _,[],c,h1,h2=>by simp [Lib.compareBytes] at h1
 | _ :: _,_ :: _,[],h1,h2=>by simp [Lib.compareBytes] at h2
 | a :: la,b :: lb,c :: lc,h1,h2=>by
   simp only [Lib.compareBytes] at h1 h2 ⊢
   rcases zZ a b with h | h | h
   ·rcases zZ b c with k | k | k
    ·rw [if_pos (UInt8.lt_trans h k)];omega
    ·subst k;rw [if_pos h];omega
    ·rw [if_neg (uQ k),if_pos k] at h2;omega
   ·subst h
    rcases zZ a c with k | k | k
    ·rw [if_pos k];omega
    ·subst k
     rw [if_neg (by simp),if_neg (by simp)] at h1 h2 ⊢
     exact Ke h1 h2
    ·rw [if_neg (uQ k),if_pos k] at h2;omega
   ·rw [if_neg (uQ h),if_pos h] at h1;omega
theorem Aa:rD Lib.compareBytes:=⟨ze,Ke,fun h1 h2=>by rw [sK h1];exact h2⟩
theorem xn {a b:Int} (h:dD a b=0):a=b:=by
 unfold dD at h
 repeat' split at h
 all_goals omega
theorem rD.ord {α:Type} {c:α→α→Int} (h:rD c) (xs:List α):DF c xs:=by
 refine ⟨fun x _ k=>?_,fun x _ y _ z _ h1 h2=>h.tr h1 h2,fun x _ y _ z _ h1 h2 h3=>?_⟩
 ·have:=h.zero x;omega
 ·have n1:=h.neg x y
  have n2:=h.neg y z
  by_cases h4:c x y=0
  ·have h5:c y x=0:=by omega
   exact h2 (h.cg h5 h3)
  ·have:c y x < 0:=by omega
   exact h2 (h.tr this h3)
def np {α:Type} (xs:List α) (i:Int):Option α:=if i≤0 then none else idx xs (i - 1)
def tM {α:Type} (st:Option α→α→Int):Option α→List α→Int
 | _,[]=>0
 | p,s :: r=>if st p s=0 then tM st (some s) r else st p s
theorem Ep {α:Type} (st:Option α→α→Int) (xs:List α) (f:Int→Option (Int⊕Int)) (hf:∀ {i:Int} {s:α},0≤i→i < xs.length→idx xs i=some s→f i=some (if st (np xs i) s=0 then .inl (i+1) else .inr (st (np xs i) s)))
 (he:f xs.length=some (.inr 0)):∀ (n:Nat) (i:Int),0≤i→i+n=xs.length→iter f i=some (tM st (np xs i) (xs.drop i.toNat))
 | 0,i,h0,hn=>by
   obtain rfl:i=xs.length:=by omega
   rw [iter_eq,he,bk (by omega)];rfl
 | n+1,i,h0,hn=>by
   obtain ⟨s,hs,_,hd⟩:=fe xs h0 (by omega)
   rw [iter_eq,hf h0 (by omega) hs,hd]
   simp only [ac,tM]
   split
   ·have hp:np xs (i+1)=some s:=by unfold np;rw [if_neg (by omega),show i+1 - 1=i by omega,hs]
    have:=Ep st xs f hf he n (i+1) (by omega) (by omega)
    rw [bh,this,hp]
   ·rfl
theorem Hj {α:Type} (st:Option α→α→Int) (xs:List α) (f:Int→Option (Int⊕Int)) (hf:∀ {i:Int} {s:α},0≤i→i < xs.length→idx xs i=some s→f i=some (if st (np xs i) s=0 then .inl (i+1) else .inr (st (np xs i) s)))
 (he:f xs.length=some (.inr 0)):iter f 0=some (tM st none xs):=by
 rw [Ep st xs f hf he xs.length 0 (by omega) (by omega)];rfl
theorem Ab {α:Type} {n:Nat} {m:Option (List α)} {Z:List α} (h:m=some Z) (hl:Z.length=n):ph n (fun r:List α=>r.length) m=some Z:=by
 rw [h];unfold ph
 simp only [ac]
 rw [if_pos hl]
end Go.Beacon
set_option linter.unusedSectionVars false
namespace Go.Beacon
open Go Go.Eng
class Ac (K:Type) [vM K]:Prop where
 Lq:∀ a:K,vM.lt a a=false
 tr:∀ {a b c:K},vM.lt a b=true→vM.lt b c=true→vM.lt a c=true
 UY:∀ a b:K,vM.lt a b=true∨a=b∨vM.lt b a=true
instance:Ac Int where
 Lq a:=by show decide (a < a)=false;simp
 tr {a b c} h1 h2:=by
  have h1:decide (a < b)=true:=h1
  have h2:decide (b < c)=true:=h2
  show decide (a < c)=true
  simp only [decide_eq_true_eq] at *;omega
 UY a b:=by
  show decide (a < b)=true∨a=b∨decide (b < a)=true
  simp only [decide_eq_true_eq];omega
instance:Ac Bool where
 Lq a:=by cases a<;>rfl
 tr {a b c} h1 h2:=by revert h1 h2;cases a<;>cases b<;>cases c<;>decide
 UY a b:=by cases a<;>cases b<;>decide
instance:Ac (List UInt8) where
 Lq a:=by
  show Op.bytesLess a a=false
  rw [tc,uP];rfl
 tr {a b c} h1 h2:=by
  have h1:Op.bytesLess a b=true:=h1
  have h2:Op.bytesLess b c=true:=h2
  show Op.bytesLess a c=true
  rw [tc,decide_eq_true_eq] at *
  exact Aa.tr h1 h2
 UY a b:=by
  show Op.bytesLess a b=true∨a=b∨Op.bytesLess b a=true
  rw [tc,tc,decide_eq_true_eq,decide_eq_true_eq]
  rcases Int.lt_trichotomy (Lib.compareBytes a b) 0 with h | h | h
  ·exact .inl h
  ·exact .inr (.inl (sK h))
  ·exact .inr (.inr (by have:=Aa.neg a b;omega))
section
variable {K V:Type} [DecidableEq K]
theorem wL (k:K):bj ([]:List (K×V)) k=none:=rfl
theorem gL (e:K×V) (m:List (K×V)) (k:K):bj (e :: m) k=if e.1=k then some e.2 else bj m k:=rfl
theorem Ad (m:List (K×V)) (k k':K):bj (rQ m k) k'=if k=k' then none else bj m k':=by
 induction m with
 | nil=>simp [rQ,bj]
 | cons e r ih=>
   unfold rQ at ih ⊢
   rw [List.filter_cons]
   by_cases h:e.1=k
   ·rw [if_neg (by simp [h]),ih,gL]
    by_cases h2:k=k'
    ·rw [if_pos h2,if_pos h2]
    ·rw [if_neg h2,if_neg h2,if_neg (by rw [h];exact h2)]
   ·rw [if_pos (by simp [h]),gL,ih,gL]
    by_cases h2:k=k'
    ·rw [if_pos h2,if_pos h2,if_neg (by rw [← h2];exact h)]
    ·rw [if_neg h2,if_neg h2]
variable [vM K]
theorem Er (k:K) (v:V) (k':K):∀ (m:List (K×V)),bj m k=none→bj (yS k v m) k'=if k=k' then some v else bj m k'
 | [],_=>by simp [yS,bj]
 | e :: r,h=>by
   rw [gL] at h
   have h1:e.1≠k:=fun he=>by rw [if_pos he] at h;cases h
   rw [if_neg h1] at h
   unfold yS
   split
   ·rw [gL,Er k v k' r h,gL]
    by_cases h2:k=k'
    ·rw [if_pos h2,if_pos h2,if_neg (by rw [← h2];exact h1)]
    ·rw [if_neg h2,if_neg h2]
   ·rw [gL]
theorem gM (m:List (K×V)) (k:K) (v:V) (k':K):bj (dX m k v) k'=if k=k' then some v else bj m k':=by
 unfold dX
 rw [Er k v k' _ (by rw [Ad,if_pos rfl]),Ad]
 by_cases h:k=k'
 ·rw [if_pos h,if_pos h]
 ·rw [if_neg h,if_neg h,if_neg h]
def SM (m:List (K×V)):Prop:=m.Pairwise (fun a b=>vM.lt a.1 b.1=true)
theorem SM.nil:SM ([]:List (K×V)):=List.Pairwise.nil
theorem SM.del {m:List (K×V)} (h:SM m) (k:K):SM (rQ m k):=List.Pairwise.filter _ h
variable [Ac K]
theorem SM.ne {m:List (K×V)} (h:SM m):m.Pairwise (fun a b=>a.1≠b.1):=
 List.Pairwise.imp (fun {a b} h e=>by rw [e,Ac.Lq] at h;cases h) h
theorem SM.nodup {m:List (K×V)} (h:SM m):(m.map Prod.fst).Nodup:=by
 unfold List.Nodup
 rw [bz]
 exact SM.ne h
theorem Kf (k:K) (v:V):∀ {m:List (K×V)},SM m→bj m k=none→SM (yS k v m)
 | [],_,_=>by unfold yS SM;simp
 | e :: r,h,hn=>by
   have h':=ad.1 h
   rw [gL] at hn
   have h1:e.1≠k:=fun he=>by rw [if_pos he] at hn;cases hn
   rw [if_neg h1] at hn
   unfold yS
   split
   ·rename_i ew
    refine ad.2 ⟨fun z hz=>?_,Kf k v h'.2 hn⟩
    rcases al.1 ((qn k v r).mem_iff.1 hz) with rfl | hz
    ·exact ew
    ·exact h'.1 z hz
   ·rename_i ew
    have hke:vM.lt k e.1=true:=by
     rcases Ac.UY k e.1 with h | h | h
     ·exact h
     ·exact absurd h.symm h1
     ·exact absurd h ew
    refine ad.2 ⟨fun z hz=>?_,h⟩
    rcases al.1 hz with rfl | hz
    ·exact hke
    ·exact Ac.tr hke (h'.1 z hz)
theorem SM.set {m:List (K×V)} (h:SM m) (k:K) (v:V):SM (dX m k v):=
 Kf k v (h.del k) (by rw [Ad,if_pos rfl])
theorem SM.BL {m:List (K×V)} (h:SM m) {k:K} {v:V}:bj m k=some v↔(k,v)∈m:=
 ⟨Cf,rl h.nodup⟩
theorem SM.none_lt {e:K×V} {m:List (K×V)} (h:SM (e :: m)) {k:K} (hk:vM.lt k e.1=true):bj (e :: m) k=none:=by
 rw [nE]
 intro z hz he
 have h':=ad.1 h
 have hkz:vM.lt k z.1=true:=by
  rcases al.1 hz with rfl | hz
  ·exact hk
  ·exact Ac.tr hk (h'.1 z hz)
 rw [he,Ac.Lq] at hkz;cases hkz
theorem BM:∀ {m m':List (K×V)},SM m→SM m'→(∀ k,bj m k=bj m' k)→m=m'
 | [],[],_,_,_=>rfl
 | [],y :: B,_,_,h=>by have:=h y.1;rw [wL,gL,if_pos rfl] at this;cases this
 | x :: A,[],_,_,h=>by have:=h x.1;rw [wL,gL,if_pos rfl] at this;cases this
 | x :: A,y :: B,h1,h2,h=>by
   have Gb:=ad.1 h1
   have Mm:=ad.1 h2
   have Ip:x.1=y.1:=by
    rcases Ac.UY x.1 y.1 with c | c | c
    ·have e:=h x.1
     rw [gL,if_pos rfl,h2.none_lt c] at e;cases e
    ·exact c
    ·have e:=h y.1
     rw [gL y,if_pos rfl,h1.none_lt c] at e;cases e
   have e:=h x.1
   rw [gL,if_pos rfl,gL,if_pos Ip.symm] at e
   have hx:x=y:=Prod.ext Ip (Option.some.inj e)
   subst hx
   rw [BM Gb.2 Mm.2 (fun k=>?_)]
   have:=h k
   rw [gL,gL] at this
   by_cases hk:x.1=k
   ·subst hk
    have a1:bj A x.1=none:=nE.2 fun z hz he=>by have:=Gb.1 z hz;rw [he,Ac.Lq] at this;cases this
    have a2:bj B x.1=none:=nE.2 fun z hz he=>by have:=Mm.1 z hz;rw [he,Ac.Lq] at this;cases this
    rw [a1,a2]
   ·rw [if_neg hk,if_neg hk] at this;exact this
theorem CN (k:K) (v:V) (m:List (K×V)):(yS k v m).length=m.length+1:=by
 have:=(qn k v m).length_eq;simpa using this
theorem Fu {m:List (K×V)} (h:SM m) {k:K} {v:V} (hk:bj m k=some v):(rQ m k).length+1=m.length:=by
 have hp:(dX m k v).Perm m:=by
  have:dX m k v=m:=BM (h.set k v) h (fun k'=>by
   rw [gM];split
   ·rename_i e;subst e;exact hk.symm
   ·rfl)
  rw [this]
 have:=hp.length_eq
 unfold dX at this;rw [CN] at this;exact this
theorem vi {m:List (K×V)} {k:K} {v:V} (hk:bj m k=none):(dX m k v).length=m.length+1:=by
 unfold dX;rw [CN,zR hk]
theorem Fv {m:List (K×V)} (h:SM m) {k:K} {v u:V} (hk:bj m k=some u):(dX m k v).length=m.length:=by
 unfold dX;rw [CN];exact Fu h hk
end
section
variable {E S A:Type}
theorem Es (b:E→S→Option (S⊕A)) (f:S→Option A) (es:List E) (r:A) (Inv:List E→S→Prop)
 (hs:∀ done e rest s,(done++e :: rest).Perm es→Inv done s→(∃ s',b e s=some (.inl s')∧Inv (done++[e]) s')∨b e s=some (.inr r))
 (hf:∀ p s,p.Perm es→Inv p s→f s=some r):∀ (rest done:List E) (s:S),(done++rest).Perm es→Inv done s→GP b f rest s=some r
 | [],done,s,hp,hi=>hf done s (by simpa using hp) hi
 | e :: rest,done,s,hp,hi=>by
   show (b e s).bind (after (GP b f rest))=some r
   rcases hs done e rest s hp hi with ⟨s',h1,h2⟩ | h1
   ·rw [h1]
    simp only [ac,bh]
    exact Es b f es r Inv hs hf rest (done++[e]) s' (by simpa using hp) h2
   ·rw [h1];rfl
theorem Ls (b:E→S→Option (S⊕A)) (f:S→Option A) (es:List E) (s0:S) (r:A) (Inv:List E→S→Prop) (h0:Inv [] s0)
 (hs:∀ done e rest s,(done++e :: rest).Perm es→Inv done s→(∃ s',b e s=some (.inl s')∧Inv (done++[e]) s')∨b e s=some (.inr r))
 (hf:∀ p s,p.Perm es→Inv p s→f s=some r):JU es (fun p=>GP b f p s0)=some r:=
 M6 fun p hp=>Es b f es r Inv hs hf p [] s0 (by simpa using hp) h0
end
end Go.Beacon
