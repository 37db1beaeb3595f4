/- Plain facts on what the functions compute. No program in sight. -/
import Derived.Test.YtnchkajkgjkpmaaGreatDoorCore
set_option linter.unusedVariables false
namespace Go.Beacon
open Go Go.Eng
theorem bb {x:Int} (h1:-9223372036854775808≤x) (h2:x≤9223372036854775807):cd x=x:=Hq ⟨h1,h2⟩
theorem U6 {a b:Int} (h:0 < b) (h0:0≤a):rem a b=some (a % b):=by
 unfold rem
 rw [if_neg (by omega),Int.tmod_eq_emod_of_nonneg h0]
theorem XK {a b:Int} (h:b≠0):rem a b=some (a.tmod b):=by unfold rem;rw [if_neg h]
theorem XL {a b:Int} (h:b≠0):quo a b=some (cd (a.tdiv b)):=by unfold quo;rw [if_neg h]
theorem iq {α:Type} (xs:List α) {i:Int} (h0:0≤i) (h1:i < xs.length):∃ x,idx xs i=some x∧x∈xs∧xs.drop i.toNat=x :: xs.drop (i+1).toNat:=by
 have h:i.toNat < xs.length:=by omega
 refine ⟨xs[i.toNat],by unfold idx;rw [if_pos h0];simp [h],List.getElem_mem h,?_⟩
 rw [show (i+1).toNat=i.toNat+1 by omega]
 exact List.drop_eq_getElem_cons h
theorem gw {α:Type} {xs:List α} {i:Int} {x:α} (h:idx xs i=some x):x∈xs:=List.mem_of_getElem? (oK h).2.2
theorem mD {α:Type} {xs ys:List α} (h:xs.length+ys.length≤1000000000):app xs ys=some (xs++ys):=by unfold app;rw [if_pos h]
theorem wX {α:Type} {xs:List α} {l h:Int} (h0:0≤l) (h1:l≤h) (h2:h≤xs.length):BN xs l h=some ((xs.drop l.toNat).take (h.toNat - l.toNat)):=by
 unfold BN;rw [if_pos ⟨h0,h1,h2⟩]
def F8 {α σ A:Type} (step:σ→α→Int→Option (σ⊕A)) (fin:σ→Int→Option A):List α→σ→Int→Option A
 | [],s,i=>fin s i
 | x :: r,s,i=>match step s x i with
   | none=>none
   | some (.inl s')=>F8 step fin r s' (i+1)
   | some (.inr a)=>some a
theorem F9 {α σ A X:Type} (xs:List α) (mk:σ→Int→X) (f:X→Option (X⊕A)) (step:σ→α→Int→Option (σ⊕A)) (fin:σ→Int→Option A)
 (h1:∀ s (i:Int) x,0≤i→i < xs.length→idx xs i=some x→f (mk s i)=(step s x i).map (Sum.map (fun s'=>mk s' (i+1)) id))
 (h2:∀ s,f (mk s xs.length)=(fin s xs.length).map .inr):∀ (n:Nat) (s:σ) (i:Int),0≤i→i+n=xs.length→iter f (mk s i)=F8 step fin (xs.drop i.toNat) s i
 | 0,s,i,h0,hn=>by
   have hi:i=xs.length:=by omega
   subst hi
   rw [iter_eq,h2,cy]
   simp [F8]
 | n+1,s,i,h0,hn=>by
   obtain ⟨x,hx,_,hd⟩:=iq xs h0 (by omega)
   rw [iter_eq,h1 s i x h0 (by omega) hx,hd]
   simp only [F8]
   cases Kb:step s x i with
   | none=>rfl
   | some u=>
     cases u with
     | inl s'=>exact F9 xs mk f step fin h1 h2 n s' (i+1) (by omega) (by omega)
     | inr a=>rfl
theorem Lj {α σ A X:Type} (xs:List α) (mk:σ→Int→X) (f:X→Option (X⊕A)) (step:σ→α→Int→Option (σ⊕A)) (fin:σ→Int→Option A)
 (h1:∀ s (i:Int) x,0≤i→i < xs.length→idx xs i=some x→f (mk s i)=(step s x i).map (Sum.map (fun s'=>mk s' (i+1)) id))
 (h2:∀ s,f (mk s xs.length)=(fin s xs.length).map .inr) (s:σ):iter f (mk s 0)=F8 step fin xs s 0:=
 F9 xs mk f step fin h1 h2 xs.length s 0 (by omega) (by omega)
def nI {α A:Type} (g:α→Option A) (e:A):List α→A
 | []=>e
 | x :: r=>match g x with
   | some a=>a
   | none=>nI g e r
theorem jj {α A:Type} (xs:List α) (f:Int→Option (Int⊕A)) (g:α→Option A) (e:A) (hlen:(xs.length:Int)≤4611686018427387904)
 (h1:∀ (i:Int) x,0≤i→i < xs.length→idx xs i=some x→f i=match g x with | some a=>some (.inr a) | none=>some (.inl (i+1)))
 (h2:f xs.length=some (.inr e)):iter f 0=some (nI g e xs):=by
 have h:=Lj xs (fun (_:Unit) i=>i) f (fun _ x _=>match g x with | some a=>some (.inr a) | none=>some (.inl ())) (fun _ _=>some e)
  (fun s i x h0 h3 h4=>by rw [h1 i x h0 h3 h4];cases g x<;>rfl) (fun s=>by rw [h2];rfl) ()
 rw [h]
 clear h h1 h2 hlen
 suffices ∀ (xs:List α) (i:Int),F8 (fun (_:Unit) x _=>match g x with | some a=>some (.inr a) | none=>some (.inl ())) (fun _ _=>some e) xs () i=some (nI g e xs) from this xs 0
 intro xs
 induction xs with
 | nil=>intro i;rfl
 | cons x r ih=>
   intro i
   simp only [F8,nI]
   cases g x with
   | none=>exact ih (i+1)
   | some a=>rfl
theorem Ga {α:Type} (p:α→Bool):∀ (xs:List α),nI (fun x=>if p x=true then none else some false) true xs=xs.all p
 | []=>rfl
 | x :: r=>by
   simp only [nI,List.all_cons]
   cases hp:p x<;>simp [Ga p r]
end Go.Beacon
set_option linter.unusedSimpArgs false
namespace Go.Beacon
open Go Go.Eng
def zS {α:Type} [DecidableEq α] (xs ys:List α) (i:Int):Option (Int⊕Bool):=
 if i < (xs.length:Int) then
  (idx xs i).bind fun v3=>
  (idx ys i).bind fun v4=>
  if v3≠v4 then
   Option.map .inr (some false)
  else
   some (.inl (cd (i+(1:Int))))
 else
  Option.map .inr (some true)
noncomputable def Sg {α:Type} [DecidableEq α] (xs ys:List α):Option Bool:=
 if (xs.length:Int)≠(ys.length:Int) then
  some false
 else
  iter (fun x:Int=>zS xs ys x) 0
theorem DJ {α:Type} [DecidableEq α] (xs ys:List α) (hl:xs.length=ys.length) (hb:(xs.length:Int)≤4611686018427387904):∀ (n:Nat) (i:Int),0≤i→i+n=xs.length→
 iter (fun x:Int=>zS xs ys x) i=some (decide (xs.drop i.toNat=ys.drop i.toNat))
 | 0,i,h0,hn=>by
   rw [iter_eq,zS,if_neg (by omega),List.drop_of_length_le (by omega),List.drop_of_length_le (by omega)];simp
 | n+1,i,h0,hn=>by
   obtain ⟨x,hx,_,hd⟩:=iq xs h0 (by omega)
   obtain ⟨y,hy,_,DC⟩:=iq ys h0 (by omega)
   rw [iter_eq,zS,if_pos (by omega),hx,hy,hd,DC]
   simp only [Option.bind_some]
   by_cases Md:x=y
   ·subst Md
    rw [if_neg (by simp)]
    simp only [Option.bind_some,du]
    rw [bb (by omega) (by omega)]
    have:=DJ xs ys hl hb n (i+1) (by omega) (by omega)
    rw [this];simp
   ·rw [if_pos Md];simp [Md]
theorem PA {α:Type} [DecidableEq α] (xs ys:List α) (hb:(xs.length:Int)≤4611686018427387904):Sg xs ys=some (decide (xs=ys)):=by
 unfold Sg
 by_cases h:xs.length=ys.length
 ·rw [if_neg (by omega),DJ xs ys h hb xs.length 0 (by omega) (by omega)];simp
 ·rw [if_pos (by omega),decide_eq_false (fun e=>h (by rw [e]))]
def tZ {α:Type} (xs:List α) (f:α→Option Bool) (i:Int):Option (Int⊕Int):=
 if i < (xs.length:Int) then
  (idx xs i).bind fun v3=>
  (f v3).bind fun v4=>
  if v4=true then
   Option.map .inr (some i)
  else
   some (.inl (cd (i+(1:Int))))
 else
  Option.map .inr (some (-1:Int))
noncomputable def Bl {α:Type} (xs:List α) (f:α→Option Bool):Option Int:=iter (fun x:Int=>tZ xs f x) 0
noncomputable def AO {α:Type} (xs:List α) (f:α→Option Bool):Option Bool:=(Bl xs f).bind fun v1=>some (decide ((0:Int)≤v1))
def pe {α:Type} (p:α→Bool):List α→Int→Int
 | [],_=>-1
 | x :: r,i=>if p x=true then i else pe p r (i+1)
theorem zT {α:Type} (p:α→Bool):∀ (xs:List α) (i:Int),0≤i→(0≤pe p xs i↔xs.any p=true)
 | [],i,h=>by simp [pe]
 | x :: r,i,h=>by
   have:=zT p r (i+1) (by omega)
   simp only [pe,List.any_cons,Bool.or_eq_true]
   split
   ·rename_i hp;simp [hp,h]
   ·rename_i hp
    have fj:p x=false:=by simpa using hp
    simp only [fj,Bool.false_eq_true,false_or];exact this
theorem yB {α:Type} (xs:List α) (f:α→Option Bool) (p:α→Bool) (hf:∀ x∈xs,f x=some (p x)) (hb:(xs.length:Int)≤4611686018427387904):∀ (n:Nat) (i:Int),0≤i→i+n=xs.length→
 iter (fun x:Int=>tZ xs f x) i=some (pe p (xs.drop i.toNat) i)
 | 0,i,h0,hn=>by
   rw [iter_eq,tZ,if_neg (by omega),List.drop_of_length_le (by omega)];rfl
 | n+1,i,h0,hn=>by
   obtain ⟨x,hx,hm,hd⟩:=iq xs h0 (by omega)
   rw [iter_eq,tZ,if_pos (by omega),hx,hd]
   simp only [Option.bind_some,hf x hm,pe]
   split
   ·rfl
   ·simp only [Option.bind_some,du]
    rw [bb (by omega) (by omega)]
    exact yB xs f p hf hb n (i+1) (by omega) (by omega)
theorem wY {α:Type} (xs:List α) (f:α→Option Bool) (p:α→Bool) (hf:∀ x∈xs,f x=some (p x)) (hb:(xs.length:Int)≤4611686018427387904):Bl xs f=some (pe p xs 0):=by
 unfold Bl
 rw [yB xs f p hf hb xs.length 0 (by omega) (by omega)];simp
theorem dW {α:Type} (xs:List α) (f:α→Option Bool) (p:α→Bool) (hf:∀ x∈xs,f x=some (p x)) (hb:(xs.length:Int)≤4611686018427387904):AO xs f=some (xs.any p):=by
 unfold AO
 rw [wY xs f p hf hb]
 simp only [Option.bind_some,Option.some.injEq]
 rw [Bool.eq_iff_iff,decide_eq_true_eq]
 exact zT p xs 0 (by omega)
def Jm (xs:List Int) (i:Int):Option (Int⊕Int):=
 if i < (xs.length:Int) then
  (idx xs i).bind fun v3=>
  if v3≠(0:Int) then
   Option.map .inr (some v3)
  else
   some (.inl (cd (i+(1:Int))))
 else
  Option.map .inr (some (0:Int))
noncomputable def gOr (xs:List Int):Option Int:=iter (fun x:Int=>Jm xs x) 0
def tw:List Int→Int
 | []=>0
 | x :: r=>if x≠0 then x else tw r
theorem zp (xs:List Int) (hb:(xs.length:Int)≤4611686018427387904):gOr xs=some (tw xs):=by
 unfold gOr
 rw [jj xs (fun x:Int=>Jm xs x) (fun x=>if x≠0 then some x else none) 0 hb]
 ·congr 1
  clear hb
  induction xs with
  | nil=>rfl
  | cons x r ih=>
    simp only [nI,tw]
    by_cases h:x=0
    ·subst h;simpa using ih
    ·simp [h]
 ·intro i x h0 h1 hx
  unfold Jm
  rw [if_pos h1,hx]
  simp only [Option.bind_some]
  by_cases h:x=0
  ·rw [bb (by omega) (by omega)];simp [h]
  ·simp [h]
 ·unfold Jm;rw [if_neg (by omega)];rfl
def Bm (a b:Int):Int:=if a < b then -1 else if b < a then 1 else 0
theorem mE:∀ l:List UInt8,Lib.compareBytes l l=0
 | []=>rfl
 | a :: l=>by simp only [Lib.compareBytes];rw [if_neg (by simp),if_neg (by simp)];exact mE l
theorem Jn (a:UInt8):¬ a < a:=by simp
theorem Dg (a b:UInt8):a < b∨a=b∨b < a:=by
 rcases Nat.lt_trichotomy a.toNat b.toNat with h | h | h
 ·exact .inl h
 ·exact .inr (.inl (UInt8.toNat_inj.1 h))
 ·exact .inr (.inr h)
theorem xB {a b:UInt8} (h:a < b):¬ b < a:=by
 rw [UInt8.lt_iff_toNat_lt] at *;omega
theorem lC:∀ a b:List UInt8,Lib.compareBytes a b=- Lib.compareBytes b a
 | [],[]=>rfl
 | [],_ :: _=>rfl
 | _ :: _,[]=>rfl
 | a :: la,b :: lb=>by
   simp only [Lib.compareBytes]
   rcases Dg a b with h | h | h
   ·rw [if_pos h,if_neg (xB h),if_pos h]
   ·subst h
    rw [if_neg (by simp),if_neg (by simp),if_neg (by simp),if_neg (by simp)];exact lC la lb
   ·rw [if_neg (xB h),if_pos h,if_pos h];rfl
theorem HZ:∀ a b:List UInt8,Lib.compareBytes a b=-1∨Lib.compareBytes a b=0∨Lib.compareBytes a b=1
 | [],[]=>by simp [Lib.compareBytes]
 | [],_ :: _=>by simp [Lib.compareBytes]
 | _ :: _,[]=>by simp [Lib.compareBytes]
 | a :: la,b :: lb=>by
   simp only [Lib.compareBytes]
   split
   ·simp
   ·split
    ·simp
    ·exact HZ la lb
theorem j5:∀ {a b:List UInt8},Lib.compareBytes a b=0→a=b
 | [],[],_=>rfl
 | [],_ :: _,h=>by simp [Lib.compareBytes] at h
 | _ :: _,[],h=>by simp [Lib.compareBytes] at h
 | a :: la,b :: lb,h=>by
   simp only [Lib.compareBytes] at h
   split at h
   ·simp at h
   ·split at h
    ·simp at h
    ·rename_i h1 h2
     rcases Dg a b with h3 | h3 | h3
     ·exact absurd h3 h1
     ·rw [h3,j5 h]
     ·exact absurd h3 h2
theorem vQ:∀ a b:List UInt8,Op.bytesLess a b=decide (Lib.compareBytes a b < 0)
 | [],[]=>by simp [Op.bytesLess,Lib.compareBytes]
 | [],_ :: _=>by simp [Op.bytesLess,Lib.compareBytes]
 | _ :: _,[]=>by simp [Op.bytesLess,Lib.compareBytes]
 | a :: la,b :: lb=>by
   simp only [Op.bytesLess,Lib.compareBytes]
   rcases Dg a b with h | h | h
   ·simp [h]
   ·subst h;simp [vQ la lb]
   ·have h1:=xB h
    have h2:(a==b)=false:=by
     rw [beq_eq_false_iff_ne];intro e;subst e;exact Jn _ h
    simp [h,h1,h2]
theorem U7 (a b:List UInt8):(a==b)=decide (Lib.compareBytes a b=0):=by
 rw [Bool.eq_iff_iff]
 simp only [beq_iff_eq,decide_eq_true_eq]
 exact ⟨fun h=>by rw [h];exact mE b,j5⟩
theorem xC:∀ (l:List UInt8) (c:UInt8),(Lib.indexByte l c < 0)↔c∉l
 | [],c=>by simp [Lib.indexByte]
 | b :: l,c=>by
   have ih:=xC l c
   have VS:=Lib.indexByte_ge l c
   simp only [Lib.indexByte,List.mem_cons,not_or]
   by_cases hb:b=c
   ·subst hb;simp
   ·rw [if_neg (by simpa using hb)]
    by_cases h1:Lib.indexByte l c=-1
    ·rw [h1] at ih
     simp only [h1,beq_self_eq_true,if_true]
     exact ⟨fun _=>⟨fun e=>hb e.symm,ih.1 (by omega)⟩,fun _=>by omega⟩
    ·rw [if_neg (by simpa using h1)]
     exact ⟨fun h=>by omega,fun h=>absurd (ih.2 h.2) (by omega)⟩
theorem af3 (c:UInt8):((c.toNat:Int)).toNat.toUInt8=c:=by simp
structure XM {α:Type} (cf:α→α→Int) (xs:List α):Prop where
 irr:∀ x∈xs,¬ cf x x < 0
 tr:∀ x∈xs,∀ y∈xs,∀ z∈xs,cf x y < 0→cf y z < 0→cf x z < 0
 ntr:∀ x∈xs,∀ y∈xs,∀ z∈xs,¬ cf x y < 0→¬ cf y z < 0→¬ cf x z < 0
def TB {α:Type} (cf:α→α→Int) (xs:List α):Prop:=xs.Pairwise (fun a b=>¬ cf b a < 0)
theorem XN {α:Type} {f:α→α→Option Int} {cf:α→α→Int} {x:α} {r:List α} (hf:∀ a∈x :: r,∀ b∈x :: r,f a b=some (cf a b)) (hO:XM cf (x :: r)):Sort.SWO (Go.Proofs.ltOf (Ai f x r)):=by
 have e:∀ i j,Ai f x r i j=cf (AA x r i) (AA x r j):=fun i j=>by unfold Ai;rw [hf _ (lW x r i) _ (lW x r j)];rfl
 refine ⟨fun i=>?_,fun i j k h1 h2=>?_,fun i j k h1 h2=>?_⟩
 ·unfold Go.Proofs.ltOf;rw [e];simpa using hO.irr _ (lW x r i)
 ·unfold Go.Proofs.ltOf at *;rw [e] at *
  simp only [decide_eq_true_eq] at *
  exact hO.tr _ (lW x r i) _ (lW x r j) _ (lW x r k) h1 h2
 ·unfold Go.Proofs.ltOf at *;rw [e] at *
  simp only [decide_eq_false_iff_not] at *
  exact hO.ntr _ (lW x r i) _ (lW x r j) _ (lW x r k) h1 h2
theorem PB {α:Type} (x:α) (r:List α):(List.range (r.length+1)).map (AA x r)=x :: r:=by
 apply List.ext_getElem?
 intro i
 rw [List.getElem?_map]
 by_cases hi:i < r.length+1
 ·rw [List.getElem?_range hi,Option.map_some]
  unfold AA
  rw [List.getD_eq_getElem?_getD,List.getElem?_eq_getElem (l:=x :: r) (by simpa using hi)];rfl
 ·rw [List.getElem?_eq_none (by simp;omega),List.getElem?_eq_none (by simp;omega)];rfl
theorem Lk {α:Type} (f:α→α→Option Int) (cf:α→α→Int) (xs:List α) (hl:xs.length≤100000) (hf:∀ a∈xs,∀ b∈xs,f a b=some (cf a b)) (hO:XM cf xs):∃ Z,Ku f xs=some Z∧Z.Perm xs∧TB cf Z:=by
 cases xs with
 | nil=>exact ⟨[],rfl,List.Perm.refl _,.nil⟩
 | cons x r=>
   have hS:=XN hf hO
   have hlen:r.length+1≤100000:=by simpa using hl
   rw [Fk,if_pos ⟨by omega,fun a ha b hb=>⟨_,hf a ha b hb⟩,hS⟩]
   have hps:=Sort.pdq_sorts (Go.Proofs.ltOf (Ai f x r)) hS (Array.range (r.length+1)) 0 (r.length+1) (Lib.bitLen (r.length+1)) true true (Nat.zero_le _) (by simp) (Or.inl rfl)
   generalize Sort.pdq (Go.Proofs.ltOf (Ai f x r)) (Array.range (r.length+1)) 0 (r.length+1) (Lib.bitLen (r.length+1)) true true=d at hps
   obtain ⟨⟨h1,_,h3⟩,h4⟩:=hps
   have hd:d.size=r.length+1:=by simpa using h1
   have pW:d.toList.Perm (List.range (r.length+1)):=by
    have a1:(d.extract 0 (r.length+1)).toList=d.toList:=by
     rw [Array.toList_extract]
     simp [List.extract]
     exact List.take_of_length_le (by simp [hd])
    have a2:((Array.range (r.length+1)).extract 0 (r.length+1)).toList=List.range (r.length+1):=by
     rw [Array.toList_extract]
     simp [List.extract]
    rw [a1,a2] at h3
    exact h3
   refine ⟨_,rfl,?_,?_⟩
   ·have:=pW.map (AA x r)
    rw [PB] at this
    exact this
   ·unfold TB
    rw [List.pairwise_map,List.pairwise_iff_getElem]
    intro i j hi hj E6
    have hi':i < d.size:=by simpa using hi
    have YG:j < d.size:=by simpa using hj
    have h:=h4 i j (Nat.zero_le _) E6 (by omega)
    unfold Go.Proofs.ltOf Ai at h
    rw [hf _ (lW x r _) _ (lW x r _)] at h
    simp only [Option.getD_some,decide_eq_false_iff_not] at h
    rw [getElem!_pos d i hi',getElem!_pos d j YG] at h
    simpa using h
theorem Bn {α:Type} {cf:α→α→Int}:∀ {X Y:List α},X.Perm Y→TB cf X→TB cf Y→(∀ a∈X,∀ b∈X,¬ cf a b < 0→¬ cf b a < 0→a=b)→X=Y
 | [],Y,hp,_,_,_=>by rw [List.nil_perm.1 hp]
 | x :: X,[],hp,_,_,_=>by have:=hp.length_eq;simp at this
 | x :: X,y :: Y,hp,hX,hY,ha=>by
   have Md:x=y:=by
    have hx:x∈y :: Y:=hp.mem_iff.1 (by simp)
    have hy:y∈x :: X:=hp.mem_iff.2 (by simp)
    rcases List.mem_cons.1 hx with h | h
    ·exact h
    ·rcases List.mem_cons.1 hy with h' | h'
     ·exact h'.symm
     ·exact ha x (by simp) y (by simp [h']) ((List.pairwise_cons.1 hY).1 x h) ((List.pairwise_cons.1 hX).1 y h')
   subst Md
   rw [Bn (List.Perm.cons_inv hp) (List.pairwise_cons.1 hX).2 (List.pairwise_cons.1 hY).2 (fun a h b h'=>ha a (by simp [h]) b (by simp [h']))]
def zq {α:Type} (n12:Int) (We:List α) (n17:Int):Option (((List α)×Int×Int)⊕(Int⊕(List α))):=
 some (.inl (We,n17,cd (n12+(1:Int))))
def Cs {α:Type} (Z:α) (l10:List α) (n11:Int):Option (Int⊕(List α)):=
 (BN l10 n11 (l10.length:Int)).bind fun CL=>
 (BN (Ri l10 n11 CL.length Z) (0:Int) n11).bind fun JP=>
 Option.map .inr (some JP)
def vR {α:Type} (Z:α) (iB:α→α→Option Bool) (n2:Int) (l6:List α) (l10:List α) (n11:Int) (n12:Int):Option (((List α)×Int×Int)⊕(Int⊕(List α))):=
 if n12 < (l6.length:Int) then
  (Aj l10 n2 l6.length n12).bind fun ma=>
  (Aj l10 n2 l6.length (cd (n12 - (1:Int)))).bind fun rl=>
  (iB ma rl).bind fun B3=>
  if (!B3)=true then
   (Aj l10 n2 l6.length n12).bind fun oH=>
   (idx l10 n11).bind fun ik=>
   zq n12 (l10.set n11.toNat oH) (cd (n11+(1:Int)))
  else
   zq n12 l10 n11
 else
  Option.map .inr (Cs Z l10 n11)
noncomputable def zr {α:Type} (Z:α) (iB:α→α→Option Bool) (n2:Int) (l6:List α) (l10:List α) (n11:Int) (n12:Int):Option (Int⊕(List α)):=
 iter (fun x:(List α)×Int×Int=>vR Z iB n2 l6 x.1 x.2.1 x.2.2) (l10,n11,n12)
noncomputable def Ct {α:Type} (Z:α) (aa:List α) (iB:α→α→Option Bool) (n2:Int):Option (Int⊕(List α)):=
 if n2 < (aa.length:Int) then
  (idx aa n2).bind fun v3=>
  (idx aa (cd (n2 - (1:Int)))).bind fun v4=>
  (iB v3 v4).bind fun v5=>
  if v5=true then
   (BN aa n2 (aa.length:Int)).bind fun l6=>
   zr Z iB n2 l6 aa n2 (1:Int)
  else
   some (.inl (cd (n2+(1:Int))))
 else
  Option.map .inr (some aa)
noncomputable def zt {α:Type} (Z:α) (aa:List α) (iB:α→α→Option Bool) (n2:Int):Option (List α):=
 iter (fun x:Int=>Ct Z aa iB x) n2
noncomputable def Sh {α:Type} (Z:α) (aa:List α) (iB:α→α→Option Bool):Option (List α):=
 if (aa.length:Int) < (2:Int) then
  some aa
 else
  zt Z aa iB (1:Int)
def M0 {α:Type} (e:α→α→Bool):α→List α→List α
 | _,[]=>[]
 | p,y :: r=>if e y p=true then M0 e y r else y :: M0 e y r
def dd {α:Type} (e:α→α→Bool):List α→List α
 | []=>[]
 | x :: r=>x :: M0 e x r
theorem Ll {α:Type} (e:α→α→Bool):∀ (p:α) (ys:List α) (y z:α),M0 e p (ys++[y,z])=if e z y=true then M0 e p (ys++[y]) else M0 e p (ys++[y])++[z]
 | p,[],y,z=>by
   simp only [List.nil_append,M0]
   by_cases h1:e y p=true<;>by_cases h2:e z y=true<;>simp [h1,h2]
 | p,w :: ys,y,z=>by
   simp only [List.cons_append,M0,Ll e w ys y z]
   by_cases h1:e w p=true<;>by_cases h2:e z y=true<;>simp [h1,h2]
theorem U8 {α:Type} (e:α→α→Bool) (ys:List α) (y z:α):dd e (ys++[y,z])=if e z y=true then dd e (ys++[y]) else dd e (ys++[y])++[z]:=by
 cases ys with
 | nil=>
   simp only [List.nil_append,dd,M0]
   by_cases h2:e z y=true<;>simp [h2]
 | cons w ys=>
   simp only [List.cons_append,dd,Ll e w ys y z]
   by_cases h2:e z y=true<;>simp [h2]
theorem Si {α:Type} {xs:List α} {m:Nat} (h1:1≤m) (h2:m < xs.length):xs.take (m+1)=xs.take (m - 1)++[xs[m - 1],xs[m]]∧xs.take m=xs.take (m - 1)++[xs[m - 1]]:=by
 have a:xs.take m=xs.take (m - 1)++[xs[m - 1]]:=by
  have:=List.take_append_getElem (l:=xs) (i:=m - 1) (by omega)
  rw [show m - 1+1=m by omega] at this
  exact this.symm
 refine ⟨?_,a⟩
 have:=List.take_append_getElem (l:=xs) (i:=m) h2
 rw [← this,a,List.append_assoc];rfl
theorem Oc {α:Type} (e:α→α→Bool) {xs:List α} {m:Nat} (h1:1≤m) (h2:m < xs.length):dd e (xs.take (m+1))=if e xs[m] xs[m - 1]=true then dd e (xs.take m) else dd e (xs.take m)++[xs[m]]:=by
 obtain ⟨a,b⟩:=Si h1 h2
 rw [a,b];exact U8 e _ _ _
theorem Od {α:Type} (e:α→α→Bool):∀ (p:α) (r:List α),(M0 e p r).length≤r.length
 | _,[]=>by simp [M0]
 | p,y :: r=>by
   have:=Od e y r
   simp only [M0]
   split<;>simp<;>omega
theorem XO {α:Type} (e:α→α→Bool) (xs:List α):(dd e xs).length≤xs.length:=by
 cases xs with
 | nil=>simp [dd]
 | cons x r=>have:=Od e x r;simp [dd];omega
theorem U9 {α:Type} {xs:List α} {i:Int} (h0:0≤i) (h1:i.toNat < xs.length):idx xs i=some xs[i.toNat]:=by
 unfold idx;rw [if_pos h0];simp [h1]
theorem XP {α:Type} (Z:α) (l:List α) {k:Int} (h0:0≤k) (h1:k≤l.length):Cs Z l k=some (.inr (l.take k.toNat)):=by
 unfold Cs
 rw [wX h0 h1 (by omega)]
 simp only [Option.bind_some]
 have hlen:(((l.drop k.toNat).take (((l.length:Int)).toNat - k.toNat)).length)=l.length - k.toNat:=by simp
 rw [hlen,wX (by omega) h0 (by unfold Ri;simp;omega)]
 simp only [Option.bind_some,Option.map_some,Option.some.injEq,Sum.inr.injEq]
 unfold Ri
 simp only [Int.toNat_zero,List.drop_zero,Nat.sub_zero]
 rw [List.append_assoc,List.take_append_of_le_length (by simp;omega),List.take_take]
 congr 1;omega
theorem PC {α:Type} (Z:α) (iB:α→α→Option Bool) (e:α→α→Bool) (xs:List α) (hl:(xs.length:Int)≤100000) (hf:∀ x∈xs,∀ y∈xs,iB x y=some (e x y)) (k0:Int) (h0:1≤k0) (h1:k0 < xs.length) (l6:List α) (hl6:(l6.length:Int)=xs.length - k0):∀ (n:Nat) (l:List α) (k k2:Int),1≤k2→k2+n=l6.length→l.length=xs.length→0≤k→k≤k0+k2 - 1→
 l.drop (k0+k2 - 1).toNat=xs.drop (k0+k2 - 1).toNat→l.take k.toNat=dd e (xs.take (k0+k2).toNat)→zr Z iB k0 l6 l k k2=some (.inr (dd e xs)):=by
 intro n
 induction n with
 | zero=>
   intro l k k2 g1 g2 g3 g4 g5 g6 g7
   unfold zr
   rw [iter_eq,vR,if_neg (by simp only;omega),cy,XP Z l g4 (by omega),g7,List.take_of_length_le (by omega)]
 | succ n ih=>
   intro l k k2 g1 g2 g3 g4 g5 g6 g7
   have w1:cd (k2+1)=k2+1:=by rw [bb]<;>omega
   have w2:cd (k2 - 1)=k2 - 1:=by rw [bb]<;>omega
   have w3:cd (k+1)=k+1:=by rw [bb]<;>omega
   have TC:∀ m:Nat,(k0+k2 - 1).toNat≤m→l[m]? =xs[m]?:=by
    intro m hm
    have:=congrArg (fun q:List α=>q[m - (k0+k2 - 1).toNat]?) g6
    simp only [List.getElem?_drop] at this
    rw [show (k0+k2 - 1).toNat+(m - (k0+k2 - 1).toNat)=m by omega] at this
    exact this
   have TL:(k0+k2).toNat < xs.length:=by omega
   have e1:Aj l k0 l6.length k2=some xs[(k0+k2).toNat]:=by
    unfold Aj
    rw [if_pos ⟨by omega,by omega,by omega⟩]
    unfold idx
    rw [if_pos (by omega),TC _ (by omega)];simp [TL]
   have e2:Aj l k0 l6.length (k2 - 1)=some xs[(k0+k2).toNat - 1]:=by
    unfold Aj
    rw [if_pos ⟨by omega,by omega,by omega⟩]
    unfold idx
    rw [if_pos (by omega),TC _ (by omega),show (k0+(k2 - 1)).toNat=(k0+k2).toNat - 1 by omega,List.getElem?_eq_getElem (by omega)]
   have IH:=Oc e (xs:=xs) (m:=(k0+k2).toNat) (by omega) TL
   rw [show (k0+k2).toNat+1=(k0+(k2+1)).toNat by omega] at IH
   unfold zr at ih ⊢
   rw [iter_eq,vR,if_pos (by simp only;omega)]
   simp only [w2,e1,e2,Option.bind_some,hf _ (List.getElem_mem TL) _ (List.getElem_mem (show (k0+k2).toNat - 1 < xs.length by omega))]
   unfold zq
   rw [w1]
   by_cases hc:e xs[(k0+k2).toNat] xs[(k0+k2).toNat - 1]=true
   ·rw [if_pos hc] at IH
    rw [hc,if_neg (by simp)]
    simp only [Option.bind_some,du]
    refine ih l k (k2+1) (by omega) (by omega) g3 g4 (by omega) ?_ (by rw [g7,IH])
    have:=congrArg (List.drop 1) g6
    rw [List.drop_drop,List.drop_drop,show (k0+k2 - 1).toNat+1=(k0+(k2+1) - 1).toNat by omega] at this
    exact this
   ·rw [if_neg hc] at IH
    rw [Bool.not_eq_true] at hc
    rw [hc,if_pos (by simp)]
    obtain ⟨y,hy,_,_⟩:=iq l (i:=k) g4 (by omega)
    simp only [hy,Option.bind_some,du,w3]
    refine ih (l.set k.toNat _) (k+1) (k2+1) (by omega) (by omega) (by simpa using g3) (by omega) (by omega) ?_ ?_
    ·apply List.ext_getElem?
     intro m
     rw [List.getElem?_drop,List.getElem?_drop,List.getElem?_set_ne (by omega),TC _ (by omega)]
    ·rw [IH,← g7,show (k+1).toNat=k.toNat+1 by omega]
     apply List.ext_getElem?
     intro m
     have hkl:k.toNat < l.length:=by omega
     by_cases hm:m < k.toNat
     ·rw [List.getElem?_take,if_pos (by omega),List.getElem?_set_ne (by omega),List.getElem?_append_left (by simp;omega),List.getElem?_take,if_pos hm]
     ·by_cases hm2:m=k.toNat
      ·subst hm2
       rw [List.getElem?_take,if_pos (by omega),List.getElem?_set_self hkl,List.getElem?_append_right (by simp only [List.length_take];omega)]
       simp [Nat.min_eq_left (Nat.le_of_lt hkl)]
      ·rw [List.getElem?_eq_none (by simp;omega),List.getElem?_eq_none (by simp;omega)]
theorem Sj {α:Type} (Z:α) (iB:α→α→Option Bool) (e:α→α→Bool) (xs:List α) (hl:(xs.length:Int)≤100000) (hf:∀ x∈xs,∀ y∈xs,iB x y=some (e x y)):Sh Z xs iB=some (dd e xs):=by
 unfold Sh
 by_cases h2:(xs.length:Int) < 2
 ·rw [if_pos h2]
  cases xs with
  | nil=>rfl
  | cons x r=>
    cases r with
    | nil=>rfl
    | cons y r=>simp only [List.length_cons] at h2;omega
 ·rw [if_neg h2]
  have key:∀ (n:Nat) (i:Int),1≤i→i+n=xs.length→dd e (xs.take i.toNat)=xs.take i.toNat→zt Z xs iB i=some (dd e xs):=by
   intro n
   induction n with
   | zero=>
     intro i h0 h1 hd
     unfold zt
     rw [iter_eq,Ct,if_neg (by omega),cy]
     rw [List.take_of_length_le (by omega)] at hd
     rw [hd]
   | succ n ih=>
     intro i h0 h1 hd
     have w1:cd (i+1)=i+1:=by rw [bb]<;>omega
     have w2:cd (i - 1)=i - 1:=by rw [bb]<;>omega
     have hm:i.toNat < xs.length:=by omega
     have e1:=U9 (xs:=xs) (i:=i) (by omega) hm
     have e2:idx xs (i - 1)=some xs[i.toNat - 1]:=by
      unfold idx
      rw [if_pos (by omega),show (i - 1).toNat=i.toNat - 1 by omega,List.getElem?_eq_getElem (by omega)]
     have IH:=Oc e (xs:=xs) (m:=i.toNat) (by omega) hm
     rw [show i.toNat+1=(i+1).toNat by omega] at IH
     unfold zt at ih ⊢
     rw [iter_eq,Ct,if_pos (by omega)]
     simp only [w2,e1,e2,Option.bind_some,hf _ (List.getElem_mem hm) _ (List.getElem_mem (show i.toNat - 1 < xs.length by omega))]
     by_cases hc:e xs[i.toNat] xs[i.toNat - 1]=true
     ·rw [if_pos hc] at IH
      rw [hc,if_pos rfl,wX (by omega) (by omega) (by omega)]
      simp only [Option.bind_some]
      have hlen:((((xs.drop i.toNat).take (((xs.length:Int)).toNat - i.toNat)).length:Nat):Int)=xs.length - i:=by simp;omega
      rw [PC Z iB e xs hl hf i h0 (by omega) _ hlen n xs i 1 (by omega) (by rw [hlen];omega) rfl (by omega) (by omega) rfl (by rw [IH,hd])]
      rfl
     ·rw [if_neg hc] at IH
      rw [Bool.not_eq_true] at hc
      rw [hc,if_neg (by simp),w1]
      simp only [Option.bind_some,du]
      refine ih (i+1) (by omega) (by omega) ?_
      rw [IH,hd]
      have:=List.take_append_getElem (l:=xs) (i:=i.toNat) hm
      rw [this,show i.toNat+1=(i+1).toNat by omega]
  refine key (xs.length - 1) 1 (by omega) (by omega) ?_
  cases xs with
  | nil=>simp at h2
  | cons x r=>rfl
def Jo {α:Type} [DecidableEq α] (Z:α) (n2:Int) (l5:List α) (l9:List α) (n10:Int) (n11:Int):Option (((List α)×Int×Int)⊕(Int⊕(List α))):=
 if n11 < (l5.length:Int) then
  (Aj l9 n2 l5.length n11).bind fun v12=>
  (Aj l9 n2 l5.length (cd (n11 - (1:Int)))).bind fun ma=>
  if v12≠ma then
   (Aj l9 n2 l5.length n11).bind fun pf=>
   (idx l9 n10).bind fun v17=>
   zq n11 (l9.set n10.toNat pf) (cd (n10+(1:Int)))
  else
   zq n11 l9 n10
 else
  Option.map .inr (Cs Z l9 n10)
noncomputable def Oe {α:Type} [DecidableEq α] (Z:α) (n2:Int) (l5:List α) (l9:List α) (n10:Int) (n11:Int):Option (Int⊕(List α)):=
 iter (fun x:(List α)×Int×Int=>Jo Z n2 l5 x.1 x.2.1 x.2.2) (l9,n10,n11)
noncomputable def Of {α:Type} [DecidableEq α] (Z:α) (aa:List α) (n2:Int):Option (Int⊕(List α)):=
 if n2 < (aa.length:Int) then
  (idx aa n2).bind fun v3=>
  (idx aa (cd (n2 - (1:Int)))).bind fun v4=>
  if v3=v4 then
   (BN aa n2 (aa.length:Int)).bind fun l5=>
   Oe Z n2 l5 aa n2 (1:Int)
  else
   some (.inl (cd (n2+(1:Int))))
 else
  Option.map .inr (some aa)
noncomputable def aaY {α:Type} [DecidableEq α] (Z:α) (aa:List α):Option (List α):=
 if (aa.length:Int) < (2:Int) then
  some aa
 else
  iter (fun x:Int=>Of Z aa x) (1:Int)
def Lm {α:Type} [DecidableEq α] (a b:α):Bool:=decide (a=b)
theorem M3 {α:Type} [DecidableEq α] (Z:α) (n2:Int) (l5 l9:List α) (n10 n11:Int):Jo Z n2 l5 l9 n10 n11=vR Z (fun a b=>some (Lm a b)) n2 l5 l9 n10 n11:=by
 unfold Jo vR
 congr 1
 congr 1;funext v12
 congr 1;funext ma
 simp only [Option.bind_some,Lm]
 by_cases h:v12=ma<;>simp [h]
theorem Va {α:Type} [DecidableEq α] (Z:α) (xs:List α) (hl:(xs.length:Int)≤100000):aaY Z xs=some (dd Lm xs):=by
 rw [← Sj Z (fun a b=>some (Lm a b)) Lm xs hl (fun x _ y _=>rfl)]
 unfold aaY Sh zt
 congr 2
 funext i
 unfold Of Ct Oe zr
 congr 1
 congr 1;funext v3
 congr 1;funext v4
 have:(fun x:(List α)×Int×Int=>vR Z (fun a b=>some (Lm a b)) i ((xs.drop 0)) x.1 x.2.1 x.2.2)=fun x=>vR Z (fun a b=>some (Lm a b)) i (xs.drop 0) x.1 x.2.1 x.2.2:=rfl
 simp only [Option.bind_some,M3]
 by_cases h:v3=v4
 ·simp [h,Lm]
 ·simp [h,Lm]
structure zu {α:Type} (c:α→α→Int):Prop where
 neg:∀ a b,c a b=- c b a
 tr:∀ {a b d},c a b < 0→c b d < 0→c a d < 0
 cg:∀ {a b d},c a b=0→c b d < 0→c a d < 0
theorem zu.zero {α:Type} {c:α→α→Int} (h:zu c) (a:α):c a a=0:=by have:=h.neg a a;omega
theorem zu.cg' {α:Type} {c:α→α→Int} (h:zu c) {a b d:α} (h0:c a b=0) (h1:c d a < 0):c d b < 0:=by
 have n1:=h.neg d b
 have n2:=h.neg a b
 have n3:=h.neg d a
 by_cases e:c d b=0
 ·have:=h.cg e (d:=a)
  by_cases k:c b a < 0
  ·omega
  ·have e2:c b d=0:=by have:=h.neg b d;omega
   have:=h.cg e2 (d:=a) h1
   omega
 ·by_cases k:c d b < 0
  ·exact k
  ·have k1:c b d < 0:=by omega
   have k2:=h.tr k1 h1
   omega
theorem zu.lex {α:Type} {c1 c2:α→α→Int} (h1:zu c1) (h2:zu c2):zu (fun a b=>if c1 a b≠0 then c1 a b else c2 a b):=by
 refine ⟨fun a b=>?_,fun {a b d}=>?_,fun {a b d}=>?_⟩
 ·have n1:=h1.neg a b;have n2:=h2.neg a b
  repeat' split
  all_goals omega
 ·intro k1 k2
  by_cases e1:c1 a b=0
  ·by_cases e2:c1 b d=0
   ·have e3:c1 a d=0:=by
     have n1:=h1.neg a d
     have n2:=h1.neg b d
     have n3:=h1.neg a b
     by_cases k:c1 a d < 0
     ·have:=h1.cg (a:=b) (b:=a) (d:=d) (by omega) k;omega
     ·by_cases k':c1 d a < 0
      ·have:=h1.cg' (a:=a) (b:=b) (d:=d) e1 k';omega
      ·omega
    rw [if_neg (by simpa using e1)] at k1
    rw [if_neg (by simpa using e2)] at k2
    rw [if_neg (by simpa using e3)]
    exact h2.tr k1 k2
   ·rw [if_pos e2] at k2
    have:=h1.cg e1 k2
    rw [if_pos (by omega)];exact this
  ·rw [if_pos e1] at k1
   by_cases e2:c1 b d=0
   ·have:=h1.cg' e2 k1
    rw [if_pos (by omega)];exact this
   ·rw [if_pos e2] at k2
    have:=h1.tr k1 k2
    rw [if_pos (by omega)];exact this
 ·intro k1 k2
  by_cases e1:c1 a b=0
  ·rw [if_neg (by simpa using e1)] at k1
   by_cases e2:c1 b d=0
   ·have e3:c1 a d=0:=by
     have n1:=h1.neg a d
     have n2:=h1.neg b d
     have n3:=h1.neg a b
     by_cases k:c1 a d < 0
     ·have:=h1.cg (a:=b) (b:=a) (d:=d) (by omega) k;omega
     ·by_cases k':c1 d a < 0
      ·have:=h1.cg' (a:=a) (b:=b) (d:=d) e1 k';omega
      ·omega
    rw [if_neg (by simpa using e2)] at k2
    rw [if_neg (by simpa using e3)]
    exact h2.cg k1 k2
   ·rw [if_pos e2] at k2
    have:=h1.cg e1 k2
    rw [if_pos (by omega)];exact this
  ·rw [if_pos e1] at k1;exact absurd k1 e1
theorem zu.on {α β:Type} {c:α→α→Int} (h:zu c) (f:β→α):zu (fun a b=>c (f a) (f b)):=
 ⟨fun a b=>h.neg _ _,fun h1 h2=>h.tr h1 h2,fun h1 h2=>h.cg h1 h2⟩
theorem XQ:zu Bm:=by
 refine ⟨fun a b=>?_,fun {a b d}=>?_,fun {a b d}=>?_⟩<;>unfold Bm<;>repeat' split
 all_goals omega
theorem yg:∀ {a b c:List UInt8},Lib.compareBytes a b < 0→Lib.compareBytes b c < 0→Lib.compareBytes a c < 0
 | [],[],c,h1,h2=>by simp [Lib.compareBytes] at h1
 | [],_ :: _,[],h1,h2=>by simp [Lib.compareBytes] at h2
 | [],_ :: _,_ :: _,h1,h2=>by simp [Lib.compareBytes]
 | _ :: _,[],c,h1,h2=>by simp [Lib.compareBytes] at h1
 | _ :: _,_ :: _,[],h1,h2=>by simp [Lib.compareBytes] at h2
 | a :: la,b :: lb,c :: lc,h1,h2=>by
   simp only [Lib.compareBytes] at h1 h2 ⊢
   rcases Dg a b with h | h | h
   ·rcases Dg b c with k | k | k
    ·rw [if_pos (UInt8.lt_trans h k)];omega
    ·subst k;rw [if_pos h];omega
    ·rw [if_neg (xB k),if_pos k] at h2;omega
   ·subst h
    rcases Dg a c with k | k | k
    ·rw [if_pos k];omega
    ·subst k
     rw [if_neg (by simp),if_neg (by simp)] at h1 h2 ⊢
     exact yg h1 h2
    ·rw [if_neg (xB k),if_pos k] at h2;omega
   ·rw [if_neg (xB h),if_pos h] at h1;omega
theorem Dh:zu Lib.compareBytes:=⟨lC,yg,fun h1 h2=>by rw [j5 h1];exact h2⟩
theorem zu.ord {α:Type} {c:α→α→Int} (h:zu c) (xs:List α):XM c xs:=by
 refine ⟨fun x _ k=>?_,fun x _ y _ z _ h1 h2=>h.tr h1 h2,fun x _ y _ z _ h1 h2 h3=>?_⟩
 ·have:=h.zero x;omega
 ·have n1:=h.neg x y
  have n2:=h.neg y z
  by_cases h4:c x y=0
  ·have h5:c y x=0:=by omega
   exact h2 (h.cg h5 h3)
  ·have:c y x < 0:=by omega
   exact h2 (h.tr this h3)
theorem Sk {α:Type} {n:Nat} {m:Option (List α)} {Z:List α} (h:m=some Z) (hl:Z.length=n):pX n (fun r:List α=>r.length) m=some Z:=by
 rw [h];unfold pX
 simp only [Option.bind_some]
 rw [if_pos hl]
end Go.Beacon
set_option linter.unusedSectionVars false
namespace Go.Beacon
open Go Go.Eng
class Vb (K:Type) [DD K]:Prop where
 irr:∀ a:K,DD.lt a a=false
 tr:∀ {a b c:K},DD.lt a b=true→DD.lt b c=true→DD.lt a c=true
 tri:∀ a b:K,DD.lt a b=true∨a=b∨DD.lt b a=true
instance:Vb Int where
 irr a:=by show decide (a < a)=false;simp
 tr {a b c} h1 h2:=by
  have h1:decide (a < b)=true:=h1
  have h2:decide (b < c)=true:=h2
  show decide (a < c)=true
  simp only [decide_eq_true_eq] at *;omega
 tri a b:=by
  show decide (a < b)=true∨a=b∨decide (b < a)=true
  simp only [decide_eq_true_eq];omega
instance:Vb Bool where
 irr a:=by cases a<;>rfl
 tr {a b c} h1 h2:=by revert h1 h2;cases a<;>cases b<;>cases c<;>decide
 tri a b:=by cases a<;>cases b<;>decide
instance:Vb (List UInt8) where
 irr a:=by
  show Op.bytesLess a a=false
  rw [vQ,mE];rfl
 tr {a b c} h1 h2:=by
  have h1:Op.bytesLess a b=true:=h1
  have h2:Op.bytesLess b c=true:=h2
  show Op.bytesLess a c=true
  rw [vQ,decide_eq_true_eq] at *
  exact Dh.tr h1 h2
 tri a b:=by
  show Op.bytesLess a b=true∨a=b∨Op.bytesLess b a=true
  rw [vQ,vQ,decide_eq_true_eq,decide_eq_true_eq]
  rcases Int.lt_trichotomy (Lib.compareBytes a b) 0 with h | h | h
  ·exact .inl h
  ·exact .inr (.inl (j5 h))
  ·exact .inr (.inr (by have:=Dh.neg a b;omega))
section
variable {K V:Type} [DecidableEq K]
theorem Gb (k:K):cX ([]:List (K×V)) k=none:=rfl
theorem tx (e:K×V) (m:List (K×V)) (k:K):cX (e :: m) k=if e.1=k then some e.2 else cX m k:=rfl
theorem H3 (m:List (K×V)) (k k':K):cX (ui m k) k'=if k=k' then none else cX m k':=by
 induction m with
 | nil=>simp [ui,cX]
 | cons e r ih=>
   unfold ui at ih ⊢
   rw [List.filter_cons]
   by_cases h:e.1=k
   ·rw [if_neg (by simp [h]),ih,tx]
    by_cases h2:k=k'
    ·rw [if_pos h2,if_pos h2]
    ·rw [if_neg h2,if_neg h2,if_neg (by rw [h];exact h2)]
   ·rw [if_pos (by simp [h]),tx,ih,tx]
    by_cases h2:k=k'
    ·rw [if_pos h2,if_pos h2,if_neg (by rw [← h2];exact h)]
    ·rw [if_neg h2,if_neg h2]
variable [DD K]
theorem H4 (k:K) (v:V) (k':K):∀ (m:List (K×V)),cX m k=none→cX (BU k v m) k'=if k=k' then some v else cX m k'
 | [],_=>by simp [BU,cX]
 | e :: r,h=>by
   rw [tx] at h
   have h1:e.1≠k:=fun he=>by rw [if_pos he] at h;cases h
   rw [if_neg h1] at h
   unfold BU
   split
   ·rw [tx,H4 k v k' r h,tx]
    by_cases h2:k=k'
    ·rw [if_pos h2,if_pos h2,if_neg (by rw [← h2];exact h1)]
    ·rw [if_neg h2,if_neg h2]
   ·rw [tx]
theorem vj (m:List (K×V)) (k:K) (v:V) (k':K):cX (jl m k v) k'=if k=k' then some v else cX m k':=by
 unfold jl
 rw [H4 k v k' _ (by rw [H3,if_pos rfl]),H3]
 by_cases h:k=k'
 ·rw [if_pos h,if_pos h]
 ·rw [if_neg h,if_neg h,if_neg h]
variable [Vb K]
theorem Sl (k:K) (v:V) (m:List (K×V)):(BU k v m).length=m.length+1:=by
 have:=(xh k v m).length_eq;simpa using this
theorem Jp {m:List (K×V)} {k:K} {v:V} (hk:cX m k=none):(jl m k v).length=m.length+1:=by
 unfold jl;rw [Sl,CU hk]
end
section
variable {E S A:Type}
end
section
variable {α:Type} (id:α→ai)
end
end Go.Beacon
