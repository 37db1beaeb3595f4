/- Plain facts on what the functions compute. No program in sight. -/
import Derived.Test.YthfphcbipahkmaaGreatDoorCore
open Array renaming range→bz,toList_extract→b9
open Bool renaming false_eq_true→bo,eq_iff_iff→b4,not_eq_true→ci,not_true→cy
open Go renaming Proofs.ltOf→al
open List renaming pairwise_cons→ad,mem_cons→ag,getElem_mem→ap,getElem?_eq_none→aw,getElem?_drop→aK,getElem?_take→a6,getElem?_set_ne→a7,ext_getElem?→a8,drop_of_length_le→be,take_of_length_le→bi,take_append_getElem→bk,drop_drop→bm,cons_append→bp,length_cons→bs,nil_append→bt,Perm.refl→bv,range→bw,getElem?_eq_getElem→bx,eq_nil_of_length_eq_zero→b5,perm_middle→b6,append_nil→b7,extract→cb,pairwise_map→cc,append_assoc→ce,getElem?_append_left→cl,getElem?_set_self→cm,getElem?_append_right→cn,length_take→cp,filter_eq_self→cz
open Nat renaming min_eq_left→cs,le_of_lt→cv
open Option renaming bind_some→ac,map→af,some.injEq→bY,map_some→b8
set_option linter.unusedVariables false
namespace Go.Beacon
open Go Go.Eng
theorem bl {x:Int} (h1:-9223372036854775808≤x) (h2:x≤9223372036854775807):bB x=x:=wN ⟨h1,h2⟩
theorem TC {a b:Int} (h:0 < b) (h0:0≤a):rem a b=some (a % b):=by
 unfold rem
 rw [if_neg (by omega),Int.tmod_eq_emod_of_nonneg h0]
theorem Wj {a b:Int} (h:b≠0):rem a b=some (a.tmod b):=by unfold rem;rw [if_neg h]
theorem Wk {a b:Int} (h:b≠0):quo a b=some (bB (a.tdiv b)):=by unfold quo;rw [if_neg h]
theorem ff {α:Type} (xs:List α) {i:Int} (h0:0≤i) (h1:i < xs.length):∃ x,idx xs i=some x∧x∈xs∧xs.drop i.toNat=x :: xs.drop (i+1).toNat:=by
 have h:i.toNat < xs.length:=by omega
 refine ⟨xs[i.toNat],by unfold idx;rw [if_pos h0];simp [h],ap h,?_⟩
 rw [show (i+1).toNat=i.toNat+1 by omega]
 exact List.drop_eq_getElem_cons h
theorem uR {α:Type} {xs:List α} {i:Int} {x:α} (h:idx xs i=some x):x∈xs:=List.mem_of_getElem? (jC h).2.2
theorem pJ {α:Type} {xs ys:List α} (h:xs.length+ys.length≤1000000000):app xs ys=some (xs++ys):=by unfold app;rw [if_pos h]
theorem HZ {α:Type} {xs:List α} {l h:Int} (h0:0≤l) (h1:l≤h) (h2:h≤xs.length):A5 xs l h=some ((xs.drop l.toNat).take (h.toNat - l.toNat)):=by
 unfold A5;rw [if_pos ⟨h0,h1,h2⟩]
def E6 {α σ A:Type} (step:σ→α→Int→Option (σ⊕A)) (fin:σ→Int→Option A):List α→σ→Int→Option A
 | [],s,i=>fin s i
 | x :: r,s,i=>match step s x i with
   | none=>none
   | some (.inl s')=>E6 step fin r s' (i+1)
   | some (.inr a)=>some a
theorem E7 {α σ A X:Type} (xs:List α) (mk:σ→Int→X) (f:X→Option (X⊕A)) (step:σ→α→Int→Option (σ⊕A)) (fin:σ→Int→Option A)
 (h1:∀ s (i:Int) x,0≤i→i < xs.length→idx xs i=some x→f (mk s i)=(step s x i).map (Sum.map (fun s'=>mk s' (i+1)) id))
 (h2:∀ s,f (mk s xs.length)=(fin s xs.length).map .inr):∀ (n:Nat) (s:σ) (i:Int),0≤i→i+n=xs.length→iter f (mk s i)=E6 step fin (xs.drop i.toNat) s i
 | 0,s,i,h0,hn=>by
   have hi:i=xs.length:=by omega
   subst hi
   rw [iter_eq,h2,aY]
   simp [E6]
 | n+1,s,i,h0,hn=>by
   obtain ⟨x,hx,_,hd⟩:=ff xs h0 (by omega)
   rw [iter_eq,h1 s i x h0 (by omega) hx,hd]
   simp only [E6]
   cases FJ:step s x i with
   | none=>rfl
   | some u=>
     cases u with
     | inl s'=>exact E7 xs mk f step fin h1 h2 n s' (i+1) (by omega) (by omega)
     | inr a=>rfl
theorem JU {α σ A X:Type} (xs:List α) (mk:σ→Int→X) (f:X→Option (X⊕A)) (step:σ→α→Int→Option (σ⊕A)) (fin:σ→Int→Option A)
 (h1:∀ s (i:Int) x,0≤i→i < xs.length→idx xs i=some x→f (mk s i)=(step s x i).map (Sum.map (fun s'=>mk s' (i+1)) id))
 (h2:∀ s,f (mk s xs.length)=(fin s xs.length).map .inr) (s:σ):iter f (mk s 0)=E6 step fin xs s 0:=
 E7 xs mk f step fin h1 h2 xs.length s 0 (by omega) (by omega)
def E8 {α A:Type} (g:α→Option A) (e:A):List α→A
 | []=>e
 | x :: r=>match g x with
   | some a=>a
   | none=>E8 g e r
theorem Cs {α A:Type} (xs:List α) (f:Int→Option (Int⊕A)) (g:α→Option A) (e:A) (hlen:(xs.length:Int)≤4611686018427387904)
 (h1:∀ (i:Int) x,0≤i→i < xs.length→idx xs i=some x→f i=match g x with | some a=>some (.inr a) | none=>some (.inl (i+1)))
 (h2:f xs.length=some (.inr e)):iter f 0=some (E8 g e xs):=by
 have h:=JU xs (fun (_:Unit) i=>i) f (fun _ x _=>match g x with | some a=>some (.inr a) | none=>some (.inl ())) (fun _ _=>some e)
  (fun s i x h0 h3 h4=>by rw [h1 i x h0 h3 h4];cases g x<;>rfl) (fun s=>by rw [h2];rfl) ()
 rw [h]
 clear h h1 h2 hlen
 suffices ∀ (xs:List α) (i:Int),E6 (fun (_:Unit) x _=>match g x with | some a=>some (.inr a) | none=>some (.inl ())) (fun _ _=>some e) xs () i=some (E8 g e xs) from this xs 0
 intro xs
 induction xs with
 | nil=>intro i;rfl
 | cons x r ih=>
   intro i
   simp only [E6,E8]
   cases g x with
   | none=>exact ih (i+1)
   | some a=>rfl
theorem AO {α:Type} (p:α→Bool):∀ (xs:List α),E8 (fun x=>if p x=true then none else some false) true xs=xs.all p
 | []=>rfl
 | x :: r=>by
   simp only [E8,List.all_cons]
   cases hp:p x<;>simp [AO p r]
end Go.Beacon
set_option linter.unusedSimpArgs false
namespace Go.Beacon
open Go Go.Eng
def zQ {α:Type} [DecidableEq α] (xs ys:List α) (i:Int):Option (Int⊕Bool):=
 if i < (xs.length:Int) then
  (idx xs i).bind fun v3=>
  (idx ys i).bind fun v4=>
  if v3≠v4 then
   af .inr (some false)
  else
   some (.inl (bB (i+(1:Int))))
 else
  af .inr (some true)
noncomputable def QP {α:Type} [DecidableEq α] (xs ys:List α):Option Bool:=
 if (xs.length:Int)≠(ys.length:Int) then
  some false
 else
  iter (fun x:Int=>zQ xs ys x) 0
theorem C8 {α:Type} [DecidableEq α] (xs ys:List α) (hl:xs.length=ys.length) (hb:(xs.length:Int)≤4611686018427387904):∀ (n:Nat) (i:Int),0≤i→i+n=xs.length→
 iter (fun x:Int=>zQ xs ys x) i=some (decide (xs.drop i.toNat=ys.drop i.toNat))
 | 0,i,h0,hn=>by
   rw [iter_eq,zQ,if_neg (by omega),be (by omega),be (by omega)];simp
 | n+1,i,h0,hn=>by
   obtain ⟨x,hx,_,hd⟩:=ff xs h0 (by omega)
   obtain ⟨y,hy,_,ya⟩:=ff ys h0 (by omega)
   rw [iter_eq,zQ,if_pos (by omega),hx,hy,hd,ya]
   simp only [ac]
   by_cases Hh:x=y
   ·subst Hh
    rw [if_neg (by simp)]
    simp only [ac,bC]
    rw [bl (by omega) (by omega)]
    have:=C8 xs ys hl hb n (i+1) (by omega) (by omega)
    rw [this];simp
   ·rw [if_pos Hh];simp [Hh]
theorem Om {α:Type} [DecidableEq α] (xs ys:List α) (hb:(xs.length:Int)≤4611686018427387904):QP xs ys=some (decide (xs=ys)):=by
 unfold QP
 by_cases h:xs.length=ys.length
 ·rw [if_neg (by omega),C8 xs ys h hb xs.length 0 (by omega) (by omega)];simp
 ·rw [if_pos (by omega),decide_eq_false (fun e=>h (by rw [e]))]
def tM {α:Type} (xs:List α) (f:α→Option Bool) (i:Int):Option (Int⊕Int):=
 if i < (xs.length:Int) then
  (idx xs i).bind fun v3=>
  (f v3).bind fun v4=>
  if v4=true then
   af .inr (some i)
  else
   some (.inl (bB (i+(1:Int))))
 else
  af .inr (some (-1:Int))
noncomputable def xT {α:Type} (xs:List α) (f:α→Option Bool):Option Int:=iter (fun x:Int=>tM xs f x) 0
noncomputable def Ao {α:Type} (xs:List α) (f:α→Option Bool):Option Bool:=(xT xs f).bind fun v1=>some (decide ((0:Int)≤v1))
def lM {α:Type} (p:α→Bool):List α→Int→Int
 | [],_=>-1
 | x :: r,i=>if p x=true then i else lM p r (i+1)
theorem GR {α:Type} (p:α→Bool):∀ (xs:List α) (i:Int),0≤i→(0≤lM p xs i↔xs.any p=true)
 | [],i,h=>by simp [lM]
 | x :: r,i,h=>by
   have:=GR p r (i+1) (by omega)
   simp only [lM,List.any_cons,Bool.or_eq_true]
   split
   ·rename_i hp;simp [hp,h]
   ·rename_i hp
    have cL:p x=false:=by simpa using hp
    simp only [cL,bo,false_or];exact this
theorem yj {α:Type} (xs:List α) (f:α→Option Bool) (p:α→Bool) (hf:∀ x∈xs,f x=some (p x)) (hb:(xs.length:Int)≤4611686018427387904):∀ (n:Nat) (i:Int),0≤i→i+n=xs.length→
 iter (fun x:Int=>tM xs f x) i=some (lM p (xs.drop i.toNat) i)
 | 0,i,h0,hn=>by
   rw [iter_eq,tM,if_neg (by omega),be (by omega)];rfl
 | n+1,i,h0,hn=>by
   obtain ⟨x,hx,hm,hd⟩:=ff xs h0 (by omega)
   rw [iter_eq,tM,if_pos (by omega),hx,hd]
   simp only [ac,hf x hm,lM]
   split
   ·rfl
   ·simp only [ac,bC]
    rw [bl (by omega) (by omega)]
    exact yj xs f p hf hb n (i+1) (by omega) (by omega)
theorem qM {α:Type} (xs:List α) (f:α→Option Bool) (p:α→Bool) (hf:∀ x∈xs,f x=some (p x)) (hb:(xs.length:Int)≤4611686018427387904):xT xs f=some (lM p xs 0):=by
 unfold xT
 rw [yj xs f p hf hb xs.length 0 (by omega) (by omega)];simp
theorem xj {α:Type} (xs:List α) (f:α→Option Bool) (p:α→Bool) (hf:∀ x∈xs,f x=some (p x)) (hb:(xs.length:Int)≤4611686018427387904):Ao xs f=some (xs.any p):=by
 unfold Ao
 rw [qM xs f p hf hb]
 simp only [ac,bY]
 rw [b4,decide_eq_true_eq]
 exact GR p xs 0 (by omega)
def H3 (xs:List Int) (i:Int):Option (Int⊕Int):=
 if i < (xs.length:Int) then
  (idx xs i).bind fun v3=>
  if v3≠(0:Int) then
   af .inr (some v3)
  else
   some (.inl (bB (i+(1:Int))))
 else
  af .inr (some (0:Int))
noncomputable def gOr (xs:List Int):Option Int:=iter (fun x:Int=>H3 xs x) 0
def pL:List Int→Int
 | []=>0
 | x :: r=>if x≠0 then x else pL r
theorem AP (xs:List Int) (hb:(xs.length:Int)≤4611686018427387904):gOr xs=some (pL xs):=by
 unfold gOr
 rw [Cs xs (fun x:Int=>H3 xs x) (fun x=>if x≠0 then some x else none) 0 hb]
 ·congr 1
  clear hb
  induction xs with
  | nil=>rfl
  | cons x r ih=>
    simp only [E8,pL]
    by_cases h:x=0
    ·subst h;simpa using ih
    ·simp [h]
 ·intro i x h0 h1 hx
  unfold H3
  rw [if_pos h1,hx]
  simp only [ac]
  by_cases h:x=0
  ·rw [bl (by omega) (by omega)];simp [h]
  ·simp [h]
 ·unfold H3;rw [if_neg (by omega)];rfl
def er (a b:Int):Int:=if a < b then -1 else if b < a then 1 else 0
theorem xk:∀ l:List UInt8,Lib.compareBytes l l=0
 | []=>rfl
 | a :: l=>by simp only [Lib.compareBytes];rw [if_neg (by simp),if_neg (by simp)];exact xk l
theorem H4 (a:UInt8):¬ a < a:=by simp
theorem Ct (a b:UInt8):a < b∨a=b∨b < a:=by
 rcases Nat.lt_trichotomy a.toNat b.toNat with h | h | h
 ·exact .inl h
 ·exact .inr (.inl (UInt8.toNat_inj.1 h))
 ·exact .inr (.inr h)
theorem xl {a b:UInt8} (h:a < b):¬ b < a:=by
 rw [UInt8.lt_iff_toNat_lt] at *;omega
theorem E9:∀ a b:List UInt8,Lib.compareBytes a b=- Lib.compareBytes b a
 | [],[]=>rfl
 | [],_ :: _=>rfl
 | _ :: _,[]=>rfl
 | a :: la,b :: lb=>by
   simp only [Lib.compareBytes]
   rcases Ct a b with h | h | h
   ·rw [if_pos h,if_neg (xl h),if_pos h]
   ·subst h
    rw [if_neg (by simp),if_neg (by simp),if_neg (by simp),if_neg (by simp)];exact E9 la lb
   ·rw [if_neg (xl h),if_pos h,if_pos h];rfl
theorem xm:∀ {a b:List UInt8},Lib.compareBytes a b=0→a=b
 | [],[],_=>rfl
 | [],_ :: _,h=>by simp [Lib.compareBytes] at h
 | _ :: _,[],h=>by simp [Lib.compareBytes] at h
 | a :: la,b :: lb,h=>by
   simp only [Lib.compareBytes] at h
   split at h
   ·simp at h
   ·split at h
    ·simp at h
    ·rename_i h1 h2
     rcases Ct a b with h3 | h3 | h3
     ·exact absurd h3 h1
     ·rw [h3,xm h]
     ·exact absurd h3 h2
theorem xn:∀ a b:List UInt8,Op.bytesLess a b=decide (Lib.compareBytes a b < 0)
 | [],[]=>by simp [Op.bytesLess,Lib.compareBytes]
 | [],_ :: _=>by simp [Op.bytesLess,Lib.compareBytes]
 | _ :: _,[]=>by simp [Op.bytesLess,Lib.compareBytes]
 | a :: la,b :: lb=>by
   simp only [Op.bytesLess,Lib.compareBytes]
   rcases Ct a b with h | h | h
   ·simp [h]
   ·subst h;simp [xn la lb]
   ·have h1:=xl h
    have h2:(a==b)=false:=by
     rw [beq_eq_false_iff_ne];intro e;subst e;exact H4 _ h
    simp [h,h1,h2]
theorem TE (a b:List UInt8):(a==b)=decide (Lib.compareBytes a b=0):=by
 rw [b4]
 simp only [beq_iff_eq,decide_eq_true_eq]
 exact ⟨fun h=>by rw [h];exact xk b,xm⟩
theorem tt:∀ (l:List UInt8) (c:UInt8),(Lib.indexByte l c < 0)↔c∉l
 | [],c=>by simp [Lib.indexByte]
 | b :: l,c=>by
   have ih:=tt l c
   have Uv:=Lib.indexByte_ge l c
   simp only [Lib.indexByte,ag,not_or]
   by_cases hb:b=c
   ·subst hb;simp
   ·rw [if_neg (by simpa using hb)]
    by_cases h1:Lib.indexByte l c=-1
    ·rw [h1] at ih
     simp only [h1,beq_self_eq_true,if_true]
     exact ⟨fun _=>⟨fun e=>hb e.symm,ih.1 (by omega)⟩,fun _=>by omega⟩
    ·rw [if_neg (by simpa using h1)]
     exact ⟨fun h=>by omega,fun h=>absurd (ih.2 h.2) (by omega)⟩
theorem abV (c:UInt8):((c.toNat:Int)).toNat.toUInt8=c:=by simp
structure Cu {α:Type} (cf:α→α→Int) (xs:List α):Prop where
 LR:∀ x∈xs,¬ cf x x < 0
 tr:∀ x∈xs,∀ y∈xs,∀ z∈xs,cf x y < 0→cf y z < 0→cf x z < 0
 ntr:∀ x∈xs,∀ y∈xs,∀ z∈xs,¬ cf x y < 0→¬ cf y z < 0→¬ cf x z < 0
def JV {α:Type} (cf:α→α→Int) (xs:List α):Prop:=xs.Pairwise (fun a b=>¬ cf b a < 0)
theorem Cu.mono {α:Type} {cf:α→α→Int} {xs ys:List α} (h:Cu cf xs) (hs:∀ y∈ys,y∈xs):Cu cf ys:=
 ⟨fun x hx=>h.LR x (hs x hx),fun x hx y hy z hz=>h.tr x (hs x hx) y (hs y hy) z (hs z hz),fun x hx y hy z hz=>h.ntr x (hs x hx) y (hs y hy) z (hs z hz)⟩
def wj {α:Type} (n4:Int) (l7:List α) (n8:Int) (c9:Bool):Option (((List α)×Int)⊕(((List α)×Int)⊕(List α))):=
 if c9=true then
  (idx l7 (bB (n8 - (1:Int)))).bind fun gy=>
  (idx l7 n8).bind fun qe=>
  (idx l7 n8).bind fun kU=>
  (idx (l7.set n8.toNat gy) (bB (n8 - (1:Int)))).bind fun sW=>
  some (.inl ((l7.set n8.toNat gy).set (bB (n8 - (1:Int))).toNat qe,bB (n8 - (1:Int))))
 else
  af .inr (some (.inl (l7,bB (n4+(1:Int)))))
def xU {α:Type} (ai:Int) (lS:α→α→Option Int) (n4:Int) (l7:List α) (n8:Int):Option (((List α)×Int)⊕(((List α)×Int)⊕(List α))):=
 if ai < n8 then
  (idx l7 n8).bind fun v10=>
  (idx l7 (bB (n8 - (1:Int)))).bind fun v11=>
  (lS v10 v11).bind fun v12=>
  wj n4 l7 n8 (decide (v12 < (0:Int)))
 else
  wj n4 l7 n8 false
noncomputable def uS {α:Type} (ai:Int) (lS:α→α→Option Int) (n4:Int) (l7:List α) (n8:Int):Option (((List α)×Int)⊕(List α)):=
 iter (fun x:(List α)×Int=>xU ai lS n4 x.1 x.2) (l7,n8)
noncomputable def xV {α:Type} (ai aI:Int) (lS:α→α→Option Int) (l3:List α) (n4:Int):Option (((List α)×Int)⊕(List α)):=
 if n4 < aI then
  uS ai lS n4 l3 n4
 else
  af .inr (some l3)
noncomputable def uT {α:Type} (ai aI:Int) (lS:α→α→Option Int) (l3:List α) (n4:Int):Option (List α):=
 iter (fun x:(List α)×Int=>xV ai aI lS x.1 x.2) (l3,n4)
noncomputable def TF {α:Type} (aa:List α) (ai aI:Int) (lS:α→α→Option Int):Option (List α):=
 uT ai aI lS aa (bB (ai+(1:Int)))
theorem JW {α:Type} (P:List α) (x y:α) (T:List α):((P++y :: x :: T).set (P.length+1) y).set P.length x=P++x :: y :: T:=by
 induction P with
 | nil=>rfl
 | cons p P ih=>simp only [bp,bs,List.set_cons_succ,ih]
theorem BJ {α:Type} (P:List α) (x:α) (T:List α) {i:Int} (hi:i=P.length):idx (P++x :: T) i=some x:=by
 subst hi
 unfold idx
 rw [if_pos (by omega)]
 simp
theorem On {α:Type} (lS:α→α→Option Int) (cf:α→α→Int) (n4:Int) (hn:n4≤1000000) (x:α):∀ (k:Nat) (P R post:List α),P.length=k→(P.length:Int)≤1000000→
 (∀ y∈P,lS x y=some (cf x y))→Cu cf (x :: (P++R))→JV cf (P++R)→(∀ r∈R,cf x r < 0)→
 ∃ Z,uS 0 lS n4 (P++x :: (R++post)) P.length=some (.inl (Z++post,bB (n4+1)))∧Z.Perm (x :: (P++R))∧JV cf Z:=by
 intro k
 induction k with
 | zero=>
   intro P R post hP hl hf hO hs hR
   obtain rfl:P=[]:=b5 hP
   refine ⟨x :: R,?_,by simp,?_⟩
   ·unfold uS
    rw [iter_eq,xU,if_neg (by simp),wj,if_neg (by simp),aY];simp
   ·refine ad.2 ⟨fun r hr iW=>?_,by simpa [JV] using hs⟩
    have h1:=hR r hr
    exact hO.LR x (by simp) (hO.tr x (by simp) r (by simp [hr]) x (by simp) h1 iW)
 | succ k ih=>
   intro P R post hP hl hf hO hs hR
   obtain ⟨Q,y,rfl⟩:∃ Q y,P=Q++[y]:=by
    rcases List.eq_nil_or_concat P with h | ⟨Q,y,h⟩
    ·rw [h] at hP;simp at hP
    ·exact ⟨Q,y,by simpa using h⟩
   have hQ:Q.length=k:=by simpa using hP
   have hlen:((Q++[y]).length:Int)=Q.length+1:=by simp
   have hlq:(Q.length:Int)+1≤1000000:=by rw [← hlen];exact hl
   have w1:bB ((Q.length:Int)+1 - 1)=Q.length:=by rw [bl]<;>omega
   have e1:(Q++[y])++x :: (R++post)=Q++y :: x :: (R++post):=by simp
   have i1:idx (Q++y :: x :: (R++post)) ((Q.length:Int)+1)=some x:=by
    have:=BJ (Q++[y]) x (R++post) (i:=(Q.length:Int)+1) (by simp)
    simpa using this
   have i0:idx (Q++y :: x :: (R++post)) (Q.length:Int)=some y:=BJ Q y _ rfl
   rw [e1,hlen]
   by_cases hc:cf x y < 0
   ·obtain ⟨Z,z1,z2,z3⟩:=ih Q (y :: R) post hQ (by omega) (fun z hz=>hf z (by simp [hz])) (hO.mono (fun z hz=>by simp at hz ⊢;rcases hz with h | h | h | h<;>simp [h])) (by simpa using hs) (fun r hr=>by rcases ag.1 hr with rfl | hr;exact hc;exact hR r hr)
    refine ⟨Z,?_,z2.trans (by simp),z3⟩
    unfold uS at z1 ⊢
    rw [iter_eq,xU,if_pos (by simp only;omega)]
    simp only [i1,w1,i0,ac,hf y (by simp),hc,decide_true]
    unfold wj
    rw [if_pos rfl,w1]
    simp only [i0,i1,ac]
    have i2:idx ((Q++y :: x :: (R++post)).set ((Q.length:Int)+1).toNat y) (Q.length:Int)=some y:=by
     rw [show ((Q.length:Int)+1).toNat=Q.length+1 by omega]
     unfold idx
     rw [if_pos (by omega),a7 (by simp)]
     simp
    rw [i2]
    simp only [ac,bC]
    have e2:((Q++y :: x :: (R++post)).set ((Q.length:Int)+1).toNat y).set ((Q.length:Int)).toNat x=Q++x :: (y :: R++post):=by
     rw [show ((Q.length:Int)+1).toNat=Q.length+1 by omega,show ((Q.length:Int)).toNat=Q.length by omega,JW];simp
    rw [e2]
    exact z1
   ·refine ⟨Q++y :: x :: R,?_,?_,?_⟩
    ·unfold uS
     rw [iter_eq,xU,if_pos (by simp only;omega)]
     simp only [i1,w1,i0,ac,hf y (by simp),hc,decide_false]
     unfold wj
     rw [if_neg (by simp),aY];simp
    ·have:(Q++y :: x :: R).Perm (x :: (Q++y :: R)):=by
      have h:=b6 (a:=x) (l₁:=Q++[y]) (l₂:=R)
      simpa using h
     simpa using this
    ·unfold JV at hs ⊢
     have C9:(Q++y :: R).Pairwise (fun a b=>¬ cf b a < 0):=by simpa using hs
     rw [List.pairwise_append,ad] at C9 ⊢
     obtain ⟨a1,⟨a2,a3⟩,a4⟩:=C9
     have hxQ:∀ q∈Q,¬ cf x q < 0:=fun q hq=>hO.ntr x (by simp) y (by simp) q (by simp [hq]) hc (a4 q hq y (by simp))
     refine ⟨a1,⟨fun z hz=>?_,ad.2 ⟨fun r hr iW=>?_,a3⟩⟩,fun q hq z hz=>?_⟩
     ·rcases ag.1 hz with rfl | hz
      ·exact hc
      ·exact a2 z hz
     ·exact hO.LR x (by simp) (hO.tr x (by simp) r (by simp [hr]) x (by simp) (hR r hr) iW)
     ·rcases ag.1 hz with rfl | hz
      ·exact a4 q hq z (by simp)
      ·rcases ag.1 hz with rfl | hz
       ·exact hxQ q hq
       ·exact a4 q hq z (by simp [hz])
theorem Oo {α:Type} (lS:α→α→Option Int) (cf:α→α→Int) (xs:List α) (hl:(xs.length:Int)≤100000) (hf:∀ x∈xs,∀ y∈xs,lS x y=some (cf x y)) (hO:Cu cf xs):∀ (n:Nat) (P post:List α) (i:Int),i=P.length→post.length=n→(P++post).Perm xs→JV cf P→
 ∃ Z,uT 0 xs.length lS (P++post) i=some Z∧Z.Perm xs∧JV cf Z:=by
 intro n
 induction n with
 | zero=>
   intro P post i hi hn hp hs
   obtain rfl:post=[]:=b5 hn
   have hlen:=hp.length_eq
   simp only [b7] at hp hlen ⊢
   refine ⟨P,?_,hp,hs⟩
   unfold uT
   rw [iter_eq,xV,if_neg (by simp only;omega),aY]
 | succ n ih=>
   intro P post i hi hn hp hs
   match post,hn with
   | x :: r,hn=>
     have hlen:=hp.length_eq
     simp only [List.length_append,bs] at hlen
     have lI:∀ z∈P++x :: r,z∈xs:=fun z hz=>hp.mem_iff.1 hz
     obtain ⟨Z,z1,z2,z3⟩:=On lS cf i (by omega) x P.length P [] r rfl (by omega) (fun y hy=>hf x (lI x (by simp)) y (lI y (by simp [hy]))) (hO.mono (fun z hz=>lI z (by simp at hz ⊢;rcases hz with h | h<;>simp [h]))) (by simpa using hs) (by simp)
     simp only [b7,bt] at z1 z2
     have YZ:=z2.length_eq
     obtain ⟨Y,y1,y2,y3⟩:=ih Z r (i+1) (by rw [hi];simp at YZ;omega) (by simpa using hn) (by
      refine List.Perm.trans ?_ hp
      have:(Z++r).Perm ((x :: P)++r):=z2.append_right r
      refine this.trans ?_
      have h:=b6 (a:=x) (l₁:=P) (l₂:=r)
      simpa using h.symm) z3
     refine ⟨Y,?_,y2,y3⟩
     unfold uT at y1 ⊢
     rw [iter_eq,xV,if_pos (by simp only;omega)]
     simp only
     rw [← hi] at z1
     rw [z1]
     simp only [ac,bC]
     rw [bl (by omega) (by omega)]
     exact y1
theorem TG {α:Type} (lS:α→α→Option Int) (cf:α→α→Int) (xs:List α) (hl:(xs.length:Int)≤100000) (hf:∀ x∈xs,∀ y∈xs,lS x y=some (cf x y)) (hO:Cu cf xs):∃ Z,TF xs 0 xs.length lS=some Z∧Z.Perm xs∧JV cf Z:=by
 unfold TF
 rw [show bB (0+1)=1 by decide]
 cases xs with
 | nil=>
   refine ⟨[],?_,bv _,.nil⟩
   unfold uT
   rw [iter_eq,xV,if_neg (by simp),aY]
 | cons x r=>
   exact Oo lS cf (x :: r) hl hf hO r.length [x] r 1 (by simp) rfl (bv _) (by simp [JV])
theorem Wl {α:Type} {f:α→α→Option Int} {cf:α→α→Int} {x:α} {r:List α} (hf:∀ a∈x :: r,∀ b∈x :: r,f a b=some (cf a b)) (hO:Cu cf (x :: r)):Sort.SWO (al (vJ f x r)):=by
 have e:∀ i j,vJ f x r i j=cf (uz x r i) (uz x r j):=fun i j=>by unfold vJ;rw [hf _ (jo x r i) _ (jo x r j)];rfl
 refine ⟨fun i=>?_,fun i j k h1 h2=>?_,fun i j k h1 h2=>?_⟩
 ·unfold al;rw [e];simpa using hO.LR _ (jo x r i)
 ·unfold al at *;rw [e] at *
  simp only [decide_eq_true_eq] at *
  exact hO.tr _ (jo x r i) _ (jo x r j) _ (jo x r k) h1 h2
 ·unfold al at *;rw [e] at *
  simp only [decide_eq_false_iff_not] at *
  exact hO.ntr _ (jo x r i) _ (jo x r j) _ (jo x r k) h1 h2
theorem Oq {α:Type} (x:α) (r:List α):(bw (r.length+1)).map (uz x r)=x :: r:=by
 apply a8
 intro i
 rw [List.getElem?_map]
 by_cases hi:i < r.length+1
 ·rw [List.getElem?_range hi,b8]
  unfold uz
  rw [List.getD_eq_getElem?_getD,bx (l:=x :: r) (by simpa using hi)];rfl
 ·rw [aw (by simp;omega),aw (by simp;omega)];rfl
theorem JX {α:Type} (f:α→α→Option Int) (cf:α→α→Int) (xs:List α) (hl:xs.length≤100000) (hf:∀ a∈xs,∀ b∈xs,f a b=some (cf a b)) (hO:Cu cf xs):∃ Z,Ek f xs=some Z∧Z.Perm xs∧JV cf Z:=by
 cases xs with
 | nil=>exact ⟨[],rfl,bv _,.nil⟩
 | cons x r=>
   have hS:=Wl hf hO
   have hlen:r.length+1≤100000:=by simpa using hl
   rw [AE,if_pos ⟨by omega,fun a ha b hb=>⟨_,hf a ha b hb⟩,hS⟩]
   have SR:=Sort.pdq_sorts (al (vJ f x r)) hS (bz (r.length+1)) 0 (r.length+1) (Lib.bitLen (r.length+1)) true true (Nat.zero_le _) (by simp) (Or.inl rfl)
   generalize Sort.pdq (al (vJ f x r)) (bz (r.length+1)) 0 (r.length+1) (Lib.bitLen (r.length+1)) true true=d at SR
   obtain ⟨⟨h1,_,h3⟩,h4⟩:=SR
   have hd:d.size=r.length+1:=by simpa using h1
   have mW:d.toList.Perm (bw (r.length+1)):=by
    have a1:(d.extract 0 (r.length+1)).toList=d.toList:=by
     rw [b9]
     simp [cb]
     exact bi (by simp [hd])
    have a2:((bz (r.length+1)).extract 0 (r.length+1)).toList=bw (r.length+1):=by
     rw [b9]
     simp [cb]
    rw [a1,a2] at h3
    exact h3
   refine ⟨_,rfl,?_,?_⟩
   ·have:=mW.map (uz x r)
    rw [Oq] at this
    exact this
   ·unfold JV
    rw [cc,List.pairwise_iff_getElem]
    intro i j hi hj zC
    have Vh:i < d.size:=by simpa using hi
    have W1:j < d.size:=by simpa using hj
    have h:=h4 i j (Nat.zero_le _) zC (by omega)
    unfold al vJ at h
    rw [hf _ (jo x r _) _ (jo x r _)] at h
    simp only [Option.getD_some,decide_eq_false_iff_not] at h
    rw [getElem!_pos d i Vh,getElem!_pos d j W1] at h
    simpa using h
theorem AR {α:Type} {cf:α→α→Int}:∀ {X Y:List α},X.Perm Y→JV cf X→JV cf Y→(∀ a∈X,∀ b∈X,¬ cf a b < 0→¬ cf b a < 0→a=b)→X=Y
 | [],Y,hp,_,_,_=>by rw [List.nil_perm.1 hp]
 | x :: X,[],hp,_,_,_=>by have:=hp.length_eq;simp at this
 | x :: X,y :: Y,hp,hX,hY,ha=>by
   have Hh:x=y:=by
    have hx:x∈y :: Y:=hp.mem_iff.1 (by simp)
    have hy:y∈x :: X:=hp.mem_iff.2 (by simp)
    rcases ag.1 hx with h | h
    ·exact h
    ·rcases ag.1 hy with h' | h'
     ·exact h'.symm
     ·exact ha x (by simp) y (by simp [h']) ((ad.1 hY).1 x h) ((ad.1 hX).1 y h')
   subst Hh
   rw [AR (List.Perm.cons_inv hp) (ad.1 hX).2 (ad.1 hY).2 (fun a h b h'=>ha a (by simp [h]) b (by simp [h']))]
def Fa {α:Type} (n12:Int) (za:List α) (n17:Int):Option (((List α)×Int×Int)⊕(Int⊕(List α))):=
 some (.inl (za,n17,bB (n12+(1:Int))))
def BK {α:Type} (Z:α) (l10:List α) (n11:Int):Option (Int⊕(List α)):=
 (A5 l10 n11 (l10.length:Int)).bind fun jy=>
 (A5 (DM l10 n11 jy.length Z) (0:Int) n11).bind fun xz=>
 af .inr (some xz)
def Fb {α:Type} (Z:α) (eC:α→α→Option Bool) (n2:Int) (l6 l10:List α) (n11 n12:Int):Option (((List α)×Int×Int)⊕(Int⊕(List α))):=
 if n12 < (l6.length:Int) then
  (Cf l10 n2 l6.length n12).bind fun gy=>
  (Cf l10 n2 l6.length (bB (n12 - (1:Int)))).bind fun qe=>
  (eC gy qe).bind fun kU=>
  if (!kU)=true then
   (Cf l10 n2 l6.length n12).bind fun fg=>
   (idx l10 n11).bind fun np=>
   Fa n12 (l10.set n11.toNat fg) (bB (n11+(1:Int)))
  else
   Fa n12 l10 n11
 else
  af .inr (BK Z l10 n11)
noncomputable def BL {α:Type} (Z:α) (eC:α→α→Option Bool) (n2:Int) (l6 l10:List α) (n11 n12:Int):Option (Int⊕(List α)):=
 iter (fun x:(List α)×Int×Int=>Fb Z eC n2 l6 x.1 x.2.1 x.2.2) (l10,n11,n12)
noncomputable def Fc {α:Type} (Z:α) (aa:List α) (eC:α→α→Option Bool) (n2:Int):Option (Int⊕(List α)):=
 if n2 < (aa.length:Int) then
  (idx aa n2).bind fun v3=>
  (idx aa (bB (n2 - (1:Int)))).bind fun v4=>
  (eC v3 v4).bind fun v5=>
  if v5=true then
   (A5 aa n2 (aa.length:Int)).bind fun l6=>
   BL Z eC n2 l6 aa n2 (1:Int)
  else
   some (.inl (bB (n2+(1:Int))))
 else
  af .inr (some aa)
noncomputable def BM {α:Type} (Z:α) (aa:List α) (eC:α→α→Option Bool) (n2:Int):Option (List α):=
 iter (fun x:Int=>Fc Z aa eC x) n2
noncomputable def UZ {α:Type} (Z:α) (aa:List α) (eC:α→α→Option Bool):Option (List α):=
 if (aa.length:Int) < (2:Int) then
  some aa
 else
  BM Z aa eC (1:Int)
def O3 {α:Type} (e:α→α→Bool):α→List α→List α
 | _,[]=>[]
 | p,y :: r=>if e y p=true then O3 e y r else y :: O3 e y r
def dd {α:Type} (e:α→α→Bool):List α→List α
 | []=>[]
 | x :: r=>x :: O3 e x r
theorem JY {α:Type} (e:α→α→Bool):∀ (p:α) (ys:List α) (y z:α),O3 e p (ys++[y,z])=if e z y=true then O3 e p (ys++[y]) else O3 e p (ys++[y])++[z]
 | p,[],y,z=>by
   simp only [bt,O3]
   by_cases h1:e y p=true<;>by_cases h2:e z y=true<;>simp [h1,h2]
 | p,w :: ys,y,z=>by
   simp only [bp,O3,JY e w ys y z]
   by_cases h1:e w p=true<;>by_cases h2:e z y=true<;>simp [h1,h2]
theorem TH {α:Type} (e:α→α→Bool) (ys:List α) (y z:α):dd e (ys++[y,z])=if e z y=true then dd e (ys++[y]) else dd e (ys++[y])++[z]:=by
 cases ys with
 | nil=>
   simp only [bt,dd,O3]
   by_cases h2:e z y=true<;>simp [h2]
 | cons w ys=>
   simp only [bp,dd,JY e w ys y z]
   by_cases h2:e z y=true<;>simp [h2]
theorem QQ {α:Type} {xs:List α} {m:Nat} (h1:1≤m) (h2:m < xs.length):xs.take (m+1)=xs.take (m - 1)++[xs[m - 1],xs[m]]∧xs.take m=xs.take (m - 1)++[xs[m - 1]]:=by
 have a:xs.take m=xs.take (m - 1)++[xs[m - 1]]:=by
  have:=bk (l:=xs) (i:=m - 1) (by omega)
  rw [show m - 1+1=m by omega] at this
  exact this.symm
 refine ⟨?_,a⟩
 have:=bk (l:=xs) (i:=m) h2
 rw [← this,a,ce];rfl
theorem MX {α:Type} (e:α→α→Bool) {xs:List α} {m:Nat} (h1:1≤m) (h2:m < xs.length):dd e (xs.take (m+1))=if e xs[m] xs[m - 1]=true then dd e (xs.take m) else dd e (xs.take m)++[xs[m]]:=by
 obtain ⟨a,b⟩:=QQ h1 h2
 rw [a,b];exact TH e _ _ _
theorem H5 {α:Type} (e:α→α→Bool):∀ (p:α) (r:List α),(O3 e p r).Sublist r
 | _,[]=>by simp [O3]
 | p,y :: r=>by
   simp only [O3]
   split
   ·exact (H5 e y r).cons y
   ·exact (H5 e y r).cons_cons y
theorem Wm {α:Type} (e:α→α→Bool) (xs:List α):(dd e xs).Sublist xs:=by
 cases xs with
 | nil=>simp [dd]
 | cons x r=>exact (H5 e x r).cons_cons x
theorem TI {α:Type} {xs:List α} {i:Int} (h0:0≤i) (h1:i.toNat < xs.length):idx xs i=some xs[i.toNat]:=by
 unfold idx;rw [if_pos h0];simp [h1]
theorem QR {α:Type} (Z:α) (l:List α) {k:Int} (h0:0≤k) (h1:k≤l.length):BK Z l k=some (.inr (l.take k.toNat)):=by
 unfold BK
 rw [HZ h0 h1 (by omega)]
 simp only [ac]
 have hlen:(((l.drop k.toNat).take (((l.length:Int)).toNat - k.toNat)).length)=l.length - k.toNat:=by simp
 rw [hlen,HZ (by omega) h0 (by unfold DM;simp;omega)]
 simp only [ac,b8,bY,Sum.inr.injEq]
 unfold DM
 simp only [Int.toNat_zero,List.drop_zero,Nat.sub_zero]
 rw [ce,List.take_append_of_le_length (by simp;omega),List.take_take]
 congr 1;omega
theorem Ot {α:Type} (Z:α) (eC:α→α→Option Bool) (e:α→α→Bool) (xs:List α) (hl:(xs.length:Int)≤100000) (hf:∀ x∈xs,∀ y∈xs,eC x y=some (e x y)) (k0:Int) (h0:1≤k0) (h1:k0 < xs.length) (l6:List α) (hl6:(l6.length:Int)=xs.length - k0):∀ (n:Nat) (l:List α) (k k2:Int),1≤k2→k2+n=l6.length→l.length=xs.length→0≤k→k≤k0+k2 - 1→
 l.drop (k0+k2 - 1).toNat=xs.drop (k0+k2 - 1).toNat→l.take k.toNat=dd e (xs.take (k0+k2).toNat)→BL Z eC k0 l6 l k k2=some (.inr (dd e xs)):=by
 intro n
 induction n with
 | zero=>
   intro l k k2 g1 g2 g3 g4 g5 g6 g7
   unfold BL
   rw [iter_eq,Fb,if_neg (by simp only;omega),aY,QR Z l g4 (by omega),g7,bi (by omega)]
 | succ n ih=>
   intro l k k2 g1 g2 g3 g4 g5 g6 g7
   have w1:bB (k2+1)=k2+1:=by rw [bl]<;>omega
   have w2:bB (k2 - 1)=k2 - 1:=by rw [bl]<;>omega
   have w3:bB (k+1)=k+1:=by rw [bl]<;>omega
   have Xu:∀ m:Nat,(k0+k2 - 1).toNat≤m→l[m]? =xs[m]?:=by
    intro m hm
    have:=congrArg (fun q:List α=>q[m - (k0+k2 - 1).toNat]?) g6
    simp only [aK] at this
    rw [show (k0+k2 - 1).toNat+(m - (k0+k2 - 1).toNat)=m by omega] at this
    exact this
   have XG:(k0+k2).toNat < xs.length:=by omega
   have e1:Cf l k0 l6.length k2=some xs[(k0+k2).toNat]:=by
    unfold Cf
    rw [if_pos ⟨by omega,by omega,by omega⟩]
    unfold idx
    rw [if_pos (by omega),Xu _ (by omega)];simp [XG]
   have e2:Cf l k0 l6.length (k2 - 1)=some xs[(k0+k2).toNat - 1]:=by
    unfold Cf
    rw [if_pos ⟨by omega,by omega,by omega⟩]
    unfold idx
    rw [if_pos (by omega),Xu _ (by omega),show (k0+(k2 - 1)).toNat=(k0+k2).toNat - 1 by omega,bx (by omega)]
   have Ht:=MX e (xs:=xs) (m:=(k0+k2).toNat) (by omega) XG
   rw [show (k0+k2).toNat+1=(k0+(k2+1)).toNat by omega] at Ht
   unfold BL at ih ⊢
   rw [iter_eq,Fb,if_pos (by simp only;omega)]
   simp only [w2,e1,e2,ac,hf _ (ap XG) _ (ap (show (k0+k2).toNat - 1 < xs.length by omega))]
   unfold Fa
   rw [w1]
   by_cases hc:e xs[(k0+k2).toNat] xs[(k0+k2).toNat - 1]=true
   ·rw [if_pos hc] at Ht
    rw [hc,if_neg (by simp)]
    simp only [ac,bC]
    refine ih l k (k2+1) (by omega) (by omega) g3 g4 (by omega) ?_ (by rw [g7,Ht])
    have:=congrArg (List.drop 1) g6
    rw [bm,bm,show (k0+k2 - 1).toNat+1=(k0+(k2+1) - 1).toNat by omega] at this
    exact this
   ·rw [if_neg hc] at Ht
    rw [ci] at hc
    rw [hc,if_pos (by simp)]
    obtain ⟨y,hy,_,_⟩:=ff l (i:=k) g4 (by omega)
    simp only [hy,ac,bC,w3]
    refine ih (l.set k.toNat _) (k+1) (k2+1) (by omega) (by omega) (by simpa using g3) (by omega) (by omega) ?_ ?_
    ·apply a8
     intro m
     rw [aK,aK,a7 (by omega),Xu _ (by omega)]
    ·rw [Ht,← g7,show (k+1).toNat=k.toNat+1 by omega]
     apply a8
     intro m
     have Ja:k.toNat < l.length:=by omega
     by_cases hm:m < k.toNat
     ·rw [a6,if_pos (by omega),a7 (by omega),cl (by simp;omega),a6,if_pos hm]
     ·by_cases hm2:m=k.toNat
      ·subst hm2
       rw [a6,if_pos (by omega),cm Ja,cn (by simp only [cp];omega)]
       simp [cs (cv Ja)]
      ·rw [aw (by simp;omega),aw (by simp;omega)]
theorem QS {α:Type} (Z:α) (eC:α→α→Option Bool) (e:α→α→Bool) (xs:List α) (hl:(xs.length:Int)≤100000) (hf:∀ x∈xs,∀ y∈xs,eC x y=some (e x y)):UZ Z xs eC=some (dd e xs):=by
 unfold UZ
 by_cases h2:(xs.length:Int) < 2
 ·rw [if_pos h2]
  cases xs with
  | nil=>rfl
  | cons x r=>
    cases r with
    | nil=>rfl
    | cons y r=>simp only [bs] at h2;omega
 ·rw [if_neg h2]
  have key:∀ (n:Nat) (i:Int),1≤i→i+n=xs.length→dd e (xs.take i.toNat)=xs.take i.toNat→BM Z xs eC i=some (dd e xs):=by
   intro n
   induction n with
   | zero=>
     intro i h0 h1 hd
     unfold BM
     rw [iter_eq,Fc,if_neg (by omega),aY]
     rw [bi (by omega)] at hd
     rw [hd]
   | succ n ih=>
     intro i h0 h1 hd
     have w1:bB (i+1)=i+1:=by rw [bl]<;>omega
     have w2:bB (i - 1)=i - 1:=by rw [bl]<;>omega
     have hm:i.toNat < xs.length:=by omega
     have e1:=TI (xs:=xs) (i:=i) (by omega) hm
     have e2:idx xs (i - 1)=some xs[i.toNat - 1]:=by
      unfold idx
      rw [if_pos (by omega),show (i - 1).toNat=i.toNat - 1 by omega,bx (by omega)]
     have Ht:=MX e (xs:=xs) (m:=i.toNat) (by omega) hm
     rw [show i.toNat+1=(i+1).toNat by omega] at Ht
     unfold BM at ih ⊢
     rw [iter_eq,Fc,if_pos (by omega)]
     simp only [w2,e1,e2,ac,hf _ (ap hm) _ (ap (show i.toNat - 1 < xs.length by omega))]
     by_cases hc:e xs[i.toNat] xs[i.toNat - 1]=true
     ·rw [if_pos hc] at Ht
      rw [hc,if_pos rfl,HZ (by omega) (by omega) (by omega)]
      simp only [ac]
      have hlen:((((xs.drop i.toNat).take (((xs.length:Int)).toNat - i.toNat)).length:Nat):Int)=xs.length - i:=by simp;omega
      rw [Ot Z eC e xs hl hf i h0 (by omega) _ hlen n xs i 1 (by omega) (by rw [hlen];omega) rfl (by omega) (by omega) rfl (by rw [Ht,hd])]
      rfl
     ·rw [if_neg hc] at Ht
      rw [ci] at hc
      rw [hc,if_neg (by simp),w1]
      simp only [ac,bC]
      refine ih (i+1) (by omega) (by omega) ?_
      rw [Ht,hd]
      have:=bk (l:=xs) (i:=i.toNat) hm
      rw [this,show i.toNat+1=(i+1).toNat by omega]
  refine key (xs.length - 1) 1 (by omega) (by omega) ?_
  cases xs with
  | nil=>simp at h2
  | cons x r=>rfl
def H6 {α:Type} (n7:Int) (js:List α) (n12:Int):Option (((List α)×Int×Int)⊕(List α)):=
 some (.inl (js,n12,bB (n7+(1:Int))))
def H7 {α:Type} (Z:α) (l5:List α) (n6:Int):Option (List α):=
 (A5 l5 n6 (l5.length:Int)).bind fun yF=>
 (A5 (DM l5 n6 yF.length Z) (0:Int) n6).bind fun yp=>
 some yp
def DR {α:Type} (Z:α) (eC:α→Option Bool) (l5:List α) (n6 n7:Int):Option (((List α)×Int×Int)⊕(List α)):=
 if n7 < (l5.length:Int) then
  (idx l5 n7).bind fun v8=>
  (eC v8).bind fun v10=>
  if (!v10)=true then
   (idx l5 n6).bind fun gy=>
   H6 n7 (l5.set n6.toNat v8) (bB (n6+(1:Int)))
  else
   H6 n7 l5 n6
 else
  af .inr (H7 Z l5 n6)
noncomputable def Wn {α:Type} (Z:α) (aa:List α) (eC:α→Option Bool):Option (List α):=
 (xT aa eC).bind fun v1=>
 if v1=(-1:Int) then
  some aa
 else
  iter (fun x:(List α)×Int×Int=>DR Z eC x.1 x.2.1 x.2.2) (aa,v1,bB (v1+(1:Int)))
theorem TJ {α:Type} (Z:α) (l:List α) {k:Int} (h0:0≤k) (h1:k≤l.length):H7 Z l k=some (l.take k.toNat):=by
 have:=QR Z l h0 h1
 unfold BK at this
 unfold H7
 cases h:A5 l k l.length with
 | none=>rw [h] at this;simp at this
 | some v=>
   rw [h] at this
   simp only [ac] at this ⊢
   cases h2:A5 (DM l k v.length Z) 0 k with
   | none=>rw [h2] at this;simp at this
   | some u=>rw [h2] at this;simpa using this
theorem Da {α:Type} (p:α→Bool) {xs:List α} {m:Nat} (h:m < xs.length):(xs.take (m+1)).filter p=if p xs[m]=true then (xs.take m).filter p++[xs[m]] else (xs.take m).filter p:=by
 rw [← bk h,List.filter_append]
 by_cases hp:p xs[m]=true<;>simp [hp]
theorem QT {α:Type} (Z:α) (eC:α→Option Bool) (p:α→Bool) (xs:List α) (hl:(xs.length:Int)≤100000) (hf:∀ x∈xs,eC x=some (p x)):∀ (n:Nat) (l:List α) (k j:Int),1≤j→j+n=xs.length→l.length=xs.length→0≤k→k < j→l.drop j.toNat=xs.drop j.toNat→l.take k.toNat=(xs.take j.toNat).filter (fun x=>!p x)→
 iter (fun x:(List α)×Int×Int=>DR Z eC x.1 x.2.1 x.2.2) (l,k,j)=some (xs.filter (fun x=>!p x)):=by
 intro n
 induction n with
 | zero=>
   intro l k j g1 g2 g3 g4 g5 g6 g7
   rw [iter_eq,DR,if_neg (by simp only;omega),aY,TJ Z l g4 (by omega),g7,bi (by omega)]
 | succ n ih=>
   intro l k j g1 g2 g3 g4 g5 g6 g7
   have w1:bB (j+1)=j+1:=by rw [bl]<;>omega
   have w3:bB (k+1)=k+1:=by rw [bl]<;>omega
   have hm:j.toNat < xs.length:=by omega
   have Xu:∀ m:Nat,j.toNat≤m→l[m]? =xs[m]?:=by
    intro m hm
    have:=congrArg (fun q:List α=>q[m - j.toNat]?) g6
    simp only [aK] at this
    rw [show j.toNat+(m - j.toNat)=m by omega] at this
    exact this
   have e1:idx l j=some xs[j.toNat]:=by
    unfold idx;rw [if_pos (by omega),Xu _ (Nat.le_refl _)];simp [hm]
   have QU:=Da (fun x=>!p x) hm
   rw [show j.toNat+1=(j+1).toNat by omega] at QU
   have Wo:l.drop (j+1).toNat=xs.drop (j+1).toNat:=by
    have:=congrArg (List.drop 1) g6
    rw [bm,bm,show j.toNat+1=(j+1).toNat by omega] at this
    exact this
   rw [iter_eq,DR,if_pos (by simp only;omega)]
   simp only [e1,ac,hf _ (ap hm)]
   unfold H6
   rw [w1]
   cases hp:p xs[j.toNat] with
   | true=>
     rw [hp] at QU
     simp only [cy,bo,if_false] at QU ⊢
     simp only [ac,bC]
     exact ih l k (j+1) (by omega) (by omega) g3 g4 (by omega) Wo (by rw [g7,QU])
   | false=>
     rw [hp] at QU
     simp only [Bool.not_false,if_true] at QU ⊢
     obtain ⟨y,hy,_,_⟩:=ff l (i:=k) g4 (by omega)
     simp only [hy,ac,bC,w3]
     refine ih (l.set k.toNat _) (k+1) (j+1) (by omega) (by omega) (by simpa using g3) (by omega) (by omega) ?_ ?_
     ·apply a8
      intro m
      rw [aK,aK,a7 (by omega),Xu _ (by omega)]
     ·rw [QU,← g7,show (k+1).toNat=k.toNat+1 by omega]
      apply a8
      intro m
      have Ja:k.toNat < l.length:=by omega
      by_cases hm:m < k.toNat
      ·rw [a6,if_pos (by omega),a7 (by omega),cl (by simp;omega),a6,if_pos hm]
      ·by_cases hm2:m=k.toNat
       ·subst hm2
        rw [a6,if_pos (by omega),cm Ja,cn (by simp only [cp];omega)]
        simp [cs (cv Ja)]
       ·rw [aw (by simp;omega),aw (by simp;omega)]
theorem zm {α:Type} (p:α→Bool):∀ (xs:List α) (i:Int),0≤i→(lM p xs i=-1∧∀ x∈xs,p x=false)∨(i≤lM p xs i∧lM p xs i < i+xs.length∧(∀ x∈xs.take (lM p xs i - i).toNat,p x=false)∧∃ y,xs[(lM p xs i - i).toNat]? =some y∧p y=true)
 | [],i,h=>.inl ⟨rfl,by simp⟩
 | x :: r,i,h=>by
   by_cases hp:p x=true
   ·have e:lM p (x :: r) i=i:=by simp [lM,hp]
    rw [e]
    exact .inr ⟨by omega,by simp;omega,by simp,x,by simp,hp⟩
   ·have e:lM p (x :: r) i=lM p r (i+1):=by simp [lM,hp]
    rw [e]
    have cL:p x=false:=by simpa using hp
    rcases zm p r (i+1) (by omega) with ⟨h1,h2⟩ | ⟨h1,h2,h3,y,h4,h5⟩
    ·exact .inl ⟨h1,fun y hy=>by rcases ag.1 hy with rfl | hy;exact cL;exact h2 y hy⟩
    ·have e:(lM p r (i+1) - i).toNat=(lM p r (i+1) - (i+1)).toNat+1:=by omega
     refine .inr ⟨by omega,by simp;omega,?_,y,?_,h5⟩
     ·rw [e]
      intro y hy
      rw [List.take_succ_cons] at hy
      rcases ag.1 hy with rfl | hy
      ·exact cL
      ·exact h3 y hy
     ·rw [e,List.getElem?_cons_succ];exact h4
theorem MY {α:Type} (Z:α) (eC:α→Option Bool) (p:α→Bool) (xs:List α) (hl:(xs.length:Int)≤100000) (hf:∀ x∈xs,eC x=some (p x)):Wn Z xs eC=some (xs.filter (fun x=>!p x)):=by
 unfold Wn
 rw [qM xs eC p hf (by omega)]
 simp only [ac]
 rcases zm p xs 0 (by omega) with ⟨h1,h2⟩ | ⟨h1,h2,h3,y,h4,h5⟩
 ·rw [if_pos h1]
  congr 1
  exact (cz.2 (fun x hx=>by simp [h2 x hx])).symm
 ·generalize lM p xs 0=v at *
  simp only [Int.sub_zero] at h3 h4 h5
  rw [if_neg (by omega),bl (by omega) (by omega)]
  refine QT Z eC p xs hl hf (xs.length - (v+1).toNat) xs v (v+1) (by omega) (by omega) rfl h1 (by omega) rfl ?_
  obtain ⟨h4',abW⟩:=List.getElem?_eq_some_iff.1 h4
  have QU:=Da (fun x=>!p x) h4'
  rw [show v.toNat+1=(v+1).toNat by omega,abW] at QU
  rw [QU,h5]
  simp only [cy,bo,if_false]
  exact (cz.2 (fun x hx=>by simp [h3 x hx])).symm
structure uj {α:Type} (c:α→α→Int):Prop where
 neg:∀ a b,c a b=- c b a
 tr:∀ {a b d},c a b < 0→c b d < 0→c a d < 0
 cg:∀ {a b d},c a b=0→c b d < 0→c a d < 0
theorem uj.zero {α:Type} {c:α→α→Int} (h:uj c) (a:α):c a a=0:=by have:=h.neg a a;omega
theorem uj.cg' {α:Type} {c:α→α→Int} (h:uj c) {a b d:α} (h0:c a b=0) (h1:c d a < 0):c d b < 0:=by
 have n1:=h.neg d b
 have n2:=h.neg a b
 have n3:=h.neg d a
 by_cases e:c d b=0
 ·have:=h.cg e (d:=a)
  by_cases k:c b a < 0
  ·omega
  ·have e2:c b d=0:=by have:=h.neg b d;omega
   have:=h.cg e2 (d:=a) h1
   omega
 ·by_cases k:c d b < 0
  ·exact k
  ·have k1:c b d < 0:=by omega
   have k2:=h.tr k1 h1
   omega
theorem uj.lex {α:Type} {c1 c2:α→α→Int} (h1:uj c1) (h2:uj c2):uj (fun a b=>if c1 a b≠0 then c1 a b else c2 a b):=by
 refine ⟨fun a b=>?_,fun {a b d}=>?_,fun {a b d}=>?_⟩
 ·have n1:=h1.neg a b;have n2:=h2.neg a b
  repeat' split
  all_goals omega
 ·intro k1 k2
  by_cases e1:c1 a b=0
  ·by_cases e2:c1 b d=0
   ·have e3:c1 a d=0:=by
     have n1:=h1.neg a d
     have n2:=h1.neg b d
     have n3:=h1.neg a b
     by_cases k:c1 a d < 0
     ·have:=h1.cg (a:=b) (b:=a) (d:=d) (by omega) k;omega
     ·by_cases k':c1 d a < 0
      ·have:=h1.cg' (a:=a) (b:=b) (d:=d) e1 k';omega
      ·omega
    rw [if_neg (by simpa using e1)] at k1
    rw [if_neg (by simpa using e2)] at k2
    rw [if_neg (by simpa using e3)]
    exact h2.tr k1 k2
   ·rw [if_pos e2] at k2
    have:=h1.cg e1 k2
    rw [if_pos (by omega)];exact this
  ·rw [if_pos e1] at k1
   by_cases e2:c1 b d=0
   ·have:=h1.cg' e2 k1
    rw [if_pos (by omega)];exact this
   ·rw [if_pos e2] at k2
    have:=h1.tr k1 k2
    rw [if_pos (by omega)];exact this
 ·intro k1 k2
  by_cases e1:c1 a b=0
  ·rw [if_neg (by simpa using e1)] at k1
   by_cases e2:c1 b d=0
   ·have e3:c1 a d=0:=by
     have n1:=h1.neg a d
     have n2:=h1.neg b d
     have n3:=h1.neg a b
     by_cases k:c1 a d < 0
     ·have:=h1.cg (a:=b) (b:=a) (d:=d) (by omega) k;omega
     ·by_cases k':c1 d a < 0
      ·have:=h1.cg' (a:=a) (b:=b) (d:=d) e1 k';omega
      ·omega
    rw [if_neg (by simpa using e2)] at k2
    rw [if_neg (by simpa using e3)]
    exact h2.cg k1 k2
   ·rw [if_pos e2] at k2
    have:=h1.cg e1 k2
    rw [if_pos (by omega)];exact this
  ·rw [if_pos e1] at k1;exact absurd k1 e1
theorem uj.on {α β:Type} {c:α→α→Int} (h:uj c) (f:β→α):uj (fun a b=>c (f a) (f b)):=
 ⟨fun a b=>h.neg _ _,fun h1 h2=>h.tr h1 h2,fun h1 h2=>h.cg h1 h2⟩
theorem zn:uj er:=by
 refine ⟨fun a b=>?_,fun {a b d}=>?_,fun {a b d}=>?_⟩<;>unfold er<;>repeat' split
 all_goals omega
theorem MZ:∀ {a b c:List UInt8},Lib.compareBytes a b < 0→Lib.compareBytes b c < 0→Lib.compareBytes a c < 0
 | [],[],c,h1,h2=>by simp [Lib.compareBytes] at h1
 | [],_ :: _,[],h1,h2=>by simp [Lib.compareBytes] at h2
 | [],_ :: _,_ :: _,h1,h2=>by simp [Lib.compareBytes]
 | _ :: _,[],c,h1,h2=>by simp [Lib.compareBytes] at h1
 | _ :: _,_ :: _,[],h1,h2=>by simp [Lib.compareBytes] at h2
 | a :: la,b :: lb,c :: lc,h1,h2=>by
   simp only [Lib.compareBytes] at h1 h2 ⊢
   rcases Ct a b with h | h | h
   ·rcases Ct b c with k | k | k
    ·rw [if_pos (UInt8.lt_trans h k)];omega
    ·subst k;rw [if_pos h];omega
    ·rw [if_neg (xl k),if_pos k] at h2;omega
   ·subst h
    rcases Ct a c with k | k | k
    ·rw [if_pos k];omega
    ·subst k
     rw [if_neg (by simp),if_neg (by simp)] at h1 h2 ⊢
     exact MZ h1 h2
    ·rw [if_neg (xl k),if_pos k] at h2;omega
   ·rw [if_neg (xl h),if_pos h] at h1;omega
theorem Cv:uj Lib.compareBytes:=⟨E9,MZ,fun h1 h2=>by rw [xm h1];exact h2⟩
theorem zR {a b:Int} (h:er a b=0):a=b:=by
 unfold er at h
 repeat' split at h
 all_goals omega
theorem uj.ord {α:Type} {c:α→α→Int} (h:uj c) (xs:List α):Cu c xs:=by
 refine ⟨fun x _ k=>?_,fun x _ y _ z _ h1 h2=>h.tr h1 h2,fun x _ y _ z _ h1 h2 h3=>?_⟩
 ·have:=h.zero x;omega
 ·have n1:=h.neg x y
  have n2:=h.neg y z
  by_cases h4:c x y=0
  ·have h5:c y x=0:=by omega
   exact h2 (h.cg h5 h3)
  ·have:c y x < 0:=by omega
   exact h2 (h.tr this h3)
def mU {α:Type} (xs:List α) (i:Int):Option α:=if i≤0 then none else idx xs (i - 1)
def yk {α:Type} (st:Option α→α→Int):Option α→List α→Int
 | _,[]=>0
 | p,s :: r=>if st p s=0 then yk st (some s) r else st p s
theorem GS {α:Type} (st:Option α→α→Int) (xs:List α) (f:Int→Option (Int⊕Int)) (hf:∀ {i:Int} {s:α},0≤i→i < xs.length→idx xs i=some s→f i=some (if st (mU xs i) s=0 then .inl (i+1) else .inr (st (mU xs i) s)))
 (he:f xs.length=some (.inr 0)):∀ (n:Nat) (i:Int),0≤i→i+n=xs.length→iter f i=some (yk st (mU xs i) (xs.drop i.toNat))
 | 0,i,h0,hn=>by
   obtain rfl:i=xs.length:=by omega
   rw [iter_eq,he,be (by omega)];rfl
 | n+1,i,h0,hn=>by
   obtain ⟨s,hs,_,hd⟩:=ff xs h0 (by omega)
   rw [iter_eq,hf h0 (by omega) hs,hd]
   simp only [ac,yk]
   split
   ·have hp:mU xs (i+1)=some s:=by unfold mU;rw [if_neg (by omega),show i+1 - 1=i by omega,hs]
    have:=GS st xs f hf he n (i+1) (by omega) (by omega)
    rw [bC,this,hp]
   ·rfl
theorem Fe {α:Type} (st:Option α→α→Int) (xs:List α) (f:Int→Option (Int⊕Int)) (hf:∀ {i:Int} {s:α},0≤i→i < xs.length→idx xs i=some s→f i=some (if st (mU xs i) s=0 then .inl (i+1) else .inr (st (mU xs i) s)))
 (he:f xs.length=some (.inr 0)):iter f 0=some (yk st none xs):=by
 rw [GS st xs f hf he xs.length 0 (by omega) (by omega)];rfl
theorem wH {α:Type} {n:Nat} {m:Option (List α)} {Z:List α} (h:m=some Z) (hl:Z.length=n):pb n (fun r:List α=>r.length) m=some Z:=by
 rw [h];unfold pb
 simp only [ac]
 rw [if_pos hl]
end Go.Beacon
set_option linter.unusedSectionVars false
namespace Go.Beacon
open Go Go.Eng
class Cw (K:Type) [wJ K]:Prop where
 LR:∀ a:K,wJ.lt a a=false
 tr:∀ {a b c:K},wJ.lt a b=true→wJ.lt b c=true→wJ.lt a c=true
 Xv:∀ a b:K,wJ.lt a b=true∨a=b∨wJ.lt b a=true
instance:Cw Int where
 LR a:=by show decide (a < a)=false;simp
 tr {a b c} h1 h2:=by
  have h1:decide (a < b)=true:=h1
  have h2:decide (b < c)=true:=h2
  show decide (a < c)=true
  simp only [decide_eq_true_eq] at *;omega
 Xv a b:=by
  show decide (a < b)=true∨a=b∨decide (b < a)=true
  simp only [decide_eq_true_eq];omega
instance:Cw Bool where
 LR a:=by cases a<;>rfl
 tr {a b c} h1 h2:=by revert h1 h2;cases a<;>cases b<;>cases c<;>decide
 Xv a b:=by cases a<;>cases b<;>decide
instance:Cw (List UInt8) where
 LR a:=by
  show Op.bytesLess a a=false
  rw [xn,xk];rfl
 tr {a b c} h1 h2:=by
  have h1:Op.bytesLess a b=true:=h1
  have h2:Op.bytesLess b c=true:=h2
  show Op.bytesLess a c=true
  rw [xn,decide_eq_true_eq] at *
  exact Cv.tr h1 h2
 Xv a b:=by
  show Op.bytesLess a b=true∨a=b∨Op.bytesLess b a=true
  rw [xn,xn,decide_eq_true_eq,decide_eq_true_eq]
  rcases Int.lt_trichotomy (Lib.compareBytes a b) 0 with h | h | h
  ·exact .inl h
  ·exact .inr (.inl (xm h))
  ·exact .inr (.inr (by have:=Cv.neg a b;omega))
section
variable {K V:Type} [DecidableEq K]
theorem zo (k:K):bc ([]:List (K×V)) k=none:=rfl
theorem iF (e:K×V) (m:List (K×V)) (k:K):bc (e :: m) k=if e.1=k then some e.2 else bc m k:=rfl
theorem Cx (m:List (K×V)) (k k':K):bc (mG m k) k'=if k=k' then none else bc m k':=by
 induction m with
 | nil=>simp [mG,bc]
 | cons e r ih=>
   unfold mG at ih ⊢
   rw [List.filter_cons]
   by_cases h:e.1=k
   ·rw [if_neg (by simp [h]),ih,iF]
    by_cases h2:k=k'
    ·rw [if_pos h2,if_pos h2]
    ·rw [if_neg h2,if_neg h2,if_neg (by rw [h];exact h2)]
   ·rw [if_pos (by simp [h]),iF,ih,iF]
    by_cases h2:k=k'
    ·rw [if_pos h2,if_pos h2,if_neg (by rw [← h2];exact h)]
    ·rw [if_neg h2,if_neg h2]
variable [wJ K]
theorem GU (k:K) (v:V) (k':K):∀ (m:List (K×V)),bc m k=none→bc (wY k v m) k'=if k=k' then some v else bc m k'
 | [],_=>by simp [wY,bc]
 | e :: r,h=>by
   rw [iF] at h
   have h1:e.1≠k:=fun he=>by rw [if_pos he] at h;cases h
   rw [if_neg h1] at h
   unfold wY
   split
   ·rw [iF,GU k v k' r h,iF]
    by_cases h2:k=k'
    ·rw [if_pos h2,if_pos h2,if_neg (by rw [← h2];exact h1)]
    ·rw [if_neg h2,if_neg h2]
   ·rw [iF]
theorem iG (m:List (K×V)) (k:K) (v:V) (k':K):bc (bW m k v) k'=if k=k' then some v else bc m k':=by
 unfold bW
 rw [GU k v k' _ (by rw [Cx,if_pos rfl]),Cx]
 by_cases h:k=k'
 ·rw [if_pos h,if_pos h]
 ·rw [if_neg h,if_neg h,if_neg h]
def SM (m:List (K×V)):Prop:=m.Pairwise (fun a b=>wJ.lt a.1 b.1=true)
theorem SM.nil:SM ([]:List (K×V)):=List.Pairwise.nil
theorem SM.del {m:List (K×V)} (h:SM m) (k:K):SM (mG m k):=List.Pairwise.filter _ h
variable [Cw K]
theorem SM.ne {m:List (K×V)} (h:SM m):m.Pairwise (fun a b=>a.1≠b.1):=
 List.Pairwise.imp (fun {a b} h e=>by rw [e,Cw.LR] at h;cases h) h
theorem SM.nodup {m:List (K×V)} (h:SM m):(m.map Prod.fst).Nodup:=by
 unfold List.Nodup
 rw [cc]
 exact SM.ne h
theorem M1 (k:K) (v:V):∀ {m:List (K×V)},SM m→bc m k=none→SM (wY k v m)
 | [],_,_=>by unfold wY SM;simp
 | e :: r,h,hn=>by
   have h':=ad.1 h
   rw [iF] at hn
   have h1:e.1≠k:=fun he=>by rw [if_pos he] at hn;cases hn
   rw [if_neg h1] at hn
   unfold wY
   split
   ·rename_i iW
    refine ad.2 ⟨fun z hz=>?_,M1 k v h'.2 hn⟩
    rcases ag.1 ((sU k v r).mem_iff.1 hz) with rfl | hz
    ·exact iW
    ·exact h'.1 z hz
   ·rename_i iW
    have hke:wJ.lt k e.1=true:=by
     rcases Cw.Xv k e.1 with h | h | h
     ·exact h
     ·exact absurd h.symm h1
     ·exact absurd h iW
    refine ad.2 ⟨fun z hz=>?_,h⟩
    rcases ag.1 hz with rfl | hz
    ·exact hke
    ·exact Cw.tr hke (h'.1 z hz)
theorem SM.set {m:List (K×V)} (h:SM m) (k:K) (v:V):SM (bW m k v):=
 M1 k v (h.del k) (by rw [Cx,if_pos rfl])
theorem SM.DS {m:List (K×V)} (h:SM m) {k:K} {v:V}:bc m k=some v↔(k,v)∈m:=
 ⟨Eo,tW h.nodup⟩
theorem SM.none_lt {e:K×V} {m:List (K×V)} (h:SM (e :: m)) {k:K} (hk:wJ.lt k e.1=true):bc (e :: m) k=none:=by
 rw [pS]
 intro z hz he
 have h':=ad.1 h
 have hkz:wJ.lt k z.1=true:=by
  rcases ag.1 hz with rfl | hz
  ·exact hk
  ·exact Cw.tr hk (h'.1 z hz)
 rw [he,Cw.LR] at hkz;cases hkz
theorem DT:∀ {m m':List (K×V)},SM m→SM m'→(∀ k,bc m k=bc m' k)→m=m'
 | [],[],_,_,_=>rfl
 | [],y :: B,_,_,h=>by have:=h y.1;rw [zo,iF,if_pos rfl] at this;cases this
 | x :: A,[],_,_,h=>by have:=h x.1;rw [zo,iF,if_pos rfl] at this;cases this
 | x :: A,y :: B,h1,h2,h=>by
   have DX:=ad.1 h1
   have NB:=ad.1 h2
   have Hh:x.1=y.1:=by
    rcases Cw.Xv x.1 y.1 with c | c | c
    ·have e:=h x.1
     rw [iF,if_pos rfl,h2.none_lt c] at e;cases e
    ·exact c
    ·have e:=h y.1
     rw [iF y,if_pos rfl,h1.none_lt c] at e;cases e
   have e:=h x.1
   rw [iF,if_pos rfl,iF,if_pos Hh.symm] at e
   have hx:x=y:=Prod.ext Hh (Option.some.inj e)
   subst hx
   rw [DT DX.2 NB.2 (fun k=>?_)]
   have:=h k
   rw [iF,iF] at this
   by_cases hk:x.1=k
   ·subst hk
    have a1:bc A x.1=none:=pS.2 fun z hz he=>by have:=DX.1 z hz;rw [he,Cw.LR] at this;cases this
    have a2:bc B x.1=none:=pS.2 fun z hz he=>by have:=NB.1 z hz;rw [he,Cw.LR] at this;cases this
    rw [a1,a2]
   ·rw [if_neg hk,if_neg hk] at this;exact this
theorem Ff (k:K) (v:V) (m:List (K×V)):(wY k v m).length=m.length+1:=by
 have:=(sU k v m).length_eq;simpa using this
theorem H8 {m:List (K×V)} (h:SM m) {k:K} {v:V} (hk:bc m k=some v):(mG m k).length+1=m.length:=by
 have hp:(bW m k v).Perm m:=by
  have:bW m k v=m:=DT (h.set k v) h (fun k'=>by
   rw [iG];split
   ·rename_i e;subst e;exact hk.symm
   ·rfl)
  rw [this]
 have:=hp.length_eq
 unfold bW at this;rw [Ff] at this;exact this
theorem xW {m:List (K×V)} {k:K} {v:V} (hk:bc m k=none):(bW m k v).length=m.length+1:=by
 unfold bW;rw [Ff,wZ hk]
theorem H9 {m:List (K×V)} (h:SM m) {k:K} {v u:V} (hk:bc m k=some u):(bW m k v).length=m.length:=by
 unfold bW;rw [Ff];exact H8 h hk
end
section
variable {E S A:Type}
theorem GV (b:E→S→Option (S⊕A)) (f:S→Option A) (es:List E) (r:A) (Inv:List E→S→Prop)
 (hs:∀ done e rest s,(done++e :: rest).Perm es→Inv done s→(∃ s',b e s=some (.inl s')∧Inv (done++[e]) s')∨b e s=some (.inr r))
 (hf:∀ p s,p.Perm es→Inv p s→f s=some r):∀ (rest done:List E) (s:S),(done++rest).Perm es→Inv done s→vQ b f rest s=some r
 | [],done,s,hp,hi=>hf done s (by simpa using hp) hi
 | e :: rest,done,s,hp,hi=>by
   show (b e s).bind (after (vQ b f rest))=some r
   rcases hs done e rest s hp hi with ⟨s',h1,h2⟩ | h1
   ·rw [h1]
    simp only [ac,bC]
    exact GV b f es r Inv hs hf rest (done++[e]) s' (by simpa using hp) h2
   ·rw [h1];rfl
theorem Ou (b:E→S→Option (S⊕A)) (f:S→Option A) (es:List E) (s0:S) (r:A) (Inv:List E→S→Prop) (h0:Inv [] s0)
 (hs:∀ done e rest s,(done++e :: rest).Perm es→Inv done s→(∃ s',b e s=some (.inl s')∧Inv (done++[e]) s')∨b e s=some (.inr r))
 (hf:∀ p s,p.Perm es→Inv p s→f s=some r):Ep es (fun p=>vQ b f p s0)=some r:=
 P4 fun p hp=>GV b f es r Inv hs hf p [] s0 (by simpa using hp) h0
end
end Go.Beacon
