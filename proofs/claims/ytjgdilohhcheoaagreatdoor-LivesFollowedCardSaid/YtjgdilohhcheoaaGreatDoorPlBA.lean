/- Plain facts on what the functions compute. No program in sight. -/
import Derived.Test.YtjgdilohhcheoaaGreatDoorCore
set_option linter.unusedVariables false
namespace Go.Beacon
open Go Go.Eng
theorem cG {x:Int} (h1:-9223372036854775808≤x) (h2:x≤9223372036854775807):aZ x=x:=uW ⟨h1,h2⟩
theorem MY {a b:Int} (h:0 < b) (h0:0≤a):rem a b=some (a % b):=by
 unfold rem
 rw [if_neg (by omega),Int.tmod_eq_emod_of_nonneg h0]
theorem Pd {a b:Int} (h:b≠0):rem a b=some (a.tmod b):=by unfold rem;rw [if_neg h]
theorem Pe {a b:Int} (h:b≠0):quo a b=some (aZ (a.tdiv b)):=by unfold quo;rw [if_neg h]
theorem lC {α:Type} (xs:List α) {i:Int} (h0:0≤i) (h1:i < xs.length):∃ x,idx xs i=some x∧x∈xs∧xs.drop i.toNat=x :: xs.drop (i+1).toNat:=by
 have h:i.toNat < xs.length:=by omega
 refine ⟨xs[i.toNat],by unfold idx;rw [if_pos h0];simp [h],List.getElem_mem h,?_⟩
 rw [show (i+1).toNat=i.toNat+1 by omega]
 exact List.drop_eq_getElem_cons h
theorem dz {α:Type} {xs:List α} {i:Int} {x:α} (h:idx xs i=some x):x∈xs:=List.mem_of_getElem? (ep h).2.2
theorem rb {α:Type} {xs ys:List α} (h:xs.length+ys.length≤1000000000):app xs ys=some (xs++ys):=by unfold app;rw [if_pos h]
theorem yn {α:Type} {xs:List α} {l h:Int} (h0:0≤l) (h1:l≤h) (h2:h≤xs.length):zY xs l h=some ((xs.drop l.toNat).take (h.toNat - l.toNat)):=by
 unfold zY;rw [if_pos ⟨h0,h1,h2⟩]
def AP {α σ A:Type} (step:σ→α→Int→Option (σ⊕A)) (fin:σ→Int→Option A):List α→σ→Int→Option A
 | [],s,i=>fin s i
 | x :: r,s,i=>match step s x i with
   | none=>none
   | some (.inl s')=>AP step fin r s' (i+1)
   | some (.inr a)=>some a
theorem AR {α σ A X:Type} (xs:List α) (mk:σ→Int→X) (f:X→Option (X⊕A)) (step:σ→α→Int→Option (σ⊕A)) (fin:σ→Int→Option A)
 (h1:∀ s (i:Int) x,0≤i→i < xs.length→idx xs i=some x→f (mk s i)=(step s x i).map (Sum.map (fun s'=>mk s' (i+1)) id))
 (h2:∀ s,f (mk s xs.length)=(fin s xs.length).map .inr):∀ (n:Nat) (s:σ) (i:Int),0≤i→i+n=xs.length→iter f (mk s i)=AP step fin (xs.drop i.toNat) s i
 | 0,s,i,h0,hn=>by
   have hi:i=xs.length:=by omega
   subst hi
   rw [iter_eq,h2,ec]
   simp [AP]
 | n+1,s,i,h0,hn=>by
   obtain ⟨x,hx,_,hd⟩:=lC xs h0 (by omega)
   rw [iter_eq,h1 s i x h0 (by omega) hx,hd]
   simp only [AP]
   cases yC:step s x i with
   | none=>rfl
   | some u=>
     cases u with
     | inl s'=>exact AR xs mk f step fin h1 h2 n s' (i+1) (by omega) (by omega)
     | inr a=>rfl
theorem EX {α σ A X:Type} (xs:List α) (mk:σ→Int→X) (f:X→Option (X⊕A)) (step:σ→α→Int→Option (σ⊕A)) (fin:σ→Int→Option A)
 (h1:∀ s (i:Int) x,0≤i→i < xs.length→idx xs i=some x→f (mk s i)=(step s x i).map (Sum.map (fun s'=>mk s' (i+1)) id))
 (h2:∀ s,f (mk s xs.length)=(fin s xs.length).map .inr) (s:σ):iter f (mk s 0)=AP step fin xs s 0:=
 AR xs mk f step fin h1 h2 xs.length s 0 (by omega) (by omega)
def re {α A:Type} (g:α→Option A) (e:A):List α→A
 | []=>e
 | x :: r=>match g x with
   | some a=>a
   | none=>re g e r
theorem vl {α A:Type} (xs:List α) (f:Int→Option (Int⊕A)) (g:α→Option A) (e:A) (hlen:(xs.length:Int)≤4611686018427387904)
 (h1:∀ (i:Int) x,0≤i→i < xs.length→idx xs i=some x→f i=match g x with | some a=>some (.inr a) | none=>some (.inl (i+1)))
 (h2:f xs.length=some (.inr e)):iter f 0=some (re g e xs):=by
 have h:=EX xs (fun (_:Unit) i=>i) f (fun _ x _=>match g x with | some a=>some (.inr a) | none=>some (.inl ())) (fun _ _=>some e)
  (fun s i x h0 h3 h4=>by rw [h1 i x h0 h3 h4];cases g x<;>rfl) (fun s=>by rw [h2];rfl) ()
 rw [h]
 clear h h1 h2 hlen
 suffices ∀ (xs:List α) (i:Int),AP (fun (_:Unit) x _=>match g x with | some a=>some (.inr a) | none=>some (.inl ())) (fun _ _=>some e) xs () i=some (re g e xs) from this xs 0
 intro xs
 induction xs with
 | nil=>intro i;rfl
 | cons x r ih=>
   intro i
   simp only [AP,re]
   cases g x with
   | none=>exact ih (i+1)
   | some a=>rfl
theorem AS {α:Type} (p:α→Bool):∀ (xs:List α),re (fun x=>if p x=true then none else some false) true xs=xs.all p
 | []=>rfl
 | x :: r=>by
   simp only [re,List.all_cons]
   cases hp:p x<;>simp [AS p r]
end Go.Beacon
set_option linter.unusedSimpArgs false
namespace Go.Beacon
open Go Go.Eng
def vm {α:Type} [DecidableEq α] (xs ys:List α) (i:Int):Option (Int⊕Bool):=
 if i < (xs.length:Int) then
  (idx xs i).bind fun v3=>
  (idx ys i).bind fun v4=>
  if v3≠v4 then
   Option.map .inr (some false)
  else
   some (.inl (aZ (i+(1:Int))))
 else
  Option.map .inr (some true)
noncomputable def Kz {α:Type} [DecidableEq α] (xs ys:List α):Option Bool:=
 if (xs.length:Int)≠(ys.length:Int) then
  some false
 else
  iter (fun x:Int=>vm xs ys x) 0
theorem yR {α:Type} [DecidableEq α] (xs ys:List α) (hl:xs.length=ys.length) (hb:(xs.length:Int)≤4611686018427387904):∀ (n:Nat) (i:Int),0≤i→i+n=xs.length→
 iter (fun x:Int=>vm xs ys x) i=some (decide (xs.drop i.toNat=ys.drop i.toNat))
 | 0,i,h0,hn=>by
   rw [iter_eq,vm,if_neg (by omega),List.drop_of_length_le (by omega),List.drop_of_length_le (by omega)];simp
 | n+1,i,h0,hn=>by
   obtain ⟨x,hx,_,hd⟩:=lC xs h0 (by omega)
   obtain ⟨y,hy,_,vu⟩:=lC ys h0 (by omega)
   rw [iter_eq,vm,if_pos (by omega),hx,hy,hd,vu]
   simp only [Option.bind_some]
   by_cases Ht:x=y
   ·subst Ht
    rw [if_neg (by simp)]
    simp only [Option.bind_some,jf]
    rw [cG (by omega) (by omega)]
    have:=yR xs ys hl hb n (i+1) (by omega) (by omega)
    rw [this];simp
   ·rw [if_pos Ht];simp [Ht]
theorem Cn {α:Type} [DecidableEq α] (xs ys:List α) (hb:(xs.length:Int)≤4611686018427387904):Kz xs ys=some (decide (xs=ys)):=by
 unfold Kz
 by_cases h:xs.length=ys.length
 ·rw [if_neg (by omega),yR xs ys h hb xs.length 0 (by omega) (by omega)];simp
 ·rw [if_pos (by omega),decide_eq_false (fun e=>h (by rw [e]))]
def pe {α:Type} (xs:List α) (f:α→Option Bool) (i:Int):Option (Int⊕Int):=
 if i < (xs.length:Int) then
  (idx xs i).bind fun v3=>
  (f v3).bind fun v4=>
  if v4=true then
   Option.map .inr (some i)
  else
   some (.inl (aZ (i+(1:Int))))
 else
  Option.map .inr (some (-1:Int))
noncomputable def tt {α:Type} (xs:List α) (f:α→Option Bool):Option Int:=iter (fun x:Int=>pe xs f x) 0
noncomputable def vP {α:Type} (xs:List α) (f:α→Option Bool):Option Bool:=(tt xs f).bind fun v1=>some (decide ((0:Int)≤v1))
def ib {α:Type} (p:α→Bool):List α→Int→Int
 | [],_=>-1
 | x :: r,i=>if p x=true then i else ib p r (i+1)
theorem Cp {α:Type} (p:α→Bool):∀ (xs:List α) (i:Int),0≤i→(0≤ib p xs i↔xs.any p=true)
 | [],i,h=>by simp [ib]
 | x :: r,i,h=>by
   have:=Cp p r (i+1) (by omega)
   simp only [ib,List.any_cons,Bool.or_eq_true]
   split
   ·rename_i hp;simp [hp,h]
   ·rename_i hp
    have bZ:p x=false:=by simpa using hp
    simp only [bZ,Bool.false_eq_true,false_or];exact this
theorem tD {α:Type} (xs:List α) (f:α→Option Bool) (p:α→Bool) (hf:∀ x∈xs,f x=some (p x)) (hb:(xs.length:Int)≤4611686018427387904):∀ (n:Nat) (i:Int),0≤i→i+n=xs.length→
 iter (fun x:Int=>pe xs f x) i=some (ib p (xs.drop i.toNat) i)
 | 0,i,h0,hn=>by
   rw [iter_eq,pe,if_neg (by omega),List.drop_of_length_le (by omega)];rfl
 | n+1,i,h0,hn=>by
   obtain ⟨x,hx,hm,hd⟩:=lC xs h0 (by omega)
   rw [iter_eq,pe,if_pos (by omega),hx,hd]
   simp only [Option.bind_some,hf x hm,ib]
   split
   ·rfl
   ·simp only [Option.bind_some,jf]
    rw [cG (by omega) (by omega)]
    exact tD xs f p hf hb n (i+1) (by omega) (by omega)
theorem jE {α:Type} (xs:List α) (f:α→Option Bool) (p:α→Bool) (hf:∀ x∈xs,f x=some (p x)) (hb:(xs.length:Int)≤4611686018427387904):tt xs f=some (ib p xs 0):=by
 unfold tt
 rw [tD xs f p hf hb xs.length 0 (by omega) (by omega)];simp
theorem o0 {α:Type} (xs:List α) (f:α→Option Bool) (p:α→Bool) (hf:∀ x∈xs,f x=some (p x)) (hb:(xs.length:Int)≤4611686018427387904):vP xs f=some (xs.any p):=by
 unfold vP
 rw [jE xs f p hf hb]
 simp only [Option.bind_some,Option.some.injEq]
 rw [Bool.eq_iff_iff,decide_eq_true_eq]
 exact Cp p xs 0 (by omega)
def Dg (xs:List Int) (i:Int):Option (Int⊕Int):=
 if i < (xs.length:Int) then
  (idx xs i).bind fun v3=>
  if v3≠(0:Int) then
   Option.map .inr (some v3)
  else
   some (.inl (aZ (i+(1:Int))))
 else
  Option.map .inr (some (0:Int))
noncomputable def ZM (xs:List Int):Option Int:=iter (fun x:Int=>Dg xs x) 0
def Dh:List Int→Int
 | []=>0
 | x :: r=>if x≠0 then x else Dh r
theorem Ga (xs:List Int) (hb:(xs.length:Int)≤4611686018427387904):ZM xs=some (Dh xs):=by
 unfold ZM
 rw [vl xs (fun x:Int=>Dg xs x) (fun x=>if x≠0 then some x else none) 0 hb]
 ·congr 1
  clear hb
  induction xs with
  | nil=>rfl
  | cons x r ih=>
    simp only [re,Dh]
    by_cases h:x=0
    ·subst h;simpa using ih
    ·simp [h]
 ·intro i x h0 h1 hx
  unfold Dg
  rw [if_pos h1,hx]
  simp only [Option.bind_some]
  by_cases h:x=0
  ·rw [cG (by omega) (by omega)];simp [h]
  ·simp [h]
 ·unfold Dg;rw [if_neg (by omega)];rfl
def Di (a b:Int):Int:=if a < b then -1 else if b < a then 1 else 0
theorem mD:∀ l:List UInt8,Lib.compareBytes l l=0
 | []=>rfl
 | a :: l=>by simp only [Lib.compareBytes];rw [if_neg (by simp),if_neg (by simp)];exact mD l
theorem Dj (a:UInt8):¬ a < a:=by simp
theorem yo (a b:UInt8):a < b∨a=b∨b < a:=by
 rcases Nat.lt_trichotomy a.toNat b.toNat with h | h | h
 ·exact .inl h
 ·exact .inr (.inl (UInt8.toNat_inj.1 h))
 ·exact .inr (.inr h)
theorem sM {a b:UInt8} (h:a < b):¬ b < a:=by
 rw [UInt8.lt_iff_toNat_lt] at *;omega
theorem EY:∀ a b:List UInt8,Lib.compareBytes a b=- Lib.compareBytes b a
 | [],[]=>rfl
 | [],_ :: _=>rfl
 | _ :: _,[]=>rfl
 | a :: la,b :: lb=>by
   simp only [Lib.compareBytes]
   rcases yo a b with h | h | h
   ·rw [if_pos h,if_neg (sM h),if_pos h]
   ·subst h
    rw [if_neg (by simp),if_neg (by simp),if_neg (by simp),if_neg (by simp)];exact EY la lb
   ·rw [if_neg (sM h),if_pos h,if_pos h];rfl
theorem Cq:∀ a b:List UInt8,Lib.compareBytes a b=-1∨Lib.compareBytes a b=0∨Lib.compareBytes a b=1
 | [],[]=>by simp [Lib.compareBytes]
 | [],_ :: _=>by simp [Lib.compareBytes]
 | _ :: _,[]=>by simp [Lib.compareBytes]
 | a :: la,b :: lb=>by
   simp only [Lib.compareBytes]
   split
   ·simp
   ·split
    ·simp
    ·exact Cq la lb
theorem mE:∀ {a b:List UInt8},Lib.compareBytes a b=0→a=b
 | [],[],_=>rfl
 | [],_ :: _,h=>by simp [Lib.compareBytes] at h
 | _ :: _,[],h=>by simp [Lib.compareBytes] at h
 | a :: la,b :: lb,h=>by
   simp only [Lib.compareBytes] at h
   split at h
   ·simp at h
   ·split at h
    ·simp at h
    ·rename_i h1 h2
     rcases yo a b with h3 | h3 | h3
     ·exact absurd h3 h1
     ·rw [h3,mE h]
     ·exact absurd h3 h2
theorem rf:∀ a b:List UInt8,Op.bytesLess a b=decide (Lib.compareBytes a b < 0)
 | [],[]=>by simp [Op.bytesLess,Lib.compareBytes]
 | [],_ :: _=>by simp [Op.bytesLess,Lib.compareBytes]
 | _ :: _,[]=>by simp [Op.bytesLess,Lib.compareBytes]
 | a :: la,b :: lb=>by
   simp only [Op.bytesLess,Lib.compareBytes]
   rcases yo a b with h | h | h
   ·simp [h]
   ·subst h;simp [rf la lb]
   ·have h1:=sM h
    have h2:(a==b)=false:=by
     rw [beq_eq_false_iff_ne];intro e;subst e;exact Dj _ h
    simp [h,h1,h2]
theorem MZ (a b:List UInt8):(a==b)=decide (Lib.compareBytes a b=0):=by
 rw [Bool.eq_iff_iff]
 simp only [beq_iff_eq,decide_eq_true_eq]
 exact ⟨fun h=>by rw [h];exact mD b,mE⟩
theorem sN:∀ (l:List UInt8) (c:UInt8),(Lib.indexByte l c < 0)↔c∉l
 | [],c=>by simp [Lib.indexByte]
 | b :: l,c=>by
   have ih:=sN l c
   have Of:=Lib.indexByte_ge l c
   simp only [Lib.indexByte,List.mem_cons,not_or]
   by_cases hb:b=c
   ·subst hb;simp
   ·rw [if_neg (by simpa using hb)]
    by_cases h1:Lib.indexByte l c=-1
    ·rw [h1] at ih
     simp only [h1,beq_self_eq_true,if_true]
     exact ⟨fun _=>⟨fun e=>hb e.symm,ih.1 (by omega)⟩,fun _=>by omega⟩
    ·rw [if_neg (by simpa using h1)]
     exact ⟨fun h=>by omega,fun h=>absurd (ih.2 h.2) (by omega)⟩
theorem We (c:UInt8):((c.toNat:Int)).toNat.toUInt8=c:=by simp
structure Dk {α:Type} (cf:α→α→Int) (xs:List α):Prop where
 M0:∀ x∈xs,¬ cf x x < 0
 tr:∀ x∈xs,∀ y∈xs,∀ z∈xs,cf x y < 0→cf y z < 0→cf x z < 0
 Wf:∀ x∈xs,∀ y∈xs,∀ z∈xs,¬ cf x y < 0→¬ cf y z < 0→¬ cf x z < 0
def Gb {α:Type} (cf:α→α→Int) (xs:List α):Prop:=xs.Pairwise (fun a b=>¬ cf b a < 0)
theorem Dk.mono {α:Type} {cf:α→α→Int} {xs ys:List α} (h:Dk cf xs) (hs:∀ y∈ys,y∈xs):Dk cf ys:=
 ⟨fun x hx=>h.M0 x (hs x hx),fun x hx y hy z hz=>h.tr x (hs x hx) y (hs y hy) z (hs z hz),fun x hx y hy z hz=>h.Wf x (hs x hx) y (hs y hy) z (hs z hz)⟩
def xE {α:Type} (n4:Int) (l7:List α) (n8:Int) (c9:Bool):Option (((List α)×Int)⊕(((List α)×Int)⊕(List α))):=
 if c9=true then
  (idx l7 (aZ (n8 - (1:Int)))).bind fun Av=>
  (idx l7 n8).bind fun ow=>
  (idx l7 n8).bind fun pI=>
  (idx (l7.set n8.toNat Av) (aZ (n8 - (1:Int)))).bind fun tI=>
  some (.inl ((l7.set n8.toNat Av).set (aZ (n8 - (1:Int))).toNat ow,aZ (n8 - (1:Int))))
 else
  Option.map .inr (some (.inl (l7,aZ (n4+(1:Int)))))
def zE {α:Type} (ah:Int) (lN:α→α→Option Int) (n4:Int) (l7:List α) (n8:Int):Option (((List α)×Int)⊕(((List α)×Int)⊕(List α))):=
 if ah < n8 then
  (idx l7 n8).bind fun v10=>
  (idx l7 (aZ (n8 - (1:Int)))).bind fun v11=>
  (lN v10 v11).bind fun v12=>
  xE n4 l7 n8 (decide (v12 < (0:Int)))
 else
  xE n4 l7 n8 false
noncomputable def xF {α:Type} (ah:Int) (lN:α→α→Option Int) (n4:Int) (l7:List α) (n8:Int):Option (((List α)×Int)⊕(List α)):=
 iter (fun x:(List α)×Int=>zE ah lN n4 x.1 x.2) (l7,n8)
noncomputable def zF {α:Type} (ah:Int) (aA:Int) (lN:α→α→Option Int) (l3:List α) (n4:Int):Option (((List α)×Int)⊕(List α)):=
 if n4 < aA then
  xF ah lN n4 l3 n4
 else
  Option.map .inr (some l3)
noncomputable def xG {α:Type} (ah:Int) (aA:Int) (lN:α→α→Option Int) (l3:List α) (n4:Int):Option (List α):=
 iter (fun x:(List α)×Int=>zF ah aA lN x.1 x.2) (l3,n4)
noncomputable def Sk {α:Type} (ab:List α) (ah:Int) (aA:Int) (lN:α→α→Option Int):Option (List α):=
 xG ah aA lN ab (aZ (ah+(1:Int)))
theorem KA {α:Type} (P:List α) (x y:α) (T:List α):((P++y :: x :: T).set (P.length+1) y).set P.length x=P++x :: y :: T:=by
 induction P with
 | nil=>rfl
 | cons p P ih=>simp only [List.cons_append,List.length_cons,List.set_cons_succ,ih]
theorem He {α:Type} (P:List α) (x:α) (T:List α) {i:Int} (hi:i=P.length):idx (P++x :: T) i=some x:=by
 subst hi
 unfold idx
 rw [if_pos (by omega)]
 simp
theorem Ik {α:Type} (lN:α→α→Option Int) (cf:α→α→Int) (n4:Int) (hn:n4≤1000000) (x:α):∀ (k:Nat) (P R post:List α),P.length=k→(P.length:Int)≤1000000→
 (∀ y∈P,lN x y=some (cf x y))→Dk cf (x :: (P++R))→Gb cf (P++R)→(∀ r∈R,cf x r < 0)→
 ∃ Z,xF 0 lN n4 (P++x :: (R++post)) P.length=some (.inl (Z++post,aZ (n4+1)))∧Z.Perm (x :: (P++R))∧Gb cf Z:=by
 intro k
 induction k with
 | zero=>
   intro P R post hP hl hf hO hs hR
   obtain rfl:P=[]:=List.eq_nil_of_length_eq_zero hP
   refine ⟨x :: R,?_,by simp,?_⟩
   ·unfold xF
    rw [iter_eq,zE,if_neg (by simp),xE,if_neg (by simp),ec];simp
   ·refine List.pairwise_cons.2 ⟨fun r hr iv=>?_,by simpa [Gb] using hs⟩
    have h1:=hR r hr
    exact hO.M0 x (by simp) (hO.tr x (by simp) r (by simp [hr]) x (by simp) h1 iv)
 | succ k ih=>
   intro P R post hP hl hf hO hs hR
   obtain ⟨Q,y,rfl⟩:∃ Q y,P=Q++[y]:=by
    rcases List.eq_nil_or_concat P with h | ⟨Q,y,h⟩
    ·rw [h] at hP;simp at hP
    ·exact ⟨Q,y,by simpa using h⟩
   have hQ:Q.length=k:=by simpa using hP
   have hlen:((Q++[y]).length:Int)=Q.length+1:=by simp
   have hlq:(Q.length:Int)+1≤1000000:=by rw [← hlen];exact hl
   have w1:aZ ((Q.length:Int)+1 - 1)=Q.length:=by rw [cG]<;>omega
   have e1:(Q++[y])++x :: (R++post)=Q++y :: x :: (R++post):=by simp
   have i1:idx (Q++y :: x :: (R++post)) ((Q.length:Int)+1)=some x:=by
    have:=He (Q++[y]) x (R++post) (i:=(Q.length:Int)+1) (by simp)
    simpa using this
   have i0:idx (Q++y :: x :: (R++post)) (Q.length:Int)=some y:=He Q y _ rfl
   rw [e1,hlen]
   by_cases hc:cf x y < 0
   ·obtain ⟨Z,z1,z2,z3⟩:=ih Q (y :: R) post hQ (by omega) (fun z hz=>hf z (by simp [hz])) (hO.mono (fun z hz=>by simp at hz ⊢;rcases hz with h | h | h | h<;>simp [h])) (by simpa using hs) (fun r hr=>by rcases List.mem_cons.1 hr with rfl | hr;exact hc;exact hR r hr)
    refine ⟨Z,?_,z2.trans (by simp),z3⟩
    unfold xF at z1 ⊢
    rw [iter_eq,zE,if_pos (by simp only;omega)]
    simp only [i1,w1,i0,Option.bind_some,hf y (by simp),hc,decide_true]
    unfold xE
    rw [if_pos rfl,w1]
    simp only [i0,i1,Option.bind_some]
    have i2:idx ((Q++y :: x :: (R++post)).set ((Q.length:Int)+1).toNat y) (Q.length:Int)=some y:=by
     rw [show ((Q.length:Int)+1).toNat=Q.length+1 by omega]
     unfold idx
     rw [if_pos (by omega),List.getElem?_set_ne (by simp)]
     simp
    rw [i2]
    simp only [Option.bind_some,jf]
    have e2:((Q++y :: x :: (R++post)).set ((Q.length:Int)+1).toNat y).set ((Q.length:Int)).toNat x=Q++x :: (y :: R++post):=by
     rw [show ((Q.length:Int)+1).toNat=Q.length+1 by omega,show ((Q.length:Int)).toNat=Q.length by omega,KA];simp
    rw [e2]
    exact z1
   ·refine ⟨Q++y :: x :: R,?_,?_,?_⟩
    ·unfold xF
     rw [iter_eq,zE,if_pos (by simp only;omega)]
     simp only [i1,w1,i0,Option.bind_some,hf y (by simp),hc,decide_false]
     unfold xE
     rw [if_neg (by simp),ec];simp
    ·have:(Q++y :: x :: R).Perm (x :: (Q++y :: R)):=by
      have h:=List.perm_middle (a:=x) (l₁:=Q++[y]) (l₂:=R)
      simpa using h
     simpa using this
    ·unfold Gb at hs ⊢
     have xH:(Q++y :: R).Pairwise (fun a b=>¬ cf b a < 0):=by simpa using hs
     rw [List.pairwise_append,List.pairwise_cons] at xH ⊢
     obtain ⟨a1,⟨a2,a3⟩,a4⟩:=xH
     have hxQ:∀ q∈Q,¬ cf x q < 0:=fun q hq=>hO.Wf x (by simp) y (by simp) q (by simp [hq]) hc (a4 q hq y (by simp))
     refine ⟨a1,⟨fun z hz=>?_,List.pairwise_cons.2 ⟨fun r hr iv=>?_,a3⟩⟩,fun q hq z hz=>?_⟩
     ·rcases List.mem_cons.1 hz with rfl | hz
      ·exact hc
      ·exact a2 z hz
     ·exact hO.M0 x (by simp) (hO.tr x (by simp) r (by simp [hr]) x (by simp) (hR r hr) iv)
     ·rcases List.mem_cons.1 hz with rfl | hz
      ·exact a4 q hq z (by simp)
      ·rcases List.mem_cons.1 hz with rfl | hz
       ·exact hxQ q hq
       ·exact a4 q hq z (by simp [hz])
theorem Il {α:Type} (lN:α→α→Option Int) (cf:α→α→Int) (xs:List α) (hl:(xs.length:Int)≤100000) (hf:∀ x∈xs,∀ y∈xs,lN x y=some (cf x y)) (hO:Dk cf xs):∀ (n:Nat) (P post:List α) (i:Int),i=P.length→post.length=n→(P++post).Perm xs→Gb cf P→
 ∃ Z,xG 0 xs.length lN (P++post) i=some Z∧Z.Perm xs∧Gb cf Z:=by
 intro n
 induction n with
 | zero=>
   intro P post i hi hn hp hs
   obtain rfl:post=[]:=List.eq_nil_of_length_eq_zero hn
   have hlen:=hp.length_eq
   simp only [List.append_nil] at hp hlen ⊢
   refine ⟨P,?_,hp,hs⟩
   unfold xG
   rw [iter_eq,zF,if_neg (by simp only;omega),ec]
 | succ n ih=>
   intro P post i hi hn hp hs
   match post,hn with
   | x :: r,hn=>
     have hlen:=hp.length_eq
     simp only [List.length_append,List.length_cons] at hlen
     have uc:∀ z∈P++x :: r,z∈xs:=fun z hz=>hp.mem_iff.1 hz
     obtain ⟨Z,z1,z2,z3⟩:=Ik lN cf i (by omega) x P.length P [] r rfl (by omega) (fun y hy=>hf x (uc x (by simp)) y (uc y (by simp [hy]))) (hO.mono (fun z hz=>uc z (by simp at hz ⊢;rcases hz with h | h<;>simp [h]))) (by simpa using hs) (by simp)
     simp only [List.append_nil,List.nil_append] at z1 z2
     have UJ:=z2.length_eq
     obtain ⟨Y,y1,y2,y3⟩:=ih Z r (i+1) (by rw [hi];simp at UJ;omega) (by simpa using hn) (by
      refine List.Perm.trans ?_ hp
      have:(Z++r).Perm ((x :: P)++r):=z2.append_right r
      refine this.trans ?_
      have h:=List.perm_middle (a:=x) (l₁:=P) (l₂:=r)
      simpa using h.symm) z3
     refine ⟨Y,?_,y2,y3⟩
     unfold xG at y1 ⊢
     rw [iter_eq,zF,if_pos (by simp only;omega)]
     simp only
     rw [← hi] at z1
     rw [z1]
     simp only [Option.bind_some,jf]
     rw [cG (by omega) (by omega)]
     exact y1
theorem M1 {α:Type} (lN:α→α→Option Int) (cf:α→α→Int) (xs:List α) (hl:(xs.length:Int)≤100000) (hf:∀ x∈xs,∀ y∈xs,lN x y=some (cf x y)) (hO:Dk cf xs):∃ Z,Sk xs 0 xs.length lN=some Z∧Z.Perm xs∧Gb cf Z:=by
 unfold Sk
 rw [show aZ (0+1)=1 by decide]
 cases xs with
 | nil=>
   refine ⟨[],?_,List.Perm.refl _,.nil⟩
   unfold xG
   rw [iter_eq,zF,if_neg (by simp),ec]
 | cons x r=>
   exact Il lN cf (x :: r) hl hf hO r.length [x] r 1 (by simp) rfl (List.Perm.refl _) (by simp [Gb])
theorem Pf {α:Type} {f:α→α→Option Int} {cf:α→α→Int} {x:α} {r:List α} (hf:∀ a∈x :: r,∀ b∈x :: r,f a b=some (cf a b)) (hO:Dk cf (x :: r)):Sort.SWO (Go.Proofs.ltOf (vv f x r)):=by
 have e:∀ i j,vv f x r i j=cf (uX x r i) (uX x r j):=fun i j=>by unfold vv;rw [hf _ (jH x r i) _ (jH x r j)];rfl
 refine ⟨fun i=>?_,fun i j k h1 h2=>?_,fun i j k h1 h2=>?_⟩
 ·unfold Go.Proofs.ltOf;rw [e];simpa using hO.M0 _ (jH x r i)
 ·unfold Go.Proofs.ltOf at *;rw [e] at *
  simp only [decide_eq_true_eq] at *
  exact hO.tr _ (jH x r i) _ (jH x r j) _ (jH x r k) h1 h2
 ·unfold Go.Proofs.ltOf at *;rw [e] at *
  simp only [decide_eq_false_iff_not] at *
  exact hO.Wf _ (jH x r i) _ (jH x r j) _ (jH x r k) h1 h2
theorem Im {α:Type} (x:α) (r:List α):(List.range (r.length+1)).map (uX x r)=x :: r:=by
 apply List.ext_getElem?
 intro i
 rw [List.getElem?_map]
 by_cases hi:i < r.length+1
 ·rw [List.getElem?_range hi,Option.map_some]
  unfold uX
  rw [List.getD_eq_getElem?_getD,List.getElem?_eq_getElem (l:=x :: r) (by simpa using hi)];rfl
 ·rw [List.getElem?_eq_none (by simp;omega),List.getElem?_eq_none (by simp;omega)];rfl
theorem EZ {α:Type} (f:α→α→Option Int) (cf:α→α→Int) (xs:List α) (hl:xs.length≤100000) (hf:∀ a∈xs,∀ b∈xs,f a b=some (cf a b)) (hO:Dk cf xs):∃ Z,D8 f xs=some Z∧Z.Perm xs∧Gb cf Z:=by
 cases xs with
 | nil=>exact ⟨[],rfl,List.Perm.refl _,.nil⟩
 | cons x r=>
   have hS:=Pf hf hO
   have hlen:r.length+1≤100000:=by simpa using hl
   rw [Ab,if_pos ⟨by omega,fun a ha b hb=>⟨_,hf a ha b hb⟩,hS⟩]
   have Ou:=Sort.pdq_sorts (Go.Proofs.ltOf (vv f x r)) hS (Array.range (r.length+1)) 0 (r.length+1) (Lib.bitLen (r.length+1)) true true (Nat.zero_le _) (by simp) (Or.inl rfl)
   generalize Sort.pdq (Go.Proofs.ltOf (vv f x r)) (Array.range (r.length+1)) 0 (r.length+1) (Lib.bitLen (r.length+1)) true true=d at Ou
   obtain ⟨⟨h1,_,h3⟩,h4⟩:=Ou
   have hd:d.size=r.length+1:=by simpa using h1
   have kO:d.toList.Perm (List.range (r.length+1)):=by
    have a1:(d.extract 0 (r.length+1)).toList=d.toList:=by
     rw [Array.toList_extract]
     simp [List.extract]
     exact List.take_of_length_le (by simp [hd])
    have a2:((Array.range (r.length+1)).extract 0 (r.length+1)).toList=List.range (r.length+1):=by
     rw [Array.toList_extract]
     simp [List.extract]
    rw [a1,a2] at h3
    exact h3
   refine ⟨_,rfl,?_,?_⟩
   ·have:=kO.map (uX x r)
    rw [Im] at this
    exact this
   ·unfold Gb
    rw [List.pairwise_map,List.pairwise_iff_getElem]
    intro i j hi hj Ba
    have SC:i < d.size:=by simpa using hi
    have Ud:j < d.size:=by simpa using hj
    have h:=h4 i j (Nat.zero_le _) Ba (by omega)
    unfold Go.Proofs.ltOf vv at h
    rw [hf _ (jH x r _) _ (jH x r _)] at h
    simp only [Option.getD_some,decide_eq_false_iff_not] at h
    rw [getElem!_pos d i SC,getElem!_pos d j Ud] at h
    simpa using h
theorem wI {α:Type} {cf:α→α→Int}:∀ {X Y:List α},X.Perm Y→Gb cf X→Gb cf Y→(∀ a∈X,∀ b∈X,¬ cf a b < 0→¬ cf b a < 0→a=b)→X=Y
 | [],Y,hp,_,_,_=>by rw [List.nil_perm.1 hp]
 | x :: X,[],hp,_,_,_=>by have:=hp.length_eq;simp at this
 | x :: X,y :: Y,hp,hX,hY,ha=>by
   have Ht:x=y:=by
    have hx:x∈y :: Y:=hp.mem_iff.1 (by simp)
    have hy:y∈x :: X:=hp.mem_iff.2 (by simp)
    rcases List.mem_cons.1 hx with h | h
    ·exact h
    ·rcases List.mem_cons.1 hy with h' | h'
     ·exact h'.symm
     ·exact ha x (by simp) y (by simp [h']) ((List.pairwise_cons.1 hY).1 x h) ((List.pairwise_cons.1 hX).1 y h')
   subst Ht
   rw [wI (List.Perm.cons_inv hp) (List.pairwise_cons.1 hX).2 (List.pairwise_cons.1 hY).2 (fun a h b h'=>ha a (by simp [h]) b (by simp [h']))]
def AU {α:Type} (Z:α) (l10:List α) (n11:Int):Option (Int⊕(List α)):=
 (zY l10 n11 (l10.length:Int)).bind fun C6=>
 (zY (GP l10 n11 C6.length Z) (0:Int) n11).bind fun Fs=>
 Option.map .inr (some Fs)
theorem Pg {α:Type} (Z:α) (l:List α) {k:Int} (h0:0≤k) (h1:k≤l.length):AU Z l k=some (.inr (l.take k.toNat)):=by
 unfold AU
 rw [yn h0 h1 (by omega)]
 simp only [Option.bind_some]
 have hlen:(((l.drop k.toNat).take (((l.length:Int)).toNat - k.toNat)).length)=l.length - k.toNat:=by simp
 rw [hlen,yn (by omega) h0 (by unfold GP;simp;omega)]
 simp only [Option.bind_some,Option.map_some,Option.some.injEq,Sum.inr.injEq]
 unfold GP
 simp only [Int.toNat_zero,List.drop_zero,Nat.sub_zero]
 rw [List.append_assoc,List.take_append_of_le_length (by simp;omega),List.take_take]
 congr 1;omega
def Dl {α:Type} (n7:Int) (tL:List α) (n12:Int):Option (((List α)×Int×Int)⊕(List α)):=
 some (.inl (tL,n12,aZ (n7+(1:Int))))
def Dm {α:Type} (Z:α) (l5:List α) (n6:Int):Option (List α):=
 (zY l5 n6 (l5.length:Int)).bind fun xl=>
 (zY (GP l5 n6 xl.length Z) (0:Int) n6).bind fun za=>
 some za
def zG {α:Type} (Z:α) (fX:α→Option Bool) (l5:List α) (n6:Int) (n7:Int):Option (((List α)×Int×Int)⊕(List α)):=
 if n7 < (l5.length:Int) then
  (idx l5 n7).bind fun v8=>
  (fX v8).bind fun v10=>
  if (!v10)=true then
   (idx l5 n6).bind fun Av=>
   Dl n7 (l5.set n6.toNat v8) (aZ (n6+(1:Int)))
  else
   Dl n7 l5 n6
 else
  Option.map .inr (Dm Z l5 n6)
noncomputable def Sl {α:Type} (Z:α) (ab:List α) (fX:α→Option Bool):Option (List α):=
 (tt ab fX).bind fun v1=>
 if v1=(-1:Int) then
  some ab
 else
  iter (fun x:(List α)×Int×Int=>zG Z fX x.1 x.2.1 x.2.2) (ab,v1,aZ (v1+(1:Int)))
theorem M3 {α:Type} (Z:α) (l:List α) {k:Int} (h0:0≤k) (h1:k≤l.length):Dm Z l k=some (l.take k.toNat):=by
 have:=Pg Z l h0 h1
 unfold AU at this
 unfold Dm
 cases h:zY l k l.length with
 | none=>rw [h] at this;simp at this
 | some v=>
   rw [h] at this
   simp only [Option.bind_some] at this ⊢
   cases h2:zY (GP l k v.length Z) 0 k with
   | none=>rw [h2] at this;simp at this
   | some u=>rw [h2] at this;simpa using this
theorem yS {α:Type} (p:α→Bool) {xs:List α} {m:Nat} (h:m < xs.length):(xs.take (m+1)).filter p=if p xs[m]=true then (xs.take m).filter p++[xs[m]] else (xs.take m).filter p:=by
 rw [← List.take_append_getElem h,List.filter_append]
 by_cases hp:p xs[m]=true<;>simp [hp]
theorem KC {α:Type} (Z:α) (fX:α→Option Bool) (p:α→Bool) (xs:List α) (hl:(xs.length:Int)≤100000) (hf:∀ x∈xs,fX x=some (p x)):∀ (n:Nat) (l:List α) (k j:Int),1≤j→j+n=xs.length→l.length=xs.length→0≤k→k < j→l.drop j.toNat=xs.drop j.toNat→l.take k.toNat=(xs.take j.toNat).filter (fun x=>!p x)→
 iter (fun x:(List α)×Int×Int=>zG Z fX x.1 x.2.1 x.2.2) (l,k,j)=some (xs.filter (fun x=>!p x)):=by
 intro n
 induction n with
 | zero=>
   intro l k j g1 g2 g3 g4 g5 g6 g7
   rw [iter_eq,zG,if_neg (by simp only;omega),ec,M3 Z l g4 (by omega),g7,List.take_of_length_le (by omega)]
 | succ n ih=>
   intro l k j g1 g2 g3 g4 g5 g6 g7
   have w1:aZ (j+1)=j+1:=by rw [cG]<;>omega
   have w3:aZ (k+1)=k+1:=by rw [cG]<;>omega
   have hm:j.toNat < xs.length:=by omega
   have ZN:∀ m:Nat,j.toNat≤m→l[m]? =xs[m]?:=by
    intro m hm
    have:=congrArg (fun q:List α=>q[m - j.toNat]?) g6
    simp only [List.getElem?_drop] at this
    rw [show j.toNat+(m - j.toNat)=m by omega] at this
    exact this
   have e1:idx l j=some xs[j.toNat]:=by
    unfold idx;rw [if_pos (by omega),ZN _ (Nat.le_refl _)];simp [hm]
   have Lj:=yS (fun x=>!p x) hm
   rw [show j.toNat+1=(j+1).toNat by omega] at Lj
   have TH:l.drop (j+1).toNat=xs.drop (j+1).toNat:=by
    have:=congrArg (List.drop 1) g6
    rw [List.drop_drop,List.drop_drop,show j.toNat+1=(j+1).toNat by omega] at this
    exact this
   rw [iter_eq,zG,if_pos (by simp only;omega)]
   simp only [e1,Option.bind_some,hf _ (List.getElem_mem hm)]
   unfold Dl
   rw [w1]
   cases hp:p xs[j.toNat] with
   | true=>
     rw [hp] at Lj
     simp only [Bool.not_true,Bool.false_eq_true,if_false] at Lj ⊢
     simp only [Option.bind_some,jf]
     exact ih l k (j+1) (by omega) (by omega) g3 g4 (by omega) TH (by rw [g7,Lj])
   | false=>
     rw [hp] at Lj
     simp only [Bool.not_false,if_true] at Lj ⊢
     obtain ⟨y,hy,_,_⟩:=lC l (i:=k) g4 (by omega)
     simp only [hy,Option.bind_some,jf,w3]
     refine ih (l.set k.toNat _) (k+1) (j+1) (by omega) (by omega) (by simpa using g3) (by omega) (by omega) ?_ ?_
     ·apply List.ext_getElem?
      intro m
      rw [List.getElem?_drop,List.getElem?_drop,List.getElem?_set_ne (by omega),ZN _ (by omega)]
     ·rw [Lj,← g7,show (k+1).toNat=k.toNat+1 by omega]
      apply List.ext_getElem?
      intro m
      have GK:k.toNat < l.length:=by omega
      by_cases hm:m < k.toNat
      ·rw [List.getElem?_take,if_pos (by omega),List.getElem?_set_ne (by omega),List.getElem?_append_left (by simp;omega),List.getElem?_take,if_pos hm]
      ·by_cases hm2:m=k.toNat
       ·subst hm2
        rw [List.getElem?_take,if_pos (by omega),List.getElem?_set_self GK,List.getElem?_append_right (by simp only [List.length_take];omega)]
        simp [Nat.min_eq_left (Nat.le_of_lt GK)]
       ·rw [List.getElem?_eq_none (by simp;omega),List.getElem?_eq_none (by simp;omega)]
theorem uO {α:Type} (p:α→Bool):∀ (xs:List α) (i:Int),0≤i→(ib p xs i=-1∧∀ x∈xs,p x=false)∨(i≤ib p xs i∧ib p xs i < i+xs.length∧(∀ x∈xs.take (ib p xs i - i).toNat,p x=false)∧∃ y,xs[(ib p xs i - i).toNat]? =some y∧p y=true)
 | [],i,h=>.inl ⟨rfl,by simp⟩
 | x :: r,i,h=>by
   by_cases hp:p x=true
   ·have e:ib p (x :: r) i=i:=by simp [ib,hp]
    rw [e]
    exact .inr ⟨by omega,by simp;omega,by simp,x,by simp,hp⟩
   ·have e:ib p (x :: r) i=ib p r (i+1):=by simp [ib,hp]
    rw [e]
    have bZ:p x=false:=by simpa using hp
    rcases uO p r (i+1) (by omega) with ⟨h1,h2⟩ | ⟨h1,h2,h3,y,h4,h5⟩
    ·exact .inl ⟨h1,fun y hy=>by rcases List.mem_cons.1 hy with rfl | hy;exact bZ;exact h2 y hy⟩
    ·have e:(ib p r (i+1) - i).toNat=(ib p r (i+1) - (i+1)).toNat+1:=by omega
     refine .inr ⟨by omega,by simp;omega,?_,y,?_,h5⟩
     ·rw [e]
      intro y hy
      rw [List.take_succ_cons] at hy
      rcases List.mem_cons.1 hy with rfl | hy
      ·exact bZ
      ·exact h3 y hy
     ·rw [e,List.getElem?_cons_succ];exact h4
theorem M4 {α:Type} (Z:α) (fX:α→Option Bool) (p:α→Bool) (xs:List α) (hl:(xs.length:Int)≤100000) (hf:∀ x∈xs,fX x=some (p x)):Sl Z xs fX=some (xs.filter (fun x=>!p x)):=by
 unfold Sl
 rw [jE xs fX p hf (by omega)]
 simp only [Option.bind_some]
 rcases uO p xs 0 (by omega) with ⟨h1,h2⟩ | ⟨h1,h2,h3,y,h4,h5⟩
 ·rw [if_pos h1]
  congr 1
  exact (List.filter_eq_self.2 (fun x hx=>by simp [h2 x hx])).symm
 ·generalize ib p xs 0=v at *
  simp only [Int.sub_zero] at h3 h4 h5
  rw [if_neg (by omega),cG (by omega) (by omega)]
  refine KC Z fX p xs hl hf (xs.length - (v+1).toNat) xs v (v+1) (by omega) (by omega) rfl h1 (by omega) rfl ?_
  obtain ⟨h4',Wg⟩:=List.getElem?_eq_some_iff.1 h4
  have Lj:=yS (fun x=>!p x) h4'
  rw [show v.toNat+1=(v+1).toNat by omega,Wg] at Lj
  rw [Lj,h5]
  simp only [Bool.not_true,Bool.false_eq_true,if_false]
  exact (List.filter_eq_self.2 (fun x hx=>by simp [h3 x hx])).symm
structure tP {α:Type} (c:α→α→Int):Prop where
 neg:∀ a b,c a b=- c b a
 tr:∀ {a b d},c a b < 0→c b d < 0→c a d < 0
 cg:∀ {a b d},c a b=0→c b d < 0→c a d < 0
theorem tP.zero {α:Type} {c:α→α→Int} (h:tP c) (a:α):c a a=0:=by have:=h.neg a a;omega
theorem tP.Wh {α:Type} {c:α→α→Int} (h:tP c) {a b d:α} (h0:c a b=0) (h1:c d a < 0):c d b < 0:=by
 have n1:=h.neg d b
 have n2:=h.neg a b
 have n3:=h.neg d a
 by_cases e:c d b=0
 ·have:=h.cg e (d:=a)
  by_cases k:c b a < 0
  ·omega
  ·have e2:c b d=0:=by have:=h.neg b d;omega
   have:=h.cg e2 (d:=a) h1
   omega
 ·by_cases k:c d b < 0
  ·exact k
  ·have k1:c b d < 0:=by omega
   have k2:=h.tr k1 h1
   omega
theorem tP.lex {α:Type} {c1 c2:α→α→Int} (h1:tP c1) (h2:tP c2):tP (fun a b=>if c1 a b≠0 then c1 a b else c2 a b):=by
 refine ⟨fun a b=>?_,fun {a b d}=>?_,fun {a b d}=>?_⟩
 ·have n1:=h1.neg a b;have n2:=h2.neg a b
  repeat' split
  all_goals omega
 ·intro k1 k2
  by_cases e1:c1 a b=0
  ·by_cases e2:c1 b d=0
   ·have e3:c1 a d=0:=by
     have n1:=h1.neg a d
     have n2:=h1.neg b d
     have n3:=h1.neg a b
     by_cases k:c1 a d < 0
     ·have:=h1.cg (a:=b) (b:=a) (d:=d) (by omega) k;omega
     ·by_cases k':c1 d a < 0
      ·have:=h1.Wh (a:=a) (b:=b) (d:=d) e1 k';omega
      ·omega
    rw [if_neg (by simpa using e1)] at k1
    rw [if_neg (by simpa using e2)] at k2
    rw [if_neg (by simpa using e3)]
    exact h2.tr k1 k2
   ·rw [if_pos e2] at k2
    have:=h1.cg e1 k2
    rw [if_pos (by omega)];exact this
  ·rw [if_pos e1] at k1
   by_cases e2:c1 b d=0
   ·have:=h1.Wh e2 k1
    rw [if_pos (by omega)];exact this
   ·rw [if_pos e2] at k2
    have:=h1.tr k1 k2
    rw [if_pos (by omega)];exact this
 ·intro k1 k2
  by_cases e1:c1 a b=0
  ·rw [if_neg (by simpa using e1)] at k1
   by_cases e2:c1 b d=0
   ·have e3:c1 a d=0:=by
     have n1:=h1.neg a d
     have n2:=h1.neg b d
     have n3:=h1.neg a b
     by_cases k:c1 a d < 0
     ·have:=h1.cg (a:=b) (b:=a) (d:=d) (by omega) k;omega
     ·by_cases k':c1 d a < 0
      ·have:=h1.Wh (a:=a) (b:=b) (d:=d) e1 k';omega
      ·omega
    rw [if_neg (by simpa using e2)] at k2
    rw [if_neg (by simpa using e3)]
    exact h2.cg k1 k2
   ·rw [if_pos e2] at k2
    have:=h1.cg e1 k2
    rw [if_pos (by omega)];exact this
  ·rw [if_pos e1] at k1;exact absurd k1 e1
theorem tP.on {α β:Type} {c:α→α→Int} (h:tP c) (f:β→α):tP (fun a b=>c (f a) (f b)):=
 ⟨fun a b=>h.neg _ _,fun h1 h2=>h.tr h1 h2,fun h1 h2=>h.cg h1 h2⟩
theorem KD:tP Di:=by
 refine ⟨fun a b=>?_,fun {a b d}=>?_,fun {a b d}=>?_⟩<;>unfold Di<;>repeat' split
 all_goals omega
theorem Hf:∀ {a b c:List UInt8},Lib.compareBytes a b < 0→Lib.compareBytes b c < 0→Lib.compareBytes a c < 0
 | [],[],c,h1,h2=>by simp [Lib.compareBytes] at h1
 | [],_ :: _,[],h1,h2=>by simp [Lib.compareBytes] at h2
 | [],_ :: _,_ :: _,h1,h2=>by simp [Lib.compareBytes]
 | _ :: _,[],c,h1,h2=>by simp [Lib.compareBytes] at h1
 | _ :: _,_ :: _,[],h1,h2=>by simp [Lib.compareBytes] at h2
 | a :: la,b :: lb,c :: lc,h1,h2=>by
   simp only [Lib.compareBytes] at h1 h2 ⊢
   rcases yo a b with h | h | h
   ·rcases yo b c with k | k | k
    ·rw [if_pos (UInt8.lt_trans h k)];omega
    ·subst k;rw [if_pos h];omega
    ·rw [if_neg (sM k),if_pos k] at h2;omega
   ·subst h
    rcases yo a c with k | k | k
    ·rw [if_pos k];omega
    ·subst k
     rw [if_neg (by simp),if_neg (by simp)] at h1 h2 ⊢
     exact Hf h1 h2
    ·rw [if_neg (sM k),if_pos k] at h2;omega
   ·rw [if_neg (sM h),if_pos h] at h1;omega
theorem mc:tP Lib.compareBytes:=⟨EY,Hf,fun h1 h2=>by rw [mE h1];exact h2⟩
theorem tP.ord {α:Type} {c:α→α→Int} (h:tP c) (xs:List α):Dk c xs:=by
 refine ⟨fun x _ k=>?_,fun x _ y _ z _ h1 h2=>h.tr h1 h2,fun x _ y _ z _ h1 h2 h3=>?_⟩
 ·have:=h.zero x;omega
 ·have n1:=h.neg x y
  have n2:=h.neg y z
  by_cases h4:c x y=0
  ·have h5:c y x=0:=by omega
   exact h2 (h.cg h5 h3)
  ·have:c y x < 0:=by omega
   exact h2 (h.tr this h3)
def lD {α:Type} (xs:List α) (i:Int):Option α:=if i≤0 then none else idx xs (i - 1)
theorem Hg {α:Type} {B:α→Prop} {xs:List α} {i:Nat} {y:α} (h:∀ x∈xs,B x) (hy:B y):∀ x∈xs.set i y,B x:=by
 intro x hx
 rcases List.mem_or_eq_of_mem_set hx with h1 | h1
 ·exact h x h1
 ·rw [h1];exact hy
theorem wJ {α:Type} {n:Nat} {m:Option (List α)} {Z:List α} (h:m=some Z) (hl:Z.length=n):lF n (fun r:List α=>r.length) m=some Z:=by
 rw [h];unfold lF
 simp only [Option.bind_some]
 rw [if_pos hl]
end Go.Beacon
set_option linter.unusedSectionVars false
namespace Go.Beacon
open Go Go.Eng
class Gc (K:Type) [yK K]:Prop where
 M0:∀ a:K,yK.lt a a=false
 tr:∀ {a b c:K},yK.lt a b=true→yK.lt b c=true→yK.lt a c=true
 TI:∀ a b:K,yK.lt a b=true∨a=b∨yK.lt b a=true
instance:Gc Int where
 M0 a:=by show decide (a < a)=false;simp
 tr {a b c} h1 h2:=by
  have h1:decide (a < b)=true:=h1
  have h2:decide (b < c)=true:=h2
  show decide (a < c)=true
  simp only [decide_eq_true_eq] at *;omega
 TI a b:=by
  show decide (a < b)=true∨a=b∨decide (b < a)=true
  simp only [decide_eq_true_eq];omega
instance:Gc Bool where
 M0 a:=by cases a<;>rfl
 tr {a b c} h1 h2:=by revert h1 h2;cases a<;>cases b<;>cases c<;>decide
 TI a b:=by cases a<;>cases b<;>decide
instance:Gc (List UInt8) where
 M0 a:=by
  show Op.bytesLess a a=false
  rw [rf,mD];rfl
 tr {a b c} h1 h2:=by
  have h1:Op.bytesLess a b=true:=h1
  have h2:Op.bytesLess b c=true:=h2
  show Op.bytesLess a c=true
  rw [rf,decide_eq_true_eq] at *
  exact mc.tr h1 h2
 TI a b:=by
  show Op.bytesLess a b=true∨a=b∨Op.bytesLess b a=true
  rw [rf,rf,decide_eq_true_eq,decide_eq_true_eq]
  rcases Int.lt_trichotomy (Lib.compareBytes a b) 0 with h | h | h
  ·exact .inl h
  ·exact .inr (.inl (mE h))
  ·exact .inr (.inr (by have:=mc.neg a b;omega))
section
variable {K V:Type} [DecidableEq K]
theorem nH (e:K×V) (m:List (K×V)) (k:K):bI (e :: m) k=if e.1=k then some e.2 else bI m k:=rfl
theorem o3 (m:List (K×V)) (k k':K):bI (qg m k) k'=if k=k' then none else bI m k':=by
 induction m with
 | nil=>simp [qg,bI]
 | cons e r ih=>
   unfold qg at ih ⊢
   rw [List.filter_cons]
   by_cases h:e.1=k
   ·rw [if_neg (by simp [h]),ih,nH]
    by_cases h2:k=k'
    ·rw [if_pos h2,if_pos h2]
    ·rw [if_neg h2,if_neg h2,if_neg (by rw [h];exact h2)]
   ·rw [if_pos (by simp [h]),nH,ih,nH]
    by_cases h2:k=k'
    ·rw [if_pos h2,if_pos h2,if_neg (by rw [← h2];exact h)]
    ·rw [if_neg h2,if_neg h2]
variable [yK K]
theorem Cr (k:K) (v:V) (k':K):∀ (m:List (K×V)),bI m k=none→bI (Bu k v m) k'=if k=k' then some v else bI m k'
 | [],_=>by simp [Bu,bI]
 | e :: r,h=>by
   rw [nH] at h
   have h1:e.1≠k:=fun he=>by rw [if_pos he] at h;cases h
   rw [if_neg h1] at h
   unfold Bu
   split
   ·rw [nH,Cr k v k' r h,nH]
    by_cases h2:k=k'
    ·rw [if_pos h2,if_pos h2,if_neg (by rw [← h2];exact h1)]
    ·rw [if_neg h2,if_neg h2]
   ·rw [nH]
theorem lz (m:List (K×V)) (k:K) (v:V) (k':K):bI (ny m k v) k'=if k=k' then some v else bI m k':=by
 unfold ny
 rw [Cr k v k' _ (by rw [o3,if_pos rfl]),o3]
 by_cases h:k=k'
 ·rw [if_pos h,if_pos h]
 ·rw [if_neg h,if_neg h,if_neg h]
def SM (m:List (K×V)):Prop:=m.Pairwise (fun a b=>yK.lt a.1 b.1=true)
theorem SM.nil:SM ([]:List (K×V)):=List.Pairwise.nil
theorem SM.del {m:List (K×V)} (h:SM m) (k:K):SM (qg m k):=List.Pairwise.filter _ h
variable [Gc K]
theorem SM.ne {m:List (K×V)} (h:SM m):m.Pairwise (fun a b=>a.1≠b.1):=
 List.Pairwise.imp (fun {a b} h e=>by rw [e,Gc.M0] at h;cases h) h
theorem SM.nodup {m:List (K×V)} (h:SM m):(m.map Prod.fst).Nodup:=by
 unfold List.Nodup
 rw [List.pairwise_map]
 exact SM.ne h
theorem Hh (k:K) (v:V):∀ {m:List (K×V)},SM m→bI m k=none→SM (Bu k v m)
 | [],_,_=>by unfold Bu SM;simp
 | e :: r,h,hn=>by
   have h':=List.pairwise_cons.1 h
   rw [nH] at hn
   have h1:e.1≠k:=fun he=>by rw [if_pos he] at hn;cases hn
   rw [if_neg h1] at hn
   unfold Bu
   split
   ·rename_i iv
    refine List.pairwise_cons.2 ⟨fun z hz=>?_,Hh k v h'.2 hn⟩
    rcases List.mem_cons.1 ((sx k v r).mem_iff.1 hz) with rfl | hz
    ·exact iv
    ·exact h'.1 z hz
   ·rename_i iv
    have ZO:yK.lt k e.1=true:=by
     rcases Gc.TI k e.1 with h | h | h
     ·exact h
     ·exact absurd h.symm h1
     ·exact absurd h iv
    refine List.pairwise_cons.2 ⟨fun z hz=>?_,h⟩
    rcases List.mem_cons.1 hz with rfl | hz
    ·exact ZO
    ·exact Gc.tr ZO (h'.1 z hz)
theorem SM.set {m:List (K×V)} (h:SM m) (k:K) (v:V):SM (ny m k v):=
 Hh k v (h.del k) (by rw [o3,if_pos rfl])
theorem SM.mF {m:List (K×V)} (h:SM m) {k:K} {v:V}:bI m k=some v↔(k,v)∈m:=
 ⟨Ae,um h.nodup⟩
end
section
variable {E S A:Type}
theorem Cs (b:E→S→Option (S⊕A)) (f:S→Option A) (es:List E) (r:A) (Inv:List E→S→Prop)
 (hs:∀ done e rest s,(done++e :: rest).Perm es→Inv done s→(∃ s',b e s=some (.inl s')∧Inv (done++[e]) s')∨b e s=some (.inr r))
 (hf:∀ p s,p.Perm es→Inv p s→f s=some r):∀ (rest done:List E) (s:S),(done++rest).Perm es→Inv done s→oH b f rest s=some r
 | [],done,s,hp,hi=>hf done s (by simpa using hp) hi
 | e :: rest,done,s,hp,hi=>by
   show (b e s).bind (after (oH b f rest))=some r
   rcases hs done e rest s hp hi with ⟨s',h1,h2⟩ | h1
   ·rw [h1]
    simp only [Option.bind_some,jf]
    exact Cs b f es r Inv hs hf rest (done++[e]) s' (by simpa using hp) h2
   ·rw [h1];rfl
theorem sO (b:E→S→Option (S⊕A)) (f:S→Option A) (es:List E) (s0:S) (r:A) (Inv:List E→S→Prop) (h0:Inv [] s0)
 (hs:∀ done e rest s,(done++e :: rest).Perm es→Inv done s→(∃ s',b e s=some (.inl s')∧Inv (done++[e]) s')∨b e s=some (.inr r))
 (hf:∀ p s,p.Perm es→Inv p s→f s=some r):tA es (fun p=>oH b f p s0)=some r:=
 JB fun p hp=>Cs b f es r Inv hs hf p [] s0 (by simpa using hp) h0
end
end Go.Beacon
