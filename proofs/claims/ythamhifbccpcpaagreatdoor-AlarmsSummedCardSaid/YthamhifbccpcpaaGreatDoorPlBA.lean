/- Plain facts on what the functions compute. No program in sight. -/
import Derived.Test.YthamhifbccpcpaaGreatDoorCore
set_option linter.unusedVariables false
namespace Go.Beacon
open Go Go.Eng
theorem aZ {x:Int} (h1:-9223372036854775808≤x) (h2:x≤9223372036854775807):aT x=x:=IP ⟨h1,h2⟩
theorem Oy {a b:Int} (h:0 < b) (h0:0≤a) (h1:a≤9223372036854775807):quo a b=some (a / b):=by
 unfold quo
 rw [if_neg (by omega),Int.tdiv_eq_ediv_of_nonneg h0,aZ]
 ·have:=Int.ediv_nonneg h0 (Int.le_of_lt h);omega
 ·have:=Int.ediv_le_self b h0;omega
theorem Oz {a b:Int} (h:0 < b) (h0:0≤a):rem a b=some (a % b):=by
 unfold rem
 rw [if_neg (by omega),Int.tmod_eq_emod_of_nonneg h0]
theorem Q6 {a b:Int} (h:b≠0):rem a b=some (a.tmod b):=by unfold rem;rw [if_neg h]
theorem Q7 {a b:Int} (h:b≠0):quo a b=some (aT (a.tdiv b)):=by unfold quo;rw [if_neg h]
theorem fY {α:Type} (xs:List α) {i:Int} (h0:0≤i) (h1:i < xs.length):∃ x,idx xs i=some x∧x∈xs∧xs.drop i.toNat=x :: xs.drop (i+1).toNat:=by
 have h:i.toNat < xs.length:=by omega
 refine ⟨xs[i.toNat],by unfold idx;rw [if_pos h0];simp [h],List.getElem_mem h,?_⟩
 rw [show (i+1).toNat=i.toNat+1 by omega]
 exact List.drop_eq_getElem_cons h
theorem jS {α:Type} {xs:List α} {i:Int} {x:α} (h:idx xs i=some x):x∈xs:=List.mem_of_getElem? (cV h).2.2
theorem LJ {α:Type} {xs:List α} {i:Int} {x:α} (h:idx xs i=some x):xs.drop i.toNat=x :: xs.drop (i+1).toNat:=by
 obtain ⟨h0,h1,_⟩:=cV h
 obtain ⟨y,hy,_,hd⟩:=fY xs h0 h1
 rw [h] at hy;obtain rfl:=Option.some.inj hy
 exact hd
theorem iq {α:Type} {xs ys:List α} (h:xs.length+ys.length≤1000000000):app xs ys=some (xs++ys):=by unfold app;rw [if_pos h]
theorem wL {α:Type} {xs:List α} {l h:Int} (h0:0≤l) (h1:l≤h) (h2:h≤xs.length):sv xs l h=some ((xs.drop l.toNat).take (h.toNat - l.toNat)):=by
 unfold sv;rw [if_pos ⟨h0,h1,h2⟩]
def A0 {α σ A:Type} (step:σ→α→Int→Option (σ⊕A)) (fin:σ→Int→Option A):List α→σ→Int→Option A
 | [],s,i=>fin s i
 | x :: r,s,i=>match step s x i with
   | none=>none
   | some (.inl s')=>A0 step fin r s' (i+1)
   | some (.inr a)=>some a
theorem A1 {α σ A X:Type} (xs:List α) (mk:σ→Int→X) (f:X→Option (X⊕A)) (step:σ→α→Int→Option (σ⊕A)) (fin:σ→Int→Option A)
 (h1:∀ s (i:Int) x,0≤i→i < xs.length→idx xs i=some x→f (mk s i)=(step s x i).map (Sum.map (fun s'=>mk s' (i+1)) id))
 (h2:∀ s,f (mk s xs.length)=(fin s xs.length).map .inr):∀ (n:Nat) (s:σ) (i:Int),0≤i→i+n=xs.length→iter f (mk s i)=A0 step fin (xs.drop i.toNat) s i
 | 0,s,i,h0,hn=>by
   have hi:i=xs.length:=by omega
   subst hi
   rw [iter_eq,h2,bP]
   simp [A0]
 | n+1,s,i,h0,hn=>by
   obtain ⟨x,hx,_,hd⟩:=fY xs h0 (by omega)
   rw [iter_eq,h1 s i x h0 (by omega) hx,hd]
   simp only [A0]
   cases wq:step s x i with
   | none=>rfl
   | some u=>
     cases u with
     | inl s'=>exact A1 xs mk f step fin h1 h2 n s' (i+1) (by omega) (by omega)
     | inr a=>rfl
theorem FI {α σ A X:Type} (xs:List α) (mk:σ→Int→X) (f:X→Option (X⊕A)) (step:σ→α→Int→Option (σ⊕A)) (fin:σ→Int→Option A)
 (h1:∀ s (i:Int) x,0≤i→i < xs.length→idx xs i=some x→f (mk s i)=(step s x i).map (Sum.map (fun s'=>mk s' (i+1)) id))
 (h2:∀ s,f (mk s xs.length)=(fin s xs.length).map .inr) (s:σ):iter f (mk s 0)=A0 step fin xs s 0:=
 A1 xs mk f step fin h1 h2 xs.length s 0 (by omega) (by omega)
def xC {α A:Type} (g:α→Option A) (e:A):List α→A
 | []=>e
 | x :: r=>match g x with
   | some a=>a
   | none=>xC g e r
theorem yo {α A:Type} (xs:List α) (f:Int→Option (Int⊕A)) (g:α→Option A) (e:A) (hlen:(xs.length:Int)≤4611686018427387904)
 (h1:∀ (i:Int) x,0≤i→i < xs.length→idx xs i=some x→f i=match g x with | some a=>some (.inr a) | none=>some (.inl (i+1)))
 (h2:f xs.length=some (.inr e)):iter f 0=some (xC g e xs):=by
 have h:=FI xs (fun (_:Unit) i=>i) f (fun _ x _=>match g x with | some a=>some (.inr a) | none=>some (.inl ())) (fun _ _=>some e)
  (fun s i x h0 h3 h4=>by rw [h1 i x h0 h3 h4];cases g x<;>rfl) (fun s=>by rw [h2];rfl) ()
 rw [h]
 clear h h1 h2 hlen
 suffices ∀ (xs:List α) (i:Int),A0 (fun (_:Unit) x _=>match g x with | some a=>some (.inr a) | none=>some (.inl ())) (fun _ _=>some e) xs () i=some (xC g e xs) from this xs 0
 intro xs
 induction xs with
 | nil=>intro i;rfl
 | cons x r ih=>
   intro i
   simp only [A0,xC]
   cases g x with
   | none=>exact ih (i+1)
   | some a=>rfl
theorem A3 {α:Type} (p:α→Bool):∀ (xs:List α),xC (fun x=>if p x=true then none else some false) true xs=xs.all p
 | []=>rfl
 | x :: r=>by
   simp only [xC,List.all_cons]
   cases hp:p x<;>simp [A3 p r]
end Go.Beacon
set_option linter.unusedSimpArgs false
namespace Go.Beacon
open Go Go.Eng
def vC {α:Type} [DecidableEq α] (xs ys:List α) (i:Int):Option (Int⊕Bool):=
 if i < (xs.length:Int) then
  (idx xs i).bind fun v3=>
  (idx ys i).bind fun v4=>
  if v3≠v4 then
   Option.map .inr (some false)
  else
   some (.inl (aT (i+(1:Int))))
 else
  Option.map .inr (some true)
noncomputable def LK {α:Type} [DecidableEq α] (xs ys:List α):Option Bool:=
 if (xs.length:Int)≠(ys.length:Int) then
  some false
 else
  iter (fun x:Int=>vC xs ys x) 0
theorem yU {α:Type} [DecidableEq α] (xs ys:List α) (hl:xs.length=ys.length) (hb:(xs.length:Int)≤4611686018427387904):∀ (n:Nat) (i:Int),0≤i→i+n=xs.length→
 iter (fun x:Int=>vC xs ys x) i=some (decide (xs.drop i.toNat=ys.drop i.toNat))
 | 0,i,h0,hn=>by
   rw [iter_eq,vC,if_neg (by omega),List.drop_of_length_le (by omega),List.drop_of_length_le (by omega)];simp
 | n+1,i,h0,hn=>by
   obtain ⟨x,hx,_,hd⟩:=fY xs h0 (by omega)
   obtain ⟨y,hy,_,Di⟩:=fY ys h0 (by omega)
   rw [iter_eq,vC,if_pos (by omega),hx,hy,hd,Di]
   simp only [Option.bind_some]
   by_cases BY:x=y
   ·subst BY
    rw [if_neg (by simp)]
    simp only [Option.bind_some,gi]
    rw [aZ (by omega) (by omega)]
    have:=yU xs ys hl hb n (i+1) (by omega) (by omega)
    rw [this];simp
   ·rw [if_pos BY];simp [BY]
theorem Cv {α:Type} [DecidableEq α] (xs ys:List α) (hb:(xs.length:Int)≤4611686018427387904):LK xs ys=some (decide (xs=ys)):=by
 unfold LK
 by_cases h:xs.length=ys.length
 ·rw [if_neg (by omega),yU xs ys h hb xs.length 0 (by omega) (by omega)];simp
 ·rw [if_pos (by omega),decide_eq_false (fun e=>h (by rw [e]))]
def po {α:Type} (xs:List α) (f:α→Option Bool) (i:Int):Option (Int⊕Int):=
 if i < (xs.length:Int) then
  (idx xs i).bind fun v3=>
  (f v3).bind fun v4=>
  if v4=true then
   Option.map .inr (some i)
  else
   some (.inl (aT (i+(1:Int))))
 else
  Option.map .inr (some (-1:Int))
noncomputable def A4 {α:Type} (xs:List α) (f:α→Option Bool):Option Int:=iter (fun x:Int=>po xs f x) 0
def qm {α:Type} (p:α→Bool):List α→Int→Int
 | [],_=>-1
 | x :: r,i=>if p x=true then i else qm p r (i+1)
theorem tQ {α:Type} (xs:List α) (f:α→Option Bool) (p:α→Bool) (hf:∀ x∈xs,f x=some (p x)) (hb:(xs.length:Int)≤4611686018427387904):∀ (n:Nat) (i:Int),0≤i→i+n=xs.length→
 iter (fun x:Int=>po xs f x) i=some (qm p (xs.drop i.toNat) i)
 | 0,i,h0,hn=>by
   rw [iter_eq,po,if_neg (by omega),List.drop_of_length_le (by omega)];rfl
 | n+1,i,h0,hn=>by
   obtain ⟨x,hx,hm,hd⟩:=fY xs h0 (by omega)
   rw [iter_eq,po,if_pos (by omega),hx,hd]
   simp only [Option.bind_some,hf x hm,qm]
   split
   ·rfl
   ·simp only [Option.bind_some,gi]
    rw [aZ (by omega) (by omega)]
    exact tQ xs f p hf hb n (i+1) (by omega) (by omega)
theorem BT {α:Type} (xs:List α) (f:α→Option Bool) (p:α→Bool) (hf:∀ x∈xs,f x=some (p x)) (hb:(xs.length:Int)≤4611686018427387904):A4 xs f=some (qm p xs 0):=by
 unfold A4
 rw [tQ xs f p hf hb xs.length 0 (by omega) (by omega)];simp
def DK (xs:List Int) (i:Int):Option (Int⊕Int):=
 if i < (xs.length:Int) then
  (idx xs i).bind fun v3=>
  if v3≠(0:Int) then
   Option.map .inr (some v3)
  else
   some (.inl (aT (i+(1:Int))))
 else
  Option.map .inr (some (0:Int))
noncomputable def gOr (xs:List Int):Option Int:=iter (fun x:Int=>DK xs x) 0
def wM:List Int→Int
 | []=>0
 | x :: r=>if x≠0 then x else wM r
theorem A5 (xs:List Int) (hb:(xs.length:Int)≤4611686018427387904):gOr xs=some (wM xs):=by
 unfold gOr
 rw [yo xs (fun x:Int=>DK xs x) (fun x=>if x≠0 then some x else none) 0 hb]
 ·congr 1
  clear hb
  induction xs with
  | nil=>rfl
  | cons x r ih=>
    simp only [xC,wM]
    by_cases h:x=0
    ·subst h;simpa using ih
    ·simp [h]
 ·intro i x h0 h1 hx
  unfold DK
  rw [if_pos h1,hx]
  simp only [Option.bind_some]
  by_cases h:x=0
  ·rw [aZ (by omega) (by omega)];simp [h]
  ·simp [h]
 ·unfold DK;rw [if_neg (by omega)];rfl
def tA (a b:Int):Int:=if a < b then -1 else if b < a then 1 else 0
theorem yp:∀ l:List UInt8,Lib.compareBytes l l=0
 | []=>rfl
 | a :: l=>by simp only [Lib.compareBytes];rw [if_neg (by simp),if_neg (by simp)];exact yp l
theorem DL (a:UInt8):¬ a < a:=by simp
theorem yq (a b:UInt8):a < b∨a=b∨b < a:=by
 rcases Nat.lt_trichotomy a.toNat b.toNat with h | h | h
 ·exact .inl h
 ·exact .inr (.inl (UInt8.toNat_inj.1 h))
 ·exact .inr (.inr h)
theorem sN {a b:UInt8} (h:a < b):¬ b < a:=by
 rw [UInt8.lt_iff_toNat_lt] at *;omega
theorem rl:∀ a b:List UInt8,Lib.compareBytes a b=- Lib.compareBytes b a
 | [],[]=>rfl
 | [],_ :: _=>rfl
 | _ :: _,[]=>rfl
 | a :: la,b :: lb=>by
   simp only [Lib.compareBytes]
   rcases yq a b with h | h | h
   ·rw [if_pos h,if_neg (sN h),if_pos h]
   ·subst h
    rw [if_neg (by simp),if_neg (by simp),if_neg (by simp),if_neg (by simp)];exact rl la lb
   ·rw [if_neg (sN h),if_pos h,if_pos h];rfl
theorem lE:∀ {a b:List UInt8},Lib.compareBytes a b=0→a=b
 | [],[],_=>rfl
 | [],_ :: _,h=>by simp [Lib.compareBytes] at h
 | _ :: _,[],h=>by simp [Lib.compareBytes] at h
 | a :: la,b :: lb,h=>by
   simp only [Lib.compareBytes] at h
   split at h
   ·simp at h
   ·split at h
    ·simp at h
    ·rename_i h1 h2
     rcases yq a b with h3 | h3 | h3
     ·exact absurd h3 h1
     ·rw [h3,lE h]
     ·exact absurd h3 h2
theorem rm:∀ a b:List UInt8,Op.bytesLess a b=decide (Lib.compareBytes a b < 0)
 | [],[]=>by simp [Op.bytesLess,Lib.compareBytes]
 | [],_ :: _=>by simp [Op.bytesLess,Lib.compareBytes]
 | _ :: _,[]=>by simp [Op.bytesLess,Lib.compareBytes]
 | a :: la,b :: lb=>by
   simp only [Op.bytesLess,Lib.compareBytes]
   rcases yq a b with h | h | h
   ·simp [h]
   ·subst h;simp [rm la lb]
   ·have h1:=sN h
    have h2:(a==b)=false:=by
     rw [beq_eq_false_iff_ne];intro e;subst e;exact DL _ h
    simp [h,h1,h2]
theorem sP:∀ (l:List UInt8) (c:UInt8),(Lib.indexByte l c < 0)↔c∉l
 | [],c=>by simp [Lib.indexByte]
 | b :: l,c=>by
   have ih:=sP l c
   have Su:=Lib.indexByte_ge l c
   simp only [Lib.indexByte,List.mem_cons,not_or]
   by_cases hb:b=c
   ·subst hb;simp
   ·rw [if_neg (by simpa using hb)]
    by_cases h1:Lib.indexByte l c=-1
    ·rw [h1] at ih
     simp only [h1,beq_self_eq_true,if_true]
     exact ⟨fun _=>⟨fun e=>hb e.symm,ih.1 (by omega)⟩,fun _=>by omega⟩
    ·rw [if_neg (by simpa using h1)]
     exact ⟨fun h=>by omega,fun h=>absurd (ih.2 h.2) (by omega)⟩
theorem XK (c:UInt8):((c.toNat:Int)).toNat.toUInt8=c:=by simp
structure DM {α:Type} (cf:α→α→Int) (xs:List α):Prop where
 JZ:∀ x∈xs,¬ cf x x < 0
 tr:∀ x∈xs,∀ y∈xs,∀ z∈xs,cf x y < 0→cf y z < 0→cf x z < 0
 XL:∀ x∈xs,∀ y∈xs,∀ z∈xs,¬ cf x y < 0→¬ cf y z < 0→¬ cf x z < 0
def Cw {α:Type} (cf:α→α→Int) (xs:List α):Prop:=xs.Pairwise (fun a b=>¬ cf b a < 0)
theorem DM.mono {α:Type} {cf:α→α→Int} {xs ys:List α} (h:DM cf xs) (hs:∀ y∈ys,y∈xs):DM cf ys:=
 ⟨fun x hx=>h.JZ x (hs x hx),fun x hx y hy z hz=>h.tr x (hs x hx) y (hs y hy) z (hs z hz),fun x hx y hy z hz=>h.XL x (hs x hx) y (hs y hy) z (hs z hz)⟩
def xD {α:Type} (n4:Int) (l7:List α) (n8:Int) (c9:Bool):Option (((List α)×Int)⊕(((List α)×Int)⊕(List α))):=
 if c9=true then
  (idx l7 (aT (n8 - (1:Int)))).bind fun oN=>
  (idx l7 n8).bind fun mB=>
  (idx l7 n8).bind fun jP=>
  (idx (l7.set n8.toNat oN) (aT (n8 - (1:Int)))).bind fun og=>
  some (.inl ((l7.set n8.toNat oN).set (aT (n8 - (1:Int))).toNat mB,aT (n8 - (1:Int))))
 else
  Option.map .inr (some (.inl (l7,aT (n4+(1:Int)))))
def zH {α:Type} (ah:Int) (mA:α→α→Option Int) (n4:Int) (l7:List α) (n8:Int):Option (((List α)×Int)⊕(((List α)×Int)⊕(List α))):=
 if ah < n8 then
  (idx l7 n8).bind fun v10=>
  (idx l7 (aT (n8 - (1:Int)))).bind fun v11=>
  (mA v10 v11).bind fun v12=>
  xD n4 l7 n8 (decide (v12 < (0:Int)))
 else
  xD n4 l7 n8 false
noncomputable def xE {α:Type} (ah:Int) (mA:α→α→Option Int) (n4:Int) (l7:List α) (n8:Int):Option (((List α)×Int)⊕(List α)):=
 iter (fun x:(List α)×Int=>zH ah mA n4 x.1 x.2) (l7,n8)
noncomputable def zI {α:Type} (ah:Int) (aO:Int) (mA:α→α→Option Int) (l3:List α) (n4:Int):Option (((List α)×Int)⊕(List α)):=
 if n4 < aO then
  xE ah mA n4 l3 n4
 else
  Option.map .inr (some l3)
noncomputable def xF {α:Type} (ah:Int) (aO:Int) (mA:α→α→Option Int) (l3:List α) (n4:Int):Option (List α):=
 iter (fun x:(List α)×Int=>zI ah aO mA x.1 x.2) (l3,n4)
noncomputable def Um {α:Type} (ab:List α) (ah:Int) (aO:Int) (mA:α→α→Option Int):Option (List α):=
 xF ah aO mA ab (aT (ah+(1:Int)))
theorem LL {α:Type} (P:List α) (x y:α) (T:List α):((P++y :: x :: T).set (P.length+1) y).set P.length x=P++x :: y :: T:=by
 induction P with
 | nil=>rfl
 | cons p P ih=>simp only [List.cons_append,List.length_cons,List.set_cons_succ,ih]
theorem Io {α:Type} (P:List α) (x:α) (T:List α) {i:Int} (hi:i=P.length):idx (P++x :: T) i=some x:=by
 subst hi
 unfold idx
 rw [if_pos (by omega)]
 simp
theorem Js {α:Type} (mA:α→α→Option Int) (cf:α→α→Int) (n4:Int) (hn:n4≤1000000) (x:α):∀ (k:Nat) (P R post:List α),P.length=k→(P.length:Int)≤1000000→
 (∀ y∈P,mA x y=some (cf x y))→DM cf (x :: (P++R))→Cw cf (P++R)→(∀ r∈R,cf x r < 0)→
 ∃ Z,xE 0 mA n4 (P++x :: (R++post)) P.length=some (.inl (Z++post,aT (n4+1)))∧Z.Perm (x :: (P++R))∧Cw cf Z:=by
 intro k
 induction k with
 | zero=>
   intro P R post hP hl hf hO hs hR
   obtain rfl:P=[]:=List.eq_nil_of_length_eq_zero hP
   refine ⟨x :: R,?_,by simp,?_⟩
   ·unfold xE
    rw [iter_eq,zH,if_neg (by simp),xD,if_neg (by simp),bP];simp
   ·refine List.pairwise_cons.2 ⟨fun r hr iT=>?_,by simpa [Cw] using hs⟩
    have h1:=hR r hr
    exact hO.JZ x (by simp) (hO.tr x (by simp) r (by simp [hr]) x (by simp) h1 iT)
 | succ k ih=>
   intro P R post hP hl hf hO hs hR
   obtain ⟨Q,y,rfl⟩:∃ Q y,P=Q++[y]:=by
    rcases List.eq_nil_or_concat P with h | ⟨Q,y,h⟩
    ·rw [h] at hP;simp at hP
    ·exact ⟨Q,y,by simpa using h⟩
   have hQ:Q.length=k:=by simpa using hP
   have hlen:((Q++[y]).length:Int)=Q.length+1:=by simp
   have hlq:(Q.length:Int)+1≤1000000:=by rw [← hlen];exact hl
   have w1:aT ((Q.length:Int)+1 - 1)=Q.length:=by rw [aZ]<;>omega
   have e1:(Q++[y])++x :: (R++post)=Q++y :: x :: (R++post):=by simp
   have i1:idx (Q++y :: x :: (R++post)) ((Q.length:Int)+1)=some x:=by
    have:=Io (Q++[y]) x (R++post) (i:=(Q.length:Int)+1) (by simp)
    simpa using this
   have i0:idx (Q++y :: x :: (R++post)) (Q.length:Int)=some y:=Io Q y _ rfl
   rw [e1,hlen]
   by_cases hc:cf x y < 0
   ·obtain ⟨Z,z1,z2,z3⟩:=ih Q (y :: R) post hQ (by omega) (fun z hz=>hf z (by simp [hz])) (hO.mono (fun z hz=>by simp at hz ⊢;rcases hz with h | h | h | h<;>simp [h])) (by simpa using hs) (fun r hr=>by rcases List.mem_cons.1 hr with rfl | hr;exact hc;exact hR r hr)
    refine ⟨Z,?_,z2.trans (by simp),z3⟩
    unfold xE at z1 ⊢
    rw [iter_eq,zH,if_pos (by simp only;omega)]
    simp only [i1,w1,i0,Option.bind_some,hf y (by simp),hc,decide_true]
    unfold xD
    rw [if_pos rfl,w1]
    simp only [i0,i1,Option.bind_some]
    have i2:idx ((Q++y :: x :: (R++post)).set ((Q.length:Int)+1).toNat y) (Q.length:Int)=some y:=by
     rw [show ((Q.length:Int)+1).toNat=Q.length+1 by omega]
     unfold idx
     rw [if_pos (by omega),List.getElem?_set_ne (by simp)]
     simp
    rw [i2]
    simp only [Option.bind_some,gi]
    have e2:((Q++y :: x :: (R++post)).set ((Q.length:Int)+1).toNat y).set ((Q.length:Int)).toNat x=Q++x :: (y :: R++post):=by
     rw [show ((Q.length:Int)+1).toNat=Q.length+1 by omega,show ((Q.length:Int)).toNat=Q.length by omega,LL];simp
    rw [e2]
    exact z1
   ·refine ⟨Q++y :: x :: R,?_,?_,?_⟩
    ·unfold xE
     rw [iter_eq,zH,if_pos (by simp only;omega)]
     simp only [i1,w1,i0,Option.bind_some,hf y (by simp),hc,decide_false]
     unfold xD
     rw [if_neg (by simp),bP];simp
    ·have:(Q++y :: x :: R).Perm (x :: (Q++y :: R)):=by
      have h:=List.perm_middle (a:=x) (l₁:=Q++[y]) (l₂:=R)
      simpa using h
     simpa using this
    ·unfold Cw at hs ⊢
     have wj:(Q++y :: R).Pairwise (fun a b=>¬ cf b a < 0):=by simpa using hs
     rw [List.pairwise_append,List.pairwise_cons] at wj ⊢
     obtain ⟨a1,⟨a2,a3⟩,a4⟩:=wj
     have hxQ:∀ q∈Q,¬ cf x q < 0:=fun q hq=>hO.XL x (by simp) y (by simp) q (by simp [hq]) hc (a4 q hq y (by simp))
     refine ⟨a1,⟨fun z hz=>?_,List.pairwise_cons.2 ⟨fun r hr iT=>?_,a3⟩⟩,fun q hq z hz=>?_⟩
     ·rcases List.mem_cons.1 hz with rfl | hz
      ·exact hc
      ·exact a2 z hz
     ·exact hO.JZ x (by simp) (hO.tr x (by simp) r (by simp [hr]) x (by simp) (hR r hr) iT)
     ·rcases List.mem_cons.1 hz with rfl | hz
      ·exact a4 q hq z (by simp)
      ·rcases List.mem_cons.1 hz with rfl | hz
       ·exact hxQ q hq
       ·exact a4 q hq z (by simp [hz])
theorem Jt {α:Type} (mA:α→α→Option Int) (cf:α→α→Int) (xs:List α) (hl:(xs.length:Int)≤100000) (hf:∀ x∈xs,∀ y∈xs,mA x y=some (cf x y)) (hO:DM cf xs):∀ (n:Nat) (P post:List α) (i:Int),i=P.length→post.length=n→(P++post).Perm xs→Cw cf P→
 ∃ Z,xF 0 xs.length mA (P++post) i=some Z∧Z.Perm xs∧Cw cf Z:=by
 intro n
 induction n with
 | zero=>
   intro P post i hi hn hp hs
   obtain rfl:post=[]:=List.eq_nil_of_length_eq_zero hn
   have hlen:=hp.length_eq
   simp only [List.append_nil] at hp hlen ⊢
   refine ⟨P,?_,hp,hs⟩
   unfold xF
   rw [iter_eq,zI,if_neg (by simp only;omega),bP]
 | succ n ih=>
   intro P post i hi hn hp hs
   match post,hn with
   | x :: r,hn=>
     have hlen:=hp.length_eq
     simp only [List.length_append,List.length_cons] at hlen
     have qp:∀ z∈P++x :: r,z∈xs:=fun z hz=>hp.mem_iff.1 hz
     obtain ⟨Z,z1,z2,z3⟩:=Js mA cf i (by omega) x P.length P [] r rfl (by omega) (fun y hy=>hf x (qp x (by simp)) y (qp y (by simp [hy]))) (hO.mono (fun z hz=>qp z (by simp at hz ⊢;rcases hz with h | h<;>simp [h]))) (by simpa using hs) (by simp)
     simp only [List.append_nil,List.nil_append] at z1 z2
     have hzl:=z2.length_eq
     obtain ⟨Y,y1,y2,y3⟩:=ih Z r (i+1) (by rw [hi];simp at hzl;omega) (by simpa using hn) (by
      refine List.Perm.trans ?_ hp
      have:(Z++r).Perm ((x :: P)++r):=z2.append_right r
      refine this.trans ?_
      have h:=List.perm_middle (a:=x) (l₁:=P) (l₂:=r)
      simpa using h.symm) z3
     refine ⟨Y,?_,y2,y3⟩
     unfold xF at y1 ⊢
     rw [iter_eq,zI,if_pos (by simp only;omega)]
     simp only
     rw [← hi] at z1
     rw [z1]
     simp only [Option.bind_some,gi]
     rw [aZ (by omega) (by omega)]
     exact y1
theorem OA {α:Type} (mA:α→α→Option Int) (cf:α→α→Int) (xs:List α) (hl:(xs.length:Int)≤100000) (hf:∀ x∈xs,∀ y∈xs,mA x y=some (cf x y)) (hO:DM cf xs):∃ Z,Um xs 0 xs.length mA=some Z∧Z.Perm xs∧Cw cf Z:=by
 unfold Um
 rw [show aT (0+1)=1 by decide]
 cases xs with
 | nil=>
   refine ⟨[],?_,List.Perm.refl _,.nil⟩
   unfold xF
   rw [iter_eq,zI,if_neg (by simp),bP]
 | cons x r=>
   exact Jt mA cf (x :: r) hl hf hO r.length [x] r 1 (by simp) rfl (List.Perm.refl _) (by simp [Cw])
theorem Q8 {α:Type} {f:α→α→Option Int} {cf:α→α→Int} {x:α} {r:List α} (hf:∀ a∈x :: r,∀ b∈x :: r,f a b=some (cf a b)) (hO:DM cf (x :: r)):Sort.SWO (Go.Proofs.ltOf (qu f x r)):=by
 have e:∀ i j,qu f x r i j=cf (se x r i) (se x r j):=fun i j=>by unfold qu;rw [hf _ (ik x r i) _ (ik x r j)];rfl
 refine ⟨fun i=>?_,fun i j k h1 h2=>?_,fun i j k h1 h2=>?_⟩
 ·unfold Go.Proofs.ltOf;rw [e];simpa using hO.JZ _ (ik x r i)
 ·unfold Go.Proofs.ltOf at *;rw [e] at *
  simp only [decide_eq_true_eq] at *
  exact hO.tr _ (ik x r i) _ (ik x r j) _ (ik x r k) h1 h2
 ·unfold Go.Proofs.ltOf at *;rw [e] at *
  simp only [decide_eq_false_iff_not] at *
  exact hO.XL _ (ik x r i) _ (ik x r j) _ (ik x r k) h1 h2
theorem Ju {α:Type} (x:α) (r:List α):(List.range (r.length+1)).map (se x r)=x :: r:=by
 apply List.ext_getElem?
 intro i
 rw [List.getElem?_map]
 by_cases hi:i < r.length+1
 ·rw [List.getElem?_range hi,Option.map_some]
  unfold se
  rw [List.getD_eq_getElem?_getD,List.getElem?_eq_getElem (l:=x :: r) (by simpa using hi)];rfl
 ·rw [List.getElem?_eq_none (by simp;omega),List.getElem?_eq_none (by simp;omega)];rfl
theorem FJ {α:Type} (f:α→α→Option Int) (cf:α→α→Int) (xs:List α) (hl:xs.length≤100000) (hf:∀ a∈xs,∀ b∈xs,f a b=some (cf a b)) (hO:DM cf xs):∃ Z,Ai f xs=some Z∧Z.Perm xs∧Cw cf Z:=by
 cases xs with
 | nil=>exact ⟨[],rfl,List.Perm.refl _,.nil⟩
 | cons x r=>
   have hS:=Q8 hf hO
   have hlen:r.length+1≤100000:=by simpa using hl
   rw [th,if_pos ⟨by omega,fun a ha b hb=>⟨_,hf a ha b hb⟩,hS⟩]
   have MO:=Sort.pdq_sorts (Go.Proofs.ltOf (qu f x r)) hS (Array.range (r.length+1)) 0 (r.length+1) (Lib.bitLen (r.length+1)) true true (Nat.zero_le _) (by simp) (Or.inl rfl)
   generalize Sort.pdq (Go.Proofs.ltOf (qu f x r)) (Array.range (r.length+1)) 0 (r.length+1) (Lib.bitLen (r.length+1)) true true=d at MO
   obtain ⟨⟨h1,_,h3⟩,h4⟩:=MO
   have hd:d.size=r.length+1:=by simpa using h1
   have nP:d.toList.Perm (List.range (r.length+1)):=by
    have a1:(d.extract 0 (r.length+1)).toList=d.toList:=by
     rw [Array.toList_extract]
     simp [List.extract]
     exact List.take_of_length_le (by simp [hd])
    have a2:((Array.range (r.length+1)).extract 0 (r.length+1)).toList=List.range (r.length+1):=by
     rw [Array.toList_extract]
     simp [List.extract]
    rw [a1,a2] at h3
    exact h3
   refine ⟨_,rfl,?_,?_⟩
   ·have:=nP.map (se x r)
    rw [Ju] at this
    exact this
   ·unfold Cw
    rw [List.pairwise_map,List.pairwise_iff_getElem]
    intro i j hi hj Da
    have PV:i < d.size:=by simpa using hi
    have RI:j < d.size:=by simpa using hj
    have h:=h4 i j (Nat.zero_le _) Da (by omega)
    unfold Go.Proofs.ltOf qu at h
    rw [hf _ (ik x r _) _ (ik x r _)] at h
    simp only [Option.getD_some,decide_eq_false_iff_not] at h
    rw [getElem!_pos d i PV,getElem!_pos d j RI] at h
    simpa using h
theorem tB {α:Type} {cf:α→α→Int}:∀ {X Y:List α},X.Perm Y→Cw cf X→Cw cf Y→(∀ a∈X,∀ b∈X,¬ cf a b < 0→¬ cf b a < 0→a=b)→X=Y
 | [],Y,hp,_,_,_=>by rw [List.nil_perm.1 hp]
 | x :: X,[],hp,_,_,_=>by have:=hp.length_eq;simp at this
 | x :: X,y :: Y,hp,hX,hY,ha=>by
   have BY:x=y:=by
    have hx:x∈y :: Y:=hp.mem_iff.1 (by simp)
    have hy:y∈x :: X:=hp.mem_iff.2 (by simp)
    rcases List.mem_cons.1 hx with h | h
    ·exact h
    ·rcases List.mem_cons.1 hy with h' | h'
     ·exact h'.symm
     ·exact ha x (by simp) y (by simp [h']) ((List.pairwise_cons.1 hY).1 x h) ((List.pairwise_cons.1 hX).1 y h')
   subst BY
   rw [tB (List.Perm.cons_inv hp) (List.pairwise_cons.1 hX).2 (List.pairwise_cons.1 hY).2 (fun a h b h'=>ha a (by simp [h]) b (by simp [h']))]
def uV {α:Type} (n12:Int) (kA:List α) (n17:Int):Option (((List α)×Int×Int)⊕(Int⊕(List α))):=
 some (.inl (kA,n17,aT (n12+(1:Int))))
def xG {α:Type} (Z:α) (l10:List α) (n11:Int):Option (Int⊕(List α)):=
 (sv l10 n11 (l10.length:Int)).bind fun tv=>
 (sv (Cf l10 n11 tv.length Z) (0:Int) n11).bind fun qT=>
 Option.map .inr (some qT)
def rn {α:Type} (Z:α) (oK:α→α→Option Bool) (n2:Int) (l6:List α) (l10:List α) (n11:Int) (n12:Int):Option (((List α)×Int×Int)⊕(Int⊕(List α))):=
 if n12 < (l6.length:Int) then
  (rC l10 n2 l6.length n12).bind fun oN=>
  (rC l10 n2 l6.length (aT (n12 - (1:Int)))).bind fun mB=>
  (oK oN mB).bind fun jP=>
  if (!jP)=true then
   (rC l10 n2 l6.length n12).bind fun G0=>
   (idx l10 n11).bind fun Bp=>
   uV n12 (l10.set n11.toNat G0) (aT (n11+(1:Int)))
  else
   uV n12 l10 n11
 else
  Option.map .inr (xG Z l10 n11)
noncomputable def uW {α:Type} (Z:α) (oK:α→α→Option Bool) (n2:Int) (l6:List α) (l10:List α) (n11:Int) (n12:Int):Option (Int⊕(List α)):=
 iter (fun x:(List α)×Int×Int=>rn Z oK n2 l6 x.1 x.2.1 x.2.2) (l10,n11,n12)
noncomputable def xH {α:Type} (Z:α) (ab:List α) (oK:α→α→Option Bool) (n2:Int):Option (Int⊕(List α)):=
 if n2 < (ab.length:Int) then
  (idx ab n2).bind fun v3=>
  (idx ab (aT (n2 - (1:Int)))).bind fun v4=>
  (oK v3 v4).bind fun v5=>
  if v5=true then
   (sv ab n2 (ab.length:Int)).bind fun l6=>
   uW Z oK n2 l6 ab n2 (1:Int)
  else
   some (.inl (aT (n2+(1:Int))))
 else
  Option.map .inr (some ab)
noncomputable def uX {α:Type} (Z:α) (ab:List α) (oK:α→α→Option Bool) (n2:Int):Option (List α):=
 iter (fun x:Int=>xH Z ab oK x) n2
noncomputable def LM {α:Type} (Z:α) (ab:List α) (oK:α→α→Option Bool):Option (List α):=
 if (ab.length:Int) < (2:Int) then
  some ab
 else
  uX Z ab oK (1:Int)
def zJ {α:Type} (e:α→α→Bool):α→List α→List α
 | _,[]=>[]
 | p,y :: r=>if e y p=true then zJ e y r else y :: zJ e y r
def dd {α:Type} (e:α→α→Bool):List α→List α
 | []=>[]
 | x :: r=>x :: zJ e x r
theorem FK {α:Type} (e:α→α→Bool):∀ (p:α) (ys:List α) (y z:α),zJ e p (ys++[y,z])=if e z y=true then zJ e p (ys++[y]) else zJ e p (ys++[y])++[z]
 | p,[],y,z=>by
   simp only [List.nil_append,zJ]
   by_cases h1:e y p=true<;>by_cases h2:e z y=true<;>simp [h1,h2]
 | p,w :: ys,y,z=>by
   simp only [List.cons_append,zJ,FK e w ys y z]
   by_cases h1:e w p=true<;>by_cases h2:e z y=true<;>simp [h1,h2]
theorem OB {α:Type} (e:α→α→Bool) (ys:List α) (y z:α):dd e (ys++[y,z])=if e z y=true then dd e (ys++[y]) else dd e (ys++[y])++[z]:=by
 cases ys with
 | nil=>
   simp only [List.nil_append,dd,zJ]
   by_cases h2:e z y=true<;>simp [h2]
 | cons w ys=>
   simp only [List.cons_append,dd,FK e w ys y z]
   by_cases h2:e z y=true<;>simp [h2]
theorem LN {α:Type} {xs:List α} {m:Nat} (h1:1≤m) (h2:m < xs.length):xs.take (m+1)=xs.take (m - 1)++[xs[m - 1],xs[m]]∧xs.take m=xs.take (m - 1)++[xs[m - 1]]:=by
 have a:xs.take m=xs.take (m - 1)++[xs[m - 1]]:=by
  have:=List.take_append_getElem (l:=xs) (i:=m - 1) (by omega)
  rw [show m - 1+1=m by omega] at this
  exact this.symm
 refine ⟨?_,a⟩
 have:=List.take_append_getElem (l:=xs) (i:=m) h2
 rw [← this,a,List.append_assoc];rfl
theorem Ip {α:Type} (e:α→α→Bool) {xs:List α} {m:Nat} (h1:1≤m) (h2:m < xs.length):dd e (xs.take (m+1))=if e xs[m] xs[m - 1]=true then dd e (xs.take m) else dd e (xs.take m)++[xs[m]]:=by
 obtain ⟨a,b⟩:=LN h1 h2
 rw [a,b];exact OB e _ _ _
theorem Iq {α:Type} (e:α→α→Bool):∀ (p:α) (r:List α),(zJ e p r).length≤r.length
 | _,[]=>by simp [zJ]
 | p,y :: r=>by
   have:=Iq e y r
   simp only [zJ]
   split<;>simp<;>omega
theorem LO {α:Type} (e:α→α→Bool) (xs:List α):(dd e xs).length≤xs.length:=by
 cases xs with
 | nil=>simp [dd]
 | cons x r=>have:=Iq e x r;simp [dd];omega
theorem zK {α:Type} (e:α→α→Bool):∀ (p:α) (r:List α),(zJ e p r).Sublist r
 | _,[]=>by simp [zJ]
 | p,y :: r=>by
   simp only [zJ]
   split
   ·exact (zK e y r).cons y
   ·exact (zK e y r).cons_cons y
theorem Ha {α:Type} (e:α→α→Bool) (xs:List α):(dd e xs).Sublist xs:=by
 cases xs with
 | nil=>simp [dd]
 | cons x r=>exact (zK e x r).cons_cons x
theorem OC {α:Type} {xs:List α} {i:Int} (h0:0≤i) (h1:i.toNat < xs.length):idx xs i=some xs[i.toNat]:=by
 unfold idx;rw [if_pos h0];simp [h1]
theorem Q9 {α:Type} (Z:α) (l:List α) {k:Int} (h0:0≤k) (h1:k≤l.length):xG Z l k=some (.inr (l.take k.toNat)):=by
 unfold xG
 rw [wL h0 h1 (by omega)]
 simp only [Option.bind_some]
 have hlen:(((l.drop k.toNat).take (((l.length:Int)).toNat - k.toNat)).length)=l.length - k.toNat:=by simp
 rw [hlen,wL (by omega) h0 (by unfold Cf;simp;omega)]
 simp only [Option.bind_some,Option.map_some,Option.some.injEq,Sum.inr.injEq]
 unfold Cf
 simp only [Int.toNat_zero,List.drop_zero,Nat.sub_zero]
 rw [List.append_assoc,List.take_append_of_le_length (by simp;omega),List.take_take]
 congr 1;omega
theorem Jv {α:Type} (Z:α) (oK:α→α→Option Bool) (e:α→α→Bool) (xs:List α) (hl:(xs.length:Int)≤100000) (hf:∀ x∈xs,∀ y∈xs,oK x y=some (e x y)) (k0:Int) (h0:1≤k0) (h1:k0 < xs.length) (l6:List α) (hl6:(l6.length:Int)=xs.length - k0):∀ (n:Nat) (l:List α) (k k2:Int),1≤k2→k2+n=l6.length→l.length=xs.length→0≤k→k≤k0+k2 - 1→
 l.drop (k0+k2 - 1).toNat=xs.drop (k0+k2 - 1).toNat→l.take k.toNat=dd e (xs.take (k0+k2).toNat)→uW Z oK k0 l6 l k k2=some (.inr (dd e xs)):=by
 intro n
 induction n with
 | zero=>
   intro l k k2 g1 g2 g3 g4 g5 g6 g7
   unfold uW
   rw [iter_eq,rn,if_neg (by simp only;omega),bP,Q9 Z l g4 (by omega),g7,List.take_of_length_le (by omega)]
 | succ n ih=>
   intro l k k2 g1 g2 g3 g4 g5 g6 g7
   have w1:aT (k2+1)=k2+1:=by rw [aZ]<;>omega
   have w2:aT (k2 - 1)=k2 - 1:=by rw [aZ]<;>omega
   have w3:aT (k+1)=k+1:=by rw [aZ]<;>omega
   have R8:∀ m:Nat,(k0+k2 - 1).toNat≤m→l[m]? =xs[m]?:=by
    intro m hm
    have:=congrArg (fun q:List α=>q[m - (k0+k2 - 1).toNat]?) g6
    simp only [List.getElem?_drop] at this
    rw [show (k0+k2 - 1).toNat+(m - (k0+k2 - 1).toNat)=m by omega] at this
    exact this
   have Sk:(k0+k2).toNat < xs.length:=by omega
   have e1:rC l k0 l6.length k2=some xs[(k0+k2).toNat]:=by
    unfold rC
    rw [if_pos ⟨by omega,by omega,by omega⟩]
    unfold idx
    rw [if_pos (by omega),R8 _ (by omega)];simp [Sk]
   have e2:rC l k0 l6.length (k2 - 1)=some xs[(k0+k2).toNat - 1]:=by
    unfold rC
    rw [if_pos ⟨by omega,by omega,by omega⟩]
    unfold idx
    rw [if_pos (by omega),R8 _ (by omega),show (k0+(k2 - 1)).toNat=(k0+k2).toNat - 1 by omega,List.getElem?_eq_getElem (by omega)]
   have Db:=Ip e (xs:=xs) (m:=(k0+k2).toNat) (by omega) Sk
   rw [show (k0+k2).toNat+1=(k0+(k2+1)).toNat by omega] at Db
   unfold uW at ih ⊢
   rw [iter_eq,rn,if_pos (by simp only;omega)]
   simp only [w2,e1,e2,Option.bind_some,hf _ (List.getElem_mem Sk) _ (List.getElem_mem (show (k0+k2).toNat - 1 < xs.length by omega))]
   unfold uV
   rw [w1]
   by_cases hc:e xs[(k0+k2).toNat] xs[(k0+k2).toNat - 1]=true
   ·rw [if_pos hc] at Db
    rw [hc,if_neg (by simp)]
    simp only [Option.bind_some,gi]
    refine ih l k (k2+1) (by omega) (by omega) g3 g4 (by omega) ?_ (by rw [g7,Db])
    have:=congrArg (List.drop 1) g6
    rw [List.drop_drop,List.drop_drop,show (k0+k2 - 1).toNat+1=(k0+(k2+1) - 1).toNat by omega] at this
    exact this
   ·rw [if_neg hc] at Db
    rw [Bool.not_eq_true] at hc
    rw [hc,if_pos (by simp)]
    obtain ⟨y,hy,_,_⟩:=fY l (i:=k) g4 (by omega)
    simp only [hy,Option.bind_some,gi,w3]
    refine ih (l.set k.toNat _) (k+1) (k2+1) (by omega) (by omega) (by simpa using g3) (by omega) (by omega) ?_ ?_
    ·apply List.ext_getElem?
     intro m
     rw [List.getElem?_drop,List.getElem?_drop,List.getElem?_set_ne (by omega),R8 _ (by omega)]
    ·rw [Db,← g7,show (k+1).toNat=k.toNat+1 by omega]
     apply List.ext_getElem?
     intro m
     have U0:k.toNat < l.length:=by omega
     by_cases hm:m < k.toNat
     ·rw [List.getElem?_take,if_pos (by omega),List.getElem?_set_ne (by omega),List.getElem?_append_left (by simp;omega),List.getElem?_take,if_pos hm]
     ·by_cases hm2:m=k.toNat
      ·subst hm2
       rw [List.getElem?_take,if_pos (by omega),List.getElem?_set_self U0,List.getElem?_append_right (by simp only [List.length_take];omega)]
       simp [Nat.min_eq_left (Nat.le_of_lt U0)]
      ·rw [List.getElem?_eq_none (by simp;omega),List.getElem?_eq_none (by simp;omega)]
theorem FM {α:Type} (Z:α) (oK:α→α→Option Bool) (e:α→α→Bool) (xs:List α) (hl:(xs.length:Int)≤100000) (hf:∀ x∈xs,∀ y∈xs,oK x y=some (e x y)):LM Z xs oK=some (dd e xs):=by
 unfold LM
 by_cases h2:(xs.length:Int) < 2
 ·rw [if_pos h2]
  cases xs with
  | nil=>rfl
  | cons x r=>
    cases r with
    | nil=>rfl
    | cons y r=>simp only [List.length_cons] at h2;omega
 ·rw [if_neg h2]
  have key:∀ (n:Nat) (i:Int),1≤i→i+n=xs.length→dd e (xs.take i.toNat)=xs.take i.toNat→uX Z xs oK i=some (dd e xs):=by
   intro n
   induction n with
   | zero=>
     intro i h0 h1 hd
     unfold uX
     rw [iter_eq,xH,if_neg (by omega),bP]
     rw [List.take_of_length_le (by omega)] at hd
     rw [hd]
   | succ n ih=>
     intro i h0 h1 hd
     have w1:aT (i+1)=i+1:=by rw [aZ]<;>omega
     have w2:aT (i - 1)=i - 1:=by rw [aZ]<;>omega
     have hm:i.toNat < xs.length:=by omega
     have e1:=OC (xs:=xs) (i:=i) (by omega) hm
     have e2:idx xs (i - 1)=some xs[i.toNat - 1]:=by
      unfold idx
      rw [if_pos (by omega),show (i - 1).toNat=i.toNat - 1 by omega,List.getElem?_eq_getElem (by omega)]
     have Db:=Ip e (xs:=xs) (m:=i.toNat) (by omega) hm
     rw [show i.toNat+1=(i+1).toNat by omega] at Db
     unfold uX at ih ⊢
     rw [iter_eq,xH,if_pos (by omega)]
     simp only [w2,e1,e2,Option.bind_some,hf _ (List.getElem_mem hm) _ (List.getElem_mem (show i.toNat - 1 < xs.length by omega))]
     by_cases hc:e xs[i.toNat] xs[i.toNat - 1]=true
     ·rw [if_pos hc] at Db
      rw [hc,if_pos rfl,wL (by omega) (by omega) (by omega)]
      simp only [Option.bind_some]
      have hlen:((((xs.drop i.toNat).take (((xs.length:Int)).toNat - i.toNat)).length:Nat):Int)=xs.length - i:=by simp;omega
      rw [Jv Z oK e xs hl hf i h0 (by omega) _ hlen n xs i 1 (by omega) (by rw [hlen];omega) rfl (by omega) (by omega) rfl (by rw [Db,hd])]
      rfl
     ·rw [if_neg hc] at Db
      rw [Bool.not_eq_true] at hc
      rw [hc,if_neg (by simp),w1]
      simp only [Option.bind_some,gi]
      refine ih (i+1) (by omega) (by omega) ?_
      rw [Db,hd]
      have:=List.take_append_getElem (l:=xs) (i:=i.toNat) hm
      rw [this,show i.toNat+1=(i+1).toNat by omega]
  refine key (xs.length - 1) 1 (by omega) (by omega) ?_
  cases xs with
  | nil=>simp at h2
  | cons x r=>rfl
def DN {α:Type} [DecidableEq α] (Z:α) (n2:Int) (l5:List α) (l9:List α) (n10:Int) (n11:Int):Option (((List α)×Int×Int)⊕(Int⊕(List α))):=
 if n11 < (l5.length:Int) then
  (rC l9 n2 l5.length n11).bind fun v12=>
  (rC l9 n2 l5.length (aT (n11 - (1:Int)))).bind fun oN=>
  if v12≠oN then
   (rC l9 n2 l5.length n11).bind fun og=>
   (idx l9 n10).bind fun v17=>
   uV n11 (l9.set n10.toNat og) (aT (n10+(1:Int)))
  else
   uV n11 l9 n10
 else
  Option.map .inr (xG Z l9 n10)
noncomputable def Ir {α:Type} [DecidableEq α] (Z:α) (n2:Int) (l5:List α) (l9:List α) (n10:Int) (n11:Int):Option (Int⊕(List α)):=
 iter (fun x:(List α)×Int×Int=>DN Z n2 l5 x.1 x.2.1 x.2.2) (l9,n10,n11)
noncomputable def Is {α:Type} [DecidableEq α] (Z:α) (ab:List α) (n2:Int):Option (Int⊕(List α)):=
 if n2 < (ab.length:Int) then
  (idx ab n2).bind fun v3=>
  (idx ab (aT (n2 - (1:Int)))).bind fun v4=>
  if v3=v4 then
   (sv ab n2 (ab.length:Int)).bind fun l5=>
   Ir Z n2 l5 ab n2 (1:Int)
  else
   some (.inl (aT (n2+(1:Int))))
 else
  Option.map .inr (some ab)
noncomputable def Un {α:Type} [DecidableEq α] (Z:α) (ab:List α):Option (List α):=
 if (ab.length:Int) < (2:Int) then
  some ab
 else
  iter (fun x:Int=>Is Z ab x) (1:Int)
def tT {α:Type} [DecidableEq α] (a b:α):Bool:=decide (a=b)
theorem Hb {α:Type} [DecidableEq α] (Z:α) (n2:Int) (l5 l9:List α) (n10 n11:Int):DN Z n2 l5 l9 n10 n11=rn Z (fun a b=>some (tT a b)) n2 l5 l9 n10 n11:=by
 unfold DN rn
 congr 1
 congr 1;funext v12
 congr 1;funext oN
 simp only [Option.bind_some,tT]
 by_cases h:v12=oN<;>simp [h]
theorem Iu {α:Type} [DecidableEq α] (Z:α) (xs:List α) (hl:(xs.length:Int)≤100000):Un Z xs=some (dd tT xs):=by
 rw [← FM Z (fun a b=>some (tT a b)) tT xs hl (fun x _ y _=>rfl)]
 unfold Un LM uX
 congr 2
 funext i
 unfold Is xH Ir uW
 congr 1
 congr 1;funext v3
 congr 1;funext v4
 have:(fun x:(List α)×Int×Int=>rn Z (fun a b=>some (tT a b)) i ((xs.drop 0)) x.1 x.2.1 x.2.2)=fun x=>rn Z (fun a b=>some (tT a b)) i (xs.drop 0) x.1 x.2.1 x.2.2:=rfl
 simp only [Option.bind_some,Hb]
 by_cases h:v3=v4
 ·simp [h,tT]
 ·simp [h,tT]
structure oS {α:Type} (c:α→α→Int):Prop where
 neg:∀ a b,c a b=- c b a
 tr:∀ {a b d},c a b < 0→c b d < 0→c a d < 0
 cg:∀ {a b d},c a b=0→c b d < 0→c a d < 0
theorem oS.zero {α:Type} {c:α→α→Int} (h:oS c) (a:α):c a a=0:=by have:=h.neg a a;omega
theorem oS.XM {α:Type} {c:α→α→Int} (h:oS c) {a b d:α} (h0:c a b=0) (h1:c d a < 0):c d b < 0:=by
 have n1:=h.neg d b
 have n2:=h.neg a b
 have n3:=h.neg d a
 by_cases e:c d b=0
 ·have:=h.cg e (d:=a)
  by_cases k:c b a < 0
  ·omega
  ·have e2:c b d=0:=by have:=h.neg b d;omega
   have:=h.cg e2 (d:=a) h1
   omega
 ·by_cases k:c d b < 0
  ·exact k
  ·have k1:c b d < 0:=by omega
   have k2:=h.tr k1 h1
   omega
theorem oS.lex {α:Type} {c1 c2:α→α→Int} (h1:oS c1) (h2:oS c2):oS (fun a b=>if c1 a b≠0 then c1 a b else c2 a b):=by
 refine ⟨fun a b=>?_,fun {a b d}=>?_,fun {a b d}=>?_⟩
 ·have n1:=h1.neg a b;have n2:=h2.neg a b
  repeat' split
  all_goals omega
 ·intro k1 k2
  by_cases e1:c1 a b=0
  ·by_cases e2:c1 b d=0
   ·have e3:c1 a d=0:=by
     have n1:=h1.neg a d
     have n2:=h1.neg b d
     have n3:=h1.neg a b
     by_cases k:c1 a d < 0
     ·have:=h1.cg (a:=b) (b:=a) (d:=d) (by omega) k;omega
     ·by_cases k':c1 d a < 0
      ·have:=h1.XM (a:=a) (b:=b) (d:=d) e1 k';omega
      ·omega
    rw [if_neg (by simpa using e1)] at k1
    rw [if_neg (by simpa using e2)] at k2
    rw [if_neg (by simpa using e3)]
    exact h2.tr k1 k2
   ·rw [if_pos e2] at k2
    have:=h1.cg e1 k2
    rw [if_pos (by omega)];exact this
  ·rw [if_pos e1] at k1
   by_cases e2:c1 b d=0
   ·have:=h1.XM e2 k1
    rw [if_pos (by omega)];exact this
   ·rw [if_pos e2] at k2
    have:=h1.tr k1 k2
    rw [if_pos (by omega)];exact this
 ·intro k1 k2
  by_cases e1:c1 a b=0
  ·rw [if_neg (by simpa using e1)] at k1
   by_cases e2:c1 b d=0
   ·have e3:c1 a d=0:=by
     have n1:=h1.neg a d
     have n2:=h1.neg b d
     have n3:=h1.neg a b
     by_cases k:c1 a d < 0
     ·have:=h1.cg (a:=b) (b:=a) (d:=d) (by omega) k;omega
     ·by_cases k':c1 d a < 0
      ·have:=h1.XM (a:=a) (b:=b) (d:=d) e1 k';omega
      ·omega
    rw [if_neg (by simpa using e2)] at k2
    rw [if_neg (by simpa using e3)]
    exact h2.cg k1 k2
   ·rw [if_pos e2] at k2
    have:=h1.cg e1 k2
    rw [if_pos (by omega)];exact this
  ·rw [if_pos e1] at k1;exact absurd k1 e1
theorem oS.on {α β:Type} {c:α→α→Int} (h:oS c) (f:β→α):oS (fun a b=>c (f a) (f b)):=
 ⟨fun a b=>h.neg _ _,fun h1 h2=>h.tr h1 h2,fun h1 h2=>h.cg h1 h2⟩
theorem DO:oS tA:=by
 refine ⟨fun a b=>?_,fun {a b d}=>?_,fun {a b d}=>?_⟩<;>unfold tA<;>repeat' split
 all_goals omega
theorem zL:∀ {a b c:List UInt8},Lib.compareBytes a b < 0→Lib.compareBytes b c < 0→Lib.compareBytes a c < 0
 | [],[],c,h1,h2=>by simp [Lib.compareBytes] at h1
 | [],_ :: _,[],h1,h2=>by simp [Lib.compareBytes] at h2
 | [],_ :: _,_ :: _,h1,h2=>by simp [Lib.compareBytes]
 | _ :: _,[],c,h1,h2=>by simp [Lib.compareBytes] at h1
 | _ :: _,_ :: _,[],h1,h2=>by simp [Lib.compareBytes] at h2
 | a :: la,b :: lb,c :: lc,h1,h2=>by
   simp only [Lib.compareBytes] at h1 h2 ⊢
   rcases yq a b with h | h | h
   ·rcases yq b c with k | k | k
    ·rw [if_pos (UInt8.lt_trans h k)];omega
    ·subst k;rw [if_pos h];omega
    ·rw [if_neg (sN k),if_pos k] at h2;omega
   ·subst h
    rcases yq a c with k | k | k
    ·rw [if_pos k];omega
    ·subst k
     rw [if_neg (by simp),if_neg (by simp)] at h1 h2 ⊢
     exact zL h1 h2
    ·rw [if_neg (sN k),if_pos k] at h2;omega
   ·rw [if_neg (sN h),if_pos h] at h1;omega
theorem pb:oS Lib.compareBytes:=⟨rl,zL,fun h1 h2=>by rw [lE h1];exact h2⟩
theorem Cx {a b:Int} (h:tA a b=0):a=b:=by
 unfold tA at h
 repeat' split at h
 all_goals omega
theorem oS.ord {α:Type} {c:α→α→Int} (h:oS c) (xs:List α):DM c xs:=by
 refine ⟨fun x _ k=>?_,fun x _ y _ z _ h1 h2=>h.tr h1 h2,fun x _ y _ z _ h1 h2 h3=>?_⟩
 ·have:=h.zero x;omega
 ·have n1:=h.neg x y
  have n2:=h.neg y z
  by_cases h4:c x y=0
  ·have h5:c y x=0:=by omega
   exact h2 (h.cg h5 h3)
  ·have:c y x < 0:=by omega
   exact h2 (h.tr this h3)
theorem LP {α:Type} [DecidableEq α] (x:α):∀ (p:α) (r:List α),x∈r→x=p∨x∈zJ tT p r
 | _,[],h=>by simp at h
 | p,y :: r,h=>by
   simp only [zJ]
   by_cases hc:tT y p=true
   ·rw [if_pos hc]
    have hyp:y=p:=by simpa [tT] using hc
    rcases List.mem_cons.1 h with rfl | h
    ·exact .inl hyp
    ·rcases LP x y r h with h' | h'
     ·exact .inl (h'.trans hyp)
     ·exact .inr h'
   ·rw [if_neg hc]
    rcases List.mem_cons.1 h with rfl | h
    ·exact .inr (by simp)
    ·rcases LP x y r h with h' | h'
     ·exact .inr (by simp [h'])
     ·exact .inr (by simp [h'])
theorem XN {α:Type} [DecidableEq α] {x:α} {xs:List α} (h:x∈xs):x∈dd tT xs:=by
 cases xs with
 | nil=>simp at h
 | cons y r=>
   simp only [dd]
   rcases List.mem_cons.1 h with rfl | h
   ·simp
   ·rcases LP x y r h with h' | h'
    ·simp [h']
    ·simp [h']
def jJ {α:Type} (xs:List α) (i:Int):Option α:=if i≤0 then none else idx xs (i - 1)
def A6 {α:Type} (st:Option α→α→Int):Option α→List α→Int
 | _,[]=>0
 | p,s :: r=>if st p s=0 then A6 st (some s) r else st p s
theorem Cy {α:Type} (st:Option α→α→Int) (xs:List α) (f:Int→Option (Int⊕Int)) (hf:∀ {i:Int} {s:α},0≤i→i < xs.length→idx xs i=some s→f i=some (if st (jJ xs i) s=0 then .inl (i+1) else .inr (st (jJ xs i) s)))
 (he:f xs.length=some (.inr 0)):∀ (n:Nat) (i:Int),0≤i→i+n=xs.length→iter f i=some (A6 st (jJ xs i) (xs.drop i.toNat))
 | 0,i,h0,hn=>by
   obtain rfl:i=xs.length:=by omega
   rw [iter_eq,he,List.drop_of_length_le (by omega)];rfl
 | n+1,i,h0,hn=>by
   obtain ⟨s,hs,_,hd⟩:=fY xs h0 (by omega)
   rw [iter_eq,hf h0 (by omega) hs,hd]
   simp only [Option.bind_some,A6]
   split
   ·have hp:jJ xs (i+1)=some s:=by unfold jJ;rw [if_neg (by omega),show i+1 - 1=i by omega,hs]
    have:=Cy st xs f hf he n (i+1) (by omega) (by omega)
    rw [gi,this,hp]
   ·rfl
theorem FN {α:Type} (st:Option α→α→Int) (xs:List α) (f:Int→Option (Int⊕Int)) (hf:∀ {i:Int} {s:α},0≤i→i < xs.length→idx xs i=some s→f i=some (if st (jJ xs i) s=0 then .inl (i+1) else .inr (st (jJ xs i) s)))
 (he:f xs.length=some (.inr 0)):iter f 0=some (A6 st none xs):=by
 rw [Cy st xs f hf he xs.length 0 (by omega) (by omega)];rfl
theorem Uo {α:Type} {B:α→Prop} {xs:List α} {i:Nat} {y:α} (h:∀ x∈xs,B x) (hy:B y):∀ x∈xs.set i y,B x:=by
 intro x hx
 rcases List.mem_or_eq_of_mem_set hx with h1 | h1
 ·exact h x h1
 ·rw [h1];exact hy
theorem DP {α:Type} {n:Nat} {m:Option (List α)} {Z:List α} (h:m=some Z) (hl:Z.length=n):kD n (fun r:List α=>r.length) m=some Z:=by
 rw [h];unfold kD
 simp only [Option.bind_some]
 rw [if_pos hl]
end Go.Beacon
set_option linter.unusedSectionVars false
namespace Go.Beacon
open Go Go.Eng
class xI (K:Type) [wB K]:Prop where
 JZ:∀ a:K,wB.lt a a=false
 tr:∀ {a b c:K},wB.lt a b=true→wB.lt b c=true→wB.lt a c=true
 Ra:∀ a b:K,wB.lt a b=true∨a=b∨wB.lt b a=true
instance:xI Int where
 JZ a:=by show decide (a < a)=false;simp
 tr {a b c} h1 h2:=by
  have h1:decide (a < b)=true:=h1
  have h2:decide (b < c)=true:=h2
  show decide (a < c)=true
  simp only [decide_eq_true_eq] at *;omega
 Ra a b:=by
  show decide (a < b)=true∨a=b∨decide (b < a)=true
  simp only [decide_eq_true_eq];omega
instance:xI Bool where
 JZ a:=by cases a<;>rfl
 tr {a b c} h1 h2:=by revert h1 h2;cases a<;>cases b<;>cases c<;>decide
 Ra a b:=by cases a<;>cases b<;>decide
instance:xI (List UInt8) where
 JZ a:=by
  show Op.bytesLess a a=false
  rw [rm,yp];rfl
 tr {a b c} h1 h2:=by
  have h1:Op.bytesLess a b=true:=h1
  have h2:Op.bytesLess b c=true:=h2
  show Op.bytesLess a c=true
  rw [rm,decide_eq_true_eq] at *
  exact pb.tr h1 h2
 Ra a b:=by
  show Op.bytesLess a b=true∨a=b∨Op.bytesLess b a=true
  rw [rm,rm,decide_eq_true_eq,decide_eq_true_eq]
  rcases Int.lt_trichotomy (Lib.compareBytes a b) 0 with h | h | h
  ·exact .inl h
  ·exact .inr (.inl (lE h))
  ·exact .inr (.inr (by have:=pb.neg a b;omega))
section
variable {K V:Type} [DecidableEq K]
theorem nX (e:K×V) (m:List (K×V)) (k:K):eB (e :: m) k=if e.1=k then some e.2 else eB m k:=rfl
theorem yr (m:List (K×V)) (k k':K):eB (An m k) k'=if k=k' then none else eB m k':=by
 induction m with
 | nil=>simp [An,eB]
 | cons e r ih=>
   unfold An at ih ⊢
   rw [List.filter_cons]
   by_cases h:e.1=k
   ·rw [if_neg (by simp [h]),ih,nX]
    by_cases h2:k=k'
    ·rw [if_pos h2,if_pos h2]
    ·rw [if_neg h2,if_neg h2,if_neg (by rw [h];exact h2)]
   ·rw [if_pos (by simp [h]),nX,ih,nX]
    by_cases h2:k=k'
    ·rw [if_pos h2,if_pos h2,if_neg (by rw [← h2];exact h)]
    ·rw [if_neg h2,if_neg h2]
variable [wB K]
theorem Cz (k:K) (v:V) (k':K):∀ (m:List (K×V)),eB m k=none→eB (BI k v m) k'=if k=k' then some v else eB m k'
 | [],_=>by simp [BI,eB]
 | e :: r,h=>by
   rw [nX] at h
   have h1:e.1≠k:=fun he=>by rw [if_pos he] at h;cases h
   rw [if_neg h1] at h
   unfold BI
   split
   ·rw [nX,Cz k v k' r h,nX]
    by_cases h2:k=k'
    ·rw [if_pos h2,if_pos h2,if_neg (by rw [← h2];exact h1)]
    ·rw [if_neg h2,if_neg h2]
   ·rw [nX]
theorem sQ (m:List (K×V)) (k:K) (v:V) (k':K):eB (gV m k v) k'=if k=k' then some v else eB m k':=by
 unfold gV
 rw [Cz k v k' _ (by rw [yr,if_pos rfl]),yr]
 by_cases h:k=k'
 ·rw [if_pos h,if_pos h]
 ·rw [if_neg h,if_neg h,if_neg h]
def SM (m:List (K×V)):Prop:=m.Pairwise (fun a b=>wB.lt a.1 b.1=true)
theorem SM.nil:SM ([]:List (K×V)):=List.Pairwise.nil
theorem SM.del {m:List (K×V)} (h:SM m) (k:K):SM (An m k):=List.Pairwise.filter _ h
variable [xI K]
theorem SM.ne {m:List (K×V)} (h:SM m):m.Pairwise (fun a b=>a.1≠b.1):=
 List.Pairwise.imp (fun {a b} h e=>by rw [e,xI.JZ] at h;cases h) h
theorem SM.nodup {m:List (K×V)} (h:SM m):(m.map Prod.fst).Nodup:=by
 unfold List.Nodup
 rw [List.pairwise_map]
 exact SM.ne h
theorem Iv (k:K) (v:V):∀ {m:List (K×V)},SM m→eB m k=none→SM (BI k v m)
 | [],_,_=>by unfold BI SM;simp
 | e :: r,h,hn=>by
   have h':=List.pairwise_cons.1 h
   rw [nX] at hn
   have h1:e.1≠k:=fun he=>by rw [if_pos he] at hn;cases hn
   rw [if_neg h1] at hn
   unfold BI
   split
   ·rename_i iT
    refine List.pairwise_cons.2 ⟨fun z hz=>?_,Iv k v h'.2 hn⟩
    rcases List.mem_cons.1 ((vn k v r).mem_iff.1 hz) with rfl | hz
    ·exact iT
    ·exact h'.1 z hz
   ·rename_i iT
    have hke:wB.lt k e.1=true:=by
     rcases xI.Ra k e.1 with h | h | h
     ·exact h
     ·exact absurd h.symm h1
     ·exact absurd h iT
    refine List.pairwise_cons.2 ⟨fun z hz=>?_,h⟩
    rcases List.mem_cons.1 hz with rfl | hz
    ·exact hke
    ·exact xI.tr hke (h'.1 z hz)
theorem SM.set {m:List (K×V)} (h:SM m) (k:K) (v:V):SM (gV m k v):=
 Iv k v (h.del k) (by rw [yr,if_pos rfl])
theorem SM.xJ {m:List (K×V)} (h:SM m) {k:K} {v:V}:eB m k=some v↔(k,v)∈m:=
 ⟨Ao,uA h.nodup⟩
end
section
variable {E S A:Type}
theorem CA (b:E→S→Option (S⊕A)) (f:S→Option A) (es:List E) (r:A) (Inv:List E→S→Prop)
 (hs:∀ done e rest s,(done++e :: rest).Perm es→Inv done s→(∃ s',b e s=some (.inl s')∧Inv (done++[e]) s')∨b e s=some (.inr r))
 (hf:∀ p s,p.Perm es→Inv p s→f s=some r):∀ (rest done:List E) (s:S),(done++rest).Perm es→Inv done s→rW b f rest s=some r
 | [],done,s,hp,hi=>hf done s (by simpa using hp) hi
 | e :: rest,done,s,hp,hi=>by
   show (b e s).bind (after (rW b f rest))=some r
   rcases hs done e rest s hp hi with ⟨s',h1,h2⟩ | h1
   ·rw [h1]
    simp only [Option.bind_some,gi]
    exact CA b f es r Inv hs hf rest (done++[e]) s' (by simpa using hp) h2
   ·rw [h1];rfl
theorem Jw (b:E→S→Option (S⊕A)) (f:S→Option A) (es:List E) (s0:S) (r:A) (Inv:List E→S→Prop) (h0:Inv [] s0)
 (hs:∀ done e rest s,(done++e :: rest).Perm es→Inv done s→(∃ s',b e s=some (.inl s')∧Inv (done++[e]) s')∨b e s=some (.inr r))
 (hf:∀ p s,p.Perm es→Inv p s→f s=some r):Ap es (fun p=>rW b f p s0)=some r:=
 KZ fun p hp=>CA b f es r Inv hs hf p [] s0 (by simpa using hp) h0
end
end Go.Beacon
