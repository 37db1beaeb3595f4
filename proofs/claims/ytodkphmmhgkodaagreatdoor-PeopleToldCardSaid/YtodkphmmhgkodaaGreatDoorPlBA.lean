/- Plain facts on what the functions compute. No program in sight. -/
import Derived.Test.YtodkphmmhgkodaaGreatDoorCore
set_option linter.unusedVariables false
namespace Go.Beacon
open Go Go.Eng
theorem aU {x:Int} (h1:-9223372036854775808≤x) (h2:x≤9223372036854775807):aL x=x:=Il ⟨h1,h2⟩
theorem HO {a b:Int} (h:0 < b) (h0:0≤a) (h1:a≤9223372036854775807):quo a b=some (a / b):=by
 unfold quo
 rw [if_neg (by omega),Int.tdiv_eq_ediv_of_nonneg h0,aU]
 ·have:=Int.ediv_nonneg h0 (Int.le_of_lt h);omega
 ·have:=Int.ediv_le_self b h0;omega
theorem Nk {a b:Int} (h:0 < b) (h0:0≤a):rem a b=some (a % b):=by
 unfold rem
 rw [if_neg (by omega),Int.tmod_eq_emod_of_nonneg h0]
theorem Pr {a b:Int} (h:b≠0):rem a b=some (a.tmod b):=by unfold rem;rw [if_neg h]
theorem KV {a b:Int} (h:b≠0):quo a b=some (aL (a.tdiv b)):=by unfold quo;rw [if_neg h]
theorem jY {α:Type} (xs:List α) {i:Int} (h0:0≤i) (h1:i < xs.length):∃ x,idx xs i=some x∧x∈xs∧xs.drop i.toNat=x :: xs.drop (i+1).toNat:=by
 have h:i.toNat < xs.length:=by omega
 refine ⟨xs[i.toNat],by unfold idx;rw [if_pos h0];simp [h],List.getElem_mem h,?_⟩
 rw [show (i+1).toNat=i.toNat+1 by omega]
 exact List.drop_eq_getElem_cons h
theorem na {α:Type} {xs:List α} {i:Int} {x:α} (h:idx xs i=some x):x∈xs:=List.mem_of_getElem? (fg h).2.2
theorem KW {α:Type} {xs:List α} {i:Int} {x:α} (h:idx xs i=some x):xs.drop i.toNat=x :: xs.drop (i+1).toNat:=by
 obtain ⟨h0,h1,_⟩:=fg h
 obtain ⟨y,hy,_,hd⟩:=jY xs h0 h1
 rw [h] at hy;obtain rfl:=Option.some.inj hy
 exact hd
theorem mh {α:Type} {xs ys:List α} (h:xs.length+ys.length≤1000000000):app xs ys=some (xs++ys):=by unfold app;rw [if_pos h]
theorem Eg {α:Type} {xs:List α} {l h:Int} (h0:0≤l) (h1:l≤h) (h2:h≤xs.length):Bq xs l h=some ((xs.drop l.toNat).take (h.toNat - l.toNat)):=by
 unfold Bq;rw [if_pos ⟨h0,h1,h2⟩]
def B3 {α σ A:Type} (step:σ→α→Int→Option (σ⊕A)) (fin:σ→Int→Option A):List α→σ→Int→Option A
 | [],s,i=>fin s i
 | x :: r,s,i=>match step s x i with
   | none=>none
   | some (.inl s')=>B3 step fin r s' (i+1)
   | some (.inr a)=>some a
theorem B4 {α σ A X:Type} (xs:List α) (mk:σ→Int→X) (f:X→Option (X⊕A)) (step:σ→α→Int→Option (σ⊕A)) (fin:σ→Int→Option A)
 (h1:∀ s (i:Int) x,0≤i→i < xs.length→idx xs i=some x→f (mk s i)=(step s x i).map (Sum.map (fun s'=>mk s' (i+1)) id))
 (h2:∀ s,f (mk s xs.length)=(fin s xs.length).map .inr):∀ (n:Nat) (s:σ) (i:Int),0≤i→i+n=xs.length→iter f (mk s i)=B3 step fin (xs.drop i.toNat) s i
 | 0,s,i,h0,hn=>by
   have hi:i=xs.length:=by omega
   subst hi
   rw [iter_eq,h2,bV]
   simp [B3]
 | n+1,s,i,h0,hn=>by
   obtain ⟨x,hx,_,hd⟩:=jY xs h0 (by omega)
   rw [iter_eq,h1 s i x h0 (by omega) hx,hd]
   simp only [B3]
   cases xn:step s x i with
   | none=>rfl
   | some u=>
     cases u with
     | inl s'=>exact B4 xs mk f step fin h1 h2 n s' (i+1) (by omega) (by omega)
     | inr a=>rfl
theorem FR {α σ A X:Type} (xs:List α) (mk:σ→Int→X) (f:X→Option (X⊕A)) (step:σ→α→Int→Option (σ⊕A)) (fin:σ→Int→Option A)
 (h1:∀ s (i:Int) x,0≤i→i < xs.length→idx xs i=some x→f (mk s i)=(step s x i).map (Sum.map (fun s'=>mk s' (i+1)) id))
 (h2:∀ s,f (mk s xs.length)=(fin s xs.length).map .inr) (s:σ):iter f (mk s 0)=B3 step fin xs s 0:=
 B4 xs mk f step fin h1 h2 xs.length s 0 (by omega) (by omega)
def qg {α A:Type} (g:α→Option A) (e:A):List α→A
 | []=>e
 | x :: r=>match g x with
   | some a=>a
   | none=>qg g e r
theorem uo {α A:Type} (xs:List α) (f:Int→Option (Int⊕A)) (g:α→Option A) (e:A) (hlen:(xs.length:Int)≤4611686018427387904)
 (h1:∀ (i:Int) x,0≤i→i < xs.length→idx xs i=some x→f i=match g x with | some a=>some (.inr a) | none=>some (.inl (i+1)))
 (h2:f xs.length=some (.inr e)):iter f 0=some (qg g e xs):=by
 have h:=FR xs (fun (_:Unit) i=>i) f (fun _ x _=>match g x with | some a=>some (.inr a) | none=>some (.inl ())) (fun _ _=>some e)
  (fun s i x h0 h3 h4=>by rw [h1 i x h0 h3 h4];cases g x<;>rfl) (fun s=>by rw [h2];rfl) ()
 rw [h]
 clear h h1 h2 hlen
 suffices ∀ (xs:List α) (i:Int),B3 (fun (_:Unit) x _=>match g x with | some a=>some (.inr a) | none=>some (.inl ())) (fun _ _=>some e) xs () i=some (qg g e xs) from this xs 0
 intro xs
 induction xs with
 | nil=>intro i;rfl
 | cons x r ih=>
   intro i
   simp only [B3,qg]
   cases g x with
   | none=>exact ih (i+1)
   | some a=>rfl
theorem B5 {α:Type} (p:α→Bool):∀ (xs:List α),qg (fun x=>if p x=true then none else some false) true xs=xs.all p
 | []=>rfl
 | x :: r=>by
   simp only [qg,List.all_cons]
   cases hp:p x<;>simp [B5 p r]
end Go.Beacon
set_option linter.unusedSimpArgs false
namespace Go.Beacon
open Go Go.Eng
def wS {α:Type} [DecidableEq α] (xs ys:List α) (i:Int):Option (Int⊕Bool):=
 if i < (xs.length:Int) then
  (idx xs i).bind fun v3=>
  (idx ys i).bind fun v4=>
  if v3≠v4 then
   Option.map .inr (some false)
  else
   some (.inl (aL (i+(1:Int))))
 else
  Option.map .inr (some true)
noncomputable def KX {α:Type} [DecidableEq α] (xs ys:List α):Option Bool:=
 if (xs.length:Int)≠(ys.length:Int) then
  some false
 else
  iter (fun x:Int=>wS xs ys x) 0
theorem Ah {α:Type} [DecidableEq α] (xs ys:List α) (hl:xs.length=ys.length) (hb:(xs.length:Int)≤4611686018427387904):∀ (n:Nat) (i:Int),0≤i→i+n=xs.length→
 iter (fun x:Int=>wS xs ys x) i=some (decide (xs.drop i.toNat=ys.drop i.toNat))
 | 0,i,h0,hn=>by
   rw [iter_eq,wS,if_neg (by omega),List.drop_of_length_le (by omega),List.drop_of_length_le (by omega)];simp
 | n+1,i,h0,hn=>by
   obtain ⟨x,hx,_,hd⟩:=jY xs h0 (by omega)
   obtain ⟨y,hy,_,Az⟩:=jY ys h0 (by omega)
   rw [iter_eq,wS,if_pos (by omega),hx,hy,hd,Az]
   simp only [Option.bind_some]
   by_cases Gn:x=y
   ·subst Gn
    rw [if_neg (by simp)]
    simp only [Option.bind_some,cK]
    rw [aU (by omega) (by omega)]
    have:=Ah xs ys hl hb n (i+1) (by omega) (by omega)
    rw [this];simp
   ·rw [if_pos Gn];simp [Gn]
theorem Ds {α:Type} [DecidableEq α] (xs ys:List α) (hb:(xs.length:Int)≤4611686018427387904):KX xs ys=some (decide (xs=ys)):=by
 unfold KX
 by_cases h:xs.length=ys.length
 ·rw [if_neg (by omega),Ah xs ys h hb xs.length 0 (by omega) (by omega)];simp
 ·rw [if_pos (by omega),decide_eq_false (fun e=>h (by rw [e]))]
def qC {α:Type} (xs:List α) (f:α→Option Bool) (i:Int):Option (Int⊕Int):=
 if i < (xs.length:Int) then
  (idx xs i).bind fun v3=>
  (f v3).bind fun v4=>
  if v4=true then
   Option.map .inr (some i)
  else
   some (.inl (aL (i+(1:Int))))
 else
  Option.map .inr (some (-1:Int))
noncomputable def xU {α:Type} (xs:List α) (f:α→Option Bool):Option Int:=iter (fun x:Int=>qC xs f x) 0
def jX {α:Type} (p:α→Bool):List α→Int→Int
 | [],_=>-1
 | x :: r,i=>if p x=true then i else jX p r (i+1)
theorem vb {α:Type} (xs:List α) (f:α→Option Bool) (p:α→Bool) (hf:∀ x∈xs,f x=some (p x)) (hb:(xs.length:Int)≤4611686018427387904):∀ (n:Nat) (i:Int),0≤i→i+n=xs.length→
 iter (fun x:Int=>qC xs f x) i=some (jX p (xs.drop i.toNat) i)
 | 0,i,h0,hn=>by
   rw [iter_eq,qC,if_neg (by omega),List.drop_of_length_le (by omega)];rfl
 | n+1,i,h0,hn=>by
   obtain ⟨x,hx,hm,hd⟩:=jY xs h0 (by omega)
   rw [iter_eq,qC,if_pos (by omega),hx,hd]
   simp only [Option.bind_some,hf x hm,jX]
   split
   ·rfl
   ·simp only [Option.bind_some,cK]
    rw [aU (by omega) (by omega)]
    exact vb xs f p hf hb n (i+1) (by omega) (by omega)
theorem qD {α:Type} (xs:List α) (f:α→Option Bool) (p:α→Bool) (hf:∀ x∈xs,f x=some (p x)) (hb:(xs.length:Int)≤4611686018427387904):xU xs f=some (jX p xs 0):=by
 unfold xU
 rw [vb xs f p hf hb xs.length 0 (by omega) (by omega)];simp
def Eh (xs:List Int) (i:Int):Option (Int⊕Int):=
 if i < (xs.length:Int) then
  (idx xs i).bind fun v3=>
  if v3≠(0:Int) then
   Option.map .inr (some v3)
  else
   some (.inl (aL (i+(1:Int))))
 else
  Option.map .inr (some (0:Int))
noncomputable def Yj (xs:List Int):Option Int:=iter (fun x:Int=>Eh xs x) 0
def o6:List Int→Int
 | []=>0
 | x :: r=>if x≠0 then x else o6 r
theorem uL (xs:List Int) (hb:(xs.length:Int)≤4611686018427387904):Yj xs=some (o6 xs):=by
 unfold Yj
 rw [uo xs (fun x:Int=>Eh xs x) (fun x=>if x≠0 then some x else none) 0 hb]
 ·congr 1
  clear hb
  induction xs with
  | nil=>rfl
  | cons x r ih=>
    simp only [qg,o6]
    by_cases h:x=0
    ·subst h;simpa using ih
    ·simp [h]
 ·intro i x h0 h1 hx
  unfold Eh
  rw [if_pos h1,hx]
  simp only [Option.bind_some]
  by_cases h:x=0
  ·rw [aU (by omega) (by omega)];simp [h]
  ·simp [h]
 ·unfold Eh;rw [if_neg (by omega)];rfl
def sL (a b:Int):Int:=if a < b then -1 else if b < a then 1 else 0
theorem Dt:∀ l:List UInt8,Lib.compareBytes l l=0
 | []=>rfl
 | a :: l=>by simp only [Lib.compareBytes];rw [if_neg (by simp),if_neg (by simp)];exact Dt l
theorem Ei (a:UInt8):¬ a < a:=by simp
theorem zK (a b:UInt8):a < b∨a=b∨b < a:=by
 rcases Nat.lt_trichotomy a.toNat b.toNat with h | h | h
 ·exact .inl h
 ·exact .inr (.inl (UInt8.toNat_inj.1 h))
 ·exact .inr (.inr h)
theorem uq {a b:UInt8} (h:a < b):¬ b < a:=by
 rw [UInt8.lt_iff_toNat_lt] at *;omega
theorem FT:∀ a b:List UInt8,Lib.compareBytes a b=- Lib.compareBytes b a
 | [],[]=>rfl
 | [],_ :: _=>rfl
 | _ :: _,[]=>rfl
 | a :: la,b :: lb=>by
   simp only [Lib.compareBytes]
   rcases zK a b with h | h | h
   ·rw [if_pos h,if_neg (uq h),if_pos h]
   ·subst h
    rw [if_neg (by simp),if_neg (by simp),if_neg (by simp),if_neg (by simp)];exact FT la lb
   ·rw [if_neg (uq h),if_pos h,if_pos h];rfl
theorem qx:∀ {a b:List UInt8},Lib.compareBytes a b=0→a=b
 | [],[],_=>rfl
 | [],_ :: _,h=>by simp [Lib.compareBytes] at h
 | _ :: _,[],h=>by simp [Lib.compareBytes] at h
 | a :: la,b :: lb,h=>by
   simp only [Lib.compareBytes] at h
   split at h
   ·simp at h
   ·split at h
    ·simp at h
    ·rename_i h1 h2
     rcases zK a b with h3 | h3 | h3
     ·exact absurd h3 h1
     ·rw [h3,qx h]
     ·exact absurd h3 h2
theorem wm:∀ a b:List UInt8,Op.bytesLess a b=decide (Lib.compareBytes a b < 0)
 | [],[]=>by simp [Op.bytesLess,Lib.compareBytes]
 | [],_ :: _=>by simp [Op.bytesLess,Lib.compareBytes]
 | _ :: _,[]=>by simp [Op.bytesLess,Lib.compareBytes]
 | a :: la,b :: lb=>by
   simp only [Op.bytesLess,Lib.compareBytes]
   rcases zK a b with h | h | h
   ·simp [h]
   ·subst h;simp [wm la lb]
   ·have h1:=uq h
    have h2:(a==b)=false:=by
     rw [beq_eq_false_iff_ne];intro e;subst e;exact Ei _ h
    simp [h,h1,h2]
theorem ur:∀ (l:List UInt8) (c:UInt8),(Lib.indexByte l c < 0)↔c∉l
 | [],c=>by simp [Lib.indexByte]
 | b :: l,c=>by
   have ih:=ur l c
   have Uh:=Lib.indexByte_ge l c
   simp only [Lib.indexByte,List.mem_cons,not_or]
   by_cases hb:b=c
   ·subst hb;simp
   ·rw [if_neg (by simpa using hb)]
    by_cases h1:Lib.indexByte l c=-1
    ·rw [h1] at ih
     simp only [h1,beq_self_eq_true,if_true]
     exact ⟨fun _=>⟨fun e=>hb e.symm,ih.1 (by omega)⟩,fun _=>by omega⟩
    ·rw [if_neg (by simpa using h1)]
     exact ⟨fun h=>by omega,fun h=>absurd (ih.2 h.2) (by omega)⟩
theorem VY (c:UInt8):((c.toNat:Int)).toNat.toUInt8=c:=by simp
structure CO {α:Type} (cf:α→α→Int) (xs:List α):Prop where
 Jt:∀ x∈xs,¬ cf x x < 0
 tr:∀ x∈xs,∀ y∈xs,∀ z∈xs,cf x y < 0→cf y z < 0→cf x z < 0
 TO:∀ x∈xs,∀ y∈xs,∀ z∈xs,¬ cf x y < 0→¬ cf y z < 0→¬ cf x z < 0
def tx {α:Type} (cf:α→α→Int) (xs:List α):Prop:=xs.Pairwise (fun a b=>¬ cf b a < 0)
theorem CO.mono {α:Type} {cf:α→α→Int} {xs ys:List α} (h:CO cf xs) (hs:∀ y∈ys,y∈xs):CO cf ys:=
 ⟨fun x hx=>h.Jt x (hs x hx),fun x hx y hy z hz=>h.tr x (hs x hx) y (hs y hy) z (hs z hz),fun x hx y hy z hz=>h.TO x (hs x hx) y (hs y hy) z (hs z hz)⟩
def tz {α:Type} (n4:Int) (l7:List α) (n8:Int) (c9:Bool):Option (((List α)×Int)⊕(((List α)×Int)⊕(List α))):=
 if c9=true then
  (idx l7 (aL (n8 - (1:Int)))).bind fun fo=>
  (idx l7 n8).bind fun gR=>
  (idx l7 n8).bind fun ll=>
  (idx (l7.set n8.toNat fo) (aL (n8 - (1:Int)))).bind fun xo=>
  some (.inl ((l7.set n8.toNat fo).set (aL (n8 - (1:Int))).toNat gR,aL (n8 - (1:Int))))
 else
  Option.map .inr (some (.inl (l7,aL (n4+(1:Int)))))
def qE {α:Type} (ah:Int) (lW:α→α→Option Int) (n4:Int) (l7:List α) (n8:Int):Option (((List α)×Int)⊕(((List α)×Int)⊕(List α))):=
 if ah < n8 then
  (idx l7 n8).bind fun v10=>
  (idx l7 (aL (n8 - (1:Int)))).bind fun v11=>
  (lW v10 v11).bind fun v12=>
  tz n4 l7 n8 (decide (v12 < (0:Int)))
 else
  tz n4 l7 n8 false
noncomputable def wT {α:Type} (ah:Int) (lW:α→α→Option Int) (n4:Int) (l7:List α) (n8:Int):Option (((List α)×Int)⊕(List α)):=
 iter (fun x:(List α)×Int=>qE ah lW n4 x.1 x.2) (l7,n8)
noncomputable def tA {α:Type} (ah:Int) (ao:Int) (lW:α→α→Option Int) (l3:List α) (n4:Int):Option (((List α)×Int)⊕(List α)):=
 if n4 < ao then
  wT ah lW n4 l3 n4
 else
  Option.map .inr (some l3)
noncomputable def uM {α:Type} (ah:Int) (ao:Int) (lW:α→α→Option Int) (l3:List α) (n4:Int):Option (List α):=
 iter (fun x:(List α)×Int=>tA ah ao lW x.1 x.2) (l3,n4)
noncomputable def FU {α:Type} (ab:List α) (ah:Int) (ao:Int) (lW:α→α→Option Int):Option (List α):=
 uM ah ao lW ab (aL (ah+(1:Int)))
theorem FV {α:Type} (P:List α) (x y:α) (T:List α):((P++y :: x :: T).set (P.length+1) y).set P.length x=P++x :: y :: T:=by
 induction P with
 | nil=>rfl
 | cons p P ih=>simp only [List.cons_append,List.length_cons,List.set_cons_succ,ih]
theorem wU {α:Type} (P:List α) (x:α) (T:List α) {i:Int} (hi:i=P.length):idx (P++x :: T) i=some x:=by
 subst hi
 unfold idx
 rw [if_pos (by omega)]
 simp
theorem I1 {α:Type} (lW:α→α→Option Int) (cf:α→α→Int) (n4:Int) (hn:n4≤1000000) (x:α):∀ (k:Nat) (P R post:List α),P.length=k→(P.length:Int)≤1000000→
 (∀ y∈P,lW x y=some (cf x y))→CO cf (x :: (P++R))→tx cf (P++R)→(∀ r∈R,cf x r < 0)→
 ∃ Z,wT 0 lW n4 (P++x :: (R++post)) P.length=some (.inl (Z++post,aL (n4+1)))∧Z.Perm (x :: (P++R))∧tx cf Z:=by
 intro k
 induction k with
 | zero=>
   intro P R post hP hl hf hO hs hR
   obtain rfl:P=[]:=List.eq_nil_of_length_eq_zero hP
   refine ⟨x :: R,?_,by simp,?_⟩
   ·unfold wT
    rw [iter_eq,qE,if_neg (by simp),tz,if_neg (by simp),bV];simp
   ·refine List.pairwise_cons.2 ⟨fun r hr jh=>?_,by simpa [tx] using hs⟩
    have h1:=hR r hr
    exact hO.Jt x (by simp) (hO.tr x (by simp) r (by simp [hr]) x (by simp) h1 jh)
 | succ k ih=>
   intro P R post hP hl hf hO hs hR
   obtain ⟨Q,y,rfl⟩:∃ Q y,P=Q++[y]:=by
    rcases List.eq_nil_or_concat P with h | ⟨Q,y,h⟩
    ·rw [h] at hP;simp at hP
    ·exact ⟨Q,y,by simpa using h⟩
   have hQ:Q.length=k:=by simpa using hP
   have hlen:((Q++[y]).length:Int)=Q.length+1:=by simp
   have hlq:(Q.length:Int)+1≤1000000:=by rw [← hlen];exact hl
   have w1:aL ((Q.length:Int)+1 - 1)=Q.length:=by rw [aU]<;>omega
   have e1:(Q++[y])++x :: (R++post)=Q++y :: x :: (R++post):=by simp
   have i1:idx (Q++y :: x :: (R++post)) ((Q.length:Int)+1)=some x:=by
    have:=wU (Q++[y]) x (R++post) (i:=(Q.length:Int)+1) (by simp)
    simpa using this
   have i0:idx (Q++y :: x :: (R++post)) (Q.length:Int)=some y:=wU Q y _ rfl
   rw [e1,hlen]
   by_cases hc:cf x y < 0
   ·obtain ⟨Z,z1,z2,z3⟩:=ih Q (y :: R) post hQ (by omega) (fun z hz=>hf z (by simp [hz])) (hO.mono (fun z hz=>by simp at hz ⊢;rcases hz with h | h | h | h<;>simp [h])) (by simpa using hs) (fun r hr=>by rcases List.mem_cons.1 hr with rfl | hr;exact hc;exact hR r hr)
    refine ⟨Z,?_,z2.trans (by simp),z3⟩
    unfold wT at z1 ⊢
    rw [iter_eq,qE,if_pos (by simp only;omega)]
    simp only [i1,w1,i0,Option.bind_some,hf y (by simp),hc,decide_true]
    unfold tz
    rw [if_pos rfl,w1]
    simp only [i0,i1,Option.bind_some]
    have i2:idx ((Q++y :: x :: (R++post)).set ((Q.length:Int)+1).toNat y) (Q.length:Int)=some y:=by
     rw [show ((Q.length:Int)+1).toNat=Q.length+1 by omega]
     unfold idx
     rw [if_pos (by omega),List.getElem?_set_ne (by simp)]
     simp
    rw [i2]
    simp only [Option.bind_some,cK]
    have e2:((Q++y :: x :: (R++post)).set ((Q.length:Int)+1).toNat y).set ((Q.length:Int)).toNat x=Q++x :: (y :: R++post):=by
     rw [show ((Q.length:Int)+1).toNat=Q.length+1 by omega,show ((Q.length:Int)).toNat=Q.length by omega,FV];simp
    rw [e2]
    exact z1
   ·refine ⟨Q++y :: x :: R,?_,?_,?_⟩
    ·unfold wT
     rw [iter_eq,qE,if_pos (by simp only;omega)]
     simp only [i1,w1,i0,Option.bind_some,hf y (by simp),hc,decide_false]
     unfold tz
     rw [if_neg (by simp),bV];simp
    ·have:(Q++y :: x :: R).Perm (x :: (Q++y :: R)):=by
      have h:=List.perm_middle (a:=x) (l₁:=Q++[y]) (l₂:=R)
      simpa using h
     simpa using this
    ·unfold tx at hs ⊢
     have xj:(Q++y :: R).Pairwise (fun a b=>¬ cf b a < 0):=by simpa using hs
     rw [List.pairwise_append,List.pairwise_cons] at xj ⊢
     obtain ⟨a1,⟨a2,a3⟩,a4⟩:=xj
     have hxQ:∀ q∈Q,¬ cf x q < 0:=fun q hq=>hO.TO x (by simp) y (by simp) q (by simp [hq]) hc (a4 q hq y (by simp))
     refine ⟨a1,⟨fun z hz=>?_,List.pairwise_cons.2 ⟨fun r hr jh=>?_,a3⟩⟩,fun q hq z hz=>?_⟩
     ·rcases List.mem_cons.1 hz with rfl | hz
      ·exact hc
      ·exact a2 z hz
     ·exact hO.Jt x (by simp) (hO.tr x (by simp) r (by simp [hr]) x (by simp) (hR r hr) jh)
     ·rcases List.mem_cons.1 hz with rfl | hz
      ·exact a4 q hq z (by simp)
      ·rcases List.mem_cons.1 hz with rfl | hz
       ·exact hxQ q hq
       ·exact a4 q hq z (by simp [hz])
theorem I2 {α:Type} (lW:α→α→Option Int) (cf:α→α→Int) (xs:List α) (hl:(xs.length:Int)≤100000) (hf:∀ x∈xs,∀ y∈xs,lW x y=some (cf x y)) (hO:CO cf xs):∀ (n:Nat) (P post:List α) (i:Int),i=P.length→post.length=n→(P++post).Perm xs→tx cf P→
 ∃ Z,uM 0 xs.length lW (P++post) i=some Z∧Z.Perm xs∧tx cf Z:=by
 intro n
 induction n with
 | zero=>
   intro P post i hi hn hp hs
   obtain rfl:post=[]:=List.eq_nil_of_length_eq_zero hn
   have hlen:=hp.length_eq
   simp only [List.append_nil] at hp hlen ⊢
   refine ⟨P,?_,hp,hs⟩
   unfold uM
   rw [iter_eq,tA,if_neg (by simp only;omega),bV]
 | succ n ih=>
   intro P post i hi hn hp hs
   match post,hn with
   | x :: r,hn=>
     have hlen:=hp.length_eq
     simp only [List.length_append,List.length_cons] at hlen
     have oy:∀ z∈P++x :: r,z∈xs:=fun z hz=>hp.mem_iff.1 hz
     obtain ⟨Z,z1,z2,z3⟩:=I1 lW cf i (by omega) x P.length P [] r rfl (by omega) (fun y hy=>hf x (oy x (by simp)) y (oy y (by simp [hy]))) (hO.mono (fun z hz=>oy z (by simp at hz ⊢;rcases hz with h | h<;>simp [h]))) (by simpa using hs) (by simp)
     simp only [List.append_nil,List.nil_append] at z1 z2
     have hzl:=z2.length_eq
     obtain ⟨Y,y1,y2,y3⟩:=ih Z r (i+1) (by rw [hi];simp at hzl;omega) (by simpa using hn) (by
      refine List.Perm.trans ?_ hp
      have:(Z++r).Perm ((x :: P)++r):=z2.append_right r
      refine this.trans ?_
      have h:=List.perm_middle (a:=x) (l₁:=P) (l₂:=r)
      simpa using h.symm) z3
     refine ⟨Y,?_,y2,y3⟩
     unfold uM at y1 ⊢
     rw [iter_eq,tA,if_pos (by simp only;omega)]
     simp only
     rw [← hi] at z1
     rw [z1]
     simp only [Option.bind_some,cK]
     rw [aU (by omega) (by omega)]
     exact y1
theorem HP {α:Type} (lW:α→α→Option Int) (cf:α→α→Int) (xs:List α) (hl:(xs.length:Int)≤100000) (hf:∀ x∈xs,∀ y∈xs,lW x y=some (cf x y)) (hO:CO cf xs):∃ Z,FU xs 0 xs.length lW=some Z∧Z.Perm xs∧tx cf Z:=by
 unfold FU
 rw [show aL (0+1)=1 by decide]
 cases xs with
 | nil=>
   refine ⟨[],?_,List.Perm.refl _,.nil⟩
   unfold uM
   rw [iter_eq,tA,if_neg (by simp),bV]
 | cons x r=>
   exact I2 lW cf (x :: r) hl hf hO r.length [x] r 1 (by simp) rfl (List.Perm.refl _) (by simp [tx])
theorem Ps {α:Type} {f:α→α→Option Int} {cf:α→α→Int} {x:α} {r:List α} (hf:∀ a∈x :: r,∀ b∈x :: r,f a b=some (cf a b)) (hO:CO cf (x :: r)):Sort.SWO (Go.Proofs.ltOf (rQ f x r)):=by
 have e:∀ i j,rQ f x r i j=cf (tD x r i) (tD x r j):=fun i j=>by unfold rQ;rw [hf _ (ji x r i) _ (ji x r j)];rfl
 refine ⟨fun i=>?_,fun i j k h1 h2=>?_,fun i j k h1 h2=>?_⟩
 ·unfold Go.Proofs.ltOf;rw [e];simpa using hO.Jt _ (ji x r i)
 ·unfold Go.Proofs.ltOf at *;rw [e] at *
  simp only [decide_eq_true_eq] at *
  exact hO.tr _ (ji x r i) _ (ji x r j) _ (ji x r k) h1 h2
 ·unfold Go.Proofs.ltOf at *;rw [e] at *
  simp only [decide_eq_false_iff_not] at *
  exact hO.TO _ (ji x r i) _ (ji x r j) _ (ji x r k) h1 h2
theorem I3 {α:Type} (x:α) (r:List α):(List.range (r.length+1)).map (tD x r)=x :: r:=by
 apply List.ext_getElem?
 intro i
 rw [List.getElem?_map]
 by_cases hi:i < r.length+1
 ·rw [List.getElem?_range hi,Option.map_some]
  unfold tD
  rw [List.getD_eq_getElem?_getD,List.getElem?_eq_getElem (l:=x :: r) (by simpa using hi)];rfl
 ·rw [List.getElem?_eq_none (by simp;omega),List.getElem?_eq_none (by simp;omega)];rfl
theorem FW {α:Type} (f:α→α→Option Int) (cf:α→α→Int) (xs:List α) (hl:xs.length≤100000) (hf:∀ a∈xs,∀ b∈xs,f a b=some (cf a b)) (hO:CO cf xs):∃ Z,BB f xs=some Z∧Z.Perm xs∧tx cf Z:=by
 cases xs with
 | nil=>exact ⟨[],rfl,List.Perm.refl _,.nil⟩
 | cons x r=>
   have hS:=Ps hf hO
   have hlen:r.length+1≤100000:=by simpa using hl
   rw [uG,if_pos ⟨by omega,fun a ha b hb=>⟨_,hf a ha b hb⟩,hS⟩]
   have LW:=Sort.pdq_sorts (Go.Proofs.ltOf (rQ f x r)) hS (Array.range (r.length+1)) 0 (r.length+1) (Lib.bitLen (r.length+1)) true true (Nat.zero_le _) (by simp) (Or.inl rfl)
   generalize Sort.pdq (Go.Proofs.ltOf (rQ f x r)) (Array.range (r.length+1)) 0 (r.length+1) (Lib.bitLen (r.length+1)) true true=d at LW
   obtain ⟨⟨h1,_,h3⟩,h4⟩:=LW
   have hd:d.size=r.length+1:=by simpa using h1
   have pv:d.toList.Perm (List.range (r.length+1)):=by
    have a1:(d.extract 0 (r.length+1)).toList=d.toList:=by
     rw [Array.toList_extract]
     simp [List.extract]
     exact List.take_of_length_le (by simp [hd])
    have a2:((Array.range (r.length+1)).extract 0 (r.length+1)).toList=List.range (r.length+1):=by
     rw [Array.toList_extract]
     simp [List.extract]
    rw [a1,a2] at h3
    exact h3
   refine ⟨_,rfl,?_,?_⟩
   ·have:=pv.map (tD x r)
    rw [I3] at this
    exact this
   ·unfold tx
    rw [List.pairwise_map,List.pairwise_iff_getElem]
    intro i j hi hj Bl
    have Gw:i < d.size:=by simpa using hi
    have Ut:j < d.size:=by simpa using hj
    have h:=h4 i j (Nat.zero_le _) Bl (by omega)
    unfold Go.Proofs.ltOf rQ at h
    rw [hf _ (ji x r _) _ (ji x r _)] at h
    simp only [Option.getD_some,decide_eq_false_iff_not] at h
    rw [getElem!_pos d i Gw,getElem!_pos d j Ut] at h
    simpa using h
theorem xV {α:Type} {cf:α→α→Int}:∀ {X Y:List α},X.Perm Y→tx cf X→tx cf Y→(∀ a∈X,∀ b∈X,¬ cf a b < 0→¬ cf b a < 0→a=b)→X=Y
 | [],Y,hp,_,_,_=>by rw [List.nil_perm.1 hp]
 | x :: X,[],hp,_,_,_=>by have:=hp.length_eq;simp at this
 | x :: X,y :: Y,hp,hX,hY,ha=>by
   have Gn:x=y:=by
    have hx:x∈y :: Y:=hp.mem_iff.1 (by simp)
    have hy:y∈x :: X:=hp.mem_iff.2 (by simp)
    rcases List.mem_cons.1 hx with h | h
    ·exact h
    ·rcases List.mem_cons.1 hy with h' | h'
     ·exact h'.symm
     ·exact ha x (by simp) y (by simp [h']) ((List.pairwise_cons.1 hY).1 x h) ((List.pairwise_cons.1 hX).1 y h')
   subst Gn
   rw [xV (List.Perm.cons_inv hp) (List.pairwise_cons.1 hX).2 (List.pairwise_cons.1 hY).2 (fun a h b h'=>ha a (by simp [h]) b (by simp [h']))]
def B6 {α:Type} (n12:Int) (nX:List α) (n17:Int):Option (((List α)×Int×Int)⊕(Int⊕(List α))):=
 some (.inl (nX,n17,aL (n12+(1:Int))))
def yM {α:Type} (Z:α) (l10:List α) (n11:Int):Option (Int⊕(List α)):=
 (Bq l10 n11 (l10.length:Int)).bind fun mU=>
 (Bq (Dc l10 n11 mU.length Z) (0:Int) n11).bind fun xp=>
 Option.map .inr (some xp)
def B7 {α:Type} (Z:α) (gZ:α→α→Option Bool) (n2:Int) (l6:List α) (l10:List α) (n11:Int) (n12:Int):Option (((List α)×Int×Int)⊕(Int⊕(List α))):=
 if n12 < (l6.length:Int) then
  (zr l10 n2 l6.length n12).bind fun fo=>
  (zr l10 n2 l6.length (aL (n12 - (1:Int)))).bind fun gR=>
  (gZ fo gR).bind fun ll=>
  if (!ll)=true then
   (zr l10 n2 l6.length n12).bind fun zC=>
   (idx l10 n11).bind fun vl=>
   B6 n12 (l10.set n11.toNat zC) (aL (n11+(1:Int)))
  else
   B6 n12 l10 n11
 else
  Option.map .inr (yM Z l10 n11)
noncomputable def yN {α:Type} (Z:α) (gZ:α→α→Option Bool) (n2:Int) (l6:List α) (l10:List α) (n11:Int) (n12:Int):Option (Int⊕(List α)):=
 iter (fun x:(List α)×Int×Int=>B7 Z gZ n2 l6 x.1 x.2.1 x.2.2) (l10,n11,n12)
noncomputable def B8 {α:Type} (Z:α) (ab:List α) (gZ:α→α→Option Bool) (n2:Int):Option (Int⊕(List α)):=
 if n2 < (ab.length:Int) then
  (idx ab n2).bind fun v3=>
  (idx ab (aL (n2 - (1:Int)))).bind fun v4=>
  (gZ v3 v4).bind fun v5=>
  if v5=true then
   (Bq ab n2 (ab.length:Int)).bind fun l6=>
   yN Z gZ n2 l6 ab n2 (1:Int)
  else
   some (.inl (aL (n2+(1:Int))))
 else
  Option.map .inr (some ab)
noncomputable def yO {α:Type} (Z:α) (ab:List α) (gZ:α→α→Option Bool) (n2:Int):Option (List α):=
 iter (fun x:Int=>B8 Z ab gZ x) n2
noncomputable def Ol {α:Type} (Z:α) (ab:List α) (gZ:α→α→Option Bool):Option (List α):=
 if (ab.length:Int) < (2:Int) then
  some ab
 else
  yO Z ab gZ (1:Int)
def Ju {α:Type} (e:α→α→Bool):α→List α→List α
 | _,[]=>[]
 | p,y :: r=>if e y p=true then Ju e y r else y :: Ju e y r
def dd {α:Type} (e:α→α→Bool):List α→List α
 | []=>[]
 | x :: r=>x :: Ju e x r
theorem FX {α:Type} (e:α→α→Bool):∀ (p:α) (ys:List α) (y z:α),Ju e p (ys++[y,z])=if e z y=true then Ju e p (ys++[y]) else Ju e p (ys++[y])++[z]
 | p,[],y,z=>by
   simp only [List.nil_append,Ju]
   by_cases h1:e y p=true<;>by_cases h2:e z y=true<;>simp [h1,h2]
 | p,w :: ys,y,z=>by
   simp only [List.cons_append,Ju,FX e w ys y z]
   by_cases h1:e w p=true<;>by_cases h2:e z y=true<;>simp [h1,h2]
theorem Nl {α:Type} (e:α→α→Bool) (ys:List α) (y z:α):dd e (ys++[y,z])=if e z y=true then dd e (ys++[y]) else dd e (ys++[y])++[z]:=by
 cases ys with
 | nil=>
   simp only [List.nil_append,dd,Ju]
   by_cases h2:e z y=true<;>simp [h2]
 | cons w ys=>
   simp only [List.cons_append,dd,FX e w ys y z]
   by_cases h2:e z y=true<;>simp [h2]
theorem KY {α:Type} {xs:List α} {m:Nat} (h1:1≤m) (h2:m < xs.length):xs.take (m+1)=xs.take (m - 1)++[xs[m - 1],xs[m]]∧xs.take m=xs.take (m - 1)++[xs[m - 1]]:=by
 have a:xs.take m=xs.take (m - 1)++[xs[m - 1]]:=by
  have:=List.take_append_getElem (l:=xs) (i:=m - 1) (by omega)
  rw [show m - 1+1=m by omega] at this
  exact this.symm
 refine ⟨?_,a⟩
 have:=List.take_append_getElem (l:=xs) (i:=m) h2
 rw [← this,a,List.append_assoc];rfl
theorem HQ {α:Type} (e:α→α→Bool) {xs:List α} {m:Nat} (h1:1≤m) (h2:m < xs.length):dd e (xs.take (m+1))=if e xs[m] xs[m - 1]=true then dd e (xs.take m) else dd e (xs.take m)++[xs[m]]:=by
 obtain ⟨a,b⟩:=KY h1 h2
 rw [a,b];exact Nl e _ _ _
theorem Ej {α:Type} (e:α→α→Bool):∀ (p:α) (r:List α),(Ju e p r).Sublist r
 | _,[]=>by simp [Ju]
 | p,y :: r=>by
   simp only [Ju]
   split
   ·exact (Ej e y r).cons y
   ·exact (Ej e y r).cons_cons y
theorem Pt {α:Type} (e:α→α→Bool) (xs:List α):(dd e xs).Sublist xs:=by
 cases xs with
 | nil=>simp [dd]
 | cons x r=>exact (Ej e x r).cons_cons x
theorem Nn {α:Type} {xs:List α} {i:Int} (h0:0≤i) (h1:i.toNat < xs.length):idx xs i=some xs[i.toNat]:=by
 unfold idx;rw [if_pos h0];simp [h1]
theorem KZ {α:Type} (Z:α) (l:List α) {k:Int} (h0:0≤k) (h1:k≤l.length):yM Z l k=some (.inr (l.take k.toNat)):=by
 unfold yM
 rw [Eg h0 h1 (by omega)]
 simp only [Option.bind_some]
 have hlen:(((l.drop k.toNat).take (((l.length:Int)).toNat - k.toNat)).length)=l.length - k.toNat:=by simp
 rw [hlen,Eg (by omega) h0 (by unfold Dc;simp;omega)]
 simp only [Option.bind_some,Option.map_some,Option.some.injEq,Sum.inr.injEq]
 unfold Dc
 simp only [Int.toNat_zero,List.drop_zero,Nat.sub_zero]
 rw [List.append_assoc,List.take_append_of_le_length (by simp;omega),List.take_take]
 congr 1;omega
theorem I4 {α:Type} (Z:α) (gZ:α→α→Option Bool) (e:α→α→Bool) (xs:List α) (hl:(xs.length:Int)≤100000) (hf:∀ x∈xs,∀ y∈xs,gZ x y=some (e x y)) (k0:Int) (h0:1≤k0) (h1:k0 < xs.length) (l6:List α) (Yk:(l6.length:Int)=xs.length - k0):∀ (n:Nat) (l:List α) (k k2:Int),1≤k2→k2+n=l6.length→l.length=xs.length→0≤k→k≤k0+k2 - 1→
 l.drop (k0+k2 - 1).toNat=xs.drop (k0+k2 - 1).toNat→l.take k.toNat=dd e (xs.take (k0+k2).toNat)→yN Z gZ k0 l6 l k k2=some (.inr (dd e xs)):=by
 intro n
 induction n with
 | zero=>
   intro l k k2 g1 g2 g3 g4 g5 g6 g7
   unfold yN
   rw [iter_eq,B7,if_neg (by simp only;omega),bV,KZ Z l g4 (by omega),g7,List.take_of_length_le (by omega)]
 | succ n ih=>
   intro l k k2 g1 g2 g3 g4 g5 g6 g7
   have w1:aL (k2+1)=k2+1:=by rw [aU]<;>omega
   have w2:aL (k2 - 1)=k2 - 1:=by rw [aU]<;>omega
   have w3:aL (k+1)=k+1:=by rw [aU]<;>omega
   have QB:∀ m:Nat,(k0+k2 - 1).toNat≤m→l[m]? =xs[m]?:=by
    intro m hm
    have:=congrArg (fun q:List α=>q[m - (k0+k2 - 1).toNat]?) g6
    simp only [List.getElem?_drop] at this
    rw [show (k0+k2 - 1).toNat+(m - (k0+k2 - 1).toNat)=m by omega] at this
    exact this
   have QP:(k0+k2).toNat < xs.length:=by omega
   have e1:zr l k0 l6.length k2=some xs[(k0+k2).toNat]:=by
    unfold zr
    rw [if_pos ⟨by omega,by omega,by omega⟩]
    unfold idx
    rw [if_pos (by omega),QB _ (by omega)];simp [QP]
   have e2:zr l k0 l6.length (k2 - 1)=some xs[(k0+k2).toNat - 1]:=by
    unfold zr
    rw [if_pos ⟨by omega,by omega,by omega⟩]
    unfold idx
    rw [if_pos (by omega),QB _ (by omega),show (k0+(k2 - 1)).toNat=(k0+k2).toNat - 1 by omega,List.getElem?_eq_getElem (by omega)]
   have DU:=HQ e (xs:=xs) (m:=(k0+k2).toNat) (by omega) QP
   rw [show (k0+k2).toNat+1=(k0+(k2+1)).toNat by omega] at DU
   unfold yN at ih ⊢
   rw [iter_eq,B7,if_pos (by simp only;omega)]
   simp only [w2,e1,e2,Option.bind_some,hf _ (List.getElem_mem QP) _ (List.getElem_mem (show (k0+k2).toNat - 1 < xs.length by omega))]
   unfold B6
   rw [w1]
   by_cases hc:e xs[(k0+k2).toNat] xs[(k0+k2).toNat - 1]=true
   ·rw [if_pos hc] at DU
    rw [hc,if_neg (by simp)]
    simp only [Option.bind_some,cK]
    refine ih l k (k2+1) (by omega) (by omega) g3 g4 (by omega) ?_ (by rw [g7,DU])
    have:=congrArg (List.drop 1) g6
    rw [List.drop_drop,List.drop_drop,show (k0+k2 - 1).toNat+1=(k0+(k2+1) - 1).toNat by omega] at this
    exact this
   ·rw [if_neg hc] at DU
    rw [Bool.not_eq_true] at hc
    rw [hc,if_pos (by simp)]
    obtain ⟨y,hy,_,_⟩:=jY l (i:=k) g4 (by omega)
    simp only [hy,Option.bind_some,cK,w3]
    refine ih (l.set k.toNat _) (k+1) (k2+1) (by omega) (by omega) (by simpa using g3) (by omega) (by omega) ?_ ?_
    ·apply List.ext_getElem?
     intro m
     rw [List.getElem?_drop,List.getElem?_drop,List.getElem?_set_ne (by omega),QB _ (by omega)]
    ·rw [DU,← g7,show (k+1).toNat=k.toNat+1 by omega]
     apply List.ext_getElem?
     intro m
     have OU:k.toNat < l.length:=by omega
     by_cases hm:m < k.toNat
     ·rw [List.getElem?_take,if_pos (by omega),List.getElem?_set_ne (by omega),List.getElem?_append_left (by simp;omega),List.getElem?_take,if_pos hm]
     ·by_cases Ql:m=k.toNat
      ·subst Ql
       rw [List.getElem?_take,if_pos (by omega),List.getElem?_set_self OU,List.getElem?_append_right (by simp only [List.length_take];omega)]
       simp [Nat.min_eq_left (Nat.le_of_lt OU)]
      ·rw [List.getElem?_eq_none (by simp;omega),List.getElem?_eq_none (by simp;omega)]
theorem K1 {α:Type} (Z:α) (gZ:α→α→Option Bool) (e:α→α→Bool) (xs:List α) (hl:(xs.length:Int)≤100000) (hf:∀ x∈xs,∀ y∈xs,gZ x y=some (e x y)):Ol Z xs gZ=some (dd e xs):=by
 unfold Ol
 by_cases h2:(xs.length:Int) < 2
 ·rw [if_pos h2]
  cases xs with
  | nil=>rfl
  | cons x r=>
    cases r with
    | nil=>rfl
    | cons y r=>simp only [List.length_cons] at h2;omega
 ·rw [if_neg h2]
  have key:∀ (n:Nat) (i:Int),1≤i→i+n=xs.length→dd e (xs.take i.toNat)=xs.take i.toNat→yO Z xs gZ i=some (dd e xs):=by
   intro n
   induction n with
   | zero=>
     intro i h0 h1 hd
     unfold yO
     rw [iter_eq,B8,if_neg (by omega),bV]
     rw [List.take_of_length_le (by omega)] at hd
     rw [hd]
   | succ n ih=>
     intro i h0 h1 hd
     have w1:aL (i+1)=i+1:=by rw [aU]<;>omega
     have w2:aL (i - 1)=i - 1:=by rw [aU]<;>omega
     have hm:i.toNat < xs.length:=by omega
     have e1:=Nn (xs:=xs) (i:=i) (by omega) hm
     have e2:idx xs (i - 1)=some xs[i.toNat - 1]:=by
      unfold idx
      rw [if_pos (by omega),show (i - 1).toNat=i.toNat - 1 by omega,List.getElem?_eq_getElem (by omega)]
     have DU:=HQ e (xs:=xs) (m:=i.toNat) (by omega) hm
     rw [show i.toNat+1=(i+1).toNat by omega] at DU
     unfold yO at ih ⊢
     rw [iter_eq,B8,if_pos (by omega)]
     simp only [w2,e1,e2,Option.bind_some,hf _ (List.getElem_mem hm) _ (List.getElem_mem (show i.toNat - 1 < xs.length by omega))]
     by_cases hc:e xs[i.toNat] xs[i.toNat - 1]=true
     ·rw [if_pos hc] at DU
      rw [hc,if_pos rfl,Eg (by omega) (by omega) (by omega)]
      simp only [Option.bind_some]
      have hlen:((((xs.drop i.toNat).take (((xs.length:Int)).toNat - i.toNat)).length:Nat):Int)=xs.length - i:=by simp;omega
      rw [I4 Z gZ e xs hl hf i h0 (by omega) _ hlen n xs i 1 (by omega) (by rw [hlen];omega) rfl (by omega) (by omega) rfl (by rw [DU,hd])]
      rfl
     ·rw [if_neg hc] at DU
      rw [Bool.not_eq_true] at hc
      rw [hc,if_neg (by simp),w1]
      simp only [Option.bind_some,cK]
      refine ih (i+1) (by omega) (by omega) ?_
      rw [DU,hd]
      have:=List.take_append_getElem (l:=xs) (i:=i.toNat) hm
      rw [this,show i.toNat+1=(i+1).toNat by omega]
  refine key (xs.length - 1) 1 (by omega) (by omega) ?_
  cases xs with
  | nil=>simp at h2
  | cons x r=>rfl
def Ek {α:Type} (n7:Int) (dN:List α) (n12:Int):Option (((List α)×Int×Int)⊕(List α)):=
 some (.inl (dN,n12,aL (n7+(1:Int))))
def Em {α:Type} (Z:α) (l5:List α) (n6:Int):Option (List α):=
 (Bq l5 n6 (l5.length:Int)).bind fun sC=>
 (Bq (Dc l5 n6 sC.length Z) (0:Int) n6).bind fun vm=>
 some vm
def AZ {α:Type} (Z:α) (gZ:α→Option Bool) (l5:List α) (n6:Int) (n7:Int):Option (((List α)×Int×Int)⊕(List α)):=
 if n7 < (l5.length:Int) then
  (idx l5 n7).bind fun v8=>
  (gZ v8).bind fun v10=>
  if (!v10)=true then
   (idx l5 n6).bind fun fo=>
   Ek n7 (l5.set n6.toNat v8) (aL (n6+(1:Int)))
  else
   Ek n7 l5 n6
 else
  Option.map .inr (Em Z l5 n6)
noncomputable def Pv {α:Type} (Z:α) (ab:List α) (gZ:α→Option Bool):Option (List α):=
 (xU ab gZ).bind fun v1=>
 if v1=(-1:Int) then
  some ab
 else
  iter (fun x:(List α)×Int×Int=>AZ Z gZ x.1 x.2.1 x.2.2) (ab,v1,aL (v1+(1:Int)))
theorem No {α:Type} (Z:α) (l:List α) {k:Int} (h0:0≤k) (h1:k≤l.length):Em Z l k=some (l.take k.toNat):=by
 have:=KZ Z l h0 h1
 unfold yM at this
 unfold Em
 cases h:Bq l k l.length with
 | none=>rw [h] at this;simp at this
 | some v=>
   rw [h] at this
   simp only [Option.bind_some] at this ⊢
   cases h2:Bq (Dc l k v.length Z) 0 k with
   | none=>rw [h2] at this;simp at this
   | some u=>rw [h2] at this;simpa using this
theorem Ai {α:Type} (p:α→Bool) {xs:List α} {m:Nat} (h:m < xs.length):(xs.take (m+1)).filter p=if p xs[m]=true then (xs.take m).filter p++[xs[m]] else (xs.take m).filter p:=by
 rw [← List.take_append_getElem h,List.filter_append]
 by_cases hp:p xs[m]=true<;>simp [hp]
theorem K2 {α:Type} (Z:α) (gZ:α→Option Bool) (p:α→Bool) (xs:List α) (hl:(xs.length:Int)≤100000) (hf:∀ x∈xs,gZ x=some (p x)):∀ (n:Nat) (l:List α) (k j:Int),1≤j→j+n=xs.length→l.length=xs.length→0≤k→k < j→l.drop j.toNat=xs.drop j.toNat→l.take k.toNat=(xs.take j.toNat).filter (fun x=>!p x)→
 iter (fun x:(List α)×Int×Int=>AZ Z gZ x.1 x.2.1 x.2.2) (l,k,j)=some (xs.filter (fun x=>!p x)):=by
 intro n
 induction n with
 | zero=>
   intro l k j g1 g2 g3 g4 g5 g6 g7
   rw [iter_eq,AZ,if_neg (by simp only;omega),bV,No Z l g4 (by omega),g7,List.take_of_length_le (by omega)]
 | succ n ih=>
   intro l k j g1 g2 g3 g4 g5 g6 g7
   have w1:aL (j+1)=j+1:=by rw [aU]<;>omega
   have w3:aL (k+1)=k+1:=by rw [aU]<;>omega
   have hm:j.toNat < xs.length:=by omega
   have QB:∀ m:Nat,j.toNat≤m→l[m]? =xs[m]?:=by
    intro m hm
    have:=congrArg (fun q:List α=>q[m - j.toNat]?) g6
    simp only [List.getElem?_drop] at this
    rw [show j.toNat+(m - j.toNat)=m by omega] at this
    exact this
   have e1:idx l j=some xs[j.toNat]:=by
    unfold idx;rw [if_pos (by omega),QB _ (Nat.le_refl _)];simp [hm]
   have L4:=Ai (fun x=>!p x) hm
   rw [show j.toNat+1=(j+1).toNat by omega] at L4
   have hdr:l.drop (j+1).toNat=xs.drop (j+1).toNat:=by
    have:=congrArg (List.drop 1) g6
    rw [List.drop_drop,List.drop_drop,show j.toNat+1=(j+1).toNat by omega] at this
    exact this
   rw [iter_eq,AZ,if_pos (by simp only;omega)]
   simp only [e1,Option.bind_some,hf _ (List.getElem_mem hm)]
   unfold Ek
   rw [w1]
   cases hp:p xs[j.toNat] with
   | true=>
     rw [hp] at L4
     simp only [Bool.not_true,Bool.false_eq_true,if_false] at L4 ⊢
     simp only [Option.bind_some,cK]
     exact ih l k (j+1) (by omega) (by omega) g3 g4 (by omega) hdr (by rw [g7,L4])
   | false=>
     rw [hp] at L4
     simp only [Bool.not_false,if_true] at L4 ⊢
     obtain ⟨y,hy,_,_⟩:=jY l (i:=k) g4 (by omega)
     simp only [hy,Option.bind_some,cK,w3]
     refine ih (l.set k.toNat _) (k+1) (j+1) (by omega) (by omega) (by simpa using g3) (by omega) (by omega) ?_ ?_
     ·apply List.ext_getElem?
      intro m
      rw [List.getElem?_drop,List.getElem?_drop,List.getElem?_set_ne (by omega),QB _ (by omega)]
     ·rw [L4,← g7,show (k+1).toNat=k.toNat+1 by omega]
      apply List.ext_getElem?
      intro m
      have OU:k.toNat < l.length:=by omega
      by_cases hm:m < k.toNat
      ·rw [List.getElem?_take,if_pos (by omega),List.getElem?_set_ne (by omega),List.getElem?_append_left (by simp;omega),List.getElem?_take,if_pos hm]
      ·by_cases Ql:m=k.toNat
       ·subst Ql
        rw [List.getElem?_take,if_pos (by omega),List.getElem?_set_self OU,List.getElem?_append_right (by simp only [List.length_take];omega)]
        simp [Nat.min_eq_left (Nat.le_of_lt OU)]
       ·rw [List.getElem?_eq_none (by simp;omega),List.getElem?_eq_none (by simp;omega)]
theorem wo {α:Type} (p:α→Bool):∀ (xs:List α) (i:Int),0≤i→(jX p xs i=-1∧∀ x∈xs,p x=false)∨(i≤jX p xs i∧jX p xs i < i+xs.length∧(∀ x∈xs.take (jX p xs i - i).toNat,p x=false)∧∃ y,xs[(jX p xs i - i).toNat]? =some y∧p y=true)
 | [],i,h=>.inl ⟨rfl,by simp⟩
 | x :: r,i,h=>by
   by_cases hp:p x=true
   ·have e:jX p (x :: r) i=i:=by simp [jX,hp]
    rw [e]
    exact .inr ⟨by omega,by simp;omega,by simp,x,by simp,hp⟩
   ·have e:jX p (x :: r) i=jX p r (i+1):=by simp [jX,hp]
    rw [e]
    have cN:p x=false:=by simpa using hp
    rcases wo p r (i+1) (by omega) with ⟨h1,h2⟩ | ⟨h1,h2,h3,y,h4,h5⟩
    ·exact .inl ⟨h1,fun y hy=>by rcases List.mem_cons.1 hy with rfl | hy;exact cN;exact h2 y hy⟩
    ·have e:(jX p r (i+1) - i).toNat=(jX p r (i+1) - (i+1)).toNat+1:=by omega
     refine .inr ⟨by omega,by simp;omega,?_,y,?_,h5⟩
     ·rw [e]
      intro y hy
      rw [List.take_succ_cons] at hy
      rcases List.mem_cons.1 hy with rfl | hy
      ·exact cN
      ·exact h3 y hy
     ·rw [e,List.getElem?_cons_succ];exact h4
theorem Np {α:Type} (Z:α) (gZ:α→Option Bool) (p:α→Bool) (xs:List α) (hl:(xs.length:Int)≤100000) (hf:∀ x∈xs,gZ x=some (p x)):Pv Z xs gZ=some (xs.filter (fun x=>!p x)):=by
 unfold Pv
 rw [qD xs gZ p hf (by omega)]
 simp only [Option.bind_some]
 rcases wo p xs 0 (by omega) with ⟨h1,h2⟩ | ⟨h1,h2,h3,y,h4,h5⟩
 ·rw [if_pos h1]
  congr 1
  exact (List.filter_eq_self.2 (fun x hx=>by simp [h2 x hx])).symm
 ·generalize jX p xs 0=v at *
  simp only [Int.sub_zero] at h3 h4 h5
  rw [if_neg (by omega),aU (by omega) (by omega)]
  refine K2 Z gZ p xs hl hf (xs.length - (v+1).toNat) xs v (v+1) (by omega) (by omega) rfl h1 (by omega) rfl ?_
  obtain ⟨h4',VZ⟩:=List.getElem?_eq_some_iff.1 h4
  have L4:=Ai (fun x=>!p x) h4'
  rw [show v.toNat+1=(v+1).toNat by omega,VZ] at L4
  rw [L4,h5]
  simp only [Bool.not_true,Bool.false_eq_true,if_false]
  exact (List.filter_eq_self.2 (fun x hx=>by simp [h3 x hx])).symm
structure nI {α:Type} (c:α→α→Int):Prop where
 neg:∀ a b,c a b=- c b a
 tr:∀ {a b d},c a b < 0→c b d < 0→c a d < 0
 cg:∀ {a b d},c a b=0→c b d < 0→c a d < 0
theorem nI.zero {α:Type} {c:α→α→Int} (h:nI c) (a:α):c a a=0:=by have:=h.neg a a;omega
theorem nI.V0 {α:Type} {c:α→α→Int} (h:nI c) {a b d:α} (h0:c a b=0) (h1:c d a < 0):c d b < 0:=by
 have n1:=h.neg d b
 have n2:=h.neg a b
 have n3:=h.neg d a
 by_cases e:c d b=0
 ·have:=h.cg e (d:=a)
  by_cases k:c b a < 0
  ·omega
  ·have e2:c b d=0:=by have:=h.neg b d;omega
   have:=h.cg e2 (d:=a) h1
   omega
 ·by_cases k:c d b < 0
  ·exact k
  ·have k1:c b d < 0:=by omega
   have k2:=h.tr k1 h1
   omega
theorem nI.lex {α:Type} {c1 c2:α→α→Int} (h1:nI c1) (h2:nI c2):nI (fun a b=>if c1 a b≠0 then c1 a b else c2 a b):=by
 refine ⟨fun a b=>?_,fun {a b d}=>?_,fun {a b d}=>?_⟩
 ·have n1:=h1.neg a b;have n2:=h2.neg a b
  repeat' split
  all_goals omega
 ·intro k1 k2
  by_cases e1:c1 a b=0
  ·by_cases e2:c1 b d=0
   ·have e3:c1 a d=0:=by
     have n1:=h1.neg a d
     have n2:=h1.neg b d
     have n3:=h1.neg a b
     by_cases k:c1 a d < 0
     ·have:=h1.cg (a:=b) (b:=a) (d:=d) (by omega) k;omega
     ·by_cases k':c1 d a < 0
      ·have:=h1.V0 (a:=a) (b:=b) (d:=d) e1 k';omega
      ·omega
    rw [if_neg (by simpa using e1)] at k1
    rw [if_neg (by simpa using e2)] at k2
    rw [if_neg (by simpa using e3)]
    exact h2.tr k1 k2
   ·rw [if_pos e2] at k2
    have:=h1.cg e1 k2
    rw [if_pos (by omega)];exact this
  ·rw [if_pos e1] at k1
   by_cases e2:c1 b d=0
   ·have:=h1.V0 e2 k1
    rw [if_pos (by omega)];exact this
   ·rw [if_pos e2] at k2
    have:=h1.tr k1 k2
    rw [if_pos (by omega)];exact this
 ·intro k1 k2
  by_cases e1:c1 a b=0
  ·rw [if_neg (by simpa using e1)] at k1
   by_cases e2:c1 b d=0
   ·have e3:c1 a d=0:=by
     have n1:=h1.neg a d
     have n2:=h1.neg b d
     have n3:=h1.neg a b
     by_cases k:c1 a d < 0
     ·have:=h1.cg (a:=b) (b:=a) (d:=d) (by omega) k;omega
     ·by_cases k':c1 d a < 0
      ·have:=h1.V0 (a:=a) (b:=b) (d:=d) e1 k';omega
      ·omega
    rw [if_neg (by simpa using e2)] at k2
    rw [if_neg (by simpa using e3)]
    exact h2.cg k1 k2
   ·rw [if_pos e2] at k2
    have:=h1.cg e1 k2
    rw [if_pos (by omega)];exact this
  ·rw [if_pos e1] at k1;exact absurd k1 e1
theorem nI.on {α β:Type} {c:α→α→Int} (h:nI c) (f:β→α):nI (fun a b=>c (f a) (f b)):=
 ⟨fun a b=>h.neg _ _,fun h1 h2=>h.tr h1 h2,fun h1 h2=>h.cg h1 h2⟩
theorem B9:nI sL:=by
 refine ⟨fun a b=>?_,fun {a b d}=>?_,fun {a b d}=>?_⟩<;>unfold sL<;>repeat' split
 all_goals omega
theorem HR:∀ {a b c:List UInt8},Lib.compareBytes a b < 0→Lib.compareBytes b c < 0→Lib.compareBytes a c < 0
 | [],[],c,h1,h2=>by simp [Lib.compareBytes] at h1
 | [],_ :: _,[],h1,h2=>by simp [Lib.compareBytes] at h2
 | [],_ :: _,_ :: _,h1,h2=>by simp [Lib.compareBytes]
 | _ :: _,[],c,h1,h2=>by simp [Lib.compareBytes] at h1
 | _ :: _,_ :: _,[],h1,h2=>by simp [Lib.compareBytes] at h2
 | a :: la,b :: lb,c :: lc,h1,h2=>by
   simp only [Lib.compareBytes] at h1 h2 ⊢
   rcases zK a b with h | h | h
   ·rcases zK b c with k | k | k
    ·rw [if_pos (UInt8.lt_trans h k)];omega
    ·subst k;rw [if_pos h];omega
    ·rw [if_neg (uq k),if_pos k] at h2;omega
   ·subst h
    rcases zK a c with k | k | k
    ·rw [if_pos k];omega
    ·subst k
     rw [if_neg (by simp),if_neg (by simp)] at h1 h2 ⊢
     exact HR h1 h2
    ·rw [if_neg (uq k),if_pos k] at h2;omega
   ·rw [if_neg (uq h),if_pos h] at h1;omega
theorem uN:nI Lib.compareBytes:=⟨FT,HR,fun h1 h2=>by rw [qx h1];exact h2⟩
theorem Du {a b:Int} (h:sL a b=0):a=b:=by
 unfold sL at h
 repeat' split at h
 all_goals omega
theorem nI.ord {α:Type} {c:α→α→Int} (h:nI c) (xs:List α):CO c xs:=by
 refine ⟨fun x _ k=>?_,fun x _ y _ z _ h1 h2=>h.tr h1 h2,fun x _ y _ z _ h1 h2 h3=>?_⟩
 ·have:=h.zero x;omega
 ·have n1:=h.neg x y
  have n2:=h.neg y z
  by_cases h4:c x y=0
  ·have h5:c y x=0:=by omega
   exact h2 (h.cg h5 h3)
  ·have:c y x < 0:=by omega
   exact h2 (h.tr this h3)
def k8 {α:Type} (xs:List α) (i:Int):Option α:=if i≤0 then none else idx xs (i - 1)
def Ca {α:Type} (st:Option α→α→Int):Option α→List α→Int
 | _,[]=>0
 | p,s :: r=>if st p s=0 then Ca st (some s) r else st p s
theorem Dv {α:Type} (st:Option α→α→Int) (xs:List α) (f:Int→Option (Int⊕Int)) (hf:∀ {i:Int} {s:α},0≤i→i < xs.length→idx xs i=some s→f i=some (if st (k8 xs i) s=0 then .inl (i+1) else .inr (st (k8 xs i) s)))
 (he:f xs.length=some (.inr 0)):∀ (n:Nat) (i:Int),0≤i→i+n=xs.length→iter f i=some (Ca st (k8 xs i) (xs.drop i.toNat))
 | 0,i,h0,hn=>by
   obtain rfl:i=xs.length:=by omega
   rw [iter_eq,he,List.drop_of_length_le (by omega)];rfl
 | n+1,i,h0,hn=>by
   obtain ⟨s,hs,_,hd⟩:=jY xs h0 (by omega)
   rw [iter_eq,hf h0 (by omega) hs,hd]
   simp only [Option.bind_some,Ca]
   split
   ·have hp:k8 xs (i+1)=some s:=by unfold k8;rw [if_neg (by omega),show i+1 - 1=i by omega,hs]
    have:=Dv st xs f hf he n (i+1) (by omega) (by omega)
    rw [cK,this,hp]
   ·rfl
theorem FY {α:Type} (st:Option α→α→Int) (xs:List α) (f:Int→Option (Int⊕Int)) (hf:∀ {i:Int} {s:α},0≤i→i < xs.length→idx xs i=some s→f i=some (if st (k8 xs i) s=0 then .inl (i+1) else .inr (st (k8 xs i) s)))
 (he:f xs.length=some (.inr 0)):iter f 0=some (Ca st none xs):=by
 rw [Dv st xs f hf he xs.length 0 (by omega) (by omega)];rfl
theorem Sf {α:Type} {B:α→Prop} {xs:List α} {i:Nat} {y:α} (h:∀ x∈xs,B x) (hy:B y):∀ x∈xs.set i y,B x:=by
 intro x hx
 rcases List.mem_or_eq_of_mem_set hx with h1 | h1
 ·exact h x h1
 ·rw [h1];exact hy
theorem nJ {α:Type} {n:Nat} {m:Option (List α)} {Z:List α} (h:m=some Z) (hl:Z.length=n):fO n (fun r:List α=>r.length) m=some Z:=by
 rw [h];unfold fO
 simp only [Option.bind_some]
 rw [if_pos hl]
end Go.Beacon
set_option linter.unusedSectionVars false
namespace Go.Beacon
open Go Go.Eng
class yP (K:Type) [xK K]:Prop where
 Jt:∀ a:K,xK.lt a a=false
 tr:∀ {a b c:K},xK.lt a b=true→xK.lt b c=true→xK.lt a c=true
 Pw:∀ a b:K,xK.lt a b=true∨a=b∨xK.lt b a=true
instance:yP Int where
 Jt a:=by show decide (a < a)=false;simp
 tr {a b c} h1 h2:=by
  have h1:decide (a < b)=true:=h1
  have h2:decide (b < c)=true:=h2
  show decide (a < c)=true
  simp only [decide_eq_true_eq] at *;omega
 Pw a b:=by
  show decide (a < b)=true∨a=b∨decide (b < a)=true
  simp only [decide_eq_true_eq];omega
instance:yP Bool where
 Jt a:=by cases a<;>rfl
 tr {a b c} h1 h2:=by revert h1 h2;cases a<;>cases b<;>cases c<;>decide
 Pw a b:=by cases a<;>cases b<;>decide
instance:yP (List UInt8) where
 Jt a:=by
  show Op.bytesLess a a=false
  rw [wm,Dt];rfl
 tr {a b c} h1 h2:=by
  have h1:Op.bytesLess a b=true:=h1
  have h2:Op.bytesLess b c=true:=h2
  show Op.bytesLess a c=true
  rw [wm,decide_eq_true_eq] at *
  exact uN.tr h1 h2
 Pw a b:=by
  show Op.bytesLess a b=true∨a=b∨Op.bytesLess b a=true
  rw [wm,wm,decide_eq_true_eq,decide_eq_true_eq]
  rcases Int.lt_trichotomy (Lib.compareBytes a b) 0 with h | h | h
  ·exact .inl h
  ·exact .inr (.inl (qx h))
  ·exact .inr (.inr (by have:=uN.neg a b;omega))
section
variable {K V:Type} [DecidableEq K]
theorem pb (e:K×V) (m:List (K×V)) (k:K):gL (e :: m) k=if e.1=k then some e.2 else gL m k:=rfl
theorem zL (m:List (K×V)) (k k':K):gL (BD m k) k'=if k=k' then none else gL m k':=by
 induction m with
 | nil=>simp [BD,gL]
 | cons e r ih=>
   unfold BD at ih ⊢
   rw [List.filter_cons]
   by_cases h:e.1=k
   ·rw [if_neg (by simp [h]),ih,pb]
    by_cases h2:k=k'
    ·rw [if_pos h2,if_pos h2]
    ·rw [if_neg h2,if_neg h2,if_neg (by rw [h];exact h2)]
   ·rw [if_pos (by simp [h]),pb,ih,pb]
    by_cases h2:k=k'
    ·rw [if_pos h2,if_pos h2,if_neg (by rw [← h2];exact h)]
    ·rw [if_neg h2,if_neg h2]
variable [xK K]
theorem Dw (k:K) (v:V) (k':K):∀ (m:List (K×V)),gL m k=none→gL (CC k v m) k'=if k=k' then some v else gL m k'
 | [],_=>by simp [CC,gL]
 | e :: r,h=>by
   rw [pb] at h
   have h1:e.1≠k:=fun he=>by rw [if_pos he] at h;cases h
   rw [if_neg h1] at h
   unfold CC
   split
   ·rw [pb,Dw k v k' r h,pb]
    by_cases h2:k=k'
    ·rw [if_pos h2,if_pos h2,if_neg (by rw [← h2];exact h1)]
    ·rw [if_neg h2,if_neg h2]
   ·rw [pb]
theorem Dx (m:List (K×V)) (k:K) (v:V) (k':K):gL (pz m k v) k'=if k=k' then some v else gL m k':=by
 unfold pz
 rw [Dw k v k' _ (by rw [zL,if_pos rfl]),zL]
 by_cases h:k=k'
 ·rw [if_pos h,if_pos h]
 ·rw [if_neg h,if_neg h,if_neg h]
def SM (m:List (K×V)):Prop:=m.Pairwise (fun a b=>xK.lt a.1 b.1=true)
theorem SM.nil:SM ([]:List (K×V)):=List.Pairwise.nil
theorem SM.del {m:List (K×V)} (h:SM m) (k:K):SM (BD m k):=List.Pairwise.filter _ h
variable [yP K]
theorem SM.ne {m:List (K×V)} (h:SM m):m.Pairwise (fun a b=>a.1≠b.1):=
 List.Pairwise.imp (fun {a b} h e=>by rw [e,yP.Jt] at h;cases h) h
theorem SM.nodup {m:List (K×V)} (h:SM m):(m.map Prod.fst).Nodup:=by
 unfold List.Nodup
 rw [List.pairwise_map]
 exact SM.ne h
theorem HT (k:K) (v:V):∀ {m:List (K×V)},SM m→gL m k=none→SM (CC k v m)
 | [],_,_=>by unfold CC SM;simp
 | e :: r,h,hn=>by
   have h':=List.pairwise_cons.1 h
   rw [pb] at hn
   have h1:e.1≠k:=fun he=>by rw [if_pos he] at hn;cases hn
   rw [if_neg h1] at hn
   unfold CC
   split
   ·rename_i jh
    refine List.pairwise_cons.2 ⟨fun z hz=>?_,HT k v h'.2 hn⟩
    rcases List.mem_cons.1 ((wL k v r).mem_iff.1 hz) with rfl | hz
    ·exact jh
    ·exact h'.1 z hz
   ·rename_i jh
    have Yl:xK.lt k e.1=true:=by
     rcases yP.Pw k e.1 with h | h | h
     ·exact h
     ·exact absurd h.symm h1
     ·exact absurd h jh
    refine List.pairwise_cons.2 ⟨fun z hz=>?_,h⟩
    rcases List.mem_cons.1 hz with rfl | hz
    ·exact Yl
    ·exact yP.tr Yl (h'.1 z hz)
theorem SM.set {m:List (K×V)} (h:SM m) (k:K) (v:V):SM (pz m k v):=
 HT k v (h.del k) (by rw [zL,if_pos rfl])
theorem SM.Nq {m:List (K×V)} (h:SM m) {k:K} {v:V}:gL m k=some v↔(k,v)∈m:=
 ⟨BE,vP h.nodup⟩
end
section
variable {E S A:Type}
end
end Go.Beacon
