/- Plain facts on what the functions compute. No program in sight. -/
import Derived.Test.YthamhifbccpcpaaGreatDoorCore
set_option linter.unusedVariables false
namespace Go.Beacon
open Go Go.Eng
theorem aP {x:Int} (h1:-9223372036854775808≤x) (h2:x≤9223372036854775807):aU x=x:=AU ⟨h1,h2⟩
theorem Q7 {a b:Int} (h:0 < b) (h0:0≤a):rem a b=some (a % b):=by
 unfold rem
 rw [if_neg (by omega),Int.tmod_eq_emod_of_nonneg h0]
theorem Kb {a b:Int} (h:b≠0):rem a b=some (a.tmod b):=by unfold rem;rw [if_neg h]
theorem Kc {a b:Int} (h:b≠0):quo a b=some (aU (a.tdiv b)):=by unfold quo;rw [if_neg h]
theorem gu {α:Type} (xs:List α) {i:Int} (h0:0≤i) (h1:i < xs.length):∃ x,idx xs i=some x∧x∈xs∧xs.drop i.toNat=x :: xs.drop (i+1).toNat:=by
 have h:i.toNat < xs.length:=by omega
 refine ⟨xs[i.toNat],by unfold idx;rw [if_pos h0];simp [h],List.getElem_mem h,?_⟩
 rw [show (i+1).toNat=i.toNat+1 by omega]
 exact List.drop_eq_getElem_cons h
theorem ry {α:Type} {xs:List α} {i:Int} {x:α} (h:idx xs i=some x):x∈xs:=List.mem_of_getElem? (lZ h).2.2
theorem fR {α:Type} {xs ys:List α} (h:xs.length+ys.length≤1000000000):app xs ys=some (xs++ys):=by unfold app;rw [if_pos h]
theorem D3 {α:Type} {xs:List α} {l h:Int} (h0:0≤l) (h1:l≤h) (h2:h≤xs.length):xm xs l h=some ((xs.drop l.toNat).take (h.toNat - l.toNat)):=by
 unfold xm;rw [if_pos ⟨h0,h1,h2⟩]
def D4 {α σ A:Type} (step:σ→α→Int→Option (σ⊕A)) (fin:σ→Int→Option A):List α→σ→Int→Option A
 | [],s,i=>fin s i
 | x :: r,s,i=>match step s x i with
   | none=>none
   | some (.inl s')=>D4 step fin r s' (i+1)
   | some (.inr a)=>some a
theorem D5 {α σ A X:Type} (xs:List α) (mk:σ→Int→X) (f:X→Option (X⊕A)) (step:σ→α→Int→Option (σ⊕A)) (fin:σ→Int→Option A)
 (h1:∀ s (i:Int) x,0≤i→i < xs.length→idx xs i=some x→f (mk s i)=(step s x i).map (Sum.map (fun s'=>mk s' (i+1)) id))
 (h2:∀ s,f (mk s xs.length)=(fin s xs.length).map .inr):∀ (n:Nat) (s:σ) (i:Int),0≤i→i+n=xs.length→iter f (mk s i)=D4 step fin (xs.drop i.toNat) s i
 | 0,s,i,h0,hn=>by
   have hi:i=xs.length:=by omega
   subst hi
   rw [iter_eq,h2,bL]
   simp [D4]
 | n+1,s,i,h0,hn=>by
   obtain ⟨x,hx,_,hd⟩:=gu xs h0 (by omega)
   rw [iter_eq,h1 s i x h0 (by omega) hx,hd]
   simp only [D4]
   cases yX:step s x i with
   | none=>rfl
   | some u=>
     cases u with
     | inl s'=>exact D5 xs mk f step fin h1 h2 n s' (i+1) (by omega) (by omega)
     | inr a=>rfl
theorem IV {α σ A X:Type} (xs:List α) (mk:σ→Int→X) (f:X→Option (X⊕A)) (step:σ→α→Int→Option (σ⊕A)) (fin:σ→Int→Option A)
 (h1:∀ s (i:Int) x,0≤i→i < xs.length→idx xs i=some x→f (mk s i)=(step s x i).map (Sum.map (fun s'=>mk s' (i+1)) id))
 (h2:∀ s,f (mk s xs.length)=(fin s xs.length).map .inr) (s:σ):iter f (mk s 0)=D4 step fin xs s 0:=
 D5 xs mk f step fin h1 h2 xs.length s 0 (by omega) (by omega)
def B3 {α A:Type} (g:α→Option A) (e:A):List α→A
 | []=>e
 | x :: r=>match g x with
   | some a=>a
   | none=>B3 g e r
theorem Bh {α A:Type} (xs:List α) (f:Int→Option (Int⊕A)) (g:α→Option A) (e:A) (hlen:(xs.length:Int)≤4611686018427387904)
 (h1:∀ (i:Int) x,0≤i→i < xs.length→idx xs i=some x→f i=match g x with | some a=>some (.inr a) | none=>some (.inl (i+1)))
 (h2:f xs.length=some (.inr e)):iter f 0=some (B3 g e xs):=by
 have h:=IV xs (fun (_:Unit) i=>i) f (fun _ x _=>match g x with | some a=>some (.inr a) | none=>some (.inl ())) (fun _ _=>some e)
  (fun s i x h0 h3 h4=>by rw [h1 i x h0 h3 h4];cases g x<;>rfl) (fun s=>by rw [h2];rfl) ()
 rw [h]
 clear h h1 h2 hlen
 suffices ∀ (xs:List α) (i:Int),D4 (fun (_:Unit) x _=>match g x with | some a=>some (.inr a) | none=>some (.inl ())) (fun _ _=>some e) xs () i=some (B3 g e xs) from this xs 0
 intro xs
 induction xs with
 | nil=>intro i;rfl
 | cons x r ih=>
   intro i
   simp only [D4,B3]
   cases g x with
   | none=>exact ih (i+1)
   | some a=>rfl
theorem D6 {α:Type} (p:α→Bool):∀ (xs:List α),B3 (fun x=>if p x=true then none else some false) true xs=xs.all p
 | []=>rfl
 | x :: r=>by
   simp only [B3,List.all_cons]
   cases hp:p x<;>simp [D6 p r]
end Go.Beacon
set_option linter.unusedSimpArgs false
namespace Go.Beacon
open Go Go.Eng
def ye {α:Type} [DecidableEq α] (xs ys:List α) (i:Int):Option (Int⊕Bool):=
 if i < (xs.length:Int) then
  (idx xs i).bind fun v3=>
  (idx ys i).bind fun v4=>
  if v3≠v4 then
   Option.map .inr (some false)
  else
   some (.inl (aU (i+(1:Int))))
 else
  Option.map .inr (some true)
noncomputable def OG {α:Type} [DecidableEq α] (xs ys:List α):Option Bool:=
 if (xs.length:Int)≠(ys.length:Int) then
  some false
 else
  iter (fun x:Int=>ye xs ys x) 0
theorem B4 {α:Type} [DecidableEq α] (xs ys:List α) (hl:xs.length=ys.length) (hb:(xs.length:Int)≤4611686018427387904):∀ (n:Nat) (i:Int),0≤i→i+n=xs.length→
 iter (fun x:Int=>ye xs ys x) i=some (decide (xs.drop i.toNat=ys.drop i.toNat))
 | 0,i,h0,hn=>by
   rw [iter_eq,ye,if_neg (by omega),List.drop_of_length_le (by omega),List.drop_of_length_le (by omega)];simp
 | n+1,i,h0,hn=>by
   obtain ⟨x,hx,_,hd⟩:=gu xs h0 (by omega)
   obtain ⟨y,hy,_,BL⟩:=gu ys h0 (by omega)
   rw [iter_eq,ye,if_pos (by omega),hx,hy,hd,BL]
   simp only [Option.bind_some]
   by_cases Jy:x=y
   ·subst Jy
    rw [if_neg (by simp)]
    simp only [Option.bind_some,cS]
    rw [aP (by omega) (by omega)]
    have:=B4 xs ys hl hb n (i+1) (by omega) (by omega)
    rw [this];simp
   ·rw [if_pos Jy];simp [Jy]
theorem FC {α:Type} [DecidableEq α] (xs ys:List α) (hb:(xs.length:Int)≤4611686018427387904):OG xs ys=some (decide (xs=ys)):=by
 unfold OG
 by_cases h:xs.length=ys.length
 ·rw [if_neg (by omega),B4 xs ys h hb xs.length 0 (by omega) (by omega)];simp
 ·rw [if_pos (by omega),decide_eq_false (fun e=>h (by rw [e]))]
def rz {α:Type} (xs:List α) (f:α→Option Bool) (i:Int):Option (Int⊕Int):=
 if i < (xs.length:Int) then
  (idx xs i).bind fun v3=>
  (f v3).bind fun v4=>
  if v4=true then
   Option.map .inr (some i)
  else
   some (.inl (aU (i+(1:Int))))
 else
  Option.map .inr (some (-1:Int))
noncomputable def zo {α:Type} (xs:List α) (f:α→Option Bool):Option Int:=iter (fun x:Int=>rz xs f x) 0
def su {α:Type} (p:α→Bool):List α→Int→Int
 | [],_=>-1
 | x :: r,i=>if p x=true then i else su p r (i+1)
theorem wT {α:Type} (xs:List α) (f:α→Option Bool) (p:α→Bool) (hf:∀ x∈xs,f x=some (p x)) (hb:(xs.length:Int)≤4611686018427387904):∀ (n:Nat) (i:Int),0≤i→i+n=xs.length→
 iter (fun x:Int=>rz xs f x) i=some (su p (xs.drop i.toNat) i)
 | 0,i,h0,hn=>by
   rw [iter_eq,rz,if_neg (by omega),List.drop_of_length_le (by omega)];rfl
 | n+1,i,h0,hn=>by
   obtain ⟨x,hx,hm,hd⟩:=gu xs h0 (by omega)
   rw [iter_eq,rz,if_pos (by omega),hx,hd]
   simp only [Option.bind_some,hf x hm,su]
   split
   ·rfl
   ·simp only [Option.bind_some,cS]
    rw [aP (by omega) (by omega)]
    exact wT xs f p hf hb n (i+1) (by omega) (by omega)
theorem E2 {α:Type} (xs:List α) (f:α→Option Bool) (p:α→Bool) (hf:∀ x∈xs,f x=some (p x)) (hb:(xs.length:Int)≤4611686018427387904):zo xs f=some (su p xs 0):=by
 unfold zo
 rw [wT xs f p hf hb xs.length 0 (by omega) (by omega)];simp
def GV (xs:List Int) (i:Int):Option (Int⊕Int):=
 if i < (xs.length:Int) then
  (idx xs i).bind fun v3=>
  if v3≠(0:Int) then
   Option.map .inr (some v3)
  else
   some (.inl (aU (i+(1:Int))))
 else
  Option.map .inr (some (0:Int))
noncomputable def gOr (xs:List Int):Option Int:=iter (fun x:Int=>GV xs x) 0
def mA:List Int→Int
 | []=>0
 | x :: r=>if x≠0 then x else mA r
theorem xM (xs:List Int) (hb:(xs.length:Int)≤4611686018427387904):gOr xs=some (mA xs):=by
 unfold gOr
 rw [Bh xs (fun x:Int=>GV xs x) (fun x=>if x≠0 then some x else none) 0 hb]
 ·congr 1
  clear hb
  induction xs with
  | nil=>rfl
  | cons x r ih=>
    simp only [B3,mA]
    by_cases h:x=0
    ·subst h;simpa using ih
    ·simp [h]
 ·intro i x h0 h1 hx
  unfold GV
  rw [if_pos h1,hx]
  simp only [Option.bind_some]
  by_cases h:x=0
  ·rw [aP (by omega) (by omega)];simp [h]
  ·simp [h]
 ·unfold GV;rw [if_neg (by omega)];rfl
def oc (a b:Int):Int:=if a < b then -1 else if b < a then 1 else 0
theorem yf:∀ l:List UInt8,Lib.compareBytes l l=0
 | []=>rfl
 | a :: l=>by simp only [Lib.compareBytes];rw [if_neg (by simp),if_neg (by simp)];exact yf l
theorem GW (a:UInt8):¬ a < a:=by simp
theorem Bi (a b:UInt8):a < b∨a=b∨b < a:=by
 rcases Nat.lt_trichotomy a.toNat b.toNat with h | h | h
 ·exact .inl h
 ·exact .inr (.inl (UInt8.toNat_inj.1 h))
 ·exact .inr (.inr h)
theorem vD {a b:UInt8} (h:a < b):¬ b < a:=by
 rw [UInt8.lt_iff_toNat_lt] at *;omega
theorem uo:∀ a b:List UInt8,Lib.compareBytes a b=- Lib.compareBytes b a
 | [],[]=>rfl
 | [],_ :: _=>rfl
 | _ :: _,[]=>rfl
 | a :: la,b :: lb=>by
   simp only [Lib.compareBytes]
   rcases Bi a b with h | h | h
   ·rw [if_pos h,if_neg (vD h),if_pos h]
   ·subst h
    rw [if_neg (by simp),if_neg (by simp),if_neg (by simp),if_neg (by simp)];exact uo la lb
   ·rw [if_neg (vD h),if_pos h,if_pos h];rfl
theorem qU:∀ {a b:List UInt8},Lib.compareBytes a b=0→a=b
 | [],[],_=>rfl
 | [],_ :: _,h=>by simp [Lib.compareBytes] at h
 | _ :: _,[],h=>by simp [Lib.compareBytes] at h
 | a :: la,b :: lb,h=>by
   simp only [Lib.compareBytes] at h
   split at h
   ·simp at h
   ·split at h
    ·simp at h
    ·rename_i h1 h2
     rcases Bi a b with h3 | h3 | h3
     ·exact absurd h3 h1
     ·rw [h3,qU h]
     ·exact absurd h3 h2
theorem xN:∀ a b:List UInt8,Op.bytesLess a b=decide (Lib.compareBytes a b < 0)
 | [],[]=>by simp [Op.bytesLess,Lib.compareBytes]
 | [],_ :: _=>by simp [Op.bytesLess,Lib.compareBytes]
 | _ :: _,[]=>by simp [Op.bytesLess,Lib.compareBytes]
 | a :: la,b :: lb=>by
   simp only [Op.bytesLess,Lib.compareBytes]
   rcases Bi a b with h | h | h
   ·simp [h]
   ·subst h;simp [xN la lb]
   ·have h1:=vD h
    have h2:(a==b)=false:=by
     rw [beq_eq_false_iff_ne];intro e;subst e;exact GW _ h
    simp [h,h1,h2]
theorem vE:∀ (l:List UInt8) (c:UInt8),(Lib.indexByte l c < 0)↔c∉l
 | [],c=>by simp [Lib.indexByte]
 | b :: l,c=>by
   have ih:=vE l c
   have JJ:=Lib.indexByte_ge l c
   simp only [Lib.indexByte,List.mem_cons,not_or]
   by_cases hb:b=c
   ·subst hb;simp
   ·rw [if_neg (by simpa using hb)]
    by_cases h1:Lib.indexByte l c=-1
    ·rw [h1] at ih
     simp only [h1,beq_self_eq_true,if_true]
     exact ⟨fun _=>⟨fun e=>hb e.symm,ih.1 (by omega)⟩,fun _=>by omega⟩
    ·rw [if_neg (by simpa using h1)]
     exact ⟨fun h=>by omega,fun h=>absurd (ih.2 h.2) (by omega)⟩
theorem Z0 (c:UInt8):((c.toNat:Int)).toNat.toUInt8=c:=by simp
structure E3 {α:Type} (cf:α→α→Int) (xs:List α):Prop where
 Na:∀ x∈xs,¬ cf x x < 0
 tr:∀ x∈xs,∀ y∈xs,∀ z∈xs,cf x y < 0→cf y z < 0→cf x z < 0
 Yd:∀ x∈xs,∀ y∈xs,∀ z∈xs,¬ cf x y < 0→¬ cf y z < 0→¬ cf x z < 0
def qV {α:Type} (cf:α→α→Int) (xs:List α):Prop:=xs.Pairwise (fun a b=>¬ cf b a < 0)
theorem E3.mono {α:Type} {cf:α→α→Int} {xs ys:List α} (h:E3 cf xs) (hs:∀ y∈ys,y∈xs):E3 cf ys:=
 ⟨fun x hx=>h.Na x (hs x hx),fun x hx y hy z hz=>h.tr x (hs x hx) y (hs y hy) z (hs z hz),fun x hx y hy z hz=>h.Yd x (hs x hx) y (hs y hy) z (hs z hz)⟩
def uT {α:Type} (n4:Int) (l7:List α) (n8:Int) (c9:Bool):Option (((List α)×Int)⊕(((List α)×Int)⊕(List α))):=
 if c9=true then
  (idx l7 (aU (n8 - (1:Int)))).bind fun k9=>
  (idx l7 n8).bind fun nz=>
  (idx l7 n8).bind fun mM=>
  (idx (l7.set n8.toNat k9) (aU (n8 - (1:Int)))).bind fun gx=>
  some (.inl ((l7.set n8.toNat k9).set (aU (n8 - (1:Int))).toNat nz,aU (n8 - (1:Int))))
 else
  Option.map .inr (some (.inl (l7,aU (n4+(1:Int)))))
def rB {α:Type} (aj:Int) (nO:α→α→Option Int) (n4:Int) (l7:List α) (n8:Int):Option (((List α)×Int)⊕(((List α)×Int)⊕(List α))):=
 if aj < n8 then
  (idx l7 n8).bind fun v10=>
  (idx l7 (aU (n8 - (1:Int)))).bind fun v11=>
  (nO v10 v11).bind fun v12=>
  uT n4 l7 n8 (decide (v12 < (0:Int)))
 else
  uT n4 l7 n8 false
noncomputable def yg {α:Type} (aj:Int) (nO:α→α→Option Int) (n4:Int) (l7:List α) (n8:Int):Option (((List α)×Int)⊕(List α)):=
 iter (fun x:(List α)×Int=>rB aj nO n4 x.1 x.2) (l7,n8)
noncomputable def uU {α:Type} (aj:Int) (ar:Int) (nO:α→α→Option Int) (l3:List α) (n4:Int):Option (((List α)×Int)⊕(List α)):=
 if n4 < ar then
  yg aj nO n4 l3 n4
 else
  Option.map .inr (some l3)
noncomputable def wh {α:Type} (aj:Int) (ar:Int) (nO:α→α→Option Int) (l3:List α) (n4:Int):Option (List α):=
 iter (fun x:(List α)×Int=>uU aj ar nO x.1 x.2) (l3,n4)
noncomputable def IW {α:Type} (aa:List α) (aj:Int) (ar:Int) (nO:α→α→Option Int):Option (List α):=
 wh aj ar nO aa (aU (aj+(1:Int)))
theorem IX {α:Type} (P:List α) (x y:α) (T:List α):((P++y :: x :: T).set (P.length+1) y).set P.length x=P++x :: y :: T:=by
 induction P with
 | nil=>rfl
 | cons p P ih=>simp only [List.cons_append,List.length_cons,List.set_cons_succ,ih]
theorem lg {α:Type} (P:List α) (x:α) (T:List α) {i:Int} (hi:i=P.length):idx (P++x :: T) i=some x:=by
 subst hi
 unfold idx
 rw [if_pos (by omega)]
 simp
theorem Mt {α:Type} (nO:α→α→Option Int) (cf:α→α→Int) (n4:Int) (hn:n4≤1000000) (x:α):∀ (k:Nat) (P R post:List α),P.length=k→(P.length:Int)≤1000000→
 (∀ y∈P,nO x y=some (cf x y))→E3 cf (x :: (P++R))→qV cf (P++R)→(∀ r∈R,cf x r < 0)→
 ∃ Z,yg 0 nO n4 (P++x :: (R++post)) P.length=some (.inl (Z++post,aU (n4+1)))∧Z.Perm (x :: (P++R))∧qV cf Z:=by
 intro k
 induction k with
 | zero=>
   intro P R post hP hl hf hO hs hR
   obtain rfl:P=[]:=List.eq_nil_of_length_eq_zero hP
   refine ⟨x :: R,?_,by simp,?_⟩
   ·unfold yg
    rw [iter_eq,rB,if_neg (by simp),uT,if_neg (by simp),bL];simp
   ·refine List.pairwise_cons.2 ⟨fun r hr lh=>?_,by simpa [qV] using hs⟩
    have h1:=hR r hr
    exact hO.Na x (by simp) (hO.tr x (by simp) r (by simp [hr]) x (by simp) h1 lh)
 | succ k ih=>
   intro P R post hP hl hf hO hs hR
   obtain ⟨Q,y,rfl⟩:∃ Q y,P=Q++[y]:=by
    rcases List.eq_nil_or_concat P with h | ⟨Q,y,h⟩
    ·rw [h] at hP;simp at hP
    ·exact ⟨Q,y,by simpa using h⟩
   have hQ:Q.length=k:=by simpa using hP
   have hlen:((Q++[y]).length:Int)=Q.length+1:=by simp
   have hlq:(Q.length:Int)+1≤1000000:=by rw [← hlen];exact hl
   have w1:aU ((Q.length:Int)+1 - 1)=Q.length:=by rw [aP]<;>omega
   have e1:(Q++[y])++x :: (R++post)=Q++y :: x :: (R++post):=by simp
   have i1:idx (Q++y :: x :: (R++post)) ((Q.length:Int)+1)=some x:=by
    have:=lg (Q++[y]) x (R++post) (i:=(Q.length:Int)+1) (by simp)
    simpa using this
   have i0:idx (Q++y :: x :: (R++post)) (Q.length:Int)=some y:=lg Q y _ rfl
   rw [e1,hlen]
   by_cases hc:cf x y < 0
   ·obtain ⟨Z,z1,z2,z3⟩:=ih Q (y :: R) post hQ (by omega) (fun z hz=>hf z (by simp [hz])) (hO.mono (fun z hz=>by simp at hz ⊢;rcases hz with h | h | h | h<;>simp [h])) (by simpa using hs) (fun r hr=>by rcases List.mem_cons.1 hr with rfl | hr;exact hc;exact hR r hr)
    refine ⟨Z,?_,z2.trans (by simp),z3⟩
    unfold yg at z1 ⊢
    rw [iter_eq,rB,if_pos (by simp only;omega)]
    simp only [i1,w1,i0,Option.bind_some,hf y (by simp),hc,decide_true]
    unfold uT
    rw [if_pos rfl,w1]
    simp only [i0,i1,Option.bind_some]
    have i2:idx ((Q++y :: x :: (R++post)).set ((Q.length:Int)+1).toNat y) (Q.length:Int)=some y:=by
     rw [show ((Q.length:Int)+1).toNat=Q.length+1 by omega]
     unfold idx
     rw [if_pos (by omega),List.getElem?_set_ne (by simp)]
     simp
    rw [i2]
    simp only [Option.bind_some,cS]
    have e2:((Q++y :: x :: (R++post)).set ((Q.length:Int)+1).toNat y).set ((Q.length:Int)).toNat x=Q++x :: (y :: R++post):=by
     rw [show ((Q.length:Int)+1).toNat=Q.length+1 by omega,show ((Q.length:Int)).toNat=Q.length by omega,IX];simp
    rw [e2]
    exact z1
   ·refine ⟨Q++y :: x :: R,?_,?_,?_⟩
    ·unfold yg
     rw [iter_eq,rB,if_pos (by simp only;omega)]
     simp only [i1,w1,i0,Option.bind_some,hf y (by simp),hc,decide_false]
     unfold uT
     rw [if_neg (by simp),bL];simp
    ·have:(Q++y :: x :: R).Perm (x :: (Q++y :: R)):=by
      have h:=List.perm_middle (a:=x) (l₁:=Q++[y]) (l₂:=R)
      simpa using h
     simpa using this
    ·unfold qV at hs ⊢
     have xa:(Q++y :: R).Pairwise (fun a b=>¬ cf b a < 0):=by simpa using hs
     rw [List.pairwise_append,List.pairwise_cons] at xa ⊢
     obtain ⟨a1,⟨a2,a3⟩,a4⟩:=xa
     have hxQ:∀ q∈Q,¬ cf x q < 0:=fun q hq=>hO.Yd x (by simp) y (by simp) q (by simp [hq]) hc (a4 q hq y (by simp))
     refine ⟨a1,⟨fun z hz=>?_,List.pairwise_cons.2 ⟨fun r hr lh=>?_,a3⟩⟩,fun q hq z hz=>?_⟩
     ·rcases List.mem_cons.1 hz with rfl | hz
      ·exact hc
      ·exact a2 z hz
     ·exact hO.Na x (by simp) (hO.tr x (by simp) r (by simp [hr]) x (by simp) (hR r hr) lh)
     ·rcases List.mem_cons.1 hz with rfl | hz
      ·exact a4 q hq z (by simp)
      ·rcases List.mem_cons.1 hz with rfl | hz
       ·exact hxQ q hq
       ·exact a4 q hq z (by simp [hz])
theorem Mu {α:Type} (nO:α→α→Option Int) (cf:α→α→Int) (xs:List α) (hl:(xs.length:Int)≤100000) (hf:∀ x∈xs,∀ y∈xs,nO x y=some (cf x y)) (hO:E3 cf xs):∀ (n:Nat) (P post:List α) (i:Int),i=P.length→post.length=n→(P++post).Perm xs→qV cf P→
 ∃ Z,wh 0 xs.length nO (P++post) i=some Z∧Z.Perm xs∧qV cf Z:=by
 intro n
 induction n with
 | zero=>
   intro P post i hi hn hp hs
   obtain rfl:post=[]:=List.eq_nil_of_length_eq_zero hn
   have hlen:=hp.length_eq
   simp only [List.append_nil] at hp hlen ⊢
   refine ⟨P,?_,hp,hs⟩
   unfold wh
   rw [iter_eq,uU,if_neg (by simp only;omega),bL]
 | succ n ih=>
   intro P post i hi hn hp hs
   match post,hn with
   | x :: r,hn=>
     have hlen:=hp.length_eq
     simp only [List.length_append,List.length_cons] at hlen
     have u5:∀ z∈P++x :: r,z∈xs:=fun z hz=>hp.mem_iff.1 hz
     obtain ⟨Z,z1,z2,z3⟩:=Mt nO cf i (by omega) x P.length P [] r rfl (by omega) (fun y hy=>hf x (u5 x (by simp)) y (u5 y (by simp [hy]))) (hO.mono (fun z hz=>u5 z (by simp at hz ⊢;rcases hz with h | h<;>simp [h]))) (by simpa using hs) (by simp)
     simp only [List.append_nil,List.nil_append] at z1 z2
     have Zj:=z2.length_eq
     obtain ⟨Y,y1,y2,y3⟩:=ih Z r (i+1) (by rw [hi];simp at Zj;omega) (by simpa using hn) (by
      refine List.Perm.trans ?_ hp
      have:(Z++r).Perm ((x :: P)++r):=z2.append_right r
      refine this.trans ?_
      have h:=List.perm_middle (a:=x) (l₁:=P) (l₂:=r)
      simpa using h.symm) z3
     refine ⟨Y,?_,y2,y3⟩
     unfold wh at y1 ⊢
     rw [iter_eq,uU,if_pos (by simp only;omega)]
     simp only
     rw [← hi] at z1
     rw [z1]
     simp only [Option.bind_some,cS]
     rw [aP (by omega) (by omega)]
     exact y1
theorem Q8 {α:Type} (nO:α→α→Option Int) (cf:α→α→Int) (xs:List α) (hl:(xs.length:Int)≤100000) (hf:∀ x∈xs,∀ y∈xs,nO x y=some (cf x y)) (hO:E3 cf xs):∃ Z,IW xs 0 xs.length nO=some Z∧Z.Perm xs∧qV cf Z:=by
 unfold IW
 rw [show aU (0+1)=1 by decide]
 cases xs with
 | nil=>
   refine ⟨[],?_,List.Perm.refl _,.nil⟩
   unfold wh
   rw [iter_eq,uU,if_neg (by simp),bL]
 | cons x r=>
   exact Mu nO cf (x :: r) hl hf hO r.length [x] r 1 (by simp) rfl (List.Perm.refl _) (by simp [qV])
theorem TY {α:Type} {f:α→α→Option Int} {cf:α→α→Int} {x:α} {r:List α} (hf:∀ a∈x :: r,∀ b∈x :: r,f a b=some (cf a b)) (hO:E3 cf (x :: r)):Sort.SWO (Go.Proofs.ltOf (yr f x r)):=by
 have e:∀ i j,yr f x r i j=cf (xj x r i) (xj x r j):=fun i j=>by unfold yr;rw [hf _ (k8 x r i) _ (k8 x r j)];rfl
 refine ⟨fun i=>?_,fun i j k h1 h2=>?_,fun i j k h1 h2=>?_⟩
 ·unfold Go.Proofs.ltOf;rw [e];simpa using hO.Na _ (k8 x r i)
 ·unfold Go.Proofs.ltOf at *;rw [e] at *
  simp only [decide_eq_true_eq] at *
  exact hO.tr _ (k8 x r i) _ (k8 x r j) _ (k8 x r k) h1 h2
 ·unfold Go.Proofs.ltOf at *;rw [e] at *
  simp only [decide_eq_false_iff_not] at *
  exact hO.Yd _ (k8 x r i) _ (k8 x r j) _ (k8 x r k) h1 h2
theorem Mv {α:Type} (x:α) (r:List α):(List.range (r.length+1)).map (xj x r)=x :: r:=by
 apply List.ext_getElem?
 intro i
 rw [List.getElem?_map]
 by_cases hi:i < r.length+1
 ·rw [List.getElem?_range hi,Option.map_some]
  unfold xj
  rw [List.getD_eq_getElem?_getD,List.getElem?_eq_getElem (l:=x :: r) (by simpa using hi)];rfl
 ·rw [List.getElem?_eq_none (by simp;omega),List.getElem?_eq_none (by simp;omega)];rfl
theorem D7 {α:Type} (f:α→α→Option Int) (cf:α→α→Int) (xs:List α) (hl:xs.length≤100000) (hf:∀ a∈xs,∀ b∈xs,f a b=some (cf a b)) (hO:E3 cf xs):∃ Z,DF f xs=some Z∧Z.Perm xs∧qV cf Z:=by
 cases xs with
 | nil=>exact ⟨[],rfl,List.Perm.refl _,.nil⟩
 | cons x r=>
   have hS:=TY hf hO
   have hlen:r.length+1≤100000:=by simpa using hl
   rw [DG,if_pos ⟨by omega,fun a ha b hb=>⟨_,hf a ha b hb⟩,hS⟩]
   have V4:=Sort.pdq_sorts (Go.Proofs.ltOf (yr f x r)) hS (Array.range (r.length+1)) 0 (r.length+1) (Lib.bitLen (r.length+1)) true true (Nat.zero_le _) (by simp) (Or.inl rfl)
   generalize Sort.pdq (Go.Proofs.ltOf (yr f x r)) (Array.range (r.length+1)) 0 (r.length+1) (Lib.bitLen (r.length+1)) true true=d at V4
   obtain ⟨⟨h1,_,h3⟩,h4⟩:=V4
   have hd:d.size=r.length+1:=by simpa using h1
   have nP:d.toList.Perm (List.range (r.length+1)):=by
    have a1:(d.extract 0 (r.length+1)).toList=d.toList:=by
     rw [Array.toList_extract]
     simp [List.extract]
     exact List.take_of_length_le (by simp [hd])
    have a2:((Array.range (r.length+1)).extract 0 (r.length+1)).toList=List.range (r.length+1):=by
     rw [Array.toList_extract]
     simp [List.extract]
    rw [a1,a2] at h3
    exact h3
   refine ⟨_,rfl,?_,?_⟩
   ·have:=nP.map (xj x r)
    rw [Mv] at this
    exact this
   ·unfold qV
    rw [List.pairwise_map,List.pairwise_iff_getElem]
    intro i j hi hj BI
    have Qg:i < d.size:=by simpa using hi
    have M3:j < d.size:=by simpa using hj
    have h:=h4 i j (Nat.zero_le _) BI (by omega)
    unfold Go.Proofs.ltOf yr at h
    rw [hf _ (k8 x r _) _ (k8 x r _)] at h
    simp only [Option.getD_some,decide_eq_false_iff_not] at h
    rw [getElem!_pos d i Qg,getElem!_pos d j M3] at h
    simpa using h
theorem wi {α:Type} {cf:α→α→Int}:∀ {X Y:List α},X.Perm Y→qV cf X→qV cf Y→(∀ a∈X,∀ b∈X,¬ cf a b < 0→¬ cf b a < 0→a=b)→X=Y
 | [],Y,hp,_,_,_=>by rw [List.nil_perm.1 hp]
 | x :: X,[],hp,_,_,_=>by have:=hp.length_eq;simp at this
 | x :: X,y :: Y,hp,hX,hY,ha=>by
   have Jy:x=y:=by
    have hx:x∈y :: Y:=hp.mem_iff.1 (by simp)
    have hy:y∈x :: X:=hp.mem_iff.2 (by simp)
    rcases List.mem_cons.1 hx with h | h
    ·exact h
    ·rcases List.mem_cons.1 hy with h' | h'
     ·exact h'.symm
     ·exact ha x (by simp) y (by simp [h']) ((List.pairwise_cons.1 hY).1 x h) ((List.pairwise_cons.1 hX).1 y h')
   subst Jy
   rw [wi (List.Perm.cons_inv hp) (List.pairwise_cons.1 hX).2 (List.pairwise_cons.1 hY).2 (fun a h b h'=>ha a (by simp [h]) b (by simp [h']))]
def xO {α:Type} (n12:Int) (gm:List α) (n17:Int):Option (((List α)×Int×Int)⊕(Int⊕(List α))):=
 some (.inl (gm,n17,aU (n12+(1:Int))))
def xP {α:Type} (Z:α) (l10:List α) (n11:Int):Option (Int⊕(List α)):=
 (xm l10 n11 (l10.length:Int)).bind fun vZ=>
 (xm (Fm l10 n11 vZ.length Z) (0:Int) n11).bind fun Mj=>
 Option.map .inr (some Mj)
def uq {α:Type} (Z:α) (mN:α→α→Option Bool) (n2:Int) (l6:List α) (l10:List α) (n11:Int) (n12:Int):Option (((List α)×Int×Int)⊕(Int⊕(List α))):=
 if n12 < (l6.length:Int) then
  (vU l10 n2 l6.length n12).bind fun k9=>
  (vU l10 n2 l6.length (aU (n12 - (1:Int)))).bind fun nz=>
  (mN k9 nz).bind fun mM=>
  if (!mM)=true then
   (vU l10 n2 l6.length n12).bind fun lL=>
   (idx l10 n11).bind fun C0=>
   xO n12 (l10.set n11.toNat lL) (aU (n11+(1:Int)))
  else
   xO n12 l10 n11
 else
  Option.map .inr (xP Z l10 n11)
noncomputable def xQ {α:Type} (Z:α) (mN:α→α→Option Bool) (n2:Int) (l6:List α) (l10:List α) (n11:Int) (n12:Int):Option (Int⊕(List α)):=
 iter (fun x:(List α)×Int×Int=>uq Z mN n2 l6 x.1 x.2.1 x.2.2) (l10,n11,n12)
noncomputable def Ae {α:Type} (Z:α) (aa:List α) (mN:α→α→Option Bool) (n2:Int):Option (Int⊕(List α)):=
 if n2 < (aa.length:Int) then
  (idx aa n2).bind fun v3=>
  (idx aa (aU (n2 - (1:Int)))).bind fun v4=>
  (mN v3 v4).bind fun v5=>
  if v5=true then
   (xm aa n2 (aa.length:Int)).bind fun l6=>
   xQ Z mN n2 l6 aa n2 (1:Int)
  else
   some (.inl (aU (n2+(1:Int))))
 else
  Option.map .inr (some aa)
noncomputable def xR {α:Type} (Z:α) (aa:List α) (mN:α→α→Option Bool) (n2:Int):Option (List α):=
 iter (fun x:Int=>Ae Z aa mN x) n2
noncomputable def OH {α:Type} (Z:α) (aa:List α) (mN:α→α→Option Bool):Option (List α):=
 if (aa.length:Int) < (2:Int) then
  some aa
 else
  xR Z aa mN (1:Int)
def CE {α:Type} (e:α→α→Bool):α→List α→List α
 | _,[]=>[]
 | p,y :: r=>if e y p=true then CE e y r else y :: CE e y r
def dd {α:Type} (e:α→α→Bool):List α→List α
 | []=>[]
 | x :: r=>x :: CE e x r
theorem IY {α:Type} (e:α→α→Bool):∀ (p:α) (ys:List α) (y z:α),CE e p (ys++[y,z])=if e z y=true then CE e p (ys++[y]) else CE e p (ys++[y])++[z]
 | p,[],y,z=>by
   simp only [List.nil_append,CE]
   by_cases h1:e y p=true<;>by_cases h2:e z y=true<;>simp [h1,h2]
 | p,w :: ys,y,z=>by
   simp only [List.cons_append,CE,IY e w ys y z]
   by_cases h1:e w p=true<;>by_cases h2:e z y=true<;>simp [h1,h2]
theorem Q9 {α:Type} (e:α→α→Bool) (ys:List α) (y z:α):dd e (ys++[y,z])=if e z y=true then dd e (ys++[y]) else dd e (ys++[y])++[z]:=by
 cases ys with
 | nil=>
   simp only [List.nil_append,dd,CE]
   by_cases h2:e z y=true<;>simp [h2]
 | cons w ys=>
   simp only [List.cons_append,dd,IY e w ys y z]
   by_cases h2:e z y=true<;>simp [h2]
theorem OI {α:Type} {xs:List α} {m:Nat} (h1:1≤m) (h2:m < xs.length):xs.take (m+1)=xs.take (m - 1)++[xs[m - 1],xs[m]]∧xs.take m=xs.take (m - 1)++[xs[m - 1]]:=by
 have a:xs.take m=xs.take (m - 1)++[xs[m - 1]]:=by
  have:=List.take_append_getElem (l:=xs) (i:=m - 1) (by omega)
  rw [show m - 1+1=m by omega] at this
  exact this.symm
 refine ⟨?_,a⟩
 have:=List.take_append_getElem (l:=xs) (i:=m) h2
 rw [← this,a,List.append_assoc];rfl
theorem K9 {α:Type} (e:α→α→Bool) {xs:List α} {m:Nat} (h1:1≤m) (h2:m < xs.length):dd e (xs.take (m+1))=if e xs[m] xs[m - 1]=true then dd e (xs.take m) else dd e (xs.take m)++[xs[m]]:=by
 obtain ⟨a,b⟩:=OI h1 h2
 rw [a,b];exact Q9 e _ _ _
theorem La {α:Type} (e:α→α→Bool):∀ (p:α) (r:List α),(CE e p r).length≤r.length
 | _,[]=>by simp [CE]
 | p,y :: r=>by
   have:=La e y r
   simp only [CE]
   split<;>simp<;>omega
theorem Kd {α:Type} (e:α→α→Bool) (xs:List α):(dd e xs).length≤xs.length:=by
 cases xs with
 | nil=>simp [dd]
 | cons x r=>have:=La e x r;simp [dd];omega
theorem C2 {α:Type} (e:α→α→Bool):∀ (p:α) (r:List α),(CE e p r).Sublist r
 | _,[]=>by simp [CE]
 | p,y :: r=>by
   simp only [CE]
   split
   ·exact (C2 e y r).cons y
   ·exact (C2 e y r).cons_cons y
theorem Ke {α:Type} (e:α→α→Bool) (xs:List α):(dd e xs).Sublist xs:=by
 cases xs with
 | nil=>simp [dd]
 | cons x r=>exact (C2 e x r).cons_cons x
theorem Ra {α:Type} {xs:List α} {i:Int} (h0:0≤i) (h1:i.toNat < xs.length):idx xs i=some xs[i.toNat]:=by
 unfold idx;rw [if_pos h0];simp [h1]
theorem OJ {α:Type} (Z:α) (l:List α) {k:Int} (h0:0≤k) (h1:k≤l.length):xP Z l k=some (.inr (l.take k.toNat)):=by
 unfold xP
 rw [D3 h0 h1 (by omega)]
 simp only [Option.bind_some]
 have hlen:(((l.drop k.toNat).take (((l.length:Int)).toNat - k.toNat)).length)=l.length - k.toNat:=by simp
 rw [hlen,D3 (by omega) h0 (by unfold Fm;simp;omega)]
 simp only [Option.bind_some,Option.map_some,Option.some.injEq,Sum.inr.injEq]
 unfold Fm
 simp only [Int.toNat_zero,List.drop_zero,Nat.sub_zero]
 rw [List.append_assoc,List.take_append_of_le_length (by simp;omega),List.take_take]
 congr 1;omega
theorem Mw {α:Type} (Z:α) (mN:α→α→Option Bool) (e:α→α→Bool) (xs:List α) (hl:(xs.length:Int)≤100000) (hf:∀ x∈xs,∀ y∈xs,mN x y=some (e x y)) (k0:Int) (h0:1≤k0) (h1:k0 < xs.length) (l6:List α) (hl6:(l6.length:Int)=xs.length - k0):∀ (n:Nat) (l:List α) (k k2:Int),1≤k2→k2+n=l6.length→l.length=xs.length→0≤k→k≤k0+k2 - 1→
 l.drop (k0+k2 - 1).toNat=xs.drop (k0+k2 - 1).toNat→l.take k.toNat=dd e (xs.take (k0+k2).toNat)→xQ Z mN k0 l6 l k k2=some (.inr (dd e xs)):=by
 intro n
 induction n with
 | zero=>
   intro l k k2 g1 g2 g3 g4 g5 g6 g7
   unfold xQ
   rw [iter_eq,uq,if_neg (by simp only;omega),bL,OJ Z l g4 (by omega),g7,List.take_of_length_le (by omega)]
 | succ n ih=>
   intro l k k2 g1 g2 g3 g4 g5 g6 g7
   have w1:aU (k2+1)=k2+1:=by rw [aP]<;>omega
   have w2:aU (k2 - 1)=k2 - 1:=by rw [aP]<;>omega
   have w3:aU (k+1)=k+1:=by rw [aP]<;>omega
   have Vl:∀ m:Nat,(k0+k2 - 1).toNat≤m→l[m]? =xs[m]?:=by
    intro m hm
    have:=congrArg (fun q:List α=>q[m - (k0+k2 - 1).toNat]?) g6
    simp only [List.getElem?_drop] at this
    rw [show (k0+k2 - 1).toNat+(m - (k0+k2 - 1).toNat)=m by omega] at this
    exact this
   have VB:(k0+k2).toNat < xs.length:=by omega
   have e1:vU l k0 l6.length k2=some xs[(k0+k2).toNat]:=by
    unfold vU
    rw [if_pos ⟨by omega,by omega,by omega⟩]
    unfold idx
    rw [if_pos (by omega),Vl _ (by omega)];simp [VB]
   have e2:vU l k0 l6.length (k2 - 1)=some xs[(k0+k2).toNat - 1]:=by
    unfold vU
    rw [if_pos ⟨by omega,by omega,by omega⟩]
    unfold idx
    rw [if_pos (by omega),Vl _ (by omega),show (k0+(k2 - 1)).toNat=(k0+k2).toNat - 1 by omega,List.getElem?_eq_getElem (by omega)]
   have Gk:=K9 e (xs:=xs) (m:=(k0+k2).toNat) (by omega) VB
   rw [show (k0+k2).toNat+1=(k0+(k2+1)).toNat by omega] at Gk
   unfold xQ at ih ⊢
   rw [iter_eq,uq,if_pos (by simp only;omega)]
   simp only [w2,e1,e2,Option.bind_some,hf _ (List.getElem_mem VB) _ (List.getElem_mem (show (k0+k2).toNat - 1 < xs.length by omega))]
   unfold xO
   rw [w1]
   by_cases hc:e xs[(k0+k2).toNat] xs[(k0+k2).toNat - 1]=true
   ·rw [if_pos hc] at Gk
    rw [hc,if_neg (by simp)]
    simp only [Option.bind_some,cS]
    refine ih l k (k2+1) (by omega) (by omega) g3 g4 (by omega) ?_ (by rw [g7,Gk])
    have:=congrArg (List.drop 1) g6
    rw [List.drop_drop,List.drop_drop,show (k0+k2 - 1).toNat+1=(k0+(k2+1) - 1).toNat by omega] at this
    exact this
   ·rw [if_neg hc] at Gk
    rw [Bool.not_eq_true] at hc
    rw [hc,if_pos (by simp)]
    obtain ⟨y,hy,_,_⟩:=gu l (i:=k) g4 (by omega)
    simp only [hy,Option.bind_some,cS,w3]
    refine ih (l.set k.toNat _) (k+1) (k2+1) (by omega) (by omega) (by simpa using g3) (by omega) (by omega) ?_ ?_
    ·apply List.ext_getElem?
     intro m
     rw [List.getElem?_drop,List.getElem?_drop,List.getElem?_set_ne (by omega),Vl _ (by omega)]
    ·rw [Gk,← g7,show (k+1).toNat=k.toNat+1 by omega]
     apply List.ext_getElem?
     intro m
     have Tj:k.toNat < l.length:=by omega
     by_cases hm:m < k.toNat
     ·rw [List.getElem?_take,if_pos (by omega),List.getElem?_set_ne (by omega),List.getElem?_append_left (by simp;omega),List.getElem?_take,if_pos hm]
     ·by_cases UY:m=k.toNat
      ·subst UY
       rw [List.getElem?_take,if_pos (by omega),List.getElem?_set_self Tj,List.getElem?_append_right (by simp only [List.length_take];omega)]
       simp [Nat.min_eq_left (Nat.le_of_lt Tj)]
      ·rw [List.getElem?_eq_none (by simp;omega),List.getElem?_eq_none (by simp;omega)]
theorem OK {α:Type} (Z:α) (mN:α→α→Option Bool) (e:α→α→Bool) (xs:List α) (hl:(xs.length:Int)≤100000) (hf:∀ x∈xs,∀ y∈xs,mN x y=some (e x y)):OH Z xs mN=some (dd e xs):=by
 unfold OH
 by_cases h2:(xs.length:Int) < 2
 ·rw [if_pos h2]
  cases xs with
  | nil=>rfl
  | cons x r=>
    cases r with
    | nil=>rfl
    | cons y r=>simp only [List.length_cons] at h2;omega
 ·rw [if_neg h2]
  have key:∀ (n:Nat) (i:Int),1≤i→i+n=xs.length→dd e (xs.take i.toNat)=xs.take i.toNat→xR Z xs mN i=some (dd e xs):=by
   intro n
   induction n with
   | zero=>
     intro i h0 h1 hd
     unfold xR
     rw [iter_eq,Ae,if_neg (by omega),bL]
     rw [List.take_of_length_le (by omega)] at hd
     rw [hd]
   | succ n ih=>
     intro i h0 h1 hd
     have w1:aU (i+1)=i+1:=by rw [aP]<;>omega
     have w2:aU (i - 1)=i - 1:=by rw [aP]<;>omega
     have hm:i.toNat < xs.length:=by omega
     have e1:=Ra (xs:=xs) (i:=i) (by omega) hm
     have e2:idx xs (i - 1)=some xs[i.toNat - 1]:=by
      unfold idx
      rw [if_pos (by omega),show (i - 1).toNat=i.toNat - 1 by omega,List.getElem?_eq_getElem (by omega)]
     have Gk:=K9 e (xs:=xs) (m:=i.toNat) (by omega) hm
     rw [show i.toNat+1=(i+1).toNat by omega] at Gk
     unfold xR at ih ⊢
     rw [iter_eq,Ae,if_pos (by omega)]
     simp only [w2,e1,e2,Option.bind_some,hf _ (List.getElem_mem hm) _ (List.getElem_mem (show i.toNat - 1 < xs.length by omega))]
     by_cases hc:e xs[i.toNat] xs[i.toNat - 1]=true
     ·rw [if_pos hc] at Gk
      rw [hc,if_pos rfl,D3 (by omega) (by omega) (by omega)]
      simp only [Option.bind_some]
      have hlen:((((xs.drop i.toNat).take (((xs.length:Int)).toNat - i.toNat)).length:Nat):Int)=xs.length - i:=by simp;omega
      rw [Mw Z mN e xs hl hf i h0 (by omega) _ hlen n xs i 1 (by omega) (by rw [hlen];omega) rfl (by omega) (by omega) rfl (by rw [Gk,hd])]
      rfl
     ·rw [if_neg hc] at Gk
      rw [Bool.not_eq_true] at hc
      rw [hc,if_neg (by simp),w1]
      simp only [Option.bind_some,cS]
      refine ih (i+1) (by omega) (by omega) ?_
      rw [Gk,hd]
      have:=List.take_append_getElem (l:=xs) (i:=i.toNat) hm
      rw [this,show i.toNat+1=(i+1).toNat by omega]
  refine key (xs.length - 1) 1 (by omega) (by omega) ?_
  cases xs with
  | nil=>simp at h2
  | cons x r=>rfl
def GX {α:Type} [DecidableEq α] (Z:α) (n2:Int) (l5:List α) (l9:List α) (n10:Int) (n11:Int):Option (((List α)×Int×Int)⊕(Int⊕(List α))):=
 if n11 < (l5.length:Int) then
  (vU l9 n2 l5.length n11).bind fun v12=>
  (vU l9 n2 l5.length (aU (n11 - (1:Int)))).bind fun k9=>
  if v12≠k9 then
   (vU l9 n2 l5.length n11).bind fun gx=>
   (idx l9 n10).bind fun v17=>
   xO n11 (l9.set n10.toNat gx) (aU (n10+(1:Int)))
  else
   xO n11 l9 n10
 else
  Option.map .inr (xP Z l9 n10)
noncomputable def Lb {α:Type} [DecidableEq α] (Z:α) (n2:Int) (l5:List α) (l9:List α) (n10:Int) (n11:Int):Option (Int⊕(List α)):=
 iter (fun x:(List α)×Int×Int=>GX Z n2 l5 x.1 x.2.1 x.2.2) (l9,n10,n11)
noncomputable def Lc {α:Type} [DecidableEq α] (Z:α) (aa:List α) (n2:Int):Option (Int⊕(List α)):=
 if n2 < (aa.length:Int) then
  (idx aa n2).bind fun v3=>
  (idx aa (aU (n2 - (1:Int)))).bind fun v4=>
  if v3=v4 then
   (xm aa n2 (aa.length:Int)).bind fun l5=>
   Lb Z n2 l5 aa n2 (1:Int)
  else
   some (.inl (aU (n2+(1:Int))))
 else
  Option.map .inr (some aa)
noncomputable def WQ {α:Type} [DecidableEq α] (Z:α) (aa:List α):Option (List α):=
 if (aa.length:Int) < (2:Int) then
  some aa
 else
  iter (fun x:Int=>Lc Z aa x) (1:Int)
def vg {α:Type} [DecidableEq α] (a b:α):Bool:=decide (a=b)
theorem Kf {α:Type} [DecidableEq α] (Z:α) (n2:Int) (l5 l9:List α) (n10 n11:Int):GX Z n2 l5 l9 n10 n11=uq Z (fun a b=>some (vg a b)) n2 l5 l9 n10 n11:=by
 unfold GX uq
 congr 1
 congr 1;funext v12
 congr 1;funext k9
 simp only [Option.bind_some,vg]
 by_cases h:v12=k9<;>simp [h]
theorem Ld {α:Type} [DecidableEq α] (Z:α) (xs:List α) (hl:(xs.length:Int)≤100000):WQ Z xs=some (dd vg xs):=by
 rw [← OK Z (fun a b=>some (vg a b)) vg xs hl (fun x _ y _=>rfl)]
 unfold WQ OH xR
 congr 2
 funext i
 unfold Lc Ae Lb xQ
 congr 1
 congr 1;funext v3
 congr 1;funext v4
 have:(fun x:(List α)×Int×Int=>uq Z (fun a b=>some (vg a b)) i ((xs.drop 0)) x.1 x.2.1 x.2.2)=fun x=>uq Z (fun a b=>some (vg a b)) i (xs.drop 0) x.1 x.2.1 x.2.2:=rfl
 simp only [Option.bind_some,Kf]
 by_cases h:v3=v4
 ·simp [h,vg]
 ·simp [h,vg]
def GY {α:Type} (n7:Int) (jE:List α) (n12:Int):Option (((List α)×Int×Int)⊕(List α)):=
 some (.inl (jE,n12,aU (n7+(1:Int))))
def GZ {α:Type} (Z:α) (l5:List α) (n6:Int):Option (List α):=
 (xm l5 n6 (l5.length:Int)).bind fun tL=>
 (xm (Fm l5 n6 tL.length Z) (0:Int) n6).bind fun CY=>
 some CY
def C3 {α:Type} (Z:α) (mN:α→Option Bool) (l5:List α) (n6:Int) (n7:Int):Option (((List α)×Int×Int)⊕(List α)):=
 if n7 < (l5.length:Int) then
  (idx l5 n7).bind fun v8=>
  (mN v8).bind fun v10=>
  if (!v10)=true then
   (idx l5 n6).bind fun k9=>
   GY n7 (l5.set n6.toNat v8) (aU (n6+(1:Int)))
  else
   GY n7 l5 n6
 else
  Option.map .inr (GZ Z l5 n6)
noncomputable def WR {α:Type} (Z:α) (aa:List α) (mN:α→Option Bool):Option (List α):=
 (zo aa mN).bind fun v1=>
 if v1=(-1:Int) then
  some aa
 else
  iter (fun x:(List α)×Int×Int=>C3 Z mN x.1 x.2.1 x.2.2) (aa,v1,aU (v1+(1:Int)))
theorem Rb {α:Type} (Z:α) (l:List α) {k:Int} (h0:0≤k) (h1:k≤l.length):GZ Z l k=some (l.take k.toNat):=by
 have:=OJ Z l h0 h1
 unfold xP at this
 unfold GZ
 cases h:xm l k l.length with
 | none=>rw [h] at this;simp at this
 | some v=>
   rw [h] at this
   simp only [Option.bind_some] at this ⊢
   cases h2:xm (Fm l k v.length Z) 0 k with
   | none=>rw [h2] at this;simp at this
   | some u=>rw [h2] at this;simpa using this
theorem B5 {α:Type} (p:α→Bool) {xs:List α} {m:Nat} (h:m < xs.length):(xs.take (m+1)).filter p=if p xs[m]=true then (xs.take m).filter p++[xs[m]] else (xs.take m).filter p:=by
 rw [← List.take_append_getElem h,List.filter_append]
 by_cases hp:p xs[m]=true<;>simp [hp]
theorem OL {α:Type} (Z:α) (mN:α→Option Bool) (p:α→Bool) (xs:List α) (hl:(xs.length:Int)≤100000) (hf:∀ x∈xs,mN x=some (p x)):∀ (n:Nat) (l:List α) (k j:Int),1≤j→j+n=xs.length→l.length=xs.length→0≤k→k < j→l.drop j.toNat=xs.drop j.toNat→l.take k.toNat=(xs.take j.toNat).filter (fun x=>!p x)→
 iter (fun x:(List α)×Int×Int=>C3 Z mN x.1 x.2.1 x.2.2) (l,k,j)=some (xs.filter (fun x=>!p x)):=by
 intro n
 induction n with
 | zero=>
   intro l k j g1 g2 g3 g4 g5 g6 g7
   rw [iter_eq,C3,if_neg (by simp only;omega),bL,Rb Z l g4 (by omega),g7,List.take_of_length_le (by omega)]
 | succ n ih=>
   intro l k j g1 g2 g3 g4 g5 g6 g7
   have w1:aU (j+1)=j+1:=by rw [aP]<;>omega
   have w3:aU (k+1)=k+1:=by rw [aP]<;>omega
   have hm:j.toNat < xs.length:=by omega
   have Vl:∀ m:Nat,j.toNat≤m→l[m]? =xs[m]?:=by
    intro m hm
    have:=congrArg (fun q:List α=>q[m - j.toNat]?) g6
    simp only [List.getElem?_drop] at this
    rw [show j.toNat+(m - j.toNat)=m by omega] at this
    exact this
   have e1:idx l j=some xs[j.toNat]:=by
    unfold idx;rw [if_pos (by omega),Vl _ (Nat.le_refl _)];simp [hm]
   have P5:=B5 (fun x=>!p x) hm
   rw [show j.toNat+1=(j+1).toNat by omega] at P5
   have hdr:l.drop (j+1).toNat=xs.drop (j+1).toNat:=by
    have:=congrArg (List.drop 1) g6
    rw [List.drop_drop,List.drop_drop,show j.toNat+1=(j+1).toNat by omega] at this
    exact this
   rw [iter_eq,C3,if_pos (by simp only;omega)]
   simp only [e1,Option.bind_some,hf _ (List.getElem_mem hm)]
   unfold GY
   rw [w1]
   cases hp:p xs[j.toNat] with
   | true=>
     rw [hp] at P5
     simp only [Bool.not_true,Bool.false_eq_true,if_false] at P5 ⊢
     simp only [Option.bind_some,cS]
     exact ih l k (j+1) (by omega) (by omega) g3 g4 (by omega) hdr (by rw [g7,P5])
   | false=>
     rw [hp] at P5
     simp only [Bool.not_false,if_true] at P5 ⊢
     obtain ⟨y,hy,_,_⟩:=gu l (i:=k) g4 (by omega)
     simp only [hy,Option.bind_some,cS,w3]
     refine ih (l.set k.toNat _) (k+1) (j+1) (by omega) (by omega) (by simpa using g3) (by omega) (by omega) ?_ ?_
     ·apply List.ext_getElem?
      intro m
      rw [List.getElem?_drop,List.getElem?_drop,List.getElem?_set_ne (by omega),Vl _ (by omega)]
     ·rw [P5,← g7,show (k+1).toNat=k.toNat+1 by omega]
      apply List.ext_getElem?
      intro m
      have Tj:k.toNat < l.length:=by omega
      by_cases hm:m < k.toNat
      ·rw [List.getElem?_take,if_pos (by omega),List.getElem?_set_ne (by omega),List.getElem?_append_left (by simp;omega),List.getElem?_take,if_pos hm]
      ·by_cases UY:m=k.toNat
       ·subst UY
        rw [List.getElem?_take,if_pos (by omega),List.getElem?_set_self Tj,List.getElem?_append_right (by simp only [List.length_take];omega)]
        simp [Nat.min_eq_left (Nat.le_of_lt Tj)]
       ·rw [List.getElem?_eq_none (by simp;omega),List.getElem?_eq_none (by simp;omega)]
theorem B6 {α:Type} (p:α→Bool):∀ (xs:List α) (i:Int),0≤i→(su p xs i=-1∧∀ x∈xs,p x=false)∨(i≤su p xs i∧su p xs i < i+xs.length∧(∀ x∈xs.take (su p xs i - i).toNat,p x=false)∧∃ y,xs[(su p xs i - i).toNat]? =some y∧p y=true)
 | [],i,h=>.inl ⟨rfl,by simp⟩
 | x :: r,i,h=>by
   by_cases hp:p x=true
   ·have e:su p (x :: r) i=i:=by simp [su,hp]
    rw [e]
    exact .inr ⟨by omega,by simp;omega,by simp,x,by simp,hp⟩
   ·have e:su p (x :: r) i=su p r (i+1):=by simp [su,hp]
    rw [e]
    have dG:p x=false:=by simpa using hp
    rcases B6 p r (i+1) (by omega) with ⟨h1,h2⟩ | ⟨h1,h2,h3,y,h4,h5⟩
    ·exact .inl ⟨h1,fun y hy=>by rcases List.mem_cons.1 hy with rfl | hy;exact dG;exact h2 y hy⟩
    ·have e:(su p r (i+1) - i).toNat=(su p r (i+1) - (i+1)).toNat+1:=by omega
     refine .inr ⟨by omega,by simp;omega,?_,y,?_,h5⟩
     ·rw [e]
      intro y hy
      rw [List.take_succ_cons] at hy
      rcases List.mem_cons.1 hy with rfl | hy
      ·exact dG
      ·exact h3 y hy
     ·rw [e,List.getElem?_cons_succ];exact h4
theorem Rc {α:Type} (Z:α) (mN:α→Option Bool) (p:α→Bool) (xs:List α) (hl:(xs.length:Int)≤100000) (hf:∀ x∈xs,mN x=some (p x)):WR Z xs mN=some (xs.filter (fun x=>!p x)):=by
 unfold WR
 rw [E2 xs mN p hf (by omega)]
 simp only [Option.bind_some]
 rcases B6 p xs 0 (by omega) with ⟨h1,h2⟩ | ⟨h1,h2,h3,y,h4,h5⟩
 ·rw [if_pos h1]
  congr 1
  exact (List.filter_eq_self.2 (fun x hx=>by simp [h2 x hx])).symm
 ·generalize su p xs 0=v at *
  simp only [Int.sub_zero] at h3 h4 h5
  rw [if_neg (by omega),aP (by omega) (by omega)]
  refine OL Z mN p xs hl hf (xs.length - (v+1).toNat) xs v (v+1) (by omega) (by omega) rfl h1 (by omega) rfl ?_
  obtain ⟨h4',Z1⟩:=List.getElem?_eq_some_iff.1 h4
  have P5:=B5 (fun x=>!p x) h4'
  rw [show v.toNat+1=(v+1).toNat by omega,Z1] at P5
  rw [P5,h5]
  simp only [Bool.not_true,Bool.false_eq_true,if_false]
  exact (List.filter_eq_self.2 (fun x hx=>by simp [h3 x hx])).symm
structure nL {α:Type} (c:α→α→Int):Prop where
 neg:∀ a b,c a b=- c b a
 tr:∀ {a b d},c a b < 0→c b d < 0→c a d < 0
 cg:∀ {a b d},c a b=0→c b d < 0→c a d < 0
theorem nL.zero {α:Type} {c:α→α→Int} (h:nL c) (a:α):c a a=0:=by have:=h.neg a a;omega
theorem nL.Z2 {α:Type} {c:α→α→Int} (h:nL c) {a b d:α} (h0:c a b=0) (h1:c d a < 0):c d b < 0:=by
 have n1:=h.neg d b
 have n2:=h.neg a b
 have n3:=h.neg d a
 by_cases e:c d b=0
 ·have:=h.cg e (d:=a)
  by_cases k:c b a < 0
  ·omega
  ·have e2:c b d=0:=by have:=h.neg b d;omega
   have:=h.cg e2 (d:=a) h1
   omega
 ·by_cases k:c d b < 0
  ·exact k
  ·have k1:c b d < 0:=by omega
   have k2:=h.tr k1 h1
   omega
theorem nL.lex {α:Type} {c1 c2:α→α→Int} (h1:nL c1) (h2:nL c2):nL (fun a b=>if c1 a b≠0 then c1 a b else c2 a b):=by
 refine ⟨fun a b=>?_,fun {a b d}=>?_,fun {a b d}=>?_⟩
 ·have n1:=h1.neg a b;have n2:=h2.neg a b
  repeat' split
  all_goals omega
 ·intro k1 k2
  by_cases e1:c1 a b=0
  ·by_cases e2:c1 b d=0
   ·have e3:c1 a d=0:=by
     have n1:=h1.neg a d
     have n2:=h1.neg b d
     have n3:=h1.neg a b
     by_cases k:c1 a d < 0
     ·have:=h1.cg (a:=b) (b:=a) (d:=d) (by omega) k;omega
     ·by_cases k':c1 d a < 0
      ·have:=h1.Z2 (a:=a) (b:=b) (d:=d) e1 k';omega
      ·omega
    rw [if_neg (by simpa using e1)] at k1
    rw [if_neg (by simpa using e2)] at k2
    rw [if_neg (by simpa using e3)]
    exact h2.tr k1 k2
   ·rw [if_pos e2] at k2
    have:=h1.cg e1 k2
    rw [if_pos (by omega)];exact this
  ·rw [if_pos e1] at k1
   by_cases e2:c1 b d=0
   ·have:=h1.Z2 e2 k1
    rw [if_pos (by omega)];exact this
   ·rw [if_pos e2] at k2
    have:=h1.tr k1 k2
    rw [if_pos (by omega)];exact this
 ·intro k1 k2
  by_cases e1:c1 a b=0
  ·rw [if_neg (by simpa using e1)] at k1
   by_cases e2:c1 b d=0
   ·have e3:c1 a d=0:=by
     have n1:=h1.neg a d
     have n2:=h1.neg b d
     have n3:=h1.neg a b
     by_cases k:c1 a d < 0
     ·have:=h1.cg (a:=b) (b:=a) (d:=d) (by omega) k;omega
     ·by_cases k':c1 d a < 0
      ·have:=h1.Z2 (a:=a) (b:=b) (d:=d) e1 k';omega
      ·omega
    rw [if_neg (by simpa using e2)] at k2
    rw [if_neg (by simpa using e3)]
    exact h2.cg k1 k2
   ·rw [if_pos e2] at k2
    have:=h1.cg e1 k2
    rw [if_pos (by omega)];exact this
  ·rw [if_pos e1] at k1;exact absurd k1 e1
theorem nL.on {α β:Type} {c:α→α→Int} (h:nL c) (f:β→α):nL (fun a b=>c (f a) (f b)):=
 ⟨fun a b=>h.neg _ _,fun h1 h2=>h.tr h1 h2,fun h1 h2=>h.cg h1 h2⟩
theorem D8:nL oc:=by
 refine ⟨fun a b=>?_,fun {a b d}=>?_,fun {a b d}=>?_⟩<;>unfold oc<;>repeat' split
 all_goals omega
theorem C4:∀ {a b c:List UInt8},Lib.compareBytes a b < 0→Lib.compareBytes b c < 0→Lib.compareBytes a c < 0
 | [],[],c,h1,h2=>by simp [Lib.compareBytes] at h1
 | [],_ :: _,[],h1,h2=>by simp [Lib.compareBytes] at h2
 | [],_ :: _,_ :: _,h1,h2=>by simp [Lib.compareBytes]
 | _ :: _,[],c,h1,h2=>by simp [Lib.compareBytes] at h1
 | _ :: _,_ :: _,[],h1,h2=>by simp [Lib.compareBytes] at h2
 | a :: la,b :: lb,c :: lc,h1,h2=>by
   simp only [Lib.compareBytes] at h1 h2 ⊢
   rcases Bi a b with h | h | h
   ·rcases Bi b c with k | k | k
    ·rw [if_pos (UInt8.lt_trans h k)];omega
    ·subst k;rw [if_pos h];omega
    ·rw [if_neg (vD k),if_pos k] at h2;omega
   ·subst h
    rcases Bi a c with k | k | k
    ·rw [if_pos k];omega
    ·subst k
     rw [if_neg (by simp),if_neg (by simp)] at h1 h2 ⊢
     exact C4 h1 h2
    ·rw [if_neg (vD k),if_pos k] at h2;omega
   ·rw [if_neg (vD h),if_pos h] at h1;omega
theorem wj:nL Lib.compareBytes:=⟨uo,C4,fun h1 h2=>by rw [qU h1];exact h2⟩
theorem Mx {a b:Int} (h:oc a b=0):a=b:=by
 unfold oc at h
 repeat' split at h
 all_goals omega
theorem nL.ord {α:Type} {c:α→α→Int} (h:nL c) (xs:List α):E3 c xs:=by
 refine ⟨fun x _ k=>?_,fun x _ y _ z _ h1 h2=>h.tr h1 h2,fun x _ y _ z _ h1 h2 h3=>?_⟩
 ·have:=h.zero x;omega
 ·have n1:=h.neg x y
  have n2:=h.neg y z
  by_cases h4:c x y=0
  ·have h5:c y x=0:=by omega
   exact h2 (h.cg h5 h3)
  ·have:c y x < 0:=by omega
   exact h2 (h.tr this h3)
theorem OM {α:Type} [DecidableEq α] (x:α):∀ (p:α) (r:List α),x∈r→x=p∨x∈CE vg p r
 | _,[],h=>by simp at h
 | p,y :: r,h=>by
   simp only [CE]
   by_cases hc:vg y p=true
   ·rw [if_pos hc]
    have hyp:y=p:=by simpa [vg] using hc
    rcases List.mem_cons.1 h with rfl | h
    ·exact .inl hyp
    ·rcases OM x y r h with h' | h'
     ·exact .inl (h'.trans hyp)
     ·exact .inr h'
   ·rw [if_neg hc]
    rcases List.mem_cons.1 h with rfl | h
    ·exact .inr (by simp)
    ·rcases OM x y r h with h' | h'
     ·exact .inr (by simp [h'])
     ·exact .inr (by simp [h'])
theorem Z3 {α:Type} [DecidableEq α] {x:α} {xs:List α} (h:x∈xs):x∈dd vg xs:=by
 cases xs with
 | nil=>simp at h
 | cons y r=>
   simp only [dd]
   rcases List.mem_cons.1 h with rfl | h
   ·simp
   ·rcases OM x y r h with h' | h'
    ·simp [h']
    ·simp [h']
def kc {α:Type} (xs:List α) (i:Int):Option α:=if i≤0 then none else idx xs (i - 1)
def B7 {α:Type} (st:Option α→α→Int):Option α→List α→Int
 | _,[]=>0
 | p,s :: r=>if st p s=0 then B7 st (some s) r else st p s
theorem FE {α:Type} (st:Option α→α→Int) (xs:List α) (f:Int→Option (Int⊕Int)) (hf:∀ {i:Int} {s:α},0≤i→i < xs.length→idx xs i=some s→f i=some (if st (kc xs i) s=0 then .inl (i+1) else .inr (st (kc xs i) s)))
 (he:f xs.length=some (.inr 0)):∀ (n:Nat) (i:Int),0≤i→i+n=xs.length→iter f i=some (B7 st (kc xs i) (xs.drop i.toNat))
 | 0,i,h0,hn=>by
   obtain rfl:i=xs.length:=by omega
   rw [iter_eq,he,List.drop_of_length_le (by omega)];rfl
 | n+1,i,h0,hn=>by
   obtain ⟨s,hs,_,hd⟩:=gu xs h0 (by omega)
   rw [iter_eq,hf h0 (by omega) hs,hd]
   simp only [Option.bind_some,B7]
   split
   ·have hp:kc xs (i+1)=some s:=by unfold kc;rw [if_neg (by omega),show i+1 - 1=i by omega,hs]
    have:=FE st xs f hf he n (i+1) (by omega) (by omega)
    rw [cS,this,hp]
   ·rfl
theorem Af {α:Type} (st:Option α→α→Int) (xs:List α) (f:Int→Option (Int⊕Int)) (hf:∀ {i:Int} {s:α},0≤i→i < xs.length→idx xs i=some s→f i=some (if st (kc xs i) s=0 then .inl (i+1) else .inr (st (kc xs i) s)))
 (he:f xs.length=some (.inr 0)):iter f 0=some (B7 st none xs):=by
 rw [FE st xs f hf he xs.length 0 (by omega) (by omega)];rfl
theorem mD {α:Type} {n:Nat} {m:Option (List α)} {Z:List α} (h:m=some Z) (hl:Z.length=n):dm n (fun r:List α=>r.length) m=some Z:=by
 rw [h];unfold dm
 simp only [Option.bind_some]
 rw [if_pos hl]
end Go.Beacon
set_option linter.unusedSectionVars false
namespace Go.Beacon
open Go Go.Eng
class CF (K:Type) [zD K]:Prop where
 Na:∀ a:K,zD.lt a a=false
 tr:∀ {a b c:K},zD.lt a b=true→zD.lt b c=true→zD.lt a c=true
 WS:∀ a b:K,zD.lt a b=true∨a=b∨zD.lt b a=true
instance:CF Int where
 Na a:=by show decide (a < a)=false;simp
 tr {a b c} h1 h2:=by
  have h1:decide (a < b)=true:=h1
  have h2:decide (b < c)=true:=h2
  show decide (a < c)=true
  simp only [decide_eq_true_eq] at *;omega
 WS a b:=by
  show decide (a < b)=true∨a=b∨decide (b < a)=true
  simp only [decide_eq_true_eq];omega
instance:CF Bool where
 Na a:=by cases a<;>rfl
 tr {a b c} h1 h2:=by revert h1 h2;cases a<;>cases b<;>cases c<;>decide
 WS a b:=by cases a<;>cases b<;>decide
instance:CF (List UInt8) where
 Na a:=by
  show Op.bytesLess a a=false
  rw [xN,yf];rfl
 tr {a b c} h1 h2:=by
  have h1:Op.bytesLess a b=true:=h1
  have h2:Op.bytesLess b c=true:=h2
  show Op.bytesLess a c=true
  rw [xN,decide_eq_true_eq] at *
  exact wj.tr h1 h2
 WS a b:=by
  show Op.bytesLess a b=true∨a=b∨Op.bytesLess b a=true
  rw [xN,xN,decide_eq_true_eq,decide_eq_true_eq]
  rcases Int.lt_trichotomy (Lib.compareBytes a b) 0 with h | h | h
  ·exact .inl h
  ·exact .inr (.inl (qU h))
  ·exact .inr (.inr (by have:=wj.neg a b;omega))
section
variable {K V:Type} [DecidableEq K]
theorem D9 (k:K):ca ([]:List (K×V)) k=none:=rfl
theorem eK (e:K×V) (m:List (K×V)) (k:K):ca (e :: m) k=if e.1=k then some e.2 else ca m k:=rfl
theorem Bj (m:List (K×V)) (k k':K):ca (lJ m k) k'=if k=k' then none else ca m k':=by
 induction m with
 | nil=>simp [lJ,ca]
 | cons e r ih=>
   unfold lJ at ih ⊢
   rw [List.filter_cons]
   by_cases h:e.1=k
   ·rw [if_neg (by simp [h]),ih,eK]
    by_cases h2:k=k'
    ·rw [if_pos h2,if_pos h2]
    ·rw [if_neg h2,if_neg h2,if_neg (by rw [h];exact h2)]
   ·rw [if_pos (by simp [h]),eK,ih,eK]
    by_cases h2:k=k'
    ·rw [if_pos h2,if_pos h2,if_neg (by rw [← h2];exact h)]
    ·rw [if_neg h2,if_neg h2]
variable [zD K]
theorem FG (k:K) (v:V) (k':K):∀ (m:List (K×V)),ca m k=none→ca (yu k v m) k'=if k=k' then some v else ca m k'
 | [],_=>by simp [yu,ca]
 | e :: r,h=>by
   rw [eK] at h
   have h1:e.1≠k:=fun he=>by rw [if_pos he] at h;cases h
   rw [if_neg h1] at h
   unfold yu
   split
   ·rw [eK,FG k v k' r h,eK]
    by_cases h2:k=k'
    ·rw [if_pos h2,if_pos h2,if_neg (by rw [← h2];exact h1)]
    ·rw [if_neg h2,if_neg h2]
   ·rw [eK]
theorem vF (m:List (K×V)) (k:K) (v:V) (k':K):ca (rP m k v) k'=if k=k' then some v else ca m k':=by
 unfold rP
 rw [FG k v k' _ (by rw [Bj,if_pos rfl]),Bj]
 by_cases h:k=k'
 ·rw [if_pos h,if_pos h]
 ·rw [if_neg h,if_neg h,if_neg h]
def SM (m:List (K×V)):Prop:=m.Pairwise (fun a b=>zD.lt a.1 b.1=true)
theorem SM.nil:SM ([]:List (K×V)):=List.Pairwise.nil
theorem SM.del {m:List (K×V)} (h:SM m) (k:K):SM (lJ m k):=List.Pairwise.filter _ h
variable [CF K]
theorem SM.ne {m:List (K×V)} (h:SM m):m.Pairwise (fun a b=>a.1≠b.1):=
 List.Pairwise.imp (fun {a b} h e=>by rw [e,CF.Na] at h;cases h) h
theorem SM.nodup {m:List (K×V)} (h:SM m):(m.map Prod.fst).Nodup:=by
 unfold List.Nodup
 rw [List.pairwise_map]
 exact SM.ne h
theorem Le (k:K) (v:V):∀ {m:List (K×V)},SM m→ca m k=none→SM (yu k v m)
 | [],_,_=>by unfold yu SM;simp
 | e :: r,h,hn=>by
   have h':=List.pairwise_cons.1 h
   rw [eK] at hn
   have h1:e.1≠k:=fun he=>by rw [if_pos he] at hn;cases hn
   rw [if_neg h1] at hn
   unfold yu
   split
   ·rename_i lh
    refine List.pairwise_cons.2 ⟨fun z hz=>?_,Le k v h'.2 hn⟩
    rcases List.mem_cons.1 ((vv k v r).mem_iff.1 hz) with rfl | hz
    ·exact lh
    ·exact h'.1 z hz
   ·rename_i lh
    have hke:zD.lt k e.1=true:=by
     rcases CF.WS k e.1 with h | h | h
     ·exact h
     ·exact absurd h.symm h1
     ·exact absurd h lh
    refine List.pairwise_cons.2 ⟨fun z hz=>?_,h⟩
    rcases List.mem_cons.1 hz with rfl | hz
    ·exact hke
    ·exact CF.tr hke (h'.1 z hz)
theorem SM.set {m:List (K×V)} (h:SM m) (k:K) (v:V):SM (rP m k v):=
 Le k v (h.del k) (by rw [Bj,if_pos rfl])
theorem SM.Ag {m:List (K×V)} (h:SM m) {k:K} {v:V}:ca m k=some v↔(k,v)∈m:=
 ⟨DL,xo h.nodup⟩
theorem SM.none_lt {e:K×V} {m:List (K×V)} (h:SM (e :: m)) {k:K} (hk:zD.lt k e.1=true):ca (e :: m) k=none:=by
 rw [qM]
 intro z hz he
 have h':=List.pairwise_cons.1 h
 have hkz:zD.lt k z.1=true:=by
  rcases List.mem_cons.1 hz with rfl | hz
  ·exact hk
  ·exact CF.tr hk (h'.1 z hz)
 rw [he,CF.Na] at hkz;cases hkz
theorem Lf:∀ {m m':List (K×V)},SM m→SM m'→(∀ k,ca m k=ca m' k)→m=m'
 | [],[],_,_,_=>rfl
 | [],y :: B,_,_,h=>by have:=h y.1;rw [D9,eK,if_pos rfl] at this;cases this
 | x :: A,[],_,_,h=>by have:=h x.1;rw [D9,eK,if_pos rfl] at this;cases this
 | x :: A,y :: B,h1,h2,h=>by
   have Hw:=List.pairwise_cons.1 h1
   have MZ:=List.pairwise_cons.1 h2
   have Jy:x.1=y.1:=by
    rcases CF.WS x.1 y.1 with c | c | c
    ·have e:=h x.1
     rw [eK,if_pos rfl,h2.none_lt c] at e;cases e
    ·exact c
    ·have e:=h y.1
     rw [eK y,if_pos rfl,h1.none_lt c] at e;cases e
   have e:=h x.1
   rw [eK,if_pos rfl,eK,if_pos Jy.symm] at e
   have hx:x=y:=Prod.ext Jy (Option.some.inj e)
   subst hx
   rw [Lf Hw.2 MZ.2 (fun k=>?_)]
   have:=h k
   rw [eK,eK] at this
   by_cases hk:x.1=k
   ·subst hk
    have a1:ca A x.1=none:=qM.2 fun z hz he=>by have:=Hw.1 z hz;rw [he,CF.Na] at this;cases this
    have a2:ca B x.1=none:=qM.2 fun z hz he=>by have:=MZ.1 z hz;rw [he,CF.Na] at this;cases this
    rw [a1,a2]
   ·rw [if_neg hk,if_neg hk] at this;exact this
end
section
variable {E S A:Type}
theorem FH (b:E→S→Option (S⊕A)) (f:S→Option A) (es:List E) (r:A) (Inv:List E→S→Prop)
 (hs:∀ done e rest s,(done++e :: rest).Perm es→Inv done s→(∃ s',b e s=some (.inl s')∧Inv (done++[e]) s')∨b e s=some (.inr r))
 (hf:∀ p s,p.Perm es→Inv p s→f s=some r):∀ (rest done:List E) (s:S),(done++rest).Perm es→Inv done s→qE b f rest s=some r
 | [],done,s,hp,hi=>hf done s (by simpa using hp) hi
 | e :: rest,done,s,hp,hi=>by
   show (b e s).bind (after (qE b f rest))=some r
   rcases hs done e rest s hp hi with ⟨s',h1,h2⟩ | h1
   ·rw [h1]
    simp only [Option.bind_some,cS]
    exact FH b f es r Inv hs hf rest (done++[e]) s' (by simpa using hp) h2
   ·rw [h1];rfl
theorem Bl (b:E→S→Option (S⊕A)) (f:S→Option A) (es:List E) (s0:S) (r:A) (Inv:List E→S→Prop) (h0:Inv [] s0)
 (hs:∀ done e rest s,(done++e :: rest).Perm es→Inv done s→(∃ s',b e s=some (.inl s')∧Inv (done++[e]) s')∨b e s=some (.inr r))
 (hf:∀ p s,p.Perm es→Inv p s→f s=some r):xp es (fun p=>qE b f p s0)=some r:=
 N2 fun p hp=>FH b f es r Inv hs hf p [] s0 (by simpa using hp) h0
end
end Go.Beacon
