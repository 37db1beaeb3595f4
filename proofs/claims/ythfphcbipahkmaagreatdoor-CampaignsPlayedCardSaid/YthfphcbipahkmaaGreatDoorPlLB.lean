/- Plain facts on what the functions compute. No program in sight. -/
import Derived.Test.YthfphcbipahkmaaGreatDoorPlBA
import Derived.Test.YthfphcbipahkmaaGreatDoorPlLA
open Bool renaming and_eq_true→bm,false_eq_true→bo,not_false→c7,not_true→c8,or_eq_true→d0,true_eq_false→d7
open Int renaming le_refl→b5,le_of_lt→d5,toNat_zero→ej
open List renaming mem_append→ad,mem_singleton→af,length_cons→ai,mem_cons→al,mem_map→ap,length_append→aw,take_length→aH,mem_cons_of_mem→aJ,map_cons→a7,length_filter_le→bc,length_nil→be,mem_cons_self→bi,drop_of_length_le→bk,find?_eq_none→bp,nil_append→bv,length_map→bx,find?_cons→bO,append_nil→bW,length_singleton→bX,map_append→b6,mem_filter→b7,foldl_cons→b8,append_assoc→cb,mem_flatMap→cc,getElem?_eq_getElem→ce,drop_length→cf,nodup_cons→ci,cons_append→ck,eq_nil_or_concat→cl,concat_eq_append→cm,take_of_length_le→cn,pairwise_append→cp,mem_append_left→cJ,replicate→db,find?_append→dg,Sublist.refl→dk,getElem?_map→dl,getElem_of_mem→ds,Nodup.sublist→dy,filter_eq_nil_iff→dV,filter_append→dY,length_eq_zero_iff→d3,map_nil→d4,sum_cons→d8,drop_eq_getElem_cons→eg,drop_zero→ek,foldl_append→el,getLast?_concat→eH,flatMap_cons→eL,not_mem_nil→eX
open Nat renaming le_refl→da,le_trans→d9,add_sub_cancel→eq
open Option renaming bind_some→aa,some.inj→ac,map_eq_some_iff→a6,getD_some→b9,isSome_none→cv,isSome_some→cA,map→cK,getD_none→c6,some.injEq→d6,map_eq_none_iff→em
open Prod renaming mk.inj→bz,mk.injEq→dd
set_option linter.unusedVariables false
set_option linter.unusedSimpArgs false
set_option linter.unusedSectionVars false
namespace Go.Beacon
open Go Go.Eng
theorem B0 {α:Type} [DecidableEq α]:∀ {p l:List α},p.Nodup→(∀ x∈p,x∈l)→p.length≤l.length
 | [],l,_,_=>Nat.zero_le _
 | x :: r,l,hn,hs=>by
   have Iv:=ci.1 hn
   have hx:=hs x bi
   have h:=B0 (p:=r) (l:=l.erase x) Iv.2 (fun y hy=>(List.mem_erase_of_ne (fun e=>Iv.1 (by rw [← e];exact hy))).2 (hs y (aJ _ hy)))
   have e:=List.length_erase_of_mem hx
   have hp:=List.length_pos_of_mem hx
   rw [ai];omega
def od {V:Type} (cmp:V→V→Int):List V→List V→Int
 | [],[]=>0
 | [],_ :: _=>-1
 | _ :: _,[]=>1
 | a :: r,b :: s=>if cmp a b≠0 then cmp a b else od cmp r s
theorem oD {V:Type} (cmp:V→V→Int) (a b:V) (r s:List V):od cmp (a :: r) (b :: s)=if cmp a b≠0 then cmp a b else od cmp r s:=rfl
structure Net (V I:Type) where
 wU:I→V
 size:I→Int
 QG:V→List I
 cmp:V→V→Int
structure Net.Good {V I:Type} (N:Net V I) (own:List I):Prop where
 neg:∀ a b,N.cmp b a=- N.cmp a b
 zero:∀ a b,N.cmp a b=0→a=b
 tr:∀ a b c,N.cmp a b≤0→N.cmp b c≤0→N.cmp a c≤0
 inn:∀ v,∀ x∈N.QG v,x∈own
 inj:∀ x∈own,∀ y∈own,N.wU x=N.wU y→x=y
namespace Net
variable {V I:Type} (N:Net V I)
theorem Good.refl {own:List I} (h:N.Good own) (a:V):N.cmp a a=0:=by have:=h.neg a a;omega
theorem Good.B1 {own:List I} (h:N.Good own):∀ l:List V,od N.cmp l l=0
 | []=>rfl
 | a :: r=>by rw [oD,if_neg (by simpa using h.refl N a)];exact Good.B1 h r
theorem Good.EU {own:List I} (h:N.Good own):∀ a b:List V,od N.cmp b a=- od N.cmp a b
 | [],[]=>rfl
 | [],_ :: _=>rfl
 | _ :: _,[]=>rfl
 | x :: r,y :: s=>by
   rw [oD,oD]
   have e:=h.neg x y
   by_cases c:N.cmp x y=0
   ·rw [if_neg (by omega),if_neg (by omega)];exact Good.EU h r s
   ·rw [if_pos (by omega),if_pos c,e]
theorem Good.B2 {own:List I} (h:N.Good own):∀ a b:List V,od N.cmp a b=0→a=b
 | [],[],_=>rfl
 | [],_ :: _,e=>by unfold od at e;omega
 | _ :: _,[],e=>by unfold od at e;omega
 | x :: r,y :: s,e=>by
   rw [oD] at e
   by_cases c:N.cmp x y=0
   ·rw [if_neg (by simpa using c)] at e
    rw [h.zero x y c,Good.B2 h r s e]
   ·rw [if_pos c] at e;exact absurd e c
theorem Good.HI {own:List I} (h:N.Good own):∀ a b c:List V,od N.cmp a b≤0→od N.cmp b c≤0→od N.cmp a c≤0
 | [],[],_,_,h2=>h2
 | [],_ :: _,[],_,h2=>by unfold od at h2;omega
 | [],_ :: _,_ :: _,_,_=>by unfold od;omega
 | _ :: _,[],_,h1,_=>by unfold od at h1;omega
 | _ :: _,_ :: _,[],_,h2=>by unfold od at h2;omega
 | x :: r,y :: s,z :: t,h1,h2=>by
   rw [oD] at h1 h2 ⊢
   have e1:=h.neg x y
   have e2:=h.neg y z
   by_cases c1:N.cmp x y=0
   ·obtain rfl:=h.zero x y c1
    rw [if_neg (by simpa using c1)] at h1
    by_cases c2:N.cmp x z=0
    ·rw [if_neg (by simpa using c2)] at h2 ⊢
     exact Good.HI h r s t h1 h2
    ·rw [if_pos c2] at h2 ⊢;exact h2
   ·rw [if_pos c1] at h1
    have h4:N.cmp y z≤0:=by
     by_cases c2:N.cmp y z=0
     ·omega
     ·rw [if_pos c2] at h2;exact h2
    have h3:=h.tr x y z h1 h4
    have h5:N.cmp x z≠0:=fun e=>by
     obtain rfl:=h.zero x z e
     have:=h.neg x y
     omega
    rw [if_pos h5];exact h3
theorem JM (cmp:V→V→Int):∀ (a b:List V) (c d:List V),a.length=b.length→od cmp (a++c) (b++d)=if od cmp a b≠0 then od cmp a b else od cmp c d
 | [],[],c,d,_=>by simp [od]
 | x :: r,y :: s,c,d,hl=>by
   rw [ck,ck,oD,oD]
   by_cases h:cmp x y=0
   ·have hn:¬ cmp x y≠0:=by simpa using h
    simp only [if_neg hn]
    exact JM cmp r s c d (by simpa using hl)
   ·simp only [if_pos h]
 | [],_ :: _,_,_,h=>by simp at h
 | _ :: _,[],_,_,h=>by simp at h
def chain:V→List I→Prop
 | _,[]=>True
 | v,x :: r=>x∈N.QG v∧chain (N.wU x) r
def fin:V→List I→V
 | v,[]=>v
 | _,x :: r=>fin (N.wU x) r
def CA:List I→Int
 | []=>0
 | x :: r=>N.size x+CA r
def kS (v:V) (p:List I) (w:V):Prop:=N.chain v p∧N.fin v p=w
theorem kS.cons {v w:V} {x:I} {r:List I}:N.kS v (x :: r) w↔x∈N.QG v∧N.kS (N.wU x) r w:=by
 show (x∈N.QG v∧N.chain (N.wU x) r)∧N.fin (N.wU x) r=w↔x∈N.QG v∧(N.chain (N.wU x) r∧N.fin (N.wU x) r=w)
 exact and_assoc
theorem kS.nil {v w:V}:N.kS v [] w↔v=w:=by unfold kS chain fin;simp
theorem kS.snoc {x:I}:∀ {p:List I} {v w:V},N.kS v (p++[x]) w↔N.wU x=w∧∃ u,N.kS v p u∧x∈N.QG u
 | [],v,w=>by
   rw [bv,kS.cons,kS.nil]
   constructor
   ·intro h;exact ⟨h.2,v,(kS.nil N).2 rfl,h.1⟩
   ·rintro ⟨h,u,h1,h2⟩;rw [kS.nil] at h1;subst h1;exact ⟨h2,h⟩
 | y :: r,v,w=>by
   rw [ck,kS.cons,kS.snoc]
   constructor
   ·rintro ⟨h1,h2,u,h3,h4⟩;exact ⟨h2,u,(kS.cons N).2 ⟨h1,h3⟩,h4⟩
   ·rintro ⟨h2,u,h3,h4⟩;rw [kS.cons] at h3;exact ⟨h3.1,h2,u,h3.2,h4⟩
theorem Bt (x:I) (r:List I):N.CA (x :: r)=N.size x+N.CA r:=rfl
theorem EV (x:I):∀ p:List I,N.CA (p++[x])=N.CA p+N.size x
 | []=>by simp [CA]
 | y :: r=>by rw [ck,CA,CA,EV x r];omega
def Le (p q:List I):Prop:=p.length < q.length∨(p.length=q.length∧(N.CA p < N.CA q∨(N.CA p=N.CA q∧od N.cmp (p.map N.wU) (q.map N.wU)≤0)))
def Fw (v w:V) (p:List I):Prop:=N.kS v p w∧∀ q,N.kS v q w→N.Le p q
theorem Fw.unique {own:List I} (h:N.Good own) {v w:V} {p q:List I} (hp:N.Fw v w p) (hq:N.Fw v w q):p.map N.wU=q.map N.wU:=by
 have h1:=hp.2 q hq.1
 have h2:=hq.2 p hp.1
 have e:=h.EU N (p.map N.wU) (q.map N.wU)
 refine h.B2 N _ _ ?_
 unfold Le at h1 h2
 omega
def tX (a b:Int×Int):Prop:=a.1 < b.1∨(a.1=b.1∧a.2≤b.2)
variable [DecidableEq V] [DecidableEq I]
structure xF (own:List I) (to:V) (c:V→Option (Int×Int)):Prop where
 JN:c to=some (0,0)
 sound:∀ v k,c v=some k→∃ p,N.kS v p to∧(p.length:Int)=k.1∧N.CA p=k.2
 closed:∀ x∈own,∀ y∈N.QG (N.wU x),∀ k,c (N.wU y)=some k→∃ k',c (N.wU x)=some k'∧tX k' (k.1+1,k.2+N.size y)
variable {N}
theorem xF.low {own:List I} {to:V} {c:V→Option (Int×Int)} (h:N.Good own) (C:N.xF own to c):∀ (p:List I) (v:V),(v=to∨∃ x∈own,N.wU x=v)→N.kS v p to→∃ k,c v=some k∧tX k (p.length,N.CA p)
 | [],v,_,hw=>by
   rw [kS.nil] at hw;subst hw
   exact ⟨_,C.JN,.inr ⟨rfl,b5 _⟩⟩
 | x :: r,v,hv,hw=>by
   rw [kS.cons] at hw
   have hx:=h.inn v x hw.1
   obtain ⟨k,h1,h2⟩:=xF.low h C r (N.wU x) (.inr ⟨x,hx,rfl⟩) hw.2
   rcases hv with rfl | ⟨z,hz,rfl⟩
   ·refine ⟨_,C.JN,?_⟩
    left;simp only [ai];omega
   ·obtain ⟨k',h3,h4⟩:=C.closed z hz x hw.1 k h1
    refine ⟨k',h3,?_⟩
    rw [Bt]
    unfold tX at *
    simp only [ai] at *
    omega
inductive nN (N:Net V I) (c:V→Option (Int×Int)) (to:V):V→List I→Prop
 | nil:nN N c to to []
 | cons {v:V} {x:I} {r:List I} {k:Int×Int} (hv:v≠to) (hx:x∈N.QG v) (hk:c (N.wU x)=some k)
  (hb:∀ y∈N.QG v,∀ k',c (N.wU y)=some k'→k.1 < k'.1∨(k.1=k'.1∧(k.2+N.size x < k'.2+N.size y∨(k.2+N.size x=k'.2+N.size y∧N.cmp (N.wU x) (N.wU y)≤0))))
  (hr:nN N c to (N.wU x) r):nN N c to v (x :: r)
theorem nN.Ao {own:List I} {to:V} {c:V→Option (Int×Int)} (h:N.Good own) (C:N.xF own to c):∀ {p:List I} {v:V},nN N c to v p→N.Fw v to p∧((v=to∨∃ x∈own,N.wU x=v)→c v=some ((p.length:Int),N.CA p))
 | [],v,hg=>by
   cases hg
   refine ⟨⟨(kS.nil N).2 rfl,fun q hq=>?_⟩,fun _=>C.JN⟩
   unfold Le
   cases q with
   | nil=>right;refine ⟨rfl,.inr ⟨rfl,by simp [od]⟩⟩
   | cons y s=>left;simp
 | x :: r,v,hg=>by
   cases hg with
   | @cons _ _ _ k hv hx hk hb hr=>
   obtain ⟨C6,Kb⟩:=nN.Ao h C hr
   have Wt:=h.inn v x hx
   have hc:=Kb (.inr ⟨x,Wt,rfl⟩)
   rw [hk] at hc
   obtain rfl:=ac hc
   have QH:N.Fw v to (x :: r):=by
    refine ⟨(kS.cons N).2 ⟨hx,C6.1⟩,fun q hq=>?_⟩
    cases q with
    | nil=>exact absurd ((kS.nil N).1 hq) hv
    | cons y s=>
      rw [kS.cons] at hq
      have Xh:=h.inn v y hq.1
      obtain ⟨k',h1,h2⟩:=C.low h s (N.wU y) (.inr ⟨y,Xh,rfl⟩) hq.2
      have h3:=hb y hq.1 k' h1
      have key:r.length < s.length∨(r.length=s.length∧(N.CA r+N.size x < N.CA s+N.size y∨(N.CA r+N.size x=N.CA s+N.size y∧N.cmp (N.wU x) (N.wU y)≤0))):=by
       unfold tX at h2
       simp only at h2 h3
       omega
      unfold Le
      simp only [ai,Bt,a7]
      rcases key with k1 | ⟨k1,k2 | ⟨k2,k3⟩⟩
      ·left;omega
      ·right;exact ⟨by omega,.inl (by omega)⟩
      ·right
       refine ⟨by omega,?_⟩
       by_cases k4:N.cmp (N.wU x) (N.wU y)=0
       ·have exy:=h.inj x Wt y Xh (h.zero _ _ k4)
        subst exy
        have hle:=C6.2 s hq.2
        unfold Le at hle
        rw [oD,if_neg (by simpa using k4)]
        omega
       ·rw [oD,if_pos k4]
        right;exact ⟨by omega,k3⟩
   refine ⟨QH,fun WH=>?_⟩
   obtain ⟨k',h1,h2⟩:=C.low h (x :: r) v WH QH.1
   obtain ⟨p,h3,h4,h5⟩:=C.sound v k' h1
   have h6:=QH.2 p h3
   rw [h1]
   unfold Le at h6
   unfold tX at h2
   simp only at h2
   refine congrArg some (Prod.ext ?_ ?_)<;>simp only<;>omega
theorem nN.nodup {own:List I} {to:V} {c:V→Option (Int×Int)} (h:N.Good own) (C:N.xF own to c):∀ {p:List I} {v:V},nN N c to v p→p.Nodup∧(∀ x∈p,x∈own∧∃ k,c (N.wU x)=some k∧k.1 < p.length)
 | [],v,_=>⟨List.nodup_nil,fun x hx=>(by cases hx)⟩
 | x :: r,v,hg=>by
   cases hg with
   | @cons _ _ _ k hv hx hk hb hr=>
   obtain ⟨h1,h2⟩:=nN.nodup h C hr
   have Wt:=h.inn v x hx
   have hc:=(nN.Ao h C hr).2 (.inr ⟨x,Wt,rfl⟩)
   refine ⟨ci.2 ⟨fun hm=>?_,h1⟩,fun y hy=>?_⟩
   ·obtain ⟨_,k',h3,h4⟩:=h2 x hm
    rw [hc] at h3;obtain rfl:=ac h3
    simp only at h4;omega
   ·rcases al.1 hy with rfl | hy
    ·exact ⟨Wt,_,hc,by simp only [ai];omega⟩
    ·obtain ⟨h3,k',h4,h5⟩:=h2 y hy
     exact ⟨h3,k',h4,by simp only [ai];omega⟩
theorem nN.len {own:List I} {to:V} {c:V→Option (Int×Int)} (h:N.Good own) (C:N.xF own to c) {p:List I} {v:V} (hg:nN N c to v p):p.length≤own.length:=
 B0 (nN.nodup h C hg).1 fun x hx=>((nN.nodup h C hg).2 x hx).1
structure Level (N:Net V I) (src:V) (k:Nat) (B:V→Option (List V×Int)):Prop where
 sound:∀ v t,B v=some t→∃ p,N.kS src p v∧p.length=k∧t.1=p.map N.wU∧t.2=N.CA p
 Ao:∀ v p,N.kS src p v→p.length=k→∃ t,B v=some t∧(t.2 < N.CA p∨(t.2=N.CA p∧od N.cmp t.1 (p.map N.wU)≤0))
theorem Level.zero (src:V) (B:V→Option (List V×Int)) (h:∀ v,B v=if v=src then some ([],0) else none):N.Level src 0 B:=by
 refine ⟨fun v t ht=>?_,fun v p hp hl=>?_⟩
 ·rw [h] at ht
  split at ht
  ·rename_i e
   obtain rfl:=ac ht
   exact ⟨[],(kS.nil N).2 e.symm,rfl,rfl,rfl⟩
  ·cases ht
 ·obtain rfl:=d3.1 hl
  rw [kS.nil] at hp
  refine ⟨([],0),by rw [h,if_pos hp.symm],.inr ⟨rfl,by simp [od]⟩⟩
theorem Level.next {own:List I} (h:N.Good own) {src:V} {k:Nat} {B D:V→Option (List V×Int)} (L:N.Level src k B)
 (hs:∀ v t,D v=some t→∃ u s x,B u=some s∧x∈N.QG u∧N.wU x=v∧t=(s.1++[N.wU x],s.2+N.size x))
 (hb:∀ u s x,B u=some s→x∈N.QG u→∃ t,D (N.wU x)=some t∧(t.2 < s.2+N.size x∨(t.2=s.2+N.size x∧od N.cmp t.1 (s.1++[N.wU x])≤0))):N.Level src (k+1) D:=by
 refine ⟨fun v t ht=>?_,fun v p hp hl=>?_⟩
 ·obtain ⟨u,s,x,h1,h2,h3,rfl⟩:=hs v t ht
  obtain ⟨p,h4,h5,h6,h7⟩:=L.sound u s h1
  refine ⟨p++[x],(kS.snoc N).2 ⟨h3,u,h4,h2⟩,by simp [h5],by simp [h6],?_⟩
  rw [EV];simp only;omega
 ·rcases cl p with rfl | ⟨q,x,rfl⟩
  ·simp at hl
  ·rw [cm] at *
   obtain ⟨h1,u,h2,h3⟩:=(kS.snoc N).1 hp
   subst h1
   have hq:q.length=k:=by simpa using hl
   obtain ⟨s,h4,h5⟩:=L.Ao u q h2 hq
   obtain ⟨q',h8,h9,h10,h11⟩:=L.sound u s h4
   obtain ⟨t,h6,h7⟩:=hb u s x h4 h3
   refine ⟨t,h6,?_⟩
   rw [EV,b6]
   rcases h7 with h7 | ⟨h7,h12⟩
   ·left;omega
   ·rcases h5 with h5 | ⟨h5,h13⟩
    ·left;omega
    ·right
     refine ⟨by omega,h.HI N _ _ _ h12 ?_⟩
     rw [JM N.cmp _ _ _ _ (by rw [h10,bx,bx];omega)]
     split
     ·exact h13
     ·rw [a7,d4,h.B1 N];exact b5 _
end Net
theorem ze {a b:Version} (h:ig a b=0):a=b:=by
 unfold ig at h
 rw [YJ,V8] at h
 obtain ⟨a1,a2,a3⟩:=a
 obtain ⟨b1,b2,b3⟩:=b
 simp only at h
 by_cases c1:dZ a1 b1=0
 ·rw [if_neg (show ¬ dZ a1 b1≠0 from fun k=>k c1)] at h
  by_cases c2:dZ a2 b2=0
  ·rw [if_neg (show ¬ dZ a2 b2≠0 from fun k=>k c2)] at h
   rw [za c1,za c2,za h]
  ·rw [if_pos c2] at h;exact absurd h c2
 ·rw [if_pos c1,if_pos c1] at h;exact absurd h c1
theorem EW {a b c:Version} (h1:ig a b≤0) (h2:ig b c≤0):ig a c≤0:=by
 by_cases c1:ig a b=0
 ·rw [ze c1];exact h2
 ·by_cases c2:ig b c=0
  ·rw [← ze c2];exact h1
  ·exact d5 (Hu.tr (a:=a) (b:=b) (d:=c) (by omega) (by omega))
instance:BT Version where
 NC a:=by
  show (decide (a.aA < a.aA)||(decide (a.aA=a.aA)&&(decide (a.aD < a.aD)||(decide (a.aD=a.aD)&&(decide (a.aF < a.aF)||(decide (a.aF=a.aF)&&false))))))=false
  simp
 tr {a b c} h1 h2:=by
  have h1:(decide (a.aA < b.aA)||(decide (a.aA=b.aA)&&(decide (a.aD < b.aD)||(decide (a.aD=b.aD)&&(decide (a.aF < b.aF)||(decide (a.aF=b.aF)&&false))))))=true:=h1
  have h2:(decide (b.aA < c.aA)||(decide (b.aA=c.aA)&&(decide (b.aD < c.aD)||(decide (b.aD=c.aD)&&(decide (b.aF < c.aF)||(decide (b.aF=c.aF)&&false))))))=true:=h2
  show (decide (a.aA < c.aA)||(decide (a.aA=c.aA)&&(decide (a.aD < c.aD)||(decide (a.aD=c.aD)&&(decide (a.aF < c.aF)||(decide (a.aF=c.aF)&&false))))))=true
  simp at *;omega
 Xd a b:=by
  show (decide (a.aA < b.aA)||(decide (a.aA=b.aA)&&(decide (a.aD < b.aD)||(decide (a.aD=b.aD)&&(decide (a.aF < b.aF)||(decide (a.aF=b.aF)&&false))))))=true∨a=b∨(decide (b.aA < a.aA)||(decide (b.aA=a.aA)&&(decide (b.aD < a.aD)||(decide (b.aD=a.aD)&&(decide (b.aF < a.aF)||(decide (b.aF=a.aF)&&false))))))=true
  obtain ⟨a1,a2,a3⟩:=a
  obtain ⟨b1,b2,b3⟩:=b
  simp;omega
theorem QI (L:List bj) (m:bj) (hl:L.length≤10000000):bM L m=some (decide (m∈L)):=by
 unfold bM fD
 have key:∀ (k:Nat) (n:Int),0≤n→n+k=L.length→∃ j,cZ L m n=some j∧(0≤j↔m∈L.drop n.toNat):=by
  intro k
  induction k with
  | zero=>
    intro n h0 hn
    refine ⟨-1,?_,?_⟩
    ·unfold cZ
     rw [iter_eq,cG,if_neg (by omega),bb]
    ·rw [bk (by omega)];simp
  | succ k ih=>
    intro n h0 hn
    obtain ⟨s,hs,_,hd⟩:=gj L h0 (by omega)
    unfold cZ
    rw [iter_eq,cG,if_pos (by omega),hs]
    simp only [aa]
    by_cases e:m=s
    ·rw [if_pos e,bb]
     exact ⟨n,rfl,by rw [hd,← e];simp;omega⟩
    ·rw [if_neg e,bn (by omega) (by omega)]
     simp only [aa,bD]
     obtain ⟨j,h1,h2⟩:=ih (n+1) (by omega) (by omega)
     exact ⟨j,h1,by rw [h2,hd];simp [e]⟩
 obtain ⟨j,h1,h2⟩:=key L.length 0 (by omega) (by omega)
 rw [h1]
 simp only [aa,d6]
 rw [decide_eq_decide,h2];simp
def Fx (m:bj) (x:ak):Bool:=decide (m∈x.df)
def NZ (v:Version) (x:ak):Bool:=x.bF.any (EH v)
def eP (l:List ak) (m:bj) (v:Version):List ak:=l.filter (fun x=>Fx m x&&NZ v x)
def gL (l:List ak) (m:bj):List ak:=l.filter (Fx m)
theorem QJ (l:List ak) (m:bj) (v:Version):eP (gL l m) m v=eP l m v:=by
 unfold eP gL
 rw [List.filter_filter]
 congr 1
 funext x
 cases Fx m x<;>simp
theorem HJ {x:ak} (hx:Fs x) (m:bj):bM x.df m=some (Fx m x):=by
 rw [QI _ _ (by have:=hx.1;omega)];rfl
theorem MC {x:ak} (hx:Fs x) (v:Version):xb x v=some (NZ v x):=Qg x v (by have:=hx.2;omega)
theorem MD {x:ak} (hx:Fs x) (v:Version):jU x v=some (NZ v x):=by rw [Mk,MC hx]
theorem JO (l:List ak) (m:bj) (v:Version) (hx:∀ x∈l,Fs x) (hn:l.length≤1000):mU l m v=some (eP l m v):=by
 unfold mU vn
 have h:=lz l (fun (s:List ak) (i:Int)=>(s,i)) (fun x:(List ak)×Int=>eW l m v x.1 x.2) (fun acc x=>if (Fx m x&&NZ v x)=true then acc++[x] else acc) (fun i s=>(s.length:Int)≤i) (fun s=>some s)
  (fun s i x h0 h1 hi hv=>by
   have hb:=hx x (vC hi)
   have w1:bE (i+1)=i+1:=bn (by omega) (by omega)
   show eW l m v s i=_∧_
   unfold eW
   rw [if_pos h1,hi]
   simp only [aa]
   rw [HJ hb]
   simp only [aa]
   by_cases c:Fx m x=true
   ·rw [if_pos c,MD hb]
    simp only [aa]
    unfold jO jN
    by_cases d:NZ v x=true
    ·rw [if_pos d,lx (by simp;omega)]
     refine ⟨by simp [w1,c,d],by simp [c,d];omega⟩
    ·rw [if_neg d]
     refine ⟨by simp [w1,c,d],by simp [c,d];omega⟩
   ·rw [if_neg c]
    unfold jO jN
    rw [if_neg (by simp)]
    refine ⟨by simp [w1,c],by simp [c];omega⟩)
  (fun s hv=>by
   show eW l m v s l.length=_
   unfold eW
   rw [if_neg (by omega)]) [] (by simp)
 rw [h,foldl_filter];rfl
def ZI:ak:=⟨⟨0,0,0⟩,[],[],0⟩
theorem LA (f:ak→Option Bool) (p:ak→Bool) (xs:List ak) (hl:(xs.length:Int)≤100000) (hf:∀ x∈xs,f x=some (p x)):gp xs f=some (xs.filter (fun x=>!p x)):=Mc ZI f p xs hl hf
theorem TF (l:List ak) (m:bj) (v:Version) (hx:∀ x∈l,Fs x) (hn:l.length≤1000):rU l m v=some (eP l m v):=by
 unfold rU
 have hc:gE l=some l:=by
  unfold gE;rw [lx (by simp;omega)];simp
 rw [hc]
 simp only [aa]
 rw [LA _ (fun x=>!(Fx m x&&NZ v x)) l (by omega) (fun x hm=>by
  have hb:=hx x hm
  unfold qx lu
  rw [HJ hb]
  simp only [aa]
  by_cases c:Fx m x=true
  ·rw [if_neg (by simp [c]),MC hb]
   simp [c]
  ·rw [if_pos (by simpa using c)]
   simp [c])]
 simp only [aa,Bool.not_not]
 rfl
structure ME (x:ak):Prop where
 wU:mH x.Version=true
 size:1≤x.cW∧x.cW≤1000000000
 rng:∀ r∈x.bF,(mH r.vM=true∧mH r.mn=true)∧ig r.vM r.mn≤0
def iO (l:List ak):Prop:=(∀ x∈l,ME x)∧l.Pairwise (fun a b=>ig a.Version b.Version < 0)
theorem N0 (x:ak) (hx:Fs x):Ok (fC x) (fun r=>r=0→∀ r∈x.bF,(mH r.vM=true∧mH r.mn=true)∧ig r.vM r.mn≤0):=by
 have hl:=hx.2
 unfold fC
 rw [if_neg (by omega)]
 unfold mR
 refine Ok.QC x.bF.length (fun i=>∀ r∈x.bF.take i.toNat,(mH r.vM=true∧mH r.mn=true)∧ig r.vM r.mn≤0) (by simp) (fun i h0 h1 hi=>?_)
 unfold fo
 have w1:bE (i+1)=i+1:=bn (by omega) (by omega)
 have w2:bE (i - 1)=i - 1:=bn (by omega) (by omega)
 split
 ·refine Ok.idx h0 (by assumption) (fun r hr hm=>?_)
  rw [kH,kH,rf]
  have bad:∀ c,c=true→Ok (di x i r c) (TA x.bF.length (fun i=>∀ r∈x.bF.take i.toNat,(mH r.vM=true∧mH r.mn=true)∧ig r.vM r.mn≤0) (fun a=>a=0→∀ r∈x.bF,(mH r.vM=true∧mH r.mn=true)∧ig r.vM r.mn≤0) i):=by
   intro c hc
   unfold di
   rw [if_pos hc]
   exact Ok.inr (Ok.ret (fun h=>by cases h))
  by_cases c1:mH r.vM=true
  ·rw [if_neg (by simp [c1])]
   by_cases c2:mH r.mn=true
   ·rw [if_neg (by simp [c2])]
    simp only [aa]
    by_cases c3:0 < ig r.vM r.mn
    ·exact bad _ (by simp [c3])
    ·unfold di fk
     rw [if_neg (by simpa using c3)]
     have go:i < x.bF.length∧∀ q∈x.bF.take (i+1).toNat,(mH q.vM=true∧mH q.mn=true)∧ig q.vM q.mn≤0:=by
      refine ⟨by assumption,fun q hq=>?_⟩
      rw [take_succ h0 hr,ad,af] at hq
      rcases hq with hq | rfl
      ·exact hi q hq
      ·exact ⟨⟨c1,c2⟩,by omega⟩
     split
     ·rw [w2]
      refine Ok.idx (by omega) (by omega) (fun q hq Tp=>?_)
      rw [rf]
      simp only [aa]
      split
      ·exact Ok.inr (Ok.ret (fun h=>by cases h))
      ·exact Ok.ret ⟨w1,go⟩
     ·rw [if_neg (by simp)];exact Ok.ret ⟨w1,go⟩
   ·rw [if_pos (by simpa using c2)];exact bad true rfl
  ·rw [if_pos (by simpa using c1)];exact bad true rfl
 ·refine Ok.inr ?_
  unfold jK
  rw [MD hx]
  simp only [aa]
  have UT:∀ r∈x.bF,(mH r.vM=true∧mH r.mn=true)∧ig r.vM r.mn≤0:=by
   have e:x.bF.take i.toNat=x.bF:=cn (by omega)
   rw [e] at hi;exact hi
  split
  ·exact Ok.ret (fun _=>UT)
  ·exact Ok.ret (fun _=>UT)
theorem TG {l:List ak} {x:ak} (h:l.Pairwise (fun a b=>ig a.Version b.Version < 0)) (hx:∀ y,l.getLast? =some y→ig y.Version x.Version < 0):(l++[x]).Pairwise (fun a b=>ig a.Version b.Version < 0):=by
 rw [cp]
 refine ⟨h,by simp,fun a ha b hb=>?_⟩
 obtain rfl:=af.1 hb
 rcases cl l with rfl | ⟨r,y,rfl⟩
 ·cases ha
 ·rw [cm] at *
  have hy:=hx y (by simp)
  rcases ad.1 ha with ha | ha
  ·rw [cp] at h
   exact Hu.tr (h.2.2 a ha y (by simp)) hy
  ·rw [af.1 ha];exact hy
theorem N1 {α:Type} {xs:List α} {i:Int} {x:α} (h0:0 < i) (h:idx xs (i - 1)=some x):(xs.take i.toNat).getLast? =some x:=by
 have:=take_succ (by omega) h
 rw [show i - 1+1=i by omega] at this
 rw [this];simp
def MF (xs:List ak) (i:Int):Prop:=(∀ x∈xs.take i.toNat,ME x)∧(xs.take i.toNat).Pairwise (fun a b=>ig a.Version b.Version < 0)
theorem N2 (xs:List ak) (hx:pa xs):Ok (er xs) (fun r=>r=0→iO xs):=by
 have hl:=hx.1
 unfold er
 rw [if_neg (by omega)]
 unfold mT
 refine Ok.QC xs.length (MF xs) ⟨by simp,by simp⟩ (fun i h0 h1 hi=>?_)
 have w1:bE (i+1)=i+1:=bn (by omega) (by omega)
 have w2:bE (i - 1)=i - 1:=bn (by omega) (by omega)
 unfold fq
 split
 ·rename_i qQ
  refine Ok.idx h0 qQ (fun x Kd hm=>?_)
  have hb:=hx.2 x hm
  rw [kH]
  have j1:∀ (c:Bool),mH x.Version=true→(c=false→∀ y,(xs.take i.toNat).getLast? =some y→ig y.Version x.Version < 0)→Ok (dE i x c) (TA xs.length (MF xs) (fun r=>r=0→iO xs) i):=by
   intro c hv hc
   unfold dE
   have hm:=hb.1
   split
   ·exact Ok.inr (Ok.ret (fun h=>by cases h))
   ·rename_i hcf
    have hc:=hc (by simpa using hcf)
    split
    ·exact Ok.inr (Ok.ret (fun h=>by cases h))
    ·split
     ·exact Ok.inr (Ok.ret (fun h=>by cases h))
     ·unfold mS
      refine Ok.range x.df.length (fun k k0 k1=>?_)
      have v1:bE (k+1)=k+1:=bn (by omega) (by omega)
      have v2:bE (k - 1)=k - 1:=bn (by omega) (by omega)
      unfold fp
      split
      ·rename_i M6
       refine Ok.idx k0 M6 (fun m hkm HQ=>?_)
       have e:pS m=some (rj m):=EE _
       rw [e]
       simp only [aa]
       split
       ·exact Ok.inr (Ok.inr (Ok.ret (fun h=>by cases h)))
       ·split
        ·rw [v2]
         refine Ok.idx (by omega) (by omega) (fun q hq Tp=>?_)
         unfold ef
         split
         ·exact Ok.inr (Ok.inr (Ok.ret (fun h=>by cases h)))
         ·exact Ok.ret ⟨v1,M6⟩
        ·unfold ef
         rw [if_neg (by simp)]
         exact Ok.ret ⟨v1,M6⟩
      ·refine Ok.inr ?_
       unfold jL
       refine Ok.bind (N0 x hb) (fun r hr=>?_)
       split
       ·rename_i Aq
        exact Ok.inr (Ok.ret (fun h=>absurd h Aq))
       ·rename_i hz
        have hr:=hr (by simpa using hz)
        rw [uV]
        split
        ·exact Ok.inr (Ok.ret (fun h=>by cases h))
        ·rename_i hs
         have ok:ME x:=⟨hv,by simpa using hs,hr⟩
         refine Ok.ret ⟨w1,qQ,?_⟩
         unfold MF
         rw [take_succ h0 Kd]
         refine ⟨fun y hy=>?_,TG hi.2 hc⟩
         rcases ad.1 hy with hy | hy
         ·exact hi.1 y hy
         ·rw [af.1 hy];exact ok
  split
  ·exact Ok.inr (Ok.ret (fun h=>by cases h))
  ·rename_i hv
   have hv:mH x.Version=true:=by simpa using hv
   split
   ·rw [w2]
    refine Ok.idx (by omega) (by omega) (fun q hq Tp=>?_)
    rw [rf]
    simp only [aa]
    refine j1 _ hv (fun hc y hy=>?_)
    rw [N1 (by assumption) hq] at hy
    obtain rfl:=ac hy
    have:=Bj x.Version q.Version
    simp at hc;omega
   ·refine j1 false hv (fun _ y hy=>?_)
    have:i=0:=by omega
    subst this
    simp at hy
 ·refine Ok.inr (Ok.ret (fun _=>?_))
  have e:xs.take i.toNat=xs:=cn (by omega)
  unfold MF at hi
  rw [e] at hi;exact hi
abbrev CM:=List (Version×ao)
def B3 (l:List ak) (m:bj):Net Version ak:=⟨ak.Version,ak.cW,eP l m,ig⟩
theorem QK:∀ {l:List ak},l.Pairwise (fun a b=>ig a.Version b.Version < 0)→∀ x∈l,∀ y∈l,x.Version=y.Version→x=y
 | [],_,x,hx,_,_,_=>(by cases hx)
 | z :: r,h,x,hx,y,hy,e=>by
   have h':=List.pairwise_cons.1 h
   have no:∀ w∈r,z.Version≠w.Version:=fun w hw e=>by
    have:=h'.1 w hw
    rw [e,Hu.zero] at this;omega
   rcases al.1 hx with h1 | h1
   ·rcases al.1 hy with h2 | h2
    ·rw [h1,h2]
    ·rw [h1] at e;exact absurd e (no y h2)
   ·rcases al.1 hy with h2 | h2
    ·rw [h2] at e;exact absurd e.symm (no x h1)
    ·exact QK h'.2 x h1 y h2 e
theorem uj {l:List ak} {m:bj} {x:ak} (h:x∈gL l m):x∈l:=(b7.1 h).1
theorem qn {l:List ak} {m:bj} {v:Version} {x:ak} (h:x∈eP l m v):x∈gL l m:=by
 unfold eP at h
 rw [b7,bm] at h
 exact b7.2 ⟨h.1,h.2.1⟩
theorem Bu {l:List ak} {m:bj} (h:iO l):(B3 l m).Good (gL l m):=
 ⟨fun a b=>Bj a b,fun a b=>ze,fun a b c=>EW,fun v x hx=>qn hx,fun x hx y hy e=>QK h.2 x (uj hx) y (uj hy) e⟩
theorem Bv {l:List ak} {m:bj}:∀ {p:List ak} {v w:Version},(B3 l m).kS v p w→∀ x∈p,x∈gL l m
 | [],_,_,_,x,hx=>(by cases hx)
 | y :: r,v,w,h,x,hx=>by
   rw [Net.kS.cons] at h
   rcases al.1 hx with rfl | hx
   ·exact qn h.1
   ·exact Bv h.2 x hx
theorem LB {l:List ak} {m:bj} (gN:∀ x∈l,ME x):∀ {p:List ak},(∀ x∈p,x∈gL l m)→0≤(B3 l m).CA p∧(B3 l m).CA p≤1000000000 * p.length
 | [],_=>by simp [Net.CA]
 | y :: r,h=>by
   have h1:=(gN y (uj (h y bi))).size
   have h2:=LB gN (p:=r) (fun x hx=>h x (aJ _ hx))
   rw [Net.Bt]
   show 0≤y.cW+_∧y.cW+_≤_
   simp only [ai]
   omega
def Fy (M:CM) (v:Version):Option (Int×Int):=(bh M v).map (fun c=>(c.cd,c.bP))
def mE (a b:Int×Int):Prop:=a.1 < b.1∨(a.1=b.1∧a.2 < b.2)
instance (a b:Int×Int):Decidable (mE a b):=by unfold mE;exact inferInstance
abbrev RS:=Bool×Int×Int×Bool
def RS.c (s:RS):Int×Int:=(s.2.1,s.2.2.1)
def HW (M:CM) (s:RS) (y:ak):RS:=
 match bh M y.Version with
 | none=>s
 | some c=>if s.2.2.2=false∨mE (c.cd+1,c.bP+y.cW) s.c then (true,c.cd+1,c.bP+y.cW,true) else s
theorem Gu (a b:ao):lN a b=some (rk [dZ a.cd b.cd,dZ a.bP b.bP]):=by
 unfold lN
 rw [jD,jD]
 have h:mo [dZ a.cd b.cd,dZ a.bP b.bP]=some (rk [dZ a.cd b.cd,dZ a.bP b.bP]):=Ai _ (by simp)
 rw [h];rfl
theorem Gv (a b c d:Int):decide (rk [dZ a c,dZ b d] < 0)=decide (mE (a,b) (c,d)):=by
 rw [decide_eq_decide]
 unfold mE dZ
 simp only [rk]
 repeat' split
 all_goals omega
structure YZ (M:CM) (ys:List ak) (s r:RS):Prop where
 mf:s.2.2.2=true→r.2.2.2=true∧Net.tX r.c s.c
 all:∀ y∈ys,∀ c,bh M y.Version=some c→r.2.2.2=true∧Net.tX r.c (c.cd+1,c.bP+y.cW)
 one:r=s∨(r.1=true∧r.2.2.2=true∧(∃ y∈ys,∃ c,bh M y.Version=some c∧r.c=(c.cd+1,c.bP+y.cW))∧(s.2.2.2=false∨mE r.c s.c))
theorem JP (M:CM):∀ (ys:List ak) (s:RS),YZ M ys s (ys.foldl (HW M) s)
 | [],s=>⟨fun h=>⟨h,.inr ⟨rfl,b5 _⟩⟩,fun y hy=>(by cases hy),.inl rfl⟩
 | y :: r,s=>by
   rw [b8]
   have ih:=JP M r (HW M s y)
   generalize hR:r.foldl (HW M) (HW M s y)=R at ih
   cases hg:bh M y.Version with
   | none=>
     have e:HW M s y=s:=by unfold HW;rw [hg]
     rw [e] at ih
     refine ⟨ih.mf,fun z hz c hc=>?_,?_⟩
     ·rcases al.1 hz with rfl | hz
      ·rw [hg] at hc;cases hc
      ·exact ih.all z hz c hc
     ·rcases ih.one with h | ⟨h1,h2,⟨z,hz,c,h3⟩,h4⟩
      ·exact .inl h
      ·exact .inr ⟨h1,h2,⟨z,aJ _ hz,c,h3⟩,h4⟩
   | some c=>
     by_cases hc:s.2.2.2=false∨mE (c.cd+1,c.bP+y.cW) s.c
     ·have e:HW M s y=(true,c.cd+1,c.bP+y.cW,true):=by unfold HW;rw [hg];simp only;rw [if_pos hc]
      rw [e] at ih
      have k:=ih.mf rfl
      have kc:RS.c (true,c.cd+1,c.bP+y.cW,true)=(c.cd+1,c.bP+y.cW):=rfl
      rw [kc] at k
      refine ⟨fun hs=>⟨k.1,?_⟩,fun z hz c' wR=>?_,?_⟩
      ·rcases hc with hc | hc
       ·rw [hs] at hc;cases hc
       ·have k2:=k.2
        unfold Net.tX at *;unfold mE at hc;omega
      ·rcases al.1 hz with rfl | hz
       ·rw [hg] at wR;obtain rfl:=ac wR;exact k
       ·exact ih.all z hz c' wR
      ·right
       rcases ih.one with h | ⟨h1,h2,⟨z,hz,c',h3,h5⟩,h4⟩
       ·subst h
        exact ⟨rfl,rfl,⟨y,bi,c,hg,rfl⟩,hc⟩
       ·refine ⟨h1,h2,⟨z,aJ _ hz,c',h3,h5⟩,?_⟩
        rcases hc with hc | hc
        ·exact .inl hc
        ·right
         have k2:=k.2
         unfold Net.tX at k2;unfold mE at *;omega
     ·have e:HW M s y=s:=by unfold HW;rw [hg];simp only;rw [if_neg hc]
      rw [e] at ih
      rw [not_or] at hc
      have hs:s.2.2.2=true:=by simpa using hc.1
      refine ⟨ih.mf,fun z hz c' wR=>?_,?_⟩
      ·rcases al.1 hz with rfl | hz
       ·rw [hg] at wR;obtain rfl:=ac wR
        have k:=ih.mf hs
        refine ⟨k.1,?_⟩
        have k2:=k.2
        have k3:=hc.2
        unfold mE at k3;unfold Net.tX at *;omega
       ·exact ih.all z hz c' wR
      ·rcases ih.one with h | ⟨h1,h2,⟨z,hz,c',h3⟩,h4⟩
       ·exact .inl h
       ·exact .inr ⟨h1,h2,⟨z,aJ _ hz,c',h3⟩,h4⟩
structure uk (l:List ak) (m:bj) (to:Version) (M:CM):Prop where
 sm:SM M
 JN:bh M to=some ⟨0,0⟩
 sound:∀ v c,bh M v=some c→∃ p,(B3 l m).kS v p to∧(p.length:Int)=c.cd∧(B3 l m).CA p=c.bP
 keys:∀ v c,bh M v=some c→v=to∨∃ x∈gL l m,x.Version=v
 few:∀ v c,bh M v=some c→c.cd+1≤M.length
theorem uk.len {l:List ak} {m:bj} {to:Version} {M:CM} (h:uk l m to M) (hl:l.length≤8):M.length≤9:=by
 have h1:(M.map Prod.fst).length≤(to :: (gL l m).map ak.Version).length:=B0 h.sm.nodup (fun v hv=>by
  obtain ⟨e,he,rfl⟩:=ap.1 hv
  rcases h.keys e.1 e.2 (h.sm.Di.2 he) with k | ⟨x,hx,k⟩
  ·rw [k];exact bi
  ·rw [← k];exact aJ _ (List.mem_map_of_mem hx))
 have h2:(gL l m).length≤l.length:=bc _ _
 simp only [bx,ai] at h1
 omega
theorem uk.bd {l:List ak} {m:bj} {to:Version} {M:CM} (h:uk l m to M) (hl:l.length≤8) (gN:iO l) {v:Version} {c:ao} (hc:bh M v=some c):(0≤c.cd∧c.cd≤8)∧0≤c.bP∧c.bP≤8000000000:=by
 obtain ⟨p,h1,h2,h3⟩:=h.sound v c hc
 have h4:=h.few v c hc
 have h5:=h.len hl
 have h6:=LB gN.1 (Bv h1)
 omega
theorem JQ (l:List ak) (m:bj) (to:Version) (hl:l.length≤8) (gN:iO l) (M:CM) (hM:uk l m to M) (n37:Int) (h37:0≤n37∧n37≤100) (x:ak) (s:RS) (ys:List ak) (Zw:∀ y∈ys,y∈l) (hn:ys.length≤8):
 rH M n37 x ys s.1 s.2.1 s.2.2.1 s.2.2.2 0=some (.inl (if (ys.foldl (HW M) s).2.2.2=true then ca M x.Version ⟨(ys.foldl (HW M) s).2.1,(ys.foldl (HW M) s).2.2.1⟩ else M,(ys.foldl (HW M) s).1,n37+1)):=by
 unfold rH
 have h:=lz ys (fun (s:RS) (i:Int)=>(s.1,s.2.1,s.2.2.1,s.2.2.2,i)) (fun Y0:Bool×Int×Int×Bool×Int=>eZ M n37 x ys Y0.1 Y0.2.1 Y0.2.2.1 Y0.2.2.2.1 Y0.2.2.2.2) (HW M) (fun _ _=>True) (fun s=>oL M n37 x s.1 s.2.1 s.2.2.1 s.2.2.2)
  (fun s i y h0 h1 hi _=>by
   refine ⟨?_,trivial⟩
   have w1:bE (i+1)=i+1:=bn (by omega) (by omega)
   have hy:=(gN.1 y (Zw y (vC hi))).size
   obtain ⟨ag,k,z,is⟩:=s
   show eZ M n37 x ys ag k z is i=_
   unfold eZ
   rw [if_pos h1,hi]
   simp only [aa]
   unfold tV HW
   cases hg:bh M y.Version with
   | none=>
     simp only [c6,cv,aa,bo,if_false]
     unfold gm iu
     rw [if_neg (by simp),w1]
   | some c=>
     have hb:=hM.bd hl gN hg
     have v1:bE (c.cd+1)=c.cd+1:=bn (by omega) (by omega)
     have v2:bE (c.bP+y.cW)=c.bP+y.cW:=bn (by omega) (by omega)
     simp only [b9,cA,aa,if_true,v1,v2]
     cases is with
     | false=>
       simp only [c7,if_true,true_or]
       unfold gm iu
       rw [if_pos rfl,v1,v2,w1]
     | true=>
       simp only [c8,bo,if_false,d7,false_or]
       rw [Gu]
       simp only [aa]
       rw [Gv]
       unfold gm iu
       simp only [v1,v2,w1,RS.c]
       by_cases hc:mE (c.cd+1,c.bP+y.cW) (k,z)
       ·rw [if_pos (by simpa using hc)];simp [hc]
       ·rw [if_neg (by simpa using hc)];simp [hc])
  (fun s _=>by
   show eZ M n37 x ys s.1 s.2.1 s.2.2.1 s.2.2.2 ys.length=_
   unfold eZ
   rw [if_neg (by omega)]) s trivial
 rw [h]
 unfold oL lW
 rw [bn (by omega) (by omega)]
 split<;>rfl
def CB (l:List ak) (m:bj) (M:CM) (ag:Bool) (x:ak):RS:=(eP l m x.Version).foldl (HW M) (ag,((bh M x.Version).getD ⟨0,0⟩).cd,((bh M x.Version).getD ⟨0,0⟩).bP,(bh M x.Version).isSome)
def CC (l:List ak) (m:bj) (M:CM) (ag:Bool) (x:ak):CM:=if (CB l m M ag x).2.2.2=true then ca M x.Version ⟨(CB l m M ag x).2.1,(CB l m M ag x).2.2.1⟩ else M
def uZ (l:List ak) (m:bj) (M:CM) (x:ak):Prop:=∀ y∈eP l m x.Version,∀ k,Fy M y.Version=some k→∃ k',Fy M x.Version=some k'∧Net.tX k' (k.1+1,k.2+y.cW)
def Down (M M':CM):Prop:=∀ v c,bh M v=some c→∃ c',bh M' v=some c'∧Net.tX (c'.cd,c'.bP) (c.cd,c.bP)
theorem Down.refl (M:CM):Down M M:=fun v c h=>⟨c,h,.inr ⟨rfl,b5 _⟩⟩
theorem Down.trans {A B C:CM} (h1:Down A B) (h2:Down B C):Down A C:=fun v c h=>by
 obtain ⟨c',h3,h4⟩:=h1 v c h
 obtain ⟨d,h5,h6⟩:=h2 v c' h3
 refine ⟨d,h5,?_⟩
 unfold Net.tX at *;simp only at *;omega
def QL (M M':CM) (v:Version):Prop:=∃ c',bh M' v=some c'∧∀ c,bh M v=some c→mE (c'.cd,c'.bP) (c.cd,c.bP)
theorem LC (l:List ak) (m:bj) (to:Version) (hl:l.length≤8) (gN:iO l) (M:CM) (hM:uk l m to M) (ag:Bool) (x:ak) (hx:x∈gL l m):
 uk l m to (CC l m M ag x)∧Down M (CC l m M ag x)∧
 (((CB l m M ag x).1=ag∧(∀ v,bh (CC l m M ag x) v=bh M v)∧uZ l m M x)∨((CB l m M ag x).1=true∧QL M (CC l m M ag x) x.Version)):=by
 have sp:=JP M (eP l m x.Version) (ag,((bh M x.Version).getD ⟨0,0⟩).cd,((bh M x.Version).getD ⟨0,0⟩).bP,(bh M x.Version).isSome)
 have Ot:(eP l m x.Version).foldl (HW M) (ag,((bh M x.Version).getD ⟨0,0⟩).cd,((bh M x.Version).getD ⟨0,0⟩).bP,(bh M x.Version).isSome)=CB l m M ag x:=rfl
 rw [Ot] at sp
 unfold CC
 generalize hR:CB l m M ag x=R at sp
 clear Ot
 have aa0:R.2.2.2=true→(∀ v,bh M v=bh M v)→True:=fun _ _=>trivial
 rcases sp.one with h | ⟨h1,h2,⟨y,hy,c,h3,h4⟩,h5⟩
 ·
  have same:∀ v,bh (if R.2.2.2=true then ca M x.Version ⟨R.2.1,R.2.2.1⟩ else M) v=bh M v:=by
   intro v
   rw [h]
   simp only
   cases hg:bh M x.Version with
   | none=>simp
   | some c=>
     simp only [cA,if_true,b9]
     rw [iH]
     split
     ·rename_i e;subst e;exact hg.symm
     ·rfl
  have O7:(if R.2.2.2=true then ca M x.Version ⟨R.2.1,R.2.2.1⟩ else M)=M:=by
   refine Dj ?_ hM.sm same
   split
   ·exact hM.sm.set _ _
   ·exact hM.sm
  rw [O7]
  refine ⟨hM,Down.refl M,.inl ⟨by rw [h],fun v=>rfl,fun y hy k hk=>?_⟩⟩
  unfold Fy at hk ⊢
  cases hg:bh M y.Version with
  | none=>rw [hg] at hk;cases hk
  | some c=>
    rw [hg] at hk
    obtain rfl:=ac hk
    obtain ⟨e1,e2⟩:=sp.all y hy c hg
    rw [h] at e1 e2
    cases hgx:bh M x.Version with
    | none=>rw [hgx] at e1;simp at e1
    | some d=>
      rw [hgx] at e2
      exact ⟨_,rfl,e2⟩
 ·
  rw [if_pos h2]
  have Xh:=qn hy
  have WI:=hM.bd hl gN h3
  have hsy:=(gN.1 y (uj Xh)).size
  have e4:R.2.1=c.cd+1∧R.2.2.1=c.bP+y.cW:=by
   have:=h4;unfold RS.c at this;exact ⟨congrArg Prod.fst this,congrArg Prod.snd this⟩
  have bet:∀ d,bh M x.Version=some d→mE (R.2.1,R.2.2.1) (d.cd,d.bP):=by
   intro d hd
   rcases h5 with h5 | h5
   ·rw [hd] at h5;simp at h5
   ·rw [hd] at h5;exact h5
  have M8:x.Version≠to:=by
   intro e
   have:=bet ⟨0,0⟩ (by rw [e];exact hM.JN)
   unfold mE at this;simp only at this
   omega
  have hlen:M.length≤(ca M x.Version (⟨R.2.1,R.2.2.1⟩:ao)).length:=by
   cases hg:bh M x.Version with
   | none=>rw [xl hg];omega
   | some d=>rw [Hp hM.sm hg];exact da _
  refine ⟨⟨hM.sm.set _ _,?_,?_,?_,?_⟩,?_,.inr ⟨h1,?_⟩⟩
  ·rw [iH,if_neg M8];exact hM.JN
  ·intro v d hd
   rw [iH] at hd
   split at hd
   ·rename_i e
    subst e
    obtain rfl:=ac hd
    obtain ⟨p,q1,q2,q3⟩:=hM.sound y.Version c h3
    refine ⟨y :: p,(Net.kS.cons _).2 ⟨hy,q1⟩,?_,?_⟩
    ·simp only [ai];omega
    ·rw [Net.Bt]
     show y.cW+_=R.2.2.1
     omega
   ·exact hM.sound v d hd
  ·intro v d hd
   rw [iH] at hd
   split at hd
   ·rename_i e;exact .inr ⟨x,hx,e⟩
   ·exact hM.keys v d hd
  ·intro v d hd
   rw [iH] at hd
   split at hd
   ·rename_i e
    subst e
    obtain rfl:=ac hd
    have hf:=hM.few y.Version c h3
    show R.2.1+1≤_
    cases hg:bh M x.Version with
    | none=>rw [xl hg];omega
    | some d=>
      have hb:=bet d hg
      have hf2:=hM.few x.Version d hg
      unfold mE at hb;simp only at hb
      omega
   ·have:=hM.few v d hd;omega
  ·intro v d hd
   rw [iH]
   split
   ·rename_i e
    subst e
    refine ⟨_,rfl,?_⟩
    have:=bet d hd
    unfold mE at this;unfold Net.tX;simp only at *;omega
   ·exact ⟨d,hd,.inr ⟨rfl,b5 _⟩⟩
  ·exact ⟨⟨R.2.1,R.2.2.1⟩,by rw [iH,if_pos rfl],fun d hd=>bet d hd⟩
def TH (o:Option ao):Nat:=match o with
 | none=>10000000000000
 | some c=>(c.cd * 100000000000+c.bP).toNat
def mu (own:List ak) (M:CM):Nat:=(own.map (fun x=>TH (bh M x.Version))).sum
theorem EX {α:Type} (f g:α→Nat):∀ (l:List α),(∀ x∈l,f x≤g x)→(l.map f).sum≤(l.map g).sum
 | [],_=>by simp
 | x :: r,h=>by
   have h1:=h x bi
   have h2:=EX f g r (fun y hy=>h y (aJ _ hy))
   simp only [a7,d8];omega
theorem QM {α:Type} (f g:α→Nat):∀ (l:List α),(∀ x∈l,f x≤g x)→(∃ x∈l,f x < g x)→(l.map f).sum < (l.map g).sum
 | [],_,h=>by obtain ⟨x,hx,_⟩:=h;cases hx
 | x :: r,h,he=>by
   have h1:=h x bi
   have h2:=EX f g r (fun y hy=>h y (aJ _ hy))
   simp only [a7,d8]
   obtain ⟨y,hy,eI⟩:=he
   rcases al.1 hy with rfl | hy
   ·omega
   ·have:=QM f g r (fun y hy=>h y (aJ _ hy)) ⟨y,hy,eI⟩
    omega
theorem Wu {l:List ak} {m:bj} {to:Version} {M M':CM} (hl:l.length≤8) (gN:iO l) (h:uk l m to M) (h':uk l m to M') {v:Version} (hb:QL M M' v):TH (bh M' v) < TH (bh M v):=by
 obtain ⟨c',h1,h2⟩:=hb
 have b1:=h'.bd hl gN h1
 rw [h1]
 cases hg:bh M v with
 | none=>simp only [TH];omega
 | some c=>
   have b2:=h.bd hl gN hg
   have:=h2 c hg
   unfold mE at this
   simp only [TH] at *
   omega
theorem HK {l:List ak} {m:bj} {to:Version} {M M':CM} (hl:l.length≤8) (gN:iO l) (h:uk l m to M) (h':uk l m to M') (hd:Down M M') (v:Version):TH (bh M' v)≤TH (bh M v):=by
 cases hg:bh M v with
 | none=>
   cases Oi:bh M' v with
   | none=>exact da _
   | some c'=>
     have b1:=h'.bd hl gN Oi
     simp only [TH];omega
 | some c=>
   obtain ⟨c',h1,h2⟩:=hd v c hg
   have b1:=h'.bd hl gN h1
   have b2:=h.bd hl gN hg
   rw [h1]
   unfold Net.tX at h2
   simp only [TH] at *
   omega
structure Round (l:List ak) (m:bj) (to:Version) (M0:CM) (i:Int) (s:CM×Bool):Prop where
 inv:uk l m to s.1
 down:Down M0 s.1
 yes:s.2=true→mu (gL l m) s.1 < mu (gL l m) M0
 no:s.2=false→(∀ v,bh s.1 v=bh M0 v)∧∀ x∈(gL l m).take i.toNat,uZ l m M0 x
theorem CE {l:List ak} {m:bj} {M M':CM} {x:ak} (h:∀ v,bh M' v=bh M v) (hc:uZ l m M' x):uZ l m M x:=by
 unfold uZ Fy at *
 simpa only [h] using hc
theorem JR (l:List ak) (m:bj) (to:Version) (hl:l.length≤8) (gN:iO l) (M0:CM) (hM:uk l m to M0) (nx:List (List ak)) (Kl:nx=(gL l m).map (fun x=>eP l m x.Version)):
 Ok (rI (gL l m) nx M0 false 0) (fun r=>∃ M ag,r=.inl (M,ag)∧Round l m to M0 (gL l m).length (M,ag)):=by
 unfold rI
 have ho:(gL l m).length≤l.length:=bc _ _
 refine Ok.QD (gL l m).length (fun (s:CM×Bool) (i:Int)=>(s.1,s.2,i)) (Round l m to M0) ?_ (M0,false) ⟨hM,Down.refl _,fun h=>(by cases h),fun _=>⟨fun v=>rfl,by simp⟩⟩
 rintro ⟨M,ag⟩ i h0 h1 hr
 show Ok (jP (gL l m) nx M ag i) _
 unfold jP
 split
 ·rename_i hi
  refine Ok.idx h0 hi (fun x Kd zW=>?_)
  unfold tV
  simp only [aa]
  have e2:idx nx i=some (eP l m x.Version):=by rw [Kl,Tk,Kd];rfl
  rw [e2]
  simp only [aa]
  have e5:=JQ l m to hl gN M hr.inv i ⟨h0,by omega⟩ x (ag,((bh M x.Version).getD ⟨0,0⟩).cd,((bh M x.Version).getD ⟨0,0⟩).bP,(bh M x.Version).isSome) (eP l m x.Version) (fun y hy=>uj (qn hy)) (d9 (bc _ _) hl)
  simp only at e5
  rw [e5]
  refine Ok.ret (.inl ⟨(CC l m M ag x,(CB l m M ag x).1),rfl,hi,?_⟩)
  obtain ⟨f1,f2,f3⟩:=LC l m to hl gN M hr.inv ag x zW
  have hle:mu (gL l m) (CC l m M ag x)≤mu (gL l m) M:=EX _ _ _ (fun z _=>HK hl gN hr.inv f1 f2 z.Version)
  have amK:mu (gL l m) M≤mu (gL l m) M0:=EX _ _ _ (fun z _=>HK hl gN hM hr.inv hr.down z.Version)
  refine ⟨f1,hr.down.trans f2,fun hy=>?_,fun hn=>?_⟩
  ·rcases f3 with ⟨g1,g2,g3⟩ | ⟨g1,g2⟩
   ·simp only at hy
    rw [g1] at hy
    have:=hr.yes hy
    simp only at this ⊢
    omega
   ·have:mu (gL l m) (CC l m M ag x) < mu (gL l m) M:=QM _ _ _ (fun z _=>HK hl gN hr.inv f1 f2 z.Version) ⟨x,zW,Wu hl gN hr.inv f1 g2⟩
    simp only;omega
  ·rcases f3 with ⟨g1,g2,g3⟩ | ⟨g1,g2⟩
   ·simp only at hn
    rw [g1] at hn
    obtain ⟨k1,k2⟩:=hr.no hn
    refine ⟨fun v=>(g2 v).trans (k1 v),fun z hz=>?_⟩
    rw [take_succ h0 Kd,ad,af] at hz
    rcases hz with hz | rfl
    ·exact k2 z hz
    ·exact CE k1 g3
   ·simp only at hn;rw [g1] at hn;cases hn
 ·rename_i hi
  have:i=(gL l m).length:=by omega
  subst this
  exact Ok.inr (Ok.ret (.inr ⟨_,rfl,M,ag,rfl,hr⟩))
theorem JS (l:List ak) (m:bj) (to:Version) (hl:l.length≤8) (gN:iO l) (nx:List (List ak)) (Kl:nx=(gL l m).map (fun x=>eP l m x.Version)) (M0:CM) (h0:uk l m to M0):
 Ok (rJ (gL l m) nx M0 true) (fun M=>uk l m to M∧∀ x∈gL l m,uZ l m M x):=by
 unfold rJ
 refine Ok.iter (fun s:CM×Bool=>2 * mu (gL l m) s.1+if s.2=true then 1 else 0) (fun s=>uk l m to s.1∧(s.2=false→∀ x∈gL l m,uZ l m s.1 x)) ?_ (M0,true) ⟨h0,fun h=>by cases h⟩
 rintro ⟨M,ag⟩ ⟨hi,hc⟩
 dsimp only at hi hc ⊢
 unfold lX
 cases ag with
 | false=>
   rw [if_neg (by simp)]
   exact Ok.inr (Ok.ret ⟨hi,hc rfl⟩)
 | true=>
   rw [if_pos rfl]
   refine (JR l m to hl gN M hi nx Kl).mono ?_
   rintro r ⟨M',ag',rfl,hr⟩
   refine ⟨⟨hr.inv,fun hf=>?_⟩,?_⟩
   ·obtain ⟨k1,k2⟩:=hr.no hf
    intro x hx
    have e:(gL l m).take ((gL l m).length:Int).toNat=gL l m:=cn (by omega)
    rw [e] at k2
    exact CE (fun v=>(k1 v).symm) (k2 x hx)
   ·cases ag' with
    | true=>
      have:=hr.yes rfl
      simp only [if_true] at this ⊢;omega
    | false=>
      have hle:mu (gL l m) M'≤mu (gL l m) M:=EX _ _ _ (fun z _=>HK hl gN hi hr.inv hr.down z.Version)
      simp only [if_true,bo,if_false];omega
theorem QN (l:List ak) (m:bj) (to:Version) (hx:pa l) (gN:iO l):Ok (oW l m to) (fun M=>uk l m to M∧(B3 l m).xF (gL l m) to (Fy M)):=by
 have hl:=hx.1
 have ho:(gL l m).length≤l.length:=bc _ _
 have hob:∀ x∈gL l m,Fs x:=fun x h=>hx.2 x (uj h)
 unfold oW vp
 have h:=lz l (fun (s:List ak) (i:Int)=>(s,i)) (fun x:(List ak)×Int=>fb l m to x.1 x.2) (fun acc x=>if Fx m x=true then acc++[x] else acc) (fun i s=>(s.length:Int)≤i) (fun s=>lY m to s)
  (fun s i x h0 h1 hi hv=>by
   have hb:=hx.2 x (vC hi)
   have w1:bE (i+1)=i+1:=bn (by omega) (by omega)
   show fb l m to s i=_∧_
   unfold fb
   rw [if_pos h1,hi]
   simp only [aa]
   rw [HJ hb]
   simp only [aa]
   unfold lV
   by_cases c:Fx m x=true
   ·rw [if_pos c,lx (by simp;omega)]
    refine ⟨by simp [w1,c],by simp [c];omega⟩
   ·rw [if_neg c]
    refine ⟨by simp [w1,c],by simp [c];omega⟩)
  (fun s hv=>by
   show fb l m to s l.length=_
   unfold fb
   rw [if_neg (by omega)]) [] (by simp)
 rw [h,foldl_filter]
 rw [bv]
 show Ok (lY m to (gL l m)) _
 unfold lY
 have ep:Oh ([]:List ak) ((gL l m).length:Int) ((gL l m).length:Int)=some (db (gL l m).length []):=by
  unfold Oh;rw [if_pos (by omega)];simp
 rw [ep]
 simp only [aa]
 unfold vo
 refine Ok.QD (gL l m).length (fun (s:List (List ak)) (i:Int)=>(s,i)) (fun i s=>s=((gL l m).take i.toNat).map (fun x=>eP l m x.Version)++db ((gL l m).length - i.toNat) []) ?_ (db (gL l m).length []) (by simp)
 intro s i h0 h1 hs
 have w1:bE (i+1)=i+1:=bn (by omega) (by omega)
 show Ok (jQ m to (gL l m) s i) _
 unfold jQ
 split
 ·rename_i hi
  refine Ok.idx h0 hi (fun x Kd zW=>?_)
  rw [JO (gL l m) m x.Version hob (by omega),QJ]
  simp only [aa]
  have hlen:s.length=(gL l m).length:=by rw [hs];simp;omega
  refine Ok.idx h0 (by omega) (fun z _ _=>?_)
  refine Ok.ret (.inl ⟨s.set i.toNat (eP l m x.Version),by rw [w1],hi,?_⟩)
  rw [hs,take_succ h0 Kd,b6,List.map_singleton]
  have hk:((gL l m).take i.toNat).length=i.toNat:=by simp;omega
  obtain ⟨k,hk2⟩:∃ k,(gL l m).length - i.toNat=k+1:=⟨(gL l m).length - i.toNat - 1,by omega⟩
  rw [hk2,show (gL l m).length - (i+1).toNat=k by omega,List.replicate_succ,List.set_append_right _ _ (by simp;omega)]
  simp only [bx,hk,Nat.sub_self,List.set_cons_zero,cb,List.singleton_append]
 ·rename_i hi
  have hii:i=(gL l m).length:=by omega
  subst hii
  refine Ok.inr ?_
  have Kl:s=(gL l m).map (fun x=>eP l m x.Version):=by
   rw [hs];simp
  have h0:uk l m to (ca ([]:CM) to ⟨0,0⟩):=by
   have hg:∀ v,bh (ca ([]:CM) to ⟨0,0⟩) v=if to=v then some ⟨0,0⟩ else none:=fun v=>by rw [iH];rfl
   have key:∀ v c,bh (ca ([]:CM) to ⟨0,0⟩) v=some c→v=to∧c=⟨0,0⟩:=by
    intro v c hc
    rw [hg] at hc
    split at hc
    ·rename_i e;exact ⟨e.symm,(ac hc).symm⟩
    ·cases hc
   refine ⟨SM.nil.set _ _,by rw [hg,if_pos rfl],fun v c hc=>?_,fun v c hc=>.inl (key v c hc).1,fun v c hc=>?_⟩
   ·obtain ⟨rfl,rfl⟩:=key v c hc
    exact ⟨[],(Net.kS.nil _).2 rfl,rfl,rfl⟩
   ·obtain ⟨rfl,rfl⟩:=key v c hc
    rw [xl rfl];simp
  refine (JS l m to hl gN s Kl _ h0).mono ?_
  rintro M ⟨hM,hc⟩
  refine .inr ⟨M,rfl,hM,⟨by unfold Fy;rw [hM.JN];rfl,fun v k hk=>?_,fun x hx y hy k hk=>?_⟩⟩
  ·unfold Fy at hk
   obtain ⟨c,h1,rfl⟩:=a6.1 hk
   exact hM.sound v c h1
  ·exact hc x hx y hy k hk
abbrev WS:=(Int×Int×Int)×(Int×Int)×Bool
def v3 (v:Version):Int×Int×Int:=(v.aA,v.aD,v.aF)
def QO (M:CM) (s:WS) (y:ak):WS:=
 match bh M y.Version with
 | none=>s
 | some c=>if s.2.2=false∨mE (c.cd+1,c.bP+y.cW) s.2.1 then (v3 y.Version,(c.cd+1,c.bP+y.cW),true) else s
def WP (M:CM) (done:List ak) (s:WS):Prop:=
 (s.2.2=false∧∀ y∈done,bh M y.Version=none)∨
 (s.2.2=true∧∃ y∈done,∃ c,bh M y.Version=some c∧s.1=v3 y.Version∧s.2.1=(c.cd+1,c.bP+y.cW)∧∀ y'∈done,∀ c',bh M y'.Version=some c'→mE s.2.1 (c'.cd+1,c'.bP+y'.cW)∨(s.2.1=(c'.cd+1,c'.bP+y'.cW)∧ig y.Version y'.Version≤0))
theorem QP (M:CM) (done:List ak) (y:ak) (s:WS) (eI:∀ z∈done,ig z.Version y.Version < 0) (h:WP M done s):WP M (done++[y]) (QO M s y):=by
 unfold QO
 cases hg:bh M y.Version with
 | none=>
   simp only
   rcases h with ⟨h1,h2⟩ | ⟨h1,b,hb,c,h2,h3,h4,h5⟩
   ·refine .inl ⟨h1,fun z hz=>?_⟩
    rcases ad.1 hz with hz | hz
    ·exact h2 z hz
    ·rw [af.1 hz];exact hg
   ·refine .inr ⟨h1,b,cJ _ hb,c,h2,h3,h4,fun z hz c' wR=>?_⟩
    rcases ad.1 hz with hz | hz
    ·exact h5 z hz c' wR
    ·rw [af.1 hz,hg] at wR;cases wR
 | some c0=>
   simp only
   have last:∀ z∈[y],∀ c',bh M z.Version=some c'→(c0.cd+1,c0.bP+y.cW)=(c'.cd+1,c'.bP+z.cW)∧ig y.Version z.Version≤0:=by
    intro z hz c' wR
    obtain rfl:=af.1 hz
    rw [hg] at wR
    obtain rfl:=ac wR
    exact ⟨rfl,by rw [Hu.zero];omega⟩
   split
   ·rename_i hc
    refine .inr ⟨rfl,y,by simp,c0,hg,rfl,rfl,fun z hz c' wR=>?_⟩
    rcases ad.1 hz with hz | hz
    ·rcases h with ⟨h1,h2⟩ | ⟨h1,b,hb,c,h2,h3,h4,h5⟩
     ·rw [h2 z hz] at wR;cases wR
     ·left
      show mE (c0.cd+1,c0.bP+y.cW) (c'.cd+1,c'.bP+z.cW)
      rcases hc with hc | hc
      ·rw [h1] at hc;cases hc
      ·have:=h5 z hz c' wR
       unfold mE at *
       simp only at *
       rcases this with this | ⟨this,_⟩
       ·omega
       ·rw [this] at hc;exact hc
    ·exact .inr (last z hz c' wR)
   ·rename_i hc
    rw [not_or] at hc
    have hs:s.2.2=true:=by simpa using hc.1
    rcases h with ⟨h1,h2⟩ | ⟨h1,b,hb,c,h2,h3,h4,h5⟩
    ·rw [hs] at h1;cases h1
    ·refine .inr ⟨h1,b,cJ _ hb,c,h2,h3,h4,fun z hz c' wR=>?_⟩
     rcases ad.1 hz with hz | hz
     ·exact h5 z hz c' wR
     ·obtain ⟨e1,e2⟩:=last z hz c' wR
      rw [← e1]
      have k:=hc.2
      by_cases q:mE s.2.1 (c0.cd+1,c0.bP+y.cW)
      ·exact .inl q
      ·right
       refine ⟨?_,?_⟩
       ·unfold mE at k q
        refine Prod.ext ?_ ?_<;>omega
       ·have hzy:z=y:=af.1 hz
        rw [hzy]
        exact d5 (eI b hb)
theorem MG (M:CM):∀ (rest done:List ak) (s:WS),(done++rest).Pairwise (fun a b=>ig a.Version b.Version < 0)→WP M done s→WP M (done++rest) (rest.foldl (QO M) s)
 | [],done,s,_,h=>by simpa using h
 | y :: r,done,s,hp,h=>by
   have cQ:(done++[y]++r).Pairwise (fun a b=>ig a.Version b.Version < 0):=by simpa using hp
   have:=MG M r (done++[y]) (QO M s y) cQ (QP M done y s (fun z hz=>by
    rw [cp] at hp
    exact hp.2.2 z hz y bi) h)
   simpa using this
theorem JT (l:List ak) (m:bj) (to:Version) (hx:pa l) (gN:iO l) (M:CM) (hM:uk l m to M) (v:Version) (hv:v≠to) (out:List Version) (ho:out.length≤1000):
 (dp l m to M out v.aA v.aD v.aF=some (.inr ([],false))∧∀ y∈eP l m v,bh M y.Version=none)∨
 (∃ x∈eP l m v,∃ c,bh M x.Version=some c∧dp l m to M out v.aA v.aD v.aF=some (.inl (out++[x.Version],x.Version.aA,x.Version.aD,x.Version.aF))∧
  ∀ y∈eP l m v,∀ c',bh M y.Version=some c'→mE (c.cd+1,c.bP+x.cW) (c'.cd+1,c'.bP+y.cW)∨((c.cd+1,c.bP+x.cW)=(c'.cd+1,c'.bP+y.cW)∧ig x.Version y.Version≤0)):=by
 have hl:=hx.1
 have hpw:(eP l m v).Pairwise (fun a b=>ig a.Version b.Version < 0):=List.Pairwise.filter _ gN.2
 have hlen:(eP l m v).length≤l.length:=bc _ _
 have W:=MG M (eP l m v) [] ((0,0,0),(0,0),false) (by simpa using hpw) (.inl ⟨rfl,fun y hy=>(by cases hy)⟩)
 rw [bv] at W
 have run:dp l m to M out v.aA v.aD v.aF=nY out ((eP l m v).foldl (QO M) ((0,0,0),(0,0),false)).1.1 ((eP l m v).foldl (QO M) ((0,0,0),(0,0),false)).1.2.1 ((eP l m v).foldl (QO M) ((0,0,0),(0,0),false)).1.2.2 ((eP l m v).foldl (QO M) ((0,0,0),(0,0),false)).2.2:=by
  unfold dp
  rw [if_pos hv,JO l m v hx.2 (by omega)]
  simp only [aa]
  unfold xy
  exact lz (eP l m v) (fun (s:WS) (i:Int)=>(s.1.1,s.1.2.1,s.1.2.2,s.2.1.1,s.2.1.2,s.2.2,i)) (fun x:Int×Int×Int×Int×Int×Bool×Int=>gK M out (eP l m v) x.1 x.2.1 x.2.2.1 x.2.2.2.1 x.2.2.2.2.1 x.2.2.2.2.2.1 x.2.2.2.2.2.2) (QO M) (fun _ _=>True) (fun s=>nY out s.1.1 s.1.2.1 s.1.2.2 s.2.2)
   (fun s i y h0 h1 hi _=>by
    refine ⟨?_,trivial⟩
    have w1:bE (i+1)=i+1:=bn (by omega) (by omega)
    have hy:=(gN.1 y (uj (qn (vC hi)))).size
    obtain ⟨⟨a,b,d⟩,⟨k,z⟩,is⟩:=s
    show gK M out (eP l m v) a b d k z is i=_
    unfold gK
    rw [if_pos h1,hi]
    simp only [aa]
    unfold tV QO
    cases hg:bh M y.Version with
    | none=>
      simp only [c6,cv,aa,bo,if_false]
      unfold iM jV
      rw [if_neg (by simp),w1]
    | some c=>
      have hb:=hM.bd hl gN hg
      have v1:bE (c.cd+1)=c.cd+1:=bn (by omega) (by omega)
      have v2:bE (c.bP+y.cW)=c.bP+y.cW:=bn (by omega) (by omega)
      simp only [b9,cA,aa,if_true,v1,v2]
      cases is with
      | false=>
        simp only [c7,if_true,true_or]
        unfold iM jV
        rw [if_pos rfl,v1,v2,w1];rfl
      | true=>
        simp only [c8,bo,if_false,d7,false_or]
        rw [Gu]
        simp only [aa]
        rw [Gv]
        unfold iM jV
        simp only [v1,v2,w1]
        by_cases hc:mE (c.cd+1,c.bP+y.cW) (k,z)
        ·rw [if_pos (by simpa using hc)];simp [hc,v3]
        ·rw [if_neg (by simpa using hc)];simp [hc])
   (fun s _=>by
    show gK M out (eP l m v) s.1.1 s.1.2.1 s.1.2.2 s.2.1.1 s.2.1.2 s.2.2 (eP l m v).length=_
    unfold gK
    rw [if_neg (by omega)]) ((0,0,0),(0,0),false) trivial
 rw [run]
 generalize hR:(eP l m v).foldl (QO M) ((0,0,0),(0,0),false)=R at W
 unfold nY
 rcases W with ⟨h1,h2⟩ | ⟨h1,x,zW,c,h2,h3,h4,h5⟩
 ·left
  rw [h1]
  exact ⟨rfl,h2⟩
 ·right
  refine ⟨x,zW,c,h2,?_,fun y hy c' wR=>?_⟩
  ·rw [h1,if_neg (by simp),h3]
   show (app out [(⟨x.Version.aA,x.Version.aD,x.Version.aF⟩:Version)]).bind _=_
   rw [lx (by simp;omega)];rfl
  ·have:=h5 y hy c' wR
   rw [h4] at this;exact this
theorem Gw (l:List ak) (m:bj) (to:Version) (hx:pa l) (gN:iO l) (M:CM) (hM:uk l m to M) (C:(B3 l m).xF (gL l m) to (Fy M)):∀ (n:Nat) (v:Version) (k:ao) (out:List Version),(v=to∨∃ x∈gL l m,x.Version=v)→bh M v=some k→k.cd≤n→out.length+n≤1000→
 ∃ p,Net.nN (B3 l m) (Fy M) to v p∧iN l m to M out v.aA v.aD v.aF=some (out++p.map ak.Version,true):=by
 intro n
 induction n with
 | zero=>
   intro v k out hv hk hn ho
   have e:v=to:=by
    obtain ⟨p,h1,h2,h3⟩:=hM.sound v k hk
    have:p=[]:=d3.1 (by omega)
    subst this
    exact (Net.kS.nil _).1 h1
   subst e
   refine ⟨[],.nil,?_⟩
   unfold iN
   rw [iter_eq]
   show (dp l m v M out v.aA v.aD v.aF).bind _=_
   unfold dp
   rw [if_neg (by simp),bb];simp
 | succ n ih=>
   intro v k out hv hk hn ho
   unfold iN
   by_cases e:v=to
   ·subst e
    refine ⟨[],.nil,?_⟩
    rw [iter_eq]
    show (dp l m v M out v.aA v.aD v.aF).bind _=_
    unfold dp
    rw [if_neg (by simp),bb];simp
   ·obtain ⟨p,h1,h2,h3⟩:=hM.sound v k hk
    cases p with
    | nil=>exact absurd ((Net.kS.nil _).1 h1) e
    | cons y r=>
      rw [Net.kS.cons] at h1
      have Xh:=qn h1.1
      obtain ⟨ky,h4,h5⟩:=C.low (Bu gN) r y.Version (.inr ⟨y,Xh,rfl⟩) h1.2
      unfold Fy at h4
      obtain ⟨cy,h6,h7⟩:=a6.1 h4
      rcases JT l m to hx gN M hM v e out (by omega) with ⟨s1,s2⟩ | ⟨x,zW,c,s1,s2,s3⟩
      ·rw [s2 y h1.1] at h6;cases h6
      ·have Wt:=qn zW
       have hle:c.cd≤n:=by
        have:=s3 y h1.1 cy h6
        rw [← h7] at h5
        unfold Net.tX at h5
        unfold mE at this
        simp only [ai,dd] at *
        omega
       obtain ⟨p',g1,g2⟩:=ih x.Version c (out++[x.Version]) (.inr ⟨x,Wt,rfl⟩) s1 hle (by simp;omega)
       refine ⟨x :: p',.cons e zW (by unfold Fy;show cK _ (bh M x.Version)=_;rw [s1];rfl) (fun z hz k' Rn=>?_) g1,?_⟩
       ·unfold Fy at Rn
        obtain ⟨cz,h8,rfl⟩:=a6.1 Rn
        have:=s3 z hz cz h8
        unfold mE at this
        simp only [dd] at this ⊢
        show _∨(_∧(c.bP+x.cW < cz.bP+z.cW∨(c.bP+x.cW=cz.bP+z.cW∧ig x.Version z.Version≤0)))
        omega
       ·rw [iter_eq]
        show (dp l m to M out v.aA v.aD v.aF).bind _=_
        rw [s2]
        simp only [aa,bD]
        unfold iN at g2
        rw [g2];simp
theorem QQ (l:List ak) (m:bj) (fr to:Version) (hx:pa l) (gN:iO l) (M:CM) (hM:uk l m to M) (C:(B3 l m).xF (gL l m) to (Fy M)):
 (∃ p,(B3 l m).Fw fr to p∧p.length≤l.length∧lZ l m fr to M=some (p.map ak.Version,true))∨((∀ p,¬ (B3 l m).kS fr p to)∧lZ l m fr to M=some ([],false)):=by
 unfold lZ
 have hg:=Bu (m:=m) gN
 have fin:∀ {p},Net.nN (B3 l m) (Fy M) to fr p→(B3 l m).Fw fr to p∧p.length≤l.length:=fun g=>⟨(Net.nN.Ao hg C g).1,d9 (Net.nN.len hg C g) (bc _ _)⟩
 by_cases e:fr=to
 ·subst e
  obtain ⟨p,h1,h2⟩:=Gw l m fr hx gN M hM C 0 fr ⟨0,0⟩ [] (.inl rfl) hM.JN (by simp) (by simp)
  exact .inl ⟨p,(fin h1).1,(fin h1).2,by rw [h2];simp⟩
 ·rcases JT l m to hx gN M hM fr e [] (by simp) with ⟨s1,s2⟩ | ⟨x,zW,c,s1,s2,s3⟩
  ·right
   refine ⟨fun p hp=>?_,?_⟩
   ·cases p with
    | nil=>exact e ((Net.kS.nil _).1 hp)
    | cons y r=>
      rw [Net.kS.cons] at hp
      obtain ⟨ky,h4,h5⟩:=C.low hg r y.Version (.inr ⟨y,qn hp.1,rfl⟩) hp.2
      unfold Fy at h4
      obtain ⟨cy,h6,h7⟩:=a6.1 h4
      rw [s2 y hp.1] at h6;cases h6
   ·unfold iN
    rw [iter_eq]
    show (dp l m to M [] fr.aA fr.aD fr.aF).bind _=_
    rw [s1];rfl
  ·left
   have hb:=hM.bd hx.1 gN s1
   obtain ⟨p',g1,g2⟩:=Gw l m to hx gN M hM C 8 x.Version c ([]++[x.Version]) (.inr ⟨x,qn zW,rfl⟩) s1 (by omega) (by simp)
   have G:Net.nN (B3 l m) (Fy M) to fr (x :: p'):=.cons e zW (by unfold Fy;show cK _ (bh M x.Version)=_;rw [s1];rfl) (fun z hz k' Rn=>by
    unfold Fy at Rn
    obtain ⟨cz,h8,rfl⟩:=a6.1 Rn
    have:=s3 z hz cz h8
    unfold mE at this
    simp only [dd] at this ⊢
    show _∨(_∧(c.bP+x.cW < cz.bP+z.cW∨(c.bP+x.cW=cz.bP+z.cW∧ig x.Version z.Version≤0)))
    omega) g1
   refine ⟨x :: p',(fin G).1,(fin G).2,?_⟩
   unfold iN
   rw [iter_eq]
   show (dp l m to M [] fr.aA fr.aD fr.aF).bind _=_
   rw [s2]
   simp only [aa,bD]
   unfold iN at g2
   rw [g2];simp
abbrev TM:=List (Version×aE)
theorem TI (a b:List Version) (ha:a.length≤100000) (hb:b.length≤100000):bY a b (fun y0 y1=>ee y0 y1)=some (od ig a b):=by
 unfold bY
 have key:∀ (n:Nat) (i:Int),0≤i→i+n=a.length→i≤b.length→ct a b (fun y0 y1=>ee y0 y1) i=some (od ig (a.drop i.toNat) (b.drop i.toNat)):=by
  intro n
  induction n with
  | zero=>
    intro i h0 hn Nc
    have e1:a.drop i.toNat=[]:=bk (by omega)
    unfold ct
    rw [iter_eq,bG,if_neg (by omega),bb,e1]
    unfold dq
    split
    ·have eI:i.toNat < b.length:=by omega
     rw [eg eI];rfl
    ·have e2:b.drop i.toNat=[]:=bk (by omega)
     rw [e2];rfl
  | succ n ih=>
    intro i h0 hn Nc
    obtain ⟨x,hx,_,hd⟩:=gj a h0 (by omega)
    unfold ct
    rw [iter_eq,bG,if_pos (by omega),hx]
    simp only [aa]
    by_cases YK:(b.length:Int)≤i
    ·rw [if_pos YK,bb,hd,bk (l:=b) (by omega)];rfl
    ·obtain ⟨y,hy,_,hd2⟩:=gj b h0 (by omega)
     rw [if_neg YK,hy]
     simp only [aa]
     rw [uw]
     simp only [aa]
     rw [hd,hd2,oD]
     by_cases hc:ig x y=0
     ·rw [if_neg (show ¬ ig x y≠0 from fun k=>k hc),if_neg (show ¬ ig x y≠0 from fun k=>k hc),bn (by omega) (by omega)]
      simp only [aa,bD]
      exact ih (i+1) (by omega) (by omega) (by omega)
     ·rw [if_pos hc,if_pos hc,bb]
 have:=key a.length 0 (by omega) (by omega) (by omega)
 simpa using this
def QR (a b:aE):Prop:=a.bP < b.bP∨(a.bP=b.bP∧od ig a.oG b.oG < 0)
def MH (a b:aE):Prop:=a.bP < b.bP∨(a.bP=b.bP∧od ig a.oG b.oG≤0)
instance (a b:aE):Decidable (QR a b):=by unfold QR;exact inferInstance
theorem vG:(⟨ak.Version,ak.cW,fun _=>[],ig⟩:Net Version ak).Good []:=
 ⟨fun a b=>Bj a b,fun a b=>ze,fun a b c=>EW,fun v x hx=>(by cases hx),fun x hx=>(by cases hx)⟩
theorem QS (a b:List Version):od ig b a=- od ig a b:=vG.EU _ a b
theorem TJ (a b:List Version) (h:od ig a b=0):a=b:=vG.B2 _ a b h
theorem TK (a:List Version):od ig a a=0:=vG.B1 _ a
theorem Y1 {a b c:List Version} (h1:od ig a b≤0) (h2:od ig b c≤0):od ig a c≤0:=vG.HI _ a b c h1 h2
theorem QT (a:aE):MH a a:=.inr ⟨rfl,by rw [TK];omega⟩
theorem Wv {a b c:aE} (h1:MH a b) (h2:MH b c):MH a c:=by
 unfold MH at *
 rcases h1 with h1 | ⟨h1,h3⟩
 ·left;omega
 ·rcases h2 with h2 | ⟨h2,h4⟩
  ·left;omega
  ·exact .inr ⟨by omega,Y1 h3 h4⟩
theorem N3 {a b:aE} (h:QR a b):MH a b:=by
 unfold QR MH at *;omega
theorem LD {a b:aE} (h:¬ QR a b):MH b a:=by
 have:=QS a.oG b.oG
 unfold QR MH at *;omega
theorem QU {a b:aE} (h1:MH a b) (h2:MH b a):a=b:=by
 have:=QS a.oG b.oG
 unfold MH at h1 h2
 have e1:a.bP=b.bP:=by omega
 have e2:a.oG=b.oG:=TJ _ _ (by omega)
 obtain ⟨w,s⟩:=a
 obtain ⟨w',s'⟩:=b
 simp only at e1 e2;rw [e1,e2]
def E1 (t:aE) (x:ak):aE:=⟨t.oG++[x.Version],t.bP+x.cW⟩
def TL (t:aE) (D:TM) (x:ak):TM:=
 match bh D x.Version with
 | none=>ca D x.Version (E1 t x)
 | some o=>if QR (E1 t x) o then ca D x.Version (E1 t x) else D
structure PD (cs:List (Version×aE)) (D:TM):Prop where
 sm:SM D
 sound:∀ v t,bh D v=some t→(v,t)∈cs
 Ao:∀ v c,(v,c)∈cs→∃ t,bh D v=some t∧MH t c
theorem PD.nil:PD [] []:=⟨SM.nil,fun v t h=>(by rw [yz] at h;cases h),fun v c h=>(by cases h)⟩
theorem PD.step {cs:List (Version×aE)} {D:TM} (h:PD cs D) (t:aE) (x:ak):PD (cs++[(x.Version,E1 t x)]) (TL t D x):=by
 have put:(∀ o,bh D x.Version=some o→MH (E1 t x) o)→PD (cs++[(x.Version,E1 t x)]) (ca D x.Version (E1 t x)):=by
  intro hb
  refine ⟨h.sm.set _ _,fun v u hu=>?_,fun v c hc=>?_⟩
  ·rw [iH] at hu
   split at hu
   ·rename_i e;subst e;obtain rfl:=ac hu;simp
   ·exact cJ _ (h.sound v u hu)
  ·rw [iH]
   split
   ·rename_i e
    subst e
    refine ⟨_,rfl,?_⟩
    rcases ad.1 hc with hc | hc
    ·obtain ⟨o,h1,h2⟩:=h.Ao _ c hc
     exact Wv (hb o h1) h2
    ·rw [(bz (af.1 hc)).2];exact QT _
   ·rename_i ne
    rcases ad.1 hc with hc | hc
    ·exact h.Ao v c hc
    ·exact absurd (bz (af.1 hc)).1.symm ne
 unfold TL
 cases hg:bh D x.Version with
 | none=>exact put (fun o ho=>by rw [hg] at ho;cases ho)
 | some o=>
   simp only
   split
   ·rename_i eI
    exact put (fun o' ho=>by rw [hg] at ho;obtain rfl:=ac ho;exact N3 eI)
   ·rename_i hn
    refine ⟨h.sm,fun v u hu=>cJ _ (h.sound v u hu),fun v c hc=>?_⟩
    rcases ad.1 hc with hc | hc
    ·exact h.Ao v c hc
    ·obtain ⟨rfl,rfl⟩:=bz (af.1 hc)
     exact ⟨o,hg,LD hn⟩
theorem PD.fold (t:aE):∀ (xs:List ak) (cs:List (Version×aE)) (D:TM),PD cs D→PD (cs++xs.map (fun x=>(x.Version,E1 t x))) (xs.foldl (TL t) D)
 | [],cs,D,h=>by simpa using h
 | x :: r,cs,D,h=>by
   have:=PD.fold t r _ _ (h.step t x)
   simpa using this
theorem PD.unique {cs lA:List (Version×aE)} {D D':TM} (h:PD cs D) (h':PD lA D') (hm:∀ e,e∈cs↔e∈lA):D=D':=by
 refine Dj h.sm h'.sm (fun v=>?_)
 cases hg:bh D v with
 | none=>
   cases Oi:bh D' v with
   | none=>rfl
   | some t'=>
     obtain ⟨t,h1,_⟩:=h.Ao v t' ((hm _).2 (h'.sound v t' Oi))
     rw [hg] at h1;cases h1
 | some t=>
   obtain ⟨t',h1,h2⟩:=h'.Ao v t ((hm _).1 (h.sound v t hg))
   obtain ⟨t2,h3,h4⟩:=h.Ao v t' ((hm _).2 (h'.sound v t' h1))
   rw [hg] at h3;obtain rfl:=ac h3
   rw [h1,QU h4 h2]
def vF (l:List ak) (m:bj) (es:TM):List (Version×aE):=es.flatMap (fun e=>(eP l m e.1).map (fun x=>(x.Version,E1 e.2 x)))
def lvl (l:List ak) (m:bj) (B:TM):TM:=B.foldl (fun D e=>(eP l m e.1).foldl (TL e.2) D) []
theorem QW (l:List ak) (m:bj):∀ (es done:TM) (D:TM),PD (vF l m done) D→PD (vF l m (done++es)) (es.foldl (fun D e=>(eP l m e.1).foldl (TL e.2) D) D)
 | [],done,D,h=>by simpa using h
 | e :: r,done,D,h=>by
   have h1:=PD.fold e.2 (eP l m e.1) _ _ h
   have h2:vF l m done++(eP l m e.1).map (fun x=>(x.Version,E1 e.2 x))=vF l m (done++[e]):=by
    unfold vF;simp
   rw [h2] at h1
   have:=QW l m r (done++[e]) _ h1
   simpa using this
theorem QX (l:List ak) (m:bj) (B:TM):PD (vF l m B) (lvl l m B):=by
 have:=QW l m B [] [] PD.nil
 unfold lvl
 simpa using this
theorem TN (l:List ak) (m:bj) (hx:pa l) (gN:iO l) (e:Version×aE) (he:e.2.oG.length≤1000∧0≤e.2.bP∧e.2.bP≤1000000000000) (D:TM) (hD:∀ v t,bh D v=some t→t.oG.length≤1001):
 sI l m e D=some (.inl ((eP l m e.1).foldl (TL e.2) D)):=by
 have hl:=hx.1
 have hlen:(eP l m e.1).length≤l.length:=bc _ _
 unfold sI
 rw [TF l m e.1 hx.2 (by omega)]
 simp only [aa]
 unfold Eg
 exact lz (eP l m e.1) (fun (s:TM) (i:Int)=>(s,i)) (fun x:TM×Int=>nL e (eP l m e.1) x.1 x.2) (TL e.2) (fun _ s=>∀ v t,bh s v=some t→t.oG.length≤1001) (fun s=>some (.inl s))
  (fun s i x h0 h1 hi hv=>by
   have w1:bE (i+1)=i+1:=bn (by omega) (by omega)
   have zW:=qn (vC hi)
   have jc:=(gN.1 x (uj zW)).size
   have v2:bE (e.2.bP+x.cW)=e.2.bP+x.cW:=bn (by omega) (by omega)
   have hlc:(E1 e.2 x).oG.length≤1001:=by simp [E1];omega
   constructor
   ·show nL e (eP l m e.1) s i=_
    unfold nL
    rw [if_pos h1,hi]
    simp only [aa]
    have zy:eD e.2.oG=some e.2.oG:=by
     unfold eD;rw [lx (by simp;omega)];simp
    rw [zy]
    simp only [aa]
    rw [lx (by simp;omega)]
    simp only [aa]
    unfold tV TL
    have put:∀ c,c=true→mx e s i x (e.2.oG++[x.Version]) c=some (.inl (ca s x.Version (E1 e.2 x),i+1)):=by
     intro c hc
     unfold mx sH
     rw [if_pos hc,v2,w1];rfl
    have skip:∀ c,c=false→mx e s i x (e.2.oG++[x.Version]) c=some (.inl (s,i+1)):=by
     intro c hc
     unfold mx sH
     rw [if_neg (by simp [hc]),w1]
    cases hg:bh s x.Version with
    | none=>
      simp only [c6,cv,aa,c7,if_true]
      exact put true rfl
    | some o=>
      simp only [b9,cA,aa,c8,bo,if_false,v2]
      by_cases c1:e.2.bP+x.cW < o.bP
      ·rw [if_pos c1,if_pos (show QR (E1 e.2 x) o from .inl c1)]
       exact put true rfl
      ·rw [if_neg c1]
       by_cases c2:e.2.bP+x.cW=o.bP
       ·rw [if_pos c2,TI _ _ (by simp;omega) (by have:=hv _ o hg;omega)]
        simp only [aa]
        by_cases c3:od ig (e.2.oG++[x.Version]) o.oG < 0
        ·rw [if_pos (show QR (E1 e.2 x) o from .inr ⟨c2,c3⟩)]
         exact put _ (by simp [c3])
        ·rw [if_neg (show ¬ QR (E1 e.2 x) o from fun k=>k.elim c1 (fun k=>c3 k.2))]
         exact skip _ (by simp [c3])
       ·rw [if_neg c2,if_neg (show ¬ QR (E1 e.2 x) o from fun k=>k.elim c1 (fun k=>c2 k.1))]
        exact skip false rfl
   ·intro v t ht
    unfold TL at ht
    have put:bh (ca s x.Version (E1 e.2 x)) v=some t→t.oG.length≤1001:=by
     intro ht
     rw [iH] at ht
     split at ht
     ·obtain rfl:=ac ht;exact hlc
     ·exact hv v t ht
    cases hg:bh s x.Version with
    | none=>rw [hg] at ht;exact put ht
    | some o=>
      rw [hg] at ht
      simp only at ht
      split at ht
      ·exact put ht
      ·exact hv v t ht)
  (fun s hv=>by
   show nL e (eP l m e.1) s (eP l m e.1).length=_
   unfold nL
   rw [if_neg (by omega)]) D hD
theorem TO (l:List ak) (m:bj) (hx:pa l) (gN:iO l) (B:TM) (hB:∀ e∈B,e.2.oG.length≤1000∧0≤e.2.bP∧e.2.bP≤1000000000000) (k:Int) (hk:0≤k∧k≤1000):
 Ab l m B k []=some (.inl (lvl l m B,k+1)):=by
 unfold Ab
 refine NF _ _ B [] _ (fun done D=>PD (vF l m done) D) PD.nil ?_ ?_
 ·intro done e rest D hp hD
  left
  have lK:e∈B:=hp.mem_iff.1 (by simp)
  have nU:∀ z∈done,z∈B:=fun z hz=>hp.mem_iff.1 (by simp [hz])
  refine ⟨_,TN l m hx gN e (hB e lK) D (fun v t ht=>?_),?_⟩
  ·have:=hD.sound v t ht
   unfold vF at this
   obtain ⟨z,hz,h1⟩:=cc.1 this
   obtain ⟨x,hx2,h2⟩:=ap.1 h1
   have hz2:=(hB z (nU z hz)).1
   rw [← (bz h2).2]
   simp [E1];omega
  ·have h1:=PD.fold e.2 (eP l m e.1) _ _ hD
   have h2:vF l m done++(eP l m e.1).map (fun x=>(x.Version,E1 e.2 x))=vF l m (done++[e]):=by
    unfold vF;simp
   rw [h2] at h1
   exact h1
 ·intro p D hp hD
  unfold uI
  rw [bn (by omega) (by omega)]
  have:D=lvl l m B:=hD.unique (QX l m B) (fun e=>by
   unfold vF
   rw [cc,cc]
   constructor
   ·rintro ⟨z,h1,h2⟩;exact ⟨z,hp.mem_iff.1 h1,h2⟩
   ·rintro ⟨z,h1,h2⟩;exact ⟨z,hp.mem_iff.2 h1,h2⟩)
  rw [this]
def On (B:TM) (v:Version):Option (List Version×Int):=(bh B v).map (fun t=>(t.oG,t.bP))
theorem QY (l:List ak) (m:bj) (gN:iO l) (fr:Version) (k:Nat) (B:TM) (hs:SM B) (L:Net.Level (B3 l m) fr k (On B)):SM (lvl l m B)∧Net.Level (B3 l m) fr (k+1) (On (lvl l m B)):=by
 have P:=QX l m B
 have Zn:∀ v t,(v,t)∈vF l m B↔∃ u s,(u,s)∈B∧∃ x∈eP l m u,x.Version=v∧t=E1 s x:=by
  intro v t
  unfold vF
  rw [cc]
  constructor
  ·rintro ⟨⟨u,s⟩,h1,h2⟩
   obtain ⟨x,h3,h4⟩:=ap.1 h2
   exact ⟨u,s,h1,x,h3,(bz h4).1,(bz h4).2.symm⟩
  ·rintro ⟨u,s,h1,x,h2,rfl,rfl⟩
   exact ⟨(u,s),h1,ap.2 ⟨x,h2,rfl⟩⟩
 refine ⟨P.sm,Net.Level.next (own:=gL l m) (Bu gN) L (fun v t ht=>?_) (fun u s x hu zW=>?_)⟩
 ·unfold On at ht
  obtain ⟨t',h1,rfl⟩:=a6.1 ht
  obtain ⟨u,s,h2,x,h3,h4,rfl⟩:=(Zn v t').1 (P.sound v t' h1)
  exact ⟨u,(s.oG,s.bP),x,by unfold On;rw [hs.Di.2 h2];rfl,h3,h4,rfl⟩
 ·unfold On at hu
  obtain ⟨s',h1,rfl⟩:=a6.1 hu
  obtain ⟨t,h2,h3⟩:=P.Ao x.Version (E1 s' x) ((Zn _ _).2 ⟨u,s',hs.Di.1 h1,x,zW,rfl,rfl⟩)
  exact ⟨(t.oG,t.bP),by unfold On;show cK _ (bh (lvl l m B) x.Version)=_;rw [h2];rfl,h3⟩
theorem JU (l:List ak) (m:bj) (fr to:Version) (hx:pa l) (gN:iO l):∀ (j:Nat) (k:Nat) (B:TM),k+j=l.length+1→SM B→Net.Level (B3 l m) fr k (On B)→(∀ q,(B3 l m).kS fr q to→k≤q.length)→
 (∃ p,(B3 l m).Fw fr to p∧sJ l m to B k=some (p.map ak.Version,true))∨((∀ q,(B3 l m).kS fr q to→l.length+1≤q.length)∧sJ l m to B k=some ([],false)):=by
 have hl:=hx.1
 have wl:bE ((l.length:Int)+1)=(l.length:Int)+1:=bn (by omega) (by omega)
 intro j
 induction j with
 | zero=>
   intro k B hk hs L hq
   right
   refine ⟨fun q h=>by have:=hq q h;omega,?_⟩
   unfold sJ
   rw [iter_eq]
   show (mz l m to B k).bind _=_
   unfold mz
   rw [wl,if_neg (by omega)];rfl
 | succ j ih=>
   intro k B hk hs L hq
   unfold sJ
   rw [iter_eq]
   show (∃ p,_∧(mz l m to B k).bind _=_)∨(_∧(mz l m to B k).bind _=_)
   have e:mz l m to B k=match bh B to with
    | some t=>some (.inr (t.oG,true))
    | none=>some (.inl (lvl l m B,(k:Int)+1)):=by
    unfold mz
    rw [wl,if_pos (by omega)]
    unfold tV
    simp only [aa]
    cases hg:bh B to with
    | some t=>rfl
    | none=>
      simp only [cv,bo,if_false]
      exact TO l m hx gN B (fun e he=>by
       obtain ⟨p,h1,h2,h3,h4⟩:=L.sound e.1 (e.2.oG,e.2.bP) (by unfold On;rw [hs.Di.2 he];rfl)
       have:=LB gN.1 (Bv h1)
       simp only at h3 h4
       rw [h3,h4]
       simp only [bx]
       omega) k ⟨by omega,by omega⟩
   rw [e]
   cases hg:bh B to with
   | some t=>
     left
     obtain ⟨p,h1,h2,h3,h4⟩:=L.sound to (t.oG,t.bP) (by unfold On;rw [hg];rfl)
     refine ⟨p,⟨h1,fun q hw=>?_⟩,?_⟩
     ·have h5:=hq q hw
      by_cases h6:q.length=k
      ·obtain ⟨t',h7,h8⟩:=L.Ao to q hw h6
       unfold On at h7
       rw [hg] at h7
       obtain rfl:=ac h7
       simp only at h3 h4 h8
       unfold Net.Le
       rw [← h3,← h4]
       right
       exact ⟨by omega,h8⟩
      ·left;omega
     ·simp only at h3 ⊢
      rw [h3];rfl
   | none=>
     obtain ⟨g1,g2⟩:=QY l m gN fr k B hs L
     have:=ih (k+1) (lvl l m B) (by omega) g1 g2 (fun q hw=>by
      have h5:=hq q hw
      by_cases h6:q.length=k
      ·obtain ⟨t',h7,h8⟩:=L.Ao to q hw h6
       unfold On at h7
       rw [hg] at h7;cases h7
      ·omega)
     simp only [aa,bD]
     unfold sJ at this
     exact_mod_cast this
theorem QZ (l:List ak) (m:bj) (fr to:Version) (hx:pa l) (gN:iO l):
 (∃ p,(B3 l m).Fw fr to p∧vw l m fr to=some (p.map ak.Version,true))∨((∀ q,(B3 l m).kS fr q to→l.length+1≤q.length)∧vw l m fr to=some ([],false)):=by
 unfold vw
 have hg:∀ v,bh (ca ([]:TM) fr ⟨[],0⟩) v=if fr=v then some ⟨[],0⟩ else none:=fun v=>by rw [iH];rfl
 have:=JU l m fr to hx gN (l.length+1) 0 (ca ([]:TM) fr ⟨[],0⟩) (by omega) (SM.nil.set _ _) (Net.Level.zero fr _ (fun v=>by
  unfold On
  rw [hg]
  by_cases e:fr=v
  ·rw [if_pos e,if_pos e.symm];rfl
  ·rw [if_neg e,if_neg (fun k=>e k.symm)];rfl)) (fun q _=>by omega)
 exact this
abbrev WM:=List (bj×List (Version×ao))
def yP (im:List ak) (to:Version) (K:WM):Prop:=∀ m M,bh K m=some M→uk im m to M∧(B3 im m).xF (gL im m) to (Fy M)
theorem yP.nil (im:List ak) (to:Version):yP im to []:=fun m M h=>by rw [yz] at h;cases h
theorem yP.set {im:List ak} {to:Version} {K:WM} (h:yP im to K) {m:bj} {M:List (Version×ao)} (hM:uk im m to M∧(B3 im m).xF (gL im m) to (Fy M)):yP im to (ca K m M):=fun k M' hk=>by
 rw [iH] at hk
 split at hk
 ·rename_i he
  obtain rfl:=ac hk
  subst he;exact hM
 ·exact h k M' hk
noncomputable def C4 (im:List ak) (to:Version) (d:DeviceS) (v:Version):Option cx:=
 match vw im d.Model v to with
 | some (w0 :: _,true)=>(im.find? fun x=>decide (x.Version=w0)).map fun x=>⟨d.Key,w0,x.cW⟩
 | _=>none
theorem N4 (im:List ak) (hl:(im.length:Int)≤1000) (w0:Version) (r:List Version):cr im (fun y0=>dP y0 (w0 :: r))=some (lI (fun x:ak=>decide (x.Version=w0)) im 0):=by
 refine qm im (fun y0=>dP y0 (w0 :: r)) (fun x:ak=>decide (x.Version=w0)) (fun x _=>?_) (by omega)
 unfold dP
 rw [show idx (w0 :: r) (0:Int)=some w0 from rfl];rfl
theorem LF (im:List ak) (hl:(im.length:Int)≤1000) (w0:Version) (r:List Version):cr im (fun y0=>oy y0 (w0 :: r))=some (lI (fun x:ak=>decide (x.Version=w0)) im 0):=by
 refine qm im (fun y0=>oy y0 (w0 :: r)) (fun x:ak=>decide (x.Version=w0)) (fun x _=>?_) (by omega)
 unfold oy
 rw [show idx (w0 :: r) (0:Int)=some w0 from rfl];rfl
theorem JV (p:ak→Bool) (xs:List ak):(lI p xs 0 < 0∧xs.find? p=none)∨∃ y,0≤lI p xs 0∧idx xs (lI p xs 0)=some y∧xs.find? p=some y:=by
 rcases yx p xs 0 (by omega) with ⟨e1,e2⟩ | ⟨e1,e2,e3,y,e4,e5⟩
 ·exact .inl ⟨by omega,bp.2 fun x hx=>by rw [e2 x hx];simp⟩
 ·right
  refine ⟨y,e1,?_,?_⟩
  ·unfold idx
   rw [if_pos e1]
   simpa using e4
  ·generalize lI p xs 0=k at e1 e2 e3 e4
   rw [show (k - 0).toNat=k.toNat by simp] at e3 e4
   obtain ⟨h,e4'⟩:=List.getElem?_eq_some_iff.1 e4
   conv=>lhs;rw [← List.take_append_drop k.toNat xs]
   rw [dg,bp.2 (fun x hx=>by rw [e3 x hx];simp),eg h,e4']
   simp [e5]
structure ac5 (im:List ak) (m:bj) (v to:Version) (W:List Version) (ok:Bool):Prop where
 prog:∀ M,uk im m to M→(B3 im m).xF (gL im m) to (Fy M)→lZ im m v to M=some (W,ok)
 ref:vw im m v to=some (W,ok)
 non:ok=true→v≠to→∃ w0 r,W=w0 :: r∧∃ x∈im,x.Version=w0
 emp:ok=false→W=[]
theorem JW (im:List ak) (hx:pa im) (gN:iO im) (m:bj) (v to:Version):∃ W ok,ac5 im m v to W ok:=by
 have hl:=hx.1
 rcases QZ im m v to hx gN with ⟨q,k1,k2⟩ | ⟨k1,k2⟩
 ·refine ⟨q.map ak.Version,true,fun M hM C=>?_,k2,fun _ hv=>?_,fun h=>(by cases h)⟩
  ·rcases QQ im m v to hx gN M hM C with ⟨p,h1,h2,h3⟩ | ⟨h1,h3⟩
   ·have e:p.map ak.Version=q.map ak.Version:=Net.Fw.unique (B3 im m) (Bu gN) h1 k1
    rw [h3,e]
   ·exact absurd k1.1 (h1 q)
  ·cases q with
   | nil=>exact absurd (Net.kS.nil _|>.1 k1.1) hv
   | cons y r=>
     have:=Bv k1.1 y (by simp)
     exact ⟨y.Version,r.map ak.Version,rfl,y,uj this,rfl⟩
 ·refine ⟨[],false,fun M hM C=>?_,k2,fun h=>(by cases h),fun _=>rfl⟩
  rcases QQ im m v to hx gN M hM C with ⟨p,h1,h2,h3⟩ | ⟨h1,h3⟩
  ·have:=k1 p h1.1
   omega
  ·exact h3
theorem Q0 (im:List ak) (hx:pa im) (gN:iO im) (to:Version) (K:WM) (hK:yP im to K) (d:DeviceS) (v:Version) (hv:v≠to):
 ∃ K' x b,iE ⟨im,to,K⟩ d.Model v=some (x,b,⟨im,to,K'⟩)∧yP im to K'∧((b=false∧C4 im to d v=none)∨(b=true∧C4 im to d v=some ⟨d.Key,x.Version,x.cW⟩)):=by
 have hl:=hx.1
 obtain ⟨W,ok,hW⟩:=JW im hx gN d.Model v to
 have tail:∀ K':WM,yP im to K'→∀ f:Bool→Option (ak×Bool×aQ),(∀ c:Bool,f c=if c=true then some (⟨⟨0,0,0⟩,[],[],0⟩,false,⟨im,to,K'⟩) else (cr im (fun y0=>dP y0 W)).bind fun k=>(idx im k).bind fun x=>some (x,true,⟨im,to,K'⟩))→
  ∃ K' x b,f ((!ok)||decide ((W.length:Int)=0))=some (x,b,⟨im,to,K'⟩)∧yP im to K'∧((b=false∧C4 im to d v=none)∨(b=true∧C4 im to d v=some ⟨d.Key,x.Version,x.cW⟩)):=by
  intro K' hK' f hf
  rw [hf]
  cases ok with
  | false=>
    rw [if_pos (by simp)]
    refine ⟨K',_,false,rfl,hK',.inl ⟨rfl,?_⟩⟩
    unfold C4
    rw [hW.ref,hW.emp rfl]
  | true=>
    obtain ⟨w0,r,e,x,zW,hxv⟩:=hW.non rfl hv
    rw [e,if_neg (by simp;omega),N4 im (by omega) w0 r]
    simp only [aa]
    rcases JV (fun x:ak=>decide (x.Version=w0)) im with ⟨_,e2⟩ | ⟨y,e1,e2,e3⟩
    ·rw [bp] at e2
     exact absurd (by simpa using hxv) (e2 x zW)
    ·rw [e2]
     have hy:y.Version=w0:=by simpa using List.find?_some e3
     refine ⟨K',y,true,rfl,hK',.inr ⟨rfl,?_⟩⟩
     unfold C4
     rw [hW.ref,e]
     simp only
     rw [e3,hy];rfl
 unfold iE
 simp only
 cases hm:bh K d.Model with
 | none=>
   rw [Cp]
   obtain ⟨M,e,hM,C⟩:=QN im d.Model to hx gN
   rw [e]
   simp only [aa]
   rw [hW.prog M hM C]
   simp only [aa]
   exact tail (ca K d.Model M) (hK.set ⟨hM,C⟩) (fun c=>kh ⟨im,to,K⟩ d.Model M (W,ok) c) (fun c=>rfl)
 | some M=>
   rw [tq]
   obtain ⟨hM,C⟩:=hK _ M hm
   rw [hW.prog M hM C]
   simp only [aa]
   exact tail K hK (fun c=>ki ⟨im,to,K⟩ (W,ok) c) (fun c=>rfl)
def zu (x:aq):Bool:=decide (x.an.Kind=1)||decide (x.an.Kind=2)
theorem TP (x:aq):pT x=zu x:=by
 unfold pT pq zu
 by_cases h:x.an.Kind=1<;>simp [h]
theorem Q1 (x:aq):Ef x.an=zu x:=by
 unfold Ef y8 zu
 by_cases h:x.an.Kind=1<;>simp [h]
noncomputable def sj (c:Campaign) (dn:List MarkS) (nb:Nat) (s:Int×List DeviceS) (d:DeviceS):Int×List DeviceS:=
 if zu (jk c dn d)=true then (s.1 - 1,s.2) else if pG c d.Key < nb∧wQ c (jk c dn d)=false then (s.1,s.2++[d]) else s
theorem MI (c:Campaign) (dn:List MarkS) (nb:Nat):∀ (fl:List DeviceS) (s:Int×List DeviceS),∃ L,(fl.foldl (sj c dn nb) s).2=s.2++L∧L.Sublist fl∧(∀ d∈L,wQ c (jk c dn d)=false∧zu (jk c dn d)=false)∧s.1 - fl.length≤(fl.foldl (sj c dn nb) s).1∧(fl.foldl (sj c dn nb) s).1≤s.1
 | [],s=>⟨[],by simp,dk _,fun d hd=>(by cases hd),by simp,by simp⟩
 | d :: r,s=>by
   obtain ⟨L,h1,h2,h3,h4,h5⟩:=MI c dn nb r (sj c dn nb s d)
   rw [b8,ai]
   unfold sj at h1 h4 h5
   by_cases hb:zu (jk c dn d)=true
   ·rw [if_pos hb] at h1 h4 h5
    refine ⟨L,?_,h2.cons d,h3,?_,?_⟩
    ·unfold sj;rw [if_pos hb];exact h1
    ·unfold sj;rw [if_pos hb];simp only at h4 ⊢;omega
    ·unfold sj;rw [if_pos hb];simp only at h5 ⊢;omega
   ·rw [if_neg hb] at h1 h4 h5
    by_cases hw:pG c d.Key < nb∧wQ c (jk c dn d)=false
    ·rw [if_pos hw] at h1 h4 h5
     refine ⟨d :: L,?_,h2.cons_cons d,fun x hx=>?_,?_,?_⟩
     ·unfold sj;rw [if_neg hb,if_pos hw]
      refine h1.trans ?_
      simp
     ·rcases al.1 hx with rfl | hx
      ·exact ⟨hw.2,by simpa using hb⟩
      ·exact h3 x hx
     ·unfold sj;rw [if_neg hb,if_pos hw];simp only at h4 ⊢;omega
     ·unfold sj;rw [if_neg hb,if_pos hw];simp only at h5 ⊢;omega
    ·rw [if_neg hw] at h1 h4 h5
     refine ⟨L,?_,h2.cons d,h3,?_,?_⟩
     ·unfold sj;rw [if_neg hb,if_neg hw];exact h1
     ·unfold sj;rw [if_neg hb,if_neg hw];omega
     ·unfold sj;rw [if_neg hb,if_neg hw];exact h5
noncomputable def N5 (im:List ak) (to:Version) (room:Int) (v:DeviceS→Version):List DeviceS→List cx→List cx
 | [],out=>out
 | d :: r,out=>if room≤out.length then out else match C4 im to d (v d) with
   | none=>N5 im to room v r out
   | some o=>N5 im to room v r (out++[o])
theorem JX (im:List ak) (to:Version) (room:Int) (v:DeviceS→Version) {out:List cx} (h:room≤out.length):∀ l:List DeviceS,N5 im to room v l out=out
 | []=>rfl
 | d :: r=>by
   unfold N5
   rw [if_pos h]
theorem HL (im:List ak) (to:Version) (room:Int) (v:DeviceS→Version):∀ (l:List DeviceS) (out:List cx),(N5 im to room v l out).length≤out.length+l.length
 | [],out=>da _
 | d :: r,out=>by
   unfold N5
   split
   ·omega
   ·split
    ·have:=HL im to room v r out
     simp only [ai];omega
    ·rename_i o _
     have:=HL im to room v r (out++[o])
     simp only [ai,aw,be] at this ⊢;omega
theorem HM (im:List ak) (to:Version) (room:Int) (v:DeviceS→Version):∀ (l:List DeviceS) (out:List cx),∃ M:List bj,(N5 im to room v l out).map cx.Device=out.map cx.Device++M∧M.Sublist (l.map DeviceS.Key)
 | [],out=>⟨[],by simp [N5],dk _⟩
 | d :: r,out=>by
   unfold N5
   split
   ·exact ⟨[],by simp,List.nil_sublist _⟩
   ·split
    ·obtain ⟨M,m1,m2⟩:=HM im to room v r out
     exact ⟨M,m1,m2.cons _⟩
    ·rename_i o ho
     obtain ⟨M,m1,m2⟩:=HM im to room v r (out++[o])
     have hk:o.Device=d.Key:=by
      unfold C4 at ho
      split at ho
      all_goals first | (obtain ⟨x,_,rfl⟩:=a6.1 ho;rfl) | cases ho
     refine ⟨o.Device :: M,?_,?_⟩
     ·rw [m1];simp
     ·rw [hk];exact m2.cons_cons _
theorem N6 {c:Campaign} {fl:List DeviceS} {s:CS} {dn:List MarkS} (hc:jj c) (hf:jE fl) (FD:(fl.length:Int)≤500) (h:SI c fl s dn) (w:aQ):
 mq s w fl c.Room [] 0=gC s w (fl.foldl (sj c dn s.aN.length) (c.Room,[])).1 (fl.foldl (sj c dn s.aN.length) (c.Room,[])).2:=by
 have xw:=hc.room
 unfold mq
 refine lz fl (fun (q:Int×List DeviceS) i=>(q.1,q.2,i)) _ (sj c dn s.aN.length) (fun i q=>(q.2.length:Int)≤i∧c.Room - i≤q.1∧q.1≤c.Room) (fun q=>gC s w q.1 q.2) (fun q i d h0 h1 hd hI=>?_) (fun q hI=>?_) (c.Room,[]) ⟨by simp,by simp,by simp⟩
 ·obtain ⟨h01,h02,GR⟩:=jX hd
  have hi:=HA hf h.nw GR
  have Qs:=vC hd
  have Y2:idx s.kd ((i.toNat:Nat):Int)=some (jk c dn d):=by
   rw [h.kd]
   refine oP ?_
   rw [dl,GR];rfl
  constructor
  ·simp only
   unfold eK
   rw [if_pos h1,hd]
   simp only [aa]
   rw [hi,tq,Y2]
   simp only [aa]
   rw [TP]
   unfold sj
   by_cases hb:zu (jk c dn d)=true
   ·rw [if_pos hb,if_pos hb]
    unfold eJ
    rw [bn (x:=q.1 - 1) (by omega) (by omega),bn (x:=i+1) (by omega) (by omega)]
   ·rw [if_neg hb,if_neg hb]
    unfold oJ
    rw [HB hf h.cL Qs]
    simp only [b9,aa]
    unfold jm gz eJ
    rw [bn (x:=i+1) (by omega) (by omega)]
    have hov:((!(cj s (jk c dn d)))&&(!(dm s (jk c dn d))))=!(wQ c (jk c dn d)):=by
     rw [← Bool.not_or,UJ,h.c_]
    rw [hov]
    by_cases hw:pG c d.Key < s.aN.length∧wQ c (jk c dn d)=false
    ·rw [if_pos hw,if_pos (by simp [hw.1,hw.2]),lx (by simp;omega)];rfl
    ·rw [if_neg hw,if_neg]
     intro Y3
     simp only [bm,decide_eq_true_eq,Bool.not_eq_true'] at Y3
     exact hw ⟨by omega,Y3.2⟩
  ·unfold sj
   split
   ·simp only;omega
   ·split
    ·simp only [aw,ai,be];omega
    ·omega
 ·simp only
  unfold eK
  rw [if_neg (by omega)]
theorem N7 {c:Campaign} {fl:List DeviceS} {s:CS} {dn:List MarkS} (hc:jj c) (hf:jE fl) (h:SI c fl s dn) (im:List ak) (hx:pa im) (gN:iO im) (room:Int) (Z:List DeviceS) (hZ:∀ d∈Z,d∈fl∧wQ c (jk c dn d)=false) (hl:(Z.length:Int)≤1000):
 ∀ (k:Nat) (i:Int) (K:WM) (out:List cx),0≤i→i+k=Z.length→yP im c.Target K→(out.length:Int)≤i→
 ∃ K',gB s room Z im c.Target.aA c.Target.aD c.Target.aF K out i=some (N5 im c.Target room (fun d=>(jk c dn d).an.Version) (Z.drop i.toNat) out,⟨im,c.Target,K'⟩)∧yP im c.Target K':=by
 have sk:∀ (K:WM) (out:List cx) (i:Int),gB s room Z im c.Target.aA c.Target.aD c.Target.aF K out i=(dQ s room Z im c.Target.aA c.Target.aD c.Target.aF K out i).bind (after fun x=>gB s room Z x.1 x.2.1 x.2.2.1 x.2.2.2.1 x.2.2.2.2.1 x.2.2.2.2.2.1 x.2.2.2.2.2.2):=fun K out i=>by
  conv=>lhs;unfold gB
  rw [iter_eq];rfl
 intro k
 induction k with
 | zero=>
   intro i K out h0 hk hK ho
   refine ⟨K,?_,hK⟩
   rw [sk]
   unfold dQ
   rw [if_neg (by omega),bb,bk (by omega)]
   rfl
 | succ k ih=>
   intro i K out h0 hk hK ho
   obtain ⟨d,hd,Qs,V6⟩:=gj Z h0 (by omega)
   obtain ⟨HP,Ww⟩:=hZ d Qs
   obtain ⟨j,hj,Zj⟩:=ds HP
   have WN:fl[j]? =some d:=by rw [ce hj,Zj]
   have hi:=HA hf h.nw WN
   have Y2:idx s.kd (j:Int)=some (jk c dn d):=by
    rw [h.kd]
    refine oP ?_
    rw [dl,WN];rfl
   have hv:(jk c dn d).an.Version≠c.Target:=fun e=>by
    unfold wQ at Ww
    rw [e] at Ww
    simp at Ww
   rw [sk,V6]
   unfold dQ N5
   rw [if_pos (by omega),hd]
   simp only [aa]
   by_cases hr:room≤out.length
   ·rw [if_pos hr,if_pos hr,bb]
    exact ⟨K,rfl,hK⟩
   ·rw [if_neg hr,if_neg hr,hi]
    simp only [aa]
    rw [Y2]
    simp only [aa]
    obtain ⟨K',x,b,f1,f2,f3⟩:=Q0 im hx gN c.Target K hK d (jk c dn d).an.Version hv
    have f1':iE ⟨im,⟨c.Target.aA,c.Target.aD,c.Target.aF⟩,K⟩ d.Model (jk c dn d).an.Version=some (x,b,⟨im,c.Target,K'⟩):=f1
    rw [f1']
    simp only [aa]
    unfold gA
    rw [bn (by omega) (by omega)]
    rcases f3 with ⟨rfl,f4⟩ | ⟨rfl,f4⟩
    ·rw [if_neg (by simp),f4]
     simp only [aa,bD]
     exact ih (i+1) K' out (by omega) (by omega) f2 (by omega)
    ·rw [if_pos rfl,f4,lx (by simp;omega)]
     simp only [aa,bD]
     exact ih (i+1) K' _ (by omega) (by omega) f2 (by simp;omega)
theorem Q2 {c:Campaign} {fl:List DeviceS} {l:List MarkS} (H:Dm c fl l) (im:List ak) {at_:Int} {n:Nat} (h1:∀ x∈l.take n,x.At≤at_) (h2:∀ x∈l.drop n,at_ < x.At) (bs:List Int):
 vO c im fl l at_ bs c.Room [] 0=qe c im l at_ (fl.foldl (sj c (l.take n) bs.length) (c.Room,[])).1 (fl.foldl (sj c (l.take n) bs.length) (c.Room,[])).2:=by
 have xw:=H.c_.room
 have FD:=H.UL
 have Wl:=H.l_
 unfold vO
 refine lz fl (fun (q:Int×List DeviceS) i=>(q.1,q.2,i)) _ (sj c (l.take n) bs.length) (fun i q=>(q.2.length:Int)≤i∧c.Room - i≤q.1∧q.1≤c.Room) (fun q=>qe c im l at_ q.1 q.2) (fun q i d h0 GA hd hI=>?_) (fun q hI=>?_) (c.Room,[]) ⟨by simp,by simp,by simp⟩
 ·have Qs:=vC hd
  have hcr:=yH c d l n at_ h1 h2
  constructor
  ·simp only
   unfold oB
   rw [if_pos GA,hd]
   simp only [aa]
   rw [yD c d l at_ (by omega) (fun q hq=>(H.m_ q hq).kind),← hcr]
   simp only [aa]
   rw [Q1]
   unfold sj
   by_cases hb:zu (jk c (l.take n) d)=true
   ·rw [if_pos hb,if_pos hb]
    unfold oz
    rw [bn (x:=q.1 - 1) (by omega) (by omega),bn (x:=i+1) (by omega) (by omega)]
   ·rw [if_neg hb,if_neg hb,yJ c H.c_ d.Key (H.f_.key d Qs)]
    simp only [aa]
    unfold qa p9 oz
    rw [bn (x:=i+1) (by omega) (by omega)]
    by_cases hw:pG c d.Key < bs.length
    ·rw [if_pos (by omega),JG H d at_,← hcr]
     simp only [aa]
     by_cases ho:wQ c (jk c (l.take n) d)=false
     ·rw [if_pos (show (!(wQ c (jk c (l.take n) d)))=true by simp [ho]),if_pos ⟨hw,ho⟩,lx (by simp;omega)];rfl
     ·rw [if_neg (show ¬ (!(wQ c (jk c (l.take n) d)))=true by simpa using ho),if_neg (fun z=>ho z.2)]
    ·rw [if_neg (by omega),if_neg (by simp),if_neg (fun z=>hw z.1)]
  ·unfold sj
   split
   ·simp only;omega
   ·split
    ·simp only [aw,ai,be];omega
    ·omega
 ·simp only
  unfold oB
  rw [if_neg (by omega)]
theorem Q3 {c:Campaign} {fl:List DeviceS} {l:List MarkS} (H:Dm c fl l) (im:List ak) (hx:pa im) (gN:iO im) {at_:Int} {n:Nat} (h1:∀ x∈l.take n,x.At≤at_) (h2:∀ x∈l.drop n,at_ < x.At) (room:Int) (xw:-1000≤room∧room≤1000) (Z:List DeviceS) (hZ:∀ d∈Z,d∈fl∧wQ c (jk c (l.take n) d)=false) (hl:(Z.length:Int)≤1000):
 ∀ (k:Nat) (i:Int) (out:List cx),0≤i→i+k=Z.length→(out.length:Int)≤i→
 qd c im l at_ Z (room - out.length) out i=some (N5 im c.Target room (fun d=>(jk c (l.take n) d).an.Version) (Z.drop i.toNat) out):=by
 have hlb:=hx.1
 have Wl:=H.l_
 have sk:∀ (r:Int) (out:List cx) (i:Int),qd c im l at_ Z r out i=(mB c im l at_ Z r out i).bind (after fun x=>qd c im l at_ Z x.1 x.2.1 x.2.2):=fun r out i=>by
  conv=>lhs;unfold qd
  rw [iter_eq];rfl
 intro k
 induction k with
 | zero=>
   intro i out h0 hk ho
   rw [sk]
   unfold mB
   rw [if_neg (by omega),bb,bk (by omega)]
   rfl
 | succ k ih=>
   intro i out h0 hk ho
   obtain ⟨d,hd,Qs,V6⟩:=gj Z h0 (by omega)
   obtain ⟨HP,Ww⟩:=hZ d Qs
   have hcr:=yH c d l n at_ h1 h2
   have hv:(jk c (l.take n) d).an.Version≠c.Target:=fun e=>by
    unfold wQ at Ww
    rw [e] at Ww
    simp at Ww
   obtain ⟨W,ok,hW⟩:=JW im hx gN d.Model (jk c (l.take n) d).an.Version c.Target
   rw [sk,V6]
   unfold mB
   rw [if_pos (by omega),hd]
   simp only [aa]
   rw [yD c d l at_ (by omega) (fun q hq=>(H.m_ q hq).kind),← hcr]
   simp only [aa]
   rw [hW.ref]
   simp only [aa]
   have skip:mA i (room - out.length) out=some (.inl (room - out.length,out,i+1)):=by
    unfold mA
    rw [bn (by omega) (by omega)]
   by_cases hr:room≤out.length
   ·unfold oA
    rw [if_pos (by simp;omega),skip]
    simp only [aa,bD]
    rw [ih (i+1) out (by omega) (by omega) (by omega),JX _ _ _ _ hr,JX _ _ _ _ hr]
   ·unfold N5
    rw [if_neg hr]
    cases ok with
    | false=>
      have hn:C4 im c.Target d (jk c (l.take n) d).an.Version=none:=by
       unfold C4
       rw [hW.ref,hW.emp rfl]
      unfold oA
      rw [hn,if_pos (by simp),skip]
      simp only [aa,bD]
      exact ih (i+1) out (by omega) (by omega) (by omega)
    | true=>
      obtain ⟨w0,r,e,x,zW,hxv⟩:=hW.non rfl hv
      unfold oA
      rw [if_neg (by simp;omega)]
      simp only
      rw [e,LF im (by omega) w0 r]
      simp only [aa]
      rw [show idx (w0 :: r) (0:Int)=some w0 from rfl]
      simp only [aa]
      rcases JV (fun x:ak=>decide (x.Version=w0)) im with ⟨_,e2⟩ | ⟨y,e1,e2,e3⟩
      ·rw [bp] at e2
       exact absurd (by simpa using hxv) (e2 x zW)
      ·rw [e2]
       simp only [aa]
       have hn:C4 im c.Target d (jk c (l.take n) d).an.Version=some ⟨d.Key,w0,y.cW⟩:=by
        unfold C4
        rw [hW.ref,e]
        simp only
        rw [e3];rfl
       rw [hn,lx (by simp;omega)]
       simp only [aa]
       unfold mA
       simp only [aa,bD]
       rw [bn (x:=room - out.length - 1) (by omega) (by omega),bn (x:=i+1) (by omega) (by omega)]
       have:=ih (i+1) (out++[⟨d.Key,w0,y.cW⟩]) (by omega) (by omega) (by simp;omega)
       rw [← this]
       congr 1
       simp;omega
theorem JY {c:Campaign} {fl:List DeviceS} {l:List MarkS} (H:Dm c fl l) (hs:fl.Pairwise (fun a b=>Lib.compareBytes a.Key b.Key < 0)) (Xi:(fl.length:Int) < 20) (im:List ak) (hx:pa im) (gN:iO im) {s:CS} {at_ tH:Int} {n:Nat} (h:SI c fl s (l.take n)) (h1:∀ x∈l.take n,x.At≤at_) (h2:∀ x∈l.drop n,at_ < x.At)
 (hz:-86400000≤tH∧tH≤86400000) (ha:0≤at_∧at_≤345686399999) (K:WM) (hK:yP im c.Target K):
 ∃ out K',dX s ⟨im,c.Target,K⟩ fl tH at_=some (out,⟨im,c.Target,K'⟩)∧yP im c.Target K'∧(out.length:Int)≤20∧((out.map cx.Device).Nodup∧∀ k∈out.map cx.Device,∃ d∈fl,d.Key=k∧wQ c (jk c (l.take n) d)=false∧zu (jk c (l.take n) d)=false)∧(∀ S bs,kF c fl l at_=some S→sF c fl l at_=some bs→S=s.bf→bs=s.aN→nM c im fl l tH at_=some out):=by
 unfold dX gD
 rw [h.c_,QE c hz ha]
 by_cases hc:((decide ((0:Int)≤s.bf))||(!(sE c tH at_)))=true
 ·rw [if_pos hc]
  refine ⟨[],K,rfl,hK,by simp,⟨by simp,by simp⟩,fun S bs e1 e2 e3 e4=>?_⟩
  unfold nM oC
  rw [e1]
  simp only [aa]
  rw [e3,if_pos hc]
 ·rw [if_neg hc,N6 H.c_ H.f_ H.UL h]
  obtain ⟨L,p1,p2,p3,p4,p5⟩:=MI c (l.take n) s.aN.length fl (c.Room,[])
  have xw:=H.c_.room
  rw [bv] at p1
  have hLl:=p2.length_le
  obtain ⟨Z,z1,z2,z3⟩:=Lz H.c_ H.f_ hs h L p2 (by omega)
  have hZ:∀ d∈Z,d∈fl∧wQ c (jk c (l.take n) d)=false:=fun d hd=>⟨p2.subset (z3.mem_iff.1 hd),(p3 d (z3.mem_iff.1 hd)).1⟩
  have hZl:Z.length=L.length:=z3.length_eq
  unfold gC
  rw [p1,z1]
  simp only [aa]
  obtain ⟨K',k1,k2⟩:=N7 H.c_ H.f_ h im hx gN (fl.foldl (sj c (l.take n) s.aN.length) (c.Room,[])).1 Z hZ (by omega) Z.length 0 K [] (by omega) (by omega) hK (by simp)
  rw [ej,ek] at k1
  obtain ⟨M,m1,m2⟩:=HM im c.Target (fl.foldl (sj c (l.take n) s.aN.length) (c.Room,[])).1 (fun d=>(jk c (l.take n) d).an.Version) Z []
  rw [d4,bv] at m1
  have um:(Z.map DeviceS.Key).Nodup:=by
   refine ((z3.map DeviceS.Key).nodup_iff).2 ?_
   exact dy (p2.map DeviceS.Key) H.f_.Qo
  refine ⟨_,K',k1,k2,?_,⟨by rw [m1];exact dy m2 um,fun k hk=>?_⟩,fun S bs e1 e2 e3 e4=>?_⟩
  rotate_left
  ·rw [m1] at hk
   obtain ⟨d,hd,e⟩:=ap.1 (m2.subset hk)
   have hdL:=z3.mem_iff.1 hd
   exact ⟨d,p2.subset hdL,e,p3 d hdL⟩
  rotate_right
  ·have:=HL im c.Target (fl.foldl (sj c (l.take n) s.aN.length) (c.Room,[])).1 (fun d=>(jk c (l.take n) d).an.Version) Z []
   simp only [be] at this
   omega
  ·unfold nM oC
   rw [e1]
   simp only [aa]
   rw [e3,if_neg hc,e2]
   simp only [aa]
   rw [e4,Q2 H im h1 h2 s.aN]
   unfold qe
   rw [p1,z2]
   simp only [aa]
   have:=Q3 H im hx gN h1 h2 (fl.foldl (sj c (l.take n) s.aN.length) (c.Room,[])).1 (by simp only at p4 p5;omega) Z hZ (by omega) Z.length 0 [] (by omega) (by omega) (by simp)
   rw [ej,ek,be,show ∀ r:Int,r - ((0:Nat):Int)=r from fun r=>by simp] at this
   exact this
theorem B4 {α:Type} {p q:α→Bool}:∀ {xs:List α},(∀ x∈xs,p x=q x)→xs.find? p=xs.find? q
 | [],_=>rfl
 | x :: r,h=>by
   rw [bO,bO,h x (by simp),B4 (fun y hy=>h y (aJ _ hy))]
theorem key_inj {fl:List DeviceS} (hf:jE fl) {a b:DeviceS} (ha:a∈fl) (hb:b∈fl) (h:a.Key=b.Key):a=b:=by
 obtain ⟨i,hi,ea⟩:=ds ha
 obtain ⟨j,hj,eb⟩:=ds hb
 have e:=xo hf.Qo i j a b (by rw [ce hi,ea]) (by rw [ce hj,eb]) h
 subst e
 rw [← ea,eb]
theorem MJ (p:MarkS→Bool) (k:bj) (hp:∀ m,p m=true→m.Device=k):∀ (Z:List MarkS) (x:aq),(Z.map MarkS.Device).Nodup→(Z.filter p).foldl zt x=x∨∃ m∈Z,m.Device=k∧(Z.filter p).foldl zt x=zt x m
 | [],x,_=>.inl rfl
 | m :: r,x,h=>by
   rw [a7,ci] at h
   rw [List.filter_cons]
   split
   ·rename_i hm
    have e:r.filter p=[]:=by
     rw [dV]
     intro y hy hpy
     exact h.1 (ap.2 ⟨y,hy,by rw [hp y hpy,hp m hm]⟩)
    rw [e]
    exact .inr ⟨m,by simp,hp m hm,rfl⟩
   ·rcases MJ p k hp r x h.2 with e | ⟨y,hy,e1,e2⟩
    ·exact .inl e
    ·exact .inr ⟨y,aJ _ hy,e1,e2⟩
theorem MK (c:Campaign) (l Z:List MarkS) (hZ:(Z.map MarkS.Device).Nodup) (d:DeviceS):jk c (l++Z) d=jk c l d∨∃ m∈Z,m.Device=d.Key∧jk c (l++Z) d=zt (jk c l d) m:=by
 unfold jk
 rw [dY,el]
 exact MJ (qK c d.Key) d.Key (fun m hm=>by unfold qK at hm;simp only [bm,decide_eq_true_eq] at hm;exact hm.1) Z _ hZ
structure Xj (c:Campaign) (fl:List DeviceS) (l:List MarkS) (t:Int) (m:MarkS):Prop where
 at_:m.At=t
 kind:1≤m.Kind∧m.Kind≤4
 dev:∃ d∈fl,d.Key=m.Device∧wQ c (jk c l d)=false
def JB (c:Campaign) (fl:List DeviceS) (l:List MarkS):Prop:=∀ d∈fl,zu (jk c l d)=true→wQ c (jk c l d)=false
section
variable {c:Campaign} {fl:List DeviceS} {l Z:List MarkS} {t:Int} (hf:jE fl) (hN:(Z.map MarkS.Device).Nodup) (hP:∀ m∈Z,Xj c fl l t m)
include hf hN hP
theorem N8 {d:DeviceS} (hd:d∈fl) (ho:wQ c (jk c l d)=true):jk c (l++Z) d=jk c l d:=by
 rcases MK c l Z hN d with e | ⟨m,hm,e1,_⟩
 ·exact e
 ·obtain ⟨d',h1,h2,h3⟩:=(hP m hm).dev
  have:=key_inj hf h1 hd (by rw [h2,e1])
  rw [this,ho] at h3
  cases h3
theorem TQ (hJ:JB c fl l):JB c fl (l++Z):=by
 intro d hd hb
 rcases MK c l Z hN d with e | ⟨m,hm,e1,e2⟩
 ·rw [e] at hb ⊢;exact hJ d hd hb
 ·obtain ⟨d',h1,h2,h3⟩:=(hP m hm).dev
  have hk:=(hP m hm).kind
  rw [key_inj hf h1 hd (by rw [h2,e1])] at h3
  rw [e2] at hb ⊢
  unfold zt at hb ⊢
  split
  ·rename_i ho
   rw [if_pos ho] at hb
   unfold zu zc at hb
   simp only [d0,decide_eq_true_eq] at hb
   unfold wQ at h3 ⊢
   unfold zc
   simp only
   rw [if_neg (by omega),if_neg (by omega),decide_eq_false (show ¬ m.Kind=5 by omega)]
   cases a:decide ((jk c l d).an.Version=c.Target)<;>cases b:decide ((3:Int)≤(jk c l d).an.ed)<;>simp_all
  ·exact h3
end
section
variable {c:Campaign} {fl:List DeviceS} {l Z:List MarkS} {t:Int} (eI:∀ x∈l,x.At < t) (hZt:∀ m∈Z,m.At=t)
include eI hZt
theorem Y4 {d:DeviceS} {τ:Int} (h:τ < t):xW c d (l++Z) τ=xW c d l τ:=by
 unfold xW
 rw [dY]
 have:Z.filter (si c d.Key τ)=[]:=by
  rw [dV]
  intro x hx
  have:=hZt x hx
  unfold si
  simp only [bm,decide_eq_true_eq]
  omega
 rw [this,bW]
omit eI in
theorem Q4 {w:Nat} {τ:Int} (eI:∀ x∈l,x.At < t) (h:τ < t):j9 c fl (l++Z) w τ=j9 c fl l w τ:=by
 unfold j9
 congr 1
 funext d
 rw [Y4 eI hZt h]
end
theorem Q5 {c:Campaign} {d:DeviceS} {l:List MarkS} {t:Int} (h:∀ x∈l,x.At≤t):xW c d l t=jk c l d:=by
 have:=yH c d l l.length t (by rw [aH];exact h) (by rw [cf];intro x hx;cases hx)
 rw [aH] at this
 exact this.symm
section
variable {c:Campaign} {fl:List DeviceS} {l Z:List MarkS} {t:Int} (hf:jE fl) (hN:(Z.map MarkS.Device).Nodup) (hP:∀ m∈Z,Xj c fl l t m) (eI:∀ x∈l,x.At < t)
include hf hN hP eI
theorem LG:∀ x∈l++Z,x.At≤t:=fun x hx=>by
 rcases ad.1 hx with h | h
 ·have:=eI x h;omega
 ·have:=(hP x h).at_;omega
theorem Wx {w:Nat} (h:j9 c fl l w t=true):j9 c fl (l++Z) w t=true:=by
 unfold j9 at h ⊢
 rw [List.all_eq_true] at h ⊢
 intro d hd
 have:=h d hd
 rw [Q5 (fun x hx=>by have:=eI x hx;omega)] at this
 rw [Q5 (LG hf hN hP eI)]
 cases a:decide (pG c d.Key=w)
 ·simp
 ·rw [a] at this
  have ho:wQ c (jk c l d)=true:=by simpa using this
  rw [N8 hf hN hP hd ho,ho];simp
theorem Q6 {f:Int} (Ll:f≤t):xE (l++Z) f t=xE l f t++Z.map MarkS.At:=by
 unfold xE
 rw [dY,b6]
 have:Z.filter (fun m=>decide (f≤m.At)&&decide (m.At≤t))=Z:=by
  rw [List.filter_eq_self]
  intro m hm
  have:=(hP m hm).at_
  simp;omega
 rw [this];rfl
omit hf hN hP in
theorem UM {f:Int} (Ll:f < t):∀ x∈xE l f t,x < t:=fun x hx=>by
 unfold xE at hx
 rcases al.1 hx with e | h
 ·omega
 ·obtain ⟨m,hm,e⟩:=ap.1 h
  have:=eI m (b7.1 hm).1
  omega
omit hf hN hP in
theorem UN:xE l t t=[t]:=by
 unfold xE
 have:l.filter (fun m=>decide (t≤m.At)&&decide (m.At≤t))=[]:=by
  rw [dV]
  intro m hm
  have:=eI m hm
  simp;omega
 rw [this];rfl
theorem N9 {w:Nat} {f τ:Int} (Ll:f≤t) (h:(xE l f t).find? (j9 c fl l w)=some τ):(xE (l++Z) f t).find? (j9 c fl (l++Z) w)=some τ:=by
 rw [Q6 hf hN hP eI Ll,dg]
 have:(xE l f t).find? (j9 c fl (l++Z) w)=some τ:=by
  by_cases e:f=t
  ·subst e
   rw [UN eI] at h ⊢
   rw [bO] at h ⊢
   cases a:j9 c fl l w f with
   | true=>rw [a] at h;rw [Wx hf hN hP eI a];exact h
   | false=>rw [a] at h;cases h
  ·rw [← h]
   exact B4 (fun x hx=>Q4 (l:=l) (t:=t) (fun m hm=>(hP m hm).at_) eI (UM eI (f:=f) (by omega) x hx))
 rw [this];rfl
theorem B5 {bs:List Int} {v:Int} (hb:bs.length≠0→ic bs≤t) (h:dG c fl l t bs=some v):dG c fl (l++Z) t bs=some v:=by
 unfold dG at h ⊢
 split
 ·rename_i h0;rw [if_pos h0] at h;exact h
 ·rename_i h0
  rw [if_neg h0] at h
  split
  ·rename_i h1
   rw [if_pos h1] at h
   obtain ⟨τ,ht,e⟩:=a6.1 h
   rw [a6]
   exact ⟨τ,N9 hf hN hP eI (hb h0) ht,e⟩
  ·rename_i h1;rw [if_neg h1] at h;cases h
theorem Gx {bs:List Int} (h0:bs.length≠0) (hl:bs.length < c.aI.length) (hb:ic bs≤t) (h:dG c fl l t bs=none):
 dG c fl (l++Z) t bs=if j9 c fl (l++Z) (bs.length - 1) t=true then some (t+(sO c bs.length).sx) else none:=by
 unfold dG at h ⊢
 rw [if_neg h0,if_pos hl] at h ⊢
 rw [em] at h
 rw [Q6 hf hN hP eI hb,dg]
 have CK:=bp.1 h
 have h1:(xE l (ic bs) t).find? (j9 c fl (l++Z) (bs.length - 1))=if ic bs=t∧j9 c fl (l++Z) (bs.length - 1) t=true then some t else none:=by
  by_cases e:ic bs=t
  ·rw [e,UN eI,bO]
   cases a:j9 c fl (l++Z) (bs.length - 1) t<;>simp
  ·rw [if_neg (fun x=>e x.1),B4 (fun x hx=>Q4 (l:=l) (t:=t) (fun m hm=>(hP m hm).at_) eI (UM eI (f:=ic bs) (by omega) x hx)),h]
 have h2:(Z.map MarkS.At).find? (j9 c fl (l++Z) (bs.length - 1))=if Z≠[]∧j9 c fl (l++Z) (bs.length - 1) t=true then some t else none:=by
  cases Z with
  | nil=>simp
  | cons m r=>
    have qo:∀ x∈m :: r,x.At=t:=fun x hx=>(hP x hx).at_
    cases a:j9 c fl (l++m :: r) (bs.length - 1) t with
    | true=>rw [a7,bO,qo m (by simp),a];simp
    | false=>
      rw [if_neg (by simp),bp]
      intro x hx
      obtain ⟨y,hy,e⟩:=ap.1 hx
      rw [← e,qo y hy,a];simp
 rw [h1,h2]
 by_cases a:j9 c fl (l++Z) (bs.length - 1) t=true
 ·rw [if_pos a]
  by_cases e:ic bs=t
  ·rw [if_pos ⟨e,a⟩];rfl
  ·rw [if_neg (fun x=>e x.1)]
   by_cases z:Z=[]
   ·exfalso
    subst z
    rw [bW] at a
    obtain ⟨τ,t1,t2,t3⟩:=MA (l:=l) (ic bs) t hb
    rw [← BZ (c:=c) (fl:=fl) (l:=l) (t:=τ) (t':=t) t2 t3 (bs.length - 1)] at a
    exact CK τ t1 a
   ·rw [if_pos ⟨z,a⟩];rfl
 ·rw [if_neg a,if_neg (fun x=>a x.2),if_neg (fun x=>a x.2)];rfl
theorem Q7 {S S':Int} (hS:S < 0) (hS':S' < 0) {bs:List Int} (hc:jj c) (h:Kk c fl l t S bs):Kk c fl (l++Z) t S' bs:=by
 induction h with
 | nil=>exact .nil
 | snoc h hl hn hx hb ih=>exact .snoc ih hl (B5 hf hN hP eI (Am hc h).2.2 hn) hx (by omega)
end
theorem JZ {c:Campaign} {fl:List DeviceS} {s:CS} {dn:List MarkS} (hc:jj c) (h:SX c fl s dn) (T:Int):Ok (cF s T) (fun r=>EN r s∧SX c fl r dn):=by
 refine (Qp s T (by rw [h.open_,h.c_]) (by rw [h.c_];exact hc.len) (by rw [h.c_];exact h.bg) (by rw [h.c_];exact h.nx)).mono ?_
 rintro r ⟨bs,nx,rfl,h1,h2⟩
 rw [h.c_] at h1 h2
 exact ⟨⟨rfl,rfl,rfl,rfl⟩,⟨⟨h.c_,h.nw,h.cL,h.kd,h.open_,h.bt,h.aY,h1,h2⟩,h.Xf,h.en,h.fa,h.sp⟩⟩
def Wy (c:Campaign) (fl:List DeviceS) (l:List MarkS) (t:Int) (x:List Int×Int):Prop:=
 Kk c fl l t (SA c fl l) x.1∧(0≤x.2→dG c fl l t x.1=some x.2)∧
 (x.2 < 0→x.2=-1∧x.1.length≠0∧(x.1.length < c.aI.length→dG c fl l t x.1=if j9 c fl l (x.1.length - 1) t=true then some (t+(sO c x.1.length).sx) else none))∧
 ∀ v,dG c fl l t x.1=some v→t≤v
theorem J0 {c:Campaign} {fl:List DeviceS} {l:List MarkS} {s:CS} {t:Int} (H:Dm c fl l) (h:SX c fl s l) (ht:0≤t∧t≤345686399999) (h1:∀ x∈l,x.At≤t) (hS:SA c fl l < 0) (hI0:Wy c fl l t (s.aN,s.cw)):
 Ok (cF s t) (fun r=>EN r s∧SX c fl r l∧Ty c fl l t (SA c fl l) r.aN r.cw):=by
 have hc:=H.c_
 have Qz:=hc.len
 have hcm:=hc.UI
 have h':SX c fl s (l.take l.length):=by rw [aH];exact h
 have Kc:∀ {w:Nat},w < c.aI.length→(s.open_.getD w 0=0↔j9 c fl l w t=true):=fun hw=>EP h' (T:=t) (by rw [aH];exact h1) (by rw [cf];intro x hx;cases hx) hw
 unfold cF jM
 refine Ok.iter (fun x:List Int×Int=>c.aI.length - x.1.length) (Wy c fl l t) ?_ _ hI0
 rintro ⟨l5,n6⟩ ⟨hR,hA,hB,hC⟩
 simp only at hR hA hB hC ⊢
 obtain ⟨r1,r2,r3⟩:=Am hc hR
 have Mr:∀ m:Int,bJ s t l5 m false=bS s t l5 m:=fun m=>by unfold bJ;rw [if_neg (by simp)]
 have e1:bK s t l5 n6=bS s t l5 ((dG c fl l t l5).getD (-1)):=by
  by_cases hn:0≤n6
  ·rw [hA hn]
   unfold bK
   rw [if_neg (by omega),Mr];rfl
  ·obtain ⟨rfl,k0,k2⟩:=hB (by omega)
   by_cases k1:l5.length < c.aI.length
   ·rw [k2 k1]
    have w1:bE ((l5.length:Int) - 1)=((l5.length - 1:Nat):Int):=by rw [bn]<;>omega
    unfold bK
    rw [if_pos (by omega),if_pos (by omega),h.c_,if_pos (by omega),w1,nD (l:=s.open_) (by rw [h.open_];omega)]
    simp only [aa]
    have Kc:=Kc (w:=l5.length - 1) (by omega)
    by_cases ha:j9 c fl l (l5.length - 1) t=true
    ·rw [if_pos (Kc.2 ha),if_pos ha]
     have U1:idx l5 ((l5.length - 1:Nat):Int)=some (ic l5):=by
      refine oP ?_
      unfold ic
      rw [List.getLast?_eq_getElem?]
      cases hx:l5[l5.length - 1]? with
      | none=>rw [List.getElem?_eq_none_iff] at hx;omega
      | some y=>rfl
     rw [U1]
     simp only [aa]
     have Tz:=hc.wait _ (pc k1)
     unfold bJ
     rw [if_pos (by simpa using r3 k0),h.c_,yL k1]
     simp only [aa]
     rw [bn (by omega) (by omega)];rfl
    ·rw [if_neg (fun e=>ha (Kc.1 e)),if_neg ha,Mr];rfl
   ·have yN:dG c fl l t l5=none:=by unfold dG;rw [if_neg k0,if_neg k1]
    rw [yN]
    unfold bK
    rw [h.c_,if_pos (by omega),if_pos (by omega),if_neg (by omega),Mr];rfl
 rw [e1]
 generalize An:(dG c fl l t l5).getD (-1)=n10
 unfold bS fu
 have JF:0≤n10→dG c fl l t l5=some n10:=by
  intro h0
  cases hx:dG c fl l t l5 with
  | none=>rw [hx] at An;simp at An;omega
  | some v=>rw [hx] at An;simp at An;rw [An]
 by_cases Bs:((decide (n10 < (0:Int)))||((decide (t < n10))||((decide ((0:Int) < (l5.length:Int)))&&((decide ((0:Int)≤s.bf))&&(decide (s.bf≤n10))))))=true
 ·rw [if_pos Bs]
  refine Ok.inr (Ok.ret ⟨⟨rfl,rfl,rfl,rfl⟩,⟨⟨h.c_,h.nw,h.cL,h.kd,h.open_,h.bt,h.aY,r1,fun h0=>yM hc (JF h0)⟩,h.Xf,h.en,h.fa,h.sp⟩,⟨hR,An.symm,fun v hv=>?_⟩⟩)
  have hvn:n10=v:=by rw [← An,hv];rfl
  have XQ:=(zd hc hv r2).1
  rw [h.sp] at Bs
  simp only [d0,bm,decide_eq_true_eq] at Bs
  omega
 ·rw [if_neg Bs]
  rw [h.sp] at Bs
  simp only [d0,bm,decide_eq_true_eq,not_or] at Bs
  have Kl:=JF (by omega)
  have eI:=yM hc Kl
  have hnt:=hC n10 Kl
  have hR':Kk c fl l t (SA c fl l) (l5++[n10]):=.snoc hR eI Kl (by omega) (by omega)
  obtain rfl:n10=t:=by omega
  refine Ok.app (by simp;omega) ?_
  have w1:bE ((l5.length:Int)+1)=((l5.length+1:Nat):Int):=by rw [bn]<;>omega
  rw [w1]
  have yN:l5.length+1 < c.aI.length→dG c fl l n10 (l5++[n10])=if j9 c fl l l5.length n10=true then some (n10+(sO c (l5.length+1)).sx) else none:=by
   intro hk
   unfold dG
   rw [aw,bX,if_neg (by omega),if_pos hk,uY,eq]
   have lE:∀ x∈xE l n10 n10,x=n10:=fun x hx=>by
    have:=Mz hx
    rcases this.2 with e | e<;>omega
   by_cases ha:j9 c fl l l5.length n10=true
   ·rw [if_pos ha]
    unfold xE
    rw [bO,ha];rfl
   ·rw [if_neg ha,em,bp]
    intro x hx hq
    rw [lE x hx] at hq
    exact ha hq
  have Y5:¬ l5.length+1 < c.aI.length→dG c fl l n10 (l5++[n10])=none:=by
   intro hk
   unfold dG
   rw [aw,bX,if_neg (by omega),if_neg hk]
  have j5:∀ n17:Int,n17=(if l5.length+1 < c.aI.length∧j9 c fl l l5.length n10=true then n10+(sO c (l5.length+1)).sx else -1)→Ok (cM (l5++[n10]) n17) (Rz (fun x:List Int×Int=>c.aI.length - x.1.length) (Wy c fl l n10) (fun r=>EN r s∧SX c fl r l∧Ty c fl l n10 (SA c fl l) r.aN r.cw) (l5,n6)):=by
   intro n17 NW
   unfold cM
   refine Ok.ret ⟨⟨hR',fun h0=>?_,fun h0=>⟨?_,by simp,fun hk=>?_⟩,fun v hv=>?_⟩,by simp;omega⟩
   ·simp only at h0 ⊢
    split at NW
    ·rename_i hk
     rw [yN hk.1,if_pos hk.2,NW]
    ·omega
   ·simp only at h0 ⊢
    split at NW
    ·rename_i hk
     have Tz:=hc.wait _ (pc hk.1)
     omega
    ·exact NW
   ·simp only at hk h0 ⊢
    rw [aw,bX] at hk ⊢
    rw [yN hk,eq]
   ·simp only at hv
    by_cases hk:l5.length+1 < c.aI.length
    ·rw [yN hk] at hv
     split at hv
     ·have Tz:=hc.wait _ (pc hk)
      have:=ac hv
      omega
     ·cases hv
    ·rw [Y5 hk] at hv;cases hv
  rw [h.c_]
  by_cases hk:l5.length+1 < c.aI.length
  ·rw [if_pos (by omega),nD (l:=s.open_) (by rw [h.open_];omega)]
   simp only [aa]
   have Kc:=Kc (w:=l5.length) eI
   unfold cN
   by_cases ha:j9 c fl l l5.length n10=true
   ·rw [if_pos (decide_eq_true (Kc.2 ha)),w1,h.c_,yL hk]
    simp only [aa]
    have Tz:=hc.wait _ (pc hk)
    refine j5 _ ?_
    rw [if_pos ⟨hk,ha⟩,bn (by omega) (by omega)]
   ·rw [if_neg (by rw [decide_eq_false (fun e=>ha (Kc.1 e))];exact Bool.false_ne_true)]
    refine j5 _ ?_
    rw [if_neg (fun e=>ha e.2)]
  ·rw [if_neg (by omega)]
   unfold cN
   rw [if_neg (by simp)]
   refine j5 _ ?_
   rw [if_neg (fun e=>hk e.1)]
def Std (c:Campaign) (fl:List DeviceS) (l:List MarkS) (t:Int) (s:CS):Prop:=0≤SA c fl l∨Ty c fl l t (SA c fl l) s.aN s.cw
theorem Wz {c:Campaign} {fl:List DeviceS} (l:List MarkS):∀ Z:List MarkS,0≤SA c fl l→0≤SA c fl (l++Z):=
 pb (fun h=>by rw [bW];exact h) (fun Z m ih h=>by
  rw [← cb,xp,if_neg (fun e=>by have:=ih h;omega)]
  exact ih h)
theorem TR {c:Campaign} {fl:List DeviceS} {l Z:List MarkS} {s:CS} {t:Int} (H:Dm c fl (l++Z)) (hN:(Z.map MarkS.Device).Nodup) (hP:∀ m∈Z,Xj c fl l t m) (eI:∀ x∈l,x.At < t) (ht:0≤t∧t≤345686399999) (h:SX c fl s (l++Z)) (TS:Std c fl l t s):
 Ok (cF s t) (fun r=>EN r s∧SX c fl r (l++Z)∧Std c fl (l++Z) t r):=by
 by_cases hS:0≤SA c fl (l++Z)
 ·exact (JZ H.c_ h t).mono (fun r hr=>⟨hr.1,hr.2,.inl hS⟩)
 ·have hS0:¬ 0≤SA c fl l:=fun e=>hS (Wz l Z e)
  have TS:Ty c fl l t (SA c fl l) s.aN s.cw:=by
   rcases TS with e | e
   ·exact absurd e hS0
   ·exact e
  have hle:=LG H.f_ hN hP eI
  obtain ⟨r1,r2,r3⟩:=Am H.c_ TS.r
  refine (J0 H h ht hle (by omega) ⟨Q7 H.f_ hN hP eI (by omega) (by omega) H.c_ TS.r,fun h0=>?_,fun h0=>?_,fun v hv=>?_⟩).mono (fun r hr=>⟨hr.1,hr.2.1,.inr hr.2.2⟩)
  ·simp only at h0 ⊢
   cases hx:dG c fl l t s.aN with
   | none=>have:=TS.n;rw [hx] at this;simp at this;omega
   | some v=>have:=TS.n;rw [hx] at this;simp at this;rw [this];exact B5 H.f_ hN hP eI r3 hx
  ·simp only at h0 ⊢
   cases hx:dG c fl l t s.aN with
   | none=>
     have:=TS.n
     rw [hx] at this
     have k0:s.aN.length≠0:=by
      intro e;unfold dG at hx;rw [if_pos e] at hx;cases hx
     exact ⟨by simpa using this,k0,fun hk=>Gx H.f_ hN hP eI k0 hk (r3 k0) hx⟩
   | some v=>have:=TS.n;rw [hx] at this;simp at this;have:=(zd H.c_ hx r2).1;omega
  ·simp only at hv
   cases hx:dG c fl l t s.aN with
   | none=>
     have k0:s.aN.length≠0:=by
      intro e;unfold dG at hx;rw [if_pos e] at hx;cases hx
     by_cases hk:s.aN.length < c.aI.length
     ·rw [Gx H.f_ hN hP eI k0 hk (r3 k0) hx] at hv
      split at hv
      ·have Tz:=H.c_.wait _ (pc hk)
       have:=ac hv
       omega
      ·cases hv
     ·unfold dG at hv;rw [if_neg k0,if_neg hk] at hv;cases hv
   | some w=>
     rw [B5 H.f_ hN hP eI r3 hx] at hv
     obtain rfl:=ac hv
     rcases TS.f w hx with a | a
     ·omega
     ·omega
theorem TT {c:Campaign} {fl:List DeviceS} {l:List MarkS} {s:CS} {T t:Int} (H:Dm c fl l) (hT:-1≤T∧T < t) (ht:t≤345686399999) (hl:∀ x∈l,x.At≤T) (h:SX c fl s l) (hP:Std c fl l T s):
 Ok (cF s t) (fun r=>EN r s∧SX c fl r l∧Std c fl l t r):=by
 rcases hP with hS | hP
 ·exact (JZ H.c_ h t).mono (fun r hr=>⟨hr.1,hr.2,.inl hS⟩)
 ·have h':SX c fl s (l.take l.length):=by rw [aH];exact h
  have hP':Ty c fl l T (SA c fl (l.take l.length)) s.aN s.cw:=by rw [aH];exact hP
  have:=NV H h' (T:=T) (T':=t) (by omega) ht hT.1 (by rw [aH];intro x hx;have:=hl x hx;omega) (by rw [cf];intro x hx;cases hx) (.inl (fun x hx hh=>by have:=hl x hx;omega)) (S0:=SA c fl (l.take l.length)) (by unfold Qx;omega) hP'
  rw [aH] at this
  exact this.mono (fun r hr=>⟨hr.1,hr.2.1,.inr hr.2.2⟩)
theorem Q8 (L:List bj) (m:bj) (hl:L.length≤10000000):bM L m=some (decide (m∈L)):=by
 unfold bM fD
 have key:∀ (k:Nat) (n:Int),0≤n→n+k=L.length→∃ j,cZ L m n=some j∧(0≤j↔m∈L.drop n.toNat):=by
  intro k
  induction k with
  | zero=>
    intro n h0 hn
    refine ⟨-1,?_,?_⟩
    ·unfold cZ
     rw [iter_eq,cG,if_neg (by omega),bb]
    ·rw [bk (by omega)];simp
  | succ k ih=>
    intro n h0 hn
    obtain ⟨s,hs,_,hd⟩:=gj L h0 (by omega)
    unfold cZ
    rw [iter_eq,cG,if_pos (by omega),hs]
    simp only [aa]
    by_cases e:m=s
    ·rw [if_pos e,bb]
     exact ⟨n,rfl,by rw [hd,← e];simp;omega⟩
    ·rw [if_neg e,bn (by omega) (by omega)]
     simp only [aa,bD]
     obtain ⟨j,h1,h2⟩:=ih (n+1) (by omega) (by omega)
     exact ⟨j,h1,by rw [h2,hd];simp [e]⟩
 obtain ⟨j,h1,h2⟩:=key L.length 0 (by omega) (by omega)
 rw [h1]
 simp only [aa,d6]
 rw [decide_eq_decide,h2];simp
def stM (fa:List bj) (t:Int) (k:bj) (kv:Int×Version):List MarkS:=
 if kv.1=2 then [⟨t,k,if k∈fa then 4 else 3,kv.2⟩] else if kv.1=1 then [⟨t,k,2,kv.2⟩] else []
def oM (t:Int) (o:cx):MarkS:=⟨t,o.Device,1,o.Version⟩
noncomputable def Oo (c:Campaign) (l:List MarkS) (d:DeviceS):Int×Version:=((jk c l d).an.Kind,(jk c l d).aX)
theorem ML (fa:List bj) (t:Int) (k:bj) (kv:Int×Version):(stM fa t k kv).length≤1:=by
 unfold stM
 split
 ·simp
 ·split<;>simp
theorem J6:∀ (ms A:List MarkS) (m:MarkS),m∈ms.foldl uX A→m∈A∨m∈ms
 | [],A,m,h=>.inl h
 | x :: r,A,m,h=>by
   rw [b8] at h
   rcases J6 r _ m h with h1 | h1
   ·unfold uX at h1
    split at h1
    ·rcases ad.1 h1 with h2 | h2
     ·exact .inl h2
     ·rw [af] at h2;rw [h2];exact .inr (by simp)
    ·exact .inl h1
   ·exact .inr (aJ _ h1)
theorem TU:∀ (A:List MarkS) (d:DeviceS),((A.foldl zc (x0 d)).an.Kind,(A.foldl zc (x0 d)).aX)=lL A:=fun A d=>by
 rcases cl A with rfl | ⟨r,m,rfl⟩
 ·rfl
 ·rw [cm,el]
  unfold lL
  rw [eH]
  rfl
noncomputable def Q9 (c:Campaign) (fa:List bj) (t:Int) (l L:List MarkS) (d:DeviceS):List MarkS:=L++stM fa t d.Key (Oo c l d)
theorem J7 (c:Campaign) (fa:List bj) (t:Int) (l:List MarkS):∀ (fl:List DeviceS) (L:List MarkS),fl.foldl (Q9 c fa t l) L=L++fl.flatMap (fun d=>stM fa t d.Key (Oo c l d))
 | [],L=>by simp
 | d :: r,L=>by
   rw [b8,J7 c fa t l r,eL]
   unfold Q9
   rw [cb]
theorem TW {c:Campaign} {fl:List DeviceS} {l:List MarkS} (H:Dm c fl l) (im:List ak) (st:Int) (fa:List bj) (Kj:fa.length≤1000) {t:Int} (ht:0≤t∧t≤345686399999) (eI:∀ x∈l,x.At < t):
 vy c im fl st fa l t [] 0=tA c im fl st l t (fl.foldl (Q9 c fa t l) []):=by
 have FD:=H.UL
 have Wl:=H.l_
 unfold vy
 refine lz fl (fun (q:List MarkS) i=>(q,i)) _ (Q9 c fa t l) (fun i q=>(q.length:Int)≤i) (fun q=>tA c im fl st l t q) (fun q i d h0 h1 hd hI=>?_) (fun q hI=>?_) [] (by simp)
 ·have hlen:=ML fa t d.Key (Oo c l d)
  refine ⟨?_,by unfold Q9;rw [aw];omega⟩
  simp only
  unfold ra
  rw [if_pos h1,hd]
  simp only [aa]
  rw [bn (x:=t - 1) (by omega) (by omega),yC c d.Key l (t - 1) (by omega) (fun q hq=>(H.m_ q hq).kind)]
  simp only [aa]
  have WQ:Oo c l d=lL ((l.filter (si c d.Key (t - 1))).foldl uX []):=by
   have e1:l.filter (si c d.Key (t - 1))=l.filter (qK c d.Key):=by
    refine List.filter_congr (fun x hx=>?_)
    have:=eI x hx
    unfold si qK
    rw [decide_eq_true (show x.At≤t - 1 by omega),Bool.and_true]
   have e2:=Dl (l.filter (qK c d.Key)) [] d (x0 d) rfl rfl
   unfold Oo jk
   rw [e1,e2]
   exact TU _ d
  have hAl:=Bo (l.filter (si c d.Key (t - 1))) []
  have amL:(l.filter (si c d.Key (t - 1))).length≤l.length:=bc _ _
  simp only [be] at hAl
  have lK:∀ m∈(l.filter (si c d.Key (t - 1))).foldl uX [],m.Device=d.Key:=fun m hm=>by
   rcases J6 _ _ m hm with h2 | h2
   ·cases h2
   ·have:=(b7.1 h2).2
    unfold si at this
    simp only [bm,decide_eq_true_eq] at this
    exact this.1
  generalize (l.filter (si c d.Key (t - 1))).foldl uX []=A at WQ hAl lK ⊢
  have WA:∀ L,o0 i L=some (.inl (L,i+1)):=fun L=>by unfold o0;rw [bn (by omega) (by omega)]
  rcases cl A with rfl | ⟨A',m,rfl⟩
  ·rw [if_pos (by simp),WA]
   unfold Q9
   rw [WQ]
   unfold stM lL
   simp
  ·rw [cm] at WQ hAl ⊢
   have hm:Oo c l d=(m.Kind,m.Version):=by
    rw [WQ];unfold lL;rw [eH]
   have Kd:idx (A'++[m]) (bE (((A'++[m]).length:Int) - 1))=some m:=by
    rw [aw,bX] at hAl ⊢
    rw [bn (by omega) (by omega),show (((A'.length+1:Nat):Int) - 1)=((A'.length:Nat):Int) by omega]
    exact oP (by simp)
   rw [if_neg (by simp;omega),Kd]
   simp only [aa]
   have j3:∀ k:Int,qV t q i m k=some (.inl (q++[⟨t,m.Device,k,m.Version⟩],i+1)):=fun k=>by
    unfold qV
    rw [lx (by simp;omega)]
    simp only [aa]
    exact WA _
   have HC:m.Device=d.Key:=lK m (by simp)
   unfold Q9
   rw [hm]
   unfold stM
   simp only
   by_cases k2:m.Kind=2
   ·rw [if_pos k2,if_pos k2,Q8 fa d.Key (by omega)]
    simp only [aa]
    unfold qX
    by_cases hf:d.Key∈fa
    ·rw [if_pos (by simpa using hf),j3,if_pos hf,HC]
    ·rw [if_neg (by simpa using hf),if_pos k2,if_neg hf]
     unfold qW
     rw [j3,HC]
   ·rw [if_neg k2,if_neg k2]
    unfold qX
    rw [if_neg (by simp),if_neg k2]
    by_cases k1:m.Kind=1
    ·rw [if_pos k1,if_pos k1]
     unfold qW
     rw [j3,HC]
    ·rw [if_neg k1,if_neg k1,WA,bW]
 ·simp only
  unfold ra
  rw [if_neg (by omega)]
theorem Ra {c:Campaign} {fl:List DeviceS} {l:List MarkS} {s:CS} (H:Dm c fl l) (h:SI c fl s l) (w:aQ) (fa:List bj) (Kj:fa.length≤1000) (t:Int):
 nI s w fl fa t [] 0=iy s w fl t (fl.foldl (Q9 c fa t l) []):=by
 have FD:=H.UL
 unfold nI
 refine lz fl (fun (q:List MarkS) i=>(q,i)) _ (Q9 c fa t l) (fun i q=>(q.length:Int)≤i) (fun q=>iy s w fl t q) (fun q i d h0 h1 hd hI=>?_) (fun q hI=>?_) [] (by simp)
 ·have hlen:=ML fa t d.Key (Oo c l d)
  refine ⟨?_,by unfold Q9;rw [aw];omega⟩
  obtain ⟨h01,h02,GR⟩:=jX hd
  have hi:=HA H.f_ h.nw GR
  have Y2:idx s.kd ((i.toNat:Nat):Int)=some (jk c l d):=by
   rw [h.kd]
   refine oP ?_
   rw [dl,GR];rfl
  simp only
  unfold fM
  rw [if_pos h1,hd]
  simp only [aa]
  rw [hi,tq,Y2]
  simp only [aa]
  have WA:∀ L,fI i L=some (.inl (L,i+1)):=fun L=>by unfold fI;rw [bn (by omega) (by omega)]
  have j2:∀ k:Int,fJ t q i d (jk c l d) k=some (.inl (q++[⟨t,d.Key,k,(jk c l d).aX⟩],i+1)):=fun k=>by
   unfold fJ
   rw [lx (by simp;omega)]
   simp only [aa]
   exact WA _
  unfold Q9 stM Oo
  simp only
  by_cases k2:(jk c l d).an.Kind=2
  ·rw [if_pos k2,if_pos k2,Q8 fa d.Key (by omega)]
   simp only [aa]
   by_cases hf:d.Key∈fa
   ·rw [if_pos (by simpa using hf),j2,if_pos hf]
   ·rw [if_neg (by simpa using hf),j2,if_neg hf]
  ·rw [if_neg k2,if_neg k2]
   unfold iw
   by_cases k1:(jk c l d).an.Kind=1
   ·rw [if_pos k1,if_pos k1,lx (by simp;omega)]
    simp only [aa]
    exact WA _
   ·rw [if_neg k1,if_neg k1,WA,bW]
 ·simp only
  unfold fM
  rw [if_neg (by omega)]
theorem B6 (t:Int):∀ (out:List cx) (D:List MarkS),out.foldl (fun L o=>L++[oM t o]) D=D++out.map (oM t)
 | [],D=>by simp
 | x :: r,D=>by
   rw [b8,B6 t r,a7,cb];rfl
theorem Rb (t:Int) (v:List cx×aQ) (D:List MarkS) (hl:v.1.length≤1000∧D.length≤1000):kj t v D 0=fK v (D++v.1.map (oM t)):=by
 have key:kj t v D 0=fK v (v.1.foldl (fun L o=>L++[oM t o]) D):=by
  unfold kj
  refine lz v.1 (fun (q:List MarkS) i=>(q,i)) _ (fun L o=>L++[oM t o]) (fun i q=>(q.length:Int)≤D.length+i) (fun q=>fK v q) (fun q i d h0 h1 hd hI=>?_) (fun q hI=>?_) D (by simp)
  ·refine ⟨?_,by rw [aw,bX];omega⟩
   simp only
   unfold fL
   rw [if_pos h1,hd]
   simp only [aa]
   rw [lx (by simp;omega)]
   simp only [aa]
   rw [bn (by omega) (by omega)];rfl
  ·simp only
   unfold fL
   rw [if_neg (by omega)]
 rw [key,B6]
theorem TX (st:Int) (l:List MarkS) (t:Int) (out:List cx) (D:List MarkS) (hl:out.length≤1000∧D.length≤1000):vx st l t out D 0=qY st l t (D++out.map (oM t)):=by
 have key:vx st l t out D 0=qY st l t (out.foldl (fun L o=>L++[oM t o]) D):=by
  unfold vx
  refine lz out (fun (q:List MarkS) i=>(q,i)) _ (fun L o=>L++[oM t o]) (fun i q=>(q.length:Int)≤D.length+i) (fun q=>qY st l t q) (fun q i d h0 h1 hd hI=>?_) (fun q hI=>?_) D (by simp)
  ·refine ⟨?_,by rw [aw,bX];omega⟩
   simp only
   unfold qZ
   rw [if_pos h1,hd]
   simp only [aa]
   rw [lx (by simp;omega)]
   simp only [aa]
   rw [bn (by omega) (by omega)];rfl
  ·simp only
   unfold qZ
   rw [if_neg (by omega)]
 rw [key,B6]
theorem Oa {M:List MarkS} {t:Int} (ht:0≤t∧t≤345686399999) (hl:M.length≤1000) (hN:(M.map MarkS.Device).Nodup) (qo:∀ m∈M,m.At=t):
 ∃ Z,dI M (fun y0 y1=>iv y0 y1)=some Z∧dI M (fun y0 y1=>some (kE y0 y1))=some Z∧Z.Perm M∧Z.Pairwise (fun a b=>mO a b < 0):=by
 have YO:∀ m∈M,MB m:=fun m hm=>by have:=qo m hm;unfold MB;omega
 obtain ⟨Z,z1,z2,z3⟩:=Bd (fun y0 y1=>iv y0 y1) mO M (by omega) (fun a _ b _=>Js a b) (NM.ord M)
 obtain ⟨Y,y1,y2,y3⟩:=Bd (fun y0 y1=>some (kE y0 y1)) mO M (by omega) (fun a ha b hb=>by rw [Bn (YO a ha) (YO b hb)]) (NM.ord M)
 have hz0:∀ a∈M,∀ b∈M,mO a b=0→a.Device=b.Device:=fun a ha b hb e=>by
  unfold mO at e
  rw [qo a ha,qo b hb,Qf.2 rfl,if_neg (by simp)] at e
  exact uv e
 have IF:∀ a∈M,∀ b∈M,a.Device=b.Device→a=b:=by
  have:∀ {L:List MarkS},(L.map MarkS.Device).Nodup→∀ a∈L,∀ b∈L,a.Device=b.Device→a=b:=by
   intro L
   induction L with
   | nil=>intro _ a ha;cases ha
   | cons x r ih=>
     intro h a ha b hb e
     rw [a7,ci] at h
     rcases al.1 ha with ea | ha<;>rcases al.1 hb with eb | hb
     ·rw [ea,eb]
     ·exact absurd (ap.2 ⟨b,hb,by rw [← e,ea]⟩) h.1
     ·exact absurd (ap.2 ⟨a,ha,by rw [e,eb]⟩) h.1
     ·exact ih h.2 a ha b hb e
  exact this hN
 have hZY:Z=Y:=xk (z2.trans y2.symm) z3 y3 (fun a ha b hb n1 n2=>by
  have ha:=z2.mem_iff.1 ha
  have hb:=z2.mem_iff.1 hb
  have n3:=NM.neg a b
  exact IF a ha b hb (hz0 a ha b hb (by omega)))
 refine ⟨Z,z1,by rw [hZY];exact y1,z2,?_⟩
 have um:(Z.map MarkS.Device).Nodup:=((z2.map MarkS.Device).nodup_iff).2 hN
 have X2:Z.Pairwise (fun a b=>a.Device≠b.Device):=by
  rw [List.Nodup,List.pairwise_map] at um
  exact um
 have both:=List.pairwise_and_iff.2 ⟨z3,X2⟩
 refine both.imp_of_mem ?_
 intro a b ha hb hh
 have n3:=NM.neg a b
 have:mO a b≠0:=fun e=>hh.2 (hz0 a (z2.mem_iff.1 ha) b (z2.mem_iff.1 hb) e)
 have:=hh.1
 omega
theorem J8 {c:Campaign} {fl:List DeviceS} {l:List MarkS} {s:CS} (im:List ak) (t:Int) (h:SX c fl s l) (hS:0≤SA c fl l) (w:aQ) (hQ:kF c fl l t=some (SA c fl l)):
 dX s w fl 0 t=some ([],w)∧nM c im fl l 0 t=some []:=by
 constructor
 ·unfold dX gD
  rw [if_pos (by rw [h.sp,decide_eq_true hS];rfl)]
 ·unfold nM oC
  rw [hQ]
  simp only [aa]
  rw [if_pos (by rw [decide_eq_true hS];rfl)]
theorem Oc {c:Campaign} {fl:List DeviceS} {l:List MarkS} (H:Dm c fl l) (hs:fl.Pairwise (fun a b=>Lib.compareBytes a.Key b.Key < 0)) (Xi:(fl.length:Int) < 20) (im:List ak) (hx:pa im) (gN:iO im) {s:CS} {t:Int} (h:SX c fl s l) (hP:Std c fl l t s) (hJ:JB c fl l) (eI:∀ x∈l,x.At < t) (ht:0≤t∧t≤345686399999) (hb:(fl.length * l.length:Int)≤100000) (K:WM) (hK:yP im c.Target K) (fa:List bj) (Kj:fa.length≤1000) (st:Int):
 ∃ Z K',iF s ⟨im,c.Target,K⟩ fl fa t=some (Z,⟨im,c.Target,K'⟩)∧yP im c.Target K'∧(Z.map MarkS.Device).Nodup∧(∀ m∈Z,Xj c fl l t m)∧Z.Pairwise (fun a b=>mO a b < 0)∧Z.length≤100∧
   vy c im fl st fa l t [] 0=(app l Z).bind fun Ns=>if (3000:Int) < (Ns.length:Int) then cK .inr (some ([],(2:Int))) else some (.inl (Ns,bE (t+st))):=by
 have Wl:=H.l_
 have hQ:kF c fl l t=some (SA c fl l):=by
  have:=HG H t l.length (by rw [aH];intro x hx;have:=eI x hx;omega) (by rw [cf];intro x hx;cases hx) hb
  rw [aH] at this
  exact this
 obtain ⟨out,K',o1,o2,o3,o4,o5,o6⟩:∃ out K',dX s ⟨im,c.Target,K⟩ fl 0 t=some (out,⟨im,c.Target,K'⟩)∧yP im c.Target K'∧(out.length:Int)≤20∧(out.map cx.Device).Nodup∧(∀ k∈out.map cx.Device,∃ d∈fl,d.Key=k∧wQ c (jk c l d)=false∧zu (jk c l d)=false)∧nM c im fl l 0 t=some out:=by
  rcases hP with hS | hP
  ·obtain ⟨e1,e2⟩:=J8 im t h hS ⟨im,c.Target,K⟩ hQ
   exact ⟨[],K,e1,hK,by simp,by simp,by simp,e2⟩
  ·have h':SI c fl s (l.take l.length):=by rw [aH];exact h.toSI
   obtain ⟨out,K',o1,o2,o3,o4,o5⟩:=JY H hs Xi im hx gN (tH:=0) h' (by rw [aH];intro x hx;have:=eI x hx;omega) (by rw [cf];intro x hx;cases hx) (by omega) ht K hK
   rw [aH] at o4
   exact ⟨out,K',o1,o2,o3,o4.1,o4.2,o5 _ _ hQ (JI H ht.2 hQ hP.r hP.f) h.sp.symm rfl⟩
 have TY:=J7 c fa t l fl []
 rw [bv] at TY
 have Y6:∀ L:List DeviceS,((L.flatMap (fun d=>stM fa t d.Key (Oo c l d))).map MarkS.Device).Sublist (L.map DeviceS.Key):=by
  intro L
  induction L with
  | nil=>exact dk _
  | cons d r ih=>
    rw [eL,b6,a7]
    unfold stM
    split
    ·exact ih.cons_cons _
    ·split
     ·exact ih.cons_cons _
     ·exact ih.cons _
 have hDm:∀ m∈fl.flatMap (fun d=>stM fa t d.Key (Oo c l d)),m.At=t∧(2≤m.Kind∧m.Kind≤4)∧∃ d∈fl,d.Key=m.Device∧zu (jk c l d)=true:=by
  intro m hm
  obtain ⟨d,hd,h2⟩:=cc.1 hm
  unfold stM Oo at h2
  simp only at h2
  split at h2
  ·rename_i k2
   rw [af] at h2
   subst h2
   refine ⟨rfl,?_,d,hd,rfl,?_⟩
   ·simp only;split<;>omega
   ·unfold zu;rw [k2];rfl
  ·split at h2
   ·rename_i k1
    rw [af] at h2
    subst h2
    refine ⟨rfl,by simp,d,hd,rfl,?_⟩
    unfold zu;rw [k1];rfl
   ·cases h2
 generalize hD:fl.flatMap (fun d=>stM fa t d.Key (Oo c l d))=D at TY hDm
 have hDs:=Y6 fl
 rw [hD] at hDs
 have hDl:D.length≤fl.length:=by have:=hDs.length_le;simpa using this
 have hN:((D++out.map (oM t)).map MarkS.Device).Nodup:=by
  rw [b6,List.map_map,List.nodup_append]
  refine ⟨dy hDs H.f_.Qo,o4,fun a ha b hb e=>?_⟩
  obtain ⟨m,hm,rfl⟩:=ap.1 ha
  obtain ⟨_,_,d,hd,e1,e2⟩:=hDm m hm
  obtain ⟨d',vT,e3,e4,e5⟩:=o5 b hb
  have:=key_inj H.f_ hd vT (by rw [e1,e3,e])
  rw [this,e5] at e2
  cases e2
 have hPl:∀ m∈D++out.map (oM t),Xj c fl l t m:=by
  intro m hm
  rcases ad.1 hm with hm | hm
  ·obtain ⟨e1,e2,d,hd,e3,e4⟩:=hDm m hm
   exact ⟨e1,by omega,d,hd,e3,hJ d hd e4⟩
  ·obtain ⟨o,ho,rfl⟩:=ap.1 hm
   obtain ⟨d',vT,e3,e4,e5⟩:=o5 o.Device (ap.2 ⟨o,ho,rfl⟩)
   exact ⟨rfl,by unfold oM;simp,d',vT,e3,e4⟩
 have hMl:(D++out.map (oM t)).length≤40:=by rw [aw,bx];omega
 obtain ⟨Z,z1,z2,z3,z4⟩:=Oa ht (by omega) hN (fun m hm=>(hPl m hm).at_)
 have hZl:=z3.length_eq
 refine ⟨Z,K',?_,o2,((z3.map MarkS.Device).nodup_iff).2 hN,fun m hm=>hPl m (z3.mem_iff.1 hm),z4,by omega,?_⟩
 ·unfold iF
  rw [Ra H h.toSI ⟨im,c.Target,K⟩ fa Kj t,TY]
  unfold iy
  rw [o1]
  simp only [aa]
  rw [Rb t (out,⟨im,c.Target,K'⟩) D ⟨by simp only;omega,by omega⟩]
  unfold fK
  simp only
  rw [Aj z1 hZl]
  rfl
 ·rw [TW H im st fa Kj ht eI,TY]
  unfold tA
  rw [o6]
  simp only [aa]
  rw [TX st l t out D ⟨by omega,by omega⟩]
  unfold qY
  rw [Aj z2 hZl]
  rfl
theorem EY {s:zr} {K:Int} (hs:vS s K) (hK:3≤K):sq (gi s) (K - 3) (fun v=>mH v=true):=by
 unfold gi
 refine sq.of ?_
 refine Ok.gen (Hq hs (by omega) (by omega) (by omega) (by omega)) (fun a s1 h1 q1=>?_)
 refine Ok.gen (nt q1 (by omega) (by simp) (by simp)) (fun b s2 h2 q2=>?_)
 refine Ok.gen (nt q2 (by omega) (by simp) (by simp)) (fun c s3 h3 q3=>?_)
 have b2:=Mh (lo:=0) (hi:=9999) h2 (by decide)
 have b3:=Mh (lo:=0) (hi:=9999) h3 (by decide)
 refine Ok.ret ⟨?_,q3.less (by omega)⟩
 unfold mH;simp;omega
theorem Ap {s:zr} {K:Int} (hs:vS s K) (hK:8≤K):sq (fB s) (K - 8) (fun _=>True):=by
 unfold fB jJ
 refine sq.of ?_
 refine Ok.gen (EY hs (by omega)) (fun a s1 h1 q1=>?_)
 refine Ok.gen (uT q1 (by omega) (by omega) (by omega)) (fun b s2 h2 q2=>?_)
 split
 ·refine Ok.gen (uU q2 (by omega) (by omega) (by omega) (by omega)) (fun c s3 h3 q3=>?_)
  refine Ok.gen (uU q3 (by omega) (by omega) (by omega) (by omega)) (fun d s4 h4 q4=>?_)
  exact Ok.ret ⟨trivial,q4.less (by omega)⟩
 ·exact Ok.ret ⟨trivial,q2.less (by omega)⟩
theorem TZ {α:Type} {P:α→Prop} {xs:List α} {y:α} (h:∀ x∈xs,P x) (hy:P y):∀ x∈xs++[y],P x:=by
 intro x hx
 rcases ad.1 hx with h1 | h1
 ·exact h x h1
 ·rw [af.1 h1];exact hy
theorem mem_set {α:Type} {P:α→Prop} {xs:List α} {i:Nat} {y:α} (h:∀ x∈xs,P x) (hy:P y):∀ x∈xs.set i y,P x:=by
 intro x hx
 rcases List.mem_or_eq_of_mem_set hx with h1 | h1
 ·exact h x h1
 ·rw [h1];exact hy
def EZ (x:ak):Prop:=x.df.length≤2∧x.bF.length≤2
def Y7 (xs:List ak):Prop:=xs.length≤8∧∀ x∈xs,EZ x
theorem EZ.b {x:ak} (h:EZ x):Fs x:=⟨by have:=h.1;omega,by have:=h.2;omega⟩
theorem Rc {n10:Int} (hn:2≤n10∧n10≤5) {l:List Int} {n:Int} {xs:List ak} {K:Int} (hs:vS ⟨l,n⟩ K) (hK:12≤K) (hx:xs.length≤100∧∀ x∈xs,EZ x):
 Ok (oH n10 l n xs 0) (fun r=>∃ l' n' ys,r=.inl (l',n',ys,n10+1)∧vS ⟨l',n'⟩ (K - 12)∧ys.length≤xs.length+2∧∀ x∈ys,EZ x):=by
 unfold oH
 refine Ok.iter (fun x:(List Int)×Int×(List ak)×Int=>(2 - x.2.2.2).toNat) (fun x=>(0≤x.2.2.2∧x.2.2.2≤2)∧vS ⟨x.1,x.2.1⟩ (K - 6 * x.2.2.2)∧(x.2.2.1.length:Int)≤xs.length+x.2.2.2∧∀ y∈x.2.2.1,EZ y) ?_ _ ⟨by simp,by simpa using hs,by simp,hx.2⟩
 rintro ⟨l,n,ys,i⟩ ⟨h0,h1,h2,h3⟩
 dsimp only at h0 h1 h2 h3 ⊢
 have w1:bE (i+1)=i+1:=bn (by omega) (by omega)
 have w2:bE (n10+1)=n10+1:=bn (by omega) (by omega)
 have w3:bE (n10 - 1)=n10 - 1:=bn (by omega) (by omega)
 unfold iY
 rw [w2,w3]
 have j1:∀ (l':List Int) (n':Int) (zs:List ak),i < 2→vS ⟨l',n'⟩ (K - 6 * i - 6)→zs.length≤ys.length+1→(∀ y∈zs,EZ y)→Ok (eT i l' n' zs) (Rz (fun x:(List Int)×Int×(List ak)×Int=>(2 - x.2.2.2).toNat) (fun x=>(0≤x.2.2.2∧x.2.2.2≤2)∧vS ⟨x.1,x.2.1⟩ (K - 6 * x.2.2.2)∧(x.2.2.1.length:Int)≤xs.length+x.2.2.2∧∀ y∈x.2.2.1,EZ y) (fun r=>∃ l' n' ys,r=.inl (l',n',ys,n10+1)∧vS ⟨l',n'⟩ (K - 12)∧ys.length≤xs.length+2∧∀ x∈ys,EZ x) (l,n,ys,i)):=by
  intro l' n' zs hi hq hl hb
  unfold eT
  rw [w1]
  exact Ok.ret ⟨⟨⟨by dsimp only;omega,by dsimp only;omega⟩,hq.less (by dsimp only;omega),by dsimp only;omega,hb⟩,by dsimp only;omega⟩
 split
 ·rename_i hi
  have hi:i < 2:=by simpa using hi
  refine Ok.idx h0.1 (by simpa using hi) (fun m hm _=>?_)
  refine Ok.gen (uT h1 (by omega) (by omega) (by omega)) (fun b s1 p1 q1=>?_)
  split
  ·exact j1 _ _ _ hi (q1.less (by omega)) (by omega) h3
  ·refine Ok.gen (Ak q1 (by omega) (by omega) (by omega)) (fun c s2 p2 q2=>?_)
   refine Ok.idx p2.1 (by simpa using p2.2) (fun ms hms HQ=>?_)
   have lms:ms.length≤2:=by
    simp only [al,eX,or_false] at HQ
    rcases HQ with h | h | h | h<;>subst h<;>simp
   refine Ok.gen (nt q2 (by omega) (by simp) (by simp)) (fun d s3 p3 q3=>?_)
   refine Ok.gen (Hq q3 (by omega) (by omega) (by omega) (by omega)) (fun e s4 p4 q4=>?_)
   refine Ok.gen (nt q4 (by omega) (by simp) (by simp)) (fun f s5 p5 q5=>?_)
   refine Ok.gen (uT q5 (by omega) (by omega) (by omega)) (fun g s6 p6 q6=>?_)
   dsimp only
   refine (fun (H:∀ Q,(∀ (zs:List ak),zs.length≤ys.length+1→(∀ y∈zs,EZ y)→Ok (eT i s6.L s6.at_ zs) Q)→Ok (iX n10 ys i m ms (d,s3) (e,s4) (f,s5) s6.L s6.at_ (g&&decide (m=5))) Q)=>H _ (fun zs hl hb=>j1 _ _ zs hi (q6.less (by omega)) hl hb)) (fun Q J=>?_)
   have j5:∀ (rs:List Range),rs.length≤2→Ok (gr n10 ys i m ms (d,s3) s6.L s6.at_ rs) Q:=by
    intro rs hr
    unfold gr
    refine Ok.app (by simp;omega) ?_
    exact J _ (by simp) (TZ h3 ⟨by show ms.length≤2;omega,by show rs.length≤2;omega⟩)
   have j4:∀ (rs:List Range) (a1 a2 a3 a4 a5:Int) (c:Bool),rs.length≤1→Ok (gu n10 ys i m ms (d,s3) s6.L s6.at_ rs a1 a2 a3 a4 a5 c) Q:=by
    intro rs a1 a2 a3 a4 a5 c hr
    unfold gu
    split
    ·refine Ok.app (by simp;omega) ?_
     exact j5 _ (by simp;omega)
    ·exact j5 _ (by omega)
   have j3:∀ (rs:List Range) (a1 a2 a3 a4 a5:Int),rs.length≤1→Ok (gw n10 ys i m ms (d,s3) s6.L s6.at_ rs a1 a2 a3 a4 a5) Q:=by
    intro rs a1 a2 a3 a4 a5 hr
    unfold gw
    split
    ·exact j4 _ _ _ _ _ _ _ hr
    ·refine Ok.idx (by omega) (by omega) (fun r _ _=>?_)
     simp only [uw,aa]
     exact j4 _ _ _ _ _ _ _ hr
   unfold iX
   split
   ·refine Ok.app (by simp) ?_
    exact j3 _ _ _ _ _ _ (by simp)
   ·exact j3 _ _ _ _ _ _ (by simp)
 ·rename_i hi
  have hi:¬ i < 2:=by simpa using hi
  exact Ok.inr (Ok.ret ⟨l,n,ys,rfl,h1.less (by omega),by omega,h3⟩)
theorem Fz {s:zr} {K:Int} (hs:vS s K) (hK:48≤K):sq (lj s) (K - 48) Y7:=by
 unfold lj so
 refine sq.of ?_
 refine Ok.iter (fun x:(List Int)×Int×(List ak)×Int=>(6 - x.2.2.2).toNat) (fun x=>(2≤x.2.2.2∧x.2.2.2≤6)∧vS ⟨x.1,x.2.1⟩ (K - 12 * (x.2.2.2 - 2))∧(x.2.2.1.length:Int)≤2 * (x.2.2.2 - 2)∧∀ y∈x.2.2.1,EZ y) ?_ _ ⟨by simp,by simpa using hs,by simp,by simp⟩
 rintro ⟨l,n,ys,i⟩ ⟨h0,h1,h2,h3⟩
 dsimp only at h0 h1 h2 h3 ⊢
 unfold iZ
 split
 ·rename_i hi
  obtain ⟨r,e,l',n',zs,rfl,g1,g2,g3⟩:=Rc (n10:=i) ⟨h0.1,hi⟩ h1 (by omega) ⟨by omega,h3⟩
  exact ⟨_,e,⟨by dsimp only;omega,g1.less (by dsimp only;omega),by dsimp only;omega,g3⟩,by dsimp only;omega⟩
 ·exact Ok.inr (Ok.ret ⟨⟨by show ys.length≤8;omega,h3⟩,h1.less (by omega)⟩)
theorem Re {s:zr} {K:Int} (hs:vS s K) (hK:68≤K):sq (pR s) (K - 68) pa:=by
 unfold pR
 refine sq.of ?_
 refine Ok.gen (Fz hs (by omega)) (fun xs s1 h1 q1=>?_)
 dsimp only
 have e2:∀ (l:List Int) (n:Int) (ys:List ak),vS ⟨l,n⟩ (K - 68)→pa ys→Ok (mN l n ys) (fun r=>pa r.1∧vS r.2 (K - 68)):=fun l n ys hq hy=>Ok.ret ⟨hy,hq⟩
 unfold mQ
 have KW:∀ {i:Nat} {y:ak},Fs y→pa (xs.set i y):=fun hy=>⟨by simpa using h1.1,mem_set (fun x hx=>(h1.2 x hx).b) hy⟩
 split
 ·rename_i hp
  have hp:0 < xs.length:=by simpa using hp
  refine Ok.gen (uT q1 (by omega) (by omega) (by omega)) (fun b s2 p2 q2=>?_)
  dsimp only
  split
  ·refine Ok.gen (Ak q2 (by omega) (by omega) (by have:=h1.1;omega)) (fun i s3 p3 q3=>?_)
   refine Ok.idx p3.1 p3.2 (fun x hx hm=>?_)
   have hb:=h1.2 x hm
   refine Ok.gen (Ak q3 (by omega) (by omega) (by omega)) (fun c s4 p4 q4=>?_)
   unfold kK kL kM mP
   unfold kM
   unfold kL
   unfold kK
   dsimp only
   split
   ·refine Ok.gen (Ap q4 (by omega)) (fun v s5 p5 q5=>?_)
    exact e2 _ _ _ (q5.less (by omega)) (KW hb.b)
   ·split
    ·refine Ok.gen (Ak q4 (by omega) (by omega) (by omega)) (fun c s5 p5 q5=>?_)
     refine Ok.idx p5.1 (by simpa using p5.2) (fun ms hms HQ=>?_)
     refine e2 _ _ _ (q5.less (by omega)) (KW ⟨?_,hb.b.2⟩)
     simp only [al,eX,or_false] at HQ
     rcases HQ with h | h | h | h<;>subst h<;>simp
    ·split
     ·have zy:gy x.bF=some x.bF:=by
       unfold gy
       rw [lx (by have:=hb.2;simp;omega)];rfl
      refine Ok.is zy ?_
      refine Ok.gen (Ap q4 (by omega)) (fun v s5 p5 q5=>?_)
      refine Ok.gen (Ap q5 (by omega)) (fun w s6 p6 q6=>?_)
      have hf:=hb.2
      refine Ok.app (by simp;omega) ?_
      exact e2 _ _ _ (q6.less (by omega)) (KW ⟨hb.b.1,by simp;omega⟩)
     ·split
      ·exact e2 _ _ _ (q4.less (by omega)) (KW ⟨hb.b.1,by simp⟩)
      ·refine Ok.gen (uU q4 (by omega) (by omega) (by omega) (by omega)) (fun c s5 p5 q5=>?_)
       exact e2 _ _ _ (q5.less (by omega)) (KW hb.b)
  ·exact e2 _ _ _ (q2.less (by omega)) ⟨h1.1,fun x hx=>(h1.2 x hx).b⟩
 ·rw [if_neg (by simp)]
  exact e2 _ _ _ (q1.less (by omega)) ⟨h1.1,fun x hx=>(h1.2 x hx).b⟩
theorem HN {s:CS} {c:Campaign} (h:s.c_=c):(⟨c,s.nw,s.cL,s.open_,s.bt,s.aY,s.aN,s.bf,s.cw,s.kd⟩:CS)=s:=by rw [← h]
theorem LH {c:Campaign} {fl:List DeviceS} {l Z:List MarkS} (hc:jj c) (hf:jE fl) (FD:(fl.length:Int)≤500) (hl:(l.length:Int)≤10000) (hZ:(Z.length:Int)≤1000) (st t:Int) (w:aQ) (Kh:List MarkS):∀ (k n:Nat) (s:CS),n+k=Z.length→SX c fl s (l++Z.take n)→
 ∃ s',pt c st t (Z,w) Kh s.nw s.kd s.cL s.open_ s.bt s.aY s.aN s.bf s.cw (n:Int)=pr c st t (Z,w) Kh s'.nw s'.kd s'.cL s'.open_ s'.bt s'.aY s'.aN s'.bf s'.cw∧SX c fl s' (l++Z)∧s'.aN=s.aN∧s'.cw=s.cw:=by
 intro k
 induction k with
 | zero=>
   intro n s hn h
   have:Z.take n=Z:=cn (by omega)
   rw [this] at h
   refine ⟨s,?_,h,rfl,rfl⟩
   unfold pt
   rw [iter_eq]
   simp only
   unfold kO
   rw [if_neg (by simp only;omega),bb]
 | succ k ih=>
   intro n s hn h
   have GJ:n < Z.length:=by omega
   have hlen:(l++Z.take n).length≤l.length+Z.length:=by rw [aw,List.length_take];omega
   obtain ⟨r,r1,r2,r3,r4⟩:=Tt hc hf (by omega) (by omega) h Z[n]
   have htk:l++Z.take n++[Z[n]]=l++Z.take (n+1):=by
    rw [cb,List.take_add_one,ce GJ];rfl
   rw [htk] at r2
   obtain ⟨s',e1,e2,e3,e4⟩:=ih (n+1) r (by omega) r2
   refine ⟨s',?_,e2,by rw [e3,r3],by rw [e4,r4]⟩
   rw [← e1]
   conv=>lhs;unfold pt
   rw [iter_eq]
   simp only
   unfold kO
   rw [if_pos (by simp only;omega),oP (ce GJ)]
   simp only [aa]
   rw [HN h.c_,r1]
   simp only [aa,bD]
   rw [bn (by omega) (by omega)]
   rfl
theorem T2 {c:Campaign} {fl:List DeviceS} {l Z:List MarkS} {t:Int} (H:Dm c fl l) (ht:0≤t∧t≤345686399999) (eI:∀ x∈l,x.At < t) (hP:∀ m∈Z,Xj c fl l t m) (hZ:Z.Pairwise (fun a b=>mO a b < 0)) (hl:((l++Z).length:Int)≤3000):Dm c fl (l++Z):=by
 refine ⟨H.c_,H.f_,H.UL,fun x hx=>?_,?_,hl⟩
 ·rcases ad.1 hx with h | h
  ·exact H.m_ x h
  ·have:=(hP x h).at_
   have:=(hP x h).kind
   exact ⟨by omega,by omega⟩
 ·rw [cp]
  refine ⟨H.s_,hZ,fun a ha b hb=>?_⟩
  have h1:=eI a ha
  have h2:=(hP b hb).at_
  unfold mO
  have:dZ a.At b.At < 0:=by unfold dZ;split<;>omega
  rw [if_pos (by omega)]
  exact this
theorem Od {c:Campaign} {fl:List DeviceS} (hs:fl.Pairwise (fun a b=>Lib.compareBytes a.Key b.Key < 0)) (Xi:fl.length≤10) (im:List ak) (hx:pa im) (gN:iO im) (fa:List bj) (Kj:fa.length≤1000) (st:Int) (Ca:1≤st∧st≤2592000000) (w:eQ) (hw:w.To≤345686400000):
 ∀ (k:Nat) (t T:Int) (s:CS) (K:WM) (l:List MarkS),(w.To - t).toNat≤k→Dm c fl l→SX c fl s l→Std c fl l T s→JB c fl l→(∀ x∈l,x.At≤T)→-1≤T→T < t→yP im c.Target K→
 ∃ R,kP c fl st fa w s.nw s.kd s.cL s.open_ s.bt s.aY s.aN s.bf s.cw im c.Target.aA c.Target.aD c.Target.aF K l t=some R∧rb c im fl st fa w l t=some R∧R.1.length≤3000:=by
 intro k
 induction k with
 | zero=>
   intro t T s K l hk H h hP hJ hl hT hTt hK
   have Wl:=H.l_
   refine ⟨(l,0),?_,?_,by simp only;omega⟩
   ·unfold kP
    rw [iter_eq]
    simp only
    unfold gV
    rw [if_neg (by omega),bb]
   ·unfold rb
    rw [iter_eq]
    simp only
    unfold ny
    rw [if_neg (by omega),bb]
 | succ k ih=>
   intro t T s K l hk H h hP hJ hl hT hTt hK
   have Wl:=H.l_
   by_cases ht:t < w.To
   ·have Uw:0≤t∧t≤345686399999:=by omega
    have eI:∀ x∈l,x.At < t:=fun x hx=>by have:=hl x hx;omega
    have hbn:fl.length * l.length≤10 * 3000:=Nat.mul_le_mul Xi (by omega)
    have hb:(fl.length * l.length:Int)≤100000:=by
     have:((fl.length * l.length:Nat):Int)=(fl.length * l.length:Int):=by push_cast;rfl
     omega
    obtain ⟨r,r1,r2,r3,r4⟩:=TT H ⟨hT,hTt⟩ Uw.2 hl h hP
    obtain ⟨Z,K',z1,z2,z3,z4,z5,z6,z7⟩:=Oc H hs (by omega) im hx gN r3 r4 hJ eI Uw hb K hK fa Kj st
    have T3:app l Z=some (l++Z):=lx (by omega)
    have e1:(⟨c,s.nw,s.cL,s.open_,s.bt,s.aY,s.aN,s.bf,s.cw,s.kd⟩:CS)=s:=HN h.c_
    have e2:(⟨c,s.nw,s.cL,r.open_,r.bt,r.aY,r.aN,r.bf,r.cw,s.kd⟩:CS)=r:=by
     obtain ⟨a1,a2,a3,a4⟩:=r2
     rw [← a2,← a3,← a4]
     exact HN r3.c_
    have z1':iF r ⟨im,⟨c.Target.aA,c.Target.aD,c.Target.aF⟩,K⟩ fl fa t=some (Z,⟨im,c.Target,K'⟩):=z1
    by_cases h3:(3000:Int) < ((l++Z).length:Int)
    ·refine ⟨([],2),?_,?_,by simp⟩
     ·unfold kP
      rw [iter_eq]
      simp only
      unfold gV
      rw [if_pos ht,e1,r1]
      simp only [aa]
      rw [e2,z1']
      simp only [aa]
      rw [T3]
      simp only [aa]
      rw [if_pos h3,bb]
     ·unfold rb
      rw [iter_eq]
      simp only
      unfold ny
      rw [if_pos ht,z7,T3]
      simp only [aa]
      rw [if_pos h3,bb]
    ·have H':Dm c fl (l++Z):=T2 H Uw eI z4 z5 (by omega)
     obtain ⟨s2,m1,m2,m3,m4⟩:=LH H.c_ H.f_ H.UL (l:=l) (Z:=Z) (by omega) (by omega) st t ⟨im,c.Target,K'⟩ (l++Z) Z.length 0 r (by omega) (by rw [List.take_zero,bW];exact r3)
     have ac6:Std c fl l t s2:=by
      unfold Std at r4 ⊢
      rw [m3,m4];exact r4
     obtain ⟨q,q1,q2,q3,q4⟩:=TR H' z3 z4 eI Uw m2 ac6
     have hle:=LG H.f_ z3 z4 eI
     obtain ⟨R,R1,R2,R3⟩:=ih (t+st) t q K' (l++Z) (by omega) H' q3 q4 (TQ H.f_ z3 z4 hJ) hle (by omega) (by omega) z2
     refine ⟨R,?_,?_,R3⟩
     ·rw [← R1]
      conv=>lhs;unfold kP
      rw [iter_eq]
      simp only
      unfold gV
      rw [if_pos ht,e1,r1]
      simp only [aa]
      rw [e2,z1']
      simp only [aa]
      rw [T3]
      simp only [aa]
      rw [if_neg h3]
      obtain ⟨a1,a2,a3,a4⟩:=r2
      rw [← a2,← a3,← a4]
      have m1':=m1
      rw [show ((0:Nat):Int)=0 from rfl] at m1'
      rw [m1']
      unfold pr
      rw [HN m2.c_,q1]
      simp only [aa,bD]
      obtain ⟨b1,b2,b3,b4⟩:=q2
      rw [← b2,← b3,← b4,bn (by omega) (by omega)]
      rfl
     ·rw [← R2]
      conv=>lhs;unfold rb
      rw [iter_eq]
      simp only
      unfold ny
      rw [if_pos ht,z7,T3]
      simp only [aa]
      rw [if_neg h3]
      simp only [aa,bD]
      rw [bn (by omega) (by omega)]
      rfl
   ·refine ⟨(l,0),?_,?_,by simp only;omega⟩
    ·unfold kP
     rw [iter_eq]
     simp only
     unfold gV
     rw [if_neg ht,bb]
    ·unfold rb
     rw [iter_eq]
     simp only
     unfold ny
     rw [if_neg ht,bb]
theorem Rf {c:Campaign} {fl:List DeviceS} (hc:jj c) (hf:jE fl) (hs:fl.Pairwise (fun a b=>Lib.compareBytes a.Key b.Key < 0)) (Xi:fl.length≤10) (im:List ak) (hx:pa im) (gN:iO im) (fa:List bj) (Kj:fa.length≤1000) (st:Int) (Ca:1≤st∧st≤2592000000) (w:eQ) (hw:0≤w.bF∧w.To≤345686400000):
 ∃ R,gW c im fl st fa w false=some R∧wC c im fl st fa w=some R∧R.1.length≤3000:=by
 obtain ⟨v,v1,v2,v3,v4⟩:=JE c fl hc hf (by omega)
 have hcm:=hc.UI
 have hP:Std c fl [] (-1) v:=by
  refine .inr ⟨?_,?_,fun nx hn=>?_⟩
  ·rw [v3];exact .nil
  ·rw [v3,v4];unfold dG;rw [if_pos be];rfl
  ·rw [v3] at hn
   unfold dG at hn
   rw [if_pos be] at hn
   have:=ac hn
   left;omega
 have hJ:JB c fl []:=fun d hd hb=>by
  have:jk c [] d=x0 d:=rfl
  rw [this] at hb
  cases hb
 obtain ⟨R,R1,R2,R3⟩:=Od hs Xi im hx gN fa Kj st Ca w hw.2 (w.To - w.bF).toNat w.bF (-1) v [] [] (by omega) ⟨hc,hf,by omega,by simp,.nil,by simp⟩ v2 hP hJ (by simp) (by omega) (by omega) (.nil im c.Target)
 refine ⟨R,?_,?_,R3⟩
 ·unfold gW
  rw [if_neg (by simp),v1]
  simp only [aa]
  exact R1
 ·unfold wC
  exact R2
theorem Rg {s:zr} {K:Int} (hs:vS s K) (hK:60≤K):sq (rB s 4) (K - 60) (fun l=>l.length≤6):=by
 refine sq.of ?_
 have hr:sq (lT s 4) (K - 30) (fun l=>l.length≤6):=by
  refine sq.of ?_
  unfold lT
  rw [show Cj [([100,49]:bj),([100,50]:bj),([100,51]:bj),([100,52]:bj),([100,53]:bj),([100,54]:bj)] (0:Int) 4=some [([100,49]:bj),([100,50]:bj),([100,51]:bj),([100,52]:bj)] from rfl]
  simp only [aa]
  unfold tu
  refine Ok.iter (fun x:List Int×Int×List DeviceS×Int=>(4 - x.2.2.2).toNat) (fun x:List Int×Int×List DeviceS×Int=>0≤x.2.2.2∧x.2.2.2≤4∧vS ⟨x.1,x.2.1⟩ (K - 30+4 * (4 - x.2.2.2))∧(x.2.2.1.length:Int)≤x.2.2.2) ?_ _ ⟨by simp,by simp,hs.less (by simp only;omega),by simp⟩
  rintro ⟨L,a,l,n⟩ ⟨g0,g1,g2,g3⟩
  simp only at g0 g1 g2 g3 ⊢
  unfold jx
  by_cases hn:n < 4
  ·rw [if_pos (by simpa using hn)]
   refine Ok.idx g0 (by simpa using hn) (fun p hp _=>?_)
   refine Ok.gen (uT g2 (by omega) (by omega) (by omega)) (fun b s2 _ q2=>?_)
   dsimp only
   unfold jw
   rw [bn (by omega) (by omega)]
   split
   ·refine Ok.gen (ED q2 (by omega) (by simp) (by simp)) (fun u s6 _ q6=>?_)
    refine Ok.gen (nt q6 (by omega) (by simp) (by simp)) (fun v s7 _ q7=>?_)
    refine Ok.gen (nt q7 (by omega) (by simp) (by simp)) (fun w s8 _ q8=>?_)
    refine Ok.app (by simp;omega) ?_
    exact Ok.ret ⟨⟨by simp only;omega,by simp only;omega,q8.less (by simp only;omega),by simp;omega⟩,by simp only;omega⟩
   ·exact Ok.ret ⟨⟨by simp only;omega,by simp only;omega,q2.less (by simp only;omega),by simp only;omega⟩,by simp only;omega⟩
  ·rw [if_neg (by simpa using hn)]
   exact Ok.inr (Ok.ret ⟨by simp only;omega,g2.less (by omega)⟩)
 unfold rB
 refine Ok.gen hr (fun l s1 hl q1=>?_)
 dsimp only
 unfold nX nW
 split
 ·rename_i tI
  refine Ok.gen (uT q1 (by omega) (by omega) (by omega)) (fun b s2 _ q2=>?_)
  dsimp only
  split
  ·refine Ok.gen (Ak q2 (by omega) (by omega) (by omega)) (fun n s3 hn q3=>?_)
   dsimp only
   refine Ok.idx hn.1 hn.2 (fun p hp _=>?_)
   refine Ok.gen (ED q3 (by omega) (by simp) (by simp)) (fun u s4 _ q4=>?_)
   refine Ok.gen (ED q4 (by omega) (by simp) (by simp)) (fun v s5 _ q5=>?_)
   refine Ok.gen (Gj q5 (by omega)) (fun w s6 _ q6=>?_)
   exact Ok.ret ⟨by simpa using hl,q6.less (by omega)⟩
  ·exact Ok.ret ⟨hl,q2.less (by omega)⟩
 ·rw [if_neg (by simp)]
  exact Ok.ret ⟨hl,q1.less (by omega)⟩
theorem oE (a:Int) (r:List Int):rk (a :: r)=if a≠0 then a else rk r:=by
 simp only [rk]
theorem vH {a:Int} {r:List Int} (h:rk (a :: r)=0):a=0∧rk r=0:=by
 rw [oE] at h
 by_cases ha:a=0
 ·exact ⟨ha,by simpa [ha] using h⟩
 ·rw [if_pos ha] at h;exact absurd h ha
def Dn (st:Int):Int:=if 1≤st∧st≤2592000000 then 0 else 1
def u3 (w:eQ):Int:=if (0≤w.bF∧w.bF≤w.To)∧w.To≤345686400000 then 0 else 1
theorem WB (st:Int):fV st 1 2592000000=decide (Dn st≠0):=by
 rw [uV]
 unfold Dn
 by_cases h1:1≤st<;>by_cases h2:st≤2592000000
 ·rw [if_pos ⟨h1,h2⟩,decide_eq_false (by omega),decide_eq_false (by omega)];rfl
 ·rw [if_neg (fun e=>h2 e.2),decide_eq_true (show (2592000000:Int) < st by omega)];simp
 ·rw [if_neg (fun e=>h1 e.1),decide_eq_true (show st < 1 by omega)];simp
 ·rw [if_neg (fun e=>h1 e.1),decide_eq_true (show st < 1 by omega)];simp
theorem MM (st:Int):(st < 1→pK true 1=Dn st)∧(¬ st < 1→pK (decide ((2592000000:Int) < st)) 1=Dn st):=by
 unfold pK Dn
 refine ⟨fun h=>?_,fun h=>?_⟩
 ·rw [if_pos rfl,if_neg (by omega)]
 ·by_cases h2:st≤2592000000
  ·rw [if_neg (by simpa using h2),if_pos (by omega)]
  ·rw [if_pos (by simp;omega),if_neg (by omega)]
theorem Y8 (w:eQ):(!(tv w))=decide (u3 w≠0):=by
 unfold tv rD u3
 rw [uV]
 by_cases h1:0≤w.bF<;>by_cases h2:w.bF≤w.To<;>by_cases h3:w.To≤345686400000<;>simp [h1,h2,h3,Int.not_lt,Int.not_le]<;>omega
theorem Y9 (w:eQ):il w=u3 w:=by
 unfold il pB u3
 rw [yA]
 by_cases h1:0≤w.bF<;>by_cases h2:w.bF≤w.To<;>by_cases h3:w.To≤345686400000<;>simp [h1,h2,h3,Int.not_lt,Int.not_le]<;>omega
theorem Za (st:Int):Dn st=0∨Dn st=1:=by unfold Dn;split<;>simp
theorem Zb (w:eQ):u3 w=0∨u3 w=1:=by unfold u3;split<;>simp
theorem T6 {c:Campaign} {r i:Int} (hr:dL c=some r) (hR:r=0→jj c) {im:List ak} (hx:pa im) (hi:er im=some i) (hI:i=0→iO im) (fl:List DeviceS) (h10:fl.length≤10) (st:Int) (fa:List bj) (Kj:fa.length≤10) (w:eQ):
 (rk [r,i,sh fl,Dn st,u3 w]≠0→ik c im fl st fa w=some ([],rk [r,i,sh fl,Dn st,u3 w]))∧
 (rk [r,i,sh fl,Dn st,u3 w]=0→∃ q,quo (bE ((bE ((bE (w.To - w.bF))+st)) - 1)) st=some q∧((500:Int) < q→ik c im fl st fa w=some ([],1))∧(¬ (500:Int) < q→∃ R,ik c im fl st fa w=some R∧wC c im fl st fa w=some R∧R.1.length≤3000)):=by
 have h0:ik c im fl st fa w=if rk [r,i,sh fl]≠0 then some ([],rk [r,i,sh fl]) else if Dn st≠0 then some ([],1) else if u3 w≠0 then some ([],1) else (quo (bE ((bE ((bE (w.To - w.bF))+st)) - 1)) st).bind fun n11=>gW c im fl st fa w (decide ((500:Int) < n11)):=by
  unfold ik
  rw [hr,hi,Ft]
  simp only [aa]
  rw [Qb _ (by simp)]
  simp only [aa]
  rw [WB,Y8,if_neg (show ¬ (500:Int) < (fa.length:Int) by omega)]
  simp only [decide_eq_true_eq]
  rfl
 rw [h0]
 refine ⟨fun h=>?_,fun h=>?_⟩
 ·by_cases h3:rk [r,i,sh fl]=0
  ·obtain ⟨g1,k1⟩:=vH h3
   obtain ⟨g2,k2⟩:=vH k1
   obtain ⟨g3,_⟩:=vH k2
   rw [if_neg (by simpa using h3)]
   rw [oE,oE i,oE (sh fl),g1,g2,g3] at h ⊢
   simp only [ne_eq,not_true_eq_false,if_false] at h ⊢
   rcases Za st with e | e<;>rcases Zb w with e' | e'<;>rw [e,e'] at h ⊢<;>simp [rk] at h ⊢
  ·rw [if_pos h3]
   have:rk [r,i,sh fl]=rk [r,i,sh fl,Dn st,u3 w]:=by
    rw [oE,oE i,oE (sh fl),oE r [i,sh fl,Dn st,u3 w],oE i [sh fl,Dn st,u3 w],oE (sh fl) [Dn st,u3 w]] at *
    by_cases a:r=0<;>by_cases b:i=0<;>by_cases d:sh fl=0<;>simp [a,b,d,rk] at h3 ⊢
   rw [this]
 ·obtain ⟨g1,h2⟩:=vH h
  obtain ⟨g2,h3⟩:=vH h2
  obtain ⟨g3,h4⟩:=vH h3
  obtain ⟨g4,h5⟩:=vH h4
  obtain ⟨g5,_⟩:=vH h5
  have Ca:1≤st∧st≤2592000000:=by
   unfold Dn at g4
   split at g4
   ·assumption
   ·cases g4
  have hw:(0≤w.bF∧w.bF≤w.To)∧w.To≤345686400000:=by
   unfold u3 at g5
   split at g5
   ·assumption
   ·cases g5
  have hq:=P3 (a:=bE ((bE ((bE (w.To - w.bF))+st)) - 1)) (b:=st) (by omega)
  refine ⟨_,hq,fun h5=>?_,fun h5=>?_⟩
  ·rw [if_neg (by rw [g1,g2,g3];decide),if_neg (by simpa using g4),if_neg (by simpa using g5),hq]
   simp only [aa]
   rw [decide_eq_true h5]
   unfold gW
   rw [if_pos rfl]
  ·rw [if_neg (by rw [g1,g2,g3];decide),if_neg (by simpa using g4),if_neg (by simpa using g5),hq]
   simp only [aa]
   rw [decide_eq_false h5]
   obtain ⟨hf,FD⟩:=Wc g3
   have hs:fl.Pairwise (fun a b=>Lib.compareBytes a.Key b.Key < 0):=by
    unfold sh at g3
    rw [if_neg (by omega)] at g3
    exact (HD g3).2.1
   exact Rf (hR g1) hf hs h10 im hx (hI g2) fa (by omega) st Ca w ⟨hw.1.1,hw.2⟩
theorem T7 {c:Campaign} {im:List ak} (Dy:pa im) {fl:List DeviceS} (hf:fl.length≤6) (s1 s2 s3 s4:zr) (st n19 n20:Int) (fa:List bj) (Kj:fa.length≤10):Ok (mb (c,s1) (im,s2) (fl,s3) (st,s4) n19 n20 fa) (fun r=>r=true):=by
 obtain ⟨r,r1,r2⟩:=Fv c
 obtain ⟨i,i1,i2⟩:=N2 im Dy
 obtain ⟨d1,d2⟩:=T6 r1 r2 Dy i1 i2 fl (by omega) st fa Kj ⟨n19,n20⟩
 have tail:∀ (v:List MarkS×Int) (L:List MarkS) (e:Int),v=(L,e)→L.length≤3000→Ok (gY v e L) (fun r=>r=true):=by
  rintro v L e rfl hL
  unfold gY
  rw [if_pos rfl]
  simp only
  rw [show kA L L=some (decide (L=L)) from NB L L (by omega)]
  simp only [aa,decide_true,if_true]
  rw [Ht]
  exact Ok.ret rfl
 have j4:∀ v,ik c im fl st fa ⟨n19,n20⟩=some v→Ok (gZ (c,s1) (im,s2) (fl,s3) (st,s4) n19 n20 fa v (rk [r,i,sh fl,Dn st,u3 ⟨n19,n20⟩])) (fun r=>r=true):=by
  intro v hv
  unfold gZ
  by_cases h:rk [r,i,sh fl,Dn st,u3 ⟨n19,n20⟩]=0
  ·obtain ⟨q,q1,q2,q3⟩:=d2 h
   rw [if_pos h]
   simp only at q1 ⊢
   rw [q1]
   simp only [aa]
   unfold jB
   by_cases h5:(500:Int) < q
   ·have e1:pK (decide ((500:Int) < q)) 1=1:=by unfold pK;rw [if_pos (by simpa using h5)]
    rw [e1,if_neg (by decide)]
    exact tail v [] 1 (ac (hv.symm.trans (q2 h5))) (by simp)
   ·have e1:pK (decide ((500:Int) < q)) 1=0:=by unfold pK;rw [if_neg (by simpa using h5)]
    rw [e1,if_pos rfl]
    obtain ⟨R,R1,R2,R3⟩:=q3 h5
    rw [R2]
    simp only [aa]
    exact tail v R.1 R.2 (ac (hv.symm.trans R1)) R3
  ·rw [if_neg h]
   exact tail v [] _ (ac (hv.symm.trans (d1 h))) (by simp)
 have hO:∃ v,ik c im fl st fa ⟨n19,n20⟩=some v:=by
  by_cases h:rk [r,i,sh fl,Dn st,u3 ⟨n19,n20⟩]=0
  ·obtain ⟨q,q1,q2,q3⟩:=d2 h
   by_cases h5:(500:Int) < q
   ·exact ⟨_,q2 h5⟩
   ·obtain ⟨R,R1,_⟩:=q3 h5
    exact ⟨R,R1⟩
  ·exact ⟨_,d1 h⟩
 obtain ⟨v,hv⟩:=hO
 unfold mb
 simp only
 rw [hv,Hw,r1,← Lq,i1,Fu,Y9]
 simp only [aa]
 by_cases h:st < 1
 ·rw [if_pos h,(MM st).1 h,show BL [r,i,sh fl,Dn st,u3 ⟨n19,n20⟩]=some (rk [r,i,sh fl,Dn st,u3 ⟨n19,n20⟩]) from Ai _ (by simp)]
  exact j4 v hv
 ·rw [if_neg h,(MM st).2 h,show BL [r,i,sh fl,Dn st,u3 ⟨n19,n20⟩]=some (rk [r,i,sh fl,Dn st,u3 ⟨n19,n20⟩]) from Ai _ (by simp)]
  exact j4 v hv
theorem xY (L:List Int):mc L=some true:=by
 have key:Ok (mc L) (fun r=>r=true):=by
  unfold mc
  refine Ok.gen (Lt (s:=⟨L,0⟩) (K:=1000) ⟨by simp,by simp⟩ (by omega)) (fun c s1 hc q1=>?_)
  refine Ok.gen (Re q1 (by omega)) (fun im s2 Dy q2=>?_)
  refine Ok.gen (Rg q2 (by omega)) (fun fl s3 hf q3=>?_)
  refine Ok.gen (nt q3 (by omega) (by simp) (by simp)) (fun st s4 _ q4=>?_)
  refine Ok.gen (nt q4 (by omega) (by simp) (by simp)) (fun fr s5 _ q5=>?_)
  refine Ok.gen (nt q5 (by omega) (by simp) (by simp)) (fun to s6 _ q6=>?_)
  dsimp only
  have j2:∀ (s:zr) (K a b:Int),vS s K→4≤K→Ok (ia (c,s1) (im,s2) (fl,s3) (st,s4) s.L s.at_ a b) (fun r=>r=true):=by
   intro s K a b hs hK
   unfold ia tD
   refine Ok.iter (fun x:List Int×Int×List bj×Int=>(2 - x.2.2.2).toNat) (fun x:List Int×Int×List bj×Int=>0≤x.2.2.2∧x.2.2.2≤2∧vS ⟨x.1,x.2.1⟩ (K - x.2.2.2)∧(x.2.2.1.length:Int)≤x.2.2.2) ?_ _ ⟨by simp,by simp,hs.less (by simp only;omega),by simp⟩
   rintro ⟨M,p,l,n⟩ ⟨g0,g1,g2,g3⟩
   simp only at g0 g1 g2 g3 ⊢
   unfold jC
   by_cases hn:n < 2
   ·rw [if_pos (by simpa using hn)]
    refine Ok.idx g0 (by simpa using hn) (fun y hy _=>?_)
    refine Ok.gen (uT g2 (by omega) (by omega) (by omega)) (fun u s7 _ q7=>?_)
    dsimp only
    have j3:∀ l':List bj,(l'.length:Int)≤n+1→Ok (gX n (u,s7) l') (Rz (fun x:List Int×Int×List bj×Int=>(2 - x.2.2.2).toNat) (fun x:List Int×Int×List bj×Int=>0≤x.2.2.2∧x.2.2.2≤2∧vS ⟨x.1,x.2.1⟩ (K - x.2.2.2)∧(x.2.2.1.length:Int)≤x.2.2.2) (fun r=>r=true) (M,p,l,n)):=by
     intro l' FC
     unfold gX
     rw [bn (by omega) (by omega)]
     exact Ok.ret ⟨⟨by simp only;omega,by simp only;omega,q7.less (by simp only;omega),by simp only;omega⟩,by simp only;omega⟩
    split
    ·refine Ok.app (by simp;omega) ?_
     exact j3 _ (by simp;omega)
    ·exact j3 _ (by omega)
   ·rw [if_neg (by simpa using hn)]
    exact Ok.inr (T7 Dy hf s1 s2 s3 s4 st a b l (by omega))
  have j1:∀ (s:zr) (K b:Int),vS s K→20≤K→Ok (ib (c,s1) (im,s2) (fl,s3) (st,s4) (fr,s5) s.L s.at_ b) (fun r=>r=true):=by
   intro s K b hs hK
   unfold ib
   refine Ok.gen (uT (s:=⟨s.L,s.at_⟩) hs (by omega) (by omega) (by omega)) (fun u s7 _ q7=>?_)
   dsimp only
   split
   ·refine Ok.gen (uU q7 (by omega) (by omega) (by omega) (by omega)) (fun a s8 _ q8=>?_)
    refine Ok.gen (uU q8 (by omega) (by omega) (by omega) (by omega)) (fun b' s9 _ q9=>?_)
    exact j2 s9 _ _ _ q9 (by omega)
   ·exact j2 s7 _ _ _ q7 (by omega)
  split
  ·refine Ok.gen (nt q6 (by omega) (by simp) (by simp)) (fun y s7 _ q7=>?_)
   exact j1 s7 _ _ q7 (by omega)
  ·exact j1 s6 _ _ q6 (by omega)
 obtain ⟨r,h1,rfl⟩:=key
 exact h1
end Go.Beacon
