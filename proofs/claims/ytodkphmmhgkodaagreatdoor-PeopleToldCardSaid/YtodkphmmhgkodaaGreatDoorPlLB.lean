/- Plain facts on what the functions compute. No program in sight. -/
import Derived.Test.YtodkphmmhgkodaaGreatDoorPlLA
set_option linter.unusedVariables false
set_option linter.unusedSimpArgs false
namespace Go.Beacon
open Go Go.Eng
section
variable {α:Type}
abbrev sR (a b:Int):Int:=aL (cd .u64 (IntKind.u64.wrap (aL (a+b))) (1:Int))
abbrev xB (α:Type):=(List α)→Int→Int→Int→(α→α→Option Int)→Option (List α)
noncomputable def Ia (self:xB α) (ah:Int) (ao:Int) (aD:Int) (cG:α→α→Option Int) (n39:Int) (vT:List α) (IS:Bool):Option (List α):=
 if IS=true then
  (fO vT.length (fun r:(List α)=>r.length) (self vT (sR ah aD) (aL ((aL ((sR ah aD)+ao)) - n39)) aD cG)).bind fun v54=>
  some v54
 else
  some vT
noncomputable def w5 (self:xB α) (ah:Int) (ao:Int) (aD:Int) (cG:α→α→Option Int) (n39:Int) (vT:List α):Option (List α):=
 Ia self ah ao aD cG n39 vT ((decide ((sR ah aD) < (aL ((aL ((sR ah aD)+ao)) - n39))))&&(decide ((aL ((aL ((sR ah aD)+ao)) - n39)) < aD)))
noncomputable def Ib (self:xB α) (ah:Int) (ao:Int) (aD:Int) (cG:α→α→Option Int) (n39:Int) (tH:List α) (c49:Bool):Option (List α):=
 if c49=true then
  (fO tH.length (fun r:(List α)=>r.length) (self tH ah n39 (sR ah aD) cG)).bind fun v51=>
  w5 self ah ao aD cG n39 v51
 else
  w5 self ah ao aD cG n39 tH
noncomputable def zf (self:xB α) (ah:Int) (ao:Int) (aD:Int) (cG:α→α→Option Int) (n39:Int) (tH:List α):Option (List α):=
 Ib self ah ao aD cG n39 tH ((decide (ah < n39))&&(decide (n39 < (sR ah aD))))
noncomputable def uU (self:xB α) (ab:List α) (ah:Int) (ao:Int) (aD:Int) (cG:α→α→Option Int) (n39:Int) (IT:Bool):Option (List α):=
 if IT=true then
  (fO ab.length (fun r:(List α)=>r.length) (PE ab n39 ao (aL ((aL ((sR ah aD)+ao)) - n39)))).bind fun bQ=>
  zf self ah ao aD cG n39 bQ
 else
  zf self ah ao aD cG n39 ab
noncomputable def A2 (self:xB α) (ab:List α) (ah:Int) (ao:Int) (aD:Int) (cG:α→α→Option Int) (n39:Int) (n40:Int):Option ((Int×Int)⊕(List α)):=
 if n39 < n40 then
  (idx ab (aL ((aL ((aL ((sR ah aD)+ao)) - (1:Int))) - (sR n39 n40)))).bind fun v41=>
  (idx ab (sR n39 n40)).bind fun vq=>
  (cG v41 vq).bind fun wR=>
  if ¬ (wR < (0:Int)) then
   some (.inl (aL ((sR n39 n40)+(1:Int)),n40))
  else
   some (.inl (n39,sR n39 n40))
 else
  Option.map .inr (uU self ab ah ao aD cG n39 ((decide (n39 < ao))&&(decide (ao < (aL ((aL ((sR ah aD)+ao)) - n39))))))
noncomputable def qG (self:xB α) (ab:List α) (ah:Int) (ao:Int) (aD:Int) (cG:α→α→Option Int) (n39:Int) (n40:Int):Option (List α):=
 iter (fun x:Int×Int=>A2 self ab ah ao aD cG x.1 x.2) (n39,n40)
noncomputable def A3 (self:xB α) (ab:List α) (ah:Int) (ao:Int) (aD:Int) (cG:α→α→Option Int):Option (List α):=
 if (aL (ao - ah))=(1:Int) then
  uS ab ah cG ao aD
 else
  if (aL (aD - ao))=(1:Int) then
   uT ab ao cG ah ao
  else
   if (sR ah aD) < ao then
    qG self ab ah ao aD cG (aL ((aL ((sR ah aD)+ao)) - aD)) (sR ah aD)
   else
    qG self ab ah ao aD cG ah ao
noncomputable def mQ:Nat→xB α
 | 0=>fun _ _ _ _ _=>none
 | k+1=>A3 (mQ k)
variable {c:α→α→Int} (f:α→α→Option Int) (hf:∀ a b,f a b=some (c a b))
include hf
theorem Cj (self:xB α) (P S T R:List α) (hl:(P++S++T++R).length≤1000000) (Wf:1≤S.length) (Wg:1≤T.length) (a m b mN lo hi:Nat) (ha:a=P.length) (hm:m=P.length+S.length) (hb:b=P.length+S.length+T.length) (Bt:mN=(a+b) / 2)
 (hlh:(mN < m∧lo=mN+m - b∧hi=mN)∨(m≤mN∧lo=a∧hi=m)):
 ∃ k1 k2:Nat,k1≤S.length∧k2≤T.length∧a+k1+k2=mN∧
   (∀ x∈S.take k1,∀ y∈T.drop k2,(k1=0∨k2=T.length∨∃ (h1:k1 - 1 < S.length) (h2:k2 < T.length),¬ c T[k2] S[k1 - 1] < 0))∧
   (k1=0∨k2=T.length∨∃ (h1:k1 - 1 < S.length) (h2:k2 < T.length),¬ c T[k2] S[k1 - 1] < 0)∧
   (k1=S.length∨k2=0∨∃ (h1:k1 < S.length) (h2:k2 - 1 < T.length),c T[k2 - 1] S[k1] < 0)∧
   qG self (P++S++T++R) a m b f lo hi=uU self (P++S++T++R) a m b f ((a+k1:Nat):Int) (decide (k1 < S.length)&&decide (0 < k2)):=by
 have x4:P.length+S.length+T.length+R.length≤1000000:=by simp only [List.length_append] at hl;omega
 have Ha:sR a b=(mN:Int):=by unfold sR;rw [ze (by omega),← Bt]
 have key:∀ (fuel i j:Nat),j - i≤fuel→lo≤i→i≤j→j≤hi→
  (i=lo∨∃ (h1:i - 1 - a < S.length) (h2:mN+m - i - m < T.length),a+1≤i∧m≤mN+m - i∧¬ c T[mN+m - i - m] S[i - 1 - a] < 0)→
  (j=hi∨∃ (h1:j - a < S.length) (h2:mN+m - 1 - j - m < T.length),a≤j∧m+j+1≤mN+m∧c T[mN+m - 1 - j - m] S[j - a] < 0)→
  ∃ st:Nat,lo≤st∧st≤hi∧(st=lo∨∃ (h1:st - 1 - a < S.length) (h2:mN+m - st - m < T.length),a+1≤st∧m≤mN+m - st∧¬ c T[mN+m - st - m] S[st - 1 - a] < 0)∧
  (st=hi∨∃ (h1:st - a < S.length) (h2:mN+m - 1 - st - m < T.length),a≤st∧m+st+1≤mN+m∧c T[mN+m - 1 - st - m] S[st - a] < 0)∧
  qG self (P++S++T++R) a m b f i j=uU self (P++S++T++R) a m b f (st:Int) (decide (st < m)&&decide (m < mN+m - st)):=by
  intro fuel
  have fin:∀ i:Nat,lo≤i→i≤hi→qG self (P++S++T++R) a m b f i i=uU self (P++S++T++R) a m b f (i:Int) (decide (i < m)&&decide (m < mN+m - i)):=by
   intro i h1 h2
   unfold qG
   refine zd ?_
   unfold A2
   rw [if_neg (by simp only;omega),Ha,aU (x:=(mN:Int)+m) (by omega) (by omega),aU (x:=(mN:Int)+m - i) (by omega) (by omega)]
   have e1:decide ((i:Int) < (m:Int))=decide (i < m):=decide_eq_decide.2 (by omega)
   have e2:decide ((m:Int) < (mN:Int)+m - i)=decide (m < mN+m - i):=decide_eq_decide.2 (by omega)
   simp only [e1,e2]
  induction fuel with
  | zero=>
    intro i j Sw Bm Bl hj h1 h2
    have:i=j:=by clear h1 h2;omega
    subst this
    exact ⟨i,Bm,hj,h1,h2,fin i Bm hj⟩
  | succ fuel ih=>
    intro i j Sw Bm Bl hj h1 h2
    by_cases e:i=j
    ·subst e
     exact ⟨i,Bm,hj,h1,h2,fin i Bm hj⟩
    ·obtain ⟨q,hq⟩:∃ q,q=(i+j) / 2:=⟨_,rfl⟩
     have Ro:i≤q∧q < j:=by clear h1 h2;omega
     have Oy:q - a < S.length∧a≤q:=by clear h1 h2;omega
     have Ox:mN+m - 1 - q - m < T.length∧m+q+1≤mN+m:=by clear h1 h2;omega
     have hQ:sR i j=(q:Int):=by unfold sR;rw [ze (by clear h1 h2;omega),← hq]
     have i1:idx (P++S++T++R) (q:Int)=some S[q - a]:=by
      have:=Lv P S T R Oy.1
      rw [show P.length+(q - a)=q by clear h1 h2 this;omega] at this
      exact this
     have i2:idx (P++S++T++R) ((mN+m - 1 - q:Nat):Int)=some T[mN+m - 1 - q - m]:=by
      have:=Lw P S T R Ox.1
      rw [show P.length+S.length+(mN+m - 1 - q - m)=mN+m - 1 - q by clear h1 h2 this;omega] at this
      exact this
     have step:A2 self (P++S++T++R) a m b f i j=some (.inl (if ¬ c (T[mN+m - 1 - q - m]'Ox.1) (S[q - a]'Oy.1) < 0 then (((q+1:Nat):Int),(j:Int)) else ((i:Int),(q:Int)))):=by
      clear h1 h2
      unfold A2
      rw [if_pos (by omega),Ha,hQ,aU (x:=(mN:Int)+m) (by omega) (by omega),aU (x:=(mN:Int)+m - 1) (by omega) (by omega),aU (x:=(mN:Int)+m - 1 - q) (by omega) (by omega),show (mN:Int)+m - 1 - q=((mN+m - 1 - q:Nat):Int) by omega,i2]
      simp only [Option.bind_some]
      rw [i1]
      simp only [Option.bind_some]
      rw [hf]
      simp only [Option.bind_some]
      rw [aU (by omega) (by omega)]
      split
      ·rfl
      ·rfl
     by_cases d:¬ c T[mN+m - 1 - q - m] S[q - a] < 0
     ·obtain ⟨st,a1,a2,a3,a4,a5⟩:=ih (q+1) j (by clear h1 h2 d step;omega) (by clear h1 h2 d step;omega) (by clear h1 h2 d step;omega) hj (.inr ⟨by clear h1 h2 d step;omega,by clear h1 h2 d step;omega,by clear h1 h2 d step;omega,by clear h1 h2 d step;omega,by
       have e1:mN+m - (q+1) - m=mN+m - 1 - q - m:=by clear h1 h2 d step;omega
       have e2:q+1 - 1 - a=q - a:=by clear h1 h2 d step;omega
       simp only [e1,e2]
       exact d⟩) h2
      refine ⟨st,a1,a2,a3,a4,?_⟩
      rw [← a5]
      unfold qG
      refine Lt ?_
      rw [if_pos d] at step
      exact step
     ·obtain ⟨st,a1,a2,a3,a4,a5⟩:=ih i q (by clear h1 h2 d step;omega) Bm Ro.1 (by clear h1 h2 d step;omega) h1 (.inr ⟨Oy.1,Ox.1,Oy.2,Ox.2,Decidable.not_not.1 d⟩)
      refine ⟨st,a1,a2,a3,a4,?_⟩
      rw [← a5]
      unfold qG
      refine Lt ?_
      rw [if_neg d] at step
      exact step
 obtain ⟨st,a1,a2,a3,a4,a5⟩:=key hi lo hi (by omega) (Nat.le_refl _) (by omega) (Nat.le_refl _) (.inl rfl) (.inl rfl)
 have xn:a≤st∧st≤m∧m≤mN+m - st∧mN+m - st≤b:=by clear a3 a4 a5;omega
 have A:st - a=0∨mN+m - st - m=T.length∨∃ (h1:st - a - 1 < S.length) (h2:mN+m - st - m < T.length),¬ c T[mN+m - st - m] S[st - a - 1] < 0:=by
  rcases a3 with g | ⟨g1,g2,g3,g4,g5⟩
  ·clear a4 a5;omega
  ·refine .inr (.inr ⟨by clear g5 a4 a5;omega,g2,?_⟩)
   have e1:st - a - 1=st - 1 - a:=by clear g5 a4 a5;omega
   simp only [e1]
   exact g5
 have B:st - a=S.length∨mN+m - st - m=0∨∃ (h1:st - a < S.length) (h2:mN+m - st - m - 1 < T.length),c T[mN+m - st - m - 1] S[st - a] < 0:=by
  rcases a4 with g | ⟨g1,g2,g3,g4,g5⟩
  ·clear a3 a5 A;omega
  ·refine .inr (.inr ⟨g1,by clear g5 a3 a5 A;omega,?_⟩)
   have e1:mN+m - st - m - 1=mN+m - 1 - st - m:=by clear g5 a3 a5 A;omega
   simp only [e1]
   exact g5
 refine ⟨st - a,mN+m - st - m,by clear a3 a4 a5 A B;omega,by clear a3 a4 a5 A B;omega,by clear a3 a4 a5 A B;omega,fun _ _ _ _=>A,A,B,?_⟩
 rw [a5,show a+(st - a)=st by clear a3 a4 a5 A B;omega]
 clear a3 a4 a5 A B
 congr 1
 congr 1
 ·exact decide_eq_decide.2 (by omega)
 ·exact decide_eq_decide.2 (by omega)
end
section
variable {α:Type} {c:α→α→Int} (hc:nI c) (f:α→α→Option Int) (hf:∀ a b,f a b=some (c a b))
include hc hf
theorem Ly:∀ (k:Nat) (P S T R:List α),S≠[]→T≠[]→S.length+T.length≤k→(P++S++T++R).length≤1000000→tx c S→tx c T→
 ∃ U,mQ k (P++S++T++R) P.length ((P.length+S.length:Nat):Int) ((P.length+S.length+T.length:Nat):Int) f=some (P++U++R)∧U.Perm (S++T)∧tx c U:=by
 intro k
 induction k with
 | zero=>
   intro P S T R hS hT hk
   have:=List.length_pos_iff.2 hS
   omega
 | succ k ih=>
   intro P S T R hSn hTn hk hl hS hT
   have Wf:=List.length_pos_iff.2 hSn
   have Wg:=List.length_pos_iff.2 hTn
   have x4:P.length+S.length+T.length+R.length≤1000000:=by simp only [List.length_append] at hl;omega
   show ∃ U,A3 (mQ k) _ _ _ _ _=_∧_
   unfold A3
   rw [aU (x:=((P.length+S.length:Nat):Int) - P.length) (by omega) (by omega),aU (x:=((P.length+S.length+T.length:Nat):Int) - ((P.length+S.length:Nat):Int)) (by omega) (by omega)]
   by_cases c1:S.length=1
   ·rw [if_pos (by omega)]
    obtain ⟨x,rfl⟩:∃ x,S=[x]:=List.length_eq_one_iff.1 c1
    exact NC hc f hf P T R x hT hl
   rw [if_neg (by omega)]
   by_cases c2:T.length=1
   ·rw [if_pos (by omega)]
    obtain ⟨y,rfl⟩:∃ y,T=[y]:=List.length_eq_one_iff.1 c2
    exact ND hc f hf P S R y hS hl
   rw [if_neg (by omega)]
   obtain ⟨a,ha⟩:∃ a,a=P.length:=⟨_,rfl⟩
   obtain ⟨m,hm⟩:∃ m,m=P.length+S.length:=⟨_,rfl⟩
   obtain ⟨b,hb⟩:∃ b,b=P.length+S.length+T.length:=⟨_,rfl⟩
   obtain ⟨mN,Bt⟩:∃ mN,mN=(a+b) / 2:=⟨_,rfl⟩
   rw [← hb,← hm,← ha]
   have Ha:sR a b=(mN:Int):=by unfold sR;rw [ze (by omega),← Bt]
   rw [Ha]
   have go:∃ k1 k2:Nat,k1≤S.length∧k2≤T.length∧a+k1+k2=mN∧
    (k1=0∨k2=T.length∨∃ (h1:k1 - 1 < S.length) (h2:k2 < T.length),¬ c T[k2] S[k1 - 1] < 0)∧
    (k1=S.length∨k2=0∨∃ (h1:k1 < S.length) (h2:k2 - 1 < T.length),c T[k2 - 1] S[k1] < 0)∧
    (if (mN:Int) < (m:Int) then qG (mQ k) (P++S++T++R) a m b f (aL ((aL ((mN:Int)+m)) - b)) mN else qG (mQ k) (P++S++T++R) a m b f a m)=uU (mQ k) (P++S++T++R) a m b f ((a+k1:Nat):Int) (decide (k1 < S.length)&&decide (0 < k2)):=by
    by_cases d:mN < m
    ·rw [if_pos (by omega),aU (x:=(mN:Int)+m) (by omega) (by omega),aU (x:=(mN:Int)+m - b) (by omega) (by omega),show (mN:Int)+m - b=((mN+m - b:Nat):Int) by omega]
     obtain ⟨k1,k2,a1,a2,a3,_,a4,a5,a6⟩:=Cj f hf (mQ k) P S T R hl Wf Wg a m b mN (mN+m - b) mN ha hm hb Bt (.inl ⟨d,rfl,rfl⟩)
     exact ⟨k1,k2,a1,a2,a3,a4,a5,a6⟩
    ·rw [if_neg (by omega)]
     obtain ⟨k1,k2,a1,a2,a3,_,a4,a5,a6⟩:=Cj f hf (mQ k) P S T R hl Wf Wg a m b mN a m ha hm hb Bt (.inr ⟨by omega,rfl,rfl⟩)
     exact ⟨k1,k2,a1,a2,a3,a4,a5,a6⟩
   obtain ⟨k1,k2,h1,h2,h3,hA,hB,h6⟩:=go
   rw [h6]
   clear h6
   obtain ⟨S1,PI⟩:∃ X,X=S.take k1:=⟨_,rfl⟩
   obtain ⟨S2,PJ⟩:∃ X,X=S.drop k1:=⟨_,rfl⟩
   obtain ⟨T1,PK⟩:∃ X,X=T.take k2:=⟨_,rfl⟩
   obtain ⟨T2,PL⟩:∃ X,X=T.drop k2:=⟨_,rfl⟩
   have eS:S=S1++S2:=by rw [PI,PJ,List.take_append_drop]
   have eT:T=T1++T2:=by rw [PK,PL,List.take_append_drop]
   have l1:S1.length=k1:=by rw [PI,List.length_take];omega
   have l2:S2.length=S.length - k1:=by rw [PJ,List.length_drop]
   have l3:T1.length=k2:=by rw [PK,List.length_take];omega
   have l4:T2.length=T.length - k2:=by rw [PL,List.length_drop]
   have QD:=hS
   have QE:=hT
   rw [eS] at QD
   rw [eT] at QE
   unfold tx at QD QE
   rw [List.pairwise_append] at QD QE
   have Sy:∀ x∈S1++T1,∀ y∈S2++T2,¬ c y x < 0:=by
    intro x hx y hy
    rcases List.mem_append.1 hx with hx | hx
    ·rcases List.mem_append.1 hy with hy | hy
     ·exact QD.2.2 x hx y hy
     ·rw [PI] at hx
      rw [PL] at hy
      obtain ⟨i,hi,Bm,rfl⟩:=r8 hx
      obtain ⟨j,hj,Ss,rfl⟩:=r9 hy
      rcases hA with g | g | ⟨g1,g2,g3⟩
      ·omega
      ·omega
      ·have p1:¬ c S[k1 - 1] S[i] < 0:=by
        rcases tB hS hi g1 (by omega) with e | e
        ·have:S[k1 - 1]=S[i]:=by simp only [← e]
         rw [this,hc.zero];omega
        ·exact e
       have p2:¬ c T[j] T[k2] < 0:=by
        rcases tB hT g2 hj (by omega) with e | e
        ·have:T[j]=T[k2]:=by simp only [← e]
         rw [this,hc.zero];omega
        ·exact e
       exact PH hc (PH hc p1 g3) p2
    ·rcases List.mem_append.1 hy with hy | hy
     ·rw [PK] at hx
      rw [PJ] at hy
      obtain ⟨i,hi,Bm,rfl⟩:=r8 hx
      obtain ⟨j,hj,Ss,rfl⟩:=r9 hy
      rcases hB with g | g | ⟨g1,g2,g3⟩
      ·omega
      ·omega
      ·have p1:¬ c T[k2 - 1] T[i] < 0:=by
        rcases tB hT hi g2 (by omega) with e | e
        ·have:T[k2 - 1]=T[i]:=by simp only [← e]
         rw [this,hc.zero];omega
        ·exact e
       have p2:¬ c S[j] S[k1] < 0:=by
        rcases tB hS g1 hj (by omega) with e | e
        ·have:S[j]=S[k1]:=by simp only [← e]
         rw [this,hc.zero];omega
        ·exact e
       exact PH hc (PH hc p1 (Lx hc g3)) p2
     ·exact QE.2.2 x hx y hy
   clear hA hB
   have Sz:aL ((aL ((mN:Int)+m)) - ((a+k1:Nat):Int))=((m+k2:Nat):Int):=by
    rw [aU (x:=(mN:Int)+m) (by omega) (by omega),aU (by omega) (by omega)];omega
   have r5:uU (mQ k) (P++S++T++R) a m b f ((a+k1:Nat):Int) (decide (k1 < S.length)&&decide (0 < k2))=zf (mQ k) a m b f ((a+k1:Nat):Int) (P++S1++T1++S2++T2++R):=by
    unfold uU
    by_cases d:k1 < S.length∧0 < k2
    ·rw [if_pos (by simp [d.1,d.2]),Ha,Sz]
     have n1:S2≠[]:=List.length_pos_iff.1 (by omega)
     have n2:T1≠[]:=List.length_pos_iff.1 (by omega)
     have eD:P++S++T++R=(P++S1)++S2++T1++(T2++R):=by rw [eS,eT];simp
     have eE:P++S1++T1++S2++T2++R=(P++S1)++T1++S2++(T2++R):=by simp
     have hr:=PF (P++S1) S2 T1 (T2++R) n1 n2 (by rw [← eD];exact hl)
     have q0:((P++S1).length:Int)=((a+k1:Nat):Int):=by rw [List.length_append,l1,ha]
     have q1:(((P++S1).length+S2.length:Nat):Int)=(m:Int):=by rw [List.length_append,l1,l2];omega
     have q2:(((P++S1).length+S2.length+T1.length:Nat):Int)=((m+k2:Nat):Int):=by rw [List.length_append,l1,l2,l3];omega
     rw [q0,q1,q2,← eD,← eE] at hr
     rw [nJ hr (by rw [eS,eT];simp only [List.length_append];omega)]
     rfl
    ·rw [if_neg (by simp only [Bool.and_eq_true,decide_eq_true_eq];exact d)]
     congr 1
     rw [eS,eT]
     by_cases d1:k1 < S.length
     ·have:T1=[]:=List.eq_nil_of_length_eq_zero (by omega)
      rw [this];simp
     ·have:S2=[]:=List.eq_nil_of_length_eq_zero (by omega)
      rw [this];simp
   rw [r5]
   have s1:tx c S1:=QD.1
   have s2:tx c S2:=QD.2.1
   have t1:tx c T1:=QE.1
   have t2:tx c T2:=QE.2.1
   obtain ⟨U1,u1,u2,u3⟩:∃ U1,zf (mQ k) a m b f ((a+k1:Nat):Int) (P++S1++T1++S2++T2++R)=w5 (mQ k) a m b f ((a+k1:Nat):Int) (P++U1++S2++T2++R)∧U1.Perm (S1++T1)∧tx c U1:=by
    unfold zf Ib
    rw [Ha]
    by_cases d:0 < k1∧0 < k2
    ·rw [if_pos (by simp only [Bool.and_eq_true,decide_eq_true_eq];omega)]
     have n1:S1≠[]:=List.length_pos_iff.1 (by omega)
     have n2:T1≠[]:=List.length_pos_iff.1 (by omega)
     obtain ⟨U,v1,v2,v3⟩:=ih P S1 T1 (S2++T2++R) n1 n2 (by omega) (by simp only [List.length_append];omega) s1 t1
     have eE:P++S1++T1++S2++T2++R=P++S1++T1++(S2++T2++R):=by simp
     rw [show ((P.length+S1.length:Nat):Int)=((a+k1:Nat):Int) by omega,show ((P.length+S1.length+T1.length:Nat):Int)=(mN:Int) by omega,← eE,← ha] at v1
     have hlen:=v2.length_eq
     simp only [List.length_append] at hlen
     refine ⟨U,?_,v2,v3⟩
     rw [nJ v1 (by simp only [List.length_append];omega)]
     show w5 _ _ _ _ _ _ _=_
     congr 1
     simp
    ·rw [if_neg (by simp only [Bool.and_eq_true,decide_eq_true_eq];omega)]
     refine ⟨S1++T1,by congr 1;simp,List.Perm.refl _,?_⟩
     by_cases d1:0 < k1
     ·have:T1=[]:=List.eq_nil_of_length_eq_zero (by omega)
      rw [this,List.append_nil];exact s1
     ·have:S1=[]:=List.eq_nil_of_length_eq_zero (by omega)
      rw [this,List.nil_append];exact t1
   rw [u1]
   have lU1:=u2.length_eq
   simp only [List.length_append] at lU1
   obtain ⟨U2,w1,w2,w3⟩:∃ U2,w5 (mQ k) a m b f ((a+k1:Nat):Int) (P++U1++S2++T2++R)=some (P++U1++U2++R)∧U2.Perm (S2++T2)∧tx c U2:=by
    unfold w5 Ia
    rw [Ha,Sz]
    by_cases d:k1 < S.length∧k2 < T.length
    ·rw [if_pos (by simp only [Bool.and_eq_true,decide_eq_true_eq];omega)]
     have n1:S2≠[]:=List.length_pos_iff.1 (by omega)
     have n2:T2≠[]:=List.length_pos_iff.1 (by omega)
     obtain ⟨U,v1,v2,v3⟩:=ih (P++U1) S2 T2 R n1 n2 (by omega) (by simp only [List.length_append];omega) s2 t2
     rw [show (((P++U1).length+S2.length:Nat):Int)=((m+k2:Nat):Int) by rw [List.length_append];omega,show (((P++U1).length+S2.length+T2.length:Nat):Int)=(b:Int) by rw [List.length_append];omega,show ((P++U1).length:Int)=(mN:Int) by rw [List.length_append];omega] at v1
     have hlen:=v2.length_eq
     simp only [List.length_append] at hlen
     refine ⟨U,?_,v2,v3⟩
     rw [nJ v1 (by simp only [List.length_append];omega)]
     rfl
    ·rw [if_neg (by simp only [Bool.and_eq_true,decide_eq_true_eq];omega)]
     refine ⟨S2++T2,by simp,List.Perm.refl _,?_⟩
     by_cases d1:k1 < S.length
     ·have:T2=[]:=List.eq_nil_of_length_eq_zero (by omega)
      rw [this,List.append_nil];exact s2
     ·have:S2=[]:=List.eq_nil_of_length_eq_zero (by omega)
      rw [this,List.nil_append];exact t2
   refine ⟨U1++U2,by rw [w1];simp,?_,?_⟩
   ·rw [eS,eT]
    refine (u2.append w2).trans ?_
    simp only [List.append_assoc]
    refine List.Perm.append_left S1 ?_
    rw [← List.append_assoc,← List.append_assoc]
    exact List.perm_append_comm.append_right T2
   ·unfold tx
    rw [List.pairwise_append]
    exact ⟨u3,w3,fun x hx y hy=>Sy x (u2.mem_iff.1 hx) y (w2.mem_iff.1 hy)⟩
end
section
variable {α:Type}
noncomputable def A4 (n12:Int) (mU:List α):Option (((List α)×Int)⊕(List α)):=
 some (.inl (mU,aL (n12 * (2:Int))))
noncomputable def zg (ah:Int) (ml:α→α→Option Int) (n12:Int) (nX:List α) (n17:Int):Option (((List α)×Int)⊕(List α)):=
 if (aL (n17+n12)) < ah then
  (fO nX.length (fun r:(List α)=>r.length) (mQ depth nX n17 (aL (n17+n12)) ah ml)).bind fun v21=>
  A4 n12 v21
 else
  A4 n12 nX
noncomputable def sa (ah:Int) (ml:α→α→Option Int) (n12:Int) (nX:List α) (n17:Int) (n18:Int):Option (((List α)×Int×Int)⊕(((List α)×Int)⊕(List α))):=
 if n18≤ah then
  (fO nX.length (fun r:(List α)=>r.length) (mQ depth nX n17 (aL (n17+n12)) n18 ml)).bind fun vl=>
  some (.inl (vl,n18,aL (n18+(aL ((2:Int) * n12)))))
 else
  Option.map .inr (zg ah ml n12 nX n17)
noncomputable def uV (ah:Int) (ml:α→α→Option Int) (n12:Int) (nX:List α) (n17:Int) (n18:Int):Option (((List α)×Int)⊕(List α)):=
 iter (fun x:(List α)×Int×Int=>sa ah ml n12 x.1 x.2.1 x.2.2) (nX,n17,n18)
noncomputable def sb (ah:Int) (ml:α→α→Option Int) (dN:List α) (n12:Int):Option (((List α)×Int)⊕(List α)):=
 if n12 < ah then
  uV ah ml n12 dN (0:Int) (aL ((2:Int) * n12))
 else
  Option.map .inr (some dN)
noncomputable def sc (ah:Int) (ml:α→α→Option Int) (dN:List α) (n12:Int):Option (List α):=
 iter (fun x:(List α)×Int=>sb ah ml x.1 x.2) (dN,n12)
noncomputable def A5 (ah:Int) (ml:α→α→Option Int) (l4:List α) (n5:Int):Option (List α):=
 (fO l4.length (fun r:(List α)=>r.length) (FU l4 n5 ah ml)).bind fun v8=>
 sc ah ml v8 (20:Int)
noncomputable def sd (ah:Int) (ml:α→α→Option Int) (l4:List α) (n5:Int) (n6:Int):Option (((List α)×Int×Int)⊕(List α)):=
 if n6≤ah then
  (fO l4.length (fun r:(List α)=>r.length) (FU l4 n5 n6 ml)).bind fun v7=>
  some (.inl (v7,n6,aL (n6+(20:Int))))
 else
  Option.map .inr (A5 ah ml l4 n5)
noncomputable def tC (ah:Int) (ml:α→α→Option Int) (l4:List α) (n5:Int) (n6:Int):Option (List α):=
 iter (fun x:(List α)×Int×Int=>sd ah ml x.1 x.2.1 x.2.2) (l4,n5,n6)
noncomputable def NF (ab:List α) (gZ:α→α→Option Int):Option (List α):=
 (fO ab.length (fun r:(List α)=>r.length) (tC (ab.length:Int) gZ ab (0:Int) (20:Int))).bind fun v1=>
 some v1
inductive EU (c:α→α→Int) (B:Nat):List α→Prop
 | last (l:List α) (h:l.length≤B) (s:tx c l):EU c B l
 | more (b l:List α) (h:b.length=B) (s:tx c b) (r:EU c B l):EU c B (b++l)
variable {c:α→α→Int}
theorem EU.small {B:Nat} {l:List α} (h:EU c B l) (hl:l.length≤B):tx c l:=by
 cases h with
 | last _ _ s=>exact s
 | more b r hb s _=>
   rw [List.length_append] at hl
   have:r=[]:=List.eq_nil_of_length_eq_zero (by omega)
   rw [this,List.append_nil]
   exact s
theorem EU.one {B:Nat} {l:List α} (h:EU c B l) (hB:1≤B) (hl:B < l.length):∃ b r,l=b++r∧b.length=B∧tx c b∧EU c B r:=by
 cases h with
 | last _ h _=>omega
 | more b r hb s hr=>exact ⟨b,r,rfl,hb,s,hr⟩
theorem EU.full {B:Nat} {l:List α} (h:EU c B l) (hB:1≤B) (hl:B≤l.length):∃ b r,l=b++r∧b.length=B∧tx c b∧EU c B r:=by
 by_cases e:l.length=B
 ·exact ⟨l,[],by simp,e,h.small (by omega),.last [] (by simp) .nil⟩
 ·exact h.one hB (by omega)
variable (hc:nI c) (f:α→α→Option Int) (hf:∀ a b,f a b=some (c a b))
include hc hf
theorem PM (B n:Nat) (hB:1≤B) (hBn:B≤200000) (hn:n≤90000):∀ (k:Nat) (P rest:List α),rest.length≤k→P.length+rest.length=n→EU c B rest→
 ∃ sS,uV n f B (P++rest) P.length ((P.length+2 * B:Nat):Int)=some (.inl (P++sS,((2 * B:Nat):Int)))∧sS.Perm rest∧EU c (2 * B) sS:=by
 intro k
 have fin:∀ (P rest:List α),P.length+rest.length=n→EU c B rest→rest.length < 2 * B→∃ sS,uV n f B (P++rest) P.length ((P.length+2 * B:Nat):Int)=some (.inl (P++sS,((2 * B:Nat):Int)))∧sS.Perm rest∧EU c (2 * B) sS:=by
  intro P rest hl hb hs
  by_cases d:B < rest.length
  ·obtain ⟨b,r,rfl,e1,e2,e3⟩:=hb.one hB d
   rw [List.length_append] at hl hs d
   obtain ⟨U,u1,u2,u3⟩:=Ly hc f hf depth P b r [] (List.length_pos_iff.1 (by omega)) (List.length_pos_iff.1 (by omega)) (by unfold depth;omega) (by simp only [List.length_append,List.length_nil];omega) e2 (e3.small (by omega))
   have hU:=u2.length_eq
   rw [List.length_append] at hU
   refine ⟨U,?_,u2,.last U (by omega) u3⟩
   simp only [List.append_nil] at u1
   unfold uV
   refine zd (o:=some _) ?_
   show sa n f B (P++(b++r)) P.length ((P.length+2 * B:Nat):Int)=_
   unfold sa zg
   rw [if_neg (by omega),aU (by omega) (by omega),if_pos (by omega)]
   rw [show ((P.length+b.length:Nat):Int)=(P.length:Int)+B by omega,show ((P.length+b.length+r.length:Nat):Int)=(n:Int) by omega,List.append_assoc] at u1
   rw [nJ u1 (by simp only [List.length_append];omega)]
   unfold A4
   rw [aU (by omega) (by omega),show (B:Int) * 2=((2 * B:Nat):Int) by omega]
   rfl
  ·refine ⟨rest,?_,List.Perm.refl _,.last rest (by omega) (hb.small (by omega))⟩
   unfold uV
   refine zd (o:=some _) ?_
   show sa n f B (P++rest) P.length ((P.length+2 * B:Nat):Int)=_
   unfold sa zg
   rw [if_neg (by omega),aU (by omega) (by omega),if_neg (by omega)]
   unfold A4
   rw [aU (by omega) (by omega),show (B:Int) * 2=((2 * B:Nat):Int) by omega]
 induction k with
 | zero=>
   intro P rest hk hl hb
   exact fin P rest hl hb (by omega)
 | succ k ih=>
   intro P rest hk hl hb
   by_cases d:rest.length < 2 * B
   ·exact fin P rest hl hb d
   ·obtain ⟨b,r,rfl,e1,e2,e3⟩:=hb.full hB (by omega)
    rw [List.length_append] at hk hl d
    obtain ⟨b2,r2,rfl,g1,g2,g3⟩:=e3.full hB (by omega)
    rw [List.length_append] at hk hl d
    obtain ⟨U,u1,u2,u3⟩:=Ly hc f hf depth P b b2 r2 (List.length_pos_iff.1 (by omega)) (List.length_pos_iff.1 (by omega)) (by unfold depth;omega) (by simp only [List.length_append];omega) e2 g2
    have hU:=u2.length_eq
    rw [List.length_append] at hU
    obtain ⟨w,w1,w2,w3⟩:=ih (P++U) r2 (by omega) (by rw [List.length_append];omega) g3
    refine ⟨U++w,?_,?_,.more U w (by omega) u3 w3⟩
    ·have eD:P++(b++(b2++r2))=P++b++b2++r2:=by simp
     have step:sa n f B (P++(b++(b2++r2))) P.length ((P.length+2 * B:Nat):Int)=some (.inl ((P++U)++r2,((P++U).length:Int),(((P++U).length+2 * B:Nat):Int))):=by
      unfold sa
      rw [if_pos (by omega),aU (x:=(P.length:Int)+B) (by omega) (by omega)]
      rw [show ((P.length+b.length:Nat):Int)=(P.length:Int)+B by omega,show ((P.length+b.length+b2.length:Nat):Int)=((P.length+2 * B:Nat):Int) by omega,← eD] at u1
      rw [nJ u1 (by simp only [List.length_append];omega)]
      simp only [Option.bind_some]
      rw [aU (x:=(2:Int) * B) (by omega) (by omega),aU (by omega) (by omega),List.length_append]
      rw [show ((P.length+2 * B:Nat):Int)+2 * (B:Int)=((P.length+U.length+2 * B:Nat):Int) by omega,show ((P.length+2 * B:Nat):Int)=((P.length+U.length:Nat):Int) by omega]
     unfold uV at w1 ⊢
     refine (Lt step).trans ?_
     rw [w1]
     simp
    ·have h1:(U++w).Perm ((b++b2)++r2):=u2.append w2
     simpa using h1
theorem PN (n:Nat) (hn:n≤90000):∀ (k B:Nat) (l:List α),n≤B+k→1≤B→B≤200000→l.length=n→EU c B l→∃ Z,sc n f l B=some Z∧Z.Perm l∧tx c Z:=by
 intro k
 induction k with
 | zero=>
   intro B l hk hB Yz hl hb
   refine ⟨l,?_,List.Perm.refl _,hb.small (by omega)⟩
   unfold sc
   refine zd (o:=some _) ?_
   show sb n f l B=_
   unfold sb
   rw [if_neg (by omega)]
 | succ k ih=>
   intro B l hk hB Yz hl hb
   by_cases d:B < n
   ·obtain ⟨r,r1,r2,r3⟩:=PM hc f hf B n hB Yz hn l.length [] l (Nat.le_refl _) (by simpa using hl) hb
    have hr:=r2.length_eq
    obtain ⟨Z,z1,z2,z3⟩:=ih (2 * B) r (by omega) (by omega) (by omega) (by omega) r3
    refine ⟨Z,?_,z2.trans r2,z3⟩
    rw [← z1]
    unfold sc
    refine Lt ?_
    show sb n f l B=_
    unfold sb
    rw [if_pos (by omega),aU (by omega) (by omega)]
    simp only [List.nil_append,List.length_nil,Nat.zero_add] at r1
    rw [show (2:Int) * B=((2 * B:Nat):Int) by omega]
    exact r1
   ·refine ⟨l,?_,List.Perm.refl _,hb.small (by omega)⟩
    unfold sc
    refine zd (o:=some _) ?_
    show sb n f l B=_
    unfold sb
    rw [if_neg (by omega)]
theorem PQ (n:Nat) (hn:n≤90000):∀ (k:Nat) (P rest:List α),rest.length≤k→P.length+rest.length=n→∃ sS,tC n f (P++rest) P.length ((P.length+20:Nat):Int)=sc n f (P++sS) 20∧sS.Perm rest∧EU c 20 sS:=by
 intro k
 have fin:∀ (P rest:List α),P.length+rest.length=n→rest.length < 20→∃ sS,tC n f (P++rest) P.length ((P.length+20:Nat):Int)=sc n f (P++sS) 20∧sS.Perm rest∧EU c 20 sS:=by
  intro P rest hl hs
  by_cases e:rest=[]
  ·subst e
   refine ⟨[],?_,List.Perm.refl _,.last [] (by simp) .nil⟩
   simp only [List.length_nil] at hl
   unfold tC
   refine zd ?_
   show sd n f (P++[]) P.length ((P.length+20:Nat):Int)=_
   unfold sd A5
   rw [if_neg (by omega)]
   have hI:FU (P++[]) P.length n f=some (P++[]):=by
    unfold FU uM
    rw [aU (by omega) (by omega)]
    refine zd (o:=some _) ?_
    show tA P.length n f (P++[]) ((P.length:Int)+1)=_
    unfold tA
    rw [if_neg (by omega)]
   rw [nJ hI rfl]
   rfl
  ·obtain ⟨Z,z1,z2,z3⟩:=DH P [] f c rest (by omega) (by omega) (fun x _ y _=>hf x y) (hc.ord rest) e
   have hZ:=z2.length_eq
   refine ⟨Z,?_,z2,.last Z (by omega) z3⟩
   unfold ET at z1
   simp only [List.append_nil] at z1
   unfold tC
   refine zd ?_
   show sd n f (P++rest) P.length ((P.length+20:Nat):Int)=_
   unfold sd A5
   rw [if_neg (by omega)]
   rw [show (P.length:Int)+rest.length=(n:Int) by omega] at z1
   rw [nJ z1 (by simp only [List.length_append];omega)]
   rfl
 induction k with
 | zero=>
   intro P rest hk hl
   exact fin P rest hl (by omega)
 | succ k ih=>
   intro P rest hk hl
   by_cases d:rest.length < 20
   ·exact fin P rest hl d
   ·have hx:(rest.take 20).length=20:=by rw [List.length_take];omega
    have hd:(rest.drop 20).length=rest.length - 20:=by rw [List.length_drop]
    obtain ⟨Z,z1,z2,z3⟩:=DH P (rest.drop 20) f c (rest.take 20) (by omega) (by omega) (fun x _ y _=>hf x y) (hc.ord _) (List.length_pos_iff.1 (by omega))
    have hZ:=z2.length_eq
    obtain ⟨w,w1,w2,w3⟩:=ih (P++Z) (rest.drop 20) (by omega) (by rw [List.length_append];omega)
    refine ⟨Z++w,?_,?_,.more Z w (by omega) z3 w3⟩
    ·unfold ET at z1
     rw [List.append_assoc,List.take_append_drop,hx] at z1
     have step:sd n f (P++rest) P.length ((P.length+20:Nat):Int)=some (.inl ((P++Z)++rest.drop 20,((P++Z).length:Int),(((P++Z).length+20:Nat):Int))):=by
      unfold sd
      rw [if_pos (by omega)]
      rw [show ((P.length+20:Nat):Int)=(P.length:Int)+((20:Nat):Int) by omega,nJ z1 (by simp only [List.length_append];omega)]
      simp only [Option.bind_some]
      rw [aU (by omega) (by omega),List.length_append]
      rw [show (P.length:Int)+((20:Nat):Int)+20=((P.length+Z.length+20:Nat):Int) by omega,show (P.length:Int)+((20:Nat):Int)=((P.length+Z.length:Nat):Int) by omega]
     unfold tC at w1 ⊢
     refine (Lt step).trans ?_
     rw [w1]
     simp
    ·have h1:(Z++w).Perm (rest.take 20++rest.drop 20):=z2.append w2
     rwa [List.take_append_drop] at h1
theorem PR (l:List α) (hl:l.length≤90000):∃ Z,NF l f=some Z∧Z.Perm l∧tx c Z:=by
 obtain ⟨r,r1,r2,r3⟩:=PQ hc f hf l.length hl l.length [] l (Nat.le_refl _) (by simp)
 have hr:=r2.length_eq
 obtain ⟨Z,z1,z2,z3⟩:=PN hc f hf l.length hl l.length 20 r (by omega) (by omega) (by omega) hr r3
 refine ⟨Z,?_,z2.trans r2,z3⟩
 unfold NF
 simp only [List.nil_append,List.length_nil,Nat.zero_add] at r1
 have h1:tC (l.length:Int) f l 0 20=some Z:=by
  refine Eq.trans r1 ?_
  exact z1
 rw [nJ h1 (z2.trans r2).length_eq]
 rfl
end
def rL (cq:aA):fE:=cq.aV.getD (cq.aV.length - 1) ⟨0,[]⟩
structure Hb (cq:aA):Prop where
 pos:0 < cq.aV.length
 len:(cq.aV.length:Int)≤10
 rg:∀ x∈cq.aV,0≤x.bn∧x.bn≤2592000000
 inc:cq.aV.Pairwise (fun a b=>a.bn < b.bn)
 ev:cq.aX=0∨(1000≤cq.aX∧cq.aX≤2592000000)
theorem Hb.ok {cq:aA} (h:Hb cq):G7 cq (rL cq):=⟨h.len,oK (List.length_pos_iff.1 h.pos) _,h.rg,h.inc,h.ev⟩
theorem Gh {α:Type} (p:α→Bool) (xs:List α):(jX p xs 0 < 0∧xs.find? p=none)∨∃ y,0≤jX p xs 0∧idx xs (jX p xs 0)=some y∧xs.find? p=some y:=by
 rcases wo p xs 0 (by omega) with ⟨e1,e2⟩ | ⟨e1,e2,e3,y,e4,e5⟩
 ·exact .inl ⟨by omega,List.find?_eq_none.2 fun x hx=>by rw [e2 x hx];simp⟩
 ·right
  refine ⟨y,e1,?_,?_⟩
  ·unfold idx
   rw [if_pos e1]
   simpa using e4
  ·generalize jX p xs 0=k at e1 e2 e3 e4
   rw [show (k - 0).toNat=k.toNat by simp] at e3 e4
   obtain ⟨h,e4'⟩:=List.getElem?_eq_some_iff.1 e4
   conv=>lhs;rw [← List.take_append_drop k.toNat xs]
   rw [List.find?_append,List.find?_eq_none.2 (fun x hx=>by rw [e3 x hx];simp),List.drop_eq_getElem_cons h,e4']
   simp [e5]
theorem ux {l:List Signal} (hV:VS l) (n:aq):UF 345686400000 (FL l n) (TL l n).bw:=Sp n l hV 345686400000 (by omega) fun s hs=>by have:=hV.L5 s hs;omega
theorem Ic {w:Int×Option Int} (h:0≤w.1∧w.1≤345686400000∧∀ e,w.2=some e→e≤345686400000):xl (Lj w):=by
 obtain ⟨a,b,c⟩:=h
 refine ⟨a,b,?_⟩
 obtain ⟨x,e⟩:=w
 cases e with
 | none=>exact Int.le_refl _
 | some e=>exact c e rfl
theorem Lz {l:List Signal} (hV:VS l) (n:aq):∀ tw∈(FL l n).bt,xl tw:=fun tw QF=>by
 have h:=ux hV n
 rw [h.fr] at QF
 obtain ⟨w,hw,rfl⟩:=List.mem_map.1 QF
 exact Ic (h.bd w hw)
def NG (ls:List aA) (n:aq):Option aA:=ls.find? fun y=>decide (y.bg=n.a8)
def Ie (ls:List aA) (sh:List aB) (w:ar) (l:List Signal) (n:aq):List ai:=
 match NG ls n with
 | none=>[]
 | some cq=>((FL l n).bt).flatMap (Ln n sh (FL l n).aW w cq (rL cq))
theorem Hc {l:List Signal} (hV:VS l) (n:aq) {ls:List aA} {cq:aA} {v:Int} (hi:idx ls v=some cq) (hC:Hb cq) {w:ar} (hw:xl w) {sh:List aB} (hs:(sh.length:Int)≤1000000) (n28:Int) (h28:0≤n28∧n28≤1000):
 ∀ (k:Nat) (i:Int) (out:List ai),0≤i→i+k=(FL l n).bt.length→(out.length:Int)≤5000→
 jv ls n28 (FL l n) v sh w.aM w.To out i=if (5000:Int) < (out++((FL l n).bt.drop i.toNat).flatMap (Ln n sh (FL l n).aW w cq (rL cq))).length then some (.inr ([],2)) else some (.inl (sh,w.aM,w.To,out++((FL l n).bt.drop i.toNat).flatMap (Ln n sh (FL l n).aW w cq (rL cq)),n28+1)):=by
 have SS:=(ve l hV).li n
 have Oc:=hV.len
 have P5:=(ve l hV).nm n
 intro k
 induction k with
 | zero=>
   intro i out h0 hk ho
   unfold jv
   rw [iter_eq]
   simp only
   rw [show gh ls n28 (FL l n) v sh w.aM w.To out i=Option.map .inr (iq n28 sh w.aM w.To out) by
    unfold gh;rw [if_neg (by omega)],bV,List.drop_of_length_le (by omega),List.flatMap_nil,List.append_nil,if_neg (by omega)]
   unfold iq
   rw [aU (by omega) (by omega)]
 | succ k ih=>
   intro i out h0 hk ho
   obtain ⟨tw,QF,oy,hd⟩:=jY (FL l n).bt h0 (by omega)
   have TQ:=SS.l3
   obtain ⟨o,o1,o2,o3⟩:=Lo (FL l n) cq (rL cq) hC.ok tw w (Lz hV n tw oy) hw sh hs (Lm hV n) (by have:=SS.l4;omega) out (by omega)
   rw [P5] at o2
   have sr:jv ls n28 (FL l n) v sh w.aM w.To out i=if (5000:Int) < o.length then some (.inr ([],2)) else jv ls n28 (FL l n) v sh w.aM w.To o (i+1):=by
    conv=>lhs;unfold jv
    rw [iter_eq]
    simp only
    rw [show gh ls n28 (FL l n) v sh w.aM w.To out i=if (5000:Int) < o.length then some (.inr (.inr ([],2))) else some (.inl (sh,w.aM,w.To,o,i+1)) by
     unfold gh
     rw [if_pos (by omega),QF]
     simp only [Option.bind_some]
     rw [hi]
     simp only [Option.bind_some]
     rw [o1]
     simp only [Option.bind_some]
     unfold ei
     by_cases hf:(5000:Int) < o.length
     ·rw [if_pos (by simpa using hf),if_pos hf];rfl
     ·rw [if_neg (by simpa using hf),if_neg hf,aU (by omega) (by omega)]]
    by_cases hf:(5000:Int) < o.length
    ·rw [if_pos hf,if_pos hf];rfl
    ·rw [if_neg hf,if_neg hf]
     simp only [Option.bind_some,cK]
     rfl
   rw [sr,hd,List.flatMap_cons,← List.append_assoc]
   by_cases hf:(5000:Int) < o.length
   ·have:=o2.le
    rw [if_pos hf,if_pos (by rw [List.length_append];omega)]
   ·rw [if_neg hf,ih (i+1) o (by omega) (by omega) (by omega),o2.all (by omega)]
theorem NH (ls:List aA) (x:au) (hl:(ls.length:Int)≤1000):cA ls (fun y0=>some (eU y0 x))=some (jX (fun y=>eU y x) ls 0):=
 qD ls (fun y0=>some (eU y0 x)) (fun y=>eU y x) (fun _ _=>rfl) (by omega)
theorem LA (ls:List aA) (x:an) (hl:(ls.length:Int)≤1000):cA ls (fun y0=>some (gy y0 x))=some (jX (fun y=>gy y x) ls 0):=
 qD ls (fun y0=>some (gy y0 x)) (fun y=>gy y x) (fun _ _=>rfl) (by omega)
theorem Hd {l:List Signal} (hV:VS l) {ls:List aA} (L8:(ls.length:Int)≤1000) (hC:∀ x∈ls,Hb x) {w:ar} (hw:xl w) {sh:List aB} (hs:(sh.length:Int)≤1000000) (N:List aq) (hN:(N.length:Int)≤1000):
 ∀ (k:Nat) (i:Int) (out:List ai),0≤i→i+k=N.length→(out.length:Int)≤5000→
 ir ls (N.map (FL l)) sh w.aM w.To out i=if (5000:Int) < (out++(N.drop i.toNat).flatMap (Ie ls sh w l)).length then some ([],2) else jw (out++(N.drop i.toNat).flatMap (Ie ls sh w l)):=by
 intro k
 induction k with
 | zero=>
   intro i out h0 hk ho
   unfold ir
   rw [iter_eq]
   simp only
   rw [show eV ls (N.map (FL l)) sh w.aM w.To out i=Option.map .inr (jw out) by
    unfold eV;rw [if_neg (by rw [List.length_map];omega)],bV,List.drop_of_length_le (by omega),List.flatMap_nil,List.append_nil,if_neg (by omega)]
 | succ k ih=>
   intro i out h0 hk ho
   obtain ⟨n,hn,_,hd⟩:=jY N h0 (by omega)
   have xn:eV ls (N.map (FL l)) sh w.aM w.To out i=if (5000:Int) < (out++Ie ls sh w l n).length then some (.inr ([],2)) else some (.inl (sh,w.aM,w.To,out++Ie ls sh w l n,i+1)):=by
    unfold eV
    rw [if_pos (by rw [List.length_map];omega),sP,hn]
    simp only [Option.map_some,Option.bind_some]
    rw [NH ls _ L8]
    simp only [Option.bind_some]
    have hp:(fun y=>eU y (FL l n))=fun y:aA=>decide (y.bg=n.a8):=by
     funext y
     unfold eU
     rw [(ve l hV).nm n]
    rw [hp]
    unfold Ie NG
    rcases Gh (fun y:aA=>decide (y.bg=n.a8)) ls with ⟨e1,e2⟩ | ⟨cq,e1,e2,e3⟩
    ·rw [if_pos e1,e2]
     unfold iq
     rw [aU (by omega) (by omega)]
     simp only [List.append_nil]
     rw [if_neg (by omega)]
    ·rw [if_neg (by omega),e3]
     have:=Hc hV n e2 (hC cq (na e2)) hw hs i ⟨h0,by omega⟩ (FL l n).bt.length 0 out (by omega) (by omega) ho
     rw [this]
     rfl
   have sr:ir ls (N.map (FL l)) sh w.aM w.To out i=(eV ls (N.map (FL l)) sh w.aM w.To out i).bind (after fun x=>ir ls (N.map (FL l)) x.1 x.2.1 x.2.2.1 x.2.2.2.1 x.2.2.2.2):=by
    conv=>lhs;unfold ir
    rw [iter_eq];rfl
   rw [sr,xn,hd,List.flatMap_cons,← List.append_assoc]
   by_cases hf:(5000:Int) < (out++Ie ls sh w l n).length
   ·rw [if_pos hf,if_pos (by rw [List.length_append];omega)];rfl
   ·rw [if_neg hf]
    simp only [Option.bind_some,cK]
    rw [ih (i+1) _ (by omega) (by omega) (by omega)]
def Gi (T U:List ai):Prop:=((T.length:Int)≤5000→U=T)∧((5000:Int) < T.length→(5000:Int) < U.length)
theorem Gi.nil:Gi [] []:=⟨fun _=>rfl,fun h=>by simp at h⟩
theorem Gi.app {T U T' U':List ai} (h:Gi T U) (k:Gi T' U'):Gi (T++T') (U++U'):=by
 unfold Gi
 rw [List.length_append,List.length_append]
 refine ⟨fun z=>by rw [h.1 (by omega),k.1 (by omega)],fun z=>?_⟩
 by_cases h1:(5000:Int) < T.length
 ·have:=h.2 h1;omega
 ·by_cases h2:(5000:Int) < T'.length
  ·have:=k.2 h2;omega
  ·rw [h.1 (by omega),k.1 (by omega)];omega
theorem Gi.cap {T U:List ai} (h:y5 5000 [] T U):Gi T U:=by
 obtain ⟨p,q,h1,h2,h3⟩:=h
 rw [List.nil_append] at h2
 subst h2
 unfold Gi
 rw [h1,List.length_append]
 refine ⟨fun z=>?_,fun z=>?_⟩
 ·rcases h3 with h3 | h3
  ·rw [h3,List.append_nil]
  ·omega
 ·rcases h3 with h3 | h3
  ·rw [h3,List.length_nil] at z;omega
  ·exact h3
theorem Gj:∀ (a b:List Signal),∃ X,uA (a++b)=X++uA b
 | [],b=>⟨[],rfl⟩
 | s :: a,b=>by
   obtain ⟨X,hX⟩:=Gj a b
   show ∃ Y,(if s.Kind=1 then (s.At,uw (a++b)) :: uA (a++b) else uA (a++b))=Y++uA b
   rw [hX]
   split
   ·exact ⟨_ :: X,rfl⟩
   ·exact ⟨X,rfl⟩
theorem NI (l:List Signal) (ls:List aA) (sh:List aB) (w:ar) (t:an) (v:Int) (out:List ai) (i:Int) (s:Signal) (r:List Signal) (hr:(r.length:Int)≤1000):
 ∀ (k:Nat) (j:Int),0≤j→j+k=r.length→lT l ls sh w t v out i s r j=jK l ls sh w t v out i s ((uw (r.drop j.toNat)).getD 345686400000):=by
 intro k
 induction k with
 | zero=>
   intro j h0 hk
   unfold lT
   rw [iter_eq]
   rw [show iI l ls sh w t v out i s r j=Option.map .inr (jK l ls sh w t v out i s 345686400000) by
    unfold iI;rw [if_neg (by omega)],bV,List.drop_of_length_le (by omega)]
   rfl
 | succ k ih=>
   intro j h0 hk
   obtain ⟨x,hx,_,hd⟩:=jY r h0 (by omega)
   have sr:lT l ls sh w t v out i s r j=(iI l ls sh w t v out i s r j).bind (after fun y=>lT l ls sh w t v out i s r y):=by
    conv=>lhs;unfold lT
    rw [iter_eq];rfl
   rw [sr]
   unfold iI
   rw [if_pos (by omega),hx]
   simp only [Option.bind_some]
   unfold pU
   rw [← Bool.decide_or,hd,show uw (x :: r.drop (j+1).toNat)=if x.Kind=2∨x.Kind=3 then some x.At else uw (r.drop (j+1).toNat) from rfl]
   by_cases hc:x.Kind=2∨x.Kind=3
   ·rw [if_pos (by simpa using hc),if_pos hc,bV];rfl
   ·rw [if_neg (by simpa using hc),if_neg hc]
    simp only [Option.bind_some,cK]
    rw [aU (by omega) (by omega),ih (j+1) (by omega) (by omega)]
theorem Jd {l:List Signal} (hV:VS l) (n:aq) {ls:List aA} {cq:aA} {v:Int} (hi:idx ls v=some cq) (hC:Hb cq) {w:ar} (hw:xl w) (NA:0≤w.To) {sh:List aB} (hs:(sh.length:Int)≤1000000) (n9:Int) (h9:0≤n9∧n9≤1000):
 ∀ (k:Nat) (i:Int) (out:List ai),0≤i→i+k=(TL l n).bw.length→(out.length:Int)≤500000000+6000 * i→
 ∃ U,nD l ls sh w n9 (TL l n) v out i=some (.inl (out++U,n9+1))∧Gi (((uA ((TL l n).bw.drop i.toNat)).map Lj).flatMap (Ln n sh (FL l n).aW w cq (rL cq))) U∧(U.length:Int)≤5011 * (uA ((TL l n).bw.drop i.toNat)).length:=by
 have hF:=ve l hV
 have Oc:=hV.len
 have hdl:=hF.dn n
 have T5:=ux hV n
 have sr:∀ (out:List ai) (i:Int),nD l ls sh w n9 (TL l n) v out i=(jL l ls sh w n9 (TL l n) v out i).bind (after fun y=>nD l ls sh w n9 (TL l n) v y.1 y.2):=fun out i=>by
  conv=>lhs;unfold nD
  rw [iter_eq];rfl
 intro k
 induction k with
 | zero=>
   intro i out h0 hk ho
   refine ⟨[],?_,?_,by simp;omega⟩
   ·rw [sr]
    unfold jL
    rw [if_neg (by omega),bV]
    unfold lR
    rw [aU (by omega) (by omega),List.append_nil]
   ·rw [List.drop_of_length_le (by omega)];exact Gi.nil
 | succ k ih=>
   intro i out h0 hk ho
   obtain ⟨s,xj,oy,hd⟩:=jY (TL l n).bw h0 (by omega)
   rw [sr]
   unfold jL
   rw [if_pos (by omega),xj]
   simp only [Option.bind_some]
   have SA:uA ((TL l n).bw.drop i.toNat)=if s.Kind=1 then (s.At,uw ((TL l n).bw.drop (i+1).toNat)) :: uA ((TL l n).bw.drop (i+1).toNat) else uA ((TL l n).bw.drop (i+1).toNat):=by rw [hd];rfl
   by_cases PA:s.Kind=1
   ·rw [if_neg (fun z=>z PA),aU (by omega) (by omega),Eg (by omega) (by omega) (by omega)]
    simp only [Option.bind_some]
    have hr:((TL l n).bw.drop (i+1).toNat).take (((TL l n).bw.length:Int).toNat - (i+1).toNat)=(TL l n).bw.drop (i+1).toNat:=List.take_of_length_le (by rw [List.length_drop];omega)
    rw [hr,NI l ls sh w (TL l n) v out i s _ (by rw [List.length_drop];omega) _ 0 (by omega) (Int.zero_add _)]
    simp only [Int.toNat_zero,List.drop_zero]
    unfold jK
    rw [hi]
    simp only [Option.bind_some]
    rw [if_pos PA] at SA
    obtain ⟨X,hX⟩:=Gj ((TL l n).bw.take i.toNat) ((TL l n).bw.drop i.toNat)
    rw [List.take_append_drop,SA] at hX
    have hb:=T5.bd (s.At,uw ((TL l n).bw.drop (i+1).toNat)) (by rw [hX];simp)
    obtain ⟨o,o1,o2,o3⟩:=EC hV n (hF.tn n) cq (rL cq) hC.ok (Lj (s.At,uw ((TL l n).bw.drop (i+1).toNat))) w (Ic hb) hw NA sh hs
    have o1':nC l (TL l n) cq sh ⟨s.At,(uw ((TL l n).bw.drop (i+1).toNat)).getD 345686400000⟩ w=some o:=o1
    rw [o1']
    simp only [Option.bind_some]
    rw [mh (by omega)]
    simp only [Option.bind_some]
    unfold lS
    simp only [Option.bind_some,cK]
    rw [aU (by omega) (by omega)]
    obtain ⟨U,u1,u2,u3⟩:=ih (i+1) (out++o) (by omega) (by omega) (by rw [List.length_append];omega)
    refine ⟨o++U,by rw [u1,List.append_assoc],?_,?_⟩
    ·rw [SA,List.map_cons,List.flatMap_cons]
     exact (Gi.cap o2).app u2
    ·rw [SA,List.length_cons,List.length_append];omega
   ·rw [if_pos PA]
    unfold lS
    simp only [Option.bind_some,cK]
    rw [aU (by omega) (by omega),SA,if_neg PA]
    exact ih (i+1) out (by omega) (by omega) (by omega)
def cntF (l:List Signal) (n:aq):Nat:=(uA (TL l n).bw).length
theorem Je {l:List Signal} (hV:VS l) {ls:List aA} (L8:(ls.length:Int)≤1000) (hC:∀ x∈ls,Hb x) {w:ar} (hw:xl w) (NA:0≤w.To) {sh:List aB} (hs:(sh.length:Int)≤1000000) (N:List aq) (hN:(N.length:Int)≤1000) (q:List dc):
 ∀ (k:Nat) (i:Int) (out:List ai),0≤i→i+k=N.length→(out.length:Int)≤100000 * i→
 ∃ U,nF l ls sh w (N.map (TL l),q) out i=nE (out++U)∧Gi ((N.drop i.toNat).flatMap (Ie ls sh w l)) U∧(U.length:Int)≤5011 * ((N.drop i.toNat).map (cntF l)).sum:=by
 have hF:=ve l hV
 have Oc:=hV.len
 have sr:∀ (out:List ai) (i:Int),nF l ls sh w (N.map (TL l),q) out i=(iJ l ls sh w (N.map (TL l),q) out i).bind (after fun y=>nF l ls sh w (N.map (TL l),q) y.1 y.2):=fun out i=>by
  conv=>lhs;unfold nF
  rw [iter_eq];rfl
 intro k
 induction k with
 | zero=>
   intro i out h0 hk ho
   refine ⟨[],?_,?_,by simp;omega⟩
   ·rw [sr]
    unfold iJ
    rw [if_neg (by simp;omega),bV,List.append_nil]
   ·rw [List.drop_of_length_le (by omega)];exact Gi.nil
 | succ k ih=>
   intro i out h0 hk ho
   obtain ⟨n,hn,_,hd⟩:=jY N h0 (by omega)
   have xn:∃ U,iJ l ls sh w (N.map (TL l),q) out i=some (.inl (out++U,i+1))∧Gi (Ie ls sh w l n) U∧(U.length:Int)≤5011 * cntF l n:=by
    unfold iJ
    rw [if_pos (by simp;omega),sP,hn]
    simp only [Option.map_some,Option.bind_some]
    rw [LA ls _ L8]
    simp only [Option.bind_some]
    have hp:(fun y=>gy y (TL l n))=fun y:aA=>decide (y.bg=n.a8):=by
     funext y
     unfold gy
     rw [(hF.tn n).2]
    rw [hp]
    unfold Ie NG
    rcases Gh (fun y:aA=>decide (y.bg=n.a8)) ls with ⟨e1,e2⟩ | ⟨cq,e1,e2,e3⟩
    ·refine ⟨[],?_,?_,by simp;omega⟩
     ·rw [if_pos e1]
      unfold lR
      rw [aU (by omega) (by omega),List.append_nil]
     ·rw [e2];exact Gi.nil
    ·rw [if_neg (by omega),e3]
     obtain ⟨U,u1,u2,u3⟩:=Jd hV n e2 (hC cq (na e2)) hw NA hs i ⟨h0,by omega⟩ (TL l n).bw.length 0 out (by omega) (by omega) (by omega)
     simp only [Int.toNat_zero,List.drop_zero] at u2 u3
     refine ⟨U,u1,?_,u3⟩
     simp only
     rw [(ux hV n).fr];exact u2
   obtain ⟨U1,a1,a2,a3⟩:=xn
   have hc:(cntF l n:Int)≤15:=by
    have h1:=(hF.li n).l3
    rw [(ux hV n).fr,List.length_map] at h1
    unfold cntF
    omega
   obtain ⟨U2,b1,b2,b3⟩:=ih (i+1) (out++U1) (by omega) (by omega) (by rw [List.length_append];omega)
   refine ⟨U1++U2,?_,?_,?_⟩
   ·rw [sr,a1]
    simp only [Option.bind_some,cK]
    rw [b1,List.append_assoc]
   ·rw [hd,List.flatMap_cons];exact a2.app b2
   ·rw [hd,List.map_cons,List.sum_cons,List.length_append];omega
theorem zP:ub=jC:=funext fun s=>by rw [wq,tL]
theorem He (n lo hi:Int):(!(xc n lo hi))=mq n lo hi:=by
 rw [xW,zM,Bool.eq_iff_iff]
 simp only [Bool.not_eq_true',Bool.and_eq_false_iff,decide_eq_false_iff_not,Bool.or_eq_true,decide_eq_true_eq]
 omega
theorem uW (l:List aA):jD l=cQ l:=by
 have j2:iU=da:=by
  funext a b c
  unfold iU da
  rw [zP]
 have l2:pK=gS:=by
  funext a b c
  unfold pK gS
  refine zN (fun x=>?_) c
  unfold kD fF
  rw [j2,He]
  simp only [He]
  rfl
 unfold jD cQ
 split
 ·rfl
 ·unfold tj mO
  refine zN (fun x=>?_) 0
  unfold kF fG kE dL
  rw [zP,l2]
theorem PS {l:List fE} (h:∀ (i:Nat) x y,l[i]? =some x→l[i+1]? =some y→x.bn < y.bn):l.Pairwise (fun a b=>a.bn < b.bn):=by
 refine (zO (B9.on fE.bn) l (fun i x y hx hy=>?_)).imp (fun {a b} Bw=>?_)
 ·have:=h i x y hx hy
  show sL x.bn y.bn < 0
  unfold sL
  rw [if_pos this];omega
 ·unfold sL at Bw
  split at Bw
  ·assumption
  ·split at Bw<;>omega
theorem Jf (n:Int) (x:aA) (h0:0 < x.aV.length) (h1:(x.aV.length:Int)≤10) (hn:0≤n∧n≤1000):Ok (gS n x 0) (fun r=>(r=.inl (n+1)∧Hb x)∨∃ e,r=.inr e∧e≠0):=by
 unfold gS
 refine Ok.GY x.aV.length (fun i=>(∀ (j:Nat) y,(j:Int) < i→x.aV[j]? =some y→0≤y.bn∧y.bn≤2592000000)∧∀ (j:Nat) y z,(j:Int)+1 < i→x.aV[j]? =some y→x.aV[j+1]? =some z→y.bn < z.bn) ⟨fun j y hj=>by omega,fun j y z hj=>by omega⟩ (fun i i0 i1 hi=>?_)
 unfold fF
 by_cases jh:i < x.aV.length
 ·rw [if_pos jh]
  refine Ok.idx i0 jh (fun y hy _=>?_)
  rw [xW]
  by_cases ho:y.bn < 0∨2592000000 < y.bn
  ·rw [if_pos (by simpa using ho)]
   exact Ok.ret (.inr ⟨1,rfl,by omega⟩)
  ·rw [if_neg (by simpa using ho)]
   have S9:x.aV[i.toNat]? =some y:=(fg hy).2.2
   have fin:∀ c:Bool,(c=false→∀ (j:Nat) z,(j:Int)+1=i→x.aV[j]? =some z→z.bn < y.bn)→Ok (da i y c) (I6 x.aV.length (fun i=>(∀ (j:Nat) y,(j:Int) < i→x.aV[j]? =some y→0≤y.bn∧y.bn≤2592000000)∧∀ (j:Nat) y z,(j:Int)+1 < i→x.aV[j]? =some y→x.aV[j+1]? =some z→y.bn < z.bn) (fun r=>(r=.inl (n+1)∧Hb x)∨∃ e,r=.inr e∧e≠0) i):=by
    intro c hc
    unfold da
    cases c with
    | true=>rw [if_pos rfl];exact Ok.ret (.inr ⟨7,rfl,by omega⟩)
    | false=>
      rw [if_neg (by simp),tL]
      simp only [Option.bind_some]
      split
      ·exact Ok.ret (.inr ⟨5,rfl,by omega⟩)
      ·refine Ok.ret ?_
       rw [aU (by omega) (by omega)]
       refine ⟨rfl,jh,fun j z hj hz=>?_,fun j z u hj hz hu=>?_⟩
       ·by_cases he:(j:Int)=i
        ·rw [show j=i.toNat by omega,S9,Option.some.injEq] at hz
         subst hz;omega
        ·exact hi.1 j z (by omega) hz
       ·by_cases he:(j:Int)+1=i
        ·rw [show j+1=i.toNat by omega,S9,Option.some.injEq] at hu
         subst hu
         exact hc rfl j z he hz
        ·exact hi.2 j z u (by omega) hz hu
   by_cases hp:0 < i
   ·rw [if_pos hp,aU (by omega) (by omega)]
    refine Ok.idx (by omega) (by omega) (fun p cN _=>fin _ (fun hc j z hj hz=>?_))
    have:=(fg cN).2.2
    rw [show (i - 1).toNat=j by omega,hz,Option.some.injEq] at this
    subst this
    have:=of_decide_eq_false hc
    omega
   ·rw [if_neg hp]
    exact fin false (fun _ j z hj=>by omega)
 ·rw [if_neg jh]
  have Wa:i=x.aV.length:=by omega
  have hrg:∀ y∈x.aV,0≤y.bn∧y.bn≤2592000000:=fun y hy=>by
   obtain ⟨j,hj,rfl⟩:=List.getElem_of_mem hy
   exact hi.1 j _ (by omega) (List.getElem?_eq_getElem hj)
  have Wh:x.aV.Pairwise (fun a b=>a.bn < b.bn):=PS fun j y z hy hz=>hi.2 j y z (by
   have:=(List.getElem?_eq_some_iff.1 hz).1
   omega) hy hz
  refine Ok.inr ?_
  unfold jR
  rw [xW]
  by_cases he:x.aX=0∨(1000≤x.aX∧x.aX≤2592000000)
  ·rw [if_neg (by simp;omega)]
   refine Ok.ret (.inl ⟨by rw [aU (by omega) (by omega)],h0,h1,hrg,Wh,he⟩)
  ·rw [if_pos (by simp;omega)]
   exact Ok.ret (.inr ⟨1,rfl,by omega⟩)
theorem vf (l:List aA):Ok (cQ l) (fun e=>e=0→∀ x∈l,Hb x):=by
 unfold cQ
 by_cases hl:(100:Int) < l.length
 ·rw [if_pos hl];exact Ok.ret (fun h=>by omega)
 ·rw [if_neg hl]
  unfold mO
  refine Ok.GY l.length (fun i=>∀ (j:Nat) y,(j:Int) < i→l[j]? =some y→Hb y) (fun j y hj=>by omega) (fun i i0 i1 hi=>?_)
  unfold fG
  by_cases jh:i < l.length
  ·rw [if_pos jh]
   refine Ok.idx i0 jh (fun x hx _=>?_)
   have Wi:l[i.toNat]? =some x:=(fg hx).2.2
   rw [tL]
   simp only [Option.bind_some]
   split
   ·exact Ok.ret (fun h=>by omega)
   ·have fin:∀ c:Bool,Ok (dL i x c) (I6 l.length (fun i=>∀ (j:Nat) y,(j:Int) < i→l[j]? =some y→Hb y) (fun e=>e=0→∀ x∈l,Hb x) i):=by
     intro c
     unfold dL
     cases c with
     | true=>rw [if_pos rfl];exact Ok.ret (fun h=>by omega)
     | false=>
       rw [if_neg (by simp)]
       by_cases hz:(x.aV.length:Int)=0
       ·rw [if_pos hz];exact Ok.ret (fun h=>by omega)
       ·rw [if_neg hz]
        by_cases hy:(10:Int) < x.aV.length
        ·rw [if_pos hy];exact Ok.ret (fun h=>by omega)
        ·rw [if_neg hy]
         refine (Jf i x (by omega) (by omega) ⟨i0,by omega⟩).mono (fun r hr=>?_)
         rcases hr with ⟨rfl,hc⟩ | ⟨e,rfl,he⟩
         ·refine ⟨rfl,jh,fun j y hj PT=>?_⟩
          by_cases h:(j:Int)=i
          ·rw [show j=i.toNat by omega,Wi,Option.some.injEq] at PT
           subst PT;exact hc
          ·exact hi j y (by omega) PT
         ·exact fun h=>absurd h he
    by_cases hp:0 < i
    ·rw [if_pos hp,aU (by omega) (by omega)]
     exact Ok.idx (by omega) (by omega) (fun p _ _=>fin _)
    ·rw [if_neg hp];exact fin _
  ·rw [if_neg jh]
   exact Ok.inr (Ok.ret (fun _ x hx=>by
    obtain ⟨j,hj,rfl⟩:=List.getElem_of_mem hx
    exact hi j _ (by omega) (List.getElem?_eq_getElem hj)))
def SC (a b:aB):Int:=o6 [Lib.compareBytes a.cO b.cO,sL a.Time.aM b.Time.aM]
theorem SD:nI SC:=(uN.on aB.cO).or ((B9.on fun s:aB=>s.Time.aM).or .TP)
theorem LB (a b:aB):eM [(Lib.compareBytes a.cO b.cO),(cmp_Compare_int a.Time.aM b.Time.aM)]=some (SC a b):=by
 rw [nK]
 exact uL _ (by simp)
theorem Gk (l:List aB):oE l=cP l:=by
 have j3:∀ (p:List aB) (n:Int) (v:aB) (c:Bool),lC p n v c=fY p n v c:=by
  intro p n v c
  unfold lC fY
  cases c with
  | true=>rfl
  | false=>
    rw [if_neg Bool.false_ne_true,if_neg Bool.false_ne_true]
    by_cases hn:n=0
    ·rw [if_pos hn,if_pos hn];rfl
    ·rw [if_neg hn,if_neg hn]
     cases hq:idx p (aL (n - 1)) with
     | none=>rfl
     | some q=>
       simp only [Option.bind_some]
       rw [LB,LB]
       simp only [Option.bind_some]
       have adY:=SD.neg v q
       by_cases h:SC v q≤0
       ·rw [if_pos (show 0≤SC q v by omega),if_pos h]
       ·rw [if_neg (show ¬ 0≤SC q v by omega),if_neg h,show decide (q.cO=v.cO)=decide (v.cO=q.cO) from decide_eq_decide.2 ⟨Eq.symm,Eq.symm⟩]
        rfl
 have j2:∀ (p:List aB) (n:Int) (v:aB) (c:Bool),jt p n v c=du p n v c:=by
  intro p n v c
  unfold jt du
  rw [j3,← Bool.or_assoc,← Bool.or_assoc,Bool.or_comm (decide (v.Time.aM < 0))]
 unfold oE cP
 split
 ·rfl
 ·unfold uc nw
  refine zN (fun i=>?_) 0
  unfold lD fZ
  rw [zP]
  simp only [j2]
theorem wB (l:List aB):Ok (cP l) (fun e=>e=0→(l.length:Int)≤1000∧∀ x∈l,x.Time.aM < x.Time.To):=by
 unfold cP
 by_cases hl:(1000:Int) < l.length
 ·rw [if_pos hl];exact Ok.ret (fun h=>by omega)
 ·rw [if_neg hl]
  unfold nw
  refine Ok.GY l.length (fun i=>∀ (j:Nat) y,(j:Int) < i→l[j]? =some y→y.Time.aM < y.Time.To) (fun j y hj=>by omega) (fun i i0 i1 hi=>?_)
  unfold fZ
  by_cases jh:i < l.length
  ·rw [if_pos jh]
   refine Ok.idx i0 jh (fun x hx _=>?_)
   have Wi:l[i.toNat]? =some x:=(fg hx).2.2
   have j1:x.Time.aM < x.Time.To→Ok (fX i) (I6 l.length (fun i=>∀ (j:Nat) y,(j:Int) < i→l[j]? =some y→y.Time.aM < y.Time.To) (fun e=>e=0→(l.length:Int)≤1000∧∀ x∈l,x.Time.aM < x.Time.To) i):=by
    intro U0
    unfold fX
    refine Ok.ret ?_
    rw [aU (by omega) (by omega)]
    refine ⟨rfl,jh,fun j y hj PT=>?_⟩
    by_cases h:(j:Int)=i
    ·rw [show j=i.toNat by omega,Wi,Option.some.injEq] at PT
     subst PT;exact U0
    ·exact hi j y (by omega) PT
   have fin:∀ c:Bool,Ok (du l i x c) (I6 l.length (fun i=>∀ (j:Nat) y,(j:Int) < i→l[j]? =some y→y.Time.aM < y.Time.To) (fun e=>e=0→(l.length:Int)≤1000∧∀ x∈l,x.Time.aM < x.Time.To) i):=by
    intro c
    unfold du fY
    cases c with
    | true=>rw [if_pos rfl];exact Ok.ret (fun h=>by omega)
    | false=>
      rw [if_neg (by simp)]
      by_cases ho:x.Time.aM < x.Time.To
      ·by_cases hb:(decide (x.Time.To≤x.Time.aM)||(decide (x.Time.aM < 0)||decide (345686400000 < x.Time.To)))=true
       ·rw [if_pos hb];exact Ok.ret (fun h=>by omega)
       ·rw [if_neg hb]
        by_cases hz:i=0
        ·rw [if_pos hz];exact j1 ho
        ·rw [if_neg hz,aU (by omega) (by omega)]
         refine Ok.idx (by omega) (by omega) (fun p _ _=>?_)
         rw [LB]
         simp only [Option.bind_some]
         split
         ·exact Ok.ret (fun h=>by omega)
         ·unfold kG
          split
          ·exact Ok.ret (fun h=>by omega)
          ·exact j1 ho
      ·rw [if_pos (by simp;omega)];exact Ok.ret (fun h=>by omega)
   rw [tL]
   simp only [Option.bind_some]
   split
   ·exact fin _
   ·rw [tL]
    simp only [Option.bind_some]
    exact fin _
  ·rw [if_neg jh]
   exact Ok.inr (Ok.ret (fun _=>⟨by omega,fun x hx=>by
    obtain ⟨j,hj,rfl⟩:=List.getElem_of_mem hx
    exact hi j _ (by omega) (List.getElem?_eq_getElem hj)⟩))
noncomputable def tO (l:List aB):Int:=(cP l).getD 0
theorem Hf (l:List aB):cP l=some (tO l):=by
 obtain ⟨e,h,_⟩:=wB l
 unfold tO
 rw [h];rfl
theorem Ck {l:List aB} (h:tO l=0):(l.length:Int)≤1000∧∀ x∈l,x.Time.aM < x.Time.To:=by
 obtain ⟨e,h1,h2⟩:=wB l
 refine h2 ?_
 unfold tO at h
 rw [h1] at h;exact h
noncomputable def Gl (l:List aA):Int:=(cQ l).getD 0
theorem EF (l:List aA):cQ l=some (Gl l):=by
 obtain ⟨e,h,_⟩:=vf l
 unfold Gl
 rw [h];rfl
theorem PU {l:List aA} (h:Gl l=0):∀ x∈l,Hb x:=by
 obtain ⟨e,h1,h2⟩:=vf l
 refine h2 ?_
 unfold Gl at h
 rw [h1] at h;exact h
def EG (t:bO):Int:=if gJ t=true then 0 else 5
theorem zh (l:List aB) (t:bO):j6 l t=some (o6 [tO l,EG t]):=by
 unfold j6
 rw [Hf]
 simp only [Option.bind_some]
 by_cases h:tO l=0
 ·rw [if_neg (fun z=>z h),tL,h]
  simp only [Option.bind_some]
  unfold EG
  cases gJ t<;>rfl
 ·rw [if_pos h]
  show _=some (if tO l≠0 then tO l else o6 [EG t])
  rw [if_pos h]
theorem zi (t:bO):qp t=some (EG t):=by
 unfold qp EG
 rw [wq]
 simp only [Option.bind_some]
 cases gJ t<;>rfl
def Jg (w:ar) (s:List ar×Int) (x:aB):List ar×Int:=(if s.2 < min x.Time.aM w.To then s.1++[⟨s.2,min x.Time.aM w.To⟩] else s.1,max s.2 x.Time.To)
theorem EH (w:ar) (s:List ar×Int) (x:aB):(Jg w s x).1.length≤s.1.length+1:=by
 unfold Jg
 simp only
 split
 ·rw [List.length_append];simp
 ·omega
def SE (w:ar) (s:List ar×Int):List ar:=if s.2 < w.To then s.1++[⟨s.2,w.To⟩] else s.1
def LC (l:List aB) (t:bO) (w:ar):List ar:=SE w ((l.filter fun x=>decide (x.cO=t)).foldl (Jg w) ([],w.aM))
theorem Cl (w:ar) (t:bO):∀ (l:List aB) (s:List ar×Int),(l.filter fun x=>decide (x.cO=t)).foldl (Jg w) s=l.foldl (fun s x=>if x.cO=t then Jg w s x else s) s
 | [],_=>rfl
 | x :: r,s=>by
   rw [List.filter_cons,List.foldl_cons]
   by_cases h:x.cO=t
   ·rw [if_pos (by simpa using h),if_pos h,List.foldl_cons];exact Cl w t r _
   ·rw [if_neg (by simpa using h),if_neg h];exact Cl w t r _
theorem Cm (l:List aB) (hl:(l.length:Int)≤1000) (ho:∀ x∈l,x.Time.aM < x.Time.To) (t:bO) (w:ar):oX l t w [] w.aM 0=some (LC l t w,0):=by
 unfold oX LC
 rw [Cl]
 refine (uO l (fun (s:List ar×Int) i=>(s.1,s.2,i)) _ (fun s x=>if x.cO=t then Jg w s x else s) (fun i s=>(s.1.length:Int)≤i) (fun s=>some (SE w s,0)) (fun s i x h0 h1 hx hI=>?_) (fun s hI=>?_) ([],w.aM) (by simp))
 ·have hox:=ho x (na hx)
  have hlen:=EH w s x
  refine ⟨?_,by split<;>omega⟩
  simp only
  unfold ia
  rw [if_pos h1,hx]
  simp only [Option.bind_some]
  unfold ma jF jE
  rw [aU (by omega) (by omega)]
  by_cases ht:x.cO=t
  ·by_cases Hv:x.Time.To≤s.2
   ·rw [if_pos (by simp [Hv]),if_pos ht]
    unfold Jg
    rw [if_neg (by omega),show max s.2 x.Time.To=s.2 by omega]
   ·rw [if_neg (by simp [ht];omega),if_pos ht]
    unfold Jg
    by_cases hm:s.2 < min x.Time.aM w.To
    ·rw [if_pos hm,if_pos hm,mh (by simp;omega)]
     simp only [Option.bind_some]
     rw [show max s.2 x.Time.To=x.Time.To by omega]
    ·rw [if_neg hm,if_neg hm,show max s.2 x.Time.To=x.Time.To by omega]
  ·rw [if_pos (by simp [ht]),if_neg ht]
 ·simp only
  unfold ia
  rw [if_neg (by omega)]
  unfold oW jG SE
  split
  ·rw [mh (by simp;omega)];rfl
  ·rfl
theorem Cn (l:List aB) (hl:(l.length:Int)≤1000) (t:bO) (w:ar):oF l t w=some (LC l t w):=by
 unfold oF iA
 rw [mh (by simp;omega)]
 simp only [Option.bind_some,List.nil_append]
 rw [show fy l (fun y0=>some (ga y0 t))=Pv (⟨[],[],⟨0,0⟩⟩:aB) l (fun y0=>some (ga y0 t)) from rfl,Np _ _ (fun y0=>ga y0 t) l (by omega) (fun _ _=>rfl)]
 simp only [Option.bind_some]
 have hf:(l.filter fun x=>!ga x t)=l.filter fun x=>decide (x.cO=t):=by
  refine List.filter_congr fun x _=>?_
  unfold ga
  by_cases h:x.cO=t<;>simp [h]
 rw [hf]
 have Hl:((l.filter fun x=>decide (x.cO=t)).length:Int)≤l.length:=by have:=List.length_filter_le (fun x:aB=>decide (x.cO=t)) l;omega
 rw [mh (by simp;omega)]
 simp only [Option.bind_some]
 unfold ud LC
 have key:=uO (A:=List ar) (X:=List ar×Int×Int) ((l.filter fun x=>decide (x.cO=t))++[(⟨[],[],⟨w.To,w.To⟩⟩:aB)]) (fun (s:List ar×Int) i=>(s.1,s.2,i)) (fun x=>ib w ((l.filter fun x=>decide (x.cO=t))++[(⟨[],[],⟨w.To,w.To⟩⟩:aB)]) x.1 x.2.1 x.2.2) (Jg w) (fun i s=>(s.1.length:Int)≤i) (fun s=>some s.1) (fun s i x h0 h1 hx hI=>by
  have hlen:=EH w s x
  refine ⟨?_,by omega⟩
  simp only
  unfold ib
  rw [if_pos h1,hx]
  simp only [Option.bind_some]
  unfold lE
  rw [aU (by omega) (by rw [List.length_append] at h1;simp at h1;omega)]
  unfold Jg
  by_cases hm:s.2 < min x.Time.aM w.To
  ·rw [if_pos hm,if_pos hm,mh (by rw [List.length_append] at h1;simp at h1 ⊢;omega)];rfl
  ·rw [if_neg hm,if_neg hm]) (fun s hI=>by
  simp only
  unfold ib
  rw [if_neg (by omega)]) ([],w.aM) (by simp)
 rw [key,List.foldl_append]
 simp only [List.foldl_cons,List.foldl_nil]
 unfold SE Jg
 simp only [Int.min_self]
theorem NJ (l:List aB) (hl:(l.length:Int)≤1000) (t:bO) (w:ar):(LC l t w).length≤2000:=by
 have key:∀ (r:List aB) (s:List ar×Int),(r.foldl (Jg w) s).1.length≤s.1.length+r.length:=by
  intro r
  induction r with
  | nil=>intro s;simp
  | cons x r ih=>
    intro s
    have:=ih (Jg w s x)
    have:=EH w s x
    simp only [List.foldl_cons,List.length_cons]
    omega
 have h1:=key (l.filter fun x=>decide (x.cO=t)) ([],w.aM)
 have h2:=List.length_filter_le (fun x:aB=>decide (x.cO=t)) l
 simp only [List.length_nil] at h1
 unfold LC SE
 split
 ·rw [List.length_append];simp;omega
 ·omega
def nO (a b:ai):Int:=o6 [sL a.At b.At,Lib.compareBytes a.Device b.Device,Lib.compareBytes a.bg b.bg]
theorem NK:nI nO:=(B9.on ai.At).or ((uN.on ai.Device).or ((uN.on ai.bg).or .TP))
theorem PV (a b:ai):ju a b=some (nO a b):=by
 unfold ju nO
 rw [nK,show eM [sL a.At b.At,Lib.compareBytes a.Device b.Device,Lib.compareBytes a.bg b.bg]=some (o6 [sL a.At b.At,Lib.compareBytes a.Device b.Device,Lib.compareBytes a.bg b.bg]) from uL _ (by simp)]
 rfl
theorem NL (a b:ai):jJ a b=some (nO a b):=by
 unfold jJ nO
 rw [nK,show eM [sL a.At b.At,Lib.compareBytes a.Device b.Device,Lib.compareBytes a.bg b.bg]=some (o6 [sL a.At b.At,Lib.compareBytes a.Device b.Device,Lib.compareBytes a.bg b.bg]) from uL _ (by simp)]
 rfl
theorem Ig {a b:ai} (h:nO a b=0):a.At=b.At∧a.Device=b.Device∧a.bg=b.bg:=
 ⟨Du (jQ h _ (by simp)),qx (jQ h _ (by simp)),qx (jQ h _ (by simp))⟩
theorem w6 {n:aq} {sh:List aB} {A:List ar} {w:ar} {T k:Int} {t:bO} {m:Int} {x:ai} (h:oq n sh A w T k t m=some x):x.At=m∧m < T∧x.Device=n.aG∧x.bg=n.a8:=by
 unfold oq at h
 split at h
 ·rename_i hc
  obtain rfl:=Option.some.inj h
  exact ⟨rfl,hc.1.1,rfl,rfl⟩
 ·cases h
theorem LD {cq:aA} {r:fE} (hL:G7 cq r):∀ y∈cq.aV,y.bn≤r.bn:=fun y hy=>by
 obtain ⟨i,hi,rfl⟩:=List.getElem_of_mem hy
 obtain ⟨h0,h1,h2⟩:=fg hL.last
 obtain ⟨hj,e⟩:=List.getElem?_eq_some_iff.1 h2
 rw [← e]
 by_cases hl:i=((cq.aV.length:Int) - 1).toNat
 ·subst hl;exact Int.le_refl _
 ·have:=(List.pairwise_iff_getElem.1 hL.inc) i ((cq.aV.length:Int) - 1).toNat hi hj (by omega)
  omega
theorem A6 {n:aq} {sh:List aB} {A:List ar} {w:ar} {cq:aA} {r:fE} (hL:G7 cq r) {time:ar}:(Ln n sh A w cq r time).Pairwise (fun a b=>a.At < b.At)∧∀ x∈Ln n sh A w cq r time,time.aM≤x.At∧x.At < time.To∧x.Device=n.aG∧x.bg=n.a8:=by
 have hr:0≤r.bn:=(hL.rg r (na hL.last)).1
 have p1:(Gr (fun k (x:fE)=>oq n sh A w time.To k x.cO (time.aM+x.bn)) 0 cq.aV).Pairwise (fun a b=>a.At < b.At):=
  H5 (A:=ai.At) (B:=fun x:fE=>time.aM+x.bn) (fun k x y h=>(w6 h).1) (hL.inc.imp fun {a b} h=>by omega)
 have m1:∀ x∈Gr (fun k (x:fE)=>oq n sh A w time.To k x.cO (time.aM+x.bn)) 0 cq.aV,time.aM≤x.At∧x.At < time.To∧x.Device=n.aG∧x.bg=n.a8∧x.At≤time.aM+r.bn:=fun x hx=>by
  obtain ⟨j,y,hy,e⟩:=EB hx
  obtain ⟨a,b,c,d⟩:=w6 e
  have h1:=hL.rg y hy
  have h2:=LD hL y hy
  exact ⟨by omega,by omega,c,d,by omega⟩
 unfold Ln
 by_cases hE:cq.aX=0
 ·rw [if_pos hE,List.append_nil]
  exact ⟨p1,fun x hx=>by
   obtain ⟨a,b,c,d,_⟩:=m1 x hx
   exact ⟨a,b,c,d⟩⟩
 ·have TZ:=hL.ev.resolve_left hE
  rw [if_neg hE]
  obtain ⟨p2,m2⟩:=Gd (E:=cq.aX) (e:=min time.To w.To) (g:=oq n sh A w time.To ((cq.aV.length:Int) - 1) r.cO) (A:=ai.At) (by omega) (fun t x h=>(w6 h).1) _ (time.aM+r.bn+cq.aX) (Nat.le_refl _)
  refine ⟨List.pairwise_append.2 ⟨p1,p2,fun x hx y hy=>?_⟩,fun x hx=>?_⟩
  ·have h1:=(m1 x hx).2.2.2.2
   have h2:=(m2 y hy).1
   omega
  ·rcases List.mem_append.1 hx with h | h
   ·obtain ⟨a,b,c,d,_⟩:=m1 x h
    exact ⟨a,b,c,d⟩
   ·obtain ⟨a,b,c⟩:=m2 x h
    obtain ⟨c1,c2,c3,c4⟩:=w6 c
    exact ⟨by omega,by omega,c3,c4⟩
theorem EI {l:List Signal} (hV:VS l) {ls:List aA} (hC:∀ x∈ls,Hb x) (sh:List aB) (w:ar) (n:aq):(Ie ls sh w l n).Pairwise (fun a b=>a.At < b.At)∧∀ x∈Ie ls sh w l n,x.Device=n.aG∧x.bg=n.a8:=by
 unfold Ie
 cases hl:NG ls n with
 | none=>exact ⟨List.Pairwise.nil,fun x hx=>by cases hx⟩
 | some cq=>
   have hL:=(hC cq (List.mem_of_find?_eq_some hl)).ok
   have T5:=ux hV n
   simp only
   refine ⟨List.pairwise_flatMap.2 ⟨fun tw QF=>(A6 hL).1,?_⟩,fun x hx=>?_⟩
   ·rw [T5.fr,List.pairwise_map]
    refine T5.pw.imp (fun {a b} Bw x hx y hy=>?_)
    obtain ⟨e,e1,e2⟩:=Bw
    have h1:=((A6 hL).2 x hx).2.1
    have h2:=((A6 hL).2 y hy).1
    unfold Lj at h1 h2
    rw [e1] at h1
    simp only [Option.getD_some] at h1 h2
    omega
   ·obtain ⟨tw,QF,hx⟩:=List.mem_flatMap.1 hx
    exact ((A6 hL).2 x hx).2.2
theorem Wj {l:List Signal} (hV:VS l) {ls:List aA} (hC:∀ x∈ls,Hb x) (sh:List aB) (w:ar) {N:List aq} (hN:N.Pairwise (fun a b=>Cv a b < 0)):(N.flatMap (Ie ls sh w l)).Pairwise (fun a b=>nO a b≠0):=by
 refine List.pairwise_flatMap.2 ⟨fun n hn=>(EI hV hC sh w n).1.imp (fun {a b} Bw h0=>by have:=(Ig h0).1;omega),hN.imp (fun {a b} Bw x hx y hy h0=>?_)⟩
 obtain ⟨_,h1,h2⟩:=Ig h0
 obtain ⟨a1,a2⟩:=(EI hV hC sh w a).2 x hx
 obtain ⟨b1,b2⟩:=(EI hV hC sh w b).2 y hy
 have:a=b:=by
  obtain ⟨p,q⟩:=a
  obtain ⟨p',q'⟩:=b
  simp only at a1 a2 b1 b2
  rw [← a1,← a2,← b1,← b2,h1,h2]
 subst this
 rw [xy.zero] at Bw
 omega
theorem LF:∀ {T:List ai},T.Pairwise (fun a b=>nO a b≠0)→∀ a∈T,∀ b∈T,nO a b=0→a=b
 | [],_,a,ha,_,_,_=>by cases ha
 | x :: r,h,a,ha,b,hb,h0=>by
   rw [List.pairwise_cons] at h
   rcases List.mem_cons.1 ha with rfl | D5
   ·rcases List.mem_cons.1 hb with rfl | Ar
    ·rfl
    ·exact absurd h0 (h.1 b Ar)
   ·rcases List.mem_cons.1 hb with rfl | Ar
    ·have:=NK.neg a b
     exact absurd (by omega) (h.1 a D5)
    ·exact LF h.2 a D5 b Ar h0
theorem LG:∀ k:Nat,cZ k=mQ (α:=ai) k
 | 0=>rfl
 | k+1=>by
   show eB (cZ k)=A3 (mQ k)
   rw [LG k]
   rfl
theorem Ih:dv=mQ (α:=ai) depth:=by
 funext a b c d e
 unfold dv
 rw [LG]
theorem PW:fc=zg (α:=ai):=by
 funext a b c d e
 unfold fc zg
 rw [Ih]
 rfl
theorem PX:cC=sa (α:=ai):=by
 funext a b c d e g
 unfold cC sa
 rw [Ih,PW]
theorem PY:iu=sc (α:=ai):=by
 funext a b c d
 unfold iu sc
 have e:cE=sb (α:=ai):=by
  funext a b c d
  unfold cE sb lP uV
  rw [PX]
 rw [e]
theorem PZ (l:List ai) (f:ai→ai→Option Int):ck l f=NF l f:=by
 unfold ck NF gl lQ tC
 have e:cF=sd (α:=ai):=by
  funext a b c d g
  unfold cF sd iv A5
  rw [PY]
  rfl
 rw [e]
theorem P0 (U:List ai) (hl:U.length≤90000):∃ Z,nE U=some Z∧Z.Perm U∧tx nO Z:=by
 obtain ⟨Z,z1,z2,z3⟩:=PR NK (fun y0 y1=>jJ y0 y1) (fun a b=>NL a b) U hl
 refine ⟨Z,?_,z2,z3⟩
 unfold nE
 rw [nJ (show ck U (fun y0 y1=>jJ y0 y1)=some Z by rw [PZ,z1]) z2.length_eq]
 rfl
theorem P1 (U:List ai) (hl:U.length≤90000):∃ Z,jw U=some (Z,0)∧Z.Perm U∧tx nO Z:=by
 obtain ⟨Z,z1,z2,z3⟩:=FW (fun y0 y1=>ju y0 y1) nO U (by omega) (fun a _ b _=>PV a b) (NK.ord U)
 refine ⟨Z,?_,z2,z3⟩
 unfold jw iH
 rw [nJ z1 z2.length_eq]
 rfl
theorem Ii (g:au→Nat) (F:aq→au) (n:aq) (v:au) (h:g v≤g (F n)+1):∀ N:List aq,N.Nodup→(N.map fun m=>g (r7 F n v m)).sum≤(N.map fun m=>g (F m)).sum+1∧(n∉N→(N.map fun m=>g (r7 F n v m)).sum=(N.map fun m=>g (F m)).sum)
 | [],_=>⟨by simp,fun _=>rfl⟩
 | m :: r,hN=>by
   rw [List.nodup_cons] at hN
   obtain ⟨i1,i2⟩:=Ii g F n v h r hN.2
   rw [List.map_cons,List.sum_cons,List.map_cons,List.sum_cons]
   by_cases hm:m=n
   ·subst hm
    have e:=i2 hN.1
    refine ⟨?_,fun z=>absurd (by simp) z⟩
    rw [e]
    have:r7 F m v m=v:=by unfold r7;rw [if_pos rfl]
    rw [this]
    omega
   ·have:r7 F n v m=F m:=by unfold r7;rw [if_neg hm]
    rw [this]
    exact ⟨by omega,fun z=>by rw [i2 (fun y=>z (by simp [y]))]⟩
theorem CP (x:au) (s:Signal):(wv x s).2.bt.length≤x.bt.length+1:=by
 unfold wv
 repeat' split
 all_goals first
  | exact Nat.le_succ _
  | exact I8 x 1 s.At
  | exact I8 x 3 s.At
  | exact I8 x 0 s.At
  | exact I8 x 2 s.At
theorem Jh {N:List aq} (hN:N.Nodup):∀ p:List Signal,(N.map fun n=>(FL p n).bt.length).sum≤p.length:=by
 refine yX ?_ ?_
 ·have:∀ M:List aq,(M.map fun n=>(FL [] n).bt.length).sum=0:=by
   intro M
   induction M with
   | nil=>rfl
   | cons a r ih=>rw [List.map_cons,List.sum_cons,ih];rfl
  rw [this N];exact Nat.le_refl _
 ·intro p s ih
  rw [qF]
  have:=(Ii (fun x=>x.bt.length) (FL p) (mK s) (wv (FL p (mK s)) s).2 (CP _ _) N hN).1
  rw [List.length_append]
  show (N.map fun n=>(r7 (FL p) (mK s) (wv (FL p (mK s)) s).2 n).bt.length).sum≤p.length+1
  omega
theorem Ij (w:ar):gM w=(decide (0≤w.aM)&&decide (w.aM≤w.To)&&decide (w.To≤345686400000)):=by
 unfold gM pM
 rw [xW,Bool.eq_iff_iff];simp
noncomputable def Gm (w:ar):Int:=if gM w=true then 0 else 1
theorem EJ (w:ar):fP w=Gm w:=by
 unfold fP od Gm
 rw [zM,Ij]
 by_cases h:0≤w.aM∧w.aM≤w.To∧w.To≤345686400000
 ·rw [if_neg (by simp;omega),if_pos (by simp;omega)]
 ·rw [if_pos (by simp;omega),if_neg (by simp;omega)]
theorem Oz {α β:Type} (L:List β) (f:α→Int) (g:α→β):∀ l:List α,(∀ e∈l,idx L (f e)=some (g e))→idxs L (l.map f)=some (l.map g)
 | [],_=>rfl
 | e :: r,h=>by
   show (idx L (f e)).bind _=_
   rw [h e (by simp),Oz L f g r (fun x hx=>h x (by simp [hx]))]
   rfl
theorem EK {l:List Signal} (hB:∀ x∈l,Ep x) (hv:pj l=0→VS l) (ls:List aA) (L8:(ls.length:Int)≤1000) (sh:List aB) (w:ar):
 (o6 [pj l,Gl ls,tO sh,Gm w]≠0→kX l ls sh w=some ([],o6 [pj l,Gl ls,tO sh,Gm w]))∧
 (o6 [pj l,Gl ls,tO sh,Gm w]=0→∃ Z,pa l ls sh w=some Z∧(Z.length:Int)≤90000∧kX l ls sh w=some (if (5000:Int) < Z.length then ([],2) else (Z,0))):=by
 have OA:kX l ls sh w=if o6 [pj l,Gl ls,tO sh]≠0 then some ([],o6 [pj l,Gl ls,tO sh]) else if (!(gM w))=true then some ([],1) else (qO l 345686400000).bind fun v9=>(idxs v9.Cp v9.kV).bind fun nX=>ir ls nX sh w.aM w.To [] 0:=by
  unfold kX
  rw [vc hB,EF,Hf]
  simp only [Option.bind_some]
  rw [K6 _ (by simp)]
  rfl
 have YA:o6 [pj l,Gl ls,tO sh,Gm w]=if o6 [pj l,Gl ls,tO sh]≠0 then o6 [pj l,Gl ls,tO sh] else Gm w:=by
  rw [Sm]
 refine ⟨fun h=>?_,fun h=>?_⟩
 ·rw [YA] at h
  rw [OA,YA]
  by_cases h3:o6 [pj l,Gl ls,tO sh]=0
  ·rw [if_neg (fun z=>z h3)] at h
   have SQ:¬ (o6 [pj l,Gl ls,tO sh]≠0):=fun z=>z h3
   rw [if_neg SQ,if_neg SQ]
   unfold Gm at h ⊢
   cases hw:gM w with
   | true=>rw [hw,if_pos rfl] at h;exact absurd rfl h
   | false=>rfl
  ·rw [if_pos h3,if_pos h3]
 ·have h1:pj l=0:=jQ h _ (by simp)
  have h2:Gl ls=0:=jQ h _ (by simp)
  have h3:tO sh=0:=jQ h _ (by simp)
  have h4:Gm w=0:=jQ h _ (by simp)
  have hV:=hv h1
  have hC:=PU h2
  have EM:=(Ck h3).1
  have hw:gM w=true:=by
   unfold Gm at h4
   cases hb:gM w with
   | true=>rfl
   | false=>rw [hb] at h4;cases h4
  have T7:=hw
  rw [Ij] at T7
  simp only [Bool.and_eq_true,decide_eq_true_eq] at T7
  have hW:xl w:=⟨T7.1.1,by omega,T7.2⟩
  obtain ⟨H,N,ix,a1,a2,a3,a4⟩:=Ot hV 345686400000
  obtain ⟨N',b1,b2,b3⟩:=Al hV 345686400000
  have Wk:pre l 345686400000=l:=Ev fun s hs=>by have:=hV.L5 s hs;omega
  rw [Wk] at a2 b1 b3
  have hNN:N=N':=I9 a3 b2 (fun n=>(a4 n).trans (b3 n).symm)
  subst hNN
  have hNl:=Ou a3 a4
  have Oc:=hV.len
  rw [OA,h1,h2,h3,if_neg (by decide),hw,if_neg (by decide),a1]
  simp only [Option.bind_some]
  rw [a2.ord,Oz H.Cp ix (FL l) N (fun n hn=>(a2.one n hn).2)]
  simp only [Option.bind_some]
  have xj:(sh.length:Int)≤1000000:=by omega
  rw [Hd hV L8 hC hW xj N (by omega) N.length 0 [] (by omega) (by omega) (by simp)]
  obtain ⟨U,u1,u2,u3⟩:=Je hV L8 hC hW (by omega) xj N (by omega) (Cw [] l) N.length 0 [] (by omega) (by omega) (by simp)
  simp only [Int.toNat_zero,List.drop_zero,List.nil_append] at u1 u2 u3 ⊢
  have adZ:(N.map (cntF l)).sum≤15:=by
   have h:=Jh (yR xy a3) l
   have e:N.map (cntF l)=N.map fun n=>(FL l n).bt.length:=List.map_congr_left fun n _=>by
    unfold cntF
    rw [(ux hV n).fr,List.length_map]
   rw [e];omega
  have hU:U.length≤90000:=by omega
  obtain ⟨Z,z1,z2,z3⟩:=P0 U hU
  have hQ:pa l ls sh w=some Z:=by
   unfold pa
   rw [b1]
   simp only [Option.bind_some]
   rw [u1,z1]
  refine ⟨Z,hQ,by rw [z2.length_eq];omega,?_⟩
  by_cases hT:(5000:Int) < (N.flatMap (Ie ls sh w l)).length
  ·have:=u2.2 hT
   rw [if_pos hT,if_pos (by rw [z2.length_eq];exact this)]
  ·have hUT:=u2.1 (by omega)
   subst hUT
   rw [if_neg hT,if_neg (by rw [z2.length_eq];exact hT)]
   obtain ⟨Z',y1,y2,y3⟩:=P1 _ hU
   have Rr:=LF (Wj hV hC sh w a3)
   have:Z'=Z:=xV (y2.trans z2.symm) y3 z3 fun a ha b hb k1 k2=>by
    have:=NK.neg a b
    exact Rr a (y2.mem_iff.1 ha) b (y2.mem_iff.1 hb) (by omega)
   rw [y1,this]
def Ji (l:List aA) (n k:Int):Prop:=(l.length:Int)≤n∧∀ x∈l,(x.aV.length:Int)≤k
theorem Ji.mono {l:List aA} {n k k':Int} (h:Ji l n k) (hk:k≤k'):Ji l n k':=⟨h.1,fun x hx=>by have:=h.2 x hx;omega⟩
theorem Ji.set {l:List aA} {n k:Int} (h:Ji l n k) {x:aA} (hx:(x.aV.length:Int)≤k) (i:Nat):Ji (l.set i x) n k:=
 ⟨by rw [List.length_set];exact h.1,fun y hy=>by
  rcases List.mem_or_eq_of_mem_set hy with h' | h'
  ·exact h.2 y h'
  ·rw [h'];exact hx⟩
theorem Jj {s:vv} {K:Int} (hs:rI s K) (hK:60≤K):sU (nq s) (K - 60) (fun l=>Ji l 2 10):=by
 refine sU.of ?_
 unfold nq th
 refine Ok.iter (fun x:(List Int)×Int×(List aA)×Int=>(2 - x.2.2.2).toNat) (fun x=>(0≤x.2.2.2∧x.2.2.2≤2)∧rI ⟨x.1,x.2.1⟩ (K - 20 * x.2.2.2)∧Ji x.2.2.1 x.2.2.2 3) ?_ _ ⟨by simp,by simpa using hs,by simp [Ji]⟩
 rintro ⟨L,a,l,i⟩ ⟨hi,h1,h2⟩
 dsimp only at hi h1 h2 ⊢
 unfold kC
 by_cases jh:i < 2
 ·rw [if_pos (by simpa using jh)]
  refine Ok.idx hi.1 (by simpa using jh) (fun r _ _=>?_)
  refine Ok.gen (wu h1 (by omega) (by omega) (by omega)) (fun f s1 _ q1=>?_)
  dsimp only
  split
  ·unfold iR
   refine Ok.ret ?_
   rw [aU (by omega) (by omega)]
   have h21:=h2.1
   exact ⟨⟨by simp only;omega,q1.less (by simp only;omega),by simp only;omega,h2.2⟩,by simp only;omega⟩
  ·refine Ok.gen (lU q1 (by omega) (by simp) (by simp)) (fun e s2 _ q2=>?_)
   refine Ok.gen (lU q2 (by omega) (by simp) (by simp)) (fun af s3 _ q3=>?_)
   refine Ok.gen (HW q3 (by omega) (by omega) (by omega) (by omega)) (fun n s4 hn q4=>?_)
   dsimp only
   unfold tg
   refine Ok.iter (fun x:(List Int)×Int×(List fE)×Int×Int=>(n - x.2.2.2.2).toNat) (fun x=>(0≤x.2.2.2.2∧x.2.2.2.2≤n)∧rI ⟨x.1,x.2.1⟩ (K - 20 * i - 4 - 2 * x.2.2.2.2)∧(x.2.2.1.length:Int)≤x.2.2.2.2) ?_ _ ⟨by simp only;omega,q4.less (by simp only;omega),by simp⟩
   rintro ⟨L',a',R,af',j⟩ ⟨hj,g1,g2⟩
   dsimp only at hj g1 g2 ⊢
   unfold kA
   by_cases SF:j < n
   ·rw [if_pos SF]
    refine Ok.gen (sM g1 (by omega) (by simp) (by simp)) (fun t s5 _ q5=>?_)
    refine Ok.app (by simp;omega) ?_
    refine Ok.gen (lU q5 (by omega) (by simp) (by simp)) (fun d s6 _ q6=>?_)
    refine Ok.ret ?_
    dsimp only
    rw [aU (x:=j+1) (by omega) (by omega)]
    exact ⟨⟨by simp only;omega,q6.less (by simp only;omega),by simp;omega⟩,by simp only;omega⟩
   ·rw [if_neg SF]
    refine Ok.inr ?_
    unfold pH
    refine Ok.app (by have:=h2.1;simp;omega) ?_
    unfold iR
    refine Ok.ret ?_
    rw [aU (x:=i+1) (by omega) (by omega)]
    refine ⟨⟨by simp only;omega,g1.less (by simp only;omega),?_,fun x hx=>?_⟩,by simp only;omega⟩
    ·have:=h2.1;simp;omega
    ·rcases List.mem_append.1 hx with h | h
     ·exact h2.2 x h
     ·rw [List.mem_singleton] at h;subst h;simp only;omega
 ·rw [if_neg (by simpa using jh)]
  refine Ok.inr ?_
  have JG:Ji l 2 3:=⟨by have:=h2.1;omega,h2.2⟩
  have CR:rI ⟨L,a⟩ (K - 40):=h1.less (by omega)
  unfold pI
  have j4:∀ (L:List Int) (a:Int) (l:List aA),Ji l 2 10→rI ⟨L,a⟩ (K - 60)→Ok (kB L a l) (fun r=>Ji r.1 2 10∧rI r.2 (K - 60)):=fun L a l x y=>Ok.ret ⟨x,y⟩
  have j3:∀ (L:List Int) (a:Int) (c:Bool),rI ⟨L,a⟩ (K - 45)→(c=true→0 < l.length)→Ok (iT l L a c) (fun r=>Ji r.1 2 10∧rI r.2 (K - 60)):=by
   intro L a c P2 hc
   unfold iT
   cases c with
   | false=>rw [if_neg (by simp)];exact j4 L a l (JG.mono (by omega)) (P2.less (by omega))
   | true=>
     have vg:=hc rfl
     have Jm:=JG.1
     rw [if_pos rfl]
     refine Ok.gen (xX P2 (by omega) (by omega) (by omega)) (fun k s1 hk q1=>?_)
     refine Ok.idx hk.1 hk.2 (fun x _ IK=>?_)
     have hx:=JG.2 x IK
     refine Ok.gen (sM q1 (by omega) (by simp) (by simp)) (fun r s2 _ q2=>?_)
     refine Ok.gen (lU q2 (by omega) (by simp) (by simp)) (fun e s3 _ q3=>?_)
     refine Ok.gen (wu q3 (by omega) (by omega) (by omega)) (fun f s4 _ q4=>?_)
     dsimp only
     split
     ·refine Ok.gen (Om q4 (by omega) (by omega) (by omega) (by omega)) (fun o s5 _ q5=>?_)
      refine Ok.gen (sM q5 (by omega) (by simp) (by simp)) (fun t s6 _ q6=>?_)
      refine Ok.app (by simp;omega) ?_
      unfold iS
      exact j4 _ _ _ (((JG.mono (by omega)).set (by simp only;omega) _).set (by simp;omega) _) (q6.less (by omega))
     ·unfold iS
      exact j4 _ _ _ ((JG.mono (by omega)).set (by simp only;omega) _) (q4.less (by omega))
  split
  ·rename_i hp
   refine Ok.gen (wu CR (by omega) (by omega) (by omega)) (fun f s1 _ q1=>?_)
   exact j3 _ _ _ (q1.less (by omega)) (fun _=>by omega)
  ·exact j3 _ _ _ (CR.less (by omega)) (fun h=>by cases h)
theorem LH {s:vv} {K:Int} (hs:rI s K) (hK:60≤K):sU (oD s) (K - 60) (fun _=>True):=by
 refine sU.of ?_
 unfold oD tZ
 refine Ok.iter (fun x:(List Int)×Int×(List aB)×Int=>(2 - x.2.2.2).toNat) (fun x=>(0≤x.2.2.2∧x.2.2.2≤2)∧rI ⟨x.1,x.2.1⟩ (K - 20 * x.2.2.2)∧(x.2.2.1.length:Int)≤4 * x.2.2.2) ?_ _ ⟨by simp,by simpa using hs,by simp⟩
 rintro ⟨L,a,l,i⟩ ⟨hi,h1,h2⟩
 dsimp only at hi h1 h2 ⊢
 unfold lB
 by_cases jh:i < 2
 ·rw [if_pos (by simpa using jh)]
  refine Ok.idx hi.1 (by simpa using jh) (fun r _ _=>?_)
  refine Ok.gen (lU h1 (by omega) (by simp) (by simp)) (fun at_ s1 _ q1=>?_)
  refine Ok.gen (xX q1 (by omega) (by omega) (by omega)) (fun n s2 hn q2=>?_)
  dsimp only
  unfold tY
  refine Ok.iter (fun x:(List Int)×Int×(List aB)×Int×Int=>(n - x.2.2.2.2).toNat) (fun x=>(0≤x.2.2.2.2∧x.2.2.2.2≤n)∧rI ⟨x.1,x.2.1⟩ (K - 20 * i - 2 - 3 * x.2.2.2.2)∧(x.2.2.1.length:Int)≤4 * i+x.2.2.2.2) ?_ _ ⟨by simp only;omega,q2.less (by simp only;omega),by simp only;omega⟩
  rintro ⟨L',a',R,af',j⟩ ⟨hj,g1,g2⟩
  dsimp only at hj g1 g2 ⊢
  unfold lz
  by_cases SF:j < n
  ·rw [if_pos SF]
   refine Ok.gen (lU g1 (by omega) (by simp) (by simp)) (fun d s5 _ q5=>?_)
   refine Ok.gen (sM q5 (by omega) (by simp) (by simp)) (fun t s6 _ q6=>?_)
   refine Ok.app (by simp;omega) ?_
   refine Ok.gen (lU q6 (by omega) (by simp) (by simp)) (fun d2 s7 _ q7=>?_)
   refine Ok.ret ?_
   dsimp only
   rw [aU (x:=j+1) (by omega) (by omega)]
   exact ⟨⟨by simp only;omega,q7.less (by simp only;omega),by simp;omega⟩,by simp only;omega⟩
  ·rw [if_neg SF]
   refine Ok.inr (Ok.ret ?_)
   rw [aU (x:=i+1) (by omega) (by omega)]
   exact ⟨⟨by simp only;omega,g1.less (by simp only;omega),by simp only;omega⟩,by simp only;omega⟩
 ·rw [if_neg (by simpa using jh)]
  refine Ok.inr ?_
  have CR:rI ⟨L,a⟩ (K - 40):=h1.less (by omega)
  have j1:∀ (L:List Int) (a:Int) (c:Bool),rI ⟨L,a⟩ (K - 45)→(c=true→0 < l.length)→Ok (js l L a c) (fun r=>True∧rI r.2 (K - 60)):=by
   intro L a c P2 hc
   unfold js lA
   cases c with
   | false=>rw [if_neg (by simp)];exact Ok.ret ⟨trivial,P2.less (by omega)⟩
   | true=>
     have vg:=hc rfl
     rw [if_pos rfl]
     refine Ok.gen (xX P2 (by omega) (by omega) (by omega)) (fun k s1 hk q1=>?_)
     refine Ok.idx hk.1 hk.2 (fun x _ IK=>?_)
     refine Ok.gen (sM q1 (by omega) (by simp) (by simp)) (fun r s2 _ q2=>?_)
     refine Ok.gen (sM q2 (by omega) (by simp) (by simp)) (fun e s3 _ q3=>?_)
     refine Ok.gen (lU q3 (by omega) (by simp) (by simp)) (fun f s4 _ q4=>?_)
     exact Ok.ret ⟨trivial,q4.less (by omega)⟩
  unfold qn
  split
  ·rename_i hp
   refine Ok.gen (wu CR (by omega) (by omega) (by omega)) (fun f s1 _ q1=>?_)
   exact j1 _ _ _ (q1.less (by omega)) (fun _=>by omega)
  ·exact j1 _ _ _ (CR.less (by omega)) (fun h=>by cases h)
theorem NM {s:vv} {K:Int} (hs:rI s K) (hK:10≤K):sU (qL s) (K - 10) (fun _=>True):=by
 refine sU.of ?_
 unfold qL nt
 refine Ok.gen (lU hs (by omega) (by simp) (by simp)) (fun a s1 _ q1=>?_)
 refine Ok.gen (lU q1 (by omega) (by simp) (by simp)) (fun b s2 _ q2=>?_)
 refine Ok.gen (wu q2 (by omega) (by omega) (by omega)) (fun c s3 _ q3=>?_)
 split
 ·refine Ok.gen (lU q3 (by omega) (by simp) (by simp)) (fun d s4 _ q4=>?_)
  refine Ok.gen (lU q4 (by omega) (by simp) (by simp)) (fun e s5 _ q5=>?_)
  exact Ok.ret ⟨trivial,q5.less (by omega)⟩
 ·exact Ok.ret ⟨trivial,q3.less (by omega)⟩
theorem T8 (xs:List Int) (h:(xs.length:Int)≤1000):l0 xs=some (o6 xs):=uL xs (by omega)
noncomputable def NN (n:Int):Int:=if jo n=true then 0 else 1
theorem NO (n:Int):iz n=NN n:=by
 unfold iz NN jo
 rw [He]
 cases mq n 0 345686399999<;>rfl
theorem YB (a b c:Int):o6 [a,b,c]=if o6 [a,b]≠0 then o6 [a,b] else c:=by
 have e0:∀ r,o6 (0 :: r)=o6 r:=fun _=>rfl
 have e1:∀ (x:Int) r,x≠0→o6 (x :: r)=x:=fun x r h=>if_pos h
 by_cases ha:a=0
 ·subst ha
  rw [e0,e0]
  by_cases hb:b=0
  ·subst hb
   rw [e0,e0,if_neg (fun z=>z rfl)]
   by_cases hc:c=0
   ·subst hc;rfl
   ·exact e1 c [] hc
  ·rw [e1 b _ hb,e1 b _ hb,if_pos hb]
 ·rw [e1 a _ ha,e1 a _ ha,if_pos ha]
theorem Jk (sh:List aB) (t:bO) (m:Int):pL sh t m=some (if o6 [tO sh,EG t,NN m]≠0 then ([],false,o6 [tO sh,EG t,NN m]) else (Ll sh t m,decide (Ll sh t m≠[]),0)):=by
 unfold pL
 rw [zh,YB]
 simp only [Option.bind_some]
 by_cases h:o6 [tO sh,EG t]=0
 ·have h3:tO sh=0:=jQ h _ (by simp)
  have EM:=(Ck h3).1
  have h':¬ (o6 [tO sh,EG t]≠0):=fun z=>z h
  rw [if_neg h',if_neg h']
  unfold NN
  cases hm:jo m with
  | true=>
    rw [if_neg (by simp),if_pos rfl,if_neg (by simp),DF sh t m (by omega)]
    rfl
  | false=>rfl
 ·rw [if_pos h,if_pos h,if_pos h]
theorem EL (sh:List aB) (t:bO) (w:ar):mr sh t w=some (if o6 [tO sh,EG t,Gm w]≠0 then ([],o6 [tO sh,EG t,Gm w]) else (LC sh t w,0)):=by
 unfold mr
 rw [zh,YB]
 simp only [Option.bind_some]
 by_cases h:o6 [tO sh,EG t]=0
 ·have h3:tO sh=0:=jQ h _ (by simp)
  obtain ⟨EM,P2⟩:=Ck h3
  have h':¬ (o6 [tO sh,EG t]≠0):=fun z=>z h
  rw [if_neg h',if_neg h']
  unfold Gm
  cases hm:gM w with
  | true=>
    rw [if_neg (by simp),if_pos rfl,if_neg (by simp),Cm sh EM P2 t w]
  | false=>rfl
 ·rw [if_pos h,if_pos h,if_pos h]
theorem OB {x:List Signal} (hx:SG 15 x) (sx:vv) {ls:List aA} (L8:(ls.length:Int)≤1000) (sl:vv) (sh:List aB) (ss:vv) (m:Int) (sm:vv) (w:ar) (sw:vv) (t:bO) (st:vv) (To:Int):
 kh (x,sx) (ls,sl) (sh,ss) (m,sm) (w,sw) (t,st) To=some true:=by
 have j5:ja (x,sx) (ls,sl) (sh,ss) (w,sw) To (tO sh) false=some true:=by
  unfold ja
  rw [if_neg (by simp)]
  simp only
  obtain ⟨n1,n2⟩:=EK hx.2 (Oq hx) ls L8 sh ⟨w.aM,To⟩
  have tail:∀ (Z:List ai) (e:Int),(Z.length:Int)≤90000→kf (Z,e) e Z=some true:=by
   intro Z e hZ
   unfold kf
   rw [if_pos rfl]
   simp only
   rw [show gD Z Z=some (decide (Z=Z)) from Ds Z Z (by omega)]
   simp only [decide_true,Option.bind_some,if_true]
   rw [G5]
   rfl
  have Wl:(lG x).bind (fun v35=>(jD ls).bind fun R3=>(l0 [v35,R3,tO sh,fP ⟨w.aM,To⟩]))=some (o6 [pj x,Gl ls,tO sh,Gm ⟨w.aM,To⟩]):=by
   rw [vd hx.2,uW,EF]
   simp only [Option.bind_some]
   rw [T8 _ (by simp),EJ]
  rw [vd hx.2,uW,EF]
  simp only [Option.bind_some]
  rw [T8 _ (by simp),EJ]
  simp only [Option.bind_some]
  by_cases h:o6 [pj x,Gl ls,tO sh,Gm ⟨w.aM,To⟩]=0
  ·obtain ⟨Z,z1,z2,z3⟩:=n2 h
   rw [z3]
   simp only [Option.bind_some]
   rw [if_pos h,z1]
   simp only [Option.bind_some]
   unfold mB
   by_cases hb:(5000:Int) < Z.length
   ·rw [if_pos hb,if_pos hb];exact tail [] 2 (by simp)
   ·rw [if_neg hb,if_neg hb,h];exact tail Z 0 z2
  ·rw [n1 h]
   simp only [Option.bind_some]
   rw [if_neg h];exact tail [] _ (by simp)
 have j4:mC (x,sx) (ls,sl) (sh,ss) (w,sw) (t,st) To (tO sh) false=some true:=by
  unfold mC
  rw [if_neg (by simp)]
  simp only
  rw [EL,zi]
  simp only [Option.bind_some]
  rw [T8 _ (by simp),EJ]
  simp only [Option.bind_some]
  by_cases h:o6 [tO sh,EG t,Gm ⟨w.aM,To⟩]=0
  ·have h3:tO sh=0:=jQ h _ (by simp)
   have EM:=(Ck h3).1
   have hu:=NJ sh EM t ⟨w.aM,To⟩
   have h':¬ (o6 [tO sh,EG t,Gm ⟨w.aM,To⟩]≠0):=fun z=>z h
   rw [if_neg h',h,if_neg (by simp),if_pos rfl,Cn sh EM]
   simp only [Option.bind_some]
   rw [show gx (LC sh t ⟨w.aM,To⟩) (LC sh t ⟨w.aM,To⟩)=some (decide (LC sh t ⟨w.aM,To⟩=LC sh t ⟨w.aM,To⟩)) from Ds _ _ (by omega)]
   simp only [decide_true,Option.bind_some,Bool.not_true]
   exact j5
  ·rw [if_pos h,if_neg (by simp),if_neg h];exact j5
 unfold kh
 simp only
 rw [Gk,Hf,uW,EF]
 simp only [Option.bind_some]
 rw [if_neg (by simp)]
 unfold mE
 rw [if_neg (by simp)]
 simp only
 rw [Jk,zi]
 simp only [Option.bind_some]
 rw [T8 _ (by simp),NO]
 simp only [Option.bind_some]
 unfold mD
 by_cases h:o6 [tO sh,EG t,NN m]=0
 ·have h3:tO sh=0:=jQ h _ (by simp)
  have EM:=(Ck h3).1
  have h':¬ (o6 [tO sh,EG t,NN m]≠0):=fun z=>z h
  rw [if_neg h',h,if_pos rfl,Ao sh t m (by omega)]
  simp only [Option.bind_some]
  rw [show (decide ((0:Int)≠0)||(decide (Ll sh t m≠Ll sh t m)||(decide (Ll sh t m≠[])!=decide (Ll sh t m≠[]))))=false by simp]
  exact j4
 ·rw [if_pos h,if_neg h]
  simp only
  rw [show (decide (o6 [tO sh,EG t,NN m]≠o6 [tO sh,EG t,NN m])||(decide (([]:bO)≠[])||(false !=decide (([]:bO)≠[]))))=false by simp]
  exact j4
theorem zQ (L:List Int):pV L=some true:=by
 have key:Ok (pV L) (fun r=>r=true):=by
  unfold pV
  refine Ok.gen (HW (s:=⟨L,0⟩) (K:=1000) ⟨by simp,by simp⟩ (by omega) (by omega) (by omega) (by omega)) (fun n s1 hn q1=>?_)
  dsimp only
  refine Ok.gen (I7 q1 (by omega) (by omega)) (fun x s2 hx q2=>?_)
  refine Ok.gen (Jj q2 (by omega)) (fun ls s3 L8 q3=>?_)
  refine Ok.gen (LH q3 (by omega)) (fun sh s4 _ q4=>?_)
  refine Ok.gen (Pz q4 (by omega)) (fun m s5 _ q5=>?_)
  refine Ok.gen (NM q5 (by omega)) (fun w s6 _ q6=>?_)
  refine Ok.gen (sM q6 (by omega) (by simp) (by simp)) (fun t s7 _ q7=>?_)
  refine Ok.gen (wu q7 (by omega) (by omega) (by omega)) (fun f s8 _ q8=>?_)
  have SH:SG 15 x:=⟨by have:=hx.1;omega,hx.2⟩
  have hl:=L8.1
  split
  ·exact ⟨true,OB SH s2 (by omega) s3 sh s4 m s5 w s6 t s7 _,rfl⟩
  ·exact ⟨true,OB SH s2 (by omega) s3 sh s4 m s5 w s6 t s7 _,rfl⟩
 obtain ⟨r,h1,rfl⟩:=key
 exact h1
end Go.Beacon
