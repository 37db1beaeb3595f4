/- Plain facts on what the functions compute. No program in sight. -/
import Derived.Test.YthamhifbccpcpaaGreatDoorPlLA
import Derived.Test.YthamhifbccpcpaaGreatDoorPlBA
set_option linter.unusedVariables false
set_option linter.unusedSimpArgs false
namespace Go.Beacon
open Go Go.Eng
section
variable {α:Type} {c:α→α→Int} (hc:nL c) (f:α→α→Option Int) (hf:∀ a b,f a b=some (c a b))
include hc hf
theorem Pm:∀ (k:Nat) (P S T R:List α),S≠[]→T≠[]→S.length+T.length≤k→(P++S++T++R).length≤1000000→qV c S→qV c T→
 ∃ U,mF k (P++S++T++R) P.length ((P.length+S.length:Nat):Int) ((P.length+S.length+T.length:Nat):Int) f=some (P++U++R)∧U.Perm (S++T)∧qV c U:=by
 intro k
 induction k with
 | zero=>
   intro P S T R hS hT hk
   have:=List.length_pos_iff.2 hS
   omega
 | succ k ih=>
   intro P S T R hSn hTn hk hl hS hT
   have hS1:=List.length_pos_iff.2 hSn
   have hT1:=List.length_pos_iff.2 hTn
   have x5:P.length+S.length+T.length+R.length≤1000000:=by simp only [List.length_append] at hl;omega
   show ∃ U,C8 (mF k) _ _ _ _ _=_∧_
   unfold C8
   rw [aP (x:=((P.length+S.length:Nat):Int) - P.length) (by omega) (by omega),aP (x:=((P.length+S.length+T.length:Nat):Int) - ((P.length+S.length:Nat):Int)) (by omega) (by omega)]
   by_cases c1:S.length=1
   ·rw [if_pos (by omega)]
    obtain ⟨x,rfl⟩:∃ x,S=[x]:=List.length_eq_one_iff.1 c1
    exact Rv hc f hf P T R x hT hl
   rw [if_neg (by omega)]
   by_cases c2:T.length=1
   ·rw [if_pos (by omega)]
    obtain ⟨y,rfl⟩:∃ y,T=[y]:=List.length_eq_one_iff.1 c2
    exact Rw hc f hf P S R y hS hl
   rw [if_neg (by omega)]
   obtain ⟨a,ha⟩:∃ a,a=P.length:=⟨_,rfl⟩
   obtain ⟨m,hm⟩:∃ m,m=P.length+S.length:=⟨_,rfl⟩
   obtain ⟨b,hb⟩:∃ b,b=P.length+S.length+T.length:=⟨_,rfl⟩
   obtain ⟨mQ,Dz⟩:∃ mQ,mQ=(a+b) / 2:=⟨_,rfl⟩
   rw [← hb,← hm,← ha]
   have Kr:ux a b=(mQ:Int):=by unfold ux;rw [Ax (by omega),← Dz]
   rw [Kr]
   have go:∃ k1 k2:Nat,k1≤S.length∧k2≤T.length∧a+k1+k2=mQ∧
    (k1=0∨k2=T.length∨∃ (h1:k1 - 1 < S.length) (h2:k2 < T.length),¬ c T[k2] S[k1 - 1] < 0)∧
    (k1=S.length∨k2=0∨∃ (h1:k1 < S.length) (h2:k2 - 1 < T.length),c T[k2 - 1] S[k1] < 0)∧
    (if (mQ:Int) < (m:Int) then rC (mF k) (P++S++T++R) a m b f (aU ((aU ((mQ:Int)+m)) - b)) mQ else rC (mF k) (P++S++T++R) a m b f a m)=wz (mF k) (P++S++T++R) a m b f ((a+k1:Nat):Int) (decide (k1 < S.length)&&decide (0 < k2)):=by
    by_cases d:mQ < m
    ·rw [if_pos (by omega),aP (x:=(mQ:Int)+m) (by omega) (by omega),aP (x:=(mQ:Int)+m - b) (by omega) (by omega),show (mQ:Int)+m - b=((mQ+m - b:Nat):Int) by omega]
     obtain ⟨k1,k2,a1,a2,a3,_,a4,a5,a6⟩:=En f hf (mF k) P S T R hl hS1 hT1 a m b mQ (mQ+m - b) mQ ha hm hb Dz (.inl ⟨d,rfl,rfl⟩)
     exact ⟨k1,k2,a1,a2,a3,a4,a5,a6⟩
    ·rw [if_neg (by omega)]
     obtain ⟨k1,k2,a1,a2,a3,_,a4,a5,a6⟩:=En f hf (mF k) P S T R hl hS1 hT1 a m b mQ a m ha hm hb Dz (.inr ⟨by omega,rfl,rfl⟩)
     exact ⟨k1,k2,a1,a2,a3,a4,a5,a6⟩
   obtain ⟨k1,k2,h1,h2,h3,hA,hB,h6⟩:=go
   rw [h6]
   clear h6
   obtain ⟨S1,Uk⟩:∃ X,X=S.take k1:=⟨_,rfl⟩
   obtain ⟨S2,Ul⟩:∃ X,X=S.drop k1:=⟨_,rfl⟩
   obtain ⟨T1,Um⟩:∃ X,X=T.take k2:=⟨_,rfl⟩
   obtain ⟨T2,Un⟩:∃ X,X=T.drop k2:=⟨_,rfl⟩
   have eS:S=S1++S2:=by rw [Uk,Ul,List.take_append_drop]
   have eT:T=T1++T2:=by rw [Um,Un,List.take_append_drop]
   have l1:S1.length=k1:=by rw [Uk,List.length_take];omega
   have l2:S2.length=S.length - k1:=by rw [Ul,List.length_drop]
   have l3:T1.length=k2:=by rw [Um,List.length_take];omega
   have l4:T2.length=T.length - k2:=by rw [Un,List.length_drop]
   have Vr:=hS
   have Vs:=hT
   rw [eS] at Vr
   rw [eT] at Vs
   unfold qV at Vr Vs
   rw [List.pairwise_append] at Vr Vs
   have Xe:∀ x∈S1++T1,∀ y∈S2++T2,¬ c y x < 0:=by
    intro x hx y hy
    rcases List.mem_append.1 hx with hx | hx
    ·rcases List.mem_append.1 hy with hy | hy
     ·exact Vr.2.2 x hx y hy
     ·rw [Uk] at hx
      rw [Un] at hy
      obtain ⟨i,hi,Cj,rfl⟩:=ti hx
      obtain ⟨j,hj,hj1,rfl⟩:=tj hy
      rcases hA with g | g | ⟨g1,g2,g3⟩
      ·omega
      ·omega
      ·have p1:¬ c S[k1 - 1] S[i] < 0:=by
        rcases uX hS hi g1 (by omega) with e | e
        ·have:S[k1 - 1]=S[i]:=by simp only [← e]
         rw [this,hc.zero];omega
        ·exact e
       have p2:¬ c T[j] T[k2] < 0:=by
        rcases uX hT g2 hj (by omega) with e | e
        ·have:T[j]=T[k2]:=by simp only [← e]
         rw [this,hc.zero];omega
        ·exact e
       exact Uj hc (Uj hc p1 g3) p2
    ·rcases List.mem_append.1 hy with hy | hy
     ·rw [Um] at hx
      rw [Ul] at hy
      obtain ⟨i,hi,Cj,rfl⟩:=ti hx
      obtain ⟨j,hj,hj1,rfl⟩:=tj hy
      rcases hB with g | g | ⟨g1,g2,g3⟩
      ·omega
      ·omega
      ·have p1:¬ c T[k2 - 1] T[i] < 0:=by
        rcases uX hT hi g2 (by omega) with e | e
        ·have:T[k2 - 1]=T[i]:=by simp only [← e]
         rw [this,hc.zero];omega
        ·exact e
       have p2:¬ c S[j] S[k1] < 0:=by
        rcases uX hS g1 hj (by omega) with e | e
        ·have:S[j]=S[k1]:=by simp only [← e]
         rw [this,hc.zero];omega
        ·exact e
       exact Uj hc (Uj hc p1 (Pl hc g3)) p2
     ·exact Vs.2.2 x hx y hy
   clear hA hB
   have Xf:aU ((aU ((mQ:Int)+m)) - ((a+k1:Nat):Int))=((m+k2:Nat):Int):=by
    rw [aP (x:=(mQ:Int)+m) (by omega) (by omega),aP (by omega) (by omega)];omega
   have r5:wz (mF k) (P++S++T++R) a m b f ((a+k1:Nat):Int) (decide (k1 < S.length)&&decide (0 < k2))=Ay (mF k) a m b f ((a+k1:Nat):Int) (P++S1++T1++S2++T2++R):=by
    unfold wz
    by_cases d:k1 < S.length∧0 < k2
    ·rw [if_pos (by simp [d.1,d.2]),Kr,Xf]
     have n1:S2≠[]:=List.length_pos_iff.1 (by omega)
     have n2:T1≠[]:=List.length_pos_iff.1 (by omega)
     have eD:P++S++T++R=(P++S1)++S2++T1++(T2++R):=by rw [eS,eT];simp
     have eE:P++S1++T1++S2++T2++R=(P++S1)++T1++S2++(T2++R):=by simp
     have hr:=Uh (P++S1) S2 T1 (T2++R) n1 n2 (by rw [← eD];exact hl)
     have q0:((P++S1).length:Int)=((a+k1:Nat):Int):=by rw [List.length_append,l1,ha]
     have q1:(((P++S1).length+S2.length:Nat):Int)=(m:Int):=by rw [List.length_append,l1,l2];omega
     have q2:(((P++S1).length+S2.length+T1.length:Nat):Int)=((m+k2:Nat):Int):=by rw [List.length_append,l1,l2,l3];omega
     rw [q0,q1,q2,← eD,← eE] at hr
     rw [mD hr (by rw [eS,eT];simp only [List.length_append];omega)]
     rfl
    ·rw [if_neg (by simp only [Bool.and_eq_true,decide_eq_true_eq];exact d)]
     congr 1
     rw [eS,eT]
     by_cases d1:k1 < S.length
     ·have:T1=[]:=List.eq_nil_of_length_eq_zero (by omega)
      rw [this];simp
     ·have:S2=[]:=List.eq_nil_of_length_eq_zero (by omega)
      rw [this];simp
   rw [r5]
   have s1:qV c S1:=Vr.1
   have s2:qV c S2:=Vr.2.1
   have t1:qV c T1:=Vs.1
   have t2:qV c T2:=Vs.2.1
   obtain ⟨U1,u1,u2,u3⟩:∃ U1,Ay (mF k) a m b f ((a+k1:Nat):Int) (P++S1++T1++S2++T2++R)=yl (mF k) a m b f ((a+k1:Nat):Int) (P++U1++S2++T2++R)∧U1.Perm (S1++T1)∧qV c U1:=by
    unfold Ay Lv
    rw [Kr]
    by_cases d:0 < k1∧0 < k2
    ·rw [if_pos (by simp only [Bool.and_eq_true,decide_eq_true_eq];omega)]
     have n1:S1≠[]:=List.length_pos_iff.1 (by omega)
     have n2:T1≠[]:=List.length_pos_iff.1 (by omega)
     obtain ⟨U,v1,v2,v3⟩:=ih P S1 T1 (S2++T2++R) n1 n2 (by omega) (by simp only [List.length_append];omega) s1 t1
     have eE:P++S1++T1++S2++T2++R=P++S1++T1++(S2++T2++R):=by simp
     rw [show ((P.length+S1.length:Nat):Int)=((a+k1:Nat):Int) by omega,show ((P.length+S1.length+T1.length:Nat):Int)=(mQ:Int) by omega,← eE,← ha] at v1
     have hlen:=v2.length_eq
     simp only [List.length_append] at hlen
     refine ⟨U,?_,v2,v3⟩
     rw [mD v1 (by simp only [List.length_append];omega)]
     show yl _ _ _ _ _ _ _=_
     congr 1
     simp
    ·rw [if_neg (by simp only [Bool.and_eq_true,decide_eq_true_eq];omega)]
     refine ⟨S1++T1,by congr 1;simp,List.Perm.refl _,?_⟩
     by_cases d1:0 < k1
     ·have:T1=[]:=List.eq_nil_of_length_eq_zero (by omega)
      rw [this,List.append_nil];exact s1
     ·have:S1=[]:=List.eq_nil_of_length_eq_zero (by omega)
      rw [this,List.nil_append];exact t1
   rw [u1]
   have lU1:=u2.length_eq
   simp only [List.length_append] at lU1
   obtain ⟨U2,w1,w2,w3⟩:∃ U2,yl (mF k) a m b f ((a+k1:Nat):Int) (P++U1++S2++T2++R)=some (P++U1++U2++R)∧U2.Perm (S2++T2)∧qV c U2:=by
    unfold yl Lu
    rw [Kr,Xf]
    by_cases d:k1 < S.length∧k2 < T.length
    ·rw [if_pos (by simp only [Bool.and_eq_true,decide_eq_true_eq];omega)]
     have n1:S2≠[]:=List.length_pos_iff.1 (by omega)
     have n2:T2≠[]:=List.length_pos_iff.1 (by omega)
     obtain ⟨U,v1,v2,v3⟩:=ih (P++U1) S2 T2 R n1 n2 (by omega) (by simp only [List.length_append];omega) s2 t2
     rw [show (((P++U1).length+S2.length:Nat):Int)=((m+k2:Nat):Int) by rw [List.length_append];omega,show (((P++U1).length+S2.length+T2.length:Nat):Int)=(b:Int) by rw [List.length_append];omega,show ((P++U1).length:Int)=(mQ:Int) by rw [List.length_append];omega] at v1
     have hlen:=v2.length_eq
     simp only [List.length_append] at hlen
     refine ⟨U,?_,v2,v3⟩
     rw [mD v1 (by simp only [List.length_append];omega)]
     rfl
    ·rw [if_neg (by simp only [Bool.and_eq_true,decide_eq_true_eq];omega)]
     refine ⟨S2++T2,by simp,List.Perm.refl _,?_⟩
     by_cases d1:k1 < S.length
     ·have:T2=[]:=List.eq_nil_of_length_eq_zero (by omega)
      rw [this,List.append_nil];exact s2
     ·have:S2=[]:=List.eq_nil_of_length_eq_zero (by omega)
      rw [this,List.nil_append];exact t2
   refine ⟨U1++U2,by rw [w1];simp,?_,?_⟩
   ·rw [eS,eT]
    refine (u2.append w2).trans ?_
    simp only [List.append_assoc]
    refine List.Perm.append_left S1 ?_
    rw [← List.append_assoc,← List.append_assoc]
    exact List.perm_append_comm.append_right T2
   ·unfold qV
    rw [List.pairwise_append]
    exact ⟨u3,w3,fun x hx y hy=>Xe x (u2.mem_iff.1 hx) y (w2.mem_iff.1 hy)⟩
end
section
variable {α:Type}
noncomputable def C9 (n12:Int) (vZ:List α):Option (((List α)×Int)⊕(List α)):=
 some (.inl (vZ,aU (n12 * (2:Int))))
noncomputable def Az (aj:Int) (tw:α→α→Option Int) (n12:Int) (gm:List α) (n17:Int):Option (((List α)×Int)⊕(List α)):=
 if (aU (n17+n12)) < aj then
  (dm gm.length (fun r:(List α)=>r.length) (mF depth gm n17 (aU (n17+n12)) aj tw)).bind fun v21=>
  C9 n12 v21
 else
  C9 n12 gm
noncomputable def tn (aj:Int) (tw:α→α→Option Int) (n12:Int) (gm:List α) (n17:Int) (n18:Int):Option (((List α)×Int×Int)⊕(((List α)×Int)⊕(List α))):=
 if n18≤aj then
  (dm gm.length (fun r:(List α)=>r.length) (mF depth gm n17 (aU (n17+n12)) n18 tw)).bind fun C0=>
  some (.inl (C0,n18,aU (n18+(aU ((2:Int) * n12)))))
 else
  Option.map .inr (Az aj tw n12 gm n17)
noncomputable def wA (aj:Int) (tw:α→α→Option Int) (n12:Int) (gm:List α) (n17:Int) (n18:Int):Option (((List α)×Int)⊕(List α)):=
 iter (fun x:(List α)×Int×Int=>tn aj tw n12 x.1 x.2.1 x.2.2) (gm,n17,n18)
noncomputable def tp (aj:Int) (tw:α→α→Option Int) (jE:List α) (n12:Int):Option (((List α)×Int)⊕(List α)):=
 if n12 < aj then
  wA aj tw n12 jE (0:Int) (aU ((2:Int) * n12))
 else
  Option.map .inr (some jE)
noncomputable def tq (aj:Int) (tw:α→α→Option Int) (jE:List α) (n12:Int):Option (List α):=
 iter (fun x:(List α)×Int=>tp aj tw x.1 x.2) (jE,n12)
noncomputable def Da (aj:Int) (tw:α→α→Option Int) (l4:List α) (n5:Int):Option (List α):=
 (dm l4.length (fun r:(List α)=>r.length) (IW l4 n5 aj tw)).bind fun v8=>
 tq aj tw v8 (20:Int)
noncomputable def tt (aj:Int) (tw:α→α→Option Int) (l4:List α) (n5:Int) (n6:Int):Option (((List α)×Int×Int)⊕(List α)):=
 if n6≤aj then
  (dm l4.length (fun r:(List α)=>r.length) (IW l4 n5 n6 tw)).bind fun v7=>
  some (.inl (v7,n6,aU (n6+(20:Int))))
 else
  Option.map .inr (Da aj tw l4 n5)
noncomputable def uY (aj:Int) (tw:α→α→Option Int) (l4:List α) (n5:Int) (n6:Int):Option (List α):=
 iter (fun x:(List α)×Int×Int=>tt aj tw x.1 x.2.1 x.2.2) (l4,n5,n6)
noncomputable def Rx (aa:List α) (mN:α→α→Option Int):Option (List α):=
 (dm aa.length (fun r:(List α)=>r.length) (uY (aa.length:Int) mN aa (0:Int) (20:Int))).bind fun v1=>
 some v1
inductive HF (c:α→α→Int) (B:Nat):List α→Prop
 | last (l:List α) (h:l.length≤B) (s:qV c l):HF c B l
 | more (b l:List α) (h:b.length=B) (s:qV c b) (r:HF c B l):HF c B (b++l)
variable {c:α→α→Int}
theorem HF.small {B:Nat} {l:List α} (h:HF c B l) (hl:l.length≤B):qV c l:=by
 cases h with
 | last _ _ s=>exact s
 | more b r hb s _=>
   rw [List.length_append] at hl
   have:r=[]:=List.eq_nil_of_length_eq_zero (by omega)
   rw [this,List.append_nil]
   exact s
theorem HF.one {B:Nat} {l:List α} (h:HF c B l) (hB:1≤B) (hl:B < l.length):∃ b r,l=b++r∧b.length=B∧qV c b∧HF c B r:=by
 cases h with
 | last _ h _=>omega
 | more b r hb s hr=>exact ⟨b,r,rfl,hb,s,hr⟩
theorem HF.full {B:Nat} {l:List α} (h:HF c B l) (hB:1≤B) (hl:B≤l.length):∃ b r,l=b++r∧b.length=B∧qV c b∧HF c B r:=by
 by_cases e:l.length=B
 ·exact ⟨l,[],by simp,e,h.small (by omega),.last [] (by simp) .nil⟩
 ·exact h.one hB (by omega)
variable (hc:nL c) (f:α→α→Option Int) (hf:∀ a b,f a b=some (c a b))
include hc hf
theorem Uo (B n:Nat) (hB:1≤B) (hBn:B≤200000) (hn:n≤90000):∀ (k:Nat) (P rest:List α),rest.length≤k→P.length+rest.length=n→HF c B rest→
 ∃ lj,wA n f B (P++rest) P.length ((P.length+2 * B:Nat):Int)=some (.inl (P++lj,((2 * B:Nat):Int)))∧lj.Perm rest∧HF c (2 * B) lj:=by
 intro k
 have fin:∀ (P rest:List α),P.length+rest.length=n→HF c B rest→rest.length < 2 * B→∃ lj,wA n f B (P++rest) P.length ((P.length+2 * B:Nat):Int)=some (.inl (P++lj,((2 * B:Nat):Int)))∧lj.Perm rest∧HF c (2 * B) lj:=by
  intro P rest hl hb hs
  by_cases d:B < rest.length
  ·obtain ⟨b,r,rfl,e1,e2,e3⟩:=hb.one hB d
   rw [List.length_append] at hl hs d
   obtain ⟨U,u1,u2,u3⟩:=Pm hc f hf depth P b r [] (List.length_pos_iff.1 (by omega)) (List.length_pos_iff.1 (by omega)) (by unfold depth;omega) (by simp only [List.length_append,List.length_nil];omega) e2 (e3.small (by omega))
   have hU:=u2.length_eq
   rw [List.length_append] at hU
   refine ⟨U,?_,u2,.last U (by omega) u3⟩
   simp only [List.append_nil] at u1
   unfold wA
   refine vj (o:=some _) ?_
   show tn n f B (P++(b++r)) P.length ((P.length+2 * B:Nat):Int)=_
   unfold tn Az
   rw [if_neg (by omega),aP (by omega) (by omega),if_pos (by omega)]
   rw [show ((P.length+b.length:Nat):Int)=(P.length:Int)+B by omega,show ((P.length+b.length+r.length:Nat):Int)=(n:Int) by omega,List.append_assoc] at u1
   rw [mD u1 (by simp only [List.length_append];omega)]
   unfold C9
   rw [aP (by omega) (by omega),show (B:Int) * 2=((2 * B:Nat):Int) by omega]
   rfl
  ·refine ⟨rest,?_,List.Perm.refl _,.last rest (by omega) (hb.small (by omega))⟩
   unfold wA
   refine vj (o:=some _) ?_
   show tn n f B (P++rest) P.length ((P.length+2 * B:Nat):Int)=_
   unfold tn Az
   rw [if_neg (by omega),aP (by omega) (by omega),if_neg (by omega)]
   unfold C9
   rw [aP (by omega) (by omega),show (B:Int) * 2=((2 * B:Nat):Int) by omega]
 induction k with
 | zero=>
   intro P rest hk hl hb
   exact fin P rest hl hb (by omega)
 | succ k ih=>
   intro P rest hk hl hb
   by_cases d:rest.length < 2 * B
   ·exact fin P rest hl hb d
   ·obtain ⟨b,r,rfl,e1,e2,e3⟩:=hb.full hB (by omega)
    rw [List.length_append] at hk hl d
    obtain ⟨b2,r2,rfl,g1,g2,g3⟩:=e3.full hB (by omega)
    rw [List.length_append] at hk hl d
    obtain ⟨U,u1,u2,u3⟩:=Pm hc f hf depth P b b2 r2 (List.length_pos_iff.1 (by omega)) (List.length_pos_iff.1 (by omega)) (by unfold depth;omega) (by simp only [List.length_append];omega) e2 g2
    have hU:=u2.length_eq
    rw [List.length_append] at hU
    obtain ⟨w,w1,w2,w3⟩:=ih (P++U) r2 (by omega) (by rw [List.length_append];omega) g3
    refine ⟨U++w,?_,?_,.more U w (by omega) u3 w3⟩
    ·have eD:P++(b++(b2++r2))=P++b++b2++r2:=by simp
     have step:tn n f B (P++(b++(b2++r2))) P.length ((P.length+2 * B:Nat):Int)=some (.inl ((P++U)++r2,((P++U).length:Int),(((P++U).length+2 * B:Nat):Int))):=by
      unfold tn
      rw [if_pos (by omega),aP (x:=(P.length:Int)+B) (by omega) (by omega)]
      rw [show ((P.length+b.length:Nat):Int)=(P.length:Int)+B by omega,show ((P.length+b.length+b2.length:Nat):Int)=((P.length+2 * B:Nat):Int) by omega,← eD] at u1
      rw [mD u1 (by simp only [List.length_append];omega)]
      simp only [Option.bind_some]
      rw [aP (x:=(2:Int) * B) (by omega) (by omega),aP (by omega) (by omega),List.length_append]
      rw [show ((P.length+2 * B:Nat):Int)+2 * (B:Int)=((P.length+U.length+2 * B:Nat):Int) by omega,show ((P.length+2 * B:Nat):Int)=((P.length+U.length:Nat):Int) by omega]
     unfold wA at w1 ⊢
     refine (Jc step).trans ?_
     rw [w1]
     simp
    ·have h1:(U++w).Perm ((b++b2)++r2):=u2.append w2
     simpa using h1
theorem Up (n:Nat) (hn:n≤90000):∀ (k B:Nat) (l:List α),n≤B+k→1≤B→B≤200000→l.length=n→HF c B l→∃ Z,tq n f l B=some Z∧Z.Perm l∧qV c Z:=by
 intro k
 induction k with
 | zero=>
   intro B l hk hB Yn hl hb
   refine ⟨l,?_,List.Perm.refl _,hb.small (by omega)⟩
   unfold tq
   refine vj (o:=some _) ?_
   show tp n f l B=_
   unfold tp
   rw [if_neg (by omega)]
 | succ k ih=>
   intro B l hk hB Yn hl hb
   by_cases d:B < n
   ·obtain ⟨r,r1,r2,r3⟩:=Uo hc f hf B n hB Yn hn l.length [] l (Nat.le_refl _) (by simpa using hl) hb
    have hr:=r2.length_eq
    obtain ⟨Z,z1,z2,z3⟩:=ih (2 * B) r (by omega) (by omega) (by omega) (by omega) r3
    refine ⟨Z,?_,z2.trans r2,z3⟩
    rw [← z1]
    unfold tq
    refine Jc ?_
    show tp n f l B=_
    unfold tp
    rw [if_pos (by omega),aP (by omega) (by omega)]
    simp only [List.nil_append,List.length_nil,Nat.zero_add] at r1
    rw [show (2:Int) * B=((2 * B:Nat):Int) by omega]
    exact r1
   ·refine ⟨l,?_,List.Perm.refl _,hb.small (by omega)⟩
    unfold tq
    refine vj (o:=some _) ?_
    show tp n f l B=_
    unfold tp
    rw [if_neg (by omega)]
theorem Uq (n:Nat) (hn:n≤90000):∀ (k:Nat) (P rest:List α),rest.length≤k→P.length+rest.length=n→∃ lj,uY n f (P++rest) P.length ((P.length+20:Nat):Int)=tq n f (P++lj) 20∧lj.Perm rest∧HF c 20 lj:=by
 intro k
 have fin:∀ (P rest:List α),P.length+rest.length=n→rest.length < 20→∃ lj,uY n f (P++rest) P.length ((P.length+20:Nat):Int)=tq n f (P++lj) 20∧lj.Perm rest∧HF c 20 lj:=by
  intro P rest hl hs
  by_cases e:rest=[]
  ·subst e
   refine ⟨[],?_,List.Perm.refl _,.last [] (by simp) .nil⟩
   simp only [List.length_nil] at hl
   unfold uY
   refine vj ?_
   show tt n f (P++[]) P.length ((P.length+20:Nat):Int)=_
   unfold tt Da
   rw [if_neg (by omega)]
   have hI:IW (P++[]) P.length n f=some (P++[]):=by
    unfold IW wh
    rw [aP (by omega) (by omega)]
    refine vj (o:=some _) ?_
    show uU P.length n f (P++[]) ((P.length:Int)+1)=_
    unfold uU
    rw [if_neg (by omega)]
   rw [mD hI rfl]
   rfl
  ·obtain ⟨Z,z1,z2,z3⟩:=FU P [] f c rest (by omega) (by omega) (fun x _ y _=>hf x y) (hc.ord rest) e
   have hZ:=z2.length_eq
   refine ⟨Z,?_,z2,.last Z (by omega) z3⟩
   unfold HE at z1
   simp only [List.append_nil] at z1
   unfold uY
   refine vj ?_
   show tt n f (P++rest) P.length ((P.length+20:Nat):Int)=_
   unfold tt Da
   rw [if_neg (by omega)]
   rw [show (P.length:Int)+rest.length=(n:Int) by omega] at z1
   rw [mD z1 (by simp only [List.length_append];omega)]
   rfl
 induction k with
 | zero=>
   intro P rest hk hl
   exact fin P rest hl (by omega)
 | succ k ih=>
   intro P rest hk hl
   by_cases d:rest.length < 20
   ·exact fin P rest hl d
   ·have hx:(rest.take 20).length=20:=by rw [List.length_take];omega
    have hd:(rest.drop 20).length=rest.length - 20:=by rw [List.length_drop]
    obtain ⟨Z,z1,z2,z3⟩:=FU P (rest.drop 20) f c (rest.take 20) (by omega) (by omega) (fun x _ y _=>hf x y) (hc.ord _) (List.length_pos_iff.1 (by omega))
    have hZ:=z2.length_eq
    obtain ⟨w,w1,w2,w3⟩:=ih (P++Z) (rest.drop 20) (by omega) (by rw [List.length_append];omega)
    refine ⟨Z++w,?_,?_,.more Z w (by omega) z3 w3⟩
    ·unfold HE at z1
     rw [List.append_assoc,List.take_append_drop,hx] at z1
     have step:tt n f (P++rest) P.length ((P.length+20:Nat):Int)=some (.inl ((P++Z)++rest.drop 20,((P++Z).length:Int),(((P++Z).length+20:Nat):Int))):=by
      unfold tt
      rw [if_pos (by omega)]
      rw [show ((P.length+20:Nat):Int)=(P.length:Int)+((20:Nat):Int) by omega,mD z1 (by simp only [List.length_append];omega)]
      simp only [Option.bind_some]
      rw [aP (by omega) (by omega),List.length_append]
      rw [show (P.length:Int)+((20:Nat):Int)+20=((P.length+Z.length+20:Nat):Int) by omega,show (P.length:Int)+((20:Nat):Int)=((P.length+Z.length:Nat):Int) by omega]
     unfold uY at w1 ⊢
     refine (Jc step).trans ?_
     rw [w1]
     simp
    ·have h1:(Z++w).Perm (rest.take 20++rest.drop 20):=z2.append w2
     rwa [List.take_append_drop] at h1
theorem Pn (l:List α) (hl:l.length≤90000):∃ Z,Rx l f=some Z∧Z.Perm l∧qV c Z:=by
 obtain ⟨r,r1,r2,r3⟩:=Uq hc f hf l.length hl l.length [] l (Nat.le_refl _) (by simp)
 have hr:=r2.length_eq
 obtain ⟨Z,z1,z2,z3⟩:=Up hc f hf l.length hl l.length 20 r (by omega) (by omega) (by omega) hr r3
 refine ⟨Z,?_,z2.trans r2,z3⟩
 unfold Rx
 simp only [List.nil_append,List.length_nil,Nat.zero_add] at r1
 have h1:uY (l.length:Int) f l 0 20=some Z:=by
  refine Eq.trans r1 ?_
  exact z1
 rw [mD h1 (z2.trans r2).length_eq]
 rfl
end
def HG (W:List ah) (t:Int) (n:aO):Prop:=∃ w∈W,w.aT≤t∧t < w.To∧w.aG=n
structure NW (d:aO) (W:List ah):Prop where
 pw:W.Pairwise (fun a b=>a.To < b.aT∨(a.To=b.aT∧a.aG≠b.aG))
 ok:∀ w∈W,w.aT < w.To∧w.Device=d
theorem NW.nil (d:aO):NW d []:=⟨List.Pairwise.nil,by simp⟩
theorem NW.tail {d:aO} {a:ah} {W:List ah} (h:NW d (a :: W)):NW d W∧(a.aT < a.To∧a.Device=d)∧∀ w∈W,a.To < w.aT∨(a.To=w.aT∧a.aG≠w.aG):=
 ⟨⟨(List.pairwise_cons.1 h.pw).2,fun w hw=>h.ok w (List.mem_cons_of_mem _ hw)⟩,h.ok a (List.mem_cons_self ..),(List.pairwise_cons.1 h.pw).1⟩
theorem jr {a:ah} {W:List ah} {t:Int} {n:aO}:HG (a :: W) t n↔(a.aT≤t∧t < a.To∧a.aG=n)∨HG W t n:=by
 unfold HG
 simp
theorem FV {d:aO}:∀ {A B:List ah},NW d A→NW d B→(∀ t n,HG A t n↔HG B t n)→A=B
 | [],[],_,_,_=>rfl
 | [],b :: B,_,hb,h=>by
   have:=(h b.aT b.aG).2 (jr.2 (.inl ⟨Int.le_refl _,hb.tail.2.1.1,rfl⟩))
   obtain ⟨w,hw,_⟩:=this
   cases hw
 | a :: A,[],ha,_,h=>by
   have:=(h a.aT a.aG).1 (jr.2 (.inl ⟨Int.le_refl _,ha.tail.2.1.1,rfl⟩))
   obtain ⟨w,hw,_⟩:=this
   cases hw
 | a :: A,b :: B,ha,hb,h=>by
   obtain ⟨a1,a2,a3⟩:=ha.tail
   obtain ⟨b1,b2,b3⟩:=hb.tail
   have f1:b.aT≤a.aT:=by
    rcases jr.1 ((h a.aT a.aG).1 (jr.2 (.inl ⟨Int.le_refl _,a2.1,rfl⟩))) with e | ⟨w,hw,e⟩
    ·exact e.1
    ·have:=b3 w hw;omega
   have f2:a.aT≤b.aT:=by
    rcases jr.1 ((h b.aT b.aG).2 (jr.2 (.inl ⟨Int.le_refl _,b2.1,rfl⟩))) with e | ⟨w,hw,e⟩
    ·exact e.1
    ·have:=a3 w hw;omega
   have rr:b.aG=a.aG:=by
    rcases jr.1 ((h a.aT a.aG).1 (jr.2 (.inl ⟨Int.le_refl _,a2.1,rfl⟩))) with e | ⟨w,hw,e⟩
    ·exact e.2.2
    ·have:=b3 w hw;omega
   have t1:b.To≤a.To:=by
    by_cases lh:a.To < b.To
    ·rcases jr.1 ((h a.To a.aG).2 (jr.2 (.inl ⟨by omega,lh,rr⟩))) with e | ⟨w,hw,e⟩
     ·omega
     ·rcases a3 w hw with g | g
      ·omega
      ·exact absurd e.2.2.symm g.2
    ·omega
   have t2:a.To≤b.To:=by
    by_cases lh:b.To < a.To
    ·rcases jr.1 ((h b.To b.aG).1 (jr.2 (.inl ⟨by omega,lh,rr.symm⟩))) with e | ⟨w,hw,e⟩
     ·omega
     ·rcases b3 w hw with g | g
      ·omega
      ·exact absurd e.2.2.symm g.2
    ·omega
   have e:a=b:=by
    have d1:=a2.2
    have d2:=b2.2
    cases a;cases b
    simp only at f1 f2 t1 t2 rr d1 d2
    rw [Int.le_antisymm f2 f1,Int.le_antisymm t2 t1,rr,d1,d2]
   subst e
   rw [FV a1 b1 fun t n=>⟨fun ⟨w,hw,e⟩=>by
    rcases jr.1 ((h t n).1 (jr.2 (.inr ⟨w,hw,e⟩))) with e' | e'
    ·have:=a3 w hw;omega
    ·exact e',fun ⟨w,hw,e⟩=>by
    rcases jr.1 ((h t n).2 (jr.2 (.inr ⟨w,hw,e⟩))) with e' | e'
    ·have:=b3 w hw;omega
    ·exact e'⟩]
def Eo (d:aO) (W:List ah) (n:aO) (a b:Int):List ah:=match W.getLast? with
 | some z=>if z.aG=n∧z.To=a then W.dropLast++[⟨z.Device,z.aG,z.aT,b⟩] else W++[⟨d,n,a,b⟩]
 | none=>[⟨d,n,a,b⟩]
theorem uy {α:Type} (W:List α):W=[]∨∃ V z,W=V++[z]:=by
 by_cases h:W=[]
 ·exact .inl h
 ·exact .inr ⟨W.dropLast,W.getLast h,(List.dropLast_concat_getLast h).symm⟩
theorem Ep (d n:aO) (a b:Int):Eo d [] n a b=[⟨d,n,a,b⟩]:=rfl
theorem ym (d:aO) (V:List ah) (z:ah) (n:aO) (a b:Int):Eo d (V++[z]) n a b=if z.aG=n∧z.To=a then V++[⟨z.Device,z.aG,z.aT,b⟩] else V++[z]++[⟨d,n,a,b⟩]:=by
 unfold Eo
 rw [List.getLast?_append]
 simp
theorem Ha {A B:List ah} {t:Int} {n:aO}:HG (A++B) t n↔HG A t n∨HG B t n:=by
 unfold HG
 constructor
 ·rintro ⟨w,hw,e⟩
  rcases List.mem_append.1 hw with g | g
  ·exact .inl ⟨w,g,e⟩
  ·exact .inr ⟨w,g,e⟩
 ·rintro (⟨w,hw,e⟩ | ⟨w,hw,e⟩)
  ·exact ⟨w,List.mem_append_left _ hw,e⟩
  ·exact ⟨w,List.mem_append_right _ hw,e⟩
theorem Hb {z:ah} {t:Int} {n:aO}:HG [z] t n↔z.aT≤t∧t < z.To∧z.aG=n:=by
 unfold HG
 simp
theorem Ry {d:aO} {W:List ah} (h:NW d W) {n:aO} {a b:Int} (hW:∀ w∈W,w.To≤a) (uz:a < b):
 NW d (Eo d W n a b)∧(∀ w∈Eo d W n a b,w.To≤b)∧(∀ t m,HG (Eo d W n a b) t m↔HG W t m∨(a≤t∧t < b∧m=n))∧(Eo d W n a b).length≤W.length+1:=by
 have add:∀ W:List ah,NW d W→(∀ w∈W,w.To≤a)→(∀ w∈W,w.To=a→w.aG≠n)→NW d (W++[⟨d,n,a,b⟩])∧(∀ w∈W++[⟨d,n,a,b⟩],w.To≤b)∧(∀ t m,HG (W++[⟨d,n,a,b⟩]) t m↔HG W t m∨(a≤t∧t < b∧m=n)):=by
  intro W h hW hr
  refine ⟨⟨?_,?_⟩,?_,?_⟩
  ·rw [List.pairwise_append]
   refine ⟨h.pw,List.pairwise_singleton _ _,fun x hx y hy=>?_⟩
   rw [List.mem_singleton] at hy
   subst hy
   have h1:=hW x hx
   have h2:=hr x hx
   show x.To < a∨(x.To=a∧x.aG≠n)
   by_cases e:x.To=a
   ·exact .inr ⟨e,h2 e⟩
   ·exact .inl (by omega)
  ·intro w hw
   rcases List.mem_append.1 hw with g | g
   ·exact h.ok w g
   ·rw [List.mem_singleton] at g
    subst g
    exact ⟨uz,rfl⟩
  ·intro w hw
   rcases List.mem_append.1 hw with g | g
   ·have:=hW w g;omega
   ·rw [List.mem_singleton] at g
    subst g
    exact Int.le_refl _
  ·intro t m
   rw [Ha,Hb]
   constructor
   ·rintro (g | ⟨g1,g2,g3⟩)
    ·exact .inl g
    ·exact .inr ⟨g1,g2,g3.symm⟩
   ·rintro (g | ⟨g1,g2,g3⟩)
    ·exact .inl g
    ·exact .inr ⟨g1,g2,g3.symm⟩
 rcases uy W with rfl | ⟨V,z,rfl⟩
 ·rw [Ep]
  obtain ⟨a1,a2,a3⟩:=add [] h hW (by simp)
  exact ⟨a1,a2,a3,by simp⟩
 ·rw [ym]
  have hz:=h.ok z (by simp)
  have hzT:=hW z (by simp)
  have hp:=List.pairwise_append.1 h.pw
  by_cases c:z.aG=n∧z.To=a
  ·rw [if_pos c]
   refine ⟨⟨?_,?_⟩,?_,?_,by simp⟩
   ·rw [List.pairwise_append]
    refine ⟨hp.1,List.pairwise_singleton _ _,fun x hx y hy=>?_⟩
    rw [List.mem_singleton] at hy
    subst hy
    exact hp.2.2 x hx z (by simp)
   ·intro w hw
    rcases List.mem_append.1 hw with g | g
    ·exact h.ok w (List.mem_append_left _ g)
    ·rw [List.mem_singleton] at g
     subst g
     exact ⟨by show z.aT < b;omega,hz.2⟩
   ·intro w hw
    rcases List.mem_append.1 hw with g | g
    ·have:=hW w (List.mem_append_left _ g);omega
    ·rw [List.mem_singleton] at g
     subst g
     exact Int.le_refl _
   ·intro t m
    rw [Ha,Ha,Hb,Hb]
    show _∨(z.aT≤t∧t < b∧z.aG=m)↔_
    obtain ⟨c1,c2⟩:=c
    constructor
    ·rintro (g | ⟨g1,g2,g3⟩)
     ·exact .inl (.inl g)
     ·by_cases e:t < z.To
      ·exact .inl (.inr ⟨g1,e,g3⟩)
      ·exact .inr ⟨by omega,g2,by rw [← g3,c1]⟩
    ·rintro ((g | ⟨g1,g2,g3⟩) | ⟨g1,g2,g3⟩)
     ·exact .inl g
     ·exact .inr ⟨g1,by omega,g3⟩
     ·exact .inr ⟨by omega,g2,by rw [g3,c1]⟩
  ·rw [if_neg c]
   obtain ⟨a1,a2,a3⟩:=add (V++[z]) h hW (fun w hw e=>by
    rcases List.mem_append.1 hw with g | g
    ·have h1:=hp.2.2 w g z (by simp)
     intro _
     have h2:=(h.ok z (by simp)).1
     omega
    ·rw [List.mem_singleton] at g
     subst g
     exact fun q=>c ⟨q,e⟩)
   exact ⟨a1,a2,a3,by simp⟩
abbrev Ur (C:List Int):Prop:=C.Pairwise (fun a b=>a < b)
def mG (d:aO) (G:Int→Option aO):List ah→List Int→List ah
 | W,a :: b :: r=>mG d G (match G a with | some n=>Eo d W n a b | none=>W) (b :: r)
 | W,_=>W
theorem Hc {d:aO} {G:Int→Option aO}:∀ (r:List Int) (a:Int) (W:List ah),Ur (a :: r)→NW d W→(∀ w∈W,w.To≤a)→(∀ x t,x∈a :: r→x≤t→(∀ y∈a :: r,y≤x∨t < y)→G t=G x)→
 NW d (mG d G W (a :: r))∧(∀ t m,HG (mG d G W (a :: r)) t m↔HG W t m∨(a≤t∧t < (a :: r).getLast (by simp)∧G t=some m))∧(mG d G W (a :: r)).length≤W.length+r.length
 | [],a,W,_,hW,hT,_=>by
   refine ⟨hW,fun t m=>?_,by simp [mG]⟩
   unfold mG
   simp only [List.getLast_singleton]
   constructor
   ·exact .inl
   ·rintro (g | ⟨g1,g2,_⟩)
    ·exact g
    ·omega
 | b :: r,a,W,hC,hW,hT,hG=>by
   have Vt:=List.pairwise_cons.1 hC
   have uz:a < b:=Vt.1 b (by simp)
   have Xg:∀ t,a≤t→t < b→G t=G a:=fun t h1 h2=>hG a t (by simp) h1 (fun y hy=>by
    rcases List.mem_cons.1 hy with rfl | hy
    ·exact .inl (Int.le_refl _)
    ·rcases List.mem_cons.1 hy with rfl | hy
     ·exact .inr h2
     ·have:=(List.pairwise_cons.1 Vt.2).1 y hy
      exact .inr (by omega))
   have hG':∀ x t,x∈b :: r→x≤t→(∀ y∈b :: r,y≤x∨t < y)→G t=G x:=fun x t hx h1 h2=>hG x t (List.mem_cons_of_mem _ hx) h1 (fun y hy=>by
    rcases List.mem_cons.1 hy with rfl | hy
    ·have:=Vt.1 x hx
     exact .inl (by omega)
    ·exact h2 y hy)
   have Aj:(a :: b :: r).getLast (by simp)=(b :: r).getLast (by simp):=List.getLast_cons (by simp)
   have hbl:b≤(b :: r).getLast (by simp):=by
    rcases List.mem_cons.1 (List.getLast_mem (l:=b :: r) (by simp)) with e | e
    ·rw [e];exact Int.le_refl _
    ·have:=(List.pairwise_cons.1 Vt.2).1 _ e;omega
   unfold mG
   cases hg:G a with
   | none=>
     obtain ⟨i1,i2,i3⟩:=Hc r b W Vt.2 hW (fun w hw=>by have:=hT w hw;omega) hG'
     refine ⟨i1,fun t m=>?_,by simp only;rw [List.length_cons];omega⟩
     rw [i2 t m,Aj]
     constructor
     ·rintro (g | ⟨g1,g2,g3⟩)
      ·exact .inl g
      ·exact .inr ⟨by omega,g2,g3⟩
     ·rintro (g | ⟨g1,g2,g3⟩)
      ·exact .inl g
      ·by_cases e:t < b
       ·rw [Xg t g1 e,hg] at g3;cases g3
       ·exact .inr ⟨by omega,g2,g3⟩
   | some n=>
     obtain ⟨e1,e2,e3,e4⟩:=Ry hW hT uz (n:=n)
     obtain ⟨i1,i2,i3⟩:=Hc r b (Eo d W n a b) Vt.2 e1 e2 hG'
     refine ⟨i1,fun t m=>?_,by simp only;rw [List.length_cons];omega⟩
     rw [i2 t m,Aj,e3 t m]
     constructor
     ·rintro ((g | ⟨g1,g2,g3⟩) | ⟨g1,g2,g3⟩)
      ·exact .inl g
      ·refine .inr ⟨g1,by omega,?_⟩
       rw [Xg t g1 g2,hg,g3]
      ·exact .inr ⟨by omega,g2,g3⟩
     ·rintro (g | ⟨g1,g2,g3⟩)
      ·exact .inl (.inl g)
      ·by_cases e:t < b
       ·rw [Xg t g1 e,hg,Option.some.injEq] at g3
        exact .inl (.inr ⟨g1,e,g3.symm⟩)
       ·exact .inr ⟨by omega,g2,g3⟩
theorem Jd {σ:Int→Int} {E on H off R:Int} (wF:on≠off) (hH:0≤H) (hR:0≤R) {f:Bool} {c:Int} {ws:List (Int×Int)} (h:FF σ E on H off R f c ws):
 (f=true→σ c=on→c < E→ws.Pairwise (fun a b=>a.2 < b.1)∧∀ w∈ws,w.1 < w.2∧c≤w.1∧w.2≤E∧σ w.1=on)∧(f=false→ws.Pairwise (fun a b=>a.2 < b.1)∧∀ w∈ws,w.1 < w.2∧c≤w.1∧w.2≤E∧σ w.1=on):=by
 induction h with
 | never _=>exact ⟨fun h=>(by cases h),fun _=>⟨List.Pairwise.nil,by simp⟩⟩
 | @up c t ws hl _ ih=>
   refine ⟨fun h=>(by cases h),fun _=>?_⟩
   obtain ⟨l1,l2,l3⟩:=hl.1
   obtain ⟨p1,p2⟩:=ih.1 rfl (l3 t (by omega) (Int.le_refl _)) l2
   exact ⟨p1,fun w hw=>by have:=p2 w hw;exact ⟨this.1,by omega,this.2.2⟩⟩
 | @stay c _=>
   refine ⟨fun _ h1 h2=>⟨List.pairwise_singleton _ _,fun w hw=>?_⟩,fun h=>(by cases h)⟩
   rw [List.mem_singleton] at hw
   subst hw
   exact ⟨h2,Int.le_refl _,Int.le_refl _,h1⟩
 | @down c t ws hl _ ih=>
   refine ⟨fun _ h1 h2=>?_,fun h=>(by cases h)⟩
   obtain ⟨l1,l2,l3⟩:=hl.1
   obtain ⟨p1,p2⟩:=ih.2 rfl
   have ht:σ t=off:=l3 t (by omega) (Int.le_refl _)
   have hct:c < t:=by
    by_cases e:c=t
    ·rw [e,ht] at h1;exact absurd h1.symm wF
    ·omega
   refine ⟨List.pairwise_cons.2 ⟨fun w hw=>?_,p1⟩,fun w hw=>?_⟩
   ·have Z4:=p2 w hw
    show t < w.1
    by_cases e:w.1=t
    ·rw [e,ht] at Z4;exact absurd Z4.2.2.2.symm wF
    ·omega
   ·rcases List.mem_cons.1 hw with rfl | hw
    ·exact ⟨hct,Int.le_refl _,by show t≤E;omega,h1⟩
    ·have:=p2 w hw
     exact ⟨this.1,by omega,this.2.2⟩
def pA (k:Int) (d:aO) (L:List ah):List aq:=(L.filter (fun s=>decide (s.Device=d))).flatMap (fun s=>[⟨s.aT,k,1⟩,⟨s.To,k,-1⟩])
def gw (d:aO):Int→List (List ah)→List aq
 | _,[]=>[]
 | k,L :: r=>pA k d L++gw d (k+1) r
theorem FW (d:aO) (L:List ah):∀ (ls:List (List ah)) (k:Int),gw d k (ls++[L])=gw d k ls++pA (k+ls.length) d L
 | [],k=>by simp [gw]
 | x :: r,k=>by
   rw [List.cons_append]
   unfold gw
   rw [FW d L r (k+1),List.append_assoc,List.length_cons,show k+1+(r.length:Int)=k+((r.length+1:Nat):Int) by omega]
theorem MM (k:Int) (d:aO) (L:List ah) (s:ah):pA k d (L++[s])=if s.Device=d then pA k d L++[⟨s.aT,k,1⟩,⟨s.To,k,-1⟩] else pA k d L:=by
 unfold pA
 rw [List.filter_append,List.flatMap_append]
 by_cases h:s.Device=d
 ·rw [if_pos h,List.filter_cons,if_pos (decide_eq_true h)];simp
 ·rw [if_neg h,List.filter_cons,if_neg (by simpa using h)];simp
structure EM (M:List (aO×List aq)) (E:aO→List aq):Prop where
 sm:SM M
 get:∀ d,ca M d=if E d=[] then none else some (E d)
theorem EM.old {M:List (aO×List aq)} {E:aO→List aq} (h:EM M E) (d:aO):vu M d []=some (E d):=by
 unfold vu
 rw [h.get d]
 by_cases e:E d=[]
 ·rw [if_pos e,e];rfl
 ·rw [if_neg e];rfl
theorem EM.step {M:List (aO×List aq)} {E:aO→List aq} (h:EM M E) (x:aO) (a b:aq):EM (rP M x (E x++[a,b])) (fun d=>if x=d then E x++[a,b] else E d):=by
 refine ⟨h.sm.set _ _,fun d=>?_⟩
 rw [vF]
 by_cases e:x=d
 ·rw [if_pos e,if_pos e,if_neg (by simp)]
 ·rw [if_neg e,if_neg e];exact h.get d
theorem Po (k:Int) (hk:0≤k∧k≤1000) (L:List ah) (hL:L.length≤100000) (E0:aO→List aq) (hE0:∀ d,(E0 d).length≤10000000):∀ (m i:Nat) (M:List (aO×List aq)),i+m=L.length→EM M (fun d=>E0 d++pA k d (L.take i))→
 ∃ M',oM k L M i=some (.inl (M',k+1))∧EM M' (fun d=>E0 d++pA k d L):=by
 intro m
 induction m with
 | zero=>
   intro i M hi hM
   rw [List.take_of_length_le (by omega)] at hM
   refine ⟨M,?_,hM⟩
   unfold oM
   refine vj (o:=some _) ?_
   show gW k L M i=_
   unfold gW
   rw [if_neg (by omega),aP (by omega) (by omega)]
 | succ m ih=>
   intro i M hi hM
   obtain ⟨s,s1,s2⟩:=Kp (l:=L) (i:=i) (by omega)
   have htk:L.take (i+1)=L.take i++[s]:=by rw [List.take_add_one,s2];rfl
   have Tp:∀ d,(pA k d (L.take i)).length≤2 * 100000:=fun d=>by
    unfold pA
    have h1:∀ X:List ah,(X.flatMap (fun s=>[(⟨s.aT,k,1⟩:aq),⟨s.To,k,-1⟩])).length=2 * X.length:=fun X=>by
     induction X with
     | nil=>rfl
     | cons y Y ihY=>rw [List.flatMap_cons,List.length_append,ihY,List.length_cons];simp only [List.length_cons,List.length_nil];omega
    rw [h1]
    have h2:=List.length_filter_le (fun s:ah=>decide (s.Device=d)) (L.take i)
    have h3:(L.take i).length≤i:=by rw [List.length_take];omega
    omega
   have Dt:=hM.step s.Device ⟨s.aT,k,1⟩ ⟨s.To,k,-1⟩
   obtain ⟨M',h1,h2⟩:=ih (i+1) _ (by omega) (show EM (rP M s.Device (E0 s.Device++pA k s.Device (L.take i)++[⟨s.aT,k,1⟩,⟨s.To,k,-1⟩])) (fun d=>E0 d++pA k d (L.take (i+1))) by
    have e:(fun d=>E0 d++pA k d (L.take (i+1)))=fun d=>if s.Device=d then E0 s.Device++pA k s.Device (L.take i)++[⟨s.aT,k,1⟩,⟨s.To,k,-1⟩] else E0 d++pA k d (L.take i):=by
     funext d
     rw [htk,MM]
     by_cases e:s.Device=d
     ·rw [if_pos e,if_pos e,e,List.append_assoc]
     ·rw [if_neg e,if_neg e]
    rw [e]
    exact Dt)
   refine ⟨M',?_,h2⟩
   rw [← h1]
   unfold oM
   refine Jc ?_
   show gW k L M i=_
   unfold gW
   rw [if_pos (by omega),s1]
   simp only [Option.bind_some]
   rw [hM.old]
   simp only [Option.bind_some]
   have:=hE0 s.Device
   have:=Tp s.Device
   rw [fR (by simp only [List.length_append,List.length_cons,List.length_nil];omega)]
   simp only [Option.bind_some]
   rw [aP (by omega) (by omega)]
   rfl
theorem Je (d:aO):∀ (ls:List (List ah)) (k:Int),(∀ L∈ls,L.length≤100000)→(gw d k ls).length≤200000 * ls.length
 | [],_,_=>by simp [gw]
 | L :: r,k,h=>by
   have ih:=Je d r (k+1) (fun X hX=>h X (by simp [hX]))
   have hL:=h L (by simp)
   unfold gw pA
   have h1:∀ X:List ah,(X.flatMap (fun s=>[(⟨s.aT,k,1⟩:aq),⟨s.To,k,-1⟩])).length=2 * X.length:=fun X=>by
    induction X with
    | nil=>rfl
    | cons y Y ihY=>rw [List.flatMap_cons,List.length_append,ihY,List.length_cons];simp only [List.length_cons,List.length_nil];omega
   rw [List.length_append,h1,List.length_cons]
   have h2:=List.length_filter_le (fun s:ah=>decide (s.Device=d)) L
   omega
def Rz (a b:aq):Int:=oc a.at_ b.at_
theorem Xh:nL Rz:=D8.on aq.at_
noncomputable def sU (l:List aq):List aq:=(DF (fun y0 y1=>some (gV y0 y1)) l).getD []
theorem Er (l:List aq) (hl:l.length≤100000):DF (fun y0 y1=>some (gV y0 y1)) l=some (sU l)∧(sU l).Perm l∧qV Rz (sU l):=by
 obtain ⟨Z,z1,z2,z3⟩:=D7 (fun y0 y1=>some (gV y0 y1)) Rz l hl (fun a _ b _=>by unfold gV Rz;rw [lG]) (Xh.ord l)
 have:sU l=Z:=by unfold sU;rw [z1];rfl
 rw [this]
 exact ⟨z1,z2,z3⟩
noncomputable def sx (M:List (aO×List aq)):List (aO×List aq):=M.map fun e=>(e.1,sU e.2)
theorem FX (f:List aq→List aq) (k:aO):∀ m:List (aO×List aq),ca (m.map fun p=>(p.1,f p.2)) k=(ca m k).map f
 | []=>rfl
 | e :: r=>by
   rw [List.map_cons,eK,eK]
   by_cases q:e.1=k
   ·rw [if_pos q,if_pos q];rfl
   ·rw [if_neg q,if_neg q];exact FX f k r
theorem Pp (M:List (aO×List aq)) (hM:SM M) (hl:∀ e∈M,e.2.length≤100000):sF M M=some (sx M):=by
 have hS:SM (sx M):=by
  unfold SM sx
  rw [List.pairwise_map]
  exact hM
 unfold sF
 refine Bl (fun e (x:List (aO×List aq))=>ku e x) (fun x:List (aO×List aq)=>kA M x) M M _ (fun done s=>SM s∧∀ k,ca s k=if k∈done.map Prod.fst then (ca M k).map sU else ca M k) ⟨hM,fun k=>by simp⟩ ?_ ?_
 ·intro done e rest s hp hi
  left
  have he:e∈M:=hp.mem_iff.1 (by simp)
  have JJ:=(hM.Ag).2 he
  have xf:((done++e :: rest).map Prod.fst).Nodup:=(hp.map Prod.fst).nodup_iff.2 hM.nodup
  have aa7:e.1∉done.map Prod.fst:=by
   rw [List.map_append,List.nodup_append] at xf
   intro hc
   exact xf.2.2 e.1 hc e.1 (by simp) rfl
  have hse:ca s e.1=some e.2:=by rw [hi.2 e.1,if_neg aa7,JJ]
  obtain ⟨q1,q2,_⟩:=Er e.2 (hl e he)
  refine ⟨rP s e.1 (sU e.2),?_,hi.1.set _ _,fun k=>?_⟩
  ·unfold ku
   have ht:BU s e.1 e.2.length=some e.2:=by
    unfold BU
    rw [if_pos hi.1.nodup,hse]
    simp
   rw [ht]
   simp only [Option.bind_some]
   rw [mD (show fP e.2 (fun y0 y1=>some (gV y0 y1))=some (sU e.2) from q1) q2.length_eq]
   rfl
  ·rw [vF,List.map_append]
   by_cases c:e.1=k
   ·rw [if_pos c,if_pos (by rw [← c];simp),← c,JJ];rfl
   ·rw [if_neg c,hi.2 k]
    by_cases c2:k∈done.map Prod.fst
    ·rw [if_pos c2,if_pos (List.mem_append_left _ c2)]
    ·rw [if_neg c2,if_neg (by
      rw [List.mem_append]
      rintro (g | g)
      ·exact c2 g
      ·simp at g;exact c g.symm)]
 ·intro p s hp hi
  have hs:s=sx M:=by
   refine Lf hi.1 hS (fun k=>?_)
   rw [hi.2 k,show ca (sx M) k=(ca M k).map sU from FX sU k M]
   by_cases c:k∈p.map Prod.fst
   ·rw [if_pos c]
   ·rw [if_neg c]
    cases hg:ca M k with
    | none=>rfl
    | some v=>
      have:=(hM.Ag).1 hg
      exact absurd (List.mem_map.2 ⟨(k,v),hp.mem_iff.2 this,rfl⟩) c
  subst hs
  unfold kA K1
  have e:(M.map fun e=>(e.1,e.2.length))=(sx M).map fun e=>(e.1,e.2.length):=by
   unfold sx
   rw [List.map_map]
   refine List.map_congr_left (fun e he=>?_)
   show (e.1,e.2.length)=(e.1,(sU e.2).length)
   rw [(Er e.2 (hl e he)).2.1.length_eq]
  rw [if_pos (by rw [e])]
  rfl
theorem Pq (ls:List (List ah)) (hn:ls.length≤10) (hl:∀ L∈ls,L.length≤9000) (hE:∀ d,(gw d 0 ls).length≤100000):∃ M,lR ls=some (sx M)∧EM M (fun d=>gw d 0 ls):=by
 have key:∀ (m i:Nat) (M:List (aO×List aq)),i+m=ls.length→EM M (fun d=>gw d 0 (ls.take i))→∃ M',oN ls M i=some (sx M')∧EM M' (fun d=>gw d 0 ls):=by
  intro m
  induction m with
  | zero=>
    intro i M hi hM
    rw [List.take_of_length_le (by omega)] at hM
    refine ⟨M,?_,hM⟩
    unfold oN
    refine vj (o:=some _) ?_
    show gX ls M i=_
    unfold gX
    rw [if_neg (by omega),Pp M hM.sm (fun e he=>by
     have:=(hM.sm.Ag).2 he
     rw [hM.get] at this
     split at this
     ·cases this
     ·have h1:=hE e.1
      rw [Option.some.injEq] at this
      rw [← this]
      exact h1)]
  | succ m ih=>
    intro i M hi hM
    obtain ⟨L,l1,l2⟩:=Kp (l:=ls) (i:=i) (by omega)
    have hLm:L∈ls:=List.mem_of_getElem? l2
    have htk:ls.take (i+1)=ls.take i++[L]:=by rw [List.take_add_one,l2];rfl
    have hlen:(ls.take i).length=i:=by rw [List.length_take];omega
    obtain ⟨M1,m1,m2⟩:=Po i (by omega) L (by have:=hl L hLm;omega) (fun d=>gw d 0 (ls.take i)) (fun d=>by
     have:=Je d (ls.take i) 0 (fun X hX=>by have:=hl X (List.mem_of_mem_take hX);omega)
     omega) L.length 0 M (by omega) (by simpa [pA] using hM)
    have e:(fun d=>gw d 0 (ls.take (i+1)))=fun d=>gw d 0 (ls.take i)++pA i d L:=by
     funext d
     rw [htk,FW,hlen,Int.zero_add]
    obtain ⟨M',h1,h2⟩:=ih (i+1) M1 (by omega) (by rw [e];exact m2)
    refine ⟨M',?_,h2⟩
    rw [← h1]
    unfold oN
    refine Jc ?_
    show gX ls M i=_
    unfold gX
    rw [if_pos (by omega),l1]
    simp only [Option.bind_some]
    exact m1
 unfold lR
 exact key ls.length 0 [] (by omega) ⟨SM.nil,fun d=>by simp [gw];rfl⟩
noncomputable def zy (od:List ah) (qN:List Int) (n25:Int) (n26:Int):Option (((List ah)×(List Int)×Int×Int)⊕((List ah)⊕(List ah))):=
 some (.inl (od,qN,n25,n26))
noncomputable def zA (fy:aO×(List aq)) (dL:List ah) (n20:Int) (cx:aq) (fx:List Int) (n31:Int) (tQ:aO×Bool) (c40:Bool):Option (((List ah)×(List Int)×Int×Int)⊕((List ah)⊕(List ah))):=
 if c40=true then
  (idx fy.2 n31).bind fun CZ=>
  (idx dL n20).bind fun v44=>
  zy (dL.set n20.toNat (⟨v44.Device,v44.aG,v44.aT,CZ.at_⟩:ah)) fx n20 n31
 else
  (idx fy.2 n31).bind fun v45=>
  (app dL [(⟨fy.1,tQ.1,cx.at_,v45.at_⟩:ah)]).bind fun IH=>
  zy IH fx (dL.length:Int) n31
noncomputable def Hd (fy:aO×(List aq)) (dL:List ah) (n20:Int) (cx:aq) (fx:List Int) (n31:Int) (tQ:aO×Bool) (Ml:Bool):Option (((List ah)×(List Int)×Int×Int)⊕((List ah)⊕(List ah))):=
 if Ml=true then
  zy dL fx n20 n31
 else
  if (0:Int)≤n20 then
   (idx dL n20).bind fun v41=>
   if v41.To=cx.at_ then
    (idx dL n20).bind fun A8=>
    zA fy dL n20 cx fx n31 tQ (decide (A8.aG=tQ.1))
   else
    zA fy dL n20 cx fx n31 tQ false
  else
   zA fy dL n20 cx fx n31 tQ false
noncomputable def He (mK:List Int→Option (aO×Bool)) (fy:aO×(List aq)) (dL:List ah) (n20:Int) (cx:aq) (fx:List Int) (n31:Int):Option (((List ah)×(List Int)×Int×Int)⊕((List ah)⊕(List ah))):=
 (mK fx).bind fun tQ=>
 Hd fy dL n20 cx fx n31 tQ ((!tQ.2)||(decide (n31=(fy.2.length:Int))))
noncomputable def Hf (mK:List Int→Option (aO×Bool)) (fy:aO×(List aq)) (dL:List ah) (n20:Int) (cx:aq) (fx:List Int) (n31:Int) (GH:Bool):Option (((List Int)×Int)⊕(((List ah)×(List Int)×Int×Int)⊕((List ah)⊕(List ah)))):=
 if GH=true then
  (idx fy.2 n31).bind fun vm=>
  (idx fx vm.au).bind fun v35=>
  (idx fy.2 n31).bind fun AP=>
  (idx fx vm.au).bind fun v37=>
  some (.inl (fx.set vm.au.toNat (aU (v35+AP.CW)),aU (n31+(1:Int))))
 else
  Option.map .inr (He mK fy dL n20 cx fx n31)
noncomputable def Es (mK:List Int→Option (aO×Bool)) (fy:aO×(List aq)) (dL:List ah) (n20:Int) (cx:aq) (fx:List Int) (n31:Int):Option (((List Int)×Int)⊕(((List ah)×(List Int)×Int×Int)⊕((List ah)⊕(List ah)))):=
 if n31 < (fy.2.length:Int) then
  (idx fy.2 n31).bind fun v33=>
  Hf mK fy dL n20 cx fx n31 (decide (v33.at_=cx.at_))
 else
  Hf mK fy dL n20 cx fx n31 false
noncomputable def Hg (mK:List Int→Option (aO×Bool)) (fy:aO×(List aq)) (dL:List ah) (n20:Int) (cx:aq) (fx:List Int) (n31:Int):Option (((List ah)×(List Int)×Int×Int)⊕((List ah)⊕(List ah))):=
 iter (fun x:(List Int)×Int=>Es mK fy dL n20 cx x.1 x.2) (fx,n31)
noncomputable def Et (mK:List Int→Option (aO×Bool)) (fy:aO×(List aq)) (dL:List ah) (lU:List Int) (n20:Int) (n21:Int):Option (((List ah)×(List Int)×Int×Int)⊕((List ah)⊕(List ah))):=
 if n21 < (fy.2.length:Int) then
  (idx fy.2 n21).bind fun cx=>
  Hg mK fy dL n20 cx lU n21
 else
  Option.map .inr (some (.inl dL))
noncomputable def Hh (mK:List Int→Option (aO×Bool)) (fy:aO×(List aq)) (dL:List ah) (lU:List Int) (n20:Int) (n21:Int):Option ((List ah)⊕(List ah)):=
 iter (fun x:(List ah)×(List Int)×Int×Int=>Et mK fy x.1 x.2.1 x.2.2.1 x.2.2.2) (dL,lU,n20,n21)
noncomputable def Hi (aa:List (List ah)) (mK:List Int→Option (aO×Bool)) (fy:aO×(List aq)) (l7:List ah):Option ((List ah)⊕(List ah)):=
 (Tl (0:Int) (aa.length:Int) (aa.length:Int)).bind fun l10=>
 Hh mK fy l7 l10 (-1:Int) (0:Int)
noncomputable def Hj (l7:List ah):Option (List ah):=
 (dm l7.length (fun r:(List ah)=>r.length) (bA l7 (fun y0 y1=>dI y0 y1))).bind fun v9=>
 some v9
noncomputable def Pr (aa:List (List ah)) (mK:List Int→Option (aO×Bool)) (v1:(List (aO×(List aq)))) (l7:List ah):Option (List ah):=
 xp v1 (fun p=>qE (fun e (x:(List ah))=>Hi aa mK e x) (fun x:(List ah)=>Hj x) p l7)
noncomputable def gSw (aa:List (List ah)) (mK:List Int→Option (aO×Bool)):Option (List ah):=
 (lR aa).bind fun v1=>
 Pr aa mK v1 []
def Db (k:Int) (L:List aq):Int:=((L.filter (fun e=>decide (e.au=k))).map aq.CW).sum
theorem Pt (k:Int) (L:List aq) (e:aq):Db k (L++[e])=if e.au=k then Db k L+e.CW else Db k L:=by
 unfold Db
 rw [List.filter_append,List.map_append,List.sum_append]
 by_cases h:e.au=k
 ·rw [if_pos h,List.filter_cons,if_pos (decide_eq_true h)];simp
 ·rw [if_neg h,List.filter_cons,if_neg (by simpa using h)];simp
theorem mr (k:Int) (L:List aq) (e:aq):Db k (e :: L)=(if e.au=k then e.CW else 0)+Db k L:=by
 unfold Db
 by_cases h:e.au=k
 ·rw [if_pos h,List.filter_cons,if_pos (decide_eq_true h),List.map_cons,List.sum_cons]
 ·rw [if_neg h,List.filter_cons,if_neg (by simpa using h),Int.zero_add]
theorem SG (k:Int):∀ (L:List aq) (h:∀ e∈L,-1≤e.CW∧e.CW≤1),-(L.length:Int)≤Db k L∧Db k L≤L.length
 | [],_=>by simp [Db]
 | e :: L,h=>by
   have h1:=SG k L (fun x hx=>h x (by simp [hx]))
   have h2:=h e (by simp)
   rw [mr,List.length_cons]
   split<;>omega
def kd (K:Nat) (L:List aq):List Int:=(List.range K).map fun k:Nat=>Db ((k:Nat):Int) L
theorem Jf (K:Nat) (L:List aq):(kd K L).length=K:=by unfold kd;simp
theorem Pv {K:Nat} (L:List aq) {k:Int} (h:0≤k∧k < K):idx (kd K L) k=some (Db k L):=by
 unfold idx kd
 rw [if_pos h.1,List.getElem?_map,List.getElem?_range (by omega)]
 simp only [Option.map_some]
 rw [show ((k.toNat:Nat):Int)=k by omega]
theorem Pw {K:Nat} (L:List aq) (e:aq) (h:0≤e.au∧e.au < K):(kd K L).set e.au.toNat (Db e.au L+e.CW)=kd K (L++[e]):=by
 apply List.ext_getElem?
 intro j
 rw [List.getElem?_set,Jf]
 unfold kd
 rw [List.getElem?_map,List.getElem?_map]
 by_cases hj:j < K
 ·rw [List.getElem?_range hj]
  simp only [Option.map_some]
  rw [Pt]
  by_cases c:e.au.toNat=j
  ·rw [if_pos c,if_pos (by omega),if_pos (by omega),show ((j:Nat):Int)=e.au by omega]
  ·rw [if_neg c,if_neg (by omega)]
 ·rw [List.getElem?_eq_none (by simp;omega)]
  rw [if_neg (by omega)]
  rfl
inductive RA:List aq→List Int→Prop
 | nil:RA [] []
 | more (a:Int) (e:aq) (g rest:List aq) (C:List Int):e.at_=a→(∀ x∈g,x.at_=a)→(∀ x∈rest,a < x.at_)→RA rest C→RA ((e :: g)++rest) (a :: C)
theorem Us:∀ (k:Nat) (Z:List aq),Z.length≤k→qV Rz Z→∃ C,RA Z C:=by
 intro k
 induction k with
 | zero=>intro Z hk _;obtain rfl:=List.eq_nil_of_length_eq_zero (show Z.length=0 by omega);exact ⟨[],.nil⟩
 | succ k ih=>
   intro Z hk hs
   cases Z with
   | nil=>exact ⟨[],.nil⟩
   | cons e r=>
     have xa:=List.pairwise_cons.1 hs
     obtain ⟨g,hg⟩:∃ g,g=r.takeWhile (fun x=>decide (x.at_=e.at_)):=⟨_,rfl⟩
     obtain ⟨q,hq⟩:∃ q,q=r.dropWhile (fun x=>decide (x.at_=e.at_)):=⟨_,rfl⟩
     have hr:r=g++q:=by rw [hg,hq,List.takeWhile_append_dropWhile]
     have hg1:∀ x∈g,x.at_=e.at_:=fun x hx=>by
      rw [hg] at hx
      have:=List.all_takeWhile (l:=r) (p:=fun x=>decide (x.at_=e.at_))
      exact of_decide_eq_true (List.all_eq_true.1 this x hx)
     have hsq:qV Rz q:=by
      rw [hr] at xa
      exact (List.pairwise_append.1 xa.2).2.1
     have Tq:∀ x∈q,e.at_ < x.at_:=by
      cases hqq:q with
      | nil=>simp
      | cons y z=>
        have hy:¬ y.at_=e.at_:=by
         have:=List.head?_dropWhile_not (fun x:aq=>decide (x.at_=e.at_)) r
         rw [← hq,hqq] at this
         simpa using this
        have hey:¬ Rz y e < 0:=xa.1 y (by rw [hr,hqq];simp)
        have Y6:e.at_ < y.at_:=by
         unfold Rz oc at hey
         split at hey<;>omega
        intro x hx
        rcases List.mem_cons.1 hx with rfl | hx
        ·exact Y6
        ·rw [hqq] at hsq
         have:=(List.pairwise_cons.1 hsq).1 x hx
         unfold Rz oc at this
         split at this<;>omega
     obtain ⟨C,hC⟩:=ih q (by rw [hr,List.length_cons,List.length_append] at hk;omega) hsq
     refine ⟨e.at_ :: C,?_⟩
     rw [hr]
     exact .more e.at_ e g q C rfl hg1 Tq hC
theorem RA.mem {Z:List aq} {C:List Int} (h:RA Z C):Ur C∧∀ x,x∈C↔∃ e∈Z,e.at_=x:=by
 induction h with
 | nil=>exact ⟨List.Pairwise.nil,by simp⟩
 | more a e g rest C h1 h2 h3 _ ih=>
   refine ⟨List.pairwise_cons.2 ⟨fun y hy=>?_,ih.1⟩,fun x=>?_⟩
   ·obtain ⟨z,z1,z2⟩:=(ih.2 y).1 hy
    have:=h3 z z1
    omega
   ·rw [List.mem_cons,ih.2 x]
    constructor
    ·rintro (rfl | ⟨z,z1,z2⟩)
     ·exact ⟨e,by simp,h1⟩
     ·exact ⟨z,List.mem_append_right _ z1,z2⟩
    ·rintro ⟨z,z1,z2⟩
     rcases List.mem_append.1 z1 with g1 | g1
     ·rcases List.mem_cons.1 g1 with rfl | g1
      ·exact .inl (by omega)
      ·have:=h2 z g1
       exact .inl (by omega)
     ·exact .inr ⟨z,g1,z2⟩
theorem RA.len {Z:List aq} {C:List Int} (h:RA Z C):C.length≤Z.length:=by
 induction h with
 | nil=>simp
 | more a e g rest C _ _ _ _ ih=>rw [List.length_cons,List.length_append,List.length_cons];omega
def zB (p:aO×Bool):Option aO:=if p.2=true then some p.1 else none
def Ut (nv:List Int→aO×Bool) (K:Nat) (Z:List aq) (a:Int):Option aO:=zB (nv (kd K (Z.filter (fun e=>decide (e.at_≤a)))))
structure Yo (mK:List Int→Option (aO×Bool)) (nv:List Int→aO×Bool) (K:Nat) (Z:List aq):Prop where
 nm:∀ v:List Int,v.length=K→mK v=some (nv v)
 len:Z.length≤100000
 ru:∀ e∈Z,0≤e.au∧e.au < K
 CW:∀ e∈Z,-1≤e.CW∧e.CW≤1
theorem SH {mK:List Int→Option (aO×Bool)} {nv:List Int→aO×Bool} {K:Nat} {d:aO} {Z:List aq} (h:Yo mK nv K Z) (W:List ah) (n20:Int) (cx:aq) (rest:List aq) (hr:∀ e,rest.head? =some e→e.at_≠cx.at_):∀ (g pre:List aq),Z=pre++(g++rest)→(∀ e∈g,e.at_=cx.at_)→
 Hg mK (d,Z) W n20 cx (kd K pre) pre.length=He mK (d,Z) W n20 cx (kd K (pre++g)) ((pre.length+g.length:Nat):Int)
 | [],pre,hZ,_=>by
   have hl:=h.len
   unfold Hg
   rw [List.append_nil,List.length_nil,Nat.add_zero]
   refine vj ?_
   show Es mK (d,Z) W n20 cx (kd K pre) pre.length=_
   unfold Es Hf
   cases rest with
   | nil=>
     have:Z.length=pre.length:=by rw [hZ];simp
     rw [if_neg (by simp only;omega),if_neg Bool.false_ne_true]
   | cons e r=>
     have hi:idx Z (pre.length:Int)=some e:=by rw [hZ];exact lg pre e r rfl
     have:pre.length < Z.length:=by rw [hZ];simp
     rw [if_pos (by simp only;omega)]
     simp only
     rw [hi]
     simp only [Option.bind_some]
     rw [if_neg (by simpa using hr e rfl)]
 | e :: g,pre,hZ,hg=>by
   have hl:=h.len
   have ih:=SH (nv:=nv) (d:=d) h W n20 cx rest hr g (pre++[e]) (by rw [hZ];simp) (fun x hx=>hg x (by simp [hx]))
   have hi:idx Z (pre.length:Int)=some e:=by rw [hZ];exact lg pre e (g++rest) rfl
   have lh:pre.length < Z.length:=by rw [hZ];simp
   have hem:e∈Z:=by rw [hZ];simp
   have hru:=h.ru e hem
   have R8:=h.CW e hem
   have hbs:=SG e.au pre (fun x hx=>h.CW x (by rw [hZ];exact List.mem_append_left _ hx))
   have Dt:Es mK (d,Z) W n20 cx (kd K pre) pre.length=some (.inl (kd K (pre++[e]),((pre++[e]).length:Int))):=by
    unfold Es Hf
    rw [if_pos (by simp only;omega)]
    simp only
    rw [hi]
    simp only [Option.bind_some]
    rw [if_pos (decide_eq_true (hg e (by simp))),Pv pre hru]
    simp only [Option.bind_some]
    rw [aP (x:=Db e.au pre+e.CW) (by omega) (by omega),Pw pre e hru,aP (by omega) (by omega)]
    simp
   have e1:((pre++[e]).length+g.length:Nat)=pre.length+(e :: g).length:=by simp;omega
   have e2:pre++[e]++g=pre++(e :: g):=by simp
   rw [e1,e2] at ih
   rw [← ih]
   unfold Hg
   exact Jc Dt
def wB (mR W:List ah):Int:=if W=[] then -1 else ((mR.length+W.length:Nat):Int) - 1
def Eu (d:aO) (W:List ah) (o:Option aO) (a:Int) (rest:List aq):List ah:=match rest with
 | []=>W
 | y :: _=>match o with
   | some n=>Eo d W n a y.at_
   | none=>W
theorem Xi {mK:List Int→Option (aO×Bool)} {nv:List Int→aO×Bool} {K:Nat} {d:aO} {Z:List aq} (h:Yo mK nv K Z) (mR W:List ah) (cx:aq) (pre:List aq) (rest:List aq) (hZ:Z=pre++rest) (hPW:mR.length+W.length≤1000000):
 He mK (d,Z) (mR++W) (wB mR W) cx (kd K pre) pre.length=some (.inl (mR++(Eu d W (zB (nv (kd K pre))) cx.at_ rest),kd K pre,wB mR (Eu d W (zB (nv (kd K pre))) cx.at_ rest),pre.length)):=by
 have hl:=h.len
 unfold He Eu
 rw [h.nm _ (Jf K pre)]
 simp only [Option.bind_some]
 cases rest with
 | nil=>
   have:Z.length=pre.length:=by rw [hZ];simp
   unfold Hd zy
   rw [if_pos (by simp only [Bool.or_eq_true,decide_eq_true_eq];right;omega)]
 | cons y r=>
   have lh:pre.length < Z.length:=by rw [hZ];simp
   have hi:idx Z (pre.length:Int)=some y:=by rw [hZ];exact lg pre y r rfl
   unfold zB
   cases hb:(nv (kd K pre)).2 with
   | false=>
     unfold Hd zy
     rw [if_pos (by simp [hb])]
     simp only [Bool.false_eq_true,if_false]
   | true=>
     unfold Hd
     rw [if_neg (by simp only [hb,Bool.not_true,Bool.false_or,decide_eq_true_eq];omega)]
     simp only [if_true]
     have new:∀ V:List ah,V.length≤1000000→zA (d,Z) V (wB mR W) cx (kd K pre) pre.length (nv (kd K pre)) false=some (.inl (V++[⟨d,(nv (kd K pre)).1,cx.at_,y.at_⟩],kd K pre,(V.length:Int),pre.length)):=by
      intro V hV
      unfold zA zy
      rw [if_neg Bool.false_ne_true]
      simp only
      rw [hi]
      simp only [Option.bind_some]
      rw [fR (by simp only [List.length_cons,List.length_nil];omega)]
      rfl
     rcases uy W with rfl | ⟨V,z,rfl⟩
     ·have e0:wB mR []=-1:=by unfold wB;rw [if_pos rfl]
      rw [e0]
      rw [e0] at new
      rw [if_neg (by decide),List.append_nil,new mR (by simp at hPW;omega),Ep]
      congr 3
      unfold wB
      rw [if_neg (by simp)]
      simp
     ·have e0:wB mR (V++[z])=((mR++V).length:Int):=by unfold wB;rw [if_neg (by simp)];simp;omega
      have hz:idx (mR++(V++[z])) ((mR++V).length:Int)=some z:=by
       rw [← List.append_assoc]
       exact lg (mR++V) z [] rfl
      simp only [List.length_append,List.length_cons,List.length_nil] at hPW
      rw [e0]
      rw [e0] at new
      rw [if_pos (by omega),hz]
      simp only [Option.bind_some]
      rw [ym]
      by_cases c:z.aG=(nv (kd K pre)).1∧z.To=cx.at_
      ·rw [if_pos c.2,if_pos c]
       unfold zA zy
       rw [if_pos (decide_eq_true c.1)]
       simp only
       rw [hi]
       simp only [Option.bind_some]
       rw [hz]
       simp only [Option.bind_some]
       have es:(mR++(V++[z])).set ((mR++V).length:Int).toNat ⟨z.Device,z.aG,z.aT,y.at_⟩=mR++(V++[⟨z.Device,z.aG,z.aT,y.at_⟩]):=by
        rw [Int.toNat_natCast,← List.append_assoc,List.set_append_right _ _ (Nat.le_refl _),Nat.sub_self,← List.append_assoc];rfl
       rw [es]
       congr 3
       unfold wB
       rw [if_neg (by simp)]
       simp;omega
      ·rw [if_neg c]
       have fin:∀ X:Bool,X=false→zA (d,Z) (mR++(V++[z])) ((mR++V).length:Int) cx (kd K pre) pre.length (nv (kd K pre)) X=some (.inl (mR++(V++[z]++[⟨d,(nv (kd K pre)).1,cx.at_,y.at_⟩]),kd K pre,wB mR (V++[z]++[⟨d,(nv (kd K pre)).1,cx.at_,y.at_⟩]),pre.length)):=by
        intro X hX
        rw [hX,new _ (by simp;omega)]
        have el:wB mR (V++[z]++[⟨d,(nv (kd K pre)).1,cx.at_,y.at_⟩])=((mR++(V++[z])).length:Int):=by
         unfold wB
         rw [if_neg (by simp)]
         simp;omega
        rw [el]
        simp
       by_cases c2:z.To=cx.at_
       ·rw [if_pos c2]
        exact fin _ (by simpa using fun q=>c ⟨q,c2⟩)
       ·rw [if_neg c2]
        exact fin _ rfl
theorem Px {pre g rest:List aq} {a:Int} (h1:∀ e∈pre++g,e.at_≤a) (h2:∀ e∈rest,a < e.at_):(pre++(g++rest)).filter (fun e=>decide (e.at_≤a))=pre++g:=by
 rw [← List.append_assoc,List.filter_append,List.filter_eq_self.2 (fun e he=>decide_eq_true (h1 e he)),List.filter_eq_nil_iff.2 (fun e he=>by have:=h2 e he;simp;omega),List.append_nil]
theorem Xj {mK:List Int→Option (aO×Bool)} {nv:List Int→aO×Bool} {K:Nat} {d:aO} {Z:List aq} (h:Yo mK nv K Z) (mR:List ah) {rest:List aq} {C:List Int} (hG:RA rest C):∀ (pre:List aq) (W:List ah),Z=pre++rest→(∀ x∈pre,∀ y∈rest,x.at_ < y.at_)→mR.length+W.length+C.length≤1000000→
 Hh mK (d,Z) (mR++W) (kd K pre) (wB mR W) pre.length=some (.inl (mR++mG d (Ut nv K Z) W C)):=by
 induction hG with
 | nil=>
   intro pre W hZ _ _
   have:Z.length=pre.length:=by rw [hZ];simp
   unfold Hh
   refine vj (o:=some _) ?_
   show Et mK (d,Z) (mR++W) (kd K pre) (wB mR W) pre.length=_
   unfold Et
   rw [if_neg (by simp only;omega)]
   simp [mG]
 | more a e g rest C h1 h2 h3 hg ih=>
   intro pre W hZ hp hb
   rw [List.length_cons] at hb
   have lh:pre.length < Z.length:=by rw [hZ];simp
   have hl:=h.len
   have hi:idx Z (pre.length:Int)=some e:=by rw [hZ];exact lg pre e (g++rest) rfl
   have Ny:∀ x∈e :: g,x.at_=e.at_:=fun x hx=>by
    rcases List.mem_cons.1 hx with rfl | hx
    ·rfl
    ·rw [h2 x hx,h1]
   have Aj:∀ x∈pre++(e :: g),x.at_≤a:=fun x hx=>by
    rcases List.mem_append.1 hx with q | q
    ·have:=hp x q e (by simp);omega
    ·have:=Ny x q;omega
   have Ty:Z.filter (fun e=>decide (e.at_≤a))=pre++(e :: g):=by rw [hZ];exact Px Aj h3
   have k3:=SH (d:=d) h (mR++W) (wB mR W) e rest (fun y hy=>by
    have:=h3 y (List.mem_of_head? hy)
    omega) (e :: g) pre (by rw [hZ]) Ny
   have k5:=Xi (d:=d) h mR W e (pre++(e :: g)) rest (by rw [hZ];simp) (by omega)
   have hlen:((pre.length+(e :: g).length:Nat):Int)=((pre++(e :: g)).length:Int):=by rw [List.length_append]
   have hgn:Ut nv K Z a=zB (nv (kd K (pre++(e :: g)))):=by unfold Ut;rw [Ty]
   have step:Et mK (d,Z) (mR++W) (kd K pre) (wB mR W) pre.length=some (.inl (mR++Eu d W (zB (nv (kd K (pre++(e :: g))))) e.at_ rest,kd K (pre++(e :: g)),wB mR (Eu d W (zB (nv (kd K (pre++(e :: g))))) e.at_ rest),((pre++(e :: g)).length:Int))):=by
    unfold Et
    rw [if_pos (by simp only;omega)]
    simp only
    rw [hi]
    simp only [Option.bind_some]
    rw [k3,hlen,k5]
   have hC:∀ y r,rest=y :: r→∃ C',C=y.at_ :: C':=by
    intro y r hr
    cases hg with
    | nil=>cases hr
    | more b z g' lj C' b1 b2 b3 b4=>
      refine ⟨C',?_⟩
      have:z=y:=by simpa using congrArg List.head? hr
      rw [← b1,this]
   have Rk:mG d (Ut nv K Z) W (a :: C)=mG d (Ut nv K Z) (Eu d W (zB (nv (kd K (pre++(e :: g))))) e.at_ rest) C:=by
    cases rest with
    | nil=>
      cases hg
      simp [mG,Eu]
    | cons y r=>
      obtain ⟨C',rfl⟩:=hC y r rfl
      conv=>lhs;unfold mG
      unfold Eu
      first
      | (rw [hgn,h1];rfl)
      | rw [hgn,h1]
   have hWl:(Eu d W (zB (nv (kd K (pre++(e :: g))))) e.at_ rest).length≤W.length+1:=by
    unfold Eu
    cases rest with
    | nil=>simp
    | cons y r=>
      simp only
      cases zB (nv (kd K (pre++(e :: g)))) with
      | none=>simp
      | some n=>
        simp only
        rcases uy W with rfl | ⟨V,z,rfl⟩
        ·simp [Ep]
        ·rw [ym]
         split<;>simp
   have MG:=ih (pre++(e :: g)) (Eu d W (zB (nv (kd K (pre++(e :: g))))) e.at_ rest) (by rw [hZ];simp) (fun x hx y hy=>by
    have:=Aj x hx
    have:=h3 y hy
    omega) (by omega)
   rw [Rk,← MG]
   unfold Hh
   exact Jc step
def ki (L:List ah) (d:aO) (t:Int):Int:=((L.filter (fun s=>decide (s.Device=d∧s.aT≤t∧t < s.To))).length:Int)
theorem FY (s:ah) (L:List ah) (d:aO) (t:Int):ki (s :: L) d t=(if s.Device=d∧s.aT≤t∧t < s.To then 1 else 0)+ki L d t:=by
 unfold ki
 by_cases c:s.Device=d∧s.aT≤t∧t < s.To
 ·rw [List.filter_cons,if_pos (decide_eq_true c),if_pos c,List.length_cons];omega
 ·rw [List.filter_cons,if_neg (fun q=>c (of_decide_eq_true q)),if_neg c];omega
theorem AA (k:Int):Db k []=0:=rfl
theorem AB (k:Int):∀ (A B:List aq),Db k (A++B)=Db k A+Db k B
 | [],B=>by rw [List.nil_append,AA,Int.zero_add]
 | e :: A,B=>by rw [List.cons_append,mr,mr,AB k A B,Int.add_assoc]
theorem Py (k:Int) {A B:List aq} (h:A.Perm B):Db k A=Db k B:=by
 induction h with
 | nil=>rfl
 | cons e _ ih=>rw [mr,mr,ih]
 | swap x y l=>rw [mr,mr,mr,mr];omega
 | trans _ _ h1 h2=>rw [h1,h2]
abbrev Jg (t:Int) (E:List aq):List aq:=E.filter (fun e=>decide (e.at_≤t))
theorem FZ (k:Int) (d:aO) (s:ah) (L:List ah):pA k d (s :: L)=(if s.Device=d then [⟨s.aT,k,1⟩,⟨s.To,k,-1⟩] else [])++pA k d L:=by
 unfold pA
 by_cases c:s.Device=d
 ·rw [List.filter_cons,if_pos (decide_eq_true c),List.flatMap_cons,if_pos c]
 ·rw [List.filter_cons,if_neg (by simpa using c),if_neg c];rfl
theorem AD (k' k:Int) (d:aO) (t:Int):∀ L:List ah,(∀ s∈L,s.aT < s.To)→Db k' (Jg t (pA k d L))=if k'=k then ki L d t else 0
 | [],_=>by simp [pA,Db,ki]
 | s :: L,h=>by
   have ih:=AD k' k d t L (fun x hx=>h x (by simp [hx]))
   have hs:=h s (by simp)
   rw [FZ,Jg,List.filter_append,AB,ih,FY]
   by_cases c:s.Device=d
   ·rw [if_pos c]
    by_cases c1:s.aT≤t
    ·by_cases c2:s.To≤t
     ·have e:([⟨s.aT,k,1⟩,⟨s.To,k,-1⟩]:List aq).filter (fun e=>decide (e.at_≤t))=[⟨s.aT,k,1⟩,⟨s.To,k,-1⟩]:=by simp [c1,c2]
      rw [e,mr,mr,AA,if_neg (show ¬(s.Device=d∧s.aT≤t∧t < s.To) by omega)]
      simp only
      split<;>split<;>omega
     ·have e:([⟨s.aT,k,1⟩,⟨s.To,k,-1⟩]:List aq).filter (fun e=>decide (e.at_≤t))=[⟨s.aT,k,1⟩]:=by simp [c1,c2]
      rw [e,mr,AA,if_pos (show (s.Device=d∧s.aT≤t∧t < s.To) from ⟨c,c1,by omega⟩)]
      simp only
      split<;>split<;>omega
    ·have e:([⟨s.aT,k,1⟩,⟨s.To,k,-1⟩]:List aq).filter (fun e=>decide (e.at_≤t))=[]:=by
      have:¬ s.To≤t:=by omega
      simp [c1,this]
     rw [e,AA,if_neg (show ¬(s.Device=d∧s.aT≤t∧t < s.To) from fun q=>c1 q.2.1)]
     split<;>omega
   ·rw [if_neg c,if_neg (show ¬(s.Device=d∧s.aT≤t∧t < s.To) from fun q=>c q.1)]
    simp only [List.filter_nil,AA]
    split<;>omega
theorem AE (k':Int) (d:aO) (t:Int):∀ (ls:List (List ah)) (k:Int),(∀ L∈ls,∀ s∈L,s.aT < s.To)→k' < k→Db k' (Jg t (gw d k ls))=0
 | [],_,_,_=>rfl
 | L :: r,k,h,hk=>by
   have ih:=AE k' d t r (k+1) (fun X hX=>h X (by simp [hX])) (by omega)
   unfold gw
   rw [Jg,List.filter_append,AB,ih,AD k' k d t L (h L (by simp)),if_neg (by omega)]
   rfl
theorem Jh (d:aO) (t:Int):∀ (ls:List (List ah)) (k:Int),(∀ L∈ls,∀ s∈L,s.aT < s.To)→∀ (j:Nat) (X:List ah),ls[j]? =some X→Db (k+j) (Jg t (gw d k ls))=ki X d t
 | [],_,_,j,X,hj=>by simp at hj
 | L :: r,k,h,0,X,hj=>by
   rw [List.getElem?_cons_zero,Option.some.injEq] at hj
   subst hj
   unfold gw
   rw [Jg,List.filter_append,AB,AD _ k d t L (h L (by simp)),AE _ d t r (k+1) (fun X hX=>h X (by simp [hX])) (by omega),if_pos (by omega),Int.add_zero]
 | L :: r,k,h,j+1,X,hj=>by
   rw [List.getElem?_cons_succ] at hj
   have ih:=Jh d t r (k+1) (fun X hX=>h X (by simp [hX])) j X hj
   unfold gw
   rw [Jg,List.filter_append,AB,AD _ k d t L (h L (by simp)),if_neg (by omega),Int.zero_add,show k+((j+1:Nat):Int)=k+1+(j:Int) by omega]
   exact ih
theorem Br {ls:List (List ah)} (h:∀ L∈ls,∀ s∈L,s.aT < s.To) (d:aO) (t:Int):kd ls.length (Jg t (gw d 0 ls))=ls.map (fun L=>ki L d t):=by
 apply List.ext_getElem?
 intro j
 unfold kd
 rw [List.getElem?_map,List.getElem?_map]
 by_cases hj:j < ls.length
 ·rw [List.getElem?_range hj]
  cases hx:ls[j]? with
  | none=>rw [List.getElem?_eq_none_iff] at hx;omega
  | some X=>
    have:=Jh d t ls 0 h j X hx
    rw [Int.zero_add] at this
    simp only [Option.map_some]
    rw [this]
 ·rw [List.getElem?_eq_none (by simp;omega),List.getElem?_eq_none (by omega)]
  rfl
theorem MN (K:Nat) {A B:List aq} (h:A.Perm B):kd K A=kd K B:=by
 unfold kd
 exact List.map_congr_left fun k _=>Py _ h
theorem Pz (K:Nat):kd K []=List.replicate K 0:=by
 unfold kd
 apply List.ext_getElem?
 intro j
 rw [List.getElem?_map]
 by_cases hj:j < K
 ·rw [List.getElem?_range hj,List.getElem?_replicate,if_pos hj];rfl
 ·rw [List.getElem?_eq_none (by simp;omega),List.getElem?_eq_none (by simp;omega)];rfl
def HI (nv:List Int→aO×Bool) (ls:List (List ah)) (d:aO) (t:Int):Option aO:=zB (nv (ls.map (fun L=>ki L d t)))
theorem Uu {ls:List (List ah)} (h:∀ L∈ls,∀ s∈L,s.aT < s.To) (nv:List Int→aO×Bool) (d:aO) {Z:List aq} (hZ:Z.Perm (gw d 0 ls)):Ut nv ls.length Z=HI nv ls d:=by
 funext t
 unfold Ut HI
 rw [MN _ (hZ.filter _),Br h d t]
structure Hk (G:Int→Option aO) (C:List Int):Prop where
 si:Ur C
 pc:∀ x t,x∈C→x≤t→(∀ y∈C,y≤x∨t < y)→G t=G x
 Xk:∀ t,G t≠none→∃ a∈C,∃ b∈C,a≤t∧t < b
theorem Ur.le_last:∀ {C:List Int} {a:Int},Ur (a :: C)→∀ x∈a :: C,x≤(a :: C).getLast (by simp)
 | [],a,_,x,hx=>by rw [List.mem_singleton] at hx;subst hx;simp
 | b :: C,a,h,x,hx=>by
   have h':=List.pairwise_cons.1 h
   rw [List.getLast_cons (by simp)]
   rcases List.mem_cons.1 hx with rfl | hx
   ·have:=h'.1 _ (List.getLast_mem (l:=b :: C) (by simp))
    omega
   ·exact Ur.le_last h'.2 x hx
theorem Hk.ok {G:Int→Option aO} {C:List Int} (h:Hk G C) (d:aO):NW d (mG d G [] C)∧(∀ t m,HG (mG d G [] C) t m↔G t=some m)∧(mG d G [] C).length≤C.length:=by
 cases C with
 | nil=>
   refine ⟨NW.nil d,fun t m=>?_,by simp [mG]⟩
   constructor
   ·rintro ⟨w,hw,_⟩
    unfold mG at hw
    cases hw
   ·intro e
    obtain ⟨a,ha,_⟩:=h.Xk t (by rw [e];simp)
    cases ha
 | cons a r=>
   obtain ⟨o1,o2,o3⟩:=Hc (d:=d) r a [] h.si (NW.nil d) (by simp) h.pc
   refine ⟨o1,fun t m=>?_,by rw [List.length_cons];simp at o3;omega⟩
   rw [o2 t m]
   constructor
   ·rintro (⟨w,hw,_⟩ | g)
    ·cases hw
    ·exact g.2.2
   ·intro e
    obtain ⟨x,hx,y,hy,g1,g2⟩:=h.Xk t (by rw [e];simp)
    refine .inr ⟨?_,?_,e⟩
    ·rcases List.mem_cons.1 hx with rfl | hx
     ·exact g1
     ·have:=(List.pairwise_cons.1 h.si).1 x hx;omega
    ·have:=h.si.le_last y hy;omega
theorem Hk.uniq {G:Int→Option aO} {C C':List Int} (h:Hk G C) (h':Hk G C') (d:aO):mG d G [] C=mG d G [] C':=by
 obtain ⟨a1,a2,_⟩:=h.ok d
 obtain ⟨b1,b2,_⟩:=h'.ok d
 exact FV a1 b1 fun t n=>(a2 t n).trans (b2 t n).symm
theorem F0 (d:aO) {G:Int→Option aO} (h:∀ t,G t=none):∀ (C:List Int) (W:List ah),mG d G W C=W
 | [],W=>rfl
 | [a],W=>rfl
 | a :: b :: r,W=>by
   unfold mG
   rw [h a]
   exact F0 d h (b :: r) W
theorem AF {d:aO} {L:List ah} {s:ah} (hs:s∈L) (hd:s.Device=d):∀ (ls:List (List ah)) (k:Int),L∈ls→s.aT∈(gw d k ls).map aq.at_∧s.To∈(gw d k ls).map aq.at_
 | [],_,h=>by cases h
 | X :: r,k,h=>by
   unfold gw
   rw [List.map_append,List.mem_append,List.mem_append]
   rcases List.mem_cons.1 h with rfl | h
   ·have hm:∀ e∈([⟨s.aT,k,1⟩,⟨s.To,k,-1⟩]:List aq),e∈pA k d L:=fun e he=>by
     unfold pA
     exact List.mem_flatMap.2 ⟨s,List.mem_filter.2 ⟨hs,decide_eq_true hd⟩,he⟩
    exact ⟨.inl (List.mem_map.2 ⟨_,hm ⟨s.aT,k,1⟩ (by simp),rfl⟩),.inl (List.mem_map.2 ⟨_,hm ⟨s.To,k,-1⟩ (by simp),rfl⟩)⟩
   ·obtain ⟨g1,g2⟩:=AF hs hd r (k+1) h
    exact ⟨.inr g1,.inr g2⟩
theorem Lw {ls:List (List ah)} {nv:List Int→aO×Bool} (h0:zB (nv (ls.map (fun _=>(0:Int))))=none) {d:aO} {t:Int} (h:HI nv ls d t≠none):∃ L∈ls,∃ s∈L,s.Device=d∧s.aT≤t∧t < s.To:=by
 by_cases c:∃ L∈ls,∃ s∈L,s.Device=d∧s.aT≤t∧t < s.To
 ·exact c
 ·refine absurd ?_ h
  unfold HI
  rw [← h0]
  congr 2
  refine List.map_congr_left fun L hL=>?_
  unfold ki
  rw [List.filter_eq_nil_iff.2 fun s hs q=>c ⟨L,hL,s,hs,of_decide_eq_true q⟩]
  rfl
theorem Hl {ls:List (List ah)} (h:∀ L∈ls,∀ s∈L,s.aT < s.To) {nv:List Int→aO×Bool} (h0:zB (nv (ls.map (fun _=>(0:Int))))=none) {d:aO} {C:List Int} (hC:Ur C) (hm:∀ t∈(gw d 0 ls).map aq.at_,t∈C):Hk (HI nv ls d) C:=by
 refine ⟨hC,fun x t hx hxt hy=>?_,fun t ht=>?_⟩
 ·unfold HI
  rw [← Br h d t,← Br h d x]
  congr 3
  refine List.filter_congr fun e he=>?_
  have:=hy e.at_ (hm _ (List.mem_map.2 ⟨e,he,rfl⟩))
  by_cases q:e.at_≤x
  ·rw [decide_eq_true q,decide_eq_true (by omega)]
  ·rw [decide_eq_false q,decide_eq_false (by omega)]
 ·obtain ⟨L,hL,s,hs,g1,g2,g3⟩:=Lw h0 ht
  obtain ⟨m1,m2⟩:=AF hs g1 ls 0 hL
  exact ⟨_,hm _ m1,_,hm _ m2,g2,g3⟩
theorem RB {ls:List (List ah)} {nv:List Int→aO×Bool} (h0:zB (nv (ls.map (fun _=>(0:Int))))=none) {d:aO} (hE:gw d 0 ls=[]) (t:Int):HI nv ls d t=none:=by
 by_cases c:HI nv ls d t=none
 ·exact c
 ·obtain ⟨L,hL,s,hs,g1,g2,g3⟩:=Lw h0 c
  obtain ⟨m1,m2⟩:=AF hs g1 ls 0 hL
  rw [hE] at m1
  cases m1
def yU (w:aE) (ls:List (List ah)) (d:aO):List Int:=dd vg (zd (w.aT :: w.To :: (gw d 0 ls).map aq.at_))
theorem xY {ls:List (List ah)} (h:∀ L∈ls,∀ s∈L,s.aT < s.To) {nv:List Int→aO×Bool} (h0:zB (nv (ls.map (fun _=>(0:Int))))=none) (w:aE) (d:aO):Hk (HI nv ls d) (yU w ls d):=by
 obtain ⟨r1,r2⟩:=Lr (w.aT :: w.To :: (gw d 0 ls).map aq.at_)
 exact Hl h h0 r1 fun t ht=>(r2 t).2 (List.mem_cons_of_mem _ (List.mem_cons_of_mem _ ht))
theorem Bs (w:aE) (ls:List (List ah)) (d:aO):(yU w ls d).length≤2+(gw d 0 ls).length:=by
 unfold yU
 have:=(Ke vg (zd (w.aT :: w.To :: (gw d 0 ls).map aq.at_))).length_le
 rw [(uv _).length_eq] at this
 simp only [List.length_cons,List.length_map] at this
 omega
def sM (w:aE) (nv:List Int→aO×Bool) (ls:List (List ah)) (d:aO):List ah:=mG d (HI nv ls d) [] (yU w ls d)
theorem Hm {d:aO} {a b:ah}:∀ {W:List ah},NW d W→a∈W→b∈W→a.aT=b.aT→a=b
 | [],_,h,_,_=>by cases h
 | x :: W,h,ha,hb,e=>by
   obtain ⟨h1,h2,h3⟩:=h.tail
   rcases List.mem_cons.1 ha with rfl | JB
   ·rcases List.mem_cons.1 hb with rfl | hb
    ·rfl
    ·have:=h3 b hb
     omega
   ·rcases List.mem_cons.1 hb with rfl | Ci
    ·have:=h3 a JB
     omega
    ·exact Hm h1 JB Ci e
def RC (X:List ah):Prop:=∀ a∈X,∀ b∈X,a.aT=b.aT→a.Device=b.Device→a=b
theorem Lx {w:aE} {nv:List Int→aO×Bool} {ls:List (List ah)} (h:∀ L∈ls,∀ s∈L,s.aT < s.To) (h0:zB (nv (ls.map (fun _=>(0:Int))))=none) (D:List aO):RC (D.flatMap (sM w nv ls)):=by
 intro a ha b hb e1 e2
 obtain ⟨d,_,ha⟩:=List.mem_flatMap.1 ha
 obtain ⟨d',_,hb⟩:=List.mem_flatMap.1 hb
 have o:=((xY h h0 w d).ok d).1
 have o':=((xY h h0 w d').ok d').1
 have g:=(o.ok a ha).2
 have g':=(o'.ok b hb).2
 have:d=d':=by rw [← g,← g',e2]
 subst this
 exact Hm o ha hb e1
def JE (a b:ah):Int:=mA [oc a.aT b.aT,Lib.compareBytes a.Device b.Device]
theorem SI:nL JE:=(D8.on ah.aT).or ((wj.on ah.Device).or .or0)
theorem MO {a b:ah} (h:JE a b < 0):P7 a b < 0:=by
 unfold JE at h
 unfold P7
 simp only [mA] at h ⊢
 split at h
 ·rename_i q;rw [if_pos q];exact h
 ·rename_i q
  rw [if_neg q]
  split at h
  ·rename_i q2;rw [if_pos q2];exact h
  ·omega
theorem PA {Z:List ah} (h:qV P7 Z):qV JE Z:=List.Pairwise.imp (fun h1 h2=>h1 (MO h2)) h
theorem PB {a b:ah} (h1:¬ JE a b < 0) (h2:¬ JE b a < 0):a.aT=b.aT∧a.Device=b.Device:=by
 have hn:=SI.neg a b
 have h0:JE a b=0:=by omega
 unfold JE at h0
 simp only [mA] at h0
 by_cases c:oc a.aT b.aT=0
 ·rw [if_neg (by omega)] at h0
  have e1:a.aT=b.aT:=by
   unfold oc at c
   split at c
   ·omega
   ·split at c<;>omega
  refine ⟨e1,?_⟩
  by_cases q:Lib.compareBytes a.Device b.Device=0
  ·exact qU q
  ·rw [if_pos q] at h0
   exact absurd h0 q
 ·rw [if_pos c] at h0
  exact absurd h0 c
theorem Ev (X:List ah) (hl:X.length≤100000) (hi:RC X):∃ Z,Z.Perm X∧qV JE Z∧∀ s,s.Perm X→dm s.length (fun r:(List ah)=>r.length) (bA s (fun y0 y1=>dI y0 y1))=some Z:=by
 have key:∀ s:List ah,s.Perm X→∃ Z,Z.Perm X∧qV JE Z∧dm s.length (fun r:(List ah)=>r.length) (bA s (fun y0 y1=>dI y0 y1))=some Z:=fun s hs=>by
  obtain ⟨Z,h1,h2,h3⟩:=D7 (fun y0 y1=>dI y0 y1) P7 s (by rw [hs.length_eq];omega) (fun a _ b _=>Bo a b) (Pc.ord s)
  exact ⟨Z,h2.trans hs,PA h3,mD h1 h2.length_eq⟩
 obtain ⟨Z,z1,z2,_⟩:=key X (List.Perm.refl _)
 refine ⟨Z,z1,z2,fun s hs=>?_⟩
 obtain ⟨Z',y1,y2,y3⟩:=key s hs
 have:Z'=Z:=wi (y1.trans z1.symm) y2 z2 fun a ha b hb k1 k2=>by
  obtain ⟨q1,q2⟩:=PB k1 k2
  exact hi a (y1.mem_iff.1 ha) b (y1.mem_iff.1 hb) q1 q2
 rw [y3,this]
theorem RD {n:Int} (h0:0≤n) (h1:n≤100000) (z:Int):Tl z n n=some (List.replicate n.toNat z):=by
 unfold Tl
 rw [if_pos (by omega)]
structure Uv (ls:List (List ah)) (D:List aO):Prop where
 n:ls.length≤4
 len:∀ L∈ls,L.length≤9000
 Yp:∀ d,(gw d 0 ls).length≤1300
 ok:∀ L∈ls,∀ s∈L,s.aT < s.To∧s.Device∈D
 nd:D.Nodup
 Dl:D.length≤40
theorem Uv.lt {ls:List (List ah)} {D:List aO} (h:Uv ls D):∀ L∈ls,∀ s∈L,s.aT < s.To:=fun L hL s hs=>(h.ok L hL s hs).1
theorem Hn {d:aO} {e:aq}:∀ (ls:List (List ah)) (k:Int),e∈gw d k ls→k≤e.au∧e.au < k+ls.length∧-1≤e.CW∧e.CW≤1
 | [],_,h=>by cases h
 | L :: r,k,h=>by
   unfold gw at h
   rw [List.length_cons]
   rcases List.mem_append.1 h with g | g
   ·unfold pA at g
    obtain ⟨s,_,g⟩:=List.mem_flatMap.1 g
    simp only [List.mem_cons,List.not_mem_nil,or_false] at g
    rcases g with rfl | rfl
    ·simp only
     omega
    ·simp only
     omega
   ·have:=Hn r (k+1) g
    omega
theorem Ji {d:aO} {D:List aO}:∀ (ls:List (List ah)) (k:Int),(∀ L∈ls,∀ s∈L,s.Device∈D)→gw d k ls≠[]→d∈D
 | [],_,_,h=>absurd rfl h
 | L :: r,k,hD,h=>by
   unfold gw at h
   by_cases c:gw d (k+1) r=[]
   ·rw [c,List.append_nil] at h
    unfold pA at h
    cases hx:L.filter (fun s=>decide (s.Device=d)) with
    | nil=>rw [hx] at h;exact absurd rfl h
    | cons s t=>
      have hm:s∈L.filter (fun s=>decide (s.Device=d)):=by rw [hx];simp
      rw [List.mem_filter] at hm
      rw [← of_decide_eq_true hm.2]
      exact hD L (by simp) s hm.1
   ·exact Ji r (k+1) (fun X hX=>hD X (by simp [hX])) c
theorem xZ {ls:List (List ah)} {D:List aO} (h:Uv ls D) {nv:List Int→aO×Bool} (h0:zB (nv (ls.map (fun _=>(0:Int))))=none) (w:aE) (d:aO):(sM w nv ls d).length≤1302:=by
 have h1:=((xY h.lt h0 w d).ok d).2.2
 have h2:=Bs w ls d
 have h3:=h.Yp d
 unfold sM
 omega
theorem Xl {ls:List (List ah)} {D:List aO} (h:Uv ls D) {mK:List Int→Option (aO×Bool)} {nv:List Int→aO×Bool} (hn:∀ v:List Int,v.length=ls.length→mK v=some (nv v)) (h0:zB (nv (ls.map (fun _=>(0:Int))))=none) (w:aE) (d:aO) (s:List ah) (hs:s.length≤100000):
 Hi ls mK (d,sU (gw d 0 ls)) s=some (.inl (s++sM w nv ls d)):=by
 have hp:=h.Yp d
 obtain ⟨_,q2,q3⟩:=Er (gw d 0 ls) (by omega)
 obtain ⟨C,hG⟩:=Us _ (sU (gw d 0 ls)) (Nat.le_refl _) q3
 have hl:=h.n
 have hSw:Yo mK nv ls.length (sU (gw d 0 ls)):=⟨hn,by rw [q2.length_eq];omega,fun e he=>by
  have:=Hn ls 0 (q2.mem_iff.1 he)
  omega,fun e he=>(Hn ls 0 (q2.mem_iff.1 he)).2.2⟩
 have hCl:=hG.len
 rw [q2.length_eq] at hCl
 have hk:=Xj (d:=d) hSw s hG [] [] rfl (by simp) (by simp only [List.length_nil];omega)
 have e0:wB s []=-1:=by unfold wB;rw [if_pos rfl]
 rw [List.append_nil,e0,Pz,List.length_nil,Uu h.lt nv d q2] at hk
 have hC:Hk (HI nv ls d) C:=Hl h.lt h0 hG.mem.1 fun t ht=>by
  obtain ⟨e,he,rfl⟩:=List.mem_map.1 ht
  exact (hG.mem.2 _).2 ⟨e,q2.mem_iff.2 he,rfl⟩
 have hu:=hC.uniq (xY h.lt h0 w d) d
 unfold Hi
 rw [RD (by omega) (by omega),Int.toNat_natCast]
 simp only [Option.bind_some]
 rw [hu] at hk
 exact hk
theorem Cb {α β:Type} {g:α→List β} {p:α→Bool}:∀ D:List α,(∀ d∈D,p d=false→g d=[])→D.flatMap g=(D.filter p).flatMap g
 | [],_=>rfl
 | d :: D,h=>by
   have ih:=Cb D fun x hx=>h x (by simp [hx])
   rw [List.flatMap_cons,ih,List.filter_cons]
   cases hp:p d with
   | true=>rw [if_pos rfl,List.flatMap_cons]
   | false=>rw [if_neg Bool.false_ne_true,h d (by simp) hp,List.nil_append]
theorem Ew {ls:List (List ah)} {D:List aO} (h:Uv ls D) {mK:List Int→Option (aO×Bool)} {nv:List Int→aO×Bool} (hn:∀ v:List Int,v.length=ls.length→mK v=some (nv v)) (h0:zB (nv (ls.map (fun _=>(0:Int))))=none) (w:aE):
 ∃ Z,gSw ls mK=some Z∧Z.Perm (D.flatMap (sM w nv ls))∧qV JE Z:=by
 have hln:=h.n
 have Vo:=h.Dl
 have Jz:=jq (sM w nv ls) 1302 D (fun d _=>xZ h h0 w d)
 have hXl:(D.flatMap (sM w nv ls)).length≤60000:=by
  have:=Nat.mul_le_mul_left 1302 Vo
  omega
 obtain ⟨Z,z1,z2,z3⟩:=Ev (D.flatMap (sM w nv ls)) (by omega) (Lx h.lt h0 D)
 refine ⟨Z,?_,z1,z2⟩
 obtain ⟨M,m1,m2⟩:=Pq ls (by omega) h.len (fun d=>by have:=h.Yp d;omega)
 have hME:∀ e∈M,e.2=gw e.1 0 ls∧gw e.1 0 ls≠[]:=fun e he=>by
  have:=(m2.sm.Ag).2 he
  rw [m2.get] at this
  split at this
  ·cases this
  ·rename_i q
   rw [Option.some.injEq] at this
   exact ⟨this.symm,q⟩
 have SJ:(M.map Prod.fst).Perm (D.filter fun d=>decide (gw d 0 ls≠[])):=by
  refine (List.perm_ext_iff_of_nodup m2.sm.nodup (h.nd.filter _)).2 fun d=>?_
  rw [List.mem_filter]
  constructor
  ·intro hd
   obtain ⟨e,he,rfl⟩:=List.mem_map.1 hd
   have:=(hME e he).2
   exact ⟨Ji ls 0 (fun L hL s hs=>(h.ok L hL s hs).2) this,decide_eq_true this⟩
  ·rintro ⟨_,hd⟩
   have hg:=m2.get d
   rw [if_neg (of_decide_eq_true hd)] at hg
   exact List.mem_map.2 ⟨_,(m2.sm.Ag).1 hg,rfl⟩
 have hMl:M.length≤40:=by
  have:=SJ.length_eq
  rw [List.length_map] at this
  have h2:=List.length_filter_le (fun d=>decide (gw d 0 ls≠[])) D
  omega
 have hX:(M.flatMap fun e=>sM w nv ls e.1).Perm (D.flatMap (sM w nv ls)):=by
  have e1:D.flatMap (sM w nv ls)=(D.filter fun d=>decide (gw d 0 ls≠[])).flatMap (sM w nv ls):=Cb D fun d _ hd=>by
   have BL:gw d 0 ls=[]:=by simpa using hd
   unfold sM
   exact F0 d (fun t=>RB h0 BL t) _ _
  have e2:(M.flatMap fun e=>sM w nv ls e.1)=(M.map Prod.fst).flatMap (sM w nv ls):=by rw [List.flatMap_map]
  rw [e1,e2]
  exact SJ.flatMap_right _
 have hS:(sx M).Perm (sx M):=List.Perm.refl _
 unfold gSw
 rw [m1]
 simp only [Option.bind_some]
 unfold Pr
 have Nl:∀ e∈sx M,∃ d,e=(d,sU (gw d 0 ls)):=fun e he=>by
  unfold sx at he
  obtain ⟨x,hx,rfl⟩:=List.mem_map.1 he
  exact ⟨x.1,by rw [(hME x hx).1]⟩
 have hSl:(sx M).length≤40:=by unfold sx;rw [List.length_map];exact hMl
 refine Bl (fun e (x:List ah)=>Hi ls mK e x) (fun x:List ah=>Hj x) (sx M) [] Z (fun done s=>s=done.flatMap fun e=>sM w nv ls e.1) rfl ?_ ?_
 ·intro done e rest s hp hi
  left
  obtain ⟨d,rfl⟩:=Nl e (hp.mem_iff.1 (by simp))
  refine ⟨s++sM w nv ls d,?_,?_⟩
  ·refine Xl h hn h0 w d s ?_
   rw [hi]
   have:=jq (fun e:aO×List aq=>sM w nv ls e.1) 1302 done (fun e _=>xZ h h0 w e.1)
   have hd:done.length≤40:=by
    have:=hp.length_eq
    rw [List.length_append] at this
    omega
   have:=Nat.mul_le_mul_left 1302 hd
   omega
  ·show s++_=_
   rw [List.flatMap_append,← hi]
   simp
 ·intro p s hp hi
  have hsX:s.Perm (D.flatMap (sM w nv ls)):=by
   rw [hi]
   refine (hp.flatMap_right _).trans ?_
   unfold sx
   rw [List.flatMap_map]
   exact hX
  show Hj s=some Z
  unfold Hj
  rw [z3 s hsX]
  rfl
theorem PC:∀ k:Nat,dn k=mF (α:=ah) k
 | 0=>rfl
 | k+1=>by
   show fg (dn k)=C8 (mF k)
   rw [PC k]
   rfl
theorem Ly:dU=mF (α:=ah) depth:=by
 funext a b c d e
 unfold dU
 rw [PC]
theorem Uw:fI=Az (α:=ah):=by
 funext a b c d e
 unfold fI Az
 rw [Ly]
 rfl
theorem Ux:cM=tn (α:=ah):=by
 funext a b c d e g
 unfold cM tn
 rw [Ly,Uw]
theorem Uy:iX=tq (α:=ah):=by
 funext a b c d
 unfold iX tq
 have e:cN=tp (α:=ah):=by
  funext a b c d
  unfold cN tp lE wA
  rw [Ux]
 rw [e]
theorem PD (l:List ah) (f:ah→ah→Option Int):bq l f=Rx l f:=by
 unfold bq Rx gE lF uY
 have e:cO=tt (α:=ah):=by
  funext a b c d g
  unfold cO tt iY Da
  rw [Uy]
  rfl
 rw [e]
theorem Bt (L:List ah) (hl:(L.length:Int)≤100000) (d:aO) (t:Int):tV L d t=some (ki L d t):=by
 unfold tV BZ
 refine (lS (A:=Int) L (fun s i=>(s,i)) (fun x:Int×Int=>kM L d t x.1 x.2) (fun n s=>n+if s.Device=d∧s.aT≤t∧t < s.To then 1 else 0) (fun i n=>0≤n∧n≤i) (fun n=>some n) (fun s i x h0 h1 hx hv=>?_) (fun s hv=>?_) 0 ⟨Int.le_refl _,Int.le_refl _⟩).trans ?_
 ·refine ⟨?_,?_⟩
  ·show kM L d t s i=_
   unfold kM
   rw [if_pos h1,hx]
   simp only [Option.bind_some]
   unfold uM sc
   rw [aP (x:=i+1) (by omega) (by omega),aP (x:=s+1) (by omega) (by omega)]
   by_cases c:x.Device=d∧x.aT≤t∧t < x.To
   ·rw [if_pos (by simp [c]),if_pos c]
   ·rw [if_neg (by simpa using c),if_neg c,Int.add_zero]
  ·split<;>omega
 ·show kM L d t s L.length=_
  unfold kM
  rw [if_neg (by omega)]
 ·have:∀ (X:List ah) (n:Int),X.foldl (fun n s=>n+if s.Device=d∧s.aT≤t∧t < s.To then 1 else 0) n=n+ki X d t:=by
   intro X
   induction X with
   | nil=>intro n;simp [ki]
   | cons s X ih=>intro n;rw [List.foldl_cons,ih,FY];omega
  rw [this,Int.zero_add]
def Nb (d:aO) (s:ah):List Int:=if s.Device=d then [s.aT,s.To] else []
theorem Jj (d:aO) (L:List ah) (k:Int):L.flatMap (Nb d)=(pA k d L).map aq.at_:=by
 induction L with
 | nil=>rfl
 | cons s L ih=>
   rw [FZ,List.map_append,← ih,List.flatMap_cons]
   congr 1
   unfold Nb
   split<;>rfl
theorem Jk (d:aO):∀ (ls:List (List ah)) (k:Int),ls.flatMap (fun L=>L.flatMap (Nb d))=(gw d k ls).map aq.at_
 | [],_=>rfl
 | L :: r,k=>by
   unfold gw
   rw [List.flatMap_cons,List.map_append,Jk d r (k+1),Jj d L k]
theorem RE (d:aO) (n8:Int) (hn:0≤n8∧n8≤1000) (L:List ah) (hl:(L.length:Int)≤100000) (acc:List Int) (ha:(acc.length:Int)≤10000000):xA d n8 L acc 0=some (.inl (acc++L.flatMap (Nb d),n8+1)):=by
 unfold xA
 refine (jg L (fun s i=>(s,i)) (fun x:(List Int)×Int=>kN d n8 L x.1 x.2) (Nb d) 2 10000000 (fun s=>some (.inl (s,n8+1))) (fun x _=>by unfold Nb;split<;>simp) (by omega) (fun s i x h0 h1 hx hs _=>?_) (fun s hs=>?_) acc ha)
 ·show kN d n8 L s i=_
  unfold kN
  rw [if_pos h1,hx]
  simp only [Option.bind_some]
  unfold sd Nb
  rw [aP (x:=i+1) (by omega) (by omega)]
  by_cases c:x.Device=d
  ·rw [if_pos c,if_pos c,fR (by simp;omega)];rfl
  ·rw [if_neg c,if_neg c,List.append_nil]
 ·show kN d n8 L s L.length=_
  unfold kN
  rw [if_neg (by omega),aP (x:=n8+1) (by omega) (by omega)]
theorem MP (d:aO) (w:aE) (ls:List (List ah)) (hn:ls.length≤10) (hl:∀ L∈ls,(L.length:Int)≤100000) (hE:(gw d 0 ls).length≤50000):sf d w ls=some (yU w ls d):=by
 unfold sf B0
 have hB:∀ L∈ls,((L.flatMap (Nb d)).length:Int)≤200000:=fun L hL=>by
  have:=jq (Nb d) 2 L (fun x _=>by unfold Nb;split<;>simp)
  have:=hl L hL
  omega
 refine (jg ls (fun s i=>(s,i)) (fun x:(List Int)×Int=>kO d ls x.1 x.2) (fun L=>L.flatMap (Nb d)) 200000 2 se hB (by omega) (fun s i x h0 h1 hx hs hm=>?_) (fun s hs=>?_) [w.aT,w.To] (by simp)).trans ?_
 ·show kO d ls s i=_
  unfold kO
  rw [if_pos h1,hx]
  simp only [Option.bind_some]
  exact RE d i ⟨h0,by omega⟩ x (hl x hm) s (by omega)
 ·show kO d ls s ls.length=_
  unfold kO
  rw [if_neg (by omega)]
 ·rw [Jk d ls 0]
  show se (w.aT :: w.To :: (gw d 0 ls).map aq.at_)=_
  have hlen:(w.aT :: w.To :: (gw d 0 ls).map aq.at_).length≤50002:=by simp only [List.length_cons,List.length_map];omega
  unfold yU
  revert hlen
  generalize (w.aT :: w.To :: (gw d 0 ls).map aq.at_)=T
  intro hlen
  unfold se
  have hs:dm T.length (fun r:(List Int)=>r.length) (gP T)=some (zd T):=mD (by unfold gP BN;rw [if_pos (by omega)]) (uv T).length_eq
  rw [hs]
  simp only [Option.bind_some]
  rw [An _ (by rw [(uv T).length_eq];omega)]
  rfl
noncomputable def Ex (n17:Int) (lU:List ah):Option (((List ah)×Int)⊕(((List ah)×Int)⊕(List ah))):=
 some (.inl (lU,aU (n17+(1:Int))))
noncomputable def Ho (n17:Int) (fx:List ah):Option (((List ah)×Int)⊕(((List ah)×Int)⊕(List ah))):=
 Ex n17 fx
noncomputable def sN (v9:aO) (gm:List ah) (n17:Int) (v21:aO×Bool) (v22:Int) (v23:Int) (Mm:Bool):Option (((List ah)×Int)⊕(((List ah)×Int)⊕(List ah))):=
 if Mm=true then
  (idx gm (aU ((gm.length:Int) - (1:Int)))).bind fun v31=>
  Ho n17 (gm.set (aU ((gm.length:Int) - (1:Int))).toNat (⟨v31.Device,v31.aG,v31.aT,v23⟩:ah))
 else
  (app gm [(⟨v9,v21.1,v22,v23⟩:ah)]).bind fun zg=>
  Ho n17 zg
noncomputable def x3 (mK:aO→Int→Option (aO×Bool)) (n7:Int) (v9:aO) (v10:(List Int)) (gm:List ah) (n17:Int):Option (((List ah)×Int)⊕(((List ah)×Int)⊕(List ah))):=
 if n17 < (aU ((v10.length:Int) - (1:Int))) then
  (idx v10 n17).bind fun v20=>
  (mK v9 v20).bind fun v21=>
  if (!v21.2)=true then
   Ex n17 gm
  else
   (idx v10 n17).bind fun v22=>
   (idx v10 (aU (n17+(1:Int)))).bind fun v23=>
   if (0:Int)≤(aU ((gm.length:Int) - (1:Int))) then
    (idx gm (aU ((gm.length:Int) - (1:Int)))).bind fun v26=>
    if v26.Device=v9 then
     (idx gm (aU ((gm.length:Int) - (1:Int)))).bind fun cx=>
     if cx.aG=v21.1 then
      (idx gm (aU ((gm.length:Int) - (1:Int)))).bind fun v28=>
      sN v9 gm n17 v21 v22 v23 (decide (v28.To=v22))
     else
      sN v9 gm n17 v21 v22 v23 false
    else
     sN v9 gm n17 v21 v22 v23 false
   else
    sN v9 gm n17 v21 v22 v23 false
 else
  Option.map .inr (some (.inl (gm,aU (n7+(1:Int)))))
noncomputable def Bu (mK:aO→Int→Option (aO×Bool)) (n7:Int) (v9:aO) (v10:(List Int)) (gm:List ah) (n17:Int):Option (((List ah)×Int)⊕(List ah)):=
 iter (fun x:(List ah)×Int=>x3 mK n7 v9 v10 x.1 x.2) (gm,n17)
noncomputable def Hp (l6:List ah):Option (List ah):=
 (dm l6.length (fun r:(List ah)=>r.length) (bq l6 (fun y0 y1=>jt y0 y1))).bind fun vm=>
 some vm
noncomputable def Ey (aa:List aO) (aj:aE) (aI:List (List ah)) (mK:aO→Int→Option (aO×Bool)) (l6:List ah) (n7:Int):Option (((List ah)×Int)⊕(List ah)):=
 if n7 < (aa.length:Int) then
  (idx aa n7).bind fun v9=>
  (sf v9 aj aI).bind fun v10=>
  Bu mK n7 v9 v10 l6 (0:Int)
 else
  Option.map .inr (Hp l6)
noncomputable def Hq (aa:List aO) (aj:aE) (aI:List (List ah)) (mK:aO→Int→Option (aO×Bool)) (l6:List ah) (n7:Int):Option (List ah):=
 iter (fun x:(List ah)×Int=>Ey aa aj aI mK x.1 x.2) (l6,n7)
noncomputable def gSp (aa:List aO) (aj:aE) (aI:List (List ah)) (mK:aO→Int→Option (aO×Bool)):Option (List ah):=
 Hq aa aj aI mK [] (0:Int)
theorem Xm {mK:aO→Int→Option (aO×Bool)} {d:aO} {G:Int→Option aO} (hG:∀ t,∃ y,mK d t=some y∧zB y=G t) (n7:Int) (hn:0≤n7∧n7≤1000) (mR:List ah) (hP:∀ x∈mR,x.Device≠d) (C:List Int) (hC:C.length≤100000):
 ∀ (k:Nat) (rest pre:List Int) (W:List ah),rest.length≤k→C=pre++rest→(∀ x∈W,x.Device=d)→mR.length+W.length+rest.length≤1000000→Bu mK n7 d C (mR++W) pre.length=some (.inl (mR++mG d G W rest,n7+1)):=by
 intro k
 induction k with
 | zero=>
   intro rest pre W hk he _ hb
   have:rest=[]:=List.eq_nil_of_length_eq_zero (by omega)
   subst this
   have hl:C.length=pre.length:=by rw [he];simp
   unfold Bu
   refine vj (o:=some _) ?_
   show x3 mK n7 d C (mR++W) pre.length=_
   unfold x3
   rw [aP (x:=(C.length:Int) - 1) (by omega) (by omega),aP (x:=n7+1) (by omega) (by omega),if_neg (by omega)]
   rfl
 | succ k ih=>
   intro rest pre W hk he hW hb
   match rest,he,hk,hb with
   | [],he,hk,hb=>exact ih [] pre W (by simp) he hW hb
   | [a],he,hk,hb=>
     have hl:C.length=pre.length+1:=by rw [he];simp
     unfold Bu
     refine vj (o:=some _) ?_
     show x3 mK n7 d C (mR++W) pre.length=_
     unfold x3
     rw [aP (x:=(C.length:Int) - 1) (by omega) (by omega),aP (x:=n7+1) (by omega) (by omega),if_neg (by omega)]
     rfl
   | a :: b :: r,he,hk,hb=>
     have hl:pre.length+2≤C.length:=by rw [he];simp only [List.length_append,List.length_cons];omega
     have ha:idx C (pre.length:Int)=some a:=by rw [he];exact lg pre a (b :: r) rfl
     have hbx:idx C ((pre.length:Int)+1)=some b:=by
      have:=lg (pre++[a]) b r rfl
      rw [List.length_append,List.length_singleton] at this
      rw [he,show pre++a :: b :: r=(pre++[a])++b :: r by simp]
      exact this
     obtain ⟨y,y1,y2⟩:=hG a
     simp only [List.length_cons] at hb hk
     have R5:((pre++[a]).length:Int)=(pre.length:Int)+1:=by simp
     have fin:∀ W':List ah,(match G a with | some n=>Eo d W n a b | none=>W)=W'→(∀ x∈W',x.Device=d)→W'.length≤W.length+1→x3 mK n7 d C (mR++W) pre.length=some (.inl (mR++W',(pre.length:Int)+1))→Bu mK n7 d C (mR++W) pre.length=some (.inl (mR++mG d G W (a :: b :: r),n7+1)):=by
      intro W' h1 h2 h3 h4
      have i:=ih (b :: r) (pre++[a]) W' (by rw [List.length_cons];omega) (by rw [he];simp) h2 (by rw [List.length_cons];omega)
      rw [R5] at i
      have e:mG d G W (a :: b :: r)=mG d G W' (b :: r):=by
       rw [← h1]
       cases hg:G a with
       | none=>conv=>lhs;unfold mG;rw [hg]
       | some n=>conv=>lhs;unfold mG;rw [hg]
      rw [e,← i]
      unfold Bu
      exact Jc h4
     have L6:∀ z,(if (!y.2)=true then Ex (pre.length:Int) (mR++W) else (idx C (pre.length:Int)).bind fun v22=>(idx C (aU ((pre.length:Int)+1))).bind fun v23=>if (0:Int)≤aU (((mR++W).length:Int) - 1) then (idx (mR++W) (aU (((mR++W).length:Int) - 1))).bind fun v26=>if v26.Device=d then (idx (mR++W) (aU (((mR++W).length:Int) - 1))).bind fun cx=>if cx.aG=y.1 then (idx (mR++W) (aU (((mR++W).length:Int) - 1))).bind fun v28=>sN d (mR++W) (pre.length:Int) y v22 v23 (decide (v28.To=v22)) else sN d (mR++W) (pre.length:Int) y v22 v23 false else sN d (mR++W) (pre.length:Int) y v22 v23 false else sN d (mR++W) (pre.length:Int) y v22 v23 false)=z→x3 mK n7 d C (mR++W) pre.length=z:=by
      intro z hz
      rw [← hz]
      unfold x3
      rw [aP (x:=(C.length:Int) - 1) (by omega) (by omega),if_pos (by omega),ha]
      simp only [Option.bind_some]
      rw [y1]
      rfl
     have j1:∀ l:List ah,Ex (pre.length:Int) l=some (.inl (l,(pre.length:Int)+1)):=fun l=>by
      unfold Ex
      rw [aP (by omega) (by omega)]
     have SK:sN d (mR++W) (pre.length:Int) y a b false=some (.inl (mR++(W++[⟨d,y.1,a,b⟩]),(pre.length:Int)+1)):=by
      unfold sN Ho
      rw [if_neg Bool.false_ne_true,fR (by simp only [List.length_append,List.length_cons,List.length_nil];omega)]
      simp only [Option.bind_some]
      rw [j1,List.append_assoc]
     by_cases hy:y.2=true
     ·have Xn:G a=some y.1:=by rw [← y2];unfold zB;rw [if_pos hy]
      rcases uy W with rfl | ⟨V,z,rfl⟩
      ·refine fin [⟨d,y.1,a,b⟩] (by rw [Xn];rfl) (by simp) (by simp) (L6 _ ?_)
       rw [if_neg (by simp [hy]),ha]
       simp only [Option.bind_some]
       rw [aP (x:=(pre.length:Int)+1) (by omega) (by omega),hbx]
       simp only [Option.bind_some]
       have:SK=SK:=rfl
       rw [List.append_nil] at SK ⊢
       rw [List.nil_append] at SK
       rcases uy mR with rfl | ⟨V,z,rfl⟩
       ·rw [if_neg (by decide)]
        exact SK
       ·have hz:idx (V++[z]) ((V.length:Int))=some z:=lg V z [] rfl
        have Xo:z.Device≠d:=hP z (by simp)
        have hlen:aU (((V++[z]).length:Int) - 1)=(V.length:Int):=by
         simp only [List.length_append,List.length_cons,List.length_nil] at hb ⊢
         rw [aP (by omega) (by omega)];omega
        rw [hlen,if_pos (by omega),hz]
        simp only [Option.bind_some]
        rw [if_neg Xo]
        exact SK
      ·have hz:idx (mR++(V++[z])) (((mR++V).length:Int))=some z:=by
        rw [← List.append_assoc]
        exact lg (mR++V) z [] rfl
       have Xo:z.Device=d:=hW z (by simp)
       have hlen:aU (((mR++(V++[z])).length:Int) - 1)=((mR++V).length:Int):=by
        simp only [List.length_append,List.length_cons,List.length_nil] at hb ⊢
        rw [aP (by omega) (by omega)];omega
       have hWd:∀ x∈V,x.Device=d:=fun x hx=>hW x (by simp [hx])
       have RF:=ym d V z y.1 a b
       have aa8:sN d (mR++(V++[z])) (pre.length:Int) y a b true=some (.inl (mR++(V++[⟨z.Device,z.aG,z.aT,b⟩]),(pre.length:Int)+1)):=by
        unfold sN Ho
        rw [if_pos rfl,hlen,hz]
        simp only [Option.bind_some]
        rw [j1,Int.toNat_natCast,← List.append_assoc,List.set_append_right _ _ (Nat.le_refl _),Nat.sub_self,← List.append_assoc]
        rfl
       by_cases c:z.aG=y.1∧z.To=a
       ·rw [if_pos c] at RF
        refine fin (V++[⟨z.Device,z.aG,z.aT,b⟩]) (by rw [Xn];exact RF) (fun x hx=>?_) (by simp) (L6 _ ?_)
        ·rcases List.mem_append.1 hx with g | g
         ·exact hWd x g
         ·rw [List.mem_singleton] at g;subst g;exact Xo
        ·rw [if_neg (by simp [hy]),ha]
         simp only [Option.bind_some]
         rw [aP (x:=(pre.length:Int)+1) (by omega) (by omega),hbx]
         simp only [Option.bind_some]
         rw [hlen,if_pos (by omega),hz]
         simp only [Option.bind_some]
         rw [if_pos Xo,if_pos c.1,decide_eq_true c.2]
         exact aa8
       ·rw [if_neg c] at RF
        refine fin (V++[z]++[⟨d,y.1,a,b⟩]) (by rw [Xn];exact RF) (fun x hx=>?_) (by simp) (L6 _ ?_)
        ·rcases List.mem_append.1 hx with g | g
         ·exact hW x g
         ·rw [List.mem_singleton] at g;subst g;rfl
        ·rw [if_neg (by simp [hy]),ha]
         simp only [Option.bind_some]
         rw [aP (x:=(pre.length:Int)+1) (by omega) (by omega),hbx]
         simp only [Option.bind_some]
         rw [hlen,if_pos (by omega),hz]
         simp only [Option.bind_some]
         rw [if_pos Xo]
         by_cases c1:z.aG=y.1
         ·rw [if_pos c1,decide_eq_false (fun q=>c ⟨c1,q⟩)]
          exact SK
         ·rw [if_neg c1]
          exact SK
     ·have W2:y.2=false:=by simpa using hy
      have Xn:G a=none:=by rw [← y2];unfold zB;rw [if_neg hy]
      refine fin W (by rw [Xn]) hW (by omega) (L6 _ ?_)
      rw [if_pos (by simp [W2])]
      exact j1 _
theorem SL {mK:aO→Int→Option (aO×Bool)} {w:aE} {ls:List (List ah)} {D:List aO} {Cf:aO→List Int} {Gf:aO→Int→Option aO} (xf:D.Nodup) (Vo:D.length≤40)
 (hc:∀ d∈D,sf d w ls=some (Cf d)∧(Cf d).length≤2000) (hG:∀ d∈D,∀ t,∃ y,mK d t=some y∧zB y=Gf d t) (hb:∀ d∈D,(mG d (Gf d) [] (Cf d)).length≤2000∧∀ x∈mG d (Gf d) [] (Cf d),x.Device=d):
 ∀ (rest done:List aO),D=done++rest→Hq D w ls mK (done.flatMap fun d=>mG d (Gf d) [] (Cf d)) done.length=Hp (D.flatMap fun d=>mG d (Gf d) [] (Cf d))
 | [],done,he=>by
   rw [List.append_nil] at he
   subst he
   unfold Hq
   refine vj ?_
   show Ey D w ls mK _ (D.length:Int)=_
   unfold Ey
   rw [if_neg (by omega)]
 | d :: rest,done,he=>by
   have ih:=SL xf Vo hc hG hb rest (done++[d]) (by rw [he];simp)
   have hl:done.length+1≤D.length:=by rw [he];simp only [List.length_append,List.length_cons];omega
   have hi:idx D (done.length:Int)=some d:=by rw [he];exact lg done d rest rfl
   have hdm:d∈D:=by rw [he];simp
   have Jz:=jq (fun d=>mG d (Gf d) [] (Cf d)) 2000 done (fun x hx=>(hb x (by rw [he];exact List.mem_append_left _ hx)).1)
   have:=Nat.mul_le_mul_left 2000 (show done.length≤40 by omega)
   have Dh:=(hc d hdm).2
   have k:=Xm (hG d hdm) done.length (by omega) (done.flatMap fun d=>mG d (Gf d) [] (Cf d)) (fun x hx=>by
    obtain ⟨d',h1,h2⟩:=List.mem_flatMap.1 hx
    rw [(hb d' (by rw [he];exact List.mem_append_left _ h1)).2 x h2]
    rintro rfl
    rw [he,List.nodup_append] at xf
    exact xf.2.2 d' h1 d' (by simp) rfl) (Cf d) (by omega) (Cf d).length (Cf d) [] [] (Nat.le_refl _) rfl (by simp) (by simp only [List.length_nil];omega)
   rw [List.append_nil,List.length_nil] at k
   rw [List.flatMap_append,List.length_append,List.length_singleton] at ih
   rw [← ih]
   unfold Hq
   refine Jc ?_
   show Ey D w ls mK _ (done.length:Int)=_
   unfold Ey
   rw [if_pos (by omega),hi]
   simp only [Option.bind_some]
   rw [(hc d hdm).1]
   simp only [Option.bind_some]
   refine k.trans ?_
   simp
theorem RG (a b:ah):jt a b=some (JE a b):=by
 unfold jt JE
 rw [lG,show jj [oc a.aT b.aT,Lib.compareBytes a.Device b.Device]=some (mA [oc a.aT b.aT,Lib.compareBytes a.Device b.Device]) from xM _ (by simp)]
 rfl
theorem Xp {X Z:List ah} (hX:X.length≤90000) (hi:RC X) (hz:Z.Perm X) (hs:qV JE Z):Hp X=some Z:=by
 obtain ⟨Z',z1,z2,z3⟩:=Pn SI (fun y0 y1=>jt y0 y1) (fun a b=>RG a b) X hX
 have:Z'=Z:=wi (z2.trans hz.symm) z3 hs fun a ha b hb k1 k2=>by
  obtain ⟨q1,q2⟩:=PB k1 k2
  exact hi a (z2.mem_iff.1 ha) b (z2.mem_iff.1 hb) q1 q2
 unfold Hp
 rw [mD (show bq X (fun y0 y1=>jt y0 y1)=some Z by rw [PD,z1,this]) hz.length_eq]
 rfl
theorem PE:∀ a b:List UInt8,a < b↔Lib.compareBytes a b < 0
 | [],[]=>by simp [Lib.compareBytes]
 | [],_ :: _=>by simp [Lib.compareBytes]
 | _ :: _,[]=>by simp [Lib.compareBytes]
 | x :: a,y :: b=>by
   have ih:=PE a b
   rw [List.cons_lt_cons_iff]
   unfold Lib.compareBytes
   by_cases h:x < y
   ·simp [h]
   ·by_cases h2:y < x
    ·have wF:¬ x=y:=fun e=>by subst e;exact h h2
     simp [h,h2,wF]
    ·have hx:x=y:=by
      rw [UInt8.lt_iff_toNat_lt] at h h2
      exact UInt8.toNat_inj.1 (by omega)
     subst hx
     simp [ih]
theorem Hr (a b:List UInt8):a≤b↔¬ Lib.compareBytes b a < 0:=by
 rw [← PE];exact Iff.rfl
def SS (l:List aO):Prop:=l.Pairwise (fun a b=>Lib.compareBytes a b < 0)
theorem Jl (l:List aO):(DK l).Pairwise (fun a b=>¬ Lib.compareBytes b a < 0):=by
 have h:=List.pairwise_mergeSort (le:=fun x y:aO=>decide (x≤y)) (fun a b c h1 h2=>by
  rw [decide_eq_true_eq,Hr] at *
  intro h3
  have n1:=uo a c;have n2:=uo a b;have n3:=uo b c
  rcases Int.lt_trichotomy (Lib.compareBytes a b) 0 with e | e | e
  ·rcases Int.lt_trichotomy (Lib.compareBytes b c) 0 with f | f | f
   ·have:=C4 e f;omega
   ·have:=qU f;subst this;omega
   ·omega
  ·have:=qU e;subst this;omega
  ·omega) (fun a b=>by
  rw [Bool.or_eq_true,decide_eq_true_eq,decide_eq_true_eq,Hr,Hr]
  have:=uo a b
  omega) l
 exact h.imp (fun {a b} uz=>by rw [decide_eq_true_eq,Hr] at uz;exact uz)
theorem PF:∀ (r:List aO) (p:aO),(p :: r).Pairwise (fun a b=>¬ Lib.compareBytes b a < 0)→SS (p :: CE vg p r)∧∀ x,x∈p :: CE vg p r↔x∈p :: r
 | [],p=>fun _=>⟨List.pairwise_singleton _ _,fun x=>Iff.rfl⟩
 | y :: r,p=>fun h=>by
   have h1:=List.pairwise_cons.1 h
   have ih:=PF r y h1.2
   unfold CE
   by_cases e:vg y p=true
   ·have e':y=p:=of_decide_eq_true e
    subst e'
    rw [if_pos e]
    refine ⟨ih.1,fun x=>?_⟩
    rw [ih.2 x];simp
   ·have e':y≠p:=fun z=>e (decide_eq_true z)
    rw [if_neg e]
    have hpy:Lib.compareBytes p y < 0:=by
     have:=h1.1 y (by simp)
     have hn:=uo p y
     have hz:Lib.compareBytes p y≠0:=fun z=>e' (qU z).symm
     omega
    refine ⟨List.pairwise_cons.2 ⟨fun z hz=>?_,ih.1⟩,fun x=>?_⟩
    ·rcases List.mem_cons.1 hz with f | f
     ·subst f;exact hpy
     ·exact C4 hpy ((List.pairwise_cons.1 ih.1).1 z f)
    ·rw [List.mem_cons,ih.2 x];simp
theorem SN (l:List aO) (h:l.Pairwise (fun a b=>¬ Lib.compareBytes b a < 0)):SS (dd vg l)∧∀ x,x∈dd vg l↔x∈l:=by
 cases l with
 | nil=>exact ⟨List.Pairwise.nil,fun x=>Iff.rfl⟩
 | cons p r=>exact PF r p h
def sO (l:List ao):List aO:=dd vg (DK (l.map ao.Device))
theorem Ez (l:List ao) (d:aO):d∈sO l↔∃ x∈l,x.Device=d:=by
 unfold sO
 rw [Kh,(uw _).mem_iff,List.mem_map]
theorem Hs (l:List ao):(sO l).Nodup:=(SN _ (Jl _)).1.imp fun {a b} h e=>by
 subst e
 rw [yf] at h
 omega
theorem AG (l:List ao):(sO l).length≤l.length:=by
 unfold sO
 have h:=Kd vg (DK (l.map ao.Device))
 rw [(uw _).length_eq,List.length_map] at h
 exact h
theorem x4 (l:List ao) (hl:(l.length:Int)≤5000):iW l []=some (sO l):=by
 unfold iW tT
 refine (jg l (fun s i=>(s,i)) (fun x:(List aO)×Int=>cX l [] x.1 x.2) (fun x=>[x.Device]) 1 0 (iV) (fun x _=>by simp) (by omega) (fun s i x h0 h1 hx hs _=>?_) (fun s hs=>?_) [] (by simp)).trans ?_
 ·show cX l [] s i=_
  rw [cX,if_pos h1,hx]
  simp only [Option.bind_some]
  unfold nk lr
  rw [aP (x:=i+1) (by omega) (by omega)]
  rw [if_pos (by simp),fR (by simp;omega)];rfl
 ·show cX l [] s l.length=_
  rw [cX,if_neg (by omega)]
 ·rw [List.nil_append]
  have e:l.flatMap (fun x=>[x.Device])=l.map ao.Device:=by
   induction l with
   | nil=>rfl
   | cons x l ih=>rw [List.flatMap_cons,ih (by rw [List.length_cons] at hl;omega)];rfl
  rw [e]
  show iV (l.map ao.Device)=some (dd vg (DK (l.map ao.Device)))
  have hd:(l.map ao.Device).length≤5000:=by rw [List.length_map];omega
  revert hd
  generalize l.map ao.Device=T
  intro hd
  unfold iV DU fk
  rw [fR (by simp;omega)]
  simp only [Option.bind_some,List.nil_append]
  have:=G5 T (by omega)
  cases hx:dm T.length (fun r:(List aO)=>r.length) (cy T) with
  | none=>rw [hx] at this;cases this
  | some v=>
    rw [hx] at this
    simp only [Option.bind_some] at this ⊢
    rw [this];rfl
theorem PG (l:List ao) (m d:aO):d∈mE l m↔∃ x∈l,x.ax=m∧x.Device=d:=by
 unfold mE
 rw [Kh,(uw _).mem_iff]
 unfold yA
 rw [List.mem_flatMap]
 constructor
 ·rintro ⟨x,hx,h⟩
  split at h
  ·rename_i q
   rw [List.mem_singleton] at h
   exact ⟨x,hx,q,h.symm⟩
  ·cases h
 ·rintro ⟨x,hx,h1,h2⟩
  exact ⟨x,hx,by rw [if_pos h1,h2];simp⟩
theorem RH (l:List ao) (m:aO):(mE l m).Nodup:=(SN _ (Jl _)).1.imp fun {a b} h e=>by
 subst e
 rw [yf] at h
 omega
theorem Cc {α:Type} {g:aO→List α} {dv:α→aO} (d:aO):∀ D:List aO,D.Nodup→(∀ d∈D,∀ x∈g d,dv x=d)→(D.flatMap g).filter (fun x=>decide (dv x=d))=if d∈D then g d else []
 | [],_,_=>by simp
 | a :: D,hn,h=>by
   have ih:=Cc d D (List.nodup_cons.1 hn).2 fun x hx=>h x (by simp [hx])
   rw [List.flatMap_cons,List.filter_append,ih]
   by_cases c:a=d
   ·subst c
    rw [List.filter_eq_self.2 fun x hx=>decide_eq_true (h a (by simp) x hx),if_neg (List.nodup_cons.1 hn).1,List.append_nil,if_pos (by simp)]
   ·rw [List.filter_eq_nil_iff.2 fun x hx q=>c ((h a (by simp) x hx).symm.trans (of_decide_eq_true q)),List.nil_append]
    by_cases c2:d∈D
    ·rw [if_pos c2,if_pos (by simp [c2])]
    ·rw [if_neg c2,if_neg (by
      rw [List.mem_cons]
      rintro (q | q)
      ·exact c q.symm
      ·exact c2 q)]
theorem AH {w:aE} {s x:ah} (h:x∈kS w s):x.Device=s.Device∧x.aG=s.aG∧x.aT < x.To∧s.aT≤x.aT∧x.To≤s.To:=by
 unfold kS at h
 split at h
 ·rw [List.mem_singleton] at h
  subst h
  refine ⟨rfl,rfl,by assumption,?_,?_⟩
  ·show s.aT≤max s.aT w.aT;omega
  ·show min s.To w.To≤s.To;omega
 ·cases h
theorem Cd {l:List ao} {w:aE} {r:aG} {f:aO→List (Int×Int)} (d:aO):(fL l w r f).filter (fun x=>decide (x.Device=d))=if d∈mE l r.ax then (f d).flatMap (fun t=>kS w (kY d r.Key t)) else []:=by
 unfold fL
 refine Cc d (mE l r.ax) (RH l r.ax) fun a _ x hx=>?_
 obtain ⟨t,_,ht⟩:=List.mem_flatMap.1 hx
 exact (AH ht).1
theorem RJ {l:List ao} {w:aE} {r:aG} {f:aO→List (Int×Int)} {s:ah} (h:s∈fL l w r f):s.aT < s.To∧s.Device∈sO l:=by
 unfold fL at h
 obtain ⟨d,hd,h⟩:=List.mem_flatMap.1 h
 obtain ⟨t,_,ht⟩:=List.mem_flatMap.1 h
 have:=AH ht
 refine ⟨this.2.2.1,?_⟩
 rw [this.1]
 obtain ⟨x,hx,_,h2⟩:=(PG l r.ax d).1 hd
 exact (Ez l d).2 ⟨x,hx,h2⟩
theorem PH {l:List ao} (hl:l.length≤40) {w:aE} {r:aG} {f:aO→List (Int×Int)} (hf:FD r l f) (d:aO):((fL l w r f).filter (fun x=>decide (x.Device=d))).length≤161:=by
 rw [Cd]
 split
 ·have h1:=jq (fun t=>kS w (kY d r.Key t)) 1 (f d) (fun x _=>by unfold kS;split<;>simp)
  have h2:=hf.len d
  omega
 ·simp
theorem PI (k:Int) (d:aO) (L:List ah):(pA k d L).length=2 * (L.filter (fun x=>decide (x.Device=d))).length:=by
 unfold pA
 generalize L.filter (fun x=>decide (x.Device=d))=X
 induction X with
 | nil=>rfl
 | cons y Y ih=>rw [List.flatMap_cons,List.length_append,ih,List.length_cons];simp only [List.length_cons,List.length_nil];omega
theorem Bv (d:aO):∀ (ls:List (List ah)) (k:Int),(gw d k ls).length=2 * (ls.flatten.filter (fun x=>decide (x.Device=d))).length
 | [],_=>rfl
 | L :: r,k=>by
   unfold gw
   rw [List.length_append,Bv d r (k+1),PI,List.flatten_cons,List.filter_append,List.length_append]
   omega
def RL (l:List ao) (w:aE) (X:List (aG×(aO→List (Int×Int)))):List (List ah):=X.map fun x=>fL l w x.1 x.2
theorem Lz {l:List ao} (hl:l.length≤40) (w:aE) (d:aO):∀ X:List (aG×(aO→List (Int×Int))),(∀ x∈X,FD x.1 l x.2)→((RL l w X).flatten.filter (fun x=>decide (x.Device=d))).length≤161 * X.length
 | [],_=>by simp [RL]
 | x :: X,h=>by
   have ih:=Lz hl w d X fun y hy=>h y (by simp [hy])
   have h1:=PH (w:=w) hl (h x (by simp)) d
   have e:(RL l w (x :: X)).flatten=fL l w x.1 x.2++(RL l w X).flatten:=rfl
   rw [e,List.filter_append,List.length_append,List.length_cons]
   omega
theorem LA {l:List ao} (hl:l.length≤40) (w:aE) {X:List (aG×(aO→List (Int×Int)))} (hX:X.length≤4) (h:∀ x∈X,FD x.1 l x.2):Uv (RL l w X) (sO l):=by
 refine ⟨by unfold RL;rw [List.length_map];exact hX,fun L hL=>?_,fun d=>?_,fun L hL s hs=>?_,Hs l,by have:=AG l;omega⟩
 ·obtain ⟨x,hx,rfl⟩:=List.mem_map.1 hL
  have:=I8 (w:=w) hl (h x hx)
  omega
 ·rw [Bv]
  have:=Lz hl w d X h
  omega
 ·obtain ⟨x,hx,rfl⟩:=List.mem_map.1 hL
  exact RJ hs
theorem Bw {A B:List ah} (h:A.Perm B) (d:aO) (t:Int):ki A d t=ki B d t:=by
 unfold ki
 rw [(h.filter _).length_eq]
theorem Jm (A B:List ah) (d:aO) (t:Int):ki (A++B) d t=ki A d t+ki B d t:=by
 unfold ki
 rw [List.filter_append,List.length_append]
 omega
theorem Dc (A:List ah) (d:aO) (t:Int):0≤ki A d t∧ki A d t≤A.length:=by
 unfold ki
 have:=List.length_filter_le (fun s=>decide (s.Device=d∧s.aT≤t∧t < s.To)) A
 omega
theorem F1 (w:aE) (d k:aO) (t:Int):∀ ws:List (Int×Int),ws.Pairwise (fun a b=>a.2 < b.1)→(∀ x∈ws,x.1 < x.2)→ki (ws.flatMap (fun x=>kS w (kY d k x))) d t≤1∧(0 < ki (ws.flatMap (fun x=>kS w (kY d k x))) d t→∃ x∈ws,x.1≤t∧t < x.2)
 | [],_,_=>by simp [ki]
 | x :: ws,hp,ho=>by
   obtain ⟨p1,p2⟩:=List.pairwise_cons.1 hp
   obtain ⟨i1,i2⟩:=F1 w d k t ws p2 fun y hy=>ho y (by simp [hy])
   have hn:=Dc (ws.flatMap (fun x=>kS w (kY d k x))) d t
   rw [List.flatMap_cons,Jm]
   have hc:ki (kS w (kY d k x)) d t≤1∧0≤ki (kS w (kY d k x)) d t∧(0 < ki (kS w (kY d k x)) d t→x.1≤t∧t < x.2):=by
    refine ⟨?_,(Dc _ _ _).1,fun h=>?_⟩
    ·have h1:=(Dc (kS w (kY d k x)) d t).2
     have h2:(kS w (kY d k x)).length≤1:=by unfold kS;split<;>simp
     omega
    ·unfold ki at h
     obtain ⟨s,hs⟩:=List.exists_mem_of_length_pos (show 0 < ((kS w (kY d k x)).filter (fun s=>decide (s.Device=d∧s.aT≤t∧t < s.To))).length by omega)
     rw [List.mem_filter] at hs
     have g:=of_decide_eq_true hs.2
     have m:=AH hs.1
     have m1:x.1≤s.aT:=m.2.2.2.1
     have m2:s.To≤x.2:=m.2.2.2.2
     omega
   obtain ⟨c1,c2,c3⟩:=hc
   by_cases q:0 < ki (kS w (kY d k x)) d t
   ·have hx:=c3 q
    have:¬ 0 < ki (ws.flatMap (fun x=>kS w (kY d k x))) d t:=fun z=>by
     obtain ⟨y,hy,y1,y2⟩:=i2 z
     have:=p1 y hy
     omega
    exact ⟨by omega,fun _=>⟨x,by simp,hx⟩⟩
   ·refine ⟨by omega,fun z=>?_⟩
    obtain ⟨y,hy,y1⟩:=i2 (by omega)
    exact ⟨y,by simp [hy],y1⟩
theorem PJ (L:List ah) (d:aO) (t:Int):ki L d t=ki (L.filter (fun x=>decide (x.Device=d))) d t:=by
 unfold ki
 rw [List.filter_filter]
 congr 2
 refine List.filter_congr fun x _=>?_
 by_cases c:x.Device=d
 ·simp [c]
 ·simp [c]
theorem EA {l:List ao} {w:aE} {r:aG} (hr:vH r) {f:aO→List (Int×Int)} (hf:FD r l f) (d:aO) (t:Int):0≤ki (fL l w r f) d t∧ki (fL l w r f) d t≤1:=by
 refine ⟨(Dc _ _ _).1,?_⟩
 rw [PJ,Cd]
 split
 ·obtain ⟨a1,a2⟩:=(Jd (by decide) hr.hold.1 hr.rest.1 (hf.fr d)).2 rfl
  exact (F1 w d r.Key t (f d) a1 fun x hx=>(a2 x hx).1).1
 ·simp [ki]
theorem Jn {d:aO} {t:Int}:∀ (ls:List (List ah)) (k:Int),t∈(gw d k ls).map aq.at_→∃ L∈ls,∃ s∈L,s.Device=d∧(t=s.aT∨t=s.To)
 | [],_,h=>by cases h
 | L :: r,k,h=>by
   unfold gw at h
   rw [List.map_append,List.mem_append] at h
   rcases h with h | h
   ·rw [← Jj] at h
    obtain ⟨s,hs,g⟩:=List.mem_flatMap.1 h
    unfold Nb at g
    split at g
    ·rename_i q
     simp only [List.mem_cons,List.not_mem_nil,or_false] at g
     exact ⟨L,by simp,s,hs,q,g⟩
    ·cases g
   ·obtain ⟨X,hX,g⟩:=Jn r (k+1) h
    exact ⟨X,by simp [hX],g⟩
theorem Ce {ls Jo:List (List ah)} {D:List aO} (h:Uv ls D) {nv:List Int→aO×Bool} (h0:zB (nv (ls.map (fun _=>(0:Int))))=none) (w:aE) (hp:Jo.flatten.Perm ls.flatten) (hn:Jo.length≤10) (hl:∀ L∈Jo,L.length≤100000)
 {mK:aO→Int→Option (aO×Bool)} (hG:∀ d∈D,∀ t,∃ y,mK d t=some y∧zB y=HI nv ls d t) {Z:List ah} (hz:Z.Perm (D.flatMap (sM w nv ls))) (hs:qV JE Z):gSp D w Jo mK=some Z:=by
 have hE:∀ d,(gw d 0 Jo).length≤1300:=fun d=>by
  have:=h.Yp d
  rw [Bv] at this ⊢
  rw [(hp.filter _).length_eq]
  exact this
 have Uz:∀ d,Hk (HI nv ls d) (yU w Jo d):=fun d=>by
  obtain ⟨r1,r2⟩:=Lr (w.aT :: w.To :: (gw d 0 Jo).map aq.at_)
  refine Hl h.lt h0 r1 fun t ht=>(r2 t).2 (List.mem_cons_of_mem _ (List.mem_cons_of_mem _ ?_))
  obtain ⟨L,hL,s,hs,g1,g2⟩:=Jn ls 0 ht
  obtain ⟨L',Yi,xa⟩:=List.mem_flatten.1 (hp.mem_iff.2 (List.mem_flatten.2 ⟨L,hL,hs⟩))
  obtain ⟨m1,m2⟩:=AF xa g1 Jo 0 Yi
  rcases g2 with rfl | rfl
  ·exact m1
  ·exact m2
 have Xg:∀ d,mG d (HI nv ls d) [] (yU w Jo d)=sM w nv ls d:=fun d=>(Uz d).uniq (xY h.lt h0 w d) d
 have k:=SL (mK:=mK) (w:=w) (ls:=Jo) (Cf:=yU w Jo) (Gf:=HI nv ls) h.nd h.Dl (fun d _=>⟨MP d w Jo hn (fun L hL=>by have:=hl L hL;omega) (by have:=hE d;omega),by have:=Bs w Jo d;have:=hE d;omega⟩) hG (fun d _=>⟨by
  have:=((Uz d).ok d).2.2
  have:=Bs w Jo d
  have:=hE d
  omega,fun x hx=>(((Uz d).ok d).1.ok x hx).2⟩) D [] rfl
 have e:(D.flatMap fun d=>mG d (HI nv ls d) [] (yU w Jo d))=D.flatMap (sM w nv ls):=by
  congr 1
  funext d
  exact Xg d
 rw [e] at k
 unfold gSp
 refine Eq.trans k (Xp ?_ (Lx h.lt h0 D) hz hs)
 have Jz:=jq (sM w nv ls) 1302 D (fun d _=>xZ h h0 w d)
 have:=Nat.mul_le_mul_left 1302 h.Dl
 omega
theorem UA {a b:List ah} (h:a.length≤100000):cG a b=some (decide (a=b)):=FC a b (by omega)
theorem Ks (xs:List Int) (h:(xs.length:Int)≤1000):iI xs=some (mA xs):=xM xs (by omega)
theorem UB (xs:List Int) (h:(xs.length:Int)≤1000):nf xs=some (mA xs):=xM xs (by omega)
theorem vk {l:List ao} (hs:AS l) (hl:l.length≤40) (w:aE) {rs:List aG} (hr:∀ r∈rs,vH r∧r.ax≠[]) (hn:rs.length≤10):∃ F:aG→aO→List (Int×Int),(∀ r∈rs,FD r l (F r))∧∃ Z,Z.Perm (rs.flatMap fun r=>fL l w r (F r))∧Z.length≤80000∧np rs l w=some Z:=by
 obtain ⟨F,hF,_,Z,z0,z1,_,z3⟩:=xW hs hl w hr hn
 obtain ⟨Z',y0,y1,y2⟩:=I9 hs hl w hr hn
 rw [z3] at y1
 have:Z=Z':=by simpa using y1
 subst this
 exact ⟨F,hF,Z,z1,z0,y2⟩
def Kt (p q:aG) (v:List Int):aO×Bool:=match v with
 | [a,b]=>if 0 < a∧b=0 then (p.Key,true) else if 0 < b∧a=0 then (q.Key,true) else ([],false)
 | _=>([],false)
theorem Ku (p q:aG) {v:List Int} (hv:v.length=2):lp v p q=some (Kt p q v):=by
 match v,hv with
 | [a,b],_=>
   have i0:idx [a,b] (0:Int)=some a:=rfl
   have i1:idx [a,b] (1:Int)=some b:=rfl
   have j2:∀ c:Bool,jf q c=some (if c=true then (q.Key,true) else ([],false)):=fun c=>by
    unfold jf
    split<;>rfl
   unfold lp Kt kK
   rw [i0,i1]
   simp only [Option.bind_some,j2]
   by_cases h1:0 < a<;>by_cases h2:b=0<;>by_cases h3:0 < b<;>by_cases h4:a=0<;>first | (exfalso;omega) | simp [h1,h2,h3,h4]
theorem Kv (p q:aG) {A B:List ah} (hA:(A.length:Int)≤100000) (hB:(B.length:Int)≤100000) (d:aO) (t:Int):jG d t A B p q=some (if ki B d t < ki A d t then (p.Key,true) else (q.Key,decide (ki A d t < ki B d t))):=by
 unfold jG
 rw [Bt A hA,Bt B hB]
 simp only [Option.bind_some]
 split<;>rfl
theorem Jp {p q:aG} (hp:vH p∧p.ax≠[]) (hq:vH q∧q.ax≠[]) {l:List ao} (hs:AS l) (hl:l.length≤40) (w:aE):∃ A B A' B' Z,jU p l=some A∧nj A w=some A'∧jU q l=some B∧nj B w=some B'∧fE [A',B'] p q=some Z∧Z.length≤100000∧mw p q l w=some Z:=by
 obtain ⟨F,hF,U,u1,u2,u3⟩:=vk hs hl w (rs:=[p]) (by simpa using hp) (by simp)
 obtain ⟨G,hG,V,v1,v2,v3⟩:=vk hs hl w (rs:=[q]) (by simpa using hq) (by simp)
 have hf:=hF p (by simp)
 have hg:=hG q (by simp)
 obtain ⟨A,a1,a2⟩:=yj hs hl hf w
 obtain ⟨B,b1,b2⟩:=yj hs hl hg w
 have u1':U.Perm (fL l w p (F p)):=by simpa using u1
 have v1':V.Perm (fL l w q (G q)):=by simpa using v1
 have hX:∀ x∈[(p,F p),(q,G q)],FD x.1 l x.2:=fun x hx=>by
  simp only [List.mem_cons,List.not_mem_nil,or_false] at hx
  rcases hx with rfl | rfl
  ·exact hf
  ·exact hg
 have MQ:=LA hl w (X:=[(p,F p),(q,G q)]) (by simp) hX
 have e:RL l w [(p,F p),(q,G q)]=[fL l w p (F p),fL l w q (G q)]:=rfl
 rw [e] at MQ
 have h0:zB (Kt p q ([fL l w p (F p),fL l w q (G q)].map (fun _=>(0:Int))))=none:=by
  simp [Kt,zB]
 obtain ⟨Z,z1,z2,z3⟩:=Ew MQ (mK:=fun v=>lp v p q) (nv:=Kt p q) (fun v hv=>Ku p q hv) h0 w
 have hZl:Z.length≤60000:=by
  rw [z2.length_eq]
  have Jz:=jq (sM w (Kt p q) [fL l w p (F p),fL l w q (G q)]) 1302 (sO l) (fun d _=>xZ MQ h0 w d)
  have:=Nat.mul_le_mul_left 1302 MQ.Dl
  omega
 refine ⟨A,B,_,_,Z,a1,a2,b1,b2,z1,by omega,?_⟩
 unfold mw
 rw [u3,v3,x4 l (by omega)]
 simp only [Option.bind_some]
 have k:=Ce MQ h0 w (Jo:=[U,V]) (by
  show (U++(V++[])).Perm (fL l w p (F p)++(fL l w q (G q)++[]))
  rw [List.append_nil,List.append_nil]
  exact u1'.append v1') (by simp) (fun L hL=>by
   simp only [List.mem_cons,List.not_mem_nil,or_false] at hL
   rcases hL with rfl | rfl<;>omega) (mK:=fun d t=>jG d t U V p q) (fun d _ t=>by
   refine ⟨_,Kv p q (by omega) (by omega) d t,?_⟩
   have c1:=EA (w:=w) hp.1 hf d t
   have c2:=EA (w:=w) hq.1 hg d t
   rw [Bw u1',Bw v1']
   unfold HI Kt zB
   simp only [List.map_cons,List.map_nil]
   generalize ki (fL l w p (F p)) d t=a at c1
   generalize ki (fL l w q (G q)) d t=b at c2
   have ha:a=0∨a=1:=by omega
   have hb:b=0∨b=1:=by omega
   rcases ha with rfl | rfl<;>rcases hb with rfl | rfl<;>simp) z2 z3
 rw [show fo (sO l) w [U,V] U V p q=some Z from k]
 rfl
theorem MR (p q:aG) {l:List ao} (hl:l.length≤40) (w:aE):∃ Z,rV p q l w=some (Z,mA [gN [p],gN [q],iE l,lz w])∧(if mA [gN [p],gN [q],iE l,lz w]=0 then Z.length≤100000∧mw p q l w=some Z else Z=[]):=by
 have e:mA [gN [p],gN [q],mA [gN [],iE l,lz w]]=mA [gN [p],gN [q],iE l,lz w]:=by
  have:gN []=0:=rfl
  rw [this]
  by_cases h1:gN [p]=0<;>by_cases h2:gN [q]=0<;>by_cases h3:iE l=0<;>by_cases h4:lz w=0<;>simp [mA,h1,h2,h3,h4]
 unfold rV
 rw [oH,oH,Bq]
 simp only [Option.bind_some]
 rw [UB _ (by simp),e]
 simp only [Option.bind_some]
 by_cases h:mA [gN [p],gN [q],iE l,lz w]=0
 ·rw [if_neg (by omega)]
  have hz:gN [p]=0∧gN [q]=0∧iE l=0:=by
   by_cases h1:gN [p]=0
   ·by_cases h2:gN [q]=0
    ·by_cases h3:iE l=0
     ·exact ⟨h1,h2,h3⟩
     ·simp [mA,h1,h2,h3] at h
    ·simp [mA,h1,h2] at h
   ·simp [mA,h1] at h
  have hs:AS l:=Ei hz.2.2
  obtain ⟨A,B,A',B',Z,a1,a2,b1,b2,z1,z2,z3⟩:=Jp ((tz hz.1).1 p (by simp)) ((tz hz.2.1).1 q (by simp)) hs hl w
  refine ⟨Z,?_,by rw [if_pos h];exact ⟨z2,z3⟩⟩
  rw [a1]
  simp only [Option.bind_some]
  rw [a2]
  simp only [Option.bind_some]
  rw [b1]
  simp only [Option.bind_some]
  rw [b2]
  simp only [Option.bind_some]
  rw [z1,h]
  rfl
 ·rw [if_pos h]
  exact ⟨[],rfl,by rw [if_neg h]⟩
def MS (n:Int) (v:List Int):aO×Bool:=([],decide (n≤v.foldl (fun a x=>aU (a+x)) 0))
theorem Kw (n:Int) {v:List Int} (hv:v.length≤4):lu v n=some (MS n v):=by
 unfold lu uN
 refine (lS (A:=aO×Bool) v (fun s i=>(s,i)) (fun x:Int×Int=>ey v n x.1 x.2) (fun a x=>aU (a+x)) (fun _ _=>True) (fun a=>some ([],decide (n≤a))) (fun s i x h0 h1 hx _=>?_) (fun s _=>?_) 0 trivial).trans rfl
 ·refine ⟨?_,trivial⟩
  show ey v n s i=_
  unfold ey
  rw [if_pos h1,hx]
  simp only [Option.bind_some]
  rw [aP (x:=i+1) (by omega) (by omega)]
 ·show ey v n s v.length=_
  unfold ey
  rw [if_neg (by omega)]
theorem Kx:∀ (v:List Int) (a:Int),(∀ x∈v,0≤x∧x≤1)→0≤a→a+v.length≤1000→v.foldl (fun a x=>aU (a+x)) a=a+v.sum
 | [],a,_,_,_=>by simp
 | x :: v,a,h,h0,h1=>by
   have hx:=h x (by simp)
   rw [List.length_cons] at h1
   rw [List.foldl_cons,aP (by omega) (by omega),Kx v (a+x) (fun y hy=>h y (by simp [hy])) (by omega) (by omega),List.sum_cons]
   omega
theorem F2 (d:aO) (t:Int):∀ ls:List (List ah),ki ls.flatten d t=(ls.map (fun L=>ki L d t)).sum
 | []=>rfl
 | L :: r=>by rw [List.flatten_cons,Jm,F2 d t r,List.map_cons,List.sum_cons]
theorem Jq {rs:List aG} (hr:∀ r∈rs,vH r∧r.ax≠[]) (hn:rs.length≤4) {n:Int} (MT:1≤n) {l:List ao} (hs:AS l) (hl:l.length≤40) (w:aE):∃ Z,tW rs n l w [] 0=some (Z,0)∧Z.length≤100000∧qQ rs n l w=some Z:=by
 obtain ⟨F,hF,U,u1,u2,u3⟩:=vk hs hl w hr (by omega)
 have hX:∀ x∈rs.map (fun r=>(r,F r)),FD x.1 l x.2:=fun x hx=>by
  obtain ⟨r,hr,rfl⟩:=List.mem_map.1 hx
  exact hF r hr
 have MQ:=LA hl w (X:=rs.map (fun r=>(r,F r))) (by rw [List.length_map];exact hn) hX
 have e:RL l w (rs.map (fun r=>(r,F r)))=rs.map (fun r=>fL l w r (F r)):=by
  unfold RL
  rw [List.map_map]
  rfl
 rw [e] at MQ
 obtain ⟨ls,Tr⟩:∃ ls,ls=rs.map (fun r=>fL l w r (F r)):=⟨_,rfl⟩
 rw [← Tr] at MQ
 have Z7:ls.length=rs.length:=by rw [Tr,List.length_map]
 have h0:zB (MS n (ls.map (fun _=>(0:Int))))=none:=by
  unfold MS zB
  rw [Kx _ 0 (fun x hx=>by
   obtain ⟨_,_,rfl⟩:=List.mem_map.1 hx
   decide) (Int.le_refl _) (by rw [List.length_map];omega)]
  have:(ls.map (fun _=>(0:Int))).sum=0:=by
   clear MQ Tr Z7
   induction ls with
   | nil=>rfl
   | cons x ls ih=>rw [List.map_cons,List.sum_cons,ih];rfl
  rw [this,if_neg (by simp;omega)]
 obtain ⟨Z,z1,z2,z3⟩:=Ew MQ (mK:=fun v=>lu v n) (nv:=MS n) (fun v hv=>Kw n (by omega)) h0 w
 have hZl:Z.length≤60000:=by
  rw [z2.length_eq]
  have Jz:=jq (sM w (MS n) ls) 1302 (sO l) (fun d _=>xZ MQ h0 w d)
  have:=Nat.mul_le_mul_left 1302 MQ.Dl
  omega
 have hfm:ls.flatten=rs.flatMap fun r=>fL l w r (F r):=by rw [Tr];rfl
 refine ⟨Z,?_,by omega,?_⟩
 ·unfold tW
  refine (jg rs (fun s i=>(s,i)) (fun x:(List (List ah))×Int=>gH rs n l w x.1 x.2) (fun r=>[fL l w r (F r)]) 1 0 (pY n) (fun r _=>by simp) (by omega) (fun s i r h0 h1 hd Dr Sy=>?_) (fun s Dr=>?_) [] (by simp)).trans ?_
  ·show gH rs n l w s i=_
   rw [gH,if_pos h1,hd]
   simp only [Option.bind_some]
   obtain ⟨L,e1,e2⟩:=yj hs hl (hF r Sy) w
   rw [show tc r l=some L from e1]
   simp only [Option.bind_some]
   rw [show wa L w=some (fL l w r (F r)) from e2]
   simp only [Option.bind_some]
   rw [fR (by simp;omega),aP (x:=i+1) (by omega) (by omega)]
   rfl
  ·show gH rs n l w s rs.length=_
   rw [gH,if_neg (by omega)]
  ·have e2:([]:List (List ah))++rs.flatMap (fun r=>[fL l w r (F r)])=ls:=by
    rw [Tr,List.nil_append]
    exact List.map_eq_flatMap.symm
   rw [e2]
   unfold pY
   rw [show fJ ls n=some Z from z1]
   rfl
 ·unfold qQ
  rw [u3,x4 l (by omega)]
  simp only [Option.bind_some]
  have k:=Ce MQ h0 w (Jo:=[U]) (by
   show (U++[]).Perm ls.flatten
   rw [List.append_nil,hfm]
   exact u1) (by simp) (fun L hL=>by
    rw [List.mem_singleton] at hL
    subst hL
    omega) (mK:=fun d t=>mx d t U n) (fun d _ t=>by
    refine ⟨([],decide (n≤ki U d t)),?_,?_⟩
    ·show mx d t U n=_
     unfold mx
     rw [Bt U (by omega)]
     rfl
    ·unfold HI MS
     rw [Kx _ 0 (fun x hx=>by
      obtain ⟨L,hL,rfl⟩:=List.mem_map.1 hx
      rw [Tr] at hL
      obtain ⟨r,US,rfl⟩:=List.mem_map.1 hL
      exact EA (hr r US).1 (hF r US) d t) (Int.le_refl _) (by rw [List.length_map];omega),Bw u1,← hfm,F2,Int.zero_add]) z2 z3
  rw [show gp (sO l) w [U] U n=some Z from k]
  rfl
def SO (rs:List aG) (n:Int) (l:List ao) (w:aE):Int:=mA [gN rs,iE l,if n < 1∨100 < n then 1 else 0,lz w]
theorem MU (rs:List aG) (hn:rs.length≤4) (n:Int) {l:List ao} (hl:l.length≤40) (w:aE):∃ Z,sh rs n l w=some (Z,SO rs n l w)∧(if SO rs n l w=0 then Z.length≤100000∧qQ rs n l w=some Z else Z=[]):=by
 unfold sh SO
 rw [oH,show cU l=some (iE l) from oU l]
 simp only [Option.bind_some]
 rw [UB _ (by simp)]
 simp only [Option.bind_some]
 by_cases h1:gN rs=0
 ·by_cases h2:iE l=0
  ·rw [h1,h2,if_neg (by decide),uV,wv]
   unfold pZ
   by_cases h3:n < 1∨100 < n
   ·rw [if_pos h3,if_pos (by simp [h3])]
    exact ⟨[],rfl,by rw [if_neg (by simp [mA])]⟩
   ·rw [if_neg h3]
    by_cases h4:zw w=true
    ·rw [if_neg (by simp [h3,h4])]
     have hw:lz w=0:=by unfold lz;rw [if_pos h4]
     obtain ⟨Z,z1,z2,z3⟩:=Jq (tz h1).1 hn (n:=n) (by omega) (Ei h2) hl w
     rw [hw]
     exact ⟨Z,z1,by rw [if_pos (by decide)];exact ⟨z2,z3⟩⟩
    ·have hw:lz w=1:=by unfold lz;rw [if_neg h4]
     rw [if_pos (by simp [h4]),hw]
     exact ⟨[],rfl,by rw [if_neg (by decide)]⟩
  ·have e:mA [gN rs,iE l]≠0:=by simp [mA,h1,h2]
   have e2:mA [gN rs,iE l,if n < 1∨100 < n then 1 else 0,lz w]=mA [gN rs,iE l]:=by simp [mA,h1,h2]
   rw [if_pos e,e2]
   exact ⟨[],rfl,by rw [if_neg e]⟩
 ·have e:mA [gN rs,iE l]≠0:=by simp [mA,h1]
  have e2:mA [gN rs,iE l,if n < 1∨100 < n then 1 else 0,lz w]=mA [gN rs,iE l]:=by simp [mA,h1]
  rw [if_pos e,e2]
  exact ⟨[],rfl,by rw [if_neg e]⟩
theorem AJ {α A X:Type} (xs:List α) (mk:Int→Int→X) (f:X→Option (X⊕A)) (g:α→Nat) (B:Nat) (K:Int) (E:Int→Option A) (hB:∀ x∈xs,g x≤B)
 (h1:∀ n (i:Int) x,0≤i→i < xs.length→idx xs i=some x→x∈xs→0≤n→n≤K+B * xs.length→f (mk n i)=some (.inl (mk (n+g x) (i+1))))
 (h2:∀ n,0≤n→n≤K+B * xs.length→f (mk n xs.length)=Option.map .inr (E n)) (n:Int) (h0:0≤n∧n≤K):iter f (mk n 0)=E (n+((xs.map g).sum:Nat)):=by
 have O8:∀ i:Int,0≤i→i≤xs.length→(B:Int) * i≤B * xs.length:=fun i _ hi=>Int.mul_le_mul_of_nonneg_left hi (by omega)
 have main:=lS (A:=A) xs mk f (fun n x=>n+(g x:Int)) (fun i n=>0≤n∧n≤K+B * i) E
  (fun s i x i0 i1 hx hv=>⟨h1 s i x i0 i1 hx (ry hx) hv.1 (by have:=O8 i i0 (by omega);omega),by
   have:=hB x (ry hx)
   rw [Int.mul_add];omega⟩)
  (fun s hv=>h2 s hv.1 hv.2) n (by simpa using h0)
 rw [main]
 congr 1
 have:∀ (ys:List α) (a:Int),ys.foldl (fun n x=>n+(g x:Int)) a=a+((ys.map g).sum:Nat):=by
  intro ys
  induction ys with
  | nil=>intro a;simp
  | cons y ys ih=>intro a;rw [List.foldl_cons,ih,List.map_cons,List.sum_cons];omega
 exact this xs n
theorem Ky {α:Type} (g:α→Nat) (B:Nat):∀ (l:List α),(∀ x∈l,g x≤B)→(l.map g).sum≤B * l.length
 | [],_=>by simp
 | x :: r,h=>by
   have h1:=h x (by simp)
   have h2:=Ky g B r (fun y hy=>h y (List.mem_cons_of_mem _ hy))
   rw [List.map_cons,List.sum_cons,List.length_cons,Nat.mul_add];omega
theorem Jr {α β:Type} (g:β→Nat) (h:α→List β):∀ (l:List α),((l.flatMap h).map g).sum=(l.map (fun x=>((h x).map g).sum)).sum
 | []=>by simp
 | x :: r=>by rw [List.flatMap_cons,List.map_append,List.sum_append,Jr g h r,List.map_cons,List.sum_cons]
def RM (w:aE) (t:Int):Nat:=if w.aT≤t∧t < w.To then 1 else 0
theorem Kz (w:aE) (t:Int):RM w t≤1:=by unfold RM;split<;>omega
def UC (l:List ao) (w:aE) (r:aG) (f:aO→List (Int×Int)):Nat:=((mE l r.ax).map (fun d=>((f d).map (fun t=>RM w t.1)).sum)).sum
theorem PK {r:aG} {l:List ao} (hs:AS l) (hl:l.length≤40) {f:aO→List (Int×Int)} (hf:FD r l f) (w:aE):qR r l w=some ((UC l w r f:Nat):Int):=by
 have P6:=vJ l r.ax
 have hlen:=jq (fun d=>(f d).map (kY d r.Key)) 161 (mE l r.ax) (fun d _=>by
  rw [List.length_map];have h2:=hf.len d;omega)
 have h3:=Nat.mul_le_mul_left 161 (Nat.le_trans P6 hl)
 unfold qR
 rw [I7 hs hf]
 simp only [Option.bind_some]
 generalize hV:((mE l r.ax).flatMap fun d=>(f d).map (kY d r.Key))=V at *
 unfold yK
 refine (AJ V (fun n i=>(n,i)) (fun x:Int×Int=>iO w V x.1 x.2) (fun s=>RM w s.aT) 1 0 (fun n=>some n) (fun _ _=>Kz _ _) (fun n i s h0 h1 hx _ O0 MT=>?_) (fun n O0 MT=>?_) 0 (by omega)).trans ?_
 ·show iO w V n i=_
  rw [iO,if_pos h1,hx]
  simp only [Option.bind_some]
  unfold rm oA RM
  rw [aP (x:=i+1) (by omega) (by omega),aP (x:=n+1) (by omega) (by omega)]
  by_cases h:w.aT≤s.aT∧s.aT < w.To
  ·rw [if_pos h,if_pos (by simpa using h)];rfl
  ·rw [if_neg h,if_neg (by simpa using h)];simp
 ·show iO w V n V.length=_
  rw [iO,if_neg (by omega)]
 ·rw [Int.zero_add,← hV,Jr]
  unfold UC
  simp only [List.map_map]
  rfl
theorem KA {r:aG} (hr:vH r) (hm:r.ax≠[]) {l:List ao} (hs:AS l) (hl:l.length≤40) {f:aO→List (Int×Int)} (hf:FD r l f) {w:aE} (hw:zw w=true):qS r l w=some ((UC l w r f:Nat):Int):=by
 have P6:=vJ l r.ax
 have hwB:0≤w.To∧w.To≤345686400000:=by
  unfold zw at hw
  simp only [Bool.and_eq_true,decide_eq_true_eq] at hw
  omega
 unfold qS
 rw [Ap l hs.len hm]
 simp only [Option.bind_some]
 unfold z7
 refine (AJ (mE l r.ax) (fun n i=>(n,i)) (fun x:Int×Int=>jx r l w (mE l r.ax) x.1 x.2) (fun d=>((f d).map (fun t=>RM w t.1)).sum) 161 0 (fun n=>some n) (fun d _=>?_) (fun n i d h0 h1 hx _ O0 MT=>?_) (fun n O0 MT=>?_) 0 (by omega)).trans ?_
 ·have h1:=Ky (fun t:Int×Int=>RM w t.1) 1 (f d) (fun _ _=>Kz _ _)
  have h2:=hf.len d
  omega
 ·show jx r l w (mE l r.ax) n i=_
  rw [jx,if_pos h1,hx]
  simp only [Option.bind_some]
  rw [Pa hr hs hf d]
  simp only [Option.bind_some]
  unfold z6
  have Jz:=hf.len d
  refine (AJ ((f d).map yR) (fun n j=>(n,j)) (fun x:Int×Int=>jw w i ((f d).map yR) x.1 x.2) (fun t=>RM w t.aT) 1 10000 (fun n=>some (.inl (n,i+1))) (fun _ _=>Kz _ _) (fun n j t j0 j1 ht _ O0 MT=>?_) (fun n O0 MT=>?_) n (by omega)).trans ?_
  ·show jw w i ((f d).map yR) n j=_
   rw [List.length_map] at MT
   rw [jw,if_pos j1,ht]
   simp only [Option.bind_some]
   rw [List.length_map] at j1
   unfold qe RM
   rw [aP (x:=j+1) (by omega) (by omega),aP (x:=n+1) (by omega) (by omega),aP (x:=w.To - 1) (by omega) (by omega),Bm]
   by_cases h:w.aT≤t.aT∧t.aT < w.To
   ·rw [if_pos h,if_pos (by simp;omega)];rfl
   ·rw [if_neg h,if_neg (by simp;omega)];simp
  ·show jw w i ((f d).map yR) n ((f d).map yR).length=_
   rw [jw,if_neg (by omega),aP (x:=i+1) (by omega) (by omega)]
  ·rw [List.map_map];rfl
 ·show jx r l w (mE l r.ax) n (mE l r.ax).length=_
  rw [jx,if_neg (by omega)]
 ·rw [Int.zero_add];rfl
theorem KB {r:aG} (hr:vH r) (hm:r.ax≠[]) {l:List ao} (hs:AS l) (hl:l.length≤40) {w:aE} (hw:zw w=true):∃ n,qR r l w=some n∧qS r l w=some n:=by
 obtain ⟨f,hf⟩:=O9 hr hs
 exact ⟨_,PK hs hl hf w,KA hr hm hs hl hf hw⟩
theorem RN {a b:Int} (ha:0≤a) (hb:0≤b):xB a b=some ((Nat.gcd a.natAbs b.natAbs:Nat):Int):=by
 unfold xB B1
 refine Lj _ (fun s:Int×Int=>s.2.natAbs) (fun s:Int×Int=>0≤s.1∧0≤s.2∧Nat.gcd s.1.natAbs s.2.natAbs=Nat.gcd a.natAbs b.natAbs) _ ?_ _ ⟨ha,hb,rfl⟩
 rintro ⟨x,y⟩ ⟨h0,h1,h2⟩
 simp only at h0 h1 h2 ⊢
 unfold sj
 by_cases hy:y=0
 ·rw [if_neg (by simpa using hy)]
  right
  rw [hy] at h2
  simp only [Int.natAbs_zero,Nat.gcd_zero_right] at h2
  rw [← h2]
  simp only [Option.map_some,Option.some.injEq,Sum.inr.injEq]
  omega
 ·rw [if_pos hy,Kb hy]
  left
  have lh:=Int.tmod_lt_of_pos x (show 0 < y by omega)
  have UH:=Int.tmod_nonneg y h0
  exact ⟨_,rfl,⟨h1,UH,by simp only;rw [FP hy];exact h2⟩,by simp only;omega⟩
theorem Ht {n d:Int} (hn:-9000000000000000000≤n∧n≤9000000000000000000) (hd:0 < d∧d≤9000000000000000000):oz n d=pR n d:=by
 rw [O5 hn hd]
 unfold oz rW
 have e1:max n (aU (-n))=(n.natAbs:Int):=by rw [aP (by omega) (by omega)];omega
 rw [e1,RN (by omega) (by omega)]
 simp only [Option.bind_some,Int.natAbs_natCast]
def JF (w:aE) (t:Int×Int):Nat:=(min t.2 w.To - max t.1 w.aT).toNat
theorem F3 {α A X:Type} (xs:List α) (mk:Int→Int→X) (f:X→Option (X⊕A)) (g:α→Nat) (B:Nat) (E:Int→Option A) (hB:∀ x∈xs,g x≤B)
 (h1:∀ n (i:Int) x,0≤i→i < xs.length→idx xs i=some x→x∈xs→0≤n→n≤(B:Int) * xs.length→f (mk n i)=some (.inl (mk (n+g x) (i+1))))
 (h2:∀ n,0≤n→n≤(B:Int) * xs.length→f (mk n xs.length)=Option.map .inr (E n)):iter f (mk 0 0)=E ((xs.map g).sum:Nat):=by
 have:=AJ xs mk f g B 0 E hB (fun n i x a b c d e k=>h1 n i x a b c d e (by omega)) (fun n a b=>h2 n a (by omega)) 0 (by omega)
 rw [this,Int.zero_add]
theorem KC {r:aG} (hr:vH r) {l:List ao} (hs:AS l) (hl:l.length≤40) (d:aO) {w:aE} (hw:zw w=true) (wF:w.aT≠w.To):∃ ws fr,gB r (fl l r.ax d)=some ws∧vd w ws 0 0=some (fr,0)∧tx r l d w=some fr:=by
 obtain ⟨f,hf⟩:=O9 hr hs
 have Jz:=hf.len d
 have hwB:0≤w.aT∧w.aT < w.To∧w.To≤345686400000:=by
  unfold zw at hw
  simp only [Bool.and_eq_true,decide_eq_true_eq] at hw
  omega
 have hb:∀ t∈f d,0≤t.1∧t.1 < t.2∧t.2≤345686400000:=fun t ht=>by
  have:=((Jd (by decide) hr.hold.1 hr.rest.1 (hf.fr d)).2 rfl).2 t ht
  have hE:eG=345686400000:=rfl
  omega
 have hB:∀ t∈f d,JF w t≤345686400000:=fun t ht=>by
  have:=hb t ht
  unfold JF
  omega
 have OU:=Ky (JF w) 345686400000 (f d) hB
 have afD:=Nat.mul_le_mul_left 345686400000 (show (f d).length≤161 by omega)
 have Xq:aU (w.To - w.aT)=w.To - w.aT:=aP (by omega) (by omega)
 obtain ⟨fr,g,e1,_⟩:=O6 (n:=(((f d).map (JF w)).sum:Nat)) (d:=w.To - w.aT) (by omega) (by omega)
 refine ⟨(f d).map yP,fr,hf.sp d,?_,?_⟩
 ·unfold vd
  have hm:(((f d).map yP).map fun s=>JF w (s.from_,s.EO))=(f d).map (JF w):=by rw [List.map_map];rfl
  refine (F3 ((f d).map yP) (fun n i=>(n,i)) (fun x:Int×Int=>iN w ((f d).map yP) x.1 x.2) (fun s=>JF w (s.from_,s.EO)) 345686400000 (rl w) (fun s hs=>?_) (fun n i s h0 h1 hx u5 O0 MT=>?_) (fun n O0 MT=>?_)).trans ?_
  ·obtain ⟨t,ht,rfl⟩:=List.mem_map.1 hs
   exact hB t ht
  ·obtain ⟨t,ht,rfl⟩:=List.mem_map.1 u5
   have:=hb t ht
   have hB':=hB t ht
   rw [List.length_map] at h1 MT
   show iN w ((f d).map yP) n i=_
   rw [iN,if_pos (by rw [List.length_map];exact h1),hx]
   simp only [Option.bind_some]
   have e:max (0:Int) (aU (min (yP t).EO w.To - max (yP t).from_ w.aT))=((JF w ((yP t).from_,(yP t).EO):Nat):Int):=by
    show max (0:Int) (aU (min t.2 w.To - max t.1 w.aT))=((JF w (t.1,t.2):Nat):Int)
    rw [aP (by omega) (by omega)]
    unfold JF
    simp only
    omega
   have Yn:JF w ((yP t).from_,(yP t).EO)≤345686400000:=hB'
   rw [e,aP (x:=i+1) (by omega) (by omega),aP (by omega) (by omega)]
  ·show iN w ((f d).map yP) n ((f d).map yP).length=_
   rw [iN,if_neg (by omega)]
  ·rw [hm]
   unfold rl
   rw [Xq,Ht (by omega) (by omega),e1]
   rfl
 ·unfold tx
  rw [Pa hr hs hf d]
  simp only [Option.bind_some]
  unfold zZ
  have hm:(((f d).map yR).map fun s=>JF w (s.aT,s.To))=(f d).map (JF w):=by rw [List.map_map];rfl
  refine (F3 ((f d).map yR) (fun n i=>(n,i)) (fun x:Int×Int=>jv w ((f d).map yR) x.1 x.2) (fun s=>JF w (s.aT,s.To)) 345686400000 (te w) (fun s hs=>?_) (fun n i s h0 h1 hx u5 O0 MT=>?_) (fun n O0 MT=>?_)).trans ?_
  ·obtain ⟨t,ht,rfl⟩:=List.mem_map.1 hs
   exact hB t ht
  ·obtain ⟨t,ht,rfl⟩:=List.mem_map.1 u5
   have:=hb t ht
   have hB':=hB t ht
   rw [List.length_map] at h1 MT
   show jv w ((f d).map yR) n i=_
   rw [jv,if_pos (by rw [List.length_map];exact h1),hx]
   simp only [Option.bind_some]
   unfold qd ox
   simp only
   have Yn:JF w ((yR t).aT,(yR t).To)≤345686400000:=hB'
   have e:JF w ((yR t).aT,(yR t).To)=(min (yR t).To w.To - max (yR t).aT w.aT).toNat:=rfl
   have g1:(yR t).aT=t.1:=rfl
   have g2:(yR t).To=t.2:=rfl
   rw [aP (x:=i+1) (by omega) (by omega)]
   by_cases c:max (yR t).aT w.aT < min (yR t).To w.To
   ·rw [if_pos (decide_eq_true c),aP (x:=min (yR t).To w.To - max (yR t).aT w.aT) (by omega) (by omega),aP (by omega) (by omega),e]
    congr 3
    omega
   ·rw [if_neg (by simpa using c),e]
    congr 3
    omega
  ·show jv w ((f d).map yR) n ((f d).map yR).length=_
   rw [jv,if_neg (by omega)]
  ·rw [hm]
   unfold te
   rw [Xq,e1]
   rfl
def PL (r:aG) (l:List ao) (d:aO) (w:aE):Int:=mA [gN [r],iE l,if nM d=true then 0 else 5,lz w,if w.aT=w.To then 8 else 0]
theorem PM (r:aG) {l:List ao} (hl:l.length≤40) (d:aO) (w:aE):∃ fr,tX r l d w=some (fr,PL r l d w)∧(PL r l d w=0→tx r l d w=some fr):=by
 unfold tX PL
 rw [oH,show cU l=some (iE l) from oU l]
 simp only [Option.bind_some]
 rw [UB _ (by simp)]
 simp only [Option.bind_some]
 by_cases h1:gN [r]=0
 ·by_cases h2:iE l=0
  ·rw [h1,h2,if_neg (by decide),G2,wv]
   simp only [Option.bind_some]
   by_cases h3:nM d=true
   ·rw [if_neg (by simp [h3]),if_pos h3]
    by_cases h4:zw w=true
    ·have hw:lz w=0:=by unfold lz;rw [if_pos h4]
     rw [if_neg (by simp [h4]),hw]
     by_cases h5:w.aT=w.To
     ·rw [if_pos h5,if_pos h5]
      exact ⟨_,rfl,fun z=>absurd z (by decide)⟩
     ·rw [if_neg h5,if_neg h5,Rm l (by omega)]
      simp only [Option.bind_some]
      obtain ⟨ws,fr,e1,e2,e3⟩:=KC ((tz h1).1 r (by simp)).1 (Ei h2) hl d h4 h5
      rw [e1]
      exact ⟨fr,e2,fun _=>e3⟩
    ·have hw:lz w=1:=by unfold lz;rw [if_neg h4]
     rw [if_pos (by simp [h4]),hw]
     exact ⟨_,rfl,fun z=>absurd z (by simp [mA])⟩
   ·rw [if_pos (by simp [h3]),if_neg h3]
    exact ⟨_,rfl,fun z=>absurd z (by simp [mA])⟩
  ·have e:mA [gN [r],iE l]≠0:=by simp [mA,h1,h2]
   have e2:mA [gN [r],iE l,if nM d=true then 0 else 5,lz w,if w.aT=w.To then 8 else 0]=mA [gN [r],iE l]:=by simp [mA,h1,h2]
   rw [if_pos e,e2]
   exact ⟨_,rfl,fun z=>absurd z e⟩
 ·have e:mA [gN [r],iE l]≠0:=by simp [mA,h1]
  have e2:mA [gN [r],iE l,if nM d=true then 0 else 5,lz w,if w.aT=w.To then 8 else 0]=mA [gN [r],iE l]:=by simp [mA,h1]
  rw [if_pos e,e2]
  exact ⟨_,rfl,fun z=>absurd z e⟩
theorem PN (r:aG) {l:List ao} (hl:l.length≤40) (w:aE):∃ n,tZ r l w=some (n,mA [gN [r],iE l,lz w])∧(mA [gN [r],iE l,lz w]=0→qS r l w=some n):=by
 unfold tZ
 rw [Bq]
 simp only [Option.bind_some]
 by_cases h:mA [gN [r],iE l,lz w]=0
 ·rw [h,if_neg (by decide)]
  have h1:gN [r]=0:=by
   by_cases q:gN [r]=0
   ·exact q
   ·simp [mA,q] at h
  have h2:iE l=0:=by
   by_cases q:iE l=0
   ·exact q
   ·simp [mA,h1,q] at h
  have h3:zw w=true:=by
   by_cases q:zw w=true
   ·exact q
   ·have:lz w=1:=by unfold lz;rw [if_neg q]
    simp [mA,h1,h2,this] at h
  obtain ⟨n,e1,e2⟩:=KB ((tz h1).1 r (by simp)).1 ((tz h1).1 r (by simp)).2 (Ei h2) hl h3
  rw [e1]
  exact ⟨n,rfl,fun _=>e2⟩
 ·rw [if_pos h]
  exact ⟨0,rfl,fun z=>absurd z h⟩
theorem zC {α β:Type} {f g:α→List β}:∀ l:List α,(∀ x∈l,f x=g x)→l.flatMap f=l.flatMap g
 | [],_=>rfl
 | x :: l,h=>by rw [List.flatMap_cons,List.flatMap_cons,h x (by simp),zC l fun y hy=>h y (by simp [hy])]
def Bx (lim:Int):List Int→List (Int×Int)
 | a :: b :: r=>(a+lim+1,b) :: Bx lim (b :: r)
 | _=>[]
def PQ (lim:Int) (o:Option Int) (x:Int):List (Int×Int):=match o with
 | some z=>[(z+lim+1,x)]
 | none=>[]
theorem By (lim x:Int):∀ ts:List Int,Bx lim (ts++[x])=Bx lim ts++PQ lim ts.getLast? x
 | []=>rfl
 | [a]=>rfl
 | a :: b :: r=>by
   have ih:=By lim x (b :: r)
   rw [List.cons_append,List.cons_append]
   unfold Bx
   rw [← List.cons_append,ih,List.getLast?_cons_cons]
   rfl
def w8 (w:aE) (lim:Int) (d:aO) (ts:List Int):List ah:=(Bx lim ts).flatMap (fun t=>kS w (kY d [] t))
theorem EB (w:aE) (lim:Int) (d:aO) (a b:Int) (r:List Int):w8 w lim d (a :: b :: r)=kS w (kY d [] (a+lim+1,b))++w8 w lim d (b :: r):=rfl
theorem PR (w:aE) (s:ah):(kS w s).length≤1:=by unfold kS;split<;>simp
theorem EC (w:aE) (lim:Int) (d:aO):∀ ts:List Int,(w8 w lim d ts).length≤ts.length
 | []=>by simp [w8,Bx]
 | [a]=>by simp [w8,Bx]
 | a :: b :: r=>by
   have ih:=EC w lim d (b :: r)
   have:=PR w (kY d [] (a+lim+1,b))
   rw [EB,List.length_append,List.length_cons]
   omega
theorem Hu (w:aE) {lim:Int} (hl:1≤lim) (d:aO):∀ ts:List Int,ts.Pairwise (fun a b=>a≤b)→NW d (w8 w lim d ts)∧∀ x∈w8 w lim d ts,∀ a,ts.head? =some a→a+lim+1≤x.aT
 | [],_=>⟨NW.nil d,by simp [w8,Bx]⟩
 | [a],_=>⟨NW.nil d,by simp [w8,Bx]⟩
 | a :: b :: r,h=>by
   obtain ⟨h1,h2⟩:=List.pairwise_cons.1 h
   obtain ⟨i1,i2⟩:=Hu w hl d (b :: r) h2
   have uz:=h1 b (by simp)
   have hc:∀ x∈kS w (kY d [] (a+lim+1,b)),x.Device=d∧x.aT < x.To∧a+lim+1≤x.aT∧x.To≤b:=fun x hx=>by
    have:=AH hx
    exact ⟨this.1,this.2.2.1,this.2.2.2.1,this.2.2.2.2⟩
   rw [EB]
   refine ⟨⟨?_,fun x hx=>?_⟩,fun x hx a' JB=>?_⟩
   ·rw [List.pairwise_append]
    refine ⟨?_,i1.pw,fun x hx y hy=>?_⟩
    ·unfold kS
     split
     ·exact List.pairwise_singleton _ _
     ·exact List.Pairwise.nil
    ·have:=hc x hx
     have:=i2 y hy b rfl
     exact .inl (by omega)
   ·rcases List.mem_append.1 hx with g | g
    ·exact ⟨(hc x g).2.1,(hc x g).1⟩
    ·exact i1.ok x g
   ·rw [List.head?_cons,Option.some.injEq] at JB
    subst JB
    rcases List.mem_append.1 hx with g | g
    ·exact (hc x g).2.2.1
    ·have:=i2 x g b rfl
     omega
def vK (l:List ao) (d:aO):List Int:=(l.filter (fun x=>decide (x.Device=d))).map ao.At
theorem F4 (l:List ao) (x:ao) (d:aO):vK (l++[x]) d=if x.Device=d then vK l d++[x.At] else vK l d:=by
 unfold vK
 rw [List.filter_append,List.map_append]
 by_cases c:x.Device=d
 ·rw [if_pos c,List.filter_cons,if_pos (decide_eq_true c)];rfl
 ·rw [if_neg c,List.filter_cons,if_neg (by simpa using c)];simp
theorem AK {l:List ao} {d:aO} {t:Int} (h:t∈vK l d):∃ x∈l,x.Device=d∧x.At=t:=by
 unfold vK at h
 obtain ⟨x,hx,rfl⟩:=List.mem_map.1 h
 rw [List.mem_filter] at hx
 exact ⟨x,hx.1,of_decide_eq_true hx.2,rfl⟩
theorem Xr {a b:ao} (h:mO a b < 0):a.At≤b.At:=by
 unfold mO at h
 simp only [mA] at h
 by_cases c:oc a.At b.At=0
 ·unfold oc at c
  split at c
  ·omega
  ·split at c<;>omega
 ·rw [if_pos c] at h
  unfold oc at h
  split at h
  ·omega
  ·split at h<;>omega
theorem Js {l:List ao} (hs:AS l) (d:aO):(vK l d++[eG]).Pairwise (fun a b=>a≤b):=by
 rw [List.pairwise_append]
 refine ⟨?_,List.pairwise_singleton _ _,fun a ha b hb=>?_⟩
 ·unfold vK
  rw [List.pairwise_map]
  exact (hs.Cp.filter _).imp fun h=>Xr h
 ·rw [List.mem_singleton] at hb
  obtain ⟨x,hx,_,rfl⟩:=AK ha
  have:=hs.Ub x hx
  have hE:eG=345686400000:=rfl
  omega
def Jt (lim:Int) (s:List (aO×Int)×List ah) (x:ao):List (aO×Int)×List ah:=(rP s.1 x.Device x.At,s.2++(PQ lim (ca s.1 x.Device) x.At).map (kY x.Device []))
structure MW (lim:Int) (pre:List ao) (s:List (aO×Int)×List ah):Prop where
 sm:SM s.1
 get:∀ d,ca s.1 d=(vK pre d).getLast?
 fil:∀ d,s.2.filter (fun x=>decide (x.Device=d))=(Bx lim (vK pre d)).map (kY d [])
 len:s.2.length≤pre.length
theorem MW.step {lim:Int} {pre:List ao} {s:List (aO×Int)×List ah} (h:MW lim pre s) (x:ao):MW lim (pre++[x]) (Jt lim s x):=by
 refine ⟨h.sm.set _ _,fun d=>?_,fun d=>?_,?_⟩
 ·show ca (rP s.1 x.Device x.At) d=_
  rw [vF,F4]
  by_cases c:x.Device=d
  ·rw [if_pos c,if_pos c];simp
  ·rw [if_neg c,if_neg c];exact h.get d
 ·show (s.2++(PQ lim (ca s.1 x.Device) x.At).map (kY x.Device [])).filter (fun x=>decide (x.Device=d))=_
  rw [List.filter_append,h.fil d,F4]
  by_cases c:x.Device=d
  ·rw [if_pos c,By,List.map_append,c,h.get d]
   congr 1
   refine List.filter_eq_self.2 fun y hy=>?_
   obtain ⟨t,_,rfl⟩:=List.mem_map.1 hy
   exact decide_eq_true rfl
  ·rw [if_neg c,List.filter_eq_nil_iff.2 fun y hy=>?_,List.append_nil]
   obtain ⟨t,_,rfl⟩:=List.mem_map.1 hy
   intro z
   exact c (of_decide_eq_true z)
 ·show (s.2++(PQ lim (ca s.1 x.Device) x.At).map (kY x.Device [])).length≤_
  have:=h.len
  rw [List.length_append,List.length_append,List.length_map]
  have:(PQ lim (ca s.1 x.Device) x.At).length≤1:=by unfold PQ;split<;>simp
  simp only [List.length_cons,List.length_nil]
  omega
theorem MW.fold {lim:Int}:∀ (rest pre:List ao) (s:List (aO×Int)×List ah),MW lim pre s→MW lim (pre++rest) (rest.foldl (Jt lim) s)
 | [],pre,s,h=>by rw [List.append_nil];exact h
 | x :: rest,pre,s,h=>by
   have:=MW.fold rest (pre++[x]) (Jt lim s x) (h.step x)
   rw [List.append_assoc] at this
   exact this
theorem MW.all (lim:Int) (l:List ao):MW lim l (l.foldl (Jt lim) ([],[])):=by
 have:=MW.fold (lim:=lim) l [] ([],[]) ⟨SM.nil,fun d=>rfl,fun d=>rfl,by simp⟩
 exact this
def wV (lim:Int) (e:aO×Int):ah:=⟨e.1,[],e.2+lim+1,eG⟩
theorem wC {p:List (aO×Int)} {k:aO} {v:Int} (hn:(p.map Prod.fst).Nodup):ca p k=some v↔(k,v)∈p:=by
 induction p with
 | nil=>simp [ca]
 | cons e r ih=>
   rw [List.map_cons,List.nodup_cons] at hn
   rw [eK,List.mem_cons]
   by_cases c:e.1=k
   ·rw [if_pos c]
    constructor
    ·intro h
     rw [Option.some.injEq] at h
     left
     rw [← c,← h]
    ·rintro (h | h)
     ·rw [← h]
     ·exact absurd (List.mem_map.2 ⟨_,h,rfl⟩) (by rw [← c];exact hn.1)
   ·rw [if_neg c,ih hn.2]
    constructor
    ·exact .inr
    ·rintro (h | h)
     ·exact absurd (by rw [← h]) c
     ·exact h
theorem Cg (lim:Int) (d:aO):∀ p:List (aO×Int),(p.map Prod.fst).Nodup→(p.map (wV lim)).filter (fun s=>decide (s.Device=d))=(PQ lim (ca p d) eG).map (kY d [])
 | [],_=>rfl
 | e :: r,hn=>by
   have ih:=Cg lim d r (by rw [List.map_cons,List.nodup_cons] at hn;exact hn.2)
   rw [List.map_cons,List.nodup_cons] at hn
   rw [List.map_cons,List.filter_cons,ih,eK]
   by_cases c:e.1=d
   ·rw [if_pos (show decide ((wV lim e).Device=d)=true from decide_eq_true c),if_pos c]
    have:ca r d=none:=by
     cases hg:ca r d with
     | none=>rfl
     | some v=>exact absurd (List.mem_map.2 ⟨_,(wC hn.2).1 hg,rfl⟩) (by rw [← c];exact hn.1)
    rw [this]
    show wV lim e :: []=[kY d [] (e.2+lim+1,eG)]
    unfold wV kY
    rw [c]
   ·rw [if_neg (show ¬ decide ((wV lim e).Device=d)=true from fun z=>c (of_decide_eq_true z)),if_neg c]
theorem ED {α:Type} (dv:α→aO):∀ (D:List aO) (T:List α),D.Nodup→(∀ x∈T,dv x∈D)→(D.flatMap fun d=>T.filter (fun x=>decide (dv x=d))).Perm T
 | [],T,_,h=>by
   cases T with
   | nil=>exact List.Perm.refl _
   | cons x T=>exact absurd (h x (by simp)) (by simp)
 | d :: D,T,hn,h=>by
   obtain ⟨n1,n2⟩:=List.nodup_cons.1 hn
   have ih:=ED dv D (T.filter (fun x=>!decide (dv x=d))) n2 fun x hx=>by
    rw [List.mem_filter] at hx
    have wF:¬ dv x=d:=by simpa using hx.2
    rcases List.mem_cons.1 (h x hx.1) with g | g
    ·exact absurd g wF
    ·exact g
   have e:(D.flatMap fun d'=>(T.filter (fun x=>!decide (dv x=d))).filter (fun x=>decide (dv x=d')))=D.flatMap fun d'=>T.filter (fun x=>decide (dv x=d')):=by
    refine zC D fun d' BL=>?_
    rw [List.filter_filter]
    refine List.filter_congr fun x _=>?_
    by_cases c:dv x=d'
    ·have:¬ d'=d:=fun z=>n1 (by rw [← z];exact BL)
     simp [c,this]
    ·simp [c]
   rw [e] at ih
   rw [List.flatMap_cons]
   exact (List.Perm.append_left _ ih).trans (List.filter_append_perm _ T)
def EE (l:List ao) (lim:Int) (w:aE):List ah:=(sO l).flatMap fun d=>w8 w lim d (vK l d++[eG])
theorem Ju {l:List ao} (hs:AS l) {lim:Int} (hl:1≤lim) (w:aE):RC (EE l lim w):=by
 intro a ha b hb e1 e2
 obtain ⟨d,_,ha⟩:=List.mem_flatMap.1 ha
 obtain ⟨d',_,hb⟩:=List.mem_flatMap.1 hb
 have o:=(Hu w hl d _ (Js hs d)).1
 have o':=(Hu w hl d' _ (Js hs d')).1
 have g:=(o.ok a ha).2
 have g':=(o'.ok b hb).2
 have:d=d':=by rw [← g,← g',e2]
 subst this
 exact Hm o ha hb e1
theorem Jv (l:List ao) (d:aO):(vK l d).length≤l.length:=by
 unfold vK
 rw [List.length_map]
 exact List.length_filter_le _ _
theorem Jw {l:List ao} (hl:l.length≤40) (lim:Int) (w:aE):(EE l lim w).length≤2000:=by
 have h1:=jq (fun d=>w8 w lim d (vK l d++[eG])) 41 (sO l) (fun d _=>by
  have h2:=EC w lim d (vK l d++[eG])
  have h3:=Jv l d
  rw [List.length_append,List.length_singleton] at h2
  omega)
 have:=Nat.mul_le_mul_left 41 (show (sO l).length≤40 by have:=AG l;omega)
 unfold EE
 omega
theorem PS {l:List ao} {lim:Int} {s:List (aO×Int)×List ah} (h:MW lim l s) (w:aE) {p:List (aO×Int)} (hp:p.Perm s.1):((s.2++p.map (wV lim)).flatMap (kS w)).Perm (EE l lim w):=by
 have hn:(p.map Prod.fst).Nodup:=(hp.map Prod.fst).nodup_iff.2 h.sm.nodup
 have hg:∀ d,ca p d=ca s.1 d:=fun d=>by
  cases hx:ca s.1 d with
  | some v=>exact (wC hn).2 (hp.mem_iff.2 ((wC h.sm.nodup).1 hx))
  | none=>
    cases hy:ca p d with
    | none=>rfl
    | some v=>rw [(wC h.sm.nodup).2 (hp.mem_iff.1 ((wC hn).1 hy))] at hx;cases hx
 have hf:∀ d,(s.2++p.map (wV lim)).filter (fun x=>decide (x.Device=d))=(Bx lim (vK l d++[eG])).map (kY d []):=fun d=>by
  rw [List.filter_append,h.fil d,Cg lim d p hn,hg d,h.get d,By,List.map_append]
 have hd:∀ x∈s.2++p.map (wV lim),x.Device∈sO l:=fun x hx=>by
  have Wh:x∈(s.2++p.map (wV lim)).filter (fun y=>decide (y.Device=x.Device)):=List.mem_filter.2 ⟨hx,decide_eq_true rfl⟩
  rw [hf] at Wh
  cases ha:vK l x.Device with
  | nil=>rw [ha] at Wh;cases Wh
  | cons t r=>
    obtain ⟨y,hy,y1,_⟩:=AK (show t∈vK l x.Device by rw [ha];simp)
    exact (Ez l _).2 ⟨y,hy,y1⟩
 have hgp:=ED ah.Device (sO l) _ (Hs l) hd
 refine (hgp.symm.flatMap_right _).trans ?_
 unfold EE w8
 rw [List.flatMap_assoc]
 refine List.Perm.of_eq (zC _ fun d _=>?_)
 rw [hf d,List.flatMap_map]
theorem LB:∀ {ts:List Int} {v:Int},ts.getLast? =some v→v∈ts:=fun h=>List.mem_of_getLast? h
theorem UD {l:List ao} (hs:AS l) (hl:l.length≤40) {lim:Int} (h1:1≤lim∧lim≤2592000000) (w:aE) {s:List (aO×Int)×List ah} (h:MW lim l s) {Z:List ah} (hZ:∀ y:List ah,y.Perm (EE l lim w)→dm y.length (fun r:(List ah)=>r.length) (bA y (fun y0 y1=>dI y0 y1))=some Z):
 nt lim w s.1 s.2=some (Z,0):=by
 have hlen:=h.len
 have hM:∀ e∈s.1,0≤e.2∧e.2≤345686399999:=fun e he=>by
  have h2:=(wC h.sm.nodup).2 he
  rw [h.get] at h2
  obtain ⟨x,hx,_,h3⟩:=AK (LB h2)
  have:=hs.Ub x hx
  omega
 have hMl:s.1.length≤40:=by
  have Io:∀ k∈s.1.map Prod.fst,k∈sO l:=fun k hk=>by
   obtain ⟨e,he,rfl⟩:=List.mem_map.1 hk
   have h2:=(wC h.sm.nodup).2 he
   rw [h.get] at h2
   obtain ⟨x,hx,h3,_⟩:=AK (LB h2)
   exact (Ez l _).2 ⟨x,hx,h3⟩
  have hp:(s.1.map Prod.fst).Perm ((sO l).filter fun d=>decide (d∈s.1.map Prod.fst)):=by
   refine (List.perm_ext_iff_of_nodup h.sm.nodup ((Hs l).filter _)).2 fun d=>?_
   rw [List.mem_filter]
   exact ⟨fun q=>⟨Io d q,decide_eq_true q⟩,fun q=>of_decide_eq_true q.2⟩
  have:=hp.length_eq
  rw [List.length_map] at this
  have h2:=List.length_filter_le (fun d=>decide (d∈s.1.map Prod.fst)) (sO l)
  have h3:=AG l
  omega
 unfold nt
 refine Bl (fun e (x:List ah)=>jY lim e x) (fun x:List ah=>jZ w x) s.1 s.2 (Z,0) (fun done y=>y=s.2++done.map (wV lim)) (by simp) ?_ ?_
 ·intro done e rest y hp hi
  left
  have he:=hM e (hp.mem_iff.1 (by simp))
  have hd:done.length≤40:=by
   have:=hp.length_eq
   rw [List.length_append] at this
   omega
  refine ⟨y++[wV lim e],?_,?_⟩
  ·show jY lim e y=_
   unfold jY
   rw [aP (x:=e.2+lim) (by omega) (by omega),aP (x:=e.2+lim+1) (by omega) (by omega),fR (by rw [hi];simp;omega)]
   rfl
  ·show y++[wV lim e]=_
   rw [hi]
   simp
 ·intro p y hp hi
  show jZ w y=some (Z,0)
  have hy:y.length≤100:=by
   rw [hi,List.length_append,List.length_map,hp.length_eq]
   omega
  unfold jZ
  rw [Pb y (by omega) w]
  simp only [Option.bind_some]
  rw [hZ (y.flatMap (kS w)) (by rw [hi];exact PS h w hp)]
  rfl
theorem UE {l:List ao} (hs:AS l) (hl:l.length≤40) {lim:Int} (h1:1≤lim∧lim≤2592000000) (w:aE):
 ua l lim w [] [] 0=nt lim w (l.foldl (Jt lim) ([],[])).1 (l.foldl (Jt lim) ([],[])).2:=by
 unfold ua
 refine (lS (A:=(List ah)×Int) l (fun (s:List (aO×Int)×List ah) i=>(s.1,s.2,i)) (fun x:(List (aO×Int))×(List ah)×Int=>gI l lim w x.1 x.2.1 x.2.2) (Jt lim) (fun i s=>(∀ d a,ca s.1 d=some a→0≤a∧a≤345686399999)∧(s.2.length:Int)≤i) (fun s=>nt lim w s.1 s.2) (fun s i x i0 i1 hx hv=>?_) (fun s hv=>?_) ([],[]) ⟨(fun d a h=>by cases h),by simp⟩)
 ·have QM:=hs.Ub x (ry hx)
  refine ⟨?_,fun d a h=>?_,?_⟩
  ·show gI l lim w s.1 s.2 i=_
   unfold gI
   rw [if_pos i1,hx]
   simp only [Option.bind_some]
   unfold KU nq Jt
   simp only [Option.bind_some]
   rw [aP (x:=i+1) (by omega) (by omega)]
   cases hg:ca s.1 x.Device with
   | none=>simp [PQ]
   | some a=>
     have ha:=hv.1 _ _ hg
     simp only [Option.isSome_some,if_true,Option.getD_some]
     rw [aP (x:=a+lim) (by omega) (by omega),aP (x:=a+lim+1) (by omega) (by omega),fR (by have:=hv.2;simp only [List.length_cons,List.length_nil];omega)]
     rfl
  ·have h':ca (rP s.1 x.Device x.At) d=some a:=h
   rw [vF] at h'
   split at h'
   ·rw [Option.some.injEq] at h'
    omega
   ·exact hv.1 d a h'
  ·show ((s.2++(PQ lim (ca s.1 x.Device) x.At).map (kY x.Device [])).length:Int)≤i+1
   have:=hv.2
   rw [List.length_append,List.length_map]
   have:(PQ lim (ca s.1 x.Device) x.At).length≤1:=by unfold PQ;split<;>simp
   omega
 ·show gI l lim w s.1 s.2 l.length=_
  unfold gI
  rw [if_neg (by omega)]
def SP (w:aE) (lim:Int) (d:aO) (s:List ah×Int) (x:ao):List ah×Int:=(s.1++(if 0≤s.2 then kS w (kY d [] (s.2+lim+1,x.At)) else []),x.At)
theorem PT (w:aE) (lim:Int) (d:aO):∀ (xs:List ao) (o:List ah) (p:Int),0≤p→(∀ x∈xs,0≤x.At)→(xs.foldl (SP w lim d) (o,p)).1=o++w8 w lim d (p :: xs.map ao.At)
 | [],o,p,_,_=>by simp [w8,Bx]
 | x :: xs,o,p,hp,h=>by
   rw [List.foldl_cons]
   unfold SP
   rw [if_pos hp]
   have:=PT w lim d xs (o++kS w (kY d [] (p+lim+1,x.At))) x.At (h x (by simp)) (fun y hy=>h y (by simp [hy]))
   unfold SP at this
   rw [this,List.map_cons,EB,List.append_assoc]
theorem RO (w:aE) (lim:Int) (d:aO) (xs:List ao) (h:∀ x∈xs,0≤x.At) (o:List ah):(xs.foldl (SP w lim d) (o,-1)).1=o++w8 w lim d (xs.map ao.At):=by
 cases xs with
 | nil=>simp [w8,Bx]
 | cons x xs=>
   rw [List.foldl_cons,List.map_cons]
   have:=PT w lim d xs o x.At (h x (by simp)) (fun y hy=>h y (by simp [hy]))
   rw [← this]
   unfold SP
   rw [if_neg (show ¬ (0:Int)≤-1 by decide),List.append_nil]
theorem RP {lim:Int} (h1:1≤lim∧lim≤2592000000) (w:aE) (n9:Int) (hn:0≤n9∧n9≤1000) (d:aO) (xs:List ao) (hx:∀ x∈xs,0≤x.At∧x.At≤345686400000) (hxl:xs.length≤100) (o:List ah) (ho:o.length≤100000):
 ve lim w n9 d xs o (-1) 0=some (.inl (o++w8 w lim d (xs.map ao.At),n9+1)):=by
 unfold ve
 refine (lS (A:=((List ah)×Int)⊕(List ah)) xs (fun (s:List ah×Int) i=>(s.1,s.2,i)) (fun x:(List ah)×Int×Int=>iP lim w n9 d xs x.1 x.2.1 x.2.2) (SP w lim d) (fun i s=>(s.2=-1∨(0≤s.2∧s.2≤345686400000))∧(s.1.length:Int)≤100000+i) (fun s=>some (.inl (s.1,n9+1))) (fun s i x i0 i1 XE hv=>?_) (fun s hv=>?_) (o,-1) ⟨.inl rfl,by simp;omega⟩).trans ?_
 ·have QM:=hx x (ry XE)
  have S7:=hv.2
  refine ⟨?_,.inr QM,?_⟩
  ·show iP lim w n9 d xs s.1 s.2 i=_
   unfold iP
   rw [if_pos i1,XE]
   simp only [Option.bind_some]
   unfold mz oC mz ox SP
   simp only
   rw [aP (x:=i+1) (by omega) (by omega)]
   by_cases c:0≤s.2
   ·have KM:s.2≤345686400000:=by rcases hv.1 with g | g<;>omega
    rw [if_pos c,if_pos c,aP (x:=s.2+lim) (by omega) (by omega),aP (x:=s.2+lim+1) (by omega) (by omega)]
    unfold kS kY
    simp only
    by_cases c2:max (s.2+lim+1) w.aT < min x.At w.To
    ·rw [if_pos (decide_eq_true c2),if_pos c2,fR (by simp only [List.length_cons,List.length_nil];omega)]
     rfl
    ·rw [if_neg (by simpa using c2),if_neg c2,List.append_nil]
   ·rw [if_neg c,if_neg c,List.append_nil]
  ·unfold SP
   show ((s.1++_).length:Int)≤_
   rw [List.length_append]
   have:(if 0≤s.2 then kS w (kY d [] (s.2+lim+1,x.At)) else []).length≤1:=by
    split
    ·exact PR _ _
    ·simp
   omega
 ·show iP lim w n9 d xs s.1 s.2 xs.length=_
  unfold iP
  rw [if_neg (by omega),aP (x:=n9+1) (by omega) (by omega)]
 ·rw [RO w lim d xs (fun x h=>(hx x h).1) o]
theorem RQ {l:List ao} (hs:AS l) (hl:l.length≤40) {lim:Int} (h1:1≤lim∧lim≤2592000000) (w:aE) {Z:List ah} (hz:Z.Perm (EE l lim w)) (hd:qV JE Z):qT l lim w=some Z:=by
 have hXl:=Jw hl lim w
 unfold qT
 rw [x4 l (by omega)]
 simp only [Option.bind_some]
 unfold yL
 have P6:=AG l
 refine (jg (sO l) (fun s i=>(s,i)) (fun x:(List ah)×Int=>iQ l lim w (sO l) x.1 x.2) (fun d=>w8 w lim d (vK l d++[eG])) 41 0 oD (fun d _=>by
  have h2:=EC w lim d (vK l d++[eG])
  have h3:=Jv l d
  rw [List.length_append,List.length_singleton] at h2
  omega) (by omega) (fun s i d i0 i1 hx Dr _=>?_) (fun s Dr=>?_) [] (by simp)).trans ?_
 ·show iQ l lim w (sO l) s i=_
  unfold iQ gJ
  rw [if_pos i1,hx]
  simp only [Option.bind_some]
  rw [fR (by simp;omega)]
  simp only [Option.bind_some,List.nil_append]
  have Jz:=List.length_filter_le (fun x:ao=>decide (x.Device=d)) l
  have aa9:dc l (fun y0=>some (oB y0 d))=some (l.filter (fun x=>decide (x.Device=d))):=by
   have g:dc l (fun y0=>some (oB y0 d))=some (l.filter (fun x=>!decide (x.Device≠d))):=Rc (⟨[],[],0,0⟩:ao) _ (fun x=>decide (x.Device≠d)) l (by omega) (fun x _=>rfl)
   rw [g]
   congr 1
   refine List.filter_congr fun x _=>?_
   by_cases c:x.Device=d
   ·simp [c]
   ·simp [c]
  rw [aa9]
  simp only [Option.bind_some]
  rw [fR (by simp only [List.length_cons,List.length_nil];omega)]
  simp only [Option.bind_some]
  have k:=RP h1 w i ⟨i0,by omega⟩ d (l.filter (fun x=>decide (x.Device=d))++[⟨[],[],345686400000,0⟩]) (fun x hx=>by
   rcases List.mem_append.1 hx with g | g
   ·have:=hs.Ub x (List.mem_filter.1 g).1
    omega
   ·rw [List.mem_singleton] at g
    subst g
    exact ⟨by decide,by decide⟩) (by rw [List.length_append,List.length_singleton];omega) s (by omega)
  rw [List.map_append] at k
  exact k
 ·show iQ l lim w (sO l) s (sO l).length=_
  unfold iQ
  rw [if_neg (by omega)]
 ·show oD (EE l lim w)=some Z
  obtain ⟨Z',z1,z2,z3⟩:=Pn Pc (fun y0 y1=>js y0 y1) (fun a b=>yS a b) (EE l lim w) (by omega)
  have:Z'=Z:=wi (z2.trans hz.symm) (PA z3) hd fun a ha b hb k1 k2=>by
   obtain ⟨q1,q2⟩:=PB k1 k2
   exact Ju hs h1.1 w a (z2.mem_iff.1 ha) b (z2.mem_iff.1 hb) q1 q2
  unfold oD
  rw [mD (show bq (EE l lim w) (fun y0 y1=>js y0 y1)=some Z by rw [PD,z1,this]) hz.length_eq]
  rfl
def Jx (l:List ao) (lim:Int) (w:aE):Int:=mA [iE l,if lim < 1∨2592000000 < lim then 1 else 0,lz w]
theorem MX {l:List ao} (hl:l.length≤40) (lim:Int) (w:aE):∃ Z,sk l lim w=some (Z,Jx l lim w)∧(Jx l lim w=0→Z.length≤100000∧qT l lim w=some Z):=by
 unfold sk Jx
 rw [show cU l=some (iE l) from oU l]
 simp only [Option.bind_some]
 by_cases h1:iE l=0
 ·rw [h1,if_neg (by decide),uV,wv]
  unfold qg
  by_cases h2:lim < 1∨2592000000 < lim
  ·rw [if_pos h2,if_pos (by simp [h2])]
   exact ⟨_,rfl,fun z=>absurd z (by simp [mA])⟩
  ·rw [if_neg h2]
   by_cases h3:zw w=true
   ·have hw:lz w=0:=by unfold lz;rw [if_pos h3]
    rw [if_neg (by simp [h2,h3]),hw]
    have hs:=Ei h1
    have RR:1≤lim∧lim≤2592000000:=by omega
    have hXl:=Jw hl lim w
    obtain ⟨Z,z1,z2,z3⟩:=Ev (EE l lim w) (by omega) (Ju hs RR.1 w)
    refine ⟨Z,?_,fun _=>⟨by rw [z1.length_eq];omega,RQ hs hl RR w z1 z2⟩⟩
    rw [UE hs hl RR w,UD hs hl RR w (MW.all lim l) z3]
    rfl
   ·have hw:lz w=1:=by unfold lz;rw [if_neg h3]
    rw [if_pos (by simp [h3]),hw]
    exact ⟨_,rfl,fun z=>absurd z (by simp [mA])⟩
 ·have e:mA [iE l,if lim < 1∨2592000000 < lim then 1 else 0,lz w]=iE l:=by simp [mA,h1]
  rw [if_pos h1,e]
  exact ⟨_,rfl,fun z=>absurd z h1⟩
theorem Hv (c:Prop) [Decidable c] (e:Int):p9 (decide c) e=if c then e else 0:=by
 unfold p9
 by_cases h:c
 ·rw [if_pos (decide_eq_true h),if_pos h]
 ·rw [if_neg (by simpa using h),if_neg h]
theorem aaA {l:List ao} (hl:l.length≤40) (w:aE) (lim:Int) (s1 s2 s3:zq):ga (l,s1) (w,s2) (lim,s3) (iE l) false=some true:=by
 obtain ⟨Z,z1,z2⟩:=MX hl lim w
 have j6:∀ e,e=Jx l lim w→iC (l,s1) (w,s2) (lim,s3) (Z,Jx l lim w) e=some true:=by
  intro e he
  subst he
  unfold iC fZ
  rw [if_pos rfl]
  by_cases h:Jx l lim w=0
  ·obtain ⟨y1,y2⟩:=z2 h
   rw [if_neg (by omega),y2]
   simp only [Option.bind_some]
   rw [UA y1]
   simp [Ja]
  ·rw [if_pos h,Ja]
   rfl
 unfold ga
 rw [if_neg Bool.false_ne_true,z1]
 simp only [Option.bind_some]
 rw [mq]
 by_cases h:lim < 1
 ·rw [if_pos h,Ks _ (by simp)]
  refine j6 _ ?_
  unfold Jx
  rw [if_pos (.inl h)]
  rfl
 ·rw [if_neg h,Ks _ (by simp),Hv]
  refine j6 _ ?_
  unfold Jx
  by_cases h2:2592000000 < lim
  ·rw [if_pos h2,if_pos (.inr h2)]
  ·rw [if_neg h2,if_neg (by omega)]
theorem aaB (r:aG) {l:List ao} (hl:l.length≤40) (w:aE) (lim:Int) (s0 s1 s2 s3:zq):gb (r,s0) (l,s1) (w,s2) (lim,s3) (gN [r]) (iE l) false=some true:=by
 obtain ⟨n,n1,n2⟩:=PN r hl w
 have j5:=aaA hl w lim s1 s2 s3
 unfold gb
 rw [if_neg Bool.false_ne_true,n1]
 simp only [Option.bind_some]
 rw [mq,Ks _ (by simp)]
 simp only [Option.bind_some]
 rw [if_neg (by simp)]
 by_cases h:mA [gN [r],iE l,lz w]=0
 ·rw [if_pos h,n2 h]
  simp only [Option.bind_some]
  rw [show decide (n≠n)=false by simp]
  exact j5
 ·rw [if_neg h]
  exact j5
theorem aaC (r:aG) {l:List ao} (hl:l.length≤40) (w:aE) (d:aO) (lim:Int) (s0 s1 s2 s3 s4:zq):gd (r,s0) (l,s1) (w,s2) (d,s3) (lim,s4) (gN [r]) (iE l) false=some true:=by
 obtain ⟨fr,n1,n2⟩:=PM r hl d w
 have j4:=aaB r hl w lim s0 s1 s2 s4
 unfold gd
 rw [if_neg Bool.false_ne_true,n1]
 simp only [Option.bind_some]
 rw [mq,O2]
 simp only [Option.bind_some]
 rw [Hv,Ks _ (by simp)]
 simp only [Option.bind_some]
 rw [show mA [gN [r],iE l,if nM d=true then 0 else 5,lz w,if w.aT=w.To then 8 else 0]=PL r l d w from rfl,if_neg (by simp)]
 by_cases h:PL r l d w=0
 ·rw [if_pos h,n2 h]
  simp only [Option.bind_some]
  rw [show decide (fr≠fr)=false by simp]
  exact j4
 ·rw [if_neg h]
  exact j4
theorem aaD (rs:List aG) (hn:rs.length≤4) (r:aG) {l:List ao} (hl:l.length≤40) (w:aE) (d:aO) (n lim:Int) (s s0 s1 s2 s3 s4 s5:zq):gg (rs,s) (r,s0) (l,s1) (w,s2) (d,s3) (n,s4) (lim,s5) (gN [r]) (iE l) false=some true:=by
 obtain ⟨Z,z1,z2⟩:=MU rs hn n hl w
 have j3:=aaC r hl w d lim s0 s1 s2 s3 s5
 have j2:∀ e,e=SO rs n l w→iD (rs,s) (r,s0) (l,s1) (w,s2) (d,s3) (n,s4) (lim,s5) (gN [r]) (iE l) (Z,SO rs n l w) e=some true:=by
  intro e he
  subst he
  unfold iD
  rw [if_neg (by simp)]
  by_cases h:SO rs n l w=0
  ·rw [if_pos h] at z2
   rw [if_pos h,z2.2]
   simp only [Option.bind_some]
   rw [UA z2.1]
   simp only [Option.bind_some,decide_true,Bool.not_true]
   exact j3
  ·rw [if_neg h]
   exact j3
 unfold gg
 rw [if_neg Bool.false_ne_true,z1]
 simp only [Option.bind_some]
 rw [vi,mq]
 simp only [Option.bind_some]
 by_cases h:n < 1
 ·rw [if_pos h,Ks _ (by simp)]
  refine j2 _ ?_
  unfold SO
  rw [if_pos (.inl h)]
  rfl
 ·rw [if_neg h,Ks _ (by simp),Hv]
  refine j2 _ ?_
  unfold SO
  by_cases h2:100 < n
  ·rw [if_pos h2,if_pos (.inr h2)]
  ·rw [if_neg h2,if_neg (by omega)]
theorem yB (L:List Int):mo L=some true:=by
 have key:Ok (mo L) (fun r=>r=true):=by
  unfold mo
  refine Ok.gen (Rr (s:=⟨L,0⟩) (K:=10000) ⟨by simp,by simp⟩ (by omega)) (fun rs s0 UQ q0=>?_)
  refine Ok.gen (FT q0 (by omega)) (fun p s1 _ q1=>?_)
  refine Ok.gen (FT q1 (by omega)) (fun q s2 _ q2=>?_)
  refine Ok.gen (Li q2 (by omega) (by omega) (by omega) (by omega)) (fun m s3 hm q3=>?_)
  refine Ok.gen (Ko q3 (by omega) (by omega)) (fun l s4 hl q4=>?_)
  refine Ok.gen (Rt q4 (by omega)) (fun w s5 _ q5=>?_)
  refine Ok.gen (zu q5 (by omega) (by simp) (by simp)) (fun d s6 _ q6=>?_)
  refine Ok.gen (o8 q6 (by omega) (by simp) (by simp)) (fun n s7 _ q7=>?_)
  refine Ok.gen (o8 q7 (by omega) (by simp) (by simp)) (fun lim s8 _ q8=>?_)
  dsimp only
  obtain ⟨Z,z1,z2⟩:=MR p q (l:=l) (by omega) w
  refine Ok.is (vi [p]) (Ok.is (vi [q]) (Ok.is (CJ l) (Ok.is z1 ?_)))
  rw [mq]
  refine Ok.is (v:=mA [gN [p],gN [q],iE l,lz w]) (Ks _ (by simp)) ?_
  have j1:=aaD rs (by omega) p (l:=l) (by omega) w d n lim s0 s1 s4 s5 s6 s7 s8
  rw [if_neg (by simp)]
  by_cases he:mA [gN [p],gN [q],iE l,lz w]=0
  ·rw [if_pos he] at z2
   rw [if_pos he]
   refine Ok.is z2.2 (Ok.is (UA z2.1) ?_)
   simp only [decide_true,Bool.not_true]
   exact ⟨true,j1,rfl⟩
  ·rw [if_neg he]
   exact ⟨true,j1,rfl⟩
 obtain ⟨r,h1,rfl⟩:=key
 exact h1
end Go.Beacon
