/- Plain facts on what the functions compute. No program in sight. -/
import Derived.Test.YthfphcbipahkmaaGreatDoorPlBA
import Derived.Test.YthfphcbipahkmaaGreatDoorPlLA
open Bool renaming false_eq_true→aK,and_eq_true→cn,not_false→cv,not_true→cP,true_eq_false→dy
open Int renaming le_refl→bm,tmod_eq_emod_of_nonneg→bx,le_of_lt→du,toNat_zero→d4
open List renaming mem_cons→ad,length_cons→af,mem_singleton→ai,mem_append→al,mem_cons_of_mem→ap,mem_cons_self→aw,length_filter_le→aI,pairwise_cons→a7,drop_of_length_le→be,nil_append→bk,length_map→bo,length_nil→bp,pairwise_append→bt,length_append→bv,cons_append→bz,map_cons→bY,mem_map→b4,mem_append_left→b7,mem_flatMap→b8,find?_eq_none→b9,eq_nil_or_concat→cb,foldl_cons→cc,getElem_of_mem→ce,getElem?_eq_getElem→ci,take_of_length_le→cl,mem_filter→cm,replicate→cS,eq_nil_of_length_eq_zero→c6,perm_middle→c7,append_nil→c8,Perm.refl→da,nodup_cons→dg,length_eq_zero_iff→dk,concat_eq_append→dl,map_append→ds,sum_cons→dQ,drop_eq_getElem_cons→d0,getElem?_map→d3,drop_zero→d5,not_mem_nil→d6
open Nat renaming le_refl→cQ,le_trans→dR
open Option renaming bind_some→aa,some.inj→ac,map_eq_some_iff→a6,getD_some→a8,map→bw,isSome_none→b5,isSome_some→b6,getD_none→cp
open Prod renaming mk.inj→bi,mk.injEq→cW
set_option linter.unusedVariables false
set_option linter.unusedSimpArgs false
namespace Go.Beacon
open Go Go.Eng
def Sc {α:Type} (cf:α→α→Int) (G8:α→α→Prop) (Z:List α):Prop:=Z.Pairwise (fun a b=>¬ cf b a < 0∧(¬ cf a b < 0→G8 a b))
theorem L6 {α:Type} (lS:α→α→Option Int) (cf:α→α→Int) (G8:α→α→Prop) (n4:Int) (hn:n4≤1000000) (x:α):∀ (k:Nat) (P R post:List α),P.length=k→(P.length:Int)≤1000000→
 (∀ y∈P,lS x y=some (cf x y))→Cu cf (x :: (P++R))→Sc cf G8 (P++R)→(∀ r∈R,cf x r < 0)→(∀ y∈P,G8 y x)→
 ∃ Z,uS 0 lS n4 (P++x :: (R++post)) P.length=some (.inl (Z++post,bB (n4+1)))∧Z.Perm (x :: (P++R))∧Sc cf G8 Z:=by
 intro k
 induction k with
 | zero=>
   intro P R post hP hl hf hO hs hR h2
   obtain rfl:P=[]:=c6 hP
   refine ⟨x :: R,?_,by simp,?_⟩
   ·unfold uS
    rw [iter_eq,xU,if_neg (by simp),wj,if_neg (by simp),aY];simp
   ·refine a7.2 ⟨fun r hr=>⟨fun iW=>?_,fun Uv=>absurd (hR r hr) Uv⟩,by simpa [Sc] using hs⟩
    exact hO.LR x (by simp) (hO.tr x (by simp) r (by simp [hr]) x (by simp) (hR r hr) iW)
 | succ k ih=>
   intro P R post hP hl hf hO hs hR h2
   obtain ⟨Q,y,rfl⟩:∃ Q y,P=Q++[y]:=by
    rcases cb P with h | ⟨Q,y,h⟩
    ·rw [h] at hP;simp at hP
    ·exact ⟨Q,y,by simpa using h⟩
   have hQ:Q.length=k:=by simpa using hP
   have hlen:((Q++[y]).length:Int)=Q.length+1:=by simp
   have hlq:(Q.length:Int)+1≤1000000:=by rw [← hlen];exact hl
   have w1:bB ((Q.length:Int)+1 - 1)=Q.length:=by rw [bl]<;>omega
   have e1:(Q++[y])++x :: (R++post)=Q++y :: x :: (R++post):=by simp
   have i1:idx (Q++y :: x :: (R++post)) ((Q.length:Int)+1)=some x:=by
    have:=BJ (Q++[y]) x (R++post) (i:=(Q.length:Int)+1) (by simp)
    simpa using this
   have i0:idx (Q++y :: x :: (R++post)) (Q.length:Int)=some y:=BJ Q y _ rfl
   rw [e1,hlen]
   by_cases hc:cf x y < 0
   ·obtain ⟨Z,z1,z2,z3⟩:=ih Q (y :: R) post hQ (by omega) (fun z hz=>hf z (by simp [hz])) (hO.mono (fun z hz=>by simp at hz ⊢;rcases hz with h | h | h | h<;>simp [h])) (by simpa using hs) (fun r hr=>by rcases ad.1 hr with rfl | hr;exact hc;exact hR r hr) (fun z hz=>h2 z (by simp [hz]))
    refine ⟨Z,?_,z2.trans (by simp),z3⟩
    unfold uS at z1 ⊢
    rw [iter_eq,xU,if_pos (by simp only;omega)]
    simp only [i1,w1,i0,aa,hf y (by simp),hc,decide_true]
    unfold wj
    rw [if_pos rfl,w1]
    simp only [i0,i1,aa]
    have i2:idx ((Q++y :: x :: (R++post)).set ((Q.length:Int)+1).toNat y) (Q.length:Int)=some y:=by
     rw [show ((Q.length:Int)+1).toNat=Q.length+1 by omega]
     unfold idx
     rw [if_pos (by omega),List.getElem?_set_ne (by simp)]
     simp
    rw [i2]
    simp only [aa,bC]
    have e2:((Q++y :: x :: (R++post)).set ((Q.length:Int)+1).toNat y).set ((Q.length:Int)).toNat x=Q++x :: (y :: R++post):=by
     rw [show ((Q.length:Int)+1).toNat=Q.length+1 by omega,show ((Q.length:Int)).toNat=Q.length by omega,JW];simp
    rw [e2]
    exact z1
   ·refine ⟨Q++y :: x :: R,?_,?_,?_⟩
    ·unfold uS
     rw [iter_eq,xU,if_pos (by simp only;omega)]
     simp only [i1,w1,i0,aa,hf y (by simp),hc,decide_false]
     unfold wj
     rw [if_neg (by simp),aY];simp
    ·have:(Q++y :: x :: R).Perm (x :: (Q++y :: R)):=by
      have h:=c7 (a:=x) (l₁:=Q++[y]) (l₂:=R)
      simpa using h
     simpa using this
    ·unfold Sc at hs ⊢
     have C9:(Q++y :: R).Pairwise (fun a b=>¬ cf b a < 0∧(¬ cf a b < 0→G8 a b)):=by simpa using hs
     rw [bt,a7] at C9 ⊢
     obtain ⟨a1,⟨a2,a3⟩,a4⟩:=C9
     have hxQ:∀ q∈Q,¬ cf x q < 0:=fun q hq=>hO.ntr x (by simp) y (by simp) q (by simp [hq]) hc (a4 q hq y (by simp)).1
     refine ⟨a1,⟨fun z hz=>?_,a7.2 ⟨fun r hr=>⟨fun iW=>?_,fun Uv=>absurd (hR r hr) Uv⟩,a3⟩⟩,fun q hq z hz=>?_⟩
     ·rcases ad.1 hz with rfl | hz
      ·exact ⟨hc,fun _=>h2 y (by simp)⟩
      ·exact a2 z hz
     ·exact hO.LR x (by simp) (hO.tr x (by simp) r (by simp [hr]) x (by simp) (hR r hr) iW)
     ·rcases ad.1 hz with rfl | hz
      ·exact a4 q hq z (by simp)
      ·rcases ad.1 hz with rfl | hz
       ·exact ⟨hxQ q hq,fun _=>h2 q (by simp [hq])⟩
       ·exact a4 q hq z (by simp [hz])
theorem L7 {α:Type} (lS:α→α→Option Int) (cf:α→α→Int) (G8:α→α→Prop) (xs:List α) (hl:(xs.length:Int)≤100000) (hf:∀ x∈xs,∀ y∈xs,lS x y=some (cf x y)) (hO:Cu cf xs):∀ (n:Nat) (P post:List α) (i:Int),i=P.length→post.length=n→(P++post).Perm xs→Sc cf G8 P→(∀ y∈P,∀ z∈post,G8 y z)→post.Pairwise G8→
 ∃ Z,uT 0 xs.length lS (P++post) i=some Z∧Z.Perm xs∧Sc cf G8 Z:=by
 intro n
 induction n with
 | zero=>
   intro P post i hi hn hp hs h2 h3
   obtain rfl:post=[]:=c6 hn
   have hlen:=hp.length_eq
   simp only [c8] at hp hlen ⊢
   refine ⟨P,?_,hp,hs⟩
   unfold uT
   rw [iter_eq,xV,if_neg (by simp only;omega),aY]
 | succ n ih=>
   intro P post i hi hn hp hs h2 h3
   match post,hn with
   | x :: r,hn=>
     have hlen:=hp.length_eq
     simp only [bv,af] at hlen
     have lI:∀ z∈P++x :: r,z∈xs:=fun z hz=>hp.mem_iff.1 hz
     have Zy:=a7.1 h3
     obtain ⟨Z,z1,z2,z3⟩:=L6 lS cf G8 i (by omega) x P.length P [] r rfl (by omega) (fun y hy=>hf x (lI x (by simp)) y (lI y (by simp [hy]))) (hO.mono (fun z hz=>lI z (by simp at hz ⊢;rcases hz with h | h<;>simp [h]))) (by simpa using hs) (by simp) (fun y hy=>h2 y hy x (by simp))
     simp only [c8,bk] at z1 z2
     have YZ:=z2.length_eq
     obtain ⟨Y,y1,y2,y3⟩:=ih Z r (i+1) (by rw [hi];simp at YZ;omega) (by simpa using hn) (by
      refine List.Perm.trans ?_ hp
      have:(Z++r).Perm ((x :: P)++r):=z2.append_right r
      refine this.trans ?_
      have h:=c7 (a:=x) (l₁:=P) (l₂:=r)
      simpa using h.symm) z3 (fun y hy z hz=>by
       rcases ad.1 (z2.mem_iff.1 hy) with rfl | hy
       ·exact Zy.1 z hz
       ·exact h2 y hy z (ap _ hz)) Zy.2
     refine ⟨Y,?_,y2,y3⟩
     unfold uT at y1 ⊢
     rw [iter_eq,xV,if_pos (by simp only;omega)]
     simp only
     rw [← hi] at z1
     rw [z1]
     simp only [aa,bC]
     rw [bl (by omega) (by omega)]
     exact y1
theorem Rn {α:Type} (lS:α→α→Option Int) (cf:α→α→Int) (G8:α→α→Prop) (xs:List α) (hl:(xs.length:Int)≤100000) (hf:∀ x∈xs,∀ y∈xs,lS x y=some (cf x y)) (hO:Cu cf xs) (h2:xs.Pairwise G8):∃ Z,TF xs 0 xs.length lS=some Z∧Z.Perm xs∧Sc cf G8 Z:=by
 unfold TF
 rw [show bB (0+1)=1 by decide]
 cases xs with
 | nil=>
   refine ⟨[],?_,da _,.nil⟩
   unfold uT
   rw [iter_eq,xV,if_neg (by simp),aY]
 | cons x r=>
   have NB:=a7.1 h2
   exact L7 lS cf G8 (x :: r) hl hf hO r.length [x] r 1 (by simp) rfl (da _) (by simp [Sc]) (fun y hy z hz=>by
    rw [ai] at hy;subst hy;exact NB.1 z hz) NB.2
theorem rl {α σ A X:Type} (xs:List α) (mk:σ→Int→X) (f:X→Option (X⊕A)) (stp:σ→α→σ) (Inv:Int→σ→Prop) (E:σ→Option A)
 (h1:∀ s (i:Int) x,0≤i→i < xs.length→idx xs i=some x→Inv i s→f (mk s i)=some (.inl (mk (stp s x) (i+1)))∧Inv (i+1) (stp s x))
 (h2:∀ s,Inv xs.length s→f (mk s xs.length)=bw .inr (E s)) (s:σ) (h0:Inv 0 s):iter f (mk s 0)=E (xs.foldl stp s):=by
 have key:∀ (n:Nat) (s:σ) (i:Int),0≤i→i+n=xs.length→Inv i s→iter f (mk s i)=E ((xs.drop i.toNat).foldl stp s):=by
  intro n
  induction n with
  | zero=>
    intro s i hi hn hv
    have:i=xs.length:=by omega
    subst this
    rw [iter_eq,h2 s hv,aY]
    simp
  | succ n ih=>
    intro s i hi hn hv
    obtain ⟨x,hx,_,hd⟩:=ff xs hi (by omega)
    obtain ⟨e1,e2⟩:=h1 s i x hi (by omega) hx hv
    rw [iter_eq,e1]
    simp only [aa,bC]
    rw [ih _ _ (by omega) (by omega) e2,hd]
    rfl
 have:=key xs.length s 0 (by omega) (by omega) h0
 simpa using this
theorem foldl_filter {α:Type} (p:α→Bool):∀ (xs acc:List α),xs.foldl (fun acc x=>if p x=true then acc++[x] else acc) acc=acc++xs.filter p
 | [],acc=>by simp
 | x :: r,acc=>by
   rw [cc,foldl_filter p r,List.filter_cons]
   cases p x<;>simp
abbrev Ua {A:Type} (N:Nat) (Inv:Int→Prop) (R:A→Prop) (i:Int):Int⊕A→Prop
 | .inl j=>j=i+1∧i < N∧Inv (i+1)
 | .inr a=>R a
theorem Ok.Ro {A:Type} {f:Int→Option (Int⊕A)} {R:A→Prop} (N:Nat) (Inv:Int→Prop) (h0:Inv 0) (h:∀ i:Int,0≤i→i≤N→Inv i→Ok (f i) (Ua N Inv R i)):Ok (Eng.iter f 0) R:=by
 refine Ok.iter (fun i:Int=>N+1 - i.toNat) (fun i:Int=>(0≤i∧i≤N)∧Inv i) (fun i hi=>?_) 0 ⟨⟨by omega,by omega⟩,h0⟩
 refine (h i hi.1.1 hi.1.2 hi.2).mono (fun r hr=>?_)
 cases r with
 | inl j=>
   simp only [O4,Ua] at hr ⊢
   obtain ⟨rfl,h2,h3⟩:=hr
   exact ⟨⟨by omega,h3⟩,by omega⟩
 | inr a=>exact hr
theorem take_succ {α:Type} {xs:List α} {i:Int} {x:α} (h0:0≤i) (h:idx xs i=some x):xs.take (i+1).toNat=xs.take i.toNat++[x]:=by
 obtain ⟨_,h1,h2⟩:=jC h
 rw [show (i+1).toNat=i.toNat+1 by omega,List.take_add_one,h2];rfl
theorem Ok.Rp {σ A X:Type} {f:X→Option (X⊕A)} {R:A→Prop} (N:Nat) (mk:σ→Int→X) (Inv:Int→σ→Prop)
 (h:∀ s (i:Int),0≤i→i≤N→Inv i s→Ok (f (mk s i)) (fun r=>(∃ s',r=.inl (mk s' (i+1))∧i < N∧Inv (i+1) s')∨∃ a,r=.inr a∧R a)) (s:σ) (h0:Inv 0 s):Ok (Eng.iter f (mk s 0)) R:=by
 have key:∀ (k:Nat) (s:σ) (i:Int),0≤i→i≤N→i+k=N+1→Inv i s→Ok (Eng.iter f (mk s i)) R:=by
  intro k
  induction k with
  | zero=>
    intro s i hi hN hk hv
    omega
  | succ k ih=>
    intro s i hi hN hk hv
    obtain ⟨r,h1,h2⟩:=h s i hi hN hv
    rw [iter_eq,h1]
    rcases h2 with ⟨s',rfl,h3,h4⟩ | ⟨a,rfl,h3⟩
    ·simp only [aa,bC]
     exact ih s' (i+1) (by omega) (by omega) (by omega) h4
    ·exact ⟨a,rfl,h3⟩
 exact key (N+1) s 0 (by omega) (by omega) (by omega) h0
theorem Kt (x:Int) (r:List Int):pL (x :: r)=if x≠0 then x else pL r:=rfl
theorem uj.or {α:Type} {c:α→α→Int} {f:α→α→List Int} (h:uj c) (k:uj fun a b=>pL (f a b)):uj fun a b=>pL (c a b :: f a b):=h.lex k
theorem uj.or0 {α:Type}:uj (fun (_ _:α)=>pL []):=⟨fun _ _=>rfl,fun h _=>absurd h (by simp [pL]),fun _ h=>absurd h (by simp [pL])⟩
theorem Ku:∀ {l:List Int},pL l=0→∀ x∈l,x=0
 | [],_,x,hx=>by simp at hx
 | y :: r,h,x,hx=>by
   rw [Kt] at h
   by_cases h0:y=0
   ·rw [if_neg (by simpa using h0)] at h
    rcases ad.1 hx with rfl | hx
    ·exact h0
    ·exact Ku h x hx
   ·rw [if_pos h0] at h;exact absurd h h0
theorem Ub {cX at_:Int} (hz:-86400000≤cX∧cX≤86400000) (ha:0≤at_∧at_≤345686399999):
 (bB ((bB (at_+cX)).tmod 86400000+86400000)).tmod 86400000=(bB ((bB (at_+cX))+86400000)).tmod 86400000:=by
 rw [bl (x:=at_+cX) (by omega) (by omega),bl (x:=at_+cX+86400000) (by omega) (by omega),bx (a:=at_+cX+86400000) (by omega)]
 have hb:=Int.tmod_lt_of_pos (at_+cX) (show (0:Int) < 86400000 by omega)
 have hl:=Int.lt_tmod_of_pos (at_+cX) (show (0:Int) < 86400000 by omega)
 rw [bl (x:=(at_+cX).tmod 86400000+86400000) (by omega) (by omega),bx (a:=(at_+cX).tmod 86400000+86400000) (by omega)]
 by_cases h:0≤at_+cX
 ·rw [bx h];omega
 ·have:=Int.neg_tmod (-(at_+cX)) 86400000
  rw [Int.neg_neg,bx (show 0≤-(at_+cX) by omega)] at this
  rw [this];omega
theorem Kv (c:Campaign) {cX at_:Int} (hz:-86400000≤cX∧cX≤86400000) (ha:0≤at_∧at_≤345686399999):ji c cX at_=nI c cX at_:=by
 unfold ji nI nd uI nf uJ
 rw [Ub hz ha]
noncomputable def wO (c:Campaign) (a b:DeviceS):Int:=pL [er (qg c a.Key:Int) (qg c b.Key:Int),er (xY c a.Key) (xY c b.Key)]
theorem Zg (c:Campaign):uj (wO c):=(zn.on fun d:DeviceS=>(qg c d.Key:Int)).or ((zn.on fun d:DeviceS=>xY c d.Key).or .or0)
noncomputable def dO (c:Campaign) (a b:DeviceS):Int:=pL [er (qg c a.Key:Int) (qg c b.Key:Int),er (xY c a.Key) (xY c b.Key),Lib.compareBytes a.Key b.Key]
theorem Zh (c:Campaign):uj (dO c):=(zn.on fun d:DeviceS=>(qg c d.Key:Int)).or ((zn.on fun d:DeviceS=>xY c d.Key).or ((Cv.on DeviceS.Key).or .or0))
theorem ac7 (a b c:Int):pL [a,b,c]=if pL [a,b]≠0 then pL [a,b] else c:=by
 have e0:∀ r,pL (0 :: r)=pL r:=fun _=>rfl
 have e1:∀ (x:Int) r,x≠0→pL (x :: r)=x:=fun x r h=>if_pos h
 by_cases ha:a=0
 ·subst ha
  rw [e0,e0]
  by_cases hb:b=0
  ·subst hb
   rw [e0,e0,if_neg (fun z=>z rfl)]
   by_cases hc:c=0
   ·subst hc;rfl
   ·exact e1 c [] hc
  ·rw [e1 b _ hb,e1 b _ hb,if_pos hb]
 ·rw [e1 a _ ha,e1 a _ ha,if_pos ha]
theorem Zi (c:Campaign) (a b:DeviceS):dO c a b=if wO c a b≠0 then wO c a b else Lib.compareBytes a.Key b.Key:=by
 unfold dO wO
 exact ac7 _ _ _
theorem Uc {c:Campaign} {Z:List DeviceS} (h:Sc (wO c) (fun a b=>Lib.compareBytes a.Key b.Key < 0) Z):JV (dO c) Z:=by
 refine List.Pairwise.imp (fun {a b} DL Y9=>?_) h
 obtain ⟨h1,h2⟩:=DL
 have hn:=(Zg c).neg a b
 have hk:=Cv.neg a.Key b.Key
 rw [Zi] at Y9
 by_cases h0:wO c b a=0
 ·rw [if_neg (fun z=>z h0)] at Y9
  have:=h2 (by omega)
  omega
 ·rw [if_pos h0] at Y9
  exact h1 Y9
theorem Fx {c:Campaign} {Z Z':List DeviceS} (h1:JV (dO c) Z) (h2:JV (dO c) Z') (hp:Z.Perm Z') (hk:∀ a∈Z,∀ b∈Z,a.Key=b.Key→a=b):Z=Z':=
 AR hp h1 h2 fun a ha b hb k1 k2=>by
  have hn:=(Zh c).neg a b
  have h0:dO c a b=0:=by omega
  exact hk a ha b hb (xm (Ku h0 _ (by simp)))
theorem Zj (a b x y:Int):eF [a,b] [x,y]=some (pL [er a x,er b y]):=by
 have e:∀ n:Int,gi [a,b] [x,y] n=(bA [a,b] [x,y] n).bind (after fun z=>gi [a,b] [x,y] z):=fun n=>by
  unfold gi
  rw [iter_eq]
 have b0:bA [a,b] [x,y] 0=some (if er a x≠0 then .inr (er a x) else .inl 1):=by
  unfold bA
  rw [if_pos (by simp),show idx [a,b] (0:Int)=some a from rfl]
  simp only [aa]
  rw [if_neg (by simp),show idx [x,y] (0:Int)=some x from rfl]
  simp only [aa]
  rw [jK]
  by_cases h:er a x≠0
  ·rw [if_pos h,if_pos h];rfl
  ·rw [if_neg h,if_neg h,show bB (0+1)=1 by decide]
 have b1:bA [a,b] [x,y] 1=some (if er b y≠0 then .inr (er b y) else .inl 2):=by
  unfold bA
  rw [if_pos (by simp),show idx [a,b] (1:Int)=some b from rfl]
  simp only [aa]
  rw [if_neg (by simp),show idx [x,y] (1:Int)=some y from rfl]
  simp only [aa]
  rw [jK]
  by_cases h:er b y≠0
  ·rw [if_pos h,if_pos h];rfl
  ·rw [if_neg h,if_neg h,show bB (1+1)=2 by decide]
 have b2:bA [a,b] [x,y] 2=some (.inr 0):=by
  unfold bA iP
  rw [if_neg (by simp),if_neg (by simp)];rfl
 unfold eF
 rw [e 0,b0]
 simp only [aa,Kt]
 by_cases h:er a x≠0
 ·rw [if_pos h,if_pos h];rfl
 ·rw [if_neg h,if_neg h,bC,e 1,b1]
  simp only [aa]
  by_cases h':er b y≠0
  ·rw [if_pos h',if_pos h'];rfl
  ·rw [if_neg h',if_neg h',bC,e 2,b2];rfl
theorem zB {s:bn} (h:ql s=true):s.length≤1000:=by have:=xv h;omega
theorem Rq {c:Campaign} {fl:List DeviceS} {s:CS} {dn:List MarkS} (hc:lB c) (hf:mV fl) (h:SI c fl s dn) {a b:DeviceS} (ha:a∈fl) (hb:b∈fl):dA a b s=some (dO c a b):=by
 unfold dA pc
 rw [Il hf h.dq ha,Il hf h.dq hb,h.c_,Ih c a.Key (zB hc.key) (zB (hf.key a ha)),Ih c b.Key (zB hc.key) (zB (hf.key b hb))]
 simp only [aa,a8]
 rw [jK,jK,show mJ [er (qg c a.Key:Int) (qg c b.Key:Int),er (xY c a.Key) (xY c b.Key),Lib.compareBytes a.Key b.Key]=some (pL [er (qg c a.Key:Int) (qg c b.Key:Int),er (xY c a.Key) (xY c b.Key),Lib.compareBytes a.Key b.Key]) from AP _ (by simp)]
 rfl
theorem Ud {c:Campaign} {fl:List DeviceS} (hc:lB c) (hf:mV fl) {a b:DeviceS} (ha:a∈fl) (hb:b∈fl):mN a b c=some (wO c a b):=by
 unfold mN
 rw [zy c hc a.Key (hf.key a ha),zy c hc b.Key (hf.key b hb),Ii c a.Key (zB hc.key) (zB (hf.key a ha)),Ii c b.Key (zB hc.key) (zB (hf.key b hb))]
 simp only [aa]
 rw [Zj]
 rfl
theorem Kw (lS:DeviceS→DeviceS→Option Int) (cf:DeviceS→DeviceS→Int) (G8:DeviceS→DeviceS→Prop) (xs:List DeviceS) (hl:(xs.length:Int) < 20) (hf:∀ x∈xs,∀ y∈xs,lS x y=some (cf x y)) (hO:Cu cf xs) (h2:xs.Pairwise G8):
 ∃ Z,pb xs.length (fun r:List DeviceS=>r.length) (cK xs lS)=some Z∧Z.Perm xs∧Sc cf G8 Z:=by
 obtain ⟨Z,h1,h2,h3⟩:=Rn lS cf G8 xs (by omega) hf hO h2
 have DX:dB xs 0 xs.length lS=some Z:=h1
 have hlen:=h2.length_eq
 refine ⟨Z,?_,h2,h3⟩
 have hs:fy xs xs.length lS=some Z:=by
  unfold fy nL
  rw [iter_eq,ep,if_neg (by simp only;omega),aY]
  unfold jk
  simp only
  rw [wH DX hlen]
  simp only [aa]
  unfold nK
  rw [iter_eq,eo,if_neg (by omega),aY]
 refine wH ?_ hlen
 unfold cK
 rw [wH hs hlen];rfl
theorem L8 {c:Campaign} {fl:List DeviceS} {s:CS} {dn:List MarkS} (hc:lB c) (hf:mV fl) (hs:fl.Pairwise (fun a b=>Lib.compareBytes a.Key b.Key < 0)) (h:SI c fl s dn) (L:List DeviceS) (hL:L.Sublist fl) (hl:(L.length:Int) < 20):
 ∃ Z,pb L.length (fun r:List DeviceS=>r.length) (gC L (fun y0 y1=>dA y0 y1 s))=some Z∧pb L.length (fun r:List DeviceS=>r.length) (cK L (fun y0 y1=>mN y0 y1 c))=some Z∧Z.Perm L:=by
 have hm:∀ a∈L,a∈fl:=fun a ha=>hL.subset ha
 obtain ⟨Z,z1,z2,z3⟩:=JX (fun y0 y1=>dA y0 y1 s) (dO c) L (by omega) (fun a ha b hb=>Rq hc hf h (hm a ha) (hm b hb)) ((Zh c).ord L)
 obtain ⟨Z',y1,y2,y3⟩:=Kw (fun y0 y1=>mN y0 y1 c) (wO c) (fun a b=>Lib.compareBytes a.Key b.Key < 0) L hl (fun a ha b hb=>Ud hc hf (hm a ha) (hm b hb)) ((Zg c).ord L) (hs.sublist hL)
 have:Z=Z':=Fx z3 (Uc y3) (z2.trans y2.symm) fun a ha b hb hk=>by
  have ME:=hm a (z2.mem_iff.1 ha)
  have B6:=hm b (z2.mem_iff.1 hb)
  have wz:=hf.U2
  obtain ⟨i,hi,rfl⟩:=ce ME
  obtain ⟨j,hj,rfl⟩:=ce B6
  have:=zV wz i j _ _ (ci hi) (ci hj) hk
  subst this;rfl
 subst this
 exact ⟨Z,wH (show gC L (fun y0 y1=>dA y0 y1 s)=some Z from z1) z2.length_eq,y1,z2⟩
end Go.Beacon
set_option linter.unusedSectionVars false
namespace Go.Beacon
open Go Go.Eng
theorem CF {α:Type} [DecidableEq α]:∀ {p l:List α},p.Nodup→(∀ x∈p,x∈l)→p.length≤l.length
 | [],l,_,_=>Nat.zero_le _
 | x :: r,l,hn,hs=>by
   have Je:=dg.1 hn
   have hx:=hs x aw
   have h:=CF (p:=r) (l:=l.erase x) Je.2 (fun y hy=>(List.mem_erase_of_ne (fun e=>Je.1 (by rw [← e];exact hy))).2 (hs y (ap _ hy)))
   have e:=List.length_erase_of_mem hx
   have hp:=List.length_pos_of_mem hx
   rw [af];omega
def oL {V:Type} (cmp:V→V→Int):List V→List V→Int
 | [],[]=>0
 | [],_ :: _=>-1
 | _ :: _,[]=>1
 | a :: r,b :: s=>if cmp a b≠0 then cmp a b else oL cmp r s
theorem o0 {V:Type} (cmp:V→V→Int) (a b:V) (r s:List V):oL cmp (a :: r) (b :: s)=if cmp a b≠0 then cmp a b else oL cmp r s:=rfl
structure Net (V I:Type) where
 xA:I→V
 size:I→Int
 Rr:V→List I
 cmp:V→V→Int
structure Net.Good {V I:Type} (N:Net V I) (own:List I):Prop where
 neg:∀ a b,N.cmp b a=- N.cmp a b
 zero:∀ a b,N.cmp a b=0→a=b
 tr:∀ a b c,N.cmp a b≤0→N.cmp b c≤0→N.cmp a c≤0
 inn:∀ v,∀ x∈N.Rr v,x∈own
 inj:∀ x∈own,∀ y∈own,N.xA x=N.xA y→x=y
namespace Net
variable {V I:Type} (N:Net V I)
theorem Good.refl {own:List I} (h:N.Good own) (a:V):N.cmp a a=0:=by have:=h.neg a a;omega
theorem Good.CG {own:List I} (h:N.Good own):∀ l:List V,oL N.cmp l l=0
 | []=>rfl
 | a :: r=>by rw [o0,if_neg (by simpa using h.refl N a)];exact Good.CG h r
theorem Good.Fy {own:List I} (h:N.Good own):∀ a b:List V,oL N.cmp b a=- oL N.cmp a b
 | [],[]=>rfl
 | [],_ :: _=>rfl
 | _ :: _,[]=>rfl
 | x :: r,y :: s=>by
   rw [o0,o0]
   have e:=h.neg x y
   by_cases c:N.cmp x y=0
   ·rw [if_neg (by omega),if_neg (by omega)];exact Good.Fy h r s
   ·rw [if_pos (by omega),if_pos c,e]
theorem Good.CH {own:List I} (h:N.Good own):∀ a b:List V,oL N.cmp a b=0→a=b
 | [],[],_=>rfl
 | [],_ :: _,e=>by unfold oL at e;omega
 | _ :: _,[],e=>by unfold oL at e;omega
 | x :: r,y :: s,e=>by
   rw [o0] at e
   by_cases c:N.cmp x y=0
   ·rw [if_neg (by simpa using c)] at e
    rw [h.zero x y c,Good.CH h r s e]
   ·rw [if_pos c] at e;exact absurd e c
theorem Good.Iw {own:List I} (h:N.Good own):∀ a b c:List V,oL N.cmp a b≤0→oL N.cmp b c≤0→oL N.cmp a c≤0
 | [],[],_,_,h2=>h2
 | [],_ :: _,[],_,h2=>by unfold oL at h2;omega
 | [],_ :: _,_ :: _,_,_=>by unfold oL;omega
 | _ :: _,[],_,h1,_=>by unfold oL at h1;omega
 | _ :: _,_ :: _,[],_,h2=>by unfold oL at h2;omega
 | x :: r,y :: s,z :: t,h1,h2=>by
   rw [o0] at h1 h2 ⊢
   have e1:=h.neg x y
   have e2:=h.neg y z
   by_cases c1:N.cmp x y=0
   ·obtain rfl:=h.zero x y c1
    rw [if_neg (by simpa using c1)] at h1
    by_cases c2:N.cmp x z=0
    ·rw [if_neg (by simpa using c2)] at h2 ⊢
     exact Good.Iw h r s t h1 h2
    ·rw [if_pos c2] at h2 ⊢;exact h2
   ·rw [if_pos c1] at h1
    have h4:N.cmp y z≤0:=by
     by_cases c2:N.cmp y z=0
     ·omega
     ·rw [if_pos c2] at h2;exact h2
    have h3:=h.tr x y z h1 h4
    have h5:N.cmp x z≠0:=fun e=>by
     obtain rfl:=h.zero x z e
     have:=h.neg x y
     omega
    rw [if_pos h5];exact h3
theorem Kx (cmp:V→V→Int):∀ (a b:List V) (c d:List V),a.length=b.length→oL cmp (a++c) (b++d)=if oL cmp a b≠0 then oL cmp a b else oL cmp c d
 | [],[],c,d,_=>by simp [oL]
 | x :: r,y :: s,c,d,hl=>by
   rw [bz,bz,o0,o0]
   by_cases h:cmp x y=0
   ·have hn:¬ cmp x y≠0:=by simpa using h
    simp only [if_neg hn]
    exact Kx cmp r s c d (by simpa using hl)
   ·simp only [if_pos h]
 | [],_ :: _,_,_,h=>by simp at h
 | _ :: _,[],_,_,h=>by simp at h
def chain:V→List I→Prop
 | _,[]=>True
 | v,x :: r=>x∈N.Rr v∧chain (N.xA x) r
def fin:V→List I→V
 | v,[]=>v
 | _,x :: r=>fin (N.xA x) r
def Dg:List I→Int
 | []=>0
 | x :: r=>N.size x+Dg r
def kR (v:V) (p:List I) (w:V):Prop:=N.chain v p∧N.fin v p=w
theorem kR.cons {v w:V} {x:I} {r:List I}:N.kR v (x :: r) w↔x∈N.Rr v∧N.kR (N.xA x) r w:=by
 show (x∈N.Rr v∧N.chain (N.xA x) r)∧N.fin (N.xA x) r=w↔x∈N.Rr v∧(N.chain (N.xA x) r∧N.fin (N.xA x) r=w)
 exact and_assoc
theorem kR.nil {v w:V}:N.kR v [] w↔v=w:=by unfold kR chain fin;simp
theorem kR.snoc {x:I}:∀ {p:List I} {v w:V},N.kR v (p++[x]) w↔N.xA x=w∧∃ u,N.kR v p u∧x∈N.Rr u
 | [],v,w=>by
   rw [bk,kR.cons,kR.nil]
   constructor
   ·intro h;exact ⟨h.2,v,(kR.nil N).2 rfl,h.1⟩
   ·rintro ⟨h,u,h1,h2⟩;rw [kR.nil] at h1;subst h1;exact ⟨h2,h⟩
 | y :: r,v,w=>by
   rw [bz,kR.cons,kR.snoc]
   constructor
   ·rintro ⟨h1,h2,u,h3,h4⟩;exact ⟨h2,u,(kR.cons N).2 ⟨h1,h3⟩,h4⟩
   ·rintro ⟨h2,u,h3,h4⟩;rw [kR.cons] at h3;exact ⟨h3.1,h2,u,h3.2,h4⟩
theorem B3 (x:I) (r:List I):N.Dg (x :: r)=N.size x+N.Dg r:=rfl
theorem Fz (x:I):∀ p:List I,N.Dg (p++[x])=N.Dg p+N.size x
 | []=>by simp [Dg]
 | y :: r=>by rw [bz,Dg,Dg,Fz x r];omega
def Le (p q:List I):Prop:=p.length < q.length∨(p.length=q.length∧(N.Dg p < N.Dg q∨(N.Dg p=N.Dg q∧oL N.cmp (p.map N.xA) (q.map N.xA)≤0)))
def F6 (v w:V) (p:List I):Prop:=N.kR v p w∧∀ q,N.kR v q w→N.Le p q
theorem F6.unique {own:List I} (h:N.Good own) {v w:V} {p q:List I} (hp:N.F6 v w p) (hq:N.F6 v w q):p.map N.xA=q.map N.xA:=by
 have h1:=hp.2 q hq.1
 have h2:=hq.2 p hp.1
 have e:=h.Fy N (p.map N.xA) (q.map N.xA)
 refine h.CH N _ _ ?_
 unfold Le at h1 h2
 omega
def uF (a b:Int×Int):Prop:=a.1 < b.1∨(a.1=b.1∧a.2≤b.2)
variable [DecidableEq V] [DecidableEq I]
structure yl (own:List I) (to:V) (c:V→Option (Int×Int)):Prop where
 Ky:c to=some (0,0)
 sound:∀ v k,c v=some k→∃ p,N.kR v p to∧(p.length:Int)=k.1∧N.Dg p=k.2
 closed:∀ x∈own,∀ y∈N.Rr (N.xA x),∀ k,c (N.xA y)=some k→∃ k',c (N.xA x)=some k'∧uF k' (k.1+1,k.2+N.size y)
variable {N}
theorem yl.low {own:List I} {to:V} {c:V→Option (Int×Int)} (h:N.Good own) (C:N.yl own to c):∀ (p:List I) (v:V),(v=to∨∃ x∈own,N.xA x=v)→N.kR v p to→∃ k,c v=some k∧uF k (p.length,N.Dg p)
 | [],v,_,hw=>by
   rw [kR.nil] at hw;subst hw
   exact ⟨_,C.Ky,.inr ⟨rfl,bm _⟩⟩
 | x :: r,v,hv,hw=>by
   rw [kR.cons] at hw
   have hx:=h.inn v x hw.1
   obtain ⟨k,h1,h2⟩:=yl.low h C r (N.xA x) (.inr ⟨x,hx,rfl⟩) hw.2
   rcases hv with rfl | ⟨z,hz,rfl⟩
   ·refine ⟨_,C.Ky,?_⟩
    left;simp only [af];omega
   ·obtain ⟨k',h3,h4⟩:=C.closed z hz x hw.1 k h1
    refine ⟨k',h3,?_⟩
    rw [B3]
    unfold uF at *
    simp only [af] at *
    omega
inductive ot (N:Net V I) (c:V→Option (Int×Int)) (to:V):V→List I→Prop
 | nil:ot N c to to []
 | cons {v:V} {x:I} {r:List I} {k:Int×Int} (hv:v≠to) (hx:x∈N.Rr v) (hk:c (N.xA x)=some k)
  (hb:∀ y∈N.Rr v,∀ k',c (N.xA y)=some k'→k.1 < k'.1∨(k.1=k'.1∧(k.2+N.size x < k'.2+N.size y∨(k.2+N.size x=k'.2+N.size y∧N.cmp (N.xA x) (N.xA y)≤0))))
  (hr:ot N c to (N.xA x) r):ot N c to v (x :: r)
theorem ot.AZ {own:List I} {to:V} {c:V→Option (Int×Int)} (h:N.Good own) (C:N.yl own to c):∀ {p:List I} {v:V},ot N c to v p→N.F6 v to p∧((v=to∨∃ x∈own,N.xA x=v)→c v=some ((p.length:Int),N.Dg p))
 | [],v,hg=>by
   cases hg
   refine ⟨⟨(kR.nil N).2 rfl,fun q hq=>?_⟩,fun _=>C.Ky⟩
   unfold Le
   cases q with
   | nil=>right;refine ⟨rfl,.inr ⟨rfl,by simp [oL]⟩⟩
   | cons y s=>left;simp
 | x :: r,v,hg=>by
   cases hg with
   | @cons _ _ _ k hv hx hk hb hr=>
   obtain ⟨DI,KP⟩:=ot.AZ h C hr
   have WO:=h.inn v x hx
   have hc:=KP (.inr ⟨x,WO,rfl⟩)
   rw [hk] at hc
   obtain rfl:=ac hc
   have Rt:N.F6 v to (x :: r):=by
    refine ⟨(kR.cons N).2 ⟨hx,DI.1⟩,fun q hq=>?_⟩
    cases q with
    | nil=>exact absurd ((kR.nil N).1 hq) hv
    | cons y s=>
      rw [kR.cons] at hq
      have Xz:=h.inn v y hq.1
      obtain ⟨k',h1,h2⟩:=C.low h s (N.xA y) (.inr ⟨y,Xz,rfl⟩) hq.2
      have h3:=hb y hq.1 k' h1
      have key:r.length < s.length∨(r.length=s.length∧(N.Dg r+N.size x < N.Dg s+N.size y∨(N.Dg r+N.size x=N.Dg s+N.size y∧N.cmp (N.xA x) (N.xA y)≤0))):=by
       unfold uF at h2
       simp only at h2 h3
       omega
      unfold Le
      simp only [af,B3,bY]
      rcases key with k1 | ⟨k1,k2 | ⟨k2,k3⟩⟩
      ·left;omega
      ·right;exact ⟨by omega,.inl (by omega)⟩
      ·right
       refine ⟨by omega,?_⟩
       by_cases k4:N.cmp (N.xA x) (N.xA y)=0
       ·have exy:=h.inj x WO y Xz (h.zero _ _ k4)
        subst exy
        have hle:=DI.2 s hq.2
        unfold Le at hle
        rw [o0,if_neg (by simpa using k4)]
        omega
       ·rw [o0,if_pos k4]
        right;exact ⟨by omega,k3⟩
   refine ⟨Rt,fun WY=>?_⟩
   obtain ⟨k',h1,h2⟩:=C.low h (x :: r) v WY Rt.1
   obtain ⟨p,h3,h4,h5⟩:=C.sound v k' h1
   have h6:=Rt.2 p h3
   rw [h1]
   unfold Le at h6
   unfold uF at h2
   simp only at h2
   refine congrArg some (Prod.ext ?_ ?_)<;>simp only<;>omega
theorem ot.nodup {own:List I} {to:V} {c:V→Option (Int×Int)} (h:N.Good own) (C:N.yl own to c):∀ {p:List I} {v:V},ot N c to v p→p.Nodup∧(∀ x∈p,x∈own∧∃ k,c (N.xA x)=some k∧k.1 < p.length)
 | [],v,_=>⟨List.nodup_nil,fun x hx=>(by cases hx)⟩
 | x :: r,v,hg=>by
   cases hg with
   | @cons _ _ _ k hv hx hk hb hr=>
   obtain ⟨h1,h2⟩:=ot.nodup h C hr
   have WO:=h.inn v x hx
   have hc:=(ot.AZ h C hr).2 (.inr ⟨x,WO,rfl⟩)
   refine ⟨dg.2 ⟨fun hm=>?_,h1⟩,fun y hy=>?_⟩
   ·obtain ⟨_,k',h3,h4⟩:=h2 x hm
    rw [hc] at h3;obtain rfl:=ac h3
    simp only at h4;omega
   ·rcases ad.1 hy with rfl | hy
    ·exact ⟨WO,_,hc,by simp only [af];omega⟩
    ·obtain ⟨h3,k',h4,h5⟩:=h2 y hy
     exact ⟨h3,k',h4,by simp only [af];omega⟩
theorem ot.len {own:List I} {to:V} {c:V→Option (Int×Int)} (h:N.Good own) (C:N.yl own to c) {p:List I} {v:V} (hg:ot N c to v p):p.length≤own.length:=
 CF (ot.nodup h C hg).1 fun x hx=>((ot.nodup h C hg).2 x hx).1
structure Level (N:Net V I) (src:V) (k:Nat) (B:V→Option (List V×Int)):Prop where
 sound:∀ v t,B v=some t→∃ p,N.kR src p v∧p.length=k∧t.1=p.map N.xA∧t.2=N.Dg p
 AZ:∀ v p,N.kR src p v→p.length=k→∃ t,B v=some t∧(t.2 < N.Dg p∨(t.2=N.Dg p∧oL N.cmp t.1 (p.map N.xA)≤0))
theorem Level.zero (src:V) (B:V→Option (List V×Int)) (h:∀ v,B v=if v=src then some ([],0) else none):N.Level src 0 B:=by
 refine ⟨fun v t ht=>?_,fun v p hp hl=>?_⟩
 ·rw [h] at ht
  split at ht
  ·rename_i e
   obtain rfl:=ac ht
   exact ⟨[],(kR.nil N).2 e.symm,rfl,rfl,rfl⟩
  ·cases ht
 ·obtain rfl:=dk.1 hl
  rw [kR.nil] at hp
  refine ⟨([],0),by rw [h,if_pos hp.symm],.inr ⟨rfl,by simp [oL]⟩⟩
theorem Level.next {own:List I} (h:N.Good own) {src:V} {k:Nat} {B D:V→Option (List V×Int)} (L:N.Level src k B)
 (hs:∀ v t,D v=some t→∃ u s x,B u=some s∧x∈N.Rr u∧N.xA x=v∧t=(s.1++[N.xA x],s.2+N.size x))
 (hb:∀ u s x,B u=some s→x∈N.Rr u→∃ t,D (N.xA x)=some t∧(t.2 < s.2+N.size x∨(t.2=s.2+N.size x∧oL N.cmp t.1 (s.1++[N.xA x])≤0))):N.Level src (k+1) D:=by
 refine ⟨fun v t ht=>?_,fun v p hp hl=>?_⟩
 ·obtain ⟨u,s,x,h1,h2,h3,rfl⟩:=hs v t ht
  obtain ⟨p,h4,h5,h6,h7⟩:=L.sound u s h1
  refine ⟨p++[x],(kR.snoc N).2 ⟨h3,u,h4,h2⟩,by simp [h5],by simp [h6],?_⟩
  rw [Fz];simp only;omega
 ·rcases cb p with rfl | ⟨q,x,rfl⟩
  ·simp at hl
  ·rw [dl] at *
   obtain ⟨h1,u,h2,h3⟩:=(kR.snoc N).1 hp
   subst h1
   have hq:q.length=k:=by simpa using hl
   obtain ⟨s,h4,h5⟩:=L.AZ u q h2 hq
   obtain ⟨q',h8,h9,h10,h11⟩:=L.sound u s h4
   obtain ⟨t,h6,h7⟩:=hb u s x h4 h3
   refine ⟨t,h6,?_⟩
   rw [Fz,ds]
   rcases h7 with h7 | ⟨h7,h12⟩
   ·left;omega
   ·rcases h5 with h5 | ⟨h5,h13⟩
    ·left;omega
    ·right
     refine ⟨by omega,h.Iw N _ _ _ h12 ?_⟩
     rw [Kx N.cmp _ _ _ _ (by rw [h10,bo,bo];omega)]
     split
     ·exact h13
     ·rw [bY,List.map_nil,h.CG N];exact bm _
end Net
theorem zW {a b:Version} (h:iu a b=0):a=b:=by
 unfold iu at h
 rw [Y0,Wq] at h
 obtain ⟨a1,a2,a3⟩:=a
 obtain ⟨b1,b2,b3⟩:=b
 simp only at h
 by_cases c1:er a1 b1=0
 ·rw [if_neg (show ¬ er a1 b1≠0 from fun k=>k c1)] at h
  by_cases c2:er a2 b2=0
  ·rw [if_neg (show ¬ er a2 b2≠0 from fun k=>k c2)] at h
   rw [zR c1,zR c2,zR h]
  ·rw [if_pos c2] at h;exact absurd h c2
 ·rw [if_pos c1,if_pos c1] at h;exact absurd h c1
theorem FA {a b c:Version} (h1:iu a b≤0) (h2:iu b c≤0):iu a c≤0:=by
 by_cases c1:iu a b=0
 ·rw [zW c1];exact h2
 ·by_cases c2:iu b c=0
  ·rw [← zW c2];exact h1
  ·exact du (Ib.tr (a:=a) (b:=b) (d:=c) (by omega) (by omega))
instance:Cw Version where
 LR a:=by
  show (decide (a.aA < a.aA)||(decide (a.aA=a.aA)&&(decide (a.aC < a.aC)||(decide (a.aC=a.aC)&&(decide (a.aD < a.aD)||(decide (a.aD=a.aD)&&false))))))=false
  simp
 tr {a b c} h1 h2:=by
  have h1:(decide (a.aA < b.aA)||(decide (a.aA=b.aA)&&(decide (a.aC < b.aC)||(decide (a.aC=b.aC)&&(decide (a.aD < b.aD)||(decide (a.aD=b.aD)&&false))))))=true:=h1
  have h2:(decide (b.aA < c.aA)||(decide (b.aA=c.aA)&&(decide (b.aC < c.aC)||(decide (b.aC=c.aC)&&(decide (b.aD < c.aD)||(decide (b.aD=c.aD)&&false))))))=true:=h2
  show (decide (a.aA < c.aA)||(decide (a.aA=c.aA)&&(decide (a.aC < c.aC)||(decide (a.aC=c.aC)&&(decide (a.aD < c.aD)||(decide (a.aD=c.aD)&&false))))))=true
  simp at *;omega
 Xv a b:=by
  show (decide (a.aA < b.aA)||(decide (a.aA=b.aA)&&(decide (a.aC < b.aC)||(decide (a.aC=b.aC)&&(decide (a.aD < b.aD)||(decide (a.aD=b.aD)&&false))))))=true∨a=b∨(decide (b.aA < a.aA)||(decide (b.aA=a.aA)&&(decide (b.aC < a.aC)||(decide (b.aC=a.aC)&&(decide (b.aD < a.aD)||(decide (b.aD=a.aD)&&false))))))=true
  obtain ⟨a1,a2,a3⟩:=a
  obtain ⟨b1,b2,b3⟩:=b
  simp;omega
theorem Ru (L:List bn) (m:bn) (hl:L.length≤10000000):cC L m=some (decide (m∈L)):=by
 unfold cC iA
 have key:∀ (k:Nat) (n:Int),0≤n→n+k=L.length→∃ j,gD L m n=some j∧(0≤j↔m∈L.drop n.toNat):=by
  intro k
  induction k with
  | zero=>
    intro n h0 hn
    refine ⟨-1,?_,?_⟩
    ·unfold gD
     rw [iter_eq,dE,if_neg (by omega),aY]
    ·rw [be (by omega)];simp
  | succ k ih=>
    intro n h0 hn
    obtain ⟨s,hs,_,hd⟩:=ff L h0 (by omega)
    unfold gD
    rw [iter_eq,dE,if_pos (by omega),hs]
    simp only [aa]
    by_cases e:m=s
    ·rw [if_pos e,aY]
     exact ⟨n,rfl,by rw [hd,← e];simp;omega⟩
    ·rw [if_neg e,bl (by omega) (by omega)]
     simp only [aa,bC]
     obtain ⟨j,h1,h2⟩:=ih (n+1) (by omega) (by omega)
     exact ⟨j,h1,by rw [h2,hd];simp [e]⟩
 obtain ⟨j,h1,h2⟩:=key L.length 0 (by omega) (by omega)
 rw [h1]
 simp only [aa,Option.some.injEq]
 rw [decide_eq_decide,h2];simp
def F7 (m:bn) (x:an):Bool:=decide (m∈x.dc)
def ON (v:Version) (x:an):Bool:=x.bS.any (Fj v)
def eZ (l:List an) (m:bn) (v:Version):List an:=l.filter (fun x=>F7 m x&&ON v x)
def gZ (l:List an) (m:bn):List an:=l.filter (F7 m)
theorem Rv (l:List an) (m:bn) (v:Version):eZ (gZ l m) m v=eZ l m v:=by
 unfold eZ gZ
 rw [List.filter_filter]
 congr 1
 funext x
 cases F7 m x<;>simp
theorem Ix {x:an} (hx:FZ x) (m:bn):cC x.dc m=some (F7 m x):=by
 rw [Ru _ _ (by have:=hx.1;omega)];rfl
theorem No {x:an} (hx:FZ x) (v:Version):xM x v=some (ON v x):=Q1 x v (by have:=hx.2;omega)
theorem Np {x:an} (hx:FZ x) (v:Version):j6 x v=some (ON v x):=by rw [M8,No hx]
theorem Kz (l:List an) (m:bn) (v:Version) (hx:∀ x∈l,FZ x) (hn:l.length≤1000):ny l m v=some (eZ l m v):=by
 unfold ny vW
 have h:=rl l (fun (s:List an) (i:Int)=>(s,i)) (fun x:(List an)×Int=>fp l m v x.1 x.2) (fun acc x=>if (F7 m x&&ON v x)=true then acc++[x] else acc) (fun i s=>(s.length:Int)≤i) (fun s=>some s)
  (fun s i x h0 h1 hi hv=>by
   have hb:=hx x (uR hi)
   have w1:bB (i+1)=i+1:=bl (by omega) (by omega)
   show fp l m v s i=_∧_
   unfold fp
   rw [if_pos h1,hi]
   simp only [aa]
   rw [Ix hb]
   simp only [aa]
   by_cases c:F7 m x=true
   ·rw [if_pos c,Np hb]
    simp only [aa]
    unfold jT jS
    by_cases d:ON v x=true
    ·rw [if_pos d,pJ (by simp;omega)]
     refine ⟨by simp [w1,c,d],by simp [c,d];omega⟩
    ·rw [if_neg d]
     refine ⟨by simp [w1,c,d],by simp [c,d];omega⟩
   ·rw [if_neg c]
    unfold jT jS
    rw [if_neg (by simp)]
    refine ⟨by simp [w1,c],by simp [c];omega⟩)
  (fun s hv=>by
   show fp l m v s l.length=_
   unfold fp
   rw [if_neg (by omega)]) [] (by simp)
 rw [h,foldl_filter];rfl
def ZI:an:=⟨⟨0,0,0⟩,[],[],0⟩
theorem L9 (f:an→Option Bool) (p:an→Bool) (xs:List an) (hl:(xs.length:Int)≤100000) (hf:∀ x∈xs,f x=some (p x)):gH xs f=some (xs.filter (fun x=>!p x)):=MY ZI f p xs hl hf
theorem Ue (l:List an) (m:bn) (v:Version) (hx:∀ x∈l,FZ x) (hn:l.length≤1000):so l m v=some (eZ l m v):=by
 unfold so
 have hc:gQ l=some l:=by
  unfold gQ;rw [pJ (by simp;omega)];simp
 rw [hc]
 simp only [aa]
 rw [L9 _ (fun x=>!(F7 m x&&ON v x)) l (by omega) (fun x hm=>by
  have hb:=hx x hm
  unfold qU lx
  rw [Ix hb]
  simp only [aa]
  by_cases c:F7 m x=true
  ·rw [if_neg (by simp [c]),No hb]
   simp [c]
  ·rw [if_pos (by simpa using c)]
   simp [c])]
 simp only [aa,Bool.not_not]
 rfl
structure Nq (x:an):Prop where
 xA:lR x.Version=true
 size:1≤x.cM∧x.cM≤1000000000
 rng:∀ r∈x.bS,(lR r.wC=true∧lR r.mI=true)∧iu r.wC r.mI≤0
def ke (l:List an):Prop:=(∀ x∈l,Nq x)∧l.Pairwise (fun a b=>iu a.Version b.Version < 0)
theorem OO (x:an) (hx:FZ x):Ok (fR x) (fun r=>r=0→∀ r∈x.bS,(lR r.wC=true∧lR r.mI=true)∧iu r.wC r.mI≤0):=by
 have hl:=hx.2
 unfold fR
 rw [if_neg (by omega)]
 unfold nq
 refine Ok.Ro x.bS.length (fun i=>∀ r∈x.bS.take i.toNat,(lR r.wC=true∧lR r.mI=true)∧iu r.wC r.mI≤0) (by simp) (fun i h0 h1 hi=>?_)
 unfold fE
 have w1:bB (i+1)=i+1:=bl (by omega) (by omega)
 have w2:bB (i - 1)=i - 1:=bl (by omega) (by omega)
 split
 ·refine Ok.idx h0 (by assumption) (fun r hr hm=>?_)
  rw [jL,jL,rK]
  have bad:∀ c,c=true→Ok (df x i r c) (Ua x.bS.length (fun i=>∀ r∈x.bS.take i.toNat,(lR r.wC=true∧lR r.mI=true)∧iu r.wC r.mI≤0) (fun a=>a=0→∀ r∈x.bS,(lR r.wC=true∧lR r.mI=true)∧iu r.wC r.mI≤0) i):=by
   intro c hc
   unfold df
   rw [if_pos hc]
   exact Ok.inr (Ok.ret (fun h=>by cases h))
  by_cases c1:lR r.wC=true
  ·rw [if_neg (by simp [c1])]
   by_cases c2:lR r.mI=true
   ·rw [if_neg (by simp [c2])]
    simp only [aa]
    by_cases c3:0 < iu r.wC r.mI
    ·exact bad _ (by simp [c3])
    ·unfold df fD
     rw [if_neg (by simpa using c3)]
     have go:i < x.bS.length∧∀ q∈x.bS.take (i+1).toNat,(lR q.wC=true∧lR q.mI=true)∧iu q.wC q.mI≤0:=by
      refine ⟨by assumption,fun q hq=>?_⟩
      rw [take_succ h0 hr,al,ai] at hq
      rcases hq with hq | rfl
      ·exact hi q hq
      ·exact ⟨⟨c1,c2⟩,by omega⟩
     split
     ·rw [w2]
      refine Ok.idx (by omega) (by omega) (fun q hq TU=>?_)
      rw [rK]
      simp only [aa]
      split
      ·exact Ok.inr (Ok.ret (fun h=>by cases h))
      ·exact Ok.ret ⟨w1,go⟩
     ·rw [if_neg (by simp)];exact Ok.ret ⟨w1,go⟩
   ·rw [if_pos (by simpa using c2)];exact bad true rfl
  ·rw [if_pos (by simpa using c1)];exact bad true rfl
 ·refine Ok.inr ?_
  unfold jP
  rw [Np hx]
  simp only [aa]
  have Vh:∀ r∈x.bS,(lR r.wC=true∧lR r.mI=true)∧iu r.wC r.mI≤0:=by
   have e:x.bS.take i.toNat=x.bS:=cl (by omega)
   rw [e] at hi;exact hi
  split
  ·exact Ok.ret (fun _=>Vh)
  ·exact Ok.ret (fun _=>Vh)
theorem Uf {l:List an} {x:an} (h:l.Pairwise (fun a b=>iu a.Version b.Version < 0)) (hx:∀ y,l.getLast? =some y→iu y.Version x.Version < 0):(l++[x]).Pairwise (fun a b=>iu a.Version b.Version < 0):=by
 rw [bt]
 refine ⟨h,by simp,fun a ha b hb=>?_⟩
 obtain rfl:=ai.1 hb
 rcases cb l with rfl | ⟨r,y,rfl⟩
 ·cases ha
 ·rw [dl] at *
  have hy:=hx y (by simp)
  rcases al.1 ha with ha | ha
  ·rw [bt] at h
   exact Ib.tr (h.2.2 a ha y (by simp)) hy
  ·rw [ai.1 ha];exact hy
theorem OP {α:Type} {xs:List α} {i:Int} {x:α} (h0:0 < i) (h:idx xs (i - 1)=some x):(xs.take i.toNat).getLast? =some x:=by
 have:=take_succ (by omega) h
 rw [show i - 1+1=i by omega] at this
 rw [this];simp
def Nr (xs:List an) (i:Int):Prop:=(∀ x∈xs.take i.toNat,Nq x)∧(xs.take i.toNat).Pairwise (fun a b=>iu a.Version b.Version < 0)
theorem OQ (xs:List an) (hx:sy xs):Ok (eA xs) (fun r=>r=0→ke xs):=by
 have hl:=hx.1
 unfold eA
 rw [if_neg (by omega)]
 unfold nu
 refine Ok.Ro xs.length (Nr xs) ⟨by simp,by simp⟩ (fun i h0 h1 hi=>?_)
 have w1:bB (i+1)=i+1:=bl (by omega) (by omega)
 have w2:bB (i - 1)=i - 1:=bl (by omega) (by omega)
 unfold fG
 split
 ·rename_i ru
  refine Ok.idx h0 ru (fun x Mu hm=>?_)
  have hb:=hx.2 x hm
  rw [jL]
  have j1:∀ (c:Bool),lR x.Version=true→(c=false→∀ y,(xs.take i.toNat).getLast? =some y→iu y.Version x.Version < 0)→Ok (dD i x c) (Ua xs.length (Nr xs) (fun r=>r=0→ke xs) i):=by
   intro c hv hc
   unfold dD
   have hm:=hb.1
   split
   ·exact Ok.inr (Ok.ret (fun h=>by cases h))
   ·rename_i hcf
    have hc:=hc (by simpa using hcf)
    split
    ·exact Ok.inr (Ok.ret (fun h=>by cases h))
    ·split
     ·exact Ok.inr (Ok.ret (fun h=>by cases h))
     ·unfold nt
      refine Ok.range x.dc.length (fun k k0 k1=>?_)
      have v1:bB (k+1)=k+1:=bl (by omega) (by omega)
      have v2:bB (k - 1)=k - 1:=bl (by omega) (by omega)
      unfold fF
      split
      ·rename_i Ja
       refine Ok.idx k0 Ja (fun m hkm IB=>?_)
       have e:pz m=some (ql m):=Cy _
       rw [e]
       simp only [aa]
       split
       ·exact Ok.inr (Ok.inr (Ok.ret (fun h=>by cases h)))
       ·split
        ·rw [v2]
         refine Ok.idx (by omega) (by omega) (fun q hq TU=>?_)
         unfold eh
         split
         ·exact Ok.inr (Ok.inr (Ok.ret (fun h=>by cases h)))
         ·exact Ok.ret ⟨v1,Ja⟩
        ·unfold eh
         rw [if_neg (by simp)]
         exact Ok.ret ⟨v1,Ja⟩
      ·refine Ok.inr ?_
       unfold jQ
       refine Ok.bind (OO x hb) (fun r hr=>?_)
       split
       ·rename_i A2
        exact Ok.inr (Ok.ret (fun h=>absurd h A2))
       ·rename_i hz
        have hr:=hr (by simpa using hz)
        rw [wI]
        split
        ·exact Ok.inr (Ok.ret (fun h=>by cases h))
        ·rename_i hs
         have ok:Nq x:=⟨hv,by simpa using hs,hr⟩
         refine Ok.ret ⟨w1,ru,?_⟩
         unfold Nr
         rw [take_succ h0 Mu]
         refine ⟨fun y hy=>?_,Uf hi.2 hc⟩
         rcases al.1 hy with hy | hy
         ·exact hi.1 y hy
         ·rw [ai.1 hy];exact ok
  split
  ·exact Ok.inr (Ok.ret (fun h=>by cases h))
  ·rename_i hv
   have hv:lR x.Version=true:=by simpa using hv
   split
   ·rw [w2]
    refine Ok.idx (by omega) (by omega) (fun q hq TU=>?_)
    rw [rK]
    simp only [aa]
    refine j1 _ hv (fun hc y hy=>?_)
    rw [OP (by assumption) hq] at hy
    obtain rfl:=ac hy
    have:=BS x.Version q.Version
    simp at hc;omega
   ·refine j1 false hv (fun _ y hy=>?_)
    have:i=0:=by omega
    subst this
    simp at hy
 ·refine Ok.inr (Ok.ret (fun _=>?_))
  have e:xs.take i.toNat=xs:=cl (by omega)
  unfold Nr at hi
  rw [e] at hi;exact hi
abbrev CM:=List (Version×aq)
def CI (l:List an) (m:bn):Net Version an:=⟨an.Version,an.cM,eZ l m,iu⟩
theorem Rw:∀ {l:List an},l.Pairwise (fun a b=>iu a.Version b.Version < 0)→∀ x∈l,∀ y∈l,x.Version=y.Version→x=y
 | [],_,x,hx,_,_,_=>(by cases hx)
 | z :: r,h,x,hx,y,hy,e=>by
   have h':=a7.1 h
   have no:∀ w∈r,z.Version≠w.Version:=fun w hw e=>by
    have:=h'.1 w hw
    rw [e,Ib.zero] at this;omega
   rcases ad.1 hx with h1 | h1
   ·rcases ad.1 hy with h2 | h2
    ·rw [h1,h2]
    ·rw [h1] at e;exact absurd e (no y h2)
   ·rcases ad.1 hy with h2 | h2
    ·rw [h2] at e;exact absurd e.symm (no x h1)
    ·exact Rw h'.2 x h1 y h2 e
theorem uU {l:List an} {m:bn} {x:an} (h:x∈gZ l m):x∈l:=(cm.1 h).1
theorem qO {l:List an} {m:bn} {v:Version} {x:an} (h:x∈eZ l m v):x∈gZ l m:=by
 unfold eZ at h
 rw [cm,cn] at h
 exact cm.2 ⟨h.1,h.2.1⟩
theorem B4 {l:List an} {m:bn} (h:ke l):(CI l m).Good (gZ l m):=
 ⟨fun a b=>BS a b,fun a b=>zW,fun a b c=>FA,fun v x hx=>qO hx,fun x hx y hy e=>Rw h.2 x (uU hx) y (uU hy) e⟩
theorem B5 {l:List an} {m:bn}:∀ {p:List an} {v w:Version},(CI l m).kR v p w→∀ x∈p,x∈gZ l m
 | [],_,_,_,x,hx=>(by cases hx)
 | y :: r,v,w,h,x,hx=>by
   rw [Net.kR.cons] at h
   rcases ad.1 hx with rfl | hx
   ·exact qO h.1
   ·exact B5 h.2 x hx
theorem Ma {l:List an} {m:bn} (iv:∀ x∈l,Nq x):∀ {p:List an},(∀ x∈p,x∈gZ l m)→0≤(CI l m).Dg p∧(CI l m).Dg p≤1000000000 * p.length
 | [],_=>by simp [Net.Dg]
 | y :: r,h=>by
   have h1:=(iv y (uU (h y aw))).size
   have h2:=Ma iv (p:=r) (fun x hx=>h x (ap _ hx))
   rw [Net.B3]
   show 0≤y.cM+_∧y.cM+_≤_
   simp only [af]
   omega
def F8 (M:CM) (v:Version):Option (Int×Int):=(bc M v).map (fun c=>(c.bX,c.bM))
def mZ (a b:Int×Int):Prop:=a.1 < b.1∨(a.1=b.1∧a.2 < b.2)
instance (a b:Int×Int):Decidable (mZ a b):=by unfold mZ;exact inferInstance
abbrev RS:=Bool×Int×Int×Bool
def RS.c (s:RS):Int×Int:=(s.2.1,s.2.2.1)
def IH (M:CM) (s:RS) (y:an):RS:=
 match bc M y.Version with
 | none=>s
 | some c=>if s.2.2.2=false∨mZ (c.bX+1,c.bM+y.cM) s.c then (true,c.bX+1,c.bM+y.cM,true) else s
theorem G9 (a b:aq):lW a b=some (pL [er a.bX b.bX,er a.bM b.bM]):=by
 unfold lW
 rw [jK,jK]
 have h:mJ [er a.bX b.bX,er a.bM b.bM]=some (pL [er a.bX b.bX,er a.bM b.bM]):=AP _ (by simp)
 rw [h];rfl
theorem Ha (a b c d:Int):decide (pL [er a c,er b d] < 0)=decide (mZ (a,b) (c,d)):=by
 rw [decide_eq_decide]
 unfold mZ er
 simp only [pL]
 repeat' split
 all_goals omega
structure Zk (M:CM) (ys:List an) (s r:RS):Prop where
 mB:s.2.2.2=true→r.2.2.2=true∧Net.uF r.c s.c
 all:∀ y∈ys,∀ c,bc M y.Version=some c→r.2.2.2=true∧Net.uF r.c (c.bX+1,c.bM+y.cM)
 one:r=s∨(r.1=true∧r.2.2.2=true∧(∃ y∈ys,∃ c,bc M y.Version=some c∧r.c=(c.bX+1,c.bM+y.cM))∧(s.2.2.2=false∨mZ r.c s.c))
theorem KA (M:CM):∀ (ys:List an) (s:RS),Zk M ys s (ys.foldl (IH M) s)
 | [],s=>⟨fun h=>⟨h,.inr ⟨rfl,bm _⟩⟩,fun y hy=>(by cases hy),.inl rfl⟩
 | y :: r,s=>by
   rw [cc]
   have ih:=KA M r (IH M s y)
   generalize hR:r.foldl (IH M) (IH M s y)=R at ih
   cases hg:bc M y.Version with
   | none=>
     have e:IH M s y=s:=by unfold IH;rw [hg]
     rw [e] at ih
     refine ⟨ih.mB,fun z hz c hc=>?_,?_⟩
     ·rcases ad.1 hz with rfl | hz
      ·rw [hg] at hc;cases hc
      ·exact ih.all z hz c hc
     ·rcases ih.one with h | ⟨h1,h2,⟨z,hz,c,h3⟩,h4⟩
      ·exact .inl h
      ·exact .inr ⟨h1,h2,⟨z,ap _ hz,c,h3⟩,h4⟩
   | some c=>
     by_cases hc:s.2.2.2=false∨mZ (c.bX+1,c.bM+y.cM) s.c
     ·have e:IH M s y=(true,c.bX+1,c.bM+y.cM,true):=by unfold IH;rw [hg];simp only;rw [if_pos hc]
      rw [e] at ih
      have k:=ih.mB rfl
      have kc:RS.c (true,c.bX+1,c.bM+y.cM,true)=(c.bX+1,c.bM+y.cM):=rfl
      rw [kc] at k
      refine ⟨fun hs=>⟨k.1,?_⟩,fun z hz c' xx=>?_,?_⟩
      ·rcases hc with hc | hc
       ·rw [hs] at hc;cases hc
       ·have k2:=k.2
        unfold Net.uF at *;unfold mZ at hc;omega
      ·rcases ad.1 hz with rfl | hz
       ·rw [hg] at xx;obtain rfl:=ac xx;exact k
       ·exact ih.all z hz c' xx
      ·right
       rcases ih.one with h | ⟨h1,h2,⟨z,hz,c',h3,h5⟩,h4⟩
       ·subst h
        exact ⟨rfl,rfl,⟨y,aw,c,hg,rfl⟩,hc⟩
       ·refine ⟨h1,h2,⟨z,ap _ hz,c',h3,h5⟩,?_⟩
        rcases hc with hc | hc
        ·exact .inl hc
        ·right
         have k2:=k.2
         unfold Net.uF at k2;unfold mZ at *;omega
     ·have e:IH M s y=s:=by unfold IH;rw [hg];simp only;rw [if_neg hc]
      rw [e] at ih
      rw [not_or] at hc
      have hs:s.2.2.2=true:=by simpa using hc.1
      refine ⟨ih.mB,fun z hz c' xx=>?_,?_⟩
      ·rcases ad.1 hz with rfl | hz
       ·rw [hg] at xx;obtain rfl:=ac xx
        have k:=ih.mB hs
        refine ⟨k.1,?_⟩
        have k2:=k.2
        have k3:=hc.2
        unfold mZ at k3;unfold Net.uF at *;omega
       ·exact ih.all z hz c' xx
      ·rcases ih.one with h | ⟨h1,h2,⟨z,hz,c',h3⟩,h4⟩
       ·exact .inl h
       ·exact .inr ⟨h1,h2,⟨z,ap _ hz,c',h3⟩,h4⟩
structure uV (l:List an) (m:bn) (to:Version) (M:CM):Prop where
 sm:SM M
 Ky:bc M to=some ⟨0,0⟩
 sound:∀ v c,bc M v=some c→∃ p,(CI l m).kR v p to∧(p.length:Int)=c.bX∧(CI l m).Dg p=c.bM
 keys:∀ v c,bc M v=some c→v=to∨∃ x∈gZ l m,x.Version=v
 few:∀ v c,bc M v=some c→c.bX+1≤M.length
theorem uV.len {l:List an} {m:bn} {to:Version} {M:CM} (h:uV l m to M) (hl:l.length≤8):M.length≤9:=by
 have h1:(M.map Prod.fst).length≤(to :: (gZ l m).map an.Version).length:=CF h.sm.nodup (fun v hv=>by
  obtain ⟨e,he,rfl⟩:=b4.1 hv
  rcases h.keys e.1 e.2 (h.sm.DS.2 he) with k | ⟨x,hx,k⟩
  ·rw [k];exact aw
  ·rw [← k];exact ap _ (List.mem_map_of_mem hx))
 have h2:(gZ l m).length≤l.length:=aI _ _
 simp only [bo,af] at h1
 omega
theorem uV.bd {l:List an} {m:bn} {to:Version} {M:CM} (h:uV l m to M) (hl:l.length≤8) (iv:ke l) {v:Version} {c:aq} (hc:bc M v=some c):(0≤c.bX∧c.bX≤8)∧0≤c.bM∧c.bM≤8000000000:=by
 obtain ⟨p,h1,h2,h3⟩:=h.sound v c hc
 have h4:=h.few v c hc
 have h5:=h.len hl
 have h6:=Ma iv.1 (B5 h1)
 omega
theorem KC (l:List an) (m:bn) (to:Version) (hl:l.length≤8) (iv:ke l) (M:CM) (hM:uV l m to M) (n37:Int) (h37:0≤n37∧n37≤100) (x:an) (s:RS) (ys:List an) (ZP:∀ y∈ys,y∈l) (hn:ys.length≤8):
 sc M n37 x ys s.1 s.2.1 s.2.2.1 s.2.2.2 0=some (.inl (if (ys.foldl (IH M) s).2.2.2=true then bW M x.Version ⟨(ys.foldl (IH M) s).2.1,(ys.foldl (IH M) s).2.2.1⟩ else M,(ys.foldl (IH M) s).1,n37+1)):=by
 unfold sc
 have h:=rl ys (fun (s:RS) (i:Int)=>(s.1,s.2.1,s.2.2.1,s.2.2.2,i)) (fun Zl:Bool×Int×Int×Bool×Int=>fq M n37 x ys Zl.1 Zl.2.1 Zl.2.2.1 Zl.2.2.2.1 Zl.2.2.2.2) (IH M) (fun _ _=>True) (fun s=>pf M n37 x s.1 s.2.1 s.2.2.1 s.2.2.2)
  (fun s i y h0 h1 hi _=>by
   refine ⟨?_,trivial⟩
   have w1:bB (i+1)=i+1:=bl (by omega) (by omega)
   have hy:=(iv.1 y (ZP y (uR hi))).size
   obtain ⟨ag,k,z,is⟩:=s
   show fq M n37 x ys ag k z is i=_
   unfold fq
   rw [if_pos h1,hi]
   simp only [aa]
   unfold uD IH
   cases hg:bc M y.Version with
   | none=>
     simp only [cp,b5,aa,aK,if_false]
     unfold gE iB
     rw [if_neg (by simp),w1]
   | some c=>
     have hb:=hM.bd hl iv hg
     have v1:bB (c.bX+1)=c.bX+1:=bl (by omega) (by omega)
     have v2:bB (c.bM+y.cM)=c.bM+y.cM:=bl (by omega) (by omega)
     simp only [a8,b6,aa,if_true,v1,v2]
     cases is with
     | false=>
       simp only [cv,if_true,true_or]
       unfold gE iB
       rw [if_pos rfl,v1,v2,w1]
     | true=>
       simp only [cP,aK,if_false,dy,false_or]
       rw [G9]
       simp only [aa]
       rw [Ha]
       unfold gE iB
       simp only [v1,v2,w1,RS.c]
       by_cases hc:mZ (c.bX+1,c.bM+y.cM) (k,z)
       ·rw [if_pos (by simpa using hc)];simp [hc]
       ·rw [if_neg (by simpa using hc)];simp [hc])
  (fun s _=>by
   show fq M n37 x ys s.1 s.2.1 s.2.2.1 s.2.2.2 ys.length=_
   unfold fq
   rw [if_neg (by omega)]) s trivial
 rw [h]
 unfold pf mn
 rw [bl (by omega) (by omega)]
 split<;>rfl
def Dh (l:List an) (m:bn) (M:CM) (ag:Bool) (x:an):RS:=(eZ l m x.Version).foldl (IH M) (ag,((bc M x.Version).getD ⟨0,0⟩).bX,((bc M x.Version).getD ⟨0,0⟩).bM,(bc M x.Version).isSome)
def Di (l:List an) (m:bn) (M:CM) (ag:Bool) (x:an):CM:=if (Dh l m M ag x).2.2.2=true then bW M x.Version ⟨(Dh l m M ag x).2.1,(Dh l m M ag x).2.2.1⟩ else M
def vz (l:List an) (m:bn) (M:CM) (x:an):Prop:=∀ y∈eZ l m x.Version,∀ k,F8 M y.Version=some k→∃ k',F8 M x.Version=some k'∧Net.uF k' (k.1+1,k.2+y.cM)
def Down (M M':CM):Prop:=∀ v c,bc M v=some c→∃ c',bc M' v=some c'∧Net.uF (c'.bX,c'.bM) (c.bX,c.bM)
theorem Down.refl (M:CM):Down M M:=fun v c h=>⟨c,h,.inr ⟨rfl,bm _⟩⟩
theorem Down.trans {A B C:CM} (h1:Down A B) (h2:Down B C):Down A C:=fun v c h=>by
 obtain ⟨c',h3,h4⟩:=h1 v c h
 obtain ⟨d,h5,h6⟩:=h2 v c' h3
 refine ⟨d,h5,?_⟩
 unfold Net.uF at *;simp only at *;omega
def Rx (M M':CM) (v:Version):Prop:=∃ c',bc M' v=some c'∧∀ c,bc M v=some c→mZ (c'.bX,c'.bM) (c.bX,c.bM)
theorem Mb (l:List an) (m:bn) (to:Version) (hl:l.length≤8) (iv:ke l) (M:CM) (hM:uV l m to M) (ag:Bool) (x:an) (hx:x∈gZ l m):
 uV l m to (Di l m M ag x)∧Down M (Di l m M ag x)∧
 (((Dh l m M ag x).1=ag∧(∀ v,bc (Di l m M ag x) v=bc M v)∧vz l m M x)∨((Dh l m M ag x).1=true∧Rx M (Di l m M ag x) x.Version)):=by
 have sp:=KA M (eZ l m x.Version) (ag,((bc M x.Version).getD ⟨0,0⟩).bX,((bc M x.Version).getD ⟨0,0⟩).bM,(bc M x.Version).isSome)
 have Pb:(eZ l m x.Version).foldl (IH M) (ag,((bc M x.Version).getD ⟨0,0⟩).bX,((bc M x.Version).getD ⟨0,0⟩).bM,(bc M x.Version).isSome)=Dh l m M ag x:=rfl
 rw [Pb] at sp
 unfold Di
 generalize hR:Dh l m M ag x=R at sp
 clear Pb
 have aaA:R.2.2.2=true→(∀ v,bc M v=bc M v)→True:=fun _ _=>trivial
 rcases sp.one with h | ⟨h1,h2,⟨y,hy,c,h3,h4⟩,h5⟩
 ·
  have same:∀ v,bc (if R.2.2.2=true then bW M x.Version ⟨R.2.1,R.2.2.1⟩ else M) v=bc M v:=by
   intro v
   rw [h]
   simp only
   cases hg:bc M x.Version with
   | none=>simp
   | some c=>
     simp only [b6,if_true,a8]
     rw [iG]
     split
     ·rename_i e;subst e;exact hg.symm
     ·rfl
  have PU:(if R.2.2.2=true then bW M x.Version ⟨R.2.1,R.2.2.1⟩ else M)=M:=by
   refine DT ?_ hM.sm same
   split
   ·exact hM.sm.set _ _
   ·exact hM.sm
  rw [PU]
  refine ⟨hM,Down.refl M,.inl ⟨by rw [h],fun v=>rfl,fun y hy k hk=>?_⟩⟩
  unfold F8 at hk ⊢
  cases hg:bc M y.Version with
  | none=>rw [hg] at hk;cases hk
  | some c=>
    rw [hg] at hk
    obtain rfl:=ac hk
    obtain ⟨e1,e2⟩:=sp.all y hy c hg
    rw [h] at e1 e2
    cases hgx:bc M x.Version with
    | none=>rw [hgx] at e1;simp at e1
    | some d=>
      rw [hgx] at e2
      exact ⟨_,rfl,e2⟩
 ·
  rw [if_pos h2]
  have Xz:=qO hy
  have WZ:=hM.bd hl iv h3
  have hsy:=(iv.1 y (uU Xz)).size
  have e4:R.2.1=c.bX+1∧R.2.2.1=c.bM+y.cM:=by
   have:=h4;unfold RS.c at this;exact ⟨congrArg Prod.fst this,congrArg Prod.snd this⟩
  have bet:∀ d,bc M x.Version=some d→mZ (R.2.1,R.2.2.1) (d.bX,d.bM):=by
   intro d hd
   rcases h5 with h5 | h5
   ·rw [hd] at h5;simp at h5
   ·rw [hd] at h5;exact h5
  have NR:x.Version≠to:=by
   intro e
   have:=bet ⟨0,0⟩ (by rw [e];exact hM.Ky)
   unfold mZ at this;simp only at this
   omega
  have hlen:M.length≤(bW M x.Version (⟨R.2.1,R.2.2.1⟩:aq)).length:=by
   cases hg:bc M x.Version with
   | none=>rw [xW hg];omega
   | some d=>rw [H9 hM.sm hg];exact cQ _
  refine ⟨⟨hM.sm.set _ _,?_,?_,?_,?_⟩,?_,.inr ⟨h1,?_⟩⟩
  ·rw [iG,if_neg NR];exact hM.Ky
  ·intro v d hd
   rw [iG] at hd
   split at hd
   ·rename_i e
    subst e
    obtain rfl:=ac hd
    obtain ⟨p,q1,q2,q3⟩:=hM.sound y.Version c h3
    refine ⟨y :: p,(Net.kR.cons _).2 ⟨hy,q1⟩,?_,?_⟩
    ·simp only [af];omega
    ·rw [Net.B3]
     show y.cM+_=R.2.2.1
     omega
   ·exact hM.sound v d hd
  ·intro v d hd
   rw [iG] at hd
   split at hd
   ·rename_i e;exact .inr ⟨x,hx,e⟩
   ·exact hM.keys v d hd
  ·intro v d hd
   rw [iG] at hd
   split at hd
   ·rename_i e
    subst e
    obtain rfl:=ac hd
    have hf:=hM.few y.Version c h3
    show R.2.1+1≤_
    cases hg:bc M x.Version with
    | none=>rw [xW hg];omega
    | some d=>
      have hb:=bet d hg
      have hf2:=hM.few x.Version d hg
      unfold mZ at hb;simp only at hb
      omega
   ·have:=hM.few v d hd;omega
  ·intro v d hd
   rw [iG]
   split
   ·rename_i e
    subst e
    refine ⟨_,rfl,?_⟩
    have:=bet d hd
    unfold mZ at this;unfold Net.uF;simp only at *;omega
   ·exact ⟨d,hd,.inr ⟨rfl,bm _⟩⟩
  ·exact ⟨⟨R.2.1,R.2.2.1⟩,by rw [iG,if_pos rfl],fun d hd=>bet d hd⟩
def Ug (o:Option aq):Nat:=match o with
 | none=>10000000000000
 | some c=>(c.bX * 100000000000+c.bM).toNat
def mu (own:List an) (M:CM):Nat:=(own.map (fun x=>Ug (bc M x.Version))).sum
theorem FB {α:Type} (f g:α→Nat):∀ (l:List α),(∀ x∈l,f x≤g x)→(l.map f).sum≤(l.map g).sum
 | [],_=>by simp
 | x :: r,h=>by
   have h1:=h x aw
   have h2:=FB f g r (fun y hy=>h y (ap _ hy))
   simp only [bY,dQ];omega
theorem Ry {α:Type} (f g:α→Nat):∀ (l:List α),(∀ x∈l,f x≤g x)→(∃ x∈l,f x < g x)→(l.map f).sum < (l.map g).sum
 | [],_,h=>by obtain ⟨x,hx,_⟩:=h;cases hx
 | x :: r,h,he=>by
   have h1:=h x aw
   have h2:=FB f g r (fun y hy=>h y (ap _ hy))
   simp only [bY,dQ]
   obtain ⟨y,hy,iW⟩:=he
   rcases ad.1 hy with rfl | hy
   ·omega
   ·have:=Ry f g r (fun y hy=>h y (ap _ hy)) ⟨y,hy,iW⟩
    omega
theorem WQ {l:List an} {m:bn} {to:Version} {M M':CM} (hl:l.length≤8) (iv:ke l) (h:uV l m to M) (h':uV l m to M') {v:Version} (hb:Rx M M' v):Ug (bc M' v) < Ug (bc M v):=by
 obtain ⟨c',h1,h2⟩:=hb
 have b1:=h'.bd hl iv h1
 rw [h1]
 cases hg:bc M v with
 | none=>simp only [Ug];omega
 | some c=>
   have b2:=h.bd hl iv hg
   have:=h2 c hg
   unfold mZ at this
   simp only [Ug] at *
   omega
theorem Iy {l:List an} {m:bn} {to:Version} {M M':CM} (hl:l.length≤8) (iv:ke l) (h:uV l m to M) (h':uV l m to M') (hd:Down M M') (v:Version):Ug (bc M' v)≤Ug (bc M v):=by
 cases hg:bc M v with
 | none=>
   cases O0:bc M' v with
   | none=>exact cQ _
   | some c'=>
     have b1:=h'.bd hl iv O0
     simp only [Ug];omega
 | some c=>
   obtain ⟨c',h1,h2⟩:=hd v c hg
   have b1:=h'.bd hl iv h1
   have b2:=h.bd hl iv hg
   rw [h1]
   unfold Net.uF at h2
   simp only [Ug] at *
   omega
structure Round (l:List an) (m:bn) (to:Version) (M0:CM) (i:Int) (s:CM×Bool):Prop where
 inv:uV l m to s.1
 down:Down M0 s.1
 yes:s.2=true→mu (gZ l m) s.1 < mu (gZ l m) M0
 no:s.2=false→(∀ v,bc s.1 v=bc M0 v)∧∀ x∈(gZ l m).take i.toNat,vz l m M0 x
theorem Dj {l:List an} {m:bn} {M M':CM} {x:an} (h:∀ v,bc M' v=bc M v) (hc:vz l m M' x):vz l m M x:=by
 unfold vz F8 at *
 simpa only [h] using hc
theorem KD (l:List an) (m:bn) (to:Version) (hl:l.length≤8) (iv:ke l) (M0:CM) (hM:uV l m to M0) (nx:List (List an)) (O7:nx=(gZ l m).map (fun x=>eZ l m x.Version)):
 Ok (sd (gZ l m) nx M0 false 0) (fun r=>∃ M ag,r=.inl (M,ag)∧Round l m to M0 (gZ l m).length (M,ag)):=by
 unfold sd
 have ho:(gZ l m).length≤l.length:=aI _ _
 refine Ok.Rp (gZ l m).length (fun (s:CM×Bool) (i:Int)=>(s.1,s.2,i)) (Round l m to M0) ?_ (M0,false) ⟨hM,Down.refl _,fun h=>(by cases h),fun _=>⟨fun v=>rfl,by simp⟩⟩
 rintro ⟨M,ag⟩ i h0 h1 hr
 show Ok (jU (gZ l m) nx M ag i) _
 unfold jU
 split
 ·rename_i hi
  refine Ok.idx h0 hi (fun x Mu z7=>?_)
  unfold uD
  simp only [aa]
  have e2:idx nx i=some (eZ l m x.Version):=by rw [O7,TP,Mu];rfl
  rw [e2]
  simp only [aa]
  have e5:=KC l m to hl iv M hr.inv i ⟨h0,by omega⟩ x (ag,((bc M x.Version).getD ⟨0,0⟩).bX,((bc M x.Version).getD ⟨0,0⟩).bM,(bc M x.Version).isSome) (eZ l m x.Version) (fun y hy=>uU (qO hy)) (dR (aI _ _) hl)
  simp only at e5
  rw [e5]
  refine Ok.ret (.inl ⟨(Di l m M ag x,(Dh l m M ag x).1),rfl,hi,?_⟩)
  obtain ⟨f1,f2,f3⟩:=Mb l m to hl iv M hr.inv ag x z7
  have hle:mu (gZ l m) (Di l m M ag x)≤mu (gZ l m) M:=FB _ _ _ (fun z _=>Iy hl iv hr.inv f1 f2 z.Version)
  have an3:mu (gZ l m) M≤mu (gZ l m) M0:=FB _ _ _ (fun z _=>Iy hl iv hM hr.inv hr.down z.Version)
  refine ⟨f1,hr.down.trans f2,fun hy=>?_,fun hn=>?_⟩
  ·rcases f3 with ⟨g1,g2,g3⟩ | ⟨g1,g2⟩
   ·simp only at hy
    rw [g1] at hy
    have:=hr.yes hy
    simp only at this ⊢
    omega
   ·have:mu (gZ l m) (Di l m M ag x) < mu (gZ l m) M:=Ry _ _ _ (fun z _=>Iy hl iv hr.inv f1 f2 z.Version) ⟨x,z7,WQ hl iv hr.inv f1 g2⟩
    simp only;omega
  ·rcases f3 with ⟨g1,g2,g3⟩ | ⟨g1,g2⟩
   ·simp only at hn
    rw [g1] at hn
    obtain ⟨k1,k2⟩:=hr.no hn
    refine ⟨fun v=>(g2 v).trans (k1 v),fun z hz=>?_⟩
    rw [take_succ h0 Mu,al,ai] at hz
    rcases hz with hz | rfl
    ·exact k2 z hz
    ·exact Dj k1 g3
   ·simp only at hn;rw [g1] at hn;cases hn
 ·rename_i hi
  have:i=(gZ l m).length:=by omega
  subst this
  exact Ok.inr (Ok.ret (.inr ⟨_,rfl,M,ag,rfl,hr⟩))
theorem KE (l:List an) (m:bn) (to:Version) (hl:l.length≤8) (iv:ke l) (nx:List (List an)) (O7:nx=(gZ l m).map (fun x=>eZ l m x.Version)) (M0:CM) (h0:uV l m to M0):
 Ok (se (gZ l m) nx M0 true) (fun M=>uV l m to M∧∀ x∈gZ l m,vz l m M x):=by
 unfold se
 refine Ok.iter (fun s:CM×Bool=>2 * mu (gZ l m) s.1+if s.2=true then 1 else 0) (fun s=>uV l m to s.1∧(s.2=false→∀ x∈gZ l m,vz l m s.1 x)) ?_ (M0,true) ⟨h0,fun h=>by cases h⟩
 rintro ⟨M,ag⟩ ⟨hi,hc⟩
 dsimp only at hi hc ⊢
 unfold mo
 cases ag with
 | false=>
   rw [if_neg (by simp)]
   exact Ok.inr (Ok.ret ⟨hi,hc rfl⟩)
 | true=>
   rw [if_pos rfl]
   refine (KD l m to hl iv M hi nx O7).mono ?_
   rintro r ⟨M',ag',rfl,hr⟩
   refine ⟨⟨hr.inv,fun hf=>?_⟩,?_⟩
   ·obtain ⟨k1,k2⟩:=hr.no hf
    intro x hx
    have e:(gZ l m).take ((gZ l m).length:Int).toNat=gZ l m:=cl (by omega)
    rw [e] at k2
    exact Dj (fun v=>(k1 v).symm) (k2 x hx)
   ·cases ag' with
    | true=>
      have:=hr.yes rfl
      simp only [if_true] at this ⊢;omega
    | false=>
      have hle:mu (gZ l m) M'≤mu (gZ l m) M:=FB _ _ _ (fun z _=>Iy hl iv hi hr.inv hr.down z.Version)
      simp only [if_true,aK,if_false];omega
theorem Rz (l:List an) (m:bn) (to:Version) (hx:sy l) (iv:ke l):Ok (pB l m to) (fun M=>uV l m to M∧(CI l m).yl (gZ l m) to (F8 M)):=by
 have hl:=hx.1
 have ho:(gZ l m).length≤l.length:=aI _ _
 have hob:∀ x∈gZ l m,FZ x:=fun x h=>hx.2 x (uU h)
 unfold pB vY
 have h:=rl l (fun (s:List an) (i:Int)=>(s,i)) (fun x:(List an)×Int=>fw l m to x.1 x.2) (fun acc x=>if F7 m x=true then acc++[x] else acc) (fun i s=>(s.length:Int)≤i) (fun s=>mq m to s)
  (fun s i x h0 h1 hi hv=>by
   have hb:=hx.2 x (uR hi)
   have w1:bB (i+1)=i+1:=bl (by omega) (by omega)
   show fw l m to s i=_∧_
   unfold fw
   rw [if_pos h1,hi]
   simp only [aa]
   rw [Ix hb]
   simp only [aa]
   unfold ml
   by_cases c:F7 m x=true
   ·rw [if_pos c,pJ (by simp;omega)]
    refine ⟨by simp [w1,c],by simp [c];omega⟩
   ·rw [if_neg c]
    refine ⟨by simp [w1,c],by simp [c];omega⟩)
  (fun s hv=>by
   show fw l m to s l.length=_
   unfold fw
   rw [if_neg (by omega)]) [] (by simp)
 rw [h,foldl_filter]
 rw [bk]
 show Ok (mq m to (gZ l m)) _
 unfold mq
 have dY:OY ([]:List an) ((gZ l m).length:Int) ((gZ l m).length:Int)=some (cS (gZ l m).length []):=by
  unfold OY;rw [if_pos (by omega)];simp
 rw [dY]
 simp only [aa]
 unfold vX
 refine Ok.Rp (gZ l m).length (fun (s:List (List an)) (i:Int)=>(s,i)) (fun i s=>s=((gZ l m).take i.toNat).map (fun x=>eZ l m x.Version)++cS ((gZ l m).length - i.toNat) []) ?_ (cS (gZ l m).length []) (by simp)
 intro s i h0 h1 hs
 have w1:bB (i+1)=i+1:=bl (by omega) (by omega)
 show Ok (jV m to (gZ l m) s i) _
 unfold jV
 split
 ·rename_i hi
  refine Ok.idx h0 hi (fun x Mu z7=>?_)
  rw [Kz (gZ l m) m x.Version hob (by omega),Rv]
  simp only [aa]
  have hlen:s.length=(gZ l m).length:=by rw [hs];simp;omega
  refine Ok.idx h0 (by omega) (fun z _ _=>?_)
  refine Ok.ret (.inl ⟨s.set i.toNat (eZ l m x.Version),by rw [w1],hi,?_⟩)
  rw [hs,take_succ h0 Mu,ds,List.map_singleton]
  have hk:((gZ l m).take i.toNat).length=i.toNat:=by simp;omega
  obtain ⟨k,hk2⟩:∃ k,(gZ l m).length - i.toNat=k+1:=⟨(gZ l m).length - i.toNat - 1,by omega⟩
  rw [hk2,show (gZ l m).length - (i+1).toNat=k by omega,List.replicate_succ,List.set_append_right _ _ (by simp;omega)]
  simp only [bo,hk,Nat.sub_self,List.set_cons_zero,List.append_assoc,List.singleton_append]
 ·rename_i hi
  have hii:i=(gZ l m).length:=by omega
  subst hii
  refine Ok.inr ?_
  have O7:s=(gZ l m).map (fun x=>eZ l m x.Version):=by
   rw [hs];simp
  have h0:uV l m to (bW ([]:CM) to ⟨0,0⟩):=by
   have hg:∀ v,bc (bW ([]:CM) to ⟨0,0⟩) v=if to=v then some ⟨0,0⟩ else none:=fun v=>by rw [iG];rfl
   have key:∀ v c,bc (bW ([]:CM) to ⟨0,0⟩) v=some c→v=to∧c=⟨0,0⟩:=by
    intro v c hc
    rw [hg] at hc
    split at hc
    ·rename_i e;exact ⟨e.symm,(ac hc).symm⟩
    ·cases hc
   refine ⟨SM.nil.set _ _,by rw [hg,if_pos rfl],fun v c hc=>?_,fun v c hc=>.inl (key v c hc).1,fun v c hc=>?_⟩
   ·obtain ⟨rfl,rfl⟩:=key v c hc
    exact ⟨[],(Net.kR.nil _).2 rfl,rfl,rfl⟩
   ·obtain ⟨rfl,rfl⟩:=key v c hc
    rw [xW rfl];simp
  refine (KE l m to hl iv s O7 _ h0).mono ?_
  rintro M ⟨hM,hc⟩
  refine .inr ⟨M,rfl,hM,⟨by unfold F8;rw [hM.Ky];rfl,fun v k hk=>?_,fun x hx y hy k hk=>?_⟩⟩
  ·unfold F8 at hk
   obtain ⟨c,h1,rfl⟩:=a6.1 hk
   exact hM.sound v c h1
  ·exact hc x hx y hy k hk
abbrev WS:=(Int×Int×Int)×(Int×Int)×Bool
def v3 (v:Version):Int×Int×Int:=(v.aA,v.aC,v.aD)
def RA (M:CM) (s:WS) (y:an):WS:=
 match bc M y.Version with
 | none=>s
 | some c=>if s.2.2=false∨mZ (c.bX+1,c.bM+y.cM) s.2.1 then (v3 y.Version,(c.bX+1,c.bM+y.cM),true) else s
def WP (M:CM) (done:List an) (s:WS):Prop:=
 (s.2.2=false∧∀ y∈done,bc M y.Version=none)∨
 (s.2.2=true∧∃ y∈done,∃ c,bc M y.Version=some c∧s.1=v3 y.Version∧s.2.1=(c.bX+1,c.bM+y.cM)∧∀ y'∈done,∀ c',bc M y'.Version=some c'→mZ s.2.1 (c'.bX+1,c'.bM+y'.cM)∨(s.2.1=(c'.bX+1,c'.bM+y'.cM)∧iu y.Version y'.Version≤0))
theorem RB (M:CM) (done:List an) (y:an) (s:WS) (iW:∀ z∈done,iu z.Version y.Version < 0) (h:WP M done s):WP M (done++[y]) (RA M s y):=by
 unfold RA
 cases hg:bc M y.Version with
 | none=>
   simp only
   rcases h with ⟨h1,h2⟩ | ⟨h1,b,hb,c,h2,h3,h4,h5⟩
   ·refine .inl ⟨h1,fun z hz=>?_⟩
    rcases al.1 hz with hz | hz
    ·exact h2 z hz
    ·rw [ai.1 hz];exact hg
   ·refine .inr ⟨h1,b,b7 _ hb,c,h2,h3,h4,fun z hz c' xx=>?_⟩
    rcases al.1 hz with hz | hz
    ·exact h5 z hz c' xx
    ·rw [ai.1 hz,hg] at xx;cases xx
 | some c0=>
   simp only
   have last:∀ z∈[y],∀ c',bc M z.Version=some c'→(c0.bX+1,c0.bM+y.cM)=(c'.bX+1,c'.bM+z.cM)∧iu y.Version z.Version≤0:=by
    intro z hz c' xx
    obtain rfl:=ai.1 hz
    rw [hg] at xx
    obtain rfl:=ac xx
    exact ⟨rfl,by rw [Ib.zero];omega⟩
   split
   ·rename_i hc
    refine .inr ⟨rfl,y,by simp,c0,hg,rfl,rfl,fun z hz c' xx=>?_⟩
    rcases al.1 hz with hz | hz
    ·rcases h with ⟨h1,h2⟩ | ⟨h1,b,hb,c,h2,h3,h4,h5⟩
     ·rw [h2 z hz] at xx;cases xx
     ·left
      show mZ (c0.bX+1,c0.bM+y.cM) (c'.bX+1,c'.bM+z.cM)
      rcases hc with hc | hc
      ·rw [h1] at hc;cases hc
      ·have:=h5 z hz c' xx
       unfold mZ at *
       simp only at *
       rcases this with this | ⟨this,_⟩
       ·omega
       ·rw [this] at hc;exact hc
    ·exact .inr (last z hz c' xx)
   ·rename_i hc
    rw [not_or] at hc
    have hs:s.2.2=true:=by simpa using hc.1
    rcases h with ⟨h1,h2⟩ | ⟨h1,b,hb,c,h2,h3,h4,h5⟩
    ·rw [hs] at h1;cases h1
    ·refine .inr ⟨h1,b,b7 _ hb,c,h2,h3,h4,fun z hz c' xx=>?_⟩
     rcases al.1 hz with hz | hz
     ·exact h5 z hz c' xx
     ·obtain ⟨e1,e2⟩:=last z hz c' xx
      rw [← e1]
      have k:=hc.2
      by_cases q:mZ s.2.1 (c0.bX+1,c0.bM+y.cM)
      ·exact .inl q
      ·right
       refine ⟨?_,?_⟩
       ·unfold mZ at k q
        refine Prod.ext ?_ ?_<;>omega
       ·have hzy:z=y:=ai.1 hz
        rw [hzy]
        exact du (iW b hb)
theorem Ns (M:CM):∀ (rest done:List an) (s:WS),(done++rest).Pairwise (fun a b=>iu a.Version b.Version < 0)→WP M done s→WP M (done++rest) (rest.foldl (RA M) s)
 | [],done,s,_,h=>by simpa using h
 | y :: r,done,s,hp,h=>by
   have cL:(done++[y]++r).Pairwise (fun a b=>iu a.Version b.Version < 0):=by simpa using hp
   have:=Ns M r (done++[y]) (RA M s y) cL (RB M done y s (fun z hz=>by
    rw [bt] at hp
    exact hp.2.2 z hz y aw) h)
   simpa using this
theorem KF (l:List an) (m:bn) (to:Version) (hx:sy l) (iv:ke l) (M:CM) (hM:uV l m to M) (v:Version) (hv:v≠to) (out:List Version) (ho:out.length≤1000):
 (dj l m to M out v.aA v.aC v.aD=some (.inr ([],false))∧∀ y∈eZ l m v,bc M y.Version=none)∨
 (∃ x∈eZ l m v,∃ c,bc M x.Version=some c∧dj l m to M out v.aA v.aC v.aD=some (.inl (out++[x.Version],x.Version.aA,x.Version.aC,x.Version.aD))∧
  ∀ y∈eZ l m v,∀ c',bc M y.Version=some c'→mZ (c.bX+1,c.bM+x.cM) (c'.bX+1,c'.bM+y.cM)∨((c.bX+1,c.bM+x.cM)=(c'.bX+1,c'.bM+y.cM)∧iu x.Version y.Version≤0)):=by
 have hl:=hx.1
 have hpw:(eZ l m v).Pairwise (fun a b=>iu a.Version b.Version < 0):=List.Pairwise.filter _ iv.2
 have hlen:(eZ l m v).length≤l.length:=aI _ _
 have W:=Ns M (eZ l m v) [] ((0,0,0),(0,0),false) (by simpa using hpw) (.inl ⟨rfl,fun y hy=>(by cases hy)⟩)
 rw [bk] at W
 have run:dj l m to M out v.aA v.aC v.aD=oJ out ((eZ l m v).foldl (RA M) ((0,0,0),(0,0),false)).1.1 ((eZ l m v).foldl (RA M) ((0,0,0),(0,0),false)).1.2.1 ((eZ l m v).foldl (RA M) ((0,0,0),(0,0),false)).1.2.2 ((eZ l m v).foldl (RA M) ((0,0,0),(0,0),false)).2.2:=by
  unfold dj
  rw [if_pos hv,Kz l m v hx.2 (by omega)]
  simp only [aa]
  unfold ye
  exact rl (eZ l m v) (fun (s:WS) (i:Int)=>(s.1.1,s.1.2.1,s.1.2.2,s.2.1.1,s.2.1.2,s.2.2,i)) (fun x:Int×Int×Int×Int×Int×Bool×Int=>gY M out (eZ l m v) x.1 x.2.1 x.2.2.1 x.2.2.2.1 x.2.2.2.2.1 x.2.2.2.2.2.1 x.2.2.2.2.2.2) (RA M) (fun _ _=>True) (fun s=>oJ out s.1.1 s.1.2.1 s.1.2.2 s.2.2)
   (fun s i y h0 h1 hi _=>by
    refine ⟨?_,trivial⟩
    have w1:bB (i+1)=i+1:=bl (by omega) (by omega)
    have hy:=(iv.1 y (uU (qO (uR hi)))).size
    obtain ⟨⟨a,b,d⟩,⟨k,z⟩,is⟩:=s
    show gY M out (eZ l m v) a b d k z is i=_
    unfold gY
    rw [if_pos h1,hi]
    simp only [aa]
    unfold uD RA
    cases hg:bc M y.Version with
    | none=>
      simp only [cp,b5,aa,aK,if_false]
      unfold iJ j7
      rw [if_neg (by simp),w1]
    | some c=>
      have hb:=hM.bd hl iv hg
      have v1:bB (c.bX+1)=c.bX+1:=bl (by omega) (by omega)
      have v2:bB (c.bM+y.cM)=c.bM+y.cM:=bl (by omega) (by omega)
      simp only [a8,b6,aa,if_true,v1,v2]
      cases is with
      | false=>
        simp only [cv,if_true,true_or]
        unfold iJ j7
        rw [if_pos rfl,v1,v2,w1];rfl
      | true=>
        simp only [cP,aK,if_false,dy,false_or]
        rw [G9]
        simp only [aa]
        rw [Ha]
        unfold iJ j7
        simp only [v1,v2,w1]
        by_cases hc:mZ (c.bX+1,c.bM+y.cM) (k,z)
        ·rw [if_pos (by simpa using hc)];simp [hc,v3]
        ·rw [if_neg (by simpa using hc)];simp [hc])
   (fun s _=>by
    show gY M out (eZ l m v) s.1.1 s.1.2.1 s.1.2.2 s.2.1.1 s.2.1.2 s.2.2 (eZ l m v).length=_
    unfold gY
    rw [if_neg (by omega)]) ((0,0,0),(0,0),false) trivial
 rw [run]
 generalize hR:(eZ l m v).foldl (RA M) ((0,0,0),(0,0),false)=R at W
 unfold oJ
 rcases W with ⟨h1,h2⟩ | ⟨h1,x,z7,c,h2,h3,h4,h5⟩
 ·left
  rw [h1]
  exact ⟨rfl,h2⟩
 ·right
  refine ⟨x,z7,c,h2,?_,fun y hy c' xx=>?_⟩
  ·rw [h1,if_neg (by simp),h3]
   show (app out [(⟨x.Version.aA,x.Version.aC,x.Version.aD⟩:Version)]).bind _=_
   rw [pJ (by simp;omega)];rfl
  ·have:=h5 y hy c' xx
   rw [h4] at this;exact this
theorem Hb (l:List an) (m:bn) (to:Version) (hx:sy l) (iv:ke l) (M:CM) (hM:uV l m to M) (C:(CI l m).yl (gZ l m) to (F8 M)):∀ (n:Nat) (v:Version) (k:aq) (out:List Version),(v=to∨∃ x∈gZ l m,x.Version=v)→bc M v=some k→k.bX≤n→out.length+n≤1000→
 ∃ p,Net.ot (CI l m) (F8 M) to v p∧iK l m to M out v.aA v.aC v.aD=some (out++p.map an.Version,true):=by
 intro n
 induction n with
 | zero=>
   intro v k out hv hk hn ho
   have e:v=to:=by
    obtain ⟨p,h1,h2,h3⟩:=hM.sound v k hk
    have:p=[]:=dk.1 (by omega)
    subst this
    exact (Net.kR.nil _).1 h1
   subst e
   refine ⟨[],.nil,?_⟩
   unfold iK
   rw [iter_eq]
   show (dj l m v M out v.aA v.aC v.aD).bind _=_
   unfold dj
   rw [if_neg (by simp),aY];simp
 | succ n ih=>
   intro v k out hv hk hn ho
   unfold iK
   by_cases e:v=to
   ·subst e
    refine ⟨[],.nil,?_⟩
    rw [iter_eq]
    show (dj l m v M out v.aA v.aC v.aD).bind _=_
    unfold dj
    rw [if_neg (by simp),aY];simp
   ·obtain ⟨p,h1,h2,h3⟩:=hM.sound v k hk
    cases p with
    | nil=>exact absurd ((Net.kR.nil _).1 h1) e
    | cons y r=>
      rw [Net.kR.cons] at h1
      have Xz:=qO h1.1
      obtain ⟨ky,h4,h5⟩:=C.low (B4 iv) r y.Version (.inr ⟨y,Xz,rfl⟩) h1.2
      unfold F8 at h4
      obtain ⟨cy,h6,h7⟩:=a6.1 h4
      rcases KF l m to hx iv M hM v e out (by omega) with ⟨s1,s2⟩ | ⟨x,z7,c,s1,s2,s3⟩
      ·rw [s2 y h1.1] at h6;cases h6
      ·have WO:=qO z7
       have hle:c.bX≤n:=by
        have:=s3 y h1.1 cy h6
        rw [← h7] at h5
        unfold Net.uF at h5
        unfold mZ at this
        simp only [af,cW] at *
        omega
       obtain ⟨p',g1,g2⟩:=ih x.Version c (out++[x.Version]) (.inr ⟨x,WO,rfl⟩) s1 hle (by simp;omega)
       refine ⟨x :: p',.cons e z7 (by unfold F8;show bw _ (bc M x.Version)=_;rw [s1];rfl) (fun z hz k' R5=>?_) g1,?_⟩
       ·unfold F8 at R5
        obtain ⟨cz,h8,rfl⟩:=a6.1 R5
        have:=s3 z hz cz h8
        unfold mZ at this
        simp only [cW] at this ⊢
        show _∨(_∧(c.bM+x.cM < cz.bM+z.cM∨(c.bM+x.cM=cz.bM+z.cM∧iu x.Version z.Version≤0)))
        omega
       ·rw [iter_eq]
        show (dj l m to M out v.aA v.aC v.aD).bind _=_
        rw [s2]
        simp only [aa,bC]
        unfold iK at g2
        rw [g2];simp
theorem RC (l:List an) (m:bn) (fr to:Version) (hx:sy l) (iv:ke l) (M:CM) (hM:uV l m to M) (C:(CI l m).yl (gZ l m) to (F8 M)):
 (∃ p,(CI l m).F6 fr to p∧p.length≤l.length∧mr l m fr to M=some (p.map an.Version,true))∨((∀ p,¬ (CI l m).kR fr p to)∧mr l m fr to M=some ([],false)):=by
 unfold mr
 have hg:=B4 (m:=m) iv
 have fin:∀ {p},Net.ot (CI l m) (F8 M) to fr p→(CI l m).F6 fr to p∧p.length≤l.length:=fun g=>⟨(Net.ot.AZ hg C g).1,dR (Net.ot.len hg C g) (aI _ _)⟩
 by_cases e:fr=to
 ·subst e
  obtain ⟨p,h1,h2⟩:=Hb l m fr hx iv M hM C 0 fr ⟨0,0⟩ [] (.inl rfl) hM.Ky (by simp) (by simp)
  exact .inl ⟨p,(fin h1).1,(fin h1).2,by rw [h2];simp⟩
 ·rcases KF l m to hx iv M hM fr e [] (by simp) with ⟨s1,s2⟩ | ⟨x,z7,c,s1,s2,s3⟩
  ·right
   refine ⟨fun p hp=>?_,?_⟩
   ·cases p with
    | nil=>exact e ((Net.kR.nil _).1 hp)
    | cons y r=>
      rw [Net.kR.cons] at hp
      obtain ⟨ky,h4,h5⟩:=C.low hg r y.Version (.inr ⟨y,qO hp.1,rfl⟩) hp.2
      unfold F8 at h4
      obtain ⟨cy,h6,h7⟩:=a6.1 h4
      rw [s2 y hp.1] at h6;cases h6
   ·unfold iK
    rw [iter_eq]
    show (dj l m to M [] fr.aA fr.aC fr.aD).bind _=_
    rw [s1];rfl
  ·left
   have hb:=hM.bd hx.1 iv s1
   obtain ⟨p',g1,g2⟩:=Hb l m to hx iv M hM C 8 x.Version c ([]++[x.Version]) (.inr ⟨x,qO z7,rfl⟩) s1 (by omega) (by simp)
   have G:Net.ot (CI l m) (F8 M) to fr (x :: p'):=.cons e z7 (by unfold F8;show bw _ (bc M x.Version)=_;rw [s1];rfl) (fun z hz k' R5=>by
    unfold F8 at R5
    obtain ⟨cz,h8,rfl⟩:=a6.1 R5
    have:=s3 z hz cz h8
    unfold mZ at this
    simp only [cW] at this ⊢
    show _∨(_∧(c.bM+x.cM < cz.bM+z.cM∨(c.bM+x.cM=cz.bM+z.cM∧iu x.Version z.Version≤0)))
    omega) g1
   refine ⟨x :: p',(fin G).1,(fin G).2,?_⟩
   unfold iK
   rw [iter_eq]
   show (dj l m to M [] fr.aA fr.aC fr.aD).bind _=_
   rw [s2]
   simp only [aa,bC]
   unfold iK at g2
   rw [g2];simp
abbrev TM:=List (Version×aF)
theorem Uh (a b:List Version) (ha:a.length≤100000) (hb:b.length≤100000):bU a b (fun y0 y1=>ef y0 y1)=some (oL iu a b):=by
 unfold bU
 have key:∀ (n:Nat) (i:Int),0≤i→i+n=a.length→i≤b.length→ck a b (fun y0 y1=>ef y0 y1) i=some (oL iu (a.drop i.toNat) (b.drop i.toNat)):=by
  intro n
  induction n with
  | zero=>
    intro i h0 hn NV
    have e1:a.drop i.toNat=[]:=be (by omega)
    unfold ck
    rw [iter_eq,bK,if_neg (by omega),aY,e1]
    unfold dm
    split
    ·have iW:i.toNat < b.length:=by omega
     rw [d0 iW];rfl
    ·have e2:b.drop i.toNat=[]:=be (by omega)
     rw [e2];rfl
  | succ n ih=>
    intro i h0 hn NV
    obtain ⟨x,hx,_,hd⟩:=ff a h0 (by omega)
    unfold ck
    rw [iter_eq,bK,if_pos (by omega),hx]
    simp only [aa]
    by_cases Y1:(b.length:Int)≤i
    ·rw [if_pos Y1,aY,hd,be (l:=b) (by omega)];rfl
    ·obtain ⟨y,hy,_,hd2⟩:=ff b h0 (by omega)
     rw [if_neg Y1,hy]
     simp only [aa]
     rw [u4]
     simp only [aa]
     rw [hd,hd2,o0]
     by_cases hc:iu x y=0
     ·rw [if_neg (show ¬ iu x y≠0 from fun k=>k hc),if_neg (show ¬ iu x y≠0 from fun k=>k hc),bl (by omega) (by omega)]
      simp only [aa,bC]
      exact ih (i+1) (by omega) (by omega) (by omega)
     ·rw [if_pos hc,if_pos hc,aY]
 have:=key a.length 0 (by omega) (by omega) (by omega)
 simpa using this
def RD (a b:aF):Prop:=a.bM < b.bM∨(a.bM=b.bM∧oL iu a.o6 b.o6 < 0)
def Nt (a b:aF):Prop:=a.bM < b.bM∨(a.bM=b.bM∧oL iu a.o6 b.o6≤0)
instance (a b:aF):Decidable (RD a b):=by unfold RD;exact inferInstance
theorem vG:(⟨an.Version,an.cM,fun _=>[],iu⟩:Net Version an).Good []:=
 ⟨fun a b=>BS a b,fun a b=>zW,fun a b c=>FA,fun v x hx=>(by cases hx),fun x hx=>(by cases hx)⟩
theorem RE (a b:List Version):oL iu b a=- oL iu a b:=vG.Fy _ a b
theorem Ui (a b:List Version) (h:oL iu a b=0):a=b:=vG.CH _ a b h
theorem Uj (a:List Version):oL iu a a=0:=vG.CG _ a
theorem Zm {a b c:List Version} (h1:oL iu a b≤0) (h2:oL iu b c≤0):oL iu a c≤0:=vG.Iw _ a b c h1 h2
theorem RF (a:aF):Nt a a:=.inr ⟨rfl,by rw [Uj];omega⟩
theorem WR {a b c:aF} (h1:Nt a b) (h2:Nt b c):Nt a c:=by
 unfold Nt at *
 rcases h1 with h1 | ⟨h1,h3⟩
 ·left;omega
 ·rcases h2 with h2 | ⟨h2,h4⟩
  ·left;omega
  ·exact .inr ⟨by omega,Zm h3 h4⟩
theorem OR {a b:aF} (h:RD a b):Nt a b:=by
 unfold RD Nt at *;omega
theorem Mc {a b:aF} (h:¬ RD a b):Nt b a:=by
 have:=RE a.o6 b.o6
 unfold RD Nt at *;omega
theorem RG {a b:aF} (h1:Nt a b) (h2:Nt b a):a=b:=by
 have:=RE a.o6 b.o6
 unfold Nt at h1 h2
 have e1:a.bM=b.bM:=by omega
 have e2:a.o6=b.o6:=Ui _ _ (by omega)
 obtain ⟨w,s⟩:=a
 obtain ⟨w',s'⟩:=b
 simp only at e1 e2;rw [e1,e2]
def FG (t:aF) (x:an):aF:=⟨t.o6++[x.Version],t.bM+x.cM⟩
def Uk (t:aF) (D:TM) (x:an):TM:=
 match bc D x.Version with
 | none=>bW D x.Version (FG t x)
 | some o=>if RD (FG t x) o then bW D x.Version (FG t x) else D
structure PD (cs:List (Version×aF)) (D:TM):Prop where
 sm:SM D
 sound:∀ v t,bc D v=some t→(v,t)∈cs
 AZ:∀ v c,(v,c)∈cs→∃ t,bc D v=some t∧Nt t c
theorem PD.nil:PD [] []:=⟨SM.nil,fun v t h=>(by rw [zo] at h;cases h),fun v c h=>(by cases h)⟩
theorem PD.step {cs:List (Version×aF)} {D:TM} (h:PD cs D) (t:aF) (x:an):PD (cs++[(x.Version,FG t x)]) (Uk t D x):=by
 have put:(∀ o,bc D x.Version=some o→Nt (FG t x) o)→PD (cs++[(x.Version,FG t x)]) (bW D x.Version (FG t x)):=by
  intro hb
  refine ⟨h.sm.set _ _,fun v u hu=>?_,fun v c hc=>?_⟩
  ·rw [iG] at hu
   split at hu
   ·rename_i e;subst e;obtain rfl:=ac hu;simp
   ·exact b7 _ (h.sound v u hu)
  ·rw [iG]
   split
   ·rename_i e
    subst e
    refine ⟨_,rfl,?_⟩
    rcases al.1 hc with hc | hc
    ·obtain ⟨o,h1,h2⟩:=h.AZ _ c hc
     exact WR (hb o h1) h2
    ·rw [(bi (ai.1 hc)).2];exact RF _
   ·rename_i ne
    rcases al.1 hc with hc | hc
    ·exact h.AZ v c hc
    ·exact absurd (bi (ai.1 hc)).1.symm ne
 unfold Uk
 cases hg:bc D x.Version with
 | none=>exact put (fun o ho=>by rw [hg] at ho;cases ho)
 | some o=>
   simp only
   split
   ·rename_i iW
    exact put (fun o' ho=>by rw [hg] at ho;obtain rfl:=ac ho;exact OR iW)
   ·rename_i hn
    refine ⟨h.sm,fun v u hu=>b7 _ (h.sound v u hu),fun v c hc=>?_⟩
    rcases al.1 hc with hc | hc
    ·exact h.AZ v c hc
    ·obtain ⟨rfl,rfl⟩:=bi (ai.1 hc)
     exact ⟨o,hg,Mc hn⟩
theorem PD.fold (t:aF):∀ (xs:List an) (cs:List (Version×aF)) (D:TM),PD cs D→PD (cs++xs.map (fun x=>(x.Version,FG t x))) (xs.foldl (Uk t) D)
 | [],cs,D,h=>by simpa using h
 | x :: r,cs,D,h=>by
   have:=PD.fold t r _ _ (h.step t x)
   simpa using this
theorem PD.unique {cs lF:List (Version×aF)} {D D':TM} (h:PD cs D) (h':PD lF D') (hm:∀ e,e∈cs↔e∈lF):D=D':=by
 refine DT h.sm h'.sm (fun v=>?_)
 cases hg:bc D v with
 | none=>
   cases O0:bc D' v with
   | none=>rfl
   | some t'=>
     obtain ⟨t,h1,_⟩:=h.AZ v t' ((hm _).2 (h'.sound v t' O0))
     rw [hg] at h1;cases h1
 | some t=>
   obtain ⟨t',h1,h2⟩:=h'.AZ v t ((hm _).1 (h.sound v t hg))
   obtain ⟨t2,h3,h4⟩:=h.AZ v t' ((hm _).2 (h'.sound v t' h1))
   rw [hg] at h3;obtain rfl:=ac h3
   rw [h1,RG h4 h2]
def wu (l:List an) (m:bn) (es:TM):List (Version×aF):=es.flatMap (fun e=>(eZ l m e.1).map (fun x=>(x.Version,FG e.2 x)))
def lvl (l:List an) (m:bn) (B:TM):TM:=B.foldl (fun D e=>(eZ l m e.1).foldl (Uk e.2) D) []
theorem RH (l:List an) (m:bn):∀ (es done:TM) (D:TM),PD (wu l m done) D→PD (wu l m (done++es)) (es.foldl (fun D e=>(eZ l m e.1).foldl (Uk e.2) D) D)
 | [],done,D,h=>by simpa using h
 | e :: r,done,D,h=>by
   have h1:=PD.fold e.2 (eZ l m e.1) _ _ h
   have h2:wu l m done++(eZ l m e.1).map (fun x=>(x.Version,FG e.2 x))=wu l m (done++[e]):=by
    unfold wu;simp
   rw [h2] at h1
   have:=RH l m r (done++[e]) _ h1
   simpa using this
theorem RI (l:List an) (m:bn) (B:TM):PD (wu l m B) (lvl l m B):=by
 have:=RH l m B [] [] PD.nil
 unfold lvl
 simpa using this
theorem Ul (l:List an) (m:bn) (hx:sy l) (iv:ke l) (e:Version×aF) (he:e.2.o6.length≤1000∧0≤e.2.bM∧e.2.bM≤1000000000000) (D:TM) (hD:∀ v t,bc D v=some t→t.o6.length≤1001):
 tg l m e D=some (.inl ((eZ l m e.1).foldl (Uk e.2) D)):=by
 have hl:=hx.1
 have hlen:(eZ l m e.1).length≤l.length:=aI _ _
 unfold tg
 rw [Ue l m e.1 hx.2 (by omega)]
 simp only [aa]
 unfold ES
 exact rl (eZ l m e.1) (fun (s:TM) (i:Int)=>(s,i)) (fun x:TM×Int=>om e (eZ l m e.1) x.1 x.2) (Uk e.2) (fun _ s=>∀ v t,bc s v=some t→t.o6.length≤1001) (fun s=>some (.inl s))
  (fun s i x h0 h1 hi hv=>by
   have w1:bB (i+1)=i+1:=bl (by omega) (by omega)
   have z7:=qO (uR hi)
   have iV:=(iv.1 x (uU z7)).size
   have v2:bB (e.2.bM+x.cM)=e.2.bM+x.cM:=bl (by omega) (by omega)
   have hlc:(FG e.2 x).o6.length≤1001:=by simp [FG];omega
   constructor
   ·show om e (eZ l m e.1) s i=_
    unfold om
    rw [if_pos h1,hi]
    simp only [aa]
    have Ag:eN e.2.o6=some e.2.o6:=by
     unfold eN;rw [pJ (by simp;omega)];simp
    rw [Ag]
    simp only [aa]
    rw [pJ (by simp;omega)]
    simp only [aa]
    unfold uD Uk
    have put:∀ c,c=true→mP e s i x (e.2.o6++[x.Version]) c=some (.inl (bW s x.Version (FG e.2 x),i+1)):=by
     intro c hc
     unfold mP tf
     rw [if_pos hc,v2,w1];rfl
    have skip:∀ c,c=false→mP e s i x (e.2.o6++[x.Version]) c=some (.inl (s,i+1)):=by
     intro c hc
     unfold mP tf
     rw [if_neg (by simp [hc]),w1]
    cases hg:bc s x.Version with
    | none=>
      simp only [cp,b5,aa,cv,if_true]
      exact put true rfl
    | some o=>
      simp only [a8,b6,aa,cP,aK,if_false,v2]
      by_cases c1:e.2.bM+x.cM < o.bM
      ·rw [if_pos c1,if_pos (show RD (FG e.2 x) o from .inl c1)]
       exact put true rfl
      ·rw [if_neg c1]
       by_cases c2:e.2.bM+x.cM=o.bM
       ·rw [if_pos c2,Uh _ _ (by simp;omega) (by have:=hv _ o hg;omega)]
        simp only [aa]
        by_cases c3:oL iu (e.2.o6++[x.Version]) o.o6 < 0
        ·rw [if_pos (show RD (FG e.2 x) o from .inr ⟨c2,c3⟩)]
         exact put _ (by simp [c3])
        ·rw [if_neg (show ¬ RD (FG e.2 x) o from fun k=>k.elim c1 (fun k=>c3 k.2))]
         exact skip _ (by simp [c3])
       ·rw [if_neg c2,if_neg (show ¬ RD (FG e.2 x) o from fun k=>k.elim c1 (fun k=>c2 k.1))]
        exact skip false rfl
   ·intro v t ht
    unfold Uk at ht
    have put:bc (bW s x.Version (FG e.2 x)) v=some t→t.o6.length≤1001:=by
     intro ht
     rw [iG] at ht
     split at ht
     ·obtain rfl:=ac ht;exact hlc
     ·exact hv v t ht
    cases hg:bc s x.Version with
    | none=>rw [hg] at ht;exact put ht
    | some o=>
      rw [hg] at ht
      simp only at ht
      split at ht
      ·exact put ht
      ·exact hv v t ht)
  (fun s hv=>by
   show om e (eZ l m e.1) s (eZ l m e.1).length=_
   unfold om
   rw [if_neg (by omega)]) D hD
theorem Um (l:List an) (m:bn) (hx:sy l) (iv:ke l) (B:TM) (hB:∀ e∈B,e.2.o6.length≤1000∧0≤e.2.bM∧e.2.bM≤1000000000000) (k:Int) (hk:0≤k∧k≤1000):
 AJ l m B k []=some (.inl (lvl l m B,k+1)):=by
 unfold AJ
 refine Ou _ _ B [] _ (fun done D=>PD (wu l m done) D) PD.nil ?_ ?_
 ·intro done e rest D hp hD
  left
  have lI:e∈B:=hp.mem_iff.1 (by simp)
  have ow:∀ z∈done,z∈B:=fun z hz=>hp.mem_iff.1 (by simp [hz])
  refine ⟨_,Ul l m hx iv e (hB e lI) D (fun v t ht=>?_),?_⟩
  ·have:=hD.sound v t ht
   unfold wu at this
   obtain ⟨z,hz,h1⟩:=b8.1 this
   obtain ⟨x,hx2,h2⟩:=b4.1 h1
   have hz2:=(hB z (ow z hz)).1
   rw [← (bi h2).2]
   simp [FG];omega
  ·have h1:=PD.fold e.2 (eZ l m e.1) _ _ hD
   have h2:wu l m done++(eZ l m e.1).map (fun x=>(x.Version,FG e.2 x))=wu l m (done++[e]):=by
    unfold wu;simp
   rw [h2] at h1
   exact h1
 ·intro p D hp hD
  unfold vj
  rw [bl (by omega) (by omega)]
  have:D=lvl l m B:=hD.unique (RI l m B) (fun e=>by
   unfold wu
   rw [b8,b8]
   constructor
   ·rintro ⟨z,h1,h2⟩;exact ⟨z,hp.mem_iff.1 h1,h2⟩
   ·rintro ⟨z,h1,h2⟩;exact ⟨z,hp.mem_iff.2 h1,h2⟩)
  rw [this]
def O8 (B:TM) (v:Version):Option (List Version×Int):=(bc B v).map (fun t=>(t.o6,t.bM))
theorem RJ (l:List an) (m:bn) (iv:ke l) (fr:Version) (k:Nat) (B:TM) (hs:SM B) (L:Net.Level (CI l m) fr k (O8 B)):SM (lvl l m B)∧Net.Level (CI l m) fr (k+1) (O8 (lvl l m B)):=by
 have P:=RI l m B
 have ZD:∀ v t,(v,t)∈wu l m B↔∃ u s,(u,s)∈B∧∃ x∈eZ l m u,x.Version=v∧t=FG s x:=by
  intro v t
  unfold wu
  rw [b8]
  constructor
  ·rintro ⟨⟨u,s⟩,h1,h2⟩
   obtain ⟨x,h3,h4⟩:=b4.1 h2
   exact ⟨u,s,h1,x,h3,(bi h4).1,(bi h4).2.symm⟩
  ·rintro ⟨u,s,h1,x,h2,rfl,rfl⟩
   exact ⟨(u,s),h1,b4.2 ⟨x,h2,rfl⟩⟩
 refine ⟨P.sm,Net.Level.next (own:=gZ l m) (B4 iv) L (fun v t ht=>?_) (fun u s x hu z7=>?_)⟩
 ·unfold O8 at ht
  obtain ⟨t',h1,rfl⟩:=a6.1 ht
  obtain ⟨u,s,h2,x,h3,h4,rfl⟩:=(ZD v t').1 (P.sound v t' h1)
  exact ⟨u,(s.o6,s.bM),x,by unfold O8;rw [hs.DS.2 h2];rfl,h3,h4,rfl⟩
 ·unfold O8 at hu
  obtain ⟨s',h1,rfl⟩:=a6.1 hu
  obtain ⟨t,h2,h3⟩:=P.AZ x.Version (FG s' x) ((ZD _ _).2 ⟨u,s',hs.DS.1 h1,x,z7,rfl,rfl⟩)
  exact ⟨(t.o6,t.bM),by unfold O8;show bw _ (bc (lvl l m B) x.Version)=_;rw [h2];rfl,h3⟩
theorem KG (l:List an) (m:bn) (fr to:Version) (hx:sy l) (iv:ke l):∀ (j:Nat) (k:Nat) (B:TM),k+j=l.length+1→SM B→Net.Level (CI l m) fr k (O8 B)→(∀ q,(CI l m).kR fr q to→k≤q.length)→
 (∃ p,(CI l m).F6 fr to p∧th l m to B k=some (p.map an.Version,true))∨((∀ q,(CI l m).kR fr q to→l.length+1≤q.length)∧th l m to B k=some ([],false)):=by
 have hl:=hx.1
 have wl:bB ((l.length:Int)+1)=(l.length:Int)+1:=bl (by omega) (by omega)
 intro j
 induction j with
 | zero=>
   intro k B hk hs L hq
   right
   refine ⟨fun q h=>by have:=hq q h;omega,?_⟩
   unfold th
   rw [iter_eq]
   show (mQ l m to B k).bind _=_
   unfold mQ
   rw [wl,if_neg (by omega)];rfl
 | succ j ih=>
   intro k B hk hs L hq
   unfold th
   rw [iter_eq]
   show (∃ p,_∧(mQ l m to B k).bind _=_)∨(_∧(mQ l m to B k).bind _=_)
   have e:mQ l m to B k=match bc B to with
    | some t=>some (.inr (t.o6,true))
    | none=>some (.inl (lvl l m B,(k:Int)+1)):=by
    unfold mQ
    rw [wl,if_pos (by omega)]
    unfold uD
    simp only [aa]
    cases hg:bc B to with
    | some t=>rfl
    | none=>
      simp only [b5,aK,if_false]
      exact Um l m hx iv B (fun e he=>by
       obtain ⟨p,h1,h2,h3,h4⟩:=L.sound e.1 (e.2.o6,e.2.bM) (by unfold O8;rw [hs.DS.2 he];rfl)
       have:=Ma iv.1 (B5 h1)
       simp only at h3 h4
       rw [h3,h4]
       simp only [bo]
       omega) k ⟨by omega,by omega⟩
   rw [e]
   cases hg:bc B to with
   | some t=>
     left
     obtain ⟨p,h1,h2,h3,h4⟩:=L.sound to (t.o6,t.bM) (by unfold O8;rw [hg];rfl)
     refine ⟨p,⟨h1,fun q hw=>?_⟩,?_⟩
     ·have h5:=hq q hw
      by_cases h6:q.length=k
      ·obtain ⟨t',h7,h8⟩:=L.AZ to q hw h6
       unfold O8 at h7
       rw [hg] at h7
       obtain rfl:=ac h7
       simp only at h3 h4 h8
       unfold Net.Le
       rw [← h3,← h4]
       right
       exact ⟨by omega,h8⟩
      ·left;omega
     ·simp only at h3 ⊢
      rw [h3];rfl
   | none=>
     obtain ⟨g1,g2⟩:=RJ l m iv fr k B hs L
     have:=ih (k+1) (lvl l m B) (by omega) g1 g2 (fun q hw=>by
      have h5:=hq q hw
      by_cases h6:q.length=k
      ·obtain ⟨t',h7,h8⟩:=L.AZ to q hw h6
       unfold O8 at h7
       rw [hg] at h7;cases h7
      ·omega)
     simp only [aa,bC]
     unfold th at this
     exact_mod_cast this
theorem RL (l:List an) (m:bn) (fr to:Version) (hx:sy l) (iv:ke l):
 (∃ p,(CI l m).F6 fr to p∧we l m fr to=some (p.map an.Version,true))∨((∀ q,(CI l m).kR fr q to→l.length+1≤q.length)∧we l m fr to=some ([],false)):=by
 unfold we
 have hg:∀ v,bc (bW ([]:TM) fr ⟨[],0⟩) v=if fr=v then some ⟨[],0⟩ else none:=fun v=>by rw [iG];rfl
 have:=KG l m fr to hx iv (l.length+1) 0 (bW ([]:TM) fr ⟨[],0⟩) (by omega) (SM.nil.set _ _) (Net.Level.zero fr _ (fun v=>by
  unfold O8
  rw [hg]
  by_cases e:fr=v
  ·rw [if_pos e,if_pos e.symm];rfl
  ·rw [if_neg e,if_neg (fun k=>e k.symm)];rfl)) (fun q _=>by omega)
 exact this
abbrev WM:=List (bn×List (Version×aq))
def CJ (im:List an) (to:Version) (K:WM):Prop:=∀ m M,bc K m=some M→uV im m to M∧(CI im m).yl (gZ im m) to (F8 M)
theorem CJ.nil (im:List an) (to:Version):CJ im to []:=fun m M h=>by rw [zo] at h;cases h
theorem CJ.set {im:List an} {to:Version} {K:WM} (h:CJ im to K) {m:bn} {M:List (Version×aq)} (hM:uV im m to M∧(CI im m).yl (gZ im m) to (F8 M)):CJ im to (bW K m M):=fun k M' hk=>by
 rw [iG] at hk
 split at hk
 ·rename_i he
  obtain rfl:=ac hk
  subst he;exact hM
 ·exact h k M' hk
noncomputable def FC (im:List an) (to:Version) (d:DeviceS) (v:Version):Option cd:=
 match we im d.Model v to with
 | some (w0 :: _,true)=>(im.find? fun x=>decide (x.Version=w0)).map fun x=>⟨d.Key,w0,x.cM⟩
 | _=>none
theorem OS (im:List an) (hl:(im.length:Int)≤1000) (w0:Version) (r:List Version):cj im (fun y0=>dN y0 (w0 :: r))=some (lM (fun x:an=>decide (x.Version=w0)) im 0):=by
 refine qM im (fun y0=>dN y0 (w0 :: r)) (fun x:an=>decide (x.Version=w0)) (fun x _=>?_) (by omega)
 unfold dN
 rw [show idx (w0 :: r) (0:Int)=some w0 from rfl];rfl
theorem Md (im:List an) (hl:(im.length:Int)≤1000) (w0:Version) (r:List Version):cj im (fun y0=>oW y0 (w0 :: r))=some (lM (fun x:an=>decide (x.Version=w0)) im 0):=by
 refine qM im (fun y0=>oW y0 (w0 :: r)) (fun x:an=>decide (x.Version=w0)) (fun x _=>?_) (by omega)
 unfold oW
 rw [show idx (w0 :: r) (0:Int)=some w0 from rfl];rfl
theorem KH (p:an→Bool) (xs:List an):(lM p xs 0 < 0∧xs.find? p=none)∨∃ y,0≤lM p xs 0∧idx xs (lM p xs 0)=some y∧xs.find? p=some y:=by
 rcases zm p xs 0 (by omega) with ⟨e1,e2⟩ | ⟨e1,e2,e3,y,e4,e5⟩
 ·exact .inl ⟨by omega,b9.2 fun x hx=>by rw [e2 x hx];simp⟩
 ·right
  refine ⟨y,e1,?_,?_⟩
  ·unfold idx
   rw [if_pos e1]
   simpa using e4
  ·generalize lM p xs 0=k at e1 e2 e3 e4
   rw [show (k - 0).toNat=k.toNat by simp] at e3 e4
   obtain ⟨h,e4'⟩:=List.getElem?_eq_some_iff.1 e4
   conv=>lhs;rw [← List.take_append_drop k.toNat xs]
   rw [List.find?_append,b9.2 (fun x hx=>by rw [e3 x hx];simp),d0 h,e4']
   simp [e5]
structure ac8 (im:List an) (m:bn) (v to:Version) (W:List Version) (ok:Bool):Prop where
 prog:∀ M,uV im m to M→(CI im m).yl (gZ im m) to (F8 M)→mr im m v to M=some (W,ok)
 ref:we im m v to=some (W,ok)
 non:ok=true→v≠to→∃ w0 r,W=w0 :: r∧∃ x∈im,x.Version=w0
 emp:ok=false→W=[]
theorem KI (im:List an) (hx:sy im) (iv:ke im) (m:bn) (v to:Version):∃ W ok,ac8 im m v to W ok:=by
 have hl:=hx.1
 rcases RL im m v to hx iv with ⟨q,k1,k2⟩ | ⟨k1,k2⟩
 ·refine ⟨q.map an.Version,true,fun M hM C=>?_,k2,fun _ hv=>?_,fun h=>(by cases h)⟩
  ·rcases RC im m v to hx iv M hM C with ⟨p,h1,h2,h3⟩ | ⟨h1,h3⟩
   ·have e:p.map an.Version=q.map an.Version:=Net.F6.unique (CI im m) (B4 iv) h1 k1
    rw [h3,e]
   ·exact absurd k1.1 (h1 q)
  ·cases q with
   | nil=>exact absurd (Net.kR.nil _|>.1 k1.1) hv
   | cons y r=>
     have:=B5 k1.1 y (by simp)
     exact ⟨y.Version,r.map an.Version,rfl,y,uU this,rfl⟩
 ·refine ⟨[],false,fun M hM C=>?_,k2,fun h=>(by cases h),fun _=>rfl⟩
  rcases RC im m v to hx iv M hM C with ⟨p,h1,h2,h3⟩ | ⟨h1,h3⟩
  ·have:=k1 p h1.1
   omega
  ·exact h3
theorem RM (im:List an) (hx:sy im) (iv:ke im) (to:Version) (K:WM) (hK:CJ im to K) (d:DeviceS) (v:Version) (hv:v≠to):
 ∃ K' x b,iE ⟨im,to,K⟩ d.Model v=some (x,b,⟨im,to,K'⟩)∧CJ im to K'∧((b=false∧FC im to d v=none)∨(b=true∧FC im to d v=some ⟨d.Key,x.Version,x.cM⟩)):=by
 have hl:=hx.1
 obtain ⟨W,ok,hW⟩:=KI im hx iv d.Model v to
 have tail:∀ K':WM,CJ im to K'→∀ f:Bool→Option (an×Bool×bF),(∀ c:Bool,f c=if c=true then some (⟨⟨0,0,0⟩,[],[],0⟩,false,⟨im,to,K'⟩) else (cj im (fun y0=>dN y0 W)).bind fun k=>(idx im k).bind fun x=>some (x,true,⟨im,to,K'⟩))→
  ∃ K' x b,f ((!ok)||decide ((W.length:Int)=0))=some (x,b,⟨im,to,K'⟩)∧CJ im to K'∧((b=false∧FC im to d v=none)∨(b=true∧FC im to d v=some ⟨d.Key,x.Version,x.cM⟩)):=by
  intro K' hK' f hf
  rw [hf]
  cases ok with
  | false=>
    rw [if_pos (by simp)]
    refine ⟨K',_,false,rfl,hK',.inl ⟨rfl,?_⟩⟩
    unfold FC
    rw [hW.ref,hW.emp rfl]
  | true=>
    obtain ⟨w0,r,e,x,z7,hxv⟩:=hW.non rfl hv
    rw [e,if_neg (by simp;omega),OS im (by omega) w0 r]
    simp only [aa]
    rcases KH (fun x:an=>decide (x.Version=w0)) im with ⟨_,e2⟩ | ⟨y,e1,e2,e3⟩
    ·rw [b9] at e2
     exact absurd (by simpa using hxv) (e2 x z7)
    ·rw [e2]
     have hy:y.Version=w0:=by simpa using List.find?_some e3
     refine ⟨K',y,true,rfl,hK',.inr ⟨rfl,?_⟩⟩
     unfold FC
     rw [hW.ref,e]
     simp only
     rw [e3,hy];rfl
 unfold iE
 simp only
 cases hm:bc K d.Model with
 | none=>
   rw [C2]
   obtain ⟨M,e,hM,C⟩:=Rz im d.Model to hx iv
   rw [e]
   simp only [aa]
   rw [hW.prog M hM C]
   simp only [aa]
   exact tail (bW K d.Model M) (hK.set ⟨hM,C⟩) (fun c=>kE ⟨im,to,K⟩ d.Model M (W,ok) c) (fun c=>rfl)
 | some M=>
   rw [vS]
   obtain ⟨hM,C⟩:=hK _ M hm
   rw [hW.prog M hM C]
   simp only [aa]
   exact tail K hK (fun c=>kF ⟨im,to,K⟩ (W,ok) c) (fun c=>rfl)
def KJ (x:ao):Bool:=decide (x.ak.Kind=1)||decide (x.ak.Kind=2)
theorem Un (x:ao):qt x=KJ x:=by
 unfold qt pV KJ
 by_cases h:x.ak.Kind=1<;>simp [h]
theorem RN (x:ao):ER x.ak=KJ x:=by
 unfold ER zM KJ
 by_cases h:x.ak.Kind=1<;>simp [h]
noncomputable def tw (c:Campaign) (dn:List MarkS) (nb:Nat) (s:Int×List DeviceS) (d:DeviceS):Int×List DeviceS:=
 if KJ (oq c dn d)=true then (s.1 - 1,s.2) else if qg c d.Key < nb∧zU c (oq c dn d)=false then (s.1,s.2++[d]) else s
theorem Nu (c:Campaign) (dn:List MarkS) (nb:Nat):∀ (fl:List DeviceS) (s:Int×List DeviceS),∃ L,(fl.foldl (tw c dn nb) s).2=s.2++L∧L.Sublist fl∧(∀ d∈L,zU c (oq c dn d)=false)∧s.1 - fl.length≤(fl.foldl (tw c dn nb) s).1∧(fl.foldl (tw c dn nb) s).1≤s.1
 | [],s=>⟨[],by simp,List.Sublist.refl _,fun d hd=>(by cases hd),by simp,by simp⟩
 | d :: r,s=>by
   obtain ⟨L,h1,h2,h3,h4,h5⟩:=Nu c dn nb r (tw c dn nb s d)
   rw [cc,af]
   unfold tw at h1 h4 h5
   by_cases hb:KJ (oq c dn d)=true
   ·rw [if_pos hb] at h1 h4 h5
    refine ⟨L,?_,h2.cons d,h3,?_,?_⟩
    ·unfold tw;rw [if_pos hb];exact h1
    ·unfold tw;rw [if_pos hb];simp only at h4 ⊢;omega
    ·unfold tw;rw [if_pos hb];simp only at h5 ⊢;omega
   ·rw [if_neg hb] at h1 h4 h5
    by_cases hw:qg c d.Key < nb∧zU c (oq c dn d)=false
    ·rw [if_pos hw] at h1 h4 h5
     refine ⟨d :: L,?_,h2.cons_cons d,fun x hx=>?_,?_,?_⟩
     ·unfold tw;rw [if_neg hb,if_pos hw]
      refine h1.trans ?_
      simp
     ·rcases ad.1 hx with rfl | hx
      ·exact hw.2
      ·exact h3 x hx
     ·unfold tw;rw [if_neg hb,if_pos hw];simp only at h4 ⊢;omega
     ·unfold tw;rw [if_neg hb,if_pos hw];simp only at h5 ⊢;omega
    ·rw [if_neg hw] at h1 h4 h5
     refine ⟨L,?_,h2.cons d,h3,?_,?_⟩
     ·unfold tw;rw [if_neg hb,if_neg hw];exact h1
     ·unfold tw;rw [if_neg hb,if_neg hw];omega
     ·unfold tw;rw [if_neg hb,if_neg hw];exact h5
noncomputable def Sd (im:List an) (to:Version) (room:Int) (v:DeviceS→Version):List DeviceS→List cd→List cd
 | [],out=>out
 | d :: r,out=>if room≤out.length then out else match FC im to d (v d) with
   | none=>Sd im to room v r out
   | some o=>Sd im to room v r (out++[o])
theorem KK (im:List an) (to:Version) (room:Int) (v:DeviceS→Version) {out:List cd} (h:room≤out.length):∀ l:List DeviceS,Sd im to room v l out=out
 | []=>rfl
 | d :: r=>by
   unfold Sd
   rw [if_pos h]
theorem Iz (im:List an) (to:Version) (room:Int) (v:DeviceS→Version):∀ (l:List DeviceS) (out:List cd),(Sd im to room v l out).length≤out.length+l.length
 | [],out=>cQ _
 | d :: r,out=>by
   unfold Sd
   split
   ·omega
   ·split
    ·have:=Iz im to room v r out
     simp only [af];omega
    ·rename_i o _
     have:=Iz im to room v r (out++[o])
     simp only [af,bv,bp] at this ⊢;omega
theorem OT {c:Campaign} {fl:List DeviceS} {s:CS} {dn:List MarkS} (hc:lB c) (hf:mV fl) (Hl:(fl.length:Int)≤500) (h:SI c fl s dn) (w:bF):
 mK s w fl c.Room [] 0=gP s w (fl.foldl (tw c dn s.aV.length) (c.Room,[])).1 (fl.foldl (tw c dn s.aV.length) (c.Room,[])).2:=by
 have x8:=hc.room
 unfold mK
 refine rl fl (fun (q:Int×List DeviceS) i=>(q.1,q.2,i)) _ (tw c dn s.aV.length) (fun i q=>(q.2.length:Int)≤i∧c.Room - i≤q.1∧q.1≤c.Room) (fun q=>gP s w q.1 q.2) (fun q i d h0 h1 hd hI=>?_) (fun q hI=>?_) (c.Room,[]) ⟨by simp,by simp,by simp⟩
 ·obtain ⟨h01,h02,KN⟩:=jC hd
  have hi:=L1 hf h.qd KN
  have Re:=uR hd
  have har:idx s.mf ((i.toNat:Nat):Int)=some (oq c dn d):=by
   rw [h.mf]
   refine tN ?_
   rw [d3,KN];rfl
  constructor
  ·simp only
   unfold eT
   rw [if_pos h1,hd]
   simp only [aa]
   rw [hi,vS,har]
   simp only [aa]
   rw [Un]
   unfold tw
   by_cases hb:KJ (oq c dn d)=true
   ·rw [if_pos hb,if_pos hb]
    unfold eS
    rw [bl (x:=q.1 - 1) (by omega) (by omega),bl (x:=i+1) (by omega) (by omega)]
   ·rw [if_neg hb,if_neg hb]
    unfold pc
    rw [Il hf h.dq Re]
    simp only [a8,aa]
    unfold jt gM eS
    rw [bl (x:=i+1) (by omega) (by omega)]
    have hov:((!(bZ s (oq c dn d)))&&(!(di s (oq c dn d))))=!(zU c (oq c dn d)):=by
     rw [← Bool.not_or,U3,h.c_]
    rw [hov]
    by_cases hw:qg c d.Key < s.aV.length∧zU c (oq c dn d)=false
    ·rw [if_pos hw,if_pos (by simp [hw.1,hw.2]),pJ (by simp;omega)];rfl
    ·rw [if_neg hw,if_neg]
     intro Zn
     simp only [cn,decide_eq_true_eq,Bool.not_eq_true'] at Zn
     exact hw ⟨by omega,Zn.2⟩
  ·unfold tw
   split
   ·simp only;omega
   ·split
    ·simp only [bv,af,bp];omega
    ·omega
 ·simp only
  unfold eT
  rw [if_neg (by omega)]
theorem OU {c:Campaign} {fl:List DeviceS} {s:CS} {dn:List MarkS} (hc:lB c) (hf:mV fl) (h:SI c fl s dn) (im:List an) (hx:sy im) (iv:ke im) (room:Int) (Z:List DeviceS) (hZ:∀ d∈Z,d∈fl∧zU c (oq c dn d)=false) (hl:(Z.length:Int)≤1000):
 ∀ (k:Nat) (i:Int) (K:WM) (out:List cd),0≤i→i+k=Z.length→CJ im c.Target K→(out.length:Int)≤i→
 ∃ K',gO s room Z im c.Target.aA c.Target.aC c.Target.aD K out i=some (Sd im c.Target room (fun d=>(oq c dn d).ak.Version) (Z.drop i.toNat) out,⟨im,c.Target,K'⟩)∧CJ im c.Target K':=by
 have sN:∀ (K:WM) (out:List cd) (i:Int),gO s room Z im c.Target.aA c.Target.aC c.Target.aD K out i=(dS s room Z im c.Target.aA c.Target.aC c.Target.aD K out i).bind (after fun x=>gO s room Z x.1 x.2.1 x.2.2.1 x.2.2.2.1 x.2.2.2.2.1 x.2.2.2.2.2.1 x.2.2.2.2.2.2):=fun K out i=>by
  conv=>lhs;unfold gO
  rw [iter_eq];rfl
 intro k
 induction k with
 | zero=>
   intro i K out h0 hk hK ho
   refine ⟨K,?_,hK⟩
   rw [sN]
   unfold dS
   rw [if_neg (by omega),aY,be (by omega)]
   rfl
 | succ k ih=>
   intro i K out h0 hk hK ho
   obtain ⟨d,hd,Re,Wo⟩:=ff Z h0 (by omega)
   obtain ⟨IA,WT⟩:=hZ d Re
   obtain ⟨j,hj,Zz⟩:=ce IA
   have W3:fl[j]? =some d:=by rw [ci hj,Zz]
   have hi:=L1 hf h.qd W3
   have har:idx s.mf (j:Int)=some (oq c dn d):=by
    rw [h.mf]
    refine tN ?_
    rw [d3,W3];rfl
   have hv:(oq c dn d).ak.Version≠c.Target:=fun e=>by
    unfold zU at WT
    rw [e] at WT
    simp at WT
   rw [sN,Wo]
   unfold dS Sd
   rw [if_pos (by omega),hd]
   simp only [aa]
   by_cases hr:room≤out.length
   ·rw [if_pos hr,if_pos hr,aY]
    exact ⟨K,rfl,hK⟩
   ·rw [if_neg hr,if_neg hr,hi]
    simp only [aa]
    rw [har]
    simp only [aa]
    obtain ⟨K',x,b,f1,f2,f3⟩:=RM im hx iv c.Target K hK d (oq c dn d).ak.Version hv
    have f1':iE ⟨im,⟨c.Target.aA,c.Target.aC,c.Target.aD⟩,K⟩ d.Model (oq c dn d).ak.Version=some (x,b,⟨im,c.Target,K'⟩):=f1
    rw [f1']
    simp only [aa]
    unfold gN
    rw [bl (by omega) (by omega)]
    rcases f3 with ⟨rfl,f4⟩ | ⟨rfl,f4⟩
    ·rw [if_neg (by simp),f4]
     simp only [aa,bC]
     exact ih (i+1) K' out (by omega) (by omega) f2 (by omega)
    ·rw [if_pos rfl,f4,pJ (by simp;omega)]
     simp only [aa,bC]
     exact ih (i+1) K' _ (by omega) (by omega) f2 (by simp;omega)
theorem RO {c:Campaign} {fl:List DeviceS} {l:List MarkS} (H:KU c fl l) (im:List an) {at_:Int} {n:Nat} (h1:∀ x∈l.take n,x.At≤at_) (h2:∀ x∈l.drop n,at_ < x.At) (bs:List Int):
 wD c im fl l at_ bs c.Room [] 0=qG c im l at_ (fl.foldl (tw c (l.take n) bs.length) (c.Room,[])).1 (fl.foldl (tw c (l.take n) bs.length) (c.Room,[])).2:=by
 have x8:=H.c_.room
 have Hl:=H.Y8
 have hll:=H.l_
 unfold wD
 refine rl fl (fun (q:Int×List DeviceS) i=>(q.1,q.2,i)) _ (tw c (l.take n) bs.length) (fun i q=>(q.2.length:Int)≤i∧c.Room - i≤q.1∧q.1≤c.Room) (fun q=>qG c im l at_ q.1 q.2) (fun q i d h0 DX hd hI=>?_) (fun q hI=>?_) (c.Room,[]) ⟨by simp,by simp,by simp⟩
 ·have Re:=uR hd
  have hcr:=B2 c d l n at_ h1 h2
  constructor
  ·simp only
   unfold oZ
   rw [if_pos DX,hd]
   simp only [aa]
   rw [zt c d l at_ (by omega) (fun q hq=>(H.m_ q hq).kind),← hcr]
   simp only [aa]
   rw [RN]
   unfold tw
   by_cases hb:KJ (oq c (l.take n) d)=true
   ·rw [if_pos hb,if_pos hb]
    unfold oX
    rw [bl (x:=q.1 - 1) (by omega) (by omega),bl (x:=i+1) (by omega) (by omega)]
   ·rw [if_neg hb,if_neg hb,zy c H.c_ d.Key (H.f_.key d Re)]
    simp only [aa]
    unfold qE qC oX
    rw [bl (x:=i+1) (by omega) (by omega)]
    by_cases hw:qg c d.Key < bs.length
    ·rw [if_pos (by omega),Kq H d at_,← hcr]
     simp only [aa]
     by_cases ho:zU c (oq c (l.take n) d)=false
     ·rw [if_pos (show (!(zU c (oq c (l.take n) d)))=true by simp [ho]),if_pos ⟨hw,ho⟩,pJ (by simp;omega)];rfl
     ·rw [if_neg (show ¬ (!(zU c (oq c (l.take n) d)))=true by simpa using ho),if_neg (fun z=>ho z.2)]
    ·rw [if_neg (by omega),if_neg (by simp),if_neg (fun z=>hw z.1)]
  ·unfold tw
   split
   ·simp only;omega
   ·split
    ·simp only [bv,af,bp];omega
    ·omega
 ·simp only
  unfold oZ
  rw [if_neg (by omega)]
theorem RP {c:Campaign} {fl:List DeviceS} {l:List MarkS} (H:KU c fl l) (im:List an) (hx:sy im) (iv:ke im) {at_:Int} {n:Nat} (h1:∀ x∈l.take n,x.At≤at_) (h2:∀ x∈l.drop n,at_ < x.At) (room:Int) (x8:-1000≤room∧room≤1000) (Z:List DeviceS) (hZ:∀ d∈Z,d∈fl∧zU c (oq c (l.take n) d)=false) (hl:(Z.length:Int)≤1000):
 ∀ (k:Nat) (i:Int) (out:List cd),0≤i→i+k=Z.length→(out.length:Int)≤i→
 qF c im l at_ Z (room - out.length) out i=some (Sd im c.Target room (fun d=>(oq c (l.take n) d).ak.Version) (Z.drop i.toNat) out):=by
 have Za:=hx.1
 have hll:=H.l_
 have sN:∀ (r:Int) (out:List cd) (i:Int),qF c im l at_ Z r out i=(mS c im l at_ Z r out i).bind (after fun x=>qF c im l at_ Z x.1 x.2.1 x.2.2):=fun r out i=>by
  conv=>lhs;unfold qF
  rw [iter_eq];rfl
 intro k
 induction k with
 | zero=>
   intro i out h0 hk ho
   rw [sN]
   unfold mS
   rw [if_neg (by omega),aY,be (by omega)]
   rfl
 | succ k ih=>
   intro i out h0 hk ho
   obtain ⟨d,hd,Re,Wo⟩:=ff Z h0 (by omega)
   obtain ⟨IA,WT⟩:=hZ d Re
   have hcr:=B2 c d l n at_ h1 h2
   have hv:(oq c (l.take n) d).ak.Version≠c.Target:=fun e=>by
    unfold zU at WT
    rw [e] at WT
    simp at WT
   obtain ⟨W,ok,hW⟩:=KI im hx iv d.Model (oq c (l.take n) d).ak.Version c.Target
   rw [sN,Wo]
   unfold mS
   rw [if_pos (by omega),hd]
   simp only [aa]
   rw [zt c d l at_ (by omega) (fun q hq=>(H.m_ q hq).kind),← hcr]
   simp only [aa]
   rw [hW.ref]
   simp only [aa]
   have skip:mR i (room - out.length) out=some (.inl (room - out.length,out,i+1)):=by
    unfold mR
    rw [bl (by omega) (by omega)]
   by_cases hr:room≤out.length
   ·unfold oY
    rw [if_pos (by simp;omega),skip]
    simp only [aa,bC]
    rw [ih (i+1) out (by omega) (by omega) (by omega),KK _ _ _ _ hr,KK _ _ _ _ hr]
   ·unfold Sd
    rw [if_neg hr]
    cases ok with
    | false=>
      have hn:FC im c.Target d (oq c (l.take n) d).ak.Version=none:=by
       unfold FC
       rw [hW.ref,hW.emp rfl]
      unfold oY
      rw [hn,if_pos (by simp),skip]
      simp only [aa,bC]
      exact ih (i+1) out (by omega) (by omega) (by omega)
    | true=>
      obtain ⟨w0,r,e,x,z7,hxv⟩:=hW.non rfl hv
      unfold oY
      rw [if_neg (by simp;omega)]
      simp only
      rw [e,Md im (by omega) w0 r]
      simp only [aa]
      rw [show idx (w0 :: r) (0:Int)=some w0 from rfl]
      simp only [aa]
      rcases KH (fun x:an=>decide (x.Version=w0)) im with ⟨_,e2⟩ | ⟨y,e1,e2,e3⟩
      ·rw [b9] at e2
       exact absurd (by simpa using hxv) (e2 x z7)
      ·rw [e2]
       simp only [aa]
       have hn:FC im c.Target d (oq c (l.take n) d).ak.Version=some ⟨d.Key,w0,y.cM⟩:=by
        unfold FC
        rw [hW.ref,e]
        simp only
        rw [e3];rfl
       rw [hn,pJ (by simp;omega)]
       simp only [aa]
       unfold mR
       simp only [aa,bC]
       rw [bl (x:=room - out.length - 1) (by omega) (by omega),bl (x:=i+1) (by omega) (by omega)]
       have:=ih (i+1) (out++[⟨d.Key,w0,y.cM⟩]) (by omega) (by omega) (by simp;omega)
       rw [← this]
       congr 1
       simp;omega
theorem KL {c:Campaign} {fl:List DeviceS} {l:List MarkS} (H:KU c fl l) (hs:fl.Pairwise (fun a b=>Lib.compareBytes a.Key b.Key < 0)) (h19:(fl.length:Int) < 20) (im:List an) (hx:sy im) (iv:ke im) {s:CS} {at_ cX:Int} {n:Nat} (h:SI c fl s (l.take n)) (h1:∀ x∈l.take n,x.At≤at_) (h2:∀ x∈l.drop n,at_ < x.At)
 (hz:-86400000≤cX∧cX≤86400000) (ha:0≤at_∧at_≤345686399999) (K:WM) (hK:CJ im c.Target K):
 ∃ out K',jd s ⟨im,c.Target,K⟩ fl cX at_=some (out,⟨im,c.Target,K'⟩)∧CJ im c.Target K'∧(out.length:Int)≤20∧(∀ S bs,nW c fl l at_=some S→tc c fl l at_=some bs→S=s.bh→bs=s.aV→rj c im fl l cX at_=some out):=by
 unfold jd jv
 rw [h.c_,Kv c hz ha]
 by_cases hc:((decide ((0:Int)≤s.bh))||(!(nI c cX at_)))=true
 ·rw [if_pos hc]
  refine ⟨[],K,rfl,hK,by simp,fun S bs e1 e2 e3 e4=>?_⟩
  unfold rj qH
  rw [e1]
  simp only [aa]
  rw [e3,if_pos hc]
 ·rw [if_neg hc,OT H.c_ H.f_ H.Y8 h]
  obtain ⟨L,p1,p2,p3,p4,p5⟩:=Nu c (l.take n) s.aV.length fl (c.Room,[])
  have x8:=H.c_.room
  rw [bk] at p1
  have hLl:=p2.length_le
  obtain ⟨Z,z1,z2,z3⟩:=L8 H.c_ H.f_ hs h L p2 (by omega)
  have hZ:∀ d∈Z,d∈fl∧zU c (oq c (l.take n) d)=false:=fun d hd=>⟨p2.subset (z3.mem_iff.1 hd),p3 d (z3.mem_iff.1 hd)⟩
  have hZl:Z.length=L.length:=z3.length_eq
  unfold gP
  rw [p1,z1]
  simp only [aa]
  obtain ⟨K',k1,k2⟩:=OU H.c_ H.f_ h im hx iv (fl.foldl (tw c (l.take n) s.aV.length) (c.Room,[])).1 Z hZ (by omega) Z.length 0 K [] (by omega) (by omega) hK (by simp)
  rw [d4,d5] at k1
  refine ⟨_,K',k1,k2,?_,fun S bs e1 e2 e3 e4=>?_⟩
  ·have:=Iz im c.Target (fl.foldl (tw c (l.take n) s.aV.length) (c.Room,[])).1 (fun d=>(oq c (l.take n) d).ak.Version) Z []
   simp only [bp] at this
   omega
  ·unfold rj qH
   rw [e1]
   simp only [aa]
   rw [e3,if_neg hc,e2]
   simp only [aa]
   rw [e4,RO H im h1 h2 s.aV]
   unfold qG
   rw [p1,z2]
   simp only [aa]
   have:=RP H im hx iv h1 h2 (fl.foldl (tw c (l.take n) s.aV.length) (c.Room,[])).1 (by simp only at p4 p5;omega) Z hZ (by omega) Z.length 0 [] (by omega) (by omega) (by simp)
   rw [d4,d5,bp,show ∀ r:Int,r - ((0:Nat):Int)=r from fun r=>by simp] at this
   exact this
theorem FD {s:AS} {K:Int} (hs:uE s K) (hK:3≤K):sE (gA s) (K - 3) (fun v=>lR v=true):=by
 unfold gA
 refine sE.of ?_
 refine Ok.gen (BO hs (by omega) (by omega) (by omega) (by omega)) (fun a s1 h1 q1=>?_)
 refine Ok.gen (lQ q1 (by omega) (by simp) (by simp)) (fun b s2 h2 q2=>?_)
 refine Ok.gen (lQ q2 (by omega) (by simp) (by simp)) (fun c s3 h3 q3=>?_)
 have b2:=M5 (lo:=0) (hi:=9999) h2 (by decide)
 have b3:=M5 (lo:=0) (hi:=9999) h3 (by decide)
 refine Ok.ret ⟨?_,q3.less (by omega)⟩
 unfold lR;simp;omega
theorem A0 {s:AS} {K:Int} (hs:uE s K) (hK:8≤K):sE (fQ s) (K - 8) (fun _=>True):=by
 unfold fQ jO
 refine sE.of ?_
 refine Ok.gen (FD hs (by omega)) (fun a s1 h1 q1=>?_)
 refine Ok.gen (tu q1 (by omega) (by omega) (by omega)) (fun b s2 h2 q2=>?_)
 split
 ·refine Ok.gen (vv q2 (by omega) (by omega) (by omega) (by omega)) (fun c s3 h3 q3=>?_)
  refine Ok.gen (vv q3 (by omega) (by omega) (by omega) (by omega)) (fun d s4 h4 q4=>?_)
  exact Ok.ret ⟨trivial,q4.less (by omega)⟩
 ·exact Ok.ret ⟨trivial,q2.less (by omega)⟩
theorem Uo {α:Type} {P:α→Prop} {xs:List α} {y:α} (h:∀ x∈xs,P x) (hy:P y):∀ x∈xs++[y],P x:=by
 intro x hx
 rcases al.1 hx with h1 | h1
 ·exact h x h1
 ·rw [ai.1 h1];exact hy
theorem mem_set {α:Type} {P:α→Prop} {xs:List α} {i:Nat} {y:α} (h:∀ x∈xs,P x) (hy:P y):∀ x∈xs.set i y,P x:=by
 intro x hx
 rcases List.mem_or_eq_of_mem_set hx with h1 | h1
 ·exact h x h1
 ·rw [h1];exact hy
def FE (x:an):Prop:=x.dc.length≤2∧x.bS.length≤2
def Zo (xs:List an):Prop:=xs.length≤8∧∀ x∈xs,FE x
theorem FE.b {x:an} (h:FE x):FZ x:=⟨by have:=h.1;omega,by have:=h.2;omega⟩
theorem RQ {n10:Int} (hn:2≤n10∧n10≤5) {l:List Int} {n:Int} {xs:List an} {K:Int} (hs:uE ⟨l,n⟩ K) (hK:12≤K) (hx:xs.length≤100∧∀ x∈xs,FE x):
 Ok (o7 n10 l n xs 0) (fun r=>∃ l' n' ys,r=.inl (l',n',ys,n10+1)∧uE ⟨l',n'⟩ (K - 12)∧ys.length≤xs.length+2∧∀ x∈ys,FE x):=by
 unfold o7
 refine Ok.iter (fun x:(List Int)×Int×(List an)×Int=>(2 - x.2.2.2).toNat) (fun x=>(0≤x.2.2.2∧x.2.2.2≤2)∧uE ⟨x.1,x.2.1⟩ (K - 6 * x.2.2.2)∧(x.2.2.1.length:Int)≤xs.length+x.2.2.2∧∀ y∈x.2.2.1,FE y) ?_ _ ⟨by simp,by simpa using hs,by simp,hx.2⟩
 rintro ⟨l,n,ys,i⟩ ⟨h0,h1,h2,h3⟩
 dsimp only at h0 h1 h2 h3 ⊢
 have w1:bB (i+1)=i+1:=bl (by omega) (by omega)
 have w2:bB (n10+1)=n10+1:=bl (by omega) (by omega)
 have w3:bB (n10 - 1)=n10 - 1:=bl (by omega) (by omega)
 unfold ja
 rw [w2,w3]
 have j1:∀ (l':List Int) (n':Int) (zs:List an),i < 2→uE ⟨l',n'⟩ (K - 6 * i - 6)→zs.length≤ys.length+1→(∀ y∈zs,FE y)→Ok (fe i l' n' zs) (O4 (fun x:(List Int)×Int×(List an)×Int=>(2 - x.2.2.2).toNat) (fun x=>(0≤x.2.2.2∧x.2.2.2≤2)∧uE ⟨x.1,x.2.1⟩ (K - 6 * x.2.2.2)∧(x.2.2.1.length:Int)≤xs.length+x.2.2.2∧∀ y∈x.2.2.1,FE y) (fun r=>∃ l' n' ys,r=.inl (l',n',ys,n10+1)∧uE ⟨l',n'⟩ (K - 12)∧ys.length≤xs.length+2∧∀ x∈ys,FE x) (l,n,ys,i)):=by
  intro l' n' zs hi hq hl hb
  unfold fe
  rw [w1]
  exact Ok.ret ⟨⟨⟨by dsimp only;omega,by dsimp only;omega⟩,hq.less (by dsimp only;omega),by dsimp only;omega,hb⟩,by dsimp only;omega⟩
 split
 ·rename_i hi
  have hi:i < 2:=by simpa using hi
  refine Ok.idx h0.1 (by simpa using hi) (fun m hm _=>?_)
  refine Ok.gen (tu h1 (by omega) (by omega) (by omega)) (fun b s1 p1 q1=>?_)
  split
  ·exact j1 _ _ _ hi (q1.less (by omega)) (by omega) h3
  ·refine Ok.gen (zp q1 (by omega) (by omega) (by omega)) (fun c s2 p2 q2=>?_)
   refine Ok.idx p2.1 (by simpa using p2.2) (fun ms hms IB=>?_)
   have lms:ms.length≤2:=by
    simp only [ad,d6,or_false] at IB
    rcases IB with h | h | h | h<;>subst h<;>simp
   refine Ok.gen (lQ q2 (by omega) (by simp) (by simp)) (fun d s3 p3 q3=>?_)
   refine Ok.gen (BO q3 (by omega) (by omega) (by omega) (by omega)) (fun e s4 p4 q4=>?_)
   refine Ok.gen (lQ q4 (by omega) (by simp) (by simp)) (fun f s5 p5 q5=>?_)
   refine Ok.gen (tu q5 (by omega) (by omega) (by omega)) (fun g s6 p6 q6=>?_)
   dsimp only
   refine (fun (H:∀ Q,(∀ (zs:List an),zs.length≤ys.length+1→(∀ y∈zs,FE y)→Ok (fe i s6.L s6.at_ zs) Q)→Ok (iZ n10 ys i m ms (d,s3) (e,s4) (f,s5) s6.L s6.at_ (g&&decide (m=5))) Q)=>H _ (fun zs hl hb=>j1 _ _ zs hi (q6.less (by omega)) hl hb)) (fun Q J=>?_)
   have j5:∀ (rs:List Range),rs.length≤2→Ok (gI n10 ys i m ms (d,s3) s6.L s6.at_ rs) Q:=by
    intro rs hr
    unfold gI
    refine Ok.app (by simp;omega) ?_
    exact J _ (by simp) (Uo h3 ⟨by show ms.length≤2;omega,by show rs.length≤2;omega⟩)
   have j4:∀ (rs:List Range) (a1 a2 a3 a4 a5:Int) (c:Bool),rs.length≤1→Ok (gJ n10 ys i m ms (d,s3) s6.L s6.at_ rs a1 a2 a3 a4 a5 c) Q:=by
    intro rs a1 a2 a3 a4 a5 c hr
    unfold gJ
    split
    ·refine Ok.app (by simp;omega) ?_
     exact j5 _ (by simp;omega)
    ·exact j5 _ (by omega)
   have j3:∀ (rs:List Range) (a1 a2 a3 a4 a5:Int),rs.length≤1→Ok (gK n10 ys i m ms (d,s3) s6.L s6.at_ rs a1 a2 a3 a4 a5) Q:=by
    intro rs a1 a2 a3 a4 a5 hr
    unfold gK
    split
    ·exact j4 _ _ _ _ _ _ _ hr
    ·refine Ok.idx (by omega) (by omega) (fun r _ _=>?_)
     simp only [u4,aa]
     exact j4 _ _ _ _ _ _ _ hr
   unfold iZ
   split
   ·refine Ok.app (by simp) ?_
    exact j3 _ _ _ _ _ _ (by simp)
   ·exact j3 _ _ _ _ _ _ (by simp)
 ·rename_i hi
  have hi:¬ i < 2:=by simpa using hi
  exact Ok.inr (Ok.ret ⟨l,n,ys,rfl,h1.less (by omega),by omega,h3⟩)
theorem F9 {s:AS} {K:Int} (hs:uE s K) (hK:48≤K):sE (ln s) (K - 48) Zo:=by
 unfold ln sO
 refine sE.of ?_
 refine Ok.iter (fun x:(List Int)×Int×(List an)×Int=>(6 - x.2.2.2).toNat) (fun x=>(2≤x.2.2.2∧x.2.2.2≤6)∧uE ⟨x.1,x.2.1⟩ (K - 12 * (x.2.2.2 - 2))∧(x.2.2.1.length:Int)≤2 * (x.2.2.2 - 2)∧∀ y∈x.2.2.1,FE y) ?_ _ ⟨by simp,by simpa using hs,by simp,by simp⟩
 rintro ⟨l,n,ys,i⟩ ⟨h0,h1,h2,h3⟩
 dsimp only at h0 h1 h2 h3 ⊢
 unfold jb
 split
 ·rename_i hi
  obtain ⟨r,e,l',n',zs,rfl,g1,g2,g3⟩:=RQ (n10:=i) ⟨h0.1,hi⟩ h1 (by omega) ⟨by omega,h3⟩
  exact ⟨_,e,⟨by dsimp only;omega,g1.less (by dsimp only;omega),by dsimp only;omega,g3⟩,by dsimp only;omega⟩
 ·exact Ok.inr (Ok.ret ⟨⟨by show ys.length≤8;omega,h3⟩,h1.less (by omega)⟩)
theorem RR {s:AS} {K:Int} (hs:uE s K) (hK:68≤K):sE (qq s) (K - 68) sy:=by
 unfold qq
 refine sE.of ?_
 refine Ok.gen (F9 hs (by omega)) (fun xs s1 h1 q1=>?_)
 dsimp only
 have e2:∀ (l:List Int) (n:Int) (ys:List an),uE ⟨l,n⟩ (K - 68)→sy ys→Ok (nj l n ys) (fun r=>sy r.1∧uE r.2 (K - 68)):=fun l n ys hq hy=>Ok.ret ⟨hy,hq⟩
 unfold nn
 have Lu:∀ {i:Nat} {y:an},FZ y→sy (xs.set i y):=fun hy=>⟨by simpa using h1.1,mem_set (fun x hx=>(h1.2 x hx).b) hy⟩
 split
 ·rename_i hp
  have hp:0 < xs.length:=by simpa using hp
  refine Ok.gen (tu q1 (by omega) (by omega) (by omega)) (fun b s2 p2 q2=>?_)
  dsimp only
  split
  ·refine Ok.gen (zp q2 (by omega) (by omega) (by have:=h1.1;omega)) (fun i s3 p3 q3=>?_)
   refine Ok.idx p3.1 p3.2 (fun x hx hm=>?_)
   have hb:=h1.2 x hm
   refine Ok.gen (zp q3 (by omega) (by omega) (by omega)) (fun c s4 p4 q4=>?_)
   unfold kM kN kO nk
   unfold kO
   unfold kN
   unfold kM
   dsimp only
   split
   ·refine Ok.gen (A0 q4 (by omega)) (fun v s5 p5 q5=>?_)
    exact e2 _ _ _ (q5.less (by omega)) (Lu hb.b)
   ·split
    ·refine Ok.gen (zp q4 (by omega) (by omega) (by omega)) (fun c s5 p5 q5=>?_)
     refine Ok.idx p5.1 (by simpa using p5.2) (fun ms hms IB=>?_)
     refine e2 _ _ _ (q5.less (by omega)) (Lu ⟨?_,hb.b.2⟩)
     simp only [ad,d6,or_false] at IB
     rcases IB with h | h | h | h<;>subst h<;>simp
    ·split
     ·have Ag:gL x.bS=some x.bS:=by
       unfold gL
       rw [pJ (by have:=hb.2;simp;omega)];rfl
      refine Ok.is Ag ?_
      refine Ok.gen (A0 q4 (by omega)) (fun v s5 p5 q5=>?_)
      refine Ok.gen (A0 q5 (by omega)) (fun w s6 p6 q6=>?_)
      have hf:=hb.2
      refine Ok.app (by simp;omega) ?_
      exact e2 _ _ _ (q6.less (by omega)) (Lu ⟨hb.b.1,by simp;omega⟩)
     ·split
      ·exact e2 _ _ _ (q4.less (by omega)) (Lu ⟨hb.b.1,by simp⟩)
      ·refine Ok.gen (vv q4 (by omega) (by omega) (by omega) (by omega)) (fun c s5 p5 q5=>?_)
       exact e2 _ _ _ (q5.less (by omega)) (Lu hb.b)
  ·exact e2 _ _ _ (q2.less (by omega)) ⟨h1.1,fun x hx=>(h1.2 x hx).b⟩
 ·rw [if_neg (by simp)]
  exact e2 _ _ _ (q1.less (by omega)) ⟨h1.1,fun x hx=>(h1.2 x hx).b⟩
def Va (cX:Int):Bool:=decide (-86400000≤cX)&&decide (cX≤86400000)
def O9 (cX:Int):Int:=if Va cX=true then 0 else 1
def A1 (cX at_:Int):Int:=if (Va cX&&AX at_)=true then 0 else 1
theorem Nv (cX at_:Int):fS cX at_=A1 cX at_:=by
 unfold fS lG gl vV A1
 rw [xp,show (decide (0≤at_)&&decide (at_≤345686399999))=AX at_ from rfl]
 have h:(decide (cX < -86400000)||decide ((86400000:Int) < cX))=!(Va cX):=by
  unfold Va
  by_cases h1:-86400000≤cX<;>by_cases h2:cX≤86400000<;>simp [h1,h2,Int.not_le]<;>omega
 rw [h]
 cases Va cX<;>cases AX at_<;>rfl
theorem Hc (cX:Int):(cX < -86400000→vi true 1=O9 cX)∧(¬ cX < -86400000→vi (decide ((86400000:Int) < cX)) 1=O9 cX):=by
 unfold vi O9 Va
 refine ⟨fun h=>?_,fun h=>?_⟩
 ·rw [if_pos rfl,if_neg]
  simp;omega
 ·by_cases h2:cX≤86400000
  ·rw [if_neg (by simpa using h2),if_pos]
   simp;omega
  ·rw [if_pos (by simp;omega),if_neg]
   simp;omega
theorem Zp (at_:Int):kH at_=F5 at_:=by
 unfold kH vi F5
 rw [AW,show (decide (0≤at_)&&decide (at_≤345686399999))=AX at_ from rfl]
 cases AX at_<;>rfl
theorem Vb (cX at_:Int):pL [O9 cX,F5 at_]=A1 cX at_:=by
 unfold O9 F5 A1
 cases Va cX<;>cases AX at_<;>rfl
theorem nR (a:Int) (r:List Int):pL (a :: r)=if a≠0 then a else pL r:=by
 simp only [pL]
theorem RT (r cX at_:Int):pL [r,O9 cX,F5 at_]=pL [r,A1 cX at_]:=by
 rw [nR,nR r [A1 cX at_],Vb]
 by_cases h:A1 cX at_=0<;>simp [pL,h]
theorem RU (r i d m cX at_:Int):pL [r,i,d,m,O9 cX,F5 at_]=pL [r,i,d,m,A1 cX at_]:=by
 rw [nR,nR i,nR d,nR m,Vb,nR r [i,d,m,A1 cX at_],nR i [d,m,A1 cX at_],nR d [m,A1 cX at_],nR m [A1 cX at_]]
 by_cases h:A1 cX at_=0<;>simp [pL,h]
theorem x4 {a:Int} {r:List Int} (h:pL (a :: r)=0):a=0∧pL r=0:=by
 rw [nR] at h
 by_cases ha:a=0
 ·exact ⟨ha,by simpa [ha] using h⟩
 ·rw [if_pos ha] at h;exact absurd h ha
theorem Zq {cX at_:Int} (h:A1 cX at_=0):(-86400000≤cX∧cX≤86400000)∧0≤at_∧at_≤345686399999:=by
 unfold A1 at h
 split at h
 ·rename_i hh
  unfold Va AX at hh
  simp only [cn,decide_eq_true_eq] at hh
  exact hh
 ·cases h
theorem RW {s:AS} {K:Int} (hs:uE s K) (hK:60≤K):sE (r8 s 6) (K - 60) (fun l=>l.length≤6):=by
 refine sE.of ?_
 have hr:sE (mg s 6) (K - 30) (fun l=>l.length≤6):=by
  refine sE.of ?_
  unfold mg
  rw [show A5 [([100,49]:bn),([100,50]:bn),([100,51]:bn),([100,52]:bn),([100,53]:bn),([100,54]:bn)] (0:Int) 6=some [([100,49]:bn),([100,50]:bn),([100,51]:bn),([100,52]:bn),([100,53]:bn),([100,54]:bn)] from rfl]
  simp only [aa]
  unfold tY
  refine Ok.iter (fun x:List Int×Int×List DeviceS×Int=>(6 - x.2.2.2).toNat) (fun x:List Int×Int×List DeviceS×Int=>0≤x.2.2.2∧x.2.2.2≤6∧uE ⟨x.1,x.2.1⟩ (K - 30+4 * (6 - x.2.2.2))∧(x.2.2.1.length:Int)≤x.2.2.2) ?_ _ ⟨by simp,by simp,hs.less (by simp only;omega),by simp⟩
  rintro ⟨L,a,l,n⟩ ⟨g0,g1,g2,g3⟩
  simp only at g0 g1 g2 g3 ⊢
  unfold jG
  by_cases hn:n < 6
  ·rw [if_pos (by simpa using hn)]
   refine Ok.idx g0 (by simpa using hn) (fun p hp _=>?_)
   refine Ok.gen (tu g2 (by omega) (by omega) (by omega)) (fun b s2 _ q2=>?_)
   dsimp only
   unfold jF
   rw [bl (by omega) (by omega)]
   split
   ·refine Ok.gen (AU q2 (by omega) (by simp) (by simp)) (fun u s6 _ q6=>?_)
    refine Ok.gen (lQ q6 (by omega) (by simp) (by simp)) (fun v s7 _ q7=>?_)
    refine Ok.gen (lQ q7 (by omega) (by simp) (by simp)) (fun w s8 _ q8=>?_)
    refine Ok.app (by simp;omega) ?_
    exact Ok.ret ⟨⟨by simp only;omega,by simp only;omega,q8.less (by simp only;omega),by simp;omega⟩,by simp only;omega⟩
   ·exact Ok.ret ⟨⟨by simp only;omega,by simp only;omega,q2.less (by simp only;omega),by simp only;omega⟩,by simp only;omega⟩
  ·rw [if_neg (by simpa using hn)]
   exact Ok.inr (Ok.ret ⟨by simp only;omega,g2.less (by omega)⟩)
 unfold r8
 refine Ok.gen hr (fun l s1 hl q1=>?_)
 dsimp only
 unfold oz oy
 split
 ·rename_i tQ
  refine Ok.gen (tu q1 (by omega) (by omega) (by omega)) (fun b s2 _ q2=>?_)
  dsimp only
  split
  ·refine Ok.gen (zp q2 (by omega) (by omega) (by omega)) (fun n s3 hn q3=>?_)
   dsimp only
   refine Ok.idx hn.1 hn.2 (fun p hp _=>?_)
   refine Ok.gen (AU q3 (by omega) (by simp) (by simp)) (fun u s4 _ q4=>?_)
   refine Ok.gen (AU q4 (by omega) (by simp) (by simp)) (fun v s5 _ q5=>?_)
   refine Ok.gen (GX q5 (by omega)) (fun w s6 _ q6=>?_)
   exact Ok.ret ⟨by simpa using hl,q6.less (by omega)⟩
  ·exact Ok.ret ⟨hl,q2.less (by omega)⟩
 ·rw [if_neg (by simp)]
  exact Ok.ret ⟨hl,q1.less (by omega)⟩
theorem OV {c:Campaign} {r i:Int} (hr:cV c=some r) (hR:r=0→lB c) {im:List an} (hx:sy im) (hi:eA im=some i) (hI:i=0→ke im) (fl:List DeviceS) (ac9:(fl.length:Int) < 20) (l:List MarkS) (hb:(fl.length * l.length:Int)≤100000) (cX at_:Int):
 (pL [r,i,BX fl,CA l,A1 cX at_]≠0→iL c im fl l cX at_=some ([],pL [r,i,BX fl,CA l,A1 cX at_]))∧
 (pL [r,i,BX fl,CA l,A1 cX at_]=0→∃ out,iL c im fl l cX at_=some (out,0)∧(out.length:Int)≤20∧rj c im fl l cX at_=some out):=by
 unfold iL
 rw [hr,hi,F2,F0,Nv]
 simp only [aa]
 rw [J0 _ (by simp)]
 simp only [aa]
 refine ⟨fun h=>by rw [if_pos h],fun h=>?_⟩
 rw [if_neg (by simpa using h)]
 obtain ⟨g1,h2⟩:=x4 h
 obtain ⟨g2,h3⟩:=x4 h2
 obtain ⟨g3,h4⟩:=x4 h3
 obtain ⟨g4,h5⟩:=x4 h4
 obtain ⟨g5,_⟩:=x4 h5
 obtain ⟨hz,ha⟩:=Zq g5
 obtain ⟨hf,Hl⟩:=Ww g3
 obtain ⟨m1,m2,m3⟩:=Wx g4
 have H:KU c fl l:=⟨hR g1,hf,Hl,m1,m2,m3⟩
 have hs:fl.Pairwise (fun a b=>Lib.compareBytes a.Key b.Key < 0):=by
  unfold BX at g3
  rw [if_neg (by omega)] at g3
  exact (Ip g3).2.1
 obtain ⟨v,s,n,v1,v2,v3,v4,v5,v6⟩:=T9 H at_ ha
 rw [v1]
 simp only [aa]
 rw [v2]
 simp only [aa]
 have hS:=Iu H at_ n v4 v5 hb
 have hB:=Ks H ha.2 hS v6.r v6.f
 obtain ⟨out,K',o1,o2,o3,o4⟩:=KL H hs ac9 im hx (hI g2) v3.toSI v4 v5 hz ha [] (.nil im c.Target)
 have e:(⟨c,s.qd,s.dq,s.open_,s.bD,s.ba,s.aV,s.bh,s.cZ,s.mf⟩:CS)=s:=by
  rw [← v3.c_]
 rw [e,o1]
 exact ⟨out,rfl,o3,o4 _ _ hS hB v3.sp.symm rfl⟩
theorem Me {c:Campaign} {r:Int} (hr:cV c=some r) (cX at_:Int):
 nz c cX at_=some (if pL [r,A1 cX at_]≠0 then (false,pL [r,A1 cX at_]) else (nI c cX at_,0)):=by
 unfold nz
 rw [hr,Nv]
 simp only [aa]
 rw [J0 _ (by simp)]
 simp only [aa]
 by_cases h:pL [r,A1 cX at_]=0
 ·obtain ⟨_,h5⟩:=x4 h
  obtain ⟨g5,_⟩:=x4 h5
  obtain ⟨hz,ha⟩:=Zq g5
  rw [if_neg (by simpa using h),if_neg (by simpa using h),Kv c hz ha]
 ·rw [if_pos h,if_pos h]
theorem CK (L:List Int):sv L=some true:=by
 have key:Ok (sv L) (fun r=>r=true):=by
  unfold sv
  refine Ok.gen (LZ (s:=⟨L,0⟩) (K:=1000) ⟨by simp,by simp⟩ (by omega)) (fun c s1 hc q1=>?_)
  refine Ok.gen (RR q1 (by omega)) (fun im s2 FN q2=>?_)
  refine Ok.gen (RW q2 (by omega)) (fun fl s3 hf q3=>?_)
  refine Ok.gen (lQ q3 (by omega) (by simp) (by simp)) (fun at_ s4 _ q4=>?_)
  refine Ok.gen (lQ q4 (by omega) (by simp) (by simp)) (fun cX s5 _ q5=>?_)
  refine Ok.gen (BO q5 (by omega) (by omega) (by omega) (by omega)) (fun m s6 hm q6=>?_)
  dsimp only
  refine Ok.gen (TS q6 (by omega) (by omega) hc (by omega)) (fun l s7 hl q7=>?_)
  have acA:l.length≤20:=by have:=hl.1;omega
  have hbn:fl.length * l.length≤6 * 20:=Nat.mul_le_mul hf acA
  have hb:(fl.length * l.length:Int)≤100000:=by
   have:((fl.length * l.length:Nat):Int)=(fl.length * l.length:Int):=by push_cast;rfl
   omega
  dsimp only
  obtain ⟨r,r1,r2⟩:=F4 c
  obtain ⟨i,i1,i2⟩:=OQ im FN
  obtain ⟨d1,d2⟩:=OV r1 r2 FN i1 i2 fl (by omega) l hb cX at_
  have j1:∀ (gy:List cd×Int),iL c im fl l cX at_=some gy→Ok (ma (c,s1) (im,s2) (fl,s3) (at_,s4) (cX,s5) (l,s7) gy (if pL [r,A1 cX at_]≠0 then (false,pL [r,A1 cX at_]) else (nI c cX at_,0)) (O9 cX)) (fun r=>r=true):=by
   intro gy hv
   have tail:∀ (ex:List cd) (fu:Int),gy=(ex,fu)→(ex.length:Int)≤20→Ok (l0 (c,s1) (at_,s4) (cX,s5) gy (if pL [r,A1 cX at_]≠0 then (false,pL [r,A1 cX at_]) else (nI c cX at_,0)) (pL [r,A1 cX at_]) fu ex) (fun r=>r=true):=by
    rintro ex fu rfl he
    unfold l0
    have eqs:eV ex ex=some true:=by
     rw [show eV ex ex=some (decide (ex=ex)) from Om ex ex (by omega)];simp
    by_cases h:pL [r,A1 cX at_]=0
    ·rw [if_neg (show ¬ pL [r,A1 cX at_]≠0 by simpa using h),if_pos h.symm,if_pos h,if_pos (by simp),if_pos rfl,eqs]
     simp only [aa,if_true]
     rw [BU]
     exact Ok.ret rfl
    ·rw [if_pos (show pL [r,A1 cX at_]≠0 from h),if_pos rfl,if_neg h,if_pos (by simp),if_pos rfl,eqs]
     simp only [aa,if_true]
     rw [BU]
     exact Ok.ret rfl
   unfold ma
   simp only
   rw [Ig,r1,← LW,i1,F3,F1 l hl.2,Zp]
   simp only [aa]
   rw [show Cn [r,O9 cX,F5 at_]=some (pL [r,O9 cX,F5 at_]) from AP _ (by simp),show Cn [r,i,BX fl,CA l,O9 cX,F5 at_]=some (pL [r,i,BX fl,CA l,O9 cX,F5 at_]) from AP _ (by simp),RT,RU]
   simp only [aa]
   by_cases h:pL [r,i,BX fl,CA l,A1 cX at_]=0
   ·obtain ⟨out,o1,o2,o3⟩:=d2 h
    rw [if_pos h,o3]
    simp only [aa]
    refine tail out _ ?_ o2
    rw [h]
    exact ac (hv.symm.trans o1)
   ·rw [if_neg h]
    exact tail [] _ (ac (hv.symm.trans (d1 h))) (by simp)
  have hO:∃ gy,iL c im fl l cX at_=some gy:=by
   by_cases h:pL [r,i,BX fl,CA l,A1 cX at_]=0
   ·obtain ⟨out,o1,_⟩:=d2 h
    exact ⟨_,o1⟩
   ·exact ⟨_,d1 h⟩
  obtain ⟨gy,hv⟩:=hO
  rw [hv,Me r1]
  simp only [aa]
  by_cases h:cX < -86400000
  ·rw [if_pos h,(Hc cX).1 h]
   exact j1 gy hv
  ·rw [if_neg h,(Hc cX).2 h]
   exact j1 gy hv
 obtain ⟨r,h1,rfl⟩:=key
 exact h1
end Go.Beacon
