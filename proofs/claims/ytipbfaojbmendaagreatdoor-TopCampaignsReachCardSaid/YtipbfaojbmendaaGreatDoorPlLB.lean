/- Plain facts on what the functions compute. No program in sight. -/
import Derived.Test.YtipbfaojbmendaaGreatDoorPlLA
import Derived.Test.YtipbfaojbmendaaGreatDoorPlBA
open Bool renaming and_eq_true→ad,false_eq_true→b8,or_eq_true→cb,false_ne_true→c8,eq_iff_iff→eg,true_and→em,not_false→fn,not_true→fs,false_and→gc,and_true→gf,not_not→g9,true_eq_false→ii
open Int renaming le_refl→bU,tmod_eq_emod_of_nonneg→d4,toNat_natCast→g6,le_of_lt→ic
open List renaming mem_cons→af,length_cons→ai,mem_cons_of_mem→al,mem_map→ap,foldl_cons→aw,filter_cons→aL,length_filter_le→aS,mem_filter→a6,mem_append→a8,mem_singleton→be,foldl_append→bi,pairwise_cons→bk,range→bm,filter_append→bo,length_append→bp,replicate→bu,append_nil→bv,find?_cons→bx,mem_cons_self→bz,find?_eq_none→bG,foldl_nil→bP,getElem?_eq_getElem→bW,map_cons→bX,take_length→b4,mem_append_left→b5,filter_eq_nil_iff→b6,append_assoc→b7,getD_eq_getElem?_getD→b9,pairwise_append→ca,drop_of_length_le→cc,length_map→ce,filter_congr→cn,any_eq_true→cp,take_of_length_le→cv,length_singleton→cH,getElem_of_mem→cU,mem_of_getElem?→c7,take_append_drop→dd,Sublist.refl→dg,take_add_one→dk,length_take→dl,mem_of_find?_eq_some→d0,length_nil→d1,nil_append→d2,cons_append→d5,mem_flatMap→d8,getElem?_of_mem→d9,any_eq_false→el,mem_range→eq,Perm.refl→eF,Pairwise.filter→eH,take_sublist→eL,length_eq_zero_iff→eX,getLast?_eq_getElem?→eY,getElem?_eq_none_iff→e6,find?_some→e7,drop_eq_getElem_cons→e8,eq_nil_or_concat→e9,nodup_cons→fb,map_append→fc,find?_append→fz,drop_length→f0,getLast?_concat→ge,drop_zero→gk,flatMap_cons→gs,Perm.append_left→gt,Perm.append_right→gv,pairwise_map→gN,filter_nil→g5,range_succ→g7,all_eq_true→g8,getElem?_eq_some_iff→hE,take_zero→hG,eq_nil_of_length_eq_zero→hU,perm_middle→hV,concat_eq_append→hY,sum_cons→io,getElem?_map→it
open Nat renaming le_refl→ds,lt_or_ge→dy,le_trans→ip,add_sub_cancel→i6
open Option renaming bind_some→aa,some.inj→ac,map_eq_some_iff→a7,getD_some→ci,map_eq_none_iff→cA,map→d3,isSome_none→d6,isSome_some→d7,getD_none→fd
open Prod renaming mk.inj→cl,mk.injEq→fv
set_option linter.unusedVariables false
set_option linter.unusedSimpArgs false
namespace Go.Beacon
open Go Go.Eng
theorem mF {α:Type} {P:List α→Prop} (h0:P []) (h:∀ l x,P l→P (l++[x])):∀ l,P l:=by
 intro l
 rw [← l.reverse_reverse]
 induction l.reverse with
 | nil=>exact h0
 | cons x r ih=>rw [List.reverse_cons];exact h _ x ih
def vY (m:MarkS):Bool:=decide (m.Kind=3)||decide (m.Kind=4)
noncomputable def qD (c:Campaign) (dn:List MarkS) (m:MarkS) (d:DeviceS):Bool:=oQ c d.Key m&&CV (eP c dn d) m
noncomputable def w6 (c:Campaign) (fl:List DeviceS) (dn:List MarkS) (w:Nat) (m:MarkS):Bool:=vY m&&fl.any (fun d=>decide (mE c d.Key=w)&&qD c dn m d)
noncomputable def Ku (c:Campaign) (fl:List DeviceS) (w:Nat) (s:List MarkS×List MarkS) (m:MarkS):List MarkS×List MarkS:=(s.1++[m],if w6 c fl s.1 w m=true then s.2++[m] else s.2)
noncomputable def EL (c:Campaign) (fl:List DeviceS) (w:Nat) (dn:List MarkS):List MarkS:=(dn.foldl (Ku c fl w) ([],[])).2
theorem T7 (c:Campaign) (fl:List DeviceS) (w:Nat):∀ dn:List MarkS,(dn.foldl (Ku c fl w) ([],[])).1=dn:=
 mF rfl (fun l x h=>by rw [bi];simp only [aw,bP];unfold Ku at h ⊢;rw [h])
theorem rb (c:Campaign) (fl:List DeviceS) (w:Nat) (dn:List MarkS) (m:MarkS):EL c fl w (dn++[m])=if w6 c fl dn w m=true then EL c fl w dn++[m] else EL c fl w dn:=by
 unfold EL
 rw [bi]
 simp only [aw,bP]
 have e:∀ S:List MarkS×List MarkS,(Ku c fl w S m).2=if w6 c fl S.1 w m=true then S.2++[m] else S.2:=fun _=>rfl
 rw [e,T7]
def yw (E:List MarkS):Nat:=(E.filter (fun m=>decide (m.Kind=4))).length
def zA (c:Campaign) (w:Nat) (E:List MarkS):Bool:=decide ((pV c w).pk≤(E.length:Int))&&decide (bA ((pV c w).ct * (E.length:Int)) < bA (1000 * (yw E:Int)))
noncomputable def Bq (c:Campaign) (fl:List DeviceS) (dn:List MarkS) (m:MarkS):Bool:=(bm c.aG.length).any (fun w=>w6 c fl dn w m&&zA c w (EL c fl w (dn++[m])))
noncomputable def Kv (c:Campaign) (fl:List DeviceS) (s:List MarkS×Int) (m:MarkS):List MarkS×Int:=(s.1++[m],if s.2 < 0∧Bq c fl s.1 m=true then m.At else s.2)
noncomputable def SA (c:Campaign) (fl:List DeviceS) (dn:List MarkS):Int:=(dn.foldl (Kv c fl) ([],-1)).2
theorem T8 (c:Campaign) (fl:List DeviceS):∀ dn:List MarkS,(dn.foldl (Kv c fl) ([],-1)).1=dn:=
 mF rfl (fun l x h=>by rw [bi];simp only [aw,bP];unfold Kv at h ⊢;rw [h])
theorem sC (c:Campaign) (fl:List DeviceS) (dn:List MarkS) (m:MarkS):SA c fl (dn++[m])=if SA c fl dn < 0∧Bq c fl dn m=true then m.At else SA c fl dn:=by
 unfold SA
 rw [bi]
 simp only [aw,bP]
 have e:∀ S:List MarkS×Int,(Kv c fl S m).2=if S.2 < 0∧Bq c fl S.1 m=true then m.At else S.2:=fun _=>rfl
 rw [e,T8]
noncomputable def F9 (c:Campaign) (dn:List MarkS) (w:Nat) (d:DeviceS):Bool:=decide (mE c d.Key=w)&&!uu c (eP c dn d)
noncomputable def Jn (c:Campaign) (fl:List DeviceS) (dn:List MarkS) (w:Nat):Nat:=(fl.filter (F9 c dn w)).length
structure SX (c:Campaign) (fl:List DeviceS) (s:CS) (dn:List MarkS):Prop extends SI c fl s dn where
 U1:∀ w,w < c.aG.length→s.open_.getD w 0=(Jn c fl dn w:Int)
 en:∀ w,w < c.aG.length→s.ba.getD w 0=((EL c fl w dn).length:Int)
 fa:∀ w,w < c.aG.length→s.aO.getD w 0=(yw (EL c fl w dn):Int)
 sp:s.aQ=SA c fl dn
theorem qH {l:List Int} {k w:Nat} {d:Int} (hk:k < l.length):(kh l k d).getD w 0=if k=w then bA (l.getD k 0+d) else l.getD w 0:=by
 unfold kh
 rw [b9,List.getElem?_set]
 by_cases e:k=w
 ·rw [if_pos e,if_pos e,if_pos hk];rfl
 ·rw [if_neg e,if_neg e,b9]
theorem filter_one {α:Type} {p p':α→Bool}:∀ (l:List α) (i:Nat) (d:α),l[i]? =some d→(∀ j d',j≠i→l[j]? =some d'→p' d'=p d')→(l.filter p').length+(if p d=true then 1 else 0)=(l.filter p).length+(if p' d=true then 1 else 0)
 | [],i,d,h,_=>by simp at h
 | x :: r,0,d,h,hr=>by
   simp at h;subst h
   have e:r.filter p'=r.filter p:=by
    refine cn (fun y hy=>?_)
    obtain ⟨j,hj⟩:=d9 hy
    exact hr (j+1) y (by omega) (by simpa using hj)
   rw [aL,aL,e]
   by_cases a:p x=true<;>by_cases b:p' x=true<;>simp [a,b]
 | x :: r,i+1,d,h,hr=>by
   have ih:=filter_one r i d (by simpa using h) (fun j d' hj hd=>hr (j+1) d' (by omega) (by simpa using hd))
   have e:=hr 0 x (by omega) rfl
   rw [aL,aL,e]
   by_cases a:p x=true
   ·rw [if_pos a,if_pos a,ai,ai];omega
   ·rw [if_neg a,if_neg a];exact ih
theorem HA {c:Campaign} {fl:List DeviceS} (hf:iP fl) {m:MarkS} {i j:Nat} {d d':DeviceS} (hi:fl[i]? =some d) (hj:fl[j]? =some d') (h:oQ c d.Key m=true) (h':oQ c d'.Key m=true):j=i:=by
 unfold oQ at h h'
 simp only [ad,decide_eq_true_eq] at h h'
 exact vo hf.NV j i d' d hj hi (by rw [← h'.1,h.1])
theorem T9 {c:Campaign} {fl:List DeviceS} (hf:iP fl) {dn:List MarkS} {m:MarkS} {i:Nat} {d:DeviceS} (hi:fl[i]? =some d) (h:oQ c d.Key m=true) (w:Nat):w6 c fl dn w m=(vY m&&(decide (mE c d.Key=w)&&CV (eP c dn d) m)):=by
 unfold w6 qD
 congr 1
 rw [eg,cp]
 constructor
 ·rintro ⟨d',ub,e⟩
  obtain ⟨j,hj⟩:=d9 ub
  simp only [ad,decide_eq_true_eq] at e ⊢
  obtain rfl:=HA hf hi hj h e.2.1
  rw [hi] at hj
  obtain rfl:=ac hj
  exact ⟨e.1,e.2.2⟩
 ·intro e
  simp only [ad,decide_eq_true_eq] at e
  exact ⟨d,c7 hi,by simp [e.1,e.2,h]⟩
theorem Ua {c:Campaign} {fl:List DeviceS} {dn:List MarkS} {m:MarkS} (h:∀ d∈fl,qD c dn m d=false) (w:Nat):w6 c fl dn w m=false:=by
 unfold w6
 rw [Bool.and_eq_false_iff]
 right
 rw [el]
 intro d hd
 rw [h d hd];simp
theorem N2 {c:Campaign} {fl:List DeviceS} {dn:List MarkS} {m:MarkS} (h:∀ w,w6 c fl dn w m=false):Bq c fl dn m=false:=by
 unfold Bq
 rw [el]
 intro w _
 rw [h w];simp
theorem Kw {c:Campaign} {fl:List DeviceS} {s s':CS} {dn:List MarkS} {m:MarkS} (h:SX c fl s dn) (hS:SI c fl s' (dn++[m])) (hc:∀ d∈fl,eP c (dn++[m]) d=eP c dn d) (hn:∀ w,w6 c fl dn w m=false)
 (e1:s'.open_=s.open_) (e2:s'.ba=s.ba) (e3:s'.aO=s.aO) (e4:s'.aQ=s.aQ):SX c fl s' (dn++[m]):=by
 refine ⟨hS,fun w hw=>?_,fun w hw=>?_,fun w hw=>?_,?_⟩
 ·rw [e1,h.U1 w hw]
  unfold Jn
  have e:fl.filter (F9 c (dn++[m]) w)=fl.filter (F9 c dn w):=cn (fun d hd=>by unfold F9;rw [hc d hd])
  rw [e]
 ·rw [e2,rb,hn w];exact h.en w hw
 ·rw [e3,rb,hn w];exact h.fa w hw
 ·rw [e4,sC,N2 hn,if_neg (by simp)];exact h.sp
theorem Ub (c:Campaign) (fl:List DeviceS) (w:Nat):∀ dn:List MarkS,(EL c fl w dn).length≤dn.length:=
 mF (by unfold EL;simp) (fun l x h=>by
  rw [rb];split
  ·simp;exact h
  ·simp;omega)
theorem Kx (E:List MarkS):yw E≤E.length:=aS _ _
theorem HB (E:List MarkS) (m:MarkS):yw (E++[m])=yw E+(if m.Kind=4 then 1 else 0):=by
 unfold yw
 rw [bo,bp,aL]
 by_cases h:m.Kind=4
 ·rw [if_pos (by simpa using h),if_pos h];rfl
 ·rw [if_neg (by simpa using h),if_neg h];rfl
theorem Ky {c:Campaign} {fl:List DeviceS} {s:CS} {dn:List MarkS} (hc:ga c) (hf:iP fl) (hl:(fl.length:Int)≤100000) (hd:(dn.length:Int)≤100000) (h:SX c fl s dn) (m:MarkS):Ok (cx s m) (fun r=>SX c fl r (dn++[m])∧r.aE=s.aE∧r.bM=s.bM):=by
 obtain ⟨r,r1,r2⟩:=Q2 hc hf h.toSI m
 rcases Kr hc hf h.toSI m with ⟨e,hr⟩ | ⟨i,d,hi,hr,e⟩
 ·rw [e] at r1
  obtain rfl:=ac r1
  have hq:∀ d∈fl,qD c dn m d=false:=fun d hd=>by unfold qD;rw [hr d hd];rfl
  exact ⟨s,e,Kw h r2 (fun d hd=>by rw [wZ,hr d hd];rfl) (Ua hq) rfl rfl rfl rfl,rfl,rfl⟩
 ·obtain ⟨k1,k2,k3,k4,k5,k6,k7,k8,k9⟩:=CX s i (mE c d.Key) (eP c dn d) m
  rw [e] at r1
  obtain rfl:=ac r1
  refine ⟨_,e,?_,k5,k6⟩
  have hm:=c7 hi
  have hw:=(xu c hc d.Key (hf.key d hm)).2
  have Uc:=T9 (dn:=dn) hf hi hr
  have EX:∀ d',d'∈fl→eP c (dn++[m]) d'=if d'=d then tw (eP c dn d) m else eP c dn d':=by
   intro d' ub
   rw [wZ]
   by_cases e:d'=d
   ·rw [if_pos e,e,if_pos hr]
   ·rw [if_neg e,if_neg]
    intro PW
    obtain ⟨j,hj⟩:=d9 ub
    have ej:=HA hf hi hj hr PW
    rw [ej,hi] at hj
    exact e (ac hj).symm
  by_cases dW:CV (eP c dn d) m=true
  ·have Jm:tw (eP c dn d) m=wX (eP c dn d) m:=by unfold tw;rw [if_pos dW]
   have WD:∀ w,w < c.aG.length→(FF s.c_ s.open_ (mE c d.Key) (eP c dn d) (wX (eP c dn d) m)).getD w 0=(Jn c fl (dn++[m]) w:Int):=by
    intro w H6
    have vJ:=filter_one (p:=F9 c dn w) (p':=F9 c (dn++[m]) w) fl i d hi (fun j d' hj ub=>by
     unfold F9
     rw [EX d' (c7 ub),if_neg]
     intro e;subst e
     exact hj (vo hf.NV j i d' d' ub hi rfl))
    have hp:F9 c dn w d=(decide (mE c d.Key=w)&&!uu c (eP c dn d)):=rfl
    have dE:F9 c (dn++[m]) w d=(decide (mE c d.Key=w)&&!uu c (wX (eP c dn d) m)):=by unfold F9;rw [EX d hm,if_pos rfl,Jm]
    have Bv:Jn c fl dn w≤fl.length:=aS _ _
    have Lc:Jn c fl (dn++[m]) w≤fl.length:=aS _ _
    have h0:=h.U1 w H6
    unfold Jn at Bv Lc h0 ⊢
    have X1:mE c d.Key < s.open_.length:=by rw [h.open_];exact hw
    unfold FF
    rw [h.c_]
    by_cases Se:mE c d.Key=w
    ·rw [hp,dE,Se,decide_eq_true rfl,em,em] at vJ
     rw [Se] at X1 ⊢
     cases a:uu c (eP c dn d)<;>cases b:uu c (wX (eP c dn d) m)<;>simp only [a,b] at vJ ⊢<;>simp at vJ
     ·rw [if_neg (by simp),h0];omega
     ·rw [if_pos (by simp),if_pos trivial,qH X1,if_pos rfl,h0,bc (by omega) (by omega)];omega
     ·rw [if_pos (by simp),if_neg (by simp),qH X1,if_pos rfl,h0,bc (by omega) (by omega)];omega
     ·rw [if_neg (by simp),h0];omega
    ·rw [hp,dE,decide_eq_false Se,gc,gc] at vJ
     simp at vJ
     rw [vJ]
     split
     ·split<;>rw [qH X1,if_neg Se]<;>exact h0
     ·exact h0
   by_cases hk:m.Kind≠3∧m.Kind≠4
   ·have MS:vY m=false:=by unfold vY;simp [hk]
    have Dp:∀ w,w6 c fl dn w m=false:=fun w=>by rw [Uc w,MS];rfl
    have hS:pW s i (mE c d.Key) (eP c dn d) m={s with open_:=FF s.c_ s.open_ (mE c d.Key) (eP c dn d) (wX (eP c dn d) m),iA:=s.iA.set i (tw (eP c dn d) m)}:=by
     unfold pW;rw [if_pos dW,if_pos hk]
    rw [hS] at r2 ⊢
    refine ⟨r2,WD,fun w H6=>?_,fun w H6=>?_,?_⟩
    ·rw [rb,Dp w];exact h.en w H6
    ·rw [rb,Dp w];exact h.fa w H6
    ·rw [sC,N2 Dp,if_neg (by simp)];exact h.sp
   ·have MS:vY m=true:=by unfold vY;simp;omega
    have hS:pW s i (mE c d.Key) (eP c dn d) m={s with open_:=FF s.c_ s.open_ (mE c d.Key) (eP c dn d) (wX (eP c dn d) m),ba:=kh s.ba (mE c d.Key) 1,aO:=if m.Kind=4 then kh s.aO (mE c d.Key) 1 else s.aO,aQ:=LB s.c_ (mE c d.Key) (kh s.ba (mE c d.Key) 1) (if m.Kind=4 then kh s.aO (mE c d.Key) 1 else s.aO) s.aQ m,iA:=s.iA.set i (tw (eP c dn d) m)}:=by
     unfold pW;rw [if_pos dW,if_neg hk]
    have hh:∀ w,w6 c fl dn w m=decide (mE c d.Key=w):=fun w=>by rw [Uc w,MS,dW];simp
    have zF:=Ub c fl (mE c d.Key) dn
    have Wx:=Kx (EL c fl (mE c d.Key) dn)
    have hle:mE c d.Key < s.ba.length:=by rw [h.ba];exact hw
    have hlf:mE c d.Key < s.aO.length:=by rw [h.aO];exact hw
    have tY:∀ w,w < c.aG.length→(kh s.ba (mE c d.Key) 1).getD w 0=((EL c fl w (dn++[m])).length:Int):=by
     intro w H6
     rw [qH hle,rb,hh w]
     by_cases e:mE c d.Key=w
     ·rw [if_pos e,decide_eq_true e,if_pos rfl,h.en _ hw,bc (by omega) (by omega),← e];simp
     ·rw [if_neg e,decide_eq_false e,if_neg c8];exact h.en w H6
    have Wz:∀ w,w < c.aG.length→(if m.Kind=4 then kh s.aO (mE c d.Key) 1 else s.aO).getD w 0=(yw (EL c fl w (dn++[m])):Int):=by
     intro w H6
     rw [rb,hh w]
     by_cases e:mE c d.Key=w
     ·rw [decide_eq_true e,if_pos rfl,HB]
      by_cases h4:m.Kind=4
      ·rw [if_pos h4,if_pos h4,qH hlf,if_pos e,h.fa _ hw,bc (by omega) (by omega),← e];simp
      ·rw [if_neg h4,if_neg h4,h.fa w H6];simp
     ·rw [decide_eq_false e,if_neg c8]
      split
      ·rw [qH hlf,if_neg e];exact h.fa w H6
      ·exact h.fa w H6
    rw [hS] at r2 ⊢
    refine ⟨r2,WD,tY,Wz,?_⟩
    simp only
    unfold LB
    rw [tY _ hw,Wz _ hw,h.c_,h.sp,sC]
    have xE:Bq c fl dn m=zA c (mE c d.Key) (EL c fl (mE c d.Key) (dn++[m])):=by
     unfold Bq
     rw [eg,cp]
     constructor
     ·rintro ⟨w,_,e⟩
      rw [hh w] at e
      simp only [ad,decide_eq_true_eq] at e
      rw [e.1];exact e.2
     ·intro e
      exact ⟨mE c d.Key,eq.2 hw,by rw [hh];simp [e]⟩
    rw [xE]
    unfold zA
    simp only [ad,decide_eq_true_eq]
  ·have Jm:tw (eP c dn d) m=eP c dn d:=by unfold tw;rw [if_neg dW]
   have hS:pW s i (mE c d.Key) (eP c dn d) m={s with iA:=s.iA.set i (tw (eP c dn d) m)}:=by unfold pW;rw [if_neg dW]
   have aa0:CV (eP c dn d) m=false:=by simpa using dW
   rw [hS] at r2 ⊢
   exact Kw h r2 (fun d' ub=>by rw [EX d' ub,Jm];split<;>simp_all) (fun w=>by rw [Uc w,aa0];simp) rfl rfl rfl rfl
theorem AZ (c:Campaign) (fl:List DeviceS) (hc:ga c) (hf:iP fl) (hl:(fl.length:Int)≤100000):Ok (dM c fl) (fun s=>SX c fl s []∧s.aE=[]∧s.bM=c.At):=by
 refine (Hy c fl hc hf hl).mono ?_
 rintro s ⟨h0,h1,h2,h3,h4,h5,h6⟩
 have Ud:∀ w,(bu c.aG.length (0:Int)).getD w 0=0:=by
  intro w
  rw [b9,List.getElem?_replicate]
  split<;>rfl
 refine ⟨⟨h0,fun w hw=>?_,fun w hw=>?_,fun w hw=>?_,?_⟩,h4,h6⟩
 ·rw [h1]
  have key:∀ l:List DeviceS,(∀ d∈l,mw d.Key=true)→(l.length:Int)≤100000→(l.foldl (w5 c) (bu c.aG.length 0)).getD w 0=((l.filter (F9 c [] w)).length:Int):=by
   refine mF (fun _ _=>Ud w) (fun l d ih hk hl=>?_)
   have ih:=ih (fun x hx=>hk x (b5 _ hx)) (by simp at hl;omega)
   have hll:((l.foldl (w5 c) (bu c.aG.length 0))).length=c.aG.length:=by rw [zx];simp
   have hle:=aS (F9 c [] w) l
   rw [bi,bo,aL]
   simp only [aw,bP]
   have hp:F9 c [] w d=(decide (mE c d.Key=w)&&!decide (d.bB=c.Target)):=by
    unfold F9 uu
    rw [show eP c [] d=x0 d from rfl]
    unfold x0
    simp
   have hkw:=(xu c hc d.Key (hk d (by simp))).2
   rw [hp]
   simp at hl
   by_cases a:d.bB=c.Target
   ·rw [show w5 c (l.foldl (w5 c) (bu c.aG.length 0)) d=l.foldl (w5 c) (bu c.aG.length 0) from if_pos (decide_eq_true a),ih];simp [a]
   ·rw [show w5 c (l.foldl (w5 c) (bu c.aG.length 0)) d=kh (l.foldl (w5 c) (bu c.aG.length 0)) (mE c d.Key) 1 from if_neg (by simpa using a),qH (by rw [hll];exact hkw)]
    by_cases b:mE c d.Key=w
    ·rw [if_pos b,b,ih,bc (by omega) (by omega)];simp [a]
    ·rw [if_neg b,ih];simp [a,b]
  exact key fl hf.key hl
 ·rw [h2,Ud];rfl
 ·rw [h3,Ud];rfl
 ·rw [h5];rfl
noncomputable def FM (c:Campaign) (dn:List MarkS) (d:DeviceS):List MarkS:=(dn.filter (oQ c d.Key)).foldl vX []
theorem Ey:∀ (ms A:List MarkS) (x:aj),(x.ah.Kind,x.aN)=nz A→((ms.foldl tw x).ah.Kind,(ms.foldl tw x).aN)=nz (ms.foldl vX A)
 | [],A,x,h=>h
 | m :: r,A,x,h=>by
   rw [aw,aw]
   refine Ey r _ _ ?_
   have e:CV x m=Ko (nz A).1 (nz A).2 m:=by unfold CV;rw [← h]
   unfold tw vX
   rw [e]
   split
   ·unfold nz;rw [ge];rfl
   ·exact h
theorem N3 (c:Campaign) (dn:List MarkS) (d:DeviceS):((eP c dn d).ah.Kind,(eP c dn d).aN)=nz (FM c dn d):=Ey _ [] (x0 d) rfl
theorem Q3 (c:Campaign) (dn:List MarkS) (m:MarkS) (d:DeviceS):FM c (dn++[m]) d=if qD c dn m d=true then FM c dn d++[m] else FM c dn d:=by
 have hl:=N3 c dn d
 have e:CV (eP c dn d) m=Ko (nz (FM c dn d)).1 (nz (FM c dn d)).2 m:=by unfold CV;rw [← hl]
 unfold qD
 conv=>lhs;unfold FM
 rw [bo,aL,bi]
 by_cases h:oQ c d.Key m=true
 ·rw [if_pos h,h,em,e];rfl
 ·rw [if_neg h,if_neg (by simp [h])];rfl
theorem Ue (c:Campaign) (dn:List MarkS) (d:DeviceS):(FM c dn d).length≤dn.length:=by
 have h1:=CW (dn.filter (oQ c d.Key)) []
 have h2:=aS (oQ c d.Key) dn
 unfold FM;simp at h1;omega
theorem N4 (c:Campaign) (k:bq) (l:List MarkS) (n:Nat) (at_:Int) (h1:∀ x∈l.take n,x.At≤at_) (h2:∀ x∈l.drop n,at_ < x.At):l.filter (tj c k at_)=(l.take n).filter (oQ c k):=by
 conv=>lhs;rw [← dd n l,bo]
 have z:(l.drop n).filter (tj c k at_)=[]:=by
  rw [b6]
  intro x hx
  have:=h2 x hx
  unfold tj
  simp only [ad,decide_eq_true_eq]
  omega
 rw [z,bv]
 refine cn (fun x hx=>?_)
 have:=h1 x hx
 unfold tj oQ
 rw [decide_eq_true this,gf]
theorem FL (c:Campaign) (d:DeviceS) (l:List MarkS) (n:Nat) (at_:Int) (h1:∀ x∈l.take n,x.At≤at_) (h2:∀ x∈l.drop n,at_ < x.At) (hl:(l.length:Int)≤3000) (hK:∀ q∈l,1≤q.Kind∧q.Kind≤5):vj c d.Key l at_=some (FM c (l.take n) d):=by
 rw [AY c d.Key l at_ (by omega) hK,N4 c d.Key l n at_ h1 h2];rfl
theorem zB (c:Campaign) (hc:ga c) (k:bq) (hk:mw k=true):uS c k=some (mE c k:Int):=by
 have h1:=uW hc.key
 have h2:=uW hk
 have Wy:=Kn c k
 obtain ⟨j,j1,j2⟩:=QY c hc (vm c k) Wy.2 c.aG.length 0 0 (by omega) (by omega) Wy.1 (by rw [gk,hc.sum];rfl)
 have e:ff c k=some j:=by
  unfold ff
  rw [FC c k (by omega) (by omega)]
  exact j1
 have e2:=(xu c hc k hk).1
 rw [e] at e2
 rw [← ac e2]
 unfold uS
 rw [FD c k (by omega) (by omega)]
 simp only [aa]
 rw [show vm c k - 0=vm c k by omega] at j2
 exact j2
theorem Ez {α β:Type} (q:α→Bool) (g:α→List β) (m:β):∀ L:List α,L.Pairwise (fun a b=>¬ (q a=true∧q b=true))→(L.flatMap (fun d=>if q d=true then g d++[m] else g d)).Perm (L.flatMap g++(if L.any q=true then [m] else []))
 | [],_=>by simp
 | d :: r,h=>by
   rw [bk] at h
   have ih:=Ez q g m r h.2
   rw [gs,gs,List.any_cons]
   by_cases hd:q d=true
   ·have hn:r.any q=false:=by
     rw [el]
     intro x hx hq
     exact h.1 x hx ⟨hd,hq⟩
    rw [hn,if_neg (by simp),bv] at ih
    rw [if_pos hd,hd,Bool.true_or,if_pos rfl,b7,b7]
    exact gt _ (((List.perm_append_comm).trans (gv _ ih)))
   ·rw [if_neg hd,show (q d||r.any q)=r.any q by simp [hd],b7]
    exact gt _ ih
noncomputable def L6 (c:Campaign) (fl:List DeviceS) (w:Nat):List DeviceS:=fl.filter (fun d=>decide (mE c d.Key=w))
theorem Q4 {c:Campaign} {fl:List DeviceS} (hf:iP fl) (w:Nat):∀ dn:List MarkS,(((L6 c fl w).flatMap (FM c dn)).filter vY).Perm (EL c fl w dn):=by
 refine mF ?_ (fun dn m ih=>?_)
 ·have:(L6 c fl w).flatMap (FM c [])=[]:=by
   rw [List.flatMap_eq_nil_iff];intro x _;rfl
  rw [this];exact eF _
 ·have e:(FM c (dn++[m]))=fun d=>if qD c dn m d=true then FM c dn d++[m] else FM c dn d:=funext (fun d=>Q3 c dn m d)
  have hp:(L6 c fl w).Pairwise (fun a b=>¬ (qD c dn m a=true∧qD c dn m b=true)):=by
   have hn:=hf.NV
   unfold List.Nodup at hn
   rw [gN] at hn
   unfold L6
   refine (eH _ hn).imp (fun {a b} DZ hq=>DZ ?_)
   unfold qD oQ at hq
   simp only [ad,decide_eq_true_eq] at hq
   rw [← hq.1.1.1,← hq.2.1.1]
  rw [e]
  refine ((Ez (qD c dn m) (FM c dn) m _ hp).filter vY).trans ?_
  rw [bo,rb]
  have ha:(L6 c fl w).any (qD c dn m)=fl.any (fun d=>decide (mE c d.Key=w)&&qD c dn m d):=by unfold L6;rw [List.any_filter]
  have hh:w6 c fl dn w m=(vY m&&(L6 c fl w).any (qD c dn m)):=by rw [ha];rfl
  rw [hh]
  by_cases a:(L6 c fl w).any (qD c dn m)=true
  ·rw [if_pos a,a,gf,aL]
   split
   ·exact gv _ ih
   ·rw [g5,bv];exact ih
  ·rw [if_neg a,if_neg (by simp [a]),g5,bv];exact ih
theorem N5 (c:Campaign) (fl:List DeviceS) (w:Nat):∀ dn:List MarkS,(EL c fl w dn).Sublist dn:=
 mF (dg _) (fun l x h=>by
  rw [rb];split
  ·exact h.append (dg _)
  ·exact h.trans (List.sublist_append_left _ _))
noncomputable def Kz (c:Campaign) (w:Nat) (s:List MarkS×Int) (m:MarkS):List MarkS×Int:=(s.1++[m],if s.2 < 0∧zA c w (s.1++[m])=true then m.At else s.2)
noncomputable def SW (c:Campaign) (w:Nat) (E:List MarkS):Int:=(E.foldl (Kz c w) ([],-1)).2
theorem Uf (c:Campaign) (w:Nat):∀ dn:List MarkS,(dn.foldl (Kz c w) ([],-1)).1=dn:=
 mF rfl (fun l x h=>by rw [bi];simp only [aw,bP];unfold Kz at h ⊢;rw [h])
theorem FN (c:Campaign) (w:Nat) (dn:List MarkS) (m:MarkS):SW c w (dn++[m])=if SW c w dn < 0∧zA c w (dn++[m])=true then m.At else SW c w dn:=by
 unfold SW
 rw [bi]
 simp only [aw,bP]
 have e:∀ S:List MarkS×Int,(Kz c w S m).2=if S.2 < 0∧zA c w (S.1++[m])=true then m.At else S.2:=fun _=>rfl
 rw [e,Uf]
theorem Q5 (c:Campaign) (w:Nat) (A:List MarkS) (h:0≤SW c w A):∀ l,SW c w (A++l)=SW c w A:=
 mF (by rw [bv]) (fun l x ih=>by rw [← b7,FN,ih,if_neg (by omega)])
theorem EA (c:Campaign) (w:Nat) (hw:w < c.aG.length) (Z:List MarkS) (hl:(Z.length:Int)≤100000) (hm:∀ x∈Z,0≤x.At):∀ (m n:Nat),n+m=Z.length→SW c w (Z.take n)=-1→tO c (w:Int) Z (yw (Z.take n):Int) (n:Int)=some (SW c w Z)
 | 0,n,h,hs=>by
   rw [cv (by omega)] at hs
   unfold tO
   rw [iter_eq,tN,if_neg (by simp only;omega),aW,hs]
 | m+1,n,h,hs=>by
   obtain ⟨q,hq,Pn,hd⟩:=fe Z (i:=(n:Int)) (by omega) (by omega)
   rw [show ((n:Int)).toNat=n by omega,show ((n:Int)+1).toNat=n+1 by omega] at hd
   have hg:Z[n]? =some q:=by have:=(eR hq).2.2;rwa [g6] at this
   have ht:Z.take (n+1)=Z.take n++[q]:=by rw [dk,hg];rfl
   have O2:(Z.take n).length=n:=by rw [dl];omega
   have Wx:=Kx (Z.take n)
   have w1:bA ((n:Int)+1)=((n+1:Nat):Int):=by rw [bc]<;>omega
   have ih:=EA c w hw Z hl hm m (n+1) (by omega)
   have L0:=FN c w (Z.take n) q
   rw [← ht,hs] at L0
   have WA:idx c.aG (w:Int)=some (pV c w):=by
    refine mX ?_
    unfold pV
    rw [b9,bW hw];rfl
   have j2:rJ c (w:Int) (n:Int) q (yw (Z.take (n+1)):Int)=if zA c w (Z.take (n+1))=true then some (.inr q.At) else some (.inl ((yw (Z.take (n+1)):Int),((n+1:Nat):Int))):=by
    unfold rJ AP
    rw [WA,w1]
    simp only [aa]
    have e:zA c w (Z.take (n+1))=(decide ((pV c w).pk≤((n+1:Nat):Int))&&decide (bA ((pV c w).ct * ((n+1:Nat):Int)) < bA ((yw (Z.take (n+1)):Int) * 1000))):=by
     unfold zA
     rw [show (Z.take (n+1)).length=n+1 by rw [dl];omega,Int.mul_comm (1000:Int)]
    rw [e]
    rfl
   have sQ:tN c (w:Int) Z (yw (Z.take n):Int) (n:Int)=rJ c (w:Int) (n:Int) q (yw (Z.take (n+1)):Int):=by
    rw [tN,if_pos (by omega),hq]
    simp only [aa]
    rw [ht,HB]
    by_cases h4:q.Kind=4
    ·rw [if_pos h4,if_pos h4,bc (by omega) (by omega)];rfl
    ·rw [if_neg h4,if_neg h4];rfl
   unfold tO at ih ⊢
   rw [iter_eq]
   simp only
   rw [sQ,j2]
   by_cases hc:zA c w (Z.take (n+1))=true
   ·rw [if_pos hc]
    rw [if_pos ⟨by omega,hc⟩] at L0
    have hk:=Q5 c w (Z.take (n+1)) (by rw [L0];exact hm q Pn) (Z.drop (n+1))
    rw [dd] at hk
    rw [hk,L0];rfl
   ·rw [if_neg hc]
    rw [if_neg (fun h=>hc h.2)] at L0
    simp only [aa,bh]
    exact ih L0
theorem sorted_at {l:List MarkS} (h:l.Pairwise (fun a b=>mO a b < 0)):∀ a∈l,∀ b∈l,¬ mO a b < 0→¬ mO b a < 0→a=b:=by
 induction l with
 | nil=>intro a ha;cases ha
 | cons x r ih=>
   rw [bk] at h
   intro a ha b hb h1 h2
   rcases af.1 ha with ea | Pe<;>rcases af.1 hb with eb | Ar
   ·rw [ea,eb]
   ·rw [ea] at h1;exact absurd (h.1 b Ar) h1
   ·rw [eb] at h2;exact absurd (h.1 a Pe) h2
   ·exact ih h.2 a Pe b Ar h1 h2
structure BP (c:Campaign) (fl:List DeviceS) (l:List MarkS):Prop where
 c_:ga c
 f_:iP fl
 Ug:(fl.length:Int)≤500
 m_:∀ x∈l,FK x
 s_:l.Pairwise (fun a b=>mO a b < 0)
 l_:(l.length:Int)≤3000
theorem LF {c:Campaign} {fl:List DeviceS} {l:List MarkS} (H:BP c fl l) (w:Nat) (hw:w < c.aG.length) (n:Nat) (X:List MarkS) (hX:X=(L6 c fl w).flatMap (FM c (l.take n))) (U2:(X.length:Int)≤100000):wQ c (w:Int) X=some (SW c w (EL c fl w (l.take n))):=by
 have pj:=(N5 c fl w (l.take n)).trans (eL n l)
 have mB:=Q4 (c:=c) H.f_ w (l.take n)
 rw [← hX] at mB
 unfold wQ
 have aa1:jC X (fun y0=>some (nt y0))=some (X.filter vY):=by
  have:=Kd ZM (fun y0=>some (nt y0)) nt X U2 (fun x _=>rfl)
  rw [show jC X (fun y0=>some (nt y0))=TS ZM X (fun y0=>some (nt y0)) from rfl,this]
  congr 1
  refine cn (fun x _=>?_)
  unfold nt wN vY
  rw [eg];simp
 rw [aa1]
 simp only [aa]
 have og:∀ x∈X.filter vY,x∈l:=fun x hx=>pj.subset (mB.mem_iff.1 hx)
 have WE:∀ x∈X.filter vY,MB x:=fun x hx=>by have:=(H.m_ x (og x hx)).Ig;unfold MB;omega
 have DO:=aS vY X
 obtain ⟨Z,z1,z2,z3⟩:=zi (fun y0 y1=>some (nu y0 y1)) mO (X.filter vY) (by omega) (fun a ha b hb=>by rw [zr (WE a ha) (WE b hb)]) (Fz.ord _)
 have hzl:=z2.length_eq
 have hs:ph (X.filter vY).length (fun r:List MarkS=>r.length) (dU (X.filter vY) (fun y0 y1=>some (nu y0 y1)))=some Z:=Ab z1 hzl
 rw [hs]
 simp only [aa]
 have hZE:Z=EL c fl w (l.take n):=by
  refine vh (z2.trans mB) z3 ?_ (fun a ha b hb=>sorted_at H.s_ a (og a (z2.mem_iff.1 ha)) b (og b (z2.mem_iff.1 hb)))
  unfold R9
  refine (H.s_.sublist pj).imp (fun {a b} DZ WG=>?_)
  have:=Fz.neg a b
  omega
 rw [hZE]
 have RU:=pj.length_le
 have X2:=H.l_
 exact EA c w hw (EL c fl w (l.take n)) (by omega) (fun x hx=>(H.m_ x (pj.subset hx)).Ig.1) _ 0 (Nat.zero_add _) rfl
theorem A0 {c:Campaign} {fl:List DeviceS} {l:List MarkS} (H:BP c fl l) (w:Nat) (hw:w < c.aG.length) (at_:Int) (n:Nat) (h1:∀ x∈l.take n,x.At≤at_) (h2:∀ x∈l.drop n,at_ < x.At) (hb:(fl.length * l.length:Int)≤100000):∀ (m k:Nat) (X:List MarkS),k+m=fl.length→X=(L6 c (fl.take k) w).flatMap (FM c (l.take n))→X.length≤k * l.length→tP c (w:Int) fl l at_ X (k:Int)=some (SW c w (EL c fl w (l.take n)))
 | 0,k,X,hk,hX,U2=>by
   have JP:k=fl.length:=by omega
   rw [JP,cv (ds _)] at hX
   unfold tP
   rw [iter_eq,wR,if_neg (by simp only;omega),aW]
   refine LF H w hw n X hX ?_
   rw [JP] at U2
   have:((fl.length * l.length:Nat):Int)=(fl.length * l.length:Int):=by push_cast;rfl
   omega
 | m+1,k,X,hk,hX,U2=>by
   obtain ⟨d,hd,T2,_⟩:=fe fl (i:=(k:Int)) (by omega) (by omega)
   have hg:fl[k]? =some d:=by have:=(eR hd).2.2;rwa [g6] at this
   have ht:fl.take (k+1)=fl.take k++[d]:=by rw [dk,hg];rfl
   have ajL:=H.Ug
   have w1:bA ((k:Int)+1)=((k+1:Nat):Int):=by rw [bc]<;>omega
   have hFl:=Ue c (l.take n) d
   have ajM:(l.take n).length≤l.length:=by rw [dl];omega
   have hmul:k * l.length≤fl.length * l.length:=Nat.mul_le_mul_right _ (by omega)
   have adQ:((fl.length * l.length:Nat):Int)=(fl.length * l.length:Int):=by push_cast;rfl
   have X2:=H.l_
   have ih:=fun X hX U2=>A0 H w hw at_ n h1 h2 hb m (k+1) X (by omega) hX U2
   unfold tP at ih ⊢
   rw [iter_eq,wR,if_pos (by simp only;omega)]
   simp only
   rw [hd]
   simp only [aa]
   rw [zB c H.c_ d.Key (H.f_.key d T2)]
   simp only [aa]
   unfold wP
   rw [w1]
   have GC:(k+1) * l.length=k * l.length+l.length:=Nat.succ_mul _ _
   by_cases Se:mE c d.Key=w
   ·rw [if_pos (by rw [Se]),FL c d l n at_ h1 h2 (by omega) (fun q hq=>(H.m_ q hq).kind)]
    simp only [aa]
    rw [mQ (by omega)]
    simp only [aa,bh]
    refine ih _ ?_ (by rw [bp,GC];omega)
    rw [ht,hX]
    unfold L6
    rw [bo,aL,if_pos (by simpa using Se),List.flatMap_append]
    simp
   ·rw [if_neg (by omega)]
    simp only [aa,bh]
    refine ih _ ?_ (by rw [GC];omega)
    rw [ht,hX]
    unfold L6
    rw [bo,aL,if_neg (by simpa using Se)]
    simp
theorem LG {c:Campaign} {fl:List DeviceS} {l:List MarkS} (H:BP c fl l) (w:Nat) (hw:w < c.aG.length) (at_:Int) (n:Nat) (h1:∀ x∈l.take n,x.At≤at_) (h2:∀ x∈l.drop n,at_ < x.At) (hb:(fl.length * l.length:Int)≤100000):Hl c (w:Int) fl l at_=some (SW c w (EL c fl w (l.take n))):=
 A0 H w hw at_ n h1 h2 hb fl.length 0 [] (by omega) rfl (by simp)
def comb (r v:Int):Int:=if 0≤v∧(r < 0∨v < r) then v else r
theorem EB (f:Nat→Int):∀ N:Nat,((bm N).foldl (fun r w=>comb r (f w)) (-1)=-1∧∀ w,w < N→f w < 0)∨(0≤(bm N).foldl (fun r w=>comb r (f w)) (-1)∧(∃ w,w < N∧f w=(bm N).foldl (fun r w=>comb r (f w)) (-1))∧∀ w,w < N→f w < 0∨(bm N).foldl (fun r w=>comb r (f w)) (-1)≤f w)
 | 0=>.inl ⟨rfl,fun w h=>by omega⟩
 | N+1=>by
   rw [g7,bi]
   simp only [aw,bP]
   rcases EB f N with ⟨h1,h2⟩ | ⟨h1,⟨w0,h2,h3⟩,h4⟩
   ·rw [h1]
    unfold comb
    by_cases hv:0≤f N
    ·rw [if_pos ⟨hv,.inl (by omega)⟩]
     refine .inr ⟨hv,⟨N,by omega,rfl⟩,fun w hw=>?_⟩
     rcases dy w N with h | h
     ·exact .inl (h2 w h)
     ·obtain rfl:w=N:=by omega
      exact .inr (bU _)
    ·rw [if_neg (fun h=>hv h.1)]
     refine .inl ⟨rfl,fun w hw=>?_⟩
     rcases dy w N with h | h
     ·exact h2 w h
     ·obtain rfl:w=N:=by omega
      omega
   ·generalize (bm N).foldl (fun r w=>comb r (f w)) (-1)=r at h1 h3 h4 ⊢
    right
    unfold comb
    by_cases hv:0≤f N∧(r < 0∨f N < r)
    ·rw [if_pos hv]
     refine ⟨hv.1,⟨N,by omega,rfl⟩,fun w hw=>?_⟩
     rcases dy w N with h | h
     ·have:=h4 w h;omega
     ·obtain rfl:w=N:=by omega
      exact .inr (bU _)
    ·rw [if_neg hv]
     refine ⟨h1,⟨w0,by omega,h3⟩,fun w hw=>?_⟩
     rcases dy w N with h | h
     ·exact h4 w h
     ·obtain rfl:w=N:=by omega
      omega
theorem Q6 (c:Campaign) (fl:List DeviceS):∀ dn:List MarkS,dn.Pairwise (fun a b=>a.At≤b.At)→(∀ x∈dn,0≤x.At)→
 ((SA c fl dn=-1∧∀ w,w < c.aG.length→SW c w (EL c fl w dn)=-1)∨(0≤SA c fl dn∧(∃ w,w < c.aG.length∧SW c w (EL c fl w dn)=SA c fl dn)∧∀ w,w < c.aG.length→SW c w (EL c fl w dn)=-1∨SA c fl dn≤SW c w (EL c fl w dn)))∧∀ w,w < c.aG.length→SW c w (EL c fl w dn)=-1∨∃ x∈dn,SW c w (EL c fl w dn)=x.At:=by
 refine mF (fun _ _=>⟨.inl ⟨rfl,fun _ _=>rfl⟩,fun _ _=>.inl rfl⟩) (fun dn m ih hp hn=>?_)
 rw [ca] at hp
 obtain ⟨i1,i2⟩:=ih hp.1 (fun x hx=>hn x (b5 _ hx))
 have P8:=hn m (by simp)
 have hle:∀ x∈dn,x.At≤m.At:=fun x hx=>hp.2.2 x hx m (by simp)
 have hf:∀ w,SW c w (EL c fl w (dn++[m]))=if w6 c fl dn w m=true∧SW c w (EL c fl w dn) < 0∧zA c w (EL c fl w (dn++[m]))=true then m.At else SW c w (EL c fl w dn):=by
  intro w
  rw [rb]
  by_cases h:w6 c fl dn w m=true
  ·rw [if_pos h,FN]
   by_cases h2:SW c w (EL c fl w dn) < 0∧zA c w (EL c fl w dn++[m])=true
   ·rw [if_pos h2,if_pos ⟨h,h2⟩]
   ·rw [if_neg h2,if_neg (fun h'=>h2 h'.2)]
  ·rw [if_neg h,if_neg (fun h'=>h h'.1)]
 have xE:Bq c fl dn m=true↔∃ w,w < c.aG.length∧w6 c fl dn w m=true∧zA c w (EL c fl w (dn++[m]))=true:=by
  unfold Bq
  rw [cp]
  constructor
  ·rintro ⟨w,hw,e⟩
   rw [ad] at e
   exact ⟨w,eq.1 hw,e⟩
  ·rintro ⟨w,hw,e⟩
   exact ⟨w,eq.2 hw,by rw [ad];exact e⟩
 refine ⟨?_,fun w hw=>?_⟩
 ·rcases i1 with ⟨h1,h2⟩ | ⟨h1,⟨w0,hw0,h2⟩,h3⟩
  ·rw [sC,h1]
   by_cases hN:Bq c fl dn m=true
   ·rw [if_pos ⟨by omega,hN⟩]
    obtain ⟨w,hw,a1,a2⟩:=xE.1 hN
    refine .inr ⟨P8,⟨w,hw,by rw [hf,if_pos ⟨a1,by rw [h2 w hw];omega,a2⟩]⟩,fun v hv=>?_⟩
    rw [hf]
    split
    ·exact .inr (bU _)
    ·exact .inl (h2 v hv)
   ·rw [if_neg (fun h=>hN h.2)]
    refine .inl ⟨rfl,fun w hw=>?_⟩
    rw [hf,if_neg]
    ·exact h2 w hw
    ·rintro ⟨a1,_,a2⟩
     exact hN (xE.2 ⟨w,hw,a1,a2⟩)
  ·rw [sC,if_neg (by omega)]
   refine .inr ⟨h1,⟨w0,hw0,by rw [hf,if_neg (by omega)];exact h2⟩,fun v hv=>?_⟩
   rw [hf]
   split
   ·right
    have:=i2 w0 hw0
    rcases this with e | ⟨x,hx,e⟩
    ·omega
    ·have:=hle x hx;omega
   ·exact h3 v hv
 ·rw [hf]
  split
  ·exact .inr ⟨m,by simp,rfl⟩
  ·rcases i2 w hw with e | ⟨x,hx,e⟩
   ·exact .inl e
   ·exact .inr ⟨x,b5 _ hx,e⟩
theorem w7 {c:Campaign} {fl:List DeviceS} {l:List MarkS} (H:BP c fl l) (at_:Int) (n:Nat) (h1:∀ x∈l.take n,x.At≤at_) (h2:∀ x∈l.drop n,at_ < x.At) (hb:(fl.length * l.length:Int)≤100000):∀ (m k:Nat),k+m=c.aG.length→pP c fl l at_ ((bm k).foldl (fun r w=>comb r (SW c w (EL c fl w (l.take n)))) (-1)) (k:Int)=some ((bm c.aG.length).foldl (fun r w=>comb r (SW c w (EL c fl w (l.take n)))) (-1))
 | 0,k,hk=>by
   have JP:k=c.aG.length:=by omega
   subst JP
   unfold pP
   rw [iter_eq,tg,if_neg (by simp only;omega),aW]
 | m+1,k,hk=>by
   have yF:=H.c_.len
   have w1:bA ((k:Int)+1)=((k+1:Nat):Int):=by rw [bc]<;>omega
   have ih:=w7 H at_ n h1 h2 hb m (k+1) (by omega)
   rw [g7,bi] at ih
   simp only [aw,bP] at ih
   unfold pP at ih ⊢
   rw [iter_eq,tg,if_pos (by simp only;omega)]
   simp only
   rw [LG H k (by omega) at_ n h1 h2 hb]
   simp only [aa]
   generalize (bm k).foldl (fun r w=>comb r (SW c w (EL c fl w (l.take n)))) (-1)=r at ih ⊢
   generalize SW c k (EL c fl k (l.take n))=v at ih ⊢
   unfold wS tf
   rw [w1]
   unfold comb at ih
   by_cases hv:0≤v∧(r < 0∨v < r)
   ·rw [if_pos hv] at ih
    rw [if_pos (by simpa using hv)]
    simp only [aa,bh]
    exact ih
   ·rw [if_neg hv] at ih
    rw [if_neg (by simpa using hv)]
    simp only [aa,bh]
    exact ih
theorem vp {c:Campaign} {fl:List DeviceS} {l:List MarkS} (H:BP c fl l) (at_:Int) (n:Nat) (h1:∀ x∈l.take n,x.At≤at_) (h2:∀ x∈l.drop n,at_ < x.At) (hb:(fl.length * l.length:Int)≤100000):nv c fl l at_=some (SA c fl (l.take n)):=by
 have h:=w7 H at_ n h1 h2 hb c.aG.length 0 (by omega)
 unfold nv
 refine Eq.trans h (congrArg some ?_)
 have pj:=eL n l
 obtain ⟨a,b⟩:=Q6 c fl (l.take n) ((H.s_.sublist pj).imp CZ) (fun x hx=>(H.m_ x (pj.subset hx)).Ig.1)
 have GF:=EB (fun w=>SW c w (EL c fl w (l.take n))) c.aG.length
 generalize (bm c.aG.length).foldl (fun r w=>comb r (SW c w (EL c fl w (l.take n)))) (-1)=r at GF ⊢
 rcases GF with ⟨p1,p2⟩ | ⟨p1,⟨w,pw,p2⟩,p3⟩<;>rcases a with ⟨q1,q2⟩ | ⟨q1,⟨v,qv,q2⟩,q3⟩
 ·omega
 ·have:=p2 v qv;omega
 ·have:=q2 w pw;omega
 ·have:=p3 v qv;have:=q3 w pw;omega
theorem N6 {c:Campaign} {dn:List MarkS} {d:DeviceS} (h:(eP c dn d).ah.Kind≠0):∃ x∈dn,oQ c d.Key x=true:=by
 cases e:dn.filter (oQ c d.Key) with
 | nil=>unfold eP at h;rw [e] at h;exact absurd rfl h
 | cons x r=>
   have:x∈dn.filter (oQ c d.Key):=by rw [e];simp
   rw [a6] at this
   exact ⟨x,this⟩
theorem WH (c:Campaign) (fl:List DeviceS):∀ dn:List MarkS,dn.Pairwise (fun a b=>mO a b < 0)→SA c fl dn=-1∨c.At < SA c fl dn:=by
 refine mF (fun _=>.inl rfl) (fun dn m ih hp=>?_)
 rw [ca] at hp
 have ih:=ih hp.1
 rw [sC]
 split
 ·rename_i h
  right
  have hn:=h.2
  unfold Bq at hn
  rw [cp] at hn
  obtain ⟨w,_,hw⟩:=hn
  rw [ad] at hw
  have hh:=hw.1
  unfold w6 at hh
  rw [ad,cp] at hh
  obtain ⟨he,d,hd,hq⟩:=hh
  unfold qD at hq
  simp only [ad,decide_eq_true_eq] at hq
  have WI:(eP c dn d).ah.Kind≠0:=by
   have ho:=hq.2.2
   unfold CV Ko at ho
   unfold vY at he
   simp only [cb,decide_eq_true_eq] at he
   rw [if_neg (by omega),if_neg (by omega)] at ho
   simp only [decide_eq_true_eq] at ho
   omega
  obtain ⟨x,hx,hr⟩:=N6 WI
  have xL:=hp.2.2 x hx m (by simp)
  unfold oQ at hr hq
  simp only [ad,decide_eq_true_eq] at hr hq
  have NZ:x.Device=m.Device:=by rw [hr.1,hq.2.1.1]
  unfold mO at xL
  have ew:x.At < m.At:=by
   by_cases h0:dD x.At m.At≠0
   ·rw [if_pos h0] at xL
    unfold dD at xL
    split at xL
    ·assumption
    ·split at xL<;>omega
   ·rw [if_neg h0,NZ,uP] at xL
    omega
  omega
 ·exact ih
section
variable (c:Campaign) (fl:List DeviceS) (l:List MarkS)
noncomputable def jo (w:Nat) (t:Int):Bool:=fl.all (fun d=>!(decide (mE c d.Key=w))||uu c (vn c d l t))
def uX (from_ at_:Int):List Int:=from_ :: ((l.filter (fun m=>decide (from_≤m.At)&&decide (m.At≤at_))).map MarkS.At)
def gq (bs:List Int):Int:=bs.getLast?.getD 0
noncomputable def cM (at_:Int) (bs:List Int):Option Int:=
 if bs.length=0 then some c.At else if bs.length < c.aG.length then ((uX l (gq bs) at_).find? (jo c fl l (bs.length - 1))).map (fun t=>t+(pV c bs.length).oo) else none
inductive Ih (at_ S:Int):List Int→Prop
 | nil:Ih at_ S []
 | snoc {bs:List Int} {nx:Int} (h:Ih at_ S bs) (hl:bs.length < c.aG.length) (hn:cM c fl l at_ bs=some nx) (ha:nx≤at_) (hs:¬ (0≤S∧S≤nx)):Ih at_ S (bs++[nx])
def Uh (at_ S:Int) (bs:List Int):Prop:=∀ nx,cM c fl l at_ bs=some nx→at_ < nx∨(0≤S∧S≤nx)
end
theorem tn (bs:List Int) (x:Int):gq (bs++[x])=x:=by unfold gq;rw [ge];rfl
theorem lZ {c:Campaign} {k:Nat} (h:k < c.aG.length):pV c k∈c.aG:=by
 unfold pV
 rw [b9,bW h]
 exact List.getElem_mem h
theorem w8 {c:Campaign} {k:Nat} (h:k < c.aG.length):idx c.aG (k:Int)=some (pV c k):=by
 refine mX ?_
 unfold pV
 rw [b9,bW h];rfl
theorem HC {l:List MarkS} {f a t:Int} (h:t∈uX l f a):f≤t∧(t=f∨t≤a):=by
 unfold uX at h
 rcases af.1 h with e | h
 ·exact ⟨by omega,.inl e⟩
 ·obtain ⟨m,hm,rfl⟩:=ap.1 h
  have:=(a6.1 hm).2
  simp only [ad,decide_eq_true_eq] at this
  exact ⟨this.1,.inr this.2⟩
theorem EC {c:Campaign} (hc:ga c):0 < c.aG.length:=by
 have:=hc.sum
 cases hw:c.aG with
 | nil=>rw [hw] at this;simp [pU] at this
 | cons x y=>simp
theorem w9 {c:Campaign} {fl:List DeviceS} {l:List MarkS} (hc:ga c) {a:Int} {bs:List Int} {v:Int} (h:cM c fl l a bs=some v):bs.length < c.aG.length:=by
 have:=EC hc
 unfold cM at h
 split at h
 ·omega
 ·split at h
  ·assumption
  ·cases h
theorem xv {c:Campaign} {fl:List DeviceS} {l:List MarkS} (hc:ga c) {a:Int} {bs:List Int} {v:Int} (h:cM c fl l a bs=some v) (hb:0≤gq bs):0≤v∧(bs.length=0→v=c.At)∧(bs.length≠0→gq bs≤v):=by
 have hm:=hc.Ig
 have hlen:=w9 hc h
 unfold cM at h
 split at h
 ·rename_i h0
  have:=ac h
  exact ⟨by omega,fun _=>by omega,fun h'=>absurd h0 h'⟩
 ·rename_i h0
  obtain ⟨t,ht,e⟩:=a7.1 h
  have hw:=hc.wait _ (lZ hlen)
  have:=HC (d0 ht)
  exact ⟨by omega,fun h'=>absurd h' h0,fun _=>by omega⟩
theorem vq {c:Campaign} {fl:List DeviceS} {l:List MarkS} (hc:ga c) {a S:Int} {bs:List Int} (h:Ih c fl l a S bs):bs.length≤c.aG.length∧0≤gq bs∧(bs.length≠0→gq bs≤a):=by
 induction h with
 | nil=>exact ⟨by simp,by unfold gq;simp,fun h=>absurd rfl h⟩
 | snoc h hl hn ha hs ih=>
   have:=xv hc hn ih.2.1
   refine ⟨by simp;omega,by rw [tn];exact this.1,fun _=>by rw [tn];exact ha⟩
theorem Ai {c:Campaign} {fl:List DeviceS} {l:List MarkS} {t t':Int} (ht:t≤t') (h:∀ x∈l,¬ (t < x.At∧x.At≤t')) (w:Nat):jo c fl l w t=jo c fl l w t':=by
 have e:∀ d,vn c d l t=vn c d l t':=by
  intro d
  unfold vn
  congr 1
  refine cn (fun x hx=>?_)
  have:=h x hx
  unfold tj
  congr 2
  rw [decide_eq_decide];omega
 unfold jo
 simp only [e]
theorem LH {l:List MarkS} (hs:l.Pairwise (fun a b=>a.At≤b.At)) (q:Int→Bool) (f a a':Int) (ha:a≤a') (t:Int):((l.filter (fun m=>decide (f≤m.At)&&decide (m.At≤a))).map MarkS.At).find? q=some t→((l.filter (fun m=>decide (f≤m.At)&&decide (m.At≤a'))).map MarkS.At).find? q=some t:=by
 induction l with
 | nil=>intro h;exact h
 | cons x r ih=>
   rw [bk] at hs
   have ih:=ih hs.2
   intro h
   rw [aL] at h ⊢
   by_cases h1:f≤x.At
   ·by_cases h2:x.At≤a
    ·rw [if_pos (by simp;omega),bX,bx] at h ⊢
     cases hq:q x.At with
     | true=>rw [hq] at h;exact h
     | false=>rw [hq] at h;exact ih h
    ·rw [if_neg (by simp;omega)] at h
     have:r.filter (fun m=>decide (f≤m.At)&&decide (m.At≤a))=[]:=by
      rw [b6]
      intro y hy
      have:=hs.1 y hy
      simp only [ad,decide_eq_true_eq];omega
     rw [this] at h;cases h
   ·rw [if_neg (by simp;omega)] at h ⊢
    exact ih h
theorem ED {c:Campaign} {fl:List DeviceS} {l:List MarkS} (hs:l.Pairwise (fun a b=>a.At≤b.At)) {a a':Int} (ha:a≤a') {bs:List Int} {v:Int} (h:cM c fl l a bs=some v):cM c fl l a' bs=some v:=by
 unfold cM at h ⊢
 split
 ·rename_i h0;rw [if_pos h0] at h;exact h
 ·rename_i h0
  rw [if_neg h0] at h
  split
  ·rename_i h1
   rw [if_pos h1] at h
   obtain ⟨t,ht,e⟩:=a7.1 h
   rw [a7]
   refine ⟨t,?_,e⟩
   unfold uX at ht ⊢
   rw [bx] at ht ⊢
   cases hq:jo c fl l (bs.length - 1) (gq bs) with
   | true=>rw [hq] at ht;exact ht
   | false=>rw [hq] at ht;exact LH hs _ _ _ _ ha t ht
  ·rename_i h1;rw [if_neg h1] at h;cases h
def C0 (T S0 S1:Int):Prop:=(S0 < 0∧(S1 < 0∨T < S1))∨(0≤S0∧S1=S0)
theorem C1 {c:Campaign} {fl:List DeviceS} {l:List MarkS} (hs:l.Pairwise (fun a b=>a.At≤b.At)) {a a' S0 S1:Int} (ha:a≤a') (hS:C0 a S0 S1) {bs:List Int} (h:Ih c fl l a S0 bs):Ih c fl l a' S1 bs:=by
 induction h with
 | nil=>exact .nil
 | snoc h hl hn hx hb ih=>
   refine .snoc ih hl (ED hs ha hn) (by omega) ?_
   unfold C0 at hS
   omega
structure DI (c:Campaign) (fl:List DeviceS) (l:List MarkS) (T S:Int) (bs:List Int) (nx:Int):Prop where
 r:Ih c fl l T S bs
 n:nx=(cM c fl l T bs).getD (-1)
 f:Uh c fl l T S bs
theorem WJ {l:List MarkS} {f a a' t:Int} (h:t∈uX l f a'):t∈uX l f a∨(∃ x∈l,x.At=t∧a < t∧t≤a'):=by
 unfold uX at h ⊢
 rcases af.1 h with e | h
 ·exact .inl (by rw [e];exact bz)
 ·obtain ⟨m,hm,rfl⟩:=ap.1 h
  have Ix:=a6.1 hm
  have:=Ix.2
  simp only [ad,decide_eq_true_eq] at this
  by_cases hx:m.At≤a
  ·refine .inl (al _ (ap.2 ⟨m,a6.2 ⟨Ix.1,by simp;omega⟩,rfl⟩))
  ·exact .inr ⟨m,Ix.1,rfl,by omega,this.2⟩
theorem KA {l:List MarkS} (f a:Int) (hf:f≤a):∃ t∈uX l f a,t≤a∧∀ x∈l,¬ (t < x.At∧x.At≤a):=by
 induction l with
 | nil=>exact ⟨f,by unfold uX;simp,hf,by simp⟩
 | cons x r ih=>
   obtain ⟨t,t1,t2,t3⟩:=ih
   have pj:t∈uX (x :: r) f a:=by
    unfold uX at t1 ⊢
    rcases af.1 t1 with e | h
    ·rw [e];exact bz
    ·refine al _ ?_
     obtain ⟨m,hm,e⟩:=ap.1 h
     have Ix:=a6.1 hm
     exact ap.2 ⟨m,a6.2 ⟨al _ Ix.1,Ix.2⟩,e⟩
   by_cases hx:t < x.At∧x.At≤a
   ·have Jc:=(HC t1).1
    refine ⟨x.At,?_,hx.2,fun y hy=>?_⟩
    ·unfold uX
     refine al _ (ap.2 ⟨x,a6.2 ⟨bz,by simp;omega⟩,rfl⟩)
    ·rcases af.1 hy with rfl | hy
     ·omega
     ·have:=t3 y hy;omega
   ·refine ⟨t,pj,t2,fun y hy=>?_⟩
    rcases af.1 hy with rfl | hy
    ·exact hx
    ·exact t3 y hy
theorem C2 {c:Campaign} {fl:List DeviceS} {l:List MarkS} {s:CS} {n:Nat} (h:SX c fl s (l.take n)) {T:Int} (h1:∀ x∈l.take n,x.At≤T) (h2:∀ x∈l.drop n,T < x.At) {w:Nat} (hw:w < c.aG.length):s.open_.getD w 0=0↔jo c fl l w T=true:=by
 rw [h.U1 w hw]
 unfold Jn jo
 rw [g8]
 constructor
 ·intro e d hd
  have e':(fl.filter (F9 c (l.take n) w))=[]:=eX.1 (by omega)
  rw [b6] at e'
  have:=e' d hd
  unfold F9 at this
  rw [CY c d l n T h1 h2] at this
  cases a:decide (mE c d.Key=w)<;>cases b:uu c (vn c d l T)<;>simp_all
 ·intro e
  have:(fl.filter (F9 c (l.take n) w))=[]:=by
   rw [b6]
   intro d hd
   have:=e d hd
   unfold F9
   rw [CY c d l n T h1 h2]
   cases a:decide (mE c d.Key=w)<;>cases b:uu c (vn c d l T)<;>simp_all
  rw [this];rfl
section
variable {c:Campaign} {fl:List DeviceS} {l:List MarkS} (H:BP c fl l) {s:CS} {n:Nat} (h:SX c fl s (l.take n)) {T T':Int} (hT:T≤T') (hTb:T'≤345686399999) (X3:-1≤T)
 (h1:∀ x∈l.take n,x.At≤T') (h2:∀ x∈l.drop n,T' < x.At) (LI:(∀ x∈l,¬ (T < x.At∧x.At≤T'))∨T'=T+1) {S0:Int} (hS:C0 T S0 (SA c fl (l.take n)))
include H h hT hTb X3 h1 h2 LI hS
def Ui (c:Campaign) (fl:List DeviceS) (l:List MarkS) (T T' S1:Int) (bs:List Int) (nx:Int) (x:List Int×Int):Prop:=
 Ih c fl l T' S1 x.1∧((x.1=bs∧x.2=nx)∨(x.1.length≠0∧T < gq x.1∧x.2=if x.1.length < c.aG.length∧jo c fl l (x.1.length - 1) T'=true then gq x.1+(pV c x.1.length).oo else -1))
theorem Jo (hP:DI c fl l T S0 s.aE s.bM) (l5:List Int) (n6:Int) (hI:Ui c fl l T T' (SA c fl (l.take n)) s.aE s.bM (l5,n6)):
 bF s T' l5 n6=bJ s T' l5 ((cM c fl l T' l5).getD (-1))∧∀ v,cM c fl l T' l5=some v→T < v∨(0≤SA c fl (l.take n)∧SA c fl (l.take n)≤v):=by
 have hc:=H.c_
 have L7:l.Pairwise (fun a b=>a.At≤b.At):=H.s_.imp CZ
 obtain ⟨hR,hI⟩:=hI
 simp only at hR hI
 obtain ⟨r1,r2,r3⟩:=vq hc hR
 have N7:=hc.len
 have Kq:∀ m:Int,bE s T' l5 m false=bJ s T' l5 m:=fun m=>by unfold bE;rw [if_neg (by simp)]
 have pos:∀ m:Int,0≤m→bF s T' l5 m=bJ s T' l5 m:=fun m hm=>by unfold bF;rw [if_neg (by omega),Kq]
 have full:∀ m:Int,¬ l5.length < c.aG.length→bF s T' l5 m=bJ s T' l5 m:=by
  intro m hm
  unfold bF
  rw [h.c_]
  split
  ·split
   ·rw [if_neg (by omega),Kq]
   ·exact Kq m
  ·exact Kq m
 have neg:l5.length≠0→l5.length < c.aG.length→bF s T' l5 (-1)=bJ s T' l5 (if jo c fl l (l5.length - 1) T'=true then T'+(pV c l5.length).oo else -1):=by
  intro k0 k1
  have w1:bA ((l5.length:Int) - 1)=((l5.length - 1:Nat):Int):=by rw [bc]<;>omega
  unfold bF
  rw [if_pos (by omega),if_pos (by omega),h.c_,if_pos (by omega),w1,mg (l:=s.open_) (by rw [h.open_];omega)]
  simp only [aa]
  have KC:=C2 h h1 h2 (w:=l5.length - 1) (by omega)
  by_cases ha:jo c fl l (l5.length - 1) T'=true
  ·rw [if_pos (KC.2 ha),if_pos ha]
   have SH:idx l5 ((l5.length - 1:Nat):Int)=some (gq l5):=by
    refine mX ?_
    unfold gq
    rw [eY]
    cases hx:l5[l5.length - 1]? with
    | none=>rw [e6] at hx;omega
    | some y=>rfl
   rw [SH]
   simp only [aa]
   have L8:=hc.wait _ (lZ k1)
   unfold bE
   rw [if_pos (by simpa using r3 k0),h.c_,w8 k1]
   simp only [aa]
   rw [bc (by omega) (by omega)]
  ·rw [if_neg (fun e=>ha (KC.1 e)),if_neg ha,Kq]
 rcases hI with ⟨rfl,rfl⟩ | ⟨k0,k1,k2⟩
 ·
  cases hn:cM c fl l T s.aE with
  | some v=>
    have hv:=xv hc hn r2
    have F3:=ED L7 hT hn
    rw [F3]
    refine ⟨?_,fun v' e=>?_⟩
    ·rw [hP.n,hn];exact pos v hv.1
    ·obtain rfl:=ac e
     rcases hP.f v hn with a | a
     ·exact .inl a
     ·unfold C0 at hS;right;omega
  | none=>
    have Ii:s.bM=-1:=by rw [hP.n,hn];rfl
    have k0:s.aE.length≠0:=by
     intro e;unfold cM at hn;rw [if_pos e] at hn;cases hn
    rw [Ii]
    by_cases k1:s.aE.length < c.aG.length
    ·have Kl:=(vq hc hP.r).2.2 k0
     unfold cM at hn
     rw [if_neg k0,if_pos k1,cA,bG] at hn
     have xE:∀ t,t∈uX l (gq s.aE) T'→jo c fl l (s.aE.length - 1) t=true→t=T'∧T < T':=by
      intro t ht hq
      rcases WJ (a:=T) ht with e | ⟨x,hx,e1,e2,e3⟩
      ·exact absurd hq (hn t e)
      ·rcases LI with g | g
       ·exact absurd ⟨by omega,by omega⟩ (g x hx)
       ·exact ⟨by omega,by omega⟩
     have xa:cM c fl l T' s.aE=if jo c fl l (s.aE.length - 1) T'=true then some (T'+(pV c s.aE.length).oo) else none:=by
      unfold cM
      rw [if_neg k0,if_pos k1]
      by_cases ha:jo c fl l (s.aE.length - 1) T'=true
      ·rw [if_pos ha]
       have hex:∃ x∈l,T < x.At∧x.At≤T':=by
        refine Classical.byContradiction (fun Dp=>?_)
        have aa2:∀ x∈l,¬ (T < x.At∧x.At≤T'):=fun x hx hh=>Dp ⟨x,hx,hh⟩
        obtain ⟨t,t1,t2,t3⟩:=KA (l:=l) (gq s.aE) T Kl
        have:=Ai (c:=c) (fl:=fl) (l:=l) (t:=t) (t':=T') (by omega) (fun x hx hh=>by
         have a1:=t3 x hx
         have a2:=aa2 x hx
         omega) (s.aE.length - 1)
        exact hn t t1 (by rw [this];exact ha)
       obtain ⟨x,hx,x1,x2⟩:=hex
       have og:T'∈uX l (gq s.aE) T':=by
        have:x.At=T':=by
         rcases LI with g | g
         ·exact absurd ⟨x1,x2⟩ (g x hx)
         ·omega
        unfold uX
        exact al _ (ap.2 ⟨x,a6.2 ⟨hx,by simp;omega⟩,this⟩)
       cases hf:(uX l (gq s.aE) T').find? (jo c fl l (s.aE.length - 1)) with
       | none=>rw [bG] at hf;exact absurd ha (hf T' og)
       | some t=>
         have:=xE t (d0 hf) (e7 hf)
         rw [this.1];rfl
      ·rw [if_neg ha,cA,bG]
       intro t ht hq
       have:=xE t ht hq
       rw [this.1] at hq
       exact ha hq
     rw [xa,neg k0 k1]
     refine ⟨?_,fun v hv=>?_⟩
     ·split<;>rfl
     ·split at hv
      ·rename_i ha
       left
       have L8:=hc.wait _ (lZ k1)
       have hv:=ac hv
       have hf:cM c fl l T' s.aE=some (T'+(pV c s.aE.length).oo):=by rw [xa,if_pos ha]
       unfold cM at hf
       rw [if_neg k0,if_pos k1] at hf
       obtain ⟨t,ht,_⟩:=a7.1 hf
       have:=xE t (d0 ht) (e7 ht)
       omega
      ·cases hv
    ·have xa:cM c fl l T' s.aE=none:=by unfold cM;rw [if_neg k0,if_neg k1]
     rw [xa]
     exact ⟨full _ k1,fun v hv=>by cases hv⟩
 ·
  by_cases kw:l5.length < c.aG.length
  ·have hle:=r3 k0
   have L8:=hc.wait _ (lZ kw)
   have hfs:jo c fl l (l5.length - 1) (gq l5)=jo c fl l (l5.length - 1) T':=by
    refine Ai hle (fun x hx hh=>?_) _
    rcases LI with g | g
    ·exact g x hx ⟨by omega,hh.2⟩
    ·omega
   have xa:cM c fl l T' l5=if jo c fl l (l5.length - 1) T'=true then some (gq l5+(pV c l5.length).oo) else none:=by
    unfold cM
    rw [if_neg k0,if_pos kw]
    by_cases ha:jo c fl l (l5.length - 1) T'=true
    ·rw [if_pos ha]
     unfold uX
     rw [bx,hfs,ha];rfl
    ·rw [if_neg ha,cA,bG]
     intro t ht hq
     rcases af.1 (show t∈gq l5 :: _ from ht) with e | hm
     ·rw [e,hfs] at hq;exact ha hq
     ·obtain ⟨m,hm,e⟩:=ap.1 hm
      have Ix:=a6.1 hm
      have:=Ix.2
      simp only [ad,decide_eq_true_eq] at this
      rcases LI with g | g
      ·exact g m Ix.1 ⟨by omega,by omega⟩
      ·have:t=T':=by omega
       rw [this] at hq;exact ha hq
   rw [xa,k2]
   refine ⟨?_,fun v hv=>?_⟩
   ·by_cases ha:jo c fl l (l5.length - 1) T'=true
    ·rw [if_pos ⟨kw,ha⟩,if_pos ha];exact pos _ (by omega)
    ·rw [if_neg (fun e=>ha e.2),if_neg ha,neg k0 kw,if_neg ha];rfl
   ·split at hv
    ·have:=ac hv;left;omega
    ·cases hv
  ·have xa:cM c fl l T' l5=none:=by unfold cM;rw [if_neg k0,if_neg kw]
   rw [xa,k2,if_neg (fun e=>kw e.1)]
   exact ⟨full _ kw,fun v hv=>by cases hv⟩
theorem xw (hP:DI c fl l T S0 s.aE s.bM):Ok (bD s T') (fun r=>w4 r s∧SX c fl r (l.take n)∧DI c fl l T' (SA c fl (l.take n)) r.aE r.bM):=by
 have hc:=H.c_
 have L7:l.Pairwise (fun a b=>a.At≤b.At):=H.s_.imp CZ
 have N7:=hc.len
 have hcm:=hc.Ig
 unfold bD iS
 refine Ok.iter (fun x:List Int×Int=>c.aG.length - x.1.length) (Ui c fl l T T' (SA c fl (l.take n)) s.aE s.bM) ?_ _ ⟨C1 L7 hT hS hP.r,.inl ⟨rfl,rfl⟩⟩
 rintro ⟨l5,n6⟩ hI
 obtain ⟨e1,e2⟩:=Jo H h hT hTb X3 h1 h2 LI hS hP l5 n6 hI
 have hR:=hI.1
 simp only at hR ⊢
 obtain ⟨r1,r2,r3⟩:=vq hc hR
 rw [e1]
 generalize yx:(cM c fl l T' l5).getD (-1)=n10
 unfold bJ eJ
 have HD:0≤n10→cM c fl l T' l5=some n10:=by
  intro h0
  cases hx:cM c fl l T' l5 with
  | none=>rw [hx] at yx;simp at yx;omega
  | some v=>rw [hx] at yx;simp at yx;rw [yx]
 by_cases zC:((decide (n10 < (0:Int)))||((decide (T' < n10))||((decide ((0:Int) < (l5.length:Int)))&&((decide ((0:Int)≤s.aQ))&&(decide (s.aQ≤n10))))))=true
 ·rw [if_pos zC]
  refine Ok.inr (Ok.ret ⟨⟨rfl,rfl,rfl,rfl⟩,⟨⟨h.c_,h.kM,h.cj,h.iA,h.open_,h.ba,h.aO,r1,fun h0=>w9 hc (HD h0)⟩,h.U1,h.en,h.fa,h.sp⟩,⟨hR,yx.symm,fun v hv=>?_⟩⟩)
  have hvn:n10=v:=by rw [← yx,hv];rfl
  have VI:=(xv hc hv r2).1
  rw [h.sp] at zC
  simp only [cb,ad,decide_eq_true_eq] at zC
  omega
 ·rw [if_neg zC]
  rw [h.sp] at zC
  simp only [cb,ad,decide_eq_true_eq,not_or] at zC
  have Ii:=HD (by omega)
  have ew:=w9 hc Ii
  have Iw:=WH c fl (l.take n) (H.s_.sublist (eL n l))
  have hns:¬ (0≤SA c fl (l.take n)∧SA c fl (l.take n)≤n10):=by
   intro hh
   by_cases h0:l5.length=0
   ·have:=(xv hc Ii r2).2.1 h0
    omega
   ·exact zC.2.2 ⟨by omega,hh⟩
  have hR':Ih c fl l T' (SA c fl (l.take n)) (l5++[n10]):=.snoc hR ew Ii (by omega) hns
  have hTn:T < n10:=by
   rcases e2 n10 Ii with a | a
   ·exact a
   ·exact absurd a hns
  refine Ok.app (by simp;omega) ?_
  have w1:bA ((l5.length:Int)+1)=((l5.length+1:Nat):Int):=by rw [bc]<;>omega
  rw [w1]
  have j5:∀ n17:Int,n17=(if l5.length+1 < c.aG.length∧jo c fl l l5.length T'=true then n10+(pV c (l5.length+1)).oo else -1)→Ok (cF (l5++[n10]) n17) (Lt (fun x:List Int×Int=>c.aG.length - x.1.length) (Ui c fl l T T' (SA c fl (l.take n)) s.aE s.bM) (fun r=>w4 r s∧SX c fl r (l.take n)∧DI c fl l T' (SA c fl (l.take n)) r.aE r.bM) (l5,n6)):=by
   intro n17 LJ
   unfold cF
   refine Ok.ret ⟨⟨hR',.inr ⟨by simp,by simp only;rw [tn];exact hTn,?_⟩⟩,by simp;omega⟩
   simp only
   rw [tn,bp,cH,LJ]
   rfl
  rw [h.c_]
  by_cases hk:l5.length+1 < c.aG.length
  ·rw [if_pos (by omega),mg (l:=s.open_) (by rw [h.open_];omega)]
   simp only [aa]
   have KC:=C2 h h1 h2 (w:=l5.length) ew
   unfold cG
   by_cases ha:jo c fl l l5.length T'=true
   ·rw [if_pos (decide_eq_true (KC.2 ha)),w1,h.c_,w8 hk]
    simp only [aa]
    have L8:=hc.wait _ (lZ hk)
    refine j5 _ ?_
    rw [if_pos ⟨hk,ha⟩,bc (by omega) (by omega)]
   ·rw [if_neg (by rw [decide_eq_false (fun e=>ha (KC.1 e))];exact c8)]
    refine j5 _ ?_
    rw [if_neg (fun e=>ha e.2)]
  ·rw [if_neg (by omega)]
   unfold cG
   rw [if_neg (by simp)]
   refine j5 _ ?_
   rw [if_neg (fun e=>hk e.1)]
end
theorem C3 (p:Int→Bool):∀ (xs:List Int) (i:Int),0≤i→(kW p xs i=-1∧xs.find? p=none)∨∃ (j:Nat) (x:Int),kW p xs i=i+j∧xs[j]? =some x∧xs.find? p=some x
 | [],i,_=>.inl ⟨rfl,rfl⟩
 | y :: r,i,h=>by
   rw [bx]
   unfold kW
   cases hy:p y with
   | true=>rw [if_pos rfl];exact .inr ⟨0,y,by simp,rfl,rfl⟩
   | false=>
     rw [if_neg (by simp)]
     rcases C3 p r (i+1) (by omega) with ⟨h1,h2⟩ | ⟨j,x,h1,h2,h3⟩
     ·exact .inl ⟨h1,h2⟩
     ·exact .inr ⟨j+1,x,by rw [h1];omega,by simpa using h2,h3⟩
theorem WK (X:List Int) (h:X.length≤5000) (hs:X.Pairwise (fun a b=>a≤b)):ph X.length (fun r:List Int=>r.length) (oc X)=some X:=by
 have e:S7 X=X:=by
  unfold S7
  exact List.mergeSort_of_pairwise (hs.imp (fun {a b} DZ=>by simpa using DZ))
 unfold oc RW
 rw [if_pos (by omega),e]
 unfold ph
 simp
theorem N8 {c:Campaign} {fl:List DeviceS} {l:List MarkS} (H:BP c fl l) (d:DeviceS) (t:Int):Je c d l t=some (uu c (vn c d l t)):=by
 have hl:=H.l_
 unfold Je Et
 rw [Hs c d l t (by omega) (fun q hq=>(H.m_ q hq).kind)]
 simp only [aa]
 unfold uu
 cases decide ((vn c d l t).ah.Version=c.Target)<;>simp
theorem Uj {c:Campaign} {fl:List DeviceS} {l:List MarkS} (H:BP c fl l) (k:Nat) (hk:0 < k∧k≤20) (t:Int):qX t fl c (k:Int) l=some (jo c fl l (k - 1) t):=by
 have DO:=H.Ug
 have w1:bA ((k:Int) - 1)=((k - 1:Nat):Int):=by rw [bc]<;>omega
 have hf:∀ d∈fl,nN d c (k:Int) l t=some (decide (mE c d.Key=k - 1)&&!uu c (vn c d l t)):=by
  intro d hd
  unfold nN od
  rw [zB c H.c_ d.Key (H.f_.key d hd),w1]
  simp only [aa]
  by_cases e:mE c d.Key=k - 1
  ·rw [if_pos (by omega),N8 H]
   simp [e]
  ·rw [if_neg (by omega)]
   simp [e]
 unfold qX
 rw [show kE fl (fun y0=>nN y0 c (k:Int) l t)=some (fl.any (fun d=>decide (mE c d.Key=k - 1)&&!uu c (vn c d l t))) from uO fl _ _ hf (by omega)]
 simp only [aa]
 unfold jo
 rw [List.not_any_eq_all_not]
 simp only [Bool.not_and,g9]
theorem C4 (c:Campaign) (fl:List DeviceS) (l:List MarkS) (at_ S:Int) (bs:List Int) (k from_:Int) (hl:(l.length:Int)≤3000):∀ (m n:Nat) (X:List Int),n+m=l.length→X.length≤n+1→
 qZ c fl l at_ S bs k from_ X (n:Int)=uo c fl l at_ S bs k (X++((l.drop n).filter (fun m=>decide (from_≤m.At)&&decide (m.At≤at_))).map MarkS.At)
 | 0,n,X,h,hX=>by
   unfold qZ
   rw [iter_eq,uq,if_neg (by simp only;omega),aW,cc (by omega)]
   simp
 | m+1,n,X,h,hX=>by
   obtain ⟨q,hq,Pn,hd⟩:=fe l (i:=(n:Int)) (by omega) (by omega)
   rw [show ((n:Int)).toNat=n by omega,show ((n:Int)+1).toNat=n+1 by omega] at hd
   have w1:bA ((n:Int)+1)=((n+1:Nat):Int):=by rw [bc]<;>omega
   have ih:=fun X hX=>C4 c fl l at_ S bs k from_ hl m (n+1) X (by omega) hX
   unfold qZ at ih ⊢
   rw [iter_eq,uq,if_pos (by simp only;omega),hd,aL]
   simp only
   rw [hq]
   simp only [aa]
   rw [TU]
   unfold um
   rw [w1]
   by_cases hr:(decide (from_≤q.At)&&decide (q.At≤at_))=true
   ·rw [if_pos hr,if_pos hr,mQ (by simp;omega)]
    simp only [aa,bh]
    rw [ih _ (by simp;omega),bX,b7];rfl
   ·rw [if_neg hr,if_neg hr]
    simp only [aa,bh]
    exact ih X (by omega)
theorem LK {l:List MarkS} (hs:l.Pairwise (fun a b=>a.At≤b.At)) (f a:Int):(uX l f a).Pairwise (fun x y=>x≤y):=by
 unfold uX
 rw [bk]
 refine ⟨fun y hy=>?_,?_⟩
 ·obtain ⟨m,hm,rfl⟩:=ap.1 hy
  have:=(a6.1 hm).2
  simp only [ad,decide_eq_true_eq] at this
  exact this.1
 ·rw [gN]
  exact eH _ hs
theorem Uk (l:List MarkS) (f a:Int):(uX l f a).length≤l.length+1:=by
 unfold uX
 rw [ai,ce]
 have:=aS (fun m:MarkS=>decide (f≤m.At)&&decide (m.At≤a)) l
 omega
theorem N9 (c:Campaign) (at_ S:Int) (bs:List Int) (n15 n18:Int) (hb:bs.length≤1000):qY at_ S bs n15 n18=if at_ < n18∨(0≤S∧S≤n18) then some (.inr bs) else some (.inl (bs++[n18],n18,bA (n15+1))):=by
 unfold qY xT
 by_cases h:at_ < n18∨(0≤S∧S≤n18)
 ·rw [if_pos h,if_pos (by simpa using h)];rfl
 ·rw [if_neg h,if_neg (by simpa using h),mQ (by simp;omega)];rfl
theorem HE {c:Campaign} {fl:List DeviceS} {l:List MarkS} (H:BP c fl l) {at_ S:Int} (pX:at_≤345686399999) {bs:List Int} (hR:Ih c fl l at_ S bs) (n14:Int) (h14:bs.length=0→n14=c.At):
 (∀ nx,cM c fl l at_ bs=some nx→¬ (at_ < nx∨(0≤S∧S≤nx))→jF c fl l at_ S bs n14 (bs.length:Int)=jF c fl l at_ S (bs++[nx]) nx ((bs++[nx]).length:Int))∧
 (Uh c fl l at_ S bs→jF c fl l at_ S bs n14 (bs.length:Int)=some bs):=by
 have hc:=H.c_
 have N7:=hc.len
 have X2:=H.l_
 have L7:l.Pairwise (fun a b=>a.At≤b.At):=H.s_.imp CZ
 obtain ⟨r1,r2,r3⟩:=vq hc hR
 have w1:∀ nx:Int,bA ((bs.length:Int)+1)=((bs++[nx]).length:Int):=fun nx=>by rw [bp,cH,bc]<;>omega
 have key:ur c fl l at_ S bs n14 (bs.length:Int)=match cM c fl l at_ bs with
  | none=>some (.inr bs)
  | some nx=>if at_ < nx∨(0≤S∧S≤nx) then some (.inr bs) else some (.inl (bs++[nx],nx,bA ((bs.length:Int)+1))):=by
  unfold ur
  by_cases k1:bs.length < c.aG.length
  ·rw [if_pos (by omega)]
   by_cases k0:bs.length=0
   ·rw [if_neg (by omega),N9 c at_ S bs _ _ (by omega),h14 k0]
    unfold cM
    rw [if_pos k0]
   ·have hle:=r3 k0
    have wm:bA ((bs.length:Int) - 1)=((bs.length - 1:Nat):Int):=by rw [bc]<;>omega
    have SH:idx bs ((bs.length - 1:Nat):Int)=some (gq bs):=by
     refine mX ?_
     unfold gq
     rw [eY]
     cases hx:bs[bs.length - 1]? with
     | none=>rw [e6] at hx;omega
     | some y=>rfl
    rw [if_pos (by omega),wm,SH]
    simp only [aa]
    have ht:=C4 c fl l at_ S bs (bs.length:Int) (gq bs) X2 l.length 0 [gq bs] (by omega) (by simp)
    rw [gk] at ht
    rw [show (([gq bs]:List Int)++(l.filter (fun m=>decide (gq bs≤m.At)&&decide (m.At≤at_))).map MarkS.At)=uX l (gq bs) at_ from rfl] at ht
    refine Eq.trans ht ?_
    have PQ:=Uk l (gq bs) at_
    unfold uo
    rw [WK _ (by omega) (LK L7 _ _)]
    simp only [aa]
    rw [show oC (uX l (gq bs) at_) (fun y0=>qX y0 fl c (bs.length:Int) l)=some (kW (jo c fl l (bs.length - 1)) (uX l (gq bs) at_) 0) from qS _ _ _ (fun t _=>Uj H bs.length ⟨by omega,by omega⟩ t) (by omega)]
    simp only [aa]
    unfold cM
    rw [if_neg k0,if_pos k1]
    rcases C3 (jo c fl l (bs.length - 1)) (uX l (gq bs) at_) 0 (by omega) with ⟨f1,f2⟩ | ⟨j,t,f1,f2,f3⟩
    ·rw [f1,f2,if_pos (by omega)];rfl
    ·rw [f1,f3,if_neg (by omega),Int.zero_add,mX f2,w8 k1]
     simp only [aa,Option.map_some]
     have L8:=hc.wait _ (lZ k1)
     have htg:=HC (d0 f3)
     rw [bc (by omega) (by omega),N9 c at_ S bs _ _ (by omega)]
  ·rw [if_neg (by omega)]
   have:cM c fl l at_ bs=none:=by
    unfold cM
    have:=EC hc
    rw [if_neg (by omega),if_neg k1]
   rw [this];rfl
 refine ⟨fun nx hn hb=>?_,fun hF=>?_⟩
 ·rw [hn] at key
  simp only at key
  rw [if_neg hb] at key
  unfold jF
  conv=>lhs;rw [iter_eq]
  simp only
  rw [key]
  simp only [aa,bh]
  rw [w1 nx]
 ·unfold jF
  rw [iter_eq]
  simp only
  rw [key]
  cases hn:cM c fl l at_ bs with
  | none=>rfl
  | some nx=>simp only;rw [if_pos (hF nx hn)];rfl
theorem LL {c:Campaign} {fl:List DeviceS} {l:List MarkS} (H:BP c fl l) {at_ S:Int} (pX:at_≤345686399999) {bs:List Int} (hR:Ih c fl l at_ S bs):∃ n14,(bs.length=0→n14=c.At)∧jF c fl l at_ S [] c.At 0=jF c fl l at_ S bs n14 (bs.length:Int):=by
 induction hR with
 | nil=>exact ⟨c.At,fun _=>rfl,rfl⟩
 | snoc h hl hn ha hs ih=>
   obtain ⟨n14,i1,i2⟩:=ih
   rename_i bs nx
   refine ⟨nx,fun h=>by simp at h,?_⟩
   rw [i2]
   exact (HE H pX h n14 i1).1 nx hn (by omega)
theorem tV {c:Campaign} {fl:List DeviceS} {l:List MarkS} (H:BP c fl l) {at_ S:Int} (pX:at_≤345686399999) (hS:nv c fl l at_=some S) {bs:List Int} (hR:Ih c fl l at_ S bs) (hF:Uh c fl l at_ S bs):yq c fl l at_=some bs:=by
 unfold yq
 rw [hS]
 simp only [aa]
 obtain ⟨n14,i1,i2⟩:=LL H pX hR
 rw [i2]
 exact (HE H pX hR n14 i1).2 hF
theorem Q7 {c:Campaign} {fl:List DeviceS} {l:List MarkS} (H:BP c fl l) (at_:Int) (ha:0≤at_∧at_≤345686399999):∃ v r n,dM c fl=some v∧eW ⟨c,v.kM,v.cj,v.open_,v.ba,v.aO,v.aE,v.aQ,v.bM,v.iA⟩ l at_=some r∧
 SX c fl r (l.take n)∧(∀ x∈l.take n,x.At≤at_)∧(∀ x∈l.drop n,at_ < x.At)∧DI c fl l at_ (SA c fl (l.take n)) r.aE r.bM:=by
 have hc:=H.c_
 have hf:=H.f_
 have DO:=H.Ug
 have X2:=H.l_
 have L7:l.Pairwise (fun a b=>a.At≤b.At):=H.s_.imp CZ
 have hcm:=hc.Ig
 obtain ⟨v,v1,v2,v3,v4⟩:=AZ c fl hc hf (by omega)
 have Ms:∀ (n:Nat) (x:MarkS),l[n]? =some x→∀ y∈l.drop n,x.At≤y.At:=by
  intro n x hx y hy
  have hd:l.drop n=x :: l.drop (n+1):=by
   have hn:=(hE.1 hx)
   rw [e8 hn.1,hn.2]
  have hp:=List.Pairwise.drop (i:=n) L7
  rw [hd,bk] at hp
  rw [hd] at hy
  rcases af.1 hy with rfl | hy
  ·exact bU _
  ·exact hp.1 y hy
 have Sf:∀ (n:Nat) (T T':Int),(∀ x∈l.take n,x.At≤T)→(∀ x∈l.drop n,T' < x.At)→∀ x∈l,¬ (T < x.At∧x.At≤T'):=by
  intro n T T' g1 g2 x hx hh
  rw [← dd n l] at hx
  rcases a8.1 hx with hx | hx
  ·have:=g1 x hx;omega
  ·have:=g2 x hx;omega
 have Oa:∀ (T S:Int),C0 T S S:=fun T S=>by unfold C0;omega
 have key:=LC c v l at_ (by omega) (fun x hx=>(H.m_ x hx).Ig) L7
  (fun s n T=>SX c fl s (l.take n)∧(∀ x∈l.take n,x.At≤T)∧(∀ x∈l.drop n,T < x.At)∧DI c fl l T (SA c fl (l.take n)) s.aE s.bM∧-1≤T)
  (fun s n now=>SX c fl s (l.take n)∧(∀ x∈l.take n,x.At≤now)∧(∃ S0,C0 (now - 1) S0 (SA c fl (l.take n))∧DI c fl l (now - 1) S0 s.aE s.bM)∧0≤now)
  (fun r n=>SX c fl r (l.take n)∧(∀ x∈l.take n,x.At≤at_)∧(∀ x∈l.drop n,at_ < x.At)∧DI c fl l at_ (SA c fl (l.take n)) r.aE r.bM)
  v2.c_ ?_ ?_ ?_ ?_ (-1) ⟨by rw [hG];exact v2,by simp,fun x hx=>by have:=(H.m_ x (List.mem_of_mem_drop hx)).Ig;omega,?_,by omega⟩ ⟨by omega,fun x hx=>by have:=(H.m_ x hx).Ig;omega⟩
 ·obtain ⟨r,r1,n,_,r2⟩:=key
  refine ⟨v,r,n,v1,?_,r2⟩
  rw [← v2.c_]
  exact r1
 ·
  rintro s n T x _ ⟨p1,p2,p3,p4,p5⟩ hx hT hxa
  have hx0:=(H.m_ x (c7 hx)).Ig
  have Iw:∀ y∈l.drop n,x.At - 1 < y.At:=fun y hy=>by have:=Ms n x hx y hy;omega
  refine (xw H p1 (T:=T) (T':=x.At - 1) (by omega) (by omega) p5 (fun y hy=>by have:=p2 y hy;omega) Iw (.inl (Sf n T (x.At - 1) p2 Iw)) (Oa _ _) p4).mono (fun r hr=>⟨hr.1,hr.2.1,fun y hy=>by have:=p2 y hy;omega,⟨_,Oa _ _,hr.2.2⟩,hx0.1⟩)
 ·
  rintro s n x now _ ⟨p1,p2,⟨S0,p3,p4⟩,p5⟩ hx he hna
  have ht:l.take (n+1)=l.take n++[x]:=by rw [dk,hx];rfl
  have O2:(l.take n).length≤l.length:=by rw [dl];omega
  refine (Ky hc hf (by omega) (by omega) p1 x).mono (fun r hr=>?_)
  refine ⟨hr.1.c_,by rw [ht];exact hr.1,fun y hy=>?_,⟨S0,?_,by rw [hr.2.1,hr.2.2];exact p4⟩,p5⟩
  ·rw [ht] at hy
   rcases a8.1 hy with hy | hy
   ·exact p2 y hy
   ·rw [be] at hy;subst hy;omega
  ·rw [ht,sC]
   unfold C0 at p3 ⊢
   split<;>omega
 ·
  rintro s n now _ ⟨p1,p2,⟨S0,p3,p4⟩,p5⟩ hd hna
  exact (xw H p1 (T:=now - 1) (T':=now) (by omega) (by omega) (by omega) p2 hd (.inr (by omega)) p3 p4).mono (fun r hr=>⟨hr.1,hr.2.1,p2,hd,hr.2.2,by omega⟩)
 ·
  rintro s n T _ ⟨p1,p2,p3,p4,p5⟩ hd X3
  exact (xw H p1 (T:=T) (T':=at_) X3 ha.2 p5 (fun y hy=>by have:=p2 y hy;omega) hd (.inl (Sf n T at_ p2 hd)) (Oa _ _) p4).mono (fun r hr=>⟨hr.1,hr.2.1,fun y hy=>by have:=p2 y hy;omega,hd,hr.2.2⟩)
 ·
  rw [hG,v3,v4]
  refine ⟨.nil,?_,fun nx hn=>?_⟩
  ·unfold cM;rw [if_pos d1];rfl
  ·unfold cM at hn
   rw [if_pos d1] at hn
   have:=ac hn
   left;omega
theorem WL {c:Campaign} {r:Int} (hR:r=0→ga c) {fl:List DeviceS} {l:List MarkS} {at_:Int} (h:zy r fl l at_=0):BP c fl l∧0≤at_∧at_≤345686399999:=by
 have h0:=h
 obtain ⟨g1,g2,g3,g4⟩:=WC h
 obtain ⟨hf,DO⟩:=N0 g2
 obtain ⟨m1,m2,m3⟩:=T6 g3
 refine ⟨⟨hR g1,hf,DO,m1,m2,m3⟩,g4,?_⟩
 unfold zy at h0
 simp only [sx,g1,g2,g3] at h0
 unfold N1 at h0
 cases hm:zt at_
 ·simp [hm] at h0
 ·unfold zt at hm
  simp only [ad,decide_eq_true_eq] at hm
  exact hm.2
theorem Oc {c:Campaign} {r:Int} (hr:bH c=some r) (hR:r=0→ga c) (fl:List DeviceS) (l:List MarkS) (at_:Int) (hb:(fl.length * l.length:Int)≤100000):
 (zy r fl l at_≠0→jg c fl l at_=some ([],zy r fl l at_)∧iv c fl l at_=some (0,zy r fl l at_))∧
 (zy r fl l at_=0→∃ bs S,jg c fl l at_=some (bs,0)∧iv c fl l at_=some (S,0)∧yq c fl l at_=some bs∧nv c fl l at_=some S∧bs.length≤20):=by
 unfold jg iv
 rw [Hz hr]
 simp only [aa]
 refine ⟨fun h=>⟨by rw [if_pos h],by rw [if_pos h]⟩,fun h=>?_⟩
 obtain ⟨H,ha⟩:=WL hR h
 obtain ⟨v,s,n,v1,v2,v3,v4,v5,v6⟩:=Q7 H at_ ha
 rw [if_neg (by simpa using h),if_neg (by simpa using h),v1]
 simp only [aa]
 rw [v2]
 simp only [aa]
 have hS:=vp H at_ n v4 v5 hb
 have hk:=(vq H.c_ v6.r).1
 have yF:=H.c_.len
 exact ⟨s.aE,s.aQ,rfl,rfl,tV H ha.2 hS v6.r v6.f,by rw [v3.sp];exact hS,by omega⟩
def Po {α:Type} (cf:α→α→Int) (EE:α→α→Prop) (Z:List α):Prop:=Z.Pairwise (fun a b=>¬ cf b a < 0∧(¬ cf a b < 0→EE a b))
theorem Jp {α:Type} (sF:α→α→Option Int) (cf:α→α→Int) (EE:α→α→Prop) (n4:Int) (hn:n4≤1000000) (x:α):∀ (k:Nat) (P R post:List α),P.length=k→(P.length:Int)≤1000000→
 (∀ y∈P,sF x y=some (cf x y))→DF cf (x :: (P++R))→Po cf EE (P++R)→(∀ r∈R,cf x r < 0)→(∀ y∈P,EE y x)→
 ∃ Z,zg 0 sF n4 (P++x :: (R++post)) P.length=some (.inl (Z++post,bA (n4+1)))∧Z.Perm (x :: (P++R))∧Po cf EE Z:=by
 intro k
 induction k with
 | zero=>
   intro P R post hP hl hf hO hs hR h2
   obtain rfl:P=[]:=hU hP
   refine ⟨x :: R,?_,by simp,?_⟩
   ·unfold zg
    rw [iter_eq,BI,if_neg (by simp),zf,if_neg (by simp),aW];simp
   ·refine bk.2 ⟨fun r hr=>⟨fun ew=>?_,fun SD=>absurd (hR r hr) SD⟩,by simpa [Po] using hs⟩
    exact hO.Lq x (by simp) (hO.tr x (by simp) r (by simp [hr]) x (by simp) (hR r hr) ew)
 | succ k ih=>
   intro P R post hP hl hf hO hs hR h2
   obtain ⟨Q,y,rfl⟩:∃ Q y,P=Q++[y]:=by
    rcases e9 P with h | ⟨Q,y,h⟩
    ·rw [h] at hP;simp at hP
    ·exact ⟨Q,y,by simpa using h⟩
   have hQ:Q.length=k:=by simpa using hP
   have hlen:((Q++[y]).length:Int)=Q.length+1:=by simp
   have hlq:(Q.length:Int)+1≤1000000:=by rw [← hlen];exact hl
   have w1:bA ((Q.length:Int)+1 - 1)=Q.length:=by rw [bc]<;>omega
   have e1:(Q++[y])++x :: (R++post)=Q++y :: x :: (R++post):=by simp
   have i1:idx (Q++y :: x :: (R++post)) ((Q.length:Int)+1)=some x:=by
    have:=Fq (Q++[y]) x (R++post) (i:=(Q.length:Int)+1) (by simp)
    simpa using this
   have i0:idx (Q++y :: x :: (R++post)) (Q.length:Int)=some y:=Fq Q y _ rfl
   rw [e1,hlen]
   by_cases hc:cf x y < 0
   ·obtain ⟨Z,z1,z2,z3⟩:=ih Q (y :: R) post hQ (by omega) (fun z hz=>hf z (by simp [hz])) (hO.mono (fun z hz=>by simp at hz ⊢;rcases hz with h | h | h | h<;>simp [h])) (by simpa using hs) (fun r hr=>by rcases af.1 hr with rfl | hr;exact hc;exact hR r hr) (fun z hz=>h2 z (by simp [hz]))
    refine ⟨Z,?_,z2.trans (by simp),z3⟩
    unfold zg at z1 ⊢
    rw [iter_eq,BI,if_pos (by simp only;omega)]
    simp only [i1,w1,i0,aa,hf y (by simp),hc,decide_true]
    unfold zf
    rw [if_pos rfl,w1]
    simp only [i0,i1,aa]
    have i2:idx ((Q++y :: x :: (R++post)).set ((Q.length:Int)+1).toNat y) (Q.length:Int)=some y:=by
     rw [show ((Q.length:Int)+1).toNat=Q.length+1 by omega]
     unfold idx
     rw [if_pos (by omega),List.getElem?_set_ne (by simp)]
     simp
    rw [i2]
    simp only [aa,bh]
    have e2:((Q++y :: x :: (R++post)).set ((Q.length:Int)+1).toNat y).set ((Q.length:Int)).toNat x=Q++x :: (y :: R++post):=by
     rw [show ((Q.length:Int)+1).toNat=Q.length+1 by omega,show ((Q.length:Int)).toNat=Q.length by omega,NG];simp
    rw [e2]
    exact z1
   ·refine ⟨Q++y :: x :: R,?_,?_,?_⟩
    ·unfold zg
     rw [iter_eq,BI,if_pos (by simp only;omega)]
     simp only [i1,w1,i0,aa,hf y (by simp),hc,decide_false]
     unfold zf
     rw [if_neg (by simp),aW];simp
    ·have:(Q++y :: x :: R).Perm (x :: (Q++y :: R)):=by
      have h:=hV (a:=x) (l₁:=Q++[y]) (l₂:=R)
      simpa using h
     simpa using this
    ·unfold Po at hs ⊢
     have Pm:(Q++y :: R).Pairwise (fun a b=>¬ cf b a < 0∧(¬ cf a b < 0→EE a b)):=by simpa using hs
     rw [ca,bk] at Pm ⊢
     obtain ⟨a1,⟨a2,a3⟩,a4⟩:=Pm
     have hxQ:∀ q∈Q,¬ cf x q < 0:=fun q hq=>hO.ZX x (by simp) y (by simp) q (by simp [hq]) hc (a4 q hq y (by simp)).1
     refine ⟨a1,⟨fun z hz=>?_,bk.2 ⟨fun r hr=>⟨fun ew=>?_,fun SD=>absurd (hR r hr) SD⟩,a3⟩⟩,fun q hq z hz=>?_⟩
     ·rcases af.1 hz with rfl | hz
      ·exact ⟨hc,fun _=>h2 y (by simp)⟩
      ·exact a2 z hz
     ·exact hO.Lq x (by simp) (hO.tr x (by simp) r (by simp [hr]) x (by simp) (hR r hr) ew)
     ·rcases af.1 hz with rfl | hz
      ·exact a4 q hq z (by simp)
      ·rcases af.1 hz with rfl | hz
       ·exact ⟨hxQ q hq,fun _=>h2 q (by simp [hq])⟩
       ·exact a4 q hq z (by simp [hz])
theorem Jq {α:Type} (sF:α→α→Option Int) (cf:α→α→Int) (EE:α→α→Prop) (xs:List α) (hl:(xs.length:Int)≤100000) (hf:∀ x∈xs,∀ y∈xs,sF x y=some (cf x y)) (hO:DF cf xs):∀ (n:Nat) (P post:List α) (i:Int),i=P.length→post.length=n→(P++post).Perm xs→Po cf EE P→(∀ y∈P,∀ z∈post,EE y z)→post.Pairwise EE→
 ∃ Z,zh 0 xs.length sF (P++post) i=some Z∧Z.Perm xs∧Po cf EE Z:=by
 intro n
 induction n with
 | zero=>
   intro P post i hi hn hp hs h2 h3
   obtain rfl:post=[]:=hU hn
   have hlen:=hp.length_eq
   simp only [bv] at hp hlen ⊢
   refine ⟨P,?_,hp,hs⟩
   unfold zh
   rw [iter_eq,BJ,if_neg (by simp only;omega),aW]
 | succ n ih=>
   intro P post i hi hn hp hs h2 h3
   match post,hn with
   | x :: r,hn=>
     have hlen:=hp.length_eq
     simp only [bp,ai] at hlen
     have og:∀ z∈P++x :: r,z∈xs:=fun z hz=>hp.mem_iff.1 hz
     have Xm:=bk.1 h3
     obtain ⟨Z,z1,z2,z3⟩:=Jp sF cf EE i (by omega) x P.length P [] r rfl (by omega) (fun y hy=>hf x (og x (by simp)) y (og y (by simp [hy]))) (hO.mono (fun z hz=>og z (by simp at hz ⊢;rcases hz with h | h<;>simp [h]))) (by simpa using hs) (by simp) (fun y hy=>h2 y hy x (by simp))
     simp only [bv,d2] at z1 z2
     have hzl:=z2.length_eq
     obtain ⟨Y,y1,y2,y3⟩:=ih Z r (i+1) (by rw [hi];simp at hzl;omega) (by simpa using hn) (by
      refine List.Perm.trans ?_ hp
      have:(Z++r).Perm ((x :: P)++r):=z2.append_right r
      refine this.trans ?_
      have h:=hV (a:=x) (l₁:=P) (l₂:=r)
      simpa using h.symm) z3 (fun y hy z hz=>by
       rcases af.1 (z2.mem_iff.1 hy) with rfl | hy
       ·exact Xm.1 z hz
       ·exact h2 y hy z (al _ hz)) Xm.2
     refine ⟨Y,?_,y2,y3⟩
     unfold zh at y1 ⊢
     rw [iter_eq,BJ,if_pos (by simp only;omega)]
     simp only
     rw [← hi] at z1
     rw [z1]
     simp only [aa,bh]
     rw [bc (by omega) (by omega)]
     exact y1
theorem Od {α:Type} (sF:α→α→Option Int) (cf:α→α→Int) (EE:α→α→Prop) (xs:List α) (hl:(xs.length:Int)≤100000) (hf:∀ x∈xs,∀ y∈xs,sF x y=some (cf x y)) (hO:DF cf xs) (h2:xs.Pairwise EE):∃ Z,Wt xs 0 xs.length sF=some Z∧Z.Perm xs∧Po cf EE Z:=by
 unfold Wt
 rw [show bA (0+1)=1 by decide]
 cases xs with
 | nil=>
   refine ⟨[],?_,eF _,.nil⟩
   unfold zh
   rw [iter_eq,BJ,if_neg (by simp),aW]
 | cons x r=>
   have Mm:=bk.1 h2
   exact Jq sF cf EE (x :: r) hl hf hO r.length [x] r 1 (by simp) rfl (eF _) (by simp [Po]) (fun y hy z hz=>by
    rw [be] at hy;subst hy;exact Mm.1 z hz) Mm.2
theorem nA {α σ A X:Type} (xs:List α) (mk:σ→Int→X) (f:X→Option (X⊕A)) (X4:σ→α→σ) (Inv:Int→σ→Prop) (E:σ→Option A)
 (h1:∀ s (i:Int) x,0≤i→i < xs.length→idx xs i=some x→Inv i s→f (mk s i)=some (.inl (mk (X4 s x) (i+1)))∧Inv (i+1) (X4 s x))
 (h2:∀ s,Inv xs.length s→f (mk s xs.length)=d3 .inr (E s)) (s:σ) (h0:Inv 0 s):iter f (mk s 0)=E (xs.foldl X4 s):=by
 have key:∀ (n:Nat) (s:σ) (i:Int),0≤i→i+n=xs.length→Inv i s→iter f (mk s i)=E ((xs.drop i.toNat).foldl X4 s):=by
  intro n
  induction n with
  | zero=>
    intro s i hi hn hv
    have:i=xs.length:=by omega
    subst this
    rw [iter_eq,h2 s hv,aW]
    simp
  | succ n ih=>
    intro s i hi hn hv
    obtain ⟨x,hx,_,hd⟩:=fe xs hi (by omega)
    obtain ⟨e1,e2⟩:=h1 s i x hi (by omega) hx hv
    rw [iter_eq,e1]
    simp only [aa,bh]
    rw [ih _ _ (by omega) (by omega) e2,hd]
    rfl
 have:=key xs.length s 0 (by omega) (by omega) h0
 simpa using this
theorem foldl_filter {α:Type} (p:α→Bool):∀ (xs acc:List α),xs.foldl (fun acc x=>if p x=true then acc++[x] else acc) acc=acc++xs.filter p
 | [],acc=>by simp
 | x :: r,acc=>by
   rw [aw,foldl_filter p r,aL]
   cases p x<;>simp
abbrev Q8 {A:Type} (N:Nat) (Inv:Int→Prop) (R:A→Prop) (i:Int):Int⊕A→Prop
 | .inl j=>j=i+1∧i < N∧Inv (i+1)
 | .inr a=>R a
theorem Ok.Oe {A:Type} {f:Int→Option (Int⊕A)} {R:A→Prop} (N:Nat) (Inv:Int→Prop) (h0:Inv 0) (h:∀ i:Int,0≤i→i≤N→Inv i→Ok (f i) (Q8 N Inv R i)):Ok (Eng.iter f 0) R:=by
 refine Ok.iter (fun i:Int=>N+1 - i.toNat) (fun i:Int=>(0≤i∧i≤N)∧Inv i) (fun i hi=>?_) 0 ⟨⟨by omega,by omega⟩,h0⟩
 refine (h i hi.1.1 hi.1.2 hi.2).mono (fun r hr=>?_)
 cases r with
 | inl j=>
   simp only [Lt,Q8] at hr ⊢
   obtain ⟨rfl,h2,h3⟩:=hr
   exact ⟨⟨by omega,h3⟩,by omega⟩
 | inr a=>exact hr
theorem take_succ {α:Type} {xs:List α} {i:Int} {x:α} (h0:0≤i) (h:idx xs i=some x):xs.take (i+1).toNat=xs.take i.toNat++[x]:=by
 obtain ⟨_,h1,h2⟩:=eR h
 rw [show (i+1).toNat=i.toNat+1 by omega,dk,h2];rfl
theorem Ok.Of {σ A X:Type} {f:X→Option (X⊕A)} {R:A→Prop} (N:Nat) (mk:σ→Int→X) (Inv:Int→σ→Prop)
 (h:∀ s (i:Int),0≤i→i≤N→Inv i s→Ok (f (mk s i)) (fun r=>(∃ s',r=.inl (mk s' (i+1))∧i < N∧Inv (i+1) s')∨∃ a,r=.inr a∧R a)) (s:σ) (h0:Inv 0 s):Ok (Eng.iter f (mk s 0)) R:=by
 have key:∀ (k:Nat) (s:σ) (i:Int),0≤i→i≤N→i+k=N+1→Inv i s→Ok (Eng.iter f (mk s i)) R:=by
  intro k
  induction k with
  | zero=>
    intro s i hi hN hk hv
    omega
  | succ k ih=>
    intro s i hi hN hk hv
    obtain ⟨r,h1,h2⟩:=h s i hi hN hv
    rw [iter_eq,h1]
    rcases h2 with ⟨s',rfl,h3,h4⟩ | ⟨a,rfl,h3⟩
    ·simp only [aa,bh]
     exact ih s' (i+1) (by omega) (by omega) (by omega) h4
    ·exact ⟨a,rfl,h3⟩
 exact key (N+1) s 0 (by omega) (by omega) (by omega) h0
theorem HF (x:Int) (r:List Int):sx (x :: r)=if x≠0 then x else sx r:=rfl
theorem rD.or {α:Type} {c:α→α→Int} {f:α→α→List Int} (h:rD c) (k:rD fun a b=>sx (f a b)):rD fun a b=>sx (c a b :: f a b):=h.lex k
theorem rD.or0 {α:Type}:rD (fun (_ _:α)=>sx []):=⟨fun _ _=>rfl,fun h _=>absurd h (by simp [sx]),fun _ h=>absurd h (by simp [sx])⟩
theorem HG:∀ {l:List Int},sx l=0→∀ x∈l,x=0
 | [],_,x,hx=>by simp at hx
 | y :: r,h,x,hx=>by
   rw [HF] at h
   by_cases h0:y=0
   ·rw [if_neg (by simpa using h0)] at h
    rcases af.1 hx with rfl | hx
    ·exact h0
    ·exact HG h x hx
   ·rw [if_pos h0] at h;exact absurd h h0
theorem Q9 {vu at_:Int} (hz:-86400000≤vu∧vu≤86400000) (ha:0≤at_∧at_≤345686399999):
 (bA ((bA (at_+vu)).tmod 86400000+86400000)).tmod 86400000=(bA ((bA (at_+vu))+86400000)).tmod 86400000:=by
 rw [bc (x:=at_+vu) (by omega) (by omega),bc (x:=at_+vu+86400000) (by omega) (by omega),d4 (a:=at_+vu+86400000) (by omega)]
 have hb:=Int.tmod_lt_of_pos (at_+vu) (show (0:Int) < 86400000 by omega)
 have hl:=Int.lt_tmod_of_pos (at_+vu) (show (0:Int) < 86400000 by omega)
 rw [bc (x:=(at_+vu).tmod 86400000+86400000) (by omega) (by omega),d4 (a:=(at_+vu).tmod 86400000+86400000) (by omega)]
 by_cases h:0≤at_+vu
 ·rw [d4 h];omega
 ·have:=Int.neg_tmod (-(at_+vu)) 86400000
  rw [Int.neg_neg,d4 (show 0≤-(at_+vu) by omega)] at this
  rw [this];omega
theorem Og (c:Campaign) {vu at_:Int} (hz:-86400000≤vu∧vu≤86400000) (ha:0≤at_∧at_≤345686399999):jJ c vu at_=xo c vu at_:=by
 unfold jJ xo lx zk ly zl
 rw [Q9 hz ha]
noncomputable def wO (c:Campaign) (a b:DeviceS):Int:=sx [dD (mE c a.Key:Int) (mE c b.Key:Int),dD (vm c a.Key) (vm c b.Key)]
theorem WN (c:Campaign):rD (wO c):=(wK.on fun d:DeviceS=>(mE c d.Key:Int)).or ((wK.on fun d:DeviceS=>vm c d.Key).or .or0)
noncomputable def dO (c:Campaign) (a b:DeviceS):Int:=sx [dD (mE c a.Key:Int) (mE c b.Key:Int),dD (vm c a.Key) (vm c b.Key),Lib.compareBytes a.Key b.Key]
theorem WO (c:Campaign):rD (dO c):=(wK.on fun d:DeviceS=>(mE c d.Key:Int)).or ((wK.on fun d:DeviceS=>vm c d.Key).or ((Aa.on DeviceS.Key).or .or0))
theorem aa3 (a b c:Int):sx [a,b,c]=if sx [a,b]≠0 then sx [a,b] else c:=by
 have e0:∀ r,sx (0 :: r)=sx r:=fun _=>rfl
 have e1:∀ (x:Int) r,x≠0→sx (x :: r)=x:=fun x r h=>if_pos h
 by_cases ha:a=0
 ·subst ha
  rw [e0,e0]
  by_cases hb:b=0
  ·subst hb
   rw [e0,e0,if_neg (fun z=>z rfl)]
   by_cases hc:c=0
   ·subst hc;rfl
   ·exact e1 c [] hc
  ·rw [e1 b _ hb,e1 b _ hb,if_pos hb]
 ·rw [e1 a _ ha,e1 a _ ha,if_pos ha]
theorem WQ (c:Campaign) (a b:DeviceS):dO c a b=if wO c a b≠0 then wO c a b else Lib.compareBytes a.Key b.Key:=by
 unfold dO wO
 exact aa3 _ _ _
theorem Ra {c:Campaign} {Z:List DeviceS} (h:Po (wO c) (fun a b=>Lib.compareBytes a.Key b.Key < 0) Z):R9 (dO c) Z:=by
 refine List.Pairwise.imp (fun {a b} DZ WG=>?_) h
 obtain ⟨h1,h2⟩:=DZ
 have hn:=(WN c).neg a b
 have hk:=Aa.neg a.Key b.Key
 rw [WQ] at WG
 by_cases h0:wO c b a=0
 ·rw [if_neg (fun z=>z h0)] at WG
  have:=h2 (by omega)
  omega
 ·rw [if_pos h0] at WG
  exact h1 WG
theorem C5 {c:Campaign} {Z Z':List DeviceS} (h1:R9 (dO c) Z) (h2:R9 (dO c) Z') (hp:Z.Perm Z') (hk:∀ a∈Z,∀ b∈Z,a.Key=b.Key→a=b):Z=Z':=
 vh hp h1 h2 fun a ha b hb k1 k2=>by
  have hn:=(WO c).neg a b
  have h0:dO c a b=0:=by omega
  exact hk a ha b hb (sK (HG h0 _ (by simp)))
theorem WR (a b x y:Int):ed [a,b] [x,y]=some (sx [dD a x,dD b y]):=by
 have e:∀ n:Int,fy [a,b] [x,y] n=(br [a,b] [x,y] n).bind (after fun z=>fy [a,b] [x,y] z):=fun n=>by
  unfold fy
  rw [iter_eq]
 have b0:br [a,b] [x,y] 0=some (if dD a x≠0 then .inr (dD a x) else .inl 1):=by
  unfold br
  rw [if_pos (by simp),show idx [a,b] (0:Int)=some a from rfl]
  simp only [aa]
  rw [if_neg (by simp),show idx [x,y] (0:Int)=some x from rfl]
  simp only [aa]
  rw [iO]
  by_cases h:dD a x≠0
  ·rw [if_pos h,if_pos h];rfl
  ·rw [if_neg h,if_neg h,show bA (0+1)=1 by decide]
 have b1:br [a,b] [x,y] 1=some (if dD b y≠0 then .inr (dD b y) else .inl 2):=by
  unfold br
  rw [if_pos (by simp),show idx [a,b] (1:Int)=some b from rfl]
  simp only [aa]
  rw [if_neg (by simp),show idx [x,y] (1:Int)=some y from rfl]
  simp only [aa]
  rw [iO]
  by_cases h:dD b y≠0
  ·rw [if_pos h,if_pos h];rfl
  ·rw [if_neg h,if_neg h,show bA (1+1)=2 by decide]
 have b2:br [a,b] [x,y] 2=some (.inr 0):=by
  unfold br gW
  rw [if_neg (by simp),if_neg (by simp)];rfl
 unfold ed
 rw [e 0,b0]
 simp only [aa,HF]
 by_cases h:dD a x≠0
 ·rw [if_pos h,if_pos h];rfl
 ·rw [if_neg h,if_neg h,bh,e 1,b1]
  simp only [aa]
  by_cases h':dD b y≠0
  ·rw [if_pos h',if_pos h'];rfl
  ·rw [if_neg h',if_neg h',bh,e 2,b2];rfl
theorem xb {s:bq} (h:mw s=true):s.length≤1000:=by have:=uW h;omega
theorem Oh {c:Campaign} {fl:List DeviceS} {s:CS} {dn:List MarkS} (hc:ga c) (hf:iP fl) (h:SI c fl s dn) {a b:DeviceS} (ha:a∈fl) (hb:b∈fl):cX a b s=some (dO c a b):=by
 unfold cX nU
 rw [FH hf h.cj ha,FH hf h.cj hb,h.c_,FC c a.Key (xb hc.key) (xb (hf.key a ha)),FC c b.Key (xb hc.key) (xb (hf.key b hb))]
 simp only [aa,ci]
 rw [iO,iO,show jY [dD (mE c a.Key:Int) (mE c b.Key:Int),dD (vm c a.Key) (vm c b.Key),Lib.compareBytes a.Key b.Key]=some (sx [dD (mE c a.Key:Int) (mE c b.Key:Int),dD (vm c a.Key) (vm c b.Key),Lib.compareBytes a.Key b.Key]) from zY _ (by simp)]
 rfl
theorem Rb {c:Campaign} {fl:List DeviceS} (hc:ga c) (hf:iP fl) {a b:DeviceS} (ha:a∈fl) (hb:b∈fl):ra a b c=some (wO c a b):=by
 unfold ra
 rw [zB c hc a.Key (hf.key a ha),zB c hc b.Key (hf.key b hb),FD c a.Key (xb hc.key) (xb (hf.key a ha)),FD c b.Key (xb hc.key) (xb (hf.key b hb))]
 simp only [aa]
 rw [WR]
 rfl
theorem HI (sF:DeviceS→DeviceS→Option Int) (cf:DeviceS→DeviceS→Int) (EE:DeviceS→DeviceS→Prop) (xs:List DeviceS) (hl:(xs.length:Int) < 20) (hf:∀ x∈xs,∀ y∈xs,sF x y=some (cf x y)) (hO:DF cf xs) (h2:xs.Pairwise EE):
 ∃ Z,ph xs.length (fun r:List DeviceS=>r.length) (fU xs sF)=some Z∧Z.Perm xs∧Po cf EE Z:=by
 obtain ⟨Z,h1,h2,h3⟩:=Od sF cf EE xs (by omega) hf hO h2
 have Gb:fZ xs 0 xs.length sF=some Z:=h1
 have hlen:=h2.length_eq
 refine ⟨Z,?_,h2,h3⟩
 have hs:jD xs xs.length sF=some Z:=by
  unfold jD lX
  rw [iter_eq,lW,if_neg (by simp only;omega),aW]
  unfold lV
  simp only
  rw [Ab Gb hlen]
  simp only [aa]
  unfold lU
  rw [iter_eq,lT,if_neg (by omega),aW]
 refine Ab ?_ hlen
 unfold fU
 rw [Ab hs hlen];rfl
theorem Jr {c:Campaign} {fl:List DeviceS} {s:CS} {dn:List MarkS} (hc:ga c) (hf:iP fl) (hs:fl.Pairwise (fun a b=>Lib.compareBytes a.Key b.Key < 0)) (h:SI c fl s dn) (L:List DeviceS) (hL:L.Sublist fl) (hl:(L.length:Int) < 20):
 ∃ Z,ph L.length (fun r:List DeviceS=>r.length) (fH L (fun y0 y1=>cX y0 y1 s))=some Z∧ph L.length (fun r:List DeviceS=>r.length) (fU L (fun y0 y1=>ra y0 y1 c))=some Z∧Z.Perm L:=by
 have hm:∀ a∈L,a∈fl:=fun a ha=>hL.subset ha
 obtain ⟨Z,z1,z2,z3⟩:=zi (fun y0 y1=>cX y0 y1 s) (dO c) L (by omega) (fun a ha b hb=>Oh hc hf h (hm a ha) (hm b hb)) ((WO c).ord L)
 obtain ⟨Z',y1,y2,y3⟩:=HI (fun y0 y1=>ra y0 y1 c) (wO c) (fun a b=>Lib.compareBytes a.Key b.Key < 0) L hl (fun a ha b hb=>Rb hc hf (hm a ha) (hm b hb)) ((WN c).ord L) (hs.sublist hL)
 have:Z=Z':=C5 z3 (Ra y3) (z2.trans y2.symm) fun a ha b hb hk=>by
  have Pe:=hm a (z2.mem_iff.1 ha)
  have Ar:=hm b (z2.mem_iff.1 hb)
  have vy:=hf.NV
  obtain ⟨i,hi,rfl⟩:=cU Pe
  obtain ⟨j,hj,rfl⟩:=cU Ar
  have:=vo vy i j _ _ (bW hi) (bW hj) hk
  subst this;rfl
 subst this
 exact ⟨Z,Ab (show fH L (fun y0 y1=>cX y0 y1 s)=some Z from z1) z2.length_eq,y1,z2⟩
end Go.Beacon
set_option linter.unusedSectionVars false
namespace Go.Beacon
open Go Go.Eng
theorem xx {α:Type} [DecidableEq α]:∀ {p l:List α},p.Nodup→(∀ x∈p,x∈l)→p.length≤l.length
 | [],l,_,_=>Nat.zero_le _
 | x :: r,l,hn,hs=>by
   have F3:=fb.1 hn
   have hx:=hs x bz
   have h:=xx (p:=r) (l:=l.erase x) F3.2 (fun y hy=>(List.mem_erase_of_ne (fun e=>F3.1 (by rw [← e];exact hy))).2 (hs y (al _ hy)))
   have e:=List.length_erase_of_mem hx
   have hp:=List.length_pos_of_mem hx
   rw [ai];omega
def mG {V:Type} (cmp:V→V→Int):List V→List V→Int
 | [],[]=>0
 | [],_ :: _=>-1
 | _ :: _,[]=>1
 | a :: r,b :: s=>if cmp a b≠0 then cmp a b else mG cmp r s
theorem mM {V:Type} (cmp:V→V→Int) (a b:V) (r s:List V):mG cmp (a :: r) (b :: s)=if cmp a b≠0 then cmp a b else mG cmp r s:=rfl
structure Net (V I:Type) where
 uv:I→V
 size:I→Int
 Oi:V→List I
 cmp:V→V→Int
structure Net.Good {V I:Type} (N:Net V I) (own:List I):Prop where
 neg:∀ a b,N.cmp b a=- N.cmp a b
 zero:∀ a b,N.cmp a b=0→a=b
 tr:∀ a b c,N.cmp a b≤0→N.cmp b c≤0→N.cmp a c≤0
 X5:∀ v,∀ x∈N.Oi v,x∈own
 inj:∀ x∈own,∀ y∈own,N.uv x=N.uv y→x=y
namespace Net
variable {V I:Type} (N:Net V I)
theorem Good.refl {own:List I} (h:N.Good own) (a:V):N.cmp a a=0:=by have:=h.neg a a;omega
theorem Good.Aj {own:List I} (h:N.Good own):∀ l:List V,mG N.cmp l l=0
 | []=>rfl
 | a :: r=>by rw [mM,if_neg (by simpa using h.refl N a)];exact Good.Aj h r
theorem Good.C6 {own:List I} (h:N.Good own):∀ a b:List V,mG N.cmp b a=- mG N.cmp a b
 | [],[]=>rfl
 | [],_ :: _=>rfl
 | _ :: _,[]=>rfl
 | x :: r,y :: s=>by
   rw [mM,mM]
   have e:=h.neg x y
   by_cases c:N.cmp x y=0
   ·rw [if_neg (by omega),if_neg (by omega)];exact Good.C6 h r s
   ·rw [if_pos (by omega),if_pos c,e]
theorem Good.Ak {own:List I} (h:N.Good own):∀ a b:List V,mG N.cmp a b=0→a=b
 | [],[],_=>rfl
 | [],_ :: _,e=>by unfold mG at e;omega
 | _ :: _,[],e=>by unfold mG at e;omega
 | x :: r,y :: s,e=>by
   rw [mM] at e
   by_cases c:N.cmp x y=0
   ·rw [if_neg (by simpa using c)] at e
    rw [h.zero x y c,Good.Ak h r s e]
   ·rw [if_pos c] at e;exact absurd e c
theorem Good.FO {own:List I} (h:N.Good own):∀ a b c:List V,mG N.cmp a b≤0→mG N.cmp b c≤0→mG N.cmp a c≤0
 | [],[],_,_,h2=>h2
 | [],_ :: _,[],_,h2=>by unfold mG at h2;omega
 | [],_ :: _,_ :: _,_,_=>by unfold mG;omega
 | _ :: _,[],_,h1,_=>by unfold mG at h1;omega
 | _ :: _,_ :: _,[],_,h2=>by unfold mG at h2;omega
 | x :: r,y :: s,z :: t,h1,h2=>by
   rw [mM] at h1 h2 ⊢
   have e1:=h.neg x y
   have e2:=h.neg y z
   by_cases c1:N.cmp x y=0
   ·obtain rfl:=h.zero x y c1
    rw [if_neg (by simpa using c1)] at h1
    by_cases c2:N.cmp x z=0
    ·rw [if_neg (by simpa using c2)] at h2 ⊢
     exact Good.FO h r s t h1 h2
    ·rw [if_pos c2] at h2 ⊢;exact h2
   ·rw [if_pos c1] at h1
    have h4:N.cmp y z≤0:=by
     by_cases c2:N.cmp y z=0
     ·omega
     ·rw [if_pos c2] at h2;exact h2
    have h3:=h.tr x y z h1 h4
    have h5:N.cmp x z≠0:=fun e=>by
     obtain rfl:=h.zero x z e
     have:=h.neg x y
     omega
    rw [if_pos h5];exact h3
theorem HJ (cmp:V→V→Int):∀ (a b:List V) (c d:List V),a.length=b.length→mG cmp (a++c) (b++d)=if mG cmp a b≠0 then mG cmp a b else mG cmp c d
 | [],[],c,d,_=>by simp [mG]
 | x :: r,y :: s,c,d,hl=>by
   rw [d5,d5,mM,mM]
   by_cases h:cmp x y=0
   ·have hn:¬ cmp x y≠0:=by simpa using h
    simp only [if_neg hn]
    exact HJ cmp r s c d (by simpa using hl)
   ·simp only [if_pos h]
 | [],_ :: _,_,_,h=>by simp at h
 | _ :: _,[],_,_,h=>by simp at h
def chain:V→List I→Prop
 | _,[]=>True
 | v,x :: r=>x∈N.Oi v∧chain (N.uv x) r
def fin:V→List I→V
 | v,[]=>v
 | _,x :: r=>fin (N.uv x) r
def A1:List I→Int
 | []=>0
 | x :: r=>N.size x+A1 r
def ji (v:V) (p:List I) (w:V):Prop:=N.chain v p∧N.fin v p=w
theorem ji.cons {v w:V} {x:I} {r:List I}:N.ji v (x :: r) w↔x∈N.Oi v∧N.ji (N.uv x) r w:=by
 show (x∈N.Oi v∧N.chain (N.uv x) r)∧N.fin (N.uv x) r=w↔x∈N.Oi v∧(N.chain (N.uv x) r∧N.fin (N.uv x) r=w)
 exact and_assoc
theorem ji.nil {v w:V}:N.ji v [] w↔v=w:=by unfold ji chain fin;simp
theorem ji.snoc {x:I}:∀ {p:List I} {v w:V},N.ji v (p++[x]) w↔N.uv x=w∧∃ u,N.ji v p u∧x∈N.Oi u
 | [],v,w=>by
   rw [d2,ji.cons,ji.nil]
   constructor
   ·intro h;exact ⟨h.2,v,(ji.nil N).2 rfl,h.1⟩
   ·rintro ⟨h,u,h1,h2⟩;rw [ji.nil] at h1;subst h1;exact ⟨h2,h⟩
 | y :: r,v,w=>by
   rw [d5,ji.cons,ji.snoc]
   constructor
   ·rintro ⟨h1,h2,u,h3,h4⟩;exact ⟨h2,u,(ji.cons N).2 ⟨h1,h3⟩,h4⟩
   ·rintro ⟨h2,u,h3,h4⟩;rw [ji.cons] at h3;exact ⟨h3.1,h2,u,h3.2,h4⟩
theorem zD (x:I) (r:List I):N.A1 (x :: r)=N.size x+N.A1 r:=rfl
theorem C7 (x:I):∀ p:List I,N.A1 (p++[x])=N.A1 p+N.size x
 | []=>by simp [A1]
 | y :: r=>by rw [d5,A1,A1,C7 x r];omega
def Le (p q:List I):Prop:=p.length < q.length∨(p.length=q.length∧(N.A1 p < N.A1 q∨(N.A1 p=N.A1 q∧mG N.cmp (p.map N.uv) (q.map N.uv)≤0)))
def Br (v w:V) (p:List I):Prop:=N.ji v p w∧∀ q,N.ji v q w→N.Le p q
theorem Br.unique {own:List I} (h:N.Good own) {v w:V} {p q:List I} (hp:N.Br v w p) (hq:N.Br v w q):p.map N.uv=q.map N.uv:=by
 have h1:=hp.2 q hq.1
 have h2:=hq.2 p hp.1
 have e:=h.C6 N (p.map N.uv) (q.map N.uv)
 refine h.Ak N _ _ ?_
 unfold Le at h1 h2
 omega
def sg (a b:Int×Int):Prop:=a.1 < b.1∨(a.1=b.1∧a.2≤b.2)
variable [DecidableEq V] [DecidableEq I]
structure vI (own:List I) (to:V) (c:V→Option (Int×Int)):Prop where
 HK:c to=some (0,0)
 sound:∀ v k,c v=some k→∃ p,N.ji v p to∧(p.length:Int)=k.1∧N.A1 p=k.2
 closed:∀ x∈own,∀ y∈N.Oi (N.uv x),∀ k,c (N.uv y)=some k→∃ k',c (N.uv x)=some k'∧sg k' (k.1+1,k.2+N.size y)
variable {N}
theorem vI.low {own:List I} {to:V} {c:V→Option (Int×Int)} (h:N.Good own) (C:N.vI own to c):∀ (p:List I) (v:V),(v=to∨∃ x∈own,N.uv x=v)→N.ji v p to→∃ k,c v=some k∧sg k (p.length,N.A1 p)
 | [],v,_,hw=>by
   rw [ji.nil] at hw;subst hw
   exact ⟨_,C.HK,.inr ⟨rfl,bU _⟩⟩
 | x :: r,v,hv,hw=>by
   rw [ji.cons] at hw
   have hx:=h.X5 v x hw.1
   obtain ⟨k,h1,h2⟩:=vI.low h C r (N.uv x) (.inr ⟨x,hx,rfl⟩) hw.2
   rcases hv with rfl | ⟨z,hz,rfl⟩
   ·refine ⟨_,C.HK,?_⟩
    left;simp only [ai];omega
   ·obtain ⟨k',h3,h4⟩:=C.closed z hz x hw.1 k h1
    refine ⟨k',h3,?_⟩
    rw [zD]
    unfold sg at *
    simp only [ai] at *
    omega
inductive mx (N:Net V I) (c:V→Option (Int×Int)) (to:V):V→List I→Prop
 | nil:mx N c to to []
 | cons {v:V} {x:I} {r:List I} {k:Int×Int} (hv:v≠to) (hx:x∈N.Oi v) (hk:c (N.uv x)=some k)
  (hb:∀ y∈N.Oi v,∀ k',c (N.uv y)=some k'→k.1 < k'.1∨(k.1=k'.1∧(k.2+N.size x < k'.2+N.size y∨(k.2+N.size x=k'.2+N.size y∧N.cmp (N.uv x) (N.uv y)≤0))))
  (hr:mx N c to (N.uv x) r):mx N c to v (x :: r)
theorem mx.yy {own:List I} {to:V} {c:V→Option (Int×Int)} (h:N.Good own) (C:N.vI own to c):∀ {p:List I} {v:V},mx N c to v p→N.Br v to p∧((v=to∨∃ x∈own,N.uv x=v)→c v=some ((p.length:Int),N.A1 p))
 | [],v,hg=>by
   cases hg
   refine ⟨⟨(ji.nil N).2 rfl,fun q hq=>?_⟩,fun _=>C.HK⟩
   unfold Le
   cases q with
   | nil=>right;refine ⟨rfl,.inr ⟨rfl,by simp [mG]⟩⟩
   | cons y s=>left;simp
 | x :: r,v,hg=>by
   cases hg with
   | @cons _ _ _ k hv hx hk hb hr=>
   obtain ⟨Bv,PZ⟩:=mx.yy h C hr
   have Ul:=h.X5 v x hx
   have hc:=PZ (.inr ⟨x,Ul,rfl⟩)
   rw [hk] at hc
   obtain rfl:=ac hc
   have Oj:N.Br v to (x :: r):=by
    refine ⟨(ji.cons N).2 ⟨hx,Bv.1⟩,fun q hq=>?_⟩
    cases q with
    | nil=>exact absurd ((ji.nil N).1 hq) hv
    | cons y s=>
      rw [ji.cons] at hq
      have U3:=h.X5 v y hq.1
      obtain ⟨k',h1,h2⟩:=C.low h s (N.uv y) (.inr ⟨y,U3,rfl⟩) hq.2
      have h3:=hb y hq.1 k' h1
      have key:r.length < s.length∨(r.length=s.length∧(N.A1 r+N.size x < N.A1 s+N.size y∨(N.A1 r+N.size x=N.A1 s+N.size y∧N.cmp (N.uv x) (N.uv y)≤0))):=by
       unfold sg at h2
       simp only at h2 h3
       omega
      unfold Le
      simp only [ai,zD,bX]
      rcases key with k1 | ⟨k1,k2 | ⟨k2,k3⟩⟩
      ·left;omega
      ·right;exact ⟨by omega,.inl (by omega)⟩
      ·right
       refine ⟨by omega,?_⟩
       by_cases k4:N.cmp (N.uv x) (N.uv y)=0
       ·have exy:=h.inj x Ul y U3 (h.zero _ _ k4)
        subst exy
        have hle:=Bv.2 s hq.2
        unfold Le at hle
        rw [mM,if_neg (by simpa using k4)]
        omega
       ·rw [mM,if_pos k4]
        right;exact ⟨by omega,k3⟩
   refine ⟨Oj,fun Yq=>?_⟩
   obtain ⟨k',h1,h2⟩:=C.low h (x :: r) v Yq Oj.1
   obtain ⟨p,h3,h4,h5⟩:=C.sound v k' h1
   have h6:=Oj.2 p h3
   rw [h1]
   unfold Le at h6
   unfold sg at h2
   simp only at h2
   refine congrArg some (Prod.ext ?_ ?_)<;>simp only<;>omega
theorem mx.nodup {own:List I} {to:V} {c:V→Option (Int×Int)} (h:N.Good own) (C:N.vI own to c):∀ {p:List I} {v:V},mx N c to v p→p.Nodup∧(∀ x∈p,x∈own∧∃ k,c (N.uv x)=some k∧k.1 < p.length)
 | [],v,_=>⟨List.nodup_nil,fun x hx=>(by cases hx)⟩
 | x :: r,v,hg=>by
   cases hg with
   | @cons _ _ _ k hv hx hk hb hr=>
   obtain ⟨h1,h2⟩:=mx.nodup h C hr
   have Ul:=h.X5 v x hx
   have hc:=(mx.yy h C hr).2 (.inr ⟨x,Ul,rfl⟩)
   refine ⟨fb.2 ⟨fun hm=>?_,h1⟩,fun y hy=>?_⟩
   ·obtain ⟨_,k',h3,h4⟩:=h2 x hm
    rw [hc] at h3;obtain rfl:=ac h3
    simp only at h4;omega
   ·rcases af.1 hy with rfl | hy
    ·exact ⟨Ul,_,hc,by simp only [ai];omega⟩
    ·obtain ⟨h3,k',h4,h5⟩:=h2 y hy
     exact ⟨h3,k',h4,by simp only [ai];omega⟩
theorem mx.len {own:List I} {to:V} {c:V→Option (Int×Int)} (h:N.Good own) (C:N.vI own to c) {p:List I} {v:V} (hg:mx N c to v p):p.length≤own.length:=
 xx (mx.nodup h C hg).1 fun x hx=>((mx.nodup h C hg).2 x hx).1
structure Level (N:Net V I) (src:V) (k:Nat) (B:V→Option (List V×Int)):Prop where
 sound:∀ v t,B v=some t→∃ p,N.ji src p v∧p.length=k∧t.1=p.map N.uv∧t.2=N.A1 p
 yy:∀ v p,N.ji src p v→p.length=k→∃ t,B v=some t∧(t.2 < N.A1 p∨(t.2=N.A1 p∧mG N.cmp t.1 (p.map N.uv)≤0))
theorem Level.zero (src:V) (B:V→Option (List V×Int)) (h:∀ v,B v=if v=src then some ([],0) else none):N.Level src 0 B:=by
 refine ⟨fun v t ht=>?_,fun v p hp hl=>?_⟩
 ·rw [h] at ht
  split at ht
  ·rename_i e
   obtain rfl:=ac ht
   exact ⟨[],(ji.nil N).2 e.symm,rfl,rfl,rfl⟩
  ·cases ht
 ·obtain rfl:=eX.1 hl
  rw [ji.nil] at hp
  refine ⟨([],0),by rw [h,if_pos hp.symm],.inr ⟨rfl,by simp [mG]⟩⟩
theorem Level.next {own:List I} (h:N.Good own) {src:V} {k:Nat} {B D:V→Option (List V×Int)} (L:N.Level src k B)
 (hs:∀ v t,D v=some t→∃ u s x,B u=some s∧x∈N.Oi u∧N.uv x=v∧t=(s.1++[N.uv x],s.2+N.size x))
 (hb:∀ u s x,B u=some s→x∈N.Oi u→∃ t,D (N.uv x)=some t∧(t.2 < s.2+N.size x∨(t.2=s.2+N.size x∧mG N.cmp t.1 (s.1++[N.uv x])≤0))):N.Level src (k+1) D:=by
 refine ⟨fun v t ht=>?_,fun v p hp hl=>?_⟩
 ·obtain ⟨u,s,x,h1,h2,h3,rfl⟩:=hs v t ht
  obtain ⟨p,h4,h5,h6,h7⟩:=L.sound u s h1
  refine ⟨p++[x],(ji.snoc N).2 ⟨h3,u,h4,h2⟩,by simp [h5],by simp [h6],?_⟩
  rw [C7];simp only;omega
 ·rcases e9 p with rfl | ⟨q,x,rfl⟩
  ·simp at hl
  ·rw [hY] at *
   obtain ⟨h1,u,h2,h3⟩:=(ji.snoc N).1 hp
   subst h1
   have hq:q.length=k:=by simpa using hl
   obtain ⟨s,h4,h5⟩:=L.yy u q h2 hq
   obtain ⟨q',h8,h9,h10,h11⟩:=L.sound u s h4
   obtain ⟨t,h6,h7⟩:=hb u s x h4 h3
   refine ⟨t,h6,?_⟩
   rw [C7,fc]
   rcases h7 with h7 | ⟨h7,h12⟩
   ·left;omega
   ·rcases h5 with h5 | ⟨h5,h13⟩
    ·left;omega
    ·right
     refine ⟨by omega,h.FO N _ _ _ h12 ?_⟩
     rw [HJ N.cmp _ _ _ _ (by rw [h10,ce,ce];omega)]
     split
     ·exact h13
     ·rw [bX,List.map_nil,h.Aj N];exact bU _
end Net
theorem xy {a b:Version} (h:dL a b=0):a=b:=by
 unfold dL at h
 rw [Wv,TX] at h
 obtain ⟨a1,a2,a3⟩:=a
 obtain ⟨b1,b2,b3⟩:=b
 simp only at h
 by_cases c1:dD a1 b1=0
 ·rw [if_neg (show ¬ dD a1 b1≠0 from fun k=>k c1)] at h
  by_cases c2:dD a2 b2=0
  ·rw [if_neg (show ¬ dD a2 b2≠0 from fun k=>k c2)] at h
   rw [xn c1,xn c2,xn h]
  ·rw [if_pos c2] at h;exact absurd h c2
 ·rw [if_pos c1,if_pos c1] at h;exact absurd h c1
theorem C8 {a b c:Version} (h1:dL a b≤0) (h2:dL b c≤0):dL a c≤0:=by
 by_cases c1:dL a b=0
 ·rw [xy c1];exact h2
 ·by_cases c2:dL b c=0
  ·rw [← xy c2];exact h1
  ·exact ic (FA.tr (a:=a) (b:=b) (d:=c) (by omega) (by omega))
instance:Ac Version where
 Lq a:=by
  show (decide (a.ax < a.ax)||(decide (a.ax=a.ax)&&(decide (a.aA < a.aA)||(decide (a.aA=a.aA)&&(decide (a.aC < a.aC)||(decide (a.aC=a.aC)&&false))))))=false
  simp
 tr {a b c} h1 h2:=by
  have h1:(decide (a.ax < b.ax)||(decide (a.ax=b.ax)&&(decide (a.aA < b.aA)||(decide (a.aA=b.aA)&&(decide (a.aC < b.aC)||(decide (a.aC=b.aC)&&false))))))=true:=h1
  have h2:(decide (b.ax < c.ax)||(decide (b.ax=c.ax)&&(decide (b.aA < c.aA)||(decide (b.aA=c.aA)&&(decide (b.aC < c.aC)||(decide (b.aC=c.aC)&&false))))))=true:=h2
  show (decide (a.ax < c.ax)||(decide (a.ax=c.ax)&&(decide (a.aA < c.aA)||(decide (a.aA=c.aA)&&(decide (a.aC < c.aC)||(decide (a.aC=c.aC)&&false))))))=true
  simp at *;omega
 UY a b:=by
  show (decide (a.ax < b.ax)||(decide (a.ax=b.ax)&&(decide (a.aA < b.aA)||(decide (a.aA=b.aA)&&(decide (a.aC < b.aC)||(decide (a.aC=b.aC)&&false))))))=true∨a=b∨(decide (b.ax < a.ax)||(decide (b.ax=a.ax)&&(decide (b.aA < a.aA)||(decide (b.aA=a.aA)&&(decide (b.aC < a.aC)||(decide (b.aC=a.aC)&&false))))))=true
  obtain ⟨a1,a2,a3⟩:=a
  obtain ⟨b1,b2,b3⟩:=b
  simp;omega
theorem Ol (L:List bq) (m:bq) (hl:L.length≤10000000):bL L m=some (decide (m∈L)):=by
 unfold bL eV
 have key:∀ (k:Nat) (n:Int),0≤n→n+k=L.length→∃ j,cL L m n=some j∧(0≤j↔m∈L.drop n.toNat):=by
  intro k
  induction k with
  | zero=>
    intro n h0 hn
    refine ⟨-1,?_,?_⟩
    ·unfold cL
     rw [iter_eq,cu,if_neg (by omega),aW]
    ·rw [cc (by omega)];simp
  | succ k ih=>
    intro n h0 hn
    obtain ⟨s,hs,_,hd⟩:=fe L h0 (by omega)
    unfold cL
    rw [iter_eq,cu,if_pos (by omega),hs]
    simp only [aa]
    by_cases e:m=s
    ·rw [if_pos e,aW]
     exact ⟨n,rfl,by rw [hd,← e];simp;omega⟩
    ·rw [if_neg e,bc (by omega) (by omega)]
     simp only [aa,bh]
     obtain ⟨j,h1,h2⟩:=ih (n+1) (by omega) (by omega)
     exact ⟨j,h1,by rw [h2,hd];simp [e]⟩
 obtain ⟨j,h1,h2⟩:=key L.length 0 (by omega) (by omega)
 rw [h1]
 simp only [aa,Option.some.injEq]
 rw [decide_eq_decide,h2];simp
def DJ (m:bq) (x:ar):Bool:=decide (m∈x.jU)
def LM (v:Version) (x:ar):Bool:=x.cr.any (wW v)
def eu (l:List ar) (m:bq) (v:Version):List ar:=l.filter (fun x=>DJ m x&&LM v x)
def fX (l:List ar) (m:bq):List ar:=l.filter (DJ m)
theorem Om (l:List ar) (m:bq) (v:Version):eu (fX l m) m v=eu l m v:=by
 unfold eu fX
 rw [List.filter_filter]
 congr 1
 funext x
 cases DJ m x<;>simp
theorem FP {x:ar} (hx:Hq x) (m:bq):bL x.jU m=some (DJ m x):=by
 rw [Ol _ _ (by have:=hx.1;omega)];rfl
theorem KD {x:ar} (hx:Hq x) (v:Version):Ae x v=some (LM v x):=Hp x v (by have:=hx.2;omega)
theorem KE {x:ar} (hx:Hq x) (v:Version):jd x v=some (LM v x):=by rw [Kj,KD hx]
theorem HL (l:List ar) (m:bq) (v:Version) (hx:∀ x∈l,Hq x) (hn:l.length≤1000):j4 l m v=some (eu l m v):=by
 unfold j4 tG
 have h:=nA l (fun (s:List ar) (i:Int)=>(s,i)) (fun x:(List ar)×Int=>eC l m v x.1 x.2) (fun acc x=>if (DJ m x&&LM v x)=true then acc++[x] else acc) (fun i s=>(s.length:Int)≤i) (fun s=>some s)
  (fun s i x h0 h1 hi hv=>by
   have hb:=hx x (vf hi)
   have w1:bA (i+1)=i+1:=bc (by omega) (by omega)
   show eC l m v s i=_∧_
   unfold eC
   rw [if_pos h1,hi]
   simp only [aa]
   rw [FP hb]
   simp only [aa]
   by_cases c:DJ m x=true
   ·rw [if_pos c,KE hb]
    simp only [aa]
    unfold iU iT
    by_cases d:LM v x=true
    ·rw [if_pos d,mQ (by simp;omega)]
     refine ⟨by simp [w1,c,d],by simp [c,d];omega⟩
    ·rw [if_neg d]
     refine ⟨by simp [w1,c,d],by simp [c,d];omega⟩
   ·rw [if_neg c]
    unfold iU iT
    rw [if_neg (by simp)]
    refine ⟨by simp [w1,c],by simp [c];omega⟩)
  (fun s hv=>by
   show eC l m v s l.length=_
   unfold eC
   rw [if_neg (by omega)]) [] (by simp)
 rw [h,foldl_filter];rfl
def ZI:ar:=⟨⟨0,0,0⟩,[],[],0⟩
theorem Js (f:ar→Option Bool) (p:ar→Bool) (xs:List ar) (hl:(xs.length:Int)≤100000) (hf:∀ x∈xs,f x=some (p x)):mc xs f=some (xs.filter (fun x=>!p x)):=Kd ZI f p xs hl hf
theorem Rc (l:List ar) (m:bq) (v:Version) (hx:∀ x∈l,Hq x) (hn:l.length≤1000):vk l m v=some (eu l m v):=by
 unfold vk
 have hc:ln l=some l:=by
  unfold ln;rw [mQ (by simp;omega)];simp
 rw [hc]
 simp only [aa]
 rw [Js _ (fun x=>!(DJ m x&&LM v x)) l (by omega) (fun x hm=>by
  have hb:=hx x hm
  unfold vH oO
  rw [FP hb]
  simp only [aa]
  by_cases c:DJ m x=true
  ·rw [if_neg (by simp [c]),KD hb]
   simp [c]
  ·rw [if_pos (by simpa using c)]
   simp [c])]
 simp only [aa,g9]
 rfl
structure KF (x:ar):Prop where
 uv:kq x.Version=true
 size:1≤x.ec∧x.ec≤1000000000
 WT:∀ r∈x.cr,(kq r.xM=true∧kq r.oq=true)∧dL r.xM r.oq≤0
def eG (l:List ar):Prop:=(∀ x∈l,KF x)∧l.Pairwise (fun a b=>dL a.Version b.Version < 0)
theorem LN (x:ar) (hx:Hq x):Ok (eU x) (fun r=>r=0→∀ r∈x.cr,(kq r.xM=true∧kq r.oq=true)∧dL r.xM r.oq≤0):=by
 have hl:=hx.2
 unfold eU
 rw [if_neg (by omega)]
 unfold iQ
 refine Ok.Oe x.cr.length (fun i=>∀ r∈x.cr.take i.toNat,(kq r.xM=true∧kq r.oq=true)∧dL r.xM r.oq≤0) (by simp) (fun i h0 h1 hi=>?_)
 unfold cO
 have w1:bA (i+1)=i+1:=bc (by omega) (by omega)
 have w2:bA (i - 1)=i - 1:=bc (by omega) (by omega)
 split
 ·refine Ok.idx h0 (by assumption) (fun r hr hm=>?_)
  rw [gp,gp,ny]
  have bad:∀ c,c=true→Ok (cN x i r c) (Q8 x.cr.length (fun i=>∀ r∈x.cr.take i.toNat,(kq r.xM=true∧kq r.oq=true)∧dL r.xM r.oq≤0) (fun a=>a=0→∀ r∈x.cr,(kq r.xM=true∧kq r.oq=true)∧dL r.xM r.oq≤0) i):=by
   intro c hc
   unfold cN
   rw [if_pos hc]
   exact Ok.inr (Ok.ret (fun h=>by cases h))
  by_cases c1:kq r.xM=true
  ·rw [if_neg (by simp [c1])]
   by_cases c2:kq r.oq=true
   ·rw [if_neg (by simp [c2])]
    simp only [aa]
    by_cases c3:0 < dL r.xM r.oq
    ·exact bad _ (by simp [c3])
    ·unfold cN dH
     rw [if_neg (by simpa using c3)]
     have go:i < x.cr.length∧∀ q∈x.cr.take (i+1).toNat,(kq q.xM=true∧kq q.oq=true)∧dL q.xM q.oq≤0:=by
      refine ⟨by assumption,fun q hq=>?_⟩
      rw [take_succ h0 hr,a8,be] at hq
      rcases hq with hq | rfl
      ·exact hi q hq
      ·exact ⟨⟨c1,c2⟩,by omega⟩
     split
     ·rw [w2]
      refine Ok.idx (by omega) (by omega) (fun q hq Pn=>?_)
      rw [ny]
      simp only [aa]
      split
      ·exact Ok.inr (Ok.ret (fun h=>by cases h))
      ·exact Ok.ret ⟨w1,go⟩
     ·rw [if_neg (by simp)];exact Ok.ret ⟨w1,go⟩
   ·rw [if_pos (by simpa using c2)];exact bad true rfl
  ·rw [if_pos (by simpa using c1)];exact bad true rfl
 ·refine Ok.inr ?_
  unfold gh
  rw [KE hx]
  simp only [aa]
  have Sx:∀ r∈x.cr,(kq r.xM=true∧kq r.oq=true)∧dL r.xM r.oq≤0:=by
   have e:x.cr.take i.toNat=x.cr:=cv (by omega)
   rw [e] at hi;exact hi
  split
  ·exact Ok.ret (fun _=>Sx)
  ·exact Ok.ret (fun _=>Sx)
theorem Re {l:List ar} {x:ar} (h:l.Pairwise (fun a b=>dL a.Version b.Version < 0)) (hx:∀ y,l.getLast? =some y→dL y.Version x.Version < 0):(l++[x]).Pairwise (fun a b=>dL a.Version b.Version < 0):=by
 rw [ca]
 refine ⟨h,by simp,fun a ha b hb=>?_⟩
 obtain rfl:=be.1 hb
 rcases e9 l with rfl | ⟨r,y,rfl⟩
 ·cases ha
 ·rw [hY] at *
  have hy:=hx y (by simp)
  rcases a8.1 ha with ha | ha
  ·rw [ca] at h
   exact FA.tr (h.2.2 a ha y (by simp)) hy
  ·rw [be.1 ha];exact hy
theorem LO {α:Type} {xs:List α} {i:Int} {x:α} (h0:0 < i) (h:idx xs (i - 1)=some x):(xs.take i.toNat).getLast? =some x:=by
 have:=take_succ (by omega) h
 rw [show i - 1+1=i by omega] at this
 rw [this];simp
def KG (xs:List ar) (i:Int):Prop:=(∀ x∈xs.take i.toNat,KF x)∧(xs.take i.toNat).Pairwise (fun a b=>dL a.Version b.Version < 0)
theorem LP (xs:List ar) (hx:me xs):Ok (cK xs) (fun r=>r=0→eG xs):=by
 have hl:=hx.1
 unfold cK
 rw [if_neg (by omega)]
 unfold lH
 refine Ok.Oe xs.length (KG xs) ⟨by simp,by simp⟩ (fun i h0 h1 hi=>?_)
 have w1:bA (i+1)=i+1:=bc (by omega) (by omega)
 have w2:bA (i - 1)=i - 1:=bc (by omega) (by omega)
 unfold eI
 split
 ·rename_i rP
  refine Ok.idx h0 rP (fun x GM hm=>?_)
  have hb:=hx.2 x hm
  rw [gp]
  have j1:∀ (c:Bool),kq x.Version=true→(c=false→∀ y,(xs.take i.toNat).getLast? =some y→dL y.Version x.Version < 0)→Ok (db i x c) (Q8 xs.length (KG xs) (fun r=>r=0→eG xs) i):=by
   intro c hv hc
   unfold db
   have hm:=hb.1
   split
   ·exact Ok.inr (Ok.ret (fun h=>by cases h))
   ·rename_i hcf
    have hc:=hc (by simpa using hcf)
    split
    ·exact Ok.inr (Ok.ret (fun h=>by cases h))
    ·split
     ·exact Ok.inr (Ok.ret (fun h=>by cases h))
     ·unfold iR
      refine Ok.range x.jU.length (fun k k0 k1=>?_)
      have v1:bA (k+1)=k+1:=bc (by omega) (by omega)
      have v2:bA (k - 1)=k - 1:=bc (by omega) (by omega)
      unfold bV
      split
      ·rename_i JP
       refine Ok.idx k0 JP (fun m hkm Ix=>?_)
       have e:jX m=some (mw m):=qG _
       rw [e]
       simp only [aa]
       split
       ·exact Ok.inr (Ok.inr (Ok.ret (fun h=>by cases h)))
       ·split
        ·rw [v2]
         refine Ok.idx (by omega) (by omega) (fun q hq Pn=>?_)
         unfold cE
         split
         ·exact Ok.inr (Ok.inr (Ok.ret (fun h=>by cases h)))
         ·exact Ok.ret ⟨v1,JP⟩
        ·unfold cE
         rw [if_neg (by simp)]
         exact Ok.ret ⟨v1,JP⟩
      ·refine Ok.inr ?_
       unfold gi
       refine Ok.bind (LN x hb) (fun r hr=>?_)
       split
       ·rename_i Aq
        exact Ok.inr (Ok.ret (fun h=>absurd h Aq))
       ·rename_i hz
        have hr:=hr (by simpa using hz)
        rw [rZ]
        split
        ·exact Ok.inr (Ok.ret (fun h=>by cases h))
        ·rename_i hs
         have ok:KF x:=⟨hv,by simpa using hs,hr⟩
         refine Ok.ret ⟨w1,rP,?_⟩
         unfold KG
         rw [take_succ h0 GM]
         refine ⟨fun y hy=>?_,Re hi.2 hc⟩
         rcases a8.1 hy with hy | hy
         ·exact hi.1 y hy
         ·rw [be.1 hy];exact ok
  split
  ·exact Ok.inr (Ok.ret (fun h=>by cases h))
  ·rename_i hv
   have hv:kq x.Version=true:=by simpa using hv
   split
   ·rw [w2]
    refine Ok.idx (by omega) (by omega) (fun q hq Pn=>?_)
    rw [ny]
    simp only [aa]
    refine j1 _ hv (fun hc y hy=>?_)
    rw [LO (by assumption) hq] at hy
    obtain rfl:=ac hy
    have:=uU x.Version q.Version
    simp at hc;omega
   ·refine j1 false hv (fun _ y hy=>?_)
    have:i=0:=by omega
    subst this
    simp at hy
 ·refine Ok.inr (Ok.ret (fun _=>?_))
  have e:xs.take i.toNat=xs:=cv (by omega)
  unfold KG at hi
  rw [e] at hi;exact hi
abbrev CM:=List (Version×ak)
def xZ (l:List ar) (m:bq):Net Version ar:=⟨ar.Version,ar.ec,eu l m,dL⟩
theorem On:∀ {l:List ar},l.Pairwise (fun a b=>dL a.Version b.Version < 0)→∀ x∈l,∀ y∈l,x.Version=y.Version→x=y
 | [],_,x,hx,_,_,_=>(by cases hx)
 | z :: r,h,x,hx,y,hy,e=>by
   have h':=bk.1 h
   have no:∀ w∈r,z.Version≠w.Version:=fun w hw e=>by
    have:=h'.1 w hw
    rw [e,FA.zero] at this;omega
   rcases af.1 hx with h1 | h1
   ·rcases af.1 hy with h2 | h2
    ·rw [h1,h2]
    ·rw [h1] at e;exact absurd e (no y h2)
   ·rcases af.1 hy with h2 | h2
    ·rw [h2] at e;exact absurd e.symm (no x h1)
    ·exact On h'.2 x h1 y h2 e
theorem re {l:List ar} {m:bq} {x:ar} (h:x∈fX l m):x∈l:=(a6.1 h).1
theorem oD {l:List ar} {m:bq} {v:Version} {x:ar} (h:x∈eu l m v):x∈fX l m:=by
 unfold eu at h
 rw [a6,ad] at h
 exact a6.2 ⟨h.1,h.2.1⟩
theorem xc {l:List ar} {m:bq} (h:eG l):(xZ l m).Good (fX l m):=
 ⟨fun a b=>uU a b,fun a b=>xy,fun a b c=>C8,fun v x hx=>oD hx,fun x hx y hy e=>On h.2 x (re hx) y (re hy) e⟩
theorem xd {l:List ar} {m:bq}:∀ {p:List ar} {v w:Version},(xZ l m).ji v p w→∀ x∈p,x∈fX l m
 | [],_,_,_,x,hx=>(by cases hx)
 | y :: r,v,w,h,x,hx=>by
   rw [Net.ji.cons] at h
   rcases af.1 hx with rfl | hx
   ·exact oD h.1
   ·exact xd h.2 x hx
theorem Jt {l:List ar} {m:bq} (dW:∀ x∈l,KF x):∀ {p:List ar},(∀ x∈p,x∈fX l m)→0≤(xZ l m).A1 p∧(xZ l m).A1 p≤1000000000 * p.length
 | [],_=>by simp [Net.A1]
 | y :: r,h=>by
   have h1:=(dW y (re (h y bz))).size
   have h2:=Jt dW (p:=r) (fun x hx=>h x (al _ hx))
   rw [Net.zD]
   show 0≤y.ec+_∧y.ec+_≤_
   simp only [ai]
   omega
def DK (M:CM) (v:Version):Option (Int×Int):=(bj M v).map (fun c=>(c.bR,c.bK))
def lu (a b:Int×Int):Prop:=a.1 < b.1∨(a.1=b.1∧a.2 < b.2)
instance (a b:Int×Int):Decidable (lu a b):=by unfold lu;exact inferInstance
abbrev RS:=Bool×Int×Int×Bool
def RS.c (s:RS):Int×Int:=(s.2.1,s.2.2.1)
def Ga (M:CM) (s:RS) (y:ar):RS:=
 match bj M y.Version with
 | none=>s
 | some c=>if s.2.2.2=false∨lu (c.bR+1,c.bK+y.ec) s.c then (true,c.bR+1,c.bK+y.ec,true) else s
theorem EF (a b:ak):je a b=some (sx [dD a.bR b.bR,dD a.bK b.bK]):=by
 unfold je
 rw [iO,iO]
 have h:jY [dD a.bR b.bR,dD a.bK b.bK]=some (sx [dD a.bR b.bR,dD a.bK b.bK]):=zY _ (by simp)
 rw [h];rfl
theorem EG (a b c d:Int):decide (sx [dD a c,dD b d] < 0)=decide (lu (a,b) (c,d)):=by
 rw [decide_eq_decide]
 unfold lu dD
 simp only [sx]
 repeat' split
 all_goals omega
structure WU (M:CM) (ys:List ar) (s r:RS):Prop where
 lz:s.2.2.2=true→r.2.2.2=true∧Net.sg r.c s.c
 all:∀ y∈ys,∀ c,bj M y.Version=some c→r.2.2.2=true∧Net.sg r.c (c.bR+1,c.bK+y.ec)
 one:r=s∨(r.1=true∧r.2.2.2=true∧(∃ y∈ys,∃ c,bj M y.Version=some c∧r.c=(c.bR+1,c.bK+y.ec))∧(s.2.2.2=false∨lu r.c s.c))
theorem HM (M:CM):∀ (ys:List ar) (s:RS),WU M ys s (ys.foldl (Ga M) s)
 | [],s=>⟨fun h=>⟨h,.inr ⟨rfl,bU _⟩⟩,fun y hy=>(by cases hy),.inl rfl⟩
 | y :: r,s=>by
   rw [aw]
   have ih:=HM M r (Ga M s y)
   generalize hR:r.foldl (Ga M) (Ga M s y)=R at ih
   cases hg:bj M y.Version with
   | none=>
     have e:Ga M s y=s:=by unfold Ga;rw [hg]
     rw [e] at ih
     refine ⟨ih.lz,fun z hz c hc=>?_,?_⟩
     ·rcases af.1 hz with rfl | hz
      ·rw [hg] at hc;cases hc
      ·exact ih.all z hz c hc
     ·rcases ih.one with h | ⟨h1,h2,⟨z,hz,c,h3⟩,h4⟩
      ·exact .inl h
      ·exact .inr ⟨h1,h2,⟨z,al _ hz,c,h3⟩,h4⟩
   | some c=>
     by_cases hc:s.2.2.2=false∨lu (c.bR+1,c.bK+y.ec) s.c
     ·have e:Ga M s y=(true,c.bR+1,c.bK+y.ec,true):=by unfold Ga;rw [hg];simp only;rw [if_pos hc]
      rw [e] at ih
      have k:=ih.lz rfl
      have kc:RS.c (true,c.bR+1,c.bK+y.ec,true)=(c.bR+1,c.bK+y.ec):=rfl
      rw [kc] at k
      refine ⟨fun hs=>⟨k.1,?_⟩,fun z hz c' uZ=>?_,?_⟩
      ·rcases hc with hc | hc
       ·rw [hs] at hc;cases hc
       ·have k2:=k.2
        unfold Net.sg at *;unfold lu at hc;omega
      ·rcases af.1 hz with rfl | hz
       ·rw [hg] at uZ;obtain rfl:=ac uZ;exact k
       ·exact ih.all z hz c' uZ
      ·right
       rcases ih.one with h | ⟨h1,h2,⟨z,hz,c',h3,h5⟩,h4⟩
       ·subst h
        exact ⟨rfl,rfl,⟨y,bz,c,hg,rfl⟩,hc⟩
       ·refine ⟨h1,h2,⟨z,al _ hz,c',h3,h5⟩,?_⟩
        rcases hc with hc | hc
        ·exact .inl hc
        ·right
         have k2:=k.2
         unfold Net.sg at k2;unfold lu at *;omega
     ·have e:Ga M s y=s:=by unfold Ga;rw [hg];simp only;rw [if_neg hc]
      rw [e] at ih
      rw [not_or] at hc
      have hs:s.2.2.2=true:=by simpa using hc.1
      refine ⟨ih.lz,fun z hz c' uZ=>?_,?_⟩
      ·rcases af.1 hz with rfl | hz
       ·rw [hg] at uZ;obtain rfl:=ac uZ
        have k:=ih.lz hs
        refine ⟨k.1,?_⟩
        have k2:=k.2
        have k3:=hc.2
        unfold lu at k3;unfold Net.sg at *;omega
       ·exact ih.all z hz c' uZ
      ·rcases ih.one with h | ⟨h1,h2,⟨z,hz,c',h3⟩,h4⟩
       ·exact .inl h
       ·exact .inr ⟨h1,h2,⟨z,al _ hz,c',h3⟩,h4⟩
structure sD (l:List ar) (m:bq) (to:Version) (M:CM):Prop where
 sm:SM M
 HK:bj M to=some ⟨0,0⟩
 sound:∀ v c,bj M v=some c→∃ p,(xZ l m).ji v p to∧(p.length:Int)=c.bR∧(xZ l m).A1 p=c.bK
 keys:∀ v c,bj M v=some c→v=to∨∃ x∈fX l m,x.Version=v
 X6:∀ v c,bj M v=some c→c.bR+1≤M.length
theorem sD.len {l:List ar} {m:bq} {to:Version} {M:CM} (h:sD l m to M) (hl:l.length≤8):M.length≤9:=by
 have h1:(M.map Prod.fst).length≤(to :: (fX l m).map ar.Version).length:=xx h.sm.nodup (fun v hv=>by
  obtain ⟨e,he,rfl⟩:=ap.1 hv
  rcases h.keys e.1 e.2 (h.sm.BL.2 he) with k | ⟨x,hx,k⟩
  ·rw [k];exact bz
  ·rw [← k];exact al _ (List.mem_map_of_mem hx))
 have h2:(fX l m).length≤l.length:=aS _ _
 simp only [ce,ai] at h1
 omega
theorem sD.bd {l:List ar} {m:bq} {to:Version} {M:CM} (h:sD l m to M) (hl:l.length≤8) (dW:eG l) {v:Version} {c:ak} (hc:bj M v=some c):(0≤c.bR∧c.bR≤8)∧0≤c.bK∧c.bK≤8000000000:=by
 obtain ⟨p,h1,h2,h3⟩:=h.sound v c hc
 have h4:=h.X6 v c hc
 have h5:=h.len hl
 have h6:=Jt dW.1 (xd h1)
 omega
theorem HN (l:List ar) (m:bq) (to:Version) (hl:l.length≤8) (dW:eG l) (M:CM) (hM:sD l m to M) (n37:Int) (h37:0≤n37∧n37≤100) (x:ar) (s:RS) (ys:List ar) (hys:∀ y∈ys,y∈l) (hn:ys.length≤8):
 pr M n37 x ys s.1 s.2.1 s.2.2.1 s.2.2.2 0=some (.inl (if (ys.foldl (Ga M) s).2.2.2=true then dX M x.Version ⟨(ys.foldl (Ga M) s).2.1,(ys.foldl (Ga M) s).2.2.1⟩ else M,(ys.foldl (Ga M) s).1,n37+1)):=by
 unfold pr
 have h:=nA ys (fun (s:RS) (i:Int)=>(s.1,s.2.1,s.2.2.1,s.2.2.2,i)) (fun WV:Bool×Int×Int×Bool×Int=>eD M n37 x ys WV.1 WV.2.1 WV.2.2.1 WV.2.2.2.1 WV.2.2.2.2) (Ga M) (fun _ _=>True) (fun s=>mU M n37 x s.1 s.2.1 s.2.2.1 s.2.2.2)
  (fun s i y h0 h1 hi _=>by
   refine ⟨?_,trivial⟩
   have w1:bA (i+1)=i+1:=bc (by omega) (by omega)
   have hy:=(dW.1 y (hys y (vf hi))).size
   obtain ⟨ag,k,z,is⟩:=s
   show eD M n37 x ys ag k z is i=_
   unfold eD
   rw [if_pos h1,hi]
   simp only [aa]
   unfold sU Ga
   cases hg:bj M y.Version with
   | none=>
     simp only [fd,d6,aa,b8,if_false]
     unfold fI gu
     rw [if_neg (by simp),w1]
   | some c=>
     have hb:=hM.bd hl dW hg
     have v1:bA (c.bR+1)=c.bR+1:=bc (by omega) (by omega)
     have v2:bA (c.bK+y.ec)=c.bK+y.ec:=bc (by omega) (by omega)
     simp only [ci,d7,aa,if_true,v1,v2]
     cases is with
     | false=>
       simp only [fn,if_true,true_or]
       unfold fI gu
       rw [if_pos rfl,v1,v2,w1]
     | true=>
       simp only [fs,b8,if_false,ii,false_or]
       rw [EF]
       simp only [aa]
       rw [EG]
       unfold fI gu
       simp only [v1,v2,w1,RS.c]
       by_cases hc:lu (c.bR+1,c.bK+y.ec) (k,z)
       ·rw [if_pos (by simpa using hc)];simp [hc]
       ·rw [if_neg (by simpa using hc)];simp [hc])
  (fun s _=>by
   show eD M n37 x ys s.1 s.2.1 s.2.2.1 s.2.2.2 ys.length=_
   unfold eD
   rw [if_neg (by omega)]) s trivial
 rw [h]
 unfold mU kR
 rw [bc (by omega) (by omega)]
 split<;>rfl
def A2 (l:List ar) (m:bq) (M:CM) (ag:Bool) (x:ar):RS:=(eu l m x.Version).foldl (Ga M) (ag,((bj M x.Version).getD ⟨0,0⟩).bR,((bj M x.Version).getD ⟨0,0⟩).bK,(bj M x.Version).isSome)
def A3 (l:List ar) (m:bq) (M:CM) (ag:Bool) (x:ar):CM:=if (A2 l m M ag x).2.2.2=true then dX M x.Version ⟨(A2 l m M ag x).2.1,(A2 l m M ag x).2.2.1⟩ else M
def tp (l:List ar) (m:bq) (M:CM) (x:ar):Prop:=∀ y∈eu l m x.Version,∀ k,DK M y.Version=some k→∃ k',DK M x.Version=some k'∧Net.sg k' (k.1+1,k.2+y.ec)
def Down (M M':CM):Prop:=∀ v c,bj M v=some c→∃ c',bj M' v=some c'∧Net.sg (c'.bR,c'.bK) (c.bR,c.bK)
theorem Down.refl (M:CM):Down M M:=fun v c h=>⟨c,h,.inr ⟨rfl,bU _⟩⟩
theorem Down.trans {A B C:CM} (h1:Down A B) (h2:Down B C):Down A C:=fun v c h=>by
 obtain ⟨c',h3,h4⟩:=h1 v c h
 obtain ⟨d,h5,h6⟩:=h2 v c' h3
 refine ⟨d,h5,?_⟩
 unfold Net.sg at *;simp only at *;omega
def Oo (M M':CM) (v:Version):Prop:=∃ c',bj M' v=some c'∧∀ c,bj M v=some c→lu (c'.bR,c'.bK) (c.bR,c.bK)
theorem Ju (l:List ar) (m:bq) (to:Version) (hl:l.length≤8) (dW:eG l) (M:CM) (hM:sD l m to M) (ag:Bool) (x:ar) (hx:x∈fX l m):
 sD l m to (A3 l m M ag x)∧Down M (A3 l m M ag x)∧
 (((A2 l m M ag x).1=ag∧(∀ v,bj (A3 l m M ag x) v=bj M v)∧tp l m M x)∨((A2 l m M ag x).1=true∧Oo M (A3 l m M ag x) x.Version)):=by
 have sp:=HM M (eu l m x.Version) (ag,((bj M x.Version).getD ⟨0,0⟩).bR,((bj M x.Version).getD ⟨0,0⟩).bK,(bj M x.Version).isSome)
 have Mc:(eu l m x.Version).foldl (Ga M) (ag,((bj M x.Version).getD ⟨0,0⟩).bR,((bj M x.Version).getD ⟨0,0⟩).bK,(bj M x.Version).isSome)=A2 l m M ag x:=rfl
 rw [Mc] at sp
 unfold A3
 generalize hR:A2 l m M ag x=R at sp
 clear Mc
 have X7:R.2.2.2=true→(∀ v,bj M v=bj M v)→True:=fun _ _=>trivial
 rcases sp.one with h | ⟨h1,h2,⟨y,hy,c,h3,h4⟩,h5⟩
 ·
  have same:∀ v,bj (if R.2.2.2=true then dX M x.Version ⟨R.2.1,R.2.2.1⟩ else M) v=bj M v:=by
   intro v
   rw [h]
   simp only
   cases hg:bj M x.Version with
   | none=>simp
   | some c=>
     simp only [d7,if_true,ci]
     rw [gM]
     split
     ·rename_i e;subst e;exact hg.symm
     ·rfl
  have MX:(if R.2.2.2=true then dX M x.Version ⟨R.2.1,R.2.2.1⟩ else M)=M:=by
   refine BM ?_ hM.sm same
   split
   ·exact hM.sm.set _ _
   ·exact hM.sm
  rw [MX]
  refine ⟨hM,Down.refl M,.inl ⟨by rw [h],fun v=>rfl,fun y hy k hk=>?_⟩⟩
  unfold DK at hk ⊢
  cases hg:bj M y.Version with
  | none=>rw [hg] at hk;cases hk
  | some c=>
    rw [hg] at hk
    obtain rfl:=ac hk
    obtain ⟨e1,e2⟩:=sp.all y hy c hg
    rw [h] at e1 e2
    cases hgx:bj M x.Version with
    | none=>rw [hgx] at e1;simp at e1
    | some d=>
      rw [hgx] at e2
      exact ⟨_,rfl,e2⟩
 ·
  rw [if_pos h2]
  have U3:=oD hy
  have UG:=hM.bd hl dW h3
  have hsy:=(dW.1 y (re U3)).size
  have e4:R.2.1=c.bR+1∧R.2.2.1=c.bK+y.ec:=by
   have:=h4;unfold RS.c at this;exact ⟨congrArg Prod.fst this,congrArg Prod.snd this⟩
  have X8:∀ d,bj M x.Version=some d→lu (R.2.1,R.2.2.1) (d.bR,d.bK):=by
   intro d hd
   rcases h5 with h5 | h5
   ·rw [hd] at h5;simp at h5
   ·rw [hd] at h5;exact h5
  have K9:x.Version≠to:=by
   intro e
   have:=X8 ⟨0,0⟩ (by rw [e];exact hM.HK)
   unfold lu at this;simp only at this
   omega
  have hlen:M.length≤(dX M x.Version (⟨R.2.1,R.2.2.1⟩:ak)).length:=by
   cases hg:bj M x.Version with
   | none=>rw [vi hg];omega
   | some d=>rw [Fv hM.sm hg];exact ds _
  refine ⟨⟨hM.sm.set _ _,?_,?_,?_,?_⟩,?_,.inr ⟨h1,?_⟩⟩
  ·rw [gM,if_neg K9];exact hM.HK
  ·intro v d hd
   rw [gM] at hd
   split at hd
   ·rename_i e
    subst e
    obtain rfl:=ac hd
    obtain ⟨p,q1,q2,q3⟩:=hM.sound y.Version c h3
    refine ⟨y :: p,(Net.ji.cons _).2 ⟨hy,q1⟩,?_,?_⟩
    ·simp only [ai];omega
    ·rw [Net.zD]
     show y.ec+_=R.2.2.1
     omega
   ·exact hM.sound v d hd
  ·intro v d hd
   rw [gM] at hd
   split at hd
   ·rename_i e;exact .inr ⟨x,hx,e⟩
   ·exact hM.keys v d hd
  ·intro v d hd
   rw [gM] at hd
   split at hd
   ·rename_i e
    subst e
    obtain rfl:=ac hd
    have hf:=hM.X6 y.Version c h3
    show R.2.1+1≤_
    cases hg:bj M x.Version with
    | none=>rw [vi hg];omega
    | some d=>
      have hb:=X8 d hg
      have hf2:=hM.X6 x.Version d hg
      unfold lu at hb;simp only at hb
      omega
   ·have:=hM.X6 v d hd;omega
  ·intro v d hd
   rw [gM]
   split
   ·rename_i e
    subst e
    refine ⟨_,rfl,?_⟩
    have:=X8 d hd
    unfold lu at this;unfold Net.sg;simp only at *;omega
   ·exact ⟨d,hd,.inr ⟨rfl,bU _⟩⟩
  ·exact ⟨⟨R.2.1,R.2.2.1⟩,by rw [gM,if_pos rfl],fun d hd=>X8 d hd⟩
def Rf (o:Option ak):Nat:=match o with
 | none=>10000000000000
 | some c=>(c.bR * 100000000000+c.bK).toNat
def mu (own:List ar) (M:CM):Nat:=(own.map (fun x=>Rf (bj M x.Version))).sum
theorem C9 {α:Type} (f g:α→Nat):∀ (l:List α),(∀ x∈l,f x≤g x)→(l.map f).sum≤(l.map g).sum
 | [],_=>by simp
 | x :: r,h=>by
   have h1:=h x bz
   have h2:=C9 f g r (fun y hy=>h y (al _ hy))
   simp only [bX,io];omega
theorem Oq {α:Type} (f g:α→Nat):∀ (l:List α),(∀ x∈l,f x≤g x)→(∃ x∈l,f x < g x)→(l.map f).sum < (l.map g).sum
 | [],_,h=>by obtain ⟨x,hx,_⟩:=h;cases hx
 | x :: r,h,he=>by
   have h1:=h x bz
   have h2:=C9 f g r (fun y hy=>h y (al _ hy))
   simp only [bX,io]
   obtain ⟨y,hy,ew⟩:=he
   rcases af.1 hy with rfl | hy
   ·omega
   ·have:=Oq f g r (fun y hy=>h y (al _ hy)) ⟨y,hy,ew⟩
    omega
theorem Um {l:List ar} {m:bq} {to:Version} {M M':CM} (hl:l.length≤8) (dW:eG l) (h:sD l m to M) (h':sD l m to M') {v:Version} (hb:Oo M M' v):Rf (bj M' v) < Rf (bj M v):=by
 obtain ⟨c',h1,h2⟩:=hb
 have b1:=h'.bd hl dW h1
 rw [h1]
 cases hg:bj M v with
 | none=>simp only [Rf];omega
 | some c=>
   have b2:=h.bd hl dW hg
   have:=h2 c hg
   unfold lu at this
   simp only [Rf] at *
   omega
theorem FQ {l:List ar} {m:bq} {to:Version} {M M':CM} (hl:l.length≤8) (dW:eG l) (h:sD l m to M) (h':sD l m to M') (hd:Down M M') (v:Version):Rf (bj M' v)≤Rf (bj M v):=by
 cases hg:bj M v with
 | none=>
   cases IQ:bj M' v with
   | none=>exact ds _
   | some c'=>
     have b1:=h'.bd hl dW IQ
     simp only [Rf];omega
 | some c=>
   obtain ⟨c',h1,h2⟩:=hd v c hg
   have b1:=h'.bd hl dW h1
   have b2:=h.bd hl dW hg
   rw [h1]
   unfold Net.sg at h2
   simp only [Rf] at *
   omega
structure Round (l:List ar) (m:bq) (to:Version) (M0:CM) (i:Int) (s:CM×Bool):Prop where
 inv:sD l m to s.1
 down:Down M0 s.1
 yes:s.2=true→mu (fX l m) s.1 < mu (fX l m) M0
 no:s.2=false→(∀ v,bj s.1 v=bj M0 v)∧∀ x∈(fX l m).take i.toNat,tp l m M0 x
theorem A4 {l:List ar} {m:bq} {M M':CM} {x:ar} (h:∀ v,bj M' v=bj M v) (hc:tp l m M' x):tp l m M x:=by
 unfold tp DK at *
 simpa only [h] using hc
theorem HO (l:List ar) (m:bq) (to:Version) (hl:l.length≤8) (dW:eG l) (M0:CM) (hM:sD l m to M0) (nx:List (List ar)) (Ii:nx=(fX l m).map (fun x=>eu l m x.Version)):
 Ok (pt (fX l m) nx M0 false 0) (fun r=>∃ M ag,r=.inl (M,ag)∧Round l m to M0 (fX l m).length (M,ag)):=by
 unfold pt
 have ho:(fX l m).length≤l.length:=aS _ _
 refine Ok.Of (fX l m).length (fun (s:CM×Bool) (i:Int)=>(s.1,s.2,i)) (Round l m to M0) ?_ (M0,false) ⟨hM,Down.refl _,fun h=>(by cases h),fun _=>⟨fun v=>rfl,by simp⟩⟩
 rintro ⟨M,ag⟩ i h0 h1 hr
 show Ok (iV (fX l m) nx M ag i) _
 unfold iV
 split
 ·rename_i hi
  refine Ok.idx h0 hi (fun x GM xL=>?_)
  unfold sU
  simp only [aa]
  have e2:idx nx i=some (eu l m x.Version):=by rw [Ii,QT,GM];rfl
  rw [e2]
  simp only [aa]
  have e5:=HN l m to hl dW M hr.inv i ⟨h0,by omega⟩ x (ag,((bj M x.Version).getD ⟨0,0⟩).bR,((bj M x.Version).getD ⟨0,0⟩).bK,(bj M x.Version).isSome) (eu l m x.Version) (fun y hy=>re (oD hy)) (ip (aS _ _) hl)
  simp only at e5
  rw [e5]
  refine Ok.ret (.inl ⟨(A3 l m M ag x,(A2 l m M ag x).1),rfl,hi,?_⟩)
  obtain ⟨f1,f2,f3⟩:=Ju l m to hl dW M hr.inv ag x xL
  have hle:mu (fX l m) (A3 l m M ag x)≤mu (fX l m) M:=C9 _ _ _ (fun z _=>FQ hl dW hr.inv f1 f2 z.Version)
  have ajN:mu (fX l m) M≤mu (fX l m) M0:=C9 _ _ _ (fun z _=>FQ hl dW hM hr.inv hr.down z.Version)
  refine ⟨f1,hr.down.trans f2,fun hy=>?_,fun hn=>?_⟩
  ·rcases f3 with ⟨g1,g2,g3⟩ | ⟨g1,g2⟩
   ·simp only at hy
    rw [g1] at hy
    have:=hr.yes hy
    simp only at this ⊢
    omega
   ·have:mu (fX l m) (A3 l m M ag x) < mu (fX l m) M:=Oq _ _ _ (fun z _=>FQ hl dW hr.inv f1 f2 z.Version) ⟨x,xL,Um hl dW hr.inv f1 g2⟩
    simp only;omega
  ·rcases f3 with ⟨g1,g2,g3⟩ | ⟨g1,g2⟩
   ·simp only at hn
    rw [g1] at hn
    obtain ⟨k1,k2⟩:=hr.no hn
    refine ⟨fun v=>(g2 v).trans (k1 v),fun z hz=>?_⟩
    rw [take_succ h0 GM,a8,be] at hz
    rcases hz with hz | rfl
    ·exact k2 z hz
    ·exact A4 k1 g3
   ·simp only at hn;rw [g1] at hn;cases hn
 ·rename_i hi
  have:i=(fX l m).length:=by omega
  subst this
  exact Ok.inr (Ok.ret (.inr ⟨_,rfl,M,ag,rfl,hr⟩))
theorem HP (l:List ar) (m:bq) (to:Version) (hl:l.length≤8) (dW:eG l) (nx:List (List ar)) (Ii:nx=(fX l m).map (fun x=>eu l m x.Version)) (M0:CM) (h0:sD l m to M0):
 Ok (pv (fX l m) nx M0 true) (fun M=>sD l m to M∧∀ x∈fX l m,tp l m M x):=by
 unfold pv
 refine Ok.iter (fun s:CM×Bool=>2 * mu (fX l m) s.1+if s.2=true then 1 else 0) (fun s=>sD l m to s.1∧(s.2=false→∀ x∈fX l m,tp l m s.1 x)) ?_ (M0,true) ⟨h0,fun h=>by cases h⟩
 rintro ⟨M,ag⟩ ⟨hi,hc⟩
 dsimp only at hi hc ⊢
 unfold kS
 cases ag with
 | false=>
   rw [if_neg (by simp)]
   exact Ok.inr (Ok.ret ⟨hi,hc rfl⟩)
 | true=>
   rw [if_pos rfl]
   refine (HO l m to hl dW M hi nx Ii).mono ?_
   rintro r ⟨M',ag',rfl,hr⟩
   refine ⟨⟨hr.inv,fun hf=>?_⟩,?_⟩
   ·obtain ⟨k1,k2⟩:=hr.no hf
    intro x hx
    have e:(fX l m).take ((fX l m).length:Int).toNat=fX l m:=cv (by omega)
    rw [e] at k2
    exact A4 (fun v=>(k1 v).symm) (k2 x hx)
   ·cases ag' with
    | true=>
      have:=hr.yes rfl
      simp only [if_true] at this ⊢;omega
    | false=>
      have hle:mu (fX l m) M'≤mu (fX l m) M:=C9 _ _ _ (fun z _=>FQ hl dW hi hr.inv hr.down z.Version)
      simp only [if_true,b8,if_false];omega
theorem Da (l:List ar) (m:bq) (to:Version) (hx:me l) (dW:eG l):Ok (lI l m to) (fun M=>sD l m to M∧(xZ l m).vI (fX l m) to (DK M)):=by
 have hl:=hx.1
 have ho:(fX l m).length≤l.length:=aS _ _
 have hob:∀ x∈fX l m,Hq x:=fun x h=>hx.2 x (re h)
 unfold lI tI
 have h:=nA l (fun (s:List ar) (i:Int)=>(s,i)) (fun x:(List ar)×Int=>eE l m to x.1 x.2) (fun acc x=>if DJ m x=true then acc++[x] else acc) (fun i s=>(s.length:Int)≤i) (fun s=>kT m to s)
  (fun s i x h0 h1 hi hv=>by
   have hb:=hx.2 x (vf hi)
   have w1:bA (i+1)=i+1:=bc (by omega) (by omega)
   show eE l m to s i=_∧_
   unfold eE
   rw [if_pos h1,hi]
   simp only [aa]
   rw [FP hb]
   simp only [aa]
   unfold kQ
   by_cases c:DJ m x=true
   ·rw [if_pos c,mQ (by simp;omega)]
    refine ⟨by simp [w1,c],by simp [c];omega⟩
   ·rw [if_neg c]
    refine ⟨by simp [w1,c],by simp [c];omega⟩)
  (fun s hv=>by
   show eE l m to s l.length=_
   unfold eE
   rw [if_neg (by omega)]) [] (by simp)
 rw [h,foldl_filter]
 rw [d2]
 show Ok (kT m to (fX l m)) _
 unfold kT
 have gS:L1 ([]:List ar) ((fX l m).length:Int) ((fX l m).length:Int)=some (bu (fX l m).length []):=by
  unfold L1;rw [if_pos (by omega)];simp
 rw [gS]
 simp only [aa]
 unfold tH
 refine Ok.Of (fX l m).length (fun (s:List (List ar)) (i:Int)=>(s,i)) (fun i s=>s=((fX l m).take i.toNat).map (fun x=>eu l m x.Version)++bu ((fX l m).length - i.toNat) []) ?_ (bu (fX l m).length []) (by simp)
 intro s i h0 h1 hs
 have w1:bA (i+1)=i+1:=bc (by omega) (by omega)
 show Ok (iW m to (fX l m) s i) _
 unfold iW
 split
 ·rename_i hi
  refine Ok.idx h0 hi (fun x GM xL=>?_)
  rw [HL (fX l m) m x.Version hob (by omega),Om]
  simp only [aa]
  have hlen:s.length=(fX l m).length:=by rw [hs];simp;omega
  refine Ok.idx h0 (by omega) (fun z _ _=>?_)
  refine Ok.ret (.inl ⟨s.set i.toNat (eu l m x.Version),by rw [w1],hi,?_⟩)
  rw [hs,take_succ h0 GM,fc,List.map_singleton]
  have hk:((fX l m).take i.toNat).length=i.toNat:=by simp;omega
  obtain ⟨k,hk2⟩:∃ k,(fX l m).length - i.toNat=k+1:=⟨(fX l m).length - i.toNat - 1,by omega⟩
  rw [hk2,show (fX l m).length - (i+1).toNat=k by omega,List.replicate_succ,List.set_append_right _ _ (by simp;omega)]
  simp only [ce,hk,Nat.sub_self,List.set_cons_zero,b7,List.singleton_append]
 ·rename_i hi
  have hii:i=(fX l m).length:=by omega
  subst hii
  refine Ok.inr ?_
  have Ii:s=(fX l m).map (fun x=>eu l m x.Version):=by
   rw [hs];simp
  have h0:sD l m to (dX ([]:CM) to ⟨0,0⟩):=by
   have hg:∀ v,bj (dX ([]:CM) to ⟨0,0⟩) v=if to=v then some ⟨0,0⟩ else none:=fun v=>by rw [gM];rfl
   have key:∀ v c,bj (dX ([]:CM) to ⟨0,0⟩) v=some c→v=to∧c=⟨0,0⟩:=by
    intro v c hc
    rw [hg] at hc
    split at hc
    ·rename_i e;exact ⟨e.symm,(ac hc).symm⟩
    ·cases hc
   refine ⟨SM.nil.set _ _,by rw [hg,if_pos rfl],fun v c hc=>?_,fun v c hc=>.inl (key v c hc).1,fun v c hc=>?_⟩
   ·obtain ⟨rfl,rfl⟩:=key v c hc
    exact ⟨[],(Net.ji.nil _).2 rfl,rfl,rfl⟩
   ·obtain ⟨rfl,rfl⟩:=key v c hc
    rw [vi rfl];simp
  refine (HP l m to hl dW s Ii _ h0).mono ?_
  rintro M ⟨hM,hc⟩
  refine .inr ⟨M,rfl,hM,⟨by unfold DK;rw [hM.HK];rfl,fun v k hk=>?_,fun x hx y hy k hk=>?_⟩⟩
  ·unfold DK at hk
   obtain ⟨c,h1,rfl⟩:=a7.1 hk
   exact hM.sound v c h1
  ·exact hc x hx y hy k hk
abbrev WS:=(Int×Int×Int)×(Int×Int)×Bool
def v3 (v:Version):Int×Int×Int:=(v.ax,v.aA,v.aC)
def Ot (M:CM) (s:WS) (y:ar):WS:=
 match bj M y.Version with
 | none=>s
 | some c=>if s.2.2=false∨lu (c.bR+1,c.bK+y.ec) s.2.1 then (v3 y.Version,(c.bR+1,c.bK+y.ec),true) else s
def WP (M:CM) (done:List ar) (s:WS):Prop:=
 (s.2.2=false∧∀ y∈done,bj M y.Version=none)∨
 (s.2.2=true∧∃ y∈done,∃ c,bj M y.Version=some c∧s.1=v3 y.Version∧s.2.1=(c.bR+1,c.bK+y.ec)∧∀ y'∈done,∀ c',bj M y'.Version=some c'→lu s.2.1 (c'.bR+1,c'.bK+y'.ec)∨(s.2.1=(c'.bR+1,c'.bK+y'.ec)∧dL y.Version y'.Version≤0))
theorem Ou (M:CM) (done:List ar) (y:ar) (s:WS) (ew:∀ z∈done,dL z.Version y.Version < 0) (h:WP M done s):WP M (done++[y]) (Ot M s y):=by
 unfold Ot
 cases hg:bj M y.Version with
 | none=>
   simp only
   rcases h with ⟨h1,h2⟩ | ⟨h1,b,hb,c,h2,h3,h4,h5⟩
   ·refine .inl ⟨h1,fun z hz=>?_⟩
    rcases a8.1 hz with hz | hz
    ·exact h2 z hz
    ·rw [be.1 hz];exact hg
   ·refine .inr ⟨h1,b,b5 _ hb,c,h2,h3,h4,fun z hz c' uZ=>?_⟩
    rcases a8.1 hz with hz | hz
    ·exact h5 z hz c' uZ
    ·rw [be.1 hz,hg] at uZ;cases uZ
 | some c0=>
   simp only
   have last:∀ z∈[y],∀ c',bj M z.Version=some c'→(c0.bR+1,c0.bK+y.ec)=(c'.bR+1,c'.bK+z.ec)∧dL y.Version z.Version≤0:=by
    intro z hz c' uZ
    obtain rfl:=be.1 hz
    rw [hg] at uZ
    obtain rfl:=ac uZ
    exact ⟨rfl,by rw [FA.zero];omega⟩
   split
   ·rename_i hc
    refine .inr ⟨rfl,y,by simp,c0,hg,rfl,rfl,fun z hz c' uZ=>?_⟩
    rcases a8.1 hz with hz | hz
    ·rcases h with ⟨h1,h2⟩ | ⟨h1,b,hb,c,h2,h3,h4,h5⟩
     ·rw [h2 z hz] at uZ;cases uZ
     ·left
      show lu (c0.bR+1,c0.bK+y.ec) (c'.bR+1,c'.bK+z.ec)
      rcases hc with hc | hc
      ·rw [h1] at hc;cases hc
      ·have:=h5 z hz c' uZ
       unfold lu at *
       simp only at *
       rcases this with this | ⟨this,_⟩
       ·omega
       ·rw [this] at hc;exact hc
    ·exact .inr (last z hz c' uZ)
   ·rename_i hc
    rw [not_or] at hc
    have hs:s.2.2=true:=by simpa using hc.1
    rcases h with ⟨h1,h2⟩ | ⟨h1,b,hb,c,h2,h3,h4,h5⟩
    ·rw [hs] at h1;cases h1
    ·refine .inr ⟨h1,b,b5 _ hb,c,h2,h3,h4,fun z hz c' uZ=>?_⟩
     rcases a8.1 hz with hz | hz
     ·exact h5 z hz c' uZ
     ·obtain ⟨e1,e2⟩:=last z hz c' uZ
      rw [← e1]
      have k:=hc.2
      by_cases q:lu s.2.1 (c0.bR+1,c0.bK+y.ec)
      ·exact .inl q
      ·right
       refine ⟨?_,?_⟩
       ·unfold lu at k q
        refine Prod.ext ?_ ?_<;>omega
       ·have hzy:z=y:=be.1 hz
        rw [hzy]
        exact ic (ew b hb)
theorem KH (M:CM):∀ (rest done:List ar) (s:WS),(done++rest).Pairwise (fun a b=>dL a.Version b.Version < 0)→WP M done s→WP M (done++rest) (rest.foldl (Ot M) s)
 | [],done,s,_,h=>by simpa using h
 | y :: r,done,s,hp,h=>by
   have dE:(done++[y]++r).Pairwise (fun a b=>dL a.Version b.Version < 0):=by simpa using hp
   have:=KH M r (done++[y]) (Ot M s y) dE (Ou M done y s (fun z hz=>by
    rw [ca] at hp
    exact hp.2.2 z hz y bz) h)
   simpa using this
theorem HQ (l:List ar) (m:bq) (to:Version) (hx:me l) (dW:eG l) (M:CM) (hM:sD l m to M) (v:Version) (hv:v≠to) (out:List Version) (ho:out.length≤1000):
 (cS l m to M out v.ax v.aA v.aC=some (.inr ([],false))∧∀ y∈eu l m v,bj M y.Version=none)∨
 (∃ x∈eu l m v,∃ c,bj M x.Version=some c∧cS l m to M out v.ax v.aA v.aC=some (.inl (out++[x.Version],x.Version.ax,x.Version.aA,x.Version.aC))∧
  ∀ y∈eu l m v,∀ c',bj M y.Version=some c'→lu (c.bR+1,c.bK+x.ec) (c'.bR+1,c'.bK+y.ec)∨((c.bR+1,c.bK+x.ec)=(c'.bR+1,c'.bK+y.ec)∧dL x.Version y.Version≤0)):=by
 have hl:=hx.1
 have hpw:(eu l m v).Pairwise (fun a b=>dL a.Version b.Version < 0):=eH _ dW.2
 have hlen:(eu l m v).length≤l.length:=aS _ _
 have W:=KH M (eu l m v) [] ((0,0,0),(0,0),false) (by simpa using hpw) (.inl ⟨rfl,fun y hy=>(by cases hy)⟩)
 rw [d2] at W
 have run:cS l m to M out v.ax v.aA v.aC=mC out ((eu l m v).foldl (Ot M) ((0,0,0),(0,0),false)).1.1 ((eu l m v).foldl (Ot M) ((0,0,0),(0,0),false)).1.2.1 ((eu l m v).foldl (Ot M) ((0,0,0),(0,0),false)).1.2.2 ((eu l m v).foldl (Ot M) ((0,0,0),(0,0),false)).2.2:=by
  unfold cS
  rw [if_pos hv,HL l m v hx.2 (by omega)]
  simp only [aa]
  unfold vA
  exact nA (eu l m v) (fun (s:WS) (i:Int)=>(s.1.1,s.1.2.1,s.1.2.2,s.2.1.1,s.2.1.2,s.2.2,i)) (fun x:Int×Int×Int×Int×Int×Bool×Int=>fW M out (eu l m v) x.1 x.2.1 x.2.2.1 x.2.2.2.1 x.2.2.2.2.1 x.2.2.2.2.2.1 x.2.2.2.2.2.2) (Ot M) (fun _ _=>True) (fun s=>mC out s.1.1 s.1.2.1 s.1.2.2 s.2.2)
   (fun s i y h0 h1 hi _=>by
    refine ⟨?_,trivial⟩
    have w1:bA (i+1)=i+1:=bc (by omega) (by omega)
    have hy:=(dW.1 y (re (oD (vf hi)))).size
    obtain ⟨⟨a,b,d⟩,⟨k,z⟩,is⟩:=s
    show fW M out (eu l m v) a b d k z is i=_
    unfold fW
    rw [if_pos h1,hi]
    simp only [aa]
    unfold sU Ot
    cases hg:bj M y.Version with
    | none=>
      simp only [fd,d6,aa,b8,if_false]
      unfold gQ jf
      rw [if_neg (by simp),w1]
    | some c=>
      have hb:=hM.bd hl dW hg
      have v1:bA (c.bR+1)=c.bR+1:=bc (by omega) (by omega)
      have v2:bA (c.bK+y.ec)=c.bK+y.ec:=bc (by omega) (by omega)
      simp only [ci,d7,aa,if_true,v1,v2]
      cases is with
      | false=>
        simp only [fn,if_true,true_or]
        unfold gQ jf
        rw [if_pos rfl,v1,v2,w1];rfl
      | true=>
        simp only [fs,b8,if_false,ii,false_or]
        rw [EF]
        simp only [aa]
        rw [EG]
        unfold gQ jf
        simp only [v1,v2,w1]
        by_cases hc:lu (c.bR+1,c.bK+y.ec) (k,z)
        ·rw [if_pos (by simpa using hc)];simp [hc,v3]
        ·rw [if_neg (by simpa using hc)];simp [hc])
   (fun s _=>by
    show fW M out (eu l m v) s.1.1 s.1.2.1 s.1.2.2 s.2.1.1 s.2.1.2 s.2.2 (eu l m v).length=_
    unfold fW
    rw [if_neg (by omega)]) ((0,0,0),(0,0),false) trivial
 rw [run]
 generalize hR:(eu l m v).foldl (Ot M) ((0,0,0),(0,0),false)=R at W
 unfold mC
 rcases W with ⟨h1,h2⟩ | ⟨h1,x,xL,c,h2,h3,h4,h5⟩
 ·left
  rw [h1]
  exact ⟨rfl,h2⟩
 ·right
  refine ⟨x,xL,c,h2,?_,fun y hy c' uZ=>?_⟩
  ·rw [h1,if_neg (by simp),h3]
   show (app out [(⟨x.Version.ax,x.Version.aA,x.Version.aC⟩:Version)]).bind _=_
   rw [mQ (by simp;omega)];rfl
  ·have:=h5 y hy c' uZ
   rw [h4] at this;exact this
theorem EH (l:List ar) (m:bq) (to:Version) (hx:me l) (dW:eG l) (M:CM) (hM:sD l m to M) (C:(xZ l m).vI (fX l m) to (DK M)):∀ (n:Nat) (v:Version) (k:ak) (out:List Version),(v=to∨∃ x∈fX l m,x.Version=v)→bj M v=some k→k.bR≤n→out.length+n≤1000→
 ∃ p,Net.mx (xZ l m) (DK M) to v p∧gR l m to M out v.ax v.aA v.aC=some (out++p.map ar.Version,true):=by
 intro n
 induction n with
 | zero=>
   intro v k out hv hk hn ho
   have e:v=to:=by
    obtain ⟨p,h1,h2,h3⟩:=hM.sound v k hk
    have:p=[]:=eX.1 (by omega)
    subst this
    exact (Net.ji.nil _).1 h1
   subst e
   refine ⟨[],.nil,?_⟩
   unfold gR
   rw [iter_eq]
   show (cS l m v M out v.ax v.aA v.aC).bind _=_
   unfold cS
   rw [if_neg (by simp),aW];simp
 | succ n ih=>
   intro v k out hv hk hn ho
   unfold gR
   by_cases e:v=to
   ·subst e
    refine ⟨[],.nil,?_⟩
    rw [iter_eq]
    show (cS l m v M out v.ax v.aA v.aC).bind _=_
    unfold cS
    rw [if_neg (by simp),aW];simp
   ·obtain ⟨p,h1,h2,h3⟩:=hM.sound v k hk
    cases p with
    | nil=>exact absurd ((Net.ji.nil _).1 h1) e
    | cons y r=>
      rw [Net.ji.cons] at h1
      have U3:=oD h1.1
      obtain ⟨ky,h4,h5⟩:=C.low (xc dW) r y.Version (.inr ⟨y,U3,rfl⟩) h1.2
      unfold DK at h4
      obtain ⟨cy,h6,h7⟩:=a7.1 h4
      rcases HQ l m to hx dW M hM v e out (by omega) with ⟨s1,s2⟩ | ⟨x,xL,c,s1,s2,s3⟩
      ·rw [s2 y h1.1] at h6;cases h6
      ·have Ul:=oD xL
       have hle:c.bR≤n:=by
        have:=s3 y h1.1 cy h6
        rw [← h7] at h5
        unfold Net.sg at h5
        unfold lu at this
        simp only [ai,fv] at *
        omega
       obtain ⟨p',g1,g2⟩:=ih x.Version c (out++[x.Version]) (.inr ⟨x,Ul,rfl⟩) s1 hle (by simp;omega)
       refine ⟨x :: p',.cons e xL (by unfold DK;show d3 _ (bj M x.Version)=_;rw [s1];rfl) (fun z hz k' O7=>?_) g1,?_⟩
       ·unfold DK at O7
        obtain ⟨cz,h8,rfl⟩:=a7.1 O7
        have:=s3 z hz cz h8
        unfold lu at this
        simp only [fv] at this ⊢
        show _∨(_∧(c.bK+x.ec < cz.bK+z.ec∨(c.bK+x.ec=cz.bK+z.ec∧dL x.Version z.Version≤0)))
        omega
       ·rw [iter_eq]
        show (cS l m to M out v.ax v.aA v.aC).bind _=_
        rw [s2]
        simp only [aa,bh]
        unfold gR at g2
        rw [g2];simp
theorem Jv (l:List ar) (m:bq) (fr to:Version) (hx:me l) (dW:eG l) (M:CM) (hM:sD l m to M) (C:(xZ l m).vI (fX l m) to (DK M)):
 (∃ p,(xZ l m).Br fr to p∧p.length≤l.length∧kU l m fr to M=some (p.map ar.Version,true))∨((∀ p,¬ (xZ l m).ji fr p to)∧kU l m fr to M=some ([],false)):=by
 unfold kU
 have hg:=xc (m:=m) dW
 have fin:∀ {p},Net.mx (xZ l m) (DK M) to fr p→(xZ l m).Br fr to p∧p.length≤l.length:=fun g=>⟨(Net.mx.yy hg C g).1,ip (Net.mx.len hg C g) (aS _ _)⟩
 by_cases e:fr=to
 ·subst e
  obtain ⟨p,h1,h2⟩:=EH l m fr hx dW M hM C 0 fr ⟨0,0⟩ [] (.inl rfl) hM.HK (by simp) (by simp)
  exact .inl ⟨p,(fin h1).1,(fin h1).2,by rw [h2];simp⟩
 ·rcases HQ l m to hx dW M hM fr e [] (by simp) with ⟨s1,s2⟩ | ⟨x,xL,c,s1,s2,s3⟩
  ·right
   refine ⟨fun p hp=>?_,?_⟩
   ·cases p with
    | nil=>exact e ((Net.ji.nil _).1 hp)
    | cons y r=>
      rw [Net.ji.cons] at hp
      obtain ⟨ky,h4,h5⟩:=C.low hg r y.Version (.inr ⟨y,oD hp.1,rfl⟩) hp.2
      unfold DK at h4
      obtain ⟨cy,h6,h7⟩:=a7.1 h4
      rw [s2 y hp.1] at h6;cases h6
   ·unfold gR
    rw [iter_eq]
    show (cS l m to M [] fr.ax fr.aA fr.aC).bind _=_
    rw [s1];rfl
  ·left
   have hb:=hM.bd hx.1 dW s1
   obtain ⟨p',g1,g2⟩:=EH l m to hx dW M hM C 8 x.Version c ([]++[x.Version]) (.inr ⟨x,oD xL,rfl⟩) s1 (by omega) (by simp)
   have G:Net.mx (xZ l m) (DK M) to fr (x :: p'):=.cons e xL (by unfold DK;show d3 _ (bj M x.Version)=_;rw [s1];rfl) (fun z hz k' O7=>by
    unfold DK at O7
    obtain ⟨cz,h8,rfl⟩:=a7.1 O7
    have:=s3 z hz cz h8
    unfold lu at this
    simp only [fv] at this ⊢
    show _∨(_∧(c.bK+x.ec < cz.bK+z.ec∨(c.bK+x.ec=cz.bK+z.ec∧dL x.Version z.Version≤0)))
    omega) g1
   refine ⟨x :: p',(fin G).1,(fin G).2,?_⟩
   unfold gR
   rw [iter_eq]
   show (cS l m to M [] fr.ax fr.aA fr.aC).bind _=_
   rw [s2]
   simp only [aa,bh]
   unfold gR at g2
   rw [g2];simp
abbrev TM:=List (Version×aK)
theorem Rg (a b:List Version) (ha:a.length≤100000) (hb:b.length≤100000):cZ a b (fun y0 y1=>fP y0 y1)=some (mG dL a b):=by
 unfold cZ
 have key:∀ (n:Nat) (i:Int),0≤i→i+n=a.length→i≤b.length→cd a b (fun y0 y1=>fP y0 y1) i=some (mG dL (a.drop i.toNat) (b.drop i.toNat)):=by
  intro n
  induction n with
  | zero=>
    intro i h0 hn Lc
    have e1:a.drop i.toNat=[]:=cc (by omega)
    unfold cd
    rw [iter_eq,cV,if_neg (by omega),aW,e1]
    unfold ep
    split
    ·have ew:i.toNat < b.length:=by omega
     rw [e8 ew];rfl
    ·have e2:b.drop i.toNat=[]:=cc (by omega)
     rw [e2];rfl
  | succ n ih=>
    intro i h0 hn Lc
    obtain ⟨x,hx,_,hd⟩:=fe a h0 (by omega)
    unfold cd
    rw [iter_eq,cV,if_pos (by omega),hx]
    simp only [aa]
    by_cases Wx:(b.length:Int)≤i
    ·rw [if_pos Wx,aW,hd,cc (l:=b) (by omega)];rfl
    ·obtain ⟨y,hy,_,hd2⟩:=fe b h0 (by omega)
     rw [if_neg Wx,hy]
     simp only [aa]
     rw [xp]
     simp only [aa]
     rw [hd,hd2,mM]
     by_cases hc:dL x y=0
     ·rw [if_neg (show ¬ dL x y≠0 from fun k=>k hc),if_neg (show ¬ dL x y≠0 from fun k=>k hc),bc (by omega) (by omega)]
      simp only [aa,bh]
      exact ih (i+1) (by omega) (by omega) (by omega)
     ·rw [if_pos hc,if_pos hc,aW]
 have:=key a.length 0 (by omega) (by omega) (by omega)
 simpa using this
def Ov (a b:aK):Prop:=a.bK < b.bK∨(a.bK=b.bK∧mG dL a.oA b.oA < 0)
def KI (a b:aK):Prop:=a.bK < b.bK∨(a.bK=b.bK∧mG dL a.oA b.oA≤0)
instance (a b:aK):Decidable (Ov a b):=by unfold Ov;exact inferInstance
theorem vG:(⟨ar.Version,ar.ec,fun _=>[],dL⟩:Net Version ar).Good []:=
 ⟨fun a b=>uU a b,fun a b=>xy,fun a b c=>C8,fun v x hx=>(by cases hx),fun x hx=>(by cases hx)⟩
theorem Ow (a b:List Version):mG dL b a=- mG dL a b:=vG.C6 _ a b
theorem Rh (a b:List Version) (h:mG dL a b=0):a=b:=vG.Ak _ a b h
theorem Ri (a:List Version):mG dL a a=0:=vG.Aj _ a
theorem WW {a b c:List Version} (h1:mG dL a b≤0) (h2:mG dL b c≤0):mG dL a c≤0:=vG.FO _ a b c h1 h2
theorem Ox (a:aK):KI a a:=.inr ⟨rfl,by rw [Ri];omega⟩
theorem Un {a b c:aK} (h1:KI a b) (h2:KI b c):KI a c:=by
 unfold KI at *
 rcases h1 with h1 | ⟨h1,h3⟩
 ·left;omega
 ·rcases h2 with h2 | ⟨h2,h4⟩
  ·left;omega
  ·exact .inr ⟨by omega,WW h3 h4⟩
theorem LQ {a b:aK} (h:Ov a b):KI a b:=by
 unfold Ov KI at *;omega
theorem Jw {a b:aK} (h:¬ Ov a b):KI b a:=by
 have:=Ow a.oA b.oA
 unfold Ov KI at *;omega
theorem Oy {a b:aK} (h1:KI a b) (h2:KI b a):a=b:=by
 have:=Ow a.oA b.oA
 unfold KI at h1 h2
 have e1:a.bK=b.bK:=by omega
 have e2:a.oA=b.oA:=Rh _ _ (by omega)
 obtain ⟨w,s⟩:=a
 obtain ⟨w',s'⟩:=b
 simp only at e1 e2;rw [e1,e2]
def Dj (t:aK) (x:ar):aK:=⟨t.oA++[x.Version],t.bK+x.ec⟩
def Rj (t:aK) (D:TM) (x:ar):TM:=
 match bj D x.Version with
 | none=>dX D x.Version (Dj t x)
 | some o=>if Ov (Dj t x) o then dX D x.Version (Dj t x) else D
structure PD (cs:List (Version×aK)) (D:TM):Prop where
 sm:SM D
 sound:∀ v t,bj D v=some t→(v,t)∈cs
 yy:∀ v c,(v,c)∈cs→∃ t,bj D v=some t∧KI t c
theorem PD.nil:PD [] []:=⟨SM.nil,fun v t h=>(by rw [wL] at h;cases h),fun v c h=>(by cases h)⟩
theorem PD.step {cs:List (Version×aK)} {D:TM} (h:PD cs D) (t:aK) (x:ar):PD (cs++[(x.Version,Dj t x)]) (Rj t D x):=by
 have put:(∀ o,bj D x.Version=some o→KI (Dj t x) o)→PD (cs++[(x.Version,Dj t x)]) (dX D x.Version (Dj t x)):=by
  intro hb
  refine ⟨h.sm.set _ _,fun v u hu=>?_,fun v c hc=>?_⟩
  ·rw [gM] at hu
   split at hu
   ·rename_i e;subst e;obtain rfl:=ac hu;simp
   ·exact b5 _ (h.sound v u hu)
  ·rw [gM]
   split
   ·rename_i e
    subst e
    refine ⟨_,rfl,?_⟩
    rcases a8.1 hc with hc | hc
    ·obtain ⟨o,h1,h2⟩:=h.yy _ c hc
     exact Un (hb o h1) h2
    ·rw [(cl (be.1 hc)).2];exact Ox _
   ·rename_i ne
    rcases a8.1 hc with hc | hc
    ·exact h.yy v c hc
    ·exact absurd (cl (be.1 hc)).1.symm ne
 unfold Rj
 cases hg:bj D x.Version with
 | none=>exact put (fun o ho=>by rw [hg] at ho;cases ho)
 | some o=>
   simp only
   split
   ·rename_i ew
    exact put (fun o' ho=>by rw [hg] at ho;obtain rfl:=ac ho;exact LQ ew)
   ·rename_i hn
    refine ⟨h.sm,fun v u hu=>b5 _ (h.sound v u hu),fun v c hc=>?_⟩
    rcases a8.1 hc with hc | hc
    ·exact h.yy v c hc
    ·obtain ⟨rfl,rfl⟩:=cl (be.1 hc)
     exact ⟨o,hg,Jw hn⟩
theorem PD.fold (t:aK):∀ (xs:List ar) (cs:List (Version×aK)) (D:TM),PD cs D→PD (cs++xs.map (fun x=>(x.Version,Dj t x))) (xs.foldl (Rj t) D)
 | [],cs,D,h=>by simpa using h
 | x :: r,cs,D,h=>by
   have:=PD.fold t r _ _ (h.step t x)
   simpa using this
theorem PD.unique {cs jP:List (Version×aK)} {D D':TM} (h:PD cs D) (h':PD jP D') (hm:∀ e,e∈cs↔e∈jP):D=D':=by
 refine BM h.sm h'.sm (fun v=>?_)
 cases hg:bj D v with
 | none=>
   cases IQ:bj D' v with
   | none=>rfl
   | some t'=>
     obtain ⟨t,h1,_⟩:=h.yy v t' ((hm _).2 (h'.sound v t' IQ))
     rw [hg] at h1;cases h1
 | some t=>
   obtain ⟨t',h1,h2⟩:=h'.yy v t ((hm _).1 (h.sound v t hg))
   obtain ⟨t2,h3,h4⟩:=h.yy v t' ((hm _).2 (h'.sound v t' h1))
   rw [hg] at h3;obtain rfl:=ac h3
   rw [h1,Oy h4 h2]
def tW (l:List ar) (m:bq) (es:TM):List (Version×aK):=es.flatMap (fun e=>(eu l m e.1).map (fun x=>(x.Version,Dj e.2 x)))
def lvl (l:List ar) (m:bq) (B:TM):TM:=B.foldl (fun D e=>(eu l m e.1).foldl (Rj e.2) D) []
theorem Oz (l:List ar) (m:bq):∀ (es done:TM) (D:TM),PD (tW l m done) D→PD (tW l m (done++es)) (es.foldl (fun D e=>(eu l m e.1).foldl (Rj e.2) D) D)
 | [],done,D,h=>by simpa using h
 | e :: r,done,D,h=>by
   have h1:=PD.fold e.2 (eu l m e.1) _ _ h
   have h2:tW l m done++(eu l m e.1).map (fun x=>(x.Version,Dj e.2 x))=tW l m (done++[e]):=by
    unfold tW;simp
   rw [h2] at h1
   have:=Oz l m r (done++[e]) _ h1
   simpa using this
theorem OA (l:List ar) (m:bq) (B:TM):PD (tW l m B) (lvl l m B):=by
 have:=Oz l m B [] [] PD.nil
 unfold lvl
 simpa using this
theorem Rk (l:List ar) (m:bq) (hx:me l) (dW:eG l) (e:Version×aK) (he:e.2.oA.length≤1000∧0≤e.2.bK∧e.2.bK≤1000000000000) (D:TM) (hD:∀ v t,bj D v=some t→t.oA.length≤1001):
 yr l m e D=some (.inl ((eu l m e.1).foldl (Rj e.2) D)):=by
 have hl:=hx.1
 have hlen:(eu l m e.1).length≤l.length:=aS _ _
 unfold yr
 rw [Rc l m e.1 hx.2 (by omega)]
 simp only [aa]
 unfold CP
 exact nA (eu l m e.1) (fun (s:TM) (i:Int)=>(s,i)) (fun x:TM×Int=>qE e (eu l m e.1) x.1 x.2) (Rj e.2) (fun _ s=>∀ v t,bj s v=some t→t.oA.length≤1001) (fun s=>some (.inl s))
  (fun s i x h0 h1 hi hv=>by
   have w1:bA (i+1)=i+1:=bc (by omega) (by omega)
   have xL:=oD (vf hi)
   have lp:=(dW.1 x (re xL)).size
   have v2:bA (e.2.bK+x.ec)=e.2.bK+x.ec:=bc (by omega) (by omega)
   have hlc:(Dj e.2 x).oA.length≤1001:=by simp [Dj];omega
   constructor
   ·show qE e (eu l m e.1) s i=_
    unfold qE
    rw [if_pos h1,hi]
    simp only [aa]
    have yF:jh e.2.oA=some e.2.oA:=by
     unfold jh;rw [mQ (by simp;omega)];simp
    rw [yF]
    simp only [aa]
    rw [mQ (by simp;omega)]
    simp only [aa]
    unfold sU Rj
    have put:∀ c,c=true→nw e s i x (e.2.oA++[x.Version]) c=some (.inl (dX s x.Version (Dj e.2 x),i+1)):=by
     intro c hc
     unfold nw vl
     rw [if_pos hc,v2,w1];rfl
    have skip:∀ c,c=false→nw e s i x (e.2.oA++[x.Version]) c=some (.inl (s,i+1)):=by
     intro c hc
     unfold nw vl
     rw [if_neg (by simp [hc]),w1]
    cases hg:bj s x.Version with
    | none=>
      simp only [fd,d6,aa,fn,if_true]
      exact put true rfl
    | some o=>
      simp only [ci,d7,aa,fs,b8,if_false,v2]
      by_cases c1:e.2.bK+x.ec < o.bK
      ·rw [if_pos c1,if_pos (show Ov (Dj e.2 x) o from .inl c1)]
       exact put true rfl
      ·rw [if_neg c1]
       by_cases c2:e.2.bK+x.ec=o.bK
       ·rw [if_pos c2,Rg _ _ (by simp;omega) (by have:=hv _ o hg;omega)]
        simp only [aa]
        by_cases c3:mG dL (e.2.oA++[x.Version]) o.oA < 0
        ·rw [if_pos (show Ov (Dj e.2 x) o from .inr ⟨c2,c3⟩)]
         exact put _ (by simp [c3])
        ·rw [if_neg (show ¬ Ov (Dj e.2 x) o from fun k=>k.elim c1 (fun k=>c3 k.2))]
         exact skip _ (by simp [c3])
       ·rw [if_neg c2,if_neg (show ¬ Ov (Dj e.2 x) o from fun k=>k.elim c1 (fun k=>c2 k.1))]
        exact skip false rfl
   ·intro v t ht
    unfold Rj at ht
    have put:bj (dX s x.Version (Dj e.2 x)) v=some t→t.oA.length≤1001:=by
     intro ht
     rw [gM] at ht
     split at ht
     ·obtain rfl:=ac ht;exact hlc
     ·exact hv v t ht
    cases hg:bj s x.Version with
    | none=>rw [hg] at ht;exact put ht
    | some o=>
      rw [hg] at ht
      simp only at ht
      split at ht
      ·exact put ht
      ·exact hv v t ht)
  (fun s hv=>by
   show qE e (eu l m e.1) s (eu l m e.1).length=_
   unfold qE
   rw [if_neg (by omega)]) D hD
theorem Rl (l:List ar) (m:bq) (hx:me l) (dW:eG l) (B:TM) (hB:∀ e∈B,e.2.oA.length≤1000∧0≤e.2.bK∧e.2.bK≤1000000000000) (k:Int) (hk:0≤k∧k≤1000):
 yu l m B k []=some (.inl (lvl l m B,k+1)):=by
 unfold yu
 refine Ls _ _ B [] _ (fun done D=>PD (tW l m done) D) PD.nil ?_ ?_
 ·intro done e rest D hp hD
  left
  have og:e∈B:=hp.mem_iff.1 (by simp)
  have pj:∀ z∈done,z∈B:=fun z hz=>hp.mem_iff.1 (by simp [hz])
  refine ⟨_,Rk l m hx dW e (hB e og) D (fun v t ht=>?_),?_⟩
  ·have:=hD.sound v t ht
   unfold tW at this
   obtain ⟨z,hz,h1⟩:=d8.1 this
   obtain ⟨x,hx2,h2⟩:=ap.1 h1
   have hz2:=(hB z (pj z hz)).1
   rw [← (cl h2).2]
   simp [Dj];omega
  ·have h1:=PD.fold e.2 (eu l m e.1) _ _ hD
   have h2:tW l m done++(eu l m e.1).map (fun x=>(x.Version,Dj e.2 x))=tW l m (done++[e]):=by
    unfold tW;simp
   rw [h2] at h1
   exact h1
 ·intro p D hp hD
  unfold CQ
  rw [bc (by omega) (by omega)]
  have:D=lvl l m B:=hD.unique (OA l m B) (fun e=>by
   unfold tW
   rw [d8,d8]
   constructor
   ·rintro ⟨z,h1,h2⟩;exact ⟨z,hp.mem_iff.1 h1,h2⟩
   ·rintro ⟨z,h1,h2⟩;exact ⟨z,hp.mem_iff.2 h1,h2⟩)
  rw [this]
def L9 (B:TM) (v:Version):Option (List Version×Int):=(bj B v).map (fun t=>(t.oA,t.bK))
theorem OB (l:List ar) (m:bq) (dW:eG l) (fr:Version) (k:Nat) (B:TM) (hs:SM B) (L:Net.Level (xZ l m) fr k (L9 B)):SM (lvl l m B)∧Net.Level (xZ l m) fr (k+1) (L9 (lvl l m B)):=by
 have P:=OA l m B
 have Xr:∀ v t,(v,t)∈tW l m B↔∃ u s,(u,s)∈B∧∃ x∈eu l m u,x.Version=v∧t=Dj s x:=by
  intro v t
  unfold tW
  rw [d8]
  constructor
  ·rintro ⟨⟨u,s⟩,h1,h2⟩
   obtain ⟨x,h3,h4⟩:=ap.1 h2
   exact ⟨u,s,h1,x,h3,(cl h4).1,(cl h4).2.symm⟩
  ·rintro ⟨u,s,h1,x,h2,rfl,rfl⟩
   exact ⟨(u,s),h1,ap.2 ⟨x,h2,rfl⟩⟩
 refine ⟨P.sm,Net.Level.next (own:=fX l m) (xc dW) L (fun v t ht=>?_) (fun u s x hu xL=>?_)⟩
 ·unfold L9 at ht
  obtain ⟨t',h1,rfl⟩:=a7.1 ht
  obtain ⟨u,s,h2,x,h3,h4,rfl⟩:=(Xr v t').1 (P.sound v t' h1)
  exact ⟨u,(s.oA,s.bK),x,by unfold L9;rw [hs.BL.2 h2];rfl,h3,h4,rfl⟩
 ·unfold L9 at hu
  obtain ⟨s',h1,rfl⟩:=a7.1 hu
  obtain ⟨t,h2,h3⟩:=P.yy x.Version (Dj s' x) ((Xr _ _).2 ⟨u,s',hs.BL.1 h1,x,xL,rfl,rfl⟩)
  exact ⟨(t.oA,t.bK),by unfold L9;show d3 _ (bj (lvl l m B) x.Version)=_;rw [h2];rfl,h3⟩
theorem HR (l:List ar) (m:bq) (fr to:Version) (hx:me l) (dW:eG l):∀ (j:Nat) (k:Nat) (B:TM),k+j=l.length+1→SM B→Net.Level (xZ l m) fr k (L9 B)→(∀ q,(xZ l m).ji fr q to→k≤q.length)→
 (∃ p,(xZ l m).Br fr to p∧qF l m to B k=some (p.map ar.Version,true))∨((∀ q,(xZ l m).ji fr q to→l.length+1≤q.length)∧qF l m to B k=some ([],false)):=by
 have hl:=hx.1
 have wl:bA ((l.length:Int)+1)=(l.length:Int)+1:=bc (by omega) (by omega)
 intro j
 induction j with
 | zero=>
   intro k B hk hs L hq
   right
   refine ⟨fun q h=>by have:=hq q h;omega,?_⟩
   unfold qF
   rw [iter_eq]
   show (oP l m to B k).bind _=_
   unfold oP
   rw [wl,if_neg (by omega)];rfl
 | succ j ih=>
   intro k B hk hs L hq
   unfold qF
   rw [iter_eq]
   show (∃ p,_∧(oP l m to B k).bind _=_)∨(_∧(oP l m to B k).bind _=_)
   have e:oP l m to B k=match bj B to with
    | some t=>some (.inr (t.oA,true))
    | none=>some (.inl (lvl l m B,(k:Int)+1)):=by
    unfold oP
    rw [wl,if_pos (by omega)]
    unfold sU
    simp only [aa]
    cases hg:bj B to with
    | some t=>rfl
    | none=>
      simp only [d6,b8,if_false]
      exact Rl l m hx dW B (fun e he=>by
       obtain ⟨p,h1,h2,h3,h4⟩:=L.sound e.1 (e.2.oA,e.2.bK) (by unfold L9;rw [hs.BL.2 he];rfl)
       have:=Jt dW.1 (xd h1)
       simp only at h3 h4
       rw [h3,h4]
       simp only [ce]
       omega) k ⟨by omega,by omega⟩
   rw [e]
   cases hg:bj B to with
   | some t=>
     left
     obtain ⟨p,h1,h2,h3,h4⟩:=L.sound to (t.oA,t.bK) (by unfold L9;rw [hg];rfl)
     refine ⟨p,⟨h1,fun q hw=>?_⟩,?_⟩
     ·have h5:=hq q hw
      by_cases h6:q.length=k
      ·obtain ⟨t',h7,h8⟩:=L.yy to q hw h6
       unfold L9 at h7
       rw [hg] at h7
       obtain rfl:=ac h7
       simp only at h3 h4 h8
       unfold Net.Le
       rw [← h3,← h4]
       right
       exact ⟨by omega,h8⟩
      ·left;omega
     ·simp only at h3 ⊢
      rw [h3];rfl
   | none=>
     obtain ⟨g1,g2⟩:=OB l m dW fr k B hs L
     have:=ih (k+1) (lvl l m B) (by omega) g1 g2 (fun q hw=>by
      have h5:=hq q hw
      by_cases h6:q.length=k
      ·obtain ⟨t',h7,h8⟩:=L.yy to q hw h6
       unfold L9 at h7
       rw [hg] at h7;cases h7
      ·omega)
     simp only [aa,bh]
     unfold qF at this
     exact_mod_cast this
theorem Db (l:List ar) (m:bq) (fr to:Version) (hx:me l) (dW:eG l):
 (∃ p,(xZ l m).Br fr to p∧kY l m fr to=some (p.map ar.Version,true))∨((∀ q,(xZ l m).ji fr q to→l.length+1≤q.length)∧kY l m fr to=some ([],false)):=by
 unfold kY
 have hg:∀ v,bj (dX ([]:TM) fr ⟨[],0⟩) v=if fr=v then some ⟨[],0⟩ else none:=fun v=>by rw [gM];rfl
 have:=HR l m fr to hx dW (l.length+1) 0 (dX ([]:TM) fr ⟨[],0⟩) (by omega) (SM.nil.set _ _) (Net.Level.zero fr _ (fun v=>by
  unfold L9
  rw [hg]
  by_cases e:fr=v
  ·rw [if_pos e,if_pos e.symm];rfl
  ·rw [if_neg e,if_neg (fun k=>e k.symm)];rfl)) (fun q _=>by omega)
 exact this
abbrev WM:=List (bq×List (Version×ak))
def xH (im:List ar) (to:Version) (K:WM):Prop:=∀ m M,bj K m=some M→sD im m to M∧(xZ im m).vI (fX im m) to (DK M)
theorem xH.nil (im:List ar) (to:Version):xH im to []:=fun m M h=>by rw [wL] at h;cases h
theorem xH.set {im:List ar} {to:Version} {K:WM} (h:xH im to K) {m:bq} {M:List (Version×ak)} (hM:sD im m to M∧(xZ im m).vI (fX im m) to (DK M)):xH im to (dX K m M):=fun k M' hk=>by
 rw [gM] at hk
 split at hk
 ·rename_i he
  obtain rfl:=ac hk
  subst he;exact hM
 ·exact h k M' hk
noncomputable def xI (im:List ar) (to:Version) (d:DeviceS) (v:Version):Option eo:=
 match kY im d.Model v to with
 | some (w0 :: _,true)=>(im.find? fun x=>decide (x.Version=w0)).map fun x=>⟨d.Key,w0,x.ec⟩
 | _=>none
theorem Sg (im:List ar) (m:bq) (v to:Version) (M:List (Version×ak)):j6 im m v to M=kU im m v to M:=rfl
theorem LR (im:List ar) (hl:(im.length:Int)≤1000) (w0:Version) (r:List Version):cT im (fun y0=>dx y0 (w0 :: r))=some (kW (fun x:ar=>decide (x.Version=w0)) im 0):=by
 refine qS im (fun y0=>dx y0 (w0 :: r)) (fun x:ar=>decide (x.Version=w0)) (fun x _=>?_) (by omega)
 unfold dx
 rw [show idx (w0 :: r) (0:Int)=some w0 from rfl];rfl
theorem OC (p:ar→Bool) (xs:List ar):(kW p xs 0 < 0∧xs.find? p=none)∨∃ y,0≤kW p xs 0∧idx xs (kW p xs 0)=some y∧xs.find? p=some y:=by
 rcases wJ p xs 0 (by omega) with ⟨e1,e2⟩ | ⟨e1,e2,e3,y,e4,e5⟩
 ·exact .inl ⟨by omega,bG.2 fun x hx=>by rw [e2 x hx];simp⟩
 ·right
  refine ⟨y,e1,?_,?_⟩
  ·unfold idx
   rw [if_pos e1]
   simpa using e4
  ·generalize kW p xs 0=k at e1 e2 e3 e4
   rw [show (k - 0).toNat=k.toNat by simp] at e3 e4
   obtain ⟨h,e4'⟩:=hE.1 e4
   conv=>lhs;rw [← dd k.toNat xs]
   rw [fz,bG.2 (fun x hx=>by rw [e3 x hx];simp),e8 h,e4']
   simp [e5]
structure aa4 (im:List ar) (m:bq) (v to:Version) (W:List Version) (ok:Bool):Prop where
 prog:∀ M,sD im m to M→(xZ im m).vI (fX im m) to (DK M)→kU im m v to M=some (W,ok)
 ref:kY im m v to=some (W,ok)
 non:ok=true→v≠to→∃ w0 r,W=w0 :: r∧∃ x∈im,x.Version=w0
 emp:ok=false→W=[]
theorem Dc (im:List ar) (hx:me im) (dW:eG im) (m:bq) (v to:Version):∃ W ok,aa4 im m v to W ok:=by
 have hl:=hx.1
 rcases Db im m v to hx dW with ⟨q,k1,k2⟩ | ⟨k1,k2⟩
 ·refine ⟨q.map ar.Version,true,fun M hM C=>?_,k2,fun _ hv=>?_,fun h=>(by cases h)⟩
  ·rcases Jv im m v to hx dW M hM C with ⟨p,h1,h2,h3⟩ | ⟨h1,h3⟩
   ·have e:p.map ar.Version=q.map ar.Version:=Net.Br.unique (xZ im m) (xc dW) h1 k1
    rw [h3,e]
   ·exact absurd k1.1 (h1 q)
  ·cases q with
   | nil=>exact absurd (Net.ji.nil _|>.1 k1.1) hv
   | cons y r=>
     have:=xd k1.1 y (by simp)
     exact ⟨y.Version,r.map ar.Version,rfl,y,re this,rfl⟩
 ·refine ⟨[],false,fun M hM C=>?_,k2,fun h=>(by cases h),fun _=>rfl⟩
  rcases Jv im m v to hx dW M hM C with ⟨p,h1,h2,h3⟩ | ⟨h1,h3⟩
  ·have:=k1 p h1.1
   omega
  ·exact h3
theorem OD (im:List ar) (hx:me im) (dW:eG im) (to:Version) (K:WM) (hK:xH im to K) (d:DeviceS) (v:Version) (hv:v≠to):
 ∃ K' x b,gI ⟨im,to,K⟩ d.Model v=some (x,b,⟨im,to,K'⟩)∧xH im to K'∧((b=false∧xI im to d v=none)∨(b=true∧xI im to d v=some ⟨d.Key,x.Version,x.ec⟩)):=by
 have hl:=hx.1
 obtain ⟨W,ok,hW⟩:=Dc im hx dW d.Model v to
 have tail:∀ K':WM,xH im to K'→∀ f:Bool→Option (ar×Bool×aM),(∀ c:Bool,f c=if c=true then some (⟨⟨0,0,0⟩,[],[],0⟩,false,⟨im,to,K'⟩) else (cT im (fun y0=>dx y0 W)).bind fun k=>(idx im k).bind fun x=>some (x,true,⟨im,to,K'⟩))→
  ∃ K' x b,f ((!ok)||decide ((W.length:Int)=0))=some (x,b,⟨im,to,K'⟩)∧xH im to K'∧((b=false∧xI im to d v=none)∨(b=true∧xI im to d v=some ⟨d.Key,x.Version,x.ec⟩)):=by
  intro K' hK' f hf
  rw [hf]
  cases ok with
  | false=>
    rw [if_pos (by simp)]
    refine ⟨K',_,false,rfl,hK',.inl ⟨rfl,?_⟩⟩
    unfold xI
    rw [hW.ref,hW.emp rfl]
  | true=>
    obtain ⟨w0,r,e,x,xL,hxv⟩:=hW.non rfl hv
    rw [e,if_neg (by simp;omega),LR im (by omega) w0 r]
    simp only [aa]
    rcases OC (fun x:ar=>decide (x.Version=w0)) im with ⟨_,e2⟩ | ⟨y,e1,e2,e3⟩
    ·rw [bG] at e2
     exact absurd (by simpa using hxv) (e2 x xL)
    ·rw [e2]
     have hy:y.Version=w0:=by simpa using e7 e3
     refine ⟨K',y,true,rfl,hK',.inr ⟨rfl,?_⟩⟩
     unfold xI
     rw [hW.ref,e]
     simp only
     rw [e3,hy];rfl
 unfold gI
 simp only
 cases hm:bj K d.Model with
 | none=>
   rw [AH]
   obtain ⟨M,e,hM,C⟩:=Da im d.Model to hx dW
   rw [e]
   simp only [aa]
   rw [Sg,hW.prog M hM C]
   simp only [aa]
   exact tail (dX K d.Model M) (hK.set ⟨hM,C⟩) (fun c=>jr ⟨im,to,K⟩ d.Model M (W,ok) c) (fun c=>rfl)
 | some M=>
   rw [rm]
   obtain ⟨hM,C⟩:=hK _ M hm
   rw [Sg,hW.prog M hM C]
   simp only [aa]
   exact tail K hK (fun c=>js ⟨im,to,K⟩ (W,ok) c) (fun c=>rfl)
def tx (x:aj):Bool:=decide (x.ah.Kind=1)||decide (x.ah.Kind=2)
theorem Rm (x:aj):ot x=tx x:=by
 unfold ot nJ tx
 by_cases h:x.ah.Kind=1<;>simp [h]
noncomputable def oR (c:Campaign) (dn:List MarkS) (nb:Nat) (s:Int×List DeviceS) (d:DeviceS):Int×List DeviceS:=
 if tx (eP c dn d)=true then (s.1 - 1,s.2) else if mE c d.Key < nb∧uu c (eP c dn d)=false then (s.1,s.2++[d]) else s
theorem FR (c:Campaign) (dn:List MarkS) (nb:Nat):∀ (fl:List DeviceS) (s:Int×List DeviceS),∃ L,(fl.foldl (oR c dn nb) s).2=s.2++L∧L.Sublist fl∧(∀ d∈L,uu c (eP c dn d)=false∧tx (eP c dn d)=false)∧s.1 - fl.length≤(fl.foldl (oR c dn nb) s).1∧(fl.foldl (oR c dn nb) s).1≤s.1
 | [],s=>⟨[],by simp,dg _,fun d hd=>(by cases hd),by simp,by simp⟩
 | d :: r,s=>by
   obtain ⟨L,h1,h2,h3,h4,h5⟩:=FR c dn nb r (oR c dn nb s d)
   rw [aw,ai]
   unfold oR at h1 h4 h5
   by_cases hb:tx (eP c dn d)=true
   ·rw [if_pos hb] at h1 h4 h5
    refine ⟨L,?_,h2.cons d,h3,?_,?_⟩
    ·unfold oR;rw [if_pos hb];exact h1
    ·unfold oR;rw [if_pos hb];simp only at h4 ⊢;omega
    ·unfold oR;rw [if_pos hb];simp only at h5 ⊢;omega
   ·rw [if_neg hb] at h1 h4 h5
    by_cases hw:mE c d.Key < nb∧uu c (eP c dn d)=false
    ·rw [if_pos hw] at h1 h4 h5
     refine ⟨d :: L,?_,h2.cons_cons d,fun x hx=>?_,?_,?_⟩
     ·unfold oR;rw [if_neg hb,if_pos hw]
      refine h1.trans ?_
      simp
     ·rcases af.1 hx with rfl | hx
      ·exact ⟨hw.2,by simpa using hb⟩
      ·exact h3 x hx
     ·unfold oR;rw [if_neg hb,if_pos hw];simp only at h4 ⊢;omega
     ·unfold oR;rw [if_neg hb,if_pos hw];simp only at h5 ⊢;omega
    ·rw [if_neg hw] at h1 h4 h5
     refine ⟨L,?_,h2.cons d,h3,?_,?_⟩
     ·unfold oR;rw [if_neg hb,if_neg hw];exact h1
     ·unfold oR;rw [if_neg hb,if_neg hw];omega
     ·unfold oR;rw [if_neg hb,if_neg hw];exact h5
noncomputable def Ij (im:List ar) (to:Version) (room:Int) (v:DeviceS→Version):List DeviceS→List eo→List eo
 | [],out=>out
 | d :: r,out=>if room≤out.length then out else match xI im to d (v d) with
   | none=>Ij im to room v r out
   | some o=>Ij im to room v r (out++[o])
theorem FT (im:List ar) (to:Version) (room:Int) (v:DeviceS→Version):∀ (l:List DeviceS) (out:List eo),(Ij im to room v l out).length≤out.length+l.length
 | [],out=>ds _
 | d :: r,out=>by
   unfold Ij
   split
   ·omega
   ·split
    ·have:=FT im to room v r out
     simp only [ai];omega
    ·rename_i o _
     have:=FT im to room v r (out++[o])
     simp only [ai,bp,d1] at this ⊢;omega
theorem FU (im:List ar) (to:Version) (room:Int) (v:DeviceS→Version):∀ (l:List DeviceS) (out:List eo),∃ M:List bq,(Ij im to room v l out).map eo.Device=out.map eo.Device++M∧M.Sublist (l.map DeviceS.Key)
 | [],out=>⟨[],by simp [Ij],dg _⟩
 | d :: r,out=>by
   unfold Ij
   split
   ·exact ⟨[],by simp,List.nil_sublist _⟩
   ·split
    ·obtain ⟨M,m1,m2⟩:=FU im to room v r out
     exact ⟨M,m1,m2.cons _⟩
    ·rename_i o ho
     obtain ⟨M,m1,m2⟩:=FU im to room v r (out++[o])
     have hk:o.Device=d.Key:=by
      unfold xI at ho
      split at ho
      all_goals first | (obtain ⟨x,_,rfl⟩:=a7.1 ho;rfl) | cases ho
     refine ⟨o.Device :: M,?_,?_⟩
     ·rw [m1];simp
     ·rw [hk];exact m2.cons_cons _
theorem LS {c:Campaign} {fl:List DeviceS} {s:CS} {dn:List MarkS} (hc:ga c) (hf:iP fl) (DO:(fl.length:Int)≤500) (h:SI c fl s dn) (w:aM):
 lh s w fl c.Room [] 0=fT s w (fl.foldl (oR c dn s.aE.length) (c.Room,[])).1 (fl.foldl (oR c dn s.aE.length) (c.Room,[])).2:=by
 have xK:=hc.room
 unfold lh
 refine nA fl (fun (q:Int×List DeviceS) i=>(q.1,q.2,i)) _ (oR c dn s.aE.length) (fun i q=>(q.2.length:Int)≤i∧c.Room - i≤q.1∧q.1≤c.Room) (fun q=>fT s w q.1 q.2) (fun q i d h0 h1 hd hI=>?_) (fun q hI=>?_) (c.Room,[]) ⟨by simp,by simp,by simp⟩
 ·obtain ⟨h01,h02,E1⟩:=eR hd
  have hi:=FG hf h.kM E1
  have T2:=vf hd
  have WX:idx s.iA ((i.toNat:Nat):Int)=some (eP c dn d):=by
   rw [h.iA]
   refine mX ?_
   rw [it,E1];rfl
  constructor
  ·simp only
   unfold et
   rw [if_pos h1,hd]
   simp only [aa]
   rw [hi,rm,WX]
   simp only [aa]
   rw [Rm]
   unfold oR
   by_cases hb:tx (eP c dn d)=true
   ·rw [if_pos hb,if_pos hb]
    unfold er
    rw [bc (x:=q.1 - 1) (by omega) (by omega),bc (x:=i+1) (by omega) (by omega)]
   ·rw [if_neg hb,if_neg hb]
    unfold nU
    rw [FH hf h.cj T2]
    simp only [ci,aa]
    unfold iB fQ er
    rw [bc (x:=i+1) (by omega) (by omega)]
    have WY:((!(bZ s (eP c dn d)))&&(!(cQ s (eP c dn d))))=!(uu c (eP c dn d)):=by
     rw [← Bool.not_or,Sd,h.c_]
    rw [WY]
    by_cases hw:mE c d.Key < s.aE.length∧uu c (eP c dn d)=false
    ·rw [if_pos hw,if_pos (by simp [hw.1,hw.2]),mQ (by simp;omega)];rfl
    ·rw [if_neg hw,if_neg]
     intro WZ
     simp only [ad,decide_eq_true_eq,Bool.not_eq_true'] at WZ
     exact hw ⟨by omega,WZ.2⟩
  ·unfold oR
   split
   ·simp only;omega
   ·split
    ·simp only [bp,ai,d1];omega
    ·omega
 ·simp only
  unfold et
  rw [if_neg (by omega)]
theorem LU {c:Campaign} {fl:List DeviceS} {s:CS} {dn:List MarkS} (hc:ga c) (hf:iP fl) (h:SI c fl s dn) (im:List ar) (hx:me im) (dW:eG im) (room:Int) (Z:List DeviceS) (hZ:∀ d∈Z,d∈fl∧uu c (eP c dn d)=false) (hl:(Z.length:Int)≤1000):
 ∀ (k:Nat) (i:Int) (K:WM) (out:List eo),0≤i→i+k=Z.length→xH im c.Target K→(out.length:Int)≤i→
 ∃ K',fS s room Z im c.Target.ax c.Target.aA c.Target.aC K out i=some (Ij im c.Target room (fun d=>(eP c dn d).ah.Version) (Z.drop i.toNat) out,⟨im,c.Target,K'⟩)∧xH im c.Target K':=by
 have sQ:∀ (K:WM) (out:List eo) (i:Int),fS s room Z im c.Target.ax c.Target.aA c.Target.aC K out i=(dA s room Z im c.Target.ax c.Target.aA c.Target.aC K out i).bind (after fun x=>fS s room Z x.1 x.2.1 x.2.2.1 x.2.2.2.1 x.2.2.2.2.1 x.2.2.2.2.2.1 x.2.2.2.2.2.2):=fun K out i=>by
  conv=>lhs;unfold fS
  rw [iter_eq];rfl
 intro k
 induction k with
 | zero=>
   intro i K out h0 hk hK ho
   refine ⟨K,?_,hK⟩
   rw [sQ]
   unfold dA
   rw [if_neg (by omega),aW,cc (by omega)]
   rfl
 | succ k ih=>
   intro i K out h0 hk hK ho
   obtain ⟨d,hd,T2,Sa⟩:=fe Z h0 (by omega)
   obtain ⟨Gu,hdo⟩:=hZ d T2
   obtain ⟨j,hj,Xn⟩:=cU Gu
   have UJ:fl[j]? =some d:=by rw [bW hj,Xn]
   have hi:=FG hf h.kM UJ
   have WX:idx s.iA (j:Int)=some (eP c dn d):=by
    rw [h.iA]
    refine mX ?_
    rw [it,UJ];rfl
   have hv:(eP c dn d).ah.Version≠c.Target:=fun e=>by
    unfold uu at hdo
    rw [e] at hdo
    simp at hdo
   rw [sQ,Sa]
   unfold dA Ij
   rw [if_pos (by omega),hd]
   simp only [aa]
   by_cases hr:room≤out.length
   ·rw [if_pos hr,if_pos hr,aW]
    exact ⟨K,rfl,hK⟩
   ·rw [if_neg hr,if_neg hr,hi]
    simp only [aa]
    rw [WX]
    simp only [aa]
    obtain ⟨K',x,b,f1,f2,f3⟩:=OD im hx dW c.Target K hK d (eP c dn d).ah.Version hv
    have f1':gI ⟨im,⟨c.Target.ax,c.Target.aA,c.Target.aC⟩,K⟩ d.Model (eP c dn d).ah.Version=some (x,b,⟨im,c.Target,K'⟩):=f1
    rw [f1']
    simp only [aa]
    unfold fR
    rw [bc (by omega) (by omega)]
    rcases f3 with ⟨rfl,f4⟩ | ⟨rfl,f4⟩
    ·rw [if_neg (by simp),f4]
     simp only [aa,bh]
     exact ih (i+1) K' out (by omega) (by omega) f2 (by omega)
    ·rw [if_pos rfl,f4,mQ (by simp;omega)]
     simp only [aa,bh]
     exact ih (i+1) K' _ (by omega) (by omega) f2 (by simp;omega)
theorem Al {α:Type} {p q:α→Bool}:∀ {xs:List α},(∀ x∈xs,p x=q x)→xs.find? p=xs.find? q
 | [],_=>rfl
 | x :: r,h=>by
   rw [bx,bx,h x (by simp),Al (fun y hy=>h y (al _ hy))]
theorem key_inj {fl:List DeviceS} (hf:iP fl) {a b:DeviceS} (ha:a∈fl) (hb:b∈fl) (h:a.Key=b.Key):a=b:=by
 obtain ⟨i,hi,ea⟩:=cU ha
 obtain ⟨j,hj,eb⟩:=cU hb
 have e:=vo hf.NV i j a b (by rw [bW hi,ea]) (by rw [bW hj,eb]) h
 subst e
 rw [← ea,eb]
theorem KJ (p:MarkS→Bool) (k:bq) (hp:∀ m,p m=true→m.Device=k):∀ (Z:List MarkS) (x:aj),(Z.map MarkS.Device).Nodup→(Z.filter p).foldl tw x=x∨∃ m∈Z,m.Device=k∧(Z.filter p).foldl tw x=tw x m
 | [],x,_=>.inl rfl
 | m :: r,x,h=>by
   rw [bX,fb] at h
   rw [aL]
   split
   ·rename_i hm
    have e:r.filter p=[]:=by
     rw [b6]
     intro y hy W0
     exact h.1 (ap.2 ⟨y,hy,by rw [hp y W0,hp m hm]⟩)
    rw [e]
    exact .inr ⟨m,by simp,hp m hm,rfl⟩
   ·rcases KJ p k hp r x h.2 with e | ⟨y,hy,e1,e2⟩
    ·exact .inl e
    ·exact .inr ⟨y,al _ hy,e1,e2⟩
theorem FV (c:Campaign) (l Z:List MarkS) (hZ:(Z.map MarkS.Device).Nodup) (d:DeviceS):eP c (l++Z) d=eP c l d∨∃ m∈Z,m.Device=d.Key∧eP c (l++Z) d=tw (eP c l d) m:=by
 unfold eP
 rw [bo,bi]
 exact KJ (oQ c d.Key) d.Key (fun m hm=>by unfold oQ at hm;simp only [ad,decide_eq_true_eq] at hm;exact hm.1) Z _ hZ
structure U4 (c:Campaign) (fl:List DeviceS) (l:List MarkS) (t:Int) (m:MarkS):Prop where
 at_:m.At=t
 kind:1≤m.Kind∧m.Kind≤4
 dev:∃ d∈fl,d.Key=m.Device∧uu c (eP c l d)=false
def JB (c:Campaign) (fl:List DeviceS) (l:List MarkS):Prop:=∀ d∈fl,tx (eP c l d)=true→uu c (eP c l d)=false
section
variable {c:Campaign} {fl:List DeviceS} {l Z:List MarkS} {t:Int} (hf:iP fl) (hN:(Z.map MarkS.Device).Nodup) (hP:∀ m∈Z,U4 c fl l t m)
include hf hN hP
theorem LV {d:DeviceS} (hd:d∈fl) (ho:uu c (eP c l d)=true):eP c (l++Z) d=eP c l d:=by
 rcases FV c l Z hN d with e | ⟨m,hm,e1,_⟩
 ·exact e
 ·obtain ⟨d',h1,h2,h3⟩:=(hP m hm).dev
  have:=key_inj hf h1 hd (by rw [h2,e1])
  rw [this,ho] at h3
  cases h3
theorem Rn (hJ:JB c fl l):JB c fl (l++Z):=by
 intro d hd hb
 rcases FV c l Z hN d with e | ⟨m,hm,e1,e2⟩
 ·rw [e] at hb ⊢;exact hJ d hd hb
 ·obtain ⟨d',h1,h2,h3⟩:=(hP m hm).dev
  have hk:=(hP m hm).kind
  rw [key_inj hf h1 hd (by rw [h2,e1])] at h3
  rw [e2] at hb ⊢
  unfold tw at hb ⊢
  split
  ·rename_i ho
   rw [if_pos ho] at hb
   unfold tx wX at hb
   simp only [cb,decide_eq_true_eq] at hb
   unfold uu at h3 ⊢
   unfold wX
   simp only
   rw [if_neg (by omega),if_neg (by omega),decide_eq_false (show ¬ m.Kind=5 by omega)]
   cases a:decide ((eP c l d).ah.Version=c.Target)<;>cases b:decide ((3:Int)≤(eP c l d).ah.ct)<;>simp_all
  ·exact h3
end
section
variable {c:Campaign} {fl:List DeviceS} {l Z:List MarkS} {t:Int} (ew:∀ x∈l,x.At < t) (hZt:∀ m∈Z,m.At=t)
include ew hZt
theorem W1 {d:DeviceS} {τ:Int} (h:τ < t):vn c d (l++Z) τ=vn c d l τ:=by
 unfold vn
 rw [bo]
 have:Z.filter (tj c d.Key τ)=[]:=by
  rw [b6]
  intro x hx
  have:=hZt x hx
  unfold tj
  simp only [ad,decide_eq_true_eq]
  omega
 rw [this,bv]
omit ew in
theorem OE {w:Nat} {τ:Int} (ew:∀ x∈l,x.At < t) (h:τ < t):jo c fl (l++Z) w τ=jo c fl l w τ:=by
 unfold jo
 congr 1
 funext d
 rw [W1 ew hZt h]
end
theorem Jx {c:Campaign} {d:DeviceS} {l:List MarkS} {t:Int} (h:∀ x∈l,x.At≤t):vn c d l t=eP c l d:=by
 have:=CY c d l l.length t (by rw [b4];exact h) (by rw [f0];intro x hx;cases hx)
 rw [b4] at this
 exact this.symm
section
variable {c:Campaign} {fl:List DeviceS} {l Z:List MarkS} {t:Int} (hf:iP fl) (hN:(Z.map MarkS.Device).Nodup) (hP:∀ m∈Z,U4 c fl l t m) (ew:∀ x∈l,x.At < t)
include hf hN hP ew
theorem Jy:∀ x∈l++Z,x.At≤t:=fun x hx=>by
 rcases a8.1 hx with h | h
 ·have:=ew x h;omega
 ·have:=(hP x h).at_;omega
theorem Uo {w:Nat} (h:jo c fl l w t=true):jo c fl (l++Z) w t=true:=by
 unfold jo at h ⊢
 rw [g8] at h ⊢
 intro d hd
 have:=h d hd
 rw [Jx (fun x hx=>by have:=ew x hx;omega)] at this
 rw [Jx (Jy hf hN hP ew)]
 cases a:decide (mE c d.Key=w)
 ·simp
 ·rw [a] at this
  have ho:uu c (eP c l d)=true:=by simpa using this
  rw [LV hf hN hP hd ho,ho];simp
theorem OF {f:Int} (Jc:f≤t):uX (l++Z) f t=uX l f t++Z.map MarkS.At:=by
 unfold uX
 rw [bo,fc]
 have:Z.filter (fun m=>decide (f≤m.At)&&decide (m.At≤t))=Z:=by
  rw [List.filter_eq_self]
  intro m hm
  have:=(hP m hm).at_
  simp;omega
 rw [this];rfl
omit hf hN hP in
theorem Sh {f:Int} (Jc:f < t):∀ x∈uX l f t,x < t:=fun x hx=>by
 unfold uX at hx
 rcases af.1 hx with e | h
 ·omega
 ·obtain ⟨m,hm,e⟩:=ap.1 h
  have:=ew m (a6.1 hm).1
  omega
omit hf hN hP in
theorem Si:uX l t t=[t]:=by
 unfold uX
 have:l.filter (fun m=>decide (t≤m.At)&&decide (m.At≤t))=[]:=by
  rw [b6]
  intro m hm
  have:=ew m hm
  simp;omega
 rw [this];rfl
theorem LW {w:Nat} {f τ:Int} (Jc:f≤t) (h:(uX l f t).find? (jo c fl l w)=some τ):(uX (l++Z) f t).find? (jo c fl (l++Z) w)=some τ:=by
 rw [OF hf hN hP ew Jc,fz]
 have:(uX l f t).find? (jo c fl (l++Z) w)=some τ:=by
  by_cases e:f=t
  ·subst e
   rw [Si ew] at h ⊢
   rw [bx] at h ⊢
   cases a:jo c fl l w f with
   | true=>rw [a] at h;rw [Uo hf hN hP ew a];exact h
   | false=>rw [a] at h;cases h
  ·rw [← h]
   exact Al (fun x hx=>OE (l:=l) (t:=t) (fun m hm=>(hP m hm).at_) ew (Sh ew (f:=f) (by omega) x hx))
 rw [this];rfl
theorem Am {bs:List Int} {v:Int} (hb:bs.length≠0→gq bs≤t) (h:cM c fl l t bs=some v):cM c fl (l++Z) t bs=some v:=by
 unfold cM at h ⊢
 split
 ·rename_i h0;rw [if_pos h0] at h;exact h
 ·rename_i h0
  rw [if_neg h0] at h
  split
  ·rename_i h1
   rw [if_pos h1] at h
   obtain ⟨τ,ht,e⟩:=a7.1 h
   rw [a7]
   exact ⟨τ,LW hf hN hP ew (hb h0) ht,e⟩
  ·rename_i h1;rw [if_neg h1] at h;cases h
theorem EI {bs:List Int} (h0:bs.length≠0) (hl:bs.length < c.aG.length) (hb:gq bs≤t) (h:cM c fl l t bs=none):
 cM c fl (l++Z) t bs=if jo c fl (l++Z) (bs.length - 1) t=true then some (t+(pV c bs.length).oo) else none:=by
 unfold cM at h ⊢
 rw [if_neg h0,if_pos hl] at h ⊢
 rw [cA] at h
 rw [OF hf hN hP ew hb,fz]
 have Dp:=bG.1 h
 have h1:(uX l (gq bs) t).find? (jo c fl (l++Z) (bs.length - 1))=if gq bs=t∧jo c fl (l++Z) (bs.length - 1) t=true then some t else none:=by
  by_cases e:gq bs=t
  ·rw [e,Si ew,bx]
   cases a:jo c fl (l++Z) (bs.length - 1) t<;>simp
  ·rw [if_neg (fun x=>e x.1),Al (fun x hx=>OE (l:=l) (t:=t) (fun m hm=>(hP m hm).at_) ew (Sh ew (f:=gq bs) (by omega) x hx)),h]
 have h2:(Z.map MarkS.At).find? (jo c fl (l++Z) (bs.length - 1))=if Z≠[]∧jo c fl (l++Z) (bs.length - 1) t=true then some t else none:=by
  cases Z with
  | nil=>simp
  | cons m r=>
    have pX:∀ x∈m :: r,x.At=t:=fun x hx=>(hP x hx).at_
    cases a:jo c fl (l++m :: r) (bs.length - 1) t with
    | true=>rw [bX,bx,pX m (by simp),a];simp
    | false=>
      rw [if_neg (by simp),bG]
      intro x hx
      obtain ⟨y,hy,e⟩:=ap.1 hx
      rw [← e,pX y hy,a];simp
 rw [h1,h2]
 by_cases a:jo c fl (l++Z) (bs.length - 1) t=true
 ·rw [if_pos a]
  by_cases e:gq bs=t
  ·rw [if_pos ⟨e,a⟩];rfl
  ·rw [if_neg (fun x=>e x.1)]
   by_cases z:Z=[]
   ·exfalso
    subst z
    rw [bv] at a
    obtain ⟨τ,t1,t2,t3⟩:=KA (l:=l) (gq bs) t hb
    rw [← Ai (c:=c) (fl:=fl) (l:=l) (t:=τ) (t':=t) t2 t3 (bs.length - 1)] at a
    exact Dp τ t1 a
   ·rw [if_pos ⟨z,a⟩];rfl
 ·rw [if_neg a,if_neg (fun x=>a x.2),if_neg (fun x=>a x.2)];rfl
theorem OG {S S':Int} (hS:S < 0) (hS':S' < 0) {bs:List Int} (hc:ga c) (h:Ih c fl l t S bs):Ih c fl (l++Z) t S' bs:=by
 induction h with
 | nil=>exact .nil
 | snoc h hl hn hx hb ih=>exact .snoc ih hl (Am hf hN hP ew (vq hc h).2.2 hn) hx (by omega)
end
theorem HT {c:Campaign} {fl:List DeviceS} {s:CS} {dn:List MarkS} (hc:ga c) (h:SX c fl s dn) (T:Int):Ok (bD s T) (fun r=>w4 r s∧SX c fl r dn):=by
 refine (NW s T (by rw [h.open_,h.c_]) (by rw [h.c_];exact hc.len) (by rw [h.c_];exact h.bg) (by rw [h.c_];exact h.nx)).mono ?_
 rintro r ⟨bs,nx,rfl,h1,h2⟩
 rw [h.c_] at h1 h2
 exact ⟨⟨rfl,rfl,rfl,rfl⟩,⟨⟨h.c_,h.kM,h.cj,h.iA,h.open_,h.ba,h.aO,h1,h2⟩,h.U1,h.en,h.fa,h.sp⟩⟩
def Up (c:Campaign) (fl:List DeviceS) (l:List MarkS) (t:Int) (x:List Int×Int):Prop:=
 Ih c fl l t (SA c fl l) x.1∧(0≤x.2→cM c fl l t x.1=some x.2)∧
 (x.2 < 0→x.2=-1∧x.1.length≠0∧(x.1.length < c.aG.length→cM c fl l t x.1=if jo c fl l (x.1.length - 1) t=true then some (t+(pV c x.1.length).oo) else none))∧
 ∀ v,cM c fl l t x.1=some v→t≤v
theorem HU {c:Campaign} {fl:List DeviceS} {l:List MarkS} {s:CS} {t:Int} (H:BP c fl l) (h:SX c fl s l) (ht:0≤t∧t≤345686399999) (h1:∀ x∈l,x.At≤t) (hS:SA c fl l < 0) (hI0:Up c fl l t (s.aE,s.bM)):
 Ok (bD s t) (fun r=>w4 r s∧SX c fl r l∧DI c fl l t (SA c fl l) r.aE r.bM):=by
 have hc:=H.c_
 have N7:=hc.len
 have hcm:=hc.Ig
 have h':SX c fl s (l.take l.length):=by rw [b4];exact h
 have KC:∀ {w:Nat},w < c.aG.length→(s.open_.getD w 0=0↔jo c fl l w t=true):=fun hw=>C2 h' (T:=t) (by rw [b4];exact h1) (by rw [f0];intro x hx;cases hx) hw
 unfold bD iS
 refine Ok.iter (fun x:List Int×Int=>c.aG.length - x.1.length) (Up c fl l t) ?_ _ hI0
 rintro ⟨l5,n6⟩ ⟨hR,hA,hB,hC⟩
 simp only at hR hA hB hC ⊢
 obtain ⟨r1,r2,r3⟩:=vq hc hR
 have Kq:∀ m:Int,bE s t l5 m false=bJ s t l5 m:=fun m=>by unfold bE;rw [if_neg (by simp)]
 have e1:bF s t l5 n6=bJ s t l5 ((cM c fl l t l5).getD (-1)):=by
  by_cases hn:0≤n6
  ·rw [hA hn]
   unfold bF
   rw [if_neg (by omega),Kq];rfl
  ·obtain ⟨rfl,k0,k2⟩:=hB (by omega)
   by_cases k1:l5.length < c.aG.length
   ·rw [k2 k1]
    have w1:bA ((l5.length:Int) - 1)=((l5.length - 1:Nat):Int):=by rw [bc]<;>omega
    unfold bF
    rw [if_pos (by omega),if_pos (by omega),h.c_,if_pos (by omega),w1,mg (l:=s.open_) (by rw [h.open_];omega)]
    simp only [aa]
    have KC:=KC (w:=l5.length - 1) (by omega)
    by_cases ha:jo c fl l (l5.length - 1) t=true
    ·rw [if_pos (KC.2 ha),if_pos ha]
     have SH:idx l5 ((l5.length - 1:Nat):Int)=some (gq l5):=by
      refine mX ?_
      unfold gq
      rw [eY]
      cases hx:l5[l5.length - 1]? with
      | none=>rw [e6] at hx;omega
      | some y=>rfl
     rw [SH]
     simp only [aa]
     have L8:=hc.wait _ (lZ k1)
     unfold bE
     rw [if_pos (by simpa using r3 k0),h.c_,w8 k1]
     simp only [aa]
     rw [bc (by omega) (by omega)];rfl
    ·rw [if_neg (fun e=>ha (KC.1 e)),if_neg ha,Kq];rfl
   ·have xa:cM c fl l t l5=none:=by unfold cM;rw [if_neg k0,if_neg k1]
    rw [xa]
    unfold bF
    rw [h.c_,if_pos (by omega),if_pos (by omega),if_neg (by omega),Kq];rfl
 rw [e1]
 generalize yx:(cM c fl l t l5).getD (-1)=n10
 unfold bJ eJ
 have HD:0≤n10→cM c fl l t l5=some n10:=by
  intro h0
  cases hx:cM c fl l t l5 with
  | none=>rw [hx] at yx;simp at yx;omega
  | some v=>rw [hx] at yx;simp at yx;rw [yx]
 by_cases zC:((decide (n10 < (0:Int)))||((decide (t < n10))||((decide ((0:Int) < (l5.length:Int)))&&((decide ((0:Int)≤s.aQ))&&(decide (s.aQ≤n10))))))=true
 ·rw [if_pos zC]
  refine Ok.inr (Ok.ret ⟨⟨rfl,rfl,rfl,rfl⟩,⟨⟨h.c_,h.kM,h.cj,h.iA,h.open_,h.ba,h.aO,r1,fun h0=>w9 hc (HD h0)⟩,h.U1,h.en,h.fa,h.sp⟩,⟨hR,yx.symm,fun v hv=>?_⟩⟩)
  have hvn:n10=v:=by rw [← yx,hv];rfl
  have VI:=(xv hc hv r2).1
  rw [h.sp] at zC
  simp only [cb,ad,decide_eq_true_eq] at zC
  omega
 ·rw [if_neg zC]
  rw [h.sp] at zC
  simp only [cb,ad,decide_eq_true_eq,not_or] at zC
  have Ii:=HD (by omega)
  have ew:=w9 hc Ii
  have hnt:=hC n10 Ii
  have hR':Ih c fl l t (SA c fl l) (l5++[n10]):=.snoc hR ew Ii (by omega) (by omega)
  obtain rfl:n10=t:=by omega
  refine Ok.app (by simp;omega) ?_
  have w1:bA ((l5.length:Int)+1)=((l5.length+1:Nat):Int):=by rw [bc]<;>omega
  rw [w1]
  have xa:l5.length+1 < c.aG.length→cM c fl l n10 (l5++[n10])=if jo c fl l l5.length n10=true then some (n10+(pV c (l5.length+1)).oo) else none:=by
   intro hk
   unfold cM
   rw [bp,cH,if_neg (by omega),if_pos hk,tn,i6]
   have lf:∀ x∈uX l n10 n10,x=n10:=fun x hx=>by
    have:=HC hx
    rcases this.2 with e | e<;>omega
   by_cases ha:jo c fl l l5.length n10=true
   ·rw [if_pos ha]
    unfold uX
    rw [bx,ha];rfl
   ·rw [if_neg ha,cA,bG]
    intro x hx hq
    rw [lf x hx] at hq
    exact ha hq
  have W2:¬ l5.length+1 < c.aG.length→cM c fl l n10 (l5++[n10])=none:=by
   intro hk
   unfold cM
   rw [bp,cH,if_neg (by omega),if_neg hk]
  have j5:∀ n17:Int,n17=(if l5.length+1 < c.aG.length∧jo c fl l l5.length n10=true then n10+(pV c (l5.length+1)).oo else -1)→Ok (cF (l5++[n10]) n17) (Lt (fun x:List Int×Int=>c.aG.length - x.1.length) (Up c fl l n10) (fun r=>w4 r s∧SX c fl r l∧DI c fl l n10 (SA c fl l) r.aE r.bM) (l5,n6)):=by
   intro n17 LJ
   unfold cF
   refine Ok.ret ⟨⟨hR',fun h0=>?_,fun h0=>⟨?_,by simp,fun hk=>?_⟩,fun v hv=>?_⟩,by simp;omega⟩
   ·simp only at h0 ⊢
    split at LJ
    ·rename_i hk
     rw [xa hk.1,if_pos hk.2,LJ]
    ·omega
   ·simp only at h0 ⊢
    split at LJ
    ·rename_i hk
     have L8:=hc.wait _ (lZ hk.1)
     omega
    ·exact LJ
   ·simp only at hk h0 ⊢
    rw [bp,cH] at hk ⊢
    rw [xa hk,i6]
   ·simp only at hv
    by_cases hk:l5.length+1 < c.aG.length
    ·rw [xa hk] at hv
     split at hv
     ·have L8:=hc.wait _ (lZ hk)
      have:=ac hv
      omega
     ·cases hv
    ·rw [W2 hk] at hv;cases hv
  rw [h.c_]
  by_cases hk:l5.length+1 < c.aG.length
  ·rw [if_pos (by omega),mg (l:=s.open_) (by rw [h.open_];omega)]
   simp only [aa]
   have KC:=KC (w:=l5.length) ew
   unfold cG
   by_cases ha:jo c fl l l5.length n10=true
   ·rw [if_pos (decide_eq_true (KC.2 ha)),w1,h.c_,w8 hk]
    simp only [aa]
    have L8:=hc.wait _ (lZ hk)
    refine j5 _ ?_
    rw [if_pos ⟨hk,ha⟩,bc (by omega) (by omega)]
   ·rw [if_neg (by rw [decide_eq_false (fun e=>ha (KC.1 e))];exact c8)]
    refine j5 _ ?_
    rw [if_neg (fun e=>ha e.2)]
  ·rw [if_neg (by omega)]
   unfold cG
   rw [if_neg (by simp)]
   refine j5 _ ?_
   rw [if_neg (fun e=>hk e.1)]
def Std (c:Campaign) (fl:List DeviceS) (l:List MarkS) (t:Int) (s:CS):Prop:=0≤SA c fl l∨DI c fl l t (SA c fl l) s.aE s.bM
theorem Uq {c:Campaign} {fl:List DeviceS} (l:List MarkS):∀ Z:List MarkS,0≤SA c fl l→0≤SA c fl (l++Z):=
 mF (fun h=>by rw [bv];exact h) (fun Z m ih h=>by
  rw [← b7,sC,if_neg (fun e=>by have:=ih h;omega)]
  exact ih h)
theorem Ro {c:Campaign} {fl:List DeviceS} {l Z:List MarkS} {s:CS} {t:Int} (H:BP c fl (l++Z)) (hN:(Z.map MarkS.Device).Nodup) (hP:∀ m∈Z,U4 c fl l t m) (ew:∀ x∈l,x.At < t) (ht:0≤t∧t≤345686399999) (h:SX c fl s (l++Z)) (Rp:Std c fl l t s):
 Ok (bD s t) (fun r=>w4 r s∧SX c fl r (l++Z)∧Std c fl (l++Z) t r):=by
 by_cases hS:0≤SA c fl (l++Z)
 ·exact (HT H.c_ h t).mono (fun r hr=>⟨hr.1,hr.2,.inl hS⟩)
 ·have hS0:¬ 0≤SA c fl l:=fun e=>hS (Uq l Z e)
  have Rp:DI c fl l t (SA c fl l) s.aE s.bM:=by
   rcases Rp with e | e
   ·exact absurd e hS0
   ·exact e
  have hle:=Jy H.f_ hN hP ew
  obtain ⟨r1,r2,r3⟩:=vq H.c_ Rp.r
  refine (HU H h ht hle (by omega) ⟨OG H.f_ hN hP ew (by omega) (by omega) H.c_ Rp.r,fun h0=>?_,fun h0=>?_,fun v hv=>?_⟩).mono (fun r hr=>⟨hr.1,hr.2.1,.inr hr.2.2⟩)
  ·simp only at h0 ⊢
   cases hx:cM c fl l t s.aE with
   | none=>have:=Rp.n;rw [hx] at this;simp at this;omega
   | some v=>have:=Rp.n;rw [hx] at this;simp at this;rw [this];exact Am H.f_ hN hP ew r3 hx
  ·simp only at h0 ⊢
   cases hx:cM c fl l t s.aE with
   | none=>
     have:=Rp.n
     rw [hx] at this
     have k0:s.aE.length≠0:=by
      intro e;unfold cM at hx;rw [if_pos e] at hx;cases hx
     exact ⟨by simpa using this,k0,fun hk=>EI H.f_ hN hP ew k0 hk (r3 k0) hx⟩
   | some v=>have:=Rp.n;rw [hx] at this;simp at this;have:=(xv H.c_ hx r2).1;omega
  ·simp only at hv
   cases hx:cM c fl l t s.aE with
   | none=>
     have k0:s.aE.length≠0:=by
      intro e;unfold cM at hx;rw [if_pos e] at hx;cases hx
     by_cases hk:s.aE.length < c.aG.length
     ·rw [EI H.f_ hN hP ew k0 hk (r3 k0) hx] at hv
      split at hv
      ·have L8:=H.c_.wait _ (lZ hk)
       have:=ac hv
       omega
      ·cases hv
     ·unfold cM at hv;rw [if_neg k0,if_neg hk] at hv;cases hv
   | some w=>
     rw [Am H.f_ hN hP ew r3 hx] at hv
     obtain rfl:=ac hv
     rcases Rp.f w hx with a | a
     ·omega
     ·omega
theorem Rq {c:Campaign} {fl:List DeviceS} {l:List MarkS} {s:CS} {T t:Int} (H:BP c fl l) (hT:-1≤T∧T < t) (ht:t≤345686399999) (hl:∀ x∈l,x.At≤T) (h:SX c fl s l) (hP:Std c fl l T s):
 Ok (bD s t) (fun r=>w4 r s∧SX c fl r l∧Std c fl l t r):=by
 rcases hP with hS | hP
 ·exact (HT H.c_ h t).mono (fun r hr=>⟨hr.1,hr.2,.inl hS⟩)
 ·have h':SX c fl s (l.take l.length):=by rw [b4];exact h
  have X9:DI c fl l T (SA c fl (l.take l.length)) s.aE s.bM:=by rw [b4];exact hP
  have:=xw H h' (T:=T) (T':=t) (by omega) ht hT.1 (by rw [b4];intro x hx;have:=hl x hx;omega) (by rw [f0];intro x hx;cases hx) (.inl (fun x hx hh=>by have:=hl x hx;omega)) (S0:=SA c fl (l.take l.length)) (by unfold C0;omega) X9
  rw [b4] at this
  exact this.mono (fun r hr=>⟨hr.1,hr.2.1,.inr hr.2.2⟩)
end Go.Beacon
