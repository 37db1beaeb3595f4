/- Plain facts on what the functions compute. No program in sight. -/
import Derived.Test.YthamhifbccpcpaaGreatDoorPlLA
import Derived.Lib.ItoaLen
import Derived.Lib.AtoiTie
import Derived.Lib.AtoiBound
set_option linter.unusedVariables false
set_option linter.unusedSimpArgs false
namespace Go.Beacon
open Go Go.Eng
def fw (t:aI):List aI×Bool:=if t=[] then ([],true) else if t.getLast? =some 10 then (de 10 t.dropLast,true) else (de 10 t,false)
theorem IH {t:aI} (h:t≠[]):∃ b c,t=b++[c]:=⟨t.dropLast,t.getLast h,(List.dropLast_concat_getLast h).symm⟩
theorem Mn (t:aI) (h:t.length≤1000000):qZ t=some (fw t):=by
 unfold qZ fw
 by_cases h0:t=[]
 ·rw [if_pos h0,if_pos h0]
 ·rw [if_neg h0,if_neg h0]
  obtain ⟨b,c,rfl⟩:=IH h0
  have hl:((b++[c]).length:Int)=b.length+1:=by simp
  have hb:b.length≤1000000:=by simp at h;omega
  have UF:(b++[c]).getLast? =some c:=by simp
  have hdl:(b++[c]).dropLast=b:=by simp
  have h1:aT (((b++[c]).length:Int) - ((([10]:aI).length:Nat):Int))=(b.length:Int):=by
   rw [hl]
   simp only [List.length_cons,List.length_nil]
   rw [aZ (by omega) (by omega)];omega
  have hs:cL (b++[c]) [10]=some (decide (c=10)):=by
   unfold cL cm
   rw [if_pos (by rw [hl];simp;omega),h1,wL (by omega) (by omega) (by omega)]
   simp only [Option.bind_some]
   have:((b++[c]).drop (b.length:Int).toNat).take (((b++[c]).length:Int).toNat - (b.length:Int).toNat)=[c]:=by simp
   rw [this]
   simp
  have hc:strings_CutSuffix (b++[c]) [10]=some (if c=10 then (b,true) else (b++[c],false)):=by
   unfold strings_CutSuffix eA
   rw [hs]
   simp only [Option.bind_some]
   by_cases e:c=10
   ·rw [decide_eq_true e,if_neg (by simp),h1,wL (by omega) (by omega) (by omega),if_pos e]
    simp
   ·rw [decide_eq_false e,if_pos (by simp),if_neg e];rfl
  rw [hc,UF,hdl]
  simp only [Option.bind_some]
  by_cases e:c=10
  ·rw [if_pos e,if_pos (by rw [e])]
   simp only
   rw [vH (by omega)];rfl
  ·rw [if_neg e,if_neg (fun h=>e (Option.some.inj h))]
   simp only
   rw [vH (by simp;omega)];rfl
theorem Bl (c:UInt8):∀ s:aI,(nM c s).2.2=true→s=(nM c s).1++c :: (nM c s).2.1∧c∉(nM c s).1
 | []=>fun h=>by cases h
 | b :: r=>by
   have ih:=Bl c r
   unfold nM
   by_cases hb:b=c
   ·rw [if_pos hb];subst hb;intro _;exact ⟨rfl,by simp⟩
   ·rw [if_neg hb]
    intro h
    obtain ⟨h1,h2⟩:=ih h
    refine ⟨?_,?_⟩
    ·simp only [List.cons_append]
     rw [← h1]
    ·simp only [List.mem_cons,not_or]
     exact ⟨fun e=>hb e.symm,h2⟩
theorem Bm (c:UInt8):∀ s:aI,(nM c s).2.2=false→c∉s
 | []=>fun _=>by simp
 | b :: r=>by
   have ih:=Bm c r
   unfold nM
   by_cases hb:b=c
   ·rw [if_pos hb];intro h;cases h
   ·rw [if_neg hb]
    intro h
    simp only [List.mem_cons,not_or]
    exact ⟨fun e=>hb e.symm,ih h⟩
theorem Hq {t:aI} (h0:t≠[]) (h:(nM 10 t).2.2=false):fw t=([t],false):=by
 have hn:=Bm 10 t h
 unfold fw
 rw [if_neg h0,if_neg (fun e=>hn (List.mem_of_getLast? e)),vc 10 t hn]
theorem JJ {t:aI} (h:(nM 10 t).2.2=true):fw t=((nM 10 t).1 :: (fw (nM 10 t).2.1).1,(fw (nM 10 t).2.1).2):=by
 obtain ⟨h1,h2⟩:=Bl 10 t h
 generalize (nM 10 t).1=a at h1 h2 ⊢
 generalize (nM 10 t).2.1=r at h1 ⊢
 subst h1
 unfold fw
 rw [if_neg (by simp)]
 by_cases hr:r=[]
 ·subst hr
  rw [if_pos (by simp),if_pos rfl]
  have:(a++[10]).dropLast=a:=by simp
  rw [this,vc 10 a h2]
 ·rw [if_neg hr]
  obtain ⟨b,c,rfl⟩:=IH hr
  have e1:(a++10 :: (b++[c])).getLast? =some c:=by
   rw [show a++10 :: (b++[c])=(a++10 :: b)++[c] by simp];exact List.getLast?_concat
  have e2:(b++[c]).getLast? =some c:=by simp
  have e3:(a++10 :: (b++[c])).dropLast=a++10 :: b:=by
   rw [show a++10 :: (b++[c])=(a++10 :: b)++[c] by simp];exact List.dropLast_concat
  have e4:(b++[c]).dropLast=b:=List.dropLast_concat
  rw [e1,e2,e3,e4]
  by_cases hc:c=10
  ·rw [if_pos (by rw [hc]),if_pos (by rw [hc]),vd 10 a b h2]
  ·rw [if_neg (fun e=>hc (Option.some.inj e)),if_neg (fun e=>hc (Option.some.inj e)),vd 10 a _ h2]
theorem CN (t:aI):(fw t).1.length≤t.length+1∧∀ s∈(fw t).1,s.length≤t.length:=by
 unfold fw
 split
 ·simp
 ·split
  ·have h1:=np 10 t.dropLast
   have h2:t.dropLast.length≤t.length:=by simp
   refine ⟨by simp only;omega,fun s hs=>?_⟩
   have:=(vb 10 t.dropLast s hs).1
   omega
  ·exact ⟨np 10 t,fun s hs=>(vb 10 t s hs).1⟩
section
variable {α:Type} (pl:aI→Option α)
def ij (ends:Bool):List aI→Int→List α→Int×Bool×List α
 | [],_,X=>(0,true,X)
 | s :: r,i,X=>if ends=false∧r=[] then (i,false,X) else match pl s with
   | none=>(i,false,X)
   | some x=>ij ends r (i+1) (X++[x])
theorem CO (P:α→Prop) (hp:∀ s x,pl s=some x→P x) (ends:Bool):∀ (l:List aI) (i:Int) (X:List α),(∀ x∈X,P x)→∀ x∈(ij pl ends l i X).2.2,P x
 | [],i,X,h=>h
 | s :: r,i,X,h=>by
   unfold ij
   split
   ·exact h
   ·cases hs:pl s with
    | none=>exact h
    | some x=>
      refine CO P hp ends r (i+1) (X++[x]) (fun y hy=>?_)
      rcases List.mem_append.1 hy with e | e
      ·exact h y e
      ·rw [List.mem_singleton] at e;subst e;exact hp s _ hs
theorem CP (ends:Bool):∀ (l:List aI) (i:Int) (X:List α),(ij pl ends l i X).2.2.length≤X.length+l.length
 | [],i,X=>by simp [ij]
 | s :: r,i,X=>by
   unfold ij
   split
   ·simp
   ·cases hs:pl s with
    | none=>simp
    | some x=>
      have:=CP ends r (i+1) (X++[x])
      simp only [List.length_append,List.length_cons,List.length_nil] at this ⊢
      omega
theorem Hr (rd:aI→List α→Option (Bool×List α)) (L:List aI) (ends:Bool) (hl:L.length≤1000000) (IZ:∀ s∈L,∀ X:List α,X.length≤1000000→∃ z,rd s X=some z∧z.1=(pl s).isSome∧(∀ x,pl s=some x→z.2=X++[x]))
 (b:List α→Int→Option ((List α×Int)⊕(Int×Bool×List α)))
 (hb:∀ X n,b X n=if n < (L.length:Int) then (idx L n).bind fun v=>if (!ends)=true then (if n=aT ((L.length:Int) - 1) then some (.inr (n,false,X)) else (rd v X).bind fun z=>if (!z.1)=true then some (.inr (n,false,z.2)) else some (.inl (z.2,aT (n+1)))) else (rd v X).bind fun z=>if (!z.1)=true then some (.inr (n,false,z.2)) else some (.inl (z.2,aT (n+1))) else some (.inr (0,true,X))):
 ∃ Y,iter (fun x:List α×Int=>b x.1 x.2) ([],0)=some ((ij pl ends L 0 []).1,(ij pl ends L 0 []).2.1,Y)∧((ij pl ends L 0 []).2.1=true→Y=(ij pl ends L 0 []).2.2):=by
 have key:∀ (m:Nat) (n:Int) (X:List α),0≤n→n+m=L.length→X.length≤n.toNat→∃ Y,iter (fun x:List α×Int=>b x.1 x.2) (X,n)=some ((ij pl ends (L.drop n.toNat) n X).1,(ij pl ends (L.drop n.toNat) n X).2.1,Y)∧((ij pl ends (L.drop n.toNat) n X).2.1=true→Y=(ij pl ends (L.drop n.toNat) n X).2.2):=by
  intro m
  induction m with
  | zero=>
    intro n X h0 hn hX
    rw [iter_eq]
    simp only
    rw [hb,if_neg (by omega),List.drop_of_length_le (by omega)]
    exact ⟨X,rfl,fun _=>rfl⟩
  | succ m ih=>
    intro n X h0 hn hX
    obtain ⟨s,hs,hm,hd⟩:=fY L h0 (by omega)
    obtain ⟨z,z1,z2,z3⟩:=IZ s hm X (by omega)
    have e:(n+1).toNat=n.toNat+1:=by omega
    rw [iter_eq]
    simp only
    rw [hb,if_pos (by omega),hs,hd]
    simp only [Option.bind_some]
    rw [z1,aZ (x:=(L.length:Int) - 1) (by omega) (by omega),aZ (x:=n+1) (by omega) (by omega)]
    simp only [Option.bind_some]
    have IY:L.drop (n+1).toNat=[]↔n=(L.length:Int) - 1:=by
     rw [List.drop_eq_nil_iff];omega
    have VT:∃ Y,(((if (!z.1)=true then some (.inr (n,false,z.2)) else some (.inl (z.2,n+1))):Option ((List α×Int)⊕(Int×Bool×List α))).bind (after (iter fun x:List α×Int=>b x.1 x.2)))=some ((match pl s with | none=>(n,false,X) | some x=>ij pl ends (L.drop (n+1).toNat) (n+1) (X++[x])).1,(match pl s with | none=>(n,false,X) | some x=>ij pl ends (L.drop (n+1).toNat) (n+1) (X++[x])).2.1,Y)∧((match pl s with | none=>(n,false,X) | some x=>ij pl ends (L.drop (n+1).toNat) (n+1) (X++[x])).2.1=true→Y=(match pl s with | none=>(n,false,X) | some x=>ij pl ends (L.drop (n+1).toNat) (n+1) (X++[x])).2.2):=by
     cases hp:pl s with
     | none=>
       rw [hp] at z2
       have Rt:z.1=false:=z2
       rw [Rt,if_pos (by simp)]
       exact ⟨z.2,rfl,fun h=>by cases h⟩
     | some x=>
       rw [hp] at z2
       have Rt:z.1=true:=z2
       rw [Rt,if_neg (by simp),z3 x hp]
       exact ih (n+1) (X++[x]) (by omega) (by omega) (by simp;omega)
    unfold ij
    by_cases hz:ends=false∧L.drop (n+1).toNat=[]
    ·rw [if_pos hz,if_pos (by rw [hz.1];rfl),if_pos (IY.1 hz.2)]
     exact ⟨X,rfl,fun h=>by cases h⟩
    ·rw [if_neg hz]
     cases KP:ends with
     | true=>
       rw [KP] at VT
       rw [if_neg (by simp)];exact VT
     | false=>
       rw [KP] at VT
       rw [if_pos (by simp),if_neg (fun h=>hz ⟨KP,IY.2 h⟩)];exact VT
 have:=key L.length 0 [] (by omega) (by omega) (by simp)
 simpa using this
theorem Ga (B:Nat) (rd:aI→List α→Option (Bool×List α)) (IZ:∀ s:aI,s.length≤B→∀ X:List α,X.length≤1000000→∃ z,rd s X=some z∧z.1=(pl s).isSome∧(∀ x,pl s=some x→z.2=X++[x]))
 (b:List α→aI→Int→Option ((List α×aI×Int)⊕(Int×Bool×List α)))
 (hb:∀ X t n,b X t n=if t≠[] then (Jk t [10]).bind fun v=>if (!v.2.2)=true then some (.inr (n,false,X)) else (rd v.1 X).bind fun z=>if (!z.1)=true then some (.inr (n,false,z.2)) else some (.inl (z.2,v.2.1,aT (n+1))) else some (.inr (0,true,X))):
 ∀ (m:Nat) (t:aI) (X:List α) (i:Int),t.length≤m→m≤B→X.length+t.length≤1000000→0≤i→i+t.length≤1000000→
   ∃ Y,iter (fun x:List α×aI×Int=>b x.1 x.2.1 x.2.2) (X,t,i)=some ((ij pl (fw t).2 (fw t).1 i X).1,(ij pl (fw t).2 (fw t).1 i X).2.1,Y)∧
     ((ij pl (fw t).2 (fw t).1 i X).2.1=true→Y=(ij pl (fw t).2 (fw t).1 i X).2.2):=by
 have nil:∀ (X:List α) (i:Int),∃ Y,iter (fun x:List α×aI×Int=>b x.1 x.2.1 x.2.2) (X,[],i)=some ((ij pl (fw []).2 (fw []).1 i X).1,(ij pl (fw []).2 (fw []).1 i X).2.1,Y)∧
  ((ij pl (fw []).2 (fw []).1 i X).2.1=true→Y=(ij pl (fw []).2 (fw []).1 i X).2.2):=by
  intro X i
  refine ⟨X,?_,fun _=>rfl⟩
  rw [iter_eq]
  simp only
  rw [hb,if_neg (by simp)];rfl
 intro m
 induction m with
 | zero=>
   intro t X i hm _ _ _ _
   obtain rfl:t=[]:=List.length_eq_zero_iff.1 (by omega)
   exact nil X i
 | succ m ih=>
   intro t X i hm hB hX h0 hi
   by_cases ht:t=[]
   ·subst ht;exact nil X i
   ·have tc:=List.length_pos_iff.2 ht
    have hlen:=F9 10 t
    rw [iter_eq]
    simp only
    rw [hb,if_pos ht,ON (by omega)]
    simp only [Option.bind_some]
    cases hc:(nM 10 t).2.2 with
    | false=>
      rw [if_pos (by simp),Hq ht hc]
      refine ⟨X,?_,fun h=>?_⟩
      ·simp [ij]
      ·simp [ij] at h
    | true=>
      have hit:=Bl 10 t hc
      have ag5:t.length=(nM 10 t).1.length+1+(nM 10 t).2.1.length:=by
       have:=congrArg List.length hit.1
       simp at this;omega
      rw [if_neg (by simp),JJ hc]
      obtain ⟨z,z1,z2,z3⟩:=IZ (nM 10 t).1 (by omega) X (by omega)
      rw [z1]
      simp only [Option.bind_some]
      have mb:¬ ((fw (nM 10 t).2.1).2=false∧(fw (nM 10 t).2.1).1=[]):=by
       rintro ⟨e1,e2⟩
       unfold fw at e1 e2
       split at e1
       ·cases e1
       ·rename_i hr
        rw [if_neg hr] at e2
        split at e2
        ·exact vG 10 _ e2
        ·exact vG 10 _ e2
      unfold ij
      rw [if_neg mb]
      cases hp:pl (nM 10 t).1 with
      | none=>
        rw [hp] at z2
        have Rt:z.1=false:=z2
        rw [Rt,if_pos (by simp)]
        refine ⟨z.2,rfl,fun h=>by cases h⟩
      | some x=>
        rw [hp] at z2
        have Rt:z.1=true:=z2
        rw [Rt,if_neg (by simp),z3 x hp,aZ (by omega) (by omega)]
        exact ih (nM 10 t).2.1 (X++[x]) (i+1) (by omega) (by omega) (by simp;omega) (by omega) (by omega)
end
theorem y5 {A:Type} (a d:A):∀ L:List aI,xC (fun s:aI=>if s=[] then some a else none) d L=if ([]:aI)∈L then a else d
 | []=>rfl
 | x :: L=>by
   rw [xC,y5 a d L]
   by_cases h:x=[]
   ·subst h
    have hm:([]:aI)∈([]:aI) :: L:=by simp
    rw [if_pos rfl,if_pos hm]
   ·rw [if_neg h]
    have:([]:aI)∈x :: L↔([]:aI)∈L:=by simp [Ne.symm h]
    simp only [this]
theorem Mo (s:aI) (k:Int) (h:s.length≤1000000):qX s k=some (if ((de 32 s).length:Int)≠k∨([]:aI)∈de 32 s then ([],false) else (de 32 s,true)):=by
 unfold qX
 rw [vH (by omega)]
 simp only [Option.bind_some]
 have hl:=np 32 s
 by_cases hk:((de 32 s).length:Int)≠k
 ·rw [if_pos hk,if_pos (.inl hk)]
 ·rw [if_neg hk]
  unfold wc
  rw [yo (de 32 s) (fun x:Int=>jH (de 32 s) x) (fun v:aI=>if v=[] then some (([]:List aI),false) else none) (de 32 s,true) (by omega)
   (fun i x h0 h1 hx=>by
    rw [jH,if_pos h1,hx]
    simp only [Option.bind_some]
    by_cases c:x=[]
    ·rw [if_pos c,if_pos c];rfl
    ·rw [if_neg c,if_neg c,aZ (by omega) (by omega)])
   (by rw [jH,if_neg (by omega)];rfl),y5]
  by_cases he:([]:aI)∈de 32 s
  ·rw [if_pos he,if_pos (.inr he)]
  ·rw [if_neg he,if_neg (by rintro (e | e);exact hk e;exact he e)]
theorem Gb (L:List aI) (hl:L.length≤10000000):cZ L []=some (decide (([]:aI)∈L)):=by
 unfold cZ bG
 have key:∀ (m:Nat) (n:Int),0≤n→n+m=L.length→∃ j,bT L [] n=some j∧(0≤j↔([]:aI)∈L.drop n.toNat):=by
  intro m
  induction m with
  | zero=>
    intro n h0 hn
    refine ⟨-1,?_,?_⟩
    ·unfold bT
     rw [iter_eq,bK,if_neg (by omega),bP]
    ·rw [List.drop_of_length_le (by omega)];simp
  | succ m ih=>
    intro n h0 hn
    obtain ⟨s,hs,_,hd⟩:=fY L h0 (by omega)
    unfold bT
    rw [iter_eq,bK,if_pos (by omega),hs]
    simp only [Option.bind_some]
    by_cases e:([]:aI)=s
    ·rw [if_pos e,bP]
     exact ⟨n,rfl,by rw [hd,← e];simp;omega⟩
    ·rw [if_neg e,aZ (by omega) (by omega)]
     simp only [Option.bind_some,gi]
     obtain ⟨j,j1,j2⟩:=ih (n+1) (by omega) (by omega)
     exact ⟨j,j1,by rw [hd,j2];simp [e]⟩
 obtain ⟨j,j1,j2⟩:=key L.length 0 (by omega) (by omega)
 rw [j1]
 simp only [Option.bind_some]
 congr 1
 rw [Bool.eq_iff_iff]
 simpa using j2
theorem JK {s:wk} {t w:aI} {K:Int} (hs:sR s K) (hK:3≤K) (ht:t.length≤1000000) (hw:w.length≤1000):r8 (mr s t w) (K - 3) (fun r=>r.length≤t.length+4+w.length):=by
 unfold mr lZ
 refine r8.of ?_
 split
 ·exact Ok.ret ⟨by show w.length≤_;omega,hs.less (by omega)⟩
 ·rename_i mb
  simp only [Bool.or_eq_true,decide_eq_true_eq,not_or] at mb
  have l1:=List.length_pos_iff.2 mb.1
  have l2:=List.length_pos_iff.2 mb.2
  refine Ok.gen (A9 hs (by omega) (by omega) (by omega)) (fun i s1 h1 q1=>?_)
  refine Ok.gen (A9 q1 (by omega) (by omega) (by omega)) (fun j s2 h2 q2=>?_)
  refine Ok.idx h2.1 h2.2 (fun c hc hm=>?_)
  refine Ok.gen (A9 q2 (by omega) (by omega) (by omega)) (fun k s3 h3 q3=>?_)
  dsimp only at h1 h2 h3 ⊢
  have w1:aT (i+1)=i+1:=aZ (by omega) (by omega)
  have lr:=LU (IntKind.i32.wrap (c.toNat:Int))
  rw [w1]
  split
  ·refine Ok.sv (by omega) (by omega) (by omega) (fun a ha la=>?_)
   refine Ok.cat (by omega) ?_
   refine Ok.sv (by omega) (by omega) (by omega) (fun b hb lb=>?_)
   refine Ok.cat (by simp;omega) ?_
   exact Ok.ret ⟨by simp;omega,q3.less (by omega)⟩
  ·split
   ·refine Ok.sv (by omega) (by omega) (by omega) (fun a ha la=>?_)
    refine Ok.cat (by omega) ?_
    refine Ok.sv (by omega) (by omega) (by omega) (fun b hb lb=>?_)
    refine Ok.cat (by simp;omega) ?_
    exact Ok.ret ⟨by simp;omega,q3.less (by omega)⟩
   ·refine Ok.sv (by omega) (by omega) (by omega) (fun a ha la=>?_)
    refine Ok.sv (by omega) (by omega) (by omega) (fun b hb lb=>?_)
    refine Ok.cat (by omega) ?_
    exact Ok.ret ⟨by simp;omega,q3.less (by omega)⟩
def lv (c:UInt8):Bool:=decide (48≤c.toNat)&&decide (c.toNat≤57)
theorem JL {c:UInt8} (h:lv c=true):Lib.digitVal c=some (c.toNat - 48):=by
 unfold lv at h;simp at h
 unfold Lib.digitVal;rw [if_pos h]
theorem zQ {c:UInt8} {d:Nat} (h:Lib.digitVal c=some d):lv c=true∧d=c.toNat - 48∧UInt8.ofNat (48+d)=c:=by
 obtain ⟨h1,h2,h3⟩:=Lib.digitVal_eq h
 refine ⟨by unfold lv;simp;omega,h3,?_⟩
 apply UInt8.toNat_inj.1
 rw [UInt8.toNat_ofNat']
 omega
theorem sc:∀ (l:aI) (acc:Nat),l.all lv=true→∃ m,Lib.decFrom acc l=some m
 | [],acc,_=>⟨acc,rfl⟩
 | b :: r,acc,h=>by
   simp only [List.all_cons,Bool.and_eq_true] at h
   obtain ⟨m,hm⟩:=sc r (acc * 10+(b.toNat - 48)) h.2
   exact ⟨m,by rw [Lib.decFrom,JL h.1];exact hm⟩
theorem Gc:∀ (l:aI) (acc m:Nat),0 < acc→Lib.decFrom acc l=some m→Lib.decDigits m=Lib.decDigits acc++l
 | [],acc,m,_,h=>by simp only [Lib.decFrom,Option.some.injEq] at h;simp [h]
 | b :: r,acc,m,ha,h=>by
   rw [Lib.decFrom] at h
   cases hd:Lib.digitVal b with
   | none=>rw [hd] at h;simp at h
   | some d=>
     rw [hd] at h
     obtain ⟨h1,h2,h3⟩:=Lib.digitVal_eq hd
     have ih:=Gc r (acc * 10+d) m (by omega) h
     rw [ih,Lib.decDigits,dif_neg (by omega)]
     rw [show (acc * 10+d) / 10=acc by omega,show (acc * 10+d) % 10=d by omega,(zQ hd).2.2]
     simp
theorem Gd {m:Nat} (h:0 < m):∃ b r,Lib.decDigits m=b :: r∧b≠48:=by
 induction m using Nat.strongRecOn with
 | _ m ih=>
   rw [Lib.decDigits]
   split
   ·refine ⟨_,_,rfl,?_⟩
    intro e
    have:=congrArg UInt8.toNat e
    rw [UInt8.toNat_ofNat'] at this
    simp at this;omega
   ·obtain ⟨b,r,h1,h2⟩:=ih (m / 10) (by omega) (by omega)
    exact ⟨b,r++_,by rw [h1];rfl,h2⟩
theorem Bn:Lib.decDigits 0=[48]:=by rw [Lib.decDigits,dif_pos (by omega)];rfl
theorem y7 {l:aI} {m:Nat} (h:Lib.decFrom 0 l=some m) (hl:l≠[]):Lib.decDigits m=l↔(l.head? ≠some 48∨l.length=1):=by
 cases l with
 | nil=>exact absurd rfl hl
 | cons b r=>
   rw [Lib.decFrom] at h
   cases hd:Lib.digitVal b with
   | none=>rw [hd] at h;simp at h
   | some d=>
     rw [hd] at h
     simp only [Nat.zero_mul,Nat.zero_add] at h
     obtain ⟨h1,h2,h3⟩:=Lib.digitVal_eq hd
     by_cases hz:d=0
     ·subst hz
      have hb:b=48:=by rw [← (zQ hd).2.2];rfl
      subst hb
      constructor
      ·intro e
       right
       by_cases hm:m=0
       ·subst hm;rw [Bn] at e
        have:=congrArg List.length e;simpa using this.symm
       ·obtain ⟨b,r',h4,h5⟩:=Gd (m:=m) (by omega)
        rw [h4] at e;simp at e;exact absurd e.1 h5
      ·rintro (e | e)
       ·simp at e
       ·have:r=[]:=by cases r with
         | nil=>rfl
         | cons _ _=>simp at e
        subst this
        simp only [Lib.decFrom,Option.some.injEq] at h
        subst h;exact Bn
     ·have hg:=Gc r d m (by omega) h
      have hd1:Lib.decDigits d=[UInt8.ofNat (48+d)]:=by rw [Lib.decDigits,dif_pos (by omega)]
      rw [hd1,(zQ hd).2.2] at hg
      constructor
      ·intro _;left
       intro e;simp at e
       have e2:=(zQ hd).2.1
       rw [e] at e2;simp at e2;omega
      ·intro _;exact hg
theorem Mp (m:Nat):(Lib.decDigits m).all lv=true:=by
 induction m using Nat.strongRecOn with
 | _ m ih=>
   rw [Lib.decDigits]
   have key:∀ d,d < 10→lv (UInt8.ofNat (48+d))=true:=by
    intro d hd
    unfold lv;rw [UInt8.toNat_ofNat'];simp;omega
   split
   ·rename_i h;rw [List.all_cons,key m h];rfl
   ·rw [List.all_append,ih (m / 10) (by omega),List.all_cons,key (m % 10) (by omega)];rfl
def lJ (s:aI) (k:Int):Option Int:=
 if (Lib.trimPrefix s [45]=[]∨k < (Lib.trimPrefix s [45]).length)∨(Lib.trimPrefix s [45]).all lv=false then none
 else match Lib.atoi s with
  | some n=>if Lib.itoa n=s then some n else none
  | none=>none
theorem Hs:∀ n:Fin 256,decide (UInt8.ofNat n.val∈([48,49,50,51,52,53,54,55,56,57]:List UInt8))=(decide (48≤n.val)&&decide (n.val≤57)):=by decide+kernel
theorem OO (c:UInt8):decide (c∈([48,49,50,51,52,53,54,55,56,57]:List UInt8))=lv c:=
 Hc (p:=fun c=>decide (c∈([48,49,50,51,52,53,54,55,56,57]:List UInt8))) (q:=fun n=>decide (48≤n)&&decide (n≤57)) Hs c
theorem ve (s:aI):(∃ d,s=45 :: d∧Lib.trimPrefix s [45]=d)∨(Lib.trimPrefix s [45]=s∧s.head? ≠some 45):=by
 cases s with
 | nil=>right;exact ⟨rfl,by simp⟩
 | cons b r=>
   unfold Lib.trimPrefix
   by_cases h:b=45
   ·subst h;left;exact ⟨r,rfl,by simp [Lib.hasPrefix,List.isPrefixOf]⟩
   ·right
    have hp:Lib.hasPrefix (b :: r) [45]=false:=by simp [Lib.hasPrefix,List.isPrefixOf,Ne.symm h]
    rw [hp];exact ⟨by simp,by simpa using h⟩
theorem tH (s:aI):(Lib.trimPrefix s [45]).length≤s.length∧s.length≤(Lib.trimPrefix s [45]).length+1:=by
 rcases ve s with ⟨d,h1,h2⟩ | ⟨h1,_⟩
 ·rw [h2,h1];simp
 ·rw [h1];omega
theorem Ht {s:aI} {n:Int} (hl:s.length≤18) (h:Lib.atoi s=some n):Lib.atoiAll s=.ok n:=by
 rw [Lib.atoiAll_short s hl,h];rfl
theorem CQ {s:aI} (h1:Lib.trimPrefix s [45]≠[]) (h2:(Lib.trimPrefix s [45]).all lv=true):∃ n,Lib.atoi s=some n∧(Lib.itoa n=s↔¬((Lib.trimPrefix s [45]).head? =some 48∧(1 < (Lib.trimPrefix s [45]).length∨(Lib.trimPrefix s [45]).length < s.length))):=by
 rcases ve s with ⟨d,e1,e2⟩ | ⟨e1,e2⟩
 ·rw [e2] at h1 h2 ⊢
  subst e1
  obtain ⟨m,hm⟩:=sc d 0 h2
  have hN:Lib.decNat d=some m:=by unfold Lib.decNat;rw [if_neg (by simpa using h1),hm]
  refine ⟨-(m:Int),by rw [Lib.atoi];simp [hN],?_⟩
  have hs:=y7 hm h1
  have hlen:d.length < (45 :: d).length:=by simp
  constructor
  ·rintro e ⟨hh,_⟩
   unfold Lib.itoa at e
   split at e
   ·have e':Lib.decDigits m=d:=by simpa using e
    rename_i ag6
    obtain ⟨b,r,h4,h5⟩:=Gd (m:=m) (by omega)
    rw [e'] at h4;rw [h4] at hh;simp at hh;exact h5 hh
   ·have:=Mp (-(m:Int)).toNat
    rw [e] at this;simp [lv] at this
  ·intro hn
   have hh:d.head? ≠some 48:=fun hh=>hn ⟨hh,.inr hlen⟩
   have e':=hs.2 (.inl hh)
   have Yi:m≠0:=by
    intro h0;subst h0;rw [Bn] at e';subst e';simp at hh
   unfold Lib.itoa
   rw [if_pos (by omega)]
   simp [e']
 ·rw [e1] at h1 h2 ⊢
  obtain ⟨m,hm⟩:=sc s 0 h2
  have hN:Lib.decNat s=some m:=by unfold Lib.decNat;rw [if_neg (by simpa using h1),hm]
  have hs:=y7 hm h1
  cases s with
  | nil=>exact absurd rfl h1
  | cons b r=>
    have n45:b≠45:=by simpa using e2
    have hb:lv b=true:=by simp only [List.all_cons,Bool.and_eq_true] at h2;exact h2.1
    have n43:b≠43:=fun h=>by subst h;simp [lv] at hb
    refine ⟨m,by rw [Lib.atoi];simp only [beq_iff_eq,n45,n43,if_false];rw [hN];rfl,?_⟩
    have hi:Lib.itoa (m:Int)=Lib.decDigits m:=by unfold Lib.itoa;rw [if_neg (by omega)];simp
    rw [hi,hs]
    constructor
    ·rintro (h | h) ⟨h3,h4⟩
     ·exact h h3
     ·omega
    ·intro h
     by_cases hh:(b :: r).head? =some 48
     ·right
      have:¬ (1 < (b :: r).length):=fun h5=>h ⟨hh,.inl h5⟩
      simp at this ⊢;omega
     ·exact .inl hh
theorem Hu {s:aI} {k:Nat} {n:Int} (h:lJ s k=some n):-(10 ^ k:Nat) < n∧n < (10 ^ k:Nat):=by
 unfold lJ at h
 split at h
 ·cases h
 ·rename_i hc
  cases ha:Lib.atoi s with
  | none=>rw [ha] at h;cases h
  | some n'=>
    rw [ha] at h
    simp only at h
    split at h
    ·obtain rfl:=Option.some.inj h
     simp only [not_or] at hc
     have gU:(Lib.trimPrefix s [45]).all lv=true:=by simpa using hc.2
     have hlen:(Lib.trimPrefix s [45]).length≤k:=by have:=hc.1.2;omega
     obtain ⟨m,hm⟩:=sc _ 0 gU
     have hb:=Lib.decFrom_lt _ 0 m hm
     have hp:(10:Nat) ^ (Lib.trimPrefix s [45]).length≤10 ^ k:=Nat.pow_le_pow_right (by omega) hlen
     have eZ:m < 10 ^ k:=by omega
     have Sg:n'=m∨n'=-(m:Int):=by
      have hN:Lib.decNat (Lib.trimPrefix s [45])=some m:=by unfold Lib.decNat;rw [if_neg (by simpa using hc.1.1),hm]
      rcases ve s with ⟨d,e1,e2⟩ | ⟨e1,e2⟩
      ·rw [e2] at hN;rw [e1,Lib.atoi] at ha;simp [hN] at ha;right;omega
      ·rw [e1] at hN gU
       cases s with
       | nil=>simp [Lib.atoi] at ha
       | cons b r=>
         have n45:b≠45:=by simpa using e2
         have hb:lv b=true:=by simp only [List.all_cons,Bool.and_eq_true] at gU;exact gU.1
         have n43:b≠43:=fun h=>by subst h;simp [lv] at hb
         rw [Lib.atoi] at ha
         simp only [beq_iff_eq,n45,n43,if_false] at ha
         rw [hN] at ha;simp at ha;left;omega
     omega
    ·cases h
theorem Ge (s:aI) (hl:s.length≤18):qY s 0=if (Lib.trimPrefix s [45]).all lv=true then oG s else some (0,false):=by
 unfold qY
 have hd:((Lib.trimPrefix s [45]).length:Int)≤4611686018427387904:=by have:=tH s;omega
 refine DS (fun x:Int=>eh s x) (fun i=>(Lib.trimPrefix s [45]).length+1 - i.toNat) (fun i=>0≤i∧i≤(Lib.trimPrefix s [45]).length∧((Lib.trimPrefix s [45]).take i.toNat).all lv=true) _ ?_ 0 ⟨by omega,by omega,by simp⟩
 rintro i ⟨h0,h1,h2⟩
 by_cases hi:i < (Lib.trimPrefix s [45]).length
 ·obtain ⟨c,hc,_,hdr⟩:=fY (Lib.trimPrefix s [45]) h0 hi
  have hg:=(cV hc).2.2
  have qp:c∈Lib.trimPrefix s [45]:=jS hc
  have hB:eh s i=if lv c=true then some (.inl (aT (i+1))) else Option.map .inr (some ((0:Int),false)):=by
   unfold eh
   rw [if_pos hi,hc]
   simp only [Option.bind_some]
   unfold mu lv
   by_cases a1:(c.toNat:Int) < 48
   ·rw [if_pos a1,if_pos rfl,if_neg (by simp;omega)]
   ·rw [if_neg a1]
    by_cases a2:(57:Int) < c.toNat
    ·rw [if_pos (by simpa using a2),if_neg (by simp;omega)]
    ·rw [if_neg (by simpa using a2),if_pos (by simp;omega)]
  by_cases VU:lv c=true
  ·left
   refine ⟨i+1,?_,⟨by omega,by omega,?_⟩,by omega⟩
   ·show eh s i=_
    rw [hB,if_pos VU,aZ (by omega) (by omega)]
   ·rw [show (i+1).toNat=i.toNat+1 by omega,List.take_add_one,List.all_append,h2,hg];simp [VU]
  ·right
   show eh s i=_
   rw [hB,if_neg VU,if_neg (fun h=>VU (List.all_eq_true.1 h c qp))]
 ·right
  show eh s i=_
  unfold eh
  rw [if_neg hi]
  rw [List.take_of_length_le (by omega)] at h2
  rw [if_pos h2]
theorem Gf {s:aI} {n:Int} (hl:s.length≤18) (h:Lib.atoi s=some n):Ct s=some (n,true):=by
 unfold Ct;rw [if_pos (by omega),Ht hl h]
theorem II {n:Int} (h1:-9223372036854775808≤n) (h2:n≤9223372036854775807):wa n=some (Lib.itoa n):=by unfold wa;rw [if_pos ⟨h1,h2⟩]
theorem JM (s:aI) (k:Nat) (hk:k≤17):mw s k=some (match lJ s k with | some n=>(n,true) | none=>(0,false)):=by
 have RE:=tH s
 unfold mw ko
 by_cases h1:Lib.trimPrefix s [45]=[]
 ·rw [if_pos h1,if_pos rfl];unfold lJ;rw [if_pos (.inl (.inl h1))]
 ·rw [if_neg h1]
  by_cases h2:(k:Int) < (Lib.trimPrefix s [45]).length
  ·rw [if_pos h2,if_pos rfl];unfold lJ;rw [if_pos (.inl (.inr h2))]
  ·rw [if_neg h2]
   have tc:0 < (Lib.trimPrefix s [45]).length:=List.length_pos_iff.2 h1
   obtain ⟨c,hc,_,_⟩:=fY (Lib.trimPrefix s [45]) (i:=0) (by omega) (by omega)
   have hh:(Lib.trimPrefix s [45]).head? =some c:=by
    have:=(cV hc).2.2
    rw [List.head?_eq_getElem?];simpa using this
   rw [hc]
   simp only [Option.bind_some]
   rw [Ge s (by omega)]
   by_cases gU:(Lib.trimPrefix s [45]).all lv=true
   ·obtain ⟨n,hn,UG⟩:=CQ h1 gU
    have OP:lJ s k=if Lib.itoa n=s then some n else none:=by
     unfold lJ
     rw [if_neg (fun h=>h.elim (fun h=>h.elim h1 h2) (fun h=>by rw [gU] at h;cases h)),hn]
    have PH:(decide ((c.toNat:Int)=48)&&(decide ((1:Int) < (Lib.trimPrefix s [45]).length)||decide (((Lib.trimPrefix s [45]).length:Int) < s.length)))=true↔¬ Lib.itoa n=s:=by
     rw [UG,hh]
     simp only [Bool.and_eq_true,decide_eq_true_eq,Bool.or_eq_true,Option.some.injEq,Classical.not_not]
     constructor
     ·rintro ⟨a,b⟩;exact ⟨UInt8.toNat_inj.1 (by simpa using (by omega:c.toNat=48)),by omega⟩
     ·rintro ⟨a,b⟩;exact ⟨by rw [a];rfl,by omega⟩
    by_cases hi:Lib.itoa n=s
    ·rw [if_neg (fun h=>PH.1 h hi),if_pos gU,OP,if_pos hi]
     unfold oG
     rw [Gf (by omega) hn];rfl
    ·rw [if_pos (PH.2 hi),OP,if_neg hi]
   ·have OP:lJ s k=none:=by unfold lJ;rw [if_pos (.inr (by simpa using gU))]
    rw [OP,if_neg gU];simp
def y8 (sep:aI):List aI→aI
 | []=>[]
 | x :: r=>x++r.flatMap (fun y=>sep++y)
theorem CR (sep:aI) (hs:sep.length≤100):∀ L:List aI,(∀ s∈L,s.length≤100000)→(L.flatMap (fun y=>sep++y)).length≤100100 * L.length
 | [],_=>by simp
 | x :: L,h=>by
   have h1:=CR sep hs L (fun s hs=>h s (List.mem_cons_of_mem _ hs))
   have h2:=h x (by simp)
   rw [List.flatMap_cons,List.length_append,List.length_append,List.length_cons]
   omega
theorem OQ (sep:aI) (hs:sep.length≤100) (L:List aI) (hL:L.length≤1000) (hh:∀ s∈L,s.length≤100000) (q:aI) (hq:q.length≤100000):pW sep L q 0=some (q++L.flatMap (fun y=>sep++y)):=by
 unfold pW
 refine DS _ (fun x:aI×Int=>(L.length - x.2).toNat) (fun x:aI×Int=>0≤x.2∧x.2≤L.length∧x.1=q++(L.take x.2.toNat).flatMap (fun y=>sep++y)) _ ?_ _ ⟨by simp,by simp,by simp⟩
 rintro ⟨X,n⟩ ⟨g0,g1,g2⟩
 simp only at g0 g1 g2 ⊢
 unfold ll
 by_cases hn:n < L.length
 ·left
  obtain ⟨v,hv,hm,_⟩:=fY L g0 hn
  obtain ⟨MM,KX⟩:=List.getElem?_eq_some_iff.1 (cV hv).2.2
  have e:(n+1).toNat=n.toNat+1:=by omega
  have hX:X.length≤100000+100100 * 1000:=by
   have h1:=CR sep hs (L.take n.toNat) (fun s h=>hh s (List.mem_of_mem_take h))
   rw [g2,List.length_append]
   simp only [List.length_take] at h1
   omega
  have NG:=hh v hm
  rw [if_pos hn,hv]
  simp only [Option.bind_some]
  unfold zf
  rw [if_pos (by omega)]
  simp only [Option.bind_some]
  rw [if_pos (by simp only [List.length_append];omega),aZ (by omega) (by omega)]
  refine ⟨_,rfl,⟨by simp only;omega,by simp only;omega,?_⟩,by simp only;omega⟩
  simp only
  rw [e,List.take_succ_eq_append_getElem MM,g2,KX,List.flatMap_append]
  simp
 ·right
  rw [if_neg hn,g2,List.take_of_length_le (by omega)]
theorem IJ (sep:aI) (hs:sep.length≤100) (x:aI) (L:List aI) (hL:L.length≤999) (hh:∀ s∈x :: L,s.length≤100000) (n0:Int) (h0:0≤n0∧n0≤1000000):pY (x :: L) sep n0 0=some (y8 sep (x :: L)):=by
 unfold pY
 refine DS _ (fun z:Int×Int=>((x :: L).length - z.2).toNat) (fun z:Int×Int=>0≤z.2∧z.2≤(x :: L).length∧0≤z.1∧z.1≤1000000+100000 * z.2) _ ?_ _ ⟨by simp,by simp;omega,by simp only;omega,by simp only;omega⟩
 rintro ⟨m,n⟩ ⟨g0,g1,g2,g3⟩
 simp only at g0 g1 g2 g3 ⊢
 have hlen:(x :: L).length≤1000:=by simp only [List.length_cons];omega
 unfold ln
 by_cases hn:n < ((x :: L).length:Int)
 ·left
  obtain ⟨v,hv,hm,_⟩:=fY (x :: L) g0 hn
  have NG:=hh v hm
  rw [if_pos hn,hv]
  simp only [Option.bind_some]
  rw [aZ (x:=9223372036854775807 - m) (by omega) (by omega),if_neg (by omega),aZ (by omega) (by omega),aZ (by omega) (by omega)]
  exact ⟨_,rfl,⟨by simp only;omega,by simp only;omega,by simp only;omega,by simp only;omega⟩,by simp only;omega⟩
 ·right
  rw [if_neg hn]
  unfold pX K8
  rw [if_pos (by omega)]
  simp only [Option.bind_some]
  rw [show idx (x :: L) 0=some x from rfl]
  simp only [Option.bind_some]
  have hx:=hh x (by simp)
  unfold zf
  rw [if_pos (by simp;omega)]
  simp only [Option.bind_some,List.nil_append]
  have Gk:sv (x :: L) 1 ((x :: L).length:Int)=some L:=by
   rw [wL (by omega) (by simp;omega) (by omega)]
   congr 1
   rw [show (1:Int).toNat=1 from rfl,List.drop_succ_cons,List.drop_zero]
   exact List.take_of_length_le (by simp)
  rw [Gk]
  simp only [Option.bind_some]
  rw [OQ sep hs L (by omega) (fun s h=>hh s (List.mem_cons_of_mem _ h)) x hx]
  rfl
theorem OR (sep:aI) (hs:sep.length≤100) (L:List aI) (hL:L.length≤1000) (hh:∀ s∈L,s.length≤100000):strings_Join L sep=some (y8 sep L):=by
 unfold strings_Join
 match L,hL,hh with
 | [],_,_=>rfl
 | [x],_,_=>
   rw [if_neg (by simp),if_pos (by simp)]
   show some x=some (x++[])
   rw [List.append_nil]
 | x :: y :: L,hL,hh=>
   have Gv:((x :: y :: L).length:Int)=L.length+2:=by simp only [List.length_cons];omega
   simp only [List.length_cons] at hL
   rw [if_neg (by rw [Gv];omega),if_neg (by rw [Gv];omega),Gv]
   have w1:aT ((L.length:Int)+2 - 1)=(L.length:Int)+1:=by rw [aZ (by omega) (by omega)];omega
   rw [w1]
   by_cases h0:(0:Int) < (sep.length:Int)
   ·rw [if_pos h0,Oy (by omega) (by omega) (by omega)]
    simp only [Option.bind_some]
    have hdiv:(1000000:Int)≤9223372036854775807 / ((L.length:Int)+1):=by
     rw [Int.le_ediv_iff_mul_le (by omega)]
     omega
    have hmul:(sep.length:Int) * ((L.length:Int)+1)≤100 * 1000:=Int.mul_le_mul (by omega) (by omega) (by omega) (by omega)
    have acC:0≤(sep.length:Int) * ((L.length:Int)+1):=Int.mul_nonneg (by omega) (by omega)
    rw [if_neg (by omega),aZ (x:=(sep.length:Int) * ((L.length:Int)+1)) (by omega) (by omega),aZ (by omega) (by omega)]
    unfold iZ
    exact IJ sep hs x (y :: L) (by simp only [List.length_cons];omega) hh _ (by omega)
   ·rw [if_neg h0]
    unfold iZ
    exact IJ sep hs x (y :: L) (by simp only [List.length_cons];omega) hh _ (by omega)
def NB (n:Int):Prop:=-9000000000000000000≤n∧n≤9000000000000000000
theorem xT {n:Int} (h:NB n):wa n=some (Lib.itoa n)∧(Lib.itoa n).length≤21:=
 ⟨II (by unfold NB at h;omega) (by unfold NB at h;omega),Lib.itoa_length_le n (by unfold NB at h;omega) (by unfold NB at h;omega)⟩
theorem yA {s:aI} (h:fu s=true):s.length≤40:=by
 cases s with
 | nil=>simp
 | cons c r=>
   rw [sS] at h
   simp only [Bool.and_eq_true,decide_eq_true_eq] at h
   exact h.1.1
theorem OS {s:aI} (h:fu s=true):s≠[]:=fun e=>by rw [e] at h;cases h
structure SW (s:Signal):Prop where
 at_:0≤s.At∧s.At≤345686399999
 dev:s.Device.length≤40
 R9:s.a8.length≤40
 kind:1≤s.Kind∧s.Kind≤5
 byl:s.By.length≤40
 byn:3≤s.Kind↔s.By≠[]
 til:0≤s.aV∧s.aV≤345686400000
theorem PI {s:Signal} (h:wm s=0):SW s:=by
 unfold wm at h
 by_cases h1:BU s.At=false
 ·rw [if_pos h1] at h;exact absurd h (by decide)
 rw [if_neg h1] at h
 by_cases h2:(fu s.Device&&fu s.a8)=false
 ·rw [if_pos h2] at h;exact absurd h (by decide)
 rw [if_neg h2] at h
 by_cases h3:s.Kind < 1∨5 < s.Kind
 ·rw [if_pos h3] at h;exact absurd h (by decide)
 rw [if_neg h3] at h
 by_cases h4:3≤s.Kind∧fu s.By=false
 ·rw [if_pos h4] at h;exact absurd h (by decide)
 rw [if_neg h4] at h
 by_cases h5:¬ 3≤s.Kind∧s.By≠[]
 ·rw [if_pos h5] at h;exact absurd h (by decide)
 rw [if_neg h5] at h
 by_cases h6:s.Kind=4∧(s.aV < s.At+1∨s.At+2592000000 < s.aV∨345686400000 < s.aV)
 ·rw [if_pos h6] at h;exact absurd h (by decide)
 rw [if_neg h6] at h
 by_cases h7:¬ s.Kind=4∧s.aV≠0
 ·rw [if_pos h7] at h;exact absurd h (by decide)
 unfold BU at h1
 simp only [Bool.not_eq_false,Bool.and_eq_true,decide_eq_true_eq] at h1 h2
 have Gi:3≤s.Kind→fu s.By=true:=fun h=>by
  cases hk:fu s.By with
  | true=>rfl
  | false=>exact absurd ⟨h,hk⟩ h4
 have V2:¬ 3≤s.Kind→s.By=[]:=fun h=>Classical.byContradiction fun e=>h5 ⟨h,e⟩
 refine ⟨h1,yA h2.1,yA h2.2,by omega,?_,⟨fun h=>OS (Gi h),fun h=>Classical.byContradiction fun e=>h (V2 e)⟩,?_⟩
 ·by_cases c:3≤s.Kind
  ·exact yA (Gi c)
  ·rw [V2 c];simp
 ·by_cases c:s.Kind=4
  ·omega
  ·have:s.aV=0:=Classical.byContradiction fun e=>h7 ⟨c,e⟩
   omega
noncomputable def kW (n:Int):aI:=(jz[(n - 1).toNat]?).getD []
theorem Mq {n:Int} (h:1≤n∧n≤5):idx jz (aT (n - 1))=some (kW n)∧idx iA n=some (kW n)∧(kW n).length≤9:=by
 rw [aZ (by omega) (by omega)]
 have:n=1∨n=2∨n=3∨n=4∨n=5:=by omega
 rcases this with e | e | e | e | e<;>subst e<;>exact ⟨rfl,rfl,by decide⟩
noncomputable def D9 (s:Signal):List aI:=if 3≤s.Kind then [Lib.itoa s.At,s.Device,s.a8,kW s.Kind]++[s.By] else [Lib.itoa s.At,s.Device,s.a8,kW s.Kind]
noncomputable def JN (s:Signal):List aI:=if s.Kind=4 then D9 s++[Lib.itoa s.aV] else D9 s
noncomputable def Mr (s:Signal):aI:=y8 [32] (JN s)++[10]
noncomputable def Ru (l:List Signal):aI:=l.foldl (fun X s=>X++Mr s) []
theorem SW.nb {s:Signal} (h:SW s):NB s.At∧NB s.aV:=by
 have:=h.at_
 have:=h.til
 unfold NB
 omega
theorem Ea {s:Signal} (h:SW s):(∀ w∈JN s,w.length≤40)∧(JN s).length≤6:=by
 have a1:=(xT h.nb.1).2
 have a2:=(xT h.nb.2).2
 have a3:=(Mq h.kind).2.2
 have a4:=h.dev
 have a5:=h.R9
 have a6:=h.byl
 have h4:∀ w∈[Lib.itoa s.At,s.Device,s.a8,kW s.Kind],w.length≤40:=by
  intro w hw
  simp only [List.mem_cons,List.not_mem_nil,or_false] at hw
  rcases hw with e | e | e | e<;>subst e<;>omega
 have h5:(∀ w∈D9 s,w.length≤40)∧(D9 s).length≤5:=by
  unfold D9
  by_cases c:3≤s.Kind
  ·rw [if_pos c]
   refine ⟨fun w hw=>?_,by simp⟩
   rcases List.mem_append.1 hw with g | g
   ·exact h4 w g
   ·rw [List.mem_singleton] at g;subst g;exact a6
  ·rw [if_neg c]
   exact ⟨h4,by simp⟩
 unfold JN
 by_cases c:s.Kind=4
 ·rw [if_pos c]
  refine ⟨fun w hw=>?_,by rw [List.length_append,List.length_singleton];omega⟩
  rcases List.mem_append.1 hw with g | g
  ·exact h5.1 w g
  ·rw [List.mem_singleton] at g;subst g;omega
 ·rw [if_neg c]
  exact ⟨h5.1,by omega⟩
theorem Rv:∀ (L:List aI) (B:Nat),(∀ s∈L,s.length≤B)→(y8 [32] L).length≤(B+1) * L.length
 | [],B,_=>by simp [y8]
 | x :: L,B,h=>by
   have key:∀ M:List aI,(∀ s∈M,s.length≤B)→(M.flatMap (fun y=>[32]++y)).length≤(B+1) * M.length:=by
    intro M
    induction M with
    | nil=>intro _;simp
    | cons y M ih=>
      intro hM
      have h1:=hM y (by simp)
      have h2:=ih (fun s hs=>hM s (List.mem_cons_of_mem _ hs))
      rw [List.flatMap_cons,List.length_append,List.length_cons,Nat.mul_add,Nat.mul_one]
      simp only [List.length_append,List.length_cons,List.length_nil]
      omega
   have h1:=h x (by simp)
   have h2:=key L (fun s hs=>h s (List.mem_cons_of_mem _ hs))
   show (x++L.flatMap (fun y=>[32]++y)).length≤_
   rw [List.length_append,List.length_cons,Nat.mul_add,Nat.mul_one]
   omega
theorem zR {s:Signal} (h:SW s):(y8 [32] (JN s)).length≤246∧(Mr s).length≤247:=by
 obtain ⟨h1,h2⟩:=Ea h
 have:=Rv (JN s) 40 h1
 have h3:(y8 [32] (JN s)).length≤246:=by omega
 refine ⟨h3,?_⟩
 unfold Mr
 rw [List.length_append,List.length_singleton]
 omega
theorem Eb:∀ (l:List Signal) (X:aI),(∀ s∈l,SW s)→(l.foldl (fun X s=>X++Mr s) X).length≤X.length+247 * l.length
 | [],X,_=>by simp
 | s :: r,X,h=>by
   have h1:=(zR (h s (by simp))).2
   have h2:=Eb r (X++Mr s) (fun y hy=>h y (by simp [hy]))
   rw [List.length_append] at h2
   rw [List.foldl_cons,List.length_cons]
   omega
theorem UH {s:Signal} (h:SW s) (X:aI) (hX:X.length≤100000) (n:Int) (hn:0≤n∧n≤1000):lB X n (JN s)=some (.inl (X++Mr s,n+1))∧iB X n (JN s)=some (.inl (X++Mr s,n+1)):=by
 obtain ⟨h1,h2⟩:=Ea h
 have h3:=(zR h).1
 have hJ:strings_Join (JN s) [32]=some (y8 [32] (JN s)):=OR [32] (by simp) (JN s) (by omega) (fun w hw=>by have:=h1 w hw;omega)
 unfold lB iB
 rw [hJ]
 simp only [Option.bind_some]
 rw [LS (by simp only [List.length_cons,List.length_nil];omega)]
 simp only [Option.bind_some]
 unfold zf
 rw [if_pos (by simp only [List.length_append,List.length_cons,List.length_nil];omega),aZ (by omega) (by omega)]
 exact ⟨rfl,rfl⟩
theorem PJ {s:Signal} (h:SW s) (X:aI) (hX:X.length≤100000) (n:Int) (hn:0≤n∧n≤1000):lC X n s (D9 s)=some (.inl (X++Mr s,n+1))∧iC X n s (D9 s)=some (.inl (X++Mr s,n+1)):=by
 have h2:=UH h X hX n hn
 have hl:=(Ea h).2
 unfold lC iC
 unfold JN at h2 hl
 by_cases c:s.Kind=4
 ·rw [if_pos c] at h2 hl
  rw [if_pos c,if_pos c,(xT h.nb.2).1]
  simp only [Option.bind_some]
  rw [List.length_append,List.length_singleton] at hl
  rw [iq (by rw [List.length_singleton];omega)]
  exact h2
 ·rw [if_neg c] at h2
  rw [if_neg c,if_neg c]
  exact h2
theorem Ms (l:List Signal) (hl:l.length≤100) (h:∀ s∈l,SW s):so l [] 0=some (Ru l,0)∧lD l=some (Ru l):=by
 constructor
 ·unfold so
  refine (eK l (fun (X:aI) (i:Int)=>(X,i)) _ (fun X s=>X++Mr s) (fun i X=>(X.length:Int)≤247 * i) (fun X=>pj X) ?_ ?_ [] (by simp)).trans ?_
  ·intro X i s h0 h1 hs hI
   have hw:=h s (jS hs)
   have h2:=(zR hw).2
   refine ⟨?_,by rw [List.length_append];omega⟩
   show iz l X i=_
   unfold iz
   rw [if_pos h1,hs]
   simp only [Option.bind_some]
   rw [(xT hw.nb.1).1]
   simp only [Option.bind_some]
   rw [(Mq hw.kind).1]
   simp only [Option.bind_some]
   have h3:=(PJ hw X (by omega) i (by omega)).1
   unfold D9 at h3
   by_cases c:3≤s.Kind
   ·rw [if_pos c] at h3
    rw [if_pos c,iq (by simp)]
    exact h3
   ·rw [if_neg c] at h3
    rw [if_neg c]
    exact h3
  ·intro X _
   show iz l X l.length=_
   unfold iz
   rw [if_neg (Int.lt_irrefl _)]
  ·have:=Eb l [] h
   unfold pj Ru
   rw [if_neg (by simp only [List.length_nil] at this;omega)]
 ·unfold lD sK
  refine (eK l (fun (X:aI) (i:Int)=>(X,i)) _ (fun X s=>X++Mr s) (fun i X=>(X.length:Int)≤247 * i) (fun X=>some X) ?_ ?_ [] (by simp)).trans rfl
  ·intro X i s h0 h1 hs hI
   have hw:=h s (jS hs)
   have h2:=(zR hw).2
   refine ⟨?_,by rw [List.length_append];omega⟩
   show fr l X i=_
   unfold fr
   rw [if_pos h1,hs]
   simp only [Option.bind_some]
   rw [(xT hw.nb.1).1]
   simp only [Option.bind_some]
   rw [(Mq hw.kind).2.1]
   simp only [Option.bind_some]
   have h3:=(PJ hw X (by omega) i (by omega)).2
   unfold D9 at h3
   by_cases c:3≤s.Kind
   ·rw [if_pos c] at h3
    rw [if_pos (hw.byn.1 c),iq (by simp)]
    exact h3
   ·rw [if_neg c] at h3
    rw [if_neg (fun z=>c (hw.byn.2 z))]
    exact h3
  ·intro X _
   show fr l X l.length=_
   unfold fr
   rw [if_neg (Int.lt_irrefl _)]
theorem xU (c:UInt8):∀ s:aI,(de c s).length=s.count c+1
 | []=>by simp [de]
 | b :: r=>by
   have ih:=xU c r
   unfold de
   by_cases h:b=c
   ·rw [if_pos h,List.length_cons,ih,h,List.count_cons_self]
   ·rw [if_neg h,List.count_cons_of_ne h]
    cases hq:de c r with
    | nil=>exact absurd hq (vG c r)
    | cons a t=>rw [hq] at ih;exact ih
theorem CS (L:List aI) (x:aI) (h:L.length≤1000000):bG L x=some (qm (fun y=>decide (x=y)) L 0):=by
 unfold bG
 have key:∀ (m:Nat) (n:Int),0≤n→n+m=L.length→bT L x n=some (qm (fun y=>decide (x=y)) (L.drop n.toNat) n):=by
  intro m
  induction m with
  | zero=>
    intro n h0 hn
    unfold bT
    rw [iter_eq,bK,if_neg (by omega),bP,List.drop_of_length_le (by omega)];rfl
  | succ m ih=>
    intro n h0 hn
    obtain ⟨s,hs,_,hd⟩:=fY L h0 (by omega)
    unfold bT
    rw [iter_eq,bK,if_pos (by omega),hs]
    simp only [Option.bind_some]
    rw [hd]
    unfold qm
    by_cases e:x=s
    ·rw [if_pos e,bP,if_pos (by simpa using e)]
    ·rw [if_neg e,aZ (by omega) (by omega),if_neg (by simpa using e)]
     simp only [Option.bind_some,gi]
     exact ih (n+1) (by omega) (by omega)
 exact key L.length 0 (by omega) (by omega)
def kI (w:aI):Int:=if w=[114,97,105,115,101] then 1 else if w=[99,108,101,97,114] then 2 else if w=[97,99,107] then 3 else if w=[115,104,101,108,118,101] then 4 else if w=[117,110,115,104,101,108,118,101] then 5 else 0
theorem Mt (w:aI):0≤kI w∧kI w≤5:=by
 unfold kI
 repeat' split
 all_goals omega
theorem UJ (w:aI):bG jz w=some (kI w - 1):=by
 rw [CS _ _ (by unfold jz;simp)]
 congr 1
 unfold jz kI
 simp only [qm,decide_eq_true_eq]
 repeat' split
 all_goals rfl
theorem Rw (w:aI) (hw:w≠[]):bG iA w=some (if kI w=0 then -1 else kI w):=by
 rw [CS _ _ (by unfold iA;simp)]
 congr 1
 unfold iA kI
 simp only [qm,decide_eq_true_eq]
 rw [if_neg hw]
 repeat' split
 all_goals first | rfl | (exfalso;simp_all;done) | simp_all
def Hv (k:Int):Int:=if k=4 then 6 else if k=3∨k=5 then 5 else 4
theorem IK {k:Int} (h:1≤k∧k≤5):idx [(4:Int),4,5,6,5] (k - 1)=some (Hv k)∧idx [(0:Int),4,4,5,6,5] k=some (Hv k):=by
 have:k=1∨k=2∨k=3∨k=4∨k=5:=by omega
 rcases this with e | e | e | e | e<;>subst e<;>exact ⟨rfl,rfl⟩
def rO (W:List aI):Option Signal:=
 if ((W.length:Int) < 4∨([]:aI)∈W)∨(kI (W.getD 3 [])=0∨(W.length:Int)≠Hv (kI (W.getD 3 []))) then none
 else match lJ (W.getD 0 []) 12 with
  | none=>none
  | some a=>if kI (W.getD 3 [])=4 then match lJ (W.getD 5 []) 12 with
   | none=>none
   | some u=>some ⟨a,kI (W.getD 3 []),W.getD 1 [],W.getD 2 [],W.getD 4 [],u⟩
    else some ⟨a,kI (W.getD 3 []),W.getD 1 [],W.getD 2 [],W.getD 4 [],0⟩
def Gg (s:aI):Option Signal:=rO (de 32 s)
theorem zw {W:List aI} (n:Nat) (h:n < W.length):idx W (n:Int)=some (W.getD n []):=by
 unfold idx
 rw [if_pos (by omega),Int.toNat_natCast,List.getD_eq_getElem?_getD,List.getElem?_eq_getElem h];rfl
theorem UK {s:aI} {n:Int} (h:lJ s 12=some n):-4398046511104≤n∧n≤4398046511104:=by
 have:=Hu (k:=12) h
 omega
theorem UL {s:aI} {x:Signal} (h:Gg s=some x):Bc x:=by
 unfold Gg rO at h
 split at h
 ·cases h
 ·cases h1:lJ ((de 32 s).getD 0 []) 12 with
  | none=>rw [h1] at h;cases h
  | some a=>
    rw [h1] at h
    simp only at h
    have ha:=UK h1
    split at h
    ·cases h2:lJ ((de 32 s).getD 5 []) 12 with
     | none=>rw [h2] at h;cases h
     | some u=>
       rw [h2] at h
       have hu:=UK h2
       obtain rfl:=Option.some.inj h
       exact ⟨ha,hu⟩
    ·obtain rfl:=Option.some.inj h
     exact ⟨ha,by show (-4398046511104:Int)≤0;decide,by show (0:Int)≤4398046511104;decide⟩
theorem IL (s:aI):mw s 12=some (match lJ s 12 with | some n=>(n,true) | none=>(0,false)):=JM s 12 (by omega)
theorem PK (s:aI) (k:Nat) (hk:k≤17):∃ m,pG s k=some (m,(lJ s k).isSome)∧∀ n,lJ s k=some n→m=n:=by
 have RE:=tH s
 unfold pG nW pF
 by_cases h1:Lib.trimPrefix s [45]=[]
 ·have hn:lJ s k=none:=by unfold lJ;rw [if_pos (.inl (.inl h1))]
  rw [if_pos h1,if_pos rfl,hn];exact ⟨0,rfl,fun n h=>by cases h⟩
 ·rw [if_neg h1]
  by_cases h2:(k:Int) < (Lib.trimPrefix s [45]).length
  ·have hn:lJ s k=none:=by unfold lJ;rw [if_pos (.inl (.inr h2))]
   rw [if_pos h2,if_pos rfl,hn];exact ⟨0,rfl,fun n h=>by cases h⟩
  ·rw [if_neg h2,FP (by omega) (by simp) (by decide)]
   simp only [Option.bind_some]
   have hT:=yv (Lib.trimPrefix s [45]) [48,49,50,51,52,53,54,55,56,57]
   rw [show (fun c=>decide (c∈([48,49,50,51,52,53,54,55,56,57]:List UInt8)))=lv from funext OO] at hT
   by_cases gU:(Lib.trimPrefix s [45]).all lv=true
   ·obtain ⟨n,hn,UG⟩:=CQ h1 gU
    have hb:=Lib.atoi_bound hn (by omega)
    have OP:lJ s k=if Lib.itoa n=s then some n else none:=by
     unfold lJ
     rw [if_neg (fun h=>h.elim (fun h=>h.elim h1 h2) (fun h=>by rw [gU] at h;cases h)),hn]
    rw [decide_eq_false (fun h=>h (hT.2 gU)),if_neg (by simp),Gf (by omega) hn]
    simp only [Option.bind_some,if_true]
    rw [II (by omega) (by omega)]
    simp only [Option.bind_some]
    refine ⟨n,?_,?_⟩
    ·rw [OP];by_cases hi:Lib.itoa n=s<;>simp [hi]
    ·intro n' h';rw [OP] at h';split at h'
     ·exact Option.some.inj h'
     ·cases h'
   ·have OP:lJ s k=none:=by unfold lJ;rw [if_pos (.inr (by simpa using gU))]
    have mb:Lib.trimS (Lib.trimPrefix s [45]) [48,49,50,51,52,53,54,55,56,57]≠[]:=fun h=>gU (hT.1 h)
    rw [decide_eq_true mb,if_pos rfl,OP];exact ⟨0,rfl,fun n h=>by cases h⟩
theorem CT {k:Int} {n:Nat} (hk:1≤k∧k≤5) (h:(n:Int)=Hv k):(5 < n↔k=4)∧(4 < n↔3≤k)∧4≤n:=by
 unfold Hv at h
 by_cases c:k=4
 ·rw [if_pos c] at h;omega
 ·rw [if_neg c] at h
  by_cases d:k=3∨k=5
  ·rw [if_pos d] at h;omega
  ·rw [if_neg d] at h;omega
theorem BW (s:aI) (hs:s.length≤1000000):∃ z,kp s=some z∧z.2=(Gg s).isSome∧∀ x,Gg s=some x→z.1=x:=by
 have hc:s.count 32≤s.length:=List.count_le_length
 have Gk:=xU 32 s
 unfold kp
 simp only [Ds,Option.bind_some]
 rw [show ((Lib.countByte s 32:Nat):Int)=((s.count 32:Nat):Int) from rfl,aZ (by omega) (by omega),Mo s _ hs]
 simp only [Option.bind_some]
 have bad:∀ v3:(List aI)×Bool,∃ z,ib v3 true=some z∧z.2=(none:Option Signal).isSome∧∀ x,(none:Option Signal)=some x→z.1=x:=fun v3=>⟨_,rfl,rfl,fun x h=>by cases h⟩
 have Mu:∀ (v3:(List aI)×Bool) (v7:Int),∃ z,fL v3 v7 true=some z∧z.2=(none:Option Signal).isSome∧∀ x,(none:Option Signal)=some x→z.1=x:=fun v3 v7=>⟨_,rfl,rfl,fun x h=>by cases h⟩
 unfold Gg
 generalize hW:de 32 s=W at Gk
 by_cases hm:([]:aI)∈W
 ·rw [if_pos (.inr hm),show rO W=none by unfold rO;rw [if_pos (.inl (.inr hm))]]
  exact bad _
 rw [if_neg (by rintro (h | h);exact h (by omega);exact hm h)]
 simp only [Bool.not_true,Bool.false_or]
 by_cases h4:(W.length:Int) < 4
 ·rw [decide_eq_true h4,show rO W=none by unfold rO;rw [if_pos (.inl (.inl h4))]]
  exact bad _
 rw [decide_eq_false h4]
 unfold ib
 rw [if_neg Bool.false_ne_true]
 have i3:idx W (3:Int)=some (W.getD 3 []):=zw 3 (by omega)
 simp only
 rw [i3]
 simp only [Option.bind_some]
 rw [UJ]
 simp only [Option.bind_some]
 have hk:=Mt (W.getD 3 [])
 by_cases k0:kI (W.getD 3 [])=0
 ·rw [if_pos (by omega),show rO W=none by unfold rO;rw [if_pos (.inr (.inl k0))]]
  exact Mu _ _
 rw [if_neg (by omega),(IK ⟨by omega,hk.2⟩).1]
 simp only [Option.bind_some]
 by_cases hl:(W.length:Int)≠Hv (kI (W.getD 3 []))
 ·rw [decide_eq_true hl,show rO W=none by unfold rO;rw [if_pos (.inr (.inr hl))]]
  exact Mu _ _
 rw [decide_eq_false hl]
 have vI:=Decidable.not_not.1 hl
 obtain ⟨l5,l4,_⟩:=CT ⟨by omega,hk.2⟩ vI
 have hP:rO W=match lJ (W.getD 0 []) 12 with
  | none=>none
  | some a=>if kI (W.getD 3 [])=4 then match lJ (W.getD 5 []) 12 with
   | none=>none
   | some u=>some ⟨a,kI (W.getD 3 []),W.getD 1 [],W.getD 2 [],W.getD 4 [],u⟩
    else some ⟨a,kI (W.getD 3 []),W.getD 1 [],W.getD 2 [],W.getD 4 [],0⟩:=by
  unfold rO
  rw [if_neg (by rintro ((h | h) | (h | h));exact h4 h;exact hm h;exact k0 h;exact hl h)]
 rw [hP]
 unfold fL
 rw [if_neg Bool.false_ne_true]
 have i1:idx W (1:Int)=some (W.getD 1 []):=zw 1 (by omega)
 have i2:idx W (2:Int)=some (W.getD 2 []):=zw 2 (by omega)
 have i0:idx W (0:Int)=some (W.getD 0 []):=zw 0 (by omega)
 simp only
 rw [i1,i2,i0]
 simp only [Option.bind_some]
 rw [IL]
 simp only [Option.bind_some]
 have Gi:∀ (mB:Int×Bool),(if (4:Int) < (W.length:Int) then (idx W (4:Int)).bind fun og=>du (W,true) (kI (W.getD 3 []) - 1) (W.getD 1 []) (W.getD 2 []) mB og else du (W,true) (kI (W.getD 3 []) - 1) (W.getD 1 []) (W.getD 2 []) mB [])=du (W,true) (kI (W.getD 3 []) - 1) (W.getD 1 []) (W.getD 2 []) mB (W.getD 4 []):=by
  intro mB
  by_cases c:(4:Int) < (W.length:Int)
  ·rw [if_pos c,show idx W (4:Int)=some (W.getD 4 []) from zw 4 (by omega)];rfl
  ·rw [if_neg c]
   have:W.getD 4 []=[]:=by
    rw [List.getD_eq_getElem?_getD,List.getElem?_eq_none (by omega)];rfl
   rw [this]
 rw [Gi]
 unfold du jQ ia
 rw [aZ (x:=1+(kI (W.getD 3 []) - 1)) (by omega) (by omega),show 1+(kI (W.getD 3 []) - 1)=kI (W.getD 3 []) by omega]
 cases h0:lJ (W.getD 0 []) 12 with
 | none=>
   refine ⟨_,rfl,rfl,fun x h=>by cases h⟩
 | some a=>
   simp only [Bool.true_and]
   by_cases c:kI (W.getD 3 [])=4
   ·rw [if_pos (decide_eq_true (show (5:Int) < W.length by have:=l5.2 c;omega)),if_pos c,show idx W (5:Int)=some (W.getD 5 []) from zw 5 (by have:=l5.2 c;omega)]
    simp only [Option.bind_some]
    rw [IL]
    simp only [Option.bind_some]
    cases h5:lJ (W.getD 5 []) 12 with
    | none=>exact ⟨_,rfl,rfl,fun x h=>by cases h⟩
    | some u=>exact ⟨_,rfl,rfl,fun x h=>Option.some.inj h⟩
   ·rw [if_neg (by simp only [decide_eq_true_eq];intro h;exact c (l5.1 (by omega))),if_neg c]
    exact ⟨_,rfl,rfl,fun x h=>Option.some.inj h⟩
theorem Mv (s:aI) (hs:s.length≤1000000) (X:List Signal) (hX:X.length≤1000000):∃ z,jI s X=some z∧z.1=(Gg s).isSome∧(∀ x,Gg s=some x→z.2=X++[x]):=by
 unfold jI
 obtain ⟨z,z1,z2,z3⟩:=BW s hs
 rw [z1]
 simp only [Option.bind_some]
 rw [iq (by simp;omega)]
 exact ⟨_,rfl,z2,fun x hx=>by rw [← z3 x hx]⟩
theorem JO (s:aI) (hs:s.length≤300000) (X:List Signal) (hX:X.length≤1000000):∃ z,iD s X=some z∧z.1=(Gg s).isSome∧(∀ x,Gg s=some x→z.2=X++[x]):=by
 unfold iD
 rw [vH (by omega)]
 simp only [Option.bind_some]
 have Gk:=np 32 s
 unfold Gg
 generalize hW:de 32 s=W at Gk
 have bad:∀ V:List aI,∃ z,fN X V true=some z∧z.1=(none:Option Signal).isSome∧∀ x,(none:Option Signal)=some x→z.2=X++[x]:=fun V=>⟨_,rfl,rfl,fun x h=>by cases h⟩
 have Mu:∀ (V:List aI) (k:Int),∃ z,fM X V k true=some z∧z.1=(none:Option Signal).isSome∧∀ x,(none:Option Signal)=some x→z.2=X++[x]:=fun V k=>⟨_,rfl,rfl,fun x h=>by cases h⟩
 by_cases h4:(W.length:Int) < 4
 ·rw [if_pos h4,show rO W=none by unfold rO;rw [if_pos (.inl (.inl h4))]]
  exact bad _
 rw [if_neg h4,Gb _ (by omega)]
 simp only [Option.bind_some]
 by_cases hm:([]:aI)∈W
 ·rw [decide_eq_true hm,show rO W=none by unfold rO;rw [if_pos (.inl (.inr hm))]]
  exact bad _
 rw [decide_eq_false hm]
 unfold fN
 rw [if_neg Bool.false_ne_true]
 have i3:idx W (3:Int)=some (W.getD 3 []):=zw 3 (by omega)
 have mb:∀ n:Nat,n < W.length→W.getD n []≠[]:=fun n hn e=>by
  rw [List.getD_eq_getElem?_getD,List.getElem?_eq_getElem hn] at e
  exact hm (by rw [← e];exact List.getElem_mem hn)
 rw [i3]
 simp only [Option.bind_some]
 rw [Rw _ (mb 3 (by omega))]
 simp only [Option.bind_some]
 have hk:=Mt (W.getD 3 [])
 by_cases k0:kI (W.getD 3 [])=0
 ·rw [if_pos k0,if_pos (by omega),show rO W=none by unfold rO;rw [if_pos (.inr (.inl k0))]]
  exact Mu _ _
 rw [if_neg k0,if_neg (by omega),(IK ⟨by omega,hk.2⟩).2]
 simp only [Option.bind_some]
 by_cases hl:(W.length:Int)≠Hv (kI (W.getD 3 []))
 ·rw [decide_eq_true hl,show rO W=none by unfold rO;rw [if_pos (.inr (.inr hl))]]
  exact Mu _ _
 rw [decide_eq_false hl]
 have vI:=Decidable.not_not.1 hl
 obtain ⟨l5,l4,_⟩:=CT ⟨by omega,hk.2⟩ vI
 have hP:rO W=match lJ (W.getD 0 []) 12 with
  | none=>none
  | some a=>if kI (W.getD 3 [])=4 then match lJ (W.getD 5 []) 12 with
   | none=>none
   | some u=>some ⟨a,kI (W.getD 3 []),W.getD 1 [],W.getD 2 [],W.getD 4 [],u⟩
    else some ⟨a,kI (W.getD 3 []),W.getD 1 [],W.getD 2 [],W.getD 4 [],0⟩:=by
  unfold rO
  rw [if_neg (by rintro ((h | h) | (h | h));exact h4 h;exact hm h;exact k0 h;exact hl h)]
 rw [hP]
 unfold fM
 rw [if_neg Bool.false_ne_true]
 have i1:idx W (1:Int)=some (W.getD 1 []):=zw 1 (by omega)
 have i2:idx W (2:Int)=some (W.getD 2 []):=zw 2 (by omega)
 have i0:idx W (0:Int)=some (W.getD 0 []):=zw 0 (by omega)
 rw [i0]
 simp only [Option.bind_some]
 obtain ⟨m,q1,q2⟩:=PK (W.getD 0 []) 12 (by omega)
 rw [show pG (W.getD 0 []) 12=_ from q1]
 simp only [Option.bind_some]
 rw [i1,i2]
 simp only [Option.bind_some]
 have Gi:∀ (v10:Int×Bool),(if (3:Int)≤kI (W.getD 3 []) then (idx W (4:Int)).bind fun jP=>dv X W (kI (W.getD 3 [])) v10 (W.getD 1 []) (W.getD 2 []) jP else dv X W (kI (W.getD 3 [])) v10 (W.getD 1 []) (W.getD 2 []) [])=dv X W (kI (W.getD 3 [])) v10 (W.getD 1 []) (W.getD 2 []) (W.getD 4 []):=by
  intro v10
  by_cases c:(3:Int)≤kI (W.getD 3 [])
  ·rw [if_pos c,show idx W (4:Int)=some (W.getD 4 []) from zw 4 (l4.2 c)];rfl
  ·rw [if_neg c]
   have:W.getD 4 []=[]:=by
    rw [List.getD_eq_getElem?_getD,List.getElem?_eq_none (by have:=mt l4.1 c;omega)];rfl
   rw [this]
 rw [Gi]
 unfold dv ic jR
 by_cases c:kI (W.getD 3 [])=4
 ·rw [if_pos c,show idx W (5:Int)=some (W.getD 5 []) from zw 5 (l5.2 c)]
  simp only [Option.bind_some]
  obtain ⟨u,r1,r2⟩:=PK (W.getD 5 []) 12 (by omega)
  rw [show pG (W.getD 5 []) 12=_ from r1]
  simp only [Option.bind_some]
  rw [iq (by simp;omega)]
  simp only [Option.bind_some]
  refine ⟨_,rfl,?_,?_⟩
  ·cases h0:lJ (W.getD 0 []) 12 with
   | none=>rfl
   | some a=>
     simp only [if_pos c]
     cases h5:lJ (W.getD 5 []) 12<;>rfl
  ·intro x hx
   cases h0:lJ (W.getD 0 []) 12 with
   | none=>rw [h0] at hx;cases hx
   | some a=>
     rw [h0] at hx
     simp only [if_pos c] at hx
     cases h5:lJ (W.getD 5 []) 12 with
     | none=>rw [h5] at hx;cases hx
     | some n5=>
       rw [h5] at hx
       obtain rfl:=Option.some.inj hx
       rw [q2 a h0,r2 n5 h5]
 ·rw [if_neg c,iq (by simp;omega)]
  simp only [Option.bind_some]
  refine ⟨_,rfl,?_,?_⟩
  ·cases h0:lJ (W.getD 0 []) 12 with
   | none=>rfl
   | some a=>simp only [if_neg c];rfl
  ·intro x hx
   cases h0:lJ (W.getD 0 []) 12 with
   | none=>rw [h0] at hx;cases hx
   | some a=>
     rw [h0] at hx
     simp only [if_neg c] at hx
     obtain rfl:=Option.some.inj hx
     rw [q2 a h0]
def OT (t:aI):Int×Bool×List Signal:=ij Gg (fw t).2 (fw t).1 0 []
def MY (t:aI):List Signal×Int×Int:=
 if 200000 < t.length then ([],0,2)
 else if (OT t).2.1=false then ([],(OT t).1,9)
 else if nk (OT t).2.2≠0 then ([],0,nk (OT t).2.2)
 else ((OT t).2.2,0,0)
theorem PL (t:aI):∀ x∈(OT t).2.2,Bc x:=CO Gg Bc (fun s x h=>UL h) _ _ _ _ (by simp)
theorem Mw (t:aI):ra t=some (MY t):=by
 unfold ra MY
 by_cases hl:200000 < t.length
 ·rw [if_pos (by omega),if_pos hl]
 ·rw [if_neg (by omega),if_neg hl]
  unfold fx
  rw [Mn t (by omega)]
  simp only [Option.bind_some]
  have RR:=CN t
  unfold kq
  obtain ⟨Y,y1,y2⟩:=Hr Gg jI (fw t).1 (fw t).2 (by omega) (fun s hs X hX=>Mv s (by have:=RR.2 s hs;omega) X hX) (fun X n=>cN (fw t) X n) (fun X n=>rfl)
  rw [y1]
  have hb:=PL t
  unfold OT at hb ⊢
  simp only [Option.bind_some]
  cases h:(ij Gg (fw t).2 (fw t).1 0 []).2.1 with
  | false=>rfl
  | true=>
    rw [if_neg (by simp),if_neg (by simp),y2 h,nC hb]
    simp only [Option.bind_some]
    split<;>rfl
theorem JP (t:aI):nf t=some (MY t):=by
 unfold nf MY
 by_cases hl:200000 < t.length
 ·rw [if_pos (by omega),if_pos hl]
 ·rw [if_neg (by omega),if_neg hl]
  unfold fh jL
  obtain ⟨Y,y1,y2⟩:=Ga Gg 300000 iD (fun s hs X hX=>JO s hs X hX) (fun X t n=>cz X t n) (fun X t n=>rfl) t.length t [] 0 (Nat.le_refl _) (by omega) (by simp;omega) (by omega) (by omega)
  rw [y1]
  have hb:=PL t
  unfold OT at hb ⊢
  simp only [Option.bind_some]
  cases h:(ij Gg (fw t).2 (fw t).1 0 []).2.1 with
  | false=>rfl
  | true=>
    rw [if_neg (by simp),if_neg (by simp),y2 h,qd hb]
    simp only [Option.bind_some]
    split<;>rfl
theorem OU (t:aI):(MY t).1.length≤300000:=by
 unfold MY
 by_cases hl:200000 < t.length
 ·rw [if_pos hl];simp
 ·rw [if_neg hl]
  have h1:=CP Gg (fw t).2 (fw t).1 0 []
  have h2:=(CN t).1
  split
  ·simp
  ·split
   ·simp
   ·unfold OT;simp at h1;simp only;omega
theorem Bo {s:wk} {K:Int} (hs:sR s K) (hK:230≤K):r8 (hZ s) (K - 230) (fun _=>True):=by
 refine r8.of ?_
 unfold hZ
 refine Ok.gen (Iz hs (by omega) (by omega) (by omega) (by omega)) (fun n s1 hn q1=>?_)
 dsimp only
 refine Ok.gen (CF q1 (by omega) (by omega)) (fun l s2 hl q2=>?_)
 dsimp only
 rw [qd hl.2]
 simp only [Option.bind_some]
 have RB:=hl.1
 have j1:∀ t:aI,t.length≤100000→Ok (ez (l,s2) t) (fun r=>True∧sR r.2 (K - 230)):=by
  intro t ht
  unfold ez
  refine Ok.gen (rq q2 (by omega) (by simp) (by simp)) (fun v s3 hv q3=>?_)
  have NG:v=0∨v=1∨v=2:=by simp at hv;omega
  unfold oF
  refine Ok.iter (fun x:(List Int)×Int×aI×Int=>(v - x.2.2.2).toNat) (fun x=>0≤x.2.2.2∧sR ⟨x.1,x.2.1⟩ (K - 202 - 3 * x.2.2.2)∧x.2.2.2≤v∧(x.2.2.1.length:Int)≤100000+100 * x.2.2.2) ?_ _ ⟨by simp,by simpa using q3.less (by omega),by simp only;omega,by simp only;omega⟩
  rintro ⟨L,a,t,i⟩ ⟨h0,h1,h2,h3⟩
  dsimp only at h0 h1 h2 h3 ⊢
  unfold fH
  simp only
  by_cases hi:i < v
  ·rw [if_pos hi]
   refine Ok.gen (JK h1 (by omega) (by omega) (by simp)) (fun r s4 hr q4=>?_)
   refine Ok.ret ?_
   simp only [List.length_cons,List.length_nil] at hr
   rw [aZ (by omega) (by omega)]
   exact ⟨⟨by simp only;omega,q4.less (by simp only;omega),by simp only;omega,by simp only;omega⟩,by simp only;omega⟩
  ·rw [if_neg hi]
   exact Ok.inr (Ok.ret ⟨trivial,h1.less (by omega)⟩)
 split
 ·rename_i h0
  have hw:∀ s∈l,SW s:=fun s hs=>PI ((DW h0).2 s hs)
  have ht:=Eb l [] hw
  rw [(Ms l (by omega) hw).2]
  simp only [Option.bind_some]
  exact j1 _ (by unfold Ru;simp only [List.length_nil] at ht;omega)
 ·exact j1 _ (by simp)
theorem OV {s:wk} {K:Int} (hs:sR s K) (hK:10≤K):r8 (pB s) (K - 10) (fun _=>True):=by
 refine r8.of ?_
 unfold pB mi
 refine Ok.gen (rq hs (by omega) (by simp) (by simp)) (fun a s1 _ q1=>?_)
 refine Ok.gen (rq q1 (by omega) (by simp) (by simp)) (fun b s2 _ q2=>?_)
 refine Ok.gen (Hd q2 (by omega) (by omega) (by omega)) (fun c s3 _ q3=>?_)
 split
 ·refine Ok.gen (rq q3 (by omega) (by simp) (by simp)) (fun d s4 _ q4=>?_)
  refine Ok.gen (rq q4 (by omega) (by simp) (by simp)) (fun e s5 _ q5=>?_)
  exact Ok.ret ⟨trivial,q5.less (by omega)⟩
 ·exact Ok.ret ⟨trivial,q3.less (by omega)⟩
theorem PM {v5:au×wk} (h:sR v5.2 500):eT v5 false=some true:=by
 have key:Ok (eT v5 false) (fun r=>r=true):=by
  unfold eT
  rw [if_neg (by simp)]
  refine Ok.gen (Bo h (by omega)) (fun t s3 _ q3=>?_)
  dsimp only
  rw [Mw,JP]
  simp only [Option.bind_some,if_true]
  have hl:=OU t
  rw [show fI (MY t).1 (MY t).1=some (decide ((MY t).1=(MY t).1)) from Cv _ _ (by omega)]
  simp only [decide_true,Option.bind_some,if_true]
  rw [Hj]
  exact ⟨true,rfl,rfl⟩
 obtain ⟨r,h1,rfl⟩:=key
 exact h1
theorem UM {l:List Signal} (hl:l.length≤100) (hB:∀ x∈l,Bc x) (s2:wk) {v5:au×wk} (h:sR v5.2 500):eU (l,s2) v5 (nk l) false=some true:=by
 unfold eU tw
 rw [if_neg Bool.false_ne_true]
 simp only
 rw [nC hB]
 simp only [Option.bind_some]
 by_cases c:nk l=0
 ·have hw:∀ s∈l,SW s:=fun s hs=>PI ((DW c).2 s hs)
  rw [if_neg (fun h'=>h' c),(Ms l hl hw).1]
  simp only [Option.bind_some]
  rw [if_neg (by rw [c];simp),if_pos c,(Ms l hl hw).2,c]
  simp only [Option.bind_some]
  have e:(decide (Ru l≠Ru l)||(decide ((0:Int)≠0)&&decide (Ru l≠[])))=false:=by simp
  rw [e]
  exact PM h
 ·rw [if_pos c]
  simp only [Option.bind_some]
  rw [if_neg (by simp),if_neg c]
  have e:(decide (nk l≠0)&&decide (([]:aI)≠[]))=false:=by simp
  rw [e]
  exact PM h
theorem Rx (x y:Int):qz [x,y]=some (wM [x,y]):=A5 _ (by simp)
theorem wS (L:List Int):mx L=some true:=by
 have key:Ok (mx L) (fun r=>r=true):=by
  unfold mx
  refine Ok.gen (Iz (s:=⟨L,0⟩) (K:=1000) ⟨by simp,by simp⟩ (by omega) (by omega) (by omega) (by omega)) (fun n s1 hn q1=>?_)
  dsimp only
  refine Ok.gen (CF q1 (by omega) (by omega)) (fun l s2 hl q2=>?_)
  dsimp only
  refine Ok.gen (OV q2 (by omega)) (fun w s3 _ q3=>?_)
  dsimp only
  have RB:=hl.1
  have hv:nk l=0→VS l:=Py ⟨by omega,hl.2⟩
  obtain ⟨a1,a2,a3⟩:=F8 hl.2 hv w
  rw [qd hl.2]
  simp only [Option.bind_some]
  have fin:eU (l,s2) (w,s3) (nk l) false=some true:=UM (by omega) hl.2 s2 (q3.less (by omega))
  by_cases c:nk l=0
  ·cases hw:D8 w with
   | false=>
     rw [a2 c hw]
     simp only [Option.bind_some]
     rw [Rx,tV,hw,c]
     simp only [Option.bind_some]
     rw [if_neg (show ¬ (1:Int)≠wM [0,if false=true then 0 else 1] from fun h=>h rfl),if_neg (show ¬ wM [(0:Int),if false=true then 0 else 1]=0 by decide)]
     rw [c] at fin
     exact ⟨true,fin,rfl⟩
   | true=>
     obtain ⟨R,r1,r2,r3⟩:=a3 c hw
     have e:wM [nk l,iw w]=0:=by rw [tV,hw,c];rfl
     rw [r1]
     simp only [Option.bind_some]
     rw [Rx,e]
     simp only [Option.bind_some]
     rw [if_neg (show ¬ (0:Int)≠0 from fun h=>h rfl),if_pos trivial,r2,c]
     simp only [Option.bind_some]
     rw [show fg R R=some (decide (R=R)) from Cv _ _ (by omega)]
     simp only [decide_true,Option.bind_some,Bool.not_true]
     rw [c] at fin
     exact ⟨true,fin,rfl⟩
  ·rw [a1 c]
   simp only [Option.bind_some]
   rw [Rx]
   have e:wM [nk l,iw w]=nk l:=by rw [XO,if_pos c]
   rw [e]
   simp only [Option.bind_some]
   rw [if_neg (fun h=>h rfl),if_neg c]
   exact ⟨true,fin,rfl⟩
 obtain ⟨r,h1,rfl⟩:=key
 exact h1
end Go.Beacon
