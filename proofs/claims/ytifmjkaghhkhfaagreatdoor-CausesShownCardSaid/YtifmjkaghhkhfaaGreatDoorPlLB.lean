/- Plain facts on what the functions compute. No program in sight. -/
import Derived.Test.YtifmjkaghhkhfaaGreatDoorPlLA
set_option linter.unusedVariables false
set_option linter.unusedSimpArgs false
namespace Go.Beacon
open Go Go.Eng
theorem KP {α A:Type} (W:List α) (f:List α×Int→Option ((List α×Int)⊕A)) (g:α→α) (E:List α→Option A)
 (h1:∀ (Z:List α) (i:Int) x,0≤i→i < W.length→Z.length=W.length→idx Z i=some x→idx W i=some x→f (Z,i)=some (.inl (Z.set i.toNat (g x),i+1)))
 (h2:∀ Z:List α,Z.length=W.length→f (Z,W.length)=Option.map .inr (E Z)):iter f (W,0)=E (W.map g):=by
 have key:∀ (k:Nat) (i:Int) (Z:List α),0≤i→i+k=W.length→Z.length=W.length→Z.take i.toNat=(W.take i.toNat).map g→Z.drop i.toNat=W.drop i.toNat→iter f (Z,i)=E (W.map g):=by
  intro k
  induction k with
  | zero=>
    intro i Z h0 hk hl h3 h4
    obtain rfl:i=W.length:=by omega
    rw [iter_eq,h2 Z hl,bu]
    rw [List.take_of_length_le (by omega),List.take_of_length_le (by omega)] at h3
    rw [h3]
  | succ k ih=>
    intro i Z h0 hk hl h3 h4
    obtain ⟨w,hw,_,hd⟩:=ig W h0 (by omega)
    obtain ⟨z,hz,_,Ue⟩:=ig Z h0 (by omega)
    rw [hd,Ue] at h4
    have Uf:z=w:=(List.cons.inj h4).1
    have h5:=(List.cons.inj h4).2
    subst Uf
    rw [iter_eq,h1 Z i z h0 (by omega) hl hz hw]
    simp only [Option.bind_some,cJ]
    have hi:i.toNat < Z.length:=by omega
    refine ih (i+1) _ (by omega) (by omega) (by rw [List.length_set];exact hl) ?_ ?_
    ·rw [show (i+1).toNat=i.toNat+1 by omega,List.take_add_one,List.take_add_one,List.map_append,← h3]
     have e1:(Z.set i.toNat (g z)).take i.toNat=Z.take i.toNat:=by
      rw [List.take_set_of_le (Nat.le_refl _)]
     rw [e1,List.getElem?_set_self hi]
     congr 1
     rw [(gS hw).2.2];rfl
    ·rw [show (i+1).toNat=i.toNat+1 by omega,List.drop_set_of_lt (by omega)]
     rw [show (i+1).toNat=i.toNat+1 by omega] at h5
     exact h5
 exact key W.length 0 W (by omega) (by omega) rfl (by simp) rfl
theorem Ea {s:vb} {K:Int} (hs:tx s K) (hK:100≤K):sT (jU s) (K - 100) (fun b=>(b.Links.length:Int)≤10∧(b.aW.length:Int)≤10):=by
 refine sT.of ?_
 unfold jU
 refine Ok.gen (pt hs (by omega) (by simp) (by simp)) (fun a s1 _ q1=>?_)
 refine Ok.gen (pt q1 (by omega) (by simp) (by simp)) (fun b s2 _ q2=>?_)
 refine Ok.gen (pt q2 (by omega) (by simp) (by simp)) (fun c s3 _ q3=>?_)
 unfold qt
 refine Ok.iter (fun x:List Int×Int×List cP×Int=>(3 - x.2.2.2).toNat) (fun x:List Int×Int×List cP×Int=>0≤x.2.2.2∧x.2.2.2≤3∧tx ⟨x.1,x.2.1⟩ (K - 40+2 * (3 - x.2.2.2))∧(x.2.2.1.length:Int)≤x.2.2.2) ?_ _ ⟨by simp,by simp,q3.less (by simp only;omega),by simp⟩
 rintro ⟨L,t,l,n⟩ ⟨g0,g1,g2,g3⟩
 simp only at g0 g1 g2 g3 ⊢
 unfold iE
 by_cases hn:n < 3
 ·rw [if_pos (by simpa using hn)]
  refine Ok.idx g0 (by simpa using hn) (fun d hd _=>?_)
  refine Ok.gen (wc g2 (by omega) (by omega) (by omega)) (fun f s4 _ q4=>?_)
  dsimp only
  unfold iB
  rw [bg (x:=n+1) (by omega) (by omega)]
  split
  ·refine Ok.gen (uO q4 (by omega) (by simp) (by simp)) (fun p s5 _ q5=>?_)
   refine Ok.app (by simp;omega) ?_
   exact Ok.ret ⟨⟨by simp only;omega,by simp only;omega,q5.less (by simp only;omega),by simp;omega⟩,by simp only;omega⟩
  ·exact Ok.ret ⟨⟨by simp only;omega,by simp only;omega,q4.less (by simp only;omega),by simp only;omega⟩,by simp only;omega⟩
 ·rw [if_neg (by simpa using hn)]
  refine Ok.inr ?_
  show Ok (jT _ _ _ L t l) _
  unfold jT
  have j2:∀ (v:Bool) (s6:vb) (l':List cP),tx s6 (K - 50)→(l'.length:Int)≤10→Ok (fV (a,s1) (b,s2) (c,s3) (v,s6) l') (fun r=>((r.1.Links.length:Int)≤10∧(r.1.aW.length:Int)≤10)∧tx r.2 (K - 100)):=by
   intro v s6 l' q6 yN
   unfold fV qs
   refine Ok.iter (fun x:List Int×Int×List bC×Int=>(2 - x.2.2.2).toNat) (fun x:List Int×Int×List bC×Int=>0≤x.2.2.2∧x.2.2.2≤2∧tx ⟨x.1,x.2.1⟩ (K - 80+3 * (2 - x.2.2.2))∧(x.2.2.1.length:Int)≤x.2.2.2) ?_ _ ⟨by simp,by simp,q6.less (by simp only;omega),by simp⟩
   rintro ⟨L2,t2,l2,n2⟩ ⟨g0,g1,g2,g3⟩
   simp only at g0 g1 g2 g3 ⊢
   unfold iD
   by_cases hn:n2 < 2
   ·rw [if_pos (by simpa using hn)]
    refine Ok.idx g0 (by simpa using hn) (fun d hd _=>?_)
    refine Ok.gen (wc g2 (by omega) (by omega) (by omega)) (fun f s4 _ q4=>?_)
    dsimp only
    unfold iC
    rw [bg (x:=n2+1) (by omega) (by omega)]
    split
    ·refine Ok.gen (Ho q4 (by omega) (by omega) (by omega) (by omega)) (fun p s5 _ q5=>?_)
     refine Ok.gen (wc q5 (by omega) (by omega) (by omega)) (fun z s7 _ q7=>?_)
     refine Ok.app (by simp;omega) ?_
     exact Ok.ret ⟨⟨by simp only;omega,by simp only;omega,q7.less (by simp only;omega),by simp;omega⟩,by simp only;omega⟩
    ·exact Ok.ret ⟨⟨by simp only;omega,by simp only;omega,q4.less (by simp only;omega),by simp only;omega⟩,by simp only;omega⟩
   ·rw [if_neg (by simpa using hn)]
    exact Ok.inr (Ok.ret ⟨⟨by simp only;omega,by simp only;omega⟩,g2.less (by omega)⟩)
  refine Ok.gen (wc g2 (by omega) (by omega) (by omega)) (fun f s4 _ q4=>?_)
  dsimp only
  split
  ·refine Ok.app (by simp;omega) ?_
   exact j2 _ _ _ (q4.less (by omega)) (by simp;omega)
  ·exact j2 _ _ _ (q4.less (by omega)) (by omega)
theorem MU {s:vb} {K:Int} (hs:tx s K) (hK:20≤K):sT (qu s) (K - 20) (fun _=>True):=by
 refine sT.of ?_
 unfold qu
 refine Ok.gen (pt hs (by omega) (by simp) (by simp)) (fun a s1 _ q1=>?_)
 refine Ok.gen (pt q1 (by omega) (by simp) (by simp)) (fun b s2 _ q2=>?_)
 refine Ok.gen (pt q2 (by omega) (by simp) (by simp)) (fun c s3 _ q3=>?_)
 refine Ok.gen (wc q3 (by omega) (by omega) (by omega)) (fun d s4 _ q4=>?_)
 dsimp only
 unfold mM
 split
 ·refine Ok.gen (Ft q4 (by omega) (by omega) (by omega) (by omega)) (fun e s5 _ q5=>?_)
  refine Ok.gen (Ft q5 (by omega) (by omega) (by omega) (by omega)) (fun g s6 _ q6=>?_)
  refine Ok.gen (Ft q6 (by omega) (by omega) (by omega) (by omega)) (fun h s7 _ q7=>?_)
  exact Ok.ret ⟨trivial,q7.less (by omega)⟩
 ·exact Ok.ret ⟨trivial,q4.less (by omega)⟩
theorem MW {s:vb} {K:Int} (hs:tx s K) (hK:200≤K):sT (o6 s) (K - 200) (fun _=>True):=by
 refine sT.of ?_
 unfold o6
 refine Ok.gen (Ea hs (by omega)) (fun b s1 hb q1=>?_)
 refine Ok.gen (wc q1 (by omega) (by omega) (by omega)) (fun f s2 _ q2=>?_)
 have j1:∀ (L:List Int) (n a1 a2 a3:Int) (x:List cP) (y:List bC),tx ⟨L,n⟩ (K - 200)→Ok (mb L n a1 a2 a3 x y) (fun r=>True∧tx r.2 (K - 200)):=fun L n a1 a2 a3 x y h=>⟨_,rfl,trivial,h⟩
 dsimp only
 unfold me mc
 split
 ·refine Ok.gen (BI q2 (by omega) (by omega) (by omega)) (fun n s3 hn q3=>?_)
  dsimp only
  split
  ·refine Ok.gen (MU q3 (by omega)) (fun e s4 _ q4=>?_)
   exact j1 _ _ _ _ _ _ _ (q4.less (by omega))
  ·split
   ·refine Ok.gen (uO q3 (by omega) (by simp) (by simp)) (fun e s4 _ q4=>?_)
    refine Ok.gen (uO q4 (by omega) (by simp) (by simp)) (fun g s5 _ q5=>?_)
    refine Ok.app (by simp;omega) ?_
    exact j1 _ _ _ _ _ _ _ (q5.less (by omega))
   ·refine Ok.gen (uO q3 (by omega) (by simp) (by simp)) (fun e s4 _ q4=>?_)
    refine Ok.gen (Ft q4 (by omega) (by omega) (by omega) (by omega)) (fun g s5 _ q5=>?_)
    refine Ok.app (by simp;omega) ?_
    exact j1 _ _ _ _ _ _ _ (q5.less (by omega))
 ·exact j1 _ _ _ _ _ _ _ (q2.less (by omega))
def ND (a b:Shown):Int:=tN [qN b.Level a.Level,qN a.aH.Since b.aH.Since]
def NF (a b:Shown):Int:=tN [qN b.Level a.Level,qN a.aH.Since b.aH.Since,Lib.compareBytes a.aH.Device b.aH.Device,Lib.compareBytes a.aH.aZ b.aH.aZ]
theorem KQ:ps (fun a b:Int=>qN b a):=by
 refine ⟨fun a b=>?_,fun {a b d}=>?_,fun {a b d}=>?_⟩<;>simp only [qN]<;>repeat' split
 all_goals omega
theorem NG:ps ND:=(KQ.on Shown.Level).or ((DU.on (fun x:Shown=>x.aH.Since)).or .RZ)
theorem NH:ps NF:=(KQ.on Shown.Level).or ((DU.on (fun x:Shown=>x.aH.Since)).or ((tH.on (fun x:Shown=>x.aH.Device)).or ((tH.on (fun x:Shown=>x.aH.aZ)).or .RZ)))
def xO (x:Shown):al:=MQ x.aH
theorem Db (a b:Shown):NF a b=if ND a b≠0 then ND a b else xJ (xO a) (xO b):=by
 unfold NF ND xJ xO MQ
 by_cases h1:qN b.Level a.Level=0<;>by_cases h2:qN a.aH.Since b.aH.Since=0<;>simp [tN,h1,h2]
theorem KR (a b:Shown):kF a b=some (NF a b):=by
 unfold kF
 rw [lK,lK]
 have h:gj [qN b.Level a.Level,qN a.aH.Since b.aH.Since,Lib.compareBytes a.aH.Device b.aH.Device,Lib.compareBytes a.aH.aZ b.aH.aZ]=some (NF a b):=vY _ (by simp)
 rw [h];rfl
theorem GN (a b:Shown):kq a b=some (ND a b):=by
 unfold kq
 rw [lK,lK]
 have h:gj [qN b.Level a.Level,qN a.aH.Since b.aH.Since]=some (ND a b):=vY _ (by simp)
 rw [h];rfl
theorem GO (U:List Shown) (hl:(U.length:Int) < 20) (hn:U.Pairwise (fun a b=>xJ (xO a) (xO b) < 0)):∃ Z,iK U.length (fun r:List Shown=>r.length) (jl U (fun y0 y1=>kF y0 y1))=some Z∧iK U.length (fun r:List Shown=>r.length) (cA U (fun y0 y1=>kq y0 y1))=some Z∧Z.length=U.length:=by
 obtain ⟨Y,y1,y2,y3⟩:=Fm (fun y0 y1=>kF y0 y1) NF U (by omega) (fun a _ b _=>KR a b) (NH.ord U)
 obtain ⟨Z,z1,z2,z3⟩:=KH (fun y0 y1=>kq y0 y1) ND (fun a b=>xJ (xO a) (xO b) < 0) U (by omega) (fun a _ b _=>GN a b) (NG.ord U) hn
 have hz:Gs NF Z:=z3.imp fun {a b} ⟨h1,h2⟩ lA=>by
  rw [Db] at lA
  have Um:=NG.neg a b
  split at lA
  ·exact h1 lA
  ·rename_i h0
   have h0:ND b a=0:=by simpa using h0
   have h3:=h2 (by omega)
   have:=wg.neg (xO a) (xO b)
   omega
 have xm:U.Pairwise (fun a b=>xO a≠xO b):=hn.imp fun {a b} h e=>by rw [e,wg.zero] at h;omega
 have hYZ:Y=Z:=xF (y2.trans z2.symm) y3 hz (fun a ha b hb h1 h2=>by
  have Um:=NH.neg a b
  have h0:NF a b=0:=by omega
  rw [Db] at h0
  have KX:xO a=xO b:=by
   split at h0
   ·rename_i h;exact absurd h0 h
   ·exact BL h0
  have ha:=y2.mem_iff.1 ha
  have hb:=y2.mem_iff.1 hb
  obtain ⟨i,hi,rfl⟩:=List.getElem_of_mem ha
  obtain ⟨j,hj,rfl⟩:=List.getElem_of_mem hb
  rcases Nat.lt_trichotomy i j with e | e | e
  ·exact absurd KX (List.pairwise_iff_getElem.1 xm i j hi hj e)
  ·subst e;rfl
  ·exact absurd KX.symm (List.pairwise_iff_getElem.1 xm j i hj hi e))
 subst hYZ
 refine ⟨Y,xG y1 y2.length_eq,?_,y2.length_eq⟩
 have hlen:=z2.length_eq
 have FQ:cz U 0 U.length (fun y0 y1=>kq y0 y1)=some Y:=z1
 have hs:eW U U.length (fun y0 y1=>kq y0 y1)=some Y:=by
  unfold eW lJ
  rw [iter_eq,dx,if_neg (by simp only;omega),bu]
  unfold iG
  simp only
  rw [xG FQ hlen]
  simp only [Option.bind_some]
  unfold lI
  rw [iter_eq,dw,if_neg (by simp only;omega),bu]
 refine xG ?_ hlen
 unfold cA
 rw [xG hs hlen];rfl
def Lf (L:List aH) (cs:aS→aS) (d:aS):Int:=((L.filter fun o=>decide (cs o.Device=d)).length:Int)
def R2 (gs:List bC) (L:List aH) (cs:aS→aS) (a:aH):Shown:=⟨a,MP gs a,if ld gs a=true then Lf L cs a.Device else 0⟩
def Ps (gs:List bC) (L:List aH) (cs:aS→aS):List Shown:=(L.filter fun a=>decide (cs a.Device=[])).map (R2 gs L cs)
def NI (gs:List bC) (cs:aS→aS) (s:List (aS×Int)×List Shown) (a:aH):List (aS×Int)×List Shown:=
 if cs a.Device≠[] then (jh s.1 (cs a.Device) ((bQ s.1 (cs a.Device)).getD 0+1),s.2) else (s.1,s.2++[⟨a,MP gs a,0⟩])
theorem OV (gs:List bC) (cs:aS→aS):∀ L:List aH,(L.foldl (NI gs cs) ([],[])).2=(L.filter fun a=>decide (cs a.Device=[])).map (fun a=>(⟨a,MP gs a,0⟩:Shown))∧∀ d,(bQ (L.foldl (NI gs cs) ([],[])).1 d).getD 0=if d=[] then 0 else Lf L cs d:=by
 refine uU ⟨rfl,fun d=>?_⟩ ?_
 ·show (0:Int)=_
  split<;>rfl
 ·intro L a ⟨i1,i2⟩
  rw [List.foldl_append,List.foldl_cons,List.foldl_nil]
  generalize L.foldl (NI gs cs) ([],[])=s at i1 i2
  unfold NI
  by_cases hc:cs a.Device=[]
  ·rw [if_neg (by simp [hc])]
   refine ⟨?_,fun d=>?_⟩
   ·rw [i1,List.filter_append,List.map_append];simp [hc]
   ·rw [i2 d]
    unfold Lf
    rw [List.filter_append]
    by_cases hd:d=[]
    ·rw [if_pos hd,if_pos hd]
    ·rw [if_neg hd,if_neg hd]
     have:¬ cs a.Device=d:=by rw [hc];exact fun z=>hd z.symm
     simp [this]
  ·rw [if_pos hc]
   refine ⟨?_,fun d=>?_⟩
   ·rw [i1,List.filter_append,List.map_append];simp [hc]
   ·simp only
    rw [pY,i2]
    unfold Lf
    rw [List.filter_append]
    by_cases e:cs a.Device=d
    ·subst e
     rw [if_pos rfl,if_neg hc,if_neg hc]
     simp
    ·rw [if_neg e,i2 d]
     unfold Lf
     by_cases hd:d=[]
     ·rw [if_pos hd,if_pos hd]
     ·rw [if_neg hd,if_neg hd]
      simp [e]
theorem OW {b:bd} (hb:rC b) (a:aH):max (1:Int) ((Ek b.aW a.aZ).getD ⟨[],0,false⟩).Level=MP b.aW a:=by
 unfold MP
 cases h:Ek b.aW a.aZ with
 | none=>decide
 | some g=>
   have:=hb.MP g (List.mem_of_find?_eq_some h)
   simp only [Option.getD_some,Option.map_some]
   omega
theorem OX {gs:List bC} {L:List aH} {cs:aS→aS} (h:KM L):(Ps gs L cs).Pairwise (fun a b=>xJ (xO a) (xO b) < 0)∧((Ps gs L cs).length:Int)≤15:=by
 refine ⟨List.pairwise_map.2 (h.Lg.filter _),?_⟩
 unfold Ps
 rw [List.length_map]
 have:=List.length_filter_le (fun a:aH=>decide (cs a.Device=[])) L
 have:=h.len
 omega
theorem KS {b:bd} (hb:rC b) {L:List aH} {sc:bE} (h:Ul b L sc) (hk:KM L):tF sc [] [] 0=nU (Ps b.aW L (AG b hb L)):=by
 have Ot:=hk.len
 unfold tF
 have g1:=iW (A:=(List Shown)×Int) L (fun (s:List (aS×Int)×List Shown) (i:Int)=>(s.1,s.2,i)) (fun x:(List (aS×Int))×(List Shown)×Int=>iu sc x.1 x.2.1 x.2.2) (NI b.aW (AG b hb L)) (fun i s=>(s.2.length:Int)≤i∧∀ d,0≤(bQ s.1 d).getD 0∧(bQ s.1 d).getD 0≤i) (fun s=>qj sc s.1 s.2 s.2 0)
  (fun s i a h0 h1 hx hv=>by
   obtain ⟨v1,v2⟩:=hv
   refine ⟨?_,?_⟩
   ·show iu sc s.1 s.2 i=_
    rw [iu,if_pos (by rw [h.lv];exact h1),h.lv,hx]
    simp only [Option.bind_some]
    rw [FP hb h]
    simp only [Option.bind_some]
    unfold nQ qq NI
    rw [bg (x:=i+1) (by omega) (by omega)]
    by_cases hc:AG b hb L a.Device≠[]
    ·rw [if_pos hc,if_pos hc]
     simp only [Option.bind_some]
     have:=v2 (AG b hb L a.Device)
     rw [bg (by omega) (by omega)]
    ·rw [if_neg hc,if_neg hc]
     simp only [Option.bind_some]
     rw [jI (by simp;omega),h.gr,OW hb];rfl
   ·unfold NI
    split
    ·refine ⟨by simp only;omega,fun d=>?_⟩
     simp only
     rw [pY]
     split
     ·have:=v2 (AG b hb L a.Device)
      simp only [Option.getD_some];omega
     ·have:=v2 d;omega
    ·exact ⟨by simp;omega,fun d=>by have:=v2 d;simp only;omega⟩)
  (fun s hv=>by
   show iu sc s.1 s.2 L.length=_
   rw [iu,if_neg (by rw [h.lv];omega)]) ([],[]) ⟨by simp,fun d=>by show (0:Int)≤0∧(0:Int)≤0;omega⟩
 refine g1.trans ?_
 obtain ⟨t1,t2⟩:=OV b.aW (AG b hb L) L
 generalize L.foldl (NI b.aW (AG b hb L)) ([],[])=s at t1 t2
 have I3:(s.2.length:Int)≤15:=by
  rw [t1,List.length_map]
  have:=List.length_filter_le (fun a:aH=>decide (AG b hb L a.Device=[])) L
  omega
 show qj sc s.1 s.2 s.2 0=_
 unfold qj
 rw [KP s.2 (fun x:(List Shown)×Int=>ir sc s.1 s.2 x.1 x.2) (fun x=>⟨x.aH,x.Level,if ld b.aW x.aH=true then (bQ s.1 x.aH.Device).getD 0 else x.Below⟩) nU
  (fun Z i x i0 i1 QD hz hw=>by
   show ir sc s.1 s.2 Z i=_
   rw [ir,if_pos i1,hz]
   simp only [Option.bind_some]
   rw [FN h.gr]
   simp only [Option.bind_some]
   unfold nT qq
   rw [bg (x:=i+1) (by omega) (by omega)]
   cases Ym:ld b.aW x.aH with
   | true=>simp only [if_true,Option.bind_some]
   | false=>
     simp only [Bool.false_eq_true,if_false]
     obtain ⟨z0,z1,z2⟩:=gS hz
     rw [List.getElem?_eq_getElem (by omega)] at z2
     rw [← Option.some.inj z2,List.set_getElem_self])
  (fun Z QD=>by
   show ir sc s.1 s.2 Z s.2.length=_
   rw [ir,if_neg (by omega)])]
 congr 1
 rw [t1,List.map_map]
 unfold Ps
 refine List.map_congr_left fun a ha=>?_
 have DB:=(List.mem_filter.1 ha).1
 simp only [Function.comp]
 unfold R2
 rw [t2,if_neg (hk.dev a DB)]
theorem KT {b:bd} (hb:rC b) {l:List Signal} {m:Int} {L:List aH} (hL:qD b l m=some L) (hk:KM L):vM b l m=qH (Ps b.aW L (AG b hb L)):=by
 have Ot:=hk.len
 have My:=hb.OT
 unfold vM
 rw [hL]
 simp only [Option.bind_some]
 unfold zN
 have g1:=iW (A:=List Shown) L (fun (s:List Shown) (i:Int)=>(s,i)) (fun x:(List Shown)×Int=>ku b l m L x.1 x.2) (fun acc a=>if decide (AG b hb L a.Device=[])=true then acc++[R2 b.aW L (AG b hb L) a] else acc) (fun i s=>(s.length:Int)≤i) qH
  (fun s i a h0 h1 hx hv=>by
   refine ⟨?_,by
    split
    ·rw [List.length_append,List.length_singleton];omega
    ·omega⟩
   show ku b l m L s i=_
   rw [ku,if_pos h1,hx]
   simp only [Option.bind_some]
   rw [xN hb hL hk]
   simp only [Option.bind_some]
   by_cases hc:AG b hb L a.Device=[]
   ·rw [if_neg (by simp [hc]),if_pos (decide_eq_true hc),BT b (by omega)]
    simp only [Option.bind_some]
    unfold zM
    have ha:=r5 hx
    have Ym:∀ o:aH,(if ((Ek b.aW a.aZ).getD ⟨a.aZ,1,false⟩).o1=true then if xA a=true then decide (AG b hb L o.Device=a.Device) else false else false)=(ld b.aW a&&decide (AG b hb L o.Device=a.Device)):=by
     intro o
     rw [Hw (hk.st a ha)]
     unfold ld
     cases Ek b.aW a.aZ with
     | none=>simp
     | some g=>cases g.o1<;>by_cases e3:a.State=3<;>simp [e3]
    have g2:=iW (A:=((List Shown)×Int)⊕(List Shown)) L (fun (s:Int) (j:Int)=>(s,j)) (fun x:Int×Int=>kr b l m L s i a ((Ek b.aW a.aZ).getD ⟨a.aZ,1,false⟩) x.1 x.2) (fun c o=>if (ld b.aW a&&decide (AG b hb L o.Device=a.Device))=true then c+1 else c) (fun j c=>0≤c∧c≤j) (fun c=>tq s i a ((Ek b.aW a.aZ).getD ⟨a.aZ,1,false⟩) c)
     (fun c j o j0 j1 hy HE=>by
      refine ⟨?_,by split<;>omega⟩
      show kr b l m L s i a _ c j=_
      rw [kr,if_pos j1,hy]
      simp only [Option.bind_some]
      rw [xN hb hL hk]
      simp only [Option.bind_some]
      have j2:∀ x:Bool,ng c j x=some (.inl (if x=true then c+1 else c,j+1)):=by
       intro x
       unfold ng qG
       rw [bg (x:=j+1) (by omega) (by omega),bg (x:=c+1) (by omega) (by omega)]
       cases x<;>rfl
      rw [← Ym o]
      split
      ·split
       ·exact j2 _
       ·exact j2 _
      ·exact j2 _)
     (fun c HE=>by
      show kr b l m L s i a _ c L.length=_
      rw [kr,if_neg (by omega)]) 0 (by omega)
    refine g2.trans ?_
    have Ac:∀ (M:List aH) (c:Int),M.foldl (fun c o=>if (ld b.aW a&&decide (AG b hb L o.Device=a.Device))=true then c+1 else c) c=c+(if ld b.aW a=true then Lf M (AG b hb L) a.Device else 0):=by
     intro M
     induction M with
     | nil=>intro c;simp [Lf]
     | cons o M ih=>
       intro c
       rw [List.foldl_cons,ih]
       unfold Lf
       rw [List.filter_cons]
       cases ld b.aW a with
       | false=>simp
       | true=>
         by_cases e:AG b hb L o.Device=a.Device
         ·simp [e];omega
         ·simp [e]
    rw [Ac,Int.zero_add]
    unfold tq oL
    rw [jI (by simp;omega),bg (x:=i+1) (by omega) (by omega)]
    simp only [Option.bind_some]
    have Un:((Ek b.aW a.aZ).getD ⟨a.aZ,1,false⟩).Level=MP b.aW a:=by
     unfold MP
     cases Ek b.aW a.aZ<;>rfl
    rw [Un];rfl
   ·rw [if_pos hc,if_neg (by simpa using hc)]
    unfold oL
    rw [bg (x:=i+1) (by omega) (by omega)])
  (fun s hv=>by
   show ku b l m L s L.length=_
   rw [ku,if_neg (by omega)]) [] (by simp)
 refine g1.trans ?_
 rw [yI (fun a:aH=>decide (AG b hb L a.Device=[])) (R2 b.aW L (AG b hb L))]
 rfl
theorem GP (xs:List Int) (h:(xs.length:Int)≤1000):nt xs=some (tN xs):=vY xs (by omega)
theorem Uo {a b:List Shown} (h:(a.length:Int)≤100000):iv a b=some (decide (a=b)):=CY a b (by omega)
theorem Up {a b:List aS} (h:(a.length:Int)≤100000):gu a b=some (decide (a=b)):=CY a b (by omega)
theorem QR (a b:Int) (r:List Int):tN (a :: b :: r)=if tN [a,b]≠0 then tN [a,b] else tN r:=by
 by_cases h1:a=0<;>by_cases h2:b=0<;>simp [tN,h1,h2]
theorem MX (b:bd) (sb:vb) (x:List Signal) (sx:vb) (at_:Int) (sa:vb) (hx:SG 15 x):
 ln (b,sb) (x,sx) (at_,sa) (wj b) false=some true:=by
 have hv:r8 x=0→VS x:=Ky hx
 have Uq:fJ at_=if 0≤at_∧at_≤345686399999 then 0 else 1:=wb at_
 have fin:(pX).bind (fun v35=>ic v35)=some true:=by rw [Gx];rfl
 unfold ln uG
 rw [if_neg (by simp)]
 dsimp only
 rw [tI,ri hx.2,vc hx.2,Uq]
 simp only [Option.bind_some]
 rw [Fq _ (by simp),GP _ (by simp)]
 simp only [Option.bind_some]
 rw [QR (wj b) (r8 x) [if 0≤at_∧at_≤345686399999 then 0 else 1]]
 by_cases he:tN [wj b,r8 x]=0
 ·have hb:rC b:=BR (qO he _ (by simp))
  have hc:r8 x=0:=qO he _ (by simp)
  have hv:=hv hc
  simp only [he,ne_eq,not_true_eq_false,if_false]
  rw [wI]
  by_cases hm:0≤at_∧at_≤345686399999
  ·rw [if_neg (by simp [hm.1,hm.2])]
   obtain ⟨N,sc,hN,n1,n2⟩:=zY hb hv at_
   have hk:=KN (b:=b) hv at_ hN
   have hs:=Da hb hv hm.1 hN
   obtain ⟨u1,u2⟩:=OX (gs:=b.aW) (cs:=AG b hb (NC b.bW N (FL (pre x at_)) at_)) hk
   obtain ⟨Z,z1,z2,z3⟩:=GO _ (by omega) u1
   rw [n1]
   simp only [Option.bind_some]
   rw [KS hb n2 hk,KT hb hs hk]
   unfold nU qH
   rw [z1,z2,if_pos hm]
   simp only [Option.bind_some]
   rw [if_pos (by rfl),if_neg (by decide),Uo (by omega)]
   simp only [decide_true,Option.bind_some,if_true]
   exact fin
  ·rw [if_pos (by rw [← Bool.decide_and,decide_eq_false hm];rfl),if_neg hm]
   simp only [Option.bind_some]
   rw [if_pos (by rfl),if_pos (by decide)]
   exact fin
 ·rw [if_pos he,if_pos he]
  simp only [Option.bind_some]
  rw [if_pos trivial,if_pos he]
  exact fin
theorem MY (b:bd) (sb:vb) (x:List Signal) (sx:vb) (at_:Int) (sa:vb) (d:aS) (sd:vb) (hx:SG 15 x):
 ie (b,sb) (x,sx) (at_,sa) (d,sd) (wj b) false=some true:=by
 have hv:r8 x=0→VS x:=Ky hx
 have Uq:fJ at_=if 0≤at_∧at_≤345686399999 then 0 else 1:=wb at_
 have j3:=MX b sb x sx at_ sa hx
 unfold ie qe
 rw [if_neg (by simp)]
 dsimp only
 rw [tI,ri hx.2,vc hx.2,Uq,Fs,uN]
 simp only [Option.bind_some]
 rw [Fq _ (by simp),GP _ (by simp)]
 simp only [Option.bind_some]
 rw [QR (wj b) (r8 x) [if cE d=true then 0 else 5,if 0≤at_∧at_≤345686399999 then 0 else 1]]
 unfold lp
 by_cases he:tN [wj b,r8 x]=0
 ·have hb:rC b:=BR (qO he _ (by simp))
  have hc:r8 x=0:=qO he _ (by simp)
  have hv:=hv hc
  simp only [he,ne_eq,not_true_eq_false,if_false]
  cases hkd:cE d with
  | false=>
    simp only [Bool.not_false,if_true,Option.bind_some]
    have e5:∀ z:Int,tN [if false=true then (0:Int) else 5,z]=5:=fun z=>by simp [tN]
    rw [e5]
    rw [if_neg (by decide)]
    exact j3
  | true=>
    simp only [Bool.not_true,Bool.false_eq_true,if_false,if_true]
    rw [wI]
    have e0:∀ z:Int,tN [(0:Int),z]=z:=fun z=>by
     by_cases hz:z=0<;>simp [tN,hz]
    rw [e0]
    by_cases hm:0≤at_∧at_≤345686399999
    ·rw [if_neg (by simp [hm.1,hm.2])]
     obtain ⟨N,sc,hN,n1,n2⟩:=zY hb hv at_
     have hk:=KN (b:=b) hv at_ hN
     have hs:=Da hb hv hm.1 hN
     rw [n1]
     simp only [Option.bind_some]
     rw [FP hb n2,xN hb hs hk,if_pos hm]
     simp only [Option.bind_some,if_true]
     simp only [ne_eq,not_true_eq_false,decide_false,Bool.false_or,bne_self_eq_false]
     exact j3
    ·rw [if_pos (by rw [← Bool.decide_and,decide_eq_false hm];rfl),if_neg hm]
     simp only [Option.bind_some]
     rw [if_neg (by decide)]
     exact j3
 ·rw [if_pos he,if_pos he]
  simp only [Option.bind_some]
  rw [if_neg he]
  simp only [ne_eq,not_true_eq_false,decide_false,Bool.false_or,bne_self_eq_false]
  exact j3
theorem yL (L:List Int):nW L=some true:=by
 have key:Ok (nW L) (fun r=>r=true):=by
  unfold nW
  refine Ok.gen (MW (s:=⟨L,0⟩) (K:=10000) ⟨by simp,by simp⟩ (by omega)) (fun b s0 _ q0=>?_)
  refine Ok.gen (Ho q0 (by omega) (by omega) (by omega) (by omega)) (fun m s1 hm q1=>?_)
  dsimp only
  refine Ok.gen (Ik q1 (by omega) (by omega)) (fun x s2 hx q2=>?_)
  refine Ok.gen (OO q2 (by omega)) (fun at_ s3 tJ q3=>?_)
  refine Ok.gen (uO q3 (by omega) (by simp) (by simp)) (fun d s4 _ q4=>?_)
  have Ur:SG 15 x:=⟨by have:=hx.1;omega,hx.2⟩
  have fin:=MY b s0 x s2 at_ s3 d s4 Ur
  dsimp only
  unfold tg wD
  rw [Cn,tI,Fs,uN]
  simp only [Option.bind_some]
  rw [if_neg (by simp),GP _ (by simp)]
  by_cases he:wj b=0
  ·have hb:rC b:=BR he
   have T3:=hb.len
   obtain ⟨p1,p2,p3⟩:=D9 hb d
   have Iv:bQ (C8 b.Links)=lX b.Links:=funext (D8 b.Links hb.Lg).1
   have HJ:=(D8 b.Links hb.Lg).2
   rw [if_neg (by simp [he])]
   cases hkd:cE d with
   | false=>
     simp only [Bool.not_false,if_true,Option.bind_some]
     have e5:tN [wj b,if false=true then (0:Int) else 5]=5:=by rw [he];rfl
     rw [e5,if_neg (by simp),if_neg (by decide)]
     exact ⟨true,fin,rfl⟩
   | true=>
     simp only [Bool.not_true,Bool.false_eq_true,if_false,if_true]
     have e0:tN [wj b,(0:Int)]=0:=by rw [he];rfl
     rw [e0,xM _ (by omega)]
     simp only [Option.bind_some]
     rw [GK (by omega) d (by rw [Iv];exact p1) p2 (by omega),zX (by omega) d p1 p2 p3]
     simp only [Option.bind_some]
     rw [if_neg (by simp),if_pos (by trivial),Up (by omega)]
     simp only [decide_true,Bool.not_true,Option.bind_some]
     exact ⟨true,fin,rfl⟩
  ·rw [if_pos he]
   simp only [Option.bind_some]
   have e1:tN [wj b,if cE d=true then (0:Int) else 5]=wj b:=by rw [yC,if_pos he]
   rw [e1,if_neg (by simp),if_neg he]
   exact ⟨true,fin,rfl⟩
 obtain ⟨r,h1,rfl⟩:=key
 exact h1
end Go.Beacon
