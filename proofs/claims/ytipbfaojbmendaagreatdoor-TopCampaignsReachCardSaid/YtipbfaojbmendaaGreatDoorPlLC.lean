/- Plain facts on what the functions compute. No program in sight. -/
import Derived.Test.YtipbfaojbmendaaGreatDoorPlLB
import Derived.Test.YtipbfaojbmendaaGreatDoorPlLA
open Bool renaming and_eq_true→aS,and_false→bG
open Classical renaming not_not→bz,byContradiction→cn
open List renaming mem_cons→ad,mem_map→af,mem_singleton→ag,map_cons→ai,mem_append→al,mem_cons_of_mem→ap,length_append→aw,not_mem_nil→aL,length_map→a6,foldl_cons→a7,append_nil→a8,map_append→be,take_of_length_le→bi,getElem?_eq_some_iff→bk,length_nil→bm,take_length→bo,sum_cons→bp,append_assoc→bu,length_singleton→bv,pairwise_append→bx,nil_append→bP,Nodup.sublist→bU,drop_of_length_le→bW,flatMap_cons→bX,nodup_cons→b6,map_map→b7,pairwise_cons→b8,mem_append_left→ca,length_eq_zero_iff→cb,length_take→cc,getElem?_eq_getElem→ce,filter_eq_nil_iff→cf,drop_length→ci
open Nat renaming mul_le_mul→cl
open Option renaming bind_some→aa,some.inj→ac,map_eq_some_iff→b9
set_option linter.unusedVariables false
set_option linter.unusedSimpArgs false
set_option linter.unusedSectionVars false
namespace Go.Beacon
open Go Go.Eng
theorem Ur (L:List bq) (m:bq) (hl:L.length≤10000000):bL L m=some (decide (m∈L)):=by
 unfold bL eV
 have key:∀ (k:Nat) (n:Int),0≤n→n+k=L.length→∃ j,cL L m n=some j∧(0≤j↔m∈L.drop n.toNat):=by
  intro k
  induction k with
  | zero=>
    intro n h0 hn
    refine ⟨-1,?_,?_⟩
    ·unfold cL
     rw [iter_eq,cu,if_neg (by omega),aW]
    ·rw [bW (by omega)];simp
  | succ k ih=>
    intro n h0 hn
    obtain ⟨s,hs,_,hd⟩:=fe L h0 (by omega)
    unfold cL
    rw [iter_eq,cu,if_pos (by omega),hs]
    simp only [aa]
    by_cases e:m=s
    ·rw [if_pos e,aW]
     exact ⟨n,rfl,by rw [hd,← e];simp;omega⟩
    ·rw [if_neg e,bc (by omega) (by omega)]
     simp only [aa,bh]
     obtain ⟨j,h1,h2⟩:=ih (n+1) (by omega) (by omega)
     exact ⟨j,h1,by rw [h2,hd];simp [e]⟩
 obtain ⟨j,h1,h2⟩:=key L.length 0 (by omega) (by omega)
 rw [h1]
 simp only [aa,Option.some.injEq]
 rw [decide_eq_decide,h2];simp
def stM (fa:List bq) (t:Int) (k:bq) (kv:Int×Version):List MarkS:=
 if kv.1=2 then [⟨t,k,if k∈fa then 4 else 3,kv.2⟩] else if kv.1=1 then [⟨t,k,2,kv.2⟩] else []
def oM (t:Int) (o:eo):MarkS:=⟨t,o.Device,1,o.Version⟩
noncomputable def Pp (c:Campaign) (l:List MarkS) (d:DeviceS):Int×Version:=((eP c l d).ah.Kind,(eP c l d).aN)
theorem Rr (fa:List bq) (t:Int) (k:bq) (kv:Int×Version):(stM fa t k kv).length≤1:=by
 unfold stM
 split
 ·simp
 ·split<;>simp
noncomputable def U5 (c:Campaign) (fa:List bq) (t:Int) (l L:List MarkS) (d:DeviceS):List MarkS:=L++stM fa t d.Key (Pp c l d)
theorem HV (c:Campaign) (fa:List bq) (t:Int) (l:List MarkS):∀ (fl:List DeviceS) (L:List MarkS),fl.foldl (U5 c fa t l) L=L++fl.flatMap (fun d=>stM fa t d.Key (Pp c l d))
 | [],L=>by simp
 | d :: r,L=>by
   rw [a7,HV c fa t l r,bX]
   unfold U5
   rw [bu]
theorem OH {c:Campaign} {fl:List DeviceS} {l:List MarkS} {s:CS} (H:BP c fl l) (h:SI c fl s l) (w:aM) (fa:List bq) (Wz:fa.length≤1000) (t:Int):
 mn s w fl fa t [] 0=gx s w fl t (fl.foldl (U5 c fa t l) []):=by
 have DO:=H.Ug
 unfold mn
 refine nA fl (fun (q:List MarkS) i=>(q,i)) _ (U5 c fa t l) (fun i q=>(q.length:Int)≤i) (fun q=>gx s w fl t q) (fun q i d h0 h1 hd hI=>?_) (fun q hI=>?_) [] (by simp)
 ·have hlen:=Rr fa t d.Key (Pp c l d)
  refine ⟨?_,by unfold U5;rw [aw];omega⟩
  obtain ⟨h01,h02,E1⟩:=eR hd
  have hi:=FG H.f_ h.kM E1
  have WX:idx s.iA ((i.toNat:Nat):Int)=some (eP c l d):=by
   rw [h.iA]
   refine mX ?_
   rw [List.getElem?_map,E1];rfl
  simp only
  unfold fq
  rw [if_pos h1,hd]
  simp only [aa]
  rw [hi,rm,WX]
  simp only [aa]
  have hj1:∀ L,fj i L=some (.inl (L,i+1)):=fun L=>by unfold fj;rw [bc (by omega) (by omega)]
  have j2:∀ k:Int,fk t q i d (eP c l d) k=some (.inl (q++[⟨t,d.Key,k,(eP c l d).aN⟩],i+1)):=fun k=>by
   unfold fk
   rw [mQ (by simp;omega)]
   simp only [aa]
   exact hj1 _
  unfold U5 stM Pp
  simp only
  by_cases k2:(eP c l d).ah.Kind=2
  ·rw [if_pos k2,if_pos k2,Ur fa d.Key (by omega)]
   simp only [aa]
   by_cases hf:d.Key∈fa
   ·rw [if_pos (by simpa using hf),j2,if_pos hf]
   ·rw [if_neg (by simpa using hf),j2,if_neg hf]
  ·rw [if_neg k2,if_neg k2]
   unfold gw
   by_cases k1:(eP c l d).ah.Kind=1
   ·rw [if_pos k1,if_pos k1,mQ (by simp;omega)]
    simp only [aa]
    exact hj1 _
   ·rw [if_neg k1,if_neg k1,hj1,a8]
 ·simp only
  unfold fq
  rw [if_neg (by omega)]
theorem EJ (t:Int):∀ (out:List eo) (D:List MarkS),out.foldl (fun L o=>L++[oM t o]) D=D++out.map (oM t)
 | [],D=>by simp
 | x :: r,D=>by
   rw [a7,EJ t r,ai,bu];rfl
theorem OI (t:Int) (v:List eo×aM) (D:List MarkS) (hl:v.1.length≤1000∧D.length≤1000):jt t v D 0=fo v (D++v.1.map (oM t)):=by
 have key:jt t v D 0=fo v (v.1.foldl (fun L o=>L++[oM t o]) D):=by
  unfold jt
  refine nA v.1 (fun (q:List MarkS) i=>(q,i)) _ (fun L o=>L++[oM t o]) (fun i q=>(q.length:Int)≤D.length+i) (fun q=>fo v q) (fun q i d h0 h1 hd hI=>?_) (fun q hI=>?_) D (by simp)
  ·refine ⟨?_,by rw [aw,bv];omega⟩
   simp only
   unfold fp
   rw [if_pos h1,hd]
   simp only [aa]
   rw [mQ (by simp;omega)]
   simp only [aa]
   rw [bc (by omega) (by omega)];rfl
  ·simp only
   unfold fp
   rw [if_neg (by omega)]
 rw [key,EJ]
theorem LX {M:List MarkS} {t:Int} (ht:0≤t∧t≤345686399999) (hl:M.length≤1000) (hN:(M.map MarkS.Device).Nodup) (pX:∀ m∈M,m.At=t):
 ∃ Z,dU M (fun y0 y1=>fJ y0 y1)=some Z∧dU M (fun y0 y1=>some (nu y0 y1))=some Z∧Z.Perm M∧Z.Pairwise (fun a b=>mO a b < 0):=by
 have WE:∀ m∈M,MB m:=fun m hm=>by have:=pX m hm;unfold MB;omega
 obtain ⟨Z,z1,z2,z3⟩:=zi (fun y0 y1=>fJ y0 y1) mO M (by omega) (fun a _ b _=>AU a b) (Fz.ord M)
 obtain ⟨Y,y1,y2,y3⟩:=zi (fun y0 y1=>some (nu y0 y1)) mO M (by omega) (fun a ha b hb=>by rw [zr (WE a ha) (WE b hb)]) (Fz.ord M)
 have hz0:∀ a∈M,∀ b∈M,mO a b=0→a.Device=b.Device:=fun a ha b hb e=>by
  unfold mO at e
  rw [pX a ha,pX b hb,NQ.2 rfl,if_neg (by simp)] at e
  exact sK e
 have P7:∀ a∈M,∀ b∈M,a.Device=b.Device→a=b:=by
  have:∀ {L:List MarkS},(L.map MarkS.Device).Nodup→∀ a∈L,∀ b∈L,a.Device=b.Device→a=b:=by
   intro L
   induction L with
   | nil=>intro _ a ha;cases ha
   | cons x r ih=>
     intro h a ha b hb e
     rw [ai,b6] at h
     rcases ad.1 ha with ea | ha<;>rcases ad.1 hb with eb | hb
     ·rw [ea,eb]
     ·exact absurd (af.2 ⟨b,hb,by rw [← e,ea]⟩) h.1
     ·exact absurd (af.2 ⟨a,ha,by rw [e,eb]⟩) h.1
     ·exact ih h.2 a ha b hb e
  exact this hN
 have hZY:Z=Y:=vh (z2.trans y2.symm) z3 y3 (fun a ha b hb n1 n2=>by
  have ha:=z2.mem_iff.1 ha
  have hb:=z2.mem_iff.1 hb
  have n3:=Fz.neg a b
  exact P7 a ha b hb (hz0 a ha b hb (by omega)))
 refine ⟨Z,z1,by rw [hZY];exact y1,z2,?_⟩
 have vy:(Z.map MarkS.Device).Nodup:=((z2.map MarkS.Device).nodup_iff).2 hN
 have VT:Z.Pairwise (fun a b=>a.Device≠b.Device):=by
  rw [List.Nodup,List.pairwise_map] at vy
  exact vy
 have both:=List.pairwise_and_iff.2 ⟨z3,VT⟩
 refine both.imp_of_mem ?_
 intro a b ha hb hh
 have n3:=Fz.neg a b
 have:mO a b≠0:=fun e=>hh.2 (hz0 a (z2.mem_iff.1 ha) b (z2.mem_iff.1 hb) e)
 have:=hh.1
 omega
theorem KK {α:Type} {P:α→Prop} {xs:List α} {y:α} (h:∀ x∈xs,P x) (hy:P y):∀ x∈xs++[y],P x:=by
 intro x hx
 rcases al.1 hx with h1 | h1
 ·exact h x h1
 ·rw [ag.1 h1];exact hy
def Jz (w:iz):Prop:=(1≤w.Part∧w.Part≤1000)∧(0≤w.oo∧w.oo≤30)∧(1≤w.pk∧w.pk≤3)∧(0≤w.ct∧w.ct≤1000)
structure Us (c:Campaign):Prop where
 key:mw c.Key=true
 Z3:kq c.Target=true
 Ig:0≤c.At∧c.At≤100
 room:1≤c.Room∧c.Room≤5
 len:1≤c.aG.length∧c.aG.length≤3
 wav:∀ w∈c.aG,Jz w
 sum:pU c.aG=1000
theorem Bs {s:BN} {K:Int} (hs:yC s K) (hK:40≤K):wU (iJ s) (K - 40) Us:=by
 refine wU.of ?_
 unfold iJ
 refine Ok.gen (NK hs (by omega) (by simp) (by simp)) (fun q s1 hq q1=>?_)
 refine Ok.gen (rW q1 (by omega) (by simp) (by simp)) (fun a s2 ha q2=>?_)
 refine Ok.gen (rW q2 (by omega) (by simp) (by simp)) (fun b s3 hb q3=>?_)
 refine Ok.gen (rW q3 (by omega) (by simp) (by simp)) (fun d s4 hd q4=>?_)
 refine Ok.gen (NJ q4 (by omega) (by omega) (by omega)) (fun e s5 he q5=>?_)
 refine Ok.idx he.1 (by simpa using he.2) (fun ps P2 Sj=>?_)
 have W3:mw q=true:=by
  simp only [ad,aL,or_false] at hq
  rcases hq with h | h | h<;>subst h<;>decide
 have QU:kq (whole a)=true:=by
  simp only [ad,aL,or_false] at ha
  rcases ha with h | h | h<;>subst h<;>decide
 have hb:0≤b∧b≤100:=by simp at hb;omega
 have hd:1≤d∧d≤5:=by simp at hd;omega
 have Sy:1≤ps.length∧ps.length≤3:=by
  simp only [ad,aL,or_false] at Sj
  rcases Sj with h | h | h | h<;>subst h<;>simp
 have Xu:∀ p∈ps,1≤p∧p≤1000:=by
  simp only [ad,aL,or_false] at Sj
  rcases Sj with h | h | h | h<;>subst h<;>simp
 have W4:ps.sum=1000:=by
  simp only [ad,aL,or_false] at Sj
  rcases Sj with h | h | h | h<;>subst h<;>decide
 dsimp only
 unfold oU
 refine Ok.iter (fun x:List Int×Int×List iz×Int=>(ps.length - x.2.2.2).toNat) (fun x:List Int×Int×List iz×Int=>0≤x.2.2.2∧x.2.2.2≤ps.length∧yC ⟨x.1,x.2.1⟩ (K - 37+3 * (ps.length - x.2.2.2))∧x.2.2.1.map iz.Part=ps.take x.2.2.2.toNat∧(x.2.2.1.length:Int)=x.2.2.2∧∀ w∈x.2.2.1,Jz w) ?_ _ ⟨by simp,by simp,q5.less (by simp only;omega),by simp,by simp,by simp⟩
 rintro ⟨L,a2,l,n⟩ ⟨g0,g1,g2,g3,g4,g5⟩
 simp only at g0 g1 g2 g3 g4 g5 ⊢
 unfold gg
 by_cases hn:n < ps.length
 ·rw [if_pos hn]
  refine Ok.idx g0 hn (fun p hp Sj=>?_)
  refine Ok.gen (rW g2 (by omega) (by simp) (by simp)) (fun u s6 hu q6=>?_)
  refine Ok.gen (rW q6 (by omega) (by simp) (by simp)) (fun v s7 hv q7=>?_)
  refine Ok.gen (rW q7 (by omega) (by simp) (by simp)) (fun w s8 hw q8=>?_)
  refine Ok.app (by simp;omega) ?_
  refine Ok.ret ?_
  rw [bc (by omega) (by omega)]
  refine ⟨⟨by simp only;omega,by simp only;omega,q8.less (by simp only;omega),?_,by simp;omega,?_⟩,by simp only;omega⟩
  ·simp only
   have:=take_succ g0 hp
   rw [this,be,g3];rfl
  ·simp only
   intro y hy
   rcases al.1 hy with e | e
   ·exact g5 y e
   ·rw [ag] at e
    subst e
    have:=Xu p Sj
    simp at hu hv hw
    unfold Jz
    simp only
    omega
 ·rw [if_neg hn]
  have QW:ps.take n.toNat=ps:=bi (by omega)
  rw [QW] at g3
  have W5:pU l=1000:=by unfold pU;rw [g3];exact W4
  refine Ok.inr ?_
  unfold lG gd
  refine Ok.gen (Fw g2 (by omega) (by omega) (by omega)) (fun c s6 _ q6=>?_)
  dsimp only
  split
  ·refine Ok.gen (rW q6 (by omega) (by simp) (by simp)) (fun u s7 _ q7=>?_)
   refine Ok.gen (rW q7 (by omega) (by simp) (by simp)) (fun v s8 _ q8=>?_)
   exact Ok.ret ⟨⟨W3,QU,hb,hd,by simp only;omega,g5,W5⟩,q8.less (by omega)⟩
  ·exact Ok.ret ⟨⟨W3,QU,hb,hd,by simp only;omega,g5,W5⟩,q6.less (by omega)⟩
def o9 (c:Campaign):Campaign:=⟨c.Key,c.Target,c.At,c.aG.map (fun w=>⟨w.Part,0,w.pk,w.ct⟩),⟨0,0⟩,c.Room⟩
theorem OJ (f:iz→iz) (hf:∀ w,(f w).Part=w.Part) (l:List iz):pU (l.map f)=pU l:=by
 unfold pU
 rw [b7]
 congr 1
 exact List.map_congr_left (fun w _=>hf w)
theorem JA {c:Campaign} (hk:mw c.Key=true) (hv:kq c.Target=true) (hm:0≤c.At∧c.At≤100) (hl:1≤c.aG.length∧c.aG.length≤20) (hw:∀ w∈c.aG,Jz w) (hs:pU c.aG=1000) (hh:c.bb=⟨0,0⟩) (hr:1≤c.Room∧c.Room≤5):bH c=some 0:=by
 have key:Ok (bH c) (fun r=>r=0):=by
  unfold bH
  rw [qG]
  simp only [aa]
  rw [hk,if_neg (by simp),gp,hv,uT,decide_eq_true hm.1,decide_eq_true (show c.At≤345686399999 by omega)]
  unfold fC
  rw [if_neg (by simp),if_neg (by omega),if_neg (by omega)]
  unfold kF
  refine Ok.iter (fun x:Int×Int=>(c.aG.length - x.2).toNat) (fun x:Int×Int=>0≤x.2∧x.2≤c.aG.length∧x.1=pU (c.aG.take x.2.toNat)) ?_ _ ⟨by simp,by simp,by simp [pU]⟩
  rintro ⟨S,n⟩ ⟨g0,g1,g2⟩
  simp only at g0 g1 g2 ⊢
  have hS:=Jk (c.aG.take n.toNat) (fun w H6=>(hw w (List.mem_of_mem_take H6)).1)
  rw [← g2] at hS
  have PQ:(c.aG.take n.toNat).length≤20:=by simp;omega
  unfold dT
  by_cases hn:n < c.aG.length
  ·rw [if_pos hn]
   obtain ⟨w,Ya,hm,_⟩:=fe c.aG g0 hn
   obtain ⟨F3,IQ⟩:=bk.1 (eR Ya).2.2
   rw [Ya]
   simp only [aa]
   have hg:=hw w hm
   unfold Jz at hg
   unfold fA
   rw [if_neg (by simp only [rZ];simp;omega)]
   refine Ok.ret ?_
   rw [bc (x:=S+w.Part) (by omega) (by omega),bc (x:=n+1) (by omega) (by omega)]
   refine ⟨⟨by simp only;omega,by simp only;omega,?_⟩,by simp only;omega⟩
   simp only
   rw [show (n+1).toNat=n.toNat+1 by omega,Eu F3,IQ,g2]
  ·rw [if_neg hn]
   have QW:c.aG.take n.toNat=c.aG:=bi (by omega)
   rw [QW] at g2
   refine Ok.inr ?_
   unfold gX
   rw [if_neg (by omega)]
   unfold fB
   rw [if_neg (by simp only [rZ,hh];simp;omega)]
   exact Ok.ret rfl
 obtain ⟨r,h1,rfl⟩:=key
 exact h1
theorem Ut {c:Campaign} (h:Us c):bH (o9 c)=some 0:=
 JA h.key h.Z3 h.Ig (by have:=h.len;unfold o9;simp;omega) (fun w hw=>by
  obtain ⟨v,hv,rfl⟩:=af.1 hw
  have:=h.wav v hv
  unfold Jz at this ⊢
  simp only
  omega) (by unfold o9;simp only;rw [OJ (fun w=>(⟨w.Part,0,w.pk,w.ct⟩:iz)) (fun w=>rfl)];exact h.sum) rfl h.room
theorem KL:∀ {l:List DeviceS} {p:Option DeviceS},(∀ d∈l,¬ FB d∧kq d.bB=true∧d.I4=[])→l.Pairwise (fun a b=>Lib.compareBytes a.Key b.Key < 0)→(∀ q,p=some q→∀ d∈l,Lib.compareBytes q.Key d.Key < 0)→tM tU p l=0
 | [],p,_,_,_=>by cases p<;>rfl
 | d :: r,p,h1,h2,h3=>by
   rw [b8] at h2
   obtain ⟨k1,k2,k3⟩:=h1 d (by simp)
   have hb:yv p d=false:=by
    unfold yv
    cases p with
    | none=>rfl
    | some q=>
      simp only
      have:=h3 q rfl d (by simp)
      have h4:=ze q.Key d.Key
      rw [tc,Kc,Bool.or_eq_false_iff]
      exact ⟨decide_eq_false (by omega),decide_eq_false (by omega)⟩
   have h0:tU p d=0:=by
    unfold tU
    rw [if_neg k1,hb,if_neg (by simp),k2,if_neg (by simp),k3,if_neg (by simp)]
   simp only [tM]
   rw [if_pos h0]
   exact KL (fun x hx=>h1 x (ap _ hx)) h2.2 (fun q hq x hx=>by obtain rfl:=ac hq;exact h2.1 x hx)
def A5:List bq:=[[100,49],[100,50],[100,51],[100,52]]
structure JC (d:DeviceS):Prop where
 key:mw d.Key=true
 U6:d.Model=[109]∨d.Model=[110]
 ten:d.yj=[116]
 fw:(1≤d.bB.ax∧d.bB.ax≤3)∧(0≤d.bB.aA∧d.bB.aA≤5)∧d.bB.aC=0
 tag:d.I4=[]
theorem Rt:∀ j n:Fin 4,j.1 < n.1→Lib.compareBytes (A5.getD j.1 []) (A5.getD n.1 []) < 0:=by decide
theorem Ru:∀ n:Fin 4,mw (A5.getD n.1 [])=true:=by decide
theorem FW {s:BN} {K:Int} (hs:yC s K) (hK:30≤K):wU (kO s 4) (K - 30) (fun l=>l.length≤4∧(∀ d∈l,JC d)∧l.Pairwise (fun a b=>Lib.compareBytes a.Key b.Key < 0)):=by
 refine wU.of ?_
 unfold kO
 rw [show Gz [([100,49]:bq),([100,50]:bq),([100,51]:bq),([100,52]:bq),([100,53]:bq),([100,54]:bq)] (0:Int) 4=some A5 from rfl]
 simp only [aa]
 unfold ru
 have WB:A5.length=4:=rfl
 refine Ok.iter (fun x:List Int×Int×List DeviceS×Int=>(4 - x.2.2.2).toNat) (fun x:List Int×Int×List DeviceS×Int=>0≤x.2.2.2∧x.2.2.2≤4∧yC ⟨x.1,x.2.1⟩ (K - 30+4 * (4 - x.2.2.2))∧(x.2.2.1.length:Int)≤x.2.2.2∧(∀ d∈x.2.2.1,JC d∧∃ j:Fin 4,(j.1:Int) < x.2.2.2∧d.Key=A5.getD j.1 [])∧x.2.2.1.Pairwise (fun a b=>Lib.compareBytes a.Key b.Key < 0)) ?_ _ ⟨by simp,by simp,hs.less (by simp only;omega),by simp,by simp,by simp⟩
 rintro ⟨L,a,l,n⟩ ⟨g0,g1,g2,g3,g4,g5⟩
 simp only at g0 g1 g2 g3 g4 g5 ⊢
 unfold iL
 rw [WB]
 by_cases hn:n < 4
 ·rw [if_pos (by simpa using hn)]
  refine Ok.idx g0 (by rw [WB];simpa using hn) (fun p hp _=>?_)
  have hpe:p=A5.getD n.toNat []:=by
   have:=(eR hp).2.2
   rw [List.getD_eq_getElem?_getD,this];rfl
  refine Ok.gen (Fw g2 (by omega) (by omega) (by omega)) (fun b s2 _ q2=>?_)
  dsimp only
  unfold iK
  rw [bc (by omega) (by omega)]
  have Pb:∀ d∈l,JC d∧∃ j:Fin 4,(j.1:Int) < n+1∧d.Key=A5.getD j.1 []:=fun d hd=>by
   obtain ⟨e1,j,e2,e3⟩:=g4 d hd
   exact ⟨e1,j,by omega,e3⟩
  split
  ·refine Ok.gen (NK q2 (by omega) (by simp) (by simp)) (fun u s6 hu q6=>?_)
   refine Ok.gen (rW q6 (by omega) (by simp) (by simp)) (fun v s7 hv q7=>?_)
   refine Ok.gen (rW q7 (by omega) (by simp) (by simp)) (fun w s8 hw q8=>?_)
   refine Ok.app (by simp;omega) ?_
   refine Ok.ret ⟨⟨by simp only;omega,by simp only;omega,q8.less (by simp only;omega),by simp;omega,?_,?_⟩,by simp only;omega⟩
   ·simp only
    intro d hd
    rcases al.1 hd with e | e
    ·exact Pb d e
    ·rw [ag] at e
     subst e
     have U0:=Ru ⟨n.toNat,by omega⟩
     simp at hu hv hw
     refine ⟨⟨by simp only;rw [hpe];exact U0,by simp only;exact hu,rfl,⟨by simp only;omega,by simp only;omega,rfl⟩,rfl⟩,⟨n.toNat,by omega⟩,by simp only;omega,hpe⟩
   ·simp only
    rw [bx]
    refine ⟨g5,by simp,fun x hx y hy=>?_⟩
    rw [ag] at hy
    subst hy
    obtain ⟨_,j,e2,e3⟩:=g4 x hx
    simp only
    rw [e3,hpe]
    exact Rt j ⟨n.toNat,by omega⟩ (by simp only;omega)
  ·exact Ok.ret ⟨⟨by simp only;omega,by simp only;omega,q2.less (by simp only;omega),by simp only;omega,Pb,g5⟩,by simp only;omega⟩
 ·rw [if_neg (by simpa using hn)]
  exact Ok.inr (Ok.ret ⟨⟨by simp only;omega,fun d hd=>(g4 d hd).1,g5⟩,g2.less (by omega)⟩)
theorem FX {l:List DeviceS} (h1:l.length≤4) (h2:∀ d∈l,JC d) (h3:l.Pairwise (fun a b=>Lib.compareBytes a.Key b.Key < 0)):zu l=0:=by
 unfold zu
 rw [if_neg (by omega)]
 refine KL (fun d hd=>?_) h3 (by simp)
 have h:=h2 d hd
 refine ⟨?_,?_,h.tag⟩
 ·unfold FB
  rw [h.key,h.ten]
  rcases h.U6 with e | e<;>rw [e]<;>decide
 ·have:=h.fw
  unfold kq
  simp
  omega
structure An (x:ar):Prop where
 maj:2≤x.Version.ax∧x.Version.ax≤5
 min:x.Version.aA=0∨x.Version.aA=5
 pat:x.Version.aC=0
 U6:x.jU=[[109]]∨x.jU=[[109],[110]]∨x.jU=[[110]]
 size:1≤x.ec∧x.ec≤10
 WT:(∃ low p:Int,(1≤low∧low < x.Version.ax)∧(0≤p∧p≤9999)∧x.cr=[⟨⟨low,0,0⟩,⟨x.Version.ax - 1,p,9999⟩⟩])∨
  (∃ low:Int,(1≤low∧low < x.Version.ax)∧x.Version.aA=5∧x.cr=[⟨⟨low,0,0⟩,⟨low,0,0⟩⟩,⟨⟨x.Version.ax,0,0⟩,⟨x.Version.ax,4,9999⟩⟩])
theorem sE {a b:Version}:dL a b < 0↔a.ax < b.ax∨(a.ax=b.ax∧(a.aA < b.aA∨(a.aA=b.aA∧a.aC < b.aC))):=by
 unfold dL
 simp only [sx,dD]
 repeat' split
 all_goals omega
theorem xz {a b:Version}:dL a b≤0↔¬ dL b a < 0:=by
 have:=uU a b
 omega
theorem xe {a b c:Int} (h:(0≤a∧a≤9999)∧(0≤b∧b≤9999)∧0≤c∧c≤9999):kq ⟨a,b,c⟩=true:=by
 unfold kq;simp;omega
theorem OK {x:ar} (h:An x):eU x=some 0:=by
 have h1:=h.maj
 have h2:=h.min
 have h3:=h.pat
 have cov:∀ r∈x.cr,wW x.Version r=false:=by
  intro r hr
  unfold wW
  rcases h.WT with ⟨low,p,e1,e2,e3⟩ | ⟨low,e1,e2,e3⟩
  ·rw [e3,ag] at hr
   subst hr
   simp only
   have:¬ dL x.Version ⟨x.Version.ax - 1,p,9999⟩≤0:=by
    rw [xz,bz,sE];simp only;omega
   rw [decide_eq_false this,bG]
  ·rw [e3] at hr
   simp only [ad,aL,or_false] at hr
   rcases hr with e | e<;>subst e<;>simp only
   ·have:¬ dL x.Version ⟨low,0,0⟩≤0:=by
     rw [xz,bz,sE];simp only;omega
    rw [decide_eq_false this,bG]
   ·have:¬ dL x.Version ⟨x.Version.ax,4,9999⟩≤0:=by
     rw [xz,bz,sE]
     exact Or.inr ⟨rfl,Or.inl (by simp only;omega)⟩
    rw [decide_eq_false this,bG]
 have hk3:gh x=some 0:=by
  unfold gh
  have hl:x.cr.length≤1000000:=by
   rcases h.WT with ⟨low,p,e1,e2,e3⟩ | ⟨low,e1,e2,e3⟩<;>rw [e3]<;>simp
  rw [Kj,Hp x x.Version hl]
  simp only [aa]
  have:x.cr.any (wW x.Version)=false:=by
   rw [List.any_eq_false]
   intro r hr
   rw [cov r hr];simp
  rw [this,if_neg (by simp)]
 have step:∀ (i:Int) (r:Range),0≤i→i < 10→idx x.cr i=some r→i < x.cr.length→kq r.xM=true→kq r.oq=true→dL r.xM r.oq≤0→(0 < i→∃ q,idx x.cr (i - 1)=some q∧0 < dL r.xM q.oq)→cO x i=some (.inl (i+1)):=by
  intro i r i0 i1 hi hl v1 v2 v3 hq
  unfold cO
  rw [if_pos hl,hi]
  simp only [aa]
  rw [gp,gp,v1,v2,if_neg (by simp),if_neg (by simp),ny]
  simp only [aa]
  unfold cN
  rw [if_neg (by simp;omega)]
  by_cases Ma:0 < i
  ·obtain ⟨q,q1,q2⟩:=hq Ma
   rw [if_pos Ma,bc (by omega) (by omega),q1]
   simp only [aa]
   rw [ny]
   simp only [aa]
   unfold dH
   rw [if_neg (by simp;omega),bc (by omega) (by omega)]
  ·rw [if_neg Ma]
   unfold dH
   rw [if_neg (by simp),bc (by omega) (by omega)]
 unfold eU
 rcases h.WT with ⟨low,p,e1,e2,e3⟩ | ⟨low,e1,e2,e3⟩
 ·rw [if_neg (by rw [e3];simp)]
  unfold iQ
  rw [iter_eq,step 0 ⟨⟨low,0,0⟩,⟨x.Version.ax - 1,p,9999⟩⟩ (by omega) (by omega) (by rw [e3];rfl) (by rw [e3];simp) (xe (by omega)) (xe (by omega)) (by rw [xz,sE];simp only;omega) (by omega)]
  simp only [aa,bh]
  rw [iter_eq,cO,if_neg (by rw [e3];simp),aW]
  exact hk3
 ·rw [if_neg (by rw [e3];simp)]
  unfold iQ
  rw [iter_eq,step 0 ⟨⟨low,0,0⟩,⟨low,0,0⟩⟩ (by omega) (by omega) (by rw [e3];rfl) (by rw [e3];simp) (xe (by omega)) (xe (by omega)) (by rw [xz,sE];simp only;omega) (by omega)]
  simp only [aa,bh]
  rw [iter_eq,step (0+1) ⟨⟨x.Version.ax,0,0⟩,⟨x.Version.ax,4,9999⟩⟩ (by omega) (by omega) (by rw [e3];rfl) (by rw [e3];simp) (xe (by omega)) (xe (by omega)) (by rw [xz,sE];simp only;omega) (fun _=>⟨⟨⟨low,0,0⟩,⟨low,0,0⟩⟩,by rw [e3];rfl,by
   have:dL ⟨low,0,0⟩ ⟨x.Version.ax,0,0⟩ < 0:=by rw [sE];simp only;omega
   have:=uU ⟨low,0,0⟩ ⟨x.Version.ax,0,0⟩
   simp only;omega⟩)]
  simp only [aa,bh]
  rw [iter_eq,cO,if_neg (by rw [e3];simp),aW]
  exact hk3
theorem OL {x:ar} (h:An x) (n:Int):iR n x 0=gi n x:=by
 have k1:mw [109]=true:=by decide
 have k2:mw [110]=true:=by decide
 unfold iR
 rcases h.U6 with e | e | e
 ·rw [iter_eq,bV,if_pos (by rw [e];simp),e,show idx [[(109:UInt8)]] 0=some [109] from rfl]
  simp only [aa]
  rw [qG]
  simp only [aa]
  rw [k1,if_neg (by simp),if_neg (by omega)]
  unfold cE
  rw [if_neg (by simp),bc (by omega) (by omega)]
  simp only [aa,bh]
  rw [iter_eq,bV,if_neg (by rw [e];simp),aW]
 ·rw [iter_eq,bV,if_pos (by rw [e];simp),e,show idx [[(109:UInt8)],[110]] 0=some [109] from rfl]
  simp only [aa]
  rw [qG]
  simp only [aa]
  rw [k1,if_neg (by simp),if_neg (by omega)]
  unfold cE
  rw [if_neg (by simp),bc (by omega) (by omega)]
  simp only [aa,bh]
  rw [iter_eq,bV,if_pos (by rw [e];simp),e,show idx [[(109:UInt8)],[110]] (0+1)=some [110] from rfl]
  simp only [aa]
  rw [qG]
  simp only [aa]
  rw [k2,if_neg (by simp),if_pos (by omega),show idx [[(109:UInt8)],[110]] (bA (0+1 - 1))=some [109] from rfl]
  simp only [aa]
  unfold cE
  rw [if_neg (by decide),bc (by omega) (by omega)]
  simp only [aa,bh]
  rw [iter_eq,bV,if_neg (by rw [e];simp),aW]
 ·rw [iter_eq,bV,if_pos (by rw [e];simp),e,show idx [[(110:UInt8)]] 0=some [110] from rfl]
  simp only [aa]
  rw [qG]
  simp only [aa]
  rw [k2,if_neg (by simp),if_neg (by omega)]
  unfold cE
  rw [if_neg (by simp),bc (by omega) (by omega)]
  simp only [aa,bh]
  rw [iter_eq,bV,if_neg (by rw [e];simp),aW]
theorem OM {xs:List ar} (hl:xs.length≤8) (h:∀ x∈xs,An x) (hp:xs.Pairwise (fun a b=>dL a.Version b.Version < 0)):cK xs=some 0:=by
 have key:Ok (cK xs) (fun r=>r=0):=by
  unfold cK
  rw [if_neg (by omega)]
  unfold lH
  refine Ok.range xs.length (fun i h0 h1=>?_)
  have w1:bA (i+1)=i+1:=bc (by omega) (by omega)
  have w2:bA (i - 1)=i - 1:=bc (by omega) (by omega)
  unfold eI
  by_cases hi:i < xs.length
  ·rw [if_pos hi]
   refine Ok.idx h0 hi (fun x hx hm=>?_)
   have hg:=h x hm
   have hv:kq x.Version=true:=by
    have h1:=hg.maj
    have h2:=hg.min
    have h3:=hg.pat
    unfold kq;simp;omega
   rw [gp,hv,if_neg (by simp)]
   have j1:Ok (db i x false) (XY xs.length (fun r:Int=>r=0) i):=by
    unfold db
    have O8:1≤x.jU.length∧x.jU.length≤2:=by
     rcases hg.U6 with e | e | e<;>rw [e]<;>simp
    rw [if_neg (by simp),if_neg (by omega),if_neg (by omega),OL hg]
    unfold gi
    rw [OK hg]
    simp only [aa]
    have hs:=hg.size
    rw [if_neg (by simp),if_neg (by simp only [rZ];simp;omega),w1]
    exact Ok.ret ⟨rfl,hi⟩
   by_cases Ma:0 < i
   ·rw [if_pos Ma,w2]
    refine Ok.idx (by omega) (by omega) (fun y hy VN=>?_)
    rw [ny]
    simp only [aa]
    have ew:dL y.Version x.Version < 0:=by
     have a1:=eR hy
     have a2:=eR hx
     obtain ⟨b1,b2⟩:=bk.1 a1.2.2
     obtain ⟨c1,c2⟩:=bk.1 a2.2.2
     have:=List.pairwise_iff_getElem.1 hp (i - 1).toNat i.toNat b1 c1 (by omega)
     rw [b2,c2] at this
     exact this
    have:=uU x.Version y.Version
    rw [decide_eq_false (by omega)]
    exact j1
   ·rw [if_neg Ma]
    exact j1
  ·rw [if_neg hi]
   exact Ok.inr (Ok.ret rfl)
 obtain ⟨r,h1,rfl⟩:=key
 exact h1
def bI (i:Int):Int:=if i=0 then 0 else if i=1 then 5 else 6
def Bt (v:Version) (M b:Int):Prop:=v.ax < M∨(v.ax=M∧v.aA < b)
theorem W6 {n10:Int} (hn:2≤n10∧n10≤5) {l:List Int} {n:Int} {xs:List ar} {K:Int} (hs:yC ⟨l,n⟩ K) (hK:12≤K) (hx:xs.length≤100∧(∀ x∈xs,An x)∧xs.Pairwise (fun a b=>dL a.Version b.Version < 0)∧∀ x∈xs,Bt x.Version n10 0):
 Ok (mP n10 l n xs 0) (fun r=>∃ l' n' ys,r=.inl (l',n',ys,n10+1)∧yC ⟨l',n'⟩ (K - 12)∧ys.length≤xs.length+2∧(∀ x∈ys,An x)∧ys.Pairwise (fun a b=>dL a.Version b.Version < 0)∧∀ x∈ys,Bt x.Version (n10+1) 0):=by
 unfold mP
 refine Ok.iter (fun x:(List Int)×Int×(List ar)×Int=>(2 - x.2.2.2).toNat) (fun x=>(0≤x.2.2.2∧x.2.2.2≤2)∧yC ⟨x.1,x.2.1⟩ (K - 6 * x.2.2.2)∧(x.2.2.1.length:Int)≤xs.length+x.2.2.2∧(∀ y∈x.2.2.1,An y)∧x.2.2.1.Pairwise (fun a b=>dL a.Version b.Version < 0)∧∀ y∈x.2.2.1,Bt y.Version n10 (bI x.2.2.2)) ?_ _ ⟨by simp,by simpa using hs,by simp,hx.2.1,hx.2.2.1,hx.2.2.2⟩
 rintro ⟨l,n,ys,i⟩ ⟨h0,h1,h2,h3,h4,h5⟩
 dsimp only at h0 h1 h2 h3 h4 h5 ⊢
 have w1:bA (i+1)=i+1:=bc (by omega) (by omega)
 have w2:bA (n10+1)=n10+1:=bc (by omega) (by omega)
 have w3:bA (n10 - 1)=n10 - 1:=bc (by omega) (by omega)
 unfold ig
 rw [w2,w3]
 have hbI:bI i≤bI (i+1):=by unfold bI;repeat' split
                            all_goals omega
 have j1:∀ (l':List Int) (n':Int) (zs:List ar),i < 2→yC ⟨l',n'⟩ (K - 6 * i - 6)→zs.length≤ys.length+1→(∀ y∈zs,An y)→zs.Pairwise (fun a b=>dL a.Version b.Version < 0)→(∀ y∈zs,Bt y.Version n10 (bI (i+1)))→Ok (fK i l' n' zs) (Lt (fun x:(List Int)×Int×(List ar)×Int=>(2 - x.2.2.2).toNat) (fun x=>(0≤x.2.2.2∧x.2.2.2≤2)∧yC ⟨x.1,x.2.1⟩ (K - 6 * x.2.2.2)∧(x.2.2.1.length:Int)≤xs.length+x.2.2.2∧(∀ y∈x.2.2.1,An y)∧x.2.2.1.Pairwise (fun a b=>dL a.Version b.Version < 0)∧∀ y∈x.2.2.1,Bt y.Version n10 (bI x.2.2.2)) (fun r=>∃ l' n' ys,r=.inl (l',n',ys,n10+1)∧yC ⟨l',n'⟩ (K - 12)∧ys.length≤xs.length+2∧(∀ x∈ys,An x)∧ys.Pairwise (fun a b=>dL a.Version b.Version < 0)∧∀ x∈ys,Bt x.Version (n10+1) 0) (l,n,ys,i)):=by
  intro l' n' zs hi hq hl hb Lc hb3
  unfold fK
  rw [w1]
  exact Ok.ret ⟨⟨⟨by dsimp only;omega,by dsimp only;omega⟩,hq.less (by dsimp only;omega),by dsimp only;omega,hb,Lc,hb3⟩,by dsimp only;omega⟩
 split
 ·rename_i hi
  have hi:i < 2:=by simpa using hi
  refine Ok.idx h0.1 (by simpa using hi) (fun m hm _=>?_)
  have hmi:m=bI i:=by
   unfold bI
   by_cases e0:i=0
   ·subst e0;rw [if_pos rfl];exact (ac hm).symm
   ·have e1:i=1:=by omega
    subst e1;rw [if_neg (by omega),if_pos rfl];exact (ac hm).symm
  have W7:(m=0∨m=5)∧m < bI (i+1):=by
   rw [hmi];unfold bI;repeat' split
   all_goals omega
  refine Ok.gen (Fw h1 (by omega) (by omega) (by omega)) (fun b s1 p1 q1=>?_)
  split
  ·exact j1 _ _ _ hi (q1.less (by omega)) (by omega) h3 h4 (fun y hy=>by have:=h5 y hy;unfold Bt at this ⊢;omega)
  ·refine Ok.gen (NJ q1 (by omega) (by omega) (by omega)) (fun c s2 p2 q2=>?_)
   refine Ok.idx p2.1 (by simpa using p2.2) (fun ms hms Ix=>?_)
   have lms:ms=[[109]]∨ms=[[109],[110]]∨ms=[[110]]:=by
    simp only [ad,aL,or_false] at Ix
    rcases Ix with h | h | h | h<;>subst h<;>simp
   refine Ok.gen (rW q2 (by omega) (by simp) (by simp)) (fun d s3 p3 q3=>?_)
   have hd:1≤d∧d≤10:=by simp at p3;omega
   refine Ok.gen (QR q3 (by omega) (by omega) (by omega) (by omega)) (fun e s4 p4 q4=>?_)
   refine Ok.gen (rW q4 (by omega) (by simp) (by simp)) (fun f s5 p5 q5=>?_)
   have hf:0≤f∧f≤9999:=by simp at p5;omega
   refine Ok.gen (Fw q5 (by omega) (by omega) (by omega)) (fun g s6 p6 q6=>?_)
   dsimp only
   refine (fun (H:∀ Q,(∀ (rs:List Range),((∃ low p:Int,(1≤low∧low < n10)∧(0≤p∧p≤9999)∧rs=[⟨⟨low,0,0⟩,⟨n10 - 1,p,9999⟩⟩])∨(∃ low:Int,(1≤low∧low < n10)∧m=5∧rs=[⟨⟨low,0,0⟩,⟨low,0,0⟩⟩,⟨⟨n10,0,0⟩,⟨n10,4,9999⟩⟩]))→Ok (fL n10 ys i m ms (d,s3) s6.L s6.at_ rs) Q)→Ok (ie n10 ys i m ms (d,s3) (e,s4) (f,s5) s6.L s6.at_ (g&&decide (m=5))) Q)=>H _ (fun rs hr=>?_)) (fun Q J=>?_)
   ·unfold fL
    refine Ok.app (by simp;omega) ?_
    have hg:An ⟨⟨n10,m,0⟩,ms,rs,(d,s3).1⟩:=⟨hn,W7.1,rfl,lms,hd,hr⟩
    refine j1 _ _ _ hi (q6.less (by omega)) (by simp) (KK h3 hg) ?_ (KK (fun y hy=>by have:=h5 y hy;unfold Bt at this ⊢;omega) ?_)
    ·rw [bx]
     refine ⟨h4,by simp,fun a ha b hb=>?_⟩
     rw [ag] at hb
     subst hb
     have:=h5 a ha
     unfold Bt at this
     rw [sE]
     simp only
     omega
    ·unfold Bt
     exact Or.inr ⟨rfl,W7.2⟩
   ·unfold ie
    split
    ·rename_i hc
     simp only [aS,decide_eq_true_eq] at hc
     refine Ok.app (by simp) ?_
     unfold fN
     rw [if_neg (by simp)]
     rw [show idx ([]++[(⟨whole e,whole e⟩:Range)]) 0=some ⟨whole e,whole e⟩ from rfl]
     simp only [xp,aa]
     have ew:dL (whole e) (whole n10) < 0:=by
      rw [sE];unfold whole;simp only;omega
     unfold fM
     rw [if_pos (decide_eq_true ew)]
     refine Ok.app (by simp) ?_
     exact J _ (.inr ⟨e,by omega,hc.2,rfl⟩)
    ·unfold fN
     rw [if_pos (by simp)]
     unfold fM
     rw [if_pos rfl]
     refine Ok.app (by simp) ?_
     exact J _ (.inl ⟨e,f,by omega,hf,by rw [w3];rfl⟩)
 ·rename_i hi
  have hi:¬ i < 2:=by simpa using hi
  exact Ok.inr (Ok.ret ⟨l,n,ys,rfl,h1.less (by omega),by omega,h3,h4,fun x hx=>by
   have:=h5 x hx
   unfold Bt at this ⊢
   omega⟩)
theorem DL {s:BN} {K:Int} (hs:yC s K) (hK:48≤K):wU (jW s) (K - 48) (fun xs=>xs.length≤8∧(∀ x∈xs,An x)∧xs.Pairwise (fun a b=>dL a.Version b.Version < 0)):=by
 unfold jW qj
 refine wU.of ?_
 refine Ok.iter (fun x:(List Int)×Int×(List ar)×Int=>(6 - x.2.2.2).toNat) (fun x=>(2≤x.2.2.2∧x.2.2.2≤6)∧yC ⟨x.1,x.2.1⟩ (K - 12 * (x.2.2.2 - 2))∧(x.2.2.1.length:Int)≤2 * (x.2.2.2 - 2)∧(∀ y∈x.2.2.1,An y)∧x.2.2.1.Pairwise (fun a b=>dL a.Version b.Version < 0)∧∀ y∈x.2.2.1,Bt y.Version x.2.2.2 0) ?_ _ ⟨by simp,by simpa using hs,by simp,by simp,by simp,by simp⟩
 rintro ⟨l,n,ys,i⟩ ⟨h0,h1,h2,h3,h4,h5⟩
 dsimp only at h0 h1 h2 h3 h4 h5 ⊢
 unfold ij
 split
 ·rename_i hi
  obtain ⟨r,e,l',n',zs,rfl,g1,g2,g3,g4,g5⟩:=W6 (n10:=i) ⟨h0.1,hi⟩ h1 (by omega) ⟨by omega,h3,h4,h5⟩
  exact ⟨_,e,⟨by dsimp only;omega,g1.less (by dsimp only;omega),by dsimp only;omega,g3,g4,g5⟩,by dsimp only;omega⟩
 ·exact Ok.inr (Ok.ret ⟨⟨by show ys.length≤8;omega,h3,h4⟩,h1.less (by omega)⟩)
theorem Dd (im:List ar) (hx:me im) (dW:eG im) (m:bq) (v to:Version):
 (∃ p,(xZ im m).Br v to p∧p.length≤im.length∧kY im m v to=some (p.map ar.Version,true))∨((∀ p,¬ (xZ im m).ji v p to)∧kY im m v to=some ([],false)):=by
 obtain ⟨M,e,hM,C⟩:=Da im m to hx dW
 rcases Jv im m v to hx dW M hM C with ⟨p,h1,h2,h3⟩ | ⟨h1,h3⟩
 ·rcases Db im m v to hx dW with ⟨q,k1,k2⟩ | ⟨k1,k2⟩
  ·left
   refine ⟨p,h1,h2,?_⟩
   have e:p.map ar.Version=q.map ar.Version:=Net.Br.unique (xZ im m) (xc dW) h1 k1
   rw [k2,e]
  ·have:=k1 p h1.1
   omega
 ·rcases Db im m v to hx dW with ⟨q,k1,k2⟩ | ⟨k1,k2⟩
  ·exact absurd k1.1 (h1 q)
  ·exact .inr ⟨h1,k2⟩
noncomputable def HW (im:List ar) (m:bq) (to v:Version):Nat:=match kY im m v to with
 | some (W,true)=>W.length
 | _=>0
theorem Uu (im:List ar) (hx:me im) (dW:eG im) (m:bq) (to v:Version):HW im m to v≤8:=by
 have:=hx.1
 unfold HW
 rcases Dd im hx dW m v to with ⟨p,h1,h2,h3⟩ | ⟨h1,h3⟩
 ·rw [h3];simp only [a6];omega
 ·rw [h3];simp
theorem De (im:List ar) (hx:me im) (dW:eG im) (m:bq) (to v w0:Version) (r:List Version) (h:kY im m v to=some (w0 :: r,true)):
 (∃ x∈im,x.Version=w0)∧HW im m to v=r.length+1∧(∃ W,kY im m w0 to=some (W,true))∧HW im m to w0≤r.length:=by
 have hr:HW im m to v=r.length+1:=by unfold HW;rw [h];rfl
 rcases Dd im hx dW m v to with ⟨p,h1,h2,h3⟩ | ⟨h1,h3⟩
 ·rw [h3] at h
  cases p with
  | nil=>cases h
  | cons y q=>
    have e:=ac h
    have e1:=(Prod.mk.inj e).1
    rw [ai] at e1
    have e2:=List.cons.inj e1
    have hw:=(Net.ji.cons (xZ im m)).1 h1.1
    have hw2:(xZ im m).ji w0 q to:=by rw [← e2.1];exact hw.2
    have hql:q.length=r.length:=by rw [← e2.2,a6]
    have hyi:y∈im:=re (xd h1.1 y (by simp))
    refine ⟨⟨y,hyi,e2.1⟩,hr,?_⟩
    rcases Dd im hx dW m w0 to with ⟨p',k1,k2,k3⟩ | ⟨k1,k3⟩
    ·refine ⟨⟨_,k3⟩,?_⟩
     unfold HW
     rw [k3]
     simp only [a6]
     have:=k1.2 q hw2
     unfold Net.Le at this
     omega
    ·exact absurd hw2 (k1 q)
 ·rw [h3] at h;cases h
theorem FY {im:List ar} {to:Version} {d:DeviceS} {v:Version} {o:eo} (h:xI im to d v=some o):o.Device=d.Key∧∃ r,kY im d.Model v to=some (o.Version :: r,true):=by
 unfold xI at h
 split at h
 ·rename_i w0 r hq
  obtain ⟨x,_,rfl⟩:=b9.1 h
  exact ⟨rfl,r,hq⟩
 ·cases h
theorem ON {im:List ar} (hx:me im) (dW:eG im) {to:Version} {d:DeviceS} {v:Version} (hv:v≠to) (h:xI im to d v=none):kY im d.Model v to=some ([],false):=by
 obtain ⟨W,ok,hW⟩:=Dc im hx dW d.Model v to
 cases ok with
 | false=>rw [hW.ref,hW.emp rfl]
 | true=>
   obtain ⟨w0,r,e,x,xL,hxv⟩:=hW.non rfl hv
   unfold xI at h
   rw [hW.ref,e] at h
   simp only at h
   rw [Option.map_eq_none_iff,List.find?_eq_none] at h
   exact absurd (by simpa using hxv) (h x xL)
theorem FZ (im:List ar) (to:Version) (room:Int) (v:DeviceS→Version):∀ (l:List DeviceS) (out:List eo),∀ o∈Ij im to room v l out,o∈out∨∃ d∈l,xI im to d (v d)=some o
 | [],out,o,h=>.inl h
 | d :: r,out,o,h=>by
   unfold Ij at h
   split at h
   ·exact .inl h
   ·split at h
    ·rcases FZ im to room v r out o h with e | ⟨x,hx,e⟩
     ·exact .inl e
     ·exact .inr ⟨x,ap _ hx,e⟩
    ·rename_i o' ho
     rcases FZ im to room v r (out++[o']) o h with e | ⟨x,hx,e⟩
     ·rcases al.1 e with e | e
      ·exact .inl e
      ·rw [ag] at e
       exact .inr ⟨d,by simp,by rw [e];exact ho⟩
     ·exact .inr ⟨x,ap _ hx,e⟩
theorem F0 (im:List ar) (to:Version) (room:Int) (v:DeviceS→Version):∀ (l:List DeviceS) (out:List eo),∃ M,Ij im to room v l out=out++M
 | [],out=>⟨[],by simp [Ij]⟩
 | d :: r,out=>by
   unfold Ij
   split
   ·exact ⟨[],by simp⟩
   ·split
    ·exact F0 im to room v r out
    ·rename_i o ho
     obtain ⟨M,e⟩:=F0 im to room v r (out++[o])
     exact ⟨o :: M,by rw [e];simp⟩
theorem KM (im:List ar) (to:Version) (room:Int) (hr:1≤room) (v:DeviceS→Version):∀ (l:List DeviceS),Ij im to room v l []=[]→∀ d∈l,xI im to d (v d)=none
 | [],_,d,hd=>(by cases hd)
 | d :: r,h,x,hx=>by
   unfold Ij at h
   rw [if_neg (by simp;omega)] at h
   split at h
   ·rename_i hn
    rcases ad.1 hx with e | e
    ·rw [e];exact hn
    ·exact KM im to room hr v r h x e
   ·rename_i o ho
    obtain ⟨M,e⟩:=F0 im to room v r ([]++[o])
    rw [e] at h
    simp at h
theorem HX (c:Campaign) (dn:List MarkS) (nb:Nat):∀ (fl:List DeviceS) (s:Int×List DeviceS),(∀ d∈fl,tx (eP c dn d)=false)→(fl.foldl (oR c dn nb) s).1=s.1∧∀ d∈fl,mE c d.Key < nb→uu c (eP c dn d)=false→d∈(fl.foldl (oR c dn nb) s).2
 | [],s,_=>⟨rfl,by simp⟩
 | d :: r,s,h=>by
   rw [a7]
   obtain ⟨h1,h2⟩:=HX c dn nb r (oR c dn nb s d) (fun x hx=>h x (ap _ hx))
   obtain ⟨L,l1,_⟩:=FR c dn nb r (oR c dn nb s d)
   have hd:=h d (by simp)
   have e1:(oR c dn nb s d).1=s.1:=by
    unfold oR
    rw [if_neg (by simp [hd])]
    split<;>rfl
   refine ⟨by rw [h1,e1],fun x hx hw ho=>?_⟩
   rcases ad.1 hx with e | e
   ·subst e
    rw [l1]
    refine ca _ ?_
    unfold oR
    rw [if_neg (by simp [hd]),if_pos ⟨hw,ho⟩]
    simp
   ·exact h2 x e hw ho
theorem OO (c:Campaign) (dn:List MarkS) (nb:Nat):∀ (fl:List DeviceS) (s:Int×List DeviceS),∀ d∈(fl.foldl (oR c dn nb) s).2,d∈s.2∨mE c d.Key < nb
 | [],s,d,h=>.inl h
 | x :: r,s,d,h=>by
   rw [a7] at h
   rcases OO c dn nb r _ d h with e | e
   ·unfold oR at e
    split at e
    ·exact .inl e
    ·split at e
     ·rename_i hw
      rcases al.1 e with e | e
      ·exact .inl e
      ·rw [ag] at e;rw [e];exact .inr hw.1
     ·exact .inl e
   ·exact .inr e
theorem HY {c:Campaign} {fl:List DeviceS} {l:List MarkS} (H:BP c fl l) (hs:fl.Pairwise (fun a b=>Lib.compareBytes a.Key b.Key < 0)) (h19:(fl.length:Int) < 20) (im:List ar) (hx:me im) (dW:eG im) {s:CS} {t:Int} (h:SI c fl s l) (hS:s.aQ < 0) (hh:c.bb=⟨0,0⟩) (ht:0≤t∧t≤345686399999) (K:WM) (hK:xH im c.Target K):
 ∃ out K',iq s ⟨im,c.Target,K⟩ fl 0 t=some (out,⟨im,c.Target,K'⟩)∧xH im c.Target K'∧(out.length:Int)≤20∧(out.map eo.Device).Nodup∧
   (∀ o∈out,∃ d∈fl,d.Key=o.Device∧uu c (eP c l d)=false∧tx (eP c l d)=false∧mE c d.Key < s.aE.length∧xI im c.Target d (eP c l d).ah.Version=some o)∧
   ((∀ d∈fl,tx (eP c l d)=false)→out=[]→∀ d∈fl,mE c d.Key < s.aE.length→uu c (eP c l d)=false→xI im c.Target d (eP c l d).ah.Version=none):=by
 have hH:xo c 0 t=true:=by
  unfold xo
  rw [hh]
  simp
 unfold iq iD
 rw [h.c_,Og c (by omega) ht,hH,if_neg (by simp;omega),LS H.c_ H.f_ H.Ug h]
 obtain ⟨L,p1,p2,p3,p4,p5⟩:=FR c l s.aE.length fl (c.Room,[])
 have xK:=H.c_.room
 rw [bP] at p1
 have hLl:=p2.length_le
 obtain ⟨Z,z1,z2,z3⟩:=Jr H.c_ H.f_ hs h L p2 (by omega)
 have hZ:∀ d∈Z,d∈fl∧uu c (eP c l d)=false:=fun d hd=>⟨p2.subset (z3.mem_iff.1 hd),(p3 d (z3.mem_iff.1 hd)).1⟩
 have W8:Z.length=L.length:=z3.length_eq
 unfold fT
 rw [p1,z1]
 simp only [aa]
 obtain ⟨K',k1,k2⟩:=LU H.c_ H.f_ h im hx dW (fl.foldl (oR c l s.aE.length) (c.Room,[])).1 Z hZ (by omega) Z.length 0 K [] (by omega) (by omega) hK (by simp)
 rw [Int.toNat_zero,List.drop_zero] at k1
 obtain ⟨M,m1,m2⟩:=FU im c.Target (fl.foldl (oR c l s.aE.length) (c.Room,[])).1 (fun d=>(eP c l d).ah.Version) Z []
 rw [List.map_nil,bP] at m1
 have vy:(Z.map DeviceS.Key).Nodup:=((z3.map DeviceS.Key).nodup_iff).2 (bU (p2.map DeviceS.Key) H.f_.NV)
 refine ⟨_,K',k1,k2,?_,by rw [m1];exact bU m2 vy,fun o ho=>?_,fun hb hn d hd hw WY=>?_⟩
 ·have:=FT im c.Target (fl.foldl (oR c l s.aE.length) (c.Room,[])).1 (fun d=>(eP c l d).ah.Version) Z []
  simp only [bm] at this
  omega
 ·rcases FZ im c.Target _ _ Z [] o ho with e | ⟨d,hd,e⟩
  ·cases e
  ·have Uv:=z3.mem_iff.1 hd
   have hw:mE c d.Key < s.aE.length:=by
    rcases OO c l s.aE.length fl (c.Room,[]) d (by rw [p1];exact Uv) with e' | e'
    ·cases e'
    ·exact e'
   exact ⟨d,p2.subset Uv,(FY e).1.symm,(p3 d Uv).1,(p3 d Uv).2,hw,e⟩
 ·obtain ⟨q1,q2⟩:=HX c l s.aE.length fl (c.Room,[]) hb
  have Uv:=q2 d hd hw WY
  rw [p1] at Uv
  exact KM im c.Target _ (by rw [q1];simp only;omega) _ Z hn d (z3.mem_iff.2 Uv)
def okW (im:List ar) (m:bq) (to v:Version):Prop:=∃ W,kY im m v to=some (W,true)
def Mk (c:Campaign) (im:List ar) (l:List MarkS) (d:DeviceS) (m:MarkS):Prop:=
 ((eP c l d).ah.Kind=2∧m.Kind=3∧m.Version=(eP c l d).aN)∨
 ((eP c l d).ah.Kind=1∧m.Kind=2∧m.Version=(eP c l d).aN)∨
 (tx (eP c l d)=false∧uu c (eP c l d)=false∧m.Kind=1∧∃ r,kY im d.Model (eP c l d).ah.Version c.Target=some (m.Version :: r,true))
def HZ (c:Campaign) (fl:List DeviceS) (im:List ar) (l:List MarkS) (nb:Nat):Prop:=
 (∀ d∈fl,tx (eP c l d)=false)∧∀ d∈fl,mE c d.Key < nb→uu c (eP c l d)=false→kY im d.Model (eP c l d).ah.Version c.Target=some ([],false)
theorem LY {c:Campaign} {fl:List DeviceS} {l:List MarkS} (H:BP c fl l) (hs:fl.Pairwise (fun a b=>Lib.compareBytes a.Key b.Key < 0)) (h19:(fl.length:Int) < 20) (im:List ar) (hx:me im) (dW:eG im) {s:CS} {t:Int} (h:SX c fl s l) (hS:SA c fl l < 0) (hh:c.bb=⟨0,0⟩) (hJ:JB c fl l) (ew:∀ x∈l,x.At < t) (ht:0≤t∧t≤345686399999) (K:WM) (hK:xH im c.Target K):
 ∃ Z K',gJ s ⟨im,c.Target,K⟩ fl [] t=some (Z,⟨im,c.Target,K'⟩)∧xH im c.Target K'∧(Z.map MarkS.Device).Nodup∧(∀ m∈Z,U4 c fl l t m)∧Z.Pairwise (fun a b=>mO a b < 0)∧Z.length≤40∧
   (∀ m∈Z,∃ d∈fl,d.Key=m.Device∧Mk c im l d m)∧(Z=[]→HZ c fl im l s.aE.length)∧(HZ c fl im l s.aE.length→Z=[]):=by
 have hll:=H.l_
 obtain ⟨out,K',o1,o2,o3,o4,o5,o6⟩:=HY H hs h19 im hx dW h.toSI (by rw [h.sp];exact hS) hh ht K hK
 have Uw:=HV c [] t l fl []
 rw [bP] at Uw
 have W9:∀ L:List DeviceS,((L.flatMap (fun d=>stM [] t d.Key (Pp c l d))).map MarkS.Device).Sublist (L.map DeviceS.Key):=by
  intro L
  induction L with
  | nil=>exact List.Sublist.refl _
  | cons d r ih=>
    rw [bX,be,ai]
    unfold stM
    split
    ·exact ih.cons_cons _
    ·split
     ·exact ih.cons_cons _
     ·exact ih.cons _
 have Yb:∀ m∈fl.flatMap (fun d=>stM [] t d.Key (Pp c l d)),m.At=t∧(2≤m.Kind∧m.Kind≤3)∧∃ d∈fl,d.Key=m.Device∧tx (eP c l d)=true∧Mk c im l d m:=by
  intro m hm
  obtain ⟨d,hd,h2⟩:=List.mem_flatMap.1 hm
  unfold stM Pp at h2
  simp only at h2
  split at h2
  ·rename_i k2
   rw [ag] at h2
   subst h2
   refine ⟨rfl,by simp,d,hd,rfl,?_,.inl ⟨k2,by simp,rfl⟩⟩
   unfold tx;rw [k2];rfl
  ·split at h2
   ·rename_i k1
    rw [ag] at h2
    subst h2
    refine ⟨rfl,by simp,d,hd,rfl,?_,.inr (.inl ⟨k1,rfl,rfl⟩)⟩
    unfold tx;rw [k1];rfl
   ·cases h2
 have hDb:fl.flatMap (fun d=>stM [] t d.Key (Pp c l d))=[]→∀ d∈fl,tx (eP c l d)=false:=by
  intro e d hd
  have h0:=List.flatMap_eq_nil_iff.1 e d hd
  unfold stM Pp at h0
  simp only at h0
  split at h0
  ·cases h0
  ·split at h0
   ·cases h0
   ·rename_i k2 k1
    unfold tx
    rw [decide_eq_false k2,decide_eq_false k1];rfl
 generalize hD:fl.flatMap (fun d=>stM [] t d.Key (Pp c l d))=D at Uw Yb hDb
 have hDs:=W9 fl
 rw [hD] at hDs
 have hDl:D.length≤fl.length:=by have:=hDs.length_le;simpa using this
 have hN:((D++out.map (oM t)).map MarkS.Device).Nodup:=by
  rw [be,b7,List.nodup_append]
  refine ⟨bU hDs H.f_.NV,o4,fun a ha b hb e=>?_⟩
  obtain ⟨m,hm,rfl⟩:=af.1 ha
  obtain ⟨_,_,d,hd,e1,e2,_⟩:=Yb m hm
  obtain ⟨o,ho,e0⟩:=af.1 hb
  obtain ⟨d',ub,e3,e4,e5,_⟩:=o5 o ho
  have e0':o.Device=b:=e0
  have:=key_inj H.f_ hd ub (by rw [e1,e3,e,e0'])
  rw [this,e5] at e2
  cases e2
 have Sk:∀ m∈D++out.map (oM t),U4 c fl l t m∧∃ d∈fl,d.Key=m.Device∧Mk c im l d m:=by
  intro m hm
  rcases al.1 hm with hm | hm
  ·obtain ⟨e1,e2,d,hd,e3,e4,e5⟩:=Yb m hm
   exact ⟨⟨e1,by omega,d,hd,e3,hJ d hd e4⟩,d,hd,e3,e5⟩
  ·obtain ⟨o,ho,rfl⟩:=af.1 hm
   obtain ⟨d',ub,e3,e4,e5,_,e6⟩:=o5 o ho
   exact ⟨⟨rfl,by unfold oM;simp,d',ub,e3,e4⟩,d',ub,e3,.inr (.inr ⟨e5,e4,rfl,(FY e6).2⟩)⟩
 have hMl:(D++out.map (oM t)).length≤40:=by rw [aw,a6];omega
 obtain ⟨Z,z1,_,z3,z4⟩:=LX ht (by omega) hN (fun m hm=>(Sk m hm).1.at_)
 have W8:=z3.length_eq
 refine ⟨Z,K',?_,o2,((z3.map MarkS.Device).nodup_iff).2 hN,fun m hm=>(Sk m (z3.mem_iff.1 hm)).1,z4,by omega,fun m hm=>(Sk m (z3.mem_iff.1 hm)).2,fun e=>?_,fun Dl=>?_⟩
 ·unfold gJ
  rw [OH H h.toSI ⟨im,c.Target,K⟩ [] (by simp) t,Uw]
  unfold gx
  rw [o1]
  simp only [aa]
  rw [OI t (out,⟨im,c.Target,K'⟩) D ⟨by simp only;omega,by omega⟩]
  unfold fo
  simp only
  rw [Ab z1 W8]
  rfl
 ·rw [e,bm] at W8
  have hM0:D++out.map (oM t)=[]:=cb.1 W8.symm
  obtain ⟨Yc,Xa⟩:=List.append_eq_nil_iff.1 hM0
  have Xa:out=[]:=List.map_eq_nil_iff.1 Xa
  refine ⟨hDb Yc,fun d hd hw ho=>?_⟩
  refine ON hx dW (fun ev=>?_) (o6 (hDb Yc) Xa d hd hw ho)
  unfold uu at ho
  rw [ev] at ho
  simp at ho
 ·obtain ⟨s1,s2⟩:=Dl
  have Yc:D=[]:=by
   cases D with
   | nil=>rfl
   | cons m r=>
     obtain ⟨_,_,d,hd,_,e2,_⟩:=Yb m (by simp)
     rw [s1 d hd] at e2;cases e2
  have Xa:out=[]:=by
   cases out with
   | nil=>rfl
   | cons o r=>
     obtain ⟨d,hd,_,e4,_,e5,e6⟩:=o5 o (by simp)
     obtain ⟨_,r',hr⟩:=FY e6
     rw [s2 d hd e5 e4] at hr
     cases hr
  rw [Yc,Xa] at z3
  exact List.Perm.eq_nil z3
structure H3 (c:Campaign) (im:List ar) (d:DeviceS) (x:aj):Prop where
 kd:0≤x.ah.Kind∧x.ah.Kind≤3
 fl:x.ah.ct=0
 bs:tx x=true→∃ r,kY im d.Model x.ah.Version c.Target=some (x.aN :: r,true)
 ok:okW im d.Model c.Target d.bB→okW im d.Model c.Target x.ah.Version
 mv:x.ah.Version≠d.bB→okW im d.Model c.Target d.bB
 vr:kq x.ah.Version=true
noncomputable def Mb (c:Campaign) (im:List ar) (d:DeviceS) (x:aj):Int:=
 3 * (HW im d.Model c.Target x.ah.Version:Int) - (if x.ah.Kind=1 then 1 else if x.ah.Kind=2 then 2 else 0)
theorem vv (x:aj):tx x=true↔x.ah.Kind=1∨x.ah.Kind=2:=by
 unfold tx;simp
theorem H4 {c:Campaign} {im:List ar} (hx:me im) (dW:eG im) {d:DeviceS} {l:List MarkS} {m:MarkS} (h:H3 c im d (eP c l d)) (hm:Mk c im l d m):
 H3 c im d (tw (eP c l d) m)∧Mb c im d (tw (eP c l d) m)+1≤Mb c im d (eP c l d):=by
 generalize hX:eP c l d=x at h
 unfold Mk at hm
 rw [hX] at hm
 have DO:=h.fl
 have hkd:=h.kd
 rcases hm with ⟨k2,m3,mv⟩ | ⟨k1,m2,mv⟩ | ⟨nb,ov,m1,r,hr⟩
 ·obtain ⟨r,hr⟩:=h.bs (by rw [vv];omega)
  obtain ⟨⟨y,hy,hyv⟩,q1,⟨W,hW⟩,q3⟩:=De im hx dW d.Model c.Target _ _ r hr
  have OP:CV x m=true:=by
   unfold CV Ko
   rw [if_neg (by omega),if_neg (by omega)]
   exact decide_eq_true ⟨k2,mv⟩
  have e:tw x m=⟨⟨3,m.At,x.aN,0⟩,m.Version⟩:=by
   unfold tw wX
   rw [if_pos OP,if_pos m3,if_neg (by omega),m3,DO,mv]
  have hfw:okW im d.Model c.Target d.bB:=by
   by_cases ev:x.ah.Version=d.bB
   ·rw [← ev];exact ⟨_,hr⟩
   ·exact h.mv ev
  rw [e]
  refine ⟨⟨by simp,rfl,fun hb=>?_,fun _=>⟨W,hW⟩,fun _=>hfw,?_⟩,?_⟩
  ·rw [vv] at hb;simp at hb
  ·simp only;rw [← hyv];exact (dW.1 y hy).uv
  ·unfold Mb
   simp only
   rw [k2,q1]
   simp
   omega
 ·obtain ⟨r,hr⟩:=h.bs (by rw [vv];omega)
  have OP:CV x m=true:=by
   unfold CV Ko
   rw [if_neg (by omega),if_pos (by omega)]
   exact decide_eq_true ⟨k1,mv⟩
  have e:tw x m=⟨⟨2,m.At,x.ah.Version,0⟩,x.aN⟩:=by
   unfold tw wX
   rw [if_pos OP,if_neg (by omega),if_neg (by omega),m2,DO,mv]
  rw [e]
  refine ⟨⟨by simp,rfl,fun _=>⟨r,hr⟩,h.ok,h.mv,h.vr⟩,?_⟩
  unfold Mb
  simp only
  rw [k1]
  simp
  omega
 ·have hk:x.ah.Kind=0∨x.ah.Kind=3:=by
   have:¬ (x.ah.Kind=1∨x.ah.Kind=2):=fun e=>by
    rw [(vv x).2 e] at nb;cases nb
   omega
  have OP:CV x m=true:=by
   unfold CV Ko
   rw [if_pos m1]
   exact decide_eq_true (by omega)
  have e:tw x m=⟨⟨1,m.At,x.ah.Version,0⟩,m.Version⟩:=by
   unfold tw wX
   rw [if_pos OP,if_neg (by omega),if_neg (by omega),m1,DO]
  rw [e]
  refine ⟨⟨by simp,rfl,fun _=>⟨r,hr⟩,h.ok,h.mv,h.vr⟩,?_⟩
  unfold Mb
  simp only
  rcases hk with hk | hk<;>rw [hk]<;>simp<;>omega
theorem F1 {s:CS} {c:Campaign} (h:s.c_=c):(⟨c,s.kM,s.cj,s.open_,s.ba,s.aO,s.aE,s.aQ,s.bM,s.iA⟩:CS)=s:=by rw [← h]
theorem JD {c:Campaign} {fl:List DeviceS} {l Z:List MarkS} (hc:ga c) (hf:iP fl) (DO:(fl.length:Int)≤500) (hl:(l.length:Int)≤10000) (hZ:(Z.length:Int)≤1000) (st t:Int) (w:aM) (Ib:List MarkS):∀ (k n:Nat) (s:CS),n+k=Z.length→SX c fl s (l++Z.take n)→
 ∃ s',nL c st t (Z,w) Ib s.kM s.iA s.cj s.open_ s.ba s.aO s.aE s.aQ s.bM (n:Int)=nK c st t (Z,w) Ib s'.kM s'.iA s'.cj s'.open_ s'.ba s'.aO s'.aE s'.aQ s'.bM∧SX c fl s' (l++Z)∧s'.aE=s.aE∧s'.bM=s.bM:=by
 intro k
 induction k with
 | zero=>
   intro n s hn h
   have:Z.take n=Z:=bi (by omega)
   rw [this] at h
   refine ⟨s,?_,h,rfl,rfl⟩
   unfold nL
   rw [iter_eq]
   simp only
   unfold jK
   rw [if_neg (by simp only;omega),aW]
 | succ k ih=>
   intro n s hn h
   have O2:n < Z.length:=by omega
   have hlen:(l++Z.take n).length≤l.length+Z.length:=by rw [aw,cc];omega
   obtain ⟨r,r1,r2,r3,r4⟩:=Ky hc hf (by omega) (by omega) h Z[n]
   have htk:l++Z.take n++[Z[n]]=l++Z.take (n+1):=by
    rw [bu,List.take_add_one,ce O2];rfl
   rw [htk] at r2
   obtain ⟨s',e1,e2,e3,e4⟩:=ih (n+1) r (by omega) r2
   refine ⟨s',?_,e2,by rw [e3,r3],by rw [e4,r4]⟩
   rw [← e1]
   conv=>lhs;unfold nL
   rw [iter_eq]
   simp only
   unfold jK
   rw [if_pos (by simp only;omega),mX (ce O2)]
   simp only [aa]
   rw [F1 h.c_,r1]
   simp only [aa,bh]
   rw [bc (by omega) (by omega)]
   rfl
theorem Rv {c:Campaign} {fl:List DeviceS} {l Z:List MarkS} {t:Int} (H:BP c fl l) (ht:0≤t∧t≤345686399999) (ew:∀ x∈l,x.At < t) (hP:∀ m∈Z,U4 c fl l t m) (hZ:Z.Pairwise (fun a b=>mO a b < 0)) (hl:((l++Z).length:Int)≤3000):BP c fl (l++Z):=by
 refine ⟨H.c_,H.f_,H.Ug,fun x hx=>?_,?_,hl⟩
 ·rcases al.1 hx with h | h
  ·exact H.m_ x h
  ·have:=(hP x h).at_
   have:=(hP x h).kind
   exact ⟨by omega,by omega⟩
 ·rw [bx]
  refine ⟨H.s_,hZ,fun a ha b hb=>?_⟩
  have h1:=ew a ha
  have h2:=(hP b hb).at_
  unfold mO
  have:dD a.At b.At < 0:=by unfold dD;split<;>omega
  rw [if_pos (by omega)]
  exact this
theorem Rw {c:Campaign} {fl:List DeviceS} (hW:∀ w∈c.aG,0≤w.ct∧w.ct≤1000):∀ l:List MarkS,l.length≤10000→(∀ m∈l,m.Kind≠4)→SA c fl l=-1:=by
 refine mF (fun _ _=>rfl) (fun l m ih hl h=>?_)
 rw [aw,bv] at hl
 have e:=ih (by omega) (fun x hx=>h x (ca _ hx))
 rw [sC,e,if_neg]
 rintro ⟨_,hn⟩
 unfold Bq at hn
 rw [List.any_eq_true] at hn
 obtain ⟨w,hw,hq⟩:=hn
 rw [aS] at hq
 have hs:=N5 c fl w (l++[m])
 have hb:yw (EL c fl w (l++[m]))=0:=by
  unfold yw
  rw [cb,cf]
  intro x hx
  have:=h x (hs.subset hx)
  simpa using this
 have hlen:=hs.length_le
 rw [aw,bv] at hlen
 have L8:=hW _ (lZ (List.mem_range.1 hw))
 have h2:=hq.2
 unfold zA at h2
 rw [hb,aS] at h2
 have h3:=of_decide_eq_true h2.2
 have hmul:0≤(pV c w).ct * ((EL c fl w (l++[m])).length:Int):=Int.mul_nonneg L8.1 (by omega)
 have GC:(pV c w).ct * ((EL c fl w (l++[m])).length:Int)≤1000 * 10000:=Int.mul_le_mul L8.2 (by omega) (by omega) (by omega)
 rw [bc (by omega) (by omega),bc (by simp) (by simp)] at h3
 simp at h3
 omega
theorem OQ {c:Campaign} {fl:List DeviceS} {l:List MarkS} (hc:ga c) (hW:∀ w∈c.aG,w.oo=0) {T S:Int} {bs:List Int} {nx:Int} (hP:DI c fl l T S bs nx) (hS:S < 0) (hA:c.At≤T):cM c fl l T bs=none:=by
 cases hx:cM c fl l T bs with
 | none=>rfl
 | some v=>
   exfalso
   have hf:=hP.f v hx
   have hr:=(vq hc hP.r).2.2
   unfold cM at hx
   by_cases h0:bs.length=0
   ·rw [if_pos h0] at hx
    have:=ac hx
    omega
   ·rw [if_neg h0] at hx
    by_cases h1:bs.length < c.aG.length
    ·rw [if_pos h1] at hx
     obtain ⟨τ,ht,e⟩:=b9.1 hx
     have:=HC (List.mem_of_find?_eq_some ht)
     have hw:=hW _ (lZ h1)
     have:=hr h0
     omega
    ·rw [if_neg h1] at hx;cases hx
theorem EK {c:Campaign} {fl:List DeviceS} {l:List MarkS} {T t:Int} (h:T≤t) (hl:∀ x∈l,x.At≤T) (bs:List Int):cM c fl l t bs=cM c fl l T bs:=by
 have e:∀ f,uX l f t=uX l f T:=fun f=>by
  unfold uX
  congr 2
  refine List.filter_congr (fun x hx=>?_)
  have:=hl x hx
  rw [decide_eq_true (show x.At≤t by omega),decide_eq_true this]
 unfold cM
 simp only [e]
theorem A6 {c:Campaign} {fl:List DeviceS} {l:List MarkS} (H:BP c fl l) (hW:∀ w∈c.aG,w.oo=0) (hb:(fl.length * l.length:Int)≤100000) {T t:Int} (hT:T≤t) (ht:t≤345686399999) (hl:∀ x∈l,x.At≤T) (hA:c.At≤T) (hS:SA c fl l < 0) {bs uc:List Int} {nx nx':Int} (hP:DI c fl l T (SA c fl l) bs nx) (X9:DI c fl l t (SA c fl l) uc nx'):bs=uc:=by
 have L7:l.Pairwise (fun a b=>a.At≤b.At):=H.s_.imp CZ
 have hQ:nv c fl l t=some (SA c fl l):=by
  have:=vp H t l.length (by rw [bo];intro x hx;have:=hl x hx;omega) (by rw [ci];intro x hx;cases hx) hb
  rw [bo] at this
  exact this
 have e1:=tV H ht hQ (C1 L7 hT (by unfold C0;omega) hP.r) (fun nx hn=>by
  rw [EK hT hl,OQ H.c_ hW hP hS hA] at hn;cases hn)
 have e2:=tV H ht hQ X9.r X9.f
 rw [e1] at e2
 exact ac e2
theorem BQ {α:Type} (f g:α→Int):∀ l:List α,(∀ d∈l,f d≤g d)→(l.map f).sum≤(l.map g).sum
 | [],_=>by simp
 | x :: r,h=>by
   have:=BQ f g r (fun d hd=>h d (ap _ hd))
   have:=h x (by simp)
   simp only [ai,bp]
   omega
theorem KN {α:Type} (f g:α→Int):∀ l:List α,(∀ d∈l,f d≤g d)→(∃ d∈l,f d+1≤g d)→(l.map f).sum+1≤(l.map g).sum
 | [],_,h=>by obtain ⟨d,hd,_⟩:=h;cases hd
 | x :: r,h,he=>by
   have hx:=h x (by simp)
   simp only [ai,bp]
   obtain ⟨d,hd,e⟩:=he
   rcases ad.1 hd with e1 | e1
   ·subst e1
    have:=BQ f g r (fun d hd=>h d (ap _ hd))
    omega
   ·have:=KN f g r (fun d hd=>h d (ap _ hd)) ⟨d,e1,e⟩
    omega
noncomputable def Sl (c:Campaign) (fl:List DeviceS) (im:List ar) (l:List MarkS):Int:=(fl.map (fun d=>Mb c im d (eP c l d))).sum
theorem OR {c:Campaign} {fl:List DeviceS} {im:List ar} (hx:me im) (dW:eG im) (hf:iP fl) {l Z:List MarkS} (hN:(Z.map MarkS.Device).Nodup) (hM:∀ m∈Z,∃ d∈fl,d.Key=m.Device∧Mk c im l d m) (hI:∀ d∈fl,H3 c im d (eP c l d)) (UI:∀ m∈Z,c.At≤m.At):
 (∀ d∈fl,H3 c im d (eP c (l++Z) d))∧(Z≠[]→Sl c fl im (l++Z)+1≤Sl c fl im l):=by
 have key:∀ d∈fl,H3 c im d (eP c (l++Z) d)∧Mb c im d (eP c (l++Z) d)≤Mb c im d (eP c l d):=by
  intro d hd
  rcases FV c l Z hN d with e | ⟨m,hm,e1,e2⟩
  ·rw [e];exact ⟨hI d hd,Int.le_refl _⟩
  ·obtain ⟨d',ub,k1,k2⟩:=hM m hm
   obtain rfl:=key_inj hf ub hd (by rw [k1,e1])
   obtain ⟨a,b⟩:=H4 hx dW (hI _ hd) k2
   rw [e2];exact ⟨a,by omega⟩
 refine ⟨fun d hd=>(key d hd).1,fun hz=>?_⟩
 refine KN (fun d=>Mb c im d (eP c (l++Z) d)) (fun d=>Mb c im d (eP c l d)) fl (fun d hd=>(key d hd).2) ?_
 cases Z with
 | nil=>exact absurd rfl hz
 | cons m r=>
   obtain ⟨d,hd,k1,k2⟩:=hM m (by simp)
   refine ⟨d,hd,?_⟩
   obtain ⟨a,b⟩:=H4 hx dW (hI d hd) k2
   have vJ:eP c (l++m :: r) d=tw (eP c l d) m:=by
    unfold eP
    rw [List.filter_append,List.foldl_append,List.filter_cons]
    rw [ai,b6] at hN
    have hr:r.filter (oQ c d.Key)=[]:=by
     rw [cf]
     intro y hy W0
     unfold oQ at W0
     simp only [aS,decide_eq_true_eq] at W0
     exact hN.1 (af.2 ⟨y,hy,by rw [W0.1,k1]⟩)
    rw [hr]
    split
    ·rfl
    ·rename_i hnr
     exfalso
     refine hnr ?_
     unfold oQ
     rw [decide_eq_true k1.symm,decide_eq_true (UI m (by simp))];rfl
   rw [vJ];exact b
def Xb (m:MarkS):Prop:=mw m.Device=true∧(1≤m.Kind∧m.Kind≤3)∧kq m.Version=true
structure Sm (c:Campaign) (fl:List DeviceS) (im:List ar) (l:List MarkS):Prop where
 H:BP c fl l
 ok:∀ m∈l,Xb m
 inv:∀ d∈fl,H3 c im d (eP c l d)
theorem Sm.sa {c:Campaign} {fl:List DeviceS} {im:List ar} {l:List MarkS} (h:Sm c fl im l) (hF:∀ w∈c.aG,0≤w.ct∧w.ct≤1000):SA c fl l=-1:=
 Rw hF l (by have:=h.H.l_;omega) (fun m hm=>by have:=(h.ok m hm).2.1;omega)
theorem Xc {c:Campaign} {fl:List DeviceS} {im:List ar} (hx:me im) (dW:eG im) {l:List MarkS} (h:Sm c fl im l) {m:MarkS} {d:DeviceS} (hd:d∈fl) (hk:d.Key=m.Device) (hm:Mk c im l d m):Xb m:=by
 have hI:=h.inv d hd
 have vr:∀ {w0:Version} {r:List Version},kY im d.Model (eP c l d).ah.Version c.Target=some (w0 :: r,true)→kq w0=true:=fun hq=>by
  obtain ⟨⟨y,hy,e⟩,_⟩:=De im hx dW d.Model c.Target _ _ _ hq
  rw [← e];exact (dW.1 y hy).uv
 refine ⟨by rw [← hk];exact h.H.f_.key d hd,?_,?_⟩
 ·rcases hm with ⟨_,e,_⟩ | ⟨_,e,_⟩ | ⟨_,_,e,_⟩<;>omega
 ·rcases hm with ⟨k,_,e⟩ | ⟨k,_,e⟩ | ⟨_,_,_,r,hq⟩
  ·obtain ⟨r,hq⟩:=hI.bs (by rw [vv];omega)
   rw [e];exact vr hq
  ·obtain ⟨r,hq⟩:=hI.bs (by rw [vv];omega)
   rw [e];exact vr hq
  ·exact vr hq
def Fin (c:Campaign) (fl:List DeviceS) (im:List ar) (m:List MarkS) (To:Int):Prop:=
 Sm c fl im m∧∃ bs nx T,DI c fl m T (SA c fl m) bs nx∧c.At≤T∧T < To∧(∀ x∈m,x.At≤T)∧HZ c fl im m bs.length
theorem Rx {c:Campaign} {fl:List DeviceS} {im:List ar} (hx:me im) (dW:eG im) {l:List MarkS} (h:∀ d∈fl,H3 c im d (eP c l d)):0≤Sl c fl im l:=by
 have:((fl.map (fun _=>(0:Int))).sum)≤Sl c fl im l:=BQ _ _ fl (fun d hd=>by
  have hI:=h d hd
  unfold Mb
  by_cases hb:tx (eP c l d)=true
  ·obtain ⟨r,hq⟩:=hI.bs hb
   obtain ⟨_,q1,_⟩:=De im hx dW d.Model c.Target _ _ _ hq
   rw [q1]
   split
   ·omega
   ·split<;>omega
  ·rw [vv] at hb
   rw [if_neg (fun e=>hb (.inl e)),if_neg (fun e=>hb (.inr e))]
   omega)
 have z:∀ L:List DeviceS,(L.map (fun _=>(0:Int))).sum=0:=by
  intro L
  induction L with
  | nil=>rfl
  | cons x r ih=>rw [ai,bp,ih];rfl
 have:=z fl
 omega
theorem JE {c:Campaign} {fl:List DeviceS} (hs:fl.Pairwise (fun a b=>Lib.compareBytes a.Key b.Key < 0)) (h4:fl.length≤4) (im:List ar) (hx:me im) (dW:eG im) (hh:c.bb=⟨0,0⟩) (hW:∀ w∈c.aG,w.oo=0) (hF:∀ w∈c.aG,0≤w.ct∧w.ct≤1000) (hA:0≤c.At∧c.At≤100) (w:lF) (hw:w.To=c.At+1500):
 ∀ (k:Nat) (j:Nat) (T:Int) (s:CS) (K:WM) (l:List MarkS),j+k=150→Sm c fl im l→(l.length:Int)≤4 * j→SX c fl s l→DI c fl l T (SA c fl l) s.aE s.bM→JB c fl l→(∀ x∈l,x.At≤T)→-1≤T→T < c.At+10 * j→(j=0∨(c.At≤T∧T < w.To))→xH im c.Target K→((0 < j∧HZ c fl im l s.aE.length)∨Sl c fl im l+j≤96)→
 ∃ m,nM c fl 10 [] w s.kM s.iA s.cj s.open_ s.ba s.aO s.aE s.aQ s.bM im c.Target.ax c.Target.aA c.Target.aC K l (c.At+10 * j)=some (m,0)∧Fin c fl im m w.To:=by
 intro k
 induction k with
 | zero=>
   intro j T s K l VK hp hl h hP hJ Xd hT hTt hj hK Dl
   refine ⟨l,?_,hp,_,_,T,hP,by omega,by omega,Xd,?_⟩
   ·unfold nM
    rw [iter_eq]
    simp only
    unfold jL
    rw [if_neg (by omega),aW]
   ·rcases Dl with e | e
    ·exact e.2
    ·have:=Rx hx dW hp.inv
     omega
 | succ k ih=>
   intro j T s K l VK hp hl h hP hJ Xd hT hTt hj hK Dl
   have H:=hp.H
   have hsa:=hp.sa hF
   generalize ht:c.At+10 * (j:Int)=t at hTt
   have Pd:0≤t∧t≤345686399999:=by omega
   have ew:∀ x∈l,x.At < t:=fun x hx=>by have:=Xd x hx;omega
   have hb:∀ n:Nat,(n:Int)≤1000→(fl.length * n:Int)≤100000:=fun n hn=>by
    have:fl.length * n≤4 * 1000:=cl h4 (by omega)
    have:((fl.length * n:Nat):Int)=(fl.length * n:Int):=by push_cast;rfl
    omega
   obtain ⟨r,r1,r2,r3,r4⟩:=Rq H ⟨hT,hTt⟩ Pd.2 Xd h (.inr hP)
   have r4:DI c fl l t (SA c fl l) r.aE r.bM:=by
    rcases r4 with e | e
    ·omega
    ·exact e
   obtain ⟨Z,K',z1,z2,z3,z4,z5,z6,z7,z8,z9⟩:=LY H hs (by omega) im hx dW r3 (by omega) hh hJ ew Pd K hK
   have W8:Z.length≤fl.length:=by
    have:=xx z3 (l:=fl.map DeviceS.Key) (fun k hk=>by
     obtain ⟨m,hm,e⟩:=af.1 hk
     obtain ⟨d,hd,e1,_⟩:=z7 m hm
     exact af.2 ⟨d,hd,by rw [e1,e]⟩)
    simpa using this
   have aa5:app l Z=some (l++Z):=mQ (by omega)
   have hal:((l++Z).length:Int)≤4 * (j+1:Nat):=by rw [aw];omega
   have H':BP c fl (l++Z):=Rv H Pd ew z4 z5 (by omega)
   have UI:∀ m∈Z,c.At≤m.At:=fun m hm=>by have:=(z4 m hm).at_;omega
   obtain ⟨i1,i2⟩:=OR hx dW H.f_ z3 z7 hp.inv UI
   have dE:Sm c fl im (l++Z):=⟨H',fun m hm=>by
    rcases al.1 hm with e | e
    ·exact hp.ok m e
    ·obtain ⟨d,hd,e1,e2⟩:=z7 m e
     exact Xc hx dW hp hd e1 e2,i1⟩
   have ajO:=dE.sa hF
   obtain ⟨s2,m1,m2,m3,m4⟩:=JD H.c_ H.f_ H.Ug (l:=l) (Z:=Z) (by omega) (by omega) 10 t ⟨im,c.Target,K'⟩ (l++Z) Z.length 0 r (by omega) (by rw [List.take_zero,a8];exact r3)
   have aa6:Std c fl l t s2:=by
    unfold Std
    rw [m3,m4];exact .inr r4
   obtain ⟨q,q1,q2,q3,q4⟩:=Ro H' z3 z4 ew Pd m2 aa6
   have q4:DI c fl (l++Z) t (SA c fl (l++Z)) q.aE q.bM:=by
    rcases q4 with e | e
    ·omega
    ·exact e
   have hle:=Jy H.f_ z3 z4 ew
   have aa7:(0 < j+1∧HZ c fl im (l++Z) q.aE.length)∨Sl c fl im (l++Z)+(j+1:Nat)≤96:=by
    by_cases hz:Z=[]
    ·left
     refine ⟨by omega,?_⟩
     have hq:=z8 hz
     subst hz
     rw [a8] at q4 ⊢
     have:=A6 H hW (hb _ (by omega)) (Int.le_refl t) Pd.2 (fun x hx=>by have:=ew x hx;omega) (by omega) (by omega) r4 q4
     rw [← this];exact hq
    ·right
     rcases Dl with ⟨e0,e⟩ | e
     ·have Nr:=A6 H hW (hb _ (by omega)) (T:=T) (t:=t) (by omega) Pd.2 Xd (by omega) (by omega) hP r4
      rw [Nr] at e
      exact absurd (z9 e) hz
     ·have:=i2 hz
      omega
   obtain ⟨R,R1,R2⟩:=ih (j+1) t q K' (l++Z) (by omega) dE hal q3 q4 (Rn H.f_ z3 z4 hJ) hle (by omega) (by omega) (.inr ⟨by omega,by omega⟩) z2 aa7
   refine ⟨R,?_,R2⟩
   have e1:(⟨c,s.kM,s.cj,s.open_,s.ba,s.aO,s.aE,s.aQ,s.bM,s.iA⟩:CS)=s:=F1 h.c_
   have e2:(⟨c,s.kM,s.cj,r.open_,r.ba,r.aO,r.aE,r.aQ,r.bM,s.iA⟩:CS)=r:=by
    obtain ⟨a1,a2,a3,a4⟩:=r2
    rw [← a2,← a3,← a4]
    exact F1 r3.c_
   have z1':gJ r ⟨im,⟨c.Target.ax,c.Target.aA,c.Target.aC⟩,K⟩ fl [] t=some (Z,⟨im,c.Target,K'⟩):=z1
   rw [← R1,show c.At+10 * ((j+1:Nat):Int)=bA (t+10) by rw [bc (by omega) (by omega)];omega]
   conv=>lhs;unfold nM
   rw [iter_eq]
   simp only
   unfold jL
   rw [if_pos (by omega),e1,r1]
   simp only [aa]
   rw [e2,z1']
   simp only [aa]
   rw [aa5]
   simp only [aa]
   rw [if_neg (by omega)]
   obtain ⟨a1,a2,a3,a4⟩:=r2
   rw [← a2,← a3,← a4]
   have Yd:=m1
   rw [show ((0:Nat):Int)=0 from rfl] at Yd
   rw [Yd]
   unfold nK
   rw [F1 m2.c_,q1]
   simp only [aa,bh]
   obtain ⟨b1,b2,b3,b4⟩:=q2
   rw [← b2,← b3,← b4]
   rfl
def vw:cP:=⟨[100],[109],1,1⟩
theorem OS:lM 1=some [1]:=by
 unfold lM sd
 rw [iter_eq,show jm [] 1=some (.inr [1]) from rfl];rfl
theorem OT:gn [1] 2=some [1,2]:=by
 unfold gn nY
 rw [iter_eq,show gK [1] 2=some (.inr [1,2]) from rfl];rfl
theorem OU:gn [1,2] 2=some [1,2,2]:=by
 unfold gn nY
 rw [iter_eq,show gK [1,2] 2=some (.inr [1,2,2]) from rfl];rfl
theorem Ux:rz [vw]=some [1,2,2]:=by
 unfold rz
 rw [show IntKind.u64.wrap (([vw].length:Nat):Int)=1 from rfl,OS]
 simp only [aa]
 unfold wB
 have b:lO [vw] [1] 0 0 0 0=some (.inl ([1,2,2],1,0,1,1)):=by
  unfold lO
  rw [if_pos (by decide),show idx [vw] 0=some vw from rfl]
  simp only [aa]
  rw [show lN (bA (bA (vw.At - 0) - 0))=2 from rfl,OT]
  simp only [aa]
  rw [show lN (bA (vw.Value - 0))=2 from rfl,OU]
  rfl
 rw [iter_eq,b]
 simp only [aa,bh]
 rw [iter_eq]
 rfl
theorem check_1:pD [vw]=some 0:=by
 have b:kI [vw] 0=some (.inl 1):=by
  unfold kI
  rw [if_pos (by decide),show idx [vw] 0=some vw from rfl]
  simp only [aa]
  rw [qG,show mw vw.Device=true by decide]
  simp only [aa]
  rw [if_neg (by simp),qG,show mw vw.pn=true by decide]
  rfl
 unfold pD vB
 rw [if_neg (by decide),iter_eq,b]
 simp only [aa,bh]
 rw [iter_eq]
 rfl
theorem OV:ke [vw]=some 0:=by
 unfold ke
 rw [check_1]
 simp only [aa]
 rw [if_neg (by decide)]
 have c:df [vw] (fun y0=>ir y0 [vw])=some false:=by
  unfold df fx kC
  rw [iter_eq,show de [vw] (fun y0=>ir y0 [vw]) 0=some (.inl 1) from rfl]
  simp only [aa,bh]
  rw [iter_eq]
  rfl
 rw [c]
 rfl
theorem Uy:oX [vw]=some ([1,2,2],0):=by
 unfold oX
 rw [OV]
 simp only [aa]
 rw [if_neg (by decide),Ux]
 rfl
theorem Xe:∃ v,dG [49,46,50,46,51]=some (v,0)∧v.aC=3:=by
 have h:=Fy
 unfold wT at h
 cases e:dG [49,46,50,46,51] with
 | none=>rw [e] at h;cases h
 | some v=>
   rw [e] at h
   simp only [aa] at h
   unfold th at h
   have h:=ac h
   rw [aS] at h
   have h1:=of_decide_eq_true h.1
   have h2:=of_decide_eq_true h.2
   exact ⟨v.1,by rw [← h1],by rw [h2]⟩
theorem Uz:sY ⟨0,0⟩ 1=some ([51],0):=by
 have b:ou ⟨0,0⟩ 1 [] 32768 0=some (.inl ([51],16384,1)):=rfl
 unfold sY
 rw [show ((!(su ⟨0,0⟩))||(du 1 0 15))=false by decide]
 unfold qO
 rw [if_neg (by simp)]
 unfold xO
 rw [iter_eq,b]
 simp only [aa,bh]
 rw [iter_eq]
 rfl
theorem Ry:gB [1,2,2] [1,2,2]=some true:=by
 unfold gB
 rw [if_neg (by decide)]
 unfold nV
 rw [iter_eq,show dj [1,2,2] [1,2,2] 0=some (.inl 1) from rfl]
 simp only [aa,bh]
 rw [iter_eq,show dj [1,2,2] [1,2,2] 1=some (.inl 2) from rfl]
 simp only [aa,bh]
 rw [iter_eq,show dj [1,2,2] [1,2,2] 2=some (.inl 3) from rfl]
 simp only [aa,bh]
 rw [iter_eq]
 rfl
theorem UA:sZ=some true:=by
 obtain ⟨v,v1,v2⟩:=Xe
 unfold sZ
 rw [show oX [(⟨([100]:bq),([109]:bq),(1:Int),(1:Int)⟩:cP)]=some ([1,2,2],0) from Uy,v1,Uz]
 simp only [aa]
 simp only [if_true]
 rw [Ry]
 simp only [aa]
 rw [v2]
 rfl
theorem KO:∀ {l:List MarkS} {p:Option MarkS},(∀ x∈l,xq x=0)→l.Pairwise (fun a b=>mO a b < 0)→(∀ q,p=some q→∀ x∈l,mO q x < 0)→tM rK p l=0
 | [],p,_,_,_=>by cases p<;>rfl
 | d :: r,p,h1,h2,h3=>by
   rw [b8] at h2
   have h0:rK p d=0:=by
    unfold rK
    rw [if_neg (by simpa using h1 d (by simp))]
    cases p with
    | none=>rfl
    | some q=>
      have:=h3 q rfl d (by simp)
      have n:=Fz.neg d q
      simp only
      rw [if_neg (by omega)]
   simp only [tM]
   rw [if_pos h0]
   exact KO (fun x hx=>h1 x (ap _ hx)) h2.2 (fun q hq x hx=>by obtain rfl:=ac hq;exact h2.1 x hx)
theorem OW {c:Campaign} {fl:List DeviceS} {im:List ar} {m:List MarkS} (h:Sm c fl im m):Ah m=0:=by
 have hl:=h.H.l_
 unfold Ah
 rw [if_neg (by omega)]
 refine KO (fun x hx=>?_) h.H.s_ (by simp)
 obtain ⟨o1,o2,o3⟩:=h.ok x hx
 have hm:=(h.H.m_ x hx).Ig
 unfold xq zt
 rw [decide_eq_true hm.1,decide_eq_true hm.2,o1,if_neg (by simp),if_neg (by simp),if_neg (by omega),o3,if_neg (by simp)]
theorem Sn {fl:List DeviceS} {m:List MarkS} {t:Int} (h1:zu fl=0) (h2:Ah m=0) (h3:0≤t∧t≤345686399999):zy 0 fl m t=0:=by
 unfold zy N1 zt
 rw [h1,h2,decide_eq_true h3.1,decide_eq_true h3.2]
 rfl
theorem Xf {fl:List DeviceS} (h:∀ d∈fl,JC d) {d:DeviceS} (hd:d∈fl):zu [d]=0:=
 FX (by simp) (fun x hx=>by rw [ag] at hx;rw [hx];exact h d hd) (by simp)
theorem Rz {im:List ar} (hx:me im) (dW:eG im) (h0:cK im=some 0) {m:bq} (hm:mw m=true) {v to:Version} (hv:kq v=true) (ht:kq to=true):∃ r,pC im m v to=some r∧(r.2=0↔okW im m to v):=by
 have hf:jl im m [v,to]=some 0:=by
  unfold jl
  rw [h0]
  simp only [aa]
  rw [if_neg (by simp),qG,hm]
  simp only [aa]
  rw [if_neg (by simp)]
  unfold pB
  have f1:dF v=0:=by unfold dF;rw [gp,hv,if_neg (by simp)]
  have f2:dF to=0:=by unfold dF;rw [gp,ht,if_neg (by simp)]
  rw [iter_eq,eh,if_pos (by simp),show idx [v,to] 0=some v from rfl]
  simp only [aa]
  rw [f1,if_neg (by simp),show bA (0+1)=1 from rfl]
  simp only [aa,bh]
  rw [iter_eq,eh,if_pos (by simp),show idx [v,to] 1=some to from rfl]
  simp only [aa]
  rw [f2,if_neg (by simp),show bA (1+1)=2 from rfl]
  simp only [aa,bh]
  rw [iter_eq,eh,if_neg (by simp),aW]
 obtain ⟨M,e,hM,C⟩:=Da im m to hx dW
 unfold pC
 rw [hf]
 simp only [aa]
 rw [if_neg (by simp),e]
 simp only [aa]
 obtain ⟨W,ok,hW⟩:=Dc im hx dW m v to
 rw [hW.prog M hM C]
 simp only [aa]
 cases ok with
 | true=>exact ⟨(W,0),by rw [if_neg (by simp)],⟨fun _=>⟨W,hW.ref⟩,fun _=>rfl⟩⟩
 | false=>
   refine ⟨([],8),by rw [if_pos (by simp)],⟨fun e=>(by cases e),fun ⟨W',hq⟩=>?_⟩⟩
   rw [hW.ref] at hq
   cases hq
theorem OX {c:Campaign} (hc:ga c) (h0:bH c=some 0) {k:bq} (hk:mw k=true):mJ c k=some ((mE c k:Int),0):=by
 unfold mJ
 rw [h0]
 simp only [aa]
 rw [if_neg (by simp),qG,hk]
 simp only [aa]
 rw [if_neg (by simp),(xu c hc k hk).1]
 rfl
theorem OY {c:Campaign} (hc:ga c) (h0:bH c=some 0) {im:List ar} (hx:me im) (dW:eG im) (Ma:cK im=some 0) {fl:List DeviceS} (h4:fl.length≤4) (hg:∀ d∈fl,JC d) (hs:fl.Pairwise (fun a b=>Lib.compareBytes a.Key b.Key < 0)) (hh:c.bb=⟨0,0⟩) (hW:∀ w∈c.aG,w.oo=0) (hF:∀ w∈c.aG,0≤w.ct∧w.ct≤1000) (hA:0≤c.At∧c.At≤100):
 ∃ m,mI c im fl 10 [] ⟨c.At,c.At+1500⟩=some (m,0)∧Fin c fl im m (c.At+1500):=by
 have Ye:=FX h4 hg hs
 obtain ⟨hf,DO⟩:=N0 Ye
 obtain ⟨v,v1,v2,v3,v4⟩:=AZ c fl hc hf (by omega)
 have hinv:∀ d∈fl,H3 c im d (eP c [] d):=fun d hd=>by
  have e:eP c [] d=x0 d:=rfl
  have hfw:=(hg d hd).fw
  rw [e]
  exact ⟨by unfold x0;simp,rfl,fun hb=>(by cases hb),fun h=>h,fun h=>absurd rfl h,xe (a:=d.bB.ax) (b:=d.bB.aA) (c:=d.bB.aC) (by omega)⟩
 have aa8:Sm c fl im []:=⟨⟨hc,hf,DO,by simp,.nil,by simp⟩,by simp,hinv⟩
 have hP:DI c fl [] (-1) (SA c fl []) v.aE v.bM:=by
  refine ⟨?_,?_,fun nx hn=>?_⟩
  ·rw [v3];exact .nil
  ·rw [v3,v4];unfold cM;rw [if_pos bm];rfl
  ·rw [v3] at hn
   unfold cM at hn
   rw [if_pos bm] at hn
   have:=ac hn
   left;omega
 have hJ:JB c fl []:=fun d hd hb=>by
  have:eP c [] d=x0 d:=rfl
  rw [this] at hb
  cases hb
 have ajP:Sl c fl im []≤96:=by
  have h1:Sl c fl im []≤(fl.map (fun _=>(24:Int))).sum:=BQ _ _ fl (fun d hd=>by
   have:=Uu im hx dW d.Model c.Target (eP c [] d).ah.Version
   unfold Mb
   split
   ·omega
   ·split<;>omega)
  have h2:∀ L:List DeviceS,(L.map (fun _=>(24:Int))).sum=24 * (L.length:Int):=by
   intro L
   induction L with
   | nil=>rfl
   | cons x r ih=>rw [ai,bp,ih,List.length_cons];omega
  have:=h2 fl
  omega
 obtain ⟨m,m1,m2⟩:=JE hs h4 im hx dW hh hW hF hA ⟨c.At,c.At+1500⟩ rfl 150 0 (-1) v [] [] rfl aa8 (by simp) v2 hP hJ (by simp) (by omega) (by omega) (.inl rfl) (.nil im c.Target) (.inr (by omega))
 refine ⟨m,?_,m2⟩
 unfold mI
 rw [h0,Ma,xV,Ye]
 simp only [aa]
 rw [NN _ (by simp)]
 simp only [aa]
 rw [if_neg (by decide),if_neg (by decide),if_neg (by simp)]
 have aa9:ry ⟨c.At,c.At+1500⟩=true:=by
  unfold ry pq
  rw [rZ]
  simp
  omega
 have hq:quo (bA (bA (bA (c.At+1500 - c.At)+10) - 1)) 10=some 150:=by
  rw [show c.At+1500 - c.At=1500 by omega];rfl
 rw [aa9,if_neg (by simp),hq]
 simp only [aa]
 rw [decide_eq_false (by omega)]
 unfold lJ
 rw [if_neg (by simp),v1]
 simp only [aa]
 rw [show c.At+10 * ((0:Nat):Int)=c.At by simp] at m1
 exact m1
theorem UB {c0:Campaign} (hG:Us c0) {im:List ar} (rP:im.length≤8) (hig:∀ x∈im,An x) (hip:im.Pairwise (fun a b=>dL a.Version b.Version < 0)) {fl:List DeviceS} (h4:fl.length≤4) (hg:∀ d∈fl,JC d) (hs:fl.Pairwise (fun a b=>Lib.compareBytes a.Key b.Key < 0)) (s1 s2 s3:BN):
 Ok (jB (c0,s1) (im,s2) (fl,s3) (o9 c0).aG) (fun r=>r=true):=by
 have h0:=Ut hG
 have hc:ga (o9 c0):=by
  obtain ⟨r,r1,r2⟩:=DH (o9 c0)
  rw [h0] at r1
  exact r2 (ac r1).symm
 have Ma:=OM rP hig hip
 have hx:me im:=⟨by omega,fun x hx=>by
  have h:=hig x hx
  refine ⟨?_,?_⟩
  ·rcases h.U6 with e | e | e<;>rw [e]<;>simp
  ·rcases h.WT with ⟨_,_,_,_,e⟩ | ⟨_,_,_,e⟩<;>rw [e]<;>simp⟩
 have dW:eG im:=by
  obtain ⟨i,i1,i2⟩:=LP im hx
  rw [Ma] at i1
  exact i2 (ac i1).symm
 have hW:∀ w∈(o9 c0).aG,w.oo=0:=fun w hw=>by
  obtain ⟨v,_,rfl⟩:=af.1 hw;rfl
 have hF:∀ w∈(o9 c0).aG,0≤w.ct∧w.ct≤1000:=fun w hw=>by
  obtain ⟨v,hv,rfl⟩:=af.1 hw
  have:=hG.wav v hv
  unfold Jz at this
  simp only;omega
 have hA:0≤(o9 c0).At∧(o9 c0).At≤100:=hG.Ig
 obtain ⟨m,m1,Sk,bs,nx,T,hP,hAT,hTo,hmT,Dl⟩:=OY hc h0 hx dW Ma h4 hg hs rfl hW hF hA
 have UI:(o9 c0).At=c0.At:=rfl
 have w1:bA (c0.At+1500)=c0.At+1500:=bc (by omega) (by omega)
 have H:=Sk.H
 have hll:=H.l_
 have hsa:=Sk.sa hF
 have Ye:=FX h4 hg hs
 have P8:=OW Sk
 have hb:(fl.length * m.length:Int)≤100000:=by
  have:fl.length * m.length≤4 * 3000:=cl h4 (by omega)
  have:((fl.length * m.length:Nat):Int)=(fl.length * m.length:Int):=by push_cast;rfl
  omega
 have QW:0≤c0.At+1500∧c0.At+1500≤345686399999:=by omega
 have hmA:∀ x∈m,x.At≤c0.At+1500:=fun x hx=>by have:=hmT x hx;omega
 obtain ⟨_,d2⟩:=Oc h0 (fun _=>hc) fl m (c0.At+1500) hb
 obtain ⟨uc,S,b1,b2,b3,b4,b5⟩:=d2 (Sn Ye P8 QW)
 have hSQ:nv (o9 c0) fl m (c0.At+1500)=some (SA (o9 c0) fl m):=by
  have:=vp H (c0.At+1500) m.length (by rw [bo];exact hmA) (by rw [ci];intro x hx;cases hx) hb
  rw [bo] at this
  exact this
 have hS:S=-1:=by
  rw [b4] at hSQ
  rw [ac hSQ,hsa]
 have hbs:uc=bs:=by
  have L7:m.Pairwise (fun a b=>a.At≤b.At):=H.s_.imp CZ
  have e1:=tV H QW.2 hSQ (C1 L7 (by omega) (by unfold C0;omega) hP.r) (fun nx hn=>by
   rw [EK (by omega) hmT,OQ H.c_ hW hP (by omega) hAT] at hn;cases hn)
  rw [b3] at e1
  exact ac e1
 unfold jB
 simp only
 rw [w1]
 have Yd:mI ⟨c0.Key,c0.Target,c0.At,(o9 c0).aG,⟨0,0⟩,c0.Room⟩ im fl 10 [] ⟨c0.At,c0.At+1500⟩=some (m,0):=m1
 have b1':jg ⟨c0.Key,c0.Target,c0.At,(o9 c0).aG,⟨0,0⟩,c0.Room⟩ fl m (c0.At+1500)=some (uc,0):=b1
 have b2':iv ⟨c0.Key,c0.Target,c0.At,(o9 c0).aG,⟨0,0⟩,c0.Room⟩ fl m (c0.At+1500)=some (S,0):=b2
 rw [Yd]
 simp only [aa]
 rw [if_neg (by simp),b2']
 simp only [aa]
 rw [b1']
 simp only [aa]
 rw [hS]
 unfold jA
 rw [if_neg (by simp)]
 unfold pH
 refine Ok.range fl.length (fun i i0 i1=>?_)
 unfold gC
 simp only
 by_cases hi:i < fl.length
 ·rw [if_pos hi]
  refine Ok.idx i0 hi (fun d hd hm=>?_)
  have Sb:=hg d hm
  have gS:mw d.Model=true:=by rcases Sb.U6 with e | e<;>rw [e]<;>decide
  have hfv:kq d.bB=true:=by
   have:=Sb.fw
   exact xe (a:=d.bB.ax) (b:=d.bB.aA) (c:=d.bB.aC) (by omega)
  obtain ⟨wr,wr1,wr2⟩:=Rz hx dW Ma gS hfv hG.Z3
  have e1:mJ ⟨c0.Key,c0.Target,c0.At,(o9 c0).aG,⟨0,0⟩,c0.Room⟩ d.Key=some ((mE (o9 c0) d.Key:Int),0):=OX hc h0 Sb.key
  have e2:kH ⟨c0.Key,c0.Target,c0.At,(o9 c0).aG,⟨0,0⟩,c0.Room⟩ d m (c0.At+1500)=some ((eP (o9 c0) m d).ah,0):=by
   have:=LD h0 d m (by omega) (c0.At+1500)
   rw [if_neg (by rw [Sn (Xf hg hm) P8 QW];simp),Jx hmA] at this
   exact this
  rw [e1,wr1]
  simp only [aa]
  rw [w1,e2]
  simp only [aa]
  unfold jz
  rw [if_neg (by simp)]
  have hI:=Sk.inv d hm
  unfold jy
  have goal:∀ b:Bool,b=false→Ok (if b=true then Option.map .inr (some false) else some (.inl (bA (i+1)))) (XY fl.length (fun r:Bool=>r=true) i):=by
   intro b hb
   rw [if_neg (by simp [hb]),bc (by omega) (by omega)]
   exact Ok.ret ⟨rfl,hi⟩
  refine goal _ ?_
  simp only
  by_cases hw:wr.2=0
  ·have aaA:=wr2.1 hw
   rw [if_pos hw]
   by_cases ew:((mE (o9 c0) d.Key:Nat):Int) < (uc.length:Int)
   ·rw [if_pos ew]
    have UC:(eP (o9 c0) m d).ah.Version=c0.Target:=by
     refine cn (fun Aq=>?_)
     have WY:uu (o9 c0) (eP (o9 c0) m d)=false:=by
      unfold uu
      have a1:¬ (eP (o9 c0) m d).ah.Version=(o9 c0).Target:=Aq
      have a2:=hI.fl
      have a3:=hI.kd
      rw [decide_eq_false a1,decide_eq_false (show ¬ (3:Int)≤(eP (o9 c0) m d).ah.ct by omega),decide_eq_false (show ¬ (eP (o9 c0) m d).ah.Kind=5 by omega)]
      rfl
     have:=Dl.2 d hm (by rw [← hbs];omega) WY
     obtain ⟨W,hWq⟩:=hI.ok aaA
     rw [hWq] at this
     cases this
    simp [UC,hw]
   ·rw [if_neg ew]
    simp [hw]
  ·rw [if_neg hw]
   have UC:(eP (o9 c0) m d).ah.Version=d.bB:=by
    refine cn (fun Aq=>?_)
    exact hw (wr2.2 (hI.mv Aq))
   simp [UC]
 ·rw [if_neg hi]
  refine Ok.inr ?_
  unfold mr
  rw [UA]
  exact Ok.ret rfl
theorem uY (L:List Int):jn L=some true:=by
 have key:Ok (jn L) (fun r=>r=true):=by
  unfold jn
  refine Ok.gen (Bs (s:=⟨L,0⟩) (K:=1000) ⟨by simp,by simp⟩ (by omega)) (fun c s1 hc q1=>?_)
  refine Ok.gen (DL q1 (by omega)) (fun im s2 Dg q2=>?_)
  refine Ok.gen (FW q2 (by omega)) (fun fl s3 hf q3=>?_)
  dsimp only
  unfold pI
  refine Ok.iter (fun x:List iz×Int=>(c.aG.length - x.2).toNat) (fun x:List iz×Int=>0≤x.2∧x.2≤c.aG.length∧x.1=(c.aG.take x.2.toNat).map (fun w=>⟨w.Part,0,w.pk,w.ct⟩)++c.aG.drop x.2.toNat) ?_ _ ⟨by simp,by simp,by simp⟩
  rintro ⟨jM,n⟩ ⟨g0,g1,g2⟩
  simp only at g0 g1 g2 ⊢
  have yF:=hc.len
  unfold gD
  simp only
  by_cases hn:n < c.aG.length
  ·rw [if_pos hn]
   obtain ⟨w,Ya,hm,_⟩:=fe c.aG g0 hn
   obtain ⟨F3,IQ⟩:=bk.1 (eR Ya).2.2
   have PQ:((c.aG.take n.toNat).map (fun w:iz=>(⟨w.Part,0,w.pk,w.ct⟩:iz))).length=n.toNat:=by rw [a6,cc];omega
   have Sa:c.aG.drop n.toNat=w :: c.aG.drop (n.toNat+1):=by rw [List.drop_eq_getElem_cons F3,IQ]
   have GM:idx jM ((n.toNat:Nat):Int)=some w:=by
    refine mX ?_
    rw [g2,Sa,List.getElem?_append_right (by omega),PQ]
    simp
   rw [show ((n.toNat:Nat):Int)=n by omega] at GM
   rw [GM]
   simp only [aa]
   refine Ok.ret ?_
   rw [bc (by omega) (by omega)]
   refine ⟨⟨by simp only;omega,by simp only;omega,?_⟩,by simp only;omega⟩
   simp only
   rw [g2,Sa,show (n+1).toNat=n.toNat+1 by omega,List.take_succ_eq_append_getElem F3,IQ,be,List.set_append_right _ _ (by omega),PQ]
   simp
  ·rw [if_neg hn]
   have e:jM=(o9 c).aG:=by
    rw [g2,bi (by omega),bW (by omega),a8];rfl
   rw [e]
   exact Ok.inr (UB hc Dg.1 Dg.2.1 Dg.2.2 hf.1 hf.2.1 hf.2.2 s1 s2 s3)
 obtain ⟨r,h1,rfl⟩:=key
 exact h1
end Go.Beacon
