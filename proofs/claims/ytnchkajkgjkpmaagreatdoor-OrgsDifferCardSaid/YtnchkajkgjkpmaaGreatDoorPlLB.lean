/- Plain facts on what the functions compute. No program in sight. -/
import Derived.Test.YtnchkajkgjkpmaaGreatDoorPlLA
set_option linter.unusedVariables false
set_option linter.unusedSimpArgs false
set_option linter.unusedSectionVars false
namespace Go.Beacon
open Go Go.Eng
def vc (p:aQ→Bool):List aQ→Int→List Int
 | [],_=>[]
 | m :: r,i=>if p m=true then i :: vc p r (i+1) else vc p r (i+1)
theorem Oz (p:aQ→Bool):∀ (a b:List aQ) (i:Int),vc p (a++b) i=vc p a i++vc p b (i+a.length)
 | [],b,i=>by simp [vc]
 | m :: r,b,i=>by
   have e:i+((m :: r).length:Int)=i+1+r.length:=by rw [List.length_cons];omega
   rw [e]
   show (if p m=true then i :: vc p (r++b) (i+1) else vc p (r++b) (i+1))=(if p m=true then i :: vc p r (i+1) else vc p r (i+1))++_
   rw [Oz p r b (i+1)]
   split<;>simp
theorem JC (p:aQ→Bool):∀ (L:List aQ) (i j:Int),j∈vc p L i↔∃ k:Nat,j=i+k∧∃ m,L[k]? =some m∧p m=true
 | [],i,j=>by simp [vc]
 | m :: r,i,j=>by
   have ih:=JC p r (i+1) j
   have hs:(∃ k:Nat,j=i+k∧∃ m',(m :: r)[k]? =some m'∧p m'=true)↔(j=i∧p m=true)∨∃ k:Nat,j=i+1+k∧∃ m',r[k]? =some m'∧p m'=true:=by
    constructor
    ·rintro ⟨k,h1,m',h2,h3⟩
     cases k with
     | zero=>simp at h2;subst h2;exact .inl ⟨by omega,h3⟩
     | succ k=>exact .inr ⟨k,by omega,m',by simpa using h2,h3⟩
    ·rintro (⟨h1,h2⟩ | ⟨k,h1,m',h2,h3⟩)
     ·exact ⟨0,by omega,m,rfl,h2⟩
     ·exact ⟨k+1,by omega,m',by simpa using h2,h3⟩
   rw [hs]
   show j∈(if p m=true then i :: vc p r (i+1) else vc p r (i+1))↔_
   by_cases c:p m=true
   ·rw [if_pos c,List.mem_cons,ih];simp [c]
   ·rw [if_neg c,ih];simp [c]
theorem vW (p:aQ→Bool) (L:List aQ) (j:Int):j∈vc p L 0↔∃ m,idx L j=some m∧p m=true:=by
 rw [JC]
 constructor
 ·rintro ⟨k,h1,m,h2,h3⟩
  refine ⟨m,?_,h3⟩
  unfold idx
  rw [if_pos (by omega),show j.toNat=k by omega];exact h2
 ·rintro ⟨m,h1,h2⟩
  obtain ⟨h0,_,h3⟩:=oK h1
  exact ⟨j.toNat,by omega,m,h3,h2⟩
theorem X8 (p:aQ→Bool) (L:List aQ) (i j:Int) (h:j∈vc p L i):i≤j:=by
 obtain ⟨k,h1,_⟩:=(JC p L i j).1 h
 omega
theorem JD (p:aQ→Bool):∀ (L:List aQ) (i:Int),(vc p L i).Nodup
 | [],_=>List.nodup_nil
 | m :: r,i=>by
   show (if p m=true then i :: vc p r (i+1) else vc p r (i+1)).Nodup
   split
   ·rw [List.nodup_cons]
    exact ⟨fun h=>by have:=X8 p r (i+1) i h;omega,JD p r (i+1)⟩
   ·exact JD p r (i+1)
theorem yj (p:aQ→Bool):∀ (L:List aQ) (i:Int),(vc p L i).length≤L.length
 | [],_=>Nat.le_refl _
 | m :: r,i=>by
   have:=yj p r (i+1)
   show (if p m=true then i :: vc p r (i+1) else vc p r (i+1)).length≤_
   split<;>simp<;>omega
theorem Gs (p f:aQ→Bool):∀ (L:List aQ) (i:Int) (g:Int→Bool),(∀ (k:Nat) m,L[k]? =some m→g (i+k)=f m)→(vc p L i).filter g=vc (fun m=>p m&&f m) L i
 | [],_,_,_=>rfl
 | m :: r,i,g,h=>by
   have ih:=Gs p f r (i+1) g (fun k m' hk=>by
    have:=h (k+1) m' (by simpa using hk)
    rw [← this];congr 1;push_cast;omega)
   have h0:g i=f m:=by have:=h 0 m rfl;simpa using this
   show (if p m=true then i :: vc p r (i+1) else vc p r (i+1)).filter g=(if (p m&&f m)=true then i :: vc (fun m=>p m&&f m) r (i+1) else vc (fun m=>p m&&f m) r (i+1))
   cases hp:p m with
   | false=>simpa using ih
   | true=>
     rw [if_pos rfl,List.filter_cons,h0,ih]
     cases f m<;>simp
def Vx (f:aQ→Bool) (L:List aQ) (i:Int):Bool:=((idx L i).map f).getD false
theorem Gt (p f:aQ→Bool) (L:List aQ):(vc p L 0).filter (Vx f L)=vc (fun m=>p m&&f m) L 0:=
 Gs p f L 0 (Vx f L) (fun k m hk=>by
  unfold Vx idx
  rw [if_pos (by omega),show (0+(k:Int)).toNat=k by omega,hk];rfl)
theorem Gu {α β:Type} (g:α→List β):∀ (xs:List α) (acc:List β),xs.foldl (fun a x=>a++g x) acc=acc++xs.flatMap g
 | [],acc=>by simp
 | x :: r,acc=>by rw [List.foldl_cons,Gu g r];simp
def AtR (v:aq) (o:aW):Prop:=∀ t,(cX v.at_ t).getD []=vc (fun m=>decide (m.au=t)) o.aG 0
theorem LR (p:aQ→Bool) (L:List aQ) (x:aQ) (i:Int) (h:i=L.length):vc p (L++[x]) 0=vc p L 0++(if p x=true then [i] else []):=by
 rw [Oz,show (0:Int)+L.length=i by omega]
 show _++(if p x=true then i :: [] else [])=_
 rfl
theorem Nn (o:aW) (h1:o.ao.length≤100000) (h2:o.bd.length≤100000) (h3:o.aG.length≤100000):Ok (iS o) (fun v=>AtR v o∧v.cr=[]):=by
 unfold iS
 have e1:∀ m,k6 o m 0=eI o (foldM (·.Key) (·.fe) m o.ao) [] 0:=by
  intro m
  unfold k6
  exact de o.ao (fun (s:List (ai×ai)) (i:Int)=>(s,i)) (fun x=>cF o x.1 x.2) (fun s t=>jl s t.Key t.fe) (fun _ _=>True) (fun s=>eI o s [] 0)
   (fun s i x g0 g1 hi _=>⟨by
    show cF o s i=_
    unfold cF
    rw [if_pos g1,hi,bb (by omega) (by omega)];rfl,trivial⟩)
   (fun s _=>by
    show cF o s o.ao.length=_
    unfold cF
    rw [if_neg (by omega)]) m trivial
 have e2:∀ p m,eI o p m 0=fG o p (foldM (·.Key) (·.lI) m o.bd) [] 0:=by
  intro p m
  unfold eI
  exact de o.bd (fun (s:List (ai×List ai)) (i:Int)=>(s,i)) (fun x=>cE o p x.1 x.2) (fun s t=>jl s t.Key t.lI) (fun _ _=>True) (fun s=>fG o p s [] 0)
   (fun s i x g0 g1 hi _=>⟨by
    show cE o p s i=_
    unfold cE
    rw [if_pos g1,hi,bb (by omega) (by omega)];rfl,trivial⟩)
   (fun s _=>by
    show cE o p s o.bd.length=_
    unfold cE
    rw [if_neg (by omega)]) m trivial
 rw [e1,e2]
 generalize foldM (·.Key) (·.fe) [] o.ao=p
 generalize foldM (·.Key) (·.lI) [] o.bd=m
 unfold fG
 refine Ok.Bo o.aG.length (fun (s:List (ai×List Int)) (i:Int)=>(s,i)) (fun i s=>∀ t,(cX s t).getD []=vc (fun m=>decide (m.au=t)) (o.aG.take i.toNat) 0) (fun s i g0 g1 hv=>?_) [] (fun t=>rfl)
 show Ok (fE o p m s i) _
 unfold fE
 split
 ·rename_i hi
  refine Ok.idx g0 hi (fun x hx _=>?_)
  unfold vu
  simp only [Option.bind_some]
  have hb:=yj (fun m=>decide (m.au=x.au)) (o.aG.take i.toNat) 0
  rw [← hv x.au,List.length_take] at hb
  refine Ok.app (by simp;omega) ?_
  rw [bb (by omega) (by omega)]
  refine Ok.ret (.inl ⟨_,rfl,hi,fun t=>?_⟩)
  rw [take_succ g0 hx,LR _ _ x i (by rw [List.length_take];omega),← hv t,vj]
  by_cases c:x.au=t
  ·rw [if_pos c,c,if_pos (by simp)];rfl
  ·rw [if_neg c,if_neg (by simpa using c),List.append_nil]
 ·rename_i hi
  have:i=o.aG.length:=by omega
  refine Ok.inr (Ok.ret (.inr ⟨_,rfl,fun t=>?_,rfl⟩))
  have:=hv t
  rw [show i.toNat=o.aG.length by omega,List.take_length] at this
  exact this
theorem LS {o:aW} {v:aq} (h:dp o=some (some v,0)):iS o=some v:=by
 unfold dp at h
 obtain ⟨v2,h2,h⟩:=WR h
 obtain ⟨v9,h9,h⟩:=WR h
 split at h
 ·cases h
 obtain ⟨v10,h10,h⟩:=WR h
 split at h
 ·cases h
 obtain ⟨v11,h11,h⟩:=WR h
 split at h
 ·cases h
 obtain ⟨v12,h12,h⟩:=WR h
 split at h
 ·cases h
 rw [h2,← (Prod.mk.inj (Option.some.inj h)).1]
theorem Gv {o:aW} (hb:mY o) {v:aq} (h:dp o=some (some v,0)):AtR v o∧v.cr=[]:=by
 have h1:=hb.TG
 have h2:=hb.rol
 have h3:=hb.mem
 obtain ⟨u,hu,hq⟩:=Nn o (by omega) (by omega) (by omega)
 rw [LS h] at hu
 obtain rfl:=Option.some.inj hu
 exact hq
def VF (v:aq) (f:List (aN×List Int)):aq:=⟨v.aW,v.aT,v.bU,v.at_,f,v.dw⟩
def Aw (o:aW) (act:ai) (m:aQ):Bool:=vT (CC o m.bH) act
def GJ (o:aW) (act t:ai):List Int:=(wk o t).flatMap fun u=>vc (fun m=>decide (m.au=u)&&Aw o act m) o.aG 0
def FM (o:aW) (f:List (aN×List Int)):Prop:=∀ (a t:ai) (l:List Int),cX f ⟨a,t⟩=some l→l=GJ o a t
theorem OA (L:List aQ) (c:aQ→Bool):∀ us:List ai,us.Nodup→(us.flatMap fun u=>vc (fun m=>decide (m.au=u)&&c m) L 0).Nodup
 | [],_=>List.nodup_nil
 | u :: us,h=>by
   rw [List.nodup_cons] at h
   rw [List.flatMap_cons,List.nodup_append]
   refine ⟨JD _ _ _,OA L c us h.2,fun a ha b hb Ff=>?_⟩
   subst Ff
   obtain ⟨m,h1,h2⟩:=(vW _ _ _).1 ha
   obtain ⟨u',hu',EU⟩:=List.mem_flatMap.1 hb
   obtain ⟨m',h3,h4⟩:=(vW _ _ _).1 EU
   rw [h1] at h3
   obtain rfl:=Option.some.inj h3
   simp only [Bool.and_eq_true,decide_eq_true_eq] at h2 h4
   rw [← h2.1,h4.1] at h
   exact h.1 hu'
theorem LU (o:aW) (hn:∀ q,(wk o q).Nodup) (act t:ai):(GJ o act t).Perm (vc (fun m=>decide (m.au∈wk o t)&&Aw o act m) o.aG 0):=by
 refine (List.perm_ext_iff_of_nodup (OA _ _ _ (hn t)) (JD _ _ _)).2 fun j=>?_
 rw [List.mem_flatMap,vW]
 constructor
 ·rintro ⟨u,hu,hj⟩
  obtain ⟨m,h1,h2⟩:=(vW _ _ _).1 hj
  simp only [Bool.and_eq_true,decide_eq_true_eq] at h2
  exact ⟨m,h1,by simp [h2.1,h2.2,hu]⟩
 ·rintro ⟨m,h1,h2⟩
  simp only [Bool.and_eq_true,decide_eq_true_eq] at h2
  exact ⟨m.au,h2.1,(vW _ _ _).2 ⟨m,h1,by simp [h2.2]⟩⟩
theorem EL (o:aW) (hn:∀ q,(wk o q).Nodup) (act t:ai):(GJ o act t).length≤o.aG.length:=by
 rw [(LU o hn act t).length_eq];exact yj _ _ _
theorem OB {o:aW} {act t:ai} {j:Int} (h:j∈GJ o act t):∃ m,idx o.aG j=some m:=by
 obtain ⟨u,_,hj⟩:=List.mem_flatMap.1 h
 obtain ⟨m,h1,_⟩:=(vW _ _ _).1 hj
 exact ⟨m,h1⟩
section
variable {o:aW} (hb:mY o) (hr:Bw o) {v:aq} (hv:AW v o) (ha:AtR v o)
include hb hr hv ha
theorem ab5 (f:List (aN×List Int)):wH (VF v f) o:=⟨hv.view.Oo,hv.view.par,hv.view.len⟩
theorem Vy (f:List (aN×List Int)) (act:ai) (qx:act.length≤1000000) (u:ai) (n:Int) (hn:0≤n∧n≤100000) (s:List Int) (hs:s.length≤1000000):
 mP (VF v f) act n (vc (fun m=>decide (m.au=u)) o.aG 0) s 0=some (.inl (s++vc (fun m=>decide (m.au=u)&&Aw o act m) o.aG 0,n+1)):=by
 have hm:=hb.mem
 have hl:=yj (fun m=>decide (m.au=u)) o.aG 0
 unfold mP
 rw [de (vc (fun m=>decide (m.au=u)) o.aG 0) (fun (s:List Int) (i:Int)=>(s,i)) (fun x=>cY (VF v f) act n (vc (fun m=>decide (m.au=u)) o.aG 0) x.1 x.2) (fun s j=>if Vx (Aw o act) o.aG j=true then s++[j] else s) (fun i s=>(s.length:Int)≤1000000+i) (fun s=>some (.inl (s,n+1))) ?_ ?_ s (by omega),foldl_filter,Gt]
 ·intro s i j g0 g1 hi hI
  show cY (VF v f) act n _ s i=_∧_
  unfold cY gH
  obtain ⟨m,TL,_⟩:=(vW _ _ _).1 (gw hi)
  rw [if_pos g1,hi]
  simp only [Option.bind_some]
  rw [show (VF v f).aW=o from hv.view.Oo,TL]
  unfold vu
  simp only [Option.bind_some]
  rw [show (cX (VF v f).bU m.bH).getD []=CC o m.bH from SZ hb hr hv _,Br _ _ (LM hb hr _) qx]
  simp only [Option.bind_some]
  have hc:Vx (Aw o act) o.aG j=vT (CC o m.bH) act:=by unfold Vx;rw [TL];rfl
  rw [hc,bb (by omega) (by omega)]
  cases vT (CC o m.bH) act with
  | true=>
    rw [if_pos rfl,if_pos rfl,mD (by simp;omega)]
    exact ⟨rfl,by simp;omega⟩
  | false=>
    rw [if_neg (by simp),if_neg (by simp)]
    exact ⟨rfl,by omega⟩
 ·intro s hI
  show cY (VF v f) act n _ s _=_
  unfold cY
  rw [if_neg (by omega),bb (by omega) (by omega)]
theorem Gw (f:List (aN×List Int)) (hf:FM o f) (act:ai) (qx:act.length≤1000000) (t:ai):∃ f',hC (VF v f) act t=some (GJ o act t,VF v f')∧FM o f':=by
 have hm:=hb.mem
 have hw:=EJ hb hr t
 unfold hC AG
 simp only [Option.bind_some]
 cases hk:cX (VF v f).cr (⟨act,t⟩:aN) with
 | some l=>
   rw [if_pos (show (some l).isSome=true from rfl)]
   refine ⟨f,?_,hf⟩
   rw [← hf act t l hk];rfl
 | none=>
   rw [if_neg (by simp),Cz (ab5 hb hr hv ha f) (by have:=hb.TG;omega)]
   simp only [Option.bind_some]
   unfold se
   rw [de (wk o t) (fun (s:List Int) (i:Int)=>(s,i)) (fun x=>cZ (VF v f) act t (wk o t) x.1 x.2) (fun s u=>s++vc (fun m=>decide (m.au=u)&&Aw o act m) o.aG 0) (fun i s=>(s.length:Int)≤200 * i) (fun s=>some (s,VF v (jl f (⟨act,t⟩:aN) s))) ?_ ?_ [] (by simp),Gu]
   ·refine ⟨_,rfl,fun a t' l hl=>?_⟩
    rw [vj] at hl
    split at hl
    ·rename_i he
     obtain ⟨rfl,rfl⟩:=aN.mk.inj he
     rw [← Option.some.inj hl,List.nil_append];rfl
    ·exact hf a t' l hl
   ·intro s i u g0 g1 hi hI
    show cZ (VF v f) act t (wk o t) s i=_∧_
    unfold cZ vu
    rw [if_pos g1,hi]
    simp only [Option.bind_some]
    rw [show (cX (VF v f).at_ u).getD []=vc (fun m=>decide (m.au=u)) o.aG 0 from ha u,Vy hb hr hv ha f act qx u i (by omega) s (by omega)]
    have:=yj (fun m=>decide (m.au=u)&&Aw o act m) o.aG 0
    exact ⟨rfl,by rw [List.length_append];push_cast;omega⟩
   ·intro s hI
    show cZ (VF v f) act t (wk o t) s _=_
    unfold cZ
    rw [if_neg (by omega)];rfl
end
noncomputable def mB (q:Query) (x:aL):Bool:=(jQ q x).getD false
noncomputable def JE (o:aW) (act:ai) (x:aL) (at_:Int) (s:bl):Bool:=(!decide (at_ < s.Time.ef)&&!decide (s.Time.To≤at_))&&(decide (s.ef∈wk o x.Device.au)&&(vT s.lI act&&mB s.Query x))
noncomputable def No (o:aW) (act:ai) (x:aL) (at_:Int) (s:bl):List Reason:=if JE o act x at_ s=true then (GJ o act s.To).map (fun j=>⟨j,s.Key⟩) else []
noncomputable def LV (o:aW) (act:ai) (x:aL) (at_:Int):List Reason:=if x.Device.au=[] then [] else (GJ o act x.Device.au).map (fun j=>⟨j,[]⟩)++o.aK.flatMap (No o act x at_)
def Wt (o:aW) (i:Int):ai:=((idx o.aG i).map (·.ek)).getD []
noncomputable def Ax (o:aW) (act:ai) (x:aL) (at_:Int):List ai:=dd Lm (Kx ((LV o act x at_).map fun r=>Wt o r.aQ))
theorem EM {o:aW} {act:ai} {x:aL} {at_:Int} {r:Reason} (h:r∈LV o act x at_):∃ m,idx o.aG r.aQ=some m:=by
 unfold LV at h
 split at h
 ·cases h
 rcases List.mem_append.1 h with k | k
 ·obtain ⟨j,hj,rfl⟩:=List.mem_map.1 k
  exact OB hj
 ·obtain ⟨s,_,hs⟩:=List.mem_flatMap.1 k
  unfold No at hs
  split at hs
  ·obtain ⟨j,hj,rfl⟩:=List.mem_map.1 hs
   exact OB hj
  ·cases hs
theorem CF {α β:Type} (g:α→List β) (N:Nat):∀ l:List α,(∀ x∈l,(g x).length≤N)→(l.flatMap g).length≤N * l.length
 | [],_=>by simp
 | x :: r,h=>by
   have h1:=h x (by simp)
   have h2:=CF g N r (fun y hy=>h y (by simp [hy]))
   rw [List.flatMap_cons,List.length_append,List.length_cons,Nat.mul_add]
   omega
theorem OC {o:aW} (hb:mY o) (hr:Bw o) (act:ai) (x:aL) (at_:Int) (s:bl):(No o act x at_ s).length≤200:=by
 have:=EL o hr.nd act s.To
 have:=hb.mem
 unfold No
 split
 ·rw [List.length_map];omega
 ·simp
theorem Vz {o:aW} (hb:mY o) (hr:Bw o) (act:ai) (x:aL) (at_:Int):(LV o act x at_).length≤2200:=by
 have h1:=EL o hr.nd act x.Device.au
 have h2:=hb.mem
 have h3:=hb.ZC
 have h4:=CF (No o act x at_) 200 o.aK (fun s _=>OC hb hr act x at_ s)
 unfold LV
 split
 ·simp
 ·rw [List.length_append,List.length_map]
  have:200 * o.aK.length≤2000:=by omega
  omega
theorem Wu (l:List ai) (hl:l.length≤100000):pX l.length (fun r:List ai=>r.length) (fx l)=some (Kx l):=by
 unfold fx NP pX
 rw [if_pos (by omega)]
 simp only [Option.bind_some]
 have hls:(Kx l).length=l.length:=(vk _).length_eq
 rw [if_pos (by first | exact hls | exact hls.symm | omega)]
theorem ab6 (l:List ai) (hl:l.length≤100000):et l=some (dd Lm l):=Va [] _ (by omega)
section
variable {o:aW} (hb:mY o) (hr:Bw o) {v:aq} (hv:AW v o) (ha:AtR v o)
include hb hr hv ha
theorem VA (f:List (aN×List Int)) (n:Int) (hn:0≤n∧n≤100000) (s:bl) (l:List Int) (hl:l.length≤100000) (acc:List Reason) (EA:acc.length≤1000000):
 mQ n s (l,VF v f) acc 0=some (.inl (v.aW.ao,v.aW.bd,v.aW.aG,v.aW.aK,v.aT,v.bU,v.at_,f,acc++l.map (fun j=>⟨j,s.Key⟩),n+1)):=by
 unfold mQ
 rw [de l (fun (a:List Reason) (i:Int)=>(a,i)) (fun x=>db n s (l,VF v f) x.1 x.2) (fun a j=>a++[⟨j,s.Key⟩]) (fun i a=>(a.length:Int)≤1000000+i) (fun a=>some (.inl (v.aW.ao,v.aW.bd,v.aW.aG,v.aW.aK,v.aT,v.bU,v.at_,f,a,n+1))) ?_ ?_ acc (by omega),foldl_map]
 ·intro a i j g0 g1 hi hI
  show db n s (l,VF v f) a i=_∧_
  unfold db
  dsimp only
  rw [if_pos g1,hi]
  simp only [Option.bind_some]
  rw [mD (by simp;omega)]
  simp only [Option.bind_some]
  rw [bb (by omega) (by omega)]
  exact ⟨rfl,by simp;omega⟩
 ·intro a hI
  show db n s (l,VF v f) a _=_
  unfold db eh
  dsimp only
  rw [if_neg (by omega),bb (by omega) (by omega)]
  rfl
theorem Np (f:List (aN×List Int)) (hf:FM o f) (act:ai) (qx:act.length≤1000000) (x:aL) (at_:Int) (hM:∀ s∈o.aK,eO s.Query x=some (mB s.Query x)):∃ f',jw (VF v f) act x at_=some (LV o act x at_,VF v f')∧FM o f':=by
 have hm:=hb.mem
 have hsh:=hb.ZC
 have hor:=hv.view.Oo
 unfold jw LV
 by_cases c:x.Device.au=[]
 ·rw [if_pos c,if_pos c];exact ⟨f,rfl,hf⟩
 rw [if_neg c,if_neg c]
 obtain ⟨f1,e1,hf1⟩:=Gw hb hr hv ha f hf act qx x.Device.au
 rw [e1]
 simp only [Option.bind_some]
 have hl:=EL o hr.nd act x.Device.au
 have key:∀ base:List Reason,base.length≤1000→Ok (gJ (VF v f) act x at_ (GJ o act x.Device.au,VF v f1) base) (fun r=>∃ f',r=(base++o.aK.flatMap (No o act x at_),VF v f')∧FM o f'):=by
  intro base hbl
  unfold gJ
  rw [show (⟨(GJ o act x.Device.au,VF v f1).2.aW,(GJ o act x.Device.au,VF v f1).2.aT,(GJ o act x.Device.au,VF v f1).2.bU,(GJ o act x.Device.au,VF v f1).2.at_,(GJ o act x.Device.au,VF v f1).2.cr,(VF v f).dw⟩:aq)=VF v f1 from rfl,Cz (ab5 hb hr hv ha f1) (by have:=hb.TG;omega)]
  simp only [Option.bind_some]
  unfold sf
  refine Ok.Bo o.aK.length (fun (s:List (aN×List Int)×List Reason) (i:Int)=>(v.aW.ao,v.aW.bd,v.aW.aG,v.aW.aK,v.aT,v.bU,v.at_,s.1,s.2,i)) (fun i s=>FM o s.1∧s.2=base++(o.aK.take i.toNat).flatMap (No o act x at_)) (fun s i g0 g1 hI=>?_) (f1,base) ⟨hf1,by simp⟩
  obtain ⟨g,acc⟩:=s
  obtain ⟨hg,EA⟩:=hI
  dsimp only at hg EA ⊢
  have hal:acc.length≤10000:=by
   rw [EA,List.length_append]
   have:=CF (No o act x at_) 200 (o.aK.take i.toNat) (fun s _=>OC hb hr act x at_ s)
   have h2:(o.aK.take i.toNat).length≤10:=by rw [List.length_take];omega
   have h3:200 * (o.aK.take i.toNat).length≤2000:=by omega
   omega
  unfold gI
  dsimp only
  rw [show (VF v f1).aW=o from hor]
  split
  ·rename_i hi
   refine Ok.idx g0 hi (fun s hs hsm=>?_)
   have skip:JE o act x at_ s=false→Ok (eh i v.aW.ao v.aW.bd v.aW.aG v.aW.aK v.aT v.bU v.at_ g acc) (fun r=>(∃ s':List (aN×List Int)×List Reason,r=.inl (v.aW.ao,v.aW.bd,v.aW.aG,v.aW.aK,v.aT,v.bU,v.at_,s'.1,s'.2,i+1)∧i < o.aK.length∧FM o s'.1∧s'.2=base++(o.aK.take (i+1).toNat).flatMap (No o act x at_))∨∃ a,r=.inr a∧∃ f',a=(base++o.aK.flatMap (No o act x at_),VF v f')∧FM o f'):=by
    intro hc
    unfold eh
    rw [bb (by omega) (by omega)]
    refine Ok.ret (.inl ⟨(g,acc),rfl,hi,hg,?_⟩)
    rw [take_succ g0 hs,List.flatMap_append,← List.append_assoc,← EA,List.flatMap_cons,List.flatMap_nil]
    unfold No
    rw [hc];simp
   have sk2:JE o act x at_ s=false→Ok (cK (VF v f) act v.aW.ao v.aW.bd v.aW.aG v.aW.aK v.aT v.bU v.at_ g acc i s true) (fun r=>(∃ s':List (aN×List Int)×List Reason,r=.inl (v.aW.ao,v.aW.bd,v.aW.aG,v.aW.aK,v.aT,v.bU,v.at_,s'.1,s'.2,i+1)∧i < o.aK.length∧FM o s'.1∧s'.2=base++(o.aK.take (i+1).toNat).flatMap (No o act x at_))∨∃ a,r=.inr a∧∃ f',a=(base++o.aK.flatMap (No o act x at_),VF v f')∧FM o f'):=by
    intro hc
    unfold cK
    rw [if_pos rfl];exact skip hc
   by_cases c1:at_ < s.Time.ef
   ·rw [if_pos c1];exact sk2 (by unfold JE;simp [c1])
   rw [if_neg c1]
   by_cases c2:s.Time.To≤at_
   ·rw [if_pos c2];exact sk2 (by unfold JE;simp [c2])
   rw [if_neg c2,sI _ _ (by have:=EJ hb hr x.Device.au;omega)]
   simp only [Option.bind_some]
   by_cases c3:s.ef∈wk o x.Device.au
   ·rw [decide_eq_true c3,if_neg (by simp),Br _ _ (hb.shr s hsm).1 qx]
    simp only [Option.bind_some]
    cases c4:vT s.lI act with
    | false=>rw [if_pos (show (!false)=true from rfl)];exact sk2 (by unfold JE;simp [c4])
    | true=>
      rw [if_neg (by simp),hM s hsm]
      simp only [Option.bind_some]
      cases c5:mB s.Query x with
      | false=>exact sk2 (by unfold JE;simp [c5])
      | true=>
        unfold cK
        rw [if_neg (by simp)]
        obtain ⟨g',e2,hg'⟩:=Gw hb hr hv ha g hg act qx s.To
        rw [show (⟨(⟨v.aW.ao,v.aW.bd,v.aW.aG,v.aW.aK⟩:aW),v.aT,v.bU,v.at_,g,(VF v f).dw⟩:aq)=VF v g from rfl,e2]
        simp only [Option.bind_some]
        have Tk:=EL o hr.nd act s.To
        rw [VA hb hr hv ha g' i (by omega) s (GJ o act s.To) (by omega) acc (by omega)]
        refine Ok.ret (.inl ⟨(g',acc++(GJ o act s.To).map (fun j=>⟨j,s.Key⟩)),rfl,hi,hg',?_⟩)
        dsimp only
        rw [take_succ g0 hs,List.flatMap_append,← List.append_assoc,← EA,List.flatMap_cons,List.flatMap_nil,List.append_nil]
        unfold No
        rw [if_pos (by unfold JE;simp [c1,c2,c3,c4,c5])]
   ·rw [decide_eq_false c3,if_pos (by simp)];exact sk2 (by unfold JE;simp [c3])
  ·rename_i hi
   refine Ok.inr (Ok.ret (.inr ⟨_,rfl,g,?_,hg⟩))
   rw [EA,show i.toNat=o.aK.length by omega,List.take_length]
   rfl
 obtain ⟨r,k1,f',rfl,TR⟩:=key ((GJ o act x.Device.au).map (fun j=>⟨j,[]⟩)) (by rw [List.length_map];omega)
 refine ⟨f',?_,TR⟩
 rw [← k1]
 unfold sg
 rw [de (GJ o act x.Device.au) (fun (a:List Reason) (i:Int)=>(a,i)) (fun y=>dc (VF v f) act x at_ (GJ o act x.Device.au,VF v f1) y.1 y.2) (fun a j=>a++[⟨j,[]⟩]) (fun i a=>(a.length:Int)≤i) (fun a=>gJ (VF v f) act x at_ (GJ o act x.Device.au,VF v f1) a) ?_ ?_ [] (by simp),foldl_map,List.nil_append]
 ·intro a i j g0 g1 hi hI
  show dc (VF v f) act x at_ (GJ o act x.Device.au,VF v f1) a i=_∧_
  unfold dc
  dsimp only
  rw [if_pos g1,hi]
  simp only [Option.bind_some]
  rw [mD (by simp;omega)]
  simp only [Option.bind_some]
  rw [bb (by omega) (by omega)]
  exact ⟨rfl,by simp;omega⟩
 ·intro a hI
  show dc (VF v f) act x at_ (GJ o act x.Device.au,VF v f1) a _=_
  unfold dc
  dsimp only
  rw [if_neg (by omega)]
theorem LW (f:List (aN×List Int)) (hf:FM o f) (act:ai) (qx:act.length≤1000000) (x:aL) (at_:Int) (hM:∀ s∈o.aK,eO s.Query x=some (mB s.Query x)):∃ f',gK (VF v f) act x at_=some (Ax o act x at_,VF v f')∧FM o f':=by
 have hor:=hv.view.Oo
 obtain ⟨f',e1,TR⟩:=Np hb hr hv ha f hf act qx x at_ hM
 have hl:=Vz hb hr act x at_
 unfold gK
 rw [e1]
 simp only [Option.bind_some]
 refine ⟨f',?_,TR⟩
 unfold uv
 rw [de (LV o act x at_) (fun (a:List ai) (i:Int)=>(a,i)) (fun y=>dG (VF v f) (LV o act x at_,VF v f') y.1 y.2) (fun a r=>a++[Wt o r.aQ]) (fun i a=>(a.length:Int)≤i) (fun a=>lg (VF v f) (LV o act x at_,VF v f') a) ?_ ?_ [] (by simp),foldl_map,List.nil_append]
 ·unfold lg Ax
  have hll:((LV o act x at_).map fun r=>Wt o r.aQ).length≤2200:=by rw [List.length_map];exact hl
  rw [Wu _ (by omega)]
  simp only [Option.bind_some]
  rw [ab6 _ (by rw [(vk _).length_eq];omega)]
  rfl
 ·intro a i r g0 g1 hi hI
  show dG (VF v f) (LV o act x at_,VF v f') a i=_∧_
  unfold dG
  dsimp only
  obtain ⟨m,hm⟩:=EM (gw hi)
  rw [if_pos g1,hi]
  simp only [Option.bind_some]
  rw [show (VF v f').aW=o from hor,hm]
  simp only [Option.bind_some]
  rw [mD (by simp;omega)]
  simp only [Option.bind_some]
  rw [bb (by omega) (by omega)]
  refine ⟨?_,by simp;omega⟩
  unfold Wt
  rw [hm];rfl
 ·intro a hI
  show dG (VF v f) (LV o act x at_,VF v f') a _=_
  unfold dG
  dsimp only
  rw [if_neg (by omega)]
end
theorem JF (s:ai) (h:s.length≤100000000):qT s true=some (ry 5 s):=by
 unfold qT
 rw [xE (by omega)]
 simp only [Option.bind_some]
 have hlen:=ua 46 s
 have uc:=zU 46 s
 have j2:jM s (cu 46 s)=some (ry 5 s):=by
  unfold jM nP ry
  rw [xE (by omega)]
  simp only [Option.bind_some]
  by_cases c:(cu 46 s).length≤5
  ·rw [if_pos (by omega)]
   rw [show aV (cu 46 s) (fun y0=>iM y0)=some ((cu 46 s).any (fun y=>!vS y)) from dW _ _ _ (fun x _=>by show iM x=_;unfold iM;rw [nJ];rfl) (by omega)]
   simp only [Option.bind_some,Option.some.injEq]
   rw [decide_eq_true c,Bool.true_and,List.not_any_eq_all_not]
   congr 1;funext x;simp
  ·rw [if_neg (by omega),decide_eq_false c];simp
 rcases List.eq_nil_or_concat (cu 46 s) with e | ⟨l,x,e⟩
 ·exact absurd e uc
 rw [List.concat_eq_append] at e
 rw [if_neg (by simp)]
 have hx:idx (cu 46 s) (cd (((cu 46 s).length:Int) - 1))=some x:=by rw [e,LC,if_pos (by rw [← e];omega)]
 unfold nQ
 rw [if_neg (by simp),hx]
 simp only [Option.bind_some]
 rw [nJ]
 simp only [Option.bind_some]
 cases hk:vS x with
 | false=>
   rw [if_pos (by simp)]
   unfold ry
   rw [e];simp [hk]
 | true=>rw [if_neg (by simp),j2]
theorem OD {l:List ai} (h:SS l):l.Nodup:=h.imp (fun h e=>by rw [e,mE] at h;omega)
theorem X9 {a b:List ai} (ha:SS a) (hb:SS b) (h:∀ x,x∈a↔x∈b):a=b:=by
 have hp:a.Perm b:=(List.perm_ext_iff_of_nodup (OD ha) (OD hb)).2 h
 refine Bn (cf:=Lib.compareBytes) hp (ha.imp (fun h=>by rw [lC];omega)) (hb.imp (fun h=>by rw [lC];omega)) (fun x _ y _ h1 h2=>j5 ?_)
 have:=lC x y
 omega
theorem Iu {α β:Type} {f g:α→List β}:∀ l:List α,(∀ x∈l,(f x).Perm (g x))→(l.flatMap f).Perm (l.flatMap g)
 | [],_=>List.Perm.refl _
 | x :: r,h=>by
   rw [List.flatMap_cons,List.flatMap_cons]
   exact (h x (by simp)).append (Iu r (fun y hy=>h y (by simp [hy])))
theorem Gx {p:aQ→Bool}:∀ (L:List aQ) (i:Int),(∀ m∈L,p m=false)→vc p L i=[]
 | [],_,_=>rfl
 | m :: r,i,h=>by
   show (if p m=true then i :: vc p r (i+1) else vc p r (i+1))=[]
   rw [if_neg (by rw [h m (by simp)];simp),Gx r (i+1) (fun x hx=>h x (by simp [hx]))]
theorem DT {α β:Type} (f:α→List β) (p:β→Bool):∀ l:List α,(l.flatMap f).filter p=l.flatMap fun x=>(f x).filter p
 | []=>rfl
 | x :: r=>by rw [List.flatMap_cons,List.flatMap_cons,List.filter_append,DT f p r]
def Mb (o:aW) (u act key:ai):List Int:=vc (fun m=>decide (m.ek=u)&&(decide (m.au∈wk o key)&&Aw o act m)) o.aG 0
theorem LX (o:aW) (hn:∀ q,(wk o q).Nodup) (u act t:ai):((GJ o act t).filter (Vx (fun m=>decide (m.ek=u)) o.aG)).Perm (Mb o u act t):=by
 refine ((LU o hn act t).filter _).trans ?_
 rw [Gt]
 unfold Mb
 have:(fun m:aQ=>(decide (m.au∈wk o t)&&Aw o act m)&&decide (m.ek=u))=(fun m=>decide (m.ek=u)&&(decide (m.au∈wk o t)&&Aw o act m)):=by
  funext m;rw [Bool.and_comm]
 rw [this]
theorem S5 {o:aW} (hr:Bw o):wk o []=[]:=oc (SI hr.tree) _
noncomputable def PX (o:aW) (u act:ai) (x:aL) (at_:Int) (s:bl):List Reason:=if JE o act x at_ s=true then (Mb o u act s.To).map (fun j=>⟨j,s.Key⟩) else []
noncomputable def rwL (o:aW) (u act:ai) (x:aL) (at_:Int):List Reason:=(Mb o u act x.Device.au).map (fun j=>⟨j,[]⟩)++o.aK.flatMap (PX o u act x at_)
def isU (o:aW) (u:ai) (r:Reason):Bool:=Vx (fun m=>decide (m.ek=u)) o.aG r.aQ
theorem VB {o:aW} (hr:Bw o) (u act:ai) (x:aL) (at_:Int):((LV o act x at_).filter (isU o u)).Perm (rwL o u act x at_):=by
 unfold LV rwL
 by_cases c:x.Device.au=[]
 ·rw [if_pos c,c]
  have h1:Mb o u act []=[]:=Gx _ _ (fun m _=>by rw [S5 hr];simp)
  have h2:o.aK.flatMap (PX o u act x at_)=[]:=by
   rw [List.flatMap_eq_nil_iff]
   intro s _
   unfold PX
   rw [if_neg (by unfold JE;rw [c,S5 hr];simp)]
  rw [h1,h2];exact List.Perm.refl _
 ·rw [if_neg c,List.filter_append,List.filter_map,DT]
  refine List.Perm.append ((LX o hr.nd u act x.Device.au).map _) (Iu _ fun s _=>?_)
  unfold No PX
  split
  ·rw [List.filter_map]
   exact (LX o hr.nd u act s.To).map _
  ·exact List.Perm.refl _
theorem JG {o:aW} {u:ai} {r:Reason} {m:aQ} (h:idx o.aG r.aQ=some m):isU o u r=decide (Wt o r.aQ=u):=by
 unfold isU Vx Wt
 rw [h];rfl
theorem S6 {o:aW} (u act:ai) (x:aL) (at_:Int):u∈Ax o act x at_↔(LV o act x at_).filter (isU o u)≠[]:=by
 unfold Ax
 rw [(Oy _ (CE _)).2,(vk _).mem_iff,List.mem_map]
 constructor
 ·rintro ⟨r,hr,he⟩ h
  obtain ⟨m,hm⟩:=EM hr
  have:r∈(LV o act x at_).filter (isU o u):=List.mem_filter.2 ⟨hr,by rw [JG hm,he];simp⟩
  rw [h] at this;cases this
 ·intro h
  obtain ⟨r,hr⟩:=List.exists_mem_of_ne_nil _ h
  obtain ⟨h1,h2⟩:=List.mem_filter.1 hr
  obtain ⟨m,hm⟩:=EM h1
  rw [JG hm] at h2
  exact ⟨r,h1,by simpa using h2⟩
def JH (a b:Reason):Int:=if Bm a.aQ b.aQ≠0 then Bm a.aQ b.aQ else Lib.compareBytes a.bl b.bl
theorem Ya:zu JH:=(XQ.on (fun r:Reason=>r.aQ)).lex (Dh.on (fun r:Reason=>r.bl))
theorem rOr (a b:Reason):(gh [(cmp_Compare_int a.aQ b.aQ),(Lib.compareBytes a.bl b.bl)]).bind (fun v3=>some v3)=some (JH a b):=by
 rw [Or2,SP]
 simp only [Option.bind_some]
 unfold tw JH
 split
 ·rfl
 ·unfold tw
  split
  ·rfl
  ·rename_i h;simp only [Classical.not_not] at h;rw [h];rfl
theorem ab7 (f:Reason→Reason→Option Int) (hf:∀ a b,f a b=some (JH a b)) (X:List Reason) (hl:X.length≤100000):∃ Z,pX X.length (fun r:List Reason=>r.length) (fM X f)=some Z∧Z.Perm X∧TB JH Z:=by
 obtain ⟨Z,h1,h2,h3⟩:=Lk f JH X hl (fun a _ b _=>hf a b) (Ya.ord X)
 exact ⟨Z,Sk (show fM X f=some Z from h1) h2.length_eq,h2,h3⟩
section
variable {o:aW} (hb:mY o) (hr:Bw o)
include hb hr
theorem Iv (k:ai):fB o k=some (pe (fun t=>decide (t.Key=k)) o.ao 0):=ri o k (by have:=hb.TG;omega)
theorem zF (u act key:ai) (qx:act.length≤1000000):nZ o u act key=some (Mb o u act key):=by
 have hm:=hb.mem
 unfold nZ
 rw [Iv hb hr]
 simp only [Option.bind_some]
 by_cases c:pe (fun t=>decide (t.Key=key)) o.ao 0 < 0
 ·rw [if_pos c]
  have hu:=(pO o.ao key).1 c
  have:Mb o u act key=[]:=Gx _ _ (fun m _=>by rw [show wk o key=[] from oc hu _];simp)
  rw [this]
 ·rw [if_neg c]
  have hu:∃ p,up o.ao key=some p:=by
   cases e:up o.ao key with
   | none=>exact absurd ((pO o.ao key).2 e) c
   | some p=>exact ⟨p,rfl⟩
  have af9:Ok (ti o u act key [] 0) (fun r=>r=Mb o u act key):=by
   unfold ti
   refine Ok.Bo o.aG.length (fun (s:List Int) (i:Int)=>(s,i)) (fun i s=>s=vc (fun m=>decide (m.ek=u)&&(decide (m.au∈wk o key)&&Aw o act m)) (o.aG.take i.toNat) 0) (fun s i g0 g1 hI=>?_) [] rfl
   show Ok (jX o u act key s i) _
   have QG:s.length≤1000:=by
    rw [hI]
    have:=yj (fun m=>decide (m.ek=u)&&(decide (m.au∈wk o key)&&Aw o act m)) (o.aG.take i.toNat) 0
    rw [List.length_take] at this;omega
   unfold jX
   split
   ·rename_i hi
    refine Ok.idx g0 hi (fun m hmi hmm=>?_)
    have j1:∀ c:Bool,c=(decide (m.ek=u)&&(decide (m.au∈wk o key)&&Aw o act m))→Ok (iG s i c) (fun r=>(∃ s',r=.inl (s',i+1)∧i < o.aG.length∧s'=vc (fun m=>decide (m.ek=u)&&(decide (m.au∈wk o key)&&Aw o act m)) (o.aG.take (i+1).toNat) 0)∨∃ a,r=.inr a∧a=Mb o u act key):=by
     intro c hc
     unfold iG mu
     rw [bb (by omega) (by omega)]
     have hs:=LR (fun m=>decide (m.ek=u)&&(decide (m.au∈wk o key)&&Aw o act m)) (o.aG.take i.toNat) m i (by rw [List.length_take];omega)
     rw [take_succ g0 hmi,hs,← hI]
     rw [← hc]
     cases c with
     | true=>rw [if_pos rfl,mD (by simp;omega)];exact Ok.ret (.inl ⟨_,rfl,hi,rfl⟩)
     | false=>rw [if_neg (by simp)];exact Ok.ret (.inl ⟨_,rfl,hi,by simp⟩)
    by_cases c1:m.ek=u
    ·rw [if_pos c1,SX hb hr key hu]
     simp only [Option.bind_some]
     rw [sI _ _ (by have:=EJ hb hr key;omega)]
     simp only [Option.bind_some]
     by_cases c2:m.au∈wk o key
     ·rw [if_pos (by simpa using c2),Iq o _ (by have:=hb.rol;omega)]
      obtain ⟨r,e1,e2⟩:=SY hb hr m.bH (hr.mem m hmm).2
      simp only [Option.bind_some]
      rw [e1]
      simp only [Option.bind_some]
      rw [e2,Cy _ _ (LM hb hr _) ⟨by simp,fun x hx=>by rw [List.mem_singleton.1 hx];exact qx⟩]
      simp only [Option.bind_some]
      exact j1 _ (by rw [decide_eq_true c1,decide_eq_true c2];simp [vb,Aw])
     ·rw [if_neg (by simpa using c2)]
      exact j1 false (by rw [decide_eq_false c2];simp)
    ·rw [if_neg c1]
     exact j1 false (by rw [decide_eq_false c1];simp)
   ·refine Ok.inr (Ok.ret (.inr ⟨_,rfl,?_⟩))
    rw [hI,show i.toNat=o.aG.length by omega,List.take_length];rfl
  obtain ⟨r,h1,rfl⟩:=af9
  exact h1
theorem JI (u act key:ai):(Mb o u act key).length≤200:=Nat.le_trans (yj _ _ _) hb.mem
theorem VC (u act:ai) (x:aL) (at_:Int) (s:bl):(PX o u act x at_ s).length≤200:=by
 have:=JI hb hr u act s.To
 unfold PX
 split
 ·rw [List.length_map];omega
 ·simp
theorem Yb (n:Int) (hn:0≤n∧n≤100000) (s:bl) (l:List Int) (hl:l.length≤100000) (acc:List Reason) (EA:acc.length≤1000000):
 Bd n s l acc 0=some (.inl (acc++l.map (fun j=>⟨j,s.Key⟩),n+1)):=by
 unfold Bd
 rw [de l (fun (a:List Reason) (i:Int)=>(a,i)) (fun x=>mT n s l x.1 x.2) (fun a j=>a++[⟨j,s.Key⟩]) (fun i a=>(a.length:Int)≤1000000+i) (fun a=>some (.inl (a,n+1))) ?_ ?_ acc (by omega),foldl_map]
 ·intro a i j g0 g1 hi hI
  show mT n s l a i=_∧_
  unfold mT
  rw [if_pos g1,hi]
  simp only [Option.bind_some]
  rw [mD (by simp;omega)]
  simp only [Option.bind_some]
  rw [bb (by omega) (by omega)]
  exact ⟨rfl,by simp;omega⟩
 ·intro a hI
  show mT n s l a _=_
  unfold mT tn
  rw [if_neg (by omega),bb (by omega) (by omega)]
theorem LY (u act:ai) (qx:act.length≤1000000) (x:aL) (at_:Int) (hM:∀ s∈o.aK,jQ s.Query x=some (mB s.Query x)):∃ Z,oD o u act x at_=some Z∧Z.Perm (rwL o u act x at_)∧TB JH Z:=by
 have hm:=hb.mem
 have hsh:=hb.ZC
 unfold oD
 rw [zF hb hr u act _ qx]
 simp only [Option.bind_some]
 have hl:=JI hb hr u act x.Device.au
 have key:∀ base:List Reason,base.length≤1000→Ok (x7 o u act x at_ base 0) (fun Z=>Z.Perm (base++o.aK.flatMap (PX o u act x at_))∧TB JH Z):=by
  intro base hbl
  unfold x7
  refine Ok.Bo o.aK.length (fun (s:List Reason) (i:Int)=>(s,i)) (fun i s=>s=base++(o.aK.take i.toNat).flatMap (PX o u act x at_)) (fun acc i g0 g1 EA=>?_) base (by simp)
  show Ok (tp o u act x at_ acc i) _
  have hal:acc.length≤10000:=by
   rw [EA,List.length_append]
   have:=CF (PX o u act x at_) 200 (o.aK.take i.toNat) (fun s _=>VC hb hr u act x at_ s)
   have h2:(o.aK.take i.toNat).length≤10:=by rw [List.length_take];omega
   have h3:200 * (o.aK.take i.toNat).length≤2000:=by omega
   omega
  unfold tp
  split
  ·rename_i hi
   refine Ok.idx g0 hi (fun s hs hsm=>?_)
   have sk:JE o act x at_ s=false→Ok (kF o u act acc i s true) (fun r=>(∃ s':List Reason,r=.inl (s',i+1)∧i < o.aK.length∧s'=base++(o.aK.take (i+1).toNat).flatMap (PX o u act x at_))∨∃ a,r=.inr a∧a.Perm (base++o.aK.flatMap (PX o u act x at_))∧TB JH a):=by
    intro hc
    unfold kF tn
    rw [if_pos rfl,bb (by omega) (by omega)]
    refine Ok.ret (.inl ⟨acc,rfl,hi,?_⟩)
    rw [take_succ g0 hs,List.flatMap_append,← List.append_assoc,← EA,List.flatMap_cons,List.flatMap_nil]
    unfold PX
    rw [hc];simp
   rw [Iv hb hr]
   simp only [Option.bind_some]
   by_cases c0:pe (fun t=>decide (t.Key=x.Device.au)) o.ao 0 < 0
   ·rw [if_pos c0]
    have hu:=(pO o.ao x.Device.au).1 c0
    exact sk (by unfold JE;rw [show wk o x.Device.au=[] from oc hu _];simp)
   rw [if_neg c0]
   have hu:∃ p,up o.ao x.Device.au=some p:=by
    cases e:up o.ao x.Device.au with
    | none=>exact absurd ((pO o.ao x.Device.au).2 e) c0
    | some p=>exact ⟨p,rfl⟩
   rw [SX hb hr _ hu]
   simp only [Option.bind_some]
   rw [sI _ _ (by have:=EJ hb hr x.Device.au;omega)]
   simp only [Option.bind_some]
   by_cases c3:s.ef∈wk o x.Device.au
   ·rw [decide_eq_true c3,if_neg (by simp),hM s hsm]
    simp only [Option.bind_some]
    cases c5:mB s.Query x with
    | false=>rw [if_pos (show (!false)=true from rfl)];exact sk (by unfold JE;simp [c5])
    | true=>
      rw [if_neg (by simp)]
      by_cases c1:at_ < s.Time.ef
      ·rw [if_pos c1];exact sk (by unfold JE;simp [c1])
      rw [if_neg c1]
      by_cases c2:s.Time.To≤at_
      ·rw [if_pos c2];exact sk (by unfold JE;simp [c2])
      rw [if_neg c2,Cy _ _ (hb.shr s hsm).1 ⟨by simp,fun y hy=>by rw [List.mem_singleton.1 hy];exact qx⟩]
      simp only [Option.bind_some]
      rw [show vb s.lI [act]=vT s.lI act by simp [vb]]
      cases c4:vT s.lI act with
      | false=>exact sk (by unfold JE;simp [c4])
      | true=>
        unfold kF
        rw [if_neg (by simp),zF hb hr u act _ qx]
        simp only [Option.bind_some]
        have Tk:=JI hb hr u act s.To
        rw [Yb hb hr i (by omega) s (Mb o u act s.To) (by omega) acc (by omega)]
        refine Ok.ret (.inl ⟨_,rfl,hi,?_⟩)
        rw [take_succ g0 hs,List.flatMap_append,← List.append_assoc,← EA,List.flatMap_cons,List.flatMap_nil,List.append_nil]
        unfold PX
        rw [if_pos (by unfold JE;simp [c1,c2,c3,c4,c5])]
   ·rw [decide_eq_false c3,if_pos (by simp)];exact sk (by unfold JE;simp [c3])
  ·rename_i hi
   unfold Be
   obtain ⟨Z,h1,h2,h3⟩:=ab7 (fun y0 y1=>x6 y0 y1) (fun a b=>rOr a b) acc (by omega)
   rw [h1]
   refine Ok.inr (Ok.ret (.inr ⟨Z,rfl,?_,h3⟩))
   rw [EA,show i.toNat=o.aK.length by omega,List.take_length] at h2
   exact h2
 obtain ⟨Z,k1,k2,k3⟩:=key ((Mb o u act x.Device.au).map (fun j=>⟨j,[]⟩)) (by rw [List.length_map];omega)
 refine ⟨Z,?_,k2,k3⟩
 rw [← k1]
 unfold FJ
 rw [de (Mb o u act x.Device.au) (fun (a:List Reason) (i:Int)=>(a,i)) (fun y=>mU o u act x at_ (Mb o u act x.Device.au) y.1 y.2) (fun a j=>a++[⟨j,[]⟩]) (fun i a=>(a.length:Int)≤i) (fun a=>x7 o u act x at_ a 0) ?_ ?_ [] (by simp),foldl_map,List.nil_append]
 ·intro a i j g0 g1 hi hI
  show mU o u act x at_ (Mb o u act x.Device.au) a i=_∧_
  unfold mU
  rw [if_pos g1,hi]
  simp only [Option.bind_some]
  rw [mD (by simp;omega)]
  simp only [Option.bind_some]
  rw [bb (by omega) (by omega)]
  exact ⟨rfl,by simp;omega⟩
 ·intro a hI
  show mU o u act x at_ (Mb o u act x.Device.au) a _=_
  unfold mU
  rw [if_neg (by omega)]
theorem DU (x:aL) (hx:BC x) (hf:iC x=some 0):∀ s∈o.aK,eO s.Query x=some (mB s.Query x)∧jQ s.Query x=some (mB s.Query x):=by
 intro s hs
 obtain ⟨r,q1,_,q3⟩:=AS s.Query (hb.shr s hs).2
 rw [(hr.shr s hs).2] at q1
 obtain ⟨b,h1,h2⟩:=Jy s.Query (hb.shr s hs).2 (q3 (Option.some.inj q1).symm) x hx hf
 have:mB s.Query x=b:=by unfold mB;rw [h2];rfl
 rw [this];exact ⟨h1,h2⟩
end
def eM (at_:Int):Int:=if 0≤at_∧at_≤345686399999 then 0 else 1
theorem CG (at_:Int):iU at_=decide (0≤at_∧at_≤345686399999):=by
 rw [PE,Bool.decide_and]
theorem zG (at_:Int):jP at_=eM at_:=by
 unfold jP yH xX eM
 by_cases c:0≤at_∧at_≤345686399999
 ·rw [if_pos c,if_neg (by simp [c])]
 ·rw [if_neg c,if_pos (by simp;omega)]
theorem Or5 (a b c d e:Int):lv [a,b,c,d,e]=some (tw [a,b,c,d,e]):=zp _ (by simp)
theorem sW (l:List Int):tw (0 :: l)=tw l:=by
 show (if (0:Int)≠0 then 0 else tw l)=tw l
 rw [if_neg (fun k=>k rfl)]
theorem CH {a:Int} (h:a≠0) (l:List Int):tw (a :: l)=a:=by
 show (if a≠0 then a else tw l)=a
 rw [if_pos h]
theorem EN (a:Int):tw [a]=a:=by
 by_cases h:a=0
 ·rw [h,sW];rfl
 ·rw [CH h]
section
variable {o:aW} (hb:mY o) {v:aq} (hv:AW v o)
include hb hv
end
section
variable {o:aW} (hb:mY o) (hr:Bw o) {v:aq} (hv:AW v o) (ha:AtR v o) (h0:v.cr=[]) (hc:dp o=some (some v,0))
include hb hr hv ha h0 hc
theorem S7:FM o v.cr:=fun a t l h=>by rw [h0] at h;cases h
end
def Qm (m:Nat) (l:List jm):Prop:=l.length≤m∧∀ t∈l,t.Name.length≤100000∧t.Value.length≤100000
def S8 (m:Nat) (l:List eB):Prop:=l.length≤m∧∀ p∈l,p.Name.length≤100000∧p.Value.Words.length≤100000
theorem Qm.snoc {m:Nat} {l:List jm} {t:jm} (h:Qm m l) (h1:t.Name.length≤100000) (h2:t.Value.length≤100000):Qm (m+1) (l++[t]):=
 ⟨by rw [List.length_append];exact Nat.succ_le_succ h.1,fun x hx=>by
  rcases List.mem_append.1 hx with k | k
  ·exact h.2 x k
  ·rw [List.mem_singleton.1 k];exact ⟨h1,h2⟩⟩
theorem S8.snoc {m:Nat} {l:List eB} {t:eB} (h:S8 m l) (h1:t.Name.length≤100000) (h2:t.Value.Words.length≤100000):S8 (m+1) (l++[t]):=
 ⟨by rw [List.length_append];exact Nat.succ_le_succ h.1,fun x hx=>by
  rcases List.mem_append.1 hx with k | k
  ·exact h.2 x k
  ·rw [List.mem_singleton.1 k];exact ⟨h1,h2⟩⟩
theorem PY (key:ai) (v2 v3:ai×wc) (v4 v5:Int×wc) (tg:List jm) (pr:List eB) (ht:Qm 10 tg) (hp:S8 10 pr) (L:List Int) (n:Int) (K:Int) (hs:og ⟨L,n⟩ K) (hK:6≤K):
 Ok (sa key v2 v3 v4 v5 tg L n pr) (fun r=>BC r.1∧og r.2 (K - 6)):=by
 have j3:∀ {v2:ai×wc} {v4:Int×wc} {L:List Int} {n:Int} {a b:ai} {z:Int} {tg:List jm} {pr:List eB} {K':Int},og ⟨L,n⟩ K'→K - 6≤K'→Qm 20 tg→S8 20 pr→Ok (oQ v2 v4 L n a b z tg pr) (fun r=>BC r.1∧og r.2 (K - 6)):=by
  intro v2 v4 L n a b z tg pr K' h1 h2 h3 h4
  exact Ok.ret ⟨⟨Nat.le_trans h3.1 (by omega),Nat.le_trans h4.1 (by omega),h3.2,h4.2⟩,h1.less h2⟩
 have ht':Qm 20 tg:=⟨Nat.le_trans ht.1 (by omega),ht.2⟩
 have fj:S8 20 pr:=⟨Nat.le_trans hp.1 (by omega),hp.2⟩
 have YE:=ht.1
 have Qy:=hp.1
 unfold sa
 refine Ok.gen (tA hs (by omega) (by omega) (by omega)) (fun c s1 _ q1=>?_)
 dsimp only
 split
 ·refine Ok.gen (tz q1 (by omega) (by omega) (by omega)) (fun c s2 _ q2=>?_)
  dsimp only
  split
  ·refine Ok.gen (gV q2 (by omega) (by simp) (by simp)) (fun a s3 _ q3=>?_)
   refine Ok.gen (gV q3 (by omega) (by simp) (by simp)) (fun b s4 _ q4=>?_)
   exact j3 q4 (by omega) ht' fj
  split
  ·refine Ok.gen (Sw q2 (by omega) (by omega) (by omega) (by omega)) (fun b s4 _ q4=>?_)
   exact j3 q4 (by omega) ht' fj
  split
  ·refine Ok.gen (gV q2 (by omega) (by simp) (by simp)) (fun a s3 ha q3=>?_)
   refine Ok.gen (gV q3 (by omega) (by simp) (by simp)) (fun b s4 hb q4=>?_)
   refine Ok.app (by simp;omega) ?_
   have h:=Qm.snoc (t:=⟨a,b⟩) ht (qV ha (by decide)) (qV hb (by decide))
   exact j3 q4 (by omega) ⟨Nat.le_trans h.1 (by omega),h.2⟩ fj
  ·refine Ok.gen (gV q2 (by omega) (by simp) (by simp)) (fun a s3 ha q3=>?_)
   refine Ok.gen (Sw q3 (by omega) (by omega) (by omega) (by omega)) (fun b s4 _ q4=>?_)
   refine Ok.app (by simp;omega) ?_
   have h:=S8.snoc (t:=⟨a,⟨b,false,0,[]⟩⟩) hp (qV ha (by decide)) (by simp)
   exact j3 q4 (by omega) ht' ⟨Nat.le_trans h.1 (by omega),h.2⟩
 ·exact j3 q1 (by omega) ht' fj
theorem PZ (key:ai) (v2 v3:ai×wc) (v4 v5:Int×wc) (tg:List jm) (ht:Qm 10 tg) (L:List Int) (n:Int) (K:Int) (hs:og ⟨L,n⟩ K) (hK:16≤K):
 Ok (vz key v2 v3 v4 v5 tg L n [] 0) (fun r=>BC r.1∧og r.2 (K - 16)):=by
 unfold vz
 refine Ok.iter (fun x:(List Int)×Int×(List eB)×Int=>(2 - x.2.2.2).toNat) (fun x=>(0≤x.2.2.2∧x.2.2.2≤2)∧og ⟨x.1,x.2.1⟩ (K - 5 * x.2.2.2)∧S8 x.2.2.2.toNat x.2.2.1) ?_ _ ⟨by simp,by simpa using hs,by simp,fun p h=>(by cases h)⟩
 rintro ⟨L,n,pr,i⟩ ⟨h0,h1,h2⟩
 dsimp only at h0 h1 h2 ⊢
 have w1:cd (i+1)=i+1:=bb (by omega) (by omega)
 have Qy:=h2.1
 unfold oR
 have nx:∀ {L':List Int} {n':Int} {pr':List eB} {K':Int},i < 2→og ⟨L',n'⟩ K'→K - 5 * (i+1)≤K'→S8 (i+1).toNat pr'→Ok (mc i L' n' pr') (Wm (fun x:(List Int)×Int×(List eB)×Int=>(2 - x.2.2.2).toNat) (fun x=>(0≤x.2.2.2∧x.2.2.2≤2)∧og ⟨x.1,x.2.1⟩ (K - 5 * x.2.2.2)∧S8 x.2.2.2.toNat x.2.2.1) (fun r=>BC r.1∧og r.2 (K - 16)) (L,n,pr,i)):=by
  intro L' n' pr' K' g1 g2 g3 g4
  unfold mc
  rw [w1]
  exact Ok.ret ⟨⟨⟨by dsimp only;omega,by dsimp only;omega⟩,g2.less (by dsimp only;omega),g4⟩,by dsimp only;omega⟩
 split
 ·rename_i hi
  have hi:i < 2:=by simpa using hi
  refine Ok.idx h0.1 (by simpa using hi) (fun nm _ Nw=>?_)
  have Nw:nm.length≤100000:=qV Nw (by decide)
  refine Ok.gen (tA h1 (by omega) (by omega) (by omega)) (fun c s1 _ q1=>?_)
  dsimp only
  split
  ·refine Ok.gen (mF q1 (by omega) (by simp) (by simp)) (fun a s2 _ q2=>?_)
   refine Ok.gen (tA q2 (by omega) (by omega) (by omega)) (fun b s3 _ q3=>?_)
   refine Ok.gen (gV q3 (by omega) (by simp) (by simp)) (fun w s4 hw q4=>?_)
   refine Ok.gen (mF q4 (by omega) (by simp) (by simp)) (fun d s5 hd q5=>?_)
   have DC:=Cv (lo:=0) (hi:=2) hd (by decide)
   dsimp only
   refine Ok.idx DC.1 (by simp;omega) (fun v _ hv=>?_)
   refine Ok.app (by simp;omega) ?_
   refine nx hi q5 (by omega) ?_
   have hvw:v.Words.length≤100000:=by
    simp only [List.mem_cons,List.not_mem_nil,or_false] at hv
    rcases hv with rfl | rfl | rfl
    ·simp
    ·simp
    ·exact qV hw (by decide)
   have h:=S8.snoc (t:=⟨nm,v⟩) h2 Nw hvw
   exact ⟨Nat.le_trans h.1 (by omega),h.2⟩
  ·exact nx hi q1 (by omega) ⟨Nat.le_trans h2.1 (by omega),h2.2⟩
 ·refine Ok.inr ?_
  exact (PY key v2 v3 v4 v5 tg pr ht ⟨Nat.le_trans h2.1 (by omega),h2.2⟩ L n (K - 10) (h1.less (by omega)) (by omega)).mono (fun r hr=>⟨hr.1,hr.2.less (by omega)⟩)
theorem Yc {s:wc} {K:Int} (key:ai) (hs:og s K) (hK:30≤K):ru (uq s key) (K - 30) BC:=by
 refine ru.of ?_
 unfold uq
 refine Ok.gen (gV hs (by omega) (by simp) (by simp)) (fun v2 s1 _ q1=>?_)
 refine Ok.gen (gV q1 (by omega) (by simp) (by simp)) (fun v3 s2 _ q2=>?_)
 refine Ok.gen (tz q2 (by omega) (by omega) (by omega)) (fun v4 s3 _ q3=>?_)
 refine Ok.gen (mF q3 (by omega) (by simp) (by simp)) (fun v5 s4 _ q4=>?_)
 dsimp only
 unfold zc
 refine Ok.iter (fun x:(List Int)×Int×(List jm)×Int=>(2 - x.2.2.2).toNat) (fun x=>(0≤x.2.2.2∧x.2.2.2≤2)∧og ⟨x.1,x.2.1⟩ (K - 4 - 2 * x.2.2.2)∧Qm x.2.2.2.toNat x.2.2.1) ?_ _ ⟨by simp,q4.less (by simp;omega),by simp,fun p h=>(by cases h)⟩
 rintro ⟨L,n,tg,i⟩ ⟨h0,h1,h2⟩
 dsimp only at h0 h1 h2 ⊢
 have w1:cd (i+1)=i+1:=bb (by omega) (by omega)
 have Qy:=h2.1
 unfold oS
 have nx:∀ {L':List Int} {n':Int} {tg':List jm} {K':Int},i < 2→og ⟨L',n'⟩ K'→K - 4 - 2 * (i+1)≤K'→Qm (i+1).toNat tg'→Ok (mb i L' n' tg') (Wm (fun x:(List Int)×Int×(List jm)×Int=>(2 - x.2.2.2).toNat) (fun x=>(0≤x.2.2.2∧x.2.2.2≤2)∧og ⟨x.1,x.2.1⟩ (K - 4 - 2 * x.2.2.2)∧Qm x.2.2.2.toNat x.2.2.1) (fun r=>BC r.1∧og r.2 (K - 30)) (L,n,tg,i)):=by
  intro L' n' tg' K' g1 g2 g3 g4
  unfold mb
  rw [w1]
  exact Ok.ret ⟨⟨⟨by dsimp only;omega,by dsimp only;omega⟩,g2.less (by dsimp only;omega),g4⟩,by dsimp only;omega⟩
 split
 ·rename_i hi
  have hi:i < 2:=by simpa using hi
  refine Ok.idx h0.1 (by simpa using hi) (fun nm _ Nw=>?_)
  have Nw:nm.length≤100000:=qV Nw (by decide)
  refine Ok.gen (tA h1 (by omega) (by omega) (by omega)) (fun c s1 _ q1=>?_)
  dsimp only
  split
  ·refine Ok.gen (gV q1 (by omega) (by simp) (by simp)) (fun w s2 hw q2=>?_)
   refine Ok.app (by simp;omega) ?_
   refine nx hi q2 (by omega) ?_
   have h:=Qm.snoc (t:=⟨nm,w⟩) h2 Nw (qV hw (by decide))
   exact ⟨Nat.le_trans h.1 (by omega),h.2⟩
  ·exact nx hi q1 (by omega) ⟨Nat.le_trans h2.1 (by omega),h2.2⟩
 ·refine Ok.inr ?_
  exact (PZ key (v2,s1) (v3,s2) (v4,s3) (v5,s4) tg ⟨Nat.le_trans h2.1 (by omega),h2.2⟩ L n (K - 8) (h1.less (by omega)) (by omega)).mono (fun r hr=>⟨hr.1,hr.2.less (by omega)⟩)
theorem Nq {s:wc} {K:Int} (hs:og s K) (hK:130≤K):ru (nn s) (K - 130) (fun l=>l.length≤4∧∀ x∈l,BC x):=by
 refine ru.of ?_
 unfold nn vA
 refine Ok.iter (fun x:(List Int)×Int×(List aL)×Int=>(4 - x.2.2.2).toNat) (fun x=>(0≤x.2.2.2∧x.2.2.2≤4)∧og ⟨x.1,x.2.1⟩ (K - 31 * x.2.2.2)∧x.2.2.1.length≤x.2.2.2.toNat∧∀ y∈x.2.2.1,BC y) ?_ _ ⟨by simp,by simpa using hs,by simp,fun p h=>(by cases h)⟩
 rintro ⟨L,n,l,i⟩ ⟨h0,h1,h2,h3⟩
 dsimp only at h0 h1 h2 h3 ⊢
 have w1:cd (i+1)=i+1:=bb (by omega) (by omega)
 unfold kA
 have nx:∀ {L':List Int} {n':Int} {l':List aL} {K':Int},i < 4→og ⟨L',n'⟩ K'→K - 31 * (i+1)≤K'→l'.length≤(i+1).toNat→(∀ y∈l',BC y)→Ok (iA i L' n' l') (Wm (fun x:(List Int)×Int×(List aL)×Int=>(4 - x.2.2.2).toNat) (fun x=>(0≤x.2.2.2∧x.2.2.2≤4)∧og ⟨x.1,x.2.1⟩ (K - 31 * x.2.2.2)∧x.2.2.1.length≤x.2.2.2.toNat∧∀ y∈x.2.2.1,BC y) (fun r=>(r.1.length≤4∧∀ x∈r.1,BC x)∧og r.2 (K - 130)) (L,n,l,i)):=by
  intro L' n' l' K' g1 g2 g3 g4 g5
  unfold iA
  rw [w1]
  exact Ok.ret ⟨⟨⟨by dsimp only;omega,by dsimp only;omega⟩,g2.less (by dsimp only;omega),g4,g5⟩,by dsimp only;omega⟩
 split
 ·rename_i hi
  have hi:i < 4:=by simpa using hi
  refine Ok.idx h0.1 (by simpa using hi) (fun nm _ Nw=>?_)
  refine Ok.gen (tA h1 (by omega) (by omega) (by omega)) (fun c s1 _ q1=>?_)
  dsimp only
  split
  ·refine Ok.gen (Yc nm q1 (by omega)) (fun x s2 hx q2=>?_)
   refine Ok.app (by simp;omega) ?_
   refine nx hi q2 (by omega) (by simp;omega) (fun y hy=>?_)
   rcases List.mem_append.1 hy with k | k
   ·exact h3 y k
   ·rw [List.mem_singleton.1 k];exact hx
  ·exact nx hi q1 (by omega) (by omega) h3
 ·exact Ok.inr (Ok.ret ⟨⟨by dsimp only;omega,h3⟩,h1.less (by omega)⟩)
theorem Gy {α β:Type} (p:α→Bool) (g:α→β):∀ (l:List α) (acc:List β),l.foldl (fun acc x=>if p x=true then acc++[g x] else acc) acc=acc++(l.filter p).map g
 | [],acc=>by simp
 | x :: r,acc=>by
   rw [List.foldl_cons,Gy p g r,List.filter_cons]
   cases p x<;>simp
section
variable {o:aW} (hb:mY o) (hr:Bw o) {v:aq} (hv:AW v o) (ha:AtR v o) (h0:v.cr=[]) (hc:dp o=some (some v,0))
include hb hr hv ha h0 hc
theorem OE (u act:ai) (x:aL) (at_:Int) (Z:List Reason) (h:Z.Perm (rwL o u act x at_)):decide ((0:Int) < (Z.length:Int))=decide (u∈Ax o act x at_):=by
 rw [decide_eq_decide,S6]
 have:=h.length_eq
 have h2:=(VB hr u act x at_).length_eq
 constructor
 ·intro k hn
  rw [hn] at h2
  simp at h2;omega
 ·intro k
  have:=List.length_pos_iff.2 k
  omega
end
theorem Yd {s:wc} {K:Int} (hs:og s K) (hK:4≤K):ru (ur s) (K - 4) (fun _=>True):=by
 refine ru.of ?_
 unfold ur
 refine Ok.gen (tz hs (by omega) (by omega) (by omega)) (fun v1 s1 _ q1=>?_)
 refine Ok.gen (tz q1 (by omega) (by omega) (by omega)) (fun v2 s2 _ q2=>?_)
 refine Ok.gen (mF q2 (by omega) (by simp) (by simp)) (fun v3 s3 _ q3=>?_)
 refine Ok.gen (mF q3 (by omega) (by simp) (by simp)) (fun v4 s4 _ q4=>?_)
 exact Ok.ret ⟨trivial,q4.less (by omega)⟩
theorem VD {n:Int} (h0:0≤n) (h1:n≤100000) (z:ai):mkS z n n=some (List.replicate n.toNat z):=by
 unfold mkS
 rw [if_pos (by omega)]
theorem VE (n:Int) (h0:0≤n) (h1:n≤100000):ec n=some []:=by
 unfold ec dM
 have e:cd (n - cd ((0:Int) - 0))=n:=by
  rw [show cd ((0:Int) - 0)=0 by decide,bb (by omega) (by omega)];omega
 rw [if_neg (by omega),e]
 by_cases c:0 < n
 ·rw [if_pos c,VD h0 h1,show BN ([]:List ai) (0:Int) (0:Int)=some [] from rfl]
  simp only [Option.bind_some]
  rw [wX (by omega) (by omega) (by omega)]
  simp
 ·rw [if_neg c]
theorem VG (a b:List ai) (h:a.length+b.length≤1000):eQ [a,b]=some (a++b):=by
 unfold eQ mq
 have s1:∀ n m:Int,0≤n→n≤1000→(m=0∨m=1)→cI [a,b] n m=some (.inl (n+(if m=0 then a.length else b.length),m+1)):=by
  intro n m h0 h1 hm
  unfold cI
  rcases hm with rfl | rfl
  ·rw [if_pos (by simp),show idx [a,b] 0=some a from rfl]
   simp only [Option.bind_some]
   rw [bb (by omega) (by omega),if_neg (by omega),bb (by omega) (by omega)];rfl
  ·rw [if_pos (by simp),show idx [a,b] 1=some b from rfl]
   simp only [Option.bind_some]
   rw [bb (by omega) (by omega),if_neg (by omega),bb (by omega) (by omega)];rfl
 rw [iter_eq]
 dsimp only
 rw [s1 0 0 (by omega) (by omega) (.inl rfl)]
 simp only [Option.bind_some,du]
 rw [iter_eq]
 dsimp only
 rw [s1 _ _ (by simp) (by simp;omega) (.inr (by omega))]
 simp only [Option.bind_some,du]
 rw [iter_eq]
 dsimp only
 unfold cI
 rw [if_neg (by simp),cy]
 unfold iF
 rw [VE _ (by simp;omega) (by simp;omega)]
 simp only [Option.bind_some]
 have b2a:bJ [a,b] [] 0=some (.inl (a,1)):=by
  unfold bJ
  rw [if_pos (by simp),show idx [a,b] 0=some a from rfl]
  simp only [Option.bind_some]
  rw [mD (by simp;omega)];rfl
 have b2b:bJ [a,b] a 1=some (.inl (a++b,2)):=by
  unfold bJ
  rw [if_pos (by simp),show idx [a,b] 1=some b from rfl]
  simp only [Option.bind_some]
  rw [mD (by omega)];rfl
 have b2c:bJ [a,b] (a++b) 2=some (.inr (a++b)):=by
  unfold bJ
  rw [if_neg (by simp)];rfl
 unfold mo
 rw [iter_eq]
 dsimp only
 rw [b2a]
 simp only [Option.bind_some,du]
 rw [iter_eq]
 dsimp only
 rw [b2b]
 simp only [Option.bind_some,du]
 rw [iter_eq]
 dsimp only
 rw [b2c]
 rfl
theorem ab8 {i j:Int} (h0:0≤i) (h1:i < j) (h2:j≤1000000):cd (GS .u64 (IntKind.u64.wrap (cd (i+j))) (1:Int))=(i+j) / 2:=by
 have e1:cd (i+j)=i+j:=bb (by omega) (by omega)
 have e2:IntKind.u64.wrap (i+j)=i+j:=u64_in (by omega) (by omega)
 rw [e1,e2]
 have e3:GS .u64 (i+j) 1=(i+j) / 2:=by
  show (i+j).fdiv 2=_
  rw [Int.fdiv_eq_ediv_of_nonneg _ (by omega)]
 rw [e3,bb]<;>omega
theorem S9 {α:Type} {R:α→α→Prop} {l:List α} (h:l.Pairwise R) {i j:Int} {x y:α} (h0:0≤i) (h1:i < j) (hx:idx l i=some x) (hy:idx l j=some y):R x y:=by
 obtain ⟨_,_,g1⟩:=oK hx
 obtain ⟨_,_,g2⟩:=oK hy
 rw [List.getElem?_eq_some_iff] at g1 g2
 obtain ⟨k1,e1⟩:=g1
 obtain ⟨k2,e2⟩:=g2
 rw [← e1,← e2]
 exact List.pairwise_iff_getElem.1 h _ _ k1 k2 (by omega)
theorem VH (a b:ai):cmp_Less_string a b=decide (Lib.compareBytes a b < 0):=by
 have e:cmp_Less_string a b=Op.bytesLess a b:=by
  unfold cmp_Less_string mR cmp_isNaN_string
  rw [if_neg (by simp)]
 rw [e,vQ]
theorem ab9 (a:ai):fy a=false:=by unfold fy;simp
theorem abA (l:List ai) (hl:l.length≤100000) (hu:SS l) (s:ai):∃ n,cL l s=some (n,decide (s∈l)):=by
 have key:∃ r,cL l s=some r∧r.2=decide (s∈l):=by
  unfold cL jx
  refine Lo _ (fun s:Int×Int=>(s.2 - s.1).toNat) (fun q:Int×Int=>0≤q.1∧q.1≤q.2∧q.2≤l.length∧(∀ j x,0≤j→j < q.1→idx l j=some x→Lib.compareBytes x s < 0)∧(∀ j x,q.2≤j→idx l j=some x→¬ Lib.compareBytes x s < 0)) _ ?_ _ ⟨by simp,by simp,by simp,fun j x h0 h1=>by simp only at h1;omega,fun j x h0 h1=>by simp only at h0;have:=(oK h1);omega⟩
  rintro ⟨i,j⟩ ⟨h0,h1,h2,h3,h4⟩
  simp only at h0 h1 h2 h3 h4 ⊢
  unfold cW
  by_cases E6:i < j
  ·rw [if_pos E6,ab8 h0 E6 (by omega)]
   obtain ⟨y,hy,_,_⟩:=iq l (i:=(i+j) / 2) (by omega) (by omega)
   simp only [hy,Option.bind_some]
   rw [VH]
   unfold cV
   left
   by_cases hc:Lib.compareBytes y s < 0
   ·rw [if_pos (decide_eq_true hc),bb (by omega) (by omega)]
    refine ⟨_,rfl,⟨by simp only;omega,by simp only;omega,by simp only;omega,fun k x g0 g1 hx=>?_,h4⟩,by simp only;omega⟩
    simp only at g1
    by_cases hk:k=(i+j) / 2
    ·subst hk;rw [hx] at hy;obtain rfl:=Option.some.inj hy;exact hc
    ·exact yg (S9 hu g0 (show k < (i+j) / 2 by omega) hx hy) hc
   ·rw [if_neg (by simpa using hc)]
    refine ⟨_,rfl,⟨by simp only;omega,by simp only;omega,by simp only;omega,h3,fun k x g0 hx=>?_⟩,by simp only;omega⟩
    simp only at g0
    by_cases hk:k=(i+j) / 2
    ·subst hk;rw [hx] at hy;obtain rfl:=Option.some.inj hy;exact hc
    ·intro lV
     exact hc (yg (S9 hu (show 0≤(i+j) / 2 by omega) (show (i+j) / 2 < k by omega) hy hx) lV)
  ·rw [if_neg E6]
   right
   have:j=i:=by omega
   subst this
   have no:s∈l→idx l j=some s:=by
    intro hp
    obtain ⟨n,hn,hx⟩:=List.getElem_of_mem hp
    have hi:idx l (n:Int)=some s:=by
     obtain ⟨z,hz,_,_⟩:=iq l (i:=(n:Int)) (by omega) (by omega)
     have:=(oK hz).2.2
     simp [hn] at this
     rw [hz,← this,hx]
    have Ox:Lib.compareBytes s s=0:=mE s
    rcases Int.lt_trichotomy (n:Int) j with c | c | c
    ·have:=h3 n s (by omega) c hi;omega
    ·rw [← c];exact hi
    ·obtain ⟨z,hz,_,_⟩:=iq l h0 (by omega)
     have a1:=h4 j z (by omega) hz
     have a2:=S9 hu h0 c hz hi
     exact absurd a2 a1
   unfold fA cw
   split
   ·rename_i lV
    obtain ⟨y,hy,hym,_⟩:=iq l h0 lV
    simp only [hy,Option.bind_some]
    by_cases hc:y=s
    ·rw [if_pos hc]
     exact ⟨_,rfl,by subst hc;simp [hym]⟩
    ·rw [if_neg hc]
     refine ⟨_,rfl,?_⟩
     simp only [ab9,Bool.false_and]
     symm
     rw [decide_eq_false_iff_not]
     intro hm
     have:=no hm
     rw [hy] at this
     exact hc (Option.some.inj this)
   ·rename_i lV
    refine ⟨_,rfl,?_⟩
    simp only
    symm
    rw [decide_eq_false_iff_not]
    intro hm
    have:=(oK (no hm))
    omega
 obtain ⟨⟨n,c⟩,h1,h2⟩:=key
 exact ⟨n,by rw [h1];simp only at h2;rw [h2]⟩
def VI (act dev:ai) (hv nt:List ai):List aB:=(hv.filter (fun u=>!decide (u∈nt))).map (fun u=>(⟨u,act,dev⟩:aB))
theorem Iw (out:List aB) (hv nt:List ai) (act dev:ai) (h1:SS nt) (hl:nt.length≤100000) (hh:hv.length≤100000) (ho:out.length≤100000):
 jg out hv nt act dev=some (out++VI act dev hv nt):=by
 unfold jg uw
 rw [de hv (fun (s:List aB) (i:Int)=>(s,i)) (fun x=>dH hv nt act dev x.1 x.2) (fun s u=>if (!decide (u∈nt))=true then s++[(⟨u,act,dev⟩:aB)] else s) (fun i s=>(s.length:Int)≤100000+i) (fun s=>some s) ?_ ?_ out (by omega),Gy]
 ·rfl
 ·intro s i u g0 g1 hi hI
  show dH hv nt act dev s i=_∧_
  unfold dH
  rw [if_pos g1,hi]
  simp only [Option.bind_some]
  obtain ⟨n,hn⟩:=abA nt hl h1 u
  rw [hn]
  simp only [Option.bind_some]
  unfold iW
  by_cases c:u∈nt
  ·rw [if_neg (by simp [c]),if_neg (by simp [c]),bb (by omega) (by omega)]
   exact ⟨rfl,by omega⟩
  ·rw [if_pos (by simp [c]),if_pos (by simp [c]),mD (by simp;omega)]
   simp only [Option.bind_some]
   rw [bb (by omega) (by omega)]
   exact ⟨rfl,by simp;omega⟩
 ·intro s hI
  show dH hv nt act dev s _=_
  unfold dH
  rw [if_neg (by omega)]
theorem JJ (o:aW) (act:ai) (x:aL) (at_:Int):SS (Ax o act x at_):=(Oy _ (CE _)).1
theorem LZ {o:aW} {act:ai} {x:aL} {at_:Int} {u:ai} (h:u∈Ax o act x at_):u∈o.aG.map (·.ek):=by
 rw [S6] at h
 obtain ⟨r,WV⟩:=List.exists_mem_of_ne_nil _ h
 obtain ⟨h1,h2⟩:=List.mem_filter.1 WV
 obtain ⟨m,WG⟩:=EM h1
 rw [JG WG] at h2
 refine List.mem_map.2 ⟨m,gw WG,?_⟩
 have:Wt o r.aQ=m.ek:=by unfold Wt;rw [WG];rfl
 rw [← this];simpa using h2
theorem JK {o:aW} (hb:mY o) (act:ai) (x:aL) (at_:Int):(Ax o act x at_).length≤200:=by
 have h:=Bs (OD (JJ o act x at_)) (fun u hu=>LZ hu)
 rw [List.length_map] at h
 exact Nat.le_trans h hb.mem
theorem tB {α β:Type} (f:α→List β) (k:Nat):∀ l:List α,(∀ x∈l,(f x).length≤k)→(l.flatMap f).length≤l.length * k
 | [],_=>by simp
 | x :: r,h=>by
   have h1:=h x (by simp)
   have h2:=tB f k r (fun y hy=>h y (by simp [hy]))
   rw [List.flatMap_cons,List.length_append,List.length_cons,Nat.succ_mul]
   omega
noncomputable def TH (a b:aW) (act:ai) (at_:Int) (x:aL):List aB:=VI act x.Device.Key (Ax b act x at_) (Ax a act x at_)
theorem JL {a b:aW} (hb:mY b) (act:ai) (at_:Int) (x:aL):(TH a b act at_ x).length≤200:=by
 unfold TH VI
 rw [List.length_map]
 exact Nat.le_trans (List.length_filter_le _ _) (JK hb act x at_)
noncomputable def Ab (a b:aW) (at_:Int) (l:List aL) (act:ai):List aB:=l.flatMap (TH a b act at_)
theorem Ac {a b:aW} (hb:mY b) (at_:Int) (l:List aL) (hl:l.length≤4) (act:ai):(Ab a b at_ l act).length≤800:=by
 have:=tB (TH a b act at_) 200 l (fun x _=>JL hb act at_ x)
 unfold Ab
 have h2:=Nat.mul_le_mul_right 200 hl
 omega
section
variable {a:aW} (CO:mY a) (hra:Bw a) {v:aq} (Ye:AW v a) (Yf:AtR v a) {b:aW} (Dq:mY b) (hrb:Bw b) {w:aq} (Yg:AW w b) (Ff:AtR w b)
include CO hra Ye Yf Dq hrb Yg Ff
theorem Yh (l:List aL) (hl:l.length≤4) (at_:Int) (act:ai) (qx:act.length≤1000000)
 (ZG:∀ x∈l,∀ s∈a.aK,eO s.Query x=some (mB s.Query x)) (ZH:∀ x∈l,∀ s∈b.aK,eO s.Query x=some (mB s.Query x))
 (n:Int) (hn:0≤n∧n≤1000) (fa fb:List (aN×List Int)) (hfa:FM a fa) (XW:FM b fb) (more less:List aB) (TL:more.length≤4000) (hm2:less.length≤4000):
 ∃ Yi Yj,FM a Yi∧FM b Yj∧oz l at_ v w n act v.aW.ao v.aW.bd v.aW.aG v.aW.aK v.aT v.bU v.at_ fa w.aW.ao w.aW.bd w.aW.aG w.aW.aK w.aT w.bU w.at_ fb more less 0=some (.inl (v.aW.ao,v.aW.bd,v.aW.aG,v.aW.aK,v.aT,v.bU,v.at_,Yi,w.aW.ao,w.aW.bd,w.aW.aG,w.aW.aK,w.aT,w.bU,w.at_,Yj,more++Ab a b at_ l act,less++Ab b a at_ l act,n+1)):=by
 have key:Ok (oz l at_ v w n act v.aW.ao v.aW.bd v.aW.aG v.aW.aK v.aT v.bU v.at_ fa w.aW.ao w.aW.bd w.aW.aG w.aW.aK w.aT w.bU w.at_ fb more less 0) (fun r=>∃ Yi Yj,FM a Yi∧FM b Yj∧r=.inl (v.aW.ao,v.aW.bd,v.aW.aG,v.aW.aK,v.aT,v.bU,v.at_,Yi,w.aW.ao,w.aW.bd,w.aW.aG,w.aW.aK,w.aT,w.bU,w.at_,Yj,more++Ab a b at_ l act,less++Ab b a at_ l act,n+1)):=by
  unfold oz
  refine Ok.Bo l.length (fun (s:List (aN×List Int)×List (aN×List Int)×List aB×List aB) (i:Int)=>(v.aW.ao,v.aW.bd,v.aW.aG,v.aW.aK,v.aT,v.bU,v.at_,s.1,w.aW.ao,w.aW.bd,w.aW.aG,w.aW.aK,w.aT,w.bU,w.at_,s.2.1,s.2.2.1,s.2.2.2,i)) (fun i s=>FM a s.1∧FM b s.2.1∧s.2.2.1=more++Ab a b at_ (l.take i.toNat) act∧s.2.2.2=less++Ab b a at_ (l.take i.toNat) act) (fun s i g0 g1 hI=>?_) (fa,fb,more,less) ⟨hfa,XW,by simp [Ab],by simp [Ab]⟩
  obtain ⟨ga,gb,m1,m2⟩:=s
  obtain ⟨k1,k2,k3,k4⟩:=hI
  dsimp only at k1 k2 k3 k4 ⊢
  have tl:(l.take i.toNat).length≤4:=by rw [List.length_take];omega
  have L1:m1.length≤4800:=by rw [k3,List.length_append];have:=Ac (a:=a) Dq at_ _ tl act;omega
  have L2:m2.length≤4800:=by rw [k4,List.length_append];have:=Ac (a:=b) CO at_ _ tl act;omega
  unfold lh
  split
  ·rename_i hi
   refine Ok.idx g0 hi (fun x hx Mt=>?_)
   obtain ⟨ga',e1,k1'⟩:=LW CO hra Ye Yf ga k1 act qx x at_ (ZG x Mt)
   obtain ⟨gb',e2,k2'⟩:=LW Dq hrb Yg Ff gb k2 act qx x at_ (ZH x Mt)
   rw [show (⟨(⟨v.aW.ao,v.aW.bd,v.aW.aG,v.aW.aK⟩:aW),v.aT,v.bU,v.at_,ga,v.dw⟩:aq)=VF v ga from rfl,e1]
   simp only [Option.bind_some]
   rw [show (⟨(⟨w.aW.ao,w.aW.bd,w.aW.aG,w.aW.aK⟩:aW),w.aT,w.bU,w.at_,gb,w.dw⟩:aq)=VF w gb from rfl,e2]
   simp only [Option.bind_some]
   have z1:=JK CO act x at_
   have z2:=JK Dq act x at_
   rw [Iw m1 _ _ act x.Device.Key (JJ a act x at_) (by omega) (by omega) (by omega)]
   simp only [Option.bind_some]
   rw [Iw m2 _ _ act x.Device.Key (JJ b act x at_) (by omega) (by omega) (by omega)]
   simp only [Option.bind_some]
   have y1:=JL (a:=a) Dq act at_ x
   have y2:=JL (a:=b) CO act at_ x
   unfold TH at y1 y2
   unfold oy
   have n1:¬ ((5000:Int) < ((m1++VI act x.Device.Key (Ax b act x at_) (Ax a act x at_)).length:Int)):=by rw [List.length_append];omega
   have n2:¬ ((5000:Int) < ((m2++VI act x.Device.Key (Ax a act x at_) (Ax b act x at_)).length:Int)):=by rw [List.length_append];omega
   rw [if_neg (by rw [decide_eq_false n1,decide_eq_false n2];simp),bb (by omega) (by omega)]
   have ht:=take_succ g0 hx
   refine Ok.ret (.inl ⟨(ga',gb',m1++VI act x.Device.Key (Ax b act x at_) (Ax a act x at_),m2++VI act x.Device.Key (Ax a act x at_) (Ax b act x at_)),rfl,hi,k1',k2',?_,?_⟩)
   ·dsimp only
    rw [ht,k3]
    unfold Ab
    rw [List.flatMap_append,List.append_assoc]
    simp [TH]
   ·dsimp only
    rw [ht,k4]
    unfold Ab
    rw [List.flatMap_append,List.append_assoc]
    simp [TH]
  ·have ht:l.take i.toNat=l:=List.take_of_length_le (by omega)
   rw [ht] at k3 k4
   rw [bb (by omega) (by omega)]
   exact Ok.inr (Ok.ret (.inr ⟨_,rfl,ga,gb,k1,k2,by rw [k3,k4]⟩))
 obtain ⟨r,h1,Yi,Yj,h2,h3,rfl⟩:=key
 exact ⟨Yi,Yj,h2,h3,h1⟩
theorem Yk (bS:List ai) (BD:bS.length≤2) (qx:∀ s∈bS,s.length≤1000000) (l:List aL) (hl:l.length≤4) (at_:Int)
 (ZG:∀ x∈l,∀ s∈a.aK,eO s.Query x=some (mB s.Query x)) (ZH:∀ x∈l,∀ s∈b.aK,eO s.Query x=some (mB s.Query x))
 (fa fb:List (aN×List Int)) (hfa:FM a fa) (XW:FM b fb) (r0:List aB×List aB×Int) (h0:lj (bS.flatMap (Ab a b at_ l)) (bS.flatMap (Ab b a at_ l))=some r0):
 oA bS l at_ v w v.aW.ao v.aW.bd v.aW.aG v.aW.aK v.aT v.bU v.at_ fa w.aW.ao w.aW.bd w.aW.aG w.aW.aK w.aT w.bU w.at_ fb [] [] 0=some r0:=by
 have key:Ok (oA bS l at_ v w v.aW.ao v.aW.bd v.aW.aG v.aW.aK v.aT v.bU v.at_ fa w.aW.ao w.aW.bd w.aW.aG w.aW.aK w.aT w.bU w.at_ fb [] [] 0) (fun r=>r=r0):=by
  unfold oA
  refine Ok.Bo bS.length (fun (s:List (aN×List Int)×List (aN×List Int)×List aB×List aB) (i:Int)=>(v.aW.ao,v.aW.bd,v.aW.aG,v.aW.aK,v.aT,v.bU,v.at_,s.1,w.aW.ao,w.aW.bd,w.aW.aG,w.aW.aK,w.aT,w.bU,w.at_,s.2.1,s.2.2.1,s.2.2.2,i)) (fun i s=>FM a s.1∧FM b s.2.1∧s.2.2.1=(bS.take i.toNat).flatMap (Ab a b at_ l)∧s.2.2.2=(bS.take i.toNat).flatMap (Ab b a at_ l)) (fun s i g0 g1 hI=>?_) (fa,fb,[],[]) ⟨hfa,XW,by simp,by simp⟩
  obtain ⟨ga,gb,m1,m2⟩:=s
  obtain ⟨k1,k2,k3,k4⟩:=hI
  dsimp only at k1 k2 k3 k4 ⊢
  have tl:(bS.take i.toNat).length≤2:=by rw [List.length_take];omega
  have tm:=Nat.mul_le_mul_right 800 tl
  have L1:m1.length≤4000:=by rw [k3];have:=tB (Ab a b at_ l) 800 (bS.take i.toNat) (fun x _=>Ac Dq at_ l hl x);omega
  have L2:m2.length≤4000:=by rw [k4];have:=tB (Ab b a at_ l) 800 (bS.take i.toNat) (fun x _=>Ac CO at_ l hl x);omega
  unfold ll
  split
  ·rename_i hi
   refine Ok.idx g0 hi (fun act hx Mt=>?_)
   obtain ⟨ga',gb',k1',k2',e⟩:=Yh CO hra Ye Yf Dq hrb Yg Ff l hl at_ act (qx act Mt) ZG ZH i ⟨g0,by omega⟩ ga gb k1 k2 m1 m2 L1 L2
   rw [e]
   have ht:=take_succ g0 hx
   refine Ok.ret (.inl ⟨(ga',gb',m1++Ab a b at_ l act,m2++Ab b a at_ l act),rfl,hi,k1',k2',?_,?_⟩)
   ·dsimp only
    rw [ht,k3,List.flatMap_append]
    simp
   ·dsimp only
    rw [ht,k4,List.flatMap_append]
    simp
  ·have ht:bS.take i.toNat=bS:=List.take_of_length_le (by omega)
   rw [ht] at k3 k4
   rw [k3,k4,h0]
   exact Ok.ret (.inr ⟨r0,rfl,rfl⟩)
 obtain ⟨r,h1,rfl⟩:=key
 exact h1
end
def yL (a b:aB):Int:=if Lib.compareBytes a.ek b.ek≠0 then Lib.compareBytes a.ek b.ek else if Lib.compareBytes a.Act b.Act≠0 then Lib.compareBytes a.Act b.Act else Lib.compareBytes a.Device b.Device
theorem JM:zu yL:=(Dh.on (fun r:aB=>r.ek)).lex ((Dh.on (fun r:aB=>r.Act)).lex (Dh.on (fun r:aB=>r.Device)))
theorem VJ {a b:aB} (h1:¬ yL a b < 0) (h2:¬ yL b a < 0):a=b:=by
 have h0:yL a b=0:=by have:=JM.neg a b;omega
 unfold yL at h0
 by_cases c:Lib.compareBytes a.ek b.ek=0
 ·rw [if_neg (fun k=>k c)] at h0
  by_cases d:Lib.compareBytes a.Act b.Act=0
  ·rw [if_neg (fun k=>k d)] at h0
   cases a;cases b
   simp only at c d h0
   rw [j5 c,j5 d,j5 h0]
  ·rw [if_pos d] at h0;exact absurd h0 d
 ·rw [if_pos c] at h0;exact absurd h0 c
theorem Nr (a b:aB):dq a b=some (yL a b):=by
 unfold dq
 rw [show gh [Lib.compareBytes a.ek b.ek,Lib.compareBytes a.Act b.Act,Lib.compareBytes a.Device b.Device]=some (tw [Lib.compareBytes a.ek b.ek,Lib.compareBytes a.Act b.Act,Lib.compareBytes a.Device b.Device]) from zp _ (by simp)]
 simp only [Option.bind_some]
 unfold yL
 by_cases c:Lib.compareBytes a.ek b.ek=0
 ·rw [if_neg (fun k=>k c),c,sW]
  by_cases d:Lib.compareBytes a.Act b.Act=0
  ·rw [if_neg (fun k=>k d),d,sW,EN]
  ·rw [if_pos d,CH d]
 ·rw [if_pos c,CH c]
theorem Wv (X:List aB) (hl:X.length≤100000):∃ Z,pX X.length (fun r:List aB=>r.length) (bM X (fun y0 y1=>dq y0 y1))=some Z∧Z.Perm X∧TB yL Z:=by
 obtain ⟨Z,h1,h2,h3⟩:=Lk (fun y0 y1=>dq y0 y1) yL X hl (fun a _ b _=>Nr a b) (JM.ord X)
 exact ⟨Z,Sk (show bM X (fun y0 y1=>dq y0 y1)=some Z from h1) h2.length_eq,h2,h3⟩
theorem yk {α β γ:Type} (f:β→α→β) (g:γ→α→γ):∀ (l:List α) (b:β) (c:γ),l.foldl (fun (s:β×γ) x=>(f s.1 x,g s.2 x)) (b,c)=(l.foldl f b,l.foldl g c)
 | [],_,_=>rfl
 | x :: r,b,c=>by rw [List.foldl_cons,List.foldl_cons,List.foldl_cons];exact yk f g r _ _
theorem xI {α β:Type} (F:α→List β):∀ (l:List α) (acc:List β),l.foldl (fun acc x=>acc++F x) acc=acc++l.flatMap F
 | [],acc=>by simp
 | x :: r,acc=>by rw [List.foldl_cons,xI F r,List.flatMap_cons,List.append_assoc]
theorem abB (n:Int) (hn:0≤n∧n≤10) (o:aW) (hb:mY o) (acc:List ai) (ha:acc.length≤1000):x1 n o acc 0=some (.inl (acc++o.aG.map (·.ek),n+1)):=by
 have hm:=hb.mem
 unfold x1
 rw [de o.aG (fun (a:List ai) (i:Int)=>(a,i)) (fun y=>jF n o y.1 y.2) (fun a m=>a++[m.ek]) (fun i a=>(a.length:Int)≤1000+i) (fun a=>some (.inl (a,n+1))) ?_ ?_ acc (by omega),foldl_map]
 ·intro a i m g0 g1 hi hI
  show jF n o a i=_∧_
  unfold jF
  rw [if_pos g1,hi]
  simp only [Option.bind_some]
  rw [mD (by simp;omega)]
  simp only [Option.bind_some]
  rw [bb (by omega) (by omega)]
  exact ⟨rfl,by simp;omega⟩
 ·intro a hI
  show jF n o a _=_
  unfold jF
  rw [if_neg (by omega),bb (by omega) (by omega)]
noncomputable def GK (a b:aW):List ai:=dd Lm (Kx (a.aG.map (·.ek)++b.aG.map (·.ek)))
theorem Ta {a b:aW} (CO:mY a) (Dq:mY b):xx [a,b]=some (GK a b):=by
 have hma:=CO.mem
 have hmb:=Dq.mem
 unfold xx B8
 rw [de [a,b] (fun (s:List ai) (i:Int)=>(s,i)) (fun y=>jG [a,b] y.1 y.2) (fun acc o=>acc++o.aG.map (·.ek)) (fun i s=>(s.length:Int)≤200 * i) (fun s=>u6 s) ?_ ?_ [] (by simp)]
 ·simp only [List.foldl_cons,List.foldl_nil,List.nil_append]
  unfold u6 I8 gR
  have hl:(a.aG.map (·.ek)++b.aG.map (·.ek)).length≤400:=by rw [List.length_append,List.length_map,List.length_map];omega
  rw [mD (by simp only [List.length_nil];omega)]
  simp only [Option.bind_some,List.nil_append]
  rw [Wu _ (by omega)]
  simp only [Option.bind_some]
  rw [ab6 _ (by rw [(vk _).length_eq];omega)]
  rfl
 ·intro s i o g0 g1 hi hI
  have g1':i < 2:=by simpa using g1
  have ho:mY o:=by
   have:=gw hi
   simp at this
   rcases this with rfl | rfl
   ·exact CO
   ·exact Dq
  show jG [a,b] s i=_∧_
  unfold jG
  rw [if_pos g1,hi]
  simp only [Option.bind_some]
  rw [abB i ⟨g0,by omega⟩ o ho s (by omega)]
  refine ⟨rfl,?_⟩
  have:=ho.mem
  rw [List.length_append,List.length_map]
  omega
 ·intro s hI
  show jG [a,b] s _=_
  unfold jG
  rw [if_neg (by omega)]
theorem Ns (a b:aW):SS (GK a b):=(Oy _ (CE _)).1
theorem JN {a b:aW} (u:ai):u∈GK a b↔u∈a.aG.map (·.ek)∨u∈b.aG.map (·.ek):=by
 unfold GK
 rw [(Oy _ (CE _)).2,(vk _).mem_iff,List.mem_append]
theorem VK {a b:aW} (CO:mY a) (Dq:mY b):(GK a b).length≤400:=by
 have hma:=CO.mem
 have hmb:=Dq.mem
 unfold GK
 refine Nat.le_trans (XO _ _) ?_
 rw [(vk _).length_eq,List.length_append,List.length_map,List.length_map]
 omega
noncomputable def gP (a b:aW) (at_:Int) (u act:ai) (x:aL):Bool:=decide (u∈Ax b act x at_)&&!decide (u∈Ax a act x at_)
noncomputable def gX (a b:aW) (at_:Int) (l:List aL) (u act:ai):List aB:=(l.filter (gP a b at_ u act)).map (fun x=>(⟨u,act,x.Device.Key⟩:aB))
noncomputable def gU (a b:aW) (at_:Int) (l:List aL) (bS:List ai) (u:ai):List aB:=bS.flatMap (gX a b at_ l u)
def gS (p:aL→Bool) (u act:ai) (s:List aB) (x:aL):List aB:=if p x=true then s++[(⟨u,act,x.Device.Key⟩:aB)] else s
theorem OF (p:aL→Bool) (u act:ai) (l:List aL) (s:List aB):l.foldl (gS p u act) s=s++(l.filter p).map (fun x=>(⟨u,act,x.Device.Key⟩:aB)):=Gy p _ l s
theorem Nt (a b:aW) (at_:Int) (l:List aL) (u act:ai):(gX a b at_ l u act).length≤l.length:=by
 unfold gX
 rw [List.length_map]
 exact List.length_filter_le _ _
theorem Tb (a b:aW) (at_:Int) (l:List aL) (bS:List ai) (u:ai):(gU a b at_ l bS u).length≤bS.length * l.length:=tB _ _ _ (fun act _=>Nt a b at_ l u act)
section
variable {a b:aW} {l:List aL} (hl:l.length≤4) {at_:Int}
include hl
theorem abC (u act:ai) (n:Int) (hn:0≤n∧n≤1000) (G1 G2:List aB) (h1:G1.length≤100000) (h2:G2.length≤100000)
 (W:∀ x∈l,∃ Z1 Z2,oD a u act x at_=some Z1∧oD b u act x at_=some Z2∧decide ((0:Int) < (Z1.length:Int))=decide (u∈Ax a act x at_)∧decide ((0:Int) < (Z2.length:Int))=decide (u∈Ax b act x at_)):
 uK a b l at_ u n act G1 G2 0=some (.inl (G1++gX a b at_ l u act,G2++gX b a at_ l u act,n+1)):=by
 unfold uK
 rw [de l (fun (s:List aB×List aB) (i:Int)=>(s.1,s.2,i)) (fun x=>ie a b l at_ u n act x.1 x.2.1 x.2.2) (fun s x=>(gS (gP a b at_ u act) u act s.1 x,gS (gP b a at_ u act) u act s.2 x)) (fun i s=>(s.1.length:Int)≤100000+i∧(s.2.length:Int)≤100000+i) (fun s=>some (.inl (s.1,s.2,n+1))) ?_ ?_ (G1,G2) ⟨by dsimp only;omega,by dsimp only;omega⟩,yk (gS (gP a b at_ u act) u act) (gS (gP b a at_ u act) u act),OF,OF]
 ·rfl
 ·rintro ⟨s1,s2⟩ i x g0 g1 hi ⟨j1,j2⟩
  dsimp only at j1 j2 ⊢
  unfold ie
  rw [if_pos g1,hi]
  simp only [Option.bind_some]
  obtain ⟨Z1,Z2,e1,e2,e3,e4⟩:=W x (gw hi)
  rw [e1]
  simp only [Option.bind_some]
  rw [e2]
  simp only [Option.bind_some]
  have k1:(decide ((0:Int) < (Z2.length:Int))&&decide (¬ ((0:Int) < (Z1.length:Int))))=gP a b at_ u act x:=by
   unfold gP
   rw [decide_not,e3,e4]
  have k2:(decide ((0:Int) < (Z1.length:Int))&&decide (¬ ((0:Int) < (Z2.length:Int))))=gP b a at_ u act x:=by
   unfold gP
   rw [decide_not,e3,e4]
  rw [k1]
  have jj2:∀ s1':List aB,kS u act s2 i x Z1 Z2 s1'=some (.inl (s1',gS (gP b a at_ u act) u act s2 x,i+1)):=by
   intro s1'
   unfold kS
   rw [k2]
   unfold qL nF gS
   rw [bb (by omega) (by omega)]
   cases gP b a at_ u act x with
   | true=>
     rw [if_pos rfl,if_pos rfl,mD (by simp;omega)]
     rfl
   | false=>
     rw [if_neg (by simp),if_neg (by simp)]
  have gl:(((gS (gP b a at_ u act) u act s2 x).length:Nat):Int)≤s2.length+1:=by
   unfold gS
   split
   ·simp
   ·omega
  unfold qM
  rw [show gS (gP a b at_ u act) u act s1 x=if gP a b at_ u act x=true then s1++[(⟨u,act,x.Device.Key⟩:aB)] else s1 from rfl]
  cases gP a b at_ u act x with
  | true=>
    rw [if_pos rfl,mD (by simp;omega)]
    simp only [Option.bind_some]
    rw [jj2]
    exact ⟨rfl,by simp;omega,by omega⟩
  | false=>
    rw [if_neg (by simp),jj2]
    exact ⟨rfl,by simp;omega,by omega⟩
 ·rintro ⟨s1,s2⟩ ⟨j1,j2⟩
  show ie a b l at_ u n act s1 s2 (l.length:Int)=_
  unfold ie
  rw [if_neg (by omega),bb (by omega) (by omega)]
theorem abD (bS:List ai) (BD:bS.length≤2) (u:ai) (n:Int) (hn:0≤n∧n≤1000) (G1 G2:List aB) (h1:G1.length≤50000) (h2:G2.length≤50000)
 (W:∀ act∈bS,∀ x∈l,∃ Z1 Z2,oD a u act x at_=some Z1∧oD b u act x at_=some Z2∧decide ((0:Int) < (Z1.length:Int))=decide (u∈Ax a act x at_)∧decide ((0:Int) < (Z2.length:Int))=decide (u∈Ax b act x at_)):
 uL a b bS l at_ n u G1 G2 0=some (.inl (G1++gU a b at_ l bS u,G2++gU b a at_ l bS u,n+1)):=by
 unfold uL
 rw [de bS (fun (s:List aB×List aB) (i:Int)=>(s.1,s.2,i)) (fun x=>ig a b bS l at_ n u x.1 x.2.1 x.2.2) (fun s act=>(s.1++gX a b at_ l u act,s.2++gX b a at_ l u act)) (fun i s=>(s.1.length:Int)≤50000+4 * i∧(s.2.length:Int)≤50000+4 * i) (fun s=>some (.inl (s.1,s.2,n+1))) ?_ ?_ (G1,G2) ⟨by dsimp only;omega,by dsimp only;omega⟩,yk (fun (s:List aB) (act:ai)=>s++gX a b at_ l u act) (fun (s:List aB) (act:ai)=>s++gX b a at_ l u act),xI,xI]
 ·rfl
 ·rintro ⟨s1,s2⟩ i act g0 g1 hi ⟨j1,j2⟩
  dsimp only at j1 j2 ⊢
  unfold ig
  rw [if_pos g1,hi]
  simp only [Option.bind_some]
  rw [abC hl u act i ⟨g0,by omega⟩ s1 s2 (by omega) (by omega) (W act (gw hi))]
  have z1:=Nt a b at_ l u act
  have z2:=Nt b a at_ l u act
  exact ⟨rfl,by rw [List.length_append];omega,by rw [List.length_append];omega⟩
 ·rintro ⟨s1,s2⟩ ⟨j1,j2⟩
  show ig a b bS l at_ n u s1 s2 (bS.length:Int)=_
  unfold ig
  rw [if_neg (by omega),bb (by omega) (by omega)]
theorem Hj (CO:mY a) (Dq:mY b) (bS:List ai) (BD:bS.length≤2)
 (W:∀ u:ai,∀ act∈bS,∀ x∈l,∃ Z1 Z2,oD a u act x at_=some Z1∧oD b u act x at_=some Z2∧decide ((0:Int) < (Z1.length:Int))=decide (u∈Ax a act x at_)∧decide ((0:Int) < (Z2.length:Int))=decide (u∈Ax b act x at_)):
 mV a b bS l at_=some ((GK a b).flatMap (gU a b at_ l bS),(GK a b).flatMap (gU b a at_ l bS)):=by
 have hu:=VK CO Dq
 unfold mV
 rw [Ta CO Dq]
 simp only [Option.bind_some]
 unfold yv
 rw [de (GK a b) (fun (s:List aB×List aB) (i:Int)=>(s.1,s.2,i)) (fun x=>ij a b bS l at_ (GK a b) x.1 x.2.1 x.2.2) (fun s u=>(s.1++gU a b at_ l bS u,s.2++gU b a at_ l bS u)) (fun i s=>(s.1.length:Int)≤8 * i∧(s.2.length:Int)≤8 * i) (fun s=>some s) ?_ ?_ ([],[]) ⟨by simp,by simp⟩,yk (fun (s:List aB) (u:ai)=>s++gU a b at_ l bS u) (fun (s:List aB) (u:ai)=>s++gU b a at_ l bS u),xI,xI,List.nil_append,List.nil_append]
 ·rintro ⟨s1,s2⟩ i u g0 g1 hi ⟨j1,j2⟩
  dsimp only at j1 j2 ⊢
  unfold ij
  rw [if_pos g1,hi]
  simp only [Option.bind_some]
  rw [abD hl bS BD u i ⟨g0,by omega⟩ s1 s2 (by omega) (by omega) (W u)]
  have z1:=Tb a b at_ l bS u
  have z2:=Tb b a at_ l bS u
  have z3:=Nat.mul_le_mul BD hl
  exact ⟨rfl,by rw [List.length_append];omega,by rw [List.length_append];omega⟩
 ·rintro ⟨s1,s2⟩ ⟨j1,j2⟩
  show ij a b bS l at_ (GK a b) s1 s2 ((GK a b).length:Int)=_
  unfold ij
  rw [if_neg (by omega)]
end
theorem VL {a b:aB} (h:Lib.compareBytes a.ek b.ek < 0):yL a b < 0:=by unfold yL;rw [if_pos (by omega)];exact h
theorem Yl {a b:aB} (h0:a.ek=b.ek) (h:Lib.compareBytes a.Act b.Act < 0):yL a b < 0:=by unfold yL;rw [h0,mE,if_neg (fun k=>k rfl),if_pos (by omega)];exact h
theorem Ym {a b:aB} (h0:a.ek=b.ek) (h1:a.Act=b.Act) (h:Lib.compareBytes a.Device b.Device < 0):yL a b < 0:=by unfold yL;rw [h0,h1,mE,mE,if_neg (fun k=>k rfl),if_neg (fun k=>k rfl)];exact h
def SD (l:List aL):Prop:=l.Pairwise (fun x y=>Lib.compareBytes x.Device.Key y.Device.Key < 0)
theorem Gz {a b:aW} {at_:Int} {l:List aL} {u act:ai} {r:aB} (h:r∈gX a b at_ l u act):r.ek=u∧r.Act=act∧∃ x∈l,x.Device.Key=r.Device∧gP a b at_ u act x=true:=by
 unfold gX at h
 obtain ⟨x,hx,rfl⟩:=List.mem_map.1 h
 obtain ⟨h1,h2⟩:=List.mem_filter.1 hx
 exact ⟨rfl,rfl,x,h1,rfl,h2⟩
theorem Yn {a b:aW} {at_:Int} {l:List aL} (hd:SD l) {bS:List ai} (hs:SS bS):((GK a b).flatMap (gU a b at_ l bS)).Pairwise (fun x y=>yL x y < 0):=by
 rw [List.pairwise_flatMap]
 refine ⟨fun u _=>?_,(Ns a b).imp (fun {u u'} huu x hx y hy=>?_)⟩
 ·unfold gU
  rw [List.pairwise_flatMap]
  refine ⟨fun act _=>?_,hs.imp (fun {c c'} OV x hx y hy=>?_)⟩
  ·unfold gX
   rw [List.pairwise_map]
   have q:=List.Pairwise.filter (gP a b at_ u act) hd
   exact q.imp (fun {x y} h=>Ym (a:=⟨u,act,x.Device.Key⟩) (b:=⟨u,act,y.Device.Key⟩) rfl rfl h)
  ·obtain ⟨p1,p2,_⟩:=Gz hx
   obtain ⟨q1,q2,_⟩:=Gz hy
   exact Yl (by rw [p1,q1]) (by rw [p2,q2];exact OV)
 ·unfold gU at hx hy
  obtain ⟨c,_,hx⟩:=List.mem_flatMap.1 hx
  obtain ⟨d,_,hy⟩:=List.mem_flatMap.1 hy
  obtain ⟨p1,_⟩:=Gz hx
  obtain ⟨q1,_⟩:=Gz hy
  exact VL (by rw [p1,q1];exact huu)
theorem Ad {a b:aW} {act:ai} {at_:Int} {x:aL} {r:aB}:r∈TH a b act at_ x↔r.Act=act∧r.Device=x.Device.Key∧r.ek∈Ax b act x at_∧¬ r.ek∈Ax a act x at_:=by
 unfold TH VI
 rw [List.mem_map]
 constructor
 ·rintro ⟨u,hu,rfl⟩
  obtain ⟨h1,h2⟩:=List.mem_filter.1 hu
  exact ⟨rfl,rfl,h1,by simpa using h2⟩
 ·rintro ⟨rfl,h2,h3,h4⟩
  exact ⟨r.ek,List.mem_filter.2 ⟨h3,by simpa using h4⟩,by rw [← h2]⟩
theorem Yo {a b:aW} {at_:Int} {l:List aL} (hd:SD l) {bS:List ai} (hs:SS bS):(bS.flatMap (Ab a b at_ l)).Nodup:=by
 unfold List.Nodup
 rw [List.pairwise_flatMap]
 refine ⟨fun act _=>?_,hs.imp (fun {c c'} OV x hx y hy Md=>?_)⟩
 ·unfold Ab
  rw [List.pairwise_flatMap]
  refine ⟨fun x _=>?_,hd.imp (fun {x x'} hxx r hr r' WV e=>?_)⟩
  ·unfold TH VI
   rw [List.pairwise_map]
   refine (List.Pairwise.filter _ (OD (JJ b act x at_))).imp (fun {u u'} h e=>h ?_)
   exact (aB.mk.inj e).1
  ·have p:=(Ad.1 hr).2.1
   have q:=(Ad.1 WV).2.1
   rw [e,q] at p
   rw [p,mE] at hxx
   omega
 ·unfold Ab at hx hy
  obtain ⟨z,_,hx⟩:=List.mem_flatMap.1 hx
  obtain ⟨z',_,hy⟩:=List.mem_flatMap.1 hy
  have p:=(Ad.1 hx).1
  have q:=(Ad.1 hy).1
  rw [Md,q] at p
  rw [p,mE] at OV
  omega
theorem Tc {a b:aW} (hU:∀ u act x at_,u∈Ax b act x at_→u∈GK a b) {at_:Int} {l:List aL} {bS:List ai} (r:aB):r∈(GK a b).flatMap (gU a b at_ l bS)↔r∈bS.flatMap (Ab a b at_ l):=by
 rw [List.mem_flatMap,List.mem_flatMap]
 constructor
 ·rintro ⟨u,hu,h⟩
  unfold gU at h
  obtain ⟨act,qx,h⟩:=List.mem_flatMap.1 h
  obtain ⟨p1,p2,x,hx,p3,p4⟩:=Gz h
  unfold gP at p4
  rw [Bool.and_eq_true,decide_eq_true_eq] at p4
  refine ⟨act,qx,?_⟩
  unfold Ab
  exact List.mem_flatMap.2 ⟨x,hx,Ad.2 ⟨p2,p3.symm,by rw [p1];exact p4.1,by rw [p1];simpa using p4.2⟩⟩
 ·rintro ⟨act,qx,h⟩
  unfold Ab at h
  obtain ⟨x,hx,h⟩:=List.mem_flatMap.1 h
  obtain ⟨p1,p2,p3,p4⟩:=Ad.1 h
  refine ⟨r.ek,hU _ _ _ _ p3,?_⟩
  unfold gU
  refine List.mem_flatMap.2 ⟨act,qx,?_⟩
  unfold gX
  refine List.mem_map.2 ⟨x,List.mem_filter.2 ⟨hx,?_⟩,?_⟩
  ·unfold gP
   rw [decide_eq_true p3,decide_eq_false p4];rfl
  ·rw [← p1,← p2]
theorem DV {a b:aW} (hU:∀ u act x at_,u∈Ax b act x at_→u∈GK a b) {at_:Int} {l:List aL} (hd:SD l) {bS:List ai} (hs:SS bS) {Z:List aB} (h1:Z.Perm (bS.flatMap (Ab a b at_ l))) (h2:TB yL Z):Z=(GK a b).flatMap (gU a b at_ l bS):=by
 have g:=Yn (a:=a) (b:=b) (at_:=at_) hd hs
 have nd:((GK a b).flatMap (gU a b at_ l bS)).Nodup:=g.imp (fun {x y} h e=>by
  rw [e] at h
  have:=JM.neg y y
  omega)
 have hp:((GK a b).flatMap (gU a b at_ l bS)).Perm (bS.flatMap (Ab a b at_ l)):=(List.perm_ext_iff_of_nodup nd (Yo hd hs)).2 (Tc hU)
 refine Bn (cf:=yL) (h1.trans hp.symm) h2 (g.imp (fun {x y} h=>by have:=JM.neg x y;omega)) (fun x _ y _ k1 k2=>VJ k1 k2)
theorem Td {a b:aW}:GK b a=GK a b:=X9 (Ns b a) (Ns a b) (fun u=>by rw [JN,JN];exact Or.comm)
theorem OG {a b:aW} {act:ai} {x:aL} {at_:Int} {u:ai}:u∈Ax b act x at_→u∈GK a b:=fun h=>(JN u).2 (.inr (LZ h))
theorem Nu (a b:List ai) (ha:Ey a) (hb:Ey b) (hl:a.length≤10∧b.length≤10):qq a b=some (if (a++b).any (fun s=>!Hf s)=true then (false,5) else (vb a b,0)):=by
 have hx:∀ x∈a++b,x.length≤1000000:=fun x hx=>by
  rcases List.mem_append.1 hx with k | k
  ·exact ha.2 x k
  ·exact hb.2 x k
 have hll:(a++b).length≤20:=by simp;omega
 unfold qq
 rw [VG a b (by omega)]
 simp only [Option.bind_some]
 rw [show aV (a++b) (fun y0=>jW y0)=some ((a++b).any (fun s=>!Hf s)) from dW _ _ _ (fun x hm=>by
  show jW x=_
  unfold jW
  rw [LB x (by have:=hx x hm;omega)];rfl) (by omega)]
 simp only [Option.bind_some]
 cases (a++b).any (fun s=>!Hf s) with
 | true=>rfl
 | false=>
   rw [if_neg (by simp)]
   unfold pK
   rw [if_neg (by simp;omega),Hh a b ha hb];rfl
theorem CI:th=some true:=by
 unfold th tX
 rw [Nu [[97,46,42]] [[97,46,98]] (Ey.of (by simp) rfl) (Ey.of (by simp) rfl) (by simp),show (([[97,46,42]]++[[97,46,98]]:List ai).any (fun s=>!Hf s))=false by decide,show vb [[97,46,42]] [[97,46,98]]=true by decide]
 simp
def Ix:List ai→Int
 | []=>0
 | [x]=>if ry 5 x=true then 0 else 5
 | x :: y :: _=>if ry 5 x=true then (if ry 5 y=true then (if (Op.bytesLess y x||y==x)=true then 7 else 0) else 5) else 5
theorem Ww (x:ai):Ix [x]=if ry 5 x=true then 0 else 5:=rfl
theorem Te (x y:ai):Ix [x,y]=if ry 5 x=true then (if ry 5 y=true then (if (Op.bytesLess y x||y==x)=true then 7 else 0) else 5) else 5:=rfl
theorem Yp {bS:List ai} (BD:bS.length≤2) (h:Ix bS=0):SS bS:=by
 match bS,BD with
 | [],_=>exact List.Pairwise.nil
 | [x],_=>exact List.pairwise_singleton _ _
 | [x,y],_=>
   rw [Te] at h
   split at h
   ·split at h
    ·split at h
     ·omega
     ·rename_i c
      have:=CA (by simpa using c:(Op.bytesLess y x||y==x)=false)
      exact List.pairwise_cons.2 ⟨fun z hz=>by rw [List.mem_singleton.1 hz];exact this,List.pairwise_singleton _ _⟩
    ·omega
   ·omega
 | _ :: _ :: _ :: _,h=>simp at h
theorem Yq (bS:List ai) (i:Int) (x:ai) (h:i < bS.length) (hx:idx bS i=some x) (hl:x.length≤1000000):
 dL bS true i=if ry 5 x=true then (if (0:Int) < i then (idx bS (cd (i - 1))).bind fun y=>dU i (Op.bytesLess x y||x==y) else dU i false) else some (.inr 5):=by
 unfold dL
 rw [if_pos h,hx]
 simp only [Option.bind_some]
 rw [JF x (by omega)]
 simp only [Option.bind_some]
 cases ry 5 x with
 | true=>rw [if_neg (by simp),if_pos rfl]
 | false=>rw [if_pos (by simp),if_neg (by simp)];rfl
theorem Yr (bS:List ai):dL bS true bS.length=some (.inr 0):=by
 unfold dL
 rw [if_neg (by omega)];rfl
theorem Qac (bS:List ai) (BD:bS.length≤2) (hs:∀ s∈bS,s.length≤1000000):o8 bS true=some (Ix bS):=by
 unfold o8 o7
 match bS,BD with
 | [],_=>
   rw [iter_eq,show dL [] true 0=_ from Yr []];rfl
 | [x],_=>
   rw [iter_eq,Yq [x] 0 x (by simp) rfl (hs x (by simp)),if_neg (show ¬ (0:Int) < 0 by omega)]
   rw [Ww]
   unfold dU
   cases ry 5 x with
   | true=>
     rw [if_pos rfl,if_neg (by simp),show cd ((0:Int)+1)=1 by decide,if_pos rfl]
     simp only [Option.bind_some,du]
     rw [iter_eq,show dL [x] true 1=_ from Yr [x]];rfl
   | false=>rw [if_neg (by simp),if_neg (by simp)];rfl
 | [x,y],_=>
   rw [iter_eq,Yq [x,y] 0 x (by simp) rfl (hs x (by simp)),if_neg (show ¬ (0:Int) < 0 by omega)]
   rw [Te]
   cases ry 5 x with
   | true=>
     rw [if_pos rfl,if_pos rfl,show dU 0 false=some (.inl 1) by unfold dU;rw [if_neg (by simp),show cd ((0:Int)+1)=1 by decide]]
     simp only [Option.bind_some,du]
     rw [iter_eq,Yq [x,y] 1 y (by simp) rfl (hs y (by simp)),if_pos (show (0:Int) < 1 by omega),show idx [x,y] (cd ((1:Int) - 1))=some x from rfl]
     simp only [Option.bind_some]
     unfold dU
     cases ry 5 y with
     | true=>
       rw [if_pos rfl,if_pos rfl]
       cases (Op.bytesLess y x||y==x) with
       | true=>rfl
       | false=>
         rw [if_neg (by simp),if_neg (by simp),show cd ((1:Int)+1)=2 by decide]
         simp only [Option.bind_some,du]
         rw [iter_eq,show dL [x,y] true 2=_ from Yr [x,y]];rfl
     | false=>rw [if_neg (by simp),if_neg (by simp)];rfl
   | false=>rw [if_neg (by simp),if_neg (by simp)];rfl
 | _ :: _ :: _ :: _,h=>simp at h
section
variable (l:List aL) (at_:Int) (v w:aq)
theorem Yt (bS:List ai) (i:Int) (x:ai) (h:i < bS.length) (hx:idx bS i=some x) (hl:x.length≤1000000):
 dI bS l at_ v w i=if ry 5 x=true then (if (0:Int) < i then (idx bS (cd (i - 1))).bind fun y=>dX i (Op.bytesLess x y||x==y) else dX i false) else some (.inr ([],[],5)):=by
 unfold dI
 rw [if_pos h,hx]
 simp only [Option.bind_some]
 rw [Bq x (by omega)]
 simp only [Option.bind_some]
 cases ry 5 x with
 | true=>rw [if_neg (by simp),if_pos rfl]
 | false=>rw [if_pos (by simp),if_neg (by simp)];rfl
theorem Yu (bS:List ai):dI bS l at_ v w bS.length=Option.map .inr (fK bS l at_ v w):=by
 unfold dI
 rw [if_neg (by omega)]
theorem Dac (bS:List ai) (BD:bS.length≤2) (hs:∀ s∈bS,s.length≤1000000):sh bS l at_ v w 0=if Ix bS=0 then fK bS l at_ v w else some ([],[],Ix bS):=by
 unfold sh
 match bS,BD with
 | [],_=>
   rw [iter_eq,show dI [] l at_ v w 0=_ from Yu l at_ v w [],cy];rfl
 | [x],_=>
   rw [iter_eq,Yt l at_ v w [x] 0 x (by simp) rfl (hs x (by simp)),if_neg (show ¬ (0:Int) < 0 by omega)]
   rw [Ww]
   unfold dX
   cases ry 5 x with
   | true=>
     rw [if_pos rfl,if_neg (by simp),show cd ((0:Int)+1)=1 by decide,if_pos rfl,if_pos rfl]
     simp only [Option.bind_some,du]
     rw [iter_eq,show dI [x] l at_ v w 1=_ from Yu l at_ v w [x],cy]
   | false=>rw [if_neg (by simp),if_neg (by simp)];rfl
 | [x,y],_=>
   rw [iter_eq,Yt l at_ v w [x,y] 0 x (by simp) rfl (hs x (by simp)),if_neg (show ¬ (0:Int) < 0 by omega)]
   rw [Te]
   cases ry 5 x with
   | true=>
     rw [if_pos rfl,if_pos rfl,show dX 0 false=some (.inl 1) by unfold dX;rw [if_neg (by simp),show cd ((0:Int)+1)=1 by decide]]
     simp only [Option.bind_some,du]
     rw [iter_eq,Yt l at_ v w [x,y] 1 y (by simp) rfl (hs y (by simp)),if_pos (show (0:Int) < 1 by omega),show idx [x,y] (cd ((1:Int) - 1))=some x from rfl]
     simp only [Option.bind_some]
     unfold dX
     cases ry 5 y with
     | true=>
       rw [if_pos rfl,if_pos rfl]
       cases (Op.bytesLess y x||y==x) with
       | true=>rfl
       | false=>
         simp only [Bool.false_eq_true,if_false]
         rw [show cd ((1:Int)+1)=2 by decide,if_pos trivial]
         simp only [Option.bind_some,du]
         rw [iter_eq,show dI [x,y] l at_ v w 2=_ from Yu l at_ v w [x,y],cy]
     | false=>rw [if_neg (by simp),if_neg (by simp)];rfl
   | false=>rw [if_neg (by simp),if_neg (by simp)];rfl
 | _ :: _ :: _ :: _,h=>simp at h
end
theorem VM (l:List aL) (hl:l.length≤100) (hx:∀ x∈l,BC x):Ok (ep l) (fun r=>r=0→SD l):=by
 unfold ep
 rw [if_neg (by omega)]
 unfold ox
 refine Ok.Jr l.length (fun i=>SD (l.take i.toNat)) (by simp [SD]) (fun i h0 h1 hi=>?_)
 have w1:cd (i+1)=i+1:=bb (by omega) (by omega)
 have w2:cd (i - 1)=i - 1:=bb (by omega) (by omega)
 unfold fJ
 split
 ·rename_i lV
  refine Ok.idx h0 lV (fun x hxi Mt=>?_)
  obtain ⟨r,hr,_⟩:=Gg x (hx x Mt)
  rw [hr]
  simp only [Option.bind_some]
  split
  ·exact Ok.inr (Ok.ret (fun h=>absurd h (by assumption)))
  ·split
   ·rename_i hi0
    rw [w2]
    refine Ok.idx (by omega) (by omega) (fun q hq _=>?_)
    unfold fI
    cases c:(Op.bytesLess x.Device.Key q.Device.Key||x.Device.Key==q.Device.Key) with
    | true=>exact Ok.inr (Ok.ret (fun h=>by cases h))
    | false=>
      simp only [Bool.false_eq_true,if_false]
      exact Ok.ret ⟨w1,lV,Gm (fun x:aL=>x.Device.Key) hi0 hxi hq (CA c) hi⟩
   ·have:i=0:=by omega
    subst this
    unfold fI
    simp only [Bool.false_eq_true,if_false]
    refine Ok.ret ⟨w1,lV,?_⟩
    show SD (l.take ((0:Int)+1).toNat)
    rw [take_succ h0 hxi]
    simp [SD]
 ·refine Ok.inr (Ok.ret (fun _=>?_))
  have:l.take i.toNat=l:=List.take_of_length_le (by omega)
  rw [this] at hi
  exact hi
def nx (at_:Int) (s:bl) (n m:Int):Int:=if s.Time.ef < s.Time.To∧at_ < m then min n m else n
def nS (at_ n:Int) (s:bl):Int:=nx at_ s (nx at_ s n s.Time.ef) s.Time.To
theorem Tf {at_:Int} {s:bl} {n m:Int} (h:n≤345686400000):nx at_ s n m≤345686400000:=by
 unfold nx
 split
 ·omega
 ·exact h
theorem Wx {at_:Int} {s:bl} {n:Int} (h:n≤345686400000):nS at_ n s≤345686400000:=Tf (Tf h)
theorem abE (at_ n:Int) (s:bl) (i:Int) (hi:0≤i∧i≤1000):o0 at_ i s n 0=some (.inl (nS at_ n s,i+1)):=by
 unfold o0
 rw [de [s.Time.ef,s.Time.To] (fun (n:Int) (i:Int)=>(n,i)) (fun x=>dJ at_ i s x.1 x.2) (nx at_ s) (fun _ _=>True) (fun n=>some (.inl (n,i+1))) ?_ ?_ n trivial]
 ·rfl
 ·intro n j m g0 g1 hj _
  have g2:j < 2:=by simpa using g1
  show dJ at_ i s n j=_∧_
  unfold dJ
  rw [if_pos g1,hj]
  simp only [Option.bind_some]
  unfold ln iX nx
  rw [bb (by omega) (by omega)]
  by_cases c:s.Time.ef < s.Time.To∧at_ < m
  ·rw [if_pos (by simp [c]),if_pos c]
   exact ⟨rfl,trivial⟩
  ·rw [if_neg (by simpa using c),if_neg c]
   exact ⟨rfl,trivial⟩
 ·intro n _
  show dJ at_ i s n (([s.Time.ef,s.Time.To].length:Nat):Int)=_
  unfold dJ
  rw [if_neg (by omega),bb (by omega) (by omega)]
theorem abF (at_ n:Int) (hn:n≤345686400000) (s:bl) (i:Int) (hi:0≤i∧i≤1000):uJ at_ i s n (decide (n < 345686400000)) 0=some (.inl (nS at_ n s,decide (nS at_ n s < 345686400000),i+1)):=by
 unfold uJ
 rw [de [s.Time.ef,s.Time.To] (fun (n:Int) (i:Int)=>(n,decide (n < 345686400000),i)) (fun x=>fY at_ i s x.1 x.2.1 x.2.2) (nx at_ s) (fun _ n=>n≤345686400000) (fun n=>some (.inl (n,decide (n < 345686400000),i+1))) ?_ ?_ n hn]
 ·rfl
 ·intro n j m g0 g1 hj hn
  have g2:j < 2:=by simpa using g1
  show fY at_ i s n (decide (n < 345686400000)) j=_∧_
  refine ⟨?_,Tf hn⟩
  unfold fY
  rw [if_pos g1,hj]
  simp only [Option.bind_some]
  unfold qJ nD nx
  rw [bb (by omega) (by omega)]
  by_cases c:s.Time.ef < s.Time.To∧at_ < m
  ·rw [if_pos c]
   by_cases d:m < n
   ·rw [if_pos (by simp [c,d]),show min n m=m by omega,decide_eq_true (show m < 345686400000 by omega)]
   ·rw [if_neg (by simp [d]),show min n m=n by omega]
  ·rw [if_neg (by simp;intro h1 h2;exact absurd ⟨h1,h2⟩ c),if_neg c]
 ·intro n hn
  show fY at_ i s n (decide (n < 345686400000)) (([s.Time.ef,s.Time.To].length:Nat):Int)=_
  unfold fY
  rw [if_neg (by omega),bb (by omega) (by omega)]
theorem DW (at_:Int):∀ (l:List bl) (n:Int),n≤345686400000→l.foldl (nS at_) n≤345686400000
 | [],_,h=>h
 | s :: r,_,h=>DW at_ r _ (Wx h)
def nN (o:aW) (at_:Int):Int:=o.aK.foldl (nS at_) 345686400000
theorem Hk {o:aW} (hb:mY o) (at_:Int):pJ o at_=some (if nN o at_=345686400000 then (0,false) else (nN o at_,true)):=by
 have hs:=hb.ZC
 have hle:=DW at_ o.aK 345686400000 (by omega)
 unfold pJ yr
 have e:=de o.aK (fun (n:Int) (i:Int)=>(n,decide (n < 345686400000),i)) (fun x=>fZ o at_ x.1 x.2.1 x.2.2) (nS at_) (fun _ n=>n≤345686400000) (fun n=>nE n (decide (n < 345686400000))) (fun n i s g0 g1 hi hn=>by
  refine ⟨?_,Wx hn⟩
  show fZ o at_ n (decide (n < 345686400000)) i=_
  unfold fZ
  rw [if_pos g1,hi]
  simp only [Option.bind_some]
  exact abF at_ n hn s i ⟨g0,by omega⟩) (fun n hn=>by
  show fZ o at_ n (decide (n < 345686400000)) (o.aK.length:Int)=_
  unfold fZ
  rw [if_neg (by omega)]) 345686400000 (by omega)
 refine e.trans ?_
 show nE (nN o at_) (decide (nN o at_ < 345686400000))=_
 unfold nE
 by_cases c:nN o at_=345686400000
 ·rw [if_pos (by simp;omega),if_pos c]
 ·have:nN o at_ < 345686400000:=by
   have:nN o at_≤345686400000:=hle
   omega
  rw [if_neg (by simp;omega),if_neg c]
theorem Hl {o:aW} (hb:mY o) (at_:Int):∃ ra n h,js o=some ra∧gL o at_=some (n,h,tw [ra,eM at_])∧(tw [ra,eM at_]≠0→n=0∧h=false)∧(tw [ra,eM at_]=0→pJ o at_=some (n,h)):=by
 have hs:=hb.ZC
 obtain ⟨r,Yy,P3⟩:=Bx o hb
 rcases P3 with ⟨uc,hc⟩ | ⟨hz,hR,v,hc,hv⟩
 ·refine ⟨r,0,false,Yy,?_,fun _=>⟨rfl,rfl⟩,fun h=>by rw [CH uc] at h;exact absurd h uc⟩
  unfold gL ny
  rw [hc]
  simp only [Option.bind_some,vw]
  rw [if_pos uc,CH uc]
 ·subst hz
  have e0:gL o at_=if (!(iU at_))=true then some ((0:Int),false,(1:Int)) else o4 o at_ 345686400000 0:=by
   unfold gL ny
   rw [hc]
   simp only [Option.bind_some,vw]
   rw [if_neg (fun k=>k rfl)]
  have eo:tw [0,eM at_]=eM at_:=by rw [sW,EN]
  by_cases d:0≤at_∧at_≤345686399999
  ·have em:eM at_=0:=by unfold eM;rw [if_pos d]
   rw [CG,if_neg (by simp [d])] at e0
   have e:=de o.aK (fun (n:Int) (i:Int)=>(n,i)) (fun x=>dK o at_ x.1 x.2) (nS at_) (fun _ _=>True) (fun n=>iY n) (fun n i s g0 g1 hi _=>by
    refine ⟨?_,trivial⟩
    show dK o at_ n i=_
    unfold dK
    rw [if_pos g1,hi]
    simp only [Option.bind_some]
    exact abE at_ n s i ⟨g0,by omega⟩) (fun n _=>by
    show dK o at_ n (o.aK.length:Int)=_
    unfold dK
    rw [if_neg (by omega)]) 345686400000 trivial
   have e2:o4 o at_ 345686400000 0=iY (nN o at_):=e
   rw [e2] at e0
   unfold iY at e0
   have e3:=Hk hb at_
   by_cases c:nN o at_=345686400000
   ·rw [if_pos c] at e0 e3
    exact ⟨0,0,false,Yy,by rw [e0,eo,em],fun _=>⟨rfl,rfl⟩,fun _=>e3⟩
   ·rw [if_neg c] at e0 e3
    exact ⟨0,nN o at_,true,Yy,by rw [e0,eo,em],fun h=>absurd (eo.trans em) h,fun _=>e3⟩
  ·have em:eM at_=1:=by unfold eM;rw [if_neg d]
   rw [CG,if_pos (by simp;omega)] at e0
   exact ⟨0,0,false,Yy,by rw [e0,eo,em],fun _=>⟨rfl,rfl⟩,fun h=>by rw [eo,em] at h;omega⟩
theorem P0 {a b:aW} (CO:mY a) (Dq:mY b) (bS:List ai) (BD:bS.length≤2) (qx:∀ s∈bS,s.length≤1000000) (l:List aL) (hl:l.length≤4) (hx:∀ x∈l,BC x) (at_:Int):
 ∃ ra rb gl M1 M2,js a=some ra∧js b=some rb∧lx l=some gl∧fT a b bS l at_=some (M1,M2,tw [ra,rb,Ix bS,gl,eM at_])∧(tw [ra,rb,Ix bS,gl,eM at_]≠0→M1=[]∧M2=[])∧(tw [ra,rb,Ix bS,gl,eM at_]=0→mV a b bS l at_=some (M1,M2))∧M1.length≤100000∧M2.length≤100000:=by
 obtain ⟨ra,ha1,ha2⟩:=Bx a CO
 obtain ⟨rb,P4,hb2⟩:=Bx b Dq
 obtain ⟨eL,gl,TC,abG⟩:=Vl l (by omega) hx
 have abH:lx l=some gl:=by rw [← eL];exact TC
 have bad:∀ F:Int,F=tw [ra,rb,Ix bS,gl,eM at_]→F≠0→fT a b bS l at_=some ([],[],F)→∃ ra rb gl M1 M2,js a=some ra∧js b=some rb∧lx l=some gl∧fT a b bS l at_=some (M1,M2,tw [ra,rb,Ix bS,gl,eM at_])∧(tw [ra,rb,Ix bS,gl,eM at_]≠0→M1=[]∧M2=[])∧(tw [ra,rb,Ix bS,gl,eM at_]=0→mV a b bS l at_=some (M1,M2))∧M1.length≤100000∧M2.length≤100000:=by
  intro F h1 h2 h3
  exact ⟨ra,rb,gl,[],[],ha1,P4,abH,by rw [h3,h1],fun _=>⟨rfl,rfl⟩,fun h=>by rw [← h1] at h;exact absurd h h2,by simp,by simp⟩
 rcases ha2 with ⟨uc,Um⟩ | ⟨hz,hRa,v,Um,Ye⟩
 ·refine bad ra (by rw [CH uc]) uc ?_
  unfold fT
  rw [Um]
  simp only [Option.bind_some,vw]
  rw [if_pos uc]
 ·subst hz
  rcases hb2 with ⟨uc,ZI⟩ | ⟨hz,hRb,w,ZI,Yg⟩
  ·refine bad rb (by rw [sW,CH uc]) uc ?_
   unfold fT
   rw [Um]
   simp only [Option.bind_some,vw]
   rw [if_neg (fun k=>k rfl),ZI]
   simp only [Option.bind_some]
   rw [if_pos uc]
  ·subst hz
   have e0:fT a b bS l at_=if Ix bS=0 then fK bS l at_ v w else some ([],[],Ix bS):=by
    unfold fT
    rw [Um]
    simp only [Option.bind_some,vw]
    rw [if_neg (fun k=>k rfl),ZI]
    simp only [Option.bind_some]
    rw [if_neg (fun k=>k rfl),if_neg (by omega),Dac l at_ v w bS BD qx]
   by_cases ca:Ix bS=0
   ·rw [if_pos ca] at e0
    by_cases cg:gl=0
    ·by_cases d:0≤at_∧at_≤345686399999
     ·obtain ⟨Yf,h0a⟩:=Gv CO Um
      obtain ⟨Ff,h0b⟩:=Gv Dq ZI
      have ZG:∀ x∈l,∀ s∈a.aK,eO s.Query x=some (mB s.Query x)∧jQ s.Query x=some (mB s.Query x):=fun x hm=>DU CO hRa x (hx x hm) (abG cg x hm)
      have ZH:∀ x∈l,∀ s∈b.aK,eO s.Query x=some (mB s.Query x)∧jQ s.Query x=some (mB s.Query x):=fun x hm=>DU Dq hRb x (hx x hm) (abG cg x hm)
      have hSD:SD l:=by
       obtain ⟨r,q1,q2⟩:=VM l (by omega) hx
       rw [q1] at TC
       exact q2 ((Option.some.inj TC).trans cg)
      have hSS:=Yp BD ca
      have ml1:(bS.flatMap (Ab a b at_ l)).length≤100000:=by
       have:=tB (Ab a b at_ l) 800 bS (fun x _=>Ac Dq at_ l hl x)
       have:=Nat.mul_le_mul_right 800 BD
       omega
      have ml2:(bS.flatMap (Ab b a at_ l)).length≤100000:=by
       have:=tB (Ab b a at_ l) 800 bS (fun x _=>Ac CO at_ l hl x)
       have:=Nat.mul_le_mul_right 800 BD
       omega
      obtain ⟨Z1,z1,z2,z3⟩:=Wv _ ml1
      obtain ⟨Z2,y1,y2,y3⟩:=Wv _ ml2
      have k12:lj (bS.flatMap (Ab a b at_ l)) (bS.flatMap (Ab b a at_ l))=some (Z1,Z2,0):=by
       unfold lj
       rw [z1]
       simp only [Option.bind_some]
       rw [y1]
       rfl
      have zd:=Yk CO hRa Ye Yf Dq hRb Yg Ff bS BD qx l hl at_ (fun x hm s hs=>(ZG x hm s hs).1) (fun x hm s hs=>(ZH x hm s hs).1) v.cr w.cr (S7 CO hRa Ye Yf h0a Um) (S7 Dq hRb Yg Ff h0b ZI) _ k12
      have e1:fT a b bS l at_=some (Z1,Z2,0):=by
       rw [e0]
       unfold fK
       rw [TC]
       simp only [Option.bind_some]
       rw [if_neg (fun k=>k cg),CG,if_neg (by simp [d])]
       exact zd
      have F0:tw [0,0,Ix bS,gl,eM at_]=0:=by
       rw [sW,sW,ca,sW,cg,sW,EN]
       unfold eM
       rw [if_pos d]
      refine ⟨0,0,gl,Z1,Z2,ha1,P4,abH,by rw [e1,F0],fun h=>absurd F0 h,fun _=>?_,by rw [z2.length_eq];exact ml1,by rw [y2.length_eq];exact ml2⟩
      have W:∀ u:ai,∀ act∈bS,∀ x∈l,∃ Z1 Z2,oD a u act x at_=some Z1∧oD b u act x at_=some Z2∧decide ((0:Int) < (Z1.length:Int))=decide (u∈Ax a act x at_)∧decide ((0:Int) < (Z2.length:Int))=decide (u∈Ax b act x at_):=by
       intro u act hm x Mt
       obtain ⟨X1,p1,p2,_⟩:=LY CO hRa u act (qx act hm) x at_ (fun s hs=>(ZG x Mt s hs).2)
       obtain ⟨X2,q1,q2,_⟩:=LY Dq hRb u act (qx act hm) x at_ (fun s hs=>(ZH x Mt s hs).2)
       exact ⟨X1,X2,p1,q1,OE CO hRa Ye Yf h0a Um u act x at_ X1 p2,OE Dq hRb Yg Ff h0b ZI u act x at_ X2 q2⟩
      rw [Hj hl CO Dq bS BD W]
      have s1:=DV (a:=a) (b:=b) (fun u act x at_ h=>OG h) hSD hSS z2 z3
      have s2:=DV (a:=b) (b:=a) (fun u act x at_ h=>OG h) hSD hSS y2 y3
      rw [Td] at s2
      rw [← s1,← s2]
     ·refine bad 1 ?_ (by omega) ?_
      ·rw [sW,sW,ca,sW,cg,sW,EN]
       unfold eM
       rw [if_neg d]
      ·rw [e0]
       unfold fK
       rw [TC]
       simp only [Option.bind_some]
       rw [if_neg (fun k=>k cg),CG,if_pos (by simp;omega)]
    ·refine bad gl (by rw [sW,sW,ca,sW,CH cg]) cg ?_
     rw [e0]
     unfold fK
     rw [TC]
     simp only [Option.bind_some]
     rw [if_pos cg]
   ·rw [if_neg ca] at e0
    exact bad _ (by rw [sW,sW,CH ca]) ca e0
theorem abI (a b:List aB) (h:a.length≤100000):fU a b=some (decide (a=b)):=PA a b (by omega)
theorem abJ (a b:Int):lv [a,b]=some (tw [a,b]):=zp _ (by simp)
theorem Dr (L:List Int):sB L=some true:=by
 have key:Ok (sB L) (fun r=>r=true):=by
  unfold sB
  refine Ok.gen (Ws (s:=⟨L,0⟩) (K:=2000) ⟨by simp,by simp⟩ (by omega)) (fun a s1 CO q1=>?_)
  refine Ok.gen (Ws q1 (by omega)) (fun b s2 Dq q2=>?_)
  refine Ok.gen (Nq q2 (by omega)) (fun l s3 hl q3=>?_)
  refine Ok.gen (Yd q3 (by omega)) (fun at_ s4 _ q4=>?_)
  refine Ok.gen (mF q4 (by omega) (by simp) (by simp)) (fun k s5 hk q5=>?_)
  dsimp only
  have abK:∃ bS,idx [[([100,101,118,105,99,101,46,114,101,97,100]:ai)],[([100,101,118,105,99,101,46,114,101,97,100]:ai),([111,114,103,46,120]:ai)],[([100,101,118,105,99,101,46,119,114,105,116,101]:ai)],[],[([97,46,42]:ai)],[([98]:ai),([97]:ai)]] k=some bS∧bS.length≤2∧∀ s∈bS,s.length≤1000000:=by
   simp only [List.mem_cons,List.not_mem_nil,or_false] at hk
   rcases hk with rfl | rfl | rfl | rfl | rfl | rfl | rfl | rfl<;>exact ⟨_,rfl,by simp,by simp⟩
  obtain ⟨bS,he,BD,qx⟩:=abK
  rw [he]
  simp only [Option.bind_some]
  obtain ⟨ra,rb,gl,M1,M2,f1,f2,f3,f4,f5,f6,f7,f8⟩:=P0 CO Dq bS BD qx l hl.1 hl.2 at_
  obtain ⟨Qn,n,h,g1,g2,g3,g4⟩:=Hl CO at_
  obtain rfl:Qn=ra:=Option.some.inj (g1.symm.trans f1)
  rw [f4]
  simp only [Option.bind_some]
  rw [g2]
  simp only [Option.bind_some]
  rw [g1]
  simp only [Option.bind_some]
  rw [zG,abJ]
  simp only [Option.bind_some]
  have j2:nH (a,s1) (b,s2) (l,s3) (at_,s4) bS (M1,M2,tw [Qn,rb,Ix bS,gl,eM at_]) false=some true:=by
   unfold nH
   rw [if_neg (by simp)]
   dsimp only
   rw [f1]
   simp only [Option.bind_some]
   rw [f2]
   simp only [Option.bind_some]
   rw [show sx bS=some (Ix bS) by unfold sx;rw [if_neg (by omega),Qac bS BD qx];rfl]
   simp only [Option.bind_some]
   rw [f3]
   simp only [Option.bind_some]
   rw [zG,Or5]
   simp only [Option.bind_some]
   by_cases z:tw [Qn,rb,Ix bS,gl,eM at_]=0
   ·rw [if_neg (fun k=>k z),f6 z]
    simp only [Option.bind_some]
    rw [if_pos z,abI _ _ f7,decide_eq_true rfl]
    simp only [Option.bind_some,if_true]
    rw [abI _ _ f8,decide_eq_true rfl]
    simp only [Option.bind_some,if_true]
    rw [CI]
    rfl
   ·obtain ⟨m1,m2⟩:=f5 z
    rw [if_pos z,if_pos trivial,m1,m2,if_pos (by decide),CI]
    rfl
  by_cases z:tw [Qn,eM at_]=0
  ·rw [if_pos z,g4 z]
   simp only [Option.bind_some]
   unfold kU
   rw [show (decide ((n,h,tw [Qn,eM at_]).2.2≠tw [Qn,eM at_])||(decide ((n,h,tw [Qn,eM at_]).1≠n)||((n,h,tw [Qn,eM at_]).2.1!=h)))=false by simp]
   exact ⟨true,j2,rfl⟩
  ·obtain ⟨m1,m2⟩:=g3 z
   rw [if_neg z,m1,m2]
   unfold kU
   rw [show (decide (((0:Int),false,tw [Qn,eM at_]).2.2≠tw [Qn,eM at_])||(decide (((0:Int),false,tw [Qn,eM at_]).1≠0)||(((0:Int),false,tw [Qn,eM at_]).2.1!=false)))=false by simp]
   exact ⟨true,j2,rfl⟩
 obtain ⟨r,h1,rfl⟩:=key
 exact h1
end Go.Beacon
