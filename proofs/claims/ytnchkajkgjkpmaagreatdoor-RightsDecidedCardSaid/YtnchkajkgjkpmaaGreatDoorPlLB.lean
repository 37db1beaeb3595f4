/- Plain facts on what the functions compute. No program in sight. -/
import Derived.Test.YtnchkajkgjkpmaaGreatDoorPlLA
set_option linter.unusedVariables false
set_option linter.unusedSimpArgs false
set_option linter.unusedSectionVars false
namespace Go.Beacon
open Go Go.Eng
def uL (p:aK→Bool):List aK→Int→List Int
 | [],_=>[]
 | m :: r,i=>if p m=true then i :: uL p r (i+1) else uL p r (i+1)
theorem M5 (p:aK→Bool):∀ (a b:List aK) (i:Int),uL p (a++b) i=uL p a i++uL p b (i+a.length)
 | [],b,i=>by simp [uL]
 | m :: r,b,i=>by
   have e:i+((m :: r).length:Int)=i+1+r.length:=by rw [List.length_cons];omega
   rw [e]
   show (if p m=true then i :: uL p (r++b) (i+1) else uL p (r++b) (i+1))=(if p m=true then i :: uL p r (i+1) else uL p r (i+1))++_
   rw [M5 p r b (i+1)]
   split<;>simp
theorem Iw (p:aK→Bool):∀ (L:List aK) (i j:Int),j∈uL p L i↔∃ k:Nat,j=i+k∧∃ m,L[k]? =some m∧p m=true
 | [],i,j=>by simp [uL]
 | m :: r,i,j=>by
   have ih:=Iw p r (i+1) j
   have hs:(∃ k:Nat,j=i+k∧∃ m',(m :: r)[k]? =some m'∧p m'=true)↔(j=i∧p m=true)∨∃ k:Nat,j=i+1+k∧∃ m',r[k]? =some m'∧p m'=true:=by
    constructor
    ·rintro ⟨k,h1,m',h2,h3⟩
     cases k with
     | zero=>simp at h2;subst h2;exact .inl ⟨by omega,h3⟩
     | succ k=>exact .inr ⟨k,by omega,m',by simpa using h2,h3⟩
    ·rintro (⟨h1,h2⟩ | ⟨k,h1,m',h2,h3⟩)
     ·exact ⟨0,by omega,m,rfl,h2⟩
     ·exact ⟨k+1,by omega,m',by simpa using h2,h3⟩
   rw [hs]
   show j∈(if p m=true then i :: uL p r (i+1) else uL p r (i+1))↔_
   by_cases c:p m=true
   ·rw [if_pos c,List.mem_cons,ih];simp [c]
   ·rw [if_neg c,ih];simp [c]
theorem vE (p:aK→Bool) (L:List aK) (j:Int):j∈uL p L 0↔∃ m,idx L j=some m∧p m=true:=by
 rw [Iw]
 constructor
 ·rintro ⟨k,h1,m,h2,h3⟩
  refine ⟨m,?_,h3⟩
  unfold idx
  rw [if_pos (by omega),show j.toNat=k by omega];exact h2
 ·rintro ⟨m,h1,h2⟩
  obtain ⟨h0,_,h3⟩:=wL h1
  exact ⟨j.toNat,by omega,m,h3,h2⟩
theorem V2 (p:aK→Bool) (L:List aK) (i j:Int) (h:j∈uL p L i):i≤j:=by
 obtain ⟨k,h1,_⟩:=(Iw p L i j).1 h
 omega
theorem Ix (p:aK→Bool):∀ (L:List aK) (i:Int),(uL p L i).Nodup
 | [],_=>List.nodup_nil
 | m :: r,i=>by
   show (if p m=true then i :: uL p r (i+1) else uL p r (i+1)).Nodup
   split
   ·rw [List.nodup_cons]
    exact ⟨fun h=>by have:=V2 p r (i+1) i h;omega,Ix p r (i+1)⟩
   ·exact Ix p r (i+1)
theorem xR (p:aK→Bool):∀ (L:List aK) (i:Int),(uL p L i).length≤L.length
 | [],_=>Nat.le_refl _
 | m :: r,i=>by
   have:=xR p r (i+1)
   show (if p m=true then i :: uL p r (i+1) else uL p r (i+1)).length≤_
   split<;>simp<;>omega
theorem Fl (p f:aK→Bool):∀ (L:List aK) (i:Int) (g:Int→Bool),(∀ (k:Nat) m,L[k]? =some m→g (i+k)=f m)→(uL p L i).filter g=uL (fun m=>p m&&f m) L i
 | [],_,_,_=>rfl
 | m :: r,i,g,h=>by
   have ih:=Fl p f r (i+1) g (fun k m' hk=>by
    have:=h (k+1) m' (by simpa using hk)
    rw [← this];congr 1;push_cast;omega)
   have h0:g i=f m:=by have:=h 0 m rfl;simpa using this
   show (if p m=true then i :: uL p r (i+1) else uL p r (i+1)).filter g=(if (p m&&f m)=true then i :: uL (fun m=>p m&&f m) r (i+1) else uL (fun m=>p m&&f m) r (i+1))
   cases hp:p m with
   | false=>simpa using ih
   | true=>
     rw [if_pos rfl,List.filter_cons,h0,ih]
     cases f m<;>simp
def Rz (f:aK→Bool) (L:List aK) (i:Int):Bool:=((idx L i).map f).getD false
theorem Fm (p f:aK→Bool) (L:List aK):(uL p L 0).filter (Rz f L)=uL (fun m=>p m&&f m) L 0:=
 Fl p f L 0 (Rz f L) (fun k m hk=>by
  unfold Rz idx
  rw [if_pos (by omega),show (0+(k:Int)).toNat=k by omega,hk];rfl)
theorem Fo {α β:Type} (g:α→List β):∀ (xs:List α) (acc:List β),xs.foldl (fun a x=>a++g x) acc=acc++xs.flatMap g
 | [],acc=>by simp
 | x :: r,acc=>by rw [List.foldl_cons,Fo g r];simp
def AtR (v:ak) (o:bb):Prop:=∀ t,(cM v.at_ t).getD []=uL (fun m=>decide (m.ar=t)) o.aD 0
theorem Kw (p:aK→Bool) (L:List aK) (x:aK) (i:Int) (h:i=L.length):uL p (L++[x]) 0=uL p L 0++(if p x=true then [i] else []):=by
 rw [M5,show (0:Int)+L.length=i by omega]
 show _++(if p x=true then i :: [] else [])=_
 rfl
theorem L2 (o:bb) (h1:o.al.length≤100000) (h2:o.bj.length≤100000) (h3:o.aD.length≤100000):Ok (iT o) (fun v=>AtR v o∧v.cG=[]):=by
 unfold iT
 have e1:∀ m,k7 o m 0=eG o (foldM (·.Key) (·.fi) m o.al) [] 0:=by
  intro m
  unfold k7
  exact fu o.al (fun (s:List (ae×ae)) (i:Int)=>(s,i)) (fun x=>cu o x.1 x.2) (fun s t=>ji s t.Key t.fi) (fun _ _=>True) (fun s=>eG o s [] 0)
   (fun s i x g0 g1 hi _=>⟨by
    show cu o s i=_
    unfold cu
    rw [if_pos g1,hi,bf (by omega) (by omega)];rfl,trivial⟩)
   (fun s _=>by
    show cu o s o.al.length=_
    unfold cu
    rw [if_neg (by omega)]) m trivial
 have e2:∀ p m,eG o p m 0=fK o p (foldM (·.Key) (·.lI) m o.bj) [] 0:=by
  intro p m
  unfold eG
  exact fu o.bj (fun (s:List (ae×List ae)) (i:Int)=>(s,i)) (fun x=>ct o p x.1 x.2) (fun s t=>ji s t.Key t.lI) (fun _ _=>True) (fun s=>fK o p s [] 0)
   (fun s i x g0 g1 hi _=>⟨by
    show ct o p s i=_
    unfold ct
    rw [if_pos g1,hi,bf (by omega) (by omega)];rfl,trivial⟩)
   (fun s _=>by
    show ct o p s o.bj.length=_
    unfold ct
    rw [if_neg (by omega)]) m trivial
 rw [e1,e2]
 generalize foldM (·.Key) (·.fi) [] o.al=p
 generalize foldM (·.Key) (·.lI) [] o.bj=m
 unfold fK
 refine Ok.CD o.aD.length (fun (s:List (ae×List Int)) (i:Int)=>(s,i)) (fun i s=>∀ t,(cM s t).getD []=uL (fun m=>decide (m.ar=t)) (o.aD.take i.toNat) 0) (fun s i g0 g1 hv=>?_) [] (fun t=>rfl)
 show Ok (fJ o p m s i) _
 unfold fJ
 split
 ·rename_i hi
  refine Ok.idx g0 hi (fun x hx _=>?_)
  unfold u4
  simp only [Option.bind_some]
  have hb:=xR (fun m=>decide (m.ar=x.ar)) (o.aD.take i.toNat) 0
  rw [← hv x.ar,List.length_take] at hb
  refine Ok.app (by simp;omega) ?_
  rw [bf (by omega) (by omega)]
  refine Ok.ret (.inl ⟨_,rfl,hi,fun t=>?_⟩)
  rw [take_succ g0 hx,Kw _ _ x i (by rw [List.length_take];omega),← hv t,uT]
  by_cases c:x.ar=t
  ·rw [if_pos c,c,if_pos (by simp)];rfl
  ·rw [if_neg c,if_neg (by simpa using c),List.append_nil]
 ·rename_i hi
  have:i=o.aD.length:=by omega
  refine Ok.inr (Ok.ret (.inr ⟨_,rfl,fun t=>?_,rfl⟩))
  have:=hv t
  rw [show i.toNat=o.aD.length by omega,List.take_length] at this
  exact this
theorem Kx {o:bb} {v:ak} (h:cK o=some (some v,0)):iT o=some v:=by
 unfold cK at h
 obtain ⟨v2,h2,h⟩:=UN h
 obtain ⟨v9,h9,h⟩:=UN h
 split at h
 ·cases h
 obtain ⟨v10,h10,h⟩:=UN h
 split at h
 ·cases h
 obtain ⟨v11,h11,h⟩:=UN h
 split at h
 ·cases h
 obtain ⟨v12,h12,h⟩:=UN h
 split at h
 ·cases h
 rw [h2,← (Prod.mk.inj (Option.some.inj h)).1]
theorem L3 {o:bb} (hb:sy o) {v:ak} (h:cK o=some (some v,0)):AtR v o∧v.cG=[]:=by
 have h1:=hb.QX
 have h2:=hb.YO
 have h3:=hb.mem
 obtain ⟨u,hu,hq⟩:=L2 o (by omega) (by omega) (by omega)
 rw [Kx h] at hu
 obtain rfl:=Option.some.inj hu
 exact hq
def VF (v:ak) (f:List (aX×List Int)):ak:=⟨v.bb,v.aW,v.cT,v.at_,f,v.im⟩
theorem Iy (v:ak):VF v v.cG=v:=rfl
def zY (o:bb) (act:ae) (m:aK):Bool:=vB (B0 o m.bN) act
def FB (o:bb) (act t:ae):List Int:=(wk o t).flatMap fun u=>uL (fun m=>decide (m.ar=u)&&zY o act m) o.aD 0
def FM (o:bb) (f:List (aX×List Int)):Prop:=∀ (a t:ae) (l:List Int),cM f ⟨a,t⟩=some l→l=FB o a t
theorem M6 (L:List aK) (c:aK→Bool):∀ us:List ae,us.Nodup→(us.flatMap fun u=>uL (fun m=>decide (m.ar=u)&&c m) L 0).Nodup
 | [],_=>List.nodup_nil
 | u :: us,h=>by
   rw [List.nodup_cons] at h
   rw [List.flatMap_cons,List.nodup_append]
   refine ⟨Ix _ _ _,M6 L c us h.2,fun a ha b hb K4=>?_⟩
   subst K4
   obtain ⟨m,h1,h2⟩:=(vE _ _ _).1 ha
   obtain ⟨u',hu',D6⟩:=List.mem_flatMap.1 hb
   obtain ⟨m',h3,h4⟩:=(vE _ _ _).1 D6
   rw [h1] at h3
   obtain rfl:=Option.some.inj h3
   simp only [Bool.and_eq_true,decide_eq_true_eq] at h2 h4
   rw [← h2.1,h4.1] at h
   exact h.1 hu'
theorem Ky (o:bb) (hn:∀ q,(wk o q).Nodup) (act t:ae):(FB o act t).Perm (uL (fun m=>decide (m.ar∈wk o t)&&zY o act m) o.aD 0):=by
 refine (List.perm_ext_iff_of_nodup (M6 _ _ _ (hn t)) (Ix _ _ _)).2 fun j=>?_
 rw [List.mem_flatMap,vE]
 constructor
 ·rintro ⟨u,hu,hj⟩
  obtain ⟨m,h1,h2⟩:=(vE _ _ _).1 hj
  simp only [Bool.and_eq_true,decide_eq_true_eq] at h2
  exact ⟨m,h1,by simp [h2.1,h2.2,hu]⟩
 ·rintro ⟨m,h1,h2⟩
  simp only [Bool.and_eq_true,decide_eq_true_eq] at h2
  exact ⟨m.ar,h2.1,(vE _ _ _).2 ⟨m,h1,by simp [h2.2]⟩⟩
theorem DZ (o:bb) (hn:∀ q,(wk o q).Nodup) (act t:ae):(FB o act t).length≤o.aD.length:=by
 rw [(Ky o hn act t).length_eq];exact xR _ _ _
theorem M7 {o:bb} {act t:ae} {j:Int} (h:j∈FB o act t):∃ m,idx o.aD j=some m:=by
 obtain ⟨u,_,hj⟩:=List.mem_flatMap.1 h
 obtain ⟨m,h1,_⟩:=(vE _ _ _).1 hj
 exact ⟨m,h1⟩
section
variable {o:bb} (hb:sy o) (hr:BZ o) {v:ak} (hv:Ao v o) (ha:AtR v o)
include hb hr hv ha
theorem YT (f:List (aX×List Int)):wg (VF v f) o:=⟨hv.view.LR,hv.view.par,hv.view.len⟩
theorem Tu (f:List (aX×List Int)) (act:ae) (mF:act.length≤1000000) (u:ae) (n:Int) (hn:0≤n∧n≤100000) (s:List Int) (hs:s.length≤1000000):
 mM (VF v f) act n (uL (fun m=>decide (m.ar=u)) o.aD 0) s 0=some (.inl (s++uL (fun m=>decide (m.ar=u)&&zY o act m) o.aD 0,n+1)):=by
 have hm:=hb.mem
 have hl:=xR (fun m=>decide (m.ar=u)) o.aD 0
 unfold mM
 rw [fu (uL (fun m=>decide (m.ar=u)) o.aD 0) (fun (s:List Int) (i:Int)=>(s,i)) (fun x=>cN (VF v f) act n (uL (fun m=>decide (m.ar=u)) o.aD 0) x.1 x.2) (fun s j=>if Rz (zY o act) o.aD j=true then s++[j] else s) (fun i s=>(s.length:Int)≤1000000+i) (fun s=>some (.inl (s,n+1))) ?_ ?_ s (by omega),foldl_filter,Fm]
 ·intro s i j g0 g1 hi hI
  show cN (VF v f) act n _ s i=_∧_
  unfold cN gG
  obtain ⟨m,TG,_⟩:=(vE _ _ _).1 (gV hi)
  rw [if_pos g1,hi]
  simp only [Option.bind_some]
  rw [show (VF v f).bb=o from hv.view.LR,TG]
  unfold u4
  simp only [Option.bind_some]
  rw [show (cM (VF v f).cT m.bN).getD []=B0 o m.bN from Q1 hb hr hv _,AS _ _ (Kr hb hr _) mF]
  simp only [Option.bind_some]
  have hc:Rz (zY o act) o.aD j=vB (B0 o m.bN) act:=by unfold Rz;rw [TG];rfl
  rw [hc,bf (by omega) (by omega)]
  cases vB (B0 o m.bN) act with
  | true=>
    rw [if_pos rfl,if_pos rfl,nV (by simp;omega)]
    exact ⟨rfl,by simp;omega⟩
  | false=>
    rw [if_neg (by simp),if_neg (by simp)]
    exact ⟨rfl,by omega⟩
 ·intro s hI
  show cN (VF v f) act n _ s _=_
  unfold cN
  rw [if_neg (by omega),bf (by omega) (by omega)]
theorem Fp (f:List (aX×List Int)) (hf:FM o f) (act:ae) (mF:act.length≤1000000) (t:ae):∃ f',gZ (VF v f) act t=some (FB o act t,VF v f')∧FM o f':=by
 have hm:=hb.mem
 have hw:=DX hb hr t
 unfold gZ Ab
 simp only [Option.bind_some]
 cases hk:cM (VF v f).cG (⟨act,t⟩:aX) with
 | some l=>
   rw [if_pos (show (some l).isSome=true from rfl)]
   refine ⟨f,?_,hf⟩
   rw [← hf act t l hk];rfl
 | none=>
   rw [if_neg (by simp),BX (YT hb hr hv ha f) (by have:=hb.QX;omega)]
   simp only [Option.bind_some]
   unfold rO
   rw [fu (wk o t) (fun (s:List Int) (i:Int)=>(s,i)) (fun x=>cO (VF v f) act t (wk o t) x.1 x.2) (fun s u=>s++uL (fun m=>decide (m.ar=u)&&zY o act m) o.aD 0) (fun i s=>(s.length:Int)≤200 * i) (fun s=>some (s,VF v (ji f (⟨act,t⟩:aX) s))) ?_ ?_ [] (by simp),Fo]
   ·refine ⟨_,rfl,fun a t' l hl=>?_⟩
    rw [uT] at hl
    split at hl
    ·rename_i he
     obtain ⟨rfl,rfl⟩:=aX.mk.inj he
     rw [← Option.some.inj hl,List.nil_append];rfl
    ·exact hf a t' l hl
   ·intro s i u g0 g1 hi hI
    show cO (VF v f) act t (wk o t) s i=_∧_
    unfold cO u4
    rw [if_pos g1,hi]
    simp only [Option.bind_some]
    rw [show (cM (VF v f).at_ u).getD []=uL (fun m=>decide (m.ar=u)) o.aD 0 from ha u,Tu hb hr hv ha f act mF u i (by omega) s (by omega)]
    have:=xR (fun m=>decide (m.ar=u)&&zY o act m) o.aD 0
    exact ⟨rfl,by rw [List.length_append];push_cast;omega⟩
   ·intro s hI
    show cO (VF v f) act t (wk o t) s _=_
    unfold cO
    rw [if_neg (by omega)];rfl
end
end Go.Beacon
set_option linter.unusedVariables false
set_option linter.unusedSimpArgs false
set_option linter.unusedSectionVars false
namespace Go.Beacon
open Go Go.Eng
noncomputable def mB (q:Query) (x:aE):Bool:=(iN q x).getD false
noncomputable def Iz (o:bb) (act:ae) (x:aE) (at_:Int) (s:bA):Bool:=(!decide (at_ < s.Time.jj)&&!decide (s.Time.To≤at_))&&(decide (s.jj∈wk o x.Device.ar)&&(vB s.lI act&&mB s.Query x))
noncomputable def L4 (o:bb) (act:ae) (x:aE) (at_:Int) (s:bA):List Reason:=if Iz o act x at_ s=true then (FB o act s.To).map (fun j=>⟨j,s.Key⟩) else []
noncomputable def FC (o:bb) (act:ae) (x:aE) (at_:Int):List Reason:=if x.Device.ar=[] then [] else (FB o act x.Device.ar).map (fun j=>⟨j,[]⟩)++o.aI.flatMap (L4 o act x at_)
def Us (o:bb) (i:Int):ae:=((idx o.aD i).map (·.lV)).getD []
noncomputable def Fq (o:bb) (act:ae) (x:aE) (at_:Int):List ae:=dd GX (Et ((FC o act x at_).map fun r=>Us o r.aK))
theorem B3 {o:bb} {act:ae} {x:aE} {at_:Int} {r:Reason} (h:r∈FC o act x at_):∃ m,idx o.aD r.aK=some m:=by
 unfold FC at h
 split at h
 ·cases h
 rcases List.mem_append.1 h with k | k
 ·obtain ⟨j,hj,rfl⟩:=List.mem_map.1 k
  exact M7 hj
 ·obtain ⟨s,_,hs⟩:=List.mem_flatMap.1 k
  unfold L4 at hs
  split at hs
  ·obtain ⟨j,hj,rfl⟩:=List.mem_map.1 hs
   exact M7 hj
  ·cases hs
theorem za {α β:Type} (g:α→List β) (N:Nat):∀ l:List α,(∀ x∈l,(g x).length≤N)→(l.flatMap g).length≤N * l.length
 | [],_=>by simp
 | x :: r,h=>by
   have h1:=h x (by simp)
   have h2:=za g N r (fun y hy=>h y (by simp [hy]))
   rw [List.flatMap_cons,List.length_append,List.length_cons,Nat.mul_add]
   omega
theorem M8 {o:bb} (hb:sy o) (hr:BZ o) (act:ae) (x:aE) (at_:Int) (s:bA):(L4 o act x at_ s).length≤200:=by
 have:=DZ o hr.nd act s.To
 have:=hb.mem
 unfold L4
 split
 ·rw [List.length_map];omega
 ·simp
theorem IA {o:bb} (hb:sy o) (hr:BZ o) (act:ae) (x:aE) (at_:Int):(FC o act x at_).length≤2200:=by
 have h1:=DZ o hr.nd act x.Device.ar
 have h2:=hb.mem
 have h3:=hb.YP
 have h4:=za (L4 o act x at_) 200 o.aI (fun s _=>M8 hb hr act x at_ s)
 unfold FC
 split
 ·simp
 ·rw [List.length_append,List.length_map]
  have:200 * o.aI.length≤2000:=by omega
  omega
theorem Ut (l:List ae) (hl:l.length≤100000):wM l.length (fun r:List ae=>r.length) (fG l)=some (Et l):=by
 unfold fG Mt wM
 rw [if_pos (by omega)]
 simp only [Option.bind_some]
 have hls:(Et l).length=l.length:=(sX _).length_eq
 rw [if_pos (by first | exact hls | exact hls.symm | omega)]
theorem YU (l:List ae) (hl:l.length≤100000):eh l=some (dd GX l):=S3 [] _ (by omega)
section
variable {o:bb} (hb:sy o) (hr:BZ o) {v:ak} (hv:Ao v o) (ha:AtR v o)
include hb hr hv ha
theorem Tv (f:List (aX×List Int)) (n:Int) (hn:0≤n∧n≤100000) (s:bA) (l:List Int) (hl:l.length≤100000) (acc:List Reason) (yk:acc.length≤1000000):
 mN n s (l,VF v f) acc 0=some (.inl (v.bb.al,v.bb.bj,v.bb.aD,v.bb.aI,v.aW,v.cT,v.at_,f,acc++l.map (fun j=>⟨j,s.Key⟩),n+1)):=by
 unfold mN
 rw [fu l (fun (a:List Reason) (i:Int)=>(a,i)) (fun x=>cP n s (l,VF v f) x.1 x.2) (fun a j=>a++[⟨j,s.Key⟩]) (fun i a=>(a.length:Int)≤1000000+i) (fun a=>some (.inl (v.bb.al,v.bb.bj,v.bb.aD,v.bb.aI,v.aW,v.cT,v.at_,f,a,n+1))) ?_ ?_ acc (by omega),foldl_map]
 ·intro a i j g0 g1 hi hI
  show cP n s (l,VF v f) a i=_∧_
  unfold cP
  dsimp only
  rw [if_pos g1,hi]
  simp only [Option.bind_some]
  rw [nV (by simp;omega)]
  simp only [Option.bind_some]
  rw [bf (by omega) (by omega)]
  exact ⟨rfl,by simp;omega⟩
 ·intro a hI
  show cP n s (l,VF v f) a _=_
  unfold cP dW
  dsimp only
  rw [if_neg (by omega),bf (by omega) (by omega)]
  rfl
theorem Fs (f:List (aX×List Int)) (hf:FM o f) (act:ae) (mF:act.length≤1000000) (x:aE) (at_:Int) (hM:∀ s∈o.aI,dV s.Query x=some (mB s.Query x)):∃ f',hC (VF v f) act x at_=some (FC o act x at_,VF v f')∧FM o f':=by
 have hm:=hb.mem
 have hsh:=hb.YP
 have hor:=hv.view.LR
 unfold hC FC
 by_cases c:x.Device.ar=[]
 ·rw [if_pos c,if_pos c];exact ⟨f,rfl,hf⟩
 rw [if_neg c,if_neg c]
 obtain ⟨f1,e1,hf1⟩:=Fp hb hr hv ha f hf act mF x.Device.ar
 rw [e1]
 simp only [Option.bind_some]
 have hl:=DZ o hr.nd act x.Device.ar
 have key:∀ base:List Reason,base.length≤1000→Ok (gI (VF v f) act x at_ (FB o act x.Device.ar,VF v f1) base) (fun r=>∃ f',r=(base++o.aI.flatMap (L4 o act x at_),VF v f')∧FM o f'):=by
  intro base hbl
  unfold gI
  rw [show (⟨(FB o act x.Device.ar,VF v f1).2.bb,(FB o act x.Device.ar,VF v f1).2.aW,(FB o act x.Device.ar,VF v f1).2.cT,(FB o act x.Device.ar,VF v f1).2.at_,(FB o act x.Device.ar,VF v f1).2.cG,(VF v f).im⟩:ak)=VF v f1 from rfl,BX (YT hb hr hv ha f1) (by have:=hb.QX;omega)]
  simp only [Option.bind_some]
  unfold rP
  refine Ok.CD o.aI.length (fun (s:List (aX×List Int)×List Reason) (i:Int)=>(v.bb.al,v.bb.bj,v.bb.aD,v.bb.aI,v.aW,v.cT,v.at_,s.1,s.2,i)) (fun i s=>FM o s.1∧s.2=base++(o.aI.take i.toNat).flatMap (L4 o act x at_)) (fun s i g0 g1 hI=>?_) (f1,base) ⟨hf1,by simp⟩
  obtain ⟨g,acc⟩:=s
  obtain ⟨hg,yk⟩:=hI
  dsimp only at hg yk ⊢
  have hal:acc.length≤10000:=by
   rw [yk,List.length_append]
   have:=za (L4 o act x at_) 200 (o.aI.take i.toNat) (fun s _=>M8 hb hr act x at_ s)
   have h2:(o.aI.take i.toNat).length≤10:=by rw [List.length_take];omega
   have h3:200 * (o.aI.take i.toNat).length≤2000:=by omega
   omega
  unfold gH
  dsimp only
  rw [show (VF v f1).bb=o from hor]
  split
  ·rename_i hi
   refine Ok.idx g0 hi (fun s hs YV=>?_)
   have skip:Iz o act x at_ s=false→Ok (dW i v.bb.al v.bb.bj v.bb.aD v.bb.aI v.aW v.cT v.at_ g acc) (fun r=>(∃ s':List (aX×List Int)×List Reason,r=.inl (v.bb.al,v.bb.bj,v.bb.aD,v.bb.aI,v.aW,v.cT,v.at_,s'.1,s'.2,i+1)∧i < o.aI.length∧FM o s'.1∧s'.2=base++(o.aI.take (i+1).toNat).flatMap (L4 o act x at_))∨∃ a,r=.inr a∧∃ f',a=(base++o.aI.flatMap (L4 o act x at_),VF v f')∧FM o f'):=by
    intro hc
    unfold dW
    rw [bf (by omega) (by omega)]
    refine Ok.ret (.inl ⟨(g,acc),rfl,hi,hg,?_⟩)
    rw [take_succ g0 hs,List.flatMap_append,← List.append_assoc,← yk,List.flatMap_cons,List.flatMap_nil]
    unfold L4
    rw [hc];simp
   have YW:Iz o act x at_ s=false→Ok (cE (VF v f) act v.bb.al v.bb.bj v.bb.aD v.bb.aI v.aW v.cT v.at_ g acc i s true) (fun r=>(∃ s':List (aX×List Int)×List Reason,r=.inl (v.bb.al,v.bb.bj,v.bb.aD,v.bb.aI,v.aW,v.cT,v.at_,s'.1,s'.2,i+1)∧i < o.aI.length∧FM o s'.1∧s'.2=base++(o.aI.take (i+1).toNat).flatMap (L4 o act x at_))∨∃ a,r=.inr a∧∃ f',a=(base++o.aI.flatMap (L4 o act x at_),VF v f')∧FM o f'):=by
    intro hc
    unfold cE
    rw [if_pos rfl];exact skip hc
   by_cases c1:at_ < s.Time.jj
   ·rw [if_pos c1];exact YW (by unfold Iz;simp [c1])
   rw [if_neg c1]
   by_cases c2:s.Time.To≤at_
   ·rw [if_pos c2];exact YW (by unfold Iz;simp [c2])
   rw [if_neg c2,pt _ _ (by have:=DX hb hr x.Device.ar;omega)]
   simp only [Option.bind_some]
   by_cases c3:s.jj∈wk o x.Device.ar
   ·rw [decide_eq_true c3,if_neg (by simp),AS _ _ (hb.shr s YV).1 mF]
    simp only [Option.bind_some]
    cases c4:vB s.lI act with
    | false=>rw [if_pos (show (!false)=true from rfl)];exact YW (by unfold Iz;simp [c4])
    | true=>
      rw [if_neg (by simp),hM s YV]
      simp only [Option.bind_some]
      cases c5:mB s.Query x with
      | false=>exact YW (by unfold Iz;simp [c5])
      | true=>
        unfold cE
        rw [if_neg (by simp)]
        obtain ⟨g',e2,Wp⟩:=Fp hb hr hv ha g hg act mF s.To
        rw [show (⟨(⟨v.bb.al,v.bb.bj,v.bb.aD,v.bb.aI⟩:bb),v.aW,v.cT,v.at_,g,(VF v f).im⟩:ak)=VF v g from rfl,e2]
        simp only [Option.bind_some]
        have Rk:=DZ o hr.nd act s.To
        rw [Tv hb hr hv ha g' i (by omega) s (FB o act s.To) (by omega) acc (by omega)]
        refine Ok.ret (.inl ⟨(g',acc++(FB o act s.To).map (fun j=>⟨j,s.Key⟩)),rfl,hi,Wp,?_⟩)
        dsimp only
        rw [take_succ g0 hs,List.flatMap_append,← List.append_assoc,← yk,List.flatMap_cons,List.flatMap_nil,List.append_nil]
        unfold L4
        rw [if_pos (by unfold Iz;simp [c1,c2,c3,c4,c5])]
   ·rw [decide_eq_false c3,if_pos (by simp)];exact YW (by unfold Iz;simp [c3])
  ·rename_i hi
   refine Ok.inr (Ok.ret (.inr ⟨_,rfl,g,?_,hg⟩))
   rw [yk,show i.toNat=o.aI.length by omega,List.take_length]
   rfl
 obtain ⟨r,k1,f',rfl,RF⟩:=key ((FB o act x.Device.ar).map (fun j=>⟨j,[]⟩)) (by rw [List.length_map];omega)
 refine ⟨f',?_,RF⟩
 rw [← k1]
 unfold rQ
 rw [fu (FB o act x.Device.ar) (fun (a:List Reason) (i:Int)=>(a,i)) (fun y=>cQ (VF v f) act x at_ (FB o act x.Device.ar,VF v f1) y.1 y.2) (fun a j=>a++[⟨j,[]⟩]) (fun i a=>(a.length:Int)≤i) (fun a=>gI (VF v f) act x at_ (FB o act x.Device.ar,VF v f1) a) ?_ ?_ [] (by simp),foldl_map,List.nil_append]
 ·intro a i j g0 g1 hi hI
  show cQ (VF v f) act x at_ (FB o act x.Device.ar,VF v f1) a i=_∧_
  unfold cQ
  dsimp only
  rw [if_pos g1,hi]
  simp only [Option.bind_some]
  rw [nV (by simp;omega)]
  simp only [Option.bind_some]
  rw [bf (by omega) (by omega)]
  exact ⟨rfl,by simp;omega⟩
 ·intro a hI
  show cQ (VF v f) act x at_ (FB o act x.Device.ar,VF v f1) a _=_
  unfold cQ
  dsimp only
  rw [if_neg (by omega)]
theorem Ft (f:List (aX×List Int)) (hf:FM o f) (act:ae) (mF:act.length≤1000000) (x:aE) (at_:Int) (hM:∀ s∈o.aI,dV s.Query x=some (mB s.Query x)):∃ f',gJ (VF v f) act x at_=some (Fq o act x at_,VF v f')∧FM o f':=by
 have hor:=hv.view.LR
 obtain ⟨f',e1,RF⟩:=Fs hb hr hv ha f hf act mF x at_ hM
 have hl:=IA hb hr act x at_
 unfold gJ
 rw [e1]
 simp only [Option.bind_some]
 refine ⟨f',?_,RF⟩
 unfold tT
 rw [fu (FC o act x at_) (fun (a:List ae) (i:Int)=>(a,i)) (fun y=>dq (VF v f) (FC o act x at_,VF v f') y.1 y.2) (fun a r=>a++[Us o r.aK]) (fun i a=>(a.length:Int)≤i) (fun a=>lh (VF v f) (FC o act x at_,VF v f') a) ?_ ?_ [] (by simp),foldl_map,List.nil_append]
 ·unfold lh Fq
  have YI:((FC o act x at_).map fun r=>Us o r.aK).length≤2200:=by rw [List.length_map];exact hl
  rw [Ut _ (by omega)]
  simp only [Option.bind_some]
  rw [YU _ (by rw [(sX _).length_eq];omega)]
  rfl
 ·intro a i r g0 g1 hi hI
  show dq (VF v f) (FC o act x at_,VF v f') a i=_∧_
  unfold dq
  dsimp only
  obtain ⟨m,hm⟩:=B3 (gV hi)
  rw [if_pos g1,hi]
  simp only [Option.bind_some]
  rw [show (VF v f').bb=o from hor,hm]
  simp only [Option.bind_some]
  rw [nV (by simp;omega)]
  simp only [Option.bind_some]
  rw [bf (by omega) (by omega)]
  refine ⟨?_,by simp;omega⟩
  unfold Us
  rw [hm];rfl
 ·intro a hI
  show dq (VF v f) (FC o act x at_,VF v f') a _=_
  unfold dq
  dsimp only
  rw [if_neg (by omega)]
end
end Go.Beacon
set_option linter.unusedVariables false
set_option linter.unusedSimpArgs false
set_option linter.unusedSectionVars false
namespace Go.Beacon
open Go Go.Eng
theorem IB (s:ae) (h:s.length≤100000000):oT s true=some (wE 5 s):=by
 unfold oT
 rw [xb (by omega)]
 simp only [Option.bind_some]
 have hlen:=tD 46 s
 have sE:=zt 46 s
 have j2:jJ s (cd 46 s)=some (wE 5 s):=by
  unfold jJ nI wE
  rw [xb (by omega)]
  simp only [Option.bind_some]
  by_cases c:(cd 46 s).length≤5
  ·rw [if_pos (by omega)]
   rw [show aM (cd 46 s) (fun y0=>iL y0)=some ((cd 46 s).any (fun y=>!qU y)) from dn _ _ _ (fun x _=>by show iL x=_;unfold iL;rw [mE];rfl) (by omega)]
   simp only [Option.bind_some,Option.some.injEq]
   rw [decide_eq_true c,Bool.true_and,List.not_any_eq_all_not]
   congr 1;funext x;simp
  ·rw [if_neg (by omega),decide_eq_false c];simp
 rcases List.eq_nil_or_concat (cd 46 s) with e | ⟨l,x,e⟩
 ·exact absurd e sE
 rw [List.concat_eq_append] at e
 rw [if_neg (by simp)]
 have hx:idx (cd 46 s) (cr (((cd 46 s).length:Int) - 1))=some x:=by rw [e,Kg,if_pos (by rw [← e];omega)]
 unfold nJ
 rw [if_neg (by simp),hx]
 simp only [Option.bind_some]
 rw [mE]
 simp only [Option.bind_some]
 cases hk:qU x with
 | false=>
   rw [if_pos (by simp)]
   unfold wE
   rw [e];simp [hk]
 | true=>rw [if_neg (by simp),j2]
theorem Kz (s:ae) (h:s.length≤100000000):vh s=some (if wE 5 s=true then 0 else 5):=by
 unfold vh
 rw [IB s h]
 simp only [Option.bind_some]
 cases wE 5 s<;>rfl
theorem KA (s:ae):vg s=some (if qU s=true then 0 else 5):=by
 unfold vg
 rw [mE]
 simp only [Option.bind_some]
 cases qU s<;>rfl
theorem Uu {l:List ae} (h:SS l):l.Nodup:=h.imp (fun h e=>by rw [e,w6] at h;omega)
theorem V3 {a b:List ae} (ha:SS a) (hb:SS b) (h:∀ x,x∈a↔x∈b):a=b:=by
 have hp:a.Perm b:=(List.perm_ext_iff_of_nodup (Uu ha) (Uu hb)).2 h
 refine AP (cf:=Lib.compareBytes) hp (ha.imp (fun h=>by rw [lA];omega)) (hb.imp (fun h=>by rw [lA];omega)) (fun x _ y _ h1 h2=>mD ?_)
 have:=lA x y
 omega
theorem Hj {α β:Type} {f g:α→List β}:∀ l:List α,(∀ x∈l,(f x).Perm (g x))→(l.flatMap f).Perm (l.flatMap g)
 | [],_=>List.Perm.refl _
 | x :: r,h=>by
   rw [List.flatMap_cons,List.flatMap_cons]
   exact (h x (by simp)).append (Hj r (fun y hy=>h y (by simp [hy])))
theorem Fu {p:aK→Bool}:∀ (L:List aK) (i:Int),(∀ m∈L,p m=false)→uL p L i=[]
 | [],_,_=>rfl
 | m :: r,i,h=>by
   show (if p m=true then i :: uL p r (i+1) else uL p r (i+1))=[]
   rw [if_neg (by rw [h m (by simp)];simp),Fu r (i+1) (fun x hx=>h x (by simp [hx]))]
theorem Dc {α β:Type} (f:α→List β) (p:β→Bool):∀ l:List α,(l.flatMap f).filter p=l.flatMap fun x=>(f x).filter p
 | []=>rfl
 | x :: r=>by rw [List.flatMap_cons,List.flatMap_cons,List.filter_append,Dc f p r]
def KR (o:bb) (u act key:ae):List Int:=uL (fun m=>decide (m.lV=u)&&(decide (m.ar∈wk o key)&&zY o act m)) o.aD 0
theorem KB (o:bb) (hn:∀ q,(wk o q).Nodup) (u act t:ae):((FB o act t).filter (Rz (fun m=>decide (m.lV=u)) o.aD)).Perm (KR o u act t):=by
 refine ((Ky o hn act t).filter _).trans ?_
 rw [Fm]
 unfold KR
 have:(fun m:aK=>(decide (m.ar∈wk o t)&&zY o act m)&&decide (m.lV=u))=(fun m=>decide (m.lV=u)&&(decide (m.ar∈wk o t)&&zY o act m)):=by
  funext m;rw [Bool.and_comm]
 rw [this]
theorem Q5 {o:bb} (hr:BZ o):wk o []=[]:=nU (QK hr.tree) _
noncomputable def M9 (o:bb) (u act:ae) (x:aE) (at_:Int) (s:bA):List Reason:=if Iz o act x at_ s=true then (KR o u act s.To).map (fun j=>⟨j,s.Key⟩) else []
noncomputable def V4 (o:bb) (u act:ae) (x:aE) (at_:Int):List Reason:=(KR o u act x.Device.ar).map (fun j=>⟨j,[]⟩)++o.aI.flatMap (M9 o u act x at_)
def Ow (o:bb) (u:ae) (r:Reason):Bool:=Rz (fun m=>decide (m.lV=u)) o.aD r.aK
theorem IC {o:bb} (hr:BZ o) (u act:ae) (x:aE) (at_:Int):((FC o act x at_).filter (Ow o u)).Perm (V4 o u act x at_):=by
 unfold FC V4
 by_cases c:x.Device.ar=[]
 ·rw [if_pos c,c]
  have h1:KR o u act []=[]:=Fu _ _ (fun m _=>by rw [Q5 hr];simp)
  have h2:o.aI.flatMap (M9 o u act x at_)=[]:=by
   rw [List.flatMap_eq_nil_iff]
   intro s _
   unfold M9
   rw [if_neg (by unfold Iz;rw [c,Q5 hr];simp)]
  rw [h1,h2];exact List.Perm.refl _
 ·rw [if_neg c,List.filter_append,List.filter_map,Dc]
  refine List.Perm.append ((KB o hr.nd u act x.Device.ar).map _) (Hj _ fun s _=>?_)
  unfold L4 M9
  split
  ·rw [List.filter_map]
   exact (KB o hr.nd u act s.To).map _
  ·exact List.Perm.refl _
theorem ID {o:bb} {u:ae} {r:Reason} {m:aK} (h:idx o.aD r.aK=some m):Ow o u r=decide (Us o r.aK=u):=by
 unfold Ow Rz Us
 rw [h];rfl
theorem Q6 {o:bb} (u act:ae) (x:aE) (at_:Int):u∈Fq o act x at_↔(FC o act x at_).filter (Ow o u)≠[]:=by
 unfold Fq
 rw [(M4 _ (B2 _)).2,(sX _).mem_iff,List.mem_map]
 constructor
 ·rintro ⟨r,hr,he⟩ h
  obtain ⟨m,hm⟩:=B3 hr
  have:r∈(FC o act x at_).filter (Ow o u):=List.mem_filter.2 ⟨hr,by rw [ID hm,he];simp⟩
  rw [h] at this;cases this
 ·intro h
  obtain ⟨r,hr⟩:=List.exists_mem_of_ne_nil _ h
  obtain ⟨h1,h2⟩:=List.mem_filter.1 hr
  obtain ⟨m,hm⟩:=B3 h1
  rw [ID hm] at h2
  exact ⟨r,h1,by simpa using h2⟩
def B4 (a b:Reason):Int:=if yS a.aK b.aK≠0 then yS a.aK b.aK else Lib.compareBytes a.bA b.bA
theorem Q7:zW B4:=(VM.on (fun r:Reason=>r.aK)).lex (LG.on (fun r:Reason=>r.bA))
theorem Tw {a b:Reason} (h1:¬ B4 a b < 0) (h2:¬ B4 b a < 0):a=b:=by
 have h0:B4 a b=0:=by have:=Q7.neg a b;omega
 unfold B4 at h0
 split at h0
 ·rename_i h;exact absurd h0 h
 ·rename_i h
  have e1:a.aK=b.aK:=N8 (by simpa using h)
  have e2:a.bA=b.bA:=mD h0
  cases a;cases b;simp_all
theorem rOr (a b:Reason):(gD [(cmp_Compare_int a.aK b.aK),(Lib.compareBytes a.bA b.bA)]).bind (fun v3=>some v3)=some (B4 a b):=by
 rw [Or2,QR]
 simp only [Option.bind_some]
 unfold mC B4
 split
 ·rfl
 ·unfold mC
  split
  ·rfl
  ·rename_i h;simp only [Classical.not_not] at h;rw [h];rfl
theorem Uv (f:Reason→Reason→Option Int) (hf:∀ a b,f a b=some (B4 a b)) (X:List Reason) (hl:X.length≤100000):∃ Z,wM X.length (fun r:List Reason=>r.length) (dP X f)=some Z∧Z.Perm X∧SV B4 Z:=by
 obtain ⟨Z,h1,h2,h3⟩:=Qj f B4 X hl (fun a _ b _=>hf a b) (Q7.ord X)
 exact ⟨Z,VN (show dP X f=some Z from h1) h2.length_eq,h2,h3⟩
section
variable {o:bb} (hb:sy o) (hr:BZ o)
include hb hr
theorem Hk (k:ae):fp o k=some (iF (fun t=>decide (t.Key=k)) o.al 0):=o0 o k (by have:=hb.QX;omega)
theorem zb (u act key:ae) (mF:act.length≤1000000):nT o u act key=some (KR o u act key):=by
 have hm:=hb.mem
 unfold nT
 rw [Hk hb hr]
 simp only [Option.bind_some]
 by_cases c:iF (fun t=>decide (t.Key=key)) o.al 0 < 0
 ·rw [if_pos c]
  have hu:=(mV o.al key).1 c
  have:KR o u act key=[]:=Fu _ _ (fun m _=>by rw [show wk o key=[] from nU hu _];simp)
  rw [this]
 ·rw [if_neg c]
  have hu:∃ p,up o.al key=some p:=by
   cases e:up o.al key with
   | none=>exact absurd ((mV o.al key).2 e) c
   | some p=>exact ⟨p,rfl⟩
  have abN:Ok (sN o u act key [] 0) (fun r=>r=KR o u act key):=by
   unfold sN
   refine Ok.CD o.aD.length (fun (s:List Int) (i:Int)=>(s,i)) (fun i s=>s=uL (fun m=>decide (m.lV=u)&&(decide (m.ar∈wk o key)&&zY o act m)) (o.aD.take i.toNat) 0) (fun s i g0 g1 hI=>?_) [] rfl
   show Ok (jS o u act key s i) _
   have O5:s.length≤1000:=by
    rw [hI]
    have:=xR (fun m=>decide (m.lV=u)&&(decide (m.ar∈wk o key)&&zY o act m)) (o.aD.take i.toNat) 0
    rw [List.length_take] at this;omega
   unfold jS
   split
   ·rename_i hi
    refine Ok.idx g0 hi (fun m hmi hmm=>?_)
    have j1:∀ c:Bool,c=(decide (m.lV=u)&&(decide (m.ar∈wk o key)&&zY o act m))→Ok (iz s i c) (fun r=>(∃ s',r=.inl (s',i+1)∧i < o.aD.length∧s'=uL (fun m=>decide (m.lV=u)&&(decide (m.ar∈wk o key)&&zY o act m)) (o.aD.take (i+1).toNat) 0)∨∃ a,r=.inr a∧a=KR o u act key):=by
     intro c hc
     unfold iz mu
     rw [bf (by omega) (by omega)]
     have hs:=Kw (fun m=>decide (m.lV=u)&&(decide (m.ar∈wk o key)&&zY o act m)) (o.aD.take i.toNat) m i (by rw [List.length_take];omega)
     rw [take_succ g0 hmi,hs,← hI]
     rw [← hc]
     cases c with
     | true=>rw [if_pos rfl,nV (by simp;omega)];exact Ok.ret (.inl ⟨_,rfl,hi,rfl⟩)
     | false=>rw [if_neg (by simp)];exact Ok.ret (.inl ⟨_,rfl,hi,by simp⟩)
    by_cases c1:m.lV=u
    ·rw [if_pos c1,QZ hb hr key hu]
     simp only [Option.bind_some]
     rw [pt _ _ (by have:=DX hb hr key;omega)]
     simp only [Option.bind_some]
     by_cases c2:m.ar∈wk o key
     ·rw [if_pos (by simpa using c2),Hh o _ (by have:=hb.YO;omega)]
      obtain ⟨r,e1,e2⟩:=Q0 hb hr m.bN (hr.mem m hmm).2
      simp only [Option.bind_some]
      rw [e1]
      simp only [Option.bind_some]
      rw [e2,BW _ _ (Kr hb hr _) ⟨by simp,fun x hx=>by rw [List.mem_singleton.1 hx];exact mF⟩]
      simp only [Option.bind_some]
      exact j1 _ (by rw [decide_eq_true c1,decide_eq_true c2];simp [uK,zY])
     ·rw [if_neg (by simpa using c2)]
      exact j1 false (by rw [decide_eq_false c2];simp)
    ·rw [if_neg c1]
     exact j1 false (by rw [decide_eq_false c1];simp)
   ·refine Ok.inr (Ok.ret (.inr ⟨_,rfl,?_⟩))
    rw [hI,show i.toNat=o.aD.length by omega,List.take_length];rfl
  obtain ⟨r,h1,rfl⟩:=abN
  exact h1
theorem D0 (u act key:ae):(KR o u act key).length≤200:=Nat.le_trans (xR _ _ _) hb.mem
theorem Na (u act:ae) (x:aE) (at_:Int) (s:bA):(M9 o u act x at_ s).length≤200:=by
 have:=D0 hb hr u act s.To
 unfold M9
 split
 ·rw [List.length_map];omega
 ·simp
theorem Tx (u act:ae) (x:aE) (at_:Int):(V4 o u act x at_).length≤2200:=by
 have h1:=D0 hb hr u act x.Device.ar
 have h3:=hb.YP
 have h4:=za (M9 o u act x at_) 200 o.aI (fun s _=>Na hb hr u act x at_ s)
 unfold V4
 rw [List.length_append,List.length_map]
 have:200 * o.aI.length≤2000:=by omega
 omega
theorem V5 (n:Int) (hn:0≤n∧n≤100000) (s:bA) (l:List Int) (hl:l.length≤100000) (acc:List Reason) (yk:acc.length≤1000000):
 AJ n s l acc 0=some (.inl (acc++l.map (fun j=>⟨j,s.Key⟩),n+1)):=by
 unfold AJ
 rw [fu l (fun (a:List Reason) (i:Int)=>(a,i)) (fun x=>mP n s l x.1 x.2) (fun a j=>a++[⟨j,s.Key⟩]) (fun i a=>(a.length:Int)≤1000000+i) (fun a=>some (.inl (a,n+1))) ?_ ?_ acc (by omega),foldl_map]
 ·intro a i j g0 g1 hi hI
  show mP n s l a i=_∧_
  unfold mP
  rw [if_pos g1,hi]
  simp only [Option.bind_some]
  rw [nV (by simp;omega)]
  simp only [Option.bind_some]
  rw [bf (by omega) (by omega)]
  exact ⟨rfl,by simp;omega⟩
 ·intro a hI
  show mP n s l a _=_
  unfold mP sP
  rw [if_neg (by omega),bf (by omega) (by omega)]
theorem Fv (u act:ae) (mF:act.length≤1000000) (x:aE) (at_:Int) (hM:∀ s∈o.aI,iN s.Query x=some (mB s.Query x)):∃ Z,vZ o u act x at_=some Z∧Z.Perm (V4 o u act x at_)∧SV B4 Z:=by
 have hm:=hb.mem
 have hsh:=hb.YP
 unfold vZ
 rw [zb hb hr u act _ mF]
 simp only [Option.bind_some]
 have hl:=D0 hb hr u act x.Device.ar
 have key:∀ base:List Reason,base.length≤1000→Ok (xH o u act x at_ base 0) (fun Z=>Z.Perm (base++o.aI.flatMap (M9 o u act x at_))∧SV B4 Z):=by
  intro base hbl
  unfold xH
  refine Ok.CD o.aI.length (fun (s:List Reason) (i:Int)=>(s,i)) (fun i s=>s=base++(o.aI.take i.toNat).flatMap (M9 o u act x at_)) (fun acc i g0 g1 yk=>?_) base (by simp)
  show Ok (sQ o u act x at_ acc i) _
  have hal:acc.length≤10000:=by
   rw [yk,List.length_append]
   have:=za (M9 o u act x at_) 200 (o.aI.take i.toNat) (fun s _=>Na hb hr u act x at_ s)
   have h2:(o.aI.take i.toNat).length≤10:=by rw [List.length_take];omega
   have h3:200 * (o.aI.take i.toNat).length≤2000:=by omega
   omega
  unfold sQ
  split
  ·rename_i hi
   refine Ok.idx g0 hi (fun s hs YV=>?_)
   have sk:Iz o act x at_ s=false→Ok (kG o u act acc i s true) (fun r=>(∃ s':List Reason,r=.inl (s',i+1)∧i < o.aI.length∧s'=base++(o.aI.take (i+1).toNat).flatMap (M9 o u act x at_))∨∃ a,r=.inr a∧a.Perm (base++o.aI.flatMap (M9 o u act x at_))∧SV B4 a):=by
    intro hc
    unfold kG sP
    rw [if_pos rfl,bf (by omega) (by omega)]
    refine Ok.ret (.inl ⟨acc,rfl,hi,?_⟩)
    rw [take_succ g0 hs,List.flatMap_append,← List.append_assoc,← yk,List.flatMap_cons,List.flatMap_nil]
    unfold M9
    rw [hc];simp
   rw [Hk hb hr]
   simp only [Option.bind_some]
   by_cases c0:iF (fun t=>decide (t.Key=x.Device.ar)) o.al 0 < 0
   ·rw [if_pos c0]
    have hu:=(mV o.al x.Device.ar).1 c0
    exact sk (by unfold Iz;rw [show wk o x.Device.ar=[] from nU hu _];simp)
   rw [if_neg c0]
   have hu:∃ p,up o.al x.Device.ar=some p:=by
    cases e:up o.al x.Device.ar with
    | none=>exact absurd ((mV o.al x.Device.ar).2 e) c0
    | some p=>exact ⟨p,rfl⟩
   rw [QZ hb hr _ hu]
   simp only [Option.bind_some]
   rw [pt _ _ (by have:=DX hb hr x.Device.ar;omega)]
   simp only [Option.bind_some]
   by_cases c3:s.jj∈wk o x.Device.ar
   ·rw [decide_eq_true c3,if_neg (by simp),hM s YV]
    simp only [Option.bind_some]
    cases c5:mB s.Query x with
    | false=>rw [if_pos (show (!false)=true from rfl)];exact sk (by unfold Iz;simp [c5])
    | true=>
      rw [if_neg (by simp)]
      by_cases c1:at_ < s.Time.jj
      ·rw [if_pos c1];exact sk (by unfold Iz;simp [c1])
      rw [if_neg c1]
      by_cases c2:s.Time.To≤at_
      ·rw [if_pos c2];exact sk (by unfold Iz;simp [c2])
      rw [if_neg c2,BW _ _ (hb.shr s YV).1 ⟨by simp,fun y hy=>by rw [List.mem_singleton.1 hy];exact mF⟩]
      simp only [Option.bind_some]
      rw [show uK s.lI [act]=vB s.lI act by simp [uK]]
      cases c4:vB s.lI act with
      | false=>exact sk (by unfold Iz;simp [c4])
      | true=>
        unfold kG
        rw [if_neg (by simp),zb hb hr u act _ mF]
        simp only [Option.bind_some]
        have Rk:=D0 hb hr u act s.To
        rw [V5 hb hr i (by omega) s (KR o u act s.To) (by omega) acc (by omega)]
        refine Ok.ret (.inl ⟨_,rfl,hi,?_⟩)
        rw [take_succ g0 hs,List.flatMap_append,← List.append_assoc,← yk,List.flatMap_cons,List.flatMap_nil,List.append_nil]
        unfold M9
        rw [if_pos (by unfold Iz;simp [c1,c2,c3,c4,c5])]
   ·rw [decide_eq_false c3,if_pos (by simp)];exact sk (by unfold Iz;simp [c3])
  ·rename_i hi
   unfold AK
   obtain ⟨Z,h1,h2,h3⟩:=Uv (fun y0 y1=>xG y0 y1) (fun a b=>rOr a b) acc (by omega)
   rw [h1]
   refine Ok.inr (Ok.ret (.inr ⟨Z,rfl,?_,h3⟩))
   rw [yk,show i.toNat=o.aI.length by omega,List.take_length] at h2
   exact h2
 obtain ⟨Z,k1,k2,k3⟩:=key ((KR o u act x.Device.ar).map (fun j=>⟨j,[]⟩)) (by rw [List.length_map];omega)
 refine ⟨Z,?_,k2,k3⟩
 rw [← k1]
 unfold EO
 rw [fu (KR o u act x.Device.ar) (fun (a:List Reason) (i:Int)=>(a,i)) (fun y=>mQ o u act x at_ (KR o u act x.Device.ar) y.1 y.2) (fun a j=>a++[⟨j,[]⟩]) (fun i a=>(a.length:Int)≤i) (fun a=>xH o u act x at_ a 0) ?_ ?_ [] (by simp),foldl_map,List.nil_append]
 ·intro a i j g0 g1 hi hI
  show mQ o u act x at_ (KR o u act x.Device.ar) a i=_∧_
  unfold mQ
  rw [if_pos g1,hi]
  simp only [Option.bind_some]
  rw [nV (by simp;omega)]
  simp only [Option.bind_some]
  rw [bf (by omega) (by omega)]
  exact ⟨rfl,by simp;omega⟩
 ·intro a hI
  show mQ o u act x at_ (KR o u act x.Device.ar) a _=_
  unfold mQ
  rw [if_neg (by omega)]
theorem Dd (x:aE) (hx:Cc x) (hf:dE x=some 0):∀ s∈o.aI,dV s.Query x=some (mB s.Query x)∧iN s.Query x=some (mB s.Query x):=by
 intro s hs
 obtain ⟨r,q1,_,q3⟩:=Am s.Query (hb.shr s hs).2
 rw [(hr.shr s hs).2] at q1
 obtain ⟨b,h1,h2⟩:=Iq s.Query (hb.shr s hs).2 (q3 (Option.some.inj q1).symm) x hx hf
 have:mB s.Query x=b:=by unfold mB;rw [h2];rfl
 rw [this];exact ⟨h1,h2⟩
end
end Go.Beacon
set_option linter.unusedVariables false
set_option linter.unusedSimpArgs false
set_option linter.unusedSectionVars false
namespace Go.Beacon
open Go Go.Eng
def eK (u:ae):Int:=if qU u=true then 0 else 5
def eA (act:ae):Int:=if wE 5 act=true then 0 else 5
def eT (o:bb) (x:aE):Int:=if x.Device.ar≠[]∧up o.al x.Device.ar=none then 8 else 0
def eM (at_:Int):Int:=if 0≤at_∧at_≤345686399999 then 0 else 1
theorem KC (at_:Int):oQ at_=decide (0≤at_∧at_≤345686399999):=by
 rw [Oa,Bool.decide_and]
theorem zc (at_:Int):cF at_=eM at_:=by
 unfold cF yf xB eM
 by_cases c:0≤at_∧at_≤345686399999
 ·rw [if_pos c,if_neg (by simp [c])]
 ·rw [if_neg c,if_pos (by simp;omega)]
theorem zd {o:bb} (hb:sy o) (x:aE):nR o x=some (eT o x):=by
 unfold nR mq eT
 by_cases c:x.Device.ar=[]
 ·rw [if_neg (fun k=>k c),if_neg (by simp),if_neg (fun k=>k.1 c)]
 ·rw [if_pos c,o0 o _ (by have:=hb.QX;omega)]
  simp only [Option.bind_some]
  have:=mV o.al x.Device.ar
  by_cases d:up o.al x.Device.ar=none
  ·rw [if_pos (by simpa using this.2 d),if_pos ⟨c,d⟩]
  ·rw [if_neg (by simpa using fun k=>d (this.1 k)),if_neg (fun k=>d k.2)]
theorem Q8 (u:ae):gA u=some (qU u):=vz u
theorem Or5 (a b c d e:Int):gQ [a,b,c,d,e]=some (mC [a,b,c,d,e]):=yR _ (by simp)
theorem Or4 (a b c d:Int):gQ [a,b,c,d]=some (mC [a,b,c,d]):=yR _ (by simp)
theorem fP (l:List Int):mC (0 :: l)=mC l:=by
 show (if (0:Int)≠0 then 0 else mC l)=mC l
 rw [if_neg (fun k=>k rfl)]
theorem eQ {a:Int} (h:a≠0) (l:List Int):mC (a :: l)=a:=by
 show (if a≠0 then a else mC l)=a
 rw [if_pos h]
theorem IE (a:Int):mC [a]=a:=by
 by_cases h:a=0
 ·rw [h,fP];rfl
 ·rw [eQ h]
section
variable {o:bb} (hb:sy o) {v:ak} (hv:Ao v o)
include hb hv
theorem B5 (x:aE) (f at_:Int) (hf:dE x=some f):fR v x at_=some (mC [f,eT o x,eM at_]):=by
 unfold fR
 rw [hf]
 simp only [Option.bind_some]
 by_cases c:f=0
 ·rw [if_neg (fun k=>k c),c,fP]
  have j1:∀ b:Bool,(b=true↔eT o x≠0)→(eT o x=0∨eT o x=8)→et at_ b=some (mC [eT o x,eM at_]):=by
   intro b h1 h2
   unfold et
   rw [KC]
   cases b with
   | true=>
     rw [if_pos rfl]
     have:=h1.1 rfl
     rw [eQ this]
     rcases h2 with k | k
     ·exact absurd k this
     ·rw [k]
   | false=>
     have:eT o x=0:=by
      rcases h2 with k | k
      ·exact k
      ·have:=h1.2 (by omega);cases this
     rw [if_neg (by simp),this,fP,IE]
     unfold eM
     by_cases d:0≤at_∧at_≤345686399999
     ·rw [if_neg (by simp [d]),if_pos d]
     ·rw [if_pos (by simp;omega),if_neg d]
  by_cases d:x.Device.ar=[]
  ·rw [if_neg (fun k=>k d)]
   exact j1 false (by unfold eT;simp [d]) (by unfold eT;simp [d])
  ·rw [if_pos d,C6 hv.view]
   simp only [Option.bind_some]
   refine j1 _ ?_ ?_
   ·unfold eT
    cases e:up o.al x.Device.ar<;>simp [d]
   ·unfold eT
    cases e:up o.al x.Device.ar<;>simp [d]
 ·rw [if_pos c,eQ c]
end
theorem KD {o:bb} (hb:sy o) (u act:ae) (mF:act.length≤1000000) (x:aE) (f at_:Int) (hf:dE x=some f) {v:ak} (hv:Ao v o) (hc:cK o=some (some v,0)):
 lg o u act x at_=some (if mC [eK u,eA act,f,eT o x,eM at_]=0 then (some v,0) else (none,mC [eK u,eA act,f,eT o x,eM at_])):=by
 unfold lg
 rw [hc]
 simp only [Option.bind_some,j5]
 rw [if_neg (fun k=>k rfl),Q8]
 simp only [Option.bind_some]
 unfold nq eK
 cases hk:qU u with
 | false=>
   rw [if_pos (by simp),if_pos rfl]
   simp only [Bool.false_eq_true,if_false]
   rw [eQ (by omega),if_neg (by omega)]
 | true=>
   rw [if_neg (by simp),vA act (by omega),if_pos rfl,fP]
   simp only [Option.bind_some]
   unfold eA
   cases hd:wE 5 act with
   | false=>
     rw [if_pos (by simp)]
     simp only [Bool.false_eq_true,if_false]
     rw [eQ (by omega),if_neg (by omega)]
   | true=>
     rw [if_neg (by simp),if_pos rfl,fP,B5 hb hv x f at_ hf]
     simp only [Option.bind_some]
     by_cases z:mC [f,eT o x,eM at_]=0
     ·rw [if_neg (fun k=>k z),if_pos z]
     ·rw [if_pos z,if_neg z]
theorem Q9 {o:bb} (hb:sy o) (act:ae) (mF:act.length≤1000000) (x:aE) (f at_:Int) (hf:dE x=some f) {v:ak} (hv:Ao v o) (hc:cK o=some (some v,0)):
 iy o act x at_=some (if mC [eA act,f,eT o x,eM at_]=0 then (some v,0) else (none,mC [eA act,f,eT o x,eM at_])):=by
 unfold iy
 rw [hc]
 simp only [Option.bind_some,j5]
 rw [if_neg (fun k=>k rfl),vA act (by omega)]
 simp only [Option.bind_some]
 unfold eA
 cases hd:wE 5 act with
 | false=>
   rw [if_pos (by simp)]
   simp only [Bool.false_eq_true,if_false]
   rw [eQ (by omega),if_neg (by omega)]
 | true=>
   rw [if_neg (by simp),if_pos rfl,fP,B5 hb hv x f at_ hf]
   simp only [Option.bind_some]
   by_cases z:mC [f,eT o x,eM at_]=0
   ·rw [if_neg (fun k=>k z),if_pos z]
   ·rw [if_pos z,if_neg z]
section
variable {o:bb} (hb:sy o) (hr:BZ o) {v:ak} (hv:Ao v o) (ha:AtR v o) (h0:v.cG=[]) (hc:cK o=some (some v,0))
include hb hr hv ha h0 hc
theorem IF:FM o v.cG:=fun a t l h=>by rw [h0] at h;cases h
theorem IG (act:ae) (x:aE) (at_:Int):(Fq o act x at_).length≤2200:=by
 have:=IA hb hr act x at_
 unfold Fq
 refine Nat.le_trans (Qm _ _) ?_
 rw [(sX _).length_eq,List.length_map];exact this
theorem V6 (u act:ae) (mF:act.length≤1000000) (x:aE) (f at_:Int) (hf:dE x=some f) (hM:f=0→∀ s∈o.aI,dV s.Query x=some (mB s.Query x)):
 qt o u act x at_=some (if mC [eK u,eA act,f,eT o x,eM at_]=0 then (decide (u∈Fq o act x at_),0) else (false,mC [eK u,eA act,f,eT o x,eM at_])):=by
 unfold qt
 rw [KD hb u act mF x f at_ hf hv hc]
 simp only [Option.bind_some]
 by_cases z:mC [eK u,eA act,f,eT o x,eM at_]=0
 ·rw [if_pos z,if_pos z]
  simp only [j5]
  rw [if_neg (fun k=>k rfl)]
  have hz:f=0:=by
   apply Classical.byContradiction
   intro k
   unfold mC at z;split at z
   ·rename_i h;exact h z
   unfold mC at z;split at z
   ·rename_i h;exact h z
   rw [eQ k] at z;exact k z
  obtain ⟨f',e1,_⟩:=Ft hb hr hv ha v.cG (IF hb hr hv ha h0 hc) act mF x at_ (hM hz)
  rw [Iy] at e1
  rw [e1]
  simp only [Option.bind_some]
  rw [pt _ _ (by have:=IG hb hr hv ha h0 hc act x at_;omega)]
  rfl
 ·rw [if_neg z,if_neg z]
  simp only [j5]
  rw [if_pos z]
theorem V7 (act:ae) (mF:act.length≤1000000) (x:aE) (f at_:Int) (hf:dE x=some f) (hM:f=0→∀ s∈o.aI,dV s.Query x=some (mB s.Query x)):
 qy o act x at_=some (if mC [eA act,f,eT o x,eM at_]=0 then (Fq o act x at_,0) else ([],mC [eA act,f,eT o x,eM at_])):=by
 unfold qy
 rw [Q9 hb act mF x f at_ hf hv hc]
 simp only [Option.bind_some]
 by_cases z:mC [eA act,f,eT o x,eM at_]=0
 ·rw [if_pos z,if_pos z]
  simp only [j5]
  rw [if_neg (fun k=>k rfl)]
  have hz:f=0:=by
   apply Classical.byContradiction
   intro k
   unfold mC at z;split at z
   ·rename_i h;exact h z
   rw [eQ k] at z;exact k z
  obtain ⟨f',e1,_⟩:=Ft hb hr hv ha v.cG (IF hb hr hv ha h0 hc) act mF x at_ (hM hz)
  rw [Iy] at e1
  rw [e1]
  rfl
 ·rw [if_neg z,if_neg z]
  simp only [j5]
  rw [if_pos z]
theorem V8 (u act:ae) (mF:act.length≤1000000) (x:aE) (f at_:Int) (hf:dE x=some f) (hM:f=0→∀ s∈o.aI,dV s.Query x=some (mB s.Query x)):
 ∃ Z,qx o u act x at_=some (if mC [eK u,eA act,f,eT o x,eM at_]=0 then (Z,0) else ([],mC [eK u,eA act,f,eT o x,eM at_]))∧Z.Perm (V4 o u act x at_)∧SV B4 Z:=by
 have YI:=IA hb hr act x at_
 obtain ⟨Z,h1,h2,h3⟩:=Uv (fun y0 y1=>tq y0 y1) (fun a b=>rOr a b) ((FC o act x at_).filter (Ow o u)) (Nat.le_trans (List.length_filter_le _ _) (by omega))
 refine ⟨Z,?_,h2.trans (IC hr u act x at_),h3⟩
 unfold qx
 rw [KD hb u act mF x f at_ hf hv hc]
 simp only [Option.bind_some]
 by_cases z:mC [eK u,eA act,f,eT o x,eM at_]=0
 ·rw [if_pos z,if_pos z]
  simp only [j5]
  rw [if_neg (fun k=>k rfl)]
  have hz:f=0:=by
   apply Classical.byContradiction
   intro k
   unfold mC at z;split at z
   ·rename_i h;exact h z
   unfold mC at z;split at z
   ·rename_i h;exact h z
   rw [eQ k] at z;exact k z
  obtain ⟨f',e1,_⟩:=Fs hb hr hv ha v.cG (IF hb hr hv ha h0 hc) act mF x at_ (hM hz)
  rw [Iy] at e1
  rw [e1]
  simp only [Option.bind_some]
  rw [show fe (FC o act x at_) (fun y0=>nH y0 ⟨(VF v f').bb,(VF v f').aW,(VF v f').cT,(VF v f').at_,(VF v f').cG,v.im⟩ u)=some ((FC o act x at_).filter (fun r=>!(!Ow o u r))) from MP (⟨0,[]⟩:Reason) _ (fun r=>!Ow o u r) _ (by omega) (fun r UR=>by
   obtain ⟨m,hm⟩:=B3 UR
   show nH r _ u=_
   unfold nH
   rw [show (VF v f').bb=o from hv.view.LR,hm]
   simp only [Option.bind_some]
   unfold Ow Rz
   rw [hm]
   simp)]
  simp only [Option.bind_some,Bool.not_not]
  rw [show (fun r=>Ow o u r)=Ow o u from rfl,h1]
  rfl
 ·rw [if_neg z,if_neg z]
  simp only [j5]
  rw [if_pos z]
end
end Go.Beacon
set_option linter.unusedVariables false
set_option linter.unusedSimpArgs false
namespace Go.Beacon
open Go Go.Eng
def ON (m:Nat) (l:List jk):Prop:=l.length≤m∧∀ t∈l,t.Name.length≤100000∧t.Value.length≤100000
def Ra (m:Nat) (l:List ew):Prop:=l.length≤m∧∀ p∈l,p.Name.length≤100000∧p.Value.Words.length≤100000
theorem ON.snoc {m:Nat} {l:List jk} {t:jk} (h:ON m l) (h1:t.Name.length≤100000) (h2:t.Value.length≤100000):ON (m+1) (l++[t]):=
 ⟨by rw [List.length_append];exact Nat.succ_le_succ h.1,fun x hx=>by
  rcases List.mem_append.1 hx with k | k
  ·exact h.2 x k
  ·rw [List.mem_singleton.1 k];exact ⟨h1,h2⟩⟩
theorem Ra.snoc {m:Nat} {l:List ew} {t:ew} (h:Ra m l) (h1:t.Name.length≤100000) (h2:t.Value.Words.length≤100000):Ra (m+1) (l++[t]):=
 ⟨by rw [List.length_append];exact Nat.succ_le_succ h.1,fun x hx=>by
  rcases List.mem_append.1 hx with k | k
  ·exact h.2 x k
  ·rw [List.mem_singleton.1 k];exact ⟨h1,h2⟩⟩
theorem Ox (key:ae) (v2 v3:ae×tC) (v4 v5:Int×tC) (tg:List jk) (pr:List ew) (ht:ON 10 tg) (hp:Ra 10 pr) (L:List Int) (n:Int) (K:Int) (hs:nW ⟨L,n⟩ K) (hK:6≤K):
 Ok (rH key v2 v3 v4 v5 tg L n pr) (fun r=>Cc r.1∧nW r.2 (K - 6)):=by
 have j3:∀ {v2:ae×tC} {v4:Int×tC} {L:List Int} {n:Int} {a b:ae} {z:Int} {tg:List jk} {pr:List ew} {K':Int},nW ⟨L,n⟩ K'→K - 6≤K'→ON 20 tg→Ra 20 pr→Ok (oG v2 v4 L n a b z tg pr) (fun r=>Cc r.1∧nW r.2 (K - 6)):=by
  intro v2 v4 L n a b z tg pr K' h1 h2 h3 h4
  exact Ok.ret ⟨⟨Nat.le_trans h3.1 (by omega),Nat.le_trans h4.1 (by omega),h3.2,h4.2⟩,h1.less h2⟩
 have ht':ON 20 tg:=⟨Nat.le_trans ht.1 (by omega),ht.2⟩
 have eV:Ra 20 pr:=⟨Nat.le_trans hp.1 (by omega),hp.2⟩
 have Wj:=ht.1
 have OY:=hp.1
 unfold rH
 refine Ok.gen (sW hs (by omega) (by omega) (by omega)) (fun c s1 _ q1=>?_)
 dsimp only
 split
 ·refine Ok.gen (sV q1 (by omega) (by omega) (by omega)) (fun c s2 _ q2=>?_)
  dsimp only
  split
  ·refine Ok.gen (gh q2 (by omega) (by simp) (by simp)) (fun a s3 _ q3=>?_)
   refine Ok.gen (gh q3 (by omega) (by simp) (by simp)) (fun b s4 _ q4=>?_)
   exact j3 q4 (by omega) ht' eV
  split
  ·refine Ok.gen (QA q2 (by omega) (by omega) (by omega) (by omega)) (fun b s4 _ q4=>?_)
   exact j3 q4 (by omega) ht' eV
  split
  ·refine Ok.gen (gh q2 (by omega) (by simp) (by simp)) (fun a s3 ha q3=>?_)
   refine Ok.gen (gh q3 (by omega) (by simp) (by simp)) (fun b s4 hb q4=>?_)
   refine Ok.app (by simp;omega) ?_
   have h:=ON.snoc (t:=⟨a,b⟩) ht (pv ha (by decide)) (pv hb (by decide))
   exact j3 q4 (by omega) ⟨Nat.le_trans h.1 (by omega),h.2⟩ eV
  ·refine Ok.gen (gh q2 (by omega) (by simp) (by simp)) (fun a s3 ha q3=>?_)
   refine Ok.gen (QA q3 (by omega) (by omega) (by omega) (by omega)) (fun b s4 _ q4=>?_)
   refine Ok.app (by simp;omega) ?_
   have h:=Ra.snoc (t:=⟨a,⟨b,false,0,[]⟩⟩) hp (pv ha (by decide)) (by simp)
   exact j3 q4 (by omega) ht' ⟨Nat.le_trans h.1 (by omega),h.2⟩
 ·exact j3 q1 (by omega) ht' eV
theorem Oy (key:ae) (v2 v3:ae×tC) (v4 v5:Int×tC) (tg:List jk) (ht:ON 10 tg) (L:List Int) (n:Int) (K:Int) (hs:nW ⟨L,n⟩ K) (hK:16≤K):
 Ok (va key v2 v3 v4 v5 tg L n [] 0) (fun r=>Cc r.1∧nW r.2 (K - 16)):=by
 unfold va
 refine Ok.iter (fun x:(List Int)×Int×(List ew)×Int=>(2 - x.2.2.2).toNat) (fun x=>(0≤x.2.2.2∧x.2.2.2≤2)∧nW ⟨x.1,x.2.1⟩ (K - 5 * x.2.2.2)∧Ra x.2.2.2.toNat x.2.2.1) ?_ _ ⟨by simp,by simpa using hs,by simp,fun p h=>(by cases h)⟩
 rintro ⟨L,n,pr,i⟩ ⟨h0,h1,h2⟩
 dsimp only at h0 h1 h2 ⊢
 have w1:cr (i+1)=i+1:=bf (by omega) (by omega)
 have OY:=h2.1
 unfold oH
 have nx:∀ {L':List Int} {n':Int} {pr':List ew} {K':Int},i < 2→nW ⟨L',n'⟩ K'→K - 5 * (i+1)≤K'→Ra (i+1).toNat pr'→Ok (me i L' n' pr') (Um (fun x:(List Int)×Int×(List ew)×Int=>(2 - x.2.2.2).toNat) (fun x=>(0≤x.2.2.2∧x.2.2.2≤2)∧nW ⟨x.1,x.2.1⟩ (K - 5 * x.2.2.2)∧Ra x.2.2.2.toNat x.2.2.1) (fun r=>Cc r.1∧nW r.2 (K - 16)) (L,n,pr,i)):=by
  intro L' n' pr' K' g1 g2 g3 g4
  unfold me
  rw [w1]
  exact Ok.ret ⟨⟨⟨by dsimp only;omega,by dsimp only;omega⟩,g2.less (by dsimp only;omega),g4⟩,by dsimp only;omega⟩
 split
 ·rename_i hi
  have hi:i < 2:=by simpa using hi
  refine Ok.idx h0.1 (by simpa using hi) (fun nm _ Mb=>?_)
  have Mb:nm.length≤100000:=pv Mb (by decide)
  refine Ok.gen (sW h1 (by omega) (by omega) (by omega)) (fun c s1 _ q1=>?_)
  dsimp only
  split
  ·refine Ok.gen (mU q1 (by omega) (by simp) (by simp)) (fun a s2 _ q2=>?_)
   refine Ok.gen (sW q2 (by omega) (by omega) (by omega)) (fun b s3 _ q3=>?_)
   refine Ok.gen (gh q3 (by omega) (by simp) (by simp)) (fun w s4 hw q4=>?_)
   refine Ok.gen (mU q4 (by omega) (by simp) (by simp)) (fun d s5 hd q5=>?_)
   have CS:=BT (lo:=0) (hi:=2) hd (by decide)
   dsimp only
   refine Ok.idx CS.1 (by simp;omega) (fun v _ hv=>?_)
   refine Ok.app (by simp;omega) ?_
   refine nx hi q5 (by omega) ?_
   have hvw:v.Words.length≤100000:=by
    simp only [List.mem_cons,List.not_mem_nil,or_false] at hv
    rcases hv with rfl | rfl | rfl
    ·simp
    ·simp
    ·exact pv hw (by decide)
   have h:=Ra.snoc (t:=⟨nm,v⟩) h2 Mb hvw
   exact ⟨Nat.le_trans h.1 (by omega),h.2⟩
  ·exact nx hi q1 (by omega) ⟨Nat.le_trans h2.1 (by omega),h2.2⟩
 ·refine Ok.inr ?_
  exact (Ox key v2 v3 v4 v5 tg pr ht ⟨Nat.le_trans h2.1 (by omega),h2.2⟩ L n (K - 10) (h1.less (by omega)) (by omega)).mono (fun r hr=>⟨hr.1,hr.2.less (by omega)⟩)
theorem Rb {s:tC} {K:Int} (key:ae) (hs:nW s K) (hK:30≤K):qT (qH s key) (K - 30) Cc:=by
 refine qT.of ?_
 unfold qH
 refine Ok.gen (gh hs (by omega) (by simp) (by simp)) (fun v2 s1 _ q1=>?_)
 refine Ok.gen (gh q1 (by omega) (by simp) (by simp)) (fun v3 s2 _ q2=>?_)
 refine Ok.gen (sV q2 (by omega) (by omega) (by omega)) (fun v4 s3 _ q3=>?_)
 refine Ok.gen (mU q3 (by omega) (by simp) (by simp)) (fun v5 s4 _ q4=>?_)
 dsimp only
 unfold yF
 refine Ok.iter (fun x:(List Int)×Int×(List jk)×Int=>(2 - x.2.2.2).toNat) (fun x=>(0≤x.2.2.2∧x.2.2.2≤2)∧nW ⟨x.1,x.2.1⟩ (K - 4 - 2 * x.2.2.2)∧ON x.2.2.2.toNat x.2.2.1) ?_ _ ⟨by simp,q4.less (by simp;omega),by simp,fun p h=>(by cases h)⟩
 rintro ⟨L,n,tg,i⟩ ⟨h0,h1,h2⟩
 dsimp only at h0 h1 h2 ⊢
 have w1:cr (i+1)=i+1:=bf (by omega) (by omega)
 have OY:=h2.1
 unfold oI
 have nx:∀ {L':List Int} {n':Int} {tg':List jk} {K':Int},i < 2→nW ⟨L',n'⟩ K'→K - 4 - 2 * (i+1)≤K'→ON (i+1).toNat tg'→Ok (mc i L' n' tg') (Um (fun x:(List Int)×Int×(List jk)×Int=>(2 - x.2.2.2).toNat) (fun x=>(0≤x.2.2.2∧x.2.2.2≤2)∧nW ⟨x.1,x.2.1⟩ (K - 4 - 2 * x.2.2.2)∧ON x.2.2.2.toNat x.2.2.1) (fun r=>Cc r.1∧nW r.2 (K - 30)) (L,n,tg,i)):=by
  intro L' n' tg' K' g1 g2 g3 g4
  unfold mc
  rw [w1]
  exact Ok.ret ⟨⟨⟨by dsimp only;omega,by dsimp only;omega⟩,g2.less (by dsimp only;omega),g4⟩,by dsimp only;omega⟩
 split
 ·rename_i hi
  have hi:i < 2:=by simpa using hi
  refine Ok.idx h0.1 (by simpa using hi) (fun nm _ Mb=>?_)
  have Mb:nm.length≤100000:=pv Mb (by decide)
  refine Ok.gen (sW h1 (by omega) (by omega) (by omega)) (fun c s1 _ q1=>?_)
  dsimp only
  split
  ·refine Ok.gen (gh q1 (by omega) (by simp) (by simp)) (fun w s2 hw q2=>?_)
   refine Ok.app (by simp;omega) ?_
   refine nx hi q2 (by omega) ?_
   have h:=ON.snoc (t:=⟨nm,w⟩) h2 Mb (pv hw (by decide))
   exact ⟨Nat.le_trans h.1 (by omega),h.2⟩
  ·exact nx hi q1 (by omega) ⟨Nat.le_trans h2.1 (by omega),h2.2⟩
 ·refine Ok.inr ?_
  exact (Oy key (v2,s1) (v3,s2) (v4,s3) (v5,s4) tg ⟨Nat.le_trans h2.1 (by omega),h2.2⟩ L n (K - 8) (h1.less (by omega)) (by omega)).mono (fun r hr=>⟨hr.1,hr.2.less (by omega)⟩)
theorem L5 {s:tC} {K:Int} (hs:nW s K) (hK:130≤K):qT (ni s) (K - 130) (fun l=>l.length≤4∧∀ x∈l,Cc x):=by
 refine qT.of ?_
 unfold ni vb
 refine Ok.iter (fun x:(List Int)×Int×(List aE)×Int=>(4 - x.2.2.2).toNat) (fun x=>(0≤x.2.2.2∧x.2.2.2≤4)∧nW ⟨x.1,x.2.1⟩ (K - 31 * x.2.2.2)∧x.2.2.1.length≤x.2.2.2.toNat∧∀ y∈x.2.2.1,Cc y) ?_ _ ⟨by simp,by simpa using hs,by simp,fun p h=>(by cases h)⟩
 rintro ⟨L,n,l,i⟩ ⟨h0,h1,h2,h3⟩
 dsimp only at h0 h1 h2 h3 ⊢
 have w1:cr (i+1)=i+1:=bf (by omega) (by omega)
 unfold ko
 have nx:∀ {L':List Int} {n':Int} {l':List aE} {K':Int},i < 4→nW ⟨L',n'⟩ K'→K - 31 * (i+1)≤K'→l'.length≤(i+1).toNat→(∀ y∈l',Cc y)→Ok (iu i L' n' l') (Um (fun x:(List Int)×Int×(List aE)×Int=>(4 - x.2.2.2).toNat) (fun x=>(0≤x.2.2.2∧x.2.2.2≤4)∧nW ⟨x.1,x.2.1⟩ (K - 31 * x.2.2.2)∧x.2.2.1.length≤x.2.2.2.toNat∧∀ y∈x.2.2.1,Cc y) (fun r=>(r.1.length≤4∧∀ x∈r.1,Cc x)∧nW r.2 (K - 130)) (L,n,l,i)):=by
  intro L' n' l' K' g1 g2 g3 g4 g5
  unfold iu
  rw [w1]
  exact Ok.ret ⟨⟨⟨by dsimp only;omega,by dsimp only;omega⟩,g2.less (by dsimp only;omega),g4,g5⟩,by dsimp only;omega⟩
 split
 ·rename_i hi
  have hi:i < 4:=by simpa using hi
  refine Ok.idx h0.1 (by simpa using hi) (fun nm _ Mb=>?_)
  refine Ok.gen (sW h1 (by omega) (by omega) (by omega)) (fun c s1 _ q1=>?_)
  dsimp only
  split
  ·refine Ok.gen (Rb nm q1 (by omega)) (fun x s2 hx q2=>?_)
   refine Ok.app (by simp;omega) ?_
   refine nx hi q2 (by omega) (by simp;omega) (fun y hy=>?_)
   rcases List.mem_append.1 hy with k | k
   ·exact h3 y k
   ·rw [List.mem_singleton.1 k];exact hx
  ·exact nx hi q1 (by omega) (by omega) h3
 ·exact Ok.inr (Ok.ret ⟨⟨by dsimp only;omega,h3⟩,h1.less (by omega)⟩)
end Go.Beacon
set_option linter.unusedVariables false
set_option linter.unusedSimpArgs false
set_option linter.unusedSectionVars false
namespace Go.Beacon
open Go Go.Eng
theorem KE {α β:Type} (p:α→Bool) (g:α→β):∀ (l:List α) (acc:List β),l.foldl (fun acc x=>if p x=true then acc++[g x] else acc) acc=acc++(l.filter p).map g
 | [],acc=>by simp
 | x :: r,acc=>by
   rw [List.foldl_cons,KE p g r,List.filter_cons]
   cases p x<;>simp
def KF (o:bb) (l:List aE):Int:=if l.any (fun x=>decide (eT o x≠0))=true then 8 else 0
theorem Rc (o:bb) (x:aE):eT o x=0∨eT o x=8:=by unfold eT;split<;>simp
theorem Nb (a b:Int):mC [a,b]=if a≠0 then a else b:=by
 by_cases h:a=0
 ·rw [h,fP,IE,if_neg (fun k=>k rfl)]
 ·rw [eQ h,if_pos h]
theorem KG (o:bb):∀ l:List aE,l.foldl (fun n x=>mC [n,eT o x]) 0=KF o l∧l.foldl (fun n x=>mC [n,eT o x]) 8=8
 | []=>⟨rfl,rfl⟩
 | x :: r=>by
   obtain ⟨h1,h2⟩:=KG o r
   rw [List.foldl_cons,List.foldl_cons,Nb,Nb,if_neg (fun k=>k rfl),if_pos (by omega)]
   refine ⟨?_,h2⟩
   unfold KF
   rw [List.any_cons]
   rcases Rc o x with e | e
   ·rw [e,h1];unfold KF;simp
   ·rw [e,h2];simp
section
variable {o:bb} (hb:sy o) (hr:BZ o) {v:ak} (hv:Ao v o) (ha:AtR v o) (h0:v.cG=[]) (hc:cK o=some (some v,0))
include hb hr hv ha h0 hc
theorem Ty (l:List aE) (hl:l.length≤1000):bX l v=some (l.any (fun x=>decide (eT o x≠0))):=by
 have:=dn l (fun x=>lj x v) (fun x=>decide (eT o x≠0)) (fun x _=>by
  unfold lj iW eT
  by_cases d:x.Device.ar=[]
  ·rw [if_neg (fun k=>k d)];simp [d]
  ·rw [if_pos d,C6 hv.view]
   cases e:up o.al x.Device.ar<;>simp [d]) (by omega)
 rw [← this];rfl
theorem V9 (u act:ae) (mF:act.length≤1000000) (l:List aE) (hl:l.length≤1000) (at_:Int) (hM:∀ x∈l,∀ s∈o.aI,dV s.Query x=some (mB s.Query x)):
 oq u act l at_ v v.bb.al v.bb.bj v.bb.aD v.bb.aI v.aW v.cT v.at_ v.cG [] 0=some ((l.filter (fun x=>decide (u∈Fq o act x at_))).map (fun x=>x.Device.Key),0):=by
 have key:Ok (oq u act l at_ v v.bb.al v.bb.bj v.bb.aD v.bb.aI v.aW v.cT v.at_ v.cG [] 0) (fun r=>r=((l.filter (fun x=>decide (u∈Fq o act x at_))).map (fun x=>x.Device.Key),0)):=by
  unfold oq
  refine Ok.CD l.length (fun (s:List (aX×List Int)×List ae) (i:Int)=>(v.bb.al,v.bb.bj,v.bb.aD,v.bb.aI,v.aW,v.cT,v.at_,s.1,s.2,i)) (fun i s=>FM o s.1∧s.2=((l.take i.toNat).filter (fun x=>decide (u∈Fq o act x at_))).map (fun x=>x.Device.Key)) (fun s i g0 g1 hI=>?_) (v.cG,[]) ⟨IF hb hr hv ha h0 hc,by simp⟩
  obtain ⟨g,acc⟩:=s
  obtain ⟨hg,yk⟩:=hI
  dsimp only at hg yk ⊢
  have hal:acc.length≤1000:=by
   rw [yk,List.length_map]
   refine Nat.le_trans (List.length_filter_le _ _) ?_
   rw [List.length_take];omega
  unfold ll
  split
  ·rename_i hi
   refine Ok.idx g0 hi (fun x hx U6=>?_)
   obtain ⟨g',e1,Wp⟩:=Ft hb hr hv ha g hg act mF x at_ (hM x U6)
   rw [show (⟨(⟨v.bb.al,v.bb.bj,v.bb.aD,v.bb.aI⟩:bb),v.aW,v.cT,v.at_,g,v.im⟩:ak)=VF v g from rfl,e1]
   simp only [Option.bind_some]
   rw [pt _ _ (by have:=IG hb hr hv ha h0 hc act x at_;omega)]
   simp only [Option.bind_some]
   have ht:=take_succ g0 hx
   by_cases c:u∈Fq o act x at_
   ·rw [if_pos (by simpa using c)]
    refine Ok.app (by simp;omega) ?_
    unfold je
    rw [bf (by omega) (by omega)]
    refine Ok.ret (.inl ⟨(g',acc++[x.Device.Key]),rfl,hi,Wp,?_⟩)
    dsimp only
    rw [ht,List.filter_append,List.map_append,← yk]
    simp [c]
   ·rw [if_neg (by simpa using c)]
    unfold je
    rw [bf (by omega) (by omega)]
    refine Ok.ret (.inl ⟨(g',acc),rfl,hi,Wp,?_⟩)
    dsimp only
    rw [ht,List.filter_append,List.map_append,← yk]
    simp [c]
  ·refine Ok.inr (Ok.ret (.inr ⟨_,rfl,?_⟩))
   rw [yk,show i.toNat=l.length by omega,List.take_length]
 obtain ⟨r,h1,rfl⟩:=key
 exact h1
theorem L6 (u act:ae) (mF:act.length≤1000000) (l:List aE) (hl:l.length≤1000) (f at_:Int) (hf:gL l=some f) (hM:f=0→∀ x∈l,∀ s∈o.aI,dV s.Query x=some (mB s.Query x)):
 kA o u act l at_=some (if mC [eK u,eA act,f,KF o l,eM at_]=0 then ((l.filter (fun x=>decide (u∈Fq o act x at_))).map (fun x=>x.Device.Key),0) else ([],mC [eK u,eA act,f,KF o l,eM at_])):=by
 unfold kA
 rw [hc]
 simp only [Option.bind_some,j5]
 rw [if_neg (fun k=>k rfl),Q8]
 simp only [Option.bind_some]
 unfold ln eK
 cases hk:qU u with
 | false=>
   rw [if_pos (by simp),if_pos rfl]
   simp only [Bool.false_eq_true,if_false]
   rw [eQ (by omega),if_neg (by omega)]
 | true=>
   rw [if_neg (by simp),vA act (by omega),if_pos rfl,fP]
   simp only [Option.bind_some]
   unfold eA
   cases hd:wE 5 act with
   | false=>
     rw [if_pos (by simp)]
     simp only [Bool.false_eq_true,if_false]
     rw [eQ (by omega),if_neg (by omega)]
   | true=>
     rw [if_neg (by simp),if_pos rfl,fP,hf]
     simp only [Option.bind_some]
     by_cases z:f=0
     ·rw [if_neg (fun k=>k z),z,fP,Ty hb hr hv ha h0 hc l hl]
      simp only [Option.bind_some]
      unfold KF
      cases c:l.any (fun x=>decide (eT o x≠0)) with
      | true=>
        rw [if_pos rfl,if_pos rfl,eQ (by omega),if_neg (by omega)]
      | false=>
        simp only [Bool.false_eq_true,if_false]
        rw [fP,IE,KC]
        unfold eM
        by_cases d:0≤at_∧at_≤345686399999
        ·rw [if_neg (by simp [d]),if_pos d,if_pos rfl,V9 hb hr hv ha h0 hc u act mF l hl at_ (hM z)]
        ·rw [if_pos (by simp;omega),if_neg d,if_neg (by omega)]
     ·rw [if_pos z,eQ z,if_neg z]
theorem Nc (u act:ae) (x:aE) (at_:Int) (Z:List Reason) (h:Z.Perm (V4 o u act x at_)):decide ((0:Int) < (Z.length:Int))=decide (u∈Fq o act x at_):=by
 rw [decide_eq_decide,Q6]
 have:=h.length_eq
 have h2:=(IC hr u act x at_).length_eq
 constructor
 ·intro k hn
  rw [hn] at h2
  simp at h2;omega
 ·intro k
  have:=List.length_pos_iff.2 k
  omega
end
theorem L7 {o:bb} (hb:sy o):wW [o]=some (dd GX (Et (o.aD.map (·.lV)))):=by
 have hm:=hb.mem
 unfold wW Bw
 rw [iter_eq]
 dsimp only
 unfold sc
 rw [if_pos (by simp),show idx [o] 0=some o from rfl]
 simp only [Option.bind_some]
 unfold Bv
 rw [fu o.aD (fun (a:List ae) (i:Int)=>(a,i)) (fun y=>jE 0 o y.1 y.2) (fun a m=>a++[m.lV]) (fun i a=>(a.length:Int)≤i) (fun a=>some (.inl (a,1))) ?_ ?_ [] (by simp),foldl_map,List.nil_append]
 ·simp only [Option.bind_some,dD]
  rw [iter_eq]
  dsimp only
  rw [if_neg (by simp),cC]
  unfold xI HM gS
  have hl:(o.aD.map aK.lV).length≤200:=by rw [List.length_map];exact hm
  rw [nV (by simp;omega)]
  simp only [Option.bind_some,List.nil_append]
  rw [Ut _ (by omega)]
  simp only [Option.bind_some]
  rw [YU _ (by rw [(sX _).length_eq];omega)]
  rfl
 ·intro a i m g0 g1 hi hI
  show jE 0 o a i=_∧_
  unfold jE
  rw [if_pos g1,hi]
  simp only [Option.bind_some]
  rw [nV (by simp;omega)]
  simp only [Option.bind_some]
  rw [bf (by omega) (by omega)]
  exact ⟨rfl,by simp;omega⟩
 ·intro a hI
  show jE 0 o a _=_
  unfold jE
  rw [if_neg (by omega)]
  rfl
theorem Re {o:bb} (hb:sy o) (hr:BZ o) (act:ae) (mF:act.length≤1000000) (x:aE) (at_:Int) (hM:∀ s∈o.aI,iN s.Query x=some (mB s.Query x)):Bx o act x at_=some (Fq o act x at_):=by
 have hm:=hb.mem
 unfold Bx
 rw [L7 hb]
 simp only [Option.bind_some]
 have hl:(dd GX (Et (o.aD.map (·.lV)))).length≤200:=by
  refine Nat.le_trans (Qm _ _) ?_
  rw [(sX _).length_eq,List.length_map];exact hm
 rw [show ff (dd GX (Et (o.aD.map (·.lV)))) (fun y0=>sR y0 o act x at_)=some ((dd GX (Et (o.aD.map (·.lV)))).filter (fun u=>!(!decide ((FC o act x at_).filter (Ow o u)≠[])))) from MP ([]:ae) _ (fun u=>!decide ((FC o act x at_).filter (Ow o u)≠[])) _ (by omega) (fun u _=>by
  show sR u o act x at_=_
  unfold sR
  obtain ⟨Z,h1,h2,_⟩:=Fv hb hr u act mF x at_ hM
  rw [h1]
  simp only [Option.bind_some,Option.some.injEq]
  have:=h2.length_eq
  have h3:=(IC hr u act x at_).length_eq
  rw [← decide_not,decide_eq_decide,Classical.not_not,← List.length_eq_zero_iff]
  omega)]
 simp only [Option.bind_some,Bool.not_not]
 congr 1
 refine V3 ((M4 _ (B2 _)).1.filter _) (M4 _ (B2 _)).1 fun u=>?_
 rw [List.mem_filter,(M4 _ (B2 _)).2,(sX _).mem_iff,Q6 u act x at_]
 constructor
 ·rintro ⟨_,h⟩;simpa using h
 ·intro h
  refine ⟨?_,by simpa using h⟩
  obtain ⟨r,UR⟩:=List.exists_mem_of_ne_nil _ h
  obtain ⟨h1,h2⟩:=List.mem_filter.1 UR
  obtain ⟨m,UD⟩:=B3 h1
  rw [ID UD] at h2
  refine List.mem_map.2 ⟨m,gV UD,?_⟩
  have:Us o r.aK=m.lV:=by unfold Us;rw [UD];rfl
  rw [← this];simpa using h2
theorem abO (a b:List Reason) (h:a.length≤100000):gR a b=some (decide (a=b)):=GV a b (by omega)
theorem Wa {s:tC} {K:Int} (hs:nW s K) (hK:4≤K):qT (tP s) (K - 4) (fun _=>True):=by
 refine qT.of ?_
 unfold tP
 refine Ok.gen (sV hs (by omega) (by omega) (by omega)) (fun v1 s1 _ q1=>?_)
 refine Ok.gen (sV q1 (by omega) (by omega) (by omega)) (fun v2 s2 _ q2=>?_)
 refine Ok.gen (mU q2 (by omega) (by simp) (by simp)) (fun v3 s3 _ q3=>?_)
 refine Ok.gen (mU q3 (by omega) (by simp) (by simp)) (fun v4 s4 _ q4=>?_)
 exact Ok.ret ⟨trivial,q4.less (by omega)⟩
end Go.Beacon
set_option linter.unusedVariables false
set_option linter.unusedSimpArgs false
namespace Go.Beacon
open Go Go.Eng
theorem Tz {n:Int} (h0:0≤n) (h1:n≤100000) (z:ae):XQ z n n=some (List.replicate n.toNat z):=by
 unfold XQ
 rw [if_pos (by omega)]
theorem TA (n:Int) (h0:0≤n) (h1:n≤100000):dQ n=some []:=by
 unfold dQ dt
 have e:cr (n - cr ((0:Int) - 0))=n:=by
  rw [show cr ((0:Int) - 0)=0 by decide,bf (by omega) (by omega)];omega
 rw [if_neg (by omega),e]
 by_cases c:0 < n
 ·rw [if_pos c,Tz h0 h1,show yb ([]:List ae) (0:Int) (0:Int)=some [] from rfl]
  simp only [Option.bind_some]
  rw [wD (by omega) (by omega) (by omega)]
  simp
 ·rw [if_neg c]
theorem TB (a b:List ae) (h:a.length+b.length≤1000):eP [a,b]=some (a++b):=by
 unfold eP mx
 have s1:∀ n m:Int,0≤n→n≤1000→(m=0∨m=1)→cy [a,b] n m=some (.inl (n+(if m=0 then a.length else b.length),m+1)):=by
  intro n m h0 h1 hm
  unfold cy
  rcases hm with rfl | rfl
  ·rw [if_pos (by simp),show idx [a,b] 0=some a from rfl]
   simp only [Option.bind_some]
   rw [bf (by omega) (by omega),if_neg (by omega),bf (by omega) (by omega)];rfl
  ·rw [if_pos (by simp),show idx [a,b] 1=some b from rfl]
   simp only [Option.bind_some]
   rw [bf (by omega) (by omega),if_neg (by omega),bf (by omega) (by omega)];rfl
 rw [iter_eq]
 dsimp only
 rw [s1 0 0 (by omega) (by omega) (.inl rfl)]
 simp only [Option.bind_some,dD]
 rw [iter_eq]
 dsimp only
 rw [s1 _ _ (by simp) (by simp;omega) (.inr (by omega))]
 simp only [Option.bind_some,dD]
 rw [iter_eq]
 dsimp only
 unfold cy
 rw [if_neg (by simp),cC]
 unfold iA
 rw [TA _ (by simp;omega) (by simp;omega)]
 simp only [Option.bind_some]
 have b2a:bE [a,b] [] 0=some (.inl (a,1)):=by
  unfold bE
  rw [if_pos (by simp),show idx [a,b] 0=some a from rfl]
  simp only [Option.bind_some]
  rw [nV (by simp;omega)];rfl
 have b2b:bE [a,b] a 1=some (.inl (a++b,2)):=by
  unfold bE
  rw [if_pos (by simp),show idx [a,b] 1=some b from rfl]
  simp only [Option.bind_some]
  rw [nV (by omega)];rfl
 have b2c:bE [a,b] (a++b) 2=some (.inr (a++b)):=by
  unfold bE
  rw [if_neg (by simp)];rfl
 unfold mw
 rw [iter_eq]
 dsimp only
 rw [b2a]
 simp only [Option.bind_some,dD]
 rw [iter_eq]
 dsimp only
 rw [b2b]
 simp only [Option.bind_some,dD]
 rw [iter_eq]
 dsimp only
 rw [b2c]
 rfl
theorem Rf (a b:List ae) (h:a.length≤100000):fq a b=some (decide (a=b)):=GV a b (by omega)
end Go.Beacon
set_option linter.unusedVariables false
set_option linter.unusedSimpArgs false
set_option linter.unusedSectionVars false
namespace Go.Beacon
open Go Go.Eng
theorem L8 (a b:List ae) (ha:DJ a) (hb:DJ b) (hl:a.length≤10∧b.length≤10):pU a b=some (if (a++b).any (fun s=>!F7 s)=true then (false,5) else (uK a b,0)):=by
 have hx:∀ x∈a++b,x.length≤1000000:=fun x hx=>by
  rcases List.mem_append.1 hx with k | k
  ·exact ha.2 x k
  ·exact hb.2 x k
 have YI:(a++b).length≤20:=by simp;omega
 unfold pU
 rw [TB a b (by omega)]
 simp only [Option.bind_some]
 rw [show aM (a++b) (fun y0=>jV y0)=some ((a++b).any (fun s=>!F7 s)) from dn _ _ _ (fun x hm=>by
  show jV x=_
  unfold jV
  rw [Kf x (by have:=hx x hm;omega)];rfl) (by omega)]
 simp only [Option.bind_some]
 cases (a++b).any (fun s=>!F7 s) with
 | true=>rfl
 | false=>
   rw [if_neg (by simp)]
   unfold pd
   rw [if_neg (by simp;omega),F9 a b ha hb];rfl
theorem IH:vj=some true:=by
 unfold vj tz
 rw [L8 [[97,46,42]] [[97,46,98]] (DJ.of (by simp) rfl) (DJ.of (by simp) rfl) (by simp),show (([[97,46,42]]++[[97,46,98]]:List ae).any (fun s=>!F7 s))=false by decide,show uK [[97,46,42]] [[97,46,98]]=true by decide]
 simp
theorem Rg (v2:bb×tC) (v3 v4:ae×tC) (v6:Int×tC) (v7:List aE×tC) (dU:List ae×Int) (v46:Int) (hl:v7.1.length≤1000) (w:aE→Bool)
 (h1:v46=0→∀ y∈v7.1,∃ Z,vZ v2.1 v3.1 v4.1 y v6.1=some Z∧decide ((0:Int) < (Z.length:Int))=w y) (h2:v46≠0→∀ y∈v7.1,w y=false):
 qB v2 v3 v4 v6 v7 dU v46 [] 0=ia dU v46 ((v7.1.filter w).map (fun y=>y.Device.Key)):=by
 unfold qB
 rw [fu v7.1 (fun (s:List ae) (i:Int)=>(s,i)) (fun x=>ec v2 v3 v4 v6 v7 dU v46 x.1 x.2) (fun s y=>if w y=true then s++[y.Device.Key] else s) (fun i s=>(s.length:Int)≤i) (fun s=>ia dU v46 s) ?_ ?_ [] (by simp),KE,List.nil_append]
 ·intro s i y g0 g1 hi hI
  show ec v2 v3 v4 v6 v7 dU v46 s i=_∧_
  unfold ec
  rw [if_pos g1,hi]
  simp only [Option.bind_some]
  have j:∀ c:Bool,c=w y→iB s i y c=some (.inl ((if w y=true then s++[y.Device.Key] else s),i+1))∧(((if w y=true then s++[y.Device.Key] else s).length:Nat):Int)≤i+1:=by
   intro c hc
   unfold iB jv
   rw [hc,bf (by omega) (by omega)]
   cases w y with
   | true=>
     simp only [if_true]
     rw [nV (by simp;omega)]
     exact ⟨rfl,by simp;omega⟩
   | false=>
     simp only [Bool.false_eq_true,if_false]
     exact ⟨trivial,by omega⟩
  by_cases z:v46=0
  ·rw [if_pos z]
   obtain ⟨Z,e1,e2⟩:=h1 z y (gV hi)
   rw [e1]
   simp only [Option.bind_some]
   exact j _ e2
  ·rw [if_neg z]
   exact j _ (h2 z y (gV hi)).symm
 ·intro s hI
  show ec v2 v3 v4 v6 v7 dU v46 s _=_
  unfold ec
  rw [if_neg (by omega)]
theorem L9 (dU:List ae×Int) (v46:Int) (l:List ae) (h1:dU.2=v46) (h2:dU.1=l) (hl:l.length≤100000):ia dU v46 l=some true:=by
 unfold ia hJ
 rw [if_pos h1,h2,Rf _ _ hl,IH]
 simp
theorem YX (a b:Int):gQ [a,b]=some (mC [a,b]):=yR _ (by simp)
theorem YY (v2:bb×tC) (hb:sy v2.1) (v3 v4:ae×tC) (v6:Int×tC) (v7:List aE×tC) (dU:List ae×Int) (fH dI v20:Int) (hl:v7.1.length≤1000):
 qC v2 v3 v4 v6 v7 dU fH dI v20 0 0=ed v2 v3 v4 v6 v7 dU fH dI v20 (KF v2.1 v7.1):=by
 unfold qC
 rw [fu v7.1 (fun (s:Int) (i:Int)=>(s,i)) (fun x=>ee v2 v3 v4 v6 v7 dU fH dI v20 x.1 x.2) (fun n y=>mC [n,eT v2.1 y]) (fun _ _=>True) (fun s=>ed v2 v3 v4 v6 v7 dU fH dI v20 s) ?_ ?_ 0 trivial,(KG v2.1 v7.1).1]
 ·intro s i y g0 g1 hi _
  show ee v2 v3 v4 v6 v7 dU fH dI v20 s i=_∧_
  unfold ee
  rw [if_pos g1,hi]
  simp only [Option.bind_some]
  rw [zd hb]
  simp only [Option.bind_some]
  rw [YX]
  simp only [Option.bind_some]
  rw [bf (by omega) (by omega)]
  exact ⟨rfl,trivial⟩
 ·intro s _
  show ee v2 v3 v4 v6 v7 dU fH dI v20 s _=_
  unfold ee
  rw [if_neg (by omega)]
theorem zZ (L:List Int):nz L=some true:=by
 have key:Ok (nz L) (fun r=>r=true):=by
  unfold nz
  refine Ok.gen (YS (s:=⟨L,0⟩) (K:=1000) ⟨by simp,by simp⟩ (by omega)) (fun o s1 hb q1=>?_)
  refine Ok.gen (gh q1 (by omega) (by simp) (by simp)) (fun u s2 hu q2=>?_)
  refine Ok.gen (gh q2 (by omega) (by simp) (by simp)) (fun act s3 YZ q3=>?_)
  refine Ok.gen (Rb _ q3 (by omega)) (fun x s4 hx q4=>?_)
  refine Ok.gen (Wa q4 (by omega)) (fun at_ s5 _ q5=>?_)
  refine Ok.gen (L5 q5 (by omega)) (fun l s6 hl q6=>?_)
  dsimp only
  have mF:act.length≤1000000:=by have:=pv YZ (by decide);omega
  obtain ⟨r,Y4,OB⟩:=LY o hb
  obtain ⟨f,hf,_⟩:=E9 x hx
  have hfQ:oV x=some f:=by rw [← Kd x hx];exact hf
  obtain ⟨eL,gl,SZ,abP⟩:=Tf l (by omega) hl.2
  have Y0:pc l=some gl:=by rw [← eL];exact SZ
  have kF:=KA u
  have aF:=Kz act (by omega)
  rcases OB with ⟨sE,hc⟩ | ⟨hz,hR,v,hc,hv⟩
  ·
   have aS:lg o u act x at_=some (none,r):=by
    unfold lg;rw [hc];simp only [Option.bind_some,j5];rw [if_pos sE]
   have aN:iy o act x at_=some (none,r):=by
    unfold iy;rw [hc];simp only [Option.bind_some,j5];rw [if_pos sE]
   have e1:qt o u act x at_=some (false,r):=by
    unfold qt;rw [aS];simp only [Option.bind_some,j5];rw [if_pos sE]
   have e2:qx o u act x at_=some ([],r):=by
    unfold qx;rw [aS];simp only [Option.bind_some,j5];rw [if_pos sE]
   have e3:qy o act x at_=some ([],r):=by
    unfold qy;rw [aN];simp only [Option.bind_some,j5];rw [if_pos sE]
   have e4:kA o u act l at_=some ([],r):=by
    unfold kA;rw [hc];simp only [Option.bind_some,j5];rw [if_pos sE]
   rw [e1,e2,e3,e4,Y4,kF,aF,hfQ]
   simp only [Option.bind_some]
   unfold kK
   rw [if_neg (by simp [sE])]
   unfold gg
   dsimp only
   rw [Or5,Or4,eQ sE,eQ sE]
   simp only [Option.bind_some]
   unfold kJ
   rw [if_neg (by simp),if_neg sE]
   unfold gd
   rw [if_neg sE]
   unfold gb
   rw [if_neg (by simp)]
   dsimp only
   rw [Y0]
   simp only [Option.bind_some]
   unfold kI
   rw [if_neg (by simp [sE])]
   unfold ed
   rw [Or5,eQ sE]
   simp only [Option.bind_some]
   rw [Rg (o,s1) (u,s2) (act,s3) (at_,s5) (l,s6) ([],r) r (by dsimp only;omega) (fun _=>false) (fun k=>absurd k sE) (fun _ _ _=>rfl),L9 _ _ _ rfl (by simp) (by rw [List.length_map];exact Nat.le_trans (List.length_filter_le _ _) (by dsimp only;omega))]
   exact ⟨true,rfl,rfl⟩
  ·subst hz
   obtain ⟨ha,h0⟩:=L3 hb hc
   have hM:f=0→∀ s∈o.aI,dV s.Query x=some (mB s.Query x)∧iN s.Query x=some (mB s.Query x):=fun z=>Dd hb hR x hx (by rw [hf,z])
   have hML:gl=0→∀ y∈l,∀ s∈o.aI,dV s.Query y=some (mB s.Query y)∧iN s.Query y=some (mB s.Query y):=fun z y hy=>Dd hb hR y (hl.2 y hy) (abP z y hy)
   have e1:=V6 hb hR hv ha h0 hc u act mF x f at_ hf (fun z s hs=>(hM z s hs).1)
   obtain ⟨Z,e2,e2p,e2s⟩:=V8 hb hR hv ha h0 hc u act mF x f at_ hf (fun z s hs=>(hM z s hs).1)
   have e3:=V7 hb hR hv ha h0 hc act mF x f at_ hf (fun z s hs=>(hM z s hs).1)
   have e4:=L6 hb hR hv ha h0 hc u act mF l (by omega) gl at_ SZ (fun z y hy s hs=>(hML z y hy s hs).1)
   rw [e1,e2,e3,e4,Y4,kF,aF,hfQ]
   simp only [Option.bind_some]
   rw [show (if qU u=true then (0:Int) else 5)=eK u from rfl,show (if wE 5 act=true then (0:Int) else 5)=eA act from rfl]
   have j6:gb (o,s1) (u,s2) (act,s3) (at_,s5) (l,s6) (if mC [eK u,eA act,gl,KF o l,eM at_]=0 then ((l.filter (fun x=>decide (u∈Fq o act x at_))).map (fun x=>x.Device.Key),0) else ([],mC [eK u,eA act,gl,KF o l,eM at_])) 0 (eK u) (eA act) false=some true:=by
    unfold gb
    rw [if_neg (by simp)]
    dsimp only
    rw [Y0]
    simp only [Option.bind_some]
    have j8:∀ it:Int,mC [0,eK u,eA act,it,eM at_]=mC [eK u,eA act,gl,KF o l,eM at_]→ed (o,s1) (u,s2) (act,s3) (at_,s5) (l,s6) (if mC [eK u,eA act,gl,KF o l,eM at_]=0 then ((l.filter (fun x=>decide (u∈Fq o act x at_))).map (fun x=>x.Device.Key),0) else ([],mC [eK u,eA act,gl,KF o l,eM at_])) 0 (eK u) (eA act) it=some true:=by
     intro it hit
     unfold ed
     rw [Or5,zc,hit]
     simp only [Option.bind_some]
     by_cases z:mC [eK u,eA act,gl,KF o l,eM at_]=0
     ·rw [if_pos z]
      have hg:gl=0:=by
       apply Classical.byContradiction
       intro k
       by_cases k1:eK u=0
       ·rw [k1,fP] at z
        by_cases k2:eA act=0
        ·rw [k2,fP,eQ k] at z;exact k z
        ·rw [eQ k2] at z;exact k2 z
       ·rw [eQ k1] at z;exact k1 z
      rw [Rg (o,s1) (u,s2) (act,s3) (at_,s5) (l,s6) _ _ (by dsimp only;omega) (fun y=>decide (u∈Fq o act y at_)) (fun _ y hy=>by
       obtain ⟨Zy,g1,g2,_⟩:=Fv hb hR u act mF y at_ (fun s hs=>(hML hg y hy s hs).2)
       exact ⟨Zy,g1,Nc hb hR hv ha h0 hc u act y at_ Zy g2⟩) (fun k=>absurd z k)]
      exact L9 _ _ _ z.symm rfl (by rw [List.length_map];exact Nat.le_trans (List.length_filter_le _ _) (by dsimp only;omega))
     ·rw [if_neg z,Rg (o,s1) (u,s2) (act,s3) (at_,s5) (l,s6) _ _ (by dsimp only;omega) (fun _=>false) (fun k=>absurd k z) (fun _ _ _=>rfl)]
      exact L9 _ _ _ rfl (by simp) (by rw [List.length_map];exact Nat.le_trans (List.length_filter_le _ _) (by dsimp only;omega))
    unfold kI
    by_cases z:gl=0
    ·rw [if_pos (by simp [z]),z,YY (o,s1) hb _ _ _ _ _ _ _ _ (by dsimp only;omega)]
     rw [z] at j8
     exact j8 _ (by rw [fP];by_cases k1:eK u=0
                    ·rw [k1,fP,fP];by_cases k2:eA act=0
                     ·rw [k2,fP,fP,fP]
                     ·rw [eQ k2,eQ k2]
                    ·rw [eQ k1,eQ k1])
    ·rw [if_neg (by simp [z])]
     exact j8 _ (by rw [fP];by_cases k1:eK u=0
                    ·rw [k1,fP,fP];by_cases k2:eA act=0
                     ·rw [k2,fP,fP,eQ z,eQ z]
                     ·rw [eQ k2,eQ k2]
                    ·rw [eQ k1,eQ k1])
   have j2:∀ it:Int,mC [0,eK u,eA act,it,eM at_]=mC [eK u,eA act,f,eT o x,eM at_]→mC [0,eA act,it,eM at_]=mC [eA act,f,eT o x,eM at_]→Ok (gg (o,s1) (u,s2) (act,s3) (x,s4) (at_,s5) (l,s6) (if mC [eK u,eA act,f,eT o x,eM at_]=0 then (decide (u∈Fq o act x at_),0) else (false,mC [eK u,eA act,f,eT o x,eM at_])) (if mC [eK u,eA act,f,eT o x,eM at_]=0 then (Z,0) else ([],mC [eK u,eA act,f,eT o x,eM at_])) (if mC [eA act,f,eT o x,eM at_]=0 then (Fq o act x at_,0) else ([],mC [eA act,f,eT o x,eM at_])) (if mC [eK u,eA act,gl,KF o l,eM at_]=0 then ((l.filter (fun x=>decide (u∈Fq o act x at_))).map (fun x=>x.Device.Key),0) else ([],mC [eK u,eA act,gl,KF o l,eM at_])) 0 (eK u) (eA act) it) (fun r=>r=true):=by
    intro it h1 h2
    unfold gg
    dsimp only
    rw [Or5,Or4,zc,h1,h2]
    simp only [Option.bind_some]
    generalize Cg:mC [eK u,eA act,f,eT o x,eM at_]=one
    generalize Y1:mC [eA act,f,eT o x,eM at_]=two
    have ho2:one=0→two=0:=by
     intro k
     rw [← Cg] at k
     by_cases k1:eK u=0
     ·rw [k1,fP,Y1] at k;exact k
     ·rw [eQ k1] at k;exact absurd k k1
    have Ya:two=0→f=0:=by
     intro k
     rw [← Y1] at k
     apply Classical.byContradiction
     intro k3
     by_cases k2:eA act=0
     ·rw [k2,fP,eQ k3] at k;exact k3 k
     ·rw [eQ k2] at k;exact k2 k
    unfold kJ
    rw [if_neg (by by_cases z1:one=0<;>by_cases z2:two=0<;>simp [z1,z2])]
    have j4:Ok (gd (o,s1) (u,s2) (act,s3) (x,s4) (at_,s5) (l,s6) (if two=0 then (Fq o act x at_,0) else ([],two)) (if mC [eK u,eA act,gl,KF o l,eM at_]=0 then ((l.filter (fun x=>decide (u∈Fq o act x at_))).map (fun x=>x.Device.Key),0) else ([],mC [eK u,eA act,gl,KF o l,eM at_])) 0 (eK u) (eA act) two) (fun r=>r=true):=by
     unfold gd
     by_cases z:two=0
     ·rw [if_pos z,if_pos z]
      dsimp only
      rw [Re hb hR act mF x at_ (fun s hs=>(hM (Ya z) s hs).2)]
      simp only [Option.bind_some]
      rw [Rf _ _ (by have:=IG hb hR hv ha h0 hc act x at_;omega),decide_eq_true rfl]
      simp only [Option.bind_some,Bool.not_true]
      rw [j6];exact ⟨true,rfl,rfl⟩
     ·rw [if_neg z,j6];exact ⟨true,rfl,rfl⟩
    by_cases z:one=0
    ·rw [if_pos z,if_pos z,if_pos z]
     dsimp only
     obtain ⟨Z',g1,g2,g3⟩:=Fv hb hR u act mF x at_ (fun s hs=>(hM (Ya (ho2 z)) s hs).2)
     have hZ:Z=Z':=AP (e2p.trans g2.symm) e2s g3 (fun a _ b _ k1 k2=>Tw k1 k2)
     rw [g1]
     simp only [Option.bind_some]
     rw [abO _ _ (by rw [e2p.length_eq];have:=Tx hb hR u act x at_;omega),hZ,decide_eq_true rfl]
     simp only [Option.bind_some,Bool.not_true,Bool.false_or]
     rw [Nc hb hR hv ha h0 hc u act x at_ Z' g2]
     unfold mR
     rw [if_neg (by simp)]
     exact j4
    ·rw [if_neg z]
     exact j4
   unfold kK
   by_cases z:f=0
   ·rw [if_pos (by simp [z])]
    dsimp only
    rw [zd hb]
    simp only [Option.bind_some]
    refine j2 _ ?_ ?_
    ·rw [fP,z]
     by_cases k1:eK u=0
     ·rw [k1,fP,fP]
      by_cases k2:eA act=0
      ·rw [k2,fP,fP,fP]
      ·rw [eQ k2,eQ k2]
     ·rw [eQ k1,eQ k1]
    ·rw [fP,z]
     by_cases k2:eA act=0
     ·rw [k2,fP,fP,fP]
     ·rw [eQ k2,eQ k2]
   ·rw [if_neg (by simp [z])]
    refine j2 _ ?_ ?_
    ·rw [fP]
     by_cases k1:eK u=0
     ·rw [k1,fP,fP]
      by_cases k2:eA act=0
      ·rw [k2,fP,fP,eQ z,eQ z]
      ·rw [eQ k2,eQ k2]
     ·rw [eQ k1,eQ k1]
    ·rw [fP]
     by_cases k2:eA act=0
     ·rw [k2,fP,fP,eQ z,eQ z]
     ·rw [eQ k2,eQ k2]
 obtain ⟨r,h1,rfl⟩:=key
 exact h1
end Go.Beacon
