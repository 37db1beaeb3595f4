/- Plain facts on what the functions compute. No program in sight. -/
import Derived.Test.YtckmkjeblanlfaaGreatDoorPlLA
set_option linter.unusedVariables false
set_option linter.unusedSimpArgs false
set_option linter.unusedSectionVars false
namespace Go.Beacon
open Go Go.Eng
def ow (t w:al) (l:List aM):Int:=ub ⟨t,w⟩ (aP l)
theorem TW {o:bu} {l:List aM} (hl:Hg o l):∀ e∈aP l,0≤e.2∧e.2≤1000000000:=fun e he=>by
 unfold aP at he
 obtain ⟨x,hx,rfl⟩:=List.mem_map.1 he
 have:=(hl.ok x hx).2
 dsimp only;omega
theorem OP {o:bu} {l:List aM} (hl:Hg o l) (t w:al):0≤ow t w l∧ow t w l≤1000000000:=by
 obtain ⟨h1,h2,_⟩:=G9 ⟨t,w⟩ (aP l) (TW hl) hl.nd
 exact ⟨h1,h2⟩
theorem OQ {o:bu} {l:List aM} (hl:Hg o l) (t w:al):(bM (tZ [] (aP l)) ⟨t,w⟩).getD 0=ow t w l:=by
 have:=OP hl t w
 unfold ow at this
 rw [CW ⟨t,w⟩ _ [] (fun e he=>(TW hl e he).1) (by simp [bM]) (by simp only [bM,Option.getD_none];omega)]
 unfold ow
 simp [bM]
def Sn (o:bu) (q:List aH) (l:List aM) (t w:al):Int:=q.foldl (fun n x=>if x.bT=w∧x.an∈wk o t then min n (max 0 (x.kU - zq o x.an x.bT l)) else n) (1000000000 - ow t w l)
def Rf (o:bu) (q:List aH) (l:List aM) (w:al) (n:Int) (u:al):Int:=q.foldl (fun n x=>if x.an=u∧x.bT=w then min n (x.kU - zq o u w l) else n) n
def TX (o:bu) (q:List aH) (l:List aM) (t w:al):Int:=max 0 ((wk o t).foldl (Rf o q l w) (1000000000 - ow t w l))
theorem OR {o:bu} {q:List aH} {l:List aM} (hl:Hg o l) (t w:al):Sn o q l t w=TX o q l t w:=by
 have hb:=OP hl t w
 have key:∀ z:Int,z≤Sn o q l t w↔z≤TX o q l t w:=by
  intro z
  unfold Sn TX
  rw [Fz (fun x:aH=>x.bT=w∧x.an∈wk o t) (fun x=>max 0 (x.kU - zq o x.an x.bT l)) z]
  have h2:=G8 (Rf o q l w) (fun u (x:aH)=>x.an=u∧x.bT=w) (fun u x=>x.kU - zq o u w l) q z (fun n u=>by
   unfold Rf
   exact Fz (fun x:aH=>x.an=u∧x.bT=w) (fun x=>x.kU - zq o u w l) z q n) (wk o t) (1000000000 - ow t w l)
  rw [show z≤max 0 ((wk o t).foldl (Rf o q l w) (1000000000 - ow t w l))↔z≤0∨z≤(wk o t).foldl (Rf o q l w) (1000000000 - ow t w l) by omega,h2]
  constructor
  ·rintro ⟨h1,h3⟩
   by_cases hz:z≤0
   ·exact .inl hz
   ·refine .inr ⟨h1,fun u hu x hx ⟨e1,e2⟩=>?_⟩
    have:=h3 x hx ⟨e2,by rw [e1];exact hu⟩
    rw [e1,e2] at this
    omega
  ·rintro (hz | ⟨h1,h3⟩)
   ·exact ⟨by omega,fun x _ _=>by omega⟩
   ·refine ⟨h1,fun x hx ⟨e1,e2⟩=>?_⟩
    have:=h3 x.an e2 x hx ⟨rfl,e1⟩
    rw [e1]
    omega
 have a:=(key (Sn o q l t w)).1 (by omega)
 have b:=(key (TX o q l t w)).2 (by omega)
 omega
section
variable {o:bu} {v:aC} (hv:oU v o) (hb:pq o) (hr:G3 o) {l:List aM} (hl:Hg o l) {q:List aH} (hq:q.length≤500) (hQ:∀ x∈q,0≤x.kU∧x.kU≤1000000000)
include hv hb hr hl hq hQ
theorem PE (t w:al):0≤zq o t w l∧zq o t w l≤9000000000:=by
 have h:=MT (o:=o) t w l (fun x hx=>(hl.ok x hx).2)
 have:=hl.len
 omega
theorem OS (t w:al):k8 v q (tZ [] (aP l)) ⟨t,w⟩=some (Sn o q l t w):=by
 have hle:=hl.len
 have ht:=hb.Hf
 have hwl:=xk o t
 obtain ⟨T,e1,e2⟩:=yA hv hb hr.nd hl
 have hob:=OP hl t w
 unfold k8 kK
 rw [OQ hl]
 simp only [Option.bind_some]
 rw [e1]
 simp only [Option.bind_some]
 rw [zm hv (by omega)]
 simp only [Option.bind_some]
 unfold sO
 rw [bh (x:=1000000000 - ow t w l) (by omega) (by omega)]
 rw [eV q (fun (s:Int) (i:Int)=>(s,i)) (fun x=>dz q ⟨t,w⟩ T (wk o t) x.1 x.2) (fun n x=>if x.bT=w∧x.an∈wk o t then min n (max 0 (x.kU - zq o x.an x.bT l)) else n) (fun _ _=>True) (fun s=>some s) ?_ ?_ _ trivial]
 ·rfl
 ·intro s i x g0 g1 hi _
  refine ⟨?_,trivial⟩
  show dz q ⟨t,w⟩ T (wk o t) s i=_
  have hx:=hQ x (ik hi)
  have htw:=PE hv hb hr hl hq hQ x.an x.bT
  unfold dz
  rw [if_pos g1,hi]
  simp only [Option.bind_some]
  have j:∀ c:Bool,c=decide (x.bT=w∧x.an∈wk o t)→gM T s i x c=some (.inl ((if x.bT=w∧x.an∈wk o t then min s (max 0 (x.kU - zq o x.an x.bT l)) else s),i+1)):=by
   intro c hc
   unfold gM iQ kK
   simp only [Option.bind_some]
   rw [hc,e2,show cr (i+1)=i+1 from bh (by omega) (by omega),bh (x:=x.kU - zq o x.an x.bT l) (by omega) (by omega)]
   by_cases d:x.bT=w∧x.an∈wk o t
   ·rw [if_pos (decide_eq_true d),if_pos d]
   ·rw [if_neg (by simpa using d),if_neg d]
  by_cases d:x.bT=w
  ·rw [if_pos d,rz _ _ (by omega)]
   simp only [Option.bind_some]
   exact j _ (by simp [d])
  ·rw [if_neg d]
   exact j _ (by simp [d])
 ·intro s _
  show dz q ⟨t,w⟩ T (wk o t) s (q.length:Int)=_
  unfold dz
  rw [if_neg (by omega)]
theorem Ky (t w u:al) (i:Int) (hi:0≤i∧i≤100000) (n:Int):wT o q l w i u n 0=some (.inl (Rf o q l w n u,i+1)):=by
 unfold wT
 rw [eV q (fun (s:Int) (i:Int)=>(s,i)) (fun x=>j9 o q l w i u x.1 x.2) (fun n x=>if x.an=u∧x.bT=w then min n (x.kU - zq o u w l) else n) (fun _ _=>True) (fun s=>some (.inl (s,i+1))) ?_ ?_ n trivial]
 ·rfl
 ·intro s j x g0 g1 hj _
  refine ⟨?_,trivial⟩
  show j9 o q l w i u s j=_
  have hx:=hQ x (ik hj)
  have htw:=PE hv hb hr hl hq hQ u w
  unfold j9
  rw [if_pos g1,hj]
  simp only [Option.bind_some]
  unfold uB sn
  rw [yB hb hr hl,show cr (j+1)=j+1 from bh (by omega) (by omega)]
  simp only [Option.bind_some]
  rw [bh (x:=x.kU - zq o u w l) (by omega) (by omega)]
  by_cases d:x.an=u∧x.bT=w
  ·rw [if_pos (by simp [d]),if_pos d]
  ·rw [if_neg (by simpa using d),if_neg d]
 ·intro s _
  show j9 o q l w i u s (q.length:Int)=_
  unfold j9
  rw [if_neg (by omega),show cr (i+1)=i+1 from bh (by omega) (by omega)]
theorem Kz (t w:al) (hu:∃ r,up o.ak t=some r):wU o q l t w=some (TX o q l t w):=by
 have hle:=hl.len
 have ht:=hb.Hf
 have hwl:=xk o t
 have hob:=OP hl t w
 have fold:∀ (r:List aM) (n:Int),r.foldl (fun (n:Int) (x:aM)=>n+(if x.an=t∧x.bT=w then x.mS else 0)) n=n+ub ⟨t,w⟩ (aP r):=by
  intro r
  induction r with
  | nil=>intro n;simp [aP,ub]
  | cons x r ih=>
    intro n
    rw [List.foldl_cons,ih,show aP (x :: r)=((⟨x.an,x.bT⟩:aj),x.mS) :: aP r from rfl,vT]
    simp only [aj.mk.injEq]
    omega
 unfold wU AP
 rw [eV l (fun (s:Int) (i:Int)=>(s,i)) (fun x=>kf o q l t w x.1 x.2) (fun n x=>n+(if x.an=t∧x.bT=w then x.mS else 0)) (fun i s=>0≤s∧s≤1000000000 * i) (fun s=>so o q l t w s) ?_ ?_ 0 ⟨by omega,by omega⟩,fold,Int.zero_add]
 ·show so o q l t w (ow t w l)=_
  unfold so
  rw [MP hb hr t hu]
  simp only [Option.bind_some]
  unfold AO
  rw [bh (x:=1000000000 - ow t w l) (by omega) (by omega)]
  rw [eV (wk o t) (fun (s:Int) (i:Int)=>(s,i)) (fun x=>ke o q l w (wk o t) x.1 x.2) (Rf o q l w) (fun _ _=>True) (fun s=>some (max 0 s)) ?_ ?_ _ trivial]
  ·rfl
  ·intro s i u g0 g1 hi _
   refine ⟨?_,trivial⟩
   show ke o q l w (wk o t) s i=_
   unfold ke
   rw [if_pos g1,hi]
   simp only [Option.bind_some]
   exact Ky hv hb hr hl hq hQ t w u i ⟨g0,by omega⟩ s
  ·intro s _
   show ke o q l w (wk o t) s ((wk o t).length:Int)=_
   unfold ke
   rw [if_neg (by omega)]
 ·intro s i x g0 g1 hi hI
  show kf o q l t w s i=_∧_
  obtain ⟨_,hm⟩:=hl.ok x (ik hi)
  unfold kf
  rw [if_pos g1,hi]
  simp only [Option.bind_some]
  unfold uA sk
  rw [show cr (i+1)=i+1 from bh (by omega) (by omega)]
  by_cases d:x.an=t∧x.bT=w
  ·rw [if_pos (by simp [d]),if_pos d,bh (by omega) (by omega)]
   exact ⟨rfl,by omega,by omega⟩
  ·rw [if_neg (by simpa using d),if_neg d,Int.add_zero]
   exact ⟨rfl,by omega,by omega⟩
 ·intro s _
  show kf o q l t w s (l.length:Int)=_
  unfold kf
  rw [if_neg (by omega)]
theorem OT (hc:cT o=some (some v,0)) (h0:mF o q l=0) (t w:al):j0 o q l t w=some (if Il o t w≠0 then (0,Il o t w) else (Sn o q l t w,0)):=by
 have hle:=hl.len
 unfold j0
 rw [xJ hv hc q hq l (by omega),if_neg (fun k=>k h0)]
 simp only [Option.bind_some,fc]
 rw [if_neg (fun k=>k rfl),G7 hv]
 simp only [Option.bind_some]
 split
 ·rfl
 ·rw [Ik l (by omega)]
  simp only [Option.bind_some]
  rw [OS hv hb hr hl hq hQ]
  rfl
theorem OU (hc:cT o=some (some v,0)) (h0:mF o q l=0):kh o q l=some (FH o q l,0):=by
 have hle:=hl.len
 unfold kh
 rw [xJ hv hc q hq l (by omega),if_neg (fun k=>k h0)]
 simp only [Option.bind_some,fc]
 rw [if_neg (fun k=>k rfl),Fy hv hb hr hl q hq]
 rfl
end
theorem CY {α:Type} (xs:List α):xs.foldl (fun (acc:List α) x=>acc++[x]) []=xs:=by
 have:=foldl_map (fun x:α=>x) xs []
 simpa using this
theorem OV (n:Nat) (q:Query) (hq:QB q) (hn:q.kA.length≤n):dQ n q=some q:=by
 refine CI (C:=fun n q=>dQ n q=some q) (fun n q hq ih=>?_) n q hq hn
 have hk:=hq.kids
 show iS (dQ n) q=_
 unfold iS sQ
 rw [eV q.Kids (fun (s:List Query) (i:Int)=>(s,i)) (fun x=>dB (dQ n) q x.1 x.2) (fun acc x=>acc++[x]) (fun i s=>(s.length:Int)≤i) (fun s=>some ⟨q.Kind,q.Field,q.Op,q.Value,q.Version,s⟩) ?_ ?_ [] (by simp),CY]
 ·cases q;rfl
 ·intro s i x g0 g1 hi hI
  show dB (dQ n) q s i=_∧_
  unfold dB
  rw [if_pos g1,hi]
  simp only [Option.bind_some]
  rw [ih x (ik hi)]
  simp only [Option.bind_some]
  rw [mx (by simp;omega)]
  simp only [Option.bind_some]
  rw [bh (by omega) (by omega)]
  exact ⟨rfl,by simp;omega⟩
 ·intro s hI
  show dB (dQ n) q s (q.Kids.length:Int)=_
  unfold dB
  rw [if_neg (by omega)]
theorem TY (q:Query) (hq:QB q):rm q=some q:=OV depth q hq (by have:=hq.len;unfold depth;omega)
theorem Im {o:bu} (hb:pq o):nz o=some o:=by
 have h1:=hb.Hf
 have h2:=hb.Sj
 have h3:=hb.mem
 have h4:=hb.Vv
 unfold nz dG gD
 rw [mx (by simp;omega)]
 simp only [Option.bind_some,List.nil_append]
 rw [mx (by simp;omega)]
 simp only [Option.bind_some,List.nil_append]
 unfold uC
 rw [eV o.ba (fun (s:List bF) (i:Int)=>(s,i)) (fun x=>ey o o.ak o.aL x.1 x.2) (fun acc x=>acc++[x]) (fun i s=>(s.length:Int)≤i) (fun s=>qA o o.ak o.aL s [] 0) ?_ ?_ [] (by simp),CY]
 ·unfold qA
  rw [eV o.aR (fun (s:List bJ) (i:Int)=>(s,i)) (fun x=>ew o o.ak o.aL o.ba x.1 x.2) (fun acc x=>acc++[x]) (fun i s=>(s.length:Int)≤i) (fun s=>some ⟨o.ak,o.ba,o.aL,s⟩) ?_ ?_ [] (by simp),CY]
  ·intro s i x g0 g1 hi hI
   show ew o o.ak o.aL o.ba s i=_∧_
   unfold ew dH
   have hx:=hb.shr x (ik hi)
   rw [if_pos g1,hi]
   simp only [Option.bind_some]
   rw [mx (by have:=hx.1.1;simp;omega)]
   simp only [Option.bind_some,List.nil_append]
   rw [TY x.Query hx.2]
   simp only [Option.bind_some]
   rw [mx (by simp;omega)]
   simp only [Option.bind_some]
   rw [bh (by omega) (by omega)]
   exact ⟨rfl,by simp;omega⟩
  ·intro s hI
   show ew o o.ak o.aL o.ba s (o.aR.length:Int)=_
   unfold ew
   rw [if_neg (by omega)]
 ·intro s i x g0 g1 hi hI
  show ey o o.ak o.aL s i=_∧_
  unfold ey dH
  have hx:=hb.act x (ik hi)
  rw [if_pos g1,hi]
  simp only [Option.bind_some]
  rw [mx (by have:=hx.1;simp;omega)]
  simp only [Option.bind_some,List.nil_append]
  rw [mx (by simp;omega)]
  simp only [Option.bind_some]
  rw [bh (by omega) (by omega)]
  exact ⟨rfl,by simp;omega⟩
 ·intro s hI
  show ey o o.ak o.aL s (o.ba.length:Int)=_
  unfold ey
  rw [if_neg (by omega)]
theorem CZ {α A:Type} (xs:List α) (f:Int→Option (Int⊕A)) (a:A) (hl:xs.length≤1000000) (h1:∀ (i:Int) x,0≤i→i < xs.length→idx xs i=some x→f i=some (.inl (cr (i+1)))) (h2:f xs.length=some (.inr a)):iter f 0=some a:=by
 have:=eV xs (fun (_:Unit) (i:Int)=>i) f (fun u _=>u) (fun _ _=>True) (fun _=>some a) (fun u i x g0 g1 hi _=>⟨by rw [h1 i x g0 g1 hi,bh (by omega) (by omega)],trivial⟩) (fun u _=>h2) () trivial
 exact this
theorem OW (n:Nat) (q:Query) (hq:QB q) (hn:q.kA.length≤n):gp n q q=some true:=by
 refine CI (C:=fun n q=>gp n q q=some true) (fun n q hq ih=>?_) n q hq hn
 have hk:=hq.kids
 show nC (gp n) q q=_
 unfold nC
 rw [if_pos rfl,if_pos rfl,if_pos rfl,if_pos rfl,if_pos rfl]
 have e:ca q.Kids q.Kids (fun y0 y1=>gp n y0 y1)=some true:=by
  unfold ca fZ
  rw [if_neg (fun k=>k rfl)]
  refine CZ q.Kids (fun i=>aW q.Kids q.Kids (fun y0 y1=>gp n y0 y1) i) true (by omega) (fun i x g0 g1 hi=>?_) ?_
  ·show aW q.Kids q.Kids (fun y0 y1=>gp n y0 y1) i=_
   unfold aW
   rw [if_pos g1,hi]
   simp only [Option.bind_some]
   rw [ih x (ik hi)]
   rfl
  ·show aW q.Kids q.Kids (fun y0 y1=>gp n y0 y1) (q.Kids.length:Int)=_
   unfold aW
   rw [if_neg (by omega)]
   rfl
 rw [e]
 rfl
theorem TZ (q:Query) (hq:QB q):wW q q=some true:=OW depth q hq (by have:=hq.len;unfold depth;omega)
theorem T2 (a:List al) (h:a.length≤10000000):eQ a a=some true:=by
 have:=xA a a (by omega)
 rw [decide_eq_true rfl] at this
 exact this
theorem OX {o:bu} (hb:pq o):vj o o=some true:=by
 have h1:=hb.Hf
 have h2:=hb.Sj
 have h3:=hb.mem
 have h4:=hb.Vv
 have e1:cw o.ba o.ba (fun y0 y1=>ko y0 y1)=some true:=by
  unfold cw gU
  rw [if_neg (fun k=>k rfl)]
  refine CZ o.ba (fun i=>bl o.ba o.ba (fun y0 y1=>ko y0 y1) i) true (by omega) (fun i x g0 g1 hi=>?_) ?_
  ·show bl o.ba o.ba (fun y0 y1=>ko y0 y1) i=_
   unfold bl
   rw [if_pos g1,hi]
   simp only [Option.bind_some]
   unfold ko
   rw [if_pos rfl,T2 _ (by have:=(hb.act x (ik hi)).1;omega)]
   rfl
  ·show bl o.ba o.ba (fun y0 y1=>ko y0 y1) (o.ba.length:Int)=_
   unfold bl
   rw [if_neg (by omega)]
   rfl
 have e2:cb o.aR o.aR (fun y0 y1=>kq y0 y1)=some true:=by
  unfold cb ga
  rw [if_neg (fun k=>k rfl)]
  refine CZ o.aR (fun i=>aX o.aR o.aR (fun y0 y1=>kq y0 y1) i) true (by omega) (fun i x g0 g1 hi=>?_) ?_
  ·show aX o.aR o.aR (fun y0 y1=>kq y0 y1) i=_
   have hx:=hb.shr x (ik hi)
   unfold aX
   rw [if_pos g1,hi]
   simp only [Option.bind_some]
   unfold kq
   rw [if_pos rfl,if_pos rfl,if_pos rfl,TZ _ hx.2]
   simp only [Option.bind_some,if_true]
   rw [T2 _ (by have:=hx.1.1;omega)]
   simp only [Option.bind_some]
   unfold gQ
   simp
  ·show aX o.aR o.aR (fun y0 y1=>kq y0 y1) (o.aR.length:Int)=_
   unfold aX
   rw [if_neg (by omega)]
   rfl
 have e3:gE o.ak o.ak=some true:=by
  have:=xA o.ak o.ak (by omega)
  rw [decide_eq_true rfl] at this
  exact this
 have e4:gG o.aL o.aL=some true:=by
  have:=xA o.aL o.aL (by omega)
  rw [decide_eq_true rfl] at this
  exact this
 unfold vj
 rw [e1]
 simp only [Option.bind_some]
 rw [e2]
 simp only [Option.bind_some]
 rw [e3]
 simp only [Option.bind_some,if_true]
 rw [e4]
 rfl
def cQ (L:List aH) (x:aH):Bool:=decide ((0:Int)≤eE (fun y=>decide (x=y)) L 0)
theorem T3 (L:List aH) (x:aH) (hl:L.length≤1000000):dq L x=some (cQ L x):=by
 have e:fJ L x=ry L (fun y=>some (decide (x=y))):=by
  unfold fJ mN ry
  congr 1
  funext i
  unfold ez oS
  simp
 unfold dq
 rw [e,oT L _ (fun y=>decide (x=y)) (fun _ _=>rfl) (by omega)]
 rfl
def DN (k p:al) (t:an):an:=if t.Key=k then ⟨t.Key,p⟩ else t
theorem OY (k p:al) (t:an):(DN k p t).Key=t.Key:=by unfold DN;split<;>rfl
def PF (o:bu) (k p:al):bu:=⟨o.ak.map (DN k p),o.ba,o.aL,o.aR⟩
theorem T5 {o:bu} (hb:pq o) (k p:al):pq (PF o k p):=⟨by show (o.ak.map _).length≤1000;rw [List.length_map];exact hb.Hf,hb.Sj,hb.mem,hb.Vv,hb.act,hb.shr⟩
theorem T7 (T:List an) (k p q:al):(∃ r,up T q=some r)→∃ r,up (T.map (DN k p)) q=some r:=by
 rintro ⟨r,h⟩
 obtain ⟨t,ht,hk,_⟩:=zk h
 exact yw ⟨DN k p t,List.mem_map.2 ⟨t,ht,rfl⟩,by rw [OY];exact hk⟩
theorem Hg.mv {o:bu} {l:List aM} (h:Hg o l) (k p:al):Hg (PF o k p) l:=⟨h.len,fun x hx=>⟨T7 _ k p _ (h.ok x hx).1,(h.ok x hx).2⟩,h.nd⟩
theorem T8 (q:List aH) (l:List aM) (k p:al) (v:aC) (o:bu) (ho:o.ak.length≤100000):wV q l k p v o o.ak 0=nB q l v o (o.ak.map (DN k p)):=by
 have key:∀ (r A:List an),A++r=o.ak→iter (fun x:(List an)×Int=>iv q l k p v o x.1 x.2) (A.map (DN k p)++r,(A.length:Int))=nB q l v o (o.ak.map (DN k p)):=by
  intro r
  induction r with
  | nil=>
    intro A hA
    rw [List.append_nil] at hA
    rw [iter_eq]
    dsimp only
    unfold iv
    rw [if_neg (by rw [← hA];omega),cH,List.append_nil,hA]
  | cons x r ih=>
    intro A hA
    have hl:A.length+1+r.length=o.ak.length:=by rw [← hA];simp;omega
    have hx:idx (A.map (DN k p)++x :: r) (A.length:Int)=some x:=by
     unfold idx
     simp
    have OZ:∀ y,(A.map (DN k p)++x :: r).set ((A.length:Int)).toNat y=A.map (DN k p)++y :: r:=by
     intro y
     rw [List.set_append_right _ _ (by simp)]
     simp
    have st:iv q l k p v o (A.map (DN k p)++x :: r) (A.length:Int)=some (.inl ((A++[x]).map (DN k p)++r,(((A++[x]).length:Nat):Int))):=by
     unfold iv
     rw [if_pos (by omega),hx]
     simp only [Option.bind_some]
     unfold nA
     rw [bh (by omega) (by omega),OZ]
     by_cases c:x.Key=k
     ·rw [if_pos c]
      simp [DN,c]
     ·rw [if_neg c]
      simp [DN,c]
    rw [iter_eq]
    dsimp only
    rw [st]
    simp only [Option.bind_some,dh]
    exact ih (A++[x]) (by rw [List.append_assoc];exact hA)
 exact key o.ak [] rfl
theorem MW (k p:al):∀ (T:List an) (i:Int),0≤i→T.Pairwise (fun a b=>a.Key≠b.Key)→0≤eE (fun t=>decide (t.Key=k)) T i→i≤eE (fun t=>decide (t.Key=k)) T i∧T.set (eE (fun t=>decide (t.Key=k)) T i - i).toNat ⟨k,p⟩=T.map (DN k p)
 | [],i,h0,_,h=>by simp [eE] at h
 | x :: r,i,h0,hn,h=>by
   have hc:=List.pairwise_cons.1 hn
   unfold eE at h ⊢
   by_cases c:x.Key=k
   ·rw [if_pos (decide_eq_true c)]
    refine ⟨by omega,?_⟩
    rw [show (i - i).toNat=0 by omega,List.set_cons_zero,List.map_cons]
    have hr:r.map (DN k p)=r:=by
     conv=>rhs;rw [← List.map_id r]
     refine List.map_congr_left (fun t ht=>?_)
     unfold DN
     rw [if_neg (fun e=>hc.1 t ht (c.trans e.symm))]
     rfl
    rw [hr]
    unfold DN
    rw [if_pos c,c]
   ·rw [if_neg (by simpa using c)] at h ⊢
    obtain ⟨g1,g2⟩:=MW k p r (i+1) (by omega) hc.2 h
    refine ⟨by omega,?_⟩
    rw [show (eE (fun t=>decide (t.Key=k)) r (i+1) - i).toNat=(eE (fun t=>decide (t.Key=k)) r (i+1) - (i+1)).toNat+1 by omega,List.set_cons_succ,g2,List.map_cons]
    unfold DN
    rw [if_neg c]
theorem O0 {o:bu} {v:aC} (hv:oU v o) (hb:pq o) (hr:G3 o) {l:List aM} (hl:Hg o l) {q:List aH} (hq:q.length≤500) (hc:cT o=some (some v,0)) (h0:mF o q l=0) (k p:al):
 ∃ M e,je o q l k p=some (M,e)∧vi o q l k p=some (M,e)∧pq M:=by
 have hle:=hl.len
 have ht:=hb.Hf
 have hE:pq ⟨[],[],[],[]⟩:=⟨by simp,by simp,by simp,by simp,fun r h=>by (cases h),fun s h=>by (cases h)⟩
 have tk:=ja o.ak k
 have tp:=ja o.ak p
 have e1:∀ c,dI o q l k p v c=dI o q l k p v c:=fun _=>rfl
 have em:je o q l k p=if (!(up o.ak k).isSome)=true then dI o q l k p v true else if p≠[] then dI o q l k p v (!(up o.ak p).isSome) else dI o q l k p v false:=by
  unfold je
  rw [xJ hv hc q hq l (by omega),if_neg (fun k=>k h0)]
  simp only [Option.bind_some,fc]
  rw [if_neg (fun k=>k rfl),xj hv]
  simp only [Option.bind_some]
  rw [xj hv]
  rfl
 have eq:vi o q l k p=if up o.ak k=none then iw o q l p (eE (fun t=>decide (t.Key=k)) o.ak 0) true else if p≠[] then iw o q l p (eE (fun t=>decide (t.Key=k)) o.ak 0) (decide (up o.ak p=none)) else iw o q l p (eE (fun t=>decide (t.Key=k)) o.ak 0) false:=by
  unfold vi
  rw [jf o k (by omega),jf o p (by omega)]
  simp only [Option.bind_some,tk,tp]
 have bad:∃ M e,dI o q l k p v true=some (M,e)∧iw o q l p (eE (fun t=>decide (t.Key=k)) o.ak 0) true=some (M,e)∧pq M:=⟨⟨[],[],[],[]⟩,8,rfl,rfl,hE⟩
 cases hu:up o.ak k with
 | none=>
   rw [em,eq,hu]
   exact bad
 | some par=>
   have T9:∃ M e,dI o q l k p v false=some (M,e)∧iw o q l p (eE (fun t=>decide (t.Key=k)) o.ak 0) false=some (M,e)∧pq M:=by
    obtain ⟨t0,Vz⟩:∃ t0,OE o.ak k=some t0:=by
     unfold up at hu
     cases h:OE o.ak k with
     | none=>rw [h] at hu;cases hu
     | some t=>exact ⟨t,rfl⟩
    have Xu:t0.eB=par:=by unfold up at hu;rw [Vz] at hu;exact Option.some.inj hu
    have Xv:=(CN Vz).2
    have Ua:=CQ Vz
    have hf:0≤eE (fun t=>decide (t.Key=k)) o.ak 0:=by
     have:¬ eE (fun t:an=>decide (t.Key=k)) o.ak 0 < 0:=fun h=>by rw [tk.1 h] at hu;cases hu
     omega
    have OZ:=(MW k p o.ak 0 (by omega) hr.tree.nd hf).2
    rw [Int.sub_zero] at OZ
    unfold dI iw kK
    rw [if_neg (by simp),if_neg (by simp),hv.par k,hu,Ua]
    simp only [Option.bind_some,Option.getD_some]
    rw [Xu]
    by_cases c:par=p
    ·rw [if_pos c,if_pos c]
     exact ⟨_,_,rfl,rfl,hE⟩
    ·rw [if_neg c,if_neg c,Im hb]
     unfold dG
     rw [mx (by simp;omega)]
     simp only [Option.bind_some,List.nil_append]
     rw [T8 q l k p v o (by omega),Ua]
     simp only [Option.bind_some]
     rw [Xv,OZ]
     have Bx:=T5 hb k p
     have uZ:=hl.mv k p
     obtain ⟨r',Sw,Ir⟩:=CU (PF o k p) Bx
     unfold nB
     rw [show (⟨o.ak.map (DN k p),o.ba,o.aL,o.aR⟩:bu)=PF o k p from rfl,Sw]
     simp only [Option.bind_some]
     rcases Ir with ⟨sw,KV⟩ | ⟨hz,Nh,w,KV,hw⟩
     ·rw [KV]
      simp only [Option.bind_some,fc]
      rw [if_pos sw,if_pos sw]
      exact ⟨_,_,rfl,rfl,hE⟩
     ·rw [KV,hz]
      simp only [Option.bind_some,fc]
      rw [if_neg (fun k=>k rfl),if_neg (fun k=>k rfl),Fy hv hb hr hl q hq,Aq hv hb hr hl q hq]
      simp only [Option.bind_some]
      rw [Fy hw.view Bx Nh uZ q hq,Aq hw.view Bx Nh uZ q hq]
      simp only [Option.bind_some]
      have hlen:∀ o':bu,(FH o' q l).length≤500:=fun o'=>Nat.le_trans (List.length_filter_le _ _) hq
      have Vw:cC (FH (PF o k p) q l) (fun y0=>k9 y0 (FH o q l))=some ((FH (PF o k p) q l).any (fun y=>!cQ (FH o q l) y)):=gf _ _ (fun y=>!cQ (FH o q l) y) (fun y _=>by
       show k9 y (FH o q l)=_
       unfold k9
       rw [T3 _ _ (by have:=hlen o;omega)]
       rfl) (by have:=hlen (PF o k p);omega)
      rw [Vw,show cC (FH (PF o k p) q l) (fun y0=>uD y0 (FH o q l))=_ from Vw]
      simp only [Option.bind_some]
      split
      ·exact ⟨_,_,rfl,rfl,hE⟩
      ·exact ⟨_,_,rfl,rfl,Bx⟩
   rw [em,eq,hu,if_neg (by simp),if_neg (show ¬ (some par=none) by simp)]
   by_cases c:p=[]
   ·rw [if_neg (fun k=>k c),if_neg (fun k=>k c)]
    exact T9
   ·rw [if_pos c,if_pos c]
    cases hp:up o.ak p with
    | none=>exact bad
    | some _=>exact T9
section
variable {o:bu} (hb:pq o) (hr:G3 o) {v:aC} (hv:MO v o)
include hb hr hv
end
theorem O1 {n:Int} (h0:0≤n) (h1:n≤100000) (z:al):S5 z n n=some (List.replicate n.toNat z):=by
 unfold S5
 rw [if_pos (by omega)]
theorem O2 (n:Int) (h0:0≤n) (h1:n≤100000):dL n=some []:=by
 unfold dL dn
 have e:cr (n - cr ((0:Int) - 0))=n:=by
  rw [show cr ((0:Int) - 0)=0 by decide,bh (by omega) (by omega)];omega
 rw [if_neg (by omega),e]
 by_cases c:0 < n
 ·rw [if_pos c,O1 h0 h1,show yD ([]:List al) (0:Int) (0:Int)=some [] from rfl]
  simp only [Option.bind_some]
  rw [vM (by omega) (by omega) (by omega)]
  simp
 ·rw [if_neg c]
theorem O3 (a b:List al) (h:a.length+b.length≤1000):eA [a,b]=some (a++b):=by
 unfold eA lg
 have s1:∀ n m:Int,0≤n→n≤1000→(m=0∨m=1)→ck [a,b] n m=some (.inl (n+(if m=0 then a.length else b.length),m+1)):=by
  intro n m h0 h1 hm
  unfold ck
  rcases hm with rfl | rfl
  ·rw [if_pos (by simp),show idx [a,b] 0=some a from rfl]
   simp only [Option.bind_some]
   rw [bh (by omega) (by omega),if_neg (by omega),bh (by omega) (by omega)];rfl
  ·rw [if_pos (by simp),show idx [a,b] 1=some b from rfl]
   simp only [Option.bind_some]
   rw [bh (by omega) (by omega),if_neg (by omega),bh (by omega) (by omega)];rfl
 rw [iter_eq]
 dsimp only
 rw [s1 0 0 (by omega) (by omega) (.inl rfl)]
 simp only [Option.bind_some,dh]
 rw [iter_eq]
 dsimp only
 rw [s1 _ _ (by simp) (by simp;omega) (.inr (by omega))]
 simp only [Option.bind_some,dh]
 rw [iter_eq]
 dsimp only
 unfold ck
 rw [if_neg (by simp),cH]
 unfold gY
 rw [O2 _ (by simp;omega) (by simp;omega)]
 simp only [Option.bind_some]
 have b2a:bC [a,b] [] 0=some (.inl (a,1)):=by
  unfold bC
  rw [if_pos (by simp),show idx [a,b] 0=some a from rfl]
  simp only [Option.bind_some]
  rw [mx (by simp;omega)];rfl
 have b2b:bC [a,b] a 1=some (.inl (a++b,2)):=by
  unfold bC
  rw [if_pos (by simp),show idx [a,b] 1=some b from rfl]
  simp only [Option.bind_some]
  rw [mx (by omega)];rfl
 have b2c:bC [a,b] (a++b) 2=some (.inr (a++b)):=by
  unfold bC
  rw [if_neg (by simp)];rfl
 unfold lf
 rw [iter_eq]
 dsimp only
 rw [b2a]
 simp only [Option.bind_some,dh]
 rw [iter_eq]
 dsimp only
 rw [b2b]
 simp only [Option.bind_some,dh]
 rw [iter_eq]
 dsimp only
 rw [b2c]
 rfl
theorem Io (a b:List al) (ha:C5 a) (hb:C5 b) (hl:a.length≤10∧b.length≤10):oP a b=some (if (a++b).any (fun s=>!DK s)=true then (false,5) else (BH a b,0)):=by
 have hx:∀ x∈a++b,x.length≤1000000:=fun x hx=>by
  rcases List.mem_append.1 hx with k | k
  ·exact ha.2 x k
  ·exact hb.2 x k
 have Vu:(a++b).length≤20:=by simp;omega
 unfold oP
 rw [O3 a b (by omega)]
 simp only [Option.bind_some]
 rw [show aZ (a++b) (fun y0=>ji y0)=some ((a++b).any (fun s=>!DK s)) from gf _ _ _ (fun x hm=>by
  show ji x=_
  unfold ji
  rw [GU x (by have:=hx x hm;omega)];rfl) (by omega)]
 simp only [Option.bind_some]
 cases (a++b).any (fun s=>!DK s) with
 | true=>rfl
 | false=>
   rw [if_neg (by simp)]
   unfold nV
   rw [if_neg (by simp;omega),DL a b ha hb];rfl
theorem FA:tP=some true:=by
 unfold tP r5
 rw [Io [[97,46,42]] [[97,46,98]] (C5.of (by simp) rfl) (C5.of (by simp) rfl) (by simp),show (([[97,46,42]]++[[97,46,98]]:List al).any (fun s=>!DK s))=false by decide,show BH [[97,46,42]] [[97,46,98]]=true by decide]
 simp
theorem PG (s:al):pj s=some (if nH s=true then 0 else 5):=by
 unfold pj
 rw [nI]
 simp only [Option.bind_some]
 cases nH s<;>rfl
theorem C0 (a b:Int):gz [a,b]=some (AS [a,b]):=CD _ (by simp)
theorem MX (a b:Int):AS [a,b]=if a≠0 then a else b:=by
 unfold AS
 split
 ·rfl
 ·unfold AS
  split
  ·rfl
  ·rename_i h;simp only [ne_eq,Classical.not_not] at h;rw [h];rfl
theorem PH (o:bu) (q:List aH) (l:List aM):mF o q l=if qF o 0 none (q.map qt)≠0 then qF o 0 none (q.map qt) else qF o 1 none (l.map at_):=MX _ _
theorem MY:pq ⟨[],[],[],[]⟩:=⟨by simp,by simp,by simp,by simp,fun r h=>by (cases h),fun s h=>by (cases h)⟩
theorem L7 (M:bu) (e:Int) (hM:pq M):gZ (M,e) e M.ak M.ba M.aL M.aR=some true:=by
 unfold gZ
 rw [if_pos rfl]
 dsimp only
 rw [OX hM]
 simp only [Option.bind_some,if_true]
 rw [FA]
 rfl
theorem xW (L:List Int):lZ L=some true:=by
 have key:Ok (lZ L) (fun r=>r=true):=by
  unfold lZ
  refine Ok.gen (TS (s:=⟨L,0⟩) (K:=1000) ⟨by simp,by simp⟩ (by omega)) (fun o s1 hb q1=>?_)
  refine Ok.gen (MN q1 (by omega)) (fun q s2 hq q2=>?_)
  refine Ok.gen (Kt q2 (by omega)) (fun l s3 hl q3=>?_)
  refine Ok.gen (hJ q3 (by omega) (by simp) (by simp)) (fun k s4 _ q4=>?_)
  refine Ok.gen (hJ q4 (by omega) (by simp) (by simp)) (fun p s5 _ q5=>?_)
  refine Ok.gen (hJ q5 (by omega) (by simp) (by simp)) (fun w s6 _ q6=>?_)
  dsimp only
  have Vx:=hq.1
  have Vu:=hl.1
  obtain ⟨r,Sw,Ir⟩:=CU o hb
  rw [Sw]
  simp only [Option.bind_some]
  rcases Ir with ⟨sw,hc⟩ | ⟨hz,hR,v,hc,hv⟩
  ·
   have me:∀ q',eZ o q' l=some (none,r):=fun q'=>by
    unfold eZ;rw [hc];simp only [Option.bind_some,fc];rw [if_pos sw]
   have c1:fQ o q=some r:=by
    unfold fQ;rw [hc];simp only [Option.bind_some,fc];rw [if_pos sw]
   have c2:fo o l=some r:=by
    unfold fo;rw [hc];simp only [Option.bind_some,fc];rw [if_pos sw]
   have c3:∀ t w,iX o l t w=some (0,r):=fun t w=>by
    unfold iX;rw [me];simp only [Option.bind_some,fc];rw [if_pos sw]
   have c4:∀ t w,j0 o q l t w=some (0,r):=fun t w=>by
    unfold j0;rw [me];simp only [Option.bind_some,fc];rw [if_pos sw]
   have c5:kh o q l=some ([],r):=by
    unfold kh;rw [me];simp only [Option.bind_some,fc];rw [if_pos sw]
   have c6:je o q l k p=some (⟨[],[],[],[]⟩,r):=by
    unfold je;rw [me];simp only [Option.bind_some,fc];rw [if_pos sw]
   rw [if_neg sw]
   unfold hC
   dsimp only
   rw [c1]
   simp only [Option.bind_some]
   rw [if_neg (fun k=>k rfl),c2]
   simp only [Option.bind_some]
   unfold fR
   rw [if_neg (by simp),if_neg sw]
   dsimp only
   rw [PG]
   simp only [Option.bind_some]
   rw [C0]
   simp only [Option.bind_some]
   unfold eU
   dsimp only
   rw [c3]
   simp only [Option.bind_some]
   rw [C0,MX r,if_pos sw]
   simp only [Option.bind_some]
   rw [if_neg (fun k=>k rfl),if_neg sw]
   unfold eT
   rw [if_neg (by simp)]
   dsimp only
   rw [c4]
   simp only [Option.bind_some]
   rw [C0,MX r r,if_pos sw]
   simp only [Option.bind_some]
   rw [C0,MX r,if_pos sw]
   simp only [Option.bind_some]
   rw [if_neg (fun k=>k rfl),if_neg sw]
   unfold eS
   rw [if_neg (by simp)]
   dsimp only
   rw [c5]
   simp only [Option.bind_some]
   rw [if_neg (fun k=>k rfl),if_neg sw]
   unfold eR
   rw [if_neg (by simp)]
   dsimp only
   rw [c6]
   simp only [Option.bind_some]
   rw [if_neg sw]
   exact ⟨true,L7 ⟨[],[],[],[]⟩ r MY,rfl⟩
  ·subst hz
   rw [if_pos rfl,TT hb q (by omega)]
   simp only [Option.bind_some]
   rw [TU hb l (by omega)]
   simp only [Option.bind_some]
   generalize hB:qF o 0 none (q.map qt)=B
   generalize hA:qF o 1 none (l.map at_)=A
   have hF:mF o q l=if B≠0 then B else A:=by rw [PH,hB,hA]
   have hF0:mF o [] l=A:=by
    rw [PH,hA]
    rfl
   have c1:fQ o q=some B:=by
    unfold fQ;rw [hc];simp only [Option.bind_some,fc];rw [if_neg (fun k=>k rfl),ED hv.view q (by omega),hB];rfl
   have c2:fo o l=some A:=by
    unfold fo;rw [hc];simp only [Option.bind_some,fc];rw [if_neg (fun k=>k rfl),CV hv.view l (by omega),hA];rfl
   have PI:A=0→Hg o l:=fun z=>Hg.of (by omega) (hA.trans z)
   have Xw:B=0→∀ x∈q,0≤x.kU∧x.kU≤1000000000:=fun z x hx=>by
    obtain ⟨h1,_,_⟩:=Re _ _ (hB.trans z)
    exact (h1 (qt x) (List.mem_map.2 ⟨x,hx,rfl⟩)).2.2
   have me:=xJ hv.view hc q (by omega) l (by omega)
   have me0:=xJ hv.view hc [] (by simp) l (by omega)
   unfold hC
   dsimp only
   rw [c1]
   simp only [Option.bind_some]
   rw [if_neg (fun k=>k rfl),c2]
   simp only [Option.bind_some]
   rw [decide_eq_false (fun k=>k rfl)]
   have j3:eU (o,s1) (q,s2) (l,s3) (k,s4) (p,s5) (w,s6) B A (Il o k w)=some true:=by
    have j6:eR (o,s1) (q,s2) (l,s3) (k,s4) (p,s5) (mF o q l) false=some true:=by
     unfold eR
     rw [if_neg (by simp)]
     dsimp only
     by_cases z:mF o q l=0
     ·have zB:B=0:=by rw [hF] at z;by_cases h:B=0;exact h;rw [if_pos h] at z;exact z
      have zA:A=0:=by rw [hF,if_neg (fun k=>k zB)] at z;exact z
      obtain ⟨M,e,m1,m2,m3⟩:=O0 hv.view hb hR (PI zA) (q:=q) (by omega) hc z k p
      rw [m1]
      simp only [Option.bind_some]
      rw [if_pos z,m2]
      simp only [Option.bind_some]
      exact L7 M e m3
     ·have c6:je o q l k p=some (⟨[],[],[],[]⟩,mF o q l):=by
       unfold je;rw [me,if_pos z];simp only [Option.bind_some,fc];rw [if_pos z]
      rw [c6]
      simp only [Option.bind_some]
      rw [if_neg z]
      exact L7 ⟨[],[],[],[]⟩ _ MY
    have j5:eS (o,s1) (q,s2) (l,s3) (k,s4) (p,s5) (mF o q l) false=some true:=by
     unfold eS
     rw [if_neg (by simp)]
     dsimp only
     by_cases z:mF o q l=0
     ·have zB:B=0:=by rw [hF] at z;by_cases h:B=0;exact h;rw [if_pos h] at z;exact z
      have zA:A=0:=by rw [hF,if_neg (fun k=>k zB)] at z;exact z
      rw [OU hv.view hb hR (PI zA) (q:=q) (by omega) (Xw zB) hc z]
      simp only [Option.bind_some]
      rw [z] at j6 ⊢
      rw [if_neg (fun k=>k rfl),if_pos rfl,Aq hv.view hb hR (PI zA) q (by omega)]
      simp only [Option.bind_some]
      rw [show ij (FH o q l) (FH o q l)=some true by
       have:=xA (FH o q l) (FH o q l) (by have:(FH o q l).length≤q.length:=List.length_filter_le _ _;omega)
       rw [decide_eq_true rfl] at this
       exact this]
      exact j6
     ·have c5:kh o q l=some ([],mF o q l):=by
       unfold kh;rw [me,if_pos z];simp only [Option.bind_some,fc];rw [if_pos z]
      rw [c5]
      simp only [Option.bind_some]
      rw [if_neg (fun k=>k rfl),if_neg z]
      exact j6
    have j4:eT (o,s1) (q,s2) (l,s3) (k,s4) (p,s5) (w,s6) B A (Il o k w) false=some true:=by
     unfold eT
     rw [if_neg (by simp)]
     dsimp only
     rw [C0,MX B A,← hF]
     by_cases z:mF o q l=0
     ·have zB:B=0:=by rw [hF] at z;by_cases h:B=0;exact h;rw [if_pos h] at z;exact z
      have zA:A=0:=by rw [hF,if_neg (fun k=>k zB)] at z;exact z
      have e:=OT hv.view hb hR (PI zA) (q:=q) (by omega) (Xw zB) hc z k w
      by_cases t:Il o k w=0
      ·rw [if_neg (fun k=>k t)] at e
       rw [e]
       simp only [Option.bind_some]
       rw [C0,MX (mF o q l),if_neg (fun k=>k z)]
       simp only [Option.bind_some]
       have hu:∃ r,up o.ak k=some r:=by
        cases h:up o.ak k with
        | none=>unfold Il at t;rw [h,if_pos rfl] at t;omega
        | some r=>exact ⟨r,rfl⟩
       rw [t,if_neg (fun k=>k rfl),if_pos rfl,Kz hv.view hb hR (PI zA) (q:=q) (by omega) (Xw zB) k w hu]
       simp only [Option.bind_some]
       rw [OR (PI zA),decide_eq_false (fun k=>k rfl)]
       exact j5
      ·rw [if_pos t] at e
       rw [e]
       simp only [Option.bind_some]
       rw [C0,MX (mF o q l),if_neg (fun k=>k z)]
       simp only [Option.bind_some]
       rw [if_neg (fun k=>k rfl),if_neg t]
       exact j5
     ·have c4:j0 o q l k w=some (0,mF o q l):=by
       unfold j0;rw [me,if_pos z];simp only [Option.bind_some,fc];rw [if_pos z]
      rw [c4]
      simp only [Option.bind_some]
      rw [C0,MX (mF o q l),if_pos z]
      simp only [Option.bind_some]
      rw [if_neg (fun k=>k rfl),if_neg z]
      exact j5
    unfold eU
    dsimp only
    rw [C0,MX A]
    by_cases z:A=0
    ·have e:=MU hv.view hb hR (PI z) hc (hA.trans z) k w
     rw [if_neg (show ¬ A≠0 from fun k=>k z)]
     by_cases t:Il o k w=0
     ·rw [if_neg (fun k=>k t)] at e
      rw [e]
      simp only [Option.bind_some]
      rw [t,if_neg (fun k=>k rfl),if_pos rfl,yB hb hR (PI z)]
      simp only [Option.bind_some]
      rw [decide_eq_false (fun k=>k rfl)]
      rw [t] at j4
      exact j4
     ·rw [if_pos t] at e
      rw [e]
      simp only [Option.bind_some]
      rw [if_neg (fun k=>k rfl),if_neg t]
      exact j4
    ·have c3:iX o l k w=some (0,A):=by
      unfold iX;rw [me0,hF0,if_pos z];simp only [Option.bind_some,fc];rw [if_pos z]
     rw [c3]
     simp only [Option.bind_some]
     rw [if_pos (show A≠0 from z),if_neg (fun k=>k rfl),if_neg z]
     exact j4
   have j2:fR (o,s1) (q,s2) (l,s3) (k,s4) (p,s5) (w,s6) 0 B A false=some true:=by
    unfold fR
    rw [if_neg (by simp),if_pos rfl]
    dsimp only
    rw [(Kv hb hR k).2,PG]
    simp only [Option.bind_some]
    rw [C0,C0]
    simp only [Option.bind_some]
    cases hu:up o.ak k with
    | none=>
      rw [if_neg (by simp)]
      simp only [fc]
      rw [show AS [sB true 8,if nH w=true then 0 else 5]=Il o k w by
       rw [MX];unfold Il sB;rw [hu];simp]
      exact j3
    | some r=>
      rw [if_pos (by simp)]
      simp only [fc]
      rw [CR (by have:=Je hu;intro e;rw [e] at this;cases this)]
      simp only [Option.bind_some]
      rw [show AS [sB false 8,if nH w=true then 0 else 5]=Il o k w by
       rw [MX];unfold Il sB;rw [hu];cases nH w<;>simp]
      exact j3
   exact ⟨true,j2,rfl⟩
 obtain ⟨r,h1,rfl⟩:=key
 exact h1
end Go.Beacon
