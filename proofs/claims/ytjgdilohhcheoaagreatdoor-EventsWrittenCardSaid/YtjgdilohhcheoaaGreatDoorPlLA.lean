/- Plain facts on what the functions compute. No program in sight. -/
import Derived.Test.YtjgdilohhcheoaaGreatDoorEvwP
import Derived.Test.YtjgdilohhcheoaaGreatDoorPlBA
import Derived.Lib.MapLaws
import Derived.Lib.ValidLaws
import Derived.Lib.TrimUEq
set_option linter.unusedVariables false
set_option linter.unusedSimpArgs false
namespace Go.Beacon
open Go Go.Eng
abbrev tG:=an
def sJ (s:tG) (k:Int):Prop:=0≤s.at_∧s.at_+k≤4611686018427387904
theorem sJ.less {s:tG} {k k':Int} (h:sJ s k) (hk:k'≤k):sJ s k':=⟨h.1,by have:=h.2;omega⟩
def qM {α:Type} (m:Option (α×tG)) (k:Int) (P:α→Prop):Prop:=∃ v s',m=some (v,s')∧P v∧sJ s' k
theorem qM.bind {α β:Type} {m:Option (α×tG)} {k k':Int} {P:α→Prop} {Q:β→Prop} {f:α×tG→Option (β×tG)} (h:qM m k P) (hf:∀ v s',P v→sJ s' k→qM (f (v,s')) k' Q):qM (m.bind f) k' Q:=by
 obtain ⟨v,s',rfl,h1,h2⟩:=h
 exact hf v s' h1 h2
theorem qM.ret {α:Type} {v:α} {s:tG} {k:Int} {P:α→Prop} (h1:P v) (h2:sJ s k):qM (some (v,s)) k P:=⟨v,s,rfl,h1,h2⟩
theorem zF (x:Int) {n:Int} (h1:1≤n) (h2:n≤4611686018427387904):∃ v,Below x n=some v∧0≤v∧v < n:=by
 unfold Below ti
 rw [if_neg (by omega),NQ (by omega)]
 have a1:=Int.lt_tmod_of_pos x (show 0 < n by omega)
 have a2:=Int.tmod_lt_of_pos x (show 0 < n by omega)
 simp only [Option.bind_some]
 split
 ·exact ⟨_,rfl,by rw [bP]<;>omega,by rw [bP]<;>omega⟩
 ·exact ⟨_,rfl,by omega,by omega⟩
theorem wm {s:tG} {n k:Int} (hs:sJ s (k+1)) (h1:1≤n) (h2:n≤4611686018427387904) (hk:0≤k):qM (dJ s n) k (fun v=>0≤v∧v < n):=by
 obtain ⟨a1,a2⟩:=hs
 have e1:aU (s.at_+1)=s.at_+1:=by rw [bP]<;>omega
 have e2:aU (s.at_+1 - 1)=s.at_:=by rw [bP]<;>omega
 unfold dJ
 split
 ·obtain ⟨v,hv,h3,h4⟩:=zF (aU (aU (s.at_+1) * 7919)) h1 h2
  rw [hv]
  exact qM.ret ⟨h3,h4⟩ ⟨by show 0≤aU (s.at_+1);omega,by show aU (s.at_+1)+k≤_;omega⟩
 ·rename_i hl
  have sq:(0:Int) < s.L.length:=by omega
  rw [e1,e2,Lo sq a1,NR (by omega)]
  simp only [Option.bind_some]
  obtain ⟨x,hx,_,_⟩:=jl s.L (i:=s.at_ % s.L.length) (Int.emod_nonneg _ (by omega)) (Int.emod_lt_of_pos _ sq)
  rw [hx]
  simp only [Option.bind_some]
  obtain ⟨u,hu,_,_⟩:=zF x (n:=1073741824) (by omega) (by omega)
  rw [hu]
  simp only [Option.bind_some]
  obtain ⟨v,hv,h3,h4⟩:=zF (aU (u+aU (aU (s.at_.tdiv s.L.length) * aU (7919+s.at_ % s.L.length)))) h1 h2
  rw [hv]
  exact qM.ret ⟨h3,h4⟩ ⟨by simp only;omega,by simp only;omega⟩
theorem F6 {s:tG} {l:List Int} {k:Int} (hs:sJ s (k+1)) (h1:l≠[]) (h2:l.length≤1000) (hk:0≤k):qM (cS s l) k (fun v=>v∈l):=by
 unfold cS
 have hl:0 < l.length:=List.length_pos_iff.2 h1
 refine qM.bind (wm hs (by omega) (by omega) hk) (fun v s' hv wj=>?_)
 obtain ⟨x,hx,hm,_⟩:=jl l hv.1 hv.2
 simp only [hx,Option.bind_some]
 exact qM.ret hm wj
theorem DN {s:tG} {a b k:Int} (hs:sJ s (k+1)) (AU:a≤b) (ha:-1152921504606846976≤a) (hb:b≤1152921504606846976) (hk:0≤k):qM (jV s a b) k (fun v=>a≤v∧v≤b):=by
 unfold jV
 have e1:aU (b - a)=b - a:=by rw [bP]<;>omega
 have e2:aU (b - a+1)=b - a+1:=by rw [bP]<;>omega
 rw [if_neg (by omega),e1,e2]
 refine qM.bind (wm hs (by omega) (by omega) hk) (fun v s' hv wj=>?_)
 refine qM.ret ?_ wj
 simp only
 rw [bP]<;>omega
theorem F7 {s:tG} {n k:Int} (hs:sJ s (k+1)) (h1:1≤n) (h2:n≤4611686018427387904) (hk:0≤k):qM (ia s n) k (fun _=>True):=by
 unfold ia
 exact qM.bind (wm hs h1 h2 hk) (fun v s' hv wj=>qM.ret trivial wj)
theorem Lt {s:tG} {l:List ax} {k:Int} (hs:sJ s (k+1)) (h1:l≠[]) (h2:l.length≤1000) (hk:0≤k):qM (bI s l) k (fun v=>v∈l):=by
 unfold bI
 have hl:0 < l.length:=List.length_pos_iff.2 h1
 refine qM.bind (wm hs (by omega) (by omega) hk) (fun v s' hv wj=>?_)
 obtain ⟨x,hx,hm,_⟩:=jl l hv.1 hv.2
 simp only [hx,Option.bind_some]
 exact qM.ret hm wj
theorem NU {s:tG} {a b k:Int} (hs:sJ s (k+2)) (AU:a≤b) (ha:-1099511627776≤a) (hb:b≤1099511627776) (hk:0≤k):qM (fj s a b) k (fun v=>-1099511627777≤v∧v≤1099511627777):=by
 unfold fj
 refine qM.bind (F7 (k:=k+1) (hs.less (by omega)) (by omega) (by omega) (by omega)) (fun v s' hv wj=>?_)
 simp only
 split
 ·refine qM.bind (F6 wj (by simp) (by simp) hk) (fun v s' hv wj=>qM.ret ?_ wj)
  have e1:aU (a - 1)=a - 1:=by rw [bP]<;>omega
  have e2:aU (b+1)=b+1:=by rw [bP]<;>omega
  rw [e1,e2] at hv
  simp only [List.mem_cons,List.not_mem_nil,or_false] at hv
  simp only;omega
 ·refine qM.bind (DN wj AU (by omega) (by omega) hk) (fun v s' hv wj=>qM.ret ?_ wj)
  simp only;omega
theorem xc {s:tG} {n K:Int} (hs:sJ s K) (hK:1≤K) (h1:1≤n) (h2:n≤4611686018427387904):qM (dJ s n) (K - 1) (fun v=>0≤v∧v < n):=
 wm (hs.less (by omega)) h1 h2 (by omega)
theorem Ck {s:tG} {n K:Int} (hs:sJ s K) (hK:1≤K) (h1:1≤n) (h2:n≤4611686018427387904):qM (ia s n) (K - 1) (fun _=>True):=
 F7 (hs.less (by omega)) h1 h2 (by omega)
theorem pW {s:tG} {l:List Int} {K:Int} (hs:sJ s K) (hK:1≤K) (h1:l≠[]) (h2:l.length≤1000):qM (cS s l) (K - 1) (fun v=>v∈l):=
 F6 (hs.less (by omega)) h1 h2 (by omega)
theorem Lu {s:tG} {a b K:Int} (hs:sJ s K) (hK:1≤K) (AU:a≤b) (ha:-1152921504606846976≤a) (hb:b≤1152921504606846976):qM (jV s a b) (K - 1) (fun v=>a≤v∧v≤b):=
 DN (hs.less (by omega)) AU ha hb (by omega)
theorem jm {s:tG} {l:List ax} {K:Int} (hs:sJ s K) (hK:1≤K) (h1:l≠[]) (h2:l.length≤1000):qM (bI s l) (K - 1) (fun v=>v∈l):=
 Lt (hs.less (by omega)) h1 h2 (by omega)
theorem wo {s:tG} {a b K:Int} (hs:sJ s K) (hK:2≤K) (AU:a≤b) (ha:-1099511627776≤a) (hb:b≤1099511627776):qM (fj s a b) (K - 2) (fun v=>-1099511627777≤v∧v≤1099511627777):=
 NU (hs.less (by omega)) AU ha hb (by omega)
theorem pX (n lo hi:Int):eC n lo hi=(decide (n < lo)||decide (hi < n)):=rfl
theorem oT (n lo hi:Int):sd n lo hi=(decide (lo≤n)&&decide (n≤hi)):=rfl
def Lv (n:Nat):Bool:=(decide (97≤n)&&decide (n≤122))||(decide (48≤n)&&decide (n≤57))||decide (n=45)||decide (n=95)
def nZ:ax→Bool
 | []=>false
 | c :: r=>decide ((c :: r).length≤40)&&(decide (97≤c.toNat)&&decide (c.toNat≤122))&&(c :: r).all (fun c=>Lv c.toNat)
theorem ui (c:UInt8) (r:ax):nZ (c :: r)=(decide ((c :: r).length≤40)&&(decide (97≤c.toNat)&&decide (c.toNat≤122))&&(c :: r).all (fun c=>Lv c.toNat)):=rfl
theorem Jj (s:ax) (hl:s.length≤40):tp s 0=some (s.all (fun c=>Lv c.toNat)):=by
 unfold tp
 rw [ug s (fun x:Int=>kU s x) (fun c=>if Lv c.toNat=true then none else some false) true (by omega),zC]
 ·intro i c h0 h1 hc
  have hB:(if (97:Int)≤(c.toNat:Int) then if (c.toNat:Int)≤(122:Int) then !true else if (48:Int)≤(c.toNat:Int) then if (c.toNat:Int)≤(57:Int) then !true else if (c.toNat:Int)=(45:Int) then !true else decide (¬ ((c.toNat:Int)=(95:Int))) else if (c.toNat:Int)=(45:Int) then !true else decide (¬ ((c.toNat:Int)=(95:Int))) else if (48:Int)≤(c.toNat:Int) then if (c.toNat:Int)≤(57:Int) then !true else if (c.toNat:Int)=(45:Int) then !true else decide (¬ ((c.toNat:Int)=(95:Int))) else if (c.toNat:Int)=(45:Int) then !true else decide (¬ ((c.toNat:Int)=(95:Int))))=!Lv c.toNat:=by
   unfold Lv
   rw [Bool.eq_iff_iff]
   repeat' split
   all_goals simp
   all_goals omega
  rw [kU,if_pos h1,hc]
  simp only [Option.bind_some]
  rw [hB]
  unfold qo
  rw [bP (by omega) (by omega)]
  cases Lv c.toNat<;>rfl
 ·rw [kU,if_neg (by omega)];rfl
theorem xd (s:ax):l0 s=some (nZ s):=by
 unfold l0 kV
 cases s with
 | nil=>simp [nZ]
 | cons c r=>
   rw [if_neg (by simp)]
   have hc:idx (c :: r) 0=some c:=rfl
   rw [hc]
   simp only [Option.bind_some]
   by_cases hl:(c :: r).length≤40
   ·rw [if_neg (by omega),Jj _ hl,ui]
    by_cases h1:(c.toNat:Int) < 97
    ·rw [if_pos h1]
     have:decide (97≤c.toNat)=false:=by simp;omega
     rw [this];simp
    ·rw [if_neg h1]
     have e1:decide (97≤c.toNat)=true:=by simp;omega
     by_cases h2:(122:Int) < c.toNat
     ·rw [if_pos (by simpa using h2)]
      have:decide (c.toNat≤122)=false:=by simp;omega
      rw [this];simp
     ·rw [if_neg (by simpa using h2)]
      have:decide (c.toNat≤122)=true:=by simp;omega
      rw [e1,this,decide_eq_true hl];simp
   ·rw [if_pos (by omega),ui,decide_eq_false hl];simp
theorem G1:∀ n:Fin 256,decide (UInt8.ofNat n.val∈([97,98,99,100,101,102,103,104,105,106,107,108,109,110,111,112,113,114,115,116,117,118,119,120,121,122,48,49,50,51,52,53,54,55,56,57,45,95]:List UInt8))=Lv n.val:=by decide+kernel
theorem Lw:∀ n:Fin 256,decide (UInt8.ofNat n.val∈([97,98,99,100,101,102,103,104,105,106,107,108,109,110,111,112,113,114,115,116,117,118,119,120,121,122]:List UInt8))=(decide (97≤n.val)&&decide (n.val≤122)):=by decide+kernel
theorem Jk {p:UInt8→Bool} {q:Nat→Bool} (h:∀ n:Fin 256,p (UInt8.ofNat n.val)=q n.val) (c:UInt8):p c=q c.toNat:=by
 have:=h ⟨c.toNat,c.toNat_lt⟩
 simpa using this
theorem xL (a b:Int):cmp_Compare_int a b=Cf a b:=by
 unfold cmp_Compare_int cmp_isNaN_int Cf;simp
theorem G2 (n:Int):mG n=(decide (0≤n)&&decide (n≤345686399999)):=by
 unfold mG
 rw [pX,Bool.eq_iff_iff]
 simp
theorem Jl {S A:Type} (f:S→Option (S⊕A)) (m:S→Nat) (Inv:S→Prop) (R:A→Prop)
 (h:∀ s,Inv s→(∃ s',f s=some (.inl s')∧Inv s'∧m s' < m s)∨(∃ a,f s=some (.inr a)∧R a)):∀ s,Inv s→∃ a,iter f s=some a∧R a:=by
 have key:∀ (n:Nat) s,m s≤n→Inv s→∃ a,iter f s=some a∧R a:=by
  intro n
  induction n with
  | zero=>
    intro s hm hi
    rcases h s hi with ⟨s',_,_,h3⟩ | ⟨a,h1,h2⟩
    ·omega
    ·exact ⟨a,by rw [iter_eq,h1];rfl,h2⟩
  | succ n ih=>
    intro s hm hi
    rcases h s hi with ⟨s',h1,h2,h3⟩ | ⟨a,h1,h2⟩
    ·obtain ⟨a,h4,h5⟩:=ih s' (by omega) h2
     exact ⟨a,by rw [iter_eq,h1];simpa using h4,h5⟩
    ·exact ⟨a,by rw [iter_eq,h1];rfl,h2⟩
 exact fun s hi=>key (m s) s (Nat.le_refl _) hi
theorem u64_in {x:Int} (h0:0≤x) (h1:x≤9223372036854775807):IntKind.u64.wrap x=x:=by
 unfold IntKind.wrap
 simp [IntKind.bits,IntKind.signed]
 omega
theorem Uu (x y:Int):Mz [x,y]=if x≠0 then x else y:=by
 by_cases h1:x=0<;>by_cases h2:y=0<;>simp [Mz,h1,h2]
def Ok {α:Type} (m:Option α) (Q:α→Prop):Prop:=∃ r,m=some r∧Q r
theorem Ok.ret {α:Type} {v:α} {Q:α→Prop} (h:Q v):Ok (some v) Q:=⟨v,rfl,h⟩
theorem Ok.mono {α:Type} {m:Option α} {P Q:α→Prop} (h:Ok m P) (hp:∀ v,P v→Q v):Ok m Q:=by
 obtain ⟨r,h1,h2⟩:=h;exact ⟨r,h1,hp r h2⟩
theorem Ok.inr {α β:Type} {m:Option β} {Q:α⊕β→Prop} (h:Ok m (fun r=>Q (.inr r))):Ok (Option.map .inr m) Q:=by
 obtain ⟨r,rfl,h2⟩:=h;exact ⟨_,rfl,h2⟩
theorem Ok.gen {α β:Type} {m:Option (α×tG)} {k:Int} {P:α→Prop} {f:α×tG→Option β} {Q:β→Prop} (h:qM m k P) (hf:∀ v s',P v→sJ s' k→Ok (f (v,s')) Q):Ok (m.bind f) Q:=by
 obtain ⟨v,s',rfl,h1,h2⟩:=h;exact hf v s' h1 h2
theorem qM.of {α:Type} {m:Option (α×tG)} {k:Int} {P:α→Prop} (h:Ok m (fun r=>P r.1∧sJ r.2 k)):qM m k P:=by
 obtain ⟨⟨v,s⟩,h1,h2,h3⟩:=h;exact ⟨v,s,h1,h2,h3⟩
theorem Ok.idx {α β:Type} {xs:List α} {i:Int} {f:α→Option β} {Q:β→Prop} (h0:0≤i) (h1:i < xs.length) (hf:∀ x,idx xs i=some x→x∈xs→Ok (f x) Q):Ok ((idx xs i).bind f) Q:=by
 obtain ⟨x,hx,hm,_⟩:=jl xs h0 h1
 rw [hx];exact hf x hx hm
theorem Ok.app {α β:Type} {xs ys:List α} {f:List α→Option β} {Q:β→Prop} (h:xs.length+ys.length≤1000000000) (hf:Ok (f (xs++ys)) Q):Ok ((app xs ys).bind f) Q:=by
 rw [qI h];exact hf
abbrev Stp {S A:Type} (m:S→Nat) (Inv:S→Prop) (R:A→Prop) (s:S):S⊕A→Prop
 | .inl s'=>Inv s'∧m s' < m s
 | .inr a=>R a
theorem Ok.iter {S A:Type} {f:S→Option (S⊕A)} {R:A→Prop} (m:S→Nat) (Inv:S→Prop)
 (h:∀ s,Inv s→Ok (f s) (Stp m Inv R s)) (s:S) (hs:Inv s):Ok (iter f s) R:=by
 refine Jl f m Inv R (fun s hi=>?_) s hs
 obtain ⟨r,h1,h2⟩:=h s hi
 cases r with
 | inl s'=>exact .inl ⟨s',h1,h2.1,h2.2⟩
 | inr a=>exact .inr ⟨a,h1,h2⟩
theorem G3 {S A:Type} {f g:S→Option (S⊕A)} (h:∀ s,f s=g s) (s:S):iter f s=iter g s:=by rw [funext h]
theorem zG {α σ A X:Type} (xs:List α) (mk:σ→Int→X) (f:X→Option (X⊕A)) (Eh:σ→α→σ) (Inv:Int→σ→Prop) (E:σ→Option A)
 (h1:∀ s (i:Int) x,0≤i→i < xs.length→idx xs i=some x→Inv i s→f (mk s i)=some (.inl (mk (Eh s x) (i+1)))∧Inv (i+1) (Eh s x))
 (h2:∀ s,Inv xs.length s→f (mk s xs.length)=Option.map .inr (E s)) (s:σ) (h0:Inv 0 s):iter f (mk s 0)=E (xs.foldl Eh s):=by
 have key:∀ (n:Nat) (s:σ) (i:Int),0≤i→i+n=xs.length→Inv i s→iter f (mk s i)=E ((xs.drop i.toNat).foldl Eh s):=by
  intro n
  induction n with
  | zero=>
    intro s i hi hn hv
    have:i=xs.length:=by omega
    subst this
    rw [iter_eq,h2 s hv,de]
    simp
  | succ n ih=>
    intro s i hi hn hv
    obtain ⟨x,hx,_,hd⟩:=jl xs hi (by omega)
    obtain ⟨e1,e2⟩:=h1 s i x hi (by omega) hx hv
    rw [iter_eq,e1]
    simp only [Option.bind_some,ik]
    rw [ih _ _ (by omega) (by omega) e2,hd]
    rfl
 have:=key xs.length s 0 (by omega) (by omega) h0
 simpa using this
theorem take_succ {α:Type} {xs:List α} {i:Int} {x:α} (h0:0≤i) (h:idx xs i=some x):xs.take (i+1).toNat=xs.take i.toNat++[x]:=by
 obtain ⟨_,h1,h2⟩:=ew h
 rw [show (i+1).toNat=i.toNat+1 by omega,List.take_add_one,h2];rfl
theorem Ok.NV {σ A X:Type} {f:X→Option (X⊕A)} {R:A→Prop} (N:Nat) (mk:σ→Int→X) (Inv:Int→σ→Prop)
 (h:∀ s (i:Int),0≤i→i≤N→Inv i s→Ok (f (mk s i)) (fun r=>(∃ s',r=.inl (mk s' (i+1))∧i < N∧Inv (i+1) s')∨∃ a,r=.inr a∧R a)) (s:σ) (h0:Inv 0 s):Ok (Eng.iter f (mk s 0)) R:=by
 have key:∀ (k:Nat) (s:σ) (i:Int),0≤i→i≤N→i+k=N+1→Inv i s→Ok (Eng.iter f (mk s i)) R:=by
  intro k
  induction k with
  | zero=>
    intro s i hi hN hk hv
    omega
  | succ k ih=>
    intro s i hi hN hk hv
    obtain ⟨r,h1,h2⟩:=h s i hi hN hv
    rw [iter_eq,h1]
    rcases h2 with ⟨s',rfl,h3,h4⟩ | ⟨a,rfl,h3⟩
    ·simp only [Option.bind_some,ik]
     exact ih s' (i+1) (by omega) (by omega) (by omega) h4
    ·exact ⟨a,rfl,h3⟩
 exact key (N+1) s 0 (by omega) (by omega) (by omega) h0
def iM (c:UInt8):ax→List ax
 | []=>[[]]
 | b :: r=>if b=c then [] :: iM c r else match iM c r with
   | []=>[[b]]
   | h :: t=>(b :: h) :: t
theorem G4 (c:UInt8):∀ s,iM c s≠[]
 | []=>by simp [iM]
 | b :: r=>by
   unfold iM
   split
   ·simp
   ·split<;>simp
theorem uO (c:UInt8):∀ s,(iM c s).length≤s.length+1
 | []=>by simp [iM]
 | b :: r=>by
   have ih:=uO c r
   unfold iM
   split
   ·simp;omega
   ·split
    ·simp
    ·rename_i h t e;rw [e] at ih;simp at ih ⊢;omega
theorem F8 (c:UInt8):∀ s,Lib.split s [c]=iM c s
 | []=>rfl
 | b :: r=>by
   have ih:=F8 c r
   unfold Lib.split at ih ⊢
   unfold iM
   by_cases hb:b=c
   ·subst hb
    have JO:Lib.index (b :: r) [b]=0:=by rw [Lib.index];simp [List.isPrefixOf]
    rw [if_pos rfl,Lib.count_cons_eq,Nat.add_comm,Lib.splitK,JO,← ih]
    simp
   ·rw [if_neg hb,Lib.count_cons_ne b c r hb,← ih]
    have hp:([c]:List UInt8).isPrefixOf (b :: r)=false:=by simp [List.isPrefixOf,Ne.symm hb]
    have JO:Lib.index (b :: r) [c]=if Lib.index r [c]==-1 then -1 else Lib.index r [c]+1:=by rw [Lib.index,hp];simp
    by_cases hm:Lib.index r [c]=-1
    ·rw [Lib.count_miss hm];rfl
    ·have MP:=Lib.index_ge r [c]
     obtain ⟨j,hj⟩:∃ j:Nat,Lib.index r [c]=j:=⟨(Lib.index r [c]).toNat,by omega⟩
     have NW:Lib.index (b :: r) [c]=((j+1:Nat):Int):=by rw [JO,if_neg (fun e=>hm (beq_iff_eq.1 e)),hj];omega
     rw [Lib.count_hit (by simp) hj,Nat.add_comm]
     have n1:¬ ((((j+1:Nat):Int)==-1)=true):=fun h=>by have:=beq_iff_eq.1 h;omega
     have n2:¬ ((((j:Nat):Int)==-1)=true):=fun h=>by have:=beq_iff_eq.1 h;omega
     simp only [Lib.splitK,NW,hj,if_neg n1,if_neg n2]
     simp [List.take_succ_cons]
theorem G5 {s:ax} {c:UInt8} (h:s.length≤1000000000):ze s [c]=some (iM c s):=by
 unfold ze
 rw [if_pos ⟨by omega,by simp⟩]
 congr 1
 have h1:=Lib.splitB_data ⟨#[c]⟩ 0 (Lib.countB ⟨s.toArray⟩ ⟨#[c]⟩) ⟨s.toArray⟩
 rw [← F8]
 exact h1
def qg (c:UInt8):ax→ax×ax×Bool
 | []=>([],[],false)
 | b :: r=>if b=c then ([],r,true) else (b :: (qg c r).1,(qg c r).2.1,(qg c r).2.2)
theorem xe (c:UInt8):∀ s,(qg c s).2.2=false→(qg c s).1=s∧(qg c s).2.1=[]
 | []=>fun _=>⟨rfl,rfl⟩
 | b :: r=>by
   have ih:=xe c r
   unfold qg
   split
   ·intro h;cases h
   ·intro h;have:=ih h;simp [this]
theorem MA (c:UInt8):∀ s,Lib.cut s [c]=qg c s
 | []=>rfl
 | b :: r=>by
   have ih:=MA c r
   unfold Lib.cut at ih ⊢
   unfold qg
   by_cases hb:b=c
   ·subst hb
    have JO:Lib.index (b :: r) [b]=0:=by rw [Lib.index];simp [List.isPrefixOf]
    rw [if_pos rfl,JO];simp
   ·rw [if_neg hb,← ih]
    have hp:([c]:List UInt8).isPrefixOf (b :: r)=false:=by simp [List.isPrefixOf,Ne.symm hb]
    have JO:Lib.index (b :: r) [c]=if Lib.index r [c]==-1 then -1 else Lib.index r [c]+1:=by rw [Lib.index,hp];simp
    by_cases hm:Lib.index r [c]=-1
    ·rw [JO,hm];simp
    ·have MP:=Lib.index_ge r [c]
     have hn:¬ ((Lib.index r [c]==-1)=true):=fun e=>hm (beq_iff_eq.1 e)
     obtain ⟨j,hj⟩:∃ j:Nat,Lib.index r [c]=j:=⟨(Lib.index r [c]).toNat,by omega⟩
     have NW:Lib.index (b :: r) [c]=((j+1:Nat):Int):=by rw [JO,if_neg hn,hj];omega
     rw [NW,hj,if_pos (by omega),if_pos (by omega)]
     simp
theorem Lx {s:ax} {c:UInt8} (h:s.length≤1000000000):IP s [c]=some (qg c s):=by
 unfold IP
 rw [if_pos (by omega),MA]
theorem Bn (c:UInt8):∀ s,iM c s=if (qg c s).2.2=true then (qg c s).1 :: iM c (qg c s).2.1 else [s]
 | []=>rfl
 | b :: r=>by
   have ih:=Bn c r
   have e1:iM c (b :: r)=(if b=c then [] :: iM c r else match iM c r with
    | []=>[[b]]
    | h :: t=>(b :: h) :: t):=rfl
   rw [e1]
   unfold qg
   by_cases hb:b=c
   ·rw [if_pos hb,if_pos hb];rfl
   ·rw [if_neg hb,if_neg hb,ih]
    by_cases hc:(qg c r).2.2=true
    ·simp [hc]
    ·simp [hc]
theorem DO (c:UInt8):∀ s,(qg c s).1.length≤s.length∧(qg c s).2.1.length≤s.length
 | []=>⟨Nat.le_refl _,Nat.le_refl _⟩
 | b :: r=>by
   have ih:=DO c r
   unfold qg
   split
   ·simp
   ·simp;omega
def G6 (k:Nat) (s:ax):Bool:=decide ((iM 46 s).length≤k)&&(iM 46 s).all nZ
theorem xM (G7:Nat) (hm:G7≤1000):∀ (k:Nat) (s:ax) (n:Int),0≤n→n+k=G7→s.length≤1000000000→mY G7 s n=some (G6 k s)
 | 0,s,n,h0,hn,hs=>by
   have qN:=G4 46 s
   have hp:0 < (iM 46 s).length:=List.length_pos_iff.2 qN
   unfold mY
   rw [iter_eq]
   show (match fW G7 s n with | _=>_)=_
   rw [fW,if_neg (by omega)]
   simp only [Option.map_some,Option.bind_some]
   unfold G6
   rw [decide_eq_false (by omega)];rfl
 | k+1,s,n,h0,hn,hs=>by
   have ih:=xM G7 hm k (qg 46 s).2.1 (n+1) (by omega) (by omega) (by have:=(DO 46 s).2;omega)
   unfold mY at ih ⊢
   rw [iter_eq]
   show (match fW G7 s n with | _=>_)=_
   rw [fW,if_pos (by omega),Lx hs]
   simp only [Option.bind_some,xd]
   unfold G6
   rw [Bn 46 s]
   by_cases hk:nZ (qg 46 s).1=true
   ·by_cases hc:(qg 46 s).2.2=true
    ·simp only [hk,hc,Bool.not_true,Bool.false_eq_true,if_false,if_true]
     rw [bP (by omega) (by omega)]
     refine ih.trans ?_
     unfold G6
     simp [hk]
    ·have wj:=xe 46 s (by simpa using hc)
     rw [wj.1] at hk
     simp [hk,hc,wj.1]
   ·by_cases hc:(qg 46 s).2.2=true
    ·simp [hk,hc]
    ·have wj:=xe 46 s (by simpa using hc)
     rw [wj.1] at hk
     simp [hk,hc,wj.1]
def yg (c:UInt8):Bool:=decide (c.toNat < 32)||decide (c.toNat=127)
def Jm (s:ax):Bool:=!s.any yg&&Lib.validD s
theorem DP (s:ax) (hl:s.length≤1000000):l8 s=some (Jm s):=by
 unfold l8 rk
 have h:=ug s (fun x:Int=>dQ s x) (fun c=>if yg c=true then some false else none) (Lib.validD s) (by omega) (fun i c h0 h1 h2=>by
  show dQ s i=_
  unfold dQ jy yg
  rw [if_pos h1,h2]
  simp only [Option.bind_some]
  rw [bP (by omega) (by omega)]
  by_cases q1:c.toNat < 32
  ·rw [if_pos (by omega)];simp [q1]
  ·rw [if_neg (by omega)]
   by_cases q2:c.toNat=127
   ·simp [q2]
   ·have:¬ ((c.toNat:Int)=127):=by omega
    simp [q1,q2,this]) (by
  show dQ s s.length=_
  unfold dQ nP wW
  rw [if_neg (by omega),if_pos (by omega)];rfl)
 rw [h]
 unfold Jm
 congr 1
 induction s with
 | nil=>simp [pV]
 | cons c r ih=>exact Jn c r _
where
 Jn (c:UInt8) (r:ax) (e:Bool):pV (fun c=>if yg c=true then some false else none) e (c :: r)=(!(c :: r).any yg&&e):=by
  have key:∀ (l:ax),pV (fun c=>if yg c=true then some false else none) e l=(!l.any yg&&e):=by
   intro l
   induction l with
   | nil=>simp [pV]
   | cons x t ih=>
     simp only [pV,List.any_cons]
     cases hx:yg x with
     | true=>simp
     | false=>simp [ih]
  exact key _
theorem uj {α:Type} (p:α→Bool):∀ l:List α,l.dropWhile p=[]↔l.all p=true
 | []=>by simp
 | x :: r=>by
   rw [List.dropWhile_cons]
   cases h:p x with
   | true=>simp only [if_true,List.all_cons,h,Bool.true_and];exact uj p r
   | false=>simp [h]
theorem Bo (l cs:ax):Lib.trimS l cs=[]↔l.all (fun c=>decide (c∈cs))=true:=by
 have hc:∀ c:UInt8,cs.contains c=decide (c∈cs):=fun c=>by rw [Bool.eq_iff_iff];simp
 unfold Lib.trimS Lib.trimLeftS Lib.trimRightS
 rw [uj,List.all_reverse]
 constructor
 ·intro h
  have hd:(l.reverse.dropWhile (cs.contains ·))=[]:=by
   cases hh:l.reverse.dropWhile (cs.contains ·) with
   | nil=>rfl
   | cons a b=>
     have h1:=List.head?_dropWhile_not (fun c=>cs.contains c) l.reverse
     rw [hh] at h h1
     simp only [List.head?_cons] at h1
     simp only [List.all_cons,Bool.and_eq_true] at h
     rw [h.1] at h1;simp at h1
  rw [uj,List.all_reverse] at hd
  simpa [hc] using hd
 ·intro h
  have hd:l.reverse.dropWhile (cs.contains ·)=[]:=by
   rw [uj,List.all_reverse];simpa [hc] using h
  rw [hd];rfl
theorem rJ {s cs:ax} (h1:s.length≤100000) (h2:cs.length≤100000) (h3:cs.all (fun b=>decide (b.toNat < 128))=true):uK s cs=some (Lib.trimS s cs):=by
 unfold uK;rw [if_pos ⟨by omega,by omega,h3⟩]
theorem rK (s:ax):uL s=some (nZ s):=by
 unfold uL rl
 rw [oT]
 cases s with
 | nil=>rfl
 | cons c r=>
   by_cases hl:(c :: r).length≤40
   ·rw [if_pos (by simp;simp at hl;omega),rJ (by omega) (by simp) (by decide)]
    simp only [Option.bind_some]
    have e:(c :: r).all (fun c=>decide (c∈([97,98,99,100,101,102,103,104,105,106,107,108,109,110,111,112,113,114,115,116,117,118,119,120,121,122,48,49,50,51,52,53,54,55,56,57,45,95]:List UInt8)))=(c :: r).all (fun c=>Lv c.toNat):=by
     congr 1;funext c
     exact Jk (p:=fun c=>decide (c∈([97,98,99,100,101,102,103,104,105,106,107,108,109,110,111,112,113,114,115,116,117,118,119,120,121,122,48,49,50,51,52,53,54,55,56,57,45,95]:List UInt8))) G1 c
    have e2:=Jk (p:=fun c=>decide (c∈([97,98,99,100,101,102,103,104,105,106,107,108,109,110,111,112,113,114,115,116,117,118,119,120,121,122]:List UInt8))) (q:=fun n=>decide (97≤n)&&decide (n≤122)) Lw c
    rw [ui,decide_eq_true hl,Bool.true_and,← e,← e2]
    by_cases ht:Lib.trimS (c :: r) ([97,98,99,100,101,102,103,104,105,106,107,108,109,110,111,112,113,114,115,116,117,118,119,120,121,122,48,49,50,51,52,53,54,55,56,57,45,95]:ax)=[]
    ·rw [if_pos ht,(Bo _ _).1 ht,Bool.and_true]
     have i0:idx (c :: r) 0=some c:=rfl
     rw [i0]
     simp only [Option.bind_some,pE,Uq]
     congr 1
     have:=rI ([97,98,99,100,101,102,103,104,105,106,107,108,109,110,111,112,113,114,115,116,117,118,119,120,121,122]:List UInt8) c
     rw [decide_eq_decide]
     constructor
     ·intro h;exact Classical.byContradiction fun h'=>by have:=this.2 h';omega
     ·intro h;have h':=mt this.1 (fun h'=>h' h);omega
    ·rw [if_neg ht]
     have:(c :: r).all (fun c=>decide (c∈([97,98,99,100,101,102,103,104,105,106,107,108,109,110,111,112,113,114,115,116,117,118,119,120,121,122,48,49,50,51,52,53,54,55,56,57,45,95]:List UInt8)))=false:=by
      rw [← Bool.not_eq_true];exact fun h=>ht ((Bo _ _).2 h)
     rw [this,Bool.and_false]
   ·rw [if_neg (by simp;simp at hl;omega),ui,decide_eq_false hl];rfl
theorem DQ (n:Int):kG n=if 0≤n∧n≤345686399999 then 0 else 1:=by
 unfold kG
 rw [oT]
 by_cases h:0≤n∧n≤345686399999
 ·rw [if_pos h,if_neg (by simp;omega)]
 ·rw [if_neg h,if_pos (by simp;omega)]
theorem Jo (s:ax):pK s=some (if nZ s=true then 0 else 5):=by
 unfold pK
 rw [rK]
 simp only [Option.bind_some]
 cases nZ s<;>rfl
def preB (s p:ax):Bool:=decide (s.take p.length=p)
theorem Jp {s p:ax} (h:preB s p=true):p.length≤s.length:=by
 have h:s.take p.length=p:=of_decide_eq_true h
 have:=congrArg List.length h
 simp at this;omega
theorem zH (s p:ax) (h:s.length≤1000000000):cL s p=some (preB s p):=by
 unfold cL cm
 by_cases c:p.length≤s.length
 ·rw [if_pos (by omega),w8 (by omega) (by omega) (by omega)]
  simp only [Option.bind_some]
  unfold preB
  simp
 ·rw [if_neg (by omega)]
  cases hp:preB s p with
  | false=>rfl
  | true=>exact absurd (Jp hp) c
theorem Au (s p:ax) (h:s.length≤1000000000):strings_HasPrefix s p=some (preB s p):=by
 unfold strings_HasPrefix
 rw [zH s p h];rfl
def zI (s:ax):Bool:=decide (s.length≤40)&&G6 5 s
theorem DR {s:ax} (h:s.length≤1000000000):l6 s=some (zI s):=by
 unfold l6 jx zI
 by_cases c:s.length≤40
 ·rw [if_pos (by omega)]
  unfold qp
  rw [show (5:Int)=((5:Nat):Int) from rfl,xM 5 (by omega) 5 s 0 (by omega) (by omega) h]
  simp [c]
 ·rw [if_neg (by omega)];simp [c]
theorem DS {s:ax} (h:s.length≤1000000000):pJ s=some (zI s):=by
 unfold pJ kF zI G6
 rw [G5 h]
 simp only [Option.bind_some]
 have hl:=uO 46 s
 by_cases c:s.length≤40
 ·rw [if_pos (by omega)]
  by_cases d:(iM 46 s).length≤5
  ·rw [if_pos (by omega)]
   have hc:db (iM 46 s) (fun y0=>mb y0)=some ((iM 46 s).any (fun x=>!nZ x)):=
    nX _ _ _ (fun x _=>by unfold mb;rw [rK];rfl) (by omega)
   rw [hc]
   simp only [Option.bind_some,Option.some.injEq]
   simp [c,d,List.all_eq_not_any_not]
  ·rw [if_neg (by omega)];simp [d]
 ·rw [if_neg (by omega)];simp [c]
def Eh {A:Type} (o:Option A) (i:Int):Int⊕A:=match o with
 | some a=>.inr a
 | none=>.inl (i+1)
def uP {α A:Type} (v:Int→α→Option A) (e:A):List α→Int→A
 | [],_=>e
 | s :: r,i=>match v i s with
   | some a=>a
   | none=>uP v e r (i+1)
theorem sk {α A:Type} (v:Int→α→Option A) (e:A) (xs:List α) (f:Int→Option (Int⊕A))
 (hf:∀ (i:Int) s,0≤i→i < xs.length→idx xs i=some s→f i=some (Eh (v i s) i))
 (he:f xs.length=some (.inr e)):iter f 0=some (uP v e xs 0):=by
 have key:∀ (n:Nat) (i:Int),0≤i→i+n=xs.length→iter f i=some (uP v e (xs.drop i.toNat) i):=by
  intro n
  induction n with
  | zero=>
    intro i h0 hn
    obtain rfl:i=xs.length:=by omega
    rw [iter_eq,he,List.drop_of_length_le (by omega)];rfl
  | succ n ih=>
    intro i h0 hn
    obtain ⟨s,hs,_,hd⟩:=jl xs h0 (by omega)
    rw [iter_eq,hf i s h0 (by omega) hs,hd]
    conv=>rhs;unfold uP
    cases hv:v i s with
    | some a=>rfl
    | none=>
      simp only [Option.bind_some,ik]
      exact ih (i+1) (by omega) (by omega)
 have:=key xs.length 0 (by omega) (by omega)
 simpa using this
theorem yr (a b:ax):(Op.bytesLess a b||a==b)=decide (Lib.compareBytes a b≤0):=by
 rw [rH,Lp]
 rcases Bj a b with h | h | h<;>simp [h]
def MB (m:Model):Prop:=m.Prefix.length≤100∧m.ba.length≤100∧∀ p∈m.ba,p.Name.length≤100
def tH (p:aL):Option Int:=
 if p.Kind < 1∨3 < p.Kind then some 4 else if p.Kind=2∧(p.vj < -1000000000∨p.iA < p.vj∨1000000000 < p.iA) then some 1 else if ¬ p.Kind=2∧(p.vj≠0∨p.iA≠0) then some 3 else none
def Jq (l:List aL) (i:Int) (p:aL):Option Int:=
 if zI p.Name=false then some 5 else match kL l i with
 | some q=>if Lib.compareBytes p.Name q.Name≤0 then some 7 else tH p
 | none=>tH p
def zJ (l:List aL):Int:=uP (Jq l) 0 l 0
theorem Av {l:List aL} (hl:l.length≤100) (hn:∀ p∈l,p.Name.length≤100):ja l=some (zJ l):=by
 unfold ja oB zJ
 refine sk (Jq l) 0 l _ (fun i s i0 i1 hs=>?_) (by show cU l _=_;rw [cU,if_neg (by omega)];rfl)
 have Kl:=hn s (dV hs)
 show cU l i=_
 rw [cU,if_pos i1,hs]
 simp only [Option.bind_some]
 rw [DR (by omega)]
 simp only [Option.bind_some]
 unfold Jq
 cases hp:zI s.Name
 ·simp [Eh]
 simp only [Bool.not_true,Bool.false_eq_true,if_false,Bool.true_eq_false]
 have j1:∀ c:Bool,eK i s c=some (Eh (if c=true then some 7 else tH s) i):=by
  intro c
  unfold eK iZ iY tH
  rw [pX,pX,bP (x:=i+1) (by omega) (by omega)]
  cases c with
  | true=>rfl
  | false=>
    simp only [Bool.false_eq_true,if_false]
    by_cases h1:s.Kind < 1∨3 < s.Kind
    ·rw [if_pos (by simp only [Bool.or_eq_true,decide_eq_true_eq];exact h1),if_pos h1];rfl
    ·rw [if_neg (by simp only [Bool.or_eq_true,decide_eq_true_eq];exact h1),if_neg h1]
     by_cases h2:s.Kind=2∧(s.vj < -1000000000∨s.iA < s.vj∨1000000000 < s.iA)
     ·rw [if_pos (by simp only [Bool.and_eq_true,Bool.or_eq_true,decide_eq_true_eq];omega),if_pos h2];rfl
     ·rw [if_neg (by simp only [Bool.and_eq_true,Bool.or_eq_true,decide_eq_true_eq];omega),if_neg h2]
      by_cases h3:¬ s.Kind=2∧(s.vj≠0∨s.iA≠0)
      ·rw [if_pos (by simp only [Bool.and_eq_true,Bool.or_eq_true,decide_eq_true_eq];exact h3),if_pos h3];rfl
      ·rw [if_neg (by simp only [Bool.and_eq_true,Bool.or_eq_true,decide_eq_true_eq];exact h3),if_neg h3];rfl
 by_cases hi:0 < i
 ·obtain ⟨p,hp,_,_⟩:=jl l (i:=i - 1) (by omega) (by omega)
  have CG:kL l i=some p:=by unfold kL;rw [if_neg (by omega),hp]
  rw [CG,if_pos hi,bP (by omega) (by omega),hp]
  simp only [Option.bind_some]
  rw [j1,yr]
  simp only [decide_eq_true_eq]
 ·have CG:kL l i=none:=by unfold kL;rw [if_pos (by omega)]
  rw [CG,if_neg hi,j1,if_neg (by simp)]
theorem G8 {m:Model} (hl:m.ba.length≤100) (hn:∀ p∈m.ba,p.Name.length≤100) (n2:Int) (h2:0≤n2∧n2≤1000):nQ n2 m 0=some (if zJ m.ba≠0 then .inr (zJ m.ba) else .inl (n2+1)):=by
 unfold nQ
 have main:=sk (fun i p=>(Jq m.ba i p).map (Sum.inr:Int→Int⊕Int)) (.inl (n2+1)) m.ba (fun x:Int=>dS n2 m x) (fun i s i0 i1 hs=>?_) (by show dS n2 m _=_;rw [dS,if_neg (by omega),bP (by omega) (by omega)];rfl)
 ·refine main.trans ?_
  congr 1
  unfold zJ
  have hz:∀ (l:List aL) (i:Int) p a,Jq l i p=some a→a≠0:=by
   intro l i p a h
   have hr:∀ p a,tH p=some a→a≠0:=by
    intro p a h
    unfold tH at h
    split at h
    ·rw [← Option.some.inj h];decide
    ·split at h
     ·rw [← Option.some.inj h];decide
     ·split at h
      ·rw [← Option.some.inj h];decide
      ·cases h
   unfold Jq at h
   split at h
   ·rw [← Option.some.inj h];decide
   ·split at h
    ·split at h
     ·rw [← Option.some.inj h];decide
     ·exact hr _ _ h
    ·exact hr _ _ h
  have key:∀ (r:List aL) (i:Int),uP (fun i p=>(Jq m.ba i p).map (Sum.inr:Int→Int⊕Int)) (.inl (n2+1)) r i=if uP (Jq m.ba) 0 r i≠0 then .inr (uP (Jq m.ba) 0 r i) else .inl (n2+1):=by
   intro r
   induction r with
   | nil=>intro i;rfl
   | cons p r ih=>
     intro i
     unfold uP
     cases hv:Jq m.ba i p with
     | some a=>simp only [Option.map_some];rw [if_pos (hz _ _ _ _ hv)]
     | none=>simp only [Option.map_none];exact ih (i+1)
  exact key m.ba 0
 ·have Kl:=hn s (dV hs)
  show dS n2 m i=_
  rw [dS,if_pos i1,hs]
  simp only [Option.bind_some]
  rw [DS (by omega)]
  simp only [Option.bind_some]
  unfold Jq
  cases hp:zI s.Name
  ·simp [Eh]
  simp only [Bool.not_true,Bool.false_eq_true,if_false,Bool.true_eq_false]
  have j3:∀ c:Bool,ir i s c=some (Eh ((if c=true then some 7 else tH s).map (Sum.inr:Int→Int⊕Int)) i):=by
   intro c
   unfold ir lF lE tH
   rw [oT,oT,bP (x:=i+1) (by omega) (by omega)]
   cases c with
   | true=>rfl
   | false=>
     simp only [Bool.false_eq_true,if_false]
     by_cases h1:s.Kind < 1∨3 < s.Kind
     ·rw [if_pos (by simp only [Bool.not_eq_true',Bool.and_eq_false_iff,decide_eq_false_iff_not];omega),if_pos h1];rfl
     ·rw [if_neg (by simp only [Bool.not_eq_true',Bool.and_eq_false_iff,decide_eq_false_iff_not];omega),if_neg h1]
      by_cases h2:s.Kind=2∧(s.vj < -1000000000∨s.iA < s.vj∨1000000000 < s.iA)
      ·rw [if_pos (by simp only [Bool.and_eq_true,Bool.or_eq_true,Bool.not_eq_true',Bool.and_eq_false_iff,decide_eq_true_eq,decide_eq_false_iff_not];omega),if_pos h2];rfl
      ·rw [if_neg (by simp only [Bool.and_eq_true,Bool.or_eq_true,Bool.not_eq_true',Bool.and_eq_false_iff,decide_eq_true_eq,decide_eq_false_iff_not];omega),if_neg h2]
       by_cases h3:¬ s.Kind=2∧(s.vj≠0∨s.iA≠0)
       ·rw [if_pos (by simp only [Bool.and_eq_true,Bool.or_eq_true,decide_eq_true_eq];exact h3),if_pos h3];rfl
       ·rw [if_neg (by simp only [Bool.and_eq_true,Bool.or_eq_true,decide_eq_true_eq];exact h3),if_neg h3];rfl
  by_cases hi:0 < i
  ·obtain ⟨p,hp,_,_⟩:=jl m.ba (i:=i - 1) (by omega) (by omega)
   have CG:kL m.ba i=some p:=by unfold kL;rw [if_neg (by omega),hp]
   rw [CG,if_pos hi,bP (by omega) (by omega),hp]
   simp only [Option.bind_some]
   rw [j3,yr]
   simp only [decide_eq_true_eq]
  ·have CG:kL m.ba i=none:=by unfold kL;rw [if_pos (by omega)]
   rw [CG,if_neg hi,j3,if_neg (by simp)]
abbrev DT:ax:=[65,66,67,68,69,70,71,72,73,74,75,76,77,78,79,80,81,82,83,84,85,86,87,88,89,90]
def EZ (s:ax):Bool:=(decide (2≤s.length)&&decide (s.length≤4))&&decide (Lib.trimS s DT=[])
theorem DU {s:ax} (h:s.length≤1000):ko s=some (EZ s):=by
 unfold ko iC EZ
 rw [pX,rJ (by omega) (by decide) (by decide)]
 by_cases c:2≤s.length∧s.length≤4
 ·rw [if_pos (by simp only [Bool.not_eq_true',Bool.or_eq_false_iff,decide_eq_false_iff_not];omega)]
  simp [c.1,c.2]
 ·rw [if_neg (by simp only [Bool.not_eq_true',Bool.or_eq_false_iff,decide_eq_false_iff_not];omega)]
  rw [eq_comm]
  simp
  intro a b;exact absurd ⟨a,b⟩ c
def xf (l:List Model) (i:Int) (m:Model):Option Int:=
 if EZ m.Prefix=false then some 3 else if (l.take i.toNat).any (fun x=>decide (x.Prefix=m.Prefix))=true then some 6 else if 50 < m.ba.length then some 2 else if zJ m.ba≠0 then some (zJ m.ba) else none
def QL (l:List Model) (i:Int) (m:Model):Option Int:=
 if nZ m.Key=false then some 5 else match kL l i with
 | some q=>if Lib.compareBytes m.Key q.Key≤0 then some 7 else xf l i m
 | none=>xf l i m
def JY (l:List Model):Int:=if 50 < l.length then 2 else uP (QL l) 0 l 0
theorem MC (L:List Model) (fn:Model→Option Bool) (p:Model→Bool) (hf:∀ x,fn x=some (p x)) (hl:(L.length:Int)≤100000):cA L fn=some (L.any p):=
 nX L fn p (fun x _=>hf x) (by omega)
theorem tI {l:List Model} (h:∀ m∈l,MB m):fK l=some (JY l):=by
 unfold fK JY
 by_cases QM:50 < l.length
 ·rw [if_pos (by omega),if_pos QM]
 rw [if_neg (by omega),if_neg QM]
 unfold nF
 refine sk (QL l) 0 l _ (fun i s i0 i1 hs=>?_) (by show cF l _=_;rw [cF,if_neg (by omega)];rfl)
 obtain ⟨b1,b2,b3⟩:=h s (dV hs)
 show cF l i=_
 rw [cF,if_pos i1,hs]
 simp only [Option.bind_some]
 rw [xd]
 simp only [Option.bind_some]
 unfold QL
 cases hk:nZ s.Key
 ·simp [Eh]
 simp only [Bool.not_true,Bool.false_eq_true,if_false,Bool.true_eq_false]
 have j1:∀ c:Bool,er l i s c=some (Eh (if c=true then some 7 else xf l i s) i):=by
  intro c
  unfold er xf
  cases c with
  | true=>rfl
  | false=>
    simp only [Bool.false_eq_true,if_false]
    rw [DU (by omega)]
    simp only [Option.bind_some]
    cases hp:EZ s.Prefix
    ·simp [Eh]
    simp only [Bool.not_true,Bool.false_eq_true,if_false,Bool.true_eq_false]
    rw [w8 (by omega) (by omega) (by omega)]
    simp only [Option.bind_some]
    rw [show (l.drop (0:Int).toNat).take (i.toNat - (0:Int).toNat)=l.take i.toNat by simp,MC _ (fun y0=>some (iG y0 s)) (fun x=>decide (x.Prefix=s.Prefix)) (fun _=>rfl) (by rw [List.length_take];omega)]
    simp only [Option.bind_some]
    by_cases ha:(l.take i.toNat).any (fun x=>decide (x.Prefix=s.Prefix))=true
    ·rw [if_pos ha,if_pos ha];rfl
    rw [if_neg ha,if_neg ha]
    by_cases h5:50 < s.ba.length
    ·rw [if_pos (by omega),if_pos h5];rfl
    rw [if_neg (by omega),if_neg h5,Av b2 b3]
    simp only [Option.bind_some]
    rw [bP (by omega) (by omega)]
    by_cases hz:zJ s.ba≠0
    ·rw [if_pos hz,if_pos hz];rfl
    ·rw [if_neg hz,if_neg hz];rfl
 by_cases hi:0 < i
 ·obtain ⟨p,hp,_,_⟩:=jl l (i:=i - 1) (by omega) (by omega)
  have CG:kL l i=some p:=by unfold kL;rw [if_neg (by omega),hp]
  rw [CG,if_pos hi,bP (by omega) (by omega),hp]
  simp only [Option.bind_some]
  rw [j1,yr]
  simp only [decide_eq_true_eq]
 ·have CG:kL l i=none:=by unfold kL;rw [if_pos (by omega)]
  rw [CG,if_neg hi,j1,if_neg (by simp)]
theorem DV:vQ ([97,98,99,100,101,102,103,104,105,106,107,108,109,110,111,112,113,114,115,116,117,118,119,120,121,122]:ax)=some DT:=by decide
theorem tJ {l:List Model} (h:∀ m∈l,MB m):mc l=some (JY l):=by
 unfold mc JY
 by_cases QM:50 < l.length
 ·rw [if_pos (by omega),if_pos QM]
 rw [if_neg (by omega),if_neg QM]
 unfold rm
 refine sk (QL l) 0 l _ (fun i s i0 i1 hs=>?_) (by show eQ l _=_;rw [eQ,if_neg (by omega)];rfl)
 obtain ⟨b1,b2,b3⟩:=h s (dV hs)
 show eQ l i=_
 rw [eQ,if_pos i1,hs]
 simp only [Option.bind_some]
 rw [rK]
 simp only [Option.bind_some]
 unfold QL
 cases hk:nZ s.Key
 ·simp [Eh]
 simp only [Bool.not_true,Bool.false_eq_true,if_false,Bool.true_eq_false]
 have j1:∀ c:Bool,iv l i s c=some (Eh (if c=true then some 7 else xf l i s) i):=by
  intro c
  unfold iv xf
  cases c with
  | true=>rfl
  | false=>
    simp only [Bool.false_eq_true,if_false]
    rw [oT,DV]
    simp only [Option.bind_some]
    rw [rJ (by omega) (by decide) (by decide)]
    simp only [Option.bind_some]
    have j2:∀ c:Bool,iu l i s c=some (Eh (if c=true then some 3 else if (l.take i.toNat).any (fun x=>decide (x.Prefix=s.Prefix))=true then some 6 else if 50 < s.ba.length then some 2 else if zJ s.ba≠0 then some (zJ s.ba) else none) i):=by
     intro c
     unfold iu
     cases c with
     | true=>rfl
     | false=>
       simp only [Bool.false_eq_true,if_false]
       rw [w8 (by omega) (by omega) (by omega)]
       simp only [Option.bind_some]
       rw [show (l.drop (0:Int).toNat).take (i.toNat - (0:Int).toNat)=l.take i.toNat by simp,MC _ (fun y0=>some (lD y0 s)) (fun x=>decide (x.Prefix=s.Prefix)) (fun _=>rfl) (by rw [List.length_take];omega)]
       simp only [Option.bind_some]
       by_cases ha:(l.take i.toNat).any (fun x=>decide (x.Prefix=s.Prefix))=true
       ·rw [if_pos ha,if_pos ha];rfl
       rw [if_neg ha,if_neg ha]
       by_cases h5:50 < s.ba.length
       ·rw [if_pos (by omega),if_pos h5];rfl
       rw [if_neg (by omega),if_neg h5,G8 b2 b3 i ⟨i0,by omega⟩]
       by_cases hz:zJ s.ba≠0
       ·rw [if_pos hz,if_pos hz];rfl
       ·rw [if_neg hz,if_neg hz];rfl
    have Uv:(EZ s.Prefix=false)↔¬ (2≤s.Prefix.length∧s.Prefix.length≤4)∨Lib.trimS s.Prefix DT≠[]:=by
     unfold EZ
     by_cases ht:Lib.trimS s.Prefix DT=[]
     ·simp only [ht,decide_true,Bool.and_true,ne_eq,not_true_eq_false,or_false,Bool.and_eq_false_iff,decide_eq_false_iff_not]
      omega
     ·simp [ht]
    by_cases hc:2≤s.Prefix.length∧s.Prefix.length≤4
    ·rw [if_neg (by simp only [Bool.not_eq_true',Bool.and_eq_false_iff,decide_eq_false_iff_not];omega),j2]
     by_cases ht:Lib.trimS s.Prefix DT=[]
     ·have hn:¬ EZ s.Prefix=false:=fun z=>by
       rcases Uv.1 z with z | z
       ·exact z hc
       ·exact z ht
      rw [if_neg hn,if_neg (by simp [ht])]
     ·rw [if_pos (Uv.2 (.inr ht)),if_pos (by simp [ht])]
    ·rw [if_pos (by simp only [Bool.not_eq_true',Bool.and_eq_false_iff,decide_eq_false_iff_not];omega),j2,if_pos (Uv.2 (.inl hc)),if_pos rfl]
 by_cases hi:0 < i
 ·obtain ⟨p,hp,_,_⟩:=jl l (i:=i - 1) (by omega) (by omega)
  have CG:kL l i=some p:=by unfold kL;rw [if_neg (by omega),hp]
  rw [CG,if_pos hi,bP (by omega) (by omega),hp]
  simp only [Option.bind_some]
  rw [j1,yr]
  simp only [decide_eq_true_eq]
 ·have CG:kL l i=none:=by unfold kL;rw [if_pos (by omega)]
  rw [CG,if_neg hi,j1,if_neg (by simp)]
theorem qJ {l:List ax} {v:ax} (h:v∈l) (hl:l.all (fun x=>decide (x.length≤40))=true):v.length≤40:=by
 have:=List.all_eq_true.1 hl v h
 exact of_decide_eq_true this
theorem Cl {s:tG} {K:Int} (hs:sJ s K) (hK:20≤K):∃ m1 m2 s',iX s=some ((m1,m2),s')∧sJ s' (K - 1)∧(MB m1∧0 < m1.ba.length∧m1.ba.length≤10)∧MB m2∧0 < m2.ba.length∧m2.ba.length≤10:=by
 unfold iX
 obtain ⟨v2,s2,e2,RZ,q2⟩:=jm (s:=s) (l:=[([65,66,67]:ax),([88,89]:ax),([90,90,90,90]:ax)]) hs (by omega) (by simp) (by simp)
 rw [e2]
 simp only [Option.bind_some]
 have ad0:=qJ RZ (by decide)
 refine ⟨_,_,_,rfl,q2,⟨by unfold MB;simp,by simp,by simp⟩,⟨by simp only;omega,by simp,by simp⟩,by simp,by simp⟩
theorem Ly {s:tG} {K:Int} (hs:sJ s K) (hK:20≤K):qM (mW s) (K - 20) (fun l=>(2≤l.length∧l.length≤3)∧∀ m∈l,MB m):=by
 refine qM.of ?_
 unfold mW
 obtain ⟨m1,m2,s2,e2,q2,⟨b1,p1⟩,b2,p2⟩:=Cl hs hK
 rw [e2]
 simp only [Option.bind_some]
 have ret:∀ (L:List Int) (n:Int) (l:List Model),(2≤l.length∧l.length≤3)→(∀ m∈l,MB m)→sJ ⟨L,n⟩ (K - 20)→Ok (some (l,(⟨L,n⟩:tG))) (fun r=>((2≤r.1.length∧r.1.length≤3)∧∀ m∈r.1,MB m)∧sJ r.2 (K - 20)):=fun L n l h1 h2 h3=>⟨_,rfl,⟨h1,h2⟩,h3⟩
 have two:∀ {a b:Model},MB a→MB b→∀ m∈[a,b],MB m:=fun ha hb m hm=>by
  rcases List.mem_cons.1 hm with rfl | hm
  ·exact ha
  ·rw [List.mem_singleton] at hm;subst hm;exact hb
 have Lz:∀ {m:Model} {p:aL} {x y:Int} {P:List aL},MB m→idx P 0=some p→(∀ q∈P,q.Name.length≤100)→P.length≤100→∀ (z:aL),z.Name=p.Name→∀ q∈P.set (0:Int).toNat z,q.Name.length≤100:=by
  intro m p x y P _ hp hP _ z hz q hq
  rcases List.mem_or_eq_of_mem_set hq with h | h
  ·exact hP q h
  ·rw [h,hz];exact hP p (dV hp)
 refine Ok.gen (Ck q2 (by omega) (by omega) (by omega)) (fun f s3 _ q3=>?_)
 dsimp only
 unfold kj ki kh kf ke kd kc j9 iR
 split
 ·refine Ok.gen (xc q3 (by omega) (by omega) (by omega)) (fun k s4 hk q4=>?_)
  dsimp only
  have arm:∀ (m:Model) (g:Model→List Model) (o:ax→ax→Model),MB m→True:=fun _ _ _ _=>trivial
  split
  ·refine Ok.gen (xc q4 (by omega) (by omega) (by omega)) (fun c s5 hc q5=>?_)
   dsimp only
   split
   ·refine Ok.gen (jm q5 (by omega) (by simp) (by simp)) (fun u s6 hu q6=>?_)
    exact ret _ _ _ (by simp) (two ⟨b1.1,b1.2.1,b1.2.2⟩ b2) (q6.less (by omega))
   ·split
    ·refine Ok.gen (jm q5 (by omega) (by simp) (by simp)) (fun u s6 hu q6=>?_)
     have Uw:=qJ hu (by decide)
     exact ret _ _ _ (by simp) (two ⟨by show u.length≤100;omega,b1.2.1,b1.2.2⟩ b2) (q6.less (by omega))
    ·split
     ·refine Ok.gen (jm q5 (by omega) (by simp) (by simp)) (fun u s6 hu q6=>?_)
      have Uw:=qJ hu (by decide)
      refine Ok.gen (wo q6 (by omega) (by omega) (by omega) (by omega)) (fun w s7 hw q7=>?_)
      refine Ok.app (by simp;omega) ?_
      exact ret _ _ _ (by simp) (two ⟨b1.1,by simp;omega,fun p hp=>by
       rcases List.mem_append.1 hp with e | e
       ·exact b1.2.2 p e
       ·rw [List.mem_singleton] at e;subst e;show u.length≤100;omega⟩ b2) (q7.less (by omega))
     ·split
      ·refine Ok.gen (wo q5 (by omega) (by omega) (by omega) (by omega)) (fun w s7 hw q7=>?_)
       refine Ok.gen (wo q7 (by omega) (by omega) (by omega) (by omega)) (fun y s8 hy q8=>?_)
       refine Ok.idx (by omega) (by omega) (fun p hp Ol=>?_)
       have MO:(m1.ba.set (0:Int).toNat (⟨p.Name,p.Kind,w,p.iA⟩:aL)).length=m1.ba.length:=List.length_set
       refine Ok.idx (by omega) (by rw [List.length_set];omega) (fun p' bY Ux=>?_)
       have Uy:=Lz (x:=0) (y:=0) b1 hp b1.2.2 b1.2.1 (⟨p.Name,p.Kind,w,p.iA⟩:aL) rfl
       have Hl:=Lz (x:=0) (y:=0) b1 bY Uy (by rw [MO];exact b1.2.1) (⟨p'.Name,p'.Kind,p'.vj,y⟩:aL) rfl
       exact ret _ _ _ (by simp) (two ⟨b1.1,by simp only [List.length_set];exact b1.2.1,Hl⟩ b2) (q8.less (by omega))
      ·refine Ok.app (by simp) ?_
       refine ret _ _ _ (by simp) (fun m hm=>?_) (q5.less (by omega))
       rcases List.mem_append.1 hm with e | e
       ·exact two b1 b2 m e
       ·rw [List.mem_singleton] at e;subst e;unfold MB;simp
  ·split
   ·refine Ok.gen (xc q4 (by omega) (by omega) (by omega)) (fun c s5 hc q5=>?_)
    dsimp only
    split
    ·refine Ok.gen (jm q5 (by omega) (by simp) (by simp)) (fun u s6 hu q6=>?_)
     exact ret _ _ _ (by simp) (two b1 ⟨b2.1,b2.2.1,b2.2.2⟩) (q6.less (by omega))
    ·split
     ·refine Ok.gen (jm q5 (by omega) (by simp) (by simp)) (fun u s6 hu q6=>?_)
      have Uw:=qJ hu (by decide)
      exact ret _ _ _ (by simp) (two b1 ⟨by show u.length≤100;omega,b2.2.1,b2.2.2⟩) (q6.less (by omega))
     ·split
      ·refine Ok.gen (jm q5 (by omega) (by simp) (by simp)) (fun u s6 hu q6=>?_)
       have Uw:=qJ hu (by decide)
       refine Ok.gen (wo q6 (by omega) (by omega) (by omega) (by omega)) (fun w s7 hw q7=>?_)
       refine Ok.app (by simp;omega) ?_
       exact ret _ _ _ (by simp) (two b1 ⟨b2.1,by simp;omega,fun p hp=>by
        rcases List.mem_append.1 hp with e | e
        ·exact b2.2.2 p e
        ·rw [List.mem_singleton] at e;subst e;show u.length≤100;omega⟩) (q7.less (by omega))
      ·split
       ·refine Ok.gen (wo q5 (by omega) (by omega) (by omega) (by omega)) (fun w s7 hw q7=>?_)
        refine Ok.gen (wo q7 (by omega) (by omega) (by omega) (by omega)) (fun y s8 hy q8=>?_)
        refine Ok.idx (by omega) (by omega) (fun p hp Ol=>?_)
        have MO:(m2.ba.set (0:Int).toNat (⟨p.Name,p.Kind,w,p.iA⟩:aL)).length=m2.ba.length:=List.length_set
        refine Ok.idx (by omega) (by rw [List.length_set];omega) (fun p' bY Ux=>?_)
        have Uy:=Lz (x:=0) (y:=0) b2 hp b2.2.2 b2.2.1 (⟨p.Name,p.Kind,w,p.iA⟩:aL) rfl
        have Hl:=Lz (x:=0) (y:=0) b2 bY Uy (by rw [MO];exact b2.2.1) (⟨p'.Name,p'.Kind,p'.vj,y⟩:aL) rfl
        exact ret _ _ _ (by simp) (two b1 ⟨b2.1,by simp only [List.length_set];exact b2.2.1,Hl⟩) (q8.less (by omega))
       ·refine Ok.app (by simp) ?_
        refine ret _ _ _ (by simp) (fun m hm=>?_) (q5.less (by omega))
        rcases List.mem_append.1 hm with e | e
        ·exact two b1 b2 m e
        ·rw [List.mem_singleton] at e;subst e;unfold MB;simp
   ·omega
 ·exact ret _ _ _ (by simp) (two b1 b2) (q3.less (by omega))
theorem xN {α:Type} (p:α→Bool) (xs:List α):(ig p xs 0 < 0∧xs.find? p=none)∨∃ y,0≤ig p xs 0∧idx xs (ig p xs 0)=some y∧xs.find? p=some y:=by
 rcases tF p xs 0 (by omega) with ⟨e1,e2⟩ | ⟨e1,e2,e3,y,e4,e5⟩
 ·exact .inl ⟨by omega,List.find?_eq_none.2 fun x hx=>by rw [e2 x hx];simp⟩
 ·right
  refine ⟨y,e1,?_,?_⟩
  ·unfold idx
   rw [if_pos e1]
   simpa using e4
  ·generalize ig p xs 0=k at e1 e2 e3 e4
   rw [show (k - 0).toNat=k.toNat by simp] at e3 e4
   obtain ⟨h,e4'⟩:=List.getElem?_eq_some_iff.1 e4
   conv=>lhs;rw [← List.take_append_drop k.toNat xs]
   rw [List.find?_append,List.find?_eq_none.2 (fun x hx=>by rw [e3 x hx];simp),List.drop_eq_getElem_cons h,e4']
   simp [e5]
theorem G9:kY ([65,66,48,48,48,48,48,48,48,55]:ax)=some 77:=by
 unfold kY qt
 have st:∀ (a b c e:Int),cN ([65,66,48,48,48,48,48,48,48,55]:ax) a b=some (.inl (c,e))→iter (fun x:Int×Int=>cN ([65,66,48,48,48,48,48,48,48,55]:ax) x.1 x.2) (a,b)=iter (fun x:Int×Int=>cN ([65,66,48,48,48,48,48,48,48,55]:ax) x.1 x.2) (c,e):=by
  intro a b c e h
  rw [iter_eq]
  show (cN _ a b).bind _=_
  rw [h];rfl
 rw [st 0 0 20 1 (by decide),st 20 1 53 2 (by decide),st 53 2 53 3 (by decide),st 53 3 53 4 (by decide),st 53 4 53 5 (by decide),st 53 5 53 6 (by decide),st 53 6 53 7 (by decide),st 53 7 53 8 (by decide),st 53 8 53 9 (by decide),st 53 9 130 10 (by decide)]
 rw [iter_eq]
 show (cN ([65,66,48,48,48,48,48,48,48,55]:ax) 130 10).bind _=_
 rw [show cN ([65,66,48,48,48,48,48,48,48,55]:ax) 130 10=some (.inr 77) by decide];rfl
theorem zK:po=some true:=by
 unfold po o6 ou jW
 have hm:∀ x∈[(⟨([109]:ax),([65,66]:ax),[]⟩:Model)],MB x:=fun x hx=>by rw [List.mem_singleton] at hx;subst hx;unfold MB;simp
 rw [tI hm,show JY [(⟨([109]:ax),([65,66]:ax),[]⟩:Model)]=0 by decide]
 simp only [Option.bind_some]
 rw [if_neg (by simp),show bL [(⟨([109]:ax),([65,66]:ax),[]⟩:Model)] (fun y0=>some (gq y0 ([109]:ax)))=some (ig (fun y0=>gq y0 ([109]:ax)) [(⟨([109]:ax),([65,66]:ax),[]⟩:Model)] 0) from kI _ _ _ (fun _ _=>rfl) (by simp)]
 simp only [Option.bind_some]
 rw [show ig (fun y0=>gq y0 ([109]:ax)) [(⟨([109]:ax),([65,66]:ax),[]⟩:Model)] 0=0 by decide,if_neg (by decide),if_neg (by decide),show Dk 7=some [55] by unfold Dk Lib.itoa;rw [if_pos (by omega),if_neg (by omega),Lib.decDigits,dif_pos (by decide)];rfl]
 simp only [Option.bind_some]
 rw [show ym ([48]:ax) (aU ((8:Int) - ((([55]:ax).length:Nat):Int)))=some [48,48,48,48,48,48,48] by decide]
 simp only [Option.bind_some]
 rw [show vM ([48,48,48,48,48,48,48]:ax) [55]=some [48,48,48,48,48,48,48,55] by decide,show idx [(⟨([109]:ax),([65,66]:ax),[]⟩:Model)] 0=some ⟨([109]:ax),([65,66]:ax),[]⟩ by rfl]
 simp only [Option.bind_some]
 rw [show vM ([65,66]:ax) [45]=some [65,66,45] by decide]
 simp only [Option.bind_some]
 rw [show vM ([65,66,45]:ax) [48,48,48,48,48,48,48,55]=some [65,66,45,48,48,48,48,48,48,48,55] by decide]
 simp only [Option.bind_some]
 rw [show vM ([65,66,45,48,48,48,48,48,48,48,55]:ax) [45]=some [65,66,45,48,48,48,48,48,48,48,55,45] by decide,show vM ([65,66]:ax) [48,48,48,48,48,48,48,55]=some [65,66,48,48,48,48,48,48,48,55] by decide]
 simp only [Option.bind_some]
 rw [G9]
 simp only [Option.bind_some]
 rw [show KO 77=[77] by decide,show vM ([65,66,45,48,48,48,48,48,48,48,55,45]:ax) [77]=some [65,66,45,48,48,48,48,48,48,48,55,45,77] by decide]
 simp
abbrev RM (a b:aZ):Prop:=Lib.compareBytes a.Name b.Name < 0
def TS (T:List aZ):Prop:=T.Pairwise RM
theorem TS.inj {T:List aZ} (h:TS T) {a b:aZ} (ha:a∈T) (hb:b∈T) (hn:a.Name=b.Name):a=b:=by
 induction T with
 | nil=>cases ha
 | cons x r ih=>
   have h1:=(List.pairwise_cons.1 h).1
   have h2:=(List.pairwise_cons.1 h).2
   rcases List.mem_cons.1 ha with e1 | vO
   ·rcases List.mem_cons.1 hb with e2 | xo
    ·rw [e1,e2]
    ·have:=h1 b xo
     unfold RM at this
     rw [← e1,hn,lL] at this;omega
   ·rcases List.mem_cons.1 hb with e2 | xo
    ·have:=h1 a vO
     unfold RM at this
     rw [← e2,← hn,lL] at this;omega
    ·exact ih h2 vO xo
theorem xg (L W:List aZ) (hp:L.Perm W) (hW:TS W) (hl:L.length≤100000):lX L.length (fun r:List aZ=>r.length) (iL L (fun y0 y1=>some (oE y0 y1)))=some W:=by
 obtain ⟨Z,z1,z2,z3⟩:=Jg (fun y0 y1=>some (oE y0 y1)) (fun a b:aZ=>Lib.compareBytes a.Name b.Name) L hl (fun a _ b _=>rfl) ((nt.on aZ.Name).ord L)
 have Uz:Z.Perm W:=z2.trans hp
 have hSW:F0 (fun a b:aZ=>Lib.compareBytes a.Name b.Name) W:=hW.imp (fun {a b} q=>by
  have:=nt.neg a.Name b.Name
  unfold RM at q
  show ¬ Lib.compareBytes b.Name a.Name < 0
  omega)
 have:Z=W:=by
  refine zD Uz z3 hSW ?_
  intro a ha b hb c1 c2
  have hn:=nt.neg a.Name b.Name
  exact hW.inj (Uz.mem_iff.1 ha) (Uz.mem_iff.1 hb) (mN (by omega))
 subst this
 exact xa z1 z2.length_eq
theorem QN {i j:Int} (h0:0≤i) (h1:i < j) (h2:j≤5000):aU (eJ .u64 (IntKind.u64.wrap (aU (i+j))) 1)=(i+j) / 2:=by
 have e1:aU (i+j)=i+j:=by rw [bP]<;>omega
 have e2:IntKind.u64.wrap (i+j)=i+j:=u64_in (by omega) (by omega)
 rw [e1,e2]
 have e3:eJ .u64 (i+j) 1=(i+j) / 2:=by
  show (i+j).fdiv 2=_
  rw [Int.fdiv_eq_ediv_of_nonneg _ (by omega)]
 rw [e3,bP]<;>omega
theorem DW (T:List aZ) (hl:T.length≤1000) (hT:TS T) (s:ax):∃ n:Nat,n≤T.length∧(∀ a∈T.take n,Lib.compareBytes a.Name s < 0)∧(∀ b∈T.drop n,¬ Lib.compareBytes b.Name s < 0)∧
 bN T s (fun y0 y1=>some (gr y0 y1))=some ((n:Int),match T[n]? with | some y=>decide (y.Name=s) | none=>false):=by
 unfold bN eV
 have key:∀ (k:Nat) (i j:Nat),j - i < k→i≤j→j≤T.length→(∀ a∈T.take i,Lib.compareBytes a.Name s < 0)→(∀ b∈T.drop j,¬ Lib.compareBytes b.Name s < 0)→
  ∃ n:Nat,n≤T.length∧(∀ a∈T.take n,Lib.compareBytes a.Name s < 0)∧(∀ b∈T.drop n,¬ Lib.compareBytes b.Name s < 0)∧
    iter (fun x:Int×Int=>bq T s (fun y0 y1=>some (gr y0 y1)) x.1 x.2) ((i:Int),(j:Int))=some ((n:Int),match T[n]? with | some y=>decide (y.Name=s) | none=>false):=by
  intro k
  induction k with
  | zero=>intro i j hk;omega
  | succ k ih=>
    intro i j hk zR hj h1 h2
    rw [iter_eq]
    simp only
    rw [bq]
    by_cases h:i < j
    ·rw [if_pos (by omega),QN (by omega) (by omega) (by omega)]
     obtain ⟨m,hm⟩:∃ m:Nat,((i:Int)+(j:Int)) / 2=m:=⟨(i+j) / 2,by omega⟩
     have UN:i≤m∧m < j:=by omega
     rw [hm]
     obtain ⟨y,y1,y2,y3⟩:=jl T (i:=(m:Int)) (by omega) (by omega)
     rw [y1]
     simp only [Option.bind_some]
     have hy:T[m]? =some y:=by have:=(ew y1).2.2;simpa using this
     rw [show gr y s=Lib.compareBytes y.Name s from rfl]
     unfold bF
     have htk:T.take (m+1)=T.take m++[y]:=by rw [List.take_add_one,hy];rfl
     have RL:T.drop m=y :: T.drop (m+1):=by
      have:=y3
      rwa [show ((m:Int)).toNat=m by omega,show ((m:Int)+1).toNat=m+1 by omega] at this
     have zL:T=T.take m++y :: T.drop (m+1):=by rw [← RL,List.take_append_drop]
     have UA:=hT
     rw [TS,zL,List.pairwise_append] at UA
     by_cases hc:Lib.compareBytes y.Name s < 0
     ·rw [if_pos hc,bP (by omega) (by omega)]
      simp only [Option.bind_some,ik]
      have:=ih (m+1) j (by omega) (by omega) hj (fun a ha=>by
       rw [htk,List.mem_append,List.mem_singleton] at ha
       rcases ha with ha | rfl
       ·exact nt.tr (UA.2.2 a ha y (by simp)) hc
       ·exact hc) h2
      rw [show ((m+1:Nat):Int)=(m:Int)+1 by omega] at this
      exact this
     ·rw [if_neg hc]
      simp only [Option.bind_some,ik]
      exact ih i m (by omega) (by omega) (by omega) h1 (fun b hb=>by
       rw [RL,List.mem_cons] at hb
       rcases hb with rfl | hb
       ·exact hc
       ·intro q
        have:=(List.pairwise_cons.1 UA.2.1).1 b hb
        exact hc (nt.tr this q))
    ·rw [if_neg (by omega),de]
     obtain rfl:i=j:=by omega
     refine ⟨i,hj,h1,h2,?_⟩
     unfold cP bG
     by_cases hi:i < T.length
     ·rw [if_pos (by omega)]
      obtain ⟨y,y1,y2,y3⟩:=jl T (i:=(i:Int)) (by omega) (by omega)
      have hy:T[i]? =some y:=by have:=(ew y1).2.2;simpa using this
      rw [y1,hy]
      simp only [Option.bind_some]
      rw [show gr y s=Lib.compareBytes y.Name s from rfl]
      by_cases he:y.Name=s
      ·rw [he,lL];simp
      ·have:¬ Lib.compareBytes y.Name s=0:=fun q=>he (mN q)
       simp [he,this]
     ·rw [if_neg (by omega),List.getElem?_eq_none (by omega)]
 exact key (T.length+1) 0 T.length (by omega) (by omega) (Nat.le_refl _) (by simp) (by simp)
theorem Jr (T:List aZ) (hl:T.length≤1000) (e:ab):dL T (fun y0=>some (qx y0 e))=some (ig (fun p:aZ=>decide (p.Name=e.Name)) T 0):=
 kI T _ (fun p:aZ=>decide (p.Name=e.Name)) (fun y _=>rfl) (by omega)
theorem Js (T:List aZ) (hl:T.length≤1000) (e:ab):eR T (fun y0=>some (qy y0 e))=some (T.filter (fun p=>!decide (p.Name=e.Name))):=
 Ls _ _ (fun p:aZ=>decide (p.Name=e.Name)) T (by omega) (fun x _=>rfl)
theorem Jt (T:List aZ) (hl:T.length≤1000):fl T=some T:=by
 unfold fl
 rw [qI (by simp;omega)];rfl
def wq (x:aX) (T:List aZ):aX:=⟨⟨x.Device.Key,x.Device.Model,x.Device.aK,x.Device.ak,T⟩,x.az,x.State,x.aY⟩
theorem DX (x:aX) (e:ab) (hT:TS x.Device.bn) (hl:x.Device.bn.length≤20):∃ (r:Int) (T:List aZ),na x e=some (r,wq x T)∧tu x e=some (r,wq x T)∧TS T∧T.length≤20:=by
 obtain ⟨n,n1,n2,n3,n4⟩:=DW x.Device.bn (by omega) hT e.Name
 have pz:wq x x.Device.bn=x:=rfl
 unfold na tu
 rw [Jr _ (by omega)]
 simp only [Option.bind_some]
 by_cases h0:x.Device.aK=([]:ax)
 ·rw [if_pos h0,if_pos h0]
  exact ⟨11,x.Device.bn,by rw [pz],by rw [pz],hT,hl⟩
 rw [if_neg h0,if_neg h0,n4]
 simp only [Option.bind_some]
 have zL:x.Device.bn=x.Device.bn.take n++x.Device.bn.drop n:=(List.take_append_drop _ _).symm
 have hA:∀ a∈x.Device.bn.take n,a.Name≠e.Name:=fun a ha q=>by
  have:=n2 a ha
  rw [q,lL] at this;omega
 have LW:(x.Device.bn.take n).length=n:=by rw [List.length_take];omega
 have glue:∀ (C:List aZ) (v:ax),(∀ c∈C,0 < Lib.compareBytes c.Name e.Name)→TS C→TS (x.Device.bn.take n++⟨e.Name,v⟩ :: C):=by
  intro C v h1 h2
  rw [TS,List.pairwise_append,List.pairwise_cons]
  refine ⟨hT.sublist (List.take_sublist _ _),⟨fun c hc=>?_,h2⟩,fun a ha c hc=>?_⟩
  ·have h3:=h1 c hc
   have:=nt.neg c.Name e.Name
   show Lib.compareBytes e.Name c.Name < 0
   omega
  ·have h4:Lib.compareBytes a.Name e.Name < 0:=n2 a ha
   rcases List.mem_cons.1 hc with rfl | hc
   ·exact h4
   ·have h3:=h1 c hc
    have:=nt.neg c.Name e.Name
    exact nt.tr h4 (show Lib.compareBytes e.Name c.Name < 0 by omega)
 have Fu:∀ y C,x.Device.bn.drop n=y :: C→(∀ c∈C,0 < Lib.compareBytes c.Name e.Name)∧TS C∧(y.Name≠e.Name→0 < Lib.compareBytes y.Name e.Name):=by
  intro y C hd
  have h1:TS (y :: C):=by rw [← hd];exact hT.sublist (List.drop_sublist _ _)
  have h2:=List.pairwise_cons.1 h1
  have hy:=n3 y (by rw [hd];simp)
  refine ⟨fun c hc=>?_,h2.2,fun q=>?_⟩
  ·have h3:Lib.compareBytes y.Name c.Name < 0:=h2.1 c hc
   have h4:=nt.neg c.Name e.Name
   have h5:=nt.neg y.Name e.Name
   have:Lib.compareBytes e.Name c.Name < 0:=by
    by_cases q:Lib.compareBytes y.Name e.Name=0
    ·rw [← mN q];exact h3
    ·exact nt.tr (show Lib.compareBytes e.Name y.Name < 0 by omega) h3
   omega
  ·have h6:¬ Lib.compareBytes y.Name e.Name=0:=fun h=>q (mN h)
   omega
 generalize hF:(match x.Device.bn[n]? with | some y=>decide (y.Name=e.Name) | none=>false)=F
 cases F with
 | false=>
   have hB:∀ b∈x.Device.bn.drop n,0 < Lib.compareBytes b.Name e.Name:=by
    intro b hb
    cases hd:x.Device.bn.drop n with
    | nil=>rw [hd] at hb;cases hb
    | cons y C=>
      have hy:x.Device.bn[n]? =some y:=by
       have:(x.Device.bn.drop n)[0]? =some y:=by rw [hd];rfl
       simpa using this
      rw [hy] at hF
      have qN:y.Name≠e.Name:=by simpa using hF
      obtain ⟨g1,g2,g3⟩:=Fu y C hd
      rw [hd] at hb
      rcases List.mem_cons.1 hb with q | q
      ·rw [q];exact g3 qN
      ·exact g1 b q
   have Ec:∀ a∈x.Device.bn,a.Name≠e.Name:=by
    intro a ha
    rw [zL,List.mem_append] at ha
    rcases ha with ha | ha
    ·exact hA a ha
    ·intro q
     have:=hB a ha
     rw [q,lL] at this;omega
   have Ky:ig (fun p:aZ=>decide (p.Name=e.Name)) x.Device.bn 0 < 0:=by
    rcases xN (fun p:aZ=>decide (p.Name=e.Name)) x.Device.bn with ⟨h1,_⟩ | ⟨y,h1,h2,h3⟩
    ·exact h1
    ·have h4:=List.find?_some h3
     exact absurd (by simpa using h4) (Ec y (dV h2))
   have Fh:x.Device.bn.filter (fun p=>!decide (p.Name=e.Name))=x.Device.bn:=List.filter_eq_self.2 fun a ha=>by simpa using Ec a ha
   rw [if_neg Bool.false_ne_true,if_neg (by omega)]
   unfold iS mJ oG mI
   simp only [Bool.not_false,Bool.true_and,Bool.false_and]
   rw [if_neg Bool.false_ne_true]
   by_cases hv:e.Value=([]:ax)
   ·rw [if_pos (by simpa using hv),if_pos (by simp [hv,Ky])]
    exact ⟨6,x.Device.bn,by rw [pz],by rw [pz],hT,hl⟩
   rw [if_neg (by simpa using hv),if_neg (by simp [hv])]
   unfold kp oF
   rw [if_neg Bool.false_ne_true,if_neg Bool.false_ne_true]
   by_cases RN:(20:Int)≤(x.Device.bn.length:Int)
   ·rw [if_pos RN,if_pos (by simp [Ky];omega)]
    exact ⟨12,x.Device.bn,by rw [pz],by rw [pz],hT,hl⟩
   rw [if_neg RN,if_neg (by simp [Ky];omega)]
   have UB:eM x.Device.bn (n:Int) [(⟨e.Name,e.Value⟩:aZ)]=some (x.Device.bn.take n++⟨e.Name,e.Value⟩ :: x.Device.bn.drop n):=by
    unfold eM K1
    simp only
    rw [if_pos (by omega)]
    simp
   rw [UB,Jt _ (by omega)]
   simp only [Option.bind_some]
   rw [Js _ (by omega),Fh]
   simp only [Option.bind_some]
   rw [if_pos (show e.Value≠([]:ax) from hv),qI (by simp;omega)]
   simp only [Option.bind_some]
   unfold kZ
   have hW:TS (x.Device.bn.take n++⟨e.Name,e.Value⟩ :: x.Device.bn.drop n):=glue _ _ hB (hT.sublist (List.drop_sublist _ _))
   rw [xg _ (x.Device.bn.take n++⟨e.Name,e.Value⟩ :: x.Device.bn.drop n) (by
    refine List.perm_append_comm.trans ?_
    show (⟨e.Name,e.Value⟩ :: x.Device.bn).Perm _
    conv=>lhs;rw [zL]
    exact List.perm_middle.symm) hW (by simp;omega)]
   exact ⟨0,_,rfl,rfl,hW,by simp;omega⟩
 | true=>
   obtain ⟨y,hy,JI⟩:∃ y,x.Device.bn[n]? =some y∧y.Name=e.Name:=by
    cases hg:x.Device.bn[n]? with
    | none=>rw [hg] at hF;cases hF
    | some y=>rw [hg] at hF;exact ⟨y,rfl,by simpa using hF⟩
   have Fk:n < x.Device.bn.length:=(List.getElem?_eq_some_iff.1 hy).1
   have hd:x.Device.bn.drop n=y :: x.Device.bn.drop (n+1):=by
    rw [List.drop_eq_getElem_cons Fk]
    rw [List.getElem?_eq_getElem Fk,Option.some.injEq] at hy
    rw [hy]
   have NX:x.Device.bn=x.Device.bn.take n++y :: x.Device.bn.drop (n+1):=by rw [← hd];exact zL
   obtain ⟨g1,g2,_⟩:=Fu y _ hd
   have XX:idx x.Device.bn (n:Int)=some y:=by
    unfold idx
    rw [if_pos (by omega),Int.toNat_natCast,hy]
   have hC:∀ c∈x.Device.bn.drop (n+1),c.Name≠e.Name:=fun c hc q=>by
    have:=g1 c hc
    rw [q,lL] at this;omega
   have XY:x.Device.bn.find? (fun p:aZ=>decide (p.Name=e.Name))=some y:=by
    rw [NX,List.find?_append,List.find?_eq_none.2 (fun a ha=>by simpa using hA a ha),Option.none_or,List.find?_cons,JI]
    simp
   have Fh:x.Device.bn.filter (fun p=>!decide (p.Name=e.Name))=x.Device.bn.take n++x.Device.bn.drop (n+1):=by
    conv=>lhs;rw [NX]
    rw [List.filter_append,List.filter_cons,JI,List.filter_eq_self.2 (fun a ha=>by simpa using hA a ha),List.filter_eq_self.2 (fun a ha=>by simpa using hC a ha)]
    simp
   obtain ⟨f1,f2⟩:0≤ig (fun p:aZ=>decide (p.Name=e.Name)) x.Device.bn 0∧idx x.Device.bn (ig (fun p:aZ=>decide (p.Name=e.Name)) x.Device.bn 0)=some y:=by
    rcases xN (fun p:aZ=>decide (p.Name=e.Name)) x.Device.bn with ⟨_,h2⟩ | ⟨z,h1,h2,h3⟩
    ·rw [XY] at h2;cases h2
    ·rw [XY,Option.some.injEq] at h3
     rw [h3];exact ⟨h1,h2⟩
   have XZ:TS (x.Device.bn.take n++x.Device.bn.drop (n+1)):=by
    have:=hT
    rw [NX] at this
    exact this.sublist (List.Sublist.append (List.Sublist.refl _) (List.sublist_cons_self _ _))
   rw [if_pos rfl,if_pos f1,XX,f2]
   simp only [Option.bind_some]
   unfold iS mJ oG mI
   simp only [Bool.not_true,Bool.false_and,Bool.or_false,Bool.true_and]
   by_cases hv:y.Value=e.Value
   ·rw [if_pos (by simpa using hv),if_pos (by simpa using hv),if_pos (by simpa using hv)]
    exact ⟨6,x.Device.bn,by rw [pz],by rw [pz],hT,hl⟩
   rw [if_neg (by simpa using hv),if_neg (by simpa using hv),if_neg (by simp;omega)]
   unfold kp oF
   rw [if_neg (show ¬ ((decide (ig (fun p:aZ=>decide (p.Name=e.Name)) x.Device.bn 0 < 0))&&(decide ((20:Int)≤(x.Device.bn.length:Int))))=true by simp;omega)]
   rw [Jt _ (by omega)]
   simp only [Option.bind_some]
   rw [Js _ (by omega),Fh]
   simp only [Option.bind_some]
   by_cases he:e.Value=([]:ax)
   ·rw [if_pos (by simpa using he),if_neg (show ¬ e.Value≠([]:ax) from fun q=>q he)]
    have UC:gj x.Device.bn (n:Int) (aU ((n:Int)+1))=some (x.Device.bn.take n++x.Device.bn.drop (n+1)):=by
     unfold gj KR
     rw [bP (by omega) (by omega),if_pos (by omega),show ((n:Int)+1).toNat=n+1 by omega,Int.toNat_natCast]
    rw [UC]
    simp only [Option.bind_some]
    unfold kZ
    rw [xg _ _ (List.Perm.refl _) XZ (by simp;omega)]
    exact ⟨0,_,rfl,rfl,XZ,by simp;omega⟩
   ·rw [if_neg (by simpa using he),if_pos (show e.Value≠([]:ax) from he),if_pos trivial,XX]
    simp only [Option.bind_some]
    rw [qI (by simp;omega)]
    simp only [Option.bind_some]
    unfold kZ
    have hW:TS (x.Device.bn.take n++⟨e.Name,e.Value⟩ :: x.Device.bn.drop (n+1)):=glue _ _ g1 g2
    have nO:x.Device.bn.set ((n:Int)).toNat (⟨y.Name,e.Value⟩:aZ)=x.Device.bn.take n++⟨e.Name,e.Value⟩ :: x.Device.bn.drop (n+1):=by
     rw [Int.toNat_natCast,List.set_eq_take_append_cons_drop,if_pos Fk,JI]
    rw [xg _ (x.Device.bn.take n++⟨e.Name,e.Value⟩ :: x.Device.bn.drop (n+1)) (by
     refine List.perm_append_comm.trans ?_
     show (⟨e.Name,e.Value⟩ :: (x.Device.bn.take n++x.Device.bn.drop (n+1))).Perm _
     exact List.perm_middle.symm) hW (by simp;omega),nO]
    exact ⟨0,_,rfl,rfl,hW,by simp;omega⟩
def tL (x:aX):ax:=(x.aY.getLast?.map Term.Key).getD []
theorem xh (x:aX) (h:1≤x.aY.length) (hl:x.aY.length≤1000000):∃ A t,x.aY=A++[t]∧t.Key=tL x∧(x.aY.length:Int) - 1=A.length∧idx x.aY (aU ((x.aY.length:Int) - (1:Int)))=some t∧(aU ((x.aY.length:Int) - (1:Int))).toNat=A.length:=by
 have qN:x.aY≠[]:=fun q=>by rw [q] at h;simp at h
 refine ⟨x.aY.dropLast,x.aY.getLast qN,(List.dropLast_concat_getLast qN).symm,?_,?_,?_,?_⟩
 ·unfold tL
  rw [List.getLast?_eq_some_getLast qN];rfl
 ·rw [List.length_dropLast];omega
 ·rw [bP (by omega) (by omega)]
  unfold idx
  rw [if_pos (by omega),show ((x.aY.length:Int) - 1).toNat=x.aY.length - 1 by omega,← List.getLast?_eq_getElem?,List.getLast?_eq_some_getLast qN]
 ·rw [bP (by omega) (by omega),List.length_dropLast];omega
theorem Ha (x:aX) (A:List Term) (t:Term) (h:x.aY=A++[t]):tL x=t.Key:=by
 unfold tL
 rw [h,List.getLast?_append];rfl
structure FI (N:Nat) (F:aJ):Prop where
 len:F.fa.length≤N
 keys:∀ x∈F.fa,1≤x.aY.length∧x.aY.length≤N
 tags:∀ x∈F.fa,TS x.Device.bn∧x.Device.bn.length≤20
 sm:SM F.cx
 fr:∀ k i,bB F.cx k=some i→∃ x,idx F.fa i=some x∧x.Device.Key=k
 to:∀ i x,idx F.fa i=some x→bB F.cx x.Device.Key=some i
 RO:∀ m n,(bB F.bW ⟨m,n⟩).getD false=F.fa.any (fun x=>decide (x.Device.Model=m)&&decide (x.az=n))
 la:∀ k d,bB F.cX k=some d→∃ x∈F.fa,x.State≠4∧tL x=k∧x.Device.Key=d
 al:∀ x∈F.fa,x.State≠4→bB F.cX (tL x)=some x.Device.Key
theorem FI.start:FI 0 ⟨[],[],[],[]⟩:=by
 refine ⟨by simp,?_,?_,SM.nil,?_,?_,fun m n=>rfl,?_,?_⟩
 ·intro x h;simp at h
 ·intro x h;simp at h
 ·intro k i h;cases h
 ·intro i x h;have:=dV h;simp at this
 ·intro k d h;cases h
 ·intro x h;simp at h
theorem sn {α:Type} {l:List α} {x:α} (h:x∈l):∃ i:Nat,i < l.length∧idx l (i:Int)=some x:=by
 obtain ⟨i,hi,he⟩:=List.getElem_of_mem h
 refine ⟨i,hi,?_⟩
 unfold idx
 rw [if_pos (by omega),Int.toNat_natCast,List.getElem?_eq_getElem hi,he]
theorem FI.Kk {N:Nat} {F:aJ} (h:FI N F) {i:Int} {x x':aX} (hx:idx F.fa i=some x) (hs:x.State≠4) (e1:x'.Device.Key=x.Device.Key) (e2:x'.Device.Model=x.Device.Model) (e3:x'.az=x.az)
 (hT:TS x'.Device.bn∧x'.Device.bn.length≤20) (hK:1≤x'.aY.length∧x'.aY.length≤N+1) {RP:List (ax×ax)}
 (L1:∀ k d,bB RP k=some d→(k=tL x'∧x'.State≠4∧d=x'.Device.Key)∨(k≠tL x∧bB F.cX k=some d))
 (L2:x'.State≠4→bB RP (tL x')=some x'.Device.Key) (L3:∀ k d,k≠tL x→bB F.cX k=some d→bB RP k=some d):FI (N+1) ⟨F.cx,F.bW,RP,F.fa.set i.toNat x'⟩:=by
 obtain ⟨h0,h1,h2⟩:=ew hx
 have hi:i.toNat < F.fa.length:=by omega
 have Ad:∀ (j:Int) (z:aX),idx (F.fa.set i.toNat x') j=some z→(j=i∧z=x')∨(j≠i∧idx F.fa j=some z):=by
  intro j z hz
  obtain ⟨g0,g1,g2⟩:=ew hz
  rw [List.getElem?_set] at g2
  by_cases hj:i.toNat=j.toNat
  ·rw [if_pos hj,if_pos hi,Option.some.injEq] at g2
   exact .inl ⟨by omega,g2.symm⟩
  ·rw [if_neg hj] at g2
   refine .inr ⟨fun q=>hj (by rw [q]),?_⟩
   unfold idx
   rw [if_pos g0];exact g2
 have nO:idx (F.fa.set i.toNat x') i=some x':=by
  unfold idx
  rw [if_pos h0,List.getElem?_set,if_pos rfl,if_pos hi]
 have NY:∀ (j:Int) (z:aX),j≠i→idx F.fa j=some z→idx (F.fa.set i.toNat x') j=some z:=by
  intro j z hj hz
  obtain ⟨g0,g1,g2⟩:=ew hz
  unfold idx
  rw [if_pos g0,List.getElem?_set,if_neg (by omega)];exact g2
 have sR:∀ z∈F.fa.set i.toNat x',z=x'∨∃ j:Int,j≠i∧idx F.fa j=some z:=by
  intro z hz
  obtain ⟨j,_,hj⟩:=sn hz
  rcases Ad j z hj with ⟨_,q⟩ | ⟨q1,q2⟩
  ·exact .inl q
  ·exact .inr ⟨j,q1,q2⟩
 constructor
 ·simp only [List.length_set];have:=h.len;omega
 ·intro z hz
  rcases sR z hz with rfl | ⟨j,_,hj⟩
  ·exact hK
  ·have:=h.keys z (dV hj);omega
 ·intro z hz
  rcases sR z hz with rfl | ⟨j,_,hj⟩
  ·exact hT
  ·exact h.tags z (dV hj)
 ·exact h.sm
 ·intro k j hj
  obtain ⟨z,z1,z2⟩:=h.fr k j hj
  by_cases q:j=i
  ·subst q
   rw [hx,Option.some.injEq] at z1
   exact ⟨x',nO,by rw [e1,z1,z2]⟩
  ·exact ⟨z,NY j z q z1,z2⟩
 ·intro j z hz
  rcases Ad j z hz with ⟨q1,q2⟩ | ⟨q1,q2⟩
  ·rw [q2,e1,q1];exact h.to i x hx
  ·exact h.to j z q2
 ·intro m n
  rw [h.RO m n,Bool.eq_iff_iff,List.any_eq_true,List.any_eq_true]
  constructor
  ·rintro ⟨z,z1,z2⟩
   obtain ⟨j,_,hj⟩:=sn z1
   by_cases q:(j:Int)=i
   ·rw [q,hx,Option.some.injEq] at hj
    exact ⟨x',dV nO,by rw [e2,e3,hj];exact z2⟩
   ·exact ⟨z,dV (NY j z q hj),z2⟩
  ·rintro ⟨z,z1,z2⟩
   rcases sR z z1 with rfl | ⟨j,_,hj⟩
   ·exact ⟨x,dV hx,by rw [← e2,← e3];exact z2⟩
   ·exact ⟨z,dV hj,z2⟩
 ·intro k d hk
  rcases L1 k d hk with ⟨q1,q2,q3⟩ | ⟨q1,q2⟩
  ·exact ⟨x',dV nO,q2,q1.symm,q3.symm⟩
  ·obtain ⟨z,z1,z2,z3,z4⟩:=h.la k d q2
   obtain ⟨j,_,hj⟩:=sn z1
   by_cases q:(j:Int)=i
   ·rw [q,hx,Option.some.injEq] at hj
    exact absurd (by rw [hj];exact z3.symm) q1
   ·exact ⟨z,dV (NY j z q hj),z2,z3,z4⟩
 ·intro z hz wB
  rcases sR z hz with rfl | ⟨j,RQ,hj⟩
  ·exact L2 wB
  ·have h5:=h.al z (dV hj) wB
   refine L3 _ _ (fun q=>?_) h5
   have h6:=h.al x (dV hx) hs
   rw [q,h6,Option.some.injEq] at h5
   have h7:=h.to j z hj
   have h8:=h.to i x hx
   rw [← h5,h8,Option.some.injEq] at h7
   exact RQ h7.symm
theorem FI.QO {N:Nat} {F:aJ} (h:FI N F) {i:Int} {x x':aX} (hx:idx F.fa i=some x) (hs:x.State≠4) (wj:x'.State≠4) (e1:x'.Device.Key=x.Device.Key) (e2:x'.Device.Model=x.Device.Model) (e3:x'.az=x.az)
 (hT:TS x'.Device.bn∧x'.Device.bn.length≤20) (hK:x'.aY=x.aY):FI (N+1) ⟨F.cx,F.bW,F.cX,F.fa.set i.toNat x'⟩:=by
 have hl:tL x'=tL x:=by unfold tL;rw [hK]
 have Ed:=dV hx
 refine h.Kk hx hs e1 e2 e3 hT (by rw [hK];have:=h.keys x Ed;omega) (fun k d hk=>?_) (fun _=>by rw [hl,e1];exact h.al x Ed hs) (fun k d _ hk=>hk)
 by_cases q:k=tL x
 ·have:=h.al x Ed hs
  rw [q,this,Option.some.injEq] at hk
  exact .inl ⟨by rw [hl,q],wj,by rw [e1,hk]⟩
 ·exact .inr ⟨q,hk⟩
theorem FI.more {N:Nat} {F:aJ} (h:FI N F):FI (N+1) F:=
 ⟨by have:=h.len;omega,fun x hx=>by have:=h.keys x hx;omega,h.tags,h.sm,h.fr,h.to,h.RO,h.la,h.al⟩
theorem zM {N:Nat} {F:aJ} (h:FI N F) (hN:N≤100000) (k:ax):ud F.cx k F.fa=some (bB F.cX k).isSome:=by
 unfold ud zh
 have UD:∀ e∈F.cx,∃ x,idx F.fa e.2=some x∧x.Device.Key=e.1:=fun e he=>h.fr e.1 e.2 ((h.sm.wk).2 he)
 refine xb (fun e (x:Unit)=>nT k F.fa e) (fun x:Unit=>pP) F.cx () _ (fun done _=>∀ e∈done,∀ x,idx F.fa e.2=some x→x.State≠4→tL x≠k) (fun e he=>by cases he) ?_ ?_
 ·intro done e rest s hp hi
  have he:e∈F.cx:=hp.mem_iff.1 (by simp)
  obtain ⟨x,x1,x2⟩:=UD e he
  have Ed:=dV x1
  have hk:=h.keys x Ed
  obtain ⟨A,t,t1,t2,t3,t4,_⟩:=xh x hk.1 (by omega)
  unfold nT pM
  rw [x1]
  simp only [Option.bind_some]
  by_cases hs:x.State≠4
  ·rw [if_pos hs,t4]
   simp only [Option.bind_some]
   by_cases hq:t.Key=k
   ·right
    rw [if_pos (by simpa using hq),← hq,t2,h.al x Ed hs]
    rfl
   ·left
    rw [if_neg (by simpa using hq)]
    refine ⟨(),rfl,fun e' Gl z hz wB=>?_⟩
    rw [List.mem_append,List.mem_singleton] at Gl
    rcases Gl with Gl | rfl
    ·exact hi e' Gl z hz wB
    ·rw [x1,Option.some.injEq] at hz
     rw [← hz,← t2];exact hq
  ·left
   rw [if_neg hs,if_neg Bool.false_ne_true]
   refine ⟨(),rfl,fun e' Gl z hz wB=>?_⟩
   rw [List.mem_append,List.mem_singleton] at Gl
   rcases Gl with Gl | rfl
   ·exact hi e' Gl z hz wB
   ·rw [x1,Option.some.injEq] at hz
    exact absurd (by rw [hz];exact wB) hs
 ·intro p s hp hi
  have:bB F.cX k=none:=by
   cases hg:bB F.cX k with
   | none=>rfl
   | some d=>
     obtain ⟨x,x1,x2,x3,x4⟩:=h.la k d hg
     obtain ⟨j,_,hj⟩:=sn x1
     have:=h.to j x hj
     exact absurd x3 (hi (x.Device.Key,(j:Int)) (hp.mem_iff.2 ((h.sm.wk).1 this)) x hj x2)
  rw [this];rfl
theorem F9 {N:Nat} {F:aJ} (h:FI N F):Me F.fa.length (F.cx.map Prod.snd)=some ():=by
 unfold Me
 rw [if_pos]
 intro i hi
 obtain ⟨e,e1,rfl⟩:=List.mem_map.1 hi
 obtain ⟨x,x1,_⟩:=h.fr e.1 e.2 ((h.sm.wk).2 e1)
 have:=ew x1
 omega
def Aw (s p:ax):Bool:=decide (p.length≤s.length)&&decide (s.drop (s.length - p.length)=p)
theorem zN (s p:ax) (h:s.length≤1000000000):cM s p=some (Aw s p):=by
 unfold cM cq Aw
 by_cases c:p.length≤s.length
 ·rw [if_pos (by omega),bP (by omega) (by omega),w8 (by omega) (by omega) (by omega)]
  simp only [Option.bind_some,Option.some.injEq]
  rw [show ((s.length:Int) - p.length).toNat=s.length - p.length by omega,List.take_of_length_le (by simp)]
  simp [c]
 ·rw [if_neg (by omega)];simp [c]
def Ga (s:ax):Bool:=decide (0≤Lib.index s [32,32])
theorem wu (s:ax) (h:s.length≤1000000):strings_Contains s [32,32]=some (Ga s):=by
 unfold strings_Contains
 show (B1 s [32,32]).bind _=_
 unfold B1
 rw [if_pos (by omega)];rfl
def Cm (s:ax):Bool:=Jm s&&(!preB s [32]&&(!Aw s [32]&&!Ga s))
theorem Ju (s:ax) (h:s.length≤1000000):pI s=some (Cm s):=by
 unfold pI ji Cm
 rw [DP s h]
 simp only [Option.bind_some]
 cases Jm s with
 | false=>rfl
 | true=>
   rw [if_pos rfl,Au _ _ (by omega)]
   simp only [Option.bind_some]
   cases preB s [32] with
   | true=>rfl
   | false=>
     simp only [Bool.not_false,if_true]
     unfold strings_HasSuffix
     rw [zN _ _ (by omega)]
     simp only [Option.bind_some]
     cases Aw s [32] with
     | true=>rfl
     | false=>simp only [Bool.not_false,if_true];rw [wu s h];rfl
theorem Jv {α:Type} (p:α→Bool):∀ l:List α,l.dropWhile p=l↔∀ x,l.head? =some x→p x=false
 | []=>by simp
 | x :: r=>by
   rw [List.dropWhile_cons]
   cases hp:p x with
   | true=>
     simp only [if_true,List.head?_cons,Option.some.injEq]
     constructor
     ·intro h
      have h1:(r.dropWhile p).length≤r.length:=(List.dropWhile_suffix p).length_le
      rw [h,List.length_cons] at h1;omega
     ·intro h;have:=h x rfl;rw [hp] at this;cases this
   | false=>simp [hp]
theorem Bp (s:ax):Lib.trimS s [32]=s↔preB s [32]=false∧Aw s [32]=false:=by
 have hl:(∀ x,s.head? =some x→([32]:ax).contains x=false)↔preB s [32]=false:=by
  unfold preB
  cases s with
  | nil=>simp
  | cons a r=>simp
 have hr:(∀ x,s.reverse.head? =some x→([32]:ax).contains x=false)↔Aw s [32]=false:=by
  unfold Aw
  rcases List.eq_nil_or_concat s with rfl | ⟨l,a,rfl⟩
  ·simp
  ·rw [List.concat_eq_append];simp
 unfold Lib.trimS Lib.trimLeftS Lib.trimRightS
 rw [← hl,← hr,← Jv,← Jv]
 constructor
 ·intro h
  have h1:(s.reverse.dropWhile (([32]:ax).contains ·)).reverse.length≤s.length:=by
   have:=(List.dropWhile_suffix (l:=s.reverse) (([32]:ax).contains ·)).length_le
   simpa using this
  have h2:=(List.dropWhile_suffix (l:=(s.reverse.dropWhile (([32]:ax).contains ·)).reverse) (([32]:ax).contains ·)).length_le
  have h3:(s.reverse.dropWhile (([32]:ax).contains ·))=s.reverse:=by
   refine (List.dropWhile_suffix (([32]:ax).contains ·)).eq_of_length ?_
   have h4:=congrArg List.length h
   simp only [List.length_reverse] at h1 h2 h4 ⊢
   omega
  rw [h3,List.reverse_reverse] at h
  exact ⟨h,h3⟩
 ·rintro ⟨h1,h2⟩
  rw [h2,List.reverse_reverse];exact h1
theorem Hb (s:ax) (h:s.length≤100000):sf s=some (Lib.validD s&&(!preB s [32]&&(!Aw s [32]&&!Ga s))):=by
 unfold sf nR wW
 rw [if_pos (by omega)]
 simp only [Option.bind_some]
 cases Lib.validD s with
 | false=>rfl
 | true=>
   rw [if_pos rfl,rJ h (by simp) (by decide)]
   simp only [Option.bind_some]
   by_cases c:Lib.trimS s [32]=s
   ·rw [if_pos c.symm,wu s (by omega)]
    obtain ⟨c1,c2⟩:=(Bp s).1 c
    rw [c1,c2];rfl
   ·rw [if_neg (fun k=>c k.symm)]
    have:=fun k=>c ((Bp s).2 k)
    cases h1:preB s [32]<;>cases h2:Aw s [32]<;>first | rfl | exact absurd ⟨h1,h2⟩ this
theorem Hc (s:ax) (h:s.length≤100000):vX s=some (Cm s):=by
 unfold vX zg
 have hlen:(jT s).length=s.length:=by unfold jT;simp
 have hf:=ug (jT s) (fun x:Int=>jX s x) (fun v=>if (decide (v < 32)||decide (v=127))=true then some false else none) (Lib.validD s&&(!preB s [32]&&(!Aw s [32]&&!Ga s))) (by omega) (fun i v h0 h1 h2=>by
  show jX s i=_
  unfold jX se
  rw [if_pos h1,h2]
  simp only [Option.bind_some]
  rw [bP (by omega) (by omega)]
  cases (decide (v < 32)||decide (v=127))<;>rfl) (by
  show jX s (jT s).length=_
  unfold jX
  rw [if_neg (by omega),Hb s h];rfl)
 rw [hf]
 unfold Cm Jm
 congr 1
 have key:∀ (l:ax) (e:Bool),pV (fun v:Int=>if (decide (v < 32)||decide (v=127))=true then some false else none) e (jT l)=(!l.any yg&&e):=by
  intro l e
  unfold jT
  induction l with
  | nil=>simp [pV]
  | cons c r ih=>
    simp only [List.map_cons,pV,List.any_cons]
    have hb:(decide ((c.toNat:Int) < 32)||decide ((c.toNat:Int)=127))=yg c:=by
     unfold yg;rw [Bool.eq_iff_iff];simp<;>omega
    rw [hb]
    cases yg c with
    | true=>rfl
    | false=>simp only [Bool.false_eq_true,if_false,Bool.false_or];exact ih
 rw [key,Bool.and_assoc]
abbrev UE:ax:=[48,49,50,51,52,53,54,55,56,57,97,98,99,100,101,102]
def Ax (s:ax):Bool:=(decide (1≤s.length)&&decide (s.length≤64))&&decide (Lib.trimS s UE=[])
theorem tM {s:ax} (h:s.length≤1000):fL s=some (Ax s):=by
 unfold fL fI Ax
 rw [pX,rJ (by omega) (by decide) (by decide)]
 by_cases c:1≤s.length∧s.length≤64
 ·rw [if_pos (by simp only [Bool.not_eq_true',Bool.or_eq_false_iff,decide_eq_false_iff_not];omega)]
  simp [c.1,c.2]
 ·rw [if_neg (by simp only [Bool.not_eq_true',Bool.or_eq_false_iff,decide_eq_false_iff_not];omega)]
  rw [eq_comm]
  simp
  intro a b;exact absurd ⟨by omega,b⟩ c
theorem wv {s:ax} (h:s.length≤1000):mH s=some (Ax s):=by
 unfold mH kX Ax
 rw [oT,rJ (by omega) (by decide) (by decide)]
 by_cases c:1≤s.length∧s.length≤64
 ·rw [if_pos (by simp only [Bool.and_eq_true,decide_eq_true_eq];omega)]
  simp [c.1,c.2]
 ·rw [if_neg (by simp only [Bool.and_eq_true,decide_eq_true_eq];omega)]
  rw [eq_comm]
  simp
  intro a b;exact absurd ⟨by omega,b⟩ c
def Jw (v:Version):Bool:=(decide (0≤v.dX)&&decide (v.dX≤9999))&&((decide (0≤v.dY)&&decide (v.dY≤9999))&&(decide (0≤v.dI)&&decide (v.dI≤9999)))
theorem DY (v:Version):nf v=Jw v:=rfl
theorem E0 (n lo hi:Int):(!(eC n lo hi))=sd n lo hi:=by
 rw [pX,oT,Bool.eq_iff_iff]
 simp
theorem DZ (v:Version):lz v=Jw v:=by
 unfold lz mq
 rw [E0,E0,E0]
 rfl
structure EB (x:ab):Prop where
 key:x.Key.length≤1000
 val:x.Value.length≤1000
def oM (x:ab):ab:=
 if x.Kind=1 then ⟨x.cj,x.No,x.aO,x.At,x.Kind,x.Device,x.Model,[],x.az,x.Key,[],[],0,⟨0,0,0⟩⟩
 else if x.Kind=2 then ⟨x.cj,x.No,x.aO,x.At,x.Kind,x.Device,[],x.aK,0,[],[],[],0,⟨0,0,0⟩⟩
 else if x.Kind=4 then ⟨x.cj,x.No,x.aO,x.At,x.Kind,x.Device,[],[],0,x.Key,[],[],x.aW,⟨0,0,0⟩⟩
 else if x.Kind=5 then ⟨x.cj,x.No,x.aO,x.At,x.Kind,x.Device,[],[],0,[],[],[],0,⟨x.ak.dX,x.ak.dY,x.ak.dI⟩⟩
 else if x.Kind=6 then ⟨x.cj,x.No,x.aO,x.At,x.Kind,x.Device,[],[],0,[],x.Name,x.Value,0,⟨0,0,0⟩⟩
 else ⟨x.cj,x.No,x.aO,x.At,x.Kind,x.Device,[],[],0,[],[],[],0,⟨0,0,0⟩⟩
def E1 (l:List Model) (k:ax):Int:=ig (fun m:Model=>decide (m.Key=k)) l 0
def Ay (l:List Model) (x:ab):Int:=
 if x.Kind=1 then (if E1 l x.Model < 0 then 8 else if x.az < 1∨99999999 < x.az then 1 else if Ax x.Key=true then 0 else 5)
 else if x.Kind=2 then (if nZ x.aK=true then 0 else 5)
 else if x.Kind=4 then (if Ax x.Key=true then (if x.aW < x.At∨345686400000 < x.aW then 1 else 0) else 5)
 else if x.Kind=5 then (if Jw x.ak=true then 0 else 1)
 else if x.Kind=6 then (if nZ x.Name=true then (if Cm x.Value=true∧x.Value.length≤100 then 0 else 3) else 5)
 else 0
theorem NZ (l:List Model) (k:ax) (hl:l.length≤1000):jW l k=some (E1 l k):=by
 unfold jW
 rw [show bL l (fun y0=>some (gq y0 k))=some (E1 l k) from kI l _ (fun m:Model=>decide (m.Key=k)) (fun x _=>rfl) (by omega)]
 rfl
theorem Jx (l:List Model) (k:ax) (hl:l.length≤1000):rn l k=some (E1 l k):=by
 unfold rn
 rw [show bL l (fun y0=>some (o4 y0 k))=some (E1 l k) from kI l _ (fun m:Model=>decide (m.Key=k)) (fun x _=>rfl) (by omega)]
 rfl
theorem bad_eq (b:Bool) (w e:Int):aR b w e=if b=true∧e=0 then w else e:=by
 unfold aR gS fk
 by_cases h:b=true∧e=0
 ·rw [if_pos h,if_pos (by simp [h.1,h.2])]
 ·rw [if_neg h,if_neg (by simpa using h)]
theorem Cn (l:List Model) (x:ab) (hl:l.length≤1000) (hx:EB x):jz l x=some (oM x,Ay l x):=by
 unfold jz oM Ay
 by_cases k1:x.Kind=1
 ·rw [if_pos k1,if_pos k1,if_pos k1,NZ l _ hl]
  simp only [Option.bind_some]
  rw [tM hx.key]
  simp only [Option.bind_some]
  unfold cI
  rw [bad_eq,bad_eq,bad_eq,pX]
  refine congrArg some (Prod.ext rfl ?_)
  dsimp only
  by_cases h1:E1 l x.Model < 0
  ·simp [h1]
  ·by_cases h2:x.az < 1∨99999999 < x.az
   ·simp [h1,h2]
   ·by_cases h3:Ax x.Key=true
    ·simp [h1,h2,h3]
    ·simp [h1,h2,h3]
 rw [if_neg k1,if_neg k1,if_neg k1]
 by_cases k2:x.Kind=2
 ·rw [if_pos k2,if_pos k2,if_pos k2,xd]
  simp only [Option.bind_some]
  unfold dh cI
  rw [bad_eq]
  refine congrArg some (Prod.ext rfl ?_)
  dsimp only
  by_cases h1:nZ x.aK=true
  ·simp [h1]
  ·simp [h1]
 rw [if_neg k2,if_neg k2,if_neg k2]
 by_cases k4:x.Kind=4
 ·rw [if_pos k4,if_pos k4,if_pos k4,tM hx.key]
  simp only [Option.bind_some]
  unfold ea dh cI
  rw [bad_eq,bad_eq,pX]
  refine congrArg some (Prod.ext rfl ?_)
  dsimp only
  by_cases h3:Ax x.Key=true
  ·by_cases h2:x.aW < x.At∨345686400000 < x.aW
   ·simp [h2,h3]
   ·simp [h2,h3]
  ·simp [h3]
 rw [if_neg k4,if_neg k4,if_neg k4]
 by_cases k5:x.Kind=5
 ·rw [if_pos k5,if_pos k5,if_pos k5]
  unfold fu ea dh cI
  rw [bad_eq,DZ]
  refine congrArg some (Prod.ext rfl ?_)
  dsimp only
  by_cases h3:Jw x.ak=true
  ·simp [h3]
  ·simp [h3]
 rw [if_neg k5,if_neg k5,if_neg k5]
 by_cases k6:x.Kind=6
 ·rw [if_pos k6,if_pos k6,if_pos k6,xd]
  simp only [Option.bind_some]
  unfold gL gK fu ea dh cI
  by_cases h1:(100:Int) < x.Value.length
  ·rw [if_pos h1,bad_eq,bad_eq]
   refine congrArg some (Prod.ext rfl ?_)
   dsimp only
   by_cases h3:nZ x.Name=true
   ·simp [h3];omega
   ·simp [h3]
  ·rw [if_neg h1,Ju _ (by have:=hx.val;omega)]
   simp only [Option.bind_some]
   rw [bad_eq,bad_eq]
   refine congrArg some (Prod.ext rfl ?_)
   dsimp only
   have z6:x.Value.length≤100:=by omega
   by_cases h3:nZ x.Name=true
   ·by_cases h4:Cm x.Value=true
    ·simp [h3,h4,z6]
    ·simp [h3,h4]
   ·simp [h3]
 rw [if_neg k6,if_neg k6,if_neg k6]
 rfl
theorem N0 (l:List Model) (x:ab) (hl:l.length≤1000) (hx:EB x):pL l x=some (Ay l x):=by
 unfold pL Ay
 have q0:me=some 0:=rfl
 by_cases k1:x.Kind=1
 ·rw [if_pos k1,if_pos k1,Jx l _ hl]
  simp only [Option.bind_some]
  by_cases h1:E1 l x.Model < 0
  ·rw [if_pos h1,if_pos h1]
  rw [if_neg h1,if_neg h1,oT]
  by_cases h2:x.az < 1∨99999999 < x.az
  ·rw [if_pos (by simp;omega),if_pos h2]
  rw [if_neg (by simp;omega),if_neg h2,wv hx.key]
  simp only [Option.bind_some]
  by_cases h3:Ax x.Key=true
  ·rw [if_neg (by simp [h3]),if_pos h3];rfl
  ·rw [if_pos (by simp [h3]),if_neg h3]
 rw [if_neg k1,if_neg k1]
 by_cases k2:x.Kind=2
 ·rw [if_pos k2,if_pos k2,Jo]
  rfl
 rw [if_neg k2,if_neg k2]
 by_cases k4:x.Kind=4
 ·rw [if_pos k4,if_pos k4,wv hx.key]
  simp only [Option.bind_some]
  by_cases h3:Ax x.Key=true
  ·rw [if_neg (by simp [h3]),if_pos h3,oT]
   by_cases h2:x.aW < x.At∨345686400000 < x.aW
   ·rw [if_pos (by simp;omega),if_pos h2]
   ·rw [if_neg (by simp;omega),if_neg h2];rfl
  ·rw [if_pos (by simp [h3]),if_neg h3]
 rw [if_neg k4,if_neg k4]
 by_cases k5:x.Kind=5
 ·rw [if_pos k5,if_pos k5,DY]
  by_cases h3:Jw x.ak=true
  ·rw [if_neg (by simp [h3]),if_pos h3];rfl
  ·rw [if_pos (by simp [h3]),if_neg h3]
 rw [if_neg k5,if_neg k5]
 by_cases k6:x.Kind=6
 ·rw [if_pos k6,if_pos k6,rK]
  simp only [Option.bind_some]
  by_cases h3:nZ x.Name=true
  ·rw [if_neg (by simp [h3]),if_pos h3,Hc _ (by have:=hx.val;omega)]
   simp only [Option.bind_some]
   unfold ot
   by_cases h4:Cm x.Value=true∧x.Value.length≤100
   ·rw [if_pos h4,if_neg (by simp [h4.1];omega)];rfl
   ·have h5:Cm x.Value=false∨(100:Int) < (x.Value.length:Int):=by
     rcases Bool.eq_false_or_eq_true (Cm x.Value) with q | q
     ·exact .inr (by have:¬ x.Value.length≤100:=fun g=>h4 ⟨q,g⟩;omega)
     ·exact .inl q
    rw [if_neg h4,if_pos (by simp only [Bool.or_eq_true,Bool.not_eq_true',decide_eq_true_eq];exact h5)]
  ·rw [if_pos (by simp [h3]),if_neg h3]
 rw [if_neg k6,if_neg k6]
 rfl
def ln (x:ab):List (ax×Bool):=[(([109]:ax),decide (x.Model≠([]:ax))),(([115]:ax),decide (x.az≠(0:Int))),(([107]:ax),decide (x.Key≠([]:ax))),(([116]:ax),decide (x.aK≠([]:ax))),(([117]:ax),decide (x.aW≠(0:Int))),(([102]:ax),decide (x.ak≠(⟨(0:Int),(0:Int),(0:Int)⟩:Version))),(([110]:ax),decide (x.Name≠([]:ax))),(([118]:ax),decide (x.Value≠([]:ax)))]
def uB (u:ax) (e:ax×Bool):Bool:=e.2&&!(decide (0≤Lib.indexByte u (e.1.headD 0)))
theorem LA (u:ax) (e:ax×Bool) (c:UInt8) (he:e.1=[c]):gu u e=some (if uB u e=true then .inr 3 else .inl ()):=by
 unfold gu kq uB strings_Contains
 rw [he]
 show (if e.2=true then ((some (Lib.indexByte u c)).bind _|>.bind _) else _)=_
 by_cases h:e.2=true
 ·rw [if_pos h]
  simp only [Option.bind_some,List.headD_cons,h,Bool.true_and]
  by_cases g:0≤Lib.indexByte u c
  ·simp [g]
  ·simp [g]
 ·rw [if_neg h]
  simp [h]
theorem E3 (x:ab) (u:ax):oO x u=some (if (ln x).any (uB u)=true then 3 else 0):=by
 unfold oO
 show uH (ln x) _=_
 have hs:∀ e∈ln x,∃ c,e.1=[c]:=by
  intro e he
  simp only [ln,List.mem_cons,List.not_mem_nil,or_false] at he
  rcases he with rfl | rfl | rfl | rfl | rfl | rfl | rfl | rfl<;>exact ⟨_,rfl⟩
 refine xb (fun e (_:Unit)=>gu u e) (fun _:Unit=>kr) (ln x) () _ (fun done _=>done.any (uB u)=false) rfl ?_ ?_
 ·intro done e rest s hp hi
  have he:e∈ln x:=hp.mem_iff.1 (by simp)
  obtain ⟨c,hc⟩:=hs e he
  rw [LA u e c hc]
  by_cases h:uB u e=true
  ·right
   rw [if_pos h,if_pos (List.any_eq_true.2 ⟨e,he,h⟩)]
  ·left
   rw [if_neg h]
   refine ⟨(),rfl,?_⟩
   rw [List.any_append,hi]
   simpa using h
 ·intro p s hp hi
  have:(ln x).any (uB u)=false:=by
   rw [← hi,Bool.eq_iff_iff,List.any_eq_true,List.any_eq_true]
   exact ⟨fun ⟨e,h1,h2⟩=>⟨e,hp.mem_iff.2 h1,h2⟩,fun ⟨e,h1,h2⟩=>⟨e,hp.mem_iff.1 h1,h2⟩⟩
  rw [this]
  rfl
theorem LB (x:ab) (h1:1≤x.Kind) (h2:x.Kind≤9):∃ u,qq x.Kind=some u∧((ln x).any (uB u)=true↔oM x≠x):=by
 have hk:x.Kind=1∨x.Kind=2∨x.Kind=3∨x.Kind=4∨x.Kind=5∨x.Kind=6∨x.Kind=7∨x.Kind=8∨x.Kind=9:=by omega
 obtain ⟨a1,a2,a3,a4,a5,a6,a7,a8,a9,a10,a11,a12,a13,a14⟩:=x
 dsimp only at hk
 have t1:∀ c:UInt8,Lib.indexByte ([]:ax) c=-1:=fun c=>rfl
 rcases hk with rfl | rfl | rfl | rfl | rfl | rfl | rfl | rfl | rfl
 ·refine ⟨([109,115,107]:ax),rfl,?_⟩
  simp only [ln,uB,oM,List.any_cons,List.any_nil,List.headD_cons,show Lib.indexByte ([109,115,107]:ax) 109=0 by decide,show Lib.indexByte ([109,115,107]:ax) 115=1 by decide,show Lib.indexByte ([109,115,107]:ax) 107=2 by decide,show Lib.indexByte ([109,115,107]:ax) 116=-1 by decide,show Lib.indexByte ([109,115,107]:ax) 117=-1 by decide,show Lib.indexByte ([109,115,107]:ax) 102=-1 by decide,show Lib.indexByte ([109,115,107]:ax) 110=-1 by decide,show Lib.indexByte ([109,115,107]:ax) 118=-1 by decide]
  simp [ab.mk.injEq]
  try grind
 ·refine ⟨([116]:ax),rfl,?_⟩
  simp only [ln,uB,oM,List.any_cons,List.any_nil,List.headD_cons,show Lib.indexByte ([116]:ax) 109=-1 by decide,show Lib.indexByte ([116]:ax) 115=-1 by decide,show Lib.indexByte ([116]:ax) 107=-1 by decide,show Lib.indexByte ([116]:ax) 116=0 by decide,show Lib.indexByte ([116]:ax) 117=-1 by decide,show Lib.indexByte ([116]:ax) 102=-1 by decide,show Lib.indexByte ([116]:ax) 110=-1 by decide,show Lib.indexByte ([116]:ax) 118=-1 by decide]
  simp [ab.mk.injEq]
  try grind
 ·refine ⟨([]:ax),rfl,?_⟩
  simp only [ln,uB,oM,List.any_cons,List.any_nil,List.headD_cons,show Lib.indexByte ([]:ax) 109=-1 by decide,show Lib.indexByte ([]:ax) 115=-1 by decide,show Lib.indexByte ([]:ax) 107=-1 by decide,show Lib.indexByte ([]:ax) 116=-1 by decide,show Lib.indexByte ([]:ax) 117=-1 by decide,show Lib.indexByte ([]:ax) 102=-1 by decide,show Lib.indexByte ([]:ax) 110=-1 by decide,show Lib.indexByte ([]:ax) 118=-1 by decide]
  simp [ab.mk.injEq]
  try grind
 ·refine ⟨([107,117]:ax),rfl,?_⟩
  simp only [ln,uB,oM,List.any_cons,List.any_nil,List.headD_cons,show Lib.indexByte ([107,117]:ax) 109=-1 by decide,show Lib.indexByte ([107,117]:ax) 115=-1 by decide,show Lib.indexByte ([107,117]:ax) 107=0 by decide,show Lib.indexByte ([107,117]:ax) 116=-1 by decide,show Lib.indexByte ([107,117]:ax) 117=1 by decide,show Lib.indexByte ([107,117]:ax) 102=-1 by decide,show Lib.indexByte ([107,117]:ax) 110=-1 by decide,show Lib.indexByte ([107,117]:ax) 118=-1 by decide]
  simp [ab.mk.injEq]
  try grind
 ·refine ⟨([102]:ax),rfl,?_⟩
  simp only [ln,uB,oM,List.any_cons,List.any_nil,List.headD_cons,show Lib.indexByte ([102]:ax) 109=-1 by decide,show Lib.indexByte ([102]:ax) 115=-1 by decide,show Lib.indexByte ([102]:ax) 107=-1 by decide,show Lib.indexByte ([102]:ax) 116=-1 by decide,show Lib.indexByte ([102]:ax) 117=-1 by decide,show Lib.indexByte ([102]:ax) 102=0 by decide,show Lib.indexByte ([102]:ax) 110=-1 by decide,show Lib.indexByte ([102]:ax) 118=-1 by decide]
  simp [ab.mk.injEq]
  try grind
 ·refine ⟨([110,118]:ax),rfl,?_⟩
  simp only [ln,uB,oM,List.any_cons,List.any_nil,List.headD_cons,show Lib.indexByte ([110,118]:ax) 109=-1 by decide,show Lib.indexByte ([110,118]:ax) 115=-1 by decide,show Lib.indexByte ([110,118]:ax) 107=-1 by decide,show Lib.indexByte ([110,118]:ax) 116=-1 by decide,show Lib.indexByte ([110,118]:ax) 117=-1 by decide,show Lib.indexByte ([110,118]:ax) 102=-1 by decide,show Lib.indexByte ([110,118]:ax) 110=0 by decide,show Lib.indexByte ([110,118]:ax) 118=1 by decide]
  simp [ab.mk.injEq]
  try grind
 ·refine ⟨([]:ax),rfl,?_⟩
  simp only [ln,uB,oM,List.any_cons,List.any_nil,List.headD_cons,show Lib.indexByte ([]:ax) 109=-1 by decide,show Lib.indexByte ([]:ax) 115=-1 by decide,show Lib.indexByte ([]:ax) 107=-1 by decide,show Lib.indexByte ([]:ax) 116=-1 by decide,show Lib.indexByte ([]:ax) 117=-1 by decide,show Lib.indexByte ([]:ax) 102=-1 by decide,show Lib.indexByte ([]:ax) 110=-1 by decide,show Lib.indexByte ([]:ax) 118=-1 by decide]
  simp [ab.mk.injEq]
  try grind
 ·refine ⟨([]:ax),rfl,?_⟩
  simp only [ln,uB,oM,List.any_cons,List.any_nil,List.headD_cons,show Lib.indexByte ([]:ax) 109=-1 by decide,show Lib.indexByte ([]:ax) 115=-1 by decide,show Lib.indexByte ([]:ax) 107=-1 by decide,show Lib.indexByte ([]:ax) 116=-1 by decide,show Lib.indexByte ([]:ax) 117=-1 by decide,show Lib.indexByte ([]:ax) 102=-1 by decide,show Lib.indexByte ([]:ax) 110=-1 by decide,show Lib.indexByte ([]:ax) 118=-1 by decide]
  simp [ab.mk.injEq]
  try grind
 ·refine ⟨([]:ax),rfl,?_⟩
  simp only [ln,uB,oM,List.any_cons,List.any_nil,List.headD_cons,show Lib.indexByte ([]:ax) 109=-1 by decide,show Lib.indexByte ([]:ax) 115=-1 by decide,show Lib.indexByte ([]:ax) 107=-1 by decide,show Lib.indexByte ([]:ax) 116=-1 by decide,show Lib.indexByte ([]:ax) 117=-1 by decide,show Lib.indexByte ([]:ax) 102=-1 by decide,show Lib.indexByte ([]:ax) 110=-1 by decide,show Lib.indexByte ([]:ax) 118=-1 by decide]
  simp [ab.mk.injEq]
  try grind
def Gb (l:List Model) (x:ab):Int:=
 if nZ x.cj=false then 5
 else if (x.No < 1∨3000 < x.No)∨(x.aO < x.No∨1000000000 < x.aO)∨(x.At < 0∨345686399999 < x.At) then 1
 else if x.Kind < 1∨9 < x.Kind then 4
 else if nZ x.Device=false then 5
 else if Ay l x≠0 then Ay l x
 else if oM x≠x then 3 else 0
theorem qK (l:List Model) (x:ab) (hl:l.length≤1000) (hx:EB x):gi l x=some (Gb l x):=by
 unfold gi Gb
 rw [xd]
 simp only [Option.bind_some]
 by_cases h1:nZ x.cj=false
 ·rw [if_pos (by simp [h1]),if_pos h1]
 rw [if_neg (by simpa using h1),if_neg h1]
 unfold jc
 rw [pX,pX,G2]
 by_cases h2:(x.No < 1∨3000 < x.No)∨(x.aO < x.No∨1000000000 < x.aO)∨(x.At < 0∨345686399999 < x.At)
 ·rw [if_pos (by simp only [Bool.or_eq_true,Bool.not_eq_true',Bool.and_eq_false_iff,decide_eq_true_eq,decide_eq_false_iff_not];omega),if_pos h2]
 rw [if_neg (by simp only [Bool.or_eq_true,Bool.not_eq_true',Bool.and_eq_false_iff,decide_eq_true_eq,decide_eq_false_iff_not];omega),if_neg h2,pX]
 by_cases h3:x.Kind < 1∨9 < x.Kind
 ·rw [if_pos (by simpa using h3),if_pos h3]
 rw [if_neg (by simpa using h3),if_neg h3,xd]
 simp only [Option.bind_some]
 by_cases h4:nZ x.Device=false
 ·rw [if_pos (by simp [h4]),if_pos h4]
 rw [if_neg (by simpa using h4),if_neg h4,Cn l x hl hx]
 simp only [Option.bind_some]
 unfold jb fX
 by_cases h5:Ay l x=0
 ·rw [if_neg (show ¬ Ay l x≠0 from fun g=>g h5)]
  by_cases h6:oM x=x
  ·rw [if_neg (show ¬ oM x≠x from fun g=>g h6),if_neg (by simp [h6]),h5]
  ·rw [if_pos (show oM x≠x from h6),if_pos (by simp [h5,h6])]
 ·rw [if_pos (show Ay l x≠0 from h5),if_neg (by simp [h5])]
theorem uQ (l:List Model) (x:ab) (hl:l.length≤1000) (hx:EB x):lG l x=some (Gb l x):=by
 unfold lG Gb
 rw [rK]
 simp only [Option.bind_some]
 by_cases h1:nZ x.cj=false
 ·rw [if_pos (by simp [h1]),if_pos h1]
 rw [if_neg (by simpa using h1),if_neg h1]
 unfold mx
 rw [oT,oT,DQ]
 by_cases h2:(x.No < 1∨3000 < x.No)∨(x.aO < x.No∨1000000000 < x.aO)∨(x.At < 0∨345686399999 < x.At)
 ·rw [if_pos h2,if_pos]
  simp only [Bool.or_eq_true,Bool.not_eq_true',Bool.and_eq_false_iff,decide_eq_true_eq,decide_eq_false_iff_not]
  rcases h2 with h | h | h
  ·exact .inl (by omega)
  ·exact .inr (.inl (by omega))
  ·exact .inr (.inr (by rw [if_neg (by omega)];decide))
 have Fl:(1≤x.No∧x.No≤3000)∧(x.No≤x.aO∧x.aO≤1000000000)∧(0≤x.At∧x.At≤345686399999):=by omega
 rw [if_neg h2,if_neg (by rw [if_pos Fl.2.2];simp [Fl.1,Fl.2.1]),oT]
 by_cases h3:x.Kind < 1∨9 < x.Kind
 ·rw [if_pos (by simp only [Bool.not_eq_true',Bool.and_eq_false_iff,decide_eq_false_iff_not];omega),if_pos h3]
 rw [if_neg (by simp only [Bool.not_eq_true',Bool.and_eq_false_iff,decide_eq_false_iff_not];omega),if_neg h3,rK]
 simp only [Option.bind_some]
 by_cases h4:nZ x.Device=false
 ·rw [if_pos (by simp [h4]),if_pos h4]
 rw [if_neg (by simpa using h4),if_neg h4,N0 l x hl hx]
 simp only [Option.bind_some]
 by_cases h5:Ay l x=0
 ·rw [if_neg (by simp [h5]),if_neg (by simp [h5])]
  obtain ⟨u,u1,u2⟩:=LB x (by omega) (by omega)
  rw [u1]
  simp only [Option.bind_some]
  rw [E3]
  by_cases h6:oM x=x
  ·rw [if_neg (by rw [u2];simp [h6]),if_neg (by simp [h6])]
  ·rw [if_pos (u2.2 h6),if_pos h6]
 ·rw [if_pos h5,if_pos h5]
theorem rO {l:List Model} {x:ab} (h:Gb l x=0):nZ x.cj=true∧1≤x.No∧x.No≤3000∧x.No≤x.aO:=by
 unfold Gb at h
 by_cases h1:nZ x.cj=false
 ·rw [if_pos h1] at h;exact absurd h (by decide)
 rw [if_neg h1] at h
 by_cases h2:(x.No < 1∨3000 < x.No)∨(x.aO < x.No∨1000000000 < x.aO)∨(x.At < 0∨345686399999 < x.At)
 ·rw [if_pos h2] at h;exact absurd h (by decide)
 exact ⟨by simpa using h1,by omega⟩
theorem yu {S A:Type} {f:S→Option (S⊕A)} {s s':S} (h:f s=some (.inl s')):iter f s=iter f s':=by
 rw [iter_eq,h];rfl
theorem wx {S A:Type} {f:S→Option (S⊕A)} {s:S} {o:Option A} (h:f s=Option.map .inr o):iter f s=o:=by
 rw [iter_eq,h]
 cases o<;>rfl
abbrev EL (l:List ab):Prop:=∀ x∈l,EB x
def eO (a b:ab):Int:=if Cf a.aO b.aO≠0 then Cf a.aO b.aO else if Lib.compareBytes a.cj b.cj≠0 then Lib.compareBytes a.cj b.cj else Cf a.No b.No
theorem UF:sH eO:=sH.lex (Ji.on ab.aO) (sH.lex (nt.on ab.cj) (Ji.on ab.No))
theorem zO (a b:ab):kW a b=some (eO a b):=by
 unfold kW
 rw [show pG [(cmp_Compare_int a.aO b.aO),(Lib.compareBytes a.cj b.cj),(cmp_Compare_int a.No b.No)]=some (Mz [(cmp_Compare_int a.aO b.aO),(Lib.compareBytes a.cj b.cj),(cmp_Compare_int a.No b.No)]) from Je _ (by simp)]
 rw [xL,xL]
 simp only [Option.bind_some]
 unfold eO
 show some (if _≠0 then _ else if _≠0 then _ else if _≠0 then _ else 0)=_
 by_cases h:Cf a.No b.No≠0
 ·rw [if_pos h]
 ·rw [if_neg h,Decidable.not_not.1 h]
theorem Jy (a b:ab):lx a b=some (eO a b):=zO a b
theorem Cp (l:List Model) (hl:l.length≤1000) (e:List ab) (he:EL e):dR l e=kH l e:=by
 unfold dR kH
 by_cases h:(3000:Int) < e.length
 ·rw [if_pos h,if_pos h]
 rw [if_neg h,if_neg h]
 unfold lS ru
 refine G3 (fun s=>?_) _
 show di l e s.1 s.2=iw l e s.1 s.2
 unfold di iw
 by_cases h1:s.2 < e.length
 ·rw [if_pos h1,if_pos h1]
  cases hx:idx e s.2 with
  | none=>rfl
  | some x=>
    simp only [Option.bind_some]
    have hb:=he x (dV hx)
    rw [qK l x hl hb,uQ l x hl hb]
    rfl
 ·rw [if_neg h1,if_neg h1]
  rfl
structure LG (l:List Model) (e:List ab):Prop where
 len:e.length≤3000
 ok:∀ x∈e,Gb l x=0
 up:e.Pairwise (fun a b=>a.cj=b.cj→a.No < b.No)
 cl:∀ (j:Int) y z,0 < j→idx e (j - 1)=some y→idx e j=some z→y.aO≤z.aO
structure LI (l:List Model) (e:List ab) (i:Int) (m:List (ax×Int)):Prop where
 ok:∀ x∈e.take i.toNat,Gb l x=0
 up:(e.take i.toNat).Pairwise (fun a b=>a.cj=b.cj→a.No < b.No)
 last:∀ x∈e.take i.toNat,∃ n,bB m x.cj=some n∧x.No≤n
 X0:∀ h n,bB m h=some n→0≤n∧n≤3000
 cl:∀ (j:Int) y z,0 < j→j < i→idx e (j - 1)=some y→idx e j=some z→y.aO≤z.aO
theorem Jz {a b:ab} (h:eO a b < 0):a.aO≤b.aO:=by
 unfold eO Cf at h
 by_cases q:a.aO≤b.aO
 ·exact q
 ·rw [if_neg (show ¬ a.aO < b.aO by omega),if_pos (show b.aO < a.aO by omega)] at h
  simp at h
theorem xO (l:List Model) (e:List ab) (x:ab) (m:List (ax×Int)) (i:Int) (hi:0≤i) (h2:i < e.length) (hl:e.length≤3000) (hx:idx e i=some x) (h0:Gb l x=0) (hI:LI l e i m) (c:Bool) (wA:c=false→∀ y,0 < i→idx e (i - 1)=some y→y.aO≤x.aO):
 Ok (fx m i x c) (fun r=>(∃ s':List (ax×Int),r=.inl (s',i+1)∧i < (e.length:Int)∧LI l e (i+1) s')∨∃ a,r=.inr a∧(a=0→LG l e)):=by
 unfold fx
 cases c with
 | true=>
   rw [if_pos rfl]
   exact ⟨.inr 7,rfl,.inr ⟨7,rfl,fun h=>absurd h (by decide)⟩⟩
 | false=>
   rw [if_neg (by simp)]
   unfold qn
   simp only [Option.bind_some]
   have hr:0≤(bB m x.cj).getD 0∧(bB m x.cj).getD 0≤3000:=by
    cases hg:bB m x.cj with
    | none=>simp
    | some n=>exact hI.X0 _ _ hg
   rw [bP (by omega) (by omega),bP (by omega) (by omega)]
   by_cases c:x.No≠(bB m x.cj).getD 0+1
   ·rw [if_pos c]
    exact ⟨.inr 16,rfl,.inr ⟨16,rfl,fun h=>absurd h (by decide)⟩⟩
   ·rw [if_neg c]
    have c':x.No=(bB m x.cj).getD 0+1:=Decidable.not_not.1 c
    have hz:=rO h0
    have ht:=take_succ hi hx
    refine ⟨_,rfl,.inl ⟨_,rfl,h2,?_⟩⟩
    constructor
    ·intro y hy
     rw [ht,List.mem_append,List.mem_singleton] at hy
     rcases hy with hy | rfl
     ·exact hI.ok y hy
     ·exact h0
    ·rw [ht,List.pairwise_append]
     refine ⟨hI.up,List.pairwise_singleton _ _,fun a ha b hb AU=>?_⟩
     rw [List.mem_singleton] at hb
     subst hb
     obtain ⟨n,n1,n2⟩:=hI.last a ha
     rw [AU] at n1
     rw [n1] at c'
     simp only [Option.getD_some] at c'
     omega
    ·intro y hy
     rw [ht,List.mem_append,List.mem_singleton] at hy
     rw [gl]
     by_cases hh:x.cj=y.cj
     ·rw [if_pos hh]
      refine ⟨_,rfl,?_⟩
      rcases hy with hy | rfl
      ·obtain ⟨n,n1,n2⟩:=hI.last y hy
       rw [← hh] at n1
       rw [n1] at c'
       simp only [Option.getD_some] at c'
       omega
      ·omega
     ·rw [if_neg hh]
      rcases hy with hy | rfl
      ·exact hI.last y hy
      ·exact absurd rfl hh
    ·intro h n hn
     rw [gl] at hn
     by_cases hh:x.cj=h
     ·rw [if_pos hh,Option.some.injEq] at hn
      omega
     ·rw [if_neg hh] at hn
      exact hI.X0 h n hn
    ·intro j y z RQ X1 hy hz
     by_cases q:j=i
     ·subst q
      rw [hx,Option.some.injEq] at hz
      subst hz
      exact wA rfl y RQ hy
     ·exact hI.cl j y z RQ (by omega) hy hz
theorem wy (l:List Model) (hl:l.length≤1000) (e:List ab) (he:EL e):Ok (dR l e) (fun r=>r=0→LG l e):=by
 unfold dR
 by_cases h:(3000:Int) < e.length
 ·rw [if_pos h]
  exact ⟨2,rfl,fun g=>absurd g (by decide)⟩
 rw [if_neg h]
 unfold lS
 refine Ok.NV e.length (fun (m:List (ax×Int)) (i:Int)=>(m,i)) (LI l e) (fun m i h0 h1 hI=>?_) [] ⟨by simp,by simp,by simp,fun h n hn=>(by cases hn),fun j y z h1 h2=>by omega⟩
 show Ok (di l e m i) _
 unfold di
 by_cases h2:i < e.length
 ·rw [if_pos h2]
  refine Ok.idx h0 h2 (fun x hx hm=>?_)
  rw [qK l x hl (he x hm)]
  simp only [Option.bind_some]
  by_cases h3:Gb l x=0
  ·rw [if_neg (fun g=>g h3)]
   by_cases h4:0 < i
   ·rw [if_pos h4,bP (by omega) (by omega)]
    refine Ok.idx (by omega) (by omega) (fun y hy _=>?_)
    rw [zO]
    simp only [Option.bind_some]
    exact xO l e x m i h0 h2 (by omega) hx h3 hI _ (fun hc z _ hz=>by
     rw [hy,Option.some.injEq] at hz
     rw [← hz]
     have:¬ 0≤eO y x:=by simpa using hc
     exact Jz (by omega))
   ·rw [if_neg h4]
    exact xO l e x m i h0 h2 (by omega) hx h3 hI _ (fun _ z hz=>absurd hz h4)
  ·rw [if_pos h3]
   exact ⟨.inr (Gb l x),rfl,.inr ⟨_,rfl,fun g=>absurd g h3⟩⟩
 ·rw [if_neg h2]
  have hie:i=e.length:=by omega
  unfold lR
  have hG:LG l e:=by
   have h1:=hI.ok
   have h2:=hI.up
   rw [List.take_of_length_le (by omega)] at h1 h2
   exact ⟨by omega,h1,h2,fun j y z g1 g2 g3=>hI.cl j y z g1 (by have:=(ew g3).2.1;omega) g2 g3⟩
  by_cases h3:(20:Int) < m.length
  ·rw [if_pos h3]
   exact ⟨.inr 2,rfl,.inr ⟨_,rfl,fun _=>hG⟩⟩
  ·rw [if_neg h3]
   exact ⟨.inr 0,rfl,.inr ⟨_,rfl,fun _=>hG⟩⟩
noncomputable def Bq (l:List Model) (e:List ab):Int:=(dR l e).getD 0
theorem xi (l:List Model) (hl:l.length≤1000) (e:List ab) (he:EL e):dR l e=some (Bq l e):=by
 obtain ⟨r,r1,r2⟩:=wy l hl e he
 unfold Bq
 rw [r1];rfl
theorem Br (l:List Model) (hl:l.length≤1000) (e:List ab) (he:EL e):kH l e=some (Bq l e):=by
 rw [← Cp l hl e he,xi l hl e he]
theorem E4 {l:List Model} (hl:l.length≤1000) {e:List ab} (he:EL e) (h:Bq l e=0):LG l e:=by
 obtain ⟨r,r1,r2⟩:=wy l hl e he
 have:=xi l hl e he
 rw [r1,Option.some.injEq] at this
 exact r2 (by omega)
noncomputable def yh (l:List Model) (e:List ab):Int:=if JY l≠0 then JY l else Bq l e
theorem tN (l:List Model) (hl:l.length≤1000) (hm:∀ m∈l,MB m) (e:List ab) (he:EL e):fM l e=some (yh l e):=by
 unfold fM yh
 rw [tI hm]
 simp only [Option.bind_some]
 by_cases h:JY l≠0
 ·rw [if_pos h,if_pos h]
 ·rw [if_neg h,if_neg h,xi l hl e he]
  rfl
theorem xj {l:List Model} (hl:l.length≤1000) {e:List ab} (he:EL e) (h:yh l e=0):LG l e:=by
 unfold yh at h
 by_cases g:JY l≠0
 ·rw [if_pos g] at h;exact absurd h g
 ·rw [if_neg g] at h;exact E4 hl he h
theorem D0 (a:List ab) (h:a.length≤100000):df a=some a:=by
 unfold df
 rw [qI (by simp;omega)]
 rfl
def xk (e:ab):aX:=⟨⟨e.Device,e.Model,[],⟨0,0,0⟩,[]⟩,e.az,1,[⟨e.Key,e.At,345686400000⟩]⟩
def MD (F:aJ) (e:ab):aJ:=⟨gm F.cx e.Device (F.fa.length:Int),gm F.bW ⟨e.Model,e.az⟩ true,gm F.cX e.Key e.Device,F.fa++[xk e]⟩
theorem FI.born {N:Nat} {F:aJ} (h:FI N F) (e:ab) (hd:bB F.cx e.Device=none) (hk:bB F.cX e.Key=none):FI (N+1) (MD F e):=by
 have QP:∀ (i:Int) (x:aX),idx (F.fa++[xk e]) i=some x→(i=F.fa.length∧x=xk e)∨idx F.fa i=some x:=by
  intro i x hx
  obtain ⟨g0,g1,g2⟩:=ew hx
  by_cases q:i.toNat < F.fa.length
  ·right
   rw [List.getElem?_append_left q] at g2
   unfold idx
   rw [if_pos g0];exact g2
  ·left
   rw [List.getElem?_append_right (by omega)] at g2
   rw [List.length_append,List.length_singleton] at g1
   have:i.toNat - F.fa.length=0:=by omega
   rw [this] at g2
   simp at g2
   exact ⟨by omega,g2.symm⟩
 have hnk:∀ x∈F.fa,x.Device.Key≠e.Device:=fun x hx q=>by
  obtain ⟨j,_,hj⟩:=sn hx
  have:=h.to j x hj
  rw [q,hd] at this;cases this
 constructor
 ·show (F.fa++[xk e]).length≤_
  rw [List.length_append,List.length_singleton];have:=h.len;omega
 ·intro x hx
  rcases List.mem_append.1 hx with hx | hx
  ·have:=h.keys x hx;omega
  ·rw [List.mem_singleton] at hx;subst hx
   show 1≤1∧1≤N+1
   omega
 ·intro x hx
  rcases List.mem_append.1 hx with hx | hx
  ·exact h.tags x hx
  ·rw [List.mem_singleton] at hx;subst hx
   exact ⟨List.Pairwise.nil,by show 0≤20;omega⟩
 ·exact h.sm.set _ _
 ·intro k i hi
  have hi:bB (gm F.cx e.Device (F.fa.length:Int)) k=some i:=hi
  rw [gl] at hi
  by_cases q:e.Device=k
  ·rw [if_pos q,Option.some.injEq] at hi
   subst hi
   exact ⟨xk e,FP _ _,q⟩
  ·rw [if_neg q] at hi
   obtain ⟨x,x1,x2⟩:=h.fr k i hi
   exact ⟨x,KV x1 _,x2⟩
 ·intro i x hx
  show bB (gm F.cx e.Device (F.fa.length:Int)) _=_
  rw [gl]
  rcases QP i x hx with ⟨q1,q2⟩ | q
  ·rw [q2,if_pos (show e.Device=(xk e).Device.Key from rfl),q1]
  ·rw [if_neg (fun g=>hnk x (dV q) g.symm)]
   exact h.to i x q
 ·intro m n
  show (bB (gm F.bW ⟨e.Model,e.az⟩ true) ⟨m,n⟩).getD false=(F.fa++[xk e]).any _
  rw [gl,List.any_append,← h.RO m n]
  by_cases q:(⟨e.Model,e.az⟩:bx)=⟨m,n⟩
  ·rw [if_pos q]
   rw [bx.mk.injEq] at q
   simp [xk,q.1,q.2]
  ·rw [if_neg q]
   rw [bx.mk.injEq] at q
   have:(decide (e.Model=m)&&decide (e.az=n))=false:=by
    rw [Bool.and_eq_false_iff,decide_eq_false_iff_not,decide_eq_false_iff_not]
    by_cases q1:e.Model=m
    ·exact .inr fun q2=>q ⟨q1,q2⟩
    ·exact .inl q1
   simp [xk,this]
 ·intro k d xl
  have xl:bB (gm F.cX e.Key e.Device) k=some d:=xl
  rw [gl] at xl
  by_cases q:e.Key=k
  ·rw [if_pos q,Option.some.injEq] at xl
   exact ⟨xk e,by show xk e∈F.fa++[xk e];simp,by show (1:Int)≠4;decide,q,xl⟩
  ·rw [if_neg q] at xl
   obtain ⟨x,x1,x2⟩:=h.la k d xl
   exact ⟨x,List.mem_append_left _ x1,x2⟩
 ·intro x hx hs
  show bB (gm F.cX e.Key e.Device) _=_
  rw [gl]
  rcases List.mem_append.1 hx with hx | hx
  ·have h1:=h.al x hx hs
   rw [if_neg (fun g=>by rw [g,h1] at hk;cases hk)]
   exact h1
  ·rw [List.mem_singleton] at hx;subst hx
   rw [if_pos (show e.Key=tL (xk e) from rfl)];rfl
theorem Hd {N:Nat} {F:aJ} (h:FI N F) (hN:N≤100000) (e:ab) (hd:bB F.cx e.Device=none):∃ r F',fY F e=some (r,F')∧sg F.cx e F.fa=some (r,F'.cx,F'.fa)∧FI (N+1) F':=by
 have UD:∀ x∈F.cx,∃ z,idx F.fa x.2=some z∧z.Device.Key=x.1:=fun x hx=>h.fr x.1 x.2 ((h.sm.wk).2 hx)
 have ME:∀ R,(F.fa.any (fun x=>decide (x.Device.Model=e.Model)&&decide (x.az=e.az))=true→R=((6:Int),F.cx,F.fa))→(F.fa.any (fun x=>decide (x.Device.Model=e.Model)&&decide (x.az=e.az))=false→lI F.cx e F.fa=some R)→sg F.cx e F.fa=some R:=by
  intro R h1 h2
  unfold sg
  rw [hd]
  show wY F.cx e F.fa=_
  unfold wY
  refine xb (fun x (y:Unit)=>pq F.cx e F.fa x) (fun y:Unit=>lI F.cx e F.fa) F.cx () _ (fun done _=>∀ x∈done,∀ z,idx F.fa x.2=some z→(decide (z.Device.Model=e.Model)&&decide (z.az=e.az))=false) (fun x hx=>by cases hx) ?_ ?_
  ·intro done x rest s hp hi
   obtain ⟨z,z1,_⟩:=UD x (hp.mem_iff.1 (by simp))
   unfold pq ue
   rw [z1]
   simp only [Option.bind_some]
   by_cases hq:(decide (z.Device.Model=e.Model)&&decide (z.az=e.az))=true
   ·right
    rw [if_pos hq,h1 (List.any_eq_true.2 ⟨z,dV z1,hq⟩)]
    rfl
   ·left
    rw [if_neg hq]
    refine ⟨(),rfl,fun x' Pc z' UG=>?_⟩
    rw [List.mem_append,List.mem_singleton] at Pc
    rcases Pc with Pc | rfl
    ·exact hi x' Pc z' UG
    ·rw [z1,Option.some.injEq] at UG
     rw [← UG];simpa using hq
  ·intro p s hp hi
   refine h2 ?_
   rw [List.any_eq_false]
   intro z hz
   obtain ⟨j,_,hj⟩:=sn hz
   have:=hi (z.Device.Key,(j:Int)) (hp.mem_iff.2 ((h.sm.wk).1 (h.to j z hj))) z hj
   rw [this];simp
 unfold fY qn A1
 simp only [Option.bind_some]
 rw [h.RO]
 by_cases hs:F.fa.any (fun x=>decide (x.Device.Model=e.Model)&&decide (x.az=e.az))=true
 ·rw [if_pos hs]
  exact ⟨6,F,rfl,ME _ (fun _=>rfl) (fun q=>by rw [hs] at q;cases q),h.more⟩
 rw [if_neg hs]
 have wj:F.fa.any (fun x=>decide (x.Device.Model=e.Model)&&decide (x.az=e.az))=false:=by simpa using hs
 have hf:∀ R,lI F.cx e F.fa=some R→sg F.cx e F.fa=some R:=fun R hR=>ME R (fun q=>absurd q hs) (fun _=>hR)
 by_cases hk:(bB F.cX e.Key).isSome=true
 ·rw [if_pos hk]
  refine ⟨13,F,rfl,hf _ ?_,h.more⟩
  unfold lI
  rw [zM h hN]
  simp only [Option.bind_some]
  rw [if_pos hk]
 ·rw [if_neg hk,F9 h]
  simp only [Option.bind_some]
  refine ⟨0,MD F e,rfl,hf _ ?_,h.born e hd (by simpa using hk)⟩
  unfold lI
  rw [zM h hN]
  simp only [Option.bind_some]
  rw [if_neg hk,F9 h]
  rfl
theorem E5 {α:Type} {l:List α} {i:Int} {x:α} (h:idx l i=some x):l.set i.toNat x=l:=by
 obtain ⟨h0,h1,h2⟩:=ew h
 rw [List.getElem?_eq_some_iff] at h2
 obtain ⟨h3,h4⟩:=h2
 rw [← h4,List.set_getElem_self]
def LC (N:Nat) (F:aJ) (a:Option (Int×aJ)) (b:Option (Int×(List (ax×Int))×(List aX))):Prop:=
 ∃ (r:Int) (F':aJ),a=some (r,F')∧b=some (r,F'.cx,F'.fa)∧FI (N+1) F'
theorem MF (L:List Term) (fn:Term→Option Bool) (p:Term→Bool) (hf:∀ x,fn x=some (p x)) (hl:L.length≤1000000):cV L fn=some (L.any p):=
 nX L fn p (fun x _=>hf x) (by omega)
theorem E6 {N:Nat} {F:aJ} (h:FI N F) (hN:N≤100000) (e:ab) {i:Int} {x:aX} (hx:idx F.fa i=some x) (hs:x.State≠4) (hd:x.Device.Key=e.Device):
 LC N F ((gM F x e).bind fun v6=>some (v6.1,(⟨F.cx,F.bW,v6.2.1.cX,F.fa.set i.toNat v6.2.2⟩:aJ))) ((tt F.cx i e F.fa).bind fun v17=>some (v17.1,F.cx,v17.2)):=by
 have Ed:=dV hx
 have hk:=h.keys x Ed
 obtain ⟨A,t,t1,t2,t3,t4,t5⟩:=xh x hk.1 (by omega)
 have pz:(⟨F.cx,F.bW,F.cX,F.fa.set i.toNat x⟩:aJ)=F:=by rw [E5 hx]
 unfold gM tt
 rw [hx]
 simp only [Option.bind_some]
 rw [t4]
 simp only [Option.bind_some]
 by_cases h3:x.State=3
 ·rw [if_pos h3,if_pos h3]
  exact ⟨11,F,congrArg some (Prod.ext rfl pz),rfl,h.more⟩
 rw [if_neg h3,if_neg h3,MF x.aY (fun y0=>some (gU y0 e)) (fun y=>decide (y.Key=e.Key)) (fun y=>rfl) (by omega),MF x.aY (fun y0=>some (qu y0 e)) (fun y=>decide (y.Key=e.Key)) (fun y=>rfl) (by omega)]
 simp only [Option.bind_some]
 by_cases h4:x.aY.any (fun y=>decide (y.Key=e.Key))=true
 ·rw [if_pos h4,if_pos h4]
  exact ⟨6,F,congrArg some (Prod.ext rfl pz),rfl,h.more⟩
 rw [if_neg h4,if_neg h4,zM h hN]
 unfold A1
 simp only [Option.bind_some]
 by_cases h5:(bB F.cX e.Key).isSome=true
 ·rw [if_pos h5,if_pos h5]
  exact ⟨13,F,congrArg some (Prod.ext rfl pz),rfl,h.more⟩
 rw [if_neg h5,if_neg h5]
 by_cases h6:e.At < t.gn
 ·rw [if_pos h6,if_pos h6]
  exact ⟨7,F,congrArg some (Prod.ext rfl pz),rfl,h.more⟩
 rw [if_neg h6,if_neg h6,qI (by simp;omega)]
 simp only [Option.bind_some]
 have FR:bB F.cX e.Key=none:=by simpa using h5
 refine ⟨0,_,rfl,?_,?_⟩
 ·simp only [List.set_set]
 ·have Fz:tL (⟨x.Device,x.az,x.State,x.aY.set (aU ((x.aY.length:Int) - (1:Int))).toNat (⟨t.Key,t.gn,min t.To e.aW⟩:Term)++[(⟨e.Key,e.At,(345686400000:Int)⟩:Term)]⟩:aX)=e.Key:=Ha _ (x.aY.set (aU ((x.aY.length:Int) - (1:Int))).toNat (⟨t.Key,t.gn,min t.To e.aW⟩:Term)) (⟨e.Key,e.At,(345686400000:Int)⟩:Term) rfl
  refine h.Kk (x':=(⟨x.Device,x.az,x.State,x.aY.set (aU ((x.aY.length:Int) - (1:Int))).toNat (⟨t.Key,t.gn,min t.To e.aW⟩:Term)++[(⟨e.Key,e.At,(345686400000:Int)⟩:Term)]⟩:aX)) hx hs rfl rfl rfl (h.tags x Ed) ?_ ?_ ?_ ?_
  ·simp only [List.length_append,List.length_set,List.length_singleton];omega
  ·intro k d xl
   rw [gl] at xl
   rw [Fz]
   by_cases q:e.Key=k
   ·rw [if_pos q,Option.some.injEq] at xl
    exact .inl ⟨q.symm,hs,by rw [← xl];exact hd.symm⟩
   ·rw [if_neg q,nY] at xl
    by_cases q2:t.Key=k
    ·rw [if_pos q2] at xl;cases xl
    ·rw [if_neg q2] at xl
     exact .inr ⟨fun g=>q2 (by rw [t2];exact g.symm),xl⟩
  ·intro _
   rw [Fz,gl,if_pos rfl]
   exact congrArg some hd.symm
  ·intro k d UH xl
   rw [gl,if_neg (fun q=>by rw [q,xl] at FR;cases FR),nY,if_neg (fun q=>UH (by rw [← q,t2]))]
   exact xl
def sE (e:ab) (t:Term):Term:=⟨t.Key,t.gn,min t.To (max t.gn e.At)⟩
def yi (e:ab) (ks:List Term) (n:Nat):List Term:=(ks.take n).map (sE e)++ks.drop n
theorem D2 (e:ab) (ks:List Term) (n:Nat) (h:n < ks.length):idx (yi e ks n) (n:Int)=some ks[n]:=by
 unfold idx yi
 rw [if_pos (by omega),Int.toNat_natCast,List.getElem?_append_right (by simp;omega)]
 simp only [List.length_map,List.length_take]
 rw [show n - min n ks.length=0 by omega,List.getElem?_drop,Nat.add_zero,List.getElem?_eq_getElem h]
theorem D3 (e:ab) (ks:List Term) (n:Nat) (h:n < ks.length):(yi e ks n).set n (sE e ks[n])=yi e ks (n+1):=by
 unfold yi
 have hl:((ks.take n).map (sE e)).length=n:=by simp;omega
 rw [List.set_append_right _ _ (by omega),hl,Nat.sub_self,List.drop_eq_getElem_cons h,List.set_cons_zero,List.take_add_one,List.getElem?_eq_getElem h,List.map_append]
 simp only [Option.toList_some,List.map_cons,List.map_nil,List.append_assoc,List.singleton_append]
theorem Cq {α:Type} {l:List α} {i:Int} {x y:α} (h:idx l i=some x):idx (l.set i.toNat y) i=some y:=by
 obtain ⟨h0,h1,h2⟩:=ew h
 unfold idx
 rw [if_pos h0,List.getElem?_set,if_pos rfl,if_pos (by omega)]
theorem E7 {F:aJ} (e:ab) {i:Int} {x:aX} (hx:idx F.fa i=some x) (hl:x.aY.length≤1000000) (t:Term):gN F e i x t F.fa 0=some (0,⟨F.cx,F.bW,o3 F.cX t.Key,F.fa.set i.toNat ⟨x.Device,x.az,4,x.aY.map (sE e)⟩⟩):=by
 have key:∀ (k n:Nat),n+k=x.aY.length→gN F e i x t (F.fa.set i.toNat ⟨x.Device,x.az,x.State,yi e x.aY n⟩) (n:Int)=some (0,⟨F.cx,F.bW,o3 F.cX t.Key,F.fa.set i.toNat ⟨x.Device,x.az,4,x.aY.map (sE e)⟩⟩):=by
  intro k
  induction k with
  | zero=>
    intro n hn
    unfold gN
    refine wx (o:=some _) ?_
    show dj F e i x t _ (n:Int)=_
    unfold dj lT
    rw [if_neg (by omega),Cq hx]
    simp only [Option.bind_some,List.set_set]
    have:yi e x.aY n=x.aY.map (sE e):=by
     unfold yi
     rw [List.take_of_length_le (by omega),List.drop_eq_nil_of_le (by omega),List.append_nil]
    rw [this]
  | succ k ih=>
    intro n hn
    rw [← ih (n+1) (by omega)]
    unfold gN
    refine yu ?_
    show dj F e i x t _ (n:Int)=_
    unfold dj
    rw [if_pos (by omega),Cq hx]
    simp only [Option.bind_some,List.set_set]
    rw [D2 e x.aY n (by omega)]
    simp only [Option.bind_some]
    rw [bP (by omega) (by omega)]
    have:=D3 e x.aY n (by omega)
    unfold sE at this
    rw [Int.toNat_natCast,this]
    rfl
 have:=key x.aY.length 0 (by omega)
 have h0:F.fa.set i.toNat ⟨x.Device,x.az,x.State,yi e x.aY 0⟩=F.fa:=E5 hx
 rw [h0] at this
 exact this
theorem E8 {F:aJ} (e:ab) {i:Int} {x:aX} (hx:idx F.fa i=some x) (hl:x.aY.length≤1000000):oH F.cx e i x (F.fa.set i.toNat ⟨x.Device,x.az,4,x.aY⟩) 0=some (0,F.cx,F.fa.set i.toNat ⟨x.Device,x.az,4,x.aY.map (sE e)⟩):=by
 have key:∀ (k n:Nat),n+k=x.aY.length→oH F.cx e i x (F.fa.set i.toNat ⟨x.Device,x.az,4,yi e x.aY n⟩) (n:Int)=some (0,F.cx,F.fa.set i.toNat ⟨x.Device,x.az,4,x.aY.map (sE e)⟩):=by
  intro k
  induction k with
  | zero=>
    intro n hn
    unfold oH
    refine wx (o:=some _) ?_
    show jP F.cx e i x _ (n:Int)=_
    unfold jP lg lf k9 k8 k7
    rw [if_neg (by omega)]
    have:yi e x.aY n=x.aY.map (sE e):=by
     unfold yi
     rw [List.take_of_length_le (by omega),List.drop_eq_nil_of_le (by omega),List.append_nil]
    rw [this]
  | succ k ih=>
    intro n hn
    rw [← ih (n+1) (by omega)]
    unfold oH
    refine yu ?_
    show jP F.cx e i x _ (n:Int)=_
    unfold jP
    rw [if_pos (by omega),Cq hx]
    simp only [Option.bind_some,List.set_set]
    rw [D2 e x.aY n (by omega)]
    simp only [Option.bind_some]
    rw [bP (by omega) (by omega)]
    have:=D3 e x.aY n (by omega)
    unfold sE at this
    rw [Int.toNat_natCast,this]
    rfl
 exact key x.aY.length 0 (by omega)
theorem Cr {N:Nat} {F:aJ} (h:FI N F) (e:ab) {i:Int} {x:aX} (hx:idx F.fa i=some x) (hs:x.State≠4) (hk:e.Kind=2∨e.Kind=3∨e.Kind=5∨e.Kind=7∨e.Kind=8):
 ∃ (r:Int) (x':aX),jj x e=(r,x')∧x'.State≠4∧x'.Device.Key=x.Device.Key∧x'.Device.Model=x.Device.Model∧x'.az=x.az∧(TS x'.Device.bn∧x'.Device.bn.length≤20)∧x'.aY=x.aY∧
   ((if e.Kind=(2:Int) then
    if x.State≠(1:Int) then
     some ((11:Int),F.cx,F.fa)
    else
     k7 F.cx (F.fa.set i.toNat (⟨(⟨x.Device.Key,x.Device.Model,e.aK,x.Device.ak,x.Device.bn⟩:gh),x.az,(2:Int),x.aY⟩:aX))
     else
      if e.Kind=(3:Int) then
       if x.Device.aK=([]:ax) then
        some ((11:Int),F.cx,F.fa)
       else
        k8 F.cx (F.fa.set i.toNat (⟨(⟨x.Device.Key,x.Device.Model,([]:ax),x.Device.ak,[]⟩:gh),x.az,(1:Int),x.aY⟩:aX))
      else
       if e.Kind=(5:Int) then
        if x.Device.ak=e.ak then
         some ((6:Int),F.cx,F.fa)
        else
         k9 F.cx (F.fa.set i.toNat (⟨(⟨x.Device.Key,x.Device.Model,x.Device.aK,e.ak,x.Device.bn⟩:gh),x.az,x.State,x.aY⟩:aX))
       else
        if e.Kind=(7:Int) then
         if x.State≠(2:Int) then
          some ((11:Int),F.cx,F.fa)
         else
          lf F.cx (F.fa.set i.toNat (⟨x.Device,x.az,(3:Int),x.aY⟩:aX))
        else
         if x.State≠(3:Int) then
          some ((11:Int),F.cx,F.fa)
         else
          lg F.cx (F.fa.set i.toNat (⟨x.Device,x.az,(2:Int),x.aY⟩:aX)))=some (r,F.cx,F.fa.set i.toNat x')):=by
 have ht:=h.tags x (dV hx)
 unfold jj jE jD jC jB jA lg lf k9 k8 k7
 have nO:=E5 hx
 rcases hk with hk | hk | hk | hk | hk<;>simp only [hk,if_true,show ((3:Int)=2)=False by simp,show ((5:Int)=2)=False by simp,show ((5:Int)=3)=False by simp,show ((7:Int)=2)=False by simp,show ((7:Int)=3)=False by simp,show ((7:Int)=5)=False by simp,show ((8:Int)=2)=False by simp,show ((8:Int)=3)=False by simp,show ((8:Int)=5)=False by simp,show ((8:Int)=7)=False by simp,if_false]
 ·by_cases c:x.State≠1
  ·rw [if_pos c,if_pos c]
   exact ⟨11,x,rfl,hs,rfl,rfl,rfl,ht,rfl,by rw [nO]⟩
  ·rw [if_neg c,if_neg c]
   exact ⟨0,_,rfl,by simp,rfl,rfl,rfl,ht,rfl,rfl⟩
 ·by_cases c:x.Device.aK=([]:ax)
  ·rw [if_pos c,if_pos c]
   exact ⟨11,x,rfl,hs,rfl,rfl,rfl,ht,rfl,by rw [nO]⟩
  ·rw [if_neg c,if_neg c]
   exact ⟨0,_,rfl,by simp,rfl,rfl,rfl,⟨List.Pairwise.nil,by simp⟩,rfl,rfl⟩
 ·by_cases c:x.Device.ak=e.ak
  ·rw [if_pos c,if_pos c]
   exact ⟨6,x,rfl,hs,rfl,rfl,rfl,ht,rfl,by rw [nO]⟩
  ·rw [if_neg c,if_neg c]
   exact ⟨0,_,rfl,hs,rfl,rfl,rfl,ht,rfl,rfl⟩
 ·by_cases c:x.State≠2
  ·rw [if_pos c,if_pos c]
   exact ⟨11,x,rfl,hs,rfl,rfl,rfl,ht,rfl,by rw [nO]⟩
  ·rw [if_neg c,if_neg c]
   exact ⟨0,_,rfl,by simp,rfl,rfl,rfl,ht,rfl,rfl⟩
 ·by_cases c:x.State≠3
  ·rw [if_pos c,if_pos c]
   exact ⟨11,x,rfl,hs,rfl,rfl,rfl,ht,rfl,by rw [nO]⟩
  ·rw [if_neg c,if_neg c]
   exact ⟨0,_,rfl,by simp,rfl,rfl,rfl,ht,rfl,rfl⟩
theorem He {N:Nat} {F:aJ} (h:FI N F) (hN:N≤100000) (e:ab) (hk:1≤e.Kind∧e.Kind≤9):LC N F (eN F e) (ry F.cx e F.fa):=by
 unfold eN ry
 cases hd:bB F.cx e.Device with
 | none=>
   show LC N F (if e.Kind=1 then _ else _) (if e.Kind=1 then _ else _)
   by_cases c:e.Kind=1
   ·rw [if_pos c,if_pos c]
    obtain ⟨r,F',b1,b2,b3⟩:=Hd h hN e hd
    rw [b1,b2]
    exact ⟨r,F',rfl,rfl,b3⟩
   ·rw [if_neg c,if_neg c]
    exact ⟨8,F,rfl,rfl,h.more⟩
 | some i=>
   obtain ⟨x,hx,hxd⟩:=h.fr _ _ hd
   have Ed:=dV hx
   have Fy:=h.keys x Ed
   show LC N F (if e.Kind=1 then _ else _) (if e.Kind=1 then _ else _)
   by_cases c:e.Kind=1
   ·rw [if_pos c,if_pos c,hx]
    refine ⟨6,F,rfl,?_,h.more⟩
    unfold sg
    rw [hd];rfl
   rw [if_neg c,if_neg c,hx]
   simp only [Option.bind_some]
   by_cases hs:x.State=4
   ·rw [if_pos hs,if_pos hs]
    exact ⟨11,F,rfl,rfl,h.more⟩
   rw [if_neg hs,if_neg hs]
   by_cases c4:e.Kind=4
   ·rw [if_pos c4,if_neg (by omega),if_neg (by omega),if_pos c4]
    exact E6 h hN e hx hs hxd
   rw [if_neg c4]
   by_cases c6:e.Kind=6
   ·rw [if_pos c6,if_neg (by omega),if_neg (by omega),if_neg c4,if_neg (by omega),if_pos c6]
    obtain ⟨r,T,t1,t2,t3,t4⟩:=DX x e (h.tags x Ed).1 (h.tags x Ed).2
    rw [t1,t2]
    exact ⟨r,_,rfl,rfl,h.QO hx hs (x':=wq x T) hs rfl rfl rfl ⟨t3,t4⟩ rfl⟩
   rw [if_neg c6]
   by_cases c9:e.Kind=9
   ·rw [if_pos c9,if_neg (by omega),if_neg (by omega),if_neg c4,if_neg (by omega),if_neg c6,if_neg (by omega),if_neg (by omega)]
    obtain ⟨A,t,t1,t2,t3,t4,t5⟩:=xh x Fy.1 (by omega)
    rw [t4]
    simp only [Option.bind_some]
    rw [E7 e hx (by omega) t,E8 e hx (by omega)]
    refine ⟨0,_,rfl,rfl,h.Kk (x':=(⟨x.Device,x.az,4,x.aY.map (sE e)⟩:aX)) hx hs rfl rfl rfl (h.tags x Ed) (by simp only [List.length_map];omega) (fun k d xl=>?_) (fun q=>absurd rfl q) (fun k d UH xl=>?_)⟩
    ·rw [nY] at xl
     by_cases q:t.Key=k
     ·rw [if_pos q] at xl;cases xl
     ·rw [if_neg q] at xl
      exact .inr ⟨fun g=>q (by rw [t2];exact g.symm),xl⟩
    ·rw [nY,if_neg (fun q=>UH (by rw [← q,t2]))]
     exact xl
   rw [if_neg c9,if_neg c4,if_neg c6]
   obtain ⟨r,x',g1,g2,g3,g4,g5,g6,g7,g8⟩:=Cr h e hx hs (by omega)
   rw [g1]
   refine ⟨r,_,rfl,?_,h.QO hx hs (x':=x') g2 g3 g4 g5 g6 g7⟩
   rw [← g8]
   by_cases c2:e.Kind=2
   ·rw [if_pos c2,if_pos c2]
   ·rw [if_neg c2,if_neg c2]
    by_cases c3:e.Kind=3
    ·rw [if_pos c3,if_pos c3]
    ·rw [if_neg c3,if_neg c3]
     by_cases c5:e.Kind=5
     ·rw [if_pos c5,if_pos c5]
     ·rw [if_neg c5,if_neg c5]
      by_cases c7:e.Kind=7
      ·rw [if_pos c7,if_pos c7]
      ·rw [if_neg c7,if_neg c7,if_pos (by omega)]
noncomputable def eW (F:aJ) (e:ab):Int×aJ:=(eN F e).getD (0,F)
theorem zP {N:Nat} {F:aJ} (h:FI N F) (hN:N≤100000) (e:ab) (hk:1≤e.Kind∧e.Kind≤9):eN F e=some (eW F e)∧ry F.cx e F.fa=some ((eW F e).1,(eW F e).2.cx,(eW F e).2.fa)∧FI (N+1) (eW F e).2:=by
 obtain ⟨r,F',h1,h2,h3⟩:=He h hN e hk
 have:eW F e=(r,F'):=by unfold eW;rw [h1];rfl
 rw [this]
 exact ⟨h1,h2,h3⟩
noncomputable def Bs (F:aJ) (rs:List bd) (i:Int):List ab→aJ×List bd
 | []=>(F,rs)
 | x :: r=>Bs (eW F x).2 (if (eW F x).1≠0 then rs++[⟨i,(eW F x).1⟩] else rs) (i+1) r
theorem D4 (x:ab):∀ (t:List ab) (F:aJ) (rs:List bd) (i:Int),Bs F rs i (t++[x])=((eW (Bs F rs i t).1 x).2,if (eW (Bs F rs i t).1 x).1≠0 then (Bs F rs i t).2++[⟨i+t.length,(eW (Bs F rs i t).1 x).1⟩] else (Bs F rs i t).2)
 | [],F,rs,i=>by simp [Bs]
 | y :: t,F,rs,i=>by
   have:=D4 x t (eW F y).2 (if (eW F y).1≠0 then rs++[⟨i,(eW F y).1⟩] else rs) (i+1)
   rw [List.cons_append]
   show Bs _ _ _ (t++[x])=_
   rw [this]
   show _=((eW (Bs _ _ _ t).1 x).2,_)
   rw [List.length_cons,show i+((t.length+1:Nat):Int)=i+1+t.length by omega]
   rfl
abbrev uk (l:List ab):Prop:=∀ x∈l,1≤x.Kind∧x.Kind≤9
theorem JA:∀ (t:List ab) (N:Nat) (F:aJ) (rs:List bd) (i:Int),FI N F→N+t.length≤100000→uk t→(∀ r∈rs,r.Event < i)→FI (N+t.length) (Bs F rs i t).1∧(∀ r∈(Bs F rs i t).2,r.Event < i+t.length)∧(Bs F rs i t).2.length≤rs.length+t.length
 | [],N,F,rs,i,h,_,_,hr=>⟨h,by simpa [Bs] using hr,by simp [Bs]⟩
 | x :: t,N,F,rs,i,h,hN,hk,hr=>by
   rw [List.length_cons] at hN
   obtain ⟨_,_,h3⟩:=zP h (by omega) x (hk x (by simp))
   have:=JA t (N+1) (eW F x).2 (if (eW F x).1≠0 then rs++[⟨i,(eW F x).1⟩] else rs) (i+1) h3 (by omega) (fun y hy=>hk y (by simp [hy])) (fun r Ku=>by
    split at Ku
    ·rcases List.mem_append.1 Ku with g | g
     ·have:=hr r g;omega
     ·rw [List.mem_singleton] at g;subst g;show i < i+1;omega
    ·have:=hr r Ku;omega)
   obtain ⟨a1,a2,a3⟩:=this
   refine ⟨by rw [List.length_cons,show N+(t.length+1)=N+1+t.length by omega];exact a1,fun r Ku=>?_,?_⟩
   ·have:=a2 r Ku
    rw [List.length_cons];push_cast;omega
   ·refine Nat.le_trans a3 ?_
    rw [List.length_cons]
    split
    ·rw [List.length_append,List.length_singleton];omega
    ·omega
theorem D5 (l:List ab) (hl:l.length≤90000) (hk:uk l):∀ (k:Nat) (i:Nat) (N:Nat) (F:aJ) (rs:List bd),i+k=l.length→FI N F→N≤i→rs.length≤i→
 lB l F.cx F.fa F.bW F.cX rs i=some (Bs F rs i (l.drop i))∧ov l F.fa F.cx rs i=some (((Bs F rs i (l.drop i)).1.cx,(Bs F rs i (l.drop i)).1.fa),(Bs F rs i (l.drop i)).2):=by
 intro k
 induction k with
 | zero=>
   intro i N F rs hi hF _ _
   rw [List.drop_eq_nil_of_le (by omega)]
   constructor
   ·unfold lB
    refine wx (o:=some _) ?_
    show eP l F.cx F.fa F.bW F.cX rs i=_
    unfold eP
    rw [if_neg (by omega)]
    rfl
   ·unfold ov
    refine wx (o:=some _) ?_
    show ib l F.fa F.cx rs i=_
    unfold ib
    rw [if_neg (by omega)]
    rfl
 | succ k ih=>
   intro i N F rs hi hF hN hr
   obtain ⟨x,x1,x2,x3⟩:=jl l (i:=(i:Int)) (by omega) (by omega)
   rw [show ((i:Int)).toNat=i by omega,show ((i:Int)+1).toNat=i+1 by omega] at x3
   rw [x3]
   obtain ⟨g1,g2,g3⟩:=zP hF (by omega) x (hk x x2)
   have QZ:(if (eW F x).1≠0 then rs++[(⟨(i:Int),(eW F x).1⟩:bd)] else rs).length≤i+1:=by
    split
    ·rw [List.length_append,List.length_singleton];omega
    ·omega
   obtain ⟨i1,i2⟩:=ih (i+1) (N+1) (eW F x).2 (if (eW F x).1≠0 then rs++[(⟨(i:Int),(eW F x).1⟩:bd)] else rs) (by omega) g3 (by omega) QZ
   rw [show ((i+1:Nat):Int)=(i:Int)+1 by omega] at i1 i2
   constructor
   ·refine Eq.trans ?_ i1
    unfold lB
    refine yu ?_
    show eP l F.cx F.fa F.bW F.cX rs i=_
    unfold eP jF
    rw [if_pos (by omega),x1]
    simp only [Option.bind_some]
    rw [show (⟨F.cx,F.bW,F.cX,F.fa⟩:aJ)=F from rfl,g1]
    simp only [Option.bind_some]
    rw [bP (by omega) (by omega)]
    by_cases c:(eW F x).1≠0
    ·rw [if_pos c,if_pos c,qI (by simp;omega)];rfl
    ·rw [if_neg c,if_neg c]
   ·refine Eq.trans ?_ i2
    unfold ov
    refine yu ?_
    show ib l F.fa F.cx rs i=_
    unfold ib mf
    rw [if_pos (by omega),x1]
    simp only [Option.bind_some]
    rw [g2]
    simp only [Option.bind_some]
    rw [bP (by omega) (by omega)]
    by_cases c:(eW F x).1≠0
    ·rw [if_pos c,if_pos c,qI (by simp;omega)];rfl
    ·rw [if_neg c,if_neg c]
noncomputable def fw (l:List ab):aJ×List bd:=Bs ⟨[],[],[],[]⟩ [] 0 l
theorem qA (l:List ab) (hl:l.length≤90000) (hk:uk l):ma l=some (fw l)∧pQ l=some (((fw l).1.cx,(fw l).1.fa),(fw l).2):=by
 have:=D5 l hl hk l.length 0 0 ⟨[],[],[],[]⟩ [] (by omega) FI.start (Nat.le_refl _) (by simp)
 rw [List.drop_zero] at this
 exact this
theorem MG (l:List ab) (hl:l.length≤90000) (hk:uk l):FI l.length (fw l).1∧(∀ r∈(fw l).2,r.Event < l.length)∧(fw l).2.length≤l.length:=by
 obtain ⟨a,b,c⟩:=JA l 0 ⟨[],[],[],[]⟩ [] 0 FI.start (by omega) hk (by simp)
 unfold fw
 exact ⟨by simpa using a,fun r hr=>by have:=b r hr;omega,by simpa using c⟩
theorem LD (l:List ab) (x:ab):fw (l++[x])=((eW (fw l).1 x).2,if (eW (fw l).1 x).1≠0 then (fw l).2++[⟨(l.length:Int),(eW (fw l).1 x).1⟩] else (fw l).2):=by
 unfold fw
 rw [D4,Int.zero_add]
noncomputable def Bt (m:List (ax×Int)) (x:ab):List (ax×Int):=gm m x.cj (max ((bB m x.cj).getD 0) x.No)
noncomputable def JZ (e:List ab):List (ax×Int):=e.foldl Bt []
def Az (h:ax) (n:Int) (e:List ab):Int:=e.foldl (fun n x=>if x.cj=h then max n x.No else n) n
theorem Cs (h:ax):∀ (e:List ab) (m:List (ax×Int)),bB (e.foldl Bt m) h=if (∃ x∈e,x.cj=h) then some (Az h ((bB m h).getD 0) e) else bB m h
 | [],m=>by simp
 | x :: r,m=>by
   have ih:=Cs h r (Bt m x)
   rw [List.foldl_cons,ih]
   unfold Bt Az
   rw [gl,List.foldl_cons]
   by_cases c:x.cj=h
   ·subst c
    rw [if_pos rfl,if_pos rfl,if_pos (show ∃ y∈x :: r,y.cj=x.cj from ⟨x,by simp,rfl⟩)]
    by_cases g:∃ y∈r,y.cj=x.cj
    ·rw [if_pos g];rfl
    ·rw [if_neg g]
     have:∀ (r:List ab) (n:Int),(¬ ∃ y∈r,y.cj=x.cj)→r.foldl (fun n y=>if y.cj=x.cj then max n y.No else n) n=n:=by
      intro r
      induction r with
      | nil=>intro n _;rfl
      | cons y r ih=>
        intro n hn
        rw [List.foldl_cons,if_neg (fun q=>hn ⟨y,by simp,q⟩)]
        exact ih n (fun ⟨z,h1,h2⟩=>hn ⟨z,by simp [h1],h2⟩)
     rw [this r _ g]
   ·rw [if_neg c,if_neg c]
    by_cases g:∃ y∈r,y.cj=h
    ·rw [if_pos g,if_pos (by obtain ⟨y,h1,h2⟩:=g;exact ⟨y,by simp [h1],h2⟩)];try rfl
    ·rw [if_neg g,if_neg]
     rintro ⟨y,h1,h2⟩
     rcases List.mem_cons.1 h1 with rfl | h1
     ·exact c h2
     ·exact g ⟨y,h1,h2⟩
theorem N1 (e:List ab):SM (JZ e):=by
 have:∀ (e:List ab) (m:List (ax×Int)),SM m→SM (e.foldl Bt m):=by
  intro e
  induction e with
  | nil=>intro m h;exact h
  | cons x r ih=>intro m h;exact ih _ (h.set _ _)
 exact this e [] SM.nil
theorem JB (e:List ab) (h:e.length≤100000):mZ e=some (JZ e):=by
 unfold mZ sw
 refine zG e (fun (m:List (ax×Int)) (i:Int)=>(m,i)) _ Bt (fun _ _=>True) (fun m=>some m) ?_ ?_ [] trivial
 ·intro m i x h0 h1 hx _
  show fB e m i=_∧_
  unfold fB qn
  rw [if_pos h1,hx]
  simp only [Option.bind_some]
  rw [bP (by omega) (by omega)]
  exact ⟨rfl,trivial⟩
 ·intro m _
  show fB e m _=_
  unfold fB
  rw [if_neg (by omega)]
theorem wz {l:List Model} {x:ab} (h:Gb l x=0):x.aO≤1000000000∧1≤x.Kind∧x.Kind≤9:=by
 unfold Gb at h
 by_cases h1:nZ x.cj=false
 ·rw [if_pos h1] at h;exact absurd h (by decide)
 rw [if_neg h1] at h
 by_cases h2:(x.No < 1∨3000 < x.No)∨(x.aO < x.No∨1000000000 < x.aO)∨(x.At < 0∨345686399999 < x.At)
 ·rw [if_pos h2] at h;exact absurd h (by decide)
 rw [if_neg h2] at h
 by_cases h3:x.Kind < 1∨9 < x.Kind
 ·rw [if_pos h3] at h;exact absurd h (by decide)
 omega
theorem LG.kinds {l:List Model} {e:List ab} (h:LG l e):uk e:=fun x hx=>(wz (h.ok x hx)).2
theorem D6 (h:ax):∀ (e:List ab) (n:Int),(¬ ∃ x∈e,x.cj=h)→Az h n e=n
 | [],n,_=>rfl
 | y :: r,n,hn=>by
   unfold Az
   rw [List.foldl_cons,if_neg (fun q=>hn ⟨y,by simp,q⟩)]
   exact D6 h r n (fun ⟨z,h1,h2⟩=>hn ⟨z,by simp [h1],h2⟩)
theorem LF (e:List ab) (h:ax):(bB (JZ e) h).getD 0=Az h 0 e:=by
 unfold JZ
 rw [Cs]
 by_cases c:∃ x∈e,x.cj=h
 ·rw [if_pos c];rfl
 ·rw [if_neg c,D6 h e 0 c];rfl
theorem Ct (h:ax):∀ (e:List ab) (n:Int),e.foldl (fun n y=>if y.cj=h then max n (y.No+1) else n) (n+1)=Az h n e+1
 | [],n=>rfl
 | y :: r,n=>by
   unfold Az
   rw [List.foldl_cons,List.foldl_cons]
   by_cases c:y.cj=h
   ·rw [if_pos c,if_pos c,show max (n+1) (y.No+1)=max n y.No+1 by omega]
    exact Ct h r _
   ·rw [if_neg c,if_neg c]
    exact Ct h r n
theorem Gc (h:ax):∀ (e:List ab) (n:Int),0≤n∧n≤3000→(∀ x∈e,1≤x.No∧x.No≤3000)→0≤Az h n e∧Az h n e≤3000
 | [],n,hn,_=>hn
 | y :: r,n,hn,hx=>by
   unfold Az
   rw [List.foldl_cons]
   have:=hx y (by simp)
   refine Gc h r _ ?_ (fun x Pc=>hx x (by simp [Pc]))
   split<;>omega
theorem xP (K:Int):∀ (e:List ab) (c:Int),(∀ y∈e,y.aO≤K)→c≤K+1→e.foldl (fun c y=>max c (y.aO+1)) c≤K+1
 | [],c,_,hc=>hc
 | y :: r,c,hy,hc=>by
   rw [List.foldl_cons]
   have:=hy y (by simp)
   exact xP K r _ (fun z hz=>hy z (by simp [hz])) (by omega)
theorem JC {l:List Model} {e:List ab} (h:LG l e) {z:ab} (hz:idx e ((e.length:Int) - 1)=some z):∀ y∈e,y.aO≤z.aO:=by
 have key:∀ (k:Nat) (j:Int) (y:ab),j+k=(e.length:Int) - 1→idx e j=some y→y.aO≤z.aO:=by
  intro k
  induction k with
  | zero=>
    intro j y hj hy
    rw [show j=(e.length:Int) - 1 by omega,hz,Option.some.injEq] at hy
    rw [hy];exact Int.le_refl _
  | succ k ih=>
    intro j y hj hy
    have h0:=(ew hy).1
    obtain ⟨y',y1,_⟩:=jl e (i:=j+1) (by omega) (by omega)
    have h1:=ih (j+1) y' (by omega) y1
    have h2:=h.cl (j+1) y y' (by omega) (by rw [show j+1 - 1=j by omega];exact hy) y1
    omega
 intro y hy
 obtain ⟨j,hj,Of⟩:=sn hy
 exact key (e.length - 1 - j) j y (by omega) Of
def AA (e:List ab):Int:=e.foldl (fun c y=>max c (y.aO+1)) 1
theorem N2 {l:List Model} {e:List ab} (h:LG l e) {z:ab} (hz:idx e ((e.length:Int) - 1)=some z):AA e=z.aO+1:=by
 have qN:e≠[]:=fun q=>by rw [q] at hz;cases hz
 have hs:=(List.dropLast_concat_getLast qN).symm
 have hl:e.getLast qN=z:=by
  obtain ⟨h0,h1,h2⟩:=ew hz
  rw [show ((e.length:Int) - 1).toNat=e.length - 1 by omega,← List.getLast?_eq_getElem?,List.getLast?_eq_some_getLast qN,Option.some.injEq] at h2
  exact h2
 have hle:=JC h hz
 have hzm:=dV hz
 have hz1:=rO (h.ok z hzm)
 unfold AA
 rw [hs,List.foldl_append,hl]
 show max _ (z.aO+1)=z.aO+1
 have:=xP z.aO e.dropLast 1 (fun y hy=>hle y ((List.dropLast_sublist e).subset hy)) (by omega)
 omega
noncomputable def Cu (h:ax) (e:List ab):List (ax×Bool):=e.foldl (fun c y=>gm c y.cj true) (gm [] h true)
theorem Gd (k:ax):∀ (e:List ab) (c:List (ax×Bool)),bB (e.foldl (fun c y=>gm c y.cj true) c) k=if (∃ y∈e,y.cj=k) then some true else bB c k
 | [],c=>by simp
 | y :: r,c=>by
   rw [List.foldl_cons,Gd k r,gl]
   by_cases q:y.cj=k
   ·rw [if_pos q,if_pos (show ∃ z∈y :: r,z.cj=k from ⟨y,by simp,q⟩)]
    split<;>rfl
   ·rw [if_neg q]
    by_cases g:∃ z∈r,z.cj=k
    ·rw [if_pos g,if_pos (by obtain ⟨z,z1,z2⟩:=g;exact ⟨z,by simp [z1],z2⟩)]
    ·rw [if_neg g,if_neg]
     rintro ⟨z,z1,z2⟩
     rcases List.mem_cons.1 z1 with rfl | z1
     ·exact q z2
     ·exact g ⟨z,z1,z2⟩
theorem Bu {V W:Type} (f:V→W) (k:ax):∀ m:List (ax×V),bB (m.map fun p=>(p.1,f p.2)) k=(bB m k).map f
 | []=>rfl
 | e :: r=>by
   rw [List.map_cons,et,et]
   by_cases q:e.1=k
   ·rw [if_pos q,if_pos q];rfl
   ·rw [if_neg q,if_neg q];exact Bu f k r
theorem LH (h:ax) (v:Int) (e:List ab):(Cu h e).length=(gm (JZ e) h v).length:=by
 have h1:SM (Cu h e):=by
  have:∀ (e:List ab) (c:List (ax×Bool)),SM c→SM (e.foldl (fun c y=>gm c y.cj true) c):=by
   intro e
   induction e with
   | nil=>intro c h;exact h
   | cons x r ih=>intro c h;exact ih _ (h.set _ _)
  exact this e _ (SM.nil.set _ _)
 have h2:SM ((gm (JZ e) h v).map fun p=>(p.1,(fun _:Int=>true) p.2)):=by
  unfold SM
  rw [List.pairwise_map]
  exact ((N1 e).set h v)
 have:Cu h e=(gm (JZ e) h v).map fun p=>(p.1,(fun _:Int=>true) p.2):=by
  refine F5 h1 h2 (fun k=>?_)
  rw [Bu (fun _:Int=>true),gl]
  unfold Cu JZ
  rw [Gd,Cs,gl]
  by_cases q:h=k
  ·rw [if_pos q,if_pos q]
   split<;>rfl
  ·rw [if_neg q,if_neg q]
   by_cases g:∃ y∈e,y.cj=k
   ·rw [if_pos g,if_pos g];rfl
   ·rw [if_neg g,if_neg g];rfl
 rw [this,List.length_map]
theorem D7 (f:ab→ab→Option Int) (xs:List ab) (hl:(xs.length:Int)≤20) (hf:∀ x∈xs,∀ y∈xs,f x y=some (eO x y)):∃ Z,lX xs.length (fun r:List ab=>r.length) (ck xs f)=some Z∧Z.Perm xs∧F0 eO Z:=by
 obtain ⟨Z,h1,h2,h3⟩:=Lq f eO xs (by omega) hf (UF.ord xs)
 have z6:bC xs 0 xs.length f=some Z:=h1
 have hlen:=h2.length_eq
 refine ⟨Z,?_,h2,h3⟩
 have hs:dK xs xs.length f=some Z:=by
  unfold dK jO
  by_cases RN:(xs.length:Int)=20
  ·rw [iter_eq,bQ,if_pos (by simp only;omega)]
   simp only
   rw [RN] at z6 ⊢
   rw [xa z6 hlen]
   simp only [Option.bind_some,ik]
   rw [iter_eq,bQ,show aU (20+20)=40 from rfl,if_neg (by simp),de]
   unfold ej
   have Fl:bC Z 20 20 f=some Z:=by
    unfold bC gJ
    rw [iter_eq,bX,show aU (20+1)=21 from rfl,if_neg (by simp),de]
   simp only
   rw [xa Fl rfl]
   simp only [Option.bind_some]
   unfold fV
   rw [iter_eq,ch,if_neg (by simp),de]
  ·rw [iter_eq,bQ,if_neg (by simp only;omega),de]
   unfold ej
   simp only
   rw [xa z6 hlen]
   simp only [Option.bind_some]
   unfold fV
   rw [iter_eq,ch,if_neg (by simp only;omega),de]
 refine xa ?_ hlen
 unfold ck
 rw [xa hs hlen];rfl
abbrev N3 (K:Int) (r:ab×tG):Prop:=EB r.1∧sJ r.2 K
theorem zQ (t:Int) (q7 uv:ax) (n14 n15:Int) (L:List Int) (a:Int) (Ny:Int) (Nz NA:ax) (n59:Int) (Mk Ml:ax) (n62:Int) {K:Int} (hs:sJ ⟨L,a⟩ K) (h1:Mk.length≤40) (h2:Ml.length≤40):Ok (fq t q7 uv n14 n15 L a Ny Nz NA n59 Mk Ml n62) (N3 K):=by
 unfold fq
 exact Ok.ret ⟨⟨by simp only;omega,by simp only;omega⟩,hs⟩
theorem xm (t:Int) (v2:Int×tG) (v3:ax×tG) (L:List Int) (a:Int) (q7 q8:ax) (n9:Int) (zW uv zX:ax) (n13 n14 n15:Int) {K:Int} (hK:10≤K) (hs:sJ ⟨L,a⟩ K) (h1:zW.length≤40) (h2:zX.length≤40):Ok (ft t v2 v3 L a q7 q8 n9 zW uv zX n13 n14 n15) (N3 (K - 8)):=by
 unfold ft gD gC gB
 refine Ok.gen (Ck hs (by omega) (by omega) (by omega)) (fun b s2 _ q2=>?_)
 dsimp only
 split
 ·refine Ok.gen (xc q2 (by omega) (by omega) (by omega)) (fun n s3 _ q3=>?_)
  dsimp only
  split
  ·refine Ok.gen (wo q3 (by omega) (by omega) (by omega) (by omega)) (fun u s4 _ q4=>?_)
   exact zQ _ _ _ _ _ _ _ _ _ _ _ _ _ _ (q4.less (by omega)) h1 h2
  ·split
   ·refine Ok.gen (jm q3 (by omega) (by simp) (by simp)) (fun u s4 _ q4=>?_)
    refine Ok.gen (jm q4 (by omega) (by simp) (by simp)) (fun u s5 _ q5=>?_)
    exact zQ _ _ _ _ _ _ _ _ _ _ _ _ _ _ (q5.less (by omega)) h1 h2
   ·split
    ·refine Ok.gen (wo q3 (by omega) (by omega) (by omega) (by omega)) (fun u s4 _ q4=>?_)
     refine Ok.gen (wo q4 (by omega) (by omega) (by omega) (by omega)) (fun u s5 _ q5=>?_)
     exact zQ _ _ _ _ _ _ _ _ _ _ _ _ _ _ (q5.less (by omega)) h1 h2
    ·refine Ok.gen (jm q3 (by omega) (by simp) (by simp)) (fun u s4 hu q4=>?_)
     refine Ok.gen (jm q4 (by omega) (by simp) (by simp)) (fun w s5 hw q5=>?_)
     exact zQ _ _ _ _ _ _ _ _ _ _ _ _ _ _ (q5.less (by omega)) (qJ hu (by decide)) (qJ hw (by decide))
 ·exact zQ _ _ _ _ _ _ _ _ _ _ _ _ _ _ (q2.less (by omega)) h1 h2
theorem xQ {s:tG} {K:Int} (t:Int) (hs:sJ s K) (hK:20≤K):qM (im s t) (K - 20) EB:=by
 refine qM.of ?_
 have fin:∀ {r:ab×tG} {K':Int},K - 20≤K'→N3 K' r→EB r.1∧sJ r.2 (K - 20):=fun h g=>⟨g.1,g.2.less h⟩
 unfold im gI gH gG gE
 refine Ok.gen (pW hs (by omega) (by simp) (by simp)) (fun k s1 _ q1=>?_)
 refine Ok.gen (jm q1 (by omega) (by simp) (by simp)) (fun d s2 _ q2=>?_)
 dsimp only
 split
 ·refine Ok.gen (jm q2 (by omega) (by simp) (by simp)) (fun u s3 _ q3=>?_)
  refine Ok.gen (pW q3 (by omega) (by simp) (by simp)) (fun w s4 _ q4=>?_)
  refine Ok.gen (jm q4 (by omega) (by simp) (by simp)) (fun x s5 hx q5=>?_)
  exact (xm t _ _ _ _ _ _ _ _ _ _ _ _ _ (by omega) q5 (qJ hx (by decide)) (by simp)).mono fun r hr=>fin (by omega) hr
 ·split
  ·refine Ok.gen (jm q2 (by omega) (by simp) (by simp)) (fun u s3 _ q3=>?_)
   exact (xm t _ _ _ _ _ _ _ _ _ _ _ _ _ (by omega) q3 (by simp) (by simp)).mono fun r hr=>fin (by omega) hr
  ·split
   ·refine Ok.gen (jm q2 (by omega) (by simp) (by simp)) (fun u s3 hu q3=>?_)
    refine Ok.gen (pW q3 (by omega) (by simp) (by simp)) (fun w s4 _ q4=>?_)
    exact (xm t _ _ _ _ _ _ _ _ _ _ _ _ _ (by omega) q4 (qJ hu (by decide)) (by simp)).mono fun r hr=>fin (by omega) hr
   ·split
    ·refine Ok.gen (pW q2 (by omega) (by simp) (by simp)) (fun u s3 _ q3=>?_)
     refine Ok.gen (pW q3 (by omega) (by simp) (by simp)) (fun w s4 _ q4=>?_)
     exact (xm t _ _ _ _ _ _ _ _ _ _ _ _ _ (by omega) q4 (by simp) (by simp)).mono fun r hr=>fin (by omega) hr
    ·split
     ·refine Ok.gen (jm q2 (by omega) (by simp) (by simp)) (fun u s3 _ q3=>?_)
      refine Ok.gen (jm q3 (by omega) (by simp) (by simp)) (fun w s4 hw q4=>?_)
      exact (xm t _ _ _ _ _ _ _ _ _ _ _ _ _ (by omega) q4 (by simp) (qJ hw (by decide))).mono fun r hr=>fin (by omega) hr
     ·exact (xm t _ _ _ _ _ _ _ _ _ _ _ _ _ (by omega) q2 (by simp) (by simp)).mono fun r hr=>fin (by omega) hr
abbrev Pd (n:Int) (l:List ab):Prop:=(l.length:Int)≤n∧EL l
theorem Hf {L:List Int} {a:Int} {l:List ab} {K n:Int} (hs:sJ ⟨L,a⟩ K) (hK:10≤K) (hn:n≤19) (hl:Pd n l):Ok (ly L a l) (fun r=>Pd n r.1∧sJ r.2 (K - 10)):=by
 have MO:=hl.1
 unfold ly
 obtain ⟨Z,z1,z2,z3⟩:=D7 (fun y0 y1=>lx y0 y1) l (by omega) (fun x _ y _=>Jy x y)
 rw [z1]
 simp only [Option.bind_some]
 have hZ:Pd n Z:=⟨by rw [z2.length_eq];exact hl.1,fun x hx=>hl.2 x (z2.mem_iff.1 hx)⟩
 have hZ1:=hZ.1
 have j1:∀ (L':List Int) (a':Int) (c:Bool),(c=true→0 < Z.length)→sJ ⟨L',a'⟩ (K - 1)→Ok (iq Z L' a' c) (fun r=>Pd n r.1∧sJ r.2 (K - 10)):=by
  intro L' a' c hc wj
  unfold iq jv
  cases c with
  | false=>
    rw [if_neg Bool.false_ne_true]
    exact Ok.ret ⟨hZ,wj.less (by omega)⟩
  | true=>
    have hp:=hc rfl
    rw [if_pos rfl]
    refine Ok.gen (xc wj (by omega) (by omega) (by omega)) (fun i s1 hi q1=>?_)
    dsimp only
    refine Ok.idx (by omega) (by omega) (fun x hx hm=>?_)
    refine Ok.gen (jm q1 (by omega) (by simp) (by simp)) (fun u s2 _ q2=>?_)
    refine Ok.gen (pW q2 (by omega) (by simp) (by simp)) (fun v s3 _ q3=>?_)
    refine Ok.gen (pW q3 (by omega) (by simp) (by simp)) (fun w s4 _ q4=>?_)
    refine Ok.gen (pW q4 (by omega) (by simp) (by simp)) (fun y s5 _ q5=>?_)
    have Hw:=hZ.2 x hm
    refine Ok.ret ⟨⟨by simp only [List.length_set];exact hZ1,?_⟩,q5.less (by omega)⟩
    exact F3 (F3 (F3 (F3 hZ.2 ⟨Hw.key,Hw.val⟩) ⟨Hw.key,Hw.val⟩) ⟨Hw.key,Hw.val⟩) ⟨Hw.key,Hw.val⟩
 by_cases h:(0:Int) < Z.length
 ·rw [if_pos h]
  refine Ok.gen (Ck hs (by omega) (by omega) (by omega)) (fun b s1 _ q1=>?_)
  exact j1 _ _ _ (fun _=>by omega) q1
 ·rw [if_neg h]
  exact j1 _ _ _ (fun q=>by cases q) (hs.less (by omega))
theorem JD {s:tG} {n K:Int} (hs:sJ s K) (hn:0≤n∧n≤14) (hK:500≤K):qM (lZ s n) (K - 500) (Pd n):=by
 refine qM.of ?_
 unfold lZ
 refine Ok.gen (xc hs (by omega) (by omega) (by omega)) (fun t s1 _ q1=>?_)
 unfold rj
 refine Ok.iter (fun x:List Int×Int×List ab×List (ax×Int)×Int×Int×Int=>(n - x.2.2.2.2.2.2).toNat) (fun x:List Int×Int×List ab×List (ax×Int)×Int×Int×Int=>0≤x.2.2.2.2.2.2∧x.2.2.2.2.2.2≤n∧sJ ⟨x.1,x.2.1⟩ (K - 480+30 * (n - x.2.2.2.2.2.2))∧Pd x.2.2.2.2.2.2 x.2.2.1) ?_ _ ⟨by simp only;omega,by simp only;omega,q1.less (by simp only;omega),⟨by simp,fun x hx=>by cases hx⟩⟩
 rintro ⟨L,a,l,m,c,t,i⟩ ⟨g0,g1,g2,g3⟩
 simp only at g0 g1 g2 g3 ⊢
 have hll:=g3.1
 unfold jw
 by_cases hi:i < n
 ·rw [if_pos hi]
  refine Ok.gen (xQ t g2 (by omega)) (fun x s2 hx q2=>?_)
  refine Ok.gen (jm q2 (by omega) (by simp) (by simp)) (fun u s3 _ q3=>?_)
  unfold qn
  simp only [Option.bind_some]
  refine Ok.gen (pW q3 (by omega) (by simp) (by simp)) (fun v s4 _ q4=>?_)
  dsimp only
  refine Ok.app (by simp;omega) ?_
  refine Ok.gen (pW q4 (by omega) (by simp) (by simp)) (fun w s5 _ q5=>?_)
  refine Ok.ret ?_
  rw [bP (x:=i+1) (by omega) (by omega)]
  refine ⟨⟨by simp only;omega,by simp only;omega,q5.less (by simp only;omega),?_,?_⟩,by simp only;omega⟩
  ·simp only [List.length_append,List.length_singleton];omega
  ·intro y hy
   rw [List.mem_append,List.mem_singleton] at hy
   rcases hy with hy | rfl
   ·exact g3.2 y hy
   ·exact ⟨hx.key,hx.val⟩
 ·rw [if_neg hi]
  obtain rfl:i=n:=by omega
  refine Ok.inr ?_
  exact (Hf g2 (by omega) (by omega) g3).mono fun r hr=>⟨hr.1,hr.2.less (by omega)⟩
theorem eqE (x:List ab) (hx:x.length≤100000):eD x x=some true:=by
 rw [show eD x x=some (decide (x=x)) from Bh x x (by omega)];simp
theorem QQ (x y:Int):o5 [x,y]=some (Mz [x,y]):=Je _ (by simp)
def UI (x:ab) (n c:Int):ab:=⟨x.cj,n,c,x.At,x.Kind,x.Device,x.Model,x.aK,x.az,x.Key,x.Name,x.Value,x.aW,x.ak⟩
theorem JE (h:ax):∀ (e:List ab) (a b:Int) (c:List (ax×Bool)),e.foldl (fun (s:Int×Int×List (ax×Bool)) y=>(if y.cj=h then max s.1 (y.No+1) else s.1,max s.2.1 (y.aO+1),gm s.2.2 y.cj true)) (a,b,c)=
 (e.foldl (fun n y=>if y.cj=h then max n (y.No+1) else n) a,e.foldl (fun c y=>max c (y.aO+1)) b,e.foldl (fun c y=>gm c y.cj true) c)
 | [],a,b,c=>rfl
 | y :: r,a,b,c=>by
   rw [List.foldl_cons,List.foldl_cons,List.foldl_cons,List.foldl_cons]
   exact JE h r _ _ _
theorem E9 (m:List Model) (e:List ab) (x:ab) (hl:e.length≤3000) (hr:∀ y∈e,(1≤y.No∧y.No≤3000)∧(1≤y.aO∧y.aO≤1000000000)):sh m e x 1 1 (gm ([]:List (ax×Bool)) x.cj true) 0=lJ m e x (Az x.cj 0 e+1) (AA e) (Cu x.cj e):=by
 unfold sh
 refine (zG e (fun (s:Int×Int×List (ax×Bool)) (i:Int)=>(s.1,s.2.1,s.2.2,i)) _ (fun s y=>(if y.cj=x.cj then max s.1 (y.No+1) else s.1,max s.2.1 (y.aO+1),gm s.2.2 y.cj true)) (fun _ _=>True) (fun s=>lJ m e x s.1 s.2.1 s.2.2) ?_ ?_ (1,1,gm ([]:List (ax×Bool)) x.cj true) trivial).trans ?_
 ·intro s i y h0 h1 hy _
  have hb:=hr y (dV hy)
  show jd m e x s.1 s.2.1 s.2.2 i=_∧_
  unfold jd ng
  rw [if_pos h1,hy]
  simp only [Option.bind_some]
  rw [bP (x:=y.aO+1) (by omega) (by omega),bP (x:=i+1) (by omega) (by omega),bP (x:=y.No+1) (by omega) (by omega)]
  by_cases c:y.cj=x.cj
  ·rw [if_pos c,if_pos c];exact ⟨rfl,trivial⟩
  ·rw [if_neg c,if_neg c];exact ⟨rfl,trivial⟩
 ·intro s _
  show jd m e x s.1 s.2.1 s.2.2 _=_
  unfold jd
  rw [if_neg (Int.lt_irrefl _)]
 ·rw [JE]
  have:=Ct x.cj e 0
  rw [Int.zero_add] at this
  simp only
  rw [this]
  rfl
theorem Fa (m:List Model) (hm:m.length≤1000) (e:List ab) (he:EL e) (hg:LG m e) (x:ab) (hx:EB x) (hxe:x.No=0∧x.aO=0):
 ∃ r,iU m e x false=some r∧lJ m e x (Az x.cj 0 e+1) (AA e) (Cu x.cj e)=some r∧r.1.length≤4000:=by
 have hlen:=hg.len
 have Ec:∀ y∈e,1≤y.No∧y.No≤3000:=fun y hy=>⟨(rO (hg.ok y hy)).2.1,(rO (hg.ok y hy)).2.2.1⟩
 have hN:=Gc x.cj e 0 (by omega) Ec
 have X1:iU m e x false=iT m e x (JZ e) (Az x.cj 0 e) (AA e):=by
  unfold iU
  rw [if_neg Bool.false_ne_true,JB e (by omega)]
  simp only [Option.bind_some]
  unfold qn
  simp only [Option.bind_some]
  rw [LF]
  by_cases hp:(0:Int) < e.length
  ·rw [if_pos hp,bP (by omega) (by omega)]
   obtain ⟨z,z1,z2,_⟩:=jl e (i:=(e.length:Int) - 1) (by omega) (by omega)
   rw [z1]
   simp only [Option.bind_some]
   have h1:=wz (hg.ok z z2)
   have h2:=rO (hg.ok z z2)
   rw [N2 hg z1,bP (by omega) (by omega)]
  ·rw [if_neg hp]
   have:e=[]:=List.eq_nil_of_length_eq_zero (by omega)
   subst this
   rfl
 rw [X1]
 unfold iT lJ
 rw [bP (x:=Az x.cj 0 e+1) (by omega) (by omega)]
 have Hw:EB (UI x (Az x.cj 0 e+1) (AA e)):=⟨hx.key,hx.val⟩
 rw [show (⟨x.cj,Az x.cj 0 e+1,AA e,x.At,x.Kind,x.Device,x.Model,x.aK,x.az,x.Key,x.Name,x.Value,x.aW,x.ak⟩:ab)=UI x (Az x.cj 0 e+1) (AA e) from rfl]
 generalize hy:UI x (Az x.cj 0 e+1) (AA e)=y at Hw
 rw [qK m y hm Hw,uQ m y hm Hw]
 simp only [Option.bind_some]
 by_cases h1:Gb m y≠0
 ·rw [if_pos h1,if_pos h1]
  exact ⟨_,rfl,rfl,by simp⟩
 rw [if_neg h1,if_neg h1]
 have Qf:=(wz (Decidable.not_not.1 h1)).2
 have hk:=hg.kinds
 have Od:uk (e++[y]):=fun z hz=>by
  rcases List.mem_append.1 hz with g | g
  ·exact hk z g
  ·rw [List.mem_singleton] at g;rw [g];exact Qf
 obtain ⟨f1,f2⟩:=qA e (by omega) hk
 obtain ⟨g1,g2,g3⟩:=MG e (by omega) hk
 obtain ⟨s1,s2,s3⟩:=zP g1 (by omega) y Qf
 rw [f1,D0 e (by omega)]
 simp only [Option.bind_some]
 rw [s1,qI (by simp;omega)]
 simp only [Option.bind_some]
 rw [(qA (e++[y]) (by simp;omega) Od).2,LD]
 simp only [Option.bind_some]
 by_cases h2:(eW (fw e).1 y).1≠0
 ·rw [if_pos h2]
  simp only [if_pos h2]
  rw [if_pos (by rw [List.length_append,List.length_singleton];omega),bP (by rw [List.length_append,List.length_singleton];omega) (by rw [List.length_append,List.length_singleton];omega)]
  have hi:idx ((fw e).2++[(⟨(e.length:Int),(eW (fw e).1 y).1⟩:bd)]) ((((fw e).2++[(⟨(e.length:Int),(eW (fw e).1 y).1⟩:bd)]).length:Int) - 1)=some ⟨(e.length:Int),(eW (fw e).1 y).1⟩:=by
   rw [List.length_append,List.length_singleton,show (((fw e).2.length+1:Nat):Int) - 1=(fw e).2.length by omega]
   exact FP _ _
  rw [hi]
  simp only [Option.bind_some]
  unfold gV
  rw [if_pos (by simp)]
  rw [bP (by rw [List.length_append,List.length_singleton];omega) (by rw [List.length_append,List.length_singleton];omega),hi]
  exact ⟨_,rfl,rfl,by simp⟩
 ·rw [if_neg h2]
  simp only [if_neg h2]
  have UJ:∀ R,(gV (Cu x.cj e) (e++[y]) (((eW (fw e).1 y).2.cx,(eW (fw e).1 y).2.fa),(fw e).2) false=R)→(if (0:Int) < (((fw e).2.length:Nat):Int) then (idx (fw e).2 (aU ((((fw e).2.length:Nat):Int) - 1))).bind fun Bc=>gV (Cu x.cj e) (e++[y]) (((eW (fw e).1 y).2.cx,(eW (fw e).1 y).2.fa),(fw e).2) (decide (Bc.Event=(e.length:Int))) else gV (Cu x.cj e) (e++[y]) (((eW (fw e).1 y).2.cx,(eW (fw e).1 y).2.fa),(fw e).2) false)=R:=by
   intro R hR
   by_cases hp:(0:Int) < (((fw e).2.length:Nat):Int)
   ·rw [if_pos hp,bP (by omega) (by omega)]
    obtain ⟨z,z1,z2,_⟩:=jl (fw e).2 (i:=((fw e).2.length:Int) - 1) (by omega) (by omega)
    rw [z1]
    simp only [Option.bind_some]
    have:=g2 z z2
    rw [show decide (z.Event=(e.length:Int))=false by simp;omega]
    exact hR
   ·rw [if_neg hp];exact hR
  rw [UJ _ rfl]
  unfold gV o7 mw
  rw [if_neg Bool.false_ne_true,LH x.cj (Az x.cj 0 e+1) e]
  have hq:(decide ((3000:Int)≤(e.length:Int)))=decide ((3000:Int) < ((e++[y]).length:Int)):=by
   rw [List.length_append,List.length_singleton,Bool.eq_iff_iff,decide_eq_true_eq,decide_eq_true_eq];omega
  rw [hq]
  by_cases h3:(decide ((3000:Int) < ((e++[y]).length:Int))||decide ((20:Int) < ((gm (JZ e) x.cj (Az x.cj 0 e+1)).length:Int)))=true
  ·rw [if_pos h3,if_pos h3]
   exact ⟨_,rfl,rfl,by simp⟩
  ·rw [if_neg h3,if_neg h3,D0 e (by omega)]
   simp only [Option.bind_some]
   rw [bP (by omega) (by omega),show (⟨x.cj,Az x.cj 0 e+1,AA e,x.At,x.Kind,x.Device,x.Model,x.aK,x.az,x.Key,x.Name,x.Value,x.aW,x.ak⟩:ab)=y from hy,qI (by simp;omega)]
   exact ⟨_,rfl,rfl,by simp;omega⟩
theorem JF (m:List Model) (hm:m.length≤1000) (hM:∀ z∈m,MB z) (e:List ab) (he:EL e) (x:ab) (hx:EB x):
 (yh m e≠0→lC m e x=some ([],yh m e))∧(yh m e=0→∃ r,lC m e x=some r∧rz m e x=some r∧r.1.length≤4000):=by
 unfold lC
 rw [tN m hm hM e he]
 simp only [Option.bind_some]
 refine ⟨fun h=>by rw [if_pos h],fun h=>?_⟩
 rw [if_neg (fun q=>q h)]
 have hg:=xj hm he h
 unfold rz
 by_cases c:((decide (x.No≠(0:Int)))||(decide (x.aO≠(0:Int))))=true
 ·rw [c]
  exact ⟨([],3),rfl,rfl,by simp⟩
 ·have c':((decide (x.No≠(0:Int)))||(decide (x.aO≠(0:Int))))=false:=by simpa using c
  rw [c']
  have hx0:x.No=0∧x.aO=0:=by
   rw [Bool.or_eq_false_iff,decide_eq_false_iff_not,decide_eq_false_iff_not] at c'
   exact ⟨Decidable.not_not.1 c'.1,Decidable.not_not.1 c'.2⟩
  obtain ⟨r,r1,r2,r3⟩:=Fa m hm e he hg x hx hx0
  refine ⟨r,r1,?_,r3⟩
  unfold o8
  rw [if_neg Bool.false_ne_true,E9 m e x hg.len (fun y hy=>by
   have h1:=rO (hg.ok y hy)
   have h2:=wz (hg.ok y hy)
   omega),r2]
theorem UK (x:List bd) (hx:x.length≤100000):cY x x=some true:=by
 rw [show cY x x=some (decide (x=x)) from Bh x x (by omega)];simp
theorem MH (m:List Model) (s1:tG) (e:List ab) (s2:tG) (x0:ab) (s3:tG) (h:ax) (s4:tG) (n:Int) (hm:m.length≤1000) (hM:∀ z∈m,MB z) (he:EL e) (hx:EB x0):fO (m,s1) (e,s2) (x0,s3) (h,s4) n=some true:=by
 unfold fO eG dM
 simp only
 obtain ⟨w1,w2⟩:=JF m hm hM e he (⟨h,n,x0.aO,x0.At,x0.Kind,x0.Device,x0.Model,x0.aK,x0.az,x0.Key,x0.Name,x0.Value,x0.aW,x0.ak⟩:ab) ⟨hx.key,hx.val⟩
 have hR:jG m e=some (if yh m e≠0 then ([],yh m e) else ((fw e).2,0)):=by
  unfold jG
  rw [tN m hm hM e he]
  simp only [Option.bind_some]
  by_cases c:yh m e≠0
  ·rw [if_pos c,if_pos c]
  ·rw [if_neg c,if_neg c]
   have hg:=xj hm he (Decidable.not_not.1 c)
   rw [(qA e (by have:=hg.len;omega) hg.kinds).1]
   rfl
 have X2:Mz [JY m,Bq m e]=yh m e:=Uu _ _
 rw [hR]
 by_cases c:yh m e≠0
 ·rw [w1 c]
  simp only [Option.bind_some]
  rw [tJ hM,Br m hm e he]
  simp only [Option.bind_some]
  rw [QQ,X2]
  simp only [Option.bind_some,if_pos c,if_true]
  rw [if_pos (by decide),zK]
  rfl
 ·have c0:=Decidable.not_not.1 c
  have hg:=xj hm he c0
  obtain ⟨r,r1,r2,r3⟩:=w2 c0
  rw [r1]
  simp only [Option.bind_some]
  rw [tJ hM,Br m hm e he]
  simp only [Option.bind_some]
  rw [QQ,X2]
  simp only [Option.bind_some]
  rw [if_neg c,if_neg c,r2,(qA e (by have:=hg.len;omega) hg.kinds).2]
  simp only [Option.bind_some,if_true]
  rw [eqE r.1 (by omega)]
  simp only [Option.bind_some,if_true]
  have:=(MG e (by have:=hg.len;omega) hg.kinds).2.2
  rw [UK _ (by have:=hg.len;omega)]
  simp only [Option.bind_some,if_true]
  rw [zK]
  rfl
theorem uC (L:List Int):kA L=some true:=by
 have key:Ok (kA L) (fun r=>r=true):=by
  unfold kA
  refine Ok.gen (Ly (s:=⟨L,0⟩) (K:=10000) ⟨by simp,by simp⟩ (by omega)) (fun l s0 hl q0=>?_)
  refine Ok.gen (Lu q0 (by omega) (by omega) (by omega) (by omega)) (fun n s1 hn q1=>?_)
  refine Ok.gen (JD q1 (by omega) (by omega)) (fun a s2 ha q2=>?_)
  refine Ok.gen (pW q2 (by omega) (by simp) (by simp)) (fun t s3 _ q3=>?_)
  refine Ok.gen (xQ t q3 (by omega)) (fun x s4 hx q4=>?_)
  refine Ok.gen (jm q4 (by omega) (by simp) (by simp)) (fun h s5 _ q5=>?_)
  refine Ok.gen (Ck q5 (by omega) (by omega) (by omega)) (fun b s6 _ q6=>?_)
  dsimp only
  split
  ·exact ⟨true,MH l s0 a s2 x s4 h s5 _ (by omega) hl.2 ha.2 hx,rfl⟩
  ·exact ⟨true,MH l s0 a s2 x s4 h s5 _ (by omega) hl.2 ha.2 hx,rfl⟩
 obtain ⟨r,h1,rfl⟩:=key
 exact h1
end Go.Beacon
