/- Plain facts on what the functions compute. No program in sight. -/
import Derived.Test.YtifmjkaghhkhfaaGreatDoorCauP
import Derived.Test.YtifmjkaghhkhfaaGreatDoorPlBA
set_option linter.unusedVariables false
set_option linter.unusedSimpArgs false
namespace Go.Beacon
open Go Go.Eng
abbrev vb:=ak
def tx (s:vb) (k:Int):Prop:=0≤s.at_∧s.at_+k≤4611686018427387904
theorem tx.less {s:vb} {k k':Int} (h:tx s k) (hk:k'≤k):tx s k':=⟨h.1,by have:=h.2;omega⟩
def sT {α:Type} (m:Option (α×vb)) (k:Int) (P:α→Prop):Prop:=∃ v s',m=some (v,s')∧P v∧tx s' k
theorem sT.bind {α β:Type} {m:Option (α×vb)} {k k':Int} {P:α→Prop} {Q:β→Prop} {f:α×vb→Option (β×vb)} (h:sT m k P) (hf:∀ v s',P v→tx s' k→sT (f (v,s')) k' Q):sT (m.bind f) k' Q:=by
 obtain ⟨v,s',rfl,h1,h2⟩:=h
 exact hf v s' h1 h2
theorem sT.ret {α:Type} {v:α} {s:vb} {k:Int} {P:α→Prop} (h1:P v) (h2:tx s k):sT (some (v,s)) k P:=⟨v,s,rfl,h1,h2⟩
theorem BH (x:Int) {n:Int} (h1:1≤n) (h2:n≤4611686018427387904):∃ v,Below x n=some v∧0≤v∧v < n:=by
 unfold Below vG
 rw [if_neg (by omega),OH (by omega)]
 have a1:=Int.lt_tmod_of_pos x (show 0 < n by omega)
 have a2:=Int.tmod_lt_of_pos x (show 0 < n by omega)
 simp only [Option.bind_some]
 split
 ·exact ⟨_,rfl,by rw [bg]<;>omega,by rw [bg]<;>omega⟩
 ·exact ⟨_,rfl,by omega,by omega⟩
theorem yB {s:vb} {n k:Int} (hs:tx s (k+1)) (h1:1≤n) (h2:n≤4611686018427387904) (hk:0≤k):sT (fo s n) k (fun v=>0≤v∧v < n):=by
 obtain ⟨a1,a2⟩:=hs
 have e1:aN (s.at_+1)=s.at_+1:=by rw [bg]<;>omega
 have e2:aN (s.at_+1 - 1)=s.at_:=by rw [bg]<;>omega
 unfold fo
 split
 ·obtain ⟨v,hv,h3,h4⟩:=BH (aN (aN (s.at_+1) * 7919)) h1 h2
  rw [hv]
  exact sT.ret ⟨h3,h4⟩ ⟨by show 0≤aN (s.at_+1);omega,by show aN (s.at_+1)+k≤_;omega⟩
 ·rename_i hl
  have yN:(0:Int) < s.L.length:=by omega
  rw [e1,e2,Ms yN a1,OI (by omega)]
  simp only [Option.bind_some]
  obtain ⟨x,hx,_,_⟩:=ig s.L (i:=s.at_ % s.L.length) (Int.emod_nonneg _ (by omega)) (Int.emod_lt_of_pos _ yN)
  rw [hx]
  simp only [Option.bind_some]
  obtain ⟨u,hu,_,_⟩:=BH x (n:=1073741824) (by omega) (by omega)
  rw [hu]
  simp only [Option.bind_some]
  obtain ⟨v,hv,h3,h4⟩:=BH (aN (u+aN (aN (s.at_.tdiv s.L.length) * aN (7919+s.at_ % s.L.length)))) h1 h2
  rw [hv]
  exact sT.ret ⟨h3,h4⟩ ⟨by simp only;omega,by simp only;omega⟩
theorem Hm {s:vb} {l:List Int} {k:Int} (hs:tx s (k+1)) (h1:l≠[]) (h2:l.length≤1000) (hk:0≤k):sT (cw s l) k (fun v=>v∈l):=by
 unfold cw
 have hl:0 < l.length:=List.length_pos_iff.2 h1
 refine sT.bind (yB hs (by omega) (by omega) hk) (fun v s' hv xE=>?_)
 obtain ⟨x,hx,hm,_⟩:=ig l hv.1 hv.2
 simp only [hx,Option.bind_some]
 exact sT.ret hm xE
theorem Fp {s:vb} {a b k:Int} (hs:tx s (k+1)) (G6:a≤b) (ha:-1152921504606846976≤a) (hb:b≤1152921504606846976) (hk:0≤k):sT (jS s a b) k (fun v=>a≤v∧v≤b):=by
 unfold jS
 have e1:aN (b - a)=b - a:=by rw [bg]<;>omega
 have e2:aN (b - a+1)=b - a+1:=by rw [bg]<;>omega
 rw [if_neg (by omega),e1,e2]
 refine sT.bind (yB hs (by omega) (by omega) hk) (fun v s' hv xE=>?_)
 refine sT.ret ?_ xE
 simp only
 rw [bg]<;>omega
theorem Hn {s:vb} {n k:Int} (hs:tx s (k+1)) (h1:1≤n) (h2:n≤4611686018427387904) (hk:0≤k):sT (fq s n) k (fun _=>True):=by
 unfold fq
 exact sT.bind (yB hs h1 h2 hk) (fun v s' hv xE=>sT.ret trivial xE)
theorem DW {l:List Int} {v lo hi:Int} (h:v∈l) (hl:l.all (fun x=>decide (lo≤x∧x≤hi))=true):lo≤v∧v≤hi:=by
 rw [List.all_eq_true] at hl
 simpa using hl v h
theorem MC {s:vb} {l:List aS} {k:Int} (hs:tx s (k+1)) (h1:l≠[]) (h2:l.length≤1000) (hk:0≤k):sT (fr s l) k (fun v=>v∈l):=by
 unfold fr
 have hl:0 < l.length:=List.length_pos_iff.2 h1
 refine sT.bind (yB hs (by omega) (by omega) hk) (fun v s' hv xE=>?_)
 obtain ⟨x,hx,hm,_⟩:=ig l hv.1 hv.2
 simp only [hx,Option.bind_some]
 exact sT.ret hm xE
theorem OM {s:vb} {a b k:Int} (hs:tx s (k+2)) (G6:a≤b) (ha:-1099511627776≤a) (hb:b≤1099511627776) (hk:0≤k):sT (kB s a b) k (fun v=>-1099511627777≤v∧v≤1099511627777):=by
 unfold kB
 refine sT.bind (Hn (k:=k+1) (hs.less (by omega)) (by omega) (by omega) (by omega)) (fun v s' hv xE=>?_)
 simp only
 split
 ·refine sT.bind (Hm xE (by simp) (by simp) hk) (fun v s' hv xE=>sT.ret ?_ xE)
  have e1:aN (a - 1)=a - 1:=by rw [bg]<;>omega
  have e2:aN (b+1)=b+1:=by rw [bg]<;>omega
  rw [e1,e2] at hv
  simp only [List.mem_cons,List.not_mem_nil,or_false] at hv
  simp only;omega
 ·refine sT.bind (Fp xE G6 (by omega) (by omega) hk) (fun v s' hv xE=>sT.ret ?_ xE)
  simp only;omega
theorem xH (n lo hi:Int):mP n lo hi=(decide (n < lo)||decide (hi < n)):=rfl
theorem wa (n lo hi:Int):ze n lo hi=(decide (lo≤n)&&decide (n≤hi)):=rfl
def MD (n:Nat):Bool:=(decide (97≤n)&&decide (n≤122))||(decide (48≤n)&&decide (n≤57))||decide (n=45)||decide (n=95)
def cE:aS→Bool
 | []=>false
 | c :: r=>decide ((c :: r).length≤40)&&(decide (97≤c.toNat)&&decide (c.toNat≤122))&&(c :: r).all (fun c=>MD c.toNat)
theorem wH (c:UInt8) (r:aS):cE (c :: r)=(decide ((c :: r).length≤40)&&(decide (97≤c.toNat)&&decide (c.toNat≤122))&&(c :: r).all (fun c=>MD c.toNat)):=rfl
theorem Kl (s:aS) (hl:s.length≤40):vJ s 0=some (s.all (fun c=>MD c.toNat)):=by
 unfold vJ
 rw [ui s (fun x:Int=>mQ s x) (fun c=>if MD c.toNat=true then none else some false) true (by omega),BD]
 ·intro i c h0 h1 hc
  have hB:(if (97:Int)≤(c.toNat:Int) then if (c.toNat:Int)≤(122:Int) then !true else if (48:Int)≤(c.toNat:Int) then if (c.toNat:Int)≤(57:Int) then !true else if (c.toNat:Int)=(45:Int) then !true else decide (¬ ((c.toNat:Int)=(95:Int))) else if (c.toNat:Int)=(45:Int) then !true else decide (¬ ((c.toNat:Int)=(95:Int))) else if (48:Int)≤(c.toNat:Int) then if (c.toNat:Int)≤(57:Int) then !true else if (c.toNat:Int)=(45:Int) then !true else decide (¬ ((c.toNat:Int)=(95:Int))) else if (c.toNat:Int)=(45:Int) then !true else decide (¬ ((c.toNat:Int)=(95:Int))))=!MD c.toNat:=by
   unfold MD
   rw [Bool.eq_iff_iff]
   repeat' split
   all_goals simp
   all_goals omega
  rw [mQ,if_pos h1,hc]
  simp only [Option.bind_some]
  rw [hB]
  unfold tf
  rw [bg (by omega) (by omega)]
  cases MD c.toNat<;>rfl
 ·rw [mQ,if_neg (by omega)];rfl
theorem uN (s:aS):jY s=some (cE s):=by
 unfold jY mR
 cases s with
 | nil=>simp [cE]
 | cons c r=>
   rw [if_neg (by simp)]
   have hc:idx (c :: r) 0=some c:=rfl
   rw [hc]
   simp only [Option.bind_some]
   by_cases hl:(c :: r).length≤40
   ·rw [if_neg (by omega),Kl _ hl,wH]
    by_cases h1:(c.toNat:Int) < 97
    ·rw [if_pos h1]
     have:decide (97≤c.toNat)=false:=by simp;omega
     rw [this];simp
    ·rw [if_neg h1]
     have e1:decide (97≤c.toNat)=true:=by simp;omega
     by_cases h2:(122:Int) < c.toNat
     ·rw [if_pos (by simpa using h2)]
      have:decide (c.toNat≤122)=false:=by simp;omega
      rw [this];simp
     ·rw [if_neg (by simpa using h2)]
      have:decide (c.toNat≤122)=true:=by simp;omega
      rw [e1,this,decide_eq_true hl];simp
   ·rw [if_pos (by omega),wH,decide_eq_false hl];simp
theorem Ij:∀ n:Fin 256,decide (UInt8.ofNat n.val∈([97,98,99,100,101,102,103,104,105,106,107,108,109,110,111,112,113,114,115,116,117,118,119,120,121,122,48,49,50,51,52,53,54,55,56,57,45,95]:List UInt8))=MD n.val:=by decide+kernel
theorem ME:∀ n:Fin 256,decide (UInt8.ofNat n.val∈([97,98,99,100,101,102,103,104,105,106,107,108,109,110,111,112,113,114,115,116,117,118,119,120,121,122]:List UInt8))=(decide (97≤n.val)&&decide (n.val≤122)):=by decide+kernel
theorem Km {p:UInt8→Bool} {q:Nat→Bool} (h:∀ n:Fin 256,p (UInt8.ofNat n.val)=q n.val) (c:UInt8):p c=q c.toNat:=by
 have:=h ⟨c.toNat,c.toNat_lt⟩
 simpa using this
theorem lK (a b:Int):cmp_Compare_int a b=qN a b:=by
 unfold cmp_Compare_int cmp_isNaN_int qN;simp
theorem wI (n:Int):lE n=(decide (0≤n)&&decide (n≤345686399999)):=by
 unfold lE
 rw [xH,Bool.eq_iff_iff]
 simp
theorem Kn {S A:Type} (f:S→Option (S⊕A)) (m:S→Nat) (Inv:S→Prop) (R:A→Prop)
 (h:∀ s,Inv s→(∃ s',f s=some (.inl s')∧Inv s'∧m s' < m s)∨(∃ a,f s=some (.inr a)∧R a)):∀ s,Inv s→∃ a,iter f s=some a∧R a:=by
 have key:∀ (n:Nat) s,m s≤n→Inv s→∃ a,iter f s=some a∧R a:=by
  intro n
  induction n with
  | zero=>
    intro s hm hi
    rcases h s hi with ⟨s',_,_,h3⟩ | ⟨a,h1,h2⟩
    ·omega
    ·exact ⟨a,by rw [iter_eq,h1];rfl,h2⟩
  | succ n ih=>
    intro s hm hi
    rcases h s hi with ⟨s',h1,h2,h3⟩ | ⟨a,h1,h2⟩
    ·obtain ⟨a,h4,h5⟩:=ih s' (by omega) h2
     exact ⟨a,by rw [iter_eq,h1];simpa using h4,h5⟩
    ·exact ⟨a,by rw [iter_eq,h1];rfl,h2⟩
 exact fun s hi=>key (m s) s (Nat.le_refl _) hi
theorem Fq (xs:List Int) (h:(xs.length:Int)≤4611686018427387904):sy xs=some (tN xs):=vY xs h
theorem wJ {α:Type} (p:α→Bool):∀ l:List α,l.dropWhile p=[]↔l.all p=true
 | []=>by simp
 | x :: r=>by
   rw [List.dropWhile_cons]
   cases h:p x with
   | true=>simp only [if_true,List.all_cons,h,Bool.true_and];exact wJ p r
   | false=>simp [h]
theorem C3 (l cs:aS):Lib.trimS l cs=[]↔l.all (fun c=>decide (c∈cs))=true:=by
 have hc:∀ c:UInt8,cs.contains c=decide (c∈cs):=fun c=>by rw [Bool.eq_iff_iff];simp
 unfold Lib.trimS Lib.trimLeftS Lib.trimRightS
 rw [wJ,List.all_reverse]
 constructor
 ·intro h
  have hd:(l.reverse.dropWhile (cs.contains ·))=[]:=by
   cases hh:l.reverse.dropWhile (cs.contains ·) with
   | nil=>rfl
   | cons a b=>
     have h1:=List.head?_dropWhile_not (fun c=>cs.contains c) l.reverse
     rw [hh] at h h1
     simp only [List.head?_cons] at h1
     simp only [List.all_cons,Bool.and_eq_true] at h
     rw [h.1] at h1;simp at h1
  rw [wJ,List.all_reverse] at hd
  simpa [hc] using hd
 ·intro h
  have hd:l.reverse.dropWhile (cs.contains ·)=[]:=by
   rw [wJ,List.all_reverse];simpa [hc] using h
  rw [hd];rfl
theorem Ko {s cs:aS} (h1:s.length≤100000) (h2:cs.length≤100000) (h3:cs.all (fun b=>decide (b.toNat < 128))=true):E1 s cs=some (Lib.trimS s cs):=by
 unfold E1;rw [if_pos ⟨by omega,by omega,h3⟩]
theorem sN (s:aS):vH s=some (cE s):=by
 unfold vH ub
 rw [wa]
 cases s with
 | nil=>rfl
 | cons c r=>
   by_cases hl:(c :: r).length≤40
   ·rw [if_pos (by simp;simp at hl;omega),Ko (by omega) (by simp) (by decide)]
    simp only [Option.bind_some]
    have e:(c :: r).all (fun c=>decide (c∈([97,98,99,100,101,102,103,104,105,106,107,108,109,110,111,112,113,114,115,116,117,118,119,120,121,122,48,49,50,51,52,53,54,55,56,57,45,95]:List UInt8)))=(c :: r).all (fun c=>MD c.toNat):=by
     congr 1;funext c
     exact Km (p:=fun c=>decide (c∈([97,98,99,100,101,102,103,104,105,106,107,108,109,110,111,112,113,114,115,116,117,118,119,120,121,122,48,49,50,51,52,53,54,55,56,57,45,95]:List UInt8))) Ij c
    have e2:=Km (p:=fun c=>decide (c∈([97,98,99,100,101,102,103,104,105,106,107,108,109,110,111,112,113,114,115,116,117,118,119,120,121,122]:List UInt8))) (q:=fun n=>decide (97≤n)&&decide (n≤122)) ME c
    rw [wH,decide_eq_true hl,Bool.true_and,← e,← e2]
    by_cases ht:Lib.trimS (c :: r) ([97,98,99,100,101,102,103,104,105,106,107,108,109,110,111,112,113,114,115,116,117,118,119,120,121,122,48,49,50,51,52,53,54,55,56,57,45,95]:aS)=[]
    ·rw [if_pos ht,(C3 _ _).1 ht,Bool.and_true]
     have i0:idx (c :: r) 0=some c:=rfl
     rw [i0]
     simp only [Option.bind_some,uF,TQ]
     congr 1
     have:=uq ([97,98,99,100,101,102,103,104,105,106,107,108,109,110,111,112,113,114,115,116,117,118,119,120,121,122]:List UInt8) c
     rw [decide_eq_decide]
     constructor
     ·intro h;exact Classical.byContradiction fun h'=>by have:=this.2 h';omega
     ·intro h;have h':=mt this.1 (fun h'=>h' h);omega
    ·rw [if_neg ht]
     have:(c :: r).all (fun c=>decide (c∈([97,98,99,100,101,102,103,104,105,106,107,108,109,110,111,112,113,114,115,116,117,118,119,120,121,122,48,49,50,51,52,53,54,55,56,57,45,95]:List UInt8)))=false:=by
      rw [← Bool.not_eq_true];exact fun h=>ht ((C3 _ _).2 h)
     rw [this,Bool.and_false]
   ·rw [if_neg (by simp;simp at hl;omega),wH,decide_eq_false hl];rfl
theorem wb (n:Int):fJ n=if 0≤n∧n≤345686399999 then 0 else 1:=by
 unfold fJ
 rw [wa]
 by_cases h:0≤n∧n≤345686399999
 ·rw [if_pos h,if_neg (by simp;omega)]
 ·rw [if_neg h,if_pos (by simp;omega)]
theorem Fs (s:aS):pT s=some (if cE s=true then 0 else 5):=by
 unfold pT
 rw [sN]
 simp only [Option.bind_some]
 cases cE s<;>rfl
theorem BI {s:vb} {n K:Int} (hs:tx s K) (hK:1≤K) (h1:1≤n) (h2:n≤4611686018427387904):sT (fo s n) (K - 1) (fun v=>0≤v∧v < n):=
 yB (hs.less (by omega)) h1 h2 (by omega)
theorem wc {s:vb} {n K:Int} (hs:tx s K) (hK:1≤K) (h1:1≤n) (h2:n≤4611686018427387904):sT (fq s n) (K - 1) (fun _=>True):=
 Hn (hs.less (by omega)) h1 h2 (by omega)
theorem pt {s:vb} {l:List Int} {K:Int} (hs:tx s K) (hK:1≤K) (h1:l≠[]) (h2:l.length≤1000):sT (cw s l) (K - 1) (fun v=>v∈l):=
 Hm (hs.less (by omega)) h1 h2 (by omega)
theorem Ho {s:vb} {a b K:Int} (hs:tx s K) (hK:1≤K) (G6:a≤b) (ha:-1152921504606846976≤a) (hb:b≤1152921504606846976):sT (jS s a b) (K - 1) (fun v=>a≤v∧v≤b):=
 Fp (hs.less (by omega)) G6 ha hb (by omega)
theorem uO {s:vb} {l:List aS} {K:Int} (hs:tx s K) (hK:1≤K) (h1:l≠[]) (h2:l.length≤1000):sT (fr s l) (K - 1) (fun v=>v∈l):=
 MC (hs.less (by omega)) h1 h2 (by omega)
theorem Ft {s:vb} {a b K:Int} (hs:tx s K) (hK:2≤K) (G6:a≤b) (ha:-1099511627776≤a) (hb:b≤1099511627776):sT (kB s a b) (K - 2) (fun v=>-1099511627777≤v∧v≤1099511627777):=
 OM (hs.less (by omega)) G6 ha hb (by omega)
def Ok {α:Type} (m:Option α) (Q:α→Prop):Prop:=∃ r,m=some r∧Q r
theorem Ok.ret {α:Type} {v:α} {Q:α→Prop} (h:Q v):Ok (some v) Q:=⟨v,rfl,h⟩
theorem Ok.inr {α β:Type} {m:Option β} {Q:α⊕β→Prop} (h:Ok m (fun r=>Q (.inr r))):Ok (Option.map .inr m) Q:=by
 obtain ⟨r,rfl,h2⟩:=h;exact ⟨_,rfl,h2⟩
theorem Ok.gen {α β:Type} {m:Option (α×vb)} {k:Int} {P:α→Prop} {f:α×vb→Option β} {Q:β→Prop} (h:sT m k P) (hf:∀ v s',P v→tx s' k→Ok (f (v,s')) Q):Ok (m.bind f) Q:=by
 obtain ⟨v,s',rfl,h1,h2⟩:=h;exact hf v s' h1 h2
theorem sT.of {α:Type} {m:Option (α×vb)} {k:Int} {P:α→Prop} (h:Ok m (fun r=>P r.1∧tx r.2 k)):sT m k P:=by
 obtain ⟨⟨v,s⟩,h1,h2,h3⟩:=h;exact ⟨v,s,h1,h2,h3⟩
theorem Ok.idx {α β:Type} {xs:List α} {i:Int} {f:α→Option β} {Q:β→Prop} (h0:0≤i) (h1:i < xs.length) (hf:∀ x,idx xs i=some x→x∈xs→Ok (f x) Q):Ok ((idx xs i).bind f) Q:=by
 obtain ⟨x,hx,hm,_⟩:=ig xs h0 h1
 rw [hx];exact hf x hx hm
theorem Ok.app {α β:Type} {xs ys:List α} {f:List α→Option β} {Q:β→Prop} (h:xs.length+ys.length≤1000000000) (hf:Ok (f (xs++ys)) Q):Ok ((app xs ys).bind f) Q:=by
 rw [jI h];exact hf
abbrev RY {S A:Type} (m:S→Nat) (Inv:S→Prop) (R:A→Prop) (s:S):S⊕A→Prop
 | .inl s'=>Inv s'∧m s' < m s
 | .inr a=>R a
theorem Ok.iter {S A:Type} {f:S→Option (S⊕A)} {R:A→Prop} (m:S→Nat) (Inv:S→Prop)
 (h:∀ s,Inv s→Ok (f s) (RY m Inv R s)) (s:S) (hs:Inv s):Ok (iter f s) R:=by
 refine Kn f m Inv R (fun s hi=>?_) s hs
 obtain ⟨r,h1,h2⟩:=h s hi
 cases r with
 | inl s'=>exact .inl ⟨s',h1,h2.1,h2.2⟩
 | inr a=>exact .inr ⟨a,h1,h2⟩
theorem iW {α σ A X:Type} (xs:List α) (mk:σ→Int→X) (f:X→Option (X⊕A)) (C4:σ→α→σ) (Inv:Int→σ→Prop) (E:σ→Option A)
 (h1:∀ s (i:Int) x,0≤i→i < xs.length→idx xs i=some x→Inv i s→f (mk s i)=some (.inl (mk (C4 s x) (i+1)))∧Inv (i+1) (C4 s x))
 (h2:∀ s,Inv xs.length s→f (mk s xs.length)=Option.map .inr (E s)) (s:σ) (h0:Inv 0 s):iter f (mk s 0)=E (xs.foldl C4 s):=by
 have key:∀ (n:Nat) (s:σ) (i:Int),0≤i→i+n=xs.length→Inv i s→iter f (mk s i)=E ((xs.drop i.toNat).foldl C4 s):=by
  intro n
  induction n with
  | zero=>
    intro s i hi hn hv
    have:i=xs.length:=by omega
    subst this
    rw [iter_eq,h2 s hv,bu]
    simp
  | succ n ih=>
    intro s i hi hn hv
    obtain ⟨x,hx,_,hd⟩:=ig xs hi (by omega)
    obtain ⟨e1,e2⟩:=h1 s i x hi (by omega) hx hv
    rw [iter_eq,e1]
    simp only [Option.bind_some,cJ]
    rw [ih _ _ (by omega) (by omega) e2,hd]
    rfl
 have:=key xs.length s 0 (by omega) (by omega) h0
 simpa using this
theorem take_succ {α:Type} {xs:List α} {i:Int} {x:α} (h0:0≤i) (h:idx xs i=some x):xs.take (i+1).toNat=xs.take i.toNat++[x]:=by
 obtain ⟨_,h1,h2⟩:=gS h
 rw [show (i+1).toNat=i.toNat+1 by omega,List.take_add_one,h2];rfl
theorem Ok.Kp {σ A X:Type} {f:X→Option (X⊕A)} {R:A→Prop} (N:Nat) (mk:σ→Int→X) (Inv:Int→σ→Prop)
 (h:∀ s (i:Int),0≤i→i≤N→Inv i s→Ok (f (mk s i)) (fun r=>(∃ s',r=.inl (mk s' (i+1))∧i < N∧Inv (i+1) s')∨∃ a,r=.inr a∧R a)) (s:σ) (h0:Inv 0 s):Ok (Eng.iter f (mk s 0)) R:=by
 have key:∀ (k:Nat) (s:σ) (i:Int),0≤i→i≤N→i+k=N+1→Inv i s→Ok (Eng.iter f (mk s i)) R:=by
  intro k
  induction k with
  | zero=>
    intro s i hi hN hk hv
    omega
  | succ k ih=>
    intro s i hi hN hk hv
    obtain ⟨r,h1,h2⟩:=h s i hi hN hv
    rw [iter_eq,h1]
    rcases h2 with ⟨s',rfl,h3,h4⟩ | ⟨a,rfl,h3⟩
    ·simp only [Option.bind_some,cJ]
     exact ih s' (i+1) (by omega) (by omega) (by omega) h4
    ·exact ⟨a,rfl,h3⟩
 exact key (N+1) s 0 (by omega) (by omega) (by omega) h0
theorem yC (x:Int) (r:List Int):tN (x :: r)=if x≠0 then x else tN r:=rfl
theorem ps.or {α:Type} {c:α→α→Int} {f:α→α→List Int} (h:ps c) (k:ps fun a b=>tN (f a b)):ps fun a b=>tN (c a b :: f a b):=h.lex k
theorem ps.RZ {α:Type}:ps (fun (_ _:α)=>tN []):=⟨fun _ _=>rfl,fun h _=>absurd h (by simp [tN]),fun _ h=>absurd h (by simp [tN])⟩
theorem qO:∀ {l:List Int},tN l=0→∀ x∈l,x=0
 | [],_,x,hx=>by simp at hx
 | y :: r,h,x,hx=>by
   rw [yC] at h
   by_cases h0:y=0
   ·rw [if_neg (by simpa using h0)] at h
    rcases List.mem_cons.1 hx with rfl | hx
    ·exact h0
    ·exact qO h x hx
   ·rw [if_pos h0] at h;exact absurd h h0
def vj {α:Type} [DecidableEq α] (acc:List α) (x:α):List α:=if x∈acc then acc else acc++[x]
theorem Gt {α:Type} [DecidableEq α] {acc:List α} {x:α} (h:acc.Nodup):(vj acc x).Nodup:=by
 unfold vj
 split
 ·exact h
 ·rename_i hx
  exact List.nodup_append.2 ⟨h,by simp,fun a ha b hb=>by rw [List.mem_singleton.1 hb];exact fun e=>hx (e▸ha)⟩
theorem Kq {α:Type} [DecidableEq α] {acc:List α} {x y:α}:y∈vj acc x↔y∈acc∨y=x:=by
 unfold vj
 split
 ·rename_i hx
  exact ⟨.inl,fun h=>h.elim id fun e=>e▸hx⟩
 ·simp
theorem Kr {α:Type} [DecidableEq α] (acc:List α) (x:α):(vj acc x).length≤acc.length+1:=by
 unfold vj;split<;>simp
theorem uP {α:Type} [DecidableEq α]:∀ (r acc:List α),acc.Nodup→(r.foldl vj acc).Nodup∧(∀ y,y∈r.foldl vj acc↔y∈acc∨y∈r)∧(r.foldl vj acc).length≤acc.length+r.length
 | [],acc,h=>⟨h,fun y=>by simp,by simp⟩
 | x :: r,acc,h=>by
   obtain ⟨i1,i2,i3⟩:=uP r (vj acc x) (Gt h)
   have:=Kr acc x
   refine ⟨i1,fun y=>?_,by simp only [List.foldl_cons,List.length_cons];omega⟩
   rw [List.foldl_cons,i2 y,Kq];simp [or_assoc]
theorem uQ {α:Type} {st:Option α→α→Int}:∀ (xs:List α) (p:Option α),mi st p xs=0→∀ (i:Nat) x,xs[i]? =some x→st (if i=0 then p else xs[i - 1]?) x=0
 | [],_,_,i,x,h=>by simp at h
 | s :: r,p,h,i,x,hx=>by
   simp only [mi] at h
   split at h
   ·rename_i h0
    match i with
    | 0=>simp at hx;subst hx;exact h0
    | i+1=>
      have:=uQ r (some s) h i x (by simpa using hx)
      rw [if_neg (by omega)]
      match i with
      | 0=>simpa using this
      | i+1=>simpa using this
   ·exact absurd h ‹_›
theorem wK {α:Type} {c:α→α→Int} (hc:ps c):∀ xs:List α,(∀ (i:Nat) x y,xs[i]? =some x→xs[i+1]? =some y→c x y < 0)→xs.Pairwise (fun a b=>c a b < 0)
 | [],_=>.nil
 | [x],_=>by simp
 | x :: y :: r,h=>by
   have ih:=wK hc (y :: r) (fun i a b h1 h2=>h (i+1) a b (by simpa using h1) (by simpa using h2))
   have FR:=h 0 x y rfl rfl
   refine List.pairwise_cons.2 ⟨fun z hz=>?_,ih⟩
   rcases List.mem_cons.1 hz with rfl | hz
   ·exact FR
   ·exact hc.tr FR ((List.pairwise_cons.1 ih).1 z hz)
theorem Ks {α:Type} {c:α→α→Int} (hc:ps c) {xs:List α} (h:xs.Pairwise (fun a b=>c a b < 0)):Gs c xs:=h.imp fun {a b} G6 hba=>by have:=hc.neg a b;omega
theorem yD {α:Type} {c:α→α→Int} (hc:ps c) {xs:List α} (h:xs.Pairwise (fun a b=>c a b < 0)):xs.Nodup:=h.imp fun {a b} G6 e=>by subst e;have:=hc.zero a;omega
def AD {α:Type} [DecidableEq α] (xs:List α) (x:α) (n3:Int):Option (Int⊕Int):=
 if n3 < (xs.length:Int) then
  (idx xs n3).bind fun v4=>
  if x=v4 then
   Option.map .inr (some n3)
  else
   some (.inl (aN (n3+(1:Int))))
 else
  Option.map .inr (some (-1:Int))
noncomputable def Kt {α:Type} [DecidableEq α] (xs:List α) (x:α):Option Bool:=(iter (fun n:Int=>AD xs x n) 0).bind fun v2=>some (decide ((0:Int)≤v2))
theorem Ku {α:Type} [DecidableEq α] (xs:List α) (x:α) (hl:(xs.length:Int)≤4611686018427387904):Kt xs x=some (decide (x∈xs)):=by
 have key:∀ (m:Nat) (n:Int),0≤n→n+m=xs.length→∃ j,iter (fun n:Int=>AD xs x n) n=some j∧(0≤j↔x∈xs.drop n.toNat):=by
  intro m
  induction m with
  | zero=>
    intro n h0 hn
    refine ⟨-1,?_,?_⟩
    ·rw [iter_eq,AD,if_neg (by omega),bu]
    ·rw [List.drop_of_length_le (by omega)];simp
  | succ m ih=>
    intro n h0 hn
    obtain ⟨s,hs,_,hd⟩:=ig xs h0 (by omega)
    rw [iter_eq,AD,if_pos (by omega),hs]
    simp only [Option.bind_some]
    by_cases e:x=s
    ·rw [if_pos e,bu]
     exact ⟨n,rfl,by rw [hd,← e];simp;omega⟩
    ·rw [if_neg e,bg (by omega) (by omega)]
     simp only [Option.bind_some,cJ]
     obtain ⟨j,j1,j2⟩:=ih (n+1) (by omega) (by omega)
     exact ⟨j,j1,by rw [hd,j2];simp [e]⟩
 obtain ⟨j,j1,j2⟩:=key xs.length 0 (by omega) (by omega)
 unfold Kt
 rw [j1]
 simp only [Option.bind_some]
 congr 1
 exact decide_eq_decide.2 (by simpa using j2)
def sO (a b:Signal):Int:=tN [qN a.At b.At,Lib.compareBytes a.Device b.Device,Lib.compareBytes a.aZ b.aZ,qN a.Kind b.Kind]
theorem MF:ps sO:=(DU.on Signal.At).or ((tH.on Signal.Device).or ((tH.on Signal.aZ).or ((DU.on Signal.Kind).or .RZ)))
theorem DX (a b:Signal):mS a b=some (sO a b):=by
 unfold mS
 rw [lK,lK]
 have h:gj [qN a.At b.At,Lib.compareBytes a.Device b.Device,Lib.compareBytes a.aZ b.aZ,qN a.Kind b.Kind]=some (sO a b):=vY _ (by simp)
 rw [h];rfl
theorem sP (a b:Signal):jm a b=some (sO a b):=by
 unfold jm
 rw [lK,lK]
 have h:gj [qN a.At b.At,Lib.compareBytes a.Device b.Device,Lib.compareBytes a.aZ b.aZ,qN a.Kind b.Kind]=some (sO a b):=vY _ (by simp)
 rw [h];rfl
def Ei (x:Signal):Prop:=(-4398046511104≤x.At∧x.At≤4398046511104)∧(-4398046511104≤x.bh∧x.bh≤4398046511104)
def Fu (n:Int):Bool:=decide (0≤n)&&decide (n≤345686399999)
def zS (s:Signal):Int:=
 if Fu s.At=false then 1 else if (cE s.Device&&cE s.aZ)=false then 5 else if s.Kind < 1∨5 < s.Kind then 4 else if 3≤s.Kind∧cE s.By=false then 5 else if ¬ 3≤s.Kind∧s.By≠[] then 3
 else if s.Kind=4∧(s.bh < s.At+1∨s.At+2592000000 < s.bh∨345686400000 < s.bh) then 1 else if ¬ s.Kind=4∧s.bh≠0 then 3 else 0
def xI (prev:Option Signal) (s:Signal):Int:=if zS s≠0 then zS s else match prev with
 | none=>0
 | some p=>if sO s p≤0 then 7 else 0
def r8 (xs:List Signal):Int:=if (5000:Int) < xs.length then 2 else mi xI none xs
theorem BJ {s:Signal} (hB:Ei s):j9 s=some (zS s):=by
 unfold Ei at hB
 unfold j9 zS
 rw [wI,show (decide (0≤s.At)&&decide (s.At≤345686399999))=Fu s.At from rfl]
 simp only [uN,Option.bind_some]
 cases hm:Fu s.At
 ·simp
 ·simp only [Bool.not_true,Bool.false_eq_true,if_false,Bool.true_eq_false]
  have key:fY s (!(cE s.Device&&cE s.aZ))=some (if (cE s.Device&&cE s.aZ)=false then 5 else if s.Kind < 1∨5 < s.Kind then 4 else if 3≤s.Kind∧cE s.By=false then 5 else if ¬ 3≤s.Kind∧s.By≠[] then 3
   else if s.Kind=4∧(s.bh < s.At+1∨s.At+2592000000 < s.bh∨345686400000 < s.bh) then 1 else if ¬ s.Kind=4∧s.bh≠0 then 3 else 0):=by
   unfold fY
   cases hk:(cE s.Device&&cE s.aZ)
   ·simp
   ·simp only [Bool.not_true,Bool.false_eq_true,if_false,Bool.true_eq_false]
    rw [xH,uN]
    simp only [Option.bind_some]
    by_cases h3:s.Kind < 1∨5 < s.Kind
    ·rw [if_pos h3,if_pos (by simp only [Bool.or_eq_true,decide_eq_true_eq];exact h3)]
    ·rw [if_neg h3,if_neg (by simp only [Bool.or_eq_true,decide_eq_true_eq];exact h3)]
     have j2:∀ c:Bool,c=decide (3≤s.Kind∧cE s.By=false)→fX s c=some (if 3≤s.Kind∧cE s.By=false then 5 else if ¬ 3≤s.Kind∧s.By≠[] then 3
      else if s.Kind=4∧(s.bh < s.At+1∨s.At+2592000000 < s.bh∨345686400000 < s.bh) then 1 else if ¬ s.Kind=4∧s.bh≠0 then 3 else 0):=by
      rintro c rfl
      unfold fX j8 j6 jZ
      rw [bg (by omega) (by omega),bg (by omega) (by omega),xH]
      by_cases h4:3≤s.Kind∧cE s.By=false
      ·rw [if_pos h4,decide_eq_true h4,if_pos rfl]
      ·rw [if_neg h4,decide_eq_false h4,if_neg Bool.false_ne_true]
       by_cases h5:¬ 3≤s.Kind∧s.By≠[]
       ·rw [if_pos h5,if_pos (by simp only [Bool.and_eq_true,decide_eq_true_eq];exact h5)]
       ·rw [if_neg h5,if_neg (by simp only [Bool.and_eq_true,decide_eq_true_eq];exact h5)]
        by_cases h6:s.Kind=4∧(s.bh < s.At+1∨s.At+2592000000 < s.bh∨345686400000 < s.bh)
        ·rw [if_pos h6,if_pos (by simp only [Bool.and_eq_true,Bool.or_eq_true,decide_eq_true_eq];omega)]
        ·rw [if_neg h6,if_neg (by simp only [Bool.and_eq_true,Bool.or_eq_true,decide_eq_true_eq];omega)]
         by_cases h7:¬ s.Kind=4∧s.bh≠0
         ·rw [if_pos h7,if_pos (by simp only [Bool.and_eq_true,decide_eq_true_eq];exact h7)]
         ·rw [if_neg h7,if_neg (by simp only [Bool.and_eq_true,decide_eq_true_eq];exact h7)]
     by_cases h4:3≤s.Kind
     ·rw [if_pos h4];exact j2 _ (by cases cE s.By<;>simp [h4])
     ·rw [if_neg h4];exact j2 _ (by simp [h4])
  cases hd:cE s.Device
  ·rw [hd] at key;simpa using key
  ·rw [hd] at key;simpa using key
theorem ri {xs:List Signal} (hB:∀ x∈xs,Ei x):fR xs=some (r8 xs):=by
 unfold fR r8
 split
 ·rfl
 ·rename_i hl
  unfold pK
  refine yz xI xs _ (fun {i s} h0 h1 hs=>?_) (by show cS xs _=_;rw [cS,if_neg (by omega)];rfl)
  show cS xs i=_
  rw [cS,if_pos h1,hs]
  simp only [Option.bind_some]
  rw [BJ (hB s (r5 hs))]
  unfold xI
  simp only [Option.bind_some]
  by_cases hb:zS s=0
  ·simp only [hb,ne_eq,not_true_eq_false,if_false]
   unfold gU
   rw [bg (x:=i+1) (by omega) (by omega)]
   by_cases hi:0 < i
   ·obtain ⟨p,hp,_,_⟩:=ig xs (i:=i - 1) (by omega) (by omega)
    have z8:bY xs i=some p:=by unfold bY;rw [if_neg (by omega),hp]
    rw [z8,if_pos hi,bg (by omega) (by omega),hp]
    simp only [Option.bind_some,DX]
    by_cases hb:sO s p≤0
    ·simp [hb]
    ·simp [hb]
   ·have z8:bY xs i=none:=by unfold bY;rw [if_pos (by omega)]
    rw [z8,if_neg hi];simp
  ·rw [if_pos hb,if_pos hb,if_neg hb];rfl
theorem vc {xs:List Signal} (hB:∀ x∈xs,Ei x):k7 xs=some (r8 xs):=by
 unfold k7 r8
 split
 ·rfl
 ·rename_i hl
  unfold tp
  refine yz xI xs _ (fun {i s} h0 h1 hs=>?_) (by show fy xs _=_;rw [fy,if_neg (by omega)];rfl)
  have hS:=hB s (r5 hs)
  unfold Ei at hS
  show fy xs i=_
  rw [fy,if_pos h1,hs]
  simp only [Option.bind_some]
  rw [wb,sN,sN]
  simp only [Option.bind_some]
  unfold xI zS
  have QF:(Fu s.At=false)↔¬ (0≤s.At∧s.At≤345686399999):=by
   unfold Fu
   rw [← Bool.decide_and,decide_eq_false_iff_not]
  by_cases hm:0≤s.At∧s.At≤345686399999
  ·rw [if_neg (by rw [if_pos hm];simp),if_neg (c:=Fu s.At=false) (fun h=>QF.1 h hm)]
   have key:∀ c:Bool,c=!(cE s.Device&&cE s.aZ)→iS xs i s c=some (if (if (cE s.Device&&cE s.aZ)=false then (5:Int) else if s.Kind < 1∨5 < s.Kind then 4 else if 3≤s.Kind∧cE s.By=false then 5 else if ¬ 3≤s.Kind∧s.By≠[] then 3
    else if s.Kind=4∧(s.bh < s.At+1∨s.At+2592000000 < s.bh∨345686400000 < s.bh) then 1 else if ¬ s.Kind=4∧s.bh≠0 then 3 else 0)≠0 then .inr (if (cE s.Device&&cE s.aZ)=false then 5 else if s.Kind < 1∨5 < s.Kind then 4 else if 3≤s.Kind∧cE s.By=false then 5 else if ¬ 3≤s.Kind∧s.By≠[] then 3
    else if s.Kind=4∧(s.bh < s.At+1∨s.At+2592000000 < s.bh∨345686400000 < s.bh) then 1 else if ¬ s.Kind=4∧s.bh≠0 then 3 else 0) else match bY xs i with
     | none=>.inl (i+1)
     | some p=>if sO s p≤0 then .inr 7 else .inl (i+1)):=by
    rintro c rfl
    unfold iS
    cases hk:(cE s.Device&&cE s.aZ)
    ·simp
    ·simp only [Bool.not_true,Bool.false_eq_true,if_false,Bool.true_eq_false]
     rw [wa,sN]
     simp only [Option.bind_some]
     by_cases h3:s.Kind < 1∨5 < s.Kind
     ·rw [if_pos h3,if_pos (by simp only [Bool.not_eq_true',Bool.and_eq_false_iff,decide_eq_false_iff_not];omega)];simp
     ·rw [if_neg h3,if_neg (by simp only [Bool.not_eq_true',Bool.and_eq_false_iff,decide_eq_false_iff_not];omega)]
      have j2:∀ c:Bool,c=decide (3≤s.Kind∧cE s.By=false)→iR xs i s c=some (if (if 3≤s.Kind∧cE s.By=false then (5:Int) else if ¬ 3≤s.Kind∧s.By≠[] then 3
       else if s.Kind=4∧(s.bh < s.At+1∨s.At+2592000000 < s.bh∨345686400000 < s.bh) then 1 else if ¬ s.Kind=4∧s.bh≠0 then 3 else 0)≠0 then .inr (if 3≤s.Kind∧cE s.By=false then 5 else if ¬ 3≤s.Kind∧s.By≠[] then 3
       else if s.Kind=4∧(s.bh < s.At+1∨s.At+2592000000 < s.bh∨345686400000 < s.bh) then 1 else if ¬ s.Kind=4∧s.bh≠0 then 3 else 0) else match bY xs i with
        | none=>.inl (i+1)
        | some p=>if sO s p≤0 then .inr 7 else .inl (i+1)):=by
       rintro c rfl
       unfold iR mF mE mD
       rw [bg (by omega) (by omega),bg (by omega) (by omega),wa]
       by_cases h4:3≤s.Kind∧cE s.By=false
       ·rw [if_pos h4,decide_eq_true h4,if_pos rfl];simp
       ·rw [if_neg h4,decide_eq_false h4,if_neg Bool.false_ne_true]
        by_cases h5:¬ 3≤s.Kind∧s.By≠[]
        ·rw [if_pos h5,if_pos (by simp only [Bool.and_eq_true,decide_eq_true_eq];exact h5)];simp
        ·rw [if_neg h5,if_neg (by simp only [Bool.and_eq_true,decide_eq_true_eq];exact h5)]
         by_cases h6:s.Kind=4∧(s.bh < s.At+1∨s.At+2592000000 < s.bh∨345686400000 < s.bh)
         ·rw [if_pos h6,if_pos (by simp only [Bool.and_eq_true,Bool.not_eq_true',Bool.and_eq_false_iff,decide_eq_true_eq,decide_eq_false_iff_not];omega)];simp
         ·rw [if_neg h6,if_neg (by simp only [Bool.and_eq_true,Bool.not_eq_true',Bool.and_eq_false_iff,decide_eq_true_eq,decide_eq_false_iff_not];omega)]
          by_cases h7:¬ s.Kind=4∧s.bh≠0
          ·rw [if_pos h7,if_pos (by simp only [Bool.and_eq_true,decide_eq_true_eq];exact h7)];simp
          ·rw [if_neg h7,if_neg (by simp only [Bool.and_eq_true,decide_eq_true_eq];exact h7),if_neg (c:=(0:Int)≠0) (by simp)]
           unfold ko
           rw [bg (x:=i+1) (by omega) (by omega)]
           by_cases hi:0 < i
           ·obtain ⟨p,hp,_,_⟩:=ig xs (i:=i - 1) (by omega) (by omega)
            have z8:bY xs i=some p:=by unfold bY;rw [if_neg (by omega),hp]
            rw [z8,if_pos hi,bg (by omega) (by omega),hp]
            simp only [Option.bind_some,sP]
            have hn:=MF.neg p s
            by_cases hb:sO s p≤0
            ·rw [if_pos hb,if_pos (by simp only [decide_eq_true_eq];omega)];rfl
            ·rw [if_neg hb,if_neg (by simp only [decide_eq_true_eq];omega)]
           ·have z8:bY xs i=none:=by unfold bY;rw [if_pos (by omega)]
            rw [z8,if_neg hi];rfl
      by_cases h4:3≤s.Kind
      ·rw [if_pos h4];exact j2 _ (by cases cE s.By<;>simp [h4])
      ·rw [if_neg h4];exact j2 _ (by simp [h4])
   have fin:∀ (b:Int),(some (if b≠0 then Sum.inr b else match bY xs i with
    | none=>Sum.inl (i+1)
    | some p=>if sO s p≤0 then Sum.inr 7 else Sum.inl (i+1)):Option (Int⊕Int))=some (if (if b≠0 then b else match bY xs i with
    | none=>0
    | some p=>if sO s p≤0 then 7 else 0)=0 then .inl (i+1) else .inr (if b≠0 then b else match bY xs i with
    | none=>0
    | some p=>if sO s p≤0 then 7 else 0)):=by
    intro b
    by_cases hb:b=0
    ·subst hb
     cases bY xs i with
     | none=>simp
     | some p=>by_cases h:sO s p≤0<;>simp [h]
    ·rw [if_pos hb,if_pos hb,if_neg hb]
   rw [← fin]
   cases hd:cE s.Device
   ·have k:=key true (by rw [hd];rfl)
    rw [hd] at k;exact k
   ·have k:=key (!cE s.aZ) (by rw [hd];simp)
    rw [hd] at k;exact k
  ·rw [if_pos (by rw [if_neg hm];simp),if_pos (QF.2 hm)]
   simp
def ZS:Signal:=⟨0,0,[],[],[],0⟩
theorem Fv (f:Signal→Signal→Option Int) (xs:List Signal) (hl:(xs.length:Int) < 20) (hf:∀ x∈xs,∀ y∈xs,f x y=some (sO x y)):∃ Z,iK xs.length (fun r:List Signal=>r.length) (ck xs f)=some Z∧Z.Perm xs∧Gs sO Z:=by
 obtain ⟨Z,h1,h2,h3⟩:=Mv f sO xs (by omega) hf (MF.ord xs)
 have FQ:ct xs 0 xs.length f=some Z:=h1
 have hlen:=h2.length_eq
 refine ⟨Z,?_,h2,h3⟩
 have hs:ef xs xs.length f=some Z:=by
  unfold ef kW
  rw [iter_eq,dc,if_neg (by simp only;omega),bu]
  unfold gW
  simp only
  rw [xG FQ hlen]
  simp only [Option.bind_some]
  unfold kV
  rw [iter_eq,db,if_neg (by simp only;omega),bu]
 refine xG ?_ hlen
 unfold ck
 rw [xG hs hlen];rfl
theorem DY (f:Signal→Signal→Option Bool) (e:Signal→Signal→Bool) (xs:List Signal) (hl:(xs.length:Int)≤100000) (hf:∀ x∈xs,∀ y∈xs,f x y=some (e x y)):eh xs f=some (dd e xs):=Ki ZS f e xs hl hf
theorem MG {xs:List Signal} (h:r8 xs=0):xs.Pairwise (fun a b=>sO a b < 0)∧∀ x∈xs,zS x=0:=by
 unfold r8 at h
 split at h
 ·cases h
 ·have hz:=uQ xs none h
  refine ⟨wK MF xs (fun i x y hx hy=>?_),fun x hx=>?_⟩
  ·have:=hz (i+1) y hy
   rw [if_neg (by omega),show i+1 - 1=i by omega,hx] at this
   unfold xI at this
   have hn:=MF.neg x y
   split at this
   ·rename_i h0;exact absurd this h0
   ·simp only at this
    split at this
    ·cases this
    ·omega
  ·obtain ⟨i,hi,rfl⟩:=List.getElem_of_mem hx
   have:=hz i xs[i] (by simp [hi])
   unfold xI at this
   split at this
   ·rename_i h0;exact absurd this h0
   ·rename_i h0;simpa using h0
def Fw (P:Signal→Prop) (k:Int) (l:List Signal):Prop:=(l.length:Int)≤k∧∀ x∈l,P x
def Fx (x:Signal):Prop:=(0≤x.At∧x.At≤1000)∧(0≤x.bh∧x.bh≤2000)
abbrev SG:=Fw Ei
abbrev ON:=Fw Fx
theorem Fw.perm {P:Signal→Prop} {k:Int} {l Z:List Signal} (h:Fw P k l) (hp:Z.Perm l):Fw P k Z:=⟨by rw [hp.length_eq];exact h.1,fun c hc=>h.2 c (hp.mem_iff.1 hc)⟩
theorem Fw.sub {P:Signal→Prop} {k:Int} {l Z:List Signal} (h:Fw P k l) (hp:Z.Sublist l):Fw P k Z:=⟨by have:=hp.length_le;have:=h.1;omega,fun c hc=>h.2 c (hp.subset hc)⟩
theorem Fw.snoc {P:Signal→Prop} {k:Int} {l:List Signal} (h:Fw P k l) {c:Signal} (hc:P c):Fw P (k+1) (l++[c]):=
 ⟨by have:=h.1;simp;omega,fun x hx=>by
  rcases List.mem_append.1 hx with e | e
  ·exact h.2 x e
  ·rw [List.mem_singleton] at e;subst e;exact hc⟩
theorem Fw.mono {P Q:Signal→Prop} {k:Int} {l:List Signal} (h:Fw P k l) (hp:∀ x,P x→Q x):Fw Q k l:=⟨h.1,fun x hx=>hp x (h.2 x hx)⟩
theorem Fw.set {P:Signal→Prop} {k:Int} {l:List Signal} (h:Fw P k l) {c:Signal} (hc:P c) (i:Nat):Fw P k (l.set i c):=⟨by simpa using h.1,QE h.2 hc⟩
theorem Fx.w {x:Signal} (h:Fx x):Ei x:=by unfold Fx at h;unfold Ei;omega
theorem TW {a b c v:Int} (h:v∈[a,b,c]):v=a∨v=b∨v=c:=by simpa using h
theorem TX {a b c d v:Int} (h:v∈[a,b,c,d]):v=a∨v=b∨v=c∨v=d:=by simpa using h
theorem Ik {s:vb} {p:Bool} {many K:Int} (hs:tx s K) (hm:0≤many∧many≤15) (hK:200≤K):sT (mN s many p) (K - 200) (SG many):=by
 refine sT.of ?_
 unfold mN
 refine Ok.gen (BI hs (by omega) (by omega) (by omega)) (fun v0 s0 hv0 q0=>?_)
 dsimp only
 unfold td
 refine Ok.iter (fun x:List Int×Int×List Signal×Int×Int=>(many - x.2.2.2.2).toNat) (fun x:List Int×Int×List Signal×Int×Int=>0≤x.2.2.2.2∧x.2.2.2.2≤many∧tx ⟨x.1,x.2.1⟩ (K - 190+10 * (many - x.2.2.2.2))∧ON x.2.2.2.2 x.2.2.1∧(0≤x.2.2.2.1∧x.2.2.2.1≤20+40 * x.2.2.2.2)) ?_ _ ⟨by simp,by simp only;omega,q0.less (by simp only;omega),⟨by simp,by simp⟩,by simp only;omega⟩
 rintro ⟨L,a,l,t,n⟩ ⟨g0,g1,g2,g3,g4⟩
 simp only at g0 g1 g2 g3 g4 ⊢
 have Ot:=g3.1
 unfold jX
 by_cases hn:n < many
 ·rw [if_pos hn]
  refine Ok.gen (pt g2 (by omega) (by simp) (by simp)) (fun p1 s1 h1 q1=>?_)
  refine Ok.gen (uO q1 (by omega) (by simp) (by simp)) (fun p2 s2 h2 q2=>?_)
  refine Ok.gen (uO q2 (by omega) (by simp) (by simp)) (fun p3 s3 h3 q3=>?_)
  dsimp only
  have j3:∀ (Nt Nu:aS×vb) (kd:Int) (q:aS) (L':List Int) (a' u:Int),(0≤u∧u≤1000)→tx ⟨L',a'⟩ (K - 190+10 * (many - n - 1)+1)→
   Ok (iL l t n Nt Nu kd q L' a' u) (RY (fun x:List Int×Int×List Signal×Int×Int=>(many - x.2.2.2.2).toNat) (fun x:List Int×Int×List Signal×Int×Int=>0≤x.2.2.2.2∧x.2.2.2.2≤many∧tx ⟨x.1,x.2.1⟩ (K - 190+10 * (many - x.2.2.2.2))∧ON x.2.2.2.2 x.2.2.1∧(0≤x.2.2.2.1∧x.2.2.2.1≤20+40 * x.2.2.2.2)) (fun r=>SG many r.1∧tx r.2 (K - 200)) (L,a,l,t,n)):=by
   intro Nt Nu kd q L' a' u hu xE
   unfold iL
   refine Ok.app (by simp;omega) ?_
   refine Ok.gen (pt xE (by omega) (by simp) (by simp)) (fun w s5 hw q5=>?_)
   have Q4:0≤w∧w≤40:=DW hw (by decide)
   dsimp only
   refine Ok.ret ?_
   rw [bg (x:=t+w) (by omega) (by omega),bg (x:=n+1) (by omega) (by omega)]
   exact ⟨⟨by simp only;omega,by simp only;omega,q5.less (by simp only;omega),g3.snoc (by unfold Fx;simp only;omega),by simp only;omega⟩,by simp only;omega⟩
  have j2:∀ (Nt Nu:aS×vb) (kd:Int) (L':List Int) (a':Int) (q:aS),tx ⟨L',a'⟩ (K - 190+10 * (many - n - 1)+2)→
   Ok (iM l t n Nt Nu kd L' a' q) (RY (fun x:List Int×Int×List Signal×Int×Int=>(many - x.2.2.2.2).toNat) (fun x:List Int×Int×List Signal×Int×Int=>0≤x.2.2.2.2∧x.2.2.2.2≤many∧tx ⟨x.1,x.2.1⟩ (K - 190+10 * (many - x.2.2.2.2))∧ON x.2.2.2.2 x.2.2.1∧(0≤x.2.2.2.1∧x.2.2.2.1≤20+40 * x.2.2.2.2)) (fun r=>SG many r.1∧tx r.2 (K - 200)) (L,a,l,t,n)):=by
   intro Nt Nu kd L' a' q xE
   unfold iM
   split
   ·refine Ok.gen (pt xE (by omega) (by simp) (by simp)) (fun w s5 hw q5=>?_)
    have Q4:0≤w∧w≤50:=DW hw (by decide)
    dsimp only
    rw [bg (by omega) (by omega)]
    exact j3 _ _ _ _ _ _ _ (by omega) (q5.less (by omega))
   ·exact j3 _ _ _ _ _ _ _ (by omega) (xE.less (by omega))
  have j1:∀ (Nt Nu:aS×vb) (kd:Int) (L':List Int) (a':Int),tx ⟨L',a'⟩ (K - 190+10 * (many - n - 1)+3)→
   Ok (iN l t n Nt Nu L' a' kd) (RY (fun x:List Int×Int×List Signal×Int×Int=>(many - x.2.2.2.2).toNat) (fun x:List Int×Int×List Signal×Int×Int=>0≤x.2.2.2.2∧x.2.2.2.2≤many∧tx ⟨x.1,x.2.1⟩ (K - 190+10 * (many - x.2.2.2.2))∧ON x.2.2.2.2 x.2.2.1∧(0≤x.2.2.2.1∧x.2.2.2.1≤20+40 * x.2.2.2.2)) (fun r=>SG many r.1∧tx r.2 (K - 200)) (L,a,l,t,n)):=by
   intro Nt Nu kd L' a' xE
   unfold iN
   split
   ·refine Ok.gen (uO xE (by omega) (by simp) (by simp)) (fun w s5 hw q5=>?_)
    exact j2 _ _ _ _ _ _ (q5.less (by omega))
   ·exact j2 _ _ _ _ _ _ (xE.less (by omega))
  split
  ·refine Ok.gen (pt q3 (by omega) (by simp) (by simp)) (fun p4 s4 h4 q4=>?_)
   exact j1 _ _ _ _ _ (q4.less (by omega))
  ·exact j1 _ _ _ _ _ (q3.less (by omega))
 ·rw [if_neg hn]
  refine Ok.inr ?_
  unfold pd
  have yN:ON many l:=⟨by omega,g3.2⟩
  obtain ⟨Z,z1,z2,_⟩:=Fv (fun y0 y1=>jm y0 y1) l (by omega) (fun x hx y hy=>sP x y)
  rw [z1]
  simp only [Option.bind_some]
  refine Ok.gen (wc g2 (by omega) (by omega) (by omega)) (fun b s5 _ q5=>?_)
  dsimp only
  have j5:∀ (Y:List Signal) (L':List Int) (a':Int) (c:Bool),ON many Y→(c=true→0 < (Y.length:Int))→tx ⟨L',a'⟩ (K - 194)→Ok (iO Y L' a' c) (fun r=>SG many r.1∧tx r.2 (K - 200)):=by
   intro Y L' a' c hY hc xE
   have hYl:=hY.1
   unfold iO jW
   split
   ·rename_i h
    have:=hc h
    refine Ok.gen (BI xE (by omega) (by omega) (by omega)) (fun u s6 hu q6=>?_)
    dsimp only
    refine Ok.idx hu.1 hu.2 (fun p hp hpm=>?_)
    have hpB:=hY.2 p hpm
    unfold Fx at hpB
    refine Ok.gen (pt q6 (by omega) (by simp) (by simp)) (fun v s7 hv q7=>?_)
    refine Ok.gen (Ft q7 (by omega) (by omega) (by omega) (by omega)) (fun w s8 _ q8=>?_)
    refine Ok.gen (uO q8 (by omega) (by simp) (by simp)) (fun x s9 _ q9=>?_)
    dsimp only
    rw [bg (x:=p.At+2592000000) (by omega) (by omega),bg (x:=p.At+2592000000+1) (by omega) (by omega)]
    refine Ok.gen (pt q9 (by omega) (by simp) (by simp)) (fun y s10 hy H7=>?_)
    have h1:=TW hv
    have h2:=TX hy
    rw [List.set_set,List.set_set,List.set_set]
    exact Ok.ret ⟨(hY.mono fun x=>Fx.w).set (by unfold Ei;simp only;omega) _,H7.less (by omega)⟩
   ·exact Ok.ret ⟨hY.mono fun x=>Fx.w,xE.less (by omega)⟩
  have j4:∀ (Y:List Signal),ON many Y→Ok (iP (b,s5) Y) (fun r=>SG many r.1∧tx r.2 (K - 200)):=by
   intro Y hY
   unfold iP
   split
   ·rename_i h
    refine Ok.gen (wc q5 (by omega) (by omega) (by omega)) (fun c s6 _ q6=>?_)
    exact j5 Y _ _ c hY (fun _=>h) (q6.less (by omega))
   ·exact j5 Y _ _ false hY (fun h=>by cases h) (q5.less (by omega))
  split
  ·rw [DY (fun y0 y1=>jV y0 y1) (fun x y=>decide (sO x y=0)) Z (by have:=z2.length_eq;omega) (fun x _ y _=>by unfold jV;rw [sP];rfl)]
   exact j4 _ ((yN.perm z2).sub (OK _ _))
  ·exact j4 _ (yN.perm z2)
theorem OO {s:vb} {K:Int} (hs:tx s K) (hK:10≤K):sT (qx s) (K - 10) (fun v=>-1≤v∧v≤345686400000):=by
 refine sT.of ?_
 unfold qx
 refine Ok.gen (BI hs (by omega) (by omega) (by omega)) (fun a s1 ha q1=>?_)
 refine Ok.gen (BI q1 (by omega) (by omega) (by omega)) (fun b s2 hb q2=>?_)
 refine Ok.gen (pt q2 (by omega) (by simp) (by simp)) (fun c s3 hc q3=>?_)
 have Dh:-1≤c∧c≤345686400000:=DW hc (by decide)
 dsimp only
 refine Ok.gen (pt q3 (by omega) (by simp) (by simp)) (fun d s4 hd q4=>?_)
 refine Ok.ret ⟨?_,q4.less (by omega)⟩
 simp only [List.mem_cons,List.not_mem_nil,or_false] at hd
 simp only
 omega
def iT (l:List ao) (t:Int):List ao:=l.set (l.length - 1) ⟨(l.getD (l.length - 1) ⟨0,0⟩).dR,t⟩
theorem ni (l:List ao) (t:Int):(iT l t).length=l.length:=by unfold iT;simp
abbrev sj (n:Int):Prop:=n=1∨n=2
def nj (x:ar) (st t:Int):ar:=
 ⟨x.bz,st,t,x.aQ,x.az,
   if sj st∧¬ sj x.aK then (if sj x.aK∧¬ sj st then iT x.nH t else x.nH)++[⟨t,345686400000⟩] else if sj x.aK∧¬ sj st then iT x.nH t else x.nH,
   if st=1 then (if x.aK=1 then iT x.bN t else x.bN)++[⟨t,345686400000⟩] else if x.aK=1 then iT x.bN t else x.bN,
   x.bx,x.cq,x.bH⟩
def OP (x:ar) (t:Int):ar:=⟨x.bz,x.aK,x.cr,x.aQ++[t],x.az,x.nH,x.bN,x.bx,x.cq,x.bH⟩
def Kv (x:ar) (t:Int):ar:=⟨x.bz,x.aK,x.cr,x.aQ,x.az,x.nH,x.bN,x.bx,x.cq++[t],x.bH++[t - x.aQ.getD (x.aQ.length - 1) 0]⟩
def Cm (x:ar) (s:Signal):Int×ar:=
 if s.Kind=1 then if sj x.aK then (6,x) else (0,OP (nj x 1 s.At) s.At)
 else if s.Kind=2 then if x.aK=1 then (0,nj x 3 s.At) else if x.aK=2 then (0,nj x 0 s.At) else (11,x)
 else if s.Kind=3 then if x.aK=3 then (0,Kv (nj x 0 s.At) s.At) else if x.aK=1 then (0,Kv (nj x 2 s.At) s.At) else (11,x)
 else if s.Kind=4 then if s.At < x.az then (11,x) else (0,⟨x.bz,x.aK,x.cr,x.aQ,s.bh,x.nH,x.bN,x.bx++[⟨s.At,s.bh⟩],x.cq,x.bH⟩)
 else if x.az≤s.At then (11,x) else (0,⟨x.bz,x.aK,x.cr,x.aQ,s.At,x.nH,x.bN,iT x.bx s.At,x.cq,x.bH⟩)
structure LI (k:Int) (x:ar):Prop where
 fresh:x.aK=1→x.bN≠[]
 up:sj x.aK→x.nH≠[]
 raised:x.aK≠0→x.aQ≠[]
 aside:0 < x.az→x.bx≠[]
 rB:∀ t∈x.aQ,0≤t∧t≤4398046511104
 l1:(x.aQ.length:Int)≤k
 l2:(x.nH.length:Int)≤k
 l3:(x.bN.length:Int)≤k
 l4:(x.bx.length:Int)≤k
 l5:(x.cq.length:Int)≤k
 l6:(x.bH.length:Int)≤k
theorem jG {α:Type} {l:List α} (h:l≠[]) (d:α):idx l ((l.length:Int) - 1)=some (l.getD (l.length - 1) d):=by
 have:0 < l.length:=List.length_pos_iff.2 h
 unfold idx
 rw [if_pos (by omega),show ((l.length:Int) - 1).toNat=l.length - 1 by omega,List.getD_eq_getElem?_getD,List.getElem?_eq_getElem (by omega)];rfl
theorem Fy {l:List ao} (h:l≠[]) (hl:(l.length:Int)≤1000000):gX l=some ((l.length:Int) - 1):=by
 have:0 < l.length:=List.length_pos_iff.2 h
 unfold gX
 rw [bg (by omega) (by omega),jG h ⟨0,0⟩];rfl
theorem sQ {l:List ao} (h:l≠[]) (t:Int) {w:ao} (hw:idx l ((l.length:Int) - 1)=some w):l.set ((l.length:Int) - 1).toNat ⟨w.dR,t⟩=iT l t:=by
 have:0 < l.length:=List.length_pos_iff.2 h
 rw [jG h ⟨0,0⟩] at hw
 unfold iT
 rw [← Option.some.inj hw,show ((l.length:Int) - 1).toNat=l.length - 1 by omega]
theorem yE {k:Int} {x:ar} (h:LI k x) (hk:k≤1000) (st t:Int):gG x st t=some (nj x st t):=by
 have IU:=h.l2;have TY:=h.l3
 have hu:∀ n:Int,(decide (n=1)||decide (n=2))=decide (sj n):=fun n=>by rw [Bool.decide_or]
 unfold gG
 rw [hu,hu]
 have j7:∀ (f u:List ao),jz x st t f u=some ⟨x.bz,st,t,x.aQ,x.az,u,f,x.bx,x.cq,x.bH⟩:=fun _ _=>rfl
 have j5:∀ (u f:List ao),(u.length:Int)≤k→gY x st t (decide (sj x.aK)) (decide (sj st)) u f=some ⟨x.bz,st,t,x.aQ,x.az,if sj st∧¬ sj x.aK then u++[⟨t,345686400000⟩] else u,f,x.bx,x.cq,x.bH⟩:=by
  intro u f TZ
  unfold gY lS
  have hc:(decide (sj st)&&!decide (sj x.aK))=decide (sj st∧¬ sj x.aK):=by simp
  rw [hc]
  by_cases hq:sj st∧¬ sj x.aK
  ·rw [decide_eq_true hq,if_pos rfl,if_pos hq,jI (by simp;omega)];rfl
  ·rw [decide_eq_false hq,if_neg (by simp),if_neg hq];rfl
 have j4:∀ (f u:List ao),(u.length:Int)≤k→(f.length:Int)≤k→gZ x st t (decide (sj x.aK)) (decide (sj st)) f u=some ⟨x.bz,st,t,x.aQ,x.az,if sj st∧¬ sj x.aK then u++[⟨t,345686400000⟩] else u,if st=1 then f++[⟨t,345686400000⟩] else f,x.bx,x.cq,x.bH⟩:=by
  intro f u TZ Iy
  unfold gZ
  by_cases h1:st=1
  ·rw [if_pos h1,if_pos h1,jI (by simp;omega)];exact j5 u _ TZ
  ·rw [if_neg h1,if_neg h1];exact j5 u f TZ
 have j2:∀ (f:List ao),(f.length:Int)≤k→hJ x st t (decide (sj x.aK)) (decide (sj st)) f=some ⟨x.bz,st,t,x.aQ,x.az,if sj st∧¬ sj x.aK then (if sj x.aK∧¬ sj st then iT x.nH t else x.nH)++[⟨t,345686400000⟩] else if sj x.aK∧¬ sj st then iT x.nH t else x.nH,if st=1 then f++[⟨t,345686400000⟩] else f,x.bx,x.cq,x.bH⟩:=by
  intro f Iy
  unfold hJ lT
  have hc:(decide (sj x.aK)&&!decide (sj st))=decide (sj x.aK∧¬ sj st):=by simp
  rw [hc]
  by_cases hq:sj x.aK∧¬ sj st
  ·rw [decide_eq_true hq,if_pos rfl]
   have mJ:=h.up hq.1
   rw [Fy mJ (by omega)]
   simp only [Option.bind_some]
   rw [jG mJ ⟨0,0⟩]
   simp only [Option.bind_some]
   rw [sQ mJ t (jG mJ ⟨0,0⟩),j4 _ _ (by rw [ni];exact IU) Iy]
   simp only [if_pos hq]
  ·rw [decide_eq_false hq,if_neg (by simp),j4 _ _ IU Iy]
   simp only [if_neg hq]
 unfold lU nj
 by_cases h1:x.aK=1
 ·rw [if_pos h1]
  have mJ:=h.fresh h1
  rw [Fy mJ (by omega)]
  simp only [Option.bind_some]
  rw [jG mJ ⟨0,0⟩]
  simp only [Option.bind_some]
  rw [sQ mJ t (jG mJ ⟨0,0⟩),j2 _ (by rw [ni];exact TY)]
  simp only [if_pos h1]
 ·rw [if_neg h1,j2 _ TY]
  simp only [if_neg h1]
theorem follow_eq {k:Int} {x:ar} (h:LI k x) (hk:k≤1000) {s:Signal} (h0:0≤s.At) (hB:Ei s) (hK:1≤s.Kind∧s.Kind≤5):kf x s=some (Cm x s):=by
 unfold Ei at hB
 have QU:=h.l1;have hl5:=h.l5;have Ye:=h.l6;have hl4:=h.l4
 have hu:∀ n:Int,(decide (n=1)||decide (n=2))=decide (sj n):=fun n=>by rw [Bool.decide_or]
 unfold kf Cm
 by_cases k1:s.Kind=1
 ·rw [if_pos k1,if_pos k1,hu]
  unfold ke
  by_cases hq:sj x.aK
  ·rw [decide_eq_true hq,if_pos rfl,if_pos hq]
  ·rw [decide_eq_false hq,if_neg (by simp),if_neg hq,yE h hk]
   simp only [Option.bind_some]
   rw [jI (by show (x.aQ.length+1:Nat)≤_;omega)];rfl
 ·rw [if_neg k1,if_neg k1]
  have low:∀ (mJ:x.aK≠0∨s.Kind=2),dN=dN:=fun _=>rfl
  have QG:∀ y:ar,y.aQ=x.aQ→y.cq=x.cq→y.bH=x.bH→x.aQ≠[]→¬ s.Kind=2→dO s y.bz.aO y.bz.bf y.aK y.cr y.aQ y.az y.nH y.bN y.bx y.cq y.bH=some (0,Kv y s.At):=by
   intro y e1 e2 e3 mJ h2
   unfold dO dN Kv
   have hlen:0 < x.aQ.length:=List.length_pos_iff.2 mJ
   have T3:0≤x.aQ.getD (x.aQ.length - 1) 0∧x.aQ.getD (x.aQ.length - 1) 0≤4398046511104:=h.rB _ (by rw [List.getD_eq_getElem?_getD,List.getElem?_eq_getElem (by omega)];simp)
   rw [if_pos h2,e1,e2,e3,jI (by simp;omega)]
   simp only [Option.bind_some]
   rw [bg (by omega) (by omega),jG mJ 0]
   simp only [Option.bind_some]
   rw [jI (by simp;omega),bg (by omega) (by omega)];rfl
  have Ay:∀ y:ar,s.Kind=2→dO s y.bz.aO y.bz.bf y.aK y.cr y.aQ y.az y.nH y.bN y.bx y.cq y.bH=some (0,y):=by
   intro y h2
   unfold dO dN
   rw [if_neg (fun z=>z h2)]
  by_cases k2:s.Kind=2
  ·rw [if_pos k2,if_pos k2]
   unfold fZ kY jd
   rw [decide_eq_true k2,if_pos rfl,Bool.true_and]
   by_cases s1:x.aK=1
   ·rw [decide_eq_true s1,if_pos rfl,if_pos s1,yE h hk]
    simp only [Option.bind_some]
    rw [Ay _ k2];rfl
   ·rw [decide_eq_false s1,if_neg (by simp),if_neg s1]
    unfold jc
    by_cases s2:x.aK=2
    ·rw [decide_eq_true s2,Bool.true_and,if_pos rfl,if_pos s2]
     unfold fm fl
     rw [if_pos (by rfl),yE h hk]
     simp only [Option.bind_some]
     rw [Ay _ k2];rfl
    ·rw [decide_eq_false s2,if_neg (by simp),if_neg s2]
     unfold jb fm ja
     rw [if_neg (by simp [k2]),if_neg (by simp [k2])];rfl
  ·rw [if_neg k2,if_neg k2]
   unfold fZ
   by_cases k3:s.Kind=3
   ·rw [decide_eq_true k3,if_pos rfl,if_pos k3]
    unfold kY jd
    rw [decide_eq_false k2,if_neg (by simp)]
    unfold jc
    rw [if_neg (by simp)]
    unfold jb fm
    by_cases s3:x.aK=3
    ·rw [if_pos (by simp [k2,s3]),if_pos s3,yE h hk]
     simp only [Option.bind_some]
     unfold fl
     rw [QG (nj x 0 s.At) rfl rfl rfl (h.raised (by omega)) k2];rfl
    ·rw [if_neg (by simp [s3]),if_neg s3]
     unfold ja
     by_cases s1:x.aK=1
     ·rw [if_pos (by simp [k2,s1]),if_pos s1,yE h hk]
      simp only [Option.bind_some]
      unfold fl
      rw [QG (nj x 2 s.At) rfl rfl rfl (h.raised (by omega)) k2];rfl
     ·rw [if_neg (by simp [s1]),if_neg s1];rfl
   ·rw [decide_eq_false k3,if_neg (by simp),if_neg k3]
    by_cases k4:s.Kind=4
    ·rw [if_pos k4,if_pos k4]
     by_cases hs:s.At < x.az
     ·rw [if_pos hs,if_pos hs]
     ·rw [if_neg hs,if_neg hs,jI (by simp;omega)];rfl
    ·rw [if_neg k4,if_neg k4]
     by_cases hs:x.az≤s.At
     ·rw [if_pos hs,if_pos hs]
     ·rw [if_neg hs,if_neg hs]
      have mJ:=h.aside (by omega)
      rw [bg (by omega) (by omega),jG mJ ⟨0,0⟩]
      simp only [Option.bind_some]
      rw [sQ mJ s.At (jG mJ ⟨0,0⟩)]
theorem Kw {x:ar} {st t:Int} (h:st=1):(nj x st t).bN≠[]:=by
 unfold nj
 simp only [h,if_true]
 simp
theorem nI {k:Int} {x:ar} (h:LI k x) {st t:Int} (hs:sj st):(nj x st t).nH≠[]:=by
 unfold nj
 simp only
 by_cases hx:sj x.aK
 ·rw [if_neg (fun z=>z.2 hx),if_neg (fun z=>z.2 hs)];exact h.up hx
 ·rw [if_pos ⟨hs,hx⟩];simp
theorem QH (x:ar) (st t:Int):(nj x st t).nH.length≤x.nH.length+1:=by
 unfold nj
 simp only
 repeat' split
 all_goals simp [ni]
theorem QI (x:ar) (st t:Int):(nj x st t).bN.length≤x.bN.length+1:=by
 unfold nj
 simp only
 repeat' split
 all_goals simp [ni]
theorem LI.mono {k k':Int} {x:ar} (h:LI k x) (hk:k≤k'):LI k' x:=
 ⟨h.fresh,h.up,h.raised,h.aside,h.rB,by have:=h.l1;omega,by have:=h.l2;omega,by have:=h.l3;omega,by have:=h.l4;omega,by have:=h.l5;omega,by have:=h.l6;omega⟩
theorem LI.DZ {k:Int} {x:ar} (h:LI k x) {st t:Int} (hr:st≠0→x.aQ≠[]):LI (k+1) (nj x st t):=
 ⟨fun h1=>Kw h1,fun h1=>nI h h1,hr,h.aside,h.rB,by have:=h.l1;show (x.aQ.length:Int)≤_;omega,by have:=h.l2;have:=QH x st t;omega,by have:=h.l3;have:=QI x st t;omega,by have:=h.l4;show (x.bx.length:Int)≤_;omega,by have:=h.l5;show (x.cq.length:Int)≤_;omega,by have:=h.l6;show (x.bH.length:Int)≤_;omega⟩
theorem LI.QG {k:Int} {x:ar} (h:LI k x) {st t:Int} (hr:st≠0→x.aQ≠[]) (u:Int):LI (k+1) (Kv (nj x st t) u):=by
 have q:=h.DZ (t:=t) hr
 refine ⟨q.fresh,q.up,q.raised,q.aside,q.rB,q.l1,q.l2,q.l3,q.l4,?_,?_⟩
 ·have:=h.l5;show ((x.cq++[u]).length:Int)≤_;simp;omega
 ·have:=h.l6;show ((x.bH++[u - x.aQ.getD (x.aQ.length - 1) 0]).length:Int)≤_;simp;omega
theorem LI.step {k:Int} {x:ar} (h:LI k x) {s:Signal} (h0:0≤s.At) (hB:Ei s):LI (k+1) (Cm x s).2:=by
 unfold Ei at hB
 have hl4:=h.l4
 have same:LI (k+1) x:=h.mono (by omega)
 unfold Cm
 split
 ·split
  ·exact same
  ·have QU:=h.l1
   have IU:=h.l2;have TY:=h.l3;have hl5:=h.l5;have Ye:=h.l6
   have t2:=QH x 1 s.At;have t3:=QI x 1 s.At
   refine ⟨fun _=>Kw rfl,fun _=>nI h (.inl rfl),fun _=>by show x.aQ++[s.At]≠[];simp,h.aside,?_,?_,?_,?_,?_,?_,?_⟩
   ·intro t ht
    rcases List.mem_append.1 (show t∈x.aQ++[s.At] from ht) with e | e
    ·exact h.rB t e
    ·rw [List.mem_singleton] at e;subst e;omega
   ·show ((x.aQ++[s.At]).length:Int)≤_;simp;omega
   ·show ((nj x 1 s.At).nH.length:Int)≤_;omega
   ·show ((nj x 1 s.At).bN.length:Int)≤_;omega
   ·show (x.bx.length:Int)≤_;omega
   ·show (x.cq.length:Int)≤_;omega
   ·show (x.bH.length:Int)≤_;omega
 ·split
  ·split
   ·rename_i s1;exact h.DZ fun _=>h.raised (by omega)
   ·split
    ·exact h.DZ fun z=>absurd rfl z
    ·exact same
  ·split
   ·split
    ·exact h.QG (fun z=>absurd rfl z) _
    ·split
     ·rename_i s1;exact h.QG (fun _=>h.raised (by omega)) _
     ·exact same
   ·split
    ·split
     ·exact same
     ·exact ⟨same.fresh,same.up,same.raised,fun _=>by show x.bx++_≠[];simp,same.rB,same.l1,same.l2,same.l3,by show ((x.bx++_).length:Int)≤_;simp;omega,same.l5,same.l6⟩
    ·split
     ·exact same
     ·rename_i hs
      have mJ:=h.aside (by omega)
      have uz:0 < x.bx.length:=List.length_pos_iff.2 mJ
      exact ⟨same.fresh,same.up,same.raised,fun _=>by
       show iT x.bx s.At≠[]
       rw [← List.length_pos_iff,ni];exact uz,same.rB,same.l1,same.l2,same.l3,by show ((iT x.bx s.At).length:Int)≤_;rw [ni];omega,same.l5,same.l6⟩
def we (t:an) (s:Signal) (st:Int) (w:ao):an:=⟨t.aO,t.bf,t.bK++[s],st,w⟩
abbrev Pn (t:an) (s:Signal):Prop:=t.az.dR≤s.At∧s.At < t.az.To
def IJ (t:an) (s:Signal):Int×an:=
 if s.Kind=1 then if sj t.aK then (6,t) else (0,we t s 1 t.az)
 else if s.Kind=2 then if t.aK=1 then (0,we t s 3 t.az) else if t.aK=2 then (0,we t s 0 t.az) else (11,t)
 else if s.Kind=3 then if t.aK=3 then (0,we t s 0 t.az) else if t.aK=1 then (0,we t s 2 t.az) else (11,t)
 else if s.Kind=4 then if Pn t s then (11,t) else (0,we t s t.aK ⟨s.At,s.bh⟩)
 else if Pn t s then (0,we t s t.aK ⟨0,0⟩) else (11,t)
theorem step_eq {t:an} (hl:(t.bK.length:Int)≤1000) (s:Signal):ph t s=some (IJ t s):=by
 have hu:(decide (t.aK=1)||decide (t.aK=2))=decide (sj t.aK):=by rw [Bool.decide_or]
 have j3:∀ st a b:Int,jM t s st a b=some (0,we t s st ⟨a,b⟩):=fun st a b=>by
  unfold jM
  rw [jI (by simp;omega)];rfl
 unfold ph ou IJ
 rw [hu]
 unfold ot
 by_cases k1:s.Kind=1
 ·rw [if_pos k1,if_pos k1]
  by_cases hq:sj t.aK
  ·rw [decide_eq_true hq,if_pos rfl,if_pos hq]
  ·rw [decide_eq_false hq,if_neg (by simp),if_neg hq,j3]
 ·rw [if_neg k1,if_neg k1]
  by_cases k2:s.Kind=2
  ·rw [if_pos k2,if_pos k2]
   by_cases s1:t.aK=1
   ·rw [decide_eq_true (show sj t.aK from .inl s1),if_neg (by simp),if_pos s1,s1]
    unfold gH
    rw [show qq (jh (jh ([]:List (Int×Int)) 1 3) 2 0) 1 0=some 3 by decide]
    simp only [Option.bind_some,j3]
   ·by_cases s2:t.aK=2
    ·rw [decide_eq_true (show sj t.aK from .inr s2),if_neg (by simp),if_neg s1,if_pos s2,s2]
     unfold gH
     rw [show qq (jh (jh ([]:List (Int×Int)) 1 3) 2 0) 2 0=some 0 by decide]
     simp only [Option.bind_some,j3]
    ·rw [decide_eq_false (show ¬ sj t.aK from fun z=>z.elim s1 s2),if_pos (by simp),if_neg s1,if_neg s2]
  ·rw [if_neg k2,if_neg k2]
   by_cases k3:s.Kind=3
   ·rw [if_pos k3,if_pos k3]
    unfold oq jN gH
    by_cases s3:t.aK=3
    ·rw [if_neg (by simp [s3]),if_pos s3,s3]
     rw [show qq (jh (jh ([]:List (Int×Int)) 1 2) 3 0) 3 0=some 0 by decide]
     simp only [Option.bind_some,j3]
    ·by_cases s1:t.aK=1
     ·rw [if_neg (by simp [s1]),if_neg s3,if_pos s1,s1]
      rw [show qq (jh (jh ([]:List (Int×Int)) 1 2) 3 0) 1 0=some 2 by decide]
      simp only [Option.bind_some,j3]
     ·rw [if_pos (by simp [s1,s3]),if_neg s3,if_neg s1]
   ·rw [if_neg k3,if_neg k3]
    have ho:(decide (t.az.dR≤s.At)&&decide (s.At < t.az.To))=decide (Pn t s):=by rw [Bool.decide_and]
    rw [ho]
    unfold mg jN gH
    by_cases k4:s.Kind=4
    ·rw [if_pos k4,if_pos k4]
     by_cases hq:Pn t s
     ·rw [decide_eq_true hq,if_pos rfl,if_pos hq]
     ·rw [decide_eq_false hq,if_neg (by simp),if_neg hq,j3]
    ·rw [if_neg k4,if_neg k4]
     by_cases hq:Pn t s
     ·rw [decide_eq_true hq,if_neg (by simp),if_pos hq,j3]
     ·rw [decide_eq_false hq,if_pos (by simp),if_neg hq]
def jf (l:List Signal):List Int:=(l.filter (fun s=>decide (s.Kind=1))).map Signal.At
def r9 (l:List Signal):Int:=l.foldl (fun a s=>if s.Kind≤3 then s.At else a) 0
structure RT (T:Int) (x:ar) (t:an):Prop where
 dev:x.bz.aO=t.aO
 R0:x.bz.bf=t.bf
 st:x.aK=t.aK
 BK:x.aQ=jf t.bK
 since:x.cr=r9 t.bK
 from_:t.az.dR≤T
 sh:x.az=t.az.To∨(x.az≤T∧t.az.To≤T)
theorem xh (l:List Signal) (s:Signal):jf (l++[s])=if s.Kind=1 then jf l++[s.At] else jf l:=by
 unfold jf
 rw [List.filter_append]
 by_cases h:s.Kind=1<;>simp [h]
theorem yF (l:List Signal) (s:Signal):r9 (l++[s])=if s.Kind≤3 then s.At else r9 l:=by
 unfold r9
 rw [List.foldl_append];rfl
theorem RT.mono {T T':Int} {x:ar} {t:an} (h:RT T x t) (hT:T≤T'):RT T' x t:=
 ⟨h.dev,h.R0,h.st,h.BK,h.since,by have:=h.from_;omega,h.sh.imp id fun z=>⟨by omega,by omega⟩⟩
theorem RT.step {T:Int} {x:ar} {t:an} (h:RT T x t) {s:Signal} (hT:T≤s.At) (h0:0≤s.At) (hK:1≤s.Kind∧s.Kind≤5):(Cm x s).1=(IJ t s).1∧RT s.At (Cm x s).2 (IJ t s).2:=by
 have hm:=h.mono hT
 have Dk:=h.st
 have DZ:∀ (y:ar) (st:Int),y.bz=x.bz→y.aK=st→y.cr=s.At→y.az=x.az→s.Kind≤3→(y.aQ=if s.Kind=1 then x.aQ++[s.At] else x.aQ)→RT s.At y (we t s st t.az):=by
  intro y st e1 e2 e3 e4 hk e5
  refine ⟨by rw [e1];exact h.dev,by rw [e1];exact h.R0,e2,?_,?_,hm.from_,by rw [e4];exact hm.sh⟩
  ·show y.aQ=jf (t.bK++[s])
   rw [xh,← h.BK];exact e5
  ·show y.cr=r9 (t.bK++[s])
   rw [yF,if_pos hk];exact e3
 unfold Cm IJ
 rw [← Dk]
 by_cases k1:s.Kind=1
 ·rw [if_pos k1,if_pos k1]
  by_cases hq:sj x.aK
  ·rw [if_pos hq,if_pos hq];exact ⟨rfl,hm⟩
  ·rw [if_neg hq,if_neg hq];exact ⟨rfl,DZ _ 1 rfl rfl rfl rfl (by omega) (by rw [if_pos k1];rfl)⟩
 ·rw [if_neg k1,if_neg k1]
  by_cases k2:s.Kind=2
  ·rw [if_pos k2,if_pos k2]
   by_cases s1:x.aK=1
   ·rw [if_pos s1,if_pos s1];exact ⟨rfl,DZ _ 3 rfl rfl rfl rfl (by omega) (by rw [if_neg k1];rfl)⟩
   ·rw [if_neg s1,if_neg s1]
    by_cases s2:x.aK=2
    ·rw [if_pos s2,if_pos s2];exact ⟨rfl,DZ _ 0 rfl rfl rfl rfl (by omega) (by rw [if_neg k1];rfl)⟩
    ·rw [if_neg s2,if_neg s2];exact ⟨rfl,hm⟩
  ·rw [if_neg k2,if_neg k2]
   by_cases k3:s.Kind=3
   ·rw [if_pos k3,if_pos k3]
    by_cases s3:x.aK=3
    ·rw [if_pos s3,if_pos s3];exact ⟨rfl,DZ _ 0 rfl rfl rfl rfl (by omega) (by rw [if_neg k1];rfl)⟩
    ·rw [if_neg s3,if_neg s3]
     by_cases s1:x.aK=1
     ·rw [if_pos s1,if_pos s1];exact ⟨rfl,DZ _ 2 rfl rfl rfl rfl (by omega) (by rw [if_neg k1];rfl)⟩
     ·rw [if_neg s1,if_neg s1];exact ⟨rfl,hm⟩
   ·rw [if_neg k3,if_neg k3]
    have K3:Pn t s↔s.At < x.az:=by
     have:=hm.from_
     rcases h.sh with e | e
     ·rw [e];exact ⟨fun z=>z.2,fun z=>⟨this,z⟩⟩
     ·exact ⟨fun z=>by have:=z.2;omega,fun z=>by omega⟩
    have put:∀ (y:ar) (w:ao),y.bz=x.bz→y.aK=x.aK→y.cr=x.cr→y.aQ=x.aQ→w.dR≤s.At→(y.az=w.To∨(y.az≤s.At∧w.To≤s.At))→RT s.At y (we t s x.aK w):=by
     intro y w e1 e2 e3 e4 e5 e6
     refine ⟨by rw [e1];exact h.dev,by rw [e1];exact h.R0,e2,?_,?_,e5,e6⟩
     ·show y.aQ=jf (t.bK++[s])
      rw [xh,if_neg k1,e4];exact h.BK
     ·show y.cr=r9 (t.bK++[s])
      rw [yF,if_neg (by omega),e3];exact h.since
    by_cases k4:s.Kind=4
    ·rw [if_pos k4,if_pos k4]
     by_cases hs:s.At < x.az
     ·rw [if_pos hs,if_pos (K3.2 hs)];exact ⟨rfl,hm⟩
     ·rw [if_neg hs,if_neg (fun z=>hs (K3.1 z))];exact ⟨rfl,put _ _ rfl rfl rfl rfl (Int.le_refl _) (.inl rfl)⟩
    ·rw [if_neg k4,if_neg k4]
     by_cases hs:s.At < x.az
     ·rw [if_neg (by omega),if_pos (K3.2 hs)];exact ⟨rfl,put _ _ rfl rfl rfl rfl h0 (.inr ⟨Int.le_refl _,h0⟩)⟩
     ·rw [if_pos (by omega),if_neg (fun z=>hs (K3.1 z))];exact ⟨rfl,hm⟩
def xJ (a b:al):Int:=tN [Lib.compareBytes a.aO b.aO,Lib.compareBytes a.bf b.bf]
theorem wg:ps xJ:=(tH.on al.aO).or ((tH.on al.bf).or .RZ)
theorem BL {a b:al} (h:xJ a b=0):a=b:=by
 have h1:=si (qO h _ (by simp):Lib.compareBytes a.aO b.aO=0)
 have h2:=si (qO h _ (by simp):Lib.compareBytes a.bf b.bf=0)
 cases a;cases b
 simp only at h1 h2
 rw [h1,h2]
def mj (s:Signal):al:=⟨s.Device,s.aZ⟩
theorem D0 (x y:ar):iQ x y=some (xJ x.bz y.bz):=by
 unfold iQ rU
 have h:gj [Lib.compareBytes x.bz.aO y.bz.aO,Lib.compareBytes x.bz.bf y.bz.bf]=some (xJ x.bz y.bz):=vY _ (by simp)
 rw [h];rfl
theorem Gu (x y:an):mn x y=some (xJ ⟨x.aO,x.bf⟩ ⟨y.aO,y.bf⟩):=by
 unfold mn
 have h:gj [Lib.compareBytes x.aO y.aO,Lib.compareBytes x.bf y.bf]=some (xJ ⟨x.aO,x.bf⟩ ⟨y.aO,y.bf⟩):=vY _ (by simp)
 rw [h];rfl
def wh (l:List Signal):List al:=(l.map mj).foldl vj []
theorem ur (l:List Signal):(wh l).Nodup:=(uP _ _ (by simp)).1
theorem AE (l:List Signal) (n:al):n∈wh l↔n∈l.map mj:=by
 unfold wh;rw [(uP _ _ (by simp)).2.1 n];simp
theorem yG (l:List Signal):(wh l).length≤l.length:=by
 have:=(uP (l.map mj) ([]:List al) (by simp)).2.2
 unfold wh;simpa using this
theorem uu (l:List Signal) (s:Signal):wh (l++[s])=vj (wh l) (mj s):=by
 unfold wh;rw [List.map_append,List.foldl_append];rfl
theorem Hp (a b:al):x8.lt a b=(x8.lt a.aO b.aO||(decide (a.aO=b.aO)&&x8.lt a.bf b.bf)):=by
 show (x8.lt a.aO b.aO||(decide (a.aO=b.aO)&&(x8.lt a.bf b.bf||(decide (a.bf=b.bf)&&false))))=_
 simp
instance:yA al where
 Hh a:=by rw [Hp,yA.Hh,yA.Hh];simp
 tr {a b c} h1 h2:=by
  rw [Hp] at *
  simp only [Bool.or_eq_true,Bool.and_eq_true,decide_eq_true_eq] at *
  rcases h1 with h1 | ⟨e1,h1⟩
  ·rcases h2 with h2 | ⟨e2,h2⟩
   ·exact .inl (yA.tr h1 h2)
   ·exact .inl (by rw [← e2];exact h1)
  ·rcases h2 with h2 | ⟨e2,h2⟩
   ·exact .inl (by rw [e1];exact h2)
   ·exact .inr ⟨e1.trans e2,yA.tr h1 h2⟩
 OL a b:=by
  rw [Hp,Hp]
  simp only [Bool.or_eq_true,Bool.and_eq_true,decide_eq_true_eq]
  rcases yA.OL a.aO b.aO with h | h | h
  ·exact .inl (.inl h)
  ·rcases yA.OL a.bf b.bf with g | g | g
   ·exact .inl (.inr ⟨h,g⟩)
   ·right;left;cases a;cases b;simp only at h g;rw [h,g]
   ·exact .inr (.inr (.inr ⟨h.symm,g⟩))
  ·exact .inr (.inr (.inl h))
theorem Il {A B:List al} (ha:A.Pairwise (fun a b=>xJ a b < 0)) (hb:B.Pairwise (fun a b=>xJ a b < 0)) (h:∀ n,n∈A↔n∈B):A=B:=
 xF ((List.perm_ext_iff_of_nodup (yD wg ha) (yD wg hb)).2 h) (Ks wg ha) (Ks wg hb) (fun a _ b _ k1 k2=>by
  have:=wg.neg a b
  exact BL (by omega))
def places (n:Nat):List Int:=(List.range n).map fun (i:Nat)=>(i:Int)
theorem zT (n:Nat):places (n+1)=places n++[(n:Int)]:=by unfold places;rw [List.range_succ,List.map_append];rfl
theorem uR (n:Nat):(places n).length=n:=by unfold places;simp
theorem ij {n:Nat} {i:Int}:i∈places n↔0≤i∧i < n:=by
 unfold places
 simp only [List.mem_map,List.mem_range]
 constructor
 ·rintro ⟨a,h,rfl⟩;omega
 ·rintro ⟨h1,h2⟩;exact ⟨i.toNat,by omega,by omega⟩
theorem Gv {n:Nat} {i:Int} (h:0≤i∧i < n):idx (places n) i=some i:=by
 unfold idx places
 rw [if_pos h.1,List.getElem?_map,List.getElem?_range (by omega)]
 simp only [Option.map_some,Option.some.injEq];omega
def at_ {α:Type} (d:α) (l:List α) (i:Int):α:=l.getD i.toNat d
theorem uS {α:Type} {d:α} {l:List α} {i:Int} (h0:0≤i) (h1:i < l.length):idx l i=some (at_ d l i):=by
 unfold idx at_
 rw [if_pos h0,List.getD_eq_getElem?_getD,List.getElem?_eq_getElem (by omega)];rfl
theorem sR {α β:Type} (f:α→β) (xs:List α) (i:Int):idx (xs.map f) i=(idx xs i).map f:=by
 unfold idx
 split
 ·rw [List.getElem?_map]
 ·rfl
theorem BM {V:Type} (fn:V→V→Option Int) (key:V→al) (Jx:∀ x y,fn x y=some (xJ (key x) (key y))) (M:List al) (hM:M.Nodup) (hl:(M.length:Int)≤1000) (G:al→V) (hG:∀ n,key (G n)=n):
 ∃ r,E0 fn (M.map G) (places M.length)=some r∧r.Perm (places M.length)∧(r.map (at_ ⟨[],[]⟩ M)).Pairwise (fun a b=>xJ a b < 0):=by
 have M5:∀ i∈places M.length,idx (M.map G) i=some (G (at_ ⟨[],[]⟩ M i)):=fun i hi=>by
  have:=ij.1 hi
  rw [sR,uS this.1 this.2];rfl
 obtain ⟨r,r1,r2,r3⟩:=Fm (fun i j=>(idx (M.map G) i).bind fun x=>(idx (M.map G) j).bind fun y=>fn x y) (fun i j=>xJ (at_ ⟨[],[]⟩ M i) (at_ ⟨[],[]⟩ M j)) (places M.length) (by rw [uR];omega)
  (fun a ha b hb=>by rw [M5 a ha,M5 b hb];simp only [Option.bind_some];rw [Jx,hG,hG]) ((wg.on (at_ ⟨[],[]⟩ M)).ord _)
 refine ⟨r,r1,r2,?_⟩
 have xm:r.Nodup:=r2.nodup_iff.2 (by
  unfold places
  exact List.Pairwise.map (S:=(· ≠·)) (fun (i:Nat)=>(i:Int)) (fun a b h e=>h (by have e1:(a:Int)=b:=e;omega)) List.nodup_range)
 rw [List.pairwise_map]
 have hs:r.Pairwise (fun a b=>¬ xJ (at_ ⟨[],[]⟩ M b) (at_ ⟨[],[]⟩ M a) < 0):=r3
 refine (hs.and xm).imp_of_mem (fun {a b} ha hb h=>?_)
 have h1:=ij.1 (r2.mem_iff.1 ha)
 have h2:=ij.1 (r2.mem_iff.1 hb)
 have hn:=wg.neg (at_ ⟨[],[]⟩ M a) (at_ ⟨[],[]⟩ M b)
 by_cases h0:xJ (at_ ⟨[],[]⟩ M a) (at_ ⟨[],[]⟩ M b)=0
 ·exfalso
  have e:=BL h0
  unfold at_ at e
  rw [List.getD_eq_getElem?_getD,List.getD_eq_getElem?_getD,List.getElem?_eq_getElem (by omega),List.getElem?_eq_getElem (by omega)] at e
  have:=(List.getElem_inj hM).1 e
  exact h.2 (by omega)
 ·have:=h.1;omega
def lL (n:al):ar:=⟨n,0,0,[],0,[],[],[],[],[]⟩
structure HK (H:bI) (N:List al) (F:al→ar) (ix:al→Int):Prop where
 one:∀ n∈N,bQ H.sW n=some (ix n)∧idx H.wQ (ix n)=some (F n)
 Yg:∀ n,n∉N→bQ H.sW n=none
 ord:H.ew=N.map ix
 inj:∀ m∈N,∀ n∈N,ix m=ix n→m=n
theorem Kx {α:Type} {l:List α} {i j:Int} {v u:α} (h:idx l i=some u):idx (l.set i.toNat v) j=if i=j then some v else idx l j:=by
 obtain ⟨h0,h1,_⟩:=gS h
 by_cases e:i=j
 ·subst e;rw [if_pos rfl];exact lP h
 ·rw [if_neg e]
  unfold idx
  split
  ·rw [List.getElem?_set_ne (by omega)]
  ·rfl
def xK {V:Type} (F:al→V) (n:al) (v:V):al→V:=fun m=>if m=n then v else F m
theorem HK.set {H:bI} {N:List al} {F:al→ar} {ix:al→Int} (h:HK H N F ix) {n:al} (hn:n∈N) (v:ar):HK ⟨H.sW,H.ew,H.wQ.set (ix n).toNat v⟩ N (xK F n v) ix:=by
 refine ⟨fun m hm=>⟨(h.one m hm).1,?_⟩,h.Yg,h.ord,h.inj⟩
 show idx (H.wQ.set (ix n).toNat v) (ix m)=_
 rw [Kx (h.one n hn).2]
 unfold xK
 by_cases e:m=n
 ·subst e;rw [if_pos rfl,if_pos rfl]
 ·rw [if_neg (fun z=>e (h.inj m hm n hn z.symm)),if_neg e];exact (h.one m hm).2
def pos (M:List al) (n:al):Int:=(M.idxOf n:Int)
theorem pos_at {M:List al} {n:al} (h:n∈M):0≤pos M n∧pos M n < M.length∧idx M (pos M n)=some n:=by
 have:=List.idxOf_lt_length_of_mem h
 unfold pos
 refine ⟨by omega,by omega,?_⟩
 unfold idx
 rw [if_pos (by omega),Int.toNat_natCast,List.getElem?_eq_getElem this,List.getElem_idxOf]
theorem MH {M:List al} {m n:al} (hm:m∈M) (hn:n∈M) (h:pos M m=pos M n):m=n:=by
 have h1:=(pos_at hm).2.2;have h2:=(pos_at hn).2.2
 rw [h,h2] at h1
 exact (Option.some.inj h1).symm
theorem Hq {M:List al} {m n:al} (hm:m∈M):pos (M++[n]) m=pos M m:=by
 unfold pos;rw [List.idxOf_append,if_pos hm]
theorem D2 {M:List al} {n:al} (hn:n∉M):pos (M++[n]) n=M.length:=by
 unfold pos
 rw [List.idxOf_append,if_neg hn];simp
theorem Fz (l:List Signal) (hl:(l.length:Int)≤1000):∃ H N ix,mT l=some H∧HK H N lL ix∧N.Pairwise (fun a b=>xJ a b < 0)∧∀ n,n∈N↔n∈l.map mj:=by
 let Inv:Int→(List (al×Int)×List al)→Prop:=fun i s=>s.2=wh (l.take i.toNat)∧SM s.1∧∀ n,bQ s.1 n=if n∈s.2 then some (pos s.2 n) else none
 let C4:(List (al×Int)×List al)→Signal→(List (al×Int)×List al):=fun s x=>if mj x∈s.2 then s else (jh s.1 (mj x) (s.2.length:Int),s.2++[mj x])
 have main:=iW (A:=bI) l (fun (s:List (al×Int)×List al) (i:Int)=>(s.1,s.2.map lL,places s.2.length,i)) (fun x:(List (al×Int))×(List ar)×(List Int)×Int=>ei l x.1 x.2.1 x.2.2.1 x.2.2.2) C4 Inv (fun s=>mA s.1 (s.2.map lL) (places s.2.length))
  (fun s i x h0 h1 hx hv=>by
   obtain ⟨v1,v2,v3⟩:=hv
   have ht:l.take (i+1).toNat=l.take i.toNat++[x]:=take_succ h0 hx
   have hlen:=yG (l.take i.toNat)
   rw [← v1] at hlen
   have Ot:(l.take i.toNat).length≤l.length:=by rw [List.length_take];exact Nat.min_le_right _ _
   have hnx:(⟨x.Device,x.aZ⟩:al)=mj x:=rfl
   show ei l s.1 (s.2.map lL) (places s.2.length) i=some (.inl ((C4 s x).1,(C4 s x).2.map lL,places (C4 s x).2.length,i+1))∧Inv (i+1) (C4 s x)
   rw [ei,if_pos h1,hx]
   simp only [Option.bind_some]
   rw [hnx,v3 (mj x)]
   unfold kc
   rw [bg (by omega) (by omega)]
   by_cases hm:mj x∈s.2
   ·rw [if_pos hm]
    have es:C4 s x=s:=if_pos hm
    rw [es]
    refine ⟨rfl,?_,v2,v3⟩
    rw [ht,uu,← v1]
    unfold vj;rw [if_pos hm]
   ·rw [if_neg hm]
    have es:C4 s x=(jh s.1 (mj x) (s.2.length:Int),s.2++[mj x]):=if_neg hm
    rw [es,zH]
    have hg:Ee (s.2.map lL).length ((s.1.map Prod.snd)++places s.2.length)=some ():=by
     unfold Ee
     rw [if_pos]
     intro j hj
     rw [List.length_map]
     rcases List.mem_append.1 hj with h | h
     ·obtain ⟨⟨n,v⟩,he,rfl⟩:=List.mem_map.1 h
      have O0:=(SM.MB v2).2 he
      rw [v3 n] at O0
      split at O0
      ·rename_i hn
       obtain rfl:=Option.some.inj O0
       exact ⟨(pos_at hn).1,(pos_at hn).2.1⟩
      ·cases O0
     ·exact ij.1 h
    rw [hg]
    simp only [Option.bind_some]
    rw [jI (by rw [uR];simp;omega)]
    simp only [Option.bind_some,List.length_map]
    refine ⟨?_,?_,v2.set _ _,fun n=>?_⟩
    ·rw [List.map_append,List.length_append,List.length_singleton,zT];rfl
    ·rw [ht,uu,← v1]
     unfold vj;rw [if_neg hm]
    ·rw [pY,v3 n]
     by_cases e:mj x=n
     ·subst e
      rw [if_pos rfl,if_pos (by simp),D2 hm]
     ·rw [if_neg e]
      by_cases hn:n∈s.2
      ·rw [if_pos hn,if_pos (by simp [hn]),Hq hn]
      ·rw [if_neg hn,if_neg (by simp [hn];exact fun z=>e z.symm)])
  (fun s hv=>by
   show ei l s.1 _ _ l.length=_
   rw [ei,if_neg (by omega)]) ([],[]) ⟨rfl,SM.nil,fun n=>rfl⟩
 have QJ:Inv l.length (l.foldl C4 ([],[])):=by
  have key:∀ (k:Nat),k≤l.length→Inv k ((l.take k).foldl C4 ([],[])):=by
   intro k
   induction k with
   | zero=>intro _;exact ⟨rfl,SM.nil,fun n=>rfl⟩
   | succ k ih=>
     intro hk
     obtain ⟨v1,v2,v3⟩:=ih (by omega)
     have hx:idx l (k:Int)=some l[k]:=by unfold idx;rw [if_pos (by omega),Int.toNat_natCast,List.getElem?_eq_getElem (by omega)]
     have ht:l.take (k+1)=l.take k++[l[k]]:=by rw [List.take_succ_eq_append_getElem]
     generalize hs:(l.take k).foldl C4 ([],[])=s at v1 v2 v3
     have e:(l.take (k+1)).foldl C4 ([],[])=C4 s l[k]:=by rw [ht,List.foldl_append,hs];rfl
     rw [e]
     have Yh:((k+1:Nat):Int).toNat=k+1:=by omega
     have K8:((k:Nat):Int).toNat=k:=by omega
     rw [K8] at v1
     by_cases hm:mj l[k]∈s.2
     ·have es:C4 s l[k]=s:=if_pos hm
      rw [es]
      refine ⟨?_,v2,v3⟩
      rw [Yh,ht,uu,← v1]
      unfold vj;rw [if_pos hm]
     ·have es:C4 s l[k]=(jh s.1 (mj l[k]) (s.2.length:Int),s.2++[mj l[k]]):=if_neg hm
      rw [es]
      refine ⟨?_,v2.set _ _,fun n=>?_⟩
      ·rw [Yh,ht,uu,← v1]
       unfold vj;rw [if_neg hm]
      ·show bQ (jh s.1 (mj l[k]) (s.2.length:Int)) n=if n∈s.2++[mj l[k]] then some (pos (s.2++[mj l[k]]) n) else none
       rw [pY,v3 n]
       by_cases e:mj l[k]=n
       ·subst e
        rw [if_pos rfl,if_pos (by simp),D2 hm]
       ·rw [if_neg e]
        by_cases hn:n∈s.2
        ·rw [if_pos hn,if_pos (by simp [hn]),Hq hn]
        ·rw [if_neg hn,if_neg (by simp [hn];exact fun z=>e z.symm)]
  have:=key l.length (Nat.le_refl _)
  rwa [List.take_length] at this
 generalize l.foldl C4 ([],[])=s at main QJ
 obtain ⟨v1,v2,v3⟩:=QJ
 rw [Int.toNat_natCast,List.take_length] at v1
 have xm:s.2.Nodup:=by rw [v1];exact ur l
 have Q2:s.2.length≤l.length:=by rw [v1];exact yG l
 obtain ⟨r,r1,r2,r3⟩:=BM (fun y0 y1=>iQ y0 y1) ar.bz D0 s.2 xm (by omega) lL (fun n=>rfl)
 refine ⟨⟨s.1,r,s.2.map lL⟩,r.map (at_ ⟨[],[]⟩ s.2),pos s.2,?_,?_,r3,?_⟩
 ·unfold mT th
  refine main.trans ?_
  unfold mA
  rw [r1];rfl
 ·have rI:∀ n,n∈r.map (at_ ⟨[],[]⟩ s.2)↔n∈s.2:=by
   intro n
   rw [List.mem_map]
   constructor
   ·rintro ⟨i,hi,rfl⟩
    have:=ij.1 (r2.mem_iff.1 hi)
    exact r5 (uS this.1 this.2)
   ·intro hn
    have hp:=pos_at hn
    refine ⟨pos s.2 n,r2.mem_iff.2 (ij.2 ⟨hp.1,hp.2.1⟩),?_⟩
    have:=uS (d:=(⟨[],[]⟩:al)) hp.1 hp.2.1
    rw [hp.2.2] at this
    exact (Option.some.inj this).symm
  refine ⟨fun n hn=>?_,fun n hn=>?_,?_,fun m hm n hn=>MH ((rI m).1 hm) ((rI n).1 hn)⟩
  ·have Jp:=(rI n).1 hn
   exact ⟨by rw [v3 n,if_pos Jp],by rw [sR,(pos_at Jp).2.2];rfl⟩
  ·rw [v3 n,if_neg (fun z=>hn ((rI n).2 z))]
  ·rw [List.map_map]
   refine (List.map_congr_left (g:=id) fun i hi=>?_).trans (List.map_id r)|>.symm
   have Lm:=ij.1 (r2.mem_iff.1 hi)
   have e1:=uS (d:=(⟨[],[]⟩:al)) Lm.1 Lm.2
   have hn:=r5 e1
   have e2:=(pos_at hn).2
   show pos s.2 (at_ ⟨[],[]⟩ s.2 i)=i
   have h0:=gS e1;have h3:=gS e2.2
   have:i.toNat=(pos s.2 (at_ ⟨[],[]⟩ s.2 i)).toNat:=by
    have a1:=List.getElem?_eq_some_iff.1 h0.2.2
    have a2:=List.getElem?_eq_some_iff.1 h3.2.2
    obtain ⟨b1,c1⟩:=a1
    obtain ⟨b2,c2⟩:=a2
    exact (List.getElem_inj xm).1 (c1.trans c2.symm)
   omega
 ·intro n
  rw [← AE,← v1,List.mem_map]
  constructor
  ·rintro ⟨i,hi,rfl⟩
   have:=ij.1 (r2.mem_iff.1 hi)
   exact r5 (uS this.1 this.2)
  ·intro hn
   have hp:=pos_at hn
   refine ⟨pos s.2 n,r2.mem_iff.2 (ij.2 ⟨hp.1,hp.2.1⟩),?_⟩
   have:=uS (d:=(⟨[],[]⟩:al)) hp.1 hp.2.1
   rw [hp.2.2] at this
   exact (Option.some.inj this).symm
structure VS (l:List Signal):Prop where
 ord:l.Pairwise (fun a b=>sO a b < 0)
 O3:∀ s∈l,Ei s
 Nv:∀ s∈l,0≤s.At∧s.At≤345686399999
 kind:∀ s∈l,1≤s.Kind∧s.Kind≤5
 key:∀ s∈l,cE s.Device=true∧cE s.aZ=true
 T4:∀ s∈l,s.Kind=4→s.At+1≤s.bh∧s.bh≤345686400000
 len:(l.length:Int)≤15
theorem Ky {l:List Signal} (h:SG 15 l) (hc:r8 l=0):VS l:=by
 obtain ⟨h1,h2⟩:=MG hc
 have hb:∀ s∈l,(0≤s.At∧s.At≤345686399999)∧(1≤s.Kind∧s.Kind≤5)∧(cE s.Device=true∧cE s.aZ=true)∧(s.Kind=4→s.At+1≤s.bh∧s.bh≤345686400000):=by
  intro s hs
  have:=h2 s hs
  unfold zS at this
  by_cases c1:Fu s.At=false
  ·rw [if_pos c1] at this;cases this
  rw [if_neg c1] at this
  by_cases c2:(cE s.Device&&cE s.aZ)=false
  ·rw [if_pos c2] at this;cases this
  rw [if_neg c2] at this
  by_cases c3:s.Kind < 1∨5 < s.Kind
  ·rw [if_pos c3] at this;cases this
  rw [if_neg c3] at this
  by_cases c4:3≤s.Kind∧cE s.By=false
  ·rw [if_pos c4] at this;cases this
  rw [if_neg c4] at this
  by_cases c5:¬ 3≤s.Kind∧s.By≠[]
  ·rw [if_pos c5] at this;cases this
  rw [if_neg c5] at this
  by_cases c6:s.Kind=4∧(s.bh < s.At+1∨s.At+2592000000 < s.bh∨345686400000 < s.bh)
  ·rw [if_pos c6] at this;cases this
  refine ⟨?_,by omega,?_,fun h4=>by omega⟩
  ·unfold Fu at c1
   rw [← Bool.decide_and,Bool.not_eq_false,decide_eq_true_eq] at c1
   exact c1
  ·rw [Bool.not_eq_false,Bool.and_eq_true] at c2
   exact c2
 exact ⟨h1,h.2,fun s hs=>(hb s hs).1,fun s hs=>(hb s hs).2.1,fun s hs=>(hb s hs).2.2.1,fun s hs=>(hb s hs).2.2.2,h.1⟩
theorem QK {a b:Signal} (h:sO a b < 0):a.At≤b.At:=by
 unfold sO at h
 rw [yC] at h
 by_cases h0:qN a.At b.At=0
 ·have:=Ii h0;omega
 ·rw [if_pos h0] at h
  unfold qN at h
  split at h
  ·omega
  ·split at h<;>omega
theorem VS.Hr {l:List Signal} (h:VS l):l.Pairwise (fun a b=>a.At≤b.At):=h.ord.imp QK
theorem VS.sub {l p:List Signal} (h:VS l) (hp:p.Sublist l):VS p:=
 ⟨h.ord.sublist hp,fun s hs=>h.O3 s (hp.subset hs),fun s hs=>h.Nv s (hp.subset hs),fun s hs=>h.kind s (hp.subset hs),fun s hs=>h.key s (hp.subset hs),fun s hs=>h.T4 s (hp.subset hs),by have:=hp.length_le;have:=h.len;omega⟩
def pre (l:List Signal) (m:Int):List Signal:=l.filter (fun s=>decide (s.At≤m))
theorem qn (l:List Signal) (m:Int):(pre l m).Sublist l:=List.filter_sublist
theorem Kz:∀ {l:List Signal},l.Pairwise (fun a b=>a.At≤b.At)→∀ {m:Int} {s:Signal} {a b:List Signal},l=a++s :: b→m < s.At→pre l m=pre a m:=by
 intro l hl m s a b e hm
 subst e
 unfold pre
 rw [List.filter_append]
 have:(s :: b).filter (fun s=>decide (s.At≤m))=[]:=by
  rw [List.filter_eq_nil_iff]
  intro x hx
  have h2:=(List.pairwise_append.1 hl).2.1
  rcases List.mem_cons.1 hx with rfl | hx
  ·simp;omega
  ·have:=(List.pairwise_cons.1 h2).1 x hx
   simp;omega
 rw [this,List.append_nil]
theorem MI {l:List Signal} {m:Int} (h:∀ s∈l,s.At≤m):pre l m=l:=List.filter_eq_self.2 fun s hs=>decide_eq_true (h s hs)
def zU (F:al→ar) (s:Signal):al→ar:=xK F (mj s) (Cm (F (mj s)) s).2
def stepG (G:al→an) (s:Signal):al→an:=xK G (mj s) (IJ (G (mj s)) s).2
def FL (p:List Signal):al→ar:=p.foldl zU lL
def D3 (n:al):an:=⟨n.aO,n.bf,[],0,⟨0,0⟩⟩
def TL (p:List Signal):al→an:=p.foldl stepG D3
theorem uT (p:List Signal) (s:Signal):FL (p++[s])=zU (FL p) s:=by unfold FL;rw [List.foldl_append];rfl
theorem yH (p:List Signal) (s:Signal):TL (p++[s])=stepG (TL p) s:=by unfold TL;rw [List.foldl_append];rfl
theorem LI0 (n:al):LI 0 (lL n):=by
 refine ⟨fun h=>?_,fun h=>?_,fun h=>absurd rfl h,fun h=>?_,fun t ht=>?_,by simp [lL],by simp [lL],by simp [lL],by simp [lL],by simp [lL],by simp [lL]⟩
 ·simp [lL] at h
 ·rcases h with h | h<;>simp [lL] at h
 ·simp [lL] at h
 ·simp [lL] at ht
theorem uU {α:Type} {P:List α→Prop} (h0:P []) (h1:∀ l a,P l→P (l++[a])) (l:List α):P l:=by
 have key:∀ r:List α,P r.reverse:=by
  intro r
  induction r with
  | nil=>exact h0
  | cons a r ih=>rw [List.reverse_cons];exact h1 _ _ ih
 have:=key l.reverse
 rwa [List.reverse_reverse] at this
theorem RT0 (n:al):RT 0 (lL n) (D3 n):=⟨rfl,rfl,rfl,rfl,rfl,Int.le_refl _,.inl rfl⟩
structure FoS (p:List Signal):Prop where
 li:∀ n,LI p.length (FL p n)
 rt:∀ (T:Int),0≤T→(∀ s∈p,s.At≤T)→∀ n,RT T (FL p n) (TL p n)
 nm:∀ n,(FL p n).bz=n
 tn:∀ n,(TL p n).aO=n.aO∧(TL p n).bf=n.bf
 dn:∀ n,((TL p n).bK.length:Int)≤p.length
 QL:∀ n,n∉p.map mj→FL p n=lL n∧TL p n=D3 n
theorem KA (x:ar) (s:Signal):(Cm x s).2.bz=x.bz:=by
 unfold Cm
 repeat' split
 all_goals rfl
theorem FA (t:an) (s:Signal):(IJ t s).2.aO=t.aO∧(IJ t s).2.bf=t.bf∧((IJ t s).2.bK.length:Int)≤t.bK.length+1:=by
 unfold IJ
 repeat' split
 all_goals exact ⟨rfl,rfl,by simp [we]<;>omega⟩
theorem wi:∀ (p:List Signal),VS p→FoS p:=by
 refine uU ?_ ?_
 ·intro _;exact ⟨LI0,fun T hT _ n=>(RT0 n).mono hT,fun _=>rfl,fun _=>⟨rfl,rfl⟩,fun _=>by simp [TL,D3],fun _ _=>⟨rfl,rfl⟩⟩
 ·intro p s ih hv
  have hp:VS p:=hv.sub (List.sublist_append_left _ _)
  have ih:=ih hp
  have hs:s∈p++[s]:=by simp
  have hlen:((p++[s]).length:Int)=p.length+1:=by simp
  have hm:=hv.Nv s hs
  have tJ:∀ x∈p,x.At≤s.At:=fun x hx=>(List.pairwise_append.1 hv.Hr).2.2 x hx s (by simp)
  have st:∀ n,RT s.At (FL p n) (TL p n):=ih.rt s.At hm.1 tJ
  refine ⟨fun n=>?_,fun T hT Yi n=>?_,fun n=>?_,fun n=>?_,fun n=>?_,fun n hn=>?_⟩
  ·rw [uT,hlen]
   unfold zU xK
   split
   ·exact (ih.li _).step hm.1 (hv.O3 s hs)
   ·exact (ih.li n).mono (by omega)
  ·rw [uT,yH]
   unfold zU stepG xK
   split
   ·exact ((st (mj s)).step (Int.le_refl _) hm.1 (hv.kind s hs)).2.mono (Yi s hs)
   ·exact (st n).mono (Yi s hs)
  ·rw [uT]
   unfold zU xK
   split
   ·rename_i e;rw [KA,ih.nm];exact e.symm
   ·exact ih.nm n
  ·rw [yH]
   unfold stepG xK
   split
   ·rename_i e
    have:=FA (TL p (mj s)) s
    rw [this.1,this.2.1,e];exact ih.tn _
   ·exact ih.tn n
  ·rw [yH,hlen]
   unfold stepG xK
   split
   ·have:=(FA (TL p (mj s)) s).2.2
    have:=ih.dn (mj s)
    omega
   ·have:=ih.dn n;omega
  ·rw [List.map_append,List.mem_append] at hn
   have h1:n∉p.map mj:=fun z=>hn (.inl z)
   have h2:n≠mj s:=fun z=>hn (.inr (by simp [z]))
   rw [uT,yH]
   unfold zU stepG xK
   rw [if_neg h2,if_neg h2]
   exact ih.QL n h1
theorem Im {p:List Signal} {s:Signal} (hv:VS (p++[s])):(Cm (FL p (mj s)) s).1=(IJ (TL p (mj s)) s).1:=by
 have hs:s∈p++[s]:=by simp
 have ih:=wi p (hv.sub (List.sublist_append_left _ _))
 exact ((ih.rt s.At (hv.Nv s hs).1 (fun x hx=>(List.pairwise_append.1 hv.Hr).2.2 x hx s (by simp)) (mj s)).step (Int.le_refl _) (hv.Nv s hs).1 (hv.kind s hs)).1
theorem MJ {H:bI} {N:List al} {p:List Signal} {ix:al→Int} (h:HK H N (FL p) ix) {s:Signal} (hv:VS (p++[s])) (hn:mj s∈N):
 fH H s=some ((Cm (FL p (mj s)) s).1,⟨H.sW,H.ew,H.wQ.set (ix (mj s)).toNat (Cm (FL p (mj s)) s).2⟩)∧HK ⟨H.sW,H.ew,H.wQ.set (ix (mj s)).toNat (Cm (FL p (mj s)) s).2⟩ N (FL (p++[s])) ix:=by
 have hs:s∈p++[s]:=by simp
 have ih:=wi p (hv.sub (List.sublist_append_left _ _))
 have hl:=hv.len
 have hlen:((p++[s]).length:Int)=p.length+1:=by simp
 refine ⟨?_,by rw [uT];exact h.set hn _⟩
 unfold fH
 have:=h.one (mj s) hn
 rw [show (⟨s.Device,s.aZ⟩:al)=mj s from rfl,this.1,zI,this.2]
 simp only [Option.bind_some]
 rw [follow_eq (ih.li _) (by omega) (hv.Nv s hs).1 (hv.O3 s hs) (hv.kind s hs)]
 rfl
theorem Nw {l:List Signal} (hv:VS l) (m:Int):∃ H N ix,sA l m=some H∧HK H N (FL (pre l m)) ix∧N.Pairwise (fun a b=>xJ a b < 0)∧∀ n,n∈N↔n∈l.map mj:=by
 have hl:=hv.len
 obtain ⟨H0,N,ix,h1,h2,h3,h4⟩:=Fz l (by omega)
 have main:Ok (sA l m) (fun H=>HK H N (FL (pre l m)) ix):=by
  unfold sA
  rw [h1]
  simp only [Option.bind_some]
  unfold zL
  refine Ok.Kp (R:=fun H=>HK H N (FL (pre l m)) ix) l.length (fun (s:bI) (i:Int)=>(s.sW,s.wQ,s.ew,i)) (fun i s=>HK s N (FL (pre (l.take i.toNat) m)) ix) (fun s i g0 g1 hk=>?_) H0 h2
  show Ok (oJ l m s.sW s.wQ s.ew i) _
  unfold oJ qB
  by_cases hi:i < l.length
  ·rw [if_pos hi]
   refine Ok.idx g0 hi (fun x hx JE=>?_)
   have ht:l.take (i+1).toNat=l.take i.toNat++[x]:=take_succ g0 hx
   rw [bg (x:=i+1) (by omega) (by omega)]
   by_cases hm:x.At≤m
   ·rw [if_pos hm]
    have hp:pre (l.take (i+1).toNat) m=pre (l.take i.toNat) m++[x]:=by
     rw [ht];unfold pre;rw [List.filter_append];simp [hm]
    have Ag:(pre (l.take i.toNat) m++[x]).Sublist l:=by rw [← hp];exact (qn _ _).trans (List.take_sublist _ _)
    obtain ⟨e1,e2⟩:=MJ hk (hv.sub Ag) ((h4 _).2 (List.mem_map.2 ⟨x,JE,rfl⟩))
    rw [show (⟨s.sW,s.ew,s.wQ⟩:bI)=s from rfl,e1]
    refine ⟨_,rfl,.inl ⟨_,rfl,by omega,?_⟩⟩
    rw [hp];exact e2
   ·rw [if_neg hm]
    refine ⟨_,rfl,.inl ⟨s,rfl,by omega,?_⟩⟩
    have hp:pre (l.take (i+1).toNat) m=pre (l.take i.toNat) m:=by
     rw [ht];unfold pre;rw [List.filter_append];simp [hm]
    rw [hp];exact hk
  ·rw [if_neg hi]
   refine ⟨_,rfl,.inr ⟨s,rfl,?_⟩⟩
   have:i.toNat=l.length:=by omega
   rw [this,List.take_length] at hk
   exact hk
 obtain ⟨H,e1,e2⟩:=main
 exact ⟨H,N,ix,e1,e2,h3,h4⟩
def BZ:List Signal→List Signal→List dh
 | _,[]=>[]
 | p,s :: r=>(if (Cm (FL p (mj s)) s).1≠0 then [⟨(p.length:Int),(Cm (FL p (mj s)) s).1⟩] else [])++BZ (p++[s]) r
theorem FB:∀ (r p:List Signal) (s:Signal),BZ p (r++[s])=BZ p r++(if (Cm (FL (p++r) (mj s)) s).1≠0 then [⟨((p++r).length:Int),(Cm (FL (p++r) (mj s)) s).1⟩] else [])
 | [],p,s=>by simp [BZ]
 | x :: r,p,s=>by
   rw [List.cons_append]
   unfold BZ
   rw [FB r (p++[x]) s]
   simp [List.append_assoc]
theorem Hs:∀ (r p:List Signal),(BZ p r).length≤r.length
 | [],p=>by simp [BZ]
 | x :: r,p=>by
   unfold BZ
   have:=Hs r (p++[x])
   rw [List.length_append,List.length_cons]
   split<;>simp<;>omega
theorem BN {V:Type} (M:List al) (G:al→V):∀ (r:List Int),(∀ i∈r,0≤i∧i < (M.length:Int))→idxs (M.map G) r=some ((r.map (at_ ⟨[],[]⟩ M)).map G)
 | [],_=>rfl
 | i :: r,h=>by
   unfold idxs
   have:=h i (by simp)
   rw [sR,uS (d:=(⟨[],[]⟩:al)) this.1 this.2,BN M G r (fun j hj=>h j (by simp [hj]))]
   rfl
theorem Io (M:List al):(places M.length).map (at_ ⟨[],[]⟩ M)=M:=by
 unfold places
 rw [List.map_map]
 apply List.ext_getElem?
 intro i
 rw [List.getElem?_map]
 by_cases h:i < M.length
 ·rw [List.getElem?_range h,List.getElem?_eq_getElem h]
  simp [at_,List.getD_eq_getElem?_getD,List.getElem?_eq_getElem h]
 ·rw [List.getElem?_eq_none (by simpa using h),List.getElem?_eq_none (by omega)];rfl
theorem C5 (P:al→Bool) (n:al) (hP:∀ m,P m=decide (m=n)):∀ (M:List al) (i:Int),js P M i=if n∈M then i+pos M n else -1
 | [],i=>by simp [js]
 | m :: M,i=>by
   unfold js
   rw [hP]
   by_cases e:m=n
   ·subst e
    rw [decide_eq_true rfl,if_pos rfl,if_pos (by simp)]
    unfold pos;simp
   ·rw [decide_eq_false e,if_neg (by simp),C5 P n hP M (i+1)]
    by_cases hm:n∈M
    ·rw [if_pos hm,if_pos (by simp [hm])]
     unfold pos
     rw [List.idxOf_cons,show (m==n)=false by simpa using e];simp;omega
    ·rw [if_neg hm,if_neg (by simp [hm];exact fun z=>e z.symm)]
theorem Ip (L:List an) (s:Signal) (hl:(L.length:Int)≤1000):dK L (fun y0=>some (jo y0 s))=some (js (fun t=>jo t s) L 0):=
 qm L (fun y0=>some (jo y0 s)) (fun t=>jo t s) (fun _ _=>rfl) (by omega)
theorem C6 {α β:Type} (f:α→β) (P:β→Bool):∀ (l:List α) (i:Int),js P (l.map f) i=js (fun x=>P (f x)) l i
 | [],_=>rfl
 | x :: r,i=>by
   rw [List.map_cons]
   unfold js
   rw [C6 f P r]
theorem FC {V:Type} {M:List al} (hn:M.Nodup) {n:al} (h:n∈M) (G:al→V) (v:V):(M.map G).set (pos M n).toNat v=M.map (xK G n v):=by
 have hp:=List.idxOf_lt_length_of_mem h
 apply List.ext_getElem?
 intro i
 unfold pos
 rw [Int.toNat_natCast]
 by_cases e:M.idxOf n=i
 ·subst e
  rw [List.getElem?_set_self (by simpa using hp),List.getElem?_map,List.getElem?_eq_getElem hp,List.getElem_idxOf]
  simp [xK]
 ·rw [List.getElem?_set_ne e,List.getElem?_map,List.getElem?_map]
  cases hq:M[i]? with
  | none=>rfl
  | some m=>
    have:m≠n:=fun z=>by
     subst z
     obtain ⟨b,c⟩:=List.getElem?_eq_some_iff.1 hq
     have hh:M[M.idxOf m]'hp=M[i]'b:=by rw [List.getElem_idxOf,c]
     exact e ((List.getElem_inj hn).1 hh)
    simp [xK,this]
theorem zV {l:List Signal} (hv:VS l) (m:Int):∃ N:List al,oz l m=some (N.map (TL (pre l m)),BZ [] (pre l m))∧N.Pairwise (fun a b=>xJ a b < 0)∧∀ n,n∈N↔n∈(pre l m).map mj:=by
 have hl:=hv.len
 have tail:∀ (p:List Signal),VS p→∃ N:List al,kE ((wh p).map (TL p)) (places (wh p).length) (BZ [] p)=some (N.map (TL p),BZ [] p)∧N.Pairwise (fun a b=>xJ a b < 0)∧∀ n,n∈N↔n∈p.map mj:=by
  intro p hp
  have HC:=hp.len
  have Q2:=yG p
  have hf:=wi p hp
  obtain ⟨r,r1,r2,r3⟩:=BM (fun y0 y1=>mn y0 y1) (fun t=>⟨t.aO,t.bf⟩) Gu (wh p) (ur p) (by omega) (TL p) (fun n=>by
   have:=hf.tn n
   rw [this.1,this.2])
  have hr:∀ i∈r,0≤i∧i < ((wh p).length:Int):=fun i hi=>ij.1 (r2.mem_iff.1 hi)
  refine ⟨r.map (at_ ⟨[],[]⟩ (wh p)),?_,r3,fun n=>?_⟩
  ·unfold kE
   rw [r1]
   simp only [Option.bind_some]
   rw [BN _ _ _ hr];rfl
  ·rw [← AE,List.mem_map]
   constructor
   ·rintro ⟨i,hi,rfl⟩
    have:=hr i hi
    exact r5 (uS this.1 this.2)
   ·intro hn
    have hp:=pos_at hn
    refine ⟨pos (wh p) n,r2.mem_iff.2 (ij.2 ⟨hp.1,hp.2.1⟩),?_⟩
    have:=uS (d:=(⟨[],[]⟩:al)) hp.1 hp.2.1
    rw [hp.2.2] at this
    exact (Option.some.inj this).symm
 have main:Ok (oz l m) (fun R=>∃ N:List al,R=(N.map (TL (pre l m)),BZ [] (pre l m))∧N.Pairwise (fun a b=>xJ a b < 0)∧∀ n,n∈N↔n∈(pre l m).map mj):=by
  unfold oz xa
  refine Ok.Kp (σ:=List Signal) l.length (fun (p:List Signal) (i:Int)=>((wh p).map (TL p),places (wh p).length,BZ [] p,i)) (fun i p=>p=l.take i.toNat∧pre p m=p) (fun p i g0 g1 hk=>?_) [] ⟨rfl,rfl⟩
  obtain ⟨k1,k2⟩:=hk
  show Ok (mq l m ((wh p).map (TL p)) (places (wh p).length) (BZ [] p) i) _
  unfold mq
  have HC:((l.take i.toNat).length:Int)≤15:=by rw [List.length_take];omega
  have Q2:=yG p
  have Yj:VS p:=hv.sub (by rw [k1];exact List.take_sublist _ _)
  have fin:pre l m=p→Ok (Option.map Sum.inr (kE ((wh p).map (TL p)) (places (wh p).length) (BZ [] p))) (fun r=>(∃ s',r=Sum.inl ((wh s').map (TL s'),places (wh s').length,BZ [] s',i+1)∧i < l.length∧(s'=l.take (i+1).toNat∧pre s' m=s'))∨∃ a,r=Sum.inr a∧∃ N:List al,a=(N.map (TL (pre l m)),BZ [] (pre l m))∧N.Pairwise (fun a b=>xJ a b < 0)∧∀ n,n∈N↔n∈(pre l m).map mj):=by
   intro hp
   obtain ⟨N,n1,n2,n3⟩:=tail p Yj
   rw [n1]
   refine ⟨_,rfl,.inr ⟨_,rfl,N,by rw [hp],n2,by rw [hp];exact n3⟩⟩
  by_cases hi:i < l.length
  ·rw [if_pos hi]
   refine Ok.idx g0 hi (fun x hx JE=>?_)
   have ht:l.take (i+1).toNat=l.take i.toNat++[x]:=take_succ g0 hx
   by_cases hm:m < x.At
   ·rw [if_pos hm]
    refine fin ?_
    have hd:=Fj hx
    have:l=l.take i.toNat++x :: l.drop (i+1).toNat:=by rw [← hd,List.take_append_drop]
    rw [Kz hv.Hr this hm,← k1];exact k2
   ·rw [if_neg hm]
    have hVx:VS (p++[x]):=hv.sub (by rw [k1,← ht];exact List.take_sublist _ _)
    have hf:=wi p Yj
    have T7:(p.length:Int)=i:=by rw [k1,List.length_take];omega
    rw [BN _ _ _ (fun j hj=>ij.1 hj),Io]
    simp only [Option.bind_some]
    rw [Ip _ _ (by simp;omega),C6,C5 _ (mj x) (fun n=>by
     have:=hf.tn n
     unfold jo nu
     rw [this.1,this.2,← Bool.decide_and]
     refine decide_eq_decide.2 ⟨fun z=>?_,fun z=>by subst z;exact ⟨rfl,rfl⟩⟩
     unfold mj;cases n;simp only at z;rw [z.1,z.2])]
    simp only [Option.bind_some]
    have j2:∀ (M:List al) (hM:M.Nodup) (T8:mj x∈M),M=wh (p++[x])→Ok (mo (BZ [] p) i x (M.map (TL p)) (places M.length) (pos M (mj x))) (fun r=>(∃ s',r=Sum.inl ((wh s').map (TL s'),places (wh s').length,BZ [] s',i+1)∧i < l.length∧(s'=l.take (i+1).toNat∧pre s' m=s'))∨∃ a,r=Sum.inr a∧∃ N:List al,a=(N.map (TL (pre l m)),BZ [] (pre l m))∧N.Pairwise (fun a b=>xJ a b < 0)∧∀ n,n∈N↔n∈(pre l m).map mj):=by
     intro M hM T8 T9
     have uz:=pos_at T8
     unfold mo nM
     rw [Gv ⟨uz.1,uz.2.1⟩]
     simp only [Option.bind_some]
     rw [sR,uz.2.2]
     simp only [Option.map_some,Option.bind_some]
     have KY:=hf.dn (mj x)
     rw [step_eq (by omega)]
     simp only [Option.bind_some]
     have JA:=Im hVx
     have hr:=FB p [] x
     rw [List.nil_append,T7] at hr
     have QM:=Hs p []
     have Ua:(M.map (TL p)).set (pos M (mj x)).toNat (IJ (TL p (mj x)) x).2=(wh (p++[x])).map (TL (p++[x])):=by
      rw [FC hM T8,yH,← T9];rfl
     rw [Ua,bg (x:=i+1) (by omega) (by omega)]
     have Dt:p++[x]=l.take (i+1).toNat∧pre (p++[x]) m=p++[x]:=by
      refine ⟨by rw [ht,k1],?_⟩
      unfold pre at k2 ⊢
      rw [List.filter_append,k2]
      have:x.At≤m:=by omega
      simp [this]
     rw [← JA]
     by_cases h0:(Cm (FL p (mj x)) x).1=0
     ·rw [if_neg (by simpa using h0)]
      rw [if_neg (by simpa using h0),List.append_nil] at hr
      exact ⟨_,rfl,.inl ⟨p++[x],by rw [hr,T9],hi,Dt⟩⟩
     ·rw [if_pos h0,jI (by simp;omega)]
      rw [if_pos h0] at hr
      exact ⟨_,rfl,.inl ⟨p++[x],by rw [hr,T9],hi,Dt⟩⟩
    by_cases K5:mj x∈wh p
    ·rw [if_pos K5]
     have uz:=pos_at K5
     rw [if_neg (by omega),Int.zero_add]
     exact j2 (wh p) (ur p) K5 (by rw [uu];unfold vj;rw [if_pos K5])
    ·rw [if_neg K5,if_pos (by omega)]
     have hg:Ee ((wh p).map (TL p)).length (places (wh p).length)=some ():=by
      unfold Ee
      rw [if_pos]
      intro j hj
      rw [List.length_map];exact ij.1 hj
     rw [hg]
     simp only [Option.bind_some]
     rw [jI (by rw [uR];simp;omega)]
     simp only [Option.bind_some,List.length_map]
     have hM:wh (p++[x])=wh p++[mj x]:=by rw [uu];unfold vj;rw [if_neg K5]
     have e0:TL p (mj x)=⟨x.Device,x.aZ,[],0,⟨0,0⟩⟩:=(hf.QL (mj x) (fun z=>K5 ((AE p _).2 z))).2
     have:=j2 (wh p++[mj x]) (by rw [← hM];exact ur _) (by simp) hM.symm
     rw [D2 K5,List.length_append,List.length_singleton,zT,List.map_append] at this
     rw [uR,← e0]
     exact this
  ·rw [if_neg hi]
   refine fin ?_
   have:i.toNat=l.length:=by omega
   rw [this,List.take_length] at k1
   rw [← k1];exact k2
 obtain ⟨R,e1,N,rfl,e3,e4⟩:=main
 exact ⟨N,e1,e3,e4⟩
def uV (x:ar) (m:Int):Int:=if m < x.az then x.az else 0
def pv (x:ar) (m:Int):aH:=⟨x.bz.aO,x.bz.bf,x.aK,x.cr,(x.aQ.length:Int),uV x m⟩
def Ej (x:ar) (m:Int):Bool:=decide (x.aK≠0)||decide (0 < uV x m)
theorem D4 (x:ar) (m:Int):a8 x m=(pv x m,Ej x m):=by
 unfold a8 jB jA pv Ej uV
 by_cases h:m < x.az
 ·rw [if_pos h,if_pos h]
  by_cases h0:x.aK=0
  ·simp [h0]
  ·simp [h0]
 ·rw [if_neg h,if_neg h]
  by_cases h0:x.aK=0
  ·simp [h0]
  ·simp [h0]
def D5 (t:an) (m:Int):Int:=if t.az.dR≤m∧m < t.az.To then t.az.To else 0
def zp (t:an) (m:Int):aH:=⟨t.aO,t.bf,t.aK,r9 t.bK,((jf t.bK).length:Int),D5 t m⟩
def BO (a:Int×Int) (s:Signal):Int×Int:=(if s.Kind≤3 then s.At else a.1,if s.Kind=1 then a.2+1 else a.2)
theorem zW:∀ (l:List Signal) (a:Int×Int),l.foldl BO a=(l.foldl (fun a s=>if s.Kind≤3 then s.At else a) a.1,a.2+(jf l).length)
 | [],a=>by simp [jf]
 | s :: r,a=>by
   rw [List.foldl_cons,zW r]
   unfold BO jf
   by_cases h:s.Kind=1
   ·simp [h];omega
   ·simp [h]
theorem KC {t:an} (hl:(t.bK.length:Int)≤1000) (m:Int):nN t m=some (zp t m):=by
 unfold nN ud
 have main:=iW (A:=aH) t.bK (fun (s:Int×Int) (i:Int)=>(s.1,s.2,i)) (fun x:Int×Int×Int=>ff t m x.1 x.2.1 x.2.2) BO (fun i s=>0≤s.2∧s.2≤i) (fun s=>lg t s.1 s.2 ((decide (t.az.dR≤m))&&(decide (m < t.az.To))))
  (fun s i x h0 h1 hx hv=>by
   refine ⟨?_,?_⟩
   ·show ff t m s.1 s.2 i=_
    rw [ff,if_pos h1,hx]
    simp only [Option.bind_some]
    unfold k9 k8 BO
    rw [bg (x:=i+1) (by omega) (by omega),bg (x:=s.2+1) (by omega) (by omega)]
    by_cases a1:x.Kind≤3<;>by_cases a2:x.Kind=1<;>simp [a1,a2]
   ·unfold BO
    simp only
    split<;>omega)
  (fun s hv=>by
   show ff t m s.1 s.2 t.bK.length=_
   rw [ff,if_neg (by omega)]) (0,0) ⟨by simp,by simp⟩
 refine main.trans ?_
 rw [zW]
 unfold lg lf zp D5
 rw [← Bool.decide_and]
 by_cases h:t.az.dR≤m∧m < t.az.To
 ·rw [decide_eq_true h,if_pos rfl,if_pos h];simp [r9]
 ·rw [decide_eq_false h,if_neg (by simp),if_neg h];simp [r9]
theorem RT.view {m:Int} {x:ar} {t:an} (h:RT m x t):pv x m=zp t m:=by
 unfold pv zp
 rw [h.dev,h.R0,h.st,h.since,h.BK]
 have:uV x m=D5 t m:=by
  unfold uV D5
  have:=h.from_
  rcases h.sh with e | e
  ·rw [e]
   by_cases hm:m < t.az.To
   ·rw [if_pos hm,if_pos ⟨this,hm⟩]
   ·rw [if_neg hm,if_neg (fun z=>hm z.2)]
  ·rw [if_neg (by omega),if_neg (fun z=>by omega)]
 rw [this]
theorem RT.is {m:Int} {x:ar} {t:an} (h:RT m x t):Ej x m=(decide ((zp t m).State≠0)||decide (0 < (zp t m).gP)):=by
 rw [← h.view];rfl
theorem yI {α β:Type} (p:α→Bool) (f:α→β):∀ (xs:List α) (acc:List β),xs.foldl (fun acc x=>if p x=true then acc++[f x] else acc) acc=acc++(xs.filter p).map f
 | [],acc=>by simp
 | x :: r,acc=>by
   rw [List.foldl_cons,yI p f r,List.filter_cons]
   cases p x<;>simp
def Le (N:List al) (F:al→ar) (m:Int):List aH:=(N.filter (fun n=>Ej (F n) m)).map (fun n=>pv (F n) m)
theorem MK (N:List al) (F:al→ar) (m:Int):(Le N F m).length≤N.length:=by
 unfold Le;rw [List.length_map];exact List.length_filter_le _ _
theorem FD {N:List al} (hs:N.Pairwise (fun a b=>xJ a b < 0)) {l:List Signal} (h:∀ n,n∈N↔n∈l.map mj):N.length≤l.length:=by
 have hp:N.Perm (wh l):=(List.perm_ext_iff_of_nodup (yD wg hs) (ur l)).2 fun n=>(h n).trans (AE l n).symm
 rw [hp.length_eq];exact yG l
theorem Ht {m:Int} (hm:0≤m) (n:al):uV (lL n) m=0:=by
 unfold uV lL
 simp only
 rw [if_neg (by omega)]
theorem Ub {m:Int} (hm:0≤m) {n:al}:Ej (lL n) m=false:=by
 unfold Ej
 rw [Ht hm];simp [lL]
theorem KD {l:List Signal} (hv:VS l) {m:Int} (hm:0≤m) {N N':List al} (h1:N.Pairwise (fun a b=>xJ a b < 0)) (h2:∀ n,n∈N↔n∈l.map mj) (h3:N'.Pairwise (fun a b=>xJ a b < 0)) (h4:∀ n,n∈N'↔n∈(pre l m).map mj):Le N (FL (pre l m)) m=Le N' (FL (pre l m)) m:=by
 unfold Le
 have hf:=wi _ (hv.sub (qn l m))
 rw [Il (A:=N.filter fun n=>Ej (FL (pre l m) n) m) (B:=N'.filter fun n=>Ej (FL (pre l m) n) m) (h1.filter _) (h3.filter _) (fun n=>by
  rw [List.mem_filter,List.mem_filter]
  refine ⟨fun ⟨a,b⟩=>⟨?_,b⟩,fun ⟨a,b⟩=>⟨?_,b⟩⟩
  ·by_cases hn:n∈(pre l m).map mj
   ·exact (h4 n).2 hn
   ·rw [(hf.QL n hn).1,Ub hm] at b
    cases b
  ·have:=(h4 n).1 a
   obtain ⟨s,hs,rfl⟩:=List.mem_map.1 this
   exact (h2 _).2 (List.mem_map.2 ⟨s,(qn l m).subset hs,rfl⟩))]
theorem OQ (l:List Signal) (m:Int):∀ s∈pre l m,s.At≤m:=fun s hs=>by
 have:=(List.mem_filter.1 hs).2
 simpa using this
theorem FE {l:List Signal} (hv:VS l) {m:Int} (hm:0≤m):∃ N':List al,pV l m=some (Le N' (FL (pre l m)) m)∧N'.Pairwise (fun a b=>xJ a b < 0)∧∀ n,n∈N'↔n∈(pre l m).map mj:=by
 obtain ⟨N',t1,t2,t3⟩:=zV hv m
 have hf:=wi _ (hv.sub (qn l m))
 have hl:=hv.len
 have HC:=(qn l m).length_le
 have hN:=FD t2 t3
 refine ⟨N',?_,t2,t3⟩
 unfold pV
 rw [t1]
 simp only [Option.bind_some]
 unfold xb
 have main:=iW (A:=List aH) N' (fun (s:List aH) (i:Int)=>(s,i)) (fun x:(List aH)×Int=>il m (N'.map (TL (pre l m)),BZ [] (pre l m)) x.1 x.2) (fun acc n=>if Ej (FL (pre l m) n) m=true then acc++[pv (FL (pre l m) n) m] else acc) (fun i s=>(s.length:Int)≤i) (fun s=>some s)
  (fun s i n h0 h1 hx HE=>by
   have Yk:=hf.rt m hm (OQ l m) n
   refine ⟨?_,by by_cases hi:Ej (FL (pre l m) n) m=true<;>simp only [hi,if_true,if_false,Bool.false_eq_true,List.length_append,List.length_singleton]<;>omega⟩
   show il m _ s i=_
   rw [il,if_pos (by simpa using h1)]
   simp only
   rw [sR,hx]
   simp only [Option.map_some,Option.bind_some]
   have hd:=hf.dn n
   rw [KC (by omega)]
   simp only [Option.bind_some]
   unfold qg nO
   rw [bg (x:=i+1) (by omega) (by omega),← Yk.is,Yk.view]
   by_cases hi:Ej (FL (pre l m) n) m=true
   ·rw [if_pos hi,if_pos hi,jI (by simp;omega)];rfl
   ·rw [if_neg hi,if_neg hi])
  (fun s HE=>by
   show il m _ s N'.length=_
   rw [il,if_neg (by simp)]) [] (by simp)
 refine main.trans ?_
 rw [yI (fun n=>Ej (FL (pre l m) n) m) (fun n=>pv (FL (pre l m) n) m)];rfl
theorem D6 {l:List Signal} (hB:∀ x∈l,Ei x) (d r:aS):mh l d r=some (tN [r8 l,if cE d=true then 0 else 5,if cE r=true then 0 else 5]):=by
 unfold mh jE
 rw [ri hB,uN,uN]
 simp only [Option.bind_some]
 rw [yC]
 by_cases hc:r8 l=0
 ·simp only [hc,ne_eq,not_true_eq_false,if_false]
  cases cE d<;>cases cE r<;>simp [tN]
 ·rw [if_pos hc,if_pos hc]
theorem Uc (a b c e:Int):tN [a,b,c,e]=if tN [a,b,c]≠0 then tN [a,b,c] else e:=by
 by_cases h1:a=0<;>by_cases h2:b=0<;>by_cases h3:c=0<;>simp [tN,h1,h2,h3]
 intro h;omega
theorem Gw {l:List Signal} (hB:∀ x∈l,Ei x) (hv:r8 l=0→VS l) (d r:aS) (m:Int):
 nV l d r m=some (if tN [r8 l,if cE d=true then 0 else 5,if cE r=true then 0 else 5,if 0≤m∧m≤345686399999 then 0 else 1]≠0 then (⟨[],[],0,0,0,0⟩,tN [r8 l,if cE d=true then 0 else 5,if cE r=true then 0 else 5,if 0≤m∧m≤345686399999 then 0 else 1])
  else (pv (FL (pre l m) ⟨d,r⟩) m,0)):=by
 unfold nV
 rw [D6 hB]
 simp only [Option.bind_some]
 rw [Uc]
 by_cases he:tN [r8 l,if cE d=true then 0 else 5,if cE r=true then 0 else 5]=0
 ·have hc:r8 l=0:=qO he _ (by simp)
  have hv:=hv hc
  simp only [he,ne_eq,not_true_eq_false,if_false]
  rw [wI]
  by_cases hm:0≤m∧m≤345686399999
  ·simp only [hm,and_self,decide_true,Bool.and_self,Bool.not_true,Bool.false_eq_true,if_true,if_false,not_true_eq_false]
   obtain ⟨H,N,ix,a1,a2,a3,a4⟩:=Nw hv m
   rw [a1]
   simp only [Option.bind_some]
   by_cases hn:(⟨d,r⟩:al)∈N
   ·rw [(a2.one _ hn).1,zI,(a2.one _ hn).2]
    simp only [Option.bind_some]
    rw [D4]
   ·rw [a2.Yg _ hn,zH]
    have hf:=wi _ (hv.sub (qn l m))
    rw [(hf.QL ⟨d,r⟩ (fun z=>hn ((a4 _).2 (by
     obtain ⟨s,hs,e⟩:=List.mem_map.1 z
     exact List.mem_map.2 ⟨s,(qn l m).subset hs,e⟩)))).1]
    unfold pv
    rw [Ht hm.1];rfl
  ·rw [if_pos (by rw [← Bool.decide_and,decide_eq_false hm];rfl),if_neg hm,if_pos (by simp)]
 ·generalize tN [r8 l,if cE d=true then 0 else 5,if cE r=true then 0 else 5]=e at he ⊢
  simp [he]
theorem Gx:pX=some true:=by
 unfold pX r4
 have hB:∀ x∈[(⟨1,1,[100],[114],[],0⟩:Signal)],Ei x:=by
  intro x hx
  rw [List.mem_singleton] at hx
  subst hx
  unfold Ei;simp
 have hc:r8 [(⟨1,1,[100],[114],[],0⟩:Signal)]=0:=by decide
 rw [Gw hB (fun h=>Ky ⟨by simp,hB⟩ h)]
 rw [if_neg (by rw [hc];decide)]
 simp only [Option.bind_some]
 decide
theorem yJ (u:List ao) (w:ao) (t:Int):iT (u++[w]) t=u++[⟨w.dR,t⟩]:=by
 unfold iT
 rw [List.set_append_right _ _ (by simp)]
 simp
theorem Gy (n:al):∀ p:List Signal,(FL p n).aQ.Sublist (p.map Signal.At):=by
 refine uU ?_ ?_
 ·exact List.Sublist.refl _
 ·intro p s ih
  rw [uT,List.map_append]
  unfold zU xK
  have same:(FL p n).aQ.Sublist (p.map Signal.At++[s].map Signal.At):=ih.trans (List.sublist_append_left _ _)
  split
  ·rename_i e
   rw [e] at ih same
   have tt:∀ st:Int,(nj (FL p (mj s)) st s.At).aQ=(FL p (mj s)).aQ:=fun _=>rfl
   unfold Cm
   split
   ·split
    ·exact same
    ·show ((FL p (mj s)).aQ++[s.At]).Sublist _
     exact ih.append (List.Sublist.refl _)
   ·split
    ·split
     ·exact same
     ·split<;>exact same
    ·split
     ·split
      ·exact same
      ·split<;>exact same
     ·split
      ·split<;>exact same
      ·split<;>exact same
  ·exact same
theorem FF {α:Type} {n:al} (X:List α):∀ (N:List al) (acc:List α),N.Nodup→N.foldl (fun acc m=>acc++(if m=n then X else [])) acc=acc++(if n∈N then X else [])
 | [],acc,_=>by simp
 | m :: N,acc,h=>by
   have h1:=List.nodup_cons.1 h
   rw [List.foldl_cons,FF X N _ h1.2]
   by_cases e:m=n
   ·subst e
    rw [if_pos rfl,if_neg h1.1,if_pos (List.mem_cons_self ..),List.append_nil]
   ·rw [if_neg e,List.append_nil]
    by_cases hn:n∈N
    ·rw [if_pos hn,if_pos (List.mem_cons_of_mem _ hn)]
    ·rw [if_neg hn,if_neg (fun z=>by
      rcases List.mem_cons.1 z with z | z
      ·exact e z.symm
      ·exact hn z)]
theorem Gz (d r:aS) (j:Int) (t:an) (hl:(t.bK.length:Int)≤1000) (hj:0≤j∧j≤1000) (acc:List Int) (ha:(acc.length:Int)≤100000):tE d r j t acc 0=some (.inl (acc++(if (⟨t.aO,t.bf⟩:al)=⟨d,r⟩ then jf t.bK else []),j+1)):=by
 unfold tE
 have main:=iW (A:=((List Int)×Int)⊕(List Int)) t.bK (fun (s:List Int) (i:Int)=>(s,i)) (fun x:(List Int)×Int=>im d r j t x.1 x.2) (fun acc s=>if (decide (t.aO=d)&&(decide (t.bf=r)&&decide (s.Kind=1)))=true then acc++[s.At] else acc) (fun i s=>(s.length:Int)≤100000+i) (fun s=>some (.inl (s,j+1)))
  (fun s i x i0 i1 hx HE=>by
   refine ⟨?_,by
    split
    ·rw [List.length_append,List.length_singleton];omega
    ·omega⟩
   show im d r j t s i=_
   rw [im,if_pos i1,hx]
   simp only [Option.bind_some]
   unfold qh nP
   rw [bg (x:=i+1) (by omega) (by omega)]
   split
   ·rw [jI (by simp;omega)];rfl
   ·rfl)
  (fun s HE=>by
   show im d r j t s t.bK.length=_
   rw [im,if_neg (by omega),bg (x:=j+1) (by omega) (by omega)]) acc (by omega)
 refine main.trans ?_
 rw [yI (fun s:Signal=>decide (t.aO=d)&&(decide (t.bf=r)&&decide (s.Kind=1))) Signal.At]
 by_cases e:(⟨t.aO,t.bf⟩:al)=⟨d,r⟩
 ·rw [if_pos e]
  have e1:t.aO=d:=congrArg al.aO e
  have e2:t.bf=r:=congrArg al.bf e
  rw [decide_eq_true e1,decide_eq_true e2]
  simp only [Bool.true_and];rfl
 ·rw [if_neg e]
  have:∀ s:Signal,(decide (t.aO=d)&&(decide (t.bf=r)&&decide (s.Kind=1)))=false:=by
   intro s
   by_cases e1:t.aO=d
   ·have e2:¬ t.bf=r:=fun z=>e (by rw [e1,z])
    simp [e2]
   ·simp [e1]
  simp only [this]
  simp
theorem FG {l:List Signal} (hv:VS l) (d r:aS):sD l d r=some (FL l ⟨d,r⟩).aQ:=by
 obtain ⟨N,t1,t2,t3⟩:=zV hv 345686400000
 have Ud:pre l 345686400000=l:=MI fun s hs=>by have:=hv.Nv s hs;omega
 rw [Ud] at t1 t3
 have hf:=wi _ hv
 have hl:=hv.len
 have hN:=FD t2 t3
 have hd:=yD wg t2
 unfold sD
 rw [t1]
 simp only [Option.bind_some]
 unfold xc
 have hdl:(jf (TL l ⟨d,r⟩).bK).length≤15:=by
  have h1:=hf.dn ⟨d,r⟩
  have h2:(jf (TL l ⟨d,r⟩).bK).length≤(TL l ⟨d,r⟩).bK.length:=by
   unfold jf;rw [List.length_map];exact List.length_filter_le _ _
  omega
 have main:=iW (A:=List Int) N (fun (s:List Int) (i:Int)=>(s,i)) (fun x:(List Int)×Int=>iq d r (N.map (TL l),BZ [] l) x.1 x.2) (fun acc n=>acc++(if n=⟨d,r⟩ then jf (TL l ⟨d,r⟩).bK else [])) (fun i s=>(s.length:Int)≤15 * i) (fun s=>some s)
  (fun s i n i0 i1 hx HE=>by
   refine ⟨?_,by rw [List.length_append];split<;>simp<;>omega⟩
   show iq d r _ s i=_
   rw [iq,if_pos (by simpa using i1)]
   simp only
   rw [sR,hx]
   simp only [Option.map_some,Option.bind_some]
   have KY:=hf.dn n
   have Yl:=hf.tn n
   rw [Gz d r i (TL l n) (by omega) (by omega) s (by omega),Yl.1,Yl.2]
   by_cases e:n=⟨d,r⟩
   ·subst e;rfl
   ·rw [if_neg e,if_neg (fun z=>e (by cases n;exact z))])
  (fun s HE=>by
   show iq d r _ s N.length=_
   rw [iq,if_neg (by simp)]) [] (by simp)
 refine main.trans ?_
 rw [FF _ N [] hd,List.nil_append]
 by_cases hn:(⟨d,r⟩:al)∈N
 ·rw [if_pos hn]
  have:=(hf.rt 345686400000 (by omega) (fun s hs=>by have:=hv.Nv s hs;omega) ⟨d,r⟩).BK
  rw [this]
 ·rw [if_neg hn,(hf.QL ⟨d,r⟩ (fun z=>hn ((t3 _).2 z))).1];rfl
def KE (f:bW):Int:=if (2≤f.kM∧f.kM≤1000)∧(1≤f.ao∧f.ao≤2592000000)∧1≤f.Calm∧f.Calm≤2592000000 then 0 else 1
theorem KF (f:bW):jL f=KE f:=by
 unfold jL lR KE
 rw [xH,xH,xH]
 by_cases h:(2≤f.kM∧f.kM≤1000)∧(1≤f.ao∧f.ao≤2592000000)∧1≤f.Calm∧f.Calm≤2592000000
 ·rw [if_pos h,if_neg]
  simp only [Bool.or_eq_true,decide_eq_true_eq];omega
 ·rw [if_neg h,if_pos]
  simp only [Bool.or_eq_true,decide_eq_true_eq];omega
theorem ML (f:bW):oI f=KE f:=by
 unfold oI pe KE
 rw [wa,wa,wa]
 by_cases h:(2≤f.kM∧f.kM≤1000)∧(1≤f.ao∧f.ao≤2592000000)∧1≤f.Calm∧f.Calm≤2592000000
 ·rw [if_pos h,if_neg]
  simp only [Bool.or_eq_true,Bool.not_eq_true',Bool.and_eq_false_iff,decide_eq_false_iff_not];omega
 ·rw [if_neg h,if_pos]
  simp only [Bool.or_eq_true,Bool.not_eq_true',Bool.and_eq_false_iff,decide_eq_false_iff_not];omega
def kH (w:ao):ao:=⟨w.dR,min w.To 345686400000⟩
theorem GA (W:List ao) (h:(W.length:Int)≤1000):sB W W 0=some (W.map kH):=by
 unfold sB
 have key:∀ (k:Nat) (i:Int) (Z:List ao),0≤i→i+k=W.length→Z.length=W.length→Z.take i.toNat=(W.take i.toNat).map kH→Z.drop i.toNat=W.drop i.toNat→
  iter (fun x:(List ao)×Int=>gw W x.1 x.2) (Z,i)=some (W.map kH):=by
  intro k
  induction k with
  | zero=>
    intro i Z h0 h1 h2 h3 h4
    rw [iter_eq]
    show (gw W Z i).bind _=_
    rw [gw,if_neg (by omega),bu]
    rw [List.take_of_length_le (by omega),List.take_of_length_le (by omega)] at h3
    rw [h3]
  | succ k ih=>
    intro i Z h0 h1 h2 h3 h4
    obtain ⟨w,hw,_,hd⟩:=Go.Beacon.ig W h0 (by omega)
    obtain ⟨z,hz,_,Ue⟩:=Go.Beacon.ig Z h0 (by omega)
    rw [hd,Ue] at h4
    have Uf:z=w:=(List.cons.inj h4).1
    have h5:=(List.cons.inj h4).2
    subst Uf
    rw [iter_eq]
    show (gw W Z i).bind _=_
    rw [gw,if_pos (by omega),hz]
    simp only [Option.bind_some,cJ]
    rw [bg (x:=i+1) (by omega) (by omega)]
    have hi:i.toNat < Z.length:=by omega
    refine ih (i+1) _ (by omega) (by omega) (by rw [List.length_set];exact h2) ?_ ?_
    ·rw [show (i+1).toNat=i.toNat+1 by omega,List.take_add_one,List.take_add_one,List.map_append,← h3]
     have e1:(Z.set i.toNat (⟨z.dR,min z.To 345686400000⟩:ao)).take i.toNat=Z.take i.toNat:=by
      rw [List.take_set_of_le (Nat.le_refl _)]
     rw [e1,List.getElem?_set_self hi]
     congr 1
     rw [(gS hw).2.2];rfl
    ·rw [show (i+1).toNat=i.toNat+1 by omega,List.drop_set_of_lt (by omega)]
     rw [show (i+1).toNat=i.toNat+1 by omega] at h5
     exact h5
 exact key W.length 0 W (by omega) (by omega) rfl (by simp) rfl
theorem GC {R:List Int} (hs:R.Pairwise (· ≤·)) {i fst c:Int} {x:Int} (h0:0≤fst) (h1:fst≤i) (h2:i < R.length) (Po:∀ y∈R.take fst.toNat,y≤c) (hx:idx R fst=some x) (hc:c < x):
 (((R.take (i+1).toNat).filter (fun y=>decide (c < y))).length:Int)=i - fst+1:=by
 have KW:R.take (i+1).toNat=R.take fst.toNat++(R.drop fst.toNat).take ((i+1).toNat - fst.toNat):=by
  rw [show (i+1).toNat=fst.toNat+((i+1).toNat - fst.toNat) by omega,List.take_add]
  simp
 rw [KW,List.filter_append,List.filter_eq_nil_iff.2 (fun y hy=>by have:=Po y hy;simp;omega),List.nil_append,List.filter_eq_self.2 (fun y hy=>?_)]
 ·rw [List.length_take,List.length_drop];omega
 ·have hd:=Fj hx
  have hp:=hs.sublist (List.drop_sublist fst.toNat R)
  rw [hd] at hp
  have hy:=List.mem_of_mem_take hy
  rw [hd] at hy
  refine decide_eq_true ?_
  rcases List.mem_cons.1 hy with rfl | hy
  ·exact hc
  ·have:=(List.pairwise_cons.1 hp).1 y hy;omega
theorem GD (f:bW) {R:List Int} (out:List ao) (i r:Int) (hi:idx R i=some r) (QM:(R.length:Int)≤1000) (hr:0≤r∧r≤345686400000) (hw:1≤f.ao∧f.ao≤2592000000):∀ (n:Nat) (fst:Int),0≤fst→fst+n=i→(∀ y∈R.take fst.toNat,y≤r - f.ao)→
 ∃ As x,0≤As∧As≤i∧(∀ y∈R.take As.toNat,y≤r - f.ao)∧idx R As=some x∧r - f.ao < x∧mX f R out i r fst=mW f out i r As:=by
 obtain ⟨i0,i1,_⟩:=gS hi
 intro n
 induction n with
 | zero=>
   intro fst h0 h1 Po
   have e:fst=i:=by omega
   subst e
   refine ⟨fst,r,h0,by omega,Po,hi,by omega,?_⟩
   unfold mX
   rw [iter_eq]
   show (fI f R out fst r fst).bind _=_
   rw [fI,hi]
   simp only [Option.bind_some]
   rw [bg (by omega) (by omega),if_neg (by omega),bu]
 | succ n ih=>
   intro fst h0 h1 Po
   obtain ⟨x,hx,JE,hd⟩:=Go.Beacon.ig R h0 (by omega)
   by_cases hc:x≤r - f.ao
   ·have ht:R.take (fst+1).toNat=R.take fst.toNat++[x]:=take_succ h0 hx
    obtain ⟨As,x',a1,a2,a3,a4,a5,a6⟩:=ih (fst+1) (by omega) (by omega) (fun y hy=>by
     rw [ht] at hy
     rcases List.mem_append.1 hy with e | e
     ·exact Po y e
     ·rw [List.mem_singleton] at e;subst e;exact hc)
    refine ⟨As,x',a1,a2,a3,a4,a5,?_⟩
    rw [← a6]
    unfold mX
    conv=>lhs;rw [iter_eq]
    show (fI f R out i r fst).bind _=_
    rw [fI,hx]
    simp only [Option.bind_some]
    rw [bg (x:=r - f.ao) (by omega) (by omega),if_pos hc,bg (x:=fst+1) (by omega) (by omega)]
    simp only [Option.bind_some,cJ]
   ·refine ⟨fst,x,h0,by omega,Po,hx,by omega,?_⟩
    unfold mX
    rw [iter_eq]
    show (fI f R out i r fst).bind _=_
    rw [fI,hx]
    simp only [Option.bind_some]
    rw [bg (by omega) (by omega),if_neg hc,bu]
theorem Iq (f:bW) {R:List Int} (out:List ao) (i r:Int) (hi:idx R i=some r) (QM:(R.length:Int)≤1000) (hR:∀ y∈R,0≤y∧y≤345686400000) (hw:1≤f.ao∧f.ao≤2592000000):
 sE f R out i r (R.take (i+1).toNat) 0 0=lj f out i r (((R.take (i+1).toNat).filter (fun y=>decide (r - f.ao < y))).length:Int):=by
 obtain ⟨i0,i1,_⟩:=gS hi
 have hr:=hR r (r5 hi)
 unfold sE
 have hlen:((R.take (i+1).toNat).length:Int)=i+1:=by rw [List.length_take];omega
 have main:=iW (A:=((List ao)×Int)⊕(List ao)) (R.take (i+1).toNat) (fun (s:Int) (j:Int)=>(s,j)) (fun x:Int×Int=>gy f R out i r (R.take (i+1).toNat) x.1 x.2) (fun acc y=>if decide (r - f.ao < y)=true then acc+1 else acc) (fun j s=>0≤s∧s≤j) (fun s=>lj f out i r s)
  (fun s j x j0 j1 hx HE=>by
   refine ⟨?_,by split<;>omega⟩
   show gy f R out i r _ s j=_
   rw [gy,if_pos j1]
   have hxs:wO R 0 (R.take (i+1).toNat).length j=some x:=by
    unfold wO
    rw [if_pos ⟨by omega,j0,j1⟩,show (0:Int)+j=j by omega]
    obtain ⟨_,_,e⟩:=gS hx
    unfold idx
    rw [if_pos j0]
    rw [List.getElem?_take] at e
    split at e
    ·exact e
    ·cases e
   rw [hxs]
   simp only [Option.bind_some]
   unfold na
   rw [bg (x:=j+1) (by omega) (by omega),bg (x:=r - f.ao) (by omega) (by omega),bg (x:=s+1) (by omega) (by omega)]
   by_cases hc:r - f.ao < x
   ·rw [if_pos hc,if_pos (decide_eq_true hc)]
   ·rw [if_neg hc,if_neg (by simpa using hc)])
  (fun s HE=>by
   show gy f R out i r _ s _=_
   rw [gy,if_neg (by omega)]) 0 (by omega)
 refine main.trans ?_
 have Lf:∀ (L:List Int) (a:Int),L.foldl (fun acc y=>if decide (r - f.ao < y)=true then acc+1 else acc) a=a+(L.filter (fun y=>decide (r - f.ao < y))).length:=by
  intro L
  induction L with
  | nil=>intro a;simp
  | cons y L ih=>
    intro a
    rw [List.foldl_cons,ih,List.filter_cons]
    by_cases hc:decide (r - f.ao < y)=true
    ·rw [if_pos hc,if_pos hc,List.length_cons];omega
    ·rw [if_neg hc,if_neg hc]
 rw [Lf,Int.zero_add]
def BP (f:bW) (out:List ao) (r many:Int):List ao:=
 if out≠[]∧r≤(out.getD (out.length - 1) ⟨0,0⟩).To then iT out (r+f.Calm) else if f.kM≤many then out++[⟨r,r+f.Calm⟩] else out
theorem Ir (f:bW) (out:List ao) (r many:Int):(BP f out r many).length≤out.length+1:=by
 unfold BP
 split
 ·rw [ni];omega
 ·split<;>simp
theorem GF (f:bW) (out:List ao) (hl:(out.length:Int)≤1000) (i r fst:Int) (hi:0≤i∧i≤1000) (hr:0≤r∧r≤345686400000) (hf:0≤fst∧fst≤i) (hc:1≤f.Calm∧f.Calm≤2592000000):mW f out i r fst=some (.inl (BP f out r (i - fst+1),fst,i+1)):=by
 have j1:∀ c:Bool,(c=true→out≠[])→kZ f out i r fst c=some (.inl (if c=true then iT out (r+f.Calm) else if f.kM≤i - fst+1 then out++[⟨r,r+f.Calm⟩] else out,fst,i+1)):=by
  intro c mJ
  unfold kZ mV mU
  rw [bg (x:=i+1) (by omega) (by omega),bg (x:=r+f.Calm) (by omega) (by omega),bg (x:=i - fst) (by omega) (by omega),bg (x:=i - fst+1) (by omega) (by omega)]
  cases c with
  | true=>
    have mJ:=mJ rfl
    have uz:0 < out.length:=List.length_pos_iff.2 mJ
    rw [if_pos rfl,if_pos rfl,bg (x:=(out.length:Int) - 1) (by omega) (by omega),jG mJ ⟨0,0⟩]
    simp only [Option.bind_some]
    rw [sQ mJ _ (jG mJ ⟨0,0⟩)]
  | false=>
    simp only [Bool.false_eq_true,if_false]
    by_cases hm:f.kM≤i - fst+1
    ·rw [if_pos hm,if_pos hm,jI (by simp;omega)];rfl
    ·rw [if_neg hm,if_neg hm]
 unfold mW BP
 rw [bg (x:=(out.length:Int) - 1) (by omega) (by omega)]
 by_cases mJ:out=[]
 ·subst mJ
  rw [if_neg (by simp),j1 _ (by simp)]
  simp
 ·have uz:0 < out.length:=List.length_pos_iff.2 mJ
  rw [if_pos (by omega),jG mJ ⟨0,0⟩]
  simp only [Option.bind_some]
  rw [j1 _ (fun _=>mJ)]
  simp only [decide_eq_true_eq,ne_eq,mJ,not_false_eq_true,true_and]
theorem FH (out:List ao) (t:Int) (h:out≠[]):iT (out.map kH) (min t 345686400000)=(iT out t).map kH:=by
 obtain ⟨V,w,rfl⟩:∃ V w,out=V++[w]:=⟨out.dropLast,out.getLast h,(List.dropLast_concat_getLast h).symm⟩
 rw [List.map_append,List.map_singleton,yJ,yJ,List.map_append];rfl
theorem Is (f:bW) (out:List ao) (hl:(out.length:Int)≤1000) (i r many:Int) (hi:0≤i∧i≤1000) (hr:0≤r∧r≤345686400000) (hc:1≤f.Calm∧f.Calm≤2592000000):lj f (out.map kH) i r many=some (.inl ((BP f out r many).map kH,i+1)):=by
 have HJ:((out.map kH).length:Int)=out.length:=by simp
 have j1:∀ c:Bool,(c=true→out≠[])→lh f (out.map kH) i r many c=some (.inl ((if c=true then iT out (r+f.Calm) else if f.kM≤many then out++[⟨r,r+f.Calm⟩] else out).map kH,i+1)):=by
  intro c mJ
  unfold lh nf nd
  rw [bg (x:=i+1) (by omega) (by omega),bg (x:=r+f.Calm) (by omega) (by omega)]
  cases c with
  | true=>
    have mJ:=mJ rfl
    have uz:0 < out.length:=List.length_pos_iff.2 mJ
    have KG:out.map kH≠[]:=by simpa using mJ
    rw [if_pos rfl,if_pos rfl,bg (x:=((out.map kH).length:Int) - 1) (by omega) (by omega),jG KG ⟨0,0⟩]
    simp only [Option.bind_some]
    rw [sQ KG _ (jG KG ⟨0,0⟩),FH out _ mJ]
  | false=>
    simp only [Bool.false_eq_true,if_false]
    by_cases hm:f.kM≤many
    ·rw [if_pos hm,if_pos hm,jI (by simp;omega),List.map_append];rfl
    ·rw [if_neg hm,if_neg hm]
 unfold lj BP
 rw [bg (x:=((out.map kH).length:Int) - 1) (by omega) (by omega)]
 by_cases mJ:out=[]
 ·subst mJ
  rw [if_neg (by simp)]
  have:=j1 false (by simp)
  rw [List.map_nil] at this
  rw [List.map_nil,this]
  simp
 ·have uz:0 < out.length:=List.length_pos_iff.2 mJ
  have KG:out.map kH≠[]:=by simpa using mJ
  rw [if_pos (by omega),jG KG ⟨0,0⟩]
  simp only [Option.bind_some]
  rw [j1 _ (fun _=>mJ)]
  have QN:((out.map kH).getD ((out.map kH).length - 1) ⟨0,0⟩).To=min (out.getD (out.length - 1) ⟨0,0⟩).To 345686400000:=by
   obtain ⟨V,w,rfl⟩:∃ V w,out=V++[w]:=⟨out.dropLast,out.getLast mJ,(List.dropLast_concat_getLast mJ).symm⟩
   simp [kH]
  rw [QN]
  have hle:r≤min (out.getD (out.length - 1) ⟨0,0⟩).To 345686400000↔r≤(out.getD (out.length - 1) ⟨0,0⟩).To:=by omega
  simp only [hle,decide_eq_true_eq,ne_eq,mJ,not_false_eq_true,true_and]
theorem GG (f:bW) (hf:KE f=0) {R:List Int} (QM:(R.length:Int)≤1000) (hs:R.Pairwise (· ≤·)) (hR:∀ y∈R,0≤y∧y≤345686400000):∃ W,mY f R=some W∧sF f R [] 0=some W∧(W.length:Int)≤1000:=by
 have hb:(2≤f.kM∧f.kM≤1000)∧(1≤f.ao∧f.ao≤2592000000)∧1≤f.Calm∧f.Calm≤2592000000:=by
  unfold KE at hf
  split at hf
  ·assumption
  ·cases hf
 unfold mY vL sF
 have key:∀ (k:Nat) (i fst:Int) (out:List ao),0≤i→i+k=R.length→0≤fst→fst≤i→(out.length:Int)≤i→(∀ y∈R.take fst.toNat,∀ z∈R.drop i.toNat,y≤z - f.ao)→
  ∃ W,iter (fun x:(List ao)×Int×Int=>gx f R x.1 x.2.1 x.2.2) (out,fst,i)=some W∧iter (fun x:(List ao)×Int=>gz f R x.1 x.2) (out.map kH,i)=some W∧(W.length:Int)≤1000:=by
  intro k
  induction k with
  | zero=>
    intro i fst out h0 h1 h2 h3 h4 h5
    refine ⟨out.map kH,?_,?_,by simp;omega⟩
    ·rw [iter_eq]
     show (gx f R out fst i).bind _=_
     rw [gx,if_neg (by omega),bu,GA out (by omega)]
    ·rw [iter_eq]
     show (gz f R (out.map kH) i).bind _=_
     rw [gz,if_neg (by omega),bu]
  | succ k ih=>
    intro i fst out h0 h1 h2 h3 h4 h5
    obtain ⟨r,hr,hrm,hd⟩:=Go.Beacon.ig R h0 (by omega)
    have Ug:=hR r hrm
    obtain ⟨As,x,a1,a2,a3,a4,a5,a6⟩:=GD f out i r hr QM Ug hb.2.1 (i - fst).toNat fst h2 (by omega) (fun y hy=>h5 y hy r (by rw [hd];simp))
    have Ac:=GC hs a1 a2 (by omega) a3 a4 a5
    have hlen:=Ir f out r (i - As+1)
    have hp:=hs.sublist (List.drop_sublist i.toNat R)
    rw [hd] at hp
    obtain ⟨W,w1,w2,w3⟩:=ih (i+1) As (BP f out r (i - As+1)) (by omega) (by omega) a1 (by omega) (by omega) (fun y hy z hz=>by
     have:=a3 y hy
     have:=(List.pairwise_cons.1 hp).1 z hz
     omega)
    refine ⟨W,?_,?_,w3⟩
    ·rw [iter_eq]
     show (gx f R out fst i).bind _=_
     rw [gx,if_pos (by omega),hr]
     simp only [Option.bind_some]
     rw [a6,GF f out (by omega) i r As ⟨h0,by omega⟩ Ug ⟨a1,a2⟩ hb.2.2]
     simp only [Option.bind_some,cJ]
     exact w1
    ·rw [iter_eq]
     show (gz f R (out.map kH) i).bind _=_
     rw [gz,if_pos (by omega),hr]
     simp only [Option.bind_some]
     rw [bg (x:=i+1) (by omega) (by omega),DO (by omega) (by omega) (by omega)]
     simp only [Option.bind_some]
     rw [show (R.drop (0:Int).toNat).take ((i+1).toNat - (0:Int).toNat)=R.take (i+1).toNat by simp,Iq f _ i r hr QM hR hb.2.1,Ac,Is f out (by omega) i r _ ⟨h0,by omega⟩ Ug hb.2.2]
     simp only [Option.bind_some,cJ]
     exact w2
 exact key R.length 0 0 [] (by omega) (by omega) (by omega) (by omega) (by simp) (by simp)
def Nx {α:Type} (cf:α→α→Int) (FV:α→α→Prop) (Z:List α):Prop:=Z.Pairwise (fun a b=>¬ cf b a < 0∧(¬ cf a b < 0→FV a b))
theorem GH {α:Type} (ml:α→α→Option Int) (cf:α→α→Int) (FV:α→α→Prop) (n4:Int) (hn:n4≤1000000) (x:α):∀ (k:Nat) (P R post:List α),P.length=k→(P.length:Int)≤1000000→
 (∀ y∈P,ml x y=some (cf x y))→Ar cf (x :: (P++R))→Nx cf FV (P++R)→(∀ r∈R,cf x r < 0)→(∀ y∈P,FV y x)→
 ∃ Z,r6 0 ml n4 (P++x :: (R++post)) P.length=some (.inl (Z++post,aN (n4+1)))∧Z.Perm (x :: (P++R))∧Nx cf FV Z:=by
 intro k
 induction k with
 | zero=>
   intro P R post hP hl hf hO hs hR h2
   obtain rfl:P=[]:=List.eq_nil_of_length_eq_zero hP
   refine ⟨x :: R,?_,by simp,?_⟩
   ·unfold r6
    rw [iter_eq,uL,if_neg (by simp),tw,if_neg (by simp),bu];simp
   ·refine List.pairwise_cons.2 ⟨fun r hr=>⟨fun lA=>?_,fun NP=>absurd (hR r hr) NP⟩,by simpa [Nx] using hs⟩
    exact hO.Hh x (by simp) (hO.tr x (by simp) r (by simp [hr]) x (by simp) (hR r hr) lA)
 | succ k ih=>
   intro P R post hP hl hf hO hs hR h2
   obtain ⟨Q,y,rfl⟩:∃ Q y,P=Q++[y]:=by
    rcases List.eq_nil_or_concat P with h | ⟨Q,y,h⟩
    ·rw [h] at hP;simp at hP
    ·exact ⟨Q,y,by simpa using h⟩
   have hQ:Q.length=k:=by simpa using hP
   have hlen:((Q++[y]).length:Int)=Q.length+1:=by simp
   have hlq:(Q.length:Int)+1≤1000000:=by rw [← hlen];exact hl
   have w1:aN ((Q.length:Int)+1 - 1)=Q.length:=by rw [bg]<;>omega
   have e1:(Q++[y])++x :: (R++post)=Q++y :: x :: (R++post):=by simp
   have i1:idx (Q++y :: x :: (R++post)) ((Q.length:Int)+1)=some x:=by
    have:=AA (Q++[y]) x (R++post) (i:=(Q.length:Int)+1) (by simp)
    simpa using this
   have i0:idx (Q++y :: x :: (R++post)) (Q.length:Int)=some y:=AA Q y _ rfl
   rw [e1,hlen]
   by_cases hc:cf x y < 0
   ·obtain ⟨Z,z1,z2,z3⟩:=ih Q (y :: R) post hQ (by omega) (fun z hz=>hf z (by simp [hz])) (hO.mono (fun z hz=>by simp at hz ⊢;rcases hz with h | h | h | h<;>simp [h])) (by simpa using hs) (fun r hr=>by rcases List.mem_cons.1 hr with rfl | hr;exact hc;exact hR r hr) (fun z hz=>h2 z (by simp [hz]))
    refine ⟨Z,?_,z2.trans (by simp),z3⟩
    unfold r6 at z1 ⊢
    rw [iter_eq,uL,if_pos (by simp only;omega)]
    simp only [i1,w1,i0,Option.bind_some,hf y (by simp),hc,decide_true]
    unfold tw
    rw [if_pos rfl,w1]
    simp only [i0,i1,Option.bind_some]
    have i2:idx ((Q++y :: x :: (R++post)).set ((Q.length:Int)+1).toNat y) (Q.length:Int)=some y:=by
     rw [show ((Q.length:Int)+1).toNat=Q.length+1 by omega]
     unfold idx
     rw [if_pos (by omega),List.getElem?_set_ne (by simp)]
     simp
    rw [i2]
    simp only [Option.bind_some,cJ]
    have e2:((Q++y :: x :: (R++post)).set ((Q.length:Int)+1).toNat y).set ((Q.length:Int)).toNat x=Q++x :: (y :: R++post):=by
     rw [show ((Q.length:Int)+1).toNat=Q.length+1 by omega,show ((Q.length:Int)).toNat=Q.length by omega,Fl];simp
    rw [e2]
    exact z1
   ·refine ⟨Q++y :: x :: R,?_,?_,?_⟩
    ·unfold r6
     rw [iter_eq,uL,if_pos (by simp only;omega)]
     simp only [i1,w1,i0,Option.bind_some,hf y (by simp),hc,decide_false]
     unfold tw
     rw [if_neg (by simp),bu];simp
    ·have:(Q++y :: x :: R).Perm (x :: (Q++y :: R)):=by
      have h:=List.perm_middle (a:=x) (l₁:=Q++[y]) (l₂:=R)
      simpa using h
     simpa using this
    ·unfold Nx at hs ⊢
     have xE:(Q++y :: R).Pairwise (fun a b=>¬ cf b a < 0∧(¬ cf a b < 0→FV a b)):=by simpa using hs
     rw [List.pairwise_append,List.pairwise_cons] at xE ⊢
     obtain ⟨a1,⟨a2,a3⟩,a4⟩:=xE
     have TR:∀ q∈Q,¬ cf x q < 0:=fun q hq=>hO.RX x (by simp) y (by simp) q (by simp [hq]) hc (a4 q hq y (by simp)).1
     refine ⟨a1,⟨fun z hz=>?_,List.pairwise_cons.2 ⟨fun r hr=>⟨fun lA=>?_,fun NP=>absurd (hR r hr) NP⟩,a3⟩⟩,fun q hq z hz=>?_⟩
     ·rcases List.mem_cons.1 hz with rfl | hz
      ·exact ⟨hc,fun _=>h2 y (by simp)⟩
      ·exact a2 z hz
     ·exact hO.Hh x (by simp) (hO.tr x (by simp) r (by simp [hr]) x (by simp) (hR r hr) lA)
     ·rcases List.mem_cons.1 hz with rfl | hz
      ·exact a4 q hq z (by simp)
      ·rcases List.mem_cons.1 hz with rfl | hz
       ·exact ⟨TR q hq,fun _=>h2 q (by simp [hq])⟩
       ·exact a4 q hq z (by simp [hz])
theorem GJ {α:Type} (ml:α→α→Option Int) (cf:α→α→Int) (FV:α→α→Prop) (xs:List α) (hl:(xs.length:Int)≤100000) (hf:∀ x∈xs,∀ y∈xs,ml x y=some (cf x y)) (hO:Ar cf xs):∀ (n:Nat) (P post:List α) (i:Int),i=P.length→post.length=n→(P++post).Perm xs→Nx cf FV P→(∀ y∈P,∀ z∈post,FV y z)→post.Pairwise FV→
 ∃ Z,r7 0 xs.length ml (P++post) i=some Z∧Z.Perm xs∧Nx cf FV Z:=by
 intro n
 induction n with
 | zero=>
   intro P post i hi hn hp hs h2 h3
   obtain rfl:post=[]:=List.eq_nil_of_length_eq_zero hn
   have hlen:=hp.length_eq
   simp only [List.append_nil] at hp hlen ⊢
   refine ⟨P,?_,hp,hs⟩
   unfold r7
   rw [iter_eq,uM,if_neg (by simp only;omega),bu]
 | succ n ih=>
   intro P post i hi hn hp hs h2 h3
   match post,hn with
   | x :: r,hn=>
     have hlen:=hp.length_eq
     simp only [List.length_append,List.length_cons] at hlen
     have rI:∀ z∈P++x :: r,z∈xs:=fun z hz=>hp.mem_iff.1 hz
     have GY:=List.pairwise_cons.1 h3
     obtain ⟨Z,z1,z2,z3⟩:=GH ml cf FV i (by omega) x P.length P [] r rfl (by omega) (fun y hy=>hf x (rI x (by simp)) y (rI y (by simp [hy]))) (hO.mono (fun z hz=>rI z (by simp at hz ⊢;rcases hz with h | h<;>simp [h]))) (by simpa using hs) (by simp) (fun y hy=>h2 y hy x (by simp))
     simp only [List.append_nil,List.nil_append] at z1 z2
     have QD:=z2.length_eq
     obtain ⟨Y,y1,y2,y3⟩:=ih Z r (i+1) (by rw [hi];simp at QD;omega) (by simpa using hn) (by
      refine List.Perm.trans ?_ hp
      have:(Z++r).Perm ((x :: P)++r):=z2.append_right r
      refine this.trans ?_
      have h:=List.perm_middle (a:=x) (l₁:=P) (l₂:=r)
      simpa using h.symm) z3 (fun y hy z hz=>by
       rcases List.mem_cons.1 (z2.mem_iff.1 hy) with rfl | hy
       ·exact GY.1 z hz
       ·exact h2 y hy z (List.mem_cons_of_mem _ hz)) GY.2
     refine ⟨Y,?_,y2,y3⟩
     unfold r7 at y1 ⊢
     rw [iter_eq,uM,if_pos (by simp only;omega)]
     simp only
     rw [← hi] at z1
     rw [z1]
     simp only [Option.bind_some,cJ]
     rw [bg (by omega) (by omega)]
     exact y1
theorem KH {α:Type} (ml:α→α→Option Int) (cf:α→α→Int) (FV:α→α→Prop) (xs:List α) (hl:(xs.length:Int)≤100000) (hf:∀ x∈xs,∀ y∈xs,ml x y=some (cf x y)) (hO:Ar cf xs) (h2:xs.Pairwise FV):∃ Z,Mu xs 0 xs.length ml=some Z∧Z.Perm xs∧Nx cf FV Z:=by
 unfold Mu
 rw [show aN (0+1)=1 by decide]
 cases xs with
 | nil=>
   refine ⟨[],?_,List.Perm.refl _,.nil⟩
   unfold r7
   rw [iter_eq,uM,if_neg (by simp),bu]
 | cons x r=>
   have M7:=List.pairwise_cons.1 h2
   exact GJ ml cf FV (x :: r) hl hf hO r.length [x] r 1 (by simp) rfl (List.Perm.refl _) (by simp [Nx]) (fun y hy z hz=>by
    rw [List.mem_singleton] at hy;subst hy;exact M7.1 z hz) M7.2
theorem uW {α:Type} [DecidableEq α]:∀ {p l:List α},p.Nodup→(∀ x∈p,x∈l)→p.length≤l.length
 | [],l,_,_=>Nat.zero_le _
 | x :: r,l,hn,hs=>by
   have Jp:=List.nodup_cons.1 hn
   have hx:=hs x List.mem_cons_self
   have h:=uW (p:=r) (l:=l.erase x) Jp.2 (fun y hy=>(List.mem_erase_of_ne (fun e=>Jp.1 (by rw [← e];exact hy))).2 (hs y (List.mem_cons_of_mem _ hy)))
   have e:=List.length_erase_of_mem hx
   have hp:=List.length_pos_of_mem hx
   rw [List.length_cons];omega
theorem FI {α:Type} [DecidableEq α] {p l:List α} (hs:∀ x∈p,x∈l) (hl:l.length < p.length):∃ i j,i < j∧j < p.length∧p[i]? =p[j]?:=by
 refine Classical.byContradiction fun LF=>?_
 have hn:p.Nodup:=List.pairwise_iff_getElem.2 fun i j hi hj x3 he=>LF ⟨i,j,x3,hj,by rw [List.getElem?_eq_getElem hi,List.getElem?_eq_getElem hj,he]⟩
 have:=uW hn hs
 omega
def sk (par:aS→Option aS) (D:aS):Nat→Option aS
 | 0=>some D
 | n+1=>(sk par D n).bind par
section
variable {par:aS→Option aS}
theorem AF {D X:aS} {a:Nat} (h:sk par D a=some X):∀ b,sk par D (a+b)=sk par X b
 | 0=>h
 | b+1=>by show (sk par D (a+b)).bind par=_;rw [AF h b];rfl
theorem uv {D:aS} {a:Nat} (h:sk par D a=none):∀ b,sk par D (a+b)=none
 | 0=>h
 | b+1=>by show (sk par D (a+b)).bind par=_;rw [uv h b];rfl
theorem FJ {D:aS} {a b:Nat} (h:sk par D a=sk par D b):sk par D (a+1)=sk par D (b+1):=by show (sk par D a).bind par=(sk par D b).bind par;rw [h]
def Lp (par:aS→Option aS) (D:aS):Prop:=∃ k,1≤k∧sk par D k=some D
def Hu (par:aS→Option aS) (D:aS) (out:List aS):Prop:=∀ i,i < out.length→out[i]? =sk par D (i+1)
theorem Hu.nil (D:aS):Hu par D []:=fun i hi=>by simp at hi
theorem Hu.snoc {D x:aS} {out:List aS} (h:Hu par D out) (hx:sk par D (out.length+1)=some x):Hu par D (out++[x]):=by
 intro i hi
 rw [List.length_append,List.length_singleton] at hi
 by_cases e:i < out.length
 ·rw [List.getElem?_append_left e];exact h i e
 ·have:i=out.length:=by omega
  subst this
  rw [hx];simp
theorem Hu.mem {D x:aS} {out:List aS} (h:Hu par D out) (hx:x∈out):∃ i,1≤i∧i≤out.length∧sk par D i=some x:=by
 obtain ⟨i,hi,e⟩:=List.getElem_of_mem hx
 exact ⟨i+1,by omega,by omega,by rw [← h i hi,List.getElem?_eq_getElem hi,e]⟩
theorem Hu.of {D x:aS} {out:List aS} (h:Hu par D out) {i:Nat} (h1:1≤i) (h2:i≤out.length) (hx:sk par D i=some x):x∈out:=by
 have:=h (i - 1) (by omega)
 rw [show i - 1+1=i by omega,hx] at this
 exact List.mem_of_getElem? this
theorem round {D:aS} {i j:Nat} (hi:1≤i) (x3:i≤j) (h:sk par D (j+1)=sk par D i):∀ n,1≤n→∃ k,1≤k∧k≤j∧sk par D n=sk par D k:=by
 intro n
 induction n with
 | zero=>intro h;omega
 | succ n ih=>
   intro _
   by_cases hn:n=0
   ·subst hn;exact ⟨1,by omega,by omega,rfl⟩
   ·obtain ⟨k,k1,k2,k3⟩:=ih (by omega)
    by_cases hk:k+1≤j
    ·exact ⟨k+1,by omega,hk,FJ k3⟩
    ·have:k=j:=by omega
     subst this
     exact ⟨i,hi,x3,by rw [FJ k3,h]⟩
theorem OR {D:aS} {out dv:List aS} (h:Hu par D out) (Uh:∀ X,par X≠none→X∈dv) (hn:sk par D (out.length+1)≠none) (hl:dv.length < out.length) (hD:∀ i,1≤i→i≤out.length→sk par D i≠some D):¬ Lp par D:=by
 rintro ⟨k,k1,k2⟩
 obtain ⟨i,j,x3,hj,e⟩:=FI (p:=out) (l:=dv) (fun x hx=>by
  obtain ⟨i,i1,i2,i3⟩:=h.mem hx
  refine Uh x fun hp=>hn ?_
  have hz:sk par D (i+1)=none:=by show (sk par D i).bind par=none;rw [i3];exact hp
  have:=uv hz (out.length - i)
  rw [show i+1+(out.length - i)=out.length+1 by omega] at this
  exact this) hl
 rw [h i (by omega),h j hj] at e
 obtain ⟨m,m1,m2,m3⟩:=round (i:=i+1) (j:=j) (by omega) (by omega) e.symm k k1
 exact hD m m1 (by omega) (by rw [← m3];exact k2)
def IK (par:aS→Option aS):aS→List aS→Prop
 | q,[]=>par q=none
 | q,x :: r=>par q=some x∧IK par x r
theorem IK.at {p:List aS}:∀ {D:aS},IK par D p→∀ i,i≤p.length→(D :: p)[i]? =sk par D i:=by
 induction p with
 | nil=>
   intro D h i hi
   have hz:i=0:=by simpa using hi
   subst hz
   rfl
 | cons x r ih=>
   intro D h i hi
   cases i with
   | zero=>rfl
   | succ i=>
     have:=ih h.2 i (by simpa using hi)
     rw [List.getElem?_cons_succ,this]
     have h1:sk par D 1=some x:=h.1
     rw [Nat.add_comm i 1,AF h1]
theorem MM (hL:∀ X,¬ Lp par X) {dv:List aS} (Uh:∀ X,par X≠none→X∈dv) (D:aS):∃ p,IK par D p∧(D :: p).Nodup∧p.length≤dv.length:=by
 have fuel:∀ (n:Nat) (D:aS),(∃ p,IK par D p∧p.length≤n)∨sk par D (n+1)≠none:=by
  intro n
  induction n with
  | zero=>
    intro D
    cases hp:par D with
    | none=>exact .inl ⟨[],hp,by simp⟩
    | some x=>exact .inr (by show par D≠none;rw [hp];simp)
  | succ n ih=>
    intro D
    cases hp:par D with
    | none=>exact .inl ⟨[],hp,by simp⟩
    | some x=>
      rcases ih x with ⟨p,p1,p2⟩ | h
      ·exact .inl ⟨x :: p,⟨hp,p1⟩,by simp;omega⟩
      ·right
       have h1:sk par D 1=some x:=hp
       rw [show n+1+1=1+(n+1) by omega,AF h1];exact h
 have dup:∀ {i j:Nat} {X:aS},i < j→sk par D i=some X→sk par D j=some X→False:=by
  intro i j X x3 h1 h2
  refine hL X ⟨j - i,by omega,?_⟩
  rw [← AF h1,show i+(j - i)=j by omega];exact h2
 rcases fuel dv.length D with ⟨p,p1,p2⟩ | h
 ·refine ⟨p,p1,List.pairwise_iff_getElem.2 fun i j hi hj x3 he=>?_,p2⟩
  have Lm:i≤p.length:=by simp at hi;omega
  have PZ:j≤p.length:=by simp at hj;omega
  have a:=p1.at i Lm
  have b:=p1.at j PZ
  rw [List.getElem?_eq_getElem hi] at a
  rw [List.getElem?_eq_getElem hj,← he] at b
  exact dup x3 a.symm b.symm
 ·exfalso
  have KI:∀ i,i≤dv.length→∃ X,sk par D i=some X∧par X≠none:=by
   intro i hi
   have h1:sk par D (i+1)≠none:=fun z=>h (by
    have:=uv z (dv.length - i)
    rw [show i+1+(dv.length - i)=dv.length+1 by omega] at this;exact this)
   cases hx:sk par D i with
   | none=>exact absurd (by show (sk par D i).bind par=none;rw [hx];rfl) h1
   | some X=>exact ⟨X,rfl,fun z=>h1 (by show (sk par D i).bind par=none;rw [hx];exact z)⟩
  obtain ⟨i,j,x3,hj,e⟩:=FI (p:=(List.range (dv.length+1)).map fun i=>(sk par D i).getD []) (l:=dv) (fun x hx=>by
   obtain ⟨i,hi,rfl⟩:=List.mem_map.1 hx
   obtain ⟨X,x1,x2⟩:=KI i (by have:=List.mem_range.1 hi;omega)
   rw [x1];exact Uh X x2) (by simp)
  simp only [List.length_map,List.length_range] at hj
  rw [List.getElem?_map,List.getElem?_map,List.getElem?_range (by omega),List.getElem?_range hj] at e
  obtain ⟨X,x1,_⟩:=KI i (by omega)
  obtain ⟨Y,y1,_⟩:=KI j (by omega)
  simp only [Option.map_some,x1,y1,Option.getD_some,Option.some.injEq] at e
  subst e
  exact dup x3 x1 y1
end
theorem C7 {α:Type} (st:Option α→α→Int) (xs:List α) (f:Int→Option (Int⊕Int)) (E:Option Int) (hf:∀ {i:Int} {s:α},0≤i→i < xs.length→idx xs i=some s→f i=some (if st (bY xs i) s=0 then .inl (i+1) else .inr (st (bY xs i) s)))
 (he:f xs.length=Option.map .inr E):iter f 0=if mi st none xs=0 then E else some (mi st none xs):=by
 have key:∀ (n:Nat) (i:Int),0≤i→i+n=xs.length→iter f i=if mi st (bY xs i) (xs.drop i.toNat)=0 then E else some (mi st (bY xs i) (xs.drop i.toNat)):=by
  intro n
  induction n with
  | zero=>
    intro i h0 hn
    obtain rfl:i=xs.length:=by omega
    rw [iter_eq,he,bu,List.drop_of_length_le (by omega)];rfl
  | succ n ih=>
    intro i h0 hn
    obtain ⟨s,hs,_,hd⟩:=ig xs h0 (by omega)
    rw [iter_eq,hf h0 (by omega) hs,hd]
    simp only [Option.bind_some]
    by_cases hz:st (bY xs i) s=0
    ·have hp:bY xs (i+1)=some s:=by unfold bY;rw [if_neg (by omega),show i+1 - 1=i by omega,hs]
     have:=ih (i+1) (by omega) (by omega)
     rw [hp] at this
     have Ui:mi st (bY xs i) (s :: xs.drop (i+1).toNat)=mi st (some s) (xs.drop (i+1).toNat):=by
      conv=>lhs;unfold mi
      rw [if_pos hz]
     rw [if_pos hz,cJ,this,Ui]
    ·have Ui:mi st (bY xs i) (s :: xs.drop (i+1).toNat)=st (bY xs i) s:=by
      conv=>lhs;unfold mi
      rw [if_neg hz]
     rw [Ui,if_neg hz,if_neg hz];rfl
 have:=key xs.length 0 (by omega) (by omega)
 simpa [bY] using this
theorem D7 (a b:aS):(Op.bytesLess a b||a==b)=decide (Lib.compareBytes a b≤0):=by
 rw [uo,Mt]
 rcases C0 a b with h | h | h<;>simp [h]
def pw (prev:Option cP) (l:cP):Int:=if (cE l.Device&&cE l.fk)=false then 5 else match prev with
 | none=>0
 | some p=>if Lib.compareBytes l.Device p.Device≤0 then 7 else 0
def rz (g:bC):Prop:=g.Level < 1∨9 < g.Level
instance (g:bC):Decidable (rz g):=by unfold rz;exact inferInstance
def xL (prev:Option bC) (g:bC):Int:=if cE g.aZ=false then 5 else match prev with
 | none=>if rz g then 1 else 0
 | some p=>if Lib.compareBytes g.aZ p.aZ≤0 then 7 else if rz g then 1 else 0
def FK (l:List bC):Int:=if (100:Int) < l.length then 2 else mi xL none l
def lX (l:List cP) (q:aS):Option aS:=(l.find? fun x=>decide (x.Device=q)).map cP.fk
def Uj (l:List cP):Prop:=l.Pairwise (fun a b=>Lib.compareBytes a.Device b.Device < 0)
def C8 (l:List cP):List (aS×aS):=l.foldl (fun m x=>jh m x.Device x.fk) []
theorem KJ (l:List cP) (x:cP):C8 (l++[x])=jh (C8 l) x.Device x.fk:=by unfold C8;rw [List.foldl_append];rfl
theorem D8:∀ (l:List cP),Uj l→(∀ q,bQ (C8 l) q=lX l q)∧(C8 l).length=l.length:=by
 refine uU ?_ ?_
 ·intro _;exact ⟨fun _=>rfl,rfl⟩
 ·intro l x ih h
  have hp:=List.pairwise_append.1 h
  obtain ⟨i1,i2⟩:=ih hp.1
  have Dt:lX l x.Device=none:=by
   unfold lX
   rw [List.find?_eq_none.2 (fun y hy=>by
    have:=hp.2.2 y hy x (by simp)
    intro z
    rw [of_decide_eq_true z,uk] at this
    omega)];rfl
  rw [KJ]
  refine ⟨fun q=>?_,?_⟩
  ·rw [pY,i1 q]
   unfold lX
   rw [List.find?_append]
   by_cases e:x.Device=q
   ·rw [if_pos e]
    have:l.find? (fun y=>decide (y.Device=q))=none:=by
     unfold lX at Dt
     rw [e] at Dt
     simpa using Dt
    rw [this]
    simp [e]
   ·rw [if_neg e]
    simp [e]
  ·rw [DV (by rw [i1,Dt]),i2];simp
theorem xM (l:List cP) (hl:(l.length:Int)≤1000):kD l=some (C8 l):=by
 unfold kD uc
 exact iW (A:=List (aS×aS)) l (fun (s:List (aS×aS)) (i:Int)=>(s,i)) (fun x:(List (aS×aS))×Int=>fe l x.1 x.2) (fun m x=>jh m x.Device x.fk) (fun _ _=>True) (fun s=>some s)
  (fun s i x h0 h1 hx _=>by
   refine ⟨?_,trivial⟩
   show fe l s i=_
   rw [fe,if_pos h1,hx]
   simp only [Option.bind_some]
   rw [bg (by omega) (by omega)])
  (fun s _=>by
   show fe l s l.length=_
   rw [fe,if_neg (by omega)]) [] trivial
theorem KK {m:List (aS×aS)} {X:aS} (h:bQ m X≠none):X∈m.map Prod.fst:=by
 induction m with
 | nil=>exact absurd rfl h
 | cons e m ih=>
   rw [nz] at h
   by_cases he:e.1=X
   ·rw [List.map_cons,he];simp
   ·rw [if_neg he] at h
    exact List.mem_cons_of_mem _ (ih h)
theorem Iu {m:List (aS×aS)} (hl:(m.length:Int)≤1000) (D:aS):Ok (lD m D) (fun r=>r.2=true↔¬ Lp (bQ m) D):=by
 unfold lD vC
 simp only [Option.bind_some]
 unfold vK
 refine Ok.iter (fun x:(List aS)×aS×Bool=>m.length+2 - x.1.length)
  (fun x=>Hu (bQ m) D x.1∧x.1.length≤m.length+1∧(x.2.2=true→sk (bQ m) D (x.1.length+1)=some x.2.1)∧(x.2.2=false→sk (bQ m) D (x.1.length+1)=none)∧∀ i,1≤i→i≤x.1.length→sk (bQ m) D i≠some D) ?_ _ ?_
 ·rintro ⟨out,q,c⟩ ⟨h1,h2,h3,h4,h5⟩
  simp only at h1 h2 h3 h4 h5
  show Ok (eT m D out q c) _
  unfold eT
  cases c with
  | true=>
    have h3:=h3 rfl
    rw [if_pos rfl]
    by_cases hq:q=D
    ·rw [if_pos hq]
     refine ⟨_,rfl,?_⟩
     show false=true↔_
     exact ⟨fun z=>(by cases z),fun z=>absurd ⟨out.length+1,by omega,by rw [h3,hq]⟩ z⟩
    ·rw [if_neg hq]
     by_cases hb:(m.length:Int) < out.length
     ·rw [if_pos hb]
      refine ⟨_,rfl,?_⟩
      show true=true↔_
      exact ⟨fun _=>OR h1 (dv:=m.map Prod.fst) (fun X=>KK) (by rw [h3];simp) (by rw [List.length_map];omega) h5,fun _=>rfl⟩
     ·rw [if_neg hb,jI (by simp;omega)]
      simp only [Option.bind_some]
      have hs:sk (bQ m) D (out.length+1+1)=bQ m q:=by
       show (sk (bQ m) D (out.length+1)).bind (bQ m)=_
       rw [h3];rfl
      refine ⟨_,rfl,⟨h1.snoc h3,by simp;omega,fun z=>?_,fun z=>?_,fun i i1 i2=>?_⟩,by simp;omega⟩
      ·simp only [List.length_append,List.length_singleton]
       rw [hs]
       cases hm:bQ m q with
       | none=>rw [hm] at z;cases z
       | some v=>rfl
      ·simp only [List.length_append,List.length_singleton]
       rw [hs]
       cases hm:bQ m q with
       | none=>rfl
       | some v=>rw [hm] at z;cases z
      ·simp only [List.length_append,List.length_singleton] at i2
       by_cases e:i≤out.length
       ·exact h5 i i1 e
       ·obtain rfl:i=out.length+1:=by omega
        rw [h3];simpa using hq
  | false=>
    rw [if_neg (by simp)]
    refine ⟨_,rfl,?_⟩
    show true=true↔_
    refine ⟨fun _=>?_,fun _=>rfl⟩
    rintro ⟨k,k1,k2⟩
    by_cases hk:k≤out.length
    ·exact h5 k k1 hk k2
    ·have:=uv (h4 rfl) (k - (out.length+1))
     rw [show out.length+1+(k - (out.length+1))=k by omega,k2] at this
     cases this
 ·refine ⟨Hu.nil D,by simp,fun z=>?_,fun z=>?_,fun i i1 i2=>by simp at i2;omega⟩
  ·show (some D).bind (bQ m)=_
   cases hm:bQ m D with
   | none=>rw [hm] at z;cases z
   | some v=>exact hm
  ·show (some D).bind (bQ m)=_
   cases hm:bQ m D with
   | none=>exact hm
   | some v=>rw [hm] at z;cases z
theorem GK {m:List (aS×aS)} (hl:(m.length:Int)≤1000) (D:aS) {p:List aS} (hp:IK (bQ m) D p) (hn:(D :: p).Nodup) (HC:p.length≤m.length):lD m D=some (p,true):=by
 have key:∀ (r out:List aS) (q:aS),IK (bQ m) q r→D∉r→out.length+r.length≤m.length→iter (fun x:(List aS)×aS×Bool=>eT m D x.1 x.2.1 x.2.2) (out,(bQ m q).getD [],(bQ m q).isSome)=some (out++r,true):=by
  intro r
  induction r with
  | nil=>
    intro out q h _ _
    have h:bQ m q=none:=h
    rw [iter_eq,h]
    show (eT m D out [] false).bind _=_
    rw [eT,if_neg (by simp),bu,List.append_nil];rfl
  | cons x r ih=>
    intro out q h hD hlen
    rw [List.length_cons] at hlen
    rw [iter_eq,h.1]
    show (eT m D out x true).bind _=_
    rw [eT,if_pos rfl,if_neg (fun z=>hD (by rw [z];simp)),if_neg (by omega),jI (by simp;omega)]
    unfold vC
    simp only [Option.bind_some,cJ]
    rw [ih (out++[x]) x h.2 (fun z=>hD (List.mem_cons_of_mem _ z)) (by simp;omega)]
    simp
 unfold lD vC
 simp only [Option.bind_some]
 have:=key p [] D hp (List.nodup_cons.1 hn).1 (by simpa using HC)
 rw [List.nil_append] at this
 exact this
theorem GL {α:Type} (p:α→Bool) (xs:List α):(js p xs 0 < 0∧xs.find? p=none)∨∃ y,0≤js p xs 0∧idx xs (js p xs 0)=some y∧xs.find? p=some y:=by
 rcases vZ p xs 0 (by omega) with ⟨e1,e2⟩ | ⟨e1,e2,e3,y,e4,e5⟩
 ·exact .inl ⟨by omega,List.find?_eq_none.2 fun x hx=>by rw [e2 x hx];simp⟩
 ·right
  refine ⟨y,e1,?_,?_⟩
  ·unfold idx
   rw [if_pos e1]
   simpa using e4
  ·generalize js p xs 0=k at e1 e2 e3 e4
   rw [show (k - 0).toNat=k.toNat by simp] at e3 e4
   obtain ⟨h,e4'⟩:=List.getElem?_eq_some_iff.1 e4
   conv=>lhs;rw [← List.take_append_drop k.toNat xs]
   rw [List.find?_append,List.find?_eq_none.2 (fun x hx=>by rw [e3 x hx];simp),List.drop_eq_getElem_cons h,e4']
   simp [e5]
theorem Ny (L:List aS) (m:aS) (hl:(L.length:Int)≤100000):cx L m=some (decide (m∈L)):=by
 have h:=Ku L m (by omega)
 rw [show cx L m=Kt L m from rfl,h]
 simp
theorem MN (l:List cP) (q:aS) (hl:(l.length:Int)≤1000):gq l (fun y0=>some (mO y0 q))=some (js (fun y=>mO y q) l 0):=
 qm l (fun y0=>some (mO y0 q)) (fun y=>mO y q) (fun _ _=>rfl) (by omega)
theorem BQ {b:bd} (hl:(b.Links.length:Int)≤1000) (q:aS) (out:List aS) (ho:(out.length:Int)≤1000):kC b q out=some (match lX b.Links q with
 | none=>.inr out
 | some x=>if x∈out then .inr out else .inl (x,out++[x])):=by
 unfold kC
 rw [MN _ _ hl]
 simp only [Option.bind_some]
 have hq:∀ y,mO y q=decide (y.Device=q):=fun _=>rfl
 simp only [hq]
 unfold lX
 rcases GL (fun y:cP=>decide (y.Device=q)) b.Links with ⟨e1,e2⟩ | ⟨y,e1,e2,e3⟩
 ·rw [e2,if_pos e1];rfl
 ·rw [e3,if_neg (by omega),e2]
  simp only [Option.bind_some,Option.map_some]
  rw [Ny _ _ (by omega)]
  simp only [Option.bind_some]
  unfold sw
  by_cases hm:y.fk∈out
  ·rw [decide_eq_true hm,if_pos rfl,if_pos hm];rfl
  ·rw [decide_eq_false hm,if_neg (by simp),if_neg hm,e2]
   simp only [Option.bind_some]
   rw [jI (by simp;omega)];rfl
theorem Hv {l:List cP} {X:aS} (h:lX l X≠none):X∈l.map cP.Device:=by
 unfold lX at h
 cases hf:l.find? (fun x=>decide (x.Device=X)) with
 | none=>rw [hf] at h;exact absurd rfl h
 | some y=>
   have h1:=List.mem_of_find?_eq_some hf
   have h2:=List.find?_some hf
   exact List.mem_map.2 ⟨y,h1,of_decide_eq_true h2⟩
theorem MO {l:List cP} {q x:aS} (h:lX l q=some x):x∈l.map cP.fk:=by
 unfold lX at h
 cases hf:l.find? (fun y=>decide (y.Device=q)) with
 | none=>rw [hf] at h;cases h
 | some y=>
   rw [hf] at h
   exact List.mem_map.2 ⟨y,List.mem_of_find?_eq_some hf,Option.some.inj h⟩
theorem GM {b:bd} (hl:(b.Links.length:Int)≤1000) (D:aS):Ok (te b D) (fun out=>(D∈out↔Lp (lX b.Links) D)∧out.length≤b.Links.length):=by
 unfold te Bn
 refine Ok.iter (fun x:aS×(List aS)=>b.Links.length+1 - x.2.length)
  (fun x=>Hu (lX b.Links) D x.2∧sk (lX b.Links) D x.2.length=some x.1∧x.2.Nodup∧∀ y∈x.2,y∈b.Links.map cP.fk) ?_ _ ⟨Hu.nil D,rfl,List.Pairwise.nil,by simp⟩
 rintro ⟨q,out⟩ ⟨h1,h2,h3,h4⟩
 simp only at h1 h2 h3 h4
 have hlen:=uW h3 h4
 rw [List.length_map] at hlen
 show Ok (kC b q out) _
 rw [BQ hl q out (by omega)]
 have hs:sk (lX b.Links) D (out.length+1)=lX b.Links q:=by
  show (sk (lX b.Links) D out.length).bind (lX b.Links)=_
  rw [h2];rfl
 refine ⟨_,rfl,?_⟩
 cases hp:lX b.Links q with
 | none=>
   refine ⟨⟨fun z=>?_,fun ⟨k,k1,k2⟩=>?_⟩,hlen⟩
   ·obtain ⟨i,i1,_,i3⟩:=h1.mem z
    exact ⟨i,i1,i3⟩
   ·by_cases hk:k≤out.length
    ·exact h1.of k1 hk k2
    ·have:=uv (hs.trans hp) (k - (out.length+1))
     rw [show out.length+1+(k - (out.length+1))=k by omega,k2] at this
     cases this
 | some x=>
   simp only
   by_cases hx:x∈out
   ·rw [if_pos hx]
    refine ⟨⟨fun z=>?_,fun ⟨k,k1,k2⟩=>?_⟩,hlen⟩
    ·obtain ⟨i,i1,_,i3⟩:=h1.mem z
     exact ⟨i,i1,i3⟩
    ·obtain ⟨i,i1,i2,i3⟩:=h1.mem hx
     obtain ⟨m,m1,m2,m3⟩:=round (i:=i) (j:=out.length) i1 i2 (by rw [hs,hp,i3]) k k1
     exact h1.of m1 m2 (by rw [← m3];exact k2)
   ·rw [if_neg hx]
    have hn:(out++[x]).Nodup:=by
     rw [List.nodup_append]
     exact ⟨h3,by simp,fun a ha c hc=>by rw [List.mem_singleton] at hc;subst hc;exact fun z=>hx (by rw [← z];exact ha)⟩
    have hm:∀ y∈out++[x],y∈b.Links.map cP.fk:=fun y hy=>by
     rcases List.mem_append.1 hy with e | e
     ·exact h4 y e
     ·rw [List.mem_singleton] at e;subst e;exact MO hp
    have Nz:=uW hn hm
    rw [List.length_map] at Nz
    simp only [List.length_append,List.length_singleton] at Nz
    refine ⟨⟨h1.snoc (by rw [hs,hp]),?_,hn,hm⟩,?_⟩
    ·simp only [List.length_append,List.length_singleton];rw [hs,hp]
    ·simp only [List.length_append,List.length_singleton];omega
theorem zX {b:bd} (hl:(b.Links.length:Int)≤1000) (D:aS) {p:List aS} (hp:IK (lX b.Links) D p) (hn:(D :: p).Nodup) (HC:p.length≤b.Links.length):te b D=some p:=by
 have key:∀ (r out:List aS) (q:aS),IK (lX b.Links) q r→(out++r).Nodup→out.length+r.length≤b.Links.length→iter (fun x:aS×(List aS)=>kC b x.1 x.2) (q,out)=some (out++r):=by
  intro r
  induction r with
  | nil=>
    intro out q h _ hlen
    have h:lX b.Links q=none:=h
    rw [iter_eq]
    show (kC b q out).bind _=_
    rw [BQ hl q out (by simp at hlen;omega),h,List.append_nil];rfl
  | cons x r ih=>
    intro out q h xm hlen
    rw [List.length_cons] at hlen
    have hx:x∉out:=fun z=>(List.nodup_append.1 xm).2.2 x z x (by simp) rfl
    rw [iter_eq]
    show (kC b q out).bind _=_
    rw [BQ hl q out (by omega),h.1]
    simp only
    rw [if_neg hx]
    simp only [Option.bind_some,cJ]
    rw [ih (out++[x]) x h.2 (by simpa using xm) (by simp;omega)]
    simp
 have:=key p [] D hp (List.nodup_cons.1 hn).2 (by simpa using HC)
 exact this
noncomputable def OS (par:aS→Option aS) (D:aS):Bool:=@decide (Lp par D) (Classical.propDecidable _)
theorem yK (par:aS→Option aS) (D:aS):OS par D=true↔Lp par D:=by unfold OS;exact @decide_eq_true_iff _ (Classical.propDecidable _)
noncomputable def wj (b:bd):Int:=
 if KE b.bW≠0 then KE b.bW else if (500:Int) < b.Links.length then 2 else if mi pw none b.Links≠0 then mi pw none b.Links
 else if b.Links.any (fun l=>OS (lX b.Links) l.Device)=true then 14 else FK b.aW
theorem C9 {l:List cP} (h:mi pw none l=0):Uj l∧∀ x∈l,cE x.Device=true∧cE x.fk=true:=by
 have hz:=uQ l none h
 refine ⟨wK (c:=fun (a b:cP)=>Lib.compareBytes a.Device b.Device) (tH.on cP.Device) l (fun i x y hx hy=>?_),fun x hx=>?_⟩
 ·have:=hz (i+1) y hy
  rw [if_neg (by omega),show i+1 - 1=i by omega,hx] at this
  unfold pw at this
  have hn:=yv x.Device y.Device
  split at this
  ·cases this
  ·simp only at this
   split at this
   ·cases this
   ·omega
 ·obtain ⟨i,hi,rfl⟩:=List.getElem_of_mem hx
  have:=hz i l[i] (by simp [hi])
  unfold pw at this
  split at this
  ·cases this
  ·rename_i hk;simpa using hk
theorem FM {l:List cP} (hl:(l.length:Int)≤1000) (f:Int→Option (Int⊕Int)) (E:Int) (P:cP→Bool)
 (hf:∀ (i:Int) x,0≤i→i < l.length→idx l i=some x→f i=if P x=true then some (.inr 14) else some (.inl (i+1))) (he:f l.length=some (.inr E)):iter f 0=some (if l.any P=true then 14 else E):=by
 have h:=ui l f (fun x=>if P x=true then some (14:Int) else none) E (by omega) (fun i x h0 h1 hx=>by
  rw [hf i x h0 h1 hx]
  by_cases hp:P x=true
  ·rw [if_pos hp,if_pos hp]
  ·rw [if_neg hp,if_neg hp]) he
 rw [h]
 congr 1
 clear h hf he hl
 induction l with
 | nil=>rfl
 | cons x r ih=>
   unfold xf
   rw [List.any_cons]
   cases P x with
   | true=>simp
   | false=>simpa using ih
theorem tI (b:bd):fW b=some (wj b):=by
 unfold fW wj
 rw [KF]
 by_cases h1:KE b.bW≠0
 ·rw [if_pos h1,if_pos h1]
 rw [if_neg h1,if_neg h1]
 by_cases h2:(500:Int) < b.Links.length
 ·rw [if_pos h2,if_pos h2]
 rw [if_neg h2,if_neg h2]
 have hl:(b.Links.length:Int)≤1000:=by omega
 have k4:kN b=some (FK b.aW):=by
  unfold kN FK
  by_cases h3:(100:Int) < b.aW.length
  ·rw [if_pos h3,if_pos h3]
  rw [if_neg h3,if_neg h3]
  unfold rq
  refine yz xL b.aW _ (fun {i s} i0 i1 hs=>?_) (by show dM b _=_;rw [dM,if_neg (by omega)];rfl)
  show dM b i=_
  rw [dM,if_pos i1,hs]
  simp only [Option.bind_some]
  rw [uN]
  simp only [Option.bind_some]
  unfold xL
  cases hk:cE s.aZ
  ·simp
  simp only [Bool.not_true,Bool.false_eq_true,if_false,Bool.true_eq_false]
  have j3:∀ c:Bool,gC i s c=some (if c=true then .inr 7 else if rz s then .inr 1 else .inl (i+1)):=by
   intro c
   unfold gC
   rw [xH,bg (x:=i+1) (by omega) (by omega),← Bool.decide_or]
   cases c with
   | true=>rfl
   | false=>
     simp only [Bool.false_eq_true,if_false,decide_eq_true_eq]
     by_cases hv:rz s
     ·rw [if_pos (show s.Level < 1∨9 < s.Level from hv),if_pos hv];rfl
     ·rw [if_neg (show ¬ (s.Level < 1∨9 < s.Level) from hv),if_neg hv]
  by_cases hi:0 < i
  ·obtain ⟨p,hp,_,_⟩:=ig b.aW (i:=i - 1) (by omega) (by omega)
   have z8:bY b.aW i=some p:=by unfold bY;rw [if_neg (by omega),hp]
   rw [z8,if_pos hi,bg (by omega) (by omega),hp]
   simp only [Option.bind_some]
   rw [j3,D7]
   simp only [decide_eq_true_eq]
   by_cases hc:Lib.compareBytes s.aZ p.aZ≤0
   ·simp [hc]
   ·by_cases hv:rz s<;>simp [hc,hv]
  ·have z8:bY b.aW i=none:=by unfold bY;rw [if_pos (by omega)]
   rw [z8,if_neg hi,j3]
   by_cases hv:rz s<;>simp [hv]
 unfold ry
 rw [C7 pw b.Links (fun x:Int=>cU b x) (kO b) (fun {i s} i0 i1 hs=>?_) (by show cU b _=_;rw [cU,if_neg (by omega)])]
 ·by_cases GY:mi pw none b.Links≠0
  ·rw [if_neg GY,if_pos GY]
  have h3:mi pw none b.Links=0:=by simpa using GY
  rw [if_pos h3,if_neg GY]
  obtain ⟨s1,s2⟩:=C9 h3
  obtain ⟨p1,p2⟩:=D8 b.Links s1
  unfold kO
  rw [xM b.Links hl]
  simp only [Option.bind_some]
  unfold ru
  have Iv:bQ (C8 b.Links)=lX b.Links:=funext p1
  have HJ:((C8 b.Links).length:Int)≤1000:=by omega
  exact FM hl (fun x:Int=>cT b (C8 b.Links) x) (FK b.aW) (fun l=>OS (lX b.Links) l.Device) (fun i x i0 i1 hx=>by
   show cT b (C8 b.Links) i=_
   rw [cT,if_pos i1,hx]
   simp only [Option.bind_some]
   obtain ⟨r,r1,r2⟩:=Iu HJ x.Device
   rw [Iv] at r2
   rw [r1]
   simp only [Option.bind_some]
   rw [bg (x:=i+1) (by omega) (by omega)]
   by_cases hp:OS (lX b.Links) x.Device=true
   ·rw [if_pos hp,if_pos (by
     have:=(yK _ _).1 hp
     cases hr:r.2 with
     | false=>rfl
     | true=>exact absurd this (r2.1 hr))];rfl
   ·rw [if_neg hp,if_neg (by
     have:=r2.2 (fun z=>hp ((yK _ _).2 z))
     rw [this];simp)]) (by
   show cT b (C8 b.Links) b.Links.length=_
   rw [cT,if_neg (by omega),k4];rfl)
 ·show cU b i=_
  rw [cU,if_pos i1,hs]
  simp only [Option.bind_some]
  rw [uN,uN]
  simp only [Option.bind_some]
  unfold pw
  have j1:∀ c:Bool,c=!(cE s.Device&&cE s.fk)→gB b i s c=some (if (if (cE s.Device&&cE s.fk)=false then (5:Int) else match bY b.Links i with
   | none=>0
   | some p=>if Lib.compareBytes s.Device p.Device≤0 then 7 else 0)=0 then .inl (i+1) else .inr (if (cE s.Device&&cE s.fk)=false then 5 else match bY b.Links i with
   | none=>0
   | some p=>if Lib.compareBytes s.Device p.Device≤0 then 7 else 0)):=by
   rintro c rfl
   unfold gB iZ
   rw [bg (x:=i+1) (by omega) (by omega)]
   cases hk:(cE s.Device&&cE s.fk)
   ·simp
   simp only [Bool.not_true,Bool.false_eq_true,if_false,Bool.true_eq_false]
   by_cases hi:0 < i
   ·obtain ⟨p,hp,_,_⟩:=ig b.Links (i:=i - 1) (by omega) (by omega)
    have z8:bY b.Links i=some p:=by unfold bY;rw [if_neg (by omega),hp]
    rw [z8,if_pos hi,bg (by omega) (by omega),hp]
    simp only [Option.bind_some]
    rw [D7]
    by_cases hc:Lib.compareBytes s.Device p.Device≤0<;>simp [hc]
   ·have z8:bY b.Links i=none:=by unfold bY;rw [if_pos (by omega)]
    rw [z8,if_neg hi];simp
  cases hd:cE s.Device
  ·have k:=j1 true (by rw [hd];rfl)
   rw [hd] at k;exact k
  ·have k:=j1 (!cE s.fk) (by rw [hd];simp)
   rw [hd] at k;exact k
theorem Cn (b:bd):pf b=some (wj b):=by
 unfold pf wj
 rw [ML]
 by_cases h1:KE b.bW≠0
 ·rw [if_pos h1,if_pos h1]
 rw [if_neg h1,if_neg h1]
 by_cases h2:(500:Int) < b.Links.length
 ·rw [if_pos h2,if_pos h2]
 rw [if_neg h2,if_neg h2]
 have hl:(b.Links.length:Int)≤1000:=by omega
 have k4:om b=some (FK b.aW):=by
  unfold om FK
  by_cases h3:(100:Int) < b.aW.length
  ·rw [if_pos h3,if_pos h3]
  rw [if_neg h3,if_neg h3]
  unfold u6
  refine yz xL b.aW _ (fun {i s} i0 i1 hs=>?_) (by show gE b _=_;rw [gE,if_neg (by omega)];rfl)
  show gE b i=_
  rw [gE,if_pos i1,hs]
  simp only [Option.bind_some]
  rw [sN]
  simp only [Option.bind_some]
  unfold xL
  cases hk:cE s.aZ
  ·simp
  simp only [Bool.not_true,Bool.false_eq_true,if_false,Bool.true_eq_false]
  have j3:∀ c:Bool,jK i s c=some (if c=true then .inr 7 else if rz s then .inr 1 else .inl (i+1)):=by
   intro c
   unfold jK
   rw [wa,bg (x:=i+1) (by omega) (by omega)]
   cases c with
   | true=>rfl
   | false=>
     simp only [Bool.false_eq_true,if_false]
     by_cases hv:rz s
     ·rw [if_pos hv,if_pos (by unfold rz at hv;simp only [Bool.not_eq_true',Bool.and_eq_false_iff,decide_eq_false_iff_not];omega)];rfl
     ·rw [if_neg hv,if_neg (by unfold rz at hv;simp only [Bool.not_eq_true',Bool.and_eq_false_iff,decide_eq_false_iff_not];omega)]
  by_cases hi:0 < i
  ·obtain ⟨p,hp,_,_⟩:=ig b.aW (i:=i - 1) (by omega) (by omega)
   have z8:bY b.aW i=some p:=by unfold bY;rw [if_neg (by omega),hp]
   rw [z8,if_pos hi,bg (by omega) (by omega),hp]
   simp only [Option.bind_some]
   rw [j3,D7]
   simp only [decide_eq_true_eq]
   by_cases hc:Lib.compareBytes s.aZ p.aZ≤0
   ·simp [hc]
   ·by_cases hv:rz s<;>simp [hc,hv]
  ·have z8:bY b.aW i=none:=by unfold bY;rw [if_pos (by omega)]
   rw [z8,if_neg hi,j3]
   by_cases hv:rz s<;>simp [hv]
 unfold u7
 rw [C7 pw b.Links (fun x:Int=>fN b x) (qT b 0) (fun {i s} i0 i1 hs=>?_) (by show fN b _=_;rw [fN,if_neg (by omega)])]
 ·by_cases GY:mi pw none b.Links≠0
  ·rw [if_neg GY,if_pos GY]
  have h3:mi pw none b.Links=0:=by simpa using GY
  rw [if_pos h3,if_neg GY]
  unfold qT
  exact FM hl (fun x:Int=>fM b x) (FK b.aW) (fun l=>OS (lX b.Links) l.Device) (fun i x i0 i1 hx=>by
   show fM b i=_
   rw [fM,if_pos i1,hx]
   simp only [Option.bind_some]
   obtain ⟨r,r1,r2,r3⟩:=GM hl x.Device
   rw [r1]
   simp only [Option.bind_some]
   rw [Ny _ _ (by omega),bg (x:=i+1) (by omega) (by omega)]
   simp only [Option.bind_some,decide_eq_true_eq]
   by_cases hp:OS (lX b.Links) x.Device=true
   ·rw [if_pos hp,if_pos (r2.2 ((yK _ _).1 hp))];rfl
   ·rw [if_neg hp,if_neg (fun z=>hp ((yK _ _).2 (r2.1 z)))]) (by
   show fM b b.Links.length=_
   rw [fM,if_neg (by omega),k4];rfl)
 ·show fN b i=_
  rw [fN,if_pos i1,hs]
  simp only [Option.bind_some]
  rw [sN,sN]
  simp only [Option.bind_some]
  unfold pw
  have j1:∀ c:Bool,c=!(cE s.Device&&cE s.fk)→jJ b i s c=some (if (if (cE s.Device&&cE s.fk)=false then (5:Int) else match bY b.Links i with
   | none=>0
   | some p=>if Lib.compareBytes s.Device p.Device≤0 then 7 else 0)=0 then .inl (i+1) else .inr (if (cE s.Device&&cE s.fk)=false then 5 else match bY b.Links i with
   | none=>0
   | some p=>if Lib.compareBytes s.Device p.Device≤0 then 7 else 0)):=by
   rintro c rfl
   unfold jJ mf
   rw [bg (x:=i+1) (by omega) (by omega)]
   cases hk:(cE s.Device&&cE s.fk)
   ·simp
   simp only [Bool.not_true,Bool.false_eq_true,if_false,Bool.true_eq_false]
   by_cases hi:0 < i
   ·obtain ⟨p,hp,_,_⟩:=ig b.Links (i:=i - 1) (by omega) (by omega)
    have z8:bY b.Links i=some p:=by unfold bY;rw [if_neg (by omega),hp]
    rw [z8,if_pos hi,bg (by omega) (by omega),hp]
    simp only [Option.bind_some]
    rw [D7]
    by_cases hc:Lib.compareBytes s.Device p.Device≤0<;>simp [hc]
   ·have z8:bY b.Links i=none:=by unfold bY;rw [if_pos (by omega)]
    rw [z8,if_neg hi];simp
  cases hd:cE s.Device
  ·have k:=j1 true (by rw [hd];rfl)
   rw [hd] at k;exact k
  ·have k:=j1 (!cE s.fk) (by rw [hd];simp)
   rw [hd] at k;exact k
structure rC (b:bd):Prop where
 Uk:KE b.bW=0
 len:(b.Links.length:Int)≤500
 Lg:Uj b.Links
 key:∀ x∈b.Links,cE x.Device=true∧cE x.fk=true
 acy:∀ X,¬ Lp (lX b.Links) X
 OT:(b.aW.length:Int)≤100
 QO:b.aW.Pairwise (fun x y=>Lib.compareBytes x.aZ y.aZ < 0)
 MP:∀ g∈b.aW,1≤g.Level∧g.Level≤9
theorem BR {b:bd} (h:wj b=0):rC b:=by
 unfold wj at h
 split at h
 ·rename_i h1;exact absurd h h1
 rename_i h1
 split at h
 ·cases h
 rename_i h2
 split at h
 ·rename_i h3;exact absurd h h3
 rename_i h3
 have h3:mi pw none b.Links=0:=by simpa using h3
 split at h
 ·cases h
 rename_i h4
 unfold FK at h
 split at h
 ·cases h
 rename_i h5
 obtain ⟨s1,s2⟩:=C9 h3
 have hz:=uQ b.aW none h
 refine ⟨by simpa using h1,by omega,s1,s2,fun X ⟨k,k1,k2⟩=>?_,by omega,wK (c:=fun (a b:bC)=>Lib.compareBytes a.aZ b.aZ) (tH.on bC.aZ) b.aW (fun i x y hx hy=>?_),fun g hg=>?_⟩
 ·have hX:lX b.Links X≠none:=fun z=>by
   have h1:sk (lX b.Links) X 1=none:=z
   have:=uv h1 (k - 1)
   rw [show 1+(k - 1)=k by omega,k2] at this
   cases this
  obtain ⟨l,hl,rfl⟩:=List.mem_map.1 (Hv hX)
  refine h4 (List.any_eq_true.2 ⟨l,hl,(yK _ _).2 ⟨k,k1,k2⟩⟩)
 ·have:=hz (i+1) y hy
  rw [if_neg (by omega),show i+1 - 1=i by omega,hx] at this
  unfold xL at this
  have hn:=yv x.aZ y.aZ
  split at this
  ·cases this
  ·simp only at this
   split at this
   ·cases this
   ·show Lib.compareBytes x.aZ y.aZ < 0;omega
 ·obtain ⟨i,hi,rfl⟩:=List.getElem_of_mem hg
  have:=hz i b.aW[i] (by simp [hi])
  unfold xL at this
  have lv:∀ g:bC,(if rz g then (1:Int) else 0)=0→1≤g.Level∧g.Level≤9:=fun g hg=>by
   split at hg
   ·cases hg
   ·rename_i hv;unfold rz at hv;omega
  split at this
  ·cases this
  ·split at this
   ·exact lv _ this
   ·split at this
    ·cases this
    ·exact lv _ this
def MQ (a:aH):al:=⟨a.Device,a.aZ⟩
theorem BS (x:ar) (m:Int):MQ (pv x m)=x.bz:=rfl
structure QP (l:List Signal) (N:List al):Prop where
 Lg:N.Pairwise (fun a b=>xJ a b < 0)
 mem:∀ n,n∈N↔n∈l.map mj
theorem Iw {l:List Signal} (hv:VS l) {N:List al} (hN:QP l N) {m:Int} (hm:0≤m):pV l m=some (Le N (FL (pre l m)) m):=by
 obtain ⟨N',b1,b2,b3⟩:=FE hv hm
 rw [b1,KD hv hm hN.Lg hN.mem b2 b3]
def Ek (l:List bC) (r:aS):Option bC:=l.find? fun g=>decide (g.aZ=r)
def NA (l:List bC):List (aS×bC):=l.foldl (fun m x=>jh m x.aZ x) []
theorem KL:∀ (l:List bC),l.Pairwise (fun x y=>Lib.compareBytes x.aZ y.aZ < 0)→∀ q,bQ (NA l) q=Ek l q:=by
 refine uU ?_ ?_
 ·intro _ _;rfl
 ·intro l x ih h q
  have hp:=List.pairwise_append.1 h
  have ih:=ih hp.1
  have hs:NA (l++[x])=jh (NA l) x.aZ x:=by unfold NA;rw [List.foldl_append];rfl
  rw [hs,pY,ih q]
  unfold Ek
  rw [List.find?_append]
  by_cases e:x.aZ=q
  ·rw [if_pos e,List.find?_eq_none.2 (fun y hy=>by
    have:=hp.2.2 y hy x (by simp)
    intro z
    rw [of_decide_eq_true z,e,uk] at this
    omega)]
   simp [e]
  ·rw [if_neg e]
   simp [e]
theorem BT (b:bd) (hl:(b.aW.length:Int)≤1000) (r:aS):sg b r=some ((Ek b.aW r).getD ⟨r,1,false⟩):=by
 unfold sg yi
 have h:=ui b.aW (fun x:Int=>jj b r x) (fun g=>if g.aZ=r then some g else none) ⟨r,1,false⟩ (by omega) (fun i x i0 i1 hx=>by
  show jj b r i=_
  rw [jj,if_pos i1,hx]
  simp only [Option.bind_some]
  rw [bg (by omega) (by omega)]
  by_cases e:x.aZ=r
  ·rw [if_pos e,if_pos e];rfl
  ·rw [if_neg e,if_neg e]) (by
  show jj b r b.aW.length=_
  rw [jj,if_neg (by omega)];rfl)
 rw [h]
 congr 1
 unfold Ek
 generalize b.aW=L
 clear h hl
 induction L with
 | nil=>rfl
 | cons x L ih=>
   unfold xf
   rw [List.find?_cons]
   by_cases e:x.aZ=r
   ·simp [e]
   ·simp only [e,if_false,decide_false];exact ih
def ld (gs:List bC) (a:aH):Bool:=decide (a.State≠3)&&((Ek gs a.aZ).map bC.o1).getD false
def MP (gs:List bC) (a:aH):Int:=((Ek gs a.aZ).map bC.Level).getD 1
theorem FN {gs:List bC} {sc:bE} (h:∀ q,bQ sc.mz q=Ek gs q) (a:aH):ez sc a=some (ld gs a):=by
 unfold ez eU qq ld
 rw [h]
 by_cases e:a.State=3
 ·rw [if_neg (by simp [e])];simp [e]
 ·rw [if_pos e]
  simp only [Option.bind_some]
  cases Ek gs a.aZ<;>simp [e]
def Pp (m:Int) (w:ao):Bool:=decide (w.dR≤m)&&decide (m < w.To)
noncomputable def Pq (f:bW) (m:Int) (R:List Int):Bool:=((mY f R).getD []).any (Pp m)
theorem NB (L:List ao) (m:Int) (fn:ao→Option Bool) (hf:∀ w,fn w=some (Pp m w)) (hl:(L.length:Int)≤10000):cy L fn=some (L.any (Pp m)):=
 uj L fn (Pp m) (fun x _=>hf x) (by omega)
noncomputable def MR (f:bW) (F:al→ar) (m:Int) (n:al):Bool:=
 !((!Ej (F n) m)||(decide ((F n).aK=0)||(decide (0 < uV (F n) m)||Pq f m (F n).aQ)))
noncomputable def NC (f:bW) (N:List al) (F:al→ar) (m:Int):List aH:=(N.filter (MR f F m)).map fun n=>pv (F n) m
def Pr (gs:List bC) (L:List aH):List (aS×Bool):=L.foldl (fun c a=>if ld gs a=true then jh c a.Device true else c) []
theorem OU (gs:List bC) (d:aS):∀ L:List aH,(bQ (Pr gs L) d).getD false=L.any (fun a=>decide (a.Device=d)&&ld gs a):=by
 refine uU ?_ ?_
 ·rfl
 ·intro L a ih
  have hs:Pr gs (L++[a])=if ld gs a=true then jh (Pr gs L) a.Device true else Pr gs L:=by unfold Pr;rw [List.foldl_append];rfl
  rw [hs,List.any_append,← ih]
  cases hl:ld gs a with
  | false=>simp [hl]
  | true=>
    rw [if_pos rfl,pY]
    by_cases e:a.Device=d
    ·rw [if_pos e];simp [e,hl]
    ·rw [if_neg e];simp [e]
theorem zq (gs:List bC) (p:al→Bool) (v:al→aH):∀ (N:List al) (A:List aH) (C:List (aS×Bool)),N.foldl (fun (s:List aH×List (aS×Bool)) n=>if p n=true then (s.1++[v n],if ld gs (v n)=true then jh s.2 (v n).Device true else s.2) else s) (A,C)=(A++(N.filter p).map v,((N.filter p).map v).foldl (fun c a=>if ld gs a=true then jh c a.Device true else c) C)
 | [],A,C=>by simp
 | n :: N,A,C=>by
   rw [List.foldl_cons,List.filter_cons]
   cases hp:p n with
   | false=>simp only [Bool.false_eq_true,if_false];exact zq gs p v N A C
   | true=>
     simp only [if_true]
     rw [zq gs p v N,List.map_cons,List.foldl_cons]
     simp
theorem FO {b:bd} (hb:rC b) {p:List Signal} (hv:VS p) (n:al):∃ W,mY b.bW (FL p n).aQ=some W∧qC b.bW p n.aO n.bf=some W∧(W.length:Int)≤1000:=by
 have hfs:=wi _ hv
 have hl:=hv.len
 have Ag:=Gy n p
 have hlen:=(hfs.li n).l1
 obtain ⟨W,w1,w2,w3⟩:=GG b.bW hb.Uk (R:=(FL p n).aQ) (by omega) ((List.pairwise_map.2 hv.Hr).sublist Ag) (fun y hy=>by
  obtain ⟨s,hs,rfl⟩:=List.mem_map.1 (Ag.subset hy)
  have:=hv.Nv s hs;omega)
 refine ⟨W,w1,?_,w3⟩
 unfold qC
 rw [FG hv]
 simp only [Option.bind_some]
 exact w2
structure Ul (b:bd) (L:List aH) (sc:bE):Prop where
 gr:∀ q,bQ sc.mz q=Ek b.aW q
 ab:sc.pP=C8 b.Links
 lv:sc.o4=L
 cs:∀ d,(bQ sc.o5 d).getD false=L.any (fun a=>decide (a.Device=d)&&ld b.aW a)
theorem zY {b:bd} (hb:rC b) {l:List Signal} (hv:VS l) (m:Int):∃ N sc,QP l N∧k6 b l m=some sc∧Ul b (NC b.bW N (FL (pre l m)) m) sc:=by
 obtain ⟨H,N,ix,a1,a2,a3,a4⟩:=Nw hv m
 have hN:QP l N:=⟨a3,a4⟩
 have hl:=hv.len
 have Lv:=FD a3 a4
 have T3:=hb.len
 have My:=hb.OT
 have R1:=hv.sub (qn l m)
 refine ⟨N,⟨NA b.aW,C8 b.Links,NC b.bW N (FL (pre l m)) m,Pr b.aW (NC b.bW N (FL (pre l m)) m)⟩,hN,?_,⟨KL _ hb.QO,rfl,rfl,fun d=>OU _ d _⟩⟩
 unfold k6
 rw [xM _ (by omega)]
 simp only [Option.bind_some]
 unfold tj
 have g1:=iW (A:=bE) b.aW (fun (s:List (aS×bC)) (i:Int)=>(s,i)) (fun x:(List (aS×bC))×Int=>ek b l m (C8 b.Links) x.1 x.2) (fun c x=>jh c x.aZ x) (fun _ _=>True) (fun s=>kj b l m (C8 b.Links) s)
  (fun s i x h0 h1 hx _=>by
   refine ⟨?_,trivial⟩
   show ek b l m _ s i=_
   rw [ek,if_pos h1,hx]
   simp only [Option.bind_some]
   rw [bg (by omega) (by omega)])
  (fun s _=>by
   show ek b l m _ s b.aW.length=_
   rw [ek,if_neg (by omega)]) [] trivial
 refine g1.trans ?_
 show kj b l m (C8 b.Links) (NA b.aW)=_
 unfold kj
 rw [a1]
 simp only [Option.bind_some]
 unfold ti
 have hlen:H.ew.length=N.length:=by rw [a2.ord];simp
 have g2:=iW (A:=bE) N (fun (s:List aH×List (aS×Bool)) (i:Int)=>(s.1,s.2,i)) (fun x:(List aH)×(List (aS×Bool))×Int=>ej b m (C8 b.Links) (NA b.aW) H x.1 x.2.1 x.2.2)
  (fun s n=>if MR b.bW (FL (pre l m)) m n=true then (s.1++[pv (FL (pre l m) n) m],if ld b.aW (pv (FL (pre l m) n) m)=true then jh s.2 (pv (FL (pre l m) n) m).Device true else s.2) else s) (fun i s=>(s.1.length:Int)≤i) (fun s=>some ⟨NA b.aW,C8 b.Links,s.1,s.2⟩)
  (fun s i n h0 h1 hx HE=>by
   refine ⟨?_,by
    split
    ·simp only [List.length_append,List.length_singleton];omega
    ·omega⟩
   show ej b m _ _ H s.1 s.2 i=_
   rw [ej,if_pos (by rw [hlen];exact h1),a2.ord,sR,hx]
   simp only [Option.map_some,Option.bind_some]
   rw [(a2.one n (r5 hx)).2]
   simp only [Option.bind_some]
   obtain ⟨W,w1,_,w3⟩:=FO hb R1 n
   have Iy:Pq b.bW m (FL (pre l m) n).aQ=W.any (Pp m):=by unfold Pq;rw [w1];rfl
   rw [w1]
   simp only [Option.bind_some]
   rw [NB W m (fun y0=>some (mB y0 m)) (fun w=>rfl) (by omega)]
   simp only [Option.bind_some]
   rw [D4]
   have hk:(!(pv (FL (pre l m) n) m,Ej (FL (pre l m) n) m).2||(decide ((pv (FL (pre l m) n) m,Ej (FL (pre l m) n) m).1.State=0)||(decide (0 < (pv (FL (pre l m) n) m,Ej (FL (pre l m) n) m).1.gP)||W.any (Pp m))))=!MR b.bW (FL (pre l m)) m n:=by
    unfold MR
    rw [Bool.not_not,Iy];rfl
   rw [hk]
   unfold mC ki kh
   rw [bg (x:=i+1) (by omega) (by omega),D4]
   cases hkp:MR b.bW (FL (pre l m)) m n with
   | false=>rfl
   | true=>
     simp only [Bool.not_true,Bool.false_eq_true,if_false,if_true]
     rw [jI (by simp;omega)]
     simp only [Option.bind_some]
     rw [FN (gs:=b.aW) (KL _ hb.QO)]
     simp only [Option.bind_some]
     cases ld b.aW (pv (FL (pre l m) n) m)<;>rfl)
  (fun s HE=>by
   show ej b m _ _ H s.1 s.2 N.length=_
   rw [ej,if_neg (by rw [hlen];omega)]) ([],[]) (by simp)
 refine g2.trans ?_
 rw [zq b.aW (MR b.bW (FL (pre l m)) m) (fun n=>pv (FL (pre l m) n) m)]
 rfl
theorem Ix {l:List Signal} (h:(l.length:Int)≤1000):eV l=some l:=by
 unfold eV
 rw [jI (by simp;omega)];rfl
theorem MS {l:List Signal} (m:Int) (h:(l.length:Int)≤1000):cN l (fun y0=>some (lF y0 m))=some (pre l m):=by
 rw [show cN l (fun y0=>some (lF y0 m))=Mz ZS l (fun y0=>some (lF y0 m)) from rfl,Hj _ _ (fun s=>lF s m) l (by omega) (fun _ _=>rfl)]
 congr 1
 unfold pre
 refine List.filter_congr fun s _=>?_
 unfold lF
 rw [← decide_not,decide_eq_decide];omega
theorem Da {b:bd} (hb:rC b) {l:List Signal} (hv:VS l) {m:Int} (hm:0≤m) {N:List al} (hN:QP l N):qD b l m=some (NC b.bW N (FL (pre l m)) m):=by
 have hl:=hv.len
 have Lv:=FD hN.Lg hN.mem
 have R1:=hv.sub (qn l m)
 have KX:=(wi _ R1).nm
 have hal:=MK N (FL (pre l m)) m
 unfold qD
 rw [Ix (by omega)]
 simp only [Option.bind_some]
 rw [MS m (by omega),Iw hv hN hm]
 simp only [Option.bind_some]
 rw [show fA (Le N (FL (pre l m)) m) (fun y0=>oK y0 b (pre l m) m)=Mz (⟨[],[],0,0,0,0⟩:aH) (Le N (FL (pre l m)) m) (fun y0=>oK y0 b (pre l m) m) from rfl,
  Hj _ _ (fun a=>decide (a.State=0)||(decide (0 < a.gP)||Pq b.bW m (FL (pre l m) (MQ a)).aQ)) _ (by omega) (fun a ha=>by
   unfold oK ll
   by_cases h0:a.State=0
   ·rw [if_pos h0];simp [h0]
   rw [if_neg h0]
   by_cases h1:0 < a.gP
   ·rw [if_pos h1];simp [h1]
   rw [if_neg h1]
   obtain ⟨W,w1,w2,w3⟩:=FO hb R1 (MQ a)
   unfold wE
   rw [show a.Device=(MQ a).aO from rfl,show a.aZ=(MQ a).bf from rfl,w2]
   simp only [Option.bind_some]
   rw [NB W m (fun y0=>some (rW y0 m)) (fun w=>rfl) (by omega)]
   simp only [Option.bind_some]
   unfold Pq
   rw [w1]
   simp [h0,h1])]
 simp only [Option.bind_some]
 congr 1
 unfold Le NC
 rw [List.filter_map,List.filter_filter]
 congr 1
 refine List.filter_congr fun n _=>?_
 unfold MR
 simp only [Function.comp]
 rw [BS,KX]
 show (!(decide ((FL (pre l m) n).aK=0)||(decide (0 < uV (FL (pre l m) n) m)||Pq b.bW m (FL (pre l m) n).aQ))&&Ej (FL (pre l m) n) m)=_
 cases Ej (FL (pre l m) n) m<;>simp
theorem QQ (n:al):∀ p:List Signal,(FL p n).aK=0∨(FL p n).aK=1∨(FL p n).aK=2∨(FL p n).aK=3:=by
 refine uU (.inl rfl) ?_
 intro p s ih
 rw [uT]
 unfold zU xK
 split
 ·rename_i e
  rw [e] at ih
  have tt:∀ st:Int,(nj (FL p (mj s)) st s.At).aK=st:=fun _=>rfl
  unfold Cm
  split
  ·split
   ·exact ih
   ·exact .inr (.inl rfl)
  ·split
   ·split
    ·exact .inr (.inr (.inr rfl))
    ·split
     ·exact .inl rfl
     ·exact ih
   ·split
    ·split
     ·exact .inl rfl
     ·split
      ·exact .inr (.inr (.inl rfl))
      ·exact ih
    ·split
     ·split<;>exact ih
     ·split<;>exact ih
 ·exact ih
structure KM (L:List aH):Prop where
 len:(L.length:Int)≤15
 Lg:L.Pairwise (fun a b=>xJ (MQ a) (MQ b) < 0)
 st:∀ a∈L,a.State=1∨a.State=2∨a.State=3
 dev:∀ a∈L,a.Device≠[]
theorem MT {s:aS} (h:cE s=true):s≠[]:=by
 rintro rfl
 revert h
 decide
theorem KN {b:bd} {l:List Signal} (hv:VS l) (m:Int) {N:List al} (hN:QP l N):KM (NC b.bW N (FL (pre l m)) m):=by
 have hl:=hv.len
 have Lv:=FD hN.Lg hN.mem
 have KX:=(wi _ (hv.sub (qn l m))).nm
 unfold NC
 refine ⟨?_,?_,fun a ha=>?_,fun a ha=>?_⟩
 ·rw [List.length_map]
  have:=List.length_filter_le (MR b.bW (FL (pre l m)) m) N
  omega
 ·refine List.pairwise_map.2 ((hN.Lg.filter _).imp fun {x y} h=>?_)
  rw [BS,BS,KX,KX];exact h
 ·obtain ⟨n,hn,rfl⟩:=List.mem_map.1 ha
  have hk:=(List.mem_filter.1 hn).2
  rcases QQ n (pre l m) with e | e | e | e
  ·unfold MR at hk
   rw [e] at hk
   simp at hk
  ·exact .inl e
  ·exact .inr (.inl e)
  ·exact .inr (.inr e)
 ·obtain ⟨n,hn,rfl⟩:=List.mem_map.1 ha
  have:=(hN.mem n).1 (List.mem_filter.1 hn).1
  obtain ⟨s,hs,rfl⟩:=List.mem_map.1 this
  show (FL (pre l m) (mj s)).bz.aO≠[]
  rw [KX]
  exact MT (hv.key s hs).1
theorem KO {b:bd} (hb:rC b) (D:aS):∃ p,IK (lX b.Links) D p∧(D :: p).Nodup∧p.length≤b.Links.length:=by
 obtain ⟨p,p1,p2,p3⟩:=MM hb.acy (dv:=b.Links.map cP.Device) (fun X h=>Hv h) D
 exact ⟨p,p1,p2,by rw [List.length_map] at p3;exact p3⟩
noncomputable def Cp (b:bd) (hb:rC b) (D:aS):List aS:=Classical.choose (KO hb D)
theorem D9 {b:bd} (hb:rC b) (D:aS):IK (lX b.Links) D (Cp b hb D)∧(D :: Cp b hb D).Nodup∧(Cp b hb D).length≤b.Links.length:=Classical.choose_spec (KO hb D)
def cB (gs:List bC) (L:List aH) (d:aS):Bool:=L.any fun a=>decide (a.Device=d)&&ld gs a
noncomputable def AG (b:bd) (hb:rC b) (L:List aH) (D:aS):aS:=((Cp b hb D).find? (cB b.aW L)).getD []
theorem FP {b:bd} (hb:rC b) {L:List aH} {sc:bE} (h:Ul b L sc) (D:aS):eA sc D=some (AG b hb L D):=by
 obtain ⟨p1,p2,p3⟩:=D9 hb D
 have Iv:bQ (C8 b.Links)=lX b.Links:=funext (D8 b.Links hb.Lg).1
 have key:∀ (r:List aS) (q:aS),IK (lX b.Links) q r→iter (fun x:aS×Bool=>bL sc x.1 x.2) ((lX b.Links q).getD [],(lX b.Links q).isSome)=some ((r.find? (cB b.aW L)).getD []):=by
  intro r
  induction r with
  | nil=>
    intro q hq
    have hq:lX b.Links q=none:=hq
    rw [iter_eq,hq]
    show (bL sc [] false).bind _=_
    rw [bL,if_neg (by simp),bu];rfl
  | cons x r ih=>
    intro q hq
    rw [iter_eq,hq.1]
    show (bL sc x true).bind _=_
    rw [bL,if_pos rfl]
    unfold qq vC
    rw [h.cs x,h.ab,Iv]
    simp only [Option.bind_some]
    rw [show (L.any fun a=>decide (a.Device=x)&&ld b.aW a)=cB b.aW L x from rfl,List.find?_cons]
    cases hc:cB b.aW L x with
    | true=>rw [if_pos rfl,bu];rfl
    | false=>
      rw [if_neg (by simp)]
      simp only [Option.bind_some,cJ]
      exact ih x hq.2
 unfold eA vC
 rw [h.ab,Iv]
 simp only [Option.bind_some]
 exact key _ D p1
theorem Hw {a:aH} (h:a.State=1∨a.State=2∨a.State=3):xA a=decide (a.State≠3):=by
 unfold xA wF
 rcases h with e | e | e<;>simp [e]
theorem xN {b:bd} (hb:rC b) {l:List Signal} {m:Int} {L:List aH} (hL:qD b l m=some L) (hk:KM L) (D:aS):pW b l D m=some (AG b hb L D):=by
 obtain ⟨p1,p2,p3⟩:=D9 hb D
 have T3:=hb.len
 have My:=hb.OT
 have Ot:=hk.len
 unfold pW
 rw [hL,zX (by omega) D p1 p2 p3]
 simp only [Option.bind_some]
 unfold yj
 have h:=ui (Cp b hb D) (fun x:Int=>jk b L (Cp b hb D) x) (fun d=>if cB b.aW L d=true then some d else none) [] (by omega) (fun i x i0 i1 hx=>by
  show jk b L (Cp b hb D) i=_
  rw [jk,if_pos i1,hx]
  simp only [Option.bind_some]
  rw [show eD L (fun y0=>nv y0 x b)=some (cB b.aW L x) from uj L (fun y0=>nv y0 x b) (fun a=>decide (a.Device=x)&&ld b.aW a) (fun a ha=>by
   unfold nv jO ld
   rw [Hw (hk.st a ha)]
   by_cases e:a.Device=x
   ·rw [if_pos e]
    by_cases e3:a.State=3
    ·simp [e3]
    ·rw [if_pos (by simpa using e3),BT b (by omega)]
     simp only [Option.bind_some]
     cases Ek b.aW a.aZ<;>simp [e,e3]
   ·rw [if_neg e];simp [e]) (by omega)]
  simp only [Option.bind_some]
  rw [bg (by omega) (by omega)]
  cases cB b.aW L x<;>rfl) (by
  show jk b L (Cp b hb D) (Cp b hb D).length=_
  rw [jk,if_neg (by omega)];rfl)
 rw [h]
 congr 1
 unfold AG
 generalize Cp b hb D=P
 induction P with
 | nil=>rfl
 | cons x P ih=>
   unfold xf
   rw [List.find?_cons]
   cases hc:cB b.aW L x
   ·simpa using ih
   ·rfl
end Go.Beacon
