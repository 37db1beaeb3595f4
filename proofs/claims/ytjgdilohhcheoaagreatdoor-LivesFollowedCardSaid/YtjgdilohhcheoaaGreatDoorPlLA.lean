/- Plain facts on what the functions compute. No program in sight. -/
import Derived.Test.YtjgdilohhcheoaaGreatDoorLivP
import Derived.Test.YtjgdilohhcheoaaGreatDoorPlBA
import Derived.Lib.MapLaws
import Derived.Lib.ValidLaws
import Derived.Lib.TrimUEq
set_option linter.unusedVariables false
set_option linter.unusedSimpArgs false
namespace Go.Beacon
open Go Go.Eng
abbrev sg:=ak
def tQ (s:sg) (k:Int):Prop:=0≤s.at_∧s.at_+k≤4611686018427387904
theorem tQ.less {s:sg} {k k':Int} (h:tQ s k) (hk:k'≤k):tQ s k':=⟨h.1,by have:=h.2;omega⟩
def qD {α:Type} (m:Option (α×sg)) (k:Int) (P:α→Prop):Prop:=∃ v s',m=some (v,s')∧P v∧tQ s' k
theorem qD.bind {α β:Type} {m:Option (α×sg)} {k k':Int} {P:α→Prop} {Q:β→Prop} {f:α×sg→Option (β×sg)} (h:qD m k P) (hf:∀ v s',P v→tQ s' k→qD (f (v,s')) k' Q):qD (m.bind f) k' Q:=by
 obtain ⟨v,s',rfl,h1,h2⟩:=h
 exact hf v s' h1 h2
theorem qD.ret {α:Type} {v:α} {s:sg} {k:Int} {P:α→Prop} (h1:P v) (h2:tQ s k):qD (some (v,s)) k P:=⟨v,s,rfl,h1,h2⟩
theorem AW (x:Int) {n:Int} (h1:1≤n) (h2:n≤4611686018427387904):∃ v,Below x n=some v∧0≤v∧v < n:=by
 unfold Below uA
 rw [if_neg (by omega),Pd (by omega)]
 have a1:=Int.lt_tmod_of_pos x (show 0 < n by omega)
 have a2:=Int.tmod_lt_of_pos x (show 0 < n by omega)
 simp only [Option.bind_some]
 split
 ·exact ⟨_,rfl,by rw [cG]<;>omega,by rw [cG]<;>omega⟩
 ·exact ⟨_,rfl,by omega,by omega⟩
theorem xI {s:sg} {n k:Int} (hs:tQ s (k+1)) (h1:1≤n) (h2:n≤4611686018427387904) (hk:0≤k):qD (dh s n) k (fun v=>0≤v∧v < n):=by
 obtain ⟨a1,a2⟩:=hs
 have e1:aZ (s.at_+1)=s.at_+1:=by rw [cG]<;>omega
 have e2:aZ (s.at_+1 - 1)=s.at_:=by rw [cG]<;>omega
 unfold dh
 split
 ·obtain ⟨v,hv,h3,h4⟩:=AW (aZ (aZ (s.at_+1) * 7919)) h1 h2
  rw [hv]
  exact qD.ret ⟨h3,h4⟩ ⟨by show 0≤aZ (s.at_+1);omega,by show aZ (s.at_+1)+k≤_;omega⟩
 ·rename_i hl
  have si:(0:Int) < s.L.length:=by omega
  rw [e1,e2,MY si a1,Pe (by omega)]
  simp only [Option.bind_some]
  obtain ⟨x,hx,_,_⟩:=lC s.L (i:=s.at_ % s.L.length) (Int.emod_nonneg _ (by omega)) (Int.emod_lt_of_pos _ si)
  rw [hx]
  simp only [Option.bind_some]
  obtain ⟨u,hu,_,_⟩:=AW x (n:=1073741824) (by omega) (by omega)
  rw [hu]
  simp only [Option.bind_some]
  obtain ⟨v,hv,h3,h4⟩:=AW (aZ (u+aZ (aZ (s.at_.tdiv s.L.length) * aZ (7919+s.at_ % s.L.length)))) h1 h2
  rw [hv]
  exact qD.ret ⟨h3,h4⟩ ⟨by simp only;omega,by simp only;omega⟩
theorem Hi {s:sg} {l:List Int} {k:Int} (hs:tQ s (k+1)) (h1:l≠[]) (h2:l.length≤1000) (hk:0≤k):qD (cO s l) k (fun v=>v∈l):=by
 unfold cO
 have hl:0 < l.length:=List.length_pos_iff.2 h1
 refine qD.bind (xI hs (by omega) (by omega) hk) (fun v s' hv xH=>?_)
 obtain ⟨x,hx,hm,_⟩:=lC l hv.1 hv.2
 simp only [hx,Option.bind_some]
 exact qD.ret hm xH
theorem E0 {s:sg} {a b k:Int} (hs:tQ s (k+1)) (zv:a≤b) (ha:-1152921504606846976≤a) (hb:b≤1152921504606846976) (hk:0≤k):qD (kB s a b) k (fun v=>a≤v∧v≤b):=by
 unfold kB
 have e1:aZ (b - a)=b - a:=by rw [cG]<;>omega
 have e2:aZ (b - a+1)=b - a+1:=by rw [cG]<;>omega
 rw [if_neg (by omega),e1,e2]
 refine qD.bind (xI hs (by omega) (by omega) hk) (fun v s' hv xH=>?_)
 refine qD.ret ?_ xH
 simp only
 rw [cG]<;>omega
theorem Hj {s:sg} {n k:Int} (hs:tQ s (k+1)) (h1:1≤n) (h2:n≤4611686018427387904) (hk:0≤k):qD (jn s n) k (fun _=>True):=by
 unfold jn
 exact qD.bind (xI hs h1 h2 hk) (fun v s' hv xH=>qD.ret trivial xH)
theorem M5 {s:sg} {l:List ax} {k:Int} (hs:tQ s (k+1)) (h1:l≠[]) (h2:l.length≤1000) (hk:0≤k):qD (bH s l) k (fun v=>v∈l):=by
 unfold bH
 have hl:0 < l.length:=List.length_pos_iff.2 h1
 refine qD.bind (xI hs (by omega) (by omega) hk) (fun v s' hv xH=>?_)
 obtain ⟨x,hx,hm,_⟩:=lC l hv.1 hv.2
 simp only [hx,Option.bind_some]
 exact qD.ret hm xH
theorem Ph {s:sg} {a b k:Int} (hs:tQ s (k+2)) (zv:a≤b) (ha:-1099511627776≤a) (hb:b≤1099511627776) (hk:0≤k):qD (fo s a b) k (fun v=>-1099511627777≤v∧v≤1099511627777):=by
 unfold fo
 refine qD.bind (Hj (k:=k+1) (hs.less (by omega)) (by omega) (by omega) (by omega)) (fun v s' hv xH=>?_)
 simp only
 split
 ·refine qD.bind (Hi xH (by simp) (by simp) hk) (fun v s' hv xH=>qD.ret ?_ xH)
  have e1:aZ (a - 1)=a - 1:=by rw [cG]<;>omega
  have e2:aZ (b+1)=b+1:=by rw [cG]<;>omega
  rw [e1,e2] at hv
  simp only [List.mem_cons,List.not_mem_nil,or_false] at hv
  simp only;omega
 ·refine qD.bind (E0 xH zv (by omega) (by omega) hk) (fun v s' hv xH=>qD.ret ?_ xH)
  simp only;omega
theorem uP {s:sg} {n K:Int} (hs:tQ s K) (hK:1≤K) (h1:1≤n) (h2:n≤4611686018427387904):qD (dh s n) (K - 1) (fun v=>0≤v∧v < n):=
 xI (hs.less (by omega)) h1 h2 (by omega)
theorem Gd {s:sg} {n K:Int} (hs:tQ s K) (hK:1≤K) (h1:1≤n) (h2:n≤4611686018427387904):qD (jn s n) (K - 1) (fun _=>True):=
 Hj (hs.less (by omega)) h1 h2 (by omega)
theorem pU {s:sg} {l:List Int} {K:Int} (hs:tQ s K) (hK:1≤K) (h1:l≠[]) (h2:l.length≤1000):qD (cO s l) (K - 1) (fun v=>v∈l):=
 Hi (hs.less (by omega)) h1 h2 (by omega)
theorem M6 {s:sg} {a b K:Int} (hs:tQ s K) (hK:1≤K) (zv:a≤b) (ha:-1152921504606846976≤a) (hb:b≤1152921504606846976):qD (kB s a b) (K - 1) (fun v=>a≤v∧v≤b):=
 E0 (hs.less (by omega)) zv ha hb (by omega)
theorem ja {s:sg} {l:List ax} {K:Int} (hs:tQ s K) (hK:1≤K) (h1:l≠[]) (h2:l.length≤1000):qD (bH s l) (K - 1) (fun v=>v∈l):=
 M5 (hs.less (by omega)) h1 h2 (by omega)
theorem xJ {s:sg} {a b K:Int} (hs:tQ s K) (hK:2≤K) (zv:a≤b) (ha:-1099511627776≤a) (hb:b≤1099511627776):qD (fo s a b) (K - 2) (fun v=>-1099511627777≤v∧v≤1099511627777):=
 Ph (hs.less (by omega)) zv ha hb (by omega)
theorem ri (n lo hi:Int):eM n lo hi=(decide (n < lo)||decide (hi < n)):=rfl
theorem pV (n lo hi:Int):sE n lo hi=(decide (lo≤n)&&decide (n≤hi)):=rfl
def M7 (n:Nat):Bool:=(decide (97≤n)&&decide (n≤122))||(decide (48≤n)&&decide (n≤57))||decide (n=45)||decide (n=95)
def me:ax→Bool
 | []=>false
 | c :: r=>decide ((c :: r).length≤40)&&(decide (97≤c.toNat)&&decide (c.toNat≤122))&&(c :: r).all (fun c=>M7 c.toNat)
theorem vn (c:UInt8) (r:ax):me (c :: r)=(decide ((c :: r).length≤40)&&(decide (97≤c.toNat)&&decide (c.toNat≤122))&&(c :: r).all (fun c=>M7 c.toNat)):=rfl
theorem KE (s:ax) (hl:s.length≤40):uB s 0=some (s.all (fun c=>M7 c.toNat)):=by
 unfold uB
 rw [vl s (fun x:Int=>lP s x) (fun c=>if M7 c.toNat=true then none else some false) true (by omega),AS]
 ·intro i c h0 h1 hc
  have hB:(if (97:Int)≤(c.toNat:Int) then if (c.toNat:Int)≤(122:Int) then !true else if (48:Int)≤(c.toNat:Int) then if (c.toNat:Int)≤(57:Int) then !true else if (c.toNat:Int)=(45:Int) then !true else decide (¬ ((c.toNat:Int)=(95:Int))) else if (c.toNat:Int)=(45:Int) then !true else decide (¬ ((c.toNat:Int)=(95:Int))) else if (48:Int)≤(c.toNat:Int) then if (c.toNat:Int)≤(57:Int) then !true else if (c.toNat:Int)=(45:Int) then !true else decide (¬ ((c.toNat:Int)=(95:Int))) else if (c.toNat:Int)=(45:Int) then !true else decide (¬ ((c.toNat:Int)=(95:Int))))=!M7 c.toNat:=by
   unfold M7
   rw [Bool.eq_iff_iff]
   repeat' split
   all_goals simp
   all_goals omega
  rw [lP,if_pos h1,hc]
  simp only [Option.bind_some]
  rw [hB]
  unfold rO
  rw [cG (by omega) (by omega)]
  cases M7 c.toNat<;>rfl
 ·rw [lP,if_neg (by omega)];rfl
theorem uQ (s:ax):kY s=some (me s):=by
 unfold kY lQ
 cases s with
 | nil=>simp [me]
 | cons c r=>
   rw [if_neg (by simp)]
   have hc:idx (c :: r) 0=some c:=rfl
   rw [hc]
   simp only [Option.bind_some]
   by_cases hl:(c :: r).length≤40
   ·rw [if_neg (by omega),KE _ hl,vn]
    by_cases h1:(c.toNat:Int) < 97
    ·rw [if_pos h1]
     have:decide (97≤c.toNat)=false:=by simp;omega
     rw [this];simp
    ·rw [if_neg h1]
     have e1:decide (97≤c.toNat)=true:=by simp;omega
     by_cases h2:(122:Int) < c.toNat
     ·rw [if_pos (by simpa using h2)]
      have:decide (c.toNat≤122)=false:=by simp;omega
      rw [this];simp
     ·rw [if_neg (by simpa using h2)]
      have:decide (c.toNat≤122)=true:=by simp;omega
      rw [e1,this,decide_eq_true hl];simp
   ·rw [if_pos (by omega),vn,decide_eq_false hl];simp
theorem Io:∀ n:Fin 256,decide (UInt8.ofNat n.val∈([97,98,99,100,101,102,103,104,105,106,107,108,109,110,111,112,113,114,115,116,117,118,119,120,121,122,48,49,50,51,52,53,54,55,56,57,45,95]:List UInt8))=M7 n.val:=by decide+kernel
theorem M8:∀ n:Fin 256,decide (UInt8.ofNat n.val∈([97,98,99,100,101,102,103,104,105,106,107,108,109,110,111,112,113,114,115,116,117,118,119,120,121,122]:List UInt8))=(decide (97≤n.val)&&decide (n.val≤122)):=by decide+kernel
theorem KF {p:UInt8→Bool} {q:Nat→Bool} (h:∀ n:Fin 256,p (UInt8.ofNat n.val)=q n.val) (c:UInt8):p c=q c.toNat:=by
 have:=h ⟨c.toNat,c.toNat_lt⟩
 simpa using this
theorem yT (a b:Int):cmp_Compare_int a b=Di a b:=by
 unfold cmp_Compare_int cmp_isNaN_int Di;simp
theorem Ip (n:Int):eV n=(decide (0≤n)&&decide (n≤345686399999)):=by
 unfold eV
 rw [ri,Bool.eq_iff_iff]
 simp
theorem KG {S A:Type} (f:S→Option (S⊕A)) (m:S→Nat) (Inv:S→Prop) (R:A→Prop)
 (h:∀ s,Inv s→(∃ s',f s=some (.inl s')∧Inv s'∧m s' < m s)∨(∃ a,f s=some (.inr a)∧R a)):∀ s,Inv s→∃ a,iter f s=some a∧R a:=by
 have key:∀ (n:Nat) s,m s≤n→Inv s→∃ a,iter f s=some a∧R a:=by
  intro n
  induction n with
  | zero=>
    intro s hm hi
    rcases h s hi with ⟨s',_,_,h3⟩ | ⟨a,h1,h2⟩
    ·omega
    ·exact ⟨a,by rw [iter_eq,h1];rfl,h2⟩
  | succ n ih=>
    intro s hm hi
    rcases h s hi with ⟨s',h1,h2,h3⟩ | ⟨a,h1,h2⟩
    ·obtain ⟨a,h4,h5⟩:=ih s' (by omega) h2
     exact ⟨a,by rw [iter_eq,h1];simpa using h4,h5⟩
    ·exact ⟨a,by rw [iter_eq,h1];rfl,h2⟩
 exact fun s hi=>key (m s) s (Nat.le_refl _) hi
theorem u64_in {x:Int} (h0:0≤x) (h1:x≤9223372036854775807):IntKind.u64.wrap x=x:=by
 unfold IntKind.wrap
 simp [IntKind.bits,IntKind.signed]
 omega
theorem Sm (x y:Int):Dh [x,y]=if x≠0 then x else y:=by
 by_cases h1:x=0<;>by_cases h2:y=0<;>simp [Dh,h1,h2]
def Ok {α:Type} (m:Option α) (Q:α→Prop):Prop:=∃ r,m=some r∧Q r
theorem Ok.ret {α:Type} {v:α} {Q:α→Prop} (h:Q v):Ok (some v) Q:=⟨v,rfl,h⟩
theorem Ok.mono {α:Type} {m:Option α} {P Q:α→Prop} (h:Ok m P) (hp:∀ v,P v→Q v):Ok m Q:=by
 obtain ⟨r,h1,h2⟩:=h;exact ⟨r,h1,hp r h2⟩
theorem Ok.inr {α β:Type} {m:Option β} {Q:α⊕β→Prop} (h:Ok m (fun r=>Q (.inr r))):Ok (Option.map .inr m) Q:=by
 obtain ⟨r,rfl,h2⟩:=h;exact ⟨_,rfl,h2⟩
theorem Ok.gen {α β:Type} {m:Option (α×sg)} {k:Int} {P:α→Prop} {f:α×sg→Option β} {Q:β→Prop} (h:qD m k P) (hf:∀ v s',P v→tQ s' k→Ok (f (v,s')) Q):Ok (m.bind f) Q:=by
 obtain ⟨v,s',rfl,h1,h2⟩:=h;exact hf v s' h1 h2
theorem qD.of {α:Type} {m:Option (α×sg)} {k:Int} {P:α→Prop} (h:Ok m (fun r=>P r.1∧tQ r.2 k)):qD m k P:=by
 obtain ⟨⟨v,s⟩,h1,h2,h3⟩:=h;exact ⟨v,s,h1,h2,h3⟩
theorem Ok.idx {α β:Type} {xs:List α} {i:Int} {f:α→Option β} {Q:β→Prop} (h0:0≤i) (h1:i < xs.length) (hf:∀ x,idx xs i=some x→x∈xs→Ok (f x) Q):Ok ((idx xs i).bind f) Q:=by
 obtain ⟨x,hx,hm,_⟩:=lC xs h0 h1
 rw [hx];exact hf x hx hm
theorem Ok.app {α β:Type} {xs ys:List α} {f:List α→Option β} {Q:β→Prop} (h:xs.length+ys.length≤1000000000) (hf:Ok (f (xs++ys)) Q):Ok ((app xs ys).bind f) Q:=by
 rw [rb h];exact hf
abbrev Stp {S A:Type} (m:S→Nat) (Inv:S→Prop) (R:A→Prop) (s:S):S⊕A→Prop
 | .inl s'=>Inv s'∧m s' < m s
 | .inr a=>R a
theorem Ok.iter {S A:Type} {f:S→Option (S⊕A)} {R:A→Prop} (m:S→Nat) (Inv:S→Prop)
 (h:∀ s,Inv s→Ok (f s) (Stp m Inv R s)) (s:S) (hs:Inv s):Ok (iter f s) R:=by
 refine KG f m Inv R (fun s hi=>?_) s hs
 obtain ⟨r,h1,h2⟩:=h s hi
 cases r with
 | inl s'=>exact .inl ⟨s',h1,h2.1,h2.2⟩
 | inr a=>exact .inr ⟨a,h1,h2⟩
theorem Iq {S A:Type} {f g:S→Option (S⊕A)} (h:∀ s,f s=g s) (s:S):iter f s=iter g s:=by rw [funext h]
theorem take_succ {α:Type} {xs:List α} {i:Int} {x:α} (h0:0≤i) (h:idx xs i=some x):xs.take (i+1).toNat=xs.take i.toNat++[x]:=by
 obtain ⟨_,h1,h2⟩:=ep h
 rw [show (i+1).toNat=i.toNat+1 by omega,List.take_add_one,h2];rfl
theorem Ok.Pj {σ A X:Type} {f:X→Option (X⊕A)} {R:A→Prop} (N:Nat) (mk:σ→Int→X) (Inv:Int→σ→Prop)
 (h:∀ s (i:Int),0≤i→i≤N→Inv i s→Ok (f (mk s i)) (fun r=>(∃ s',r=.inl (mk s' (i+1))∧i < N∧Inv (i+1) s')∨∃ a,r=.inr a∧R a)) (s:σ) (h0:Inv 0 s):Ok (Eng.iter f (mk s 0)) R:=by
 have key:∀ (k:Nat) (s:σ) (i:Int),0≤i→i≤N→i+k=N+1→Inv i s→Ok (Eng.iter f (mk s i)) R:=by
  intro k
  induction k with
  | zero=>
    intro s i hi hN hk hv
    omega
  | succ k ih=>
    intro s i hi hN hk hv
    obtain ⟨r,h1,h2⟩:=h s i hi hN hv
    rw [iter_eq,h1]
    rcases h2 with ⟨s',rfl,h3,h4⟩ | ⟨a,rfl,h3⟩
    ·simp only [Option.bind_some,jf]
     exact ih s' (i+1) (by omega) (by omega) (by omega) h4
    ·exact ⟨a,rfl,h3⟩
 exact key (N+1) s 0 (by omega) (by omega) (by omega) h0
def jb (c:UInt8):ax→List ax
 | []=>[[]]
 | b :: r=>if b=c then [] :: jb c r else match jb c r with
   | []=>[[b]]
   | h :: t=>(b :: h) :: t
theorem Ir (c:UInt8):∀ s,jb c s≠[]
 | []=>by simp [jb]
 | b :: r=>by
   unfold jb
   split
   ·simp
   ·split<;>simp
theorem vQ (c:UInt8):∀ s,(jb c s).length≤s.length+1
 | []=>by simp [jb]
 | b :: r=>by
   have ih:=vQ c r
   unfold jb
   split
   ·simp;omega
   ·split
    ·simp
    ·rename_i h t e;rw [e] at ih;simp at ih ⊢;omega
theorem Hk (c:UInt8):∀ s,Lib.split s [c]=jb c s
 | []=>rfl
 | b :: r=>by
   have ih:=Hk c r
   unfold Lib.split at ih ⊢
   unfold jb
   by_cases hb:b=c
   ·subst hb
    have Lc:Lib.index (b :: r) [b]=0:=by rw [Lib.index];simp [List.isPrefixOf]
    rw [if_pos rfl,Lib.count_cons_eq,Nat.add_comm,Lib.splitK,Lc,← ih]
    simp
   ·rw [if_neg hb,Lib.count_cons_ne b c r hb,← ih]
    have hp:([c]:List UInt8).isPrefixOf (b :: r)=false:=by simp [List.isPrefixOf,Ne.symm hb]
    have Lc:Lib.index (b :: r) [c]=if Lib.index r [c]==-1 then -1 else Lib.index r [c]+1:=by rw [Lib.index,hp];simp
    by_cases hm:Lib.index r [c]=-1
    ·rw [Lib.count_miss hm];rfl
    ·have Of:=Lib.index_ge r [c]
     obtain ⟨j,hj⟩:∃ j:Nat,Lib.index r [c]=j:=⟨(Lib.index r [c]).toNat,by omega⟩
     have Pk:Lib.index (b :: r) [c]=((j+1:Nat):Int):=by rw [Lc,if_neg (fun e=>hm (beq_iff_eq.1 e)),hj];omega
     rw [Lib.count_hit (by simp) hj,Nat.add_comm]
     have n1:¬ ((((j+1:Nat):Int)==-1)=true):=fun h=>by have:=beq_iff_eq.1 h;omega
     have n2:¬ ((((j:Nat):Int)==-1)=true):=fun h=>by have:=beq_iff_eq.1 h;omega
     simp only [Lib.splitK,Pk,hj,if_neg n1,if_neg n2]
     simp [List.take_succ_cons]
theorem Is {s:ax} {c:UInt8} (h:s.length≤1000000000):As s [c]=some (jb c s):=by
 unfold As
 rw [if_pos ⟨by omega,by simp⟩]
 congr 1
 have h1:=Lib.splitB_data ⟨#[c]⟩ 0 (Lib.countB ⟨s.toArray⟩ ⟨#[c]⟩) ⟨s.toArray⟩
 rw [← Hk]
 exact h1
def rC (c:UInt8):ax→ax×ax×Bool
 | []=>([],[],false)
 | b :: r=>if b=c then ([],r,true) else (b :: (rC c r).1,(rC c r).2.1,(rC c r).2.2)
theorem yp (c:UInt8):∀ s,(rC c s).2.2=false→(rC c s).1=s∧(rC c s).2.1=[]
 | []=>fun _=>⟨rfl,rfl⟩
 | b :: r=>by
   have ih:=yp c r
   unfold rC
   split
   ·intro h;cases h
   ·intro h;have:=ih h;simp [this]
theorem N1 (c:UInt8):∀ s,Lib.cut s [c]=rC c s
 | []=>rfl
 | b :: r=>by
   have ih:=N1 c r
   unfold Lib.cut at ih ⊢
   unfold rC
   by_cases hb:b=c
   ·subst hb
    have Lc:Lib.index (b :: r) [b]=0:=by rw [Lib.index];simp [List.isPrefixOf]
    rw [if_pos rfl,Lc];simp
   ·rw [if_neg hb,← ih]
    have hp:([c]:List UInt8).isPrefixOf (b :: r)=false:=by simp [List.isPrefixOf,Ne.symm hb]
    have Lc:Lib.index (b :: r) [c]=if Lib.index r [c]==-1 then -1 else Lib.index r [c]+1:=by rw [Lib.index,hp];simp
    by_cases hm:Lib.index r [c]=-1
    ·rw [Lc,hm];simp
    ·have Of:=Lib.index_ge r [c]
     have hn:¬ ((Lib.index r [c]==-1)=true):=fun e=>hm (beq_iff_eq.1 e)
     obtain ⟨j,hj⟩:∃ j:Nat,Lib.index r [c]=j:=⟨(Lib.index r [c]).toNat,by omega⟩
     have Pk:Lib.index (b :: r) [c]=((j+1:Nat):Int):=by rw [Lc,if_neg hn,hj];omega
     rw [Pk,hj,if_pos (by omega),if_pos (by omega)]
     simp
theorem M9 {s:ax} {c:UInt8} (h:s.length≤1000000000):Ke s [c]=some (rC c s):=by
 unfold Ke
 rw [if_pos (by omega),N1]
theorem Ct (c:UInt8):∀ s,jb c s=if (rC c s).2.2=true then (rC c s).1 :: jb c (rC c s).2.1 else [s]
 | []=>rfl
 | b :: r=>by
   have ih:=Ct c r
   have e1:jb c (b :: r)=(if b=c then [] :: jb c r else match jb c r with
    | []=>[[b]]
    | h :: t=>(b :: h) :: t):=rfl
   rw [e1]
   unfold rC
   by_cases hb:b=c
   ·rw [if_pos hb,if_pos hb];rfl
   ·rw [if_neg hb,if_neg hb,ih]
    by_cases hc:(rC c r).2.2=true
    ·simp [hc]
    ·simp [hc]
theorem E1 (c:UInt8):∀ s,(rC c s).1.length≤s.length∧(rC c s).2.1.length≤s.length
 | []=>⟨Nat.le_refl _,Nat.le_refl _⟩
 | b :: r=>by
   have ih:=E1 c r
   unfold rC
   split
   ·simp
   ·simp;omega
def Iu (k:Nat) (s:ax):Bool:=decide ((jb 46 s).length≤k)&&(jb 46 s).all me
theorem yU (Iv:Nat) (hm:Iv≤1000):∀ (k:Nat) (s:ax) (n:Int),0≤n→n+k=Iv→s.length≤1000000000→nW Iv s n=some (Iu k s)
 | 0,s,n,h0,hn,hs=>by
   have tE:=Ir 46 s
   have hp:0 < (jb 46 s).length:=List.length_pos_iff.2 tE
   unfold nW
   rw [iter_eq]
   show (match gx Iv s n with | _=>_)=_
   rw [gx,if_neg (by omega)]
   simp only [Option.map_some,Option.bind_some]
   unfold Iu
   rw [decide_eq_false (by omega)];rfl
 | k+1,s,n,h0,hn,hs=>by
   have ih:=yU Iv hm k (rC 46 s).2.1 (n+1) (by omega) (by omega) (by have:=(E1 46 s).2;omega)
   unfold nW at ih ⊢
   rw [iter_eq]
   show (match gx Iv s n with | _=>_)=_
   rw [gx,if_pos (by omega),M9 hs]
   simp only [Option.bind_some,uQ]
   unfold Iu
   rw [Ct 46 s]
   by_cases hk:me (rC 46 s).1=true
   ·by_cases hc:(rC 46 s).2.2=true
    ·simp only [hk,hc,Bool.not_true,Bool.false_eq_true,if_false,if_true]
     rw [cG (by omega) (by omega)]
     refine ih.trans ?_
     unfold Iu
     simp [hk]
    ·have xH:=yp 46 s (by simpa using hc)
     rw [xH.1] at hk
     simp [hk,hc,xH.1]
   ·by_cases hc:(rC 46 s).2.2=true
    ·simp [hk,hc]
    ·have xH:=yp 46 s (by simpa using hc)
     rw [xH.1] at hk
     simp [hk,hc,xH.1]
def zp (c:UInt8):Bool:=decide (c.toNat < 32)||decide (c.toNat=127)
def KH (s:ax):Bool:=!s.any zp&&Lib.validD s
theorem E3 (s:ax) (hl:s.length≤1000000):mW s=some (KH s):=by
 unfold mW sD
 have h:=vl s (fun x:Int=>eh s x) (fun c=>if zp c=true then some false else none) (Lib.validD s) (by omega) (fun i c h0 h1 h2=>by
  show eh s i=_
  unfold eh jR zp
  rw [if_pos h1,h2]
  simp only [Option.bind_some]
  rw [cG (by omega) (by omega)]
  by_cases q1:c.toNat < 32
  ·rw [if_pos (by omega)];simp [q1]
  ·rw [if_neg (by omega)]
   by_cases q2:c.toNat=127
   ·simp [q2]
   ·have:¬ ((c.toNat:Int)=127):=by omega
    simp [q1,q2,this]) (by
  show eh s s.length=_
  unfold eh oT yg
  rw [if_neg (by omega),if_pos (by omega)];rfl)
 rw [h]
 unfold KH
 congr 1
 induction s with
 | nil=>simp [re]
 | cons c r ih=>exact KI c r _
where
 KI (c:UInt8) (r:ax) (e:Bool):re (fun c=>if zp c=true then some false else none) e (c :: r)=(!(c :: r).any zp&&e):=by
  have key:∀ (l:ax),re (fun c=>if zp c=true then some false else none) e l=(!l.any zp&&e):=by
   intro l
   induction l with
   | nil=>simp [re]
   | cons x t ih=>
     simp only [re,List.any_cons]
     cases hx:zp x with
     | true=>simp
     | false=>simp [ih]
  exact key _
theorem vo {α:Type} (p:α→Bool):∀ l:List α,l.dropWhile p=[]↔l.all p=true
 | []=>by simp
 | x :: r=>by
   rw [List.dropWhile_cons]
   cases h:p x with
   | true=>simp only [if_true,List.all_cons,h,Bool.true_and];exact vo p r
   | false=>simp [h]
theorem Cu (l cs:ax):Lib.trimS l cs=[]↔l.all (fun c=>decide (c∈cs))=true:=by
 have hc:∀ c:UInt8,cs.contains c=decide (c∈cs):=fun c=>by rw [Bool.eq_iff_iff];simp
 unfold Lib.trimS Lib.trimLeftS Lib.trimRightS
 rw [vo,List.all_reverse]
 constructor
 ·intro h
  have hd:(l.reverse.dropWhile (cs.contains ·))=[]:=by
   cases hh:l.reverse.dropWhile (cs.contains ·) with
   | nil=>rfl
   | cons a b=>
     have h1:=List.head?_dropWhile_not (fun c=>cs.contains c) l.reverse
     rw [hh] at h h1
     simp only [List.head?_cons] at h1
     simp only [List.all_cons,Bool.and_eq_true] at h
     rw [h.1] at h1;simp at h1
  rw [vo,List.all_reverse] at hd
  simpa [hc] using hd
 ·intro h
  have hd:l.reverse.dropWhile (cs.contains ·)=[]:=by
   rw [vo,List.all_reverse];simpa [hc] using h
  rw [hd];rfl
theorem sP {s cs:ax} (h1:s.length≤100000) (h2:cs.length≤100000) (h3:cs.all (fun b=>decide (b.toNat < 128))=true):vM s cs=some (Lib.trimS s cs):=by
 unfold vM;rw [if_pos ⟨by omega,by omega,h3⟩]
theorem sQ (s:ax):vN s=some (me s):=by
 unfold vN sF
 rw [pV]
 cases s with
 | nil=>rfl
 | cons c r=>
   by_cases hl:(c :: r).length≤40
   ·rw [if_pos (by simp;simp at hl;omega),sP (by omega) (by simp) (by decide)]
    simp only [Option.bind_some]
    have e:(c :: r).all (fun c=>decide (c∈([97,98,99,100,101,102,103,104,105,106,107,108,109,110,111,112,113,114,115,116,117,118,119,120,121,122,48,49,50,51,52,53,54,55,56,57,45,95]:List UInt8)))=(c :: r).all (fun c=>M7 c.toNat):=by
     congr 1;funext c
     exact KF (p:=fun c=>decide (c∈([97,98,99,100,101,102,103,104,105,106,107,108,109,110,111,112,113,114,115,116,117,118,119,120,121,122,48,49,50,51,52,53,54,55,56,57,45,95]:List UInt8))) Io c
    have e2:=KF (p:=fun c=>decide (c∈([97,98,99,100,101,102,103,104,105,106,107,108,109,110,111,112,113,114,115,116,117,118,119,120,121,122]:List UInt8))) (q:=fun n=>decide (97≤n)&&decide (n≤122)) M8 c
    rw [vn,decide_eq_true hl,Bool.true_and,← e,← e2]
    by_cases ht:Lib.trimS (c :: r) ([97,98,99,100,101,102,103,104,105,106,107,108,109,110,111,112,113,114,115,116,117,118,119,120,121,122,48,49,50,51,52,53,54,55,56,57,45,95]:ax)=[]
    ·rw [if_pos ht,(Cu _ _).1 ht,Bool.and_true]
     have i0:idx (c :: r) 0=some c:=rfl
     rw [i0]
     simp only [Option.bind_some,qP,We]
     congr 1
     have:=sN ([97,98,99,100,101,102,103,104,105,106,107,108,109,110,111,112,113,114,115,116,117,118,119,120,121,122]:List UInt8) c
     rw [decide_eq_decide]
     constructor
     ·intro h;exact Classical.byContradiction fun h'=>by have:=this.2 h';omega
     ·intro h;have h':=mt this.1 (fun h'=>h' h);omega
    ·rw [if_neg ht]
     have:(c :: r).all (fun c=>decide (c∈([97,98,99,100,101,102,103,104,105,106,107,108,109,110,111,112,113,114,115,116,117,118,119,120,121,122,48,49,50,51,52,53,54,55,56,57,45,95]:List UInt8)))=false:=by
      rw [← Bool.not_eq_true];exact fun h=>ht ((Cu _ _).2 h)
     rw [this,Bool.and_false]
   ·rw [if_neg (by simp;simp at hl;omega),vn,decide_eq_false hl];rfl
theorem E4 (n:Int):dB n=if 0≤n∧n≤345686399999 then 0 else 1:=by
 unfold dB
 rw [pV]
 by_cases h:0≤n∧n≤345686399999
 ·rw [if_pos h,if_neg (by simp;omega)]
 ·rw [if_neg h,if_pos (by simp;omega)]
theorem E5 (s:ax):nz s=some (if me s=true then 0 else 5):=by
 unfold nz
 rw [sQ]
 simp only [Option.bind_some]
 cases me s<;>rfl
def preB (s p:ax):Bool:=decide (s.take p.length=p)
theorem KJ {s p:ax} (h:preB s p=true):p.length≤s.length:=by
 have h:s.take p.length=p:=of_decide_eq_true h
 have:=congrArg List.length h
 simp at this;omega
theorem AX (s p:ax) (h:s.length≤1000000000):cV s p=some (preB s p):=by
 unfold cV cC
 by_cases c:p.length≤s.length
 ·rw [if_pos (by omega),yn (by omega) (by omega) (by omega)]
  simp only [Option.bind_some]
  unfold preB
  simp
 ·rw [if_neg (by omega)]
  cases hp:preB s p with
  | false=>rfl
  | true=>exact absurd (KJ hp) c
theorem BI (s p:ax) (h:s.length≤1000000000):strings_HasPrefix s p=some (preB s p):=by
 unfold strings_HasPrefix
 rw [AX s p h];rfl
def AY (s:ax):Bool:=decide (s.length≤40)&&Iu 5 s
theorem E6 {s:ax} (h:s.length≤1000000000):mV s=some (AY s):=by
 unfold mV jQ AY
 by_cases c:s.length≤40
 ·rw [if_pos (by omega)]
  unfold rP
  rw [show (5:Int)=((5:Nat):Int) from rfl,yU 5 (by omega) 5 s 0 (by omega) (by omega) h]
  simp [c]
 ·rw [if_neg (by omega)];simp [c]
theorem E7 {s:ax} (h:s.length≤1000000000):qU s=some (AY s):=by
 unfold qU lu AY Iu
 rw [Is h]
 simp only [Option.bind_some]
 have hl:=vQ 46 s
 by_cases c:s.length≤40
 ·rw [if_pos (by omega)]
  by_cases d:(jb 46 s).length≤5
  ·rw [if_pos (by omega)]
   have hc:dx (jb 46 s) (fun y0=>mX y0)=some ((jb 46 s).any (fun x=>!me x)):=
    o0 _ _ _ (fun x _=>by unfold mX;rw [sQ];rfl) (by omega)
   rw [hc]
   simp only [Option.bind_some,Option.some.injEq]
   simp [c,d,List.all_eq_not_any_not]
  ·rw [if_neg (by omega)];simp [d]
 ·rw [if_neg (by omega)];simp [c]
def KL {A:Type} (o:Option A) (i:Int):Int⊕A:=match o with
 | some a=>.inr a
 | none=>.inl (i+1)
def vR {α A:Type} (v:Int→α→Option A) (e:A):List α→Int→A
 | [],_=>e
 | s :: r,i=>match v i s with
   | some a=>a
   | none=>vR v e r (i+1)
theorem tu {α A:Type} (v:Int→α→Option A) (e:A) (xs:List α) (f:Int→Option (Int⊕A))
 (hf:∀ (i:Int) s,0≤i→i < xs.length→idx xs i=some s→f i=some (KL (v i s) i))
 (he:f xs.length=some (.inr e)):iter f 0=some (vR v e xs 0):=by
 have key:∀ (n:Nat) (i:Int),0≤i→i+n=xs.length→iter f i=some (vR v e (xs.drop i.toNat) i):=by
  intro n
  induction n with
  | zero=>
    intro i h0 hn
    obtain rfl:i=xs.length:=by omega
    rw [iter_eq,he,List.drop_of_length_le (by omega)];rfl
  | succ n ih=>
    intro i h0 hn
    obtain ⟨s,hs,_,hd⟩:=lC xs h0 (by omega)
    rw [iter_eq,hf i s h0 (by omega) hs,hd]
    conv=>rhs;unfold vR
    cases hv:v i s with
    | some a=>rfl
    | none=>
      simp only [Option.bind_some,jf]
      exact ih (i+1) (by omega) (by omega)
 have:=key xs.length 0 (by omega) (by omega)
 simpa using this
theorem zH (a b:ax):(Op.bytesLess a b||a==b)=decide (Lib.compareBytes a b≤0):=by
 rw [rf,MZ]
 rcases Cq a b with h | h | h<;>simp [h]
def MB (m:Model):Prop:=m.Prefix.length≤100∧m.bf.length≤100∧∀ p∈m.bf,p.Name.length≤100
def uR (p:aM):Option Int:=
 if p.Kind < 1∨3 < p.Kind then some 4 else if p.Kind=2∧(p.wv < -1000000000∨p.iO < p.wv∨1000000000 < p.iO) then some 1 else if ¬ p.Kind=2∧(p.wv≠0∨p.iO≠0) then some 3 else none
def KM (l:List aM) (i:Int) (p:aM):Option Int:=
 if AY p.Name=false then some 5 else match lD l i with
 | some q=>if Lib.compareBytes p.Name q.Name≤0 then some 7 else uR p
 | none=>uR p
def AZ (l:List aM):Int:=vR (KM l) 0 l 0
theorem BJ {l:List aM} (hl:l.length≤100) (hn:∀ p∈l,p.Name.length≤100):jr l=some (AZ l):=by
 unfold jr pq AZ
 refine tu (KM l) 0 l _ (fun i s i0 i1 hs=>?_) (by show dj l _=_;rw [dj,if_neg (by omega)];rfl)
 have LD:=hn s (dz hs)
 show dj l i=_
 rw [dj,if_pos i1,hs]
 simp only [Option.bind_some]
 rw [E6 (by omega)]
 simp only [Option.bind_some]
 unfold KM
 cases hp:AY s.Name
 ·simp [KL]
 simp only [Bool.not_true,Bool.false_eq_true,if_false,Bool.true_eq_false]
 have j1:∀ c:Bool,eU i s c=some (KL (if c=true then some 7 else uR s) i):=by
  intro c
  unfold eU jq jo uR
  rw [ri,ri,cG (x:=i+1) (by omega) (by omega)]
  cases c with
  | true=>rfl
  | false=>
    simp only [Bool.false_eq_true,if_false]
    by_cases h1:s.Kind < 1∨3 < s.Kind
    ·rw [if_pos (by simp only [Bool.or_eq_true,decide_eq_true_eq];exact h1),if_pos h1];rfl
    ·rw [if_neg (by simp only [Bool.or_eq_true,decide_eq_true_eq];exact h1),if_neg h1]
     by_cases h2:s.Kind=2∧(s.wv < -1000000000∨s.iO < s.wv∨1000000000 < s.iO)
     ·rw [if_pos (by simp only [Bool.and_eq_true,Bool.or_eq_true,decide_eq_true_eq];omega),if_pos h2];rfl
     ·rw [if_neg (by simp only [Bool.and_eq_true,Bool.or_eq_true,decide_eq_true_eq];omega),if_neg h2]
      by_cases h3:¬ s.Kind=2∧(s.wv≠0∨s.iO≠0)
      ·rw [if_pos (by simp only [Bool.and_eq_true,Bool.or_eq_true,decide_eq_true_eq];exact h3),if_pos h3];rfl
      ·rw [if_neg (by simp only [Bool.and_eq_true,Bool.or_eq_true,decide_eq_true_eq];exact h3),if_neg h3];rfl
 by_cases hi:0 < i
 ·obtain ⟨p,hp,_,_⟩:=lC l (i:=i - 1) (by omega) (by omega)
  have DK:lD l i=some p:=by unfold lD;rw [if_neg (by omega),hp]
  rw [DK,if_pos hi,cG (by omega) (by omega),hp]
  simp only [Option.bind_some]
  rw [j1,zH]
  simp only [decide_eq_true_eq]
 ·have DK:lD l i=none:=by unfold lD;rw [if_pos (by omega)]
  rw [DK,if_neg hi,j1,if_neg (by simp)]
theorem Iw {m:Model} (hl:m.bf.length≤100) (hn:∀ p∈m.bf,p.Name.length≤100) (n2:Int) (h2:0≤n2∧n2≤1000):oV n2 m 0=some (if AZ m.bf≠0 then .inr (AZ m.bf) else .inl (n2+1)):=by
 unfold oV
 have main:=tu (fun i p=>(KM m.bf i p).map (Sum.inr:Int→Int⊕Int)) (.inl (n2+1)) m.bf (fun x:Int=>ej n2 m x) (fun i s i0 i1 hs=>?_) (by show ej n2 m _=_;rw [ej,if_neg (by omega),cG (by omega) (by omega)];rfl)
 ·refine main.trans ?_
  congr 1
  unfold AZ
  have hz:∀ (l:List aM) (i:Int) p a,KM l i p=some a→a≠0:=by
   intro l i p a h
   have hr:∀ p a,uR p=some a→a≠0:=by
    intro p a h
    unfold uR at h
    split at h
    ·rw [← Option.some.inj h];decide
    ·split at h
     ·rw [← Option.some.inj h];decide
     ·split at h
      ·rw [← Option.some.inj h];decide
      ·cases h
   unfold KM at h
   split at h
   ·rw [← Option.some.inj h];decide
   ·split at h
    ·split at h
     ·rw [← Option.some.inj h];decide
     ·exact hr _ _ h
    ·exact hr _ _ h
  have key:∀ (r:List aM) (i:Int),vR (fun i p=>(KM m.bf i p).map (Sum.inr:Int→Int⊕Int)) (.inl (n2+1)) r i=if vR (KM m.bf) 0 r i≠0 then .inr (vR (KM m.bf) 0 r i) else .inl (n2+1):=by
   intro r
   induction r with
   | nil=>intro i;rfl
   | cons p r ih=>
     intro i
     unfold vR
     cases hv:KM m.bf i p with
     | some a=>simp only [Option.map_some];rw [if_pos (hz _ _ _ _ hv)]
     | none=>simp only [Option.map_none];exact ih (i+1)
  exact key m.bf 0
 ·have LD:=hn s (dz hs)
  show ej n2 m i=_
  rw [ej,if_pos i1,hs]
  simp only [Option.bind_some]
  rw [E7 (by omega)]
  simp only [Option.bind_some]
  unfold KM
  cases hp:AY s.Name
  ·simp [KL]
  simp only [Bool.not_true,Bool.false_eq_true,if_false,Bool.true_eq_false]
  have j3:∀ c:Bool,iF i s c=some (KL ((if c=true then some 7 else uR s).map (Sum.inr:Int→Int⊕Int)) i):=by
   intro c
   unfold iF mw mu uR
   rw [pV,pV,cG (x:=i+1) (by omega) (by omega)]
   cases c with
   | true=>rfl
   | false=>
     simp only [Bool.false_eq_true,if_false]
     by_cases h1:s.Kind < 1∨3 < s.Kind
     ·rw [if_pos (by simp only [Bool.not_eq_true',Bool.and_eq_false_iff,decide_eq_false_iff_not];omega),if_pos h1];rfl
     ·rw [if_neg (by simp only [Bool.not_eq_true',Bool.and_eq_false_iff,decide_eq_false_iff_not];omega),if_neg h1]
      by_cases h2:s.Kind=2∧(s.wv < -1000000000∨s.iO < s.wv∨1000000000 < s.iO)
      ·rw [if_pos (by simp only [Bool.and_eq_true,Bool.or_eq_true,Bool.not_eq_true',Bool.and_eq_false_iff,decide_eq_true_eq,decide_eq_false_iff_not];omega),if_pos h2];rfl
      ·rw [if_neg (by simp only [Bool.and_eq_true,Bool.or_eq_true,Bool.not_eq_true',Bool.and_eq_false_iff,decide_eq_true_eq,decide_eq_false_iff_not];omega),if_neg h2]
       by_cases h3:¬ s.Kind=2∧(s.wv≠0∨s.iO≠0)
       ·rw [if_pos (by simp only [Bool.and_eq_true,Bool.or_eq_true,decide_eq_true_eq];exact h3),if_pos h3];rfl
       ·rw [if_neg (by simp only [Bool.and_eq_true,Bool.or_eq_true,decide_eq_true_eq];exact h3),if_neg h3];rfl
  by_cases hi:0 < i
  ·obtain ⟨p,hp,_,_⟩:=lC m.bf (i:=i - 1) (by omega) (by omega)
   have DK:lD m.bf i=some p:=by unfold lD;rw [if_neg (by omega),hp]
   rw [DK,if_pos hi,cG (by omega) (by omega),hp]
   simp only [Option.bind_some]
   rw [j3,zH]
   simp only [decide_eq_true_eq]
  ·have DK:lD m.bf i=none:=by unfold lD;rw [if_pos (by omega)]
   rw [DK,if_neg hi,j3,if_neg (by simp)]
abbrev E8:ax:=[65,66,67,68,69,70,71,72,73,74,75,76,77,78,79,80,81,82,83,84,85,86,87,88,89,90]
def Ge (s:ax):Bool:=(decide (2≤s.length)&&decide (s.length≤4))&&decide (Lib.trimS s E8=[])
theorem E9 {s:ax} (h:s.length≤1000):kZ s=some (Ge s):=by
 unfold kZ iQ Ge
 rw [ri,sP (by omega) (by decide) (by decide)]
 by_cases c:2≤s.length∧s.length≤4
 ·rw [if_pos (by simp only [Bool.not_eq_true',Bool.or_eq_false_iff,decide_eq_false_iff_not];omega)]
  simp [c.1,c.2]
 ·rw [if_neg (by simp only [Bool.not_eq_true',Bool.or_eq_false_iff,decide_eq_false_iff_not];omega)]
  rw [eq_comm]
  simp
  intro a b;exact absurd ⟨a,b⟩ c
def yq (l:List Model) (i:Int) (m:Model):Option Int:=
 if Ge m.Prefix=false then some 3 else if (l.take i.toNat).any (fun x=>decide (x.Prefix=m.Prefix))=true then some 6 else if 50 < m.bf.length then some 2 else if AZ m.bf≠0 then some (AZ m.bf) else none
def Sn (l:List Model) (i:Int) (m:Model):Option Int:=
 if me m.Key=false then some 5 else match lD l i with
 | some q=>if Lib.compareBytes m.Key q.Key≤0 then some 7 else yq l i m
 | none=>yq l i m
def Lk (l:List Model):Int:=if 50 < l.length then 2 else vR (Sn l) 0 l 0
theorem N2 (L:List Model) (fn:Model→Option Bool) (p:Model→Bool) (hf:∀ x,fn x=some (p x)) (hl:(L.length:Int)≤100000):cM L fn=some (L.any p):=
 o0 L fn p (fun x _=>hf x) (by omega)
theorem uS {l:List Model} (h:∀ m∈l,MB m):fY l=some (Lk l):=by
 unfold fY Lk
 by_cases Sp:50 < l.length
 ·rw [if_pos (by omega),if_pos Sp]
 rw [if_neg (by omega),if_neg Sp]
 unfold oJ
 refine tu (Sn l) 0 l _ (fun i s i0 i1 hs=>?_) (by show cP l _=_;rw [cP,if_neg (by omega)];rfl)
 obtain ⟨b1,b2,b3⟩:=h s (dz hs)
 show cP l i=_
 rw [cP,if_pos i1,hs]
 simp only [Option.bind_some]
 rw [uQ]
 simp only [Option.bind_some]
 unfold Sn
 cases hk:me s.Key
 ·simp [KL]
 simp only [Bool.not_true,Bool.false_eq_true,if_false,Bool.true_eq_false]
 have j1:∀ c:Bool,eK l i s c=some (KL (if c=true then some 7 else yq l i s) i):=by
  intro c
  unfold eK yq
  cases c with
  | true=>rfl
  | false=>
    simp only [Bool.false_eq_true,if_false]
    rw [E9 (by omega)]
    simp only [Option.bind_some]
    cases hp:Ge s.Prefix
    ·simp [KL]
    simp only [Bool.not_true,Bool.false_eq_true,if_false,Bool.true_eq_false]
    rw [yn (by omega) (by omega) (by omega)]
    simp only [Option.bind_some]
    rw [show (l.drop (0:Int).toNat).take (i.toNat - (0:Int).toNat)=l.take i.toNat by simp,N2 _ (fun y0=>some (iW y0 s)) (fun x=>decide (x.Prefix=s.Prefix)) (fun _=>rfl) (by rw [List.length_take];omega)]
    simp only [Option.bind_some]
    by_cases ha:(l.take i.toNat).any (fun x=>decide (x.Prefix=s.Prefix))=true
    ·rw [if_pos ha,if_pos ha];rfl
    rw [if_neg ha,if_neg ha]
    by_cases h5:50 < s.bf.length
    ·rw [if_pos (by omega),if_pos h5];rfl
    rw [if_neg (by omega),if_neg h5,BJ b2 b3]
    simp only [Option.bind_some]
    rw [cG (by omega) (by omega)]
    by_cases hz:AZ s.bf≠0
    ·rw [if_pos hz,if_pos hz];rfl
    ·rw [if_neg hz,if_neg hz];rfl
 by_cases hi:0 < i
 ·obtain ⟨p,hp,_,_⟩:=lC l (i:=i - 1) (by omega) (by omega)
  have DK:lD l i=some p:=by unfold lD;rw [if_neg (by omega),hp]
  rw [DK,if_pos hi,cG (by omega) (by omega),hp]
  simp only [Option.bind_some]
  rw [j1,zH]
  simp only [decide_eq_true_eq]
 ·have DK:lD l i=none:=by unfold lD;rw [if_pos (by omega)]
  rw [DK,if_neg hi,j1,if_neg (by simp)]
theorem Fa:xg ([97,98,99,100,101,102,103,104,105,106,107,108,109,110,111,112,113,114,115,116,117,118,119,120,121,122]:ax)=some E8:=by decide
theorem A0 {l:List Model} (h:∀ m∈l,MB m):lv l=some (Lk l):=by
 unfold lv Lk
 by_cases Sp:50 < l.length
 ·rw [if_pos (by omega),if_pos Sp]
 rw [if_neg (by omega),if_neg Sp]
 unfold sG
 refine tu (Sn l) 0 l _ (fun i s i0 i1 hs=>?_) (by show fa l _=_;rw [fa,if_neg (by omega)];rfl)
 obtain ⟨b1,b2,b3⟩:=h s (dz hs)
 show fa l i=_
 rw [fa,if_pos i1,hs]
 simp only [Option.bind_some]
 rw [sQ]
 simp only [Option.bind_some]
 unfold Sn
 cases hk:me s.Key
 ·simp [KL]
 simp only [Bool.not_true,Bool.false_eq_true,if_false,Bool.true_eq_false]
 have j1:∀ c:Bool,iH l i s c=some (KL (if c=true then some 7 else yq l i s) i):=by
  intro c
  unfold iH yq
  cases c with
  | true=>rfl
  | false=>
    simp only [Bool.false_eq_true,if_false]
    rw [pV,Fa]
    simp only [Option.bind_some]
    rw [sP (by omega) (by decide) (by decide)]
    simp only [Option.bind_some]
    have j2:∀ c:Bool,iG l i s c=some (KL (if c=true then some 3 else if (l.take i.toNat).any (fun x=>decide (x.Prefix=s.Prefix))=true then some 6 else if 50 < s.bf.length then some 2 else if AZ s.bf≠0 then some (AZ s.bf) else none) i):=by
     intro c
     unfold iG
     cases c with
     | true=>rfl
     | false=>
       simp only [Bool.false_eq_true,if_false]
       rw [yn (by omega) (by omega) (by omega)]
       simp only [Option.bind_some]
       rw [show (l.drop (0:Int).toNat).take (i.toNat - (0:Int).toNat)=l.take i.toNat by simp,N2 _ (fun y0=>some (mr y0 s)) (fun x=>decide (x.Prefix=s.Prefix)) (fun _=>rfl) (by rw [List.length_take];omega)]
       simp only [Option.bind_some]
       by_cases ha:(l.take i.toNat).any (fun x=>decide (x.Prefix=s.Prefix))=true
       ·rw [if_pos ha,if_pos ha];rfl
       rw [if_neg ha,if_neg ha]
       by_cases h5:50 < s.bf.length
       ·rw [if_pos (by omega),if_pos h5];rfl
       rw [if_neg (by omega),if_neg h5,Iw b2 b3 i ⟨i0,by omega⟩]
       by_cases hz:AZ s.bf≠0
       ·rw [if_pos hz,if_pos hz];rfl
       ·rw [if_neg hz,if_neg hz];rfl
    have Wi:(Ge s.Prefix=false)↔¬ (2≤s.Prefix.length∧s.Prefix.length≤4)∨Lib.trimS s.Prefix E8≠[]:=by
     unfold Ge
     by_cases ht:Lib.trimS s.Prefix E8=[]
     ·simp only [ht,decide_true,Bool.and_true,ne_eq,not_true_eq_false,or_false,Bool.and_eq_false_iff,decide_eq_false_iff_not]
      omega
     ·simp [ht]
    by_cases hc:2≤s.Prefix.length∧s.Prefix.length≤4
    ·rw [if_neg (by simp only [Bool.not_eq_true',Bool.and_eq_false_iff,decide_eq_false_iff_not];omega),j2]
     by_cases ht:Lib.trimS s.Prefix E8=[]
     ·have hn:¬ Ge s.Prefix=false:=fun z=>by
       rcases Wi.1 z with z | z
       ·exact z hc
       ·exact z ht
      rw [if_neg hn,if_neg (by simp [ht])]
     ·rw [if_pos (Wi.2 (.inr ht)),if_pos (by simp [ht])]
    ·rw [if_pos (by simp only [Bool.not_eq_true',Bool.and_eq_false_iff,decide_eq_false_iff_not];omega),j2,if_pos (Wi.2 (.inl hc)),if_pos rfl]
 by_cases hi:0 < i
 ·obtain ⟨p,hp,_,_⟩:=lC l (i:=i - 1) (by omega) (by omega)
  have DK:lD l i=some p:=by unfold lD;rw [if_neg (by omega),hp]
  rw [DK,if_pos hi,cG (by omega) (by omega),hp]
  simp only [Option.bind_some]
  rw [j1,zH]
  simp only [decide_eq_true_eq]
 ·have DK:lD l i=none:=by unfold lD;rw [if_pos (by omega)]
  rw [DK,if_neg hi,j1,if_neg (by simp)]
theorem sh {l:List ax} {v:ax} (h:v∈l) (hl:l.all (fun x=>decide (x.length≤40))=true):v.length≤40:=by
 have:=List.all_eq_true.1 hl v h
 exact of_decide_eq_true this
theorem Dn {s:sg} {K:Int} (hs:tQ s K) (hK:20≤K):∃ m1 m2 s',jm s=some ((m1,m2),s')∧tQ s' (K - 1)∧(MB m1∧0 < m1.bf.length∧m1.bf.length≤10)∧MB m2∧0 < m2.bf.length∧m2.bf.length≤10:=by
 unfold jm
 obtain ⟨v2,s2,e2,TY,q2⟩:=ja (s:=s) (l:=[([65,66,67]:ax),([88,89]:ax),([90,90,90,90]:ax)]) hs (by omega) (by simp) (by simp)
 rw [e2]
 simp only [Option.bind_some]
 have afH:=sh TY (by decide)
 refine ⟨_,_,_,rfl,q2,⟨by unfold MB;simp,by simp,by simp⟩,⟨by simp only;omega,by simp,by simp⟩,by simp,by simp⟩
theorem Na {s:sg} {K:Int} (hs:tQ s K) (hK:20≤K):qD (nU s) (K - 20) (fun l=>(2≤l.length∧l.length≤3)∧∀ m∈l,MB m):=by
 refine qD.of ?_
 unfold nU
 obtain ⟨m1,m2,s2,e2,q2,⟨b1,p1⟩,b2,p2⟩:=Dn hs hK
 rw [e2]
 simp only [Option.bind_some]
 have ret:∀ (L:List Int) (n:Int) (l:List Model),(2≤l.length∧l.length≤3)→(∀ m∈l,MB m)→tQ ⟨L,n⟩ (K - 20)→Ok (some (l,(⟨L,n⟩:sg))) (fun r=>((2≤r.1.length∧r.1.length≤3)∧∀ m∈r.1,MB m)∧tQ r.2 (K - 20)):=fun L n l h1 h2 h3=>⟨_,rfl,⟨h1,h2⟩,h3⟩
 have two:∀ {a b:Model},MB a→MB b→∀ m∈[a,b],MB m:=fun ha hb m hm=>by
  rcases List.mem_cons.1 hm with rfl | hm
  ·exact ha
  ·rw [List.mem_singleton] at hm;subst hm;exact hb
 have Nb:∀ {m:Model} {p:aM} {x y:Int} {P:List aM},MB m→idx P 0=some p→(∀ q∈P,q.Name.length≤100)→P.length≤100→∀ (z:aM),z.Name=p.Name→∀ q∈P.set (0:Int).toNat z,q.Name.length≤100:=by
  intro m p x y P _ hp hP _ z hz q hq
  rcases List.mem_or_eq_of_mem_set hq with h | h
  ·exact hP q h
  ·rw [h,hz];exact hP p (dz hp)
 refine Ok.gen (Gd q2 (by omega) (by omega) (by omega)) (fun f s3 _ q3=>?_)
 dsimp only
 unfold kX kW kV kU kT kS kR kQ jg
 split
 ·refine Ok.gen (uP q3 (by omega) (by omega) (by omega)) (fun k s4 hk q4=>?_)
  dsimp only
  have arm:∀ (m:Model) (g:Model→List Model) (o:ax→ax→Model),MB m→True:=fun _ _ _ _=>trivial
  split
  ·refine Ok.gen (uP q4 (by omega) (by omega) (by omega)) (fun c s5 hc q5=>?_)
   dsimp only
   split
   ·refine Ok.gen (ja q5 (by omega) (by simp) (by simp)) (fun u s6 hu q6=>?_)
    exact ret _ _ _ (by simp) (two ⟨b1.1,b1.2.1,b1.2.2⟩ b2) (q6.less (by omega))
   ·split
    ·refine Ok.gen (ja q5 (by omega) (by simp) (by simp)) (fun u s6 hu q6=>?_)
     have Wj:=sh hu (by decide)
     exact ret _ _ _ (by simp) (two ⟨by show u.length≤100;omega,b1.2.1,b1.2.2⟩ b2) (q6.less (by omega))
    ·split
     ·refine Ok.gen (ja q5 (by omega) (by simp) (by simp)) (fun u s6 hu q6=>?_)
      have Wj:=sh hu (by decide)
      refine Ok.gen (xJ q6 (by omega) (by omega) (by omega) (by omega)) (fun w s7 hw q7=>?_)
      refine Ok.app (by simp;omega) ?_
      exact ret _ _ _ (by simp) (two ⟨b1.1,by simp;omega,fun p hp=>by
       rcases List.mem_append.1 hp with e | e
       ·exact b1.2.2 p e
       ·rw [List.mem_singleton] at e;subst e;show u.length≤100;omega⟩ b2) (q7.less (by omega))
     ·split
      ·refine Ok.gen (xJ q5 (by omega) (by omega) (by omega) (by omega)) (fun w s7 hw q7=>?_)
       refine Ok.gen (xJ q7 (by omega) (by omega) (by omega) (by omega)) (fun y s8 hy q8=>?_)
       refine Ok.idx (by omega) (by omega) (fun p hp PJ=>?_)
       have Oe:(m1.bf.set (0:Int).toNat (⟨p.Name,p.Kind,w,p.iO⟩:aM)).length=m1.bf.length:=List.length_set
       refine Ok.idx (by omega) (by rw [List.length_set];omega) (fun p' bZ Wk=>?_)
       have Sq:=Nb (x:=0) (y:=0) b1 hp b1.2.2 b1.2.1 (⟨p.Name,p.Kind,w,p.iO⟩:aM) rfl
       have GD:=Nb (x:=0) (y:=0) b1 bZ Sq (by rw [Oe];exact b1.2.1) (⟨p'.Name,p'.Kind,p'.wv,y⟩:aM) rfl
       exact ret _ _ _ (by simp) (two ⟨b1.1,by simp only [List.length_set];exact b1.2.1,GD⟩ b2) (q8.less (by omega))
      ·refine Ok.app (by simp) ?_
       refine ret _ _ _ (by simp) (fun m hm=>?_) (q5.less (by omega))
       rcases List.mem_append.1 hm with e | e
       ·exact two b1 b2 m e
       ·rw [List.mem_singleton] at e;subst e;unfold MB;simp
  ·split
   ·refine Ok.gen (uP q4 (by omega) (by omega) (by omega)) (fun c s5 hc q5=>?_)
    dsimp only
    split
    ·refine Ok.gen (ja q5 (by omega) (by simp) (by simp)) (fun u s6 hu q6=>?_)
     exact ret _ _ _ (by simp) (two b1 ⟨b2.1,b2.2.1,b2.2.2⟩) (q6.less (by omega))
    ·split
     ·refine Ok.gen (ja q5 (by omega) (by simp) (by simp)) (fun u s6 hu q6=>?_)
      have Wj:=sh hu (by decide)
      exact ret _ _ _ (by simp) (two b1 ⟨by show u.length≤100;omega,b2.2.1,b2.2.2⟩) (q6.less (by omega))
     ·split
      ·refine Ok.gen (ja q5 (by omega) (by simp) (by simp)) (fun u s6 hu q6=>?_)
       have Wj:=sh hu (by decide)
       refine Ok.gen (xJ q6 (by omega) (by omega) (by omega) (by omega)) (fun w s7 hw q7=>?_)
       refine Ok.app (by simp;omega) ?_
       exact ret _ _ _ (by simp) (two b1 ⟨b2.1,by simp;omega,fun p hp=>by
        rcases List.mem_append.1 hp with e | e
        ·exact b2.2.2 p e
        ·rw [List.mem_singleton] at e;subst e;show u.length≤100;omega⟩) (q7.less (by omega))
      ·split
       ·refine Ok.gen (xJ q5 (by omega) (by omega) (by omega) (by omega)) (fun w s7 hw q7=>?_)
        refine Ok.gen (xJ q7 (by omega) (by omega) (by omega) (by omega)) (fun y s8 hy q8=>?_)
        refine Ok.idx (by omega) (by omega) (fun p hp PJ=>?_)
        have Oe:(m2.bf.set (0:Int).toNat (⟨p.Name,p.Kind,w,p.iO⟩:aM)).length=m2.bf.length:=List.length_set
        refine Ok.idx (by omega) (by rw [List.length_set];omega) (fun p' bZ Wk=>?_)
        have Sq:=Nb (x:=0) (y:=0) b2 hp b2.2.2 b2.2.1 (⟨p.Name,p.Kind,w,p.iO⟩:aM) rfl
        have GD:=Nb (x:=0) (y:=0) b2 bZ Sq (by rw [Oe];exact b2.2.1) (⟨p'.Name,p'.Kind,p'.wv,y⟩:aM) rfl
        exact ret _ _ _ (by simp) (two b1 ⟨b2.1,by simp only [List.length_set];exact b2.2.1,GD⟩) (q8.less (by omega))
       ·refine Ok.app (by simp) ?_
        refine ret _ _ _ (by simp) (fun m hm=>?_) (q5.less (by omega))
        rcases List.mem_append.1 hm with e | e
        ·exact two b1 b2 m e
        ·rw [List.mem_singleton] at e;subst e;unfold MB;simp
   ·omega
 ·exact ret _ _ _ (by simp) (two b1 b2) (q3.less (by omega))
theorem uT {α:Type} (p:α→Bool) (xs:List α):(ib p xs 0 < 0∧xs.find? p=none)∨∃ y,0≤ib p xs 0∧idx xs (ib p xs 0)=some y∧xs.find? p=some y:=by
 rcases uO p xs 0 (by omega) with ⟨e1,e2⟩ | ⟨e1,e2,e3,y,e4,e5⟩
 ·exact .inl ⟨by omega,List.find?_eq_none.2 fun x hx=>by rw [e2 x hx];simp⟩
 ·right
  refine ⟨y,e1,?_,?_⟩
  ·unfold idx
   rw [if_pos e1]
   simpa using e4
  ·generalize ib p xs 0=k at e1 e2 e3 e4
   rw [show (k - 0).toNat=k.toNat by simp] at e3 e4
   obtain ⟨h,e4'⟩:=List.getElem?_eq_some_iff.1 e4
   conv=>lhs;rw [← List.take_append_drop k.toNat xs]
   rw [List.find?_append,List.find?_eq_none.2 (fun x hx=>by rw [e3 x hx];simp),List.drop_eq_getElem_cons h,e4']
   simp [e5]
theorem Ix:l0 ([65,66,48,48,48,48,48,48,48,55]:ax)=some 77:=by
 unfold l0 rW
 have st:∀ (a b c e:Int),cX ([65,66,48,48,48,48,48,48,48,55]:ax) a b=some (.inl (c,e))→iter (fun x:Int×Int=>cX ([65,66,48,48,48,48,48,48,48,55]:ax) x.1 x.2) (a,b)=iter (fun x:Int×Int=>cX ([65,66,48,48,48,48,48,48,48,55]:ax) x.1 x.2) (c,e):=by
  intro a b c e h
  rw [iter_eq]
  show (cX _ a b).bind _=_
  rw [h];rfl
 rw [st 0 0 20 1 (by decide),st 20 1 53 2 (by decide),st 53 2 53 3 (by decide),st 53 3 53 4 (by decide),st 53 4 53 5 (by decide),st 53 5 53 6 (by decide),st 53 6 53 7 (by decide),st 53 7 53 8 (by decide),st 53 8 53 9 (by decide),st 53 9 130 10 (by decide)]
 rw [iter_eq]
 show (cX ([65,66,48,48,48,48,48,48,48,55]:ax) 130 10).bind _=_
 rw [show cX ([65,66,48,48,48,48,48,48,48,55]:ax) 130 10=some (.inr 77) by decide];rfl
theorem wK:nG=some true:=by
 unfold nG ql pc kC
 have hm:∀ x∈[(⟨([109]:ax),([65,66]:ax),[]⟩:Model)],MB x:=fun x hx=>by rw [List.mem_singleton] at hx;subst hx;unfold MB;simp
 rw [uS hm,show Lk [(⟨([109]:ax),([65,66]:ax),[]⟩:Model)]=0 by decide]
 simp only [Option.bind_some]
 rw [if_neg (by simp),show bP [(⟨([109]:ax),([65,66]:ax),[]⟩:Model)] (fun y0=>some (gI y0 ([109]:ax)))=some (ib (fun y0=>gI y0 ([109]:ax)) [(⟨([109]:ax),([65,66]:ax),[]⟩:Model)] 0) from jE _ _ _ (fun _ _=>rfl) (by simp)]
 simp only [Option.bind_some]
 rw [show ib (fun y0=>gI y0 ([109]:ax)) [(⟨([109]:ax),([65,66]:ax),[]⟩:Model)] 0=0 by decide,if_neg (by decide),if_neg (by decide),show Ez 7=some [55] by unfold Ez Lib.itoa;rw [if_pos (by omega),if_neg (by omega),Lib.decDigits,dif_pos (by decide)];rfl]
 simp only [Option.bind_some]
 rw [show zB ([48]:ax) (aZ ((8:Int) - ((([55]:ax).length:Nat):Int)))=some [48,48,48,48,48,48,48] by decide]
 simp only [Option.bind_some]
 rw [show xd ([48,48,48,48,48,48,48]:ax) [55]=some [48,48,48,48,48,48,48,55] by decide,show idx [(⟨([109]:ax),([65,66]:ax),[]⟩:Model)] 0=some ⟨([109]:ax),([65,66]:ax),[]⟩ by rfl]
 simp only [Option.bind_some]
 rw [show xd ([65,66]:ax) [45]=some [65,66,45] by decide]
 simp only [Option.bind_some]
 rw [show xd ([65,66,45]:ax) [48,48,48,48,48,48,48,55]=some [65,66,45,48,48,48,48,48,48,48,55] by decide]
 simp only [Option.bind_some]
 rw [show xd ([65,66,45,48,48,48,48,48,48,48,55]:ax) [45]=some [65,66,45,48,48,48,48,48,48,48,55,45] by decide,show xd ([65,66]:ax) [48,48,48,48,48,48,48,55]=some [65,66,48,48,48,48,48,48,48,55] by decide]
 simp only [Option.bind_some]
 rw [Ix]
 simp only [Option.bind_some]
 rw [show Mb 77=[77] by decide,show xd ([65,66,45,48,48,48,48,48,48,48,55,45]:ax) [77]=some [65,66,45,48,48,48,48,48,48,48,55,45,77] by decide]
 simp
abbrev TJ (a b:aY):Prop:=Lib.compareBytes a.Name b.Name < 0
def TS (T:List aY):Prop:=T.Pairwise TJ
theorem TS.inj {T:List aY} (h:TS T) {a b:aY} (ha:a∈T) (hb:b∈T) (hn:a.Name=b.Name):a=b:=by
 induction T with
 | nil=>cases ha
 | cons x r ih=>
   have h1:=(List.pairwise_cons.1 h).1
   have h2:=(List.pairwise_cons.1 h).2
   rcases List.mem_cons.1 ha with e1 | ux
   ·rcases List.mem_cons.1 hb with e2 | yB
    ·rw [e1,e2]
    ·have:=h1 b yB
     unfold TJ at this
     rw [← e1,hn,mD] at this;omega
   ·rcases List.mem_cons.1 hb with e2 | yB
    ·have:=h1 a ux
     unfold TJ at this
     rw [← e2,← hn,mD] at this;omega
    ·exact ih h2 ux yB
theorem yr (L W:List aY) (hp:L.Perm W) (hW:TS W) (hl:L.length≤100000):lF L.length (fun r:List aY=>r.length) (iZ L (fun y0 y1=>some (pv y0 y1)))=some W:=by
 obtain ⟨Z,z1,z2,z3⟩:=EZ (fun y0 y1=>some (pv y0 y1)) (fun a b:aY=>Lib.compareBytes a.Name b.Name) L hl (fun a _ b _=>rfl) ((mc.on aY.Name).ord L)
 have Pl:Z.Perm W:=z2.trans hp
 have Wl:Gb (fun a b:aY=>Lib.compareBytes a.Name b.Name) W:=hW.imp (fun {a b} q=>by
  have:=mc.neg a.Name b.Name
  unfold TJ at q
  show ¬ Lib.compareBytes b.Name a.Name < 0
  omega)
 have:Z=W:=by
  refine wI Pl z3 Wl ?_
  intro a ha b hb c1 c2
  have hn:=mc.neg a.Name b.Name
  exact hW.inj (Pl.mem_iff.1 ha) (Pl.mem_iff.1 hb) (mE (by omega))
 subst this
 exact wJ z1 z2.length_eq
theorem Sr {i j:Int} (h0:0≤i) (h1:i < j) (h2:j≤5000):aZ (eT .u64 (IntKind.u64.wrap (aZ (i+j))) 1)=(i+j) / 2:=by
 have e1:aZ (i+j)=i+j:=by rw [cG]<;>omega
 have e2:IntKind.u64.wrap (i+j)=i+j:=u64_in (by omega) (by omega)
 rw [e1,e2]
 have e3:eT .u64 (i+j) 1=(i+j) / 2:=by
  show (i+j).fdiv 2=_
  rw [Int.fdiv_eq_ediv_of_nonneg _ (by omega)]
 rw [e3,cG]<;>omega
theorem Fb (T:List aY) (hl:T.length≤1000) (hT:TS T) (s:ax):∃ n:Nat,n≤T.length∧(∀ a∈T.take n,Lib.compareBytes a.Name s < 0)∧(∀ b∈T.drop n,¬ Lib.compareBytes b.Name s < 0)∧
 bR T s (fun y0 y1=>some (gJ y0 y1))=some ((n:Int),match T[n]? with | some y=>decide (y.Name=s) | none=>false):=by
 unfold bR fg
 have key:∀ (k:Nat) (i j:Nat),j - i < k→i≤j→j≤T.length→(∀ a∈T.take i,Lib.compareBytes a.Name s < 0)→(∀ b∈T.drop j,¬ Lib.compareBytes b.Name s < 0)→
  ∃ n:Nat,n≤T.length∧(∀ a∈T.take n,Lib.compareBytes a.Name s < 0)∧(∀ b∈T.drop n,¬ Lib.compareBytes b.Name s < 0)∧
    iter (fun x:Int×Int=>bw T s (fun y0 y1=>some (gJ y0 y1)) x.1 x.2) ((i:Int),(j:Int))=some ((n:Int),match T[n]? with | some y=>decide (y.Name=s) | none=>false):=by
  intro k
  induction k with
  | zero=>intro i j hk;omega
  | succ k ih=>
    intro i j hk Ba hj h1 h2
    rw [iter_eq]
    simp only
    rw [bw]
    by_cases h:i < j
    ·rw [if_pos (by omega),Sr (by omega) (by omega) (by omega)]
     obtain ⟨m,hm⟩:∃ m:Nat,((i:Int)+(j:Int)) / 2=m:=⟨(i+j) / 2,by omega⟩
     have Wy:i≤m∧m < j:=by omega
     rw [hm]
     obtain ⟨y,y1,y2,y3⟩:=lC T (i:=(m:Int)) (by omega) (by omega)
     rw [y1]
     simp only [Option.bind_some]
     have hy:T[m]? =some y:=by have:=(ep y1).2.2;simpa using this
     rw [show gJ y s=Lib.compareBytes y.Name s from rfl]
     unfold bK
     have htk:T.take (m+1)=T.take m++[y]:=by rw [List.take_add_one,hy];rfl
     have TH:T.drop m=y :: T.drop (m+1):=by
      have:=y3
      rwa [show ((m:Int)).toNat=m by omega,show ((m:Int)+1).toNat=m+1 by omega] at this
     have A1:T=T.take m++y :: T.drop (m+1):=by rw [← TH,List.take_append_drop]
     have Wm:=hT
     rw [TS,A1,List.pairwise_append] at Wm
     by_cases hc:Lib.compareBytes y.Name s < 0
     ·rw [if_pos hc,cG (by omega) (by omega)]
      simp only [Option.bind_some,jf]
      have:=ih (m+1) j (by omega) (by omega) hj (fun a ha=>by
       rw [htk,List.mem_append,List.mem_singleton] at ha
       rcases ha with ha | rfl
       ·exact mc.tr (Wm.2.2 a ha y (by simp)) hc
       ·exact hc) h2
      rw [show ((m+1:Nat):Int)=(m:Int)+1 by omega] at this
      exact this
     ·rw [if_neg hc]
      simp only [Option.bind_some,jf]
      exact ih i m (by omega) (by omega) (by omega) h1 (fun b hb=>by
       rw [TH,List.mem_cons] at hb
       rcases hb with rfl | hb
       ·exact hc
       ·intro q
        have:=(List.pairwise_cons.1 Wm.2.1).1 b hb
        exact hc (mc.tr this q))
    ·rw [if_neg (by omega),ec]
     obtain rfl:i=j:=by omega
     refine ⟨i,hj,h1,h2,?_⟩
     unfold db bL
     by_cases hi:i < T.length
     ·rw [if_pos (by omega)]
      obtain ⟨y,y1,y2,y3⟩:=lC T (i:=(i:Int)) (by omega) (by omega)
      have hy:T[i]? =some y:=by have:=(ep y1).2.2;simpa using this
      rw [y1,hy]
      simp only [Option.bind_some]
      rw [show gJ y s=Lib.compareBytes y.Name s from rfl]
      by_cases he:y.Name=s
      ·rw [he,mD];simp
      ·have:¬ Lib.compareBytes y.Name s=0:=fun q=>he (mE q)
       simp [he,this]
     ·rw [if_neg (by omega),List.getElem?_eq_none (by omega)]
 exact key (T.length+1) 0 T.length (by omega) (by omega) (Nat.le_refl _) (by simp) (by simp)
theorem KN (T:List aY) (hl:T.length≤1000) (e:ai):ea T (fun y0=>some (rS y0 e))=some (ib (fun p:aY=>decide (p.Name=e.Name)) T 0):=
 jE T _ (fun p:aY=>decide (p.Name=e.Name)) (fun y _=>rfl) (by omega)
theorem KO (T:List aY) (hl:T.length≤1000) (e:ai):fc T (fun y0=>some (rU y0 e))=some (T.filter (fun p=>!decide (p.Name=e.Name))):=
 M4 _ _ (fun p:aY=>decide (p.Name=e.Name)) T (by omega) (fun x _=>rfl)
theorem KP (T:List aY) (hl:T.length≤1000):dq T=some T:=by
 unfold dq
 rw [rb (by simp;omega)];rfl
def xK (x:aJ) (T:List aY):aJ:=⟨⟨x.Device.Key,x.Device.Model,x.Device.aO,x.Device.an,T⟩,x.aC,x.State,x.aV⟩
theorem Fc (x:aJ) (e:ai) (hT:TS x.Device.bl) (hl:x.Device.bl.length≤20):∃ (r:Int) (T:List aY),nX x e=some (r,xK x T)∧uE x e=some (r,xK x T)∧TS T∧T.length≤20:=by
 obtain ⟨n,n1,n2,n3,n4⟩:=Fb x.Device.bl (by omega) hT e.Name
 have qK:xK x x.Device.bl=x:=rfl
 unfold nX uE
 rw [KN _ (by omega)]
 simp only [Option.bind_some]
 by_cases h0:x.Device.aO=([]:ax)
 ·rw [if_pos h0,if_pos h0]
  exact ⟨11,x.Device.bl,by rw [qK],by rw [qK],hT,hl⟩
 rw [if_neg h0,if_neg h0,n4]
 simp only [Option.bind_some]
 have A1:x.Device.bl=x.Device.bl.take n++x.Device.bl.drop n:=(List.take_append_drop _ _).symm
 have hA:∀ a∈x.Device.bl.take n,a.Name≠e.Name:=fun a ha q=>by
  have:=n2 a ha
  rw [q,mD] at this;omega
 have Nx:(x.Device.bl.take n).length=n:=by rw [List.length_take];omega
 have glue:∀ (C:List aY) (v:ax),(∀ c∈C,0 < Lib.compareBytes c.Name e.Name)→TS C→TS (x.Device.bl.take n++⟨e.Name,v⟩ :: C):=by
  intro C v h1 h2
  rw [TS,List.pairwise_append,List.pairwise_cons]
  refine ⟨hT.sublist (List.take_sublist _ _),⟨fun c hc=>?_,h2⟩,fun a ha c hc=>?_⟩
  ·have h3:=h1 c hc
   have:=mc.neg c.Name e.Name
   show Lib.compareBytes e.Name c.Name < 0
   omega
  ·have h4:Lib.compareBytes a.Name e.Name < 0:=n2 a ha
   rcases List.mem_cons.1 hc with rfl | hc
   ·exact h4
   ·have h3:=h1 c hc
    have:=mc.neg c.Name e.Name
    exact mc.tr h4 (show Lib.compareBytes e.Name c.Name < 0 by omega)
 have BX:∀ y C,x.Device.bl.drop n=y :: C→(∀ c∈C,0 < Lib.compareBytes c.Name e.Name)∧TS C∧(y.Name≠e.Name→0 < Lib.compareBytes y.Name e.Name):=by
  intro y C hd
  have h1:TS (y :: C):=by rw [← hd];exact hT.sublist (List.drop_sublist _ _)
  have h2:=List.pairwise_cons.1 h1
  have hy:=n3 y (by rw [hd];simp)
  refine ⟨fun c hc=>?_,h2.2,fun q=>?_⟩
  ·have h3:Lib.compareBytes y.Name c.Name < 0:=h2.1 c hc
   have h4:=mc.neg c.Name e.Name
   have h5:=mc.neg y.Name e.Name
   have:Lib.compareBytes e.Name c.Name < 0:=by
    by_cases q:Lib.compareBytes y.Name e.Name=0
    ·rw [← mE q];exact h3
    ·exact mc.tr (show Lib.compareBytes e.Name y.Name < 0 by omega) h3
   omega
  ·have h6:¬ Lib.compareBytes y.Name e.Name=0:=fun h=>q (mE h)
   omega
 generalize hF:(match x.Device.bl[n]? with | some y=>decide (y.Name=e.Name) | none=>false)=F
 cases F with
 | false=>
   have hB:∀ b∈x.Device.bl.drop n,0 < Lib.compareBytes b.Name e.Name:=by
    intro b hb
    cases hd:x.Device.bl.drop n with
    | nil=>rw [hd] at hb;cases hb
    | cons y C=>
      have hy:x.Device.bl[n]? =some y:=by
       have:(x.Device.bl.drop n)[0]? =some y:=by rw [hd];rfl
       simpa using this
      rw [hy] at hF
      have tE:y.Name≠e.Name:=by simpa using hF
      obtain ⟨g1,g2,g3⟩:=BX y C hd
      rw [hd] at hb
      rcases List.mem_cons.1 hb with q | q
      ·rw [q];exact g3 tE
      ·exact g1 b q
   have GF:∀ a∈x.Device.bl,a.Name≠e.Name:=by
    intro a ha
    rw [A1,List.mem_append] at ha
    rcases ha with ha | ha
    ·exact hA a ha
    ·intro q
     have:=hB a ha
     rw [q,mD] at this;omega
   have LS:ib (fun p:aY=>decide (p.Name=e.Name)) x.Device.bl 0 < 0:=by
    rcases uT (fun p:aY=>decide (p.Name=e.Name)) x.Device.bl with ⟨h1,_⟩ | ⟨y,h1,h2,h3⟩
    ·exact h1
    ·have h4:=List.find?_some h3
     exact absurd (by simpa using h4) (GF y (dz h2))
   have Gu:x.Device.bl.filter (fun p=>!decide (p.Name=e.Name))=x.Device.bl:=List.filter_eq_self.2 fun a ha=>by simpa using GF a ha
   rw [if_neg Bool.false_ne_true,if_neg (by omega)]
   unfold jh nF pz nE
   simp only [Bool.not_false,Bool.true_and,Bool.false_and]
   rw [if_neg Bool.false_ne_true]
   by_cases hv:e.Value=([]:ax)
   ·rw [if_pos (by simpa using hv),if_pos (by simp [hv,LS])]
    exact ⟨6,x.Device.bl,by rw [qK],by rw [qK],hT,hl⟩
   rw [if_neg (by simpa using hv),if_neg (by simp [hv])]
   unfold k7 pw
   rw [if_neg Bool.false_ne_true,if_neg Bool.false_ne_true]
   by_cases TK:(20:Int)≤(x.Device.bl.length:Int)
   ·rw [if_pos TK,if_pos (by simp [LS];omega)]
    exact ⟨12,x.Device.bl,by rw [qK],by rw [qK],hT,hl⟩
   rw [if_neg TK,if_neg (by simp [LS];omega)]
   have Wn:eW x.Device.bl (n:Int) [(⟨e.Name,e.Value⟩:aY)]=some (x.Device.bl.take n++⟨e.Name,e.Value⟩ :: x.Device.bl.drop n):=by
    unfold eW Mr
    simp only
    rw [if_pos (by omega)]
    simp
   rw [Wn,KP _ (by omega)]
   simp only [Option.bind_some]
   rw [KO _ (by omega),Gu]
   simp only [Option.bind_some]
   rw [if_pos (show e.Value≠([]:ax) from hv),rb (by simp;omega)]
   simp only [Option.bind_some]
   unfold lU
   have hW:TS (x.Device.bl.take n++⟨e.Name,e.Value⟩ :: x.Device.bl.drop n):=glue _ _ hB (hT.sublist (List.drop_sublist _ _))
   rw [yr _ (x.Device.bl.take n++⟨e.Name,e.Value⟩ :: x.Device.bl.drop n) (by
    refine List.perm_append_comm.trans ?_
    show (⟨e.Name,e.Value⟩ :: x.Device.bl).Perm _
    conv=>lhs;rw [A1]
    exact List.perm_middle.symm) hW (by simp;omega)]
   exact ⟨0,_,rfl,rfl,hW,by simp;omega⟩
 | true=>
   obtain ⟨y,hy,K6⟩:∃ y,x.Device.bl[n]? =some y∧y.Name=e.Name:=by
    cases hg:x.Device.bl[n]? with
    | none=>rw [hg] at hF;cases hF
    | some y=>rw [hg] at hF;exact ⟨y,rfl,by simpa using hF⟩
   have Gw:n < x.Device.bl.length:=(List.getElem?_eq_some_iff.1 hy).1
   have hd:x.Device.bl.drop n=y :: x.Device.bl.drop (n+1):=by
    rw [List.drop_eq_getElem_cons Gw]
    rw [List.getElem?_eq_getElem Gw,Option.some.injEq] at hy
    rw [hy]
   have Pm:x.Device.bl=x.Device.bl.take n++y :: x.Device.bl.drop (n+1):=by rw [← hd];exact A1
   obtain ⟨g1,g2,_⟩:=BX y _ hd
   have S6:idx x.Device.bl (n:Int)=some y:=by
    unfold idx
    rw [if_pos (by omega),Int.toNat_natCast,hy]
   have hC:∀ c∈x.Device.bl.drop (n+1),c.Name≠e.Name:=fun c hc q=>by
    have:=g1 c hc
    rw [q,mD] at this;omega
   have ZP:x.Device.bl.find? (fun p:aY=>decide (p.Name=e.Name))=some y:=by
    rw [Pm,List.find?_append,List.find?_eq_none.2 (fun a ha=>by simpa using hA a ha),Option.none_or,List.find?_cons,K6]
    simp
   have Gu:x.Device.bl.filter (fun p=>!decide (p.Name=e.Name))=x.Device.bl.take n++x.Device.bl.drop (n+1):=by
    conv=>lhs;rw [Pm]
    rw [List.filter_append,List.filter_cons,K6,List.filter_eq_self.2 (fun a ha=>by simpa using hA a ha),List.filter_eq_self.2 (fun a ha=>by simpa using hC a ha)]
    simp
   obtain ⟨f1,f2⟩:0≤ib (fun p:aY=>decide (p.Name=e.Name)) x.Device.bl 0∧idx x.Device.bl (ib (fun p:aY=>decide (p.Name=e.Name)) x.Device.bl 0)=some y:=by
    rcases uT (fun p:aY=>decide (p.Name=e.Name)) x.Device.bl with ⟨_,h2⟩ | ⟨z,h1,h2,h3⟩
    ·rw [ZP] at h2;cases h2
    ·rw [ZP,Option.some.injEq] at h3
     rw [h3];exact ⟨h1,h2⟩
   have ZQ:TS (x.Device.bl.take n++x.Device.bl.drop (n+1)):=by
    have:=hT
    rw [Pm] at this
    exact this.sublist (List.Sublist.append (List.Sublist.refl _) (List.sublist_cons_self _ _))
   rw [if_pos rfl,if_pos f1,S6,f2]
   simp only [Option.bind_some]
   unfold jh nF pz nE
   simp only [Bool.not_true,Bool.false_and,Bool.or_false,Bool.true_and]
   by_cases hv:y.Value=e.Value
   ·rw [if_pos (by simpa using hv),if_pos (by simpa using hv),if_pos (by simpa using hv)]
    exact ⟨6,x.Device.bl,by rw [qK],by rw [qK],hT,hl⟩
   rw [if_neg (by simpa using hv),if_neg (by simpa using hv),if_neg (by simp;omega)]
   unfold k7 pw
   rw [if_neg (show ¬ ((decide (ib (fun p:aY=>decide (p.Name=e.Name)) x.Device.bl 0 < 0))&&(decide ((20:Int)≤(x.Device.bl.length:Int))))=true by simp;omega)]
   rw [KP _ (by omega)]
   simp only [Option.bind_some]
   rw [KO _ (by omega),Gu]
   simp only [Option.bind_some]
   by_cases he:e.Value=([]:ax)
   ·rw [if_pos (by simpa using he),if_neg (show ¬ e.Value≠([]:ax) from fun q=>q he)]
    have Wo:gE x.Device.bl (n:Int) (aZ ((n:Int)+1))=some (x.Device.bl.take n++x.Device.bl.drop (n+1)):=by
     unfold gE Me
     rw [cG (by omega) (by omega),if_pos (by omega),show ((n:Int)+1).toNat=n+1 by omega,Int.toNat_natCast]
    rw [Wo]
    simp only [Option.bind_some]
    unfold lU
    rw [yr _ _ (List.Perm.refl _) ZQ (by simp;omega)]
    exact ⟨0,_,rfl,rfl,ZQ,by simp;omega⟩
   ·rw [if_neg (by simpa using he),if_pos (show e.Value≠([]:ax) from he),if_pos trivial,S6]
    simp only [Option.bind_some]
    rw [rb (by simp;omega)]
    simp only [Option.bind_some]
    unfold lU
    have hW:TS (x.Device.bl.take n++⟨e.Name,e.Value⟩ :: x.Device.bl.drop (n+1)):=glue _ _ g1 g2
    have oR:x.Device.bl.set ((n:Int)).toNat (⟨y.Name,e.Value⟩:aY)=x.Device.bl.take n++⟨e.Name,e.Value⟩ :: x.Device.bl.drop (n+1):=by
     rw [Int.toNat_natCast,List.set_eq_take_append_cons_drop,if_pos Gw,K6]
    rw [yr _ (x.Device.bl.take n++⟨e.Name,e.Value⟩ :: x.Device.bl.drop (n+1)) (by
     refine List.perm_append_comm.trans ?_
     show (⟨e.Name,e.Value⟩ :: (x.Device.bl.take n++x.Device.bl.drop (n+1))).Perm _
     exact List.perm_middle.symm) hW (by simp;omega),oR]
    exact ⟨0,_,rfl,rfl,hW,by simp;omega⟩
def uU (x:aJ):ax:=(x.aV.getLast?.map Term.Key).getD []
theorem yu (x:aJ) (h:1≤x.aV.length) (hl:x.aV.length≤1000000):∃ A t,x.aV=A++[t]∧t.Key=uU x∧(x.aV.length:Int) - 1=A.length∧idx x.aV (aZ ((x.aV.length:Int) - (1:Int)))=some t∧(aZ ((x.aV.length:Int) - (1:Int))).toNat=A.length:=by
 have tE:x.aV≠[]:=fun q=>by rw [q] at h;simp at h
 refine ⟨x.aV.dropLast,x.aV.getLast tE,(List.dropLast_concat_getLast tE).symm,?_,?_,?_,?_⟩
 ·unfold uU
  rw [List.getLast?_eq_some_getLast tE];rfl
 ·rw [List.length_dropLast];omega
 ·rw [cG (by omega) (by omega)]
  unfold idx
  rw [if_pos (by omega),show ((x.aV.length:Int) - 1).toNat=x.aV.length - 1 by omega,← List.getLast?_eq_getElem?,List.getLast?_eq_some_getLast tE]
 ·rw [cG (by omega) (by omega),List.length_dropLast];omega
theorem Iy (x:aJ) (A:List Term) (t:Term) (h:x.aV=A++[t]):uU x=t.Key:=by
 unfold uU
 rw [h,List.getLast?_append];rfl
structure FI (N:Nat) (F:aE):Prop where
 len:F.ew.length≤N
 keys:∀ x∈F.ew,1≤x.aV.length∧x.aV.length≤N
 tags:∀ x∈F.ew,TS x.Device.bl∧x.Device.bl.length≤20
 sm:SM F.bN
 fr:∀ k i,bI F.bN k=some i→∃ x,idx F.ew i=some x∧x.Device.Key=k
 to:∀ i x,idx F.ew i=some x→bI F.bN x.Device.Key=some i
 TL:∀ m n,(bI F.cr ⟨m,n⟩).getD false=F.ew.any (fun x=>decide (x.Device.Model=m)&&decide (x.aC=n))
 la:∀ k d,bI F.dv k=some d→∃ x∈F.ew,x.State≠4∧uU x=k∧x.Device.Key=d
 al:∀ x∈F.ew,x.State≠4→bI F.dv (uU x)=some x.Device.Key
theorem FI.start:FI 0 ⟨[],[],[],[]⟩:=by
 refine ⟨by simp,?_,?_,SM.nil,?_,?_,fun m n=>rfl,?_,?_⟩
 ·intro x h;simp at h
 ·intro x h;simp at h
 ·intro k i h;cases h
 ·intro i x h;have:=dz h;simp at this
 ·intro k d h;cases h
 ·intro x h;simp at h
theorem vp {α:Type} {l:List α} {x:α} (h:x∈l):∃ i:Nat,i < l.length∧idx l (i:Int)=some x:=by
 obtain ⟨i,hi,he⟩:=List.getElem_of_mem h
 refine ⟨i,hi,?_⟩
 unfold idx
 rw [if_pos (by omega),Int.toNat_natCast,List.getElem?_eq_getElem hi,he]
theorem FI.LC {N:Nat} {F:aE} (h:FI N F) {i:Int} {x x':aJ} (hx:idx F.ew i=some x) (hs:x.State≠4) (e1:x'.Device.Key=x.Device.Key) (e2:x'.Device.Model=x.Device.Model) (e3:x'.aC=x.aC)
 (hT:TS x'.Device.bl∧x'.Device.bl.length≤20) (hK:1≤x'.aV.length∧x'.aV.length≤N+1) {TN:List (ax×ax)}
 (L1:∀ k d,bI TN k=some d→(k=uU x'∧x'.State≠4∧d=x'.Device.Key)∨(k≠uU x∧bI F.dv k=some d))
 (L2:x'.State≠4→bI TN (uU x')=some x'.Device.Key) (L3:∀ k d,k≠uU x→bI F.dv k=some d→bI TN k=some d):FI (N+1) ⟨F.bN,F.cr,TN,F.ew.set i.toNat x'⟩:=by
 obtain ⟨h0,h1,h2⟩:=ep hx
 have hi:i.toNat < F.ew.length:=by omega
 have Bt:∀ (j:Int) (z:aJ),idx (F.ew.set i.toNat x') j=some z→(j=i∧z=x')∨(j≠i∧idx F.ew j=some z):=by
  intro j z hz
  obtain ⟨g0,g1,g2⟩:=ep hz
  rw [List.getElem?_set] at g2
  by_cases hj:i.toNat=j.toNat
  ·rw [if_pos hj,if_pos hi,Option.some.injEq] at g2
   exact .inl ⟨by omega,g2.symm⟩
  ·rw [if_neg hj] at g2
   refine .inr ⟨fun q=>hj (by rw [q]),?_⟩
   unfold idx
   rw [if_pos g0];exact g2
 have oR:idx (F.ew.set i.toNat x') i=some x':=by
  unfold idx
  rw [if_pos h0,List.getElem?_set,if_pos rfl,if_pos hi]
 have Pn:∀ (j:Int) (z:aJ),j≠i→idx F.ew j=some z→idx (F.ew.set i.toNat x') j=some z:=by
  intro j z hj hz
  obtain ⟨g0,g1,g2⟩:=ep hz
  unfold idx
  rw [if_pos g0,List.getElem?_set,if_neg (by omega)];exact g2
 have uc:∀ z∈F.ew.set i.toNat x',z=x'∨∃ j:Int,j≠i∧idx F.ew j=some z:=by
  intro z hz
  obtain ⟨j,_,hj⟩:=vp hz
  rcases Bt j z hj with ⟨_,q⟩ | ⟨q1,q2⟩
  ·exact .inl q
  ·exact .inr ⟨j,q1,q2⟩
 constructor
 ·simp only [List.length_set];have:=h.len;omega
 ·intro z hz
  rcases uc z hz with rfl | ⟨j,_,hj⟩
  ·exact hK
  ·have:=h.keys z (dz hj);omega
 ·intro z hz
  rcases uc z hz with rfl | ⟨j,_,hj⟩
  ·exact hT
  ·exact h.tags z (dz hj)
 ·exact h.sm
 ·intro k j hj
  obtain ⟨z,z1,z2⟩:=h.fr k j hj
  by_cases q:j=i
  ·subst q
   rw [hx,Option.some.injEq] at z1
   exact ⟨x',oR,by rw [e1,z1,z2]⟩
  ·exact ⟨z,Pn j z q z1,z2⟩
 ·intro j z hz
  rcases Bt j z hz with ⟨q1,q2⟩ | ⟨q1,q2⟩
  ·rw [q2,e1,q1];exact h.to i x hx
  ·exact h.to j z q2
 ·intro m n
  rw [h.TL m n,Bool.eq_iff_iff,List.any_eq_true,List.any_eq_true]
  constructor
  ·rintro ⟨z,z1,z2⟩
   obtain ⟨j,_,hj⟩:=vp z1
   by_cases q:(j:Int)=i
   ·rw [q,hx,Option.some.injEq] at hj
    exact ⟨x',dz oR,by rw [e2,e3,hj];exact z2⟩
   ·exact ⟨z,dz (Pn j z q hj),z2⟩
  ·rintro ⟨z,z1,z2⟩
   rcases uc z z1 with rfl | ⟨j,_,hj⟩
   ·exact ⟨x,dz hx,by rw [← e2,← e3];exact z2⟩
   ·exact ⟨z,dz hj,z2⟩
 ·intro k d hk
  rcases L1 k d hk with ⟨q1,q2,q3⟩ | ⟨q1,q2⟩
  ·exact ⟨x',dz oR,q2,q1.symm,q3.symm⟩
  ·obtain ⟨z,z1,z2,z3,z4⟩:=h.la k d q2
   obtain ⟨j,_,hj⟩:=vp z1
   by_cases q:(j:Int)=i
   ·rw [q,hx,Option.some.injEq] at hj
    exact absurd (by rw [hj];exact z3.symm) q1
   ·exact ⟨z,dz (Pn j z q hj),z2,z3,z4⟩
 ·intro z hz xR
  rcases uc z hz with rfl | ⟨j,PM,hj⟩
  ·exact L2 xR
  ·have h5:=h.al z (dz hj) xR
   refine L3 _ _ (fun q=>?_) h5
   have h6:=h.al x (dz hx) hs
   rw [q,h6,Option.some.injEq] at h5
   have h7:=h.to j z hj
   have h8:=h.to i x hx
   rw [← h5,h8,Option.some.injEq] at h7
   exact PM h7.symm
theorem FI.Ss {N:Nat} {F:aE} (h:FI N F) {i:Int} {x x':aJ} (hx:idx F.ew i=some x) (hs:x.State≠4) (xH:x'.State≠4) (e1:x'.Device.Key=x.Device.Key) (e2:x'.Device.Model=x.Device.Model) (e3:x'.aC=x.aC)
 (hT:TS x'.Device.bl∧x'.Device.bl.length≤20) (hK:x'.aV=x.aV):FI (N+1) ⟨F.bN,F.cr,F.dv,F.ew.set i.toNat x'⟩:=by
 have hl:uU x'=uU x:=by unfold uU;rw [hK]
 have Bd:=dz hx
 refine h.LC hx hs e1 e2 e3 hT (by rw [hK];have:=h.keys x Bd;omega) (fun k d hk=>?_) (fun _=>by rw [hl,e1];exact h.al x Bd hs) (fun k d _ hk=>hk)
 by_cases q:k=uU x
 ·have:=h.al x Bd hs
  rw [q,this,Option.some.injEq] at hk
  exact .inl ⟨by rw [hl,q],xH,by rw [e1,hk]⟩
 ·exact .inr ⟨q,hk⟩
theorem FI.more {N:Nat} {F:aE} (h:FI N F):FI (N+1) F:=
 ⟨by have:=h.len;omega,fun x hx=>by have:=h.keys x hx;omega,h.tags,h.sm,h.fr,h.to,h.TL,h.la,h.al⟩
theorem A2 {N:Nat} {F:aE} (h:FI N F) (hN:N≤100000) (k:ax):vi F.bN k F.ew=some (bI F.dv k).isSome:=by
 unfold vi Ax
 have Wp:∀ e∈F.bN,∃ x,idx F.ew e.2=some x∧x.Device.Key=e.1:=fun e he=>h.fr e.1 e.2 ((h.sm.mF).2 he)
 refine sO (fun e (x:Unit)=>oX k F.ew e) (fun x:Unit=>qX) F.bN () _ (fun done _=>∀ e∈done,∀ x,idx F.ew e.2=some x→x.State≠4→uU x≠k) (fun e he=>by cases he) ?_ ?_
 ·intro done e rest s hp hi
  have he:e∈F.bN:=hp.mem_iff.1 (by simp)
  obtain ⟨x,x1,x2⟩:=Wp e he
  have Bd:=dz x1
  have hk:=h.keys x Bd
  obtain ⟨A,t,t1,t2,t3,t4,_⟩:=yu x hk.1 (by omega)
  unfold oX qW
  rw [x1]
  simp only [Option.bind_some]
  by_cases hs:x.State≠4
  ·rw [if_pos hs,t4]
   simp only [Option.bind_some]
   by_cases hq:t.Key=k
   ·right
    rw [if_pos (by simpa using hq),← hq,t2,h.al x Bd hs]
    rfl
   ·left
    rw [if_neg (by simpa using hq)]
    refine ⟨(),rfl,fun e' Hz z hz xR=>?_⟩
    rw [List.mem_append,List.mem_singleton] at Hz
    rcases Hz with Hz | rfl
    ·exact hi e' Hz z hz xR
    ·rw [x1,Option.some.injEq] at hz
     rw [← hz,← t2];exact hq
  ·left
   rw [if_neg hs,if_neg Bool.false_ne_true]
   refine ⟨(),rfl,fun e' Hz z hz xR=>?_⟩
   rw [List.mem_append,List.mem_singleton] at Hz
   rcases Hz with Hz | rfl
   ·exact hi e' Hz z hz xR
   ·rw [x1,Option.some.injEq] at hz
    exact absurd (by rw [hz];exact xR) hs
 ·intro p s hp hi
  have:bI F.dv k=none:=by
   cases hg:bI F.dv k with
   | none=>rfl
   | some d=>
     obtain ⟨x,x1,x2,x3,x4⟩:=h.la k d hg
     obtain ⟨j,_,hj⟩:=vp x1
     have:=h.to j x hj
     exact absurd x3 (hi (x.Device.Key,(j:Int)) (hp.mem_iff.2 ((h.sm.mF).1 this)) x hj x2)
  rw [this];rfl
theorem Hl {N:Nat} {F:aE} (h:FI N F):NL F.ew.length (F.bN.map Prod.snd)=some ():=by
 unfold NL
 rw [if_pos]
 intro i hi
 obtain ⟨e,e1,rfl⟩:=List.mem_map.1 hi
 obtain ⟨x,x1,_⟩:=h.fr e.1 e.2 ((h.sm.mF).2 e1)
 have:=ep x1
 omega
def BK (s p:ax):Bool:=decide (p.length≤s.length)&&decide (s.drop (s.length - p.length)=p)
theorem A3 (s p:ax) (h:s.length≤1000000000):cW s p=some (BK s p):=by
 unfold cW cE BK
 by_cases c:p.length≤s.length
 ·rw [if_pos (by omega),cG (by omega) (by omega),yn (by omega) (by omega) (by omega)]
  simp only [Option.bind_some,Option.some.injEq]
  rw [show ((s.length:Int) - p.length).toNat=s.length - p.length by omega,List.take_of_length_le (by simp)]
  simp [c]
 ·rw [if_neg (by omega)];simp [c]
def Hm (s:ax):Bool:=decide (0≤Lib.index s [32,32])
theorem xL (s:ax) (h:s.length≤1000000):strings_Contains s [32,32]=some (Hm s):=by
 unfold strings_Contains
 show (C1 s [32,32]).bind _=_
 unfold C1
 rw [if_pos (by omega)];rfl
def Dp (s:ax):Bool:=KH s&&(!preB s [32]&&(!BK s [32]&&!Hm s))
theorem KQ (s:ax) (h:s.length≤1000000):qS s=some (Dp s):=by
 unfold qS jA Dp
 rw [E3 s h]
 simp only [Option.bind_some]
 cases KH s with
 | false=>rfl
 | true=>
   rw [if_pos rfl,BI _ _ (by omega)]
   simp only [Option.bind_some]
   cases preB s [32] with
   | true=>rfl
   | false=>
     simp only [Bool.not_false,if_true]
     unfold strings_HasSuffix
     rw [A3 _ _ (by omega)]
     simp only [Option.bind_some]
     cases BK s [32] with
     | true=>rfl
     | false=>simp only [Bool.not_false,if_true];rw [xL s h];rfl
theorem KR {α:Type} (p:α→Bool):∀ l:List α,l.dropWhile p=l↔∀ x,l.head? =some x→p x=false
 | []=>by simp
 | x :: r=>by
   rw [List.dropWhile_cons]
   cases hp:p x with
   | true=>
     simp only [if_true,List.head?_cons,Option.some.injEq]
     constructor
     ·intro h
      have h1:(r.dropWhile p).length≤r.length:=(List.dropWhile_suffix p).length_le
      rw [h,List.length_cons] at h1;omega
     ·intro h;have:=h x rfl;rw [hp] at this;cases this
   | false=>simp [hp]
theorem Cv (s:ax):Lib.trimS s [32]=s↔preB s [32]=false∧BK s [32]=false:=by
 have hl:(∀ x,s.head? =some x→([32]:ax).contains x=false)↔preB s [32]=false:=by
  unfold preB
  cases s with
  | nil=>simp
  | cons a r=>simp
 have hr:(∀ x,s.reverse.head? =some x→([32]:ax).contains x=false)↔BK s [32]=false:=by
  unfold BK
  rcases List.eq_nil_or_concat s with rfl | ⟨l,a,rfl⟩
  ·simp
  ·rw [List.concat_eq_append];simp
 unfold Lib.trimS Lib.trimLeftS Lib.trimRightS
 rw [← hl,← hr,← KR,← KR]
 constructor
 ·intro h
  have h1:(s.reverse.dropWhile (([32]:ax).contains ·)).reverse.length≤s.length:=by
   have:=(List.dropWhile_suffix (l:=s.reverse) (([32]:ax).contains ·)).length_le
   simpa using this
  have h2:=(List.dropWhile_suffix (l:=(s.reverse.dropWhile (([32]:ax).contains ·)).reverse) (([32]:ax).contains ·)).length_le
  have h3:(s.reverse.dropWhile (([32]:ax).contains ·))=s.reverse:=by
   refine (List.dropWhile_suffix (([32]:ax).contains ·)).eq_of_length ?_
   have h4:=congrArg List.length h
   simp only [List.length_reverse] at h1 h2 h4 ⊢
   omega
  rw [h3,List.reverse_reverse] at h
  exact ⟨h,h3⟩
 ·rintro ⟨h1,h2⟩
  rw [h2,List.reverse_reverse];exact h1
theorem Iz (s:ax) (h:s.length≤100000):tj s=some (Lib.validD s&&(!preB s [32]&&(!BK s [32]&&!Hm s))):=by
 unfold tj oW yg
 rw [if_pos (by omega)]
 simp only [Option.bind_some]
 cases Lib.validD s with
 | false=>rfl
 | true=>
   rw [if_pos rfl,sP h (by simp) (by decide)]
   simp only [Option.bind_some]
   by_cases c:Lib.trimS s [32]=s
   ·rw [if_pos c.symm,xL s (by omega)]
    obtain ⟨c1,c2⟩:=(Cv s).1 c
    rw [c1,c2];rfl
   ·rw [if_neg (fun k=>c k.symm)]
    have:=fun k=>c ((Cv s).2 k)
    cases h1:preB s [32]<;>cases h2:BK s [32]<;>first | rfl | exact absurd ⟨h1,h2⟩ this
theorem IA (s:ax) (h:s.length≤100000):xn s=some (Dp s):=by
 unfold xn Aw
 have hlen:(kr s).length=s.length:=by unfold kr;simp
 have hf:=vl (kr s) (fun x:Int=>kF s x) (fun v=>if (decide (v < 32)||decide (v=127))=true then some false else none) (Lib.validD s&&(!preB s [32]&&(!BK s [32]&&!Hm s))) (by omega) (fun i v h0 h1 h2=>by
  show kF s i=_
  unfold kF ti
  rw [if_pos h1,h2]
  simp only [Option.bind_some]
  rw [cG (by omega) (by omega)]
  cases (decide (v < 32)||decide (v=127))<;>rfl) (by
  show kF s (kr s).length=_
  unfold kF
  rw [if_neg (by omega),Iz s h];rfl)
 rw [hf]
 unfold Dp KH
 congr 1
 have key:∀ (l:ax) (e:Bool),re (fun v:Int=>if (decide (v < 32)||decide (v=127))=true then some false else none) e (kr l)=(!l.any zp&&e):=by
  intro l e
  unfold kr
  induction l with
  | nil=>simp [re]
  | cons c r ih=>
    simp only [List.map_cons,re,List.any_cons]
    have hb:(decide ((c.toNat:Int) < 32)||decide ((c.toNat:Int)=127))=zp c:=by
     unfold zp;rw [Bool.eq_iff_iff];simp<;>omega
    rw [hb]
    cases zp c with
    | true=>rfl
    | false=>simp only [Bool.false_eq_true,if_false,Bool.false_or];exact ih
 rw [key,Bool.and_assoc]
abbrev Wq:ax:=[48,49,50,51,52,53,54,55,56,57,97,98,99,100,101,102]
def tT (s:ax):Bool:=(decide (1≤s.length)&&decide (s.length≤64))&&decide (Lib.trimS s Wq=[])
theorem rj {s:ax} (h:s.length≤1000):eR s=some (tT s):=by
 unfold eR fT tT
 rw [ri,sP (by omega) (by decide) (by decide)]
 by_cases c:1≤s.length∧s.length≤64
 ·rw [if_pos (by simp only [Bool.not_eq_true',Bool.or_eq_false_iff,decide_eq_false_iff_not];omega)]
  simp [c.1,c.2]
 ·rw [if_neg (by simp only [Bool.not_eq_true',Bool.or_eq_false_iff,decide_eq_false_iff_not];omega)]
  rw [eq_comm]
  simp
  intro a b;exact absurd ⟨by omega,b⟩ c
theorem tv {s:ax} (h:s.length≤1000):lT s=some (tT s):=by
 unfold lT lS tT
 rw [pV,sP (by omega) (by decide) (by decide)]
 by_cases c:1≤s.length∧s.length≤64
 ·rw [if_pos (by simp only [Bool.and_eq_true,decide_eq_true_eq];omega)]
  simp [c.1,c.2]
 ·rw [if_neg (by simp only [Bool.and_eq_true,decide_eq_true_eq];omega)]
  rw [eq_comm]
  simp
  intro a b;exact absurd ⟨by omega,b⟩ c
def KS (v:Version):Bool:=(decide (0≤v.er)&&decide (v.er≤9999))&&((decide (0≤v.et)&&decide (v.et≤9999))&&(decide (0≤v.dY)&&decide (v.dY≤9999)))
theorem Fe (v:Version):nZ v=KS v:=rfl
theorem Dq (n lo hi:Int):(!(eM n lo hi))=sE n lo hi:=by
 rw [ri,pV,Bool.eq_iff_iff]
 simp
theorem Ff (v:Version):ml v=KS v:=by
 unfold ml nn
 rw [Dq,Dq,Dq]
 rfl
structure EB (x:ai):Prop where
 key:x.Key.length≤1000
 val:x.Value.length≤1000
def pG (x:ai):ai:=
 if x.Kind=1 then ⟨x.iB,x.No,x.aW,x.At,x.Kind,x.Device,x.Model,[],x.aC,x.Key,[],[],0,⟨0,0,0⟩⟩
 else if x.Kind=2 then ⟨x.iB,x.No,x.aW,x.At,x.Kind,x.Device,[],x.aO,0,[],[],[],0,⟨0,0,0⟩⟩
 else if x.Kind=4 then ⟨x.iB,x.No,x.aW,x.At,x.Kind,x.Device,[],[],0,x.Key,[],[],x.bj,⟨0,0,0⟩⟩
 else if x.Kind=5 then ⟨x.iB,x.No,x.aW,x.At,x.Kind,x.Device,[],[],0,[],[],[],0,⟨x.an.er,x.an.et,x.an.dY⟩⟩
 else if x.Kind=6 then ⟨x.iB,x.No,x.aW,x.At,x.Kind,x.Device,[],[],0,[],x.Name,x.Value,0,⟨0,0,0⟩⟩
 else ⟨x.iB,x.No,x.aW,x.At,x.Kind,x.Device,[],[],0,[],[],[],0,⟨0,0,0⟩⟩
def Gf (l:List Model) (k:ax):Int:=ib (fun m:Model=>decide (m.Key=k)) l 0
def BL (l:List Model) (x:ai):Int:=
 if x.Kind=1 then (if Gf l x.Model < 0 then 8 else if x.aC < 1∨99999999 < x.aC then 1 else if tT x.Key=true then 0 else 5)
 else if x.Kind=2 then (if me x.aO=true then 0 else 5)
 else if x.Kind=4 then (if tT x.Key=true then (if x.bj < x.At∨345686400000 < x.bj then 1 else 0) else 5)
 else if x.Kind=5 then (if KS x.an=true then 0 else 1)
 else if x.Kind=6 then (if me x.Name=true then (if Dp x.Value=true∧x.Value.length≤100 then 0 else 3) else 5)
 else 0
theorem Po (l:List Model) (k:ax) (hl:l.length≤1000):kC l k=some (Gf l k):=by
 unfold kC
 rw [show bP l (fun y0=>some (gI y0 k))=some (Gf l k) from jE l _ (fun m:Model=>decide (m.Key=k)) (fun x _=>rfl) (by omega)]
 rfl
theorem KT (l:List Model) (k:ax) (hl:l.length≤1000):sH l k=some (Gf l k):=by
 unfold sH
 rw [show bP l (fun y0=>some (qh y0 k))=some (Gf l k) from jE l _ (fun m:Model=>decide (m.Key=k)) (fun x _=>rfl) (by omega)]
 rfl
theorem bad_eq (b:Bool) (w e:Int):aS b w e=if b=true∧e=0 then w else e:=by
 unfold aS im fp
 by_cases h:b=true∧e=0
 ·rw [if_pos h,if_pos (by simp [h.1,h.2])]
 ·rw [if_neg h,if_neg (by simpa using h)]
theorem Dr (l:List Model) (x:ai) (hl:l.length≤1000) (hx:EB x):jS l x=some (pG x,BL l x):=by
 unfold jS pG BL
 by_cases k1:x.Kind=1
 ·rw [if_pos k1,if_pos k1,if_pos k1,Po l _ hl]
  simp only [Option.bind_some]
  rw [rj hx.key]
  simp only [Option.bind_some]
  unfold cT
  rw [bad_eq,bad_eq,bad_eq,ri]
  refine congrArg some (Prod.ext rfl ?_)
  dsimp only
  by_cases h1:Gf l x.Model < 0
  ·simp [h1]
  ·by_cases h2:x.aC < 1∨99999999 < x.aC
   ·simp [h1,h2]
   ·by_cases h3:tT x.Key=true
    ·simp [h1,h2,h3]
    ·simp [h1,h2,h3]
 rw [if_neg k1,if_neg k1,if_neg k1]
 by_cases k2:x.Kind=2
 ·rw [if_pos k2,if_pos k2,if_pos k2,uQ]
  simp only [Option.bind_some]
  unfold dE cT
  rw [bad_eq]
  refine congrArg some (Prod.ext rfl ?_)
  dsimp only
  by_cases h1:me x.aO=true
  ·simp [h1]
  ·simp [h1]
 rw [if_neg k2,if_neg k2,if_neg k2]
 by_cases k4:x.Kind=4
 ·rw [if_pos k4,if_pos k4,if_pos k4,rj hx.key]
  simp only [Option.bind_some]
  unfold eA dE cT
  rw [bad_eq,bad_eq,ri]
  refine congrArg some (Prod.ext rfl ?_)
  dsimp only
  by_cases h3:tT x.Key=true
  ·by_cases h2:x.bj < x.At∨345686400000 < x.bj
   ·simp [h2,h3]
   ·simp [h2,h3]
  ·simp [h3]
 rw [if_neg k4,if_neg k4,if_neg k4]
 by_cases k5:x.Kind=5
 ·rw [if_pos k5,if_pos k5,if_pos k5]
  unfold fC eA dE cT
  rw [bad_eq,Ff]
  refine congrArg some (Prod.ext rfl ?_)
  dsimp only
  by_cases h3:KS x.an=true
  ·simp [h3]
  ·simp [h3]
 rw [if_neg k5,if_neg k5,if_neg k5]
 by_cases k6:x.Kind=6
 ·rw [if_pos k6,if_pos k6,if_pos k6,uQ]
  simp only [Option.bind_some]
  unfold gW gV fC eA dE cT
  by_cases h1:(100:Int) < x.Value.length
  ·rw [if_pos h1,bad_eq,bad_eq]
   refine congrArg some (Prod.ext rfl ?_)
   dsimp only
   by_cases h3:me x.Name=true
   ·simp [h3];omega
   ·simp [h3]
  ·rw [if_neg h1,KQ _ (by have:=hx.val;omega)]
   simp only [Option.bind_some]
   rw [bad_eq,bad_eq]
   refine congrArg some (Prod.ext rfl ?_)
   dsimp only
   have Dy:x.Value.length≤100:=by omega
   by_cases h3:me x.Name=true
   ·by_cases h4:Dp x.Value=true
    ·simp [h3,h4,Dy]
    ·simp [h3,h4]
   ·simp [h3]
 rw [if_neg k6,if_neg k6,if_neg k6]
 rfl
theorem Pp (l:List Model) (x:ai) (hl:l.length≤1000) (hx:EB x):qV l x=some (BL l x):=by
 unfold qV BL
 have q0:mY=some 0:=rfl
 by_cases k1:x.Kind=1
 ·rw [if_pos k1,if_pos k1,KT l _ hl]
  simp only [Option.bind_some]
  by_cases h1:Gf l x.Model < 0
  ·rw [if_pos h1,if_pos h1]
  rw [if_neg h1,if_neg h1,pV]
  by_cases h2:x.aC < 1∨99999999 < x.aC
  ·rw [if_pos (by simp;omega),if_pos h2]
  rw [if_neg (by simp;omega),if_neg h2,tv hx.key]
  simp only [Option.bind_some]
  by_cases h3:tT x.Key=true
  ·rw [if_neg (by simp [h3]),if_pos h3];rfl
  ·rw [if_pos (by simp [h3]),if_neg h3]
 rw [if_neg k1,if_neg k1]
 by_cases k2:x.Kind=2
 ·rw [if_pos k2,if_pos k2,E5]
  rfl
 rw [if_neg k2,if_neg k2]
 by_cases k4:x.Kind=4
 ·rw [if_pos k4,if_pos k4,tv hx.key]
  simp only [Option.bind_some]
  by_cases h3:tT x.Key=true
  ·rw [if_neg (by simp [h3]),if_pos h3,pV]
   by_cases h2:x.bj < x.At∨345686400000 < x.bj
   ·rw [if_pos (by simp;omega),if_pos h2]
   ·rw [if_neg (by simp;omega),if_neg h2];rfl
  ·rw [if_pos (by simp [h3]),if_neg h3]
 rw [if_neg k4,if_neg k4]
 by_cases k5:x.Kind=5
 ·rw [if_pos k5,if_pos k5,Fe]
  by_cases h3:KS x.an=true
  ·rw [if_neg (by simp [h3]),if_pos h3];rfl
  ·rw [if_pos (by simp [h3]),if_neg h3]
 rw [if_neg k5,if_neg k5]
 by_cases k6:x.Kind=6
 ·rw [if_pos k6,if_pos k6,sQ]
  simp only [Option.bind_some]
  by_cases h3:me x.Name=true
  ·rw [if_neg (by simp [h3]),if_pos h3,IA _ (by have:=hx.val;omega)]
   simp only [Option.bind_some]
   unfold pa
   by_cases h4:Dp x.Value=true∧x.Value.length≤100
   ·rw [if_pos h4,if_neg (by simp [h4.1];omega)];rfl
   ·have h5:Dp x.Value=false∨(100:Int) < (x.Value.length:Int):=by
     rcases Bool.eq_false_or_eq_true (Dp x.Value) with q | q
     ·exact .inr (by have:¬ x.Value.length≤100:=fun g=>h4 ⟨q,g⟩;omega)
     ·exact .inl q
    rw [if_neg h4,if_pos (by simp only [Bool.or_eq_true,Bool.not_eq_true',decide_eq_true_eq];exact h5)]
  ·rw [if_pos (by simp [h3]),if_neg h3]
 rw [if_neg k6,if_neg k6]
 rfl
def mf (x:ai):List (ax×Bool):=[(([109]:ax),decide (x.Model≠([]:ax))),(([115]:ax),decide (x.aC≠(0:Int))),(([107]:ax),decide (x.Key≠([]:ax))),(([116]:ax),decide (x.aO≠([]:ax))),(([117]:ax),decide (x.bj≠(0:Int))),(([102]:ax),decide (x.an≠(⟨(0:Int),(0:Int),(0:Int)⟩:Version))),(([110]:ax),decide (x.Name≠([]:ax))),(([118]:ax),decide (x.Value≠([]:ax)))]
def vE (u:ax) (e:ax×Bool):Bool:=e.2&&!(decide (0≤Lib.indexByte u (e.1.headD 0)))
theorem Nc (u:ax) (e:ax×Bool) (c:UInt8) (he:e.1=[c]):gK u e=some (if vE u e=true then .inr 3 else .inl ()):=by
 unfold gK k9 vE strings_Contains
 rw [he]
 show (if e.2=true then ((some (Lib.indexByte u c)).bind _|>.bind _) else _)=_
 by_cases h:e.2=true
 ·rw [if_pos h]
  simp only [Option.bind_some,List.headD_cons,h,Bool.true_and]
  by_cases g:0≤Lib.indexByte u c
  ·simp [g]
  ·simp [g]
 ·rw [if_neg h]
  simp [h]
theorem Gg (x:ai) (u:ax):pK x u=some (if (mf x).any (vE u)=true then 3 else 0):=by
 unfold pK
 show tA (mf x) _=_
 have hs:∀ e∈mf x,∃ c,e.1=[c]:=by
  intro e he
  simp only [mf,List.mem_cons,List.not_mem_nil,or_false] at he
  rcases he with rfl | rfl | rfl | rfl | rfl | rfl | rfl | rfl<;>exact ⟨_,rfl⟩
 refine sO (fun e (_:Unit)=>gK u e) (fun _:Unit=>lf) (mf x) () _ (fun done _=>done.any (vE u)=false) rfl ?_ ?_
 ·intro done e rest s hp hi
  have he:e∈mf x:=hp.mem_iff.1 (by simp)
  obtain ⟨c,hc⟩:=hs e he
  rw [Nc u e c hc]
  by_cases h:vE u e=true
  ·right
   rw [if_pos h,if_pos (List.any_eq_true.2 ⟨e,he,h⟩)]
  ·left
   rw [if_neg h]
   refine ⟨(),rfl,?_⟩
   rw [List.any_append,hi]
   simpa using h
 ·intro p s hp hi
  have:(mf x).any (vE u)=false:=by
   rw [← hi,Bool.eq_iff_iff,List.any_eq_true,List.any_eq_true]
   exact ⟨fun ⟨e,h1,h2⟩=>⟨e,hp.mem_iff.2 h1,h2⟩,fun ⟨e,h1,h2⟩=>⟨e,hp.mem_iff.1 h1,h2⟩⟩
  rw [this]
  rfl
theorem Nd (x:ai) (h1:1≤x.Kind) (h2:x.Kind≤9):∃ u,rQ x.Kind=some u∧((mf x).any (vE u)=true↔pG x≠x):=by
 have hk:x.Kind=1∨x.Kind=2∨x.Kind=3∨x.Kind=4∨x.Kind=5∨x.Kind=6∨x.Kind=7∨x.Kind=8∨x.Kind=9:=by omega
 obtain ⟨a1,a2,a3,a4,a5,a6,a7,a8,a9,a10,a11,a12,a13,a14⟩:=x
 dsimp only at hk
 have t1:∀ c:UInt8,Lib.indexByte ([]:ax) c=-1:=fun c=>rfl
 rcases hk with rfl | rfl | rfl | rfl | rfl | rfl | rfl | rfl | rfl
 ·refine ⟨([109,115,107]:ax),rfl,?_⟩
  simp only [mf,vE,pG,List.any_cons,List.any_nil,List.headD_cons,show Lib.indexByte ([109,115,107]:ax) 109=0 by decide,show Lib.indexByte ([109,115,107]:ax) 115=1 by decide,show Lib.indexByte ([109,115,107]:ax) 107=2 by decide,show Lib.indexByte ([109,115,107]:ax) 116=-1 by decide,show Lib.indexByte ([109,115,107]:ax) 117=-1 by decide,show Lib.indexByte ([109,115,107]:ax) 102=-1 by decide,show Lib.indexByte ([109,115,107]:ax) 110=-1 by decide,show Lib.indexByte ([109,115,107]:ax) 118=-1 by decide]
  simp [ai.mk.injEq]
  try grind
 ·refine ⟨([116]:ax),rfl,?_⟩
  simp only [mf,vE,pG,List.any_cons,List.any_nil,List.headD_cons,show Lib.indexByte ([116]:ax) 109=-1 by decide,show Lib.indexByte ([116]:ax) 115=-1 by decide,show Lib.indexByte ([116]:ax) 107=-1 by decide,show Lib.indexByte ([116]:ax) 116=0 by decide,show Lib.indexByte ([116]:ax) 117=-1 by decide,show Lib.indexByte ([116]:ax) 102=-1 by decide,show Lib.indexByte ([116]:ax) 110=-1 by decide,show Lib.indexByte ([116]:ax) 118=-1 by decide]
  simp [ai.mk.injEq]
  try grind
 ·refine ⟨([]:ax),rfl,?_⟩
  simp only [mf,vE,pG,List.any_cons,List.any_nil,List.headD_cons,show Lib.indexByte ([]:ax) 109=-1 by decide,show Lib.indexByte ([]:ax) 115=-1 by decide,show Lib.indexByte ([]:ax) 107=-1 by decide,show Lib.indexByte ([]:ax) 116=-1 by decide,show Lib.indexByte ([]:ax) 117=-1 by decide,show Lib.indexByte ([]:ax) 102=-1 by decide,show Lib.indexByte ([]:ax) 110=-1 by decide,show Lib.indexByte ([]:ax) 118=-1 by decide]
  simp [ai.mk.injEq]
  try grind
 ·refine ⟨([107,117]:ax),rfl,?_⟩
  simp only [mf,vE,pG,List.any_cons,List.any_nil,List.headD_cons,show Lib.indexByte ([107,117]:ax) 109=-1 by decide,show Lib.indexByte ([107,117]:ax) 115=-1 by decide,show Lib.indexByte ([107,117]:ax) 107=0 by decide,show Lib.indexByte ([107,117]:ax) 116=-1 by decide,show Lib.indexByte ([107,117]:ax) 117=1 by decide,show Lib.indexByte ([107,117]:ax) 102=-1 by decide,show Lib.indexByte ([107,117]:ax) 110=-1 by decide,show Lib.indexByte ([107,117]:ax) 118=-1 by decide]
  simp [ai.mk.injEq]
  try grind
 ·refine ⟨([102]:ax),rfl,?_⟩
  simp only [mf,vE,pG,List.any_cons,List.any_nil,List.headD_cons,show Lib.indexByte ([102]:ax) 109=-1 by decide,show Lib.indexByte ([102]:ax) 115=-1 by decide,show Lib.indexByte ([102]:ax) 107=-1 by decide,show Lib.indexByte ([102]:ax) 116=-1 by decide,show Lib.indexByte ([102]:ax) 117=-1 by decide,show Lib.indexByte ([102]:ax) 102=0 by decide,show Lib.indexByte ([102]:ax) 110=-1 by decide,show Lib.indexByte ([102]:ax) 118=-1 by decide]
  simp [ai.mk.injEq]
  try grind
 ·refine ⟨([110,118]:ax),rfl,?_⟩
  simp only [mf,vE,pG,List.any_cons,List.any_nil,List.headD_cons,show Lib.indexByte ([110,118]:ax) 109=-1 by decide,show Lib.indexByte ([110,118]:ax) 115=-1 by decide,show Lib.indexByte ([110,118]:ax) 107=-1 by decide,show Lib.indexByte ([110,118]:ax) 116=-1 by decide,show Lib.indexByte ([110,118]:ax) 117=-1 by decide,show Lib.indexByte ([110,118]:ax) 102=-1 by decide,show Lib.indexByte ([110,118]:ax) 110=0 by decide,show Lib.indexByte ([110,118]:ax) 118=1 by decide]
  simp [ai.mk.injEq]
  try grind
 ·refine ⟨([]:ax),rfl,?_⟩
  simp only [mf,vE,pG,List.any_cons,List.any_nil,List.headD_cons,show Lib.indexByte ([]:ax) 109=-1 by decide,show Lib.indexByte ([]:ax) 115=-1 by decide,show Lib.indexByte ([]:ax) 107=-1 by decide,show Lib.indexByte ([]:ax) 116=-1 by decide,show Lib.indexByte ([]:ax) 117=-1 by decide,show Lib.indexByte ([]:ax) 102=-1 by decide,show Lib.indexByte ([]:ax) 110=-1 by decide,show Lib.indexByte ([]:ax) 118=-1 by decide]
  simp [ai.mk.injEq]
  try grind
 ·refine ⟨([]:ax),rfl,?_⟩
  simp only [mf,vE,pG,List.any_cons,List.any_nil,List.headD_cons,show Lib.indexByte ([]:ax) 109=-1 by decide,show Lib.indexByte ([]:ax) 115=-1 by decide,show Lib.indexByte ([]:ax) 107=-1 by decide,show Lib.indexByte ([]:ax) 116=-1 by decide,show Lib.indexByte ([]:ax) 117=-1 by decide,show Lib.indexByte ([]:ax) 102=-1 by decide,show Lib.indexByte ([]:ax) 110=-1 by decide,show Lib.indexByte ([]:ax) 118=-1 by decide]
  simp [ai.mk.injEq]
  try grind
 ·refine ⟨([]:ax),rfl,?_⟩
  simp only [mf,vE,pG,List.any_cons,List.any_nil,List.headD_cons,show Lib.indexByte ([]:ax) 109=-1 by decide,show Lib.indexByte ([]:ax) 115=-1 by decide,show Lib.indexByte ([]:ax) 107=-1 by decide,show Lib.indexByte ([]:ax) 116=-1 by decide,show Lib.indexByte ([]:ax) 117=-1 by decide,show Lib.indexByte ([]:ax) 102=-1 by decide,show Lib.indexByte ([]:ax) 110=-1 by decide,show Lib.indexByte ([]:ax) 118=-1 by decide]
  simp [ai.mk.injEq]
  try grind
def IB (l:List Model) (x:ai):Int:=
 if me x.iB=false then 5
 else if (x.No < 1∨3000 < x.No)∨(x.aW < x.No∨1000000000 < x.aW)∨(x.At < 0∨345686399999 < x.At) then 1
 else if x.Kind < 1∨9 < x.Kind then 4
 else if me x.Device=false then 5
 else if BL l x≠0 then BL l x
 else if pG x≠x then 3 else 0
theorem vS (l:List Model) (x:ai) (hl:l.length≤1000) (hx:EB x):ju l x=some (IB l x):=by
 unfold ju IB
 rw [uQ]
 simp only [Option.bind_some]
 by_cases h1:me x.iB=false
 ·rw [if_pos (by simp [h1]),if_pos h1]
 rw [if_neg (by simpa using h1),if_neg h1]
 unfold jt
 rw [ri,ri,Ip]
 by_cases h2:(x.No < 1∨3000 < x.No)∨(x.aW < x.No∨1000000000 < x.aW)∨(x.At < 0∨345686399999 < x.At)
 ·rw [if_pos (by simp only [Bool.or_eq_true,Bool.not_eq_true',Bool.and_eq_false_iff,decide_eq_true_eq,decide_eq_false_iff_not];omega),if_pos h2]
 rw [if_neg (by simp only [Bool.or_eq_true,Bool.not_eq_true',Bool.and_eq_false_iff,decide_eq_true_eq,decide_eq_false_iff_not];omega),if_neg h2,ri]
 by_cases h3:x.Kind < 1∨9 < x.Kind
 ·rw [if_pos (by simpa using h3),if_pos h3]
 rw [if_neg (by simpa using h3),if_neg h3,uQ]
 simp only [Option.bind_some]
 by_cases h4:me x.Device=false
 ·rw [if_pos (by simp [h4]),if_pos h4]
 rw [if_neg (by simpa using h4),if_neg h4,Dr l x hl hx]
 simp only [Option.bind_some]
 unfold js gy
 by_cases h5:BL l x=0
 ·rw [if_neg (show ¬ BL l x≠0 from fun g=>g h5)]
  by_cases h6:pG x=x
  ·rw [if_neg (show ¬ pG x≠x from fun g=>g h6),if_neg (by simp [h6]),h5]
  ·rw [if_pos (show pG x≠x from h6),if_pos (by simp [h5,h6])]
 ·rw [if_pos (show BL l x≠0 from h5),if_neg (by simp [h5])]
theorem BM (l:List Model) (x:ai) (hl:l.length≤1000) (hx:EB x):oc l x=some (IB l x):=by
 unfold oc IB
 rw [sQ]
 simp only [Option.bind_some]
 by_cases h1:me x.iB=false
 ·rw [if_pos (by simp [h1]),if_pos h1]
 rw [if_neg (by simpa using h1),if_neg h1]
 unfold nt
 rw [pV,pV,E4]
 by_cases h2:(x.No < 1∨3000 < x.No)∨(x.aW < x.No∨1000000000 < x.aW)∨(x.At < 0∨345686399999 < x.At)
 ·rw [if_pos h2,if_pos]
  simp only [Bool.or_eq_true,Bool.not_eq_true',Bool.and_eq_false_iff,decide_eq_true_eq,decide_eq_false_iff_not]
  rcases h2 with h | h | h
  ·exact .inl (by omega)
  ·exact .inr (.inl (by omega))
  ·exact .inr (.inr (by rw [if_neg (by omega)];decide))
 have I4:(1≤x.No∧x.No≤3000)∧(x.No≤x.aW∧x.aW≤1000000000)∧(0≤x.At∧x.At≤345686399999):=by omega
 rw [if_neg h2,if_neg (by rw [if_pos I4.2.2];simp [I4.1,I4.2.1]),pV]
 by_cases h3:x.Kind < 1∨9 < x.Kind
 ·rw [if_pos (by simp only [Bool.not_eq_true',Bool.and_eq_false_iff,decide_eq_false_iff_not];omega),if_pos h3]
 rw [if_neg (by simp only [Bool.not_eq_true',Bool.and_eq_false_iff,decide_eq_false_iff_not];omega),if_neg h3,sQ]
 simp only [Option.bind_some]
 by_cases h4:me x.Device=false
 ·rw [if_pos (by simp [h4]),if_pos h4]
 rw [if_neg (by simpa using h4),if_neg h4,Pp l x hl hx]
 simp only [Option.bind_some]
 by_cases h5:BL l x=0
 ·rw [if_neg (by simp [h5]),if_neg (by simp [h5])]
  obtain ⟨u,u1,u2⟩:=Nd x (by omega) (by omega)
  rw [u1]
  simp only [Option.bind_some]
  rw [Gg]
  by_cases h6:pG x=x
  ·rw [if_neg (by rw [u2];simp [h6]),if_neg (by simp [h6])]
  ·rw [if_pos (u2.2 h6),if_pos h6]
 ·rw [if_pos h5,if_pos h5]
theorem KU {l:List Model} {x:ai} (h:IB l x=0):me x.iB=true∧1≤x.No∧x.No≤3000∧x.No≤x.aW:=by
 unfold IB at h
 by_cases h1:me x.iB=false
 ·rw [if_pos h1] at h;exact absurd h (by decide)
 rw [if_neg h1] at h
 by_cases h2:(x.No < 1∨3000 < x.No)∨(x.aW < x.No∨1000000000 < x.aW)∨(x.At < 0∨345686399999 < x.At)
 ·rw [if_pos h2] at h;exact absurd h (by decide)
 exact ⟨by simpa using h1,by omega⟩
theorem xM {S A:Type} {f:S→Option (S⊕A)} {s s':S} (h:f s=some (.inl s')):iter f s=iter f s':=by
 rw [iter_eq,h];rfl
theorem uV {S A:Type} {f:S→Option (S⊕A)} {s:S} {o:Option A} (h:f s=Option.map .inr o):iter f s=o:=by
 rw [iter_eq,h]
 cases o<;>rfl
abbrev EL (l:List ai):Prop:=∀ x∈l,EB x
def eO (a b:ai):Int:=if Di a.aW b.aW≠0 then Di a.aW b.aW else if Lib.compareBytes a.iB b.iB≠0 then Lib.compareBytes a.iB b.iB else Di a.No b.No
theorem Wr:tP eO:=tP.lex (KD.on ai.aW) (tP.lex (mc.on ai.iB) (KD.on ai.No))
theorem A4 (a b:ai):lR a b=some (eO a b):=by
 unfold lR
 rw [show qR [(cmp_Compare_int a.aW b.aW),(Lib.compareBytes a.iB b.iB),(cmp_Compare_int a.No b.No)]=some (Dh [(cmp_Compare_int a.aW b.aW),(Lib.compareBytes a.iB b.iB),(cmp_Compare_int a.No b.No)]) from Ga _ (by simp)]
 rw [yT,yT]
 simp only [Option.bind_some]
 unfold eO
 show some (if _≠0 then _ else if _≠0 then _ else if _≠0 then _ else 0)=_
 by_cases h:Di a.No b.No≠0
 ·rw [if_pos h]
 ·rw [if_neg h,Decidable.not_not.1 h]
theorem KV (a b:ai):mi a b=some (eO a b):=A4 a b
theorem Ds (l:List Model) (hl:l.length≤1000) (e:List ai) (he:EL e):ei l e=jC l e:=by
 unfold ei jC
 by_cases h:(3000:Int) < e.length
 ·rw [if_pos h,if_pos h]
 rw [if_neg h,if_neg h]
 unfold mK sJ
 refine Iq (fun s=>?_) _
 show dF l e s.1 s.2=iI l e s.1 s.2
 unfold dF iI
 by_cases h1:s.2 < e.length
 ·rw [if_pos h1,if_pos h1]
  cases hx:idx e s.2 with
  | none=>rfl
  | some x=>
    simp only [Option.bind_some]
    have hb:=he x (dz hx)
    rw [vS l x hl hb,BM l x hl hb]
    rfl
 ·rw [if_neg h1,if_neg h1]
  rfl
structure LG (l:List Model) (e:List ai):Prop where
 len:e.length≤3000
 ok:∀ x∈e,IB l x=0
 up:e.Pairwise (fun a b=>a.iB=b.iB→a.No < b.No)
 cl:∀ (j:Int) y z,0 < j→idx e (j - 1)=some y→idx e j=some z→y.aW≤z.aW
structure LI (l:List Model) (e:List ai) (i:Int) (m:List (ax×Int)):Prop where
 ok:∀ x∈e.take i.toNat,IB l x=0
 up:(e.take i.toNat).Pairwise (fun a b=>a.iB=b.iB→a.No < b.No)
 last:∀ x∈e.take i.toNat,∃ n,bI m x.iB=some n∧x.No≤n
 ZR:∀ h n,bI m h=some n→0≤n∧n≤3000
 cl:∀ (j:Int) y z,0 < j→j < i→idx e (j - 1)=some y→idx e j=some z→y.aW≤z.aW
theorem KW {a b:ai} (h:eO a b < 0):a.aW≤b.aW:=by
 unfold eO Di at h
 by_cases q:a.aW≤b.aW
 ·exact q
 ·rw [if_neg (show ¬ a.aW < b.aW by omega),if_pos (show b.aW < a.aW by omega)] at h
  simp at h
theorem yV (l:List Model) (e:List ai) (x:ai) (m:List (ax×Int)) (i:Int) (hi:0≤i) (h2:i < e.length) (hl:e.length≤3000) (hx:idx e i=some x) (h0:IB l x=0) (hI:LI l e i m) (c:Bool) (xQ:c=false→∀ y,0 < i→idx e (i - 1)=some y→y.aW≤x.aW):
 Ok (fD m i x c) (fun r=>(∃ s':List (ax×Int),r=.inl (s',i+1)∧i < (e.length:Int)∧LI l e (i+1) s')∨∃ a,r=.inr a∧(a=0→LG l e)):=by
 unfold fD
 cases c with
 | true=>
   rw [if_pos rfl]
   exact ⟨.inr 7,rfl,.inr ⟨7,rfl,fun h=>absurd h (by decide)⟩⟩
 | false=>
   rw [if_neg (by simp)]
   unfold vJ
   simp only [Option.bind_some]
   have hr:0≤(bI m x.iB).getD 0∧(bI m x.iB).getD 0≤3000:=by
    cases hg:bI m x.iB with
    | none=>simp
    | some n=>exact hI.ZR _ _ hg
   rw [cG (by omega) (by omega),cG (by omega) (by omega)]
   by_cases c:x.No≠(bI m x.iB).getD 0+1
   ·rw [if_pos c]
    exact ⟨.inr 16,rfl,.inr ⟨16,rfl,fun h=>absurd h (by decide)⟩⟩
   ·rw [if_neg c]
    have c':x.No=(bI m x.iB).getD 0+1:=Decidable.not_not.1 c
    have hz:=KU h0
    have ht:=take_succ hi hx
    refine ⟨_,rfl,.inl ⟨_,rfl,h2,?_⟩⟩
    constructor
    ·intro y hy
     rw [ht,List.mem_append,List.mem_singleton] at hy
     rcases hy with hy | rfl
     ·exact hI.ok y hy
     ·exact h0
    ·rw [ht,List.pairwise_append]
     refine ⟨hI.up,List.pairwise_singleton _ _,fun a ha b hb zv=>?_⟩
     rw [List.mem_singleton] at hb
     subst hb
     obtain ⟨n,n1,n2⟩:=hI.last a ha
     rw [zv] at n1
     rw [n1] at c'
     simp only [Option.getD_some] at c'
     omega
    ·intro y hy
     rw [ht,List.mem_append,List.mem_singleton] at hy
     rw [lz]
     by_cases hh:x.iB=y.iB
     ·rw [if_pos hh]
      refine ⟨_,rfl,?_⟩
      rcases hy with hy | rfl
      ·obtain ⟨n,n1,n2⟩:=hI.last y hy
       rw [← hh] at n1
       rw [n1] at c'
       simp only [Option.getD_some] at c'
       omega
      ·omega
     ·rw [if_neg hh]
      rcases hy with hy | rfl
      ·exact hI.last y hy
      ·exact absurd rfl hh
    ·intro h n hn
     rw [lz] at hn
     by_cases hh:x.iB=h
     ·rw [if_pos hh,Option.some.injEq] at hn
      omega
     ·rw [if_neg hh] at hn
      exact hI.ZR h n hn
    ·intro j y z PM W1 hy hz
     by_cases q:j=i
     ·subst q
      rw [hx,Option.some.injEq] at hz
      subst hz
      exact xQ rfl y PM hy
     ·exact hI.cl j y z PM (by omega) hy hz
theorem xN (l:List Model) (hl:l.length≤1000) (e:List ai) (he:EL e):Ok (ei l e) (fun r=>r=0→LG l e):=by
 unfold ei
 by_cases h:(3000:Int) < e.length
 ·rw [if_pos h]
  exact ⟨2,rfl,fun g=>absurd g (by decide)⟩
 rw [if_neg h]
 unfold mK
 refine Ok.Pj e.length (fun (m:List (ax×Int)) (i:Int)=>(m,i)) (LI l e) (fun m i h0 h1 hI=>?_) [] ⟨by simp,by simp,by simp,fun h n hn=>(by cases hn),fun j y z h1 h2=>by omega⟩
 show Ok (dF l e m i) _
 unfold dF
 by_cases h2:i < e.length
 ·rw [if_pos h2]
  refine Ok.idx h0 h2 (fun x hx hm=>?_)
  rw [vS l x hl (he x hm)]
  simp only [Option.bind_some]
  by_cases h3:IB l x=0
  ·rw [if_neg (fun g=>g h3)]
   by_cases h4:0 < i
   ·rw [if_pos h4,cG (by omega) (by omega)]
    refine Ok.idx (by omega) (by omega) (fun y hy _=>?_)
    rw [A4]
    simp only [Option.bind_some]
    exact yV l e x m i h0 h2 (by omega) hx h3 hI _ (fun hc z _ hz=>by
     rw [hy,Option.some.injEq] at hz
     rw [← hz]
     have:¬ 0≤eO y x:=by simpa using hc
     exact KW (by omega))
   ·rw [if_neg h4]
    exact yV l e x m i h0 h2 (by omega) hx h3 hI _ (fun _ z hz=>absurd hz h4)
  ·rw [if_pos h3]
   exact ⟨.inr (IB l x),rfl,.inr ⟨_,rfl,fun g=>absurd g h3⟩⟩
 ·rw [if_neg h2]
  have hie:i=e.length:=by omega
  unfold mJ
  have hG:LG l e:=by
   have h1:=hI.ok
   have h2:=hI.up
   rw [List.take_of_length_le (by omega)] at h1 h2
   exact ⟨by omega,h1,h2,fun j y z g1 g2 g3=>hI.cl j y z g1 (by have:=(ep g3).2.1;omega) g2 g3⟩
  by_cases h3:(20:Int) < m.length
  ·rw [if_pos h3]
   exact ⟨.inr 2,rfl,.inr ⟨_,rfl,fun _=>hG⟩⟩
  ·rw [if_neg h3]
   exact ⟨.inr 0,rfl,.inr ⟨_,rfl,fun _=>hG⟩⟩
noncomputable def Cw (l:List Model) (e:List ai):Int:=(ei l e).getD 0
theorem yv (l:List Model) (hl:l.length≤1000) (e:List ai) (he:EL e):ei l e=some (Cw l e):=by
 obtain ⟨r,r1,r2⟩:=xN l hl e he
 unfold Cw
 rw [r1];rfl
theorem IC (l:List Model) (hl:l.length≤1000) (e:List ai) (he:EL e):jC l e=some (Cw l e):=by
 rw [← Ds l hl e he,yv l hl e he]
theorem Gh {l:List Model} (hl:l.length≤1000) {e:List ai} (he:EL e) (h:Cw l e=0):LG l e:=by
 obtain ⟨r,r1,r2⟩:=xN l hl e he
 have:=yv l hl e he
 rw [r1,Option.some.injEq] at this
 exact r2 (by omega)
noncomputable def rk (l:List Model) (e:List ai):Int:=if Lk l≠0 then Lk l else Cw l e
theorem rl (l:List Model) (hl:l.length≤1000) (hm:∀ m∈l,MB m) (e:List ai) (he:EL e):eS l e=some (rk l e):=by
 unfold eS rk
 rw [uS hm]
 simp only [Option.bind_some]
 by_cases h:Lk l≠0
 ·rw [if_pos h,if_pos h]
 ·rw [if_neg h,if_neg h,yv l hl e he]
  rfl
theorem vq {l:List Model} (hl:l.length≤1000) {e:List ai} (he:EL e) (h:rk l e=0):LG l e:=by
 unfold rk at h
 by_cases g:Lk l≠0
 ·rw [if_pos g] at h;exact absurd h g
 ·rw [if_neg g] at h;exact Gh hl he h
def yw (e:ai):aJ:=⟨⟨e.Device,e.Model,[],⟨0,0,0⟩,[]⟩,e.aC,1,[⟨e.Key,e.At,345686400000⟩]⟩
def N3 (F:aE) (e:ai):aE:=⟨ny F.bN e.Device (F.ew.length:Int),ny F.cr ⟨e.Model,e.aC⟩ true,ny F.dv e.Key e.Device,F.ew++[yw e]⟩
theorem FI.born {N:Nat} {F:aE} (h:FI N F) (e:ai) (hd:bI F.bN e.Device=none) (hk:bI F.dv e.Key=none):FI (N+1) (N3 F e):=by
 have Su:∀ (i:Int) (x:aJ),idx (F.ew++[yw e]) i=some x→(i=F.ew.length∧x=yw e)∨idx F.ew i=some x:=by
  intro i x hx
  obtain ⟨g0,g1,g2⟩:=ep hx
  by_cases q:i.toNat < F.ew.length
  ·right
   rw [List.getElem?_append_left q] at g2
   unfold idx
   rw [if_pos g0];exact g2
  ·left
   rw [List.getElem?_append_right (by omega)] at g2
   rw [List.length_append,List.length_singleton] at g1
   have:i.toNat - F.ew.length=0:=by omega
   rw [this] at g2
   simp at g2
   exact ⟨by omega,g2.symm⟩
 have hnk:∀ x∈F.ew,x.Device.Key≠e.Device:=fun x hx q=>by
  obtain ⟨j,_,hj⟩:=vp hx
  have:=h.to j x hj
  rw [q,hd] at this;cases this
 constructor
 ·show (F.ew++[yw e]).length≤_
  rw [List.length_append,List.length_singleton];have:=h.len;omega
 ·intro x hx
  rcases List.mem_append.1 hx with hx | hx
  ·have:=h.keys x hx;omega
  ·rw [List.mem_singleton] at hx;subst hx
   show 1≤1∧1≤N+1
   omega
 ·intro x hx
  rcases List.mem_append.1 hx with hx | hx
  ·exact h.tags x hx
  ·rw [List.mem_singleton] at hx;subst hx
   exact ⟨List.Pairwise.nil,by show 0≤20;omega⟩
 ·exact h.sm.set _ _
 ·intro k i hi
  have hi:bI (ny F.bN e.Device (F.ew.length:Int)) k=some i:=hi
  rw [lz] at hi
  by_cases q:e.Device=k
  ·rw [if_pos q,Option.some.injEq] at hi
   subst hi
   exact ⟨yw e,Ml _ _,q⟩
  ·rw [if_neg q] at hi
   obtain ⟨x,x1,x2⟩:=h.fr k i hi
   exact ⟨x,Mm x1 _,x2⟩
 ·intro i x hx
  show bI (ny F.bN e.Device (F.ew.length:Int)) _=_
  rw [lz]
  rcases Su i x hx with ⟨q1,q2⟩ | q
  ·rw [q2,if_pos (show e.Device=(yw e).Device.Key from rfl),q1]
  ·rw [if_neg (fun g=>hnk x (dz q) g.symm)]
   exact h.to i x q
 ·intro m n
  show (bI (ny F.cr ⟨e.Model,e.aC⟩ true) ⟨m,n⟩).getD false=(F.ew++[yw e]).any _
  rw [lz,List.any_append,← h.TL m n]
  by_cases q:(⟨e.Model,e.aC⟩:bE)=⟨m,n⟩
  ·rw [if_pos q]
   rw [bE.mk.injEq] at q
   simp [yw,q.1,q.2]
  ·rw [if_neg q]
   rw [bE.mk.injEq] at q
   have:(decide (e.Model=m)&&decide (e.aC=n))=false:=by
    rw [Bool.and_eq_false_iff,decide_eq_false_iff_not,decide_eq_false_iff_not]
    by_cases q1:e.Model=m
    ·exact .inr fun q2=>q ⟨q1,q2⟩
    ·exact .inl q1
   simp [yw,this]
 ·intro k d yx
  have yx:bI (ny F.dv e.Key e.Device) k=some d:=yx
  rw [lz] at yx
  by_cases q:e.Key=k
  ·rw [if_pos q,Option.some.injEq] at yx
   exact ⟨yw e,by show yw e∈F.ew++[yw e];simp,by show (1:Int)≠4;decide,q,yx⟩
  ·rw [if_neg q] at yx
   obtain ⟨x,x1,x2⟩:=h.la k d yx
   exact ⟨x,List.mem_append_left _ x1,x2⟩
 ·intro x hx hs
  show bI (ny F.dv e.Key e.Device) _=_
  rw [lz]
  rcases List.mem_append.1 hx with hx | hx
  ·have h1:=h.al x hx hs
   rw [if_neg (fun g=>by rw [g,h1] at hk;cases hk)]
   exact h1
  ·rw [List.mem_singleton] at hx;subst hx
   rw [if_pos (show e.Key=uU (yw e) from rfl)];rfl
theorem ID {N:Nat} {F:aE} (h:FI N F) (hN:N≤100000) (e:ai) (hd:bI F.bN e.Device=none):∃ r F',gz F e=some (r,F')∧tp F.bN e F.ew=some (r,F'.bN,F'.ew)∧FI (N+1) F':=by
 have Wp:∀ x∈F.bN,∃ z,idx F.ew x.2=some z∧z.Device.Key=x.1:=fun x hx=>h.fr x.1 x.2 ((h.sm.mF).2 hx)
 have N4:∀ R,(F.ew.any (fun x=>decide (x.Device.Model=e.Model)&&decide (x.aC=e.aC))=true→R=((6:Int),F.bN,F.ew))→(F.ew.any (fun x=>decide (x.Device.Model=e.Model)&&decide (x.aC=e.aC))=false→mz F.bN e F.ew=some R)→tp F.bN e F.ew=some R:=by
  intro R h1 h2
  unfold tp
  rw [hd]
  show yi F.bN e F.ew=_
  unfold yi
  refine sO (fun x (y:Unit)=>qB F.bN e F.ew x) (fun y:Unit=>mz F.bN e F.ew) F.bN () _ (fun done _=>∀ x∈done,∀ z,idx F.ew x.2=some z→(decide (z.Device.Model=e.Model)&&decide (z.aC=e.aC))=false) (fun x hx=>by cases hx) ?_ ?_
  ·intro done x rest s hp hi
   obtain ⟨z,z1,_⟩:=Wp x (hp.mem_iff.1 (by simp))
   unfold qB vj
   rw [z1]
   simp only [Option.bind_some]
   by_cases hq:(decide (z.Device.Model=e.Model)&&decide (z.aC=e.aC))=true
   ·right
    rw [if_pos hq,h1 (List.any_eq_true.2 ⟨z,dz z1,hq⟩)]
    rfl
   ·left
    rw [if_neg hq]
    refine ⟨(),rfl,fun x' TO z' Ws=>?_⟩
    rw [List.mem_append,List.mem_singleton] at TO
    rcases TO with TO | rfl
    ·exact hi x' TO z' Ws
    ·rw [z1,Option.some.injEq] at Ws
     rw [← Ws];simpa using hq
  ·intro p s hp hi
   refine h2 ?_
   rw [List.any_eq_false]
   intro z hz
   obtain ⟨j,_,hj⟩:=vp hz
   have:=hi (z.Device.Key,(j:Int)) (hp.mem_iff.2 ((h.sm.mF).1 (h.to j z hj))) z hj
   rw [this];simp
 unfold gz vJ B6
 simp only [Option.bind_some]
 rw [h.TL]
 by_cases hs:F.ew.any (fun x=>decide (x.Device.Model=e.Model)&&decide (x.aC=e.aC))=true
 ·rw [if_pos hs]
  exact ⟨6,F,rfl,N4 _ (fun _=>rfl) (fun q=>by rw [hs] at q;cases q),h.more⟩
 rw [if_neg hs]
 have xH:F.ew.any (fun x=>decide (x.Device.Model=e.Model)&&decide (x.aC=e.aC))=false:=by simpa using hs
 have hf:∀ R,mz F.bN e F.ew=some R→tp F.bN e F.ew=some R:=fun R hR=>N4 R (fun q=>absurd q hs) (fun _=>hR)
 by_cases hk:(bI F.dv e.Key).isSome=true
 ·rw [if_pos hk]
  refine ⟨13,F,rfl,hf _ ?_,h.more⟩
  unfold mz
  rw [A2 h hN]
  simp only [Option.bind_some]
  rw [if_pos hk]
 ·rw [if_neg hk,Hl h]
  simp only [Option.bind_some]
  refine ⟨0,N3 F e,rfl,hf _ ?_,h.born e hd (by simpa using hk)⟩
  unfold mz
  rw [A2 h hN]
  simp only [Option.bind_some]
  rw [if_neg hk,Hl h]
  rfl
theorem Gi {α:Type} {l:List α} {i:Int} {x:α} (h:idx l i=some x):l.set i.toNat x=l:=by
 obtain ⟨h0,h1,h2⟩:=ep h
 rw [List.getElem?_eq_some_iff] at h2
 obtain ⟨h3,h4⟩:=h2
 rw [← h4,List.set_getElem_self]
def Nf (N:Nat) (F:aE) (a:Option (Int×aE)) (b:Option (Int×(List (ax×Int))×(List aJ))):Prop:=
 ∃ (r:Int) (F':aE),a=some (r,F')∧b=some (r,F'.bN,F'.ew)∧FI (N+1) F'
theorem Hn (L:List Term) (fn:Term→Option Bool) (p:Term→Bool) (hf:∀ x,fn x=some (p x)) (hl:L.length≤1000000):bX L fn=some (L.any p):=
 o0 L fn p (fun x _=>hf x) (by omega)
theorem Gj {N:Nat} {F:aE} (h:FI N F) (hN:N≤100000) (e:ai) {i:Int} {x:aJ} (hx:idx F.ew i=some x) (hs:x.State≠4) (hd:x.Device.Key=e.Device):
 Nf N F ((gX F x e).bind fun v6=>some (v6.1,(⟨F.bN,F.cr,v6.2.1.dv,F.ew.set i.toNat v6.2.2⟩:aE))) ((uD F.bN i e F.ew).bind fun v17=>some (v17.1,F.bN,v17.2)):=by
 have Bd:=dz hx
 have hk:=h.keys x Bd
 obtain ⟨A,t,t1,t2,t3,t4,t5⟩:=yu x hk.1 (by omega)
 have qK:(⟨F.bN,F.cr,F.dv,F.ew.set i.toNat x⟩:aE)=F:=by rw [Gi hx]
 unfold gX uD
 rw [hx]
 simp only [Option.bind_some]
 rw [t4]
 simp only [Option.bind_some]
 by_cases h3:x.State=3
 ·rw [if_pos h3,if_pos h3]
  exact ⟨11,F,congrArg some (Prod.ext rfl qK),rfl,h.more⟩
 rw [if_neg h3,if_neg h3,Hn x.aV (fun y0=>some (iq y0 e)) (fun y=>decide (y.Key=e.Key)) (fun y=>rfl) (by omega),Hn x.aV (fun y0=>some (rR y0 e)) (fun y=>decide (y.Key=e.Key)) (fun y=>rfl) (by omega)]
 simp only [Option.bind_some]
 by_cases h4:x.aV.any (fun y=>decide (y.Key=e.Key))=true
 ·rw [if_pos h4,if_pos h4]
  exact ⟨6,F,congrArg some (Prod.ext rfl qK),rfl,h.more⟩
 rw [if_neg h4,if_neg h4,A2 h hN]
 unfold B6
 simp only [Option.bind_some]
 by_cases h5:(bI F.dv e.Key).isSome=true
 ·rw [if_pos h5,if_pos h5]
  exact ⟨13,F,congrArg some (Prod.ext rfl qK),rfl,h.more⟩
 rw [if_neg h5,if_neg h5]
 by_cases h6:e.At < t.fE
 ·rw [if_pos h6,if_pos h6]
  exact ⟨7,F,congrArg some (Prod.ext rfl qK),rfl,h.more⟩
 rw [if_neg h6,if_neg h6,rb (by simp;omega)]
 simp only [Option.bind_some]
 have G3:bI F.dv e.Key=none:=by simpa using h5
 refine ⟨0,_,rfl,?_,?_⟩
 ·simp only [List.set_set]
 ·have GL:uU (⟨x.Device,x.aC,x.State,x.aV.set (aZ ((x.aV.length:Int) - (1:Int))).toNat (⟨t.Key,t.fE,min t.To e.bj⟩:Term)++[(⟨e.Key,e.At,(345686400000:Int)⟩:Term)]⟩:aJ)=e.Key:=Iy _ (x.aV.set (aZ ((x.aV.length:Int) - (1:Int))).toNat (⟨t.Key,t.fE,min t.To e.bj⟩:Term)) (⟨e.Key,e.At,(345686400000:Int)⟩:Term) rfl
  refine h.LC (x':=(⟨x.Device,x.aC,x.State,x.aV.set (aZ ((x.aV.length:Int) - (1:Int))).toNat (⟨t.Key,t.fE,min t.To e.bj⟩:Term)++[(⟨e.Key,e.At,(345686400000:Int)⟩:Term)]⟩:aJ)) hx hs rfl rfl rfl (h.tags x Bd) ?_ ?_ ?_ ?_
  ·simp only [List.length_append,List.length_set,List.length_singleton];omega
  ·intro k d yx
   rw [lz] at yx
   rw [GL]
   by_cases q:e.Key=k
   ·rw [if_pos q,Option.some.injEq] at yx
    exact .inl ⟨q.symm,hs,by rw [← yx];exact hd.symm⟩
   ·rw [if_neg q,o3] at yx
    by_cases q2:t.Key=k
    ·rw [if_pos q2] at yx;cases yx
    ·rw [if_neg q2] at yx
     exact .inr ⟨fun g=>q2 (by rw [t2];exact g.symm),yx⟩
  ·intro _
   rw [GL,lz,if_pos rfl]
   exact congrArg some hd.symm
  ·intro k d Wt yx
   rw [lz,if_neg (fun q=>by rw [q,yx] at G3;cases G3),o3,if_neg (fun q=>Wt (by rw [← q,t2]))]
   exact yx
def tH (e:ai) (t:Term):Term:=⟨t.Key,t.fE,min t.To (max t.fE e.At)⟩
def zq (e:ai) (ks:List Term) (n:Nat):List Term:=(ks.take n).map (tH e)++ks.drop n
theorem Fg (e:ai) (ks:List Term) (n:Nat) (h:n < ks.length):idx (zq e ks n) (n:Int)=some ks[n]:=by
 unfold idx zq
 rw [if_pos (by omega),Int.toNat_natCast,List.getElem?_append_right (by simp;omega)]
 simp only [List.length_map,List.length_take]
 rw [show n - min n ks.length=0 by omega,List.getElem?_drop,Nat.add_zero,List.getElem?_eq_getElem h]
theorem Fh (e:ai) (ks:List Term) (n:Nat) (h:n < ks.length):(zq e ks n).set n (tH e ks[n])=zq e ks (n+1):=by
 unfold zq
 have hl:((ks.take n).map (tH e)).length=n:=by simp;omega
 rw [List.set_append_right _ _ (by omega),hl,Nat.sub_self,List.drop_eq_getElem_cons h,List.set_cons_zero,List.take_add_one,List.getElem?_eq_getElem h,List.map_append]
 simp only [Option.toList_some,List.map_cons,List.map_nil,List.append_assoc,List.singleton_append]
theorem Dt {α:Type} {l:List α} {i:Int} {x y:α} (h:idx l i=some x):idx (l.set i.toNat y) i=some y:=by
 obtain ⟨h0,h1,h2⟩:=ep h
 unfold idx
 rw [if_pos h0,List.getElem?_set,if_pos rfl,if_pos (by omega)]
theorem Gk {F:aE} (e:ai) {i:Int} {x:aJ} (hx:idx F.ew i=some x) (hl:x.aV.length≤1000000) (t:Term):gY F e i x t F.ew 0=some (0,⟨F.bN,F.cr,qg F.dv t.Key,F.ew.set i.toNat ⟨x.Device,x.aC,4,x.aV.map (tH e)⟩⟩):=by
 have key:∀ (k n:Nat),n+k=x.aV.length→gY F e i x t (F.ew.set i.toNat ⟨x.Device,x.aC,x.State,zq e x.aV n⟩) (n:Int)=some (0,⟨F.bN,F.cr,qg F.dv t.Key,F.ew.set i.toNat ⟨x.Device,x.aC,4,x.aV.map (tH e)⟩⟩):=by
  intro k
  induction k with
  | zero=>
    intro n hn
    unfold gY
    refine uV (o:=some _) ?_
    show dG F e i x t _ (n:Int)=_
    unfold dG mL
    rw [if_neg (by omega),Dt hx]
    simp only [Option.bind_some,List.set_set]
    have:zq e x.aV n=x.aV.map (tH e):=by
     unfold zq
     rw [List.take_of_length_le (by omega),List.drop_eq_nil_of_le (by omega),List.append_nil]
    rw [this]
  | succ k ih=>
    intro n hn
    rw [← ih (n+1) (by omega)]
    unfold gY
    refine xM ?_
    show dG F e i x t _ (n:Int)=_
    unfold dG
    rw [if_pos (by omega),Dt hx]
    simp only [Option.bind_some,List.set_set]
    rw [Fg e x.aV n (by omega)]
    simp only [Option.bind_some]
    rw [cG (by omega) (by omega)]
    have:=Fh e x.aV n (by omega)
    unfold tH at this
    rw [Int.toNat_natCast,this]
    rfl
 have:=key x.aV.length 0 (by omega)
 have h0:F.ew.set i.toNat ⟨x.Device,x.aC,x.State,zq e x.aV 0⟩=F.ew:=Gi hx
 rw [h0] at this
 exact this
theorem Gl {F:aE} (e:ai) {i:Int} {x:aJ} (hx:idx F.ew i=some x) (hl:x.aV.length≤1000000):pB F.bN e i x (F.ew.set i.toNat ⟨x.Device,x.aC,4,x.aV⟩) 0=some (0,F.bN,F.ew.set i.toNat ⟨x.Device,x.aC,4,x.aV.map (tH e)⟩):=by
 have key:∀ (k n:Nat),n+k=x.aV.length→pB F.bN e i x (F.ew.set i.toNat ⟨x.Device,x.aC,4,zq e x.aV n⟩) (n:Int)=some (0,F.bN,F.ew.set i.toNat ⟨x.Device,x.aC,4,x.aV.map (tH e)⟩):=by
  intro k
  induction k with
  | zero=>
    intro n hn
    unfold pB
    refine uV (o:=some _) ?_
    show kh F.bN e i x _ (n:Int)=_
    unfold kh lZ lY lX lW lV
    rw [if_neg (by omega)]
    have:zq e x.aV n=x.aV.map (tH e):=by
     unfold zq
     rw [List.take_of_length_le (by omega),List.drop_eq_nil_of_le (by omega),List.append_nil]
    rw [this]
  | succ k ih=>
    intro n hn
    rw [← ih (n+1) (by omega)]
    unfold pB
    refine xM ?_
    show kh F.bN e i x _ (n:Int)=_
    unfold kh
    rw [if_pos (by omega),Dt hx]
    simp only [Option.bind_some,List.set_set]
    rw [Fg e x.aV n (by omega)]
    simp only [Option.bind_some]
    rw [cG (by omega) (by omega)]
    have:=Fh e x.aV n (by omega)
    unfold tH at this
    rw [Int.toNat_natCast,this]
    rfl
 exact key x.aV.length 0 (by omega)
theorem Du {N:Nat} {F:aE} (h:FI N F) (e:ai) {i:Int} {x:aJ} (hx:idx F.ew i=some x) (hs:x.State≠4) (hk:e.Kind=2∨e.Kind=3∨e.Kind=5∨e.Kind=7∨e.Kind=8):
 ∃ (r:Int) (x':aJ),jB x e=(r,x')∧x'.State≠4∧x'.Device.Key=x.Device.Key∧x'.Device.Model=x.Device.Model∧x'.aC=x.aC∧(TS x'.Device.bl∧x'.Device.bl.length≤20)∧x'.aV=x.aV∧
   ((if e.Kind=(2:Int) then
    if x.State≠(1:Int) then
     some ((11:Int),F.bN,F.ew)
    else
     lV F.bN (F.ew.set i.toNat (⟨(⟨x.Device.Key,x.Device.Model,e.aO,x.Device.an,x.Device.bl⟩:cL),x.aC,(2:Int),x.aV⟩:aJ))
     else
      if e.Kind=(3:Int) then
       if x.Device.aO=([]:ax) then
        some ((11:Int),F.bN,F.ew)
       else
        lW F.bN (F.ew.set i.toNat (⟨(⟨x.Device.Key,x.Device.Model,([]:ax),x.Device.an,[]⟩:cL),x.aC,(1:Int),x.aV⟩:aJ))
      else
       if e.Kind=(5:Int) then
        if x.Device.an=e.an then
         some ((6:Int),F.bN,F.ew)
        else
         lX F.bN (F.ew.set i.toNat (⟨(⟨x.Device.Key,x.Device.Model,x.Device.aO,e.an,x.Device.bl⟩:cL),x.aC,x.State,x.aV⟩:aJ))
       else
        if e.Kind=(7:Int) then
         if x.State≠(2:Int) then
          some ((11:Int),F.bN,F.ew)
         else
          lY F.bN (F.ew.set i.toNat (⟨x.Device,x.aC,(3:Int),x.aV⟩:aJ))
        else
         if x.State≠(3:Int) then
          some ((11:Int),F.bN,F.ew)
         else
          lZ F.bN (F.ew.set i.toNat (⟨x.Device,x.aC,(2:Int),x.aV⟩:aJ)))=some (r,F.bN,F.ew.set i.toNat x')):=by
 have ht:=h.tags x (dz hx)
 unfold jB jX jW jV jU jT lZ lY lX lW lV
 have oR:=Gi hx
 rcases hk with hk | hk | hk | hk | hk<;>simp only [hk,if_true,show ((3:Int)=2)=False by simp,show ((5:Int)=2)=False by simp,show ((5:Int)=3)=False by simp,show ((7:Int)=2)=False by simp,show ((7:Int)=3)=False by simp,show ((7:Int)=5)=False by simp,show ((8:Int)=2)=False by simp,show ((8:Int)=3)=False by simp,show ((8:Int)=5)=False by simp,show ((8:Int)=7)=False by simp,if_false]
 ·by_cases c:x.State≠1
  ·rw [if_pos c,if_pos c]
   exact ⟨11,x,rfl,hs,rfl,rfl,rfl,ht,rfl,by rw [oR]⟩
  ·rw [if_neg c,if_neg c]
   exact ⟨0,_,rfl,by simp,rfl,rfl,rfl,ht,rfl,rfl⟩
 ·by_cases c:x.Device.aO=([]:ax)
  ·rw [if_pos c,if_pos c]
   exact ⟨11,x,rfl,hs,rfl,rfl,rfl,ht,rfl,by rw [oR]⟩
  ·rw [if_neg c,if_neg c]
   exact ⟨0,_,rfl,by simp,rfl,rfl,rfl,⟨List.Pairwise.nil,by simp⟩,rfl,rfl⟩
 ·by_cases c:x.Device.an=e.an
  ·rw [if_pos c,if_pos c]
   exact ⟨6,x,rfl,hs,rfl,rfl,rfl,ht,rfl,by rw [oR]⟩
  ·rw [if_neg c,if_neg c]
   exact ⟨0,_,rfl,hs,rfl,rfl,rfl,ht,rfl,rfl⟩
 ·by_cases c:x.State≠2
  ·rw [if_pos c,if_pos c]
   exact ⟨11,x,rfl,hs,rfl,rfl,rfl,ht,rfl,by rw [oR]⟩
  ·rw [if_neg c,if_neg c]
   exact ⟨0,_,rfl,by simp,rfl,rfl,rfl,ht,rfl,rfl⟩
 ·by_cases c:x.State≠3
  ·rw [if_pos c,if_pos c]
   exact ⟨11,x,rfl,hs,rfl,rfl,rfl,ht,rfl,by rw [oR]⟩
  ·rw [if_neg c,if_neg c]
   exact ⟨0,_,rfl,by simp,rfl,rfl,rfl,ht,rfl,rfl⟩
theorem IE {N:Nat} {F:aE} (h:FI N F) (hN:N≤100000) (e:ai) (hk:1≤e.Kind∧e.Kind≤9):Nf N F (fZ F e) (sK F.bN e F.ew):=by
 unfold fZ sK
 cases hd:bI F.bN e.Device with
 | none=>
   show Nf N F (if e.Kind=1 then _ else _) (if e.Kind=1 then _ else _)
   by_cases c:e.Kind=1
   ·rw [if_pos c,if_pos c]
    obtain ⟨r,F',b1,b2,b3⟩:=ID h hN e hd
    rw [b1,b2]
    exact ⟨r,F',rfl,rfl,b3⟩
   ·rw [if_neg c,if_neg c]
    exact ⟨8,F,rfl,rfl,h.more⟩
 | some i=>
   obtain ⟨x,hx,hxd⟩:=h.fr _ _ hd
   have Bd:=dz hx
   have GK:=h.keys x Bd
   show Nf N F (if e.Kind=1 then _ else _) (if e.Kind=1 then _ else _)
   by_cases c:e.Kind=1
   ·rw [if_pos c,if_pos c,hx]
    refine ⟨6,F,rfl,?_,h.more⟩
    unfold tp
    rw [hd];rfl
   rw [if_neg c,if_neg c,hx]
   simp only [Option.bind_some]
   by_cases hs:x.State=4
   ·rw [if_pos hs,if_pos hs]
    exact ⟨11,F,rfl,rfl,h.more⟩
   rw [if_neg hs,if_neg hs]
   by_cases c4:e.Kind=4
   ·rw [if_pos c4,if_neg (by omega),if_neg (by omega),if_pos c4]
    exact Gj h hN e hx hs hxd
   rw [if_neg c4]
   by_cases c6:e.Kind=6
   ·rw [if_pos c6,if_neg (by omega),if_neg (by omega),if_neg c4,if_neg (by omega),if_pos c6]
    obtain ⟨r,T,t1,t2,t3,t4⟩:=Fc x e (h.tags x Bd).1 (h.tags x Bd).2
    rw [t1,t2]
    exact ⟨r,_,rfl,rfl,h.Ss hx hs (x':=xK x T) hs rfl rfl rfl ⟨t3,t4⟩ rfl⟩
   rw [if_neg c6]
   by_cases c9:e.Kind=9
   ·rw [if_pos c9,if_neg (by omega),if_neg (by omega),if_neg c4,if_neg (by omega),if_neg c6,if_neg (by omega),if_neg (by omega)]
    obtain ⟨A,t,t1,t2,t3,t4,t5⟩:=yu x GK.1 (by omega)
    rw [t4]
    simp only [Option.bind_some]
    rw [Gk e hx (by omega) t,Gl e hx (by omega)]
    refine ⟨0,_,rfl,rfl,h.LC (x':=(⟨x.Device,x.aC,4,x.aV.map (tH e)⟩:aJ)) hx hs rfl rfl rfl (h.tags x Bd) (by simp only [List.length_map];omega) (fun k d yx=>?_) (fun q=>absurd rfl q) (fun k d Wt yx=>?_)⟩
    ·rw [o3] at yx
     by_cases q:t.Key=k
     ·rw [if_pos q] at yx;cases yx
     ·rw [if_neg q] at yx
      exact .inr ⟨fun g=>q (by rw [t2];exact g.symm),yx⟩
    ·rw [o3,if_neg (fun q=>Wt (by rw [← q,t2]))]
     exact yx
   rw [if_neg c9,if_neg c4,if_neg c6]
   obtain ⟨r,x',g1,g2,g3,g4,g5,g6,g7,g8⟩:=Du h e hx hs (by omega)
   rw [g1]
   refine ⟨r,_,rfl,?_,h.Ss hx hs (x':=x') g2 g3 g4 g5 g6 g7⟩
   rw [← g8]
   by_cases c2:e.Kind=2
   ·rw [if_pos c2,if_pos c2]
   ·rw [if_neg c2,if_neg c2]
    by_cases c3:e.Kind=3
    ·rw [if_pos c3,if_pos c3]
    ·rw [if_neg c3,if_neg c3]
     by_cases c5:e.Kind=5
     ·rw [if_pos c5,if_pos c5]
     ·rw [if_neg c5,if_neg c5]
      by_cases c7:e.Kind=7
      ·rw [if_pos c7,if_pos c7]
      ·rw [if_neg c7,if_neg c7,if_pos (by omega)]
noncomputable def nI (F:aE) (e:ai):Int×aE:=(fZ F e).getD (0,F)
theorem Fi {N:Nat} {F:aE} (h:FI N F) (hN:N≤100000) (e:ai) (hk:1≤e.Kind∧e.Kind≤9):fZ F e=some (nI F e)∧sK F.bN e F.ew=some ((nI F e).1,(nI F e).2.bN,(nI F e).2.ew)∧FI (N+1) (nI F e).2:=by
 obtain ⟨r,F',h1,h2,h3⟩:=IE h hN e hk
 have:nI F e=(r,F'):=by unfold nI;rw [h1];rfl
 rw [this]
 exact ⟨h1,h2,h3⟩
noncomputable def KX (F:aE) (rs:List bO) (i:Int):List ai→aE×List bO
 | []=>(F,rs)
 | x :: r=>KX (nI F x).2 (if (nI F x).1≠0 then rs++[⟨i,(nI F x).1⟩] else rs) (i+1) r
abbrev qp (l:List ai):Prop:=∀ x∈l,1≤x.Kind∧x.Kind≤9
theorem KY:∀ (t:List ai) (N:Nat) (F:aE) (rs:List bO) (i:Int),FI N F→N+t.length≤100000→qp t→(∀ r∈rs,r.Event < i)→FI (N+t.length) (KX F rs i t).1∧(∀ r∈(KX F rs i t).2,r.Event < i+t.length)∧(KX F rs i t).2.length≤rs.length+t.length
 | [],N,F,rs,i,h,_,_,hr=>⟨h,by simpa [KX] using hr,by simp [KX]⟩
 | x :: t,N,F,rs,i,h,hN,hk,hr=>by
   rw [List.length_cons] at hN
   obtain ⟨_,_,h3⟩:=Fi h (by omega) x (hk x (by simp))
   have:=KY t (N+1) (nI F x).2 (if (nI F x).1≠0 then rs++[⟨i,(nI F x).1⟩] else rs) (i+1) h3 (by omega) (fun y hy=>hk y (by simp [hy])) (fun r LO=>by
    split at LO
    ·rcases List.mem_append.1 LO with g | g
     ·have:=hr r g;omega
     ·rw [List.mem_singleton] at g;subst g;show i < i+1;omega
    ·have:=hr r LO;omega)
   obtain ⟨a1,a2,a3⟩:=this
   refine ⟨by rw [List.length_cons,show N+(t.length+1)=N+1+t.length by omega];exact a1,fun r LO=>?_,?_⟩
   ·have:=a2 r LO
    rw [List.length_cons];push_cast;omega
   ·refine Nat.le_trans a3 ?_
    rw [List.length_cons]
    split
    ·rw [List.length_append,List.length_singleton];omega
    ·omega
theorem Fj (l:List ai) (hl:l.length≤90000) (hk:qp l):∀ (k:Nat) (i:Nat) (N:Nat) (F:aE) (rs:List bO),i+k=l.length→FI N F→N≤i→rs.length≤i→
 mo l F.bN F.ew F.cr F.dv rs i=some (KX F rs i (l.drop i))∧pb l F.ew F.bN rs i=some (((KX F rs i (l.drop i)).1.bN,(KX F rs i (l.drop i)).1.ew),(KX F rs i (l.drop i)).2):=by
 intro k
 induction k with
 | zero=>
   intro i N F rs hi hF _ _
   rw [List.drop_eq_nil_of_le (by omega)]
   constructor
   ·unfold mo
    refine uV (o:=some _) ?_
    show eZ l F.bN F.ew F.cr F.dv rs i=_
    unfold eZ
    rw [if_neg (by omega)]
    rfl
   ·unfold pb
    refine uV (o:=some _) ?_
    show iy l F.ew F.bN rs i=_
    unfold iy
    rw [if_neg (by omega)]
    rfl
 | succ k ih=>
   intro i N F rs hi hF hN hr
   obtain ⟨x,x1,x2,x3⟩:=lC l (i:=(i:Int)) (by omega) (by omega)
   rw [show ((i:Int)).toNat=i by omega,show ((i:Int)+1).toNat=i+1 by omega] at x3
   rw [x3]
   obtain ⟨g1,g2,g3⟩:=Fi hF (by omega) x (hk x x2)
   have SF:(if (nI F x).1≠0 then rs++[(⟨(i:Int),(nI F x).1⟩:bO)] else rs).length≤i+1:=by
    split
    ·rw [List.length_append,List.length_singleton];omega
    ·omega
   obtain ⟨i1,i2⟩:=ih (i+1) (N+1) (nI F x).2 (if (nI F x).1≠0 then rs++[(⟨(i:Int),(nI F x).1⟩:bO)] else rs) (by omega) g3 (by omega) SF
   rw [show ((i+1:Nat):Int)=(i:Int)+1 by omega] at i1 i2
   constructor
   ·refine Eq.trans ?_ i1
    unfold mo
    refine xM ?_
    show eZ l F.bN F.ew F.cr F.dv rs i=_
    unfold eZ jY
    rw [if_pos (by omega),x1]
    simp only [Option.bind_some]
    rw [show (⟨F.bN,F.cr,F.dv,F.ew⟩:aE)=F from rfl,g1]
    simp only [Option.bind_some]
    rw [cG (by omega) (by omega)]
    by_cases c:(nI F x).1≠0
    ·rw [if_pos c,if_pos c,rb (by simp;omega)];rfl
    ·rw [if_neg c,if_neg c]
   ·refine Eq.trans ?_ i2
    unfold pb
    refine xM ?_
    show iy l F.ew F.bN rs i=_
    unfold iy mZ
    rw [if_pos (by omega),x1]
    simp only [Option.bind_some]
    rw [g2]
    simp only [Option.bind_some]
    rw [cG (by omega) (by omega)]
    by_cases c:(nI F x).1≠0
    ·rw [if_pos c,if_pos c,rb (by simp;omega)];rfl
    ·rw [if_neg c,if_neg c]
noncomputable def fw (l:List ai):aE×List bO:=KX ⟨[],[],[],[]⟩ [] 0 l
theorem pH (l:List ai) (hl:l.length≤90000) (hk:qp l):lp l=some (fw l)∧qY l=some (((fw l).1.bN,(fw l).1.ew),(fw l).2):=by
 have:=Fj l hl hk l.length 0 0 ⟨[],[],[],[]⟩ [] (by omega) FI.start (Nat.le_refl _) (by simp)
 rw [List.drop_zero] at this
 exact this
theorem A5 (l:List ai) (hl:l.length≤90000) (hk:qp l):FI l.length (fw l).1∧(∀ r∈(fw l).2,r.Event < l.length)∧(fw l).2.length≤l.length:=by
 obtain ⟨a,b,c⟩:=KY l 0 ⟨[],[],[],[]⟩ [] 0 FI.start (by omega) hk (by simp)
 unfold fw
 exact ⟨by simpa using a,fun r hr=>by have:=b r hr;omega,by simpa using c⟩
theorem Fk (f:ai→ai→Option Int) (xs:List ai) (hl:(xs.length:Int)≤20) (hf:∀ x∈xs,∀ y∈xs,f x y=some (eO x y)):∃ Z,lF xs.length (fun r:List ai=>r.length) (cA xs f)=some Z∧Z.Perm xs∧Gb eO Z:=by
 obtain ⟨Z,h1,h2,h3⟩:=M1 f eO xs (by omega) hf (Wr.ord xs)
 have Dy:bJ xs 0 xs.length f=some Z:=h1
 have hlen:=h2.length_eq
 refine ⟨Z,?_,h2,h3⟩
 have hs:dZ xs xs.length f=some Z:=by
  unfold dZ kf
  by_cases TK:(xs.length:Int)=20
  ·rw [iter_eq,bW,if_pos (by simp only;omega)]
   simp only
   rw [TK] at Dy ⊢
   rw [wJ Dy hlen]
   simp only [Option.bind_some,jf]
   rw [iter_eq,bW,show aZ (20+20)=40 from rfl,if_neg (by simp),ec]
   unfold eF
   have I4:bJ Z 20 20 f=some Z:=by
    unfold bJ gU
    rw [iter_eq,ct,show aZ (20+1)=21 from rfl,if_neg (by simp),ec]
   simp only
   rw [wJ I4 rfl]
   simp only [Option.bind_some]
   unfold gw
   rw [iter_eq,cz,if_neg (by simp),ec]
  ·rw [iter_eq,bW,if_neg (by simp only;omega),ec]
   unfold eF
   simp only
   rw [wJ Dy hlen]
   simp only [Option.bind_some]
   unfold gw
   rw [iter_eq,cz,if_neg (by simp only;omega),ec]
 refine wJ ?_ hlen
 unfold cA
 rw [wJ hs hlen];rfl
abbrev Pq (K:Int) (r:ai×sg):Prop:=EB r.1∧tQ r.2 K
theorem A6 (t:Int) (q7 vy:ax) (n14 n15:Int) (L:List Int) (a:Int) (OX:Int) (OY OZ:ax) (n59:Int) (NR NS:ax) (n62:Int) {K:Int} (hs:tQ ⟨L,a⟩ K) (h1:NR.length≤40) (h2:NS.length≤40):Ok (fA t q7 vy n14 n15 L a OX OY OZ n59 NR NS n62) (Pq K):=by
 unfold fA
 exact Ok.ret ⟨⟨by simp only;omega,by simp only;omega⟩,hs⟩
theorem yy (t:Int) (v2:Int×sg) (v3:ax×sg) (L:List Int) (a:Int) (q7 q8:ax) (n9:Int) (Bh vy Bi:ax) (n13 n14 n15:Int) {K:Int} (hK:10≤K) (hs:tQ ⟨L,a⟩ K) (h1:Bh.length≤40) (h2:Bi.length≤40):Ok (fB t v2 v3 L a q7 q8 n9 Bh vy Bi n13 n14 n15) (Pq (K - 8)):=by
 unfold fB gO gN gM
 refine Ok.gen (Gd hs (by omega) (by omega) (by omega)) (fun b s2 _ q2=>?_)
 dsimp only
 split
 ·refine Ok.gen (uP q2 (by omega) (by omega) (by omega)) (fun n s3 _ q3=>?_)
  dsimp only
  split
  ·refine Ok.gen (xJ q3 (by omega) (by omega) (by omega) (by omega)) (fun u s4 _ q4=>?_)
   exact A6 _ _ _ _ _ _ _ _ _ _ _ _ _ _ (q4.less (by omega)) h1 h2
  ·split
   ·refine Ok.gen (ja q3 (by omega) (by simp) (by simp)) (fun u s4 _ q4=>?_)
    refine Ok.gen (ja q4 (by omega) (by simp) (by simp)) (fun u s5 _ q5=>?_)
    exact A6 _ _ _ _ _ _ _ _ _ _ _ _ _ _ (q5.less (by omega)) h1 h2
   ·split
    ·refine Ok.gen (xJ q3 (by omega) (by omega) (by omega) (by omega)) (fun u s4 _ q4=>?_)
     refine Ok.gen (xJ q4 (by omega) (by omega) (by omega) (by omega)) (fun u s5 _ q5=>?_)
     exact A6 _ _ _ _ _ _ _ _ _ _ _ _ _ _ (q5.less (by omega)) h1 h2
    ·refine Ok.gen (ja q3 (by omega) (by simp) (by simp)) (fun u s4 hu q4=>?_)
     refine Ok.gen (ja q4 (by omega) (by simp) (by simp)) (fun w s5 hw q5=>?_)
     exact A6 _ _ _ _ _ _ _ _ _ _ _ _ _ _ (q5.less (by omega)) (sh hu (by decide)) (sh hw (by decide))
 ·exact A6 _ _ _ _ _ _ _ _ _ _ _ _ _ _ (q2.less (by omega)) h1 h2
theorem Fl {s:sg} {K:Int} (t:Int) (hs:tQ s K) (hK:20≤K):qD (jN s t) (K - 20) EB:=by
 refine qD.of ?_
 have fin:∀ {r:ai×sg} {K':Int},K - 20≤K'→Pq K' r→EB r.1∧tQ r.2 (K - 20):=fun h g=>⟨g.1,g.2.less h⟩
 unfold jN gS gR gQ gP
 refine Ok.gen (pU hs (by omega) (by simp) (by simp)) (fun k s1 _ q1=>?_)
 refine Ok.gen (ja q1 (by omega) (by simp) (by simp)) (fun d s2 _ q2=>?_)
 dsimp only
 split
 ·refine Ok.gen (ja q2 (by omega) (by simp) (by simp)) (fun u s3 _ q3=>?_)
  refine Ok.gen (pU q3 (by omega) (by simp) (by simp)) (fun w s4 _ q4=>?_)
  refine Ok.gen (ja q4 (by omega) (by simp) (by simp)) (fun x s5 hx q5=>?_)
  exact (yy t _ _ _ _ _ _ _ _ _ _ _ _ _ (by omega) q5 (sh hx (by decide)) (by simp)).mono fun r hr=>fin (by omega) hr
 ·split
  ·refine Ok.gen (ja q2 (by omega) (by simp) (by simp)) (fun u s3 _ q3=>?_)
   exact (yy t _ _ _ _ _ _ _ _ _ _ _ _ _ (by omega) q3 (by simp) (by simp)).mono fun r hr=>fin (by omega) hr
  ·split
   ·refine Ok.gen (ja q2 (by omega) (by simp) (by simp)) (fun u s3 hu q3=>?_)
    refine Ok.gen (pU q3 (by omega) (by simp) (by simp)) (fun w s4 _ q4=>?_)
    exact (yy t _ _ _ _ _ _ _ _ _ _ _ _ _ (by omega) q4 (sh hu (by decide)) (by simp)).mono fun r hr=>fin (by omega) hr
   ·split
    ·refine Ok.gen (pU q2 (by omega) (by simp) (by simp)) (fun u s3 _ q3=>?_)
     refine Ok.gen (pU q3 (by omega) (by simp) (by simp)) (fun w s4 _ q4=>?_)
     exact (yy t _ _ _ _ _ _ _ _ _ _ _ _ _ (by omega) q4 (by simp) (by simp)).mono fun r hr=>fin (by omega) hr
    ·split
     ·refine Ok.gen (ja q2 (by omega) (by simp) (by simp)) (fun u s3 _ q3=>?_)
      refine Ok.gen (ja q3 (by omega) (by simp) (by simp)) (fun w s4 hw q4=>?_)
      exact (yy t _ _ _ _ _ _ _ _ _ _ _ _ _ (by omega) q4 (by simp) (sh hw (by decide))).mono fun r hr=>fin (by omega) hr
     ·exact (yy t _ _ _ _ _ _ _ _ _ _ _ _ _ (by omega) q2 (by simp) (by simp)).mono fun r hr=>fin (by omega) hr
abbrev QF (n:Int) (l:List ai):Prop:=(l.length:Int)≤n∧EL l
theorem IF {L:List Int} {a:Int} {l:List ai} {K n:Int} (hs:tQ ⟨L,a⟩ K) (hK:10≤K) (hn:n≤19) (hl:QF n l):Ok (mj L a l) (fun r=>QF n r.1∧tQ r.2 (K - 10)):=by
 have Oe:=hl.1
 unfold mj
 obtain ⟨Z,z1,z2,z3⟩:=Fk (fun y0 y1=>mi y0 y1) l (by omega) (fun x _ y _=>KV x y)
 rw [z1]
 simp only [Option.bind_some]
 have hZ:QF n Z:=⟨by rw [z2.length_eq];exact hl.1,fun x hx=>hl.2 x (z2.mem_iff.1 hx)⟩
 have UU:=hZ.1
 have j1:∀ (L':List Int) (a':Int) (c:Bool),(c=true→0 < Z.length)→tQ ⟨L',a'⟩ (K - 1)→Ok (iC Z L' a' c) (fun r=>QF n r.1∧tQ r.2 (K - 10)):=by
  intro L' a' c hc xH
  unfold iC jO
  cases c with
  | false=>
    rw [if_neg Bool.false_ne_true]
    exact Ok.ret ⟨hZ,xH.less (by omega)⟩
  | true=>
    have hp:=hc rfl
    rw [if_pos rfl]
    refine Ok.gen (uP xH (by omega) (by omega) (by omega)) (fun i s1 hi q1=>?_)
    dsimp only
    refine Ok.idx (by omega) (by omega) (fun x hx hm=>?_)
    refine Ok.gen (ja q1 (by omega) (by simp) (by simp)) (fun u s2 _ q2=>?_)
    refine Ok.gen (pU q2 (by omega) (by simp) (by simp)) (fun v s3 _ q3=>?_)
    refine Ok.gen (pU q3 (by omega) (by simp) (by simp)) (fun w s4 _ q4=>?_)
    refine Ok.gen (pU q4 (by omega) (by simp) (by simp)) (fun y s5 _ q5=>?_)
    have N5:=hZ.2 x hm
    refine Ok.ret ⟨⟨by simp only [List.length_set];exact UU,?_⟩,q5.less (by omega)⟩
    exact Hg (Hg (Hg (Hg hZ.2 ⟨N5.key,N5.val⟩) ⟨N5.key,N5.val⟩) ⟨N5.key,N5.val⟩) ⟨N5.key,N5.val⟩
 by_cases h:(0:Int) < Z.length
 ·rw [if_pos h]
  refine Ok.gen (Gd hs (by omega) (by omega) (by omega)) (fun b s1 _ q1=>?_)
  exact j1 _ _ _ (fun _=>by omega) q1
 ·rw [if_neg h]
  exact j1 _ _ _ (fun q=>by cases q) (hs.less (by omega))
theorem KZ {s:sg} {n K:Int} (hs:tQ s K) (hn:0≤n∧n≤14) (hK:500≤K):qD (mU s n) (K - 500) (QF n):=by
 refine qD.of ?_
 unfold mU
 refine Ok.gen (uP hs (by omega) (by omega) (by omega)) (fun t s1 _ q1=>?_)
 unfold sC
 refine Ok.iter (fun x:List Int×Int×List ai×List (ax×Int)×Int×Int×Int=>(n - x.2.2.2.2.2.2).toNat) (fun x:List Int×Int×List ai×List (ax×Int)×Int×Int×Int=>0≤x.2.2.2.2.2.2∧x.2.2.2.2.2.2≤n∧tQ ⟨x.1,x.2.1⟩ (K - 480+30 * (n - x.2.2.2.2.2.2))∧QF x.2.2.2.2.2.2 x.2.2.1) ?_ _ ⟨by simp only;omega,by simp only;omega,q1.less (by simp only;omega),⟨by simp,fun x hx=>by cases hx⟩⟩
 rintro ⟨L,a,l,m,c,t,i⟩ ⟨g0,g1,g2,g3⟩
 simp only at g0 g1 g2 g3 ⊢
 have hll:=g3.1
 unfold jP
 by_cases hi:i < n
 ·rw [if_pos hi]
  refine Ok.gen (Fl t g2 (by omega)) (fun x s2 hx q2=>?_)
  refine Ok.gen (ja q2 (by omega) (by simp) (by simp)) (fun u s3 _ q3=>?_)
  unfold vJ
  simp only [Option.bind_some]
  refine Ok.gen (pU q3 (by omega) (by simp) (by simp)) (fun v s4 _ q4=>?_)
  dsimp only
  refine Ok.app (by simp;omega) ?_
  refine Ok.gen (pU q4 (by omega) (by simp) (by simp)) (fun w s5 _ q5=>?_)
  refine Ok.ret ?_
  rw [cG (x:=i+1) (by omega) (by omega)]
  refine ⟨⟨by simp only;omega,by simp only;omega,q5.less (by simp only;omega),?_,?_⟩,by simp only;omega⟩
  ·simp only [List.length_append,List.length_singleton];omega
  ·intro y hy
   rw [List.mem_append,List.mem_singleton] at hy
   rcases hy with hy | rfl
   ·exact g3.2 y hy
   ·exact ⟨hx.key,hx.val⟩
 ·rw [if_neg hi]
  obtain rfl:i=n:=by omega
  refine Ok.inr ?_
  exact (IF g2 (by omega) (by omega) g3).mono fun r hr=>⟨hr.1,hr.2.less (by omega)⟩
theorem Sv (x y:Int):gn [x,y]=some (Dh [x,y]):=Ga _ (by simp)
def zL:aJ:=⟨⟨[],[],[],⟨0,0,0⟩,[]⟩,0,0,[]⟩
noncomputable def rm (F:aE) (i:Int):aJ:=(idx F.ew i).getD zL
noncomputable def oD (F:aE):List aJ:=F.bN.map (fun e=>rm F e.2)
theorem nB {N:Nat} {F:aE} (h:FI N F) {e:ax×Int} (he:e∈F.bN):idx F.ew e.2=some (rm F e.2)∧(rm F e.2).Device.Key=e.1:=by
 obtain ⟨x,x1,x2⟩:=h.fr e.1 e.2 ((h.sm.mF).2 he)
 have:rm F e.2=x:=by unfold rm;rw [x1];rfl
 rw [this]
 exact ⟨x1,x2⟩
theorem xO {N:Nat} {F:aE} (h:FI N F):F.bN.length≤N:=by
 have h1:(F.bN.map fun e=>e.2.toNat).Nodup:=by
  unfold List.Nodup
  rw [List.pairwise_map]
  refine (SM.ne h.sm).imp_of_mem (fun {a b} ha hb zv q=>zv ?_)
  obtain ⟨a1,a2⟩:=nB h ha
  obtain ⟨b1,b2⟩:=nB h hb
  have ha0:=(ep a1).1
  have Bn:=(ep b1).1
  have:a.2=b.2:=by omega
  rw [← a2,← b2,this]
 have h2:=h1.length_le_of_subset (l₂:=List.range F.ew.length) (fun x hx=>by
  obtain ⟨e,e1,rfl⟩:=List.mem_map.1 hx
  obtain ⟨a1,_⟩:=nB h e1
  have:=ep a1
  rw [List.mem_range];omega)
 rw [List.length_map,List.length_range] at h2
 have:=h.len
 omega
theorem Ng {N:Nat} {F:aE} (h:FI N F):(oD F).Pairwise (fun a b=>Lib.compareBytes a.Device.Key b.Device.Key < 0):=by
 unfold oD
 rw [List.pairwise_map]
 refine List.Pairwise.imp_of_mem (fun {a b} ha hb zv=>?_) h.sm
 rw [(nB h ha).2,(nB h hb).2]
 have Sw:Op.bytesLess a.1 b.1=true:=zv
 rw [rf] at Sw
 exact of_decide_eq_true Sw
theorem K1 {N:Nat} {F:aE} (h:FI N F) {a b:aJ} (ha:a∈oD F) (hb:b∈oD F) (hk:a.Device.Key=b.Device.Key):a=b:=by
 unfold oD at ha hb
 obtain ⟨e,e1,rfl⟩:=List.mem_map.1 ha
 obtain ⟨f,f1,rfl⟩:=List.mem_map.1 hb
 rw [(nB h e1).2,(nB h f1).2] at hk
 have h1:=(h.sm.mF).2 e1
 have h2:=(h.sm.mF).2 f1
 rw [hk,h2,Option.some.injEq] at h1
 rw [h1]
theorem A7 {N:Nat} {F:aE} (h:FI N F) (hN:N≤90000) {L:List aJ} (hp:L.Perm (oD F)) (fn:aJ→aJ→Option Int) (hf:∀ a b,fn a b=some (Lib.compareBytes a.Device.Key b.Device.Key)):
 lF L.length (fun r:List aJ=>r.length) (fO L fn)=some (oD F):=by
 have hl:L.length≤100000:=by
  rw [hp.length_eq]
  unfold oD
  rw [List.length_map]
  have:=xO h
  omega
 obtain ⟨Z,z1,z2,z3⟩:=EZ fn (fun a b:aJ=>Lib.compareBytes a.Device.Key b.Device.Key) L hl (fun a _ b _=>hf a b) ((mc.on (fun x:aJ=>x.Device.Key)).ord L)
 have Pl:Z.Perm (oD F):=z2.trans hp
 have Wl:Gb (fun a b:aJ=>Lib.compareBytes a.Device.Key b.Device.Key) (oD F):=(Ng h).imp (fun {a b} q=>by
  have:=mc.neg a.Device.Key b.Device.Key
  show ¬ Lib.compareBytes b.Device.Key a.Device.Key < 0
  omega)
 have:Z=oD F:=by
  refine wI Pl z3 Wl ?_
  intro a ha b hb c1 c2
  have hn:=mc.neg a.Device.Key b.Device.Key
  exact K1 h (Pl.mem_iff.1 ha) (Pl.mem_iff.1 hb) (mE (by omega))
 subst this
 exact wJ z1 z2.length_eq
theorem Ho {N:Nat} {F:aE} (h:FI N F) (hN:N≤90000) {x:aJ} (hx:x∈F.ew):oU x=some x:=by
 have h1:=(h.keys x hx).2
 have h2:=(h.tags x hx).2
 unfold oU dq ir
 rw [rb (by simp;omega),rb (by simp;omega)]
 rfl
theorem Pr {N:Nat} {F:aE} (h:FI N F) (hN:N≤90000):k8 F=some (oD F):=by
 unfold k8 qT
 refine sO (fun e (x:List aJ)=>ga F e x) (fun x:List aJ=>gd x) F.bN [] _ (fun done s=>s=done.map (fun e=>rm F e.2)) rfl ?_ ?_
 ·intro done e rest s hp hi
  left
  have he:e∈F.bN:=hp.mem_iff.1 (by simp)
  have hlen:=hp.length_eq
  rw [List.length_append,List.length_cons] at hlen
  have HX:=xO h
  obtain ⟨x1,x2⟩:=nB h he
  refine ⟨s++[rm F e.2],?_,by rw [hi,List.map_append];rfl⟩
  unfold ga
  rw [x1]
  simp only [Option.bind_some]
  rw [Ho h hN (dz x1)]
  simp only [Option.bind_some]
  rw [rb (by rw [hi,List.length_map,List.length_singleton];omega)]
  rfl
 ·intro p s hp hi
  subst hi
  unfold gd
  rw [A7 h hN (hp.map _) (fun y0 y1=>some (kD y0 y1)) (fun a b=>rfl)]
  rfl
theorem Fm {α β:Type} (L:List β) (f:α→Int) (g:α→β):∀ l:List α,(∀ e∈l,idx L (f e)=some (g e))→idxs L (l.map f)=some (l.map g)
 | [],_=>rfl
 | e :: r,h=>by
   show (idx L (f e)).bind _=_
   rw [h e (by simp),Fm L f g r (fun x hx=>h x (by simp [hx]))]
   rfl
theorem K2 {N:Nat} {F:aE} (h:FI N F):Ey F.ew F.bN=some (F.bN.map fun e=>(e.1,rm F e.2)):=by
 unfold Ey
 rw [Fm F.ew Prod.snd (fun e=>rm F e.2) F.bN (fun e he=>(nB h he).1)]
 simp only [Option.bind_some]
 rw [List.zip_map']
theorem A8 (l:List ai) (hl:l.length≤80000) (hk:qp l):qC l=some (oD (fw l).1):=by
 obtain ⟨h,_,_⟩:=A5 l (by omega) hk
 have HX:=xO h
 unfold qC
 rw [(pH l (by omega) hk).2]
 simp only [Option.bind_some]
 rw [K2 h]
 simp only [Option.bind_some]
 unfold xo
 refine sO (fun e (x:List aJ)=>mB e x) (fun x:List aJ=>mC x) _ [] _ (fun done s=>s=done.map (fun e=>e.2)) rfl ?_ ?_
 ·intro done e rest s hp hi
  left
  have hlen:=hp.length_eq
  rw [List.length_append,List.length_cons,List.length_map] at hlen
  refine ⟨s++[e.2],?_,by rw [hi,List.map_append];rfl⟩
  unfold mB
  rw [rb (by rw [hi,List.length_map,List.length_singleton];omega)]
  rfl
 ·intro p s hp hi
  subst hi
  unfold mC
  have bZ:=hp.map (fun e:ax×aJ=>e.2)
  rw [List.map_map] at bZ
  rw [A7 h (by omega) (show (p.map fun e=>e.2).Perm (oD (fw l).1) from bZ) (fun y0 y1=>some (qj y0 y1)) (fun a b=>rfl)]
  rfl
theorem Wu (x:List aY) (hx:x.length≤100000):fq x x=some true:=by
 rw [show fq x x=some (decide (x=x)) from Cn x x (by omega)];simp
theorem Wv (x:List Term) (hx:x.length≤100000):ft x x=some true:=by
 rw [show ft x x=some (decide (x=x)) from Cn x x (by omega)];simp
theorem vT (x:aJ) (h1:x.Device.bl.length≤100000) (h2:x.aV.length≤100000):gh x x=some true:=by
 unfold gh qk fH jD
 simp only [if_true,Wu _ h1,Wv _ h2,Option.bind_some]
theorem Cx {N:Nat} {F:aE} (h:FI N F) (hN:N≤90000) {x:aJ} (hx:x∈oD F):gh x x=some true:=by
 unfold oD at hx
 obtain ⟨e,e1,rfl⟩:=List.mem_map.1 hx
 have hm:=dz (nB h e1).1
 have h1:=(h.keys _ hm).2
 have h2:=(h.tags _ hm).2
 exact vT _ (by omega) (by omega)
theorem A9 (W:List aJ) (f:aJ→aJ→Option Bool) (hf:∀ x∈W,f x x=some true) (hl:W.length≤100000):ch W W f=some true:=by
 unfold ch fU
 rw [if_neg (fun q=>q rfl)]
 have key:∀ (n:Nat) (i:Int),0≤i→i+n=W.length→iter (fun x:Int=>bb W W f x) i=some true:=by
  intro n
  induction n with
  | zero=>
    intro i h0 hn
    refine uV (o:=some _) ?_
    show bb W W f i=_
    unfold bb
    rw [if_neg (by omega)]
  | succ n ih=>
    intro i h0 hn
    obtain ⟨x,x1,x2,_⟩:=lC W (i:=i) h0 (by omega)
    refine Eq.trans ?_ (ih (i+1) (by omega) (by omega))
    refine xM ?_
    show bb W W f i=_
    unfold bb
    rw [if_pos (by omega),x1]
    simp only [Option.bind_some]
    rw [hf x x2]
    simp only [Option.bind_some]
    rw [if_neg (by simp),cG (by omega) (by omega)]
 exact key W.length 0 (by omega) (by omega)
theorem Gm {N:Nat} {F:aE} (h:FI N F) (hN:N≤90000) (k:ax):∃ n:Int,fu (oD F) (fun y0=>some (kG y0 k))=some n∧
 ((bI F.bN k=none∧n < 0)∨(∃ i,bI F.bN k=some i∧0≤n∧idx F.ew i=some (rm F i)∧rm F i∈oD F∧idx (oD F) n=some (rm F i))):=by
 have hlen:(oD F).length≤90000:=by
  unfold oD
  rw [List.length_map]
  have:=xO h
  omega
 refine ⟨ib (fun y:aJ=>decide (y.Device.Key=k)) (oD F) 0,jE _ _ _ (fun x _=>rfl) (by omega),?_⟩
 rcases uT (fun y:aJ=>decide (y.Device.Key=k)) (oD F) with ⟨a1,a2⟩ | ⟨y,a1,a2,a3⟩
 ·left
  refine ⟨?_,a1⟩
  cases hg:bI F.bN k with
  | none=>rfl
  | some i=>
    have he:=(h.sm.mF).1 hg
    have:=List.find?_eq_none.1 a2 (rm F i) (List.mem_map.2 ⟨(k,i),he,rfl⟩)
    exact absurd (decide_eq_true (nB h he).2) this
 ·right
  have hy:=List.mem_of_find?_eq_some a3
  have hk:y.Device.Key=k:=of_decide_eq_true (List.find?_some (p:=fun y:aJ=>decide (y.Device.Key=k)) a3)
  unfold oD at hy
  obtain ⟨e,e1,e2⟩:=List.mem_map.1 hy
  obtain ⟨o1,o2⟩:=nB h e1
  have ON:e.1=k:=by rw [← o2,e2,hk]
  refine ⟨e.2,?_,a1,o1,List.mem_map.2 ⟨e,e1,rfl⟩,by rw [a2,e2]⟩
  rw [← ON]
  exact (h.sm.mF).2 e1
theorem Hp (F:aE) (k:ax):iD F k=bI F.bN k:=by
 unfold iD
 cases bI F.bN k<;>rfl
noncomputable def xP (F:aE) (k:ax):aJ×Bool×Int:=match bI F.bN k with | none=>(zL,false,0) | some i=>(rm F i,true,0)
def Sx (x:aJ) (p:ax) (at_:Int):Bool:=x.aV.any (fun t=>decide (t.Key=p)&&(decide (t.fE≤at_)&&decide (at_ < t.To)))
noncomputable def Dv (F:aE) (k p:ax) (at_:Int):Bool×Int:=match bI F.bN k with | none=>(false,8) | some i=>(Sx (rm F i) p at_&&(decide ((rm F i).State≠3)&&decide ((rm F i).State≠4)),0)
theorem evK {l:List Model} {x:ai} (h:IB l x=0):1≤x.Kind∧x.Kind≤9:=by
 unfold IB at h
 by_cases h1:me x.iB=false
 ·rw [if_pos h1] at h;exact absurd h (by decide)
 rw [if_neg h1] at h
 by_cases h2:(x.No < 1∨3000 < x.No)∨(x.aW < x.No∨1000000000 < x.aW)∨(x.At < 0∨345686399999 < x.At)
 ·rw [if_pos h2] at h;exact absurd h (by decide)
 rw [if_neg h2] at h
 by_cases h3:x.Kind < 1∨9 < x.Kind
 ·rw [if_pos h3] at h;exact absurd h (by decide)
 omega
theorem IV {l:List Model} {e:List ai} (h:LG l e):qp e:=fun x hx=>evK (h.ok x hx)
theorem Ps (m:List Model) (hm:m.length≤1000) (hM:∀ z∈m,MB z) (e:List ai) (he:EL e):mq m e=some (if rk m e≠0 then ([],rk m e) else (oD (fw e).1,0)):=by
 unfold mq
 rw [rl m hm hM e he]
 simp only [Option.bind_some]
 by_cases c:rk m e≠0
 ·rw [if_pos c,if_pos c]
 ·rw [if_neg c,if_neg c]
  have hg:=vq hm he (Decidable.not_not.1 c)
  have hl:=hg.len
  rw [(pH e (by omega) (IV hg)).1]
  simp only [Option.bind_some]
  rw [Pr (A5 e (by omega) (IV hg)).1 (by omega)]
  rfl
theorem Nh (m:List Model) (hm:m.length≤1000) (hM:∀ z∈m,MB z) (e:List ai) (he:EL e) (k:ax):lr m e k=some (if rk m e≠0 then (zL,false,rk m e) else if me k=true then xP (fw e).1 k else (zL,false,5)):=by
 unfold lr
 rw [rl m hm hM e he]
 simp only [Option.bind_some]
 by_cases c:rk m e≠0
 ·rw [if_pos c,if_pos c];rfl
 ·rw [if_neg c,if_neg c,uQ]
  simp only [Option.bind_some]
  have hg:=vq hm he (Decidable.not_not.1 c)
  have hl:=hg.len
  cases hk:me k with
  | false=>rfl
  | true=>
    rw [if_neg (by decide),(pH e (by omega) (IV hg)).1]
    simp only [Option.bind_some,if_true]
    have h:=(A5 e (by omega) (IV hg)).1
    rw [Hp]
    unfold xP
    cases BX:bI (fw e).1.bN k with
    | none=>rfl
    | some i=>
      obtain ⟨o1,_⟩:=nB h ((h.sm.mF).1 BX)
      show (idx (fw e).1.ew i).bind _=_
      rw [o1]
      simp only [Option.bind_some]
      rw [Ho h (by omega) (dz o1)]
      rfl
theorem Gn (m:List Model) (hm:m.length≤1000) (hM:∀ z∈m,MB z) (e:List ai) (he:EL e) (k p:ax) (hp:p.length≤1000) (at_:Int):iE m e k p at_=some (if rk m e≠0 then (false,rk m e) else if me k=true then (if tT p=true then (if eV at_=true then Dv (fw e).1 k p at_ else (false,1)) else (false,5)) else (false,5)):=by
 unfold iE
 rw [rl m hm hM e he]
 simp only [Option.bind_some]
 by_cases c:rk m e≠0
 ·rw [if_pos c,if_pos c]
 ·rw [if_neg c,if_neg c,uQ]
  simp only [Option.bind_some]
  have hg:=vq hm he (Decidable.not_not.1 c)
  have hl:=hg.len
  cases hk:me k with
  | false=>rfl
  | true=>
    rw [if_neg (by decide),rj hp,if_pos rfl]
    simp only [Option.bind_some]
    unfold gZ
    cases hpb:tT p with
    | false=>rfl
    | true=>
      rw [if_neg (by decide),if_pos rfl]
      cases hb:eV at_ with
      | false=>rfl
      | true=>
        rw [if_neg (by decide),if_pos rfl,(pH e (by omega) (IV hg)).1]
        simp only [Option.bind_some]
        have h:=(A5 e (by omega) (IV hg)).1
        rw [Hp]
        unfold Dv
        cases BX:bI (fw e).1.bN k with
        | none=>rfl
        | some i=>
          obtain ⟨o1,_⟩:=nB h ((h.sm.mF).1 BX)
          show (idx (fw e).1.ew i).bind _=_
          rw [o1]
          simp only [Option.bind_some]
          unfold jJ
          by_cases s3:(rm (fw e).1 i).State=3
          ·rw [if_pos (by simp [s3])]
           simp [s3]
          by_cases s4:(rm (fw e).1 i).State=4
          ·rw [if_pos (by simp [s4])]
           simp [s4]
          rw [if_neg (by simp [s3,s4]),o1]
          simp only [Option.bind_some]
          have:(rm (fw e).1 i).aV.length≤e.length:=(h.keys _ (dz o1)).2
          rw [Hn (rm (fw e).1 i).aV (fun y0=>some (jI y0 p at_)) (fun t=>decide (t.Key=p)&&(decide (t.fE≤at_)&&decide (at_ < t.To))) (fun x=>rfl) (by omega)]
          simp only [Option.bind_some]
          simp [s3,s4,Sx]
theorem Dw (e:List ai) (hl:e.length≤80000) (hk:qp e) (k p:ax) (at_:Int):ly e k p at_=some ((Dv (fw e).1 k p at_).1,decide ((Dv (fw e).1 k p at_).2=0)):=by
 have h:=(A5 e (by omega) hk).1
 unfold ly
 rw [(pH e (by omega) hk).2]
 simp only [Option.bind_some]
 unfold Dv
 cases BX:bI (fw e).1.bN k with
 | none=>rfl
 | some i=>
   obtain ⟨o1,_⟩:=nB h ((h.sm.mF).1 BX)
   show (idx (fw e).1.ew i).bind _=_
   rw [o1]
   simp only [Option.bind_some]
   have:(rm (fw e).1 i).aV.length≤e.length:=(h.keys _ (dz o1)).2
   rw [Hn (rm (fw e).1 i).aV (fun y0=>some (mA y0 p at_)) (fun t=>decide (t.Key=p)&&(decide (t.fE≤at_)&&decide (at_ < t.To))) (fun x=>rfl) (by omega)]
   rfl
theorem N6:gh zL zL=some true:=vT zL (by decide) (by decide)
theorem K3 (v4:(List ai)×sg) (v6:ax×sg) (z:Int) {f:Int} (hf:f≠0):bT v4 v6 (zL,false,z) f false=some true:=by
 unfold bT gi
 rw [if_neg Bool.false_ne_true,if_pos hf,if_pos (show (!(zL,false,z).2.1)=true from rfl)]
 show (gh zL zL).bind _=_
 rw [N6]
 simp only [Option.bind_some,if_true]
 rw [wK]
 rfl
theorem Ni (v4:(List ai)×sg) (v6:ax×sg) (hl:v4.1.length≤3000) (hk:qp v4.1):bT v4 v6 (xP (fw v4.1).1 v6.1) 0 false=some true:=by
 have h:=(A5 v4.1 (by omega) hk).1
 unfold bT cx
 rw [if_neg Bool.false_ne_true,if_neg (fun q=>q rfl),A8 v4.1 (by omega) hk]
 simp only [Option.bind_some]
 obtain ⟨n,n1,n2⟩:=Gm h (by omega) v6.1
 rw [n1]
 simp only [Option.bind_some]
 unfold xP
 rcases n2 with ⟨a1,a2⟩ | ⟨i,a1,a2,a3,a4,a5⟩
 ·rw [a1]
  simp only
  rw [if_pos (by simp;omega),if_pos a2]
  show (gh zL zL).bind _=_
  rw [N6]
  simp only [Option.bind_some,if_true]
  rw [wK]
  rfl
 ·rw [a1]
  simp only
  rw [if_pos (by simp;omega),if_neg (by omega),if_pos a2,a5]
  simp only [Option.bind_some]
  rw [Cx h (by omega) a4]
  simp only [Option.bind_some,if_true]
  rw [wK]
  rfl
theorem Hq (v4:(List ai)×sg) (v6:ax×sg) (hl:v4.1.length≤3000) (hk:qp v4.1) (v12:aJ×Bool×Int) (ow:Bool×Int) (f:Int) (hf:v12.2.2=f) (hz:bT v4 v6 v12 f false=some true):dt v4 v6 (oD (fw v4.1).1,0) v12 ow 0 f ow.2 ow.1=some true:=by
 have h:=(A5 v4.1 (by omega) hk).1
 unfold dt
 rw [if_neg (fun q=>q rfl),if_neg (fun q=>q hf),if_neg (fun q=>q rfl),if_neg (by simp),if_pos rfl,A8 v4.1 (by omega) hk]
 simp only [Option.bind_some]
 have hW:(oD (fw v4.1).1).length≤100000:=by
  unfold oD
  rw [List.length_map]
  have:=xO h
  omega
 rw [A9 _ _ (fun x hx=>Cx h (by omega) hx) hW]
 simp only [Option.bind_some]
 exact hz
theorem Pt (m:List Model) (s1:sg) (e:List ai) (s2:sg) (k:ax) (s3:sg) (p:ax) (s4:sg) (t:Int) (s5:sg) (hm:m.length≤1000) (hM:∀ z∈m,MB z) (he:EL e) (hp:p.length≤1000):
 ((mq m e).bind fun v10=>
 (lr m e k).bind fun v12=>
 (iE m e k p t).bind fun ow=>
 (lv m).bind fun pI=>
 (jC m e).bind fun tI=>
 (gn [pI,tI]).bind fun v17=>
 (nz k).bind fun DB=>
 (gn [v17,DB]).bind fun tJ=>
 (lx p).bind fun v20=>
 (gn [tJ,v20,(dB t)]).bind fun v21=>
 if v21=(0:Int) then
  (ly e k p t).bind fun v24=>
  dt (e,s2) (k,s3) v10 v12 ow v17 tJ (yj (!v24.2) (8:Int)) v24.1
 else
  dt (e,s2) (k,s3) v10 v12 ow v17 tJ v21 false)=some true:=by
 have chk:Dh [Lk m,Cw m e]=rk m e:=Sm _ _
 have hP:lx p=some (if tT p=true then 0 else 5):=by
  unfold lx
  rw [tv hp]
  cases tT p<;>rfl
 have hMo:dB t=if eV t=true then 0 else 1:=by
  unfold dB eV
  rw [Dq]
  cases sE t 0 345686399999<;>rfl
 rw [Ps m hm hM e he,Nh m hm hM e he,Gn m hm hM e he k p hp]
 simp only [Option.bind_some]
 rw [A0 hM,IC m hm e he]
 simp only [Option.bind_some]
 rw [Sv,chk]
 simp only [Option.bind_some]
 rw [E5]
 simp only [Option.bind_some]
 rw [Sv]
 simp only [Option.bind_some]
 rw [hP]
 simp only [Option.bind_some]
 rw [show gn [Dh [rk m e,if me k=true then 0 else 5],if tT p=true then 0 else 5,dB t]=some (Dh [Dh [rk m e,if me k=true then 0 else 5],if tT p=true then 0 else 5,dB t]) from Ga _ (by simp),hMo]
 simp only [Option.bind_some]
 by_cases c:rk m e≠0
 ·have e1:Dh [rk m e,if me k=true then (0:Int) else 5]=rk m e:=by rw [Sm,if_pos c]
  have e2:Dh [rk m e,if tT p=true then (0:Int) else 5,if eV t=true then 0 else 1]=rk m e:=by
   show (if rk m e≠0 then rk m e else _)=_
   rw [if_pos c]
  rw [e1,e2,if_neg c,if_pos c,if_pos c,if_pos c]
  unfold dt
  rw [if_neg (fun q=>q rfl),if_neg (fun q=>q rfl),if_neg (fun q=>q rfl),if_neg (by simp),if_neg c]
  exact K3 _ _ _ c
 ·have c0:=Decidable.not_not.1 c
  have hg:=vq hm he c0
  have hl:=hg.len
  rw [if_neg c,if_neg c,if_neg c,c0]
  cases hk:me k with
  | false=>
    have e1:Dh [(0:Int),if false=true then (0:Int) else 5]=5:=rfl
    have e2:∀ a b:Int,Dh [(5:Int),a,b]=5:=fun a b=>rfl
    rw [e1,e2]
    exact Hq (e,s2) (k,s3) hl (IV hg) (zL,false,5) (false,5) 5 rfl (K3 _ _ _ (by decide))
  | true=>
    have e1:Dh [(0:Int),if true=true then (0:Int) else 5]=0:=rfl
    rw [e1]
    have hz:=Ni (e,s2) (k,s3) hl (IV hg)
    have hv:(xP (fw e).1 k).2.2=0:=by
     unfold xP
     cases bI (fw e).1.bN k<;>rfl
    cases hpb:tT p with
    | false=>
      have e2:∀ b:Int,Dh [(0:Int),if false=true then (0:Int) else 5,b]=5:=fun b=>rfl
      rw [e2]
      exact Hq (e,s2) (k,s3) hl (IV hg) (xP (fw e).1 k) (false,5) 0 hv hz
    | true=>
      cases hb:eV t with
      | false=>
        have e2:Dh [(0:Int),if true=true then (0:Int) else 5,if false=true then (0:Int) else 1]=1:=rfl
        rw [e2]
        exact Hq (e,s2) (k,s3) hl (IV hg) (xP (fw e).1 k) (false,1) 0 hv hz
      | true=>
        have e2:Dh [(0:Int),if true=true then (0:Int) else 5,if true=true then (0:Int) else 1]=0:=rfl
        rw [e2,if_pos rfl,Dw e (by omega) (IV hg)]
        simp only [Option.bind_some]
        have e3:yj (!decide ((Dv (fw e).1 k p t).2=0)) 8=(Dv (fw e).1 k p t).2:=by
         unfold Dv
         cases bI (fw e).1.bN k<;>rfl
        rw [e3]
        exact Hq (e,s2) (k,s3) hl (IV hg) (xP (fw e).1 k) (Dv (fw e).1 k p t) 0 hv hz
theorem Nj {s:sg} {K:Int} (hs:tQ s K) (hK:4≤K):qD (po s) (K - 4) (fun _=>True):=by
 unfold po
 refine qD.bind (uP hs (by omega) (by omega) (by omega)) (fun a s1 ha Sq=>?_)
 refine qD.bind (uP Sq (by omega) (by omega) (by omega)) (fun b s2 hb GD=>?_)
 refine qD.bind (pU GD (by omega) (by simp) (by simp)) (fun c s3 hc hs3=>?_)
 refine qD.bind (pU hs3 (by omega) (by simp) (by simp)) (fun d s4 hd hs4=>?_)
 exact qD.ret trivial (hs4.less (by omega))
theorem vF (L:List Int):lg L=some true:=by
 have key:Ok (lg L) (fun r=>r=true):=by
  unfold lg
  refine Ok.gen (Na (s:=⟨L,0⟩) (K:=10000) ⟨by simp,by simp⟩ (by omega)) (fun l s0 hl q0=>?_)
  refine Ok.gen (M6 q0 (by omega) (by omega) (by omega) (by omega)) (fun n s1 hn q1=>?_)
  refine Ok.gen (KZ q1 (by omega) (by omega)) (fun a s2 ha q2=>?_)
  refine Ok.gen (ja q2 (by omega) (by simp) (by simp)) (fun k s3 _ q3=>?_)
  refine Ok.gen (ja q3 (by omega) (by simp) (by simp)) (fun p s4 hp q4=>?_)
  refine Ok.gen (Nj q4 (by omega)) (fun t s5 _ q5=>?_)
  have bZ:p.length≤1000:=by
   simp only [List.mem_cons,List.not_mem_nil,or_false] at hp
   rcases hp with rfl | rfl | rfl | rfl<;>decide
  exact ⟨true,Pt l s0 a s2 k s3 p s4 t s5 (by omega) hl.2 ha.2 bZ,rfl⟩
 obtain ⟨r,h1,rfl⟩:=key
 exact h1
end Go.Beacon
