/- Plain facts on what the functions compute. No program in sight. -/
import Derived.Test.YtnchkajkgjkpmaaGreatDoorOdfP
import Derived.Test.YtnchkajkgjkpmaaGreatDoorPlBA
import Derived.Lib.MapLaws
import Derived.Lib.ValidLaws
import Derived.Lib.TrimUEq
set_option linter.unusedVariables false
set_option linter.unusedSimpArgs false
namespace Go.Beacon
open Go Go.Eng
abbrev wc:=ah
def og (s:wc) (k:Int):Prop:=0≤s.at_∧s.at_+k≤4611686018427387904
theorem og.less {s:wc} {k k':Int} (h:og s k) (hk:k'≤k):og s k':=⟨h.1,by have:=h.2;omega⟩
def ru {α:Type} (m:Option (α×wc)) (k:Int) (P:α→Prop):Prop:=∃ v s',m=some (v,s')∧P v∧og s' k
theorem ru.bind {α β:Type} {m:Option (α×wc)} {k k':Int} {P:α→Prop} {Q:β→Prop} {f:α×wc→Option (β×wc)} (h:ru m k P) (hf:∀ v s',P v→og s' k→ru (f (v,s')) k' Q):ru (m.bind f) k' Q:=by
 obtain ⟨v,s',rfl,h1,h2⟩:=h
 exact hf v s' h1 h2
theorem ru.ret {α:Type} {v:α} {s:wc} {k:Int} {P:α→Prop} (h1:P v) (h2:og s k):ru (some (v,s)) k P:=⟨v,s,rfl,h1,h2⟩
theorem Gc (x:Int) {n:Int} (h1:1≤n) (h2:n≤4611686018427387904):∃ v,Below x n=some v∧0≤v∧v < n:=by
 unfold Below zb
 rw [if_neg (by omega),XK (by omega)]
 have a1:=Int.lt_tmod_of_pos x (show 0 < n by omega)
 have a2:=Int.tmod_lt_of_pos x (show 0 < n by omega)
 simp only [Option.bind_some]
 split
 ·exact ⟨_,rfl,by rw [bb]<;>omega,by rw [bb]<;>omega⟩
 ·exact ⟨_,rfl,by omega,by omega⟩
theorem Cu {s:wc} {n k:Int} (hs:og s (k+1)) (h1:1≤n) (h2:n≤4611686018427387904) (hk:0≤k):ru (cO s n) k (fun v=>0≤v∧v < n):=by
 obtain ⟨a1,a2⟩:=hs
 have e1:cd (s.at_+1)=s.at_+1:=by rw [bb]<;>omega
 have e2:cd (s.at_+1 - 1)=s.at_:=by rw [bb]<;>omega
 unfold cO
 split
 ·obtain ⟨v,hv,h3,h4⟩:=Gc (cd (cd (s.at_+1) * 7919)) h1 h2
  rw [hv]
  exact ru.ret ⟨h3,h4⟩ ⟨by show 0≤cd (s.at_+1);omega,by show cd (s.at_+1)+k≤_;omega⟩
 ·rename_i hl
  have CJ:(0:Int) < s.L.length:=by omega
  rw [e1,e2,U6 CJ a1,XL (by omega)]
  simp only [Option.bind_some]
  obtain ⟨x,hx,_,_⟩:=iq s.L (i:=s.at_ % s.L.length) (Int.emod_nonneg _ (by omega)) (Int.emod_lt_of_pos _ CJ)
  rw [hx]
  simp only [Option.bind_some]
  obtain ⟨u,hu,_,_⟩:=Gc x (n:=1073741824) (by omega) (by omega)
  rw [hu]
  simp only [Option.bind_some]
  obtain ⟨v,hv,h3,h4⟩:=Gc (cd (u+cd (cd (s.at_.tdiv s.L.length) * cd (7919+s.at_ % s.L.length)))) h1 h2
  rw [hv]
  exact ru.ret ⟨h3,h4⟩ ⟨by simp only;omega,by simp only;omega⟩
theorem Og {s:wc} {l:List Int} {k:Int} (hs:og s (k+1)) (h1:l≠[]) (h2:l.length≤1000) (hk:0≤k):ru (cj s l) k (fun v=>v∈l):=by
 unfold cj
 have hl:0 < l.length:=List.length_pos_iff.2 h1
 refine ru.bind (Cu hs (by omega) (by omega) hk) (fun v s' hv H5=>?_)
 obtain ⟨x,hx,hm,_⟩:=iq l hv.1 hv.2
 simp only [hx,Option.bind_some]
 exact ru.ret hm H5
theorem Sm {s:wc} {a b k:Int} (hs:og s (k+1)) (Ff:a≤b) (ha:-1152921504606846976≤a) (hb:b≤1152921504606846976) (hk:0≤k):ru (rZ s a b) k (fun v=>a≤v∧v≤b):=by
 unfold rZ
 have e1:cd (b - a)=b - a:=by rw [bb]<;>omega
 have e2:cd (b - a+1)=b - a+1:=by rw [bb]<;>omega
 rw [if_neg (by omega),e1,e2]
 refine ru.bind (Cu hs (by omega) (by omega) hk) (fun v s' hv H5=>?_)
 refine ru.ret ?_ H5
 simp only
 rw [bb]<;>omega
theorem Oh {s:wc} {n k:Int} (hs:og s (k+1)) (h1:1≤n) (h2:n≤4611686018427387904) (hk:0≤k):ru (dE s n) k (fun _=>True):=by
 unfold dE
 exact ru.bind (Cu hs h1 h2 hk) (fun v s' hv H5=>ru.ret trivial H5)
theorem Cv {l:List Int} {v lo hi:Int} (h:v∈l) (hl:l.all (fun x=>decide (lo≤x∧x≤hi))=true):lo≤v∧v≤hi:=by
 rw [List.all_eq_true] at hl
 simpa using hl v h
theorem Vc {s:wc} {l:List ai} {k:Int} (hs:og s (k+1)) (h1:l≠[]) (h2:l.length≤1000) (hk:0≤k):ru (bI s l) k (fun v=>v∈l):=by
 unfold bI
 have hl:0 < l.length:=List.length_pos_iff.2 h1
 refine ru.bind (Cu hs (by omega) (by omega) hk) (fun v s' hv H5=>?_)
 obtain ⟨x,hx,hm,_⟩:=iq l hv.1 hv.2
 simp only [hx,Option.bind_some]
 exact ru.ret hm H5
theorem XR {s:wc} {a b k:Int} (hs:og s (k+2)) (Ff:a≤b) (ha:-1099511627776≤a) (hb:b≤1099511627776) (hk:0≤k):ru (oP s a b) k (fun v=>-1099511627777≤v∧v≤1099511627777):=by
 unfold oP
 refine ru.bind (Oh (k:=k+1) (hs.less (by omega)) (by omega) (by omega) (by omega)) (fun v s' hv H5=>?_)
 simp only
 split
 ·refine ru.bind (Og H5 (by simp) (by simp) hk) (fun v s' hv H5=>ru.ret ?_ H5)
  have e1:cd (a - 1)=a - 1:=by rw [bb]<;>omega
  have e2:cd (b+1)=b+1:=by rw [bb]<;>omega
  rw [e1,e2] at hv
  simp only [List.mem_cons,List.not_mem_nil,or_false] at hv
  simp only;omega
 ·refine ru.bind (Sm H5 Ff (by omega) (by omega) hk) (fun v s' hv H5=>ru.ret ?_ H5)
  simp only;omega
theorem M4 (n lo hi:Int):kB n lo hi=(decide (n < lo)||decide (hi < n)):=rfl
theorem Sn (n lo hi:Int):yH n lo hi=(decide (lo≤n)&&decide (n≤hi)):=rfl
def TE (n:Nat):Bool:=(decide (97≤n)&&decide (n≤122))||(decide (48≤n)&&decide (n≤57))||decide (n=45)||decide (n=95)
def vS:ai→Bool
 | []=>false
 | c :: r=>decide ((c :: r).length≤40)&&(decide (97≤c.toNat)&&decide (c.toNat≤122))&&(c :: r).all (fun c=>TE c.toNat)
theorem xD (c:UInt8) (r:ai):vS (c :: r)=(decide ((c :: r).length≤40)&&(decide (97≤c.toNat)&&decide (c.toNat≤122))&&(c :: r).all (fun c=>TE c.toNat)):=rfl
theorem Sp (s:ai) (hl:s.length≤40):ze s 0=some (s.all (fun c=>TE c.toNat)):=by
 unfold ze
 rw [jj s (fun x:Int=>oT s x) (fun c=>if TE c.toNat=true then none else some false) true (by omega),Ga]
 ·intro i c h0 h1 hc
  have hB:(if (97:Int)≤(c.toNat:Int) then if (c.toNat:Int)≤(122:Int) then !true else if (48:Int)≤(c.toNat:Int) then if (c.toNat:Int)≤(57:Int) then !true else if (c.toNat:Int)=(45:Int) then !true else decide (¬ ((c.toNat:Int)=(95:Int))) else if (c.toNat:Int)=(45:Int) then !true else decide (¬ ((c.toNat:Int)=(95:Int))) else if (48:Int)≤(c.toNat:Int) then if (c.toNat:Int)≤(57:Int) then !true else if (c.toNat:Int)=(45:Int) then !true else decide (¬ ((c.toNat:Int)=(95:Int))) else if (c.toNat:Int)=(45:Int) then !true else decide (¬ ((c.toNat:Int)=(95:Int))))=!TE c.toNat:=by
   unfold TE
   rw [Bool.eq_iff_iff]
   repeat' split
   all_goals simp
   all_goals omega
  rw [oT,if_pos h1,hc]
  simp only [Option.bind_some]
  rw [hB]
  unfold wz
  rw [bb (by omega) (by omega)]
  cases TE c.toNat<;>rfl
 ·rw [oT,if_neg (by omega)];rfl
theorem wZ (s:ai):k7 s=some (vS s):=by
 unfold k7 oU
 cases s with
 | nil=>simp [vS]
 | cons c r=>
   rw [if_neg (by simp)]
   have hc:idx (c :: r) 0=some c:=rfl
   rw [hc]
   simp only [Option.bind_some]
   by_cases hl:(c :: r).length≤40
   ·rw [if_neg (by omega),Sp _ hl,xD]
    by_cases h1:(c.toNat:Int) < 97
    ·rw [if_pos h1]
     have:decide (97≤c.toNat)=false:=by simp;omega
     rw [this];simp
    ·rw [if_neg h1]
     have e1:decide (97≤c.toNat)=true:=by simp;omega
     by_cases h2:(122:Int) < c.toNat
     ·rw [if_pos (by simpa using h2)]
      have:decide (c.toNat≤122)=false:=by simp;omega
      rw [this];simp
     ·rw [if_neg (by simpa using h2)]
      have:decide (c.toNat≤122)=true:=by simp;omega
      rw [e1,this,decide_eq_true hl];simp
   ·rw [if_pos (by omega),xD,decide_eq_false hl];simp
theorem PD:∀ n:Fin 256,decide (UInt8.ofNat n.val∈([97,98,99,100,101,102,103,104,105,106,107,108,109,110,111,112,113,114,115,116,117,118,119,120,121,122,48,49,50,51,52,53,54,55,56,57,45,95]:List UInt8))=TE n.val:=by decide+kernel
theorem Vd:∀ n:Fin 256,decide (UInt8.ofNat n.val∈([97,98,99,100,101,102,103,104,105,106,107,108,109,110,111,112,113,114,115,116,117,118,119,120,121,122]:List UInt8))=(decide (97≤n.val)&&decide (n.val≤122)):=by decide+kernel
theorem Sq {p:UInt8→Bool} {q:Nat→Bool} (h:∀ n:Fin 256,p (UInt8.ofNat n.val)=q n.val) (c:UInt8):p c=q c.toNat:=by
 have:=h ⟨c.toNat,c.toNat_lt⟩
 simpa using this
theorem Ln (a b:Int):cmp_Compare_int a b=Bm a b:=by
 unfold cmp_Compare_int cmp_isNaN_int Bm;simp
theorem PE (n:Int):iU n=(decide (0≤n)&&decide (n≤345686399999)):=by
 unfold iU
 rw [M4,Bool.eq_iff_iff]
 simp
theorem Lo {S A:Type} (f:S→Option (S⊕A)) (m:S→Nat) (Inv:S→Prop) (R:A→Prop)
 (h:∀ s,Inv s→(∃ s',f s=some (.inl s')∧Inv s'∧m s' < m s)∨(∃ a,f s=some (.inr a)∧R a)):∀ s,Inv s→∃ a,iter f s=some a∧R a:=by
 have key:∀ (n:Nat) s,m s≤n→Inv s→∃ a,iter f s=some a∧R a:=by
  intro n
  induction n with
  | zero=>
    intro s hm hi
    rcases h s hi with ⟨s',_,_,h3⟩ | ⟨a,h1,h2⟩
    ·omega
    ·exact ⟨a,by rw [iter_eq,h1];rfl,h2⟩
  | succ n ih=>
    intro s hm hi
    rcases h s hi with ⟨s',h1,h2,h3⟩ | ⟨a,h1,h2⟩
    ·obtain ⟨a,h4,h5⟩:=ih s' (by omega) h2
     exact ⟨a,by rw [iter_eq,h1];simpa using h4,h5⟩
    ·exact ⟨a,by rw [iter_eq,h1];rfl,h2⟩
 exact fun s hi=>key (m s) s (Nat.le_refl _) hi
theorem u64_in {x:Int} (h0:0≤x) (h1:x≤9223372036854775807):IntKind.u64.wrap x=x:=by
 unfold IntKind.wrap
 simp [IntKind.bits,IntKind.signed]
 omega
theorem af4 (x y z:Int):tw [x,y,z]=if tw [x,y]≠0 then tw [x,y] else z:=by
 by_cases h1:x=0<;>by_cases h2:y=0<;>by_cases h3:z=0<;>simp [tw,h1,h2,h3]
theorem Ve (x y:Int):tw [x,y]=if x≠0 then x else y:=by
 by_cases h1:x=0<;>by_cases h2:y=0<;>simp [tw,h1,h2]
def cu (c:UInt8):ai→List ai
 | []=>[[]]
 | b :: r=>if b=c then [] :: cu c r else match cu c r with
   | []=>[[b]]
   | h :: t=>(b :: h) :: t
theorem zU (c:UInt8):∀ s,cu c s≠[]
 | []=>by simp [cu]
 | b :: r=>by
   unfold cu
   split
   ·simp
   ·split<;>simp
theorem ua (c:UInt8):∀ s,(cu c s).length≤s.length+1
 | []=>by simp [cu]
 | b :: r=>by
   have ih:=ua c r
   unfold cu
   split
   ·simp;omega
   ·split
    ·simp
    ·rename_i h t e;rw [e] at ih;simp at ih ⊢;omega
theorem Oi (c:UInt8):∀ s,Lib.split s [c]=cu c s
 | []=>rfl
 | b :: r=>by
   have ih:=Oi c r
   unfold Lib.split at ih ⊢
   unfold cu
   by_cases hb:b=c
   ·subst hb
    have Tq:Lib.index (b :: r) [b]=0:=by rw [Lib.index];simp [List.isPrefixOf]
    rw [if_pos rfl,Lib.count_cons_eq,Nat.add_comm,Lib.splitK,Tq,← ih]
    simp
   ·rw [if_neg hb,Lib.count_cons_ne b c r hb,← ih]
    have hp:([c]:List UInt8).isPrefixOf (b :: r)=false:=by simp [List.isPrefixOf,Ne.symm hb]
    have Tq:Lib.index (b :: r) [c]=if Lib.index r [c]==-1 then -1 else Lib.index r [c]+1:=by rw [Lib.index,hp];simp
    by_cases hm:Lib.index r [c]=-1
    ·rw [Lib.count_miss hm];rfl
    ·have VS:=Lib.index_ge r [c]
     obtain ⟨j,hj⟩:∃ j:Nat,Lib.index r [c]=j:=⟨(Lib.index r [c]).toNat,by omega⟩
     have XS:Lib.index (b :: r) [c]=((j+1:Nat):Int):=by rw [Tq,if_neg (fun e=>hm (beq_iff_eq.1 e)),hj];omega
     rw [Lib.count_hit (by simp) hj,Nat.add_comm]
     have n1:¬ ((((j+1:Nat):Int)==-1)=true):=fun h=>by have:=beq_iff_eq.1 h;omega
     have n2:¬ ((((j:Nat):Int)==-1)=true):=fun h=>by have:=beq_iff_eq.1 h;omega
     simp only [Lib.splitK,XS,hj,if_neg n1,if_neg n2]
     simp [List.take_succ_cons]
theorem xE {s:ai} {c:UInt8} (h:s.length≤1000000000):A9 s [c]=some (cu c s):=by
 unfold A9
 rw [if_pos ⟨by omega,by simp⟩]
 congr 1
 have h1:=Lib.splitB_data ⟨#[c]⟩ 0 (Lib.countB ⟨s.toArray⟩ ⟨#[c]⟩) ⟨s.toArray⟩
 rw [← Oi]
 exact h1
def wi (c:UInt8):ai→ai×ai×Bool
 | []=>([],[],false)
 | b :: r=>if b=c then ([],r,true) else (b :: (wi c r).1,(wi c r).2.1,(wi c r).2.2)
theorem Di (c:UInt8):∀ s,(wi c s).2.2=false→(wi c s).1=s∧(wi c s).2.1=[]
 | []=>fun _=>⟨rfl,rfl⟩
 | b :: r=>by
   have ih:=Di c r
   unfold wi
   split
   ·intro h;cases h
   ·intro h;have:=ih h;simp [this]
theorem Wl (c:UInt8):∀ s,Lib.cut s [c]=wi c s
 | []=>rfl
 | b :: r=>by
   have ih:=Wl c r
   unfold Lib.cut at ih ⊢
   unfold wi
   by_cases hb:b=c
   ·subst hb
    have Tq:Lib.index (b :: r) [b]=0:=by rw [Lib.index];simp [List.isPrefixOf]
    rw [if_pos rfl,Tq];simp
   ·rw [if_neg hb,← ih]
    have hp:([c]:List UInt8).isPrefixOf (b :: r)=false:=by simp [List.isPrefixOf,Ne.symm hb]
    have Tq:Lib.index (b :: r) [c]=if Lib.index r [c]==-1 then -1 else Lib.index r [c]+1:=by rw [Lib.index,hp];simp
    by_cases hm:Lib.index r [c]=-1
    ·rw [Tq,hm];simp
    ·have VS:=Lib.index_ge r [c]
     have hn:¬ ((Lib.index r [c]==-1)=true):=fun e=>hm (beq_iff_eq.1 e)
     obtain ⟨j,hj⟩:∃ j:Nat,Lib.index r [c]=j:=⟨(Lib.index r [c]).toNat,by omega⟩
     have XS:Lib.index (b :: r) [c]=((j+1:Nat):Int):=by rw [Tq,if_neg hn,hj];omega
     rw [XS,hj,if_pos (by omega),if_pos (by omega)]
     simp
theorem Vf {s:ai} {c:UInt8} (h:s.length≤1000000000):RC s [c]=some (wi c s):=by
 unfold RC
 rw [if_pos (by omega),Wl]
theorem H6 (c:UInt8):∀ s,cu c s=if (wi c s).2.2=true then (wi c s).1 :: cu c (wi c s).2.1 else [s]
 | []=>rfl
 | b :: r=>by
   have ih:=H6 c r
   have e1:cu c (b :: r)=(if b=c then [] :: cu c r else match cu c r with
    | []=>[[b]]
    | h :: t=>(b :: h) :: t):=rfl
   rw [e1]
   unfold wi
   by_cases hb:b=c
   ·rw [if_pos hb,if_pos hb];rfl
   ·rw [if_neg hb,if_neg hb,ih]
    by_cases hc:(wi c r).2.2=true
    ·simp [hc]
    ·simp [hc]
theorem Lp (c:UInt8):∀ s,(wi c s).1.length≤s.length∧(wi c s).2.1.length≤s.length
 | []=>⟨Nat.le_refl _,Nat.le_refl _⟩
 | b :: r=>by
   have ih:=Lp c r
   unfold wi
   split
   ·simp
   ·simp;omega
def ry (k:Nat) (s:ai):Bool:=decide ((cu 46 s).length≤k)&&(cu 46 s).all vS
theorem zv (PF:Nat) (hm:PF≤1000):∀ (k:Nat) (s:ai) (n:Int),0≤n→n+k=PF→s.length≤1000000000→sb PF s n=some (ry k s)
 | 0,s,n,h0,hn,hs=>by
   have uc:=zU 46 s
   have hp:0 < (cu 46 s).length:=List.length_pos_iff.2 uc
   unfold sb
   rw [iter_eq]
   show (match iT PF s n with | _=>_)=_
   rw [iT,if_neg (by omega)]
   simp only [Option.map_some,Option.bind_some]
   unfold ry
   rw [decide_eq_false (by omega)];rfl
 | k+1,s,n,h0,hn,hs=>by
   have ih:=zv PF hm k (wi 46 s).2.1 (n+1) (by omega) (by omega) (by have:=(Lp 46 s).2;omega)
   unfold sb at ih ⊢
   rw [iter_eq]
   show (match iT PF s n with | _=>_)=_
   rw [iT,if_pos (by omega),Vf hs]
   simp only [Option.bind_some,wZ]
   unfold ry
   rw [H6 46 s]
   by_cases hk:vS (wi 46 s).1=true
   ·by_cases hc:(wi 46 s).2.2=true
    ·simp only [hk,hc,Bool.not_true,Bool.false_eq_true,if_false,if_true]
     rw [bb (by omega) (by omega)]
     refine ih.trans ?_
     unfold ry
     simp [hk]
    ·have H5:=Di 46 s (by simpa using hc)
     rw [H5.1] at hk
     simp [hk,hc,H5.1]
   ·by_cases hc:(wi 46 s).2.2=true
    ·simp [hk,hc]
    ·have H5:=Di 46 s (by simpa using hc)
     rw [H5.1] at hk
     simp [hk,hc,H5.1]
def Ev (c:UInt8):Bool:=decide (c.toNat < 32)||decide (c.toNat=127)
def Sr (s:ai):Bool:=!s.any Ev&&Lib.validD s
theorem Lq (s:ai) (hl:s.length≤1000000):qg s=some (Sr s):=by
 unfold qg xk
 have h:=jj s (fun x:Int=>fu s x) (fun c=>if Ev c=true then some false else none) (Lib.validD s) (by omega) (fun i c h0 h1 h2=>by
  show fu s i=_
  unfold fu mf Ev
  rw [if_pos h1,h2]
  simp only [Option.bind_some]
  rw [bb (by omega) (by omega)]
  by_cases q1:c.toNat < 32
  ·rw [if_pos (by omega)];simp [q1]
  ·rw [if_neg (by omega)]
   by_cases q2:c.toNat=127
   ·simp [q2]
   ·have:¬ ((c.toNat:Int)=127):=by omega
    simp [q1,q2,this]) (by
  show fu s s.length=_
  unfold fu tc wQ
  rw [if_neg (by omega),if_pos (by omega)];rfl)
 rw [h]
 unfold Sr
 congr 1
 induction s with
 | nil=>simp [nI]
 | cons c r ih=>exact Ss c r _
where
 Ss (c:UInt8) (r:ai) (e:Bool):nI (fun c=>if Ev c=true then some false else none) e (c :: r)=(!(c :: r).any Ev&&e):=by
  have key:∀ (l:ai),nI (fun c=>if Ev c=true then some false else none) e l=(!l.any Ev&&e):=by
   intro l
   induction l with
   | nil=>simp [nI]
   | cons x t ih=>
     simp only [nI,List.any_cons]
     cases hx:Ev x with
     | true=>simp
     | false=>simp [ih]
  exact key _
theorem zW {α:Type} (p:α→Bool):∀ l:List α,l.dropWhile p=[]↔l.all p=true
 | []=>by simp
 | x :: r=>by
   rw [List.dropWhile_cons]
   cases h:p x with
   | true=>simp only [if_true,List.all_cons,h,Bool.true_and];exact zW p r
   | false=>simp [h]
theorem H7 (l cs:ai):Lib.trimS l cs=[]↔l.all (fun c=>decide (c∈cs))=true:=by
 have hc:∀ c:UInt8,cs.contains c=decide (c∈cs):=fun c=>by rw [Bool.eq_iff_iff];simp
 unfold Lib.trimS Lib.trimLeftS Lib.trimRightS
 rw [zW,List.all_reverse]
 constructor
 ·intro h
  have hd:(l.reverse.dropWhile (cs.contains ·))=[]:=by
   cases hh:l.reverse.dropWhile (cs.contains ·) with
   | nil=>rfl
   | cons a b=>
     have h1:=List.head?_dropWhile_not (fun c=>cs.contains c) l.reverse
     rw [hh] at h h1
     simp only [List.head?_cons] at h1
     simp only [List.all_cons,Bool.and_eq_true] at h
     rw [h.1] at h1;simp at h1
  rw [zW,List.all_reverse] at hd
  simpa [hc] using hd
 ·intro h
  have hd:l.reverse.dropWhile (cs.contains ·)=[]:=by
   rw [zW,List.all_reverse];simpa [hc] using h
  rw [hd];rfl
theorem Lr {s cs:ai} (h1:s.length≤100000) (h2:cs.length≤100000) (h3:cs.all (fun b=>decide (b.toNat < 128))=true):HV s cs=some (Lib.trimS s cs):=by
 unfold HV;rw [if_pos ⟨by omega,by omega,h3⟩]
theorem nJ (s:ai):uU s=some (vS s):=by
 unfold uU xu
 rw [Sn]
 cases s with
 | nil=>rfl
 | cons c r=>
   by_cases hl:(c :: r).length≤40
   ·rw [if_pos (by simp;simp at hl;omega),Lr (by omega) (by simp) (by decide)]
    simp only [Option.bind_some]
    have e:(c :: r).all (fun c=>decide (c∈([97,98,99,100,101,102,103,104,105,106,107,108,109,110,111,112,113,114,115,116,117,118,119,120,121,122,48,49,50,51,52,53,54,55,56,57,45,95]:List UInt8)))=(c :: r).all (fun c=>TE c.toNat):=by
     congr 1;funext c
     exact Sq (p:=fun c=>decide (c∈([97,98,99,100,101,102,103,104,105,106,107,108,109,110,111,112,113,114,115,116,117,118,119,120,121,122,48,49,50,51,52,53,54,55,56,57,45,95]:List UInt8))) PD c
    have e2:=Sq (p:=fun c=>decide (c∈([97,98,99,100,101,102,103,104,105,106,107,108,109,110,111,112,113,114,115,116,117,118,119,120,121,122]:List UInt8))) (q:=fun n=>decide (97≤n)&&decide (n≤122)) Vd c
    rw [xD,decide_eq_true hl,Bool.true_and,← e,← e2]
    by_cases ht:Lib.trimS (c :: r) ([97,98,99,100,101,102,103,104,105,106,107,108,109,110,111,112,113,114,115,116,117,118,119,120,121,122,48,49,50,51,52,53,54,55,56,57,45,95]:ai)=[]
    ·rw [if_pos ht,(H7 _ _).1 ht,Bool.and_true]
     have i0:idx (c :: r) 0=some c:=rfl
     rw [i0]
     simp only [Option.bind_some,xS,af3]
     congr 1
     have:=xC ([97,98,99,100,101,102,103,104,105,106,107,108,109,110,111,112,113,114,115,116,117,118,119,120,121,122]:List UInt8) c
     rw [decide_eq_decide]
     constructor
     ·intro h;exact Classical.byContradiction fun h'=>by have:=this.2 h';omega
     ·intro h;have h':=mt this.1 (fun h'=>h' h);omega
    ·rw [if_neg ht]
     have:(c :: r).all (fun c=>decide (c∈([97,98,99,100,101,102,103,104,105,106,107,108,109,110,111,112,113,114,115,116,117,118,119,120,121,122,48,49,50,51,52,53,54,55,56,57,45,95]:List UInt8)))=false:=by
      rw [← Bool.not_eq_true];exact fun h=>ht ((H7 _ _).2 h)
     rw [this,Bool.and_false]
   ·rw [if_neg (by simp;simp at hl;omega),xD,decide_eq_false hl];rfl
def preB (s p:ai):Bool:=decide (s.take p.length=p)
theorem Ls {s p:ai} (h:preB s p=true):p.length≤s.length:=by
 have h:s.take p.length=p:=of_decide_eq_true h
 have:=congrArg List.length h
 simp at this;omega
theorem zw (s p:ai) (h:s.length≤1000000000):dj s p=some (preB s p):=by
 unfold dj dA
 by_cases c:p.length≤s.length
 ·rw [if_pos (by omega),wX (by omega) (by omega) (by omega)]
  simp only [Option.bind_some]
  unfold preB
  simp
 ·rw [if_neg (by omega)]
  cases hp:preB s p with
  | false=>rfl
  | true=>exact absurd (Ls hp) c
theorem sG (s p:ai) (h:s.length≤1000000000):strings_CutPrefix s p=some (if preB s p=true then (s.drop p.length,true) else (s,false)):=by
 unfold strings_CutPrefix fp
 rw [zw s p h]
 simp only [Option.bind_some]
 cases hp:preB s p with
 | false=>simp
 | true=>
   have:=Ls hp
   rw [if_neg (by simp),wX (by omega) (by omega) (by omega)]
   simp only [Option.bind_some,if_true]
   congr 2
   rw [List.take_of_length_le (by simp)];simp
theorem w4 (s p:ai) (h:s.length≤1000000000):strings_HasPrefix s p=some (preB s p):=by
 unfold strings_HasPrefix
 rw [zw s p h];rfl
abbrev xF:ai:=[116,97,103,46]
abbrev uE:ai:=[112,114,111,112,46]
abbrev AP:ai:=[102,105,114,109,119,97,114,101]
def Lt (s:ai):Bool:=decide (s.length≤40)&&ry 5 s
theorem zy {s:ai} (h:s.length≤1000000000):nL s=some (Lt s):=by
 unfold nL me Lt
 by_cases c:s.length≤40
 ·rw [if_pos (by omega)]
  unfold mI
  rw [show (5:Int)=((5:Nat):Int) from rfl,zv 5 (by omega) 5 s 0 (by omega) (by omega) h]
  simp [c]
 ·rw [if_neg (by omega)];simp [c]
theorem DK {s:ai} (h:s.length≤1000000000):te s=some (Lt s):=by
 unfold te nR Lt ry
 rw [xE h]
 simp only [Option.bind_some]
 have hl:=ua 46 s
 by_cases c:s.length≤40
 ·rw [if_pos (by omega)]
  by_cases d:(cu 46 s).length≤5
  ·rw [if_pos (by omega)]
   have hc:aV (cu 46 s) (fun y0=>ql y0)=some ((cu 46 s).any (fun x=>!vS x)):=
    dW _ _ _ (fun x _=>by unfold ql;rw [nJ];rfl) (by omega)
   rw [hc]
   simp only [Option.bind_some,Option.some.injEq]
   simp [c,d,List.all_eq_not_any_not]
  ·rw [if_neg (by omega)];simp [d]
 ·rw [if_neg (by omega)];simp [c]
def Gd (s:ai):Bool:=preB s xF&&vS (s.drop 4)
def sH (s:ai):Bool:=preB s uE&&Lt (s.drop 5)
theorem Lu {s:ai} (h:s.length≤1000000000):ta s=some (Gd s):=by
 unfold ta qa Gd
 rw [sG s _ h]
 simp only [Option.bind_some]
 cases hp:preB s xF with
 | false=>simp
 | true=>
   rw [if_pos rfl,if_pos rfl,wZ]
   simp
theorem Dj {s:ai} (h:s.length≤1000000000):oX s=some (sH s):=by
 unfold oX oW sH
 rw [sG s _ h]
 simp only [Option.bind_some]
 cases hp:preB s uE with
 | false=>simp
 | true=>
   rw [if_pos rfl,if_pos rfl,zy (by simp;omega)]
   simp
def uP (s:ai):Bool:=decide (s=[107,101,121])||(decide (s=[109,111,100,101,108])||(decide (s=[116,101,110,97,110,116])||decide (s=AP)))
theorem Su {s:ai} (h:s.length≤1000000000):vB s=some (uP s||(Gd s||sH s)):=by
 unfold vB iK uP
 by_cases c1:s=[107,101,121]
 ·rw [if_pos c1];simp [c1]
 by_cases c2:s=[109,111,100,101,108]
 ·rw [if_neg c1,if_pos c2];simp [c2]
 by_cases c3:s=[116,101,110,97,110,116]
 ·rw [if_neg c1,if_neg c2,if_pos c3];simp [c3]
 by_cases c4:s=AP
 ·rw [if_neg c1,if_neg c2,if_neg c3,if_pos c4];simp [c4]
 rw [if_neg c1,if_neg c2,if_neg c3,if_neg c4,Lu h]
 simp only [Option.bind_some]
 cases ht:Gd s with
 | true=>simp
 | false=>
   rw [if_neg (by simp),Dj h]
   simp [c1,c2,c3,c4]
theorem sI (L:List ai) (m:ai) (hl:L.length≤10000000):bc L m=some (decide (m∈L)):=by
 unfold bc gC
 have key:∀ (k:Nat) (n:Int),0≤n→n+k=L.length→∃ j,fH L m n=some j∧(0≤j↔m∈L.drop n.toNat):=by
  intro k
  induction k with
  | zero=>
    intro n h0 hn
    refine ⟨-1,?_,?_⟩
    ·unfold fH
     rw [iter_eq,dv,if_neg (by omega),cy]
    ·rw [List.drop_of_length_le (by omega)];simp
  | succ k ih=>
    intro n h0 hn
    obtain ⟨s,hs,_,hd⟩:=iq L h0 (by omega)
    unfold fH
    rw [iter_eq,dv,if_pos (by omega),hs]
    simp only [Option.bind_some]
    by_cases e:m=s
    ·rw [if_pos e,cy]
     exact ⟨n,rfl,by rw [hd,← e];simp;omega⟩
    ·rw [if_neg e,bb (by omega) (by omega)]
     simp only [Option.bind_some,du]
     obtain ⟨j,h1,h2⟩:=ih (n+1) (by omega) (by omega)
     exact ⟨j,h1,by rw [h2,hd];simp [e]⟩
 obtain ⟨j,h1,h2⟩:=key L.length 0 (by omega) (by omega)
 rw [h1]
 simp only [Option.bind_some,Option.some.injEq]
 rw [decide_eq_decide,h2];simp
theorem Hd {s:ai} (h:s.length≤1000000000) (has:Bool):sr s has=some (Gd s||(sH s||(!has&&uP s))):=by
 have j2:∀ c,kN s has c=some (c||(!has&&uP s)):=by
  intro c
  unfold kN nB
  cases c with
  | true=>simp
  | false=>
    rw [if_neg (by simp)]
    cases has with
    | true=>simp
    | false=>
      rw [if_pos (by simp),sI _ _ (by simp)]
      simp only [Option.bind_some,Option.some.injEq]
      unfold uP
      simp
 have j1:∀ c,kO s has c=some (c||(sH s||(!has&&uP s))):=by
  intro c
  unfold kO
  cases c with
  | true=>simp
  | false=>
    rw [if_neg (by simp),sG s _ h]
    simp only [Option.bind_some]
    unfold sH
    cases hp:preB s uE with
    | false=>rw [if_neg (by simp),j2];simp
    | true=>
      rw [if_pos rfl,if_pos rfl,DK (by simp;omega)]
      simp only [Option.bind_some]
      rw [j2];simp
 unfold sr
 rw [sG s _ h]
 simp only [Option.bind_some]
 unfold Gd
 cases hp:preB s xF with
 | false=>rw [if_neg (by simp),j1];simp
 | true=>
   rw [if_pos rfl,if_pos rfl,nJ]
   simp only [Option.bind_some]
   rw [j1];simp
def kG (v:bg):Bool:=(decide (0≤v.Kind)&&decide (v.Kind≤3))&&((decide (v.Kind=1)||!v.ch)&&((decide (v.Kind=2)||decide (v.Number=0))&&(decide (v.Kind=3)||decide (v.Words=[])))&&((decide (-1000000000≤v.Number)&&decide (v.Number≤1000000000))&&(decide (v.Words.length≤100)&&Lib.validD v.Words)))
theorem Sv (v:bg) (hw:v.Words.length≤1000000) (c:Bool) (n:Int) (q:ai):nM v c n q=some ((decide (v.ch=c)&&(decide (v.Number=n)&&decide (v.Words=q)))&&((decide (-1000000000≤v.Number)&&decide (v.Number≤1000000000))&&(decide (v.Words.length≤100)&&Lib.validD v.Words))):=by
 obtain ⟨k,f,m,w⟩:=v
 unfold nM lK wQ kB uu
 simp only [bg.mk.injEq,true_and]
 by_cases h1:f=c∧m=n∧w=q
 ·rw [if_pos h1]
  obtain ⟨rfl,rfl,rfl⟩:=h1
  by_cases h2:-1000000000≤m∧m≤1000000000
  ·rw [if_pos (by simp;omega)]
   by_cases h3:w.length≤100
   ·rw [if_pos (by omega),if_pos (by simp only at hw;omega)]
    simp [h2,h3]
   ·rw [if_neg (by omega)];simp [h3]
  ·rw [if_neg (by simp;omega)]
   rw [eq_comm];simp;omega
 ·rw [if_neg h1]
  rw [eq_comm];simp
  intro a b c'
  exact absurd ⟨a,b,c'⟩ h1
theorem Ge (v:bg) (hw:v.Words.length≤1000000):tb v=some (kG v):=by
 unfold tb qe qd
 simp only [Sv v hw]
 unfold kG
 by_cases k0:v.Kind=0
 ·rw [if_pos k0];simp [k0]
 by_cases k1:v.Kind=1
 ·rw [if_neg k0,if_pos k1];simp [k1]
 by_cases k2:v.Kind=2
 ·rw [if_neg k0,if_neg k1,if_pos k2];simp [k2]
 by_cases k3:v.Kind=3
 ·rw [if_neg k0,if_neg k1,if_neg k2,if_pos k3];simp [k3]
 rw [if_neg k0,if_neg k1,if_neg k2,if_neg k3]
 rw [eq_comm];simp;omega
theorem AR (v:bg) (hw:v.Words.length≤1000000):pE v=some (kG v):=by
 unfold pE yq
 have h:=jj [v.ch,decide (v.Number≠(0:Int)),decide (v.Words≠([]:ai))] (fun x:Int=>bZ v x) (fun _=>none) false (by simp)
 clear h
 have k3:jr v=some ((decide (0≤v.Kind)&&decide (v.Kind≤3))&&((decide (-1000000000≤v.Number)&&decide (v.Number≤1000000000))&&(Lib.validD v.Words&&decide (v.Words.length≤100)))):=by
  unfold jr kQ wQ yH xX
  by_cases h1:0≤v.Kind∧v.Kind≤3
  ·rw [if_pos (by simp;omega)]
   by_cases h2:-1000000000≤v.Number∧v.Number≤1000000000
   ·rw [if_pos (by simp;omega),if_pos (by omega)]
    have e:decide ((v.Words.length:Int)≤100)=decide (v.Words.length≤100):=by rw [decide_eq_decide];omega
    simp [h1,h2,e]
   ·rw [if_neg (by simp;omega)]
    rw [eq_comm];simp;omega
  ·rw [if_neg (by simp;omega)]
   rw [eq_comm];simp;omega
 have w1:cd ((0:Int)+1)=1:=bb (by omega) (by omega)
 have w2:cd ((1:Int)+1)=2:=bb (by omega) (by omega)
 have w3:cd ((2:Int)+1)=3:=bb (by omega) (by omega)
 have i0:idx [v.ch,decide (v.Number≠(0:Int)),decide (v.Words≠([]:ai))] 0=some v.ch:=rfl
 have i1:idx [v.ch,decide (v.Number≠(0:Int)),decide (v.Words≠([]:ai))] 1=some (decide (v.Number≠(0:Int))):=rfl
 have i2:idx [v.ch,decide (v.Number≠(0:Int)),decide (v.Words≠([]:ai))] 2=some (decide (v.Words≠([]:ai))):=rfl
 have b3:bZ v 3=Option.map .inr (jr v):=by unfold bZ;rw [if_neg (by simp)]
 have b2:bZ v 2=if (decide (v.Words≠([]:ai))&&decide (v.Kind≠3))=true then some (.inr false) else some (.inl 3):=by
  unfold bZ kP;rw [if_pos (by simp),i2,w3];rfl
 have b1:bZ v 1=if (decide (v.Number≠(0:Int))&&decide (v.Kind≠2))=true then some (.inr false) else some (.inl 2):=by
  unfold bZ kP;rw [if_pos (by simp),i1,w2];rfl
 have b0:bZ v 0=if (v.ch&&decide (v.Kind≠1))=true then some (.inr false) else some (.inl 1):=by
  unfold bZ kP;rw [if_pos (by simp),i0,w1];rfl
 have e3:iter (fun x:Int=>bZ v x) 3=jr v:=by rw [iter_eq,b3,cy]
 have e2:iter (fun x:Int=>bZ v x) 2=if (decide (v.Words≠([]:ai))&&decide (v.Kind≠3))=true then some false else jr v:=by
  rw [iter_eq,b2];split
  ·rfl
  ·simp only [Option.bind_some,du];exact e3
 have e1:iter (fun x:Int=>bZ v x) 1=if (decide (v.Number≠(0:Int))&&decide (v.Kind≠2))=true then some false else iter (fun x:Int=>bZ v x) 2:=by
  rw [iter_eq,b1];split
  ·rfl
  ·simp only [Option.bind_some,du]
 have e0:iter (fun x:Int=>bZ v x) 0=if (v.ch&&decide (v.Kind≠1))=true then some false else iter (fun x:Int=>bZ v x) 1:=by
  rw [iter_eq,b0];split
  ·rfl
  ·simp only [Option.bind_some,du]
 rw [e0,e1,e2,k3]
 unfold kG
 by_cases c0:(v.ch&&decide (v.Kind≠1))=true
 ·rw [if_pos c0];rw [eq_comm];simp at c0 ⊢;intro _ _ h;exact absurd (h.resolve_left c0.2) (by simp [c0.1])
 rw [if_neg c0]
 by_cases c1:(decide (v.Number≠(0:Int))&&decide (v.Kind≠2))=true
 ·rw [if_pos c1];rw [eq_comm];simp at c1 ⊢;intro _ _ _ h;exact absurd (h.resolve_left c1.2) c1.1
 rw [if_neg c1]
 by_cases c2:(decide (v.Words≠([]:ai))&&decide (v.Kind≠3))=true
 ·rw [if_pos c2];rw [eq_comm];simp at c2 ⊢;intro _ _ _ _ h;exact absurd (h.resolve_left c2.2) c2.1
 rw [if_neg c2]
 congr 1
 have d0:(decide (v.Kind=1)||!v.ch)=true:=by simp at c0 ⊢;cases hf:v.ch<;>simp_all
 have d1:(decide (v.Kind=2)||decide (v.Number=0))=true:=by simp at c1 ⊢;omega
 have d2:(decide (v.Kind=3)||decide (v.Words=[]))=true:=by
  simp at c2 ⊢
  by_cases hw0:v.Words=[]
  ·exact .inr hw0
  ·exact .inl (c2 hw0)
 rw [d0,d1,d2]
 simp only [Bool.true_and,Bool.and_comm (Lib.validD v.Words)]
theorem tz {s:wc} {n K:Int} (hs:og s K) (hK:1≤K) (h1:1≤n) (h2:n≤4611686018427387904):ru (cO s n) (K - 1) (fun v=>0≤v∧v < n):=
 Cu (hs.less (by omega)) h1 h2 (by omega)
theorem tA {s:wc} {n K:Int} (hs:og s K) (hK:1≤K) (h1:1≤n) (h2:n≤4611686018427387904):ru (dE s n) (K - 1) (fun _=>True):=
 Oh (hs.less (by omega)) h1 h2 (by omega)
theorem mF {s:wc} {l:List Int} {K:Int} (hs:og s K) (hK:1≤K) (h1:l≠[]) (h2:l.length≤1000):ru (cj s l) (K - 1) (fun v=>v∈l):=
 Og (hs.less (by omega)) h1 h2 (by omega)
theorem gV {s:wc} {l:List ai} {K:Int} (hs:og s K) (hK:1≤K) (h1:l≠[]) (h2:l.length≤1000):ru (bI s l) (K - 1) (fun v=>v∈l):=
 Vc (hs.less (by omega)) h1 h2 (by omega)
theorem Sw {s:wc} {a b K:Int} (hs:og s K) (hK:2≤K) (Ff:a≤b) (ha:-1099511627776≤a) (hb:b≤1099511627776):ru (oP s a b) (K - 2) (fun v=>-1099511627777≤v∧v≤1099511627777):=
 XR (hs.less (by omega)) Ff ha hb (by omega)
def Ok {α:Type} (m:Option α) (Q:α→Prop):Prop:=∃ r,m=some r∧Q r
theorem Ok.ret {α:Type} {v:α} {Q:α→Prop} (h:Q v):Ok (some v) Q:=⟨v,rfl,h⟩
theorem Ok.mono {α:Type} {m:Option α} {P Q:α→Prop} (h:Ok m P) (hp:∀ v,P v→Q v):Ok m Q:=by
 obtain ⟨r,h1,h2⟩:=h;exact ⟨r,h1,hp r h2⟩
theorem Ok.inr {α β:Type} {m:Option β} {Q:α⊕β→Prop} (h:Ok m (fun r=>Q (.inr r))):Ok (Option.map .inr m) Q:=by
 obtain ⟨r,rfl,h2⟩:=h;exact ⟨_,rfl,h2⟩
theorem Ok.gen {α β:Type} {m:Option (α×wc)} {k:Int} {P:α→Prop} {f:α×wc→Option β} {Q:β→Prop} (h:ru m k P) (hf:∀ v s',P v→og s' k→Ok (f (v,s')) Q):Ok (m.bind f) Q:=by
 obtain ⟨v,s',rfl,h1,h2⟩:=h;exact hf v s' h1 h2
theorem ru.of {α:Type} {m:Option (α×wc)} {k:Int} {P:α→Prop} (h:Ok m (fun r=>P r.1∧og r.2 k)):ru m k P:=by
 obtain ⟨⟨v,s⟩,h1,h2,h3⟩:=h;exact ⟨v,s,h1,h2,h3⟩
theorem Ok.idx {α β:Type} {xs:List α} {i:Int} {f:α→Option β} {Q:β→Prop} (h0:0≤i) (h1:i < xs.length) (hf:∀ x,idx xs i=some x→x∈xs→Ok (f x) Q):Ok ((idx xs i).bind f) Q:=by
 obtain ⟨x,hx,hm,_⟩:=iq xs h0 h1
 rw [hx];exact hf x hx hm
theorem Ok.app {α β:Type} {xs ys:List α} {f:List α→Option β} {Q:β→Prop} (h:xs.length+ys.length≤1000000000) (hf:Ok (f (xs++ys)) Q):Ok ((app xs ys).bind f) Q:=by
 rw [mD h];exact hf
theorem XT {a b:ai} (h:a.length+b.length≤9223372036854775807):KF a b=some (a++b):=by unfold KF;rw [if_pos h]
abbrev Wm {S A:Type} (m:S→Nat) (Inv:S→Prop) (R:A→Prop) (s:S):S⊕A→Prop
 | .inl s'=>Inv s'∧m s' < m s
 | .inr a=>R a
theorem Ok.iter {S A:Type} {f:S→Option (S⊕A)} {R:A→Prop} (m:S→Nat) (Inv:S→Prop)
 (h:∀ s,Inv s→Ok (f s) (Wm m Inv R s)) (s:S) (hs:Inv s):Ok (iter f s) R:=by
 refine Lo f m Inv R (fun s hi=>?_) s hs
 obtain ⟨r,h1,h2⟩:=h s hi
 cases r with
 | inl s'=>exact .inl ⟨s',h1,h2.1,h2.2⟩
 | inr a=>exact .inr ⟨a,h1,h2⟩
abbrev Rng {A:Type} (N:Nat) (R:A→Prop) (i:Int):Int⊕A→Prop
 | .inl j=>j=i+1∧i < N
 | .inr a=>R a
theorem Ok.range {A:Type} {f:Int→Option (Int⊕A)} {R:A→Prop} (N:Nat) (h:∀ i:Int,0≤i→i≤N→Ok (f i) (Rng N R i)):Ok (Eng.iter f 0) R:=by
 refine Ok.iter (fun i:Int=>N+1 - i.toNat) (fun i:Int=>0≤i∧i≤N) (fun i hi=>?_) 0 ⟨by omega,by omega⟩
 refine (h i hi.1 hi.2).mono (fun r hr=>?_)
 cases r with
 | inl j=>simp only [Rng,Wm] at hr ⊢;omega
 | inr a=>exact hr
theorem zX {S A:Type} {f g:S→Option (S⊕A)} (h:∀ s,f s=g s) (s:S):iter f s=iter g s:=by rw [funext h]
theorem de {α σ A X:Type} (xs:List α) (mk:σ→Int→X) (f:X→Option (X⊕A)) (stp:σ→α→σ) (Inv:Int→σ→Prop) (E:σ→Option A)
 (h1:∀ s (i:Int) x,0≤i→i < xs.length→idx xs i=some x→Inv i s→f (mk s i)=some (.inl (mk (stp s x) (i+1)))∧Inv (i+1) (stp s x))
 (h2:∀ s,Inv xs.length s→f (mk s xs.length)=Option.map .inr (E s)) (s:σ) (h0:Inv 0 s):iter f (mk s 0)=E (xs.foldl stp s):=by
 have key:∀ (n:Nat) (s:σ) (i:Int),0≤i→i+n=xs.length→Inv i s→iter f (mk s i)=E ((xs.drop i.toNat).foldl stp s):=by
  intro n
  induction n with
  | zero=>
    intro s i hi hn hv
    have:i=xs.length:=by omega
    subst this
    rw [iter_eq,h2 s hv,cy]
    simp
  | succ n ih=>
    intro s i hi hn hv
    obtain ⟨x,hx,_,hd⟩:=iq xs hi (by omega)
    obtain ⟨e1,e2⟩:=h1 s i x hi (by omega) hx hv
    rw [iter_eq,e1]
    simp only [Option.bind_some,du]
    rw [ih _ _ (by omega) (by omega) e2,hd]
    rfl
 have:=key xs.length s 0 (by omega) (by omega) h0
 simpa using this
theorem foldl_filter {α:Type} (p:α→Bool):∀ (xs acc:List α),xs.foldl (fun acc x=>if p x=true then acc++[x] else acc) acc=acc++xs.filter p
 | [],acc=>by simp
 | x :: r,acc=>by
   rw [List.foldl_cons,foldl_filter p r,List.filter_cons]
   cases p x<;>simp
theorem foldl_map {α β:Type} (g:α→β):∀ (xs:List α) (acc:List β),xs.foldl (fun acc x=>acc++[g x]) acc=acc++xs.map g
 | [],acc=>by simp
 | x :: r,acc=>by rw [List.foldl_cons,foldl_map g r];simp
abbrev Jq {A:Type} (N:Nat) (Inv:Int→Prop) (R:A→Prop) (i:Int):Int⊕A→Prop
 | .inl j=>j=i+1∧i < N∧Inv (i+1)
 | .inr a=>R a
theorem Ok.Jr {A:Type} {f:Int→Option (Int⊕A)} {R:A→Prop} (N:Nat) (Inv:Int→Prop) (h0:Inv 0) (h:∀ i:Int,0≤i→i≤N→Inv i→Ok (f i) (Jq N Inv R i)):Ok (Eng.iter f 0) R:=by
 refine Ok.iter (fun i:Int=>N+1 - i.toNat) (fun i:Int=>(0≤i∧i≤N)∧Inv i) (fun i hi=>?_) 0 ⟨⟨by omega,by omega⟩,h0⟩
 refine (h i hi.1.1 hi.1.2 hi.2).mono (fun r hr=>?_)
 cases r with
 | inl j=>
   simp only [Wm,Jq] at hr ⊢
   obtain ⟨rfl,h2,h3⟩:=hr
   exact ⟨⟨by omega,h3⟩,by omega⟩
 | inr a=>exact hr
theorem take_succ {α:Type} {xs:List α} {i:Int} {x:α} (h0:0≤i) (h:idx xs i=some x):xs.take (i+1).toNat=xs.take i.toNat++[x]:=by
 obtain ⟨_,h1,h2⟩:=oK h
 rw [show (i+1).toNat=i.toNat+1 by omega,List.take_add_one,h2];rfl
theorem Ok.Bo {σ A X:Type} {f:X→Option (X⊕A)} {R:A→Prop} (N:Nat) (mk:σ→Int→X) (Inv:Int→σ→Prop)
 (h:∀ s (i:Int),0≤i→i≤N→Inv i s→Ok (f (mk s i)) (fun r=>(∃ s',r=.inl (mk s' (i+1))∧i < N∧Inv (i+1) s')∨∃ a,r=.inr a∧R a)) (s:σ) (h0:Inv 0 s):Ok (Eng.iter f (mk s 0)) R:=by
 have key:∀ (k:Nat) (s:σ) (i:Int),0≤i→i≤N→i+k=N+1→Inv i s→Ok (Eng.iter f (mk s i)) R:=by
  intro k
  induction k with
  | zero=>
    intro s i hi hN hk hv
    omega
  | succ k ih=>
    intro s i hi hN hk hv
    obtain ⟨r,h1,h2⟩:=h s i hi hN hv
    rw [iter_eq,h1]
    rcases h2 with ⟨s',rfl,h3,h4⟩ | ⟨a,rfl,h3⟩
    ·simp only [Option.bind_some,du]
     exact ih s' (i+1) (by omega) (by omega) (by omega) h4
    ·exact ⟨a,rfl,h3⟩
 exact key (N+1) s 0 (by omega) (by omega) (by omega) h0
mutual
def Query.kL:Query→List Query
 | ⟨a,b,c,d,e,kids⟩=>⟨a,b,c,d,e,kids⟩ :: Query.lU kids
def Query.lU:List Query→List Query
 | []=>[]
 | x :: r=>Query.kL x++Query.lU r
end
mutual
def Query.dep:Query→Nat
 | ⟨a,b,c,d,e,kids⟩=>Query.Ew kids+1
def Query.Ew:List Query→Nat
 | []=>0
 | x :: r=>max (Query.dep x) (Query.Ew r)
end
theorem Query.ub (q:Query):q.kL=q :: Query.lU q.Kids:=by obtain ⟨a,b,c,d,e,kids⟩:=q;rw [Query.kL]
theorem Query.M5 (q:Query):q.dep=Query.Ew q.Kids+1:=by obtain ⟨a,b,c,d,e,kids⟩:=q;rw [Query.dep]
theorem Query.Lv (q:Query):q∈q.kL:=by rw [q.ub];simp
theorem Query.pos (q:Query):0 < q.kL.length:=by rw [q.ub];simp
theorem Dk:∀ {l:List Query} {c:Query},c∈l→c.kL.length≤(Query.lU l).length∧∀ x∈c.kL,x∈Query.lU l
 | x :: r,c,h=>by
   rw [Query.lU]
   rcases List.mem_cons.1 h with rfl | h
   ·exact ⟨by simp,fun y hy=>List.mem_append_left _ hy⟩
   ·obtain ⟨h1,h2⟩:=Dk h
    exact ⟨by rw [List.length_append];omega,fun y hy=>List.mem_append_right _ (h2 y hy)⟩
theorem xG:∀ l:List Query,l.length≤(Query.lU l).length
 | []=>by simp
 | x :: r=>by
   rw [Query.lU]
   have:=xG r
   have:=x.pos
   rw [List.length_append,List.length_cons];omega
theorem Oj:∀ l:List Query,(∀ x∈l,x.dep≤x.kL.length)→Query.Ew l≤(Query.lU l).length
 | [],_=>by simp [Query.Ew]
 | x :: r,h=>by
   rw [Query.Ew,Query.lU,List.length_append]
   have h1:=h x List.mem_cons_self
   have h2:=Oj r (fun y hy=>h y (List.mem_cons_of_mem _ hy))
   omega
theorem Gf:∀ (n:Nat) (q:Query),q.kL.length≤n→q.dep≤q.kL.length
 | 0,q,h=>by have:=q.pos;omega
 | n+1,q,h=>by
   rw [q.M5,q.ub,List.length_cons]
   rw [q.ub,List.length_cons] at h
   have:=Oj q.Kids (fun x hx=>Gf n x (by have:=(Dk hx).1;omega))
   omega
structure He (q:Query):Prop where
 field:q.Field.length≤100000
 op:q.Op.length≤100000
 words:q.Value.Words.length≤100000
structure QB (q:Query):Prop where
 len:q.kL.length≤5000
 str:∀ x∈q.kL,He x
theorem QB.Wn {q c:Query} (h:QB q) (hc:c∈q.Kids):QB c∧c.kL.length < q.kL.length:=by
 have h1:=Dk hc
 have h2:=q.ub
 refine ⟨⟨?_,fun x hx=>h.str x (by rw [h2];exact List.mem_cons_of_mem _ (h1.2 x hx))⟩,by rw [h2,List.length_cons];omega⟩
 have:=h.len
 rw [h2,List.length_cons] at this
 omega
theorem QB.kids {q:Query} (h:QB q):q.Kids.length≤5000:=by
 have:=h.len
 rw [q.ub,List.length_cons] at this
 have:=xG q.Kids
 omega
theorem QB.s {q:Query} (h:QB q):He q:=h.str q q.Lv
theorem H8 {C:Nat→Query→Prop} (h:∀ n q,QB q→(∀ c∈q.Kids,C n c)→C (n+1) q):∀ (n:Nat) (q:Query),QB q→q.kL.length≤n→C n q
 | 0,q,_,hl=>by have:=q.pos;omega
 | n+1,q,hq,hl=>h n q hq (fun c hc=>H8 h n c (hq.Wn hc).1 (by have:=(hq.Wn hc).2;omega))
def gg (q:Query):Bool:=decide (q.Kind=1)||decide (q.Kind=2)
def Lw (l:List Query):Nat:=(Query.lU l).countP gg
theorem PG (x:Query) (r:List Query):Lw (x :: r)=x.kL.countP gg+Lw r:=by
 unfold Lw;rw [Query.lU,List.countP_append]
theorem H9:∀ (l:List Query) (s:Int×Int),l.foldl (fun s x=>(s.1+((x.kL.countP gg:Nat):Int),max s.2 ((x.dep:Nat):Int))) s=(s.1+((Lw l:Nat):Int),max s.2 ((Query.Ew l:Nat):Int))∨s.2 < 0
 | [],s=>by
   by_cases h:s.2 < 0
   ·exact .inr h
   ·left
    simp [Lw,Query.lU,Query.Ew]
    refine Prod.ext rfl ?_
    simp only;omega
 | x :: r,s=>by
   by_cases h:s.2 < 0
   ·exact .inr h
   ·left
    rw [List.foldl_cons]
    rcases H9 r (s.1+((x.kL.countP gg:Nat):Int),max s.2 ((x.dep:Nat):Int)) with e | e
    ·rw [e,PG,Query.Ew]
     refine Prod.ext ?_ ?_
     ·simp only;omega
     ·simp only;omega
    ·simp only at e;omega
theorem M6 (n:Nat) (q:Query) (hq:QB q) (hn:q.kL.length≤n):fS n q=some (((q.kL.countP gg:Nat):Int),((q.dep:Nat):Int)):=by
 refine H8 (C:=fun n q=>fS n q=some (((q.kL.countP gg:Nat):Int),((q.dep:Nat):Int))) (fun n q hq ih=>?_) n q hq hn
 have hk:=hq.kids
 have hl:=hq.len
 have hd:=Gf _ q (Nat.le_refl _)
 have hc:q.kL.countP gg≤q.kL.length:=List.countP_le_length
 have e0:=q.ub
 have e1:=q.M5
 have e2:q.kL.countP gg=(if gg q=true then 1 else 0)+Lw q.Kids:=by
  rw [e0,List.countP_cons];unfold Lw;omega
 have key:∀ m:Int,0≤m→m≤1→uH (fS n) q m 0 0=some (m+((Lw q.Kids:Nat):Int),((q.dep:Nat):Int)):=by
  intro m h0 h1
  unfold uH
  have h:=de q.Kids (fun (s:Int×Int) (i:Int)=>(s.1,s.2,i)) (fun x:Int×Int×Int=>fW (fS n) q x.1 x.2.1 x.2.2) (fun s x=>(s.1+((x.kL.countP gg:Nat):Int),max s.2 ((x.dep:Nat):Int))) (fun i s=>(0≤s.1∧s.1≤1+5000 * i)∧0≤s.2∧s.2≤5000) (fun s=>some (s.1,cd (s.2+1)))
   (fun s i x i0 i1 hi hs=>by
    have hx:=gw hi
    have k:=hq.Wn hx
    have kl:=k.1.len
    have kc:x.kL.countP gg≤x.kL.length:=List.countP_le_length
    have kd:=Gf _ x (Nat.le_refl _)
    refine ⟨?_,?_⟩
    ·show fW (fS n) q s.1 s.2 i=_
     unfold fW
     rw [if_pos i1,hi]
     simp only [Option.bind_some]
     rw [ih x hx]
     simp only [Option.bind_some]
     rw [bb (x:=s.1+_) (by omega) (by omega),bb (by omega) (by omega)]
    ·simp only;omega)
   (fun s hs=>by
    show fW (fS n) q s.1 s.2 q.Kids.length=_
    unfold fW
    rw [if_neg (by omega)]) (m,0) ⟨⟨by simpa using h0,by simp;omega⟩,by simp,by simp⟩
  simp only at h
  rw [h]
  rcases H9 q.Kids (m,0) with e | e
  ·rw [e]
   simp only
   rw [bb (by omega) (by omega)]
   congr 2
   omega
  ·simp at e
 show nv (fS n) q=_
 unfold nv qF nu
 have e3:(decide (q.Kind=(1:Int))||decide (q.Kind=(2:Int)))=gg q:=rfl
 rw [e3,e2]
 cases hlf:gg q with
 | true=>rw [if_pos rfl,key 1 (by omega) (by omega)];simp
 | false=>rw [if_neg (by simp),key 0 (by omega) (by omega)];simp
theorem DL:∀ (l:List Query) (s:List Query),l.foldl (fun s x=>s++x.kL.filter gg) s=s++(Query.lU l).filter gg
 | [],s=>by simp [Query.lU]
 | x :: r,s=>by rw [List.foldl_cons,DL r,Query.lU,List.filter_append,List.append_assoc]
theorem PH (n:Nat) (q:Query) (hq:QB q) (hn:q.kL.length≤n):lO n q=some (q.kL.filter gg):=by
 refine H8 (C:=fun n q=>lO n q=some (q.kL.filter gg)) (fun n q hq ih=>?_) n q hq hn
 have hk:=hq.kids
 have hl:=hq.len
 have e0:=q.ub
 have key:∀ m:List Query,m.length≤1→zg (lO n) q m 0=some (m++(Query.lU q.Kids).filter gg):=by
  intro m h1
  unfold zg
  have h:=de q.Kids (fun (s:List Query) (i:Int)=>(s,i)) (fun x:List Query×Int=>lu (lO n) q x.1 x.2) (fun s x=>s++x.kL.filter gg) (fun i s=>(s.length:Int)≤1+5000 * i) (fun s=>some s)
   (fun s i x i0 i1 hi hs=>by
    have hx:=gw hi
    have k:=hq.Wn hx
    have kl:=k.1.len
    have kc:(x.kL.filter gg).length≤x.kL.length:=List.length_filter_le _ _
    refine ⟨?_,?_⟩
    ·show lu (lO n) q s i=_
     unfold lu
     rw [if_pos i1,hi]
     simp only [Option.bind_some]
     rw [ih x hx]
     simp only [Option.bind_some]
     rw [mD (by omega),bb (by omega) (by omega)];rfl
    ·rw [List.length_append];omega)
   (fun s hs=>by
    show lu (lO n) q s q.Kids.length=_
    unfold lu
    rw [if_neg (by omega)]) m (by omega)
  rw [h,DL]
 show uA (lO n) q=_
 unfold uA wC uz
 have e3:(decide (q.Kind=(1:Int))||decide (q.Kind=(2:Int)))=gg q:=rfl
 rw [e3,e0,List.filter_cons]
 cases hlf:gg q with
 | true=>rw [if_pos rfl,if_pos rfl,mD (by simp)];simp only [Option.bind_some,List.nil_append];rw [key _ (by simp)];rfl
 | false=>rw [if_neg (by simp),if_neg (by simp),key _ (by simp)];rfl
theorem Ia:∀ (l:List Query) (s:Int),0≤s→l.foldl (fun s x=>max s ((x.dep:Nat):Int)) s=max s ((Query.Ew l:Nat):Int)
 | [],s,h=>by simp [Query.Ew];omega
 | x :: r,s,h=>by rw [List.foldl_cons,Ia r _ (by omega),Query.Ew];omega
theorem Vg (n:Nat) (q:Query) (hq:QB q) (hn:q.kL.length≤n):sq n q=some ((q.dep:Nat):Int):=by
 refine H8 (C:=fun n q=>sq n q=some ((q.dep:Nat):Int)) (fun n q hq ih=>?_) n q hq hn
 have hk:=hq.kids
 have hl:=hq.len
 have hd:=Gf _ q (Nat.le_refl _)
 have e1:=q.M5
 show xw (sq n) q=_
 unfold xw HX
 have h:=de q.Kids (fun (s:Int) (i:Int)=>(s,i)) (fun x:Int×Int=>pD (sq n) q x.1 x.2) (fun s x=>max s ((x.dep:Nat):Int)) (fun i s=>0≤s∧s≤5000) (fun s=>some (cd (s+1)))
  (fun s i x i0 i1 hi hs=>by
   have hx:=gw hi
   have k:=hq.Wn hx
   have kl:=k.1.len
   have kd:=Gf _ x (Nat.le_refl _)
   refine ⟨?_,by omega⟩
   show pD (sq n) q s i=_
   unfold pD
   rw [if_pos i1,hi]
   simp only [Option.bind_some]
   rw [ih x hx]
   simp only [Option.bind_some]
   rw [bb (by omega) (by omega)])
  (fun s hs=>by
   show pD (sq n) q s q.Kids.length=_
   unfold pD
   rw [if_neg (by omega)]) 0 (by omega)
 rw [h,Ia _ _ (by omega),bb (by omega) (by omega)]
 congr 1
 omega
abbrev zV:bg:=⟨0,false,0,[]⟩
abbrev Av:Version:=⟨0,0,0⟩
def M7 (q:Query):Bool:=q.Kids.any (fun k=>decide (k.Kind=q.Kind))
def wD (q:Query):Bool:=
 if q.Kind=1 then decide (q.Kids.length≠0)
 else if q.Kind=2 then decide (q.Kids.length≠0)||(decide (q.Op≠[])||(decide (q.Value≠zV)||decide (q.Version≠Av)))
 else (if q.Kind=3 then decide (q.Kids.length≠1) else decide (q.Kids.length < 2)||M7 q)||(decide (q.Field≠[])||(decide (q.Op≠[])||(decide (q.Value≠zV)||decide (q.Version≠Av))))
def Ex (q:Query):Bool:=decide (q.Kind < 1)||decide (5 < q.Kind)
def fF (q:Query):Int:=if Ex q=true then 4 else if wD q=true then 3 else 0
theorem nb (b:Bool):(if b=true then (some (3:Int)) else some 0)=some (if b=true then 3 else 0):=by cases b<;>rfl
theorem XU {α:Type} [DecidableEq α] (a b:α):decide (a≠b)=decide (b≠a):=by rw [decide_eq_decide];exact ⟨fun h k=>h k.symm,fun h k=>h k.symm⟩
theorem Sx (q:Query) (c:Bool) (f o:ai) (k:Int) (fl:Bool) (n:Int) (w:ai) (x y z:Int):k8 q c f o k fl n w x y z=some (if (c||(decide (f≠q.Field)||(decide (o≠q.Op)||(decide ((⟨k,fl,n,w⟩:bg)≠q.Value)||decide ((⟨x,y,z⟩:Version)≠q.Version)))))=true then 3 else 0):=nb _
theorem Sy (q:Query) (c:Bool):jc q c=some (if (c||(decide (q.Field≠[])||(decide (q.Op≠[])||(decide (q.Value≠zV)||decide (q.Version≠Av)))))=true then 3 else 0):=by
 unfold jc jb
 rw [Sx,XU [] q.Field,XU [] q.Op,XU _ q.Value,XU _ q.Version]
theorem XV (q:Query) (m:Nat):decide ((q.Kids.length:Int)≠(m:Nat))=decide (q.Kids.length≠m):=by rw [decide_eq_decide];omega
theorem Js (q:Query) (hq:QB q):oV q=some (fF q):=by
 have hk:=hq.kids
 unfold oV fF
 have ho:kB q.Kind 1 5=Ex q:=rfl
 rw [ho]
 cases h:Ex q with
 | true=>rfl
 | false=>
   simp only [Bool.false_eq_true,if_false]
   unfold wD
   by_cases k1:q.Kind=1
   ·rw [if_pos k1,if_pos k1,Sx,show ((0:Int))=((0:Nat):Int) from rfl,XV]
    have e1:decide (q.Field≠q.Field)=false:=by simp
    have e2:decide (q.Op≠q.Op)=false:=by simp
    have e3:decide ((⟨q.Value.Kind,q.Value.ch,q.Value.Number,q.Value.Words⟩:bg)≠q.Value)=false:=by simp
    have e4:decide ((⟨q.Version.bP,q.Version.bQ,q.Version.bL⟩:Version)≠q.Version)=false:=by simp
    rw [e1,e2,e3,e4];simp
   rw [if_neg k1,if_neg k1]
   by_cases k2:q.Kind=2
   ·rw [if_pos k2,if_pos k2]
    unfold jb
    rw [Sx,show ((0:Int))=((0:Nat):Int) from rfl,XV,XU [] q.Op]
    have e1:decide (q.Field≠q.Field)=false:=by simp
    rw [e1,Bool.false_or]
    rw [XU _ q.Value,XU _ q.Version];rfl
   rw [if_neg k2,if_neg k2]
   by_cases k3:q.Kind=3
   ·rw [if_pos k3,if_pos k3,Sy,show ((1:Int))=((1:Nat):Int) from rfl,XV]
   rw [if_neg k3,if_neg k3]
   unfold k9
   by_cases c:q.Kids.length < 2
   ·rw [if_pos (by omega),Sy];simp [c]
   ·rw [if_neg (by omega)]
    have hc:bW q.Kids (fun y0=>some (oo y0 q))=some (M7 q):=dW _ _ _ (fun x _=>rfl) (by omega)
    rw [hc]
    simp only [Option.bind_some]
    rw [Sy];simp [c]
def opsL:List ai:=[[61,61],[33,61],[60,61],[62,61],[60],[62]]
def wE (q:Query):Bool:=decide (q.Field=AP)
noncomputable def lF (q:Query):Int:=
 if (Gd q.Field||(sH q.Field||(!decide (q.Kind=2)&&uP q.Field)))=false then 5
 else if q.Kind=2 then 0
 else if ¬ q.Op∈opsL then 10
 else if wE q=true∧q.Value≠zV then 3
 else if wE q=true∧fq q.Version=false then 1
 else if wE q=true then 0
 else if q.Version≠Av∨(kG q.Value=false∨q.Value.Kind=0) then 3
 else if (q.Value.Kind≠3∧sH q.Field=false)∨(q.Value.Kind≠2∧q.Op≠[61,61]∧q.Op≠[33,61]) then 10
 else 0
theorem Lx {α:Type} (p:Prop) [Decidable p] (a b:α):(if p then some a else some b)=some (if p then a else b):=by split<;>rfl
theorem Wo (q:Query) (hq:He q) (c:Bool):je q c=some (if c=true then 3 else if (q.Value.Kind≠3∧sH q.Field=false)∨(q.Value.Kind≠2∧q.Op≠[61,61]∧q.Op≠[33,61]) then 10 else 0):=by
 have h5:∀ c,jd q c=some (if c=true∨(q.Value.Kind≠2∧q.Op≠[61,61]∧q.Op≠[33,61]) then 10 else 0):=by
  intro c
  unfold jd oq
  cases c with
  | true=>simp
  | false=>
    rw [if_neg (by simp),Lx]
    congr 1
    simp
 unfold je
 cases c with
 | true=>rfl
 | false=>
   simp only [Bool.false_eq_true,if_false]
   by_cases k:q.Value.Kind=3
   ·rw [if_neg (fun h=>h k),h5]
    congr 1
    simp [k]
   ·rw [if_pos k,Dj (by have:=hq.field;omega)]
    simp only [Option.bind_some]
    rw [h5]
    congr 1
    simp [k]
theorem Jt (q:Query) (hq:He q):oY q=some (lF q):=by
 have hf:=hq.field
 have hw:=hq.words
 have j1:eK q false=some (if q.Kind=2 then 0 else if ¬ q.Op∈opsL then 10 else if wE q=true∧q.Value≠zV then 3 else if wE q=true∧fq q.Version=false then 1 else if wE q=true then 0 else if q.Version≠Av∨(kG q.Value=false∨q.Value.Kind=0) then 3 else if (q.Value.Kind≠3∧sH q.Field=false)∨(q.Value.Kind≠2∧q.Op≠[61,61]∧q.Op≠[33,61]) then 10 else 0):=by
  unfold eK
  rw [if_neg (by simp)]
  by_cases k2:q.Kind=2
  ·rw [if_pos k2,if_pos k2]
  rw [if_neg k2,if_neg k2,sI _ _ (by unfold fi;simp)]
  simp only [Option.bind_some]
  have ho:q.Op∈fi↔q.Op∈opsL:=by unfold fi opsL;simp only [List.mem_cons,List.not_mem_nil,or_false];constructor<;>(rintro (h | h | h | h | h | h)<;>simp [h])
  by_cases Ql:q.Op∈opsL
  ·rw [if_neg (by simp [ho,Ql]),if_neg (fun k=>k Ql)]
   unfold ou
   have XW:decide (q.Field=([102,105,114,109,119,97,114,101]:ai))=wE q:=rfl
   rw [XW]
   by_cases c1:wE q=true∧q.Value≠zV
   ·rw [if_pos c1,if_pos (by simp [c1.1];exact c1.2)]
   rw [if_neg c1,if_neg (by simp;intro h;exact Classical.byContradiction fun k=>c1 ⟨h,k⟩)]
   unfold ot
   by_cases c2:wE q=true∧fq q.Version=false
   ·rw [if_pos c2,if_pos (by simp [c2.1,c2.2])]
   rw [if_neg c2,if_neg (by simp;intro h;cases hb:fq q.Version with | true=>rfl | false=>exact absurd ⟨h,hb⟩ c2)]
   by_cases c3:wE q=true
   ·rw [if_pos c3,if_pos (of_decide_eq_true c3)]
   rw [if_neg c3,if_neg (fun k=>c3 (decide_eq_true k))]
   by_cases c4:q.Version≠Av
   ·rw [if_pos c4,Wo q hq,if_pos rfl,if_pos (.inl c4)]
   ·rw [if_neg c4,Ge _ (by omega)]
    simp only [Option.bind_some]
    rw [Wo q hq]
    by_cases c5:kG q.Value=false∨q.Value.Kind=0
    ·rw [if_pos (by rcases c5 with h | h<;>simp [h]),if_pos (.inr c5)]
    ·rw [not_or] at c5
     rw [if_neg (by simp [c5.2];simpa using c5.1),if_neg (show ¬ (q.Version≠Av∨(kG q.Value=false∨q.Value.Kind=0)) from fun k=>k.elim c4 (fun k=>k.elim c5.1 c5.2))]
  ·rw [if_pos (by simp [ho,Ql]),if_pos Ql]
 unfold oY lF
 rw [Su (by omega)]
 simp only [Option.bind_some]
 have bad:eK q true=some 5:=rfl
 cases ht:Gd q.Field<;>cases hp:sH q.Field<;>cases Qy:uP q.Field<;>by_cases k2:q.Kind=2
 all_goals simp only [ht,hp,Qy,k2,Bool.or_false,Bool.or_true,Bool.false_or,Bool.true_or,Bool.not_true,Bool.not_false,Bool.false_eq_true,if_false,if_true,decide_true,decide_false,Bool.true_and,Bool.false_and,bad]
 all_goals first
  | rfl
  | (rw [Lu (by omega),ht];simp only [Option.bind_some,Bool.not_true,Bool.not_false,Bool.false_eq_true,if_false,if_true];first | (rw [Dj (by omega),hp];simp only [Option.bind_some,Bool.not_true,Bool.not_false];first | exact bad | (rw [j1];simp [k2])) | (rw [j1];simp [k2]))
  | (rw [j1];simp [k2,hp])
theorem yC (v:Version):kD v=fq v:=by
 unfold kD oC fq qG yH xX kB uu
 rw [Bool.eq_iff_iff];simp
theorem Vh {s a b:ai} (ha:preB s a=true) (hb:preB s b=true):∀ i,i < a.length→i < b.length→a[i]? =b[i]?:=by
 intro i h1 h2
 have h3:s.take a.length=a:=of_decide_eq_true ha
 have h4:s.take b.length=b:=of_decide_eq_true hb
 have e1:a[i]? =s[i]?:=by rw [← h3,List.getElem?_take];simp [h1]
 have e2:b[i]? =s[i]?:=by rw [← h4,List.getElem?_take];simp [h2]
 rw [e1,e2]
theorem Cw {s:ai} (h:preB s xF=true):preB s uE=false:=by
 cases hp:preB s uE with
 | false=>rfl
 | true=>have:=Vh h hp 0 (by simp) (by simp);simp at this
theorem PI {s:ai} (h:uP s=true):preB s xF=false∧preB s uE=false:=by
 unfold uP at h
 simp only [Bool.or_eq_true,decide_eq_true_eq] at h
 rcases h with rfl | rfl | rfl | rfl<;>exact ⟨rfl,rfl⟩
theorem Sz {s:ai} (h:(Gd s||(sH s||uP s))=true):preB s uE=sH s:=by
 simp only [Bool.or_eq_true] at h
 rcases h with h | h | h
 ·have h1:preB s xF=true:=by unfold Gd at h;simp at h;exact h.1
  have h2:=Cw h1
  unfold sH;rw [h2];rfl
 ·rw [h];unfold sH at h;simp at h;exact h.1
 ·have h2:=(PI h).2
  unfold sH;rw [h2];rfl
theorem M8 (q:Query) (hq:He q):nT q=some (lF q):=by
 have hf:=hq.field
 have hw:=hq.words
 have h7:∀ c,pF c=some (if c=true then 10 else 0):=fun c=>by unfold pF;cases c<;>rfl
 unfold nT lF
 rw [Hd (by omega)]
 simp only [Option.bind_some]
 cases hfr:(Gd q.Field||(sH q.Field||(!decide (q.Kind=2)&&uP q.Field))) with
 | false=>rfl
 | true=>
   simp only [Bool.not_true,Bool.false_eq_true,if_false,Bool.true_eq_false]
   by_cases k2:q.Kind=2
   ·rw [if_pos k2,if_pos k2]
   rw [if_neg k2,if_neg k2]
   have hpp:preB q.Field uE=sH q.Field:=Sz (by
    simp only [k2,decide_false,Bool.not_false,Bool.true_and] at hfr
    exact hfr)
   unfold u5
   rw [sI _ _ (by unfold xj;simp)]
   simp only [Option.bind_some]
   have ho:q.Op∈xj↔q.Op∈opsL:=Iff.rfl
   by_cases Kl:¬ q.Op∈opsL
   ·rw [if_pos (by simp [ho,Kl]),if_pos Kl]
   have Ql:q.Op∈opsL:=Classical.byContradiction Kl
   rw [if_neg (by simp [ho,Ql]),if_neg (fun k=>k Ql)]
   unfold u4
   have XW:decide (q.Field=([102,105,114,109,119,97,114,101]:ai))=wE q:=rfl
   rw [XW,yC]
   by_cases c1:wE q=true∧q.Value≠zV
   ·rw [if_pos c1,if_pos (by simp [c1.1];exact c1.2)]
   rw [if_neg c1,if_neg (by simp;intro h;exact Classical.byContradiction fun k=>c1 ⟨h,k⟩)]
   unfold uZ
   by_cases c2:wE q=true∧fq q.Version=false
   ·rw [if_pos c2,if_pos (by simp [c2.1,c2.2])]
   rw [if_neg c2,if_neg (by simp;intro h;cases hb:fq q.Version with | true=>rfl | false=>exact absurd ⟨h,hb⟩ c2)]
   by_cases c3:wE q=true
   ·rw [if_pos c3,if_pos (of_decide_eq_true c3)]
   rw [if_neg c3,if_neg (fun k=>c3 (decide_eq_true k))]
   have j4:∀ (c3:Bool) (c:Bool),c3=(decide (q.Op=[61,61])||decide (q.Op=[33,61]))→pH q c3 c=some (if c=true then 3 else if (q.Value.Kind≠3∧sH q.Field=false)∨(q.Value.Kind≠2∧q.Op≠[61,61]∧q.Op≠[33,61]) then 10 else 0):=by
    intro c3 c hc3
    subst hc3
    unfold pH
    cases c with
    | true=>rfl
    | false=>
      simp only [Bool.false_eq_true,if_false]
      have j6:∀ c,pG q (decide (q.Op=[61,61])||decide (q.Op=[33,61])) c=some (if c=true∨(q.Value.Kind≠2∧q.Op≠[61,61]∧q.Op≠[33,61]) then 10 else 0):=by
       intro c
       unfold pG uY
       cases c with
       | true=>simp [h7]
       | false=>
         simp only [Bool.false_eq_true,if_false,false_or]
         rw [h7]
         congr 1
         simp
      by_cases k:q.Value.Kind=3
      ·rw [if_neg (fun h=>h k),j6]
       congr 1
       simp [k]
      ·rw [if_pos k,w4 _ _ (by omega),hpp]
       simp only [Option.bind_some]
       rw [j6]
       congr 1
       simp [k]
   by_cases c4:q.Version≠Av
   ·rw [if_pos c4,j4 _ _ rfl,if_pos (decide_eq_true c4),if_pos (.inl c4)]
   ·rw [if_neg c4,AR _ (by omega)]
    simp only [Option.bind_some]
    unfold su
    rw [j4 _ _ rfl,j4 _ _ rfl]
    cases hr:kG q.Value with
    | false=>rw [if_pos (by simp),if_pos (by simp),if_pos (.inr (.inl rfl))]
    | true=>
      rw [if_neg (by simp)]
      by_cases c5:q.Value.Kind=0
      ·rw [if_pos (by simpa using c5),if_pos (.inr (.inr c5))]
      ·rw [if_neg (by simpa using c5),if_neg (show ¬ (q.Version≠Av∨(true=false∨q.Value.Kind=0)) from fun k=>k.elim c4 (fun k=>k.elim (fun h=>by cases h) c5))]
theorem M9 (self:Query→Option Int) (q:Query) (hq:QB q):nW self q=if Ex q=true then some 4 else if wD q=true then some 3 else if q.Kind≤2 then nT q else jN self q 0:=by
 have hk:=hq.kids
 have ho:(!yH q.Kind 1 5)=Ex q:=by
  unfold yH xX Ex;rw [Bool.eq_iff_iff];simp
 unfold nW
 rw [ho]
 cases xK:Ex q with
 | true=>rfl
 | false=>
   simp only [Bool.false_eq_true,if_false]
   have hr:1≤q.Kind∧q.Kind≤5:=by unfold Ex at xK;simp at xK;omega
   have tail:∀ c:Bool,nU self q c=if c=true then some 3 else if q.Kind≤2 then nT q else jN self q 0:=by
    intro c
    unfold nU
    cases c with
    | true=>rfl
    | false=>
      simp only [Bool.false_eq_true,if_false]
      split
      ·cases nT q<;>rfl
      ·rfl
   have j8:∀ c:Bool,qm self q c=if (c||(decide (2 < q.Kind)&&decide (q.Field≠[])))=true then some 3 else if q.Kind≤2 then nT q else jN self q 0:=by
    intro c
    unfold qm sv
    cases c with
    | true=>rw [if_pos rfl,tail];rfl
    | false=>rw [if_neg (by simp),tail,Bool.false_or]
   have j7:∀ c:Bool,jO self q c=if (c||((decide (q.Kind≠1)&&(decide (q.Op≠[])||(decide (q.Value≠zV)||decide (q.Version≠Av))))||(decide (2 < q.Kind)&&decide (q.Field≠[]))))=true then some 3 else if q.Kind≤2 then nT q else jN self q 0:=by
    intro c
    unfold jO
    cases c with
    | true=>rfl
    | false=>simp only [Bool.false_eq_true,if_false,Bool.false_or];rw [j8]
   have hc:bW q.Kids (fun y0=>some (tT y0 q))=some (M7 q):=dW _ _ _ (fun x _=>rfl) (by omega)
   have j3:∀ c2 c:Bool,nV self q c2 c=if c=true then some 3 else jO self q (c2&&M7 q):=by
    intro c2 c
    unfold nV
    cases c with
    | true=>rfl
    | false=>
      simp only [Bool.false_eq_true,if_false]
      cases c2 with
      | true=>rw [if_pos rfl,hc];rfl
      | false=>rfl
   have all:qo self q (decide (q.Kind=4)||decide (q.Kind=5))=if ((decide (q.Kind≤2)&&decide ((0:Int) < q.Kids.length))||((decide (q.Kind=3)&&decide ((q.Kids.length:Int)≠1))||((decide (q.Kind=4)||decide (q.Kind=5))&&decide ((q.Kids.length:Int) < 2))))=true then some 3 else jO self q ((decide (q.Kind=4)||decide (q.Kind=5))&&M7 q):=by
    unfold qo tW tV tU qn
    simp only [j3]
    cases decide (q.Kind≤2)&&decide ((0:Int) < q.Kids.length)<;>cases decide (q.Kind=3)&&decide ((q.Kids.length:Int)≠1)<;>simp
   rw [all,j7]
   have e:((decide (q.Kind≤2)&&decide ((0:Int) < q.Kids.length))||((decide (q.Kind=3)&&decide ((q.Kids.length:Int)≠1))||((decide (q.Kind=4)||decide (q.Kind=5))&&decide ((q.Kids.length:Int) < 2)))||(((decide (q.Kind=4)||decide (q.Kind=5))&&M7 q)||((decide (q.Kind≠1)&&(decide (q.Op≠[])||(decide (q.Value≠zV)||decide (q.Version≠Av))))||(decide (2 < q.Kind)&&decide (q.Field≠[])))))=wD q:=by
    unfold wD
    have e1:decide ((q.Kids.length:Int) < 2)=decide (q.Kids.length < 2):=by rw [decide_eq_decide];omega
    have e2:decide ((0:Int) < q.Kids.length)=decide (q.Kids.length≠0):=by rw [decide_eq_decide];omega
    have e3:decide ((q.Kids.length:Int)≠1)=decide (q.Kids.length≠1):=by rw [decide_eq_decide];omega
    rw [e1,e2,e3]
    generalize (decide (q.Op≠[])||(decide (q.Value≠zV)||decide (q.Version≠Av)))=ob
    generalize decide (q.Field≠[])=fb
    generalize M7 q=kb
    generalize decide (q.Kids.length < 2)=l2
    generalize decide (q.Kids.length≠0)=l0
    generalize decide (q.Kids.length≠1)=l1
    have Ly:q.Kind=1∨q.Kind=2∨q.Kind=3∨q.Kind=4∨q.Kind=5:=by omega
    rcases Ly with k | k | k | k | k<;>rw [k]<;>cases ob<;>cases fb<;>cases kb<;>cases l2<;>cases l0<;>cases l1<;>rfl
   rw [← e]
   split
   ·rename_i h;simp only [h,Bool.true_or,if_true]
   ·rename_i h
    have h:((decide (q.Kind≤2)&&decide ((0:Int) < q.Kids.length))||((decide (q.Kind=3)&&decide ((q.Kids.length:Int)≠1))||((decide (q.Kind=4)||decide (q.Kind=5))&&decide ((q.Kids.length:Int) < 2))))=false:=by simpa using h
    rw [h,Bool.false_or]
def w5 (s p:ai):Bool:=decide (p.length≤s.length)&&decide (s.drop (s.length - p.length)=p)
theorem zA (s p:ai) (h:s.length≤1000000000):di s p=some (w5 s p):=by
 unfold di dz w5
 by_cases c:p.length≤s.length
 ·rw [if_pos (by omega),bb (by omega) (by omega),wX (by omega) (by omega) (by omega)]
  simp only [Option.bind_some,Option.some.injEq]
  rw [show ((s.length:Int) - p.length).toNat=s.length - p.length by omega,List.take_of_length_le (by simp)]
  simp [c]
 ·rw [if_neg (by omega)];simp [c]
def Ol (s:ai):Bool:=decide (0≤Lib.index s [32,32])
theorem Cx (s:ai) (h:s.length≤1000000):strings_Contains s [32,32]=some (Ol s):=by
 unfold strings_Contains
 show (IQ s [32,32]).bind _=_
 unfold IQ
 rw [if_pos (by omega)];rfl
def Lz (s:ai):Bool:=Sr s&&(!preB s [32]&&(!w5 s [32]&&!Ol s))
theorem SA (s:ai) (h:s.length≤1000000):vD s=some (Lz s):=by
 unfold vD lL Lz
 rw [Lq s h]
 simp only [Option.bind_some]
 cases Sr s with
 | false=>rfl
 | true=>
   rw [if_pos rfl,w4 _ _ (by omega)]
   simp only [Option.bind_some]
   cases preB s [32] with
   | true=>rfl
   | false=>
     simp only [Bool.not_false,if_true]
     unfold strings_HasSuffix
     rw [zA _ _ (by omega)]
     simp only [Option.bind_some]
     cases w5 s [32] with
     | true=>rfl
     | false=>simp only [Bool.not_false,if_true];rw [Cx s h];rfl
theorem SC {α:Type} (p:α→Bool):∀ l:List α,l.dropWhile p=l↔∀ x,l.head? =some x→p x=false
 | []=>by simp
 | x :: r=>by
   rw [List.dropWhile_cons]
   cases hp:p x with
   | true=>
     simp only [if_true,List.head?_cons,Option.some.injEq]
     constructor
     ·intro h
      have h1:(r.dropWhile p).length≤r.length:=(List.dropWhile_suffix p).length_le
      rw [h,List.length_cons] at h1;omega
     ·intro h;have:=h x rfl;rw [hp] at this;cases this
   | false=>simp [hp]
theorem Ib (s:ai):Lib.trimS s [32]=s↔preB s [32]=false∧w5 s [32]=false:=by
 have hl:(∀ x,s.head? =some x→([32]:ai).contains x=false)↔preB s [32]=false:=by
  unfold preB
  cases s with
  | nil=>simp
  | cons a r=>simp
 have hr:(∀ x,s.reverse.head? =some x→([32]:ai).contains x=false)↔w5 s [32]=false:=by
  unfold w5
  rcases List.eq_nil_or_concat s with rfl | ⟨l,a,rfl⟩
  ·simp
  ·rw [List.concat_eq_append];simp
 unfold Lib.trimS Lib.trimLeftS Lib.trimRightS
 rw [← hl,← hr,← SC,← SC]
 constructor
 ·intro h
  have h1:(s.reverse.dropWhile (([32]:ai).contains ·)).reverse.length≤s.length:=by
   have:=(List.dropWhile_suffix (l:=s.reverse) (([32]:ai).contains ·)).length_le
   simpa using this
  have h2:=(List.dropWhile_suffix (l:=(s.reverse.dropWhile (([32]:ai).contains ·)).reverse) (([32]:ai).contains ·)).length_le
  have h3:(s.reverse.dropWhile (([32]:ai).contains ·))=s.reverse:=by
   refine (List.dropWhile_suffix (([32]:ai).contains ·)).eq_of_length ?_
   have h4:=congrArg List.length h
   simp only [List.length_reverse] at h1 h2 h4 ⊢
   omega
  rw [h3,List.reverse_reverse] at h
  exact ⟨h,h3⟩
 ·rintro ⟨h1,h2⟩
  rw [h2,List.reverse_reverse];exact h1
theorem PJ (s:ai) (h:s.length≤100000):xZ s=some (Lib.validD s&&(!preB s [32]&&(!w5 s [32]&&!Ol s))):=by
 unfold xZ tf wQ
 rw [if_pos (by omega)]
 simp only [Option.bind_some]
 cases Lib.validD s with
 | false=>rfl
 | true=>
   rw [if_pos rfl,Lr h (by simp) (by decide)]
   simp only [Option.bind_some]
   by_cases c:Lib.trimS s [32]=s
   ·rw [if_pos c.symm,Cx s (by omega)]
    obtain ⟨c1,c2⟩:=(Ib s).1 c
    rw [c1,c2];rfl
   ·rw [if_neg (fun k=>c k.symm)]
    have:=fun k=>c ((Ib s).2 k)
    cases h1:preB s [32]<;>cases h2:w5 s [32]<;>first | rfl | exact absurd ⟨h1,h2⟩ this
theorem PK (s:ai) (h:s.length≤100000):B7 s=some (Lz s):=by
 unfold B7 FI
 have hlen:(mM s).length=s.length:=by unfold mM;simp
 have hf:=jj (mM s) (fun x:Int=>mS s x) (fun v=>if (decide (v < 32)||decide (v=127))=true then some false else none) (Lib.validD s&&(!preB s [32]&&(!w5 s [32]&&!Ol s))) (by omega) (fun i v h0 h1 h2=>by
  show mS s i=_
  unfold mS xY
  rw [if_pos h1,h2]
  simp only [Option.bind_some]
  rw [bb (by omega) (by omega)]
  cases (decide (v < 32)||decide (v=127))<;>rfl) (by
  show mS s (mM s).length=_
  unfold mS
  rw [if_neg (by omega),PJ s h];rfl)
 rw [hf]
 unfold Lz Sr
 congr 1
 have key:∀ (l:ai) (e:Bool),nI (fun v:Int=>if (decide (v < 32)||decide (v=127))=true then some false else none) e (mM l)=(!l.any Ev&&e):=by
  intro l e
  unfold mM
  induction l with
  | nil=>simp [nI]
  | cons c r ih=>
    simp only [List.map_cons,nI,List.any_cons]
    have hb:(decide ((c.toNat:Int) < 32)||decide ((c.toNat:Int)=127))=Ev c:=by
     unfold Ev;rw [Bool.eq_iff_iff];simp<;>omega
    rw [hb]
    cases Ev c with
    | true=>rfl
    | false=>simp only [Bool.false_eq_true,if_false,Bool.false_or];exact ih
 rw [key,Bool.and_assoc]
theorem DM (s:ai) (h:s.length≤1000000):qh s=some ((decide (1≤s.length)&&decide (s.length≤100))&&Lz s):=by
 unfold qh mg
 rw [M4]
 by_cases c:1≤s.length∧s.length≤100
 ·rw [if_pos (by simp;omega),SA s h];simp [c]
 ·rw [if_neg (by simp;omega)]
  rw [eq_comm];simp;intro h1 h2;omega
structure BC (x:aL):Prop where
 tags:x.Device.kY.length≤1000
 props:x.eG.length≤1000
 tag:∀ t∈x.Device.kY,t.Name.length≤100000∧t.Value.length≤100000
 prop:∀ p∈x.eG,p.Name.length≤100000∧p.Value.Words.length≤100000
theorem Vi (x:aL) (hx:BC x) (i:Int):lM x i=ml x i:=by
 unfold lM ml
 split
 ·cases h:idx x.eG i with
  | none=>rfl
  | some p=>
    have hb:=hx.prop p (gw h)
    simp only [Option.bind_some]
    have j3:∀ c,jL i p c=mj i p c:=by
     intro c
     unfold jL mj qj sy
     rw [Ge _ (by omega),AR _ (by omega)]
    rw [zy (by omega),DK (by omega)]
    simp only [Option.bind_some,j3]
 ·rfl
theorem Vj (x:aL) (hx:BC x) (i:Int):tN x i=zh x i:=zX (fun s=>Vi x hx s) i
theorem Vk (x:aL) (hx:BC x) (i:Int):lN x i=mn x i:=by
 unfold lN mn
 split
 ·cases h:idx x.Device.kY i with
  | none=>rfl
  | some t=>
    have hb:=hx.tag t (gw h)
    simp only [Option.bind_some]
    have j2:∀ c,jK i t c=mi i t c:=by
     intro c
     unfold jK mi o9
     cases c with
     | true=>rfl
     | false=>
       simp only [Bool.false_eq_true,if_false]
       rw [DM _ (by omega),PK _ (by omega)]
       simp only [Option.bind_some]
       by_cases e:t.Value=[]
       ·rw [if_pos e,if_pos (by simp [e])];rfl
       ·rw [if_neg e]
        have hp:1≤t.Value.length:=List.length_pos_iff.2 e
        have:(!((decide (1≤t.Value.length)&&decide (t.Value.length≤100))&&Lz t.Value))=(!Lz t.Value||decide ((100:Int) < t.Value.length)):=by
         cases Lz t.Value
         ·simp
         ·have e1:decide (1≤t.Value.length)=true:=decide_eq_true hp
          have e2:decide ((100:Int) < t.Value.length)=!decide (t.Value.length≤100):=by rw [Bool.eq_iff_iff];simp;omega
          rw [e1,e2];cases decide (t.Value.length≤100)<;>rfl
        rw [this]
    rw [wZ,nJ]
    simp only [Option.bind_some,j2]
 ·unfold tO vE
  rw [Vj x hx]
theorem SE (x:aL) (hx:BC x):iC x=uB x:=by
 unfold iC uB iL kE
 have hl:tP x 0=zi x 0:=zX (fun s=>Vk x hx s) 0
 simp only [wZ,nJ,yC,hl]
def w6 (x:aL):Prop:=∀ p∈x.eG,kG p.Value=true∧p.Value.Kind≠0
theorem LA (x:aL) (hx:BC x):Ok (tN x 0) (fun r=>r=0→w6 x):=by
 unfold tN
 have hp:=hx.props
 refine Ok.Jr x.eG.length (fun i=>∀ p∈x.eG.take i.toNat,kG p.Value=true∧p.Value.Kind≠0) (by simp) (fun i h0 h1 hi=>?_)
 have w1:cd (i+1)=i+1:=bb (by omega) (by omega)
 have w2:cd (i - 1)=i - 1:=bb (by omega) (by omega)
 unfold lM
 split
 ·rename_i lV
  refine Ok.idx h0 lV (fun p YH hpm=>?_)
  have hb:=hx.prop p hpm
  rw [zy (by omega)]
  simp only [Option.bind_some]
  have j3:∀ c,Ok (jL i p c) (Jq x.eG.length (fun i=>∀ p∈x.eG.take i.toNat,kG p.Value=true∧p.Value.Kind≠0) (fun r=>r=0→w6 x) i):=by
   intro c
   unfold jL qj
   cases c with
   | true=>exact Ok.inr (Ok.ret (fun h=>by cases h))
   | false=>
     simp only [Bool.false_eq_true,if_false]
     rw [Ge _ (by omega)]
     simp only [Option.bind_some]
     split
     ·exact Ok.inr (Ok.ret (fun h=>by cases h))
     ·rename_i hg
      refine Ok.ret ⟨w1,lV,fun q hq=>?_⟩
      rw [take_succ h0 YH,List.mem_append,List.mem_singleton] at hq
      rcases hq with hq | rfl
      ·exact hi q hq
      ·simpa using hg
  split
  ·exact Ok.inr (Ok.ret (fun h=>by cases h))
  ·split
   ·rw [w2]
    exact Ok.idx (by omega) (by omega) (fun q _ _=>j3 _)
   ·exact j3 _
 ·refine Ok.inr (Ok.ret (fun _=>?_))
  have:x.eG.take i.toNat=x.eG:=List.take_of_length_le (by omega)
  rw [this] at hi
  exact hi
theorem Gg (x:aL) (hx:BC x):Ok (iC x) (fun r=>r=0→w6 x):=by
 have ht:=hx.tags
 have hl1:Ok (tP x 0) (fun r=>r=0→w6 x):=by
  unfold tP
  refine Ok.range x.Device.kY.length (fun i h0 h1=>?_)
  have w1:cd (i+1)=i+1:=bb (by omega) (by omega)
  have w2:cd (i - 1)=i - 1:=bb (by omega) (by omega)
  unfold lN
  split
  ·rename_i lV
   refine Ok.idx h0 lV (fun t V3 T8=>?_)
   have hb:=hx.tag t T8
   rw [wZ]
   simp only [Option.bind_some]
   have j2:∀ c,Ok (jK i t c) (Rng x.Device.kY.length (fun r=>r=0→w6 x) i):=by
    intro c
    unfold jK
    cases c with
    | true=>exact Ok.inr (Ok.ret (fun h=>by cases h))
    | false=>
      simp only [Bool.false_eq_true,if_false]
      rw [DM _ (by omega)]
      simp only [Option.bind_some]
      split
      ·exact Ok.inr (Ok.ret (fun h=>by cases h))
      ·exact Ok.ret ⟨w1,lV⟩
   split
   ·exact Ok.inr (Ok.ret (fun h=>by cases h))
   ·split
    ·rw [w2]
     exact Ok.idx (by omega) (by omega) (fun q _ _=>j2 _)
    ·exact j2 _
  ·refine Ok.inr ?_
   unfold tO
   split
   ·exact Ok.ret (fun h=>by cases h)
   ·exact LA x hx
 have j1:∀ c,Ok (iL x c) (fun r=>r=0→w6 x):=by
  intro c
  unfold iL
  split
  ·exact Ok.ret (fun h=>by cases h)
  ·split
   ·exact Ok.ret (fun h=>by cases h)
   ·split
    ·exact Ok.ret (fun h=>by cases h)
    ·exact hl1
 unfold iC
 simp only [wZ,Option.bind_some]
 split
 ·exact j1 _
 ·split
  ·exact j1 _
  ·split<;>exact j1 _
theorem Vl (l:List aL) (hl:l.length≤100) (hx:∀ x∈l,BC x):ep l=lx l∧Ok (ep l) (fun r=>r=0→∀ x∈l,iC x=some 0):=by
 constructor
 ·unfold ep lx
  have:ox l 0=yu l 0:=zX (fun i=>by
   show fJ l i=kR l i
   unfold fJ kR
   split
   ·cases h:idx l i with
    | none=>rfl
    | some x=>simp only [Option.bind_some,SE x (hx x (gw h))];rfl
   ·rfl) 0
  rw [this]
 ·unfold ep
  rw [if_neg (by omega)]
  unfold ox
  refine Ok.Jr l.length (fun i=>∀ x∈l.take i.toNat,iC x=some 0) (by simp) (fun i h0 h1 hi=>?_)
  have w1:cd (i+1)=i+1:=bb (by omega) (by omega)
  have w2:cd (i - 1)=i - 1:=bb (by omega) (by omega)
  unfold fJ
  split
  ·rename_i lV
   refine Ok.idx h0 lV (fun x hxi Mt=>?_)
   obtain ⟨r,hr,_⟩:=Gg x (hx x Mt)
   rw [hr]
   simp only [Option.bind_some]
   split
   ·exact Ok.inr (Ok.ret (fun h=>absurd h (by assumption)))
   ·rename_i hr0
    have hr0:r=0:=Classical.byContradiction hr0
    subst hr0
    have j1:∀ c,Ok (fI i c) (Jq l.length (fun i=>∀ x∈l.take i.toNat,iC x=some 0) (fun r=>r=0→∀ x∈l,iC x=some 0) i):=by
     intro c
     unfold fI
     cases c with
     | true=>exact Ok.inr (Ok.ret (fun h=>by cases h))
     | false=>
       simp only [Bool.false_eq_true,if_false]
       refine Ok.ret ⟨w1,lV,fun q hq=>?_⟩
       rw [take_succ h0 hxi,List.mem_append,List.mem_singleton] at hq
       rcases hq with hq | rfl
       ·exact hi q hq
       ·exact hr
    split
    ·rw [w2]
     exact Ok.idx (by omega) (by omega) (fun q _ _=>j1 _)
    ·exact j1 _
  ·refine Ok.inr (Ok.ret (fun _=>?_))
   have:l.take i.toNat=l:=List.take_of_length_le (by omega)
   rw [this] at hi
   exact hi
theorem wF (c b:UInt8) (r:ai):cu c (b :: r)=if b=c then [] :: cu c r else match cu c r with
 | []=>[[b]]
 | h :: t=>(b :: h) :: t:=rfl
theorem Bp (c:UInt8):∀ a b:ai,cu c (a++c :: b)=cu c a++cu c b
 | [],b=>by simp [cu]
 | x :: a,b=>by
   have ih:=Bp c a b
   rw [List.cons_append,wF c x (a++c :: b),wF c x a]
   by_cases hx:x=c
   ·rw [if_pos hx,if_pos hx,ih,List.cons_append]
   ·rw [if_neg hx,if_neg hx,ih]
    cases e:cu c a with
    | nil=>exact absurd e (zU c a)
    | cons h t=>rfl
theorem wG (c x:UInt8) (hx:x≠c):∀ a:ai,∃ l e,cu c a=l++[e]∧cu c (a++[x])=l++[e++[x]]
 | []=>⟨[],[],by simp [cu],by simp [cu,hx]⟩
 | y :: a=>by
   obtain ⟨l,e,h1,h2⟩:=wG c x hx a
   rw [List.cons_append,wF c y (a++[x]),wF c y a]
   by_cases hy:y=c
   ·rw [if_pos hy,if_pos hy,h1,h2]
    exact ⟨[] :: l,e,rfl,rfl⟩
   ·rw [if_neg hy,if_neg hy,h1,h2]
    cases l with
    | nil=>exact ⟨[],y :: e,rfl,rfl⟩
    | cons z l=>exact ⟨(y :: z) :: l,e,rfl,rfl⟩
def Hf (s:ai):Bool:=decide ((cu 46 s).length≤5)&&(if (cu 46 s).getLast? =some [42] then (cu 46 s).dropLast.all vS else (cu 46 s).all vS)
theorem zY (a:ai) (x c:UInt8):w5 (a++[x]) [c]=decide (x=c):=by
 unfold w5
 rw [List.length_append,List.length_singleton,List.length_singleton,show a.length+1 - 1=a.length by omega,List.drop_left]
 simp
theorem SF (c:UInt8):w5 [] [c]=false:=by simp [w5]
theorem Gh (s:ai):s=[]∨∃ a x,s=a++[x]:=by
 cases h:s.reverse with
 | nil=>exact .inl (by simpa using h)
 | cons x r=>exact .inr ⟨r.reverse,x,by have:=congrArg List.reverse h;simpa using this⟩
theorem PL (a:ai):vS (a++[42])=false:=by
 cases a with
 | nil=>decide
 | cons c r=>
   rw [List.cons_append,xD]
   have:(c :: (r++[42])).all (fun c=>TE c.toNat)=false:=by
    rw [List.all_eq_false];exact ⟨42,by simp,by decide⟩
   rw [this,Bool.and_false]
theorem Om (s:ai) (c:UInt8) (h:s.length≤1000000000):strings_CutSuffix s [c]=some (if w5 s [c]=true then (s.take (s.length - 1),true) else (s,false)):=by
 unfold strings_CutSuffix fo
 rw [zA s [c] h]
 simp only [Option.bind_some]
 cases e:w5 s [c] with
 | false=>simp
 | true=>
   have hl:1≤s.length:=by
    unfold w5 at e
    simp at e;exact e.1
   rw [if_neg (by simp),bb (by simp;omega) (by simp;omega),wX (by omega) (by simp;omega) (by simp;omega)]
   simp only [Option.bind_some,if_true]
   have e0:((s.length:Int) - (([c]:ai).length:Int)).toNat - Int.toNat 0=s.length - 1:=by simp
   rw [e0];rfl
theorem Na {s:ai} {c:UInt8} (h:s.length≤1000000000) (e:w5 s [c]=true):strings_CutSuffix s [c]=some (s.take (s.length - 1),true):=by rw [Om s c h,if_pos e]
theorem Ju {s:ai} {c:UInt8} (h:s.length≤1000000000) (e:w5 s [c]=false):strings_CutSuffix s [c]=some (s,false):=by rw [Om s c h,if_neg (by simp [e])]
theorem Ic (s:ai) (k:Nat) (hk:k≤1000) (h:s.length≤1000000000):mI s (k:Int)=some (ry k s):=by
 unfold mI
 rw [zv k hk k s 0 (by omega) (by omega) h]
theorem Bq (s:ai) (h:s.length≤1000000000):gD s=some (ry 5 s):=by
 unfold gD
 rw [show (5:Int)=((5:Nat):Int) from rfl,Ic s 5 (by omega) h];rfl
theorem LB (s:ai) (h:s.length≤100000000):ph s=some (Hf s):=by
 unfold ph np
 rcases Gh s with rfl | ⟨a,x,rfl⟩
 ·rw [Ju (by simp) (SF 42)]
  simp only [Option.bind_some]
  rw [if_pos (by simp),Bq _ (by simp)]
  decide
 by_cases hx:x=42
 ·subst hx
  rw [Na (by omega) (by rw [zY];simp)]
  simp only [Option.bind_some]
  rw [if_neg (by simp)]
  have ht:(a++[(42:UInt8)]).take ((a++[(42:UInt8)]).length - 1)=a:=by simp
  rw [ht]
  by_cases ha:a=[]
  ·subst ha;rw [if_pos rfl];decide
  rw [if_neg ha]
  rcases Gh a with rfl | ⟨g,y,rfl⟩
  ·exact absurd rfl ha
  have hg:g.length≤1000000000:=by simp at h;omega
  have hgy:(g++[y]).length≤1000000000:=by simp at h ⊢;omega
  by_cases hy:y=46
  ·subst hy
   rw [Na hgy (by rw [zY];simp)]
   simp only [Option.bind_some]
   rw [if_pos trivial]
   have ht:(g++[(46:UInt8)]).take ((g++[(46:UInt8)]).length - 1)=g:=by simp
   rw [ht,show (4:Int)=((4:Nat):Int) from rfl,Ic g 4 (by omega) hg]
   simp only [Option.bind_some]
   have hs:cu 46 (g++[46]++[42])=cu 46 g++[[42]]:=by
    rw [List.append_assoc];exact Bp 46 g [42]
   unfold Hf ry
   rw [hs]
   simp only [List.length_append,List.length_singleton,List.getLast?_append,List.getLast?_singleton,Option.some_or,if_true,List.dropLast_concat]
   congr 1
   rw [Bool.eq_iff_iff];simp
  ·rw [Ju hgy (by rw [zY];simpa using hy)]
   simp only [Option.bind_some]
   rw [if_neg (by simp)]
   obtain ⟨l,e,h1,h2⟩:=wG 46 y hy g
   obtain ⟨l',e',h3,h4⟩:=wG 46 42 (by decide) (g++[y])
   rw [h2] at h3
   obtain ⟨rfl,h5⟩:=List.append_inj' h3 rfl
   obtain rfl:=List.singleton_inj.1 h5
   unfold Hf
   rw [h4]
   simp only [List.getLast?_append,List.getLast?_singleton,Option.some_or,List.all_append,List.all_cons,List.all_nil,Bool.and_true]
   rw [PL,if_neg (by
    intro k
    have:=congrArg List.length (Option.some.inj k)
    simp at this)]
   simp
 ·rw [Ju (by omega) (by rw [zY];simpa using hx)]
  simp only [Option.bind_some]
  rw [if_pos (by simp),Bq _ (by omega)]
  simp only [Option.bind_some]
  unfold Hf ry
  have hl:(cu 46 (a++[x])).getLast? ≠some [42]:=by
   by_cases hp:x=46
   ·subst hp
    rw [show a++[(46:UInt8)]=a++46 :: [] from rfl,Bp]
    simp [cu]
   ·obtain ⟨l,e,h1,h2⟩:=wG 46 x hp a
    rw [h2]
    simp only [List.getLast?_append,List.getLast?_singleton,Option.some_or,ne_eq,Option.some.injEq]
    intro he
    have:=congrArg List.getLast? he
    simp at this
    exact hx this
  rw [if_neg hl]
theorem LC {α:Type} (l:List α) (x:α):idx (l++[x]) (cd (((l++[x]).length:Int) - 1))=if ((l++[x]).length:Int)≤9223372036854775807 then some x else idx (l++[x]) (cd (((l++[x]).length:Int) - 1)):=by
 split
 ·rw [bb (by simp) (by omega)]
  unfold idx
  rw [if_pos (by simp)]
  rw [List.length_append,List.length_singleton,show (((l.length+1:Nat):Int) - 1).toNat=l.length by omega]
  simp
 ·rfl
theorem DN (s:ai) (h:s.length≤100000000):qT s false=some (Hf s):=by
 unfold qT
 rw [xE (by omega)]
 simp only [Option.bind_some]
 have hlen:=ua 46 s
 have uc:=zU 46 s
 have j2:∀ l:List ai,l.length≤1000000000→jM s l=some (decide ((cu 46 s).length≤5)&&l.all vS):=by
  intro l hl
  unfold jM nP
  rw [xE (by omega)]
  simp only [Option.bind_some]
  by_cases c:(cu 46 s).length≤5
  ·rw [if_pos (by omega)]
   rw [show aV l (fun y0=>iM y0)=some (l.any (fun y=>!vS y)) from dW l _ _ (fun x _=>by show iM x=_;unfold iM;rw [nJ];rfl) (by omega)]
   simp only [Option.bind_some,Option.some.injEq]
   rw [decide_eq_true c,Bool.true_and,List.not_any_eq_all_not]
   congr 1;funext x;simp
  ·rw [if_neg (by omega),decide_eq_false c];simp
 rcases List.eq_nil_or_concat (cu 46 s) with e | ⟨l,x,e⟩
 ·exact absurd e uc
 rw [List.concat_eq_append] at e
 rw [if_pos (by simp)]
 have hx:idx (cu 46 s) (cd (((cu 46 s).length:Int) - 1))=some x:=by rw [e,LC,if_pos (by rw [← e];omega)]
 rw [hx]
 simp only [Option.bind_some]
 unfold nQ Hf
 rw [hx]
 simp only [Option.bind_some]
 have hll:l.length≤1000000000:=by
  have:=congrArg List.length e
  simp at this;omega
 have hg:(cu 46 s).getLast? =some x:=by rw [e];simp
 have hd:(cu 46 s).dropLast=l:=by rw [e];simp
 rw [hg,hd]
 have yD:1≤(cu 46 s).length:=by rw [e];simp
 by_cases c:x=[42]
 ·rw [if_pos (by simpa using c),if_pos (by rw [c]),bb (by omega) (by omega),wX (by omega) (by omega) (by omega)]
  simp only [Option.bind_some]
  have ht:((cu 46 s).drop (0:Int).toNat).take ((((cu 46 s).length:Int) - 1).toNat - (0:Int).toNat)=l:=by
   rw [e];simp
  rw [ht,j2 l hll]
 ·rw [if_neg (by simpa using c),if_neg (fun k=>c (Option.some.inj k)),nJ]
  simp only [Option.bind_some]
  cases hk:vS x with
  | false=>rw [if_pos (by simp),e];simp [hk]
  | true=>rw [if_neg (by simp),j2 _ (by omega)]
def SG (a b:ai):Bool:=decide (a=b)||(w5 a [42]&&preB b (a.take (a.length - 1)))
theorem Ie (a b:ai) (ha:a.length≤1000000000) (hb:b.length≤1000000000):nO a b=some (SG a b):=by
 unfold nO jT SG
 cases e:w5 a [42] with
 | false=>
   rw [Ju ha e]
   simp only [Option.bind_some]
   by_cases c:a=b
   ·rw [if_pos c,decide_eq_true c];rfl
   rw [if_neg c,decide_eq_false c,if_neg (by simp)]
   rfl
 | true=>
   rw [Na ha e]
   simp only [Option.bind_some]
   by_cases c:a=b
   ·rw [if_pos c,decide_eq_true c];rfl
   rw [if_neg c,decide_eq_false c,if_pos trivial]
   rw [w4 b _ hb];simp
theorem Hg (a b:ai):zR a b=nO a b:=rfl
def vT (SH:List ai) (w:ai):Bool:=SH.any (fun h=>SG h w)
def vb (SH want:List ai):Bool:=want.all (vT SH)
def Ey (l:List ai):Prop:=l.length≤1000000∧∀ x∈l,x.length≤1000000
theorem Br (l:List ai) (w:ai) (hl:Ey l) (hw:w.length≤1000000):kC l w=some (vT l w):=by
 unfold kC
 rw [show aV l (fun y0=>jf y0 w)=some (l.any (fun h=>SG h w)) from dW l _ _ (fun x hx=>by
  show jf x w=_
  unfold jf
  rw [Ie x w (by have:=hl.2 x hx;omega) (by omega)];rfl) (by have:=hl.1;omega)]
 rfl
theorem Hh (l m:List ai) (hl:Ey l) (hm:Ey m):ly l m=some (vb l m):=by
 unfold ly
 rw [show aV m (fun y0=>gp y0 l)=some (m.any (fun w=>!vT l w)) from dW m _ _ (fun x hx=>by
  show gp x l=_
  unfold gp
  rw [Br l x hl (hm.2 x hx)];rfl) (by have:=hm.1;omega)]
 simp only [Option.bind_some,Option.some.injEq]
 rw [List.not_any_eq_all_not]
 unfold vb
 congr 1;funext x;simp
theorem Cy (l m:List ai) (hl:Ey l) (hm:Ey m):rf l m=some (vb l m):=by
 unfold rf
 rw [show aV m (fun y0=>mr y0 l)=some (m.any (fun w=>!vT l w)) from dW m _ _ (fun x hx=>by
  show mr x l=_
  unfold mr
  rw [show aV l (fun y0=>ji y0 x)=some (l.any (fun h=>SG h x)) from dW l _ _ (fun z hz=>by
   show ji z x=_
   unfold ji
   rw [Hg,Ie z x (by have:=hl.2 z hz;omega) (by have:=hm.2 x hx;omega)];rfl) (by have:=hl.1;omega)]
  rfl) (by have:=hm.1;omega)]
 simp only [Option.bind_some,Option.some.injEq]
 rw [List.not_any_eq_all_not]
 unfold vb
 congr 1;funext x;simp
theorem zB (l:List ai) (hl:Ey l):jS l=qU l∧∃ r,qU l=some r:=by
 unfold jS qU o8
 have hb:∀ i,gY l i=dL l false i:=by
  intro i
  unfold gY dL jv dU
  by_cases c:i < (l.length:Int)
  ·rw [if_pos c,if_pos c]
   cases hx:idx l i with
   | none=>rfl
   | some x=>
     simp only [Option.bind_some]
     have:=hl.2 x (gw hx)
     rw [LB x (by omega),DN x (by omega)]
  ·rw [if_neg c,if_neg c]
 have aaZ:uT l 0=o7 l false 0:=zX (fun i=>hb i) 0
 have af5:Ok (o7 l false 0) (fun _=>True):=by
  unfold o7
  refine Ok.range l.length (fun i h0 h1=>?_)
  have w1:cd (i+1)=i+1:=bb (by omega) (by have:=hl.1;omega)
  unfold dL
  split
  ·rename_i hi
   refine Ok.idx h0 (by simpa using hi) (fun x hx hm=>?_)
   have:=hl.2 x hm
   rw [DN x (by omega)]
   simp only [Option.bind_some]
   have j1:∀ c,Ok (dU i c) (Rng l.length (fun _=>True) i):=by
    intro c
    unfold dU
    split
    ·exact Ok.inr (Ok.ret trivial)
    ·rw [w1];exact Ok.ret ⟨rfl,by simpa using hi⟩
   split
   ·exact Ok.inr (Ok.ret trivial)
   ·split
    ·rw [bb (by omega) (by have:=hl.1;omega)]
     exact Ok.idx (by omega) (by omega) (fun y _ _=>j1 _)
    ·exact j1 _
  ·exact Ok.inr (Ok.ret trivial)
 obtain ⟨r,hr,_⟩:=af5
 rw [aaZ,hr]
 refine ⟨rfl,?_⟩
 split
 ·exact ⟨_,rfl⟩
 ·split
  ·exact ⟨_,rfl⟩
  ·exact ⟨_,rfl⟩
theorem Nb {A:Type} {f g:Int→Option (Int⊕A)} (N:Nat) (Inv:Int→Prop)
 (h:∀ i:Int,0≤i→i≤N→Inv i→f i=g i∧∀ j,f i=some (.inl j)→j=i+1∧i < N∧Inv j) (h0:Inv 0):Eng.iter f 0=Eng.iter g 0:=by
 have key:∀ (k:Nat) (i:Int),0≤i→i≤N→i+k=N+1→Inv i→Eng.iter f i=Eng.iter g i:=by
  intro k
  induction k with
  | zero=>intro i hi hN hk hv;omega
  | succ k ih=>
    intro i hi hN hk hv
    obtain ⟨e,hn⟩:=h i hi hN hv
    rw [iter_eq (f:=f),iter_eq (f:=g),← e]
    cases hf:f i with
    | none=>rfl
    | some r=>
      cases r with
      | inr a=>rfl
      | inl j=>
        obtain ⟨rfl,h1,h2⟩:=hn j hf
        simp only [Option.bind_some,du]
        exact ih (i+1) (by omega) (by omega) (by omega) h2
 exact key (N+1) 0 (by omega) (by omega) (by omega) h0
theorem Dl {α:Type} (p:α→Bool):∀ (xs pre:List α) (x:α),xs.find? p=some x→idx (pre++xs) (pe p xs pre.length)=some x
 | [],_,_,h=>by cases h
 | y :: r,pre,x,h=>by
   rw [List.find?_cons] at h
   unfold pe
   cases hp:p y with
   | true=>
     rw [hp] at h
     obtain rfl:=Option.some.inj h
     rw [if_pos rfl]
     unfold idx
     rw [if_pos (by omega)];simp
   | false=>
     rw [hp] at h
     rw [if_neg (by simp)]
     have:=Dl p r (pre++[y]) x h
     rw [List.append_assoc,List.length_append,List.length_singleton] at this
     exact_mod_cast this
theorem Bs:∀ {l L:List ai},l.Nodup→(∀ x∈l,x∈L)→l.length≤L.length
 | [],L,_,_=>Nat.zero_le _
 | x :: l,L,h,hs=>by
   have h1:=List.nodup_cons.1 h
   have hx:=hs x (by simp)
   have ih:=Bs (l:=l) (L:=L.erase x) h1.2 (fun y hy=>by
    have uc:y≠x:=fun e=>h1.1 (e▸hy)
    exact (List.mem_erase_of_ne uc).2 (hs y (List.mem_cons_of_mem _ hy)))
   rw [List.length_erase_of_mem hx] at ih
   have:0 < L.length:=List.length_pos_of_mem hx
   simp only [List.length_cons]
   omega
def XX (T:List au) (k:ai):Option au:=T.find? (fun t=>decide (t.Key=k))
def up (T:List au) (k:ai):Option ai:=(XX T k).map (·.fe)
def walk (T:List au):Nat→ai→List ai
 | 0,_=>[]
 | n+1,q=>match up T q with
   | none=>[]
   | some r=>q :: walk T n r
structure zC (T:List au):Prop where
 key:∀ t∈T,t.Key≠[]
 nd:T.Pairwise (fun a b=>a.Key≠b.Key)
 cl:∀ t∈T,t.fe≠[]→∃ u∈T,u.Key=t.fe
theorem LD {T:List au} {k:ai} {t:au} (h:XX T k=some t):t∈T∧t.Key=k:=
 ⟨List.mem_of_find?_eq_some h,by simpa using List.find?_some h⟩
theorem Gi {T:List au} {k:ai}:XX T k=none↔∀ t∈T,t.Key≠k:=by
 unfold XX;rw [List.find?_eq_none];simp
theorem Vm {T:List au} {k:ai} (h:∃ t∈T,t.Key=k):∃ t,XX T k=some t:=by
 cases e:XX T k with
 | some t=>exact ⟨t,rfl⟩
 | none=>obtain ⟨t,ht,hk⟩:=h;exact absurd hk (Gi.1 e t ht)
theorem EI {T:List au} {k r:ai} (h:up T k=some r):∃ t∈T,t.Key=k∧t.fe=r:=by
 unfold up at h
 obtain ⟨t,h1,h2⟩:=Option.map_eq_some_iff.1 h
 exact ⟨t,(LD h1).1,(LD h1).2,h2⟩
theorem Dm {T:List au} {k:ai} (h:∃ t∈T,t.Key=k):∃ r,up T k=some r:=by
 obtain ⟨t,ht⟩:=Vm h
 exact ⟨t.fe,by unfold up;rw [ht];rfl⟩
theorem SI {T:List au} (h:zC T):up T []=none:=by
 unfold up
 rw [Gi.2 (fun t ht=>h.key t ht)];rfl
theorem ab0 {T:List au} (h:zC T) {q r:ai} (e:up T q=some r):r=[]∨∃ r',up T r=some r':=by
 obtain ⟨t,ht,_,rfl⟩:=EI e
 by_cases c:t.fe=[]
 ·exact .inl c
 ·exact .inr (Dm (h.cl t ht c))
theorem oc {T:List au} {q:ai} (h:up T q=none):∀ n,walk T n q=[]
 | 0=>rfl
 | n+1=>by unfold walk;rw [h]
theorem kV {T:List au} {q r:ai} (h:up T q=some r) (n:Nat):walk T (n+1) q=q :: walk T n r:=by
 rw [walk,h]
theorem LF {T:List au}:∀ (n:Nat) (q:ai),(walk T n q).length≤n
 | 0,_=>Nat.le_refl _
 | n+1,q=>by
   cases e:up T q with
   | none=>rw [oc e];exact Nat.zero_le _
   | some r=>rw [kV e];exact Nat.succ_le_succ (LF n r)
theorem Ig {T:List au}:∀ (n:Nat) (q x:ai),x∈walk T n q→x∈walk T (n+1) q
 | 0,_,_,h=>by cases h
 | n+1,q,x,h=>by
   cases e:up T q with
   | none=>rw [oc e] at h;cases h
   | some r=>
     rw [kV e] at h ⊢
     rcases List.mem_cons.1 h with rfl | h
     ·exact List.mem_cons_self
     ·exact List.mem_cons_of_mem _ (Ig n r x h)
theorem Gj {T:List au} (n:Nat) (q x:ai) (h:x∈(walk T n q).tail):x∈(walk T (n+1) q).tail:=by
 cases n with
 | zero=>cases h
 | succ n=>
   cases e:up T q with
   | none=>rw [oc e] at h;cases h
   | some r=>
     rw [kV e] at h ⊢
     exact Ig n r x h
theorem Ih {T:List au}:∀ (n:Nat) (q:ai),¬ (walk T n q).Nodup→∃ t∈T,t.Key∈(walk T n t.Key).tail
 | 0,_,h=>absurd List.nodup_nil h
 | n+1,q,h=>by
   cases e:up T q with
   | none=>rw [oc e] at h;exact absurd List.nodup_nil h
   | some r=>
     rw [kV e,List.nodup_cons] at h
     by_cases c:q∈walk T n r
     ·obtain ⟨t,ht,rfl,_⟩:=EI e
      exact ⟨t,ht,by rw [kV e];exact c⟩
     ·obtain ⟨t,ht,h2⟩:=Ih n r (fun k=>h ⟨c,k⟩)
      exact ⟨t,ht,Gj n _ _ h2⟩
theorem PM {T:List au} {n:Nat} {q:ai} (h:q∈(walk T n q).tail):¬ (walk T n q).Nodup:=by
 cases n with
 | zero=>cases h
 | succ n=>
   cases e:up T q with
   | none=>rw [oc e] at h;cases h
   | some r=>
     rw [kV e] at h ⊢
     rw [List.nodup_cons]
     exact fun k=>k.1 h
theorem ri (o:aW) (k:ai) (hl:o.ao.length≤1000000):fB o k=some (pe (fun t=>decide (t.Key=k)) o.ao 0):=by
 unfold fB
 rw [show fw o.ao (fun y0=>some (tQ y0 k))=some (pe (fun t=>decide (t.Key=k)) o.ao 0) from wY o.ao _ _ (fun x _=>rfl) (by omega)]
 rfl
theorem pO (T:List au) (k:ai):pe (fun t=>decide (t.Key=k)) T 0 < 0↔up T k=none:=by
 have h:=zT (fun t:au=>decide (t.Key=k)) T 0 (by omega)
 have h2:up T k=none↔¬ (T.any (fun t=>decide (t.Key=k))=true):=by
  unfold up
  rw [Option.map_eq_none_iff,Gi];simp
 rw [h2,← h];omega
theorem Nc {T:List au} {k:ai} {t:au} (h:XX T k=some t):idx T (pe (fun t=>decide (t.Key=k)) T 0)=some t:=by
 have:=Dl (fun t:au=>decide (t.Key=k)) T [] t h
 simpa using this
theorem Ii {o:aW} (hl:o.ao.length≤1000000) {q r:ai} (e:up o.ao q=some r) {β:Type} (f:ai→Option β):((fB o q).bind fun v12=>(idx o.ao v12).bind fun ma=>f ma.fe)=f r:=by
 rw [ri o q hl]
 simp only [Option.bind_some]
 unfold up at e
 obtain ⟨t,h1,h2⟩:=Option.map_eq_some_iff.1 e
 rw [Nc h1]
 simp only [Option.bind_some,h2]
section
variable {o:aW} (h:zC o.ao) (hl:o.ao.length≤1000000)
theorem On {l:List ai} (hn:l.Nodup) (hm:∀ x∈l,∃ t∈o.ao,t.Key=x):l.length≤o.ao.length:=by
 have:=Bs (L:=o.ao.map (·.Key)) hn (fun x hx=>by
  obtain ⟨t,ht,hk⟩:=hm x hx
  exact List.mem_map.2 ⟨t,ht,hk⟩)
 simpa using this
include h hl
theorem Wp:∀ (m:Nat) (q:ai) (l:List ai),l.Nodup→(∀ x∈l,∃ t∈o.ao,t.Key=x)→l.length+m=o.ao.length+1→(q=[]∨∃ r,up o.ao q=some r)→
 nz o q l=some (if (l++walk o.ao m q).Nodup then some (l++walk o.ao m q) else none)∧ux o q l=some (if (l++walk o.ao m q).Nodup then l++walk o.ao m q else [])
 | 0,q,l,hn,hm,hlen,hq=>by
   have:=On hn hm
   omega
 | m+1,q,l,hn,hm,hlen,hq=>by
   have hll:l.length≤1000000:=by have:=On hn hm;omega
   by_cases c:q=[]
   ·subst c
    rw [oc (SI h),List.append_nil,if_pos hn,if_pos hn]
    unfold nz ux
    constructor
    ·rw [iter_eq,jo,if_neg (by simp),cy]
    ·rw [iter_eq,o5,if_neg (by simp),cy]
   ·obtain ⟨r,hr⟩:∃ r,up o.ao q=some r:=hq.resolve_left c
    rw [kV hr]
    by_cases c2:q∈l
    ·have ZN:¬ (l++q :: walk o.ao m r).Nodup:=fun k=>(List.nodup_append.1 k).2.2 q c2 q (by simp) rfl
     rw [if_neg ZN,if_neg ZN]
     unfold nz ux
     constructor
     ·rw [iter_eq,jo,if_pos c,sI l q (by omega)]
      simp only [Option.bind_some]
      rw [if_pos (by simpa using c2),cy]
     ·rw [iter_eq,o5,if_pos c,sI l q (by omega)]
      simp only [Option.bind_some]
      rw [if_pos (by simpa using c2),cy]
    ·obtain ⟨t,ht,hk,_⟩:=EI hr
     have Q6:(l++[q]).Nodup:=by
      rw [List.nodup_append]
      exact ⟨hn,by simp,fun a ha b hb=>by rw [List.mem_singleton.1 hb];exact fun e=>c2 (e▸ha)⟩
     obtain ⟨i1,i2⟩:=Wp m r (l++[q]) Q6 (fun x hx=>by
      rcases List.mem_append.1 hx with k | k
      ·exact hm x k
      ·rw [List.mem_singleton.1 k];exact ⟨t,ht,hk⟩) (by simp;omega) (ab0 h hr)
     rw [List.append_assoc,List.singleton_append] at i1 i2
     rw [← i1,← i2]
     unfold nz ux
     constructor
     ·rw [iter_eq,jo,if_pos c,sI l q (by omega)]
      simp only [Option.bind_some]
      rw [if_neg (by simpa using c2),mD (by simp;omega)]
      simp only [Option.bind_some]
      have hs:((fB o q).bind fun v12=>(idx o.ao v12).bind fun ma=>(some (Sum.inl (ma.fe,l++[q])):Option ((ai×(List ai))⊕(Option (List ai)))))=some (.inl (r,l++[q])):=Ii hl hr (fun p=>some (Sum.inl (p,l++[q])))
      rw [hs];rfl
     ·rw [iter_eq,o5,if_pos c,sI l q (by omega)]
      simp only [Option.bind_some]
      rw [if_neg (by simpa using c2),mD (by simp;omega)]
      simp only [Option.bind_some]
      have hs:((fB o q).bind fun v12=>(idx o.ao v12).bind fun ma=>(some (Sum.inl (ma.fe,l++[q])):Option ((ai×(List ai))⊕(List ai))))=some (.inl (r,l++[q])):=Ii hl hr (fun p=>some (Sum.inl (p,l++[q])))
      rw [hs];rfl
abbrev wk (o:aW) (k:ai):List ai:=walk o.ao (o.ao.length+1) k
theorem xH {k:ai} (hk:k=[]∨∃ r,up o.ao k=some r):sj o k=some (if (wk o k).Nodup then some (wk o k) else none)∧si o k=some (if (wk o k).Nodup then wk o k else []):=by
 have:=Wp h hl (o.ao.length+1) k [] List.nodup_nil (fun x hx=>by cases hx) (by simp) hk
 simp only [List.nil_append] at this
 exact this
end
structure wH (v:aq) (o:aW):Prop where
 Oo:v.aW=o
 par:∀ k,cX v.aT k=up o.ao k
 len:v.aT.length=o.ao.length
theorem Ij {v:aq} {o:aW} (h:wH v o) (k:ai):gB v k=some (up o.ao k).isSome:=by
 unfold gB AG
 rw [h.par k];rfl
theorem SJ {v:aq} {o:aW} (h:wH v o) (hl:o.ao.length≤1000000):∀ (m:Nat) (q:ai) (l:List ai),l.length+m=o.ao.length+1→ju v q l=some (l++walk o.ao m q)
 | 0,q,l,hlen=>by
   unfold ju
   rw [iter_eq,gW,Ij h]
   simp only [Option.bind_some]
   unfold jt
   rw [if_neg (by rw [h.len];simp;omega),cy]
   simp [walk]
 | m+1,q,l,hlen=>by
   unfold ju
   rw [iter_eq,gW,Ij h]
   simp only [Option.bind_some]
   unfold jt
   cases e:up o.ao q with
   | none=>rw [if_neg (by simp),cy,oc e];simp
   | some r=>
     rw [if_pos (by rw [h.len];simp;omega),mD (by simp;omega)]
     simp only [Option.bind_some]
     unfold vu
     rw [h.par q,e]
     simp only [Option.bind_some,Option.getD_some,du]
     have:=SJ h hl m r (l++[q]) (by simp;omega)
     unfold ju at this
     rw [this,kV e];simp
theorem Cz {v:aq} {o:aW} (h:wH v o) (hl:o.ao.length≤1000000) (k:ai):gn v k=some (wk o k):=by
 unfold gn
 rw [SJ h hl (o.ao.length+1) k [] (by simp)];rfl
theorem Gk (o:aW) (k:ai):(wk o k).length≤o.ao.length+1:=LF _ _
theorem zZ {A:Type} {f g:Int→Option (Int⊕A)} (N:Nat) (Inv:Int→Prop) (R:A→Prop) (h0:Inv 0)
 (h:∀ i:Int,0≤i→i≤N→Inv i→f i=g i∧Ok (f i) (Jq N Inv R i)):Eng.iter f 0=Eng.iter g 0∧Ok (Eng.iter f 0) R:=by
 refine ⟨Nb N Inv (fun i h1 h2 h3=>⟨(h i h1 h2 h3).1,fun j hj=>?_⟩) h0,Ok.Jr N Inv h0 (fun i h1 h2 h3=>(h i h1 h2 h3).2)⟩
 obtain ⟨r,e1,e2⟩:=(h i h1 h2 h3).2
 rw [hj] at e1
 obtain rfl:=Option.some.inj e1
 obtain ⟨rfl,e3,e4⟩:=e2
 exact ⟨rfl,e3,e4⟩
theorem Bt {α A:Type} (p:α→Bool) (a e:A):∀ xs:List α,nI (fun x=>if p x=true then some a else none) e xs=if xs.any p=true then a else e
 | []=>rfl
 | x :: r=>by
   unfold nI
   rw [List.any_cons]
   cases hp:p x with
   | true=>simp
   | false=>simp [Bt p a e r]
theorem Nd {α A:Type} (xs:List α) (f:Int→Option (Int⊕A)) (p:α→Bool) (a:A) (hlen:xs.length≤1000000)
 (h1:∀ (i:Int) x,0≤i→i < xs.length→idx xs i=some x→f i=if p x=true then some (.inr a) else some (.inl (i+1))) (hp:xs.any p=true):iter f 0=some a:=by
 have key:∀ (k:Nat) (i:Int),0≤i→i+k=xs.length→(xs.drop i.toNat).any p=true→iter f i=some a:=by
  intro k
  induction k with
  | zero=>intro i h0 hi h;rw [List.drop_of_length_le (by omega)] at h;cases h
  | succ k ih=>
    intro i h0 hi h
    obtain ⟨x,hx,_,hd⟩:=iq xs h0 (by omega)
    rw [iter_eq,h1 i x h0 (by omega) hx]
    rw [hd,List.any_cons] at h
    cases hpx:p x with
    | true=>rfl
    | false=>
      rw [if_neg (by simp)]
      simp only [Option.bind_some,du]
      exact ih (i+1) (by omega) (by omega) (by rw [hpx,Bool.false_or] at h;exact h)
 exact key xs.length 0 (by omega) (by omega) (by simpa using hp)
theorem LG {α:Type} {l:List α} (h:l≠[]):HT l=some ():=by
 cases l with
 | nil=>exact absurd rfl h
 | cons x r=>rfl
section
variable {α V:Type} (key:α→ai) (val:α→V)
def foldM (m:List (ai×V)) (xs:List α):List (ai×V):=xs.foldl (fun m x=>jl m (key x) (val x)) m
theorem Bu (m:List (ai×V)) (x:α) (xs:List α):foldM key val m (x :: xs)=foldM key val (jl m (key x) (val x)) xs:=rfl
theorem Gl (k:ai):∀ (xs:List α) (m:List (ai×V)),(cX (foldM key val m xs) k).isSome=(xs.any (fun x=>decide (key x=k))||(cX m k).isSome)
 | [],m=>by simp [foldM]
 | x :: r,m=>by
   rw [Bu,Gl k r,vj,List.any_cons]
   by_cases c:key x=k
   ·simp [c]
   ·simp [c]
theorem Dn (k:ai):∀ (xs:List α) (m:List (ai×V)),xs.Pairwise (fun a b=>key a≠key b)→cX (foldM key val m xs) k=((xs.find? (fun x=>decide (key x=k))).map val).or (cX m k)
 | [],m,_=>by simp [foldM]
 | x :: r,m,h=>by
   rw [List.pairwise_cons] at h
   rw [Bu,Dn k r _ h.2,vj,List.find?_cons]
   by_cases c:key x=k
   ·have:r.find? (fun x=>decide (key x=k))=none:=by
     rw [List.find?_eq_none]
     intro y hy
     simpa using fun e=>h.1 y hy (by rw [c,e])
    rw [this];simp [c]
   ·simp [c]
theorem Ik:∀ (xs:List α) (m:List (ai×V)),xs.Pairwise (fun a b=>key a≠key b)→(∀ x∈xs,cX m (key x)=none)→(foldM key val m xs).length=m.length+xs.length
 | [],m,_,_=>rfl
 | x :: r,m,h,hn=>by
   rw [List.pairwise_cons] at h
   rw [Bu,Ik r _ h.2 (fun y hy=>by
    rw [vj,if_neg (h.1 y hy)];exact hn y (by simp [hy])),Jp (hn x (by simp)),List.length_cons]
   omega
end
theorem Nf (o:aW) (h1:o.ao.length≤100000) (h2:o.bd.length≤100000) (h3:o.aG.length≤100000):∃ at_,iS o=some ⟨o,foldM (·.Key) (·.fe) [] o.ao,foldM (·.Key) (·.lI) [] o.bd,at_,[],[]⟩:=by
 unfold iS
 have e1:∀ m,k6 o m 0=eI o (foldM (·.Key) (·.fe) m o.ao) [] 0:=by
  intro m
  unfold k6
  exact de o.ao (fun (s:List (ai×ai)) (i:Int)=>(s,i)) (fun x=>cF o x.1 x.2) (fun s t=>jl s t.Key t.fe) (fun _ _=>True) (fun s=>eI o s [] 0)
   (fun s i x g0 g1 hi _=>⟨by
    show cF o s i=_
    unfold cF
    rw [if_pos g1,hi,bb (by omega) (by omega)];rfl,trivial⟩)
   (fun s _=>by
    show cF o s o.ao.length=_
    unfold cF
    rw [if_neg (by omega)]) m trivial
 have e2:∀ p m,eI o p m 0=fG o p (foldM (·.Key) (·.lI) m o.bd) [] 0:=by
  intro p m
  unfold eI
  exact de o.bd (fun (s:List (ai×List ai)) (i:Int)=>(s,i)) (fun x=>cE o p x.1 x.2) (fun s t=>jl s t.Key t.lI) (fun _ _=>True) (fun s=>fG o p s [] 0)
   (fun s i x g0 g1 hi _=>⟨by
    show cE o p s i=_
    unfold cE
    rw [if_pos g1,hi,bb (by omega) (by omega)];rfl,trivial⟩)
   (fun s _=>by
    show cE o p s o.bd.length=_
    unfold cE
    rw [if_neg (by omega)]) m trivial
 have e3:∀ p m,Ok (fG o p m [] 0) (fun v=>∃ a,v=⟨o,p,m,a,[],[]⟩):=by
  intro p m
  unfold fG
  refine Ok.Bo o.aG.length (fun (s:List (ai×List Int)) (i:Int)=>(s,i)) (fun i s=>∀ k v,cX s k=some v→(v.length:Int)≤i) (fun s i g0 g1 hv=>?_) [] (fun k v hk=>by cases hk)
  show Ok (fE o p m s i) _
  unfold fE
  split
  ·rename_i hi
   refine Ok.idx g0 hi (fun x _ _=>?_)
   unfold vu
   simp only [Option.bind_some]
   have hb:(((cX s x.au).getD []).length:Int)≤i:=by
    cases hk:cX s x.au with
    | none=>simpa using g0
    | some v=>exact hv _ v hk
   refine Ok.app (by simp;omega) ?_
   rw [bb (by omega) (by omega)]
   refine Ok.ret (.inl ⟨_,rfl,hi,fun k v hk=>?_⟩)
   rw [vj] at hk
   split at hk
   ·obtain rfl:=Option.some.inj hk
    simp;omega
   ·have:=hv k v hk;omega
  ·exact Ok.inr (Ok.ret (.inr ⟨_,rfl,_,rfl⟩))
 rw [e1,e2]
 obtain ⟨v,hv,a,rfl⟩:=e3 (foldM (·.Key) (·.fe) [] o.ao) (foldM (·.Key) (·.lI) [] o.bd)
 exact ⟨a,hv⟩
theorem XY (o:aW) (hn:o.ao.Pairwise (fun a b=>a.Key≠b.Key)) (a:List (ai×(List ai))) (b:List (ai×(List Int))) (c:List (aN×(List Int))) (d:List (aN×Bool)):wH ⟨o,foldM (·.Key) (·.fe) [] o.ao,a,b,c,d⟩ o where
 Oo:=rfl
 par k:=by
  show cX (foldM (·.Key) (·.fe) [] o.ao) k=_
  rw [Dn (·.Key) (·.fe) k o.ao [] hn,Gb,Option.or_none];rfl
 len:=by
  show (foldM (·.Key) (·.fe) [] o.ao).length=_
  rw [Ik (·.Key) (·.fe) o.ao [] hn (fun x _=>rfl)];simp
theorem CA {a b:ai} (h:(Op.bytesLess a b||a==b)=false):Lib.compareBytes b a < 0:=by
 rw [vQ,U7,Bool.or_eq_false_iff,decide_eq_false_iff_not,decide_eq_false_iff_not] at h
 have:=lC a b
 rcases HZ a b with k | k | k<;>omega
theorem Gm {α:Type} (key:α→ai) {xs:List α} {i:Int} {x y:α} (h0:0 < i) (hx:idx xs i=some x) (hy:idx xs (i - 1)=some y) (hl:Lib.compareBytes (key y) (key x) < 0) (h:(xs.take i.toNat).Pairwise (fun a b=>Lib.compareBytes (key a) (key b) < 0)):(xs.take (i+1).toNat).Pairwise (fun a b=>Lib.compareBytes (key a) (key b) < 0):=by
 rw [take_succ (by omega) hx,List.pairwise_append]
 refine ⟨h,List.pairwise_singleton _ _,fun a ha b hb=>?_⟩
 rw [List.mem_singleton.1 hb]
 have e:=take_succ (xs:=xs) (i:=i - 1) (by omega) hy
 rw [show i - 1+1=i by omega] at e
 rw [e] at ha h
 rcases List.mem_append.1 ha with k | k
 ·exact yg ((List.pairwise_append.1 h).2.2 a k y (by simp)) hl
 ·rw [List.mem_singleton.1 k];exact hl
theorem asc_one {α:Type} (key:α→ai) {xs:List α} {x:α} (hx:idx xs 0=some x):(xs.take ((0:Int)+1).toNat).Pairwise (fun a b=>Lib.compareBytes (key a) (key b) < 0):=by
 rw [take_succ (by omega) hx];simp
theorem SK {a b:ai} (h:Lib.compareBytes a b < 0):a≠b:=fun e=>by rw [e,mE] at h;omega
theorem Vn {s:ai} (h:vS s=true):s≠[]:=fun e=>by rw [e] at h;cases h
section
variable {v:aq} {o:aW} (hl:o.ao.length≤100000)
def DO (o:aW) (t:au):Bool:=decide (t.Key∈(wk o t.Key).tail)
def Il (o:aW) (t:au):Bool:=decide (11 < (wk o t.Key).length)
include hl
theorem Oq (h:zC o.ao) (hv:wH v o):∀ (k:Nat) (c:Bool) (i:Int),0≤i→i+k=o.ao.length→dP v c i=some (if (o.ao.drop i.toNat).any (DO o)=true then 14 else if (c||(o.ao.drop i.toNat).any (Il o))=true then 2 else 0)
 | 0,c,i,h0,hi=>by
   unfold dP
   rw [iter_eq,ez,hv.Oo,if_neg (by simp;omega),cy,List.drop_of_length_le (by omega)]
   unfold lJ
   cases c<;>rfl
 | k+1,c,i,h0,hi=>by
   obtain ⟨t,ht,hm,hd⟩:=iq o.ao h0 (by omega)
   unfold dP
   rw [iter_eq,ez,hv.Oo,if_pos (by simp;omega),hd,List.any_cons,List.any_cons]
   dsimp only
   rw [ht]
   simp only [Option.bind_some]
   rw [Cz hv (by omega)]
   simp only [Option.bind_some]
   obtain ⟨r,hr⟩:=Dm (T:=o.ao) ⟨t,hm,rfl⟩
   have hw:=Gk o t.Key
   have yD:1≤(wk o t.Key).length:=by unfold wk;rw [kV hr];simp
   have YE:((wk o t.Key).drop (1:Int).toNat).take (((wk o t.Key).length:Int).toNat - (1:Int).toNat)=(wk o t.Key).tail:=by
    rw [List.take_of_length_le (by simp)];simp
   rw [wX (by omega) (by omega) (by omega),YE]
   simp only [Option.bind_some]
   rw [sI _ t.Key (by simp;omega)]
   simp only [Option.bind_some]
   by_cases cc:t.Key∈(wk o t.Key).tail
   ·rw [if_pos (by simpa using cc),cy]
    have:DO o t=true:=by unfold DO;exact decide_eq_true cc
    rw [this];rfl
   ·rw [if_neg (by simpa using cc)]
    unfold iI
    simp only [Option.bind_some,du]
    rw [bb (by omega) (by omega)]
    have:=Oq h hv k (c||decide ((11:Int) < ((wk o t.Key).length:Int))) (i+1) (by omega) (by omega)
    unfold dP at this
    rw [this]
    have e1:DO o t=false:=by unfold DO;exact decide_eq_false cc
    have e2:Il o t=decide ((11:Int) < ((wk o t.Key).length:Int)):=by unfold Il;rw [decide_eq_decide];omega
    rw [e1,e2,Bool.false_or,Bool.or_assoc]
theorem af6 (h:zC o.ao) (hn:∀ q,(wk o q).Nodup):oB o 0=some (if o.ao.any (Il o)=true then 2 else 0):=by
 unfold oB
 rw [jj o.ao (fun x:Int=>gO o x) (fun t=>if Il o t=true then some 2 else none) 0 (by omega),Bt]
 ·intro i t h0 h1 ht
  unfold gO
  rw [if_pos h1,ht]
  simp only [Option.bind_some]
  rw [(xH h (by omega) (k:=t.Key) (.inr (Dm ⟨t,gw ht,rfl⟩))).2,if_pos (hn _)]
  simp only [Option.bind_some]
  unfold Il
  by_cases c:11 < (wk o t.Key).length
  ·rw [if_pos (by omega),decide_eq_true c];rfl
  ·rw [if_neg (by omega),decide_eq_false c,bb (by omega) (by omega)];rfl
 ·unfold gO
  rw [if_neg (by omega)];rfl
theorem PN (h:zC o.ao) (hv:wH v o):dP v false 0=jh o 0∧Ok (dP v false 0) (fun r=>r=0→∀ q,(wk o q).Nodup):=by
 rw [Oq hl h hv o.ao.length false 0 (by omega) (by omega)]
 simp only [Int.toNat_zero,List.drop_zero,Bool.false_or]
 have hpo:∀ t∈o.ao,sj o t.Key=some (if (wk o t.Key).Nodup then some (wk o t.Key) else none):=fun t ht=>(xH h (by omega) (.inr (Dm ⟨t,ht,rfl⟩))).1
 have hq3:∀ e,oB o 0=some e→jh o 0=some (if o.ao.any (fun t=>decide (¬ (wk o t.Key).Nodup))=true then 14 else e):=by
  intro e he
  unfold jh
  rw [jj o.ao (fun x:Int=>eP o x) (fun t=>if decide (¬ (wk o t.Key).Nodup)=true then some 14 else none) e (by omega),Bt]
  ·intro i t h0 h1 ht
   unfold eP
   rw [if_pos h1,ht]
   simp only [Option.bind_some]
   rw [hpo t (gw ht)]
   simp only [Option.bind_some]
   by_cases c:(wk o t.Key).Nodup
   ·rw [if_pos c,if_neg (by simpa using c)]
    show ((HT (wk o t.Key)).bind fun v22=>(some (Sum.inl (cd (i+(1:Int)))):Option (Int⊕Int)))=_
    obtain ⟨r,hr⟩:=Dm (T:=o.ao) ⟨t,gw ht,rfl⟩
    have uc:wk o t.Key≠[]:=by unfold wk;rw [kV hr];simp
    rw [LG uc,bb (by omega) (by omega)]
    rfl
   ·rw [if_neg c,if_pos (by simpa using c)];rfl
  ·unfold eP
   rw [if_neg (by omega),he];rfl
 by_cases hb:o.ao.any (DO o)=true
 ·rw [if_pos hb]
  refine ⟨?_,14,rfl,fun k=>by omega⟩
  obtain ⟨t,ht,lV⟩:=List.any_eq_true.1 hb
  have uc:o.ao.any (fun t=>decide (¬ (wk o t.Key).Nodup))=true:=List.any_eq_true.2 ⟨t,ht,by
   simpa using PM (by simpa [DO] using lV)⟩
  have:jh o 0=some 14:=by
   unfold jh
   rw [Nd o.ao (fun x:Int=>eP o x) (fun t=>decide (¬ (wk o t.Key).Nodup)) 14 (by omega) ?_ uc]
   intro i t h0 h1 ht
   unfold eP
   rw [if_pos h1,ht]
   simp only [Option.bind_some]
   rw [hpo t (gw ht)]
   simp only [Option.bind_some]
   by_cases c:(wk o t.Key).Nodup
   ·rw [if_pos c,if_neg (by simpa using c)]
    show ((HT (wk o t.Key)).bind fun v22=>(some (Sum.inl (cd (i+(1:Int)))):Option (Int⊕Int)))=_
    obtain ⟨r,hr⟩:=Dm (T:=o.ao) ⟨t,gw ht,rfl⟩
    have uc:wk o t.Key≠[]:=by unfold wk;rw [kV hr];simp
    rw [LG uc,bb (by omega) (by omega)]
    rfl
   ·rw [if_neg c,if_pos (by simpa using c)];rfl
  rw [this]
 ·rw [if_neg hb]
  have hn:∀ q,(wk o q).Nodup:=fun q=>by
   apply Classical.byContradiction
   intro k
   obtain ⟨t,ht,h2⟩:=Ih _ q k
   exact hb (List.any_eq_true.2 ⟨t,ht,by unfold DO;exact decide_eq_true h2⟩)
  have Kl:o.ao.any (fun t=>decide (¬ (wk o t.Key).Nodup))=false:=by simp [hn]
  rw [hq3 _ (af6 hl h hn),Kl]
  exact ⟨rfl,_,rfl,fun _=>hn⟩
end
theorem zD {α:Type} (xs:List α):xs.take ((xs.length:Int)).toNat=xs:=by simp
theorem qu {α:Type} {xs:List α} {i:Int} {x y:α} (h0:0≤i) (h:idx xs i=some x) (hy:y∈xs.take (i+1).toNat):y∈xs.take i.toNat∨y=x:=by
 rw [take_succ h0 h] at hy
 rcases List.mem_append.1 hy with k | k
 ·exact .inl k
 ·exact .inr (List.mem_singleton.1 k)
theorem Ot (o:aW) (k:ai):decide (pe (fun t:au=>decide (t.Key=k)) o.ao 0 < 0)=!(up o.ao k).isSome:=by
 cases e:up o.ao k with
 | none=>rw [decide_eq_true ((pO _ _).2 e)];rfl
 | some r=>rw [decide_eq_false (fun k2=>by rw [(pO _ _).1 k2] at e;cases e)];rfl
section
variable {v:aq} {o:aW} (hl:o.ao.length≤100000)
include hl
theorem Vo (hk:∀ t∈o.ao,t.Key≠[]) (hn:o.ao.Pairwise (fun a b=>a.Key≠b.Key)) (hv:wH v o):
 iJ v 0=sn o 0∧Ok (iJ v 0) (fun r=>r=0→zC o.ao∧∀ q,(wk o q).Nodup):=by
 unfold iJ sn
 refine zZ o.ao.length (fun i=>∀ t∈o.ao.take i.toNat,t.fe≠[]→∃ r,up o.ao t.fe=some r) _ (fun t ht=>by simp at ht) (fun i h0 h1 hI=>?_)
 unfold fQ lp
 rw [hv.Oo]
 by_cases hi:i < (o.ao.length:Int)
 ·rw [if_pos hi,if_pos hi]
  obtain ⟨t,ht,_,_⟩:=iq o.ao h0 hi
  rw [ht]
  simp only [Option.bind_some]
  have w1:cd (i+1)=i+1:=bb (by omega) (by omega)
  have j2:∀ c,fP i c=gN i c:=fun c=>rfl
  by_cases hp:t.fe=[]
  ·rw [if_neg (by simpa using hp),if_neg (by simpa using hp),j2]
   refine ⟨rfl,.inl (i+1),by unfold gN;rw [if_neg (by simp),w1],rfl,hi,fun y hy hyp=>?_⟩
   rcases qu h0 ht hy with k | rfl
   ·exact hI y k hyp
   ·exact absurd hp hyp
  ·rw [if_pos hp,if_pos hp,Ij hv,ri o _ (by omega)]
   simp only [Option.bind_some]
   rw [j2,Ot o]
   refine ⟨rfl,?_⟩
   unfold gN
   cases e:up o.ao t.fe with
   | none=>exact ⟨.inr 8,rfl,fun k=>by omega⟩
   | some r=>
     refine ⟨.inl (i+1),by rw [w1];rfl,rfl,hi,fun y hy hyp=>?_⟩
     rcases qu h0 ht hy with k | rfl
     ·exact hI y k hyp
     ·exact ⟨r,e⟩
 ·have XZ:i=o.ao.length:=by omega
  subst XZ
  rw [if_neg hi,if_neg hi]
  have hT:zC o.ao:=⟨hk,hn,fun t ht hp=>by
   obtain ⟨r,hr⟩:=hI t (by rw [zD];exact ht) hp
   obtain ⟨u,h2,h3,_⟩:=EI hr
   exact ⟨u,h2,h3⟩⟩
  obtain ⟨e1,r,e2,e3⟩:=PN hl hT hv
  rw [e1]
  rw [e1] at e2
  exact ⟨rfl,.inr r,by rw [e2];rfl,fun k=>⟨hT,e3 k⟩⟩
theorem Vp (ho:v.aW=o) (hv:o.ao.Pairwise (fun a b=>a.Key≠b.Key)→wH v o):
 fN v=o6 o∧Ok (fN v) (fun r=>r=0→o.ao.length≤200∧zC o.ao∧∀ q,(wk o q).Nodup):=by
 unfold fN o6
 rw [ho]
 by_cases h2:(200:Int) < (o.ao.length:Int)
 ·rw [if_pos h2,if_pos h2];exact ⟨rfl,2,rfl,fun k=>by omega⟩
 rw [if_neg h2,if_neg h2]
 unfold p9 wA
 refine zZ o.ao.length (fun i=>(o.ao.take i.toNat).Pairwise (fun a b=>Lib.compareBytes a.Key b.Key < 0)∧∀ t∈o.ao.take i.toNat,vS t.Key=true) _ ⟨by simp,fun t ht=>by simp at ht⟩ (fun i h0 h1 hI=>?_)
 unfold fR lr
 rw [ho]
 by_cases hi:i < (o.ao.length:Int)
 ·rw [if_pos hi,if_pos hi]
  obtain ⟨t,ht,_,_⟩:=iq o.ao h0 hi
  rw [ht]
  simp only [Option.bind_some]
  rw [wZ,nJ]
  simp only [Option.bind_some]
  have w1:cd (i+1)=i+1:=bb (by omega) (by omega)
  have j1:∀ c,fO i c=gM i c:=fun c=>rfl
  cases hk:vS t.Key with
  | false=>exact ⟨rfl,.inr 5,rfl,fun k=>by omega⟩
  | true=>
    rw [if_neg (by simp:¬ ((!true)=true)),if_neg (by simp:¬ ((!true)=true))]
    have Wq:∀ y∈o.ao.take (i+1).toNat,vS y.Key=true:=fun y hy=>by
     rcases qu h0 ht hy with k | rfl
     ·exact hI.2 y k
     ·exact hk
    by_cases hp:0 < i
    ·rw [if_pos hp,if_pos hp,bb (by omega) (by omega)]
     obtain ⟨u,hu,_,_⟩:=iq o.ao (i:=i - 1) (by omega) (by omega)
     rw [hu]
     simp only [Option.bind_some]
     rw [j1]
     refine ⟨rfl,?_⟩
     unfold gM
     cases hc:(Op.bytesLess t.Key u.Key||t.Key==u.Key) with
     | true=>exact ⟨.inr 7,rfl,fun k=>by omega⟩
     | false=>exact ⟨.inl (i+1),by rw [w1];rfl,rfl,hi,Gm (·.Key) hp ht hu (CA hc) hI.1,Wq⟩
    ·rw [if_neg hp,if_neg hp,j1]
     have hi0:i=0:=by omega
     subst hi0
     refine ⟨rfl,.inl (0+1),by unfold gM;rw [if_neg (by simp),w1],rfl,hi,asc_one (·.Key) ht,Wq⟩
 ·have XZ:i=o.ao.length:=by omega
  subst XZ
  rw [if_neg hi,if_neg hi]
  rw [zD] at hI
  have AZ:o.ao.Pairwise (fun a b=>a.Key≠b.Key):=hI.1.imp (fun h=>SK h)
  obtain ⟨e1,r,e2,e3⟩:=Vo hl (fun t ht=>Vn (hI.2 t ht)) AZ (hv AZ)
  rw [e1]
  rw [e1] at e2
  exact ⟨rfl,.inr r,by rw [e2];rfl,fun k=>⟨by omega,e3 k⟩⟩
end
def wV (s:ai):bg:=⟨3,false,0,s⟩
def CB (x:aL) (f:ai):Option bg:=(x.Device.kY.find? (fun t=>decide (xF++t.Name=f))).map (fun t=>wV t.Value)
def yh (x:aL) (f:ai):Option bg:=(x.eG.find? (fun p=>decide (uE++p.Name=f))).map eB.Value
def vU (o:Option bg):bA:=match o with
 | some v=>⟨true,v,Av⟩
 | none=>⟨false,zV,Av⟩
theorem vV {α A:Type} (p:α→Bool) (g:α→A) (e:A):∀ l:List α,nI (fun x=>if p x=true then some (g x) else none) e l=((l.find? p).map g).getD e
 | []=>rfl
 | x :: r=>by
   rw [nI,List.find?_cons]
   cases hp:p x with
   | true=>simp
   | false=>simp only [Bool.false_eq_true,if_false];exact vV p g e r
theorem Jv (p s f:ai):p++s=f↔preB f p=true∧f.drop p.length=s:=by
 unfold preB
 rw [decide_eq_true_eq]
 constructor
 ·rintro rfl;simp
 ·rintro ⟨h1,rfl⟩
  conv=>rhs;rw [← List.take_append_drop p.length f,h1]
theorem PQ {x:aL} {f:ai} (h:preB f xF=false):CB x f=none:=by
 unfold CB
 rw [List.find?_eq_none.2]
 ·rfl
 ·intro t _ k
  have:=((Jv _ _ _).1 (of_decide_eq_true k)).1
  rw [h] at this;cases this
theorem Ng {x:aL} {f:ai} (h:preB f uE=false):yh x f=none:=by
 unfold yh
 rw [List.find?_eq_none.2]
 ·rfl
 ·intro t _ k
  have:=((Jv _ _ _).1 (of_decide_eq_true k)).1
  rw [h] at this;cases this
theorem X0 (a s:ai) (ha:a.length≤10) (h:s.length≤100000):KF a s=some (a++s):=XT (by omega)
def SL (x:aL) (f:ai):Option bg:=(CB x f).or (yh x f)
theorem Nh (x:aL) (hx:BC x) (f:ai):xW x f 0=some (vU (yh x f)):=by
 unfold xW
 have hp:=hx.props
 rw [jj x.eG (fun i:Int=>jD x f i) (fun p=>if (fun p:eB=>decide (uE++p.Name=f)) p=true then some (vU (some p.Value)) else none) (vU none) (by omega),vV (fun p:eB=>decide (uE++p.Name=f)) (fun p=>vU (some p.Value))]
 ·unfold yh
  cases x.eG.find? (fun p=>decide (uE++p.Name=f))<;>rfl
 ·intro i p h0 h1 h2
  have hb:=hx.prop p (gw h2)
  show jD x f i=_
  unfold jD
  rw [if_pos h1,h2]
  simp only [Option.bind_some]
  rw [X0 _ _ (by simp) hb.1]
  simp only [Option.bind_some]
  rw [bb (by omega) (by omega)]
  by_cases c:uE++p.Name=f
  ·rw [if_pos c];simp [c];rfl
  ·rw [if_neg c];simp only [c,decide_false,Bool.false_eq_true,if_false]
 ·show jD x f x.eG.length=_
  unfold jD
  rw [if_neg (by omega)];rfl
theorem PR (x:aL) (hx:BC x) (f:ai) (hf:preB f xF=true):xV x (f.drop 4,true) 0=some (vU (CB x f)):=by
 unfold xV
 have hp:=hx.tags
 have hn:∀ t:jm,(t.Name=f.drop 4)↔xF++t.Name=f:=fun t=>by
  rw [Jv];exact ⟨fun h=>⟨hf,h.symm⟩,fun h=>h.2.symm⟩
 rw [jj x.Device.kY (fun i:Int=>jC x (f.drop 4,true) i) (fun t=>if (fun t:jm=>decide (xF++t.Name=f)) t=true then some (vU (some (wV t.Value))) else none) (vU none) (by omega),vV (fun t:jm=>decide (xF++t.Name=f)) (fun t=>vU (some (wV t.Value)))]
 ·unfold CB
  cases x.Device.kY.find? (fun t=>decide (xF++t.Name=f))<;>rfl
 ·intro i t h0 h1 h2
  show jC x (f.drop 4,true) i=_
  unfold jC
  rw [if_pos h1,h2]
  simp only [Option.bind_some]
  rw [bb (by omega) (by omega)]
  by_cases c:xF++t.Name=f
  ·rw [if_pos ((hn t).2 c)];simp [c];rfl
  ·rw [if_neg (fun k=>c ((hn t).1 k))];simp only [c,decide_false,Bool.false_eq_true,if_false]
 ·show jC x (f.drop 4,true) x.Device.kY.length=_
  unfold jC
  rw [if_neg (by omega)];rfl
theorem Hi (x:aL) (hx:BC x) (f:ai):x2 x f 0=some ((yh x f).getD zV):=by
 unfold x2
 have hp:=hx.props
 rw [jj x.eG (fun i:Int=>jH x f i) (fun p=>if (fun p:eB=>decide (uE++p.Name=f)) p=true then some p.Value else none) zV (by omega),vV (fun p:eB=>decide (uE++p.Name=f)) eB.Value]
 ·rfl
 ·intro i p h0 h1 h2
  have hb:=hx.prop p (gw h2)
  show jH x f i=_
  unfold jH
  rw [if_pos h1,h2]
  simp only [Option.bind_some]
  rw [X0 _ _ (by simp) hb.1]
  simp only [Option.bind_some]
  rw [bb (by omega) (by omega)]
  by_cases c:uE++p.Name=f
  ·rw [if_pos c.symm];simp [c]
  ·rw [if_neg (fun k=>c k.symm)];simp only [c,decide_false,Bool.false_eq_true,if_false]
 ·show jH x f x.eG.length=_
  unfold jH
  rw [if_neg (by omega)];rfl
theorem LH (x:aL) (hx:BC x) (f:ai):x5 x f 0=some ((SL x f).getD zV):=by
 unfold x5
 have hp:=hx.tags
 rw [jj x.Device.kY (fun i:Int=>jI x f i) (fun t=>if (fun t:jm=>decide (xF++t.Name=f)) t=true then some (wV t.Value) else none) ((yh x f).getD zV) (by omega),vV (fun t:jm=>decide (xF++t.Name=f)) (fun t=>wV t.Value)]
 ·unfold SL CB
  cases x.Device.kY.find? (fun t=>decide (xF++t.Name=f))<;>rfl
 ·intro i t h0 h1 h2
  have hb:=hx.tag t (gw h2)
  show jI x f i=_
  unfold jI
  rw [if_pos h1,h2]
  simp only [Option.bind_some]
  rw [X0 _ _ (by simp) hb.1]
  simp only [Option.bind_some]
  rw [bb (by omega) (by omega)]
  by_cases c:xF++t.Name=f
  ·rw [if_pos c.symm];simp [c];rfl
  ·rw [if_neg (fun k=>c k.symm)];simp only [c,decide_false,Bool.false_eq_true,if_false]
 ·show jI x f x.Device.kY.length=_
  unfold jI
  rw [if_neg (by omega),Hi x hx f];rfl
theorem Im (x:aL) (hx:BC x) (f:ai) (hf:f.length≤100000) (hn:f≠AP):∃ o:Option bg,re x f=some (vU o)∧vi x f=some (o.getD zV)∧(w6 x→∀ v,o=some v→v.Kind≠0∧kG v=true∨(∃ s,v=wV s)):=by
 unfold re vi
 by_cases c1:f=[107,101,121]
 ·rw [if_pos c1,if_pos c1];exact ⟨some (wV x.Device.Key),rfl,rfl,fun _ v h=>.inr ⟨_,(Option.some.inj h).symm⟩⟩
 by_cases c2:f=[109,111,100,101,108]
 ·rw [if_neg c1,if_neg c1,if_pos c2,if_pos c2];exact ⟨some (wV x.Device.Model),rfl,rfl,fun _ v h=>.inr ⟨_,(Option.some.inj h).symm⟩⟩
 by_cases c3:f=[116,101,110,97,110,116]
 ·rw [if_neg c1,if_neg c1,if_neg c2,if_neg c2,if_pos c3,if_pos c3];exact ⟨some (wV x.Device.au),rfl,rfl,fun _ v h=>.inr ⟨_,(Option.some.inj h).symm⟩⟩
 rw [if_neg c1,if_neg c1,if_neg c2,if_neg c2,if_neg c3,if_neg c3,if_neg hn,sG _ _ (by omega),LH x hx f]
 simp only [Option.bind_some]
 refine ⟨SL x f,?_,rfl,fun hr v hv=>?_⟩
 ·unfold SL
  cases hp:preB f xF with
  | true=>
    rw [if_pos rfl,if_pos rfl,show xF.length=4 from rfl,PR x hx f hp,Ng (Cw hp)]
    cases CB x f<;>rfl
  | false=>
    rw [if_neg (by simp),Nh x hx f,PQ hp]
    rfl
 ·unfold SL at hv
  cases ht:CB x f with
  | some u=>
    rw [ht] at hv
    obtain rfl:=Option.some.inj hv
    unfold CB at ht
    obtain ⟨t,_,rfl⟩:=Option.map_eq_some_iff.1 ht
    exact .inr ⟨_,rfl⟩
  | none=>
    rw [ht] at hv
    have hv:yh x f=some v:=hv
    unfold yh at hv
    obtain ⟨p,h1,rfl⟩:=Option.map_eq_some_iff.1 hv
    have:=hr p (List.mem_of_find?_eq_some h1)
    exact .inl ⟨this.2,this.1⟩
def TF (op:ai) (n:Int):Bool:=if op=[61,61] then decide (n=0) else if op=[33,61] then decide (n≠0) else if op=[60] then decide (n < 0) else if op=[60,61] then decide (n≤0) else if op=[62] then decide (0 < n) else decide (0≤n)
theorem Ou (q:Query) (n:Int):jU q n=some (TF q.Op n):=by
 unfold jU TF
 simp only [Lx]
theorem DP (op:ai) (n:Int) (h:op∈opsL):tj op n=some (TF op n):=by
 unfold opsL at h
 simp only [List.mem_cons,List.not_mem_nil,or_false] at h
 unfold tj
 rcases h with rfl | rfl | rfl | rfl | rfl | rfl<;>rfl
theorem LI {op:ai} {n m:Int} (h:op=[61,61]∨op=[33,61]) (e:n=0↔m=0):TF op n=TF op m:=by
 unfold TF
 rcases h with rfl | rfl
 ·rw [if_pos rfl,if_pos rfl,decide_eq_decide];exact e
 ·have e1:¬ ([33,61]:ai)=[61,61]:=by decide
  rw [if_neg e1,if_pos rfl,if_neg e1,if_pos rfl,decide_eq_decide];exact not_congr e
structure Wr (q:Query):Prop where
 op:q.Op∈opsL
 af7:q.Field=AP→q.Value=zV
 val:q.Field≠AP→kG q.Value=true∧q.Value.Kind≠0∧(q.Value.Kind≠2→q.Op=[61,61]∨q.Op=[33,61])
theorem ab1 {q:Query} (h:lF q=0) (k:q.Kind=1):Wr q:=by
 unfold lF at h
 split at h
 ·cases h
 rw [if_neg (by omega)] at h
 split at h
 ·cases h
 rename_i Ql
 have Ql:q.Op∈opsL:=Classical.byContradiction Ql
 split at h
 ·cases h
 rename_i h1
 split at h
 ·cases h
 split at h
 ·rename_i hf
  have TR:q.Field=AP:=of_decide_eq_true hf
  exact ⟨Ql,fun _=>Classical.byContradiction fun k=>h1 ⟨hf,k⟩,fun k=>absurd TR k⟩
 ·rename_i hf
  split at h
  ·cases h
  rename_i h4
  split at h
  ·cases h
  rename_i h5
  rw [not_or,not_or] at h4
  rw [not_or] at h5
  refine ⟨Ql,fun k=>absurd (decide_eq_true k) hf,fun _=>⟨by simpa using h4.2.1,h4.2.2,fun hk=>?_⟩⟩
  apply Classical.byContradiction
  intro hn
  rw [not_or] at hn
  exact h5.2 ⟨hk,hn.1,hn.2⟩
theorem LJ {v:bg} (h:kG v=true) (k:v.Kind=2):v.ch=false∧v.Words=[]:=by
 unfold kG at h
 simp [k] at h
 exact ⟨h.1.1,h.1.2⟩
theorem LK {v:bg} (h:kG v=true) (k:v.Kind=1):v.Number=0∧v.Words=[]:=by
 unfold kG at h
 simp [k] at h
 exact ⟨h.1.1,h.1.2⟩
theorem LL {v:bg} (h:kG v=true) (k:v.Kind=3):v.ch=false∧v.Number=0:=by
 unfold kG at h
 simp [k] at h
 exact ⟨h.1.1,h.1.2⟩
theorem SM {v:bg} (h:kG v=true):0≤v.Kind∧v.Kind≤3:=by
 unfold kG at h
 simp at h
 exact h.1
theorem vEq {v u:bg} (k:v.Kind=u.Kind) (f:v.ch=u.ch) (n:v.Number=u.Number) (w:v.Words=u.Words):v=u:=by
 obtain ⟨a,b,c,d⟩:=v
 obtain ⟨a',b',c',d'⟩:=u
 simp only at k f n w
 rw [k,f,n,w]
def Used (v:bg):Prop:=(v.Kind=1→v.Number=0∧v.Words=[])∧(v.Kind=2→v.ch=false∧v.Words=[])∧(v.Kind=3→v.ch=false∧v.Number=0)
theorem Used.of {v:bg} (h:kG v=true):Used v:=⟨LK h,LJ h,LL h⟩
theorem Used.w (s:ai):Used (wV s):=⟨fun h=>(by simp [wV] at h),fun h=>(by simp [wV] at h),fun _=>⟨rfl,rfl⟩⟩
def X3 (a b:bg):Int:=if a.ch≠b.ch then 1 else tw [Bm a.Number b.Number,Lib.compareBytes a.Words b.Words]
theorem Dp (s:ai):Lib.compareBytes s s=0:=by
 induction s with
 | nil=>rfl
 | cons c r ih=>simp [Lib.compareBytes,ih]
theorem Gn (n:Int):Bm n n=0:=by unfold Bm;simp
theorem SN (q:Query) (hq:Wr q) (hn:q.Field≠AP) (v:bg) (hv:Used v) (hk:v.Kind=q.Value.Kind):
 TF q.Op (if v.Kind=2 then Bm v.Number q.Value.Number else if v≠q.Value then 1 else 0)=TF q.Op (X3 v q.Value):=by
 obtain ⟨r1,r2,r3⟩:=hq.val hn
 have hr:=SM r1
 have Ly:v.Kind=1∨v.Kind=2∨v.Kind=3:=by omega
 unfold X3
 rcases Ly with k | k | k
 ·rw [if_neg (by omega)]
  refine LI (r3 (by omega)) ?_
  obtain ⟨a1,a2⟩:=hv.1 k
  obtain ⟨b1,b2⟩:=LK r1 (by omega)
  rw [a1,a2,b1,b2,Gn,Dp,Ve]
  by_cases hf:v.ch=q.Value.ch
  ·have:v=q.Value:=vEq hk hf (by rw [a1,b1]) (by rw [a2,b2])
   rw [if_neg (fun h=>h this),if_neg (fun h=>h hf)];simp
  ·rw [if_pos (fun h=>hf (by rw [h])),if_pos hf]
 ·rw [if_pos k]
  obtain ⟨a1,a2⟩:=hv.2.1 k
  obtain ⟨b1,b2⟩:=LJ r1 (by omega)
  rw [a1,a2,b1,b2,Dp,Ve,if_neg (by simp)]
  congr 1
  split
  ·rfl
  ·rename_i h;exact Classical.byContradiction fun k=>h k
 ·rw [if_neg (by omega)]
  refine LI (r3 (by omega)) ?_
  obtain ⟨a1,a2⟩:=hv.2.2 k
  obtain ⟨b1,b2⟩:=LL r1 (by omega)
  have e0:¬ ((0:Int)≠0):=by simp
  have e1:¬ (false≠false):=by simp
  rw [a1,a2,b1,b2,Gn,Ve,if_neg e1,if_neg e0]
  by_cases hw:v.Words=q.Value.Words
  ·have:v=q.Value:=vEq hk (by rw [a1,b1]) (by rw [a2,b2]) hw
   rw [if_neg (fun h=>h this),hw,Dp]
  ·rw [if_pos (fun h=>hw (by rw [h]))]
   exact ⟨fun h=>(by cases h),fun h=>absurd (j5 h) hw⟩
where
 j5 {a b:ai} (h:Lib.compareBytes a b=0):a=b:=by
  induction a generalizing b with
  | nil=>cases b with
    | nil=>rfl
    | cons c r=>simp [Lib.compareBytes] at h
  | cons c r ih=>cases b with
    | nil=>simp [Lib.compareBytes] at h
    | cons d s=>
      simp only [Lib.compareBytes] at h
      split at h
      ·cases h
      ·split at h
       ·cases h
       ·rename_i h1 h2
        have:c=d:=by
         rw [← UInt8.toNat_inj]
         simp [UInt8.lt_iff_toNat_lt] at h1 h2
         omega
        rw [this,ih h]
theorem Io (n:Nat) (q:Query) (hq:QB q):bT (n+1) q=if fF q≠0 then some (fF q) else if gg q=true then some (lF q) else ov (bT n) q 0:=by
 show lf (bT n) q=_
 unfold lf ow
 rw [Js q hq,Jt q hq.s]
 rfl
theorem SO (n:Nat) (q:Query) (hq:QB q):jE (n+1) q=if fF q≠0 then some (fF q) else if gg q=true then some (lF q) else jN (jE n) q 0:=by
 show nW (jE n) q=_
 rw [M9 _ q hq,M8 q hq.s]
 unfold fF
 cases ho:Ex q with
 | true=>rfl
 | false=>
   simp only [Bool.false_eq_true,if_false]
   cases hb:wD q with
   | true=>rfl
   | false=>
     simp only [Bool.false_eq_true,if_false]
     have hr:1≤q.Kind∧q.Kind≤5:=by unfold Ex at ho;simp at ho;omega
     have e:(q.Kind≤2)↔gg q=true:=by unfold gg;simp;omega
     by_cases c:q.Kind≤2
     ·rw [if_pos c,if_neg (fun h=>h rfl),if_pos (e.1 c)]
     ·rw [if_neg c,if_neg (fun h=>h rfl),if_neg (fun h=>c (e.2 h))]
theorem Jw (self:Query→Option Int) (r:Query→Int) (q:Query) (hq:QB q) (h:∀ c∈q.Kids,self c=some (r c)):ov self q 0=some (nI (fun c=>if r c≠0 then some (r c) else none) 0 q.Kids)∧jN self q 0=some (nI (fun c=>if r c≠0 then some (r c) else none) 0 q.Kids):=by
 have hk:=hq.kids
 constructor
 ·unfold ov
  refine jj q.Kids (fun x:Int=>eN self q x) (fun c=>if r c≠0 then some (r c) else none) 0 (by omega) (fun i c h0 h1 h2=>?_) ?_
  ·show eN self q i=_
   unfold eN
   rw [if_pos h1,h2]
   simp only [Option.bind_some]
   rw [h c (gw h2)]
   simp only [Option.bind_some]
   rw [bb (by omega) (by omega)]
   by_cases e:r c=0
   ·rw [if_neg (fun k=>k e),if_neg (fun k=>k e)]
   ·rw [if_pos e,if_pos e];rfl
  ·show eN self q q.Kids.length=_
   unfold eN
   rw [if_neg (by omega)];rfl
 ·unfold jN
  refine jj q.Kids (fun x:Int=>iN self q x) (fun c=>if r c≠0 then some (r c) else none) 0 (by omega) (fun i c h0 h1 h2=>?_) ?_
  ·show iN self q i=_
   unfold iN
   rw [if_pos h1,h2]
   simp only [Option.bind_some]
   rw [h c (gw h2)]
   simp only [Option.bind_some]
   rw [bb (by omega) (by omega)]
   by_cases e:r c=0
   ·rw [if_neg (fun k=>k e),if_neg (fun k=>k e)]
   ·rw [if_pos e,if_pos e];rfl
  ·show iN self q q.Kids.length=_
   unfold iN
   rw [if_neg (by omega)];rfl
theorem Gp (r:Query→Int):∀ l:List Query,nI (fun c=>if r c≠0 then some (r c) else none) 0 l=0→∀ c∈l,r c=0
 | [],_,c,h=>(by cases h)
 | x :: l,h,c,hc=>by
   rw [nI] at h
   by_cases e:r x=0
   ·rw [if_neg (fun k=>k e)] at h
    rcases List.mem_cons.1 hc with rfl | hc
    ·exact e
    ·exact Gp r l h c hc
   ·rw [if_pos e] at h
    exact absurd h e
theorem parts_eq (n:Nat) (q:Query) (hq:QB q) (hn:q.kL.length≤n):∃ r,bT n q=some r∧jE n q=some r:=by
 refine H8 (C:=fun n q=>∃ r,bT n q=some r∧jE n q=some r) (fun n q hq ih=>?_) n q hq hn
 rw [Io n q hq,SO n q hq]
 by_cases c:fF q=0
 ·have c':¬ (fF q≠0):=fun k=>k c
  rw [if_neg c',if_neg c']
  by_cases d:gg q=true
  ·rw [if_pos d,if_pos d];exact ⟨_,rfl,rfl⟩
  ·rw [if_neg d,if_neg d]
   have h1:∀ c∈q.Kids,bT n c=some ((bT n c).getD 0):=fun c hc=>by obtain ⟨r,e,_⟩:=ih c hc;rw [e];rfl
   have h2:∀ c∈q.Kids,jE n c=some ((bT n c).getD 0):=fun c hc=>by obtain ⟨r,e,e'⟩:=ih c hc;rw [e,e'];rfl
   exact ⟨_,(Jw _ _ q hq h1).1,(Jw _ _ q hq h2).2⟩
 ·rw [if_pos c,if_pos c];exact ⟨_,rfl,rfl⟩
theorem PS (n:Nat) (q:Query) (hq:QB q) (hn:q.kL.length≤n+1) (h:bT (n+1) q=some 0):fF q=0∧(gg q=true→lF q=0)∧(gg q=false→∀ c∈q.Kids,bT n c=some 0):=by
 rw [Io n q hq] at h
 by_cases c:fF q=0
 ·rw [if_neg (fun k=>k c)] at h
  refine ⟨c,fun d=>?_,fun d k hk=>?_⟩
  ·rw [if_pos d] at h;exact Option.some.inj h
  ·rw [if_neg (by simp [d])] at h
   have h1:∀ c∈q.Kids,bT n c=some ((bT n c).getD 0):=fun c hc=>by
    obtain ⟨r,e,_⟩:=parts_eq n c (hq.Wn hc).1 (by have:=(hq.Wn hc).2;omega)
    rw [e];rfl
   rw [(Jw _ _ q hq h1).1] at h
   rw [h1 k hk,Gp _ _ (Option.some.inj h) k hk]
 ·rw [if_pos c] at h
  exact absurd (Option.some.inj h) c
theorem AS (q:Query) (hq:QB q):∃ r,dR q=some r∧sw q=some r∧(r=0→bT depth q=some 0):=by
 have hl:=hq.len
 have hd:q.kL.length≤depth:=by unfold depth;omega
 obtain ⟨r,h1,h2⟩:=parts_eq depth q hq hd
 have hc:(q.kL.filter gg).length=q.kL.countP gg:=by rw [List.countP_eq_length_filter]
 unfold dR sw xT FH MT mO nC vC Bc
 rw [M6 depth q hq hd,PH depth q hq hd,Vg depth q hq hd,h1,h2]
 simp only [Option.bind_some]
 rw [hc]
 by_cases c1:(40:Int) < (q.kL.countP gg:Nat)
 ·rw [if_pos (by simp [c1]),if_pos c1]
  exact ⟨2,rfl,rfl,fun h=>by cases h⟩
 ·rw [if_neg c1]
  by_cases c2:(20:Int) < (q.dep:Nat)
  ·rw [if_pos (by simp [c2]),if_pos (decide_eq_true c2)]
   exact ⟨2,rfl,rfl,fun h=>by cases h⟩
  ·rw [if_neg (by simp [c1,c2]),if_neg (by simp [c2])]
   exact ⟨r,rfl,rfl,fun h=>by rw [h]⟩
theorem Or2 (a b:Int):gh [a,b]=some (tw [a,b]):=zp _ (by simp)
theorem Or3 (a b c:Int):gh [a,b,c]=some (tw [a,b,c]):=zp _ (by simp)
theorem SP (a b:Int):cmp_Compare_int a b=Bm a b:=Ln a b
def ab2 (a b:Version):Int:=tw [Bm a.bP b.bP,Bm a.bQ b.bQ,Bm a.bL b.bL]
theorem Bv (a b:Version):iV a b=some (ab2 a b):=by
 unfold iV;rw [Or3];simp only [SP];rfl
theorem Ez (a b:Version):pa a b=some (ab2 a b):=by
 unfold pa;rw [Or3];simp only [SP];rfl
noncomputable def Ov (x:aL):ai→Option bA:=fun y0=>nw y0 x
theorem SQ (x:aL) (f:ai):Ov x f=re x f:=by
 unfold Ov nw;cases re x f<;>rfl
theorem Jx (q:Query) (n:Int) (h:q.Op∈opsL):jZ q n=some (TF q.Op n):=by
 unfold jZ;rw [DP _ _ h];rfl
theorem SR (self:Query→(ai→Option bA)→Option Bool) (SU:Query→aL→Option Bool) (q:Query) (hq:He q) (k:q.Kind=1) (hl:lF q=0) (x:aL) (hx:BC x) (hr:w6 x):
 ∃ b,er self q (Ov x)=some b∧dV SU q x=some b:=by
 have L:=ab1 hl k
 unfold er dV
 rw [if_pos k,if_neg (by omega),if_neg (by omega),if_neg (by omega),if_neg (by omega),SQ]
 by_cases hf:q.Field=AP
 ·rw [if_pos hf]
  have ab3:re x q.Field=some ⟨true,zV,x.Device.ff⟩:=by rw [hf];rfl
  rw [ab3,Ez]
  simp only [Option.bind_some]
  unfold qk iE
  have hv:=L.af7 hf
  rw [if_neg (by rw [hv];simp),if_pos hf,Bv]
  simp only [Option.bind_some]
  rw [Ou,DP _ _ L.op]
  exact ⟨_,rfl,rfl⟩
 ·rw [if_neg hf]
  obtain ⟨o,o1,o2,o3⟩:=Im x hx q.Field hq.field hf
  obtain ⟨v1,v2,v3⟩:=L.val hf
  rw [o1,o2]
  simp only [Option.bind_some]
  unfold qk
  cases o with
  | none=>
    refine ⟨false,rfl,?_⟩
    show (if (0:Int)≠q.Value.Kind then some false else _)=_
    rw [if_pos (fun h=>v2 h.symm)]
  | some v=>
    have W3:iE q ⟨true,v,Av⟩ (!(vU (some v)).Is||decide ((vU (some v)).Value.Kind≠q.Value.Kind))=if v.Kind=q.Value.Kind then some (TF q.Op (if v.Kind=2 then Bm v.Number q.Value.Number else if v≠q.Value then 1 else 0)) else some false:=by
     unfold iE
     by_cases hk:v.Kind=q.Value.Kind
     ·rw [if_neg (by simp [vU,hk]),if_neg hf,if_pos hk]
      unfold jV mh jV
      simp only [Ou,SP]
      by_cases k2:v.Kind=2
      ·rw [if_pos k2,if_pos k2]
      ·rw [if_neg k2,if_neg k2]
       by_cases e:v≠q.Value
       ·rw [if_pos e,if_pos e]
       ·rw [if_neg e,if_neg e]
     ·rw [if_pos (by simp [vU,hk]),if_neg hk]
    show ∃ b,(iE q ⟨true,v,Av⟩ (!(vU (some v)).Is||decide ((vU (some v)).Value.Kind≠q.Value.Kind))).bind (fun v3=>some v3)=some b∧(if v.Kind≠q.Value.Kind then some false else _)=some b
    rw [W3]
    by_cases hk:v.Kind=q.Value.Kind
    ·rw [if_pos hk,if_neg (show ¬ (v.Kind≠q.Value.Kind) from fun h=>h hk)]
     have u:Used v:=by
      rcases o3 hr v rfl with h | ⟨s,rfl⟩
      ·exact Used.of h.2
      ·exact Used.w s
     refine ⟨_,rfl,?_⟩
     rw [SN q L hf v u hk]
     show (gh [cmp_Compare_int v.Number q.Value.Number,Lib.compareBytes v.Words q.Value.Words]).bind _=_
     rw [Or2,SP]
     simp only [Option.bind_some,Jx q _ L.op]
     unfold X3
     by_cases e:v.ch=q.Value.ch
     ·rw [if_neg (by simp [e]),if_neg (fun h=>h e)]
     ·rw [if_pos (by simpa using e),if_pos e]
    ·rw [if_neg hk,if_pos hk]
     exact ⟨_,rfl,rfl⟩
theorem PT (self:Query→(ai→Option bA)→Option Bool) (SU:Query→aL→Option Bool) (q:Query) (hq:He q) (k:q.Kind=2) (hl:lF q=0) (x:aL) (hx:BC x) (hr:w6 x):
 ∃ b,er self q (Ov x)=some b∧dV SU q x=some b:=by
 have hf:q.Field≠AP:=by
  intro h
  unfold lF at hl
  rw [if_pos (by rw [h,k];rfl)] at hl
  cases hl
 unfold er dV
 rw [if_neg (by omega),if_pos k,if_neg (by omega),if_neg (by omega),if_neg (by omega),if_pos k,SQ]
 obtain ⟨o,o1,o2,o3⟩:=Im x hx q.Field hq.field hf
 rw [o1,o2]
 cases o with
 | none=>exact ⟨false,rfl,rfl⟩
 | some v=>
   refine ⟨true,rfl,?_⟩
   have hk:v.Kind≠0:=by
    rcases o3 hr v rfl with h | ⟨s,rfl⟩
    ·exact h.1
    ·simp [wV]
   show some (decide (v.Kind≠0))=some true
   rw [decide_eq_true hk]
theorem Vq {q:Query} (h:fF q=0):Ex q=false∧wD q=false:=by
 unfold fF at h
 split at h
 ·cases h
 ·split at h
  ·cases h
  ·rename_i a b;exact ⟨by simpa using a,by simpa using b⟩
theorem Gq {α A:Type} (p:α→Bool) (a e:A):∀ l:List α,nI (fun c=>if p c=true then some a else none) e l=if l.any p=true then a else e
 | []=>rfl
 | x :: l=>by
   rw [nI,List.any_cons]
   cases hp:p x with
   | true=>simp
   | false=>simp only [Bool.false_eq_true,if_false,Bool.false_or];exact Gq p a e l
theorem AU (self:Query→(ai→Option bA)→Option Bool) (of:ai→Option bA) (q:Query) (hq:QB q) (b:Query→Bool) (h:∀ c∈q.Kids,self c of=some (b c)):
 uI self q of 0=some (if q.Kids.any (fun c=>b c !=decide (q.Kind=4))=true then decide (¬ q.Kind=4) else decide (q.Kind=4)):=by
 have hk:=hq.kids
 unfold uI
 rw [jj q.Kids (fun i:Int=>fX self q of i) (fun c=>if (fun c=>b c !=decide (q.Kind=4)) c=true then some (decide (¬ q.Kind=4)) else none) (decide (q.Kind=4)) (by omega),Gq (fun c=>b c !=decide (q.Kind=4))]
 ·intro i c h0 h1 h2
  show fX self q of i=_
  unfold fX
  rw [if_pos h1,h2]
  simp only [Option.bind_some]
  rw [h c (gw h2)]
  simp only [Option.bind_some]
  rw [bb (by omega) (by omega)]
  by_cases hb:(b c !=decide (q.Kind=4))=true
  ·rw [if_pos hb,if_pos hb];rfl
  ·rw [if_neg hb,if_neg hb]
 ·show fX self q of q.Kids.length=_
  unfold fX
  rw [if_neg (by omega)];rfl
theorem Ip (self:Query→aL→Option Bool) (q:Query) (hq:QB q) (x:aL) (b:Query→Bool) (h:∀ c∈q.Kids,self c x=some (b c)) (is:Bool):jY self is q x=some (!q.Kids.any (fun c=>b c !=is)):=by
 have hk:=hq.kids
 unfold jY
 have hc:bW q.Kids (fun y0=>jz self y0 x is)=some (q.Kids.any (fun c=>b c !=is)):=
  dW _ _ _ (fun c hc=>by unfold jz;rw [h c hc];rfl) (by omega)
 rw [hc];rfl
theorem PU (x:aL) (hx:BC x) (hr:w6 x) (n:Nat) (q:Query) (hq:QB q) (hn:q.kL.length≤n):bT n q=some 0→∃ b,dS n q (Ov x)=some b∧ic n q x=some b:=by
 refine H8 (C:=fun n q=>q.kL.length≤n→bT n q=some 0→∃ b,dS n q (Ov x)=some b∧ic n q x=some b) (fun n q hq ih hn h=>?_) n q hq hn hn
 obtain ⟨z1,z2,z3⟩:=PS n q hq hn h
 obtain ⟨f1,f2⟩:=Vq z1
 have hrg:1≤q.Kind∧q.Kind≤5:=by unfold Ex at f1;simp at f1;omega
 have Ly:q.Kind=1∨q.Kind=2∨q.Kind=3∨q.Kind=4∨q.Kind=5:=by omega
 have xJ:gg q=false→∀ c∈q.Kids,∃ b,dS n c (Ov x)=some b∧ic n c x=some b:=fun hl c hc=>ih c hc (by have:=(hq.Wn hc).2;omega) (z3 hl c hc)
 show ∃ b,er (dS n) q (Ov x)=some b∧dV (ic n) q x=some b
 have bs:gg q=false→∀ c∈q.Kids,dS n c (Ov x)=some ((dS n c (Ov x)).getD false)∧ic n c x=some ((dS n c (Ov x)).getD false):=fun hl c hc=>by
  obtain ⟨b,e1,e2⟩:=xJ hl c hc
  rw [e1,e2];exact ⟨rfl,rfl⟩
 rcases Ly with k | k | k | k | k
 ·exact SR _ _ q hq.s k (z2 (by unfold gg;simp [k])) x hx hr
 ·exact PT _ _ q hq.s k (z2 (by unfold gg;simp [k])) x hx hr
 ·have hl:gg q=false:=by unfold gg;simp [k]
  have h1:q.Kids.length=1:=by
   unfold wD at f2
   rw [if_neg (by omega),if_neg (by omega),if_pos k] at f2
   simp at f2
   exact f2.1
  obtain ⟨c,hc,hm,_⟩:=iq q.Kids (i:=0) (by omega) (by omega)
  obtain ⟨b,e1,e2⟩:=xJ hl c hm
  unfold er dV
  rw [if_neg (by omega),if_neg (by omega),if_pos k,if_pos k,hc]
  simp only [Option.bind_some]
  rw [e1,e2]
  exact ⟨_,rfl,rfl⟩
 ·have hl:gg q=false:=by unfold gg;simp [k]
  unfold er dV
  rw [if_neg (by omega),if_neg (by omega),if_neg (by omega),if_neg (by omega),if_pos k,AU _ _ q hq _ (fun c hc=>(bs hl c hc).1),Ip _ q hq x _ (fun c hc=>(bs hl c hc).2)]
  refine ⟨_,rfl,?_⟩
  simp only [Option.bind_some,k,decide_true]
  cases q.Kids.any (fun c=>(dS n c (Ov x)).getD false !=true)<;>rfl
 ·have hl:gg q=false:=by unfold gg;simp [k]
  unfold er dV
  rw [if_neg (by omega),if_neg (by omega),if_neg (by omega),if_neg (by omega),if_neg (by omega),if_pos k,AU _ _ q hq _ (fun c hc=>(bs hl c hc).1),Ip _ q hq x _ (fun c hc=>(bs hl c hc).2)]
  refine ⟨_,rfl,?_⟩
  have k4:decide (q.Kind=4)=false:=by simp [k]
  have k5:decide (¬ q.Kind=4)=true:=by simp [k]
  simp only [Option.bind_some,k4,k5]
  cases q.Kids.any (fun c=>(dS n c (Ov x)).getD false !=false)<;>rfl
theorem Jy (q:Query) (hq:QB q) (hp:bT depth q=some 0) (x:aL) (hx:BC x) (hf:iC x=some 0):∃ b,eO q x=some b∧jQ q x=some b:=by
 obtain ⟨r,e,hr⟩:=Gg x hx
 rw [hf] at e
 obtain ⟨b,h1,h2⟩:=PU x hx (hr (Option.some.inj e).symm) depth q hq (by have:=hq.len;unfold depth;omega) hp
 refine ⟨b,?_,h2⟩
 unfold eO
 show (dS depth q (Ov x)).bind _=_
 rw [h1];rfl
structure mY (o:aW):Prop where
 TG:o.ao.length≤1000
 rol:o.bd.length≤1000
 mem:o.aG.length≤200
 ZC:o.aK.length≤10
 act:∀ r∈o.bd,Ey r.lI
 shr:∀ s∈o.aK,Ey s.lI∧QB s.Query
theorem PV {f g:Int→Option (Int⊕Int)} (N:Nat) (K:Option Int) (Inv:Int→Prop) (h0:Inv 0)
 (h:∀ i:Int,0≤i→i < N→Inv i→f i=g i∧∃ r,f i=some r∧((∃ j,r=.inl j∧j=i+1∧Inv (i+1))∨∃ a,r=.inr a∧a≠0))
 (hf:f N=some (.inr 0)) (hg:g N=Option.map .inr K):∃ r,iter f 0=some r∧iter g 0=(if r≠0 then some r else K)∧(r=0→Inv N):=by
 have key:∀ (k:Nat) (i:Int),0≤i→i+k=N→Inv i→∃ r,iter f i=some r∧iter g i=(if r≠0 then some r else K)∧(r=0→Inv N):=by
  intro k
  induction k with
  | zero=>
    intro i hi hk hv
    have:i=N:=by omega
    subst this
    rw [iter_eq (f:=f),iter_eq (f:=g),hf,hg,cy]
    exact ⟨0,rfl,by simp,fun _=>hv⟩
  | succ k ih=>
    intro i hi hk hv
    obtain ⟨e,r,hr,hh⟩:=h i hi (by omega) hv
    rw [iter_eq (f:=f),iter_eq (f:=g),← e,hr]
    rcases hh with ⟨j,rfl,rfl,h2⟩ | ⟨a,rfl,h2⟩
    ·simp only [Option.bind_some,du]
     exact ih (i+1) (by omega) (by omega) h2
    ·exact ⟨a,rfl,by rw [if_pos h2];rfl,fun k=>absurd k h2⟩
 exact key N 0 (by omega) (by omega) h0
def zE (o:aW) (k:ai):Bool:=o.bd.any (fun r=>decide (r.Key=k))
theorem Iq (o:aW) (k:ai) (hl:o.bd.length≤1000000):xv o k=some (pe (fun r=>decide (r.Key=k)) o.bd 0):=by
 unfold xv
 rw [show gQ o.bd (fun y0=>some (wB y0 k))=some (pe (fun r=>decide (r.Key=k)) o.bd 0) from wY o.bd _ _ (fun x _=>rfl) (by omega)]
 rfl
theorem Vr (o:aW) (k:ai):decide (pe (fun r:bH=>decide (r.Key=k)) o.bd 0 < 0)=!zE o k:=by
 have h:=zT (fun r:bH=>decide (r.Key=k)) o.bd 0 (by omega)
 unfold zE
 cases e:o.bd.any (fun r=>decide (r.Key=k)) with
 | true=>rw [decide_eq_false (by have:=h.2 e;omega)];rfl
 | false=>rw [decide_eq_true (by
  apply Classical.byContradiction
  intro k2
  have:=h.1 (by omega)
  rw [e] at this;cases this)];rfl
def Jz (o:aW):Prop:=o.bd.Pairwise (fun a b=>Lib.compareBytes a.Key b.Key < 0)
theorem SV {v:aq} {o:aW} (ho:v.aW=o) (hb:mY o):∃ r,gE v=some r∧so o=(if r≠0 then some r else kM o)∧(r=0→Jz o):=by
 unfold gE so
 rw [ho]
 by_cases h2:(50:Int) < (o.bd.length:Int)
 ·rw [if_pos h2,if_pos h2];exact ⟨2,rfl,by simp,fun k=>by omega⟩
 rw [if_neg h2,if_neg h2]
 unfold pP yp
 have hl:=hb.rol
 have hh:=PV (f:=fun x:Int=>cP v x) (g:=fun x:Int=>ib o x) o.bd.length (kM o) (fun i=>(o.bd.take i.toNat).Pairwise (fun a b=>Lib.compareBytes a.Key b.Key < 0)) (by simp) (fun i h0 hi hI=>?_) ?_ ?_
 ·obtain ⟨r,e1,e2,e3⟩:=hh
  exact ⟨r,e1,e2,fun k=>by have:=e3 k;rw [zD] at this;exact this⟩
 ·unfold cP ib
  rw [ho,if_pos hi,if_pos hi]
  obtain ⟨t,ht,T8,_⟩:=iq o.bd h0 hi
  rw [ht]
  simp only [Option.bind_some]
  rw [wZ,nJ]
  simp only [Option.bind_some]
  have w1:cd (i+1)=i+1:=bb (by omega) (by omega)
  obtain ⟨f1,ra,f2⟩:=zB t.lI (hb.act t T8)
  have j1:∀ c,ee i t c=ia i t c:=fun c=>by
   unfold ee ia
   rw [f1]
  have j1v:∀ c,(c=false→(o.bd.take (i+1).toNat).Pairwise (fun a b=>Lib.compareBytes a.Key b.Key < 0))→∃ r,ia i t c=some r∧((∃ j,r=.inl j∧j=i+1∧(o.bd.take (i+1).toNat).Pairwise (fun a b=>Lib.compareBytes a.Key b.Key < 0))∨∃ a,r=.inr a∧a≠0):=by
   intro c hc
   unfold ia
   cases c with
   | true=>exact ⟨.inr 7,rfl,.inr ⟨7,rfl,by omega⟩⟩
   | false=>
     rw [if_neg (by simp),f2]
     simp only [Option.bind_some]
     by_cases z:ra=0
     ·rw [if_neg (fun k=>k z),w1];exact ⟨_,rfl,.inl ⟨_,rfl,rfl,hc rfl⟩⟩
     ·rw [if_pos z];exact ⟨_,rfl,.inr ⟨_,rfl,z⟩⟩
  cases hk:vS t.Key with
  | false=>exact ⟨rfl,.inr 5,rfl,.inr ⟨5,rfl,by omega⟩⟩
  | true=>
    rw [if_neg (by simp:¬ ((!true)=true)),if_neg (by simp:¬ ((!true)=true))]
    by_cases hp:0 < i
    ·rw [if_pos hp,if_pos hp,bb (by omega) (by omega)]
     obtain ⟨u,hu,_,_⟩:=iq o.bd (i:=i - 1) (by omega) (by omega)
     rw [hu]
     simp only [Option.bind_some]
     rw [j1]
     exact ⟨rfl,j1v _ (fun hc=>Gm (·.Key) hp ht hu (CA hc) hI)⟩
    ·rw [if_neg hp,if_neg hp,j1]
     have hi0:i=0:=by omega
     subst hi0
     exact ⟨rfl,j1v _ (fun _=>asc_one (·.Key) ht)⟩
 ·show cP v o.bd.length=_
  unfold cP
  rw [ho,if_neg (by omega)];rfl
 ·show ib o o.bd.length=_
  unfold ib
  rw [if_neg (by omega)]
theorem X4 (a b c:Int):gh [a,b,c]=some (tw [a,b,c]):=zp _ (by simp)
theorem Vs (a b c:Int):tw [-a,-b,-c]=- tw [a,b,c]:=by
 simp only [tw]
 by_cases h1:a=0
 ·by_cases h2:b=0
  ·by_cases h3:c=0
   ·simp [h1,h2,h3]
   ·rw [if_neg (by omega),if_neg (by omega),if_pos (by omega),if_neg (by omega),if_neg (by omega),if_pos h3]
  ·rw [if_neg (by omega),if_pos (by omega),if_neg (by omega),if_pos h2]
 ·rw [if_pos (by omega),if_pos h1]
theorem Ni {v:aq} {o:aW} (hv:wH v o) (ha:∀ k,(cX v.bU k).isSome=zE o k) (hb:mY o):eA v=kM o∧Ok (eA v) (fun r=>r=0→∀ m∈o.aG,(∃ p,up o.ao m.au=some p)∧zE o m.bH=true):=by
 unfold eA kM
 rw [hv.Oo]
 by_cases h2:(500:Int) < (o.aG.length:Int)
 ·rw [if_pos h2,if_pos h2];exact ⟨rfl,2,rfl,fun k=>by omega⟩
 rw [if_neg h2,if_neg h2]
 unfold om yo
 have hl:=hb.mem
 refine zZ o.aG.length (fun i=>∀ m∈o.aG.take i.toNat,(∃ p,up o.ao m.au=some p)∧zE o m.bH=true) _ (fun t ht=>by simp at ht) (fun i h0 h1 hI=>?_)
 unfold eJ nA
 rw [hv.Oo]
 by_cases hi:i < (o.aG.length:Int)
 ·rw [if_pos hi,if_pos hi]
  obtain ⟨t,ht,T8,_⟩:=iq o.aG h0 hi
  rw [ht]
  simp only [Option.bind_some]
  unfold AG
  rw [ha,wZ,nJ]
  simp only [Option.bind_some]
  have w1:cd (i+1)=i+1:=bb (by omega) (by omega)
  cases hk:vS t.ek with
  | false=>exact ⟨rfl,.inr 5,rfl,fun k=>by omega⟩
  | true=>
    rw [if_neg (by simp:¬ ((!true)=true)),if_neg (by simp:¬ ((!true)=true)),Ij hv,ri o _ (by have:=hb.TG;omega)]
    simp only [Option.bind_some]
    have vX:=Ot o t.au
    rw [Iq o _ (by have:=hb.rol;omega)]
    simp only [Option.bind_some]
    rw [Vr]
    have j12:∀ c,cH v i t c=jq o i t c∧(c=false→(∃ p,up o.ao t.au=some p)∧zE o t.bH=true)→Ok (cH v i t c) (Jq o.aG.length (fun i=>∀ m∈o.aG.take i.toNat,(∃ p,up o.ao m.au=some p)∧zE o m.bH=true) (fun r=>r=0→∀ m∈o.aG,(∃ p,up o.ao m.au=some p)∧zE o m.bH=true) i):=by
     rintro c ⟨_,hc⟩
     have Ow:c=false→∀ m∈o.aG.take (i+1).toNat,(∃ p,up o.ao m.au=some p)∧zE o m.bH=true:=fun k m hm=>by
      rcases qu h0 ht hm with k2 | rfl
      ·exact hI m k2
      ·exact hc k
     have j2v:∀ d,c=false→Ok (cG i d) (Jq o.aG.length (fun i=>∀ m∈o.aG.take i.toNat,(∃ p,up o.ao m.au=some p)∧zE o m.bH=true) (fun r=>r=0→∀ m∈o.aG,(∃ p,up o.ao m.au=some p)∧zE o m.bH=true) i):=by
      intro d hcf
      unfold cG
      cases d with
      | true=>exact ⟨.inr 7,rfl,fun k=>by omega⟩
      | false=>rw [if_neg (by simp),w1];exact ⟨.inl (i+1),rfl,rfl,hi,Ow hcf⟩
     unfold cH
     cases c with
     | true=>exact ⟨.inr 8,rfl,fun k=>by omega⟩
     | false=>
       rw [if_neg (by simp),hv.Oo]
       by_cases hp:0 < i
       ·rw [if_pos hp,bb (by omega) (by omega)]
        obtain ⟨u,hu,_,_⟩:=iq o.aG (i:=i - 1) (by omega) (by omega)
        rw [hu]
        simp only [Option.bind_some]
        unfold nq
        rw [X4]
        exact j2v _ rfl
       ·rw [if_neg hp];exact j2v _ rfl
    have hj:∀ c,cH v i t c=jq o i t c:=by
     intro c
     unfold cH jq
     cases c with
     | true=>rfl
     | false=>
       rw [if_neg (by simp:¬ (false=true)),if_neg (by simp:¬ (false=true)),hv.Oo]
       by_cases hp:0 < i
       ·rw [if_pos hp,if_pos hp,bb (by omega) (by omega)]
        obtain ⟨u,hu,_,_⟩:=iq o.aG (i:=i - 1) (by omega) (by omega)
        rw [hu]
        simp only [Option.bind_some]
        unfold nq
        rw [X4,X4]
        simp only [Option.bind_some]
        have e:=Vs (Lib.compareBytes t.ek u.ek) (Lib.compareBytes t.au u.au) (Lib.compareBytes t.bH u.bH)
        rw [← lC,← lC,← lC] at e
        rw [e]
        show cG i _=cG i _
        congr 1
        rw [decide_eq_decide];omega
       ·rw [if_neg hp,if_neg hp];rfl
    cases eu:up o.ao t.au with
    | none=>
      rw [eu] at vX
      have X5:pe (fun t':au=>decide (t'.Key=t.au)) o.ao 0 < 0:=by simpa using vX
      rw [if_pos X5]
      simp only [Option.isSome_none,Bool.not_false,Bool.true_or]
      exact ⟨hj true,j12 true ⟨hj true,fun k=>by cases k⟩⟩
    | some p=>
      rw [eu] at vX
      have X5:¬ pe (fun t':au=>decide (t'.Key=t.au)) o.ao 0 < 0:=by simpa using vX
      rw [if_neg X5]
      simp only [Option.isSome_some,Bool.not_true,Bool.false_or]
      exact ⟨hj _,j12 _ ⟨hj _,fun k=>⟨⟨p,eu⟩,by simpa using k⟩⟩⟩
 ·have XZ:i=o.aG.length:=by omega
  subst XZ
  rw [if_neg hi,if_neg hi]
  rw [zD] at hI
  exact ⟨rfl,.inr 0,rfl,fun _=>hI⟩
theorem Vt (a b:Int):xU [a,b]=some (tw [a,b]):=zp _ (by simp)
theorem af8 (a b c:Int):lv [a,b,c]=some (tw [a,b,c]):=zp _ (by simp)
theorem Vu {o:aW} {k r:ai} (h:up o.ao k=some r):k∈wk o k:=by
 unfold wk;rw [kV h];simp
theorem Gr {v:aq} {o:aW} (hv:wH v o) (hb:mY o) (a b:ai):gZ v a b=some (!decide (a=b)&&decide (b∈wk o a)):=by
 unfold gZ gG
 have:=hb.TG
 have hw:=Gk o a
 by_cases c:a=b
 ·rw [if_neg (fun k=>k c),decide_eq_true c];rfl
 ·rw [if_pos c,Cz hv (by omega)]
  simp only [Option.bind_some]
  rw [sI (wk o a) b (by omega),decide_eq_false c];rfl
theorem PW {v:aq} {o:aW} (hv:wH v o) (hb:mY o) (hT:zC o.ao) (hn:∀ q,(wk o q).Nodup):
 eT v=(if (200:Int) < (o.aK.length:Int) then some 2 else wR o 0)∧Ok (eT v) (fun r=>r=0→∀ s∈o.aK,((∃ p,up o.ao s.ef=some p)∧∃ p,up o.ao s.To=some p)∧dR s.Query=some 0):=by
 unfold eT
 rw [hv.Oo]
 by_cases h2:(200:Int) < (o.aK.length:Int)
 ·rw [if_pos h2,if_pos h2];exact ⟨rfl,2,rfl,fun k=>by omega⟩
 rw [if_neg h2,if_neg h2]
 unfold oZ wR
 have hl:=hb.ZC
 have ht0:=hb.TG
 refine zZ o.aK.length (fun i=>∀ s∈o.aK.take i.toNat,((∃ p,up o.ao s.ef=some p)∧∃ p,up o.ao s.To=some p)∧dR s.Query=some 0) _ (fun t ht=>by simp at ht) (fun i h0 h1 hI=>?_)
 unfold fh qp
 rw [hv.Oo]
 by_cases hi:i < (o.aK.length:Int)
 ·rw [if_pos hi,if_pos hi]
  obtain ⟨t,ht,T8,_⟩:=iq o.aK h0 hi
  rw [ht]
  simp only [Option.bind_some]
  rw [wZ,nJ]
  simp only [Option.bind_some]
  have w1:cd (i+1)=i+1:=bb (by omega) (by omega)
  have j3:∀ c,(c=false→(∃ p,up o.ao t.ef=some p)∧∃ p,up o.ao t.To=some p)→ct i t c=lP i t c∧Ok (ct i t c) (Jq o.aK.length (fun i=>∀ s∈o.aK.take i.toNat,((∃ p,up o.ao s.ef=some p)∧∃ p,up o.ao s.To=some p)∧dR s.Query=some 0) (fun r=>r=0→∀ s∈o.aK,((∃ p,up o.ao s.ef=some p)∧∃ p,up o.ao s.To=some p)∧dR s.Query=some 0) i):=by
   intro c hc
   unfold ct lP
   cases c with
   | true=>exact ⟨rfl,.inr 13,rfl,fun k=>by omega⟩
   | false=>
     rw [if_neg (by simp:¬ (false=true)),if_neg (by simp:¬ (false=true))]
     obtain ⟨rq,e1,e2,_⟩:=AS t.Query (hb.shr t T8).2
     obtain ⟨f1,ra,f2⟩:=zB t.lI (hb.shr t T8).1
     rw [e1,e2,f1,f2]
     simp only [Option.bind_some]
     rw [Vt,af8]
     simp only [Option.bind_some]
     have hw:nX t.Time=if qZ t.Time=true then 0 else 1:=by
      unfold nX pI qZ sd
      rw [M4,Sn]
      by_cases k1:(0:Int)≤t.Time.ef
      ·by_cases k2:t.Time.ef≤t.Time.To
       ·by_cases k3:t.Time.To≤345686400000
        ·rw [if_neg (by simp [k1,k2];omega),if_pos (by simp [k3];omega)]
        ·rw [if_pos (by simp [k1,k2];omega),if_neg (by simp [k3])]
       ·rw [if_pos (by simp [k1,k2]),if_neg (by simp;intro _;omega)]
      ·rw [if_pos (by simp [k1]),if_neg (by simp;intro k;omega)]
     rw [af4,hw]
     by_cases z:tw [rq,ra]=0
     ·have hrq:rq=0:=by
       rw [Ve] at z
       by_cases y:rq=0
       ·exact y
       ·rw [if_pos y] at z;exact z
      rw [z]
      cases bw:qZ t.Time with
      | true=>
        refine ⟨by simp,?_⟩
        rw [if_neg (by simp),if_neg (by simp),w1]
        refine ⟨.inl (i+1),rfl,rfl,hi,fun s hs=>?_⟩
        rcases qu h0 ht hs with k | rfl
        ·exact hI s k
        ·exact ⟨hc rfl,by rw [e1,hrq]⟩
      | false=>
        refine ⟨by simp,?_⟩
        rw [if_neg (by simp),if_pos (by simp)]
        exact ⟨.inr 1,rfl,fun k=>by omega⟩
     ·rw [if_pos z,if_pos z,if_pos z]
      exact ⟨rfl,.inr _,rfl,fun k=>absurd k z⟩
  have j2:dm v i t true=lQ o i t true:=rfl
  have j2f:∀ {p q:ai},up o.ao t.ef=some p→up o.ao t.To=some q→∃ c,dm v i t false=ct i t c∧lQ o i t false=lP i t c:=by
   intro p q e1 e2
   have hw1:=Gk o t.ef
   have hw2:=Gk o t.To
   unfold dm lQ
   rw [if_neg (by simp:¬ (false=true)),if_neg (by simp:¬ (false=true)),Gr hv hb,Gr hv hb,(xH hT (by omega) (.inr ⟨p,e1⟩)).2,(xH hT (by omega) (.inr ⟨q,e2⟩)).2,if_pos (hn _),if_pos (hn _)]
   simp only [Option.bind_some]
   rw [sI (wk o t.ef) t.To (by omega),sI (wk o t.To) t.ef (by omega)]
   simp only [Option.bind_some]
   by_cases k:t.ef=t.To
   ·have:t.To∈wk o t.ef:=by rw [← k];exact Vu e1
    rw [if_pos k,if_pos (by simpa using this)]
    exact ⟨true,rfl,rfl⟩
   ·rw [if_neg k,decide_eq_false k,decide_eq_false (fun e:t.To=t.ef=>k e.symm)]
    simp only [Bool.not_false,Bool.true_and]
    by_cases k2:t.To∈wk o t.ef
    ·rw [if_pos (by simpa using k2),if_pos (by simpa using k2)];exact ⟨true,rfl,rfl⟩
    ·rw [if_neg (by simpa using k2),if_neg (by simpa using k2)];exact ⟨_,rfl,rfl⟩
  have j1:∀ c,dn v i t c=nY o i t c∧Ok (dn v i t c) (Jq o.aK.length (fun i=>∀ s∈o.aK.take i.toNat,((∃ p,up o.ao s.ef=some p)∧∃ p,up o.ao s.To=some p)∧dR s.Query=some 0) (fun r=>r=0→∀ s∈o.aK,((∃ p,up o.ao s.ef=some p)∧∃ p,up o.ao s.To=some p)∧dR s.Query=some 0) i):=by
   intro c
   unfold dn nY
   cases c with
   | true=>exact ⟨rfl,.inr 7,rfl,fun k=>by omega⟩
   | false=>
     rw [if_neg (by simp:¬ (false=true)),if_neg (by simp:¬ (false=true)),Ij hv,Ij hv,ri o _ (by omega),ri o _ (by omega)]
     simp only [Option.bind_some]
     have a1:=Ot o t.ef
     have a2:=Ot o t.To
     cases e1:up o.ao t.ef with
     | none=>
       rw [e1] at a1
       rw [if_pos (by simp),if_pos (by simpa using a1)]
       exact ⟨rfl,.inr 8,rfl,fun k=>by omega⟩
     | some p=>
       rw [e1] at a1
       rw [if_neg (by simp),if_neg (by simpa using a1),a2]
       cases e2:up o.ao t.To with
       | none=>exact ⟨rfl,.inr 8,rfl,fun k=>by omega⟩
       | some q=>
         simp only [Option.isSome_some,Bool.not_true]
         obtain ⟨c,g1,g2⟩:=j2f e1 e2
         rw [g1,g2]
         exact j3 c (fun _=>⟨⟨p,e1⟩,q,e2⟩)
  cases hk:vS t.Key with
  | false=>exact ⟨rfl,.inr 5,rfl,fun k=>by omega⟩
  | true=>
    rw [if_neg (by simp:¬ ((!true)=true)),if_neg (by simp:¬ ((!true)=true))]
    by_cases hp:0 < i
    ·rw [if_pos hp,if_pos hp,bb (by omega) (by omega)]
     obtain ⟨u,hu,_,_⟩:=iq o.aK (i:=i - 1) (by omega) (by omega)
     rw [hu]
     simp only [Option.bind_some]
     exact j1 _
    ·rw [if_neg hp,if_neg hp];exact j1 _
 ·have XZ:i=o.aK.length:=by omega
  subst XZ
  rw [if_neg hi,if_neg hi]
  rw [zD] at hI
  exact ⟨rfl,.inr 0,rfl,fun _=>hI⟩
structure Bw (o:aW):Prop where
 tree:zC o.ao
 nd:∀ q,(wk o q).Nodup
 ab4:Jz o
 mem:∀ m∈o.aG,(∃ p,up o.ao m.au=some p)∧zE o m.bH=true
 shr:∀ s∈o.aK,((∃ p,up o.ao s.ef=some p)∧∃ p,up o.ao s.To=some p)∧dR s.Query=some 0
structure AW (v:aq) (o:aW):Prop where
 view:wH v o
 bS:∀ k,(cX v.bU k).isSome=zE o k
 act:Jz o→∀ k,cX v.bU k=(o.bd.find? (fun r=>decide (r.Key=k))).map (·.lI)
 wide:v.dw=[]
theorem Bx (o:aW) (hb:mY o):∃ r,js o=some r∧((r≠0∧dp o=some (none,r))∨(r=0∧Bw o∧∃ v,dp o=some (some v,0)∧AW v o)):=by
 have ht:=hb.TG
 have hr:=hb.rol
 have hm:=hb.mem
 obtain ⟨a,hv⟩:=Nf o (by omega) (by omega) (by omega)
 unfold dp js
 rw [hv]
 simp only [Option.bind_some]
 generalize Tr:(⟨o,foldM (·.Key) (·.fe) [] o.ao,foldM (·.Key) (·.lI) [] o.bd,a,[],[]⟩:aq)=v
 have ho:v.aW=o:=by rw [← Tr]
 have hV:o.ao.Pairwise (fun a b=>a.Key≠b.Key)→wH v o:=fun k=>by rw [← Tr];exact XY o k _ _ _ _
 have hA:∀ k,(cX v.bU k).isSome=zE o k:=fun k=>by
  rw [← Tr]
  show (cX (foldM (·.Key) (·.lI) [] o.bd) k).isSome=_
  rw [Gl (·.Key) (·.lI) k o.bd []];simp [zE,Gb]
 have tY:Jz o→∀ k,cX v.bU k=(o.bd.find? (fun r=>decide (r.Key=k))).map (·.lI):=fun hR k=>by
  rw [← Tr]
  show cX (foldM (·.Key) (·.lI) [] o.bd) k=_
  rw [Dn (·.Key) (·.lI) k o.bd [] (hR.imp (fun h=>SK h)),Gb,Option.or_none]
 obtain ⟨e1,r1,e2,e3⟩:=Vp (by omega) ho hV
 rw [← e1,e2]
 simp only [Option.bind_some]
 by_cases z1:r1=0
 ·rw [if_neg (fun k:r1≠0=>k z1),if_neg (fun k:r1≠0=>k z1)]
  obtain ⟨_,hT,hn⟩:=e3 z1
  have hVR:=hV hT.nd
  obtain ⟨r2,f1,f2,f3⟩:=SV ho hb
  rw [f1,f2]
  simp only [Option.bind_some]
  by_cases z2:r2=0
  ·rw [if_neg (fun k:r2≠0=>k z2),if_neg (fun k:r2≠0=>k z2)]
   obtain ⟨g1,r3,g2,g3⟩:=Ni hVR hA hb
   rw [← g1,g2]
   simp only [Option.bind_some]
   by_cases z3:r3=0
   ·rw [if_neg (fun k:r3≠0=>k z3),if_neg (fun k:r3≠0=>k z3)]
    obtain ⟨i1,r4,i2,i3⟩:=PW hVR hb hT hn
    rw [← i1,i2]
    simp only [Option.bind_some]
    refine ⟨r4,rfl,?_⟩
    by_cases z4:r4=0
    ·rw [if_neg (fun k:r4≠0=>k z4)]
     exact .inr ⟨z4,⟨hT,hn,f3 z2,g3 z3,i3 z4⟩,v,rfl,hVR,hA,tY,by rw [← Tr]⟩
    ·rw [if_pos z4];exact .inl ⟨z4,rfl⟩
   ·rw [if_pos z3,if_pos z3];exact ⟨r3,rfl,.inl ⟨z3,rfl⟩⟩
  ·rw [if_pos z2,if_pos z2]
   simp only [Option.bind_some]
   rw [if_pos z2]
   exact ⟨r2,rfl,.inl ⟨z2,rfl⟩⟩
 ·rw [if_pos z1,if_pos z1];exact ⟨r1,rfl,.inl ⟨z1,rfl⟩⟩
end Go.Beacon
set_option linter.unusedSectionVars false
namespace Go.Beacon
open Go Go.Eng
section
variable {o:aW} (hb:mY o) (hr:Bw o) {v:aq} (hc:dp o=some (some v,0)) (hv:AW v o)
include hb hr
theorem EJ (k:ai):(wk o k).length≤1001:=by have:=Gk o k;have:=hb.TG;omega
theorem SX (k:ai) (hk:∃ p,up o.ao k=some p):si o k=some (wk o k):=by
 have ht:=hb.TG
 rw [(xH hr.tree (by omega) (k:=k) (.inr hk)).2,if_pos (hr.nd _)]
include hc hv
end
def CC (o:aW) (k:ai):List ai:=((o.bd.find? (fun r=>decide (r.Key=k))).map (·.lI)).getD []
section
variable {o:aW} (hb:mY o) (hr:Bw o)
include hb hr
theorem LM (k:ai):Ey (CC o k):=by
 unfold CC
 cases e:o.bd.find? (fun r=>decide (r.Key=k)) with
 | none=>exact ⟨by simp,fun x hx=>by cases hx⟩
 | some r=>exact hb.act r (List.mem_of_find?_eq_some e)
theorem SY (k:ai) (hk:zE o k=true):∃ r,idx o.bd (pe (fun r=>decide (r.Key=k)) o.bd 0)=some r∧r.lI=CC o k:=by
 unfold zE at hk
 cases e:o.bd.find? (fun r=>decide (r.Key=k)) with
 | none=>
   rw [List.find?_eq_none] at e
   obtain ⟨r,h1,h2⟩:=List.any_eq_true.1 hk
   exact absurd h2 (e r h1)
 | some r=>
   have:=Dl (fun r:bH=>decide (r.Key=k)) o.bd [] r e
   exact ⟨r,by simpa using this,by unfold CC;rw [e];rfl⟩
end
section
variable {o:aW} (hb:mY o) (hr:Bw o) {v:aq} (hv:AW v o)
include hb hr hv
theorem SZ (k:ai):(cX v.bU k).getD []=CC o k:=by rw [hv.act hr.ab4 k];rfl
end
def QS (m:Nat) (q:Query):Prop:=q.kL.length≤m∧∀ x∈q.kL,He x
theorem QS.mono {m k:Nat} {q:Query} (h:QS m q) (hk:m≤k):QS k q:=⟨Nat.le_trans h.1 hk,h.2⟩
theorem QS.b {m:Nat} {q:Query} (h:QS m q) (hm:m≤5000):QB q:=⟨Nat.le_trans h.1 hm,h.2⟩
def DQ (m:Nat) (l:List Query):Prop:=(Query.lU l).length≤m∧∀ x∈Query.lU l,He x
theorem Ir:∀ a b:List Query,Query.lU (a++b)=Query.lU a++Query.lU b
 | [],b=>by simp [Query.lU]
 | x :: a,b=>by rw [List.cons_append,Query.lU,Ir a b,Query.lU,List.append_assoc]
theorem DQ.nil:DQ 0 []:=⟨by simp [Query.lU],fun x h=>by simp [Query.lU] at h⟩
theorem DQ.app {m k:Nat} {a b:List Query} (h:DQ m a) (h':DQ k b):DQ (m+k) (a++b):=by
 unfold DQ
 rw [Ir]
 refine ⟨by rw [List.length_append];have:=h.1;have:=h'.1;omega,fun x hx=>?_⟩
 rcases List.mem_append.1 hx with k | k
 ·exact h.2 x k
 ·exact h'.2 x k
theorem DQ.one {m:Nat} {q:Query} (h:QS m q):DQ m [q]:=by
 unfold DQ
 simp only [Query.lU,List.append_nil];exact h
theorem QS.kids {m:Nat} {q:Query} (h:QS m q):DQ (m - 1) q.Kids:=by
 obtain ⟨h1,h2⟩:=h
 rw [q.ub] at h1 h2
 rw [List.length_cons] at h1
 exact ⟨by omega,fun x hx=>h2 x (List.mem_cons_of_mem _ hx)⟩
theorem QS.mk {m:Nat} {k:Int} {f o:ai} {v:bg} {w:Version} {l:List Query} (hf:f.length≤100000) (ho:o.length≤100000) (hv:v.Words.length≤100000) (h:DQ m l):QS (m+1) ⟨k,f,o,v,w,l⟩:=by
 unfold QS
 rw [Query.ub]
 refine ⟨by rw [List.length_cons];exact Nat.succ_le_succ h.1,fun x hx=>?_⟩
 rcases List.mem_cons.1 hx with rfl | hx
 ·exact ⟨hf,ho,hv⟩
 ·exact h.2 x hx
theorem QS.s {m:Nat} {q:Query} (h:QS m q):He q:=h.2 q q.Lv
theorem qV {s:ai} {L:List ai} (h:s∈L) (hl:L.all (fun x=>decide (x.length≤100))=true):s.length≤100000:=by
 have:=List.all_eq_true.1 hl s h
 simp at this;omega
theorem CD {s:wc} {K:Int} (hs:og s K) (hK:1≤K):ru (gA s) (K - 1) (fun t=>t.length≤100000):=by
 refine ru.of ?_
 unfold gA
 refine Ok.gen (gV hs hK (by simp) (by simp)) (fun t s1 h q=>Ok.ret ⟨qV h (by decide),q⟩)
theorem EK {s:wc} {K:Int} {L:List ai} (hL:L≠[]∧L.length≤100∧L.all (fun x=>decide (x.length≤100))=true) (hs:og s K) (hK:1≤K):ru (iQ L s) (K - 1) (fun v=>v.Words.length≤100000):=by
 refine ru.of ?_
 unfold iQ
 refine Ok.gen (gV hs hK hL.1 (by omega)) (fun t s1 h q=>Ok.ret ⟨qV h hL.2.2,q⟩)
theorem Nj {s:wc} {K:Int} (hs:og s K) (hK:6≤K):ru (qY s) (K - 6) (QS 1):=by
 refine ru.of ?_
 unfold qY
 have done:∀ {k:Int} {f o:ai} {v:bg} {w:Version} {s':wc} {K':Int},f.length≤100000→o.length≤100000→v.Words.length≤100000→og s' K'→K - 6≤K'→Ok (some ((⟨k,f,o,v,w,[]⟩:Query),s')) (fun r=>QS 1 r.1∧og r.2 (K - 6)):=
  fun hf ho hv hq hk=>Ok.ret ⟨QS.mk hf ho hv DQ.nil,hq.less hk⟩
 refine Ok.gen (tz hs (by omega) (by omega) (by omega)) (fun n s1 _ q1=>?_)
 dsimp only
 split
 ·refine Ok.gen (gV q1 (by omega) (by simp) (by simp)) (fun t s2 h q2=>?_)
  exact done (qV h (by decide)) (by simp) (by simp) q2 (by omega)
 split
 ·refine Ok.gen (CD q1 (by omega)) (fun t s2 h q2=>?_)
  refine Ok.gen (EK (by decide) q2 (by omega)) (fun v s3 hv q3=>?_)
  exact done (by simp) h hv q3 (by omega)
 split
 ·refine Ok.gen (gV q1 (by omega) (by simp) (by simp)) (fun f s2 hf q2=>?_)
  refine Ok.gen (CD q2 (by omega)) (fun t s3 h q3=>?_)
  refine Ok.gen (EK (by decide) q3 (by omega)) (fun v s4 hv q4=>?_)
  exact done (qV hf (by decide)) h hv q4 (by omega)
 split
 ·refine Ok.gen (gV q1 (by omega) (by simp [xj]) (by simp [xj])) (fun o s2 ho q2=>?_)
  refine Ok.gen (tz q2 (by omega) (by omega) (by omega)) (fun a s3 _ q3=>?_)
  refine Ok.gen (mF q3 (by omega) (by simp) (by simp)) (fun b s4 _ q4=>?_)
  refine Ok.gen (mF q4 (by omega) (by simp) (by simp)) (fun c s5 _ q5=>?_)
  exact done (by simp) (qV ho (by unfold xj;decide)) (by simp) q5 (by omega)
 split
 ·refine Ok.gen (CD q1 (by omega)) (fun t s2 h q2=>?_)
  refine Ok.gen (EK (by decide) q2 (by omega)) (fun v s3 hv q3=>?_)
  exact done (by simp) h hv q3 (by omega)
 split
 ·refine Ok.gen (CD q1 (by omega)) (fun t s2 h q2=>?_)
  refine Ok.gen (tA q2 (by omega) (by omega) (by omega)) (fun b s3 _ q3=>?_)
  exact done (by simp) h (by simp) q3 (by omega)
 split
 ·refine Ok.gen (CD q1 (by omega)) (fun t s2 h q2=>?_)
  refine Ok.gen (EK (by decide) q2 (by omega)) (fun v s3 hv q3=>?_)
  exact done (by simp) h hv q3 (by omega)
 ·refine Ok.gen (gV q1 (by omega) (by simp [xj]) (by simp [xj])) (fun o s2 ho q2=>?_)
  refine Ok.gen (mF q2 (by omega) (by simp) (by simp)) (fun c s5 _ q5=>?_)
  exact done (by simp) (qV ho (by unfold xj;decide)) (by simp) q5 (by omega)
def DR:Nat→Int
 | 0=>10
 | d+1=>3+3 * DR d
def DS:Nat→Nat
 | 0=>1
 | d+1=>1+3 * DS d
theorem Aa:∀ d,10≤DR d
 | 0=>by simp [DR]
 | d+1=>by have:=Aa d;simp only [DR];omega
theorem Vv:∀ d,1≤DS d
 | 0=>by simp [DS]
 | d+1=>by simp only [DS];omega
theorem JA (self:wc→Int→Option (Query×wc)) (d:Nat) (hd:d≤1000) (Ox:∀ (s:wc) (K:Int),og s K→DR d≤K→ru (self s d) (K - DR d) (QS (DS d))) (hz:DS d≤1000) (v7:Int×wc) (m:Int) (hm:1≤m∧m≤3) (L:List Int) (n:Int) (K:Int) (hs:og ⟨L,n⟩ K) (hK:3 * DR d≤K):
 Ok (oO self (d+1:Nat) v7 m L n [] 0) (fun r=>QS (1+3 * DS d) r.1∧og r.2 (K - 3 * DR d)):=by
 have hp:=Aa d
 unfold oO
 refine Ok.iter (fun x:(List Int)×Int×(List Query)×Int=>(3 - x.2.2.2).toNat) (fun x=>(0≤x.2.2.2∧x.2.2.2≤m)∧og ⟨x.1,x.2.1⟩ (K - DR d * x.2.2.2)∧DQ (DS d * x.2.2.2.toNat) x.2.2.1) ?_ _ ⟨⟨by simp,by simp;omega⟩,by simpa using hs,by simpa using DQ.nil⟩
 rintro ⟨L,n,l,i⟩ ⟨h0,h1,h2⟩
 dsimp only at h0 h1 h2 ⊢
 have w1:cd (i+1)=i+1:=bb (by omega) (by omega)
 have w2:cd (((d+1:Nat):Int) - 1)=d:=by rw [show ((d+1:Nat):Int) - 1=d by omega];exact bb (by omega) (by omega)
 have hlen:l.length≤3000:=by
  have e1:=xG l
  have e2:=h2.1
  have:DS d * i.toNat≤1000 * 3:=Nat.mul_le_mul hz (by omega)
  omega
 have hi3:i=0∨i=1∨i=2∨i=3:=by omega
 unfold iR
 split
 ·rename_i hi
  rw [w2]
  have hK':DR d≤K - DR d * i:=by rcases hi3 with rfl | rfl | rfl | rfl<;>omega
  refine Ok.gen (Ox _ _ h1 hK') (fun q s' hq q'=>?_)
  have Ow:∀ l':List Query,DQ (DS d * i.toNat+DS d) l'→Ok (gi i (q,s') l') (Wm (fun x:(List Int)×Int×(List Query)×Int=>(3 - x.2.2.2).toNat) (fun x=>(0≤x.2.2.2∧x.2.2.2≤m)∧og ⟨x.1,x.2.1⟩ (K - DR d * x.2.2.2)∧DQ (DS d * x.2.2.2.toNat) x.2.2.1) (fun r=>QS (1+3 * DS d) r.1∧og r.2 (K - 3 * DR d)) (L,n,l,i)):=by
   intro l' CJ
   unfold gi
   rw [w1]
   refine Ok.ret ⟨⟨⟨by dsimp only;omega,by dsimp only;omega⟩,?_,?_⟩,by dsimp only;omega⟩
   ·dsimp only
    have e:K - DR d * (i+1)=K - DR d * i - DR d:=by rw [Int.mul_add];omega
    rw [e];exact q'
   ·dsimp only
    have e:DS d * (i+1).toNat=DS d * i.toNat+DS d:=by rw [show (i+1).toNat=i.toNat+1 by omega,Nat.mul_succ]
    rw [e];exact CJ
  have hql:=hq.kids
  have hk2:q.Kids.length≤1000:=by
   have e1:=xG q.Kids
   have e2:=hql.1
   omega
  unfold kZ
  split
  ·refine Ok.app (by dsimp only;omega) ?_
   exact Ow _ (DQ.app h2 ⟨Nat.le_trans hql.1 (by omega),hql.2⟩)
  ·refine Ok.app (by simp;omega) ?_
   exact Ow _ (DQ.app h2 (DQ.one hq))
 ·refine Ok.inr (Ok.ret ⟨?_,?_⟩)
  ·have e:DS d * i.toNat≤3 * DS d:=by rw [Nat.mul_comm];exact Nat.mul_le_mul_right _ (by omega)
   have:=QS.mk (k:=v7.1) (f:=[]) (o:=[]) (v:=⟨0,false,0,[]⟩) (w:=⟨0,0,0⟩) (by simp) (by simp) (by simp) h2
   exact this.mono (by omega)
  ·have:DR d * i≤3 * DR d:=by rcases hi3 with rfl | rfl | rfl | rfl<;>omega
   exact h1.less (by omega)
theorem yi:∀ (d:Nat) (f:Nat),d < f→d≤3→∀ (s:wc) (K:Int),og s K→DR d≤K→ru (eC f s d) (K - DR d) (QS (DS d))
 | 0,f+1,_,_,s,K,hs,hK=>by
   have hp:=Aa 0
   refine ru.of ?_
   show Ok (fg (eC f) s ((0:Nat):Int)) _
   unfold fg
   rw [if_pos (by simp)]
   unfold gm
   rw [if_pos rfl]
   refine Ok.gen (Nj (s:=⟨s.L,s.at_⟩) hs (by omega)) (fun q s1 hq q1=>Ok.ret ⟨hq,q1.less (by omega)⟩)
 | d+1,f+1,hf,hd,s,K,hs,hK=>by
   have hp:=Aa d
   have hz:DS d≤1000:=by
    have DC:d=0∨d=1∨d=2:=by omega
    rcases DC with rfl | rfl | rfl<;>decide
   have Ox:=yi d f (by omega) (by omega)
   have hKd:3+3 * DR d≤K:=hK
   refine ru.of ?_
   show Ok (fg (eC f) s ((d+1:Nat):Int)) (fun r=>QS (1+3 * DS d) r.1∧og r.2 (K - (3+3 * DR d)))
   unfold fg
   rw [if_neg (by omega)]
   refine Ok.gen (tA hs (by omega) (by omega) (by omega)) (fun c s1 _ q1=>?_)
   dsimp only
   unfold gm
   split
   ·refine Ok.gen (Nj (s:=⟨s1.L,s1.at_⟩) q1 (by omega)) (fun q s2 hq q2=>Ok.ret ⟨hq.mono (by have:=Vv d;omega),q2.less (by omega)⟩)
   ·refine Ok.gen (mF (s:=⟨s1.L,s1.at_⟩) q1 (by omega) (by simp) (by simp)) (fun k s2 _ q2=>?_)
    dsimp only
    have fin:∀ (m:Int) (s3:wc) (K3:Int),1≤m∧m≤3→og s3 K3→K - 3≤K3→Ok (gj (eC f) ((d+1:Nat):Int) (k,s2) s3.L s3.at_ m) (fun r=>QS (1+3 * DS d) r.1∧og r.2 (K - (3+3 * DR d))):=by
     intro m s3 K3 hm h3 hk3
     unfold gj
     refine (JA (eC f) d (by omega) Ox hz (k,s2) m hm s3.L s3.at_ K3 h3 (by omega)).mono (fun r hr=>⟨hr.1,hr.2.less (by omega)⟩)
    split
    ·refine Ok.gen (mF q2 (by omega) (by simp) (by simp)) (fun m s3 hm q3=>?_)
     dsimp only
     have:=Cv (lo:=2) (hi:=3) hm (by decide)
     exact fin m s3 _ (by omega) q3 (by omega)
    ·exact fin 1 s2 _ (by omega) q2 (by omega)
theorem Vw {s:wc} {K:Int} (hs:og s K) (hK:150≤K):ru (r5 s) (K - 150) QB:=by
 refine ru.of ?_
 unfold r5
 refine Ok.gen (mF hs (by omega) (by simp) (by simp)) (fun d s1 hd q1=>?_)
 have DC:=Cv (lo:=0) (hi:=2) hd (by decide)
 obtain ⟨e,rfl⟩:∃ e:Nat,d=e:=⟨d.toNat,by omega⟩
 have he:e≤2:=by omega
 have hdr:DR e≤129:=by
  have:e=0∨e=1∨e=2:=by omega
  rcases this with rfl | rfl | rfl<;>decide
 have j9:DS e≤13:=by
  have:e=0∨e=1∨e=2:=by omega
  rcases this with rfl | rfl | rfl<;>decide
 have hp:=Aa e
 have hrq:=yi e depth (by unfold depth;omega) (by omega) s1 (K - 1) q1 (by omega)
 dsimp only
 refine Ok.gen (P:=QS (DS e)) (k:=K - 1 - DR e) hrq (fun q s2 hq q2=>?_)
 have hq:=hq.mono j9
 have JV:=hq.s
 have ZD:=hq.kids
 dsimp only
 refine Ok.gen (tA q2 (by omega) (by omega) (by omega)) (fun c s3 _ q3=>?_)
 have j1:∀ {L:List Int} {n k:Int} {f o:ai} {a:Int} {b:Bool} {c:Int} {w:ai} {x y z:Int} {l:List Query} {K':Int},og ⟨L,n⟩ K'→K - 150≤K'→f.length≤100000→o.length≤100000→w.length≤100000→DQ 100 l→Ok (nj L n k f o a b c w x y z l) (fun r=>QB r.1∧og r.2 (K - 150)):=by
  intro L n k f o a b c w x y z l K' h1 h2 h3 h4 h5 h6
  exact Ok.ret ⟨(QS.mk (v:=⟨a,b,c,w⟩) h3 h4 h5 h6).b (by omega),h1.less h2⟩
 have LN:DQ 100 q.Kids:=⟨by have:=ZD.1;omega,ZD.2⟩
 dsimp only
 split
 ·refine Ok.gen (tz q3 (by omega) (by omega) (by omega)) (fun t s4 _ q4=>?_)
  dsimp only
  split
  ·refine Ok.gen (Sw q4 (by omega) (by omega) (by omega) (by omega)) (fun u s5 _ q5=>?_)
   exact j1 q5 (by omega) JV.field JV.op JV.words LN
  split
  ·refine Ok.gen (gV q4 (by omega) (by simp) (by simp)) (fun u s5 hu q5=>?_)
   exact j1 q5 (by omega) (qV hu (by decide)) JV.op JV.words LN
  split
  ·refine Ok.gen (gV q4 (by omega) (by simp) (by simp)) (fun u s5 hu q5=>?_)
   exact j1 q5 (by omega) JV.field (qV hu (by decide)) JV.words LN
  split
  ·refine Ok.gen (tz q4 (by omega) (by omega) (by omega)) (fun u s5 hu q5=>?_)
   dsimp only
   refine Ok.idx hu.1 (by simpa using hu.2) (fun v _ hv=>?_)
   refine j1 q5 (by omega) JV.field JV.op ?_ LN
   simp only [List.mem_cons,List.not_mem_nil,or_false] at hv
   rcases hv with rfl | rfl | rfl | rfl | rfl<;>simp
  split
  ·unfold iH
   have hkl:q.Kids.length≤100:=by
    have e1:=xG q.Kids
    have e2:=ZD.1
    omega
   refine Ok.app (by simp;omega) ?_
   refine Ok.gen (Nj q4 (by omega)) (fun u s5 hu q5=>?_)
   refine Ok.app (by simp;omega) ?_
   refine j1 q5 (by omega) JV.field JV.op JV.words ?_
   rw [List.nil_append]
   have:=DQ.app ZD (DQ.one hu)
   exact ⟨Nat.le_trans this.1 (by omega),this.2⟩
  ·refine Ok.gen (mF q4 (by omega) (by simp) (by simp)) (fun m s5 hm q5=>?_)
   have WG:=Cv (lo:=18) (hi:=20) hm (by decide)
   unfold yn
   refine Ok.iter (fun x:Int×ai×ai×Int×Bool×Int×ai×Int×Int×Int×(List Query)×Int=>(20 - x.2.2.2.2.2.2.2.2.2.2.2).toNat)
    (fun x=>(0≤x.2.2.2.2.2.2.2.2.2.2.2∧x.2.2.2.2.2.2.2.2.2.2.2≤20)∧(x.2.1.length≤100000∧x.2.2.1.length≤100000∧x.2.2.2.2.2.2.1.length≤100000)∧DQ (12+x.2.2.2.2.2.2.2.2.2.2.2.toNat) x.2.2.2.2.2.2.2.2.2.2.1) ?_ _ ⟨by simp,⟨JV.field,JV.op,JV.words⟩,⟨by have:=ZD.1;simp;omega,ZD.2⟩⟩
   rintro ⟨k,f,o,a,b,c,w,x,y,z,l,i⟩ ⟨h0,h1,h2⟩
   dsimp only at h0 h1 h2 ⊢
   unfold nk
   split
   ·rename_i hi
    dsimp only at hi
    rw [bb (by omega) (by omega)]
    refine Ok.ret ⟨⟨⟨by dsimp only;omega,by dsimp only;omega⟩,⟨by simp,by simp,by simp⟩,?_⟩,by dsimp only;omega⟩
    have:=DQ.one (QS.mk (k:=k) (w:=⟨x,y,z⟩) (v:=⟨a,b,c,w⟩) h1.1 h1.2.1 h1.2.2 h2)
    dsimp only
    exact ⟨by have:=this.1;omega,this.2⟩
   ·refine Ok.inr ?_
    exact j1 q5 (by omega) h1.1 h1.2.1 h1.2.2 ⟨by have:=h2.1;omega,h2.2⟩
 ·exact j1 q3 (by omega) JV.field JV.op JV.words LN
theorem Ey.of {l:List ai} (h:l.length≤100) (h2:l.all (fun x=>decide (x.length≤100))=true):Ey l:=⟨by omega,fun x hx=>by
 have:=List.all_eq_true.1 h2 x hx
 simp at this;omega⟩
theorem Nk {s:wc} {K:Int} (hs:og s K) (hK:1≤K):ru (oN s) (K - 1) Ey:=by
 refine ru.of ?_
 unfold oN
 refine Ok.gen (tz hs (by omega) (by omega) (by omega)) (fun u s1 hu q1=>?_)
 dsimp only
 refine Ok.idx hu.1 (by simpa using hu.2) (fun v _ hv=>?_)
 refine Ok.ret ⟨?_,q1⟩
 simp only [List.mem_cons,List.not_mem_nil,or_false] at hv
 rcases hv with rfl | rfl | rfl | rfl | rfl<;>exact Ey.of (by simp) rfl
def ShB (s:bl):Prop:=Ey s.lI∧QB s.Query
theorem LO (oH:ai) (n28:Int) (h28:0≤n28∧n28 < 4) (FB:ai) (L:List Int) (n:Int) (l:List aQ) (m:Nat) (hl:l.length≤m) (hm:m≤100) (K:Int) (hs:og ⟨L,n⟩ K) (hK:3≤K):
 Ok (qQ oH n28 FB L n l 0) (fun r=>∃ L' n' l',r=.inl (L',n',l',n28+1)∧og ⟨L',n'⟩ (K - 3)∧l'.length≤m+3):=by
 unfold qQ
 refine Ok.iter (fun x:(List Int)×Int×(List aQ)×Int=>(3 - x.2.2.2).toNat) (fun x=>(0≤x.2.2.2∧x.2.2.2≤3)∧og ⟨x.1,x.2.1⟩ (K - x.2.2.2)∧(x.2.2.1.length:Int)≤m+x.2.2.2) ?_ _ ⟨by simp,by simpa using hs,by simp;omega⟩
 rintro ⟨L,n,l,i⟩ ⟨h0,h1,h2⟩
 dsimp only at h0 h1 h2 ⊢
 have w1:cd (i+1)=i+1:=bb (by omega) (by omega)
 unfold ko
 split
 ·rename_i hi
  have hi:i < 3:=by simpa using hi
  refine Ok.idx h0.1 (by simpa using hi) (fun nm _ Nw=>?_)
  refine Ok.gen (tA h1 (by omega) (by omega) (by omega)) (fun c s1 _ q1=>?_)
  dsimp only
  unfold kj
  rw [w1]
  split
  ·refine Ok.app (by simp;omega) ?_
   exact Ok.ret ⟨⟨⟨by dsimp only;omega,by dsimp only;omega⟩,q1.less (by dsimp only;omega),by simp;omega⟩,by dsimp only;omega⟩
  ·exact Ok.ret ⟨⟨⟨by dsimp only;omega,by dsimp only;omega⟩,q1.less (by dsimp only;omega),by dsimp only;omega⟩,by dsimp only;omega⟩
 ·rename_i hi
  have hi:¬ i < 3:=by simpa using hi
  rw [bb (by omega) (by omega)]
  exact Ok.inr (Ok.ret ⟨L,n,l,rfl,h1.less (by omega),by omega⟩)
theorem LP (n16:Int) (h16:0≤n16∧n16 < 2) (oH:ai) (L:List Int) (n:Int) (l:List aQ) (m:Nat) (hl:l.length≤m) (hm:m≤50) (K:Int) (hs:og ⟨L,n⟩ K) (hK:12≤K):
 Ok (qR n16 oH L n l 0) (fun r=>∃ L' n' l',r=.inl (L',n',l',n16+1)∧og ⟨L',n'⟩ (K - 12)∧l'.length≤m+12):=by
 unfold qR
 refine Ok.iter (fun x:(List Int)×Int×(List aQ)×Int=>(4 - x.2.2.2).toNat) (fun x=>(0≤x.2.2.2∧x.2.2.2≤4)∧og ⟨x.1,x.2.1⟩ (K - 3 * x.2.2.2)∧(x.2.2.1.length:Int)≤m+3 * x.2.2.2) ?_ _ ⟨by simp,by simpa using hs,by simp;omega⟩
 rintro ⟨L,n,l,i⟩ ⟨h0,h1,h2⟩
 dsimp only at h0 h1 h2 ⊢
 unfold kq
 split
 ·rename_i hi
  have hi:i < 4:=by simpa using hi
  refine Ok.idx h0.1 (by simpa using hi) (fun nm _ Nw=>?_)
  refine (LO oH i ⟨h0.1,hi⟩ nm L n l (m+3 * i.toNat) (by omega) (by omega) (K - 3 * i) h1 (by omega)).mono (fun r hr=>?_)
  obtain ⟨L',n',l',rfl,g1,g2⟩:=hr
  exact ⟨⟨⟨by dsimp only;omega,by dsimp only;omega⟩,g1.less (by dsimp only;omega),by dsimp only;omega⟩,by dsimp only;omega⟩
 ·rename_i hi
  have hi:¬ i < 4:=by simpa using hi
  rw [bb (by omega) (by omega)]
  exact Ok.inr (Ok.ret ⟨L,n,l,rfl,h1.less (by omega),by omega⟩)
theorem LQ (v2:ai×wc) (v5:(List ai)×wc) (hv5:Ey v5.1) (ms:List aQ) (hms:ms.length≤100) (L:List Int) (n:Int) (K:Int) (hs:og ⟨L,n⟩ K) (hK:90≤K):
 Ok (qS v2 v5 ms L n [] 0) (fun r=>(mY r.1∧r.1.ao.length=4∧r.1.bd.length=3∧r.1.aG.length≤100∧r.1.aK.length≤2)∧og r.2 (K - 90)):=by
 unfold qS
 refine Ok.iter (fun x:(List Int)×Int×(List bl)×Int=>(2 - x.2.2.2).toNat) (fun x=>(0≤x.2.2.2∧x.2.2.2≤2)∧og ⟨x.1,x.2.1⟩ (K - 45 * x.2.2.2)∧(x.2.2.1.length:Int)≤x.2.2.2∧∀ s∈x.2.2.1,ShB s) ?_ _ ⟨by simp,by simpa using hs,by simp,fun s h=>by cases h⟩
 rintro ⟨L,n,l,i⟩ ⟨h0,h1,h2,h3⟩
 dsimp only at h0 h1 h2 h3 ⊢
 have w1:cd (i+1)=i+1:=bb (by omega) (by omega)
 unfold kr
 split
 ·rename_i hi
  have hi:i < 2:=by simpa using hi
  refine Ok.idx h0.1 (by simpa using hi) (fun nm _ Nw=>?_)
  refine Ok.gen (tA h1 (by omega) (by omega) (by omega)) (fun c s1 _ q1=>?_)
  dsimp only
  split
  ·refine Ok.gen (mF q1 (by omega) (by simp) (by simp)) (fun fr s2 _ q2=>?_)
   refine Ok.gen (gV q2 (by omega) (by simp) (by simp)) (fun a s3 _ q3=>?_)
   refine Ok.gen (mF q3 (by omega) (by simp) (by simp)) (fun d s4 hd q4=>?_)
   have DC:=Cv (lo:=0) (hi:=1) hd (by decide)
   obtain ⟨e,rfl⟩:∃ e:Nat,d=e:=⟨d.toNat,by omega⟩
   have hdr:DR e≤33:=by
    have:e=0∨e=1:=by omega
    rcases this with rfl | rfl<;>decide
   have j9:DS e≤13:=by
    have:e=0∨e=1:=by omega
    rcases this with rfl | rfl<;>decide
   have hp:=Aa e
   have hrq:=yi e depth (by unfold depth;omega) (by omega) s4 _ q4 (by omega)
   dsimp only
   refine Ok.gen (P:=QS (DS e)) hrq (fun q s5 hq q5=>?_)
   have hqb:=(hq.mono j9).b (by omega)
   refine Ok.gen (Nk q5 (by omega)) (fun ac s6 BD q6=>?_)
   refine Ok.gen (mF q6 (by omega) (by simp) (by simp)) (fun f2 s7 _ q7=>?_)
   refine Ok.gen (tA q7 (by omega) (by omega) (by omega)) (fun c s8 _ q8=>?_)
   dsimp only
   have j3:∀ a b,Ok (iz l i nm (fr,s2) (q,s5) (ac,s6) (f2,s7) (c,s8) a b) (Wm (fun x:(List Int)×Int×(List bl)×Int=>(2 - x.2.2.2).toNat) (fun x=>(0≤x.2.2.2∧x.2.2.2≤2)∧og ⟨x.1,x.2.1⟩ (K - 45 * x.2.2.2)∧(x.2.2.1.length:Int)≤x.2.2.2∧∀ s∈x.2.2.1,ShB s) (fun r=>(mY r.1∧r.1.ao.length=4∧r.1.bd.length=3∧r.1.aG.length≤100∧r.1.aK.length≤2)∧og r.2 (K - 90)) (L,n,l,i)):=by
    intro a b
    unfold iz iy
    refine Ok.app (by simp;omega) ?_
    dsimp only
    rw [w1]
    refine Ok.ret ⟨⟨⟨by dsimp only;omega,by dsimp only;omega⟩,q8.less (by dsimp only;omega),by simp;omega,fun s hs=>?_⟩,by dsimp only;omega⟩
    rcases List.mem_append.1 hs with k | k
    ·exact h3 s k
    ·rw [List.mem_singleton.1 k];exact ⟨BD,hqb⟩
   split
   ·exact j3 _ _
   ·exact j3 _ _
  ·unfold iy
   rw [w1]
   exact Ok.ret ⟨⟨⟨by dsimp only;omega,by dsimp only;omega⟩,q1.less (by dsimp only;omega),by dsimp only;omega,h3⟩,by dsimp only;omega⟩
 ·rename_i hi
  refine Ok.inr (Ok.ret ⟨⟨⟨by simp,by simp,by dsimp only;omega,by dsimp only;omega,fun r hr=>?_,h3⟩,rfl,rfl,hms,by dsimp only;omega⟩,h1.less (by omega)⟩)
  simp only [List.mem_cons,List.not_mem_nil,or_false] at hr
  rcases hr with rfl | rfl | rfl
  ·exact Ey.of (by simp) rfl
  ·exact hv5
  ·exact Ey.of (by simp) rfl
theorem Nl {s:wc} {K:Int} (hs:og s K) (hK:116≤K):ru (ni s) (K - 116) (fun o=>mY o∧o.ao.length=4∧o.bd.length=3∧o.aG.length≤100∧o.aK.length≤2):=by
 refine ru.of ?_
 unfold ni
 refine Ok.gen (gV hs (by omega) (by simp) (by simp)) (fun v2 s1 _ q1=>?_)
 refine Ok.gen (Nk q1 (by omega)) (fun v5 s2 hv5 q2=>?_)
 dsimp only
 unfold vy
 refine Ok.iter (fun x:(List Int)×Int×(List aQ)×Int=>(2 - x.2.2.2).toNat) (fun x=>(0≤x.2.2.2∧x.2.2.2≤2)∧og ⟨x.1,x.2.1⟩ (K - 2 - 12 * x.2.2.2)∧(x.2.2.1.length:Int)≤12 * x.2.2.2) ?_ _ ⟨by simp,q2.less (by simp;omega),by simp⟩
 rintro ⟨L,n,l,i⟩ ⟨h0,h1,h2⟩
 dsimp only at h0 h1 h2 ⊢
 unfold ku
 split
 ·rename_i hi
  have hi:i < 2:=by simpa using hi
  refine Ok.idx h0.1 (by simpa using hi) (fun nm _ Nw=>?_)
  refine (LP i ⟨h0.1,hi⟩ nm L n l (12 * i.toNat) (by omega) (by omega) (K - 2 - 12 * i) h1 (by omega)).mono (fun r hr=>?_)
  obtain ⟨L',n',l',rfl,g1,g2⟩:=hr
  exact ⟨⟨⟨by dsimp only;omega,by dsimp only;omega⟩,g1.less (by dsimp only;omega),by dsimp only;omega⟩,by dsimp only;omega⟩
 ·exact Ok.inr ((LQ (v2,s1) (v5,s2) hv5 l (by omega) L n (K - 26) (h1.less (by omega)) (by omega)).mono (fun r hr=>⟨hr.1,hr.2.less (by omega)⟩))
theorem Ws {s:wc} {K:Int} (hs:og s K) (hK:300≤K):ru (s0 s) (K - 300) mY:=by
 refine ru.of ?_
 unfold s0
 refine Ok.gen (Nl hs (by omega)) (fun o s1 ho q1=>?_)
 obtain ⟨hB,hT,hR,hM,hS⟩:=ho
 refine Ok.gen (tA q1 (by omega) (by omega) (by omega)) (fun c s2 _ q2=>?_)
 have fin:∀ {L:List Int} {n:Int} {T:List au} {R:List bH} {M:List aQ} {S:List bl} {K':Int},og ⟨L,n⟩ K'→K - 300≤K'→T.length≤10→(R.length≤10∧∀ r∈R,Ey r.lI)→M.length≤200→(S.length≤10∧∀ s∈S,ShB s)→Ok (pZ L n T R M S) (fun r=>mY r.1∧og r.2 (K - 300)):=by
  intro L n T R M S K' a1 a2 a3 a4 a5 a6
  exact Ok.ret ⟨⟨by dsimp only;omega,by dsimp only;omega,by dsimp only;omega,by dsimp only;omega,a4.2,a6.2⟩,a1.less a2⟩
 have ZE:o.ao.length≤10:=by omega
 have X6:o.bd.length≤10∧∀ r∈o.bd,Ey r.lI:=⟨by omega,hB.act⟩
 have X7:o.aG.length≤200:=by omega
 have ZF:o.aK.length≤10∧∀ s∈o.aK,ShB s:=⟨by omega,hB.shr⟩
 dsimp only
 split
 ·refine Ok.gen (tz q2 (by omega) (by omega) (by omega)) (fun z s3 _ q3=>?_)
  dsimp only
  split
  ·refine Ok.gen (tz q3 (by omega) (by omega) (by omega)) (fun j s4 hj q4=>?_)
   refine Ok.gen (gV q4 (by omega) (by simp) (by simp)) (fun a s5 _ q5=>?_)
   dsimp only
   refine Ok.idx hj.1 (by omega) (fun t _ _=>?_)
   exact fin q5 (by omega) (by simp;omega) X6 X7 ZF
  split
  ·refine Ok.gen (gV q3 (by omega) (by simp) (by simp)) (fun a s4 _ q4=>?_)
   refine Ok.gen (gV q4 (by omega) (by simp) (by simp)) (fun b s5 _ q5=>?_)
   dsimp only
   refine Ok.app (by simp;omega) ?_
   exact fin q5 (by omega) (by simp;omega) X6 X7 ZF
  split
  ·refine Ok.gen (gV q3 (by omega) (by simp) (by simp)) (fun a s4 _ q4=>?_)
   refine Ok.gen (tz q4 (by omega) (by omega) (by omega)) (fun u s5 hu q5=>?_)
   dsimp only
   refine Ok.idx hu.1 (by simpa using hu.2) (fun ac _ BD=>?_)
   refine Ok.app (by simp;omega) ?_
   refine fin q5 (by omega) ZE ⟨by simp;omega,fun r hr=>?_⟩ X7 ZF
   rcases List.mem_append.1 hr with k | k
   ·exact hB.act r k
   ·rw [List.mem_singleton.1 k]
    simp only [List.mem_cons,List.not_mem_nil,or_false] at BD
    rcases BD with rfl | rfl | rfl | rfl | rfl | rfl<;>exact Ey.of (by simp) rfl
  split
  ·refine Ok.gen (gV q3 (by omega) (by simp) (by simp)) (fun a s4 _ q4=>?_)
   refine Ok.gen (gV q4 (by omega) (by simp) (by simp)) (fun b s5 _ q5=>?_)
   refine Ok.gen (gV q5 (by omega) (by simp) (by simp)) (fun c s6 _ q6=>?_)
   dsimp only
   refine Ok.app (by simp;omega) ?_
   exact fin q6 (by omega) ZE X6 (by simp;omega) ZF
  split
  ·refine Ok.gen (gV q3 (by omega) (by simp) (by simp)) (fun a s4 _ q4=>?_)
   refine Ok.gen (gV q4 (by omega) (by simp) (by simp)) (fun b s5 _ q5=>?_)
   refine Ok.gen (gV q5 (by omega) (by simp) (by simp)) (fun c s6 _ q6=>?_)
   refine Ok.gen (Vw q6 (by omega)) (fun q s7 hq q7=>?_)
   refine Ok.gen (Nk q7 (by omega)) (fun ac s8 BD q8=>?_)
   dsimp only
   have Tj:ru (uo s8) (K - 116 - 1 - 1 - 1 - 1 - 1 - 150 - 1 - 5) (fun _=>True):=by
    refine ru.of ?_
    unfold uo
    refine Ok.gen (mF q8 (by omega) (by simp) (by simp)) (fun f1 t1 _ p1=>?_)
    refine Ok.gen (mF p1 (by omega) (by simp) (by simp)) (fun f2 t2 _ p2=>?_)
    refine Ok.gen (tA p2 (by omega) (by omega) (by omega)) (fun f3 t3 _ p3=>?_)
    dsimp only
    split
    ·refine Ok.gen (mF p3 (by omega) (by simp) (by simp)) (fun f4 t4 _ p4=>?_)
     refine Ok.gen (mF p4 (by omega) (by simp) (by simp)) (fun f5 t5 _ p5=>?_)
     exact Ok.ret ⟨trivial,p5.less (by omega)⟩
    ·exact Ok.ret ⟨trivial,p3.less (by omega)⟩
   refine Ok.gen Tj (fun w s9 _ q9=>?_)
   refine Ok.app (by simp;omega) ?_
   refine fin q9 (by omega) ZE X6 X7 ⟨by simp;omega,fun s hs=>?_⟩
   rcases List.mem_append.1 hs with k | k
   ·exact hB.shr s k
   ·rw [List.mem_singleton.1 k];exact ⟨BD,hq⟩
  split
  ·rename_i yD
   refine Ok.gen (tz q3 (by omega) (by omega) (by omega)) (fun u s4 hu q4=>?_)
   dsimp only
   refine Ok.idx hu.1 (by simpa using hu.2) (fun ac _ BD=>?_)
   refine Ok.idx (by omega) yD (fun x hx Mt=>?_)
   refine fin q4 (by omega) ZE X6 X7 ⟨by simp;omega,fun s hs=>?_⟩
   rcases List.mem_or_eq_of_mem_set hs with k | rfl
   ·exact hB.shr s k
   ·refine ⟨?_,(hB.shr x Mt).2⟩
    simp only [List.mem_cons,List.not_mem_nil,or_false] at BD
    rcases BD with rfl | rfl | rfl<;>exact Ey.of (by simp) rfl
  ·exact fin q3 (by omega) ZE X6 X7 ZF
 ·exact fin q2 (by omega) ZE X6 X7 ZF
theorem S3:∀ a b:List UInt8,a < b↔Lib.compareBytes a b < 0
 | [],[]=>by simp [Lib.compareBytes]
 | [],_ :: _=>by simp [Lib.compareBytes]
 | _ :: _,[]=>by simp [Lib.compareBytes]
 | x :: a,y :: b=>by
   have ih:=S3 a b
   rw [List.cons_lt_cons_iff]
   unfold Lib.compareBytes
   by_cases h:x < y
   ·simp [h]
   ·by_cases h2:y < x
    ·have uc:¬ x=y:=fun e=>by subst e;exact h h2
     simp [h,h2,uc]
    ·have hx:x=y:=by
      rw [UInt8.lt_iff_toNat_lt] at h h2
      exact UInt8.toNat_inj.1 (by omega)
     subst hx
     simp [ih]
theorem JB (a b:List UInt8):a≤b↔¬ Lib.compareBytes b a < 0:=by
 rw [← S3];exact Iff.rfl
def SS (l:List ai):Prop:=l.Pairwise (fun a b=>Lib.compareBytes a b < 0)
theorem vk (l:List ai):(Kx l).Perm l:=List.mergeSort_perm l _
theorem CE (l:List ai):(Kx l).Pairwise (fun a b=>¬ Lib.compareBytes b a < 0):=by
 have h:=List.pairwise_mergeSort (le:=fun x y:ai=>decide (x≤y)) (fun a b c h1 h2=>by
  rw [decide_eq_true_eq,JB] at *
  intro h3
  have n1:=lC a c;have n2:=lC a b;have n3:=lC b c
  rcases Int.lt_trichotomy (Lib.compareBytes a b) 0 with e | e | e
  ·rcases Int.lt_trichotomy (Lib.compareBytes b c) 0 with f | f | f
   ·have:=yg e f;omega
   ·have:=j5 f;subst this;omega
   ·omega
  ·have:=j5 e;subst this;omega
  ·omega) (fun a b=>by
  rw [Bool.or_eq_true,decide_eq_true_eq,decide_eq_true_eq,JB,JB]
  have:=lC a b
  omega) l
 exact h.imp (fun {a b} Ff=>by rw [decide_eq_true_eq,JB] at Ff;exact Ff)
theorem S4:∀ (r:List ai) (p:ai),(p :: r).Pairwise (fun a b=>¬ Lib.compareBytes b a < 0)→SS (p :: M0 Lm p r)∧∀ x,x∈p :: M0 Lm p r↔x∈p :: r
 | [],p=>fun _=>⟨List.pairwise_singleton _ _,fun x=>Iff.rfl⟩
 | y :: r,p=>fun h=>by
   have h1:=List.pairwise_cons.1 h
   have ih:=S4 r y h1.2
   unfold M0
   by_cases e:Lm y p=true
   ·have e':y=p:=of_decide_eq_true e
    subst e'
    rw [if_pos e]
    refine ⟨ih.1,fun x=>?_⟩
    rw [ih.2 x];simp
   ·have e':y≠p:=fun z=>e (decide_eq_true z)
    rw [if_neg e]
    have hpy:Lib.compareBytes p y < 0:=by
     have:=h1.1 y (by simp)
     have hn:=lC p y
     have hz:Lib.compareBytes p y≠0:=fun z=>e' (j5 z).symm
     omega
    refine ⟨List.pairwise_cons.2 ⟨fun z hz=>?_,ih.1⟩,fun x=>?_⟩
    ·rcases List.mem_cons.1 hz with f | f
     ·subst f;exact hpy
     ·exact yg hpy ((List.pairwise_cons.1 ih.1).1 z f)
    ·rw [List.mem_cons,ih.2 x];simp
theorem Oy (l:List ai) (h:l.Pairwise (fun a b=>¬ Lib.compareBytes b a < 0)):SS (dd Lm l)∧∀ x,x∈dd Lm l↔x∈l:=by
 cases l with
 | nil=>exact ⟨List.Pairwise.nil,fun x=>Iff.rfl⟩
 | cons p r=>exact S4 r p h
end Go.Beacon
