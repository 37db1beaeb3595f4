/- Plain facts on what the functions compute. No program in sight. -/
import Derived.Test.YtodkphmmhgkodaaGreatDoorNctP
import Derived.Test.YtodkphmmhgkodaaGreatDoorPlBA
set_option linter.unusedVariables false
set_option linter.unusedSimpArgs false
namespace Go.Beacon
open Go Go.Eng
abbrev vv:=ak
def rI (s:vv) (k:Int):Prop:=0≤s.at_∧s.at_+k≤4611686018427387904
theorem rI.less {s:vv} {k k':Int} (h:rI s k) (hk:k'≤k):rI s k':=⟨h.1,by have:=h.2;omega⟩
def sU {α:Type} (m:Option (α×vv)) (k:Int) (P:α→Prop):Prop:=∃ v s',m=some (v,s')∧P v∧rI s' k
theorem sU.bind {α β:Type} {m:Option (α×vv)} {k k':Int} {P:α→Prop} {Q:β→Prop} {f:α×vv→Option (β×vv)} (h:sU m k P) (hf:∀ v s',P v→rI s' k→sU (f (v,s')) k' Q):sU (m.bind f) k' Q:=by
 obtain ⟨v,s',rfl,h1,h2⟩:=h
 exact hf v s' h1 h2
theorem sU.ret {α:Type} {v:α} {s:vv} {k:Int} {P:α→Prop} (h1:P v) (h2:rI s k):sU (some (v,s)) k P:=⟨v,s,rfl,h1,h2⟩
theorem Cb (x:Int) {n:Int} (h1:1≤n) (h2:n≤4611686018427387904):∃ v,Below x n=some v∧0≤v∧v < n:=by
 unfold Below vS
 rw [if_neg (by omega),Pr (by omega)]
 have a1:=Int.lt_tmod_of_pos x (show 0 < n by omega)
 have a2:=Int.tmod_lt_of_pos x (show 0 < n by omega)
 simp only [Option.bind_some]
 split
 ·exact ⟨_,rfl,by rw [aU]<;>omega,by rw [aU]<;>omega⟩
 ·exact ⟨_,rfl,by omega,by omega⟩
theorem yQ {s:vv} {n k:Int} (hs:rI s (k+1)) (h1:1≤n) (h2:n≤4611686018427387904) (hk:0≤k):sU (dH s n) k (fun v=>0≤v∧v < n):=by
 obtain ⟨a1,a2⟩:=hs
 have e1:aL (s.at_+1)=s.at_+1:=by rw [aU]<;>omega
 have e2:aL (s.at_+1 - 1)=s.at_:=by rw [aU]<;>omega
 unfold dH
 split
 ·obtain ⟨v,hv,h3,h4⟩:=Cb (aL (aL (s.at_+1) * 7919)) h1 h2
  rw [hv]
  exact sU.ret ⟨h3,h4⟩ ⟨by show 0≤aL (s.at_+1);omega,by show aL (s.at_+1)+k≤_;omega⟩
 ·rename_i hl
  have x4:(0:Int) < s.L.length:=by omega
  rw [e1,e2,Nk x4 a1,KV (by omega)]
  simp only [Option.bind_some]
  obtain ⟨x,hx,_,_⟩:=jY s.L (i:=s.at_ % s.L.length) (Int.emod_nonneg _ (by omega)) (Int.emod_lt_of_pos _ x4)
  rw [hx]
  simp only [Option.bind_some]
  obtain ⟨u,hu,_,_⟩:=Cb x (n:=1073741824) (by omega) (by omega)
  rw [hu]
  simp only [Option.bind_some]
  obtain ⟨v,hv,h3,h4⟩:=Cb (aL (u+aL (aL (s.at_.tdiv s.L.length) * aL (7919+s.at_ % s.L.length)))) h1 h2
  rw [hv]
  exact sU.ret ⟨h3,h4⟩ ⟨by simp only;omega,by simp only;omega⟩
theorem HU {s:vv} {l:List Int} {k:Int} (hs:rI s (k+1)) (h1:l≠[]) (h2:l.length≤1000) (hk:0≤k):sU (bU s l) k (fun v=>v∈l):=by
 unfold bU
 have hl:0 < l.length:=List.length_pos_iff.2 h1
 refine sU.bind (yQ hs (by omega) (by omega) hk) (fun v s' hv xj=>?_)
 obtain ⟨x,hx,hm,_⟩:=jY l hv.1 hv.2
 simp only [hx,Option.bind_some]
 exact sU.ret hm xj
theorem FZ {s:vv} {a b k:Int} (hs:rI s (k+1)) (Bw:a≤b) (ha:-1152921504606846976≤a) (hb:b≤1152921504606846976) (hk:0≤k):sU (ko s a b) k (fun v=>a≤v∧v≤b):=by
 unfold ko
 have e1:aL (b - a)=b - a:=by rw [aU]<;>omega
 have e2:aL (b - a+1)=b - a+1:=by rw [aU]<;>omega
 rw [if_neg (by omega),e1,e2]
 refine sU.bind (yQ hs (by omega) (by omega) hk) (fun v s' hv xj=>?_)
 refine sU.ret ?_ xj
 simp only
 rw [aU]<;>omega
theorem HV {s:vv} {n k:Int} (hs:rI s (k+1)) (h1:1≤n) (h2:n≤4611686018427387904) (hk:0≤k):sU (fx s n) k (fun _=>True):=by
 unfold fx
 exact sU.bind (yQ hs h1 h2 hk) (fun v s' hv xj=>sU.ret trivial xj)
theorem En {l:List Int} {v lo hi:Int} (h:v∈l) (hl:l.all (fun x=>decide (lo≤x∧x≤hi))=true):lo≤v∧v≤hi:=by
 rw [List.all_eq_true] at hl
 simpa using hl v h
theorem Nr {s:vv} {l:List bO} {k:Int} (hs:rI s (k+1)) (h1:l≠[]) (h2:l.length≤1000) (hk:0≤k):sU (dI s l) k (fun v=>v∈l):=by
 unfold dI
 have hl:0 < l.length:=List.length_pos_iff.2 h1
 refine sU.bind (yQ hs (by omega) (by omega) hk) (fun v s' hv xj=>?_)
 obtain ⟨x,hx,hm,_⟩:=jY l hv.1 hv.2
 simp only [hx,Option.bind_some]
 exact sU.ret hm xj
theorem Px {s:vv} {a b k:Int} (hs:rI s (k+2)) (Bw:a≤b) (ha:-1099511627776≤a) (hb:b≤1099511627776) (hk:0≤k):sU (oV s a b) k (fun v=>-1099511627777≤v∧v≤1099511627777):=by
 unfold oV
 refine sU.bind (HV (k:=k+1) (hs.less (by omega)) (by omega) (by omega) (by omega)) (fun v s' hv xj=>?_)
 simp only
 split
 ·refine sU.bind (HU xj (by simp) (by simp) hk) (fun v s' hv xj=>sU.ret ?_ xj)
  have e1:aL (a - 1)=a - 1:=by rw [aU]<;>omega
  have e2:aL (b+1)=b+1:=by rw [aU]<;>omega
  rw [e1,e2] at hv
  simp only [List.mem_cons,List.not_mem_nil,or_false] at hv
  simp only;omega
 ·refine sU.bind (FZ xj Bw (by omega) (by omega) hk) (fun v s' hv xj=>sU.ret ?_ xj)
  simp only;omega
theorem xW (n lo hi:Int):mq n lo hi=(decide (n < lo)||decide (hi < n)):=rfl
theorem zM (n lo hi:Int):xc n lo hi=(decide (lo≤n)&&decide (n≤hi)):=rfl
def Ns (n:Nat):Bool:=(decide (97≤n)&&decide (n≤122))||(decide (48≤n)&&decide (n≤57))||decide (n=45)||decide (n=95)
def gJ:bO→Bool
 | []=>false
 | c :: r=>decide ((c :: r).length≤40)&&(decide (97≤c.toNat)&&decide (c.toNat≤122))&&(c :: r).all (fun c=>Ns c.toNat)
theorem wV (c:UInt8) (r:bO):gJ (c :: r)=(decide ((c :: r).length≤40)&&(decide (97≤c.toNat)&&decide (c.toNat≤122))&&(c :: r).all (fun c=>Ns c.toNat)):=rfl
theorem K3 (s:bO) (hl:s.length≤40):vW s 0=some (s.all (fun c=>Ns c.toNat)):=by
 unfold vW
 rw [uo s (fun x:Int=>nu s x) (fun c=>if Ns c.toNat=true then none else some false) true (by omega),B5]
 ·intro i c h0 h1 hc
  have hB:(if (97:Int)≤(c.toNat:Int) then if (c.toNat:Int)≤(122:Int) then !true else if (48:Int)≤(c.toNat:Int) then if (c.toNat:Int)≤(57:Int) then !true else if (c.toNat:Int)=(45:Int) then !true else decide (¬ ((c.toNat:Int)=(95:Int))) else if (c.toNat:Int)=(45:Int) then !true else decide (¬ ((c.toNat:Int)=(95:Int))) else if (48:Int)≤(c.toNat:Int) then if (c.toNat:Int)≤(57:Int) then !true else if (c.toNat:Int)=(45:Int) then !true else decide (¬ ((c.toNat:Int)=(95:Int))) else if (c.toNat:Int)=(45:Int) then !true else decide (¬ ((c.toNat:Int)=(95:Int))))=!Ns c.toNat:=by
   unfold Ns
   rw [Bool.eq_iff_iff]
   repeat' split
   all_goals simp
   all_goals omega
  rw [nu,if_pos h1,hc]
  simp only [Option.bind_some]
  rw [hB]
  unfold ti
  rw [aU (by omega) (by omega)]
  cases Ns c.toNat<;>rfl
 ·rw [nu,if_neg (by omega)];rfl
theorem tL (s:bO):jC s=some (gJ s):=by
 unfold jC nv
 cases s with
 | nil=>simp [gJ]
 | cons c r=>
   rw [if_neg (by simp)]
   have hc:idx (c :: r) 0=some c:=rfl
   rw [hc]
   simp only [Option.bind_some]
   by_cases hl:(c :: r).length≤40
   ·rw [if_neg (by omega),K3 _ hl,wV]
    by_cases h1:(c.toNat:Int) < 97
    ·rw [if_pos h1]
     have:decide (97≤c.toNat)=false:=by simp;omega
     rw [this];simp
    ·rw [if_neg h1]
     have e1:decide (97≤c.toNat)=true:=by simp;omega
     by_cases h2:(122:Int) < c.toNat
     ·rw [if_pos (by simpa using h2)]
      have:decide (c.toNat≤122)=false:=by simp;omega
      rw [this];simp
     ·rw [if_neg (by simpa using h2)]
      have:decide (c.toNat≤122)=true:=by simp;omega
      rw [e1,this,decide_eq_true hl];simp
   ·rw [if_pos (by omega),wV,decide_eq_false hl];simp
theorem I5:∀ n:Fin 256,decide (UInt8.ofNat n.val∈([97,98,99,100,101,102,103,104,105,106,107,108,109,110,111,112,113,114,115,116,117,118,119,120,121,122,48,49,50,51,52,53,54,55,56,57,45,95]:List UInt8))=Ns n.val:=by decide+kernel
theorem Nt:∀ n:Fin 256,decide (UInt8.ofNat n.val∈([97,98,99,100,101,102,103,104,105,106,107,108,109,110,111,112,113,114,115,116,117,118,119,120,121,122]:List UInt8))=(decide (97≤n.val)&&decide (n.val≤122)):=by decide+kernel
theorem K4 {p:UInt8→Bool} {q:Nat→Bool} (h:∀ n:Fin 256,p (UInt8.ofNat n.val)=q n.val) (c:UInt8):p c=q c.toNat:=by
 have:=h ⟨c.toNat,c.toNat_lt⟩
 simpa using this
theorem nK (a b:Int):cmp_Compare_int a b=sL a b:=by
 unfold cmp_Compare_int cmp_isNaN_int sL;simp
theorem Dy (n:Int):jo n=(decide (0≤n)&&decide (n≤345686399999)):=by
 unfold jo
 rw [xW,Bool.eq_iff_iff]
 simp
theorem K5 {S A:Type} (f:S→Option (S⊕A)) (m:S→Nat) (Inv:S→Prop) (R:A→Prop)
 (h:∀ s,Inv s→(∃ s',f s=some (.inl s')∧Inv s'∧m s' < m s)∨(∃ a,f s=some (.inr a)∧R a)):∀ s,Inv s→∃ a,iter f s=some a∧R a:=by
 have key:∀ (n:Nat) s,m s≤n→Inv s→∃ a,iter f s=some a∧R a:=by
  intro n
  induction n with
  | zero=>
    intro s hm hi
    rcases h s hi with ⟨s',_,_,h3⟩ | ⟨a,h1,h2⟩
    ·omega
    ·exact ⟨a,by rw [iter_eq,h1];rfl,h2⟩
  | succ n ih=>
    intro s hm hi
    rcases h s hi with ⟨s',h1,h2,h3⟩ | ⟨a,h1,h2⟩
    ·obtain ⟨a,h4,h5⟩:=ih s' (by omega) h2
     exact ⟨a,by rw [iter_eq,h1];simpa using h4,h5⟩
    ·exact ⟨a,by rw [iter_eq,h1];rfl,h2⟩
 exact fun s hi=>key (m s) s (Nat.le_refl _) hi
theorem Nu {a b:Int} (hb:0 < b) (ha:-9000000000000000000≤a∧a≤9000000000000000000):-9000000000000000000≤a.tdiv b∧a.tdiv b≤9000000000000000000:=by
 rcases Int.le_total 0 a with h | h
 ·rw [Int.tdiv_eq_ediv_of_nonneg h]
  have:=Int.ediv_nonneg h (Int.le_of_lt hb);have:=Int.ediv_le_self b h;omega
 ·have e:a.tdiv b=-((-a) / b):=by rw [← Int.tdiv_eq_ediv_of_nonneg (by omega),Int.neg_tdiv];omega
  rw [e]
  have:=Int.ediv_nonneg (a:=-a) (by omega) (Int.le_of_lt hb);have:=Int.ediv_le_self b (a:=-a) (by omega);omega
theorem K6 (xs:List Int) (h:(xs.length:Int)≤4611686018427387904):uJ xs=some (o6 xs):=uL xs h
theorem wW {α:Type} (p:α→Bool):∀ l:List α,l.dropWhile p=[]↔l.all p=true
 | []=>by simp
 | x :: r=>by
   rw [List.dropWhile_cons]
   cases h:p x with
   | true=>simp only [if_true,List.all_cons,h,Bool.true_and];exact wW p r
   | false=>simp [h]
theorem Dz (l cs:bO):Lib.trimS l cs=[]↔l.all (fun c=>decide (c∈cs))=true:=by
 have hc:∀ c:UInt8,cs.contains c=decide (c∈cs):=fun c=>by rw [Bool.eq_iff_iff];simp
 unfold Lib.trimS Lib.trimLeftS Lib.trimRightS
 rw [wW,List.all_reverse]
 constructor
 ·intro h
  have hd:(l.reverse.dropWhile (cs.contains ·))=[]:=by
   cases hh:l.reverse.dropWhile (cs.contains ·) with
   | nil=>rfl
   | cons a b=>
     have h1:=List.head?_dropWhile_not (fun c=>cs.contains c) l.reverse
     rw [hh] at h h1
     simp only [List.head?_cons] at h1
     simp only [List.all_cons,Bool.and_eq_true] at h
     rw [h.1] at h1;simp at h1
  rw [wW,List.all_reverse] at hd
  simpa [hc] using hd
 ·intro h
  have hd:l.reverse.dropWhile (cs.contains ·)=[]:=by
   rw [wW,List.all_reverse];simpa [hc] using h
  rw [hd];rfl
theorem K7 {s cs:bO} (h1:s.length≤100000) (h2:cs.length≤100000) (h3:cs.all (fun b=>decide (b.toNat < 128))=true):FA s cs=some (Lib.trimS s cs):=by
 unfold FA;rw [if_pos ⟨by omega,by omega,h3⟩]
theorem wq (s:bO):ub s=some (gJ s):=by
 unfold ub ua
 rw [zM]
 cases s with
 | nil=>rfl
 | cons c r=>
   by_cases hl:(c :: r).length≤40
   ·rw [if_pos (by simp;simp at hl;omega),K7 (by omega) (by simp) (by decide)]
    simp only [Option.bind_some]
    have e:(c :: r).all (fun c=>decide (c∈([97,98,99,100,101,102,103,104,105,106,107,108,109,110,111,112,113,114,115,116,117,118,119,120,121,122,48,49,50,51,52,53,54,55,56,57,45,95]:List UInt8)))=(c :: r).all (fun c=>Ns c.toNat):=by
     congr 1;funext c
     exact K4 (p:=fun c=>decide (c∈([97,98,99,100,101,102,103,104,105,106,107,108,109,110,111,112,113,114,115,116,117,118,119,120,121,122,48,49,50,51,52,53,54,55,56,57,45,95]:List UInt8))) I5 c
    have e2:=K4 (p:=fun c=>decide (c∈([97,98,99,100,101,102,103,104,105,106,107,108,109,110,111,112,113,114,115,116,117,118,119,120,121,122]:List UInt8))) (q:=fun n=>decide (97≤n)&&decide (n≤122)) Nt c
    rw [wV,decide_eq_true hl,Bool.true_and,← e,← e2]
    by_cases ht:Lib.trimS (c :: r) ([97,98,99,100,101,102,103,104,105,106,107,108,109,110,111,112,113,114,115,116,117,118,119,120,121,122,48,49,50,51,52,53,54,55,56,57,45,95]:bO)=[]
    ·rw [if_pos ht,(Dz _ _).1 ht,Bool.and_true]
     have i0:idx (c :: r) 0=some c:=rfl
     rw [i0]
     simp only [Option.bind_some,uI,VY]
     congr 1
     have:=ur ([97,98,99,100,101,102,103,104,105,106,107,108,109,110,111,112,113,114,115,116,117,118,119,120,121,122]:List UInt8) c
     rw [decide_eq_decide]
     constructor
     ·intro h;exact Classical.byContradiction fun h'=>by have:=this.2 h';omega
     ·intro h;have h':=mt this.1 (fun h'=>h' h);omega
    ·rw [if_neg ht]
     have:(c :: r).all (fun c=>decide (c∈([97,98,99,100,101,102,103,104,105,106,107,108,109,110,111,112,113,114,115,116,117,118,119,120,121,122,48,49,50,51,52,53,54,55,56,57,45,95]:List UInt8)))=false:=by
      rw [← Bool.not_eq_true];exact fun h=>ht ((Dz _ _).2 h)
     rw [this,Bool.and_false]
   ·rw [if_neg (by simp;simp at hl;omega),wV,decide_eq_false hl];rfl
theorem F0 (n:Int):iz n=if 0≤n∧n≤345686399999 then 0 else 1:=by
 unfold iz
 rw [zM]
 by_cases h:0≤n∧n≤345686399999
 ·rw [if_pos h,if_neg (by simp;omega)]
 ·rw [if_neg h,if_pos (by simp;omega)]
theorem xX {s:vv} {n K:Int} (hs:rI s K) (hK:1≤K) (h1:1≤n) (h2:n≤4611686018427387904):sU (dH s n) (K - 1) (fun v=>0≤v∧v < n):=
 yQ (hs.less (by omega)) h1 h2 (by omega)
theorem wu {s:vv} {n K:Int} (hs:rI s K) (hK:1≤K) (h1:1≤n) (h2:n≤4611686018427387904):sU (fx s n) (K - 1) (fun _=>True):=
 HV (hs.less (by omega)) h1 h2 (by omega)
theorem lU {s:vv} {l:List Int} {K:Int} (hs:rI s K) (hK:1≤K) (h1:l≠[]) (h2:l.length≤1000):sU (bU s l) (K - 1) (fun v=>v∈l):=
 HU (hs.less (by omega)) h1 h2 (by omega)
theorem HW {s:vv} {a b K:Int} (hs:rI s K) (hK:1≤K) (Bw:a≤b) (ha:-1152921504606846976≤a) (hb:b≤1152921504606846976):sU (ko s a b) (K - 1) (fun v=>a≤v∧v≤b):=
 FZ (hs.less (by omega)) Bw ha hb (by omega)
theorem sM {s:vv} {l:List bO} {K:Int} (hs:rI s K) (hK:1≤K) (h1:l≠[]) (h2:l.length≤1000):sU (dI s l) (K - 1) (fun v=>v∈l):=
 Nr (hs.less (by omega)) h1 h2 (by omega)
theorem Om {s:vv} {a b K:Int} (hs:rI s K) (hK:2≤K) (Bw:a≤b) (ha:-1099511627776≤a) (hb:b≤1099511627776):sU (oV s a b) (K - 2) (fun v=>-1099511627777≤v∧v≤1099511627777):=
 Px (hs.less (by omega)) Bw ha hb (by omega)
def Ok {α:Type} (m:Option α) (Q:α→Prop):Prop:=∃ r,m=some r∧Q r
theorem Ok.ret {α:Type} {v:α} {Q:α→Prop} (h:Q v):Ok (some v) Q:=⟨v,rfl,h⟩
theorem Ok.mono {α:Type} {m:Option α} {P Q:α→Prop} (h:Ok m P) (hp:∀ v,P v→Q v):Ok m Q:=by
 obtain ⟨r,h1,h2⟩:=h;exact ⟨r,h1,hp r h2⟩
theorem Ok.inr {α β:Type} {m:Option β} {Q:α⊕β→Prop} (h:Ok m (fun r=>Q (.inr r))):Ok (Option.map .inr m) Q:=by
 obtain ⟨r,rfl,h2⟩:=h;exact ⟨_,rfl,h2⟩
theorem Ok.gen {α β:Type} {m:Option (α×vv)} {k:Int} {P:α→Prop} {f:α×vv→Option β} {Q:β→Prop} (h:sU m k P) (hf:∀ v s',P v→rI s' k→Ok (f (v,s')) Q):Ok (m.bind f) Q:=by
 obtain ⟨v,s',rfl,h1,h2⟩:=h;exact hf v s' h1 h2
theorem sU.of {α:Type} {m:Option (α×vv)} {k:Int} {P:α→Prop} (h:Ok m (fun r=>P r.1∧rI r.2 k)):sU m k P:=by
 obtain ⟨⟨v,s⟩,h1,h2,h3⟩:=h;exact ⟨v,s,h1,h2,h3⟩
theorem Ok.idx {α β:Type} {xs:List α} {i:Int} {f:α→Option β} {Q:β→Prop} (h0:0≤i) (h1:i < xs.length) (hf:∀ x,idx xs i=some x→x∈xs→Ok (f x) Q):Ok ((idx xs i).bind f) Q:=by
 obtain ⟨x,hx,hm,_⟩:=jY xs h0 h1
 rw [hx];exact hf x hx hm
theorem Ok.app {α β:Type} {xs ys:List α} {f:List α→Option β} {Q:β→Prop} (h:xs.length+ys.length≤1000000000) (hf:Ok (f (xs++ys)) Q):Ok ((app xs ys).bind f) Q:=by
 rw [mh h];exact hf
abbrev Sg {S A:Type} (m:S→Nat) (Inv:S→Prop) (R:A→Prop) (s:S):S⊕A→Prop
 | .inl s'=>Inv s'∧m s' < m s
 | .inr a=>R a
theorem Ok.iter {S A:Type} {f:S→Option (S⊕A)} {R:A→Prop} (m:S→Nat) (Inv:S→Prop)
 (h:∀ s,Inv s→Ok (f s) (Sg m Inv R s)) (s:S) (hs:Inv s):Ok (iter f s) R:=by
 refine K5 f m Inv R (fun s hi=>?_) s hs
 obtain ⟨r,h1,h2⟩:=h s hi
 cases r with
 | inl s'=>exact .inl ⟨s',h1,h2.1,h2.2⟩
 | inr a=>exact .inr ⟨a,h1,h2⟩
theorem zN {S A:Type} {f g:S→Option (S⊕A)} (h:∀ s,f s=g s) (s:S):iter f s=iter g s:=by rw [funext h]
theorem uO {α σ A X:Type} (xs:List α) (mk:σ→Int→X) (f:X→Option (X⊕A)) (DA:σ→α→σ) (Inv:Int→σ→Prop) (E:σ→Option A)
 (h1:∀ s (i:Int) x,0≤i→i < xs.length→idx xs i=some x→Inv i s→f (mk s i)=some (.inl (mk (DA s x) (i+1)))∧Inv (i+1) (DA s x))
 (h2:∀ s,Inv xs.length s→f (mk s xs.length)=Option.map .inr (E s)) (s:σ) (h0:Inv 0 s):iter f (mk s 0)=E (xs.foldl DA s):=by
 have key:∀ (n:Nat) (s:σ) (i:Int),0≤i→i+n=xs.length→Inv i s→iter f (mk s i)=E ((xs.drop i.toNat).foldl DA s):=by
  intro n
  induction n with
  | zero=>
    intro s i hi hn hv
    have:i=xs.length:=by omega
    subst this
    rw [iter_eq,h2 s hv,bV]
    simp
  | succ n ih=>
    intro s i hi hn hv
    obtain ⟨x,hx,_,hd⟩:=jY xs hi (by omega)
    obtain ⟨e1,e2⟩:=h1 s i x hi (by omega) hx hv
    rw [iter_eq,e1]
    simp only [Option.bind_some,cK]
    rw [ih _ _ (by omega) (by omega) e2,hd]
    rfl
 have:=key xs.length s 0 (by omega) (by omega) h0
 simpa using this
abbrev I6 {A:Type} (N:Nat) (Inv:Int→Prop) (R:A→Prop) (i:Int):Int⊕A→Prop
 | .inl j=>j=i+1∧i < N∧Inv (i+1)
 | .inr a=>R a
theorem Ok.GY {A:Type} {f:Int→Option (Int⊕A)} {R:A→Prop} (N:Nat) (Inv:Int→Prop) (h0:Inv 0) (h:∀ i:Int,0≤i→i≤N→Inv i→Ok (f i) (I6 N Inv R i)):Ok (Eng.iter f 0) R:=by
 refine Ok.iter (fun i:Int=>N+1 - i.toNat) (fun i:Int=>(0≤i∧i≤N)∧Inv i) (fun i hi=>?_) 0 ⟨⟨by omega,by omega⟩,h0⟩
 refine (h i hi.1.1 hi.1.2 hi.2).mono (fun r hr=>?_)
 cases r with
 | inl j=>
   simp only [Sg,I6] at hr ⊢
   obtain ⟨rfl,h2,h3⟩:=hr
   exact ⟨⟨by omega,h3⟩,by omega⟩
 | inr a=>exact hr
theorem take_succ {α:Type} {xs:List α} {i:Int} {x:α} (h0:0≤i) (h:idx xs i=some x):xs.take (i+1).toNat=xs.take i.toNat++[x]:=by
 obtain ⟨_,h1,h2⟩:=fg h
 rw [show (i+1).toNat=i.toNat+1 by omega,List.take_add_one,h2];rfl
theorem Ok.K8 {σ A X:Type} {f:X→Option (X⊕A)} {R:A→Prop} (N:Nat) (mk:σ→Int→X) (Inv:Int→σ→Prop)
 (h:∀ s (i:Int),0≤i→i≤N→Inv i s→Ok (f (mk s i)) (fun r=>(∃ s',r=.inl (mk s' (i+1))∧i < N∧Inv (i+1) s')∨∃ a,r=.inr a∧R a)) (s:σ) (h0:Inv 0 s):Ok (Eng.iter f (mk s 0)) R:=by
 have key:∀ (k:Nat) (s:σ) (i:Int),0≤i→i≤N→i+k=N+1→Inv i s→Ok (Eng.iter f (mk s i)) R:=by
  intro k
  induction k with
  | zero=>
    intro s i hi hN hk hv
    omega
  | succ k ih=>
    intro s i hi hN hk hv
    obtain ⟨r,h1,h2⟩:=h s i hi hN hv
    rw [iter_eq,h1]
    rcases h2 with ⟨s',rfl,h3,h4⟩ | ⟨a,rfl,h3⟩
    ·simp only [Option.bind_some,cK]
     exact ih s' (i+1) (by omega) (by omega) (by omega) h4
    ·exact ⟨a,rfl,h3⟩
 exact key (N+1) s 0 (by omega) (by omega) (by omega) h0
theorem Cc (x:Int) (r:List Int):o6 (x :: r)=if x≠0 then x else o6 r:=rfl
theorem nI.or {α:Type} {c:α→α→Int} {f:α→α→List Int} (h:nI c) (k:nI fun a b=>o6 (f a b)):nI fun a b=>o6 (c a b :: f a b):=h.lex k
theorem nI.TP {α:Type}:nI (fun (_ _:α)=>o6 []):=⟨fun _ _=>rfl,fun h _=>absurd h (by simp [o6]),fun _ h=>absurd h (by simp [o6])⟩
theorem jQ:∀ {l:List Int},o6 l=0→∀ x∈l,x=0
 | [],_,x,hx=>by simp at hx
 | y :: r,h,x,hx=>by
   rw [Cc] at h
   by_cases h0:y=0
   ·rw [if_neg (by simpa using h0)] at h
    rcases List.mem_cons.1 hx with rfl | hx
    ·exact h0
    ·exact jQ h x hx
   ·rw [if_pos h0] at h;exact absurd h h0
def vo {α:Type} [DecidableEq α] (acc:List α) (x:α):List α:=if x∈acc then acc else acc++[x]
theorem GZ {α:Type} [DecidableEq α] {acc:List α} {x:α} (h:acc.Nodup):(vo acc x).Nodup:=by
 unfold vo
 split
 ·exact h
 ·rename_i hx
  exact List.nodup_append.2 ⟨h,by simp,fun a ha b hb=>by rw [List.mem_singleton.1 hb];exact fun e=>hx (e▸ha)⟩
theorem K9 {α:Type} [DecidableEq α] {acc:List α} {x y:α}:y∈vo acc x↔y∈acc∨y=x:=by
 unfold vo
 split
 ·rename_i hx
  exact ⟨.inl,fun h=>h.elim id fun e=>e▸hx⟩
 ·simp
theorem La {α:Type} [DecidableEq α] (acc:List α) (x:α):(vo acc x).length≤acc.length+1:=by
 unfold vo;split<;>simp
theorem uP {α:Type} [DecidableEq α]:∀ (r acc:List α),acc.Nodup→(r.foldl vo acc).Nodup∧(∀ y,y∈r.foldl vo acc↔y∈acc∨y∈r)∧(r.foldl vo acc).length≤acc.length+r.length
 | [],acc,h=>⟨h,fun y=>by simp,by simp⟩
 | x :: r,acc,h=>by
   obtain ⟨i1,i2,i3⟩:=uP r (vo acc x) (GZ h)
   have:=La acc x
   refine ⟨i1,fun y=>?_,by simp only [List.foldl_cons,List.length_cons];omega⟩
   rw [List.foldl_cons,i2 y,K9];simp [or_assoc]
theorem Cd {α:Type} {st:Option α→α→Int}:∀ (xs:List α) (p:Option α),Ca st p xs=0→∀ (i:Nat) x,xs[i]? =some x→st (if i=0 then p else xs[i - 1]?) x=0
 | [],_,_,i,x,h=>by simp at h
 | s :: r,p,h,i,x,hx=>by
   simp only [Ca] at h
   split at h
   ·rename_i h0
    match i with
    | 0=>simp at hx;subst hx;exact h0
    | i+1=>
      have:=Cd r (some s) h i x (by simpa using hx)
      rw [if_neg (by omega)]
      match i with
      | 0=>simpa using this
      | i+1=>simpa using this
   ·exact absurd h ‹_›
theorem zO {α:Type} {c:α→α→Int} (hc:nI c):∀ xs:List α,(∀ (i:Nat) x y,xs[i]? =some x→xs[i+1]? =some y→c x y < 0)→xs.Pairwise (fun a b=>c a b < 0)
 | [],_=>.nil
 | [x],_=>by simp
 | x :: y :: r,h=>by
   have ih:=zO hc (y :: r) (fun i a b h1 h2=>h (i+1) a b (by simpa using h1) (by simpa using h2))
   have Gn:=h 0 x y rfl rfl
   refine List.pairwise_cons.2 ⟨fun z hz=>?_,ih⟩
   rcases List.mem_cons.1 hz with rfl | hz
   ·exact Gn
   ·exact hc.tr Gn ((List.pairwise_cons.1 ih).1 z hz)
theorem Lb {α:Type} {c:α→α→Int} (hc:nI c) {xs:List α} (h:xs.Pairwise (fun a b=>c a b < 0)):tx c xs:=h.imp fun {a b} Bw hba=>by have:=hc.neg a b;omega
theorem yR {α:Type} {c:α→α→Int} (hc:nI c) {xs:List α} (h:xs.Pairwise (fun a b=>c a b < 0)):xs.Nodup:=h.imp fun {a b} Bw e=>by subst e;have:=hc.zero a;omega
def sO (a b:Signal):Int:=o6 [sL a.At b.At,Lib.compareBytes a.Device b.Device,Lib.compareBytes a.bg b.bg,sL a.Kind b.Kind]
theorem Nv:nI sO:=(B9.on Signal.At).or ((uN.on Signal.Device).or ((uN.on Signal.bg).or ((B9.on Signal.Kind).or .TP)))
theorem Eo (a b:Signal):nx a b=some (sO a b):=by
 unfold nx
 rw [nK,nK]
 have h:eM [sL a.At b.At,Lib.compareBytes a.Device b.Device,Lib.compareBytes a.bg b.bg,sL a.Kind b.Kind]=some (sO a b):=uL _ (by simp)
 rw [h];rfl
theorem sN (a b:Signal):jm a b=some (sO a b):=by
 unfold jm
 rw [nK,nK]
 have h:eM [sL a.At b.At,Lib.compareBytes a.Device b.Device,Lib.compareBytes a.bg b.bg,sL a.Kind b.Kind]=some (sO a b):=uL _ (by simp)
 rw [h];rfl
def Ep (x:Signal):Prop:=(-4398046511104≤x.At∧x.At≤4398046511104)∧(-4398046511104≤x.bu∧x.bu≤4398046511104)
def F1 (n:Int):Bool:=decide (0≤n)&&decide (n≤345686399999)
def Aj (s:Signal):Int:=
 if F1 s.At=false then 1 else if (gJ s.Device&&gJ s.bg)=false then 5 else if s.Kind < 1∨5 < s.Kind then 4 else if 3≤s.Kind∧gJ s.By=false then 5 else if ¬ 3≤s.Kind∧s.By≠[] then 3
 else if s.Kind=4∧(s.bu < s.At+1∨s.At+2592000000 < s.bu∨345686400000 < s.bu) then 1 else if ¬ s.Kind=4∧s.bu≠0 then 3 else 0
def xY (prev:Option Signal) (s:Signal):Int:=if Aj s≠0 then Aj s else match prev with
 | none=>0
 | some p=>if sO s p≤0 then 7 else 0
def pj (xs:List Signal):Int:=if (5000:Int) < xs.length then 2 else Ca xY none xs
theorem Ce {s:Signal} (hB:Ep s):kL s=some (Aj s):=by
 unfold Ep at hB
 unfold kL Aj
 rw [Dy,show (decide (0≤s.At)&&decide (s.At≤345686399999))=F1 s.At from rfl]
 simp only [tL,Option.bind_some]
 cases hm:F1 s.At
 ·simp
 ·simp only [Bool.not_true,Bool.false_eq_true,if_false,Bool.true_eq_false]
  have key:gd s (!(gJ s.Device&&gJ s.bg))=some (if (gJ s.Device&&gJ s.bg)=false then 5 else if s.Kind < 1∨5 < s.Kind then 4 else if 3≤s.Kind∧gJ s.By=false then 5 else if ¬ 3≤s.Kind∧s.By≠[] then 3
   else if s.Kind=4∧(s.bu < s.At+1∨s.At+2592000000 < s.bu∨345686400000 < s.bu) then 1 else if ¬ s.Kind=4∧s.bu≠0 then 3 else 0):=by
   unfold gd
   cases hk:(gJ s.Device&&gJ s.bg)
   ·simp
   ·simp only [Bool.not_true,Bool.false_eq_true,if_false,Bool.true_eq_false]
    rw [xW,tL]
    simp only [Option.bind_some]
    by_cases h3:s.Kind < 1∨5 < s.Kind
    ·rw [if_pos h3,if_pos (by simp only [Bool.or_eq_true,decide_eq_true_eq];exact h3)]
    ·rw [if_neg h3,if_neg (by simp only [Bool.or_eq_true,decide_eq_true_eq];exact h3)]
     have j2:∀ c:Bool,c=decide (3≤s.Kind∧gJ s.By=false)→gb s c=some (if 3≤s.Kind∧gJ s.By=false then 5 else if ¬ 3≤s.Kind∧s.By≠[] then 3
      else if s.Kind=4∧(s.bu < s.At+1∨s.At+2592000000 < s.bu∨345686400000 < s.bu) then 1 else if ¬ s.Kind=4∧s.bu≠0 then 3 else 0):=by
      rintro c rfl
      unfold gb kK kJ kI
      rw [aU (by omega) (by omega),aU (by omega) (by omega),xW]
      by_cases h4:3≤s.Kind∧gJ s.By=false
      ·rw [if_pos h4,decide_eq_true h4,if_pos rfl]
      ·rw [if_neg h4,decide_eq_false h4,if_neg Bool.false_ne_true]
       by_cases h5:¬ 3≤s.Kind∧s.By≠[]
       ·rw [if_pos h5,if_pos (by simp only [Bool.and_eq_true,decide_eq_true_eq];exact h5)]
       ·rw [if_neg h5,if_neg (by simp only [Bool.and_eq_true,decide_eq_true_eq];exact h5)]
        by_cases h6:s.Kind=4∧(s.bu < s.At+1∨s.At+2592000000 < s.bu∨345686400000 < s.bu)
        ·rw [if_pos h6,if_pos (by simp only [Bool.and_eq_true,Bool.or_eq_true,decide_eq_true_eq];omega)]
        ·rw [if_neg h6,if_neg (by simp only [Bool.and_eq_true,Bool.or_eq_true,decide_eq_true_eq];omega)]
         by_cases h7:¬ s.Kind=4∧s.bu≠0
         ·rw [if_pos h7,if_pos (by simp only [Bool.and_eq_true,decide_eq_true_eq];exact h7)]
         ·rw [if_neg h7,if_neg (by simp only [Bool.and_eq_true,decide_eq_true_eq];exact h7)]
     by_cases h4:3≤s.Kind
     ·rw [if_pos h4];exact j2 _ (by cases gJ s.By<;>simp [h4])
     ·rw [if_neg h4];exact j2 _ (by simp [h4])
  cases hd:gJ s.Device
  ·rw [hd] at key;simpa using key
  ·rw [hd] at key;simpa using key
theorem vc {xs:List Signal} (hB:∀ x∈xs,Ep x):ic xs=some (pj xs):=by
 unfold ic pj
 split
 ·rfl
 ·rename_i hl
  unfold qd
  refine FY xY xs _ (fun {i s} h0 h1 hs=>?_) (by show db xs _=_;rw [db,if_neg (by omega)];rfl)
  show db xs i=_
  rw [db,if_pos h1,hs]
  simp only [Option.bind_some]
  rw [Ce (hB s (na hs))]
  unfold xY
  simp only [Option.bind_some]
  by_cases hb:Aj s=0
  ·simp only [hb,ne_eq,not_true_eq_false,if_false]
   unfold gU
   rw [aU (x:=i+1) (by omega) (by omega)]
   by_cases hi:0 < i
   ·obtain ⟨p,hp,_,_⟩:=jY xs (i:=i - 1) (by omega) (by omega)
    have Mj:k8 xs i=some p:=by unfold k8;rw [if_neg (by omega),hp]
    rw [Mj,if_pos hi,aU (by omega) (by omega),hp]
    simp only [Option.bind_some,Eo]
    by_cases hb:sO s p≤0
    ·simp [hb]
    ·simp [hb]
   ·have Mj:k8 xs i=none:=by unfold k8;rw [if_pos (by omega)]
    rw [Mj,if_neg hi];simp
  ·rw [if_pos hb,if_pos hb,if_neg hb];rfl
theorem vd {xs:List Signal} (hB:∀ x∈xs,Ep x):lG xs=some (pj xs):=by
 unfold lG pj
 split
 ·rfl
 ·rename_i hl
  unfold tq
  refine FY xY xs _ (fun {i s} h0 h1 hs=>?_) (by show fB xs _=_;rw [fB,if_neg (by omega)];rfl)
  have hS:=hB s (na hs)
  unfold Ep at hS
  show fB xs i=_
  rw [fB,if_pos h1,hs]
  simp only [Option.bind_some]
  rw [F0,wq,wq]
  simp only [Option.bind_some]
  unfold xY Aj
  have Sh:(F1 s.At=false)↔¬ (0≤s.At∧s.At≤345686399999):=by
   unfold F1
   rw [← Bool.decide_and,decide_eq_false_iff_not]
  by_cases hm:0≤s.At∧s.At≤345686399999
  ·rw [if_neg (by rw [if_pos hm];simp),if_neg (c:=F1 s.At=false) (fun h=>Sh.1 h hm)]
   have key:∀ c:Bool,c=!(gJ s.Device&&gJ s.bg)→iY xs i s c=some (if (if (gJ s.Device&&gJ s.bg)=false then (5:Int) else if s.Kind < 1∨5 < s.Kind then 4 else if 3≤s.Kind∧gJ s.By=false then 5 else if ¬ 3≤s.Kind∧s.By≠[] then 3
    else if s.Kind=4∧(s.bu < s.At+1∨s.At+2592000000 < s.bu∨345686400000 < s.bu) then 1 else if ¬ s.Kind=4∧s.bu≠0 then 3 else 0)≠0 then .inr (if (gJ s.Device&&gJ s.bg)=false then 5 else if s.Kind < 1∨5 < s.Kind then 4 else if 3≤s.Kind∧gJ s.By=false then 5 else if ¬ 3≤s.Kind∧s.By≠[] then 3
    else if s.Kind=4∧(s.bu < s.At+1∨s.At+2592000000 < s.bu∨345686400000 < s.bu) then 1 else if ¬ s.Kind=4∧s.bu≠0 then 3 else 0) else match k8 xs i with
     | none=>.inl (i+1)
     | some p=>if sO s p≤0 then .inr 7 else .inl (i+1)):=by
    rintro c rfl
    unfold iY
    cases hk:(gJ s.Device&&gJ s.bg)
    ·simp
    ·simp only [Bool.not_true,Bool.false_eq_true,if_false,Bool.true_eq_false]
     rw [zM,wq]
     simp only [Option.bind_some]
     by_cases h3:s.Kind < 1∨5 < s.Kind
     ·rw [if_pos h3,if_pos (by simp only [Bool.not_eq_true',Bool.and_eq_false_iff,decide_eq_false_iff_not];omega)];simp
     ·rw [if_neg h3,if_neg (by simp only [Bool.not_eq_true',Bool.and_eq_false_iff,decide_eq_false_iff_not];omega)]
      have j2:∀ c:Bool,c=decide (3≤s.Kind∧gJ s.By=false)→iX xs i s c=some (if (if 3≤s.Kind∧gJ s.By=false then (5:Int) else if ¬ 3≤s.Kind∧s.By≠[] then 3
       else if s.Kind=4∧(s.bu < s.At+1∨s.At+2592000000 < s.bu∨345686400000 < s.bu) then 1 else if ¬ s.Kind=4∧s.bu≠0 then 3 else 0)≠0 then .inr (if 3≤s.Kind∧gJ s.By=false then 5 else if ¬ 3≤s.Kind∧s.By≠[] then 3
       else if s.Kind=4∧(s.bu < s.At+1∨s.At+2592000000 < s.bu∨345686400000 < s.bu) then 1 else if ¬ s.Kind=4∧s.bu≠0 then 3 else 0) else match k8 xs i with
        | none=>.inl (i+1)
        | some p=>if sO s p≤0 then .inr 7 else .inl (i+1)):=by
       rintro c rfl
       unfold iX mY mX mW
       rw [aU (by omega) (by omega),aU (by omega) (by omega),zM]
       by_cases h4:3≤s.Kind∧gJ s.By=false
       ·rw [if_pos h4,decide_eq_true h4,if_pos rfl];simp
       ·rw [if_neg h4,decide_eq_false h4,if_neg Bool.false_ne_true]
        by_cases h5:¬ 3≤s.Kind∧s.By≠[]
        ·rw [if_pos h5,if_pos (by simp only [Bool.and_eq_true,decide_eq_true_eq];exact h5)];simp
        ·rw [if_neg h5,if_neg (by simp only [Bool.and_eq_true,decide_eq_true_eq];exact h5)]
         by_cases h6:s.Kind=4∧(s.bu < s.At+1∨s.At+2592000000 < s.bu∨345686400000 < s.bu)
         ·rw [if_pos h6,if_pos (by simp only [Bool.and_eq_true,Bool.not_eq_true',Bool.and_eq_false_iff,decide_eq_true_eq,decide_eq_false_iff_not];omega)];simp
         ·rw [if_neg h6,if_neg (by simp only [Bool.and_eq_true,Bool.not_eq_true',Bool.and_eq_false_iff,decide_eq_true_eq,decide_eq_false_iff_not];omega)]
          by_cases h7:¬ s.Kind=4∧s.bu≠0
          ·rw [if_pos h7,if_pos (by simp only [Bool.and_eq_true,decide_eq_true_eq];exact h7)];simp
          ·rw [if_neg h7,if_neg (by simp only [Bool.and_eq_true,decide_eq_true_eq];exact h7),if_neg (c:=(0:Int)≠0) (by simp)]
           unfold kQ
           rw [aU (x:=i+1) (by omega) (by omega)]
           by_cases hi:0 < i
           ·obtain ⟨p,hp,_,_⟩:=jY xs (i:=i - 1) (by omega) (by omega)
            have Mj:k8 xs i=some p:=by unfold k8;rw [if_neg (by omega),hp]
            rw [Mj,if_pos hi,aU (by omega) (by omega),hp]
            simp only [Option.bind_some,sN]
            have hn:=Nv.neg p s
            by_cases hb:sO s p≤0
            ·rw [if_pos hb,if_pos (by simp only [decide_eq_true_eq];omega)];rfl
            ·rw [if_neg hb,if_neg (by simp only [decide_eq_true_eq];omega)]
           ·have Mj:k8 xs i=none:=by unfold k8;rw [if_pos (by omega)]
            rw [Mj,if_neg hi];rfl
      by_cases h4:3≤s.Kind
      ·rw [if_pos h4];exact j2 _ (by cases gJ s.By<;>simp [h4])
      ·rw [if_neg h4];exact j2 _ (by simp [h4])
   have fin:∀ (b:Int),(some (if b≠0 then Sum.inr b else match k8 xs i with
    | none=>Sum.inl (i+1)
    | some p=>if sO s p≤0 then Sum.inr 7 else Sum.inl (i+1)):Option (Int⊕Int))=some (if (if b≠0 then b else match k8 xs i with
    | none=>0
    | some p=>if sO s p≤0 then 7 else 0)=0 then .inl (i+1) else .inr (if b≠0 then b else match k8 xs i with
    | none=>0
    | some p=>if sO s p≤0 then 7 else 0)):=by
    intro b
    by_cases hb:b=0
    ·subst hb
     cases k8 xs i with
     | none=>simp
     | some p=>by_cases h:sO s p≤0<;>simp [h]
    ·rw [if_pos hb,if_pos hb,if_neg hb]
   rw [← fin]
   cases hd:gJ s.Device
   ·have k:=key true (by rw [hd];rfl)
    rw [hd] at k;exact k
   ·have k:=key (!gJ s.bg) (by rw [hd];simp)
    rw [hd] at k;exact k
  ·rw [if_pos (by rw [if_neg hm];simp),if_pos (Sh.2 hm)]
   simp
def ZS:Signal:=⟨0,0,[],[],[],0⟩
theorem F2 (f:Signal→Signal→Option Int) (xs:List Signal) (hl:(xs.length:Int) < 20) (hf:∀ x∈xs,∀ y∈xs,f x y=some (sO x y)):∃ Z,fO xs.length (fun r:List Signal=>r.length) (cz xs f)=some Z∧Z.Perm xs∧tx sO Z:=by
 obtain ⟨Z,h1,h2,h3⟩:=HP f sO xs (by omega) hf (Nv.ord xs)
 have CR:cH xs 0 xs.length f=some Z:=h1
 have hlen:=h2.length_eq
 refine ⟨Z,?_,h2,h3⟩
 have hs:ec xs xs.length f=some Z:=by
  unfold ec ly
  rw [iter_eq,di,if_neg (by simp only;omega),bV]
  unfold hJ
  simp only
  rw [nJ CR hlen]
  simp only [Option.bind_some]
  unfold lx
  rw [iter_eq,dh,if_neg (by simp only;omega),bV]
 refine nJ ?_ hlen
 unfold cz
 rw [nJ hs hlen];rfl
theorem Er (f:Signal→Signal→Option Bool) (e:Signal→Signal→Bool) (xs:List Signal) (hl:(xs.length:Int)≤100000) (hf:∀ x∈xs,∀ y∈xs,f x y=some (e x y)):ed xs f=some (dd e xs):=K1 ZS f e xs hl hf
theorem Nw {xs:List Signal} (h:pj xs=0):xs.Pairwise (fun a b=>sO a b < 0)∧∀ x∈xs,Aj x=0:=by
 unfold pj at h
 split at h
 ·cases h
 ·have hz:=Cd xs none h
  refine ⟨zO Nv xs (fun i x y hx hy=>?_),fun x hx=>?_⟩
  ·have:=hz (i+1) y hy
   rw [if_neg (by omega),show i+1 - 1=i by omega,hx] at this
   unfold xY at this
   have hn:=Nv.neg x y
   split at this
   ·rename_i h0;exact absurd this h0
   ·simp only at this
    split at this
    ·cases this
    ·omega
  ·obtain ⟨i,hi,rfl⟩:=List.getElem_of_mem hx
   have:=hz i xs[i] (by simp [hi])
   unfold xY at this
   split at this
   ·rename_i h0;exact absurd this h0
   ·rename_i h0;simpa using h0
def F3 (P:Signal→Prop) (k:Int) (l:List Signal):Prop:=(l.length:Int)≤k∧∀ x∈l,P x
def F4 (x:Signal):Prop:=(0≤x.At∧x.At≤1000)∧(0≤x.bu∧x.bu≤2000)
abbrev SG:=F3 Ep
abbrev Py:=F3 F4
theorem F3.perm {P:Signal→Prop} {k:Int} {l Z:List Signal} (h:F3 P k l) (hp:Z.Perm l):F3 P k Z:=⟨by rw [hp.length_eq];exact h.1,fun c hc=>h.2 c (hp.mem_iff.1 hc)⟩
theorem F3.sub {P:Signal→Prop} {k:Int} {l Z:List Signal} (h:F3 P k l) (hp:Z.Sublist l):F3 P k Z:=⟨by have:=hp.length_le;have:=h.1;omega,fun c hc=>h.2 c (hp.subset hc)⟩
theorem F3.snoc {P:Signal→Prop} {k:Int} {l:List Signal} (h:F3 P k l) {c:Signal} (hc:P c):F3 P (k+1) (l++[c]):=
 ⟨by have:=h.1;simp;omega,fun x hx=>by
  rcases List.mem_append.1 hx with e | e
  ·exact h.2 x e
  ·rw [List.mem_singleton] at e;subst e;exact hc⟩
theorem F3.mono {P Q:Signal→Prop} {k:Int} {l:List Signal} (h:F3 P k l) (hp:∀ x,P x→Q x):F3 Q k l:=⟨h.1,fun x hx=>hp x (h.2 x hx)⟩
theorem F3.set {P:Signal→Prop} {k:Int} {l:List Signal} (h:F3 P k l) {c:Signal} (hc:P c) (i:Nat):F3 P k (l.set i c):=⟨by simpa using h.1,Sf h.2 hc⟩
theorem F4.w {x:Signal} (h:F4 x):Ep x:=by unfold F4 at h;unfold Ep;omega
theorem V1 {a b c v:Int} (h:v∈[a,b,c]):v=a∨v=b∨v=c:=by simpa using h
theorem V2 {a b c d v:Int} (h:v∈[a,b,c,d]):v=a∨v=b∨v=c∨v=d:=by simpa using h
theorem I7 {s:vv} {p:Bool} {many K:Int} (hs:rI s K) (hm:0≤many∧many≤15) (hK:200≤K):sU (np s many p) (K - 200) (SG many):=by
 refine sU.of ?_
 unfold np
 refine Ok.gen (xX hs (by omega) (by omega) (by omega)) (fun v0 s0 hv0 q0=>?_)
 dsimp only
 unfold tf
 refine Ok.iter (fun x:List Int×Int×List Signal×Int×Int=>(many - x.2.2.2.2).toNat) (fun x:List Int×Int×List Signal×Int×Int=>0≤x.2.2.2.2∧x.2.2.2.2≤many∧rI ⟨x.1,x.2.1⟩ (K - 190+10 * (many - x.2.2.2.2))∧Py x.2.2.2.2 x.2.2.1∧(0≤x.2.2.2.1∧x.2.2.2.1≤20+40 * x.2.2.2.2)) ?_ _ ⟨by simp,by simp only;omega,q0.less (by simp only;omega),⟨by simp,by simp⟩,by simp only;omega⟩
 rintro ⟨L,a,l,t,n⟩ ⟨g0,g1,g2,g3,g4⟩
 simp only at g0 g1 g2 g3 g4 ⊢
 have Oc:=g3.1
 unfold ku
 by_cases hn:n < many
 ·rw [if_pos hn]
  refine Ok.gen (lU g2 (by omega) (by simp) (by simp)) (fun p1 s1 h1 q1=>?_)
  refine Ok.gen (sM q1 (by omega) (by simp) (by simp)) (fun p2 s2 h2 q2=>?_)
  refine Ok.gen (sM q2 (by omega) (by simp) (by simp)) (fun p3 s3 h3 q3=>?_)
  dsimp only
  have j3:∀ (On Oo:bO×vv) (kd:Int) (q:bO) (L':List Int) (a' u:Int),(0≤u∧u≤1000)→rI ⟨L',a'⟩ (K - 190+10 * (many - n - 1)+1)→
   Ok (iM l t n On Oo kd q L' a' u) (Sg (fun x:List Int×Int×List Signal×Int×Int=>(many - x.2.2.2.2).toNat) (fun x:List Int×Int×List Signal×Int×Int=>0≤x.2.2.2.2∧x.2.2.2.2≤many∧rI ⟨x.1,x.2.1⟩ (K - 190+10 * (many - x.2.2.2.2))∧Py x.2.2.2.2 x.2.2.1∧(0≤x.2.2.2.1∧x.2.2.2.1≤20+40 * x.2.2.2.2)) (fun r=>SG many r.1∧rI r.2 (K - 200)) (L,a,l,t,n)):=by
   intro On Oo kd q L' a' u hu xj
   unfold iM
   refine Ok.app (by simp;omega) ?_
   refine Ok.gen (lU xj (by omega) (by simp) (by simp)) (fun w s5 hw q5=>?_)
   have E9:0≤w∧w≤40:=En hw (by decide)
   dsimp only
   refine Ok.ret ?_
   rw [aU (x:=t+w) (by omega) (by omega),aU (x:=n+1) (by omega) (by omega)]
   exact ⟨⟨by simp only;omega,by simp only;omega,q5.less (by simp only;omega),g3.snoc (by unfold F4;simp only;omega),by simp only;omega⟩,by simp only;omega⟩
  have j2:∀ (On Oo:bO×vv) (kd:Int) (L':List Int) (a':Int) (q:bO),rI ⟨L',a'⟩ (K - 190+10 * (many - n - 1)+2)→
   Ok (iN l t n On Oo kd L' a' q) (Sg (fun x:List Int×Int×List Signal×Int×Int=>(many - x.2.2.2.2).toNat) (fun x:List Int×Int×List Signal×Int×Int=>0≤x.2.2.2.2∧x.2.2.2.2≤many∧rI ⟨x.1,x.2.1⟩ (K - 190+10 * (many - x.2.2.2.2))∧Py x.2.2.2.2 x.2.2.1∧(0≤x.2.2.2.1∧x.2.2.2.1≤20+40 * x.2.2.2.2)) (fun r=>SG many r.1∧rI r.2 (K - 200)) (L,a,l,t,n)):=by
   intro On Oo kd L' a' q xj
   unfold iN
   split
   ·refine Ok.gen (lU xj (by omega) (by simp) (by simp)) (fun w s5 hw q5=>?_)
    have E9:0≤w∧w≤50:=En hw (by decide)
    dsimp only
    rw [aU (by omega) (by omega)]
    exact j3 _ _ _ _ _ _ _ (by omega) (q5.less (by omega))
   ·exact j3 _ _ _ _ _ _ _ (by omega) (xj.less (by omega))
  have j1:∀ (On Oo:bO×vv) (kd:Int) (L':List Int) (a':Int),rI ⟨L',a'⟩ (K - 190+10 * (many - n - 1)+3)→
   Ok (iO l t n On Oo L' a' kd) (Sg (fun x:List Int×Int×List Signal×Int×Int=>(many - x.2.2.2.2).toNat) (fun x:List Int×Int×List Signal×Int×Int=>0≤x.2.2.2.2∧x.2.2.2.2≤many∧rI ⟨x.1,x.2.1⟩ (K - 190+10 * (many - x.2.2.2.2))∧Py x.2.2.2.2 x.2.2.1∧(0≤x.2.2.2.1∧x.2.2.2.1≤20+40 * x.2.2.2.2)) (fun r=>SG many r.1∧rI r.2 (K - 200)) (L,a,l,t,n)):=by
   intro On Oo kd L' a' xj
   unfold iO
   split
   ·refine Ok.gen (sM xj (by omega) (by simp) (by simp)) (fun w s5 hw q5=>?_)
    exact j2 _ _ _ _ _ _ (q5.less (by omega))
   ·exact j2 _ _ _ _ _ _ (xj.less (by omega))
  split
  ·refine Ok.gen (lU q3 (by omega) (by simp) (by simp)) (fun p4 s4 h4 q4=>?_)
   exact j1 _ _ _ _ _ (q4.less (by omega))
  ·exact j1 _ _ _ _ _ (q3.less (by omega))
 ·rw [if_neg hn]
  refine Ok.inr ?_
  unfold pG
  have x4:Py many l:=⟨by omega,g3.2⟩
  obtain ⟨Z,z1,z2,_⟩:=F2 (fun y0 y1=>jm y0 y1) l (by omega) (fun x hx y hy=>sN x y)
  rw [z1]
  simp only [Option.bind_some]
  refine Ok.gen (wu g2 (by omega) (by omega) (by omega)) (fun b s5 _ q5=>?_)
  dsimp only
  have j5:∀ (Y:List Signal) (L':List Int) (a':Int) (c:Bool),Py many Y→(c=true→0 < (Y.length:Int))→rI ⟨L',a'⟩ (K - 194)→Ok (iP Y L' a' c) (fun r=>SG many r.1∧rI r.2 (K - 200)):=by
   intro Y L' a' c hY hc xj
   have hYl:=hY.1
   unfold iP kr
   split
   ·rename_i h
    have:=hc h
    refine Ok.gen (xX xj (by omega) (by omega) (by omega)) (fun u s6 hu q6=>?_)
    dsimp only
    refine Ok.idx hu.1 hu.2 (fun p hp UW=>?_)
    have hpB:=hY.2 p UW
    unfold F4 at hpB
    refine Ok.gen (lU q6 (by omega) (by simp) (by simp)) (fun v s7 hv q7=>?_)
    refine Ok.gen (Om q7 (by omega) (by omega) (by omega) (by omega)) (fun w s8 _ q8=>?_)
    refine Ok.gen (sM q8 (by omega) (by simp) (by simp)) (fun x s9 _ q9=>?_)
    dsimp only
    rw [aU (x:=p.At+2592000000) (by omega) (by omega),aU (x:=p.At+2592000000+1) (by omega) (by omega)]
    refine Ok.gen (lU q9 (by omega) (by simp) (by simp)) (fun y s10 hy V3=>?_)
    have h1:=V1 hv
    have h2:=V2 hy
    rw [List.set_set,List.set_set,List.set_set]
    exact Ok.ret ⟨(hY.mono fun x=>F4.w).set (by unfold Ep;simp only;omega) _,V3.less (by omega)⟩
   ·exact Ok.ret ⟨hY.mono fun x=>F4.w,xj.less (by omega)⟩
  have j4:∀ (Y:List Signal),Py many Y→Ok (iQ (b,s5) Y) (fun r=>SG many r.1∧rI r.2 (K - 200)):=by
   intro Y hY
   unfold iQ
   split
   ·rename_i h
    refine Ok.gen (wu q5 (by omega) (by omega) (by omega)) (fun c s6 _ q6=>?_)
    exact j5 Y _ _ c hY (fun _=>h) (q6.less (by omega))
   ·exact j5 Y _ _ false hY (fun h=>by cases h) (q5.less (by omega))
  split
  ·rw [Er (fun y0 y1=>kq y0 y1) (fun x y=>decide (sO x y=0)) Z (by have:=z2.length_eq;omega) (fun x _ y _=>by unfold kq;rw [sN];rfl)]
   exact j4 _ ((x4.perm z2).sub (Pt _ _))
  ·exact j4 _ (x4.perm z2)
theorem Pz {s:vv} {K:Int} (hs:rI s K) (hK:10≤K):sU (qK s) (K - 10) (fun v=>-1≤v∧v≤345686400000):=by
 refine sU.of ?_
 unfold qK
 refine Ok.gen (xX hs (by omega) (by omega) (by omega)) (fun a s1 ha q1=>?_)
 refine Ok.gen (xX q1 (by omega) (by omega) (by omega)) (fun b s2 hb q2=>?_)
 refine Ok.gen (lU q2 (by omega) (by simp) (by simp)) (fun c s3 hc q3=>?_)
 have x9:-1≤c∧c≤345686400000:=En hc (by decide)
 dsimp only
 refine Ok.gen (lU q3 (by omega) (by simp) (by simp)) (fun d s4 hd q4=>?_)
 refine Ok.ret ⟨?_,q4.less (by omega)⟩
 simp only [List.mem_cons,List.not_mem_nil,or_false] at hd
 simp only
 omega
def jS (l:List ar) (t:Int):List ar:=l.set (l.length - 1) ⟨(l.getD (l.length - 1) ⟨0,0⟩).aM,t⟩
theorem pc (l:List ar) (t:Int):(jS l t).length=l.length:=by unfold jS;simp
abbrev r4 (n:Int):Prop:=n=1∨n=2
def jr (x:au) (st t:Int):au:=
 ⟨x.bl,st,t,x.aY,x.ay,
   if r4 st∧¬ r4 x.aE then (if r4 x.aE∧¬ r4 st then jS x.mj t else x.mj)++[⟨t,345686400000⟩] else if r4 x.aE∧¬ r4 st then jS x.mj t else x.mj,
   if st=1 then (if x.aE=1 then jS x.bt t else x.bt)++[⟨t,345686400000⟩] else if x.aE=1 then jS x.bt t else x.bt,
   x.aW,x.cj,x.bG⟩
def Lc (x:au) (t:Int):au:=⟨x.bl,x.aE,x.bX,x.aY++[t],x.ay,x.mj,x.bt,x.aW,x.cj,x.bG⟩
def G0 (x:au) (t:Int):au:=⟨x.bl,x.aE,x.bX,x.aY,x.ay,x.mj,x.bt,x.aW,x.cj++[t],x.bG++[t - x.aY.getD (x.aY.length - 1) 0]⟩
def wv (x:au) (s:Signal):Int×au:=
 if s.Kind=1 then if r4 x.aE then (6,x) else (0,Lc (jr x 1 s.At) s.At)
 else if s.Kind=2 then if x.aE=1 then (0,jr x 3 s.At) else if x.aE=2 then (0,jr x 0 s.At) else (11,x)
 else if s.Kind=3 then if x.aE=3 then (0,G0 (jr x 0 s.At) s.At) else if x.aE=1 then (0,G0 (jr x 2 s.At) s.At) else (11,x)
 else if s.Kind=4 then if s.At < x.ay then (11,x) else (0,⟨x.bl,x.aE,x.bX,x.aY,s.bu,x.mj,x.bt,x.aW++[⟨s.At,s.bu⟩],x.cj,x.bG⟩)
 else if x.ay≤s.At then (11,x) else (0,⟨x.bl,x.aE,x.bX,x.aY,s.At,x.mj,x.bt,jS x.aW s.At,x.cj,x.bG⟩)
structure LI (k:Int) (x:au):Prop where
 fresh:x.aE=1→x.bt≠[]
 up:r4 x.aE→x.mj≠[]
 raised:x.aE≠0→x.aY≠[]
 aside:0 < x.ay→x.aW≠[]
 rB:∀ t∈x.aY,0≤t∧t≤4398046511104
 l1:(x.aY.length:Int)≤k
 l2:(x.mj.length:Int)≤k
 l3:(x.bt.length:Int)≤k
 l4:(x.aW.length:Int)≤k
 l5:(x.cj.length:Int)≤k
 l6:(x.bG.length:Int)≤k
theorem oK {α:Type} {l:List α} (h:l≠[]) (d:α):idx l ((l.length:Int) - 1)=some (l.getD (l.length - 1) d):=by
 have:0 < l.length:=List.length_pos_iff.2 h
 unfold idx
 rw [if_pos (by omega),show ((l.length:Int) - 1).toNat=l.length - 1 by omega,List.getD_eq_getElem?_getD,List.getElem?_eq_getElem (by omega)];rfl
theorem F5 {l:List ar} (h:l≠[]) (hl:(l.length:Int)≤1000000):ie l=some ((l.length:Int) - 1):=by
 have:0 < l.length:=List.length_pos_iff.2 h
 unfold ie
 rw [aU (by omega) (by omega),oK h ⟨0,0⟩];rfl
theorem xZ {l:List ar} (h:l≠[]) (t:Int) {w:ar} (hw:idx l ((l.length:Int) - 1)=some w):l.set ((l.length:Int) - 1).toNat ⟨w.aM,t⟩=jS l t:=by
 have:0 < l.length:=List.length_pos_iff.2 h
 rw [oK h ⟨0,0⟩] at hw
 unfold jS
 rw [← Option.some.inj hw,show ((l.length:Int) - 1).toNat=l.length - 1 by omega]
theorem yS {k:Int} {x:au} (h:LI k x) (hk:k≤1000) (st t:Int):gN x st t=some (jr x st t):=by
 have Jm:=h.l2;have TQ:=h.l3
 have hu:∀ n:Int,(decide (n=1)||decide (n=2))=decide (r4 n):=fun n=>by rw [Bool.decide_or]
 unfold gN
 rw [hu,hu]
 have j7:∀ (f u:List ar),jH x st t f u=some ⟨x.bl,st,t,x.aY,x.ay,u,f,x.aW,x.cj,x.bG⟩:=fun _ _=>rfl
 have j5:∀ (u f:List ar),(u.length:Int)≤k→ig x st t (decide (r4 x.aE)) (decide (r4 st)) u f=some ⟨x.bl,st,t,x.aY,x.ay,if r4 st∧¬ r4 x.aE then u++[⟨t,345686400000⟩] else u,f,x.aW,x.cj,x.bG⟩:=by
  intro u f V4
  unfold ig mb
  have hc:(decide (r4 st)&&!decide (r4 x.aE))=decide (r4 st∧¬ r4 x.aE):=by simp
  rw [hc]
  by_cases hq:r4 st∧¬ r4 x.aE
  ·rw [decide_eq_true hq,if_pos rfl,if_pos hq,mh (by simp;omega)];rfl
  ·rw [decide_eq_false hq,if_neg (by simp),if_neg hq];rfl
 have j4:∀ (f u:List ar),(u.length:Int)≤k→(f.length:Int)≤k→ij x st t (decide (r4 x.aE)) (decide (r4 st)) f u=some ⟨x.bl,st,t,x.aY,x.ay,if r4 st∧¬ r4 x.aE then u++[⟨t,345686400000⟩] else u,if st=1 then f++[⟨t,345686400000⟩] else f,x.aW,x.cj,x.bG⟩:=by
  intro f u V4 Hl
  unfold ij
  by_cases h1:st=1
  ·rw [if_pos h1,if_pos h1,mh (by simp;omega)];exact j5 u _ V4
  ·rw [if_neg h1,if_neg h1];exact j5 u f V4
 have j2:∀ (f:List ar),(f.length:Int)≤k→ik x st t (decide (r4 x.aE)) (decide (r4 st)) f=some ⟨x.bl,st,t,x.aY,x.ay,if r4 st∧¬ r4 x.aE then (if r4 x.aE∧¬ r4 st then jS x.mj t else x.mj)++[⟨t,345686400000⟩] else if r4 x.aE∧¬ r4 st then jS x.mj t else x.mj,if st=1 then f++[⟨t,345686400000⟩] else f,x.aW,x.cj,x.bG⟩:=by
  intro f Hl
  unfold ik mc
  have hc:(decide (r4 x.aE)&&!decide (r4 st))=decide (r4 x.aE∧¬ r4 st):=by simp
  rw [hc]
  by_cases hq:r4 x.aE∧¬ r4 st
  ·rw [decide_eq_true hq,if_pos rfl]
   have sT:=h.up hq.1
   rw [F5 sT (by omega)]
   simp only [Option.bind_some]
   rw [oK sT ⟨0,0⟩]
   simp only [Option.bind_some]
   rw [xZ sT t (oK sT ⟨0,0⟩),j4 _ _ (by rw [pc];exact Jm) Hl]
   simp only [if_pos hq]
  ·rw [decide_eq_false hq,if_neg (by simp),j4 _ _ Jm Hl]
   simp only [if_neg hq]
 unfold me jr
 by_cases h1:x.aE=1
 ·rw [if_pos h1]
  have sT:=h.fresh h1
  rw [F5 sT (by omega)]
  simp only [Option.bind_some]
  rw [oK sT ⟨0,0⟩]
  simp only [Option.bind_some]
  rw [xZ sT t (oK sT ⟨0,0⟩),j2 _ (by rw [pc];exact TQ)]
  simp only [if_pos h1]
 ·rw [if_neg h1,j2 _ TQ]
  simp only [if_neg h1]
theorem follow_eq {k:Int} {x:au} (h:LI k x) (hk:k≤1000) {s:Signal} (h0:0≤s.At) (hB:Ep s) (hK:1≤s.Kind∧s.Kind≤5):kO x s=some (wv x s):=by
 unfold Ep at hB
 have SK:=h.l1;have hl5:=h.l5;have Yk:=h.l6;have hl4:=h.l4
 have hu:∀ n:Int,(decide (n=1)||decide (n=2))=decide (r4 n):=fun n=>by rw [Bool.decide_or]
 unfold kO wv
 by_cases k1:s.Kind=1
 ·rw [if_pos k1,if_pos k1,hu]
  unfold kN
  by_cases hq:r4 x.aE
  ·rw [decide_eq_true hq,if_pos rfl,if_pos hq]
  ·rw [decide_eq_false hq,if_neg (by simp),if_neg hq,yS h hk]
   simp only [Option.bind_some]
   rw [mh (by show (x.aY.length+1:Nat)≤_;omega)];rfl
 ·rw [if_neg k1,if_neg k1]
  have low:∀ (sT:x.aE≠0∨s.Kind=2),dJ=dJ:=fun _=>rfl
  have Si:∀ y:au,y.aY=x.aY→y.cj=x.cj→y.bG=x.bG→x.aY≠[]→¬ s.Kind=2→dK s y.bl.aG y.bl.a8 y.aE y.bX y.aY y.ay y.mj y.bt y.aW y.cj y.bG=some (0,G0 y s.At):=by
   intro y e1 e2 e3 sT h2
   unfold dK dJ G0
   have hlen:0 < x.aY.length:=List.length_pos_iff.2 sT
   have hbl:0≤x.aY.getD (x.aY.length - 1) 0∧x.aY.getD (x.aY.length - 1) 0≤4398046511104:=h.rB _ (by rw [List.getD_eq_getElem?_getD,List.getElem?_eq_getElem (by omega)];simp)
   rw [if_pos h2,e1,e2,e3,mh (by simp;omega)]
   simp only [Option.bind_some]
   rw [aU (by omega) (by omega),oK sT 0]
   simp only [Option.bind_some]
   rw [mh (by simp;omega),aU (by omega) (by omega)];rfl
  have Dc:∀ y:au,s.Kind=2→dK s y.bl.aG y.bl.a8 y.aE y.bX y.aY y.ay y.mj y.bt y.aW y.cj y.bG=some (0,y):=by
   intro y h2
   unfold dK dJ
   rw [if_neg (fun z=>z h2)]
  by_cases k2:s.Kind=2
  ·rw [if_pos k2,if_pos k2]
   unfold gg lF je
   rw [decide_eq_true k2,if_pos rfl,Bool.true_and]
   by_cases s1:x.aE=1
   ·rw [decide_eq_true s1,if_pos rfl,if_pos s1,yS h hk]
    simp only [Option.bind_some]
    rw [Dc _ k2];rfl
   ·rw [decide_eq_false s1,if_neg (by simp),if_neg s1]
    unfold jd
    by_cases s2:x.aE=2
    ·rw [decide_eq_true s2,Bool.true_and,if_pos rfl,if_pos s2]
     unfold fu fq
     rw [if_pos (by rfl),yS h hk]
     simp only [Option.bind_some]
     rw [Dc _ k2];rfl
    ·rw [decide_eq_false s2,if_neg (by simp),if_neg s2]
     unfold jc fu jb
     rw [if_neg (by simp [k2]),if_neg (by simp [k2])];rfl
  ·rw [if_neg k2,if_neg k2]
   unfold gg
   by_cases k3:s.Kind=3
   ·rw [decide_eq_true k3,if_pos rfl,if_pos k3]
    unfold lF je
    rw [decide_eq_false k2,if_neg (by simp)]
    unfold jd
    rw [if_neg (by simp)]
    unfold jc fu
    by_cases s3:x.aE=3
    ·rw [if_pos (by simp [k2,s3]),if_pos s3,yS h hk]
     simp only [Option.bind_some]
     unfold fq
     rw [Si (jr x 0 s.At) rfl rfl rfl (h.raised (by omega)) k2];rfl
    ·rw [if_neg (by simp [s3]),if_neg s3]
     unfold jb
     by_cases s1:x.aE=1
     ·rw [if_pos (by simp [k2,s1]),if_pos s1,yS h hk]
      simp only [Option.bind_some]
      unfold fq
      rw [Si (jr x 2 s.At) rfl rfl rfl (h.raised (by omega)) k2];rfl
     ·rw [if_neg (by simp [s1]),if_neg s1];rfl
   ·rw [decide_eq_false k3,if_neg (by simp),if_neg k3]
    by_cases k4:s.Kind=4
    ·rw [if_pos k4,if_pos k4]
     by_cases hs:s.At < x.ay
     ·rw [if_pos hs,if_pos hs]
     ·rw [if_neg hs,if_neg hs,mh (by simp;omega)];rfl
    ·rw [if_neg k4,if_neg k4]
     by_cases hs:x.ay≤s.At
     ·rw [if_pos hs,if_pos hs]
     ·rw [if_neg hs,if_neg hs]
      have sT:=h.aside (by omega)
      rw [aU (by omega) (by omega),oK sT ⟨0,0⟩]
      simp only [Option.bind_some]
      rw [xZ sT s.At (oK sT ⟨0,0⟩)]
theorem Ld {x:au} {st t:Int} (h:st=1):(jr x st t).bt≠[]:=by
 unfold jr
 simp only [h,if_true]
 simp
theorem oL {k:Int} {x:au} (h:LI k x) {st t:Int} (hs:r4 st):(jr x st t).mj≠[]:=by
 unfold jr
 simp only
 by_cases hx:r4 x.aE
 ·rw [if_neg (fun z=>z.2 hx),if_neg (fun z=>z.2 hs)];exact h.up hx
 ·rw [if_pos ⟨hs,hx⟩];simp
theorem Sj (x:au) (st t:Int):(jr x st t).mj.length≤x.mj.length+1:=by
 unfold jr
 simp only
 repeat' split
 all_goals simp [pc]
theorem I8 (x:au) (st t:Int):(jr x st t).bt.length≤x.bt.length+1:=by
 unfold jr
 simp only
 repeat' split
 all_goals simp [pc]
theorem LI.mono {k k':Int} {x:au} (h:LI k x) (hk:k≤k'):LI k' x:=
 ⟨h.fresh,h.up,h.raised,h.aside,h.rB,by have:=h.l1;omega,by have:=h.l2;omega,by have:=h.l3;omega,by have:=h.l4;omega,by have:=h.l5;omega,by have:=h.l6;omega⟩
theorem LI.yT {k:Int} {x:au} (h:LI k x) {st t:Int} (hr:st≠0→x.aY≠[]):LI (k+1) (jr x st t):=
 ⟨fun h1=>Ld h1,fun h1=>oL h h1,hr,h.aside,h.rB,by have:=h.l1;show (x.aY.length:Int)≤_;omega,by have:=h.l2;have:=Sj x st t;omega,by have:=h.l3;have:=I8 x st t;omega,by have:=h.l4;show (x.aW.length:Int)≤_;omega,by have:=h.l5;show (x.cj.length:Int)≤_;omega,by have:=h.l6;show (x.bG.length:Int)≤_;omega⟩
theorem LI.Si {k:Int} {x:au} (h:LI k x) {st t:Int} (hr:st≠0→x.aY≠[]) (u:Int):LI (k+1) (G0 (jr x st t) u):=by
 have q:=h.yT (t:=t) hr
 refine ⟨q.fresh,q.up,q.raised,q.aside,q.rB,q.l1,q.l2,q.l3,q.l4,?_,?_⟩
 ·have:=h.l5;show ((x.cj++[u]).length:Int)≤_;simp;omega
 ·have:=h.l6;show ((x.bG++[u - x.aY.getD (x.aY.length - 1) 0]).length:Int)≤_;simp;omega
theorem LI.step {k:Int} {x:au} (h:LI k x) {s:Signal} (h0:0≤s.At) (hB:Ep s):LI (k+1) (wv x s).2:=by
 unfold Ep at hB
 have hl4:=h.l4
 have same:LI (k+1) x:=h.mono (by omega)
 unfold wv
 split
 ·split
  ·exact same
  ·have SK:=h.l1
   have Jm:=h.l2;have TQ:=h.l3;have hl5:=h.l5;have Yk:=h.l6
   have t2:=Sj x 1 s.At;have t3:=I8 x 1 s.At
   refine ⟨fun _=>Ld rfl,fun _=>oL h (.inl rfl),fun _=>by show x.aY++[s.At]≠[];simp,h.aside,?_,?_,?_,?_,?_,?_,?_⟩
   ·intro t ht
    rcases List.mem_append.1 (show t∈x.aY++[s.At] from ht) with e | e
    ·exact h.rB t e
    ·rw [List.mem_singleton] at e;subst e;omega
   ·show ((x.aY++[s.At]).length:Int)≤_;simp;omega
   ·show ((jr x 1 s.At).mj.length:Int)≤_;omega
   ·show ((jr x 1 s.At).bt.length:Int)≤_;omega
   ·show (x.aW.length:Int)≤_;omega
   ·show (x.cj.length:Int)≤_;omega
   ·show (x.bG.length:Int)≤_;omega
 ·split
  ·split
   ·rename_i s1;exact h.yT fun _=>h.raised (by omega)
   ·split
    ·exact h.yT fun z=>absurd rfl z
    ·exact same
  ·split
   ·split
    ·exact h.Si (fun z=>absurd rfl z) _
    ·split
     ·rename_i s1;exact h.Si (fun _=>h.raised (by omega)) _
     ·exact same
   ·split
    ·split
     ·exact same
     ·exact ⟨same.fresh,same.up,same.raised,fun _=>by show x.aW++_≠[];simp,same.rB,same.l1,same.l2,same.l3,by show ((x.aW++_).length:Int)≤_;simp;omega,same.l5,same.l6⟩
    ·split
     ·exact same
     ·rename_i hs
      have sT:=h.aside (by omega)
      have vg:0 < x.aW.length:=List.length_pos_iff.2 sT
      exact ⟨same.fresh,same.up,same.raised,fun _=>by
       show jS x.aW s.At≠[]
       rw [← List.length_pos_iff,pc];exact vg,same.rB,same.l1,same.l2,same.l3,by show ((jS x.aW s.At).length:Int)≤_;rw [pc];omega,same.l5,same.l6⟩
def wx (t:an) (s:Signal) (st:Int) (w:ar):an:=⟨t.aG,t.a8,t.bw++[s],st,w⟩
abbrev QC (t:an) (s:Signal):Prop:=t.ay.aM≤s.At∧s.At < t.ay.To
def HX (t:an) (s:Signal):Int×an:=
 if s.Kind=1 then if r4 t.aE then (6,t) else (0,wx t s 1 t.ay)
 else if s.Kind=2 then if t.aE=1 then (0,wx t s 3 t.ay) else if t.aE=2 then (0,wx t s 0 t.ay) else (11,t)
 else if s.Kind=3 then if t.aE=3 then (0,wx t s 0 t.ay) else if t.aE=1 then (0,wx t s 2 t.ay) else (11,t)
 else if s.Kind=4 then if QC t s then (11,t) else (0,wx t s t.aE ⟨s.At,s.bu⟩)
 else if QC t s then (0,wx t s t.aE ⟨0,0⟩) else (11,t)
theorem step_eq {t:an} (hl:(t.bw.length:Int)≤1000) (s:Signal):pO t s=some (HX t s):=by
 have hu:(decide (t.aE=1)||decide (t.aE=2))=decide (r4 t.aE):=by rw [Bool.decide_or]
 have j3:∀ st a b:Int,kc t s st a b=some (0,wx t s st ⟨a,b⟩):=fun st a b=>by
  unfold kc
  rw [mh (by simp;omega)];rfl
 unfold pO oS HX
 rw [hu]
 unfold oR
 by_cases k1:s.Kind=1
 ·rw [if_pos k1,if_pos k1]
  by_cases hq:r4 t.aE
  ·rw [decide_eq_true hq,if_pos rfl,if_pos hq]
  ·rw [decide_eq_false hq,if_neg (by simp),if_neg hq,j3]
 ·rw [if_neg k1,if_neg k1]
  by_cases k2:s.Kind=2
  ·rw [if_pos k2,if_pos k2]
   by_cases s1:t.aE=1
   ·rw [decide_eq_true (show r4 t.aE from .inl s1),if_neg (by simp),if_pos s1,s1]
    unfold gO
    rw [show Aa (pz (pz ([]:List (Int×Int)) 1 3) 2 0) 1 0=some 3 by decide]
    simp only [Option.bind_some,j3]
   ·by_cases s2:t.aE=2
    ·rw [decide_eq_true (show r4 t.aE from .inr s2),if_neg (by simp),if_neg s1,if_pos s2,s2]
     unfold gO
     rw [show Aa (pz (pz ([]:List (Int×Int)) 1 3) 2 0) 2 0=some 0 by decide]
     simp only [Option.bind_some,j3]
    ·rw [decide_eq_false (show ¬ r4 t.aE from fun z=>z.elim s1 s2),if_pos (by simp),if_neg s1,if_neg s2]
  ·rw [if_neg k2,if_neg k2]
   by_cases k3:s.Kind=3
   ·rw [if_pos k3,if_pos k3]
    unfold oQ ke gO
    by_cases s3:t.aE=3
    ·rw [if_neg (by simp [s3]),if_pos s3,s3]
     rw [show Aa (pz (pz ([]:List (Int×Int)) 1 2) 3 0) 3 0=some 0 by decide]
     simp only [Option.bind_some,j3]
    ·by_cases s1:t.aE=1
     ·rw [if_neg (by simp [s1]),if_neg s3,if_pos s1,s1]
      rw [show Aa (pz (pz ([]:List (Int×Int)) 1 2) 3 0) 1 0=some 2 by decide]
      simp only [Option.bind_some,j3]
     ·rw [if_pos (by simp [s1,s3]),if_neg s3,if_neg s1]
   ·rw [if_neg k3,if_neg k3]
    have ho:(decide (t.ay.aM≤s.At)&&decide (s.At < t.ay.To))=decide (QC t s):=by rw [Bool.decide_and]
    rw [ho]
    unfold mu ke gO
    by_cases k4:s.Kind=4
    ·rw [if_pos k4,if_pos k4]
     by_cases hq:QC t s
     ·rw [decide_eq_true hq,if_pos rfl,if_pos hq]
     ·rw [decide_eq_false hq,if_neg (by simp),if_neg hq,j3]
    ·rw [if_neg k4,if_neg k4]
     by_cases hq:QC t s
     ·rw [decide_eq_true hq,if_neg (by simp),if_pos hq,j3]
     ·rw [decide_eq_false hq,if_pos (by simp),if_neg hq]
def nL (l:List Signal):List Int:=(l.filter (fun s=>decide (s.Kind=1))).map Signal.At
def r6 (l:List Signal):Int:=l.foldl (fun a s=>if s.Kind≤3 then s.At else a) 0
structure RT (T:Int) (x:au) (t:an):Prop where
 dev:x.bl.aG=t.aG
 TR:x.bl.a8=t.a8
 st:x.aE=t.aE
 Es:x.aY=nL t.bw
 since:x.bX=r6 t.bw
 from_:t.ay.aM≤T
 sh:x.ay=t.ay.To∨(x.ay≤T∧t.ay.To≤T)
theorem xx (l:List Signal) (s:Signal):nL (l++[s])=if s.Kind=1 then nL l++[s.At] else nL l:=by
 unfold nL
 rw [List.filter_append]
 by_cases h:s.Kind=1<;>simp [h]
theorem yU (l:List Signal) (s:Signal):r6 (l++[s])=if s.Kind≤3 then s.At else r6 l:=by
 unfold r6
 rw [List.foldl_append];rfl
theorem RT.mono {T T':Int} {x:au} {t:an} (h:RT T x t) (hT:T≤T'):RT T' x t:=
 ⟨h.dev,h.TR,h.st,h.Es,h.since,by have:=h.from_;omega,h.sh.imp id fun z=>⟨by omega,by omega⟩⟩
theorem RT.step {T:Int} {x:au} {t:an} (h:RT T x t) {s:Signal} (hT:T≤s.At) (h0:0≤s.At) (hK:1≤s.Kind∧s.Kind≤5):(wv x s).1=(HX t s).1∧RT s.At (wv x s).2 (HX t s).2:=by
 have hm:=h.mono hT
 have xn:=h.st
 have yT:∀ (y:au) (st:Int),y.bl=x.bl→y.aE=st→y.bX=s.At→y.ay=x.ay→s.Kind≤3→(y.aY=if s.Kind=1 then x.aY++[s.At] else x.aY)→RT s.At y (wx t s st t.ay):=by
  intro y st e1 e2 e3 e4 hk e5
  refine ⟨by rw [e1];exact h.dev,by rw [e1];exact h.TR,e2,?_,?_,hm.from_,by rw [e4];exact hm.sh⟩
  ·show y.aY=nL (t.bw++[s])
   rw [xx,← h.Es];exact e5
  ·show y.bX=r6 (t.bw++[s])
   rw [yU,if_pos hk];exact e3
 unfold wv HX
 rw [← xn]
 by_cases k1:s.Kind=1
 ·rw [if_pos k1,if_pos k1]
  by_cases hq:r4 x.aE
  ·rw [if_pos hq,if_pos hq];exact ⟨rfl,hm⟩
  ·rw [if_neg hq,if_neg hq];exact ⟨rfl,yT _ 1 rfl rfl rfl rfl (by omega) (by rw [if_pos k1];rfl)⟩
 ·rw [if_neg k1,if_neg k1]
  by_cases k2:s.Kind=2
  ·rw [if_pos k2,if_pos k2]
   by_cases s1:x.aE=1
   ·rw [if_pos s1,if_pos s1];exact ⟨rfl,yT _ 3 rfl rfl rfl rfl (by omega) (by rw [if_neg k1];rfl)⟩
   ·rw [if_neg s1,if_neg s1]
    by_cases s2:x.aE=2
    ·rw [if_pos s2,if_pos s2];exact ⟨rfl,yT _ 0 rfl rfl rfl rfl (by omega) (by rw [if_neg k1];rfl)⟩
    ·rw [if_neg s2,if_neg s2];exact ⟨rfl,hm⟩
  ·rw [if_neg k2,if_neg k2]
   by_cases k3:s.Kind=3
   ·rw [if_pos k3,if_pos k3]
    by_cases s3:x.aE=3
    ·rw [if_pos s3,if_pos s3];exact ⟨rfl,yT _ 0 rfl rfl rfl rfl (by omega) (by rw [if_neg k1];rfl)⟩
    ·rw [if_neg s3,if_neg s3]
     by_cases s1:x.aE=1
     ·rw [if_pos s1,if_pos s1];exact ⟨rfl,yT _ 2 rfl rfl rfl rfl (by omega) (by rw [if_neg k1];rfl)⟩
     ·rw [if_neg s1,if_neg s1];exact ⟨rfl,hm⟩
   ·rw [if_neg k3,if_neg k3]
    have LQ:QC t s↔s.At < x.ay:=by
     have:=hm.from_
     rcases h.sh with e | e
     ·rw [e];exact ⟨fun z=>z.2,fun z=>⟨this,z⟩⟩
     ·exact ⟨fun z=>by have:=z.2;omega,fun z=>by omega⟩
    have put:∀ (y:au) (w:ar),y.bl=x.bl→y.aE=x.aE→y.bX=x.bX→y.aY=x.aY→w.aM≤s.At→(y.ay=w.To∨(y.ay≤s.At∧w.To≤s.At))→RT s.At y (wx t s x.aE w):=by
     intro y w e1 e2 e3 e4 e5 e6
     refine ⟨by rw [e1];exact h.dev,by rw [e1];exact h.TR,e2,?_,?_,e5,e6⟩
     ·show y.aY=nL (t.bw++[s])
      rw [xx,if_neg k1,e4];exact h.Es
     ·show y.bX=r6 (t.bw++[s])
      rw [yU,if_neg (by omega),e3];exact h.since
    by_cases k4:s.Kind=4
    ·rw [if_pos k4,if_pos k4]
     by_cases hs:s.At < x.ay
     ·rw [if_pos hs,if_pos (LQ.2 hs)];exact ⟨rfl,hm⟩
     ·rw [if_neg hs,if_neg (fun z=>hs (LQ.1 z))];exact ⟨rfl,put _ _ rfl rfl rfl rfl (Int.le_refl _) (.inl rfl)⟩
    ·rw [if_neg k4,if_neg k4]
     by_cases hs:s.At < x.ay
     ·rw [if_neg (by omega),if_pos (LQ.2 hs)];exact ⟨rfl,put _ _ rfl rfl rfl rfl h0 (.inr ⟨Int.le_refl _,h0⟩)⟩
     ·rw [if_pos (by omega),if_neg (fun z=>hs (LQ.1 z))];exact ⟨rfl,hm⟩
def Cv (a b:aq):Int:=o6 [Lib.compareBytes a.aG b.aG,Lib.compareBytes a.a8 b.a8]
theorem xy:nI Cv:=(uN.on aq.aG).or ((uN.on aq.a8).or .TP)
theorem F6 {a b:aq} (h:Cv a b=0):a=b:=by
 have h1:=qx (jQ h _ (by simp):Lib.compareBytes a.aG b.aG=0)
 have h2:=qx (jQ h _ (by simp):Lib.compareBytes a.a8 b.a8=0)
 cases a;cases b
 simp only at h1 h2
 rw [h1,h2]
def mK (s:Signal):aq:=⟨s.Device,s.bg⟩
theorem Et (x y:au):iV x y=some (Cv x.bl y.bl):=by
 unfold iV rV
 have h:eM [Lib.compareBytes x.bl.aG y.bl.aG,Lib.compareBytes x.bl.a8 y.bl.a8]=some (Cv x.bl y.bl):=uL _ (by simp)
 rw [h];rfl
theorem G1 (x y:an):mH x y=some (Cv ⟨x.aG,x.a8⟩ ⟨y.aG,y.a8⟩):=by
 unfold mH
 have h:eM [Lib.compareBytes x.aG y.aG,Lib.compareBytes x.a8 y.a8]=some (Cv ⟨x.aG,x.a8⟩ ⟨y.aG,y.a8⟩):=uL _ (by simp)
 rw [h];rfl
def wy (l:List Signal):List aq:=(l.map mK).foldl vo []
theorem uu (l:List Signal):(wy l).Nodup:=(uP _ _ (by simp)).1
theorem A0 (l:List Signal) (n:aq):n∈wy l↔n∈l.map mK:=by
 unfold wy;rw [(uP _ _ (by simp)).2.1 n];simp
theorem yV (l:List Signal):(wy l).length≤l.length:=by
 have:=(uP (l.map mK) ([]:List aq) (by simp)).2.2
 unfold wy;simpa using this
theorem uv (l:List Signal) (s:Signal):wy (l++[s])=vo (wy l) (mK s):=by
 unfold wy;rw [List.map_append,List.foldl_append];rfl
theorem HY (a b:aq):xK.lt a b=(xK.lt a.aG b.aG||(decide (a.aG=b.aG)&&xK.lt a.a8 b.a8)):=by
 show (xK.lt a.aG b.aG||(decide (a.aG=b.aG)&&(xK.lt a.a8 b.a8||(decide (a.a8=b.a8)&&false))))=_
 simp
instance:yP aq where
 Jt a:=by rw [HY,yP.Jt,yP.Jt];simp
 tr {a b c} h1 h2:=by
  rw [HY] at *
  simp only [Bool.or_eq_true,Bool.and_eq_true,decide_eq_true_eq] at *
  rcases h1 with h1 | ⟨e1,h1⟩
  ·rcases h2 with h2 | ⟨e2,h2⟩
   ·exact .inl (yP.tr h1 h2)
   ·exact .inl (by rw [← e2];exact h1)
  ·rcases h2 with h2 | ⟨e2,h2⟩
   ·exact .inl (by rw [e1];exact h2)
   ·exact .inr ⟨e1.trans e2,yP.tr h1 h2⟩
 Pw a b:=by
  rw [HY,HY]
  simp only [Bool.or_eq_true,Bool.and_eq_true,decide_eq_true_eq]
  rcases yP.Pw a.aG b.aG with h | h | h
  ·exact .inl (.inl h)
  ·rcases yP.Pw a.a8 b.a8 with g | g | g
   ·exact .inl (.inr ⟨h,g⟩)
   ·right;left;cases a;cases b;simp only at h g;rw [h,g]
   ·exact .inr (.inr (.inr ⟨h.symm,g⟩))
  ·exact .inr (.inr (.inl h))
theorem I9 {A B:List aq} (ha:A.Pairwise (fun a b=>Cv a b < 0)) (hb:B.Pairwise (fun a b=>Cv a b < 0)) (h:∀ n,n∈A↔n∈B):A=B:=
 xV ((List.perm_ext_iff_of_nodup (yR xy ha) (yR xy hb)).2 h) (Lb xy ha) (Lb xy hb) (fun a _ b _ k1 k2=>by
  have:=xy.neg a b
  exact F6 (by omega))
def places (n:Nat):List Int:=(List.range n).map fun (i:Nat)=>(i:Int)
theorem Ak (n:Nat):places (n+1)=places n++[(n:Int)]:=by unfold places;rw [List.range_succ,List.map_append];rfl
theorem uQ (n:Nat):(places n).length=n:=by unfold places;simp
theorem iw {n:Nat} {i:Int}:i∈places n↔0≤i∧i < n:=by
 unfold places
 simp only [List.mem_map,List.mem_range]
 constructor
 ·rintro ⟨a,h,rfl⟩;omega
 ·rintro ⟨h1,h2⟩;exact ⟨i.toNat,by omega,by omega⟩
theorem G2 {n:Nat} {i:Int} (h:0≤i∧i < n):idx (places n) i=some i:=by
 unfold idx places
 rw [if_pos h.1,List.getElem?_map,List.getElem?_range (by omega)]
 simp only [Option.map_some,Option.some.injEq];omega
def at_ {α:Type} (d:α) (l:List α) (i:Int):α:=l.getD i.toNat d
theorem uR {α:Type} {d:α} {l:List α} {i:Int} (h0:0≤i) (h1:i < l.length):idx l i=some (at_ d l i):=by
 unfold idx at_
 rw [if_pos h0,List.getD_eq_getElem?_getD,List.getElem?_eq_getElem (by omega)];rfl
theorem sP {α β:Type} (f:α→β) (xs:List α) (i:Int):idx (xs.map f) i=(idx xs i).map f:=by
 unfold idx
 split
 ·rw [List.getElem?_map]
 ·rfl
theorem Cf {V:Type} (fn:V→V→Option Int) (key:V→aq) (Kk:∀ x y,fn x y=some (Cv (key x) (key y))) (M:List aq) (hM:M.Nodup) (hl:(M.length:Int)≤1000) (G:aq→V) (hG:∀ n,key (G n)=n):
 ∃ r,Fy fn (M.map G) (places M.length)=some r∧r.Perm (places M.length)∧(r.map (at_ ⟨[],[]⟩ M)).Pairwise (fun a b=>Cv a b < 0):=by
 have LN:∀ i∈places M.length,idx (M.map G) i=some (G (at_ ⟨[],[]⟩ M i)):=fun i hi=>by
  have:=iw.1 hi
  rw [sP,uR this.1 this.2];rfl
 obtain ⟨r,r1,r2,r3⟩:=FW (fun i j=>(idx (M.map G) i).bind fun x=>(idx (M.map G) j).bind fun y=>fn x y) (fun i j=>Cv (at_ ⟨[],[]⟩ M i) (at_ ⟨[],[]⟩ M j)) (places M.length) (by rw [uQ];omega)
  (fun a ha b hb=>by rw [LN a ha,LN b hb];simp only [Option.bind_some];rw [Kk,hG,hG]) ((xy.on (at_ ⟨[],[]⟩ M)).ord _)
 refine ⟨r,r1,r2,?_⟩
 have vE:r.Nodup:=r2.nodup_iff.2 (by
  unfold places
  exact List.Pairwise.map (S:=(· ≠·)) (fun (i:Nat)=>(i:Int)) (fun a b h e=>h (by have e1:(a:Int)=b:=e;omega)) List.nodup_range)
 rw [List.pairwise_map]
 have hs:r.Pairwise (fun a b=>¬ Cv (at_ ⟨[],[]⟩ M b) (at_ ⟨[],[]⟩ M a) < 0):=r3
 refine (hs.and vE).imp_of_mem (fun {a b} ha hb h=>?_)
 have h1:=iw.1 (r2.mem_iff.1 ha)
 have h2:=iw.1 (r2.mem_iff.1 hb)
 have hn:=xy.neg (at_ ⟨[],[]⟩ M a) (at_ ⟨[],[]⟩ M b)
 by_cases h0:Cv (at_ ⟨[],[]⟩ M a) (at_ ⟨[],[]⟩ M b)=0
 ·exfalso
  have e:=F6 h0
  unfold at_ at e
  rw [List.getD_eq_getElem?_getD,List.getD_eq_getElem?_getD,List.getElem?_eq_getElem (by omega),List.getElem?_eq_getElem (by omega)] at e
  have:=(List.getElem_inj hM).1 e
  exact h.2 (by omega)
 ·have:=h.1;omega
def nd (n:aq):au:=⟨n,0,0,[],0,[],[],[],[],[]⟩
structure HK (H:ch) (N:List aq) (F:aq→au) (ix:aq→Int):Prop where
 one:∀ n∈N,gL H.sX n=some (ix n)∧idx H.Cp (ix n)=some (F n)
 Ym:∀ n,n∉N→gL H.sX n=none
 ord:H.kV=N.map ix
 inj:∀ m∈N,∀ n∈N,ix m=ix n→m=n
theorem Le {α:Type} {l:List α} {i j:Int} {v u:α} (h:idx l i=some u):idx (l.set i.toNat v) j=if i=j then some v else idx l j:=by
 obtain ⟨h0,h1,_⟩:=fg h
 by_cases e:i=j
 ·subst e;rw [if_pos rfl];exact dw h
 ·rw [if_neg e]
  unfold idx
  split
  ·rw [List.getElem?_set_ne (by omega)]
  ·rfl
def r7 {V:Type} (F:aq→V) (n:aq) (v:V):aq→V:=fun m=>if m=n then v else F m
theorem HK.set {H:ch} {N:List aq} {F:aq→au} {ix:aq→Int} (h:HK H N F ix) {n:aq} (hn:n∈N) (v:au):HK ⟨H.sX,H.kV,H.Cp.set (ix n).toNat v⟩ N (r7 F n v) ix:=by
 refine ⟨fun m hm=>⟨(h.one m hm).1,?_⟩,h.Ym,h.ord,h.inj⟩
 show idx (H.Cp.set (ix n).toNat v) (ix m)=_
 rw [Le (h.one n hn).2]
 unfold r7
 by_cases e:m=n
 ·subst e;rw [if_pos rfl,if_pos rfl]
 ·rw [if_neg (fun z=>e (h.inj m hm n hn z.symm)),if_neg e];exact (h.one m hm).2
def pos (M:List aq) (n:aq):Int:=(M.idxOf n:Int)
theorem pos_at {M:List aq} {n:aq} (h:n∈M):0≤pos M n∧pos M n < M.length∧idx M (pos M n)=some n:=by
 have:=List.idxOf_lt_length_of_mem h
 unfold pos
 refine ⟨by omega,by omega,?_⟩
 unfold idx
 rw [if_pos (by omega),Int.toNat_natCast,List.getElem?_eq_getElem this,List.getElem_idxOf]
theorem Nx {M:List aq} {m n:aq} (hm:m∈M) (hn:n∈M) (h:pos M m=pos M n):m=n:=by
 have h1:=(pos_at hm).2.2;have h2:=(pos_at hn).2.2
 rw [h,h2] at h1
 exact (Option.some.inj h1).symm
theorem HZ {M:List aq} {m n:aq} (hm:m∈M):pos (M++[n]) m=pos M m:=by
 unfold pos;rw [List.idxOf_append,if_pos hm]
theorem Eu {M:List aq} {n:aq} (hn:n∉M):pos (M++[n]) n=M.length:=by
 unfold pos
 rw [List.idxOf_append,if_neg hn];simp
theorem F7 (l:List Signal) (hl:(l.length:Int)≤1000):∃ H N ix,ny l=some H∧HK H N nd ix∧N.Pairwise (fun a b=>Cv a b < 0)∧∀ n,n∈N↔n∈l.map mK:=by
 let Inv:Int→(List (aq×Int)×List aq)→Prop:=fun i s=>s.2=wy (l.take i.toNat)∧SM s.1∧∀ n,gL s.1 n=if n∈s.2 then some (pos s.2 n) else none
 let DA:(List (aq×Int)×List aq)→Signal→(List (aq×Int)×List aq):=fun s x=>if mK x∈s.2 then s else (pz s.1 (mK x) (s.2.length:Int),s.2++[mK x])
 have main:=uO (A:=ch) l (fun (s:List (aq×Int)×List aq) (i:Int)=>(s.1,s.2.map nd,places s.2.length,i)) (fun x:(List (aq×Int))×(List au)×(List Int)×Int=>eh l x.1 x.2.1 x.2.2.1 x.2.2.2) DA Inv (fun s=>mV s.1 (s.2.map nd) (places s.2.length))
  (fun s i x h0 h1 hx hv=>by
   obtain ⟨v1,v2,v3⟩:=hv
   have ht:l.take (i+1).toNat=l.take i.toNat++[x]:=take_succ h0 hx
   have hlen:=yV (l.take i.toNat)
   rw [← v1] at hlen
   have Oc:(l.take i.toNat).length≤l.length:=by rw [List.length_take];exact Nat.min_le_right _ _
   have hnx:(⟨x.Device,x.bg⟩:aq)=mK x:=rfl
   show eh l s.1 (s.2.map nd) (places s.2.length) i=some (.inl ((DA s x).1,(DA s x).2.map nd,places (DA s x).2.length,i+1))∧Inv (i+1) (DA s x)
   rw [eh,if_pos h1,hx]
   simp only [Option.bind_some]
   rw [hnx,v3 (mK x)]
   unfold kM
   rw [aU (by omega) (by omega)]
   by_cases hm:mK x∈s.2
   ·rw [if_pos hm]
    have es:DA s x=s:=if_pos hm
    rw [es]
    refine ⟨rfl,?_,v2,v3⟩
    rw [ht,uv,← v1]
    unfold vo;rw [if_pos hm]
   ·rw [if_neg hm]
    have es:DA s x=(pz s.1 (mK x) (s.2.length:Int),s.2++[mK x]):=if_neg hm
    rw [es,Ac]
    have hg:EN (s.2.map nd).length ((s.1.map Prod.snd)++places s.2.length)=some ():=by
     unfold EN
     rw [if_pos]
     intro j hj
     rw [List.length_map]
     rcases List.mem_append.1 hj with h | h
     ·obtain ⟨⟨n,v⟩,he,rfl⟩:=List.mem_map.1 h
      have P6:=(SM.Nq v2).2 he
      rw [v3 n] at P6
      split at P6
      ·rename_i hn
       obtain rfl:=Option.some.inj P6
       exact ⟨(pos_at hn).1,(pos_at hn).2.1⟩
      ·cases P6
     ·exact iw.1 h
    rw [hg]
    simp only [Option.bind_some]
    rw [mh (by rw [uQ];simp;omega)]
    simp only [Option.bind_some,List.length_map]
    refine ⟨?_,?_,v2.set _ _,fun n=>?_⟩
    ·rw [List.map_append,List.length_append,List.length_singleton,Ak];rfl
    ·rw [ht,uv,← v1]
     unfold vo;rw [if_neg hm]
    ·rw [Dx,v3 n]
     by_cases e:mK x=n
     ·subst e
      rw [if_pos rfl,if_pos (by simp),Eu hm]
     ·rw [if_neg e]
      by_cases hn:n∈s.2
      ·rw [if_pos hn,if_pos (by simp [hn]),HZ hn]
      ·rw [if_neg hn,if_neg (by simp [hn];exact fun z=>e z.symm)])
  (fun s hv=>by
   show eh l s.1 _ _ l.length=_
   rw [eh,if_neg (by omega)]) ([],[]) ⟨rfl,SM.nil,fun n=>rfl⟩
 have Sk:Inv l.length (l.foldl DA ([],[])):=by
  have key:∀ (k:Nat),k≤l.length→Inv k ((l.take k).foldl DA ([],[])):=by
   intro k
   induction k with
   | zero=>intro _;exact ⟨rfl,SM.nil,fun n=>rfl⟩
   | succ k ih=>
     intro hk
     obtain ⟨v1,v2,v3⟩:=ih (by omega)
     have hx:idx l (k:Int)=some l[k]:=by unfold idx;rw [if_pos (by omega),Int.toNat_natCast,List.getElem?_eq_getElem (by omega)]
     have ht:l.take (k+1)=l.take k++[l[k]]:=by rw [List.take_succ_eq_append_getElem]
     generalize hs:(l.take k).foldl DA ([],[])=s at v1 v2 v3
     have e:(l.take (k+1)).foldl DA ([],[])=DA s l[k]:=by rw [ht,List.foldl_append,hs];rfl
     rw [e]
     have PA:((k+1:Nat):Int).toNat=k+1:=by omega
     have LV:((k:Nat):Int).toNat=k:=by omega
     rw [LV] at v1
     by_cases hm:mK l[k]∈s.2
     ·have es:DA s l[k]=s:=if_pos hm
      rw [es]
      refine ⟨?_,v2,v3⟩
      rw [PA,ht,uv,← v1]
      unfold vo;rw [if_pos hm]
     ·have es:DA s l[k]=(pz s.1 (mK l[k]) (s.2.length:Int),s.2++[mK l[k]]):=if_neg hm
      rw [es]
      refine ⟨?_,v2.set _ _,fun n=>?_⟩
      ·rw [PA,ht,uv,← v1]
       unfold vo;rw [if_neg hm]
      ·show gL (pz s.1 (mK l[k]) (s.2.length:Int)) n=if n∈s.2++[mK l[k]] then some (pos (s.2++[mK l[k]]) n) else none
       rw [Dx,v3 n]
       by_cases e:mK l[k]=n
       ·subst e
        rw [if_pos rfl,if_pos (by simp),Eu hm]
       ·rw [if_neg e]
        by_cases hn:n∈s.2
        ·rw [if_pos hn,if_pos (by simp [hn]),HZ hn]
        ·rw [if_neg hn,if_neg (by simp [hn];exact fun z=>e z.symm)]
  have:=key l.length (Nat.le_refl _)
  rwa [List.take_length] at this
 generalize l.foldl DA ([],[])=s at main Sk
 obtain ⟨v1,v2,v3⟩:=Sk
 rw [Int.toNat_natCast,List.take_length] at v1
 have vE:s.2.Nodup:=by rw [v1];exact uu l
 have SR:s.2.length≤l.length:=by rw [v1];exact yV l
 obtain ⟨r,r1,r2,r3⟩:=Cf (fun y0 y1=>iV y0 y1) au.bl Et s.2 vE (by omega) nd (fun n=>rfl)
 refine ⟨⟨s.1,r,s.2.map nd⟩,r.map (at_ ⟨[],[]⟩ s.2),pos s.2,?_,?_,r3,?_⟩
 ·unfold ny tp
  refine main.trans ?_
  unfold mV
  rw [r1];rfl
 ·have oy:∀ n,n∈r.map (at_ ⟨[],[]⟩ s.2)↔n∈s.2:=by
   intro n
   rw [List.mem_map]
   constructor
   ·rintro ⟨i,hi,rfl⟩
    have:=iw.1 (r2.mem_iff.1 hi)
    exact na (uR this.1 this.2)
   ·intro hn
    have hp:=pos_at hn
    refine ⟨pos s.2 n,r2.mem_iff.2 (iw.2 ⟨hp.1,hp.2.1⟩),?_⟩
    have:=uR (d:=(⟨[],[]⟩:aq)) hp.1 hp.2.1
    rw [hp.2.2] at this
    exact (Option.some.inj this).symm
  refine ⟨fun n hn=>?_,fun n hn=>?_,?_,fun m hm n hn=>Nx ((oy m).1 hm) ((oy n).1 hn)⟩
  ·have N3:=(oy n).1 hn
   exact ⟨by rw [v3 n,if_pos N3],by rw [sP,(pos_at N3).2.2];rfl⟩
  ·rw [v3 n,if_neg (fun z=>hn ((oy n).2 z))]
  ·rw [List.map_map]
   refine (List.map_congr_left (g:=id) fun i hi=>?_).trans (List.map_id r)|>.symm
   have Gw:=iw.1 (r2.mem_iff.1 hi)
   have e1:=uR (d:=(⟨[],[]⟩:aq)) Gw.1 Gw.2
   have hn:=na e1
   have e2:=(pos_at hn).2
   show pos s.2 (at_ ⟨[],[]⟩ s.2 i)=i
   have h0:=fg e1;have h3:=fg e2.2
   have:i.toNat=(pos s.2 (at_ ⟨[],[]⟩ s.2 i)).toNat:=by
    have a1:=List.getElem?_eq_some_iff.1 h0.2.2
    have a2:=List.getElem?_eq_some_iff.1 h3.2.2
    obtain ⟨b1,c1⟩:=a1
    obtain ⟨b2,c2⟩:=a2
    exact (List.getElem_inj vE).1 (c1.trans c2.symm)
   omega
 ·intro n
  rw [← A0,← v1,List.mem_map]
  constructor
  ·rintro ⟨i,hi,rfl⟩
   have:=iw.1 (r2.mem_iff.1 hi)
   exact na (uR this.1 this.2)
  ·intro hn
   have hp:=pos_at hn
   refine ⟨pos s.2 n,r2.mem_iff.2 (iw.2 ⟨hp.1,hp.2.1⟩),?_⟩
   have:=uR (d:=(⟨[],[]⟩:aq)) hp.1 hp.2.1
   rw [hp.2.2] at this
   exact (Option.some.inj this).symm
structure VS (l:List Signal):Prop where
 ord:l.Pairwise (fun a b=>sO a b < 0)
 Qb:∀ s∈l,Ep s
 L5:∀ s∈l,0≤s.At∧s.At≤345686399999
 kind:∀ s∈l,1≤s.Kind∧s.Kind≤5
 key:∀ s∈l,gJ s.Device=true∧gJ s.bg=true
 PB:∀ s∈l,s.Kind=4→s.At+1≤s.bu∧s.bu≤345686400000
 len:(l.length:Int)≤15
theorem Oq {l:List Signal} (h:SG 15 l) (hc:pj l=0):VS l:=by
 obtain ⟨h1,h2⟩:=Nw hc
 have hb:∀ s∈l,(0≤s.At∧s.At≤345686399999)∧(1≤s.Kind∧s.Kind≤5)∧(gJ s.Device=true∧gJ s.bg=true)∧(s.Kind=4→s.At+1≤s.bu∧s.bu≤345686400000):=by
  intro s hs
  have:=h2 s hs
  unfold Aj at this
  by_cases c1:F1 s.At=false
  ·rw [if_pos c1] at this;cases this
  rw [if_neg c1] at this
  by_cases c2:(gJ s.Device&&gJ s.bg)=false
  ·rw [if_pos c2] at this;cases this
  rw [if_neg c2] at this
  by_cases c3:s.Kind < 1∨5 < s.Kind
  ·rw [if_pos c3] at this;cases this
  rw [if_neg c3] at this
  by_cases c4:3≤s.Kind∧gJ s.By=false
  ·rw [if_pos c4] at this;cases this
  rw [if_neg c4] at this
  by_cases c5:¬ 3≤s.Kind∧s.By≠[]
  ·rw [if_pos c5] at this;cases this
  rw [if_neg c5] at this
  by_cases c6:s.Kind=4∧(s.bu < s.At+1∨s.At+2592000000 < s.bu∨345686400000 < s.bu)
  ·rw [if_pos c6] at this;cases this
  refine ⟨?_,by omega,?_,fun h4=>by omega⟩
  ·unfold F1 at c1
   rw [← Bool.decide_and,Bool.not_eq_false,decide_eq_true_eq] at c1
   exact c1
  ·rw [Bool.not_eq_false,Bool.and_eq_true] at c2
   exact c2
 exact ⟨h1,h.2,fun s hs=>(hb s hs).1,fun s hs=>(hb s hs).2.1,fun s hs=>(hb s hs).2.2.1,fun s hs=>(hb s hs).2.2.2,h.1⟩
theorem Sl {a b:Signal} (h:sO a b < 0):a.At≤b.At:=by
 unfold sO at h
 rw [Cc] at h
 by_cases h0:sL a.At b.At=0
 ·have:=Du h0;omega
 ·rw [if_pos h0] at h
  unfold sL at h
  split at h
  ·omega
  ·split at h<;>omega
theorem VS.F8 {l:List Signal} (h:VS l):l.Pairwise (fun a b=>a.At≤b.At):=h.ord.imp Sl
theorem VS.sub {l p:List Signal} (h:VS l) (hp:p.Sublist l):VS p:=
 ⟨h.ord.sublist hp,fun s hs=>h.Qb s (hp.subset hs),fun s hs=>h.L5 s (hp.subset hs),fun s hs=>h.kind s (hp.subset hs),fun s hs=>h.key s (hp.subset hs),fun s hs=>h.PB s (hp.subset hs),by have:=hp.length_le;have:=h.len;omega⟩
def pre (l:List Signal) (m:Int):List Signal:=l.filter (fun s=>decide (s.At≤m))
theorem yW (l:List Signal) (m:Int):(pre l m).Sublist l:=List.filter_sublist
theorem Lf:∀ {l:List Signal},l.Pairwise (fun a b=>a.At≤b.At)→∀ {m:Int} {s:Signal} {a b:List Signal},l=a++s :: b→m < s.At→pre l m=pre a m:=by
 intro l hl m s a b e hm
 subst e
 unfold pre
 rw [List.filter_append]
 have:(s :: b).filter (fun s=>decide (s.At≤m))=[]:=by
  rw [List.filter_eq_nil_iff]
  intro x hx
  have h2:=(List.pairwise_append.1 hl).2.1
  rcases List.mem_cons.1 hx with rfl | hx
  ·simp;omega
  ·have:=(List.pairwise_cons.1 h2).1 x hx
   simp;omega
 rw [this,List.append_nil]
theorem Ev {l:List Signal} {m:Int} (h:∀ s∈l,s.At≤m):pre l m=l:=List.filter_eq_self.2 fun s hs=>decide_eq_true (h s hs)
def xz (F:aq→au) (s:Signal):aq→au:=r7 F (mK s) (wv (F (mK s)) s).2
def stepG (G:aq→an) (s:Signal):aq→an:=r7 G (mK s) (HX (G (mK s)) s).2
def FL (p:List Signal):aq→au:=p.foldl xz nd
def Ew (n:aq):an:=⟨n.aG,n.a8,[],0,⟨0,0⟩⟩
def TL (p:List Signal):aq→an:=p.foldl stepG Ew
theorem qF (p:List Signal) (s:Signal):FL (p++[s])=xz (FL p) s:=by unfold FL;rw [List.foldl_append];rfl
theorem wX (p:List Signal) (s:Signal):TL (p++[s])=stepG (TL p) s:=by unfold TL;rw [List.foldl_append];rfl
theorem LI0 (n:aq):LI 0 (nd n):=by
 refine ⟨fun h=>?_,fun h=>?_,fun h=>absurd rfl h,fun h=>?_,fun t ht=>?_,by simp [nd],by simp [nd],by simp [nd],by simp [nd],by simp [nd],by simp [nd]⟩
 ·simp [nd] at h
 ·rcases h with h | h<;>simp [nd] at h
 ·simp [nd] at h
 ·simp [nd] at ht
theorem yX {α:Type} {P:List α→Prop} (h0:P []) (h1:∀ l a,P l→P (l++[a])) (l:List α):P l:=by
 have key:∀ r:List α,P r.reverse:=by
  intro r
  induction r with
  | nil=>exact h0
  | cons a r ih=>rw [List.reverse_cons];exact h1 _ _ ih
 have:=key l.reverse
 rwa [List.reverse_reverse] at this
theorem RT0 (n:aq):RT 0 (nd n) (Ew n):=⟨rfl,rfl,rfl,rfl,rfl,Int.le_refl _,.inl rfl⟩
structure FoS (p:List Signal):Prop where
 li:∀ n,LI p.length (FL p n)
 rt:∀ (T:Int),0≤T→(∀ s∈p,s.At≤T)→∀ n,RT T (FL p n) (TL p n)
 nm:∀ n,(FL p n).bl=n
 tn:∀ n,(TL p n).aG=n.aG∧(TL p n).a8=n.a8
 dn:∀ n,((TL p n).bw.length:Int)≤p.length
 TS:∀ n,n∉p.map mK→FL p n=nd n∧TL p n=Ew n
theorem Lg (x:au) (s:Signal):(wv x s).2.bl=x.bl:=by
 unfold wv
 repeat' split
 all_goals rfl
theorem F9 (t:an) (s:Signal):(HX t s).2.aG=t.aG∧(HX t s).2.a8=t.a8∧((HX t s).2.bw.length:Int)≤t.bw.length+1:=by
 unfold HX
 repeat' split
 all_goals exact ⟨rfl,rfl,by simp [wx]<;>omega⟩
theorem ve:∀ (p:List Signal),VS p→FoS p:=by
 refine yX ?_ ?_
 ·intro _;exact ⟨LI0,fun T hT _ n=>(RT0 n).mono hT,fun _=>rfl,fun _=>⟨rfl,rfl⟩,fun _=>by simp [TL,Ew],fun _ _=>⟨rfl,rfl⟩⟩
 ·intro p s ih hv
  have hp:VS p:=hv.sub (List.sublist_append_left _ _)
  have ih:=ih hp
  have hs:s∈p++[s]:=by simp
  have hlen:((p++[s]).length:Int)=p.length+1:=by simp
  have hm:=hv.L5 s hs
  have sV:∀ x∈p,x.At≤s.At:=fun x hx=>(List.pairwise_append.1 hv.F8).2.2 x hx s (by simp)
  have st:∀ n,RT s.At (FL p n) (TL p n):=ih.rt s.At hm.1 sV
  refine ⟨fun n=>?_,fun T hT Yn n=>?_,fun n=>?_,fun n=>?_,fun n=>?_,fun n hn=>?_⟩
  ·rw [qF,hlen]
   unfold xz r7
   split
   ·exact (ih.li _).step hm.1 (hv.Qb s hs)
   ·exact (ih.li n).mono (by omega)
  ·rw [qF,wX]
   unfold xz stepG r7
   split
   ·exact ((st (mK s)).step (Int.le_refl _) hm.1 (hv.kind s hs)).2.mono (Yn s hs)
   ·exact (st n).mono (Yn s hs)
  ·rw [qF]
   unfold xz r7
   split
   ·rename_i e;rw [Lg,ih.nm];exact e.symm
   ·exact ih.nm n
  ·rw [wX]
   unfold stepG r7
   split
   ·rename_i e
    have:=F9 (TL p (mK s)) s
    rw [this.1,this.2.1,e];exact ih.tn _
   ·exact ih.tn n
  ·rw [wX,hlen]
   unfold stepG r7
   split
   ·have:=(F9 (TL p (mK s)) s).2.2
    have:=ih.dn (mK s)
    omega
   ·have:=ih.dn n;omega
  ·rw [List.map_append,List.mem_append] at hn
   have h1:n∉p.map mK:=fun z=>hn (.inl z)
   have h2:n≠mK s:=fun z=>hn (.inr (by simp [z]))
   rw [qF,wX]
   unfold xz stepG r7
   rw [if_neg h2,if_neg h2]
   exact ih.TS n h1
theorem Ja {p:List Signal} {s:Signal} (hv:VS (p++[s])):(wv (FL p (mK s)) s).1=(HX (TL p (mK s)) s).1:=by
 have hs:s∈p++[s]:=by simp
 have ih:=ve p (hv.sub (List.sublist_append_left _ _))
 exact ((ih.rt s.At (hv.L5 s hs).1 (fun x hx=>(List.pairwise_append.1 hv.F8).2.2 x hx s (by simp)) (mK s)).step (Int.le_refl _) (hv.L5 s hs).1 (hv.kind s hs)).1
theorem Ny {H:ch} {N:List aq} {p:List Signal} {ix:aq→Int} (h:HK H N (FL p) ix) {s:Signal} (hv:VS (p++[s])) (hn:mK s∈N):
 fQ H s=some ((wv (FL p (mK s)) s).1,⟨H.sX,H.kV,H.Cp.set (ix (mK s)).toNat (wv (FL p (mK s)) s).2⟩)∧HK ⟨H.sX,H.kV,H.Cp.set (ix (mK s)).toNat (wv (FL p (mK s)) s).2⟩ N (FL (p++[s])) ix:=by
 have hs:s∈p++[s]:=by simp
 have ih:=ve p (hv.sub (List.sublist_append_left _ _))
 have hl:=hv.len
 have hlen:((p++[s]).length:Int)=p.length+1:=by simp
 refine ⟨?_,by rw [qF];exact h.set hn _⟩
 unfold fQ
 have:=h.one (mK s) hn
 rw [show (⟨s.Device,s.bg⟩:aq)=mK s from rfl,this.1,Ad,this.2]
 simp only [Option.bind_some]
 rw [follow_eq (ih.li _) (by omega) (hv.L5 s hs).1 (hv.Qb s hs) (hv.kind s hs)]
 rfl
theorem Ot {l:List Signal} (hv:VS l) (m:Int):∃ H N ix,qO l m=some H∧HK H N (FL (pre l m)) ix∧N.Pairwise (fun a b=>Cv a b < 0)∧∀ n,n∈N↔n∈l.map mK:=by
 have hl:=hv.len
 obtain ⟨H0,N,ix,h1,h2,h3,h4⟩:=F7 l (by omega)
 have main:Ok (qO l m) (fun H=>HK H N (FL (pre l m)) ix):=by
  unfold qO
  rw [h1]
  simp only [Option.bind_some]
  unfold Ag
  refine Ok.K8 (R:=fun H=>HK H N (FL (pre l m)) ix) l.length (fun (s:ch) (i:Int)=>(s.sX,s.Cp,s.kV,i)) (fun i s=>HK s N (FL (pre (l.take i.toNat) m)) ix) (fun s i g0 g1 hk=>?_) H0 h2
  show Ok (o9 l m s.sX s.Cp s.kV i) _
  unfold o9 qN
  by_cases hi:i < l.length
  ·rw [if_pos hi]
   refine Ok.idx g0 hi (fun x hx IK=>?_)
   have ht:l.take (i+1).toNat=l.take i.toNat++[x]:=take_succ g0 hx
   rw [aU (x:=i+1) (by omega) (by omega)]
   by_cases hm:x.At≤m
   ·rw [if_pos hm]
    have hp:pre (l.take (i+1).toNat) m=pre (l.take i.toNat) m++[x]:=by
     rw [ht];unfold pre;rw [List.filter_append];simp [hm]
    have vk:(pre (l.take i.toNat) m++[x]).Sublist l:=by rw [← hp];exact (yW _ _).trans (List.take_sublist _ _)
    obtain ⟨e1,e2⟩:=Ny hk (hv.sub vk) ((h4 _).2 (List.mem_map.2 ⟨x,IK,rfl⟩))
    rw [show (⟨s.sX,s.kV,s.Cp⟩:ch)=s from rfl,e1]
    refine ⟨_,rfl,.inl ⟨_,rfl,by omega,?_⟩⟩
    rw [hp];exact e2
   ·rw [if_neg hm]
    refine ⟨_,rfl,.inl ⟨s,rfl,by omega,?_⟩⟩
    have hp:pre (l.take (i+1).toNat) m=pre (l.take i.toNat) m:=by
     rw [ht];unfold pre;rw [List.filter_append];simp [hm]
    rw [hp];exact hk
  ·rw [if_neg hi]
   refine ⟨_,rfl,.inr ⟨s,rfl,?_⟩⟩
   have:i.toNat=l.length:=by omega
   rw [this,List.take_length] at hk
   exact hk
 obtain ⟨H,e1,e2⟩:=main
 exact ⟨H,N,ix,e1,e2,h3,h4⟩
def Cw:List Signal→List Signal→List dc
 | _,[]=>[]
 | p,s :: r=>(if (wv (FL p (mK s)) s).1≠0 then [⟨(p.length:Int),(wv (FL p (mK s)) s).1⟩] else [])++Cw (p++[s]) r
theorem Ga:∀ (r p:List Signal) (s:Signal),Cw p (r++[s])=Cw p r++(if (wv (FL (p++r) (mK s)) s).1≠0 then [⟨((p++r).length:Int),(wv (FL (p++r) (mK s)) s).1⟩] else [])
 | [],p,s=>by simp [Cw]
 | x :: r,p,s=>by
   rw [List.cons_append]
   unfold Cw
   rw [Ga r (p++[x]) s]
   simp [List.append_assoc]
theorem H3:∀ (r p:List Signal),(Cw p r).length≤r.length
 | [],p=>by simp [Cw]
 | x :: r,p=>by
   unfold Cw
   have:=H3 r (p++[x])
   rw [List.length_append,List.length_cons]
   split<;>simp<;>omega
theorem Cg {V:Type} (M:List aq) (G:aq→V):∀ (r:List Int),(∀ i∈r,0≤i∧i < (M.length:Int))→idxs (M.map G) r=some ((r.map (at_ ⟨[],[]⟩ M)).map G)
 | [],_=>rfl
 | i :: r,h=>by
   unfold idxs
   have:=h i (by simp)
   rw [sP,uR (d:=(⟨[],[]⟩:aq)) this.1 this.2,Cg M G r (fun j hj=>h j (by simp [hj]))]
   rfl
theorem Jb (M:List aq):(places M.length).map (at_ ⟨[],[]⟩ M)=M:=by
 unfold places
 rw [List.map_map]
 apply List.ext_getElem?
 intro i
 rw [List.getElem?_map]
 by_cases h:i < M.length
 ·rw [List.getElem?_range h,List.getElem?_eq_getElem h]
  simp [at_,List.getD_eq_getElem?_getD,List.getElem?_eq_getElem h]
 ·rw [List.getElem?_eq_none (by simpa using h),List.getElem?_eq_none (by omega)];rfl
theorem DB (P:aq→Bool) (n:aq) (hP:∀ m,P m=decide (m=n)):∀ (M:List aq) (i:Int),jX P M i=if n∈M then i+pos M n else -1
 | [],i=>by simp [jX]
 | m :: M,i=>by
   unfold jX
   rw [hP]
   by_cases e:m=n
   ·subst e
    rw [decide_eq_true rfl,if_pos rfl,if_pos (by simp)]
    unfold pos;simp
   ·rw [decide_eq_false e,if_neg (by simp),DB P n hP M (i+1)]
    by_cases hm:n∈M
    ·rw [if_pos hm,if_pos (by simp [hm])]
     unfold pos
     rw [List.idxOf_cons,show (m==n)=false by simpa using e];simp;omega
    ·rw [if_neg hm,if_neg (by simp [hm];exact fun z=>e z.symm)]
theorem Jc (L:List an) (s:Signal) (hl:(L.length:Int)≤1000):dC L (fun y0=>some (jq y0 s))=some (jX (fun t=>jq t s) L 0):=
 qD L (fun y0=>some (jq y0 s)) (fun t=>jq t s) (fun _ _=>rfl) (by omega)
theorem DC {α β:Type} (f:α→β) (P:β→Bool):∀ (l:List α) (i:Int),jX P (l.map f) i=jX (fun x=>P (f x)) l i
 | [],_=>rfl
 | x :: r,i=>by
   rw [List.map_cons]
   unfold jX
   rw [DC f P r]
theorem Gb {V:Type} {M:List aq} (hn:M.Nodup) {n:aq} (h:n∈M) (G:aq→V) (v:V):(M.map G).set (pos M n).toNat v=M.map (r7 G n v):=by
 have hp:=List.idxOf_lt_length_of_mem h
 apply List.ext_getElem?
 intro i
 unfold pos
 rw [Int.toNat_natCast]
 by_cases e:M.idxOf n=i
 ·subst e
  rw [List.getElem?_set_self (by simpa using hp),List.getElem?_map,List.getElem?_eq_getElem hp,List.getElem_idxOf]
  simp [r7]
 ·rw [List.getElem?_set_ne e,List.getElem?_map,List.getElem?_map]
  cases hq:M[i]? with
  | none=>rfl
  | some m=>
    have:m≠n:=fun z=>by
     subst z
     obtain ⟨b,c⟩:=List.getElem?_eq_some_iff.1 hq
     have hh:M[M.idxOf m]'hp=M[i]'b:=by rw [List.getElem_idxOf,c]
     exact e ((List.getElem_inj hn).1 hh)
    simp [r7,this]
theorem Al {l:List Signal} (hv:VS l) (m:Int):∃ N:List aq,oY l m=some (N.map (TL (pre l m)),Cw [] (pre l m))∧N.Pairwise (fun a b=>Cv a b < 0)∧∀ n,n∈N↔n∈(pre l m).map mK:=by
 have hl:=hv.len
 have tail:∀ (p:List Signal),VS p→∃ N:List aq,kY ((wy p).map (TL p)) (places (wy p).length) (Cw [] p)=some (N.map (TL p),Cw [] p)∧N.Pairwise (fun a b=>Cv a b < 0)∧∀ n,n∈N↔n∈p.map mK:=by
  intro p hp
  have Mh:=hp.len
  have SR:=yV p
  have hf:=ve p hp
  obtain ⟨r,r1,r2,r3⟩:=Cf (fun y0 y1=>mH y0 y1) (fun t=>⟨t.aG,t.a8⟩) G1 (wy p) (uu p) (by omega) (TL p) (fun n=>by
   have:=hf.tn n
   rw [this.1,this.2])
  have hr:∀ i∈r,0≤i∧i < ((wy p).length:Int):=fun i hi=>iw.1 (r2.mem_iff.1 hi)
  refine ⟨r.map (at_ ⟨[],[]⟩ (wy p)),?_,r3,fun n=>?_⟩
  ·unfold kY
   rw [r1]
   simp only [Option.bind_some]
   rw [Cg _ _ _ hr];rfl
  ·rw [← A0,List.mem_map]
   constructor
   ·rintro ⟨i,hi,rfl⟩
    have:=hr i hi
    exact na (uR this.1 this.2)
   ·intro hn
    have hp:=pos_at hn
    refine ⟨pos (wy p) n,r2.mem_iff.2 (iw.2 ⟨hp.1,hp.2.1⟩),?_⟩
    have:=uR (d:=(⟨[],[]⟩:aq)) hp.1 hp.2.1
    rw [hp.2.2] at this
    exact (Option.some.inj this).symm
 have main:Ok (oY l m) (fun R=>∃ N:List aq,R=(N.map (TL (pre l m)),Cw [] (pre l m))∧N.Pairwise (fun a b=>Cv a b < 0)∧∀ n,n∈N↔n∈(pre l m).map mK):=by
  unfold oY xu
  refine Ok.K8 (σ:=List Signal) l.length (fun (p:List Signal) (i:Int)=>((wy p).map (TL p),places (wy p).length,Cw [] p,i)) (fun i p=>p=l.take i.toNat∧pre p m=p) (fun p i g0 g1 hk=>?_) [] ⟨rfl,rfl⟩
  obtain ⟨k1,k2⟩:=hk
  show Ok (mJ l m ((wy p).map (TL p)) (places (wy p).length) (Cw [] p) i) _
  unfold mJ
  have Mh:((l.take i.toNat).length:Int)≤15:=by rw [List.length_take];omega
  have SR:=yV p
  have Yo:VS p:=hv.sub (by rw [k1];exact List.take_sublist _ _)
  have fin:pre l m=p→Ok (Option.map Sum.inr (kY ((wy p).map (TL p)) (places (wy p).length) (Cw [] p))) (fun r=>(∃ s',r=Sum.inl ((wy s').map (TL s'),places (wy s').length,Cw [] s',i+1)∧i < l.length∧(s'=l.take (i+1).toNat∧pre s' m=s'))∨∃ a,r=Sum.inr a∧∃ N:List aq,a=(N.map (TL (pre l m)),Cw [] (pre l m))∧N.Pairwise (fun a b=>Cv a b < 0)∧∀ n,n∈N↔n∈(pre l m).map mK):=by
   intro hp
   obtain ⟨N,n1,n2,n3⟩:=tail p Yo
   rw [n1]
   refine ⟨_,rfl,.inr ⟨_,rfl,N,by rw [hp],n2,by rw [hp];exact n3⟩⟩
  by_cases hi:i < l.length
  ·rw [if_pos hi]
   refine Ok.idx g0 hi (fun x hx IK=>?_)
   have ht:l.take (i+1).toNat=l.take i.toNat++[x]:=take_succ g0 hx
   by_cases hm:m < x.At
   ·rw [if_pos hm]
    refine fin ?_
    have hd:=KW hx
    have:l=l.take i.toNat++x :: l.drop (i+1).toNat:=by rw [← hd,List.take_append_drop]
    rw [Lf hv.F8 this hm,← k1];exact k2
   ·rw [if_neg hm]
    have hVx:VS (p++[x]):=hv.sub (by rw [k1,← ht];exact List.take_sublist _ _)
    have hf:=ve p Yo
    have V5:(p.length:Int)=i:=by rw [k1,List.length_take];omega
    rw [Cg _ _ _ (fun j hj=>iw.1 hj),Jb]
    simp only [Option.bind_some]
    rw [Jc _ _ (by simp;omega),DC,DB _ (mK x) (fun n=>by
     have:=hf.tn n
     unfold jq oe
     rw [this.1,this.2,← Bool.decide_and]
     refine decide_eq_decide.2 ⟨fun z=>?_,fun z=>by subst z;exact ⟨rfl,rfl⟩⟩
     unfold mK;cases n;simp only at z;rw [z.1,z.2])]
    simp only [Option.bind_some]
    have j2:∀ (M:List aq) (hM:M.Nodup) (V6:mK x∈M),M=wy (p++[x])→Ok (mI (Cw [] p) i x (M.map (TL p)) (places M.length) (pos M (mK x))) (fun r=>(∃ s',r=Sum.inl ((wy s').map (TL s'),places (wy s').length,Cw [] s',i+1)∧i < l.length∧(s'=l.take (i+1).toNat∧pre s' m=s'))∨∃ a,r=Sum.inr a∧∃ N:List aq,a=(N.map (TL (pre l m)),Cw [] (pre l m))∧N.Pairwise (fun a b=>Cv a b < 0)∧∀ n,n∈N↔n∈(pre l m).map mK):=by
     intro M hM V6 V7
     have vg:=pos_at V6
     unfold mI oG
     rw [G2 ⟨vg.1,vg.2.1⟩]
     simp only [Option.bind_some]
     rw [sP,vg.2.2]
     simp only [Option.map_some,Option.bind_some]
     have LM:=hf.dn (mK x)
     rw [step_eq (by omega)]
     simp only [Option.bind_some]
     have Kn:=Ja hVx
     have hr:=Ga p [] x
     rw [List.nil_append,V5] at hr
     have hrl:=H3 p []
     have V8:(M.map (TL p)).set (pos M (mK x)).toNat (HX (TL p (mK x)) x).2=(wy (p++[x])).map (TL (p++[x])):=by
      rw [Gb hM V6,wX,← V7];rfl
     rw [V8,aU (x:=i+1) (by omega) (by omega)]
     have Mv:p++[x]=l.take (i+1).toNat∧pre (p++[x]) m=p++[x]:=by
      refine ⟨by rw [ht,k1],?_⟩
      unfold pre at k2 ⊢
      rw [List.filter_append,k2]
      have:x.At≤m:=by omega
      simp [this]
     rw [← Kn]
     by_cases h0:(wv (FL p (mK x)) x).1=0
     ·rw [if_neg (by simpa using h0)]
      rw [if_neg (by simpa using h0),List.append_nil] at hr
      exact ⟨_,rfl,.inl ⟨p++[x],by rw [hr,V7],hi,Mv⟩⟩
     ·rw [if_pos h0,mh (by simp;omega)]
      rw [if_pos h0] at hr
      exact ⟨_,rfl,.inl ⟨p++[x],by rw [hr,V7],hi,Mv⟩⟩
    by_cases LS:mK x∈wy p
    ·rw [if_pos LS]
     have vg:=pos_at LS
     rw [if_neg (by omega),Int.zero_add]
     exact j2 (wy p) (uu p) LS (by rw [uv];unfold vo;rw [if_pos LS])
    ·rw [if_neg LS,if_pos (by omega)]
     have hg:EN ((wy p).map (TL p)).length (places (wy p).length)=some ():=by
      unfold EN
      rw [if_pos]
      intro j hj
      rw [List.length_map];exact iw.1 hj
     rw [hg]
     simp only [Option.bind_some]
     rw [mh (by rw [uQ];simp;omega)]
     simp only [Option.bind_some,List.length_map]
     have hM:wy (p++[x])=wy p++[mK x]:=by rw [uv];unfold vo;rw [if_neg LS]
     have e0:TL p (mK x)=⟨x.Device,x.bg,[],0,⟨0,0⟩⟩:=(hf.TS (mK x) (fun z=>LS ((A0 p _).2 z))).2
     have:=j2 (wy p++[mK x]) (by rw [← hM];exact uu _) (by simp) hM.symm
     rw [Eu LS,List.length_append,List.length_singleton,Ak,List.map_append] at this
     rw [uQ,← e0]
     exact this
  ·rw [if_neg hi]
   refine fin ?_
   have:i.toNat=l.length:=by omega
   rw [this,List.take_length] at k1
   rw [← k1];exact k2
 obtain ⟨R,e1,N,rfl,e3,e4⟩:=main
 exact ⟨N,e1,e3,e4⟩
def rn (x:au) (m:Int):Int:=if m < x.ay then x.ay else 0
def xA (x:au) (m:Int):iL:=⟨x.bl.aG,x.bl.a8,x.aE,x.bX,(x.aY.length:Int),rn x m⟩
def Yp (x:au) (m:Int):Bool:=decide (x.aE≠0)||decide (0 < rn x m)
theorem Nz (x:au) (m:Int):mz x m=(xA x m,Yp x m):=by
 unfold mz jO jN xA Yp rn
 by_cases h:m < x.ay
 ·rw [if_pos h,if_pos h]
  by_cases h0:x.aE=0
  ·simp [h0]
  ·simp [h0]
 ·rw [if_neg h,if_neg h]
  by_cases h0:x.aE=0
  ·simp [h0]
  ·simp [h0]
def Ex (t:an) (m:Int):Int:=if t.ay.aM≤m∧m < t.ay.To then t.ay.To else 0
def Ey (t:an) (m:Int):iL:=⟨t.aG,t.a8,t.aE,r6 t.bw,((nL t.bw).length:Int),Ex t m⟩
def Ch (a:Int×Int) (s:Signal):Int×Int:=(if s.Kind≤3 then s.At else a.1,if s.Kind=1 then a.2+1 else a.2)
theorem Am:∀ (l:List Signal) (a:Int×Int),l.foldl Ch a=(l.foldl (fun a s=>if s.Kind≤3 then s.At else a) a.1,a.2+(nL l).length)
 | [],a=>by simp [nL]
 | s :: r,a=>by
   rw [List.foldl_cons,Am r]
   unfold Ch nL
   by_cases h:s.Kind=1
   ·simp [h];omega
   ·simp [h]
theorem Lh {t:an} (hl:(t.bw.length:Int)≤1000) (m:Int):oH t m=some (Ey t m):=by
 unfold oH ue
 have main:=uO (A:=iL) t.bw (fun (s:Int×Int) (i:Int)=>(s.1,s.2,i)) (fun x:Int×Int×Int=>eW t m x.1 x.2.1 x.2.2) Ch (fun i s=>0≤s.2∧s.2≤i) (fun s=>lK t s.1 s.2 ((decide (t.ay.aM≤m))&&(decide (m < t.ay.To))))
  (fun s i x h0 h1 hx hv=>by
   refine ⟨?_,?_⟩
   ·show eW t m s.1 s.2 i=_
    rw [eW,if_pos h1,hx]
    simp only [Option.bind_some]
    unfold lI lH Ch
    rw [aU (x:=i+1) (by omega) (by omega),aU (x:=s.2+1) (by omega) (by omega)]
    by_cases a1:x.Kind≤3<;>by_cases a2:x.Kind=1<;>simp [a1,a2]
   ·unfold Ch
    simp only
    split<;>omega)
  (fun s hv=>by
   show eW t m s.1 s.2 t.bw.length=_
   rw [eW,if_neg (by omega)]) (0,0) ⟨by simp,by simp⟩
 refine main.trans ?_
 rw [Am]
 unfold lK lJ Ey Ex
 rw [← Bool.decide_and]
 by_cases h:t.ay.aM≤m∧m < t.ay.To
 ·rw [decide_eq_true h,if_pos rfl,if_pos h];simp [r6]
 ·rw [decide_eq_false h,if_neg (by simp),if_neg h];simp [r6]
theorem RT.view {m:Int} {x:au} {t:an} (h:RT m x t):xA x m=Ey t m:=by
 unfold xA Ey
 rw [h.dev,h.TR,h.st,h.since,h.Es]
 have:rn x m=Ex t m:=by
  unfold rn Ex
  have:=h.from_
  rcases h.sh with e | e
  ·rw [e]
   by_cases hm:m < t.ay.To
   ·rw [if_pos hm,if_pos ⟨this,hm⟩]
   ·rw [if_neg hm,if_neg (fun z=>hm z.2)]
  ·rw [if_neg (by omega),if_neg (fun z=>by omega)]
 rw [this]
theorem Ou {N:List aq} (hs:N.Pairwise (fun a b=>Cv a b < 0)) {l:List Signal} (h:∀ n,n∈N↔n∈l.map mK):N.length≤l.length:=by
 have hp:N.Perm (wy l):=(List.perm_ext_iff_of_nodup (yR xy hs) (uu l)).2 fun n=>(h n).trans (A0 l n).symm
 rw [hp.length_eq];exact yV l
theorem H4 {m:Int} (hm:0≤m) (n:aq):rn (nd n) m=0:=by
 unfold rn nd
 simp only
 rw [if_neg (by omega)]
theorem PC (l:List Signal) (m:Int):∀ s∈pre l m,s.At≤m:=fun s hs=>by
 have:=(List.mem_filter.1 hs).2
 simpa using this
theorem Ez {l:List Signal} (hB:∀ x∈l,Ep x) (d r:bO):mw l d r=some (o6 [pj l,if gJ d=true then 0 else 5,if gJ r=true then 0 else 5]):=by
 unfold mw jM
 rw [vc hB,tL,tL]
 simp only [Option.bind_some]
 rw [Cc]
 by_cases hc:pj l=0
 ·simp only [hc,ne_eq,not_true_eq_false,if_false]
  cases gJ d<;>cases gJ r<;>simp [o6]
 ·rw [if_pos hc,if_pos hc]
theorem Sm (a b c e:Int):o6 [a,b,c,e]=if o6 [a,b,c]≠0 then o6 [a,b,c] else e:=by
 by_cases h1:a=0<;>by_cases h2:b=0<;>by_cases h3:c=0<;>simp [o6,h1,h2,h3]
 intro h;omega
theorem G3 {l:List Signal} (hB:∀ x∈l,Ep x) (hv:pj l=0→VS l) (d r:bO) (m:Int):
 oI l d r m=some (if o6 [pj l,if gJ d=true then 0 else 5,if gJ r=true then 0 else 5,if 0≤m∧m≤345686399999 then 0 else 1]≠0 then (⟨[],[],0,0,0,0⟩,o6 [pj l,if gJ d=true then 0 else 5,if gJ r=true then 0 else 5,if 0≤m∧m≤345686399999 then 0 else 1])
  else (xA (FL (pre l m) ⟨d,r⟩) m,0)):=by
 unfold oI
 rw [Ez hB]
 simp only [Option.bind_some]
 rw [Sm]
 by_cases he:o6 [pj l,if gJ d=true then 0 else 5,if gJ r=true then 0 else 5]=0
 ·have hc:pj l=0:=jQ he _ (by simp)
  have hv:=hv hc
  simp only [he,ne_eq,not_true_eq_false,if_false]
  rw [Dy]
  by_cases hm:0≤m∧m≤345686399999
  ·simp only [hm,and_self,decide_true,Bool.and_self,Bool.not_true,Bool.false_eq_true,if_true,if_false,not_true_eq_false]
   obtain ⟨H,N,ix,a1,a2,a3,a4⟩:=Ot hv m
   rw [a1]
   simp only [Option.bind_some]
   by_cases hn:(⟨d,r⟩:aq)∈N
   ·rw [(a2.one _ hn).1,Ad,(a2.one _ hn).2]
    simp only [Option.bind_some]
    rw [Nz]
   ·rw [a2.Ym _ hn,Ac]
    have hf:=ve _ (hv.sub (yW l m))
    rw [(hf.TS ⟨d,r⟩ (fun z=>hn ((a4 _).2 (by
     obtain ⟨s,hs,e⟩:=List.mem_map.1 z
     exact List.mem_map.2 ⟨s,(yW l m).subset hs,e⟩)))).1]
    unfold xA
    rw [H4 hm.1];rfl
  ·rw [if_pos (by rw [← Bool.decide_and,decide_eq_false hm];rfl),if_neg hm,if_pos (by simp)]
 ·generalize o6 [pj l,if gJ d=true then 0 else 5,if gJ r=true then 0 else 5]=e at he ⊢
  simp [he]
theorem G4 {l:List Signal} (hv:VS l) (d r:bO) {m:Int} (hm:0≤m):uf l d r m=some (xA (FL (pre l m) ⟨d,r⟩) m):=by
 obtain ⟨N',t1,t2,t3⟩:=Al hv m
 have hf:=ve _ (hv.sub (yW l m))
 have hl:=hv.len
 have Mh:=(yW l m).length_le
 have hN:=Ou t2 t3
 unfold uf
 rw [t1]
 simp only [Option.bind_some]
 unfold yA
 have key:∀ (k:Nat) (i:Int),0≤i→i+k=N'.length→iter (fun x:Int=>mg d r m (N'.map (TL (pre l m)),Cw [] (pre l m)) x) i=some (if (⟨d,r⟩:aq)∈N'.drop i.toNat then xA (FL (pre l m) ⟨d,r⟩) m else ⟨d,r,0,0,0,0⟩):=by
  intro k
  induction k with
  | zero=>
    intro i h0 h1
    rw [iter_eq,mg,if_neg (by simp;omega),bV,List.drop_of_length_le (by omega),if_neg (by simp)]
  | succ k ih=>
    intro i h0 h1
    obtain ⟨n,hx,_,hd⟩:=jY N' h0 (by omega)
    rw [iter_eq,mg,if_pos (by simp;omega)]
    simp only
    rw [sP,hx]
    simp only [Option.map_some,Option.bind_some]
    have P5:=hf.tn n
    unfold rW
    rw [P5.1,P5.2,← Bool.decide_and,hd]
    by_cases e:n.aG=d∧n.a8=r
    ·have en:n=⟨d,r⟩:=by cases n;simp only at e;rw [e.1,e.2]
     have LM:=hf.dn n
     rw [decide_eq_true e,if_pos rfl,Lh (by omega)]
     simp only [Option.bind_some,bV]
     rw [if_pos (by rw [en];simp),← (hf.rt m hm (PC l m) n).view,en]
    ·have en:(⟨d,r⟩:aq)≠n:=fun z=>e (by rw [← z];exact ⟨rfl,rfl⟩)
     rw [decide_eq_false e,if_neg (by simp),aU (by omega) (by omega)]
     simp only [Option.bind_some,cK]
     rw [ih (i+1) (by omega) (by omega)]
     simp only [List.mem_cons,en,false_or]
 rw [key N'.length 0 (by omega) (by omega)]
 by_cases hn:(⟨d,r⟩:aq)∈N'
 ·rw [if_pos (by simpa using hn)]
 ·rw [if_neg (by simpa using hn),(hf.TS ⟨d,r⟩ (fun z=>hn ((t3 _).2 z))).1]
  unfold xA
  rw [H4 hm];rfl
theorem G5:ug=some true:=by
 unfold ug rZ
 have hB:∀ x∈[(⟨1,1,[100],[114],[],0⟩:Signal)],Ep x:=by
  intro x hx
  rw [List.mem_singleton] at hx
  subst hx
  unfold Ep;simp
 have hc:pj [(⟨1,1,[100],[114],[],0⟩:Signal)]=0:=by decide
 rw [G3 hB (fun h=>Oq ⟨by simp,hB⟩ h)]
 rw [if_neg (by rw [hc];decide)]
 simp only [Option.bind_some]
 decide
def Jv (W:List ar) (t:Int):Prop:=∃ w∈W,w.aM≤t∧t < w.To
theorem yY (u:List ar) (w:ar) (t:Int):jS (u++[w]) t=u++[⟨w.aM,t⟩]:=by
 unfold jS
 rw [List.set_append_right _ _ (by simp)]
 simp
theorem yZ {W:List ar} {w:ar} {t:Int}:Jv (W++[w]) t↔Jv W t∨(w.aM≤t∧t < w.To):=by
 unfold Jv
 constructor
 ·rintro ⟨x,hx,e⟩
  rcases List.mem_append.1 hx with e' | e'
  ·exact .inl ⟨x,e',e⟩
  ·rw [List.mem_singleton] at e';subst e';exact .inr e
 ·rintro (⟨x,hx,e⟩ | e)
  ·exact ⟨x,List.mem_append_left _ hx,e⟩
  ·exact ⟨w,by simp,e⟩
theorem Li (p:List Signal) (s:Signal) (t:Int):pre (p++[s]) t=if s.At≤t then pre p t++[s] else pre p t:=by
 unfold pre
 rw [List.filter_append]
 by_cases h:s.At≤t<;>simp [h]
def uw:List Signal→Option Int
 | []=>none
 | s :: r=>if s.Kind=2∨s.Kind=3 then some s.At else uw r
def uA:List Signal→List (Int×Option Int)
 | []=>[]
 | s :: r=>if s.Kind=1 then (s.At,uw r) :: uA r else uA r
def Lj (p:Int×Option Int):ar:=⟨p.1,p.2.getD 345686400000⟩
def Yq (t:Int) (p:Int×Option Int):Int×Option Int:=(p.1,some (p.2.getD t))
theorem DD:∀ (d:List Signal) (s:Signal),uw (d++[s])=if s.Kind=2∨s.Kind=3 then some ((uw d).getD s.At) else uw d
 | [],s=>by
   show (if s.Kind=2∨s.Kind=3 then some s.At else uw [])=_
   rfl
 | x :: d,s=>by
   show (if x.Kind=2∨x.Kind=3 then some x.At else uw (d++[s]))=_
   rw [show uw (x :: d)=if x.Kind=2∨x.Kind=3 then some x.At else uw d from rfl]
   by_cases h:x.Kind=2∨x.Kind=3
   ·rw [if_pos h,if_pos h];split<;>rfl
   ·rw [if_neg h,if_neg h];exact DD d s
theorem wz:∀ (d:List Signal) (s:Signal),uA (d++[s])=if s.Kind=1 then uA d++[(s.At,none)] else if s.Kind=2∨s.Kind=3 then (uA d).map (Yq s.At) else uA d
 | [],s=>by
   show (if s.Kind=1 then (s.At,uw []) :: uA [] else uA [])=_
   by_cases h:s.Kind=1
   ·rw [if_pos h,if_pos h];rfl
   ·rw [if_neg h,if_neg h];split<;>rfl
 | x :: d,s=>by
   show (if x.Kind=1 then (x.At,uw (d++[s])) :: uA (d++[s]) else uA (d++[s]))=_
   rw [DD d s,wz d s,show uA (x :: d)=if x.Kind=1 then (x.At,uw d) :: uA d else uA d from rfl]
   by_cases hx:x.Kind=1
   ·rw [if_pos hx,if_pos hx]
    by_cases h:s.Kind=1
    ·rw [if_pos h,if_pos h,if_neg (by omega)];rfl
    ·rw [if_neg h,if_neg h]
     by_cases h2:s.Kind=2∨s.Kind=3
     ·rw [if_pos h2,if_pos h2,if_pos h2];rfl
     ·rw [if_neg h2,if_neg h2,if_neg h2]
   ·rw [if_neg hx,if_neg hx]
theorem Lk {t:Int} {l:List (Int×Option Int)} (h:∀ w∈l,w.2≠none):l.map (Yq t)=l:=by
 rw [List.map_congr_left (g:=id) (fun w hw=>?_),List.map_id]
 have:=h w hw
 obtain ⟨a,e⟩:=w
 cases e with
 | none=>exact absurd rfl this
 | some e=>rfl
structure UF (T:Int) (x:au) (d:List Signal):Prop where
 fr:x.bt=(uA d).map Lj
 on:x.aE=1→∃ u f,uA d=u++[(f,none)]∧∀ w∈u,w.2≠none
 off:x.aE≠1→∀ w∈uA d,w.2≠none
 bd:∀ w∈uA d,0≤w.1∧w.1≤T∧∀ e,w.2=some e→e≤T
 pw:(uA d).Pairwise (fun a b=>∃ e,a.2=some e∧e≤b.1)
theorem UF.mono {T T':Int} {x:au} {d:List Signal} (h:UF T x d) (hT:T≤T'):UF T' x d:=
 ⟨h.fr,h.on,h.off,fun w hw=>by
   obtain ⟨a,b,c⟩:=h.bd w hw
   exact ⟨a,by omega,fun e he=>by have:=c e he;omega⟩,h.pw⟩
theorem UF.yT {T:Int} {x y:au} {d d':List Signal} (h:UF T x d) (h1:y.bt=x.bt) (h2:y.aE=1↔x.aE=1) (h3:uA d'=uA d):UF T y d':=
 ⟨by rw [h1,h3];exact h.fr,by rw [h2,h3];exact h.on,fun z=>by rw [h3];exact h.off (fun z'=>z (h2.2 z')),by rw [h3];exact h.bd,by rw [h3];exact h.pw⟩
theorem UF.close {T:Int} {x y:au} {d:List Signal} {s:Signal} (h:UF T x d) (hT:T≤s.At) (hs:x.aE=1) (hk:s.Kind=2∨s.Kind=3) (h1:y.bt=jS x.bt s.At) (h2:y.aE≠1):UF s.At y (d++[s]):=by
 obtain ⟨u,f,a,b⟩:=h.on hs
 have e:uA (d++[s])=u++[(f,some s.At)]:=by
  rw [wz,if_neg (by omega),if_pos hk,a,List.map_append,Lk b];rfl
 have Qa:=h.bd
 have TT:=h.pw
 rw [a] at Qa TT
 rw [List.pairwise_append] at TT
 have hN:∀ w∈u++[(f,some s.At)],w.2≠none:=fun w hw=>by
  rcases List.mem_append.1 hw with z | z
  ·exact b w z
  ·rw [List.mem_singleton] at z;subst z;simp
 refine ⟨?_,fun z=>absurd z h2,fun _=>by rw [e];exact hN,?_,?_⟩
 ·rw [h1,h.fr,a,e,List.map_append,List.map_append]
  exact yY _ _ _
 ·rw [e]
  intro w hw
  rcases List.mem_append.1 hw with z | z
  ·obtain ⟨p,q,r⟩:=Qa w (List.mem_append_left _ z)
   exact ⟨p,by omega,fun e he=>by have:=r e he;omega⟩
  ·rw [List.mem_singleton] at z;subst z
   obtain ⟨p,q,r⟩:=Qa (f,none) (by simp)
   simp only at p q
   exact ⟨p,by simp only;omega,fun e he=>by cases he;exact Int.le_refl _⟩
 ·rw [e,List.pairwise_append]
  refine ⟨TT.1,List.pairwise_singleton _ _,fun p hp q hq=>?_⟩
  rw [List.mem_singleton] at hq;subst hq
  exact TT.2.2 p hp (f,none) (by simp)
theorem UF.step {T:Int} {x:au} {t:an} (h:UF T x t.bw) (xn:x.aE=t.aE) {s:Signal} (hT:T≤s.At) (h0:0≤s.At):UF s.At (wv x s).2 (HX t s).2.bw:=by
 have hm:=h.mono hT
 have snc:∀ k:Int,s.Kind=k→k≠1→k≠2→k≠3→uA (t.bw++[s])=uA t.bw:=fun k a b c e=>by
  rw [wz,if_neg (by omega),if_neg (by omega)]
 have Sn:(s.Kind=2∨s.Kind=3)→x.aE≠1→uA (t.bw++[s])=uA t.bw:=fun a b=>by
  rw [wz,if_neg (by omega),if_pos a,Lk (h.off b)]
 unfold wv HX
 rw [← xn]
 by_cases k1:s.Kind=1
 ·rw [if_pos k1,if_pos k1]
  by_cases hq:r4 x.aE
  ·rw [if_pos hq,if_pos hq];exact hm
  ·rw [if_neg hq,if_neg hq]
   have h1:x.aE≠1:=fun z=>hq (.inl z)
   have e:uA (t.bw++[s])=uA t.bw++[(s.At,none)]:=by rw [wz,if_pos k1]
   show UF s.At (Lc (jr x 1 s.At) s.At) (t.bw++[s])
   refine ⟨?_,fun _=>⟨_,_,e,h.off h1⟩,fun z=>absurd rfl z,?_,?_⟩
   ·show (jr x 1 s.At).bt=_
    unfold jr
    simp only
    rw [if_pos trivial,if_neg h1,e,List.map_append,h.fr];rfl
   ·rw [e]
    intro w hw
    rcases List.mem_append.1 hw with z | z
    ·exact hm.bd w z
    ·rw [List.mem_singleton] at z;subst z
     exact ⟨h0,Int.le_refl _,fun e he=>by cases he⟩
   ·rw [e,List.pairwise_append]
    refine ⟨h.pw,List.pairwise_singleton _ _,fun p hp q hq=>?_⟩
    rw [List.mem_singleton] at hq;subst hq
    cases Gt:p.2 with
    | none=>exact absurd Gt (h.off h1 p hp)
    | some e=>
      have:=(h.bd p hp).2.2 e Gt
      exact ⟨e,rfl,by simp only;omega⟩
 ·rw [if_neg k1,if_neg k1]
  have f0:∀ st:Int,st≠1→x.aE≠1→(jr x st s.At).bt=x.bt:=fun st a b=>by
   unfold jr
   simp only
   rw [if_neg a,if_neg b]
  have f1:∀ st:Int,st≠1→x.aE=1→(jr x st s.At).bt=jS x.bt s.At:=fun st a b=>by
   unfold jr
   simp only
   rw [if_neg a,if_pos b]
  by_cases k2:s.Kind=2
  ·rw [if_pos k2,if_pos k2]
   by_cases s1:x.aE=1
   ·rw [if_pos s1,if_pos s1]
    exact h.close (y:=jr x 3 s.At) hT s1 (.inl k2) (f1 3 (by omega) s1) (show (3:Int)≠1 by omega)
   ·rw [if_neg s1,if_neg s1]
    by_cases s2:x.aE=2
    ·rw [if_pos s2,if_pos s2]
     exact hm.yT (y:=jr x 0 s.At) (f0 0 (by omega) s1) ⟨fun z=>absurd (show (0:Int)=1 from z) (by omega),fun z=>absurd z s1⟩ (Sn (.inl k2) s1)
    ·rw [if_neg s2,if_neg s2];exact hm
  ·rw [if_neg k2,if_neg k2]
   by_cases k3:s.Kind=3
   ·rw [if_pos k3,if_pos k3]
    by_cases s3:x.aE=3
    ·rw [if_pos s3,if_pos s3]
     exact hm.yT (y:=G0 (jr x 0 s.At) s.At) (f0 0 (by omega) (by omega)) ⟨fun z=>absurd (show (0:Int)=1 from z) (by omega),fun z=>absurd z (by omega)⟩ (Sn (.inr k3) (by omega))
    ·rw [if_neg s3,if_neg s3]
     by_cases s1:x.aE=1
     ·rw [if_pos s1,if_pos s1]
      exact h.close (y:=G0 (jr x 2 s.At) s.At) hT s1 (.inr k3) (f1 2 (by omega) s1) (show (2:Int)≠1 by omega)
     ·rw [if_neg s1,if_neg s1];exact hm
   ·rw [if_neg k3,if_neg k3]
    have hs:uA (t.bw++[s])=uA t.bw:=snc _ rfl k1 k2 k3
    have a1:∀ y:au,y.bt=x.bt→y.aE=x.aE→UF s.At y t.bw∧UF s.At y (t.bw++[s]):=fun y p q=>
     ⟨hm.yT p (by rw [q]) rfl,hm.yT p (by rw [q]) hs⟩
    by_cases k4:s.Kind=4
    ·rw [if_pos k4,if_pos k4]
     split<;>split
     ·refine (a1 _ ?_ ?_).1<;>rfl
     ·refine (a1 _ ?_ ?_).2<;>rfl
     ·refine (a1 _ ?_ ?_).1<;>rfl
     ·refine (a1 _ ?_ ?_).2<;>rfl
    ·rw [if_neg k4,if_neg k4]
     split<;>split
     ·refine (a1 _ ?_ ?_).2<;>rfl
     ·refine (a1 _ ?_ ?_).1<;>rfl
     ·refine (a1 _ ?_ ?_).2<;>rfl
     ·refine (a1 _ ?_ ?_).1<;>rfl
theorem Sp (n:aq):∀ (p:List Signal),VS p→∀ T:Int,0≤T→(∀ s∈p,s.At≤T)→UF T (FL p n) (TL p n).bw:=by
 refine yX ?_ ?_
 ·intro _ T hT _
  refine ⟨rfl,fun z=>?_,fun _ w hw=>?_,fun w hw=>?_,List.Pairwise.nil⟩
  ·exact absurd (show (0:Int)=1 from z) (by omega)
  ·cases hw
  ·cases hw
 ·intro p s ih hv T hT hle
  have hp:VS p:=hv.sub (List.sublist_append_left _ _)
  have hs:s∈p++[s]:=by simp
  have hm:=hv.L5 s hs
  have sV:∀ x∈p,x.At≤s.At:=fun x hx=>(List.pairwise_append.1 hv.F8).2.2 x hx s (by simp)
  have i:=ih hp s.At hm.1 sV
  rw [qF,wX]
  unfold xz stepG r7
  by_cases hn:n=mK s
  ·rw [if_pos hn,if_pos hn]
   rw [hn] at i
   exact (i.step ((ve p hp).rt s.At hm.1 sV (mK s)).st (Int.le_refl _) hm.1).mono (hle s hs)
  ·rw [if_neg hn,if_neg hn]
   exact i.mono (hle s hs)
structure UA (p:List Signal) (n:aq) (x:au):Prop where
 cv:∀ t,0≤t→(Jv x.aW t↔t < (FL (pre p t) n).ay)
 la:(x.aW=[]∧x.ay=0)∨∃ u f,x.aW=u++[⟨f,x.ay⟩]∧f≤x.ay∧(∀ w∈u,w.To≤f)
 mx:∀ w∈x.aW,w.To≤x.ay
 fm:∀ w∈x.aW,∃ s∈p,w.aM≤s.At
theorem Gc {W:List ar} {T t:Int} (h:∀ w∈W,w.To≤T) (ht:T≤t):¬ Jv W t:=fun ⟨w,hw,_,e⟩=>by have:=h w hw;omega
theorem DE (x:au) (s:Signal) (hK:1≤s.Kind∧s.Kind≤5):
 ((wv x s).2.aW=x.aW∧(wv x s).2.ay=x.ay)∨
 (s.Kind=4∧x.ay≤s.At∧(wv x s).2.aW=x.aW++[⟨s.At,s.bu⟩]∧(wv x s).2.ay=s.bu)∨
 (s.At < x.ay∧(wv x s).2.aW=jS x.aW s.At∧(wv x s).2.ay=s.At):=by
 unfold wv
 by_cases k1:s.Kind=1
 ·rw [if_pos k1];split<;>exact .inl ⟨rfl,rfl⟩
 ·rw [if_neg k1]
  by_cases k2:s.Kind=2
  ·rw [if_pos k2];repeat' split
   all_goals exact .inl ⟨rfl,rfl⟩
  ·rw [if_neg k2]
   by_cases k3:s.Kind=3
   ·rw [if_pos k3];repeat' split
    all_goals exact .inl ⟨rfl,rfl⟩
   ·rw [if_neg k3]
    by_cases k4:s.Kind=4
    ·rw [if_pos k4]
     by_cases h:s.At < x.ay
     ·rw [if_pos h];exact .inl ⟨rfl,rfl⟩
     ·rw [if_neg h];exact .inr (.inl ⟨k4,by omega,rfl,rfl⟩)
    ·rw [if_neg k4]
     by_cases h:x.ay≤s.At
     ·rw [if_pos h];exact .inl ⟨rfl,rfl⟩
     ·rw [if_neg h];exact .inr (.inr ⟨by omega,rfl,rfl⟩)
theorem Ov (n:aq):∀ (p:List Signal),VS p→UA p n (FL p n):=by
 refine yX ?_ ?_
 ·intro _
  refine ⟨fun t ht=>⟨fun z=>(by obtain ⟨w,hw,_⟩:=z;cases hw),fun z=>?_⟩,.inl ⟨rfl,rfl⟩,fun w hw=>(by cases hw),fun w hw=>(by cases hw)⟩
  have:t < (0:Int):=z
  omega
 ·intro p s ih hv
  have hp:VS p:=hv.sub (List.sublist_append_left _ _)
  have ih:=ih hp
  have hs:s∈p++[s]:=by simp
  have hm:=hv.L5 s hs
  have sV:∀ x∈p,x.At≤s.At:=fun x hx=>(List.pairwise_append.1 hv.F8).2.2 x hx s (by simp)
  have late:∀ t,s.At≤t→pre (p++[s]) t=p++[s]:=fun t ht=>Ev fun x hx=>by
   rcases List.mem_append.1 hx with e | e
   ·have:=sV x e;omega
   ·rw [List.mem_singleton] at e;subst e;exact ht
  have early:∀ t,t < s.At→pre (p++[s]) t=pre p t:=fun t ht=>by rw [Li,if_neg (by omega)]
  have Ow:∀ t,s.At≤t→pre p t=p:=fun t ht=>Ev fun x hx=>by have:=sV x hx;omega
  have TU:∀ w∈(FL p n).aW,∃ x∈p++[s],w.aM≤x.At:=fun w hw=>by
   obtain ⟨x,hx,e⟩:=ih.fm w hw
   exact ⟨x,List.mem_append_left _ hx,e⟩
  by_cases hn:n=mK s
  ·have xn:FL (p++[s]) n=(wv (FL p n) s).2:=by
    rw [qF];unfold xz r7;rw [if_pos hn,hn]
   rw [xn]
   have V9:∀ W:List ar,(∀ t,t < s.At→(Jv W t↔Jv (FL p n).aW t))→(∀ t,s.At≤t→(Jv W t↔t < (wv (FL p n) s).2.ay))→∀ t,0≤t→(Jv W t↔t < (FL (pre (p++[s]) t) n).ay):=by
    intro W c1 c2 t h0
    by_cases ht:s.At≤t
    ·rw [late t ht,c2 t ht,xn]
    ·rw [early t (by omega),c1 t (by omega)];exact ih.cv t h0
   rcases DE (FL p n) s (hv.kind s hs) with ⟨e1,e2⟩ | ⟨k,e0,e1,e2⟩ | ⟨e0,e1,e2⟩
   ·refine ⟨V9 _ (fun t _=>by rw [e1]) (fun t ht=>?_),by rw [e1,e2];exact ih.la,by rw [e1,e2];exact ih.mx,by rw [e1];exact TU⟩
    rw [e1,e2,ih.cv t (by omega),Ow t ht]
   ·have hu:=hv.PB s hs k
    have jh:∀ w∈(FL p n).aW,w.To≤s.At:=fun w hw=>by have:=ih.mx w hw;omega
    refine ⟨V9 _ (fun t ht=>?_) (fun t ht=>?_),.inr ⟨_,s.At,by rw [e1,e2],by rw [e2];omega,jh⟩,?_,?_⟩
    ·rw [e1,yZ]
     exact ⟨fun z=>z.elim id (fun z=>by have:=z.1;simp only at this;omega),.inl⟩
    ·rw [e1,e2,yZ]
     exact ⟨fun z=>z.elim (fun z=>absurd z (Gc jh ht)) (fun z=>z.2),fun z=>.inr ⟨ht,z⟩⟩
    ·rw [e1,e2]
     intro w hw
     rcases List.mem_append.1 hw with z | z
     ·have:=jh w z;omega
     ·rw [List.mem_singleton] at z;subst z;exact Int.le_refl _
    ·rw [e1]
     intro w hw
     rcases List.mem_append.1 hw with z | z
     ·exact TU w z
     ·rw [List.mem_singleton] at z;subst z;exact ⟨s,hs,Int.le_refl _⟩
   ·obtain ⟨a,b⟩ | ⟨u,f,a,b,c⟩:=ih.la
    ·omega
    ·have Yr:f≤s.At:=by
      obtain ⟨x,hx,e⟩:=ih.fm ⟨f,(FL p n).ay⟩ (by rw [a];simp)
      have:=sV x hx
      simp only at e;omega
     have E9:(wv (FL p n) s).2.aW=u++[⟨f,s.At⟩]:=by rw [e1,a,yY]
     have Yt:∀ w∈u++[(⟨f,s.At⟩:ar)],w.To≤s.At:=by
      intro w hw
      rcases List.mem_append.1 hw with z | z
      ·have:=c w z;omega
      ·rw [List.mem_singleton] at z;subst z;exact Int.le_refl _
     refine ⟨V9 _ (fun t ht=>?_) (fun t ht=>?_),.inr ⟨u,f,by rw [E9,e2],by rw [e2];exact Yr,c⟩,by rw [E9,e2];exact Yt,?_⟩
     ·rw [E9,a,yZ,yZ]
      simp only
      exact ⟨fun z=>z.imp id fun z=>⟨z.1,by omega⟩,fun z=>z.imp id fun z=>⟨z.1,ht⟩⟩
     ·rw [E9,e2]
      exact ⟨fun z=>absurd z (Gc Yt ht),fun z=>by omega⟩
     ·rw [E9]
      intro w hw
      rcases List.mem_append.1 hw with z | z
      ·exact TU w (by rw [a];exact List.mem_append_left _ z)
      ·rw [List.mem_singleton] at z;subst z;exact ⟨s,hs,Yr⟩
  ·have xn:FL (p++[s]) n=FL p n:=by
    rw [qF];unfold xz r7;rw [if_neg hn]
   rw [xn]
   refine ⟨fun t h0=>?_,ih.la,ih.mx,TU⟩
   rw [ih.cv t h0]
   by_cases ht:s.At≤t
   ·rw [late t ht,Ow t ht,xn]
   ·rw [early t (by omega)]
theorem An {l:List Signal} (hv:VS l) (n:aq) {m:Int} (hm:0≤m):rn (FL (pre l m) n) m=0↔¬ Jv (FL l n).aW m:=by
 rw [(Ov n l hv).cv m hm]
 unfold rn
 split
 ·exact ⟨fun z=>by omega,fun z=>absurd (by assumption) z⟩
 ·exact ⟨fun _=>by assumption,fun _=>rfl⟩
def xk {α:Type} (E e:Int) (g:Int→Option α) (m:Int):List α:=
 if h:m < e∧0 < E then (g m).toList++xk E e g (m+E) else []
termination_by (e - m).toNat
decreasing_by omega
theorem sQ {α:Type} {E e:Int} {g:Int→Option α} {m:Int} (h:e≤m):xk E e g m=[]:=by
 rw [xk,dif_neg (by omega)]
theorem wY {α:Type} {E e:Int} {g:Int→Option α} {m:Int} (h:m < e) (hE:0 < E):xk E e g m=(g m).toList++xk E e g (m+E):=by
 rw [xk,dif_pos ⟨h,hE⟩]
theorem wZ {α:Type} {E e:Int} {g:Int→Option α} (hE:0 < E):∀ (j:Nat) (m:Int),(∀ i:Nat,i < j→m+i * E < e→g (m+i * E)=none)→xk E e g m=xk E e g (m+j * E)
 | 0,m,_=>by rw [show m+((0:Nat):Int) * E=m by simp]
 | j+1,m,h=>by
   have e0:∀ i:Nat,m+((i+1:Nat):Int) * E=(m+E)+(i:Int) * E:=fun i=>by
    rw [show ((i+1:Nat):Int)=(i:Int)+1 by omega,Int.add_mul,Int.one_mul];omega
   have hj:0≤(j:Int) * E:=Int.mul_nonneg (by omega) (by omega)
   by_cases hm:m < e
   ·have h0:=h 0 (by omega)
    rw [show m+((0:Nat):Int) * E=m by simp] at h0
    rw [wY hm hE,h0 hm,e0 j]
    exact wZ hE j (m+E) (fun i h1 h2=>by
     have:=h (i+1) (by omega)
     rw [e0 i] at this
     exact this h2)
   ·rw [sQ (by omega),sQ (by rw [e0 j];omega)]
theorem Gd {α:Type} {E e:Int} {g:Int→Option α} {A:α→Int} (hE:0 < E) (hA:∀ t x,g t=some x→A x=t):∀ (n:Nat) (m:Int),(e - m).toNat≤n→(xk E e g m).Pairwise (fun a b=>A a < A b)∧∀ x∈xk E e g m,m≤A x∧A x < e∧g (A x)=some x
 | n,m,hn=>by
   by_cases hm:m < e
   ·cases n with
    | zero=>omega
    | succ n=>
      obtain ⟨i1,i2⟩:=Gd (e:=e) hE hA n (m+E) (by omega)
      rw [wY hm hE]
      cases hg:g m with
      | none=>
        refine ⟨by simpa using i1,fun x hx=>?_⟩
        obtain ⟨a,b,c⟩:=i2 x (by simpa using hx)
        exact ⟨by omega,b,c⟩
      | some y=>
        have hy:=hA m y hg
        refine ⟨?_,fun x hx=>?_⟩
        ·show (y :: xk E e g (m+E)).Pairwise _
         rw [List.pairwise_cons]
         exact ⟨fun x hx=>by have:=(i2 x hx).1;omega,i1⟩
        ·rcases List.mem_cons.1 (show x∈y :: xk E e g (m+E) from hx) with rfl | hx
         ·rw [hy];exact ⟨Int.le_refl _,hm,hg⟩
         ·obtain ⟨a,b,c⟩:=i2 x hx
          exact ⟨by omega,b,c⟩
   ·rw [sQ (by omega)]
    exact ⟨List.Pairwise.nil,fun x hx=>by cases hx⟩
def y5 {α:Type} (M:Int) (out S pX:List α):Prop:=∃ p q,S=p++q∧pX=out++p∧(q=[]∨M < pX.length)
theorem y5.nil {α:Type} {M:Int} {out:List α}:y5 M out [] out:=⟨[],[],rfl,by simp,.inl rfl⟩
theorem y5.full {α:Type} {M:Int} {out S:List α} (h:M < out.length):y5 M out S out:=⟨[],S,rfl,by simp,.inr h⟩
theorem y5.pre {α:Type} {M:Int} {out S pX x:List α} (k:y5 M (out++x) S pX):y5 M out (x++S) pX:=by
 obtain ⟨p,q,h1,h2,h3⟩:=k
 exact ⟨x++p,q,by rw [h1,List.append_assoc],by rw [h2,List.append_assoc],h3⟩
theorem y5.all {α:Type} {M:Int} {out S pX:List α} (h:y5 M out S pX) (hl:(pX.length:Int)≤M):pX=out++S:=by
 obtain ⟨p,q,h1,h2,h3⟩:=h
 rcases h3 with h3 | h3
 ·rw [h2,h1,h3,List.append_nil]
 ·omega
theorem y5.le {α:Type} {M:Int} {out S pX:List α} (h:y5 M out S pX):(pX.length:Int)≤(out++S).length:=by
 obtain ⟨p,q,h1,h2,h3⟩:=h
 rw [h2,h1];simp;omega
theorem Ci {α A:Type} (g:α→Option A) (e:A):∀ xs:List α,(∃ x∈xs,g x=some (qg g e xs))∨((∀ x∈xs,g x=none)∧qg g e xs=e)
 | []=>.inr ⟨fun x hx=>(by cases hx),rfl⟩
 | x :: r=>by
   unfold qg
   cases hx:g x with
   | some a=>exact .inl ⟨x,by simp,hx⟩
   | none=>
     rcases Ci g e r with ⟨y,hy,h⟩ | ⟨h1,h2⟩
     ·exact .inl ⟨y,by simp [hy],h⟩
     ·refine .inr ⟨fun y hy=>?_,h2⟩
      rcases List.mem_cons.1 hy with rfl | hy
      ·exact hx
      ·exact h1 y hy
def Gr {α β:Type} (F:Int→β→Option α):Int→List β→List α
 | _,[]=>[]
 | k,r :: rs=>(F k r).toList++Gr F (k+1) rs
theorem EA {α β:Type} (F:Int→β→Option α):∀ (k:Int) (l:List β),(Gr F k l).length≤l.length
 | _,[]=>Nat.le_refl _
 | k,r :: rs=>by
   unfold Gr
   rw [List.length_append,List.length_cons]
   have:=EA F (k+1) rs
   cases F k r<;>simp<;>omega
theorem EB {α β:Type} {F:Int→β→Option α} {x:α}:∀ {k:Int} {l:List β},x∈Gr F k l→∃ j r,r∈l∧F j r=some x
 | _,[],h=>by cases h
 | k,r :: rs,h=>by
   unfold Gr at h
   rcases List.mem_append.1 h with h | h
   ·exact ⟨k,r,by simp,by simpa using h⟩
   ·obtain ⟨j,y,hy,e⟩:=EB h
    exact ⟨j,y,by simp [hy],e⟩
theorem H5 {α β:Type} {F:Int→β→Option α} {A:α→Int} {B:β→Int} (hA:∀ k r x,F k r=some x→A x=B r):∀ {k:Int} {l:List β},l.Pairwise (fun a b=>B a < B b)→(Gr F k l).Pairwise (fun a b=>A a < A b)
 | _,[],_=>List.Pairwise.nil
 | k,r :: rs,h=>by
   rw [List.pairwise_cons] at h
   have ih:=H5 hA (k:=k+1) h.2
   unfold Gr
   cases hx:F k r with
   | none=>simpa using ih
   | some x=>
     show (x :: Gr F (k+1) rs).Pairwise _
     rw [List.pairwise_cons]
     refine ⟨fun y hy=>?_,ih⟩
     obtain ⟨j,z,hz,e⟩:=EB hy
     rw [hA _ _ _ hx,hA _ _ _ e]
     exact h.1 z hz
theorem Ge {α β A X:Type} (F:Int→β→Option α) (xs:List β) (mk:List α→Int→X) (f:X→Option (X⊕A)) (E:List α→Option A) (out:List α)
 (h1:∀ o (i:Int) x,0≤i→i < xs.length→idx xs i=some x→(o.length:Int)≤out.length+i→f (mk o i)=some (.inl (mk (o++(F i x).toList) (i+1))))
 (h2:∀ o,(o.length:Int)≤out.length+xs.length→f (mk o xs.length)=Option.map .inr (E o)):iter f (mk out 0)=E (out++Gr F 0 xs):=by
 have key:∀ (n:Nat) (o:List α) (i:Int),0≤i→i+n=xs.length→(o.length:Int)≤out.length+i→iter f (mk o i)=E (o++Gr F i (xs.drop i.toNat)):=by
  intro n
  induction n with
  | zero=>
    intro o i hi hn ho
    have:i=xs.length:=by omega
    subst this
    rw [iter_eq,h2 o ho,bV]
    simp [Gr]
  | succ n ih=>
    intro o i hi hn ho
    obtain ⟨x,hx,_,hd⟩:=jY xs hi (by omega)
    rw [iter_eq,h1 o i x hi (by omega) hx ho]
    simp only [Option.bind_some,cK]
    rw [ih _ _ (by omega) (by omega) (by rw [List.length_append];cases F i x<;>simp<;>omega),hd,List.append_assoc]
    rfl
 have:=key xs.length out 0 (by omega) (by omega) (by omega)
 simpa using this
def Sq (t:bO) (m:Int) (s:aB):Option bO:=if (decide (s.cO=t)&&(decide (s.Time.aM≤m)&&decide (m < s.Time.To)))=true then some s.gm else none
def Ll (l:List aB) (t:bO) (m:Int):bO:=qg (Sq t m) [] l
theorem DF (l:List aB) (t:bO) (m:Int) (hl:(l.length:Int)≤1000000):oc l t m=some (Ll l t m):=by
 unfold oc uZ Ll
 refine uo l _ (Sq t m) [] (by omega) (fun i x h0 h1 hx=>?_) ?_
 ·unfold j8
  rw [if_pos h1,hx]
  simp only [Option.bind_some]
  unfold oO Sq
  cases (decide (x.cO=t)&&(decide (x.Time.aM≤m)&&decide (m < x.Time.To)))
  ·rw [if_neg (by simp),if_neg (by simp),aU (by omega) (by omega)]
  ·rw [if_pos rfl,if_pos rfl];rfl
 ·unfold j8
  rw [if_neg (by omega)];rfl
theorem Ao (l:List aB) (t:bO) (m:Int) (hl:(l.length:Int)≤1000000):qq l t m=some (Ll l t m):=by
 unfold qq xq Ll
 refine uo l _ (Sq t m) [] (by omega) (fun i x h0 h1 hx=>?_) ?_
 ·unfold mG
  rw [if_pos h1,hx]
  simp only [Option.bind_some]
  unfold qA Sq
  cases (decide (x.cO=t)&&(decide (x.Time.aM≤m)&&decide (m < x.Time.To)))
  ·rw [if_neg (by simp),if_neg (by simp),aU (by omega) (by omega)]
  ·rw [if_pos rfl,if_pos rfl];rfl
 ·unfold mG
  rw [if_neg (by omega)];rfl
def G6 (A:List ar) (m:Int):Bool:=A.any fun x=>decide (x.aM≤m)&&decide (m < x.To)
theorem wA {A:List ar} {m:Int}:G6 A m=true↔Jv A m:=by
 unfold G6 Jv
 rw [List.any_eq_true]
 constructor
 ·rintro ⟨x,hx,h⟩;exact ⟨x,hx,by simpa using h⟩
 ·rintro ⟨x,hx,h⟩;exact ⟨x,hx,by simpa using h⟩
def Jw (m:Int) (x:ar):Option Int:=if (decide (x.aM≤m)&&decide (m < x.To))=true then some x.To else none
theorem H6 (x:au) (m:Int) (hl:(x.aW.length:Int)≤1000000):j9 x m=some (qg (Jw m) m x.aW):=by
 unfold j9 sD
 refine uo x.aW _ (Jw m) m (by omega) (fun i w h0 h1 hx=>?_) ?_
 ·unfold il
  rw [if_pos h1,hx]
  simp only [Option.bind_some]
  unfold mf Jw
  cases (decide (w.aM≤m)&&decide (m < w.To))
  ·rw [if_neg (by simp),if_neg (by simp),aU (by omega) (by omega)]
  ·rw [if_pos rfl,if_pos rfl];rfl
 ·unfold il
  rw [if_neg (by omega)];rfl
theorem Gf {A:List ar} {m:Int} (hA:∀ w∈A,w.To≤345686400000):(G6 A m=false∧qg (Jw m) m A=m)∨(G6 A m=true∧m < qg (Jw m) m A∧qg (Jw m) m A≤345686400000∧∀ t,m≤t→t < qg (Jw m) m A→G6 A t=true):=by
 rcases Ci (Jw m) m A with ⟨w,hw,h⟩ | ⟨h1,h2⟩
 ·right
  generalize qg (Jw m) m A=r at h ⊢
  unfold Jw at h
  split at h
  ·rename_i hc
   obtain rfl:=Option.some.inj h
   have x9:w.aM≤m∧m < w.To:=by simpa using hc
   exact ⟨wA.2 ⟨w,hw,x9⟩,x9.2,hA w hw,fun t h1 h2=>wA.2 ⟨w,hw,by omega,h2⟩⟩
  ·cases h
 ·left
  refine ⟨?_,h2⟩
  rw [← Bool.not_eq_true,wA]
  rintro ⟨w,hw,h3,h4⟩
  have:=h1 w hw
  unfold Jw at this
  rw [if_pos (by simp [h3,h4])] at this
  cases this
theorem Sr (n:aq):∀ p:List Signal,VS p→(FL p n).ay≤345686400000:=by
 refine yX ?_ ?_
 ·intro _;show (0:Int)≤_;omega
 ·intro p s ih hv
  have ih:=ih (hv.sub (List.sublist_append_left _ _))
  have hs:s∈p++[s]:=by simp
  rw [qF]
  unfold xz r7
  by_cases hn:n=mK s
  ·rw [if_pos hn]
   rw [hn] at ih
   have hm:=hv.L5 s hs
   rcases DE (FL p (mK s)) s (hv.kind s hs) with ⟨_,e⟩ | ⟨k,_,_,e⟩ | ⟨_,_,e⟩
   ·rw [e];exact ih
   ·rw [e];exact (hv.PB s hs k).2
   ·rw [e];omega
  ·rw [if_neg hn];exact ih
theorem Lm {l:List Signal} (hv:VS l) (n:aq):∀ w∈(FL l n).aW,w.To≤345686400000:=fun w hw=>by
 have:=(Ov n l hv).mx w hw
 have:=Sr n l hv
 omega
def TW (n:aq) (sh:List aB) (m k:Int) (t:bO):ai:=⟨m,n.aG,n.a8,t,Ll sh t m,k⟩
def oq (n:aq) (sh:List aB) (A:List ar) (w:ar) (T k:Int) (t:bO) (m:Int):Option ai:=
 if (m < T∧w.aM≤m∧m < w.To)∧G6 A m=false then some (TW n sh m k t) else none
def Ln (n:aq) (sh:List aB) (A:List ar) (w:ar) (cq:aA) (r:fE) (time:ar):List ai:=
 Gr (fun k (x:fE)=>oq n sh A w time.To k x.cO (time.aM+x.bn)) 0 cq.aV++
 if cq.aX=0 then [] else xk cq.aX (min time.To w.To) (oq n sh A w time.To ((cq.aV.length:Int) - 1) r.cO) (time.aM+r.bn+cq.aX)
structure G7 (cq:aA) (r:fE):Prop where
 len:(cq.aV.length:Int)≤10
 last:idx cq.aV ((cq.aV.length:Int) - 1)=some r
 rg:∀ x∈cq.aV,0≤x.bn∧x.bn≤2592000000
 inc:cq.aV.Pairwise (fun a b=>a.bn < b.bn)
 ev:cq.aX=0∨(1000≤cq.aX∧cq.aX≤2592000000)
structure xl (w:ar):Prop where
 lo:0≤w.aM
 mi:w.aM≤345686400000
 hi:w.To≤345686400000
theorem H7 (sh:List aB) (w:ar) (out:List ai) (x:au) (m k:Int) (t:bO) (hs:(sh.length:Int)≤1000000) (ho:(out.length:Int)≤1000000):
 iW ⟨sh,w,out⟩ x m k t=some ⟨sh,w,out++if w.aM≤m∧m < w.To then [TW x.bl sh m k t] else []⟩:=by
 unfold iW kP iG
 simp only
 by_cases h:w.aM≤m∧m < w.To
 ·rw [if_pos (by simp [h.1,h.2]),if_pos h,DF sh t m hs]
  simp only [Option.bind_some]
  rw [mh (by simp;omega)];rfl
 ·rw [if_neg (by simp;omega),if_neg h,List.append_nil]
theorem Ap (x:au) (cq:aA) (time:ar) (n:Int) (r:fE) (sh:List aB) (a b:Int) (out:List ai) (k:Int):gW x cq time n r sh a b out k=(dM x cq time n r sh a b out k).bind (after fun y=>gW x cq time n r y.1 y.2.1 y.2.2.1 y.2.2.2.1 y.2.2.2.2):=by
 unfold gW
 rw [iter_eq]
theorem G8 (x:au) (cq:aA) (r:fE) (hL:G7 cq r) (time w:ar) (hT:xl time) (hw:xl w) (sh:List aB) (hs:(sh.length:Int)≤1000000) (hA:∀ y∈x.aW,y.To≤345686400000) (TX:(x.aW.length:Int)≤1000000) (hE:1000≤cq.aX∧cq.aX≤2592000000) (hr:0≤r.bn∧r.bn≤2592000000):
 ∀ (n:Nat) (out:List ai) (k:Int),(min time.To w.To - (time.aM+r.bn+k * cq.aX)).toNat≤n→1≤k→time.aM+r.bn+k * cq.aX≤800000000000→(out.length:Int)≤900000→
 ∃ pX,gW x cq time w.To r sh w.aM w.To out k=some ⟨sh,w,pX⟩∧y5 5000 out (xk cq.aX (min time.To w.To) (oq x.bl sh x.aW w time.To ((cq.aV.length:Int) - 1) r.cO) (time.aM+r.bn+k * cq.aX)) pX∧((pX.length:Int)≤out.length∨(pX.length:Int)≤5001):=by
 obtain ⟨t0,t1,t2⟩:=hT
 obtain ⟨w0,w1,w2⟩:=hw
 have PD:=hL.len
 have Yu:∀ k:Int,1≤k→cq.aX≤k * cq.aX:=fun k hk=>by
  have:=Int.mul_le_mul_of_nonneg_right hk (show 0≤cq.aX by omega)
  rw [Int.one_mul] at this;exact this
 intro n
 induction n with
 | zero=>
   intro out k hn hk hb ho
   have h1:=Yu k hk
   refine ⟨out,?_,?_,.inl (Int.le_refl _)⟩
   ·rw [Ap]
    unfold dM gV
    rw [aU (x:=time.aM+r.bn) (by omega) (by omega),aU (x:=k * cq.aX) (by omega) (by omega),aU (by omega) (by omega),if_neg (by simp;omega)]
    rfl
   ·rw [sQ (by omega)];exact y5.nil
 | succ n ih=>
   intro out k hn hk hb ho
   have h1:=Yu k hk
   have hs1:(k+1) * cq.aX=k * cq.aX+cq.aX:=by rw [Int.add_mul,Int.one_mul]
   have hkk:k≤k * cq.aX:=by
    have:=Int.mul_le_mul_of_nonneg_left (show 1≤cq.aX by omega) (show 0≤k by omega)
    rw [Int.mul_one] at this;exact this
   rw [Ap]
   unfold dM gV
   rw [aU (x:=time.aM+r.bn) (by omega) (by omega),aU (x:=k * cq.aX) (by omega) (by omega),aU (x:=time.aM+r.bn+k * cq.aX) (by omega) (by omega)]
   by_cases c1:time.aM+r.bn+k * cq.aX < min time.To w.To
   ·by_cases c2:(5000:Int) < out.length
    ·refine ⟨out,?_,y5.full c2,.inl (Int.le_refl _)⟩
     rw [if_neg (by unfold ei;simp;omega)]
     rfl
    ·rw [if_pos (by unfold ei;simp;omega),H6 x _ TX]
     simp only [Option.bind_some]
     rcases Gf (A:=x.aW) (m:=time.aM+r.bn+k * cq.aX) hA with ⟨f1,f2⟩ | ⟨f1,f2,f3,f4⟩
     ·rw [f2,if_neg (by omega),aU (x:=(cq.aV.length:Int) - 1) (by omega) (by omega),hL.last]
      simp only [Option.bind_some]
      rw [H7 sh ⟨w.aM,w.To⟩ out x _ _ _ hs (by omega)]
      simp only [Option.bind_some]
      unfold fJ
      simp only [Option.bind_some,cK]
      rw [aU (x:=k+1) (by omega) (by omega)]
      have hg:(if w.aM≤time.aM+r.bn+k * cq.aX∧time.aM+r.bn+k * cq.aX < w.To then [TW x.bl sh (time.aM+r.bn+k * cq.aX) ((cq.aV.length:Int) - 1) r.cO] else [])=(oq x.bl sh x.aW w time.To ((cq.aV.length:Int) - 1) r.cO (time.aM+r.bn+k * cq.aX)).toList:=by
       unfold oq
       by_cases c3:w.aM≤time.aM+r.bn+k * cq.aX∧time.aM+r.bn+k * cq.aX < w.To
       ·rw [if_pos c3,if_pos ⟨⟨by omega,c3⟩,f1⟩];rfl
       ·rw [if_neg c3,if_neg (fun z=>c3 z.1.2)];rfl
      obtain ⟨o,o1,o2,o3⟩:=ih (out++(oq x.bl sh x.aW w time.To ((cq.aV.length:Int) - 1) r.cO (time.aM+r.bn+k * cq.aX)).toList) (k+1) (by omega) (by omega) (by omega) (by
       rw [List.length_append]
       cases oq x.bl sh x.aW w time.To ((cq.aV.length:Int) - 1) r.cO (time.aM+r.bn+k * cq.aX)<;>simp<;>omega)
      refine ⟨o,?_,?_,?_⟩
      ·rw [hg];exact o1
      ·rw [wY c1 (by omega)]
       rw [hs1,← Int.add_assoc] at o2
       exact o2.pre
      ·right
       rw [List.length_append] at o3
       cases hx:oq x.bl sh x.aW w time.To ((cq.aV.length:Int) - 1) r.cO (time.aM+r.bn+k * cq.aX)<;>rw [hx] at o3<;>simp at o3<;>omega
     ·generalize Hv:qg (Jw (time.aM+r.bn+k * cq.aX)) (time.aM+r.bn+k * cq.aX) x.aW=to at f2 f3 f4 ⊢
      rw [if_pos f2,aU (x:=to - (time.aM+r.bn)) (by omega) (by omega),aU (x:=to - (time.aM+r.bn)+cq.aX) (by omega) (by omega),aU (by omega) (by omega),HO (by omega) (by omega) (by omega)]
      simp only [Option.bind_some]
      unfold fJ
      simp only [Option.bind_some,cK]
      obtain ⟨q,hq⟩:∃ q,q=(to - (time.aM+r.bn)+cq.aX - 1) / cq.aX:=⟨_,rfl⟩
      rw [← hq]
      have q1:q * cq.aX≤to - (time.aM+r.bn)+cq.aX - 1:=by rw [hq];exact Int.ediv_mul_le _ (by omega)
      have q2:to - (time.aM+r.bn)+cq.aX - 1 < (q+1) * cq.aX:=by rw [hq];exact Int.lt_ediv_add_one_mul_self _ (by omega)
      rw [Int.add_mul,Int.one_mul] at q2
      have hqk:k < q:=by
       apply Classical.byContradiction
       intro hc
       have:=Int.mul_le_mul_of_nonneg_right (show q≤k by omega) (show 0≤cq.aX by omega)
       omega
      obtain ⟨o,o1,o2,o3⟩:=ih out q (by omega) (by omega) (by omega) ho
      refine ⟨o,o1,?_,o3⟩
      have hj:time.aM+r.bn+k * cq.aX+(((q - k).toNat:Nat):Int) * cq.aX=time.aM+r.bn+q * cq.aX:=by
       rw [show (((q - k).toNat:Nat):Int)=q - k by omega,Int.sub_mul];omega
      rw [wZ (by omega) (q - k).toNat,hj]
      ·exact o2
      ·intro i hi Wa
       unfold oq
       rw [if_neg]
       rintro ⟨_,hc⟩
       have Bm:(k+i) * cq.aX≤(q - 1) * cq.aX:=Int.mul_le_mul_of_nonneg_right (by omega) (by omega)
       have Hr:(k+i) * cq.aX=k * cq.aX+i * cq.aX:=Int.add_mul _ _ _
       have hi3:(q - 1) * cq.aX=q * cq.aX - cq.aX:=by rw [Int.sub_mul,Int.one_mul]
       have hi4:0≤(i:Int) * cq.aX:=Int.mul_nonneg (by omega) (by omega)
       rw [f4 _ (by omega) (by omega)] at hc
       cases hc
   ·refine ⟨out,?_,?_,.inl (Int.le_refl _)⟩
    ·rw [if_neg (by simp;omega)];rfl
    ·rw [sQ (by omega)];exact y5.nil
theorem Lo (x:au) (cq:aA) (r:fE) (hL:G7 cq r) (time w:ar) (hT:xl time) (hw:xl w) (sh:List aB) (hs:(sh.length:Int)≤1000000) (hA:∀ y∈x.aW,y.To≤345686400000) (TX:(x.aW.length:Int)≤1000000) (out:List ai) (ho:(out.length:Int)≤800000):
 ∃ pX,im ⟨sh,w,out⟩ x cq time=some ⟨sh,w,pX⟩∧y5 5000 out (Ln x.bl sh x.aW w cq r time) pX∧((pX.length:Int)≤out.length+10∨(pX.length:Int)≤5001):=by
 have L6:=hT
 have E9:=hw
 obtain ⟨t0,t1,t2⟩:=hT
 obtain ⟨w0,w1,w2⟩:=hw
 have PD:=hL.len
 have hr:=hL.rg r (na hL.last)
 obtain ⟨R,hR⟩:∃ R,R=Gr (fun k (y:fE)=>oq x.bl sh x.aW w time.To k y.cO (time.aM+y.bn)) 0 cq.aV:=⟨_,rfl⟩
 have hRl:(R.length:Int)≤10:=by have:=EA (fun k (y:fE)=>oq x.bl sh x.aW w time.To k y.cO (time.aM+y.bn)) 0 cq.aV;rw [hR];omega
 have loop:im ⟨sh,w,out⟩ x cq time=gX x cq time sh w.aM w.To (out++R):=by
  unfold im qe
  simp only
  rw [hR]
  refine Ge (fun k (y:fE)=>oq x.bl sh x.aW w time.To k y.cO (time.aM+y.bn)) cq.aV (fun o i=>(sh,w.aM,w.To,o,i)) _ (fun o=>gX x cq time sh w.aM w.To o) out (fun o i y h0 h1 hy TY=>?_) (fun o TY=>?_)
  ·have hb:=hL.rg y (na hy)
   simp only
   unfold fK
   rw [if_pos h1,hy]
   simp only [Option.bind_some]
   rw [aU (x:=time.aM+y.bn) (by omega) (by omega)]
   have j2:∀ o':List ai,fH i sh w.aM w.To o'=some (.inl (sh,w.aM,w.To,o',i+1)):=fun o'=>by
    unfold fH
    rw [aU (by omega) (by omega)]
   by_cases c1:time.aM+y.bn < time.To
   ·rw [if_pos c1,H6 x _ TX]
    simp only [Option.bind_some]
    unfold fI
    rcases Gf (A:=x.aW) (m:=time.aM+y.bn) hA with ⟨f1,f2⟩ | ⟨f1,f2,f3,f4⟩
    ·rw [f2,if_pos (by simp),aU (x:=time.aM+y.bn) (by omega) (by omega),H7 sh ⟨w.aM,w.To⟩ o x _ _ _ hs (by omega)]
     simp only [Option.bind_some]
     rw [j2]
     unfold oq
     by_cases c3:w.aM≤time.aM+y.bn∧time.aM+y.bn < w.To
     ·rw [if_pos c3,if_pos ⟨⟨c1,c3⟩,f1⟩];rfl
     ·rw [if_neg c3,if_neg (fun z=>c3 z.1.2)];rfl
    ·rw [if_neg (by simp;omega),j2]
     unfold oq
     rw [if_neg (fun z=>by rw [f1] at z;cases z.2)]
     simp
   ·rw [if_neg c1]
    unfold fI
    rw [if_neg (by simp),j2]
    unfold oq
    rw [if_neg (fun z=>c1 z.1.1)]
    simp
  ·simp only
   unfold fK
   rw [if_neg (by omega)]
 rw [loop]
 unfold gX Ln
 rw [← hR]
 by_cases hE:cq.aX=0
 ·rw [if_pos hE,if_pos hE]
  exact ⟨_,rfl,y5.pre y5.nil,.inl (by rw [List.length_append];omega)⟩
 ·have TZ:=hL.ev.resolve_left hE
  rw [if_neg hE,if_neg hE,aU (x:=(cq.aV.length:Int) - 1) (by omega) (by omega),hL.last]
  simp only [Option.bind_some]
  rw [aU (x:=time.aM+r.bn) (by omega) (by omega),aU (x:=w.aM - (time.aM+r.bn)) (by omega) (by omega),aU (x:=w.aM - (time.aM+r.bn)+cq.aX) (by omega) (by omega),aU (x:=w.aM - (time.aM+r.bn)+cq.aX - 1) (by omega) (by omega),KV (by omega)]
  simp only [Option.bind_some]
  obtain ⟨q,hq⟩:∃ q,q=aL ((w.aM - (time.aM+r.bn)+cq.aX - 1).tdiv cq.aX):=⟨_,rfl⟩
  rw [← hq]
  have Qa:=Nu (a:=w.aM - (time.aM+r.bn)+cq.aX - 1) (b:=cq.aX) (by omega) (by omega)
  rw [aU (by omega) (by omega)] at hq
  obtain ⟨K,hK⟩:∃ K,K=max 1 q:=⟨_,rfl⟩
  have T3:K=1∨(1≤q∧K=q∧q * cq.aX≤w.aM - (time.aM+r.bn)+cq.aX - 1):=by
   by_cases h:q≤1
   ·left;omega
   ·right
    refine ⟨by omega,by omega,?_⟩
    by_cases hn:0≤w.aM - (time.aM+r.bn)+cq.aX - 1
    ·rw [Int.tdiv_eq_ediv_of_nonneg hn] at hq
     rw [hq];exact Int.ediv_mul_le _ (by omega)
    ·exfalso
     have:=Int.tdiv_nonneg (show 0≤-(w.aM - (time.aM+r.bn)+cq.aX - 1) by omega) (show 0≤cq.aX by omega)
     rw [Int.neg_tdiv] at this
     omega
  rw [← hK]
  have hK1:1≤K:=by omega
  have Wb:time.aM+r.bn+K * cq.aX≤800000000000:=by
   rcases T3 with h | ⟨h1,h2,h3⟩
   ·rw [h,Int.one_mul];omega
   ·rw [h2];omega
  obtain ⟨o,o1,o2,o3⟩:=G8 x cq r hL time w L6 E9 sh hs hA TX TZ hr _ (out++R) K (Nat.le_refl _) hK1 Wb (by rw [List.length_append];omega)
  refine ⟨o,o1,?_,?_⟩
  ·refine y5.pre ?_
   have hj:time.aM+r.bn+cq.aX+(((K - 1).toNat:Nat):Int) * cq.aX=time.aM+r.bn+K * cq.aX:=by
    rw [show (((K - 1).toNat:Nat):Int)=K - 1 by omega,Int.sub_mul,Int.one_mul];omega
   rw [wZ (by omega) (K - 1).toNat,hj]
   ·exact o2
   ·intro i hi Wa
    unfold oq
    rw [if_neg]
    rintro ⟨⟨_,hc,_⟩,_⟩
    rcases T3 with h | ⟨h1,h2,h3⟩
    ·omega
    ·have Bm:(1+i) * cq.aX≤(q - 1) * cq.aX:=Int.mul_le_mul_of_nonneg_right (by omega) (by omega)
     have Hr:(1+i) * cq.aX=cq.aX+i * cq.aX:=by rw [Int.add_mul,Int.one_mul]
     have hi3:(q - 1) * cq.aX=q * cq.aX - cq.aX:=by rw [Int.sub_mul,Int.one_mul]
     omega
  ·rw [List.length_append] at o3;omega
theorem add_eq {l:List Signal} (hV:VS l) (n:aq) {t:an} (ht:t.aG=n.aG∧t.a8=n.a8) (cq:aA) (time w:ar) (hw:xl w) (NA:0≤w.To) (sh:List aB) (hs:(sh.length:Int)≤1000000) (out:List ai) (ho:(out.length:Int)≤1000000) (m k:Int) (rg:fE) (hm:0≤m) (hk:idx cq.aV k=some rg):
 lL m k time w l t cq out sh=some (out++(oq n sh (FL l n).aW w time.To k rg.cO m).toList):=by
 obtain ⟨w0,w1,w2⟩:=hw
 have j1:∀ c:Bool,gz m k t cq out sh c=some (out++if c=true then [TW n sh m k rg.cO] else []):=by
  intro c
  unfold gz kR
  cases c
  ·rw [if_neg (by simp),if_neg (by simp),List.append_nil]
  ·rw [if_pos rfl,if_pos rfl,hk]
   simp only [Option.bind_some]
   rw [Ao sh rg.cO m hs]
   simp only [Option.bind_some]
   rw [mh (by simp;omega),ht.1,ht.2]
   rfl
 unfold lL
 by_cases c1:m < time.To
 ·rw [if_pos c1]
  by_cases c2:w.aM≤m∧m < w.To
  ·rw [if_pos (by
    unfold xc yz
    rw [aU (by omega) (by omega)];simp;omega),G4 hV t.aG t.a8 hm]
   simp only [Option.bind_some]
   rw [j1]
   have e:(xA (FL (pre l m) ⟨t.aG,t.a8⟩) m).AX=rn (FL (pre l m) n) m:=by rw [ht.1,ht.2];rfl
   rw [e]
   unfold oq
   by_cases c3:G6 (FL l n).aW m=false
   ·have h0:rn (FL (pre l m) n) m=0:=(An hV n hm).2 (fun z=>by rw [wA.2 z] at c3;cases c3)
    rw [h0,if_pos (by simp),if_pos ⟨⟨c1,c2⟩,c3⟩];rfl
   ·have h0:rn (FL (pre l m) n) m≠0:=fun z=>c3 (by
     have:=(An hV n hm).1 z
     rw [← wA,Bool.not_eq_true] at this
     exact this)
    rw [if_neg (by simp [h0]),if_neg (fun z=>c3 z.2)];rfl
  ·rw [if_neg (by
    unfold xc yz
    rw [aU (by omega) (by omega)];simp;omega),j1,if_neg (by simp)]
   unfold oq
   rw [if_neg (fun z=>c2 z.1.2)];rfl
 ·rw [if_neg c1,j1,if_neg (by simp)]
  unfold oq
  rw [if_neg (fun z=>c1 z.1.1)];rfl
theorem DG (l:List Signal) (t:an) (cq:aA) (sh:List aB) (time w:ar) (out:List ai) (m:Int):nA l t cq sh time w out m=(jI l t cq sh time w out m).bind (after fun y=>nA l t cq sh time w y.1 y.2):=by
 unfold nA
 rw [iter_eq]
theorem Lp {l:List Signal} (hV:VS l) (n:aq) {t:an} (ht:t.aG=n.aG∧t.a8=n.a8) (cq:aA) (r:fE) (hL:G7 cq r) (time w:ar) (hT:xl time) (hw:xl w) (NA:0≤w.To) (sh:List aB) (hs:(sh.length:Int)≤1000000) (hE:1000≤cq.aX∧cq.aX≤2592000000):
 ∀ (k:Nat) (out:List ai) (m:Int),(min time.To w.To - m).toNat≤k→0≤m→m≤800000000000→(out.length:Int)≤900000→
 ∃ pX,nA l t cq sh time w out m=some pX∧y5 5000 out (xk cq.aX (min time.To w.To) (oq n sh (FL l n).aW w time.To ((cq.aV.length:Int) - 1) r.cO) m) pX∧((pX.length:Int)≤out.length∨(pX.length:Int)≤5001):=by
 have L6:=hT
 have E9:=hw
 obtain ⟨t0,t1,t2⟩:=hT
 obtain ⟨w0,w1,w2⟩:=hw
 have PD:=hL.len
 intro k
 induction k with
 | zero=>
   intro out m hk h0 hb ho
   refine ⟨out,?_,?_,.inl (Int.le_refl _)⟩
   ·rw [DG]
    unfold jI nz
    rw [if_neg (by simp;omega)];rfl
   ·rw [sQ (by omega)];exact y5.nil
 | succ k ih=>
   intro out m hk h0 hb ho
   rw [DG]
   unfold jI nz
   by_cases c1:m < min time.To w.To
   ·by_cases c2:(5000:Int) < out.length
    ·refine ⟨out,?_,y5.full c2,.inl (Int.le_refl _)⟩
     rw [if_neg (by simp;omega)];rfl
    ·rw [if_pos (by simp;omega),aU (x:=(cq.aV.length:Int) - 1) (by omega) (by omega),add_eq hV n ht cq time w E9 NA sh hs out (by omega) m _ r h0 hL.last]
     simp only [Option.bind_some,cK]
     rw [aU (x:=m+cq.aX) (by omega) (by omega)]
     have hx1:((oq n sh (FL l n).aW w time.To ((cq.aV.length:Int) - 1) r.cO m).toList.length:Int)≤1:=by
      cases oq n sh (FL l n).aW w time.To ((cq.aV.length:Int) - 1) r.cO m<;>simp
     obtain ⟨o,o1,o2,o3⟩:=ih (out++(oq n sh (FL l n).aW w time.To ((cq.aV.length:Int) - 1) r.cO m).toList) (m+cq.aX) (by omega) (by omega) (by omega) (by rw [List.length_append];omega)
     refine ⟨o,o1,?_,?_⟩
     ·rw [wY c1 (by omega)];exact o2.pre
     ·right
      rw [List.length_append] at o3
      omega
   ·refine ⟨out,?_,?_,.inl (Int.le_refl _)⟩
    ·rw [if_neg (by simp;omega)];rfl
    ·rw [sQ (by omega)];exact y5.nil
theorem EC {l:List Signal} (hV:VS l) (n:aq) {t:an} (ht:t.aG=n.aG∧t.a8=n.a8) (cq:aA) (r:fE) (hL:G7 cq r) (time w:ar) (hT:xl time) (hw:xl w) (NA:0≤w.To) (sh:List aB) (hs:(sh.length:Int)≤1000000):
 ∃ out,nC l t cq sh time w=some out∧y5 5000 [] (Ln n sh (FL l n).aW w cq r time) out∧(out.length:Int)≤5011:=by
 have L6:=hT
 have E9:=hw
 obtain ⟨t0,t1,t2⟩:=hT
 obtain ⟨w0,w1,w2⟩:=hw
 have PD:=hL.len
 have hr:=hL.rg r (na hL.last)
 obtain ⟨R,hR⟩:∃ R,R=Gr (fun k (y:fE)=>oq n sh (FL l n).aW w time.To k y.cO (time.aM+y.bn)) 0 cq.aV:=⟨_,rfl⟩
 have hRl:(R.length:Int)≤10:=by have:=EA (fun k (y:fE)=>oq n sh (FL l n).aW w time.To k y.cO (time.aM+y.bn)) 0 cq.aV;rw [hR];omega
 have loop:nC l t cq sh time w=nB l t cq sh time w ([]++R):=by
  unfold nC vY
  rw [hR]
  refine Ge (fun k (y:fE)=>oq n sh (FL l n).aW w time.To k y.cO (time.aM+y.bn)) cq.aV (fun o i=>(o,i)) _ (fun o=>nB l t cq sh time w o) [] (fun o i y h0 h1 hy TY=>?_) (fun o TY=>?_)
  ·have hb:=hL.rg y (na hy)
   simp only
   unfold lN
   rw [if_pos h1,hy]
   simp only [Option.bind_some]
   rw [aU (x:=time.aM+y.bn) (by omega) (by omega),add_eq hV n ht cq time w E9 NA sh hs o (by simp at TY;omega) _ i y (by omega) hy]
   simp only [Option.bind_some]
   rw [aU (by omega) (by omega)]
  ·simp only
   unfold lN
   rw [if_neg (by omega)]
 rw [loop]
 unfold nB Ln
 rw [← hR,aU (x:=(cq.aV.length:Int) - 1) (by omega) (by omega),hL.last]
 simp only [Option.bind_some]
 by_cases hE:cq.aX=0
 ·rw [if_pos hE,if_pos hE]
  exact ⟨_,rfl,y5.pre y5.nil,by simp;omega⟩
 ·have TZ:=hL.ev.resolve_left hE
  rw [if_neg hE,if_neg hE,aU (x:=time.aM+r.bn) (by omega) (by omega)]
  have Ss:∀ K:Int,1≤K→time.aM+r.bn+K * cq.aX≤800000000000→(K=1∨(K - 1) * cq.aX≤w.aM - (time.aM+r.bn) - cq.aX)→
   ∃ out,lM l t cq sh time w ([]++R) r K=some out∧y5 5000 [] (R++xk cq.aX (min time.To w.To) (oq n sh (FL l n).aW w time.To ((cq.aV.length:Int) - 1) r.cO) (time.aM+r.bn+cq.aX)) out∧(out.length:Int)≤5011:=by
   intro K hK Wb T3
   unfold lM
   have hKE:cq.aX≤K * cq.aX:=by
    have:=Int.mul_le_mul_of_nonneg_right hK (show 0≤cq.aX by omega)
    rw [Int.one_mul] at this;exact this
   rw [aU (x:=time.aM+r.bn) (by omega) (by omega),aU (x:=K * cq.aX) (by omega) (by omega),aU (by omega) (by omega)]
   obtain ⟨o,o1,o2,o3⟩:=Lp hV n ht cq r hL time w L6 E9 NA sh hs TZ _ ([]++R) (time.aM+r.bn+K * cq.aX) (Nat.le_refl _) (by omega) Wb (by simp;omega)
   refine ⟨o,o1,?_,?_⟩
   ·refine y5.pre ?_
    have hj:time.aM+r.bn+cq.aX+(((K - 1).toNat:Nat):Int) * cq.aX=time.aM+r.bn+K * cq.aX:=by
     rw [show (((K - 1).toNat:Nat):Int)=K - 1 by omega,Int.sub_mul,Int.one_mul];omega
    rw [wZ (by omega) (K - 1).toNat,hj]
    ·exact o2
    ·intro i hi Wa
     unfold oq
     rw [if_neg]
     rintro ⟨⟨_,hc,_⟩,_⟩
     rcases T3 with h | h
     ·omega
     ·have Bm:(1+i) * cq.aX≤(K - 1) * cq.aX:=Int.mul_le_mul_of_nonneg_right (by omega) (by omega)
      have Hr:(1+i) * cq.aX=cq.aX+i * cq.aX:=by rw [Int.add_mul,Int.one_mul]
      omega
   ·simp only [List.nil_append] at o3;omega
  by_cases c:time.aM+r.bn < w.aM
  ·rw [if_pos c,aU (x:=w.aM - (time.aM+r.bn)) (by omega) (by omega),HO (by omega) (by omega) (by omega)]
   simp only [Option.bind_some]
   obtain ⟨q,hq⟩:∃ q,q=(w.aM - (time.aM+r.bn)) / cq.aX:=⟨_,rfl⟩
   have q1:q * cq.aX≤w.aM - (time.aM+r.bn):=by rw [hq];exact Int.ediv_mul_le _ (by omega)
   rw [← hq]
   by_cases h:q≤1
   ·rw [show max 1 q=(1:Int) by omega]
    exact Ss 1 (by omega) (by rw [Int.one_mul];omega) (.inl rfl)
   ·rw [show max 1 q=q by omega]
    exact Ss q (by omega) (by omega) (.inr (by rw [Int.sub_mul,Int.one_mul];omega))
  ·rw [if_neg c]
   exact Ss 1 (by omega) (by rw [Int.one_mul];omega) (.inl rfl)
theorem Gg {X X' A A':Type} {f:X→Option (X⊕A)} {f':X'→Option (X'⊕A')} (φ:X→X') (ψ:A→A') (I:X→Prop)
 (h:∀ s z,I s→f s=some z→match z with | .inl s'=>f' (φ s)=some (.inl (φ s'))∧I s' | .inr a=>f' (φ s)=some (.inr (ψ a))) {s:X} {a:A} (hI:I s) (hs:Eng.iter f s=some a):Eng.iter f' (φ s)=some (ψ a):=by
 obtain ⟨n,hn⟩:=sf.1 hs
 clear hs
 induction n generalizing s with
 | zero=>cases hn
 | succ n ih=>
   rw [iter_eq]
   unfold ps at hn
   cases hf:f s with
   | none=>rw [hf] at hn;cases hn
   | some z=>
     rw [hf] at hn
     have h1:=h s z hI hf
     cases z with
     | inl s'=>
       obtain ⟨h2,h3⟩:=h1
       rw [h2]
       exact ih h3 hn
     | inr b=>
       have h2:f' (φ s)=some (.inr (ψ b)):=h1
       rw [h2]
       obtain rfl:=Option.some.inj hn
       rfl
section shift
variable {α:Type} (P R:List α)
def ET (l:List α):List α:=P++l++R
theorem y7 {l:List α} {i:Int} {v:α} (h:idx l i=some v):idx (ET P R l) (i+P.length)=some v:=by
 obtain ⟨h0,h1,h2⟩:=fg h
 unfold idx ET
 rw [if_pos (by omega),List.append_assoc,List.getElem?_append_right (by omega),List.getElem?_append_left (by omega),show (i+(P.length:Int)).toNat - P.length=i.toNat by omega,h2]
theorem H8 {l:List α} {i:Int} (h0:0≤i) (h1:i < l.length) (v:α):(ET P R l).set (i+P.length).toNat v=ET P R (l.set i.toNat v):=by
 unfold ET
 rw [List.append_assoc,List.append_assoc,List.set_append_right _ _ (by omega),List.set_append_left _ _ (by omega),show (i+(P.length:Int)).toNat - P.length=i.toNat by omega]
def Yv (n4:Int) (L:Nat) (f':Option ((List α×Int)⊕((List α×Int)⊕List α))):(List α×Int)⊕((List α×Int)⊕List α)→Prop
 | .inl s=>f'=some (.inl (ET P R s.1,s.2+P.length))∧(s.1.length=L∧0≤s.2∧s.2≤L)
 | .inr (.inl s)=>f'=some (.inr (.inl (ET P R s.1,s.2+P.length)))∧(s.1.length=L∧s.2=n4+1)
 | .inr (.inr _)=>False
theorem Lq (lW:α→α→Option Int) (n4:Int) (l:List α) (n8:Int) (hl:l.length≤100000) (hP:P.length≤100000) (h4:0≤n4∧n4≤100000) (h8:0≤n8∧n8≤l.length) (z:(List α×Int)⊕((List α×Int)⊕List α)) (hz:qE 0 lW n4 l n8=some z):Yv P R n4 l.length (qE P.length lW (n4+P.length) (ET P R l) (n8+P.length)) z:=by
 have j1:∀ c z,tz n4 l n8 c=some z→(c=true→0 < n8)→Yv P R n4 l.length (tz (n4+P.length) (ET P R l) (n8+P.length) c) z:=by
  intro c z hz hc
  unfold tz at hz ⊢
  cases c with
  | false=>
    rw [if_neg Bool.false_ne_true] at hz
    rw [aU (by omega) (by omega)] at hz
    obtain rfl:=Option.some.inj hz
    refine ⟨?_,rfl,rfl⟩
    rw [if_neg Bool.false_ne_true,aU (by omega) (by omega),show n4+P.length+1=n4+1+(P.length:Int) by omega]
    rfl
  | true=>
    have hp:=hc rfl
    rw [if_pos rfl,aU (by omega) (by omega)] at hz
    rw [if_pos rfl,aU (by omega) (by omega),show n8+P.length - 1=n8 - 1+(P.length:Int) by omega]
    cases h1:idx l (n8 - 1) with
    | none=>rw [h1] at hz;cases hz
    | some v=>
      rw [h1] at hz
      simp only [Option.bind_some] at hz
      cases h2:idx l n8 with
      | none=>rw [h2] at hz;cases hz
      | some u=>
        rw [h2] at hz
        simp only [Option.bind_some] at hz
        obtain ⟨g0,g1,_⟩:=fg h2
        cases h3:idx (l.set n8.toNat v) (n8 - 1) with
        | none=>rw [h3] at hz;cases hz
        | some y=>
          rw [h3] at hz
          simp only [Option.bind_some] at hz
          obtain rfl:=Option.some.inj hz
          rw [y7 P R h1]
          simp only [Option.bind_some]
          rw [y7 P R h2]
          simp only [Option.bind_some]
          rw [H8 P R g0 (by omega),y7 P R h3]
          simp only [Option.bind_some]
          rw [H8 P R (by omega) (by rw [List.length_set];omega)]
          exact ⟨rfl,by simp,by omega,by omega⟩
 unfold qE at hz ⊢
 by_cases c:0 < n8
 ·rw [if_pos c] at hz
  rw [if_pos (by omega)]
  cases h2:idx l n8 with
  | none=>rw [h2] at hz;cases hz
  | some u=>
    rw [h2] at hz
    simp only [Option.bind_some] at hz
    rw [y7 P R h2]
    simp only [Option.bind_some]
    rw [aU (by omega) (by omega)] at hz
    rw [aU (by omega) (by omega),show n8+P.length - 1=n8 - 1+(P.length:Int) by omega]
    cases h1:idx l (n8 - 1) with
    | none=>rw [h1] at hz;cases hz
    | some v=>
      rw [h1] at hz
      simp only [Option.bind_some] at hz
      rw [y7 P R h1]
      simp only [Option.bind_some]
      cases hf:lW u v with
      | none=>rw [hf] at hz;cases hz
      | some k=>
        rw [hf] at hz
        simp only [Option.bind_some] at hz ⊢
        exact j1 _ z hz (fun _=>c)
 ·rw [if_neg c] at hz
  rw [if_neg (by omega)]
  exact j1 _ z hz (fun h=>by cases h)
def Yw (L:Nat):(List α×Int)⊕List α→Prop
 | .inl s=>s.1.length=L∧0≤s.2∧s.2≤L
 | .inr _=>False
theorem DH (lW:α→α→Option Int) (cf:α→α→Int) (xs:List α) (hl:(xs.length:Int)≤100000) (hP:P.length≤100000) (hf:∀ x∈xs,∀ y∈xs,lW x y=some (cf x y)) (hO:CO cf xs) (sT:xs≠[]):
 ∃ Z,FU (ET P R xs) P.length (P.length+xs.length) lW=some (ET P R Z)∧Z.Perm xs∧tx cf Z:=by
 obtain ⟨Z,z1,z2,z3⟩:=HP lW cf xs hl hf hO
 refine ⟨Z,?_,z2,z3⟩
 unfold FU uM at z1 ⊢
 rw [show aL (0+1)=1 by decide] at z1
 rw [aU (by omega) (by omega)]
 have hx:1≤xs.length:=List.length_pos_iff.2 sT
 have:=Gg (f':=fun x:(List α)×Int=>tA P.length (P.length+xs.length) lW x.1 x.2) (fun s:List α×Int=>(ET P R s.1,s.2+P.length)) (fun a:List α=>ET P R a) (fun s=>s.1.length=xs.length∧0≤s.2∧s.2≤xs.length) ?_ (s:=(xs,1)) ⟨rfl,by simp only;omega,by simp only;omega⟩ z1
 ·rw [show (1:Int)+P.length=P.length+1 by omega] at this
  exact this
 ·rintro ⟨l,i⟩ z ⟨e1,e2,e3⟩ hz
  simp only at e1 e2 e3 hz ⊢
  unfold tA at hz ⊢
  by_cases c:i < xs.length
  ·rw [if_pos c] at hz
   rw [if_pos (by omega)]
   unfold wT at hz ⊢
   have:=Gg (f':=fun x:(List α)×Int=>qE P.length lW (i+P.length) x.1 x.2) (fun s:List α×Int=>(ET P R s.1,s.2+P.length)) (fun a:(List α×Int)⊕List α=>match a with | .inl s=>.inl (ET P R s.1,s.2+P.length) | .inr l=>.inr (ET P R l)) (fun s=>s.1.length=xs.length∧0≤s.2∧s.2≤xs.length) ?_ (s:=(l,i)) ⟨e1,e2,e3⟩ hz
   ·have inv:Yw xs.length z:=by
     obtain ⟨n,hn⟩:=sf.1 hz
     have key:∀ (n:Nat) (s:List α×Int),(s.1.length=xs.length∧0≤s.2∧s.2≤xs.length)→ps (fun x:(List α)×Int=>qE 0 lW i x.1 x.2) n s=some z→Yw xs.length z:=by
      intro n
      induction n with
      | zero=>intro s _ h;cases h
      | succ n ih=>
        intro s hs h
        unfold ps at h
        cases hb:qE 0 lW i s.1 s.2 with
        | none=>rw [hb] at h;cases h
        | some y=>
          rw [hb] at h
          have h3:=Lq P R lW i s.1 s.2 (by omega) hP (by omega) (by omega) y hb
          match y,h3,h with
          | .inl (l',m),h3,h=>
            obtain ⟨_,q1,q2,q3⟩:=h3
            simp only at q1 q2 q3
            exact ih (l',m) ⟨by simp only;omega,by simp only;omega,by simp only;omega⟩ h
          | .inr (.inl (l',m)),h3,h=>
            obtain ⟨_,q1,q2⟩:=h3
            simp only at q1 q2
            obtain rfl:=Option.some.inj h
            exact ⟨by simp only;omega,by simp only;omega,by simp only;omega⟩
          | .inr (.inr _),h3,_=>exact h3.elim
     exact key n (l,i) ⟨e1,e2,e3⟩ hn
    cases z with
    | inl s=>exact ⟨this,inv⟩
    | inr _=>exact inv.elim
   ·rintro ⟨l2,i2⟩ y ⟨d1,d2,d3⟩ hy
    simp only at d1 d2 d3 hy ⊢
    have h3:=Lq P R lW i l2 i2 (by omega) hP (by omega) (by omega) y hy
    match y,h3 with
    | .inl (l',m),h3=>
      obtain ⟨q0,q1,q2,q3⟩:=h3
      simp only at q1 q2 q3
      exact ⟨q0,by simp only;omega,by simp only;omega,by simp only;omega⟩
    | .inr (.inl (l',m)),h3=>exact h3.1
    | .inr (.inr _),h3=>exact h3.elim
  ·rw [if_neg c] at hz
   rw [if_neg (by omega)]
   obtain rfl:=Option.some.inj hz
   rfl
end shift
section
variable {α:Type}
noncomputable def w4 (ah:Int) (ao:Int) (aD:Int) (l3:List α) (n4:Int):Option (((List α)×Int)⊕(List α)):=
 if n4 < aD then
  (idx l3 (aL (ao+n4))).bind fun v5=>
  (idx l3 (aL (ah+n4))).bind fun v6=>
  (idx l3 (aL (ah+n4))).bind fun v7=>
  (idx (l3.set (aL (ah+n4)).toNat v5) (aL (ao+n4))).bind fun v8=>
  some (.inl ((l3.set (aL (ah+n4)).toNat v5).set (aL (ao+n4)).toNat v6,aL (n4+(1:Int))))
 else
  Option.map .inr (some l3)
noncomputable def NB (l:List α) (a b n:Int):Option (List α):=iter (fun x:(List α)×Int=>w4 a b n x.1 x.2) (l,(0:Int))
noncomputable def H9 (ao:Int) (l4:List α) (n5:Int):Option (List α):=
 (fO l4.length (fun r:(List α)=>r.length) (NB l4 (aL (ao - n5)) ao n5)).bind fun v12=>
 some v12
noncomputable def ED (ao:Int) (l4:List α) (n5:Int) (n6:Int):Option (((List α)×Int×Int)⊕(List α)):=
 if n5≠n6 then
  if n6 < n5 then
   (fO l4.length (fun r:(List α)=>r.length) (NB l4 (aL (ao - n5)) ao n6)).bind fun v10=>
   some (.inl (v10,aL (n5 - n6),n6))
  else
   (fO l4.length (fun r:(List α)=>r.length) (NB l4 (aL (ao - n5)) (aL ((aL (ao+n6)) - n5)) n5)).bind fun v11=>
   some (.inl (v11,n5,aL (n6 - n5)))
 else
  Option.map .inr (H9 ao l4 n5)
noncomputable def EE (ao:Int) (l4:List α) (n5:Int) (n6:Int):Option (List α):=
 iter (fun x:(List α)×Int×Int=>ED ao x.1 x.2.1 x.2.2) (l4,n5,n6)
noncomputable def PE (ab:List α) (ah:Int) (ao:Int) (aD:Int):Option (List α):=
 EE ao ab (aL (ao - ah)) (aL (aD - ao))
def L7 (a b n t:Nat):Nat:=if a≤t∧t < a+n then t+(b - a) else if b≤t∧t < b+n then t - (b - a) else t
def Su (a m b t:Nat):Nat:=if a≤t∧t < a+(b - m) then t+(m - a) else if a+(b - m)≤t∧t < b then t - (b - m) else t
theorem Lr {l:List α} {i:Nat} (h:i < l.length):∃ v,idx l (i:Int)=some v∧l[i]? =some v:=by
 refine ⟨l[i],?_,List.getElem?_eq_getElem h⟩
 unfold idx
 rw [if_pos (by omega),Int.toNat_natCast,List.getElem?_eq_getElem h]
theorem G9 (l:List α) (a b n:Nat) (hl:l.length≤1000000) (h1:a+n≤b) (h2:b+n≤l.length):∃ r,NB l a b n=some r∧r.length=l.length∧∀ t:Nat,r[t]? =l[L7 a b n t]?:=by
 have key:∀ (m k:Nat) (L:List α),k+m=n→L.length=l.length→(∀ t:Nat,L[t]? =l[L7 a b k t]?)→∃ r,iter (fun x:(List α)×Int=>w4 a b n x.1 x.2) (L,(k:Int))=some r∧r.length=l.length∧∀ t:Nat,r[t]? =l[L7 a b n t]?:=by
  intro m
  induction m with
  | zero=>
    intro k L hk hL hp
    refine ⟨L,?_,hL,fun t=>by rw [hp t,show k=n by omega]⟩
    rw [iter_eq]
    show (w4 a b n L k).bind _=_
    unfold w4
    rw [if_neg (by omega)]
    rfl
  | succ m ih=>
    intro k L hk hL hp
    obtain ⟨x,x1,x2⟩:=Lr (l:=L) (i:=a+k) (by omega)
    obtain ⟨y,y1,y2⟩:=Lr (l:=L) (i:=b+k) (by omega)
    obtain ⟨z,z1,z2⟩:=Lr (l:=L.set (a+k) y) (i:=b+k) (by rw [List.length_set];omega)
    have:=ih (k+1) ((L.set (a+k) y).set (b+k) x) (by omega) (by rw [List.length_set,List.length_set];exact hL) (fun t=>by
     rw [List.getElem?_set,List.getElem?_set,List.length_set]
     by_cases c1:b+k=t
     ·rw [if_pos c1,if_pos (by omega),← x2,hp (a+k)]
      congr 1
      unfold L7
      rw [if_neg (by omega),if_neg (by omega),if_neg (by omega),if_pos (by omega)]
      omega
     ·rw [if_neg c1]
      by_cases c2:a+k=t
      ·rw [if_pos c2,if_pos (by omega),← y2,hp (b+k)]
       congr 1
       unfold L7
       rw [if_neg (by omega),if_neg (by omega),if_pos (by omega)]
       omega
      ·rw [if_neg c2,hp t]
       congr 1
       unfold L7
       repeat' split
       all_goals omega)
    rw [iter_eq]
    show ∃ r,(w4 a b n L k).bind _=some r∧_
    unfold w4
    rw [if_pos (by omega),aU (x:=(b:Int)+k) (by omega) (by omega),aU (x:=(a:Int)+k) (by omega) (by omega),aU (x:=(k:Int)+1) (by omega) (by omega)]
    rw [show (b:Int)+k=((b+k:Nat):Int) by omega,show (a:Int)+k=((a+k:Nat):Int) by omega,x1,y1]
    simp only [Option.bind_some,Int.toNat_natCast]
    rw [z1]
    simp only [Option.bind_some,cK]
    rw [show (k:Int)+1=((k+1:Nat):Int) by omega]
    exact this
 exact key n 0 l (by omega) rfl (fun t=>by
  congr 1
  unfold L7
  rw [if_neg (by omega),if_neg (by omega)])
theorem Ls:∀ (fuel i j:Nat) (L:List α) (m:Nat),i+j≤fuel→1≤i→1≤j→i≤m→m+j≤L.length→L.length≤1000000→∃ r,EE m L i j=some r∧r.length=L.length∧∀ t:Nat,r[t]? =L[Su (m - i) m (m+j) t]?:=by
 intro fuel
 induction fuel with
 | zero=>intro i j L m h h1 h2;omega
 | succ fuel ih=>
   intro i j L m hf hi hj C4 hjm hl
   unfold EE
   rw [iter_eq]
   show ∃ r,(ED m L i j).bind _=some r∧_
   unfold ED
   by_cases c:i=j
   ·subst c
    rw [if_neg (fun h=>h rfl)]
    unfold H9
    obtain ⟨r,r1,r2,r3⟩:=G9 L (m - i) m i hl (by omega) (by omega)
    rw [aU (by omega) (by omega),show (m:Int) - i=((m - i:Nat):Int) by omega,nJ r1 r2]
    refine ⟨r,rfl,r2,fun t=>?_⟩
    rw [r3 t]
    congr 1
    unfold L7 Su
    repeat' split
    all_goals omega
   ·rw [if_pos (by omega)]
    by_cases d:j < i
    ·rw [if_pos (by omega)]
     obtain ⟨r,r1,r2,r3⟩:=G9 L (m - i) m j hl (by omega) (by omega)
     obtain ⟨s,s1,s2,s3⟩:=ih (i - j) j r m (by omega) (by omega) hj (by omega) (by omega) (by omega)
     rw [aU (x:=(m:Int) - i) (by omega) (by omega),show (m:Int) - i=((m - i:Nat):Int) by omega,nJ r1 r2]
     simp only [Option.bind_some,cK]
     rw [aU (by omega) (by omega),show (i:Int) - j=((i - j:Nat):Int) by omega]
     refine ⟨s,s1,by omega,fun t=>?_⟩
     rw [s3 t,r3]
     congr 1
     unfold L7 Su
     repeat' split
     all_goals omega
    ·rw [if_neg (by omega)]
     obtain ⟨r,r1,r2,r3⟩:=G9 L (m - i) (m+j - i) i hl (by omega) (by omega)
     obtain ⟨s,s1,s2,s3⟩:=ih i (j - i) r m (by omega) hi (by omega) C4 (by omega) (by omega)
     rw [aU (x:=(m:Int) - i) (by omega) (by omega),aU (x:=(m:Int)+j) (by omega) (by omega),aU (x:=(m:Int)+j - i) (by omega) (by omega),show (m:Int) - i=((m - i:Nat):Int) by omega,show (m:Int)+j - i=((m+j - i:Nat):Int) by omega,nJ r1 r2]
     simp only [Option.bind_some,cK]
     rw [aU (by omega) (by omega),show (j:Int) - i=((j - i:Nat):Int) by omega]
     refine ⟨s,s1,by omega,fun t=>?_⟩
     rw [s3 t,r3]
     congr 1
     unfold L7 Su
     repeat' split
     all_goals omega
theorem PF (P X Y R:List α) (hX:X≠[]) (hY:Y≠[]) (hl:(P++X++Y++R).length≤1000000):PE (P++X++Y++R) P.length ((P.length+X.length:Nat):Int) ((P.length+X.length+Y.length:Nat):Int)=some (P++Y++X++R):=by
 have h1:=List.length_pos_iff.2 hX
 have h2:=List.length_pos_iff.2 hY
 simp only [List.length_append] at hl
 obtain ⟨r,r1,r2,r3⟩:=Ls (X.length+Y.length) X.length Y.length (P++X++Y++R) (P.length+X.length) (Nat.le_refl _) h1 h2 (by omega) (by simp only [List.length_append];omega) (by simp only [List.length_append];omega)
 unfold PE
 rw [aU (by omega) (by omega),aU (by omega) (by omega),show ((P.length+X.length:Nat):Int) - P.length=X.length by omega,show ((P.length+X.length+Y.length:Nat):Int) - ((P.length+X.length:Nat):Int)=Y.length by omega,r1]
 congr 1
 apply List.ext_getElem?
 intro t
 rw [r3 t,show P.length+X.length - X.length=P.length by omega]
 unfold Su
 rw [show P.length+X.length+Y.length - (P.length+X.length)=Y.length by omega,show P.length+X.length - P.length=X.length by omega]
 have e1:∀ u,(P++X++Y++R)[u]? =if u < P.length then P[u]? else if u < P.length+X.length then X[u - P.length]? else if u < P.length+X.length+Y.length then Y[u - (P.length+X.length)]? else R[u - (P.length+X.length+Y.length)]?:=fun u=>by
  rw [List.getElem?_append,List.getElem?_append,List.getElem?_append]
  simp only [List.length_append]
  repeat' split
  all_goals first | rfl | (exfalso;omega)
 have e2:∀ u,(P++Y++X++R)[u]? =if u < P.length then P[u]? else if u < P.length+Y.length then Y[u - P.length]? else if u < P.length+Y.length+X.length then X[u - (P.length+Y.length)]? else R[u - (P.length+Y.length+X.length)]?:=fun u=>by
  rw [List.getElem?_append,List.getElem?_append,List.getElem?_append]
  simp only [List.length_append]
  repeat' split
  all_goals first | rfl | (exfalso;omega)
 rw [e2]
 by_cases c1:t < P.length
 ·rw [if_neg (show ¬ (P.length≤t∧t < P.length+Y.length) by omega),if_neg (show ¬ (P.length+Y.length≤t∧t < P.length+X.length+Y.length) by omega),e1,if_pos c1,if_pos c1]
 rw [if_neg c1]
 by_cases c2:t < P.length+Y.length
 ·rw [if_pos (show P.length≤t∧t < P.length+Y.length by omega),e1,if_neg (by omega),if_neg (by omega),if_pos (by omega),if_pos c2]
  congr 1;omega
 rw [if_neg c2,if_neg (show ¬ (P.length≤t∧t < P.length+Y.length) by omega)]
 by_cases c3:t < P.length+Y.length+X.length
 ·rw [if_pos (show P.length+Y.length≤t∧t < P.length+X.length+Y.length by omega),e1,if_neg (by omega),if_pos (by omega),if_pos c3]
  congr 1;omega
 ·rw [if_neg c3,if_neg (show ¬ (P.length+Y.length≤t∧t < P.length+X.length+Y.length) by omega),e1,if_neg (by omega),if_neg (by omega),if_neg (by omega)]
  congr 1;omega
end
section
variable {α:Type}
noncomputable def y8 (n3:Int) (jT:List α) (n13:Int):Option (((List α)×Int)⊕(List α)):=
 if n13 < (aL (n3 - (1:Int))) then
  (idx jT (aL (n13+(1:Int)))).bind fun gR=>
  (idx jT n13).bind fun ll=>
  (idx jT n13).bind fun xo=>
  (idx (jT.set n13.toNat gR) (aL (n13+(1:Int)))).bind fun v17=>
  some (.inl ((jT.set n13.toNat gR).set (aL (n13+(1:Int))).toNat ll,aL (n13+(1:Int))))
 else
  Option.map .inr (some jT)
noncomputable def A1 (n3:Int) (jT:List α) (n13:Int):Option (List α):=
 iter (fun x:(List α)×Int=>y8 n3 x.1 x.2) (jT,n13)
noncomputable def y9 (ab:List α) (ah:Int) (cG:α→α→Option Int) (n3:Int) (n4:Int):Option ((Int×Int)⊕(List α)):=
 if n3 < n4 then
  (idx ab (aL (cd .u64 (IntKind.u64.wrap (aL (n3+n4))) (1:Int)))).bind fun v5=>
  (idx ab ah).bind fun v6=>
  (cG v5 v6).bind fun v7=>
  if v7 < (0:Int) then
   some (.inl (aL ((aL (cd .u64 (IntKind.u64.wrap (aL (n3+n4))) (1:Int)))+(1:Int)),n4))
  else
   some (.inl (n3,aL (cd .u64 (IntKind.u64.wrap (aL (n3+n4))) (1:Int))))
 else
  Option.map .inr (A1 n3 ab ah)
noncomputable def uS (ab:List α) (ah:Int) (cG:α→α→Option Int) (n3:Int) (n4:Int):Option (List α):=
 iter (fun x:Int×Int=>y9 ab ah cG x.1 x.2) (n3,n4)
noncomputable def za (n20:Int) (nW:List α) (n30:Int):Option (((List α)×Int)⊕(List α)):=
 if n20 < n30 then
  (idx nW (aL (n30 - (1:Int)))).bind fun v31=>
  (idx nW n30).bind fun v32=>
  (idx nW n30).bind fun v33=>
  (idx (nW.set n30.toNat v31) (aL (n30 - (1:Int)))).bind fun EO=>
  some (.inl ((nW.set n30.toNat v31).set (aL (n30 - (1:Int))).toNat v32,aL (n30 - (1:Int))))
 else
  Option.map .inr (some nW)
noncomputable def zb (n20:Int) (nW:List α) (n30:Int):Option (List α):=
 iter (fun x:(List α)×Int=>za n20 x.1 x.2) (nW,n30)
noncomputable def zc (ab:List α) (ao:Int) (cG:α→α→Option Int) (n20:Int) (n21:Int):Option ((Int×Int)⊕(List α)):=
 if n20 < n21 then
  (idx ab ao).bind fun v22=>
  (idx ab (aL (cd .u64 (IntKind.u64.wrap (aL (n20+n21))) (1:Int)))).bind fun v23=>
  (cG v22 v23).bind fun v24=>
  if ¬ (v24 < (0:Int)) then
   some (.inl (aL ((aL (cd .u64 (IntKind.u64.wrap (aL (n20+n21))) (1:Int)))+(1:Int)),n21))
  else
   some (.inl (n20,aL (cd .u64 (IntKind.u64.wrap (aL (n20+n21))) (1:Int))))
 else
  Option.map .inr (zb n20 ab ao)
noncomputable def uT (ab:List α) (ao:Int) (cG:α→α→Option Int) (n20:Int) (n21:Int):Option (List α):=
 iter (fun x:Int×Int=>zc ab ao cG x.1 x.2) (n20,n21)
theorem Lt {S A:Type} {f:S→Option (S⊕A)} {s s':S} (h:f s=some (.inl s')):Eng.iter f s=Eng.iter f s':=by
 rw [iter_eq,h];rfl
theorem zd {S A:Type} {f:S→Option (S⊕A)} {s:S} {o:Option A} (h:f s=Option.map .inr o):Eng.iter f s=o:=by
 rw [iter_eq,h,bV]
theorem Wc {x:Int} (h0:0≤x) (h1:x < 18446744073709551616):IntKind.u64.wrap x=x:=by
 show x % (2 ^ 64:Int)=x
 exact Int.emod_eq_of_lt h0 (by omega)
theorem ze {i j:Nat} (h:i+j≤4000000):aL (cd .u64 (IntKind.u64.wrap (aL ((i:Int)+j))) 1)=(((i+j) / 2:Nat):Int):=by
 have e1:aL ((i:Int)+j)=(i:Int)+j:=by rw [aU]<;>omega
 have e2:IntKind.u64.wrap ((i:Int)+j)=(i:Int)+j:=Wc (by omega) (by omega)
 rw [e1,e2]
 have e3:cd .u64 ((i:Int)+j) 1=((i:Int)+j) / 2:=by
  show ((i:Int)+j).fdiv 2=_
  rw [Int.fdiv_eq_ediv_of_nonneg _ (by omega)]
 rw [e3,aU]<;>omega
theorem Sv (P:List α) (x y:α) (T:List α):((P++x :: y :: T).set P.length y).set (P.length+1) x=P++y :: x :: T:=by
 induction P with
 | nil=>rfl
 | cons p P ih=>simp only [List.cons_append,List.length_cons,List.set_cons_succ,ih]
theorem Lu:∀ (Y P R:List α) (x:α),(P++x :: (Y++R)).length≤1000000→A1 ((P.length+Y.length+1:Nat):Int) (P++x :: (Y++R)) P.length=some (P++(Y++x :: R))
 | [],P,R,x,hl=>by
   simp only [List.length_append,List.length_cons,List.length_nil] at hl
   unfold A1
   refine zd (o:=some _) ?_
   show y8 ((P.length+([]:List α).length+1:Nat):Int) (P++x :: ([]++R)) P.length=_
   unfold y8
   rw [List.length_nil,aU (by omega) (by omega),if_neg (by omega)]
   rfl
 | y :: Y,P,R,x,hl=>by
   have ih:=Lu Y (P++[y]) R x (by simp only [List.length_append,List.length_cons,List.length_nil] at hl ⊢;omega)
   simp only [List.length_append,List.length_cons] at hl
   have Bd:(y :: Y).length=Y.length+1:=rfl
   have i0:idx (P++x :: (y :: Y++R)) P.length=some x:=wU P x _ rfl
   have i1:idx (P++x :: (y :: Y++R)) ((P.length:Int)+1)=some y:=by
    have:=wU (P++[x]) y (Y++R) (i:=(P.length:Int)+1) (by simp)
    simpa using this
   obtain ⟨z,z1,_⟩:=Lr (l:=(P++x :: (y :: Y++R)).set (P.length:Int).toNat y) (i:=P.length+1) (by simp)
   have e1:P++y :: x :: (Y++R)=(P++[y])++x :: (Y++R):=by simp
   have e2:((P.length+(y :: Y).length+1:Nat):Int)=(((P++[y]).length+Y.length+1:Nat):Int):=by simp;omega
   have e3:((P.length+1:Nat):Int)=((P++[y]).length:Int):=by simp
   refine Eq.trans (Lt (s':=((P++[y])++x :: (Y++R),((P++[y]).length:Int))) ?_) ?_
   ·show y8 _ (P++x :: (y :: Y++R)) P.length=_
    unfold y8
    rw [Bd,aU (by omega) (by omega),if_pos (by omega),aU (by omega) (by omega),i1]
    simp only [Option.bind_some]
    rw [i0]
    simp only [Option.bind_some]
    rw [show (P.length:Int)+1=((P.length+1:Nat):Int) by omega,z1]
    simp only [Option.bind_some,Int.toNat_natCast]
    rw [show (P++x :: (y :: Y++R))=P++x :: y :: (Y++R) from rfl,Sv,e1,e3]
   ·rw [e2]
    refine Eq.trans ih ?_
    simp
theorem PG:∀ (k:Nat) (Y P R:List α) (y:α),Y.length=k→(P++(Y++y :: R)).length≤1000000→zb P.length (P++(Y++y :: R)) ((P.length+Y.length:Nat):Int)=some (P++y :: (Y++R)):=by
 intro k
 induction k with
 | zero=>
   intro Y P R y hY hl
   obtain rfl:=List.eq_nil_of_length_eq_zero hY
   unfold zb
   refine zd (o:=some _) ?_
   show za P.length (P++([]++y :: R)) ((P.length+([]:List α).length:Nat):Int)=_
   unfold za
   rw [List.length_nil,if_neg (by omega)]
   rfl
 | succ k ih=>
   intro Y P R y hY hl
   obtain ⟨Z,x,rfl⟩:∃ Z x,Y=Z++[x]:=⟨Y.dropLast,Y.getLast (fun e=>by rw [e] at hY;cases hY),(List.dropLast_concat_getLast _).symm⟩
   have hZ:Z.length=k:=by simpa using hY
   have Yx:=ih Z P (x :: R) y hZ (by simp only [List.length_append,List.length_cons,List.length_nil] at hl ⊢;omega)
   simp only [List.length_append,List.length_cons,List.length_nil] at hl
   have eD:P++(Z++[x]++y :: R)=(P++Z)++x :: y :: R:=by simp
   have e0:((P.length+(Z++[x]).length:Nat):Int) - 1=(((P++Z).length:Nat):Int):=by simp;omega
   have e1:((P.length+(Z++[x]).length:Nat):Int)=(((P++Z).length+1:Nat):Int):=by simp;omega
   have hPZ:(P++Z).length=P.length+Z.length:=List.length_append
   have i0:idx ((P++Z)++x :: y :: R) ((P++Z).length:Int)=some x:=wU (P++Z) x _ rfl
   have i1:idx ((P++Z)++x :: y :: R) (((P++Z).length+1:Nat):Int)=some y:=by
    have:=wU ((P++Z)++[x]) y R (i:=(((P++Z).length+1:Nat):Int)) (by simp;omega)
    simpa using this
   obtain ⟨z,z1,_⟩:=Lr (l:=((P++Z)++x :: y :: R).set ((P++Z).length+1) x) (i:=(P++Z).length) (by rw [List.length_set,List.length_append];simp)
   have es:(((P++Z)++x :: y :: R).set ((P++Z).length+1) x).set (P++Z).length y=(P++Z)++y :: x :: R:=FV (P++Z) y x R
   have e2:(P++Z)++y :: x :: R=P++(Z++y :: x :: R):=by simp
   have e3:(((P++Z).length:Nat):Int)=((P.length+Z.length:Nat):Int):=by simp
   rw [eD,e1]
   unfold zb at Yx ⊢
   refine Eq.trans (Lt (s':=(P++(Z++y :: x :: R),((P.length+Z.length:Nat):Int))) ?_) ?_
   ·show za P.length ((P++Z)++x :: y :: R) (((P++Z).length+1:Nat):Int)=_
    unfold za
    rw [if_pos (by omega),aU (by omega) (by omega),show (((P++Z).length+1:Nat):Int) - 1=((P++Z).length:Int) by omega,i0]
    simp only [Option.bind_some]
    rw [i1]
    simp only [Option.bind_some,Int.toNat_natCast]
    rw [z1]
    simp only [Option.bind_some]
    rw [es,e2,e3]
   ·refine Eq.trans Yx ?_
    simp
theorem Lv (P S T R:List α) {i:Nat} (h:i < S.length):idx (P++S++T++R) ((P.length+i:Nat):Int)=some S[i]:=by
 unfold idx
 rw [if_pos (by omega),Int.toNat_natCast,List.append_assoc,List.append_assoc,List.getElem?_append_right (by omega),List.getElem?_append_left (by omega),show P.length+i - P.length=i by omega,List.getElem?_eq_getElem h]
theorem Lw (P S T R:List α) {i:Nat} (h:i < T.length):idx (P++S++T++R) ((P.length+S.length+i:Nat):Int)=some T[i]:=by
 unfold idx
 rw [if_pos (by omega),Int.toNat_natCast,List.append_assoc,List.append_assoc,List.getElem?_append_right (by omega),List.getElem?_append_right (by omega),List.getElem?_append_left (by omega),show P.length+S.length+i - P.length - S.length=i by omega,List.getElem?_eq_getElem h]
variable {c:α→α→Int}
theorem PH (hc:nI c) {a b d:α} (h1:¬ c b a < 0) (h2:¬ c d b < 0):¬ c d a < 0:=(hc.ord [a,b,d]).TO d (by simp) b (by simp) a (by simp) h2 h1
theorem Yy (hc:nI c) {a b d:α} (h1:¬ c b a < 0) (h2:c b d < 0):c a d < 0:=Classical.byContradiction fun h=>PH hc h h1 h2
theorem Wd (hc:nI c) {a b d:α} (h1:c a b < 0) (h2:¬ c d b < 0):c a d < 0:=Classical.byContradiction fun h=>PH hc h2 h h1
theorem Lx (hc:nI c) {a b:α} (h:c a b < 0):¬ c b a < 0:=by have:=hc.neg a b;omega
theorem tB {S:List α} (h:tx c S) {i j:Nat} (hi:i < S.length) (hj:j < S.length) (Bl:i≤j):i=j∨¬ c S[j] S[i] < 0:=by
 by_cases e:i=j
 ·exact .inl e
 ·exact .inr (List.pairwise_iff_getElem.1 h i j hi hj (by omega))
theorem r8 {S:List α} {k:Nat} {x:α} (h:x∈S.take k):∃ i,∃ hi:i < S.length,i < k∧S[i]=x:=by
 obtain ⟨i,hi,rfl⟩:=List.getElem_of_mem h
 have Gw:i < k∧i < S.length:=by rw [List.length_take] at hi;omega
 exact ⟨i,Gw.2,Gw.1,by rw [List.getElem_take]⟩
theorem r9 {S:List α} {k:Nat} {x:α} (h:x∈S.drop k):∃ i,∃ hi:i < S.length,k≤i∧S[i]=x:=by
 obtain ⟨i,hi,rfl⟩:=List.getElem_of_mem h
 have Gw:k+i < S.length:=by rw [List.length_drop] at hi;omega
 exact ⟨k+i,Gw,by omega,by rw [List.getElem_drop]⟩
variable (hc:nI c) (f:α→α→Option Int) (hf:∀ a b,f a b=some (c a b))
include hc hf
theorem NC (P T R:List α) (x:α) (hT:tx c T) (hl:(P++[x]++T++R).length≤1000000):∃ U,uS (P++[x]++T++R) P.length f ((P.length+1:Nat):Int) ((P.length+1+T.length:Nat):Int)=some (P++U++R)∧U.Perm ([x]++T)∧tx c U:=by
 have x4:P.length+1+T.length+R.length≤1000000:=by simp only [List.length_append,List.length_cons,List.length_nil] at hl;omega
 have key:∀ (fuel i j:Nat),j - i≤fuel→i≤j→j≤T.length→(∀ t∈T.take i,c t x < 0)→(∀ t∈T.drop j,¬ c t x < 0)→∃ h,h≤T.length∧(∀ t∈T.take h,c t x < 0)∧(∀ t∈T.drop h,¬ c t x < 0)∧
  uS (P++[x]++T++R) P.length f ((P.length+1+i:Nat):Int) ((P.length+1+j:Nat):Int)=A1 ((P.length+1+h:Nat):Int) (P++[x]++T++R) P.length:=by
  intro fuel
  induction fuel with
  | zero=>
    intro i j Sw Bl hj h1 h2
    have:i=j:=by omega
    subst this
    refine ⟨i,hj,h1,h2,?_⟩
    unfold uS
    refine zd ?_
    unfold y9
    rw [if_neg (by simp only;omega)]
  | succ fuel ih=>
    intro i j Sw Bl hj h1 h2
    by_cases e:i=j
    ·subst e
     refine ⟨i,hj,h1,h2,?_⟩
     unfold uS
     refine zd ?_
     unfold y9
     rw [if_neg (by simp only;omega)]
    ·obtain ⟨q,hq⟩:∃ q,q=(i+j) / 2:=⟨_,rfl⟩
     have Ro:i≤q∧q < j:=by omega
     have Ox:q < T.length:=by omega
     have hh:((P.length+1+i+(P.length+1+j)) / 2:Nat)=P.length+1+q:=by omega
     have i1:idx (P++[x]++T++R) ((P.length+1+q:Nat):Int)=some T[q]:=Lw P [x] T R Ox
     have i2:idx (P++[x]++T++R) (P.length:Int)=some x:=Lv P [x] T R (i:=0) (by simp)
     have step:y9 (P++[x]++T++R) P.length f ((P.length+1+i:Nat):Int) ((P.length+1+j:Nat):Int)=some (.inl (if c T[q] x < 0 then (((P.length+1+(q+1):Nat):Int),((P.length+1+j:Nat):Int)) else (((P.length+1+i:Nat):Int),((P.length+1+q:Nat):Int)))):=by
      unfold y9
      rw [if_pos (by omega),ze (by omega),hh,i1]
      simp only [Option.bind_some]
      rw [i2]
      simp only [Option.bind_some]
      rw [hf]
      simp only [Option.bind_some]
      rw [aU (by omega) (by omega)]
      split
      ·rfl
      ·rfl
     by_cases d:c T[q] x < 0
     ·obtain ⟨h,a1,a2,a3,a4⟩:=ih (q+1) j (by omega) (by omega) hj (fun t ht=>by
       obtain ⟨u,hu,We,rfl⟩:=r8 ht
       rcases tB hT hu Ox (by omega) with g | g
       ·subst g;exact d
       ·exact Yy hc g d) h2
      refine ⟨h,a1,a2,a3,?_⟩
      rw [← a4]
      unfold uS
      refine Lt ?_
      rw [if_pos d] at step
      exact step
     ·obtain ⟨h,a1,a2,a3,a4⟩:=ih i q (by omega) (by omega) (by omega) h1 (fun t ht=>by
       obtain ⟨u,hu,We,rfl⟩:=r9 ht
       rcases tB hT Ox hu (by omega) with g | g
       ·subst g;exact d
       ·exact fun z=>d (Yy hc g z))
      refine ⟨h,a1,a2,a3,?_⟩
      rw [← a4]
      unfold uS
      refine Lt ?_
      rw [if_neg d] at step
      exact step
 obtain ⟨h,a1,a2,a3,a4⟩:=key T.length 0 T.length (by omega) (by omega) (Nat.le_refl _) (by simp) (by simp)
 refine ⟨T.take h++x :: T.drop h,?_,?_,?_⟩
 ·rw [show ((P.length+1:Nat):Int)=((P.length+1+0:Nat):Int) from rfl,a4]
  have e:P++[x]++T++R=P++x :: (T.take h++(T.drop h++R)):=by
   rw [← List.append_assoc (T.take h),List.take_append_drop];simp
  have T4:(T.take h).length=h:=by rw [List.length_take];omega
  have:=Lu (T.take h) P (T.drop h++R) x (by rw [← e];exact hl)
  rw [T4] at this
  rw [e,show P.length+1+h=P.length+h+1 by omega,this]
  simp
 ·have h1:=List.perm_middle (a:=x) (l₁:=T.take h) (l₂:=T.drop h)
  rw [List.take_append_drop] at h1
  exact h1
 ·unfold tx
  rw [List.pairwise_append,List.pairwise_cons]
  have L6:=hT
  unfold tx at L6
  rw [← List.take_append_drop h T,List.pairwise_append] at L6
  refine ⟨L6.1,⟨a3,L6.2.1⟩,fun u hu v hv=>?_⟩
  rcases List.mem_cons.1 hv with rfl | hv
  ·exact Lx hc (a2 u hu)
  ·exact L6.2.2 u hu v hv
theorem ND (P S R:List α) (y:α) (hS:tx c S) (hl:(P++S++[y]++R).length≤1000000):∃ U,uT (P++S++[y]++R) ((P.length+S.length:Nat):Int) f P.length ((P.length+S.length:Nat):Int)=some (P++U++R)∧U.Perm (S++[y])∧tx c U:=by
 have x4:P.length+S.length+1+R.length≤1000000:=by simp only [List.length_append,List.length_cons,List.length_nil] at hl;omega
 have key:∀ (fuel i j:Nat),j - i≤fuel→i≤j→j≤S.length→(∀ t∈S.take i,¬ c y t < 0)→(∀ t∈S.drop j,c y t < 0)→∃ h,h≤S.length∧(∀ t∈S.take h,¬ c y t < 0)∧(∀ t∈S.drop h,c y t < 0)∧
  uT (P++S++[y]++R) ((P.length+S.length:Nat):Int) f ((P.length+i:Nat):Int) ((P.length+j:Nat):Int)=zb ((P.length+h:Nat):Int) (P++S++[y]++R) ((P.length+S.length:Nat):Int):=by
  intro fuel
  induction fuel with
  | zero=>
    intro i j Sw Bl hj h1 h2
    have:i=j:=by omega
    subst this
    refine ⟨i,hj,h1,h2,?_⟩
    unfold uT
    refine zd ?_
    unfold zc
    rw [if_neg (by simp only;omega)]
  | succ fuel ih=>
    intro i j Sw Bl hj h1 h2
    by_cases e:i=j
    ·subst e
     refine ⟨i,hj,h1,h2,?_⟩
     unfold uT
     refine zd ?_
     unfold zc
     rw [if_neg (by simp only;omega)]
    ·obtain ⟨q,hq⟩:∃ q,q=(i+j) / 2:=⟨_,rfl⟩
     have Ro:i≤q∧q < j:=by omega
     have Oy:q < S.length:=by omega
     have hh:((P.length+i+(P.length+j)) / 2:Nat)=P.length+q:=by omega
     have i1:idx (P++S++[y]++R) ((P.length+q:Nat):Int)=some S[q]:=Lv P S [y] R Oy
     have i2:idx (P++S++[y]++R) ((P.length+S.length:Nat):Int)=some y:=Lw P S [y] R (i:=0) (by simp)
     have step:zc (P++S++[y]++R) ((P.length+S.length:Nat):Int) f ((P.length+i:Nat):Int) ((P.length+j:Nat):Int)=some (.inl (if ¬ c y S[q] < 0 then (((P.length+(q+1):Nat):Int),((P.length+j:Nat):Int)) else (((P.length+i:Nat):Int),((P.length+q:Nat):Int)))):=by
      unfold zc
      rw [if_pos (by omega),i2]
      simp only [Option.bind_some]
      rw [ze (by omega),hh,i1]
      simp only [Option.bind_some]
      rw [hf]
      simp only [Option.bind_some]
      rw [aU (by omega) (by omega)]
      split
      ·rfl
      ·rfl
     by_cases d:¬ c y S[q] < 0
     ·obtain ⟨h,a1,a2,a3,a4⟩:=ih (q+1) j (by omega) (by omega) hj (fun t ht=>by
       obtain ⟨u,hu,We,rfl⟩:=r8 ht
       rcases tB hS hu Oy (by omega) with g | g
       ·subst g;exact d
       ·exact PH hc g d) h2
      refine ⟨h,a1,a2,a3,?_⟩
      rw [← a4]
      unfold uT
      refine Lt ?_
      rw [if_pos d] at step
      exact step
     ·obtain ⟨h,a1,a2,a3,a4⟩:=ih i q (by omega) (by omega) (by omega) h1 (fun t ht=>by
       obtain ⟨u,hu,We,rfl⟩:=r9 ht
       have d':=Decidable.not_not.1 d
       rcases tB hS Oy hu (by omega) with g | g
       ·subst g;exact d'
       ·exact Wd hc d' g)
      refine ⟨h,a1,a2,a3,?_⟩
      rw [← a4]
      unfold uT
      refine Lt ?_
      rw [if_neg d] at step
      exact step
 obtain ⟨h,a1,a2,a3,a4⟩:=key S.length 0 S.length (by omega) (by omega) (Nat.le_refl _) (by simp) (by simp)
 refine ⟨S.take h++y :: S.drop h,?_,?_,?_⟩
 ·rw [show (P.length:Int)=((P.length+0:Nat):Int) from rfl,a4]
  have e:P++S++[y]++R=(P++S.take h)++(S.drop h++y :: R):=by
   rw [List.append_assoc P (S.take h),← List.append_assoc (S.take h),List.take_append_drop];simp
  have T4:(S.take h).length=h:=by rw [List.length_take];omega
  have hdh:(S.drop h).length=S.length - h:=by rw [List.length_drop]
  have:=PG (S.drop h).length (S.drop h) (P++S.take h) R y rfl (by rw [← e];exact hl)
  rw [e]
  have e5:((P++S.take h).length:Int)=((P.length+h:Nat):Int):=by rw [List.length_append,T4]
  have e6:(((P++S.take h).length+(S.drop h).length:Nat):Int)=((P.length+S.length:Nat):Int):=by rw [List.length_append,T4,hdh];omega
  rw [e5,e6] at this
  rw [this]
  simp
 ·have h1:=List.perm_middle (a:=y) (l₁:=S.take h) (l₂:=S.drop h)
  rw [List.take_append_drop] at h1
  exact h1.trans (List.perm_append_singleton y S).symm
 ·unfold tx
  rw [List.pairwise_append,List.pairwise_cons]
  have Sx:=hS
  unfold tx at Sx
  rw [← List.take_append_drop h S,List.pairwise_append] at Sx
  refine ⟨Sx.1,⟨fun u hu=>Lx hc (a3 u hu),Sx.2.1⟩,fun u hu v hv=>?_⟩
  rcases List.mem_cons.1 hv with rfl | hv
  ·exact a2 u hu
  ·exact Sx.2.2 u hu v hv
end
end Go.Beacon
