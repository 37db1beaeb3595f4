/- Plain facts on what the functions compute. No program in sight. -/
import Derived.Test.YtpibecbdhjbanaaGreatDoorWbeP
import Derived.Test.YtpibecbdhjbanaaGreatDoorPlBA
import Derived.Lib.AtoiTie
import Derived.Lib.AtoiBound
import Derived.Lib.ItoaLen
import Derived.Laws.Bits64
set_option linter.unusedVariables false
set_option linter.unusedSimpArgs false
namespace Go.Beacon
open Go Go.Eng
abbrev vM:=ah
def rO (s:vM) (k:Int):Prop:=0≤s.at_∧s.at_+k≤4611686018427387904
theorem rO.less {s:vM} {k k':Int} (h:rO s k) (hk:k'≤k):rO s k':=⟨h.1,by have:=h.2;omega⟩
def ou {α:Type} (m:Option (α×vM)) (k:Int) (P:α→Prop):Prop:=∃ v s',m=some (v,s')∧P v∧rO s' k
theorem ou.bind {α β:Type} {m:Option (α×vM)} {k k':Int} {P:α→Prop} {Q:β→Prop} {f:α×vM→Option (β×vM)} (h:ou m k P) (hf:∀ v s',P v→rO s' k→ou (f (v,s')) k' Q):ou (m.bind f) k' Q:=by
 obtain ⟨v,s',rfl,h1,h2⟩:=h
 exact hf v s' h1 h2
theorem ou.ret {α:Type} {v:α} {s:vM} {k:Int} {P:α→Prop} (h1:P v) (h2:rO s k):ou (some (v,s)) k P:=⟨v,s,rfl,h1,h2⟩
theorem yu (x:Int) {n:Int} (h1:1≤n) (h2:n≤4611686018427387904):∃ v,Below x n=some v∧0≤v∧v < n:=by
 unfold Below sj
 rw [if_neg (by omega),L6 (by omega)]
 have a1:=Int.lt_tmod_of_pos x (show 0 < n by omega)
 have a2:=Int.tmod_lt_of_pos x (show 0 < n by omega)
 simp only [Option.bind_some]
 split
 ·exact ⟨_,rfl,by rw [br]<;>omega,by rw [br]<;>omega⟩
 ·exact ⟨_,rfl,by omega,by omega⟩
theorem u5 {s:vM} {n k:Int} (hs:rO s (k+1)) (h1:1≤n) (h2:n≤4611686018427387904) (hk:0≤k):ou (eI s n) k (fun v=>0≤v∧v < n):=by
 obtain ⟨a1,a2⟩:=hs
 have e1:aJ (s.at_+1)=s.at_+1:=by rw [br]<;>omega
 have e2:aJ (s.at_+1 - 1)=s.at_:=by rw [br]<;>omega
 unfold eI
 split
 ·obtain ⟨v,hv,h3,h4⟩:=yu (aJ (aJ (s.at_+1) * 7919)) h1 h2
  rw [hv]
  exact ou.ret ⟨h3,h4⟩ ⟨by show 0≤aJ (s.at_+1);omega,by show aJ (s.at_+1)+k≤_;omega⟩
 ·rename_i hl
  have DX:(0:Int) < s.L.length:=by omega
  rw [e1,e2,JU DX a1,L7 (by omega)]
  simp only [Option.bind_some]
  obtain ⟨x,hx,_,_⟩:=eE s.L (i:=s.at_ % s.L.length) (Int.emod_nonneg _ (by omega)) (Int.emod_lt_of_pos _ DX)
  rw [hx]
  simp only [Option.bind_some]
  obtain ⟨u,hu,_,_⟩:=yu x (n:=1073741824) (by omega) (by omega)
  rw [hu]
  simp only [Option.bind_some]
  obtain ⟨v,hv,h3,h4⟩:=yu (aJ (u+aJ (aJ (s.at_.tdiv s.L.length) * aJ (7919+s.at_ % s.L.length)))) h1 h2
  rw [hv]
  exact ou.ret ⟨h3,h4⟩ ⟨by simp only;omega,by simp only;omega⟩
theorem EG {s:vM} {l:List Int} {k:Int} (hs:rO s (k+1)) (h1:l≠[]) (h2:l.length≤1000) (hk:0≤k):ou (bP s l) k (fun v=>v∈l):=by
 unfold bP
 have hl:0 < l.length:=List.length_pos_iff.2 h1
 refine ou.bind (u5 hs (by omega) (by omega) hk) (fun v s' hv ym=>?_)
 obtain ⟨x,hx,hm,_⟩:=eE l hv.1 hv.2
 simp only [hx,Option.bind_some]
 exact ou.ret hm ym
theorem Cs {s:vM} {a b k:Int} (hs:rO s (k+1)) (yI:a≤b) (ha:-1152921504606846976≤a) (hb:b≤1152921504606846976) (hk:0≤k):ou (gq s a b) k (fun v=>a≤v∧v≤b):=by
 unfold gq
 have e1:aJ (b - a)=b - a:=by rw [br]<;>omega
 have e2:aJ (b - a+1)=b - a+1:=by rw [br]<;>omega
 rw [if_neg (by omega),e1,e2]
 refine ou.bind (u5 hs (by omega) (by omega) hk) (fun v s' hv ym=>?_)
 refine ou.ret ?_ ym
 simp only
 rw [br]<;>omega
theorem EH {s:vM} {n k:Int} (hs:rO s (k+1)) (h1:1≤n) (h2:n≤4611686018427387904) (hk:0≤k):ou (dB s n) k (fun _=>True):=by
 unfold dB
 exact ou.bind (u5 hs h1 h2 hk) (fun v s' hv ym=>ou.ret trivial ym)
theorem J7 {s:vM} {l:List bq} {k:Int} (hs:rO s (k+1)) (h1:l≠[]) (h2:l.length≤1000) (hk:0≤k):ou (fh s l) k (fun v=>v∈l):=by
 unfold fh
 have hl:0 < l.length:=List.length_pos_iff.2 h1
 refine ou.bind (u5 hs (by omega) (by omega) hk) (fun v s' hv ym=>?_)
 obtain ⟨x,hx,hm,_⟩:=eE l hv.1 hv.2
 simp only [hx,Option.bind_some]
 exact ou.ret hm ym
theorem Mc {s:vM} {a b k:Int} (hs:rO s (k+2)) (yI:a≤b) (ha:-1099511627776≤a) (hb:b≤1099511627776) (hk:0≤k):ou (dC s a b) k (fun v=>-1099511627777≤v∧v≤1099511627777):=by
 unfold dC
 refine ou.bind (EH (k:=k+1) (hs.less (by omega)) (by omega) (by omega) (by omega)) (fun v s' hv ym=>?_)
 simp only
 split
 ·refine ou.bind (EG ym (by simp) (by simp) hk) (fun v s' hv ym=>ou.ret ?_ ym)
  have e1:aJ (a - 1)=a - 1:=by rw [br]<;>omega
  have e2:aJ (b+1)=b+1:=by rw [br]<;>omega
  rw [e1,e2] at hv
  simp only [List.mem_cons,List.not_mem_nil,or_false] at hv
  simp only;omega
 ·refine ou.bind (Cs ym yI (by omega) (by omega) hk) (fun v s' hv ym=>ou.ret ?_ ym)
  simp only;omega
theorem AY {s:vM} {n K:Int} (hs:rO s K) (hK:1≤K) (h1:1≤n) (h2:n≤4611686018427387904):ou (eI s n) (K - 1) (fun v=>0≤v∧v < n):=
 u5 (hs.less (by omega)) h1 h2 (by omega)
theorem qR {s:vM} {n K:Int} (hs:rO s K) (hK:1≤K) (h1:1≤n) (h2:n≤4611686018427387904):ou (dB s n) (K - 1) (fun _=>True):=
 EH (hs.less (by omega)) h1 h2 (by omega)
theorem kG {s:vM} {l:List Int} {K:Int} (hs:rO s K) (hK:1≤K) (h1:l≠[]) (h2:l.length≤1000):ou (bP s l) (K - 1) (fun v=>v∈l):=
 EG (hs.less (by omega)) h1 h2 (by omega)
theorem AZ {s:vM} {a b K:Int} (hs:rO s K) (hK:1≤K) (yI:a≤b) (ha:-1152921504606846976≤a) (hb:b≤1152921504606846976):ou (gq s a b) (K - 1) (fun v=>a≤v∧v≤b):=
 Cs (hs.less (by omega)) yI ha hb (by omega)
theorem uc {s:vM} {l:List bq} {K:Int} (hs:rO s K) (hK:1≤K) (h1:l≠[]) (h2:l.length≤1000):ou (fh s l) (K - 1) (fun v=>v∈l):=
 J7 (hs.less (by omega)) h1 h2 (by omega)
theorem rj {s:vM} {a b K:Int} (hs:rO s K) (hK:2≤K) (yI:a≤b) (ha:-1099511627776≤a) (hb:b≤1099511627776):ou (dC s a b) (K - 2) (fun v=>-1099511627777≤v∧v≤1099511627777):=
 Mc (hs.less (by omega)) yI ha hb (by omega)
theorem ud (n lo hi:Int):eV n lo hi=(decide (n < lo)||decide (hi < n)):=rfl
theorem ue (n lo hi:Int):pI n lo hi=(decide (lo≤n)&&decide (n≤hi)):=rfl
def J8 (n:Nat):Bool:=(decide (97≤n)&&decide (n≤122))||(decide (48≤n)&&decide (n≤57))||decide (n=45)||decide (n=95)
def lD:bq→Bool
 | []=>false
 | c :: r=>decide ((c :: r).length≤40)&&(decide (97≤c.toNat)&&decide (c.toNat≤122))&&(c :: r).all (fun c=>J8 c.toNat)
theorem qt (c:UInt8) (r:bq):lD (c :: r)=(decide ((c :: r).length≤40)&&(decide (97≤c.toNat)&&decide (c.toNat≤122))&&(c :: r).all (fun c=>J8 c.toNat)):=rfl
theorem H4 (s:bq) (hl:s.length≤40):sk s 0=some (s.all (fun c=>J8 c.toNat)):=by
 unfold sk
 rw [vI s (fun x:Int=>ku s x) (fun c=>if J8 c.toNat=true then none else some false) true (by omega),ub]
 ·intro i c h0 h1 hc
  have hB:(if (97:Int)≤(c.toNat:Int) then if (c.toNat:Int)≤(122:Int) then !true else if (48:Int)≤(c.toNat:Int) then if (c.toNat:Int)≤(57:Int) then !true else if (c.toNat:Int)=(45:Int) then !true else decide (¬ ((c.toNat:Int)=(95:Int))) else if (c.toNat:Int)=(45:Int) then !true else decide (¬ ((c.toNat:Int)=(95:Int))) else if (48:Int)≤(c.toNat:Int) then if (c.toNat:Int)≤(57:Int) then !true else if (c.toNat:Int)=(45:Int) then !true else decide (¬ ((c.toNat:Int)=(95:Int))) else if (c.toNat:Int)=(45:Int) then !true else decide (¬ ((c.toNat:Int)=(95:Int))))=!J8 c.toNat:=by
   unfold J8
   rw [Bool.eq_iff_iff]
   repeat' split
   all_goals simp
   all_goals omega
  rw [ku,if_pos h1,hc]
  simp only [Option.bind_some]
  rw [hB]
  unfold pj
  rw [br (by omega) (by omega)]
  cases J8 c.toNat<;>rfl
 ·rw [ku,if_neg (by omega)];rfl
theorem A0 (s:bq):lZ s=some (lD s):=by
 unfold lZ kA
 cases s with
 | nil=>simp [lD]
 | cons c r=>
   rw [if_neg (by simp)]
   have hc:idx (c :: r) 0=some c:=rfl
   rw [hc]
   simp only [Option.bind_some]
   by_cases hl:(c :: r).length≤40
   ·rw [if_neg (by omega),H4 _ hl,qt]
    by_cases h1:(c.toNat:Int) < 97
    ·rw [if_pos h1]
     have:decide (97≤c.toNat)=false:=by simp;omega
     rw [this];simp
    ·rw [if_neg h1]
     have e1:decide (97≤c.toNat)=true:=by simp;omega
     by_cases h2:(122:Int) < c.toNat
     ·rw [if_pos (by simpa using h2)]
      have:decide (c.toNat≤122)=false:=by simp;omega
      rw [this];simp
     ·rw [if_neg (by simpa using h2)]
      have:decide (c.toNat≤122)=true:=by simp;omega
      rw [e1,this,decide_eq_true hl];simp
   ·rw [if_pos (by omega),qt,decide_eq_false hl];simp
theorem FO:∀ n:Fin 256,decide (UInt8.ofNat n.val∈([97,98,99,100,101,102,103,104,105,106,107,108,109,110,111,112,113,114,115,116,117,118,119,120,121,122,48,49,50,51,52,53,54,55,56,57,45,95]:List UInt8))=J8 n.val:=by decide+kernel
theorem J9:∀ n:Fin 256,decide (UInt8.ofNat n.val∈([97,98,99,100,101,102,103,104,105,106,107,108,109,110,111,112,113,114,115,116,117,118,119,120,121,122]:List UInt8))=(decide (97≤n.val)&&decide (n.val≤122)):=by decide+kernel
theorem H5 {p:UInt8→Bool} {q:Nat→Bool} (h:∀ n:Fin 256,p (UInt8.ofNat n.val)=q n.val) (c:UInt8):p c=q c.toNat:=by
 have:=h ⟨c.toNat,c.toNat_lt⟩
 simpa using this
theorem EI (s chars:bq) (hl:(s.length:Int)≤4611686018427387904):vF s chars=some (s.all (fun c=>decide (c∈chars))):=by
 unfold vF zH
 rw [vI s (fun x:Int=>mS s chars x) (fun c=>if decide (c∈chars)=true then none else some false) true hl,ub]
 ·intro i c h0 h1 hc
  rw [mS,if_pos h1,hc]
  simp only [Option.bind_some,tX,Rc]
  rw [br (by omega) (by omega)]
  by_cases hm:c∈chars
  ·rw [if_neg (fun h=>(mY _ _).1 h hm)];simp [hm]
  ·rw [if_pos ((mY _ _).2 hm)];simp [hm]
 ·rw [mS,if_neg (by omega)];rfl
theorem A1 (s:bq):uL s=some (lD s):=by
 unfold uL qe
 rw [ue]
 cases s with
 | nil=>rfl
 | cons c r=>
   have hs:vu (c :: r) 0 1=some [c]:=by rw [AL (by omega) (by omega) (by simp;omega)];simp
   rw [hs]
   simp only [Option.bind_some]
   by_cases hl:(c :: r).length≤40
   ·rw [if_pos (by simp;simp at hl;omega),EI _ _ (by simp)]
    simp only [Option.bind_some,List.all_cons,List.all_nil,Bool.and_true]
    rw [EI _ _ (by omega)]
    simp only [Option.bind_some]
    rw [H5 (p:=fun c=>decide (c∈([97,98,99,100,101,102,103,104,105,106,107,108,109,110,111,112,113,114,115,116,117,118,119,120,121,122]:List UInt8))) (q:=fun n=>decide (97≤n)&&decide (n≤122)) J9 c]
    have e:(c :: r).all (fun c=>decide (c∈([97,98,99,100,101,102,103,104,105,106,107,108,109,110,111,112,113,114,115,116,117,118,119,120,121,122,48,49,50,51,52,53,54,55,56,57,45,95]:List UInt8)))=(c :: r).all (fun c=>J8 c.toNat):=by
     congr 1;funext c
     exact H5 (p:=fun c=>decide (c∈([97,98,99,100,101,102,103,104,105,106,107,108,109,110,111,112,113,114,115,116,117,118,119,120,121,122,48,49,50,51,52,53,54,55,56,57,45,95]:List UInt8))) FO c
    rw [e,qt,decide_eq_true hl,Bool.true_and]
    split
    ·rename_i h;rw [h];simp
    ·rename_i h
     rw [Bool.not_eq_true] at h
     rw [h];simp
   ·rw [if_neg (by simp;simp at hl;omega),qt,decide_eq_false hl];rfl
theorem Ct (a b:Int):cmp_Compare_int a b=qo a b:=by
 unfold cmp_Compare_int cmp_isNaN_int qo;simp
theorem sU (n:Int):iz n=(decide (0≤n)&&decide (n≤345686399999)):=by
 unfold iz
 rw [ud,Bool.eq_iff_iff]
 simp
theorem uf (n:Int):qg n=(decide (0≤n)&&decide (n≤345686399999)):=rfl
theorem H6 {S A:Type} (f:S→Option (S⊕A)) (m:S→Nat) (Inv:S→Prop) (R:A→Prop)
 (h:∀ s,Inv s→(∃ s',f s=some (.inl s')∧Inv s'∧m s' < m s)∨(∃ a,f s=some (.inr a)∧R a)):∀ s,Inv s→∃ a,iter f s=some a∧R a:=by
 have key:∀ (n:Nat) s,m s≤n→Inv s→∃ a,iter f s=some a∧R a:=by
  intro n
  induction n with
  | zero=>
    intro s hm hi
    rcases h s hi with ⟨s',_,_,h3⟩ | ⟨a,h1,h2⟩
    ·omega
    ·exact ⟨a,by rw [iter_eq,h1];rfl,h2⟩
  | succ n ih=>
    intro s hm hi
    rcases h s hi with ⟨s',h1,h2,h3⟩ | ⟨a,h1,h2⟩
    ·obtain ⟨a,h4,h5⟩:=ih s' (by omega) h2
     exact ⟨a,by rw [iter_eq,h1];simpa using h4,h5⟩
    ·exact ⟨a,by rw [iter_eq,h1];rfl,h2⟩
 exact fun s hi=>key (m s) s (Nat.le_refl _) hi
theorem Ka {S A:Type} (f:S→Option (S⊕A)) (m:S→Nat) (Inv:S→Prop) (r:Option A)
 (h:∀ s,Inv s→(∃ s',f s=some (.inl s')∧Inv s'∧m s' < m s)∨f s=r.map .inr):∀ s,Inv s→iter f s=r:=by
 have key:∀ (n:Nat) s,m s≤n→Inv s→iter f s=r:=by
  intro n
  induction n with
  | zero=>
    intro s hm hi
    rcases h s hi with ⟨s',_,_,h3⟩ | h1
    ·omega
    ·rw [iter_eq,h1,bb]
  | succ n ih=>
    intro s hm hi
    rcases h s hi with ⟨s',h1,h2,h3⟩ | h1
    ·rw [iter_eq,h1];simpa using ih s' (by omega) h2
    ·rw [iter_eq,h1,bb]
 exact fun s hi=>key (m s) s (Nat.le_refl _) hi
theorem Rl (x y:Int):EC [x,y]=if x≠0 then x else y:=by
 by_cases h1:x=0<;>by_cases h2:y=0<;>simp [EC,h1,h2]
def Ok {α:Type} (m:Option α) (Q:α→Prop):Prop:=∃ r,m=some r∧Q r
theorem Ok.ret {α:Type} {v:α} {Q:α→Prop} (h:Q v):Ok (some v) Q:=⟨v,rfl,h⟩
theorem Ok.mono {α:Type} {m:Option α} {P Q:α→Prop} (h:Ok m P) (hp:∀ v,P v→Q v):Ok m Q:=by
 obtain ⟨r,h1,h2⟩:=h;exact ⟨r,h1,hp r h2⟩
theorem Ok.bind {α β:Type} {m:Option α} {f:α→Option β} {P:α→Prop} {Q:β→Prop} (h:Ok m P) (hf:∀ v,P v→Ok (f v) Q):Ok (m.bind f) Q:=by
 obtain ⟨r,rfl,h2⟩:=h;exact hf r h2
theorem Ok.inr {α β:Type} {m:Option β} {Q:α⊕β→Prop} (h:Ok m (fun r=>Q (.inr r))):Ok (Option.map .inr m) Q:=by
 obtain ⟨r,rfl,h2⟩:=h;exact ⟨_,rfl,h2⟩
theorem Ok.gen {α β:Type} {m:Option (α×vM)} {k:Int} {P:α→Prop} {f:α×vM→Option β} {Q:β→Prop} (h:ou m k P) (hf:∀ v s',P v→rO s' k→Ok (f (v,s')) Q):Ok (m.bind f) Q:=by
 obtain ⟨v,s',rfl,h1,h2⟩:=h;exact hf v s' h1 h2
theorem ou.of {α:Type} {m:Option (α×vM)} {k:Int} {P:α→Prop} (h:Ok m (fun r=>P r.1∧rO r.2 k)):ou m k P:=by
 obtain ⟨⟨v,s⟩,h1,h2,h3⟩:=h;exact ⟨v,s,h1,h2,h3⟩
theorem Ok.idx {α β:Type} {xs:List α} {i:Int} {f:α→Option β} {Q:β→Prop} (h0:0≤i) (h1:i < xs.length) (hf:∀ x,idx xs i=some x→x∈xs→Ok (f x) Q):Ok ((idx xs i).bind f) Q:=by
 obtain ⟨x,hx,hm,_⟩:=eE xs h0 h1
 rw [hx];exact hf x hx hm
theorem Ok.app {α β:Type} {xs ys:List α} {f:List α→Option β} {Q:β→Prop} (h:xs.length+ys.length≤1000000000) (hf:Ok (f (xs++ys)) Q):Ok ((app xs ys).bind f) Q:=by
 rw [vH h];exact hf
theorem H7 {a b:bq} (h:a.length+b.length≤9223372036854775807):Fv a b=some (a++b):=by unfold Fv;rw [if_pos h]
abbrev Kb {S A:Type} (m:S→Nat) (Inv:S→Prop) (R:A→Prop) (s:S):S⊕A→Prop
 | .inl s'=>Inv s'∧m s' < m s
 | .inr a=>R a
theorem Ok.iter {S A:Type} {f:S→Option (S⊕A)} {R:A→Prop} (m:S→Nat) (Inv:S→Prop)
 (h:∀ s,Inv s→Ok (f s) (Kb m Inv R s)) (s:S) (hs:Inv s):Ok (iter f s) R:=by
 refine H6 f m Inv R (fun s hi=>?_) s hs
 obtain ⟨r,h1,h2⟩:=h s hi
 cases r with
 | inl s'=>exact .inl ⟨s',h1,h2.1,h2.2⟩
 | inr a=>exact .inr ⟨a,h1,h2⟩
theorem FP {S A:Type} {f g:S→Option (S⊕A)} (h:∀ s,f s=g s) (s:S):iter f s=iter g s:=by rw [funext h]
def o3 (c:UInt8):bq→List bq
 | []=>[[]]
 | b :: r=>if b=c then [] :: o3 c r else match o3 c r with
   | []=>[[b]]
   | h :: t=>(b :: h) :: t
theorem tC (c:UInt8):∀ s,(o3 c s).length≤s.length+1
 | []=>by simp [o3]
 | b :: r=>by
   have ih:=tC c r
   unfold o3
   split
   ·simp;omega
   ·split
    ·simp
    ·rename_i h t e;rw [e] at ih;simp at ih ⊢;omega
theorem EJ (c:UInt8):∀ s,Lib.split s [c]=o3 c s
 | []=>rfl
 | b :: r=>by
   have ih:=EJ c r
   unfold Lib.split at ih ⊢
   unfold o3
   by_cases hb:b=c
   ·subst hb
    have NP:Lib.index (b :: r) [b]=0:=by rw [Lib.index];simp [List.isPrefixOf]
    rw [if_pos rfl,Lib.count_cons_eq,Nat.add_comm,Lib.splitK,NP,← ih]
    simp
   ·rw [if_neg hb,Lib.count_cons_ne b c r hb,← ih]
    have hp:([c]:List UInt8).isPrefixOf (b :: r)=false:=by simp [List.isPrefixOf,Ne.symm hb]
    have NP:Lib.index (b :: r) [c]=if Lib.index r [c]==-1 then -1 else Lib.index r [c]+1:=by rw [Lib.index,hp];simp
    by_cases hm:Lib.index r [c]=-1
    ·rw [Lib.count_miss hm];rfl
    ·have O3:=Lib.index_ge r [c]
     obtain ⟨j,hj⟩:∃ j:Nat,Lib.index r [c]=j:=⟨(Lib.index r [c]).toNat,by omega⟩
     have Rm:Lib.index (b :: r) [c]=((j+1:Nat):Int):=by rw [NP,if_neg (fun e=>hm (beq_iff_eq.1 e)),hj];omega
     rw [Lib.count_hit (by simp) hj,Nat.add_comm]
     have n1:¬ ((((j+1:Nat):Int)==-1)=true):=fun h=>by have:=beq_iff_eq.1 h;omega
     have n2:¬ ((((j:Nat):Int)==-1)=true):=fun h=>by have:=beq_iff_eq.1 h;omega
     simp only [Lib.splitK,Rm,hj,if_neg n1,if_neg n2]
     simp [List.take_succ_cons]
theorem FQ {s:bq} {c:UInt8} (h:s.length≤1000000000):xZ s [c]=some (o3 c s):=by
 unfold xZ
 rw [if_pos ⟨by omega,by simp⟩]
 congr 1
 have h1:=Lib.splitB_data ⟨#[c]⟩ 0 (Lib.countB ⟨s.toArray⟩ ⟨#[c]⟩) ⟨s.toArray⟩
 rw [← EJ]
 exact h1
def kh (c:UInt8):Bool:=decide (48≤c.toNat)&&decide (c.toNat≤57)
theorem FR {c:UInt8} (h:kh c=true):Lib.digitVal c=some (c.toNat - 48):=by
 unfold kh at h;simp at h
 unfold Lib.digitVal;rw [if_pos h]
theorem xe {c:UInt8} {d:Nat} (h:Lib.digitVal c=some d):kh c=true∧d=c.toNat - 48∧UInt8.ofNat (48+d)=c:=by
 obtain ⟨h1,h2,h3⟩:=Lib.digitVal_eq h
 refine ⟨by unfold kh;simp;omega,h3,?_⟩
 apply UInt8.toNat_inj.1
 rw [UInt8.toNat_ofNat']
 omega
theorem pz:∀ (l:bq) (acc:Nat),l.all kh=true→∃ m,Lib.decFrom acc l=some m
 | [],acc,_=>⟨acc,rfl⟩
 | b :: r,acc,h=>by
   simp only [List.all_cons,Bool.and_eq_true] at h
   obtain ⟨m,hm⟩:=pz r (acc * 10+(b.toNat - 48)) h.2
   exact ⟨m,by rw [Lib.decFrom,FR h.1];exact hm⟩
theorem Cu:∀ (l:bq) (acc m:Nat),0 < acc→Lib.decFrom acc l=some m→Lib.decDigits m=Lib.decDigits acc++l
 | [],acc,m,_,h=>by simp only [Lib.decFrom,Option.some.injEq] at h;simp [h]
 | b :: r,acc,m,ha,h=>by
   rw [Lib.decFrom] at h
   cases hd:Lib.digitVal b with
   | none=>rw [hd] at h;simp at h
   | some d=>
     rw [hd] at h
     obtain ⟨h1,h2,h3⟩:=Lib.digitVal_eq hd
     have ih:=Cu r (acc * 10+d) m (by omega) h
     rw [ih,Lib.decDigits,dif_neg (by omega)]
     rw [show (acc * 10+d) / 10=acc by omega,show (acc * 10+d) % 10=d by omega,(xe hd).2.2]
     simp
theorem Cv {m:Nat} (h:0 < m):∃ b r,Lib.decDigits m=b :: r∧b≠48:=by
 induction m using Nat.strongRecOn with
 | _ m ih=>
   rw [Lib.decDigits]
   split
   ·refine ⟨_,_,rfl,?_⟩
    intro e
    have:=congrArg UInt8.toNat e
    rw [UInt8.toNat_ofNat'] at this
    simp at this;omega
   ·obtain ⟨b,r,h1,h2⟩:=ih (m / 10) (by omega) (by omega)
    exact ⟨b,r++_,by rw [h1];rfl,h2⟩
theorem yv:Lib.decDigits 0=[48]:=by rw [Lib.decDigits,dif_pos (by omega)];rfl
theorem wy {l:bq} {m:Nat} (h:Lib.decFrom 0 l=some m) (hl:l≠[]):Lib.decDigits m=l↔(l.head? ≠some 48∨l.length=1):=by
 cases l with
 | nil=>exact absurd rfl hl
 | cons b r=>
   rw [Lib.decFrom] at h
   cases hd:Lib.digitVal b with
   | none=>rw [hd] at h;simp at h
   | some d=>
     rw [hd] at h
     simp only [Nat.zero_mul,Nat.zero_add] at h
     obtain ⟨h1,h2,h3⟩:=Lib.digitVal_eq hd
     by_cases hz:d=0
     ·subst hz
      have hb:b=48:=by rw [← (xe hd).2.2];rfl
      subst hb
      constructor
      ·intro e
       right
       by_cases hm:m=0
       ·subst hm;rw [yv] at e
        have:=congrArg List.length e;simpa using this.symm
       ·obtain ⟨b,r',h4,h5⟩:=Cv (m:=m) (by omega)
        rw [h4] at e;simp at e;exact absurd e.1 h5
      ·rintro (e | e)
       ·simp at e
       ·have:r=[]:=by cases r with
         | nil=>rfl
         | cons _ _=>simp at e
        subst this
        simp only [Lib.decFrom,Option.some.injEq] at h
        subst h;exact yv
     ·have hg:=Cu r d m (by omega) h
      have Yf:Lib.decDigits d=[UInt8.ofNat (48+d)]:=by rw [Lib.decDigits,dif_pos (by omega)]
      rw [Yf,(xe hd).2.2] at hg
      constructor
      ·intro _;left
       intro e;simp at e
       have e2:=(xe hd).2.1
       rw [e] at e2;simp at e2;omega
      ·intro _;exact hg
theorem u6 (m:Nat):(Lib.decDigits m).all kh=true:=by
 induction m using Nat.strongRecOn with
 | _ m ih=>
   rw [Lib.decDigits]
   have key:∀ d,d < 10→kh (UInt8.ofNat (48+d))=true:=by
    intro d hd
    unfold kh;rw [UInt8.toNat_ofNat'];simp;omega
   split
   ·rename_i h;rw [List.all_cons,key m h];rfl
   ·rw [List.all_append,ih (m / 10) (by omega),List.all_cons,key (m % 10) (by omega)];rfl
theorem sw:∀ (l r:bq) (acc:Nat),Lib.decFrom acc (l++r)=(Lib.decFrom acc l).bind fun a=>Lib.decFrom a r
 | [],r,acc=>rfl
 | b :: l,r,acc=>by
   rw [List.cons_append,Lib.decFrom,Lib.decFrom]
   cases Lib.digitVal b with
   | none=>rfl
   | some d=>exact sw l r _
theorem A2 (m:Nat):Lib.decFrom 0 (Lib.decDigits m)=some m:=by
 induction m using Nat.strongRecOn with
 | _ m ih=>
   have key:∀ d,d < 10→Lib.digitVal (UInt8.ofNat (48+d))=some d:=by
    intro d hd
    unfold Lib.digitVal;rw [UInt8.toNat_ofNat']
    rw [if_pos (by omega)];congr 1;omega
   rw [Lib.decDigits]
   split
   ·rename_i h;rw [Lib.decFrom,key m h];simp [Lib.decFrom]
   ·rw [sw,ih (m / 10) (by omega)]
    simp only [Option.bind_some]
    rw [Lib.decFrom,key (m % 10) (by omega)]
    simp only [Lib.decFrom]
    congr 1;omega
theorem DG (m:Nat):Lib.decDigits m≠[]:=by
 rw [Lib.decDigits];split
 ·simp
 ·simp
theorem FT (n:Int):Lib.atoi (Lib.itoa n)=some n:=by
 unfold Lib.itoa
 have hN:∀ m,Lib.decNat (Lib.decDigits m)=some m:=by
  intro m;unfold Lib.decNat
  rw [if_neg (by simpa using DG m),A2]
 split
 ·rw [Lib.atoi];simp [hN];omega
 ·obtain ⟨b,r,e⟩:=List.exists_cons_of_ne_nil (DG n.toNat)
  have hd:=u6 n.toNat
  rw [e] at hd ⊢
  simp only [List.all_cons,Bool.and_eq_true] at hd
  have hb:=hd.1
  unfold kh at hb;simp at hb
  have n45:b≠45:=fun h=>by subst h;simp at hb
  have n43:b≠43:=fun h=>by subst h;simp at hb
  rw [Lib.atoi]
  simp only [beq_iff_eq,n45,n43,if_false]
  rw [← e,hN];simp;omega
def u7 (s:bq) (k:Int):Option Int:=
 if (Lib.trimPrefix s [45]=[]∨k < (Lib.trimPrefix s [45]).length)∨(Lib.trimPrefix s [45]).all kh=false then none
 else match Lib.atoi s with
  | some n=>if Lib.itoa n=s then some n else none
  | none=>none
theorem pB (s:bq):(∃ d,s=45 :: d∧Lib.trimPrefix s [45]=d)∨(Lib.trimPrefix s [45]=s∧s.head? ≠some 45):=by
 cases s with
 | nil=>right;exact ⟨rfl,by simp⟩
 | cons b r=>
   unfold Lib.trimPrefix
   by_cases h:b=45
   ·subst h;left;exact ⟨r,rfl,by simp [Lib.hasPrefix,List.isPrefixOf]⟩
   ·right
    have hp:Lib.hasPrefix (b :: r) [45]=false:=by simp [Lib.hasPrefix,List.isPrefixOf,Ne.symm h]
    rw [hp];exact ⟨by simp,by simpa using h⟩
theorem u9 (s:bq):(Lib.trimPrefix s [45]).length≤s.length∧s.length≤(Lib.trimPrefix s [45]).length+1:=by
 rcases pB s with ⟨d,h1,h2⟩ | ⟨h1,_⟩
 ·rw [h2,h1];simp
 ·rw [h1];omega
theorem DH {s:bq} {n:Int} (hl:s.length≤18) (h:Lib.atoi s=some n):Lib.atoiAll s=.ok n:=by
 rw [Lib.atoiAll_short s hl,h];rfl
theorem FU {s:bq} (h1:Lib.trimPrefix s [45]≠[]) (h2:(Lib.trimPrefix s [45]).all kh=true):∃ n,Lib.atoi s=some n∧(Lib.itoa n=s↔¬((Lib.trimPrefix s [45]).head? =some 48∧(1 < (Lib.trimPrefix s [45]).length∨(Lib.trimPrefix s [45]).length < s.length))):=by
 rcases pB s with ⟨d,e1,e2⟩ | ⟨e1,e2⟩
 ·rw [e2] at h1 h2 ⊢
  subst e1
  obtain ⟨m,hm⟩:=pz d 0 h2
  have hN:Lib.decNat d=some m:=by unfold Lib.decNat;rw [if_neg (by simpa using h1),hm]
  refine ⟨-(m:Int),by rw [Lib.atoi];simp [hN],?_⟩
  have hs:=wy hm h1
  have hlen:d.length < (45 :: d).length:=by simp
  constructor
  ·rintro e ⟨hh,_⟩
   unfold Lib.itoa at e
   split at e
   ·have e':Lib.decDigits m=d:=by simpa using e
    rename_i Yg
    obtain ⟨b,r,h4,h5⟩:=Cv (m:=m) (by omega)
    rw [e'] at h4;rw [h4] at hh;simp at hh;exact h5 hh
   ·have:=u6 (-(m:Int)).toNat
    rw [e] at this;simp [kh] at this
  ·intro hn
   have hh:d.head? ≠some 48:=fun hh=>hn ⟨hh,.inr hlen⟩
   have e':=hs.2 (.inl hh)
   have MQ:m≠0:=by
    intro h0;subst h0;rw [yv] at e';subst e';simp at hh
   unfold Lib.itoa
   rw [if_pos (by omega)]
   simp [e']
 ·rw [e1] at h1 h2 ⊢
  obtain ⟨m,hm⟩:=pz s 0 h2
  have hN:Lib.decNat s=some m:=by unfold Lib.decNat;rw [if_neg (by simpa using h1),hm]
  have hs:=wy hm h1
  cases s with
  | nil=>exact absurd rfl h1
  | cons b r=>
    have n45:b≠45:=by simpa using e2
    have hb:kh b=true:=by simp only [List.all_cons,Bool.and_eq_true] at h2;exact h2.1
    have n43:b≠43:=fun h=>by subst h;simp [kh] at hb
    refine ⟨m,by rw [Lib.atoi];simp only [beq_iff_eq,n45,n43,if_false];rw [hN];rfl,?_⟩
    have hi:Lib.itoa (m:Int)=Lib.decDigits m:=by unfold Lib.itoa;rw [if_neg (by omega)];simp
    rw [hi,hs]
    constructor
    ·rintro (h | h) ⟨h3,h4⟩
     ·exact h h3
     ·omega
    ·intro h
     by_cases hh:(b :: r).head? =some 48
     ·right
      have:¬ (1 < (b :: r).length):=fun h5=>h ⟨hh,.inl h5⟩
      simp at this ⊢;omega
     ·exact .inl hh
theorem DI {s:bq} {k:Nat} {n:Int} (h:u7 s k=some n):-(10 ^ k:Nat) < n∧n < (10 ^ k:Nat):=by
 unfold u7 at h
 split at h
 ·cases h
 ·rename_i hc
  cases ha:Lib.atoi s with
  | none=>rw [ha] at h;cases h
  | some n'=>
    rw [ha] at h
    simp only at h
    split at h
    ·obtain rfl:=Option.some.inj h
     simp only [not_or] at hc
     have iW:(Lib.trimPrefix s [45]).all kh=true:=by simpa using hc.2
     have hlen:(Lib.trimPrefix s [45]).length≤k:=by have:=hc.1.2;omega
     obtain ⟨m,hm⟩:=pz _ 0 iW
     have hb:=Lib.decFrom_lt _ 0 m hm
     have hp:(10:Nat) ^ (Lib.trimPrefix s [45]).length≤10 ^ k:=Nat.pow_le_pow_right (by omega) hlen
     have fy:m < 10 ^ k:=by omega
     have RF:n'=m∨n'=-(m:Int):=by
      have hN:Lib.decNat (Lib.trimPrefix s [45])=some m:=by unfold Lib.decNat;rw [if_neg (by simpa using hc.1.1),hm]
      rcases pB s with ⟨d,e1,e2⟩ | ⟨e1,e2⟩
      ·rw [e2] at hN;rw [e1,Lib.atoi] at ha;simp [hN] at ha;right;omega
      ·rw [e1] at hN iW
       cases s with
       | nil=>simp [Lib.atoi] at ha
       | cons b r=>
         have n45:b≠45:=by simpa using e2
         have hb:kh b=true:=by simp only [List.all_cons,Bool.and_eq_true] at iW;exact iW.1
         have n43:b≠43:=fun h=>by subst h;simp [kh] at hb
         rw [Lib.atoi] at ha
         simp only [beq_iff_eq,n45,n43,if_false] at ha
         rw [hN] at ha;simp at ha;left;omega
     omega
    ·cases h
theorem vN {n:Int} {k:Int} (h:((Lib.decDigits n.natAbs).length:Int)≤k):u7 (Lib.itoa n) k=some n:=by
 have ht:Lib.trimPrefix (Lib.itoa n) [45]=Lib.decDigits n.natAbs:=by
  unfold Lib.itoa
  split
  ·unfold Lib.trimPrefix;simp [Lib.hasPrefix,List.isPrefixOf]
  ·rename_i h0
   rw [show n.toNat=n.natAbs by omega]
   rcases pB (Lib.decDigits n.natAbs) with ⟨d,e1,e2⟩ | ⟨e1,e2⟩
   ·have:=u6 n.natAbs;rw [e1] at this;simp [kh] at this
   ·exact e1
 unfold u7
 rw [ht,if_neg (by
  rintro ((h1 | h1) | h1)
  ·exact DG _ h1
  ·omega
  ·rw [u6] at h1;cases h1),FT]
 simp
theorem Cw (s:bq) (hl:s.length≤18):oX s 0=if (Lib.trimPrefix s [45]).all kh=true then mf s else some (0,false):=by
 unfold oX
 have hd:((Lib.trimPrefix s [45]).length:Int)≤4611686018427387904:=by have:=u9 s;omega
 refine Ka (fun x:Int=>dE s x) (fun i=>(Lib.trimPrefix s [45]).length+1 - i.toNat) (fun i=>0≤i∧i≤(Lib.trimPrefix s [45]).length∧((Lib.trimPrefix s [45]).take i.toNat).all kh=true) _ ?_ 0 ⟨by omega,by omega,by simp⟩
 rintro i ⟨h0,h1,h2⟩
 by_cases hi:i < (Lib.trimPrefix s [45]).length
 ·obtain ⟨c,hc,_,Rh⟩:=eE (Lib.trimPrefix s [45]) h0 hi
  have hg:=(gK hc).2.2
  have nA:c∈Lib.trimPrefix s [45]:=EB hc
  have hB:dE s i=if kh c=true then some (.inl (aJ (i+1))) else Option.map .inr (some ((0:Int),false)):=by
   unfold dE
   rw [if_pos hi,hc]
   simp only [Option.bind_some]
   unfold kB kh
   by_cases a1:(c.toNat:Int) < 48
   ·rw [if_pos a1,if_pos rfl,if_neg (by simp;omega)]
   ·rw [if_neg a1]
    by_cases a2:(57:Int) < c.toNat
    ·rw [if_pos (by simpa using a2),if_neg (by simp;omega)]
    ·rw [if_neg (by simpa using a2),if_pos (by simp;omega)]
  by_cases PC:kh c=true
  ·left
   refine ⟨i+1,?_,⟨by omega,by omega,?_⟩,by omega⟩
   ·show dE s i=_
    rw [hB,if_pos PC,br (by omega) (by omega)]
   ·rw [show (i+1).toNat=i.toNat+1 by omega,List.take_add_one,List.all_append,h2,hg];simp [PC]
  ·right
   show dE s i=_
   rw [hB,if_neg PC,if_neg (fun h=>PC (List.all_eq_true.1 h c nA))]
 ·right
  show dE s i=_
  unfold dE
  rw [if_neg hi]
  rw [List.take_of_length_le (by omega)] at h2
  rw [if_pos h2]
theorem H8 {s:bq} {n:Int} (hl:s.length≤18) (h:Lib.atoi s=some n):B8 s=some (n,true):=by
 unfold B8;rw [if_pos (by omega),DH hl h]
theorem FV (s:bq) (k:Nat) (hk:k≤17):nG s k=some (match u7 s k with | some n=>(n,true) | none=>(0,false)):=by
 have RL:=u9 s
 unfold nG je
 by_cases h1:Lib.trimPrefix s [45]=[]
 ·rw [if_pos h1,if_pos rfl];unfold u7;rw [if_pos (.inl (.inl h1))]
 ·rw [if_neg h1]
  by_cases h2:(k:Int) < (Lib.trimPrefix s [45]).length
  ·rw [if_pos h2,if_pos rfl];unfold u7;rw [if_pos (.inl (.inr h2))]
  ·rw [if_neg h2]
   have sX:0 < (Lib.trimPrefix s [45]).length:=List.length_pos_iff.2 h1
   obtain ⟨c,hc,_,_⟩:=eE (Lib.trimPrefix s [45]) (i:=0) (by omega) (by omega)
   have hh:(Lib.trimPrefix s [45]).head? =some c:=by
    have:=(gK hc).2.2
    rw [List.head?_eq_getElem?];simpa using this
   rw [hc]
   simp only [Option.bind_some]
   rw [Cw s (by omega)]
   by_cases iW:(Lib.trimPrefix s [45]).all kh=true
   ·obtain ⟨n,hn,Rn⟩:=FU h1 iW
    have PD:u7 s k=if Lib.itoa n=s then some n else none:=by
     unfold u7;rw [if_neg (by rintro ((h | h) | h)
      ·exact h1 h
      ·exact h2 h
      ·rw [iW] at h;cases h),hn]
    have KZ:(decide ((c.toNat:Int)=48)&&(decide ((1:Int) < (Lib.trimPrefix s [45]).length)||decide (((Lib.trimPrefix s [45]).length:Int) < s.length)))=true↔¬ Lib.itoa n=s:=by
     rw [Rn,hh]
     simp only [Bool.and_eq_true,decide_eq_true_eq,Bool.or_eq_true,Option.some.injEq,Classical.not_not]
     constructor
     ·rintro ⟨a,b⟩;exact ⟨UInt8.toNat_inj.1 (by simpa using (by omega:c.toNat=48)),by omega⟩
     ·rintro ⟨a,b⟩;exact ⟨by rw [a];rfl,by omega⟩
    by_cases hi:Lib.itoa n=s
    ·rw [if_neg (fun h=>KZ.1 h hi),if_pos iW,PD,if_pos hi]
     unfold mf
     rw [H8 (by omega) hn];rfl
    ·rw [if_pos (KZ.2 hi),PD,if_neg hi]
   ·have PD:u7 s k=none:=by unfold u7;rw [if_pos (.inr (by simpa using iW))]
    rw [PD,if_neg iW];simp
theorem Md {a b:Int}:qo a b=0↔a=b:=by
 unfold qo;repeat' split
 all_goals omega
def ug (v:Version):Bool:=(decide (0≤v.aN)&&decide (v.aN≤9999))&&(decide (0≤v.aO)&&decide (v.aO≤9999))&&(decide (0≤v.aM)&&decide (v.aM≤9999))
theorem pC (v:Version):gu v=ug v:=by
 unfold gu lr ug
 rw [ud,ud,ud,Bool.eq_iff_iff]
 simp;omega
theorem A3 (v:Version):eo v=if ug v=true then 0 else 1:=by
 unfold eo ke
 rw [ue,ue,ue]
 by_cases h:ug v=true
 ·rw [if_pos h,if_neg];unfold ug at h;simp at h ⊢;omega
 ·rw [if_neg h,if_pos];unfold ug at h;simp at h ⊢;omega
def qu (k:Int):List bq→Option (List Int)
 | []=>some []
 | w :: r=>match u7 w k,qu k r with
   | some n,some l=>some (n :: l)
   | _,_=>none
theorem va (ws:List bq) (k:Nat) (hk:k≤17) (hl:ws.length≤100000000):∀ (m:Nat) (l:List Int) (i:Int),0≤i→i+m=ws.length→(l.length:Int)=i→
 lv ws k l i=some (match qu k (ws.drop i.toNat) with | some r=>(l++r,true) | none=>([],false))
 | 0,l,i,h0,hm,he=>by
   unfold lv
   rw [iter_eq,ir,if_neg (by simp only;omega),bb,List.drop_of_length_le (by omega)]
   simp [qu]
 | m+1,l,i,h0,hm,he=>by
   have ih:=va ws k hk hl m
   unfold lv at ih ⊢
   obtain ⟨w,hw,_,hd⟩:=eE ws h0 (by omega)
   rw [iter_eq,ir,if_pos (by simp only;omega)]
   simp only [hw,Option.bind_some]
   rw [FV w k hk,hd,qu]
   simp only [Option.bind_some]
   cases hn:u7 w k with
   | none=>simp [after]
   | some n=>
     simp only [Bool.not_true,Bool.false_eq_true,if_false]
     rw [vH (by simp;omega)]
     simp only [Option.bind_some,bB]
     rw [br (by omega) (by omega),ih (l++[n]) (i+1) (by omega) (by omega) (by simp;omega)]
     cases qu k (ws.drop (i+1).toNat) with
     | none=>rfl
     | some r=>simp
theorem DJ (ws:List bq) (k:Nat) (hk:k≤17) (hl:ws.length≤100000000):mg ws k=some (match qu k ws with | some r=>(r,true) | none=>([],false)):=by
 unfold mg
 rw [va ws k hk hl ws.length [] 0 (by omega) (by omega) (by simp)]
 simp
def EK (s:bq):Option Version:=match qu 4 (o3 46 s) with
 | some [x,y,z]=>if 0≤x∧0≤y∧0≤z then some ⟨x,y,z⟩ else none
 | _=>none
theorem Ro {α:Type}:∀ {l:List α},l.length=3→∃ a b c,l=[a,b,c]
 | [a,b,c],_=>⟨a,b,c,rfl⟩
theorem wz {k:Nat}:∀ {ws:List bq} {l:List Int},qu k ws=some l→∀ x∈l,-(10 ^ k:Nat) < x∧x < (10 ^ k:Nat)
 | [],l,h=>by simp [qu] at h;subst h;simp
 | w :: r,l,h=>by
   rw [qu] at h
   cases h1:u7 w k with
   | none=>rw [h1] at h;simp at h
   | some n=>
     cases h2:qu k r with
     | none=>rw [h1,h2] at h;simp at h
     | some t=>
       rw [h1,h2] at h
       simp only [Option.some.injEq] at h;subst h
       intro x hx
       rcases List.mem_cons.1 hx with rfl | hx
       ·exact DI h1
       ·exact wz h2 x hx
theorem H9 (s:bq) (hs:s.length≤1000000):fu s=some (match EK s with | some v=>(v,0) | none=>(⟨0,0,0⟩,9)):=by
 unfold fu
 have hl:=tC 46 s
 rw [FQ (by omega)]
 simp only [Option.bind_some]
 rw [show (4:Int)=((4:Nat):Int) from rfl,DJ _ 4 (by omega) (by omega)]
 simp only [Option.bind_some]
 unfold fJ EK
 rw [show (4:Int)=((4:Nat):Int) from rfl]
 generalize hN:qu ((4:Nat):Int) (o3 46 s)=o
 cases o with
 | none=>rfl
 | some l=>
   by_cases h3:l.length=3
   ·obtain ⟨x,y,z,rfl⟩:=Ro h3
    have bd:=wz hN
    have bx:=bd x (by simp)
    have Zu:=bd y (by simp)
    have bz:=bd z (by simp)
    simp only [Bool.not_true,Bool.false_or]
    rw [if_neg (by simp)]
    have e0:idx [x,y,z] 0=some x:=rfl
    have e1:idx [x,y,z] 1=some y:=rfl
    have e2:idx [x,y,z] 2=some z:=rfl
    rw [e0,e1,e2]
    simp only [Option.bind_some,pC]
    by_cases hp:0≤x∧0≤y∧0≤z
    ·rw [if_pos hp,if_neg]
     unfold ug;simp;omega
    ·rw [if_neg hp,if_pos]
     unfold ug;simp;omega
   ·simp only
    rw [if_pos (by simp;omega)]
    split
    ·rename_i v e
     split at e
     ·rename_i e2;obtain rfl:=Option.some.inj e2;simp at h3
     ·cases e
    ·rfl
theorem vb:lL=some true:=by
 unfold lL
 rw [H9 _ (by simp)]
 have h:EK [49,46,50,46,51]=some ⟨1,2,3⟩:=by
  have e:o3 46 [49,46,50,46,51]=[[49],[50],[51]]:=by decide
  have i1:Lib.itoa 1=[49]:=by unfold Lib.itoa;rw [if_neg (by omega),Lib.decDigits,dif_pos (by decide)];rfl
  have i2:Lib.itoa 2=[50]:=by unfold Lib.itoa;rw [if_neg (by omega),Lib.decDigits,dif_pos (by decide)];rfl
  have i3:Lib.itoa 3=[51]:=by unfold Lib.itoa;rw [if_neg (by omega),Lib.decDigits,dif_pos (by decide)];rfl
  have n1:=vN (n:=1) (k:=4) (by rw [Lib.decDigits,dif_pos (by decide)];simp)
  have n2:=vN (n:=2) (k:=4) (by rw [Lib.decDigits,dif_pos (by decide)];simp)
  have n3:=vN (n:=3) (k:=4) (by rw [Lib.decDigits,dif_pos (by decide)];simp)
  rw [i1] at n1;rw [i2] at n2;rw [i3] at n3
  unfold EK
  rw [e]
  simp [qu,n1,n2,n3]
 rw [h]
 simp [mh]
def mO (a b:MarkS):Int:=if qo a.At b.At≠0 then qo a.At b.At else Lib.compareBytes a.Device b.Device
theorem FW:ti mO:=(Mb.on MarkS.At).lex (AX.on MarkS.Device)
theorem Cx (a b:MarkS):iA a b=some (mO a b):=by
 unfold iA
 rw [Ct]
 have h:qK [qo a.At b.At,Lib.compareBytes a.Device b.Device]=some (EC [qo a.At b.At,Lib.compareBytes a.Device b.Device]):=DF _ (by simp)
 rw [h,Rl];rfl
def MB (x:MarkS):Prop:=-4000000000000000000≤x.At∧x.At≤4000000000000000000
theorem vc {a b:MarkS} (ha:MB a) (hb:MB b):eM a b=mO a b:=by
 unfold MB at ha hb
 unfold eM mO
 rw [br (by omega) (by omega)]
 have e:x5 (a.At - b.At)=qo a.At b.At:=by
  unfold x5 qo
  repeat' split
  all_goals omega
 rw [e]
 by_cases h1:a.At=b.At
 ·have:qo a.At b.At=0:=by unfold qo;rw [if_neg (by omega),if_neg (by omega)]
  rw [if_neg (fun z:a.At≠b.At=>z h1),if_neg (fun z=>z this)]
 ·rw [if_pos h1,if_pos (fun h=>h1 (FN h))]
theorem Cy {xs:List MarkS} (hB:∀ x∈xs,MB x):∀ x∈xs,∀ y∈xs,eM x y=mO x y:=fun x hx y hy=>vc (hB x hx) (hB y hy)
def tj (n:Int):Bool:=decide (0≤n)&&decide (n≤345686399999)
def vd (s:MarkS):Int:=if tj s.At=false then 1 else if lD s.Device=false then 5 else if s.Kind < 1∨5 < s.Kind then 4 else if ug s.Version=false then 1 else 0
def o4 (prev:Option MarkS) (s:MarkS):Int:=if vd s≠0 then vd s else match prev with
 | none=>0
 | some p=>if mO s p≤0 then 7 else 0
def vO (xs:List MarkS):Int:=if (3000:Int) < xs.length then 2 else ri o4 none xs
theorem yZ (xs:List MarkS):gm xs=some (vO xs):=by
 unfold gm vO
 split
 ·rfl
 ·rename_i hl
  unfold ma
  refine yr o4 xs _ (fun {i s} h0 h1 hs=>?_) (by show cr xs _=_;rw [cr,if_neg (by omega)];rfl)
  show cr xs i=_
  rw [cr,if_pos h1,hs]
  simp only [Option.bind_some,A0]
  rw [sU,show (decide (0≤s.At)&&decide (s.At≤345686399999))=tj s.At from rfl,pC,ud]
  unfold o4 vd
  cases hm:tj s.At
  ·simp
  ·simp only [Bool.not_true,Bool.false_eq_true,if_false,Bool.true_eq_false]
   cases hk:lD s.Device
   ·simp
   ·simp only [Bool.not_true,Bool.false_eq_true,if_false,Bool.true_eq_false]
    rw [show (decide (s.Kind < 1)||decide (5 < s.Kind))=decide (s.Kind < 1∨5 < s.Kind) by rw [Bool.eq_iff_iff];simp]
    by_cases h3:s.Kind < 1∨5 < s.Kind
    ·rw [decide_eq_true h3,if_pos rfl,if_pos h3];simp
    ·rw [decide_eq_false h3,if_neg Bool.false_ne_true,if_neg h3]
     cases hv:ug s.Version
     ·simp
     ·simp only [Bool.not_true,Bool.false_eq_true,if_false,Bool.true_eq_false,ne_eq,not_true_eq_false]
      unfold eW
      rw [br (x:=i+1) (by omega) (by omega)]
      by_cases hi:0 < i
      ·obtain ⟨p,hp,_,_⟩:=eE xs (i:=i - 1) (by omega) (by omega)
       have E3:iM xs i=some p:=by unfold iM;rw [if_neg (by omega),hp]
       rw [E3,if_pos hi,br (by omega) (by omega),hp]
       simp only [Option.bind_some,Cx]
       by_cases hb:mO s p≤0
       ·simp [hb]
       ·simp [hb]
      ·have E3:iM xs i=none:=by unfold iM;rw [if_pos (by omega)]
       rw [E3,if_neg hi];simp
theorem tD (xs:List MarkS) (hB:∀ x∈xs,MB x):me xs=some (vO xs):=by
 unfold me vO
 split
 ·rfl
 ·rename_i hl
  unfold ra
  refine yr o4 xs _ (fun {i s} h0 h1 hs=>?_) (by show fi xs _=_;rw [fi,if_neg (by omega)];rfl)
  show fi xs i=_
  rw [fi,if_pos h1,hs]
  simp only [Option.bind_some,A1]
  rw [uf,show (decide (0≤s.At)&&decide (s.At≤345686399999))=tj s.At from rfl,A3,ue]
  unfold o4 vd
  cases hm:tj s.At
  ·simp
  ·simp only [Bool.not_true,Bool.false_eq_true,if_false,Bool.true_eq_false]
   cases hk:lD s.Device
   ·simp
   ·simp only [Bool.not_true,Bool.false_eq_true,if_false,Bool.true_eq_false]
    rw [show (!(decide (1≤s.Kind)&&decide (s.Kind≤5)))=decide (s.Kind < 1∨5 < s.Kind) by rw [Bool.eq_iff_iff];simp [Int.not_le]]
    by_cases h3:s.Kind < 1∨5 < s.Kind
    ·rw [decide_eq_true h3,if_pos rfl,if_pos h3];simp
    ·rw [decide_eq_false h3,if_neg Bool.false_ne_true,if_neg h3]
     cases hv:ug s.Version
     ·simp
     ·simp only [Bool.not_true,Bool.false_eq_true,if_false,Bool.true_eq_false,if_true,ne_eq,not_true_eq_false]
      unfold jN
      rw [br (x:=i+1) (by omega) (by omega)]
      by_cases hi:0 < i
      ·obtain ⟨p,hp,KP,_⟩:=eE xs (i:=i - 1) (by omega) (by omega)
       have E3:iM xs i=some p:=by unfold iM;rw [if_neg (by omega),hp]
       rw [E3,if_pos hi,br (by omega) (by omega),hp]
       simp only [Option.bind_some]
       rw [Cy hB p KP s (EB hs),FW.neg p s]
       by_cases hb:mO s p≤0
       ·rw [decide_eq_true (by omega)];simp [hb]
       ·rw [decide_eq_false (by omega)];simp [hb]
      ·have E3:iM xs i=none:=by unfold iM;rw [if_pos (by omega)]
       rw [E3,if_neg hi];simp
def ZM:MarkS:=⟨0,[],0,⟨0,0,0⟩⟩
theorem Cz (f:MarkS→MarkS→Option Int) (xs:List MarkS) (hl:(xs.length:Int)≤20) (hf:∀ x∈xs,∀ y∈xs,f x y=some (mO x y)):∃ Z,j7 xs.length (fun r:List MarkS=>r.length) (cz xs f)=some Z∧Z.Perm xs∧ED mO Z:=by
 obtain ⟨Z,h1,h2,h3⟩:=JW f mO xs (by omega) hf (FW.ord xs)
 have CV:bH xs 0 xs.length f=some Z:=h1
 have hlen:=h2.length_eq
 refine ⟨Z,?_,h2,h3⟩
 have hs:dW xs xs.length f=some Z:=by
  unfold dW jE
  by_cases Yh:(xs.length:Int)=20
  ·rw [iter_eq,bS,if_pos (by simp only;omega)]
   simp only
   rw [Yh] at CV ⊢
   rw [vL CV hlen]
   simp only [Option.bind_some,bB]
   rw [iter_eq,bS,show aJ (20+20)=40 from rfl,if_neg (by simp),bb]
   unfold eA
   have Lg:bH Z 20 20 f=some Z:=by
    unfold bH gB
    rw [iter_eq,bW,show aJ (20+1)=21 from rfl,if_neg (by simp),bb]
   simp only
   rw [vL Lg rfl]
   simp only [Option.bind_some]
   unfold fZ
   rw [iter_eq,ck,if_neg (by simp),bb]
  ·rw [iter_eq,bS,if_neg (by simp only;omega),bb]
   unfold eA
   simp only
   rw [vL CV hlen]
   simp only [Option.bind_some]
   unfold fZ
   rw [iter_eq,ck,if_neg (by simp only;omega),bb]
 refine vL ?_ hlen
 unfold cz
 rw [vL hs hlen];rfl
theorem A4 (f:MarkS→MarkS→Option Bool) (e:MarkS→MarkS→Bool) (xs:List MarkS) (hl:(xs.length:Int)≤100000) (hf:∀ x∈xs,∀ y∈xs,f x y=some (e x y)):eB xs f=some (dd e xs):=HY ZM f e xs hl hf
def A5 (x:DeviceS):Prop:=lD x.Key=false∨lD x.Model=false∨lD x.de=false
instance (x:DeviceS):Decidable (A5 x):=by unfold A5;infer_instance
def uh (p:Option DeviceS) (x:DeviceS):Bool:=match p with
 | none=>false
 | some q=>Op.bytesLess x.Key q.Key||x.Key==q.Key
def qS (p:Option DeviceS) (x:DeviceS):Int:=if A5 x then 5 else if uh p x=true then 7 else if ug x.bn=false then 1 else if (20:Int) < x.j0.length then 2 else 0
def vP (xs:List DeviceS):Int:=if (500:Int) < xs.length then 2 else ri qS none xs
theorem yw {α:Type} (x:DeviceS) (f:Bool→α):(if (!lD x.Key)=true then f true else if (!lD x.Model)=true then f true else f (!lD x.de))=f (decide (A5 x)):=by
 have h:∀ a b c:Bool,(if (!a)=true then f true else if (!b)=true then f true else f (!c))=f (decide (a=false∨b=false∨c=false)):=by
  intro a b c
  cases a<;>cases b<;>cases c<;>rfl
 rw [show decide (A5 x)=decide (lD x.Key=false∨lD x.Model=false∨lD x.de=false) from decide_eq_decide.2 Iff.rfl]
 exact h _ _ _
theorem y8 (xs:List DeviceS):gl xs=some (vP xs):=by
 unfold gl vP
 split
 ·rfl
 ·rename_i hl
  unfold l0
  refine yr qS xs _ (fun {i s} h0 h1 hs=>?_) (by show cq xs _=_;rw [cq,if_neg (by omega)];rfl)
  show cq xs i=_
  rw [cq,if_pos h1,hs]
  simp only [Option.bind_some,A0]
  rw [yw s (cS xs i s)]
  unfold cS qS
  by_cases hb:A5 s
  ·rw [decide_eq_true hb,if_pos rfl,if_pos hb];simp
  ·rw [decide_eq_false hb,if_neg Bool.false_ne_true,if_neg hb]
   have hj:(if 0 < i then (idx xs (aJ (i - 1))).bind fun v10=>cm i s (Op.bytesLess s.Key v10.Key||s.Key==v10.Key) else cm i s false)=cm i s (uh (iM xs i) s):=by
    by_cases hi:0 < i
    ·obtain ⟨p,hp,_,_⟩:=eE xs (i:=i - 1) (by omega) (by omega)
     have E3:iM xs i=some p:=by unfold iM;rw [if_neg (by omega),hp]
     rw [E3,if_pos hi,br (by omega) (by omega),hp];rfl
    ·have E3:iM xs i=none:=by unfold iM;rw [if_pos (by omega)]
     rw [E3,if_neg hi];rfl
   rw [hj]
   unfold cm
   rw [pC,br (x:=i+1) (by omega) (by omega)]
   cases uh (iM xs i) s
   ·simp only [Bool.false_eq_true,if_false]
    cases ug s.bn
    ·simp
    ·simp only [Bool.not_true,Bool.false_eq_true,if_false,Bool.true_eq_false]
     by_cases ht:(20:Int) < s.j0.length
     ·rw [if_pos ht,if_pos ht];simp
     ·rw [if_neg ht,if_neg ht];simp
   ·simp
def EM (p:Option DeviceS):bq:=match p with
 | none=>[]
 | some n=>n.Key
theorem Ia {s:bq} (h:lD s=true):s≠[]:=by
 rintro rfl;simp [lD] at h
theorem wR (xs:List DeviceS) (hl:(xs.length:Int)≤500):∀ (m i:Nat) (p:Option DeviceS),i+m=xs.length→lu xs (EM p) i=some (ri qS p (xs.drop i)):=by
 intro m
 induction m with
 | zero=>
   intro i p hi
   unfold lu
   rw [iter_eq,iq,if_neg (by simp only;omega),bb,List.drop_of_length_le (by omega)]
   rfl
 | succ m ih=>
   intro i p hi
   obtain ⟨x,hx,Hg,hd⟩:=eE xs (i:=(i:Int)) (by omega) (by omega)
   rw [show ((i:Int)).toNat=i by omega,show ((i:Int)+1).toNat=i+1 by omega] at hd
   have w1:aJ ((i:Int)+1)=((i+1:Nat):Int):=by rw [br]<;>omega
   have K1:=ih (i+1) (some x) (by omega)
   unfold lu at K1 ⊢
   rw [iter_eq,iq,if_pos (by simp only;omega)]
   simp only [hx,Option.bind_some,A1,hd,ri]
   rw [yw x (ga (EM p) (i:Int) x)]
   unfold ga qS
   by_cases hb:A5 x
   ·rw [decide_eq_true hb,if_pos rfl,if_pos hb,if_neg (by omega)];rfl
   ·rw [decide_eq_false hb,if_neg Bool.false_ne_true,if_neg hb]
    have hk:lD x.Key=true:=by
     unfold A5 at hb
     cases h:lD x.Key with
     | true=>rfl
     | false=>exact absurd (.inl h) hb
    have Yi:(Op.bytesLess x.Key (EM p)||x.Key==EM p)=uh p x:=by
     cases p with
     | some p=>rfl
     | none=>
       have wV:=Ia hk
       show (Op.bytesLess x.Key []||x.Key==[])=false
       cases hid:x.Key with
       | nil=>exact absurd hid wV
       | cons a b=>rfl
    rw [Yi,A3,w1]
    cases uh p x
    ·simp only [Bool.false_eq_true,if_false]
     cases ug x.bn
     ·simp [after]
     ·simp only [if_true,ne_eq,not_true_eq_false,if_false,Bool.true_eq_false]
      by_cases ht:(20:Int) < x.j0.length
      ·rw [if_pos ht,if_pos ht,if_neg (by omega)];rfl
      ·rw [if_neg ht,if_neg ht,if_pos rfl]
       simp only [Option.bind_some,bB]
       exact K1
    ·simp [after]
theorem tE (xs:List DeviceS):mc xs=some (vP xs):=by
 unfold mc vP
 split
 ·rfl
 ·rename_i hl
  have:=wR xs (by omega) xs.length 0 none (by omega)
  rw [List.drop_zero] at this
  exact this
theorem Me (n lo hi:Int):(!(pI n lo hi))=eV n lo hi:=by
 rw [ue,ud,Bool.eq_iff_iff];simp [Int.not_le]
theorem ve (c:Campaign):jM c=bV c:=by
 unfold bV jM
 rw [A0,A1]
 simp only [Option.bind_some]
 rw [pC,A3,sU,uf]
 have hl:lC c 0 0=fm c 0 0:=by
  unfold fm lC
  refine FP (fun s=>?_) _
  unfold cP gV dX jr fk lB dY js
  simp only [Me]
 unfold dZ
 rw [hl]
 cases lD c.Key
 ·rfl
 ·simp only [Bool.not_true,Bool.false_eq_true,if_false]
  cases ug c.Target
  ·simp
  ·simp only [if_true,ne_eq,not_true_eq_false,if_false,Bool.not_true,Bool.false_or]
def qx (l:List iI):Int:=(l.map iI.Part).sum
theorem Ib:∀ l:List iI,(∀ w∈l,1≤w.Part∧w.Part≤1000)→0≤qx l∧qx l≤1000 * l.length
 | [],_=>by simp [qx]
 | w :: l,h=>by
   have h1:=Ib l (fun x hx=>h x (List.mem_cons_of_mem _ hx))
   have h2:=h w (by simp)
   unfold qx at h1 ⊢
   rw [List.map_cons,List.sum_cons,List.length_cons]
   omega
theorem FX {l:List iI} {n:Nat} (h:n < l.length):qx (l.take (n+1))=qx (l.take n)+l[n].Part:=by
 rw [List.take_succ_eq_append_getElem h];unfold qx;rw [List.map_append,List.sum_append,List.map_cons,List.map_nil,List.sum_cons,List.sum_nil,Int.add_zero]
structure jv (c:Campaign):Prop where
 key:lD c.Key=true
 len:c.aB.length≤20
 part:∀ w∈c.aB,1≤w.Part∧w.Part≤1000
 sum:qx c.aB=1000
 Ic:0≤c.At∧c.At≤345686399999
 wait:∀ w∈c.aB,0≤w.oW∧w.oW≤2592000000
theorem y9 (c:Campaign):Ok (bV c) (fun r=>r=0→jv c):=by
 unfold bV
 rw [A0]
 simp only [Option.bind_some]
 cases hk:lD c.Key
 ·exact Ok.ret (fun h=>absurd h (by omega))
 ·rw [if_neg (by simp)]
  unfold dZ
  split
  ·exact Ok.ret (fun h=>absurd h (by omega))
  ·rename_i Rp
   have Rq:0≤c.At∧c.At≤345686399999:=by
    rw [sU] at Rp
    simp only [Bool.or_eq_true,not_or,Bool.not_eq_true',Bool.not_eq_false,Bool.and_eq_true,decide_eq_true_eq] at Rp
    exact Rp.2
   split
   ·exact Ok.ret (fun h=>absurd h (by omega))
   ·split
    ·exact Ok.ret (fun h=>absurd h (by omega))
    ·rename_i hlen
     unfold fm
     refine Ok.iter (fun x:Int×Int=>(c.aB.length - x.2).toNat) (fun x:Int×Int=>0≤x.2∧x.2≤c.aB.length∧x.1=qx (c.aB.take x.2.toNat)∧∀ w∈c.aB.take x.2.toNat,(1≤w.Part∧w.Part≤1000)∧(0≤w.oW∧w.oW≤2592000000)) ?_ _ ⟨by simp,by simp,by simp [qx],by simp⟩
     rintro ⟨S,n⟩ ⟨g0,g1,g2,g3⟩
     simp only at g0 g1 g2 g3 ⊢
     have hS:=Ib _ (fun w hw=>(g3 w hw).1)
     rw [← g2] at hS
     have NA:(c.aB.take n.toNat).length≤20:=by simp;omega
     unfold cP
     by_cases hn:n < c.aB.length
     ·rw [if_pos hn]
      obtain ⟨w,hw,hm,_⟩:=eE c.aB g0 hn
      obtain ⟨Eb,KL⟩:=List.getElem?_eq_some_iff.1 (gK hw).2.2
      rw [hw]
      simp only [Option.bind_some]
      unfold dX
      split
      ·exact Ok.inr (Ok.ret (fun h=>absurd h (by omega)))
      ·rename_i ho
       have hp:(1≤w.Part∧w.Part≤1000)∧(0≤w.oW∧w.oW≤2592000000):=by
        simp only [ud] at ho
        simp at ho
        omega
       refine Ok.ret ?_
       rw [br (x:=S+w.Part) (by omega) (by omega),br (x:=n+1) (by omega) (by omega)]
       refine ⟨⟨by simp only;omega,by simp only;omega,?_,?_⟩,by simp only;omega⟩
       ·simp only
        rw [show (n+1).toNat=n.toNat+1 by omega,FX Eb,KL,g2]
       ·simp only
        intro y hy
        rw [show (n+1).toNat=n.toNat+1 by omega,List.take_succ_eq_append_getElem Eb,KL] at hy
        rcases List.mem_append.1 hy with e | e
        ·exact g3 y e
        ·rw [List.mem_singleton] at e;subst e;exact hp
     ·rw [if_neg hn]
      have Yj:c.aB.take n.toNat=c.aB:=List.take_of_length_le (by omega)
      rw [Yj] at g2 g3
      refine Ok.inr ?_
      unfold fk
      split
      ·exact Ok.ret (fun h=>absurd h (by omega))
      ·rename_i Uw
       unfold dY
       split
       ·exact Ok.ret (fun h=>absurd h (by omega))
       ·exact Ok.ret (fun _=>⟨hk,by omega,fun w hw=>(g3 w hw).1,by omega,Rq,fun w hw=>(g3 w hw).2⟩)
def qX (h:Int) (c:UInt8):Int:=IntKind.u64.wrap (tQ .u64 h (IntKind.u64.wrap (c.toNat:Int)) * 1099511628211)
def ji (h:Int) (s:bq):Int:=s.foldl qX h
def h0:Int:=14695981039346656037
theorem CA (n:Int):0≤IntKind.u64.wrap n∧IntKind.u64.wrap n < 18446744073709551616:=by
 rw [IntKind.wrap_u64];omega
theorem zP:∀ (s:bq) (h:Int),0≤h∧h < 18446744073709551616→0≤ji h s∧ji h s < 18446744073709551616
 | [],h,hh=>hh
 | c :: s,h,hh=>zP s (qX h c) (CA _)
theorem xor_zero {h:Int} (hh:0≤h∧h < 18446744073709551616):tQ .u64 h 0=h:=by
 unfold tQ
 have e:BitVec.ofInt IntKind.u64.bits 0=0#(IntKind.u64.bits):=by decide
 rw [e,BitVec.xor_zero,IntKind.wrap_u64,BitVec.toNat_ofInt]
 show ((h % ((2 ^ 64:Nat):Int)).toNat:Int) % 18446744073709551616=h
 omega
theorem DK {h:Int} (hh:0≤h∧h < 18446744073709551616):qX h 0=IntKind.u64.wrap (h * 1099511628211):=by
 unfold qX
 rw [show IntKind.u64.wrap (((0:UInt8).toNat:Nat):Int)=0 by decide,xor_zero hh]
theorem EN (n4:Int) (s:bq) (hs:s.length≤1000):∀ (m i:Nat) (h:Int),i+m=s.length→oy n4 s h i=some (.inl (ji h (s.drop i),aJ (n4+1))):=by
 intro m
 induction m with
 | zero=>
   intro i h hi
   unfold oy
   rw [iter_eq,kM,if_neg (by simp only;omega),bb,List.drop_of_length_le (by omega)]
   rfl
 | succ m ih=>
   intro i h hi
   obtain ⟨c,hc,_,hd⟩:=eE s (i:=(i:Int)) (by omega) (by omega)
   rw [show ((i:Int)).toNat=i by omega,show ((i:Int)+1).toNat=i+1 by omega] at hd
   have w1:aJ ((i:Int)+1)=((i+1:Nat):Int):=by rw [br]<;>omega
   have K1:=ih (i+1) (qX h c) (by omega)
   unfold oy at K1 ⊢
   rw [iter_eq,kM,if_pos (by simp only;omega)]
   simp only [hc,Option.bind_some,w1,bB,hd]
   exact K1
theorem Ie (a b:bq) (ha:a.length≤1000) (hb:b.length≤1000):qd [a,b]=some (ji (IntKind.u64.wrap (ji h0 a * 1099511628211)) b):=by
 unfold qd uK
 have e0:=EN 0 a ha a.length 0 14695981039346656037 (by omega)
 have e1:=EN 1 b hb b.length 0 (IntKind.u64.wrap (ji h0 a * 1099511628211)) (by omega)
 rw [iter_eq,jq,if_pos (by simp),show idx [a,b] 0=some a from rfl]
 simp only [Option.bind_some]
 rw [if_neg (by omega)]
 unfold kN
 rw [show ((0:Nat):Int)=0 from rfl,List.drop_zero] at e0
 rw [e0]
 simp only [Option.bind_some,bB]
 rw [show aJ (0+1)=1 by decide,iter_eq,jq,if_pos (by simp),show idx [a,b] 1=some b from rfl]
 simp only [Option.bind_some]
 rw [if_pos (by omega)]
 unfold kN
 rw [show ((0:Nat):Int)=0 from rfl,List.drop_zero] at e1
 rw [show ji 14695981039346656037 a=ji h0 a from rfl,e1]
 simp only [Option.bind_some,bB]
 rw [show aJ (1+1)=2 by decide,iter_eq,jq,if_neg (by simp),bb]
def A6 (c:Campaign) (d:bq):Int:=aJ ((tQ .u64 (ji (IntKind.u64.wrap (ji h0 c.Key * 1099511628211)) d) (eR .u64 (ji (IntKind.u64.wrap (ji h0 c.Key * 1099511628211)) d) 32)).tmod 1000)
theorem Ig (c:Campaign) (d:bq) (h1:c.Key.length≤1000) (h2:d.length≤1000):mb c d=some (A6 c d):=by
 unfold mb
 rw [Ie _ _ h1 h2];rfl
theorem Kc (s:bq) (hs:s.length≤3000):∀ (m i:Nat) (h:Int),i+m=s.length→uM s h i=some (aJ ((tQ .u64 (ji h (s.drop i)) (eR .u64 (ji h (s.drop i)) 32)).tmod 1000)):=by
 have Ux:(lA s).length=s.length:=by unfold lA;simp
 intro m
 induction m with
 | zero=>
   intro i h hi
   unfold uM
   rw [iter_eq,qh,if_neg (by simp only;omega),bb,List.drop_of_length_le (by omega)]
   rfl
 | succ m ih=>
   intro i h hi
   obtain ⟨c,hc,_,hd⟩:=eE s (i:=(i:Int)) (by omega) (by omega)
   have Yk:idx (lA s) (i:Int)=some (c.toNat:Int):=by
    unfold idx at hc ⊢
    rw [if_pos (by omega)] at hc ⊢
    unfold lA
    rw [List.getElem?_map,hc];rfl
   rw [show ((i:Int)).toNat=i by omega,show ((i:Int)+1).toNat=i+1 by omega] at hd
   have w1:aJ ((i:Int)+1)=((i+1:Nat):Int):=by rw [br]<;>omega
   have K1:=ih (i+1) (qX h c) (by omega)
   unfold uM at K1 ⊢
   rw [iter_eq,qh,if_pos (by simp only;omega)]
   simp only [Yk,Option.bind_some,w1,bB,hd]
   exact K1
theorem Kd (c:Campaign) (d:bq) (h1:c.Key.length≤1000) (h2:d.length≤1000):Cj c d=some (A6 c d):=by
 unfold Cj
 rw [H7 (by simp;omega)]
 simp only [Option.bind_some]
 rw [H7 (by simp;omega)]
 simp only [Option.bind_some]
 have e:=Kc (c.Key++[0]++d) (by simp;omega) (c.Key++[0]++d).length 0 h0 (by omega)
 have hh:ji h0 (c.Key++[0]++d)=ji (IntKind.u64.wrap (ji h0 c.Key * 1099511628211)) d:=by
  unfold ji
  rw [List.foldl_append,List.foldl_append,List.foldl_cons,List.foldl_nil]
  have:=zP c.Key h0 (by unfold h0;omega)
  unfold ji at this
  rw [DK this]
 rw [show ((0:Nat):Int)=0 from rfl,List.drop_zero,hh] at e
 exact e
theorem EO (c:Campaign) (d:bq):0≤A6 c d∧A6 c d < 1000:=by
 unfold A6
 have hx:=CA ((BitVec.ofInt IntKind.u64.bits (ji (IntKind.u64.wrap (ji h0 c.Key * 1099511628211)) d) ^^^ BitVec.ofInt IntKind.u64.bits (eR .u64 (ji (IntKind.u64.wrap (ji h0 c.Key * 1099511628211)) d) 32)).toNat:Int)
 change 0≤tQ .u64 _ _∧tQ .u64 _ _ < _ at hx
 have a1:=Int.tmod_nonneg 1000 hx.1
 have a2:=Int.tmod_lt_of_pos (tQ .u64 (ji (IntKind.u64.wrap (ji h0 c.Key * 1099511628211)) d) (eR .u64 (ji (IntKind.u64.wrap (ji h0 c.Key * 1099511628211)) d) 32)) (show (0:Int) < 1000 by omega)
 rw [br (by omega) (by omega)]
 exact ⟨a1,a2⟩
theorem Ke (c:Campaign) (hc:jv c) (v:Int) (hv:v < 1000):∀ (m k:Nat) (S:Int),k+m=c.aB.length→0≤S→S≤v→S+qx (c.aB.drop k)=1000→∃ j,gU c v S k=some j∧so c (v - S) k=some j:=by
 have hlen:=hc.len
 intro m
 induction m with
 | zero=>
   intro k S hk h1 h2 h3
   rw [List.drop_of_length_le (by omega)] at h3
   simp [qx] at h3
   omega
 | succ m ih=>
   intro k S hk h1 h2 h3
   obtain ⟨w,hw,hm,hd⟩:=eE c.aB (i:=(k:Int)) (by omega) (by omega)
   rw [show ((k:Int)).toNat=k by omega,show ((k:Int)+1).toNat=k+1 by omega] at hd
   have hp:=hc.part w hm
   have w1:aJ ((k:Int)+1)=((k+1:Nat):Int):=by rw [br]<;>omega
   have h4:S+w.Part+qx (c.aB.drop (k+1))=1000:=by
    rw [hd] at h3
    unfold qx at h3 ⊢
    rw [List.map_cons,List.sum_cons] at h3
    omega
   unfold gU so
   rw [iter_eq,iter_eq,fE,nH,if_pos (by simp only;omega),if_pos (by simp only;omega),hw]
   simp only [Option.bind_some]
   rw [br (x:=S+w.Part) (by omega) (by omega),br (x:=v - S - w.Part) (by omega) (by omega),w1]
   by_cases hq:v < S+w.Part
   ·rw [if_pos hq,if_pos (by omega)]
    exact ⟨k,rfl,rfl⟩
   ·rw [if_neg hq,if_neg (by omega)]
    simp only [Option.bind_some,bB]
    have:=ih (k+1) (S+w.Part) (by omega) (by omega) (by omega) h4
    rw [show v - S - w.Part=v - (S+w.Part) by omega]
    exact this
theorem sV {s:bq} (h:lD s=true):s.length≤40:=by
 cases s with
 | nil=>simp
 | cons c r=>rw [qt] at h;simp at h;simp;omega
def M8 (n:Int):Prop:=-1099511627777≤n∧n≤1099511627777
theorem wS {s:vM} {K:Int} (hs:rO s K) (hK:40≤K):ou (fN s) (K - 40) (fun c=>M8 c.At∧c.aB.length≤10):=by
 refine ou.of ?_
 unfold fN
 refine Ok.gen (uc hs (by omega) (by simp) (by simp)) (fun q s1 hq q1=>?_)
 refine Ok.gen (kG q1 (by omega) (by simp) (by simp)) (fun a s2 ha q2=>?_)
 refine Ok.gen (kG q2 (by omega) (by simp) (by simp)) (fun b s3 hb q3=>?_)
 refine Ok.gen (kG q3 (by omega) (by simp) (by simp)) (fun d s4 hd q4=>?_)
 refine Ok.gen (AY q4 (by omega) (by omega) (by omega)) (fun e s5 he q5=>?_)
 refine Ok.idx he.1 (by simpa using he.2) (fun ps MN KP=>?_)
 have Ld:ps.length≤3:=by
  simp only [List.mem_cons,List.not_mem_nil,or_false] at KP
  rcases KP with h | h | h | h<;>subst h<;>simp
 have Uy:M8 b:=by simp at hb;unfold M8;omega
 dsimp only
 unfold lG
 refine Ok.iter (fun x:List Int×Int×List iI×Int=>(ps.length - x.2.2.2).toNat) (fun x:List Int×Int×List iI×Int=>0≤x.2.2.2∧x.2.2.2≤ps.length∧rO ⟨x.1,x.2.1⟩ (K - 37+3 * (ps.length - x.2.2.2))∧(x.2.2.1.length:Int)=x.2.2.2) ?_ _ ⟨by simp,by simp,q5.less (by simp only;omega),by simp⟩
 rintro ⟨L,a2,l,n⟩ ⟨g0,g1,g2,g3⟩
 simp only at g0 g1 g2 g3 ⊢
 unfold eK
 by_cases hn:n < ps.length
 ·rw [if_pos hn]
  refine Ok.idx g0 hn (fun p hp _=>?_)
  refine Ok.gen (kG g2 (by omega) (by simp) (by simp)) (fun u s6 _ q6=>?_)
  refine Ok.gen (kG q6 (by omega) (by simp) (by simp)) (fun v s7 _ q7=>?_)
  refine Ok.gen (kG q7 (by omega) (by simp) (by simp)) (fun w s8 _ q8=>?_)
  refine Ok.app (by simp;omega) ?_
  refine Ok.ret ?_
  rw [br (by omega) (by omega)]
  exact ⟨⟨by simp only;omega,by simp only;omega,q8.less (by simp only;omega),by simp;omega⟩,by simp only;omega⟩
 ·rw [if_neg hn]
  refine Ok.inr ?_
  unfold iZ eJ
  refine Ok.gen (qR g2 (by omega) (by omega) (by omega)) (fun c s6 _ q6=>?_)
  dsimp only
  split
  ·refine Ok.gen (kG q6 (by omega) (by simp) (by simp)) (fun u s7 _ q7=>?_)
   refine Ok.gen (kG q7 (by omega) (by simp) (by simp)) (fun v s8 _ q8=>?_)
   exact Ok.ret ⟨⟨Uy,by simp only;omega⟩,q8.less (by omega)⟩
  ·exact Ok.ret ⟨⟨Uy,by simp only;omega⟩,q6.less (by omega)⟩
theorem zQ {s:vM} {K:Int} (hs:rO s K) (hK:10≤K):ou (ja s) (K - 10) (fun _=>True):=by
 refine ou.of ?_
 unfold ja iw
 have hr:ou (gj s) (K - 3) (fun _=>True):=by
  refine ou.of ?_
  unfold gj
  refine Ok.gen (AZ hs (by omega) (by omega) (by omega) (by omega)) (fun a s1 _ q1=>?_)
  refine Ok.gen (kG q1 (by omega) (by simp) (by simp)) (fun b s2 _ q2=>?_)
  refine Ok.gen (kG q2 (by omega) (by simp) (by simp)) (fun d s3 _ q3=>?_)
  exact Ok.ret ⟨trivial,q3.less (by omega)⟩
 refine Ok.gen hr (fun v s1 _ q1=>?_)
 refine Ok.gen (qR q1 (by omega) (by omega) (by omega)) (fun c s2 _ q2=>?_)
 dsimp only
 split
 ·refine Ok.gen (rj q2 (by omega) (by omega) (by omega) (by omega)) (fun b s3 _ q3=>?_)
  refine Ok.gen (rj q3 (by omega) (by omega) (by omega) (by omega)) (fun d s4 _ q4=>?_)
  exact Ok.ret ⟨trivial,q4.less (by omega)⟩
 ·exact Ok.ret ⟨trivial,q2.less (by omega)⟩
theorem DL {s:vM} {K:Int} (hs:rO s K) (hK:70≤K):ou (jz s) (K - 70) (fun c=>M8 c.At):=by
 refine ou.of ?_
 unfold jz gS gR gQ gP gO gN
 refine Ok.gen (wS hs (by omega)) (fun c s1 hc q1=>?_)
 have Ed:=hc.1
 refine Ok.gen (qR q1 (by omega) (by omega) (by omega)) (fun b s2 _ q2=>?_)
 dsimp only
 split
 ·refine Ok.gen (AY q2 (by omega) (by omega) (by omega)) (fun n s3 _ q3=>?_)
  dsimp only
  split
  ·refine Ok.gen (uc q3 (by omega) (by simp) (by simp)) (fun q s4 _ q4=>?_)
   exact Ok.ret ⟨Ed,q4.less (by omega)⟩
  ·split
   ·refine Ok.gen (zQ q3 (by omega)) (fun q s4 _ q4=>?_)
    exact Ok.ret ⟨Ed,q4.less (by omega)⟩
   ·split
    ·refine Ok.gen (rj q3 (by omega) (by omega) (by omega) (by omega)) (fun q s4 hq q4=>?_)
     exact Ok.ret ⟨hq,q4.less (by omega)⟩
    ·split
     ·refine Ok.gen (rj q3 (by omega) (by omega) (by omega) (by omega)) (fun u s4 _ q4=>?_)
      refine Ok.gen (rj q4 (by omega) (by omega) (by omega) (by omega)) (fun v s5 _ q5=>?_)
      refine Ok.gen (rj q5 (by omega) (by omega) (by omega) (by omega)) (fun w s6 _ q6=>?_)
      refine Ok.gen (rj q6 (by omega) (by omega) (by omega) (by omega)) (fun x s7 _ q7=>?_)
      dsimp only
      refine Ok.app (by have:=hc.2;simp;omega) ?_
      exact Ok.ret ⟨Ed,q7.less (by omega)⟩
     ·split
      ·refine Ok.gen (rj q3 (by omega) (by omega) (by omega) (by omega)) (fun u s4 _ q4=>?_)
       refine Ok.gen (rj q4 (by omega) (by omega) (by omega) (by omega)) (fun v s5 _ q5=>?_)
       exact Ok.ret ⟨Ed,q5.less (by omega)⟩
      ·refine Ok.gen (rj q3 (by omega) (by omega) (by omega) (by omega)) (fun u s4 _ q4=>?_)
       exact Ok.ret ⟨Ed,q4.less (by omega)⟩
 ·exact Ok.ret ⟨Ed,q2.less (by omega)⟩
theorem Kf {s:vM} {K:Int} (hs:rO s K) (hK:60≤K):ou (lX s 5) (K - 60) (fun l=>l.length≤6):=by
 refine ou.of ?_
 have hr:ou (iy s 5) (K - 30) (fun l=>l.length≤6):=by
  refine ou.of ?_
  unfold iy
  rw [show vu [([100,49]:bq),([100,50]:bq),([100,51]:bq),([100,52]:bq),([100,53]:bq),([100,54]:bq)] (0:Int) 5=some [([100,49]:bq),([100,50]:bq),([100,51]:bq),([100,52]:bq),([100,53]:bq)] from rfl]
  simp only [Option.bind_some]
  unfold nF
  refine Ok.iter (fun x:List Int×Int×List DeviceS×Int=>(5 - x.2.2.2).toNat) (fun x:List Int×Int×List DeviceS×Int=>0≤x.2.2.2∧x.2.2.2≤5∧rO ⟨x.1,x.2.1⟩ (K - 30+4 * (5 - x.2.2.2))∧(x.2.2.1.length:Int)≤x.2.2.2) ?_ _ ⟨by simp,by simp,hs.less (by simp only;omega),by simp⟩
  rintro ⟨L,a,l,n⟩ ⟨g0,g1,g2,g3⟩
  simp only at g0 g1 g2 g3 ⊢
  unfold fP
  by_cases hn:n < 5
  ·rw [if_pos (by simpa using hn)]
   refine Ok.idx g0 (by simpa using hn) (fun p hp _=>?_)
   refine Ok.gen (qR g2 (by omega) (by omega) (by omega)) (fun b s2 _ q2=>?_)
   dsimp only
   unfold fO
   rw [br (by omega) (by omega)]
   split
   ·refine Ok.gen (uc q2 (by omega) (by simp) (by simp)) (fun u s6 _ q6=>?_)
    refine Ok.gen (kG q6 (by omega) (by simp) (by simp)) (fun v s7 _ q7=>?_)
    refine Ok.gen (kG q7 (by omega) (by simp) (by simp)) (fun w s8 _ q8=>?_)
    refine Ok.app (by simp;omega) ?_
    exact Ok.ret ⟨⟨by simp only;omega,by simp only;omega,q8.less (by simp only;omega),by simp;omega⟩,by simp only;omega⟩
   ·exact Ok.ret ⟨⟨by simp only;omega,by simp only;omega,q2.less (by simp only;omega),by simp only;omega⟩,by simp only;omega⟩
  ·rw [if_neg (by simpa using hn)]
   exact Ok.inr (Ok.ret ⟨by simp only;omega,g2.less (by omega)⟩)
 unfold lX
 refine Ok.gen hr (fun l s1 hl q1=>?_)
 dsimp only
 unfold jB jA
 split
 ·rename_i sX
  refine Ok.gen (qR q1 (by omega) (by omega) (by omega)) (fun b s2 _ q2=>?_)
  dsimp only
  split
  ·refine Ok.gen (AY q2 (by omega) (by omega) (by omega)) (fun n s3 hn q3=>?_)
   dsimp only
   refine Ok.idx hn.1 hn.2 (fun p hp _=>?_)
   refine Ok.gen (uc q3 (by omega) (by simp) (by simp)) (fun u s4 _ q4=>?_)
   refine Ok.gen (uc q4 (by omega) (by simp) (by simp)) (fun v s5 _ q5=>?_)
   refine Ok.gen (zQ q5 (by omega)) (fun w s6 _ q6=>?_)
   exact Ok.ret ⟨by simpa using hl,q6.less (by omega)⟩
  ·exact Ok.ret ⟨hl,q2.less (by omega)⟩
 ·rw [if_neg (by simp)]
  exact Ok.ret ⟨hl,q1.less (by omega)⟩
def MG (k:Int) (l:List MarkS):Prop:=(l.length:Int)≤k∧∀ x∈l,MB x
theorem MG.perm {k:Int} {l Z:List MarkS} (h:MG k l) (hp:Z.Perm l):MG k Z:=⟨by rw [hp.length_eq];exact h.1,fun c hc=>h.2 c (hp.mem_iff.1 hc)⟩
theorem MG.sub {k:Int} {l Z:List MarkS} (h:MG k l) (hp:Z.Sublist l):MG k Z:=⟨by have:=hp.length_le;have:=h.1;omega,fun c hc=>h.2 c (hp.subset hc)⟩
theorem MG.snoc {k:Int} {l:List MarkS} (h:MG k l) {c:MarkS} (hc:MB c):MG (k+1) (l++[c]):=
 ⟨by have:=h.1;simp;omega,fun x hx=>by
  rcases List.mem_append.1 hx with e | e
  ·exact h.2 x e
  ·rw [List.mem_singleton] at e;subst e;exact hc⟩
theorem Kg {s:vM} {c:Campaign} {fl:List DeviceS} {many K:Int} (hs:rO s K) (hm:0≤many∧many≤20) (hK:400≤K) (hc:M8 c.At) (hf:fl.length≤1000):ou (lY s c fl many) (K - 400) (MG many):=by
 refine ou.of ?_
 unfold lY qZ
 refine Ok.iter (fun x:List Int×Int×List MarkS×Int×Int=>(many - x.2.2.2.2).toNat) (fun x:List Int×Int×List MarkS×Int×Int=>0≤x.2.2.2.2∧x.2.2.2.2≤many∧rO ⟨x.1,x.2.1⟩ (K - 390+15 * (many - x.2.2.2.2))∧MG x.2.2.2.2 x.2.2.1∧(-1099511627777≤x.2.2.2.1∧x.2.2.2.1≤1099511627777+10 * x.2.2.2.2)) ?_ _ ⟨by simp,by simp only;omega,hs.less (by simp only;omega),⟨by simp,by simp⟩,by unfold M8 at hc;simp only;omega⟩
 rintro ⟨L,a,l,t,n⟩ ⟨g0,g1,g2,g3,g4⟩
 simp only at g0 g1 g2 g3 g4 ⊢
 have Uz:=g3.1
 unfold jL
 by_cases hn:n < many
 ·rw [if_pos hn]
  refine Ok.gen (kG g2 (by omega) (by simp) (by simp)) (fun p1 s1 h1 q1=>?_)
  refine Ok.gen (uc q1 (by omega) (by simp) (by simp)) (fun p2 s2 h2 q2=>?_)
  refine Ok.gen (AZ q2 (by omega) (by omega) (by omega) (by omega)) (fun p3 s3 h3 q3=>?_)
  refine Ok.gen (kG q3 (by omega) (by simp) (by simp)) (fun p4 s4 h4 q4=>?_)
  have tc:0≤p1∧p1≤10:=by simp at h1;omega
  dsimp only
  have j8:∀ (OF OG OH:Int) (L':List Int) (a':Int) (at':Int) (q:bq) (kd:Int),(-1099511627777≤at'∧at'≤2099511627777)→rO ⟨L',a'⟩ (K - 390+15 * (many - n - 1))→
   Ok (ij l t n (p1,s1) OF OG OH L' a' at' q kd) (Kb (fun x:List Int×Int×List MarkS×Int×Int=>(many - x.2.2.2.2).toNat) (fun x:List Int×Int×List MarkS×Int×Int=>0≤x.2.2.2.2∧x.2.2.2.2≤many∧rO ⟨x.1,x.2.1⟩ (K - 390+15 * (many - x.2.2.2.2))∧MG x.2.2.2.2 x.2.2.1∧(-1099511627777≤x.2.2.2.1∧x.2.2.2.1≤1099511627777+10 * x.2.2.2.2)) (fun r=>MG many r.1∧rO r.2 (K - 400)) (L,a,l,t,n)):=by
   intro OF OG OH L' a' at' q kd nQ ym
   unfold ij
   refine Ok.app (by simp;omega) ?_
   refine Ok.ret ?_
   rw [br (x:=t+p1) (by omega) (by omega),br (x:=n+1) (by omega) (by omega)]
   exact ⟨⟨by simp only;omega,by simp only;omega,ym.less (by simp only;omega),g3.snoc (by unfold MB;simp only;omega),by simp only;omega⟩,by simp only;omega⟩
  have j3:∀ (q:bq) (L':List Int) (a' kd OF OG OH:Int),rO ⟨L',a'⟩ (K - 390+15 * (many - n - 1)+6)→
   Ok (ik l t n (p1,s1) q L' a' kd OF OG OH) (Kb (fun x:List Int×Int×List MarkS×Int×Int=>(many - x.2.2.2.2).toNat) (fun x:List Int×Int×List MarkS×Int×Int=>0≤x.2.2.2.2∧x.2.2.2.2≤many∧rO ⟨x.1,x.2.1⟩ (K - 390+15 * (many - x.2.2.2.2))∧MG x.2.2.2.2 x.2.2.1∧(-1099511627777≤x.2.2.2.1∧x.2.2.2.1≤1099511627777+10 * x.2.2.2.2)) (fun r=>MG many r.1∧rO r.2 (K - 400)) (L,a,l,t,n)):=by
   intro q L' a' kd OF OG OH ym
   unfold ik
   refine Ok.gen (qR ym (by omega) (by omega) (by omega)) (fun b s5 _ q5=>?_)
   dsimp only
   split
   ·refine Ok.gen (rj q5 (by omega) (by omega) (by omega) (by omega)) (fun u s6 hu q6=>?_)
    refine Ok.gen (uc q6 (by omega) (by simp) (by simp)) (fun v s7 _ q7=>?_)
    refine Ok.gen (rj q7 (by omega) (by omega) (by omega) (by omega)) (fun w s8 _ q8=>?_)
    exact j8 _ _ _ _ _ _ _ _ (by omega) (q8.less (by omega))
   ·rw [br (x:=t+p1) (by omega) (by omega)]
    exact j8 _ _ _ _ _ _ _ _ (by omega) (q5.less (by omega))
  have j2:∀ (q:bq) (L':List Int) (a':Int),rO ⟨L',a'⟩ (K - 390+15 * (many - n - 1)+8)→
   Ok (il l t n (p1,s1) (p3,s3) (p4,s4) L' a' q) (Kb (fun x:List Int×Int×List MarkS×Int×Int=>(many - x.2.2.2.2).toNat) (fun x:List Int×Int×List MarkS×Int×Int=>0≤x.2.2.2.2∧x.2.2.2.2≤many∧rO ⟨x.1,x.2.1⟩ (K - 390+15 * (many - x.2.2.2.2))∧MG x.2.2.2.2 x.2.2.1∧(-1099511627777≤x.2.2.2.1∧x.2.2.2.1≤1099511627777+10 * x.2.2.2.2)) (fun r=>MG many r.1∧rO r.2 (K - 400)) (L,a,l,t,n)):=by
   intro q L' a' ym
   unfold il
   refine Ok.gen (qR ym (by omega) (by omega) (by omega)) (fun b s5 _ q5=>?_)
   dsimp only
   split
   ·unfold qY
    refine Ok.iter (fun x:Int×bq×Int×Int×Int×Int×Int=>(l.length - x.2.2.2.2.2.2).toNat) (fun x:Int×bq×Int×Int×Int×Int×Int=>0≤x.2.2.2.2.2.2∧x.2.2.2.2.2.2≤l.length) ?_ _ ⟨by simp,by simp⟩
    rintro ⟨y1,y2,y3,y4,y5,y6,y7⟩ ⟨k0,k1⟩
    simp only at k0 k1 ⊢
    unfold jJ
    by_cases hy:y7 < l.length
    ·rw [if_pos hy]
     refine Ok.idx k0 hy (fun p hp _=>?_)
     unfold jG
     rw [br (by omega) (by omega)]
     split<;>exact Ok.ret ⟨⟨by simp only;omega,by simp only;omega⟩,by simp only;omega⟩
    ·rw [if_neg hy]
     refine Ok.inr ?_
     unfold nY jI jH
     split
     ·refine Ok.gen (kG q5 (by omega) (by simp) (by simp)) (fun u s6 hu q6=>?_)
      exact j3 _ _ _ _ _ _ _ (q6.less (by omega))
     ·split
      ·refine Ok.gen (kG q5 (by omega) (by simp) (by simp)) (fun u s6 hu q6=>?_)
       exact j3 _ _ _ _ _ _ _ (q6.less (by omega))
      ·exact j3 _ _ _ _ _ _ _ (q5.less (by omega))
   ·exact j3 _ _ _ _ _ _ _ (q5.less (by omega))
  unfold jK
  split
  ·rename_i sX
   refine Ok.gen (qR q4 (by omega) (by omega) (by omega)) (fun b s5 _ q5=>?_)
   dsimp only
   split
   ·refine Ok.gen (AY q5 (by omega) (by omega) (by omega)) (fun u s6 hu q6=>?_)
    dsimp only
    refine Ok.idx hu.1 hu.2 (fun p hp _=>?_)
    exact j2 _ _ _ (q6.less (by omega))
   ·exact j2 _ _ _ (q5.less (by omega))
  ·rw [if_neg (by simp)]
   exact j2 _ _ _ (q4.less (by omega))
 ·rw [if_neg hn]
  refine Ok.inr ?_
  unfold nZ
  have DX:MG many l:=⟨by omega,g3.2⟩
  obtain ⟨Z,z1,z2,_⟩:=Cz (fun y0 y1=>some (eM y0 y1)) l (by omega) (fun x hx y hy=>by rw [Cy g3.2 x hx y hy])
  rw [z1]
  simp only [Option.bind_some]
  refine Ok.gen (qR g2 (by omega) (by omega) (by omega)) (fun b s5 _ q5=>?_)
  dsimp only
  split
  ·exact Ok.ret ⟨DX.perm z2,q5.less (by omega)⟩
  ·rw [A4 (fun y0 y1=>some (jF y0 y1)) jF Z (by have:=z2.length_eq;omega) (fun x _ y _=>rfl)]
   exact Ok.ret ⟨(DX.perm z2).sub (L9 _ _),q5.less (by omega)⟩
def Ih (k:Int) (off:Version) (m:MarkS):Bool:=
 if m.Kind=1 then decide (k=0∨k=3∨k=4) else if m.Kind=2∨m.Kind=5 then decide (k=1∧m.Version=off) else decide (k=2∧m.Version=off)
def uq (x:al) (m:MarkS):al:=
 ⟨⟨m.Kind,m.At,if m.Kind=3 then m.Version else x.ak.Version,if m.Kind=4 then aJ (x.ak.cO+1) else x.ak.cO⟩,m.Version⟩
def CB (x:al) (m:MarkS):Bool:=Ih x.ak.Kind x.aI m
def vo (x:al) (m:MarkS):al:=if CB x m=true then uq x m else x
def x0 (d:DeviceS):al:=⟨⟨0,0,d.bn,0⟩,⟨0,0,0⟩⟩
theorem FY (x:al) (m:MarkS) (b:Bool):cQ x m b=if b=true then (true,uq x m) else (false,x):=by
 unfold cQ ed ec uq
 cases b
 ·rfl
 ·simp only [Bool.not_true,Bool.false_eq_true,if_false,if_true]
  by_cases h3:m.Kind=3
  ·rw [if_pos h3,if_pos h3,if_neg (by omega)]
  ·rw [if_neg h3,if_neg h3]
   by_cases h4:m.Kind=4
   ·rw [if_pos h4,if_pos h4]
   ·rw [if_neg h4,if_neg h4]
theorem follow_eq (x:al) (m:MarkS):az x m=if CB x m=true then (true,uq x m) else (false,x):=by
 unfold az fo ef fp fq ee
 simp only [FY]
 unfold CB Ih
 by_cases h1:m.Kind=1
 ·rw [if_pos h1,if_pos h1]
  rw [show (decide (x.ak.Kind=0)||(decide (x.ak.Kind=3)||decide (x.ak.Kind=4)))=decide (x.ak.Kind=0∨x.ak.Kind=3∨x.ak.Kind=4) by rw [Bool.eq_iff_iff];simp]
 ·rw [if_neg h1,if_neg h1]
  by_cases h2:m.Kind=2
  ·rw [if_pos h2,if_pos (Or.inl h2),if_pos (by simp [h2])]
   rw [show (decide (x.ak.Kind=1)&&decide (m.Version=x.aI))=decide (x.ak.Kind=1∧m.Version=x.aI) by rw [Bool.eq_iff_iff];simp]
  ·rw [if_neg h2]
   by_cases h5:m.Kind=5
   ·rw [if_pos (Or.inr h5),if_pos (by simp [h5])]
    rw [show (decide (x.ak.Kind=1)&&decide (m.Version=x.aI))=decide (x.ak.Kind=1∧m.Version=x.aI) by rw [Bool.eq_iff_iff];simp]
   ·rw [if_neg (show ¬ decide (m.Kind=5)=true by simp [h5]),if_neg (show ¬ (m.Kind=2∨m.Kind=5) by omega)]
    rw [show (decide (x.ak.Kind=2)&&decide (m.Version=x.aI))=decide (x.ak.Kind=2∧m.Version=x.aI) by rw [Bool.eq_iff_iff];simp]
theorem Ii (x:al) (m:MarkS):(az x m).1=CB x m:=by
 rw [follow_eq];split
 ·rename_i h;rw [h]
 ·rename_i h;simp only [Bool.not_eq_true] at h;rw [h]
theorem yx (x:al) (m:MarkS):(az x m).2=vo x m:=by
 rw [follow_eq];unfold vo;split<;>rfl
def nN (c:Campaign) (k:bq) (m:MarkS):Bool:=decide (m.Device=k)&&decide (c.At≤m.At)
def rP (c:Campaign) (k:bq) (at_:Int) (m:MarkS):Bool:=decide (m.Device=k)&&(decide (c.At≤m.At)&&decide (m.At≤at_))
def vf (c:Campaign) (d:DeviceS) (l:List MarkS) (at_:Int):al:=(l.filter (rP c d.Key at_)).foldl vo (x0 d)
def kH (l:List MarkS):Int×Version:=match l.getLast? with
 | some m=>(m.Kind,m.Version)
 | none=>(0,⟨0,0,0⟩)
def rQ (l:List MarkS) (m:MarkS):List MarkS:=if Ih (kH l).1 (kH l).2 m=true then l++[m] else l
theorem A7:∀ (ms A:List MarkS) (d:DeviceS) (x:al),x=A.foldl uq (x0 d)→(x.ak.Kind,x.aI)=kH A→ms.foldl vo x=(ms.foldl rQ A).foldl uq (x0 d)
 | [],A,d,x,h,_=>h
 | m :: r,A,d,x,h,hk=>by
   rw [List.foldl_cons,List.foldl_cons]
   have e:CB x m=Ih (kH A).1 (kH A).2 m:=by unfold CB;rw [← hk]
   by_cases ho:Ih (kH A).1 (kH A).2 m=true
   ·rw [show rQ A m=A++[m] by unfold rQ;rw [if_pos ho],show vo x m=uq x m by unfold vo;rw [e,if_pos ho]]
    refine A7 r (A++[m]) d _ ?_ ?_
    ·rw [List.foldl_append,← h];rfl
    ·unfold kH;rw [List.getLast?_concat];rfl
   ·rw [show rQ A m=A by unfold rQ;rw [if_neg ho],show vo x m=x by unfold vo;rw [e,if_neg ho]]
    exact A7 r A d x h hk
theorem Ij (x:Int):(cd [0,3,4] x=some (decide (x=0∨x=3∨x=4)))∧(∀ a,cd [a] x=some (decide (x=a))):=by
 constructor
 ·unfold cd fS jf
  rw [iter_eq,bL,if_pos (by decide),show idx [(0:Int),3,4] 0=some 0 from rfl]
  simp only [Option.bind_some]
  by_cases h0:x=0
  ·rw [if_pos h0,bb];simp [h0]
  ·rw [if_neg h0,Option.bind_some,bB,iter_eq,bL,show aJ (0+1)=1 from rfl,if_pos (by decide),show idx [(0:Int),3,4] 1=some 3 from rfl]
   simp only [Option.bind_some]
   by_cases h3:x=3
   ·rw [if_pos h3,bb];simp [h3]
   ·rw [if_neg h3,Option.bind_some,bB,iter_eq,bL,show aJ (1+1)=2 from rfl,if_pos (by decide),show idx [(0:Int),3,4] 2=some 4 from rfl]
    simp only [Option.bind_some]
    by_cases h4:x=4
    ·rw [if_pos h4,bb];simp [h4]
    ·rw [if_neg h4,Option.bind_some,bB,iter_eq,bL,show aJ (2+1)=3 from rfl,if_neg (by decide),bb];simp [h0,h3,h4]
 ·intro a
  unfold cd fS jf
  rw [iter_eq,bL,if_pos (by simp),show idx [a] 0=some a from rfl]
  simp only [Option.bind_some]
  by_cases h0:x=a
  ·rw [if_pos h0,bb];simp [h0]
  ·rw [if_neg h0,Option.bind_some,bB,iter_eq,bL,show aJ (0+1)=1 from rfl,if_neg (by simp),bb];simp [h0]
theorem Kh (k:Int) (hk:1≤k∧k≤5):nD (bT (bT (bT (bT (bT ([]:List (Int×(List Int))) (1:Int) [(0:Int),(3:Int),(4:Int)]) (2:Int) [(1:Int)]) (5:Int) [(1:Int)]) (3:Int) [(2:Int)]) (4:Int) [(2:Int)]) k []=some (if k=1 then [0,3,4] else if k=2∨k=5 then [1] else [2]):=by
 have:k=1∨k=2∨k=3∨k=4∨k=5:=by omega
 unfold nD
 simp only [zO,OI]
 rcases this with h | h | h | h | h<;>subst h<;>simp
theorem wA (l6:List MarkS) (n7:Int) (q:MarkS) (a:Int) (b:bq) (k x y z:Int) (hq:1≤q.Kind∧q.Kind≤5) (hl:(l6.length:Int)≤1000000):jQ l6 n7 q a b k x y z=some (.inl (if Ih k ⟨x,y,z⟩ q=true then l6++[q] else l6,aJ (n7+1))):=by
 unfold jQ
 rw [Kh q.Kind hq]
 simp only [Option.bind_some]
 have hc:cd (if q.Kind=1 then [0,3,4] else if q.Kind=2∨q.Kind=5 then [1] else [2]) k=some (if q.Kind=1 then decide (k=0∨k=3∨k=4) else if q.Kind=2∨q.Kind=5 then decide (k=1) else decide (k=2)):=by
  split
  ·exact (Ij k).1
  ·split
   ·exact (Ij k).2 1
   ·exact (Ij k).2 2
 rw [hc]
 simp only [Option.bind_some]
 have e:((if q.Kind=1 then decide (k=0∨k=3∨k=4) else if q.Kind=2∨q.Kind=5 then decide (k=1) else decide (k=2))&&(decide (q.Kind=1)||decide (q.Version=⟨x,y,z⟩)))=Ih k ⟨x,y,z⟩ q:=by
  unfold Ih
  split
  ·rename_i h;simp [h]
  ·rename_i h
   split
   ·simp [h]
   ·simp [h]
 rw [e]
 unfold nj kW jP
 split
 ·rw [vH (by simp;omega)];rfl
 ·rfl
theorem tF (c:Campaign) (k:bq) (l:List MarkS) (at_:Int) (hl:(l.length:Int)≤100000) (hK:∀ q∈l,1≤q.Kind∧q.Kind≤5):∀ (m n:Nat) (A:List MarkS),n+m=l.length→A.length≤n→
 nk c k l at_ A (n:Int)=some (((l.drop n).filter (rP c k at_)).foldl rQ A)
 | 0,n,A,h,ha=>by
   unfold nk
   rw [iter_eq,jR,if_neg (by simp only;omega),List.drop_of_length_le (by omega),bb]
   rfl
 | m+1,n,A,h,ha=>by
   obtain ⟨q,hq,M9,hd⟩:=eE l (i:=(n:Int)) (by omega) (by omega)
   rw [show ((n:Int)).toNat=n by omega,show ((n:Int)+1).toNat=n+1 by omega] at hd
   have w1:aJ ((n:Int)+1)=((n+1:Nat):Int):=by rw [br]<;>omega
   have ih:=fun A ha=>tF c k l at_ hl hK m (n+1) A (by omega) ha
   unfold nk at ih ⊢
   rw [iter_eq,jR,if_pos (by simp only;omega),hd,List.filter_cons]
   simp only
   rw [hq]
   simp only [Option.bind_some]
   rw [show (decide (q.Device≠k)||(decide (q.At < c.At)||decide (at_ < q.At)))=!(rP c k at_ q) by unfold rP;rw [Bool.eq_iff_iff];simp [Int.not_le]]
   unfold iK
   by_cases hr:rP c k at_ q=true
   ·rw [if_neg (by simp [hr]),if_pos hr,List.foldl_cons]
    have last:iK A (n:Int) q false=some (.inl (rQ A q,aJ ((n:Int)+1))):=by
     unfold iK
     rw [if_neg (by simp)]
     rcases List.eq_nil_or_concat A with rfl | ⟨B,p,rfl⟩
     ·rw [if_neg (by decide),wA _ _ _ _ _ _ _ _ _ (hK q M9) (by simp)];rfl
     ·rw [List.concat_eq_append] at ha ⊢
      rw [List.length_append,List.length_singleton] at ha
      have wl:aJ (((B++[p]).length:Int) - 1)=(B.length:Int):=by rw [List.length_append,List.length_singleton,br]<;>omega
      rw [wl,if_pos (by omega),AR B p [] rfl]
      simp only [Option.bind_some]
      rw [wA _ _ _ _ _ _ _ _ _ (hK q M9) (by simp;omega)]
      unfold rQ kH
      rw [List.getLast?_concat]
    unfold iK at last
    rw [if_neg (by simp)] at last
    rw [last]
    simp only [Option.bind_some,bB]
    rw [w1]
    refine ih _ ?_
    unfold rQ;split
    ·simp;omega
    ·omega
   ·rw [if_pos (by simp [hr]),if_neg hr]
    unfold jP
    simp only [Option.bind_some,bB]
    rw [w1]
    exact ih A (by omega)
theorem wB (c:Campaign) (k:bq) (l:List MarkS) (at_:Int) (hl:(l.length:Int)≤100000) (hK:∀ q∈l,1≤q.Kind∧q.Kind≤5):mT c k l at_=some ((l.filter (rP c k at_)).foldl rQ []):=by
 have:=tF c k l at_ hl hK l.length 0 [] (by simp) (by simp)
 rw [List.drop_zero] at this
 exact this
theorem yy:∀ (ms A:List MarkS),(ms.foldl rQ A).length≤A.length+ms.length
 | [],A=>by simp
 | m :: r,A=>by
   rw [List.foldl_cons]
   have:=yy r (rQ A m)
   have:(rQ A m).length≤A.length+1:=by unfold rQ;split<;>simp
   rw [List.length_cons];omega
theorem tG (v:List MarkS) (hl:(v.length:Int)≤100000):∀ (m n:Nat) (x:al),n+m=v.length→
 nn v x.ak.Kind x.ak.Since x.ak.Version.aN x.ak.Version.aO x.ak.Version.aM x.ak.cO (n:Int)=some ((v.drop n).foldl uq x).ak
 | 0,n,x,h=>by
   unfold nn
   rw [iter_eq,jS,if_neg (by simp only;omega),List.drop_of_length_le (by omega),bb]
   rfl
 | m+1,n,x,h=>by
   obtain ⟨q,hq,M9,hd⟩:=eE v (i:=(n:Int)) (by omega) (by omega)
   rw [show ((n:Int)).toNat=n by omega,show ((n:Int)+1).toNat=n+1 by omega] at hd
   have w1:aJ ((n:Int)+1)=((n+1:Nat):Int):=by rw [br]<;>omega
   have ih:=tG v hl m (n+1) (uq x q) (by omega)
   unfold nn at ih ⊢
   rw [iter_eq,jS,if_pos (by simp only;omega),hd,List.foldl_cons]
   simp only
   rw [hq]
   simp only [Option.bind_some]
   unfold kY kX
   rw [w1]
   by_cases h3:q.Kind=3
   ·rw [show uq x q=⟨⟨q.Kind,q.At,q.Version,x.ak.cO⟩,q.Version⟩ by unfold uq;rw [if_pos h3,if_neg (by omega)]] at ih ⊢
    rw [if_pos h3]
    simp only [Option.bind_some,bB]
    exact ih
   ·rw [if_neg h3]
    by_cases h4:q.Kind=4
    ·rw [show uq x q=⟨⟨q.Kind,q.At,x.ak.Version,aJ (x.ak.cO+1)⟩,q.Version⟩ by unfold uq;rw [if_neg h3,if_pos h4]] at ih ⊢
     rw [if_pos h4]
     simp only [Option.bind_some,bB]
     exact ih
    ·rw [show uq x q=⟨⟨q.Kind,q.At,x.ak.Version,x.ak.cO⟩,q.Version⟩ by unfold uq;rw [if_neg h3,if_neg h4]] at ih ⊢
     rw [if_neg h4]
     simp only [Option.bind_some,bB]
     exact ih
theorem CC (c:Campaign) (d:DeviceS) (l:List MarkS) (at_:Int) (hl:(l.length:Int)≤10000) (hK:∀ q∈l,1≤q.Kind∧q.Kind≤5):oY c d l at_=some (vf c d l at_).ak:=by
 unfold oY
 rw [wB c d.Key l at_ (by omega) hK]
 simp only [Option.bind_some]
 have hx:=yy (l.filter (rP c d.Key at_)) []
 have hf:=List.length_filter_le (rP c d.Key at_) l
 have:=tG ((l.filter (rP c d.Key at_)).foldl rQ []) (by simp at hx;omega) _ 0 (x0 d) (Nat.zero_add _)
 rw [List.drop_zero] at this
 unfold vf
 rw [A7 _ [] d (x0 d) rfl rfl]
 exact this
abbrev CS:=an
theorem pD {α:Type} {xs:List α} {i:Nat} {x:α} (h:xs[i]? =some x):idx xs (i:Int)=some x:=by
 unfold idx;rw [if_pos (by omega)];simpa using h
theorem FZ (c:Campaign) (hc:jv c) (v:Int) (hv:v < 1000):∀ (m k:Nat) (S:Int),k+m=c.aB.length→0≤S→S≤v→S+qx (c.aB.drop k)=1000→∃ j:Int,gU c v S k=some j∧0≤j∧j < c.aB.length:=by
 have hlen:=hc.len
 intro m
 induction m with
 | zero=>
   intro k S hk h1 h2 h3
   rw [List.drop_of_length_le (by omega)] at h3
   simp [qx] at h3
   omega
 | succ m ih=>
   intro k S hk h1 h2 h3
   obtain ⟨w,hw,hm,hd⟩:=eE c.aB (i:=(k:Int)) (by omega) (by omega)
   rw [show ((k:Int)).toNat=k by omega,show ((k:Int)+1).toNat=k+1 by omega] at hd
   have hp:=hc.part w hm
   have w1:aJ ((k:Int)+1)=((k+1:Nat):Int):=by rw [br]<;>omega
   have h4:S+w.Part+qx (c.aB.drop (k+1))=1000:=by
    rw [hd] at h3
    unfold qx at h3 ⊢
    rw [List.map_cons,List.sum_cons] at h3
    omega
   unfold gU
   rw [iter_eq,fE,if_pos (by simp only;omega),hw]
   simp only [Option.bind_some]
   rw [br (x:=S+w.Part) (by omega) (by omega),w1]
   by_cases hq:v < S+w.Part
   ·rw [if_pos hq]
    exact ⟨k,rfl,by omega,by omega⟩
   ·rw [if_neg hq]
    simp only [Option.bind_some,bB]
    exact ih (k+1) (S+w.Part) (by omega) (by omega) (by omega) h4
noncomputable def nw (c:Campaign) (k:bq):Nat:=((eC c k).getD 0).toNat
theorem vg (c:Campaign) (hc:jv c) (k:bq) (hk:lD k=true):eC c k=some (nw c k:Int)∧nw c k < c.aB.length:=by
 have h1:=sV hc.key
 have h2:=sV hk
 have OJ:=EO c k
 obtain ⟨j,j1,j2,j3⟩:=FZ c hc (A6 c k) OJ.2 c.aB.length 0 0 (by omega) (by omega) OJ.1 (by rw [List.drop_zero,hc.sum];rfl)
 have e:eC c k=some j:=by
  unfold eC
  rw [Ig c k (by omega) (by omega)]
  exact j1
 unfold nw
 rw [e,Option.getD_some]
 exact ⟨by rw [show ((j.toNat:Nat):Int)=j by omega],by omega⟩
structure kR (l:List DeviceS):Prop where
 key:∀ d∈l,lD d.Key=true
 Mf:(l.map DeviceS.Key).Nodup
def eF:List DeviceS→Nat→List (bq×Int)
 | [],_=>[]
 | d :: r,k=>(d.Key,(k:Int)) :: eF r (k+1)
theorem zR (d:DeviceS):∀ (l:List DeviceS) (k:Nat),eF (l++[d]) k=eF l k++[(d.Key,((k+l.length:Nat):Int))]
 | [],k=>by simp [eF]
 | x :: r,k=>by
   rw [List.cons_append,eF,zR d r (k+1),eF,List.cons_append,List.length_cons,show k+1+r.length=k+(r.length+1) by omega]
theorem CE:∀ (l:List DeviceS) (k:Nat),(eF l k).map Prod.fst=l.map DeviceS.Key
 | [],_=>rfl
 | d :: r,k=>by rw [eF,List.map_cons,CE r (k+1),List.map_cons]
theorem vh:∀ (l:List DeviceS) (k:Nat) (e:bq×Int),e∈eF l k→∃ i d,l[i]? =some d∧e=(d.Key,((k+i:Nat):Int))
 | [],_,e,h=>by cases h
 | d :: r,k,e,h=>by
   rw [eF] at h
   rcases List.mem_cons.1 h with h | h
   ·exact ⟨0,d,rfl,h⟩
   ·obtain ⟨i,x,h1,h2⟩:=vh r (k+1) e h
    exact ⟨i+1,x,by simpa using h1,by rw [h2,show k+1+i=k+(i+1) by omega]⟩
theorem EP:∀ (l:List DeviceS) (k i:Nat) (d:DeviceS),l[i]? =some d→(d.Key,((k+i:Nat):Int))∈eF l k
 | [],_,i,d,h=>by simp at h
 | x :: r,k,0,d,h=>by simp at h;subst h;rw [eF];exact List.mem_cons_self
 | x :: r,k,i+1,d,h=>by
   rw [eF]
   refine List.mem_cons_of_mem _ ?_
   have:=EP r (k+1) i d (by simpa using h)
   rw [show k+(i+1)=k+1+i by omega];exact this
noncomputable def CF (c:Campaign) (l:List DeviceS):List (bq×Int):=l.map fun d=>(d.Key,(nw c d.Key:Int))
noncomputable def ov (c:Campaign) (dn:List MarkS) (d:DeviceS):al:=(dn.filter (nN c d.Key)).foldl vo (x0 d)
structure SI (c:Campaign) (fl:List DeviceS) (s:CS) (dn:List MarkS):Prop where
 c_:s.c_=c
 oK:s.oK.Perm (eF fl 0)
 dF:s.dF.Perm (CF c fl)
 kO:s.kO=fl.map (ov c dn)
 open_:s.open_.length=c.aB.length
 bl:s.bl.length=c.aB.length
 aR:s.aR.length=c.aB.length
 bg:s.aL.length≤c.aB.length
 nx:0≤s.cw→s.aL.length < c.aB.length
def za (c:Campaign) (x:al):Bool:=decide (x.ak.Version=c.Target)||(!(decide (x.ak.Version=c.Target))&&(decide ((3:Int)≤x.ak.cO)||decide (x.ak.Kind=(5:Int))))
theorem OK (st:CS) (x:al):(bI st x||cT st x)=za st.c_ x:=by
 unfold cT hZ bI za;rfl
def gZ (l:List Int) (k:Nat) (d:Int):List Int:=l.set k (aJ (l.getD k 0+d))
theorem oN (l:List Int) (k:Nat) (d:Int):(gZ l k d).length=l.length:=by unfold gZ;simp
theorem lp {l:List Int} {k:Nat} (h:k < l.length):idx l (k:Int)=some (l.getD k 0):=by
 refine pD ?_
 rw [List.getD_eq_getElem?_getD,List.getElem?_eq_getElem h];rfl
def o5 (c:Campaign) (k:Nat):iI:=c.aB.getD k ⟨0,0,0,0⟩
def A8 (c:Campaign) (op:List Int) (k:Nat) (x x':al):List Int:=if (za c x' !=za c x)=true then (if za c x'=true then gZ op k (-1) else gZ op k 1) else op
def F0 (c:Campaign) (k:Nat) (en fa:List Int) (sp:Int) (m:MarkS):Int:=if sp < 0∧(o5 c k).tv≤en.getD k 0∧aJ ((o5 c k).cO * en.getD k 0) < aJ (1000 * fa.getD k 0) then m.At else sp
def mz (st:CS) (i k:Nat) (x:al) (m:MarkS):CS:=
 if CB x m=true then
  if m.Kind≠3∧m.Kind≠4 then {st with open_:=A8 st.c_ st.open_ k x (uq x m),kO:=st.kO.set i (vo x m)}
  else {st with open_:=A8 st.c_ st.open_ k x (uq x m),bl:=gZ st.bl k 1,aR:=if m.Kind=4 then gZ st.aR k 1 else st.aR,aT:=F0 st.c_ k (gZ st.bl k 1) (if m.Kind=4 then gZ st.aR k 1 else st.aR) st.aT m,kO:=st.kO.set i (vo x m)}
 else {st with kO:=st.kO.set i (vo x m)}
theorem Ki (st:CS) (m:MarkS) (i k:Nat) (x:al) (hi:ch st.oK m.Device=some (i:Int)) (hk:ch st.dF m.Device=some (k:Int)) (ha:¬ m.At < st.c_.At) (hx:st.kO[i]? =some x)
 (hW:k < st.c_.aB.length) (ho:k < st.open_.length) (he:k < st.bl.length) (hf:k < st.aR.length):bN st m=some (mz st i k x m):=by
 have UA:=pD hx
 unfold bN
 rw [hi,wj]
 unfold fb
 rw [if_neg (by simp;omega)]
 unfold nD
 rw [hk,UA]
 simp only [Option.bind_some,Option.getD_some]
 unfold gz
 rw [UA]
 simp only [Option.bind_some,Ii,yx,OK,Int.toNat_natCast]
 unfold mz
 by_cases nV:CB x m=true
 ·rw [if_neg (by simp [nV]),if_pos nV]
  have DM:vo x m=uq x m:=by unfold vo;rw [if_pos nV]
  rw [DM]
  have j5:∀ op:List Int,dS st m (i:Int) (k:Int) x op=some (if m.Kind≠3∧m.Kind≠4 then {st with open_:=op,kO:=st.kO.set i (uq x m)}
   else {st with open_:=op,bl:=gZ st.bl k 1,aR:=if m.Kind=4 then gZ st.aR k 1 else st.aR,aT:=F0 st.c_ k (gZ st.bl k 1) (if m.Kind=4 then gZ st.aR k 1 else st.aR) st.aT m,kO:=st.kO.set i (uq x m)}):=by
   intro op
   unfold dS gx
   simp only [yx,DM,Int.toNat_natCast]
   by_cases PE:m.Kind≠3∧m.Kind≠4
   ·rw [if_pos (by simp [PE]),if_pos PE]
   ·rw [if_neg (by simpa using PE),if_neg PE,lp he]
    simp only [Option.bind_some]
    have j8:∀ fa:List Int,k < fa.length→dR st m (i:Int) (k:Int) x op (st.bl.getD k 0) fa=some {st with open_:=op,bl:=gZ st.bl k 1,aR:=fa,aT:=F0 st.c_ k (gZ st.bl k 1) fa st.aT m,kO:=st.kO.set i (uq x m)}:=by
     intro fa PF
     unfold dR
     have OL:idx st.c_.aB (k:Int)=some (o5 st.c_ k):=by
      refine pD ?_
      unfold o5
      rw [List.getD_eq_getElem?_getD,List.getElem?_eq_getElem hW];rfl
     rw [OL]
     simp only [Option.bind_some,Int.toNat_natCast]
     have pE:st.bl.set k (aJ (st.bl.getD k 0+1))=gZ st.bl k 1:=rfl
     rw [pE,lp (l:=gZ st.bl k 1) (by rw [oN];exact he),lp PF]
     simp only [Option.bind_some]
     have Yl:∀ b:Bool,cU st m (i:Int) (k:Int) x op (st.bl.getD k 0) fa b=some {st with open_:=op,bl:=gZ st.bl k 1,aR:=fa,aT:=if b=true then m.At else st.aT,kO:=st.kO.set i (uq x m)}:=by
      intro b
      unfold cU eO
      simp only [yx,DM,Int.toNat_natCast]
      cases b<;>rfl
     simp only [Yl]
     unfold F0
     by_cases a1:st.aT < 0
     ·rw [if_pos a1]
      by_cases a2:(o5 st.c_ k).tv≤(gZ st.bl k 1).getD k 0
      ·rw [if_pos a2]
       by_cases a3:aJ ((o5 st.c_ k).cO * (gZ st.bl k 1).getD k 0) < aJ (1000 * fa.getD k 0)
       ·rw [if_pos (decide_eq_true a3),if_pos ⟨a1,a2,a3⟩]
       ·rw [if_neg (by rw [decide_eq_false a3];exact Bool.false_ne_true),if_neg (fun h=>a3 h.2.2)]
      ·rw [if_neg a2,if_neg (by simp),if_neg (fun h=>a2 h.2.1)]
     ·rw [if_neg a1,if_neg (by simp),if_neg (fun h=>a1 h.1)]
    by_cases h4:m.Kind=4
    ·rw [if_pos h4,if_pos h4,lp hf]
     simp only [Option.bind_some]
     exact j8 (gZ st.aR k 1) (by rw [oN];exact hf)
    ·rw [if_neg h4,if_neg h4]
     exact j8 st.aR hf
  unfold gy eZ
  simp only [j5,lp ho,Option.bind_some,Int.toNat_natCast]
  unfold A8
  by_cases b1:(za st.c_ (uq x m)!=za st.c_ x)=true
  ·rw [if_pos b1,if_pos b1]
   by_cases b2:za st.c_ (uq x m)=true
   ·rw [if_pos b2,if_pos b2]
    rfl
   ·rw [if_neg b2,if_neg b2]
    rfl
  ·rw [if_neg b1,if_neg b1]
 ·rw [if_pos (by simpa using nV),if_neg nV]
theorem zS (st:CS) (m:MarkS) (h:ch st.oK m.Device=none∨m.At < st.c_.At):bN st m=some st:=by
 unfold bN
 cases e:ch st.oK m.Device with
 | none=>rw [BV];unfold gw;rw [if_pos (by simp)]
 | some n=>
   rw [wj];unfold fb
   rcases h with h | h
   ·rw [e] at h;cases h
   ·rw [if_pos (by simp [h])]
theorem yz (st:CS) (i k:Nat) (x:al) (m:MarkS):(mz st i k x m).c_=st.c_∧(mz st i k x m).oK=st.oK∧(mz st i k x m).dF=st.dF∧(mz st i k x m).kO=st.kO.set i (vo x m)∧(mz st i k x m).aL=st.aL∧(mz st i k x m).cw=st.cw∧
 (mz st i k x m).open_.length=st.open_.length∧(mz st i k x m).bl.length=st.bl.length∧(mz st i k x m).aR.length=st.aR.length:=by
 have ho:∀ c op x',(A8 c op k x x').length=op.length:=by
  intro c op x';unfold A8;split
  ·split<;>exact oN _ _ _
  ·rfl
 unfold mz
 split
 ·split
  ·exact ⟨rfl,rfl,rfl,rfl,rfl,rfl,ho _ _ _,rfl,rfl⟩
  ·refine ⟨rfl,rfl,rfl,rfl,rfl,rfl,ho _ _ _,oN _ _ _,?_⟩
   show (if m.Kind=4 then gZ st.aR k 1 else st.aR).length=_
   split
   ·exact oN _ _ _
   ·rfl
 ·exact ⟨rfl,rfl,rfl,rfl,rfl,rfl,rfl,rfl,rfl⟩
theorem vi:∀ {l:List DeviceS},(l.map DeviceS.Key).Nodup→∀ (i j:Nat) (a b:DeviceS),l[i]? =some a→l[j]? =some b→a.Key=b.Key→i=j
 | [],_,i,j,a,b,h,_,_=>by simp at h
 | x :: r,hn,i,j,a,b,h1,h2,h3=>by
   rw [List.map_cons,List.nodup_cons] at hn
   match i,j with
   | 0,0=>rfl
   | 0,j+1=>
     exfalso;simp at h1 h2;subst h1
     exact hn.1 (List.mem_map.2 ⟨b,List.mem_of_getElem? h2,h3.symm⟩)
   | i+1,0=>
     exfalso;simp at h1 h2;subst h2
     exact hn.1 (List.mem_map.2 ⟨a,List.mem_of_getElem? h1,h3⟩)
   | i+1,j+1=>
     have:=vi hn.2 i j a b (by simpa using h1) (by simpa using h2) h3
     omega
theorem CG {α β:Type} {f h:α→β} {l:List α} {i:Nat} {d:α} (hd:l[i]? =some d) (hr:∀ j d',j≠i→l[j]? =some d'→f d'=h d'):(l.map f).set i (h d)=l.map h:=by
 refine List.ext_getElem? (fun j=>?_)
 rw [List.getElem?_set,List.getElem?_map,List.getElem?_map]
 have hi:i < l.length:=(List.getElem?_eq_some_iff.1 hd).1
 by_cases e:i=j
 ·subst e
  rw [if_pos rfl,if_pos (by simpa using hi),hd];rfl
 ·rw [if_neg e]
  cases hj:l[j]? with
  | none=>rfl
  | some d'=>simp [hr j d' (fun h=>e h.symm) hj]
theorem sx (c:Campaign) (dn:List MarkS) (m:MarkS) (d:DeviceS):ov c (dn++[m]) d=if nN c d.Key m=true then vo (ov c dn d) m else ov c dn d:=by
 unfold ov
 rw [List.filter_append,List.foldl_append,List.filter_cons]
 split<;>rfl
theorem Ik {fl:List DeviceS} (hf:kR fl) {of:List (bq×Int)} (hp:of.Perm (eF fl 0)):(of.map Prod.fst).Nodup:=by
 refine (hp.map Prod.fst).nodup_iff.2 ?_
 rw [CE];exact hf.Mf
theorem Il {c:Campaign} {fl:List DeviceS} (hf:kR fl) {wv:List (bq×Int)} (hp:wv.Perm (CF c fl)):(wv.map Prod.fst).Nodup:=by
 refine (hp.map Prod.fst).nodup_iff.2 ?_
 unfold CF
 rw [List.map_map];exact hf.Mf
theorem Mg {fl:List DeviceS} (hf:kR fl) {of:List (bq×Int)} (hp:of.Perm (eF fl 0)) {i:Nat} {d:DeviceS} (hd:fl[i]? =some d):ch of d.Key=some (i:Int):=by
 refine pg (Ik hf hp) (hp.mem_iff.2 ?_)
 have:=EP fl 0 i d hd
 rw [Nat.zero_add] at this;exact this
theorem Mh {c:Campaign} {fl:List DeviceS} (hf:kR fl) {wv:List (bq×Int)} (hp:wv.Perm (CF c fl)) {d:DeviceS} (hd:d∈fl):ch wv d.Key=some (nw c d.Key:Int):=
 pg (Il hf hp) (hp.mem_iff.2 (List.mem_map.2 ⟨d,hd,rfl⟩))
theorem Kj {fl:List DeviceS} {of:List (bq×Int)} (hp:of.Perm (eF fl 0)) {k:bq} (h:∀ d∈fl,d.Key≠k):ch of k=none:=by
 refine oI.2 (fun e he hk=>?_)
 obtain ⟨i,d,h1,h2⟩:=vh fl 0 e (hp.mem_iff.1 he)
 rw [h2] at hk
 exact h d (List.mem_of_getElem? h1) hk
theorem ER {c:Campaign} {fl:List DeviceS} {s:CS} {dn:List MarkS} (hc:jv c) (hf:kR fl) (h:SI c fl s dn) (m:MarkS):
 (bN s m=some s∧∀ d∈fl,nN c d.Key m=false)∨(∃ i d,fl[i]? =some d∧nN c d.Key m=true∧bN s m=some (mz s i (nw c d.Key) (ov c dn d) m)):=by
 by_cases Im:∃ d,d∈fl∧d.Key=m.Device
 ·obtain ⟨d,hm,hk⟩:=Im
  obtain ⟨i,hi⟩:=List.getElem?_of_mem hm
  by_cases ha:m.At < c.At
  ·left
   exact ⟨zS s m (.inr (by rw [h.c_];exact ha)),fun d _=>by unfold nN;simp;intro _;omega⟩
  ·right
   have hw:=(vg c hc d.Key (hf.key d hm)).2
   refine ⟨i,d,hi,by unfold nN;simp [hk];omega,?_⟩
   refine Ki s m i (nw c d.Key) (ov c dn d) ?_ ?_ (by rw [h.c_];exact ha) ?_ (by rw [h.c_];exact hw) (by rw [h.open_];exact hw) (by rw [h.bl];exact hw) (by rw [h.aR];exact hw)
   ·rw [← hk];exact Mg hf h.oK hi
   ·rw [← hk];exact Mh hf h.dF hm
   ·rw [h.kO,List.getElem?_map,hi];rfl
 ·left
  refine ⟨zS s m (.inl (Kj h.oK (fun d hd hk=>Im ⟨d,hd,hk⟩))),fun d hd=>?_⟩
  unfold nN
  rw [Bool.and_eq_false_iff]
  exact .inl (decide_eq_false (fun hk=>Im ⟨d,hd,hk.symm⟩))
theorem Kk {c:Campaign} {fl:List DeviceS} {s:CS} {dn:List MarkS} (hc:jv c) (hf:kR fl) (h:SI c fl s dn) (m:MarkS):Ok (bN s m) (fun r=>SI c fl r (dn++[m])):=by
 rcases ER hc hf h m with ⟨e,hr⟩ | ⟨i,d,hi,hr,e⟩
 ·refine ⟨s,e,⟨h.c_,h.oK,h.dF,?_,h.open_,h.bl,h.aR,h.bg,h.nx⟩⟩
  rw [h.kO]
  refine List.map_congr_left (fun d hd=>?_)
  rw [sx,hr d hd];rfl
 ·obtain ⟨k1,k2,k3,k4,k5,k6,k7,k8,k9⟩:=yz s i (nw c d.Key) (ov c dn d) m
  refine ⟨_,e,⟨by rw [k1];exact h.c_,by rw [k2];exact h.oK,by rw [k3];exact h.dF,?_,by rw [k7];exact h.open_,by rw [k8];exact h.bl,by rw [k9];exact h.aR,by rw [k5];exact h.bg,by rw [k5,k6];exact h.nx⟩⟩
  rw [k4,h.kO,show vo (ov c dn d) m=ov c (dn++[m]) d by rw [sx,if_pos hr]]
  refine CG hi (fun j d' hj uC=>?_)
  rw [sx,if_neg]
  intro Jh
  unfold nN at hr Jh
  simp only [Bool.and_eq_true,decide_eq_true_eq] at hr Jh
  exact hj (vi hf.Mf j i d' d uC hi (by rw [← Jh.1,hr.1]))
def zT (r s:CS):Prop:=r.c_=s.c_∧r.oK=s.oK∧r.dF=s.dF∧r.kO=s.kO
noncomputable def sy (c:Campaign) (op:List Int) (d:DeviceS):List Int:=if decide (d.bn=c.Target)=true then op else gZ op (nw c d.Key) 1
theorem vj (c:Campaign):∀ (l:List DeviceS) (op:List Int),(l.foldl (sy c) op).length=op.length
 | [],_=>rfl
 | d :: r,op=>by
   rw [List.foldl_cons,vj c r]
   unfold sy;split
   ·rfl
   ·exact oN _ _ _
theorem CH {m:List (bq×Int)} {k:bq} {v:Int} (h:∀ e∈m,e.1≠k):(bT m k v).Perm (m++[(k,v)]):=by
 refine (oJ m k v).trans ?_
 have:iY m k=m:=by unfold iY;exact List.filter_eq_self.2 (fun e he=>by simp [h e he])
 rw [this]
 exact (List.perm_append_singleton (k,v) m).symm
theorem tH (c:Campaign) (fl:List DeviceS) (hc:jv c) (hf:kR fl) (hl:(fl.length:Int)≤100000) (R8 Rr R0:List Int) (hR:R0.length=c.aB.length):∀ (m n:Nat) (of wv:List (bq×Int)),n+m=fl.length→of.Perm (eF (fl.take n) 0)→wv.Perm (CF c (fl.take n))→
 ∃ Mi Mj,iC c fl R8 Rr ((fl.take n).map x0) of wv ((fl.take n).foldl (sy c) R0) (n:Int)=some ⟨c,Mi,Mj,fl.foldl (sy c) R0,R8,Rr,[],-1,c.At,fl.map x0⟩∧Mi.Perm (eF fl 0)∧Mj.Perm (CF c fl)
 | 0,n,of,wv,h,h1,h2=>by
   rw [List.take_of_length_le (by omega)] at h1 h2 ⊢
   refine ⟨of,wv,?_,h1,h2⟩
   unfold iC
   rw [iter_eq,eN,if_neg (by simp only;omega),bb]
 | m+1,n,of,wv,h,h1,h2=>by
   obtain ⟨d,hd,Rt,Rh⟩:=eE fl (i:=(n:Int)) (by omega) (by omega)
   have hg:fl[n]? =some d:=by have:=(gK hd).2.2;rwa [Int.toNat_natCast] at this
   have ht:fl.take (n+1)=fl.take n++[d]:=by rw [List.take_add_one,hg];rfl
   have Gb:(fl.take n).length=n:=by rw [List.length_take];omega
   have s0:∀ x∈fl.take n,x.Key≠d.Key:=by
    intro x hx hk
    obtain ⟨j,hj⟩:=List.getElem?_of_mem hx
    have w6:j < n:=by have:=(List.getElem?_eq_some_iff.1 hj).1;omega
    rw [List.getElem?_take_of_lt w6] at hj
    have:=vi hf.Mf j n x d hj hg hk
    omega
   have Ym:∀ e∈of,e.1≠d.Key:=by
    intro e he hk
    obtain ⟨j,x,a1,a2⟩:=vh _ 0 e (h1.mem_iff.1 he)
    rw [a2] at hk
    exact s0 x (List.mem_of_getElem? a1) hk
   have OL:∀ e∈wv,e.1≠d.Key:=by
    intro e he hk
    obtain ⟨x,a1,a2⟩:=List.mem_map.1 (h2.mem_iff.1 he)
    rw [← a2] at hk
    exact s0 x a1 hk
   have Gv:LO ((fl.take n).map x0).length (of.map Prod.snd)=some ():=by
    unfold LO
    rw [if_pos]
    intro y hy
    obtain ⟨e,he,rfl⟩:=List.mem_map.1 hy
    obtain ⟨j,x,a1,a2⟩:=vh _ 0 e (h1.mem_iff.1 he)
    have:=(List.getElem?_eq_some_iff.1 a1).1
    rw [a2,List.length_map,Gb]
    simp only
    omega
   obtain ⟨w1,w2⟩:=vg c hc d.Key (hf.key d Rt)
   have wn:aJ ((n:Int)+1)=((n+1:Nat):Int):=by rw [br]<;>omega
   have Yn:((fl.take n).foldl (sy c) R0).length=c.aB.length:=by rw [vj];exact hR
   obtain ⟨Mi,Mj,r1,r2,r3⟩:=tH c fl hc hf hl R8 Rr R0 hR m (n+1) (bT of d.Key (n:Int)) (bT wv d.Key (nw c d.Key:Int)) (by omega)
    (by rw [ht,zR,Gb,Nat.zero_add];exact (CH Ym).trans (h1.append_right _))
    (by rw [ht];unfold CF;rw [List.map_append];exact (CH OL).trans (h2.append_right _))
   refine ⟨Mi,Mj,?_,r2,r3⟩
   rw [← r1,ht,List.map_append,List.foldl_append]
   unfold iC
   conv=>lhs;rw [iter_eq]
   rw [eN,if_pos (by simp only;omega)]
   simp only
   rw [hd]
   simp only [Option.bind_some]
   rw [Gv,w1]
   simp only [Option.bind_some]
   unfold nD fR
   rw [zO,if_pos rfl,List.length_map,Gb,wn]
   simp only [Option.bind_some,Option.getD_some,Int.toNat_natCast]
   rw [lp (l:=(fl.take n).foldl (sy c) R0) (by rw [Yn];exact w2)]
   simp only [Option.bind_some,List.foldl_cons,List.foldl_nil,List.map_cons,List.map_nil]
   have Ru:∀ s:CS,s.c_=c→bI s ⟨⟨0,0,d.bn,0⟩,⟨0,0,0⟩⟩=decide (d.bn=c.Target):=by
    intro s hs;unfold bI;rw [hs]
   rw [Ru _ rfl]
   unfold sy
   by_cases hq:d.bn=c.Target
   ·rw [if_neg (by simp [hq]),if_pos (by simp [hq])]
    rfl
   ·rw [if_pos (by simp [hq]),if_neg (by simp [hq])]
    rfl
theorem CI (c:Campaign) (fl:List DeviceS) (hc:jv c) (hf:kR fl) (hl:(fl.length:Int)≤100000):∃ Mi Mj,dh c fl=some ⟨c,Mi,Mj,fl.foldl (sy c) (List.replicate c.aB.length 0),List.replicate c.aB.length 0,List.replicate c.aB.length 0,[],-1,c.At,fl.map x0⟩∧Mi.Perm (eF fl 0)∧Mj.Perm (CF c fl):=by
 have hlen:=hc.len
 have fy:Lw (0:Int) (c.aB.length:Int) (c.aB.length:Int)=some (List.replicate c.aB.length 0):=by
  unfold Lw;rw [if_pos (by omega),Int.toNat_natCast]
 obtain ⟨a,b,r1,r2,r3⟩:=tH c fl hc hf hl (List.replicate c.aB.length 0) (List.replicate c.aB.length 0) (List.replicate c.aB.length 0) (by simp) fl.length 0 [] [] (by simp) (List.Perm.refl _) (List.Perm.refl _)
 refine ⟨a,b,?_,r2,r3⟩
 unfold dh
 rw [fy]
 exact r1
theorem CJ (c:Campaign) (fl:List DeviceS) (hc:jv c) (hf:kR fl) (hl:(fl.length:Int)≤100000):Ok (dh c fl) (fun s=>SI c fl s []∧s.open_=fl.foldl (sy c) (List.replicate c.aB.length 0)∧s.bl=List.replicate c.aB.length 0∧s.aR=List.replicate c.aB.length 0∧s.aL=[]∧s.aT=-1∧s.cw=c.At):=by
 obtain ⟨a,b,r1,r2,r3⟩:=CI c fl hc hf hl
 refine ⟨_,r1,⟨rfl,r2,r3,rfl,by rw [vj];simp,by simp,by simp,by simp,fun _=>?_⟩,rfl,rfl,rfl,rfl,rfl,rfl⟩
 have:=hc.sum
 cases hw:c.aB with
 | nil=>rw [hw] at this;simp [qx] at this
 | cons x y=>simp
abbrev Bi:=(List (bq×Int))×(List al)×(List (bq×Int))×(List Int)×(List Int)×(List Int)×(List Int)×Int×Int×Int
def A9 (c:Campaign) (t:Bi):CS:=⟨c,t.1,t.2.2.1,t.2.2.2.1,t.2.2.2.2.1,t.2.2.2.2.2.1,t.2.2.2.2.2.2.1,t.2.2.2.2.2.2.2.1,t.2.2.2.2.2.2.2.2.1,t.2.1⟩
def nT (t:Bi):Int:=t.2.2.2.2.2.2.2.2.2
theorem Ba {r s:CS} (h:zT r s):(⟨s.c_,s.oK,s.dF,r.open_,r.bl,r.aR,r.aL,r.aT,r.cw,s.kO⟩:CS)=r:=by
 obtain ⟨h1,h2,h3,h4⟩:=h
 rw [← h1,← h2,← h3,← h4]
theorem F1 (c:Campaign) (Mk:CS) (l:List MarkS) (at_:Int) (hl:(l.length:Int)≤10000) (hm:∀ x∈l,0≤x.At∧x.At≤345686399999) (hs:l.Pairwise (fun a b=>a.At≤b.At)) (P M:CS→Nat→Int→Prop) (R:CS→Nat→Prop)
 (hc:Mk.c_=c)
 (h1:∀ s n T x,s.c_=c→P s n T→l[n]? =some x→T < x.At→x.At≤at_→Ok (bX s (x.At - 1)) (fun r=>zT r s∧M r n x.At))
 (h2:∀ s n x now,s.c_=c→M s n now→l[n]? =some x→x.At=now→now≤at_→Ok (bN s x) (fun r=>r.c_=c∧M r (n+1) now))
 (h3:∀ s n now,s.c_=c→M s n now→(∀ x∈l.drop n,now < x.At)→now≤at_→Ok (bX s now) (fun r=>zT r s∧P r n now))
 (h4:∀ s n T,s.c_=c→P s n T→(∀ x∈l.drop n,at_ < x.At)→T≤at_→Ok (bX s at_) (fun r=>zT r s∧R r n))
 (T0:Int) (h0:P Mk 0 T0) (NK:T0≤at_∧∀ x∈l,T0 < x.At):Ok (dD Mk l at_) (fun r=>∃ n,n≤l.length∧R r n):=by
 unfold dD lK
 have key:∀ t:Bi,nT t=0→A9 c t=Mk→Ok (iter (fun x:Bi=>dt Mk l at_ x.1 x.2.1 x.2.2.1 x.2.2.2.1 x.2.2.2.2.1 x.2.2.2.2.2.1 x.2.2.2.2.2.2.1 x.2.2.2.2.2.2.2.1 x.2.2.2.2.2.2.2.2.1 x.2.2.2.2.2.2.2.2.2) t) (fun r=>∃ n,n≤l.length∧R r n):=by
  intro t e1 e2
  refine Ok.iter (fun t:Bi=>l.length - (nT t).toNat) (fun t:Bi=>∃ n:Nat,nT t=(n:Int)∧n≤l.length∧∃ T,P (A9 c t) n T∧T≤at_∧∀ x∈l.drop n,T < x.At) ?_ t ⟨0,by rw [e1];rfl,by omega,T0,by rw [e2];exact h0,NK.1,by rw [List.drop_zero];exact NK.2⟩
  rintro ⟨a1,a2,a3,a4,a5,a6,a7,a8,a9,Zv⟩ ⟨n,g1,g2,T,g3,g4,g5⟩
  unfold nT at g1
  simp only at g1
  subst g1
  have UB:(∀ x∈l.drop n,at_ < x.At)→Ok (cH Mk l at_ a1 a2 a3 a4 a5 a6 a7 a8 a9 (n:Int) false) (Kb (fun t:Bi=>l.length - (nT t).toNat) (fun t:Bi=>∃ n:Nat,nT t=(n:Int)∧n≤l.length∧∃ T,P (A9 c t) n T∧T≤at_∧∀ x∈l.drop n,T < x.At) (fun r=>∃ n,n≤l.length∧R r n) (a1,a2,a3,a4,a5,a6,a7,a8,a9,(n:Int))):=by
   intro hx
   unfold cH
   rw [if_neg (by simp)]
   refine Ok.inr ?_
   unfold jd
   rw [hc]
   refine Ok.bind (h4 (A9 c (a1,a2,a3,a4,a5,a6,a7,a8,a9,(n:Int))) n T rfl g3 hx g4) (fun v hv=>?_)
   refine Ok.ret ⟨n,g2,?_⟩
   have:=Ba hv.1
   unfold A9 at this
   simp only at this
   rw [this]
   exact hv.2
  simp only
  unfold dt
  by_cases hn:(n:Int) < l.length
  ·rw [if_pos hn]
   obtain ⟨x,hx,Hg,hd⟩:=eE l (i:=(n:Int)) (by omega) hn
   rw [show ((n:Int)).toNat=n by omega,show ((n:Int)+1).toNat=n+1 by omega] at hd
   have UC:l[n]? =some x:=by have:=(gK hx).2.2;rwa [Int.toNat_natCast] at this
   rw [hx]
   simp only [Option.bind_some]
   have Lz:∀ y∈l.drop (n+1),x.At≤y.At:=by
    have:=List.Pairwise.drop (i:=n) hs
    rw [hd,List.pairwise_cons] at this
    exact this.1
   by_cases ha:x.At≤at_
   ·unfold cH
    rw [if_pos (by simpa using ha),hx,hc]
    simp only [Option.bind_some]
    have hb:=hm x Hg
    rw [br (x:=x.At - 1) (by omega) (by omega)]
    refine Ok.bind (h1 (A9 c (a1,a2,a3,a4,a5,a6,a7,a8,a9,(n:Int))) n T x rfl g3 UC (g5 x (by rw [hd];exact List.mem_cons_self)) ha) (fun v hv=>?_)
    have Rv:=Ba hv.1
    unfold A9 at Rv
    simp only at Rv
    unfold lJ
    refine (Ok.iter (R:=fun r:Bi⊕CS=>Kb (fun t:Bi=>l.length - (nT t).toNat) (fun t:Bi=>∃ n:Nat,nT t=(n:Int)∧n≤l.length∧∃ T,P (A9 c t) n T∧T≤at_∧∀ x∈l.drop n,T < x.At) (fun r=>∃ n,n≤l.length∧R r n) (a1,a2,a3,a4,a5,a6,a7,a8,a9,(n:Int)) r) (fun t:Bi=>l.length - (nT t).toNat) (fun t:Bi=>∃ k:Nat,nT t=(k:Int)∧n≤k∧k≤l.length∧M (A9 c t) k x.At) ?_ (a1,a2,a3,v.open_,v.bl,v.aR,v.aL,v.aT,v.cw,(n:Int)) ⟨n,rfl,Nat.le_refl _,g2,by unfold A9;simp only;rw [Rv];exact hv.2⟩)
    rintro ⟨b1,b2,b3,b4,b5,b6,b7,b8,b9,rB⟩ ⟨k,q1,q2,q3,q4⟩
    unfold nT at q1
    simp only at q1
    subst q1
    have fin:(∀ y∈l.drop k,x.At < y.At)→n < k→Ok (cG Mk l x b1 b2 b3 b4 b5 b6 b7 b8 b9 (k:Int) false) (Kb (fun t:Bi=>l.length - (nT t).toNat) (fun t:Bi=>∃ k:Nat,nT t=(k:Int)∧n≤k∧k≤l.length∧M (A9 c t) k x.At) (fun r:Bi⊕CS=>Kb (fun t:Bi=>l.length - (nT t).toNat) (fun t:Bi=>∃ n:Nat,nT t=(n:Int)∧n≤l.length∧∃ T,P (A9 c t) n T∧T≤at_∧∀ x∈l.drop n,T < x.At) (fun r=>∃ n,n≤l.length∧R r n) (a1,a2,a3,a4,a5,a6,a7,a8,a9,(n:Int)) r) (b1,b2,b3,b4,b5,b6,b7,b8,b9,(k:Int))):=by
     intro hy Zw
     unfold cG
     rw [if_neg (by simp)]
     refine Ok.inr ?_
     unfold jc
     rw [hc]
     refine Ok.bind (h3 (A9 c (b1,b2,b3,b4,b5,b6,b7,b8,b9,(k:Int))) k x.At rfl q4 hy ha) (fun r hr=>?_)
     have Rw:=Ba hr.1
     unfold A9 at Rw
     simp only at Rw
     refine Ok.ret ⟨⟨k,rfl,q3,x.At,?_,ha,hy⟩,?_⟩
     ·unfold A9;simp only;rw [Rw];exact hr.2
     ·unfold nT;simp only;omega
    simp only
    unfold eP
    by_cases hk:(k:Int) < l.length
    ·rw [if_pos hk]
     obtain ⟨y,hy,RZ,Rx⟩:=eE l (i:=(k:Int)) (by omega) hk
     rw [show ((k:Int)).toNat=k by omega,show ((k:Int)+1).toNat=k+1 by omega] at Rx
     have PG:l[k]? =some y:=by have:=(gK hy).2.2;rwa [Int.toNat_natCast] at this
     rw [hy]
     simp only [Option.bind_some]
     by_cases he:y.At=x.At
     ·unfold cG
      rw [if_pos (by simpa using he),hy,hc]
      simp only [Option.bind_some]
      refine Ok.bind (h2 (A9 c (b1,b2,b3,b4,b5,b6,b7,b8,b9,(k:Int))) k y x.At rfl q4 PG he ha) (fun r hr=>?_)
      have wk:aJ ((k:Int)+1)=((k+1:Nat):Int):=by rw [br]<;>omega
      rw [wk]
      refine Ok.ret ⟨⟨k+1,rfl,by omega,by omega,?_⟩,?_⟩
      ·have:A9 c (r.oK,r.kO,r.dF,r.open_,r.bl,r.aR,r.aL,r.aT,r.cw,((k+1:Nat):Int))=r:=by
        unfold A9;simp only;rw [← hr.1]
       rw [this];exact hr.2
      ·unfold nT;simp only;omega
     ·rw [decide_eq_false he]
      have Yo:n < k:=by
       rcases Nat.lt_or_ge n k with h | h
       ·exact h
       ·obtain rfl:k=n:=by omega
        rw [UC] at PG
        exact absurd (by rw [Option.some.inj PG]) he
      have DV:x.At≤y.At:=by
       refine Lz y ?_
       obtain ⟨z,rfl⟩:∃ z,k=n+1+z:=⟨k - (n+1),by omega⟩
       refine List.mem_of_getElem? (i:=z) ?_
       rw [List.getElem?_drop];exact PG
      refine fin (fun z hz=>?_) Yo
      rw [Rx] at hz
      have UD:=List.Pairwise.drop (i:=k) hs
      rw [Rx,List.pairwise_cons] at UD
      rcases List.mem_cons.1 hz with rfl | hz
      ·omega
      ·have:=UD.1 z hz;omega
    ·rw [if_neg hk]
     have Fi:k=l.length:=by omega
     refine fin (fun z hz=>?_) (by omega)
     rw [List.drop_of_length_le (by omega)] at hz
     cases hz
   ·rw [decide_eq_false ha]
    refine UB (fun y hy=>?_)
    rw [hd] at hy
    rcases List.mem_cons.1 hy with rfl | hy
    ·omega
    ·have:=Lz y hy;omega
  ·rw [if_neg hn]
   refine UB (fun y hy=>?_)
   rw [List.drop_of_length_le (by omega)] at hy
   cases hy
 refine key _ rfl ?_
 unfold A9
 rw [← hc]
theorem CK (c:Campaign) (d:DeviceS) (l:List MarkS) (n:Nat) (at_:Int) (h1:∀ x∈l.take n,x.At≤at_) (h2:∀ x∈l.drop n,at_ < x.At):ov c (l.take n) d=vf c d l at_:=by
 unfold ov vf
 have e:l.filter (rP c d.Key at_)=(l.take n).filter (nN c d.Key):=by
  conv=>lhs;rw [← List.take_append_drop n l,List.filter_append]
  have z:(l.drop n).filter (rP c d.Key at_)=[]:=by
   rw [List.filter_eq_nil_iff]
   intro x hx
   have:=h2 x hx
   unfold rP
   simp only [Bool.and_eq_true,decide_eq_true_eq]
   omega
  rw [z,List.append_nil]
  refine List.filter_congr (fun x hx=>?_)
  have:=h1 x hx
  unfold rP nN
  rw [decide_eq_true this,Bool.and_true]
 rw [e]
theorem ES:∀ {l:List DeviceS} {p:Option DeviceS},ri qS p l=0→(∀ d∈l,lD d.Key=true)∧l.Pairwise (fun a b=>Lib.compareBytes a.Key b.Key < 0)∧∀ q,p=some q→∀ d∈l,Lib.compareBytes q.Key d.Key < 0
 | [],p,_=>⟨by simp,List.Pairwise.nil,by simp⟩
 | d :: r,p,h=>by
   simp only [ri] at h
   split at h
   ·rename_i h0
    obtain ⟨i1,i2,i3⟩:=ES h
    have hd:¬ A5 d∧uh p d=false:=by
     unfold qS at h0
     split at h0
     ·cases h0
     ·rename_i hk
      split at h0
      ·cases h0
      ·rename_i hb;exact ⟨hk,by simpa using hb⟩
    have hk:lD d.Key=true:=by
     cases e:lD d.Key
     ·exact absurd (Or.inl e) hd.1
     ·rfl
    refine ⟨fun x hx=>?_,List.pairwise_cons.2 ⟨fun x hx=>i3 d rfl x hx,i2⟩,fun q hq x hx=>?_⟩
    ·rcases List.mem_cons.1 hx with rfl | hx
     ·exact hk
     ·exact i1 x hx
    ·subst hq
     have hb:=hd.2
     unfold uh at hb
     simp only at hb
     have iO:Lib.compareBytes q.Key d.Key < 0:=by
      rw [qs,JV,Bool.or_eq_false_iff] at hb
      have b1:=of_decide_eq_false hb.1
      have b2:=of_decide_eq_false hb.2
      have:=yl q.Key d.Key
      omega
     rcases List.mem_cons.1 hx with rfl | hx
     ·exact iO
     ·exact AX.tr iO (i3 d rfl x hx)
   ·exact absurd h ‹_›
theorem Ml {fl:List DeviceS} (h:vP fl=0):kR fl∧(fl.length:Int)≤500:=by
 unfold vP at h
 split at h
 ·cases h
 ·obtain ⟨h1,h2,_⟩:=ES h
  refine ⟨⟨h1,?_⟩,by omega⟩
  unfold List.Nodup
  rw [List.pairwise_map]
  refine h2.imp (fun {a b} yI he=>?_)
  rw [he,qp] at yI
  omega
structure Bb (x:MarkS):Prop where
 Ic:0≤x.At∧x.At≤345686399999
 kind:1≤x.Kind∧x.Kind≤5
theorem ET:∀ {l:List MarkS} {p:Option MarkS},ri o4 p l=0→(∀ x∈l,Bb x)∧l.Pairwise (fun a b=>mO a b < 0)∧∀ q,p=some q→∀ x∈l,mO q x < 0
 | [],p,_=>⟨by simp,List.Pairwise.nil,by simp⟩
 | d :: r,p,h=>by
   simp only [ri] at h
   split at h
   ·rename_i h0
    obtain ⟨i1,i2,i3⟩:=ET h
    unfold o4 at h0
    split at h0
    ·rename_i hb;exact absurd h0 hb
    ·rename_i hb
     have hb:=Classical.not_not.1 hb
     have hd:Bb d:=by
      unfold vd at hb
      split at hb
      ·cases hb
      ·rename_i a1
       split at hb
       ·cases hb
       ·split at hb
        ·cases hb
        ·rename_i a3
         have a1:tj d.At=true:=by simpa using a1
         unfold tj at a1
         simp only [Bool.and_eq_true,decide_eq_true_eq] at a1
         exact ⟨a1,by omega⟩
     refine ⟨fun x hx=>?_,List.pairwise_cons.2 ⟨fun x hx=>i3 d rfl x hx,i2⟩,fun q hq x hx=>?_⟩
     ·rcases List.mem_cons.1 hx with rfl | hx
      ·exact hd
      ·exact i1 x hx
     ·subst hq
      simp only at h0
      have iO:mO q d < 0:=by
       split at h0
       ·cases h0
       ·have:=FW.neg q d;omega
      rcases List.mem_cons.1 hx with rfl | hx
      ·exact iO
      ·exact FW.tr iO (i3 d rfl x hx)
   ·exact absurd h ‹_›
theorem CL {a b:MarkS} (h:mO a b < 0):a.At≤b.At:=by
 unfold mO at h
 by_cases h0:qo a.At b.At≠0
 ·rw [if_pos h0] at h
  unfold qo at h
  split at h
  ·omega
  ·split at h<;>omega
 ·have:=Md.1 (Classical.not_not.1 h0);omega
theorem Mm {l:List MarkS} (h:vO l=0):(∀ x∈l,Bb x)∧l.Pairwise (fun a b=>mO a b < 0)∧(l.length:Int)≤3000:=by
 unfold vO at h
 split at h
 ·cases h
 ·obtain ⟨h1,h2,_⟩:=ET h
  exact ⟨h1,h2,by omega⟩
def F2 (at_:Int):Int:=if tj at_=true then 0 else 1
noncomputable def wT (r:Int) (fl:List DeviceS) (l:List MarkS) (at_:Int):Int:=EC [r,vP fl,vO l,F2 at_]
theorem Io {c:Campaign} {r:Int} (hr:bV c=some r) (fl:List DeviceS) (l:List MarkS) (at_:Int):jb c fl l at_=some (wT r fl l at_):=by
 unfold jb
 rw [hr,y8,yZ]
 simp only [Option.bind_some]
 rw [show qL [r,vP fl,vO l]=some (EC [r,vP fl,vO l]) from DF _ (by simp)]
 simp only [Option.bind_some]
 unfold kc iB wT F2
 rw [sU,show (decide (0≤at_)&&decide (at_≤345686399999))=tj at_ from rfl]
 by_cases h1:r=0
 ·by_cases h2:vP fl=0
  ·by_cases h3:vO l=0
   ·simp only [EC,h1,h2,h3]
    cases tj at_<;>simp
   ·simp [EC,h1,h2,h3]
  ·simp [EC,h1,h2]
 ·simp [EC,h1]
theorem EU (r:Int) (fl:List DeviceS) (l:List MarkS) (at_:Int):AD [r,vP fl,vO l,iJ at_]=some (wT r fl l at_):=by
 have e:iJ at_=F2 at_:=by
  unfold iJ AB F2
  rw [uf,show (decide (0≤at_)&&decide (at_≤345686399999))=tj at_ from rfl]
  cases tj at_<;>rfl
 rw [e]
 exact DF _ (by simp)
theorem OM {r:Int} {fl:List DeviceS} {l:List MarkS} {at_:Int} (h:wT r fl l at_=0):r=0∧vP fl=0∧vO l=0∧0≤at_:=by
 unfold wT at h
 simp only [EC] at h
 by_cases h1:r=0
 ·by_cases h2:vP fl=0
  ·by_cases h3:vO l=0
   ·refine ⟨h1,h2,h3,?_⟩
    simp only [h1,h2,h3] at h
    unfold F2 at h
    cases hm:tj at_
    ·simp [hm] at h
    ·unfold tj at hm
     simp only [Bool.and_eq_true,decide_eq_true_eq] at hm
     exact hm.1
   ·simp [h1,h2,h3] at h
  ·simp [h1,h2] at h
 ·simp [h1] at h
theorem lg {α:Type} {P:List α→Prop} (h0:P []) (h:∀ l x,P l→P (l++[x])):∀ l,P l:=by
 intro l
 rw [← l.reverse_reverse]
 induction l.reverse with
 | nil=>exact h0
 | cons x r ih=>rw [List.reverse_cons];exact h _ x ih
def rR (m:MarkS):Bool:=decide (m.Kind=3)||decide (m.Kind=4)
noncomputable def qD (c:Campaign) (dn:List MarkS) (m:MarkS) (d:DeviceS):Bool:=nN c d.Key m&&CB (ov c dn d) m
noncomputable def sA (c:Campaign) (fl:List DeviceS) (dn:List MarkS) (w:Nat) (m:MarkS):Bool:=rR m&&fl.any (fun d=>decide (nw c d.Key=w)&&qD c dn m d)
noncomputable def EV (c:Campaign) (fl:List DeviceS) (w:Nat) (s:List MarkS×List MarkS) (m:MarkS):List MarkS×List MarkS:=(s.1++[m],if sA c fl s.1 w m=true then s.2++[m] else s.2)
noncomputable def EL (c:Campaign) (fl:List DeviceS) (w:Nat) (dn:List MarkS):List MarkS:=(dn.foldl (EV c fl w) ([],[])).2
theorem Mn (c:Campaign) (fl:List DeviceS) (w:Nat):∀ dn:List MarkS,(dn.foldl (EV c fl w) ([],[])).1=dn:=
 lg rfl (fun l x h=>by rw [List.foldl_append];simp only [List.foldl_cons,List.foldl_nil];unfold EV at h ⊢;rw [h])
theorem ny (c:Campaign) (fl:List DeviceS) (w:Nat) (dn:List MarkS) (m:MarkS):EL c fl w (dn++[m])=if sA c fl dn w m=true then EL c fl w dn++[m] else EL c fl w dn:=by
 unfold EL
 rw [List.foldl_append]
 simp only [List.foldl_cons,List.foldl_nil]
 have e:∀ S:List MarkS×List MarkS,(EV c fl w S m).2=if sA c fl S.1 w m=true then S.2++[m] else S.2:=fun _=>rfl
 rw [e,Mn]
def vQ (E:List MarkS):Nat:=(E.filter (fun m=>decide (m.Kind=4))).length
def vR (c:Campaign) (w:Nat) (E:List MarkS):Bool:=decide ((o5 c w).tv≤(E.length:Int))&&decide (aJ ((o5 c w).cO * (E.length:Int)) < aJ (1000 * (vQ E:Int)))
noncomputable def yA (c:Campaign) (fl:List DeviceS) (dn:List MarkS) (m:MarkS):Bool:=(List.range c.aB.length).any (fun w=>sA c fl dn w m&&vR c w (EL c fl w (dn++[m])))
noncomputable def EW (c:Campaign) (fl:List DeviceS) (s:List MarkS×Int) (m:MarkS):List MarkS×Int:=(s.1++[m],if s.2 < 0∧yA c fl s.1 m=true then m.At else s.2)
noncomputable def SA (c:Campaign) (fl:List DeviceS) (dn:List MarkS):Int:=(dn.foldl (EW c fl) ([],-1)).2
theorem Mo (c:Campaign) (fl:List DeviceS):∀ dn:List MarkS,(dn.foldl (EW c fl) ([],-1)).1=dn:=
 lg rfl (fun l x h=>by rw [List.foldl_append];simp only [List.foldl_cons,List.foldl_nil];unfold EW at h ⊢;rw [h])
theorem qT (c:Campaign) (fl:List DeviceS) (dn:List MarkS) (m:MarkS):SA c fl (dn++[m])=if SA c fl dn < 0∧yA c fl dn m=true then m.At else SA c fl dn:=by
 unfold SA
 rw [List.foldl_append]
 simp only [List.foldl_cons,List.foldl_nil]
 have e:∀ S:List MarkS×Int,(EW c fl S m).2=if S.2 < 0∧yA c fl S.1 m=true then m.At else S.2:=fun _=>rfl
 rw [e,Mo]
noncomputable def Bj (c:Campaign) (dn:List MarkS) (w:Nat) (d:DeviceS):Bool:=decide (nw c d.Key=w)&&!za c (ov c dn d)
noncomputable def DN (c:Campaign) (fl:List DeviceS) (dn:List MarkS) (w:Nat):Nat:=(fl.filter (Bj c dn w)).length
structure SX (c:Campaign) (fl:List DeviceS) (s:CS) (dn:List MarkS):Prop extends SI c fl s dn where
 PH:∀ w,w < c.aB.length→s.open_.getD w 0=(DN c fl dn w:Int)
 en:∀ w,w < c.aB.length→s.bl.getD w 0=((EL c fl w dn).length:Int)
 fa:∀ w,w < c.aB.length→s.aR.getD w 0=(vQ (EL c fl w dn):Int)
 sp:s.aT=SA c fl dn
theorem na {l:List Int} {k w:Nat} {d:Int} (hk:k < l.length):(gZ l k d).getD w 0=if k=w then aJ (l.getD k 0+d) else l.getD w 0:=by
 unfold gZ
 rw [List.getD_eq_getElem?_getD,List.getElem?_set]
 by_cases e:k=w
 ·rw [if_pos e,if_pos e,if_pos hk];rfl
 ·rw [if_neg e,if_neg e,List.getD_eq_getElem?_getD]
theorem filter_one {α:Type} {p p':α→Bool}:∀ (l:List α) (i:Nat) (d:α),l[i]? =some d→(∀ j d',j≠i→l[j]? =some d'→p' d'=p d')→(l.filter p').length+(if p d=true then 1 else 0)=(l.filter p).length+(if p' d=true then 1 else 0)
 | [],i,d,h,_=>by simp at h
 | x :: r,0,d,h,hr=>by
   simp at h;subst h
   have e:r.filter p'=r.filter p:=by
    refine List.filter_congr (fun y hy=>?_)
    obtain ⟨j,hj⟩:=List.getElem?_of_mem hy
    exact hr (j+1) y (by omega) (by simpa using hj)
   rw [List.filter_cons,List.filter_cons,e]
   by_cases a:p x=true<;>by_cases b:p' x=true<;>simp [a,b]
 | x :: r,i+1,d,h,hr=>by
   have ih:=filter_one r i d (by simpa using h) (fun j d' hj hd=>hr (j+1) d' (by omega) (by simpa using hd))
   have e:=hr 0 x (by omega) rfl
   rw [List.filter_cons,List.filter_cons,e]
   by_cases a:p x=true
   ·rw [if_pos a,if_pos a,List.length_cons,List.length_cons];omega
   ·rw [if_neg a,if_neg a];exact ih
theorem CM {c:Campaign} {fl:List DeviceS} (hf:kR fl) {m:MarkS} {i j:Nat} {d d':DeviceS} (hi:fl[i]? =some d) (hj:fl[j]? =some d') (h:nN c d.Key m=true) (h':nN c d'.Key m=true):j=i:=by
 unfold nN at h h'
 simp only [Bool.and_eq_true,decide_eq_true_eq] at h h'
 exact vi hf.Mf j i d' d hj hi (by rw [← h'.1,h.1])
theorem Mp {c:Campaign} {fl:List DeviceS} (hf:kR fl) {dn:List MarkS} {m:MarkS} {i:Nat} {d:DeviceS} (hi:fl[i]? =some d) (h:nN c d.Key m=true) (w:Nat):sA c fl dn w m=(rR m&&(decide (nw c d.Key=w)&&CB (ov c dn d) m)):=by
 unfold sA qD
 congr 1
 rw [Bool.eq_iff_iff,List.any_eq_true]
 constructor
 ·rintro ⟨d',uC,e⟩
  obtain ⟨j,hj⟩:=List.getElem?_of_mem uC
  simp only [Bool.and_eq_true,decide_eq_true_eq] at e ⊢
  obtain rfl:=CM hf hi hj h e.2.1
  rw [hi] at hj
  obtain rfl:=Option.some.inj hj
  exact ⟨e.1,e.2.2⟩
 ·intro e
  simp only [Bool.and_eq_true,decide_eq_true_eq] at e
  exact ⟨d,List.mem_of_getElem? hi,by simp [e.1,e.2,h]⟩
theorem Mq {c:Campaign} {fl:List DeviceS} {dn:List MarkS} {m:MarkS} (h:∀ d∈fl,qD c dn m d=false) (w:Nat):sA c fl dn w m=false:=by
 unfold sA
 rw [Bool.and_eq_false_iff]
 right
 rw [List.any_eq_false]
 intro d hd
 rw [h d hd];simp
theorem Ip {c:Campaign} {fl:List DeviceS} {dn:List MarkS} {m:MarkS} (h:∀ w,sA c fl dn w m=false):yA c fl dn m=false:=by
 unfold yA
 rw [List.any_eq_false]
 intro w _
 rw [h w];simp
theorem EX {c:Campaign} {fl:List DeviceS} {s s':CS} {dn:List MarkS} {m:MarkS} (h:SX c fl s dn) (hS:SI c fl s' (dn++[m])) (hc:∀ d∈fl,ov c (dn++[m]) d=ov c dn d) (hn:∀ w,sA c fl dn w m=false)
 (e1:s'.open_=s.open_) (e2:s'.bl=s.bl) (e3:s'.aR=s.aR) (e4:s'.aT=s.aT):SX c fl s' (dn++[m]):=by
 refine ⟨hS,fun w hw=>?_,fun w hw=>?_,fun w hw=>?_,?_⟩
 ·rw [e1,h.PH w hw]
  unfold DN
  have e:fl.filter (Bj c (dn++[m]) w)=fl.filter (Bj c dn w):=List.filter_congr (fun d hd=>by unfold Bj;rw [hc d hd])
  rw [e]
 ·rw [e2,ny,hn w];exact h.en w hw
 ·rw [e3,ny,hn w];exact h.fa w hw
 ·rw [e4,qT,Ip hn,if_neg (by simp)];exact h.sp
theorem Mr (c:Campaign) (fl:List DeviceS) (w:Nat):∀ dn:List MarkS,(EL c fl w dn).length≤dn.length:=
 lg (by unfold EL;simp) (fun l x h=>by
  rw [ny];split
  ·simp;exact h
  ·simp;omega)
theorem EY (E:List MarkS):vQ E≤E.length:=List.length_filter_le _ _
theorem CN (E:List MarkS) (m:MarkS):vQ (E++[m])=vQ E+(if m.Kind=4 then 1 else 0):=by
 unfold vQ
 rw [List.filter_append,List.length_append,List.filter_cons]
 by_cases h:m.Kind=4
 ·rw [if_pos (by simpa using h),if_pos h];rfl
 ·rw [if_neg (by simpa using h),if_neg h];rfl
theorem Kl {c:Campaign} {fl:List DeviceS} {s:CS} {dn:List MarkS} (hc:jv c) (hf:kR fl) (hl:(fl.length:Int)≤100000) (hd:(dn.length:Int)≤100000) (h:SX c fl s dn) (m:MarkS):Ok (bN s m) (fun r=>SX c fl r (dn++[m])∧r.aL=s.aL∧r.cw=s.cw):=by
 obtain ⟨r,r1,r2⟩:=Kk hc hf h.toSI m
 rcases ER hc hf h.toSI m with ⟨e,hr⟩ | ⟨i,d,hi,hr,e⟩
 ·rw [e] at r1
  obtain rfl:=Option.some.inj r1
  have hq:∀ d∈fl,qD c dn m d=false:=fun d hd=>by unfold qD;rw [hr d hd];rfl
  exact ⟨s,e,EX h r2 (fun d hd=>by rw [sx,hr d hd];rfl) (Mq hq) rfl rfl rfl rfl,rfl,rfl⟩
 ·obtain ⟨k1,k2,k3,k4,k5,k6,k7,k8,k9⟩:=yz s i (nw c d.Key) (ov c dn d) m
  rw [e] at r1
  obtain rfl:=Option.some.inj r1
  refine ⟨_,e,?_,k5,k6⟩
  have hm:=List.mem_of_getElem? hi
  have hw:=(vg c hc d.Key (hf.key d hm)).2
  have Ms:=Mp (dn:=dn) hf hi hr
  have CX:∀ d',d'∈fl→ov c (dn++[m]) d'=if d'=d then vo (ov c dn d) m else ov c dn d':=by
   intro d' uC
   rw [sx]
   by_cases e:d'=d
   ·rw [if_pos e,e,if_pos hr]
   ·rw [if_neg e,if_neg]
    intro Jh
    obtain ⟨j,hj⟩:=List.getElem?_of_mem uC
    have ej:=CM hf hi hj hr Jh
    rw [ej,hi] at hj
    exact e (Option.some.inj hj).symm
  by_cases nV:CB (ov c dn d) m=true
  ·have DM:vo (ov c dn d) m=uq (ov c dn d) m:=by unfold vo;rw [if_pos nV]
   have ON:∀ w,w < c.aB.length→(A8 s.c_ s.open_ (nw c d.Key) (ov c dn d) (uq (ov c dn d) m)).getD w 0=(DN c fl (dn++[m]) w:Int):=by
    intro w D5
    have rk:=filter_one (p:=Bj c dn w) (p':=Bj c (dn++[m]) w) fl i d hi (fun j d' hj uC=>by
     unfold Bj
     rw [CX d' (List.mem_of_getElem? uC),if_neg]
     intro e;subst e
     exact hj (vi hf.Mf j i d' d' uC hi rfl))
    have hp:Bj c dn w d=(decide (nw c d.Key=w)&&!za c (ov c dn d)):=rfl
    have bU:Bj c (dn++[m]) w d=(decide (nw c d.Key=w)&&!za c (uq (ov c dn d) m)):=by unfold Bj;rw [CX d hm,if_pos rfl,DM]
    have Bt:DN c fl dn w≤fl.length:=List.length_filter_le _ _
    have MP:DN c fl (dn++[m]) w≤fl.length:=List.length_filter_le _ _
    have h0:=h.PH w D5
    unfold DN at Bt MP h0 ⊢
    have PI:nw c d.Key < s.open_.length:=by rw [h.open_];exact hw
    unfold A8
    rw [h.c_]
    by_cases K2:nw c d.Key=w
    ·rw [hp,bU,K2,decide_eq_true rfl,Bool.true_and,Bool.true_and] at rk
     rw [K2] at PI ⊢
     cases a:za c (ov c dn d)<;>cases b:za c (uq (ov c dn d) m)<;>simp only [a,b] at rk ⊢<;>simp at rk
     ·rw [if_neg (by simp),h0];omega
     ·rw [if_pos (by simp),if_pos trivial,na PI,if_pos rfl,h0,br (by omega) (by omega)];omega
     ·rw [if_pos (by simp),if_neg (by simp),na PI,if_pos rfl,h0,br (by omega) (by omega)];omega
     ·rw [if_neg (by simp),h0];omega
    ·rw [hp,bU,decide_eq_false K2,Bool.false_and,Bool.false_and] at rk
     simp at rk
     rw [rk]
     split
     ·split<;>rw [na PI,if_neg K2]<;>exact h0
     ·exact h0
   by_cases hk:m.Kind≠3∧m.Kind≠4
   ·have G5:rR m=false:=by unfold rR;simp [hk]
    have yP:∀ w,sA c fl dn w m=false:=fun w=>by rw [Ms w,G5];rfl
    have hS:mz s i (nw c d.Key) (ov c dn d) m={s with open_:=A8 s.c_ s.open_ (nw c d.Key) (ov c dn d) (uq (ov c dn d) m),kO:=s.kO.set i (vo (ov c dn d) m)}:=by
     unfold mz;rw [if_pos nV,if_pos hk]
    rw [hS] at r2 ⊢
    refine ⟨r2,ON,fun w D5=>?_,fun w D5=>?_,?_⟩
    ·rw [ny,yP w];exact h.en w D5
    ·rw [ny,yP w];exact h.fa w D5
    ·rw [qT,Ip yP,if_neg (by simp)];exact h.sp
   ·have G5:rR m=true:=by unfold rR;simp;omega
    have hS:mz s i (nw c d.Key) (ov c dn d) m={s with open_:=A8 s.c_ s.open_ (nw c d.Key) (ov c dn d) (uq (ov c dn d) m),bl:=gZ s.bl (nw c d.Key) 1,aR:=if m.Kind=4 then gZ s.aR (nw c d.Key) 1 else s.aR,aT:=F0 s.c_ (nw c d.Key) (gZ s.bl (nw c d.Key) 1) (if m.Kind=4 then gZ s.aR (nw c d.Key) 1 else s.aR) s.aT m,kO:=s.kO.set i (vo (ov c dn d) m)}:=by
     unfold mz;rw [if_pos nV,if_neg hk]
    have hh:∀ w,sA c fl dn w m=decide (nw c d.Key=w):=fun w=>by rw [Ms w,G5,nV];simp
    have uj:=Mr c fl (nw c d.Key) dn
    have Ux:=EY (EL c fl (nw c d.Key) dn)
    have hle:nw c d.Key < s.bl.length:=by rw [h.bl];exact hw
    have UE:nw c d.Key < s.aR.length:=by rw [h.aR];exact hw
    have pE:∀ w,w < c.aB.length→(gZ s.bl (nw c d.Key) 1).getD w 0=((EL c fl w (dn++[m])).length:Int):=by
     intro w D5
     rw [na hle,ny,hh w]
     by_cases e:nw c d.Key=w
     ·rw [if_pos e,decide_eq_true e,if_pos rfl,h.en _ hw,br (by omega) (by omega),← e];simp
     ·rw [if_neg e,decide_eq_false e,if_neg Bool.false_ne_true];exact h.en w D5
    have PF:∀ w,w < c.aB.length→(if m.Kind=4 then gZ s.aR (nw c d.Key) 1 else s.aR).getD w 0=(vQ (EL c fl w (dn++[m])):Int):=by
     intro w D5
     rw [ny,hh w]
     by_cases e:nw c d.Key=w
     ·rw [decide_eq_true e,if_pos rfl,CN]
      by_cases h4:m.Kind=4
      ·rw [if_pos h4,if_pos h4,na UE,if_pos e,h.fa _ hw,br (by omega) (by omega),← e];simp
      ·rw [if_neg h4,if_neg h4,h.fa w D5];simp
     ·rw [decide_eq_false e,if_neg Bool.false_ne_true]
      split
      ·rw [na UE,if_neg e];exact h.fa w D5
      ·exact h.fa w D5
    rw [hS] at r2 ⊢
    refine ⟨r2,ON,pE,PF,?_⟩
    simp only
    unfold F0
    rw [pE _ hw,PF _ hw,h.c_,h.sp,qT]
    have s0:yA c fl dn m=vR c (nw c d.Key) (EL c fl (nw c d.Key) (dn++[m])):=by
     unfold yA
     rw [Bool.eq_iff_iff,List.any_eq_true]
     constructor
     ·rintro ⟨w,_,e⟩
      rw [hh w] at e
      simp only [Bool.and_eq_true,decide_eq_true_eq] at e
      rw [e.1];exact e.2
     ·intro e
      exact ⟨nw c d.Key,List.mem_range.2 hw,by rw [hh];simp [e]⟩
    rw [s0]
    unfold vR
    simp only [Bool.and_eq_true,decide_eq_true_eq]
  ·have DM:vo (ov c dn d) m=ov c dn d:=by unfold vo;rw [if_neg nV]
   have hS:mz s i (nw c d.Key) (ov c dn d) m={s with kO:=s.kO.set i (vo (ov c dn d) m)}:=by unfold mz;rw [if_neg nV]
   have Ry:CB (ov c dn d) m=false:=by simpa using nV
   rw [hS] at r2 ⊢
   exact EX h r2 (fun d' uC=>by rw [CX d' uC,DM];split<;>simp_all) (fun w=>by rw [Ms w,Ry];simp) rfl rfl rfl rfl
theorem CO (c:Campaign) (fl:List DeviceS) (hc:jv c) (hf:kR fl) (hl:(fl.length:Int)≤100000):Ok (dh c fl) (fun s=>SX c fl s []∧s.aL=[]∧s.cw=c.At):=by
 refine (CJ c fl hc hf hl).mono ?_
 rintro s ⟨h0,h1,h2,h3,h4,h5,h6⟩
 have Mt:∀ w,(List.replicate c.aB.length (0:Int)).getD w 0=0:=by
  intro w
  rw [List.getD_eq_getElem?_getD,List.getElem?_replicate]
  split<;>rfl
 refine ⟨⟨h0,fun w hw=>?_,fun w hw=>?_,fun w hw=>?_,?_⟩,h4,h6⟩
 ·rw [h1]
  have key:∀ l:List DeviceS,(∀ d∈l,lD d.Key=true)→(l.length:Int)≤100000→(l.foldl (sy c) (List.replicate c.aB.length 0)).getD w 0=((l.filter (Bj c [] w)).length:Int):=by
   refine lg (fun _ _=>Mt w) (fun l d ih hk hl=>?_)
   have ih:=ih (fun x hx=>hk x (List.mem_append_left _ hx)) (by simp at hl;omega)
   have Uz:((l.foldl (sy c) (List.replicate c.aB.length 0))).length=c.aB.length:=by rw [vj];simp
   have hle:=List.length_filter_le (Bj c [] w) l
   rw [List.foldl_append,List.filter_append,List.filter_cons]
   simp only [List.foldl_cons,List.foldl_nil]
   have hp:Bj c [] w d=(decide (nw c d.Key=w)&&!decide (d.bn=c.Target)):=by
    unfold Bj za
    rw [show ov c [] d=x0 d from rfl]
    unfold x0
    simp
   have Yp:=(vg c hc d.Key (hk d (by simp))).2
   rw [hp]
   simp at hl
   by_cases a:d.bn=c.Target
   ·rw [show sy c (l.foldl (sy c) (List.replicate c.aB.length 0)) d=l.foldl (sy c) (List.replicate c.aB.length 0) from if_pos (decide_eq_true a),ih];simp [a]
   ·rw [show sy c (l.foldl (sy c) (List.replicate c.aB.length 0)) d=gZ (l.foldl (sy c) (List.replicate c.aB.length 0)) (nw c d.Key) 1 from if_neg (by simpa using a),na (by rw [Uz];exact Yp)]
    by_cases b:nw c d.Key=w
    ·rw [if_pos b,b,ih,br (by omega) (by omega)];simp [a]
    ·rw [if_neg b,ih];simp [a,b]
  exact key fl hf.key hl
 ·rw [h2,Mt];rfl
 ·rw [h3,Mt];rfl
 ·rw [h5];rfl
noncomputable def FM (c:Campaign) (dn:List MarkS) (d:DeviceS):List MarkS:=(dn.filter (nN c d.Key)).foldl rQ []
theorem zU:∀ (ms A:List MarkS) (x:al),(x.ak.Kind,x.aI)=kH A→((ms.foldl vo x).ak.Kind,(ms.foldl vo x).aI)=kH (ms.foldl rQ A)
 | [],A,x,h=>h
 | m :: r,A,x,h=>by
   rw [List.foldl_cons,List.foldl_cons]
   refine zU r _ _ ?_
   have e:CB x m=Ih (kH A).1 (kH A).2 m:=by unfold CB;rw [← h]
   unfold vo rQ
   rw [e]
   split
   ·unfold kH;rw [List.getLast?_concat];rfl
   ·exact h
theorem Iq (c:Campaign) (dn:List MarkS) (d:DeviceS):((ov c dn d).ak.Kind,(ov c dn d).aI)=kH (FM c dn d):=zU _ [] (x0 d) rfl
theorem Km (c:Campaign) (dn:List MarkS) (m:MarkS) (d:DeviceS):FM c (dn++[m]) d=if qD c dn m d=true then FM c dn d++[m] else FM c dn d:=by
 have hl:=Iq c dn d
 have e:CB (ov c dn d) m=Ih (kH (FM c dn d)).1 (kH (FM c dn d)).2 m:=by unfold CB;rw [← hl]
 unfold qD
 conv=>lhs;unfold FM
 rw [List.filter_append,List.filter_cons,List.foldl_append]
 by_cases h:nN c d.Key m=true
 ·rw [if_pos h,h,Bool.true_and,e];rfl
 ·rw [if_neg h,if_neg (by simp [h])];rfl
theorem Mu (c:Campaign) (dn:List MarkS) (d:DeviceS):(FM c dn d).length≤dn.length:=by
 have h1:=yy (dn.filter (nN c d.Key)) []
 have h2:=List.length_filter_le (nN c d.Key) dn
 unfold FM;simp at h1;omega
theorem Ir (c:Campaign) (k:bq) (l:List MarkS) (n:Nat) (at_:Int) (h1:∀ x∈l.take n,x.At≤at_) (h2:∀ x∈l.drop n,at_ < x.At):l.filter (rP c k at_)=(l.take n).filter (nN c k):=by
 conv=>lhs;rw [← List.take_append_drop n l,List.filter_append]
 have z:(l.drop n).filter (rP c k at_)=[]:=by
  rw [List.filter_eq_nil_iff]
  intro x hx
  have:=h2 x hx
  unfold rP
  simp only [Bool.and_eq_true,decide_eq_true_eq]
  omega
 rw [z,List.append_nil]
 refine List.filter_congr (fun x hx=>?_)
 have:=h1 x hx
 unfold rP nN
 rw [decide_eq_true this,Bool.and_true]
theorem Bc (c:Campaign) (d:DeviceS) (l:List MarkS) (n:Nat) (at_:Int) (h1:∀ x∈l.take n,x.At≤at_) (h2:∀ x∈l.drop n,at_ < x.At) (hl:(l.length:Int)≤3000) (hK:∀ q∈l,1≤q.Kind∧q.Kind≤5):mT c d.Key l at_=some (FM c (l.take n) d):=by
 rw [wB c d.Key l at_ (by omega) hK,Ir c d.Key l n at_ h1 h2];rfl
theorem CP (c:Campaign) (hc:jv c) (k:bq) (hk:lD k=true):qj c k=some (nw c k:Int):=by
 have h1:=sV hc.key
 have h2:=sV hk
 have OJ:=EO c k
 obtain ⟨j,j1,j2⟩:=Ke c hc (A6 c k) OJ.2 c.aB.length 0 0 (by omega) (by omega) OJ.1 (by rw [List.drop_zero,hc.sum];rfl)
 have e:eC c k=some j:=by
  unfold eC
  rw [Ig c k (by omega) (by omega)]
  exact j1
 have e2:=(vg c hc k hk).1
 rw [e] at e2
 rw [← Option.some.inj e2]
 unfold qj
 rw [Kd c k (by omega) (by omega)]
 simp only [Option.bind_some]
 rw [show A6 c k - 0=A6 c k by omega] at j2
 exact j2
theorem zV {α β:Type} (q:α→Bool) (g:α→List β) (m:β):∀ L:List α,L.Pairwise (fun a b=>¬ (q a=true∧q b=true))→(L.flatMap (fun d=>if q d=true then g d++[m] else g d)).Perm (L.flatMap g++(if L.any q=true then [m] else []))
 | [],_=>by simp
 | d :: r,h=>by
   rw [List.pairwise_cons] at h
   have ih:=zV q g m r h.2
   rw [List.flatMap_cons,List.flatMap_cons,List.any_cons]
   by_cases hd:q d=true
   ·have hn:r.any q=false:=by
     rw [List.any_eq_false]
     intro x hx hq
     exact h.1 x hx ⟨hd,hq⟩
    rw [hn,if_neg (by simp),List.append_nil] at ih
    rw [if_pos hd,hd,Bool.true_or,if_pos rfl,List.append_assoc,List.append_assoc]
    exact List.Perm.append_left _ (((List.perm_append_comm).trans (List.Perm.append_right _ ih)))
   ·rw [if_neg hd,show (q d||r.any q)=r.any q by simp [hd],List.append_assoc]
    exact List.Perm.append_left _ ih
noncomputable def Gl (c:Campaign) (fl:List DeviceS) (w:Nat):List DeviceS:=fl.filter (fun d=>decide (nw c d.Key=w))
theorem Kn {c:Campaign} {fl:List DeviceS} (hf:kR fl) (w:Nat):∀ dn:List MarkS,(((Gl c fl w).flatMap (FM c dn)).filter rR).Perm (EL c fl w dn):=by
 refine lg ?_ (fun dn m ih=>?_)
 ·have:(Gl c fl w).flatMap (FM c [])=[]:=by
   rw [List.flatMap_eq_nil_iff];intro x _;rfl
  rw [this];exact List.Perm.refl _
 ·have e:(FM c (dn++[m]))=fun d=>if qD c dn m d=true then FM c dn d++[m] else FM c dn d:=funext (fun d=>Km c dn m d)
  have hp:(Gl c fl w).Pairwise (fun a b=>¬ (qD c dn m a=true∧qD c dn m b=true)):=by
   have hn:=hf.Mf
   unfold List.Nodup at hn
   rw [List.pairwise_map] at hn
   unfold Gl
   refine (List.Pairwise.filter _ hn).imp (fun {a b} yI hq=>yI ?_)
   unfold qD nN at hq
   simp only [Bool.and_eq_true,decide_eq_true_eq] at hq
   rw [← hq.1.1.1,← hq.2.1.1]
  rw [e]
  refine ((zV (qD c dn m) (FM c dn) m _ hp).filter rR).trans ?_
  rw [List.filter_append,ny]
  have ha:(Gl c fl w).any (qD c dn m)=fl.any (fun d=>decide (nw c d.Key=w)&&qD c dn m d):=by unfold Gl;rw [List.any_filter]
  have hh:sA c fl dn w m=(rR m&&(Gl c fl w).any (qD c dn m)):=by rw [ha];rfl
  rw [hh]
  by_cases a:(Gl c fl w).any (qD c dn m)=true
  ·rw [if_pos a,a,Bool.and_true,List.filter_cons]
   split
   ·exact List.Perm.append_right _ ih
   ·rw [List.filter_nil,List.append_nil];exact ih
  ·rw [if_neg a,if_neg (by simp [a]),List.filter_nil,List.append_nil];exact ih
theorem Mv (c:Campaign) (fl:List DeviceS) (w:Nat):∀ dn:List MarkS,(EL c fl w dn).Sublist dn:=
 lg (List.Sublist.refl _) (fun l x h=>by
  rw [ny];split
  ·exact h.append (List.Sublist.refl _)
  ·exact h.trans (List.sublist_append_left _ _))
noncomputable def EZ (c:Campaign) (w:Nat) (s:List MarkS×Int) (m:MarkS):List MarkS×Int:=(s.1++[m],if s.2 < 0∧vR c w (s.1++[m])=true then m.At else s.2)
noncomputable def SW (c:Campaign) (w:Nat) (E:List MarkS):Int:=(E.foldl (EZ c w) ([],-1)).2
theorem Mw (c:Campaign) (w:Nat):∀ dn:List MarkS,(dn.foldl (EZ c w) ([],-1)).1=dn:=
 lg rfl (fun l x h=>by rw [List.foldl_append];simp only [List.foldl_cons,List.foldl_nil];unfold EZ at h ⊢;rw [h])
theorem Bd (c:Campaign) (w:Nat) (dn:List MarkS) (m:MarkS):SW c w (dn++[m])=if SW c w dn < 0∧vR c w (dn++[m])=true then m.At else SW c w dn:=by
 unfold SW
 rw [List.foldl_append]
 simp only [List.foldl_cons,List.foldl_nil]
 have e:∀ S:List MarkS×Int,(EZ c w S m).2=if S.2 < 0∧vR c w (S.1++[m])=true then m.At else S.2:=fun _=>rfl
 rw [e,Mw]
theorem Ko (c:Campaign) (w:Nat) (A:List MarkS) (h:0≤SW c w A):∀ l,SW c w (A++l)=SW c w A:=
 lg (by rw [List.append_nil]) (fun l x ih=>by rw [← List.append_assoc,Bd,ih,if_neg (by omega)])
theorem zW (c:Campaign) (w:Nat) (hw:w < c.aB.length) (Z:List MarkS) (hl:(Z.length:Int)≤100000) (hm:∀ x∈Z,0≤x.At):∀ (m n:Nat),n+m=Z.length→SW c w (Z.take n)=-1→pr c (w:Int) Z (vQ (Z.take n):Int) (n:Int)=some (SW c w Z)
 | 0,n,h,hs=>by
   rw [List.take_of_length_le (by omega)] at hs
   unfold pr
   rw [iter_eq,kD,if_neg (by simp only;omega),bb,hs]
 | m+1,n,h,hs=>by
   obtain ⟨q,hq,M9,hd⟩:=eE Z (i:=(n:Int)) (by omega) (by omega)
   rw [show ((n:Int)).toNat=n by omega,show ((n:Int)+1).toNat=n+1 by omega] at hd
   have hg:Z[n]? =some q:=by have:=(gK hq).2.2;rwa [Int.toNat_natCast] at this
   have ht:Z.take (n+1)=Z.take n++[q]:=by rw [List.take_add_one,hg];rfl
   have Gb:(Z.take n).length=n:=by rw [List.length_take];omega
   have Ux:=EY (Z.take n)
   have w1:aJ ((n:Int)+1)=((n+1:Nat):Int):=by rw [br]<;>omega
   have ih:=zW c w hw Z hl hm m (n+1) (by omega)
   have Gd:=Bd c w (Z.take n) q
   rw [← ht,hs] at Gd
   have OL:idx c.aB (w:Int)=some (o5 c w):=by
    refine pD ?_
    unfold o5
    rw [List.getD_eq_getElem?_getD,List.getElem?_eq_getElem hw];rfl
   have j2:kC c (w:Int) (n:Int) q (vQ (Z.take (n+1)):Int)=if vR c w (Z.take (n+1))=true then some (.inr q.At) else some (.inl ((vQ (Z.take (n+1)):Int),((n+1:Nat):Int))):=by
    unfold kC pq
    rw [OL,w1]
    simp only [Option.bind_some]
    have e:vR c w (Z.take (n+1))=(decide ((o5 c w).tv≤((n+1:Nat):Int))&&decide (aJ ((o5 c w).cO * ((n+1:Nat):Int)) < aJ ((vQ (Z.take (n+1)):Int) * 1000))):=by
     unfold vR
     rw [show (Z.take (n+1)).length=n+1 by rw [List.length_take];omega,Int.mul_comm (1000:Int)]
    rw [e]
    rfl
   have qX:kD c (w:Int) Z (vQ (Z.take n):Int) (n:Int)=kC c (w:Int) (n:Int) q (vQ (Z.take (n+1)):Int):=by
    rw [kD,if_pos (by omega),hq]
    simp only [Option.bind_some]
    rw [ht,CN]
    by_cases h4:q.Kind=4
    ·rw [if_pos h4,if_pos h4,br (by omega) (by omega)];rfl
    ·rw [if_neg h4,if_neg h4];rfl
   unfold pr at ih ⊢
   rw [iter_eq]
   simp only
   rw [qX,j2]
   by_cases hc:vR c w (Z.take (n+1))=true
   ·rw [if_pos hc]
    rw [if_pos ⟨by omega,hc⟩] at Gd
    have hk:=Ko c w (Z.take (n+1)) (by rw [Gd];exact hm q M9) (Z.drop (n+1))
    rw [List.take_append_drop] at hk
    rw [hk,Gd];rfl
   ·rw [if_neg hc]
    rw [if_neg (fun h=>hc h.2)] at Gd
    simp only [Option.bind_some,bB]
    exact ih Gd
theorem sorted_at {l:List MarkS} (h:l.Pairwise (fun a b=>mO a b < 0)):∀ a∈l,∀ b∈l,¬ mO a b < 0→¬ mO b a < 0→a=b:=by
 induction l with
 | nil=>intro a ha;cases ha
 | cons x r ih=>
   rw [List.pairwise_cons] at h
   intro a ha b hb h1 h2
   rcases List.mem_cons.1 ha with ea | M4<;>rcases List.mem_cons.1 hb with eb | w4
   ·rw [ea,eb]
   ·rw [ea] at h1;exact absurd (h.1 b w4) h1
   ·rw [eb] at h2;exact absurd (h.1 a M4) h2
   ·exact ih h.2 a M4 b w4 h1 h2
structure F3 (c:Campaign) (fl:List DeviceS) (l:List MarkS):Prop where
 c_:jv c
 f_:kR fl
 Rz:(fl.length:Int)≤500
 m_:∀ x∈l,Bb x
 s_:l.Pairwise (fun a b=>mO a b < 0)
 l_:(l.length:Int)≤3000
theorem F4 {c:Campaign} {fl:List DeviceS} {l:List MarkS} (H:F3 c fl l) (w:Nat) (hw:w < c.aB.length) (n:Nat) (X:List MarkS) (hX:X=(Gl c fl w).flatMap (FM c (l.take n))) (Na:(X.length:Int)≤100000):pt c (w:Int) X=some (SW c w (EL c fl w (l.take n))):=by
 have pG:=(Mv c fl w (l.take n)).trans (List.take_sublist n l)
 have kr:=Kn (c:=c) H.f_ w (l.take n)
 rw [← hX] at kr
 unfold pt
 have RA:di X (fun y0=>some (iD y0))=some (X.filter rR):=by
  have:=J0 ZM (fun y0=>some (iD y0)) iD X Na (fun x _=>rfl)
  rw [show di X (fun y0=>some (iD y0))=Ma ZM X (fun y0=>some (iD y0)) from rfl,this]
  congr 1
  refine List.filter_congr (fun x _=>?_)
  unfold iD mi rR
  rw [Bool.eq_iff_iff];simp
 rw [RA]
 simp only [Option.bind_some]
 have nA:∀ x∈X.filter rR,x∈l:=fun x hx=>pG.subset (kr.mem_iff.1 hx)
 have UF:∀ x∈X.filter rR,MB x:=fun x hx=>by have:=(H.m_ x (nA x hx)).Ic;unfold MB;omega
 have DY:=List.length_filter_le rR X
 obtain ⟨Z,z1,z2,z3⟩:=HV (fun y0 y1=>some (eM y0 y1)) mO (X.filter rR) (by omega) (fun a ha b hb=>by rw [vc (UF a ha) (UF b hb)]) (FW.ord _)
 have Rf:=z2.length_eq
 have hs:j7 (X.filter rR).length (fun r:List MarkS=>r.length) (ic (X.filter rR) (fun y0 y1=>some (eM y0 y1)))=some Z:=vL z1 Rf
 rw [hs]
 simp only [Option.bind_some]
 have Yq:Z=EL c fl w (l.take n):=by
  refine yn (z2.trans kr) z3 ?_ (fun a ha b hb=>sorted_at H.s_ a (nA a (z2.mem_iff.1 ha)) b (nA b (z2.mem_iff.1 hb)))
  unfold ED
  refine (H.s_.sublist pG).imp (fun {a b} yI Zx=>?_)
  have:=FW.neg a b
  omega
 rw [Yq]
 have MO:=pG.length_le
 have PJ:=H.l_
 exact zW c w hw (EL c fl w (l.take n)) (by omega) (fun x hx=>(H.m_ x (pG.subset hx)).Ic.1) _ 0 (Nat.zero_add _) rfl
theorem wC {c:Campaign} {fl:List DeviceS} {l:List MarkS} (H:F3 c fl l) (w:Nat) (hw:w < c.aB.length) (at_:Int) (n:Nat) (h1:∀ x∈l.take n,x.At≤at_) (h2:∀ x∈l.drop n,at_ < x.At) (hb:(fl.length * l.length:Int)≤100000):∀ (m k:Nat) (X:List MarkS),k+m=fl.length→X=(Gl c (fl.take k) w).flatMap (FM c (l.take n))→X.length≤k * l.length→pv c (w:Int) fl l at_ X (k:Int)=some (SW c w (EL c fl w (l.take n)))
 | 0,k,X,hk,hX,Na=>by
   have Fi:k=fl.length:=by omega
   rw [Fi,List.take_of_length_le (Nat.le_refl _)] at hX
   unfold pv
   rw [iter_eq,lM,if_neg (by simp only;omega),bb]
   refine F4 H w hw n X hX ?_
   rw [Fi] at Na
   have:((fl.length * l.length:Nat):Int)=(fl.length * l.length:Int):=by push_cast;rfl
   omega
 | m+1,k,X,hk,hX,Na=>by
   obtain ⟨d,hd,Rt,_⟩:=eE fl (i:=(k:Int)) (by omega) (by omega)
   have hg:fl[k]? =some d:=by have:=(gK hd).2.2;rwa [Int.toNat_natCast] at this
   have ht:fl.take (k+1)=fl.take k++[d]:=by rw [List.take_add_one,hg];rfl
   have Yr:=H.Rz
   have w1:aJ ((k:Int)+1)=((k+1:Nat):Int):=by rw [br]<;>omega
   have Zy:=Mu c (l.take n) d
   have Yt:(l.take n).length≤l.length:=by rw [List.length_take];omega
   have hmul:k * l.length≤fl.length * l.length:=Nat.mul_le_mul_right _ (by omega)
   have UG:((fl.length * l.length:Nat):Int)=(fl.length * l.length:Int):=by push_cast;rfl
   have PJ:=H.l_
   have ih:=fun X hX Na=>wC H w hw at_ n h1 h2 hb m (k+1) X (by omega) hX Na
   unfold pv at ih ⊢
   rw [iter_eq,lM,if_pos (by simp only;omega)]
   simp only
   rw [hd]
   simp only [Option.bind_some]
   rw [CP c H.c_ d.Key (H.f_.key d Rt)]
   simp only [Option.bind_some]
   unfold nJ
   rw [w1]
   have zk:(k+1) * l.length=k * l.length+l.length:=Nat.succ_mul _ _
   by_cases K2:nw c d.Key=w
   ·rw [if_pos (by rw [K2]),Bc c d l n at_ h1 h2 (by omega) (fun q hq=>(H.m_ q hq).kind)]
    simp only [Option.bind_some]
    rw [vH (by omega)]
    simp only [Option.bind_some,bB]
    refine ih _ ?_ (by rw [List.length_append,zk];omega)
    rw [ht,hX]
    unfold Gl
    rw [List.filter_append,List.filter_cons,if_pos (by simpa using K2),List.flatMap_append]
    simp
   ·rw [if_neg (by omega)]
    simp only [Option.bind_some,bB]
    refine ih _ ?_ (by rw [zk];omega)
    rw [ht,hX]
    unfold Gl
    rw [List.filter_append,List.filter_cons,if_neg (by simpa using K2)]
    simp
theorem F5 {c:Campaign} {fl:List DeviceS} {l:List MarkS} (H:F3 c fl l) (w:Nat) (hw:w < c.aB.length) (at_:Int) (n:Nat) (h1:∀ x∈l.take n,x.At≤at_) (h2:∀ x∈l.drop n,at_ < x.At) (hb:(fl.length * l.length:Int)≤100000):uN c (w:Int) fl l at_=some (SW c w (EL c fl w (l.take n))):=
 wC H w hw at_ n h1 h2 hb fl.length 0 [] (by omega) rfl (by simp)
def comb (r v:Int):Int:=if 0≤v∧(r < 0∨v < r) then v else r
theorem zX (f:Nat→Int):∀ N:Nat,((List.range N).foldl (fun r w=>comb r (f w)) (-1)=-1∧∀ w,w < N→f w < 0)∨(0≤(List.range N).foldl (fun r w=>comb r (f w)) (-1)∧(∃ w,w < N∧f w=(List.range N).foldl (fun r w=>comb r (f w)) (-1))∧∀ w,w < N→f w < 0∨(List.range N).foldl (fun r w=>comb r (f w)) (-1)≤f w)
 | 0=>.inl ⟨rfl,fun w h=>by omega⟩
 | N+1=>by
   rw [List.range_succ,List.foldl_append]
   simp only [List.foldl_cons,List.foldl_nil]
   rcases zX f N with ⟨h1,h2⟩ | ⟨h1,⟨w0,h2,h3⟩,h4⟩
   ·rw [h1]
    unfold comb
    by_cases hv:0≤f N
    ·rw [if_pos ⟨hv,.inl (by omega)⟩]
     refine .inr ⟨hv,⟨N,by omega,rfl⟩,fun w hw=>?_⟩
     rcases Nat.lt_or_ge w N with h | h
     ·exact .inl (h2 w h)
     ·obtain rfl:w=N:=by omega
      exact .inr (Int.le_refl _)
    ·rw [if_neg (fun h=>hv h.1)]
     refine .inl ⟨rfl,fun w hw=>?_⟩
     rcases Nat.lt_or_ge w N with h | h
     ·exact h2 w h
     ·obtain rfl:w=N:=by omega
      omega
   ·generalize (List.range N).foldl (fun r w=>comb r (f w)) (-1)=r at h1 h3 h4 ⊢
    right
    unfold comb
    by_cases hv:0≤f N∧(r < 0∨f N < r)
    ·rw [if_pos hv]
     refine ⟨hv.1,⟨N,by omega,rfl⟩,fun w hw=>?_⟩
     rcases Nat.lt_or_ge w N with h | h
     ·have:=h4 w h;omega
     ·obtain rfl:w=N:=by omega
      exact .inr (Int.le_refl _)
    ·rw [if_neg hv]
     refine ⟨h1,⟨w0,by omega,h3⟩,fun w hw=>?_⟩
     rcases Nat.lt_or_ge w N with h | h
     ·exact h4 w h
     ·obtain rfl:w=N:=by omega
      omega
theorem Kp (c:Campaign) (fl:List DeviceS):∀ dn:List MarkS,dn.Pairwise (fun a b=>a.At≤b.At)→(∀ x∈dn,0≤x.At)→
 ((SA c fl dn=-1∧∀ w,w < c.aB.length→SW c w (EL c fl w dn)=-1)∨(0≤SA c fl dn∧(∃ w,w < c.aB.length∧SW c w (EL c fl w dn)=SA c fl dn)∧∀ w,w < c.aB.length→SW c w (EL c fl w dn)=-1∨SA c fl dn≤SW c w (EL c fl w dn)))∧∀ w,w < c.aB.length→SW c w (EL c fl w dn)=-1∨∃ x∈dn,SW c w (EL c fl w dn)=x.At:=by
 refine lg (fun _ _=>⟨.inl ⟨rfl,fun _ _=>rfl⟩,fun _ _=>.inl rfl⟩) (fun dn m ih hp hn=>?_)
 rw [List.pairwise_append] at hp
 obtain ⟨i1,i2⟩:=ih hp.1 (fun x hx=>hn x (List.mem_append_left _ hx))
 have MQ:=hn m (by simp)
 have hle:∀ x∈dn,x.At≤m.At:=fun x hx=>hp.2.2 x hx m (by simp)
 have hf:∀ w,SW c w (EL c fl w (dn++[m]))=if sA c fl dn w m=true∧SW c w (EL c fl w dn) < 0∧vR c w (EL c fl w (dn++[m]))=true then m.At else SW c w (EL c fl w dn):=by
  intro w
  rw [ny]
  by_cases h:sA c fl dn w m=true
  ·rw [if_pos h,Bd]
   by_cases h2:SW c w (EL c fl w dn) < 0∧vR c w (EL c fl w dn++[m])=true
   ·rw [if_pos h2,if_pos ⟨h,h2⟩]
   ·rw [if_neg h2,if_neg (fun h'=>h2 h'.2)]
  ·rw [if_neg h,if_neg (fun h'=>h h'.1)]
 have s0:yA c fl dn m=true↔∃ w,w < c.aB.length∧sA c fl dn w m=true∧vR c w (EL c fl w (dn++[m]))=true:=by
  unfold yA
  rw [List.any_eq_true]
  constructor
  ·rintro ⟨w,hw,e⟩
   rw [Bool.and_eq_true] at e
   exact ⟨w,List.mem_range.1 hw,e⟩
  ·rintro ⟨w,hw,e⟩
   exact ⟨w,List.mem_range.2 hw,by rw [Bool.and_eq_true];exact e⟩
 refine ⟨?_,fun w hw=>?_⟩
 ·rcases i1 with ⟨h1,h2⟩ | ⟨h1,⟨w0,UH,h2⟩,h3⟩
  ·rw [qT,h1]
   by_cases hN:yA c fl dn m=true
   ·rw [if_pos ⟨by omega,hN⟩]
    obtain ⟨w,hw,a1,a2⟩:=s0.1 hN
    refine .inr ⟨MQ,⟨w,hw,by rw [hf,if_pos ⟨a1,by rw [h2 w hw];omega,a2⟩]⟩,fun v hv=>?_⟩
    rw [hf]
    split
    ·exact .inr (Int.le_refl _)
    ·exact .inl (h2 v hv)
   ·rw [if_neg (fun h=>hN h.2)]
    refine .inl ⟨rfl,fun w hw=>?_⟩
    rw [hf,if_neg]
    ·exact h2 w hw
    ·rintro ⟨a1,_,a2⟩
     exact hN (s0.2 ⟨w,hw,a1,a2⟩)
  ·rw [qT,if_neg (by omega)]
   refine .inr ⟨h1,⟨w0,UH,by rw [hf,if_neg (by omega)];exact h2⟩,fun v hv=>?_⟩
   rw [hf]
   split
   ·right
    have:=i2 w0 UH
    rcases this with e | ⟨x,hx,e⟩
    ·omega
    ·have:=hle x hx;omega
   ·exact h3 v hv
 ·rw [hf]
  split
  ·exact .inr ⟨m,by simp,rfl⟩
  ·rcases i2 w hw with e | ⟨x,hx,e⟩
   ·exact .inl e
   ·exact .inr ⟨x,List.mem_append_left _ hx,e⟩
theorem sB {c:Campaign} {fl:List DeviceS} {l:List MarkS} (H:F3 c fl l) (at_:Int) (n:Nat) (h1:∀ x∈l.take n,x.At≤at_) (h2:∀ x∈l.drop n,at_ < x.At) (hb:(fl.length * l.length:Int)≤100000):∀ (m k:Nat),k+m=c.aB.length→ml c fl l at_ ((List.range k).foldl (fun r w=>comb r (SW c w (EL c fl w (l.take n)))) (-1)) (k:Int)=some ((List.range c.aB.length).foldl (fun r w=>comb r (SW c w (EL c fl w (l.take n)))) (-1))
 | 0,k,hk=>by
   have Fi:k=c.aB.length:=by omega
   subst Fi
   unfold ml
   rw [iter_eq,jh,if_neg (by simp only;omega),bb]
 | m+1,k,hk=>by
   have yH:=H.c_.len
   have w1:aJ ((k:Int)+1)=((k+1:Nat):Int):=by rw [br]<;>omega
   have ih:=sB H at_ n h1 h2 hb m (k+1) (by omega)
   rw [List.range_succ,List.foldl_append] at ih
   simp only [List.foldl_cons,List.foldl_nil] at ih
   unfold ml at ih ⊢
   rw [iter_eq,jh,if_pos (by simp only;omega)]
   simp only
   rw [F5 H k (by omega) at_ n h1 h2 hb]
   simp only [Option.bind_some]
   generalize (List.range k).foldl (fun r w=>comb r (SW c w (EL c fl w (l.take n)))) (-1)=r at ih ⊢
   generalize SW c k (EL c fl k (l.take n))=v at ih ⊢
   unfold mj kE
   rw [w1]
   unfold comb at ih
   by_cases hv:0≤v∧(r < 0∨v < r)
   ·rw [if_pos hv] at ih
    rw [if_pos (by simpa using hv)]
    simp only [Option.bind_some,bB]
    exact ih
   ·rw [if_neg hv] at ih
    rw [if_neg (by simpa using hv)]
    simp only [Option.bind_some,bB]
    exact ih
theorem Be {c:Campaign} {fl:List DeviceS} {l:List MarkS} (H:F3 c fl l) (at_:Int) (n:Nat) (h1:∀ x∈l.take n,x.At≤at_) (h2:∀ x∈l.drop n,at_ < x.At) (hb:(fl.length * l.length:Int)≤100000):jm c fl l at_=some (SA c fl (l.take n)):=by
 have h:=sB H at_ n h1 h2 hb c.aB.length 0 (by omega)
 unfold jm
 refine Eq.trans h (congrArg some ?_)
 have pG:=List.take_sublist n l
 obtain ⟨a,b⟩:=Kp c fl (l.take n) ((H.s_.sublist pG).imp CL) (fun x hx=>(H.m_ x (pG.subset hx)).Ic.1)
 have CZ:=zX (fun w=>SW c w (EL c fl w (l.take n))) c.aB.length
 generalize (List.range c.aB.length).foldl (fun r w=>comb r (SW c w (EL c fl w (l.take n)))) (-1)=r at CZ ⊢
 rcases CZ with ⟨p1,p2⟩ | ⟨p1,⟨w,pw,p2⟩,p3⟩<;>rcases a with ⟨q1,q2⟩ | ⟨q1,⟨v,qv,q2⟩,q3⟩
 ·omega
 ·have:=p2 v qv;omega
 ·have:=q2 w pw;omega
 ·have:=p3 v qv;have:=q3 w pw;omega
theorem Is {c:Campaign} {dn:List MarkS} {d:DeviceS} (h:(ov c dn d).ak.Kind≠0):∃ x∈dn,nN c d.Key x=true:=by
 cases e:dn.filter (nN c d.Key) with
 | nil=>unfold ov at h;rw [e] at h;exact absurd rfl h
 | cons x r=>
   have:x∈dn.filter (nN c d.Key):=by rw [e];simp
   rw [List.mem_filter] at this
   exact ⟨x,this⟩
theorem OO (c:Campaign) (fl:List DeviceS):∀ dn:List MarkS,dn.Pairwise (fun a b=>mO a b < 0)→SA c fl dn=-1∨c.At < SA c fl dn:=by
 refine lg (fun _=>.inl rfl) (fun dn m ih hp=>?_)
 rw [List.pairwise_append] at hp
 have ih:=ih hp.1
 rw [qT]
 split
 ·rename_i h
  right
  have hn:=h.2
  unfold yA at hn
  rw [List.any_eq_true] at hn
  obtain ⟨w,_,hw⟩:=hn
  rw [Bool.and_eq_true] at hw
  have hh:=hw.1
  unfold sA at hh
  rw [Bool.and_eq_true,List.any_eq_true] at hh
  obtain ⟨he,d,hd,hq⟩:=hh
  unfold qD at hq
  simp only [Bool.and_eq_true,decide_eq_true_eq] at hq
  have OP:(ov c dn d).ak.Kind≠0:=by
   have ho:=hq.2.2
   unfold CB Ih at ho
   unfold rR at he
   simp only [Bool.or_eq_true,decide_eq_true_eq] at he
   rw [if_neg (by omega),if_neg (by omega)] at ho
   simp only [decide_eq_true_eq] at ho
   omega
  obtain ⟨x,hx,hr⟩:=Is OP
  have Hg:=hp.2.2 x hx m (by simp)
  unfold nN at hr hq
  simp only [Bool.and_eq_true,decide_eq_true_eq] at hr hq
  have Im:x.Device=m.Device:=by rw [hr.1,hq.2.1.1]
  unfold mO at Hg
  have iO:x.At < m.At:=by
   by_cases h0:qo x.At m.At≠0
   ·rw [if_pos h0] at Hg
    unfold qo at Hg
    split at Hg
    ·assumption
    ·split at Hg<;>omega
   ·rw [if_neg h0,Im,qp] at Hg
    omega
  omega
 ·exact ih
section
variable (c:Campaign) (fl:List DeviceS) (l:List MarkS)
noncomputable def od (w:Nat) (t:Int):Bool:=fl.all (fun d=>!(decide (nw c d.Key=w))||za c (vf c d l t))
def wU (from_ at_:Int):List Int:=from_ :: ((l.filter (fun m=>decide (from_≤m.At)&&decide (m.At≤at_))).map MarkS.At)
def hC (bs:List Int):Int:=bs.getLast?.getD 0
noncomputable def fw (at_:Int) (bs:List Int):Option Int:=
 if bs.length=0 then some c.At else if bs.length < c.aB.length then ((wU l (hC bs) at_).find? (od c fl l (bs.length - 1))).map (fun t=>t+(o5 c bs.length).oW) else none
inductive Gm (at_ S:Int):List Int→Prop
 | nil:Gm at_ S []
 | snoc {bs:List Int} {nx:Int} (h:Gm at_ S bs) (hl:bs.length < c.aB.length) (hn:fw c fl l at_ bs=some nx) (ha:nx≤at_) (hs:¬ (0≤S∧S≤nx)):Gm at_ S (bs++[nx])
def Mx (at_ S:Int) (bs:List Int):Prop:=∀ nx,fw c fl l at_ bs=some nx→at_ < nx∨(0≤S∧S≤nx)
end
theorem qU (bs:List Int) (x:Int):hC (bs++[x])=x:=by unfold hC;rw [List.getLast?_concat];rfl
theorem qy {c:Campaign} {k:Nat} (h:k < c.aB.length):o5 c k∈c.aB:=by
 unfold o5
 rw [List.getD_eq_getElem?_getD,List.getElem?_eq_getElem h]
 exact List.getElem_mem h
theorem yB {c:Campaign} {k:Nat} (h:k < c.aB.length):idx c.aB (k:Int)=some (o5 c k):=by
 refine pD ?_
 unfold o5
 rw [List.getD_eq_getElem?_getD,List.getElem?_eq_getElem h];rfl
theorem Iu {l:List MarkS} {f a t:Int} (h:t∈wU l f a):f≤t∧(t=f∨t≤a):=by
 unfold wU at h
 rcases List.mem_cons.1 h with e | h
 ·exact ⟨by omega,.inl e⟩
 ·obtain ⟨m,hm,rfl⟩:=List.mem_map.1 h
  have:=(List.mem_filter.1 hm).2
  simp only [Bool.and_eq_true,decide_eq_true_eq] at this
  exact ⟨this.1,.inr this.2⟩
theorem zY {c:Campaign} (hc:jv c):0 < c.aB.length:=by
 have:=hc.sum
 cases hw:c.aB with
 | nil=>rw [hw] at this;simp [qx] at this
 | cons x y=>simp
theorem yC {c:Campaign} {fl:List DeviceS} {l:List MarkS} (hc:jv c) {a:Int} {bs:List Int} {v:Int} (h:fw c fl l a bs=some v):bs.length < c.aB.length:=by
 have:=zY hc
 unfold fw at h
 split at h
 ·omega
 ·split at h
  ·assumption
  ·cases h
theorem xf {c:Campaign} {fl:List DeviceS} {l:List MarkS} (hc:jv c) {a:Int} {bs:List Int} {v:Int} (h:fw c fl l a bs=some v) (hb:0≤hC bs):0≤v∧(bs.length=0→v=c.At)∧(bs.length≠0→hC bs≤v):=by
 have hm:=hc.Ic
 have hlen:=yC hc h
 unfold fw at h
 split at h
 ·rename_i h0
  have:=Option.some.inj h
  exact ⟨by omega,fun _=>by omega,fun h'=>absurd h0 h'⟩
 ·rename_i h0
  obtain ⟨t,ht,e⟩:=Option.map_eq_some_iff.1 h
  have hw:=hc.wait _ (qy hlen)
  have:=Iu (List.mem_of_find?_eq_some ht)
  exact ⟨by omega,fun h'=>absurd h' h0,fun _=>by omega⟩
theorem yD {c:Campaign} {fl:List DeviceS} {l:List MarkS} (hc:jv c) {a S:Int} {bs:List Int} (h:Gm c fl l a S bs):bs.length≤c.aB.length∧0≤hC bs∧(bs.length≠0→hC bs≤a):=by
 induction h with
 | nil=>exact ⟨by simp,by unfold hC;simp,fun h=>absurd rfl h⟩
 | snoc h hl hn ha hs ih=>
   have:=xf hc hn ih.2.1
   refine ⟨by simp;omega,by rw [qU];exact this.1,fun _=>by rw [qU];exact ha⟩
theorem zZ {c:Campaign} {fl:List DeviceS} {l:List MarkS} {t t':Int} (ht:t≤t') (h:∀ x∈l,¬ (t < x.At∧x.At≤t')) (w:Nat):od c fl l w t=od c fl l w t':=by
 have e:∀ d,vf c d l t=vf c d l t':=by
  intro d
  unfold vf
  congr 1
  refine List.filter_congr (fun x hx=>?_)
  have:=h x hx
  unfold rP
  congr 2
  rw [decide_eq_decide];omega
 unfold od
 simp only [e]
theorem F6 {l:List MarkS} (hs:l.Pairwise (fun a b=>a.At≤b.At)) (q:Int→Bool) (f a a':Int) (ha:a≤a') (t:Int):((l.filter (fun m=>decide (f≤m.At)&&decide (m.At≤a))).map MarkS.At).find? q=some t→((l.filter (fun m=>decide (f≤m.At)&&decide (m.At≤a'))).map MarkS.At).find? q=some t:=by
 induction l with
 | nil=>intro h;exact h
 | cons x r ih=>
   rw [List.pairwise_cons] at hs
   have ih:=ih hs.2
   intro h
   rw [List.filter_cons] at h ⊢
   by_cases h1:f≤x.At
   ·by_cases h2:x.At≤a
    ·rw [if_pos (by simp;omega),List.map_cons,List.find?_cons] at h ⊢
     cases hq:q x.At with
     | true=>rw [hq] at h;exact h
     | false=>rw [hq] at h;exact ih h
    ·rw [if_neg (by simp;omega)] at h
     have:r.filter (fun m=>decide (f≤m.At)&&decide (m.At≤a))=[]:=by
      rw [List.filter_eq_nil_iff]
      intro y hy
      have:=hs.1 y hy
      simp only [Bool.and_eq_true,decide_eq_true_eq];omega
     rw [this] at h;cases h
   ·rw [if_neg (by simp;omega)] at h ⊢
    exact ih h
theorem z6 {c:Campaign} {fl:List DeviceS} {l:List MarkS} (hs:l.Pairwise (fun a b=>a.At≤b.At)) {a a':Int} (ha:a≤a') {bs:List Int} {v:Int} (h:fw c fl l a bs=some v):fw c fl l a' bs=some v:=by
 unfold fw at h ⊢
 split
 ·rename_i h0;rw [if_pos h0] at h;exact h
 ·rename_i h0
  rw [if_neg h0] at h
  split
  ·rename_i h1
   rw [if_pos h1] at h
   obtain ⟨t,ht,e⟩:=Option.map_eq_some_iff.1 h
   rw [Option.map_eq_some_iff]
   refine ⟨t,?_,e⟩
   unfold wU at ht ⊢
   rw [List.find?_cons] at ht ⊢
   cases hq:od c fl l (bs.length - 1) (hC bs) with
   | true=>rw [hq] at ht;exact ht
   | false=>rw [hq] at ht;exact F6 hs _ _ _ _ ha t ht
  ·rename_i h1;rw [if_neg h1] at h;cases h
def CQ (T S0 S1:Int):Prop:=(S0 < 0∧(S1 < 0∨T < S1))∨(0≤S0∧S1=S0)
theorem Iv {c:Campaign} {fl:List DeviceS} {l:List MarkS} (hs:l.Pairwise (fun a b=>a.At≤b.At)) {a a' S0 S1:Int} (ha:a≤a') (hS:CQ a S0 S1) {bs:List Int} (h:Gm c fl l a S0 bs):Gm c fl l a' S1 bs:=by
 induction h with
 | nil=>exact .nil
 | snoc h hl hn hx hb ih=>
   refine .snoc ih hl (z6 hs ha hn) (by omega) ?_
   unfold CQ at hS
   omega
structure K3 (c:Campaign) (fl:List DeviceS) (l:List MarkS) (T S:Int) (bs:List Int) (nx:Int):Prop where
 r:Gm c fl l T S bs
 n:nx=(fw c fl l T bs).getD (-1)
 f:Mx c fl l T S bs
theorem OQ {l:List MarkS} {f a a' t:Int} (h:t∈wU l f a'):t∈wU l f a∨(∃ x∈l,x.At=t∧a < t∧t≤a'):=by
 unfold wU at h ⊢
 rcases List.mem_cons.1 h with e | h
 ·exact .inl (by rw [e];exact List.mem_cons_self)
 ·obtain ⟨m,hm,rfl⟩:=List.mem_map.1 h
  have GL:=List.mem_filter.1 hm
  have:=GL.2
  simp only [Bool.and_eq_true,decide_eq_true_eq] at this
  by_cases hx:m.At≤a
  ·refine .inl (List.mem_cons_of_mem _ (List.mem_map.2 ⟨m,List.mem_filter.2 ⟨GL.1,by simp;omega⟩,rfl⟩))
  ·exact .inr ⟨m,GL.1,rfl,by omega,this.2⟩
theorem Kq {l:List MarkS} (f a:Int) (hf:f≤a):∃ t∈wU l f a,t≤a∧∀ x∈l,¬ (t < x.At∧x.At≤a):=by
 induction l with
 | nil=>exact ⟨f,by unfold wU;simp,hf,by simp⟩
 | cons x r ih=>
   obtain ⟨t,t1,t2,t3⟩:=ih
   have pG:t∈wU (x :: r) f a:=by
    unfold wU at t1 ⊢
    rcases List.mem_cons.1 t1 with e | h
    ·rw [e];exact List.mem_cons_self
    ·refine List.mem_cons_of_mem _ ?_
     obtain ⟨m,hm,e⟩:=List.mem_map.1 h
     have GL:=List.mem_filter.1 hm
     exact List.mem_map.2 ⟨m,List.mem_filter.2 ⟨List.mem_cons_of_mem _ GL.1,GL.2⟩,e⟩
   by_cases hx:t < x.At∧x.At≤a
   ·have H3:=(Iu t1).1
    refine ⟨x.At,?_,hx.2,fun y hy=>?_⟩
    ·unfold wU
     refine List.mem_cons_of_mem _ (List.mem_map.2 ⟨x,List.mem_filter.2 ⟨List.mem_cons_self,by simp;omega⟩,rfl⟩)
    ·rcases List.mem_cons.1 hy with rfl | hy
     ·omega
     ·have:=t3 y hy;omega
   ·refine ⟨t,pG,t2,fun y hy=>?_⟩
    rcases List.mem_cons.1 hy with rfl | hy
    ·exact hx
    ·exact t3 y hy
theorem CR {c:Campaign} {fl:List DeviceS} {l:List MarkS} {s:CS} {n:Nat} (h:SX c fl s (l.take n)) {T:Int} (h1:∀ x∈l.take n,x.At≤T) (h2:∀ x∈l.drop n,T < x.At) {w:Nat} (hw:w < c.aB.length):s.open_.getD w 0=0↔od c fl l w T=true:=by
 rw [h.PH w hw]
 unfold DN od
 rw [List.all_eq_true]
 constructor
 ·intro e d hd
  have e':(fl.filter (Bj c (l.take n) w))=[]:=List.length_eq_zero_iff.1 (by omega)
  rw [List.filter_eq_nil_iff] at e'
  have:=e' d hd
  unfold Bj at this
  rw [CK c d l n T h1 h2] at this
  cases a:decide (nw c d.Key=w)<;>cases b:za c (vf c d l T)<;>simp_all
 ·intro e
  have:(fl.filter (Bj c (l.take n) w))=[]:=by
   rw [List.filter_eq_nil_iff]
   intro d hd
   have:=e d hd
   unfold Bj
   rw [CK c d l n T h1 h2]
   cases a:decide (nw c d.Key=w)<;>cases b:za c (vf c d l T)<;>simp_all
  rw [this];rfl
section
variable {c:Campaign} {fl:List DeviceS} {l:List MarkS} (H:F3 c fl l) {s:CS} {n:Nat} (h:SX c fl s (l.take n)) {T T':Int} (hT:T≤T') (UI:T'≤345686399999) (PK:-1≤T)
 (h1:∀ x∈l.take n,x.At≤T') (h2:∀ x∈l.drop n,T' < x.At) (F7:(∀ x∈l,¬ (T < x.At∧x.At≤T'))∨T'=T+1) {S0:Int} (hS:CQ T S0 (SA c fl (l.take n)))
include H h hT UI PK h1 h2 F7 hS
def My (c:Campaign) (fl:List DeviceS) (l:List MarkS) (T T' S1:Int) (bs:List Int) (nx:Int) (x:List Int×Int):Prop:=
 Gm c fl l T' S1 x.1∧((x.1=bs∧x.2=nx)∨(x.1.length≠0∧T < hC x.1∧x.2=if x.1.length < c.aB.length∧od c fl l (x.1.length - 1) T'=true then hC x.1+(o5 c x.1.length).oW else -1))
theorem DO (hP:K3 c fl l T S0 s.aL s.cw) (l5:List Int) (n6:Int) (hI:My c fl l T T' (SA c fl (l.take n)) s.aL s.cw (l5,n6)):
 bE s T' l5 n6=bJ s T' l5 ((fw c fl l T' l5).getD (-1))∧∀ v,fw c fl l T' l5=some v→T < v∨(0≤SA c fl (l.take n)∧SA c fl (l.take n)≤v):=by
 have hc:=H.c_
 have K4:l.Pairwise (fun a b=>a.At≤b.At):=H.s_.imp CL
 obtain ⟨hR,hI⟩:=hI
 simp only at hR hI
 obtain ⟨r1,r2,r3⟩:=yD hc hR
 have K5:=hc.len
 have OR:∀ m:Int,bK s T' l5 m false=bJ s T' l5 m:=fun m=>by unfold bK;rw [if_neg (by simp)]
 have pos:∀ m:Int,0≤m→bE s T' l5 m=bJ s T' l5 m:=fun m hm=>by unfold bE;rw [if_neg (by omega),OR]
 have full:∀ m:Int,¬ l5.length < c.aB.length→bE s T' l5 m=bJ s T' l5 m:=by
  intro m hm
  unfold bE
  rw [h.c_]
  split
  ·split
   ·rw [if_neg (by omega),OR]
   ·exact OR m
  ·exact OR m
 have neg:l5.length≠0→l5.length < c.aB.length→bE s T' l5 (-1)=bJ s T' l5 (if od c fl l (l5.length - 1) T'=true then T'+(o5 c l5.length).oW else -1):=by
  intro k0 k1
  have w1:aJ ((l5.length:Int) - 1)=((l5.length - 1:Nat):Int):=by rw [br]<;>omega
  unfold bE
  rw [if_pos (by omega),if_pos (by omega),h.c_,if_pos (by omega),w1,lp (l:=s.open_) (by rw [h.open_];omega)]
  simp only [Option.bind_some]
  have OS:=CR h h1 h2 (w:=l5.length - 1) (by omega)
  by_cases ha:od c fl l (l5.length - 1) T'=true
  ·rw [if_pos (OS.2 ha),if_pos ha]
   have Ny:idx l5 ((l5.length - 1:Nat):Int)=some (hC l5):=by
    refine pD ?_
    unfold hC
    rw [List.getLast?_eq_getElem?]
    cases hx:l5[l5.length - 1]? with
    | none=>rw [List.getElem?_eq_none_iff] at hx;omega
    | some y=>rfl
   rw [Ny]
   simp only [Option.bind_some]
   have PL:=hc.wait _ (qy k1)
   unfold bK
   rw [if_pos (by simpa using r3 k0),h.c_,yB k1]
   simp only [Option.bind_some]
   rw [br (by omega) (by omega)]
  ·rw [if_neg (fun e=>ha (OS.1 e)),if_neg ha,OR]
 rcases hI with ⟨rfl,rfl⟩ | ⟨k0,k1,k2⟩
 ·
  cases hn:fw c fl l T s.aL with
  | some v=>
    have hv:=xf hc hn r2
    have Eb:=z6 K4 hT hn
    rw [Eb]
    refine ⟨?_,fun v' e=>?_⟩
    ·rw [hP.n,hn];exact pos v hv.1
    ·obtain rfl:=Option.some.inj e
     rcases hP.f v hn with a | a
     ·exact .inl a
     ·unfold CQ at hS;right;omega
  | none=>
    have Nb:s.cw=-1:=by rw [hP.n,hn];rfl
    have k0:s.aL.length≠0:=by
     intro e;unfold fw at hn;rw [if_pos e] at hn;cases hn
    rw [Nb]
    by_cases k1:s.aL.length < c.aB.length
    ·have OT:=(yD hc hP.r).2.2 k0
     unfold fw at hn
     rw [if_neg k0,if_pos k1,Option.map_eq_none_iff,List.find?_eq_none] at hn
     have s0:∀ t,t∈wU l (hC s.aL) T'→od c fl l (s.aL.length - 1) t=true→t=T'∧T < T':=by
      intro t ht hq
      rcases OQ (a:=T) ht with e | ⟨x,hx,e1,e2,e3⟩
      ·exact absurd hq (hn t e)
      ·rcases F7 with g | g
       ·exact absurd ⟨by omega,by omega⟩ (g x hx)
       ·exact ⟨by omega,by omega⟩
     have yE:fw c fl l T' s.aL=if od c fl l (s.aL.length - 1) T'=true then some (T'+(o5 c s.aL.length).oW) else none:=by
      unfold fw
      rw [if_neg k0,if_pos k1]
      by_cases ha:od c fl l (s.aL.length - 1) T'=true
      ·rw [if_pos ha]
       have hex:∃ x∈l,T < x.At∧x.At≤T':=by
        refine Classical.byContradiction (fun yP=>?_)
        have RB:∀ x∈l,¬ (T < x.At∧x.At≤T'):=fun x hx hh=>yP ⟨x,hx,hh⟩
        obtain ⟨t,t1,t2,t3⟩:=Kq (l:=l) (hC s.aL) T OT
        have:=zZ (c:=c) (fl:=fl) (l:=l) (t:=t) (t':=T') (by omega) (fun x hx hh=>by
         have a1:=t3 x hx
         have a2:=RB x hx
         omega) (s.aL.length - 1)
        exact hn t t1 (by rw [this];exact ha)
       obtain ⟨x,hx,x1,x2⟩:=hex
       have nA:T'∈wU l (hC s.aL) T':=by
        have:x.At=T':=by
         rcases F7 with g | g
         ·exact absurd ⟨x1,x2⟩ (g x hx)
         ·omega
        unfold wU
        exact List.mem_cons_of_mem _ (List.mem_map.2 ⟨x,List.mem_filter.2 ⟨hx,by simp;omega⟩,this⟩)
       cases hf:(wU l (hC s.aL) T').find? (od c fl l (s.aL.length - 1)) with
       | none=>rw [List.find?_eq_none] at hf;exact absurd ha (hf T' nA)
       | some t=>
         have:=s0 t (List.mem_of_find?_eq_some hf) (List.find?_some hf)
         rw [this.1];rfl
      ·rw [if_neg ha,Option.map_eq_none_iff,List.find?_eq_none]
       intro t ht hq
       have:=s0 t ht hq
       rw [this.1] at hq
       exact ha hq
     rw [yE,neg k0 k1]
     refine ⟨?_,fun v hv=>?_⟩
     ·split<;>rfl
     ·split at hv
      ·rename_i ha
       left
       have PL:=hc.wait _ (qy k1)
       have hv:=Option.some.inj hv
       have hf:fw c fl l T' s.aL=some (T'+(o5 c s.aL.length).oW):=by rw [yE,if_pos ha]
       unfold fw at hf
       rw [if_neg k0,if_pos k1] at hf
       obtain ⟨t,ht,_⟩:=Option.map_eq_some_iff.1 hf
       have:=s0 t (List.mem_of_find?_eq_some ht) (List.find?_some ht)
       omega
      ·cases hv
    ·have yE:fw c fl l T' s.aL=none:=by unfold fw;rw [if_neg k0,if_neg k1]
     rw [yE]
     exact ⟨full _ k1,fun v hv=>by cases hv⟩
 ·
  by_cases kw:l5.length < c.aB.length
  ·have hle:=r3 k0
   have PL:=hc.wait _ (qy kw)
   have UJ:od c fl l (l5.length - 1) (hC l5)=od c fl l (l5.length - 1) T':=by
    refine zZ hle (fun x hx hh=>?_) _
    rcases F7 with g | g
    ·exact g x hx ⟨by omega,hh.2⟩
    ·omega
   have yE:fw c fl l T' l5=if od c fl l (l5.length - 1) T'=true then some (hC l5+(o5 c l5.length).oW) else none:=by
    unfold fw
    rw [if_neg k0,if_pos kw]
    by_cases ha:od c fl l (l5.length - 1) T'=true
    ·rw [if_pos ha]
     unfold wU
     rw [List.find?_cons,UJ,ha];rfl
    ·rw [if_neg ha,Option.map_eq_none_iff,List.find?_eq_none]
     intro t ht hq
     rcases List.mem_cons.1 (show t∈hC l5 :: _ from ht) with e | hm
     ·rw [e,UJ] at hq;exact ha hq
     ·obtain ⟨m,hm,e⟩:=List.mem_map.1 hm
      have GL:=List.mem_filter.1 hm
      have:=GL.2
      simp only [Bool.and_eq_true,decide_eq_true_eq] at this
      rcases F7 with g | g
      ·exact g m GL.1 ⟨by omega,by omega⟩
      ·have:t=T':=by omega
       rw [this] at hq;exact ha hq
   rw [yE,k2]
   refine ⟨?_,fun v hv=>?_⟩
   ·by_cases ha:od c fl l (l5.length - 1) T'=true
    ·rw [if_pos ⟨kw,ha⟩,if_pos ha];exact pos _ (by omega)
    ·rw [if_neg (fun e=>ha e.2),if_neg ha,neg k0 kw,if_neg ha];rfl
   ·split at hv
    ·have:=Option.some.inj hv;left;omega
    ·cases hv
  ·have yE:fw c fl l T' l5=none:=by unfold fw;rw [if_neg k0,if_neg kw]
   rw [yE,k2,if_neg (fun e=>kw e.1)]
   exact ⟨full _ kw,fun v hv=>by cases hv⟩
theorem vS (hP:K3 c fl l T S0 s.aL s.cw):Ok (bX s T') (fun r=>zT r s∧SX c fl r (l.take n)∧K3 c fl l T' (SA c fl (l.take n)) r.aL r.cw):=by
 have hc:=H.c_
 have K4:l.Pairwise (fun a b=>a.At≤b.At):=H.s_.imp CL
 have K5:=hc.len
 have Yu:=hc.Ic
 unfold bX lI
 refine Ok.iter (fun x:List Int×Int=>c.aB.length - x.1.length) (My c fl l T T' (SA c fl (l.take n)) s.aL s.cw) ?_ _ ⟨Iv K4 hT hS hP.r,.inl ⟨rfl,rfl⟩⟩
 rintro ⟨l5,n6⟩ hI
 obtain ⟨e1,e2⟩:=DO H h hT UI PK h1 h2 F7 hS hP l5 n6 hI
 have hR:=hI.1
 simp only at hR ⊢
 obtain ⟨r1,r2,r3⟩:=yD hc hR
 rw [e1]
 generalize DP:(fw c fl l T' l5).getD (-1)=n10
 unfold bJ fW
 have K6:0≤n10→fw c fl l T' l5=some n10:=by
  intro h0
  cases hx:fw c fl l T' l5 with
  | none=>rw [hx] at DP;simp at DP;omega
  | some v=>rw [hx] at DP;simp at DP;rw [DP]
 by_cases DQ:((decide (n10 < (0:Int)))||((decide (T' < n10))||((decide ((0:Int) < (l5.length:Int)))&&((decide ((0:Int)≤s.aT))&&(decide (s.aT≤n10))))))=true
 ·rw [if_pos DQ]
  refine Ok.inr (Ok.ret ⟨⟨rfl,rfl,rfl,rfl⟩,⟨⟨h.c_,h.oK,h.dF,h.kO,h.open_,h.bl,h.aR,r1,fun h0=>yC hc (K6 h0)⟩,h.PH,h.en,h.fa,h.sp⟩,⟨hR,DP.symm,fun v hv=>?_⟩⟩)
  have Zz:n10=v:=by rw [← DP,hv];rfl
  have RX:=(xf hc hv r2).1
  rw [h.sp] at DQ
  simp only [Bool.or_eq_true,Bool.and_eq_true,decide_eq_true_eq] at DQ
  omega
 ·rw [if_neg DQ]
  rw [h.sp] at DQ
  simp only [Bool.or_eq_true,Bool.and_eq_true,decide_eq_true_eq,not_or] at DQ
  have Nb:=K6 (by omega)
  have iO:=yC hc Nb
  have C8:=OO c fl (l.take n) (H.s_.sublist (List.take_sublist n l))
  have UK:¬ (0≤SA c fl (l.take n)∧SA c fl (l.take n)≤n10):=by
   intro hh
   by_cases h0:l5.length=0
   ·have:=(xf hc Nb r2).2.1 h0
    omega
   ·exact DQ.2.2 ⟨by omega,hh⟩
  have Yv:Gm c fl l T' (SA c fl (l.take n)) (l5++[n10]):=.snoc hR iO Nb (by omega) UK
  have Yw:T < n10:=by
   rcases e2 n10 Nb with a | a
   ·exact a
   ·exact absurd a UK
  refine Ok.app (by simp;omega) ?_
  have w1:aJ ((l5.length:Int)+1)=((l5.length+1:Nat):Int):=by rw [br]<;>omega
  rw [w1]
  have j5:∀ n17:Int,n17=(if l5.length+1 < c.aB.length∧od c fl l l5.length T'=true then n10+(o5 c (l5.length+1)).oW else -1)→Ok (dp (l5++[n10]) n17) (Kb (fun x:List Int×Int=>c.aB.length - x.1.length) (My c fl l T T' (SA c fl (l.take n)) s.aL s.cw) (fun r=>zT r s∧SX c fl r (l.take n)∧K3 c fl l T' (SA c fl (l.take n)) r.aL r.cw) (l5,n6)):=by
   intro n17 RC
   unfold dp
   refine Ok.ret ⟨⟨Yv,.inr ⟨by simp,by simp only;rw [qU];exact Yw,?_⟩⟩,by simp;omega⟩
   simp only
   rw [qU,List.length_append,List.length_singleton,RC]
   rfl
  rw [h.c_]
  by_cases hk:l5.length+1 < c.aB.length
  ·rw [if_pos (by omega),lp (l:=s.open_) (by rw [h.open_];omega)]
   simp only [Option.bind_some]
   have OS:=CR h h1 h2 (w:=l5.length) iO
   unfold dq
   by_cases ha:od c fl l l5.length T'=true
   ·rw [if_pos (decide_eq_true (OS.2 ha)),w1,h.c_,yB hk]
    simp only [Option.bind_some]
    have PL:=hc.wait _ (qy hk)
    refine j5 _ ?_
    rw [if_pos ⟨hk,ha⟩,br (by omega) (by omega)]
   ·rw [if_neg (by rw [decide_eq_false (fun e=>ha (OS.1 e))];exact Bool.false_ne_true)]
    refine j5 _ ?_
    rw [if_neg (fun e=>ha e.2)]
  ·rw [if_neg (by omega)]
   unfold dq
   rw [if_neg (by simp)]
   refine j5 _ ?_
   rw [if_neg (fun e=>hk e.1)]
end
theorem yF (p:Int→Bool):∀ (xs:List Int) (i:Int),0≤i→(kf p xs i=-1∧xs.find? p=none)∨∃ (j:Nat) (x:Int),kf p xs i=i+j∧xs[j]? =some x∧xs.find? p=some x
 | [],i,_=>.inl ⟨rfl,rfl⟩
 | y :: r,i,h=>by
   rw [List.find?_cons]
   unfold kf
   cases hy:p y with
   | true=>rw [if_pos rfl];exact .inr ⟨0,y,by simp,rfl,rfl⟩
   | false=>
     rw [if_neg (by simp)]
     rcases yF p r (i+1) (by omega) with ⟨h1,h2⟩ | ⟨j,x,h1,h2,h3⟩
     ·exact .inl ⟨h1,h2⟩
     ·exact .inr ⟨j+1,x,by rw [h1];omega,by simpa using h2,h3⟩
theorem OU (X:List Int) (h:X.length≤5000) (hs:X.Pairwise (fun a b=>a≤b)):j7 X.length (fun r:List Int=>r.length) (iU X)=some X:=by
 have e:Fm X=X:=by
  unfold Fm
  exact List.mergeSort_of_pairwise (hs.imp (fun {a b} yI=>by simpa using yI))
 unfold iU BP
 rw [if_pos (by omega),e]
 unfold j7
 simp
theorem Iw {c:Campaign} {fl:List DeviceS} {l:List MarkS} (H:F3 c fl l) (d:DeviceS) (t:Int):x6 c d l t=some (za c (vf c d l t)):=by
 have hl:=H.l_
 unfold x6 sR
 rw [CC c d l t (by omega) (fun q hq=>(H.m_ q hq).kind)]
 simp only [Option.bind_some]
 unfold za
 cases decide ((vf c d l t).ak.Version=c.Target)<;>simp
theorem Mz {c:Campaign} {fl:List DeviceS} {l:List MarkS} (H:F3 c fl l) (k:Nat) (hk:0 < k∧k≤20) (t:Int):jT t fl c (k:Int) l=some (od c fl l (k - 1) t):=by
 have DY:=H.Rz
 have w1:aJ ((k:Int) - 1)=((k - 1:Nat):Int):=by rw [br]<;>omega
 have hf:∀ d∈fl,gH d c (k:Int) l t=some (decide (nw c d.Key=k - 1)&&!za c (vf c d l t)):=by
  intro d hd
  unfold gH gn
  rw [CP c H.c_ d.Key (H.f_.key d hd),w1]
  simp only [Option.bind_some]
  by_cases e:nw c d.Key=k - 1
  ·rw [if_pos (by omega),Iw H]
   simp [e]
  ·rw [if_neg (by omega)]
   simp [e]
 unfold jT
 rw [show c8 fl (fun y0=>gH y0 c (k:Int) l t)=some (fl.any (fun d=>decide (nw c d.Key=k - 1)&&!za c (vf c d l t))) from vJ fl _ _ hf (by omega)]
 simp only [Option.bind_some]
 unfold od
 rw [List.not_any_eq_all_not]
 simp only [Bool.not_and,Bool.not_not]
theorem yG (c:Campaign) (fl:List DeviceS) (l:List MarkS) (at_ S:Int) (bs:List Int) (k from_:Int) (hl:(l.length:Int)≤3000):∀ (m n:Nat) (X:List Int),n+m=l.length→X.length≤n+1→
 nt c fl l at_ S bs k from_ X (n:Int)=nq c fl l at_ S bs k (X++((l.drop n).filter (fun m=>decide (from_≤m.At)&&decide (m.At≤at_))).map MarkS.At)
 | 0,n,X,h,hX=>by
   unfold nt
   rw [iter_eq,jV,if_neg (by simp only;omega),bb,List.drop_of_length_le (by omega)]
   simp
 | m+1,n,X,h,hX=>by
   obtain ⟨q,hq,M9,hd⟩:=eE l (i:=(n:Int)) (by omega) (by omega)
   rw [show ((n:Int)).toNat=n by omega,show ((n:Int)+1).toNat=n+1 by omega] at hd
   have w1:aJ ((n:Int)+1)=((n+1:Nat):Int):=by rw [br]<;>omega
   have ih:=fun X hX=>yG c fl l at_ S bs k from_ hl m (n+1) X (by omega) hX
   unfold nt at ih ⊢
   rw [iter_eq,jV,if_pos (by simp only;omega),hd,List.filter_cons]
   simp only
   rw [hq]
   simp only [Option.bind_some]
   rw [ue]
   unfold kZ
   rw [w1]
   by_cases hr:(decide (from_≤q.At)&&decide (q.At≤at_))=true
   ·rw [if_pos hr,if_pos hr,vH (by simp;omega)]
    simp only [Option.bind_some,bB]
    rw [ih _ (by simp;omega),List.map_cons,List.append_assoc];rfl
   ·rw [if_neg hr,if_neg hr]
    simp only [Option.bind_some,bB]
    exact ih X (by omega)
theorem F8 {l:List MarkS} (hs:l.Pairwise (fun a b=>a.At≤b.At)) (f a:Int):(wU l f a).Pairwise (fun x y=>x≤y):=by
 unfold wU
 rw [List.pairwise_cons]
 refine ⟨fun y hy=>?_,?_⟩
 ·obtain ⟨m,hm,rfl⟩:=List.mem_map.1 hy
  have:=(List.mem_filter.1 hm).2
  simp only [Bool.and_eq_true,decide_eq_true_eq] at this
  exact this.1
 ·rw [List.pairwise_map]
  exact List.Pairwise.filter _ hs
theorem MA (l:List MarkS) (f a:Int):(wU l f a).length≤l.length+1:=by
 unfold wU
 rw [List.length_cons,List.length_map]
 have:=List.length_filter_le (fun m:MarkS=>decide (f≤m.At)&&decide (m.At≤a)) l
 omega
theorem Ix (c:Campaign) (at_ S:Int) (bs:List Int) (n15 n18:Int) (hb:bs.length≤1000):jU at_ S bs n15 n18=if at_ < n18∨(0≤S∧S≤n18) then some (.inr bs) else some (.inl (bs++[n18],n18,aJ (n15+1))):=by
 unfold jU np
 by_cases h:at_ < n18∨(0≤S∧S≤n18)
 ·rw [if_pos h,if_pos (by simpa using h)];rfl
 ·rw [if_neg h,if_neg (by simpa using h),vH (by simp;omega)];rfl
theorem CT {c:Campaign} {fl:List DeviceS} {l:List MarkS} (H:F3 c fl l) {at_ S:Int} (nQ:at_≤345686399999) {bs:List Int} (hR:Gm c fl l at_ S bs) (n14:Int) (Yx:bs.length=0→n14=c.At):
 (∀ nx,fw c fl l at_ bs=some nx→¬ (at_ < nx∨(0≤S∧S≤nx))→gC c fl l at_ S bs n14 (bs.length:Int)=gC c fl l at_ S (bs++[nx]) nx ((bs++[nx]).length:Int))∧
 (Mx c fl l at_ S bs→gC c fl l at_ S bs n14 (bs.length:Int)=some bs):=by
 have hc:=H.c_
 have K5:=hc.len
 have PJ:=H.l_
 have K4:l.Pairwise (fun a b=>a.At≤b.At):=H.s_.imp CL
 obtain ⟨r1,r2,r3⟩:=yD hc hR
 have w1:∀ nx:Int,aJ ((bs.length:Int)+1)=((bs++[nx]).length:Int):=fun nx=>by rw [List.length_append,List.length_singleton,br]<;>omega
 have key:jW c fl l at_ S bs n14 (bs.length:Int)=match fw c fl l at_ bs with
  | none=>some (.inr bs)
  | some nx=>if at_ < nx∨(0≤S∧S≤nx) then some (.inr bs) else some (.inl (bs++[nx],nx,aJ ((bs.length:Int)+1))):=by
  unfold jW
  by_cases k1:bs.length < c.aB.length
  ·rw [if_pos (by omega)]
   by_cases k0:bs.length=0
   ·rw [if_neg (by omega),Ix c at_ S bs _ _ (by omega),Yx k0]
    unfold fw
    rw [if_pos k0]
   ·have hle:=r3 k0
    have wm:aJ ((bs.length:Int) - 1)=((bs.length - 1:Nat):Int):=by rw [br]<;>omega
    have Ny:idx bs ((bs.length - 1:Nat):Int)=some (hC bs):=by
     refine pD ?_
     unfold hC
     rw [List.getLast?_eq_getElem?]
     cases hx:bs[bs.length - 1]? with
     | none=>rw [List.getElem?_eq_none_iff] at hx;omega
     | some y=>rfl
    rw [if_pos (by omega),wm,Ny]
    simp only [Option.bind_some]
    have ht:=yG c fl l at_ S bs (bs.length:Int) (hC bs) PJ l.length 0 [hC bs] (by omega) (by simp)
    rw [List.drop_zero] at ht
    rw [show (([hC bs]:List Int)++(l.filter (fun m=>decide (hC bs≤m.At)&&decide (m.At≤at_))).map MarkS.At)=wU l (hC bs) at_ from rfl] at ht
    refine Eq.trans ht ?_
    have NA:=MA l (hC bs) at_
    unfold nq
    rw [OU _ (by omega) (F8 K4 _ _)]
    simp only [Option.bind_some]
    rw [show fK (wU l (hC bs) at_) (fun y0=>jT y0 fl c (bs.length:Int) l)=some (kf (od c fl l (bs.length - 1)) (wU l (hC bs) at_) 0) from pN _ _ _ (fun t _=>Mz H bs.length ⟨by omega,by omega⟩ t) (by omega)]
    simp only [Option.bind_some]
    unfold fw
    rw [if_neg k0,if_pos k1]
    rcases yF (od c fl l (bs.length - 1)) (wU l (hC bs) at_) 0 (by omega) with ⟨f1,f2⟩ | ⟨j,t,f1,f2,f3⟩
    ·rw [f1,f2,if_pos (by omega)];rfl
    ·rw [f1,f3,if_neg (by omega),Int.zero_add,pD f2,yB k1]
     simp only [Option.bind_some,Option.map_some]
     have PL:=hc.wait _ (qy k1)
     have ZA:=Iu (List.mem_of_find?_eq_some f3)
     rw [br (by omega) (by omega),Ix c at_ S bs _ _ (by omega)]
  ·rw [if_neg (by omega)]
   have:fw c fl l at_ bs=none:=by
    unfold fw
    have:=zY hc
    rw [if_neg (by omega),if_neg k1]
   rw [this];rfl
 refine ⟨fun nx hn hb=>?_,fun hF=>?_⟩
 ·rw [hn] at key
  simp only at key
  rw [if_neg hb] at key
  unfold gC
  conv=>lhs;rw [iter_eq]
  simp only
  rw [key]
  simp only [Option.bind_some,bB]
  rw [w1 nx]
 ·unfold gC
  rw [iter_eq]
  simp only
  rw [key]
  cases hn:fw c fl l at_ bs with
  | none=>rfl
  | some nx=>simp only;rw [if_pos (hF nx hn)];rfl
theorem F9 {c:Campaign} {fl:List DeviceS} {l:List MarkS} (H:F3 c fl l) {at_ S:Int} (nQ:at_≤345686399999) {bs:List Int} (hR:Gm c fl l at_ S bs):∃ n14,(bs.length=0→n14=c.At)∧gC c fl l at_ S [] c.At 0=gC c fl l at_ S bs n14 (bs.length:Int):=by
 induction hR with
 | nil=>exact ⟨c.At,fun _=>rfl,rfl⟩
 | snoc h hl hn ha hs ih=>
   obtain ⟨n14,i1,i2⟩:=ih
   rename_i bs nx
   refine ⟨nx,fun h=>by simp at h,?_⟩
   rw [i2]
   exact (CT H nQ h n14 i1).1 nx hn (by omega)
theorem CU {c:Campaign} {fl:List DeviceS} {l:List MarkS} (H:F3 c fl l) {at_ S:Int} (nQ:at_≤345686399999) (hS:jm c fl l at_=some S) {bs:List Int} (hR:Gm c fl l at_ S bs) (hF:Mx c fl l at_ S bs):mV c fl l at_=some bs:=by
 unfold mV
 rw [hS]
 simp only [Option.bind_some]
 obtain ⟨n14,i1,i2⟩:=F9 H nQ hR
 rw [i2]
 exact (CT H nQ hR n14 i1).2 hF
theorem Kr {c:Campaign} {fl:List DeviceS} {l:List MarkS} (H:F3 c fl l) (at_:Int) (ha:0≤at_∧at_≤345686399999):∃ v r n,dh c fl=some v∧dD ⟨c,v.oK,v.dF,v.open_,v.bl,v.aR,v.aL,v.aT,v.cw,v.kO⟩ l at_=some r∧
 r.aT=SA c fl (l.take n)∧(∀ x∈l.take n,x.At≤at_)∧(∀ x∈l.drop n,at_ < x.At)∧K3 c fl l at_ (SA c fl (l.take n)) r.aL r.cw:=by
 have hc:=H.c_
 have hf:=H.f_
 have DY:=H.Rz
 have PJ:=H.l_
 have K4:l.Pairwise (fun a b=>a.At≤b.At):=H.s_.imp CL
 have Yu:=hc.Ic
 obtain ⟨v,v1,v2,v3,v4⟩:=CO c fl hc hf (by omega)
 have GH:∀ (n:Nat) (x:MarkS),l[n]? =some x→∀ y∈l.drop n,x.At≤y.At:=by
  intro n x hx y hy
  have hd:l.drop n=x :: l.drop (n+1):=by
   have hn:=(List.getElem?_eq_some_iff.1 hx)
   rw [List.drop_eq_getElem_cons hn.1,hn.2]
  have hp:=List.Pairwise.drop (i:=n) K4
  rw [hd,List.pairwise_cons] at hp
  rw [hd] at hy
  rcases List.mem_cons.1 hy with rfl | hy
  ·exact Int.le_refl _
  ·exact hp.1 y hy
 have K7:∀ (n:Nat) (T T':Int),(∀ x∈l.take n,x.At≤T)→(∀ x∈l.drop n,T' < x.At)→∀ x∈l,¬ (T < x.At∧x.At≤T'):=by
  intro n T T' g1 g2 x hx hh
  rw [← List.take_append_drop n l] at hx
  rcases List.mem_append.1 hx with hx | hx
  ·have:=g1 x hx;omega
  ·have:=g2 x hx;omega
 have Iy:∀ (T S:Int),CQ T S S:=fun T S=>by unfold CQ;omega
 have key:=F1 c v l at_ (by omega) (fun x hx=>(H.m_ x hx).Ic) K4
  (fun s n T=>SX c fl s (l.take n)∧(∀ x∈l.take n,x.At≤T)∧(∀ x∈l.drop n,T < x.At)∧K3 c fl l T (SA c fl (l.take n)) s.aL s.cw∧-1≤T)
  (fun s n now=>SX c fl s (l.take n)∧(∀ x∈l.take n,x.At≤now)∧(∃ S0,CQ (now - 1) S0 (SA c fl (l.take n))∧K3 c fl l (now - 1) S0 s.aL s.cw)∧0≤now)
  (fun r n=>r.aT=SA c fl (l.take n)∧(∀ x∈l.take n,x.At≤at_)∧(∀ x∈l.drop n,at_ < x.At)∧K3 c fl l at_ (SA c fl (l.take n)) r.aL r.cw)
  v2.c_ ?_ ?_ ?_ ?_ (-1) ⟨by rw [List.take_zero];exact v2,by simp,fun x hx=>by have:=(H.m_ x (List.mem_of_mem_drop hx)).Ic;omega,?_,by omega⟩ ⟨by omega,fun x hx=>by have:=(H.m_ x hx).Ic;omega⟩
 ·obtain ⟨r,r1,n,_,r2⟩:=key
  refine ⟨v,r,n,v1,?_,r2⟩
  rw [← v2.c_]
  exact r1
 ·
  rintro s n T x _ ⟨p1,p2,p3,p4,p5⟩ hx hT ZB
  have Yy:=(H.m_ x (List.mem_of_getElem? hx)).Ic
  have C8:∀ y∈l.drop n,x.At - 1 < y.At:=fun y hy=>by have:=GH n x hx y hy;omega
  refine (vS H p1 (T:=T) (T':=x.At - 1) (by omega) (by omega) p5 (fun y hy=>by have:=p2 y hy;omega) C8 (.inl (K7 n T (x.At - 1) p2 C8)) (Iy _ _) p4).mono (fun r hr=>⟨hr.1,hr.2.1,fun y hy=>by have:=p2 y hy;omega,⟨_,Iy _ _,hr.2.2⟩,Yy.1⟩)
 ·
  rintro s n x now _ ⟨p1,p2,⟨S0,p3,p4⟩,p5⟩ hx he Yz
  have ht:l.take (n+1)=l.take n++[x]:=by rw [List.take_add_one,hx];rfl
  have Gb:(l.take n).length≤l.length:=by rw [List.length_take];omega
  refine (Kl hc hf (by omega) (by omega) p1 x).mono (fun r hr=>?_)
  refine ⟨hr.1.c_,by rw [ht];exact hr.1,fun y hy=>?_,⟨S0,?_,by rw [hr.2.1,hr.2.2];exact p4⟩,p5⟩
  ·rw [ht] at hy
   rcases List.mem_append.1 hy with hy | hy
   ·exact p2 y hy
   ·rw [List.mem_singleton] at hy;subst hy;omega
  ·rw [ht,qT]
   unfold CQ at p3 ⊢
   split<;>omega
 ·
  rintro s n now _ ⟨p1,p2,⟨S0,p3,p4⟩,p5⟩ hd Yz
  exact (vS H p1 (T:=now - 1) (T':=now) (by omega) (by omega) (by omega) p2 hd (.inr (by omega)) p3 p4).mono (fun r hr=>⟨hr.1,hr.2.1,p2,hd,hr.2.2,by omega⟩)
 ·
  rintro s n T _ ⟨p1,p2,p3,p4,p5⟩ hd PK
  exact (vS H p1 (T:=T) (T':=at_) PK ha.2 p5 (fun y hy=>by have:=p2 y hy;omega) hd (.inl (K7 n T at_ p2 hd)) (Iy _ _) p4).mono (fun r hr=>⟨hr.1,hr.2.1.sp,fun y hy=>by have:=p2 y hy;omega,hd,hr.2.2⟩)
 ·
  rw [List.take_zero,v3,v4]
  refine ⟨.nil,?_,fun nx hn=>?_⟩
  ·unfold fw;rw [if_pos List.length_nil];rfl
  ·unfold fw at hn
   rw [if_pos List.length_nil] at hn
   have:=Option.some.inj hn
   left;omega
theorem OV {c:Campaign} {r:Int} (hR:r=0→jv c) {fl:List DeviceS} {l:List MarkS} {at_:Int} (h:wT r fl l at_=0):F3 c fl l∧0≤at_∧at_≤345686399999:=by
 have h0:=h
 obtain ⟨g1,g2,g3,g4⟩:=OM h
 obtain ⟨hf,DY⟩:=Ml g2
 obtain ⟨m1,m2,m3⟩:=Mm g3
 refine ⟨⟨hR g1,hf,DY,m1,m2,m3⟩,g4,?_⟩
 unfold wT at h0
 simp only [EC,g1,g2,g3] at h0
 unfold F2 at h0
 cases hm:tj at_
 ·simp [hm] at h0
 ·unfold tj at hm
  simp only [Bool.and_eq_true,decide_eq_true_eq] at hm
  exact hm.2
theorem Iz {c:Campaign} {r:Int} (hr:bV c=some r) (hR:r=0→jv c) (fl:List DeviceS) (l:List MarkS) (at_:Int) (hb:(fl.length * l.length:Int)≤100000):
 (wT r fl l at_≠0→im c fl l at_=some ([],wT r fl l at_)∧gG c fl l at_=some (0,wT r fl l at_))∧
 (wT r fl l at_=0→∃ bs S,im c fl l at_=some (bs,0)∧gG c fl l at_=some (S,0)∧mV c fl l at_=some bs∧jm c fl l at_=some S∧bs.length≤20):=by
 unfold im gG
 rw [Io hr]
 simp only [Option.bind_some]
 refine ⟨fun h=>⟨by rw [if_pos h],by rw [if_pos h]⟩,fun h=>?_⟩
 obtain ⟨H,ha⟩:=OV hR h
 obtain ⟨v,s,n,v1,v2,v3,v4,v5,v6⟩:=Kr H at_ ha
 rw [if_neg (by simpa using h),if_neg (by simpa using h),v1]
 simp only [Option.bind_some]
 rw [v2]
 simp only [Option.bind_some]
 have hS:=Be H at_ n v4 v5 hb
 have hk:=(yD H.c_ v6.r).1
 have yH:=H.c_.len
 exact ⟨s.aL,s.aT,rfl,rfl,CU H ha.2 hS v6.r v6.f,by rw [v3];exact hS,by omega⟩
theorem vT (L:List Int):mn L=some true:=by
 have key:Ok (mn L) (fun r=>r=true):=by
  unfold mn
  refine Ok.gen (DL (s:=⟨L,0⟩) (K:=1000) ⟨by simp,by simp⟩ (by omega)) (fun c s1 hc q1=>?_)
  refine Ok.gen (Kf q1 (by omega)) (fun fl s2 hf q2=>?_)
  refine Ok.gen (kG q2 (by omega) (by simp) (by simp)) (fun at_ s3 _ q3=>?_)
  refine Ok.gen (AZ q3 (by omega) (by omega) (by omega) (by omega)) (fun m s4 hm q4=>?_)
  dsimp only
  refine Ok.gen (Kg q4 (by omega) (by omega) hc (by omega)) (fun l s5 hl q5=>?_)
  have RD:l.length≤20:=by have:=hl.1;omega
  have UX:fl.length * l.length≤6 * 20:=Nat.mul_le_mul hf RD
  have hb:(fl.length * l.length:Int)≤100000:=by
   have:((fl.length * l.length:Nat):Int)=(fl.length * l.length:Int):=by push_cast;rfl
   omega
  dsimp only
  obtain ⟨r,r1,r2⟩:=y9 c
  obtain ⟨d1,d2⟩:=Iz r1 r2 fl l at_ hb
  by_cases h:wT r fl l at_=0
  ·obtain ⟨bs,S,e1,e2,e3,e4,e5⟩:=d2 h
   rw [e1,e2,ve,r1,tE,tD l hl.2]
   simp only [Option.bind_some]
   rw [EU]
   simp only [Option.bind_some]
   rw [if_neg (by simpa using h)]
   simp only [if_true]
   rw [e3]
   simp only [Option.bind_some]
   rw [show iE bs bs=some (decide (bs=bs)) from FH bs bs (by omega)]
   simp only [Option.bind_some,decide_true,if_true]
   rw [e4]
   simp only [Option.bind_some,if_true]
   rw [vb]
   exact Ok.ret rfl
  ·obtain ⟨e1,e2⟩:=d1 h
   rw [e1,e2,ve,r1,tE,tD l hl.2]
   simp only [Option.bind_some]
   rw [EU]
   simp only [Option.bind_some]
   rw [if_pos h]
   simp only [if_true,List.length_nil,Int.natCast_zero,vb,Option.bind_some]
   exact Ok.ret rfl
 obtain ⟨r,h1,rfl⟩:=key
 exact h1
end Go.Beacon
