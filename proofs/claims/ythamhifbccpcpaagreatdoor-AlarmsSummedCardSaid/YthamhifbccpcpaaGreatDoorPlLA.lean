/- Plain facts on what the functions compute. No program in sight. -/
import Derived.Test.YthamhifbccpcpaaGreatDoorAsuP
import Derived.Test.YthamhifbccpcpaaGreatDoorPlBA
set_option linter.unusedVariables false
set_option linter.unusedSimpArgs false
namespace Go.Beacon
open Go Go.Eng
abbrev wk:=ar
def sR (s:wk) (k:Int):Prop:=0≤s.at_∧s.at_+k≤4611686018427387904
theorem sR.less {s:wk} {k k':Int} (h:sR s k) (hk:k'≤k):sR s k':=⟨h.1,by have:=h.2;omega⟩
def r8 {α:Type} (m:Option (α×wk)) (k:Int) (P:α→Prop):Prop:=∃ v s',m=some (v,s')∧P v∧sR s' k
theorem r8.bind {α β:Type} {m:Option (α×wk)} {k k':Int} {P:α→Prop} {Q:β→Prop} {f:α×wk→Option (β×wk)} (h:r8 m k P) (hf:∀ v s',P v→sR s' k→r8 (f (v,s')) k' Q):r8 (m.bind f) k' Q:=by
 obtain ⟨v,s',rfl,h1,h2⟩:=h
 exact hf v s' h1 h2
theorem r8.ret {α:Type} {v:α} {s:wk} {k:Int} {P:α→Prop} (h1:P v) (h2:sR s k):r8 (some (v,s)) k P:=⟨v,s,rfl,h1,h2⟩
theorem A7 (x:Int) {n:Int} (h1:1≤n) (h2:n≤4611686018427387904):∃ v,Below x n=some v∧0≤v∧v < n:=by
 unfold Below uJ
 rw [if_neg (by omega),Q6 (by omega)]
 have a1:=Int.lt_tmod_of_pos x (show 0 < n by omega)
 have a2:=Int.tmod_lt_of_pos x (show 0 < n by omega)
 simp only [Option.bind_some]
 split
 ·exact ⟨_,rfl,by rw [aZ]<;>omega,by rw [aZ]<;>omega⟩
 ·exact ⟨_,rfl,by omega,by omega⟩
theorem xK {s:wk} {n k:Int} (hs:sR s (k+1)) (h1:1≤n) (h2:n≤4611686018427387904) (hk:0≤k):r8 (eM s n) k (fun v=>0≤v∧v < n):=by
 obtain ⟨a1,a2⟩:=hs
 have e1:aT (s.at_+1)=s.at_+1:=by rw [aZ]<;>omega
 have e2:aT (s.at_+1 - 1)=s.at_:=by rw [aZ]<;>omega
 unfold eM
 split
 ·obtain ⟨v,hv,h3,h4⟩:=A7 (aT (aT (s.at_+1) * 7919)) h1 h2
  rw [hv]
  exact r8.ret ⟨h3,h4⟩ ⟨by show 0≤aT (s.at_+1);omega,by show aT (s.at_+1)+k≤_;omega⟩
 ·rename_i hl
  have vI:(0:Int) < s.L.length:=by omega
  rw [e1,e2,Oz vI a1,Q7 (by omega)]
  simp only [Option.bind_some]
  obtain ⟨x,hx,_,_⟩:=fY s.L (i:=s.at_ % s.L.length) (Int.emod_nonneg _ (by omega)) (Int.emod_lt_of_pos _ vI)
  rw [hx]
  simp only [Option.bind_some]
  obtain ⟨u,hu,_,_⟩:=A7 x (n:=1073741824) (by omega) (by omega)
  rw [hu]
  simp only [Option.bind_some]
  obtain ⟨v,hv,h3,h4⟩:=A7 (aT (u+aT (aT (s.at_.tdiv s.L.length) * aT (7919+s.at_ % s.L.length)))) h1 h2
  rw [hv]
  exact r8.ret ⟨h3,h4⟩ ⟨by simp only;omega,by simp only;omega⟩
theorem Iw {s:wk} {l:List Int} {k:Int} (hs:sR s (k+1)) (h1:l≠[]) (h2:l.length≤1000) (hk:0≤k):r8 (cY s l) k (fun v=>v∈l):=by
 unfold cY
 have hl:0 < l.length:=List.length_pos_iff.2 h1
 refine r8.bind (xK hs (by omega) (by omega) hk) (fun v s' hv wj=>?_)
 obtain ⟨x,hx,hm,_⟩:=fY l hv.1 hv.2
 simp only [hx,Option.bind_some]
 exact r8.ret hm wj
theorem FO {s:wk} {a b k:Int} (hs:sR s (k+1)) (vM:a≤b) (ha:-1152921504606846976≤a) (hb:b≤1152921504606846976) (hk:0≤k):r8 (jf s a b) k (fun v=>a≤v∧v≤b):=by
 unfold jf
 have e1:aT (b - a)=b - a:=by rw [aZ]<;>omega
 have e2:aT (b - a+1)=b - a+1:=by rw [aZ]<;>omega
 rw [if_neg (by omega),e1,e2]
 refine r8.bind (xK hs (by omega) (by omega) hk) (fun v s' hv wj=>?_)
 refine r8.ret ?_ wj
 simp only
 rw [aZ]<;>omega
theorem Ix {s:wk} {n k:Int} (hs:sR s (k+1)) (h1:1≤n) (h2:n≤4611686018427387904) (hk:0≤k):r8 (jh s n) k (fun _=>True):=by
 unfold jh
 exact r8.bind (xK hs h1 h2 hk) (fun v s' hv wj=>r8.ret trivial wj)
theorem Iy {l:List Int} {v lo hi:Int} (h:v∈l) (hl:l.all (fun x=>decide (lo≤x∧x≤hi))=true):lo≤v∧v≤hi:=by
 rw [List.all_eq_true] at hl
 simpa using hl v h
theorem OD {s:wk} {l:List aI} {k:Int} (hs:sR s (k+1)) (h1:l≠[]) (h2:l.length≤1000) (hk:0≤k):r8 (jg s l) k (fun v=>v∈l):=by
 unfold jg
 have hl:0 < l.length:=List.length_pos_iff.2 h1
 refine r8.bind (xK hs (by omega) (by omega) hk) (fun v s' hv wj=>?_)
 obtain ⟨x,hx,hm,_⟩:=fY l hv.1 hv.2
 simp only [hx,Option.bind_some]
 exact r8.ret hm wj
theorem Rb {s:wk} {a b k:Int} (hs:sR s (k+2)) (vM:a≤b) (ha:-1099511627776≤a) (hb:b≤1099511627776) (hk:0≤k):r8 (o4 s a b) k (fun v=>-1099511627777≤v∧v≤1099511627777):=by
 unfold o4
 refine r8.bind (Ix (k:=k+1) (hs.less (by omega)) (by omega) (by omega) (by omega)) (fun v s' hv wj=>?_)
 simp only
 split
 ·refine r8.bind (Iw wj (by simp) (by simp) hk) (fun v s' hv wj=>r8.ret ?_ wj)
  have e1:aT (a - 1)=a - 1:=by rw [aZ]<;>omega
  have e2:aT (b+1)=b+1:=by rw [aZ]<;>omega
  rw [e1,e2] at hv
  simp only [List.mem_cons,List.not_mem_nil,or_false] at hv
  simp only;omega
 ·refine r8.bind (FO wj vM (by omega) (by omega) hk) (fun v s' hv wj=>r8.ret ?_ wj)
  simp only;omega
theorem DQ (n lo hi:Int):qU n lo hi=(decide (n < lo)||decide (hi < n)):=rfl
theorem yu (n lo hi:Int):zh n lo hi=(decide (lo≤n)&&decide (n≤hi)):=rfl
def OE (n:Nat):Bool:=(decide (97≤n)&&decide (n≤122))||(decide (48≤n)&&decide (n≤57))||decide (n=45)||decide (n=95)
def fu:aI→Bool
 | []=>false
 | c :: r=>decide ((c :: r).length≤40)&&(decide (97≤c.toNat)&&decide (c.toNat≤122))&&(c :: r).all (fun c=>OE c.toNat)
theorem sS (c:UInt8) (r:aI):fu (c :: r)=(decide ((c :: r).length≤40)&&(decide (97≤c.toNat)&&decide (c.toNat≤122))&&(c :: r).all (fun c=>OE c.toNat)):=rfl
theorem LQ (s:aI) (hl:s.length≤40):uL s 0=some (s.all (fun c=>OE c.toNat)):=by
 unfold uL
 rw [yo s (fun x:Int=>mj s x) (fun c=>if OE c.toNat=true then none else some false) true (by omega),A3]
 ·intro i c h0 h1 hc
  have hB:(if (97:Int)≤(c.toNat:Int) then if (c.toNat:Int)≤(122:Int) then !true else if (48:Int)≤(c.toNat:Int) then if (c.toNat:Int)≤(57:Int) then !true else if (c.toNat:Int)=(45:Int) then !true else decide (¬ ((c.toNat:Int)=(95:Int))) else if (c.toNat:Int)=(45:Int) then !true else decide (¬ ((c.toNat:Int)=(95:Int))) else if (48:Int)≤(c.toNat:Int) then if (c.toNat:Int)≤(57:Int) then !true else if (c.toNat:Int)=(45:Int) then !true else decide (¬ ((c.toNat:Int)=(95:Int))) else if (c.toNat:Int)=(45:Int) then !true else decide (¬ ((c.toNat:Int)=(95:Int))))=!OE c.toNat:=by
   unfold OE
   rw [Bool.eq_iff_iff]
   repeat' split
   all_goals simp
   all_goals omega
  rw [mj,if_pos h1,hc]
  simp only [Option.bind_some]
  rw [hB]
  unfold r5
  rw [aZ (by omega) (by omega)]
  cases OE c.toNat<;>rfl
 ·rw [mj,if_neg (by omega)];rfl
theorem DR (s:aI):oA s=some (fu s):=by
 unfold oA ml
 cases s with
 | nil=>simp [fu]
 | cons c r=>
   rw [if_neg (by simp)]
   have hc:idx (c :: r) 0=some c:=rfl
   rw [hc]
   simp only [Option.bind_some]
   by_cases hl:(c :: r).length≤40
   ·rw [if_neg (by omega),LQ _ hl,sS]
    by_cases h1:(c.toNat:Int) < 97
    ·rw [if_pos h1]
     have:decide (97≤c.toNat)=false:=by simp;omega
     rw [this];simp
    ·rw [if_neg h1]
     have e1:decide (97≤c.toNat)=true:=by simp;omega
     by_cases h2:(122:Int) < c.toNat
     ·rw [if_pos (by simpa using h2)]
      have:decide (c.toNat≤122)=false:=by simp;omega
      rw [this];simp
     ·rw [if_neg (by simpa using h2)]
      have:decide (c.toNat≤122)=true:=by simp;omega
      rw [e1,this,decide_eq_true hl];simp
   ·rw [if_pos (by omega),sS,decide_eq_false hl];simp
theorem Jx:∀ n:Fin 256,decide (UInt8.ofNat n.val∈([97,98,99,100,101,102,103,104,105,106,107,108,109,110,111,112,113,114,115,116,117,118,119,120,121,122,48,49,50,51,52,53,54,55,56,57,45,95]:List UInt8))=OE n.val:=by decide+kernel
theorem OF:∀ n:Fin 256,decide (UInt8.ofNat n.val∈([97,98,99,100,101,102,103,104,105,106,107,108,109,110,111,112,113,114,115,116,117,118,119,120,121,122]:List UInt8))=(decide (97≤n.val)&&decide (n.val≤122)):=by decide+kernel
theorem Hc {p:UInt8→Bool} {q:Nat→Bool} (h:∀ n:Fin 256,p (UInt8.ofNat n.val)=q n.val) (c:UInt8):p c=q c.toNat:=by
 have:=h ⟨c.toNat,c.toNat_lt⟩
 simpa using this
theorem r9 (a b:Int):cmp_Compare_int a b=tA a b:=by
 unfold cmp_Compare_int cmp_isNaN_int tA;simp
theorem CB (n:Int):nU n=(decide (0≤n)&&decide (n≤345686399999)):=by
 unfold nU
 rw [DQ,Bool.eq_iff_iff]
 simp
theorem LR {S A:Type} (f:S→Option (S⊕A)) (m:S→Nat) (Inv:S→Prop) (R:A→Prop)
 (h:∀ s,Inv s→(∃ s',f s=some (.inl s')∧Inv s'∧m s' < m s)∨(∃ a,f s=some (.inr a)∧R a)):∀ s,Inv s→∃ a,iter f s=some a∧R a:=by
 have key:∀ (n:Nat) s,m s≤n→Inv s→∃ a,iter f s=some a∧R a:=by
  intro n
  induction n with
  | zero=>
    intro s hm hi
    rcases h s hi with ⟨s',_,_,h3⟩ | ⟨a,h1,h2⟩
    ·omega
    ·exact ⟨a,by rw [iter_eq,h1];rfl,h2⟩
  | succ n ih=>
    intro s hm hi
    rcases h s hi with ⟨s',h1,h2,h3⟩ | ⟨a,h1,h2⟩
    ·obtain ⟨a,h4,h5⟩:=ih s' (by omega) h2
     exact ⟨a,by rw [iter_eq,h1];simpa using h4,h5⟩
    ·exact ⟨a,by rw [iter_eq,h1];rfl,h2⟩
 exact fun s hi=>key (m s) s (Nat.le_refl _) hi
theorem DS {S A:Type} (f:S→Option (S⊕A)) (m:S→Nat) (Inv:S→Prop) (r:Option A)
 (h:∀ s,Inv s→(∃ s',f s=some (.inl s')∧Inv s'∧m s' < m s)∨f s=r.map .inr):∀ s,Inv s→iter f s=r:=by
 have key:∀ (n:Nat) s,m s≤n→Inv s→iter f s=r:=by
  intro n
  induction n with
  | zero=>
    intro s hm hi
    rcases h s hi with ⟨s',_,_,h3⟩ | h1
    ·omega
    ·rw [iter_eq,h1,bP]
  | succ n ih=>
    intro s hm hi
    rcases h s hi with ⟨s',h1,h2,h3⟩ | h1
    ·rw [iter_eq,h1];simpa using ih s' (by omega) h2
    ·rw [iter_eq,h1,bP]
 exact fun s hi=>key (m s) s (Nat.le_refl _) hi
theorem XO (x y:Int):wM [x,y]=if x≠0 then x else y:=by
 by_cases h1:x=0<;>by_cases h2:y=0<;>simp [wM,h1,h2]
theorem vD {α:Type} (p:α→Bool):∀ l:List α,l.dropWhile p=[]↔l.all p=true
 | []=>by simp
 | x :: r=>by
   rw [List.dropWhile_cons]
   cases h:p x with
   | true=>simp only [if_true,List.all_cons,h,Bool.true_and];exact vD p r
   | false=>simp [h]
theorem yv (l cs:aI):Lib.trimS l cs=[]↔l.all (fun c=>decide (c∈cs))=true:=by
 have hc:∀ c:UInt8,cs.contains c=decide (c∈cs):=fun c=>by rw [Bool.eq_iff_iff];simp
 unfold Lib.trimS Lib.trimLeftS Lib.trimRightS
 rw [vD,List.all_reverse]
 constructor
 ·intro h
  have hd:(l.reverse.dropWhile (cs.contains ·))=[]:=by
   cases hh:l.reverse.dropWhile (cs.contains ·) with
   | nil=>rfl
   | cons a b=>
     have h1:=List.head?_dropWhile_not (fun c=>cs.contains c) l.reverse
     rw [hh] at h h1
     simp only [List.head?_cons] at h1
     simp only [List.all_cons,Bool.and_eq_true] at h
     rw [h.1] at h1;simp at h1
  rw [vD,List.all_reverse] at hd
  simpa [hc] using hd
 ·intro h
  have hd:l.reverse.dropWhile (cs.contains ·)=[]:=by
   rw [vD,List.all_reverse];simpa [hc] using h
  rw [hd];rfl
theorem FP {s cs:aI} (h1:s.length≤100000) (h2:cs.length≤100000) (h3:cs.all (fun b=>decide (b.toNat < 128))=true):Cs s cs=some (Lib.trimS s cs):=by
 unfold Cs;rw [if_pos ⟨by omega,by omega,h3⟩]
theorem A8 (s:aI):AD s=some (fu s):=by
 unfold AD sG
 rw [yu]
 cases s with
 | nil=>rfl
 | cons c r=>
   by_cases hl:(c :: r).length≤40
   ·rw [if_pos (by simp;simp at hl;omega),FP (by omega) (by simp) (by decide)]
    simp only [Option.bind_some]
    have e:(c :: r).all (fun c=>decide (c∈([97,98,99,100,101,102,103,104,105,106,107,108,109,110,111,112,113,114,115,116,117,118,119,120,121,122,48,49,50,51,52,53,54,55,56,57,45,95]:List UInt8)))=(c :: r).all (fun c=>OE c.toNat):=by
     congr 1;funext c
     exact Hc (p:=fun c=>decide (c∈([97,98,99,100,101,102,103,104,105,106,107,108,109,110,111,112,113,114,115,116,117,118,119,120,121,122,48,49,50,51,52,53,54,55,56,57,45,95]:List UInt8))) Jx c
    have e2:=Hc (p:=fun c=>decide (c∈([97,98,99,100,101,102,103,104,105,106,107,108,109,110,111,112,113,114,115,116,117,118,119,120,121,122]:List UInt8))) (q:=fun n=>decide (97≤n)&&decide (n≤122)) OF c
    rw [sS,decide_eq_true hl,Bool.true_and,← e,← e2]
    by_cases ht:Lib.trimS (c :: r) ([97,98,99,100,101,102,103,104,105,106,107,108,109,110,111,112,113,114,115,116,117,118,119,120,121,122,48,49,50,51,52,53,54,55,56,57,45,95]:aI)=[]
    ·rw [if_pos ht,(yv _ _).1 ht,Bool.and_true]
     have i0:idx (c :: r) 0=some c:=rfl
     rw [i0]
     simp only [Option.bind_some,tq,XK]
     congr 1
     have:=sP ([97,98,99,100,101,102,103,104,105,106,107,108,109,110,111,112,113,114,115,116,117,118,119,120,121,122]:List UInt8) c
     rw [decide_eq_decide]
     constructor
     ·intro h;exact Classical.byContradiction fun h'=>by have:=this.2 h';omega
     ·intro h;have h':=mt this.1 (fun h'=>h' h);omega
    ·rw [if_neg ht]
     have:(c :: r).all (fun c=>decide (c∈([97,98,99,100,101,102,103,104,105,106,107,108,109,110,111,112,113,114,115,116,117,118,119,120,121,122,48,49,50,51,52,53,54,55,56,57,45,95]:List UInt8)))=false:=by
      rw [← Bool.not_eq_true];exact fun h=>ht ((yv _ _).2 h)
     rw [this,Bool.and_false]
   ·rw [if_neg (by simp;simp at hl;omega),sS,decide_eq_false hl];rfl
theorem FQ (n:Int):mX n=if 0≤n∧n≤345686399999 then 0 else 1:=by
 unfold mX
 rw [yu]
 by_cases h:0≤n∧n≤345686399999
 ·rw [if_pos h,if_neg (by simp;omega)]
 ·rw [if_neg h,if_pos (by simp;omega)]
theorem A9 {s:wk} {n K:Int} (hs:sR s K) (hK:1≤K) (h1:1≤n) (h2:n≤4611686018427387904):r8 (eM s n) (K - 1) (fun v=>0≤v∧v < n):=
 xK (hs.less (by omega)) h1 h2 (by omega)
theorem Hd {s:wk} {n K:Int} (hs:sR s K) (hK:1≤K) (h1:1≤n) (h2:n≤4611686018427387904):r8 (jh s n) (K - 1) (fun _=>True):=
 Ix (hs.less (by omega)) h1 h2 (by omega)
theorem rq {s:wk} {l:List Int} {K:Int} (hs:sR s K) (hK:1≤K) (h1:l≠[]) (h2:l.length≤1000):r8 (cY s l) (K - 1) (fun v=>v∈l):=
 Iw (hs.less (by omega)) h1 h2 (by omega)
theorem Iz {s:wk} {a b K:Int} (hs:sR s K) (hK:1≤K) (vM:a≤b) (ha:-1152921504606846976≤a) (hb:b≤1152921504606846976):r8 (jf s a b) (K - 1) (fun v=>a≤v∧v≤b):=
 FO (hs.less (by omega)) vM ha hb (by omega)
theorem DT {s:wk} {l:List aI} {K:Int} (hs:sR s K) (hK:1≤K) (h1:l≠[]) (h2:l.length≤1000):r8 (jg s l) (K - 1) (fun v=>v∈l):=
 OD (hs.less (by omega)) h1 h2 (by omega)
theorem Up {s:wk} {a b K:Int} (hs:sR s K) (hK:2≤K) (vM:a≤b) (ha:-1099511627776≤a) (hb:b≤1099511627776):r8 (o4 s a b) (K - 2) (fun v=>-1099511627777≤v∧v≤1099511627777):=
 Rb (hs.less (by omega)) vM ha hb (by omega)
def Ok {α:Type} (m:Option α) (Q:α→Prop):Prop:=∃ r,m=some r∧Q r
theorem Ok.ret {α:Type} {v:α} {Q:α→Prop} (h:Q v):Ok (some v) Q:=⟨v,rfl,h⟩
theorem Ok.inr {α β:Type} {m:Option β} {Q:α⊕β→Prop} (h:Ok m (fun r=>Q (.inr r))):Ok (Option.map .inr m) Q:=by
 obtain ⟨r,rfl,h2⟩:=h;exact ⟨_,rfl,h2⟩
theorem Ok.gen {α β:Type} {m:Option (α×wk)} {k:Int} {P:α→Prop} {f:α×wk→Option β} {Q:β→Prop} (h:r8 m k P) (hf:∀ v s',P v→sR s' k→Ok (f (v,s')) Q):Ok (m.bind f) Q:=by
 obtain ⟨v,s',rfl,h1,h2⟩:=h;exact hf v s' h1 h2
theorem r8.of {α:Type} {m:Option (α×wk)} {k:Int} {P:α→Prop} (h:Ok m (fun r=>P r.1∧sR r.2 k)):r8 m k P:=by
 obtain ⟨⟨v,s⟩,h1,h2,h3⟩:=h;exact ⟨v,s,h1,h2,h3⟩
theorem Ok.idx {α β:Type} {xs:List α} {i:Int} {f:α→Option β} {Q:β→Prop} (h0:0≤i) (h1:i < xs.length) (hf:∀ x,idx xs i=some x→x∈xs→Ok (f x) Q):Ok ((idx xs i).bind f) Q:=by
 obtain ⟨x,hx,hm,_⟩:=fY xs h0 h1
 rw [hx];exact hf x hx hm
theorem Ok.app {α β:Type} {xs ys:List α} {f:List α→Option β} {Q:β→Prop} (h:xs.length+ys.length≤1000000000) (hf:Ok (f (xs++ys)) Q):Ok ((app xs ys).bind f) Q:=by
 rw [iq h];exact hf
theorem Ok.sv {α β:Type} {xs:List α} {a b:Int} {f:List α→Option β} {Q:β→Prop} (h0:0≤a) (h1:a≤b) (h2:b≤xs.length) (hf:∀ ys:List α,ys=(xs.drop a.toNat).take (b.toNat - a.toNat)→(ys.length:Int)=b - a→Ok (f ys) Q):Ok ((sv xs a b).bind f) Q:=by
 rw [wL h0 h1 h2];exact hf _ rfl (by simp;omega)
theorem LS {a b:aI} (h:a.length+b.length≤9223372036854775807):ze a b=some (a++b):=by unfold ze;rw [if_pos h]
theorem Ok.cat {β:Type} {a b:aI} {f:aI→Option β} {Q:β→Prop} (h:a.length+b.length≤9223372036854775807) (hf:Ok (f (a++b)) Q):Ok ((ze a b).bind f) Q:=by
 rw [LS h];exact hf
abbrev VN {S A:Type} (m:S→Nat) (Inv:S→Prop) (R:A→Prop) (s:S):S⊕A→Prop
 | .inl s'=>Inv s'∧m s' < m s
 | .inr a=>R a
theorem Ok.iter {S A:Type} {f:S→Option (S⊕A)} {R:A→Prop} (m:S→Nat) (Inv:S→Prop)
 (h:∀ s,Inv s→Ok (f s) (VN m Inv R s)) (s:S) (hs:Inv s):Ok (iter f s) R:=by
 refine LR f m Inv R (fun s hi=>?_) s hs
 obtain ⟨r,h1,h2⟩:=h s hi
 cases r with
 | inl s'=>exact .inl ⟨s',h1,h2.1,h2.2⟩
 | inr a=>exact .inr ⟨a,h1,h2⟩
theorem LU (n:Int):(Je n).length≤4:=by
 unfold Je Utf8.encode
 simp only
 repeat' split
 all_goals simp
theorem eK {α σ A X:Type} (xs:List α) (mk:σ→Int→X) (f:X→Option (X⊕A)) (CC:σ→α→σ) (Inv:Int→σ→Prop) (E:σ→Option A)
 (h1:∀ s (i:Int) x,0≤i→i < xs.length→idx xs i=some x→Inv i s→f (mk s i)=some (.inl (mk (CC s x) (i+1)))∧Inv (i+1) (CC s x))
 (h2:∀ s,Inv xs.length s→f (mk s xs.length)=Option.map .inr (E s)) (s:σ) (h0:Inv 0 s):iter f (mk s 0)=E (xs.foldl CC s):=by
 have key:∀ (n:Nat) (s:σ) (i:Int),0≤i→i+n=xs.length→Inv i s→iter f (mk s i)=E ((xs.drop i.toNat).foldl CC s):=by
  intro n
  induction n with
  | zero=>
    intro s i hi hn hv
    have:i=xs.length:=by omega
    subst this
    rw [iter_eq,h2 s hv,bP]
    simp
  | succ n ih=>
    intro s i hi hn hv
    obtain ⟨x,hx,_,hd⟩:=fY xs hi (by omega)
    obtain ⟨e1,e2⟩:=h1 s i x hi (by omega) hx hv
    rw [iter_eq,e1]
    simp only [Option.bind_some,gi]
    rw [ih _ _ (by omega) (by omega) e2,hd]
    rfl
 have:=key xs.length s 0 (by omega) (by omega) h0
 simpa using this
theorem foldl_map {α β:Type} (g:α→β):∀ (xs:List α) (acc:List β),xs.foldl (fun acc x=>acc++[g x]) acc=acc++xs.map g
 | [],acc=>by simp
 | x :: r,acc=>by rw [List.foldl_cons,foldl_map g r];simp
theorem take_succ {α:Type} {xs:List α} {i:Int} {x:α} (h0:0≤i) (h:idx xs i=some x):xs.take (i+1).toNat=xs.take i.toNat++[x]:=by
 obtain ⟨_,h1,h2⟩:=cV h
 rw [show (i+1).toNat=i.toNat+1 by omega,List.take_add_one,h2];rfl
theorem Ok.LV {σ A X:Type} {f:X→Option (X⊕A)} {R:A→Prop} (N:Nat) (mk:σ→Int→X) (Inv:Int→σ→Prop)
 (h:∀ s (i:Int),0≤i→i≤N→Inv i s→Ok (f (mk s i)) (fun r=>(∃ s',r=.inl (mk s' (i+1))∧i < N∧Inv (i+1) s')∨∃ a,r=.inr a∧R a)) (s:σ) (h0:Inv 0 s):Ok (Eng.iter f (mk s 0)) R:=by
 have key:∀ (k:Nat) (s:σ) (i:Int),0≤i→i≤N→i+k=N+1→Inv i s→Ok (Eng.iter f (mk s i)) R:=by
  intro k
  induction k with
  | zero=>
    intro s i hi hN hk hv
    omega
  | succ k ih=>
    intro s i hi hN hk hv
    obtain ⟨r,h1,h2⟩:=h s i hi hN hv
    rw [iter_eq,h1]
    rcases h2 with ⟨s',rfl,h3,h4⟩ | ⟨a,rfl,h3⟩
    ·simp only [Option.bind_some,gi]
     exact ih s' (i+1) (by omega) (by omega) (by omega) h4
    ·exact ⟨a,rfl,h3⟩
 exact key (N+1) s 0 (by omega) (by omega) (by omega) h0
theorem ru (x:Int) (r:List Int):wM (x :: r)=if x≠0 then x else wM r:=rfl
theorem oS.or {α:Type} {c:α→α→Int} {f:α→α→List Int} (h:oS c) (k:oS fun a b=>wM (f a b)):oS fun a b=>wM (c a b :: f a b):=h.lex k
theorem oS.or0 {α:Type}:oS (fun (_ _:α)=>wM []):=⟨fun _ _=>rfl,fun h _=>absurd h (by simp [wM]),fun _ h=>absurd h (by simp [wM])⟩
theorem xL:∀ {l:List Int},wM l=0→∀ x∈l,x=0
 | [],_,x,hx=>by simp at hx
 | y :: r,h,x,hx=>by
   rw [ru] at h
   by_cases h0:y=0
   ·rw [if_neg (by simpa using h0)] at h
    rcases List.mem_cons.1 hx with rfl | hx
    ·exact h0
    ·exact xL h x hx
   ·rw [if_pos h0] at h;exact absurd h h0
theorem IA {α:Type} [DecidableEq α] {c:α→α→Int} (hc:oS c):∀ (r:List α) (p:α),Cw c (p :: r)→(∀ a∈p :: r,∀ b∈p :: r,c a b=0→a=b)→(∀ x∈zJ tT p r,x≠p)∧(zJ tT p r).Nodup
 | [],p,_,_=>by simp [zJ]
 | y :: r,p,hs,ha=>by
   have wj:=List.pairwise_cons.1 hs
   obtain ⟨i1,i2⟩:=IA hc r y wj.2 (fun a h1 b h2=>ha a (List.mem_cons_of_mem _ h1) b (List.mem_cons_of_mem _ h2))
   simp only [zJ]
   by_cases e:tT y p=true
   ·rw [if_pos e]
    have:y=p:=by simpa [tT] using e
    subst this
    exact ⟨i1,i2⟩
   ·rw [if_neg e]
    have hyp:y≠p:=by simpa [tT] using e
    refine ⟨fun x hx=>?_,List.nodup_cons.2 ⟨fun h=>i1 y h rfl,i2⟩⟩
    rcases List.mem_cons.1 hx with rfl | hx
    ·exact hyp
    ·intro hxp
     subst hxp
     have hxr:x∈r:=(zK tT y r).subset hx
     have h1:=wj.1 y (by simp)
     have h2:=(List.pairwise_cons.1 wj.2).1 x hxr
     have:=hc.neg x y
     exact hyp (ha y (by simp) x (by simp) (by omega))
theorem Rc {α:Type} [DecidableEq α] {c:α→α→Int} (hc:oS c) {U:List α} (hs:Cw c U) (ha:∀ a∈U,∀ b∈U,c a b=0→a=b):(dd tT U).Nodup:=by
 cases U with
 | nil=>simp [dd]
 | cons p r=>
   obtain ⟨i1,i2⟩:=IA hc r p hs ha
   simp only [dd]
   exact List.nodup_cons.2 ⟨fun h=>i1 p h rfl,i2⟩
theorem Re {α:Type} [DecidableEq α] (U:List α) (x:α):x∈dd tT U↔x∈U:=⟨fun h=>(Ha tT U).subset h,XN⟩
def ui {α:Type} [DecidableEq α] (acc:List α) (x:α):List α:=if x∈acc then acc else acc++[x]
theorem He {α:Type} [DecidableEq α] {acc:List α} {x:α} (h:acc.Nodup):(ui acc x).Nodup:=by
 unfold ui
 split
 ·exact h
 ·rename_i hx
  exact List.nodup_append.2 ⟨h,by simp,fun a ha b hb=>by rw [List.mem_singleton.1 hb];exact fun e=>hx (e▸ha)⟩
theorem LW {α:Type} [DecidableEq α] {acc:List α} {x y:α}:y∈ui acc x↔y∈acc∨y=x:=by
 unfold ui
 split
 ·rename_i hx
  exact ⟨.inl,fun h=>h.elim id fun e=>e▸hx⟩
 ·simp
theorem LX {α:Type} [DecidableEq α] (acc:List α) (x:α):(ui acc x).length≤acc.length+1:=by
 unfold ui;split<;>simp
theorem tC {α:Type} [DecidableEq α]:∀ (r acc:List α),acc.Nodup→(r.foldl ui acc).Nodup∧(∀ y,y∈r.foldl ui acc↔y∈acc∨y∈r)∧(r.foldl ui acc).length≤acc.length+r.length
 | [],acc,h=>⟨h,fun y=>by simp,by simp⟩
 | x :: r,acc,h=>by
   obtain ⟨i1,i2,i3⟩:=tC r (ui acc x) (He h)
   have:=LX acc x
   refine ⟨i1,fun y=>?_,by simp only [List.foldl_cons,List.length_cons];omega⟩
   rw [List.foldl_cons,i2 y,LW];simp [or_assoc]
theorem Ba {α:Type} {st:Option α→α→Int}:∀ (xs:List α) (p:Option α),A6 st p xs=0→∀ (i:Nat) x,xs[i]? =some x→st (if i=0 then p else xs[i - 1]?) x=0
 | [],_,_,i,x,h=>by simp at h
 | s :: r,p,h,i,x,hx=>by
   simp only [A6] at h
   split at h
   ·rename_i h0
    match i with
    | 0=>simp at hx;subst hx;exact h0
    | i+1=>
      have:=Ba r (some s) h i x (by simpa using hx)
      rw [if_neg (by omega)]
      match i with
      | 0=>simpa using this
      | i+1=>simpa using this
   ·exact absurd h ‹_›
theorem CE {α:Type} {c:α→α→Int} (hc:oS c):∀ xs:List α,(∀ (i:Nat) x y,xs[i]? =some x→xs[i+1]? =some y→c x y < 0)→xs.Pairwise (fun a b=>c a b < 0)
 | [],_=>.nil
 | [x],_=>by simp
 | x :: y :: r,h=>by
   have ih:=CE hc (y :: r) (fun i a b h1 h2=>h (i+1) a b (by simpa using h1) (by simpa using h2))
   have BY:=h 0 x y rfl rfl
   refine List.pairwise_cons.2 ⟨fun z hz=>?_,ih⟩
   rcases List.mem_cons.1 hz with rfl | hz
   ·exact BY
   ·exact hc.tr BY ((List.pairwise_cons.1 ih).1 z hz)
theorem LY {α:Type} {c:α→α→Int} (hc:oS c) {xs:List α} (h:xs.Pairwise (fun a b=>c a b < 0)):Cw c xs:=h.imp fun {a b} vM VO=>by have:=hc.neg a b;omega
theorem Bb {α:Type} {c:α→α→Int} (hc:oS c) {xs:List α} (h:xs.Pairwise (fun a b=>c a b < 0)):xs.Nodup:=h.imp fun {a b} vM e=>by subst e;have:=hc.zero a;omega
def sO (a b:Signal):Int:=wM [tA a.At b.At,Lib.compareBytes a.Device b.Device,Lib.compareBytes a.a8 b.a8,tA a.Kind b.Kind]
theorem OG:oS sO:=(DO.on Signal.At).or ((pb.on Signal.Device).or ((pb.on Signal.a8).or ((DO.on Signal.Kind).or .or0)))
theorem DU (a b:Signal):mn a b=some (sO a b):=by
 unfold mn
 rw [r9,r9]
 have h:jF [tA a.At b.At,Lib.compareBytes a.Device b.Device,Lib.compareBytes a.a8 b.a8,tA a.Kind b.Kind]=some (sO a b):=A5 _ (by simp)
 rw [h];rfl
theorem ry (a b:Signal):iu a b=some (sO a b):=by
 unfold iu
 rw [r9,r9]
 have h:jF [tA a.At b.At,Lib.compareBytes a.Device b.Device,Lib.compareBytes a.a8 b.a8,tA a.Kind b.Kind]=some (sO a b):=A5 _ (by simp)
 rw [h];rfl
def Bc (x:Signal):Prop:=(-4398046511104≤x.At∧x.At≤4398046511104)∧(-4398046511104≤x.aV∧x.aV≤4398046511104)
def BU (n:Int):Bool:=decide (0≤n)&&decide (n≤345686399999)
def wm (s:Signal):Int:=
 if BU s.At=false then 1 else if (fu s.Device&&fu s.a8)=false then 5 else if s.Kind < 1∨5 < s.Kind then 4 else if 3≤s.Kind∧fu s.By=false then 5 else if ¬ 3≤s.Kind∧s.By≠[] then 3
 else if s.Kind=4∧(s.aV < s.At+1∨s.At+2592000000 < s.aV∨345686400000 < s.aV) then 1 else if ¬ s.Kind=4∧s.aV≠0 then 3 else 0
def wN (prev:Option Signal) (s:Signal):Int:=if wm s≠0 then wm s else match prev with
 | none=>0
 | some p=>if sO s p≤0 then 7 else 0
def nk (xs:List Signal):Int:=if (5000:Int) < xs.length then 2 else A6 wN none xs
theorem Bd {s:Signal} (hB:Bc s):jq s=some (wm s):=by
 unfold Bc at hB
 unfold jq wm
 rw [CB,show (decide (0≤s.At)&&decide (s.At≤345686399999))=BU s.At from rfl]
 simp only [DR,Option.bind_some]
 cases hm:BU s.At
 ·simp
 ·simp only [Bool.not_true,Bool.false_eq_true,if_false,Bool.true_eq_false]
  have key:fo s (!(fu s.Device&&fu s.a8))=some (if (fu s.Device&&fu s.a8)=false then 5 else if s.Kind < 1∨5 < s.Kind then 4 else if 3≤s.Kind∧fu s.By=false then 5 else if ¬ 3≤s.Kind∧s.By≠[] then 3
   else if s.Kind=4∧(s.aV < s.At+1∨s.At+2592000000 < s.aV∨345686400000 < s.aV) then 1 else if ¬ s.Kind=4∧s.aV≠0 then 3 else 0):=by
   unfold fo
   cases hk:(fu s.Device&&fu s.a8)
   ·simp
   ·simp only [Bool.not_true,Bool.false_eq_true,if_false,Bool.true_eq_false]
    rw [DQ,DR]
    simp only [Option.bind_some]
    by_cases h3:s.Kind < 1∨5 < s.Kind
    ·rw [if_pos h3,if_pos (by simp only [Bool.or_eq_true,decide_eq_true_eq];exact h3)]
    ·rw [if_neg h3,if_neg (by simp only [Bool.or_eq_true,decide_eq_true_eq];exact h3)]
     have j2:∀ c:Bool,c=decide (3≤s.Kind∧fu s.By=false)→fl s c=some (if 3≤s.Kind∧fu s.By=false then 5 else if ¬ 3≤s.Kind∧s.By≠[] then 3
      else if s.Kind=4∧(s.aV < s.At+1∨s.At+2592000000 < s.aV∨345686400000 < s.aV) then 1 else if ¬ s.Kind=4∧s.aV≠0 then 3 else 0):=by
      rintro c rfl
      unfold fl jo jn jm
      rw [aZ (by omega) (by omega),aZ (by omega) (by omega),DQ]
      by_cases h4:3≤s.Kind∧fu s.By=false
      ·rw [if_pos h4,decide_eq_true h4,if_pos rfl]
      ·rw [if_neg h4,decide_eq_false h4,if_neg Bool.false_ne_true]
       by_cases h5:¬ 3≤s.Kind∧s.By≠[]
       ·rw [if_pos h5,if_pos (by simp only [Bool.and_eq_true,decide_eq_true_eq];exact h5)]
       ·rw [if_neg h5,if_neg (by simp only [Bool.and_eq_true,decide_eq_true_eq];exact h5)]
        by_cases h6:s.Kind=4∧(s.aV < s.At+1∨s.At+2592000000 < s.aV∨345686400000 < s.aV)
        ·rw [if_pos h6,if_pos (by simp only [Bool.and_eq_true,Bool.or_eq_true,decide_eq_true_eq];omega)]
        ·rw [if_neg h6,if_neg (by simp only [Bool.and_eq_true,Bool.or_eq_true,decide_eq_true_eq];omega)]
         by_cases h7:¬ s.Kind=4∧s.aV≠0
         ·rw [if_pos h7,if_pos (by simp only [Bool.and_eq_true,decide_eq_true_eq];exact h7)]
         ·rw [if_neg h7,if_neg (by simp only [Bool.and_eq_true,decide_eq_true_eq];exact h7)]
     by_cases h4:3≤s.Kind
     ·rw [if_pos h4];exact j2 _ (by cases fu s.By<;>simp [h4])
     ·rw [if_neg h4];exact j2 _ (by simp [h4])
  cases hd:fu s.Device
  ·rw [hd] at key;simpa using key
  ·rw [hd] at key;simpa using key
theorem nC {xs:List Signal} (hB:∀ x∈xs,Bc x):ec xs=some (nk xs):=by
 unfold ec nk
 split
 ·rfl
 ·rename_i hl
  unfold oU
  refine FN wN xs _ (fun {i s} h0 h1 hs=>?_) (by show cE xs _=_;rw [cE,if_neg (by omega)];rfl)
  show cE xs i=_
  rw [cE,if_pos h1,hs]
  simp only [Option.bind_some]
  rw [Bd (hB s (jS hs))]
  unfold wN
  simp only [Option.bind_some]
  by_cases hb:wm s=0
  ·simp only [hb,ne_eq,not_true_eq_false,if_false]
   unfold gh
   rw [aZ (x:=i+1) (by omega) (by omega)]
   by_cases hi:0 < i
   ·obtain ⟨p,hp,_,_⟩:=fY xs (i:=i - 1) (by omega) (by omega)
    have Na:jJ xs i=some p:=by unfold jJ;rw [if_neg (by omega),hp]
    rw [Na,if_pos hi,aZ (by omega) (by omega),hp]
    simp only [Option.bind_some,DU]
    by_cases hb:sO s p≤0
    ·simp [hb]
    ·simp [hb]
   ·have Na:jJ xs i=none:=by unfold jJ;rw [if_pos (by omega)]
    rw [Na,if_neg hi];simp
  ·rw [if_pos hb,if_pos hb,if_neg hb];rfl
theorem qd {xs:List Signal} (hB:∀ x∈xs,Bc x):iI xs=some (nk xs):=by
 unfold iI nk
 split
 ·rfl
 ·rename_i hl
  unfold r4
  refine FN wN xs _ (fun {i s} h0 h1 hs=>?_) (by show eN xs _=_;rw [eN,if_neg (by omega)];rfl)
  have hS:=hB s (jS hs)
  unfold Bc at hS
  show eN xs i=_
  rw [eN,if_pos h1,hs]
  simp only [Option.bind_some]
  rw [FQ,A8,A8]
  simp only [Option.bind_some]
  unfold wN wm
  have Uq:(BU s.At=false)↔¬ (0≤s.At∧s.At≤345686399999):=by
   unfold BU
   rw [← Bool.decide_and,decide_eq_false_iff_not]
  by_cases hm:0≤s.At∧s.At≤345686399999
  ·rw [if_neg (by rw [if_pos hm];simp),if_neg (c:=BU s.At=false) (fun h=>Uq.1 h hm)]
   have key:∀ c:Bool,c=!(fu s.Device&&fu s.a8)→gO xs i s c=some (if (if (fu s.Device&&fu s.a8)=false then (5:Int) else if s.Kind < 1∨5 < s.Kind then 4 else if 3≤s.Kind∧fu s.By=false then 5 else if ¬ 3≤s.Kind∧s.By≠[] then 3
    else if s.Kind=4∧(s.aV < s.At+1∨s.At+2592000000 < s.aV∨345686400000 < s.aV) then 1 else if ¬ s.Kind=4∧s.aV≠0 then 3 else 0)≠0 then .inr (if (fu s.Device&&fu s.a8)=false then 5 else if s.Kind < 1∨5 < s.Kind then 4 else if 3≤s.Kind∧fu s.By=false then 5 else if ¬ 3≤s.Kind∧s.By≠[] then 3
    else if s.Kind=4∧(s.aV < s.At+1∨s.At+2592000000 < s.aV∨345686400000 < s.aV) then 1 else if ¬ s.Kind=4∧s.aV≠0 then 3 else 0) else match jJ xs i with
     | none=>.inl (i+1)
     | some p=>if sO s p≤0 then .inr 7 else .inl (i+1)):=by
    rintro c rfl
    unfold gO
    cases hk:(fu s.Device&&fu s.a8)
    ·simp
    ·simp only [Bool.not_true,Bool.false_eq_true,if_false,Bool.true_eq_false]
     rw [yu,A8]
     simp only [Option.bind_some]
     by_cases h3:s.Kind < 1∨5 < s.Kind
     ·rw [if_pos h3,if_pos (by simp only [Bool.not_eq_true',Bool.and_eq_false_iff,decide_eq_false_iff_not];omega)];simp
     ·rw [if_neg h3,if_neg (by simp only [Bool.not_eq_true',Bool.and_eq_false_iff,decide_eq_false_iff_not];omega)]
      have j2:∀ c:Bool,c=decide (3≤s.Kind∧fu s.By=false)→gN xs i s c=some (if (if 3≤s.Kind∧fu s.By=false then (5:Int) else if ¬ 3≤s.Kind∧s.By≠[] then 3
       else if s.Kind=4∧(s.aV < s.At+1∨s.At+2592000000 < s.aV∨345686400000 < s.aV) then 1 else if ¬ s.Kind=4∧s.aV≠0 then 3 else 0)≠0 then .inr (if 3≤s.Kind∧fu s.By=false then 5 else if ¬ 3≤s.Kind∧s.By≠[] then 3
       else if s.Kind=4∧(s.aV < s.At+1∨s.At+2592000000 < s.aV∨345686400000 < s.aV) then 1 else if ¬ s.Kind=4∧s.aV≠0 then 3 else 0) else match jJ xs i with
        | none=>.inl (i+1)
        | some p=>if sO s p≤0 then .inr 7 else .inl (i+1)):=by
       rintro c rfl
       unfold gN lQ lP lO
       rw [aZ (by omega) (by omega),aZ (by omega) (by omega),yu]
       by_cases h4:3≤s.Kind∧fu s.By=false
       ·rw [if_pos h4,decide_eq_true h4,if_pos rfl];simp
       ·rw [if_neg h4,decide_eq_false h4,if_neg Bool.false_ne_true]
        by_cases h5:¬ 3≤s.Kind∧s.By≠[]
        ·rw [if_pos h5,if_pos (by simp only [Bool.and_eq_true,decide_eq_true_eq];exact h5)];simp
        ·rw [if_neg h5,if_neg (by simp only [Bool.and_eq_true,decide_eq_true_eq];exact h5)]
         by_cases h6:s.Kind=4∧(s.aV < s.At+1∨s.At+2592000000 < s.aV∨345686400000 < s.aV)
         ·rw [if_pos h6,if_pos (by simp only [Bool.and_eq_true,Bool.not_eq_true',Bool.and_eq_false_iff,decide_eq_true_eq,decide_eq_false_iff_not];omega)];simp
         ·rw [if_neg h6,if_neg (by simp only [Bool.and_eq_true,Bool.not_eq_true',Bool.and_eq_false_iff,decide_eq_true_eq,decide_eq_false_iff_not];omega)]
          by_cases h7:¬ s.Kind=4∧s.aV≠0
          ·rw [if_pos h7,if_pos (by simp only [Bool.and_eq_true,decide_eq_true_eq];exact h7)];simp
          ·rw [if_neg h7,if_neg (by simp only [Bool.and_eq_true,decide_eq_true_eq];exact h7),if_neg (c:=(0:Int)≠0) (by simp)]
           unfold jl
           rw [aZ (x:=i+1) (by omega) (by omega)]
           by_cases hi:0 < i
           ·obtain ⟨p,hp,_,_⟩:=fY xs (i:=i - 1) (by omega) (by omega)
            have Na:jJ xs i=some p:=by unfold jJ;rw [if_neg (by omega),hp]
            rw [Na,if_pos hi,aZ (by omega) (by omega),hp]
            simp only [Option.bind_some,ry]
            have hn:=OG.neg p s
            by_cases hb:sO s p≤0
            ·rw [if_pos hb,if_pos (by simp only [decide_eq_true_eq];omega)];rfl
            ·rw [if_neg hb,if_neg (by simp only [decide_eq_true_eq];omega)]
           ·have Na:jJ xs i=none:=by unfold jJ;rw [if_pos (by omega)]
            rw [Na,if_neg hi];rfl
      by_cases h4:3≤s.Kind
      ·rw [if_pos h4];exact j2 _ (by cases fu s.By<;>simp [h4])
      ·rw [if_neg h4];exact j2 _ (by simp [h4])
   have fin:∀ (b:Int),(some (if b≠0 then Sum.inr b else match jJ xs i with
    | none=>Sum.inl (i+1)
    | some p=>if sO s p≤0 then Sum.inr 7 else Sum.inl (i+1)):Option (Int⊕Int))=some (if (if b≠0 then b else match jJ xs i with
    | none=>0
    | some p=>if sO s p≤0 then 7 else 0)=0 then .inl (i+1) else .inr (if b≠0 then b else match jJ xs i with
    | none=>0
    | some p=>if sO s p≤0 then 7 else 0)):=by
    intro b
    by_cases hb:b=0
    ·subst hb
     cases jJ xs i with
     | none=>simp
     | some p=>by_cases h:sO s p≤0<;>simp [h]
    ·rw [if_pos hb,if_pos hb,if_neg hb]
   rw [← fin]
   cases hd:fu s.Device
   ·have k:=key true (by rw [hd];rfl)
    rw [hd] at k;exact k
   ·have k:=key (!fu s.a8) (by rw [hd];simp)
    rw [hd] at k;exact k
  ·rw [if_pos (by rw [if_neg hm];simp),if_pos (Uq.2 hm)]
   simp
def ZS:Signal:=⟨0,0,[],[],[],0⟩
theorem FR (f:Signal→Signal→Option Int) (xs:List Signal) (hl:(xs.length:Int) < 20) (hf:∀ x∈xs,∀ y∈xs,f x y=some (sO x y)):∃ Z,kD xs.length (fun r:List Signal=>r.length) (bZ xs f)=some Z∧Z.Perm xs∧Cw sO Z:=by
 obtain ⟨Z,h1,h2,h3⟩:=OA f sO xs (by omega) hf (OG.ord xs)
 have Hw:ch xs 0 xs.length f=some Z:=h1
 have hlen:=h2.length_eq
 refine ⟨Z,?_,h2,h3⟩
 have hs:dP xs xs.length f=some Z:=by
  unfold dP j8
  rw [iter_eq,cK,if_neg (by simp only;omega),bP]
  unfold gm
  simp only
  rw [DP Hw hlen]
  simp only [Option.bind_some]
  unfold j6
  rw [iter_eq,cJ,if_neg (by simp only;omega),bP]
 refine DP ?_ hlen
 unfold bZ
 rw [DP hs hlen];rfl
theorem DV (f:Signal→Signal→Option Bool) (e:Signal→Signal→Bool) (xs:List Signal) (hl:(xs.length:Int)≤100000) (hf:∀ x∈xs,∀ y∈xs,f x y=some (e x y)):dQ xs f=some (dd e xs):=FM ZS f e xs hl hf
theorem DW {xs:List Signal} (h:nk xs=0):xs.Pairwise (fun a b=>sO a b < 0)∧∀ x∈xs,wm x=0:=by
 unfold nk at h
 split at h
 ·cases h
 ·have hz:=Ba xs none h
  refine ⟨CE OG xs (fun i x y hx hy=>?_),fun x hx=>?_⟩
  ·have:=hz (i+1) y hy
   rw [if_neg (by omega),show i+1 - 1=i by omega,hx] at this
   unfold wN at this
   have hn:=OG.neg x y
   split at this
   ·rename_i h0;exact absurd this h0
   ·simp only at this
    split at this
    ·cases this
    ·omega
  ·obtain ⟨i,hi,rfl⟩:=List.getElem_of_mem hx
   have:=hz i xs[i] (by simp [hi])
   unfold wN at this
   split at this
   ·rename_i h0;exact absurd this h0
   ·rename_i h0;simpa using h0
def FT (P:Signal→Prop) (k:Int) (l:List Signal):Prop:=(l.length:Int)≤k∧∀ x∈l,P x
def FU (x:Signal):Prop:=(0≤x.At∧x.At≤1000)∧(0≤x.aV∧x.aV≤2000)
abbrev SG:=FT Bc
abbrev Rf:=FT FU
theorem FT.perm {P:Signal→Prop} {k:Int} {l Z:List Signal} (h:FT P k l) (hp:Z.Perm l):FT P k Z:=⟨by rw [hp.length_eq];exact h.1,fun c hc=>h.2 c (hp.mem_iff.1 hc)⟩
theorem FT.sub {P:Signal→Prop} {k:Int} {l Z:List Signal} (h:FT P k l) (hp:Z.Sublist l):FT P k Z:=⟨by have:=hp.length_le;have:=h.1;omega,fun c hc=>h.2 c (hp.subset hc)⟩
theorem FT.snoc {P:Signal→Prop} {k:Int} {l:List Signal} (h:FT P k l) {c:Signal} (hc:P c):FT P (k+1) (l++[c]):=
 ⟨by have:=h.1;simp;omega,fun x hx=>by
  rcases List.mem_append.1 hx with e | e
  ·exact h.2 x e
  ·rw [List.mem_singleton] at e;subst e;exact hc⟩
theorem FT.mono {P Q:Signal→Prop} {k:Int} {l:List Signal} (h:FT P k l) (hp:∀ x,P x→Q x):FT Q k l:=⟨h.1,fun x hx=>hp x (h.2 x hx)⟩
theorem FT.set {P:Signal→Prop} {k:Int} {l:List Signal} (h:FT P k l) {c:Signal} (hc:P c) (i:Nat):FT P k (l.set i c):=⟨by simpa using h.1,Uo h.2 hc⟩
theorem FU.w {x:Signal} (h:FU x):Bc x:=by unfold FU at h;unfold Bc;omega
theorem XP {a b c v:Int} (h:v∈[a,b,c]):v=a∨v=b∨v=c:=by simpa using h
theorem XQ {a b c d v:Int} (h:v∈[a,b,c,d]):v=a∨v=b∨v=c∨v=d:=by simpa using h
theorem CF {s:wk} {p:Bool} {many K:Int} (hs:sR s K) (hm:0≤many∧many≤15) (hK:200≤K):r8 (kc s many p) (K - 200) (SG many):=by
 refine r8.of ?_
 unfold kc
 refine Ok.gen (A9 hs (by omega) (by omega) (by omega)) (fun v0 s0 hv0 q0=>?_)
 dsimp only
 unfold rZ
 refine Ok.iter (fun x:List Int×Int×List Signal×Int×Int=>(many - x.2.2.2.2).toNat) (fun x:List Int×Int×List Signal×Int×Int=>0≤x.2.2.2.2∧x.2.2.2.2≤many∧sR ⟨x.1,x.2.1⟩ (K - 190+10 * (many - x.2.2.2.2))∧Rf x.2.2.2.2 x.2.2.1∧(0≤x.2.2.2.1∧x.2.2.2.1≤20+40 * x.2.2.2.2)) ?_ _ ⟨by simp,by simp only;omega,q0.less (by simp only;omega),⟨by simp,by simp⟩,by simp only;omega⟩
 rintro ⟨L,a,l,t,n⟩ ⟨g0,g1,g2,g3,g4⟩
 simp only at g0 g1 g2 g3 g4 ⊢
 have RR:=g3.1
 unfold jk
 by_cases hn:n < many
 ·rw [if_pos hn]
  refine Ok.gen (rq g2 (by omega) (by simp) (by simp)) (fun p1 s1 h1 q1=>?_)
  refine Ok.gen (DT q1 (by omega) (by simp) (by simp)) (fun p2 s2 h2 q2=>?_)
  refine Ok.gen (DT q2 (by omega) (by simp) (by simp)) (fun p3 s3 h3 q3=>?_)
  dsimp only
  have j3:∀ (Pv Pw:aI×wk) (kd:Int) (q:aI) (L':List Int) (a' u:Int),(0≤u∧u≤1000)→sR ⟨L',a'⟩ (K - 190+10 * (many - n - 1)+1)→
   Ok (gI l t n Pv Pw kd q L' a' u) (VN (fun x:List Int×Int×List Signal×Int×Int=>(many - x.2.2.2.2).toNat) (fun x:List Int×Int×List Signal×Int×Int=>0≤x.2.2.2.2∧x.2.2.2.2≤many∧sR ⟨x.1,x.2.1⟩ (K - 190+10 * (many - x.2.2.2.2))∧Rf x.2.2.2.2 x.2.2.1∧(0≤x.2.2.2.1∧x.2.2.2.1≤20+40 * x.2.2.2.2)) (fun r=>SG many r.1∧sR r.2 (K - 200)) (L,a,l,t,n)):=by
   intro Pv Pw kd q L' a' u hu wj
   unfold gI
   refine Ok.app (by simp;omega) ?_
   refine Ok.gen (rq wj (by omega) (by simp) (by simp)) (fun w s5 hw q5=>?_)
   have P0:0≤w∧w≤40:=Iy hw (by decide)
   dsimp only
   refine Ok.ret ?_
   rw [aZ (x:=t+w) (by omega) (by omega),aZ (x:=n+1) (by omega) (by omega)]
   exact ⟨⟨by simp only;omega,by simp only;omega,q5.less (by simp only;omega),g3.snoc (by unfold FU;simp only;omega),by simp only;omega⟩,by simp only;omega⟩
  have j2:∀ (Pv Pw:aI×wk) (kd:Int) (L':List Int) (a':Int) (q:aI),sR ⟨L',a'⟩ (K - 190+10 * (many - n - 1)+2)→
   Ok (gJ l t n Pv Pw kd L' a' q) (VN (fun x:List Int×Int×List Signal×Int×Int=>(many - x.2.2.2.2).toNat) (fun x:List Int×Int×List Signal×Int×Int=>0≤x.2.2.2.2∧x.2.2.2.2≤many∧sR ⟨x.1,x.2.1⟩ (K - 190+10 * (many - x.2.2.2.2))∧Rf x.2.2.2.2 x.2.2.1∧(0≤x.2.2.2.1∧x.2.2.2.1≤20+40 * x.2.2.2.2)) (fun r=>SG many r.1∧sR r.2 (K - 200)) (L,a,l,t,n)):=by
   intro Pv Pw kd L' a' q wj
   unfold gJ
   split
   ·refine Ok.gen (rq wj (by omega) (by simp) (by simp)) (fun w s5 hw q5=>?_)
    have P0:0≤w∧w≤50:=Iy hw (by decide)
    dsimp only
    rw [aZ (by omega) (by omega)]
    exact j3 _ _ _ _ _ _ _ (by omega) (q5.less (by omega))
   ·exact j3 _ _ _ _ _ _ _ (by omega) (wj.less (by omega))
  have j1:∀ (Pv Pw:aI×wk) (kd:Int) (L':List Int) (a':Int),sR ⟨L',a'⟩ (K - 190+10 * (many - n - 1)+3)→
   Ok (gK l t n Pv Pw L' a' kd) (VN (fun x:List Int×Int×List Signal×Int×Int=>(many - x.2.2.2.2).toNat) (fun x:List Int×Int×List Signal×Int×Int=>0≤x.2.2.2.2∧x.2.2.2.2≤many∧sR ⟨x.1,x.2.1⟩ (K - 190+10 * (many - x.2.2.2.2))∧Rf x.2.2.2.2 x.2.2.1∧(0≤x.2.2.2.1∧x.2.2.2.1≤20+40 * x.2.2.2.2)) (fun r=>SG many r.1∧sR r.2 (K - 200)) (L,a,l,t,n)):=by
   intro Pv Pw kd L' a' wj
   unfold gK
   split
   ·refine Ok.gen (DT wj (by omega) (by simp) (by simp)) (fun w s5 hw q5=>?_)
    exact j2 _ _ _ _ _ _ (q5.less (by omega))
   ·exact j2 _ _ _ _ _ _ (wj.less (by omega))
  split
  ·refine Ok.gen (rq q3 (by omega) (by simp) (by simp)) (fun p4 s4 h4 q4=>?_)
   exact j1 _ _ _ _ _ (q4.less (by omega))
  ·exact j1 _ _ _ _ _ (q3.less (by omega))
 ·rw [if_neg hn]
  refine Ok.inr ?_
  unfold oz
  have vI:Rf many l:=⟨by omega,g3.2⟩
  obtain ⟨Z,z1,z2,_⟩:=FR (fun y0 y1=>iu y0 y1) l (by omega) (fun x hx y hy=>ry x y)
  rw [z1]
  simp only [Option.bind_some]
  refine Ok.gen (Hd g2 (by omega) (by omega) (by omega)) (fun b s5 _ q5=>?_)
  dsimp only
  have j5:∀ (Y:List Signal) (L':List Int) (a':Int) (c:Bool),Rf many Y→(c=true→0 < (Y.length:Int))→sR ⟨L',a'⟩ (K - 194)→Ok (gL Y L' a' c) (fun r=>SG many r.1∧sR r.2 (K - 200)):=by
   intro Y L' a' c hY hc wj
   have hYl:=hY.1
   unfold gL jj
   split
   ·rename_i h
    have:=hc h
    refine Ok.gen (A9 wj (by omega) (by omega) (by omega)) (fun u s6 hu q6=>?_)
    dsimp only
    refine Ok.idx hu.1 hu.2 (fun p hp hpm=>?_)
    have hpB:=hY.2 p hpm
    unfold FU at hpB
    refine Ok.gen (rq q6 (by omega) (by simp) (by simp)) (fun v s7 hv q7=>?_)
    refine Ok.gen (Up q7 (by omega) (by omega) (by omega) (by omega)) (fun w s8 _ q8=>?_)
    refine Ok.gen (DT q8 (by omega) (by simp) (by simp)) (fun x s9 _ q9=>?_)
    dsimp only
    rw [aZ (x:=p.At+2592000000) (by omega) (by omega),aZ (x:=p.At+2592000000+1) (by omega) (by omega)]
    refine Ok.gen (rq q9 (by omega) (by simp) (by simp)) (fun y s10 hy XR=>?_)
    have h1:=XP hv
    have h2:=XQ hy
    rw [List.set_set,List.set_set,List.set_set]
    exact Ok.ret ⟨(hY.mono fun x=>FU.w).set (by unfold Bc;simp only;omega) _,XR.less (by omega)⟩
   ·exact Ok.ret ⟨hY.mono fun x=>FU.w,wj.less (by omega)⟩
  have j4:∀ (Y:List Signal),Rf many Y→Ok (gM (b,s5) Y) (fun r=>SG many r.1∧sR r.2 (K - 200)):=by
   intro Y hY
   unfold gM
   split
   ·rename_i h
    refine Ok.gen (Hd q5 (by omega) (by omega) (by omega)) (fun c s6 _ q6=>?_)
    exact j5 Y _ _ c hY (fun _=>h) (q6.less (by omega))
   ·exact j5 Y _ _ false hY (fun h=>by cases h) (q5.less (by omega))
  split
  ·rw [DV (fun y0 y1=>ji y0 y1) (fun x y=>decide (sO x y=0)) Z (by have:=z2.length_eq;omega) (fun x _ y _=>by unfold ji;rw [ry];rfl)]
   exact j4 _ ((vI.perm z2).sub (Ha _ _))
  ·exact j4 _ (vI.perm z2)
def setLast (l:List au) (t:Int):List au:=l.set (l.length - 1) ⟨(l.getD (l.length - 1) ⟨0,0⟩).bg,t⟩
theorem nY (l:List au) (t:Int):(setLast l t).length=l.length:=by unfold setLast;simp
abbrev lF (n:Int):Prop:=n=1∨n=2
def iR (x:ak) (st t:Int):ak:=
 ⟨x.aR,st,t,x.aD,x.ay,
   if lF st∧¬ lF x.az then (if lF x.az∧¬ lF st then setLast x.eV t else x.eV)++[⟨t,345686400000⟩] else if lF x.az∧¬ lF st then setLast x.eV t else x.eV,
   if st=1 then (if x.az=1 then setLast x.bC t else x.bC)++[⟨t,345686400000⟩] else if x.az=1 then setLast x.bC t else x.bC,
   x.bh,x.bf,x.aW⟩
def Rg (x:ak) (t:Int):ak:=⟨x.aR,x.az,x.bM,x.aD++[t],x.ay,x.eV,x.bC,x.bh,x.bf,x.aW⟩
def Jy (x:ak) (t:Int):ak:=⟨x.aR,x.az,x.bM,x.aD,x.ay,x.eV,x.bC,x.bh,x.bf++[t],x.aW++[t - x.aD.getD (x.aD.length - 1) 0]⟩
def vW (x:ak) (s:Signal):Int×ak:=
 if s.Kind=1 then if lF x.az then (6,x) else (0,Rg (iR x 1 s.At) s.At)
 else if s.Kind=2 then if x.az=1 then (0,iR x 3 s.At) else if x.az=2 then (0,iR x 0 s.At) else (11,x)
 else if s.Kind=3 then if x.az=3 then (0,Jy (iR x 0 s.At) s.At) else if x.az=1 then (0,Jy (iR x 2 s.At) s.At) else (11,x)
 else if s.Kind=4 then if s.At < x.ay then (11,x) else (0,⟨x.aR,x.az,x.bM,x.aD,s.aV,x.eV,x.bC,x.bh++[⟨s.At,s.aV⟩],x.bf,x.aW⟩)
 else if x.ay≤s.At then (11,x) else (0,⟨x.aR,x.az,x.bM,x.aD,s.At,x.eV,x.bC,setLast x.bh s.At,x.bf,x.aW⟩)
structure LI (k:Int) (x:ak):Prop where
 fresh:x.az=1→x.bC≠[]
 up:lF x.az→x.eV≠[]
 raised:x.az≠0→x.aD≠[]
 aside:0 < x.ay→x.bh≠[]
 rB:∀ t∈x.aD,0≤t∧t≤4398046511104
 l1:(x.aD.length:Int)≤k
 l2:(x.eV.length:Int)≤k
 l3:(x.bC.length:Int)≤k
 l4:(x.bh.length:Int)≤k
 l5:(x.bf.length:Int)≤k
 l6:(x.aW.length:Int)≤k
theorem mz {α:Type} {l:List α} (h:l≠[]) (d:α):idx l ((l.length:Int) - 1)=some (l.getD (l.length - 1) d):=by
 have:0 < l.length:=List.length_pos_iff.2 h
 unfold idx
 rw [if_pos (by omega),show ((l.length:Int) - 1).toNat=l.length - 1 by omega,List.getD_eq_getElem?_getD,List.getElem?_eq_getElem (by omega)];rfl
theorem FV {l:List au} (h:l≠[]) (hl:(l.length:Int)≤1000000):gn l=some ((l.length:Int) - 1):=by
 have:0 < l.length:=List.length_pos_iff.2 h
 unfold gn
 rw [aZ (by omega) (by omega),mz h ⟨0,0⟩];rfl
theorem wO {l:List au} (h:l≠[]) (t:Int) {w:au} (hw:idx l ((l.length:Int) - 1)=some w):l.set ((l.length:Int) - 1).toNat ⟨w.bg,t⟩=setLast l t:=by
 have:0 < l.length:=List.length_pos_iff.2 h
 rw [mz h ⟨0,0⟩] at hw
 unfold setLast
 rw [← Option.some.inj hw,show ((l.length:Int) - 1).toNat=l.length - 1 by omega]
theorem xM {k:Int} {x:ak} (h:LI k x) (hk:k≤1000) (st t:Int):fP x st t=some (iR x st t):=by
 have Gv:=h.l2;have XS:=h.l3
 have hu:∀ n:Int,(decide (n=1)||decide (n=2))=decide (lF n):=fun n=>by rw [Bool.decide_or]
 unfold fP
 rw [hu,hu]
 have j7:∀ (f u:List au),iJ x st t f u=some ⟨x.aR,st,t,x.aD,x.ay,u,f,x.bh,x.bf,x.aW⟩:=fun _ _=>rfl
 have j5:∀ (u f:List au),(u.length:Int)≤k→gp x st t (decide (lF x.az)) (decide (lF st)) u f=some ⟨x.aR,st,t,x.aD,x.ay,if lF st∧¬ lF x.az then u++[⟨t,345686400000⟩] else u,f,x.bh,x.bf,x.aW⟩:=by
  intro u f XT
  unfold gp kN
  have hc:(decide (lF st)&&!decide (lF x.az))=decide (lF st∧¬ lF x.az):=by simp
  rw [hc]
  by_cases hq:lF st∧¬ lF x.az
  ·rw [decide_eq_true hq,if_pos rfl,if_pos hq,iq (by simp;omega)];rfl
  ·rw [decide_eq_false hq,if_neg (by simp),if_neg hq];rfl
 have j4:∀ (f u:List au),(u.length:Int)≤k→(f.length:Int)≤k→gq x st t (decide (lF x.az)) (decide (lF st)) f u=some ⟨x.aR,st,t,x.aD,x.ay,if lF st∧¬ lF x.az then u++[⟨t,345686400000⟩] else u,if st=1 then f++[⟨t,345686400000⟩] else f,x.bh,x.bf,x.aW⟩:=by
  intro f u XT IU
  unfold gq
  by_cases h1:st=1
  ·rw [if_pos h1,if_pos h1,iq (by simp;omega)];exact j5 u _ XT
  ·rw [if_neg h1,if_neg h1];exact j5 u f XT
 have j2:∀ (f:List au),(f.length:Int)≤k→gr x st t (decide (lF x.az)) (decide (lF st)) f=some ⟨x.aR,st,t,x.aD,x.ay,if lF st∧¬ lF x.az then (if lF x.az∧¬ lF st then setLast x.eV t else x.eV)++[⟨t,345686400000⟩] else if lF x.az∧¬ lF st then setLast x.eV t else x.eV,if st=1 then f++[⟨t,345686400000⟩] else f,x.bh,x.bf,x.aW⟩:=by
  intro f IU
  unfold gr kO
  have hc:(decide (lF x.az)&&!decide (lF st))=decide (lF x.az∧¬ lF st):=by simp
  rw [hc]
  by_cases hq:lF x.az∧¬ lF st
  ·rw [decide_eq_true hq,if_pos rfl]
   have mb:=h.up hq.1
   rw [FV mb (by omega)]
   simp only [Option.bind_some]
   rw [mz mb ⟨0,0⟩]
   simp only [Option.bind_some]
   rw [wO mb t (mz mb ⟨0,0⟩),j4 _ _ (by rw [nY];exact Gv) IU]
   simp only [if_pos hq]
  ·rw [decide_eq_false hq,if_neg (by simp),j4 _ _ Gv IU]
   simp only [if_neg hq]
 unfold kP iR
 by_cases h1:x.az=1
 ·rw [if_pos h1]
  have mb:=h.fresh h1
  rw [FV mb (by omega)]
  simp only [Option.bind_some]
  rw [mz mb ⟨0,0⟩]
  simp only [Option.bind_some]
  rw [wO mb t (mz mb ⟨0,0⟩),j2 _ (by rw [nY];exact XS)]
  simp only [if_pos h1]
 ·rw [if_neg h1,j2 _ XS]
  simp only [if_neg h1]
theorem follow_eq {k:Int} {x:ak} (h:LI k x) (hk:k≤1000) {s:Signal} (h0:0≤s.At) (hB:Bc s) (hK:1≤s.Kind∧s.Kind≤5):jt x s=some (vW x s):=by
 unfold Bc at hB
 have RB:=h.l1;have VP:=h.l5;have hl6:=h.l6;have hl4:=h.l4
 have hu:∀ n:Int,(decide (n=1)||decide (n=2))=decide (lF n):=fun n=>by rw [Bool.decide_or]
 unfold jt vW
 by_cases k1:s.Kind=1
 ·rw [if_pos k1,if_pos k1,hu]
  unfold js
  by_cases hq:lF x.az
  ·rw [decide_eq_true hq,if_pos rfl,if_pos hq]
  ·rw [decide_eq_false hq,if_neg (by simp),if_neg hq,xM h hk]
   simp only [Option.bind_some]
   rw [iq (by show (x.aD.length+1:Nat)≤_;omega)];rfl
 ·rw [if_neg k1,if_neg k1]
  have low:∀ (mb:x.az≠0∨s.Kind=2),dq=dq:=fun _=>rfl
  have Px:∀ y:ak,y.aD=x.aD→y.bf=x.bf→y.aW=x.aW→x.aD≠[]→¬ s.Kind=2→dt s y.aR.aK y.aR.aN y.az y.bM y.aD y.ay y.eV y.bC y.bh y.bf y.aW=some (0,Jy y s.At):=by
   intro y e1 e2 e3 mb h2
   unfold dt dq Jy
   have hlen:0 < x.aD.length:=List.length_pos_iff.2 mb
   have hbl:0≤x.aD.getD (x.aD.length - 1) 0∧x.aD.getD (x.aD.length - 1) 0≤4398046511104:=h.rB _ (by rw [List.getD_eq_getElem?_getD,List.getElem?_eq_getElem (by omega)];simp)
   rw [if_pos h2,e1,e2,e3,iq (by simp;omega)]
   simp only [Option.bind_some]
   rw [aZ (by omega) (by omega),mz mb 0]
   simp only [Option.bind_some]
   rw [iq (by simp;omega),aZ (by omega) (by omega)];rfl
  have Cf:∀ y:ak,s.Kind=2→dt s y.aR.aK y.aR.aN y.az y.bM y.aD y.ay y.eV y.bC y.bh y.bf y.aW=some (0,y):=by
   intro y h2
   unfold dt dq
   rw [if_neg (fun z=>z h2)]
  by_cases k2:s.Kind=2
  ·rw [if_pos k2,if_pos k2]
   unfold fq ke gZ
   rw [decide_eq_true k2,if_pos rfl,Bool.true_and]
   by_cases s1:x.az=1
   ·rw [decide_eq_true s1,if_pos rfl,if_pos s1,xM h hk]
    simp only [Option.bind_some]
    rw [Cf _ k2];rfl
   ·rw [decide_eq_false s1,if_neg (by simp),if_neg s1]
    unfold gY
    by_cases s2:x.az=2
    ·rw [decide_eq_true s2,Bool.true_and,if_pos rfl,if_pos s2]
     unfold eJ eI
     rw [if_pos (by rfl),xM h hk]
     simp only [Option.bind_some]
     rw [Cf _ k2];rfl
    ·rw [decide_eq_false s2,if_neg (by simp),if_neg s2]
     unfold gX eJ gW
     rw [if_neg (by simp [k2]),if_neg (by simp [k2])];rfl
  ·rw [if_neg k2,if_neg k2]
   unfold fq
   by_cases k3:s.Kind=3
   ·rw [decide_eq_true k3,if_pos rfl,if_pos k3]
    unfold ke gZ
    rw [decide_eq_false k2,if_neg (by simp)]
    unfold gY
    rw [if_neg (by simp)]
    unfold gX eJ
    by_cases s3:x.az=3
    ·rw [if_pos (by simp [k2,s3]),if_pos s3,xM h hk]
     simp only [Option.bind_some]
     unfold eI
     rw [Px (iR x 0 s.At) rfl rfl rfl (h.raised (by omega)) k2];rfl
    ·rw [if_neg (by simp [s3]),if_neg s3]
     unfold gW
     by_cases s1:x.az=1
     ·rw [if_pos (by simp [k2,s1]),if_pos s1,xM h hk]
      simp only [Option.bind_some]
      unfold eI
      rw [Px (iR x 2 s.At) rfl rfl rfl (h.raised (by omega)) k2];rfl
     ·rw [if_neg (by simp [s1]),if_neg s1];rfl
   ·rw [decide_eq_false k3,if_neg (by simp),if_neg k3]
    by_cases k4:s.Kind=4
    ·rw [if_pos k4,if_pos k4]
     by_cases hs:s.At < x.ay
     ·rw [if_pos hs,if_pos hs]
     ·rw [if_neg hs,if_neg hs,iq (by simp;omega)];rfl
    ·rw [if_neg k4,if_neg k4]
     by_cases hs:x.ay≤s.At
     ·rw [if_pos hs,if_pos hs]
     ·rw [if_neg hs,if_neg hs]
      have mb:=h.aside (by omega)
      rw [aZ (by omega) (by omega),mz mb ⟨0,0⟩]
      simp only [Option.bind_some]
      rw [wO mb s.At (mz mb ⟨0,0⟩)]
theorem LZ {x:ak} {st t:Int} (h:st=1):(iR x st t).bC≠[]:=by
 unfold iR
 simp only [h,if_true]
 simp
theorem iV {k:Int} {x:ak} (h:LI k x) {st t:Int} (hs:lF st):(iR x st t).eV≠[]:=by
 unfold iR
 simp only
 by_cases hx:lF x.az
 ·rw [if_neg (fun z=>z.2 hx),if_neg (fun z=>z.2 hs)];exact h.up hx
 ·rw [if_pos ⟨hs,hx⟩];simp
theorem Ur (x:ak) (st t:Int):(iR x st t).eV.length≤x.eV.length+1:=by
 unfold iR
 simp only
 repeat' split
 all_goals simp [nY]
theorem Us (x:ak) (st t:Int):(iR x st t).bC.length≤x.bC.length+1:=by
 unfold iR
 simp only
 repeat' split
 all_goals simp [nY]
theorem LI.mono {k k':Int} {x:ak} (h:LI k x) (hk:k≤k'):LI k' x:=
 ⟨h.fresh,h.up,h.raised,h.aside,h.rB,by have:=h.l1;omega,by have:=h.l2;omega,by have:=h.l3;omega,by have:=h.l4;omega,by have:=h.l5;omega,by have:=h.l6;omega⟩
theorem LI.DX {k:Int} {x:ak} (h:LI k x) {st t:Int} (hr:st≠0→x.aD≠[]):LI (k+1) (iR x st t):=
 ⟨fun h1=>LZ h1,fun h1=>iV h h1,hr,h.aside,h.rB,by have:=h.l1;show (x.aD.length:Int)≤_;omega,by have:=h.l2;have:=Ur x st t;omega,by have:=h.l3;have:=Us x st t;omega,by have:=h.l4;show (x.bh.length:Int)≤_;omega,by have:=h.l5;show (x.bf.length:Int)≤_;omega,by have:=h.l6;show (x.aW.length:Int)≤_;omega⟩
theorem LI.Px {k:Int} {x:ak} (h:LI k x) {st t:Int} (hr:st≠0→x.aD≠[]) (u:Int):LI (k+1) (Jy (iR x st t) u):=by
 have q:=h.DX (t:=t) hr
 refine ⟨q.fresh,q.up,q.raised,q.aside,q.rB,q.l1,q.l2,q.l3,q.l4,?_,?_⟩
 ·have:=h.l5;show ((x.bf++[u]).length:Int)≤_;simp;omega
 ·have:=h.l6;show ((x.aW++[u - x.aD.getD (x.aD.length - 1) 0]).length:Int)≤_;simp;omega
theorem LI.step {k:Int} {x:ak} (h:LI k x) {s:Signal} (h0:0≤s.At) (hB:Bc s):LI (k+1) (vW x s).2:=by
 unfold Bc at hB
 have hl4:=h.l4
 have same:LI (k+1) x:=h.mono (by omega)
 unfold vW
 split
 ·split
  ·exact same
  ·have RB:=h.l1
   have Gv:=h.l2;have XS:=h.l3;have VP:=h.l5;have hl6:=h.l6
   have t2:=Ur x 1 s.At;have t3:=Us x 1 s.At
   refine ⟨fun _=>LZ rfl,fun _=>iV h (.inl rfl),fun _=>by show x.aD++[s.At]≠[];simp,h.aside,?_,?_,?_,?_,?_,?_,?_⟩
   ·intro t ht
    rcases List.mem_append.1 (show t∈x.aD++[s.At] from ht) with e | e
    ·exact h.rB t e
    ·rw [List.mem_singleton] at e;subst e;omega
   ·show ((x.aD++[s.At]).length:Int)≤_;simp;omega
   ·show ((iR x 1 s.At).eV.length:Int)≤_;omega
   ·show ((iR x 1 s.At).bC.length:Int)≤_;omega
   ·show (x.bh.length:Int)≤_;omega
   ·show (x.bf.length:Int)≤_;omega
   ·show (x.aW.length:Int)≤_;omega
 ·split
  ·split
   ·rename_i s1;exact h.DX fun _=>h.raised (by omega)
   ·split
    ·exact h.DX fun z=>absurd rfl z
    ·exact same
  ·split
   ·split
    ·exact h.Px (fun z=>absurd rfl z) _
    ·split
     ·rename_i s1;exact h.Px (fun _=>h.raised (by omega)) _
     ·exact same
   ·split
    ·split
     ·exact same
     ·exact ⟨same.fresh,same.up,same.raised,fun _=>by show x.bh++_≠[];simp,same.rB,same.l1,same.l2,same.l3,by show ((x.bh++_).length:Int)≤_;simp;omega,same.l5,same.l6⟩
    ·split
     ·exact same
     ·rename_i hs
      have mb:=h.aside (by omega)
      have tc:0 < x.bh.length:=List.length_pos_iff.2 mb
      exact ⟨same.fresh,same.up,same.raised,fun _=>by
       show setLast x.bh s.At≠[]
       rw [← List.length_pos_iff,nY];exact tc,same.rB,same.l1,same.l2,same.l3,by show ((setLast x.bh s.At).length:Int)≤_;rw [nY];omega,same.l5,same.l6⟩
def sa (t:an) (s:Signal) (st:Int) (w:au):an:=⟨t.aK,t.aN,t.bq++[s],st,w⟩
abbrev MX (t:an) (s:Signal):Prop:=t.ay.bg≤s.At∧s.At < t.ay.To
def Eh (t:an) (s:Signal):Int×an:=
 if s.Kind=1 then if lF t.az then (6,t) else (0,sa t s 1 t.ay)
 else if s.Kind=2 then if t.az=1 then (0,sa t s 3 t.ay) else if t.az=2 then (0,sa t s 0 t.ay) else (11,t)
 else if s.Kind=3 then if t.az=3 then (0,sa t s 0 t.ay) else if t.az=1 then (0,sa t s 2 t.ay) else (11,t)
 else if s.Kind=4 then if MX t s then (11,t) else (0,sa t s t.az ⟨s.At,s.aV⟩)
 else if MX t s then (0,sa t s t.az ⟨0,0⟩) else (11,t)
theorem step_eq {t:an} (hl:(t.bq.length:Int)≤1000) (s:Signal):oE t s=some (Eh t s):=by
 have hu:(decide (t.az=1)||decide (t.az=2))=decide (lF t.az):=by rw [Bool.decide_or]
 have j3:∀ st a b:Int,iX t s st a b=some (0,sa t s st ⟨a,b⟩):=fun st a b=>by
  unfold iX
  rw [iq (by simp;omega)];rfl
 unfold oE ny Eh
 rw [hu]
 unfold nx
 by_cases k1:s.Kind=1
 ·rw [if_pos k1,if_pos k1]
  by_cases hq:lF t.az
  ·rw [decide_eq_true hq,if_pos rfl,if_pos hq]
  ·rw [decide_eq_false hq,if_neg (by simp),if_neg hq,j3]
 ·rw [if_neg k1,if_neg k1]
  by_cases k2:s.Kind=2
  ·rw [if_pos k2,if_pos k2]
   by_cases s1:t.az=1
   ·rw [decide_eq_true (show lF t.az from .inl s1),if_neg (by simp),if_pos s1,s1]
    unfold fQ
    rw [show yM (gV (gV ([]:List (Int×Int)) 1 3) 2 0) 1 0=some 3 by decide]
    simp only [Option.bind_some,j3]
   ·by_cases s2:t.az=2
    ·rw [decide_eq_true (show lF t.az from .inr s2),if_neg (by simp),if_neg s1,if_pos s2,s2]
     unfold fQ
     rw [show yM (gV (gV ([]:List (Int×Int)) 1 3) 2 0) 2 0=some 0 by decide]
     simp only [Option.bind_some,j3]
    ·rw [decide_eq_false (show ¬ lF t.az from fun z=>z.elim s1 s2),if_pos (by simp),if_neg s1,if_neg s2]
  ·rw [if_neg k2,if_neg k2]
   by_cases k3:s.Kind=3
   ·rw [if_pos k3,if_pos k3]
    unfold nw iY fQ
    by_cases s3:t.az=3
    ·rw [if_neg (by simp [s3]),if_pos s3,s3]
     rw [show yM (gV (gV ([]:List (Int×Int)) 1 2) 3 0) 3 0=some 0 by decide]
     simp only [Option.bind_some,j3]
    ·by_cases s1:t.az=1
     ·rw [if_neg (by simp [s1]),if_neg s3,if_pos s1,s1]
      rw [show yM (gV (gV ([]:List (Int×Int)) 1 2) 3 0) 1 0=some 2 by decide]
      simp only [Option.bind_some,j3]
     ·rw [if_pos (by simp [s1,s3]),if_neg s3,if_neg s1]
   ·rw [if_neg k3,if_neg k3]
    have ho:(decide (t.ay.bg≤s.At)&&decide (s.At < t.ay.To))=decide (MX t s):=by rw [Bool.decide_and]
    rw [ho]
    unfold k7 iY fQ
    by_cases k4:s.Kind=4
    ·rw [if_pos k4,if_pos k4]
     by_cases hq:MX t s
     ·rw [decide_eq_true hq,if_pos rfl,if_pos hq]
     ·rw [decide_eq_false hq,if_neg (by simp),if_neg hq,j3]
    ·rw [if_neg k4,if_neg k4]
     by_cases hq:MX t s
     ·rw [decide_eq_true hq,if_neg (by simp),if_pos hq,j3]
     ·rw [decide_eq_false hq,if_pos (by simp),if_neg hq]
def ei (l:List Signal):List Int:=(l.filter (fun s=>decide (s.Kind=1))).map Signal.At
def qG (l:List Signal):Int:=l.foldl (fun a s=>if s.Kind≤3 then s.At else a) 0
structure RT (T:Int) (x:ak) (t:an):Prop where
 dev:x.aR.aK=t.aK
 R9:x.aR.aN=t.aN
 st:x.az=t.az
 tD:x.aD=ei t.bq
 since:x.bM=qG t.bq
 from_:t.ay.bg≤T
 sh:x.ay=t.ay.To∨(x.ay≤T∧t.ay.To≤T)
theorem nn (l:List Signal) (s:Signal):ei (l++[s])=if s.Kind=1 then ei l++[s.At] else ei l:=by
 unfold ei
 rw [List.filter_append]
 by_cases h:s.Kind=1<;>simp [h]
theorem xN (l:List Signal) (s:Signal):qG (l++[s])=if s.Kind≤3 then s.At else qG l:=by
 unfold qG
 rw [List.foldl_append];rfl
theorem RT.mono {T T':Int} {x:ak} {t:an} (h:RT T x t) (hT:T≤T'):RT T' x t:=
 ⟨h.dev,h.R9,h.st,h.tD,h.since,by have:=h.from_;omega,h.sh.imp id fun z=>⟨by omega,by omega⟩⟩
theorem RT.step {T:Int} {x:ak} {t:an} (h:RT T x t) {s:Signal} (hT:T≤s.At) (h0:0≤s.At) (hK:1≤s.Kind∧s.Kind≤5):(vW x s).1=(Eh t s).1∧RT s.At (vW x s).2 (Eh t s).2:=by
 have hm:=h.mono hT
 have wq:=h.st
 have DX:∀ (y:ak) (st:Int),y.aR=x.aR→y.az=st→y.bM=s.At→y.ay=x.ay→s.Kind≤3→(y.aD=if s.Kind=1 then x.aD++[s.At] else x.aD)→RT s.At y (sa t s st t.ay):=by
  intro y st e1 e2 e3 e4 hk e5
  refine ⟨by rw [e1];exact h.dev,by rw [e1];exact h.R9,e2,?_,?_,hm.from_,by rw [e4];exact hm.sh⟩
  ·show y.aD=ei (t.bq++[s])
   rw [nn,← h.tD];exact e5
  ·show y.bM=qG (t.bq++[s])
   rw [xN,if_pos hk];exact e3
 unfold vW Eh
 rw [← wq]
 by_cases k1:s.Kind=1
 ·rw [if_pos k1,if_pos k1]
  by_cases hq:lF x.az
  ·rw [if_pos hq,if_pos hq];exact ⟨rfl,hm⟩
  ·rw [if_neg hq,if_neg hq];exact ⟨rfl,DX _ 1 rfl rfl rfl rfl (by omega) (by rw [if_pos k1];rfl)⟩
 ·rw [if_neg k1,if_neg k1]
  by_cases k2:s.Kind=2
  ·rw [if_pos k2,if_pos k2]
   by_cases s1:x.az=1
   ·rw [if_pos s1,if_pos s1];exact ⟨rfl,DX _ 3 rfl rfl rfl rfl (by omega) (by rw [if_neg k1];rfl)⟩
   ·rw [if_neg s1,if_neg s1]
    by_cases s2:x.az=2
    ·rw [if_pos s2,if_pos s2];exact ⟨rfl,DX _ 0 rfl rfl rfl rfl (by omega) (by rw [if_neg k1];rfl)⟩
    ·rw [if_neg s2,if_neg s2];exact ⟨rfl,hm⟩
  ·rw [if_neg k2,if_neg k2]
   by_cases k3:s.Kind=3
   ·rw [if_pos k3,if_pos k3]
    by_cases s3:x.az=3
    ·rw [if_pos s3,if_pos s3];exact ⟨rfl,DX _ 0 rfl rfl rfl rfl (by omega) (by rw [if_neg k1];rfl)⟩
    ·rw [if_neg s3,if_neg s3]
     by_cases s1:x.az=1
     ·rw [if_pos s1,if_pos s1];exact ⟨rfl,DX _ 2 rfl rfl rfl rfl (by omega) (by rw [if_neg k1];rfl)⟩
     ·rw [if_neg s1,if_neg s1];exact ⟨rfl,hm⟩
   ·rw [if_neg k3,if_neg k3]
    have MG:MX t s↔s.At < x.ay:=by
     have:=hm.from_
     rcases h.sh with e | e
     ·rw [e];exact ⟨fun z=>z.2,fun z=>⟨this,z⟩⟩
     ·exact ⟨fun z=>by have:=z.2;omega,fun z=>by omega⟩
    have put:∀ (y:ak) (w:au),y.aR=x.aR→y.az=x.az→y.bM=x.bM→y.aD=x.aD→w.bg≤s.At→(y.ay=w.To∨(y.ay≤s.At∧w.To≤s.At))→RT s.At y (sa t s x.az w):=by
     intro y w e1 e2 e3 e4 e5 e6
     refine ⟨by rw [e1];exact h.dev,by rw [e1];exact h.R9,e2,?_,?_,e5,e6⟩
     ·show y.aD=ei (t.bq++[s])
      rw [nn,if_neg k1,e4];exact h.tD
     ·show y.bM=qG (t.bq++[s])
      rw [xN,if_neg (by omega),e3];exact h.since
    by_cases k4:s.Kind=4
    ·rw [if_pos k4,if_pos k4]
     by_cases hs:s.At < x.ay
     ·rw [if_pos hs,if_pos (MG.2 hs)];exact ⟨rfl,hm⟩
     ·rw [if_neg hs,if_neg (fun z=>hs (MG.1 z))];exact ⟨rfl,put _ _ rfl rfl rfl rfl (Int.le_refl _) (.inl rfl)⟩
    ·rw [if_neg k4,if_neg k4]
     by_cases hs:s.At < x.ay
     ·rw [if_neg (by omega),if_pos (MG.2 hs)];exact ⟨rfl,put _ _ rfl rfl rfl rfl h0 (.inr ⟨Int.le_refl _,h0⟩)⟩
     ·rw [if_pos (by omega),if_neg (fun z=>hs (MG.1 z))];exact ⟨rfl,hm⟩
def Bq (a b:aq):Int:=wM [Lib.compareBytes a.aK b.aK,Lib.compareBytes a.aN b.aN]
theorem yV:oS Bq:=(pb.on aq.aK).or ((pb.on aq.aN).or .or0)
theorem FW {a b:aq} (h:Bq a b=0):a=b:=by
 have h1:=lE (xL h _ (by simp):Lib.compareBytes a.aK b.aK=0)
 have h2:=lE (xL h _ (by simp):Lib.compareBytes a.aN b.aN=0)
 cases a;cases b
 simp only at h1 h2
 rw [h1,h2]
def kU (s:Signal):aq:=⟨s.Device,s.a8⟩
theorem DY (x y:ak):gP x y=some (Bq x.aR y.aR):=by
 unfold gP qy
 have h:jF [Lib.compareBytes x.aR.aK y.aR.aK,Lib.compareBytes x.aR.aN y.aR.aN]=some (Bq x.aR y.aR):=A5 _ (by simp)
 rw [h];rfl
theorem Hf (x y:an):ly x y=some (Bq ⟨x.aK,x.aN⟩ ⟨y.aK,y.aN⟩):=by
 unfold ly
 have h:jF [Lib.compareBytes x.aK y.aK,Lib.compareBytes x.aN y.aN]=some (Bq ⟨x.aK,x.aN⟩ ⟨y.aK,y.aN⟩):=A5 _ (by simp)
 rw [h];rfl
def uY (l:List Signal):List aq:=(l.map kU).foldl ui []
theorem sT (l:List Signal):(uY l).Nodup:=(tC _ _ (by simp)).1
theorem zM (l:List Signal) (n:aq):n∈uY l↔n∈l.map kU:=by
 unfold uY;rw [(tC _ _ (by simp)).2.1 n];simp
theorem xO (l:List Signal):(uY l).length≤l.length:=by
 have:=(tC (l.map kU) ([]:List aq) (by simp)).2.2
 unfold uY;simpa using this
theorem sU (l:List Signal) (s:Signal):uY (l++[s])=ui (uY l) (kU s):=by
 unfold uY;rw [List.map_append,List.foldl_append];rfl
theorem IB (a b:aq):wB.lt a b=(wB.lt a.aK b.aK||(decide (a.aK=b.aK)&&wB.lt a.aN b.aN)):=by
 show (wB.lt a.aK b.aK||(decide (a.aK=b.aK)&&(wB.lt a.aN b.aN||(decide (a.aN=b.aN)&&false))))=_
 simp
instance:xI aq where
 JZ a:=by rw [IB,xI.JZ,xI.JZ];simp
 tr {a b c} h1 h2:=by
  rw [IB] at *
  simp only [Bool.or_eq_true,Bool.and_eq_true,decide_eq_true_eq] at *
  rcases h1 with h1 | ⟨e1,h1⟩
  ·rcases h2 with h2 | ⟨e2,h2⟩
   ·exact .inl (xI.tr h1 h2)
   ·exact .inl (by rw [← e2];exact h1)
  ·rcases h2 with h2 | ⟨e2,h2⟩
   ·exact .inl (by rw [e1];exact h2)
   ·exact .inr ⟨e1.trans e2,xI.tr h1 h2⟩
 Ra a b:=by
  rw [IB,IB]
  simp only [Bool.or_eq_true,Bool.and_eq_true,decide_eq_true_eq]
  rcases xI.Ra a.aK b.aK with h | h | h
  ·exact .inl (.inl h)
  ·rcases xI.Ra a.aN b.aN with g | g | g
   ·exact .inl (.inr ⟨h,g⟩)
   ·right;left;cases a;cases b;simp only at h g;rw [h,g]
   ·exact .inr (.inr (.inr ⟨h.symm,g⟩))
  ·exact .inr (.inr (.inl h))
theorem Jz {A B:List aq} (ha:A.Pairwise (fun a b=>Bq a b < 0)) (hb:B.Pairwise (fun a b=>Bq a b < 0)) (h:∀ n,n∈A↔n∈B):A=B:=
 tB ((List.perm_ext_iff_of_nodup (Bb yV ha) (Bb yV hb)).2 h) (LY yV ha) (LY yV hb) (fun a _ b _ k1 k2=>by
  have:=yV.neg a b
  exact FW (by omega))
def places (n:Nat):List Int:=(List.range n).map fun (i:Nat)=>(i:Int)
theorem yW (n:Nat):places (n+1)=places n++[(n:Int)]:=by unfold places;rw [List.range_succ,List.map_append];rfl
theorem tE (n:Nat):(places n).length=n:=by unfold places;simp
theorem gy {n:Nat} {i:Int}:i∈places n↔0≤i∧i < n:=by
 unfold places
 simp only [List.mem_map,List.mem_range]
 constructor
 ·rintro ⟨a,h,rfl⟩;omega
 ·rintro ⟨h1,h2⟩;exact ⟨i.toNat,by omega,by omega⟩
theorem Hg {n:Nat} {i:Int} (h:0≤i∧i < n):idx (places n) i=some i:=by
 unfold idx places
 rw [if_pos h.1,List.getElem?_map,List.getElem?_range (by omega)]
 simp only [Option.map_some,Option.some.injEq];omega
def at_ {α:Type} (d:α) (l:List α) (i:Int):α:=l.getD i.toNat d
theorem tF {α:Type} {d:α} {l:List α} {i:Int} (h0:0≤i) (h1:i < l.length):idx l i=some (at_ d l i):=by
 unfold idx at_
 rw [if_pos h0,List.getD_eq_getElem?_getD,List.getElem?_eq_getElem (by omega)];rfl
theorem sV {α β:Type} (f:α→β) (xs:List α) (i:Int):idx (xs.map f) i=(idx xs i).map f:=by
 unfold idx
 split
 ·rw [List.getElem?_map]
 ·rfl
theorem Be {V:Type} (fn:V→V→Option Int) (key:V→aq) (KU:∀ x y,fn x y=some (Bq (key x) (key y))) (M:List aq) (hM:M.Nodup) (hl:(M.length:Int)≤1000) (G:aq→V) (hG:∀ n,key (G n)=n):
 ∃ r,Fc fn (M.map G) (places M.length)=some r∧r.Perm (places M.length)∧(r.map (at_ ⟨[],[]⟩ M)).Pairwise (fun a b=>Bq a b < 0):=by
 have Bw:∀ i∈places M.length,idx (M.map G) i=some (G (at_ ⟨[],[]⟩ M i)):=fun i hi=>by
  have:=gy.1 hi
  rw [sV,tF this.1 this.2];rfl
 obtain ⟨r,r1,r2,r3⟩:=FJ (fun i j=>(idx (M.map G) i).bind fun x=>(idx (M.map G) j).bind fun y=>fn x y) (fun i j=>Bq (at_ ⟨[],[]⟩ M i) (at_ ⟨[],[]⟩ M j)) (places M.length) (by rw [tE];omega)
  (fun a ha b hb=>by rw [Bw a ha,Bw b hb];simp only [Option.bind_some];rw [KU,hG,hG]) ((yV.on (at_ ⟨[],[]⟩ M)).ord _)
 refine ⟨r,r1,r2,?_⟩
 have vf:r.Nodup:=r2.nodup_iff.2 (by
  unfold places
  exact List.Pairwise.map (S:=(· ≠·)) (fun (i:Nat)=>(i:Int)) (fun a b h e=>h (by have e1:(a:Int)=b:=e;omega)) List.nodup_range)
 rw [List.pairwise_map]
 have hs:r.Pairwise (fun a b=>¬ Bq (at_ ⟨[],[]⟩ M b) (at_ ⟨[],[]⟩ M a) < 0):=r3
 refine (hs.and vf).imp_of_mem (fun {a b} ha hb h=>?_)
 have h1:=gy.1 (r2.mem_iff.1 ha)
 have h2:=gy.1 (r2.mem_iff.1 hb)
 have hn:=yV.neg (at_ ⟨[],[]⟩ M a) (at_ ⟨[],[]⟩ M b)
 by_cases h0:Bq (at_ ⟨[],[]⟩ M a) (at_ ⟨[],[]⟩ M b)=0
 ·exfalso
  have e:=FW h0
  unfold at_ at e
  rw [List.getD_eq_getElem?_getD,List.getD_eq_getElem?_getD,List.getElem?_eq_getElem (by omega),List.getElem?_eq_getElem (by omega)] at e
  have:=(List.getElem_inj hM).1 e
  exact h.2 (by omega)
 ·have:=h.1;omega
def kF (n:aq):ak:=⟨n,0,0,[],0,[],[],[],[],[]⟩
structure HK (H:bO) (N:List aq) (F:aq→ak) (ix:aq→Int):Prop where
 one:∀ n∈N,eB H.rD n=some (ix n)∧idx H.BN (ix n)=some (F n)
 non:∀ n,n∉N→eB H.rD n=none
 ord:H.jX=N.map ix
 inj:∀ m∈N,∀ n∈N,ix m=ix n→m=n
theorem FX {α:Type} {l:List α} {i j:Int} {v u:α} (h:idx l i=some u):idx (l.set i.toNat v) j=if i=j then some v else idx l j:=by
 obtain ⟨h0,h1,_⟩:=cV h
 by_cases e:i=j
 ·subst e;rw [if_pos rfl];exact fA h
 ·rw [if_neg e]
  unfold idx
  split
  ·rw [List.getElem?_set_ne (by omega)]
  ·rfl
def uZ {V:Type} (F:aq→V) (n:aq) (v:V):aq→V:=fun m=>if m=n then v else F m
theorem HK.set {H:bO} {N:List aq} {F:aq→ak} {ix:aq→Int} (h:HK H N F ix) {n:aq} (hn:n∈N) (v:ak):HK ⟨H.rD,H.jX,H.BN.set (ix n).toNat v⟩ N (uZ F n v) ix:=by
 refine ⟨fun m hm=>⟨(h.one m hm).1,?_⟩,h.non,h.ord,h.inj⟩
 show idx (H.BN.set (ix n).toNat v) (ix m)=_
 rw [FX (h.one n hn).2]
 unfold uZ
 by_cases e:m=n
 ·subst e;rw [if_pos rfl,if_pos rfl]
 ·rw [if_neg (fun z=>e (h.inj m hm n hn z.symm)),if_neg e];exact (h.one m hm).2
def pos (M:List aq) (n:aq):Int:=(M.idxOf n:Int)
theorem pos_at {M:List aq} {n:aq} (h:n∈M):0≤pos M n∧pos M n < M.length∧idx M (pos M n)=some n:=by
 have:=List.idxOf_lt_length_of_mem h
 unfold pos
 refine ⟨by omega,by omega,?_⟩
 unfold idx
 rw [if_pos (by omega),Int.toNat_natCast,List.getElem?_eq_getElem this,List.getElem_idxOf]
theorem OH {M:List aq} {m n:aq} (hm:m∈M) (hn:n∈M) (h:pos M m=pos M n):m=n:=by
 have h1:=(pos_at hm).2.2;have h2:=(pos_at hn).2.2
 rw [h,h2] at h1
 exact (Option.some.inj h1).symm
theorem IC {M:List aq} {m n:aq} (hm:m∈M):pos (M++[n]) m=pos M m:=by
 unfold pos;rw [List.idxOf_append,if_pos hm]
theorem DZ {M:List aq} {n:aq} (hn:n∉M):pos (M++[n]) n=M.length:=by
 unfold pos
 rw [List.idxOf_append,if_neg hn];simp
theorem FY (l:List Signal) (hl:(l.length:Int)≤1000):∃ H N ix,mo l=some H∧HK H N kF ix∧N.Pairwise (fun a b=>Bq a b < 0)∧∀ n,n∈N↔n∈l.map kU:=by
 let Inv:Int→(List (aq×Int)×List aq)→Prop:=fun i s=>s.2=uY (l.take i.toNat)∧SM s.1∧∀ n,eB s.1 n=if n∈s.2 then some (pos s.2 n) else none
 let CC:(List (aq×Int)×List aq)→Signal→(List (aq×Int)×List aq):=fun s x=>if kU x∈s.2 then s else (gV s.1 (kU x) (s.2.length:Int),s.2++[kU x])
 have main:=eK (A:=bO) l (fun (s:List (aq×Int)×List aq) (i:Int)=>(s.1,s.2.map kF,places s.2.length,i)) (fun x:(List (aq×Int))×(List ak)×(List Int)×Int=>dR l x.1 x.2.1 x.2.2.1 x.2.2.2) CC Inv (fun s=>lR s.1 (s.2.map kF) (places s.2.length))
  (fun s i x h0 h1 hx hv=>by
   obtain ⟨v1,v2,v3⟩:=hv
   have ht:l.take (i+1).toNat=l.take i.toNat++[x]:=take_succ h0 hx
   have hlen:=xO (l.take i.toNat)
   rw [← v1] at hlen
   have RR:(l.take i.toNat).length≤l.length:=by rw [List.length_take];exact Nat.min_le_right _ _
   have hnx:(⟨x.Device,x.a8⟩:aq)=kU x:=rfl
   show dR l s.1 (s.2.map kF) (places s.2.length) i=some (.inl ((CC s x).1,(CC s x).2.map kF,places (CC s x).2.length,i+1))∧Inv (i+1) (CC s x)
   rw [dR,if_pos h1,hx]
   simp only [Option.bind_some]
   rw [hnx,v3 (kU x)]
   unfold jr
   rw [aZ (by omega) (by omega)]
   by_cases hm:kU x∈s.2
   ·rw [if_pos hm]
    have es:CC s x=s:=if_pos hm
    rw [es]
    refine ⟨rfl,?_,v2,v3⟩
    rw [ht,sU,← v1]
    unfold ui;rw [if_pos hm]
   ·rw [if_neg hm]
    have es:CC s x=(gV s.1 (kU x) (s.2.length:Int),s.2++[kU x]):=if_neg hm
    rw [es,uF]
    have hg:BK (s.2.map kF).length ((s.1.map Prod.snd)++places s.2.length)=some ():=by
     unfold BK
     rw [if_pos]
     intro j hj
     rw [List.length_map]
     rcases List.mem_append.1 hj with h | h
     ·obtain ⟨⟨n,v⟩,he,rfl⟩:=List.mem_map.1 h
      have Rz:=(SM.xJ v2).2 he
      rw [v3 n] at Rz
      split at Rz
      ·rename_i hn
       obtain rfl:=Option.some.inj Rz
       exact ⟨(pos_at hn).1,(pos_at hn).2.1⟩
      ·cases Rz
     ·exact gy.1 h
    rw [hg]
    simp only [Option.bind_some]
    rw [iq (by rw [tE];simp;omega)]
    simp only [Option.bind_some,List.length_map]
    refine ⟨?_,?_,v2.set _ _,fun n=>?_⟩
    ·rw [List.map_append,List.length_append,List.length_singleton,yW];rfl
    ·rw [ht,sU,← v1]
     unfold ui;rw [if_neg hm]
    ·rw [sQ,v3 n]
     by_cases e:kU x=n
     ·subst e
      rw [if_pos rfl,if_pos (by simp),DZ hm]
     ·rw [if_neg e]
      by_cases hn:n∈s.2
      ·rw [if_pos hn,if_pos (by simp [hn]),IC hn]
      ·rw [if_neg hn,if_neg (by simp [hn];exact fun z=>e z.symm)])
  (fun s hv=>by
   show dR l s.1 _ _ l.length=_
   rw [dR,if_neg (by omega)]) ([],[]) ⟨rfl,SM.nil,fun n=>rfl⟩
 have Ut:Inv l.length (l.foldl CC ([],[])):=by
  have key:∀ (k:Nat),k≤l.length→Inv k ((l.take k).foldl CC ([],[])):=by
   intro k
   induction k with
   | zero=>intro _;exact ⟨rfl,SM.nil,fun n=>rfl⟩
   | succ k ih=>
     intro hk
     obtain ⟨v1,v2,v3⟩:=ih (by omega)
     have hx:idx l (k:Int)=some l[k]:=by unfold idx;rw [if_pos (by omega),Int.toNat_natCast,List.getElem?_eq_getElem (by omega)]
     have ht:l.take (k+1)=l.take k++[l[k]]:=by rw [List.take_succ_eq_append_getElem]
     generalize hs:(l.take k).foldl CC ([],[])=s at v1 v2 v3
     have e:(l.take (k+1)).foldl CC ([],[])=CC s l[k]:=by rw [ht,List.foldl_append,hs];rfl
     rw [e]
     have Pn:((k+1:Nat):Int).toNat=k+1:=by omega
     have MN:((k:Nat):Int).toNat=k:=by omega
     rw [MN] at v1
     by_cases hm:kU l[k]∈s.2
     ·have es:CC s l[k]=s:=if_pos hm
      rw [es]
      refine ⟨?_,v2,v3⟩
      rw [Pn,ht,sU,← v1]
      unfold ui;rw [if_pos hm]
     ·have es:CC s l[k]=(gV s.1 (kU l[k]) (s.2.length:Int),s.2++[kU l[k]]):=if_neg hm
      rw [es]
      refine ⟨?_,v2.set _ _,fun n=>?_⟩
      ·rw [Pn,ht,sU,← v1]
       unfold ui;rw [if_neg hm]
      ·show eB (gV s.1 (kU l[k]) (s.2.length:Int)) n=if n∈s.2++[kU l[k]] then some (pos (s.2++[kU l[k]]) n) else none
       rw [sQ,v3 n]
       by_cases e:kU l[k]=n
       ·subst e
        rw [if_pos rfl,if_pos (by simp),DZ hm]
       ·rw [if_neg e]
        by_cases hn:n∈s.2
        ·rw [if_pos hn,if_pos (by simp [hn]),IC hn]
        ·rw [if_neg hn,if_neg (by simp [hn];exact fun z=>e z.symm)]
  have:=key l.length (Nat.le_refl _)
  rwa [List.take_length] at this
 generalize l.foldl CC ([],[])=s at main Ut
 obtain ⟨v1,v2,v3⟩:=Ut
 rw [Int.toNat_natCast,List.take_length] at v1
 have vf:s.2.Nodup:=by rw [v1];exact sT l
 have RE:s.2.length≤l.length:=by rw [v1];exact xO l
 obtain ⟨r,r1,r2,r3⟩:=Be (fun y0 y1=>gP y0 y1) ak.aR DY s.2 vf (by omega) kF (fun n=>rfl)
 refine ⟨⟨s.1,r,s.2.map kF⟩,r.map (at_ ⟨[],[]⟩ s.2),pos s.2,?_,?_,r3,?_⟩
 ·unfold mo r6
  refine main.trans ?_
  unfold lR
  rw [r1];rfl
 ·have qp:∀ n,n∈r.map (at_ ⟨[],[]⟩ s.2)↔n∈s.2:=by
   intro n
   rw [List.mem_map]
   constructor
   ·rintro ⟨i,hi,rfl⟩
    have:=gy.1 (r2.mem_iff.1 hi)
    exact jS (tF this.1 this.2)
   ·intro hn
    have hp:=pos_at hn
    refine ⟨pos s.2 n,r2.mem_iff.2 (gy.2 ⟨hp.1,hp.2.1⟩),?_⟩
    have:=tF (d:=(⟨[],[]⟩:aq)) hp.1 hp.2.1
    rw [hp.2.2] at this
    exact (Option.some.inj this).symm
  refine ⟨fun n hn=>?_,fun n hn=>?_,?_,fun m hm n hn=>OH ((qp m).1 hm) ((qp n).1 hn)⟩
  ·have MM:=(qp n).1 hn
   exact ⟨by rw [v3 n,if_pos MM],by rw [sV,(pos_at MM).2.2];rfl⟩
  ·rw [v3 n,if_neg (fun z=>hn ((qp n).2 z))]
  ·rw [List.map_map]
   refine (List.map_congr_left (g:=id) fun i hi=>?_).trans (List.map_id r)|>.symm
   have PV:=gy.1 (r2.mem_iff.1 hi)
   have e1:=tF (d:=(⟨[],[]⟩:aq)) PV.1 PV.2
   have hn:=jS e1
   have e2:=(pos_at hn).2
   show pos s.2 (at_ ⟨[],[]⟩ s.2 i)=i
   have h0:=cV e1;have h3:=cV e2.2
   have:i.toNat=(pos s.2 (at_ ⟨[],[]⟩ s.2 i)).toNat:=by
    have a1:=List.getElem?_eq_some_iff.1 h0.2.2
    have a2:=List.getElem?_eq_some_iff.1 h3.2.2
    obtain ⟨b1,c1⟩:=a1
    obtain ⟨b2,c2⟩:=a2
    exact (List.getElem_inj vf).1 (c1.trans c2.symm)
   omega
 ·intro n
  rw [← zM,← v1,List.mem_map]
  constructor
  ·rintro ⟨i,hi,rfl⟩
   have:=gy.1 (r2.mem_iff.1 hi)
   exact jS (tF this.1 this.2)
  ·intro hn
   have hp:=pos_at hn
   refine ⟨pos s.2 n,r2.mem_iff.2 (gy.2 ⟨hp.1,hp.2.1⟩),?_⟩
   have:=tF (d:=(⟨[],[]⟩:aq)) hp.1 hp.2.1
   rw [hp.2.2] at this
   exact (Option.some.inj this).symm
structure VS (l:List Signal):Prop where
 ord:l.Pairwise (fun a b=>sO a b < 0)
 MK:∀ s∈l,Bc s
 Gr:∀ s∈l,0≤s.At∧s.At≤345686399999
 kind:∀ s∈l,1≤s.Kind∧s.Kind≤5
 key:∀ s∈l,fu s.Device=true∧fu s.a8=true
 Uu:∀ s∈l,s.Kind=4→s.At+1≤s.aV∧s.aV≤345686400000
 len:(l.length:Int)≤15
theorem Py {l:List Signal} (h:SG 15 l) (hc:nk l=0):VS l:=by
 obtain ⟨h1,h2⟩:=DW hc
 have hb:∀ s∈l,(0≤s.At∧s.At≤345686399999)∧(1≤s.Kind∧s.Kind≤5)∧(fu s.Device=true∧fu s.a8=true)∧(s.Kind=4→s.At+1≤s.aV∧s.aV≤345686400000):=by
  intro s hs
  have:=h2 s hs
  unfold wm at this
  by_cases c1:BU s.At=false
  ·rw [if_pos c1] at this;cases this
  rw [if_neg c1] at this
  by_cases c2:(fu s.Device&&fu s.a8)=false
  ·rw [if_pos c2] at this;cases this
  rw [if_neg c2] at this
  by_cases c3:s.Kind < 1∨5 < s.Kind
  ·rw [if_pos c3] at this;cases this
  rw [if_neg c3] at this
  by_cases c4:3≤s.Kind∧fu s.By=false
  ·rw [if_pos c4] at this;cases this
  rw [if_neg c4] at this
  by_cases c5:¬ 3≤s.Kind∧s.By≠[]
  ·rw [if_pos c5] at this;cases this
  rw [if_neg c5] at this
  by_cases c6:s.Kind=4∧(s.aV < s.At+1∨s.At+2592000000 < s.aV∨345686400000 < s.aV)
  ·rw [if_pos c6] at this;cases this
  refine ⟨?_,by omega,?_,fun h4=>by omega⟩
  ·unfold BU at c1
   rw [← Bool.decide_and,Bool.not_eq_false,decide_eq_true_eq] at c1
   exact c1
  ·rw [Bool.not_eq_false,Bool.and_eq_true] at c2
   exact c2
 exact ⟨h1,h.2,fun s hs=>(hb s hs).1,fun s hs=>(hb s hs).2.1,fun s hs=>(hb s hs).2.2.1,fun s hs=>(hb s hs).2.2.2,h.1⟩
theorem Uv {a b:Signal} (h:sO a b < 0):a.At≤b.At:=by
 unfold sO at h
 rw [ru] at h
 by_cases h0:tA a.At b.At=0
 ·have:=Cx h0;omega
 ·rw [if_pos h0] at h
  unfold tA at h
  split at h
  ·omega
  ·split at h<;>omega
theorem VS.FZ {l:List Signal} (h:VS l):l.Pairwise (fun a b=>a.At≤b.At):=h.ord.imp Uv
theorem VS.sub {l p:List Signal} (h:VS l) (hp:p.Sublist l):VS p:=
 ⟨h.ord.sublist hp,fun s hs=>h.MK s (hp.subset hs),fun s hs=>h.Gr s (hp.subset hs),fun s hs=>h.kind s (hp.subset hs),fun s hs=>h.key s (hp.subset hs),fun s hs=>h.Uu s (hp.subset hs),by have:=hp.length_le;have:=h.len;omega⟩
def pre (l:List Signal) (m:Int):List Signal:=l.filter (fun s=>decide (s.At≤m))
theorem xP (l:List Signal) (m:Int):(pre l m).Sublist l:=List.filter_sublist
theorem L0:∀ {l:List Signal},l.Pairwise (fun a b=>a.At≤b.At)→∀ {m:Int} {s:Signal} {a b:List Signal},l=a++s :: b→m < s.At→pre l m=pre a m:=by
 intro l hl m s a b e hm
 subst e
 unfold pre
 rw [List.filter_append]
 have:(s :: b).filter (fun s=>decide (s.At≤m))=[]:=by
  rw [List.filter_eq_nil_iff]
  intro x hx
  have h2:=(List.pairwise_append.1 hl).2.1
  rcases List.mem_cons.1 hx with rfl | hx
  ·simp;omega
  ·have:=(List.pairwise_cons.1 h2).1 x hx
   simp;omega
 rw [this,List.append_nil]
theorem zN {l:List Signal} {m:Int} (h:∀ s∈l,s.At≤m):pre l m=l:=List.filter_eq_self.2 fun s hs=>decide_eq_true (h s hs)
def xQ (F:aq→ak) (s:Signal):aq→ak:=uZ F (kU s) (vW (F (kU s)) s).2
def stepG (G:aq→an) (s:Signal):aq→an:=uZ G (kU s) (Eh (G (kU s)) s).2
def FL (p:List Signal):aq→ak:=p.foldl xQ kF
def yw (n:aq):an:=⟨n.aK,n.aN,[],0,⟨0,0⟩⟩
def TL (p:List Signal):aq→an:=p.foldl stepG yw
theorem sb (p:List Signal) (s:Signal):FL (p++[s])=xQ (FL p) s:=by unfold FL;rw [List.foldl_append];rfl
theorem tG (p:List Signal) (s:Signal):TL (p++[s])=stepG (TL p) s:=by unfold TL;rw [List.foldl_append];rfl
theorem LI0 (n:aq):LI 0 (kF n):=by
 refine ⟨fun h=>?_,fun h=>?_,fun h=>absurd rfl h,fun h=>?_,fun t ht=>?_,by simp [kF],by simp [kF],by simp [kF],by simp [kF],by simp [kF],by simp [kF]⟩
 ·simp [kF] at h
 ·rcases h with h | h<;>simp [kF] at h
 ·simp [kF] at h
 ·simp [kF] at ht
theorem zO {α:Type} {P:List α→Prop} (h0:P []) (h1:∀ l a,P l→P (l++[a])) (l:List α):P l:=by
 have key:∀ r:List α,P r.reverse:=by
  intro r
  induction r with
  | nil=>exact h0
  | cons a r ih=>rw [List.reverse_cons];exact h1 _ _ ih
 have:=key l.reverse
 rwa [List.reverse_reverse] at this
theorem RT0 (n:aq):RT 0 (kF n) (yw n):=⟨rfl,rfl,rfl,rfl,rfl,Int.le_refl _,.inl rfl⟩
structure FoS (p:List Signal):Prop where
 li:∀ n,LI p.length (FL p n)
 rt:∀ (T:Int),0≤T→(∀ s∈p,s.At≤T)→∀ n,RT T (FL p n) (TL p n)
 nm:∀ n,(FL p n).aR=n
 tn:∀ n,(TL p n).aK=n.aK∧(TL p n).aN=n.aN
 dn:∀ n,((TL p n).bq.length:Int)≤p.length
 VQ:∀ n,n∉p.map kU→FL p n=kF n∧TL p n=yw n
theorem L1 (x:ak) (s:Signal):(vW x s).2.aR=x.aR:=by
 unfold vW
 repeat' split
 all_goals rfl
theorem F0 (t:an) (s:Signal):(Eh t s).2.aK=t.aK∧(Eh t s).2.aN=t.aN∧((Eh t s).2.bq.length:Int)≤t.bq.length+1:=by
 unfold Eh
 repeat' split
 all_goals exact ⟨rfl,rfl,by simp [sa]<;>omega⟩
theorem u6:∀ (p:List Signal),VS p→FoS p:=by
 refine zO ?_ ?_
 ·intro _;exact ⟨LI0,fun T hT _ n=>(RT0 n).mono hT,fun _=>rfl,fun _=>⟨rfl,rfl⟩,fun _=>by simp [TL,yw],fun _ _=>⟨rfl,rfl⟩⟩
 ·intro p s ih hv
  have hp:VS p:=hv.sub (List.sublist_append_left _ _)
  have ih:=ih hp
  have hs:s∈p++[s]:=by simp
  have hlen:((p++[s]).length:Int)=p.length+1:=by simp
  have hm:=hv.Gr s hs
  have pO:∀ x∈p,x.At≤s.At:=fun x hx=>(List.pairwise_append.1 hv.FZ).2.2 x hx s (by simp)
  have st:∀ n,RT s.At (FL p n) (TL p n):=ih.rt s.At hm.1 pO
  refine ⟨fun n=>?_,fun T hT hTs n=>?_,fun n=>?_,fun n=>?_,fun n=>?_,fun n hn=>?_⟩
  ·rw [sb,hlen]
   unfold xQ uZ
   split
   ·exact (ih.li _).step hm.1 (hv.MK s hs)
   ·exact (ih.li n).mono (by omega)
  ·rw [sb,tG]
   unfold xQ stepG uZ
   split
   ·exact ((st (kU s)).step (Int.le_refl _) hm.1 (hv.kind s hs)).2.mono (hTs s hs)
   ·exact (st n).mono (hTs s hs)
  ·rw [sb]
   unfold xQ uZ
   split
   ·rename_i e;rw [L1,ih.nm];exact e.symm
   ·exact ih.nm n
  ·rw [tG]
   unfold stepG uZ
   split
   ·rename_i e
    have:=F0 (TL p (kU s)) s
    rw [this.1,this.2.1,e];exact ih.tn _
   ·exact ih.tn n
  ·rw [tG,hlen]
   unfold stepG uZ
   split
   ·have:=(F0 (TL p (kU s)) s).2.2
    have:=ih.dn (kU s)
    omega
   ·have:=ih.dn n;omega
  ·rw [List.map_append,List.mem_append] at hn
   have h1:n∉p.map kU:=fun z=>hn (.inl z)
   have h2:n≠kU s:=fun z=>hn (.inr (by simp [z]))
   rw [sb,tG]
   unfold xQ stepG uZ
   rw [if_neg h2,if_neg h2]
   exact ih.VQ n h1
theorem JA {p:List Signal} {s:Signal} (hv:VS (p++[s])):(vW (FL p (kU s)) s).1=(Eh (TL p (kU s)) s).1:=by
 have hs:s∈p++[s]:=by simp
 have ih:=u6 p (hv.sub (List.sublist_append_left _ _))
 exact ((ih.rt s.At (hv.Gr s hs).1 (fun x hx=>(List.pairwise_append.1 hv.FZ).2.2 x hx s (by simp)) (kU s)).step (Int.le_refl _) (hv.Gr s hs).1 (hv.kind s hs)).1
theorem OI {H:bO} {N:List aq} {p:List Signal} {ix:aq→Int} (h:HK H N (FL p) ix) {s:Signal} (hv:VS (p++[s])) (hn:kU s∈N):
 fc H s=some ((vW (FL p (kU s)) s).1,⟨H.rD,H.jX,H.BN.set (ix (kU s)).toNat (vW (FL p (kU s)) s).2⟩)∧HK ⟨H.rD,H.jX,H.BN.set (ix (kU s)).toNat (vW (FL p (kU s)) s).2⟩ N (FL (p++[s])) ix:=by
 have hs:s∈p++[s]:=by simp
 have ih:=u6 p (hv.sub (List.sublist_append_left _ _))
 have hl:=hv.len
 have hlen:((p++[s]).length:Int)=p.length+1:=by simp
 refine ⟨?_,by rw [sb];exact h.set hn _⟩
 unfold fc
 have:=h.one (kU s) hn
 rw [show (⟨s.Device,s.a8⟩:aq)=kU s from rfl,this.1,pv,this.2]
 simp only [Option.bind_some]
 rw [follow_eq (ih.li _) (by omega) (hv.Gr s hs).1 (hv.MK s hs) (hv.kind s hs)]
 rfl
theorem Pz {l:List Signal} (hv:VS l) (m:Int):∃ H N ix,qV l m=some H∧HK H N (FL (pre l m)) ix∧N.Pairwise (fun a b=>Bq a b < 0)∧∀ n,n∈N↔n∈l.map kU:=by
 have hl:=hv.len
 obtain ⟨H0,N,ix,h1,h2,h3,h4⟩:=FY l (by omega)
 have main:Ok (qV l m) (fun H=>HK H N (FL (pre l m)) ix):=by
  unfold qV
  rw [h1]
  simp only [Option.bind_some]
  unfold yR
  refine Ok.LV (R:=fun H=>HK H N (FL (pre l m)) ix) l.length (fun (s:bO) (i:Int)=>(s.rD,s.BN,s.jX,i)) (fun i s=>HK s N (FL (pre (l.take i.toNat) m)) ix) (fun s i g0 g1 hk=>?_) H0 h2
  show Ok (nV l m s.rD s.BN s.jX i) _
  unfold nV pE
  by_cases hi:i < l.length
  ·rw [if_pos hi]
   refine Ok.idx g0 hi (fun x hx JT=>?_)
   have ht:l.take (i+1).toNat=l.take i.toNat++[x]:=take_succ g0 hx
   rw [aZ (x:=i+1) (by omega) (by omega)]
   by_cases hm:x.At≤m
   ·rw [if_pos hm]
    have hp:pre (l.take (i+1).toNat) m=pre (l.take i.toNat) m++[x]:=by
     rw [ht];unfold pre;rw [List.filter_append];simp [hm]
    have uc:(pre (l.take i.toNat) m++[x]).Sublist l:=by rw [← hp];exact (xP _ _).trans (List.take_sublist _ _)
    obtain ⟨e1,e2⟩:=OI hk (hv.sub uc) ((h4 _).2 (List.mem_map.2 ⟨x,JT,rfl⟩))
    rw [show (⟨s.rD,s.jX,s.BN⟩:bO)=s from rfl,e1]
    refine ⟨_,rfl,.inl ⟨_,rfl,by omega,?_⟩⟩
    rw [hp];exact e2
   ·rw [if_neg hm]
    refine ⟨_,rfl,.inl ⟨s,rfl,by omega,?_⟩⟩
    have hp:pre (l.take (i+1).toNat) m=pre (l.take i.toNat) m:=by
     rw [ht];unfold pre;rw [List.filter_append];simp [hm]
    rw [hp];exact hk
  ·rw [if_neg hi]
   refine ⟨_,rfl,.inr ⟨s,rfl,?_⟩⟩
   have:i.toNat=l.length:=by omega
   rw [this,List.take_length] at hk
   exact hk
 obtain ⟨H,e1,e2⟩:=main
 exact ⟨H,N,ix,e1,e2,h3,h4⟩
def yx:List Signal→List Signal→List cd
 | _,[]=>[]
 | p,s :: r=>(if (vW (FL p (kU s)) s).1≠0 then [⟨(p.length:Int),(vW (FL p (kU s)) s).1⟩] else [])++yx (p++[s]) r
theorem F1:∀ (r p:List Signal) (s:Signal),yx p (r++[s])=yx p r++(if (vW (FL (p++r) (kU s)) s).1≠0 then [⟨((p++r).length:Int),(vW (FL (p++r) (kU s)) s).1⟩] else [])
 | [],p,s=>by simp [yx]
 | x :: r,p,s=>by
   rw [List.cons_append]
   unfold yx
   rw [F1 r (p++[x]) s]
   simp [List.append_assoc]
theorem ID:∀ (r p:List Signal),(yx p r).length≤r.length
 | [],p=>by simp [yx]
 | x :: r,p=>by
   unfold yx
   have:=ID r (p++[x])
   rw [List.length_append,List.length_cons]
   split<;>simp<;>omega
theorem Bf {V:Type} (M:List aq) (G:aq→V):∀ (r:List Int),(∀ i∈r,0≤i∧i < (M.length:Int))→idxs (M.map G) r=some ((r.map (at_ ⟨[],[]⟩ M)).map G)
 | [],_=>rfl
 | i :: r,h=>by
   unfold idxs
   have:=h i (by simp)
   rw [sV,tF (d:=(⟨[],[]⟩:aq)) this.1 this.2,Bf M G r (fun j hj=>h j (by simp [hj]))]
   rfl
theorem JB (M:List aq):(places M.length).map (at_ ⟨[],[]⟩ M)=M:=by
 unfold places
 rw [List.map_map]
 apply List.ext_getElem?
 intro i
 rw [List.getElem?_map]
 by_cases h:i < M.length
 ·rw [List.getElem?_range h,List.getElem?_eq_getElem h]
  simp [at_,List.getD_eq_getElem?_getD,List.getElem?_eq_getElem h]
 ·rw [List.getElem?_eq_none (by simpa using h),List.getElem?_eq_none (by omega)];rfl
theorem CG (P:aq→Bool) (n:aq) (hP:∀ m,P m=decide (m=n)):∀ (M:List aq) (i:Int),qm P M i=if n∈M then i+pos M n else -1
 | [],i=>by simp [qm]
 | m :: M,i=>by
   unfold qm
   rw [hP]
   by_cases e:m=n
   ·subst e
    rw [decide_eq_true rfl,if_pos rfl,if_pos (by simp)]
    unfold pos;simp
   ·rw [decide_eq_false e,if_neg (by simp),CG P n hP M (i+1)]
    by_cases hm:n∈M
    ·rw [if_pos hm,if_pos (by simp [hm])]
     unfold pos
     rw [List.idxOf_cons,show (m==n)=false by simpa using e];simp;omega
    ·rw [if_neg hm,if_neg (by simp [hm];exact fun z=>e z.symm)]
theorem JC (L:List an) (s:Signal) (hl:(L.length:Int)≤1000):dm L (fun y0=>some (iy y0 s))=some (qm (fun t=>iy t s) L 0):=
 BT L (fun y0=>some (iy y0 s)) (fun t=>iy t s) (fun _ _=>rfl) (by omega)
theorem CH {α β:Type} (f:α→β) (P:β→Bool):∀ (l:List α) (i:Int),qm P (l.map f) i=qm (fun x=>P (f x)) l i
 | [],_=>rfl
 | x :: r,i=>by
   rw [List.map_cons]
   unfold qm
   rw [CH f P r]
theorem F2 {V:Type} {M:List aq} (hn:M.Nodup) {n:aq} (h:n∈M) (G:aq→V) (v:V):(M.map G).set (pos M n).toNat v=M.map (uZ G n v):=by
 have hp:=List.idxOf_lt_length_of_mem h
 apply List.ext_getElem?
 intro i
 unfold pos
 rw [Int.toNat_natCast]
 by_cases e:M.idxOf n=i
 ·subst e
  rw [List.getElem?_set_self (by simpa using hp),List.getElem?_map,List.getElem?_eq_getElem hp,List.getElem_idxOf]
  simp [uZ]
 ·rw [List.getElem?_set_ne e,List.getElem?_map,List.getElem?_map]
  cases hq:M[i]? with
  | none=>rfl
  | some m=>
    have:m≠n:=fun z=>by
     subst z
     obtain ⟨b,c⟩:=List.getElem?_eq_some_iff.1 hq
     have hh:M[M.idxOf m]'hp=M[i]'b:=by rw [List.getElem_idxOf,c]
     exact e ((List.getElem_inj hn).1 hh)
    simp [uZ,this]
theorem yX {l:List Signal} (hv:VS l) (m:Int):∃ N:List aq,nI l m=some (N.map (TL (pre l m)),yx [] (pre l m))∧N.Pairwise (fun a b=>Bq a b < 0)∧∀ n,n∈N↔n∈(pre l m).map kU:=by
 have hl:=hv.len
 have tail:∀ (p:List Signal),VS p→∃ N:List aq,jG ((uY p).map (TL p)) (places (uY p).length) (yx [] p)=some (N.map (TL p),yx [] p)∧N.Pairwise (fun a b=>Bq a b < 0)∧∀ n,n∈N↔n∈p.map kU:=by
  intro p hp
  have MC:=hp.len
  have RE:=xO p
  have hf:=u6 p hp
  obtain ⟨r,r1,r2,r3⟩:=Be (fun y0 y1=>ly y0 y1) (fun t=>⟨t.aK,t.aN⟩) Hf (uY p) (sT p) (by omega) (TL p) (fun n=>by
   have:=hf.tn n
   rw [this.1,this.2])
  have hr:∀ i∈r,0≤i∧i < ((uY p).length:Int):=fun i hi=>gy.1 (r2.mem_iff.1 hi)
  refine ⟨r.map (at_ ⟨[],[]⟩ (uY p)),?_,r3,fun n=>?_⟩
  ·unfold jG
   rw [r1]
   simp only [Option.bind_some]
   rw [Bf _ _ _ hr];rfl
  ·rw [← zM,List.mem_map]
   constructor
   ·rintro ⟨i,hi,rfl⟩
    have:=hr i hi
    exact jS (tF this.1 this.2)
   ·intro hn
    have hp:=pos_at hn
    refine ⟨pos (uY p) n,r2.mem_iff.2 (gy.2 ⟨hp.1,hp.2.1⟩),?_⟩
    have:=tF (d:=(⟨[],[]⟩:aq)) hp.1 hp.2.1
    rw [hp.2.2] at this
    exact (Option.some.inj this).symm
 have main:Ok (nI l m) (fun R=>∃ N:List aq,R=(N.map (TL (pre l m)),yx [] (pre l m))∧N.Pairwise (fun a b=>Bq a b < 0)∧∀ n,n∈N↔n∈(pre l m).map kU):=by
  unfold nI wb
  refine Ok.LV (σ:=List Signal) l.length (fun (p:List Signal) (i:Int)=>((uY p).map (TL p),places (uY p).length,yx [] p,i)) (fun i p=>p=l.take i.toNat∧pre p m=p) (fun p i g0 g1 hk=>?_) [] ⟨rfl,rfl⟩
  obtain ⟨k1,k2⟩:=hk
  show Ok (lA l m ((uY p).map (TL p)) (places (uY p).length) (yx [] p) i) _
  unfold lA
  have MC:((l.take i.toNat).length:Int)≤15:=by rw [List.length_take];omega
  have RE:=xO p
  have hVp:VS p:=hv.sub (by rw [k1];exact List.take_sublist _ _)
  have fin:pre l m=p→Ok (Option.map Sum.inr (jG ((uY p).map (TL p)) (places (uY p).length) (yx [] p))) (fun r=>(∃ s',r=Sum.inl ((uY s').map (TL s'),places (uY s').length,yx [] s',i+1)∧i < l.length∧(s'=l.take (i+1).toNat∧pre s' m=s'))∨∃ a,r=Sum.inr a∧∃ N:List aq,a=(N.map (TL (pre l m)),yx [] (pre l m))∧N.Pairwise (fun a b=>Bq a b < 0)∧∀ n,n∈N↔n∈(pre l m).map kU):=by
   intro hp
   obtain ⟨N,n1,n2,n3⟩:=tail p hVp
   rw [n1]
   refine ⟨_,rfl,.inr ⟨_,rfl,N,by rw [hp],n2,by rw [hp];exact n3⟩⟩
  by_cases hi:i < l.length
  ·rw [if_pos hi]
   refine Ok.idx g0 hi (fun x hx JT=>?_)
   have ht:l.take (i+1).toNat=l.take i.toNat++[x]:=take_succ g0 hx
   by_cases hm:m < x.At
   ·rw [if_pos hm]
    refine fin ?_
    have hd:=LJ hx
    have:l=l.take i.toNat++x :: l.drop (i+1).toNat:=by rw [← hd,List.take_append_drop]
    rw [L0 hv.FZ this hm,← k1];exact k2
   ·rw [if_neg hm]
    have hVx:VS (p++[x]):=hv.sub (by rw [k1,← ht];exact List.take_sublist _ _)
    have hf:=u6 p hVp
    have XU:(p.length:Int)=i:=by rw [k1,List.length_take];omega
    rw [Bf _ _ _ (fun j hj=>gy.1 hj),JB]
    simp only [Option.bind_some]
    rw [JC _ _ (by simp;omega),CH,CG _ (kU x) (fun n=>by
     have:=hf.tn n
     unfold iy mI
     rw [this.1,this.2,← Bool.decide_and]
     refine decide_eq_decide.2 ⟨fun z=>?_,fun z=>by subst z;exact ⟨rfl,rfl⟩⟩
     unfold kU;cases n;simp only at z;rw [z.1,z.2])]
    simp only [Option.bind_some]
    have j2:∀ (M:List aq) (hM:M.Nodup) (XV:kU x∈M),M=uY (p++[x])→Ok (lz (yx [] p) i x (M.map (TL p)) (places M.length) (pos M (kU x))) (fun r=>(∃ s',r=Sum.inl ((uY s').map (TL s'),places (uY s').length,yx [] s',i+1)∧i < l.length∧(s'=l.take (i+1).toNat∧pre s' m=s'))∨∃ a,r=Sum.inr a∧∃ N:List aq,a=(N.map (TL (pre l m)),yx [] (pre l m))∧N.Pairwise (fun a b=>Bq a b < 0)∧∀ n,n∈N↔n∈(pre l m).map kU):=by
     intro M hM XV XW
     have tc:=pos_at XV
     unfold lz mY
     rw [Hg ⟨tc.1,tc.2.1⟩]
     simp only [Option.bind_some]
     rw [sV,tc.2.2]
     simp only [Option.map_some,Option.bind_some]
     have MB:=hf.dn (kU x)
     rw [step_eq (by omega)]
     simp only [Option.bind_some]
     have jW:=JA hVx
     have hr:=F1 p [] x
     rw [List.nil_append,XU] at hr
     have hrl:=ID p []
     have L2:(M.map (TL p)).set (pos M (kU x)).toNat (Eh (TL p (kU x)) x).2=(uY (p++[x])).map (TL (p++[x])):=by
      rw [F2 hM XV,tG,← XW];rfl
     rw [L2,aZ (x:=i+1) (by omega) (by omega)]
     have EG:p++[x]=l.take (i+1).toNat∧pre (p++[x]) m=p++[x]:=by
      refine ⟨by rw [ht,k1],?_⟩
      unfold pre at k2 ⊢
      rw [List.filter_append,k2]
      have:x.At≤m:=by omega
      simp [this]
     rw [← jW]
     by_cases h0:(vW (FL p (kU x)) x).1=0
     ·rw [if_neg (by simpa using h0)]
      rw [if_neg (by simpa using h0),List.append_nil] at hr
      exact ⟨_,rfl,.inl ⟨p++[x],by rw [hr,XW],hi,EG⟩⟩
     ·rw [if_pos h0,iq (by simp;omega)]
      rw [if_pos h0] at hr
      exact ⟨_,rfl,.inl ⟨p++[x],by rw [hr,XW],hi,EG⟩⟩
    by_cases MJ:kU x∈uY p
    ·rw [if_pos MJ]
     have tc:=pos_at MJ
     rw [if_neg (by omega),Int.zero_add]
     exact j2 (uY p) (sT p) MJ (by rw [sU];unfold ui;rw [if_pos MJ])
    ·rw [if_neg MJ,if_pos (by omega)]
     have hg:BK ((uY p).map (TL p)).length (places (uY p).length)=some ():=by
      unfold BK
      rw [if_pos]
      intro j hj
      rw [List.length_map];exact gy.1 hj
     rw [hg]
     simp only [Option.bind_some]
     rw [iq (by rw [tE];simp;omega)]
     simp only [Option.bind_some,List.length_map]
     have hM:uY (p++[x])=uY p++[kU x]:=by rw [sU];unfold ui;rw [if_neg MJ]
     have e0:TL p (kU x)=⟨x.Device,x.a8,[],0,⟨0,0⟩⟩:=(hf.VQ (kU x) (fun z=>MJ ((zM p _).2 z))).2
     have:=j2 (uY p++[kU x]) (by rw [← hM];exact sT _) (by simp) hM.symm
     rw [DZ MJ,List.length_append,List.length_singleton,yW,List.map_append] at this
     rw [tE,← e0]
     exact this
  ·rw [if_neg hi]
   refine fin ?_
   have:i.toNat=l.length:=by omega
   rw [this,List.take_length] at k1
   rw [← k1];exact k2
 obtain ⟨R,e1,N,rfl,e3,e4⟩:=main
 exact ⟨N,e1,e3,e4⟩
def wP (x:ak) (m:Int):Int:=if m < x.ay then x.ay else 0
def tU (x:ak) (m:Int):fb:=⟨x.aR.aK,x.aR.aN,x.az,x.bM,(x.aD.length:Int),wP x m⟩
def lIs (x:ak) (m:Int):Bool:=decide (x.az≠0)||decide (0 < wP x m)
theorem OJ (x:ak) (m:Int):lu x m=(tU x m,lIs x m):=by
 unfold lu iP iO tU lIs wP
 by_cases h:m < x.ay
 ·rw [if_pos h,if_pos h]
  by_cases h0:x.az=0
  ·simp [h0]
  ·simp [h0]
 ·rw [if_neg h,if_neg h]
  by_cases h0:x.az=0
  ·simp [h0]
  ·simp [h0]
def D0 (t:an) (m:Int):Int:=if t.ay.bg≤m∧m < t.ay.To then t.ay.To else 0
def D2 (t:an) (m:Int):fb:=⟨t.aK,t.aN,t.az,qG t.bq,((ei t.bq).length:Int),D0 t m⟩
def Bg (a:Int×Int) (s:Signal):Int×Int:=(if s.Kind≤3 then s.At else a.1,if s.Kind=1 then a.2+1 else a.2)
theorem yY:∀ (l:List Signal) (a:Int×Int),l.foldl Bg a=(l.foldl (fun a s=>if s.Kind≤3 then s.At else a) a.1,a.2+(ei l).length)
 | [],a=>by simp [ei]
 | s :: r,a=>by
   rw [List.foldl_cons,yY r]
   unfold Bg ei
   by_cases h:s.Kind=1
   ·simp [h];omega
   ·simp [h]
theorem L3 {t:an} (hl:(t.bq.length:Int)≤1000) (m:Int):mZ t m=some (D2 t m):=by
 unfold mZ sH
 have main:=eK (A:=fb) t.bq (fun (s:Int×Int) (i:Int)=>(s.1,s.2,i)) (fun x:Int×Int×Int=>ey t m x.1 x.2.1 x.2.2) Bg (fun i s=>0≤s.2∧s.2≤i) (fun s=>kj t s.1 s.2 ((decide (t.ay.bg≤m))&&(decide (m < t.ay.To))))
  (fun s i x h0 h1 hx hv=>by
   refine ⟨?_,?_⟩
   ·show ey t m s.1 s.2 i=_
    rw [ey,if_pos h1,hx]
    simp only [Option.bind_some]
    unfold kh kf Bg
    rw [aZ (x:=i+1) (by omega) (by omega),aZ (x:=s.2+1) (by omega) (by omega)]
    by_cases a1:x.Kind≤3<;>by_cases a2:x.Kind=1<;>simp [a1,a2]
   ·unfold Bg
    simp only
    split<;>omega)
  (fun s hv=>by
   show ey t m s.1 s.2 t.bq.length=_
   rw [ey,if_neg (by omega)]) (0,0) ⟨by simp,by simp⟩
 refine main.trans ?_
 rw [yY]
 unfold kj ki D2 D0
 rw [← Bool.decide_and]
 by_cases h:t.ay.bg≤m∧m < t.ay.To
 ·rw [decide_eq_true h,if_pos rfl,if_pos h];simp [qG]
 ·rw [decide_eq_false h,if_neg (by simp),if_neg h];simp [qG]
theorem RT.view {m:Int} {x:ak} {t:an} (h:RT m x t):tU x m=D2 t m:=by
 unfold tU D2
 rw [h.dev,h.R9,h.st,h.since,h.tD]
 have:wP x m=D0 t m:=by
  unfold wP D0
  have:=h.from_
  rcases h.sh with e | e
  ·rw [e]
   by_cases hm:m < t.ay.To
   ·rw [if_pos hm,if_pos ⟨this,hm⟩]
   ·rw [if_neg hm,if_neg (fun z=>hm z.2)]
  ·rw [if_neg (by omega),if_neg (fun z=>by omega)]
 rw [this]
theorem L4 {N:List aq} (hs:N.Pairwise (fun a b=>Bq a b < 0)) {l:List Signal} (h:∀ n,n∈N↔n∈l.map kU):N.length≤l.length:=by
 have hp:N.Perm (uY l):=(List.perm_ext_iff_of_nodup (Bb yV hs) (sT l)).2 fun n=>(h n).trans (zM l n).symm
 rw [hp.length_eq];exact xO l
theorem IE {m:Int} (hm:0≤m) (n:aq):wP (kF n) m=0:=by
 unfold wP kF
 simp only
 rw [if_neg (by omega)]
theorem Rh (l:List Signal) (m:Int):∀ s∈pre l m,s.At≤m:=fun s hs=>by
 have:=(List.mem_filter.1 hs).2
 simpa using this
theorem D3 {l:List Signal} (hB:∀ x∈l,Bc x) (d r:aI):lp l d r=some (wM [nk l,if fu d=true then 0 else 5,if fu r=true then 0 else 5]):=by
 unfold lp iN
 rw [nC hB,DR,DR]
 simp only [Option.bind_some]
 rw [ru]
 by_cases hc:nk l=0
 ·simp only [hc,ne_eq,not_true_eq_false,if_false]
  cases fu d<;>cases fu r<;>simp [wM]
 ·rw [if_pos hc,if_pos hc]
theorem XX (a b c e:Int):wM [a,b,c,e]=if wM [a,b,c]≠0 then wM [a,b,c] else e:=by
 by_cases h1:a=0<;>by_cases h2:b=0<;>by_cases h3:c=0<;>simp [wM,h1,h2,h3]
 intro h;omega
theorem Hh {l:List Signal} (hB:∀ x∈l,Bc x) (hv:nk l=0→VS l) (d r:aI) (m:Int):
 ng l d r m=some (if wM [nk l,if fu d=true then 0 else 5,if fu r=true then 0 else 5,if 0≤m∧m≤345686399999 then 0 else 1]≠0 then (⟨[],[],0,0,0,0⟩,wM [nk l,if fu d=true then 0 else 5,if fu r=true then 0 else 5,if 0≤m∧m≤345686399999 then 0 else 1])
  else (tU (FL (pre l m) ⟨d,r⟩) m,0)):=by
 unfold ng
 rw [D3 hB]
 simp only [Option.bind_some]
 rw [XX]
 by_cases he:wM [nk l,if fu d=true then 0 else 5,if fu r=true then 0 else 5]=0
 ·have hc:nk l=0:=xL he _ (by simp)
  have hv:=hv hc
  simp only [he,ne_eq,not_true_eq_false,if_false]
  rw [CB]
  by_cases hm:0≤m∧m≤345686399999
  ·simp only [hm,and_self,decide_true,Bool.and_self,Bool.not_true,Bool.false_eq_true,if_true,if_false,not_true_eq_false]
   obtain ⟨H,N,ix,a1,a2,a3,a4⟩:=Pz hv m
   rw [a1]
   simp only [Option.bind_some]
   by_cases hn:(⟨d,r⟩:aq)∈N
   ·rw [(a2.one _ hn).1,pv,(a2.one _ hn).2]
    simp only [Option.bind_some]
    rw [OJ]
   ·rw [a2.non _ hn,uF]
    have hf:=u6 _ (hv.sub (xP l m))
    rw [(hf.VQ ⟨d,r⟩ (fun z=>hn ((a4 _).2 (by
     obtain ⟨s,hs,e⟩:=List.mem_map.1 z
     exact List.mem_map.2 ⟨s,(xP l m).subset hs,e⟩)))).1]
    unfold tU
    rw [IE hm.1];rfl
  ·rw [if_pos (by rw [← Bool.decide_and,decide_eq_false hm];rfl),if_neg hm,if_pos (by simp)]
 ·generalize wM [nk l,if fu d=true then 0 else 5,if fu r=true then 0 else 5]=e at he ⊢
  simp [he]
theorem Hi {l:List Signal} (hv:VS l) (d r:aI) {m:Int} (hm:0≤m):sI l d r m=some (tU (FL (pre l m) ⟨d,r⟩) m):=by
 obtain ⟨N',t1,t2,t3⟩:=yX hv m
 have hf:=u6 _ (hv.sub (xP l m))
 have hl:=hv.len
 have MC:=(xP l m).length_le
 have hN:=L4 t2 t3
 unfold sI
 rw [t1]
 simp only [Option.bind_some]
 unfold xv
 have key:∀ (k:Nat) (i:Int),0≤i→i+k=N'.length→iter (fun x:Int=>kR d r m (N'.map (TL (pre l m)),yx [] (pre l m)) x) i=some (if (⟨d,r⟩:aq)∈N'.drop i.toNat then tU (FL (pre l m) ⟨d,r⟩) m else ⟨d,r,0,0,0,0⟩):=by
  intro k
  induction k with
  | zero=>
    intro i h0 h1
    rw [iter_eq,kR,if_neg (by simp;omega),bP,List.drop_of_length_le (by omega),if_neg (by simp)]
  | succ k ih=>
    intro i h0 h1
    obtain ⟨n,hx,_,hd⟩:=fY N' h0 (by omega)
    rw [iter_eq,kR,if_pos (by simp;omega)]
    simp only
    rw [sV,hx]
    simp only [Option.map_some,Option.bind_some]
    have Sg:=hf.tn n
    unfold qA
    rw [Sg.1,Sg.2,← Bool.decide_and,hd]
    by_cases e:n.aK=d∧n.aN=r
    ·have en:n=⟨d,r⟩:=by cases n;simp only at e;rw [e.1,e.2]
     have MB:=hf.dn n
     rw [decide_eq_true e,if_pos rfl,L3 (by omega)]
     simp only [Option.bind_some,bP]
     rw [if_pos (by rw [en];simp),← (hf.rt m hm (Rh l m) n).view,en]
    ·have en:(⟨d,r⟩:aq)≠n:=fun z=>e (by rw [← z];exact ⟨rfl,rfl⟩)
     rw [decide_eq_false e,if_neg (by simp),aZ (by omega) (by omega)]
     simp only [Option.bind_some,gi]
     rw [ih (i+1) (by omega) (by omega)]
     simp only [List.mem_cons,en,false_or]
 rw [key N'.length 0 (by omega) (by omega)]
 by_cases hn:(⟨d,r⟩:aq)∈N'
 ·rw [if_pos (by simpa using hn)]
 ·rw [if_neg (by simpa using hn),(hf.VQ ⟨d,r⟩ (fun z=>hn ((t3 _).2 z))).1]
  unfold tU
  rw [IE hm];rfl
theorem Hj:sL=some true:=by
 unfold sL qB
 have hB:∀ x∈[(⟨1,1,[100],[114],[],0⟩:Signal)],Bc x:=by
  intro x hx
  rw [List.mem_singleton] at hx
  subst hx
  unfold Bc;simp
 have hc:nk [(⟨1,1,[100],[114],[],0⟩:Signal)]=0:=by decide
 rw [Hh hB (fun h=>Py ⟨by simp,hB⟩ h)]
 rw [if_neg (by rw [hc];decide)]
 simp only [Option.bind_some]
 decide
structure NF (W:List au):Prop where
 pw:W.Pairwise (fun a b=>a.To < b.bg)
 ok:∀ w∈W,w.bg < w.To
def xR (W:List au) (t:Int):Prop:=∃ w∈W,w.bg≤t∧t < w.To
theorem NF.tail {a:au} {W:List au} (h:NF (a :: W)):NF W∧a.bg < a.To∧∀ w∈W,a.To < w.bg:=
 ⟨⟨(List.pairwise_cons.1 h.pw).2,fun w hw=>h.ok w (List.mem_cons_of_mem _ hw)⟩,h.ok a (List.mem_cons_self ..),(List.pairwise_cons.1 h.pw).1⟩
theorem jB {a:au} {W:List au} {t:Int}:xR (a :: W) t↔(a.bg≤t∧t < a.To)∨xR W t:=by
 unfold xR
 simp
theorem CI:∀ {A B:List au},NF A→NF B→(∀ t,xR A t↔xR B t)→A=B
 | [],[],_,_,_=>rfl
 | [],b :: B,_,hb,h=>by
   have:=(h b.bg).2 (jB.2 (.inl ⟨Int.le_refl _,hb.tail.2.1⟩))
   obtain ⟨w,hw,_⟩:=this
   cases hw
 | a :: A,[],ha,_,h=>by
   have:=(h a.bg).1 (jB.2 (.inl ⟨Int.le_refl _,ha.tail.2.1⟩))
   obtain ⟨w,hw,_⟩:=this
   cases hw
 | a :: A,b :: B,ha,hb,h=>by
   obtain ⟨a1,a2,a3⟩:=ha.tail
   obtain ⟨b1,b2,b3⟩:=hb.tail
   have f1:b.bg≤a.bg:=by
    rcases jB.1 ((h a.bg).1 (jB.2 (.inl ⟨Int.le_refl _,a2⟩))) with e | ⟨w,hw,e⟩
    ·exact e.1
    ·have:=b3 w hw;omega
   have f2:a.bg≤b.bg:=by
    rcases jB.1 ((h b.bg).2 (jB.2 (.inl ⟨Int.le_refl _,b2⟩))) with e | ⟨w,hw,e⟩
    ·exact e.1
    ·have:=a3 w hw;omega
   have t1:b.To≤a.To:=by
    by_cases iT:a.To < b.To
    ·rcases jB.1 ((h a.To).2 (jB.2 (.inl ⟨by omega,iT⟩))) with e | ⟨w,hw,e⟩
     ·omega
     ·have:=a3 w hw;omega
    ·omega
   have t2:a.To≤b.To:=by
    by_cases iT:b.To < a.To
    ·rcases jB.1 ((h b.To).1 (jB.2 (.inl ⟨by omega,iT⟩))) with e | ⟨w,hw,e⟩
     ·omega
     ·have:=b3 w hw;omega
    ·omega
   have e:a=b:=by
    cases a;cases b
    simp only at f1 f2 t1 t2
    rw [Int.le_antisymm f2 f1,Int.le_antisymm t2 t1]
   subst e
   rw [CI a1 b1 fun t=>⟨fun ⟨w,hw,e⟩=>by
    rcases jB.1 ((h t).1 (jB.2 (.inr ⟨w,hw,e⟩))) with e' | e'
    ·have:=a3 w hw;omega
    ·exact e',fun ⟨w,hw,e⟩=>by
    rcases jB.1 ((h t).2 (jB.2 (.inr ⟨w,hw,e⟩))) with e' | e'
    ·have:=b3 w hw;omega
    ·exact e'⟩]
theorem CJ (l:List Int):(Al l).Perm l:=List.mergeSort_perm l _
theorem L5 (l:List Int):Cw tA (Al l):=by
 have h:=List.pairwise_mergeSort (le:=fun x y:Int=>decide (x≤y)) (fun a b c h1 h2=>by
  rw [decide_eq_true_eq] at *;omega) (fun a b=>by
  rw [Bool.or_eq_true,decide_eq_true_eq,decide_eq_true_eq];omega) l
 exact h.imp (fun {a b} vM VO=>by
  rw [decide_eq_true_eq] at vM
  unfold tA at VO
  split at VO
  ·omega
  ·split at VO<;>omega)
def SI (l:List Int):Prop:=l.Pairwise (fun a b=>a < b)
theorem PA (l:List Int):SI (dd tT (Al l))∧∀ t,t∈dd tT (Al l)↔t∈l:=by
 have hs:=L5 l
 have hn:=Rc DO hs (fun a _ b _ h=>Cx h)
 refine ⟨?_,fun t=>(Re _ t).trans (CJ l).mem_iff⟩
 have h2:Cw tA (dd tT (Al l)):=List.Pairwise.sublist (Ha tT _) hs
 exact List.Pairwise.imp₂ (fun a b h1 h2=>by
  have:¬ b < a:=fun h=>h1 (by unfold tA;rw [if_pos h];omega)
  omega) h2 hn
def Hk (l:List Signal):List Int:=l.foldl (fun acc s=>if s.Kind=4 then acc++[s.At,s.aV] else acc++[s.At]) [0,345686400000]
theorem CK:∀ (l:List Signal) (acc:List Int),(l.foldl (fun acc s=>if s.Kind=4 then acc++[s.At,s.aV] else acc++[s.At]) acc).length≤acc.length+2 * l.length∧∀ t,t∈l.foldl (fun acc s=>if s.Kind=4 then acc++[s.At,s.aV] else acc++[s.At]) acc↔t∈acc∨∃ s∈l,t=s.At∨(s.Kind=4∧t=s.aV)
 | [],acc=>by simp
 | s :: r,acc=>by
   rw [List.foldl_cons]
   have ih:=CK r (if s.Kind=4 then acc++[s.At,s.aV] else acc++[s.At])
   refine ⟨?_,fun t=>?_⟩
   ·have:=ih.1
    have h2:(if s.Kind=4 then acc++[s.At,s.aV] else acc++[s.At]).length≤acc.length+2:=by split<;>simp
    simp only [List.length_cons];omega
   ·rw [ih.2 t]
    by_cases h:s.Kind=4
    ·simp [h,or_assoc]
    ·simp [h,or_assoc]
structure XY (l:List Signal) (M:List Int):Prop where
 zd:SI M
 mem:∀ t,t∈M↔t=0∨t=345686400000∨∃ s∈l,t=s.At∨(s.Kind=4∧t=s.aV)
 len:(M.length:Int)≤40
theorem F3 (xs:List Int) (hl:(xs.length:Int)≤100000):im xs=some (dd tT xs):=Iu 0 xs hl
theorem Hl {l:List Signal} (hv:VS l):∃ M,k8 l=some M∧XY l M:=by
 have hl:=hv.len
 have hf:=CK l [0,345686400000]
 have hm:(Hk l).length≤2+2 * l.length:=hf.1
 have hp:=(CJ (Hk l)).length_eq
 refine ⟨dd tT (Al (Hk l)),?_,(PA _).1,fun t=>?_,?_⟩
 ·unfold k8 qW
  have main:=eK (A:=List Int) l (fun (s:List Int) (i:Int)=>(s,i)) (fun x:(List Int)×Int=>dc l x.1 x.2) (fun acc s=>if s.Kind=4 then acc++[s.At,s.aV] else acc++[s.At]) (fun i s=>(s.length:Int)≤2+2 * i) iM
   (fun s i x h0 h1 hx V5=>by
    refine ⟨?_,by split<;>simp<;>omega⟩
    show dc l s i=_
    rw [dc,if_pos h1,hx]
    simp only [Option.bind_some]
    rw [iq (by simp;omega)]
    simp only [Option.bind_some]
    unfold iL
    rw [aZ (x:=i+1) (by omega) (by omega)]
    by_cases h4:x.Kind=4
    ·rw [if_pos h4,if_pos h4,iq (by simp;omega)]
     simp only [Option.bind_some,List.append_assoc];rfl
    ·rw [if_neg h4,if_neg h4])
   (fun s V5=>by
    show dc l s l.length=_
    rw [dc,if_neg (by omega)]) [0,345686400000] (by simp)
  refine main.trans ?_
  show iM (Hk l)=_
  unfold iM mR Ak
  rw [if_pos (by omega)]
  unfold kD
  simp only [Option.bind_some]
  rw [if_pos hp]
  simp only [Option.bind_some]
  rw [F3 _ (by omega)];rfl
 ·rw [(PA _).2 t]
  show t∈Hk l↔_
  unfold Hk
  rw [hf.2 t]
  simp [or_assoc]
 ·have:=LO tT (Al (Hk l))
  omega
theorem SI.fY {M:List Int} (h:SI M) {i j a b:Int} (ha:idx M i=some a) (hb:idx M j=some b) (Da:i < j):a < b:=by
 obtain ⟨i0,i1,i2⟩:=cV ha
 obtain ⟨j0,j1,j2⟩:=cV hb
 have:=List.pairwise_iff_getElem.1 h i.toNat j.toNat (by omega) (by omega) (by omega)
 rw [List.getElem?_eq_getElem (by omega)] at i2 j2
 rw [← Option.some.inj i2,← Option.some.inj j2];exact this
theorem SI.gap {M:List Int} (h:SI M) {i a b:Int} (ha:idx M i=some a) (hb:idx M (i+1)=some b) {t:Int} (ht:t∈M):t≤a∨b≤t:=by
 obtain ⟨k,hk,rfl⟩:=List.getElem_of_mem ht
 have Kq:idx M (k:Int)=some M[k]:=by
  unfold idx
  rw [if_pos (by omega),show ((k:Int)).toNat=k by omega,List.getElem?_eq_getElem hk]
 by_cases h1:(k:Int)≤i
 ·left
  by_cases e:(k:Int)=i
  ·rw [e] at Kq;rw [Kq] at ha;rw [Option.some.inj ha];exact Int.le_refl _
  ·have:=h.fY Kq ha (by omega);omega
 ·right
  by_cases e:(k:Int)=i+1
  ·rw [e] at Kq;rw [Kq] at hb;rw [Option.some.inj hb];exact Int.le_refl _
  ·have:=h.fY hb Kq (by omega);omega
theorem XY.first {l:List Signal} {M:List Int} (h:XY l M) (hv:VS l):idx M 0=some 0∧idx M ((M.length:Int) - 1)=some 345686400000∧2≤(M.length:Int):=by
 have MK:∀ t∈M,0≤t∧t≤345686400000:=by
  intro t ht
  rcases (h.mem t).1 ht with e | e | ⟨s,hs,e | ⟨e1,e2⟩⟩
  ·omega
  ·omega
  ·have:=hv.Gr s hs;omega
  ·have:=hv.Gr s hs;have:=hv.Uu s hs e1;omega
 obtain ⟨i,hi,e0⟩:=List.getElem_of_mem ((h.mem 0).2 (.inl rfl))
 obtain ⟨j,hj,e1⟩:=List.getElem_of_mem ((h.mem 345686400000).2 (.inr (.inl rfl)))
 have hi0:i=0:=by
  by_cases hz:i=0
  ·exact hz
  ·have:=List.pairwise_iff_getElem.1 h.zd 0 i (by omega) hi (by omega)
   have:=(MK M[0] (List.getElem_mem _)).1
   omega
 have Ec:j=M.length - 1:=by
  by_cases hz:j=M.length - 1
  ·exact hz
  ·have:=List.pairwise_iff_getElem.1 h.zd j (M.length - 1) hj (by omega) (by omega)
   have:=(MK (M[M.length - 1]'(by omega)) (List.getElem_mem _)).2
   omega
 have h2:2≤M.length:=by
  by_cases hz:M.length=1
  ·have:i=j:=by omega
   subst this;omega
  ·omega
 subst hi0
 refine ⟨?_,?_,by omega⟩
 ·unfold idx
  rw [if_pos (by omega),show ((0:Int)).toNat=0 by rfl,List.getElem?_eq_getElem hi,e0]
 ·unfold idx
  rw [if_pos (by omega),show ((M.length:Int) - 1).toNat=j by omega,List.getElem?_eq_getElem hj,e1]
theorem L6 {l:List Signal} {a b:Int} (h:∀ s∈l,s.At≤a↔s.At≤b):pre l a=pre l b:=by
 unfold pre
 exact List.filter_congr fun s hs=>by rw [decide_eq_decide];exact h s hs
theorem L7 {l:List Signal} (hv:VS l) (d r:aI) (U:Int→Bool) (mA:fb→Option Bool) (hf:∀ t,0≤t→mA (tU (FL (pre l t) ⟨d,r⟩) t)=some (U t))
 (hU:∀ t u,0≤t→t≤u→(∀ s∈l,¬ (t < s.At∧s.At≤u))→(∀ s∈l,s.Kind=4→¬ (t < s.aV∧s.aV≤u))→U u=U t):
 ∃ W,sJ l d r mA=some W∧NF W∧(∀ t,xR W t↔0≤t∧t < 345686400000∧U t=true)∧(W.length:Int)≤40:=by
 obtain ⟨M,m1,m2⟩:=Hl hv
 obtain ⟨g0,g1,g2⟩:=m2.first hv
 have MI:=m2.len
 unfold sJ
 rw [m1]
 simp only [Option.bind_some]
 unfold xw
 have key:∀ (k:Nat) (W:List au) (i T:Int),0≤i→i+k=(M.length:Int) - 1→idx M i=some T→NF W→(∀ w∈W,w.To≤T)→(∀ t,xR W t↔0≤t∧t < T∧U t=true)→(W.length:Int)≤i→
  ∃ W',iter (fun x:(List au)×Int=>fG l d r mA M x.1 x.2) (W,i)=some W'∧NF W'∧(∀ t,xR W' t↔0≤t∧t < 345686400000∧U t=true)∧(W'.length:Int)≤40:=by
  intro k
  induction k with
  | zero=>
    intro W i T h0 h1 hT hW HP hc hl
    have hi:i=(M.length:Int) - 1:=by omega
    subst hi
    rw [g1] at hT
    have hT:=Option.some.inj hT
    subst hT
    refine ⟨W,?_,hW,hc,by omega⟩
    rw [iter_eq]
    show (fG l d r mA M W _).bind _=_
    rw [fG,aZ (x:=(M.length:Int) - 1) (by omega) (by omega),if_neg (by omega),bP]
  | succ k ih=>
    intro W i T h0 h1 hT hW HP hc hl
    have RL:0≤T:=by
     by_cases e:i=0
     ·subst e;rw [g0] at hT;have:=Option.some.inj hT;omega
     ·have:=m2.zd.fY g0 hT (by omega);omega
    obtain ⟨T',Sa,_,_⟩:=Go.Beacon.fY M (i:=i+1) (by omega) (by omega)
    have iT:=m2.zd.fY hT Sa (by omega)
    have jW:∀ t,T≤t→t < T'→U t=U T:=fun t t1 t2=>hU T t RL t1 (fun s hs z=>by
     rcases m2.zd.gap hT Sa ((m2.mem s.At).2 (.inr (.inr ⟨s,hs,.inl rfl⟩))) with e | e<;>omega) (fun s hs h4 z=>by
     rcases m2.zd.gap hT Sa ((m2.mem s.aV).2 (.inr (.inr ⟨s,hs,.inr ⟨h4,rfl⟩⟩))) with e | e<;>omega)
    rw [iter_eq]
    show ∃ W',(fG l d r mA M W i).bind _=some W'∧_
    rw [fG,aZ (x:=(M.length:Int) - 1) (by omega) (by omega),if_pos (by omega),hT]
    simp only [Option.bind_some]
    rw [Hi hv d r RL]
    simp only [Option.bind_some]
    rw [hf T RL]
    simp only [Option.bind_some]
    have Qn:aT (i+1)=i+1:=aZ (by omega) (by omega)
    have next:∀ W2:List au,NF W2→(∀ w∈W2,w.To≤T')→(∀ t,xR W2 t↔0≤t∧t < T'∧U t=true)→(W2.length:Int)≤i+1→
     ∃ W',(some (Sum.inl (W2,aT (i+1))):Option (((List au)×Int)⊕(List au))).bind (after (iter fun x:(List au)×Int=>fG l d r mA M x.1 x.2))=some W'∧NF W'∧(∀ t,xR W' t↔0≤t∧t < 345686400000∧U t=true)∧(W'.length:Int)≤40:=by
     intro W2 a1 a2 a3 a4
     rw [Qn]
     simp only [Option.bind_some,gi]
     exact ih W2 (i+1) T' (by omega) (by omega) Sa a1 a2 a3 a4
    by_cases hu:U T=true
    ·rw [hu,if_neg (by simp)]
     have Uw:(∀ w∈W,w.To≠T)→∃ W',(kT M W i false).bind (after (iter fun x:(List au)×Int=>fG l d r mA M x.1 x.2))=some W'∧NF W'∧(∀ t,xR W' t↔0≤t∧t < 345686400000∧U t=true)∧(W'.length:Int)≤40:=by
      intro mb
      unfold kT
      rw [if_neg (by simp),hT,Qn,Sa]
      simp only [Option.bind_some]
      rw [iq (by simp;omega)]
      simp only [Option.bind_some]
      unfold mJ kS
      refine next _ ⟨?_,?_⟩ ?_ ?_ (by simp;omega)
      ·rw [List.pairwise_append]
       refine ⟨hW.pw,List.pairwise_singleton _ _,fun a ha b hb=>?_⟩
       rw [List.mem_singleton] at hb
       subst hb
       have:=HP a ha;have:=mb a ha
       show a.To < T;omega
      ·intro w hw
       rcases List.mem_append.1 hw with e | e
       ·exact hW.ok w e
       ·rw [List.mem_singleton] at e;subst e;exact iT
      ·intro w hw
       rcases List.mem_append.1 hw with e | e
       ·have:=HP w e;omega
       ·rw [List.mem_singleton] at e;subst e;exact Int.le_refl _
      ·intro t
       have h1:xR (W++[(⟨T,T'⟩:au)]) t↔xR W t∨(T≤t∧t < T'):=by
        unfold xR
        constructor
        ·rintro ⟨w,hw,e⟩
         rcases List.mem_append.1 hw with e' | e'
         ·exact .inl ⟨w,e',e⟩
         ·rw [List.mem_singleton] at e';subst e';exact .inr e
        ·rintro (⟨w,hw,e⟩ | e)
         ·exact ⟨w,List.mem_append_left _ hw,e⟩
         ·exact ⟨⟨T,T'⟩,by simp,e⟩
       rw [h1,hc t]
       constructor
       ·rintro (⟨a,b,c⟩ | ⟨a,b⟩)
        ·exact ⟨a,by omega,c⟩
        ·exact ⟨by omega,b,by rw [jW t a b];exact hu⟩
       ·rintro ⟨a,b,c⟩
        by_cases ht:t < T
        ·exact .inl ⟨a,ht,c⟩
        ·exact .inr ⟨by omega,b⟩
     by_cases mb:W=[]
     ·subst mb
      rw [if_neg (by simp)]
      exact Uw (by simp)
     ·have tc:0 < W.length:=List.length_pos_iff.2 mb
      rw [if_pos (by omega),aZ (x:=(W.length:Int) - 1) (by omega) (by omega),mz mb ⟨0,0⟩]
      simp only [Option.bind_some]
      obtain ⟨V,w,rfl⟩:∃ V w,W=V++[w]:=⟨W.dropLast,W.getLast mb,(List.dropLast_concat_getLast mb).symm⟩
      have R8:(V++[w]).getD ((V++[w]).length - 1) ⟨0,0⟩=w:=by simp
      rw [R8]
      have hp:=List.pairwise_append.1 hW.pw
      by_cases he:w.To=T
      ·rw [decide_eq_true he]
       unfold kT
       rw [if_pos rfl,Qn,Sa]
       simp only [Option.bind_some]
       rw [aZ (x:=(((V++[w]).length:Nat):Int) - 1) (by omega) (by omega),mz mb ⟨0,0⟩,R8]
       simp only [Option.bind_some]
       have L2:(V++[w]).set ((((V++[w]).length:Nat):Int) - 1).toNat (⟨w.bg,T'⟩:au)=V++[(⟨w.bg,T'⟩:au)]:=by
        rw [show ((((V++[w]).length:Nat):Int) - 1).toNat=V.length by simp,List.set_append_right _ _ (by omega)]
        simp
       rw [L2]
       unfold mJ kS
       have hwo:=hW.ok w (by simp)
       refine next _ ⟨?_,?_⟩ ?_ ?_ (by simp at hl ⊢;omega)
       ·rw [List.pairwise_append]
        refine ⟨hp.1,List.pairwise_singleton _ _,fun a ha b hb=>?_⟩
        rw [List.mem_singleton] at hb
        subst hb
        exact hp.2.2 a ha w (by simp)
       ·intro x hx
        rcases List.mem_append.1 hx with e | e
        ·exact hW.ok x (List.mem_append_left _ e)
        ·rw [List.mem_singleton] at e;subst e;show w.bg < T';omega
       ·intro x hx
        rcases List.mem_append.1 hx with e | e
        ·have:=HP x (List.mem_append_left _ e);omega
        ·rw [List.mem_singleton] at e;subst e;exact Int.le_refl _
       ·intro t
        have h1:xR (V++[(⟨w.bg,T'⟩:au)]) t↔xR (V++[w]) t∨(T≤t∧t < T'):=by
         unfold xR
         constructor
         ·rintro ⟨x,hx,e⟩
          rcases List.mem_append.1 hx with e' | e'
          ·exact .inl ⟨x,List.mem_append_left _ e',e⟩
          ·rw [List.mem_singleton] at e';subst e'
           simp only at e
           by_cases ht:t < T
           ·exact .inl ⟨w,by simp,e.1,by omega⟩
           ·exact .inr ⟨by omega,e.2⟩
         ·rintro (⟨x,hx,e⟩ | e)
          ·rcases List.mem_append.1 hx with e' | e'
           ·exact ⟨x,List.mem_append_left _ e',e⟩
           ·rw [List.mem_singleton] at e';subst e'
            exact ⟨⟨x.bg,T'⟩,by simp,e.1,by show t < T';omega⟩
          ·exact ⟨⟨w.bg,T'⟩,by simp,by show w.bg≤t;omega,e.2⟩
        rw [h1,hc t]
        constructor
        ·rintro (⟨a,b,c⟩ | ⟨a,b⟩)
         ·exact ⟨a,by omega,c⟩
         ·exact ⟨by omega,b,by rw [jW t a b];exact hu⟩
        ·rintro ⟨a,b,c⟩
         by_cases ht:t < T
         ·exact .inl ⟨a,ht,c⟩
         ·exact .inr ⟨by omega,b⟩
      ·rw [decide_eq_false he]
       refine Uw fun x hx=>?_
       rcases List.mem_append.1 hx with e | e
       ·have:=hp.2.2 x e w (by simp)
        have:=HP w (by simp)
        have:=hW.ok w (by simp)
        omega
       ·rw [List.mem_singleton] at e;subst e;exact he
    ·have RD:U T=false:=by simpa using hu
     rw [RD,if_pos (by rfl)]
     unfold kS
     refine next W hW (fun w hw=>by have:=HP w hw;omega) (fun t=>?_) (by omega)
     rw [hc t]
     constructor
     ·rintro ⟨a,b,c⟩;exact ⟨a,by omega,c⟩
     ·rintro ⟨a,b,c⟩
      refine ⟨a,?_,c⟩
      by_cases ht:t < T
      ·exact ht
      ·rw [jW t (by omega) b,RD] at c;cases c
 exact key (M.length - 1) [] 0 0 (by omega) (by omega) g0 ⟨List.Pairwise.nil,by simp⟩ (by simp) (fun t=>⟨fun z=>(by obtain ⟨w,hw,_⟩:=z;cases hw),fun z=>(by obtain ⟨a,b,_⟩:=z;omega)⟩) (by simp)
structure UI (p:List Signal) (n:aq) (x:ak):Prop where
 pw:x.eV.Pairwise (fun a b=>a.To < b.bg)
 on:lF x.az→∃ u f,x.eV=u++[⟨f,345686400000⟩]∧(∃ s∈p,s.At=f)∧∀ w∈u,w.bg≤w.To∧0≤w.bg∧∃ s∈p,kU s=n∧s.Kind=2∧s.At=w.To
 off:¬ lF x.az→∀ w∈x.eV,w.bg≤w.To∧0≤w.bg∧∃ s∈p,kU s=n∧s.Kind=2∧s.At=w.To
 cv:∀ t,xR x.eV t↔0≤t∧t < 345686400000∧lF (FL (pre p t) n).az
theorem D4 (u:List au) (w:au) (t:Int):setLast (u++[w]) t=u++[⟨w.bg,t⟩]:=by
 unfold setLast
 rw [List.set_append_right _ _ (by simp)]
 simp
theorem u7 {W:List au} {w:au} {t:Int}:xR (W++[w]) t↔xR W t∨(w.bg≤t∧t < w.To):=by
 unfold xR
 constructor
 ·rintro ⟨x,hx,e⟩
  rcases List.mem_append.1 hx with e' | e'
  ·exact .inl ⟨x,e',e⟩
  ·rw [List.mem_singleton] at e';subst e';exact .inr e
 ·rintro (⟨x,hx,e⟩ | e)
  ·exact ⟨x,List.mem_append_left _ hx,e⟩
  ·exact ⟨w,by simp,e⟩
theorem OK {a b:Signal} (h:sO a b < 0) (hn:kU a=kU b) (ha:a.At=b.At):a.Kind < b.Kind:=by
 have hd:a.Device=b.Device:=congrArg aq.aK hn
 have hr:a.a8=b.a8:=congrArg aq.aN hn
 unfold sO at h
 rw [ha,hd,hr] at h
 rw [ru,DO.zero,if_neg (by simp),ru,pb.zero,if_neg (by simp),ru,pb.zero,if_neg (by simp),ru] at h
 unfold tA at h
 split at h
 ·assumption
 ·split at h
  ·rw [if_pos (by omega)] at h;omega
  ·rw [if_neg (by omega)] at h;simp [wM] at h
theorem Ri (x:ak) (s:Signal) (hK:1≤s.Kind):
 ((lF (vW x s).2.az↔lF x.az)∧(vW x s).2.eV=x.eV)∨
 (s.Kind=1∧¬ lF x.az∧lF (vW x s).2.az∧(vW x s).2.eV=x.eV++[⟨s.At,345686400000⟩])∨
 (s.Kind=2∧lF x.az∧¬ lF (vW x s).2.az∧(vW x s).2.eV=setLast x.eV s.At):=by
 have tt:∀ st:Int,(iR x st s.At).az=st:=fun _=>rfl
 have n3:¬ lF 3:=by unfold lF;omega
 have n0:¬ lF 0:=by unfold lF;omega
 unfold vW
 by_cases k1:s.Kind=1
 ·rw [if_pos k1]
  by_cases hq:lF x.az
  ·rw [if_pos hq];exact .inl ⟨Iff.rfl,rfl⟩
  ·rw [if_neg hq]
   refine .inr (.inl ⟨k1,hq,.inl rfl,?_⟩)
   show (iR x 1 s.At).eV=_
   unfold iR
   simp only
   rw [if_pos ⟨.inl rfl,hq⟩,if_neg (fun z=>hq z.1)]
 ·rw [if_neg k1]
  by_cases k2:s.Kind=2
  ·rw [if_pos k2]
   have dn:∀ st:Int,¬ lF st→lF x.az→(iR x st s.At).eV=setLast x.eV s.At:=by
    intro st h1 h2
    unfold iR
    simp only
    rw [if_neg (fun z=>h1 z.1),if_pos ⟨h2,h1⟩]
   by_cases s1:x.az=1
   ·rw [if_pos s1];exact .inr (.inr ⟨k2,.inl s1,n3,dn 3 n3 (.inl s1)⟩)
   ·rw [if_neg s1]
    by_cases s2:x.az=2
    ·rw [if_pos s2];exact .inr (.inr ⟨k2,.inr s2,n0,dn 0 n0 (.inr s2)⟩)
    ·rw [if_neg s2];exact .inl ⟨Iff.rfl,rfl⟩
  ·rw [if_neg k2]
   by_cases k3:s.Kind=3
   ·rw [if_pos k3]
    by_cases s3:x.az=3
    ·rw [if_pos s3]
     have hx:¬ lF x.az:=by rw [s3];exact n3
     refine .inl ⟨⟨fun z=>absurd z n0,fun z=>absurd z hx⟩,?_⟩
     show (iR x 0 s.At).eV=_
     unfold iR
     simp only
     rw [if_neg (fun z=>n0 z.1),if_neg (fun z=>hx z.1)]
    ·rw [if_neg s3]
     by_cases s1:x.az=1
     ·rw [if_pos s1]
      have hx:lF x.az:=.inl s1
      refine .inl ⟨⟨fun _=>hx,fun _=>.inr rfl⟩,?_⟩
      show (iR x 2 s.At).eV=_
      unfold iR
      simp only
      rw [if_neg (fun z=>z.2 hx),if_neg (fun z=>z.2 (.inr rfl))]
     ·rw [if_neg s1];exact .inl ⟨Iff.rfl,rfl⟩
   ·rw [if_neg k3]
    by_cases k4:s.Kind=4
    ·rw [if_pos k4]
     split<;>exact .inl ⟨Iff.rfl,rfl⟩
    ·rw [if_neg k4]
     split<;>exact .inl ⟨Iff.rfl,rfl⟩
theorem L8 (p:List Signal) (s:Signal) (t:Int):pre (p++[s]) t=if s.At≤t then pre p t++[s] else pre p t:=by
 unfold pre
 rw [List.filter_append]
 by_cases h:s.At≤t<;>simp [h]
theorem PB (n:aq):∀ (p:List Signal),VS p→UI p n (FL p n):=by
 refine zO ?_ ?_
 ·intro _
  have h0:¬ lF (kF n).az:=by show ¬ lF 0;unfold lF;omega
  refine ⟨List.Pairwise.nil,fun h=>absurd h h0,fun _ w hw=>(by cases hw),fun t=>⟨fun z=>(by obtain ⟨w,hw,_⟩:=z;cases hw),fun z=>absurd z.2.2 h0⟩⟩
 ·intro p s ih hv
  have hp:VS p:=hv.sub (List.sublist_append_left _ _)
  have ih:=ih hp
  have hs:s∈p++[s]:=by simp
  have hm:=hv.Gr s hs
  have pO:∀ x∈p,x.At≤s.At:=fun x hx=>(List.pairwise_append.1 hv.FZ).2.2 x hx s (by simp)
  have XZ:∀ x∈p,sO x s < 0:=fun x hx=>(List.pairwise_append.1 hv.ord).2.2 x hx s (by simp)
  have uc:∀ {q:Signal→Prop},(∃ x∈p,q x)→∃ x∈p++[s],q x:=fun ⟨x,hx,e⟩=>⟨x,List.mem_append_left _ hx,e⟩
  have late:∀ t,s.At≤t→pre (p++[s]) t=p++[s]:=fun t ht=>zN fun x hx=>by
   rcases List.mem_append.1 hx with e | e
   ·have:=pO x e;omega
   ·rw [List.mem_singleton] at e;subst e;exact ht
  have early:∀ t,t < s.At→pre (p++[s]) t=pre p t:=fun t ht=>by rw [L8,if_neg (by omega)]
  have PC:∀ t,s.At≤t→pre p t=p:=fun t ht=>zN fun x hx=>by have:=pO x hx;omega
  by_cases hn:n=kU s
  ·have wq:FL (p++[s]) n=(vW (FL p n) s).2:=by
    rw [sb];unfold xQ uZ;rw [if_pos hn,hn]
   rw [wq]
   have X0:∀ W:List au,(∀ t,t < s.At→(xR W t↔xR (FL p n).eV t))→(∀ t,s.At≤t→(xR W t↔t < 345686400000∧lF (vW (FL p n) s).2.az))→∀ t,xR W t↔0≤t∧t < 345686400000∧lF (FL (pre (p++[s]) t) n).az:=by
    intro W c1 c2 t
    by_cases ht:s.At≤t
    ·rw [late t ht,c2 t ht,wq]
     exact ⟨fun ⟨a,b⟩=>⟨by omega,a,b⟩,fun ⟨_,a,b⟩=>⟨a,b⟩⟩
    ·rw [early t (by omega),c1 t (by omega)];exact ih.cv t
   have c2p:∀ t,s.At≤t→(xR (FL p n).eV t↔t < 345686400000∧lF (FL p n).az):=fun t ht=>by
    rw [ih.cv t,PC t ht]
    exact ⟨fun ⟨_,a,b⟩=>⟨a,b⟩,fun ⟨a,b⟩=>⟨by omega,a,b⟩⟩
   rcases Ri (FL p n) s (hv.kind s hs).1 with ⟨e1,e2⟩ | ⟨k,e1,e2,e3⟩ | ⟨k,e1,e2,e3⟩
   ·refine ⟨by rw [e2];exact ih.pw,fun h=>?_,fun h=>?_,X0 _ (fun t _=>by rw [e2]) (fun t ht=>by rw [e2,e1];exact c2p t ht)⟩
    ·obtain ⟨u,f,a,b,c⟩:=ih.on (e1.1 h)
     exact ⟨u,f,by rw [e2];exact a,uc b,fun w hw=>⟨(c w hw).1,(c w hw).2.1,uc (c w hw).2.2⟩⟩
    ·rw [e2]
     have c:=ih.off (fun z=>h (e1.2 z))
     exact fun w hw=>⟨(c w hw).1,(c w hw).2.1,uc (c w hw).2.2⟩
   ·have c:=ih.off e1
    have iT:∀ w∈(FL p n).eV,w.To < s.At:=by
     intro w hw
     obtain ⟨_,_,x,hx,a,b,d⟩:=c w hw
     have h1:=pO x hx
     by_cases he:x.At=s.At
     ·have:=OK (XZ x hx) (by rw [a,hn]) he;omega
     ·omega
    refine ⟨?_,fun _=>⟨(FL p n).eV,s.At,e3,⟨s,hs,rfl⟩,fun w hw=>⟨(c w hw).1,(c w hw).2.1,uc (c w hw).2.2⟩⟩,fun h=>absurd e2 h,X0 _ (fun t ht=>?_) (fun t ht=>?_)⟩
    ·rw [e3,List.pairwise_append]
     refine ⟨ih.pw,List.pairwise_singleton _ _,fun a ha b hb=>?_⟩
     rw [List.mem_singleton] at hb;subst hb
     exact iT a ha
    ·rw [e3,u7]
     exact ⟨fun z=>z.elim id (fun z=>by have:=z.1;simp only at this;omega),.inl⟩
    ·rw [e3,u7]
     refine ⟨fun z=>⟨?_,e2⟩,fun z=>.inr ⟨ht,z.1⟩⟩
     rcases z with z | z
     ·exact ((c2p t ht).1 z).1
     ·exact z.2
   ·obtain ⟨u,f,a,⟨x,hx,b⟩,c⟩:=ih.on e1
    have hu:(vW (FL p n) s).2.eV=u++[⟨f,s.At⟩]:=by rw [e3,a,D4]
    have hf:f≤s.At∧0≤f:=by rw [← b];exact ⟨pO x hx,(hp.Gr x hx).1⟩
    have X1:=ih.pw
    rw [a,List.pairwise_append] at X1
    have uTo:∀ w∈u,w.To≤s.At:=fun w hw=>by
     obtain ⟨_,_,y,hy,_,_,d⟩:=c w hw
     rw [← d];exact pO y hy
    refine ⟨?_,fun h=>absurd h e2,fun _ w hw=>?_,X0 _ (fun t ht=>?_) (fun t ht=>?_)⟩
    ·rw [hu,List.pairwise_append]
     refine ⟨X1.1,List.pairwise_singleton _ _,fun y hy z hz=>?_⟩
     rw [List.mem_singleton] at hz;subst hz
     exact X1.2.2 y hy ⟨f,345686400000⟩ (by simp)
    ·rw [hu] at hw
     rcases List.mem_append.1 hw with e | e
     ·exact ⟨(c w e).1,(c w e).2.1,uc (c w e).2.2⟩
     ·rw [List.mem_singleton] at e;subst e
      exact ⟨hf.1,hf.2,s,hs,hn.symm,k,rfl⟩
    ·rw [hu,a,u7,u7]
     simp only
     exact ⟨fun z=>z.imp id fun z=>⟨z.1,by omega⟩,fun z=>z.imp id fun z=>⟨z.1,ht⟩⟩
    ·rw [hu,u7]
     simp only
     refine ⟨fun z=>?_,fun z=>absurd z.2 e2⟩
     rcases z with ⟨w,hw,z1,z2⟩ | z
     ·have:=uTo w hw;omega
     ·omega
  ·have wq:FL (p++[s]) n=FL p n:=by
    rw [sb];unfold xQ uZ;rw [if_neg hn]
   rw [wq]
   refine ⟨ih.pw,fun h=>?_,fun h w hw=>?_,fun t=>?_⟩
   ·obtain ⟨u,f,a,b,c⟩:=ih.on h
    exact ⟨u,f,a,uc b,fun w hw=>⟨(c w hw).1,(c w hw).2.1,uc (c w hw).2.2⟩⟩
   ·have c:=ih.off h w hw
    exact ⟨c.1,c.2.1,uc c.2.2⟩
   ·rw [ih.cv t]
    by_cases ht:s.At≤t
    ·rw [late t ht,PC t ht,wq]
    ·rw [early t (by omega)]
def yZ (W:List au):List au:=W.filter fun w=>!decide (w.To≤w.bg)
theorem JD (W:List au) (t:Int):xR (yZ W) t↔xR W t:=by
 unfold xR yZ
 constructor
 ·rintro ⟨w,hw,e⟩;exact ⟨w,(List.mem_filter.1 hw).1,e⟩
 ·rintro ⟨w,hw,e⟩;exact ⟨w,List.mem_filter.2 ⟨hw,by simp;omega⟩,e⟩
theorem L9 {W:List au} (h:W.Pairwise (fun a b=>a.To < b.bg)):NF (yZ W):=
 ⟨h.sublist List.filter_sublist,fun w hw=>by have:=(List.mem_filter.1 hw).2;simpa using this⟩
theorem OL (x:ak) (m:Int):yg (tU x m)=decide (lF x.az):=by
 unfold yg vz tU
 rw [← Bool.decide_or]
theorem Bh {l:List Signal} (hv:VS l) (d r:aI):na l d r=some (yZ (FL l ⟨d,r⟩).eV):=by
 obtain ⟨W,w1,w2,w3,w4⟩:=L7 hv d r (fun t=>decide (lF (FL (pre l t) ⟨d,r⟩).az)) (fun y0=>some (yg y0)) (fun t ht=>by rw [OL]) (fun t u h0 h1 h2 h3=>by
  rw [L6 (a:=u) (b:=t) (fun s hs=>⟨fun z=>by
   by_cases e:s.At≤t
   ·exact e
   ·exact absurd ⟨by omega,z⟩ (h2 s hs),fun z=>by omega⟩)])
 have hu:=PB ⟨d,r⟩ l hv
 unfold na
 rw [w1]
 simp only [Option.bind_some]
 rw [CI w2 (L9 hu.pw) (fun t=>by rw [JD,hu.cv t,w3 t,decide_eq_true_iff])]
def su (l:List Signal):List Int:=(l.filter (fun s=>decide (s.Kind=3))).map Signal.At
def xS (a:Int×List Int) (s:Signal):Int×List Int:=(if s.Kind=1 then s.At else a.1,if s.Kind=3 then a.2++[s.At - a.1] else a.2)
def wF (l:List Signal):Int×List Int:=l.foldl xS (0,[])
theorem va (l:List Signal) (s:Signal):su (l++[s])=if s.Kind=3 then su l++[s.At] else su l:=by
 unfold su
 rw [List.filter_append]
 by_cases h:s.Kind=3<;>simp [h]
theorem vE (l:List Signal) (s:Signal):wF (l++[s])=xS (wF l) s:=by
 unfold wF
 rw [List.foldl_append];rfl
structure AK (x:ak) (t:an):Prop where
 st:x.az=t.az
 tD:x.aD=ei t.bq
 Ma:x.bf=su t.bq
 waits:x.aW=(wF t.bq).2
 last:x.aD.getD (x.aD.length - 1) 0=(wF t.bq).1
theorem JE (l:List Int) (a d:Int):(l++[a]).getD ((l++[a]).length - 1) d=a:=by
 rw [List.length_append,List.length_singleton,Nat.add_sub_cancel,List.getD_eq_getElem?_getD,List.getElem?_append_right (Nat.le_refl _),Nat.sub_self]
 rfl
theorem AK.step {x:ak} {t:an} (h:AK x t) {s:Signal} (hK:1≤s.Kind∧s.Kind≤5) (hs:s.Kind≤3∨True) (jW:(vW x s).1=(Eh t s).1) (wq:(vW x s).2.az=(Eh t s).2.az):AK (vW x s).2 (Eh t s).2:=by
 have e0:=h.st
 have keep:∀ (y:ak) (st:Int) (w:au),y.aD=x.aD→y.bf=x.bf→y.aW=x.aW→y.az=st→s.Kind≠1→s.Kind≠3→AK y (sa t s st w):=by
  intro y st w e1 e2 e3 e4 k1 k3
  refine ⟨e4,?_,?_,?_,?_⟩
  ·show y.aD=ei (t.bq++[s])
   rw [nn,if_neg k1,e1];exact h.tD
  ·show y.bf=su (t.bq++[s])
   rw [va,if_neg k3,e2];exact h.Ma
  ·show y.aW=(wF (t.bq++[s])).2
   rw [vE];unfold xS;rw [if_neg k3,e3];exact h.waits
  ·show y.aD.getD _ 0=(wF (t.bq++[s])).1
   rw [vE];unfold xS;rw [if_neg k1,e1];exact h.last
 have Px:∀ (st:Int),s.Kind=3→AK (Jy (iR x st s.At) s.At) (sa t s st t.ay):=by
  intro st k3
  refine ⟨rfl,?_,?_,?_,?_⟩
  ·show x.aD=ei (t.bq++[s])
   rw [nn,if_neg (by omega)];exact h.tD
  ·show x.bf++[s.At]=su (t.bq++[s])
   rw [va,if_pos k3,h.Ma]
  ·show x.aW++[s.At - x.aD.getD (x.aD.length - 1) 0]=(wF (t.bq++[s])).2
   rw [vE];unfold xS;rw [if_pos k3,h.last,h.waits]
  ·show x.aD.getD _ 0=(wF (t.bq++[s])).1
   rw [vE];unfold xS;rw [if_neg (by omega)];exact h.last
 unfold vW Eh at jW wq ⊢
 rw [← e0] at jW wq ⊢
 by_cases k1:s.Kind=1
 ·rw [if_pos k1,if_pos k1]
  by_cases hq:lF x.az
  ·rw [if_pos hq,if_pos hq];exact h
  ·rw [if_neg hq,if_neg hq]
   refine ⟨rfl,?_,?_,?_,?_⟩
   ·show x.aD++[s.At]=ei (t.bq++[s])
    rw [nn,if_pos k1,h.tD]
   ·show x.bf=su (t.bq++[s])
    rw [va,if_neg (by omega)];exact h.Ma
   ·show x.aW=(wF (t.bq++[s])).2
    rw [vE]
    show x.aW=if s.Kind=3 then (wF t.bq).2++[s.At - (wF t.bq).1] else (wF t.bq).2
    rw [if_neg (by omega)];exact h.waits
   ·show (x.aD++[s.At]).getD ((x.aD++[s.At]).length - 1) 0=(wF (t.bq++[s])).1
    rw [vE,JE];unfold xS;rw [if_pos k1]
 rw [if_neg k1,if_neg k1] at jW wq ⊢
 by_cases k2:s.Kind=2
 ·rw [if_pos k2,if_pos k2]
  by_cases s1:x.az=1
  ·rw [if_pos s1,if_pos s1];exact keep _ _ _ rfl rfl rfl rfl k1 (by omega)
  rw [if_neg s1,if_neg s1]
  by_cases s2:x.az=2
  ·rw [if_pos s2,if_pos s2];exact keep _ _ _ rfl rfl rfl rfl k1 (by omega)
  ·rw [if_neg s2,if_neg s2];exact h
 rw [if_neg k2,if_neg k2] at jW wq ⊢
 by_cases k3:s.Kind=3
 ·rw [if_pos k3,if_pos k3]
  by_cases s3:x.az=3
  ·rw [if_pos s3,if_pos s3];exact Px 0 k3
  rw [if_neg s3,if_neg s3]
  by_cases s1:x.az=1
  ·rw [if_pos s1,if_pos s1];exact Px 2 k3
  ·rw [if_neg s1,if_neg s1];exact h
 rw [if_neg k3,if_neg k3] at jW wq ⊢
 by_cases k4:s.Kind=4
 ·rw [if_pos k4,if_pos k4] at jW ⊢
  by_cases a:s.At < x.ay
  ·rw [if_pos a] at jW ⊢
   by_cases b:MX t s
   ·rw [if_pos b];exact h
   ·rw [if_neg b] at jW;cases jW
  ·rw [if_neg a] at jW ⊢
   by_cases b:MX t s
   ·rw [if_pos b] at jW;cases jW
   ·rw [if_neg b];exact keep _ _ _ rfl rfl rfl rfl k1 k3
 ·rw [if_neg k4,if_neg k4] at jW ⊢
  by_cases a:x.ay≤s.At
  ·rw [if_pos a] at jW ⊢
   by_cases b:MX t s
   ·rw [if_pos b] at jW;cases jW
   ·rw [if_neg b];exact h
  ·rw [if_neg a] at jW ⊢
   by_cases b:MX t s
   ·rw [if_pos b];exact keep _ _ _ rfl rfl rfl rfl k1 k3
   ·rw [if_neg b] at jW;cases jW
theorem AK0 (n:aq):AK (kF n) (yw n):=⟨rfl,rfl,rfl,rfl,rfl⟩
theorem Mb:∀ (p:List Signal),VS p→∀ n,AK (FL p n) (TL p n):=by
 refine zO (P:=fun p=>VS p→∀ n,AK (FL p n) (TL p n)) (fun _ n=>AK0 n) (fun p s ih hv n=>?_)
 have hp:VS p:=hv.sub (List.sublist_append_left _ _)
 have h:=ih hp
 rw [sb,tG]
 unfold xQ stepG uZ
 by_cases q:n=kU s
 ·rw [if_pos q,if_pos q]
  have hK:=hv.kind s (by simp)
  have ho:=u6 p hp
  have hs0:=(hv.Gr s (by simp)).1
  obtain ⟨g1,g2⟩:=(ho.rt s.At hs0 (fun y hy=>(List.pairwise_append.1 hv.FZ).2.2 y hy s (by simp)) (kU s)).step (Int.le_refl _) hs0 hK
  exact (h (kU s)).step hK (.inr trivial) g1 g2.st
 ·rw [if_neg q,if_neg q];exact h n
def Br:Int→List Signal→List (Int×Int)
 | _,[]=>[]
 | r,s :: l=>if s.Kind=1 then Br s.At l else if s.Kind=3 then (s.At,s.At - r) :: Br r l else Br r l
theorem yy:∀ (l:List Signal) (r:Int),su l=(Br r l).map Prod.fst
 | [],_=>rfl
 | s :: l,r=>by
   have ih:=yy l
   unfold su at ih ⊢
   rw [List.filter_cons]
   unfold Br
   by_cases k1:s.Kind=1
   ·rw [if_pos k1,if_neg (by simp;omega),ih s.At]
   ·rw [if_neg k1]
    by_cases k3:s.Kind=3
    ·rw [if_pos k3,if_pos (decide_eq_true k3),List.map_cons,List.map_cons,ih r]
    ·rw [if_neg k3,if_neg (by simpa using k3),ih r]
theorem F4:∀ (l:List Signal) (r:Int) (ws:List Int),(l.foldl xS (r,ws)).2=ws++(Br r l).map Prod.snd
 | [],r,ws=>by simp [Br]
 | s :: l,r,ws=>by
   rw [List.foldl_cons]
   unfold Br xS
   by_cases k1:s.Kind=1
   ·rw [if_pos k1,if_pos k1,if_neg (by omega)]
    exact F4 l s.At ws
   ·rw [if_neg k1,if_neg k1]
    by_cases k3:s.Kind=3
    ·rw [if_pos k3,if_pos k3]
     refine (F4 l r _).trans ?_
     rw [List.map_cons,List.append_assoc];rfl
    ·rw [if_neg k3,if_neg k3]
     exact F4 l r ws
theorem Mc (c:Int):∀ (l:List Signal) (r:Int),(∀ s∈l,0≤s.At∧s.At≤c)→(0≤r∧r≤c)→(∀ z∈Br r l,-c≤z.2∧z.2≤c)∧(Br r l).length≤l.length
 | [],r,_,_=>by simp [Br]
 | s :: l,r,h,hr=>by
   have hs:=h s (by simp)
   have hl:∀ s∈l,0≤s.At∧s.At≤c:=fun x hx=>h x (by simp [hx])
   unfold Br
   by_cases k1:s.Kind=1
   ·rw [if_pos k1]
    have:=Mc c l s.At hl hs
    exact ⟨this.1,by rw [List.length_cons];omega⟩
   ·rw [if_neg k1]
    have:=Mc c l r hl hr
    by_cases k3:s.Kind=3
    ·rw [if_pos k3]
     refine ⟨fun z hz=>?_,by rw [List.length_cons,List.length_cons];omega⟩
     rcases List.mem_cons.1 hz with rfl | hz
     ·show -c≤s.At - r∧s.At - r≤c
      omega
     ·exact this.1 z hz
    ·rw [if_neg k3]
     exact ⟨this.1,by rw [List.length_cons];omega⟩
def Ei (w:au) (t:Int):Bool:=decide (w.bg≤t)&&decide (t < w.To)
def rJ (w:au) (a:aj) (t:Int):aj:=if Ei w t=true then ⟨a.a8,a.bS+1,a.dh,a.bV,a.Time⟩ else a
def pN (w:au) (a:aj) (z:Int×Int):aj:=if Ei w z.1=true then ⟨a.a8,a.bS,a.dh+1,a.bV+z.2,a.Time⟩ else a
def wQ (w:au) (a:aj) (u:au):aj:=⟨a.a8,a.bS,a.dh,a.bV,a.Time+max 0 (min u.To w.To - max u.bg w.bg)⟩
abbrev cB:Int:=4398046511104
def AB (k:Int) (a:aj):Prop:=((0≤a.bS∧a.bS≤k)∧(0≤a.dh∧a.dh≤k))∧((-(k * cB)≤a.bV∧a.bV≤k * cB)∧(0≤a.Time∧a.Time≤k * cB))
theorem AB.more {k j:Int} {a:aj} (h:AB k a) (hj:k≤j):AB j a:=by
 unfold AB at h ⊢
 have:k * cB≤j * cB:=Int.mul_le_mul_of_nonneg_right hj (by decide)
 omega
theorem Hm {k:Int} {a:aj} (h:AB k a) (w:au) (t:Int):AB (k+1) (rJ w a t):=by
 unfold rJ
 split
 ·have h':=h.more (j:=k+1) (by omega)
  unfold AB at h h' ⊢
  refine ⟨⟨⟨?_,?_⟩,h'.1.2⟩,h'.2⟩
  ·show 0≤a.bS+1
   omega
  ·show a.bS+1≤k+1
   omega
 ·exact h.more (by omega)
theorem Hn {k:Int} {a:aj} (h:AB k a) (w:au) {z:Int×Int} (hz:-cB≤z.2∧z.2≤cB):AB (k+1) (pN w a z):=by
 unfold pN
 split
 ·have h':=h.more (j:=k+1) (by omega)
  have e:(k+1) * cB=k * cB+cB:=by rw [Int.add_mul,Int.one_mul]
  unfold AB at h h' ⊢
  refine ⟨⟨h'.1.1,?_,?_⟩,⟨?_,?_⟩,h'.2.2⟩
  ·show 0≤a.dh+1
   omega
  ·show a.dh+1≤k+1
   omega
  ·show -((k+1) * cB)≤a.bV+z.2
   rw [e];omega
  ·show a.bV+z.2≤(k+1) * cB
   rw [e];omega
 ·exact h.more (by omega)
abbrev WB (w:au):Prop:=(0≤w.bg∧w.bg≤cB)∧(0≤w.To∧w.To≤cB)
theorem Ho {k:Int} {a:aj} (h:AB k a) {w u:au} (hw:WB w) (hu:WB u):AB (k+1) (wQ w a u):=by
 have h':=h.more (j:=k+1) (by omega)
 have e:(k+1) * cB=k * cB+cB:=by rw [Int.add_mul,Int.one_mul]
 unfold AB at h h' ⊢
 refine ⟨h'.1,h'.2.1,?_,?_⟩
 ·show 0≤a.Time+max 0 (min u.To w.To - max u.bg w.bg)
  omega
 ·show a.Time+max 0 (min u.To w.To - max u.bg w.bg)≤(k+1) * cB
  rw [e]
  have:max 0 (min u.To w.To - max u.bg w.bg)≤cB:=by omega
  omega
theorem D5 {β:Type} (f:aj→β→aj) (Q:β→Prop) (hf:∀ k a z,AB k a→Q z→AB (k+1) (f a z)):∀ (l:List β) (k:Int) (a:aj),AB k a→(∀ z∈l,Q z)→AB (k+l.length) (l.foldl f a)
 | [],k,a,h,_=>by simpa using h
 | z :: r,k,a,h,hq=>by
   have:=D5 f Q hf r (k+1) (f a z) (hf k a z h (hq z (by simp))) (fun y hy=>hq y (by simp [hy]))
   rw [List.foldl_cons,List.length_cons]
   rw [show k+((r.length+1:Nat):Int)=k+1+r.length by omega]
   exact this
theorem sW {β:Type} (f:aj→β→aj) (hf:∀ a z,(f a z).a8=a.a8):∀ (l:List β) (a:aj),(l.foldl f a).a8=a.a8
 | [],a=>rfl
 | z :: r,a=>by rw [List.foldl_cons,sW f hf r,hf]
theorem JF (w:au) (a:aj) (t:Int):(rJ w a t).a8=a.a8:=by unfold rJ;split<;>rfl
theorem JG (w:au) (a:aj) (z:Int×Int):(pN w a z).a8=a.a8:=by unfold pN;split<;>rfl
theorem JH (w:au) (a:aj) (u:au):(wQ w a u).a8=a.a8:=rfl
def rK (w:au) (a:aj) (x:ak):aj:=x.eV.foldl (wQ w) ((x.bf.zip x.aW).foldl (pN w) (x.aD.foldl (rJ w) a))
theorem CL (w:au) (a:aj) (x:ak):(rK w a x).a8=a.a8:=by
 unfold rK
 rw [sW _ (JH w),sW _ (JG w),sW _ (JF w)]
structure LB (x:ak):Prop where
 r:x.aD.length≤15
 a:x.bf.length≤15
 wl:x.aW.length=x.bf.length
 w:∀ t∈x.aW,-cB≤t∧t≤cB
 ul:x.eV.length≤15
 u:∀ w∈x.eV,WB w
theorem Md {x:ak} (h:LB x):∀ z∈x.bf.zip x.aW,-cB≤z.2∧z.2≤cB:=fun z hz=>h.w z.2 (List.of_mem_zip hz).2
theorem Me {k:Int} {a:aj} (h:AB k a) {w:au} (hw:WB w) {x:ak} (hx:LB x):AB (k+45) (rK w a x):=by
 unfold rK
 have h1:=D5 (rJ w) (fun _=>True) (fun k a z h _=>Hm h w z) x.aD k a h (fun _ _=>trivial)
 have h2:=D5 (pN w) (fun z=>-cB≤z.2∧z.2≤cB) (fun k a z h hz=>Hn h w hz) (x.bf.zip x.aW) _ _ h1 (Md hx)
 have h3:=D5 (wQ w) WB (fun k a z h hz=>Ho h hw hz) x.eV _ _ h2 hx.u
 refine h3.more ?_
 have:=hx.r
 have:=hx.a
 have:=hx.ul
 have:=hx.wl
 rw [List.length_zip]
 omega
theorem F5:∀ (p:List Signal),∀ n s,s∈(TL p n).bq→s∈p:=by
 refine zO (P:=fun p=>∀ n s,s∈(TL p n).bq→s∈p) (fun n s h=>by simp [TL,yw] at h) (fun p s ih n y hy=>?_)
 rw [tG] at hy
 unfold stepG uZ at hy
 split at hy
 ·have key:∀ t:an,∀ y∈(Eh t s).2.bq,y∈t.bq∨y=s:=by
   intro t y hy
   unfold Eh at hy
   repeat' split at hy
   all_goals first | exact .inl hy | (unfold sa at hy;simp only [List.mem_append,List.mem_singleton] at hy;exact hy)
  rcases key _ y hy with h | h
  ·exact List.mem_append_left _ (ih _ y h)
  ·rw [h];simp
 ·exact List.mem_append_left _ (ih n y hy)
theorem Mf {p:List Signal} (hv:VS p) (n:aq):LB (FL p n):=by
 have ho:=u6 p hv
 have hk:=Mb p hv n
 have hu:=PB n p hv
 have hl:=ho.li n
 have hlen:=hv.len
 have hd:∀ s∈(TL p n).bq,0≤s.At∧s.At≤cB:=fun s hs=>by
  have:=hv.Gr s (F5 p n s hs)
  constructor
  ·exact this.1
  ·show s.At≤4398046511104
   omega
 obtain ⟨b1,b2⟩:=Mc cB (TL p n).bq 0 hd ⟨Int.le_refl 0,by decide⟩
 have hw:(FL p n).aW=(Br 0 (TL p n).bq).map Prod.snd:=by
  rw [hk.waits]
  unfold wF
  rw [F4];rfl
 have ha:(FL p n).bf=(Br 0 (TL p n).bq).map Prod.fst:=by rw [hk.Ma,yy _ 0]
 refine ⟨by have:=hl.l1;omega,by have:=hl.l5;omega,by rw [hw,ha,List.length_map,List.length_map],?_,by have:=hl.l2;omega,?_⟩
 ·intro t ht
  rw [hw] at ht
  obtain ⟨z,hz,rfl⟩:=List.mem_map.1 ht
  exact b1 z hz
 ·intro w hw
  have key:∀ w:au,(w.bg≤w.To∧0≤w.bg∧∃ s∈p,kU s=n∧s.Kind=2∧s.At=w.To)→WB w:=by
   rintro w ⟨c1,c2,s,c3,_,_,c4⟩
   have:=hv.Gr s c3
   unfold WB cB
   omega
  by_cases Pf:lF (FL p n).az
  ·obtain ⟨u,f,e1,⟨s,s1,s2⟩,e3⟩:=hu.on Pf
   rw [e1] at hw
   rcases List.mem_append.1 hw with g | g
   ·exact key w (e3 w g)
   ·rw [List.mem_singleton] at g
    have:=hv.Gr s s1
    rw [g]
    unfold WB cB
    simp only
    omega
  ·exact key w (hu.off Pf w hw)
theorem Rj {p:List Signal} (hv:VS p) (n:aq):(FL p n).bf.zip (FL p n).aW=Br 0 (TL p n).bq:=by
 have hk:=Mb p hv n
 have hw:(FL p n).aW=(Br 0 (TL p n).bq).map Prod.snd:=by
  rw [hk.waits]
  unfold wF
  rw [F4];rfl
 have ha:(FL p n).bf=(Br 0 (TL p n).bq).map Prod.fst:=by rw [hk.Ma,yy _ 0]
 rw [hw,ha,List.zip_map']
 simp
theorem AB.num {k:Int} {a:aj} (h:AB k a) (hk:k≤3000):((0≤a.bS∧a.bS≤3000)∧(0≤a.dh∧a.dh≤3000))∧((-13194139533312000≤a.bV∧a.bV≤13194139533312000)∧(0≤a.Time∧a.Time≤13194139533312000)):=by
 have:=h.more hk
 unfold AB cB at this
 omega
theorem rz {α:Type} {l:List α} {n:Int} (hn:0≤n∧n < l.length) (a:α):idx (l.set n.toNat a) n=some a:=by
 unfold idx
 rw [if_pos hn.1,List.getElem?_set,if_pos rfl,if_pos (by omega)]
theorem WB.num {w:au} (h:WB w):(0≤w.bg∧w.bg≤4398046511104)∧(0≤w.To∧w.To≤4398046511104):=h
section old
variable (w:au) (hw:WB w) (M:List (aI×Int)) (n26:Int) (x:ak) (hx:LB x) (n:Int) (l:List aj) (hn:0≤n∧n < l.length)
include hw hx hn
theorem Rk (k:Int) (hk:0≤k∧k≤2900) (a:aj) (ha:AB k a):nE w M n26 x n (l.set n.toNat a) 0=bt n26 (l.set n.toNat (x.eV.foldl (wQ w) a)) M:=by
 unfold nE
 refine eK x.eV (fun (a:aj) (i:Int)=>(l.set n.toNat a,i)) _ (wQ w) (fun i a=>AB (k+i) a) (fun a=>bt n26 (l.set n.toNat a) M) ?_ ?_ a (by simpa using ha)
 ·intro s i u h0 h1 hu hI
  have hl:=hx.ul
  have Sb:=hx.u u (jS hu)
  have hs:=hI.num (by omega)
  have P0:=hw.num
  have RD:=WB.num Sb
  refine ⟨?_,by rw [← Int.add_assoc];exact Ho hI hw Sb⟩
  show ed w M n26 x n (l.set n.toNat s) i=_
  unfold ed
  rw [if_pos h1,hu]
  simp only [Option.bind_some]
  rw [rz hn s]
  simp only [Option.bind_some]
  rw [List.set_set,aZ (x:=i+1) (by omega) (by omega),aZ (x:=min u.To w.To - max u.bg w.bg) (by omega) (by omega),aZ (by omega) (by omega)]
  rfl
 ·intro s _
  show ed w M n26 x n (l.set n.toNat s) x.eV.length=_
  unfold ed
  rw [if_neg (Int.lt_irrefl _)]
theorem Rl (k:Int) (hk:0≤k∧k≤2800) (a:aj) (ha:AB k a):nF w M n26 x n (l.set n.toNat a) 0=bt n26 (l.set n.toNat (x.eV.foldl (wQ w) ((x.bf.zip x.aW).foldl (pN w) a))) M:=by
 unfold nF
 have hlen:(x.bf.zip x.aW).length=x.bf.length:=by
  have:=hx.wl
  rw [List.length_zip];omega
 refine eK (x.bf.zip x.aW) (fun (a:aj) (i:Int)=>(l.set n.toNat a,i)) _ (pN w) (fun i a=>AB (k+i) a) (fun a=>bt n26 (l.set n.toNat (x.eV.foldl (wQ w) a)) M) ?_ ?_ a (by simpa using ha)
 ·intro s i z h0 h1 hz hI
  have hl:=hx.a
  have Ql:=Md hx z (jS hz)
  have X2:-4398046511104≤z.2∧z.2≤4398046511104:=Ql
  have hs:=hI.num (by omega)
  obtain ⟨g0,g1,g2⟩:=cV hz
  have e1:idx x.bf i=some z.1:=by
   unfold idx
   rw [if_pos h0,← List.map_fst_zip (l₁:=x.bf) (l₂:=x.aW) (by have:=hx.wl;omega)]
   simp [g2]
  have e2:idx x.aW i=some z.2:=by
   unfold idx
   rw [if_pos h0,← List.map_snd_zip (l₁:=x.bf) (l₂:=x.aW) (by have:=hx.wl;omega)]
   simp [g2]
  refine ⟨?_,by rw [← Int.add_assoc];exact Hn hI w Ql⟩
  show ee w M n26 x n (l.set n.toNat s) i=_
  unfold ee jy pN
  rw [if_pos (by omega),e1]
  simp only [Option.bind_some]
  rw [aZ (x:=i+1) (by omega) (by omega)]
  by_cases c:Ei w z.1=true
  ·rw [if_pos (show bB z.1 w=true from c),if_pos c,rz hn s]
   simp only [Option.bind_some]
   rw [e2]
   simp only [Option.bind_some]
   rw [List.set_set,List.set_set,aZ (x:=s.dh+1) (by omega) (by omega),aZ (x:=s.bV+z.2) (by omega) (by omega)]
  ·rw [if_neg (show ¬ bB z.1 w=true from c),if_neg c]
 ·intro s hI
  show ee w M n26 x n (l.set n.toNat s) (x.bf.zip x.aW).length=_
  unfold ee
  have hl:=hx.a
  rw [if_neg (by omega)]
  exact congrArg _ (Rk w hw M n26 x hx n l hn _ (by omega) s hI)
theorem Rm (k:Int) (hk:0≤k∧k≤2700) (a:aj) (ha:AB k a):nG w M n26 x n (l.set n.toNat a) 0=bt n26 (l.set n.toNat (rK w a x)) M:=by
 unfold nG rK
 refine eK x.aD (fun (a:aj) (i:Int)=>(l.set n.toNat a,i)) _ (rJ w) (fun i a=>AB (k+i) a) (fun a=>bt n26 (l.set n.toNat (x.eV.foldl (wQ w) ((x.bf.zip x.aW).foldl (pN w) a))) M) ?_ ?_ a (by simpa using ha)
 ·intro s i z h0 h1 hz hI
  have hl:=hx.r
  have hs:=hI.num (by omega)
  refine ⟨?_,by rw [← Int.add_assoc];exact Hm hI w z⟩
  show ef w M n26 x n (l.set n.toNat s) i=_
  unfold ef jx rJ
  rw [if_pos h1,hz]
  simp only [Option.bind_some]
  rw [aZ (x:=i+1) (by omega) (by omega)]
  by_cases c:Ei w z=true
  ·rw [if_pos (show bB z w=true from c),if_pos c,rz hn s]
   simp only [Option.bind_some]
   rw [List.set_set,aZ (x:=s.bS+1) (by omega) (by omega)]
  ·rw [if_neg (show ¬ bB z w=true from c),if_neg c]
 ·intro s hI
  show ef w M n26 x n (l.set n.toNat s) x.aD.length=_
  unfold ef
  have hl:=hx.r
  rw [if_neg (Int.lt_irrefl _)]
  exact congrArg _ (Rl w hw M n26 x hx n l hn _ (by omega) s hI)
end old
section new
variable (w:au) (hw:WB w) (L:List aj) (M:List (aI×Int)) (n26:Int) (x:ak) (hx:LB x) (n:Int) (l:List aj) (hn:0≤n∧n < l.length)
include hw hx hn
theorem Ux (k:Int) (hk:0≤k∧k≤2900) (a:aj) (ha:AB k a):oC w L M n26 x n (l.set n.toNat a) 0=bt n26 (l.set n.toNat (x.eV.foldl (wQ w) a)) (gV M x.aR.aN (L.length:Int)):=by
 unfold oC
 refine eK x.eV (fun (a:aj) (i:Int)=>(l.set n.toNat a,i)) _ (wQ w) (fun i a=>AB (k+i) a) (fun a=>bt n26 (l.set n.toNat a) (gV M x.aR.aN (L.length:Int))) ?_ ?_ a (by simpa using ha)
 ·intro s i u h0 h1 hu hI
  have hl:=hx.ul
  have Sb:=hx.u u (jS hu)
  have hs:=hI.num (by omega)
  have P0:=hw.num
  have RD:=WB.num Sb
  refine ⟨?_,by rw [← Int.add_assoc];exact Ho hI hw Sb⟩
  show eP w L M n26 x n (l.set n.toNat s) i=_
  unfold eP
  rw [if_pos h1,hu]
  simp only [Option.bind_some]
  rw [rz hn s]
  simp only [Option.bind_some]
  rw [List.set_set,aZ (x:=i+1) (by omega) (by omega),aZ (x:=min u.To w.To - max u.bg w.bg) (by omega) (by omega),aZ (by omega) (by omega)]
  rfl
 ·intro s _
  show eP w L M n26 x n (l.set n.toNat s) x.eV.length=_
  unfold eP
  rw [if_neg (Int.lt_irrefl _)]
theorem Uy (k:Int) (hk:0≤k∧k≤2800) (a:aj) (ha:AB k a):oD w L M n26 x n (l.set n.toNat a) 0=bt n26 (l.set n.toNat (x.eV.foldl (wQ w) ((x.bf.zip x.aW).foldl (pN w) a))) (gV M x.aR.aN (L.length:Int)):=by
 unfold oD
 have hlen:(x.bf.zip x.aW).length=x.bf.length:=by
  have:=hx.wl
  rw [List.length_zip];omega
 refine eK (x.bf.zip x.aW) (fun (a:aj) (i:Int)=>(l.set n.toNat a,i)) _ (pN w) (fun i a=>AB (k+i) a) (fun a=>bt n26 (l.set n.toNat (x.eV.foldl (wQ w) a)) (gV M x.aR.aN (L.length:Int))) ?_ ?_ a (by simpa using ha)
 ·intro s i z h0 h1 hz hI
  have hl:=hx.a
  have Ql:=Md hx z (jS hz)
  have X2:-4398046511104≤z.2∧z.2≤4398046511104:=Ql
  have hs:=hI.num (by omega)
  obtain ⟨g0,g1,g2⟩:=cV hz
  have e1:idx x.bf i=some z.1:=by
   unfold idx
   rw [if_pos h0,← List.map_fst_zip (l₁:=x.bf) (l₂:=x.aW) (by have:=hx.wl;omega)]
   simp [g2]
  have e2:idx x.aW i=some z.2:=by
   unfold idx
   rw [if_pos h0,← List.map_snd_zip (l₁:=x.bf) (l₂:=x.aW) (by have:=hx.wl;omega)]
   simp [g2]
  refine ⟨?_,by rw [← Int.add_assoc];exact Hn hI w Ql⟩
  show eQ w L M n26 x n (l.set n.toNat s) i=_
  unfold eQ jw pN
  rw [if_pos (by omega),e1]
  simp only [Option.bind_some]
  rw [aZ (x:=i+1) (by omega) (by omega)]
  by_cases c:Ei w z.1=true
  ·rw [if_pos (show bB z.1 w=true from c),if_pos c,rz hn s]
   simp only [Option.bind_some]
   rw [e2]
   simp only [Option.bind_some]
   rw [List.set_set,List.set_set,aZ (x:=s.dh+1) (by omega) (by omega),aZ (x:=s.bV+z.2) (by omega) (by omega)]
  ·rw [if_neg (show ¬ bB z.1 w=true from c),if_neg c]
 ·intro s hI
  show eQ w L M n26 x n (l.set n.toNat s) (x.bf.zip x.aW).length=_
  unfold eQ
  have hl:=hx.a
  rw [if_neg (by omega)]
  exact congrArg _ (Ux w hw L M n26 x hx n l hn _ (by omega) s hI)
theorem Uz (k:Int) (hk:0≤k∧k≤2700) (a:aj) (ha:AB k a):lV w L M n26 x n (l.set n.toNat a) 0=bt n26 (l.set n.toNat (rK w a x)) (gV M x.aR.aN (L.length:Int)):=by
 unfold lV rK
 refine eK x.aD (fun (a:aj) (i:Int)=>(l.set n.toNat a,i)) _ (rJ w) (fun i a=>AB (k+i) a) (fun a=>bt n26 (l.set n.toNat (x.eV.foldl (wQ w) ((x.bf.zip x.aW).foldl (pN w) a))) (gV M x.aR.aN (L.length:Int))) ?_ ?_ a (by simpa using ha)
 ·intro s i z h0 h1 hz hI
  have hl:=hx.r
  have hs:=hI.num (by omega)
  refine ⟨?_,by rw [← Int.add_assoc];exact Hm hI w z⟩
  show eR w L M n26 x n (l.set n.toNat s) i=_
  unfold eR jv rJ
  rw [if_pos h1,hz]
  simp only [Option.bind_some]
  rw [aZ (x:=i+1) (by omega) (by omega)]
  by_cases c:Ei w z=true
  ·rw [if_pos (show bB z w=true from c),if_pos c,rz hn s]
   simp only [Option.bind_some]
   rw [List.set_set,aZ (x:=s.bS+1) (by omega) (by omega)]
  ·rw [if_neg (show ¬ bB z w=true from c),if_neg c]
 ·intro s hI
  show eR w L M n26 x n (l.set n.toNat s) x.aD.length=_
  unfold eR
  have hl:=hx.r
  rw [if_neg (Int.lt_irrefl _)]
  exact congrArg _ (Uy w hw L M n26 x hx n l hn _ (by omega) s hI)
end new
theorem X3 {S A:Type} {f:S→Option (S⊕A)} {s s':S} (h:f s=some (.inl s')):Eng.iter f s=Eng.iter f s':=by
 rw [iter_eq,h];rfl
theorem UA {S A:Type} {f:S→Option (S⊕A)} {s:S} {o:Option A} (h:f s=Option.map .inr o):Eng.iter f s=o:=by
 rw [iter_eq,h,bP]
theorem X4 {α:Type} {a b:List α} {i:Int} {x:α} (h:idx a i=some x):idx (a++b) i=some x:=by
 obtain ⟨h0,h1,h2⟩:=cV h
 unfold idx
 rw [if_pos (by omega),List.getElem?_append_left (by omega),h2]
def zA (r:aI):aj:=⟨r,0,0,0,0⟩
def ku (w:au) (r:aI) (X:List ak):aj:=(X.filter (fun x=>decide (x.aR.aN=r))).foldl (rK w) (zA r)
theorem Bi (w:au) (r:aI) (X:List ak) (x:ak):ku w r (X++[x])=if x.aR.aN=r then rK w (ku w r X) x else ku w r X:=by
 unfold ku
 rw [List.filter_append,List.foldl_append]
 by_cases h:x.aR.aN=r
 ·rw [if_pos h,List.filter_cons,if_pos (decide_eq_true h)];rfl
 ·rw [if_neg h,List.filter_cons,if_neg (by simpa using h)];rfl
theorem kV (w:au) (r:aI) (X:List ak):(ku w r X).a8=r:=by
 unfold ku
 rw [sW _ (CL w)];rfl
theorem Hp (w:au) (r:aI) (X:List ak) (h:∀ x∈X,x.aR.aN≠r):ku w r X=zA r:=by
 unfold ku
 rw [List.filter_eq_nil_iff.2 (fun x hx=>by simpa using h x hx)];rfl
theorem Rn (r:aI):AB 0 (zA r):=by
 unfold AB zA
 simp
theorem IF {w:au} (hw:WB w):∀ (l:List ak) (k:Int) (a:aj),AB k a→(∀ x∈l,LB x)→AB (k+45 * l.length) (l.foldl (rK w) a)
 | [],k,a,h,_=>by simpa using h
 | x :: r,k,a,h,hl=>by
   have:=IF hw r (k+45) _ (Me h hw (hl x (by simp))) (fun y hy=>hl y (by simp [hy]))
   rw [List.foldl_cons,List.length_cons]
   rw [show k+45 * ((r.length+1:Nat):Int)=k+45+45 * r.length by omega]
   exact this
theorem OM {w:au} (hw:WB w) (r:aI) {X:List ak} (hX:∀ x∈X,LB x) (hl:X.length≤15):AB 675 (ku w r X):=by
 have:=IF hw (X.filter (fun x=>decide (x.aR.aN=r))) 0 _ (Rn r) (fun x hx=>hX x (List.mem_filter.1 hx).1)
 refine this.more ?_
 have:=List.length_filter_le (fun x:ak=>decide (x.aR.aN=r)) X
 omega
theorem sE {α:Type} {l:List α} {n:Int} {a:α} (h:idx l n=some a):l.set n.toNat a=l:=by
 obtain ⟨h0,h1,h2⟩:=cV h
 apply List.ext_getElem?
 intro j
 rw [List.getElem?_set]
 split
 ·rename_i hj
  rw [if_pos (by omega),← hj,h2]
 ·rfl
structure AC (w:au) (X:List ak) (A:List aj) (M:List (aI×Int)):Prop where
 sm:SM M
 one:∀ r i,eB M r=some i→idx A i=some (ku w r X)
 mem:∀ r,(∃ i,eB M r=some i)↔∃ x∈X,x.aR.aN=r
 len:A.length≤X.length
theorem AC.start (w:au):AC w [] [] []:=by
 refine ⟨SM.nil,?_,?_,Nat.le_refl _⟩
 ·intro r i h;cases h
 ·intro r
  constructor
  ·rintro ⟨i,h⟩;cases h
  ·rintro ⟨x,h,_⟩;simp at h
theorem AC.step {w:au} (hw:WB w) {X:List ak} {A:List aj} {M:List (aI×Int)} (h:AC w X A M) (hX:∀ x∈X,LB x) (hl:X.length≤14) {x:ak} (hx:LB x) (kA:List ak) (hi:idx kA (X.length:Int)=some x) (iT:(X.length:Int) < kA.length):
 ∃ A' M',dU w kA A M (X.length:Int)=some (.inl (A',M',(X.length:Int)+1))∧AC w (X++[x]) A' M':=by
 have vM:=OM hw x.aR.aN hX (by omega)
 unfold dU
 rw [if_pos iT,hi]
 simp only [Option.bind_some]
 cases hg:eB M x.aR.aN with
 | none=>
   rw [uF]
   have Bw:BK A.length (M.map Prod.snd)=some ():=by
    unfold BK
    rw [if_pos]
    intro i hi
    obtain ⟨e,e1,rfl⟩:=List.mem_map.1 hi
    have:=cV (h.one e.1 e.2 ((h.sm.xJ).2 e1))
    omega
   rw [Bw]
   simp only [Option.bind_some]
   rw [sQ,if_pos rfl,pv]
   have JR:∀ y∈X,y.aR.aN≠x.aR.aN:=fun y hy q=>by
    obtain ⟨i,hi⟩:=(h.mem x.aR.aN).2 ⟨y,hy,q⟩
    rw [hg] at hi;cases hi
   have hz:ku w x.aR.aN X=zA x.aR.aN:=Hp w _ X JR
   have hn:(0:Int)≤(A.length:Int)∧(A.length:Int) < (A++[zA x.aR.aN]).length:=by
    rw [List.length_append,List.length_singleton];omega
   have Ro:idx (A++[zA x.aR.aN]) (A.length:Int)=some (zA x.aR.aN):=H6 _ _
   have VP:=Uz w hw A M (X.length:Int) x hx (A.length:Int) (A++[zA x.aR.aN]) hn 675 (by omega) (zA x.aR.aN) ((Rn _).more (by omega))
   rw [sE Ro] at VP
   refine ⟨_,_,(show lV w A M (X.length:Int) x (A.length:Int) (A++[zA x.aR.aN]) 0=_ from VP.trans (by unfold bt;rw [aZ (by omega) (by omega)])),?_⟩
   have L2:(A++[zA x.aR.aN]).set (A.length:Int).toNat (rK w (zA x.aR.aN) x)=A++[rK w (zA x.aR.aN) x]:=by
    rw [Int.toNat_natCast,List.set_append_right _ _ (Nat.le_refl _),Nat.sub_self];rfl
   rw [L2]
   refine ⟨h.sm.set _ _,?_,?_,by rw [List.length_append,List.length_append];have:=h.len;simp;omega⟩
   ·intro r i hr
    rw [sQ] at hr
    rw [Bi]
    by_cases q:x.aR.aN=r
    ·rw [if_pos q,Option.some.injEq] at hr
     rw [if_pos q,← hr,← q,hz]
     exact H6 _ _
    ·rw [if_neg q] at hr
     rw [if_neg q]
     exact X4 (h.one r i hr)
   ·intro r
    rw [sQ]
    constructor
    ·rintro ⟨i,hi⟩
     by_cases q:x.aR.aN=r
     ·exact ⟨x,by simp,q⟩
     ·rw [if_neg q] at hi
      obtain ⟨y,y1,y2⟩:=(h.mem r).1 ⟨i,hi⟩
      exact ⟨y,List.mem_append_left _ y1,y2⟩
    ·rintro ⟨y,y1,y2⟩
     by_cases q:x.aR.aN=r
     ·exact ⟨_,by rw [if_pos q]⟩
     ·rw [if_neg q]
      rcases List.mem_append.1 y1 with g | g
      ·exact (h.mem r).2 ⟨y,g,y2⟩
      ·rw [List.mem_singleton] at g
       exact absurd (by rw [← g];exact y2) q
 | some i=>
   rw [pv,pv]
   have tW:=h.one _ i hg
   obtain ⟨i0,i1,_⟩:=cV tW
   have UB:=Rm w hw M (X.length:Int) x hx i A ⟨by omega,by omega⟩ 675 (by omega) (ku w x.aR.aN X) vM
   rw [sE tW] at UB
   refine ⟨_,_,UB.trans (by unfold bt;rw [aZ (by omega) (by omega)]),?_⟩
   refine ⟨h.sm,?_,?_,by rw [List.length_set,List.length_append];have:=h.len;simp;omega⟩
   ·intro r j hr
    rw [Bi]
    by_cases q:x.aR.aN=r
    ·rw [if_pos q]
     rw [← q,hg,Option.some.injEq] at hr
     rw [← hr,← q]
     exact rz ⟨by omega,by omega⟩ _
    ·rw [if_neg q]
     have hj:=h.one r j hr
     have mb:i≠j:=fun e=>by
      subst e
      rw [tW,Option.some.injEq] at hj
      have:=congrArg aj.a8 hj
      rw [kV,kV] at this
      exact q this
     rw [FX tW,if_neg mb]
     exact hj
   ·intro r
    constructor
    ·intro hi
     obtain ⟨y,y1,y2⟩:=(h.mem r).1 hi
     exact ⟨y,List.mem_append_left _ y1,y2⟩
    ·rintro ⟨y,y1,y2⟩
     rcases List.mem_append.1 y1 with g | g
     ·exact (h.mem r).2 ⟨y,g,y2⟩
     ·rw [List.mem_singleton] at g
      subst g
      exact ⟨i,by rw [← y2];exact hg⟩
def wR (w:au) (X:List ak) (R:List aI):List aj:=R.map (fun r=>ku w r X)
theorem Mg {w:au} {X:List ak} {A:List aj} {M:List (aI×Int)} (h:AC w X A M) (hl:X.length≤15):nH A M []=some (wR w X (M.map Prod.fst),0):=by
 have hM:M.length≤15∨True:=.inr trivial
 have VR:∀ e∈M,idx A e.2=some (ku w e.1 X):=fun e he=>h.one e.1 e.2 ((h.sm.xJ).2 he)
 have hML:M.length≤15:=by
  have h1:(M.map fun e=>e.2.toNat).Nodup:=by
   unfold List.Nodup
   rw [List.pairwise_map]
   refine (SM.ne h.sm).imp_of_mem (fun {a b} ha hb vM q=>vM ?_)
   have a1:=VR a ha
   have b1:=VR b hb
   have ha0:=(cV a1).1
   have Bu:=(cV b1).1
   have:a.2=b.2:=by omega
   rw [this,b1,Option.some.injEq] at a1
   have:=congrArg aj.a8 a1
   rw [kV,kV] at this
   exact this.symm
  have h2:=h1.length_le_of_subset (l₂:=List.range A.length) (fun x hx=>by
   obtain ⟨e,e1,rfl⟩:=List.mem_map.1 hx
   have:=cV (VR e e1)
   rw [List.mem_range];omega)
  rw [List.length_map,List.length_range] at h2
  have:=h.len
  omega
 have Pf:(wR w X (M.map Prod.fst)).Pairwise (fun a b=>Lib.compareBytes a.a8 b.a8 < 0):=by
  unfold wR
  rw [List.map_map,List.pairwise_map]
  refine List.Pairwise.imp (fun {a b} vM=>?_) h.sm
  show Lib.compareBytes (ku w a.1 X).a8 (ku w b.1 X).a8 < 0
  rw [kV,kV]
  have Mh:Op.bytesLess a.1 b.1=true:=vM
  rw [rm] at Mh
  exact of_decide_eq_true Mh
 have S5:∀ a∈wR w X (M.map Prod.fst),∀ b∈wR w X (M.map Prod.fst),a.a8=b.a8→a=b:=by
  intro a ha b hb vM
  unfold wR at ha hb
  obtain ⟨r,_,rfl⟩:=List.mem_map.1 ha
  obtain ⟨q,_,rfl⟩:=List.mem_map.1 hb
  rw [kV,kV] at vM
  rw [vM]
 unfold nH
 refine Jw (fun e (x:List aj)=>gu A e x) (fun x:List aj=>gw x) M [] _ (fun done s=>s=done.map (fun e=>ku w e.1 X)) rfl ?_ ?_
 ·intro done e rest s hp hi
  left
  have he:e∈M:=hp.mem_iff.1 (by simp)
  have hlen:=hp.length_eq
  rw [List.length_append,List.length_cons] at hlen
  refine ⟨s++[ku w e.1 X],?_,by rw [hi,List.map_append];rfl⟩
  unfold gu
  rw [VR e he]
  simp only [Option.bind_some]
  rw [iq (by rw [hi,List.length_map,List.length_singleton];omega)]
  rfl
 ·intro p s hp hi
  subst hi
  have MC:=hp.length_eq
  have cC:(p.map (fun e=>ku w e.1 X)).Perm (wR w X (M.map Prod.fst)):=by
   unfold wR
   rw [List.map_map]
   exact hp.map _
  obtain ⟨Z,z1,z2,z3⟩:=FJ (fun y0 y1=>some (ju y0 y1)) (fun a b:aj=>Lib.compareBytes a.a8 b.a8) (p.map (fun e=>ku w e.1 X)) (by rw [List.length_map];omega) (fun a _ b _=>rfl) ((pb.on aj.a8).ord _)
  have X5:=z2.trans cC
  have hSW:Cw (fun a b:aj=>Lib.compareBytes a.a8 b.a8) (wR w X (M.map Prod.fst)):=Pf.imp (fun {a b} q=>by
   have:=pb.neg a.a8 b.a8
   show ¬ Lib.compareBytes b.a8 a.a8 < 0
   omega)
  have:Z=wR w X (M.map Prod.fst):=by
   refine tB X5 z3 hSW ?_
   intro a ha b hb c1 c2
   have hn:=pb.neg a.a8 b.a8
   exact S5 a (X5.mem_iff.1 ha) b (X5.mem_iff.1 hb) (lE (by omega))
  subst this
  unfold gw
  rw [show kD (p.map (fun e=>ku w e.1 X)).length (fun r:List aj=>r.length) (fX (p.map (fun e=>ku w e.1 X)) (fun y0 y1=>some (ju y0 y1)))=some (wR w X (M.map Prod.fst)) from DP z1 z2.length_eq]
  rfl
theorem Mi {w:au} (hw:WB w) (l:List ak) (hL:∀ x∈l,LB x) (hl:l.length≤15):∀ (k:Nat) (X r:List ak) (A:List aj) (M:List (aI×Int)),r.length=k→l=X++r→AC w X A M→
 ∃ A' M',AC w l A' M'∧lY w l A M (X.length:Int)=some (wR w l (M'.map Prod.fst),0):=by
 intro k
 induction k with
 | zero=>
   intro X r A M hr hX h
   have:r=[]:=List.eq_nil_of_length_eq_zero hr
   subst this
   rw [List.append_nil] at hX
   subst hX
   refine ⟨A,M,h,?_⟩
   unfold lY
   refine UA (o:=some _) ?_
   show dU w l A M (l.length:Int)=_
   unfold dU
   rw [if_neg (Int.lt_irrefl _),Mg h hl]
 | succ k ih=>
   intro X r A M hr hX h
   cases r with
   | nil=>simp at hr
   | cons x r=>
     have iT:X.length < l.length:=by rw [hX,List.length_append,List.length_cons];omega
     have hi:idx l (X.length:Int)=some x:=by
      unfold idx
      rw [if_pos (by omega),Int.toNat_natCast,hX,List.getElem?_append_right (Nat.le_refl _),Nat.sub_self];rfl
     obtain ⟨A',M',s1,s2⟩:=h.step hw (fun y hy=>hL y (by rw [hX];exact List.mem_append_left _ hy)) (by omega) (hL x (jS hi)) l hi (by omega)
     obtain ⟨A2,M2,t1,t2⟩:=ih (X++[x]) r A' M' (by simpa using hr) (by rw [hX,List.append_assoc];rfl) s2
     refine ⟨A2,M2,t1,?_⟩
     refine Eq.trans ?_ t2
     unfold lY
     refine X3 ?_
     show dU w l A M (X.length:Int)=_
     rw [s1,List.length_append,List.length_singleton]
     rfl
theorem Mj:∀ a b:List UInt8,a < b↔Lib.compareBytes a b < 0
 | [],[]=>by simp [Lib.compareBytes]
 | [],_ :: _=>by simp [Lib.compareBytes]
 | _ :: _,[]=>by simp [Lib.compareBytes]
 | x :: a,y :: b=>by
   have ih:=Mj a b
   rw [List.cons_lt_cons_iff]
   unfold Lib.compareBytes
   by_cases h:x < y
   ·simp [h]
   ·by_cases h2:y < x
    ·have mb:¬ x=y:=fun e=>by subst e;exact h h2
     simp [h,h2,mb]
    ·have hx:x=y:=by
      rw [UInt8.lt_iff_toNat_lt] at h h2
      exact UInt8.toNat_inj.1 (by omega)
     subst hx
     simp [ih]
theorem D6 (a b:List UInt8):a≤b↔¬ Lib.compareBytes b a < 0:=by
 rw [← Mj];exact Iff.rfl
def SS (l:List aI):Prop:=l.Pairwise (fun a b=>Lib.compareBytes a b < 0)
theorem vF (l:List aI):(BH l).Perm l:=List.mergeSort_perm l _
theorem F6 (l:List aI):(BH l).Pairwise (fun a b=>¬ Lib.compareBytes b a < 0):=by
 have h:=List.pairwise_mergeSort (le:=fun x y:aI=>decide (x≤y)) (fun a b c h1 h2=>by
  rw [decide_eq_true_eq,D6] at *
  intro h3
  have n1:=rl a c;have n2:=rl a b;have n3:=rl b c
  rcases Int.lt_trichotomy (Lib.compareBytes a b) 0 with e | e | e
  ·rcases Int.lt_trichotomy (Lib.compareBytes b c) 0 with f | f | f
   ·have:=zL e f;omega
   ·have:=lE f;subst this;omega
   ·omega
  ·have:=lE e;subst this;omega
  ·omega) (fun a b=>by
  rw [Bool.or_eq_true,decide_eq_true_eq,decide_eq_true_eq,D6,D6]
  have:=rl a b
  omega) l
 exact h.imp (fun {a b} vM=>by rw [decide_eq_true_eq,D6] at vM;exact vM)
theorem Mk:∀ (r:List aI) (p:aI),(p :: r).Pairwise (fun a b=>¬ Lib.compareBytes b a < 0)→SS (p :: zJ tT p r)∧∀ x,x∈p :: zJ tT p r↔x∈p :: r
 | [],p=>fun _=>⟨List.pairwise_singleton _ _,fun x=>Iff.rfl⟩
 | y :: r,p=>fun h=>by
   have h1:=List.pairwise_cons.1 h
   have ih:=Mk r y h1.2
   unfold zJ
   by_cases e:tT y p=true
   ·have e':y=p:=of_decide_eq_true e
    subst e'
    rw [if_pos e]
    refine ⟨ih.1,fun x=>?_⟩
    rw [ih.2 x];simp
   ·have e':y≠p:=fun z=>e (decide_eq_true z)
    rw [if_neg e]
    have hpy:Lib.compareBytes p y < 0:=by
     have:=h1.1 y (by simp)
     have hn:=rl p y
     have hz:Lib.compareBytes p y≠0:=fun z=>e' (lE z).symm
     omega
    refine ⟨List.pairwise_cons.2 ⟨fun z hz=>?_,ih.1⟩,fun x=>?_⟩
    ·rcases List.mem_cons.1 hz with f | f
     ·subst f;exact hpy
     ·exact zL hpy ((List.pairwise_cons.1 ih.1).1 z f)
    ·rw [List.mem_cons,ih.2 x];simp
theorem PD (l:List aI) (h:l.Pairwise (fun a b=>¬ Lib.compareBytes b a < 0)):SS (dd tT l)∧∀ x,x∈dd tT l↔x∈l:=by
 cases l with
 | nil=>exact ⟨List.Pairwise.nil,fun x=>Iff.rfl⟩
 | cons p r=>exact Mk r p h
def zv (w:au) (n:Int) (u:au):Int:=n+max 0 (min u.To w.To - max u.bg w.bg)
theorem CM (w:au):∀ (U:List au) (n:Int),(yZ U).foldl (zv w) n=U.foldl (zv w) n
 | [],n=>rfl
 | u :: r,n=>by
   have ih:=CM w r
   unfold yZ at ih ⊢
   rw [List.filter_cons]
   by_cases c:u.To≤u.bg
   ·rw [if_neg (by simpa using c),ih,List.foldl_cons]
    have:zv w n u=n:=by unfold zv;omega
    rw [this]
   ·rw [if_pos (by simpa using c),List.foldl_cons,List.foldl_cons,ih]
theorem F7 (w:au):∀ (U:List au) (a:aj),U.foldl (wQ w) a=⟨a.a8,a.bS,a.dh,a.bV,U.foldl (zv w) a.Time⟩
 | [],a=>rfl
 | u :: r,a=>by
   rw [List.foldl_cons,List.foldl_cons,F7 w r]
   rfl
theorem UC (w:au) (a:aj) (z:Int×Int) (t:Int):rJ w (pN w a z) t=pN w (rJ w a t) z:=by
 unfold rJ pN
 by_cases c:Ei w t=true<;>by_cases d:Ei w z.1=true<;>simp [c,d]
theorem Ml (w:au) (z:Int×Int):∀ (R:List Int) (a:aj),R.foldl (rJ w) (pN w a z)=pN w (R.foldl (rJ w) a) z
 | [],a=>rfl
 | t :: R,a=>by rw [List.foldl_cons,List.foldl_cons,UC,Ml w z R]
def dS (w:au) (s:Int×Int×Int×Int) (x:Signal):Int×Int×Int×Int:=
 if x.Kind=1 then (if Ei w x.At=true then s.1+1 else s.1,s.2.1,s.2.2.1,x.At)
 else if x.Kind=3 then (if Ei w x.At=true then (s.1,s.2.1+1,s.2.2.1+(x.At - s.2.2.2),s.2.2.2) else s) else s
theorem zP (w:au):∀ (l:List Signal) (r:Int) (a:aj),∃ r',l.foldl (dS w) (a.bS,a.dh,a.bV,r)=
 (((Br r l).foldl (pN w) ((ei l).foldl (rJ w) a)).bS,((Br r l).foldl (pN w) ((ei l).foldl (rJ w) a)).dh,((Br r l).foldl (pN w) ((ei l).foldl (rJ w) a)).bV,r')∧((Br r l).foldl (pN w) ((ei l).foldl (rJ w) a)).Time=a.Time
 | [],r,a=>⟨r,rfl,rfl⟩
 | s :: l,r,a=>by
   rw [List.foldl_cons]
   have hR:ei (s :: l)=if s.Kind=1 then s.At :: ei l else ei l:=by
    unfold ei
    rw [List.filter_cons]
    by_cases h:s.Kind=1<;>simp [h]
   rw [hR]
   unfold Br dS
   by_cases k1:s.Kind=1
   ·rw [if_pos k1,if_pos k1,if_pos k1,List.foldl_cons]
    obtain ⟨r',e1,e2⟩:=zP w l s.At (rJ w a s.At)
    refine ⟨r',?_,?_⟩
    ·rw [← e1]
     congr 1
     unfold rJ
     by_cases c:Ei w s.At=true<;>simp [c]
    ·rw [e2]
     unfold rJ
     split<;>rfl
   rw [if_neg k1,if_neg k1,if_neg k1]
   by_cases k3:s.Kind=3
   ·rw [if_pos k3,if_pos k3,List.foldl_cons,← Ml]
    obtain ⟨r',e1,e2⟩:=zP w l r (pN w a (s.At,s.At - r))
    refine ⟨r',?_,?_⟩
    ·rw [← e1]
     congr 1
     unfold pN
     by_cases c:Ei w s.At=true<;>simp [c]
    ·rw [e2]
     unfold pN
     split<;>rfl
   ·rw [if_neg k3,if_neg k3]
    exact zP w l r a
theorem UD {w:au} (hw:WB w) (t:Int):zh t w.bg (aT (w.To - 1))=Ei w t:=by
 have:=hw.num
 rw [aZ (by omega) (by omega),yu]
 unfold Ei
 rw [Bool.eq_iff_iff]
 simp only [Bool.and_eq_true,decide_eq_true_eq]
 omega
theorem Ql5 {w:au} (hw:WB w) (n35 n46 n47 n48:Int) (h35:0≤n35∧n35≤100) (U:List au) (hU:∀ u∈U,WB u) (hl:U.length≤15) (n:Int) (hn:0≤n∧n≤13194139533312000):
 pS w n35 n46 n47 n48 U n 0=some (.inl (n46,n47,n48,U.foldl (zv w) n,n35+1)):=by
 unfold pS
 refine (eK U (fun (a:Int) (i:Int)=>(a,i)) _ (zv w) (fun i a=>0≤a∧a≤13194139533312000+i * 4398046511104) (fun a=>gR n35 n46 n47 n48 a) ?_ ?_ n ⟨hn.1,by omega⟩).trans ?_
 ·intro s i u h0 h1 hu hI
  have Sb:=(hU u (jS hu)).num
  have P0:=hw.num
  refine ⟨?_,by unfold zv;omega⟩
  show fR w n35 n46 n47 n48 U s i=_
  unfold fR lj yS
  rw [if_pos h1,hu]
  simp only [Option.bind_some]
  rw [aZ (x:=i+1) (by omega) (by omega),aZ (x:=min u.To w.To - max u.bg w.bg) (by omega) (by omega)]
  by_cases c:max u.bg w.bg < min u.To w.To
  ·rw [if_pos (decide_eq_true c),aZ (by omega) (by omega)]
   have:zv w s u=s+(min u.To w.To - max u.bg w.bg):=by unfold zv;omega
   rw [this]
  ·rw [if_neg (by simpa using c)]
   have:zv w s u=s:=by unfold zv;omega
   rw [this]
 ·intro s _
  show fR w n35 n46 n47 n48 U s U.length=_
  unfold fR
  rw [if_neg (Int.lt_irrefl _)]
 ·unfold gR
  rw [aZ (by omega) (by omega)]
theorem Ql4 {w:au} (hw:WB w) {l:List Signal} (hv:VS l) (n:aq) (n35:Int) (h35:0≤n35∧n35≤100) (k:Int) (hk:0≤k∧k≤2000) (a:aj) (ha:AB k a):
 pT l w n.aN a.Time n35 (TL l n) a.bS a.dh a.bV 0 0=some (.inl ((rK w a (FL l n)).bS,(rK w a (FL l n)).dh,(rK w a (FL l n)).bV,(rK w a (FL l n)).Time,n35+1)):=by
 have hlb:=Mf hv n
 have hak:=Mb l hv n
 have ho:=u6 l hv
 have ag4:=ha.num (by omega)
 have hvl:=hv.len
 have hd:=ho.dn n
 obtain ⟨r',e1,e2⟩:=zP w (TL l n).bq 0 a
 unfold pT
 refine (eK (TL l n).bq (fun (s:Int×Int×Int×Int) (i:Int)=>(s.1,s.2.1,s.2.2.1,s.2.2.2,i)) _ (dS w) (fun i s=>((0≤s.1∧s.1≤3000+i)∧(0≤s.2.1∧s.2.1≤3000+i))∧((-(13194139533312000+i * 4398046511104)≤s.2.2.1∧s.2.2.1≤13194139533312000+i * 4398046511104)∧(0≤s.2.2.2∧s.2.2.2≤4398046511104)))
  (fun s=>nz l w n.aN a.Time n35 (TL l n) s.1 s.2.1 s.2.2.1) ?_ ?_ (a.bS,a.dh,a.bV,0) (by simp only;omega)).trans ?_
 ·intro s i x h0 h1 hx hI
  have JT:=F5 l n x (jS hx)
  have pO:=hv.Gr x JT
  refine ⟨?_,?_⟩
  ·show fS l w n.aN a.Time n35 (TL l n) s.1 s.2.1 s.2.2.1 s.2.2.2 i=_
   unfold fS lf lh lg k9 dS
   rw [if_pos h1,hx]
   simp only [Option.bind_some]
   rw [UD hw,aZ (x:=i+1) (by omega) (by omega),aZ (x:=s.1+1) (by omega) (by omega),aZ (x:=s.2.1+1) (by omega) (by omega),aZ (x:=x.At - s.2.2.2) (by omega) (by omega),aZ (x:=s.2.2.1+(x.At - s.2.2.2)) (by omega) (by omega)]
   by_cases k1:x.Kind=1
   ·rw [if_pos k1,if_pos k1]
    by_cases c:Ei w x.At=true
    ·rw [if_pos c,if_pos c]
    ·rw [if_neg c,if_neg c]
   rw [if_neg k1,if_neg k1]
   by_cases k3:x.Kind=3
   ·rw [if_pos k3,if_pos k3]
    by_cases c:Ei w x.At=true
    ·rw [if_pos c,if_pos c]
    ·rw [if_neg c,if_neg c]
   ·rw [if_neg k3,if_neg k3]
  ·unfold dS
   by_cases k1:x.Kind=1
   ·rw [if_pos k1]
    by_cases c:Ei w x.At=true
    ·rw [if_pos c];simp only;omega
    ·rw [if_neg c];simp only;omega
   rw [if_neg k1]
   by_cases k3:x.Kind=3
   ·rw [if_pos k3]
    by_cases c:Ei w x.At=true
    ·rw [if_pos c];simp only;omega
    ·rw [if_neg c];omega
   ·rw [if_neg k3];omega
 ·intro s _
  show fS l w n.aN a.Time n35 (TL l n) s.1 s.2.1 s.2.2.1 s.2.2.2 (TL l n).bq.length=_
  unfold fS
  rw [if_neg (Int.lt_irrefl _)]
 ·rw [e1]
  simp only
  unfold nz
  rw [(ho.tn n).1,Bh hv]
  simp only [Option.bind_some]
  have hU:∀ u∈yZ (FL l ⟨n.aK,n.aN⟩).eV,WB u:=fun u hu=>hlb.u u (List.mem_filter.1 hu).1
  have hUl:(yZ (FL l ⟨n.aK,n.aN⟩).eV).length≤15:=Nat.le_trans (List.length_filter_le _ _) hlb.ul
  rw [Ql5 hw n35 _ _ _ h35 _ hU hUl a.Time (by omega),CM]
  unfold rK
  rw [F7,Rj hv n,hak.tD,e2]
theorem Ql3 {w:au} (hw:WB w) {l:List Signal} (hv:VS l) (N:List aq) (hN:N.length≤15) (rf:List cd) (A:List aj) (hA:A.length≤1000) (n22:Int) (h22:0≤n22∧n22≤1000) (r:aI):
 pU l w (N.map (TL l),rf) A n22 r 0 0 0 0 0=some (.inl (A++[ku w r (N.map (FL l))],n22+1)):=by
 have ho:=u6 l hv
 have UE:ku w r (N.map (FL l))=N.foldl (fun a n=>if n.aN=r then rK w a (FL l n) else a) (zA r):=by
  unfold ku
  rw [List.foldl_filter,List.foldl_map]
  congr 1
  funext a n
  rw [ho.nm n]
  by_cases q:n.aN=r
  ·rw [if_pos q,if_pos (decide_eq_true q)]
  ·rw [if_neg q,if_neg (by simpa using q)]
 rw [UE]
 unfold pU
 refine (eK N (fun (a:aj) (i:Int)=>(a.bS,a.dh,a.bV,a.Time,i)) _ (fun a n=>if n.aN=r then rK w a (FL l n) else a) (fun i a=>AB (45 * i) a∧a.a8=r) (fun a=>nA A n22 r a.bS a.dh a.bV a.Time) ?_ ?_ (zA r) ⟨by simpa using Rn r,rfl⟩).trans ?_
 ·intro a i n h0 h1 hn hI
  have Ro:idx (N.map (TL l)) i=some (TL l n):=by rw [sV,hn];rfl
  refine ⟨?_,?_⟩
  ·show fT l w (N.map (TL l),rf) A n22 r a.bS a.dh a.bV a.Time i=_
   unfold fT
   rw [if_pos (by rw [List.length_map];exact h1)]
   simp only
   rw [Ro]
   simp only [Option.bind_some]
   rw [(ho.tn n).2]
   by_cases q:n.aN=r
   ·rw [if_neg (fun z=>z q),if_pos q,← q]
    exact Ql4 hw hv n i ⟨h0,by omega⟩ (45 * i) (by omega) a hI.1
   ·rw [if_pos q,if_neg q]
    unfold gR
    rw [aZ (by omega) (by omega)]
  ·by_cases q:n.aN=r
   ·rw [if_pos q]
    refine ⟨(Me hI.1 hw (Mf hv n)).more (by omega),by rw [CL];exact hI.2⟩
   ·rw [if_neg q]
    exact ⟨hI.1.more (by omega),hI.2⟩
 ·intro a _
  show fT l w (N.map (TL l),rf) A n22 r a.bS a.dh a.bV a.Time N.length=_
  unfold fT
  rw [if_neg (by rw [List.length_map];exact Int.lt_irrefl _)]
 ·have PE:(N.foldl (fun a n=>if n.aN=r then rK w a (FL l n) else a) (zA r)).a8=r:=by
   rw [← UE,kV]
  unfold nA
  rw [iq (by simp;omega)]
  simp only [Option.bind_some]
  rw [aZ (by omega) (by omega)]
  generalize N.foldl (fun a n=>if n.aN=r then rK w a (FL l n) else a) (zA r)=b at PE
  subst PE
  rfl
theorem Rp (l:List aI) (hl:l.length≤100000):kD l.length (fun r:List aI=>r.length) (fZ l)=some (BH l):=by
 unfold fZ Ak kD
 rw [if_pos (by omega)]
 simp only [Option.bind_some]
 have Wo:(BH l).length=l.length:=(vF _).length_eq
 rw [if_pos (by first | exact Wo | exact Wo.symm | omega)]
theorem Mm (l:List aI) (hl:l.length≤100000):AF l=some (dd tT (BH l)):=by
 unfold AF fF
 rw [iq (by simp;omega)]
 simp only [Option.bind_some,List.nil_append]
 rw [Rp _ hl]
 simp only [Option.bind_some]
 rw [show ff (BH l)=some (dd tT (BH l)) from Iu [] _ (by rw [(vF l).length_eq];omega)]
 rfl
def yz (l:List Signal):List aI:=dd tT (BH (l.map Signal.a8))
theorem D7 (l:List Signal):SS (yz l)∧(∀ r,r∈yz l↔∃ s∈l,s.a8=r)∧(yz l).length≤l.length:=by
 refine ⟨(PD _ (F6 _)).1,fun r=>?_,?_⟩
 ·unfold yz
  rw [(PD _ (F6 _)).2,(vF _).mem_iff,List.mem_map]
 ·refine Nat.le_trans (LO tT _) ?_
  rw [(vF _).length_eq,List.length_map]
  exact Nat.le_refl _
theorem BV {w:au} (hw:WB w) {l:List Signal} (hv:VS l):∃ N:List aq,N.Pairwise (fun a b=>Bq a b < 0)∧(∀ n,n∈N↔n∈l.map kU)∧mK l w=some (wR w (N.map (FL l)) (yz l)):=by
 have hl:=hv.len
 obtain ⟨N,t1,t2,t3⟩:=yX hv 345686400000
 rw [zN (fun s hs=>by have:=hv.Gr s hs;omega)] at t1 t3
 refine ⟨N,t2,t3,?_⟩
 have hNl:=L4 t2 t3
 unfold mK
 rw [t1]
 simp only [Option.bind_some]
 unfold tJ
 refine (eK l (fun (a:List aI) (i:Int)=>(a,i)) _ (fun a s=>a++[s.a8]) (fun i a=>(a.length:Int)≤i) (fun a=>nB l w (N.map (TL l),yx [] l) a) ?_ ?_ [] (by simp)).trans ?_
 ·intro a i s h0 h1 hs hI
  refine ⟨?_,by rw [List.length_append,List.length_singleton];omega⟩
  show fV l w (N.map (TL l),yx [] l) a i=_
  unfold fV
  rw [if_pos h1,hs]
  simp only [Option.bind_some]
  rw [iq (by simp;omega)]
  simp only [Option.bind_some]
  rw [aZ (by omega) (by omega)]
 ·intro a _
  show fV l w (N.map (TL l),yx [] l) a l.length=_
  unfold fV
  rw [if_neg (Int.lt_irrefl _)]
 ·rw [foldl_map Signal.a8 l [],List.nil_append]
  unfold nB
  rw [Mm _ (by rw [List.length_map];omega)]
  simp only [Option.bind_some]
  show pV l w (N.map (TL l),yx [] l) (yz l) [] 0=_
  obtain ⟨_,_,r3⟩:=D7 l
  unfold pV
  refine (eK (yz l) (fun (a:List aj) (i:Int)=>(a,i)) _ (fun a r=>a++[ku w r (N.map (FL l))]) (fun i a=>(a.length:Int)≤i) (fun a=>some a) ?_ ?_ [] (by simp)).trans ?_
  ·intro a i r h0 h1 hr hI
   refine ⟨?_,by rw [List.length_append,List.length_singleton];omega⟩
   show fU l w (N.map (TL l),yx [] l) (yz l) a i=_
   unfold fU
   rw [if_pos h1,hr]
   simp only [Option.bind_some]
   exact Ql3 hw hv N (by omega) _ a (by omega) i ⟨h0,by omega⟩ r
  ·intro a _
   show fU l w (N.map (TL l),yx [] l) (yz l) a (yz l).length=_
   unfold fU
   rw [if_neg (Int.lt_irrefl _)]
  ·rw [foldl_map (fun r=>ku w r (N.map (FL l))) (yz l) []]
   rfl
def D8 (w:au):Bool:=decide (0≤w.bg)&&decide (w.bg≤w.To)&&decide (w.To≤345686400000)
theorem Bj (w:au):pC w=D8 w:=by
 unfold pC oB D8
 rw [DQ,Bool.eq_iff_iff];simp
theorem tV (w:au):iw w=if D8 w=true then 0 else 1:=by
 unfold iw mH D8
 rw [yu]
 by_cases h:0≤w.bg∧w.bg≤w.To∧w.To≤345686400000
 ·rw [if_neg (by simp;omega),if_pos (by simp;omega)]
 ·rw [if_pos (by simp;omega),if_neg (by simp;omega)]
theorem Rq {w:au} (h:D8 w=true):WB w:=by
 unfold D8 at h
 simp only [Bool.and_eq_true,decide_eq_true_eq] at h
 unfold WB cB
 omega
theorem PF {α β:Type} (L:List β) (f:α→Int) (g:α→β):∀ l:List α,(∀ e∈l,idx L (f e)=some (g e))→idxs L (l.map f)=some (l.map g)
 | [],_=>rfl
 | e :: r,h=>by
   show (idx L (f e)).bind _=_
   rw [h e (by simp),PF L f g r (fun x hx=>h x (by simp [hx]))]
   rfl
theorem JI {A B:List aI} (ha:SS A) (hb:SS B) (h:∀ x,x∈A↔x∈B):A=B:=by
 have nd:∀ {L:List aI},SS L→L.Nodup:=fun {L} hL=>hL.imp (fun {a b} vM e=>by
  rw [e,yp] at vM;omega)
 have hp:A.Perm B:=(List.perm_ext_iff_of_nodup (nd ha) (nd hb)).2 h
 have zd:∀ {L:List aI},SS L→Cw Lib.compareBytes L:=fun {L} hL=>hL.imp (fun {a b} vM=>by
  have:=pb.neg a b
  omega)
 exact tB hp (zd ha) (zd hb) (fun a _ b _ h1 h2=>lE (by have:=pb.neg a b;omega))
theorem F8 {l:List Signal} (hB:∀ x∈l,Bc x) (hv:nk l=0→VS l) (w:au):
 (nk l≠0→iK l w=some ([],nk l))∧(nk l=0→D8 w=false→iK l w=some ([],1))∧
 (nk l=0→D8 w=true→∃ R,iK l w=some (R,0)∧mK l w=some R∧R.length≤100):=by
 unfold iK
 rw [nC hB]
 simp only [Option.bind_some]
 refine ⟨fun h=>by rw [if_pos h],fun h hw=>?_,fun h hw=>?_⟩
 ·rw [if_neg (fun q=>q h),Bj,hw];rfl
 ·rw [if_neg (fun q=>q h),Bj,hw,if_neg (by decide)]
  have hV:=hv h
  have hl:=hV.len
  have hwb:=Rq hw
  obtain ⟨H,N,ix,a1,a2,a3,a4⟩:=Pz hV 345686400000
  rw [zN (fun s hs=>by have:=hV.Gr s hs;omega)] at a2
  obtain ⟨N',b1,b2,b3⟩:=BV hwb hV
  have hNN:N=N':=Jz a3 b1 (fun n=>(a4 n).trans (b2 n).symm)
  subst hNN
  have hNl:=L4 a3 a4
  have ho:=u6 l hV
  rw [a1]
  simp only [Option.bind_some]
  rw [a2.ord,PF H.BN ix (FL l) N (fun n hn=>(a2.one n hn).2)]
  simp only [Option.bind_some]
  have hL:∀ x∈N.map (FL l),LB x:=fun x hx=>by
   obtain ⟨n,_,rfl⟩:=List.mem_map.1 hx
   exact Mf hV n
  obtain ⟨A',M',c1,c2⟩:=Mi hwb (N.map (FL l)) hL (by rw [List.length_map];omega) _ [] (N.map (FL l)) [] [] rfl rfl (AC.start w)
  have hMR:M'.map Prod.fst=yz l:=by
   obtain ⟨r1,r2,_⟩:=D7 l
   refine JI ?_ r1 (fun r=>?_)
   ·unfold SS
    rw [List.pairwise_map]
    refine c1.sm.imp (fun {a b} vM=>?_)
    have Mh:Op.bytesLess a.1 b.1=true:=vM
    rw [rm] at Mh
    exact of_decide_eq_true Mh
   ·have e1:r∈M'.map Prod.fst↔∃ i,eB M' r=some i:=by
     constructor
     ·intro hr
      obtain ⟨e,e1,rfl⟩:=List.mem_map.1 hr
      exact ⟨e.2,(c1.sm.xJ).2 e1⟩
     ·rintro ⟨i,hi⟩
      exact List.mem_map.2 ⟨(r,i),(c1.sm.xJ).1 hi,rfl⟩
    rw [e1,c1.mem r,r2 r]
    constructor
    ·rintro ⟨x,hx,hr⟩
     obtain ⟨n,hn,rfl⟩:=List.mem_map.1 hx
     rw [ho.nm n] at hr
     obtain ⟨s,hs,he⟩:=List.mem_map.1 ((a4 n).1 hn)
     exact ⟨s,hs,by rw [← hr,← he];rfl⟩
    ·rintro ⟨s,hs,hr⟩
     refine ⟨FL l (kU s),List.mem_map.2 ⟨kU s,(a4 _).2 (List.mem_map.2 ⟨s,hs,rfl⟩),rfl⟩,?_⟩
     rw [ho.nm];exact hr
  refine ⟨wR w (N.map (FL l)) (yz l),?_,b3,?_⟩
  ·rw [← hMR];exact c2
  ·unfold wR
   rw [List.length_map]
   have:=(D7 l).2.2
   omega
def de (c:UInt8):aI→List aI
 | []=>[[]]
 | b :: r=>if b=c then [] :: de c r else match de c r with
   | []=>[[b]]
   | h :: t=>(b :: h) :: t
theorem vG (c:UInt8):∀ s,de c s≠[]
 | []=>by simp [de]
 | b :: r=>by
   unfold de
   split
   ·simp
   ·split<;>simp
theorem np (c:UInt8):∀ s,(de c s).length≤s.length+1
 | []=>by simp [de]
 | b :: r=>by
   have ih:=np c r
   unfold de
   split
   ·simp;omega
   ·split
    ·simp
    ·rename_i h t e;rw [e] at ih;simp at ih ⊢;omega
theorem vb (c:UInt8):∀ s,∀ x∈de c s,x.length≤s.length∧c∉x
 | []=>by simp [de]
 | b :: r=>by
   have ih:=vb c r
   intro x hx
   unfold de at hx
   split at hx
   ·rcases List.mem_cons.1 hx with rfl | hx
    ·simp
    ·have:=ih x hx;simp;exact ⟨by omega,this.2⟩
   ·rename_i hb
    split at hx
    ·rename_i e;exact absurd e (vG c r)
    ·rename_i h t e
     rw [e] at ih
     rcases List.mem_cons.1 hx with rfl | hx
     ·have:=ih h (by simp);simp;exact ⟨this.1,fun e=>hb e.symm,this.2⟩
     ·have:=ih x (by simp [hx]);simp;exact ⟨by omega,this.2⟩
theorem IG (c:UInt8):∀ s,Lib.split s [c]=de c s
 | []=>rfl
 | b :: r=>by
   have ih:=IG c r
   unfold Lib.split at ih ⊢
   unfold de
   by_cases hb:b=c
   ·subst hb
    have JS:Lib.index (b :: r) [b]=0:=by rw [Lib.index];simp [List.isPrefixOf]
    rw [if_pos rfl,Lib.count_cons_eq,Nat.add_comm,Lib.splitK,JS,← ih]
    simp
   ·rw [if_neg hb,Lib.count_cons_ne b c r hb,← ih]
    have hp:([c]:List UInt8).isPrefixOf (b :: r)=false:=by simp [List.isPrefixOf,Ne.symm hb]
    have JS:Lib.index (b :: r) [c]=if Lib.index r [c]==-1 then -1 else Lib.index r [c]+1:=by rw [Lib.index,hp];simp
    by_cases hm:Lib.index r [c]=-1
    ·rw [Lib.count_miss hm];rfl
    ·have Su:=Lib.index_ge r [c]
     obtain ⟨j,hj⟩:∃ j:Nat,Lib.index r [c]=j:=⟨(Lib.index r [c]).toNat,by omega⟩
     have Rr:Lib.index (b :: r) [c]=((j+1:Nat):Int):=by rw [JS,if_neg (fun e=>hm (beq_iff_eq.1 e)),hj];omega
     rw [Lib.count_hit (by simp) hj,Nat.add_comm]
     have n1:¬ ((((j+1:Nat):Int)==-1)=true):=fun h=>by have:=beq_iff_eq.1 h;omega
     have n2:¬ ((((j:Nat):Int)==-1)=true):=fun h=>by have:=beq_iff_eq.1 h;omega
     simp only [Lib.splitK,Rr,hj,if_neg n1,if_neg n2]
     simp [List.take_succ_cons]
theorem vH {s:aI} {c:UInt8} (h:s.length≤1000000000):wG s [c]=some (de c s):=by
 unfold wG
 rw [if_pos ⟨by omega,by simp⟩]
 congr 1
 have h1:=Lib.splitB_data ⟨#[c]⟩ 0 (Lib.countB ⟨s.toArray⟩ ⟨#[c]⟩) ⟨s.toArray⟩
 rw [← IG]
 exact h1
theorem vc (c:UInt8):∀ s,c∉s→de c s=[s]
 | [],_=>rfl
 | b :: r,h=>by
   simp only [List.mem_cons,not_or] at h
   unfold de
   rw [if_neg (fun e=>h.1 e.symm),vc c r h.2]
theorem vd (c:UInt8):∀ (x r:aI),c∉x→de c (x++c :: r)=x :: de c r
 | [],r,_=>by simp [de]
 | b :: x,r,h=>by
   simp only [List.mem_cons,not_or] at h
   rw [List.cons_append,de,if_neg (fun e=>h.1 e.symm),vd c x r h.2]
def nM (c:UInt8):aI→aI×aI×Bool
 | []=>([],[],false)
 | b :: r=>if b=c then ([],r,true) else (b :: (nM c r).1,(nM c r).2.1,(nM c r).2.2)
theorem PG (c:UInt8):∀ s,Lib.cut s [c]=nM c s
 | []=>rfl
 | b :: r=>by
   have ih:=PG c r
   unfold Lib.cut at ih ⊢
   unfold nM
   by_cases hb:b=c
   ·subst hb
    have JS:Lib.index (b :: r) [b]=0:=by rw [Lib.index];simp [List.isPrefixOf]
    rw [if_pos rfl,JS];simp
   ·rw [if_neg hb,← ih]
    have hp:([c]:List UInt8).isPrefixOf (b :: r)=false:=by simp [List.isPrefixOf,Ne.symm hb]
    have JS:Lib.index (b :: r) [c]=if Lib.index r [c]==-1 then -1 else Lib.index r [c]+1:=by rw [Lib.index,hp];simp
    by_cases hm:Lib.index r [c]=-1
    ·rw [JS,hm];simp
    ·have Su:=Lib.index_ge r [c]
     have hn:¬ ((Lib.index r [c]==-1)=true):=fun e=>hm (beq_iff_eq.1 e)
     obtain ⟨j,hj⟩:∃ j:Nat,Lib.index r [c]=j:=⟨(Lib.index r [c]).toNat,by omega⟩
     have Rr:Lib.index (b :: r) [c]=((j+1:Nat):Int):=by rw [JS,if_neg hn,hj];omega
     rw [Rr,hj,if_pos (by omega),if_pos (by omega)]
     simp
theorem ON {s:aI} {c:UInt8} (h:s.length≤1000000000):Jk s [c]=some (nM c s):=by
 unfold Jk
 rw [if_pos (by omega),PG]
theorem F9 (c:UInt8):∀ s,(nM c s).1.length≤s.length∧(nM c s).2.1.length≤s.length
 | []=>⟨Nat.le_refl _,Nat.le_refl _⟩
 | b :: r=>by
   have ih:=F9 c r
   unfold nM
   split
   ·simp
   ·simp;omega
end Go.Beacon
