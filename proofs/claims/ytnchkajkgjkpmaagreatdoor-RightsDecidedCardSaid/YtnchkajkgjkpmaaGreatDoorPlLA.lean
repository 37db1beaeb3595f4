/- Plain facts on what the functions compute. No program in sight. -/
import Derived.Test.YtnchkajkgjkpmaaGreatDoorRigP
import Derived.Test.YtnchkajkgjkpmaaGreatDoorPlBA
import Derived.Lib.MapLaws
import Derived.Lib.ValidLaws
import Derived.Lib.TrimUEq
set_option linter.unusedVariables false
set_option linter.unusedSimpArgs false
namespace Go.Beacon
open Go Go.Eng
abbrev tC:=ab
def nW (s:tC) (k:Int):Prop:=0≤s.at_∧s.at_+k≤4611686018427387904
theorem nW.less {s:tC} {k k':Int} (h:nW s k) (hk:k'≤k):nW s k':=⟨h.1,by have:=h.2;omega⟩
def qT {α:Type} (m:Option (α×tC)) (k:Int) (P:α→Prop):Prop:=∃ v s',m=some (v,s')∧P v∧nW s' k
theorem qT.bind {α β:Type} {m:Option (α×tC)} {k k':Int} {P:α→Prop} {Q:β→Prop} {f:α×tC→Option (β×tC)} (h:qT m k P) (hf:∀ v s',P v→nW s' k→qT (f (v,s')) k' Q):qT (m.bind f) k' Q:=by
 obtain ⟨v,s',rfl,h1,h2⟩:=h
 exact hf v s' h1 h2
theorem qT.ret {α:Type} {v:α} {s:tC} {k:Int} {P:α→Prop} (h1:P v) (h2:nW s k):qT (some (v,s)) k P:=⟨v,s,rfl,h1,h2⟩
theorem E5 (x:Int) {n:Int} (h1:1≤n) (h2:n≤4611686018427387904):∃ v,Below x n=some v∧0≤v∧v < n:=by
 unfold Below yE
 rw [if_neg (by omega),VI (by omega)]
 have a1:=Int.lt_tmod_of_pos x (show 0 < n by omega)
 have a2:=Int.tmod_lt_of_pos x (show 0 < n by omega)
 simp only [Option.bind_some]
 split
 ·exact ⟨_,rfl,by rw [bf]<;>omega,by rw [bf]<;>omega⟩
 ·exact ⟨_,rfl,by omega,by omega⟩
theorem BS {s:tC} {n k:Int} (hs:nW s (k+1)) (h1:1≤n) (h2:n≤4611686018427387904) (hk:0≤k):qT (cH s n) k (fun v=>0≤v∧v < n):=by
 obtain ⟨a1,a2⟩:=hs
 have e1:cr (s.at_+1)=s.at_+1:=by rw [bf]<;>omega
 have e2:cr (s.at_+1 - 1)=s.at_:=by rw [bf]<;>omega
 unfold cH
 split
 ·obtain ⟨v,hv,h3,h4⟩:=E5 (cr (cr (s.at_+1) * 7919)) h1 h2
  rw [hv]
  exact qT.ret ⟨h3,h4⟩ ⟨by show 0≤cr (s.at_+1);omega,by show cr (s.at_+1)+k≤_;omega⟩
 ·rename_i hl
  have Cf:(0:Int) < s.L.length:=by omega
  rw [e1,e2,SR Cf a1,VJ (by omega)]
  simp only [Option.bind_some]
  obtain ⟨x,hx,_,_⟩:=jq s.L (i:=s.at_ % s.L.length) (Int.emod_nonneg _ (by omega)) (Int.emod_lt_of_pos _ Cf)
  rw [hx]
  simp only [Option.bind_some]
  obtain ⟨u,hu,_,_⟩:=E5 x (n:=1073741824) (by omega) (by omega)
  rw [hu]
  simp only [Option.bind_some]
  obtain ⟨v,hv,h3,h4⟩:=E5 (cr (u+cr (cr (s.at_.tdiv s.L.length) * cr (7919+s.at_ % s.L.length)))) h1 h2
  rw [hv]
  exact qT.ret ⟨h3,h4⟩ ⟨by simp only;omega,by simp only;omega⟩
theorem MQ {s:tC} {l:List Int} {k:Int} (hs:nW s (k+1)) (h1:l≠[]) (h2:l.length≤1000) (hk:0≤k):qT (ch s l) k (fun v=>v∈l):=by
 unfold ch
 have hl:0 < l.length:=List.length_pos_iff.2 h1
 refine qT.bind (BS hs (by omega) (by omega) hk) (fun v s' hv G0=>?_)
 obtain ⟨x,hx,hm,_⟩:=jq l hv.1 hv.2
 simp only [hx,Option.bind_some]
 exact qT.ret hm G0
theorem Qr {s:tC} {a b k:Int} (hs:nW s (k+1)) (K4:a≤b) (ha:-1152921504606846976≤a) (hb:b≤1152921504606846976) (hk:0≤k):qT (ru s a b) k (fun v=>a≤v∧v≤b):=by
 unfold ru
 have e1:cr (b - a)=b - a:=by rw [bf]<;>omega
 have e2:cr (b - a+1)=b - a+1:=by rw [bf]<;>omega
 rw [if_neg (by omega),e1,e2]
 refine qT.bind (BS hs (by omega) (by omega) hk) (fun v s' hv G0=>?_)
 refine qT.ret ?_ G0
 simp only
 rw [bf]<;>omega
theorem MR {s:tC} {n k:Int} (hs:nW s (k+1)) (h1:1≤n) (h2:n≤4611686018427387904) (hk:0≤k):qT (dp s n) k (fun _=>True):=by
 unfold dp
 exact qT.bind (BS hs h1 h2 hk) (fun v s' hv G0=>qT.ret trivial G0)
theorem BT {l:List Int} {v lo hi:Int} (h:v∈l) (hl:l.all (fun x=>decide (lo≤x∧x≤hi))=true):lo≤v∧v≤hi:=by
 rw [List.all_eq_true] at hl
 simpa using hl v h
theorem S6 {s:tC} {l:List ae} {k:Int} (hs:nW s (k+1)) (h1:l≠[]) (h2:l.length≤1000) (hk:0≤k):qT (bx s l) k (fun v=>v∈l):=by
 unfold bx
 have hl:0 < l.length:=List.length_pos_iff.2 h1
 refine qT.bind (BS hs (by omega) (by omega) hk) (fun v s' hv G0=>?_)
 obtain ⟨x,hx,hm,_⟩:=jq l hv.1 hv.2
 simp only [hx,Option.bind_some]
 exact qT.ret hm G0
theorem VO {s:tC} {a b k:Int} (hs:nW s (k+2)) (K4:a≤b) (ha:-1099511627776≤a) (hb:b≤1099511627776) (hk:0≤k):qT (oF s a b) k (fun v=>-1099511627777≤v∧v≤1099511627777):=by
 unfold oF
 refine qT.bind (MR (k:=k+1) (hs.less (by omega)) (by omega) (by omega) (by omega)) (fun v s' hv G0=>?_)
 simp only
 split
 ·refine qT.bind (MQ G0 (by simp) (by simp) hk) (fun v s' hv G0=>qT.ret ?_ G0)
  have e1:cr (a - 1)=a - 1:=by rw [bf]<;>omega
  have e2:cr (b+1)=b+1:=by rw [bf]<;>omega
  rw [e1,e2] at hv
  simp only [List.mem_cons,List.not_mem_nil,or_false] at hv
  simp only;omega
 ·refine qT.bind (Qr G0 K4 (by omega) (by omega) hk) (fun v s' hv G0=>qT.ret ?_ G0)
  simp only;omega
end Go.Beacon
set_option linter.unusedVariables false
set_option linter.unusedSimpArgs false
namespace Go.Beacon
open Go Go.Eng
theorem LH (n lo hi:Int):kq n lo hi=(decide (n < lo)||decide (hi < n)):=rfl
theorem Qs (n lo hi:Int):yf n lo hi=(decide (lo≤n)&&decide (n≤hi)):=rfl
def Rx (n:Nat):Bool:=(decide (97≤n)&&decide (n≤122))||(decide (48≤n)&&decide (n≤57))||decide (n=45)||decide (n=95)
def qU:ae→Bool
 | []=>false
 | c :: r=>decide ((c :: r).length≤40)&&(decide (97≤c.toNat)&&decide (c.toNat≤122))&&(c :: r).all (fun c=>Rx c.toNat)
theorem xa (c:UInt8) (r:ae):qU (c :: r)=(decide ((c :: r).length≤40)&&(decide (97≤c.toNat)&&decide (c.toNat≤122))&&(c :: r).all (fun c=>Rx c.toNat)):=rfl
theorem Qt (s:ae) (hl:s.length≤40):yG s 0=some (s.all (fun c=>Rx c.toNat)):=by
 unfold yG
 rw [jh s (fun x:Int=>oJ s x) (fun c=>if Rx c.toNat=true then none else some false) true (by omega),E3]
 ·intro i c h0 h1 hc
  have hB:(if (97:Int)≤(c.toNat:Int) then if (c.toNat:Int)≤(122:Int) then !true else if (48:Int)≤(c.toNat:Int) then if (c.toNat:Int)≤(57:Int) then !true else if (c.toNat:Int)=(45:Int) then !true else decide (¬ ((c.toNat:Int)=(95:Int))) else if (c.toNat:Int)=(45:Int) then !true else decide (¬ ((c.toNat:Int)=(95:Int))) else if (48:Int)≤(c.toNat:Int) then if (c.toNat:Int)≤(57:Int) then !true else if (c.toNat:Int)=(45:Int) then !true else decide (¬ ((c.toNat:Int)=(95:Int))) else if (c.toNat:Int)=(45:Int) then !true else decide (¬ ((c.toNat:Int)=(95:Int))))=!Rx c.toNat:=by
   unfold Rx
   rw [Bool.eq_iff_iff]
   repeat' split
   all_goals simp
   all_goals omega
  rw [oJ,if_pos h1,hc]
  simp only [Option.bind_some]
  rw [hB]
  unfold vU
  rw [bf (by omega) (by omega)]
  cases Rx c.toNat<;>rfl
 ·rw [oJ,if_neg (by omega)];rfl
theorem vz (s:ae):gA s=some (qU s):=by
 unfold gA oK
 cases s with
 | nil=>simp [qU]
 | cons c r=>
   rw [if_neg (by simp)]
   have hc:idx (c :: r) 0=some c:=rfl
   rw [hc]
   simp only [Option.bind_some]
   by_cases hl:(c :: r).length≤40
   ·rw [if_neg (by omega),Qt _ hl,xa]
    by_cases h1:(c.toNat:Int) < 97
    ·rw [if_pos h1]
     have:decide (97≤c.toNat)=false:=by simp;omega
     rw [this];simp
    ·rw [if_neg h1]
     have e1:decide (97≤c.toNat)=true:=by simp;omega
     by_cases h2:(122:Int) < c.toNat
     ·rw [if_pos (by simpa using h2)]
      have:decide (c.toNat≤122)=false:=by simp;omega
      rw [this];simp
     ·rw [if_neg (by simpa using h2)]
      have:decide (c.toNat≤122)=true:=by simp;omega
      rw [e1,this,decide_eq_true hl];simp
   ·rw [if_pos (by omega),xa,decide_eq_false hl];simp
theorem N9:∀ n:Fin 256,decide (UInt8.ofNat n.val∈([97,98,99,100,101,102,103,104,105,106,107,108,109,110,111,112,113,114,115,116,117,118,119,120,121,122,48,49,50,51,52,53,54,55,56,57,45,95]:List UInt8))=Rx n.val:=by decide+kernel
theorem S7:∀ n:Fin 256,decide (UInt8.ofNat n.val∈([97,98,99,100,101,102,103,104,105,106,107,108,109,110,111,112,113,114,115,116,117,118,119,120,121,122]:List UInt8))=(decide (97≤n.val)&&decide (n.val≤122)):=by decide+kernel
theorem Qu {p:UInt8→Bool} {q:Nat→Bool} (h:∀ n:Fin 256,p (UInt8.ofNat n.val)=q n.val) (c:UInt8):p c=q c.toNat:=by
 have:=h ⟨c.toNat,c.toNat_lt⟩
 simpa using this
theorem JX (a b:Int):cmp_Compare_int a b=yS a b:=by
 unfold cmp_Compare_int cmp_isNaN_int yS;simp
theorem Oa (n:Int):oQ n=(decide (0≤n)&&decide (n≤345686399999)):=by
 unfold oQ
 rw [LH,Bool.eq_iff_iff]
 simp
end Go.Beacon
set_option linter.unusedVariables false
set_option linter.unusedSimpArgs false
namespace Go.Beacon
open Go Go.Eng
theorem Qv {S A:Type} (f:S→Option (S⊕A)) (m:S→Nat) (Inv:S→Prop) (R:A→Prop)
 (h:∀ s,Inv s→(∃ s',f s=some (.inl s')∧Inv s'∧m s' < m s)∨(∃ a,f s=some (.inr a)∧R a)):∀ s,Inv s→∃ a,iter f s=some a∧R a:=by
 have key:∀ (n:Nat) s,m s≤n→Inv s→∃ a,iter f s=some a∧R a:=by
  intro n
  induction n with
  | zero=>
    intro s hm hi
    rcases h s hi with ⟨s',_,_,h3⟩ | ⟨a,h1,h2⟩
    ·omega
    ·exact ⟨a,by rw [iter_eq,h1];rfl,h2⟩
  | succ n ih=>
    intro s hm hi
    rcases h s hi with ⟨s',h1,h2,h3⟩ | ⟨a,h1,h2⟩
    ·obtain ⟨a,h4,h5⟩:=ih s' (by omega) h2
     exact ⟨a,by rw [iter_eq,h1];simpa using h4,h5⟩
    ·exact ⟨a,by rw [iter_eq,h1];rfl,h2⟩
 exact fun s hi=>key (m s) s (Nat.le_refl _) hi
theorem abI (x y z:Int):mC [x,y,z]=if mC [x,y]≠0 then mC [x,y] else z:=by
 by_cases h1:x=0<;>by_cases h2:y=0<;>by_cases h3:z=0<;>simp [mC,h1,h2,h3]
theorem S8 (x y:Int):mC [x,y]=if x≠0 then x else y:=by
 by_cases h1:x=0<;>by_cases h2:y=0<;>simp [mC,h1,h2]
end Go.Beacon
set_option linter.unusedVariables false
set_option linter.unusedSimpArgs false
namespace Go.Beacon
open Go Go.Eng
def cd (c:UInt8):ae→List ae
 | []=>[[]]
 | b :: r=>if b=c then [] :: cd c r else match cd c r with
   | []=>[[b]]
   | h :: t=>(b :: h) :: t
theorem zt (c:UInt8):∀ s,cd c s≠[]
 | []=>by simp [cd]
 | b :: r=>by
   unfold cd
   split
   ·simp
   ·split<;>simp
theorem tD (c:UInt8):∀ s,(cd c s).length≤s.length+1
 | []=>by simp [cd]
 | b :: r=>by
   have ih:=tD c r
   unfold cd
   split
   ·simp;omega
   ·split
    ·simp
    ·rename_i h t e;rw [e] at ih;simp at ih ⊢;omega
theorem MS (c:UInt8):∀ s,Lib.split s [c]=cd c s
 | []=>rfl
 | b :: r=>by
   have ih:=MS c r
   unfold Lib.split at ih ⊢
   unfold cd
   by_cases hb:b=c
   ·subst hb
    have Rp:Lib.index (b :: r) [b]=0:=by rw [Lib.index];simp [List.isPrefixOf]
    rw [if_pos rfl,Lib.count_cons_eq,Nat.add_comm,Lib.splitK,Rp,← ih]
    simp
   ·rw [if_neg hb,Lib.count_cons_ne b c r hb,← ih]
    have hp:([c]:List UInt8).isPrefixOf (b :: r)=false:=by simp [List.isPrefixOf,Ne.symm hb]
    have Rp:Lib.index (b :: r) [c]=if Lib.index r [c]==-1 then -1 else Lib.index r [c]+1:=by rw [Lib.index,hp];simp
    by_cases hm:Lib.index r [c]=-1
    ·rw [Lib.count_miss hm];rfl
    ·have TJ:=Lib.index_ge r [c]
     obtain ⟨j,hj⟩:∃ j:Nat,Lib.index r [c]=j:=⟨(Lib.index r [c]).toNat,by omega⟩
     have VP:Lib.index (b :: r) [c]=((j+1:Nat):Int):=by rw [Rp,if_neg (fun e=>hm (beq_iff_eq.1 e)),hj];omega
     rw [Lib.count_hit (by simp) hj,Nat.add_comm]
     have n1:¬ ((((j+1:Nat):Int)==-1)=true):=fun h=>by have:=beq_iff_eq.1 h;omega
     have n2:¬ ((((j:Nat):Int)==-1)=true):=fun h=>by have:=beq_iff_eq.1 h;omega
     simp only [Lib.splitK,VP,hj,if_neg n1,if_neg n2]
     simp [List.take_succ_cons]
theorem xb {s:ae} {c:UInt8} (h:s.length≤1000000000):AD s [c]=some (cd c s):=by
 unfold AD
 rw [if_pos ⟨by omega,by simp⟩]
 congr 1
 have h1:=Lib.splitB_data ⟨#[c]⟩ 0 (Lib.countB ⟨s.toArray⟩ ⟨#[c]⟩) ⟨s.toArray⟩
 rw [← MS]
 exact h1
end Go.Beacon
set_option linter.unusedVariables false
set_option linter.unusedSimpArgs false
namespace Go.Beacon
open Go Go.Eng
def vM (c:UInt8):ae→ae×ae×Bool
 | []=>([],[],false)
 | b :: r=>if b=c then ([],r,true) else (b :: (vM c r).1,(vM c r).2.1,(vM c r).2.2)
theorem CB (c:UInt8):∀ s,(vM c s).2.2=false→(vM c s).1=s∧(vM c s).2.1=[]
 | []=>fun _=>⟨rfl,rfl⟩
 | b :: r=>by
   have ih:=CB c r
   unfold vM
   split
   ·intro h;cases h
   ·intro h;have:=ih h;simp [this]
theorem Ul (c:UInt8):∀ s,Lib.cut s [c]=vM c s
 | []=>rfl
 | b :: r=>by
   have ih:=Ul c r
   unfold Lib.cut at ih ⊢
   unfold vM
   by_cases hb:b=c
   ·subst hb
    have Rp:Lib.index (b :: r) [b]=0:=by rw [Lib.index];simp [List.isPrefixOf]
    rw [if_pos rfl,Rp];simp
   ·rw [if_neg hb,← ih]
    have hp:([c]:List UInt8).isPrefixOf (b :: r)=false:=by simp [List.isPrefixOf,Ne.symm hb]
    have Rp:Lib.index (b :: r) [c]=if Lib.index r [c]==-1 then -1 else Lib.index r [c]+1:=by rw [Lib.index,hp];simp
    by_cases hm:Lib.index r [c]=-1
    ·rw [Rp,hm];simp
    ·have TJ:=Lib.index_ge r [c]
     have hn:¬ ((Lib.index r [c]==-1)=true):=fun e=>hm (beq_iff_eq.1 e)
     obtain ⟨j,hj⟩:∃ j:Nat,Lib.index r [c]=j:=⟨(Lib.index r [c]).toNat,by omega⟩
     have VP:Lib.index (b :: r) [c]=((j+1:Nat):Int):=by rw [Rp,if_neg hn,hj];omega
     rw [VP,hj,if_pos (by omega),if_pos (by omega)]
     simp
theorem S9 {s:ae} {c:UInt8} (h:s.length≤1000000000):PX s [c]=some (vM c s):=by
 unfold PX
 rw [if_pos (by omega),Ul]
theorem G1 (c:UInt8):∀ s,cd c s=if (vM c s).2.2=true then (vM c s).1 :: cd c (vM c s).2.1 else [s]
 | []=>rfl
 | b :: r=>by
   have ih:=G1 c r
   have e1:cd c (b :: r)=(if b=c then [] :: cd c r else match cd c r with
    | []=>[[b]]
    | h :: t=>(b :: h) :: t):=rfl
   rw [e1]
   unfold vM
   by_cases hb:b=c
   ·rw [if_pos hb,if_pos hb];rfl
   ·rw [if_neg hb,if_neg hb,ih]
    by_cases hc:(vM c r).2.2=true
    ·simp [hc]
    ·simp [hc]
theorem JY (c:UInt8):∀ s,(vM c s).1.length≤s.length∧(vM c s).2.1.length≤s.length
 | []=>⟨Nat.le_refl _,Nat.le_refl _⟩
 | b :: r=>by
   have ih:=JY c r
   unfold vM
   split
   ·simp
   ·simp;omega
def wE (k:Nat) (s:ae):Bool:=decide ((cd 46 s).length≤k)&&(cd 46 s).all qU
theorem yX (Oc:Nat) (hm:Oc≤1000):∀ (k:Nat) (s:ae) (n:Int),0≤n→n+k=Oc→s.length≤1000000000→rI Oc s n=some (wE k s)
 | 0,s,n,h0,hn,hs=>by
   have sE:=zt 46 s
   have hp:0 < (cd 46 s).length:=List.length_pos_iff.2 sE
   unfold rI
   rw [iter_eq]
   show (match iU Oc s n with | _=>_)=_
   rw [iU,if_neg (by omega)]
   simp only [Option.map_some,Option.bind_some]
   unfold wE
   rw [decide_eq_false (by omega)];rfl
 | k+1,s,n,h0,hn,hs=>by
   have ih:=yX Oc hm k (vM 46 s).2.1 (n+1) (by omega) (by omega) (by have:=(JY 46 s).2;omega)
   unfold rI at ih ⊢
   rw [iter_eq]
   show (match iU Oc s n with | _=>_)=_
   rw [iU,if_pos (by omega),S9 hs]
   simp only [Option.bind_some,vz]
   unfold wE
   rw [G1 46 s]
   by_cases hk:qU (vM 46 s).1=true
   ·by_cases hc:(vM 46 s).2.2=true
    ·simp only [hk,hc,Bool.not_true,Bool.false_eq_true,if_false,if_true]
     rw [bf (by omega) (by omega)]
     refine ih.trans ?_
     unfold wE
     simp [hk]
    ·have G0:=CB 46 s (by simpa using hc)
     rw [G0.1] at hk
     simp [hk,hc,G0.1]
   ·by_cases hc:(vM 46 s).2.2=true
    ·simp [hk,hc]
    ·have G0:=CB 46 s (by simpa using hc)
     rw [G0.1] at hk
     simp [hk,hc,G0.1]
end Go.Beacon
set_option linter.unusedVariables false
set_option linter.unusedSimpArgs false
namespace Go.Beacon
open Go Go.Eng
def DG (c:UInt8):Bool:=decide (c.toNat < 32)||decide (c.toNat=127)
def Qw (s:ae):Bool:=!s.any DG&&Lib.validD s
theorem JZ (s:ae) (hl:s.length≤1000000):pL s=some (Qw s):=by
 unfold pL wR
 have h:=jh s (fun x:Int=>fC s x) (fun c=>if DG c=true then some false else none) (Lib.validD s) (by omega) (fun i c h0 h1 h2=>by
  show fC s i=_
  unfold fC mg DG
  rw [if_pos h1,h2]
  simp only [Option.bind_some]
  rw [bf (by omega) (by omega)]
  by_cases q1:c.toNat < 32
  ·rw [if_pos (by omega)];simp [q1]
  ·rw [if_neg (by omega)]
   by_cases q2:c.toNat=127
   ·simp [q2]
   ·have:¬ ((c.toNat:Int)=127):=by omega
    simp [q1,q2,this]) (by
  show fC s s.length=_
  unfold fC sJ wv
  rw [if_neg (by omega),if_pos (by omega)];rfl)
 rw [h]
 unfold Qw
 congr 1
 induction s with
 | nil=>simp [nC]
 | cons c r ih=>exact Qx c r _
where
 Qx (c:UInt8) (r:ae) (e:Bool):nC (fun c=>if DG c=true then some false else none) e (c :: r)=(!(c :: r).any DG&&e):=by
  have key:∀ (l:ae),nC (fun c=>if DG c=true then some false else none) e l=(!l.any DG&&e):=by
   intro l
   induction l with
   | nil=>simp [nC]
   | cons x t ih=>
     simp only [nC,List.any_cons]
     cases hx:DG x with
     | true=>simp
     | false=>simp [ih]
  exact key _
end Go.Beacon
set_option linter.unusedVariables false
set_option linter.unusedSimpArgs false
namespace Go.Beacon
open Go Go.Eng
theorem zu {α:Type} (p:α→Bool):∀ l:List α,l.dropWhile p=[]↔l.all p=true
 | []=>by simp
 | x :: r=>by
   rw [List.dropWhile_cons]
   cases h:p x with
   | true=>simp only [if_true,List.all_cons,h,Bool.true_and];exact zu p r
   | false=>simp [h]
theorem G2 (l cs:ae):Lib.trimS l cs=[]↔l.all (fun c=>decide (c∈cs))=true:=by
 have hc:∀ c:UInt8,cs.contains c=decide (c∈cs):=fun c=>by rw [Bool.eq_iff_iff];simp
 unfold Lib.trimS Lib.trimLeftS Lib.trimRightS
 rw [zu,List.all_reverse]
 constructor
 ·intro h
  have hd:(l.reverse.dropWhile (cs.contains ·))=[]:=by
   cases hh:l.reverse.dropWhile (cs.contains ·) with
   | nil=>rfl
   | cons a b=>
     have h1:=List.head?_dropWhile_not (fun c=>cs.contains c) l.reverse
     rw [hh] at h h1
     simp only [List.head?_cons] at h1
     simp only [List.all_cons,Bool.and_eq_true] at h
     rw [h.1] at h1;simp at h1
  rw [zu,List.all_reverse] at hd
  simpa [hc] using hd
 ·intro h
  have hd:l.reverse.dropWhile (cs.contains ·)=[]:=by
   rw [zu,List.all_reverse];simpa [hc] using h
  rw [hd];rfl
theorem J0 {s cs:ae} (h1:s.length≤100000) (h2:cs.length≤100000) (h3:cs.all (fun b=>decide (b.toNat < 128))=true):GN s cs=some (Lib.trimS s cs):=by
 unfold GN;rw [if_pos ⟨by omega,by omega,h3⟩]
end Go.Beacon
set_option linter.unusedVariables false
set_option linter.unusedSimpArgs false
namespace Go.Beacon
open Go Go.Eng
theorem mE (s:ae):tU s=some (qU s):=by
 unfold tU wS
 rw [Qs]
 cases s with
 | nil=>rfl
 | cons c r=>
   by_cases hl:(c :: r).length≤40
   ·rw [if_pos (by simp;simp at hl;omega),J0 (by omega) (by simp) (by decide)]
    simp only [Option.bind_some]
    have e:(c :: r).all (fun c=>decide (c∈([97,98,99,100,101,102,103,104,105,106,107,108,109,110,111,112,113,114,115,116,117,118,119,120,121,122,48,49,50,51,52,53,54,55,56,57,45,95]:List UInt8)))=(c :: r).all (fun c=>Rx c.toNat):=by
     congr 1;funext c
     exact Qu (p:=fun c=>decide (c∈([97,98,99,100,101,102,103,104,105,106,107,108,109,110,111,112,113,114,115,116,117,118,119,120,121,122,48,49,50,51,52,53,54,55,56,57,45,95]:List UInt8))) N9 c
    have e2:=Qu (p:=fun c=>decide (c∈([97,98,99,100,101,102,103,104,105,106,107,108,109,110,111,112,113,114,115,116,117,118,119,120,121,122]:List UInt8))) (q:=fun n=>decide (97≤n)&&decide (n≤122)) S7 c
    rw [xa,decide_eq_true hl,Bool.true_and,← e,← e2]
    by_cases ht:Lib.trimS (c :: r) ([97,98,99,100,101,102,103,104,105,106,107,108,109,110,111,112,113,114,115,116,117,118,119,120,121,122,48,49,50,51,52,53,54,55,56,57,45,95]:ae)=[]
    ·rw [if_pos ht,(G2 _ _).1 ht,Bool.and_true]
     have i0:idx (c :: r) 0=some c:=rfl
     rw [i0]
     simp only [Option.bind_some,xw,abG]
     congr 1
     have:=w9 ([97,98,99,100,101,102,103,104,105,106,107,108,109,110,111,112,113,114,115,116,117,118,119,120,121,122]:List UInt8) c
     rw [decide_eq_decide]
     constructor
     ·intro h;exact Classical.byContradiction fun h'=>by have:=this.2 h';omega
     ·intro h;have h':=mt this.1 (fun h'=>h' h);omega
    ·rw [if_neg ht]
     have:(c :: r).all (fun c=>decide (c∈([97,98,99,100,101,102,103,104,105,106,107,108,109,110,111,112,113,114,115,116,117,118,119,120,121,122,48,49,50,51,52,53,54,55,56,57,45,95]:List UInt8)))=false:=by
      rw [← Bool.not_eq_true];exact fun h=>ht ((G2 _ _).2 h)
     rw [this,Bool.and_false]
   ·rw [if_neg (by simp;simp at hl;omega),xa,decide_eq_false hl];rfl
end Go.Beacon
set_option linter.unusedVariables false
set_option linter.unusedSimpArgs false
namespace Go.Beacon
open Go Go.Eng
def preB (s p:ae):Bool:=decide (s.take p.length=p)
theorem J5 {s p:ae} (h:preB s p=true):p.length≤s.length:=by
 have h:s.take p.length=p:=of_decide_eq_true h
 have:=congrArg List.length h
 simp at this;omega
theorem yY (s p:ae) (h:s.length≤1000000000):cW s p=some (preB s p):=by
 unfold cW df
 by_cases c:p.length≤s.length
 ·rw [if_pos (by omega),wD (by omega) (by omega) (by omega)]
  simp only [Option.bind_some]
  unfold preB
  simp
 ·rw [if_neg (by omega)]
  cases hp:preB s p with
  | false=>rfl
  | true=>exact absurd (J5 hp) c
theorem sj (s p:ae) (h:s.length≤1000000000):strings_CutPrefix s p=some (if preB s p=true then (s.drop p.length,true) else (s,false)):=by
 unfold strings_CutPrefix fA
 rw [yY s p h]
 simp only [Option.bind_some]
 cases hp:preB s p with
 | false=>simp
 | true=>
   have:=J5 hp
   rw [if_neg (by simp),wD (by omega) (by omega) (by omega)]
   simp only [Option.bind_some,if_true]
   congr 2
   rw [List.take_of_length_le (by simp)];simp
theorem wF (s p:ae) (h:s.length≤1000000000):strings_HasPrefix s p=some (preB s p):=by
 unfold strings_HasPrefix
 rw [yY s p h];rfl
abbrev xc:ae:=[116,97,103,46]
abbrev uc:ae:=[112,114,111,112,46]
abbrev Ak:ae:=[102,105,114,109,119,97,114,101]
def J6 (s:ae):Bool:=decide (s.length≤40)&&wE 5 s
theorem yZ {s:ae} (h:s.length≤1000000000):nE s=some (J6 s):=by
 unfold nE mf J6
 by_cases c:s.length≤40
 ·rw [if_pos (by omega)]
  unfold mH
  rw [show (5:Int)=((5:Nat):Int) from rfl,yX 5 (by omega) 5 s 0 (by omega) (by omega) h]
  simp [c]
 ·rw [if_neg (by omega)];simp [c]
theorem C2 {s:ae} (h:s.length≤1000000000):sL s=some (J6 s):=by
 unfold sL nK J6 wE
 rw [xb h]
 simp only [Option.bind_some]
 have hl:=tD 46 s
 by_cases c:s.length≤40
 ·rw [if_pos (by omega)]
  by_cases d:(cd 46 s).length≤5
  ·rw [if_pos (by omega)]
   have hc:aM (cd 46 s) (fun y0=>pP y0)=some ((cd 46 s).any (fun x=>!qU x)):=
    dn _ _ _ (fun x _=>by unfold pP;rw [mE];rfl) (by omega)
   rw [hc]
   simp only [Option.bind_some,Option.some.injEq]
   simp [c,d,List.all_eq_not_any_not]
  ·rw [if_neg (by omega)];simp [d]
 ·rw [if_neg (by omega)];simp [c]
def E6 (s:ae):Bool:=preB s xc&&qU (s.drop 4)
def sn (s:ae):Bool:=preB s uc&&J6 (s.drop 5)
theorem J7 {s:ae} (h:s.length≤1000000000):sH s=some (E6 s):=by
 unfold sH pI E6
 rw [sj s _ h]
 simp only [Option.bind_some]
 cases hp:preB s xc with
 | false=>simp
 | true=>
   rw [if_pos rfl,if_pos rfl,vz]
   simp
theorem CC {s:ae} (h:s.length≤1000000000):oN s=some (sn s):=by
 unfold oN oM sn
 rw [sj s _ h]
 simp only [Option.bind_some]
 cases hp:preB s uc with
 | false=>simp
 | true=>
   rw [if_pos rfl,if_pos rfl,yZ (by simp;omega)]
   simp
def ur (s:ae):Bool:=decide (s=[107,101,121])||(decide (s=[109,111,100,101,108])||(decide (s=[116,101,110,97,110,116])||decide (s=Ak)))
theorem Qy {s:ae} (h:s.length≤1000000000):vc s=some (ur s||(E6 s||sn s)):=by
 unfold vc iJ ur
 by_cases c1:s=[107,101,121]
 ·rw [if_pos c1];simp [c1]
 by_cases c2:s=[109,111,100,101,108]
 ·rw [if_neg c1,if_pos c2];simp [c2]
 by_cases c3:s=[116,101,110,97,110,116]
 ·rw [if_neg c1,if_neg c2,if_pos c3];simp [c3]
 by_cases c4:s=Ak
 ·rw [if_neg c1,if_neg c2,if_neg c3,if_pos c4];simp [c4]
 rw [if_neg c1,if_neg c2,if_neg c3,if_neg c4,J7 h]
 simp only [Option.bind_some]
 cases ht:E6 s with
 | true=>simp
 | false=>
   rw [if_neg (by simp),CC h]
   simp [c1,c2,c3,c4]
theorem pt (L:List ae) (m:ae) (hl:L.length≤10000000):aR L m=some (decide (m∈L)):=by
 unfold aR gB
 have key:∀ (k:Nat) (n:Int),0≤n→n+k=L.length→∃ j,fL L m n=some j∧(0≤j↔m∈L.drop n.toNat):=by
  intro k
  induction k with
  | zero=>
    intro n h0 hn
    refine ⟨-1,?_,?_⟩
    ·unfold fL
     rw [iter_eq,db,if_neg (by omega),cC]
    ·rw [List.drop_of_length_le (by omega)];simp
  | succ k ih=>
    intro n h0 hn
    obtain ⟨s,hs,_,hd⟩:=jq L h0 (by omega)
    unfold fL
    rw [iter_eq,db,if_pos (by omega),hs]
    simp only [Option.bind_some]
    by_cases e:m=s
    ·rw [if_pos e,cC]
     exact ⟨n,rfl,by rw [hd,← e];simp;omega⟩
    ·rw [if_neg e,bf (by omega) (by omega)]
     simp only [Option.bind_some,dD]
     obtain ⟨j,h1,h2⟩:=ih (n+1) (by omega) (by omega)
     exact ⟨j,h1,by rw [h2,hd];simp [e]⟩
 obtain ⟨j,h1,h2⟩:=key L.length 0 (by omega) (by omega)
 rw [h1]
 simp only [Option.bind_some,Option.some.injEq]
 rw [decide_eq_decide,h2];simp
theorem F5 {s:ae} (h:s.length≤1000000000) (has:Bool):r6 s has=some (E6 s||(sn s||(!has&&ur s))):=by
 have j2:∀ c,kS s has c=some (c||(!has&&ur s)):=by
  intro c
  unfold kS nw
  cases c with
  | true=>simp
  | false=>
    rw [if_neg (by simp)]
    cases has with
    | true=>simp
    | false=>
      rw [if_pos (by simp),pt _ _ (by simp)]
      simp only [Option.bind_some,Option.some.injEq]
      unfold ur
      simp
 have j1:∀ c,kT s has c=some (c||(sn s||(!has&&ur s))):=by
  intro c
  unfold kT
  cases c with
  | true=>simp
  | false=>
    rw [if_neg (by simp),sj s _ h]
    simp only [Option.bind_some]
    unfold sn
    cases hp:preB s uc with
    | false=>rw [if_neg (by simp),j2];simp
    | true=>
      rw [if_pos rfl,if_pos rfl,C2 (by simp;omega)]
      simp only [Option.bind_some]
      rw [j2];simp
 unfold r6
 rw [sj s _ h]
 simp only [Option.bind_some]
 unfold E6
 cases hp:preB s xc with
 | false=>rw [if_neg (by simp),j1];simp
 | true=>
   rw [if_pos rfl,if_pos rfl,mE]
   simp only [Option.bind_some]
   rw [j1];simp
def kM (v:a8):Bool:=(decide (0≤v.Kind)&&decide (v.Kind≤3))&&((decide (v.Kind=1)||!v.bV)&&((decide (v.Kind=2)||decide (v.Number=0))&&(decide (v.Kind=3)||decide (v.Words=[])))&&((decide (-1000000000≤v.Number)&&decide (v.Number≤1000000000))&&(decide (v.Words.length≤100)&&Lib.validD v.Words)))
theorem Qz (v:a8) (hw:v.Words.length≤1000000) (c:Bool) (n:Int) (q:ae):nF v c n q=some ((decide (v.bV=c)&&(decide (v.Number=n)&&decide (v.Words=q)))&&((decide (-1000000000≤v.Number)&&decide (v.Number≤1000000000))&&(decide (v.Words.length≤100)&&Lib.validD v.Words))):=by
 obtain ⟨k,f,m,w⟩:=v
 unfold nF lK wv kq tQ
 simp only [a8.mk.injEq,true_and]
 by_cases h1:f=c∧m=n∧w=q
 ·rw [if_pos h1]
  obtain ⟨rfl,rfl,rfl⟩:=h1
  by_cases h2:-1000000000≤m∧m≤1000000000
  ·rw [if_pos (by simp;omega)]
   by_cases h3:w.length≤100
   ·rw [if_pos (by omega),if_pos (by simp only at hw;omega)]
    simp [h2,h3]
   ·rw [if_neg (by omega)];simp [h3]
  ·rw [if_neg (by simp;omega)]
   rw [eq_comm];simp;omega
 ·rw [if_neg h1]
  rw [eq_comm];simp
  intro a b c'
  exact absurd ⟨a,b,c'⟩ h1
theorem E7 (v:a8) (hw:v.Words.length≤1000000):sI v=some (kM v):=by
 unfold sI pK pJ
 simp only [Qz v hw]
 unfold kM
 by_cases k0:v.Kind=0
 ·rw [if_pos k0];simp [k0]
 by_cases k1:v.Kind=1
 ·rw [if_neg k0,if_pos k1];simp [k1]
 by_cases k2:v.Kind=2
 ·rw [if_neg k0,if_neg k1,if_pos k2];simp [k2]
 by_cases k3:v.Kind=3
 ·rw [if_neg k0,if_neg k1,if_neg k2,if_pos k3];simp [k3]
 rw [if_neg k0,if_neg k1,if_neg k2,if_neg k3]
 rw [eq_comm];simp;omega
theorem Al (v:a8) (hw:v.Words.length≤1000000):o7 v=some (kM v):=by
 unfold o7 xX
 have h:=jh [v.bV,decide (v.Number≠(0:Int)),decide (v.Words≠([]:ae))] (fun x:Int=>bR v x) (fun _=>none) false (by simp)
 clear h
 have k3:jo v=some ((decide (0≤v.Kind)&&decide (v.Kind≤3))&&((decide (-1000000000≤v.Number)&&decide (v.Number≤1000000000))&&(Lib.validD v.Words&&decide (v.Words.length≤100)))):=by
  unfold jo kV wv yf xB
  by_cases h1:0≤v.Kind∧v.Kind≤3
  ·rw [if_pos (by simp;omega)]
   by_cases h2:-1000000000≤v.Number∧v.Number≤1000000000
   ·rw [if_pos (by simp;omega),if_pos (by omega)]
    have e:decide ((v.Words.length:Int)≤100)=decide (v.Words.length≤100):=by rw [decide_eq_decide];omega
    simp [h1,h2,e]
   ·rw [if_neg (by simp;omega)]
    rw [eq_comm];simp;omega
  ·rw [if_neg (by simp;omega)]
   rw [eq_comm];simp;omega
 have w1:cr ((0:Int)+1)=1:=bf (by omega) (by omega)
 have w2:cr ((1:Int)+1)=2:=bf (by omega) (by omega)
 have w3:cr ((2:Int)+1)=3:=bf (by omega) (by omega)
 have i0:idx [v.bV,decide (v.Number≠(0:Int)),decide (v.Words≠([]:ae))] 0=some v.bV:=rfl
 have i1:idx [v.bV,decide (v.Number≠(0:Int)),decide (v.Words≠([]:ae))] 1=some (decide (v.Number≠(0:Int))):=rfl
 have i2:idx [v.bV,decide (v.Number≠(0:Int)),decide (v.Words≠([]:ae))] 2=some (decide (v.Words≠([]:ae))):=rfl
 have b3:bR v 3=Option.map .inr (jo v):=by unfold bR;rw [if_neg (by simp)]
 have b2:bR v 2=if (decide (v.Words≠([]:ae))&&decide (v.Kind≠3))=true then some (.inr false) else some (.inl 3):=by
  unfold bR kU;rw [if_pos (by simp),i2,w3];rfl
 have b1:bR v 1=if (decide (v.Number≠(0:Int))&&decide (v.Kind≠2))=true then some (.inr false) else some (.inl 2):=by
  unfold bR kU;rw [if_pos (by simp),i1,w2];rfl
 have b0:bR v 0=if (v.bV&&decide (v.Kind≠1))=true then some (.inr false) else some (.inl 1):=by
  unfold bR kU;rw [if_pos (by simp),i0,w1];rfl
 have e3:iter (fun x:Int=>bR v x) 3=jo v:=by rw [iter_eq,b3,cC]
 have e2:iter (fun x:Int=>bR v x) 2=if (decide (v.Words≠([]:ae))&&decide (v.Kind≠3))=true then some false else jo v:=by
  rw [iter_eq,b2];split
  ·rfl
  ·simp only [Option.bind_some,dD];exact e3
 have e1:iter (fun x:Int=>bR v x) 1=if (decide (v.Number≠(0:Int))&&decide (v.Kind≠2))=true then some false else iter (fun x:Int=>bR v x) 2:=by
  rw [iter_eq,b1];split
  ·rfl
  ·simp only [Option.bind_some,dD]
 have e0:iter (fun x:Int=>bR v x) 0=if (v.bV&&decide (v.Kind≠1))=true then some false else iter (fun x:Int=>bR v x) 1:=by
  rw [iter_eq,b0];split
  ·rfl
  ·simp only [Option.bind_some,dD]
 rw [e0,e1,e2,k3]
 unfold kM
 by_cases c0:(v.bV&&decide (v.Kind≠1))=true
 ·rw [if_pos c0];rw [eq_comm];simp at c0 ⊢;intro _ _ h;exact absurd (h.resolve_left c0.2) (by simp [c0.1])
 rw [if_neg c0]
 by_cases c1:(decide (v.Number≠(0:Int))&&decide (v.Kind≠2))=true
 ·rw [if_pos c1];rw [eq_comm];simp at c1 ⊢;intro _ _ _ h;exact absurd (h.resolve_left c1.2) c1.1
 rw [if_neg c1]
 by_cases c2:(decide (v.Words≠([]:ae))&&decide (v.Kind≠3))=true
 ·rw [if_pos c2];rw [eq_comm];simp at c2 ⊢;intro _ _ _ _ h;exact absurd (h.resolve_left c2.2) c2.1
 rw [if_neg c2]
 congr 1
 have d0:(decide (v.Kind=1)||!v.bV)=true:=by simp at c0 ⊢;cases hf:v.bV<;>simp_all
 have d1:(decide (v.Kind=2)||decide (v.Number=0))=true:=by simp at c1 ⊢;omega
 have d2:(decide (v.Kind=3)||decide (v.Words=[]))=true:=by
  simp at c2 ⊢
  by_cases hw0:v.Words=[]
  ·exact .inr hw0
  ·exact .inl (c2 hw0)
 rw [d0,d1,d2]
 simp only [Bool.true_and,Bool.and_comm (Lib.validD v.Words)]
end Go.Beacon
set_option linter.unusedVariables false
set_option linter.unusedSimpArgs false
namespace Go.Beacon
open Go Go.Eng
theorem sV {s:tC} {n K:Int} (hs:nW s K) (hK:1≤K) (h1:1≤n) (h2:n≤4611686018427387904):qT (cH s n) (K - 1) (fun v=>0≤v∧v < n):=
 BS (hs.less (by omega)) h1 h2 (by omega)
theorem sW {s:tC} {n K:Int} (hs:nW s K) (hK:1≤K) (h1:1≤n) (h2:n≤4611686018427387904):qT (dp s n) (K - 1) (fun _=>True):=
 MR (hs.less (by omega)) h1 h2 (by omega)
theorem mU {s:tC} {l:List Int} {K:Int} (hs:nW s K) (hK:1≤K) (h1:l≠[]) (h2:l.length≤1000):qT (ch s l) (K - 1) (fun v=>v∈l):=
 MQ (hs.less (by omega)) h1 h2 (by omega)
theorem gh {s:tC} {l:List ae} {K:Int} (hs:nW s K) (hK:1≤K) (h1:l≠[]) (h2:l.length≤1000):qT (bx s l) (K - 1) (fun v=>v∈l):=
 S6 (hs.less (by omega)) h1 h2 (by omega)
theorem QA {s:tC} {a b K:Int} (hs:nW s K) (hK:2≤K) (K4:a≤b) (ha:-1099511627776≤a) (hb:b≤1099511627776):qT (oF s a b) (K - 2) (fun v=>-1099511627777≤v∧v≤1099511627777):=
 VO (hs.less (by omega)) K4 ha hb (by omega)
end Go.Beacon
set_option linter.unusedVariables false
set_option linter.unusedSimpArgs false
namespace Go.Beacon
open Go Go.Eng
def Ok {α:Type} (m:Option α) (Q:α→Prop):Prop:=∃ r,m=some r∧Q r
theorem Ok.ret {α:Type} {v:α} {Q:α→Prop} (h:Q v):Ok (some v) Q:=⟨v,rfl,h⟩
theorem Ok.mono {α:Type} {m:Option α} {P Q:α→Prop} (h:Ok m P) (hp:∀ v,P v→Q v):Ok m Q:=by
 obtain ⟨r,h1,h2⟩:=h;exact ⟨r,h1,hp r h2⟩
theorem Ok.inr {α β:Type} {m:Option β} {Q:α⊕β→Prop} (h:Ok m (fun r=>Q (.inr r))):Ok (Option.map .inr m) Q:=by
 obtain ⟨r,rfl,h2⟩:=h;exact ⟨_,rfl,h2⟩
theorem Ok.gen {α β:Type} {m:Option (α×tC)} {k:Int} {P:α→Prop} {f:α×tC→Option β} {Q:β→Prop} (h:qT m k P) (hf:∀ v s',P v→nW s' k→Ok (f (v,s')) Q):Ok (m.bind f) Q:=by
 obtain ⟨v,s',rfl,h1,h2⟩:=h;exact hf v s' h1 h2
theorem qT.of {α:Type} {m:Option (α×tC)} {k:Int} {P:α→Prop} (h:Ok m (fun r=>P r.1∧nW r.2 k)):qT m k P:=by
 obtain ⟨⟨v,s⟩,h1,h2,h3⟩:=h;exact ⟨v,s,h1,h2,h3⟩
theorem Ok.idx {α β:Type} {xs:List α} {i:Int} {f:α→Option β} {Q:β→Prop} (h0:0≤i) (h1:i < xs.length) (hf:∀ x,idx xs i=some x→x∈xs→Ok (f x) Q):Ok ((idx xs i).bind f) Q:=by
 obtain ⟨x,hx,hm,_⟩:=jq xs h0 h1
 rw [hx];exact hf x hx hm
theorem Ok.app {α β:Type} {xs ys:List α} {f:List α→Option β} {Q:β→Prop} (h:xs.length+ys.length≤1000000000) (hf:Ok (f (xs++ys)) Q):Ok ((app xs ys).bind f) Q:=by
 rw [nV h];exact hf
theorem VQ {a b:ae} (h:a.length+b.length≤9223372036854775807):Jm a b=some (a++b):=by unfold Jm;rw [if_pos h]
abbrev Um {S A:Type} (m:S→Nat) (Inv:S→Prop) (R:A→Prop) (s:S):S⊕A→Prop
 | .inl s'=>Inv s'∧m s' < m s
 | .inr a=>R a
theorem Ok.iter {S A:Type} {f:S→Option (S⊕A)} {R:A→Prop} (m:S→Nat) (Inv:S→Prop)
 (h:∀ s,Inv s→Ok (f s) (Um m Inv R s)) (s:S) (hs:Inv s):Ok (iter f s) R:=by
 refine Qv f m Inv R (fun s hi=>?_) s hs
 obtain ⟨r,h1,h2⟩:=h s hi
 cases r with
 | inl s'=>exact .inl ⟨s',h1,h2.1,h2.2⟩
 | inr a=>exact .inr ⟨a,h1,h2⟩
abbrev Rng {A:Type} (N:Nat) (R:A→Prop) (i:Int):Int⊕A→Prop
 | .inl j=>j=i+1∧i < N
 | .inr a=>R a
theorem Ok.range {A:Type} {f:Int→Option (Int⊕A)} {R:A→Prop} (N:Nat) (h:∀ i:Int,0≤i→i≤N→Ok (f i) (Rng N R i)):Ok (Eng.iter f 0) R:=by
 refine Ok.iter (fun i:Int=>N+1 - i.toNat) (fun i:Int=>0≤i∧i≤N) (fun i hi=>?_) 0 ⟨by omega,by omega⟩
 refine (h i hi.1 hi.2).mono (fun r hr=>?_)
 cases r with
 | inl j=>simp only [Rng,Um] at hr ⊢;omega
 | inr a=>exact hr
theorem zv {S A:Type} {f g:S→Option (S⊕A)} (h:∀ s,f s=g s) (s:S):iter f s=iter g s:=by rw [funext h]
end Go.Beacon
set_option linter.unusedVariables false
set_option linter.unusedSimpArgs false
namespace Go.Beacon
open Go Go.Eng
theorem fu {α σ A X:Type} (xs:List α) (mk:σ→Int→X) (f:X→Option (X⊕A)) (stp:σ→α→σ) (Inv:Int→σ→Prop) (E:σ→Option A)
 (h1:∀ s (i:Int) x,0≤i→i < xs.length→idx xs i=some x→Inv i s→f (mk s i)=some (.inl (mk (stp s x) (i+1)))∧Inv (i+1) (stp s x))
 (h2:∀ s,Inv xs.length s→f (mk s xs.length)=Option.map .inr (E s)) (s:σ) (h0:Inv 0 s):iter f (mk s 0)=E (xs.foldl stp s):=by
 have key:∀ (n:Nat) (s:σ) (i:Int),0≤i→i+n=xs.length→Inv i s→iter f (mk s i)=E ((xs.drop i.toNat).foldl stp s):=by
  intro n
  induction n with
  | zero=>
    intro s i hi hn hv
    have:i=xs.length:=by omega
    subst this
    rw [iter_eq,h2 s hv,cC]
    simp
  | succ n ih=>
    intro s i hi hn hv
    obtain ⟨x,hx,_,hd⟩:=jq xs hi (by omega)
    obtain ⟨e1,e2⟩:=h1 s i x hi (by omega) hx hv
    rw [iter_eq,e1]
    simp only [Option.bind_some,dD]
    rw [ih _ _ (by omega) (by omega) e2,hd]
    rfl
 have:=key xs.length s 0 (by omega) (by omega) h0
 simpa using this
theorem foldl_filter {α:Type} (p:α→Bool):∀ (xs acc:List α),xs.foldl (fun acc x=>if p x=true then acc++[x] else acc) acc=acc++xs.filter p
 | [],acc=>by simp
 | x :: r,acc=>by
   rw [List.foldl_cons,foldl_filter p r,List.filter_cons]
   cases p x<;>simp
theorem foldl_map {α β:Type} (g:α→β):∀ (xs:List α) (acc:List β),xs.foldl (fun acc x=>acc++[g x]) acc=acc++xs.map g
 | [],acc=>by simp
 | x :: r,acc=>by rw [List.foldl_cons,foldl_map g r];simp
abbrev Ii {A:Type} (N:Nat) (Inv:Int→Prop) (R:A→Prop) (i:Int):Int⊕A→Prop
 | .inl j=>j=i+1∧i < N∧Inv (i+1)
 | .inr a=>R a
theorem Ok.LI {A:Type} {f:Int→Option (Int⊕A)} {R:A→Prop} (N:Nat) (Inv:Int→Prop) (h0:Inv 0) (h:∀ i:Int,0≤i→i≤N→Inv i→Ok (f i) (Ii N Inv R i)):Ok (Eng.iter f 0) R:=by
 refine Ok.iter (fun i:Int=>N+1 - i.toNat) (fun i:Int=>(0≤i∧i≤N)∧Inv i) (fun i hi=>?_) 0 ⟨⟨by omega,by omega⟩,h0⟩
 refine (h i hi.1.1 hi.1.2 hi.2).mono (fun r hr=>?_)
 cases r with
 | inl j=>
   simp only [Um,Ii] at hr ⊢
   obtain ⟨rfl,h2,h3⟩:=hr
   exact ⟨⟨by omega,h3⟩,by omega⟩
 | inr a=>exact hr
theorem take_succ {α:Type} {xs:List α} {i:Int} {x:α} (h0:0≤i) (h:idx xs i=some x):xs.take (i+1).toNat=xs.take i.toNat++[x]:=by
 obtain ⟨_,h1,h2⟩:=wL h
 rw [show (i+1).toNat=i.toNat+1 by omega,List.take_add_one,h2];rfl
theorem Ok.CD {σ A X:Type} {f:X→Option (X⊕A)} {R:A→Prop} (N:Nat) (mk:σ→Int→X) (Inv:Int→σ→Prop)
 (h:∀ s (i:Int),0≤i→i≤N→Inv i s→Ok (f (mk s i)) (fun r=>(∃ s',r=.inl (mk s' (i+1))∧i < N∧Inv (i+1) s')∨∃ a,r=.inr a∧R a)) (s:σ) (h0:Inv 0 s):Ok (Eng.iter f (mk s 0)) R:=by
 have key:∀ (k:Nat) (s:σ) (i:Int),0≤i→i≤N→i+k=N+1→Inv i s→Ok (Eng.iter f (mk s i)) R:=by
  intro k
  induction k with
  | zero=>
    intro s i hi hN hk hv
    omega
  | succ k ih=>
    intro s i hi hN hk hv
    obtain ⟨r,h1,h2⟩:=h s i hi hN hv
    rw [iter_eq,h1]
    rcases h2 with ⟨s',rfl,h3,h4⟩ | ⟨a,rfl,h3⟩
    ·simp only [Option.bind_some,dD]
     exact ih s' (i+1) (by omega) (by omega) (by omega) h4
    ·exact ⟨a,rfl,h3⟩
 exact key (N+1) s 0 (by omega) (by omega) (by omega) h0
end Go.Beacon
set_option linter.unusedVariables false
set_option linter.unusedSimpArgs false
namespace Go.Beacon
open Go Go.Eng
mutual
def Query.kQ:Query→List Query
 | ⟨a,b,c,d,e,kids⟩=>⟨a,b,c,d,e,kids⟩ :: Query.lU kids
def Query.lU:List Query→List Query
 | []=>[]
 | x :: r=>Query.kQ x++Query.lU r
end
mutual
def Query.dep:Query→Nat
 | ⟨a,b,c,d,e,kids⟩=>Query.DH kids+1
def Query.DH:List Query→Nat
 | []=>0
 | x :: r=>max (Query.dep x) (Query.DH r)
end
theorem Query.tE (q:Query):q.kQ=q :: Query.lU q.Kids:=by obtain ⟨a,b,c,d,e,kids⟩:=q;rw [Query.kQ]
theorem Query.LJ (q:Query):q.dep=Query.DH q.Kids+1:=by obtain ⟨a,b,c,d,e,kids⟩:=q;rw [Query.dep]
theorem Query.J8 (q:Query):q∈q.kQ:=by rw [q.tE];simp
theorem Query.pos (q:Query):0 < q.kQ.length:=by rw [q.tE];simp
theorem CE:∀ {l:List Query} {c:Query},c∈l→c.kQ.length≤(Query.lU l).length∧∀ x∈c.kQ,x∈Query.lU l
 | x :: r,c,h=>by
   rw [Query.lU]
   rcases List.mem_cons.1 h with rfl | h
   ·exact ⟨by simp,fun y hy=>List.mem_append_left _ hy⟩
   ·obtain ⟨h1,h2⟩:=CE h
    exact ⟨by rw [List.length_append];omega,fun y hy=>List.mem_append_right _ (h2 y hy)⟩
theorem xd:∀ l:List Query,l.length≤(Query.lU l).length
 | []=>by simp
 | x :: r=>by
   rw [Query.lU]
   have:=xd r
   have:=x.pos
   rw [List.length_append,List.length_cons];omega
theorem MT:∀ l:List Query,(∀ x∈l,x.dep≤x.kQ.length)→Query.DH l≤(Query.lU l).length
 | [],_=>by simp [Query.DH]
 | x :: r,h=>by
   rw [Query.DH,Query.lU,List.length_append]
   have h1:=h x List.mem_cons_self
   have h2:=MT r (fun y hy=>h y (List.mem_cons_of_mem _ hy))
   omega
theorem E8:∀ (n:Nat) (q:Query),q.kQ.length≤n→q.dep≤q.kQ.length
 | 0,q,h=>by have:=q.pos;omega
 | n+1,q,h=>by
   rw [q.LJ,q.tE,List.length_cons]
   rw [q.tE,List.length_cons] at h
   have:=MT q.Kids (fun x hx=>E8 n x (by have:=(CE hx).1;omega))
   omega
structure F6 (q:Query):Prop where
 field:q.Field.length≤100000
 op:q.Op.length≤100000
 words:q.Value.Words.length≤100000
structure QB (q:Query):Prop where
 len:q.kQ.length≤5000
 str:∀ x∈q.kQ,F6 x
theorem QB.Un {q c:Query} (h:QB q) (hc:c∈q.Kids):QB c∧c.kQ.length < q.kQ.length:=by
 have h1:=CE hc
 have h2:=q.tE
 refine ⟨⟨?_,fun x hx=>h.str x (by rw [h2];exact List.mem_cons_of_mem _ (h1.2 x hx))⟩,by rw [h2,List.length_cons];omega⟩
 have:=h.len
 rw [h2,List.length_cons] at this
 omega
theorem QB.kids {q:Query} (h:QB q):q.Kids.length≤5000:=by
 have:=h.len
 rw [q.tE,List.length_cons] at this
 have:=xd q.Kids
 omega
theorem QB.s {q:Query} (h:QB q):F6 q:=h.str q q.J8
theorem G3 {C:Nat→Query→Prop} (h:∀ n q,QB q→(∀ c∈q.Kids,C n c)→C (n+1) q):∀ (n:Nat) (q:Query),QB q→q.kQ.length≤n→C n q
 | 0,q,_,hl=>by have:=q.pos;omega
 | n+1,q,hq,hl=>h n q hq (fun c hc=>G3 h n c (hq.Un hc).1 (by have:=(hq.Un hc).2;omega))
def ga (q:Query):Bool:=decide (q.Kind=1)||decide (q.Kind=2)
def J9 (l:List Query):Nat:=(Query.lU l).countP ga
theorem Od (x:Query) (r:List Query):J9 (x :: r)=x.kQ.countP ga+J9 r:=by
 unfold J9;rw [Query.lU,List.countP_append]
theorem G4:∀ (l:List Query) (s:Int×Int),l.foldl (fun s x=>(s.1+((x.kQ.countP ga:Nat):Int),max s.2 ((x.dep:Nat):Int))) s=(s.1+((J9 l:Nat):Int),max s.2 ((Query.DH l:Nat):Int))∨s.2 < 0
 | [],s=>by
   by_cases h:s.2 < 0
   ·exact .inr h
   ·left
    simp [J9,Query.lU,Query.DH]
    refine Prod.ext rfl ?_
    simp only;omega
 | x :: r,s=>by
   by_cases h:s.2 < 0
   ·exact .inr h
   ·left
    rw [List.foldl_cons]
    rcases G4 r (s.1+((x.kQ.countP ga:Nat):Int),max s.2 ((x.dep:Nat):Int)) with e | e
    ·rw [e,Od,Query.DH]
     refine Prod.ext ?_ ?_
     ·simp only;omega
     ·simp only;omega
    ·simp only at e;omega
theorem LK (n:Nat) (q:Query) (hq:QB q) (hn:q.kQ.length≤n):fX n q=some (((q.kQ.countP ga:Nat):Int),((q.dep:Nat):Int)):=by
 refine G3 (C:=fun n q=>fX n q=some (((q.kQ.countP ga:Nat):Int),((q.dep:Nat):Int))) (fun n q hq ih=>?_) n q hq hn
 have hk:=hq.kids
 have hl:=hq.len
 have hd:=E8 _ q (Nat.le_refl _)
 have hc:q.kQ.countP ga≤q.kQ.length:=List.countP_le_length
 have e0:=q.tE
 have e1:=q.LJ
 have e2:q.kQ.countP ga=(if ga q=true then 1 else 0)+J9 q.Kids:=by
  rw [e0,List.countP_cons];unfold J9;omega
 have key:∀ m:Int,0≤m→m≤1→ui (fX n) q m 0 0=some (m+((J9 q.Kids:Nat):Int),((q.dep:Nat):Int)):=by
  intro m h0 h1
  unfold ui
  have h:=fu q.Kids (fun (s:Int×Int) (i:Int)=>(s.1,s.2,i)) (fun x:Int×Int×Int=>fY (fX n) q x.1 x.2.1 x.2.2) (fun s x=>(s.1+((x.kQ.countP ga:Nat):Int),max s.2 ((x.dep:Nat):Int))) (fun i s=>(0≤s.1∧s.1≤1+5000 * i)∧0≤s.2∧s.2≤5000) (fun s=>some (s.1,cr (s.2+1)))
   (fun s i x i0 i1 hi hs=>by
    have hx:=gV hi
    have k:=hq.Un hx
    have kl:=k.1.len
    have kc:x.kQ.countP ga≤x.kQ.length:=List.countP_le_length
    have kd:=E8 _ x (Nat.le_refl _)
    refine ⟨?_,?_⟩
    ·show fY (fX n) q s.1 s.2 i=_
     unfold fY
     rw [if_pos i1,hi]
     simp only [Option.bind_some]
     rw [ih x hx]
     simp only [Option.bind_some]
     rw [bf (x:=s.1+_) (by omega) (by omega),bf (by omega) (by omega)]
    ·simp only;omega)
   (fun s hs=>by
    show fY (fX n) q s.1 s.2 q.Kids.length=_
    unfold fY
    rw [if_neg (by omega)]) (m,0) ⟨⟨by simpa using h0,by simp;omega⟩,by simp,by simp⟩
  simp only at h
  rw [h]
  rcases G4 q.Kids (m,0) with e | e
  ·rw [e]
   simp only
   rw [bf (by omega) (by omega)]
   congr 2
   omega
  ·simp at e
 show np (fX n) q=_
 unfold np qe nn
 have e3:(decide (q.Kind=(1:Int))||decide (q.Kind=(2:Int)))=ga q:=rfl
 rw [e3,e2]
 cases hlf:ga q with
 | true=>rw [if_pos rfl,key 1 (by omega) (by omega)];simp
 | false=>rw [if_neg (by simp),key 0 (by omega) (by omega)];simp
theorem C3:∀ (l:List Query) (s:List Query),l.foldl (fun s x=>s++x.kQ.filter ga) s=s++(Query.lU l).filter ga
 | [],s=>by simp [Query.lU]
 | x :: r,s=>by rw [List.foldl_cons,C3 r,Query.lU,List.filter_append,List.append_assoc]
theorem Oe (n:Nat) (q:Query) (hq:QB q) (hn:q.kQ.length≤n):lO n q=some (q.kQ.filter ga):=by
 refine G3 (C:=fun n q=>lO n q=some (q.kQ.filter ga)) (fun n q hq ih=>?_) n q hq hn
 have hk:=hq.kids
 have hl:=hq.len
 have e0:=q.tE
 have key:∀ m:List Query,m.length≤1→yH (lO n) q m 0=some (m++(Query.lU q.Kids).filter ga):=by
  intro m h1
  unfold yH
  have h:=fu q.Kids (fun (s:List Query) (i:Int)=>(s,i)) (fun x:List Query×Int=>lu (lO n) q x.1 x.2) (fun s x=>s++x.kQ.filter ga) (fun i s=>(s.length:Int)≤1+5000 * i) (fun s=>some s)
   (fun s i x i0 i1 hi hs=>by
    have hx:=gV hi
    have k:=hq.Un hx
    have kl:=k.1.len
    have kc:(x.kQ.filter ga).length≤x.kQ.length:=List.length_filter_le _ _
    refine ⟨?_,?_⟩
    ·show lu (lO n) q s i=_
     unfold lu
     rw [if_pos i1,hi]
     simp only [Option.bind_some]
     rw [ih x hx]
     simp only [Option.bind_some]
     rw [nV (by omega),bf (by omega) (by omega)];rfl
    ·rw [List.length_append];omega)
   (fun s hs=>by
    show lu (lO n) q s q.Kids.length=_
    unfold lu
    rw [if_neg (by omega)]) m (by omega)
  rw [h,C3]
 show tY (lO n) q=_
 unfold tY vY tX
 have e3:(decide (q.Kind=(1:Int))||decide (q.Kind=(2:Int)))=ga q:=rfl
 rw [e3,e0,List.filter_cons]
 cases hlf:ga q with
 | true=>rw [if_pos rfl,if_pos rfl,nV (by simp)];simp only [Option.bind_some,List.nil_append];rw [key _ (by simp)];rfl
 | false=>rw [if_neg (by simp),if_neg (by simp),key _ (by simp)];rfl
theorem G5:∀ (l:List Query) (s:Int),0≤s→l.foldl (fun s x=>max s ((x.dep:Nat):Int)) s=max s ((Query.DH l:Nat):Int)
 | [],s,h=>by simp [Query.DH];omega
 | x :: r,s,h=>by rw [List.foldl_cons,G5 r _ (by omega),Query.DH];omega
theorem Ta (n:Nat) (q:Query) (hq:QB q) (hn:q.kQ.length≤n):r5 n q=some ((q.dep:Nat):Int):=by
 refine G3 (C:=fun n q=>r5 n q=some ((q.dep:Nat):Int)) (fun n q hq ih=>?_) n q hq hn
 have hk:=hq.kids
 have hl:=hq.len
 have hd:=E8 _ q (Nat.le_refl _)
 have e1:=q.LJ
 show wU (r5 n) q=_
 unfold wU GO
 have h:=fu q.Kids (fun (s:Int) (i:Int)=>(s,i)) (fun x:Int×Int=>o6 (r5 n) q x.1 x.2) (fun s x=>max s ((x.dep:Nat):Int)) (fun i s=>0≤s∧s≤5000) (fun s=>some (cr (s+1)))
  (fun s i x i0 i1 hi hs=>by
   have hx:=gV hi
   have k:=hq.Un hx
   have kl:=k.1.len
   have kd:=E8 _ x (Nat.le_refl _)
   refine ⟨?_,by omega⟩
   show o6 (r5 n) q s i=_
   unfold o6
   rw [if_pos i1,hi]
   simp only [Option.bind_some]
   rw [ih x hx]
   simp only [Option.bind_some]
   rw [bf (by omega) (by omega)])
  (fun s hs=>by
   show o6 (r5 n) q s q.Kids.length=_
   unfold o6
   rw [if_neg (by omega)]) 0 (by omega)
 rw [h,G5 _ _ (by omega),bf (by omega) (by omega)]
 congr 1
 omega
end Go.Beacon
set_option linter.unusedVariables false
set_option linter.unusedSimpArgs false
namespace Go.Beacon
open Go Go.Eng
abbrev zV:a8:=⟨0,false,0,[]⟩
abbrev zX:Version:=⟨0,0,0⟩
def LL (q:Query):Bool:=q.Kids.any (fun k=>decide (k.Kind=q.Kind))
def wa (q:Query):Bool:=
 if q.Kind=1 then decide (q.Kids.length≠0)
 else if q.Kind=2 then decide (q.Kids.length≠0)||(decide (q.Op≠[])||(decide (q.Value≠zV)||decide (q.Version≠zX)))
 else (if q.Kind=3 then decide (q.Kids.length≠1) else decide (q.Kids.length < 2)||LL q)||(decide (q.Field≠[])||(decide (q.Op≠[])||(decide (q.Value≠zV)||decide (q.Version≠zX))))
def DI (q:Query):Bool:=decide (q.Kind < 1)||decide (5 < q.Kind)
def fF (q:Query):Int:=if DI q=true then 4 else if wa q=true then 3 else 0
theorem nb (b:Bool):(if b=true then (some (3:Int)) else some 0)=some (if b=true then 3 else 0):=by cases b<;>rfl
theorem VR {α:Type} [DecidableEq α] (a b:α):decide (a≠b)=decide (b≠a):=by rw [decide_eq_decide];exact ⟨fun h k=>h k.symm,fun h k=>h k.symm⟩
theorem QC (q:Query) (c:Bool) (f o:ae) (k:Int) (fl:Bool) (n:Int) (w:ae) (x y z:Int):k8 q c f o k fl n w x y z=some (if (c||(decide (f≠q.Field)||(decide (o≠q.Op)||(decide ((⟨k,fl,n,w⟩:a8)≠q.Value)||decide ((⟨x,y,z⟩:Version)≠q.Version)))))=true then 3 else 0):=nb _
theorem QD (q:Query) (c:Bool):iZ q c=some (if (c||(decide (q.Field≠[])||(decide (q.Op≠[])||(decide (q.Value≠zV)||decide (q.Version≠zX)))))=true then 3 else 0):=by
 unfold iZ iY
 rw [QC,VR [] q.Field,VR [] q.Op,VR _ q.Value,VR _ q.Version]
theorem VS (q:Query) (m:Nat):decide ((q.Kids.length:Int)≠(m:Nat))=decide (q.Kids.length≠m):=by rw [decide_eq_decide];omega
theorem Ij (q:Query) (hq:QB q):oL q=some (fF q):=by
 have hk:=hq.kids
 unfold oL fF
 have ho:kq q.Kind 1 5=DI q:=rfl
 rw [ho]
 cases h:DI q with
 | true=>rfl
 | false=>
   simp only [Bool.false_eq_true,if_false]
   unfold wa
   by_cases k1:q.Kind=1
   ·rw [if_pos k1,if_pos k1,QC,show ((0:Int))=((0:Nat):Int) from rfl,VS]
    have e1:decide (q.Field≠q.Field)=false:=by simp
    have e2:decide (q.Op≠q.Op)=false:=by simp
    have e3:decide ((⟨q.Value.Kind,q.Value.bV,q.Value.Number,q.Value.Words⟩:a8)≠q.Value)=false:=by simp
    have e4:decide ((⟨q.Version.bH,q.Version.bI,q.Version.bF⟩:Version)≠q.Version)=false:=by simp
    rw [e1,e2,e3,e4];simp
   rw [if_neg k1,if_neg k1]
   by_cases k2:q.Kind=2
   ·rw [if_pos k2,if_pos k2]
    unfold iY
    rw [QC,show ((0:Int))=((0:Nat):Int) from rfl,VS,VR [] q.Op]
    have e1:decide (q.Field≠q.Field)=false:=by simp
    rw [e1,Bool.false_or]
    rw [VR _ q.Value,VR _ q.Version];rfl
   rw [if_neg k2,if_neg k2]
   by_cases k3:q.Kind=3
   ·rw [if_pos k3,if_pos k3,QD,show ((1:Int))=((1:Nat):Int) from rfl,VS]
   rw [if_neg k3,if_neg k3]
   unfold k9
   by_cases c:q.Kids.length < 2
   ·rw [if_pos (by omega),QD];simp [c]
   ·rw [if_neg (by omega)]
    have hc:bQ q.Kids (fun y0=>some (oc y0 q))=some (LL q):=dn _ _ _ (fun x _=>rfl) (by omega)
    rw [hc]
    simp only [Option.bind_some]
    rw [QD];simp [c]
def opsL:List ae:=[[61,61],[33,61],[60,61],[62,61],[60],[62]]
def wb (q:Query):Bool:=decide (q.Field=Ak)
noncomputable def lF (q:Query):Int:=
 if (E6 q.Field||(sn q.Field||(!decide (q.Kind=2)&&ur q.Field)))=false then 5
 else if q.Kind=2 then 0
 else if ¬ q.Op∈opsL then 10
 else if wb q=true∧q.Value≠zV then 3
 else if wb q=true∧fB q.Version=false then 1
 else if wb q=true then 0
 else if q.Version≠zX∨(kM q.Value=false∨q.Value.Kind=0) then 3
 else if (q.Value.Kind≠3∧sn q.Field=false)∨(q.Value.Kind≠2∧q.Op≠[61,61]∧q.Op≠[33,61]) then 10
 else 0
theorem Ka {α:Type} (p:Prop) [Decidable p] (a b:α):(if p then some a else some b)=some (if p then a else b):=by split<;>rfl
theorem Uo (q:Query) (hq:F6 q) (c:Bool):jb q c=some (if c=true then 3 else if (q.Value.Kind≠3∧sn q.Field=false)∨(q.Value.Kind≠2∧q.Op≠[61,61]∧q.Op≠[33,61]) then 10 else 0):=by
 have h5:∀ c,ja q c=some (if c=true∨(q.Value.Kind≠2∧q.Op≠[61,61]∧q.Op≠[33,61]) then 10 else 0):=by
  intro c
  unfold ja od
  cases c with
  | true=>simp
  | false=>
    rw [if_neg (by simp),Ka]
    congr 1
    simp
 unfold jb
 cases c with
 | true=>rfl
 | false=>
   simp only [Bool.false_eq_true,if_false]
   by_cases k:q.Value.Kind=3
   ·rw [if_neg (fun h=>h k),h5]
    congr 1
    simp [k]
   ·rw [if_pos k,CC (by have:=hq.field;omega)]
    simp only [Option.bind_some]
    rw [h5]
    congr 1
    simp [k]
theorem Ik (q:Query) (hq:F6 q):oO q=some (lF q):=by
 have hf:=hq.field
 have hw:=hq.words
 have j1:eJ q false=some (if q.Kind=2 then 0 else if ¬ q.Op∈opsL then 10 else if wb q=true∧q.Value≠zV then 3 else if wb q=true∧fB q.Version=false then 1 else if wb q=true then 0 else if q.Version≠zX∨(kM q.Value=false∨q.Value.Kind=0) then 3 else if (q.Value.Kind≠3∧sn q.Field=false)∨(q.Value.Kind≠2∧q.Op≠[61,61]∧q.Op≠[33,61]) then 10 else 0):=by
  unfold eJ
  rw [if_neg (by simp)]
  by_cases k2:q.Kind=2
  ·rw [if_pos k2,if_pos k2]
  rw [if_neg k2,if_neg k2,pt _ _ (by unfold fw;simp)]
  simp only [Option.bind_some]
  have ho:q.Op∈fw↔q.Op∈opsL:=by unfold fw opsL;simp only [List.mem_cons,List.not_mem_nil,or_false];constructor<;>(rintro (h | h | h | h | h | h)<;>simp [h])
  by_cases OM:q.Op∈opsL
  ·rw [if_neg (by simp [ho,OM]),if_neg (fun k=>k OM)]
   unfold og
   have hfb:decide (q.Field=([102,105,114,109,119,97,114,101]:ae))=wb q:=rfl
   rw [hfb]
   by_cases c1:wb q=true∧q.Value≠zV
   ·rw [if_pos c1,if_pos (by simp [c1.1];exact c1.2)]
   rw [if_neg c1,if_neg (by simp;intro h;exact Classical.byContradiction fun k=>c1 ⟨h,k⟩)]
   unfold oe
   by_cases c2:wb q=true∧fB q.Version=false
   ·rw [if_pos c2,if_pos (by simp [c2.1,c2.2])]
   rw [if_neg c2,if_neg (by simp;intro h;cases hb:fB q.Version with | true=>rfl | false=>exact absurd ⟨h,hb⟩ c2)]
   by_cases c3:wb q=true
   ·rw [if_pos c3,if_pos (of_decide_eq_true c3)]
   rw [if_neg c3,if_neg (fun k=>c3 (decide_eq_true k))]
   by_cases c4:q.Version≠zX
   ·rw [if_pos c4,Uo q hq,if_pos rfl,if_pos (.inl c4)]
   ·rw [if_neg c4,E7 _ (by omega)]
    simp only [Option.bind_some]
    rw [Uo q hq]
    by_cases c5:kM q.Value=false∨q.Value.Kind=0
    ·rw [if_pos (by rcases c5 with h | h<;>simp [h]),if_pos (.inr c5)]
    ·rw [not_or] at c5
     rw [if_neg (by simp [c5.2];simpa using c5.1),if_neg (show ¬ (q.Version≠zX∨(kM q.Value=false∨q.Value.Kind=0)) from fun k=>k.elim c4 (fun k=>k.elim c5.1 c5.2))]
  ·rw [if_pos (by simp [ho,OM]),if_pos OM]
 unfold oO lF
 rw [Qy (by omega)]
 simp only [Option.bind_some]
 have bad:eJ q true=some 5:=rfl
 cases ht:E6 q.Field<;>cases hp:sn q.Field<;>cases OY:ur q.Field<;>by_cases k2:q.Kind=2
 all_goals simp only [ht,hp,OY,k2,Bool.or_false,Bool.or_true,Bool.false_or,Bool.true_or,Bool.not_true,Bool.not_false,Bool.false_eq_true,if_false,if_true,decide_true,decide_false,Bool.true_and,Bool.false_and,bad]
 all_goals first
  | rfl
  | (rw [J7 (by omega),ht];simp only [Option.bind_some,Bool.not_true,Bool.not_false,Bool.false_eq_true,if_false,if_true];first | (rw [CC (by omega),hp];simp only [Option.bind_some,Bool.not_true,Bool.not_false];first | exact bad | (rw [j1];simp [k2])) | (rw [j1];simp [k2]))
  | (rw [j1];simp [k2,hp])
theorem x9 (v:Version):kD v=fB v:=by
 unfold kD ou fB qg yf xB kq tQ
 rw [Bool.eq_iff_iff];simp
theorem Tb {s a b:ae} (ha:preB s a=true) (hb:preB s b=true):∀ i,i < a.length→i < b.length→a[i]? =b[i]?:=by
 intro i h1 h2
 have h3:s.take a.length=a:=of_decide_eq_true ha
 have h4:s.take b.length=b:=of_decide_eq_true hb
 have e1:a[i]? =s[i]?:=by rw [← h3,List.getElem?_take];simp [h1]
 have e2:b[i]? =s[i]?:=by rw [← h4,List.getElem?_take];simp [h2]
 rw [e1,e2]
theorem BU {s:ae} (h:preB s xc=true):preB s uc=false:=by
 cases hp:preB s uc with
 | false=>rfl
 | true=>have:=Tb h hp 0 (by simp) (by simp);simp at this
theorem Of {s:ae} (h:ur s=true):preB s xc=false∧preB s uc=false:=by
 unfold ur at h
 simp only [Bool.or_eq_true,decide_eq_true_eq] at h
 rcases h with rfl | rfl | rfl | rfl<;>exact ⟨rfl,rfl⟩
theorem QE {s:ae} (h:(E6 s||(sn s||ur s))=true):preB s uc=sn s:=by
 simp only [Bool.or_eq_true] at h
 rcases h with h | h | h
 ·have h1:preB s xc=true:=by unfold E6 at h;simp at h;exact h.1
  have h2:=BU h1
  unfold sn;rw [h2];rfl
 ·rw [h];unfold sn at h;simp at h;exact h.1
 ·have h2:=(Of h).2
  unfold sn;rw [h2];rfl
theorem LM (q:Query) (hq:F6 q):nL q=some (lF q):=by
 have hf:=hq.field
 have hw:=hq.words
 have h7:∀ c,o8 c=some (if c=true then 10 else 0):=fun c=>by unfold o8;cases c<;>rfl
 unfold nL lF
 rw [F5 (by omega)]
 simp only [Option.bind_some]
 cases hfr:(E6 q.Field||(sn q.Field||(!decide (q.Kind=2)&&ur q.Field))) with
 | false=>rfl
 | true=>
   simp only [Bool.not_true,Bool.false_eq_true,if_false,Bool.true_eq_false]
   by_cases k2:q.Kind=2
   ·rw [if_pos k2,if_pos k2]
   rw [if_neg k2,if_neg k2]
   have Zh:preB q.Field uc=sn q.Field:=QE (by
    simp only [k2,decide_false,Bool.not_false,Bool.true_and] at hfr
    exact hfr)
   unfold uH
   rw [pt _ _ (by unfold wQ;simp)]
   simp only [Option.bind_some]
   have ho:q.Op∈wQ↔q.Op∈opsL:=Iff.rfl
   by_cases I4:¬ q.Op∈opsL
   ·rw [if_pos (by simp [ho,I4]),if_pos I4]
   have OM:q.Op∈opsL:=Classical.byContradiction I4
   rw [if_neg (by simp [ho,OM]),if_neg (fun k=>k OM)]
   unfold uG
   have hfb:decide (q.Field=([102,105,114,109,119,97,114,101]:ae))=wb q:=rfl
   rw [hfb,x9]
   by_cases c1:wb q=true∧q.Value≠zV
   ·rw [if_pos c1,if_pos (by simp [c1.1];exact c1.2)]
   rw [if_neg c1,if_neg (by simp;intro h;exact Classical.byContradiction fun k=>c1 ⟨h,k⟩)]
   unfold uF
   by_cases c2:wb q=true∧fB q.Version=false
   ·rw [if_pos c2,if_pos (by simp [c2.1,c2.2])]
   rw [if_neg c2,if_neg (by simp;intro h;cases hb:fB q.Version with | true=>rfl | false=>exact absurd ⟨h,hb⟩ c2)]
   by_cases c3:wb q=true
   ·rw [if_pos c3,if_pos (of_decide_eq_true c3)]
   rw [if_neg c3,if_neg (fun k=>c3 (decide_eq_true k))]
   have j4:∀ (c3:Bool) (c:Bool),c3=(decide (q.Op=[61,61])||decide (q.Op=[33,61]))→pa q c3 c=some (if c=true then 3 else if (q.Value.Kind≠3∧sn q.Field=false)∨(q.Value.Kind≠2∧q.Op≠[61,61]∧q.Op≠[33,61]) then 10 else 0):=by
    intro c3 c hc3
    subst hc3
    unfold pa
    cases c with
    | true=>rfl
    | false=>
      simp only [Bool.false_eq_true,if_false]
      have j6:∀ c,o9 q (decide (q.Op=[61,61])||decide (q.Op=[33,61])) c=some (if c=true∨(q.Value.Kind≠2∧q.Op≠[61,61]∧q.Op≠[33,61]) then 10 else 0):=by
       intro c
       unfold o9 uE
       cases c with
       | true=>simp [h7]
       | false=>
         simp only [Bool.false_eq_true,if_false,false_or]
         rw [h7]
         congr 1
         simp
      by_cases k:q.Value.Kind=3
      ·rw [if_neg (fun h=>h k),j6]
       congr 1
       simp [k]
      ·rw [if_pos k,wF _ _ (by omega),Zh]
       simp only [Option.bind_some]
       rw [j6]
       congr 1
       simp [k]
   by_cases c4:q.Version≠zX
   ·rw [if_pos c4,j4 _ _ rfl,if_pos (decide_eq_true c4),if_pos (.inl c4)]
   ·rw [if_neg c4,Al _ (by omega)]
    simp only [Option.bind_some]
    unfold r7
    rw [j4 _ _ rfl,j4 _ _ rfl]
    cases hr:kM q.Value with
    | false=>rw [if_pos (by simp),if_pos (by simp),if_pos (.inr (.inl rfl))]
    | true=>
      rw [if_neg (by simp)]
      by_cases c5:q.Value.Kind=0
      ·rw [if_pos (by simpa using c5),if_pos (.inr (.inr c5))]
      ·rw [if_neg (by simpa using c5),if_neg (show ¬ (q.Version≠zX∨(true=false∨q.Value.Kind=0)) from fun k=>k.elim c4 (fun k=>k.elim (fun h=>by cases h) c5))]
theorem LN (self:Query→Option Int) (q:Query) (hq:QB q):nO self q=if DI q=true then some 4 else if wa q=true then some 3 else if q.Kind≤2 then nL q else jK self q 0:=by
 have hk:=hq.kids
 have ho:(!yf q.Kind 1 5)=DI q:=by
  unfold yf xB DI;rw [Bool.eq_iff_iff];simp
 unfold nO
 rw [ho]
 cases xg:DI q with
 | true=>rfl
 | false=>
   simp only [Bool.false_eq_true,if_false]
   have hr:1≤q.Kind∧q.Kind≤5:=by unfold DI at xg;simp at xg;omega
   have tail:∀ c:Bool,nM self q c=if c=true then some 3 else if q.Kind≤2 then nL q else jK self q 0:=by
    intro c
    unfold nM
    cases c with
    | true=>rfl
    | false=>
      simp only [Bool.false_eq_true,if_false]
      split
      ·cases nL q<;>rfl
      ·rfl
   have j8:∀ c:Bool,pQ self q c=if (c||(decide (2 < q.Kind)&&decide (q.Field≠[])))=true then some 3 else if q.Kind≤2 then nL q else jK self q 0:=by
    intro c
    unfold pQ r8
    cases c with
    | true=>rw [if_pos rfl,tail];rfl
    | false=>rw [if_neg (by simp),tail,Bool.false_or]
   have j7:∀ c:Bool,jL self q c=if (c||((decide (q.Kind≠1)&&(decide (q.Op≠[])||(decide (q.Value≠zV)||decide (q.Version≠zX))))||(decide (2 < q.Kind)&&decide (q.Field≠[]))))=true then some 3 else if q.Kind≤2 then nL q else jK self q 0:=by
    intro c
    unfold jL
    cases c with
    | true=>rfl
    | false=>simp only [Bool.false_eq_true,if_false,Bool.false_or];rw [j8]
   have hc:bQ q.Kids (fun y0=>some (tu y0 q))=some (LL q):=dn _ _ _ (fun x _=>rfl) (by omega)
   have j3:∀ c2 c:Bool,nN self q c2 c=if c=true then some 3 else jL self q (c2&&LL q):=by
    intro c2 c
    unfold nN
    cases c with
    | true=>rfl
    | false=>
      simp only [Bool.false_eq_true,if_false]
      cases c2 with
      | true=>rw [if_pos rfl,hc];rfl
      | false=>rfl
   have all:pS self q (decide (q.Kind=4)||decide (q.Kind=5))=if ((decide (q.Kind≤2)&&decide ((0:Int) < q.Kids.length))||((decide (q.Kind=3)&&decide ((q.Kids.length:Int)≠1))||((decide (q.Kind=4)||decide (q.Kind=5))&&decide ((q.Kids.length:Int) < 2))))=true then some 3 else jL self q ((decide (q.Kind=4)||decide (q.Kind=5))&&LL q):=by
    unfold pS tx tw tv pR
    simp only [j3]
    cases decide (q.Kind≤2)&&decide ((0:Int) < q.Kids.length)<;>cases decide (q.Kind=3)&&decide ((q.Kids.length:Int)≠1)<;>simp
   rw [all,j7]
   have e:((decide (q.Kind≤2)&&decide ((0:Int) < q.Kids.length))||((decide (q.Kind=3)&&decide ((q.Kids.length:Int)≠1))||((decide (q.Kind=4)||decide (q.Kind=5))&&decide ((q.Kids.length:Int) < 2)))||(((decide (q.Kind=4)||decide (q.Kind=5))&&LL q)||((decide (q.Kind≠1)&&(decide (q.Op≠[])||(decide (q.Value≠zV)||decide (q.Version≠zX))))||(decide (2 < q.Kind)&&decide (q.Field≠[])))))=wa q:=by
    unfold wa
    have e1:decide ((q.Kids.length:Int) < 2)=decide (q.Kids.length < 2):=by rw [decide_eq_decide];omega
    have e2:decide ((0:Int) < q.Kids.length)=decide (q.Kids.length≠0):=by rw [decide_eq_decide];omega
    have e3:decide ((q.Kids.length:Int)≠1)=decide (q.Kids.length≠1):=by rw [decide_eq_decide];omega
    rw [e1,e2,e3]
    generalize (decide (q.Op≠[])||(decide (q.Value≠zV)||decide (q.Version≠zX)))=ob
    generalize decide (q.Field≠[])=fb
    generalize LL q=kb
    generalize decide (q.Kids.length < 2)=l2
    generalize decide (q.Kids.length≠0)=l0
    generalize decide (q.Kids.length≠1)=l1
    have Kb:q.Kind=1∨q.Kind=2∨q.Kind=3∨q.Kind=4∨q.Kind=5:=by omega
    rcases Kb with k | k | k | k | k<;>rw [k]<;>cases ob<;>cases fb<;>cases kb<;>cases l2<;>cases l0<;>cases l1<;>rfl
   rw [← e]
   split
   ·rename_i h;simp only [h,Bool.true_or,if_true]
   ·rename_i h
    have h:((decide (q.Kind≤2)&&decide ((0:Int) < q.Kids.length))||((decide (q.Kind=3)&&decide ((q.Kids.length:Int)≠1))||((decide (q.Kind=4)||decide (q.Kind=5))&&decide ((q.Kids.length:Int) < 2))))=false:=by simpa using h
    rw [h,Bool.false_or]
end Go.Beacon
set_option linter.unusedVariables false
set_option linter.unusedSimpArgs false
namespace Go.Beacon
open Go Go.Eng
def wG (s p:ae):Bool:=decide (p.length≤s.length)&&decide (s.drop (s.length - p.length)=p)
theorem y2 (s p:ae) (h:s.length≤1000000000):cV s p=some (wG s p):=by
 unfold cV de wG
 by_cases c:p.length≤s.length
 ·rw [if_pos (by omega),bf (by omega) (by omega),wD (by omega) (by omega) (by omega)]
  simp only [Option.bind_some,Option.some.injEq]
  rw [show ((s.length:Int) - p.length).toNat=s.length - p.length by omega,List.take_of_length_le (by simp)]
  simp [c]
 ·rw [if_neg (by omega)];simp [c]
def MU (s:ae):Bool:=decide (0≤Lib.index s [32,32])
theorem BV (s:ae) (h:s.length≤1000000):strings_Contains s [32,32]=some (MU s):=by
 unfold strings_Contains
 show (HF s [32,32]).bind _=_
 unfold HF
 rw [if_pos (by omega)];rfl
def Kc (s:ae):Bool:=Qw s&&(!preB s [32]&&(!wG s [32]&&!MU s))
theorem QF (s:ae) (h:s.length≤1000000):ve s=some (Kc s):=by
 unfold ve lL Kc
 rw [JZ s h]
 simp only [Option.bind_some]
 cases Qw s with
 | false=>rfl
 | true=>
   rw [if_pos rfl,wF _ _ (by omega)]
   simp only [Option.bind_some]
   cases preB s [32] with
   | true=>rfl
   | false=>
     simp only [Bool.not_false,if_true]
     unfold strings_HasSuffix
     rw [y2 _ _ (by omega)]
     simp only [Option.bind_some]
     cases wG s [32] with
     | true=>rfl
     | false=>simp only [Bool.not_false,if_true];rw [BV s h];rfl
theorem QG {α:Type} (p:α→Bool):∀ l:List α,l.dropWhile p=l↔∀ x,l.head? =some x→p x=false
 | []=>by simp
 | x :: r=>by
   rw [List.dropWhile_cons]
   cases hp:p x with
   | true=>
     simp only [if_true,List.head?_cons,Option.some.injEq]
     constructor
     ·intro h
      have h1:(r.dropWhile p).length≤r.length:=(List.dropWhile_suffix p).length_le
      rw [h,List.length_cons] at h1;omega
     ·intro h;have:=h x rfl;rw [hp] at this;cases this
   | false=>simp [hp]
theorem G6 (s:ae):Lib.trimS s [32]=s↔preB s [32]=false∧wG s [32]=false:=by
 have hl:(∀ x,s.head? =some x→([32]:ae).contains x=false)↔preB s [32]=false:=by
  unfold preB
  cases s with
  | nil=>simp
  | cons a r=>simp
 have hr:(∀ x,s.reverse.head? =some x→([32]:ae).contains x=false)↔wG s [32]=false:=by
  unfold wG
  rcases List.eq_nil_or_concat s with rfl | ⟨l,a,rfl⟩
  ·simp
  ·rw [List.concat_eq_append];simp
 unfold Lib.trimS Lib.trimLeftS Lib.trimRightS
 rw [← hl,← hr,← QG,← QG]
 constructor
 ·intro h
  have h1:(s.reverse.dropWhile (([32]:ae).contains ·)).reverse.length≤s.length:=by
   have:=(List.dropWhile_suffix (l:=s.reverse) (([32]:ae).contains ·)).length_le
   simpa using this
  have h2:=(List.dropWhile_suffix (l:=(s.reverse.dropWhile (([32]:ae).contains ·)).reverse) (([32]:ae).contains ·)).length_le
  have h3:(s.reverse.dropWhile (([32]:ae).contains ·))=s.reverse:=by
   refine (List.dropWhile_suffix (([32]:ae).contains ·)).eq_of_length ?_
   have h4:=congrArg List.length h
   simp only [List.length_reverse] at h1 h2 h4 ⊢
   omega
  rw [h3,List.reverse_reverse] at h
  exact ⟨h,h3⟩
 ·rintro ⟨h1,h2⟩
  rw [h2,List.reverse_reverse];exact h1
theorem Og (s:ae) (h:s.length≤100000):xD s=some (Lib.validD s&&(!preB s [32]&&(!wG s [32]&&!MU s))):=by
 unfold xD sM wv
 rw [if_pos (by omega)]
 simp only [Option.bind_some]
 cases Lib.validD s with
 | false=>rfl
 | true=>
   rw [if_pos rfl,J0 h (by simp) (by decide)]
   simp only [Option.bind_some]
   by_cases c:Lib.trimS s [32]=s
   ·rw [if_pos c.symm,BV s (by omega)]
    obtain ⟨c1,c2⟩:=(G6 s).1 c
    rw [c1,c2];rfl
   ·rw [if_neg (fun k=>c k.symm)]
    have:=fun k=>c ((G6 s).2 k)
    cases h1:preB s [32]<;>cases h2:wG s [32]<;>first | rfl | exact absurd ⟨h1,h2⟩ this
theorem Oh (s:ae) (h:s.length≤100000):Bu s=some (Kc s):=by
 unfold Bu EN
 have hlen:(mJ s).length=s.length:=by unfold mJ;simp
 have hf:=jh (mJ s) (fun x:Int=>mO s x) (fun v=>if (decide (v < 32)||decide (v=127))=true then some false else none) (Lib.validD s&&(!preB s [32]&&(!wG s [32]&&!MU s))) (by omega) (fun i v h0 h1 h2=>by
  show mO s i=_
  unfold mO xC
  rw [if_pos h1,h2]
  simp only [Option.bind_some]
  rw [bf (by omega) (by omega)]
  cases (decide (v < 32)||decide (v=127))<;>rfl) (by
  show mO s (mJ s).length=_
  unfold mO
  rw [if_neg (by omega),Og s h];rfl)
 rw [hf]
 unfold Kc Qw
 congr 1
 have key:∀ (l:ae) (e:Bool),nC (fun v:Int=>if (decide (v < 32)||decide (v=127))=true then some false else none) e (mJ l)=(!l.any DG&&e):=by
  intro l e
  unfold mJ
  induction l with
  | nil=>simp [nC]
  | cons c r ih=>
    simp only [List.map_cons,nC,List.any_cons]
    have hb:(decide ((c.toNat:Int) < 32)||decide ((c.toNat:Int)=127))=DG c:=by
     unfold DG;rw [Bool.eq_iff_iff];simp<;>omega
    rw [hb]
    cases DG c with
    | true=>rfl
    | false=>simp only [Bool.false_eq_true,if_false,Bool.false_or];exact ih
 rw [key,Bool.and_assoc]
theorem C4 (s:ae) (h:s.length≤1000000):pM s=some ((decide (1≤s.length)&&decide (s.length≤100))&&Kc s):=by
 unfold pM mh
 rw [LH]
 by_cases c:1≤s.length∧s.length≤100
 ·rw [if_pos (by simp;omega),QF s h];simp [c]
 ·rw [if_neg (by simp;omega)]
  rw [eq_comm];simp;intro h1 h2;omega
structure Cc (x:aE):Prop where
 tags:x.Device.kO.length≤1000
 props:x.ey.length≤1000
 tag:∀ t∈x.Device.kO,t.Name.length≤100000∧t.Value.length≤100000
 prop:∀ p∈x.ey,p.Name.length≤100000∧p.Value.Words.length≤100000
theorem Tc (x:aE) (hx:Cc x) (i:Int):lM x i=mn x i:=by
 unfold lM mn
 split
 ·cases h:idx x.ey i with
  | none=>rfl
  | some p=>
    have hb:=hx.prop p (gV h)
    simp only [Option.bind_some]
    have j3:∀ c,jI i p c=ml i p c:=by
     intro c
     unfold jI ml pN sa
     rw [E7 _ (by omega),Al _ (by omega)]
    rw [yZ (by omega),C2 (by omega)]
    simp only [Option.bind_some,j3]
 ·rfl
theorem Td (x:aE) (hx:Cc x) (i:Int):tj x i=yI x i:=zv (fun s=>Tc x hx s) i
theorem Te (x:aE) (hx:Cc x) (i:Int):lN x i=mo x i:=by
 unfold lN mo
 split
 ·cases h:idx x.Device.kO i with
  | none=>rfl
  | some t=>
    have hb:=hx.tag t (gV h)
    simp only [Option.bind_some]
    have j2:∀ c,jH i t c=mj i t c:=by
     intro c
     unfold jH mj oU
     cases c with
     | true=>rfl
     | false=>
       simp only [Bool.false_eq_true,if_false]
       rw [C4 _ (by omega),Oh _ (by omega)]
       simp only [Option.bind_some]
       by_cases e:t.Value=[]
       ·rw [if_pos e,if_pos (by simp [e])];rfl
       ·rw [if_neg e]
        have hp:1≤t.Value.length:=List.length_pos_iff.2 e
        have:(!((decide (1≤t.Value.length)&&decide (t.Value.length≤100))&&Kc t.Value))=(!Kc t.Value||decide ((100:Int) < t.Value.length)):=by
         cases Kc t.Value
         ·simp
         ·have e1:decide (1≤t.Value.length)=true:=decide_eq_true hp
          have e2:decide ((100:Int) < t.Value.length)=!decide (t.Value.length≤100):=by rw [Bool.eq_iff_iff];simp;omega
          rw [e1,e2];cases decide (t.Value.length≤100)<;>rfl
        rw [this]
    rw [vz,mE]
    simp only [Option.bind_some,j2]
 ·unfold tn vi
  rw [Td x hx]
theorem Kd (x:aE) (hx:Cc x):dE x=oV x:=by
 unfold dE oV iK kE
 have hl:tp x 0=yJ x 0:=zv (fun s=>Te x hx s) 0
 simp only [vz,mE,x9,hl]
def wH (x:aE):Prop:=∀ p∈x.ey,kM p.Value=true∧p.Value.Kind≠0
theorem Ke (x:aE) (hx:Cc x):Ok (tj x 0) (fun r=>r=0→wH x):=by
 unfold tj
 have hp:=hx.props
 refine Ok.LI x.ey.length (fun i=>∀ p∈x.ey.take i.toNat,kM p.Value=true∧p.Value.Kind≠0) (by simp) (fun i h0 h1 hi=>?_)
 have w1:cr (i+1)=i+1:=bf (by omega) (by omega)
 have w2:cr (i - 1)=i - 1:=bf (by omega) (by omega)
 unfold lM
 split
 ·rename_i nD
  refine Ok.idx h0 nD (fun p Wm hpm=>?_)
  have hb:=hx.prop p hpm
  rw [yZ (by omega)]
  simp only [Option.bind_some]
  have j3:∀ c,Ok (jI i p c) (Ii x.ey.length (fun i=>∀ p∈x.ey.take i.toNat,kM p.Value=true∧p.Value.Kind≠0) (fun r=>r=0→wH x) i):=by
   intro c
   unfold jI pN
   cases c with
   | true=>exact Ok.inr (Ok.ret (fun h=>by cases h))
   | false=>
     simp only [Bool.false_eq_true,if_false]
     rw [E7 _ (by omega)]
     simp only [Option.bind_some]
     split
     ·exact Ok.inr (Ok.ret (fun h=>by cases h))
     ·rename_i hg
      refine Ok.ret ⟨w1,nD,fun q hq=>?_⟩
      rw [take_succ h0 Wm,List.mem_append,List.mem_singleton] at hq
      rcases hq with hq | rfl
      ·exact hi q hq
      ·simpa using hg
  split
  ·exact Ok.inr (Ok.ret (fun h=>by cases h))
  ·split
   ·rw [w2]
    exact Ok.idx (by omega) (by omega) (fun q _ _=>j3 _)
   ·exact j3 _
 ·refine Ok.inr (Ok.ret (fun _=>?_))
  have:x.ey.take i.toNat=x.ey:=List.take_of_length_le (by omega)
  rw [this] at hi
  exact hi
theorem E9 (x:aE) (hx:Cc x):Ok (dE x) (fun r=>r=0→wH x):=by
 have ht:=hx.tags
 have Y6:Ok (tp x 0) (fun r=>r=0→wH x):=by
  unfold tp
  refine Ok.range x.Device.kO.length (fun i h0 h1=>?_)
  have w1:cr (i+1)=i+1:=bf (by omega) (by omega)
  have w2:cr (i - 1)=i - 1:=bf (by omega) (by omega)
  unfold lN
  split
  ·rename_i nD
   refine Ok.idx h0 nD (fun t TX RS=>?_)
   have hb:=hx.tag t RS
   rw [vz]
   simp only [Option.bind_some]
   have j2:∀ c,Ok (jH i t c) (Rng x.Device.kO.length (fun r=>r=0→wH x) i):=by
    intro c
    unfold jH
    cases c with
    | true=>exact Ok.inr (Ok.ret (fun h=>by cases h))
    | false=>
      simp only [Bool.false_eq_true,if_false]
      rw [C4 _ (by omega)]
      simp only [Option.bind_some]
      split
      ·exact Ok.inr (Ok.ret (fun h=>by cases h))
      ·exact Ok.ret ⟨w1,nD⟩
   split
   ·exact Ok.inr (Ok.ret (fun h=>by cases h))
   ·split
    ·rw [w2]
     exact Ok.idx (by omega) (by omega) (fun q _ _=>j2 _)
    ·exact j2 _
  ·refine Ok.inr ?_
   unfold tn
   split
   ·exact Ok.ret (fun h=>by cases h)
   ·exact Ke x hx
 have j1:∀ c,Ok (iK x c) (fun r=>r=0→wH x):=by
  intro c
  unfold iK
  split
  ·exact Ok.ret (fun h=>by cases h)
  ·split
   ·exact Ok.ret (fun h=>by cases h)
   ·split
    ·exact Ok.ret (fun h=>by cases h)
    ·exact Y6
 unfold dE
 simp only [vz,Option.bind_some]
 split
 ·exact j1 _
 ·split
  ·exact j1 _
  ·split<;>exact j1 _
theorem Tf (l:List aE) (hl:l.length≤100) (hx:∀ x∈l,Cc x):gL l=pc l∧Ok (gL l) (fun r=>r=0→∀ x∈l,dE x=some 0):=by
 constructor
 ·unfold gL pc
  have:rR l 0=xY l 0:=zv (fun i=>by
   show gK l i=kW l i
   unfold gK kW
   split
   ·cases h:idx l i with
    | none=>rfl
    | some x=>simp only [Option.bind_some,Kd x (hx x (gV h))];rfl
   ·rfl) 0
  rw [this]
 ·unfold gL
  rw [if_neg (by omega)]
  unfold rR
  refine Ok.LI l.length (fun i=>∀ x∈l.take i.toNat,dE x=some 0) (by simp) (fun i h0 h1 hi=>?_)
  have w1:cr (i+1)=i+1:=bf (by omega) (by omega)
  have w2:cr (i - 1)=i - 1:=bf (by omega) (by omega)
  unfold gK
  split
  ·rename_i nD
   refine Ok.idx h0 nD (fun x hxi U6=>?_)
   obtain ⟨r,hr,_⟩:=E9 x (hx x U6)
   rw [hr]
   simp only [Option.bind_some]
   split
   ·exact Ok.inr (Ok.ret (fun h=>absurd h (by assumption)))
   ·rename_i XO
    have XO:r=0:=Classical.byContradiction XO
    subst XO
    have j1:∀ c,Ok (jd i c) (Ii l.length (fun i=>∀ x∈l.take i.toNat,dE x=some 0) (fun r=>r=0→∀ x∈l,dE x=some 0) i):=by
     intro c
     unfold jd
     cases c with
     | true=>exact Ok.inr (Ok.ret (fun h=>by cases h))
     | false=>
       simp only [Bool.false_eq_true,if_false]
       refine Ok.ret ⟨w1,nD,fun q hq=>?_⟩
       rw [take_succ h0 hxi,List.mem_append,List.mem_singleton] at hq
       rcases hq with hq | rfl
       ·exact hi q hq
       ·exact hr
    split
    ·rw [w2]
     exact Ok.idx (by omega) (by omega) (fun q _ _=>j1 _)
    ·exact j1 _
  ·refine Ok.inr (Ok.ret (fun _=>?_))
   have:l.take i.toNat=l:=List.take_of_length_le (by omega)
   rw [this] at hi
   exact hi
end Go.Beacon
set_option linter.unusedVariables false
set_option linter.unusedSimpArgs false
namespace Go.Beacon
open Go Go.Eng
theorem wc (c b:UInt8) (r:ae):cd c (b :: r)=if b=c then [] :: cd c r else match cd c r with
 | []=>[[b]]
 | h :: t=>(b :: h) :: t:=rfl
theorem AR (c:UInt8):∀ a b:ae,cd c (a++c :: b)=cd c a++cd c b
 | [],b=>by simp [cd]
 | x :: a,b=>by
   have ih:=AR c a b
   rw [List.cons_append,wc c x (a++c :: b),wc c x a]
   by_cases hx:x=c
   ·rw [if_pos hx,if_pos hx,ih,List.cons_append]
   ·rw [if_neg hx,if_neg hx,ih]
    cases e:cd c a with
    | nil=>exact absurd e (zt c a)
    | cons h t=>rfl
theorem we (c x:UInt8) (hx:x≠c):∀ a:ae,∃ l e,cd c a=l++[e]∧cd c (a++[x])=l++[e++[x]]
 | []=>⟨[],[],by simp [cd],by simp [cd,hx]⟩
 | y :: a=>by
   obtain ⟨l,e,h1,h2⟩:=we c x hx a
   rw [List.cons_append,wc c y (a++[x]),wc c y a]
   by_cases hy:y=c
   ·rw [if_pos hy,if_pos hy,h1,h2]
    exact ⟨[] :: l,e,rfl,rfl⟩
   ·rw [if_neg hy,if_neg hy,h1,h2]
    cases l with
    | nil=>exact ⟨[],y :: e,rfl,rfl⟩
    | cons z l=>exact ⟨(y :: z) :: l,e,rfl,rfl⟩
def F7 (s:ae):Bool:=decide ((cd 46 s).length≤5)&&(if (cd 46 s).getLast? =some [42] then (cd 46 s).dropLast.all qU else (cd 46 s).all qU)
theorem zw (a:ae) (x c:UInt8):wG (a++[x]) [c]=decide (x=c):=by
 unfold wG
 rw [List.length_append,List.length_singleton,List.length_singleton,show a.length+1 - 1=a.length by omega,List.drop_left]
 simp
theorem QH (c:UInt8):wG [] [c]=false:=by simp [wG]
theorem Fa (s:ae):s=[]∨∃ a x,s=a++[x]:=by
 cases h:s.reverse with
 | nil=>exact .inl (by simpa using h)
 | cons x r=>exact .inr ⟨r.reverse,x,by have:=congrArg List.reverse h;simpa using this⟩
theorem Oi (a:ae):qU (a++[42])=false:=by
 cases a with
 | nil=>decide
 | cons c r=>
   rw [List.cons_append,xa]
   have:(c :: (r++[42])).all (fun c=>Rx c.toNat)=false:=by
    rw [List.all_eq_false];exact ⟨42,by simp,by decide⟩
   rw [this,Bool.and_false]
theorem MW (s:ae) (c:UInt8) (h:s.length≤1000000000):strings_CutSuffix s [c]=some (if wG s [c]=true then (s.take (s.length - 1),true) else (s,false)):=by
 unfold strings_CutSuffix fy
 rw [y2 s [c] h]
 simp only [Option.bind_some]
 cases e:wG s [c] with
 | false=>simp
 | true=>
   have hl:1≤s.length:=by
    unfold wG at e
    simp at e;exact e.1
   rw [if_neg (by simp),bf (by simp;omega) (by simp;omega),wD (by omega) (by simp;omega) (by simp;omega)]
   simp only [Option.bind_some,if_true]
   have e0:((s.length:Int) - (([c]:ae).length:Int)).toNat - Int.toNat 0=s.length - 1:=by simp
   rw [e0];rfl
theorem LO {s:ae} {c:UInt8} (h:s.length≤1000000000) (e:wG s [c]=true):strings_CutSuffix s [c]=some (s.take (s.length - 1),true):=by rw [MW s c h,if_pos e]
theorem Il {s:ae} {c:UInt8} (h:s.length≤1000000000) (e:wG s [c]=false):strings_CutSuffix s [c]=some (s,false):=by rw [MW s c h,if_neg (by simp [e])]
theorem G7 (s:ae) (k:Nat) (hk:k≤1000) (h:s.length≤1000000000):mH s (k:Int)=some (wE k s):=by
 unfold mH
 rw [yX k hk k s 0 (by omega) (by omega) h]
theorem vA (s:ae) (h:s.length≤1000000000):fm s=some (wE 5 s):=by
 unfold fm
 rw [show (5:Int)=((5:Nat):Int) from rfl,G7 s 5 (by omega) h];rfl
theorem Kf (s:ae) (h:s.length≤100000000):o5 s=some (F7 s):=by
 unfold o5 nj
 rcases Fa s with rfl | ⟨a,x,rfl⟩
 ·rw [Il (by simp) (QH 42)]
  simp only [Option.bind_some]
  rw [if_pos (by simp),vA _ (by simp)]
  decide
 by_cases hx:x=42
 ·subst hx
  rw [LO (by omega) (by rw [zw];simp)]
  simp only [Option.bind_some]
  rw [if_neg (by simp)]
  have ht:(a++[(42:UInt8)]).take ((a++[(42:UInt8)]).length - 1)=a:=by simp
  rw [ht]
  by_cases ha:a=[]
  ·subst ha;rw [if_pos rfl];decide
  rw [if_neg ha]
  rcases Fa a with rfl | ⟨g,y,rfl⟩
  ·exact absurd rfl ha
  have hg:g.length≤1000000000:=by simp at h;omega
  have hgy:(g++[y]).length≤1000000000:=by simp at h ⊢;omega
  by_cases hy:y=46
  ·subst hy
   rw [LO hgy (by rw [zw];simp)]
   simp only [Option.bind_some]
   rw [if_pos trivial]
   have ht:(g++[(46:UInt8)]).take ((g++[(46:UInt8)]).length - 1)=g:=by simp
   rw [ht,show (4:Int)=((4:Nat):Int) from rfl,G7 g 4 (by omega) hg]
   simp only [Option.bind_some]
   have hs:cd 46 (g++[46]++[42])=cd 46 g++[[42]]:=by
    rw [List.append_assoc];exact AR 46 g [42]
   unfold F7 wE
   rw [hs]
   simp only [List.length_append,List.length_singleton,List.getLast?_append,List.getLast?_singleton,Option.some_or,if_true,List.dropLast_concat]
   congr 1
   rw [Bool.eq_iff_iff];simp
  ·rw [Il hgy (by rw [zw];simpa using hy)]
   simp only [Option.bind_some]
   rw [if_neg (by simp)]
   obtain ⟨l,e,h1,h2⟩:=we 46 y hy g
   obtain ⟨l',e',h3,h4⟩:=we 46 42 (by decide) (g++[y])
   rw [h2] at h3
   obtain ⟨rfl,h5⟩:=List.append_inj' h3 rfl
   obtain rfl:=List.singleton_inj.1 h5
   unfold F7
   rw [h4]
   simp only [List.getLast?_append,List.getLast?_singleton,Option.some_or,List.all_append,List.all_cons,List.all_nil,Bool.and_true]
   rw [Oi,if_neg (by
    intro k
    have:=congrArg List.length (Option.some.inj k)
    simp at this)]
   simp
 ·rw [Il (by omega) (by rw [zw];simpa using hx)]
  simp only [Option.bind_some]
  rw [if_pos (by simp),vA _ (by omega)]
  simp only [Option.bind_some]
  unfold F7 wE
  have hl:(cd 46 (a++[x])).getLast? ≠some [42]:=by
   by_cases hp:x=46
   ·subst hp
    rw [show a++[(46:UInt8)]=a++46 :: [] from rfl,AR]
    simp [cd]
   ·obtain ⟨l,e,h1,h2⟩:=we 46 x hp a
    rw [h2]
    simp only [List.getLast?_append,List.getLast?_singleton,Option.some_or,ne_eq,Option.some.injEq]
    intro he
    have:=congrArg List.getLast? he
    simp at this
    exact hx this
  rw [if_neg hl]
theorem Kg {α:Type} (l:List α) (x:α):idx (l++[x]) (cr (((l++[x]).length:Int) - 1))=if ((l++[x]).length:Int)≤9223372036854775807 then some x else idx (l++[x]) (cr (((l++[x]).length:Int) - 1)):=by
 split
 ·rw [bf (by simp) (by omega)]
  unfold idx
  rw [if_pos (by simp)]
  rw [List.length_append,List.length_singleton,show (((l.length+1:Nat):Int) - 1).toNat=l.length by omega]
  simp
 ·rfl
theorem C5 (s:ae) (h:s.length≤100000000):oT s false=some (F7 s):=by
 unfold oT
 rw [xb (by omega)]
 simp only [Option.bind_some]
 have hlen:=tD 46 s
 have sE:=zt 46 s
 have j2:∀ l:List ae,l.length≤1000000000→jJ s l=some (decide ((cd 46 s).length≤5)&&l.all qU):=by
  intro l hl
  unfold jJ nI
  rw [xb (by omega)]
  simp only [Option.bind_some]
  by_cases c:(cd 46 s).length≤5
  ·rw [if_pos (by omega)]
   rw [show aM l (fun y0=>iL y0)=some (l.any (fun y=>!qU y)) from dn l _ _ (fun x _=>by show iL x=_;unfold iL;rw [mE];rfl) (by omega)]
   simp only [Option.bind_some,Option.some.injEq]
   rw [decide_eq_true c,Bool.true_and,List.not_any_eq_all_not]
   congr 1;funext x;simp
  ·rw [if_neg (by omega),decide_eq_false c];simp
 rcases List.eq_nil_or_concat (cd 46 s) with e | ⟨l,x,e⟩
 ·exact absurd e sE
 rw [List.concat_eq_append] at e
 rw [if_pos (by simp)]
 have hx:idx (cd 46 s) (cr (((cd 46 s).length:Int) - 1))=some x:=by rw [e,Kg,if_pos (by rw [← e];omega)]
 rw [hx]
 simp only [Option.bind_some]
 unfold nJ F7
 rw [hx]
 simp only [Option.bind_some]
 have YI:l.length≤1000000000:=by
  have:=congrArg List.length e
  simp at this;omega
 have hg:(cd 46 s).getLast? =some x:=by rw [e];simp
 have hd:(cd 46 s).dropLast=l:=by rw [e];simp
 rw [hg,hd]
 have ya:1≤(cd 46 s).length:=by rw [e];simp
 by_cases c:x=[42]
 ·rw [if_pos (by simpa using c),if_pos (by rw [c]),bf (by omega) (by omega),wD (by omega) (by omega) (by omega)]
  simp only [Option.bind_some]
  have ht:((cd 46 s).drop (0:Int).toNat).take ((((cd 46 s).length:Int) - 1).toNat - (0:Int).toNat)=l:=by
   rw [e];simp
  rw [ht,j2 l YI]
 ·rw [if_neg (by simpa using c),if_neg (fun k=>c (Option.some.inj k)),mE]
  simp only [Option.bind_some]
  cases hk:qU x with
  | false=>rw [if_pos (by simp),e];simp [hk]
  | true=>rw [if_neg (by simp),j2 _ (by omega)]
def QI (a b:ae):Bool:=decide (a=b)||(wG a [42]&&preB b (a.take (a.length - 1)))
theorem G8 (a b:ae) (ha:a.length≤1000000000) (hb:b.length≤1000000000):nG a b=some (QI a b):=by
 unfold nG jO QI
 cases e:wG a [42] with
 | false=>
   rw [Il ha e]
   simp only [Option.bind_some]
   by_cases c:a=b
   ·rw [if_pos c,decide_eq_true c];rfl
   rw [if_neg c,decide_eq_false c,if_neg (by simp)]
   rfl
 | true=>
   rw [LO ha e]
   simp only [Option.bind_some]
   by_cases c:a=b
   ·rw [if_pos c,decide_eq_true c];rfl
   rw [if_neg c,decide_eq_false c,if_pos trivial]
   rw [wF b _ hb];simp
theorem F8 (a b:ae):zp a b=nG a b:=rfl
def vB (QJ:List ae) (w:ae):Bool:=QJ.any (fun h=>QI h w)
def uK (QJ want:List ae):Bool:=want.all (vB QJ)
def DJ (l:List ae):Prop:=l.length≤1000000∧∀ x∈l,x.length≤1000000
theorem AS (l:List ae) (w:ae) (hl:DJ l) (hw:w.length≤1000000):kr l w=some (vB l w):=by
 unfold kr
 rw [show aM l (fun y0=>jc y0 w)=some (l.any (fun h=>QI h w)) from dn l _ _ (fun x hx=>by
  show jc x w=_
  unfold jc
  rw [G8 x w (by have:=hl.2 x hx;omega) (by omega)];rfl) (by have:=hl.1;omega)]
 rfl
theorem F9 (l m:List ae) (hl:DJ l) (hm:DJ m):lv l m=some (uK l m):=by
 unfold lv
 rw [show aM m (fun y0=>gp y0 l)=some (m.any (fun w=>!vB l w)) from dn m _ _ (fun x hx=>by
  show gp x l=_
  unfold gp
  rw [AS l x hl (hm.2 x hx)];rfl) (by have:=hm.1;omega)]
 simp only [Option.bind_some,Option.some.injEq]
 rw [List.not_any_eq_all_not]
 unfold uK
 congr 1;funext x;simp
theorem BW (l m:List ae) (hl:DJ l) (hm:DJ m):qK l m=some (uK l m):=by
 unfold qK
 rw [show aM m (fun y0=>mr y0 l)=some (m.any (fun w=>!vB l w)) from dn m _ _ (fun x hx=>by
  show mr x l=_
  unfold mr
  rw [show aM l (fun y0=>jg y0 x)=some (l.any (fun h=>QI h x)) from dn l _ _ (fun z hz=>by
   show jg z x=_
   unfold jg
   rw [F8,G8 z x (by have:=hl.2 z hz;omega) (by have:=hm.2 x hx;omega)];rfl) (by have:=hl.1;omega)]
  rfl) (by have:=hm.1;omega)]
 simp only [Option.bind_some,Option.some.injEq]
 rw [List.not_any_eq_all_not]
 unfold uK
 congr 1;funext x;simp
theorem y5 (l:List ae) (hl:DJ l):jN l=qz l∧∃ r,qz l=some r:=by
 unfold jN qz vW
 have hb:∀ i,gX l i=kC l false i:=by
  intro i
  unfold gX kC jt kB
  by_cases c:i < (l.length:Int)
  ·rw [if_pos c,if_pos c]
   cases hx:idx l i with
   | none=>rfl
   | some x=>
     simp only [Option.bind_some]
     have:=hl.2 x (gV hx)
     rw [Kf x (by omega),C5 x (by omega)]
  ·rw [if_neg c,if_neg c]
 have YJ:uA l 0=rW l false 0:=zv (fun i=>hb i) 0
 have abJ:Ok (rW l false 0) (fun _=>True):=by
  unfold rW
  refine Ok.range l.length (fun i h0 h1=>?_)
  have w1:cr (i+1)=i+1:=bf (by omega) (by have:=hl.1;omega)
  unfold kC
  split
  ·rename_i hi
   refine Ok.idx h0 (by simpa using hi) (fun x hx hm=>?_)
   have:=hl.2 x hm
   rw [C5 x (by omega)]
   simp only [Option.bind_some]
   have j1:∀ c,Ok (kB i c) (Rng l.length (fun _=>True) i):=by
    intro c
    unfold kB
    split
    ·exact Ok.inr (Ok.ret trivial)
    ·rw [w1];exact Ok.ret ⟨rfl,by simpa using hi⟩
   split
   ·exact Ok.inr (Ok.ret trivial)
   ·split
    ·rw [bf (by omega) (by have:=hl.1;omega)]
     exact Ok.idx (by omega) (by omega) (fun y _ _=>j1 _)
    ·exact j1 _
  ·exact Ok.inr (Ok.ret trivial)
 obtain ⟨r,hr,_⟩:=abJ
 rw [YJ,hr]
 refine ⟨rfl,?_⟩
 split
 ·exact ⟨_,rfl⟩
 ·split
  ·exact ⟨_,rfl⟩
  ·exact ⟨_,rfl⟩
end Go.Beacon
set_option linter.unusedVariables false
set_option linter.unusedSimpArgs false
namespace Go.Beacon
open Go Go.Eng
theorem LP {A:Type} {f g:Int→Option (Int⊕A)} (N:Nat) (Inv:Int→Prop)
 (h:∀ i:Int,0≤i→i≤N→Inv i→f i=g i∧∀ j,f i=some (.inl j)→j=i+1∧i < N∧Inv j) (h0:Inv 0):Eng.iter f 0=Eng.iter g 0:=by
 have key:∀ (k:Nat) (i:Int),0≤i→i≤N→i+k=N+1→Inv i→Eng.iter f i=Eng.iter g i:=by
  intro k
  induction k with
  | zero=>intro i hi hN hk hv;omega
  | succ k ih=>
    intro i hi hN hk hv
    obtain ⟨e,hn⟩:=h i hi hN hv
    rw [iter_eq (f:=f),iter_eq (f:=g),← e]
    cases hf:f i with
    | none=>rfl
    | some r=>
      cases r with
      | inr a=>rfl
      | inl j=>
        obtain ⟨rfl,h1,h2⟩:=hn j hf
        simp only [Option.bind_some,dD]
        exact ih (i+1) (by omega) (by omega) (by omega) h2
 exact key (N+1) 0 (by omega) (by omega) (by omega) h0
theorem CF {α:Type} (p:α→Bool):∀ (xs pre:List α) (x:α),xs.find? p=some x→idx (pre++xs) (iF p xs pre.length)=some x
 | [],_,_,h=>by cases h
 | y :: r,pre,x,h=>by
   rw [List.find?_cons] at h
   unfold iF
   cases hp:p y with
   | true=>
     rw [hp] at h
     obtain rfl:=Option.some.inj h
     rw [if_pos rfl]
     unfold idx
     rw [if_pos (by omega)];simp
   | false=>
     rw [hp] at h
     rw [if_neg (by simp)]
     have:=CF p r (pre++[y]) x h
     rw [List.append_assoc,List.length_append,List.length_singleton] at this
     exact_mod_cast this
theorem Fb:∀ {l L:List ae},l.Nodup→(∀ x∈l,x∈L)→l.length≤L.length
 | [],L,_,_=>Nat.zero_le _
 | x :: l,L,h,hs=>by
   have h1:=List.nodup_cons.1 h
   have hx:=hs x (by simp)
   have ih:=Fb (l:=l) (L:=L.erase x) h1.2 (fun y hy=>by
    have sE:y≠x:=fun e=>h1.1 (e▸hy)
    exact (List.mem_erase_of_ne sE).2 (hs y (List.mem_cons_of_mem _ hy)))
   rw [List.length_erase_of_mem hx] at ih
   have:0 < L.length:=List.length_pos_of_mem hx
   simp only [List.length_cons]
   omega
def VT (T:List ar) (k:ae):Option ar:=T.find? (fun t=>decide (t.Key=k))
def up (T:List ar) (k:ae):Option ae:=(VT T k).map (·.fi)
def walk (T:List ar):Nat→ae→List ae
 | 0,_=>[]
 | n+1,q=>match up T q with
   | none=>[]
   | some r=>q :: walk T n r
structure y7 (T:List ar):Prop where
 key:∀ t∈T,t.Key≠[]
 nd:T.Pairwise (fun a b=>a.Key≠b.Key)
 cl:∀ t∈T,t.fi≠[]→∃ u∈T,u.Key=t.fi
theorem Kh {T:List ar} {k:ae} {t:ar} (h:VT T k=some t):t∈T∧t.Key=k:=
 ⟨List.mem_of_find?_eq_some h,by simpa using List.find?_some h⟩
theorem Fc {T:List ar} {k:ae}:VT T k=none↔∀ t∈T,t.Key≠k:=by
 unfold VT;rw [List.find?_eq_none];simp
theorem Tg {T:List ar} {k:ae} (h:∃ t∈T,t.Key=k):∃ t,VT T k=some t:=by
 cases e:VT T k with
 | some t=>exact ⟨t,rfl⟩
 | none=>obtain ⟨t,ht,hk⟩:=h;exact absurd hk (Fc.1 e t ht)
theorem DW {T:List ar} {k r:ae} (h:up T k=some r):∃ t∈T,t.Key=k∧t.fi=r:=by
 unfold up at h
 obtain ⟨t,h1,h2⟩:=Option.map_eq_some_iff.1 h
 exact ⟨t,(Kh h1).1,(Kh h1).2,h2⟩
theorem CG {T:List ar} {k:ae} (h:∃ t∈T,t.Key=k):∃ r,up T k=some r:=by
 obtain ⟨t,ht⟩:=Tg h
 exact ⟨t.fi,by unfold up;rw [ht];rfl⟩
theorem QK {T:List ar} (h:y7 T):up T []=none:=by
 unfold up
 rw [Fc.2 (fun t ht=>h.key t ht)];rfl
theorem YK {T:List ar} (h:y7 T) {q r:ae} (e:up T q=some r):r=[]∨∃ r',up T r=some r':=by
 obtain ⟨t,ht,_,rfl⟩:=DW e
 by_cases c:t.fi=[]
 ·exact .inl c
 ·exact .inr (CG (h.cl t ht c))
theorem nU {T:List ar} {q:ae} (h:up T q=none):∀ n,walk T n q=[]
 | 0=>rfl
 | n+1=>by unfold walk;rw [h]
theorem kX {T:List ar} {q r:ae} (h:up T q=some r) (n:Nat):walk T (n+1) q=q :: walk T n r:=by
 rw [walk,h]
theorem Ki {T:List ar}:∀ (n:Nat) (q:ae),(walk T n q).length≤n
 | 0,_=>Nat.le_refl _
 | n+1,q=>by
   cases e:up T q with
   | none=>rw [nU e];exact Nat.zero_le _
   | some r=>rw [kX e];exact Nat.succ_le_succ (Ki n r)
theorem G9 {T:List ar}:∀ (n:Nat) (q x:ae),x∈walk T n q→x∈walk T (n+1) q
 | 0,_,_,h=>by cases h
 | n+1,q,x,h=>by
   cases e:up T q with
   | none=>rw [nU e] at h;cases h
   | some r=>
     rw [kX e] at h ⊢
     rcases List.mem_cons.1 h with rfl | h
     ·exact List.mem_cons_self
     ·exact List.mem_cons_of_mem _ (G9 n r x h)
theorem Fe {T:List ar} (n:Nat) (q x:ae) (h:x∈(walk T n q).tail):x∈(walk T (n+1) q).tail:=by
 cases n with
 | zero=>cases h
 | succ n=>
   cases e:up T q with
   | none=>rw [nU e] at h;cases h
   | some r=>
     rw [kX e] at h ⊢
     exact G9 n r x h
theorem Ha {T:List ar}:∀ (n:Nat) (q:ae),¬ (walk T n q).Nodup→∃ t∈T,t.Key∈(walk T n t.Key).tail
 | 0,_,h=>absurd List.nodup_nil h
 | n+1,q,h=>by
   cases e:up T q with
   | none=>rw [nU e] at h;exact absurd List.nodup_nil h
   | some r=>
     rw [kX e,List.nodup_cons] at h
     by_cases c:q∈walk T n r
     ·obtain ⟨t,ht,rfl,_⟩:=DW e
      exact ⟨t,ht,by rw [kX e];exact c⟩
     ·obtain ⟨t,ht,h2⟩:=Ha n r (fun k=>h ⟨c,k⟩)
      exact ⟨t,ht,Fe n _ _ h2⟩
theorem Oj {T:List ar} {n:Nat} {q:ae} (h:q∈(walk T n q).tail):¬ (walk T n q).Nodup:=by
 cases n with
 | zero=>cases h
 | succ n=>
   cases e:up T q with
   | none=>rw [nU e] at h;cases h
   | some r=>
     rw [kX e] at h ⊢
     rw [List.nodup_cons]
     exact fun k=>k.1 h
theorem o0 (o:bb) (k:ae) (hl:o.al.length≤1000000):fp o k=some (iF (fun t=>decide (t.Key=k)) o.al 0):=by
 unfold fp
 rw [show fE o.al (fun y0=>some (tt y0 k))=some (iF (fun t=>decide (t.Key=k)) o.al 0) from tB o.al _ _ (fun x _=>rfl) (by omega)]
 rfl
theorem mV (T:List ar) (k:ae):iF (fun t=>decide (t.Key=k)) T 0 < 0↔up T k=none:=by
 have h:=zr (fun t:ar=>decide (t.Key=k)) T 0 (by omega)
 have h2:up T k=none↔¬ (T.any (fun t=>decide (t.Key=k))=true):=by
  unfold up
  rw [Option.map_eq_none_iff,Fc];simp
 rw [h2,← h];omega
theorem LQ {T:List ar} {k:ae} {t:ar} (h:VT T k=some t):idx T (iF (fun t=>decide (t.Key=k)) T 0)=some t:=by
 have:=CF (fun t:ar=>decide (t.Key=k)) T [] t h
 simpa using this
theorem Hb {o:bb} (hl:o.al.length≤1000000) {q r:ae} (e:up o.al q=some r) {β:Type} (f:ae→Option β):((fp o q).bind fun v12=>(idx o.al v12).bind fun mb=>f mb.fi)=f r:=by
 rw [o0 o q hl]
 simp only [Option.bind_some]
 unfold up at e
 obtain ⟨t,h1,h2⟩:=Option.map_eq_some_iff.1 e
 rw [LQ h1]
 simp only [Option.bind_some,h2]
section
variable {o:bb} (h:y7 o.al) (hl:o.al.length≤1000000)
theorem MX {l:List ae} (hn:l.Nodup) (hm:∀ x∈l,∃ t∈o.al,t.Key=x):l.length≤o.al.length:=by
 have:=Fb (L:=o.al.map (·.Key)) hn (fun x hx=>by
  obtain ⟨t,ht,hk⟩:=hm x hx
  exact List.mem_map.2 ⟨t,ht,hk⟩)
 simpa using this
include h hl
theorem Up:∀ (m:Nat) (q:ae) (l:List ae),l.Nodup→(∀ x∈l,∃ t∈o.al,t.Key=x)→l.length+m=o.al.length+1→(q=[]∨∃ r,up o.al q=some r)→
 nu o q l=some (if (l++walk o.al m q).Nodup then some (l++walk o.al m q) else none)∧tV o q l=some (if (l++walk o.al m q).Nodup then l++walk o.al m q else [])
 | 0,q,l,hn,hm,hlen,hq=>by
   have:=MX hn hm
   omega
 | m+1,q,l,hn,hm,hlen,hq=>by
   have YI:l.length≤1000000:=by have:=MX hn hm;omega
   by_cases c:q=[]
   ·subst c
    rw [nU (QK h),List.append_nil,if_pos hn,if_pos hn]
    unfold nu tV
    constructor
    ·rw [iter_eq,jm,if_neg (by simp),cC]
    ·rw [iter_eq,oR,if_neg (by simp),cC]
   ·obtain ⟨r,hr⟩:∃ r,up o.al q=some r:=hq.resolve_left c
    rw [kX hr]
    by_cases c2:q∈l
    ·have Xl:¬ (l++q :: walk o.al m r).Nodup:=fun k=>(List.nodup_append.1 k).2.2 q c2 q (by simp) rfl
     rw [if_neg Xl,if_neg Xl]
     unfold nu tV
     constructor
     ·rw [iter_eq,jm,if_pos c,pt l q (by omega)]
      simp only [Option.bind_some]
      rw [if_pos (by simpa using c2),cC]
     ·rw [iter_eq,oR,if_pos c,pt l q (by omega)]
      simp only [Option.bind_some]
      rw [if_pos (by simpa using c2),cC]
    ·obtain ⟨t,ht,hk,_⟩:=DW hr
     have Pt:(l++[q]).Nodup:=by
      rw [List.nodup_append]
      exact ⟨hn,by simp,fun a ha b hb=>by rw [List.mem_singleton.1 hb];exact fun e=>c2 (e▸ha)⟩
     obtain ⟨i1,i2⟩:=Up m r (l++[q]) Pt (fun x hx=>by
      rcases List.mem_append.1 hx with k | k
      ·exact hm x k
      ·rw [List.mem_singleton.1 k];exact ⟨t,ht,hk⟩) (by simp;omega) (YK h hr)
     rw [List.append_assoc,List.singleton_append] at i1 i2
     rw [← i1,← i2]
     unfold nu tV
     constructor
     ·rw [iter_eq,jm,if_pos c,pt l q (by omega)]
      simp only [Option.bind_some]
      rw [if_neg (by simpa using c2),nV (by simp;omega)]
      simp only [Option.bind_some]
      have hs:((fp o q).bind fun v12=>(idx o.al v12).bind fun mb=>(some (Sum.inl (mb.fi,l++[q])):Option ((ae×(List ae))⊕(Option (List ae)))))=some (.inl (r,l++[q])):=Hb hl hr (fun p=>some (Sum.inl (p,l++[q])))
      rw [hs];rfl
     ·rw [iter_eq,oR,if_pos c,pt l q (by omega)]
      simp only [Option.bind_some]
      rw [if_neg (by simpa using c2),nV (by simp;omega)]
      simp only [Option.bind_some]
      have hs:((fp o q).bind fun v12=>(idx o.al v12).bind fun mb=>(some (Sum.inl (mb.fi,l++[q])):Option ((ae×(List ae))⊕(List ae))))=some (.inl (r,l++[q])):=Hb hl hr (fun p=>some (Sum.inl (p,l++[q])))
      rw [hs];rfl
abbrev wk (o:bb) (k:ae):List ae:=walk o.al (o.al.length+1) k
theorem xe {k:ae} (hk:k=[]∨∃ r,up o.al k=some r):rU o k=some (if (wk o k).Nodup then some (wk o k) else none)∧rS o k=some (if (wk o k).Nodup then wk o k else []):=by
 have:=Up h hl (o.al.length+1) k [] List.nodup_nil (fun x hx=>by cases hx) (by simp) hk
 simp only [List.nil_append] at this
 exact this
end
structure wg (v:ak) (o:bb):Prop where
 LR:v.bb=o
 par:∀ k,cM v.aW k=up o.al k
 len:v.aW.length=o.al.length
theorem C6 {v:ak} {o:bb} (h:wg v o) (k:ae):fk v k=some (up o.al k).isSome:=by
 unfold fk Ab
 rw [h.par k];rfl
theorem QL {v:ak} {o:bb} (h:wg v o) (hl:o.al.length≤1000000):∀ (m:Nat) (q:ae) (l:List ae),l.length+m=o.al.length+1→js v q l=some (l++walk o.al m q)
 | 0,q,l,hlen=>by
   unfold js
   rw [iter_eq,gW,C6 h]
   simp only [Option.bind_some]
   unfold jr
   rw [if_neg (by rw [h.len];simp;omega),cC]
   simp [walk]
 | m+1,q,l,hlen=>by
   unfold js
   rw [iter_eq,gW,C6 h]
   simp only [Option.bind_some]
   unfold jr
   cases e:up o.al q with
   | none=>rw [if_neg (by simp),cC,nU e];simp
   | some r=>
     rw [if_pos (by rw [h.len];simp;omega),nV (by simp;omega)]
     simp only [Option.bind_some]
     unfold u4
     rw [h.par q,e]
     simp only [Option.bind_some,Option.getD_some,dD]
     have:=QL h hl m r (l++[q]) (by simp;omega)
     unfold js at this
     rw [this,kX e];simp
theorem BX {v:ak} {o:bb} (h:wg v o) (hl:o.al.length≤1000000) (k:ae):gn v k=some (wk o k):=by
 unfold gn
 rw [QL h hl (o.al.length+1) k [] (by simp)];rfl
theorem Ff (o:bb) (k:ae):(wk o k).length≤o.al.length+1:=Ki _ _
end Go.Beacon
set_option linter.unusedVariables false
set_option linter.unusedSimpArgs false
namespace Go.Beacon
open Go Go.Eng
theorem zy {A:Type} {f g:Int→Option (Int⊕A)} (N:Nat) (Inv:Int→Prop) (R:A→Prop) (h0:Inv 0)
 (h:∀ i:Int,0≤i→i≤N→Inv i→f i=g i∧Ok (f i) (Ii N Inv R i)):Eng.iter f 0=Eng.iter g 0∧Ok (Eng.iter f 0) R:=by
 refine ⟨LP N Inv (fun i h1 h2 h3=>⟨(h i h1 h2 h3).1,fun j hj=>?_⟩) h0,Ok.LI N Inv h0 (fun i h1 h2 h3=>(h i h1 h2 h3).2)⟩
 obtain ⟨r,e1,e2⟩:=(h i h1 h2 h3).2
 rw [hj] at e1
 obtain rfl:=Option.some.inj e1
 obtain ⟨rfl,e3,e4⟩:=e2
 exact ⟨rfl,e3,e4⟩
theorem AU {α A:Type} (p:α→Bool) (a e:A):∀ xs:List α,nC (fun x=>if p x=true then some a else none) e xs=if xs.any p=true then a else e
 | []=>rfl
 | x :: r=>by
   unfold nC
   rw [List.any_cons]
   cases hp:p x with
   | true=>simp
   | false=>simp [AU p a e r]
theorem LS {α A:Type} (xs:List α) (f:Int→Option (Int⊕A)) (p:α→Bool) (a:A) (hlen:xs.length≤1000000)
 (h1:∀ (i:Int) x,0≤i→i < xs.length→idx xs i=some x→f i=if p x=true then some (.inr a) else some (.inl (i+1))) (hp:xs.any p=true):iter f 0=some a:=by
 have key:∀ (k:Nat) (i:Int),0≤i→i+k=xs.length→(xs.drop i.toNat).any p=true→iter f i=some a:=by
  intro k
  induction k with
  | zero=>intro i h0 hi h;rw [List.drop_of_length_le (by omega)] at h;cases h
  | succ k ih=>
    intro i h0 hi h
    obtain ⟨x,hx,_,hd⟩:=jq xs h0 (by omega)
    rw [iter_eq,h1 i x h0 (by omega) hx]
    rw [hd,List.any_cons] at h
    cases hpx:p x with
    | true=>rfl
    | false=>
      rw [if_neg (by simp)]
      simp only [Option.bind_some,dD]
      exact ih (i+1) (by omega) (by omega) (by rw [hpx,Bool.false_or] at h;exact h)
 exact key xs.length 0 (by omega) (by omega) (by simpa using hp)
theorem Kj {α:Type} {l:List α} (h:l≠[]):GL l=some ():=by
 cases l with
 | nil=>exact absurd rfl h
 | cons x r=>rfl
section
variable {α V:Type} (key:α→ae) (val:α→V)
def foldM (m:List (ae×V)) (xs:List α):List (ae×V):=xs.foldl (fun m x=>ji m (key x) (val x)) m
theorem AW (m:List (ae×V)) (x:α) (xs:List α):foldM key val m (x :: xs)=foldM key val (ji m (key x) (val x)) xs:=rfl
theorem Fg (k:ae):∀ (xs:List α) (m:List (ae×V)),(cM (foldM key val m xs) k).isSome=(xs.any (fun x=>decide (key x=k))||(cM m k).isSome)
 | [],m=>by simp [foldM]
 | x :: r,m=>by
   rw [AW,Fg k r,uT,List.any_cons]
   by_cases c:key x=k
   ·simp [c]
   ·simp [c]
theorem CH (k:ae):∀ (xs:List α) (m:List (ae×V)),xs.Pairwise (fun a b=>key a≠key b)→cM (foldM key val m xs) k=((xs.find? (fun x=>decide (key x=k))).map val).or (cM m k)
 | [],m,_=>by simp [foldM]
 | x :: r,m,h=>by
   rw [List.pairwise_cons] at h
   rw [AW,CH k r _ h.2,uT,List.find?_cons]
   by_cases c:key x=k
   ·have:r.find? (fun x=>decide (key x=k))=none:=by
     rw [List.find?_eq_none]
     intro y hy
     simpa using fun e=>h.1 y hy (by rw [c,e])
    rw [this];simp [c]
   ·simp [c]
theorem Hc:∀ (xs:List α) (m:List (ae×V)),xs.Pairwise (fun a b=>key a≠key b)→(∀ x∈xs,cM m (key x)=none)→(foldM key val m xs).length=m.length+xs.length
 | [],m,_,_=>rfl
 | x :: r,m,h,hn=>by
   rw [List.pairwise_cons] at h
   rw [AW,Hc r _ h.2 (fun y hy=>by
    rw [uT,if_neg (h.1 y hy)];exact hn y (by simp [hy])),Ih (hn x (by simp)),List.length_cons]
   omega
end
theorem LU (o:bb) (h1:o.al.length≤100000) (h2:o.bj.length≤100000) (h3:o.aD.length≤100000):∃ at_,iT o=some ⟨o,foldM (·.Key) (·.fi) [] o.al,foldM (·.Key) (·.lI) [] o.bj,at_,[],[]⟩:=by
 unfold iT
 have e1:∀ m,k7 o m 0=eG o (foldM (·.Key) (·.fi) m o.al) [] 0:=by
  intro m
  unfold k7
  exact fu o.al (fun (s:List (ae×ae)) (i:Int)=>(s,i)) (fun x=>cu o x.1 x.2) (fun s t=>ji s t.Key t.fi) (fun _ _=>True) (fun s=>eG o s [] 0)
   (fun s i x g0 g1 hi _=>⟨by
    show cu o s i=_
    unfold cu
    rw [if_pos g1,hi,bf (by omega) (by omega)];rfl,trivial⟩)
   (fun s _=>by
    show cu o s o.al.length=_
    unfold cu
    rw [if_neg (by omega)]) m trivial
 have e2:∀ p m,eG o p m 0=fK o p (foldM (·.Key) (·.lI) m o.bj) [] 0:=by
  intro p m
  unfold eG
  exact fu o.bj (fun (s:List (ae×List ae)) (i:Int)=>(s,i)) (fun x=>ct o p x.1 x.2) (fun s t=>ji s t.Key t.lI) (fun _ _=>True) (fun s=>fK o p s [] 0)
   (fun s i x g0 g1 hi _=>⟨by
    show ct o p s i=_
    unfold ct
    rw [if_pos g1,hi,bf (by omega) (by omega)];rfl,trivial⟩)
   (fun s _=>by
    show ct o p s o.bj.length=_
    unfold ct
    rw [if_neg (by omega)]) m trivial
 have e3:∀ p m,Ok (fK o p m [] 0) (fun v=>∃ a,v=⟨o,p,m,a,[],[]⟩):=by
  intro p m
  unfold fK
  refine Ok.CD o.aD.length (fun (s:List (ae×List Int)) (i:Int)=>(s,i)) (fun i s=>∀ k v,cM s k=some v→(v.length:Int)≤i) (fun s i g0 g1 hv=>?_) [] (fun k v hk=>by cases hk)
  show Ok (fJ o p m s i) _
  unfold fJ
  split
  ·rename_i hi
   refine Ok.idx g0 hi (fun x _ _=>?_)
   unfold u4
   simp only [Option.bind_some]
   have hb:(((cM s x.ar).getD []).length:Int)≤i:=by
    cases hk:cM s x.ar with
    | none=>simpa using g0
    | some v=>exact hv _ v hk
   refine Ok.app (by simp;omega) ?_
   rw [bf (by omega) (by omega)]
   refine Ok.ret (.inl ⟨_,rfl,hi,fun k v hk=>?_⟩)
   rw [uT] at hk
   split at hk
   ·obtain rfl:=Option.some.inj hk
    simp;omega
   ·have:=hv k v hk;omega
  ·exact Ok.inr (Ok.ret (.inr ⟨_,rfl,_,rfl⟩))
 rw [e1,e2]
 obtain ⟨v,hv,a,rfl⟩:=e3 (foldM (·.Key) (·.fi) [] o.al) (foldM (·.Key) (·.lI) [] o.bj)
 exact ⟨a,hv⟩
theorem VU (o:bb) (hn:o.al.Pairwise (fun a b=>a.Key≠b.Key)) (a:List (ae×(List ae))) (b:List (ae×(List Int))) (c:List (aX×(List Int))) (d:List (aX×Bool)):wg ⟨o,foldM (·.Key) (·.fi) [] o.al,a,b,c,d⟩ o where
 LR:=rfl
 par k:=by
  show cM (foldM (·.Key) (·.fi) [] o.al) k=_
  rw [CH (·.Key) (·.fi) k o.al [] hn,E4,Option.or_none];rfl
 len:=by
  show (foldM (·.Key) (·.fi) [] o.al).length=_
  rw [Hc (·.Key) (·.fi) o.al [] hn (fun x _=>rfl)];simp
theorem Kk {a b:ae} (h:(Op.bytesLess a b||a==b)=false):Lib.compareBytes b a < 0:=by
 rw [w8,SU,Bool.or_eq_false_iff,decide_eq_false_iff_not,decide_eq_false_iff_not] at h
 have:=lA a b
 rcases GW a b with k | k | k<;>omega
theorem Kl {α:Type} (key:α→ae) {xs:List α} {i:Int} {x y:α} (h0:0 < i) (hx:idx xs i=some x) (hy:idx xs (i - 1)=some y) (hl:Lib.compareBytes (key y) (key x) < 0) (h:(xs.take i.toNat).Pairwise (fun a b=>Lib.compareBytes (key a) (key b) < 0)):(xs.take (i+1).toNat).Pairwise (fun a b=>Lib.compareBytes (key a) (key b) < 0):=by
 rw [take_succ (by omega) hx,List.pairwise_append]
 refine ⟨h,List.pairwise_singleton _ _,fun a ha b hb=>?_⟩
 rw [List.mem_singleton.1 hb]
 have e:=take_succ (xs:=xs) (i:=i - 1) (by omega) hy
 rw [show i - 1+1=i by omega] at e
 rw [e] at ha h
 rcases List.mem_append.1 ha with k | k
 ·exact BR ((List.pairwise_append.1 h).2.2 a k y (by simp)) hl
 ·rw [List.mem_singleton.1 k];exact hl
theorem asc_one {α:Type} (key:α→ae) {xs:List α} {x:α} (hx:idx xs 0=some x):(xs.take ((0:Int)+1).toNat).Pairwise (fun a b=>Lib.compareBytes (key a) (key b) < 0):=by
 rw [take_succ (by omega) hx];simp
theorem QM {a b:ae} (h:Lib.compareBytes a b < 0):a≠b:=fun e=>by rw [e,w6] at h;omega
theorem Th {s:ae} (h:qU s=true):s≠[]:=fun e=>by rw [e] at h;cases h
section
variable {v:ak} {o:bb} (hl:o.al.length≤100000)
def C7 (o:bb) (t:ar):Bool:=decide (t.Key∈(wk o t.Key).tail)
def Hd (o:bb) (t:ar):Bool:=decide (11 < (wk o t.Key).length)
include hl
theorem MY (h:y7 o.al) (hv:wg v o):∀ (k:Nat) (c:Bool) (i:Int),0≤i→i+k=o.al.length→dx v c i=some (if (o.al.drop i.toNat).any (C7 o)=true then 14 else if (c||(o.al.drop i.toNat).any (Hd o))=true then 2 else 0)
 | 0,c,i,h0,hi=>by
   unfold dx
   rw [iter_eq,eo,hv.LR,if_neg (by simp;omega),cC,List.drop_of_length_le (by omega)]
   unfold lJ
   cases c<;>rfl
 | k+1,c,i,h0,hi=>by
   obtain ⟨t,ht,hm,hd⟩:=jq o.al h0 (by omega)
   unfold dx
   rw [iter_eq,eo,hv.LR,if_pos (by simp;omega),hd,List.any_cons,List.any_cons]
   dsimp only
   rw [ht]
   simp only [Option.bind_some]
   rw [BX hv (by omega)]
   simp only [Option.bind_some]
   obtain ⟨r,hr⟩:=CG (T:=o.al) ⟨t,hm,rfl⟩
   have hw:=Ff o t.Key
   have ya:1≤(wk o t.Key).length:=by unfold wk;rw [kX hr];simp
   have Wj:((wk o t.Key).drop (1:Int).toNat).take (((wk o t.Key).length:Int).toNat - (1:Int).toNat)=(wk o t.Key).tail:=by
    rw [List.take_of_length_le (by simp)];simp
   rw [wD (by omega) (by omega) (by omega),Wj]
   simp only [Option.bind_some]
   rw [pt _ t.Key (by simp;omega)]
   simp only [Option.bind_some]
   by_cases cc:t.Key∈(wk o t.Key).tail
   ·rw [if_pos (by simpa using cc),cC]
    have:C7 o t=true:=by unfold C7;exact decide_eq_true cc
    rw [this];rfl
   ·rw [if_neg (by simpa using cc)]
    unfold iH
    simp only [Option.bind_some,dD]
    rw [bf (by omega) (by omega)]
    have:=MY h hv k (c||decide ((11:Int) < ((wk o t.Key).length:Int))) (i+1) (by omega) (by omega)
    unfold dx at this
    rw [this]
    have e1:C7 o t=false:=by unfold C7;exact decide_eq_false cc
    have e2:Hd o t=decide ((11:Int) < ((wk o t.Key).length:Int)):=by unfold Hd;rw [decide_eq_decide];omega
    rw [e1,e2,Bool.false_or,Bool.or_assoc]
theorem abK (h:y7 o.al) (hn:∀ q,(wk o q).Nodup):ot o 0=some (if o.al.any (Hd o)=true then 2 else 0):=by
 unfold ot
 rw [jh o.al (fun x:Int=>gO o x) (fun t=>if Hd o t=true then some 2 else none) 0 (by omega),AU]
 ·intro i t h0 h1 ht
  unfold gO
  rw [if_pos h1,ht]
  simp only [Option.bind_some]
  rw [(xe h (by omega) (k:=t.Key) (.inr (CG ⟨t,gV ht,rfl⟩))).2,if_pos (hn _)]
  simp only [Option.bind_some]
  unfold Hd
  by_cases c:11 < (wk o t.Key).length
  ·rw [if_pos (by omega),decide_eq_true c];rfl
  ·rw [if_neg (by omega),decide_eq_false c,bf (by omega) (by omega)];rfl
 ·unfold gO
  rw [if_neg (by omega)];rfl
theorem Ol (h:y7 o.al) (hv:wg v o):dx v false 0=jf o 0∧Ok (dx v false 0) (fun r=>r=0→∀ q,(wk o q).Nodup):=by
 rw [MY hl h hv o.al.length false 0 (by omega) (by omega)]
 simp only [Int.toNat_zero,List.drop_zero,Bool.false_or]
 have hpo:∀ t∈o.al,rU o t.Key=some (if (wk o t.Key).Nodup then some (wk o t.Key) else none):=fun t ht=>(xe h (by omega) (.inr (CG ⟨t,ht,rfl⟩))).1
 have hq3:∀ e,ot o 0=some e→jf o 0=some (if o.al.any (fun t=>decide (¬ (wk o t.Key).Nodup))=true then 14 else e):=by
  intro e he
  unfold jf
  rw [jh o.al (fun x:Int=>eO o x) (fun t=>if decide (¬ (wk o t.Key).Nodup)=true then some 14 else none) e (by omega),AU]
  ·intro i t h0 h1 ht
   unfold eO
   rw [if_pos h1,ht]
   simp only [Option.bind_some]
   rw [hpo t (gV ht)]
   simp only [Option.bind_some]
   by_cases c:(wk o t.Key).Nodup
   ·rw [if_pos c,if_neg (by simpa using c)]
    show ((GL (wk o t.Key)).bind fun v22=>(some (Sum.inl (cr (i+(1:Int)))):Option (Int⊕Int)))=_
    obtain ⟨r,hr⟩:=CG (T:=o.al) ⟨t,gV ht,rfl⟩
    have sE:wk o t.Key≠[]:=by unfold wk;rw [kX hr];simp
    rw [Kj sE,bf (by omega) (by omega)]
    rfl
   ·rw [if_neg c,if_pos (by simpa using c)];rfl
  ·unfold eO
   rw [if_neg (by omega),he];rfl
 by_cases hb:o.al.any (C7 o)=true
 ·rw [if_pos hb]
  refine ⟨?_,14,rfl,fun k=>by omega⟩
  obtain ⟨t,ht,nD⟩:=List.any_eq_true.1 hb
  have sE:o.al.any (fun t=>decide (¬ (wk o t.Key).Nodup))=true:=List.any_eq_true.2 ⟨t,ht,by
   simpa using Oj (by simpa [C7] using nD)⟩
  have:jf o 0=some 14:=by
   unfold jf
   rw [LS o.al (fun x:Int=>eO o x) (fun t=>decide (¬ (wk o t.Key).Nodup)) 14 (by omega) ?_ sE]
   intro i t h0 h1 ht
   unfold eO
   rw [if_pos h1,ht]
   simp only [Option.bind_some]
   rw [hpo t (gV ht)]
   simp only [Option.bind_some]
   by_cases c:(wk o t.Key).Nodup
   ·rw [if_pos c,if_neg (by simpa using c)]
    show ((GL (wk o t.Key)).bind fun v22=>(some (Sum.inl (cr (i+(1:Int)))):Option (Int⊕Int)))=_
    obtain ⟨r,hr⟩:=CG (T:=o.al) ⟨t,gV ht,rfl⟩
    have sE:wk o t.Key≠[]:=by unfold wk;rw [kX hr];simp
    rw [Kj sE,bf (by omega) (by omega)]
    rfl
   ·rw [if_neg c,if_pos (by simpa using c)];rfl
  rw [this]
 ·rw [if_neg hb]
  have hn:∀ q,(wk o q).Nodup:=fun q=>by
   apply Classical.byContradiction
   intro k
   obtain ⟨t,ht,h2⟩:=Ha _ q k
   exact hb (List.any_eq_true.2 ⟨t,ht,by unfold C7;exact decide_eq_true h2⟩)
  have I4:o.al.any (fun t=>decide (¬ (wk o t.Key).Nodup))=false:=by simp [hn]
  rw [hq3 _ (abK hl h hn),I4]
  exact ⟨rfl,_,rfl,fun _=>hn⟩
end
end Go.Beacon
set_option linter.unusedVariables false
set_option linter.unusedSimpArgs false
namespace Go.Beacon
open Go Go.Eng
theorem y8 {α:Type} (xs:List α):xs.take ((xs.length:Int)).toNat=xs:=by simp
theorem pV {α:Type} {xs:List α} {i:Int} {x y:α} (h0:0≤i) (h:idx xs i=some x) (hy:y∈xs.take (i+1).toNat):y∈xs.take i.toNat∨y=x:=by
 rw [take_succ h0 h] at hy
 rcases List.mem_append.1 hy with k | k
 ·exact .inl k
 ·exact .inr (List.mem_singleton.1 k)
theorem MZ (o:bb) (k:ae):decide (iF (fun t:ar=>decide (t.Key=k)) o.al 0 < 0)=!(up o.al k).isSome:=by
 cases e:up o.al k with
 | none=>rw [decide_eq_true ((mV _ _).2 e)];rfl
 | some r=>rw [decide_eq_false (fun k2=>by rw [(mV _ _).1 k2] at e;cases e)];rfl
section
variable {v:ak} {o:bb} (hl:o.al.length≤100000)
include hl
theorem Tj (hk:∀ t∈o.al,t.Key≠[]) (hn:o.al.Pairwise (fun a b=>a.Key≠b.Key)) (hv:wg v o):
 iI v 0=rV o 0∧Ok (iI v 0) (fun r=>r=0→y7 o.al∧∀ q,(wk o q).Nodup):=by
 unfold iI rV
 refine zy o.al.length (fun i=>∀ t∈o.al.take i.toNat,t.fi≠[]→∃ r,up o.al t.fi=some r) _ (fun t ht=>by simp at ht) (fun i h0 h1 hI=>?_)
 unfold fV lp
 rw [hv.LR]
 by_cases hi:i < (o.al.length:Int)
 ·rw [if_pos hi,if_pos hi]
  obtain ⟨t,ht,_,_⟩:=jq o.al h0 hi
  rw [ht]
  simp only [Option.bind_some]
  have w1:cr (i+1)=i+1:=bf (by omega) (by omega)
  have j2:∀ c,fU i c=gN i c:=fun c=>rfl
  by_cases hp:t.fi=[]
  ·rw [if_neg (by simpa using hp),if_neg (by simpa using hp),j2]
   refine ⟨rfl,.inl (i+1),by unfold gN;rw [if_neg (by simp),w1],rfl,hi,fun y hy hyp=>?_⟩
   rcases pV h0 ht hy with k | rfl
   ·exact hI y k hyp
   ·exact absurd hp hyp
  ·rw [if_pos hp,if_pos hp,C6 hv,o0 o _ (by omega)]
   simp only [Option.bind_some]
   rw [j2,MZ o]
   refine ⟨rfl,?_⟩
   unfold gN
   cases e:up o.al t.fi with
   | none=>exact ⟨.inr 8,rfl,fun k=>by omega⟩
   | some r=>
     refine ⟨.inl (i+1),by rw [w1];rfl,rfl,hi,fun y hy hyp=>?_⟩
     rcases pV h0 ht hy with k | rfl
     ·exact hI y k hyp
     ·exact ⟨r,e⟩
 ·have VV:i=o.al.length:=by omega
  subst VV
  rw [if_neg hi,if_neg hi]
  have hT:y7 o.al:=⟨hk,hn,fun t ht hp=>by
   obtain ⟨r,hr⟩:=hI t (by rw [y8];exact ht) hp
   obtain ⟨u,h2,h3,_⟩:=DW hr
   exact ⟨u,h2,h3⟩⟩
  obtain ⟨e1,r,e2,e3⟩:=Ol hl hT hv
  rw [e1]
  rw [e1] at e2
  exact ⟨rfl,.inr r,by rw [e2];rfl,fun k=>⟨hT,e3 k⟩⟩
theorem Tk (ho:v.bb=o) (hv:o.al.Pairwise (fun a b=>a.Key≠b.Key)→wg v o):
 fQ v=oS o∧Ok (fQ v) (fun r=>r=0→o.al.length≤200∧y7 o.al∧∀ q,(wk o q).Nodup):=by
 unfold fQ oS
 rw [ho]
 by_cases h2:(200:Int) < (o.al.length:Int)
 ·rw [if_pos h2,if_pos h2];exact ⟨rfl,2,rfl,fun k=>by omega⟩
 rw [if_neg h2,if_neg h2]
 unfold pH vV
 refine zy o.al.length (fun i=>(o.al.take i.toNat).Pairwise (fun a b=>Lib.compareBytes a.Key b.Key < 0)∧∀ t∈o.al.take i.toNat,qU t.Key=true) _ ⟨by simp,fun t ht=>by simp at ht⟩ (fun i h0 h1 hI=>?_)
 unfold fW lr
 rw [ho]
 by_cases hi:i < (o.al.length:Int)
 ·rw [if_pos hi,if_pos hi]
  obtain ⟨t,ht,_,_⟩:=jq o.al h0 hi
  rw [ht]
  simp only [Option.bind_some]
  rw [vz,mE]
  simp only [Option.bind_some]
  have w1:cr (i+1)=i+1:=bf (by omega) (by omega)
  have j1:∀ c,fT i c=gM i c:=fun c=>rfl
  cases hk:qU t.Key with
  | false=>exact ⟨rfl,.inr 5,rfl,fun k=>by omega⟩
  | true=>
    rw [if_neg (by simp:¬ ((!true)=true)),if_neg (by simp:¬ ((!true)=true))]
    have Uq:∀ y∈o.al.take (i+1).toNat,qU y.Key=true:=fun y hy=>by
     rcases pV h0 ht hy with k | rfl
     ·exact hI.2 y k
     ·exact hk
    by_cases hp:0 < i
    ·rw [if_pos hp,if_pos hp,bf (by omega) (by omega)]
     obtain ⟨u,hu,_,_⟩:=jq o.al (i:=i - 1) (by omega) (by omega)
     rw [hu]
     simp only [Option.bind_some]
     rw [j1]
     refine ⟨rfl,?_⟩
     unfold gM
     cases hc:(Op.bytesLess t.Key u.Key||t.Key==u.Key) with
     | true=>exact ⟨.inr 7,rfl,fun k=>by omega⟩
     | false=>exact ⟨.inl (i+1),by rw [w1];rfl,rfl,hi,Kl (·.Key) hp ht hu (Kk hc) hI.1,Uq⟩
    ·rw [if_neg hp,if_neg hp,j1]
     have hi0:i=0:=by omega
     subst hi0
     refine ⟨rfl,.inl (0+1),by unfold gM;rw [if_neg (by simp),w1],rfl,hi,asc_one (·.Key) ht,Uq⟩
 ·have VV:i=o.al.length:=by omega
  subst VV
  rw [if_neg hi,if_neg hi]
  rw [y8] at hI
  have Ar:o.al.Pairwise (fun a b=>a.Key≠b.Key):=hI.1.imp (fun h=>QM h)
  obtain ⟨e1,r,e2,e3⟩:=Tj hl (fun t ht=>Th (hI.2 t ht)) Ar (hv Ar)
  rw [e1]
  rw [e1] at e2
  exact ⟨rfl,.inr r,by rw [e2];rfl,fun k=>⟨by omega,e3 k⟩⟩
end
end Go.Beacon
set_option linter.unusedVariables false
set_option linter.unusedSimpArgs false
namespace Go.Beacon
open Go Go.Eng
def wV (s:ae):a8:=⟨3,false,0,s⟩
def BY (x:aE) (f:ae):Option a8:=(x.Device.kO.find? (fun t=>decide (xc++t.Name=f))).map (fun t=>wV t.Value)
def xP (x:aE) (f:ae):Option a8:=(x.ey.find? (fun p=>decide (uc++p.Name=f))).map ew.Value
def vC (o:Option a8):bq:=match o with
 | some v=>⟨true,v,zX⟩
 | none=>⟨false,zV,zX⟩
theorem vD {α A:Type} (p:α→Bool) (g:α→A) (e:A):∀ l:List α,nC (fun x=>if p x=true then some (g x) else none) e l=((l.find? p).map g).getD e
 | []=>rfl
 | x :: r=>by
   rw [nC,List.find?_cons]
   cases hp:p x with
   | true=>simp
   | false=>simp only [Bool.false_eq_true,if_false];exact vD p g e r
theorem Im (p s f:ae):p++s=f↔preB f p=true∧f.drop p.length=s:=by
 unfold preB
 rw [decide_eq_true_eq]
 constructor
 ·rintro rfl;simp
 ·rintro ⟨h1,rfl⟩
  conv=>rhs;rw [← List.take_append_drop p.length f,h1]
theorem Om {x:aE} {f:ae} (h:preB f xc=false):BY x f=none:=by
 unfold BY
 rw [List.find?_eq_none.2]
 ·rfl
 ·intro t _ k
  have:=((Im _ _ _).1 (of_decide_eq_true k)).1
  rw [h] at this;cases this
theorem LV {x:aE} {f:ae} (h:preB f uc=false):xP x f=none:=by
 unfold xP
 rw [List.find?_eq_none.2]
 ·rfl
 ·intro t _ k
  have:=((Im _ _ _).1 (of_decide_eq_true k)).1
  rw [h] at this;cases this
theorem VW (a s:ae) (ha:a.length≤10) (h:s.length≤100000):Jm a s=some (a++s):=VQ (by omega)
def QN (x:aE) (f:ae):Option a8:=(BY x f).or (xP x f)
theorem LW (x:aE) (hx:Cc x) (f:ae):xA x f 0=some (vC (xP x f)):=by
 unfold xA
 have hp:=hx.props
 rw [jh x.ey (fun i:Int=>jA x f i) (fun p=>if (fun p:ew=>decide (uc++p.Name=f)) p=true then some (vC (some p.Value)) else none) (vC none) (by omega),vD (fun p:ew=>decide (uc++p.Name=f)) (fun p=>vC (some p.Value))]
 ·unfold xP
  cases x.ey.find? (fun p=>decide (uc++p.Name=f))<;>rfl
 ·intro i p h0 h1 h2
  have hb:=hx.prop p (gV h2)
  show jA x f i=_
  unfold jA
  rw [if_pos h1,h2]
  simp only [Option.bind_some]
  rw [VW _ _ (by simp) hb.1]
  simp only [Option.bind_some]
  rw [bf (by omega) (by omega)]
  by_cases c:uc++p.Name=f
  ·rw [if_pos c];simp [c];rfl
  ·rw [if_neg c];simp only [c,decide_false,Bool.false_eq_true,if_false]
 ·show jA x f x.ey.length=_
  unfold jA
  rw [if_neg (by omega)];rfl
theorem On (x:aE) (hx:Cc x) (f:ae) (hf:preB f xc=true):xz x (f.drop 4,true) 0=some (vC (BY x f)):=by
 unfold xz
 have hp:=hx.tags
 have hn:∀ t:jk,(t.Name=f.drop 4)↔xc++t.Name=f:=fun t=>by
  rw [Im];exact ⟨fun h=>⟨hf,h.symm⟩,fun h=>h.2.symm⟩
 rw [jh x.Device.kO (fun i:Int=>jz x (f.drop 4,true) i) (fun t=>if (fun t:jk=>decide (xc++t.Name=f)) t=true then some (vC (some (wV t.Value))) else none) (vC none) (by omega),vD (fun t:jk=>decide (xc++t.Name=f)) (fun t=>vC (some (wV t.Value)))]
 ·unfold BY
  cases x.Device.kO.find? (fun t=>decide (xc++t.Name=f))<;>rfl
 ·intro i t h0 h1 h2
  show jz x (f.drop 4,true) i=_
  unfold jz
  rw [if_pos h1,h2]
  simp only [Option.bind_some]
  rw [bf (by omega) (by omega)]
  by_cases c:xc++t.Name=f
  ·rw [if_pos ((hn t).2 c)];simp [c];rfl
  ·rw [if_neg (fun k=>c ((hn t).1 k))];simp only [c,decide_false,Bool.false_eq_true,if_false]
 ·show jz x (f.drop 4,true) x.Device.kO.length=_
  unfold jz
  rw [if_neg (by omega)];rfl
theorem Ga (x:aE) (hx:Cc x) (f:ae):xE x f 0=some ((xP x f).getD zV):=by
 unfold xE
 have hp:=hx.props
 rw [jh x.ey (fun i:Int=>jC x f i) (fun p=>if (fun p:ew=>decide (uc++p.Name=f)) p=true then some p.Value else none) zV (by omega),vD (fun p:ew=>decide (uc++p.Name=f)) ew.Value]
 ·rfl
 ·intro i p h0 h1 h2
  have hb:=hx.prop p (gV h2)
  show jC x f i=_
  unfold jC
  rw [if_pos h1,h2]
  simp only [Option.bind_some]
  rw [VW _ _ (by simp) hb.1]
  simp only [Option.bind_some]
  rw [bf (by omega) (by omega)]
  by_cases c:uc++p.Name=f
  ·rw [if_pos c.symm];simp [c]
  ·rw [if_neg (fun k=>c k.symm)];simp only [c,decide_false,Bool.false_eq_true,if_false]
 ·show jC x f x.ey.length=_
  unfold jC
  rw [if_neg (by omega)];rfl
theorem Km (x:aE) (hx:Cc x) (f:ae):xF x f 0=some ((QN x f).getD zV):=by
 unfold xF
 have hp:=hx.tags
 rw [jh x.Device.kO (fun i:Int=>jD x f i) (fun t=>if (fun t:jk=>decide (xc++t.Name=f)) t=true then some (wV t.Value) else none) ((xP x f).getD zV) (by omega),vD (fun t:jk=>decide (xc++t.Name=f)) (fun t=>wV t.Value)]
 ·unfold QN BY
  cases x.Device.kO.find? (fun t=>decide (xc++t.Name=f))<;>rfl
 ·intro i t h0 h1 h2
  have hb:=hx.tag t (gV h2)
  show jD x f i=_
  unfold jD
  rw [if_pos h1,h2]
  simp only [Option.bind_some]
  rw [VW _ _ (by simp) hb.1]
  simp only [Option.bind_some]
  rw [bf (by omega) (by omega)]
  by_cases c:xc++t.Name=f
  ·rw [if_pos c.symm];simp [c];rfl
  ·rw [if_neg (fun k=>c k.symm)];simp only [c,decide_false,Bool.false_eq_true,if_false]
 ·show jD x f x.Device.kO.length=_
  unfold jD
  rw [if_neg (by omega),Ga x hx f];rfl
theorem He (x:aE) (hx:Cc x) (f:ae) (hf:f.length≤100000) (hn:f≠Ak):∃ o:Option a8,qJ x f=some (vC o)∧uR x f=some (o.getD zV)∧(wH x→∀ v,o=some v→v.Kind≠0∧kM v=true∨(∃ s,v=wV s)):=by
 unfold qJ uR
 by_cases c1:f=[107,101,121]
 ·rw [if_pos c1,if_pos c1];exact ⟨some (wV x.Device.Key),rfl,rfl,fun _ v h=>.inr ⟨_,(Option.some.inj h).symm⟩⟩
 by_cases c2:f=[109,111,100,101,108]
 ·rw [if_neg c1,if_neg c1,if_pos c2,if_pos c2];exact ⟨some (wV x.Device.Model),rfl,rfl,fun _ v h=>.inr ⟨_,(Option.some.inj h).symm⟩⟩
 by_cases c3:f=[116,101,110,97,110,116]
 ·rw [if_neg c1,if_neg c1,if_neg c2,if_neg c2,if_pos c3,if_pos c3];exact ⟨some (wV x.Device.ar),rfl,rfl,fun _ v h=>.inr ⟨_,(Option.some.inj h).symm⟩⟩
 rw [if_neg c1,if_neg c1,if_neg c2,if_neg c2,if_neg c3,if_neg c3,if_neg hn,sj _ _ (by omega),Km x hx f]
 simp only [Option.bind_some]
 refine ⟨QN x f,?_,rfl,fun hr v hv=>?_⟩
 ·unfold QN
  cases hp:preB f xc with
  | true=>
    rw [if_pos rfl,if_pos rfl,show xc.length=4 from rfl,On x hx f hp,LV (BU hp)]
    cases BY x f<;>rfl
  | false=>
    rw [if_neg (by simp),LW x hx f,Om hp]
    rfl
 ·unfold QN at hv
  cases ht:BY x f with
  | some u=>
    rw [ht] at hv
    obtain rfl:=Option.some.inj hv
    unfold BY at ht
    obtain ⟨t,_,rfl⟩:=Option.map_eq_some_iff.1 ht
    exact .inr ⟨_,rfl⟩
  | none=>
    rw [ht] at hv
    have hv:xP x f=some v:=hv
    unfold xP at hv
    obtain ⟨p,h1,rfl⟩:=Option.map_eq_some_iff.1 hv
    have:=hr p (List.mem_of_find?_eq_some h1)
    exact .inl ⟨this.2,this.1⟩
def Ry (op:ae) (n:Int):Bool:=if op=[61,61] then decide (n=0) else if op=[33,61] then decide (n≠0) else if op=[60] then decide (n < 0) else if op=[60,61] then decide (n≤0) else if op=[62] then decide (0 < n) else decide (0≤n)
theorem M0 (q:Query) (n:Int):jP q n=some (Ry q.Op n):=by
 unfold jP Ry
 simp only [Ka]
theorem C8 (op:ae) (n:Int) (h:op∈opsL):sO op n=some (Ry op n):=by
 unfold opsL at h
 simp only [List.mem_cons,List.not_mem_nil,or_false] at h
 unfold sO
 rcases h with rfl | rfl | rfl | rfl | rfl | rfl<;>rfl
theorem Kn {op:ae} {n m:Int} (h:op=[61,61]∨op=[33,61]) (e:n=0↔m=0):Ry op n=Ry op m:=by
 unfold Ry
 rcases h with rfl | rfl
 ·rw [if_pos rfl,if_pos rfl,decide_eq_decide];exact e
 ·have e1:¬ ([33,61]:ae)=[61,61]:=by decide
  rw [if_neg e1,if_pos rfl,if_neg e1,if_pos rfl,decide_eq_decide];exact not_congr e
structure Ur (q:Query):Prop where
 op:q.Op∈opsL
 abL:q.Field=Ak→q.Value=zV
 val:q.Field≠Ak→kM q.Value=true∧q.Value.Kind≠0∧(q.Value.Kind≠2→q.Op=[61,61]∨q.Op=[33,61])
theorem YL {q:Query} (h:lF q=0) (k:q.Kind=1):Ur q:=by
 unfold lF at h
 split at h
 ·cases h
 rw [if_neg (by omega)] at h
 split at h
 ·cases h
 rename_i OM
 have OM:q.Op∈opsL:=Classical.byContradiction OM
 split at h
 ·cases h
 rename_i h1
 split at h
 ·cases h
 split at h
 ·rename_i hf
  have RF:q.Field=Ak:=of_decide_eq_true hf
  exact ⟨OM,fun _=>Classical.byContradiction fun k=>h1 ⟨hf,k⟩,fun k=>absurd RF k⟩
 ·rename_i hf
  split at h
  ·cases h
  rename_i h4
  split at h
  ·cases h
  rename_i h5
  rw [not_or,not_or] at h4
  rw [not_or] at h5
  refine ⟨OM,fun k=>absurd (decide_eq_true k) hf,fun _=>⟨by simpa using h4.2.1,h4.2.2,fun hk=>?_⟩⟩
  apply Classical.byContradiction
  intro hn
  rw [not_or] at hn
  exact h5.2 ⟨hk,hn.1,hn.2⟩
theorem Ko {v:a8} (h:kM v=true) (k:v.Kind=2):v.bV=false∧v.Words=[]:=by
 unfold kM at h
 simp [k] at h
 exact ⟨h.1.1,h.1.2⟩
theorem Kp {v:a8} (h:kM v=true) (k:v.Kind=1):v.Number=0∧v.Words=[]:=by
 unfold kM at h
 simp [k] at h
 exact ⟨h.1.1,h.1.2⟩
theorem Kq {v:a8} (h:kM v=true) (k:v.Kind=3):v.bV=false∧v.Number=0:=by
 unfold kM at h
 simp [k] at h
 exact ⟨h.1.1,h.1.2⟩
theorem QO {v:a8} (h:kM v=true):0≤v.Kind∧v.Kind≤3:=by
 unfold kM at h
 simp at h
 exact h.1
theorem vEq {v u:a8} (k:v.Kind=u.Kind) (f:v.bV=u.bV) (n:v.Number=u.Number) (w:v.Words=u.Words):v=u:=by
 obtain ⟨a,b,c,d⟩:=v
 obtain ⟨a',b',c',d'⟩:=u
 simp only at k f n w
 rw [k,f,n,w]
def Used (v:a8):Prop:=(v.Kind=1→v.Number=0∧v.Words=[])∧(v.Kind=2→v.bV=false∧v.Words=[])∧(v.Kind=3→v.bV=false∧v.Number=0)
theorem Used.of {v:a8} (h:kM v=true):Used v:=⟨Kp h,Ko h,Kq h⟩
theorem Used.w (s:ae):Used (wV s):=⟨fun h=>(by simp [wV] at h),fun h=>(by simp [wV] at h),fun _=>⟨rfl,rfl⟩⟩
def VX (a b:a8):Int:=if a.bV≠b.bV then 1 else mC [yS a.Number b.Number,Lib.compareBytes a.Words b.Words]
theorem CI (s:ae):Lib.compareBytes s s=0:=by
 induction s with
 | nil=>rfl
 | cons c r ih=>simp [Lib.compareBytes,ih]
theorem Fh (n:Int):yS n n=0:=by unfold yS;simp
theorem QP (q:Query) (hq:Ur q) (hn:q.Field≠Ak) (v:a8) (hv:Used v) (hk:v.Kind=q.Value.Kind):
 Ry q.Op (if v.Kind=2 then yS v.Number q.Value.Number else if v≠q.Value then 1 else 0)=Ry q.Op (VX v q.Value):=by
 obtain ⟨r1,r2,r3⟩:=hq.val hn
 have hr:=QO r1
 have Kb:v.Kind=1∨v.Kind=2∨v.Kind=3:=by omega
 unfold VX
 rcases Kb with k | k | k
 ·rw [if_neg (by omega)]
  refine Kn (r3 (by omega)) ?_
  obtain ⟨a1,a2⟩:=hv.1 k
  obtain ⟨b1,b2⟩:=Kp r1 (by omega)
  rw [a1,a2,b1,b2,Fh,CI,S8]
  by_cases hf:v.bV=q.Value.bV
  ·have:v=q.Value:=vEq hk hf (by rw [a1,b1]) (by rw [a2,b2])
   rw [if_neg (fun h=>h this),if_neg (fun h=>h hf)];simp
  ·rw [if_pos (fun h=>hf (by rw [h])),if_pos hf]
 ·rw [if_pos k]
  obtain ⟨a1,a2⟩:=hv.2.1 k
  obtain ⟨b1,b2⟩:=Ko r1 (by omega)
  rw [a1,a2,b1,b2,CI,S8,if_neg (by simp)]
  congr 1
  split
  ·rfl
  ·rename_i h;exact Classical.byContradiction fun k=>h k
 ·rw [if_neg (by omega)]
  refine Kn (r3 (by omega)) ?_
  obtain ⟨a1,a2⟩:=hv.2.2 k
  obtain ⟨b1,b2⟩:=Kq r1 (by omega)
  have e0:¬ ((0:Int)≠0):=by simp
  have e1:¬ (false≠false):=by simp
  rw [a1,a2,b1,b2,Fh,S8,if_neg e1,if_neg e0]
  by_cases hw:v.Words=q.Value.Words
  ·have:v=q.Value:=vEq hk (by rw [a1,b1]) (by rw [a2,b2]) hw
   rw [if_neg (fun h=>h this),hw,CI]
  ·rw [if_pos (fun h=>hw (by rw [h]))]
   exact ⟨fun h=>(by cases h),fun h=>absurd (mD h) hw⟩
where
 mD {a b:ae} (h:Lib.compareBytes a b=0):a=b:=by
  induction a generalizing b with
  | nil=>cases b with
    | nil=>rfl
    | cons c r=>simp [Lib.compareBytes] at h
  | cons c r ih=>cases b with
    | nil=>simp [Lib.compareBytes] at h
    | cons d s=>
      simp only [Lib.compareBytes] at h
      split at h
      ·cases h
      ·split at h
       ·cases h
       ·rename_i h1 h2
        have:c=d:=by
         rw [← UInt8.toNat_inj]
         simp [UInt8.lt_iff_toNat_lt] at h1 h2
         omega
        rw [this,ih h]
end Go.Beacon
set_option linter.unusedVariables false
set_option linter.unusedSimpArgs false
namespace Go.Beacon
open Go Go.Eng
theorem Hf (n:Nat) (q:Query) (hq:QB q):bL (n+1) q=if fF q≠0 then some (fF q) else if ga q=true then some (lF q) else oh (bL n) q 0:=by
 show lf (bL n) q=_
 unfold lf om
 rw [Ij q hq,Ik q hq.s]
 rfl
theorem QQ (n:Nat) (q:Query) (hq:QB q):jB (n+1) q=if fF q≠0 then some (fF q) else if ga q=true then some (lF q) else jK (jB n) q 0:=by
 show nO (jB n) q=_
 rw [LN _ q hq,LM q hq.s]
 unfold fF
 cases ho:DI q with
 | true=>rfl
 | false=>
   simp only [Bool.false_eq_true,if_false]
   cases hb:wa q with
   | true=>rfl
   | false=>
     simp only [Bool.false_eq_true,if_false]
     have hr:1≤q.Kind∧q.Kind≤5:=by unfold DI at ho;simp at ho;omega
     have e:(q.Kind≤2)↔ga q=true:=by unfold ga;simp;omega
     by_cases c:q.Kind≤2
     ·rw [if_pos c,if_neg (fun h=>h rfl),if_pos (e.1 c)]
     ·rw [if_neg c,if_neg (fun h=>h rfl),if_neg (fun h=>c (e.2 h))]
theorem Io (self:Query→Option Int) (r:Query→Int) (q:Query) (hq:QB q) (h:∀ c∈q.Kids,self c=some (r c)):oh self q 0=some (nC (fun c=>if r c≠0 then some (r c) else none) 0 q.Kids)∧jK self q 0=some (nC (fun c=>if r c≠0 then some (r c) else none) 0 q.Kids):=by
 have hk:=hq.kids
 constructor
 ·unfold oh
  refine jh q.Kids (fun x:Int=>eN self q x) (fun c=>if r c≠0 then some (r c) else none) 0 (by omega) (fun i c h0 h1 h2=>?_) ?_
  ·show eN self q i=_
   unfold eN
   rw [if_pos h1,h2]
   simp only [Option.bind_some]
   rw [h c (gV h2)]
   simp only [Option.bind_some]
   rw [bf (by omega) (by omega)]
   by_cases e:r c=0
   ·rw [if_neg (fun k=>k e),if_neg (fun k=>k e)]
   ·rw [if_pos e,if_pos e];rfl
  ·show eN self q q.Kids.length=_
   unfold eN
   rw [if_neg (by omega)];rfl
 ·unfold jK
  refine jh q.Kids (fun x:Int=>iM self q x) (fun c=>if r c≠0 then some (r c) else none) 0 (by omega) (fun i c h0 h1 h2=>?_) ?_
  ·show iM self q i=_
   unfold iM
   rw [if_pos h1,h2]
   simp only [Option.bind_some]
   rw [h c (gV h2)]
   simp only [Option.bind_some]
   rw [bf (by omega) (by omega)]
   by_cases e:r c=0
   ·rw [if_neg (fun k=>k e),if_neg (fun k=>k e)]
   ·rw [if_pos e,if_pos e];rfl
  ·show iM self q q.Kids.length=_
   unfold iM
   rw [if_neg (by omega)];rfl
theorem Fi (r:Query→Int):∀ l:List Query,nC (fun c=>if r c≠0 then some (r c) else none) 0 l=0→∀ c∈l,r c=0
 | [],_,c,h=>(by cases h)
 | x :: l,h,c,hc=>by
   rw [nC] at h
   by_cases e:r x=0
   ·rw [if_neg (fun k=>k e)] at h
    rcases List.mem_cons.1 hc with rfl | hc
    ·exact e
    ·exact Fi r l h c hc
   ·rw [if_pos e] at h
    exact absurd h e
theorem parts_eq (n:Nat) (q:Query) (hq:QB q) (hn:q.kQ.length≤n):∃ r,bL n q=some r∧jB n q=some r:=by
 refine G3 (C:=fun n q=>∃ r,bL n q=some r∧jB n q=some r) (fun n q hq ih=>?_) n q hq hn
 rw [Hf n q hq,QQ n q hq]
 by_cases c:fF q=0
 ·have c':¬ (fF q≠0):=fun k=>k c
  rw [if_neg c',if_neg c']
  by_cases d:ga q=true
  ·rw [if_pos d,if_pos d];exact ⟨_,rfl,rfl⟩
  ·rw [if_neg d,if_neg d]
   have h1:∀ c∈q.Kids,bL n c=some ((bL n c).getD 0):=fun c hc=>by obtain ⟨r,e,_⟩:=ih c hc;rw [e];rfl
   have h2:∀ c∈q.Kids,jB n c=some ((bL n c).getD 0):=fun c hc=>by obtain ⟨r,e,e'⟩:=ih c hc;rw [e,e'];rfl
   exact ⟨_,(Io _ _ q hq h1).1,(Io _ _ q hq h2).2⟩
 ·rw [if_pos c,if_pos c];exact ⟨_,rfl,rfl⟩
theorem Oo (n:Nat) (q:Query) (hq:QB q) (hn:q.kQ.length≤n+1) (h:bL (n+1) q=some 0):fF q=0∧(ga q=true→lF q=0)∧(ga q=false→∀ c∈q.Kids,bL n c=some 0):=by
 rw [Hf n q hq] at h
 by_cases c:fF q=0
 ·rw [if_neg (fun k=>k c)] at h
  refine ⟨c,fun d=>?_,fun d k hk=>?_⟩
  ·rw [if_pos d] at h;exact Option.some.inj h
  ·rw [if_neg (by simp [d])] at h
   have h1:∀ c∈q.Kids,bL n c=some ((bL n c).getD 0):=fun c hc=>by
    obtain ⟨r,e,_⟩:=parts_eq n c (hq.Un hc).1 (by have:=(hq.Un hc).2;omega)
    rw [e];rfl
   rw [(Io _ _ q hq h1).1] at h
   rw [h1 k hk,Fi _ _ (Option.some.inj h) k hk]
 ·rw [if_pos c] at h
  exact absurd (Option.some.inj h) c
theorem Am (q:Query) (hq:QB q):∃ r,dC q=some r∧r9 q=some r∧(r=0→bL depth q=some 0):=by
 have hl:=hq.len
 have hd:q.kQ.length≤depth:=by unfold depth;omega
 obtain ⟨r,h1,h2⟩:=parts_eq depth q hq hd
 have hc:(q.kQ.filter ga).length=q.kQ.countP ga:=by rw [List.countP_eq_length_filter]
 unfold dC r9 xx EM Lv mL ny vd AI
 rw [LK depth q hq hd,Oe depth q hq hd,Ta depth q hq hd,h1,h2]
 simp only [Option.bind_some]
 rw [hc]
 by_cases c1:(40:Int) < (q.kQ.countP ga:Nat)
 ·rw [if_pos (by simp [c1]),if_pos c1]
  exact ⟨2,rfl,rfl,fun h=>by cases h⟩
 ·rw [if_neg c1]
  by_cases c2:(20:Int) < (q.dep:Nat)
  ·rw [if_pos (by simp [c2]),if_pos (decide_eq_true c2)]
   exact ⟨2,rfl,rfl,fun h=>by cases h⟩
  ·rw [if_neg (by simp [c1,c2]),if_neg (by simp [c2])]
   exact ⟨r,rfl,rfl,fun h=>by rw [h]⟩
theorem Or2 (a b:Int):gD [a,b]=some (mC [a,b]):=yR _ (by simp)
theorem Or3 (a b c:Int):gD [a,b,c]=some (mC [a,b,c]):=yR _ (by simp)
theorem QR (a b:Int):cmp_Compare_int a b=yS a b:=JX a b
def YM (a b:Version):Int:=mC [yS a.bH b.bH,yS a.bI b.bI,yS a.bF b.bF]
theorem AX (a b:Version):iV a b=some (YM a b):=by
 unfold iV;rw [Or3];simp only [QR];rfl
theorem DK (a b:Version):oW a b=some (YM a b):=by
 unfold oW;rw [Or3];simp only [QR];rfl
noncomputable def M1 (x:aE):ae→Option bq:=fun y0=>nt y0 x
theorem QT (x:aE) (f:ae):M1 x f=qJ x f:=by
 unfold M1 nt;cases qJ x f<;>rfl
theorem Ip (q:Query) (n:Int) (h:q.Op∈opsL):jU q n=some (Ry q.Op n):=by
 unfold jU;rw [C8 _ _ h];rfl
theorem QU (self:Query→(ae→Option bq)→Option Bool) (QW:Query→aE→Option Bool) (q:Query) (hq:F6 q) (k:q.Kind=1) (hl:lF q=0) (x:aE) (hx:Cc x) (hr:wH x):
 ∃ b,ef self q (M1 x)=some b∧dH QW q x=some b:=by
 have L:=YL hl k
 unfold ef dH
 rw [if_pos k,if_neg (by omega),if_neg (by omega),if_neg (by omega),if_neg (by omega),QT]
 by_cases hf:q.Field=Ak
 ·rw [if_pos hf]
  have YN:qJ x q.Field=some ⟨true,zV,x.Device.dO⟩:=by rw [hf];rfl
  rw [YN,DK]
  simp only [Option.bind_some]
  unfold pO iv
  have hv:=L.abL hf
  rw [if_neg (by rw [hv];simp),if_pos hf,AX]
  simp only [Option.bind_some]
  rw [M0,C8 _ _ L.op]
  exact ⟨_,rfl,rfl⟩
 ·rw [if_neg hf]
  obtain ⟨o,o1,o2,o3⟩:=He x hx q.Field hq.field hf
  obtain ⟨v1,v2,v3⟩:=L.val hf
  rw [o1,o2]
  simp only [Option.bind_some]
  unfold pO
  cases o with
  | none=>
    refine ⟨false,rfl,?_⟩
    show (if (0:Int)≠q.Value.Kind then some false else _)=_
    rw [if_pos (fun h=>v2 h.symm)]
  | some v=>
    have U1:iv q ⟨true,v,zX⟩ (!(vC (some v)).Is||decide ((vC (some v)).Value.Kind≠q.Value.Kind))=if v.Kind=q.Value.Kind then some (Ry q.Op (if v.Kind=2 then yS v.Number q.Value.Number else if v≠q.Value then 1 else 0)) else some false:=by
     unfold iv
     by_cases hk:v.Kind=q.Value.Kind
     ·rw [if_neg (by simp [vC,hk]),if_neg hf,if_pos hk]
      unfold jQ mi jQ
      simp only [M0,QR]
      by_cases k2:v.Kind=2
      ·rw [if_pos k2,if_pos k2]
      ·rw [if_neg k2,if_neg k2]
       by_cases e:v≠q.Value
       ·rw [if_pos e,if_pos e]
       ·rw [if_neg e,if_neg e]
     ·rw [if_pos (by simp [vC,hk]),if_neg hk]
    show ∃ b,(iv q ⟨true,v,zX⟩ (!(vC (some v)).Is||decide ((vC (some v)).Value.Kind≠q.Value.Kind))).bind (fun v3=>some v3)=some b∧(if v.Kind≠q.Value.Kind then some false else _)=some b
    rw [U1]
    by_cases hk:v.Kind=q.Value.Kind
    ·rw [if_pos hk,if_neg (show ¬ (v.Kind≠q.Value.Kind) from fun h=>h hk)]
     have u:Used v:=by
      rcases o3 hr v rfl with h | ⟨s,rfl⟩
      ·exact Used.of h.2
      ·exact Used.w s
     refine ⟨_,rfl,?_⟩
     rw [QP q L hf v u hk]
     show (gD [cmp_Compare_int v.Number q.Value.Number,Lib.compareBytes v.Words q.Value.Words]).bind _=_
     rw [Or2,QR]
     simp only [Option.bind_some,Ip q _ L.op]
     unfold VX
     by_cases e:v.bV=q.Value.bV
     ·rw [if_neg (by simp [e]),if_neg (fun h=>h e)]
     ·rw [if_pos (by simpa using e),if_pos e]
    ·rw [if_neg hk,if_pos hk]
     exact ⟨_,rfl,rfl⟩
theorem Oq (self:Query→(ae→Option bq)→Option Bool) (QW:Query→aE→Option Bool) (q:Query) (hq:F6 q) (k:q.Kind=2) (hl:lF q=0) (x:aE) (hx:Cc x) (hr:wH x):
 ∃ b,ef self q (M1 x)=some b∧dH QW q x=some b:=by
 have hf:q.Field≠Ak:=by
  intro h
  unfold lF at hl
  rw [if_pos (by rw [h,k];rfl)] at hl
  cases hl
 unfold ef dH
 rw [if_neg (by omega),if_pos k,if_neg (by omega),if_neg (by omega),if_neg (by omega),if_pos k,QT]
 obtain ⟨o,o1,o2,o3⟩:=He x hx q.Field hq.field hf
 rw [o1,o2]
 cases o with
 | none=>exact ⟨false,rfl,rfl⟩
 | some v=>
   refine ⟨true,rfl,?_⟩
   have hk:v.Kind≠0:=by
    rcases o3 hr v rfl with h | ⟨s,rfl⟩
    ·exact h.1
    ·simp [wV]
   show some (decide (v.Kind≠0))=some true
   rw [decide_eq_true hk]
theorem Tl {q:Query} (h:fF q=0):DI q=false∧wa q=false:=by
 unfold fF at h
 split at h
 ·cases h
 ·split at h
  ·cases h
  ·rename_i a b;exact ⟨by simpa using a,by simpa using b⟩
theorem Fj {α A:Type} (p:α→Bool) (a e:A):∀ l:List α,nC (fun c=>if p c=true then some a else none) e l=if l.any p=true then a else e
 | []=>rfl
 | x :: l=>by
   rw [nC,List.any_cons]
   cases hp:p x with
   | true=>simp
   | false=>simp only [Bool.false_eq_true,if_false,Bool.false_or];exact Fj p a e l
theorem An (self:Query→(ae→Option bq)→Option Bool) (of:ae→Option bq) (q:Query) (hq:QB q) (b:Query→Bool) (h:∀ c∈q.Kids,self c of=some (b c)):
 uj self q of 0=some (if q.Kids.any (fun c=>b c !=decide (q.Kind=4))=true then decide (¬ q.Kind=4) else decide (q.Kind=4)):=by
 have hk:=hq.kids
 unfold uj
 rw [jh q.Kids (fun i:Int=>fZ self q of i) (fun c=>if (fun c=>b c !=decide (q.Kind=4)) c=true then some (decide (¬ q.Kind=4)) else none) (decide (q.Kind=4)) (by omega),Fj (fun c=>b c !=decide (q.Kind=4))]
 ·intro i c h0 h1 h2
  show fZ self q of i=_
  unfold fZ
  rw [if_pos h1,h2]
  simp only [Option.bind_some]
  rw [h c (gV h2)]
  simp only [Option.bind_some]
  rw [bf (by omega) (by omega)]
  by_cases hb:(b c !=decide (q.Kind=4))=true
  ·rw [if_pos hb,if_pos hb];rfl
  ·rw [if_neg hb,if_neg hb]
 ·show fZ self q of q.Kids.length=_
  unfold fZ
  rw [if_neg (by omega)];rfl
theorem Hg (self:Query→aE→Option Bool) (q:Query) (hq:QB q) (x:aE) (b:Query→Bool) (h:∀ c∈q.Kids,self c x=some (b c)) (is:Bool):jT self is q x=some (!q.Kids.any (fun c=>b c !=is)):=by
 have hk:=hq.kids
 unfold jT
 have hc:bQ q.Kids (fun y0=>ju self y0 x is)=some (q.Kids.any (fun c=>b c !=is)):=
  dn _ _ _ (fun c hc=>by unfold ju;rw [h c hc];rfl) (by omega)
 rw [hc];rfl
theorem Ot (x:aE) (hx:Cc x) (hr:wH x) (n:Nat) (q:Query) (hq:QB q) (hn:q.kQ.length≤n):bL n q=some 0→∃ b,dG n q (M1 x)=some b∧ij n q x=some b:=by
 refine G3 (C:=fun n q=>q.kQ.length≤n→bL n q=some 0→∃ b,dG n q (M1 x)=some b∧ij n q x=some b) (fun n q hq ih hn h=>?_) n q hq hn hn
 obtain ⟨z1,z2,z3⟩:=Oo n q hq hn h
 obtain ⟨f1,f2⟩:=Tl z1
 have hrg:1≤q.Kind∧q.Kind≤5:=by unfold DI at f1;simp at f1;omega
 have Kb:q.Kind=1∨q.Kind=2∨q.Kind=3∨q.Kind=4∨q.Kind=5:=by omega
 have xf:ga q=false→∀ c∈q.Kids,∃ b,dG n c (M1 x)=some b∧ij n c x=some b:=fun hl c hc=>ih c hc (by have:=(hq.Un hc).2;omega) (z3 hl c hc)
 show ∃ b,ef (dG n) q (M1 x)=some b∧dH (ij n) q x=some b
 have bs:ga q=false→∀ c∈q.Kids,dG n c (M1 x)=some ((dG n c (M1 x)).getD false)∧ij n c x=some ((dG n c (M1 x)).getD false):=fun hl c hc=>by
  obtain ⟨b,e1,e2⟩:=xf hl c hc
  rw [e1,e2];exact ⟨rfl,rfl⟩
 rcases Kb with k | k | k | k | k
 ·exact QU _ _ q hq.s k (z2 (by unfold ga;simp [k])) x hx hr
 ·exact Oq _ _ q hq.s k (z2 (by unfold ga;simp [k])) x hx hr
 ·have hl:ga q=false:=by unfold ga;simp [k]
  have h1:q.Kids.length=1:=by
   unfold wa at f2
   rw [if_neg (by omega),if_neg (by omega),if_pos k] at f2
   simp at f2
   exact f2.1
  obtain ⟨c,hc,hm,_⟩:=jq q.Kids (i:=0) (by omega) (by omega)
  obtain ⟨b,e1,e2⟩:=xf hl c hm
  unfold ef dH
  rw [if_neg (by omega),if_neg (by omega),if_pos k,if_pos k,hc]
  simp only [Option.bind_some]
  rw [e1,e2]
  exact ⟨_,rfl,rfl⟩
 ·have hl:ga q=false:=by unfold ga;simp [k]
  unfold ef dH
  rw [if_neg (by omega),if_neg (by omega),if_neg (by omega),if_neg (by omega),if_pos k,An _ _ q hq _ (fun c hc=>(bs hl c hc).1),Hg _ q hq x _ (fun c hc=>(bs hl c hc).2)]
  refine ⟨_,rfl,?_⟩
  simp only [Option.bind_some,k,decide_true]
  cases q.Kids.any (fun c=>(dG n c (M1 x)).getD false !=true)<;>rfl
 ·have hl:ga q=false:=by unfold ga;simp [k]
  unfold ef dH
  rw [if_neg (by omega),if_neg (by omega),if_neg (by omega),if_neg (by omega),if_neg (by omega),if_pos k,An _ _ q hq _ (fun c hc=>(bs hl c hc).1),Hg _ q hq x _ (fun c hc=>(bs hl c hc).2)]
  refine ⟨_,rfl,?_⟩
  have k4:decide (q.Kind=4)=false:=by simp [k]
  have k5:decide (¬ q.Kind=4)=true:=by simp [k]
  simp only [Option.bind_some,k4,k5]
  cases q.Kids.any (fun c=>(dG n c (M1 x)).getD false !=false)<;>rfl
theorem Iq (q:Query) (hq:QB q) (hp:bL depth q=some 0) (x:aE) (hx:Cc x) (hf:dE x=some 0):∃ b,dV q x=some b∧iN q x=some b:=by
 obtain ⟨r,e,hr⟩:=E9 x hx
 rw [hf] at e
 obtain ⟨b,h1,h2⟩:=Ot x hx (hr (Option.some.inj e).symm) depth q hq (by have:=hq.len;unfold depth;omega) hp
 refine ⟨b,?_,h2⟩
 unfold dV
 show (dG depth q (M1 x)).bind _=_
 rw [h1];rfl
end Go.Beacon
set_option linter.unusedVariables false
set_option linter.unusedSimpArgs false
namespace Go.Beacon
open Go Go.Eng
structure sy (o:bb):Prop where
 QX:o.al.length≤1000
 YO:o.bj.length≤1000
 mem:o.aD.length≤200
 YP:o.aI.length≤10
 act:∀ r∈o.bj,DJ r.lI
 shr:∀ s∈o.aI,DJ s.lI∧QB s.Query
theorem Ou {f g:Int→Option (Int⊕Int)} (N:Nat) (K:Option Int) (Inv:Int→Prop) (h0:Inv 0)
 (h:∀ i:Int,0≤i→i < N→Inv i→f i=g i∧∃ r,f i=some r∧((∃ j,r=.inl j∧j=i+1∧Inv (i+1))∨∃ a,r=.inr a∧a≠0))
 (hf:f N=some (.inr 0)) (hg:g N=Option.map .inr K):∃ r,iter f 0=some r∧iter g 0=(if r≠0 then some r else K)∧(r=0→Inv N):=by
 have key:∀ (k:Nat) (i:Int),0≤i→i+k=N→Inv i→∃ r,iter f i=some r∧iter g i=(if r≠0 then some r else K)∧(r=0→Inv N):=by
  intro k
  induction k with
  | zero=>
    intro i hi hk hv
    have:i=N:=by omega
    subst this
    rw [iter_eq (f:=f),iter_eq (f:=g),hf,hg,cC]
    exact ⟨0,rfl,by simp,fun _=>hv⟩
  | succ k ih=>
    intro i hi hk hv
    obtain ⟨e,r,hr,hh⟩:=h i hi (by omega) hv
    rw [iter_eq (f:=f),iter_eq (f:=g),← e,hr]
    rcases hh with ⟨j,rfl,rfl,h2⟩ | ⟨a,rfl,h2⟩
    ·simp only [Option.bind_some,dD]
     exact ih (i+1) (by omega) (by omega) h2
    ·exact ⟨a,rfl,by rw [if_pos h2];rfl,fun k=>absurd k h2⟩
 exact key N 0 (by omega) (by omega) h0
def y9 (o:bb) (k:ae):Bool:=o.bj.any (fun r=>decide (r.Key=k))
theorem Hh (o:bb) (k:ae) (hl:o.bj.length≤1000000):wT o k=some (iF (fun r=>decide (r.Key=k)) o.bj 0):=by
 unfold wT
 rw [show gP o.bj (fun y0=>some (vX y0 k))=some (iF (fun r=>decide (r.Key=k)) o.bj 0) from tB o.bj _ _ (fun x _=>rfl) (by omega)]
 rfl
theorem Tm (o:bb) (k:ae):decide (iF (fun r:bN=>decide (r.Key=k)) o.bj 0 < 0)=!y9 o k:=by
 have h:=zr (fun r:bN=>decide (r.Key=k)) o.bj 0 (by omega)
 unfold y9
 cases e:o.bj.any (fun r=>decide (r.Key=k)) with
 | true=>rw [decide_eq_false (by have:=h.2 e;omega)];rfl
 | false=>rw [decide_eq_true (by
  apply Classical.byContradiction
  intro k2
  have:=h.1 (by omega)
  rw [e] at this;cases this)];rfl
def Ir (o:bb):Prop:=o.bj.Pairwise (fun a b=>Lib.compareBytes a.Key b.Key < 0)
theorem QY {v:ak} {o:bb} (ho:v.bb=o) (hb:sy o):∃ r,gC v=some r∧rZ o=(if r≠0 then some r else kR o)∧(r=0→Ir o):=by
 unfold gC rZ
 rw [ho]
 by_cases h2:(50:Int) < (o.bj.length:Int)
 ·rw [if_pos h2,if_pos h2];exact ⟨2,rfl,by simp,fun k=>by omega⟩
 rw [if_neg h2,if_neg h2]
 unfold pg xW
 have hl:=hb.YO
 have hh:=Ou (f:=fun x:Int=>cI v x) (g:=fun x:Int=>ig o x) o.bj.length (kR o) (fun i=>(o.bj.take i.toNat).Pairwise (fun a b=>Lib.compareBytes a.Key b.Key < 0)) (by simp) (fun i h0 hi hI=>?_) ?_ ?_
 ·obtain ⟨r,e1,e2,e3⟩:=hh
  exact ⟨r,e1,e2,fun k=>by have:=e3 k;rw [y8] at this;exact this⟩
 ·unfold cI ig
  rw [ho,if_pos hi,if_pos hi]
  obtain ⟨t,ht,RS,_⟩:=jq o.bj h0 hi
  rw [ht]
  simp only [Option.bind_some]
  rw [vz,mE]
  simp only [Option.bind_some]
  have w1:cr (i+1)=i+1:=bf (by omega) (by omega)
  obtain ⟨f1,ra,f2⟩:=y5 t.lI (hb.act t RS)
  have j1:∀ c,dS i t c=ie i t c:=fun c=>by
   unfold dS ie
   rw [f1]
  have j1v:∀ c,(c=false→(o.bj.take (i+1).toNat).Pairwise (fun a b=>Lib.compareBytes a.Key b.Key < 0))→∃ r,ie i t c=some r∧((∃ j,r=.inl j∧j=i+1∧(o.bj.take (i+1).toNat).Pairwise (fun a b=>Lib.compareBytes a.Key b.Key < 0))∨∃ a,r=.inr a∧a≠0):=by
   intro c hc
   unfold ie
   cases c with
   | true=>exact ⟨.inr 7,rfl,.inr ⟨7,rfl,by omega⟩⟩
   | false=>
     rw [if_neg (by simp),f2]
     simp only [Option.bind_some]
     by_cases z:ra=0
     ·rw [if_neg (fun k=>k z),w1];exact ⟨_,rfl,.inl ⟨_,rfl,rfl,hc rfl⟩⟩
     ·rw [if_pos z];exact ⟨_,rfl,.inr ⟨_,rfl,z⟩⟩
  cases hk:qU t.Key with
  | false=>exact ⟨rfl,.inr 5,rfl,.inr ⟨5,rfl,by omega⟩⟩
  | true=>
    rw [if_neg (by simp:¬ ((!true)=true)),if_neg (by simp:¬ ((!true)=true))]
    by_cases hp:0 < i
    ·rw [if_pos hp,if_pos hp,bf (by omega) (by omega)]
     obtain ⟨u,hu,_,_⟩:=jq o.bj (i:=i - 1) (by omega) (by omega)
     rw [hu]
     simp only [Option.bind_some]
     rw [j1]
     exact ⟨rfl,j1v _ (fun hc=>Kl (·.Key) hp ht hu (Kk hc) hI)⟩
    ·rw [if_neg hp,if_neg hp,j1]
     have hi0:i=0:=by omega
     subst hi0
     exact ⟨rfl,j1v _ (fun _=>asc_one (·.Key) ht)⟩
 ·show cI v o.bj.length=_
  unfold cI
  rw [ho,if_neg (by omega)];rfl
 ·show ig o o.bj.length=_
  unfold ig
  rw [if_neg (by omega)]
theorem VY (a b c:Int):gD [a,b,c]=some (mC [a,b,c]):=yR _ (by simp)
theorem Tn (a b c:Int):mC [-a,-b,-c]=- mC [a,b,c]:=by
 simp only [mC]
 by_cases h1:a=0
 ·by_cases h2:b=0
  ·by_cases h3:c=0
   ·simp [h1,h2,h3]
   ·rw [if_neg (by omega),if_neg (by omega),if_pos (by omega),if_neg (by omega),if_neg (by omega),if_pos h3]
  ·rw [if_neg (by omega),if_pos (by omega),if_neg (by omega),if_pos h2]
 ·rw [if_pos (by omega),if_pos h1]
theorem LX {v:ak} {o:bb} (hv:wg v o) (ha:∀ k,(cM v.cT k).isSome=y9 o k) (hb:sy o):ep v=kR o∧Ok (ep v) (fun r=>r=0→∀ m∈o.aD,(∃ p,up o.al m.ar=some p)∧y9 o m.bN=true):=by
 unfold ep kR
 rw [hv.LR]
 by_cases h2:(500:Int) < (o.aD.length:Int)
 ·rw [if_pos h2,if_pos h2];exact ⟨rfl,2,rfl,fun k=>by omega⟩
 rw [if_neg h2,if_neg h2]
 unfold nZ xV
 have hl:=hb.mem
 refine zy o.aD.length (fun i=>∀ m∈o.aD.take i.toNat,(∃ p,up o.al m.ar=some p)∧y9 o m.bN=true) _ (fun t ht=>by simp at ht) (fun i h0 h1 hI=>?_)
 unfold eI nv
 rw [hv.LR]
 by_cases hi:i < (o.aD.length:Int)
 ·rw [if_pos hi,if_pos hi]
  obtain ⟨t,ht,RS,_⟩:=jq o.aD h0 hi
  rw [ht]
  simp only [Option.bind_some]
  unfold Ab
  rw [ha,vz,mE]
  simp only [Option.bind_some]
  have w1:cr (i+1)=i+1:=bf (by omega) (by omega)
  cases hk:qU t.lV with
  | false=>exact ⟨rfl,.inr 5,rfl,fun k=>by omega⟩
  | true=>
    rw [if_neg (by simp:¬ ((!true)=true)),if_neg (by simp:¬ ((!true)=true)),C6 hv,o0 o _ (by have:=hb.QX;omega)]
    simp only [Option.bind_some]
    have vF:=MZ o t.ar
    rw [Hh o _ (by have:=hb.YO;omega)]
    simp only [Option.bind_some]
    rw [Tm]
    have j12:∀ c,cx v i t c=jn o i t c∧(c=false→(∃ p,up o.al t.ar=some p)∧y9 o t.bN=true)→Ok (cx v i t c) (Ii o.aD.length (fun i=>∀ m∈o.aD.take i.toNat,(∃ p,up o.al m.ar=some p)∧y9 o m.bN=true) (fun r=>r=0→∀ m∈o.aD,(∃ p,up o.al m.ar=some p)∧y9 o m.bN=true) i):=by
     rintro c ⟨_,hc⟩
     have M3:c=false→∀ m∈o.aD.take (i+1).toNat,(∃ p,up o.al m.ar=some p)∧y9 o m.bN=true:=fun k m hm=>by
      rcases pV h0 ht hm with k2 | rfl
      ·exact hI m k2
      ·exact hc k
     have j2v:∀ d,c=false→Ok (cw i d) (Ii o.aD.length (fun i=>∀ m∈o.aD.take i.toNat,(∃ p,up o.al m.ar=some p)∧y9 o m.bN=true) (fun r=>r=0→∀ m∈o.aD,(∃ p,up o.al m.ar=some p)∧y9 o m.bN=true) i):=by
      intro d hcf
      unfold cw
      cases d with
      | true=>exact ⟨.inr 7,rfl,fun k=>by omega⟩
      | false=>rw [if_neg (by simp),w1];exact ⟨.inl (i+1),rfl,rfl,hi,M3 hcf⟩
     unfold cx
     cases c with
     | true=>exact ⟨.inr 8,rfl,fun k=>by omega⟩
     | false=>
       rw [if_neg (by simp),hv.LR]
       by_cases hp:0 < i
       ·rw [if_pos hp,bf (by omega) (by omega)]
        obtain ⟨u,hu,_,_⟩:=jq o.aD (i:=i - 1) (by omega) (by omega)
        rw [hu]
        simp only [Option.bind_some]
        unfold nk
        rw [VY]
        exact j2v _ rfl
       ·rw [if_neg hp];exact j2v _ rfl
    have hj:∀ c,cx v i t c=jn o i t c:=by
     intro c
     unfold cx jn
     cases c with
     | true=>rfl
     | false=>
       rw [if_neg (by simp:¬ (false=true)),if_neg (by simp:¬ (false=true)),hv.LR]
       by_cases hp:0 < i
       ·rw [if_pos hp,if_pos hp,bf (by omega) (by omega)]
        obtain ⟨u,hu,_,_⟩:=jq o.aD (i:=i - 1) (by omega) (by omega)
        rw [hu]
        simp only [Option.bind_some]
        unfold nk
        rw [VY,VY]
        simp only [Option.bind_some]
        have e:=Tn (Lib.compareBytes t.lV u.lV) (Lib.compareBytes t.ar u.ar) (Lib.compareBytes t.bN u.bN)
        rw [← lA,← lA,← lA] at e
        rw [e]
        show cw i _=cw i _
        congr 1
        rw [decide_eq_decide];omega
       ·rw [if_neg hp,if_neg hp];rfl
    cases eu:up o.al t.ar with
    | none=>
      rw [eu] at vF
      have VZ:iF (fun t':ar=>decide (t'.Key=t.ar)) o.al 0 < 0:=by simpa using vF
      rw [if_pos VZ]
      simp only [Option.isSome_none,Bool.not_false,Bool.true_or]
      exact ⟨hj true,j12 true ⟨hj true,fun k=>by cases k⟩⟩
    | some p=>
      rw [eu] at vF
      have VZ:¬ iF (fun t':ar=>decide (t'.Key=t.ar)) o.al 0 < 0:=by simpa using vF
      rw [if_neg VZ]
      simp only [Option.isSome_some,Bool.not_true,Bool.false_or]
      exact ⟨hj _,j12 _ ⟨hj _,fun k=>⟨⟨p,eu⟩,by simpa using k⟩⟩⟩
 ·have VV:i=o.aD.length:=by omega
  subst VV
  rw [if_neg hi,if_neg hi]
  rw [y8] at hI
  exact ⟨rfl,.inr 0,rfl,fun _=>hI⟩
end Go.Beacon
set_option linter.unusedVariables false
set_option linter.unusedSimpArgs false
namespace Go.Beacon
open Go Go.Eng
theorem Tp (a b:Int):xy [a,b]=some (mC [a,b]):=yR _ (by simp)
theorem abM (a b c:Int):gQ [a,b,c]=some (mC [a,b,c]):=yR _ (by simp)
theorem Tq {o:bb} {k r:ae} (h:up o.al k=some r):k∈wk o k:=by
 unfold wk;rw [kX h];simp
theorem Fk {v:ak} {o:bb} (hv:wg v o) (hb:sy o) (a b:ae):gY v a b=some (!decide (a=b)&&decide (b∈wk o a)):=by
 unfold gY gE
 have:=hb.QX
 have hw:=Ff o a
 by_cases c:a=b
 ·rw [if_neg (fun k=>k c),decide_eq_true c];rfl
 ·rw [if_pos c,BX hv (by omega)]
  simp only [Option.bind_some]
  rw [pt (wk o a) b (by omega),decide_eq_false c];rfl
theorem Ov {v:ak} {o:bb} (hv:wg v o) (hb:sy o) (hT:y7 o.al) (hn:∀ q,(wk o q).Nodup):
 eS v=(if (200:Int) < (o.aI.length:Int) then some 2 else wx o 0)∧Ok (eS v) (fun r=>r=0→∀ s∈o.aI,((∃ p,up o.al s.jj=some p)∧∃ p,up o.al s.To=some p)∧dC s.Query=some 0):=by
 unfold eS
 rw [hv.LR]
 by_cases h2:(200:Int) < (o.aI.length:Int)
 ·rw [if_pos h2,if_pos h2];exact ⟨rfl,2,rfl,fun k=>by omega⟩
 rw [if_neg h2,if_neg h2]
 unfold oP wx
 have hl:=hb.YP
 have ht0:=hb.QX
 refine zy o.aI.length (fun i=>∀ s∈o.aI.take i.toNat,((∃ p,up o.al s.jj=some p)∧∃ p,up o.al s.To=some p)∧dC s.Query=some 0) _ (fun t ht=>by simp at ht) (fun i h0 h1 hI=>?_)
 unfold fo pT
 rw [hv.LR]
 by_cases hi:i < (o.aI.length:Int)
 ·rw [if_pos hi,if_pos hi]
  obtain ⟨t,ht,RS,_⟩:=jq o.aI h0 hi
  rw [ht]
  simp only [Option.bind_some]
  rw [vz,mE]
  simp only [Option.bind_some]
  have w1:cr (i+1)=i+1:=bf (by omega) (by omega)
  have j3:∀ c,(c=false→(∃ p,up o.al t.jj=some p)∧∃ p,up o.al t.To=some p)→ca i t c=lP i t c∧Ok (ca i t c) (Ii o.aI.length (fun i=>∀ s∈o.aI.take i.toNat,((∃ p,up o.al s.jj=some p)∧∃ p,up o.al s.To=some p)∧dC s.Query=some 0) (fun r=>r=0→∀ s∈o.aI,((∃ p,up o.al s.jj=some p)∧∃ p,up o.al s.To=some p)∧dC s.Query=some 0) i):=by
   intro c hc
   unfold ca lP
   cases c with
   | true=>exact ⟨rfl,.inr 13,rfl,fun k=>by omega⟩
   | false=>
     rw [if_neg (by simp:¬ (false=true)),if_neg (by simp:¬ (false=true))]
     obtain ⟨rq,e1,e2,_⟩:=Am t.Query (hb.shr t RS).2
     obtain ⟨f1,ra,f2⟩:=y5 t.lI (hb.shr t RS).1
     rw [e1,e2,f1,f2]
     simp only [Option.bind_some]
     rw [Tp,abM]
     simp only [Option.bind_some]
     have hw:nP t.Time=if qI t.Time=true then 0 else 1:=by
      unfold nP pb qI rK
      rw [LH,Qs]
      by_cases k1:(0:Int)≤t.Time.jj
      ·by_cases k2:t.Time.jj≤t.Time.To
       ·by_cases k3:t.Time.To≤345686400000
        ·rw [if_neg (by simp [k1,k2];omega),if_pos (by simp [k3];omega)]
        ·rw [if_pos (by simp [k1,k2];omega),if_neg (by simp [k3])]
       ·rw [if_pos (by simp [k1,k2]),if_neg (by simp;intro _;omega)]
      ·rw [if_pos (by simp [k1]),if_neg (by simp;intro k;omega)]
     rw [abI,hw]
     by_cases z:mC [rq,ra]=0
     ·have YQ:rq=0:=by
       rw [S8] at z
       by_cases y:rq=0
       ·exact y
       ·rw [if_pos y] at z;exact z
      rw [z]
      cases bw:qI t.Time with
      | true=>
        refine ⟨by simp,?_⟩
        rw [if_neg (by simp),if_neg (by simp),w1]
        refine ⟨.inl (i+1),rfl,rfl,hi,fun s hs=>?_⟩
        rcases pV h0 ht hs with k | rfl
        ·exact hI s k
        ·exact ⟨hc rfl,by rw [e1,YQ]⟩
      | false=>
        refine ⟨by simp,?_⟩
        rw [if_neg (by simp),if_pos (by simp)]
        exact ⟨.inr 1,rfl,fun k=>by omega⟩
     ·rw [if_pos z,if_pos z,if_pos z]
      exact ⟨rfl,.inr _,rfl,fun k=>absurd k z⟩
  have j2:cX v i t true=lQ o i t true:=rfl
  have j2f:∀ {p q:ae},up o.al t.jj=some p→up o.al t.To=some q→∃ c,cX v i t false=ca i t c∧lQ o i t false=lP i t c:=by
   intro p q e1 e2
   have hw1:=Ff o t.jj
   have hw2:=Ff o t.To
   unfold cX lQ
   rw [if_neg (by simp:¬ (false=true)),if_neg (by simp:¬ (false=true)),Fk hv hb,Fk hv hb,(xe hT (by omega) (.inr ⟨p,e1⟩)).2,(xe hT (by omega) (.inr ⟨q,e2⟩)).2,if_pos (hn _),if_pos (hn _)]
   simp only [Option.bind_some]
   rw [pt (wk o t.jj) t.To (by omega),pt (wk o t.To) t.jj (by omega)]
   simp only [Option.bind_some]
   by_cases k:t.jj=t.To
   ·have:t.To∈wk o t.jj:=by rw [← k];exact Tq e1
    rw [if_pos k,if_pos (by simpa using this)]
    exact ⟨true,rfl,rfl⟩
   ·rw [if_neg k,decide_eq_false k,decide_eq_false (fun e:t.To=t.jj=>k e.symm)]
    simp only [Bool.not_false,Bool.true_and]
    by_cases k2:t.To∈wk o t.jj
    ·rw [if_pos (by simpa using k2),if_pos (by simpa using k2)];exact ⟨true,rfl,rfl⟩
    ·rw [if_neg (by simpa using k2),if_neg (by simpa using k2)];exact ⟨_,rfl,rfl⟩
  have j1:∀ c,cY v i t c=nQ o i t c∧Ok (cY v i t c) (Ii o.aI.length (fun i=>∀ s∈o.aI.take i.toNat,((∃ p,up o.al s.jj=some p)∧∃ p,up o.al s.To=some p)∧dC s.Query=some 0) (fun r=>r=0→∀ s∈o.aI,((∃ p,up o.al s.jj=some p)∧∃ p,up o.al s.To=some p)∧dC s.Query=some 0) i):=by
   intro c
   unfold cY nQ
   cases c with
   | true=>exact ⟨rfl,.inr 7,rfl,fun k=>by omega⟩
   | false=>
     rw [if_neg (by simp:¬ (false=true)),if_neg (by simp:¬ (false=true)),C6 hv,C6 hv,o0 o _ (by omega),o0 o _ (by omega)]
     simp only [Option.bind_some]
     have a1:=MZ o t.jj
     have a2:=MZ o t.To
     cases e1:up o.al t.jj with
     | none=>
       rw [e1] at a1
       rw [if_pos (by simp),if_pos (by simpa using a1)]
       exact ⟨rfl,.inr 8,rfl,fun k=>by omega⟩
     | some p=>
       rw [e1] at a1
       rw [if_neg (by simp),if_neg (by simpa using a1),a2]
       cases e2:up o.al t.To with
       | none=>exact ⟨rfl,.inr 8,rfl,fun k=>by omega⟩
       | some q=>
         simp only [Option.isSome_some,Bool.not_true]
         obtain ⟨c,g1,g2⟩:=j2f e1 e2
         rw [g1,g2]
         exact j3 c (fun _=>⟨⟨p,e1⟩,q,e2⟩)
  cases hk:qU t.Key with
  | false=>exact ⟨rfl,.inr 5,rfl,fun k=>by omega⟩
  | true=>
    rw [if_neg (by simp:¬ ((!true)=true)),if_neg (by simp:¬ ((!true)=true))]
    by_cases hp:0 < i
    ·rw [if_pos hp,if_pos hp,bf (by omega) (by omega)]
     obtain ⟨u,hu,_,_⟩:=jq o.aI (i:=i - 1) (by omega) (by omega)
     rw [hu]
     simp only [Option.bind_some]
     exact j1 _
    ·rw [if_neg hp,if_neg hp];exact j1 _
 ·have VV:i=o.aI.length:=by omega
  subst VV
  rw [if_neg hi,if_neg hi]
  rw [y8] at hI
  exact ⟨rfl,.inr 0,rfl,fun _=>hI⟩
structure BZ (o:bb):Prop where
 tree:y7 o.al
 nd:∀ q,(wk o q).Nodup
 YR:Ir o
 mem:∀ m∈o.aD,(∃ p,up o.al m.ar=some p)∧y9 o m.bN=true
 shr:∀ s∈o.aI,((∃ p,up o.al s.jj=some p)∧∃ p,up o.al s.To=some p)∧dC s.Query=some 0
structure Ao (v:ak) (o:bb):Prop where
 view:wg v o
 an9:∀ k,(cM v.cT k).isSome=y9 o k
 act:Ir o→∀ k,cM v.cT k=(o.bj.find? (fun r=>decide (r.Key=k))).map (·.lI)
 wide:v.im=[]
theorem LY (o:bb) (hb:sy o):∃ r,vf o=some r∧((r≠0∧cK o=some (none,r))∨(r=0∧BZ o∧∃ v,cK o=some (some v,0)∧Ao v o)):=by
 have ht:=hb.QX
 have hr:=hb.YO
 have hm:=hb.mem
 obtain ⟨a,hv⟩:=LU o (by omega) (by omega) (by omega)
 unfold cK vf
 rw [hv]
 simp only [Option.bind_some]
 generalize Rq:(⟨o,foldM (·.Key) (·.fi) [] o.al,foldM (·.Key) (·.lI) [] o.bj,a,[],[]⟩:ak)=v
 have ho:v.bb=o:=by rw [← Rq]
 have hV:o.al.Pairwise (fun a b=>a.Key≠b.Key)→wg v o:=fun k=>by rw [← Rq];exact VU o k _ _ _ _
 have hA:∀ k,(cM v.cT k).isSome=y9 o k:=fun k=>by
  rw [← Rq]
  show (cM (foldM (·.Key) (·.lI) [] o.bj) k).isSome=_
  rw [Fg (·.Key) (·.lI) k o.bj []];simp [y9,E4]
 have uS:Ir o→∀ k,cM v.cT k=(o.bj.find? (fun r=>decide (r.Key=k))).map (·.lI):=fun hR k=>by
  rw [← Rq]
  show cM (foldM (·.Key) (·.lI) [] o.bj) k=_
  rw [CH (·.Key) (·.lI) k o.bj [] (hR.imp (fun h=>QM h)),E4,Option.or_none]
 obtain ⟨e1,r1,e2,e3⟩:=Tk (by omega) ho hV
 rw [← e1,e2]
 simp only [Option.bind_some]
 by_cases z1:r1=0
 ·rw [if_neg (fun k:r1≠0=>k z1),if_neg (fun k:r1≠0=>k z1)]
  obtain ⟨_,hT,hn⟩:=e3 z1
  have hVR:=hV hT.nd
  obtain ⟨r2,f1,f2,f3⟩:=QY ho hb
  rw [f1,f2]
  simp only [Option.bind_some]
  by_cases z2:r2=0
  ·rw [if_neg (fun k:r2≠0=>k z2),if_neg (fun k:r2≠0=>k z2)]
   obtain ⟨g1,r3,g2,g3⟩:=LX hVR hA hb
   rw [← g1,g2]
   simp only [Option.bind_some]
   by_cases z3:r3=0
   ·rw [if_neg (fun k:r3≠0=>k z3),if_neg (fun k:r3≠0=>k z3)]
    obtain ⟨i1,r4,i2,i3⟩:=Ov hVR hb hT hn
    rw [← i1,i2]
    simp only [Option.bind_some]
    refine ⟨r4,rfl,?_⟩
    by_cases z4:r4=0
    ·rw [if_neg (fun k:r4≠0=>k z4)]
     exact .inr ⟨z4,⟨hT,hn,f3 z2,g3 z3,i3 z4⟩,v,rfl,hVR,hA,uS,by rw [← Rq]⟩
    ·rw [if_pos z4];exact .inl ⟨z4,rfl⟩
   ·rw [if_pos z3,if_pos z3];exact ⟨r3,rfl,.inl ⟨z3,rfl⟩⟩
  ·rw [if_pos z2,if_pos z2]
   simp only [Option.bind_some]
   rw [if_pos z2]
   exact ⟨r2,rfl,.inl ⟨z2,rfl⟩⟩
 ·rw [if_pos z1,if_pos z1];exact ⟨r1,rfl,.inl ⟨z1,rfl⟩⟩
end Go.Beacon
set_option linter.unusedVariables false
set_option linter.unusedSimpArgs false
set_option linter.unusedSectionVars false
namespace Go.Beacon
open Go Go.Eng
section
variable {o:bb} (hb:sy o) (hr:BZ o) {v:ak} (hc:cK o=some (some v,0)) (hv:Ao v o)
include hb hr
theorem DX (k:ae):(wk o k).length≤1001:=by have:=Ff o k;have:=hb.QX;omega
theorem QZ (k:ae) (hk:∃ p,up o.al k=some p):rS o k=some (wk o k):=by
 have ht:=hb.QX
 rw [(xe hr.tree (by omega) (k:=k) (.inr hk)).2,if_pos (hr.nd _)]
include hc hv
end
def B0 (o:bb) (k:ae):List ae:=((o.bj.find? (fun r=>decide (r.Key=k))).map (·.lI)).getD []
section
variable {o:bb} (hb:sy o) (hr:BZ o)
include hb hr
theorem Kr (k:ae):DJ (B0 o k):=by
 unfold B0
 cases e:o.bj.find? (fun r=>decide (r.Key=k)) with
 | none=>exact ⟨by simp,fun x hx=>by cases hx⟩
 | some r=>exact hb.act r (List.mem_of_find?_eq_some e)
theorem Q0 (k:ae) (hk:y9 o k=true):∃ r,idx o.bj (iF (fun r=>decide (r.Key=k)) o.bj 0)=some r∧r.lI=B0 o k:=by
 unfold y9 at hk
 cases e:o.bj.find? (fun r=>decide (r.Key=k)) with
 | none=>
   rw [List.find?_eq_none] at e
   obtain ⟨r,h1,h2⟩:=List.any_eq_true.1 hk
   exact absurd h2 (e r h1)
 | some r=>
   have:=CF (fun r:bN=>decide (r.Key=k)) o.bj [] r e
   exact ⟨r,by simpa using this,by unfold B0;rw [e];rfl⟩
end
end Go.Beacon
set_option linter.unusedVariables false
set_option linter.unusedSimpArgs false
set_option linter.unusedSectionVars false
namespace Go.Beacon
open Go Go.Eng
section
variable {o:bb} (hb:sy o) (hr:BZ o) {v:ak} (hv:Ao v o)
include hb hr hv
theorem Q1 (k:ae):(cM v.cT k).getD []=B0 o k:=by rw [hv.act hr.YR k];rfl
end
end Go.Beacon
set_option linter.unusedVariables false
set_option linter.unusedSimpArgs false
namespace Go.Beacon
open Go Go.Eng
def QS (m:Nat) (q:Query):Prop:=q.kQ.length≤m∧∀ x∈q.kQ,F6 x
theorem QS.mono {m k:Nat} {q:Query} (h:QS m q) (hk:m≤k):QS k q:=⟨Nat.le_trans h.1 hk,h.2⟩
theorem QS.b {m:Nat} {q:Query} (h:QS m q) (hm:m≤5000):QB q:=⟨Nat.le_trans h.1 hm,h.2⟩
def C9 (m:Nat) (l:List Query):Prop:=(Query.lU l).length≤m∧∀ x∈Query.lU l,F6 x
theorem Hi:∀ a b:List Query,Query.lU (a++b)=Query.lU a++Query.lU b
 | [],b=>by simp [Query.lU]
 | x :: a,b=>by rw [List.cons_append,Query.lU,Hi a b,Query.lU,List.append_assoc]
theorem C9.nil:C9 0 []:=⟨by simp [Query.lU],fun x h=>by simp [Query.lU] at h⟩
theorem C9.app {m k:Nat} {a b:List Query} (h:C9 m a) (h':C9 k b):C9 (m+k) (a++b):=by
 unfold C9
 rw [Hi]
 refine ⟨by rw [List.length_append];have:=h.1;have:=h'.1;omega,fun x hx=>?_⟩
 rcases List.mem_append.1 hx with k | k
 ·exact h.2 x k
 ·exact h'.2 x k
theorem C9.one {m:Nat} {q:Query} (h:QS m q):C9 m [q]:=by
 unfold C9
 simp only [Query.lU,List.append_nil];exact h
theorem QS.kids {m:Nat} {q:Query} (h:QS m q):C9 (m - 1) q.Kids:=by
 obtain ⟨h1,h2⟩:=h
 rw [q.tE] at h1 h2
 rw [List.length_cons] at h1
 exact ⟨by omega,fun x hx=>h2 x (List.mem_cons_of_mem _ hx)⟩
theorem QS.mk {m:Nat} {k:Int} {f o:ae} {v:a8} {w:Version} {l:List Query} (hf:f.length≤100000) (ho:o.length≤100000) (hv:v.Words.length≤100000) (h:C9 m l):QS (m+1) ⟨k,f,o,v,w,l⟩:=by
 unfold QS
 rw [Query.tE]
 refine ⟨by rw [List.length_cons];exact Nat.succ_le_succ h.1,fun x hx=>?_⟩
 rcases List.mem_cons.1 hx with rfl | hx
 ·exact ⟨hf,ho,hv⟩
 ·exact h.2 x hx
theorem QS.s {m:Nat} {q:Query} (h:QS m q):F6 q:=h.2 q q.J8
theorem pv {s:ae} {L:List ae} (h:s∈L) (hl:L.all (fun x=>decide (x.length≤100))=true):s.length≤100000:=by
 have:=List.all_eq_true.1 hl s h
 simp at this;omega
theorem B1 {s:tC} {K:Int} (hs:nW s K) (hK:1≤K):qT (gz s) (K - 1) (fun t=>t.length≤100000):=by
 refine qT.of ?_
 unfold gz
 refine Ok.gen (gh hs hK (by simp) (by simp)) (fun t s1 h q=>Ok.ret ⟨pv h (by decide),q⟩)
theorem DY {s:tC} {K:Int} {L:List ae} (hL:L≠[]∧L.length≤100∧L.all (fun x=>decide (x.length≤100))=true) (hs:nW s K) (hK:1≤K):qT (iR L s) (K - 1) (fun v=>v.Words.length≤100000):=by
 refine qT.of ?_
 unfold iR
 refine Ok.gen (gh hs hK hL.1 (by omega)) (fun t s1 h q=>Ok.ret ⟨pv h hL.2.2,q⟩)
theorem LZ {s:tC} {K:Int} (hs:nW s K) (hK:6≤K):qT (qG s) (K - 6) (QS 1):=by
 refine qT.of ?_
 unfold qG
 have done:∀ {k:Int} {f o:ae} {v:a8} {w:Version} {s':tC} {K':Int},f.length≤100000→o.length≤100000→v.Words.length≤100000→nW s' K'→K - 6≤K'→Ok (some ((⟨k,f,o,v,w,[]⟩:Query),s')) (fun r=>QS 1 r.1∧nW r.2 (K - 6)):=
  fun hf ho hv hq hk=>Ok.ret ⟨QS.mk hf ho hv C9.nil,hq.less hk⟩
 refine Ok.gen (sV hs (by omega) (by omega) (by omega)) (fun n s1 _ q1=>?_)
 dsimp only
 split
 ·refine Ok.gen (gh q1 (by omega) (by simp) (by simp)) (fun t s2 h q2=>?_)
  exact done (pv h (by decide)) (by simp) (by simp) q2 (by omega)
 split
 ·refine Ok.gen (B1 q1 (by omega)) (fun t s2 h q2=>?_)
  refine Ok.gen (DY (by decide) q2 (by omega)) (fun v s3 hv q3=>?_)
  exact done (by simp) h hv q3 (by omega)
 split
 ·refine Ok.gen (gh q1 (by omega) (by simp) (by simp)) (fun f s2 hf q2=>?_)
  refine Ok.gen (B1 q2 (by omega)) (fun t s3 h q3=>?_)
  refine Ok.gen (DY (by decide) q3 (by omega)) (fun v s4 hv q4=>?_)
  exact done (pv hf (by decide)) h hv q4 (by omega)
 split
 ·refine Ok.gen (gh q1 (by omega) (by simp [wQ]) (by simp [wQ])) (fun o s2 ho q2=>?_)
  refine Ok.gen (sV q2 (by omega) (by omega) (by omega)) (fun a s3 _ q3=>?_)
  refine Ok.gen (mU q3 (by omega) (by simp) (by simp)) (fun b s4 _ q4=>?_)
  refine Ok.gen (mU q4 (by omega) (by simp) (by simp)) (fun c s5 _ q5=>?_)
  exact done (by simp) (pv ho (by unfold wQ;decide)) (by simp) q5 (by omega)
 split
 ·refine Ok.gen (B1 q1 (by omega)) (fun t s2 h q2=>?_)
  refine Ok.gen (DY (by decide) q2 (by omega)) (fun v s3 hv q3=>?_)
  exact done (by simp) h hv q3 (by omega)
 split
 ·refine Ok.gen (B1 q1 (by omega)) (fun t s2 h q2=>?_)
  refine Ok.gen (sW q2 (by omega) (by omega) (by omega)) (fun b s3 _ q3=>?_)
  exact done (by simp) h (by simp) q3 (by omega)
 split
 ·refine Ok.gen (B1 q1 (by omega)) (fun t s2 h q2=>?_)
  refine Ok.gen (DY (by decide) q2 (by omega)) (fun v s3 hv q3=>?_)
  exact done (by simp) h hv q3 (by omega)
 ·refine Ok.gen (gh q1 (by omega) (by simp [wQ]) (by simp [wQ])) (fun o s2 ho q2=>?_)
  refine Ok.gen (mU q2 (by omega) (by simp) (by simp)) (fun c s5 _ q5=>?_)
  exact done (by simp) (pv ho (by unfold wQ;decide)) (by simp) q5 (by omega)
def Da:Nat→Int
 | 0=>10
 | d+1=>3+3 * Da d
def Db:Nat→Nat
 | 0=>1
 | d+1=>1+3 * Db d
theorem zA:∀ d,10≤Da d
 | 0=>by simp [Da]
 | d+1=>by have:=zA d;simp only [Da];omega
theorem Tr:∀ d,1≤Db d
 | 0=>by simp [Db]
 | d+1=>by simp only [Db];omega
theorem Iu (self:tC→Int→Option (Query×tC)) (d:Nat) (hd:d≤1000) (Q2:∀ (s:tC) (K:Int),nW s K→Da d≤K→qT (self s d) (K - Da d) (QS (Db d))) (hz:Db d≤1000) (v7:Int×tC) (m:Int) (hm:1≤m∧m≤3) (L:List Int) (n:Int) (K:Int) (hs:nW ⟨L,n⟩ K) (hK:3 * Da d≤K):
 Ok (oE self (d+1:Nat) v7 m L n [] 0) (fun r=>QS (1+3 * Db d) r.1∧nW r.2 (K - 3 * Da d)):=by
 have hp:=zA d
 unfold oE
 refine Ok.iter (fun x:(List Int)×Int×(List Query)×Int=>(3 - x.2.2.2).toNat) (fun x=>(0≤x.2.2.2∧x.2.2.2≤m)∧nW ⟨x.1,x.2.1⟩ (K - Da d * x.2.2.2)∧C9 (Db d * x.2.2.2.toNat) x.2.2.1) ?_ _ ⟨⟨by simp,by simp;omega⟩,by simpa using hs,by simpa using C9.nil⟩
 rintro ⟨L,n,l,i⟩ ⟨h0,h1,h2⟩
 dsimp only at h0 h1 h2 ⊢
 have w1:cr (i+1)=i+1:=bf (by omega) (by omega)
 have w2:cr (((d+1:Nat):Int) - 1)=d:=by rw [show ((d+1:Nat):Int) - 1=d by omega];exact bf (by omega) (by omega)
 have hlen:l.length≤3000:=by
  have e1:=xd l
  have e2:=h2.1
  have:Db d * i.toNat≤1000 * 3:=Nat.mul_le_mul hz (by omega)
  omega
 have hi3:i=0∨i=1∨i=2∨i=3:=by omega
 unfold iS
 split
 ·rename_i hi
  rw [w2]
  have hK':Da d≤K - Da d * i:=by rcases hi3 with rfl | rfl | rfl | rfl<;>omega
  refine Ok.gen (Q2 _ _ h1 hK') (fun q s' hq q'=>?_)
  have M3:∀ l':List Query,C9 (Db d * i.toNat+Db d) l'→Ok (gi i (q,s') l') (Um (fun x:(List Int)×Int×(List Query)×Int=>(3 - x.2.2.2).toNat) (fun x=>(0≤x.2.2.2∧x.2.2.2≤m)∧nW ⟨x.1,x.2.1⟩ (K - Da d * x.2.2.2)∧C9 (Db d * x.2.2.2.toNat) x.2.2.1) (fun r=>QS (1+3 * Db d) r.1∧nW r.2 (K - 3 * Da d)) (L,n,l,i)):=by
   intro l' Cf
   unfold gi
   rw [w1]
   refine Ok.ret ⟨⟨⟨by dsimp only;omega,by dsimp only;omega⟩,?_,?_⟩,by dsimp only;omega⟩
   ·dsimp only
    have e:K - Da d * (i+1)=K - Da d * i - Da d:=by rw [Int.mul_add];omega
    rw [e];exact q'
   ·dsimp only
    have e:Db d * (i+1).toNat=Db d * i.toNat+Db d:=by rw [show (i+1).toNat=i.toNat+1 by omega,Nat.mul_succ]
    rw [e];exact Cf
  have hql:=hq.kids
  have hk2:q.Kids.length≤1000:=by
   have e1:=xd q.Kids
   have e2:=hql.1
   omega
  unfold k6
  split
  ·refine Ok.app (by dsimp only;omega) ?_
   exact M3 _ (C9.app h2 ⟨Nat.le_trans hql.1 (by omega),hql.2⟩)
  ·refine Ok.app (by simp;omega) ?_
   exact M3 _ (C9.app h2 (C9.one hq))
 ·refine Ok.inr (Ok.ret ⟨?_,?_⟩)
  ·have e:Db d * i.toNat≤3 * Db d:=by rw [Nat.mul_comm];exact Nat.mul_le_mul_right _ (by omega)
   have:=QS.mk (k:=v7.1) (f:=[]) (o:=[]) (v:=⟨0,false,0,[]⟩) (w:=⟨0,0,0⟩) (by simp) (by simp) (by simp) h2
   exact this.mono (by omega)
  ·have:Da d * i≤3 * Da d:=by rcases hi3 with rfl | rfl | rfl | rfl<;>omega
   exact h1.less (by omega)
theorem xQ:∀ (d:Nat) (f:Nat),d < f→d≤3→∀ (s:tC) (K:Int),nW s K→Da d≤K→qT (ez f s d) (K - Da d) (QS (Db d))
 | 0,f+1,_,_,s,K,hs,hK=>by
   have hp:=zA 0
   refine qT.of ?_
   show Ok (fj (ez f) s ((0:Nat):Int)) _
   unfold fj
   rw [if_pos (by simp)]
   unfold gm
   rw [if_pos rfl]
   refine Ok.gen (LZ (s:=⟨s.L,s.at_⟩) hs (by omega)) (fun q s1 hq q1=>Ok.ret ⟨hq,q1.less (by omega)⟩)
 | d+1,f+1,hf,hd,s,K,hs,hK=>by
   have hp:=zA d
   have hz:Db d≤1000:=by
    have CS:d=0∨d=1∨d=2:=by omega
    rcases CS with rfl | rfl | rfl<;>decide
   have Q2:=xQ d f (by omega) (by omega)
   have hKd:3+3 * Da d≤K:=hK
   refine qT.of ?_
   show Ok (fj (ez f) s ((d+1:Nat):Int)) (fun r=>QS (1+3 * Db d) r.1∧nW r.2 (K - (3+3 * Da d)))
   unfold fj
   rw [if_neg (by omega)]
   refine Ok.gen (sW hs (by omega) (by omega) (by omega)) (fun c s1 _ q1=>?_)
   dsimp only
   unfold gm
   split
   ·refine Ok.gen (LZ (s:=⟨s1.L,s1.at_⟩) q1 (by omega)) (fun q s2 hq q2=>Ok.ret ⟨hq.mono (by have:=Tr d;omega),q2.less (by omega)⟩)
   ·refine Ok.gen (mU (s:=⟨s1.L,s1.at_⟩) q1 (by omega) (by simp) (by simp)) (fun k s2 _ q2=>?_)
    dsimp only
    have fin:∀ (m:Int) (s3:tC) (K3:Int),1≤m∧m≤3→nW s3 K3→K - 3≤K3→Ok (gj (ez f) ((d+1:Nat):Int) (k,s2) s3.L s3.at_ m) (fun r=>QS (1+3 * Db d) r.1∧nW r.2 (K - (3+3 * Da d))):=by
     intro m s3 K3 hm h3 hk3
     unfold gj
     refine (Iu (ez f) d (by omega) Q2 hz (k,s2) m hm s3.L s3.at_ K3 h3 (by omega)).mono (fun r hr=>⟨hr.1,hr.2.less (by omega)⟩)
    split
    ·refine Ok.gen (mU q2 (by omega) (by simp) (by simp)) (fun m s3 hm q3=>?_)
     dsimp only
     have:=BT (lo:=2) (hi:=3) hm (by decide)
     exact fin m s3 _ (by omega) q3 (by omega)
    ·exact fin 1 s2 _ (by omega) q2 (by omega)
theorem Ts {s:tC} {K:Int} (hs:nW s K) (hK:150≤K):qT (ry s) (K - 150) QB:=by
 refine qT.of ?_
 unfold ry
 refine Ok.gen (mU hs (by omega) (by simp) (by simp)) (fun d s1 hd q1=>?_)
 have CS:=BT (lo:=0) (hi:=2) hd (by decide)
 obtain ⟨e,rfl⟩:∃ e:Nat,d=e:=⟨d.toNat,by omega⟩
 have he:e≤2:=by omega
 have hdr:Da e≤129:=by
  have:e=0∨e=1∨e=2:=by omega
  rcases this with rfl | rfl | rfl<;>decide
 have jX:Db e≤13:=by
  have:e=0∨e=1∨e=2:=by omega
  rcases this with rfl | rfl | rfl<;>decide
 have hp:=zA e
 have YQ:=xQ e depth (by unfold depth;omega) (by omega) s1 (K - 1) q1 (by omega)
 dsimp only
 refine Ok.gen (P:=QS (Db e)) (k:=K - 1 - Da e) YQ (fun q s2 hq q2=>?_)
 have hq:=hq.mono jX
 have IL:=hq.s
 have Xe:=hq.kids
 dsimp only
 refine Ok.gen (sW q2 (by omega) (by omega) (by omega)) (fun c s3 _ q3=>?_)
 have j1:∀ {L:List Int} {n k:Int} {f o:ae} {a:Int} {b:Bool} {c:Int} {w:ae} {x y z:Int} {l:List Query} {K':Int},nW ⟨L,n⟩ K'→K - 150≤K'→f.length≤100000→o.length≤100000→w.length≤100000→C9 100 l→Ok (ng L n k f o a b c w x y z l) (fun r=>QB r.1∧nW r.2 (K - 150)):=by
  intro L n k f o a b c w x y z l K' h1 h2 h3 h4 h5 h6
  exact Ok.ret ⟨(QS.mk (v:=⟨a,b,c,w⟩) h3 h4 h5 h6).b (by omega),h1.less h2⟩
 have Ks:C9 100 q.Kids:=⟨by have:=Xe.1;omega,Xe.2⟩
 dsimp only
 split
 ·refine Ok.gen (sV q3 (by omega) (by omega) (by omega)) (fun t s4 _ q4=>?_)
  dsimp only
  split
  ·refine Ok.gen (QA q4 (by omega) (by omega) (by omega) (by omega)) (fun u s5 _ q5=>?_)
   exact j1 q5 (by omega) IL.field IL.op IL.words Ks
  split
  ·refine Ok.gen (gh q4 (by omega) (by simp) (by simp)) (fun u s5 hu q5=>?_)
   exact j1 q5 (by omega) (pv hu (by decide)) IL.op IL.words Ks
  split
  ·refine Ok.gen (gh q4 (by omega) (by simp) (by simp)) (fun u s5 hu q5=>?_)
   exact j1 q5 (by omega) IL.field (pv hu (by decide)) IL.words Ks
  split
  ·refine Ok.gen (sV q4 (by omega) (by omega) (by omega)) (fun u s5 hu q5=>?_)
   dsimp only
   refine Ok.idx hu.1 (by simpa using hu.2) (fun v _ hv=>?_)
   refine j1 q5 (by omega) IL.field IL.op ?_ Ks
   simp only [List.mem_cons,List.not_mem_nil,or_false] at hv
   rcases hv with rfl | rfl | rfl | rfl | rfl<;>simp
  split
  ·unfold iG
   have TU:q.Kids.length≤100:=by
    have e1:=xd q.Kids
    have e2:=Xe.1
    omega
   refine Ok.app (by simp;omega) ?_
   refine Ok.gen (LZ q4 (by omega)) (fun u s5 hu q5=>?_)
   refine Ok.app (by simp;omega) ?_
   refine j1 q5 (by omega) IL.field IL.op IL.words ?_
   rw [List.nil_append]
   have:=C9.app Xe (C9.one hu)
   exact ⟨Nat.le_trans this.1 (by omega),this.2⟩
  ·refine Ok.gen (mU q4 (by omega) (by simp) (by simp)) (fun m s5 hm q5=>?_)
   have UD:=BT (lo:=18) (hi:=20) hm (by decide)
   unfold xU
   refine Ok.iter (fun x:Int×ae×ae×Int×Bool×Int×ae×Int×Int×Int×(List Query)×Int=>(20 - x.2.2.2.2.2.2.2.2.2.2.2).toNat)
    (fun x=>(0≤x.2.2.2.2.2.2.2.2.2.2.2∧x.2.2.2.2.2.2.2.2.2.2.2≤20)∧(x.2.1.length≤100000∧x.2.2.1.length≤100000∧x.2.2.2.2.2.2.1.length≤100000)∧C9 (12+x.2.2.2.2.2.2.2.2.2.2.2.toNat) x.2.2.2.2.2.2.2.2.2.2.1) ?_ _ ⟨by simp,⟨IL.field,IL.op,IL.words⟩,⟨by have:=Xe.1;simp;omega,Xe.2⟩⟩
   rintro ⟨k,f,o,a,b,c,w,x,y,z,l,i⟩ ⟨h0,h1,h2⟩
   dsimp only at h0 h1 h2 ⊢
   unfold nh
   split
   ·rename_i hi
    dsimp only at hi
    rw [bf (by omega) (by omega)]
    refine Ok.ret ⟨⟨⟨by dsimp only;omega,by dsimp only;omega⟩,⟨by simp,by simp,by simp⟩,?_⟩,by dsimp only;omega⟩
    have:=C9.one (QS.mk (k:=k) (w:=⟨x,y,z⟩) (v:=⟨a,b,c,w⟩) h1.1 h1.2.1 h1.2.2 h2)
    dsimp only
    exact ⟨by have:=this.1;omega,this.2⟩
   ·refine Ok.inr ?_
    exact j1 q5 (by omega) h1.1 h1.2.1 h1.2.2 ⟨by have:=h2.1;omega,h2.2⟩
 ·exact j1 q3 (by omega) IL.field IL.op IL.words Ks
end Go.Beacon
set_option linter.unusedVariables false
set_option linter.unusedSimpArgs false
namespace Go.Beacon
open Go Go.Eng
theorem DJ.of {l:List ae} (h:l.length≤100) (h2:l.all (fun x=>decide (x.length≤100))=true):DJ l:=⟨by omega,fun x hx=>by
 have:=List.all_eq_true.1 h2 x hx
 simp at this;omega⟩
theorem L0 {s:tC} {K:Int} (hs:nW s K) (hK:1≤K):qT (oD s) (K - 1) DJ:=by
 refine qT.of ?_
 unfold oD
 refine Ok.gen (sV hs (by omega) (by omega) (by omega)) (fun u s1 hu q1=>?_)
 dsimp only
 refine Ok.idx hu.1 (by simpa using hu.2) (fun v _ hv=>?_)
 refine Ok.ret ⟨?_,q1⟩
 simp only [List.mem_cons,List.not_mem_nil,or_false] at hv
 rcases hv with rfl | rfl | rfl | rfl | rfl<;>exact DJ.of (by simp) rfl
def ShB (s:bA):Prop:=DJ s.lI∧QB s.Query
theorem Kt (fH:ae) (n28:Int) (h28:0≤n28∧n28 < 4) (EF:ae) (L:List Int) (n:Int) (l:List aK) (m:Nat) (hl:l.length≤m) (hm:m≤100) (K:Int) (hs:nW ⟨L,n⟩ K) (hK:3≤K):
 Ok (qo fH n28 EF L n l 0) (fun r=>∃ L' n' l',r=.inl (L',n',l',n28+1)∧nW ⟨L',n'⟩ (K - 3)∧l'.length≤m+3):=by
 unfold qo
 refine Ok.iter (fun x:(List Int)×Int×(List aK)×Int=>(3 - x.2.2.2).toNat) (fun x=>(0≤x.2.2.2∧x.2.2.2≤3)∧nW ⟨x.1,x.2.1⟩ (K - x.2.2.2)∧(x.2.2.1.length:Int)≤m+x.2.2.2) ?_ _ ⟨by simp,by simpa using hs,by simp;omega⟩
 rintro ⟨L,n,l,i⟩ ⟨h0,h1,h2⟩
 dsimp only at h0 h1 h2 ⊢
 have w1:cr (i+1)=i+1:=bf (by omega) (by omega)
 unfold ke
 split
 ·rename_i hi
  have hi:i < 3:=by simpa using hi
  refine Ok.idx h0.1 (by simpa using hi) (fun nm _ Mb=>?_)
  refine Ok.gen (sW h1 (by omega) (by omega) (by omega)) (fun c s1 _ q1=>?_)
  dsimp only
  unfold j9
  rw [w1]
  split
  ·refine Ok.app (by simp;omega) ?_
   exact Ok.ret ⟨⟨⟨by dsimp only;omega,by dsimp only;omega⟩,q1.less (by dsimp only;omega),by simp;omega⟩,by dsimp only;omega⟩
  ·exact Ok.ret ⟨⟨⟨by dsimp only;omega,by dsimp only;omega⟩,q1.less (by dsimp only;omega),by dsimp only;omega⟩,by dsimp only;omega⟩
 ·rename_i hi
  have hi:¬ i < 3:=by simpa using hi
  rw [bf (by omega) (by omega)]
  exact Ok.inr (Ok.ret ⟨L,n,l,rfl,h1.less (by omega),by omega⟩)
theorem Ku (n16:Int) (h16:0≤n16∧n16 < 2) (fH:ae) (L:List Int) (n:Int) (l:List aK) (m:Nat) (hl:l.length≤m) (hm:m≤50) (K:Int) (hs:nW ⟨L,n⟩ K) (hK:12≤K):
 Ok (qp n16 fH L n l 0) (fun r=>∃ L' n' l',r=.inl (L',n',l',n16+1)∧nW ⟨L',n'⟩ (K - 12)∧l'.length≤m+12):=by
 unfold qp
 refine Ok.iter (fun x:(List Int)×Int×(List aK)×Int=>(4 - x.2.2.2).toNat) (fun x=>(0≤x.2.2.2∧x.2.2.2≤4)∧nW ⟨x.1,x.2.1⟩ (K - 3 * x.2.2.2)∧(x.2.2.1.length:Int)≤m+3 * x.2.2.2) ?_ _ ⟨by simp,by simpa using hs,by simp;omega⟩
 rintro ⟨L,n,l,i⟩ ⟨h0,h1,h2⟩
 dsimp only at h0 h1 h2 ⊢
 unfold kf
 split
 ·rename_i hi
  have hi:i < 4:=by simpa using hi
  refine Ok.idx h0.1 (by simpa using hi) (fun nm _ Mb=>?_)
  refine (Kt fH i ⟨h0.1,hi⟩ nm L n l (m+3 * i.toNat) (by omega) (by omega) (K - 3 * i) h1 (by omega)).mono (fun r hr=>?_)
  obtain ⟨L',n',l',rfl,g1,g2⟩:=hr
  exact ⟨⟨⟨by dsimp only;omega,by dsimp only;omega⟩,g1.less (by dsimp only;omega),by dsimp only;omega⟩,by dsimp only;omega⟩
 ·rename_i hi
  have hi:¬ i < 4:=by simpa using hi
  rw [bf (by omega) (by omega)]
  exact Ok.inr (Ok.ret ⟨L,n,l,rfl,h1.less (by omega),by omega⟩)
theorem Kv (v2:ae×tC) (v5:(List ae)×tC) (hv5:DJ v5.1) (ms:List aK) (hms:ms.length≤100) (L:List Int) (n:Int) (K:Int) (hs:nW ⟨L,n⟩ K) (hK:90≤K):
 Ok (qs v2 v5 ms L n [] 0) (fun r=>(sy r.1∧r.1.al.length=4∧r.1.bj.length=3∧r.1.aD.length≤100∧r.1.aI.length≤2)∧nW r.2 (K - 90)):=by
 unfold qs
 refine Ok.iter (fun x:(List Int)×Int×(List bA)×Int=>(2 - x.2.2.2).toNat) (fun x=>(0≤x.2.2.2∧x.2.2.2≤2)∧nW ⟨x.1,x.2.1⟩ (K - 45 * x.2.2.2)∧(x.2.2.1.length:Int)≤x.2.2.2∧∀ s∈x.2.2.1,ShB s) ?_ _ ⟨by simp,by simpa using hs,by simp,fun s h=>by cases h⟩
 rintro ⟨L,n,l,i⟩ ⟨h0,h1,h2,h3⟩
 dsimp only at h0 h1 h2 h3 ⊢
 have w1:cr (i+1)=i+1:=bf (by omega) (by omega)
 unfold kh
 split
 ·rename_i hi
  have hi:i < 2:=by simpa using hi
  refine Ok.idx h0.1 (by simpa using hi) (fun nm _ Mb=>?_)
  refine Ok.gen (sW h1 (by omega) (by omega) (by omega)) (fun c s1 _ q1=>?_)
  dsimp only
  split
  ·refine Ok.gen (mU q1 (by omega) (by simp) (by simp)) (fun fr s2 _ q2=>?_)
   refine Ok.gen (gh q2 (by omega) (by simp) (by simp)) (fun a s3 _ q3=>?_)
   refine Ok.gen (mU q3 (by omega) (by simp) (by simp)) (fun d s4 hd q4=>?_)
   have CS:=BT (lo:=0) (hi:=1) hd (by decide)
   obtain ⟨e,rfl⟩:∃ e:Nat,d=e:=⟨d.toNat,by omega⟩
   have hdr:Da e≤33:=by
    have:e=0∨e=1:=by omega
    rcases this with rfl | rfl<;>decide
   have jX:Db e≤13:=by
    have:e=0∨e=1:=by omega
    rcases this with rfl | rfl<;>decide
   have hp:=zA e
   have YQ:=xQ e depth (by unfold depth;omega) (by omega) s4 _ q4 (by omega)
   dsimp only
   refine Ok.gen (P:=QS (Db e)) YQ (fun q s5 hq q5=>?_)
   have hqb:=(hq.mono jX).b (by omega)
   refine Ok.gen (L0 q5 (by omega)) (fun ac s6 Tt q6=>?_)
   refine Ok.gen (mU q6 (by omega) (by simp) (by simp)) (fun f2 s7 _ q7=>?_)
   refine Ok.gen (sW q7 (by omega) (by omega) (by omega)) (fun c s8 _ q8=>?_)
   dsimp only
   have j3:∀ a b,Ok (ir l i nm (fr,s2) (q,s5) (ac,s6) (f2,s7) (c,s8) a b) (Um (fun x:(List Int)×Int×(List bA)×Int=>(2 - x.2.2.2).toNat) (fun x=>(0≤x.2.2.2∧x.2.2.2≤2)∧nW ⟨x.1,x.2.1⟩ (K - 45 * x.2.2.2)∧(x.2.2.1.length:Int)≤x.2.2.2∧∀ s∈x.2.2.1,ShB s) (fun r=>(sy r.1∧r.1.al.length=4∧r.1.bj.length=3∧r.1.aD.length≤100∧r.1.aI.length≤2)∧nW r.2 (K - 90)) (L,n,l,i)):=by
    intro a b
    unfold ir iq
    refine Ok.app (by simp;omega) ?_
    dsimp only
    rw [w1]
    refine Ok.ret ⟨⟨⟨by dsimp only;omega,by dsimp only;omega⟩,q8.less (by dsimp only;omega),by simp;omega,fun s hs=>?_⟩,by dsimp only;omega⟩
    rcases List.mem_append.1 hs with k | k
    ·exact h3 s k
    ·rw [List.mem_singleton.1 k];exact ⟨Tt,hqb⟩
   split
   ·exact j3 _ _
   ·exact j3 _ _
  ·unfold iq
   rw [w1]
   exact Ok.ret ⟨⟨⟨by dsimp only;omega,by dsimp only;omega⟩,q1.less (by dsimp only;omega),by dsimp only;omega,h3⟩,by dsimp only;omega⟩
 ·rename_i hi
  refine Ok.inr (Ok.ret ⟨⟨⟨by simp,by simp,by dsimp only;omega,by dsimp only;omega,fun r hr=>?_,h3⟩,rfl,rfl,hms,by dsimp only;omega⟩,h1.less (by omega)⟩)
  simp only [List.mem_cons,List.not_mem_nil,or_false] at hr
  rcases hr with rfl | rfl | rfl
  ·exact DJ.of (by simp) rfl
  ·exact hv5
  ·exact DJ.of (by simp) rfl
theorem L1 {s:tC} {K:Int} (hs:nW s K) (hK:116≤K):qT (nf s) (K - 116) (fun o=>sy o∧o.al.length=4∧o.bj.length=3∧o.aD.length≤100∧o.aI.length≤2):=by
 refine qT.of ?_
 unfold nf
 refine Ok.gen (gh hs (by omega) (by simp) (by simp)) (fun v2 s1 _ q1=>?_)
 refine Ok.gen (L0 q1 (by omega)) (fun v5 s2 hv5 q2=>?_)
 dsimp only
 unfold u7
 refine Ok.iter (fun x:(List Int)×Int×(List aK)×Int=>(2 - x.2.2.2).toNat) (fun x=>(0≤x.2.2.2∧x.2.2.2≤2)∧nW ⟨x.1,x.2.1⟩ (K - 2 - 12 * x.2.2.2)∧(x.2.2.1.length:Int)≤12 * x.2.2.2) ?_ _ ⟨by simp,q2.less (by simp;omega),by simp⟩
 rintro ⟨L,n,l,i⟩ ⟨h0,h1,h2⟩
 dsimp only at h0 h1 h2 ⊢
 unfold kj
 split
 ·rename_i hi
  have hi:i < 2:=by simpa using hi
  refine Ok.idx h0.1 (by simpa using hi) (fun nm _ Mb=>?_)
  refine (Ku i ⟨h0.1,hi⟩ nm L n l (12 * i.toNat) (by omega) (by omega) (K - 2 - 12 * i) h1 (by omega)).mono (fun r hr=>?_)
  obtain ⟨L',n',l',rfl,g1,g2⟩:=hr
  exact ⟨⟨⟨by dsimp only;omega,by dsimp only;omega⟩,g1.less (by dsimp only;omega),by dsimp only;omega⟩,by dsimp only;omega⟩
 ·exact Ok.inr ((Kv (v2,s1) (v5,s2) hv5 l (by omega) L n (K - 26) (h1.less (by omega)) (by omega)).mono (fun r hr=>⟨hr.1,hr.2.less (by omega)⟩))
theorem YS {s:tC} {K:Int} (hs:nW s K) (hK:300≤K):qT (u9 s) (K - 300) sy:=by
 refine qT.of ?_
 unfold u9
 refine Ok.gen (L1 hs (by omega)) (fun o s1 ho q1=>?_)
 obtain ⟨hB,hT,hR,hM,hS⟩:=ho
 refine Ok.gen (sW q1 (by omega) (by omega) (by omega)) (fun c s2 _ q2=>?_)
 have fin:∀ {L:List Int} {n:Int} {T:List ar} {R:List bN} {M:List aK} {S:List bA} {K':Int},nW ⟨L,n⟩ K'→K - 300≤K'→T.length≤10→(R.length≤10∧∀ r∈R,DJ r.lI)→M.length≤200→(S.length≤10∧∀ s∈S,ShB s)→Ok (pG L n T R M S) (fun r=>sy r.1∧nW r.2 (K - 300)):=by
  intro L n T R M S K' a1 a2 a3 a4 a5 a6
  exact Ok.ret ⟨⟨by dsimp only;omega,by dsimp only;omega,by dsimp only;omega,by dsimp only;omega,a4.2,a6.2⟩,a1.less a2⟩
 have Xf:o.al.length≤10:=by omega
 have V0:o.bj.length≤10∧∀ r∈o.bj,DJ r.lI:=⟨by omega,hB.act⟩
 have V1:o.aD.length≤200:=by omega
 have Xg:o.aI.length≤10∧∀ s∈o.aI,ShB s:=⟨by omega,hB.shr⟩
 dsimp only
 split
 ·refine Ok.gen (sV q2 (by omega) (by omega) (by omega)) (fun z s3 _ q3=>?_)
  dsimp only
  split
  ·refine Ok.gen (sV q3 (by omega) (by omega) (by omega)) (fun j s4 hj q4=>?_)
   refine Ok.gen (gh q4 (by omega) (by simp) (by simp)) (fun a s5 _ q5=>?_)
   dsimp only
   refine Ok.idx hj.1 (by omega) (fun t _ _=>?_)
   exact fin q5 (by omega) (by simp;omega) V0 V1 Xg
  split
  ·refine Ok.gen (gh q3 (by omega) (by simp) (by simp)) (fun a s4 _ q4=>?_)
   refine Ok.gen (gh q4 (by omega) (by simp) (by simp)) (fun b s5 _ q5=>?_)
   dsimp only
   refine Ok.app (by simp;omega) ?_
   exact fin q5 (by omega) (by simp;omega) V0 V1 Xg
  split
  ·refine Ok.gen (gh q3 (by omega) (by simp) (by simp)) (fun a s4 _ q4=>?_)
   refine Ok.gen (sV q4 (by omega) (by omega) (by omega)) (fun u s5 hu q5=>?_)
   dsimp only
   refine Ok.idx hu.1 (by simpa using hu.2) (fun ac _ Tt=>?_)
   refine Ok.app (by simp;omega) ?_
   refine fin q5 (by omega) Xf ⟨by simp;omega,fun r hr=>?_⟩ V1 Xg
   rcases List.mem_append.1 hr with k | k
   ·exact hB.act r k
   ·rw [List.mem_singleton.1 k]
    simp only [List.mem_cons,List.not_mem_nil,or_false] at Tt
    rcases Tt with rfl | rfl | rfl | rfl | rfl | rfl<;>exact DJ.of (by simp) rfl
  split
  ·refine Ok.gen (gh q3 (by omega) (by simp) (by simp)) (fun a s4 _ q4=>?_)
   refine Ok.gen (gh q4 (by omega) (by simp) (by simp)) (fun b s5 _ q5=>?_)
   refine Ok.gen (gh q5 (by omega) (by simp) (by simp)) (fun c s6 _ q6=>?_)
   dsimp only
   refine Ok.app (by simp;omega) ?_
   exact fin q6 (by omega) Xf V0 (by simp;omega) Xg
  split
  ·refine Ok.gen (gh q3 (by omega) (by simp) (by simp)) (fun a s4 _ q4=>?_)
   refine Ok.gen (gh q4 (by omega) (by simp) (by simp)) (fun b s5 _ q5=>?_)
   refine Ok.gen (gh q5 (by omega) (by simp) (by simp)) (fun c s6 _ q6=>?_)
   refine Ok.gen (Ts q6 (by omega)) (fun q s7 hq q7=>?_)
   refine Ok.gen (L0 q7 (by omega)) (fun ac s8 Tt q8=>?_)
   dsimp only
   have Rj:qT (tO s8) (K - 116 - 1 - 1 - 1 - 1 - 1 - 150 - 1 - 5) (fun _=>True):=by
    refine qT.of ?_
    unfold tO
    refine Ok.gen (mU q8 (by omega) (by simp) (by simp)) (fun f1 t1 _ p1=>?_)
    refine Ok.gen (mU p1 (by omega) (by simp) (by simp)) (fun f2 t2 _ p2=>?_)
    refine Ok.gen (sW p2 (by omega) (by omega) (by omega)) (fun f3 t3 _ p3=>?_)
    dsimp only
    split
    ·refine Ok.gen (mU p3 (by omega) (by simp) (by simp)) (fun f4 t4 _ p4=>?_)
     refine Ok.gen (mU p4 (by omega) (by simp) (by simp)) (fun f5 t5 _ p5=>?_)
     exact Ok.ret ⟨trivial,p5.less (by omega)⟩
    ·exact Ok.ret ⟨trivial,p3.less (by omega)⟩
   refine Ok.gen Rj (fun w s9 _ q9=>?_)
   refine Ok.app (by simp;omega) ?_
   refine fin q9 (by omega) Xf V0 V1 ⟨by simp;omega,fun s hs=>?_⟩
   rcases List.mem_append.1 hs with k | k
   ·exact hB.shr s k
   ·rw [List.mem_singleton.1 k];exact ⟨Tt,hq⟩
  split
  ·rename_i ya
   refine Ok.gen (sV q3 (by omega) (by omega) (by omega)) (fun u s4 hu q4=>?_)
   dsimp only
   refine Ok.idx hu.1 (by simpa using hu.2) (fun ac _ Tt=>?_)
   refine Ok.idx (by omega) ya (fun x hx U6=>?_)
   refine fin q4 (by omega) Xf V0 V1 ⟨by simp;omega,fun s hs=>?_⟩
   rcases List.mem_or_eq_of_mem_set hs with k | rfl
   ·exact hB.shr s k
   ·refine ⟨?_,(hB.shr x U6).2⟩
    simp only [List.mem_cons,List.not_mem_nil,or_false] at Tt
    rcases Tt with rfl | rfl | rfl<;>exact DJ.of (by simp) rfl
  ·exact fin q3 (by omega) Xf V0 V1 Xg
 ·exact fin q2 (by omega) Xf V0 V1 Xg
end Go.Beacon
set_option linter.unusedVariables false
set_option linter.unusedSimpArgs false
namespace Go.Beacon
open Go Go.Eng
theorem Q3:∀ a b:List UInt8,a < b↔Lib.compareBytes a b < 0
 | [],[]=>by simp [Lib.compareBytes]
 | [],_ :: _=>by simp [Lib.compareBytes]
 | _ :: _,[]=>by simp [Lib.compareBytes]
 | x :: a,y :: b=>by
   have ih:=Q3 a b
   rw [List.cons_lt_cons_iff]
   unfold Lib.compareBytes
   by_cases h:x < y
   ·simp [h]
   ·by_cases h2:y < x
    ·have sE:¬ x=y:=fun e=>by subst e;exact h h2
     simp [h,h2,sE]
    ·have hx:x=y:=by
      rw [UInt8.lt_iff_toNat_lt] at h h2
      exact UInt8.toNat_inj.1 (by omega)
     subst hx
     simp [ih]
theorem Iv (a b:List UInt8):a≤b↔¬ Lib.compareBytes b a < 0:=by
 rw [← Q3];exact Iff.rfl
def SS (l:List ae):Prop:=l.Pairwise (fun a b=>Lib.compareBytes a b < 0)
theorem sX (l:List ae):(Et l).Perm l:=List.mergeSort_perm l _
theorem B2 (l:List ae):(Et l).Pairwise (fun a b=>¬ Lib.compareBytes b a < 0):=by
 have h:=List.pairwise_mergeSort (le:=fun x y:ae=>decide (x≤y)) (fun a b c h1 h2=>by
  rw [decide_eq_true_eq,Iv] at *
  intro h3
  have n1:=lA a c;have n2:=lA a b;have n3:=lA b c
  rcases Int.lt_trichotomy (Lib.compareBytes a b) 0 with e | e | e
  ·rcases Int.lt_trichotomy (Lib.compareBytes b c) 0 with f | f | f
   ·have:=BR e f;omega
   ·have:=mD f;subst this;omega
   ·omega
  ·have:=mD e;subst this;omega
  ·omega) (fun a b=>by
  rw [Bool.or_eq_true,decide_eq_true_eq,decide_eq_true_eq,Iv,Iv]
  have:=lA a b
  omega) l
 exact h.imp (fun {a b} K4=>by rw [decide_eq_true_eq,Iv] at K4;exact K4)
theorem Q4:∀ (r:List ae) (p:ae),(p :: r).Pairwise (fun a b=>¬ Lib.compareBytes b a < 0)→SS (p :: LD GX p r)∧∀ x,x∈p :: LD GX p r↔x∈p :: r
 | [],p=>fun _=>⟨List.pairwise_singleton _ _,fun x=>Iff.rfl⟩
 | y :: r,p=>fun h=>by
   have h1:=List.pairwise_cons.1 h
   have ih:=Q4 r y h1.2
   unfold LD
   by_cases e:GX y p=true
   ·have e':y=p:=of_decide_eq_true e
    subst e'
    rw [if_pos e]
    refine ⟨ih.1,fun x=>?_⟩
    rw [ih.2 x];simp
   ·have e':y≠p:=fun z=>e (decide_eq_true z)
    rw [if_neg e]
    have hpy:Lib.compareBytes p y < 0:=by
     have:=h1.1 y (by simp)
     have hn:=lA p y
     have hz:Lib.compareBytes p y≠0:=fun z=>e' (mD z).symm
     omega
    refine ⟨List.pairwise_cons.2 ⟨fun z hz=>?_,ih.1⟩,fun x=>?_⟩
    ·rcases List.mem_cons.1 hz with f | f
     ·subst f;exact hpy
     ·exact BR hpy ((List.pairwise_cons.1 ih.1).1 z f)
    ·rw [List.mem_cons,ih.2 x];simp
theorem M4 (l:List ae) (h:l.Pairwise (fun a b=>¬ Lib.compareBytes b a < 0)):SS (dd GX l)∧∀ x,x∈dd GX l↔x∈l:=by
 cases l with
 | nil=>exact ⟨List.Pairwise.nil,fun x=>Iff.rfl⟩
 | cons p r=>exact Q4 r p h
end Go.Beacon
