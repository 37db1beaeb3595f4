/- Plain facts on what the functions compute. No program in sight. -/
import Derived.Test.YtckmkjeblanlfaaGreatDoorQuoP
import Derived.Test.YtckmkjeblanlfaaGreatDoorPlBA
import Derived.Lib.MapLaws
import Derived.Lib.ValidLaws
import Derived.Lib.TrimUEq
set_option linter.unusedVariables false
set_option linter.unusedSimpArgs false
namespace Go.Beacon
open Go Go.Eng
abbrev vN:=ag
def pa (s:vN) (k:Int):Prop:=0≤s.at_∧s.at_+k≤4611686018427387904
theorem pa.less {s:vN} {k k':Int} (h:pa s k) (hk:k'≤k):pa s k':=⟨h.1,by have:=h.2;omega⟩
def qL {α:Type} (m:Option (α×vN)) (k:Int) (P:α→Prop):Prop:=∃ v s',m=some (v,s')∧P v∧pa s' k
theorem qL.bind {α β:Type} {m:Option (α×vN)} {k k':Int} {P:α→Prop} {Q:β→Prop} {f:α×vN→Option (β×vN)} (h:qL m k P) (hf:∀ v s',P v→pa s' k→qL (f (v,s')) k' Q):qL (m.bind f) k' Q:=by
 obtain ⟨v,s',rfl,h1,h2⟩:=h
 exact hf v s' h1 h2
theorem qL.ret {α:Type} {v:α} {s:vN} {k:Int} {P:α→Prop} (h1:P v) (h2:pa s k):qL (some (v,s)) k P:=⟨v,s,rfl,h1,h2⟩
theorem CF (x:Int) {n:Int} (h1:1≤n) (h2:n≤4611686018427387904):∃ v,Below x n=some v∧0≤v∧v < n:=by
 unfold Below wO
 rw [if_neg (by omega),QT (by omega)]
 have a1:=Int.lt_tmod_of_pos x (show 0 < n by omega)
 have a2:=Int.tmod_lt_of_pos x (show 0 < n by omega)
 simp only [Option.bind_some]
 split
 ·exact ⟨_,rfl,by rw [bh]<;>omega,by rw [bh]<;>omega⟩
 ·exact ⟨_,rfl,by omega,by omega⟩
theorem zj {s:vN} {n k:Int} (hs:pa s (k+1)) (h1:1≤n) (h2:n≤4611686018427387904) (hk:0≤k):qL (dw s n) k (fun v=>0≤v∧v < n):=by
 obtain ⟨a1,a2⟩:=hs
 have e1:cr (s.at_+1)=s.at_+1:=by rw [bh]<;>omega
 have e2:cr (s.at_+1 - 1)=s.at_:=by rw [bh]<;>omega
 unfold dw
 split
 ·obtain ⟨v,hv,h3,h4⟩:=CF (cr (cr (s.at_+1) * 7919)) h1 h2
  rw [hv]
  exact qL.ret ⟨h3,h4⟩ ⟨by show 0≤cr (s.at_+1);omega,by show cr (s.at_+1)+k≤_;omega⟩
 ·rename_i hl
  have uZ:(0:Int) < s.L.length:=by omega
  rw [e1,e2,Ot uZ a1,QU (by omega)]
  simp only [Option.bind_some]
  obtain ⟨x,hx,_,_⟩:=iZ s.L (i:=s.at_ % s.L.length) (Int.emod_nonneg _ (by omega)) (Int.emod_lt_of_pos _ uZ)
  rw [hx]
  simp only [Option.bind_some]
  obtain ⟨u,hu,_,_⟩:=CF x (n:=1073741824) (by omega) (by omega)
  rw [hu]
  simp only [Option.bind_some]
  obtain ⟨v,hv,h3,h4⟩:=CF (cr (u+cr (cr (s.at_.tdiv s.L.length) * cr (7919+s.at_ % s.L.length)))) h1 h2
  rw [hv]
  exact qL.ret ⟨h3,h4⟩ ⟨by simp only;omega,by simp only;omega⟩
theorem I3 {s:vN} {l:List Int} {k:Int} (hs:pa s (k+1)) (h1:l≠[]) (h2:l.length≤1000) (hk:0≤k):qL (cx s l) k (fun v=>v∈l):=by
 unfold cx
 have hl:0 < l.length:=List.length_pos_iff.2 h1
 refine qL.bind (zj hs (by omega) (by omega) hk) (fun v s' hv Eo=>?_)
 obtain ⟨x,hx,hm,_⟩:=iZ l hv.1 hv.2
 simp only [hx,Option.bind_some]
 exact qL.ret hm Eo
theorem Mq {s:vN} {a b k:Int} (hs:pa s (k+1)) (JB:a≤b) (ha:-1152921504606846976≤a) (hb:b≤1152921504606846976) (hk:0≤k):qL (pX s a b) k (fun v=>a≤v∧v≤b):=by
 unfold pX
 have e1:cr (b - a)=b - a:=by rw [bh]<;>omega
 have e2:cr (b - a+1)=b - a+1:=by rw [bh]<;>omega
 rw [if_neg (by omega),e1,e2]
 refine qL.bind (zj hs (by omega) (by omega) hk) (fun v s' hv Eo=>?_)
 refine qL.ret ?_ Eo
 simp only
 rw [bh]<;>omega
theorem I4 {s:vN} {n k:Int} (hs:pa s (k+1)) (h1:1≤n) (h2:n≤4611686018427387904) (hk:0≤k):qL (dx s n) k (fun _=>True):=by
 unfold dx
 exact qL.bind (zj hs h1 h2 hk) (fun v s' hv Eo=>qL.ret trivial Eo)
theorem BG {l:List Int} {v lo hi:Int} (h:v∈l) (hl:l.all (fun x=>decide (lo≤x∧x≤hi))=true):lo≤v∧v≤hi:=by
 rw [List.all_eq_true] at hl
 simpa using hl v h
theorem Oy {s:vN} {l:List al} {k:Int} (hs:pa s (k+1)) (h1:l≠[]) (h2:l.length≤1000) (hk:0≤k):qL (bH s l) k (fun v=>v∈l):=by
 unfold bH
 have hl:0 < l.length:=List.length_pos_iff.2 h1
 refine qL.bind (zj hs (by omega) (by omega) hk) (fun v s' hv Eo=>?_)
 obtain ⟨x,hx,hm,_⟩:=iZ l hv.1 hv.2
 simp only [hx,Option.bind_some]
 exact qL.ret hm Eo
theorem QX {s:vN} {a b k:Int} (hs:pa s (k+2)) (JB:a≤b) (ha:-1099511627776≤a) (hb:b≤1099511627776) (hk:0≤k):qL (na s a b) k (fun v=>-1099511627777≤v∧v≤1099511627777):=by
 unfold na
 refine qL.bind (I4 (k:=k+1) (hs.less (by omega)) (by omega) (by omega) (by omega)) (fun v s' hv Eo=>?_)
 simp only
 split
 ·refine qL.bind (I3 Eo (by simp) (by simp) hk) (fun v s' hv Eo=>qL.ret ?_ Eo)
  have e1:cr (a - 1)=a - 1:=by rw [bh]<;>omega
  have e2:cr (b+1)=b+1:=by rw [bh]<;>omega
  rw [e1,e2] at hv
  simp only [List.mem_cons,List.not_mem_nil,or_false] at hv
  simp only;omega
 ·refine qL.bind (Mq Eo JB (by omega) (by omega) hk) (fun v s' hv Eo=>qL.ret ?_ Eo)
  simp only;omega
theorem HX (n lo hi:Int):jw n lo hi=(decide (n < lo)||decide (hi < n)):=rfl
theorem Mr (n lo hi:Int):ve n lo hi=(decide (lo≤n)&&decide (n≤hi)):=rfl
def Nf (n:Nat):Bool:=(decide (97≤n)&&decide (n≤122))||(decide (48≤n)&&decide (n≤57))||decide (n=45)||decide (n=95)
def nH:al→Bool
 | []=>false
 | c :: r=>decide ((c :: r).length≤40)&&(decide (97≤c.toNat)&&decide (c.toNat≤122))&&(c :: r).all (fun c=>Nf c.toNat)
theorem vq (c:UInt8) (r:al):nH (c :: r)=(decide ((c :: r).length≤40)&&(decide (97≤c.toNat)&&decide (c.toNat≤122))&&(c :: r).all (fun c=>Nf c.toNat)):=rfl
theorem Ms (s:al) (hl:s.length≤40):wS s 0=some (s.all (fun c=>Nf c.toNat)):=by
 unfold wS
 rw [ru s (fun x:Int=>nn s x) (fun c=>if Nf c.toNat=true then none else some false) true (by omega),CC]
 ·intro i c h0 h1 hc
  have hB:(if (97:Int)≤(c.toNat:Int) then if (c.toNat:Int)≤(122:Int) then !true else if (48:Int)≤(c.toNat:Int) then if (c.toNat:Int)≤(57:Int) then !true else if (c.toNat:Int)=(45:Int) then !true else decide (¬ ((c.toNat:Int)=(95:Int))) else if (c.toNat:Int)=(45:Int) then !true else decide (¬ ((c.toNat:Int)=(95:Int))) else if (48:Int)≤(c.toNat:Int) then if (c.toNat:Int)≤(57:Int) then !true else if (c.toNat:Int)=(45:Int) then !true else decide (¬ ((c.toNat:Int)=(95:Int))) else if (c.toNat:Int)=(45:Int) then !true else decide (¬ ((c.toNat:Int)=(95:Int))))=!Nf c.toNat:=by
   unfold Nf
   rw [Bool.eq_iff_iff]
   repeat' split
   all_goals simp
   all_goals omega
  rw [nn,if_pos h1,hc]
  simp only [Option.bind_some]
  rw [hB]
  unfold uz
  rw [bh (by omega) (by omega)]
  cases Nf c.toNat<;>rfl
 ·rw [nn,if_neg (by omega)];rfl
theorem vO (s:al):k6 s=some (nH s):=by
 unfold k6 np
 cases s with
 | nil=>simp [nH]
 | cons c r=>
   rw [if_neg (by simp)]
   have hc:idx (c :: r) 0=some c:=rfl
   rw [hc]
   simp only [Option.bind_some]
   by_cases hl:(c :: r).length≤40
   ·rw [if_neg (by omega),Ms _ hl,vq]
    by_cases h1:(c.toNat:Int) < 97
    ·rw [if_pos h1]
     have:decide (97≤c.toNat)=false:=by simp;omega
     rw [this];simp
    ·rw [if_neg h1]
     have e1:decide (97≤c.toNat)=true:=by simp;omega
     by_cases h2:(122:Int) < c.toNat
     ·rw [if_pos (by simpa using h2)]
      have:decide (c.toNat≤122)=false:=by simp;omega
      rw [this];simp
     ·rw [if_neg (by simpa using h2)]
      have:decide (c.toNat≤122)=true:=by simp;omega
      rw [e1,this,decide_eq_true hl];simp
   ·rw [if_pos (by omega),vq,decide_eq_false hl];simp
theorem Ke:∀ n:Fin 256,decide (UInt8.ofNat n.val∈([97,98,99,100,101,102,103,104,105,106,107,108,109,110,111,112,113,114,115,116,117,118,119,120,121,122,48,49,50,51,52,53,54,55,56,57,45,95]:List UInt8))=Nf n.val:=by decide+kernel
theorem Oz:∀ n:Fin 256,decide (UInt8.ofNat n.val∈([97,98,99,100,101,102,103,104,105,106,107,108,109,110,111,112,113,114,115,116,117,118,119,120,121,122]:List UInt8))=(decide (97≤n.val)&&decide (n.val≤122)):=by decide+kernel
theorem Mt {p:UInt8→Bool} {q:Nat→Bool} (h:∀ n:Fin 256,p (UInt8.ofNat n.val)=q n.val) (c:UInt8):p c=q c.toNat:=by
 have:=h ⟨c.toNat,c.toNat_lt⟩
 simpa using this
theorem Mu {S A:Type} (f:S→Option (S⊕A)) (m:S→Nat) (Inv:S→Prop) (R:A→Prop)
 (h:∀ s,Inv s→(∃ s',f s=some (.inl s')∧Inv s'∧m s' < m s)∨(∃ a,f s=some (.inr a)∧R a)):∀ s,Inv s→∃ a,iter f s=some a∧R a:=by
 have key:∀ (n:Nat) s,m s≤n→Inv s→∃ a,iter f s=some a∧R a:=by
  intro n
  induction n with
  | zero=>
    intro s hm hi
    rcases h s hi with ⟨s',_,_,h3⟩ | ⟨a,h1,h2⟩
    ·omega
    ·exact ⟨a,by rw [iter_eq,h1];rfl,h2⟩
  | succ n ih=>
    intro s hm hi
    rcases h s hi with ⟨s',h1,h2,h3⟩ | ⟨a,h1,h2⟩
    ·obtain ⟨a,h4,h5⟩:=ih s' (by omega) h2
     exact ⟨a,by rw [iter_eq,h1];simpa using h4,h5⟩
    ·exact ⟨a,by rw [iter_eq,h1];rfl,h2⟩
 exact fun s hi=>key (m s) s (Nat.le_refl _) hi
theorem Xi (x y z:Int):AS [x,y,z]=if AS [x,y]≠0 then AS [x,y] else z:=by
 by_cases h1:x=0<;>by_cases h2:y=0<;>by_cases h3:z=0<;>simp [AS,h1,h2,h3]
theorem Xj (x y:Int):AS [x,y]=if x≠0 then x else y:=by
 by_cases h1:x=0<;>by_cases h2:y=0<;>simp [AS,h1,h2]
def ct (c:UInt8):al→List al
 | []=>[[]]
 | b :: r=>if b=c then [] :: ct c r else match ct c r with
   | []=>[[b]]
   | h :: t=>(b :: h) :: t
theorem Aj (c:UInt8):∀ s,ct c s≠[]
 | []=>by simp [ct]
 | b :: r=>by
   unfold ct
   split
   ·simp
   ·split<;>simp
theorem uV (c:UInt8):∀ s,(ct c s).length≤s.length+1
 | []=>by simp [ct]
 | b :: r=>by
   have ih:=uV c r
   unfold ct
   split
   ·simp;omega
   ·split
    ·simp
    ·rename_i h t e;rw [e] at ih;simp at ih ⊢;omega
theorem I5 (c:UInt8):∀ s,Lib.split s [c]=ct c s
 | []=>rfl
 | b :: r=>by
   have ih:=I5 c r
   unfold Lib.split at ih ⊢
   unfold ct
   by_cases hb:b=c
   ·subst hb
    have Px:Lib.index (b :: r) [b]=0:=by rw [Lib.index];simp [List.isPrefixOf]
    rw [if_pos rfl,Lib.count_cons_eq,Nat.add_comm,Lib.splitK,Px,← ih]
    simp
   ·rw [if_neg hb,Lib.count_cons_ne b c r hb,← ih]
    have hp:([c]:List UInt8).isPrefixOf (b :: r)=false:=by simp [List.isPrefixOf,Ne.symm hb]
    have Px:Lib.index (b :: r) [c]=if Lib.index r [c]==-1 then -1 else Lib.index r [c]+1:=by rw [Lib.index,hp];simp
    by_cases hm:Lib.index r [c]=-1
    ·rw [Lib.count_miss hm];rfl
    ·have Pb:=Lib.index_ge r [c]
     obtain ⟨j,hj⟩:∃ j:Nat,Lib.index r [c]=j:=⟨(Lib.index r [c]).toNat,by omega⟩
     have QY:Lib.index (b :: r) [c]=((j+1:Nat):Int):=by rw [Px,if_neg (fun e=>hm (beq_iff_eq.1 e)),hj];omega
     rw [Lib.count_hit (by simp) hj,Nat.add_comm]
     have n1:¬ ((((j+1:Nat):Int)==-1)=true):=fun h=>by have:=beq_iff_eq.1 h;omega
     have n2:¬ ((((j:Nat):Int)==-1)=true):=fun h=>by have:=beq_iff_eq.1 h;omega
     simp only [Lib.splitK,QY,hj,if_neg n1,if_neg n2]
     simp [List.take_succ_cons]
theorem Ak {s:al} {c:UInt8} (h:s.length≤1000000000):yg s [c]=some (ct c s):=by
 unfold yg
 rw [if_pos ⟨by omega,by simp⟩]
 congr 1
 have h1:=Lib.splitB_data ⟨#[c]⟩ 0 (Lib.countB ⟨s.toArray⟩ ⟨#[c]⟩) ⟨s.toArray⟩
 rw [← I5]
 exact h1
def ue (c:UInt8):al→al×al×Bool
 | []=>([],[],false)
 | b :: r=>if b=c then ([],r,true) else (b :: (ue c r).1,(ue c r).2.1,(ue c r).2.2)
theorem Al (c:UInt8):∀ s,(ue c s).2.2=false→(ue c s).1=s∧(ue c s).2.1=[]
 | []=>fun _=>⟨rfl,rfl⟩
 | b :: r=>by
   have ih:=Al c r
   unfold ue
   split
   ·intro h;cases h
   ·intro h;have:=ih h;simp [this]
theorem Py (c:UInt8):∀ s,Lib.cut s [c]=ue c s
 | []=>rfl
 | b :: r=>by
   have ih:=Py c r
   unfold Lib.cut at ih ⊢
   unfold ue
   by_cases hb:b=c
   ·subst hb
    have Px:Lib.index (b :: r) [b]=0:=by rw [Lib.index];simp [List.isPrefixOf]
    rw [if_pos rfl,Px];simp
   ·rw [if_neg hb,← ih]
    have hp:([c]:List UInt8).isPrefixOf (b :: r)=false:=by simp [List.isPrefixOf,Ne.symm hb]
    have Px:Lib.index (b :: r) [c]=if Lib.index r [c]==-1 then -1 else Lib.index r [c]+1:=by rw [Lib.index,hp];simp
    by_cases hm:Lib.index r [c]=-1
    ·rw [Px,hm];simp
    ·have Pb:=Lib.index_ge r [c]
     have hn:¬ ((Lib.index r [c]==-1)=true):=fun e=>hm (beq_iff_eq.1 e)
     obtain ⟨j,hj⟩:∃ j:Nat,Lib.index r [c]=j:=⟨(Lib.index r [c]).toNat,by omega⟩
     have QY:Lib.index (b :: r) [c]=((j+1:Nat):Int):=by rw [Px,if_neg hn,hj];omega
     rw [QY,hj,if_pos (by omega),if_pos (by omega)]
     simp
theorem OA {s:al} {c:UInt8} (h:s.length≤1000000000):L6 s [c]=some (ue c s):=by
 unfold L6
 rw [if_pos (by omega),Py]
theorem Ep (c:UInt8):∀ s,ct c s=if (ue c s).2.2=true then (ue c s).1 :: ct c (ue c s).2.1 else [s]
 | []=>rfl
 | b :: r=>by
   have ih:=Ep c r
   have e1:ct c (b :: r)=(if b=c then [] :: ct c r else match ct c r with
    | []=>[[b]]
    | h :: t=>(b :: h) :: t):=rfl
   rw [e1]
   unfold ue
   by_cases hb:b=c
   ·rw [if_pos hb,if_pos hb];rfl
   ·rw [if_neg hb,if_neg hb,ih]
    by_cases hc:(ue c r).2.2=true
    ·simp [hc]
    ·simp [hc]
theorem GK (c:UInt8):∀ s,(ue c s).1.length≤s.length∧(ue c s).2.1.length≤s.length
 | []=>⟨Nat.le_refl _,Nat.le_refl _⟩
 | b :: r=>by
   have ih:=GK c r
   unfold ue
   split
   ·simp
   ·simp;omega
def DG (k:Nat) (s:al):Bool:=decide ((ct 46 s).length≤k)&&(ct 46 s).all nH
theorem xf (Kf:Nat) (hm:Kf≤1000):∀ (k:Nat) (s:al) (n:Int),0≤n→n+k=Kf→s.length≤1000000000→qp Kf s n=some (DG k s)
 | 0,s,n,h0,hn,hs=>by
   have sw:=Aj 46 s
   have hp:0 < (ct 46 s).length:=List.length_pos_iff.2 sw
   unfold qp
   rw [iter_eq]
   show (match iu Kf s n with | _=>_)=_
   rw [iu,if_neg (by omega)]
   simp only [Option.map_some,Option.bind_some]
   unfold DG
   rw [decide_eq_false (by omega)];rfl
 | k+1,s,n,h0,hn,hs=>by
   have ih:=xf Kf hm k (ue 46 s).2.1 (n+1) (by omega) (by omega) (by have:=(GK 46 s).2;omega)
   unfold qp at ih ⊢
   rw [iter_eq]
   show (match iu Kf s n with | _=>_)=_
   rw [iu,if_pos (by omega),OA hs]
   simp only [Option.bind_some,vO]
   unfold DG
   rw [Ep 46 s]
   by_cases hk:nH (ue 46 s).1=true
   ·by_cases hc:(ue 46 s).2.2=true
    ·simp only [hk,hc,Bool.not_true,Bool.false_eq_true,if_false,if_true]
     rw [bh (by omega) (by omega)]
     refine ih.trans ?_
     unfold DG
     simp [hk]
    ·have Eo:=Al 46 s (by simpa using hc)
     rw [Eo.1] at hk
     simp [hk,hc,Eo.1]
   ·by_cases hc:(ue 46 s).2.2=true
    ·simp [hk,hc]
    ·have Eo:=Al 46 s (by simpa using hc)
     rw [Eo.1] at hk
     simp [hk,hc,Eo.1]
theorem xE {α:Type} (p:α→Bool):∀ l:List α,l.dropWhile p=[]↔l.all p=true
 | []=>by simp
 | x :: r=>by
   rw [List.dropWhile_cons]
   cases h:p x with
   | true=>simp only [if_true,List.all_cons,h,Bool.true_and];exact xE p r
   | false=>simp [h]
theorem Er (l cs:al):Lib.trimS l cs=[]↔l.all (fun c=>decide (c∈cs))=true:=by
 have hc:∀ c:UInt8,cs.contains c=decide (c∈cs):=fun c=>by rw [Bool.eq_iff_iff];simp
 unfold Lib.trimS Lib.trimLeftS Lib.trimRightS
 rw [xE,List.all_reverse]
 constructor
 ·intro h
  have hd:(l.reverse.dropWhile (cs.contains ·))=[]:=by
   cases hh:l.reverse.dropWhile (cs.contains ·) with
   | nil=>rfl
   | cons a b=>
     have h1:=List.head?_dropWhile_not (fun c=>cs.contains c) l.reverse
     rw [hh] at h h1
     simp only [List.head?_cons] at h1
     simp only [List.all_cons,Bool.and_eq_true] at h
     rw [h.1] at h1;simp at h1
  rw [xE,List.all_reverse] at hd
  simpa [hc] using hd
 ·intro h
  have hd:l.reverse.dropWhile (cs.contains ·)=[]:=by
   rw [xE,List.all_reverse];simpa [hc] using h
  rw [hd];rfl
theorem Mv {s cs:al} (h1:s.length≤100000) (h2:cs.length≤100000) (h3:cs.all (fun b=>decide (b.toNat < 128))=true):Gk s cs=some (Lib.trimS s cs):=by
 unfold Gk;rw [if_pos ⟨by omega,by omega,h3⟩]
theorem nI (s:al):tG s=some (nH s):=by
 unfold tG vf
 rw [Mr]
 cases s with
 | nil=>rfl
 | cons c r=>
   by_cases hl:(c :: r).length≤40
   ·rw [if_pos (by simp;simp at hl;omega),Mv (by omega) (by simp) (by decide)]
    simp only [Option.bind_some]
    have e:(c :: r).all (fun c=>decide (c∈([97,98,99,100,101,102,103,104,105,106,107,108,109,110,111,112,113,114,115,116,117,118,119,120,121,122,48,49,50,51,52,53,54,55,56,57,45,95]:List UInt8)))=(c :: r).all (fun c=>Nf c.toNat):=by
     congr 1;funext c
     exact Mt (p:=fun c=>decide (c∈([97,98,99,100,101,102,103,104,105,106,107,108,109,110,111,112,113,114,115,116,117,118,119,120,121,122,48,49,50,51,52,53,54,55,56,57,45,95]:List UInt8))) Ke c
    have e2:=Mt (p:=fun c=>decide (c∈([97,98,99,100,101,102,103,104,105,106,107,108,109,110,111,112,113,114,115,116,117,118,119,120,121,122]:List UInt8))) (q:=fun n=>decide (97≤n)&&decide (n≤122)) Oz c
    rw [vq,decide_eq_true hl,Bool.true_and,← e,← e2]
    by_cases ht:Lib.trimS (c :: r) ([97,98,99,100,101,102,103,104,105,106,107,108,109,110,111,112,113,114,115,116,117,118,119,120,121,122,48,49,50,51,52,53,54,55,56,57,45,95]:al)=[]
    ·rw [if_pos ht,(Er _ _).1 ht,Bool.and_true]
     have i0:idx (c :: r) 0=some c:=rfl
     rw [i0]
     simp only [Option.bind_some,vD,Xe]
     congr 1
     have:=vp ([97,98,99,100,101,102,103,104,105,106,107,108,109,110,111,112,113,114,115,116,117,118,119,120,121,122]:List UInt8) c
     rw [decide_eq_decide]
     constructor
     ·intro h;exact Classical.byContradiction fun h'=>by have:=this.2 h';omega
     ·intro h;have h':=mt this.1 (fun h'=>h' h);omega
    ·rw [if_neg ht]
     have:(c :: r).all (fun c=>decide (c∈([97,98,99,100,101,102,103,104,105,106,107,108,109,110,111,112,113,114,115,116,117,118,119,120,121,122,48,49,50,51,52,53,54,55,56,57,45,95]:List UInt8)))=false:=by
      rw [← Bool.not_eq_true];exact fun h=>ht ((Er _ _).2 h)
     rw [this,Bool.and_false]
   ·rw [if_neg (by simp;simp at hl;omega),vq,decide_eq_false hl];rfl
def preB (s p:al):Bool:=decide (s.take p.length=p)
theorem GL {s p:al} (h:preB s p=true):p.length≤s.length:=by
 have h:s.take p.length=p:=of_decide_eq_true h
 have:=congrArg List.length h
 simp at this;omega
theorem xg (s p:al) (h:s.length≤1000000000):cK s p=some (preB s p):=by
 unfold cK db
 by_cases c:p.length≤s.length
 ·rw [if_pos (by omega),vM (by omega) (by omega) (by omega)]
  simp only [Option.bind_some]
  unfold preB
  simp
 ·rw [if_neg (by omega)]
  cases hp:preB s p with
  | false=>rfl
  | true=>exact absurd (GL hp) c
theorem ta (s p:al) (h:s.length≤1000000000):strings_CutPrefix s p=some (if preB s p=true then (s.drop p.length,true) else (s,false)):=by
 unfold strings_CutPrefix ff
 rw [xg s p h]
 simp only [Option.bind_some]
 cases hp:preB s p with
 | false=>simp
 | true=>
   have:=GL hp
   rw [if_neg (by simp),vM (by omega) (by omega) (by omega)]
   simp only [Option.bind_some,if_true]
   congr 2
   rw [List.take_of_length_le (by simp)];simp
theorem x8 (s p:al) (h:s.length≤1000000000):strings_HasPrefix s p=some (preB s p):=by
 unfold strings_HasPrefix
 rw [xg s p h];rfl
abbrev Kg:al:=[116,97,103,46]
abbrev AX:al:=[112,114,111,112,46]
abbrev Mw:al:=[102,105,114,109,119,97,114,101]
def GM (s:al):Bool:=decide (s.length≤40)&&DG 5 s
theorem GN {s:al} (h:s.length≤1000000000):oL s=some (GM s):=by
 unfold oL k7 GM
 by_cases c:s.length≤40
 ·rw [if_pos (by omega)]
  unfold lp
  rw [show (5:Int)=((5:Nat):Int) from rfl,xf 5 (by omega) 5 s 0 (by omega) (by omega) h]
  simp [c]
 ·rw [if_neg (by omega)];simp [c]
theorem GO {s:al} (h:s.length≤1000000000):tI s=some (GM s):=by
 unfold tI mi GM DG
 rw [Ak h]
 simp only [Option.bind_some]
 have hl:=uV 46 s
 by_cases c:s.length≤40
 ·rw [if_pos (by omega)]
  by_cases d:(ct 46 s).length≤5
  ·rw [if_pos (by omega)]
   have hc:aZ (ct 46 s) (fun y0=>oD y0)=some ((ct 46 s).any (fun x=>!nH x)):=
    gf _ _ _ (fun x _=>by unfold oD;rw [nI];rfl) (by omega)
   rw [hc]
   simp only [Option.bind_some,Option.some.injEq]
   simp [c,d,List.all_eq_not_any_not]
  ·rw [if_neg (by omega)];simp [d]
 ·rw [if_neg (by omega)];simp [c]
def CG (s:al):Bool:=preB s Kg&&nH (s.drop 4)
def qM (s:al):Bool:=preB s AX&&GM (s.drop 5)
theorem GP {s:al} (h:s.length≤1000000000):rk s=some (CG s):=by
 unfold rk oK CG
 rw [ta s _ h]
 simp only [Option.bind_some]
 cases hp:preB s Kg with
 | false=>simp
 | true=>
   rw [if_pos rfl,if_pos rfl,vO]
   simp
theorem Am {s:al} (h:s.length≤1000000000):nv s=some (qM s):=by
 unfold nv nu qM
 rw [ta s _ h]
 simp only [Option.bind_some]
 cases hp:preB s AX with
 | false=>simp
 | true=>
   rw [if_pos rfl,if_pos rfl,GN (by simp;omega)]
   simp
def sH (s:al):Bool:=decide (s=[107,101,121])||(decide (s=[109,111,100,101,108])||(decide (s=[116,101,110,97,110,116])||decide (s=Mw)))
theorem Mx {s:al} (h:s.length≤1000000000):tJ s=some (sH s||(CG s||qM s)):=by
 unfold tJ ic sH
 by_cases c1:s=[107,101,121]
 ·rw [if_pos c1];simp [c1]
 by_cases c2:s=[109,111,100,101,108]
 ·rw [if_neg c1,if_pos c2];simp [c2]
 by_cases c3:s=[116,101,110,97,110,116]
 ·rw [if_neg c1,if_neg c2,if_pos c3];simp [c3]
 by_cases c4:s=Mw
 ·rw [if_neg c1,if_neg c2,if_neg c3,if_pos c4];simp [c4]
 rw [if_neg c1,if_neg c2,if_neg c3,if_neg c4,GP h]
 simp only [Option.bind_some]
 cases ht:CG s with
 | true=>simp
 | false=>
   rw [if_neg (by simp),Am h]
   simp [c1,c2,c3,c4]
theorem rz (L:List al) (m:al) (hl:L.length≤10000000):aT L m=some (decide (m∈L)):=by
 unfold aT gr
 have key:∀ (k:Nat) (n:Int),0≤n→n+k=L.length→∃ j,fp L m n=some j∧(0≤j↔m∈L.drop n.toNat):=by
  intro k
  induction k with
  | zero=>
    intro n h0 hn
    refine ⟨-1,?_,?_⟩
    ·unfold fp
     rw [iter_eq,cY,if_neg (by omega),cH]
    ·rw [List.drop_of_length_le (by omega)];simp
  | succ k ih=>
    intro n h0 hn
    obtain ⟨s,hs,_,hd⟩:=iZ L h0 (by omega)
    unfold fp
    rw [iter_eq,cY,if_pos (by omega),hs]
    simp only [Option.bind_some]
    by_cases e:m=s
    ·rw [if_pos e,cH]
     exact ⟨n,rfl,by rw [hd,← e];simp;omega⟩
    ·rw [if_neg e,bh (by omega) (by omega)]
     simp only [Option.bind_some,dh]
     obtain ⟨j,h1,h2⟩:=ih (n+1) (by omega) (by omega)
     exact ⟨j,h1,by rw [h2,hd];simp [e]⟩
 obtain ⟨j,h1,h2⟩:=key L.length 0 (by omega) (by omega)
 rw [h1]
 simp only [Option.bind_some,Option.some.injEq]
 rw [decide_eq_decide,h2];simp
theorem DH {s:al} (h:s.length≤1000000000) (has:Bool):qj s has=some (CG s||(qM s||(!has&&sH s))):=by
 have j2:∀ c,jF s has c=some (c||(!has&&sH s)):=by
  intro c
  unfold jF lT
  cases c with
  | true=>simp
  | false=>
    rw [if_neg (by simp)]
    cases has with
    | true=>simp
    | false=>
      rw [if_pos (by simp),rz _ _ (by simp)]
      simp only [Option.bind_some,Option.some.injEq]
      unfold sH
      simp
 have j1:∀ c,jG s has c=some (c||(qM s||(!has&&sH s))):=by
  intro c
  unfold jG
  cases c with
  | true=>simp
  | false=>
    rw [if_neg (by simp),ta s _ h]
    simp only [Option.bind_some]
    unfold qM
    cases hp:preB s AX with
    | false=>rw [if_neg (by simp),j2];simp
    | true=>
      rw [if_pos rfl,if_pos rfl,GO (by simp;omega)]
      simp only [Option.bind_some]
      rw [j2];simp
 unfold qj
 rw [ta s _ h]
 simp only [Option.bind_some]
 unfold CG
 cases hp:preB s Kg with
 | false=>rw [if_neg (by simp),j1];simp
 | true=>
   rw [if_pos rfl,if_pos rfl,nI]
   simp only [Option.bind_some]
   rw [j1];simp
def vP (v:bL):Bool:=(decide (0≤v.Kind)&&decide (v.Kind≤3))&&((decide (v.Kind=1)||!v.cf)&&((decide (v.Kind=2)||decide (v.Number=0))&&(decide (v.Kind=3)||decide (v.Words=[])))&&((decide (-1000000000≤v.Number)&&decide (v.Number≤1000000000))&&(decide (v.Words.length≤100)&&Lib.validD v.Words)))
theorem My (v:bL) (hw:v.Words.length≤1000000) (c:Bool) (n:Int) (q:al):mr v c n q=some ((decide (v.cf=c)&&(decide (v.Number=n)&&decide (v.Words=q)))&&((decide (-1000000000≤v.Number)&&decide (v.Number≤1000000000))&&(decide (v.Words.length≤100)&&Lib.validD v.Words))):=by
 obtain ⟨k,f,m,w⟩:=v
 unfold mr kJ zO jw sj
 simp only [bL.mk.injEq,true_and]
 by_cases h1:f=c∧m=n∧w=q
 ·rw [if_pos h1]
  obtain ⟨rfl,rfl,rfl⟩:=h1
  by_cases h2:-1000000000≤m∧m≤1000000000
  ·rw [if_pos (by simp;omega)]
   by_cases h3:w.length≤100
   ·rw [if_pos (by omega),if_pos (by simp only at hw;omega)]
    simp [h2,h3]
   ·rw [if_neg (by omega)];simp [h3]
  ·rw [if_neg (by simp;omega)]
   rw [eq_comm];simp;omega
 ·rw [if_neg h1]
  rw [eq_comm];simp
  intro a b c'
  exact absurd ⟨a,b,c'⟩ h1
theorem Mz (v:bL) (hw:v.Words.length≤1000000):tL v=some (vP v):=by
 unfold tL oN oM
 simp only [My v hw]
 unfold vP
 by_cases k0:v.Kind=0
 ·rw [if_pos k0];simp [k0]
 by_cases k1:v.Kind=1
 ·rw [if_neg k0,if_pos k1];simp [k1]
 by_cases k2:v.Kind=2
 ·rw [if_neg k0,if_neg k1,if_pos k2];simp [k2]
 by_cases k3:v.Kind=3
 ·rw [if_neg k0,if_neg k1,if_neg k2,if_pos k3];simp [k3]
 rw [if_neg k0,if_neg k1,if_neg k2,if_neg k3]
 rw [eq_comm];simp;omega
theorem DI (v:bL) (hw:v.Words.length≤1000000):qk v=some (vP v):=by
 unfold qk vZ
 have h:=ru [v.cf,decide (v.Number≠(0:Int)),decide (v.Words≠([]:al))] (fun x:Int=>bP v x) (fun _=>none) false (by simp)
 clear h
 have k3:iL v=some ((decide (0≤v.Kind)&&decide (v.Kind≤3))&&((decide (-1000000000≤v.Number)&&decide (v.Number≤1000000000))&&(Lib.validD v.Words&&decide (v.Words.length≤100)))):=by
  unfold iL jI zO ve vF
  by_cases h1:0≤v.Kind∧v.Kind≤3
  ·rw [if_pos (by simp;omega)]
   by_cases h2:-1000000000≤v.Number∧v.Number≤1000000000
   ·rw [if_pos (by simp;omega),if_pos (by omega)]
    have e:decide ((v.Words.length:Int)≤100)=decide (v.Words.length≤100):=by rw [decide_eq_decide];omega
    simp [h1,h2,e]
   ·rw [if_neg (by simp;omega)]
    rw [eq_comm];simp;omega
  ·rw [if_neg (by simp;omega)]
   rw [eq_comm];simp;omega
 have w1:cr ((0:Int)+1)=1:=bh (by omega) (by omega)
 have w2:cr ((1:Int)+1)=2:=bh (by omega) (by omega)
 have w3:cr ((2:Int)+1)=3:=bh (by omega) (by omega)
 have i0:idx [v.cf,decide (v.Number≠(0:Int)),decide (v.Words≠([]:al))] 0=some v.cf:=rfl
 have i1:idx [v.cf,decide (v.Number≠(0:Int)),decide (v.Words≠([]:al))] 1=some (decide (v.Number≠(0:Int))):=rfl
 have i2:idx [v.cf,decide (v.Number≠(0:Int)),decide (v.Words≠([]:al))] 2=some (decide (v.Words≠([]:al))):=rfl
 have b3:bP v 3=Option.map .inr (iL v):=by unfold bP;rw [if_neg (by simp)]
 have b2:bP v 2=if (decide (v.Words≠([]:al))&&decide (v.Kind≠3))=true then some (.inr false) else some (.inl 3):=by
  unfold bP jH;rw [if_pos (by simp),i2,w3];rfl
 have b1:bP v 1=if (decide (v.Number≠(0:Int))&&decide (v.Kind≠2))=true then some (.inr false) else some (.inl 2):=by
  unfold bP jH;rw [if_pos (by simp),i1,w2];rfl
 have b0:bP v 0=if (v.cf&&decide (v.Kind≠1))=true then some (.inr false) else some (.inl 1):=by
  unfold bP jH;rw [if_pos (by simp),i0,w1];rfl
 have e3:iter (fun x:Int=>bP v x) 3=iL v:=by rw [iter_eq,b3,cH]
 have e2:iter (fun x:Int=>bP v x) 2=if (decide (v.Words≠([]:al))&&decide (v.Kind≠3))=true then some false else iL v:=by
  rw [iter_eq,b2];split
  ·rfl
  ·simp only [Option.bind_some,dh];exact e3
 have e1:iter (fun x:Int=>bP v x) 1=if (decide (v.Number≠(0:Int))&&decide (v.Kind≠2))=true then some false else iter (fun x:Int=>bP v x) 2:=by
  rw [iter_eq,b1];split
  ·rfl
  ·simp only [Option.bind_some,dh]
 have e0:iter (fun x:Int=>bP v x) 0=if (v.cf&&decide (v.Kind≠1))=true then some false else iter (fun x:Int=>bP v x) 1:=by
  rw [iter_eq,b0];split
  ·rfl
  ·simp only [Option.bind_some,dh]
 rw [e0,e1,e2,k3]
 unfold vP
 by_cases c0:(v.cf&&decide (v.Kind≠1))=true
 ·rw [if_pos c0];rw [eq_comm];simp at c0 ⊢;intro _ _ h;exact absurd (h.resolve_left c0.2) (by simp [c0.1])
 rw [if_neg c0]
 by_cases c1:(decide (v.Number≠(0:Int))&&decide (v.Kind≠2))=true
 ·rw [if_pos c1];rw [eq_comm];simp at c1 ⊢;intro _ _ _ h;exact absurd (h.resolve_left c1.2) c1.1
 rw [if_neg c1]
 by_cases c2:(decide (v.Words≠([]:al))&&decide (v.Kind≠3))=true
 ·rw [if_pos c2];rw [eq_comm];simp at c2 ⊢;intro _ _ _ _ h;exact absurd (h.resolve_left c2.2) c2.1
 rw [if_neg c2]
 congr 1
 have d0:(decide (v.Kind=1)||!v.cf)=true:=by simp at c0 ⊢;cases hf:v.cf<;>simp_all
 have d1:(decide (v.Kind=2)||decide (v.Number=0))=true:=by simp at c1 ⊢;omega
 have d2:(decide (v.Kind=3)||decide (v.Words=[]))=true:=by
  simp at c2 ⊢
  by_cases hw0:v.Words=[]
  ·exact .inr hw0
  ·exact .inl (c2 hw0)
 rw [d0,d1,d2]
 simp only [Bool.true_and,Bool.and_comm (Lib.validD v.Words)]
theorem vQ {s:vN} {n K:Int} (hs:pa s K) (hK:1≤K) (h1:1≤n) (h2:n≤4611686018427387904):qL (dw s n) (K - 1) (fun v=>0≤v∧v < n):=
 zj (hs.less (by omega)) h1 h2 (by omega)
theorem sI {s:vN} {n K:Int} (hs:pa s K) (hK:1≤K) (h1:1≤n) (h2:n≤4611686018427387904):qL (dx s n) (K - 1) (fun _=>True):=
 I4 (hs.less (by omega)) h1 h2 (by omega)
theorem og {s:vN} {l:List Int} {K:Int} (hs:pa s K) (hK:1≤K) (h1:l≠[]) (h2:l.length≤1000):qL (cx s l) (K - 1) (fun v=>v∈l):=
 I3 (hs.less (by omega)) h1 h2 (by omega)
theorem hJ {s:vN} {l:List al} {K:Int} (hs:pa s K) (hK:1≤K) (h1:l≠[]) (h2:l.length≤1000):qL (bH s l) (K - 1) (fun v=>v∈l):=
 Oy (hs.less (by omega)) h1 h2 (by omega)
theorem MA {s:vN} {a b K:Int} (hs:pa s K) (hK:2≤K) (JB:a≤b) (ha:-1099511627776≤a) (hb:b≤1099511627776):qL (na s a b) (K - 2) (fun v=>-1099511627777≤v∧v≤1099511627777):=
 QX (hs.less (by omega)) JB ha hb (by omega)
def Ok {α:Type} (m:Option α) (Q:α→Prop):Prop:=∃ r,m=some r∧Q r
theorem Ok.ret {α:Type} {v:α} {Q:α→Prop} (h:Q v):Ok (some v) Q:=⟨v,rfl,h⟩
theorem Ok.mono {α:Type} {m:Option α} {P Q:α→Prop} (h:Ok m P) (hp:∀ v,P v→Q v):Ok m Q:=by
 obtain ⟨r,h1,h2⟩:=h;exact ⟨r,h1,hp r h2⟩
theorem Ok.inr {α β:Type} {m:Option β} {Q:α⊕β→Prop} (h:Ok m (fun r=>Q (.inr r))):Ok (Option.map .inr m) Q:=by
 obtain ⟨r,rfl,h2⟩:=h;exact ⟨_,rfl,h2⟩
theorem Ok.gen {α β:Type} {m:Option (α×vN)} {k:Int} {P:α→Prop} {f:α×vN→Option β} {Q:β→Prop} (h:qL m k P) (hf:∀ v s',P v→pa s' k→Ok (f (v,s')) Q):Ok (m.bind f) Q:=by
 obtain ⟨v,s',rfl,h1,h2⟩:=h;exact hf v s' h1 h2
theorem qL.of {α:Type} {m:Option (α×vN)} {k:Int} {P:α→Prop} (h:Ok m (fun r=>P r.1∧pa r.2 k)):qL m k P:=by
 obtain ⟨⟨v,s⟩,h1,h2,h3⟩:=h;exact ⟨v,s,h1,h2,h3⟩
theorem Ok.idx {α β:Type} {xs:List α} {i:Int} {f:α→Option β} {Q:β→Prop} (h0:0≤i) (h1:i < xs.length) (hf:∀ x,idx xs i=some x→x∈xs→Ok (f x) Q):Ok ((idx xs i).bind f) Q:=by
 obtain ⟨x,hx,hm,_⟩:=iZ xs h0 h1
 rw [hx];exact hf x hx hm
theorem Ok.app {α β:Type} {xs ys:List α} {f:List α→Option β} {Q:β→Prop} (h:xs.length+ys.length≤1000000000) (hf:Ok (f (xs++ys)) Q):Ok ((app xs ys).bind f) Q:=by
 rw [mx h];exact hf
abbrev TL {S A:Type} (m:S→Nat) (Inv:S→Prop) (R:A→Prop) (s:S):S⊕A→Prop
 | .inl s'=>Inv s'∧m s' < m s
 | .inr a=>R a
theorem Ok.iter {S A:Type} {f:S→Option (S⊕A)} {R:A→Prop} (m:S→Nat) (Inv:S→Prop)
 (h:∀ s,Inv s→Ok (f s) (TL m Inv R s)) (s:S) (hs:Inv s):Ok (iter f s) R:=by
 refine Mu f m Inv R (fun s hi=>?_) s hs
 obtain ⟨r,h1,h2⟩:=h s hi
 cases r with
 | inl s'=>exact .inl ⟨s',h1,h2.1,h2.2⟩
 | inr a=>exact .inr ⟨a,h1,h2⟩
abbrev Xk {A:Type} (N:Nat) (R:A→Prop) (i:Int):Int⊕A→Prop
 | .inl j=>j=i+1∧i < N
 | .inr a=>R a
theorem Ok.range {A:Type} {f:Int→Option (Int⊕A)} {R:A→Prop} (N:Nat) (h:∀ i:Int,0≤i→i≤N→Ok (f i) (Xk N R i)):Ok (Eng.iter f 0) R:=by
 refine Ok.iter (fun i:Int=>N+1 - i.toNat) (fun i:Int=>0≤i∧i≤N) (fun i hi=>?_) 0 ⟨by omega,by omega⟩
 refine (h i hi.1 hi.2).mono (fun r hr=>?_)
 cases r with
 | inl j=>simp only [Xk,TL] at hr ⊢;omega
 | inr a=>exact hr
theorem Kh {S A:Type} {f g:S→Option (S⊕A)} (h:∀ s,f s=g s) (s:S):iter f s=iter g s:=by rw [funext h]
theorem eV {α σ A X:Type} (xs:List α) (mk:σ→Int→X) (f:X→Option (X⊕A)) (Vt:σ→α→σ) (Inv:Int→σ→Prop) (E:σ→Option A)
 (h1:∀ s (i:Int) x,0≤i→i < xs.length→idx xs i=some x→Inv i s→f (mk s i)=some (.inl (mk (Vt s x) (i+1)))∧Inv (i+1) (Vt s x))
 (h2:∀ s,Inv xs.length s→f (mk s xs.length)=Option.map .inr (E s)) (s:σ) (h0:Inv 0 s):iter f (mk s 0)=E (xs.foldl Vt s):=by
 have key:∀ (n:Nat) (s:σ) (i:Int),0≤i→i+n=xs.length→Inv i s→iter f (mk s i)=E ((xs.drop i.toNat).foldl Vt s):=by
  intro n
  induction n with
  | zero=>
    intro s i hi hn hv
    have:i=xs.length:=by omega
    subst this
    rw [iter_eq,h2 s hv,cH]
    simp
  | succ n ih=>
    intro s i hi hn hv
    obtain ⟨x,hx,_,hd⟩:=iZ xs hi (by omega)
    obtain ⟨e1,e2⟩:=h1 s i x hi (by omega) hx hv
    rw [iter_eq,e1]
    simp only [Option.bind_some,dh]
    rw [ih _ _ (by omega) (by omega) e2,hd]
    rfl
 have:=key xs.length s 0 (by omega) (by omega) h0
 simpa using this
theorem foldl_filter {α:Type} (p:α→Bool):∀ (xs acc:List α),xs.foldl (fun acc x=>if p x=true then acc++[x] else acc) acc=acc++xs.filter p
 | [],acc=>by simp
 | x :: r,acc=>by
   rw [List.foldl_cons,foldl_filter p r,List.filter_cons]
   cases p x<;>simp
theorem foldl_map {α β:Type} (g:α→β):∀ (xs:List α) (acc:List β),xs.foldl (fun acc x=>acc++[g x]) acc=acc++xs.map g
 | [],acc=>by simp
 | x :: r,acc=>by rw [List.foldl_cons,foldl_map g r];simp
abbrev HY {A:Type} (N:Nat) (Inv:Int→Prop) (R:A→Prop) (i:Int):Int⊕A→Prop
 | .inl j=>j=i+1∧i < N∧Inv (i+1)
 | .inr a=>R a
theorem Ok.QZ {A:Type} {f:Int→Option (Int⊕A)} {R:A→Prop} (N:Nat) (Inv:Int→Prop) (h0:Inv 0) (h:∀ i:Int,0≤i→i≤N→Inv i→Ok (f i) (HY N Inv R i)):Ok (Eng.iter f 0) R:=by
 refine Ok.iter (fun i:Int=>N+1 - i.toNat) (fun i:Int=>(0≤i∧i≤N)∧Inv i) (fun i hi=>?_) 0 ⟨⟨by omega,by omega⟩,h0⟩
 refine (h i hi.1.1 hi.1.2 hi.2).mono (fun r hr=>?_)
 cases r with
 | inl j=>
   simp only [TL,HY] at hr ⊢
   obtain ⟨rfl,h2,h3⟩:=hr
   exact ⟨⟨by omega,h3⟩,by omega⟩
 | inr a=>exact hr
theorem take_succ {α:Type} {xs:List α} {i:Int} {x:α} (h0:0≤i) (h:idx xs i=some x):xs.take (i+1).toNat=xs.take i.toNat++[x]:=by
 obtain ⟨_,h1,h2⟩:=tw h
 rw [show (i+1).toNat=i.toNat+1 by omega,List.take_add_one,h2];rfl
theorem Ok.Q0 {σ A X:Type} {f:X→Option (X⊕A)} {R:A→Prop} (N:Nat) (mk:σ→Int→X) (Inv:Int→σ→Prop)
 (h:∀ s (i:Int),0≤i→i≤N→Inv i s→Ok (f (mk s i)) (fun r=>(∃ s',r=.inl (mk s' (i+1))∧i < N∧Inv (i+1) s')∨∃ a,r=.inr a∧R a)) (s:σ) (h0:Inv 0 s):Ok (Eng.iter f (mk s 0)) R:=by
 have key:∀ (k:Nat) (s:σ) (i:Int),0≤i→i≤N→i+k=N+1→Inv i s→Ok (Eng.iter f (mk s i)) R:=by
  intro k
  induction k with
  | zero=>
    intro s i hi hN hk hv
    omega
  | succ k ih=>
    intro s i hi hN hk hv
    obtain ⟨r,h1,h2⟩:=h s i hi hN hv
    rw [iter_eq,h1]
    rcases h2 with ⟨s',rfl,h3,h4⟩ | ⟨a,rfl,h3⟩
    ·simp only [Option.bind_some,dh]
     exact ih s' (i+1) (by omega) (by omega) (by omega) h4
    ·exact ⟨a,rfl,h3⟩
 exact key (N+1) s 0 (by omega) (by omega) (by omega) h0
mutual
def Query.kA:Query→List Query
 | ⟨a,b,c,d,e,kids⟩=>⟨a,b,c,d,e,kids⟩ :: Query.kL kids
def Query.kL:List Query→List Query
 | []=>[]
 | x :: r=>Query.kA x++Query.kL r
end
mutual
def Query.dep:Query→Nat
 | ⟨a,b,c,d,e,kids⟩=>Query.Bt kids+1
def Query.Bt:List Query→Nat
 | []=>0
 | x :: r=>max (Query.dep x) (Query.Bt r)
end
theorem Query.r6 (q:Query):q.kA=q :: Query.kL q.Kids:=by obtain ⟨a,b,c,d,e,kids⟩:=q;rw [Query.kA]
theorem Query.HZ (q:Query):q.dep=Query.Bt q.Kids+1:=by obtain ⟨a,b,c,d,e,kids⟩:=q;rw [Query.dep]
theorem Query.GQ (q:Query):q∈q.kA:=by rw [q.r6];simp
theorem Query.pos (q:Query):0 < q.kA.length:=by rw [q.r6];simp
theorem An:∀ {l:List Query} {c:Query},c∈l→c.kA.length≤(Query.kL l).length∧∀ x∈c.kA,x∈Query.kL l
 | x :: r,c,h=>by
   rw [Query.kL]
   rcases List.mem_cons.1 h with rfl | h
   ·exact ⟨by simp,fun y hy=>List.mem_append_left _ hy⟩
   ·obtain ⟨h1,h2⟩:=An h
    exact ⟨by rw [List.length_append];omega,fun y hy=>List.mem_append_right _ (h2 y hy)⟩
theorem vr:∀ l:List Query,l.length≤(Query.kL l).length
 | []=>by simp
 | x :: r=>by
   rw [Query.kL]
   have:=vr r
   have:=x.pos
   rw [List.length_append,List.length_cons];omega
theorem I6:∀ l:List Query,(∀ x∈l,x.dep≤x.kA.length)→Query.Bt l≤(Query.kL l).length
 | [],_=>by simp [Query.Bt]
 | x :: r,h=>by
   rw [Query.Bt,Query.kL,List.length_append]
   have h1:=h x List.mem_cons_self
   have h2:=I6 r (fun y hy=>h y (List.mem_cons_of_mem _ hy))
   omega
theorem CH:∀ (n:Nat) (q:Query),q.kA.length≤n→q.dep≤q.kA.length
 | 0,q,h=>by have:=q.pos;omega
 | n+1,q,h=>by
   rw [q.HZ,q.r6,List.length_cons]
   rw [q.r6,List.length_cons] at h
   have:=I6 q.Kids (fun x hx=>CH n x (by have:=(An hx).1;omega))
   omega
structure GR (q:Query):Prop where
 field:q.Field.length≤100000
 op:q.Op.length≤100000
 words:q.Value.Words.length≤100000
structure QB (q:Query):Prop where
 len:q.kA.length≤5000
 str:∀ x∈q.kA,GR x
theorem QB.TN {q c:Query} (h:QB q) (hc:c∈q.Kids):QB c∧c.kA.length < q.kA.length:=by
 have h1:=An hc
 have h2:=q.r6
 refine ⟨⟨?_,fun x hx=>h.str x (by rw [h2];exact List.mem_cons_of_mem _ (h1.2 x hx))⟩,by rw [h2,List.length_cons];omega⟩
 have:=h.len
 rw [h2,List.length_cons] at this
 omega
theorem QB.kids {q:Query} (h:QB q):q.Kids.length≤5000:=by
 have:=h.len
 rw [q.r6,List.length_cons] at this
 have:=vr q.Kids
 omega
theorem QB.s {q:Query} (h:QB q):GR q:=h.str q q.GQ
theorem CI {C:Nat→Query→Prop} (h:∀ n q,QB q→(∀ c∈q.Kids,C n c)→C (n+1) q):∀ (n:Nat) (q:Query),QB q→q.kA.length≤n→C n q
 | 0,q,_,hl=>by have:=q.pos;omega
 | n+1,q,hq,hl=>h n q hq (fun c hc=>CI h n c (hq.TN hc).1 (by have:=(hq.TN hc).2;omega))
def jD (q:Query):Bool:=decide (q.Kind=1)||decide (q.Kind=2)
def GS (l:List Query):Nat:=(Query.kL l).countP jD
theorem Ki (x:Query) (r:List Query):GS (x :: r)=x.kA.countP jD+GS r:=by
 unfold GS;rw [Query.kL,List.countP_append]
theorem Es:∀ (l:List Query) (s:Int×Int),l.foldl (fun s x=>(s.1+((x.kA.countP jD:Nat):Int),max s.2 ((x.dep:Nat):Int))) s=(s.1+((GS l:Nat):Int),max s.2 ((Query.Bt l:Nat):Int))∨s.2 < 0
 | [],s=>by
   by_cases h:s.2 < 0
   ·exact .inr h
   ·left
    simp [GS,Query.kL,Query.Bt]
    refine Prod.ext rfl ?_
    simp only;omega
 | x :: r,s=>by
   by_cases h:s.2 < 0
   ·exact .inr h
   ·left
    rw [List.foldl_cons]
    rcases Es r (s.1+((x.kA.countP jD:Nat):Int),max s.2 ((x.dep:Nat):Int)) with e | e
    ·rw [e,Ki,Query.Bt]
     refine Prod.ext ?_ ?_
     ·simp only;omega
     ·simp only;omega
    ·simp only at e;omega
theorem H3 (n:Nat) (q:Query) (hq:QB q) (hn:q.kA.length≤n):fI n q=some (((q.kA.countP jD:Nat):Int),((q.dep:Nat):Int)):=by
 refine CI (C:=fun n q=>fI n q=some (((q.kA.countP jD:Nat):Int),((q.dep:Nat):Int))) (fun n q hq ih=>?_) n q hq hn
 have hk:=hq.kids
 have hl:=hq.len
 have hd:=CH _ q (Nat.le_refl _)
 have hc:q.kA.countP jD≤q.kA.length:=List.countP_le_length
 have e0:=q.r6
 have e1:=q.HZ
 have e2:q.kA.countP jD=(if jD q=true then 1 else 0)+GS q.Kids:=by
  rw [e0,List.countP_cons];unfold GS;omega
 have key:∀ m:Int,0≤m→m≤1→sA (fI n) q m 0 0=some (m+((GS q.Kids:Nat):Int),((q.dep:Nat):Int)):=by
  intro m h0 h1
  unfold sA
  have h:=eV q.Kids (fun (s:Int×Int) (i:Int)=>(s.1,s.2,i)) (fun x:Int×Int×Int=>fL (fI n) q x.1 x.2.1 x.2.2) (fun s x=>(s.1+((x.kA.countP jD:Nat):Int),max s.2 ((x.dep:Nat):Int))) (fun i s=>(0≤s.1∧s.1≤1+5000 * i)∧0≤s.2∧s.2≤5000) (fun s=>some (s.1,cr (s.2+1)))
   (fun s i x i0 i1 hi hs=>by
    have hx:=ik hi
    have k:=hq.TN hx
    have kl:=k.1.len
    have kc:x.kA.countP jD≤x.kA.length:=List.countP_le_length
    have kd:=CH _ x (Nat.le_refl _)
    refine ⟨?_,?_⟩
    ·show fL (fI n) q s.1 s.2 i=_
     unfold fL
     rw [if_pos i1,hi]
     simp only [Option.bind_some]
     rw [ih x hx]
     simp only [Option.bind_some]
     rw [bh (x:=s.1+_) (by omega) (by omega),bh (by omega) (by omega)]
    ·simp only;omega)
   (fun s hs=>by
    show fL (fI n) q s.1 s.2 q.Kids.length=_
    unfold fL
    rw [if_neg (by omega)]) (m,0) ⟨⟨by simpa using h0,by simp;omega⟩,by simp,by simp⟩
  simp only at h
  rw [h]
  rcases Es q.Kids (m,0) with e | e
  ·rw [e]
   simp only
   rw [bh (by omega) (by omega)]
   congr 2
   omega
  ·simp at e
 show lY (fI n) q=_
 unfold lY o7 lX
 have e3:(decide (q.Kind=(1:Int))||decide (q.Kind=(2:Int)))=jD q:=rfl
 rw [e3,e2]
 cases hlf:jD q with
 | true=>rw [if_pos rfl,key 1 (by omega) (by omega)];simp
 | false=>rw [if_neg (by simp),key 0 (by omega) (by omega)];simp
theorem AY:∀ (l:List Query) (s:List Query),l.foldl (fun s x=>s++x.kA.filter jD) s=s++(Query.kL l).filter jD
 | [],s=>by simp [Query.kL]
 | x :: r,s=>by rw [List.foldl_cons,AY r,Query.kL,List.filter_append,List.append_assoc]
theorem Kj (n:Nat) (q:Query) (hq:QB q) (hn:q.kA.length≤n):kF n q=some (q.kA.filter jD):=by
 refine CI (C:=fun n q=>kF n q=some (q.kA.filter jD)) (fun n q hq ih=>?_) n q hq hn
 have hk:=hq.kids
 have hl:=hq.len
 have e0:=q.r6
 have key:∀ m:List Query,m.length≤1→wR (kF n) q m 0=some (m++(Query.kL q.Kids).filter jD):=by
  intro m h1
  unfold wR
  have h:=eV q.Kids (fun (s:List Query) (i:Int)=>(s,i)) (fun x:List Query×Int=>jU (kF n) q x.1 x.2) (fun s x=>s++x.kA.filter jD) (fun i s=>(s.length:Int)≤1+5000 * i) (fun s=>some s)
   (fun s i x i0 i1 hi hs=>by
    have hx:=ik hi
    have k:=hq.TN hx
    have kl:=k.1.len
    have kc:(x.kA.filter jD).length≤x.kA.length:=List.length_filter_le _ _
    refine ⟨?_,?_⟩
    ·show jU (kF n) q s i=_
     unfold jU
     rw [if_pos i1,hi]
     simp only [Option.bind_some]
     rw [ih x hx]
     simp only [Option.bind_some]
     rw [mx (by omega),bh (by omega) (by omega)];rfl
    ·rw [List.length_append];omega)
   (fun s hs=>by
    show jU (kF n) q s q.Kids.length=_
    unfold jU
    rw [if_neg (by omega)]) m (by omega)
  rw [h,AY]
 show si (kF n) q=_
 unfold si ux sh
 have e3:(decide (q.Kind=(1:Int))||decide (q.Kind=(2:Int)))=jD q:=rfl
 rw [e3,e0,List.filter_cons]
 cases hlf:jD q with
 | true=>rw [if_pos rfl,if_pos rfl,mx (by simp)];simp only [Option.bind_some,List.nil_append];rw [key _ (by simp)];rfl
 | false=>rw [if_neg (by simp),if_neg (by simp),key _ (by simp)];rfl
theorem Et:∀ (l:List Query) (s:Int),0≤s→l.foldl (fun s x=>max s ((x.dep:Nat):Int)) s=max s ((Query.Bt l:Nat):Int)
 | [],s,h=>by simp [Query.Bt];omega
 | x :: r,s,h=>by rw [List.foldl_cons,Et r _ (by omega),Query.Bt];omega
theorem OB (n:Nat) (q:Query) (hq:QB q) (hn:q.kA.length≤n):qh n q=some ((q.dep:Nat):Int):=by
 refine CI (C:=fun n q=>qh n q=some ((q.dep:Nat):Int)) (fun n q hq ih=>?_) n q hq hn
 have hk:=hq.kids
 have hl:=hq.len
 have hd:=CH _ q (Nat.le_refl _)
 have e1:=q.HZ
 show vg (qh n) q=_
 unfold vg Eh
 have h:=eV q.Kids (fun (s:Int) (i:Int)=>(s,i)) (fun x:Int×Int=>nN (qh n) q x.1 x.2) (fun s x=>max s ((x.dep:Nat):Int)) (fun i s=>0≤s∧s≤5000) (fun s=>some (cr (s+1)))
  (fun s i x i0 i1 hi hs=>by
   have hx:=ik hi
   have k:=hq.TN hx
   have kl:=k.1.len
   have kd:=CH _ x (Nat.le_refl _)
   refine ⟨?_,by omega⟩
   show nN (qh n) q s i=_
   unfold nN
   rw [if_pos i1,hi]
   simp only [Option.bind_some]
   rw [ih x hx]
   simp only [Option.bind_some]
   rw [bh (by omega) (by omega)])
  (fun s hs=>by
   show nN (qh n) q s q.Kids.length=_
   unfold nN
   rw [if_neg (by omega)]) 0 (by omega)
 rw [h,Et _ _ (by omega),bh (by omega) (by omega)]
 congr 1
 omega
abbrev zV:bL:=⟨0,false,0,[]⟩
abbrev Bu:Version:=⟨0,0,0⟩
def H4 (q:Query):Bool:=q.Kids.any (fun k=>decide (k.Kind=q.Kind))
def xF (q:Query):Bool:=
 if q.Kind=1 then decide (q.Kids.length≠0)
 else if q.Kind=2 then decide (q.Kids.length≠0)||(decide (q.Op≠[])||(decide (q.Value≠zV)||decide (q.Version≠Bu)))
 else (if q.Kind=3 then decide (q.Kids.length≠1) else decide (q.Kids.length < 2)||H4 q)||(decide (q.Field≠[])||(decide (q.Op≠[])||(decide (q.Value≠zV)||decide (q.Version≠Bu))))
def DJ (q:Query):Bool:=decide (q.Kind < 1)||decide (5 < q.Kind)
def fF (q:Query):Int:=if DJ q=true then 4 else if xF q=true then 3 else 0
theorem nb (b:Bool):(if b=true then (some (3:Int)) else some 0)=some (if b=true then 3 else 0):=by cases b<;>rfl
theorem Q1 {α:Type} [DecidableEq α] (a b:α):decide (a≠b)=decide (b≠a):=by rw [decide_eq_decide];exact ⟨fun h k=>h k.symm,fun h k=>h k.symm⟩
theorem MB (q:Query) (c:Bool) (f o:al) (k:Int) (fl:Bool) (n:Int) (w:al) (x y z:Int):jX q c f o k fl n w x y z=some (if (c||(decide (f≠q.Field)||(decide (o≠q.Op)||(decide ((⟨k,fl,n,w⟩:bL)≠q.Value)||decide ((⟨x,y,z⟩:Version)≠q.Version)))))=true then 3 else 0):=nb _
theorem MC (q:Query) (c:Bool):iD q c=some (if (c||(decide (q.Field≠[])||(decide (q.Op≠[])||(decide (q.Value≠zV)||decide (q.Version≠Bu)))))=true then 3 else 0):=by
 unfold iD iC
 rw [MB,Q1 [] q.Field,Q1 [] q.Op,Q1 _ q.Value,Q1 _ q.Version]
theorem Q2 (q:Query) (m:Nat):decide ((q.Kids.length:Int)≠(m:Nat))=decide (q.Kids.length≠m):=by rw [decide_eq_decide];omega
theorem Fq (q:Query) (hq:QB q):nt q=some (fF q):=by
 have hk:=hq.kids
 unfold nt fF
 have ho:jw q.Kind 1 5=DJ q:=rfl
 rw [ho]
 cases h:DJ q with
 | true=>rfl
 | false=>
   simp only [Bool.false_eq_true,if_false]
   unfold xF
   by_cases k1:q.Kind=1
   ·rw [if_pos k1,if_pos k1,MB,show ((0:Int))=((0:Nat):Int) from rfl,Q2]
    have e1:decide (q.Field≠q.Field)=false:=by simp
    have e2:decide (q.Op≠q.Op)=false:=by simp
    have e3:decide ((⟨q.Value.Kind,q.Value.cf,q.Value.Number,q.Value.Words⟩:bL)≠q.Value)=false:=by simp
    have e4:decide ((⟨q.Version.bQ,q.Version.bR,q.Version.bN⟩:Version)≠q.Version)=false:=by simp
    rw [e1,e2,e3,e4];simp
   rw [if_neg k1,if_neg k1]
   by_cases k2:q.Kind=2
   ·rw [if_pos k2,if_pos k2]
    unfold iC
    rw [MB,show ((0:Int))=((0:Nat):Int) from rfl,Q2,Q1 [] q.Op]
    have e1:decide (q.Field≠q.Field)=false:=by simp
    rw [e1,Bool.false_or]
    rw [Q1 _ q.Value,Q1 _ q.Version];rfl
   rw [if_neg k2,if_neg k2]
   by_cases k3:q.Kind=3
   ·rw [if_pos k3,if_pos k3,MC,show ((1:Int))=((1:Nat):Int) from rfl,Q2]
   rw [if_neg k3,if_neg k3]
   unfold jY
   by_cases c:q.Kids.length < 2
   ·rw [if_pos (by omega),MC];simp [c]
   ·rw [if_neg (by omega)]
    have hc:cA q.Kids (fun y0=>some (mG y0 q))=some (H4 q):=gf _ _ _ (fun x _=>rfl) (by omega)
    rw [hc]
    simp only [Option.bind_some]
    rw [MC];simp [c]
def opsL:List al:=[[61,61],[33,61],[60,61],[62,61],[60],[62]]
def uG (q:Query):Bool:=decide (q.Field=Mw)
noncomputable def lF (q:Query):Int:=
 if (CG q.Field||(qM q.Field||(!decide (q.Kind=2)&&sH q.Field)))=false then 5
 else if q.Kind=2 then 0
 else if ¬ q.Op∈opsL then 10
 else if uG q=true∧q.Value≠zV then 3
 else if uG q=true∧fM q.Version=false then 1
 else if uG q=true then 0
 else if q.Version≠Bu∨(vP q.Value=false∨q.Value.Kind=0) then 3
 else if (q.Value.Kind≠3∧qM q.Field=false)∨(q.Value.Kind≠2∧q.Op≠[61,61]∧q.Op≠[33,61]) then 10
 else 0
theorem MD {α:Type} (p:Prop) [Decidable p] (a b:α):(if p then some a else some b)=some (if p then a else b):=by split<;>rfl
theorem Pz (q:Query) (hq:GR q) (c:Bool):iF q c=some (if c=true then 3 else if (q.Value.Kind≠3∧qM q.Field=false)∨(q.Value.Kind≠2∧q.Op≠[61,61]∧q.Op≠[33,61]) then 10 else 0):=by
 have h5:∀ c,iE q c=some (if c=true∨(q.Value.Kind≠2∧q.Op≠[61,61]∧q.Op≠[33,61]) then 10 else 0):=by
  intro c
  unfold iE mH
  cases c with
  | true=>simp
  | false=>
    rw [if_neg (by simp),MD]
    congr 1
    simp
 unfold iF
 cases c with
 | true=>rfl
 | false=>
   simp only [Bool.false_eq_true,if_false]
   by_cases k:q.Value.Kind=3
   ·rw [if_neg (fun h=>h k),h5]
    congr 1
    simp [k]
   ·rw [if_pos k,Am (by have:=hq.field;omega)]
    simp only [Option.bind_some]
    rw [h5]
    congr 1
    simp [k]
theorem Fs (q:Query) (hq:GR q):nw q=some (lF q):=by
 have hf:=hq.field
 have hw:=hq.words
 have j1:ek q false=some (if q.Kind=2 then 0 else if ¬ q.Op∈opsL then 10 else if uG q=true∧q.Value≠zV then 3 else if uG q=true∧fM q.Version=false then 1 else if uG q=true then 0 else if q.Version≠Bu∨(vP q.Value=false∨q.Value.Kind=0) then 3 else if (q.Value.Kind≠3∧qM q.Field=false)∨(q.Value.Kind≠2∧q.Op≠[61,61]∧q.Op≠[33,61]) then 10 else 0):=by
  unfold ek
  rw [if_neg (by simp)]
  by_cases k2:q.Kind=2
  ·rw [if_pos k2,if_pos k2]
  rw [if_neg k2,if_neg k2,rz _ _ (by unfold eW;simp)]
  simp only [Option.bind_some]
  have ho:q.Op∈eW↔q.Op∈opsL:=by unfold eW opsL;simp only [List.mem_cons,List.not_mem_nil,or_false];constructor<;>(rintro (h | h | h | h | h | h)<;>simp [h])
  by_cases LI:q.Op∈opsL
  ·rw [if_neg (by simp [ho,LI]),if_neg (fun k=>k LI)]
   unfold mJ
   have Xl:decide (q.Field=([102,105,114,109,119,97,114,101]:al))=uG q:=rfl
   rw [Xl]
   by_cases c1:uG q=true∧q.Value≠zV
   ·rw [if_pos c1,if_pos (by simp [c1.1];exact c1.2)]
   rw [if_neg c1,if_neg (by simp;intro h;exact Classical.byContradiction fun k=>c1 ⟨h,k⟩)]
   unfold mI
   by_cases c2:uG q=true∧fM q.Version=false
   ·rw [if_pos c2,if_pos (by simp [c2.1,c2.2])]
   rw [if_neg c2,if_neg (by simp;intro h;cases hb:fM q.Version with | true=>rfl | false=>exact absurd ⟨h,hb⟩ c2)]
   by_cases c3:uG q=true
   ·rw [if_pos c3,if_pos (of_decide_eq_true c3)]
   rw [if_neg c3,if_neg (fun k=>c3 (decide_eq_true k))]
   by_cases c4:q.Version≠Bu
   ·rw [if_pos c4,Pz q hq,if_pos rfl,if_pos (.inl c4)]
   ·rw [if_neg c4,Mz _ (by omega)]
    simp only [Option.bind_some]
    rw [Pz q hq]
    by_cases c5:vP q.Value=false∨q.Value.Kind=0
    ·rw [if_pos (by rcases c5 with h | h<;>simp [h]),if_pos (.inr c5)]
    ·rw [not_or] at c5
     rw [if_neg (by simp [c5.2];simpa using c5.1),if_neg (show ¬ (q.Version≠Bu∨(vP q.Value=false∨q.Value.Kind=0)) from fun k=>k.elim c4 (fun k=>k.elim c5.1 c5.2))]
  ·rw [if_pos (by simp [ho,LI]),if_pos LI]
 unfold nw lF
 rw [Mx (by omega)]
 simp only [Option.bind_some]
 have bad:ek q true=some 5:=rfl
 cases ht:CG q.Field<;>cases hp:qM q.Field<;>cases Pa:sH q.Field<;>by_cases k2:q.Kind=2
 all_goals simp only [ht,hp,Pa,k2,Bool.or_false,Bool.or_true,Bool.false_or,Bool.true_or,Bool.not_true,Bool.not_false,Bool.false_eq_true,if_false,if_true,decide_true,decide_false,Bool.true_and,Bool.false_and,bad]
 all_goals first
  | rfl
  | (rw [GP (by omega),ht];simp only [Option.bind_some,Bool.not_true,Bool.not_false,Bool.false_eq_true,if_false,if_true];first | (rw [Am (by omega),hp];simp only [Option.bind_some,Bool.not_true,Bool.not_false];first | exact bad | (rw [j1];simp [k2])) | (rw [j1];simp [k2]))
  | (rw [j1];simp [k2,hp])
theorem Bv (v:Version):kZ v=fM v:=by
 unfold kZ mD fM o8 ve vF jw sj
 rw [Bool.eq_iff_iff];simp
theorem OC {s a b:al} (ha:preB s a=true) (hb:preB s b=true):∀ i,i < a.length→i < b.length→a[i]? =b[i]?:=by
 intro i h1 h2
 have h3:s.take a.length=a:=of_decide_eq_true ha
 have h4:s.take b.length=b:=of_decide_eq_true hb
 have e1:a[i]? =s[i]?:=by rw [← h3,List.getElem?_take];simp [h1]
 have e2:b[i]? =s[i]?:=by rw [← h4,List.getElem?_take];simp [h2]
 rw [e1,e2]
theorem Ft {s:al} (h:preB s Kg=true):preB s AX=false:=by
 cases hp:preB s AX with
 | false=>rfl
 | true=>have:=OC h hp 0 (by simp) (by simp);simp at this
theorem Kk {s:al} (h:sH s=true):preB s Kg=false∧preB s AX=false:=by
 unfold sH at h
 simp only [Bool.or_eq_true,decide_eq_true_eq] at h
 rcases h with rfl | rfl | rfl | rfl<;>exact ⟨rfl,rfl⟩
theorem ME {s:al} (h:(CG s||(qM s||sH s))=true):preB s AX=qM s:=by
 simp only [Bool.or_eq_true] at h
 rcases h with h | h | h
 ·have h1:preB s Kg=true:=by unfold CG at h;simp at h;exact h.1
  have h2:=Ft h1
  unfold qM;rw [h2];rfl
 ·rw [h];unfold qM at h;simp at h;exact h.1
 ·have h2:=(Kk h).2
  unfold qM;rw [h2];rfl
theorem H5 (q:Query) (hq:GR q):mj q=some (lF q):=by
 have hf:=hq.field
 have hw:=hq.words
 have h7:∀ c,nO c=some (if c=true then 10 else 0):=fun c=>by unfold nO;cases c<;>rfl
 unfold mj lF
 rw [DH (by omega)]
 simp only [Option.bind_some]
 cases hfr:(CG q.Field||(qM q.Field||(!decide (q.Kind=2)&&sH q.Field))) with
 | false=>rfl
 | true=>
   simp only [Bool.not_true,Bool.false_eq_true,if_false,Bool.true_eq_false]
   by_cases k2:q.Kind=2
   ·rw [if_pos k2,if_pos k2]
   rw [if_neg k2,if_neg k2]
   have Pj:preB q.Field AX=qM q.Field:=ME (by
    simp only [k2,decide_false,Bool.not_false,Bool.true_and] at hfr
    exact hfr)
   unfold sY
   rw [rz _ _ (by unfold vc;simp)]
   simp only [Option.bind_some]
   have ho:q.Op∈vc↔q.Op∈opsL:=Iff.rfl
   by_cases Dc:¬ q.Op∈opsL
   ·rw [if_pos (by simp [ho,Dc]),if_pos Dc]
   have LI:q.Op∈opsL:=Classical.byContradiction Dc
   rw [if_neg (by simp [ho,LI]),if_neg (fun k=>k LI)]
   unfold sX
   have Xl:decide (q.Field=([102,105,114,109,119,97,114,101]:al))=uG q:=rfl
   rw [Xl,Bv]
   by_cases c1:uG q=true∧q.Value≠zV
   ·rw [if_pos c1,if_pos (by simp [c1.1];exact c1.2)]
   rw [if_neg c1,if_neg (by simp;intro h;exact Classical.byContradiction fun k=>c1 ⟨h,k⟩)]
   unfold sW
   by_cases c2:uG q=true∧fM q.Version=false
   ·rw [if_pos c2,if_pos (by simp [c2.1,c2.2])]
   rw [if_neg c2,if_neg (by simp;intro h;cases hb:fM q.Version with | true=>rfl | false=>exact absurd ⟨h,hb⟩ c2)]
   by_cases c3:uG q=true
   ·rw [if_pos c3,if_pos (of_decide_eq_true c3)]
   rw [if_neg c3,if_neg (fun k=>c3 (decide_eq_true k))]
   have j4:∀ (c3:Bool) (c:Bool),c3=(decide (q.Op=[61,61])||decide (q.Op=[33,61]))→nQ q c3 c=some (if c=true then 3 else if (q.Value.Kind≠3∧qM q.Field=false)∨(q.Value.Kind≠2∧q.Op≠[61,61]∧q.Op≠[33,61]) then 10 else 0):=by
    intro c3 c hc3
    subst hc3
    unfold nQ
    cases c with
    | true=>rfl
    | false=>
      simp only [Bool.false_eq_true,if_false]
      have j6:∀ c,nP q (decide (q.Op=[61,61])||decide (q.Op=[33,61])) c=some (if c=true∨(q.Value.Kind≠2∧q.Op≠[61,61]∧q.Op≠[33,61]) then 10 else 0):=by
       intro c
       unfold nP sV
       cases c with
       | true=>simp [h7]
       | false=>
         simp only [Bool.false_eq_true,if_false,false_or]
         rw [h7]
         congr 1
         simp
      by_cases k:q.Value.Kind=3
      ·rw [if_neg (fun h=>h k),j6]
       congr 1
       simp [k]
      ·rw [if_pos k,x8 _ _ (by omega),Pj]
       simp only [Option.bind_some]
       rw [j6]
       congr 1
       simp [k]
   by_cases c4:q.Version≠Bu
   ·rw [if_pos c4,j4 _ _ rfl,if_pos (decide_eq_true c4),if_pos (.inl c4)]
   ·rw [if_neg c4,DI _ (by omega)]
    simp only [Option.bind_some]
    unfold ql
    rw [j4 _ _ rfl,j4 _ _ rfl]
    cases hr:vP q.Value with
    | false=>rw [if_pos (by simp),if_pos (by simp),if_pos (.inr (.inl rfl))]
    | true=>
      rw [if_neg (by simp)]
      by_cases c5:q.Value.Kind=0
      ·rw [if_pos (by simpa using c5),if_pos (.inr (.inr c5))]
      ·rw [if_neg (by simpa using c5),if_neg (show ¬ (q.Version≠Bu∨(true=false∨q.Value.Kind=0)) from fun k=>k.elim c4 (fun k=>k.elim (fun h=>by cases h) c5))]
theorem H6 (self:Query→Option Int) (q:Query) (hq:QB q):mn self q=if DJ q=true then some 4 else if xF q=true then some 3 else if q.Kind≤2 then mj q else jc self q 0:=by
 have hk:=hq.kids
 have ho:(!ve q.Kind 1 5)=DJ q:=by
  unfold ve vF DJ;rw [Bool.eq_iff_iff];simp
 unfold mn
 rw [ho]
 cases vu:DJ q with
 | true=>rfl
 | false=>
   simp only [Bool.false_eq_true,if_false]
   have hr:1≤q.Kind∧q.Kind≤5:=by unfold DJ at vu;simp at vu;omega
   have tail:∀ c:Bool,ml self q c=if c=true then some 3 else if q.Kind≤2 then mj q else jc self q 0:=by
    intro c
    unfold ml
    cases c with
    | true=>rfl
    | false=>
      simp only [Bool.false_eq_true,if_false]
      split
      ·cases mj q<;>rfl
      ·rfl
   have j8:∀ c:Bool,oE self q c=if (c||(decide (2 < q.Kind)&&decide (q.Field≠[])))=true then some 3 else if q.Kind≤2 then mj q else jc self q 0:=by
    intro c
    unfold oE qm
    cases c with
    | true=>rw [if_pos rfl,tail];rfl
    | false=>rw [if_neg (by simp),tail,Bool.false_or]
   have j7:∀ c:Bool,jd self q c=if (c||((decide (q.Kind≠1)&&(decide (q.Op≠[])||(decide (q.Value≠zV)||decide (q.Version≠Bu))))||(decide (2 < q.Kind)&&decide (q.Field≠[]))))=true then some 3 else if q.Kind≤2 then mj q else jc self q 0:=by
    intro c
    unfold jd
    cases c with
    | true=>rfl
    | false=>simp only [Bool.false_eq_true,if_false,Bool.false_or];rw [j8]
   have hc:cA q.Kids (fun y0=>some (rS y0 q))=some (H4 q):=gf _ _ _ (fun x _=>rfl) (by omega)
   have j3:∀ c2 c:Bool,mm self q c2 c=if c=true then some 3 else jd self q (c2&&H4 q):=by
    intro c2 c
    unfold mm
    cases c with
    | true=>rfl
    | false=>
      simp only [Bool.false_eq_true,if_false]
      cases c2 with
      | true=>rw [if_pos rfl,hc];rfl
      | false=>rfl
   have all:oG self q (decide (q.Kind=4)||decide (q.Kind=5))=if ((decide (q.Kind≤2)&&decide ((0:Int) < q.Kids.length))||((decide (q.Kind=3)&&decide ((q.Kids.length:Int)≠1))||((decide (q.Kind=4)||decide (q.Kind=5))&&decide ((q.Kids.length:Int) < 2))))=true then some 3 else jd self q ((decide (q.Kind=4)||decide (q.Kind=5))&&H4 q):=by
    unfold oG rW rV rU oF
    simp only [j3]
    cases decide (q.Kind≤2)&&decide ((0:Int) < q.Kids.length)<;>cases decide (q.Kind=3)&&decide ((q.Kids.length:Int)≠1)<;>simp
   rw [all,j7]
   have e:((decide (q.Kind≤2)&&decide ((0:Int) < q.Kids.length))||((decide (q.Kind=3)&&decide ((q.Kids.length:Int)≠1))||((decide (q.Kind=4)||decide (q.Kind=5))&&decide ((q.Kids.length:Int) < 2)))||(((decide (q.Kind=4)||decide (q.Kind=5))&&H4 q)||((decide (q.Kind≠1)&&(decide (q.Op≠[])||(decide (q.Value≠zV)||decide (q.Version≠Bu))))||(decide (2 < q.Kind)&&decide (q.Field≠[])))))=xF q:=by
    unfold xF
    have e1:decide ((q.Kids.length:Int) < 2)=decide (q.Kids.length < 2):=by rw [decide_eq_decide];omega
    have e2:decide ((0:Int) < q.Kids.length)=decide (q.Kids.length≠0):=by rw [decide_eq_decide];omega
    have e3:decide ((q.Kids.length:Int)≠1)=decide (q.Kids.length≠1):=by rw [decide_eq_decide];omega
    rw [e1,e2,e3]
    generalize (decide (q.Op≠[])||(decide (q.Value≠zV)||decide (q.Version≠Bu)))=ob
    generalize decide (q.Field≠[])=fb
    generalize H4 q=kb
    generalize decide (q.Kids.length < 2)=l2
    generalize decide (q.Kids.length≠0)=l0
    generalize decide (q.Kids.length≠1)=l1
    have TO:q.Kind=1∨q.Kind=2∨q.Kind=3∨q.Kind=4∨q.Kind=5:=by omega
    rcases TO with k | k | k | k | k<;>rw [k]<;>cases ob<;>cases fb<;>cases kb<;>cases l2<;>cases l0<;>cases l1<;>rfl
   rw [← e]
   split
   ·rename_i h;simp only [h,Bool.true_or,if_true]
   ·rename_i h
    have h:((decide (q.Kind≤2)&&decide ((0:Int) < q.Kids.length))||((decide (q.Kind=3)&&decide ((q.Kids.length:Int)≠1))||((decide (q.Kind=4)||decide (q.Kind=5))&&decide ((q.Kids.length:Int) < 2))))=false:=by simpa using h
    rw [h,Bool.false_or]
def Ao (s p:al):Bool:=decide (p.length≤s.length)&&decide (s.drop (s.length - p.length)=p)
theorem CJ (s p:al) (h:s.length≤1000000000):dD s p=some (Ao s p):=by
 unfold dD dc Ao
 by_cases c:p.length≤s.length
 ·rw [if_pos (by omega),bh (by omega) (by omega),vM (by omega) (by omega) (by omega)]
  simp only [Option.bind_some,Option.some.injEq]
  rw [show ((s.length:Int) - p.length).toNat=s.length - p.length by omega,List.take_of_length_le (by simp)]
  simp [c]
 ·rw [if_neg (by omega)];simp [c]
theorem uH (c b:UInt8) (r:al):ct c (b :: r)=if b=c then [] :: ct c r else match ct c r with
 | []=>[[b]]
 | h :: t=>(b :: h) :: t:=rfl
theorem yv (c:UInt8):∀ a b:al,ct c (a++c :: b)=ct c a++ct c b
 | [],b=>by simp [ct]
 | x :: a,b=>by
   have ih:=yv c a b
   rw [List.cons_append,uH c x (a++c :: b),uH c x a]
   by_cases hx:x=c
   ·rw [if_pos hx,if_pos hx,ih,List.cons_append]
   ·rw [if_neg hx,if_neg hx,ih]
    cases e:ct c a with
    | nil=>exact absurd e (Aj c a)
    | cons h t=>rfl
theorem uI (c x:UInt8) (hx:x≠c):∀ a:al,∃ l e,ct c a=l++[e]∧ct c (a++[x])=l++[e++[x]]
 | []=>⟨[],[],by simp [ct],by simp [ct,hx]⟩
 | y :: a=>by
   obtain ⟨l,e,h1,h2⟩:=uI c x hx a
   rw [List.cons_append,uH c y (a++[x]),uH c y a]
   by_cases hy:y=c
   ·rw [if_pos hy,if_pos hy,h1,h2]
    exact ⟨[] :: l,e,rfl,rfl⟩
   ·rw [if_neg hy,if_neg hy,h1,h2]
    cases l with
    | nil=>exact ⟨[],y :: e,rfl,rfl⟩
    | cons z l=>exact ⟨(y :: z) :: l,e,rfl,rfl⟩
def DK (s:al):Bool:=decide ((ct 46 s).length≤5)&&(if (ct 46 s).getLast? =some [42] then (ct 46 s).dropLast.all nH else (ct 46 s).all nH)
theorem xG (a:al) (x c:UInt8):Ao (a++[x]) [c]=decide (x=c):=by
 unfold Ao
 rw [List.length_append,List.length_singleton,List.length_singleton,show a.length+1 - 1=a.length by omega,List.drop_left]
 simp
theorem MF (c:UInt8):Ao [] [c]=false:=by simp [Ao]
theorem CK (s:al):s=[]∨∃ a x,s=a++[x]:=by
 cases h:s.reverse with
 | nil=>exact .inl (by simpa using h)
 | cons x r=>exact .inr ⟨r.reverse,x,by have:=congrArg List.reverse h;simpa using this⟩
theorem Kl (a:al):nH (a++[42])=false:=by
 cases a with
 | nil=>decide
 | cons c r=>
   rw [List.cons_append,vq]
   have:(c :: (r++[42])).all (fun c=>Nf c.toNat)=false:=by
    rw [List.all_eq_false];exact ⟨42,by simp,by decide⟩
   rw [this,Bool.and_false]
theorem I7 (s:al) (c:UInt8) (h:s.length≤1000000000):strings_CutSuffix s [c]=some (if Ao s [c]=true then (s.take (s.length - 1),true) else (s,false)):=by
 unfold strings_CutSuffix fh
 rw [CJ s [c] h]
 simp only [Option.bind_some]
 cases e:Ao s [c] with
 | false=>simp
 | true=>
   have hl:1≤s.length:=by
    unfold Ao at e
    simp at e;exact e.1
   rw [if_neg (by simp),bh (by simp;omega) (by simp;omega),vM (by omega) (by simp;omega) (by simp;omega)]
   simp only [Option.bind_some,if_true]
   have e0:((s.length:Int) - (([c]:al).length:Int)).toNat - Int.toNat 0=s.length - 1:=by simp
   rw [e0];rfl
theorem H7 {s:al} {c:UInt8} (h:s.length≤1000000000) (e:Ao s [c]=true):strings_CutSuffix s [c]=some (s.take (s.length - 1),true):=by rw [I7 s c h,if_pos e]
theorem Fu {s:al} {c:UInt8} (h:s.length≤1000000000) (e:Ao s [c]=false):strings_CutSuffix s [c]=some (s,false):=by rw [I7 s c h,if_neg (by simp [e])]
theorem Eu (s:al) (k:Nat) (hk:k≤1000) (h:s.length≤1000000000):lp s (k:Int)=some (DG k s):=by
 unfold lp
 rw [xf k hk k s 0 (by omega) (by omega) h]
theorem CL (s:al) (h:s.length≤1000000000):nq s=some (DG 5 s):=by
 unfold nq
 rw [show (5:Int)=((5:Nat):Int) from rfl,Eu s 5 (by omega) h];rfl
theorem GU (s:al) (h:s.length≤100000000):nT s=some (DK s):=by
 unfold nT lV
 rcases CK s with rfl | ⟨a,x,rfl⟩
 ·rw [Fu (by simp) (MF 42)]
  simp only [Option.bind_some]
  rw [if_pos (by simp),CL _ (by simp)]
  decide
 by_cases hx:x=42
 ·subst hx
  rw [H7 (by omega) (by rw [xG];simp)]
  simp only [Option.bind_some]
  rw [if_neg (by simp)]
  have ht:(a++[(42:UInt8)]).take ((a++[(42:UInt8)]).length - 1)=a:=by simp
  rw [ht]
  by_cases ha:a=[]
  ·subst ha;rw [if_pos rfl];decide
  rw [if_neg ha]
  rcases CK a with rfl | ⟨g,y,rfl⟩
  ·exact absurd rfl ha
  have hg:g.length≤1000000000:=by simp at h;omega
  have hgy:(g++[y]).length≤1000000000:=by simp at h ⊢;omega
  by_cases hy:y=46
  ·subst hy
   rw [H7 hgy (by rw [xG];simp)]
   simp only [Option.bind_some]
   rw [if_pos trivial]
   have ht:(g++[(46:UInt8)]).take ((g++[(46:UInt8)]).length - 1)=g:=by simp
   rw [ht,show (4:Int)=((4:Nat):Int) from rfl,Eu g 4 (by omega) hg]
   simp only [Option.bind_some]
   have hs:ct 46 (g++[46]++[42])=ct 46 g++[[42]]:=by
    rw [List.append_assoc];exact yv 46 g [42]
   unfold DK DG
   rw [hs]
   simp only [List.length_append,List.length_singleton,List.getLast?_append,List.getLast?_singleton,Option.some_or,if_true,List.dropLast_concat]
   congr 1
   rw [Bool.eq_iff_iff];simp
  ·rw [Fu hgy (by rw [xG];simpa using hy)]
   simp only [Option.bind_some]
   rw [if_neg (by simp)]
   obtain ⟨l,e,h1,h2⟩:=uI 46 y hy g
   obtain ⟨l',e',h3,h4⟩:=uI 46 42 (by decide) (g++[y])
   rw [h2] at h3
   obtain ⟨rfl,h5⟩:=List.append_inj' h3 rfl
   obtain rfl:=List.singleton_inj.1 h5
   unfold DK
   rw [h4]
   simp only [List.getLast?_append,List.getLast?_singleton,Option.some_or,List.all_append,List.all_cons,List.all_nil,Bool.and_true]
   rw [Kl,if_neg (by
    intro k
    have:=congrArg List.length (Option.some.inj k)
    simp at this)]
   simp
 ·rw [Fu (by omega) (by rw [xG];simpa using hx)]
  simp only [Option.bind_some]
  rw [if_pos (by simp),CL _ (by omega)]
  simp only [Option.bind_some]
  unfold DK DG
  have hl:(ct 46 (a++[x])).getLast? ≠some [42]:=by
   by_cases hp:x=46
   ·subst hp
    rw [show a++[(46:UInt8)]=a++46 :: [] from rfl,yv]
    simp [ct]
   ·obtain ⟨l,e,h1,h2⟩:=uI 46 x hp a
    rw [h2]
    simp only [List.getLast?_append,List.getLast?_singleton,Option.some_or,ne_eq,Option.some.injEq]
    intro he
    have:=congrArg List.getLast? he
    simp at this
    exact hx this
  rw [if_neg hl]
theorem MG {α:Type} (l:List α) (x:α):idx (l++[x]) (cr (((l++[x]).length:Int) - 1))=if ((l++[x]).length:Int)≤9223372036854775807 then some x else idx (l++[x]) (cr (((l++[x]).length:Int) - 1)):=by
 split
 ·rw [bh (by simp) (by omega)]
  unfold idx
  rw [if_pos (by simp)]
  rw [List.length_append,List.length_singleton,show (((l.length+1:Nat):Int) - 1).toNat=l.length by omega]
  simp
 ·rfl
theorem AZ (s:al) (h:s.length≤100000000):tH s false=some (DK s):=by
 unfold tH
 rw [Ak (by omega)]
 simp only [Option.bind_some]
 have hlen:=uV 46 s
 have sw:=Aj 46 s
 have j2:∀ l:List al,l.length≤1000000000→mh s l=some (decide ((ct 46 s).length≤5)&&l.all nH):=by
  intro l hl
  unfold mh oB
  rw [Ak (by omega)]
  simp only [Option.bind_some]
  by_cases c:(ct 46 s).length≤5
  ·rw [if_pos (by omega)]
   rw [show aZ l (fun y0=>mg y0)=some (l.any (fun y=>!nH y)) from gf l _ _ (fun x _=>by show mg x=_;unfold mg;rw [nI];rfl) (by omega)]
   simp only [Option.bind_some,Option.some.injEq]
   rw [decide_eq_true c,Bool.true_and,List.not_any_eq_all_not]
   congr 1;funext x;simp
  ·rw [if_neg (by omega),decide_eq_false c];simp
 rcases List.eq_nil_or_concat (ct 46 s) with e | ⟨l,x,e⟩
 ·exact absurd e sw
 rw [List.concat_eq_append] at e
 rw [if_pos (by simp)]
 have hx:idx (ct 46 s) (cr (((ct 46 s).length:Int) - 1))=some x:=by rw [e,MG,if_pos (by rw [← e];omega)]
 rw [hx]
 simp only [Option.bind_some]
 unfold oC DK
 rw [hx]
 simp only [Option.bind_some]
 have Vu:l.length≤1000000000:=by
  have:=congrArg List.length e
  simp at this;omega
 have hg:(ct 46 s).getLast? =some x:=by rw [e];simp
 have hd:(ct 46 s).dropLast=l:=by rw [e];simp
 rw [hg,hd]
 have we:1≤(ct 46 s).length:=by rw [e];simp
 by_cases c:x=[42]
 ·rw [if_pos (by simpa using c),if_pos (by rw [c]),bh (by omega) (by omega),vM (by omega) (by omega) (by omega)]
  simp only [Option.bind_some]
  have ht:((ct 46 s).drop (0:Int).toNat).take ((((ct 46 s).length:Int) - 1).toNat - (0:Int).toNat)=l:=by
   rw [e];simp
  rw [ht,j2 l Vu]
 ·rw [if_neg (by simpa using c),if_neg (fun k=>c (Option.some.inj k)),nI]
  simp only [Option.bind_some]
  cases hk:nH x with
  | false=>rw [if_pos (by simp),e];simp [hk]
  | true=>rw [if_neg (by simp),j2 _ (by omega)]
def OD (a b:al):Bool:=decide (a=b)||(Ao a [42]&&preB b (a.take (a.length - 1)))
theorem Km (a b:al) (ha:a.length≤1000000000) (hb:b.length≤1000000000):oO a b=some (OD a b):=by
 unfold oO jj OD
 cases e:Ao a [42] with
 | false=>
   rw [Fu ha e]
   simp only [Option.bind_some]
   by_cases c:a=b
   ·rw [if_pos c,decide_eq_true c];rfl
   rw [if_neg c,decide_eq_false c,if_neg (by simp)]
   rfl
 | true=>
   rw [H7 ha e]
   simp only [Option.bind_some]
   by_cases c:a=b
   ·rw [if_pos c,decide_eq_true c];rfl
   rw [if_neg c,decide_eq_false c,if_pos trivial]
   rw [x8 b _ hb];simp
def H8 (MH:List al) (w:al):Bool:=MH.any (fun h=>OD h w)
def BH (MH want:List al):Bool:=want.all (H8 MH)
def C5 (l:List al):Prop:=l.length≤1000000∧∀ x∈l,x.length≤1000000
theorem H9 (l:List al) (w:al) (hl:C5 l) (hw:w.length≤1000000):nD l w=some (H8 l w):=by
 unfold nD
 rw [show aZ l (fun y0=>iG y0 w)=some (l.any (fun h=>OD h w)) from gf l _ _ (fun x hx=>by
  show iG x w=_
  unfold iG
  rw [Km x w (by have:=hl.2 x hx;omega) (by omega)];rfl) (by have:=hl.1;omega)]
 rfl
theorem DL (l m:List al) (hl:C5 l) (hm:C5 m):kr l m=some (BH l m):=by
 unfold kr
 rw [show aZ m (fun y0=>gb y0 l)=some (m.any (fun w=>!H8 l w)) from gf m _ _ (fun x hx=>by
  show gb x l=_
  unfold gb
  rw [H9 l x hl (hm.2 x hx)];rfl) (by have:=hm.1;omega)]
 simp only [Option.bind_some,Option.some.injEq]
 rw [List.not_any_eq_all_not]
 unfold BH
 congr 1;funext x;simp
theorem xh (l:List al) (hl:C5 l):jh l=ph l∧∃ r,ph l=some r:=by
 unfold jh ph uv
 have hb:∀ i,gK l i=jv l false i:=by
  intro i
  unfold gK jv iP ju
  by_cases c:i < (l.length:Int)
  ·rw [if_pos c,if_pos c]
   cases hx:idx l i with
   | none=>rfl
   | some x=>
     simp only [Option.bind_some]
     have:=hl.2 x (ik hx)
     rw [GU x (by omega),AZ x (by omega)]
  ·rw [if_neg c,if_neg c]
 have TP:sN l 0=qe l false 0:=Kh (fun i=>hb i) 0
 have Xm:Ok (qe l false 0) (fun _=>True):=by
  unfold qe
  refine Ok.range l.length (fun i h0 h1=>?_)
  have w1:cr (i+1)=i+1:=bh (by omega) (by have:=hl.1;omega)
  unfold jv
  split
  ·rename_i hi
   refine Ok.idx h0 (by simpa using hi) (fun x hx hm=>?_)
   have:=hl.2 x hm
   rw [AZ x (by omega)]
   simp only [Option.bind_some]
   have j1:∀ c,Ok (ju i c) (Xk l.length (fun _=>True) i):=by
    intro c
    unfold ju
    split
    ·exact Ok.inr (Ok.ret trivial)
    ·rw [w1];exact Ok.ret ⟨rfl,by simpa using hi⟩
   split
   ·exact Ok.inr (Ok.ret trivial)
   ·split
    ·rw [bh (by omega) (by have:=hl.1;omega)]
     exact Ok.idx (by omega) (by omega) (fun y _ _=>j1 _)
    ·exact j1 _
  ·exact Ok.inr (Ok.ret trivial)
 obtain ⟨r,hr,_⟩:=Xm
 rw [TP,hr]
 refine ⟨rfl,?_⟩
 split
 ·exact ⟨_,rfl⟩
 ·split
  ·exact ⟨_,rfl⟩
  ·exact ⟨_,rfl⟩
theorem Ia {A:Type} {f g:Int→Option (Int⊕A)} (N:Nat) (Inv:Int→Prop)
 (h:∀ i:Int,0≤i→i≤N→Inv i→f i=g i∧∀ j,f i=some (.inl j)→j=i+1∧i < N∧Inv j) (h0:Inv 0):Eng.iter f 0=Eng.iter g 0:=by
 have key:∀ (k:Nat) (i:Int),0≤i→i≤N→i+k=N+1→Inv i→Eng.iter f i=Eng.iter g i:=by
  intro k
  induction k with
  | zero=>intro i hi hN hk hv;omega
  | succ k ih=>
    intro i hi hN hk hv
    obtain ⟨e,hn⟩:=h i hi hN hv
    rw [iter_eq (f:=f),iter_eq (f:=g),← e]
    cases hf:f i with
    | none=>rfl
    | some r=>
      cases r with
      | inr a=>rfl
      | inl j=>
        obtain ⟨rfl,h1,h2⟩:=hn j hf
        simp only [Option.bind_some,dh]
        exact ih (i+1) (by omega) (by omega) (by omega) h2
 exact key (N+1) 0 (by omega) (by omega) (by omega) h0
theorem Ev {α:Type} (p:α→Bool):∀ (xs pre:List α) (x:α),xs.find? p=some x→idx (pre++xs) (eE p xs pre.length)=some x
 | [],_,_,h=>by cases h
 | y :: r,pre,x,h=>by
   rw [List.find?_cons] at h
   unfold eE
   cases hp:p y with
   | true=>
     rw [hp] at h
     obtain rfl:=Option.some.inj h
     rw [if_pos rfl]
     unfold idx
     rw [if_pos (by omega)];simp
   | false=>
     rw [hp] at h
     rw [if_neg (by simp)]
     have:=Ev p r (pre++[y]) x h
     rw [List.append_assoc,List.length_append,List.length_singleton] at this
     exact_mod_cast this
theorem CM:∀ {l L:List al},l.Nodup→(∀ x∈l,x∈L)→l.length≤L.length
 | [],L,_,_=>Nat.zero_le _
 | x :: l,L,h,hs=>by
   have h1:=List.nodup_cons.1 h
   have hx:=hs x (by simp)
   have ih:=CM (l:=l) (L:=L.erase x) h1.2 (fun y hy=>by
    have sw:y≠x:=fun e=>h1.1 (e▸hy)
    exact (List.mem_erase_of_ne sw).2 (hs y (List.mem_cons_of_mem _ hy)))
   rw [List.length_erase_of_mem hx] at ih
   have:0 < L.length:=List.length_pos_of_mem hx
   simp only [List.length_cons]
   omega
def OE (T:List an) (k:al):Option an:=T.find? (fun t=>decide (t.Key=k))
def up (T:List an) (k:al):Option al:=(OE T k).map (·.eB)
def walk (T:List an):Nat→al→List al
 | 0,_=>[]
 | n+1,q=>match up T q with
   | none=>[]
   | some r=>q :: walk T n r
structure xi (T:List an):Prop where
 key:∀ t∈T,t.Key≠[]
 nd:T.Pairwise (fun a b=>a.Key≠b.Key)
 cl:∀ t∈T,t.eB≠[]→∃ u∈T,u.Key=t.eB
theorem CN {T:List an} {k:al} {t:an} (h:OE T k=some t):t∈T∧t.Key=k:=
 ⟨List.mem_of_find?_eq_some h,by simpa using List.find?_some h⟩
theorem CO {T:List an} {k:al}:OE T k=none↔∀ t∈T,t.Key≠k:=by
 unfold OE;rw [List.find?_eq_none];simp
theorem OF {T:List an} {k:al} (h:∃ t∈T,t.Key=k):∃ t,OE T k=some t:=by
 cases e:OE T k with
 | some t=>exact ⟨t,rfl⟩
 | none=>obtain ⟨t,ht,hk⟩:=h;exact absurd hk (CO.1 e t ht)
theorem zk {T:List an} {k r:al} (h:up T k=some r):∃ t∈T,t.Key=k∧t.eB=r:=by
 unfold up at h
 obtain ⟨t,h1,h2⟩:=Option.map_eq_some_iff.1 h
 exact ⟨t,(CN h1).1,(CN h1).2,h2⟩
theorem yw {T:List an} {k:al} (h:∃ t∈T,t.Key=k):∃ r,up T k=some r:=by
 obtain ⟨t,ht⟩:=OF h
 exact ⟨t.eB,by unfold up;rw [ht];rfl⟩
theorem Q3 {T:List an} (h:xi T):up T []=none:=by
 unfold up
 rw [CO.2 (fun t ht=>h.key t ht)];rfl
theorem TQ {T:List an} (h:xi T) {q r:al} (e:up T q=some r):r=[]∨∃ r',up T r=some r':=by
 obtain ⟨t,ht,_,rfl⟩:=zk e
 by_cases c:t.eB=[]
 ·exact .inl c
 ·exact .inr (yw (h.cl t ht c))
theorem rB {T:List an} {q:al} (h:up T q=none):∀ n,walk T n q=[]
 | 0=>rfl
 | n+1=>by unfold walk;rw [h]
theorem jJ {T:List an} {q r:al} (h:up T q=some r) (n:Nat):walk T (n+1) q=q :: walk T n r:=by
 rw [walk,h]
theorem GV {T:List an}:∀ (n:Nat) (q:al),(walk T n q).length≤n
 | 0,_=>Nat.le_refl _
 | n+1,q=>by
   cases e:up T q with
   | none=>rw [rB e];exact Nat.zero_le _
   | some r=>rw [jJ e];exact Nat.succ_le_succ (GV n r)
theorem Ew {T:List an}:∀ (n:Nat) (q x:al),x∈walk T n q→x∈walk T (n+1) q
 | 0,_,_,h=>by cases h
 | n+1,q,x,h=>by
   cases e:up T q with
   | none=>rw [rB e] at h;cases h
   | some r=>
     rw [jJ e] at h ⊢
     rcases List.mem_cons.1 h with rfl | h
     ·exact List.mem_cons_self
     ·exact List.mem_cons_of_mem _ (Ew n r x h)
theorem CP {T:List an} (n:Nat) (q x:al) (h:x∈(walk T n q).tail):x∈(walk T (n+1) q).tail:=by
 cases n with
 | zero=>cases h
 | succ n=>
   cases e:up T q with
   | none=>rw [rB e] at h;cases h
   | some r=>
     rw [jJ e] at h ⊢
     exact Ew n r x h
theorem Ex {T:List an}:∀ (n:Nat) (q:al),¬ (walk T n q).Nodup→∃ t∈T,t.Key∈(walk T n t.Key).tail
 | 0,_,h=>absurd List.nodup_nil h
 | n+1,q,h=>by
   cases e:up T q with
   | none=>rw [rB e] at h;exact absurd List.nodup_nil h
   | some r=>
     rw [jJ e,List.nodup_cons] at h
     by_cases c:q∈walk T n r
     ·obtain ⟨t,ht,rfl,_⟩:=zk e
      exact ⟨t,ht,by rw [jJ e];exact c⟩
     ·obtain ⟨t,ht,h2⟩:=Ex n r (fun k=>h ⟨c,k⟩)
      exact ⟨t,ht,CP n _ _ h2⟩
theorem Kn {T:List an} {n:Nat} {q:al} (h:q∈(walk T n q).tail):¬ (walk T n q).Nodup:=by
 cases n with
 | zero=>cases h
 | succ n=>
   cases e:up T q with
   | none=>rw [rB e] at h;cases h
   | some r=>
     rw [jJ e] at h ⊢
     rw [List.nodup_cons]
     exact fun k=>k.1 h
theorem jf (o:bu) (k:al) (hl:o.ak.length≤1000000):dP o k=some (eE (fun t=>decide (t.Key=k)) o.ak 0):=by
 unfold dP
 rw [show fe o.ak (fun y0=>some (rQ y0 k))=some (eE (fun t=>decide (t.Key=k)) o.ak 0) from oT o.ak _ _ (fun x _=>rfl) (by omega)]
 rfl
theorem ja (T:List an) (k:al):eE (fun t=>decide (t.Key=k)) T 0 < 0↔up T k=none:=by
 have h:=xB (fun t:an=>decide (t.Key=k)) T 0 (by omega)
 have h2:up T k=none↔¬ (T.any (fun t=>decide (t.Key=k))=true):=by
  unfold up
  rw [Option.map_eq_none_iff,CO];simp
 rw [h2,← h];omega
theorem CQ {T:List an} {k:al} {t:an} (h:OE T k=some t):idx T (eE (fun t=>decide (t.Key=k)) T 0)=some t:=by
 have:=Ev (fun t:an=>decide (t.Key=k)) T [] t h
 simpa using this
theorem Ey {o:bu} (hl:o.ak.length≤1000000) {q r:al} (e:up o.ak q=some r) {β:Type} (f:al→Option β):((dP o q).bind fun v12=>(idx o.ak v12).bind fun oh=>f oh.eB)=f r:=by
 rw [jf o q hl]
 simp only [Option.bind_some]
 unfold up at e
 obtain ⟨t,h1,h2⟩:=Option.map_eq_some_iff.1 e
 rw [CQ h1]
 simp only [Option.bind_some,h2]
section
variable {o:bu} (h:xi o.ak) (hl:o.ak.length≤1000000)
theorem I8 {l:List al} (hn:l.Nodup) (hm:∀ x∈l,∃ t∈o.ak,t.Key=x):l.length≤o.ak.length:=by
 have:=CM (L:=o.ak.map (·.Key)) hn (fun x hx=>by
  obtain ⟨t,ht,hk⟩:=hm x hx
  exact List.mem_map.2 ⟨t,ht,hk⟩)
 simpa using this
include h hl
theorem PA:∀ (m:Nat) (q:al) (l:List al),l.Nodup→(∀ x∈l,∃ t∈o.ak,t.Key=x)→l.length+m=o.ak.length+1→(q=[]∨∃ r,up o.ak q=some r)→
 lR o q l=some (if (l++walk o.ak m q).Nodup then some (l++walk o.ak m q) else none)∧sf o q l=some (if (l++walk o.ak m q).Nodup then l++walk o.ak m q else [])
 | 0,q,l,hn,hm,hlen,hq=>by
   have:=I8 hn hm
   omega
 | m+1,q,l,hn,hm,hlen,hq=>by
   have Vu:l.length≤1000000:=by have:=I8 hn hm;omega
   by_cases c:q=[]
   ·subst c
    rw [rB (Q3 h),List.append_nil,if_pos hn,if_pos hn]
    unfold lR sf
    constructor
    ·rw [iter_eq,iH,if_neg (by simp),cH]
    ·rw [iter_eq,ng,if_neg (by simp),cH]
   ·obtain ⟨r,hr⟩:∃ r,up o.ak q=some r:=hq.resolve_left c
    rw [jJ hr]
    by_cases c2:q∈l
    ·have Sq:¬ (l++q :: walk o.ak m r).Nodup:=fun k=>(List.nodup_append.1 k).2.2 q c2 q (by simp) rfl
     rw [if_neg Sq,if_neg Sq]
     unfold lR sf
     constructor
     ·rw [iter_eq,iH,if_pos c,rz l q (by omega)]
      simp only [Option.bind_some]
      rw [if_pos (by simpa using c2),cH]
     ·rw [iter_eq,ng,if_pos c,rz l q (by omega)]
      simp only [Option.bind_some]
      rw [if_pos (by simpa using c2),cH]
    ·obtain ⟨t,ht,hk,_⟩:=zk hr
     have P7:(l++[q]).Nodup:=by
      rw [List.nodup_append]
      exact ⟨hn,by simp,fun a ha b hb=>by rw [List.mem_singleton.1 hb];exact fun e=>c2 (e▸ha)⟩
     obtain ⟨i1,i2⟩:=PA m r (l++[q]) P7 (fun x hx=>by
      rcases List.mem_append.1 hx with k | k
      ·exact hm x k
      ·rw [List.mem_singleton.1 k];exact ⟨t,ht,hk⟩) (by simp;omega) (TQ h hr)
     rw [List.append_assoc,List.singleton_append] at i1 i2
     rw [← i1,← i2]
     unfold lR sf
     constructor
     ·rw [iter_eq,iH,if_pos c,rz l q (by omega)]
      simp only [Option.bind_some]
      rw [if_neg (by simpa using c2),mx (by simp;omega)]
      simp only [Option.bind_some]
      have hs:((dP o q).bind fun v12=>(idx o.ak v12).bind fun oh=>(some (Sum.inl (oh.eB,l++[q])):Option ((al×(List al))⊕(Option (List al)))))=some (.inl (r,l++[q])):=Ey hl hr (fun p=>some (Sum.inl (p,l++[q])))
      rw [hs];rfl
     ·rw [iter_eq,ng,if_pos c,rz l q (by omega)]
      simp only [Option.bind_some]
      rw [if_neg (by simpa using c2),mx (by simp;omega)]
      simp only [Option.bind_some]
      have hs:((dP o q).bind fun v12=>(idx o.ak v12).bind fun oh=>(some (Sum.inl (oh.eB,l++[q])):Option ((al×(List al))⊕(List al))))=some (.inl (r,l++[q])):=Ey hl hr (fun p=>some (Sum.inl (p,l++[q])))
      rw [hs];rfl
abbrev wk (o:bu) (k:al):List al:=walk o.ak (o.ak.length+1) k
theorem tj {k:al} (hk:k=[]∨∃ r,up o.ak k=some r):nM o k=some (if (wk o k).Nodup then some (wk o k) else none)∧oA o k=some (if (wk o k).Nodup then wk o k else []):=by
 have:=PA h hl (o.ak.length+1) k [] List.nodup_nil (fun x hx=>by cases hx) (by simp) hk
 simp only [List.nil_append] at this
 exact this
end
structure oU (v:aC) (o:bu):Prop where
 Ng:v.bu=o
 par:∀ k,bM v.a8 k=up o.ak k
 len:v.a8.length=o.ak.length
theorem xj {v:aC} {o:bu} (h:oU v o) (k:al):dm v k=some (up o.ak k).isSome:=by
 unfold dm AE
 rw [h.par k];rfl
theorem MI {v:aC} {o:bu} (h:oU v o) (hl:o.ak.length≤1000000):∀ (m:Nat) (q:al) (l:List al),l.length+m=o.ak.length+1→iO v q l=some (l++walk o.ak m q)
 | 0,q,l,hlen=>by
   unfold iO
   rw [iter_eq,gJ,xj h]
   simp only [Option.bind_some]
   unfold iN
   rw [if_neg (by rw [h.len];simp;omega),cH]
   simp [walk]
 | m+1,q,l,hlen=>by
   unfold iO
   rw [iter_eq,gJ,xj h]
   simp only [Option.bind_some]
   unfold iN
   cases e:up o.ak q with
   | none=>rw [if_neg (by simp),cH,rB e];simp
   | some r=>
     rw [if_pos (by rw [h.len];simp;omega),mx (by simp;omega)]
     simp only [Option.bind_some]
     unfold kK
     rw [h.par q,e]
     simp only [Option.bind_some,Option.getD_some,dh]
     have:=MI h hl m r (l++[q]) (by simp;omega)
     unfold iO at this
     rw [this,jJ e];simp
theorem zm {v:aC} {o:bu} (h:oU v o) (hl:o.ak.length≤1000000) (k:al):fX v k=some (wk o k):=by
 unfold fX
 rw [MI h hl (o.ak.length+1) k [] (by simp)];rfl
theorem xk (o:bu) (k:al):(wk o k).length≤o.ak.length+1:=GV _ _
theorem xH {A:Type} {f g:Int→Option (Int⊕A)} (N:Nat) (Inv:Int→Prop) (R:A→Prop) (h0:Inv 0)
 (h:∀ i:Int,0≤i→i≤N→Inv i→f i=g i∧Ok (f i) (HY N Inv R i)):Eng.iter f 0=Eng.iter g 0∧Ok (Eng.iter f 0) R:=by
 refine ⟨Ia N Inv (fun i h1 h2 h3=>⟨(h i h1 h2 h3).1,fun j hj=>?_⟩) h0,Ok.QZ N Inv h0 (fun i h1 h2 h3=>(h i h1 h2 h3).2)⟩
 obtain ⟨r,e1,e2⟩:=(h i h1 h2 h3).2
 rw [hj] at e1
 obtain rfl:=Option.some.inj e1
 obtain ⟨rfl,e3,e4⟩:=e2
 exact ⟨rfl,e3,e4⟩
theorem yx {α A:Type} (p:α→Bool) (a e:A):∀ xs:List α,xd (fun x=>if p x=true then some a else none) e xs=if xs.any p=true then a else e
 | []=>rfl
 | x :: r=>by
   unfold xd
   rw [List.any_cons]
   cases hp:p x with
   | true=>simp
   | false=>simp [yx p a e r]
theorem Ib {α A:Type} (xs:List α) (f:Int→Option (Int⊕A)) (p:α→Bool) (a:A) (hlen:xs.length≤1000000)
 (h1:∀ (i:Int) x,0≤i→i < xs.length→idx xs i=some x→f i=if p x=true then some (.inr a) else some (.inl (i+1))) (hp:xs.any p=true):iter f 0=some a:=by
 have key:∀ (k:Nat) (i:Int),0≤i→i+k=xs.length→(xs.drop i.toNat).any p=true→iter f i=some a:=by
  intro k
  induction k with
  | zero=>intro i h0 hi h;rw [List.drop_of_length_le (by omega)] at h;cases h
  | succ k ih=>
    intro i h0 hi h
    obtain ⟨x,hx,_,hd⟩:=iZ xs h0 (by omega)
    rw [iter_eq,h1 i x h0 (by omega) hx]
    rw [hd,List.any_cons] at h
    cases hpx:p x with
    | true=>rfl
    | false=>
      rw [if_neg (by simp)]
      simp only [Option.bind_some,dh]
      exact ih (i+1) (by omega) (by omega) (by rw [hpx,Bool.false_or] at h;exact h)
 exact key xs.length 0 (by omega) (by omega) (by simpa using hp)
theorem CR {α:Type} {l:List α} (h:l≠[]):Ca l=some ():=by
 cases l with
 | nil=>exact absurd rfl h
 | cons x r=>rfl
section
variable {α V:Type} (key:α→al) (val:α→V)
def foldM (m:List (al×V)) (xs:List α):List (al×V):=xs.foldl (fun m x=>kO m (key x) (val x)) m
theorem yy (m:List (al×V)) (x:α) (xs:List α):foldM key val m (x :: xs)=foldM key val (kO m (key x) (val x)) xs:=rfl
theorem CS (k:al):∀ (xs:List α) (m:List (al×V)),(bM (foldM key val m xs) k).isSome=(xs.any (fun x=>decide (key x=k))||(bM m k).isSome)
 | [],m=>by simp [foldM]
 | x :: r,m=>by
   rw [yy,CS k r,ti,List.any_cons]
   by_cases c:key x=k
   ·simp [c]
   ·simp [c]
theorem Ap (k:al):∀ (xs:List α) (m:List (al×V)),xs.Pairwise (fun a b=>key a≠key b)→bM (foldM key val m xs) k=((xs.find? (fun x=>decide (key x=k))).map val).or (bM m k)
 | [],m,_=>by simp [foldM]
 | x :: r,m,h=>by
   rw [List.pairwise_cons] at h
   rw [yy,Ap k r _ h.2,ti,List.find?_cons]
   by_cases c:key x=k
   ·have:r.find? (fun x=>decide (key x=k))=none:=by
     rw [List.find?_eq_none]
     intro y hy
     simpa using fun e=>h.1 y hy (by rw [c,e])
    rw [this];simp [c]
   ·simp [c]
theorem Ez:∀ (xs:List α) (m:List (al×V)),xs.Pairwise (fun a b=>key a≠key b)→(∀ x∈xs,bM m (key x)=none)→(foldM key val m xs).length=m.length+xs.length
 | [],m,_,_=>rfl
 | x :: r,m,h,hn=>by
   rw [List.pairwise_cons] at h
   rw [yy,Ez r _ h.2 (fun y hy=>by
    rw [ti,if_neg (h.1 y hy)];exact hn y (by simp [hy])),Fp (hn x (by simp)),List.length_cons]
   omega
end
theorem Ic (o:bu) (h1:o.ak.length≤100000) (h2:o.ba.length≤100000) (h3:o.aL.length≤100000):∃ at_,nk o=some ⟨o,foldM (·.Key) (·.eB) [] o.ak,foldM (·.Key) (·.mR) [] o.ba,at_,[],[]⟩:=by
 unfold nk
 have e1:∀ m,qo o m 0=jW o (foldM (·.Key) (·.eB) m o.ak) [] 0:=by
  intro m
  unfold qo
  exact eV o.ak (fun (s:List (al×al)) (i:Int)=>(s,i)) (fun x=>ei o x.1 x.2) (fun s t=>kO s t.Key t.eB) (fun _ _=>True) (fun s=>jW o s [] 0)
   (fun s i x g0 g1 hi _=>⟨by
    show ei o s i=_
    unfold ei
    rw [if_pos g1,hi,bh (by omega) (by omega)];rfl,trivial⟩)
   (fun s _=>by
    show ei o s o.ak.length=_
    unfold ei
    rw [if_neg (by omega)]) m trivial
 have e2:∀ p m,jW o p m 0=jV o p (foldM (·.Key) (·.mR) m o.ba) [] 0:=by
  intro p m
  unfold jW
  exact eV o.ba (fun (s:List (al×List al)) (i:Int)=>(s,i)) (fun x=>eh o p x.1 x.2) (fun s t=>kO s t.Key t.mR) (fun _ _=>True) (fun s=>jV o p s [] 0)
   (fun s i x g0 g1 hi _=>⟨by
    show eh o p s i=_
    unfold eh
    rw [if_pos g1,hi,bh (by omega) (by omega)];rfl,trivial⟩)
   (fun s _=>by
    show eh o p s o.ba.length=_
    unfold eh
    rw [if_neg (by omega)]) m trivial
 have e3:∀ p m,Ok (jV o p m [] 0) (fun v=>∃ a,v=⟨o,p,m,a,[],[]⟩):=by
  intro p m
  unfold jV
  refine Ok.Q0 o.aL.length (fun (s:List (al×List Int)) (i:Int)=>(s,i)) (fun i s=>∀ k v,bM s k=some v→(v.length:Int)≤i) (fun s i g0 g1 hv=>?_) [] (fun k v hk=>by cases hk)
  show Ok (iB o p m s i) _
  unfold iB
  split
  ·rename_i hi
   refine Ok.idx g0 hi (fun x _ _=>?_)
   unfold kK
   simp only [Option.bind_some]
   have hb:(((bM s x.an).getD []).length:Int)≤i:=by
    cases hk:bM s x.an with
    | none=>simpa using g0
    | some v=>exact hv _ v hk
   refine Ok.app (by simp;omega) ?_
   rw [bh (by omega) (by omega)]
   refine Ok.ret (.inl ⟨_,rfl,hi,fun k v hk=>?_⟩)
   rw [ti] at hk
   split at hk
   ·obtain rfl:=Option.some.inj hk
    simp;omega
   ·have:=hv k v hk;omega
  ·exact Ok.inr (Ok.ret (.inr ⟨_,rfl,_,rfl⟩))
 rw [e1,e2]
 obtain ⟨v,hv,a,rfl⟩:=e3 (foldM (·.Key) (·.eB) [] o.ak) (foldM (·.Key) (·.mR) [] o.ba)
 exact ⟨a,hv⟩
theorem Q4 (o:bu) (hn:o.ak.Pairwise (fun a b=>a.Key≠b.Key)) (a:List (al×(List al))) (b:List (al×(List Int))) (c:List (jb×(List Int))) (d:List (jb×Bool)):oU ⟨o,foldM (·.Key) (·.eB) [] o.ak,a,b,c,d⟩ o where
 Ng:=rfl
 par k:=by
  show bM (foldM (·.Key) (·.eB) [] o.ak) k=_
  rw [Ap (·.Key) (·.eB) k o.ak [] hn,xe,Option.or_none];rfl
 len:=by
  show (foldM (·.Key) (·.eB) [] o.ak).length=_
  rw [Ez (·.Key) (·.eB) o.ak [] hn (fun x _=>rfl)];simp
theorem GW {a b:al} (h:(Op.bytesLess a b||a==b)=false):Lib.compareBytes b a < 0:=by
 rw [vo,Ou,Bool.or_eq_false_iff,decide_eq_false_iff_not,decide_eq_false_iff_not] at h
 have:=vn a b
 rcases Em a b with k | k | k<;>omega
theorem GX {α:Type} (key:α→al) {xs:List α} {i:Int} {x y:α} (h0:0 < i) (hx:idx xs i=some x) (hy:idx xs (i - 1)=some y) (hl:Lib.compareBytes (key y) (key x) < 0) (h:(xs.take i.toNat).Pairwise (fun a b=>Lib.compareBytes (key a) (key b) < 0)):(xs.take (i+1).toNat).Pairwise (fun a b=>Lib.compareBytes (key a) (key b) < 0):=by
 rw [take_succ (by omega) hx,List.pairwise_append]
 refine ⟨h,List.pairwise_singleton _ _,fun a ha b hb=>?_⟩
 rw [List.mem_singleton.1 hb]
 have e:=take_succ (xs:=xs) (i:=i - 1) (by omega) hy
 rw [show i - 1+1=i by omega] at e
 rw [e] at ha h
 rcases List.mem_append.1 ha with k | k
 ·exact Fm ((List.pairwise_append.1 h).2.2 a k y (by simp)) hl
 ·rw [List.mem_singleton.1 k];exact hl
theorem asc_one {α:Type} (key:α→al) {xs:List α} {x:α} (hx:idx xs 0=some x):(xs.take ((0:Int)+1).toNat).Pairwise (fun a b=>Lib.compareBytes (key a) (key b) < 0):=by
 rw [take_succ (by omega) hx];simp
theorem MJ {a b:al} (h:Lib.compareBytes a b < 0):a≠b:=fun e=>by rw [e,xC] at h;omega
theorem OG {s:al} (h:nH s=true):s≠[]:=fun e=>by rw [e] at h;cases h
section
variable {v:aC} {o:bu} (hl:o.ak.length≤100000)
def A0 (o:bu) (t:an):Bool:=decide (t.Key∈(wk o t.Key).tail)
def EA (o:bu) (t:an):Bool:=decide (11 < (wk o t.Key).length)
include hl
theorem I9 (h:xi o.ak) (hv:oU v o):∀ (k:Nat) (c:Bool) (i:Int),0≤i→i+k=o.ak.length→dp v c i=some (if (o.ak.drop i.toNat).any (A0 o)=true then 14 else if (c||(o.ak.drop i.toNat).any (EA o))=true then 2 else 0)
 | 0,c,i,h0,hi=>by
   unfold dp
   rw [iter_eq,dW,hv.Ng,if_neg (by simp;omega),cH,List.drop_of_length_le (by omega)]
   unfold kI
   cases c<;>rfl
 | k+1,c,i,h0,hi=>by
   obtain ⟨t,ht,hm,hd⟩:=iZ o.ak h0 (by omega)
   unfold dp
   rw [iter_eq,dW,hv.Ng,if_pos (by simp;omega),hd,List.any_cons,List.any_cons]
   dsimp only
   rw [ht]
   simp only [Option.bind_some]
   rw [zm hv (by omega)]
   simp only [Option.bind_some]
   obtain ⟨r,hr⟩:=yw (T:=o.ak) ⟨t,hm,rfl⟩
   have hw:=xk o t.Key
   have we:1≤(wk o t.Key).length:=by unfold wk;rw [jJ hr];simp
   have SO:((wk o t.Key).drop (1:Int).toNat).take (((wk o t.Key).length:Int).toNat - (1:Int).toNat)=(wk o t.Key).tail:=by
    rw [List.take_of_length_le (by simp)];simp
   rw [vM (by omega) (by omega) (by omega),SO]
   simp only [Option.bind_some]
   rw [rz _ t.Key (by simp;omega)]
   simp only [Option.bind_some]
   by_cases cc:t.Key∈(wk o t.Key).tail
   ·rw [if_pos (by simpa using cc),cH]
    have:A0 o t=true:=by unfold A0;exact decide_eq_true cc
    rw [this];rfl
   ·rw [if_neg (by simpa using cc)]
    unfold ia
    simp only [Option.bind_some,dh]
    rw [bh (by omega) (by omega)]
    have:=I9 h hv k (c||decide ((11:Int) < ((wk o t.Key).length:Int))) (i+1) (by omega) (by omega)
    unfold dp at this
    rw [this]
    have e1:A0 o t=false:=by unfold A0;exact decide_eq_false cc
    have e2:EA o t=decide ((11:Int) < ((wk o t.Key).length:Int)):=by unfold EA;rw [decide_eq_decide];omega
    rw [e1,e2,Bool.false_or,Bool.or_assoc]
theorem Xn (h:xi o.ak) (hn:∀ q,(wk o q).Nodup):mC o 0=some (if o.ak.any (EA o)=true then 2 else 0):=by
 unfold mC
 rw [ru o.ak (fun x:Int=>gx o x) (fun t=>if EA o t=true then some 2 else none) 0 (by omega),yx]
 ·intro i t h0 h1 ht
  unfold gx
  rw [if_pos h1,ht]
  simp only [Option.bind_some]
  rw [(tj h (by omega) (k:=t.Key) (.inr (yw ⟨t,ik ht,rfl⟩))).2,if_pos (hn _)]
  simp only [Option.bind_some]
  unfold EA
  by_cases c:11 < (wk o t.Key).length
  ·rw [if_pos (by omega),decide_eq_true c];rfl
  ·rw [if_neg (by omega),decide_eq_false c,bh (by omega) (by omega)];rfl
 ·unfold gx
  rw [if_neg (by omega)];rfl
theorem Ko (h:xi o.ak) (hv:oU v o):dp v false 0=iA o 0∧Ok (dp v false 0) (fun r=>r=0→∀ q,(wk o q).Nodup):=by
 rw [I9 hl h hv o.ak.length false 0 (by omega) (by omega)]
 simp only [Int.toNat_zero,List.drop_zero,Bool.false_or]
 have hpo:∀ t∈o.ak,nM o t.Key=some (if (wk o t.Key).Nodup then some (wk o t.Key) else none):=fun t ht=>(tj h (by omega) (.inr (yw ⟨t,ht,rfl⟩))).1
 have hq3:∀ e,mC o 0=some e→iA o 0=some (if o.ak.any (fun t=>decide (¬ (wk o t.Key).Nodup))=true then 14 else e):=by
  intro e he
  unfold iA
  rw [ru o.ak (fun x:Int=>ef o x) (fun t=>if decide (¬ (wk o t.Key).Nodup)=true then some 14 else none) e (by omega),yx]
  ·intro i t h0 h1 ht
   unfold ef
   rw [if_pos h1,ht]
   simp only [Option.bind_some]
   rw [hpo t (ik ht)]
   simp only [Option.bind_some]
   by_cases c:(wk o t.Key).Nodup
   ·rw [if_pos c,if_neg (by simpa using c)]
    show ((Ca (wk o t.Key)).bind fun v22=>(some (Sum.inl (cr (i+(1:Int)))):Option (Int⊕Int)))=_
    obtain ⟨r,hr⟩:=yw (T:=o.ak) ⟨t,ik ht,rfl⟩
    have sw:wk o t.Key≠[]:=by unfold wk;rw [jJ hr];simp
    rw [CR sw,bh (by omega) (by omega)]
    rfl
   ·rw [if_neg c,if_pos (by simpa using c)];rfl
  ·unfold ef
   rw [if_neg (by omega),he];rfl
 by_cases hb:o.ak.any (A0 o)=true
 ·rw [if_pos hb]
  refine ⟨?_,14,rfl,fun k=>by omega⟩
  obtain ⟨t,ht,pB⟩:=List.any_eq_true.1 hb
  have sw:o.ak.any (fun t=>decide (¬ (wk o t.Key).Nodup))=true:=List.any_eq_true.2 ⟨t,ht,by
   simpa using Kn (by simpa [A0] using pB)⟩
  have:iA o 0=some 14:=by
   unfold iA
   rw [Ib o.ak (fun x:Int=>ef o x) (fun t=>decide (¬ (wk o t.Key).Nodup)) 14 (by omega) ?_ sw]
   intro i t h0 h1 ht
   unfold ef
   rw [if_pos h1,ht]
   simp only [Option.bind_some]
   rw [hpo t (ik ht)]
   simp only [Option.bind_some]
   by_cases c:(wk o t.Key).Nodup
   ·rw [if_pos c,if_neg (by simpa using c)]
    show ((Ca (wk o t.Key)).bind fun v22=>(some (Sum.inl (cr (i+(1:Int)))):Option (Int⊕Int)))=_
    obtain ⟨r,hr⟩:=yw (T:=o.ak) ⟨t,ik ht,rfl⟩
    have sw:wk o t.Key≠[]:=by unfold wk;rw [jJ hr];simp
    rw [CR sw,bh (by omega) (by omega)]
    rfl
   ·rw [if_neg c,if_pos (by simpa using c)];rfl
  rw [this]
 ·rw [if_neg hb]
  have hn:∀ q,(wk o q).Nodup:=fun q=>by
   apply Classical.byContradiction
   intro k
   obtain ⟨t,ht,h2⟩:=Ex _ q k
   exact hb (List.any_eq_true.2 ⟨t,ht,by unfold A0;exact decide_eq_true h2⟩)
  have Dc:o.ak.any (fun t=>decide (¬ (wk o t.Key).Nodup))=false:=by simp [hn]
  rw [hq3 _ (Xn hl h hn),Dc]
  exact ⟨rfl,_,rfl,fun _=>hn⟩
end
theorem xl {α:Type} (xs:List α):xs.take ((xs.length:Int)).toNat=xs:=by simp
theorem oV {α:Type} {xs:List α} {i:Int} {x y:α} (h0:0≤i) (h:idx xs i=some x) (hy:y∈xs.take (i+1).toNat):y∈xs.take i.toNat∨y=x:=by
 rw [take_succ h0 h] at hy
 rcases List.mem_append.1 hy with k | k
 ·exact .inl k
 ·exact .inr (List.mem_singleton.1 k)
theorem Ja (o:bu) (k:al):decide (eE (fun t:an=>decide (t.Key=k)) o.ak 0 < 0)=!(up o.ak k).isSome:=by
 cases e:up o.ak k with
 | none=>rw [decide_eq_true ((ja _ _).2 e)];rfl
 | some r=>rw [decide_eq_false (fun k2=>by rw [(ja _ _).1 k2] at e;cases e)];rfl
section
variable {v:aC} {o:bu} (hl:o.ak.length≤100000)
include hl
theorem OH (hk:∀ t∈o.ak,t.Key≠[]) (hn:o.ak.Pairwise (fun a b=>a.Key≠b.Key)) (hv:oU v o):
 ib v 0=qd o 0∧Ok (ib v 0) (fun r=>r=0→xi o.ak∧∀ q,(wk o q).Nodup):=by
 unfold ib qd
 refine xH o.ak.length (fun i=>∀ t∈o.ak.take i.toNat,t.eB≠[]→∃ r,up o.ak t.eB=some r) _ (fun t ht=>by simp at ht) (fun i h0 h1 hI=>?_)
 unfold fG jS
 rw [hv.Ng]
 by_cases hi:i < (o.ak.length:Int)
 ·rw [if_pos hi,if_pos hi]
  obtain ⟨t,ht,_,_⟩:=iZ o.ak h0 hi
  rw [ht]
  simp only [Option.bind_some]
  have w1:cr (i+1)=i+1:=bh (by omega) (by omega)
  have j2:∀ c,fE i c=gw i c:=fun c=>rfl
  by_cases hp:t.eB=[]
  ·rw [if_neg (by simpa using hp),if_neg (by simpa using hp),j2]
   refine ⟨rfl,.inl (i+1),by unfold gw;rw [if_neg (by simp),w1],rfl,hi,fun y hy hyp=>?_⟩
   rcases oV h0 ht hy with k | rfl
   ·exact hI y k hyp
   ·exact absurd hp hyp
  ·rw [if_pos hp,if_pos hp,xj hv,jf o _ (by omega)]
   simp only [Option.bind_some]
   rw [j2,Ja o]
   refine ⟨rfl,?_⟩
   unfold gw
   cases e:up o.ak t.eB with
   | none=>exact ⟨.inr 8,rfl,fun k=>by omega⟩
   | some r=>
     refine ⟨.inl (i+1),by rw [w1];rfl,rfl,hi,fun y hy hyp=>?_⟩
     rcases oV h0 ht hy with k | rfl
     ·exact hI y k hyp
     ·exact ⟨r,e⟩
 ·have Q5:i=o.ak.length:=by omega
  subst Q5
  rw [if_neg hi,if_neg hi]
  have hT:xi o.ak:=⟨hk,hn,fun t ht hp=>by
   obtain ⟨r,hr⟩:=hI t (by rw [xl];exact ht) hp
   obtain ⟨u,h2,h3,_⟩:=zk hr
   exact ⟨u,h2,h3⟩⟩
  obtain ⟨e1,r,e2,e3⟩:=Ko hl hT hv
  rw [e1]
  rw [e1] at e2
  exact ⟨rfl,.inr r,by rw [e2];rfl,fun k=>⟨hT,e3 k⟩⟩
theorem OI (ho:v.bu=o) (hv:o.ak.Pairwise (fun a b=>a.Key≠b.Key)→oU v o):
 fA v=nh o∧Ok (fA v) (fun r=>r=0→o.ak.length≤200∧xi o.ak∧∀ q,(wk o q).Nodup):=by
 unfold fA nh
 rw [ho]
 by_cases h2:(200:Int) < (o.ak.length:Int)
 ·rw [if_pos h2,if_pos h2];exact ⟨rfl,2,rfl,fun k=>by omega⟩
 rw [if_neg h2,if_neg h2]
 unfold oJ uu
 refine xH o.ak.length (fun i=>(o.ak.take i.toNat).Pairwise (fun a b=>Lib.compareBytes a.Key b.Key < 0)∧∀ t∈o.ak.take i.toNat,nH t.Key=true) _ ⟨by simp,fun t ht=>by simp at ht⟩ (fun i h0 h1 hI=>?_)
 unfold fH jT
 rw [ho]
 by_cases hi:i < (o.ak.length:Int)
 ·rw [if_pos hi,if_pos hi]
  obtain ⟨t,ht,_,_⟩:=iZ o.ak h0 hi
  rw [ht]
  simp only [Option.bind_some]
  rw [vO,nI]
  simp only [Option.bind_some]
  have w1:cr (i+1)=i+1:=bh (by omega) (by omega)
  have j1:∀ c,fD i c=gu i c:=fun c=>rfl
  cases hk:nH t.Key with
  | false=>exact ⟨rfl,.inr 5,rfl,fun k=>by omega⟩
  | true=>
    rw [if_neg (by simp:¬ ((!true)=true)),if_neg (by simp:¬ ((!true)=true))]
    have PB:∀ y∈o.ak.take (i+1).toNat,nH y.Key=true:=fun y hy=>by
     rcases oV h0 ht hy with k | rfl
     ·exact hI.2 y k
     ·exact hk
    by_cases hp:0 < i
    ·rw [if_pos hp,if_pos hp,bh (by omega) (by omega)]
     obtain ⟨u,hu,_,_⟩:=iZ o.ak (i:=i - 1) (by omega) (by omega)
     rw [hu]
     simp only [Option.bind_some]
     rw [j1]
     refine ⟨rfl,?_⟩
     unfold gu
     cases hc:(Op.bytesLess t.Key u.Key||t.Key==u.Key) with
     | true=>exact ⟨.inr 7,rfl,fun k=>by omega⟩
     | false=>exact ⟨.inl (i+1),by rw [w1];rfl,rfl,hi,GX (·.Key) hp ht hu (GW hc) hI.1,PB⟩
    ·rw [if_neg hp,if_neg hp,j1]
     have Xo:i=0:=by omega
     subst Xo
     refine ⟨rfl,.inl (0+1),by unfold gu;rw [if_neg (by simp),w1],rfl,hi,asc_one (·.Key) ht,PB⟩
 ·have Q5:i=o.ak.length:=by omega
  subst Q5
  rw [if_neg hi,if_neg hi]
  rw [xl] at hI
  have xZ:o.ak.Pairwise (fun a b=>a.Key≠b.Key):=hI.1.imp (fun h=>MJ h)
  obtain ⟨e1,r,e2,e3⟩:=OH hl (fun t ht=>OG (hI.2 t ht)) xZ (hv xZ)
  rw [e1]
  rw [e1] at e2
  exact ⟨rfl,.inr r,by rw [e2];rfl,fun k=>⟨by omega,e3 k⟩⟩
end
theorem Kp (n:Nat) (q:Query) (hq:QB q):di (n+1) q=if fF q≠0 then some (fF q) else if jD q=true then some (lF q) else mK (di n) q 0:=by
 show jZ (di n) q=_
 unfold jZ mL
 rw [Fq q hq,Fs q hq.s]
 rfl
theorem MK (n:Nat) (q:Query) (hq:QB q):iW (n+1) q=if fF q≠0 then some (fF q) else if jD q=true then some (lF q) else jc (iW n) q 0:=by
 show mn (iW n) q=_
 rw [H6 _ q hq,H5 q hq.s]
 unfold fF
 cases ho:DJ q with
 | true=>rfl
 | false=>
   simp only [Bool.false_eq_true,if_false]
   cases hb:xF q with
   | true=>rfl
   | false=>
     simp only [Bool.false_eq_true,if_false]
     have hr:1≤q.Kind∧q.Kind≤5:=by unfold DJ at ho;simp at ho;omega
     have e:(q.Kind≤2)↔jD q=true:=by unfold jD;simp;omega
     by_cases c:q.Kind≤2
     ·rw [if_pos c,if_neg (fun h=>h rfl),if_pos (e.1 c)]
     ·rw [if_neg c,if_neg (fun h=>h rfl),if_neg (fun h=>c (e.2 h))]
theorem Jb (self:Query→Option Int) (r:Query→Int) (q:Query) (hq:QB q) (h:∀ c∈q.Kids,self c=some (r c)):mK self q 0=some (xd (fun c=>if r c≠0 then some (r c) else none) 0 q.Kids)∧jc self q 0=some (xd (fun c=>if r c≠0 then some (r c) else none) 0 q.Kids):=by
 have hk:=hq.kids
 constructor
 ·unfold mK
  refine ru q.Kids (fun x:Int=>eo self q x) (fun c=>if r c≠0 then some (r c) else none) 0 (by omega) (fun i c h0 h1 h2=>?_) ?_
  ·show eo self q i=_
   unfold eo
   rw [if_pos h1,h2]
   simp only [Option.bind_some]
   rw [h c (ik h2)]
   simp only [Option.bind_some]
   rw [bh (by omega) (by omega)]
   by_cases e:r c=0
   ·rw [if_neg (fun k=>k e),if_neg (fun k=>k e)]
   ·rw [if_pos e,if_pos e];rfl
  ·show eo self q q.Kids.length=_
   unfold eo
   rw [if_neg (by omega)];rfl
 ·unfold jc
  refine ru q.Kids (fun x:Int=>hZ self q x) (fun c=>if r c≠0 then some (r c) else none) 0 (by omega) (fun i c h0 h1 h2=>?_) ?_
  ·show hZ self q i=_
   unfold hZ
   rw [if_pos h1,h2]
   simp only [Option.bind_some]
   rw [h c (ik h2)]
   simp only [Option.bind_some]
   rw [bh (by omega) (by omega)]
   by_cases e:r c=0
   ·rw [if_neg (fun k=>k e),if_neg (fun k=>k e)]
   ·rw [if_pos e,if_pos e];rfl
  ·show hZ self q q.Kids.length=_
   unfold hZ
   rw [if_neg (by omega)];rfl
theorem parts_eq (n:Nat) (q:Query) (hq:QB q) (hn:q.kA.length≤n):∃ r,di n q=some r∧iW n q=some r:=by
 refine CI (C:=fun n q=>∃ r,di n q=some r∧iW n q=some r) (fun n q hq ih=>?_) n q hq hn
 rw [Kp n q hq,MK n q hq]
 by_cases c:fF q=0
 ·have c':¬ (fF q≠0):=fun k=>k c
  rw [if_neg c',if_neg c']
  by_cases d:jD q=true
  ·rw [if_pos d,if_pos d];exact ⟨_,rfl,rfl⟩
  ·rw [if_neg d,if_neg d]
   have h1:∀ c∈q.Kids,di n c=some ((di n c).getD 0):=fun c hc=>by obtain ⟨r,e,_⟩:=ih c hc;rw [e];rfl
   have h2:∀ c∈q.Kids,iW n c=some ((di n c).getD 0):=fun c hc=>by obtain ⟨r,e,e'⟩:=ih c hc;rw [e,e'];rfl
   exact ⟨_,(Jb _ _ q hq h1).1,(Jb _ _ q hq h2).2⟩
 ·rw [if_pos c,if_pos c];exact ⟨_,rfl,rfl⟩
theorem DM (q:Query) (hq:QB q):∃ r,dC q=some r∧qn q=some r∧(r=0→di depth q=some 0):=by
 have hl:=hq.len
 have hd:q.kA.length≤depth:=by unfold depth;omega
 obtain ⟨r,h1,h2⟩:=parts_eq depth q hq hd
 have hc:(q.kA.filter jD).length=q.kA.countP jD:=by rw [List.countP_eq_length_filter]
 unfold dC qn vG Cg HP lC lU tM yk
 rw [H3 depth q hq hd,Kj depth q hq hd,OB depth q hq hd,h1,h2]
 simp only [Option.bind_some]
 rw [hc]
 by_cases c1:(40:Int) < (q.kA.countP jD:Nat)
 ·rw [if_pos (by simp [c1]),if_pos c1]
  exact ⟨2,rfl,rfl,fun h=>by cases h⟩
 ·rw [if_neg c1]
  by_cases c2:(20:Int) < (q.dep:Nat)
  ·rw [if_pos (by simp [c2]),if_pos (decide_eq_true c2)]
   exact ⟨2,rfl,rfl,fun h=>by cases h⟩
  ·rw [if_neg (by simp [c1,c2]),if_neg (by simp [c2])]
   exact ⟨r,rfl,rfl,fun h=>by rw [h]⟩
structure pq (o:bu):Prop where
 Hf:o.ak.length≤1000
 Sj:o.ba.length≤1000
 mem:o.aL.length≤200
 Vv:o.aR.length≤10
 act:∀ r∈o.ba,C5 r.mR
 shr:∀ s∈o.aR,C5 s.mR∧QB s.Query
theorem Kq {f g:Int→Option (Int⊕Int)} (N:Nat) (K:Option Int) (Inv:Int→Prop) (h0:Inv 0)
 (h:∀ i:Int,0≤i→i < N→Inv i→f i=g i∧∃ r,f i=some r∧((∃ j,r=.inl j∧j=i+1∧Inv (i+1))∨∃ a,r=.inr a∧a≠0))
 (hf:f N=some (.inr 0)) (hg:g N=Option.map .inr K):∃ r,iter f 0=some r∧iter g 0=(if r≠0 then some r else K)∧(r=0→Inv N):=by
 have key:∀ (k:Nat) (i:Int),0≤i→i+k=N→Inv i→∃ r,iter f i=some r∧iter g i=(if r≠0 then some r else K)∧(r=0→Inv N):=by
  intro k
  induction k with
  | zero=>
    intro i hi hk hv
    have:i=N:=by omega
    subst this
    rw [iter_eq (f:=f),iter_eq (f:=g),hf,hg,cH]
    exact ⟨0,rfl,by simp,fun _=>hv⟩
  | succ k ih=>
    intro i hi hk hv
    obtain ⟨e,r,hr,hh⟩:=h i hi (by omega) hv
    rw [iter_eq (f:=f),iter_eq (f:=g),← e,hr]
    rcases hh with ⟨j,rfl,rfl,h2⟩ | ⟨a,rfl,h2⟩
    ·simp only [Option.bind_some,dh]
     exact ih (i+1) (by omega) (by omega) h2
    ·exact ⟨a,rfl,by rw [if_pos h2];rfl,fun k=>absurd k h2⟩
 exact key N 0 (by omega) (by omega) h0
def yz (o:bu) (k:al):Bool:=o.ba.any (fun r=>decide (r.Key=k))
theorem Kr (o:bu) (k:al) (hl:o.ba.length≤1000000):wQ o k=some (eE (fun r=>decide (r.Key=k)) o.ba 0):=by
 unfold wQ
 rw [show gy o.ba (fun y0=>some (uw y0 k))=some (eE (fun r=>decide (r.Key=k)) o.ba 0) from oT o.ba _ _ (fun x _=>rfl) (by omega)]
 rfl
theorem OJ (o:bu) (k:al):decide (eE (fun r:bF=>decide (r.Key=k)) o.ba 0 < 0)=!yz o k:=by
 have h:=xB (fun r:bF=>decide (r.Key=k)) o.ba 0 (by omega)
 unfold yz
 cases e:o.ba.any (fun r=>decide (r.Key=k)) with
 | true=>rw [decide_eq_false (by have:=h.2 e;omega)];rfl
 | false=>rw [decide_eq_true (by
  apply Classical.byContradiction
  intro k2
  have:=h.1 (by omega)
  rw [e] at this;cases this)];rfl
def Fv (o:bu):Prop:=o.ba.Pairwise (fun a b=>Lib.compareBytes a.Key b.Key < 0)
theorem ML {v:aC} {o:bu} (ho:v.bu=o) (hb:pq o):∃ r,gA v=some r∧qg o=(if r≠0 then some r else jE o)∧(r=0→Fv o):=by
 unfold gA qg
 rw [ho]
 by_cases h2:(50:Int) < (o.ba.length:Int)
 ·rw [if_pos h2,if_pos h2];exact ⟨2,rfl,by simp,fun k=>by omega⟩
 rw [if_neg h2,if_neg h2]
 unfold nX vY
 have hl:=hb.Sj
 have hh:=Kq (f:=fun x:Int=>cy v x) (g:=fun x:Int=>gP o x) o.ba.length (jE o) (fun i=>(o.ba.take i.toNat).Pairwise (fun a b=>Lib.compareBytes a.Key b.Key < 0)) (by simp) (fun i h0 hi hI=>?_) ?_ ?_
 ·obtain ⟨r,e1,e2,e3⟩:=hh
  exact ⟨r,e1,e2,fun k=>by have:=e3 k;rw [xl] at this;exact this⟩
 ·unfold cy gP
  rw [ho,if_pos hi,if_pos hi]
  obtain ⟨t,ht,PX,_⟩:=iZ o.ba h0 hi
  rw [ht]
  simp only [Option.bind_some]
  rw [vO,nI]
  simp only [Option.bind_some]
  have w1:cr (i+1)=i+1:=bh (by omega) (by omega)
  obtain ⟨f1,ra,f2⟩:=xh t.mR (hb.act t PX)
  have j1:∀ c,dM i t c=gO i t c:=fun c=>by
   unfold dM gO
   rw [f1]
  have j1v:∀ c,(c=false→(o.ba.take (i+1).toNat).Pairwise (fun a b=>Lib.compareBytes a.Key b.Key < 0))→∃ r,gO i t c=some r∧((∃ j,r=.inl j∧j=i+1∧(o.ba.take (i+1).toNat).Pairwise (fun a b=>Lib.compareBytes a.Key b.Key < 0))∨∃ a,r=.inr a∧a≠0):=by
   intro c hc
   unfold gO
   cases c with
   | true=>exact ⟨.inr 7,rfl,.inr ⟨7,rfl,by omega⟩⟩
   | false=>
     rw [if_neg (by simp),f2]
     simp only [Option.bind_some]
     by_cases z:ra=0
     ·rw [if_neg (fun k=>k z),w1];exact ⟨_,rfl,.inl ⟨_,rfl,rfl,hc rfl⟩⟩
     ·rw [if_pos z];exact ⟨_,rfl,.inr ⟨_,rfl,z⟩⟩
  cases hk:nH t.Key with
  | false=>exact ⟨rfl,.inr 5,rfl,.inr ⟨5,rfl,by omega⟩⟩
  | true=>
    rw [if_neg (by simp:¬ ((!true)=true)),if_neg (by simp:¬ ((!true)=true))]
    by_cases hp:0 < i
    ·rw [if_pos hp,if_pos hp,bh (by omega) (by omega)]
     obtain ⟨u,hu,_,_⟩:=iZ o.ba (i:=i - 1) (by omega) (by omega)
     rw [hu]
     simp only [Option.bind_some]
     rw [j1]
     exact ⟨rfl,j1v _ (fun hc=>GX (·.Key) hp ht hu (GW hc) hI)⟩
    ·rw [if_neg hp,if_neg hp,j1]
     have Xo:i=0:=by omega
     subst Xo
     exact ⟨rfl,j1v _ (fun _=>asc_one (·.Key) ht)⟩
 ·show cy v o.ba.length=_
  unfold cy
  rw [ho,if_neg (by omega)];rfl
 ·show gP o o.ba.length=_
  unfold gP
  rw [if_neg (by omega)]
theorem Q6 (a b c:Int):iI [a,b,c]=some (AS [a,b,c]):=CD _ (by simp)
theorem OK (a b c:Int):AS [-a,-b,-c]=- AS [a,b,c]:=by
 simp only [AS]
 by_cases h1:a=0
 ·by_cases h2:b=0
  ·by_cases h3:c=0
   ·simp [h1,h2,h3]
   ·rw [if_neg (by omega),if_neg (by omega),if_pos (by omega),if_neg (by omega),if_neg (by omega),if_pos h3]
  ·rw [if_neg (by omega),if_pos (by omega),if_neg (by omega),if_pos h2]
 ·rw [if_pos (by omega),if_pos h1]
theorem Ie {v:aC} {o:bu} (hv:oU v o) (ha:∀ k,(bM v.qU k).isSome=yz o k) (hb:pq o):dX v=jE o∧Ok (dX v) (fun r=>r=0→∀ m∈o.aL,(∃ p,up o.ak m.an=some p)∧yz o m.bF=true):=by
 unfold dX jE
 rw [hv.Ng]
 by_cases h2:(500:Int) < (o.aL.length:Int)
 ·rw [if_pos h2,if_pos h2];exact ⟨rfl,2,rfl,fun k=>by omega⟩
 rw [if_neg h2,if_neg h2]
 unfold mE vX
 have hl:=hb.mem
 refine xH o.aL.length (fun i=>∀ m∈o.aL.take i.toNat,(∃ p,up o.ak m.an=some p)∧yz o m.bF=true) _ (fun t ht=>by simp at ht) (fun i h0 h1 hI=>?_)
 unfold ej lS
 rw [hv.Ng]
 by_cases hi:i < (o.aL.length:Int)
 ·rw [if_pos hi,if_pos hi]
  obtain ⟨t,ht,PX,_⟩:=iZ o.aL h0 hi
  rw [ht]
  simp only [Option.bind_some]
  unfold AE
  rw [ha,vO,nI]
  simp only [Option.bind_some]
  have w1:cr (i+1)=i+1:=bh (by omega) (by omega)
  cases hk:nH t.vE with
  | false=>exact ⟨rfl,.inr 5,rfl,fun k=>by omega⟩
  | true=>
    rw [if_neg (by simp:¬ ((!true)=true)),if_neg (by simp:¬ ((!true)=true)),xj hv,jf o _ (by have:=hb.Hf;omega)]
    simp only [Option.bind_some]
    have uW:=Ja o t.an
    rw [Kr o _ (by have:=hb.Sj;omega)]
    simp only [Option.bind_some]
    rw [OJ]
    have j12:∀ c,cj v i t c=iJ o i t c∧(c=false→(∃ p,up o.ak t.an=some p)∧yz o t.bF=true)→Ok (cj v i t c) (HY o.aL.length (fun i=>∀ m∈o.aL.take i.toNat,(∃ p,up o.ak m.an=some p)∧yz o m.bF=true) (fun r=>r=0→∀ m∈o.aL,(∃ p,up o.ak m.an=some p)∧yz o m.bF=true) i):=by
     rintro c ⟨_,hc⟩
     have Jc:c=false→∀ m∈o.aL.take (i+1).toNat,(∃ p,up o.ak m.an=some p)∧yz o m.bF=true:=fun k m hm=>by
      rcases oV h0 ht hm with k2 | rfl
      ·exact hI m k2
      ·exact hc k
     have j2v:∀ d,c=false→Ok (ch i d) (HY o.aL.length (fun i=>∀ m∈o.aL.take i.toNat,(∃ p,up o.ak m.an=some p)∧yz o m.bF=true) (fun r=>r=0→∀ m∈o.aL,(∃ p,up o.ak m.an=some p)∧yz o m.bF=true) i):=by
      intro d Vw
      unfold ch
      cases d with
      | true=>exact ⟨.inr 7,rfl,fun k=>by omega⟩
      | false=>rw [if_neg (by simp),w1];exact ⟨.inl (i+1),rfl,rfl,hi,Jc Vw⟩
     unfold cj
     cases c with
     | true=>exact ⟨.inr 8,rfl,fun k=>by omega⟩
     | false=>
       rw [if_neg (by simp),hv.Ng]
       by_cases hp:0 < i
       ·rw [if_pos hp,bh (by omega) (by omega)]
        obtain ⟨u,hu,_,_⟩:=iZ o.aL (i:=i - 1) (by omega) (by omega)
        rw [hu]
        simp only [Option.bind_some]
        unfold lW
        rw [Q6]
        exact j2v _ rfl
       ·rw [if_neg hp];exact j2v _ rfl
    have hj:∀ c,cj v i t c=iJ o i t c:=by
     intro c
     unfold cj iJ
     cases c with
     | true=>rfl
     | false=>
       rw [if_neg (by simp:¬ (false=true)),if_neg (by simp:¬ (false=true)),hv.Ng]
       by_cases hp:0 < i
       ·rw [if_pos hp,if_pos hp,bh (by omega) (by omega)]
        obtain ⟨u,hu,_,_⟩:=iZ o.aL (i:=i - 1) (by omega) (by omega)
        rw [hu]
        simp only [Option.bind_some]
        unfold lW
        rw [Q6,Q6]
        simp only [Option.bind_some]
        have e:=OK (Lib.compareBytes t.vE u.vE) (Lib.compareBytes t.an u.an) (Lib.compareBytes t.bF u.bF)
        rw [← vn,← vn,← vn] at e
        rw [e]
        show ch i _=ch i _
        congr 1
        rw [decide_eq_decide];omega
       ·rw [if_neg hp,if_neg hp];rfl
    cases eu:up o.ak t.an with
    | none=>
      rw [eu] at uW
      have Ks:eE (fun t':an=>decide (t'.Key=t.an)) o.ak 0 < 0:=by simpa using uW
      rw [if_pos Ks]
      simp only [Option.isSome_none,Bool.not_false,Bool.true_or]
      exact ⟨hj true,j12 true ⟨hj true,fun k=>by cases k⟩⟩
    | some p=>
      rw [eu] at uW
      have Ks:¬ eE (fun t':an=>decide (t'.Key=t.an)) o.ak 0 < 0:=by simpa using uW
      rw [if_neg Ks]
      simp only [Option.isSome_some,Bool.not_true,Bool.false_or]
      exact ⟨hj _,j12 _ ⟨hj _,fun k=>⟨⟨p,eu⟩,by simpa using k⟩⟩⟩
 ·have Q5:i=o.aL.length:=by omega
  subst Q5
  rw [if_neg hi,if_neg hi]
  rw [xl] at hI
  exact ⟨rfl,.inr 0,rfl,fun _=>hI⟩
def QS (m:Nat) (q:Query):Prop:=q.kA.length≤m∧∀ x∈q.kA,GR x
theorem QS.mono {m k:Nat} {q:Query} (h:QS m q) (hk:m≤k):QS k q:=⟨Nat.le_trans h.1 hk,h.2⟩
theorem QS.b {m:Nat} {q:Query} (h:QS m q) (hm:m≤5000):QB q:=⟨Nat.le_trans h.1 hm,h.2⟩
def A1 (m:Nat) (l:List Query):Prop:=(Query.kL l).length≤m∧∀ x∈Query.kL l,GR x
theorem EB:∀ a b:List Query,Query.kL (a++b)=Query.kL a++Query.kL b
 | [],b=>by simp [Query.kL]
 | x :: a,b=>by rw [List.cons_append,Query.kL,EB a b,Query.kL,List.append_assoc]
theorem A1.nil:A1 0 []:=⟨by simp [Query.kL],fun x h=>by simp [Query.kL] at h⟩
theorem A1.app {m k:Nat} {a b:List Query} (h:A1 m a) (h':A1 k b):A1 (m+k) (a++b):=by
 unfold A1
 rw [EB]
 refine ⟨by rw [List.length_append];have:=h.1;have:=h'.1;omega,fun x hx=>?_⟩
 rcases List.mem_append.1 hx with k | k
 ·exact h.2 x k
 ·exact h'.2 x k
theorem A1.one {m:Nat} {q:Query} (h:QS m q):A1 m [q]:=by
 unfold A1
 simp only [Query.kL,List.append_nil];exact h
theorem QS.kids {m:Nat} {q:Query} (h:QS m q):A1 (m - 1) q.Kids:=by
 obtain ⟨h1,h2⟩:=h
 rw [q.r6] at h1 h2
 rw [List.length_cons] at h1
 exact ⟨by omega,fun x hx=>h2 x (List.mem_cons_of_mem _ hx)⟩
theorem QS.mk {m:Nat} {k:Int} {f o:al} {v:bL} {w:Version} {l:List Query} (hf:f.length≤100000) (ho:o.length≤100000) (hv:v.Words.length≤100000) (h:A1 m l):QS (m+1) ⟨k,f,o,v,w,l⟩:=by
 unfold QS
 rw [Query.r6]
 refine ⟨by rw [List.length_cons];exact Nat.succ_le_succ h.1,fun x hx=>?_⟩
 rcases List.mem_cons.1 hx with rfl | hx
 ·exact ⟨hf,ho,hv⟩
 ·exact h.2 x hx
theorem QS.s {m:Nat} {q:Query} (h:QS m q):GR q:=h.2 q q.GQ
theorem xm {s:al} {L:List al} (h:s∈L) (hl:L.all (fun x=>decide (x.length≤100))=true):s.length≤100000:=by
 have:=List.all_eq_true.1 hl s h
 simp at this;omega
theorem zn {s:vN} {K:Int} (hs:pa s K) (hK:1≤K):qL (gq s) (K - 1) (fun t=>t.length≤100000):=by
 refine qL.of ?_
 unfold gq
 refine Ok.gen (hJ hs hK (by simp) (by simp)) (fun t s1 h q=>Ok.ret ⟨xm h (by decide),q⟩)
theorem BI {s:vN} {K:Int} {L:List al} (hL:L≠[]∧L.length≤100∧L.all (fun x=>decide (x.length≤100))=true) (hs:pa s K) (hK:1≤K):qL (iq L s) (K - 1) (fun v=>v.Words.length≤100000):=by
 refine qL.of ?_
 unfold iq
 refine Ok.gen (hJ hs hK hL.1 (by omega)) (fun t s1 h q=>Ok.ret ⟨xm h hL.2.2,q⟩)
theorem Ig {s:vN} {K:Int} (hs:pa s K) (hK:6≤K):qL (pw s) (K - 6) (QS 1):=by
 refine qL.of ?_
 unfold pw
 have done:∀ {k:Int} {f o:al} {v:bL} {w:Version} {s':vN} {K':Int},f.length≤100000→o.length≤100000→v.Words.length≤100000→pa s' K'→K - 6≤K'→Ok (some ((⟨k,f,o,v,w,[]⟩:Query),s')) (fun r=>QS 1 r.1∧pa r.2 (K - 6)):=
  fun hf ho hv hq hk=>Ok.ret ⟨QS.mk hf ho hv A1.nil,hq.less hk⟩
 refine Ok.gen (vQ hs (by omega) (by omega) (by omega)) (fun n s1 _ q1=>?_)
 dsimp only
 split
 ·refine Ok.gen (hJ q1 (by omega) (by simp) (by simp)) (fun t s2 h q2=>?_)
  exact done (xm h (by decide)) (by simp) (by simp) q2 (by omega)
 split
 ·refine Ok.gen (zn q1 (by omega)) (fun t s2 h q2=>?_)
  refine Ok.gen (BI (by decide) q2 (by omega)) (fun v s3 hv q3=>?_)
  exact done (by simp) h hv q3 (by omega)
 split
 ·refine Ok.gen (hJ q1 (by omega) (by simp) (by simp)) (fun f s2 hf q2=>?_)
  refine Ok.gen (zn q2 (by omega)) (fun t s3 h q3=>?_)
  refine Ok.gen (BI (by decide) q3 (by omega)) (fun v s4 hv q4=>?_)
  exact done (xm hf (by decide)) h hv q4 (by omega)
 split
 ·refine Ok.gen (hJ q1 (by omega) (by simp [vc]) (by simp [vc])) (fun o s2 ho q2=>?_)
  refine Ok.gen (vQ q2 (by omega) (by omega) (by omega)) (fun a s3 _ q3=>?_)
  refine Ok.gen (og q3 (by omega) (by simp) (by simp)) (fun b s4 _ q4=>?_)
  refine Ok.gen (og q4 (by omega) (by simp) (by simp)) (fun c s5 _ q5=>?_)
  exact done (by simp) (xm ho (by unfold vc;decide)) (by simp) q5 (by omega)
 split
 ·refine Ok.gen (zn q1 (by omega)) (fun t s2 h q2=>?_)
  refine Ok.gen (BI (by decide) q2 (by omega)) (fun v s3 hv q3=>?_)
  exact done (by simp) h hv q3 (by omega)
 split
 ·refine Ok.gen (zn q1 (by omega)) (fun t s2 h q2=>?_)
  refine Ok.gen (sI q2 (by omega) (by omega) (by omega)) (fun b s3 _ q3=>?_)
  exact done (by simp) h (by simp) q3 (by omega)
 split
 ·refine Ok.gen (zn q1 (by omega)) (fun t s2 h q2=>?_)
  refine Ok.gen (BI (by decide) q2 (by omega)) (fun v s3 hv q3=>?_)
  exact done (by simp) h hv q3 (by omega)
 ·refine Ok.gen (hJ q1 (by omega) (by simp [vc]) (by simp [vc])) (fun o s2 ho q2=>?_)
  refine Ok.gen (og q2 (by omega) (by simp) (by simp)) (fun c s5 _ q5=>?_)
  exact done (by simp) (xm ho (by unfold vc;decide)) (by simp) q5 (by omega)
def A2:Nat→Int
 | 0=>10
 | d+1=>3+3 * A2 d
def A3:Nat→Nat
 | 0=>1
 | d+1=>1+3 * A3 d
theorem xI:∀ d,10≤A2 d
 | 0=>by simp [A2]
 | d+1=>by have:=xI d;simp only [A2];omega
theorem OL:∀ d,1≤A3 d
 | 0=>by simp [A3]
 | d+1=>by simp only [A3];omega
theorem Fw (self:vN→Int→Option (Query×vN)) (d:Nat) (hd:d≤1000) (MM:∀ (s:vN) (K:Int),pa s K→A2 d≤K→qL (self s d) (K - A2 d) (QS (A3 d))) (hz:A3 d≤1000) (v7:Int×vN) (m:Int) (hm:1≤m∧m≤3) (L:List Int) (n:Int) (K:Int) (hs:pa ⟨L,n⟩ K) (hK:3 * A2 d≤K):
 Ok (mZ self (d+1:Nat) v7 m L n [] 0) (fun r=>QS (1+3 * A3 d) r.1∧pa r.2 (K - 3 * A2 d)):=by
 have hp:=xI d
 unfold mZ
 refine Ok.iter (fun x:(List Int)×Int×(List Query)×Int=>(3 - x.2.2.2).toNat) (fun x=>(0≤x.2.2.2∧x.2.2.2≤m)∧pa ⟨x.1,x.2.1⟩ (K - A2 d * x.2.2.2)∧A1 (A3 d * x.2.2.2.toNat) x.2.2.1) ?_ _ ⟨⟨by simp,by simp;omega⟩,by simpa using hs,by simpa using A1.nil⟩
 rintro ⟨L,n,l,i⟩ ⟨h0,h1,h2⟩
 dsimp only at h0 h1 h2 ⊢
 have w1:cr (i+1)=i+1:=bh (by omega) (by omega)
 have w2:cr (((d+1:Nat):Int) - 1)=d:=by rw [show ((d+1:Nat):Int) - 1=d by omega];exact bh (by omega) (by omega)
 have hlen:l.length≤3000:=by
  have e1:=vr l
  have e2:=h2.1
  have:A3 d * i.toNat≤1000 * 3:=Nat.mul_le_mul hz (by omega)
  omega
 have hi3:i=0∨i=1∨i=2∨i=3:=by omega
 unfold ir
 split
 ·rename_i hi
  rw [w2]
  have hK':A2 d≤K - A2 d * i:=by rcases hi3 with rfl | rfl | rfl | rfl<;>omega
  refine Ok.gen (MM _ _ h1 hK') (fun q s' hq q'=>?_)
  have Jc:∀ l':List Query,A1 (A3 d * i.toNat+A3 d) l'→Ok (fT i (q,s') l') (TL (fun x:(List Int)×Int×(List Query)×Int=>(3 - x.2.2.2).toNat) (fun x=>(0≤x.2.2.2∧x.2.2.2≤m)∧pa ⟨x.1,x.2.1⟩ (K - A2 d * x.2.2.2)∧A1 (A3 d * x.2.2.2.toNat) x.2.2.1) (fun r=>QS (1+3 * A3 d) r.1∧pa r.2 (K - 3 * A2 d)) (L,n,l,i)):=by
   intro l' uZ
   unfold fT
   rw [w1]
   refine Ok.ret ⟨⟨⟨by dsimp only;omega,by dsimp only;omega⟩,?_,?_⟩,by dsimp only;omega⟩
   ·dsimp only
    have e:K - A2 d * (i+1)=K - A2 d * i - A2 d:=by rw [Int.mul_add];omega
    rw [e];exact q'
   ·dsimp only
    have e:A3 d * (i+1).toNat=A3 d * i.toNat+A3 d:=by rw [show (i+1).toNat=i.toNat+1 by omega,Nat.mul_succ]
    rw [e];exact uZ
  have Vx:=hq.kids
  have hk2:q.Kids.length≤1000:=by
   have e1:=vr q.Kids
   have e2:=Vx.1
   omega
  unfold jN
  split
  ·refine Ok.app (by dsimp only;omega) ?_
   exact Jc _ (A1.app h2 ⟨Nat.le_trans Vx.1 (by omega),Vx.2⟩)
  ·refine Ok.app (by simp;omega) ?_
   exact Jc _ (A1.app h2 (A1.one hq))
 ·refine Ok.inr (Ok.ret ⟨?_,?_⟩)
  ·have e:A3 d * i.toNat≤3 * A3 d:=by rw [Nat.mul_comm];exact Nat.mul_le_mul_right _ (by omega)
   have:=QS.mk (k:=v7.1) (f:=[]) (o:=[]) (v:=⟨0,false,0,[]⟩) (w:=⟨0,0,0⟩) (by simp) (by simp) (by simp) h2
   exact this.mono (by omega)
  ·have:A2 d * i≤3 * A2 d:=by rcases hi3 with rfl | rfl | rfl | rfl<;>omega
   exact h1.less (by omega)
theorem vR:∀ (d:Nat) (f:Nat),d < f→d≤3→∀ (s:vN) (K:Int),pa s K→A2 d≤K→qL (ed f s d) (K - A2 d) (QS (A3 d))
 | 0,f+1,_,_,s,K,hs,hK=>by
   have hp:=xI 0
   refine qL.of ?_
   show Ok (eM (ed f) s ((0:Nat):Int)) _
   unfold eM
   rw [if_pos (by simp)]
   unfold fV
   rw [if_pos rfl]
   refine Ok.gen (Ig (s:=⟨s.L,s.at_⟩) hs (by omega)) (fun q s1 hq q1=>Ok.ret ⟨hq,q1.less (by omega)⟩)
 | d+1,f+1,hf,hd,s,K,hs,hK=>by
   have hp:=xI d
   have hz:A3 d≤1000:=by
    have Bb:d=0∨d=1∨d=2:=by omega
    rcases Bb with rfl | rfl | rfl<;>decide
   have MM:=vR d f (by omega) (by omega)
   have hKd:3+3 * A2 d≤K:=hK
   refine qL.of ?_
   show Ok (eM (ed f) s ((d+1:Nat):Int)) (fun r=>QS (1+3 * A3 d) r.1∧pa r.2 (K - (3+3 * A2 d)))
   unfold eM
   rw [if_neg (by omega)]
   refine Ok.gen (sI hs (by omega) (by omega) (by omega)) (fun c s1 _ q1=>?_)
   dsimp only
   unfold fV
   split
   ·refine Ok.gen (Ig (s:=⟨s1.L,s1.at_⟩) q1 (by omega)) (fun q s2 hq q2=>Ok.ret ⟨hq.mono (by have:=OL d;omega),q2.less (by omega)⟩)
   ·refine Ok.gen (og (s:=⟨s1.L,s1.at_⟩) q1 (by omega) (by simp) (by simp)) (fun k s2 _ q2=>?_)
    dsimp only
    have fin:∀ (m:Int) (s3:vN) (K3:Int),1≤m∧m≤3→pa s3 K3→K - 3≤K3→Ok (fU (ed f) ((d+1:Nat):Int) (k,s2) s3.L s3.at_ m) (fun r=>QS (1+3 * A3 d) r.1∧pa r.2 (K - (3+3 * A2 d))):=by
     intro m s3 K3 hm h3 hk3
     unfold fU
     refine (Fw (ed f) d (by omega) MM hz (k,s2) m hm s3.L s3.at_ K3 h3 (by omega)).mono (fun r hr=>⟨hr.1,hr.2.less (by omega)⟩)
    split
    ·refine Ok.gen (og q2 (by omega) (by simp) (by simp)) (fun m s3 hm q3=>?_)
     dsimp only
     have:=BG (lo:=2) (hi:=3) hm (by decide)
     exact fin m s3 _ (by omega) q3 (by omega)
    ·exact fin 1 s2 _ (by omega) q2 (by omega)
theorem OM {s:vN} {K:Int} (hs:pa s K) (hK:150≤K):qL (pY s) (K - 150) QB:=by
 refine qL.of ?_
 unfold pY
 refine Ok.gen (og hs (by omega) (by simp) (by simp)) (fun d s1 hd q1=>?_)
 have Bb:=BG (lo:=0) (hi:=2) hd (by decide)
 obtain ⟨e,rfl⟩:∃ e:Nat,d=e:=⟨d.toNat,by omega⟩
 have he:e≤2:=by omega
 have Xf:A2 e≤129:=by
  have:e=0∨e=1∨e=2:=by omega
  rcases this with rfl | rfl | rfl<;>decide
 have kM:A3 e≤13:=by
  have:e=0∨e=1∨e=2:=by omega
  rcases this with rfl | rfl | rfl<;>decide
 have hp:=xI e
 have TR:=vR e depth (by unfold depth;omega) (by omega) s1 (K - 1) q1 (by omega)
 dsimp only
 refine Ok.gen (P:=QS (A3 e)) (k:=K - 1 - A2 e) TR (fun q s2 hq q2=>?_)
 have hq:=hq.mono kM
 have FG:=hq.s
 have Sk:=hq.kids
 dsimp only
 refine Ok.gen (sI q2 (by omega) (by omega) (by omega)) (fun c s3 _ q3=>?_)
 have j1:∀ {L:List Int} {n k:Int} {f o:al} {a:Int} {b:Bool} {c:Int} {w:al} {x y z:Int} {l:List Query} {K':Int},pa ⟨L,n⟩ K'→K - 150≤K'→f.length≤100000→o.length≤100000→w.length≤100000→A1 100 l→Ok (lP L n k f o a b c w x y z l) (fun r=>QB r.1∧pa r.2 (K - 150)):=by
  intro L n k f o a b c w x y z l K' h1 h2 h3 h4 h5 h6
  exact Ok.ret ⟨(QS.mk (v:=⟨a,b,c,w⟩) h3 h4 h5 h6).b (by omega),h1.less h2⟩
 have GY:A1 100 q.Kids:=⟨by have:=Sk.1;omega,Sk.2⟩
 dsimp only
 split
 ·refine Ok.gen (vQ q3 (by omega) (by omega) (by omega)) (fun t s4 _ q4=>?_)
  dsimp only
  split
  ·refine Ok.gen (MA q4 (by omega) (by omega) (by omega) (by omega)) (fun u s5 _ q5=>?_)
   exact j1 q5 (by omega) FG.field FG.op FG.words GY
  split
  ·refine Ok.gen (hJ q4 (by omega) (by simp) (by simp)) (fun u s5 hu q5=>?_)
   exact j1 q5 (by omega) (xm hu (by decide)) FG.op FG.words GY
  split
  ·refine Ok.gen (hJ q4 (by omega) (by simp) (by simp)) (fun u s5 hu q5=>?_)
   exact j1 q5 (by omega) FG.field (xm hu (by decide)) FG.words GY
  split
  ·refine Ok.gen (vQ q4 (by omega) (by omega) (by omega)) (fun u s5 hu q5=>?_)
   dsimp only
   refine Ok.idx hu.1 (by simpa using hu.2) (fun v _ hv=>?_)
   refine j1 q5 (by omega) FG.field FG.op ?_ GY
   simp only [List.mem_cons,List.not_mem_nil,or_false] at hv
   rcases hv with rfl | rfl | rfl | rfl | rfl<;>simp
  split
  ·unfold hY
   have SX:q.Kids.length≤100:=by
    have e1:=vr q.Kids
    have e2:=Sk.1
    omega
   refine Ok.app (by simp;omega) ?_
   refine Ok.gen (Ig q4 (by omega)) (fun u s5 hu q5=>?_)
   refine Ok.app (by simp;omega) ?_
   refine j1 q5 (by omega) FG.field FG.op FG.words ?_
   rw [List.nil_append]
   have:=A1.app Sk (A1.one hu)
   exact ⟨Nat.le_trans this.1 (by omega),this.2⟩
  ·refine Ok.gen (og q4 (by omega) (by simp) (by simp)) (fun m s5 hm q5=>?_)
   have VH:=BG (lo:=18) (hi:=20) hm (by decide)
   unfold vW
   refine Ok.iter (fun x:Int×al×al×Int×Bool×Int×al×Int×Int×Int×(List Query)×Int=>(20 - x.2.2.2.2.2.2.2.2.2.2.2).toNat)
    (fun x=>(0≤x.2.2.2.2.2.2.2.2.2.2.2∧x.2.2.2.2.2.2.2.2.2.2.2≤20)∧(x.2.1.length≤100000∧x.2.2.1.length≤100000∧x.2.2.2.2.2.2.1.length≤100000)∧A1 (12+x.2.2.2.2.2.2.2.2.2.2.2.toNat) x.2.2.2.2.2.2.2.2.2.2.1) ?_ _ ⟨by simp,⟨FG.field,FG.op,FG.words⟩,⟨by have:=Sk.1;simp;omega,Sk.2⟩⟩
   rintro ⟨k,f,o,a,b,c,w,x,y,z,l,i⟩ ⟨h0,h1,h2⟩
   dsimp only at h0 h1 h2 ⊢
   unfold lQ
   split
   ·rename_i hi
    dsimp only at hi
    rw [bh (by omega) (by omega)]
    refine Ok.ret ⟨⟨⟨by dsimp only;omega,by dsimp only;omega⟩,⟨by simp,by simp,by simp⟩,?_⟩,by dsimp only;omega⟩
    have:=A1.one (QS.mk (k:=k) (w:=⟨x,y,z⟩) (v:=⟨a,b,c,w⟩) h1.1 h1.2.1 h1.2.2 h2)
    dsimp only
    exact ⟨by have:=this.1;omega,this.2⟩
   ·refine Ok.inr ?_
    exact j1 q5 (by omega) h1.1 h1.2.1 h1.2.2 ⟨by have:=h2.1;omega,h2.2⟩
 ·exact j1 q3 (by omega) FG.field FG.op FG.words GY
theorem C5.of {l:List al} (h:l.length≤100) (h2:l.all (fun x=>decide (x.length≤100))=true):C5 l:=⟨by omega,fun x hx=>by
 have:=List.all_eq_true.1 h2 x hx
 simp at this;omega⟩
theorem Ih {s:vN} {K:Int} (hs:pa s K) (hK:1≤K):qL (mY s) (K - 1) C5:=by
 refine qL.of ?_
 unfold mY
 refine Ok.gen (vQ hs (by omega) (by omega) (by omega)) (fun u s1 hu q1=>?_)
 dsimp only
 refine Ok.idx hu.1 (by simpa using hu.2) (fun v _ hv=>?_)
 refine Ok.ret ⟨?_,q1⟩
 simp only [List.mem_cons,List.not_mem_nil,or_false] at hv
 rcases hv with rfl | rfl | rfl | rfl | rfl<;>exact C5.of (by simp) rfl
def Vy (s:bJ):Prop:=C5 s.mR∧QB s.Query
theorem GZ (uO:al) (n28:Int) (h28:0≤n28∧n28 < 4) (vv:al) (L:List Int) (n:Int) (l:List bj) (m:Nat) (hl:l.length≤m) (hm:m≤100) (K:Int) (hs:pa ⟨L,n⟩ K) (hK:3≤K):
 Ok (pe uO n28 vv L n l 0) (fun r=>∃ L' n' l',r=.inl (L',n',l',n28+1)∧pa ⟨L',n'⟩ (K - 3)∧l'.length≤m+3):=by
 unfold pe
 refine Ok.iter (fun x:(List Int)×Int×(List bj)×Int=>(3 - x.2.2.2).toNat) (fun x=>(0≤x.2.2.2∧x.2.2.2≤3)∧pa ⟨x.1,x.2.1⟩ (K - x.2.2.2)∧(x.2.2.1.length:Int)≤m+x.2.2.2) ?_ _ ⟨by simp,by simpa using hs,by simp;omega⟩
 rintro ⟨L,n,l,i⟩ ⟨h0,h1,h2⟩
 dsimp only at h0 h1 h2 ⊢
 have w1:cr (i+1)=i+1:=bh (by omega) (by omega)
 unfold jq
 split
 ·rename_i hi
  have hi:i < 3:=by simpa using hi
  refine Ok.idx h0.1 (by simpa using hi) (fun nm _ Sr=>?_)
  refine Ok.gen (sI h1 (by omega) (by omega) (by omega)) (fun c s1 _ q1=>?_)
  dsimp only
  unfold jo
  rw [w1]
  split
  ·refine Ok.app (by simp;omega) ?_
   exact Ok.ret ⟨⟨⟨by dsimp only;omega,by dsimp only;omega⟩,q1.less (by dsimp only;omega),by simp;omega⟩,by dsimp only;omega⟩
  ·exact Ok.ret ⟨⟨⟨by dsimp only;omega,by dsimp only;omega⟩,q1.less (by dsimp only;omega),by dsimp only;omega⟩,by dsimp only;omega⟩
 ·rename_i hi
  have hi:¬ i < 3:=by simpa using hi
  rw [bh (by omega) (by omega)]
  exact Ok.inr (Ok.ret ⟨L,n,l,rfl,h1.less (by omega),by omega⟩)
theorem G0 (n16:Int) (h16:0≤n16∧n16 < 2) (uO:al) (L:List Int) (n:Int) (l:List bj) (m:Nat) (hl:l.length≤m) (hm:m≤50) (K:Int) (hs:pa ⟨L,n⟩ K) (hK:12≤K):
 Ok (pf n16 uO L n l 0) (fun r=>∃ L' n' l',r=.inl (L',n',l',n16+1)∧pa ⟨L',n'⟩ (K - 12)∧l'.length≤m+12):=by
 unfold pf
 refine Ok.iter (fun x:(List Int)×Int×(List bj)×Int=>(4 - x.2.2.2).toNat) (fun x=>(0≤x.2.2.2∧x.2.2.2≤4)∧pa ⟨x.1,x.2.1⟩ (K - 3 * x.2.2.2)∧(x.2.2.1.length:Int)≤m+3 * x.2.2.2) ?_ _ ⟨by simp,by simpa using hs,by simp;omega⟩
 rintro ⟨L,n,l,i⟩ ⟨h0,h1,h2⟩
 dsimp only at h0 h1 h2 ⊢
 unfold jr
 split
 ·rename_i hi
  have hi:i < 4:=by simpa using hi
  refine Ok.idx h0.1 (by simpa using hi) (fun nm _ Sr=>?_)
  refine (GZ uO i ⟨h0.1,hi⟩ nm L n l (m+3 * i.toNat) (by omega) (by omega) (K - 3 * i) h1 (by omega)).mono (fun r hr=>?_)
  obtain ⟨L',n',l',rfl,g1,g2⟩:=hr
  exact ⟨⟨⟨by dsimp only;omega,by dsimp only;omega⟩,g1.less (by dsimp only;omega),by dsimp only;omega⟩,by dsimp only;omega⟩
 ·rename_i hi
  have hi:¬ i < 4:=by simpa using hi
  rw [bh (by omega) (by omega)]
  exact Ok.inr (Ok.ret ⟨L,n,l,rfl,h1.less (by omega),by omega⟩)
theorem G1 (v2:al×vN) (v5:(List al)×vN) (Xp:C5 v5.1) (ms:List bj) (hms:ms.length≤100) (L:List Int) (n:Int) (K:Int) (hs:pa ⟨L,n⟩ K) (hK:90≤K):
 Ok (pg v2 v5 ms L n [] 0) (fun r=>(pq r.1∧r.1.ak.length=4∧r.1.ba.length=3∧r.1.aL.length≤100∧r.1.aR.length≤2)∧pa r.2 (K - 90)):=by
 unfold pg
 refine Ok.iter (fun x:(List Int)×Int×(List bJ)×Int=>(2 - x.2.2.2).toNat) (fun x=>(0≤x.2.2.2∧x.2.2.2≤2)∧pa ⟨x.1,x.2.1⟩ (K - 45 * x.2.2.2)∧(x.2.2.1.length:Int)≤x.2.2.2∧∀ s∈x.2.2.1,Vy s) ?_ _ ⟨by simp,by simpa using hs,by simp,fun s h=>by cases h⟩
 rintro ⟨L,n,l,i⟩ ⟨h0,h1,h2,h3⟩
 dsimp only at h0 h1 h2 h3 ⊢
 have w1:cr (i+1)=i+1:=bh (by omega) (by omega)
 unfold js
 split
 ·rename_i hi
  have hi:i < 2:=by simpa using hi
  refine Ok.idx h0.1 (by simpa using hi) (fun nm _ Sr=>?_)
  refine Ok.gen (sI h1 (by omega) (by omega) (by omega)) (fun c s1 _ q1=>?_)
  dsimp only
  split
  ·refine Ok.gen (og q1 (by omega) (by simp) (by simp)) (fun fr s2 _ q2=>?_)
   refine Ok.gen (hJ q2 (by omega) (by simp) (by simp)) (fun a s3 _ q3=>?_)
   refine Ok.gen (og q3 (by omega) (by simp) (by simp)) (fun d s4 hd q4=>?_)
   have Bb:=BG (lo:=0) (hi:=1) hd (by decide)
   obtain ⟨e,rfl⟩:∃ e:Nat,d=e:=⟨d.toNat,by omega⟩
   have Xf:A2 e≤33:=by
    have:e=0∨e=1:=by omega
    rcases this with rfl | rfl<;>decide
   have kM:A3 e≤13:=by
    have:e=0∨e=1:=by omega
    rcases this with rfl | rfl<;>decide
   have hp:=xI e
   have TR:=vR e depth (by unfold depth;omega) (by omega) s4 _ q4 (by omega)
   dsimp only
   refine Ok.gen (P:=QS (A3 e)) TR (fun q s5 hq q5=>?_)
   have hqb:=(hq.mono kM).b (by omega)
   refine Ok.gen (Ih q5 (by omega)) (fun ac s6 ON q6=>?_)
   refine Ok.gen (og q6 (by omega) (by simp) (by simp)) (fun f2 s7 _ q7=>?_)
   refine Ok.gen (sI q7 (by omega) (by omega) (by omega)) (fun c s8 _ q8=>?_)
   dsimp only
   have j3:∀ a b,Ok (gW l i nm (fr,s2) (q,s5) (ac,s6) (f2,s7) (c,s8) a b) (TL (fun x:(List Int)×Int×(List bJ)×Int=>(2 - x.2.2.2).toNat) (fun x=>(0≤x.2.2.2∧x.2.2.2≤2)∧pa ⟨x.1,x.2.1⟩ (K - 45 * x.2.2.2)∧(x.2.2.1.length:Int)≤x.2.2.2∧∀ s∈x.2.2.1,Vy s) (fun r=>(pq r.1∧r.1.ak.length=4∧r.1.ba.length=3∧r.1.aL.length≤100∧r.1.aR.length≤2)∧pa r.2 (K - 90)) (L,n,l,i)):=by
    intro a b
    unfold gW gV
    refine Ok.app (by simp;omega) ?_
    dsimp only
    rw [w1]
    refine Ok.ret ⟨⟨⟨by dsimp only;omega,by dsimp only;omega⟩,q8.less (by dsimp only;omega),by simp;omega,fun s hs=>?_⟩,by dsimp only;omega⟩
    rcases List.mem_append.1 hs with k | k
    ·exact h3 s k
    ·rw [List.mem_singleton.1 k];exact ⟨ON,hqb⟩
   split
   ·exact j3 _ _
   ·exact j3 _ _
  ·unfold gV
   rw [w1]
   exact Ok.ret ⟨⟨⟨by dsimp only;omega,by dsimp only;omega⟩,q1.less (by dsimp only;omega),by dsimp only;omega,h3⟩,by dsimp only;omega⟩
 ·rename_i hi
  refine Ok.inr (Ok.ret ⟨⟨⟨by simp,by simp,by dsimp only;omega,by dsimp only;omega,fun r hr=>?_,h3⟩,rfl,rfl,hms,by dsimp only;omega⟩,h1.less (by omega)⟩)
  simp only [List.mem_cons,List.not_mem_nil,or_false] at hr
  rcases hr with rfl | rfl | rfl
  ·exact C5.of (by simp) rfl
  ·exact Xp
  ·exact C5.of (by simp) rfl
theorem Ii {s:vN} {K:Int} (hs:pa s K) (hK:116≤K):qL (lO s) (K - 116) (fun o=>pq o∧o.ak.length=4∧o.ba.length=3∧o.aL.length≤100∧o.aR.length≤2):=by
 refine qL.of ?_
 unfold lO
 refine Ok.gen (hJ hs (by omega) (by simp) (by simp)) (fun v2 s1 _ q1=>?_)
 refine Ok.gen (Ih q1 (by omega)) (fun v5 s2 Xp q2=>?_)
 dsimp only
 unfold tE
 refine Ok.iter (fun x:(List Int)×Int×(List bj)×Int=>(2 - x.2.2.2).toNat) (fun x=>(0≤x.2.2.2∧x.2.2.2≤2)∧pa ⟨x.1,x.2.1⟩ (K - 2 - 12 * x.2.2.2)∧(x.2.2.1.length:Int)≤12 * x.2.2.2) ?_ _ ⟨by simp,q2.less (by simp;omega),by simp⟩
 rintro ⟨L,n,l,i⟩ ⟨h0,h1,h2⟩
 dsimp only at h0 h1 h2 ⊢
 unfold jt
 split
 ·rename_i hi
  have hi:i < 2:=by simpa using hi
  refine Ok.idx h0.1 (by simpa using hi) (fun nm _ Sr=>?_)
  refine (G0 i ⟨h0.1,hi⟩ nm L n l (12 * i.toNat) (by omega) (by omega) (K - 2 - 12 * i) h1 (by omega)).mono (fun r hr=>?_)
  obtain ⟨L',n',l',rfl,g1,g2⟩:=hr
  exact ⟨⟨⟨by dsimp only;omega,by dsimp only;omega⟩,g1.less (by dsimp only;omega),by dsimp only;omega⟩,by dsimp only;omega⟩
 ·exact Ok.inr ((G1 (v2,s1) (v5,s2) Xp l (by omega) L n (K - 26) (h1.less (by omega)) (by omega)).mono (fun r hr=>⟨hr.1,hr.2.less (by omega)⟩))
theorem TS {s:vN} {K:Int} (hs:pa s K) (hK:300≤K):qL (tF s) (K - 300) pq:=by
 refine qL.of ?_
 unfold tF
 refine Ok.gen (Ii hs (by omega)) (fun o s1 ho q1=>?_)
 obtain ⟨hB,hT,hR,hM,hS⟩:=ho
 refine Ok.gen (sI q1 (by omega) (by omega) (by omega)) (fun c s2 _ q2=>?_)
 have fin:∀ {L:List Int} {n:Int} {T:List an} {R:List bF} {M:List bj} {S:List bJ} {K':Int},pa ⟨L,n⟩ K'→K - 300≤K'→T.length≤10→(R.length≤10∧∀ r∈R,C5 r.mR)→M.length≤200→(S.length≤10∧∀ s∈S,Vy s)→Ok (oy L n T R M S) (fun r=>pq r.1∧pa r.2 (K - 300)):=by
  intro L n T R M S K' a1 a2 a3 a4 a5 a6
  exact Ok.ret ⟨⟨by dsimp only;omega,by dsimp only;omega,by dsimp only;omega,by dsimp only;omega,a4.2,a6.2⟩,a1.less a2⟩
 have Sl:o.ak.length≤10:=by omega
 have Nh:o.ba.length≤10∧∀ r∈o.ba,C5 r.mR:=⟨by omega,hB.act⟩
 have Q7:o.aL.length≤200:=by omega
 have Sm:o.aR.length≤10∧∀ s∈o.aR,Vy s:=⟨by omega,hB.shr⟩
 dsimp only
 split
 ·refine Ok.gen (vQ q2 (by omega) (by omega) (by omega)) (fun z s3 _ q3=>?_)
  dsimp only
  split
  ·refine Ok.gen (vQ q3 (by omega) (by omega) (by omega)) (fun j s4 hj q4=>?_)
   refine Ok.gen (hJ q4 (by omega) (by simp) (by simp)) (fun a s5 _ q5=>?_)
   dsimp only
   refine Ok.idx hj.1 (by omega) (fun t _ _=>?_)
   exact fin q5 (by omega) (by simp;omega) Nh Q7 Sm
  split
  ·refine Ok.gen (hJ q3 (by omega) (by simp) (by simp)) (fun a s4 _ q4=>?_)
   refine Ok.gen (hJ q4 (by omega) (by simp) (by simp)) (fun b s5 _ q5=>?_)
   dsimp only
   refine Ok.app (by simp;omega) ?_
   exact fin q5 (by omega) (by simp;omega) Nh Q7 Sm
  split
  ·refine Ok.gen (hJ q3 (by omega) (by simp) (by simp)) (fun a s4 _ q4=>?_)
   refine Ok.gen (vQ q4 (by omega) (by omega) (by omega)) (fun u s5 hu q5=>?_)
   dsimp only
   refine Ok.idx hu.1 (by simpa using hu.2) (fun ac _ ON=>?_)
   refine Ok.app (by simp;omega) ?_
   refine fin q5 (by omega) Sl ⟨by simp;omega,fun r hr=>?_⟩ Q7 Sm
   rcases List.mem_append.1 hr with k | k
   ·exact hB.act r k
   ·rw [List.mem_singleton.1 k]
    simp only [List.mem_cons,List.not_mem_nil,or_false] at ON
    rcases ON with rfl | rfl | rfl | rfl | rfl | rfl<;>exact C5.of (by simp) rfl
  split
  ·refine Ok.gen (hJ q3 (by omega) (by simp) (by simp)) (fun a s4 _ q4=>?_)
   refine Ok.gen (hJ q4 (by omega) (by simp) (by simp)) (fun b s5 _ q5=>?_)
   refine Ok.gen (hJ q5 (by omega) (by simp) (by simp)) (fun c s6 _ q6=>?_)
   dsimp only
   refine Ok.app (by simp;omega) ?_
   exact fin q6 (by omega) Sl Nh (by simp;omega) Sm
  split
  ·refine Ok.gen (hJ q3 (by omega) (by simp) (by simp)) (fun a s4 _ q4=>?_)
   refine Ok.gen (hJ q4 (by omega) (by simp) (by simp)) (fun b s5 _ q5=>?_)
   refine Ok.gen (hJ q5 (by omega) (by simp) (by simp)) (fun c s6 _ q6=>?_)
   refine Ok.gen (OM q6 (by omega)) (fun q s7 hq q7=>?_)
   refine Ok.gen (Ih q7 (by omega)) (fun ac s8 ON q8=>?_)
   dsimp only
   have M1:qL (se s8) (K - 116 - 1 - 1 - 1 - 1 - 1 - 150 - 1 - 5) (fun _=>True):=by
    refine qL.of ?_
    unfold se
    refine Ok.gen (og q8 (by omega) (by simp) (by simp)) (fun f1 t1 _ p1=>?_)
    refine Ok.gen (og p1 (by omega) (by simp) (by simp)) (fun f2 t2 _ p2=>?_)
    refine Ok.gen (sI p2 (by omega) (by omega) (by omega)) (fun f3 t3 _ p3=>?_)
    dsimp only
    split
    ·refine Ok.gen (og p3 (by omega) (by simp) (by simp)) (fun f4 t4 _ p4=>?_)
     refine Ok.gen (og p4 (by omega) (by simp) (by simp)) (fun f5 t5 _ p5=>?_)
     exact Ok.ret ⟨trivial,p5.less (by omega)⟩
    ·exact Ok.ret ⟨trivial,p3.less (by omega)⟩
   refine Ok.gen M1 (fun w s9 _ q9=>?_)
   refine Ok.app (by simp;omega) ?_
   refine fin q9 (by omega) Sl Nh Q7 ⟨by simp;omega,fun s hs=>?_⟩
   rcases List.mem_append.1 hs with k | k
   ·exact hB.shr s k
   ·rw [List.mem_singleton.1 k];exact ⟨ON,hq⟩
  split
  ·rename_i we
   refine Ok.gen (vQ q3 (by omega) (by omega) (by omega)) (fun u s4 hu q4=>?_)
   dsimp only
   refine Ok.idx hu.1 (by simpa using hu.2) (fun ac _ ON=>?_)
   refine Ok.idx (by omega) we (fun x hx V5=>?_)
   refine fin q4 (by omega) Sl Nh Q7 ⟨by simp;omega,fun s hs=>?_⟩
   rcases List.mem_or_eq_of_mem_set hs with k | rfl
   ·exact hB.shr s k
   ·refine ⟨?_,(hB.shr x V5).2⟩
    simp only [List.mem_cons,List.not_mem_nil,or_false] at ON
    rcases ON with rfl | rfl | rfl<;>exact C5.of (by simp) rfl
  ·exact fin q3 (by omega) Sl Nh Q7 Sm
 ·exact fin q2 (by omega) Sl Nh Q7 Sm
end Go.Beacon
set_option linter.unusedSectionVars false
namespace Go.Beacon
open Go Go.Eng
def Q8 (q:aH):Prop:=-2000000000000≤q.kU∧q.kU≤2000000000000
def Q9 (x:aM):Prop:=-2000000000000≤x.mS∧x.mS≤2000000000000
theorem Ij (n10:Int) (h10:0≤n10∧n10≤100) (v12:al) (L:List Int) (n:Int) (l:List aH) (hl:l.length≤100) (hq:∀ q∈l,Q8 q) (K:Int) (hs:pa ⟨L,n⟩ K) (hK:4≤K):
 Ok (rf n10 v12 L n l 0) (fun r=>∃ L' n' l',r=.inl (L',n',l',n10+1)∧pa ⟨L',n'⟩ (K - 4)∧l'.length≤l.length+2∧∀ q∈l',Q8 q):=by
 unfold rf
 refine Ok.iter (fun x:(List Int)×Int×(List aH)×Int=>(2 - x.2.2.2).toNat) (fun x=>(0≤x.2.2.2∧x.2.2.2≤2)∧pa ⟨x.1,x.2.1⟩ (K - 2 * x.2.2.2)∧(x.2.2.1.length:Int)≤l.length+x.2.2.2∧∀ q∈x.2.2.1,Q8 q) ?_ _ ⟨by simp,by simpa using hs,by simp,hq⟩
 rintro ⟨L1,n1,l1,i⟩ ⟨h0,h1,h2,h3⟩
 dsimp only at h0 h1 h2 h3 ⊢
 unfold kW
 split
 ·rename_i hi
  have hi:i < 2:=by simpa using hi
  refine Ok.idx h0.1 (by simpa using hi) (fun w _ _=>?_)
  refine Ok.gen (sI h1 (by omega) (by omega) (by omega)) (fun c s2 _ q2=>?_)
  dsimp only
  unfold kV
  have w1:cr (i+1)=i+1:=bh (by omega) (by omega)
  split
  ·refine Ok.gen (og q2 (by omega) (by simp) (by simp)) (fun m s3 hm q3=>?_)
   refine Ok.app (by simp;omega) ?_
   dsimp only
   rw [w1]
   refine Ok.ret ⟨⟨⟨by dsimp only;omega,by dsimp only;omega⟩,q3.less (by dsimp only;omega),by simp;omega,fun q Ra=>?_⟩,by dsimp only;omega⟩
   rcases List.mem_append.1 Ra with k | k
   ·exact h3 q k
   ·rw [List.mem_singleton.1 k]
    simp only [List.mem_cons,List.not_mem_nil,or_false] at hm
    unfold Q8;dsimp only;omega
  ·rw [w1]
   exact Ok.ret ⟨⟨⟨by dsimp only;omega,by dsimp only;omega⟩,q2.less (by dsimp only;omega),by dsimp only;omega,h3⟩,by dsimp only;omega⟩
 ·rename_i hi
  have hi:¬ i < 2:=by simpa using hi
  rw [bh (by omega) (by omega)]
  exact Ok.inr (Ok.ret ⟨L1,n1,l1,rfl,h1.less (by omega),by omega,h3⟩)
theorem MN {s:vN} {K:Int} (hs:pa s K) (hK:20≤K):qL (oz s) (K - 20) (fun q=>q.length≤7∧∀ x∈q,Q8 x):=by
 refine qL.of ?_
 unfold oz vd
 refine Ok.iter (fun x:(List Int)×Int×(List aH)×Int=>(3 - x.2.2.2).toNat) (fun x=>(0≤x.2.2.2∧x.2.2.2≤3)∧pa ⟨x.1,x.2.1⟩ (K - 4 * x.2.2.2)∧(x.2.2.1.length:Int)≤2 * x.2.2.2∧∀ q∈x.2.2.1,Q8 q) ?_ _ ⟨by simp,by simpa using hs,by simp,fun q h=>by cases h⟩
 rintro ⟨L1,n1,l1,i⟩ ⟨h0,h1,h2,h3⟩
 dsimp only at h0 h1 h2 h3 ⊢
 unfold kY
 split
 ·rename_i hi
  have hi:i < 3:=by simpa using hi
  refine Ok.idx h0.1 (by simpa using hi) (fun w _ _=>?_)
  refine (Ij i ⟨h0.1,by omega⟩ w L1 n1 l1 (by omega) h3 (K - 4 * i) h1 (by omega)).mono (fun r hr=>?_)
  obtain ⟨L',n',l',rfl,g1,g2,g3⟩:=hr
  exact ⟨⟨⟨by dsimp only;omega,by dsimp only;omega⟩,g1.less (by dsimp only;omega),by dsimp only;omega,g3⟩,by dsimp only;omega⟩
 ·refine Ok.inr ?_
  unfold ri kX
  refine Ok.gen (sI h1 (by omega) (by omega) (by omega)) (fun c s2 _ q2=>?_)
  dsimp only
  split
  ·refine Ok.gen (hJ q2 (by omega) (by simp) (by simp)) (fun a s3 _ q3=>?_)
   refine Ok.gen (hJ q3 (by omega) (by simp) (by simp)) (fun b s4 _ q4=>?_)
   refine Ok.gen (MA q4 (by omega) (by omega) (by omega) (by omega)) (fun m s5 hm q5=>?_)
   refine Ok.app (by simp;omega) ?_
   refine Ok.ret ⟨⟨by simp;omega,fun q Ra=>?_⟩,q5.less (by omega)⟩
   rcases List.mem_append.1 Ra with k | k
   ·exact h3 q k
   ·rw [List.mem_singleton.1 k]
    unfold Q8;dsimp only;omega
  ·exact Ok.ret ⟨⟨by dsimp only;omega,h3⟩,q2.less (by omega)⟩
theorem G2 (n10:Int) (h10:0≤n10∧n10≤100) (v12:al) (L:List Int) (n:Int) (l:List aM) (hl:l.length≤100) (hq:∀ q∈l,Q9 q) (K:Int) (hs:pa ⟨L,n⟩ K) (hK:4≤K):
 Ok (p9 n10 v12 L n l 0) (fun r=>∃ L' n' l',r=.inl (L',n',l',n10+1)∧pa ⟨L',n'⟩ (K - 4)∧l'.length≤l.length+2∧∀ q∈l',Q9 q):=by
 unfold p9
 refine Ok.iter (fun x:(List Int)×Int×(List aM)×Int=>(2 - x.2.2.2).toNat) (fun x=>(0≤x.2.2.2∧x.2.2.2≤2)∧pa ⟨x.1,x.2.1⟩ (K - 2 * x.2.2.2)∧(x.2.2.1.length:Int)≤l.length+x.2.2.2∧∀ q∈x.2.2.1,Q9 q) ?_ _ ⟨by simp,by simpa using hs,by simp,hq⟩
 rintro ⟨L1,n1,l1,i⟩ ⟨h0,h1,h2,h3⟩
 dsimp only at h0 h1 h2 h3 ⊢
 unfold jP
 split
 ·rename_i hi
  have hi:i < 2:=by simpa using hi
  refine Ok.idx h0.1 (by simpa using hi) (fun w _ _=>?_)
  refine Ok.gen (sI h1 (by omega) (by omega) (by omega)) (fun c s2 _ q2=>?_)
  dsimp only
  unfold jO
  have w1:cr (i+1)=i+1:=bh (by omega) (by omega)
  split
  ·refine Ok.gen (og q2 (by omega) (by simp) (by simp)) (fun m s3 hm q3=>?_)
   refine Ok.app (by simp;omega) ?_
   dsimp only
   rw [w1]
   refine Ok.ret ⟨⟨⟨by dsimp only;omega,by dsimp only;omega⟩,q3.less (by dsimp only;omega),by simp;omega,fun q Ra=>?_⟩,by dsimp only;omega⟩
   rcases List.mem_append.1 Ra with k | k
   ·exact h3 q k
   ·rw [List.mem_singleton.1 k]
    simp only [List.mem_cons,List.not_mem_nil,or_false] at hm
    unfold Q9;dsimp only;omega
  ·rw [w1]
   exact Ok.ret ⟨⟨⟨by dsimp only;omega,by dsimp only;omega⟩,q2.less (by dsimp only;omega),by dsimp only;omega,h3⟩,by dsimp only;omega⟩
 ·rename_i hi
  have hi:¬ i < 2:=by simpa using hi
  rw [bh (by omega) (by omega)]
  exact Ok.inr (Ok.ret ⟨L1,n1,l1,rfl,h1.less (by omega),by omega,h3⟩)
theorem Kt {s:vN} {K:Int} (hs:pa s K) (hK:25≤K):qL (nf s) (K - 25) (fun q=>q.length≤9∧∀ x∈q,Q9 x):=by
 refine qL.of ?_
 unfold nf ur
 refine Ok.iter (fun x:(List Int)×Int×(List aM)×Int=>(4 - x.2.2.2).toNat) (fun x=>(0≤x.2.2.2∧x.2.2.2≤4)∧pa ⟨x.1,x.2.1⟩ (K - 4 * x.2.2.2)∧(x.2.2.1.length:Int)≤2 * x.2.2.2∧∀ q∈x.2.2.1,Q9 q) ?_ _ ⟨by simp,by simpa using hs,by simp,fun q h=>by cases h⟩
 rintro ⟨L1,n1,l1,i⟩ ⟨h0,h1,h2,h3⟩
 dsimp only at h0 h1 h2 h3 ⊢
 unfold jR
 split
 ·rename_i hi
  have hi:i < 4:=by simpa using hi
  refine Ok.idx h0.1 (by simpa using hi) (fun w _ _=>?_)
  refine (G2 i ⟨h0.1,by omega⟩ w L1 n1 l1 (by omega) h3 (K - 4 * i) h1 (by omega)).mono (fun r hr=>?_)
  obtain ⟨L',n',l',rfl,g1,g2,g3⟩:=hr
  exact ⟨⟨⟨by dsimp only;omega,by dsimp only;omega⟩,g1.less (by dsimp only;omega),by dsimp only;omega,g3⟩,by dsimp only;omega⟩
 ·refine Ok.inr ?_
  unfold qa jQ
  refine Ok.gen (sI h1 (by omega) (by omega) (by omega)) (fun c s2 _ q2=>?_)
  dsimp only
  split
  ·refine Ok.gen (hJ q2 (by omega) (by simp) (by simp)) (fun a s3 _ q3=>?_)
   refine Ok.gen (hJ q3 (by omega) (by simp) (by simp)) (fun b s4 _ q4=>?_)
   refine Ok.gen (MA q4 (by omega) (by omega) (by omega) (by omega)) (fun m s5 hm q5=>?_)
   refine Ok.app (by simp;omega) ?_
   refine Ok.ret ⟨⟨by simp;omega,fun q Ra=>?_⟩,q5.less (by omega)⟩
   rcases List.mem_append.1 Ra with k | k
   ·exact h3 q k
   ·rw [List.mem_singleton.1 k]
    unfold Q9;dsimp only;omega
  ·exact Ok.ret ⟨⟨by dsimp only;omega,h3⟩,q2.less (by omega)⟩
def tC (a b:al×al):Int:=if Lib.compareBytes a.1 b.1≠0 then Lib.compareBytes a.1 b.1 else Lib.compareBytes a.2 b.2
theorem OO:Ah tC:=(Fo.on (fun r:al×al=>r.1)).lex (Fo.on (fun r:al×al=>r.2))
def eF (o:bu) (least:Int) (p:Option (al×al)) (x:al×al×Int):Int:=
 if up o.ak x.1=none then 8 else if nH x.2.1=false then 5 else if ¬ (least≤x.2.2∧x.2.2≤1000000000) then 1 else match p with
  | none=>0
  | some y=>if tC (x.1,x.2.1) y≤0 then 7 else 0
def qF (o:bu) (least:Int):Option (al×al)→List (al×al×Int)→Int
 | _,[]=>0
 | p,x :: r=>if eF o least p x≠0 then eF o least p x else qF o least (some (x.1,x.2.1)) r
theorem Jd (a b:Int):tN [a,b]=some (AS [a,b]):=CD _ (by simp)
theorem Xq (a b c:Int):gz [a,b,c]=some (AS [a,b,c]):=CD _ (by simp)
theorem Je {o:bu} {k r:al} (h:up o.ak k=some r):k∈wk o k:=by
 unfold wk;rw [jJ h];simp
theorem CT {v:aC} {o:bu} (hv:oU v o) (hb:pq o) (a b:al):gL v a b=some (!decide (a=b)&&decide (b∈wk o a)):=by
 unfold gL gB
 have:=hb.Hf
 have hw:=xk o a
 by_cases c:a=b
 ·rw [if_neg (fun k=>k c),decide_eq_true c];rfl
 ·rw [if_pos c,zm hv (by omega)]
  simp only [Option.bind_some]
  rw [rz (wk o a) b (by omega),decide_eq_false c];rfl
theorem Ku {v:aC} {o:bu} (hv:oU v o) (hb:pq o) (hT:xi o.ak) (hn:∀ q,(wk o q).Nodup):
 eC v=(if (200:Int) < (o.aR.length:Int) then some 2 else uP o 0)∧Ok (eC v) (fun r=>r=0→∀ s∈o.aR,((∃ p,up o.ak s.iU=some p)∧∃ p,up o.ak s.To=some p)∧dC s.Query=some 0):=by
 unfold eC
 rw [hv.Ng]
 by_cases h2:(200:Int) < (o.aR.length:Int)
 ·rw [if_pos h2,if_pos h2];exact ⟨rfl,2,rfl,fun k=>by omega⟩
 rw [if_neg h2,if_neg h2]
 unfold nx uP
 have hl:=hb.Vv
 have Vz:=hb.Hf
 refine xH o.aR.length (fun i=>∀ s∈o.aR.take i.toNat,((∃ p,up o.ak s.iU=some p)∧∃ p,up o.ak s.To=some p)∧dC s.Query=some 0) _ (fun t ht=>by simp at ht) (fun i h0 h1 hI=>?_)
 unfold eN oH
 rw [hv.Ng]
 by_cases hi:i < (o.aR.length:Int)
 ·rw [if_pos hi,if_pos hi]
  obtain ⟨t,ht,PX,_⟩:=iZ o.aR h0 hi
  rw [ht]
  simp only [Option.bind_some]
  rw [vO,nI]
  simp only [Option.bind_some]
  have w1:cr (i+1)=i+1:=bh (by omega) (by omega)
  have j3:∀ c,(c=false→(∃ p,up o.ak t.iU=some p)∧∃ p,up o.ak t.To=some p)→bY i t c=kG i t c∧Ok (bY i t c) (HY o.aR.length (fun i=>∀ s∈o.aR.take i.toNat,((∃ p,up o.ak s.iU=some p)∧∃ p,up o.ak s.To=some p)∧dC s.Query=some 0) (fun r=>r=0→∀ s∈o.aR,((∃ p,up o.ak s.iU=some p)∧∃ p,up o.ak s.To=some p)∧dC s.Query=some 0) i):=by
   intro c hc
   unfold bY kG
   cases c with
   | true=>exact ⟨rfl,.inr 13,rfl,fun k=>by omega⟩
   | false=>
     rw [if_neg (by simp:¬ (false=true)),if_neg (by simp:¬ (false=true))]
     obtain ⟨rq,e1,e2,_⟩:=DM t.Query (hb.shr t PX).2
     obtain ⟨f1,ra,f2⟩:=xh t.mR (hb.shr t PX).1
     rw [e1,e2,f1,f2]
     simp only [Option.bind_some]
     rw [Jd,Xq]
     simp only [Option.bind_some]
     have hw:mo t.Time=if pz t.Time=true then 0 else 1:=by
      unfold mo nR pz qs
      rw [HX,Mr]
      by_cases k1:(0:Int)≤t.Time.iU
      ·by_cases k2:t.Time.iU≤t.Time.To
       ·by_cases k3:t.Time.To≤345686400000
        ·rw [if_neg (by simp [k1,k2];omega),if_pos (by simp [k3];omega)]
        ·rw [if_pos (by simp [k1,k2];omega),if_neg (by simp [k3])]
       ·rw [if_pos (by simp [k1,k2]),if_neg (by simp;intro _;omega)]
      ·rw [if_pos (by simp [k1]),if_neg (by simp;intro k;omega)]
     rw [Xi,hw]
     by_cases z:AS [rq,ra]=0
     ·have TR:rq=0:=by
       rw [Xj] at z
       by_cases y:rq=0
       ·exact y
       ·rw [if_pos y] at z;exact z
      rw [z]
      cases bw:pz t.Time with
      | true=>
        refine ⟨by simp,?_⟩
        rw [if_neg (by simp),if_neg (by simp),w1]
        refine ⟨.inl (i+1),rfl,rfl,hi,fun s hs=>?_⟩
        rcases oV h0 ht hs with k | rfl
        ·exact hI s k
        ·exact ⟨hc rfl,by rw [e1,TR]⟩
      | false=>
        refine ⟨by simp,?_⟩
        rw [if_neg (by simp),if_pos (by simp)]
        exact ⟨.inr 1,rfl,fun k=>by omega⟩
     ·rw [if_pos z,if_pos z,if_pos z]
      exact ⟨rfl,.inr _,rfl,fun k=>absurd k z⟩
  have j2:cP v i t true=kH o i t true:=rfl
  have j2f:∀ {p q:al},up o.ak t.iU=some p→up o.ak t.To=some q→∃ c,cP v i t false=bY i t c∧kH o i t false=kG i t c:=by
   intro p q e1 e2
   have Uu:=xk o t.iU
   have hw2:=xk o t.To
   unfold cP kH
   rw [if_neg (by simp:¬ (false=true)),if_neg (by simp:¬ (false=true)),CT hv hb,CT hv hb,(tj hT (by omega) (.inr ⟨p,e1⟩)).2,(tj hT (by omega) (.inr ⟨q,e2⟩)).2,if_pos (hn _),if_pos (hn _)]
   simp only [Option.bind_some]
   rw [rz (wk o t.iU) t.To (by omega),rz (wk o t.To) t.iU (by omega)]
   simp only [Option.bind_some]
   by_cases k:t.iU=t.To
   ·have:t.To∈wk o t.iU:=by rw [← k];exact Je e1
    rw [if_pos k,if_pos (by simpa using this)]
    exact ⟨true,rfl,rfl⟩
   ·rw [if_neg k,decide_eq_false k,decide_eq_false (fun e:t.To=t.iU=>k e.symm)]
    simp only [Bool.not_false,Bool.true_and]
    by_cases k2:t.To∈wk o t.iU
    ·rw [if_pos (by simpa using k2),if_pos (by simpa using k2)];exact ⟨true,rfl,rfl⟩
    ·rw [if_neg (by simpa using k2),if_neg (by simpa using k2)];exact ⟨_,rfl,rfl⟩
  have j1:∀ c,cS v i t c=mq o i t c∧Ok (cS v i t c) (HY o.aR.length (fun i=>∀ s∈o.aR.take i.toNat,((∃ p,up o.ak s.iU=some p)∧∃ p,up o.ak s.To=some p)∧dC s.Query=some 0) (fun r=>r=0→∀ s∈o.aR,((∃ p,up o.ak s.iU=some p)∧∃ p,up o.ak s.To=some p)∧dC s.Query=some 0) i):=by
   intro c
   unfold cS mq
   cases c with
   | true=>exact ⟨rfl,.inr 7,rfl,fun k=>by omega⟩
   | false=>
     rw [if_neg (by simp:¬ (false=true)),if_neg (by simp:¬ (false=true)),xj hv,xj hv,jf o _ (by omega),jf o _ (by omega)]
     simp only [Option.bind_some]
     have a1:=Ja o t.iU
     have a2:=Ja o t.To
     cases e1:up o.ak t.iU with
     | none=>
       rw [e1] at a1
       rw [if_pos (by simp),if_pos (by simpa using a1)]
       exact ⟨rfl,.inr 8,rfl,fun k=>by omega⟩
     | some p=>
       rw [e1] at a1
       rw [if_neg (by simp),if_neg (by simpa using a1),a2]
       cases e2:up o.ak t.To with
       | none=>exact ⟨rfl,.inr 8,rfl,fun k=>by omega⟩
       | some q=>
         simp only [Option.isSome_some,Bool.not_true]
         obtain ⟨c,g1,g2⟩:=j2f e1 e2
         rw [g1,g2]
         exact j3 c (fun _=>⟨⟨p,e1⟩,q,e2⟩)
  cases hk:nH t.Key with
  | false=>exact ⟨rfl,.inr 5,rfl,fun k=>by omega⟩
  | true=>
    rw [if_neg (by simp:¬ ((!true)=true)),if_neg (by simp:¬ ((!true)=true))]
    by_cases hp:0 < i
    ·rw [if_pos hp,if_pos hp,bh (by omega) (by omega)]
     obtain ⟨u,hu,_,_⟩:=iZ o.aR (i:=i - 1) (by omega) (by omega)
     rw [hu]
     simp only [Option.bind_some]
     exact j1 _
    ·rw [if_neg hp,if_neg hp];exact j1 _
 ·have Q5:i=o.aR.length:=by omega
  subst Q5
  rw [if_neg hi,if_neg hi]
  rw [xl] at hI
  exact ⟨rfl,.inr 0,rfl,fun _=>hI⟩
structure G3 (o:bu):Prop where
 tree:xi o.ak
 nd:∀ q,(wk o q).Nodup
 adI:Fv o
 mem:∀ m∈o.aL,(∃ p,up o.ak m.an=some p)∧yz o m.bF=true
 shr:∀ s∈o.aR,((∃ p,up o.ak s.iU=some p)∧∃ p,up o.ak s.To=some p)∧dC s.Query=some 0
structure MO (v:aC) (o:bu):Prop where
 view:oU v o
 ag9:∀ k,(bM v.qU k).isSome=yz o k
 act:Fv o→∀ k,bM v.qU k=(o.ba.find? (fun r=>decide (r.Key=k))).map (·.mR)
 wide:v.yh=[]
theorem CU (o:bu) (hb:pq o):∃ r,rj o=some r∧((r≠0∧cT o=some (none,r))∨(r=0∧G3 o∧∃ v,cT o=some (some v,0)∧MO v o)):=by
 have ht:=hb.Hf
 have hr:=hb.Sj
 have hm:=hb.mem
 obtain ⟨a,hv⟩:=Ic o (by omega) (by omega) (by omega)
 unfold cT rj
 rw [hv]
 simp only [Option.bind_some]
 generalize M9:(⟨o,foldM (·.Key) (·.eB) [] o.ak,foldM (·.Key) (·.mR) [] o.ba,a,[],[]⟩:aC)=v
 have ho:v.bu=o:=by rw [← M9]
 have hV:o.ak.Pairwise (fun a b=>a.Key≠b.Key)→oU v o:=fun k=>by rw [← M9];exact Q4 o k _ _ _ _
 have hA:∀ k,(bM v.qU k).isSome=yz o k:=fun k=>by
  rw [← M9]
  show (bM (foldM (·.Key) (·.mR) [] o.ba) k).isSome=_
  rw [CS (·.Key) (·.mR) k o.ba []];simp [yz,xe]
 have zv:Fv o→∀ k,bM v.qU k=(o.ba.find? (fun r=>decide (r.Key=k))).map (·.mR):=fun hR k=>by
  rw [← M9]
  show bM (foldM (·.Key) (·.mR) [] o.ba) k=_
  rw [Ap (·.Key) (·.mR) k o.ba [] (hR.imp (fun h=>MJ h)),xe,Option.or_none]
 obtain ⟨e1,r1,e2,e3⟩:=OI (by omega) ho hV
 rw [← e1,e2]
 simp only [Option.bind_some]
 by_cases z1:r1=0
 ·rw [if_neg (fun k:r1≠0=>k z1),if_neg (fun k:r1≠0=>k z1)]
  obtain ⟨_,hT,hn⟩:=e3 z1
  have Xr:=hV hT.nd
  obtain ⟨r2,f1,f2,f3⟩:=ML ho hb
  rw [f1,f2]
  simp only [Option.bind_some]
  by_cases z2:r2=0
  ·rw [if_neg (fun k:r2≠0=>k z2),if_neg (fun k:r2≠0=>k z2)]
   obtain ⟨g1,r3,g2,g3⟩:=Ie Xr hA hb
   rw [← g1,g2]
   simp only [Option.bind_some]
   by_cases z3:r3=0
   ·rw [if_neg (fun k:r3≠0=>k z3),if_neg (fun k:r3≠0=>k z3)]
    obtain ⟨i1,r4,i2,i3⟩:=Ku Xr hb hT hn
    rw [← i1,i2]
    simp only [Option.bind_some]
    refine ⟨r4,rfl,?_⟩
    by_cases z4:r4=0
    ·rw [if_neg (fun k:r4≠0=>k z4)]
     exact .inr ⟨z4,⟨hT,hn,f3 z2,g3 z3,i3 z4⟩,v,rfl,Xr,hA,zv,by rw [← M9]⟩
    ·rw [if_pos z4];exact .inl ⟨z4,rfl⟩
   ·rw [if_pos z3,if_pos z3];exact ⟨r3,rfl,.inl ⟨z3,rfl⟩⟩
  ·rw [if_pos z2,if_pos z2]
   simp only [Option.bind_some]
   rw [if_pos z2]
   exact ⟨r2,rfl,.inl ⟨z2,rfl⟩⟩
 ·rw [if_pos z1,if_pos z1];exact ⟨r1,rfl,.inl ⟨z1,rfl⟩⟩
section
variable {o:bu} (hb:pq o) (hr:G3 o) {v:aC} (hc:cT o=some (some v,0)) (hv:MO v o)
include hb hr
theorem Kv (k:al):GA o k=some (if (up o.ak k).isSome=true then wk o k else [])∧qx o k=some (if (up o.ak k).isSome=true then some (wk o k) else none):=by
 have ht:=hb.Hf
 unfold GA qx
 rw [jf o k (by omega)]
 simp only [Option.bind_some]
 cases e:up o.ak k with
 | none=>
   rw [if_pos ((ja _ _).2 e),if_pos ((ja _ _).2 e)]
   exact ⟨rfl,rfl⟩
 | some p=>
   have Ks:¬ eE (fun t:an=>decide (t.Key=k)) o.ak 0 < 0:=fun h=>by rw [(ja _ _).1 h] at e;cases e
   obtain ⟨e1,e2⟩:=tj hr.tree (by omega) (k:=k) (.inr ⟨p,e⟩)
   rw [if_neg Ks,if_neg Ks,e1,e2,if_pos (hr.nd _),if_pos (hr.nd _)]
   exact ⟨rfl,rfl⟩
theorem MP (k:al) (hk:∃ p,up o.ak k=some p):oA o k=some (wk o k):=by
 have ht:=hb.Hf
 rw [(tj hr.tree (by omega) (k:=k) (.inr hk)).2,if_pos (hr.nd _)]
include hc hv
end
section
variable {o:bu} (hb:pq o) (hr:G3 o)
include hb hr
end
theorem Fx {α X:Type} (o:bu) (least:Int) (xs:List α) (g:α→al×al×Int) (mk:al×al→Int→X) (f:X→Option (X⊕Int)) (Inv:al×al→Int→Prop)
 (h1:∀ p (i:Int) x,0≤i→i < xs.length→idx xs i=some x→Inv p i→f (mk p i)=(if eF o least (some p) (g x)≠0 then some (.inr (eF o least (some p) (g x))) else some (.inl (mk ((g x).1,(g x).2.1) (i+1))))∧Inv ((g x).1,(g x).2.1) (i+1))
 (h2:∀ p,Inv p xs.length→f (mk p xs.length)=some (.inr 0)):∀ (k:Nat) p (i:Int),0≤i→i+k=xs.length→Inv p i→iter f (mk p i)=some (qF o least (some p) ((xs.drop i.toNat).map g)):=by
 intro k
 induction k with
 | zero=>
   intro p i hi hk hI
   obtain rfl:i=xs.length:=by omega
   rw [iter_eq,h2 p hI]
   simp only [Option.bind_some,Jt]
   rw [List.drop_of_length_le (by omega)]
   rfl
 | succ k ih=>
   intro p i hi hk hI
   obtain ⟨x,hx,_,hd⟩:=iZ xs hi (by omega)
   obtain ⟨e1,e2⟩:=h1 p i x hi (by omega) hx hI
   rw [iter_eq,e1,hd,List.map_cons]
   unfold qF
   by_cases c:eF o least (some p) (g x)=0
   ·rw [if_neg (fun k=>k c),if_neg (fun k=>k c)]
    simp only [Option.bind_some,dh]
    exact ih _ _ (by omega) (by omega) e2
   ·rw [if_pos c,if_pos c]
    rfl
theorem MQ (a b c d:al):iI [Lib.compareBytes a b,Lib.compareBytes c d]=some (tC (a,c) (b,d)):=by
 rw [show iI [Lib.compareBytes a b,Lib.compareBytes c d]=some (AS [Lib.compareBytes a b,Lib.compareBytes c d]) from CD _ (by simp)]
 unfold tC AS
 split
 ·rfl
 ·unfold AS
  split
  ·rfl
  ·rename_i h;simp only [ne_eq,Classical.not_not] at h;rw [h];rfl
section
variable {v:aC} {o:bu} (hv:oU v o)
include hv
theorem entry_eq (x:aj) (m least:Int) (p:aj):fj v x m least p=some (eF o least (some (p.cu,p.cZ)) (x.cu,x.cZ,m)):=by
 unfold fj eF
 rw [xj hv]
 simp only [Option.bind_some]
 cases hu:up o.ak x.cu with
 | none=>rfl
 | some r=>
   rw [if_neg (by simp),if_neg (show ¬ (some r=none) by simp),vO]
   simp only [Option.bind_some]
   cases nH x.cZ with
   | false=>rfl
   | true=>
     simp only [Bool.not_true,Bool.false_eq_true,if_false,Bool.true_eq_false]
     rw [HX]
     by_cases d:least≤m∧m≤1000000000
     ·rw [if_neg (by simp;omega),if_neg (fun k=>k d)]
      unfold qu
      rw [MQ]
      simp only [Option.bind_some]
      split<;>rfl
     ·rw [if_pos (by simp;omega),if_pos d]
theorem EC (x:aj) (m least:Int):dE v x m least=some (eF o least none (x.cu,x.cZ,m)):=by
 unfold dE eF
 rw [xj hv]
 simp only [Option.bind_some]
 cases hu:up o.ak x.cu with
 | none=>rfl
 | some r=>
   rw [if_neg (by simp),if_neg (show ¬ (some r=none) by simp),vO]
   simp only [Option.bind_some]
   cases nH x.cZ with
   | false=>rfl
   | true=>
     simp only [Bool.not_true,Bool.false_eq_true,if_false,Bool.true_eq_false]
     rw [HX]
     by_cases d:least≤m∧m≤1000000000
     ·rw [if_neg (by simp;omega),if_neg (fun k=>k d)]
     ·rw [if_pos (by simp;omega),if_pos d]
def qt (x:aH):al×al×Int:=(x.an,x.bT,x.kU)
def at_ (x:aM):al×al×Int:=(x.an,x.bT,x.mS)
theorem ED (q:List aH) (hq:q.length≤500):eD v q=some (qF o 0 none (q.map qt)):=by
 unfold eD
 rw [if_neg (by omega)]
 unfold ny
 have L:=Fx o 0 q qt (fun p i=>(p.1,p.2,i)) (fun x:al×al×Int=>bO v q x.1 x.2.1 x.2.2) (fun _ _=>True) (fun p i x g0 g1 hx _=>by
  refine ⟨?_,trivial⟩
  show bO v q p.1 p.2 i=_
  unfold bO
  rw [if_pos g1,hx]
  simp only [Option.bind_some]
  rw [entry_eq hv]
  simp only [Option.bind_some]
  rw [bh (by omega) (by omega)]
  rfl) (fun p _=>by
  show bO v q p.1 p.2 q.length=_
  unfold bO
  rw [if_neg (by omega)];rfl)
 unfold eO
 cases q with
 | nil=>rfl
 | cons x r=>
   rw [if_pos (by simp),show idx (x :: r) 0=some x from rfl]
   simp only [Option.bind_some]
   rw [EC hv]
   simp only [Option.bind_some]
   rw [List.map_cons]
   unfold qF
   by_cases c:eF o 0 none (qt x)=0
   ·rw [if_neg (show ¬ eF o 0 none (x.an,x.bT,x.kU)≠0 from fun k=>k c),if_neg (fun k=>k c)]
    simp only [Option.bind_some,dh]
    have:=L r.length (x.an,x.bT) 1 (by omega) (by simp;omega) trivial
    exact this
   ·rw [if_pos (show eF o 0 none (x.an,x.bT,x.kU)≠0 from c),if_pos c]
    rfl
theorem CV (q:List aM) (hq:q.length≤500):dY v q=some (qF o 1 none (q.map at_)):=by
 unfold dY
 rw [if_neg (by omega)]
 unfold mM
 have L:=Fx o 1 q at_ (fun p i=>(p.1,p.2,i)) (fun x:al×al×Int=>bK v q x.1 x.2.1 x.2.2) (fun _ _=>True) (fun p i x g0 g1 hx _=>by
  refine ⟨?_,trivial⟩
  show bK v q p.1 p.2 i=_
  unfold bK
  rw [if_pos g1,hx]
  simp only [Option.bind_some]
  rw [entry_eq hv]
  simp only [Option.bind_some]
  rw [bh (by omega) (by omega)]
  rfl) (fun p _=>by
  show bK v q p.1 p.2 q.length=_
  unfold bK
  rw [if_neg (by omega)];rfl)
 unfold ep
 cases q with
 | nil=>rfl
 | cons x r=>
   rw [if_pos (by simp),show idx (x :: r) 0=some x from rfl]
   simp only [Option.bind_some]
   rw [EC hv]
   simp only [Option.bind_some]
   rw [List.map_cons]
   unfold qF
   by_cases c:eF o 1 none (at_ x)=0
   ·rw [if_neg (show ¬ eF o 1 none (x.an,x.bT,x.mS)≠0 from fun k=>k c),if_neg (fun k=>k c)]
    simp only [Option.bind_some,dh]
    have:=L r.length (x.an,x.bT) 1 (by omega) (by simp;omega) trivial
    exact this
   ·rw [if_pos (show eF o 1 none (x.an,x.bT,x.mS)≠0 from c),if_pos c]
    rfl
end
theorem G4 {α:Type} (o:bu) (least:Int) (xs:List α) (g:α→al×al×Int) (f:Int→Option (Int⊕Int)) (hl:xs.length≤100000)
 (h0:∀ x,idx xs 0=some x→f 0=(if eF o least none (g x)≠0 then some (.inr (eF o least none (g x))) else some (.inl 1)))
 (h1:∀ (i:Int) x y,0 < i→i < xs.length→idx xs i=some x→idx xs (i - 1)=some y→f i=(if eF o least (some ((g y).1,(g y).2.1)) (g x)≠0 then some (.inr (eF o least (some ((g y).1,(g y).2.1)) (g x))) else some (.inl (i+1))))
 (h2:f xs.length=some (.inr 0)):iter f 0=some (qF o least none (xs.map g)):=by
 have L:=Fx o least xs g (fun _ i=>i) f (fun p i=>0 < i∧∃ y,idx xs (i - 1)=some y∧p=((g y).1,(g y).2.1)) (fun p i x g0 g1 hx hI=>by
  obtain ⟨hi,y,hy,rfl⟩:=hI
  refine ⟨h1 i x y hi g1 hx hy,by omega,x,?_,rfl⟩
  rw [show i+1 - 1=i by omega];exact hx) (fun _ _=>h2)
 cases xs with
 | nil=>
   rw [iter_eq,show f 0=_ from h2]
   rfl
 | cons x r=>
   rw [iter_eq,h0 x rfl,List.map_cons]
   unfold qF
   by_cases c:eF o least none (g x)=0
   ·rw [if_neg (fun k=>k c),if_neg (fun k=>k c)]
    simp only [Option.bind_some,dh]
    exact L r.length ((g x).1,(g x).2.1) 1 (by omega) (by simp;omega) ⟨by omega,x,rfl,rfl⟩
   ·rw [if_pos c,if_pos c]
    rfl
theorem PC (a b c:Int):ve a b c=decide (b≤a∧a≤c):=by
 unfold ve vF
 rw [Bool.decide_and]
theorem Jf (a b:al×al):decide ((0:Int)≤tC a b)=decide (tC b a≤0):=by
 rw [decide_eq_decide]
 have:=OO.neg a b
 omega
theorem TT {o:bu} (hb:pq o) (q:List aH) (hq:q.length≤500):oI o q=some (qF o 0 none (q.map qt)):=by
 have ht:=hb.Hf
 unfold oI
 rw [if_neg (by omega)]
 unfold vh
 have body:∀ (i:Int) (x:aH) (p:Option (al×al)) (R:Option (Int⊕Int)),0≤i→i < q.length→idx q i=some x→(∀ c:Bool,c=(match p with | none=>false | some y=>decide (tC (x.an,x.bT) y≤0))→(if (0:Int) < i then (idx q (cr (i - (1:Int)))).bind fun v9=>(idx q (cr (i - (1:Int)))).bind fun v10=>(iI [(Lib.compareBytes v9.an x.an),(Lib.compareBytes v10.bT x.bT)]).bind fun v11=>fW i (decide ((0:Int)≤v11)) else fW i false)=fW i c)→
  fg o q i=if eF o 0 p (qt x)≠0 then some (.inr (eF o 0 p (qt x))) else some (.inl (i+1)):=by
  intro i x p R g0 g1 hx hc
  have hc:=hc _ rfl
  unfold fg eF qt
  rw [if_pos g1,hx]
  simp only [Option.bind_some]
  rw [jf o _ (by omega)]
  simp only [Option.bind_some]
  have tn:=ja o.ak x.an
  by_cases hu:up o.ak x.an=none
  ·rw [if_pos (tn.2 hu),if_pos hu,if_pos (by omega)];rfl
  ·rw [if_neg (fun k=>hu (tn.1 k)),if_neg hu,nI]
   simp only [Option.bind_some]
   cases nH x.bT with
   | false=>rfl
   | true=>
     rw [if_neg (by simp),PC]
     by_cases d:0≤x.kU∧x.kU≤1000000000
     ·rw [if_neg (by simp [d]),hc]
      unfold fW
      rw [bh (by omega) (by omega)]
      simp only [Bool.true_eq_false,if_false,d,and_self,not_true_eq_false]
      cases p with
      | none=>rfl
      | some y=>
        dsimp only
        by_cases e:tC (x.an,x.bT) y≤0
        ·rw [if_pos (decide_eq_true e)];simp [e]
        ·rw [if_neg (by simpa using e)];simp [e]
     ·rw [if_pos (by simp;omega)]
      simp only [Bool.true_eq_false,if_false,d,not_false_eq_true,if_true]
      simp
 refine G4 o 0 q qt (fun i=>fg o q i) (by omega) (fun x hx=>?_) (fun i x y g0 g1 hx hy=>?_) ?_
 ·have hl:0 < q.length:=by have:=tw hx;omega
  refine body 0 x none none (by omega) (by omega) hx (fun c h=>?_)
  rw [h,if_neg (by omega)]
 ·refine body i x (some (y.an,y.bT)) none (by omega) g1 hx (fun c h=>?_)
  rw [h,if_pos g0,bh (by omega) (by omega),hy]
  simp only [Option.bind_some]
  rw [MQ]
  simp only [Option.bind_some]
  rw [Jf]
 ·show fg o q q.length=_
  unfold fg
  rw [if_neg (by omega)];rfl
theorem TU {o:bu} (hb:pq o) (q:List aM) (hq:q.length≤500):nj o q=some (qF o 1 none (q.map at_)):=by
 have ht:=hb.Hf
 unfold nj
 rw [if_neg (by omega)]
 unfold uy
 have body:∀ (i:Int) (x:aM) (p:Option (al×al)) (R:Option (Int⊕Int)),0≤i→i < q.length→idx q i=some x→(∀ c:Bool,c=(match p with | none=>false | some y=>decide (tC (x.an,x.bT) y≤0))→(if (0:Int) < i then (idx q (cr (i - (1:Int)))).bind fun v9=>(idx q (cr (i - (1:Int)))).bind fun v10=>(iI [(Lib.compareBytes v9.an x.an),(Lib.compareBytes v10.bT x.bT)]).bind fun v11=>ft i (decide ((0:Int)≤v11)) else ft i false)=ft i c)→
  eg o q i=if eF o 1 p (at_ x)≠0 then some (.inr (eF o 1 p (at_ x))) else some (.inl (i+1)):=by
  intro i x p R g0 g1 hx hc
  have hc:=hc _ rfl
  unfold eg eF at_
  rw [if_pos g1,hx]
  simp only [Option.bind_some]
  rw [jf o _ (by omega)]
  simp only [Option.bind_some]
  have tn:=ja o.ak x.an
  by_cases hu:up o.ak x.an=none
  ·rw [if_pos (tn.2 hu),if_pos hu,if_pos (by omega)];rfl
  ·rw [if_neg (fun k=>hu (tn.1 k)),if_neg hu,nI]
   simp only [Option.bind_some]
   cases nH x.bT with
   | false=>rfl
   | true=>
     rw [if_neg (by simp),PC]
     by_cases d:1≤x.mS∧x.mS≤1000000000
     ·rw [if_neg (by simp [d]),hc]
      unfold ft
      rw [bh (by omega) (by omega)]
      simp only [Bool.true_eq_false,if_false,d,and_self,not_true_eq_false]
      cases p with
      | none=>rfl
      | some y=>
        dsimp only
        by_cases e:tC (x.an,x.bT) y≤0
        ·rw [if_pos (decide_eq_true e)];simp [e]
        ·rw [if_neg (by simpa using e)];simp [e]
     ·rw [if_pos (by simp;omega)]
      simp only [Bool.true_eq_false,if_false,d,not_false_eq_true,if_true]
      simp
 refine G4 o 1 q at_ (fun i=>eg o q i) (by omega) (fun x hx=>?_) (fun i x y g0 g1 hx hy=>?_) ?_
 ·have hl:0 < q.length:=by have:=tw hx;omega
  refine body 0 x none none (by omega) (by omega) hx (fun c h=>?_)
  rw [h,if_neg (by omega)]
 ·refine body i x (some (y.an,y.bT)) none (by omega) g1 hx (fun c h=>?_)
  rw [h,if_pos g0,bh (by omega) (by omega),hy]
  simp only [Option.bind_some]
  rw [MQ]
  simp only [Option.bind_some]
  rw [Jf]
 ·show eg o q q.length=_
  unfold eg
  rw [if_neg (by omega)];rfl
theorem PD (a b:Int):cr (cr a+b)=cr (a+b):=by
 unfold cr IntKind.wrap
 simp [IntKind.signed,IntKind.bits]
 split<;>split<;>omega
theorem zo (a b:aj):vV.lt a b=(vV.lt a.cu b.cu||(decide (a.cu=b.cu)&&vV.lt a.cZ b.cZ)):=by
 show (vV.lt a.cu b.cu||(decide (a.cu=b.cu)&&(vV.lt a.cZ b.cZ||(decide (a.cZ=b.cZ)&&false))))=_
 simp
instance:wq aj where
 Ox a:=by rw [zo,wq.Ox,wq.Ox];simp
 tr {a b c} h1 h2:=by
  rw [zo] at *
  simp only [Bool.or_eq_true,Bool.and_eq_true,decide_eq_true_eq] at *
  rcases h1 with h1 | ⟨e1,h1⟩
  ·rcases h2 with h2 | ⟨e2,h2⟩
   ·exact .inl (wq.tr h1 h2)
   ·exact .inl (by rw [← e2];exact h1)
  ·rcases h2 with h2 | ⟨e2,h2⟩
   ·exact .inl (by rw [e1];exact h2)
   ·exact .inr ⟨e1.trans e2,wq.tr h1 h2⟩
 Pw a b:=by
  rw [zo,zo]
  simp only [Bool.or_eq_true,Bool.and_eq_true,decide_eq_true_eq]
  rcases wq.Pw a.cu b.cu with h | h | h
  ·exact .inl (.inl h)
  ·rcases wq.Pw a.cZ b.cZ with g | g | g
   ·exact .inl (.inr ⟨h,g⟩)
   ·refine .inr (.inl ?_)
    cases a;cases b;simp only at h g;rw [h,g]
   ·exact .inr (.inr (.inr ⟨h.symm,g⟩))
  ·exact .inr (.inr (.inl h))
abbrev TM:=List (aj×Int)
def vS (M:TM) (k:aj) (a:Int):TM:=kO M k (cr ((bM M k).getD 0+a))
def tZ (M:TM) (P:TM):TM:=P.foldl (fun M e=>vS M e.1 e.2) M
theorem ua (M:TM) (k:aj) (a:Int) (q:aj):bM (vS M k a) q=if k=q then some (cr ((bM M k).getD 0+a)) else bM M q:=ti M k _ q
theorem zp {M:TM} (h:SM M) (k:aj) (a:Int):SM (vS M k a):=h.set k _
theorem Kw {M:TM} (h:SM M) (k k':aj) (a b:Int):vS (vS M k a) k' b=vS (vS M k' b) k a:=by
 refine I2 (zp (zp h k a) k' b) (zp (zp h k' b) k a) fun q=>?_
 rw [ua,ua,ua,ua,ua,ua]
 by_cases e:k=k'
 ·subst e
  rw [if_pos rfl,if_pos rfl]
  split
  ·simp only [Option.getD_some]
   rw [PD,PD,Int.add_right_comm]
  ·rfl
 ·have e':¬ k'=k:=fun h=>e h.symm
  simp only [e,e',if_false]
  by_cases f:k'=q
  ·have g:¬ k=q:=fun h=>e (h.trans f.symm)
   simp only [f,g,if_true,if_false]
  ·simp only [f,if_false]
theorem EE {P P':TM} (hp:P.Perm P'):∀ {M:TM},SM M→tZ M P=tZ M P':=by
 induction hp with
 | nil=>intro M h;rfl
 | cons e hp ih=>intro M h;exact ih (zp h e.1 e.2)
 | swap x y l=>
   intro M h
   show tZ (vS (vS M y.1 y.2) x.1 x.2) l=tZ (vS (vS M x.1 x.2) y.1 y.2) l
   rw [Kw h]
 | trans h1 h2 i1 i2=>intro M h;exact (i1 h).trans (i2 h)
theorem MR (M P P':TM):tZ M (P++P')=tZ (tZ M P) P':=List.foldl_append
def ub (k:aj):TM→Int
 | []=>0
 | e :: r=>(if e.1=k then e.2 else 0)+ub k r
theorem vT (k:aj) (e:aj×Int) (r:TM):ub k (e :: r)=(if e.1=k then e.2 else 0)+ub k r:=rfl
theorem Jg (k:aj):∀ (P:TM),(∀ e∈P,0≤e.2)→0≤ub k P
 | [],_=>by simp [ub]
 | e :: r,h=>by
   have h1:=h e (by simp)
   have h2:=Jg k r (fun x hx=>h x (by simp [hx]))
   rw [vT]
   split<;>omega
theorem G5 (k:aj):∀ (P P':TM),ub k (P++P')=ub k P+ub k P'
 | [],P'=>by simp [ub]
 | e :: r,P'=>by
   rw [List.cons_append,vT,vT,G5 k r P'];omega
theorem CW (k:aj):∀ (P:TM) (M:TM),(∀ e∈P,0≤e.2)→0≤(bM M k).getD 0→(bM M k).getD 0+ub k P≤4611686018427387904→(bM (tZ M P) k).getD 0=(bM M k).getD 0+ub k P
 | [],M,_,_,_=>by simp [tZ,ub]
 | e :: r,M,h,h0,hb=>by
   have h1:=h e (by simp)
   have h2:=Jg k r (fun x hx=>h x (by simp [hx]))
   have hg:(bM (vS M e.1 e.2) k).getD 0=(bM M k).getD 0+(if e.1=k then e.2 else 0):=by
    rw [ua]
    rw [vT] at hb
    by_cases c:e.1=k
    ·rw [if_pos c] at hb ⊢
     rw [if_pos c,c,Option.getD_some,bh (by omega) (by omega)]
    ·rw [if_neg c,if_neg c];omega
   have Bx:=hb
   rw [vT] at Bx
   have:=CW k r (vS M e.1 e.2) (fun x hx=>h x (by simp [hx])) (by rw [hg];split<;>omega) (by rw [hg];omega)
   show (bM (tZ (vS M e.1 e.2) r) k).getD 0=_
   rw [this,hg,vT]
   omega
theorem EF:∀ (P M:TM),(∀ e∈P,0≤e.2∧e.2≤4611686018427387904)→P.Pairwise (fun a b=>a.1≠b.1)→(∀ e∈P,bM M e.1=none)→(tZ M P).Perm (P++M)
 | [],M,_,_,_=>List.Perm.refl _
 | e :: r,M,h,hn,h0=>by
   have hc:=List.pairwise_cons.1 hn
   have he:=h e (by simp)
   have h1:vS M e.1 e.2=kO M e.1 e.2:=by
    unfold vS
    rw [h0 e (by simp),Option.getD_none,Int.zero_add,bh (by omega) (by omega)]
   have h2:(kO M e.1 e.2).Perm (e :: M):=by
    have:=tf M e.1 e.2
    rwa [u9 (h0 e (by simp))] at this
   show (tZ (vS M e.1 e.2) r).Perm _
   rw [h1]
   refine (EF r (kO M e.1 e.2) (fun x hx=>h x (by simp [hx])) hc.2 (fun x hx=>?_)).trans ?_
   ·rw [ti,if_neg (hc.1 x hx)]
    exact h0 x (by simp [hx])
   ·exact (h2.append_left r).trans List.perm_middle
def aP (l:List aM):TM:=l.map (fun x=>((⟨x.an,x.bT⟩:aj),x.mS))
theorem Ik (l:List aM) (hl:l.length≤1000):pk l=some (tZ [] (aP l)):=by
 unfold pk x2
 rw [eV l (fun (s:TM) (i:Int)=>(s,i)) (fun x=>ie l x.1 x.2) (fun M x=>vS M ⟨x.an,x.bT⟩ x.mS) (fun _ _=>True) (fun s=>some s) ?_ ?_ [] trivial]
 ·unfold tZ aP
  rw [List.foldl_map]
 ·intro s i x g0 g1 hi _
  show ie l s i=_∧_
  unfold ie
  rw [if_pos g1,hi]
  simp only [Option.bind_some]
  unfold kK
  simp only [Option.bind_some]
  rw [show cr (i+1)=i+1 from bh (by omega) (by omega)]
  exact ⟨rfl,trivial⟩
 ·intro s _
  show ie l s (l.length:Int)=_
  unfold ie
  rw [if_neg (by omega)]
def Ni (o:bu) (e:aj×Int):TM:=(wk o e.1.cu).map (fun t=>((⟨t,e.1.cZ⟩:aj),e.2))
section
variable {v:aC} {o:bu} (hv:oU v o) (hb:pq o)
include hv hb
theorem Rb (e:aj×Int) (us:List al) (hu:us.length≤100000) (T:TM):mw e us T 0=some (.inl (tZ T (us.map (fun t=>((⟨t,e.1.cZ⟩:aj),e.2))))):=by
 unfold mw
 rw [eV us (fun (s:TM) (i:Int)=>(s,i)) (fun x=>cW e us x.1 x.2) (fun M t=>vS M ⟨t,e.1.cZ⟩ e.2) (fun _ _=>True) (fun s=>some (.inl s)) ?_ ?_ T trivial]
 ·unfold tZ
  rw [List.foldl_map]
 ·intro s i x g0 g1 hi _
  show cW e us s i=_∧_
  unfold cW
  rw [if_pos g1,hi]
  simp only [Option.bind_some]
  unfold kK
  simp only [Option.bind_some]
  rw [show cr (i+1)=i+1 from bh (by omega) (by omega)]
  exact ⟨rfl,trivial⟩
 ·intro s _
  show cW e us s (us.length:Int)=_
  unfold cW
  rw [if_neg (by omega)]
theorem Rc (e:aj×Int) (T:TM):cX v e T=some (.inl (tZ T (Ni o e))):=by
 have ht:=hb.Hf
 have:=xk o e.1.cu
 unfold cX
 rw [zm hv (by omega)]
 simp only [Option.bind_some]
 exact Rb hv hb e _ (by omega) T
theorem G6:∀ (p:TM) (T:TM),va (fun e (x:TM)=>cX v e x) (fun x:TM=>fB x) p T=some (tZ T (p.flatMap (Ni o)))
 | [],T=>rfl
 | e :: p,T=>by
   show ((cX v e T).bind (after (va (fun e (x:TM)=>cX v e x) (fun x:TM=>fB x) p)))=_
   rw [Rc hv hb]
   simp only [Option.bind_some,dh]
   rw [G6 p,List.flatMap_cons,MR]
theorem Kx (M:TM):eP v M=some (tZ [] (M.flatMap (Ni o))):=by
 unfold eP qV
 refine LG (fun p hp=>?_)
 rw [G6 hv hb,EE (hp.flatMap_right (Ni o)) SM.nil]
end
theorem Xt {o:bu} {least:Int} {p:Option (al×al)} {x:al×al×Int} (h:eF o least p x=0):(∃ r,up o.ak x.1=some r)∧nH x.2.1=true∧(least≤x.2.2∧x.2.2≤1000000000)∧∀ y,p=some y→tC y (x.1,x.2.1) < 0:=by
 unfold eF at h
 split at h
 ·omega
 ·rename_i h1
  split at h
  ·omega
  ·rename_i h2
   split at h
   ·omega
   ·rename_i h3
    refine ⟨?_,by simpa using h2,Classical.not_not.1 h3,fun y hy=>?_⟩
    ·cases hu:up o.ak x.1 with
     | none=>exact absurd hu h1
     | some r=>exact ⟨r,rfl⟩
    ·subst hy
     simp only at h
     split at h
     ·omega
     ·have:=OO.neg (x.1,x.2.1) y
      omega
theorem Re {o:bu} {least:Int}:∀ (l:List (al×al×Int)) (p:Option (al×al)),qF o least p l=0→
 (∀ x∈l,(∃ r,up o.ak x.1=some r)∧nH x.2.1=true∧least≤x.2.2∧x.2.2≤1000000000)∧l.Pairwise (fun a b=>tC (a.1,a.2.1) (b.1,b.2.1) < 0)∧∀ y,p=some y→∀ x∈l,tC y (x.1,x.2.1) < 0
 | [],p,_=>⟨fun x h=>by (cases h),List.Pairwise.nil,fun y _ x h=>by (cases h)⟩
 | x :: r,p,h=>by
   unfold qF at h
   split at h
   ·rename_i c;exact absurd h c
   ·rename_i c
    obtain ⟨e1,e2,e3,e4⟩:=Xt (Classical.not_not.1 c)
    obtain ⟨i1,i2,i3⟩:=Re r _ h
    refine ⟨fun z hz=>?_,List.pairwise_cons.2 ⟨fun z hz=>i3 _ rfl z hz,i2⟩,fun y hy z hz=>?_⟩
    ·rcases List.mem_cons.1 hz with k | k
     ·subst k;exact ⟨e1,e2,e3⟩
     ·exact i1 z k
    ·rcases List.mem_cons.1 hz with k | k
     ·subst k;exact e4 y hy
     ·exact OO.tr (e4 y hy) (i3 _ rfl z k)
structure Hg (o:bu) (l:List aM):Prop where
 len:l.length≤9
 ok:∀ x∈l,(∃ r,up o.ak x.an=some r)∧1≤x.mS∧x.mS≤1000000000
 nd:(aP l).Pairwise (fun a b=>a.1≠b.1)
theorem Hg.of {o:bu} {l:List aM} (hl:l.length≤9) (h:qF o 1 none (l.map at_)=0):Hg o l:=by
 obtain ⟨h1,h2,_⟩:=Re _ _ h
 refine ⟨hl,fun x hx=>?_,?_⟩
 ·obtain ⟨a,_,b⟩:=h1 (at_ x) (List.mem_map.2 ⟨x,hx,rfl⟩)
  exact ⟨a,b⟩
 ·unfold aP
  rw [List.pairwise_map] at h2 ⊢
  refine h2.imp (fun {a b} h e=>?_)
  have e1:a.an=b.an:=congrArg aj.cu e
  have e2:a.bT=b.bT:=congrArg aj.cZ e
  unfold at_ at h
  simp only at h
  rw [e1,e2] at h
  have:=OO.zero (b.an,b.bT)
  omega
def zq (o:bu) (t w:al):List aM→Int
 | []=>0
 | x :: r=>(if x.bT=w∧t∈wk o x.an then x.mS else 0)+zq o t w r
theorem MS (o:bu) (t w:al) (x:aM) (r:List aM):zq o t w (x :: r)=(if x.bT=w∧t∈wk o x.an then x.mS else 0)+zq o t w r:=rfl
theorem MT {o:bu} (t w:al):∀ (l:List aM),(∀ x∈l,1≤x.mS∧x.mS≤1000000000)→0≤zq o t w l∧zq o t w l≤1000000000 * l.length
 | [],_=>by simp [zq]
 | x :: r,h=>by
   have h1:=h x (by simp)
   have h2:=MT (o:=o) t w r (fun y hy=>h y (by simp [hy]))
   rw [MS,List.length_cons]
   split<;>omega
theorem Jh (t w w':al) (a:Int):∀ us:List al,us.Nodup→ub ⟨t,w⟩ (us.map (fun u=>((⟨u,w'⟩:aj),a)))=if w'=w∧t∈us then a else 0
 | [],_=>by simp [ub]
 | u :: us,h=>by
   have hc:=List.nodup_cons.1 h
   rw [List.map_cons,vT,Jh t w w' a us hc.2]
   by_cases e:u=t
   ·subst e
    by_cases f:w'=w
    ·subst f
     rw [if_pos rfl,if_neg (fun k=>hc.1 k.2),if_pos ⟨rfl,by simp⟩];omega
    ·rw [if_neg (fun k=>f (aj.mk.inj k).2),if_neg (fun k=>f k.1),if_neg (fun k=>f k.1)];omega
   ·rw [if_neg (fun k=>e (aj.mk.inj k).1)]
    by_cases f:w'=w∧t∈us
    ·rw [if_pos f,if_pos ⟨f.1,by simp [f.2]⟩];omega
    ·rw [if_neg f,if_neg (fun k=>f ⟨k.1,by
      rcases List.mem_cons.1 k.2 with g | g
      ·exact absurd g.symm e
      ·exact g⟩)];omega
theorem CX {o:bu} (hn:∀ q,(wk o q).Nodup) (t w:al):∀ l:List aM,ub ⟨t,w⟩ ((aP l).flatMap (Ni o))=zq o t w l
 | []=>rfl
 | x :: r=>by
   show ub ⟨t,w⟩ (Ni o ((⟨x.an,x.bT⟩:aj),x.mS)++(aP r).flatMap (Ni o))=_
   rw [G5,CX hn t w r,MS]
   unfold Ni
   rw [Jh t w x.bT x.mS _ (hn _)]
theorem yA {v:aC} {o:bu} (hv:oU v o) (hb:pq o) (hn:∀ q,(wk o q).Nodup) {l:List aM} (hl:Hg o l):
 ∃ T,eP v (tZ [] (aP l))=some T∧∀ t w,(bM T ⟨t,w⟩).getD 0=zq o t w l:=by
 have hle:=hl.len
 refine ⟨_,Kx hv hb _,fun t w=>?_⟩
 have hp:(tZ [] (aP l)).Perm (aP l):=by
  have:=EF (aP l) [] (fun e he=>by
   unfold aP at he
   obtain ⟨x,hx,rfl⟩:=List.mem_map.1 he
   have:=(hl.ok x hx).2
   dsimp only;omega) hl.nd (fun e _=>rfl)
  simpa using this
 rw [EE (hp.flatMap_right (Ni o)) SM.nil]
 have Qg:=MT (o:=o) t w l (fun x hx=>(hl.ok x hx).2)
 rw [CW ⟨t,w⟩ _ [] (fun e he=>by
  obtain ⟨e',Rn,h2⟩:=List.mem_flatMap.1 he
  unfold aP at Rn
  obtain ⟨x,hx,rfl⟩:=List.mem_map.1 Rn
  unfold Ni at h2
  obtain ⟨u,_,rfl⟩:=List.mem_map.1 h2
  have:=(hl.ok x hx).2
  dsimp only;omega) (by simp [bM]) (by rw [CX hn];simp only [bM,Option.getD_none];omega),CX hn]
 simp [bM]
theorem yB {o:bu} (hb:pq o) (hr:G3 o) {l:List aM} (hl:Hg o l) (t w:al):rl o l t w=some (zq o t w l):=by
 have hle:=hl.len
 have ht:=hb.Hf
 unfold rl y7
 have fold:∀ (r:List aM) (n:Int),r.foldl (fun (n:Int) (x:aM)=>n+(if x.bT=w∧t∈wk o x.an then x.mS else 0)) n=n+zq o t w r:=by
  intro r
  induction r with
  | nil=>intro n;simp [zq]
  | cons x r ih=>intro n;rw [List.foldl_cons,ih,MS];omega
 rw [eV l (fun (s:Int) (i:Int)=>(s,i)) (fun x=>iY o l t w x.1 x.2) (fun n x=>n+(if x.bT=w∧t∈wk o x.an then x.mS else 0)) (fun i s=>0≤s∧s≤1000000000 * i) (fun s=>some s) ?_ ?_ 0 ⟨by omega,by omega⟩,fold,Int.zero_add]
 ·intro s i x g0 g1 hi hI
  show iY o l t w s i=_∧_
  obtain ⟨hu,hm⟩:=hl.ok x (ik hi)
  unfold iY
  rw [if_pos g1,hi]
  simp only [Option.bind_some]
  have j:∀ c:Bool,c=decide (x.bT=w∧t∈wk o x.an)→nU s i x c=some (.inl (s+(if x.bT=w∧t∈wk o x.an then x.mS else 0),i+1)):=by
   intro c hc
   unfold nU qy
   rw [hc,show cr (i+1)=i+1 from bh (by omega) (by omega)]
   by_cases d:x.bT=w∧t∈wk o x.an
   ·rw [if_pos (decide_eq_true d),if_pos d,bh (by omega) (by omega)]
   ·rw [if_neg (by simpa using d),if_neg d,Int.add_zero]
  refine ⟨?_,by split<;>omega,by split<;>omega⟩
  by_cases d:x.bT=w
  ·rw [if_pos d,MP hb hr _ hu]
   simp only [Option.bind_some]
   rw [rz _ _ (by have:=xk o x.an;omega)]
   simp only [Option.bind_some]
   exact j _ (by simp [d])
  ·rw [if_neg d]
   exact j _ (by simp [d])
 ·intro s _
  show iY o l t w s (l.length:Int)=_
  unfold iY
  rw [if_neg (by omega)]
def mF (o:bu) (q:List aH) (l:List aM):Int:=AS [qF o 0 none (q.map qt),qF o 1 none (l.map at_)]
theorem xJ {o:bu} {v:aC} (hv:oU v o) (hc:cT o=some (some v,0)) (q:List aH) (hq:q.length≤500) (l:List aM) (hl:l.length≤500):eZ o q l=some (if mF o q l≠0 then (none,mF o q l) else (some v,0)):=by
 unfold eZ
 rw [hc]
 simp only [Option.bind_some,fc]
 rw [if_neg (fun k=>k rfl),ED hv q hq]
 simp only [Option.bind_some]
 rw [CV hv l hl]
 simp only [Option.bind_some]
 rw [Jd]
 simp only [Option.bind_some]
 unfold mF
 split<;>rfl
def Il (o:bu) (t w:al):Int:=if up o.ak t=none then 8 else if nH w=false then 5 else 0
theorem G7 {o:bu} {v:aC} (hv:oU v o) (t w:al):fk v t w=some (Il o t w):=by
 unfold fk Il
 rw [xj hv]
 simp only [Option.bind_some]
 cases hu:up o.ak t with
 | none=>rfl
 | some r=>
   rw [if_neg (by simp),if_neg (show ¬ (some r=none) by simp),vO]
   simp only [Option.bind_some]
   cases nH w<;>rfl
section
variable {o:bu} {v:aC} (hv:oU v o) (hb:pq o) (hr:G3 o) {l:List aM} (hl:Hg o l)
include hv hb hr hl
theorem MU (hc:cT o=some (some v,0)) (h0:qF o 1 none (l.map at_)=0) (t w:al):iX o l t w=some (if Il o t w≠0 then (0,Il o t w) else (zq o t w l,0)):=by
 have hle:=hl.len
 obtain ⟨T,e1,e2⟩:=yA hv hb hr.nd hl
 unfold iX
 rw [xJ hv hc [] (by simp) l (by omega)]
 have hm:mF o [] l=0:=by unfold mF;rw [h0];rfl
 rw [if_neg (fun k=>k hm)]
 simp only [Option.bind_some,fc]
 rw [if_neg (fun k=>k rfl),G7 hv]
 simp only [Option.bind_some]
 split
 ·rfl
 ·rw [Ik l (by omega)]
  simp only [Option.bind_some]
  rw [e1]
  simp only [Option.bind_some]
  unfold kK
  rw [e2]
  rfl
def FH (o:bu) (q:List aH) (l:List aM):List aH:=q.filter (fun x=>decide (x.kU < zq o x.an x.bT l))
theorem Fy (q:List aH) (hq:q.length≤500):fY v q l=some (FH o q l):=by
 have hle:=hl.len
 obtain ⟨T,e1,e2⟩:=yA hv hb hr.nd hl
 unfold fY
 rw [Ik l (by omega)]
 simp only [Option.bind_some]
 rw [e1]
 simp only [Option.bind_some]
 unfold sP
 rw [eV q (fun (s:List aH) (i:Int)=>(s,i)) (fun x=>dA q T x.1 x.2) (fun acc x=>if decide (x.kU < zq o x.an x.bT l)=true then acc++[x] else acc) (fun i s=>(s.length:Int)≤i) (fun s=>some s) ?_ ?_ [] (by simp),foldl_filter,List.nil_append]
 ·rfl
 ·intro s i x g0 g1 hi hI
  show dA q T s i=_∧_
  unfold dA
  rw [if_pos g1,hi]
  simp only [Option.bind_some]
  unfold kK
  simp only [Option.bind_some]
  rw [e2]
  unfold iR
  rw [show cr (i+1)=i+1 from bh (by omega) (by omega)]
  by_cases c:x.kU < zq o x.an x.bT l
  ·rw [if_pos c,if_pos (decide_eq_true c),mx (by simp;omega)]
   exact ⟨rfl,by simp;omega⟩
  ·rw [if_neg c,if_neg (by simpa using c)]
   exact ⟨rfl,by omega⟩
 ·intro s hI
  show dA q T s (q.length:Int)=_
  unfold dA
  rw [if_neg (by omega)]
theorem Aq (q:List aH) (hq:q.length≤500):tO o q l=some (FH o q l):=by
 unfold tO ig
 rw [mx (by simp;omega)]
 simp only [Option.bind_some,List.nil_append]
 rw [show fu q (fun y0=>pA y0 o l)=some (q.filter (fun x=>!(decide (zq o x.an x.bT l≤x.kU)))) from Ow (⟨[],[],0⟩:aH) _ (fun x=>decide (zq o x.an x.bT l≤x.kU)) _ (by omega) (fun x _=>by
  show pA x o l=_
  unfold pA
  rw [yB hb hr hl]
  rfl)]
 simp only [Option.bind_some,Option.some.injEq]
 unfold FH
 refine List.filter_congr (fun x _=>?_)
 rw [← decide_not,decide_eq_decide]
 omega
end
theorem Fz {α:Type} (p:α→Prop) [DecidablePred p] (g:α→Int) (z:Int):∀ (xs:List α) (n:Int),z≤xs.foldl (fun n x=>if p x then min n (g x) else n) n↔z≤n∧∀ x∈xs,p x→z≤g x
 | [],n=>by simp
 | x :: r,n=>by
   rw [List.foldl_cons,Fz p g z r]
   simp only [List.mem_cons,forall_eq_or_imp]
   split
   ·rename_i h
    constructor
    ·rintro ⟨h1,h2⟩;exact ⟨by omega,fun _=>by omega,h2⟩
    ·rintro ⟨h1,h2,h3⟩;have:=h2 h;exact ⟨by omega,h3⟩
   ·rename_i h
    exact ⟨fun ⟨h1,h2⟩=>⟨h1,fun k=>absurd k h,h2⟩,fun ⟨h1,_,h3⟩=>⟨h1,h3⟩⟩
theorem G8 {α β:Type} (F:Int→β→Int) (p:β→α→Prop) (g:β→α→Int) (xs:List α) (z:Int) (hF:∀ n t,z≤F n t↔z≤n∧∀ x∈xs,p t x→z≤g t x):∀ (ts:List β) (n:Int),z≤ts.foldl F n↔z≤n∧∀ t∈ts,∀ x∈xs,p t x→z≤g t x
 | [],n=>by simp
 | t :: r,n=>by
   rw [List.foldl_cons,G8 F p g xs z hF r,hF]
   simp only [List.mem_cons,forall_eq_or_imp]
   exact ⟨fun ⟨⟨h1,h2⟩,h3⟩=>⟨h1,h2,h3⟩,fun ⟨h1,h2,h3⟩=>⟨⟨h1,h2⟩,h3⟩⟩
theorem G9 (k:aj):∀ P:TM,(∀ e∈P,0≤e.2∧e.2≤1000000000)→P.Pairwise (fun a b=>a.1≠b.1)→0≤ub k P∧ub k P≤1000000000∧((∀ e∈P,e.1≠k)→ub k P=0)
 | [],_,_=>by simp [ub]
 | e :: r,h,hn=>by
   have hc:=List.pairwise_cons.1 hn
   obtain ⟨i1,i2,i3⟩:=G9 k r (fun x hx=>h x (by simp [hx])) hc.2
   have he:=h e (by simp)
   rw [vT]
   by_cases c:e.1=k
   ·have:=i3 (fun x hx=>by rw [← c];exact (hc.1 x hx).symm)
    rw [if_pos c,this]
    exact ⟨by omega,by omega,fun g=>absurd c (g e (by simp))⟩
   ·rw [if_neg c]
    exact ⟨by omega,by omega,fun g=>by rw [i3 (fun x hx=>g x (by simp [hx]))];omega⟩
end Go.Beacon
