/- Plain facts on what the functions compute. No program in sight. -/
import Derived.Test.YthfphcbipahkmaaGreatDoorOfmP
import Derived.Test.YthfphcbipahkmaaGreatDoorPlBA
import Derived.Lib.AtoiTie
import Derived.Lib.AtoiBound
import Derived.Lib.ItoaLen
import Derived.Laws.Bits64
open BitVec renaming ofInt→e6
open Bool renaming and_eq_true→ac,false_eq_true→ai,eq_iff_iff→al,not_true→ap,true_eq_false→cc,false_ne_true→ce,or_eq_true→cp,and_true→dy,true_and→dQ,not_eq_true→f0,false_or→gf,not_eq_true'→gt,not_eq_false→gv,and_eq_false_iff→g6,false_and→g8
open Classical renaming not_not→eL
open Int renaming toNat_natCast→bi,le_refl→d8,not_le→eX,tmod_lt_of_pos→fv
open List renaming mem_cons→ad,foldl_cons→af,replicate→ag,foldl_append→aw,filter_cons→aI,mem_map→aK,drop_of_length_le→bk,foldl_nil→bm,drop_zero→bo,map_cons→bp,range→bt,mem_filter→bv,mem_of_getElem?→bw,filter_append→bY,pairwise_cons→cb,length_filter_le→cf,getD_eq_getElem?_getD→ci,all_cons→cm,mem_cons_of_mem→cn,getElem?_eq_some_iff→cs,length_cons→cv,length_append→cy,append_nil→cz,filter_congr→cP,isPrefixOf→cQ,take_add_one→cW,take_of_length_le→cX,mem_cons_self→c7,getElem?_eq_getElem→c8,getElem?_of_mem→da,length_take→dg,filter_eq_nil_iff→dl,any_eq_true→ds,append_assoc→du,sum_cons→d2,mem_append→d3,getElem?_map→d4,getLast?_concat→d5,length_singleton→d6,take_append_drop→d7,mem_of_find?_eq_some→eg,find?_cons→el,find?_eq_none→em,length_pos_iff→eq,all_eq_true→es,cons_append→eH,map_append→eY,mem_singleton→e5,length_map→e9,Perm.refl→fd,Pairwise.drop→fg,pairwise_map→fi,any_eq_false→fn,mem_range→fr,mem_append_left→fs,take_sublist→ft,not_mem_nil→fz,all_append→ge,take_succ_eq_append_getElem→gk,map_nil→gs,getElem?_set→gy,Pairwise.nil→g7,flatMap_cons→g9,Perm.append_left→hG,Perm.append_right→hJ,Pairwise.filter→hL,filter_nil→hM,Sublist.refl→hO,range_succ→hU,pairwise_append→hV,getLast?_eq_getElem?→hY,getElem?_eq_none_iff→hZ,find?_some→h7,take_zero→h8,length_nil→h9
open Nat renaming zero_add→cS,lt_or_ge→dk,le_refl→dR,strongRecOn→eC,add_comm→f4
open Option renaming bind_some→aa,some.inj→be,some.injEq→d1,map_eq_some_iff→d9,map→eB,getD_some→e8,map_eq_none_iff→fu
open Prod renaming fst→c6
open UInt8 renaming ofNat→cl,toNat_ofNat'→d0,toNat_inj→gc
set_option linter.unusedVariables false
set_option linter.unusedSimpArgs false
namespace Go.Beacon
open Go Go.Eng
abbrev AS:=ah
def uE (s:AS) (k:Int):Prop:=0≤s.at_∧s.at_+k≤4611686018427387904
theorem uE.less {s:AS} {k k':Int} (h:uE s k) (hk:k'≤k):uE s k':=⟨h.1,by have:=h.2;omega⟩
def sE {α:Type} (m:Option (α×AS)) (k:Int) (P:α→Prop):Prop:=∃ v s',m=some (v,s')∧P v∧uE s' k
theorem sE.bind {α β:Type} {m:Option (α×AS)} {k k':Int} {P:α→Prop} {Q:β→Prop} {f:α×AS→Option (β×AS)} (h:sE m k P) (hf:∀ v s',P v→uE s' k→sE (f (v,s')) k' Q):sE (m.bind f) k' Q:=by
 obtain ⟨v,s',rfl,h1,h2⟩:=h
 exact hf v s' h1 h2
theorem sE.ret {α:Type} {v:α} {s:AS} {k:Int} {P:α→Prop} (h1:P v) (h2:uE s k):sE (some (v,s)) k P:=⟨v,s,rfl,h1,h2⟩
theorem Fg (x:Int) {n:Int} (h1:1≤n) (h2:n≤4611686018427387904):∃ v,Below x n=some v∧0≤v∧v < n:=by
 unfold Below y9
 rw [if_neg (by omega),Wj (by omega)]
 have a1:=Int.lt_tmod_of_pos x (show 0 < n by omega)
 have a2:=fv x (show 0 < n by omega)
 simp only [aa]
 split
 ·exact ⟨_,rfl,by rw [bl]<;>omega,by rw [bl]<;>omega⟩
 ·exact ⟨_,rfl,by omega,by omega⟩
theorem BN {s:AS} {n k:Int} (hs:uE s (k+1)) (h1:1≤n) (h2:n≤4611686018427387904) (hk:0≤k):sE (ez s n) k (fun v=>0≤v∧v < n):=by
 obtain ⟨a1,a2⟩:=hs
 have e1:bB (s.at_+1)=s.at_+1:=by rw [bl]<;>omega
 have e2:bB (s.at_+1 - 1)=s.at_:=by rw [bl]<;>omega
 unfold ez
 split
 ·obtain ⟨v,hv,h3,h4⟩:=Fg (bB (bB (s.at_+1) * 7919)) h1 h2
  rw [hv]
  exact sE.ret ⟨h3,h4⟩ ⟨by show 0≤bB (s.at_+1);omega,by show bB (s.at_+1)+k≤_;omega⟩
 ·rename_i hl
  have FI:(0:Int) < s.L.length:=by omega
  rw [e1,e2,TC FI a1,Wk (by omega)]
  simp only [aa]
  obtain ⟨x,hx,_,_⟩:=ff s.L (i:=s.at_ % s.L.length) (Int.emod_nonneg _ (by omega)) (Int.emod_lt_of_pos _ FI)
  rw [hx]
  simp only [aa]
  obtain ⟨u,hu,_,_⟩:=Fg x (n:=1073741824) (by omega) (by omega)
  rw [hu]
  simp only [aa]
  obtain ⟨v,hv,h3,h4⟩:=Fg (bB (u+bB (bB (s.at_.tdiv s.L.length) * bB (7919+s.at_ % s.L.length)))) h1 h2
  rw [hv]
  exact sE.ret ⟨h3,h4⟩ ⟨by simp only;omega,by simp only;omega⟩
theorem M3 {s:AS} {l:List Int} {k:Int} (hs:uE s (k+1)) (h1:l≠[]) (h2:l.length≤1000) (hk:0≤k):sE (cA s l) k (fun v=>v∈l):=by
 unfold cA
 have hl:0 < l.length:=eq.2 h1
 refine sE.bind (BN hs (by omega) (by omega) hk) (fun v s' hv C9=>?_)
 obtain ⟨x,hx,hm,_⟩:=ff l hv.1 hv.2
 simp only [hx,aa]
 exact sE.ret hm C9
theorem JZ {s:AS} {a b k:Int} (hs:uE s (k+1)) (DL:a≤b) (ha:-1152921504606846976≤a) (hb:b≤1152921504606846976) (hk:0≤k):sE (jr s a b) k (fun v=>a≤v∧v≤b):=by
 unfold jr
 have e1:bB (b - a)=b - a:=by rw [bl]<;>omega
 have e2:bB (b - a+1)=b - a+1:=by rw [bl]<;>omega
 rw [if_neg (by omega),e1,e2]
 refine sE.bind (BN hs (by omega) (by omega) hk) (fun v s' hv C9=>?_)
 refine sE.ret ?_ C9
 simp only
 rw [bl]<;>omega
theorem M4 {s:AS} {n k:Int} (hs:uE s (k+1)) (h1:1≤n) (h2:n≤4611686018427387904) (hk:0≤k):sE (dZ s n) k (fun _=>True):=by
 unfold dZ
 exact sE.bind (BN hs h1 h2 hk) (fun v s' hv C9=>sE.ret trivial C9)
theorem M5 {l:List Int} {v lo hi:Int} (h:v∈l) (hl:l.all (fun x=>decide (lo≤x∧x≤hi))=true):lo≤v∧v≤hi:=by
 rw [es] at hl
 simpa using hl v h
theorem TK {s:AS} {l:List bn} {k:Int} (hs:uE s (k+1)) (h1:l≠[]) (h2:l.length≤1000) (hk:0≤k):sE (iI s l) k (fun v=>v∈l):=by
 unfold iI
 have hl:0 < l.length:=eq.2 h1
 refine sE.bind (BN hs (by omega) (by omega) hk) (fun v s' hv C9=>?_)
 obtain ⟨x,hx,hm,_⟩:=ff l hv.1 hv.2
 simp only [hx,aa]
 exact sE.ret hm C9
theorem Wp {s:AS} {a b k:Int} (hs:uE s (k+2)) (DL:a≤b) (ha:-1099511627776≤a) (hb:b≤1099511627776) (hk:0≤k):sE (fc s a b) k (fun v=>-1099511627777≤v∧v≤1099511627777):=by
 unfold fc
 refine sE.bind (M4 (k:=k+1) (hs.less (by omega)) (by omega) (by omega) (by omega)) (fun v s' hv C9=>?_)
 simp only
 split
 ·refine sE.bind (M3 C9 (by simp) (by simp) hk) (fun v s' hv C9=>sE.ret ?_ C9)
  have e1:bB (a - 1)=a - 1:=by rw [bl]<;>omega
  have e2:bB (b+1)=b+1:=by rw [bl]<;>omega
  rw [e1,e2] at hv
  simp only [ad,fz,or_false] at hv
  simp only;omega
 ·refine sE.bind (JZ C9 DL (by omega) (by omega) hk) (fun v s' hv C9=>sE.ret ?_ C9)
  simp only;omega
theorem zp {s:AS} {n K:Int} (hs:uE s K) (hK:1≤K) (h1:1≤n) (h2:n≤4611686018427387904):sE (ez s n) (K - 1) (fun v=>0≤v∧v < n):=
 BN (hs.less (by omega)) h1 h2 (by omega)
theorem tu {s:AS} {n K:Int} (hs:uE s K) (hK:1≤K) (h1:1≤n) (h2:n≤4611686018427387904):sE (dZ s n) (K - 1) (fun _=>True):=
 M4 (hs.less (by omega)) h1 h2 (by omega)
theorem lQ {s:AS} {l:List Int} {K:Int} (hs:uE s K) (hK:1≤K) (h1:l≠[]) (h2:l.length≤1000):sE (cA s l) (K - 1) (fun v=>v∈l):=
 M3 (hs.less (by omega)) h1 h2 (by omega)
theorem BO {s:AS} {a b K:Int} (hs:uE s K) (hK:1≤K) (DL:a≤b) (ha:-1152921504606846976≤a) (hb:b≤1152921504606846976):sE (jr s a b) (K - 1) (fun v=>a≤v∧v≤b):=
 JZ (hs.less (by omega)) DL ha hb (by omega)
theorem AU {s:AS} {l:List bn} {K:Int} (hs:uE s K) (hK:1≤K) (h1:l≠[]) (h2:l.length≤1000):sE (iI s l) (K - 1) (fun v=>v∈l):=
 TK (hs.less (by omega)) h1 h2 (by omega)
theorem vv {s:AS} {a b K:Int} (hs:uE s K) (hK:2≤K) (DL:a≤b) (ha:-1099511627776≤a) (hb:b≤1099511627776):sE (fc s a b) (K - 2) (fun v=>-1099511627777≤v∧v≤1099511627777):=
 Wp (hs.less (by omega)) DL ha hb (by omega)
theorem wI (n lo hi:Int):gl n lo hi=(decide (n < lo)||decide (hi < n)):=rfl
theorem zq (n lo hi:Int):vK n lo hi=(decide (lo≤n)&&decide (n≤hi)):=rfl
def TL (n:Nat):Bool:=(decide (97≤n)&&decide (n≤122))||(decide (48≤n)&&decide (n≤57))||decide (n=45)||decide (n=95)
def ql:bn→Bool
 | []=>false
 | c :: r=>decide ((c :: r).length≤40)&&(decide (97≤c.toNat)&&decide (c.toNat≤122))&&(c :: r).all (fun c=>TL c.toNat)
theorem xo (c:UInt8) (r:bn):ql (c :: r)=(decide ((c :: r).length≤40)&&(decide (97≤c.toNat)&&decide (c.toNat≤122))&&(c :: r).all (fun c=>TL c.toNat)):=rfl
theorem QW (s:bn) (hl:s.length≤40):zb s 0=some (s.all (fun c=>TL c.toNat)):=by
 unfold zb
 rw [Cs s (fun x:Int=>pt s x) (fun c=>if TL c.toNat=true then none else some false) true (by omega),AO]
 ·intro i c h0 h1 hc
  have hB:(if (97:Int)≤(c.toNat:Int) then if (c.toNat:Int)≤(122:Int) then !true else if (48:Int)≤(c.toNat:Int) then if (c.toNat:Int)≤(57:Int) then !true else if (c.toNat:Int)=(45:Int) then !true else decide (¬ ((c.toNat:Int)=(95:Int))) else if (c.toNat:Int)=(45:Int) then !true else decide (¬ ((c.toNat:Int)=(95:Int))) else if (48:Int)≤(c.toNat:Int) then if (c.toNat:Int)≤(57:Int) then !true else if (c.toNat:Int)=(45:Int) then !true else decide (¬ ((c.toNat:Int)=(95:Int))) else if (c.toNat:Int)=(45:Int) then !true else decide (¬ ((c.toNat:Int)=(95:Int))))=!TL c.toNat:=by
   unfold TL
   rw [al]
   repeat' split
   all_goals simp
   all_goals omega
  rw [pt,if_pos h1,hc]
  simp only [aa]
  rw [hB]
  unfold vU
  rw [bl (by omega) (by omega)]
  cases TL c.toNat<;>rfl
 ·rw [pt,if_neg (by omega)];rfl
theorem Cy (s:bn):pz s=some (ql s):=by
 unfold pz pv
 cases s with
 | nil=>simp [ql]
 | cons c r=>
   rw [if_neg (by simp)]
   have hc:idx (c :: r) 0=some c:=rfl
   rw [hc]
   simp only [aa]
   by_cases hl:(c :: r).length≤40
   ·rw [if_neg (by omega),QW _ hl,xo]
    by_cases h1:(c.toNat:Int) < 97
    ·rw [if_pos h1]
     have:decide (97≤c.toNat)=false:=by simp;omega
     rw [this];simp
    ·rw [if_neg h1]
     have e1:decide (97≤c.toNat)=true:=by simp;omega
     by_cases h2:(122:Int) < c.toNat
     ·rw [if_pos (by simpa using h2)]
      have:decide (c.toNat≤122)=false:=by simp;omega
      rw [this];simp
     ·rw [if_neg (by simpa using h2)]
      have:decide (c.toNat≤122)=true:=by simp;omega
      rw [e1,this,decide_eq_true hl];simp
   ·rw [if_pos (by omega),xo,decide_eq_false hl];simp
theorem Ov:∀ n:Fin 256,decide (cl n.val∈([97,98,99,100,101,102,103,104,105,106,107,108,109,110,111,112,113,114,115,116,117,118,119,120,121,122,48,49,50,51,52,53,54,55,56,57,45,95]:List UInt8))=TL n.val:=by decide+kernel
theorem TN:∀ n:Fin 256,decide (cl n.val∈([97,98,99,100,101,102,103,104,105,106,107,108,109,110,111,112,113,114,115,116,117,118,119,120,121,122]:List UInt8))=(decide (97≤n.val)&&decide (n.val≤122)):=by decide+kernel
theorem QX {p:UInt8→Bool} {q:Nat→Bool} (h:∀ n:Fin 256,p (cl n.val)=q n.val) (c:UInt8):p c=q c.toNat:=by
 have:=h ⟨c.toNat,c.toNat_lt⟩
 simpa using this
theorem M6 (s chars:bn) (hl:(s.length:Int)≤4611686018427387904):Cm s chars=some (s.all (fun c=>decide (c∈chars))):=by
 unfold Cm GP
 rw [Cs s (fun x:Int=>sX s chars x) (fun c=>if decide (c∈chars)=true then none else some false) true hl,AO]
 ·intro i c h0 h1 hc
  rw [sX,if_pos h1,hc]
  simp only [aa,AH,abV]
  rw [bl (by omega) (by omega)]
  by_cases hm:c∈chars
  ·rw [if_neg (fun h=>(tt _ _).1 h hm)];simp [hm]
  ·rw [if_pos ((tt _ _).2 hm)];simp [hm]
 ·rw [sX,if_neg (by omega)];rfl
theorem DU (s:bn):Ak s=some (ql s):=by
 unfold Ak w7
 rw [zq]
 cases s with
 | nil=>rfl
 | cons c r=>
   have hs:A5 (c :: r) 0 1=some [c]:=by rw [HZ (by omega) (by omega) (by simp;omega)];simp
   rw [hs]
   simp only [aa]
   by_cases hl:(c :: r).length≤40
   ·rw [if_pos (by simp;simp at hl;omega),M6 _ _ (by simp)]
    simp only [aa,cm,List.all_nil,dy]
    rw [M6 _ _ (by omega)]
    simp only [aa]
    rw [QX (p:=fun c=>decide (c∈([97,98,99,100,101,102,103,104,105,106,107,108,109,110,111,112,113,114,115,116,117,118,119,120,121,122]:List UInt8))) (q:=fun n=>decide (97≤n)&&decide (n≤122)) TN c]
    have e:(c :: r).all (fun c=>decide (c∈([97,98,99,100,101,102,103,104,105,106,107,108,109,110,111,112,113,114,115,116,117,118,119,120,121,122,48,49,50,51,52,53,54,55,56,57,45,95]:List UInt8)))=(c :: r).all (fun c=>TL c.toNat):=by
     congr 1;funext c
     exact QX (p:=fun c=>decide (c∈([97,98,99,100,101,102,103,104,105,106,107,108,109,110,111,112,113,114,115,116,117,118,119,120,121,122,48,49,50,51,52,53,54,55,56,57,45,95]:List UInt8))) Ov c
    rw [e,xo,decide_eq_true hl,dQ]
    split
    ·rename_i h;rw [h];simp
    ·rename_i h
     rw [f0] at h
     rw [h];simp
   ·rw [if_neg (by simp;simp at hl;omega),xo,decide_eq_false hl];rfl
theorem Fh (a b:Int):er a b=- er b a:=by
 unfold er
 repeat' split
 all_goals omega
theorem jK (a b:Int):cmp_Compare_int a b=er a b:=by
 unfold cmp_Compare_int cmp_isNaN_int er;simp
theorem xp (n:Int):mh n=(decide (0≤n)&&decide (n≤345686399999)):=by
 unfold mh
 rw [wI,al]
 simp
theorem AW (n:Int):w8 n=(decide (0≤n)&&decide (n≤345686399999)):=rfl
theorem QY {S A:Type} (f:S→Option (S⊕A)) (m:S→Nat) (Inv:S→Prop) (R:A→Prop)
 (h:∀ s,Inv s→(∃ s',f s=some (.inl s')∧Inv s'∧m s' < m s)∨(∃ a,f s=some (.inr a)∧R a)):∀ s,Inv s→∃ a,iter f s=some a∧R a:=by
 have key:∀ (n:Nat) s,m s≤n→Inv s→∃ a,iter f s=some a∧R a:=by
  intro n
  induction n with
  | zero=>
    intro s hm hi
    rcases h s hi with ⟨s',_,_,h3⟩ | ⟨a,h1,h2⟩
    ·omega
    ·exact ⟨a,by rw [iter_eq,h1];rfl,h2⟩
  | succ n ih=>
    intro s hm hi
    rcases h s hi with ⟨s',h1,h2,h3⟩ | ⟨a,h1,h2⟩
    ·obtain ⟨a,h4,h5⟩:=ih s' (by omega) h2
     exact ⟨a,by rw [iter_eq,h1];simpa using h4,h5⟩
    ·exact ⟨a,by rw [iter_eq,h1];rfl,h2⟩
 exact fun s hi=>key (m s) s (dR _) hi
theorem TO {S A:Type} (f:S→Option (S⊕A)) (m:S→Nat) (Inv:S→Prop) (r:Option A)
 (h:∀ s,Inv s→(∃ s',f s=some (.inl s')∧Inv s'∧m s' < m s)∨f s=r.map .inr):∀ s,Inv s→iter f s=r:=by
 have key:∀ (n:Nat) s,m s≤n→Inv s→iter f s=r:=by
  intro n
  induction n with
  | zero=>
    intro s hm hi
    rcases h s hi with ⟨s',_,_,h3⟩ | h1
    ·omega
    ·rw [iter_eq,h1,aY]
  | succ n ih=>
    intro s hm hi
    rcases h s hi with ⟨s',h1,h2,h3⟩ | h1
    ·rw [iter_eq,h1];simpa using ih s' (by omega) h2
    ·rw [iter_eq,h1,aY]
 exact fun s hi=>key (m s) s (dR _) hi
theorem J0 (xs:List Int) (h:(xs.length:Int)≤4611686018427387904):vh xs=some (pL xs):=AP xs h
theorem Y0 (x y z:Int):pL [x,y,z]=if pL [x,y]≠0 then pL [x,y] else z:=by
 by_cases h1:x=0<;>by_cases h2:y=0<;>by_cases h3:z=0<;>simp [pL,h1,h2,h3]
theorem Wq (x y:Int):pL [x,y]=if x≠0 then x else y:=by
 by_cases h1:x=0<;>by_cases h2:y=0<;>simp [pL,h1,h2]
def Ok {α:Type} (m:Option α) (Q:α→Prop):Prop:=∃ r,m=some r∧Q r
theorem Ok.ret {α:Type} {v:α} {Q:α→Prop} (h:Q v):Ok (some v) Q:=⟨v,rfl,h⟩
theorem Ok.mono {α:Type} {m:Option α} {P Q:α→Prop} (h:Ok m P) (hp:∀ v,P v→Q v):Ok m Q:=by
 obtain ⟨r,h1,h2⟩:=h;exact ⟨r,h1,hp r h2⟩
theorem Ok.bind {α β:Type} {m:Option α} {f:α→Option β} {P:α→Prop} {Q:β→Prop} (h:Ok m P) (hf:∀ v,P v→Ok (f v) Q):Ok (m.bind f) Q:=by
 obtain ⟨r,rfl,h2⟩:=h;exact hf r h2
theorem Ok.is {α β:Type} {m:Option α} {v:α} {f:α→Option β} {Q:β→Prop} (h:m=some v) (hf:Ok (f v) Q):Ok (m.bind f) Q:=by rw [h];exact hf
theorem Ok.inr {α β:Type} {m:Option β} {Q:α⊕β→Prop} (h:Ok m (fun r=>Q (.inr r))):Ok (eB .inr m) Q:=by
 obtain ⟨r,rfl,h2⟩:=h;exact ⟨_,rfl,h2⟩
theorem Ok.gen {α β:Type} {m:Option (α×AS)} {k:Int} {P:α→Prop} {f:α×AS→Option β} {Q:β→Prop} (h:sE m k P) (hf:∀ v s',P v→uE s' k→Ok (f (v,s')) Q):Ok (m.bind f) Q:=by
 obtain ⟨v,s',rfl,h1,h2⟩:=h;exact hf v s' h1 h2
theorem sE.of {α:Type} {m:Option (α×AS)} {k:Int} {P:α→Prop} (h:Ok m (fun r=>P r.1∧uE r.2 k)):sE m k P:=by
 obtain ⟨⟨v,s⟩,h1,h2,h3⟩:=h;exact ⟨v,s,h1,h2,h3⟩
theorem Ok.idx {α β:Type} {xs:List α} {i:Int} {f:α→Option β} {Q:β→Prop} (h0:0≤i) (h1:i < xs.length) (hf:∀ x,idx xs i=some x→x∈xs→Ok (f x) Q):Ok ((idx xs i).bind f) Q:=by
 obtain ⟨x,hx,hm,_⟩:=ff xs h0 h1
 rw [hx];exact hf x hx hm
theorem Ok.app {α β:Type} {xs ys:List α} {f:List α→Option β} {Q:β→Prop} (h:xs.length+ys.length≤1000000000) (hf:Ok (f (xs++ys)) Q):Ok ((app xs ys).bind f) Q:=by
 rw [pJ h];exact hf
theorem QZ {a b:bn} (h:a.length+b.length≤9223372036854775807):N3 a b=some (a++b):=by unfold N3;rw [if_pos h]
abbrev O4 {S A:Type} (m:S→Nat) (Inv:S→Prop) (R:A→Prop) (s:S):S⊕A→Prop
 | .inl s'=>Inv s'∧m s' < m s
 | .inr a=>R a
theorem Ok.iter {S A:Type} {f:S→Option (S⊕A)} {R:A→Prop} (m:S→Nat) (Inv:S→Prop)
 (h:∀ s,Inv s→Ok (f s) (O4 m Inv R s)) (s:S) (hs:Inv s):Ok (iter f s) R:=by
 refine QY f m Inv R (fun s hi=>?_) s hs
 obtain ⟨r,h1,h2⟩:=h s hi
 cases r with
 | inl s'=>exact .inl ⟨s',h1,h2.1,h2.2⟩
 | inr a=>exact .inr ⟨a,h1,h2⟩
abbrev Rng {A:Type} (N:Nat) (R:A→Prop) (i:Int):Int⊕A→Prop
 | .inl j=>j=i+1∧i < N
 | .inr a=>R a
theorem Ok.range {A:Type} {f:Int→Option (Int⊕A)} {R:A→Prop} (N:Nat) (h:∀ i:Int,0≤i→i≤N→Ok (f i) (Rng N R i)):Ok (Eng.iter f 0) R:=by
 refine Ok.iter (fun i:Int=>N+1 - i.toNat) (fun i:Int=>0≤i∧i≤N) (fun i hi=>?_) 0 ⟨by omega,by omega⟩
 refine (h i hi.1 hi.2).mono (fun r hr=>?_)
 cases r with
 | inl j=>simp only [Rng,O4] at hr ⊢;omega
 | inr a=>exact hr
theorem zS {S A:Type} {f g:S→Option (S⊕A)} (h:∀ s,f s=g s) (s:S):iter f s=iter g s:=by rw [funext h]
theorem TP {α β:Type} (f:α→β) (xs:List α) (i:Int):idx (xs.map f) i=(idx xs i).map f:=by
 unfold idx;split
 ·simp
 ·rfl
def vw (c:UInt8):bn→List bn
 | []=>[[]]
 | b :: r=>if b=c then [] :: vw c r else match vw c r with
   | []=>[[b]]
   | h :: t=>(b :: h) :: t
theorem Ap (c:UInt8):∀ s,(vw c s).length≤s.length+1
 | []=>by simp [vw]
 | b :: r=>by
   have ih:=Ap c r
   unfold vw
   split
   ·simp;omega
   ·split
    ·simp
    ·rename_i h t e;rw [e] at ih;simp at ih ⊢;omega
theorem M7 (c:UInt8):∀ s,Lib.split s [c]=vw c s
 | []=>rfl
 | b :: r=>by
   have ih:=M7 c r
   unfold Lib.split at ih ⊢
   unfold vw
   by_cases hb:b=c
   ·subst hb
    have Mu:Lib.index (b :: r) [b]=0:=by rw [Lib.index];simp [cQ]
    rw [if_pos rfl,Lib.count_cons_eq,f4,Lib.splitK,Mu,← ih]
    simp
   ·rw [if_neg hb,Lib.count_cons_ne b c r hb,← ih]
    have hp:([c]:List UInt8).isPrefixOf (b :: r)=false:=by simp [cQ,Ne.symm hb]
    have Mu:Lib.index (b :: r) [c]=if Lib.index r [c]==-1 then -1 else Lib.index r [c]+1:=by rw [Lib.index,hp];simp
    by_cases hm:Lib.index r [c]=-1
    ·rw [Lib.count_miss hm];rfl
    ·have Uv:=Lib.index_ge r [c]
     obtain ⟨j,hj⟩:∃ j:Nat,Lib.index r [c]=j:=⟨(Lib.index r [c]).toNat,by omega⟩
     have abX:Lib.index (b :: r) [c]=((j+1:Nat):Int):=by rw [Mu,if_neg (fun e=>hm (beq_iff_eq.1 e)),hj];omega
     rw [Lib.count_hit (by simp) hj,f4]
     have n1:¬ ((((j+1:Nat):Int)==-1)=true):=fun h=>by have:=beq_iff_eq.1 h;omega
     have n2:¬ ((((j:Nat):Int)==-1)=true):=fun h=>by have:=beq_iff_eq.1 h;omega
     simp only [Lib.splitK,abX,hj,if_neg n1,if_neg n2]
     simp [List.take_succ_cons]
theorem Ow {s:bn} {c:UInt8} (h:s.length≤1000000000):EK s [c]=some (vw c s):=by
 unfold EK
 rw [if_pos ⟨by omega,by simp⟩]
 congr 1
 have h1:=Lib.splitB_data ⟨#[c]⟩ 0 (Lib.countB ⟨s.toArray⟩ ⟨#[c]⟩) ⟨s.toArray⟩
 rw [← M7]
 exact h1
def ph (c:UInt8):Bool:=decide (48≤c.toNat)&&decide (c.toNat≤57)
theorem Ox {c:UInt8} (h:ph c=true):Lib.digitVal c=some (c.toNat - 48):=by
 unfold ph at h;simp at h
 unfold Lib.digitVal;rw [if_pos h]
theorem DV {c:UInt8} {d:Nat} (h:Lib.digitVal c=some d):ph c=true∧d=c.toNat - 48∧cl (48+d)=c:=by
 obtain ⟨h1,h2,h3⟩:=Lib.digitVal_eq h
 refine ⟨by unfold ph;simp;omega,h3,?_⟩
 apply gc.1
 rw [d0]
 omega
theorem wo:∀ (l:bn) (acc:Nat),l.all ph=true→∃ m,Lib.decFrom acc l=some m
 | [],acc,_=>⟨acc,rfl⟩
 | b :: r,acc,h=>by
   simp only [cm,ac] at h
   obtain ⟨m,hm⟩:=wo r (acc * 10+(b.toNat - 48)) h.2
   exact ⟨m,by rw [Lib.decFrom,Ox h.1];exact hm⟩
theorem J6:∀ (l:bn) (acc m:Nat),0 < acc→Lib.decFrom acc l=some m→Lib.decDigits m=Lib.decDigits acc++l
 | [],acc,m,_,h=>by simp only [Lib.decFrom,d1] at h;simp [h]
 | b :: r,acc,m,ha,h=>by
   rw [Lib.decFrom] at h
   cases hd:Lib.digitVal b with
   | none=>rw [hd] at h;simp at h
   | some d=>
     rw [hd] at h
     obtain ⟨h1,h2,h3⟩:=Lib.digitVal_eq hd
     have ih:=J6 r (acc * 10+d) m (by omega) h
     rw [ih,Lib.decDigits,dif_neg (by omega)]
     rw [show (acc * 10+d) / 10=acc by omega,show (acc * 10+d) % 10=d by omega,(DV hd).2.2]
     simp
theorem J7 {m:Nat} (h:0 < m):∃ b r,Lib.decDigits m=b :: r∧b≠48:=by
 induction m using eC with
 | _ m ih=>
   rw [Lib.decDigits]
   split
   ·refine ⟨_,_,rfl,?_⟩
    intro e
    have:=congrArg UInt8.toNat e
    rw [d0] at this
    simp at this;omega
   ·obtain ⟨b,r,h1,h2⟩:=ih (m / 10) (by omega) (by omega)
    exact ⟨b,r++_,by rw [h1];rfl,h2⟩
theorem Fi:Lib.decDigits 0=[48]:=by rw [Lib.decDigits,dif_pos (by omega)];rfl
theorem Db {l:bn} {m:Nat} (h:Lib.decFrom 0 l=some m) (hl:l≠[]):Lib.decDigits m=l↔(l.head? ≠some 48∨l.length=1):=by
 cases l with
 | nil=>exact absurd rfl hl
 | cons b r=>
   rw [Lib.decFrom] at h
   cases hd:Lib.digitVal b with
   | none=>rw [hd] at h;simp at h
   | some d=>
     rw [hd] at h
     simp only [Nat.zero_mul,cS] at h
     obtain ⟨h1,h2,h3⟩:=Lib.digitVal_eq hd
     by_cases hz:d=0
     ·subst hz
      have hb:b=48:=by rw [← (DV hd).2.2];rfl
      subst hb
      constructor
      ·intro e
       right
       by_cases hm:m=0
       ·subst hm;rw [Fi] at e
        have:=congrArg List.length e;simpa using this.symm
       ·obtain ⟨b,r',h4,h5⟩:=J7 (m:=m) (by omega)
        rw [h4] at e;simp at e;exact absurd e.1 h5
      ·rintro (e | e)
       ·simp at e
       ·have:r=[]:=by cases r with
         | nil=>rfl
         | cons _ _=>simp at e
        subst this
        simp only [Lib.decFrom,d1] at h
        subst h;exact Fi
     ·have hg:=J6 r d m (by omega) h
      have hd1:Lib.decDigits d=[cl (48+d)]:=by rw [Lib.decDigits,dif_pos (by omega)]
      rw [hd1,(DV hd).2.2] at hg
      constructor
      ·intro _;left
       intro e;simp at e
       have e2:=(DV hd).2.1
       rw [e] at e2;simp at e2;omega
      ·intro _;exact hg
theorem BP (m:Nat):(Lib.decDigits m).all ph=true:=by
 induction m using eC with
 | _ m ih=>
   rw [Lib.decDigits]
   have key:∀ d,d < 10→ph (cl (48+d))=true:=by
    intro d hd
    unfold ph;rw [d0];simp;omega
   split
   ·rename_i h;rw [cm,key m h];rfl
   ·rw [ge,ih (m / 10) (by omega),cm,key (m % 10) (by omega)];rfl
theorem zr:∀ (l r:bn) (acc:Nat),Lib.decFrom acc (l++r)=(Lib.decFrom acc l).bind fun a=>Lib.decFrom a r
 | [],r,acc=>rfl
 | b :: l,r,acc=>by
   rw [eH,Lib.decFrom,Lib.decFrom]
   cases Lib.digitVal b with
   | none=>rfl
   | some d=>exact zr l r _
theorem Ia (m:Nat):Lib.decFrom 0 (Lib.decDigits m)=some m:=by
 induction m using eC with
 | _ m ih=>
   have key:∀ d,d < 10→Lib.digitVal (cl (48+d))=some d:=by
    intro d hd
    unfold Lib.digitVal;rw [d0]
    rw [if_pos (by omega)];congr 1;omega
   rw [Lib.decDigits]
   split
   ·rename_i h;rw [Lib.decFrom,key m h];simp [Lib.decFrom]
   ·rw [zr,ih (m / 10) (by omega)]
    simp only [aa]
    rw [Lib.decFrom,key (m % 10) (by omega)]
    simp only [Lib.decFrom]
    congr 1;omega
theorem LS (m:Nat):Lib.decDigits m≠[]:=by
 rw [Lib.decDigits];split
 ·simp
 ·simp
theorem Oy (n:Int):Lib.atoi (Lib.itoa n)=some n:=by
 unfold Lib.itoa
 have hN:∀ m,Lib.decNat (Lib.decDigits m)=some m:=by
  intro m;unfold Lib.decNat
  rw [if_neg (by simpa using LS m),Ia]
 split
 ·rw [Lib.atoi];simp [hN];omega
 ·obtain ⟨b,r,e⟩:=List.exists_cons_of_ne_nil (LS n.toNat)
  have hd:=BP n.toNat
  rw [e] at hd ⊢
  simp only [cm,ac] at hd
  have hb:=hd.1
  unfold ph at hb;simp at hb
  have n45:b≠45:=fun h=>by subst h;simp at hb
  have n43:b≠43:=fun h=>by subst h;simp at hb
  rw [Lib.atoi]
  simp only [beq_iff_eq,n45,n43,if_false]
  rw [← e,hN];simp;omega
def BQ (s:bn) (k:Int):Option Int:=
 if (Lib.trimPrefix s [45]=[]∨k < (Lib.trimPrefix s [45]).length)∨(Lib.trimPrefix s [45]).all ph=false then none
 else match Lib.atoi s with
  | some n=>if Lib.itoa n=s then some n else none
  | none=>none
theorem wq (s:bn):(∃ d,s=45 :: d∧Lib.trimPrefix s [45]=d)∨(Lib.trimPrefix s [45]=s∧s.head? ≠some 45):=by
 cases s with
 | nil=>right;exact ⟨rfl,by simp⟩
 | cons b r=>
   unfold Lib.trimPrefix
   by_cases h:b=45
   ·subst h;left;exact ⟨r,rfl,by simp [Lib.hasPrefix,cQ]⟩
   ·right
    have hp:Lib.hasPrefix (b :: r) [45]=false:=by simp [Lib.hasPrefix,cQ,Ne.symm h]
    rw [hp];exact ⟨by simp,by simpa using h⟩
theorem BR (s:bn):(Lib.trimPrefix s [45]).length≤s.length∧s.length≤(Lib.trimPrefix s [45]).length+1:=by
 rcases wq s with ⟨d,h1,h2⟩ | ⟨h1,_⟩
 ·rw [h2,h1];simp
 ·rw [h1];omega
theorem LU {s:bn} {n:Int} (hl:s.length≤18) (h:Lib.atoi s=some n):Lib.atoiAll s=.ok n:=by
 rw [Lib.atoiAll_short s hl,h];rfl
theorem Oz {s:bn} (h1:Lib.trimPrefix s [45]≠[]) (h2:(Lib.trimPrefix s [45]).all ph=true):∃ n,Lib.atoi s=some n∧(Lib.itoa n=s↔¬((Lib.trimPrefix s [45]).head? =some 48∧(1 < (Lib.trimPrefix s [45]).length∨(Lib.trimPrefix s [45]).length < s.length))):=by
 rcases wq s with ⟨d,e1,e2⟩ | ⟨e1,e2⟩
 ·rw [e2] at h1 h2 ⊢
  subst e1
  obtain ⟨m,hm⟩:=wo d 0 h2
  have hN:Lib.decNat d=some m:=by unfold Lib.decNat;rw [if_neg (by simpa using h1),hm]
  refine ⟨-(m:Int),by rw [Lib.atoi];simp [hN],?_⟩
  have hs:=Db hm h1
  have hlen:d.length < (45 :: d).length:=by simp
  constructor
  ·rintro e ⟨hh,_⟩
   unfold Lib.itoa at e
   split at e
   ·have e':Lib.decDigits m=d:=by simpa using e
    rename_i an0
    obtain ⟨b,r,h4,h5⟩:=J7 (m:=m) (by omega)
    rw [e'] at h4;rw [h4] at hh;simp at hh;exact h5 hh
   ·have:=BP (-(m:Int)).toNat
    rw [e] at this;simp [ph] at this
  ·intro hn
   have hh:d.head? ≠some 48:=fun hh=>hn ⟨hh,.inr hlen⟩
   have e':=hs.2 (.inl hh)
   have W4:m≠0:=by
    intro h0;subst h0;rw [Fi] at e';subst e';simp at hh
   unfold Lib.itoa
   rw [if_pos (by omega)]
   simp [e']
 ·rw [e1] at h1 h2 ⊢
  obtain ⟨m,hm⟩:=wo s 0 h2
  have hN:Lib.decNat s=some m:=by unfold Lib.decNat;rw [if_neg (by simpa using h1),hm]
  have hs:=Db hm h1
  cases s with
  | nil=>exact absurd rfl h1
  | cons b r=>
    have n45:b≠45:=by simpa using e2
    have hb:ph b=true:=by simp only [cm,ac] at h2;exact h2.1
    have n43:b≠43:=fun h=>by subst h;simp [ph] at hb
    refine ⟨m,by rw [Lib.atoi];simp only [beq_iff_eq,n45,n43,if_false];rw [hN];rfl,?_⟩
    have hi:Lib.itoa (m:Int)=Lib.decDigits m:=by unfold Lib.itoa;rw [if_neg (by omega)];simp
    rw [hi,hs]
    constructor
    ·rintro (h | h) ⟨h3,h4⟩
     ·exact h h3
     ·omega
    ·intro h
     by_cases hh:(b :: r).head? =some 48
     ·right
      have:¬ (1 < (b :: r).length):=fun h5=>h ⟨hh,.inl h5⟩
      simp at this ⊢;omega
     ·exact .inl hh
theorem LV {s:bn} {k:Nat} {n:Int} (h:BQ s k=some n):-(10 ^ k:Nat) < n∧n < (10 ^ k:Nat):=by
 unfold BQ at h
 split at h
 ·cases h
 ·rename_i hc
  cases ha:Lib.atoi s with
  | none=>rw [ha] at h;cases h
  | some n'=>
    rw [ha] at h
    simp only at h
    split at h
    ·obtain rfl:=be h
     simp only [not_or] at hc
     have mc:(Lib.trimPrefix s [45]).all ph=true:=by simpa using hc.2
     have hlen:(Lib.trimPrefix s [45]).length≤k:=by have:=hc.1.2;omega
     obtain ⟨m,hm⟩:=wo _ 0 mc
     have hb:=Lib.decFrom_lt _ 0 m hm
     have hp:(10:Nat) ^ (Lib.trimPrefix s [45]).length≤10 ^ k:=Nat.pow_le_pow_right (by omega) hlen
     have dY:m < 10 ^ k:=by omega
     have hnm:n'=m∨n'=-(m:Int):=by
      have hN:Lib.decNat (Lib.trimPrefix s [45])=some m:=by unfold Lib.decNat;rw [if_neg (by simpa using hc.1.1),hm]
      rcases wq s with ⟨d,e1,e2⟩ | ⟨e1,e2⟩
      ·rw [e2] at hN;rw [e1,Lib.atoi] at ha;simp [hN] at ha;right;omega
      ·rw [e1] at hN mc
       cases s with
       | nil=>simp [Lib.atoi] at ha
       | cons b r=>
         have n45:b≠45:=by simpa using e2
         have hb:ph b=true:=by simp only [cm,ac] at mc;exact mc.1
         have n43:b≠43:=fun h=>by subst h;simp [ph] at hb
         rw [Lib.atoi] at ha
         simp only [beq_iff_eq,n45,n43,if_false] at ha
         rw [hN] at ha;simp at ha;left;omega
     omega
    ·cases h
theorem Cz {n k:Int} (h:((Lib.decDigits n.natAbs).length:Int)≤k):BQ (Lib.itoa n) k=some n:=by
 have ht:Lib.trimPrefix (Lib.itoa n) [45]=Lib.decDigits n.natAbs:=by
  unfold Lib.itoa
  split
  ·unfold Lib.trimPrefix;simp [Lib.hasPrefix,cQ]
  ·rename_i h0
   rw [show n.toNat=n.natAbs by omega]
   rcases wq (Lib.decDigits n.natAbs) with ⟨d,e1,e2⟩ | ⟨e1,e2⟩
   ·have:=BP n.natAbs;rw [e1] at this;simp [ph] at this
   ·exact e1
 unfold BQ
 rw [ht,if_neg (by
  rintro ((h1 | h1) | h1)
  ·exact LS _ h1
  ·omega
  ·rw [BP] at h1;cases h1),Oy]
 simp
theorem J8 (s:bn) (hl:s.length≤18):vk s 0=if (Lib.trimPrefix s [45]).all ph=true then sq s else some (0,false):=by
 unfold vk
 have hd:((Lib.trimPrefix s [45]).length:Int)≤4611686018427387904:=by have:=BR s;omega
 refine TO (fun x:Int=>fT s x) (fun i=>(Lib.trimPrefix s [45]).length+1 - i.toNat) (fun i=>0≤i∧i≤(Lib.trimPrefix s [45]).length∧((Lib.trimPrefix s [45]).take i.toNat).all ph=true) _ ?_ 0 ⟨by omega,by omega,by simp⟩
 rintro i ⟨h0,h1,h2⟩
 by_cases hi:i < (Lib.trimPrefix s [45]).length
 ·obtain ⟨c,hc,_,Wo⟩:=ff (Lib.trimPrefix s [45]) h0 hi
  have hg:=(jC hc).2.2
  have lI:c∈Lib.trimPrefix s [45]:=uR hc
  have hB:fT s i=if ph c=true then some (.inl (bB (i+1))) else eB .inr (some ((0:Int),false)):=by
   unfold fT
   rw [if_pos hi,hc]
   simp only [aa]
   unfold pF ph
   by_cases a1:(c.toNat:Int) < 48
   ·rw [if_pos a1,if_pos rfl,if_neg (by simp;omega)]
   ·rw [if_neg a1]
    by_cases a2:(57:Int) < c.toNat
    ·rw [if_pos (by simpa using a2),if_neg (by simp;omega)]
    ·rw [if_neg (by simpa using a2),if_pos (by simp;omega)]
  by_cases hdg:ph c=true
  ·left
   refine ⟨i+1,?_,⟨by omega,by omega,?_⟩,by omega⟩
   ·show fT s i=_
    rw [hB,if_pos hdg,bl (by omega) (by omega)]
   ·rw [show (i+1).toNat=i.toNat+1 by omega,cW,ge,h2,hg];simp [hdg]
  ·right
   show fT s i=_
   rw [hB,if_neg hdg,if_neg (fun h=>hdg (es.1 h c lI))]
 ·right
  show fT s i=_
  unfold fT
  rw [if_neg hi]
  rw [cX (by omega)] at h2
  rw [if_pos h2]
theorem Q0 {s:bn} {n:Int} (hl:s.length≤18) (h:Lib.atoi s=some n):JC s=some (n,true):=by
 unfold JC;rw [if_pos (by omega),LU hl h]
theorem OA (s:bn) (k:Nat) (hk:k≤17):ud s k=some (match BQ s k with | some n=>(n,true) | none=>(0,false)):=by
 have hln:=BR s
 unfold ud nM
 by_cases h1:Lib.trimPrefix s [45]=[]
 ·rw [if_pos h1,if_pos rfl];unfold BQ;rw [if_pos (.inl (.inl h1))]
 ·rw [if_neg h1]
  by_cases h2:(k:Int) < (Lib.trimPrefix s [45]).length
  ·rw [if_pos h2,if_pos rfl];unfold BQ;rw [if_pos (.inl (.inr h2))]
  ·rw [if_neg h2]
   have tQ:0 < (Lib.trimPrefix s [45]).length:=eq.2 h1
   obtain ⟨c,hc,_,_⟩:=ff (Lib.trimPrefix s [45]) (i:=0) (by omega) (by omega)
   have hh:(Lib.trimPrefix s [45]).head? =some c:=by
    have:=(jC hc).2.2
    rw [List.head?_eq_getElem?];simpa using this
   rw [hc]
   simp only [aa]
   rw [J8 s (by omega)]
   by_cases mc:(Lib.trimPrefix s [45]).all ph=true
   ·obtain ⟨n,hn,abY⟩:=Oz h1 mc
    have hnT:BQ s k=if Lib.itoa n=s then some n else none:=by
     unfold BQ
     rw [if_neg (fun h=>h.elim (fun h=>h.elim h1 h2) (fun h=>by rw [mc] at h;cases h)),hn]
    have U0:(decide ((c.toNat:Int)=48)&&(decide ((1:Int) < (Lib.trimPrefix s [45]).length)||decide (((Lib.trimPrefix s [45]).length:Int) < s.length)))=true↔¬ Lib.itoa n=s:=by
     rw [abY,hh]
     simp only [ac,decide_eq_true_eq,cp,d1,eL]
     constructor
     ·rintro ⟨a,b⟩;exact ⟨gc.1 (by simpa using (by omega:c.toNat=48)),by omega⟩
     ·rintro ⟨a,b⟩;exact ⟨by rw [a];rfl,by omega⟩
    by_cases hi:Lib.itoa n=s
    ·rw [if_neg (fun h=>U0.1 h hi),if_pos mc,hnT,if_pos hi]
     unfold sq
     rw [Q0 (by omega) hn];rfl
    ·rw [if_pos (U0.2 hi),hnT,if_neg hi]
   ·have hnT:BQ s k=none:=by unfold BQ;rw [if_pos (.inr (by simpa using mc))]
    rw [hnT,if_neg mc];simp
def iu (a b:Version):Int:=pL [er a.aA b.aA,er a.aC b.aC,er a.aD b.aD]
theorem rK (a b:Version):fX a b=some (iu a b):=by
 unfold fX
 have h:mJ [cmp_Compare_int a.aA b.aA,cmp_Compare_int a.aC b.aC,cmp_Compare_int a.aD b.aD]=some (pL [cmp_Compare_int a.aA b.aA,cmp_Compare_int a.aC b.aC,cmp_Compare_int a.aD b.aD]):=AP _ (by simp)
 rw [h,jK,jK,jK];rfl
theorem Wr {a b:Int}:er a b=0↔a=b:=by
 unfold er;repeat' split
 all_goals omega
theorem u4 (a b:Version):ef a b=some (iu a b):=by
 unfold ef
 have step:∀ (i:Nat) (x y:Int),[a.aA,a.aC,a.aD][i]? =some x→[b.aA,b.aC,b.aD][i]? =some y→bA [a.aA,a.aC,a.aD] [b.aA,b.aC,b.aD] (i:Int)=if er x y≠0 then some (.inr (er x y)) else some (.inl ((i:Int)+1)):=by
  intro i x y h1 h2
  have hi:i < 3:=by simpa using (cs.1 h1).1
  unfold bA
  rw [if_pos (by simp;omega)]
  have e1:idx [a.aA,a.aC,a.aD] (i:Int)=some x:=by unfold idx;rw [if_pos (by omega)];simpa using h1
  have e2:idx [b.aA,b.aC,b.aD] (i:Int)=some y:=by unfold idx;rw [if_pos (by omega)];simpa using h2
  rw [e1]
  simp only [aa]
  rw [if_neg (by simp;omega),e2]
  simp only [aa,jK]
  rw [bl (by omega) (by omega)]
  rfl
 have s0:bA [a.aA,a.aC,a.aD] [b.aA,b.aC,b.aD] 0=if er a.aA b.aA≠0 then some (.inr (er a.aA b.aA)) else some (.inl 1):=step 0 a.aA b.aA rfl rfl
 have s1:bA [a.aA,a.aC,a.aD] [b.aA,b.aC,b.aD] 1=if er a.aC b.aC≠0 then some (.inr (er a.aC b.aC)) else some (.inl 2):=step 1 a.aC b.aC rfl rfl
 have s2:bA [a.aA,a.aC,a.aD] [b.aA,b.aC,b.aD] 2=if er a.aD b.aD≠0 then some (.inr (er a.aD b.aD)) else some (.inl 3):=step 2 a.aD b.aD rfl rfl
 have s3:bA [a.aA,a.aC,a.aD] [b.aA,b.aC,b.aD] 3=some (.inr 0):=by
  unfold bA iP
  rw [if_neg (by simp),if_neg (by simp)];rfl
 unfold eF gi
 unfold iu pL pL pL pL
 rw [iter_eq,s0]
 by_cases c0:er a.aA b.aA=0
 ·rw [if_neg (by simpa using c0),if_neg (by simpa using c0)]
  simp only [aa,bC]
  rw [iter_eq,s1]
  by_cases c1:er a.aC b.aC=0
  ·rw [if_neg (by simpa using c1),if_neg (by simpa using c1)]
   simp only [aa,bC]
   rw [iter_eq,s2]
   by_cases c2:er a.aD b.aD=0
   ·rw [if_neg (by simpa using c2),if_neg (by simpa using c2)]
    simp only [aa,bC]
    rw [iter_eq,s3];rfl
   ·rw [if_pos c2,if_pos c2];rfl
  ·rw [if_pos c1,if_pos c1];rfl
 ·rw [if_pos c0,if_pos c0];rfl
theorem BS (a b:Version):iu b a=- iu a b:=by
 unfold iu
 rw [Fh b.aA a.aA,Fh b.aC a.aC,Fh b.aD a.aD]
 simp only [pL]
 repeat' split
 all_goals omega
def lR (v:Version):Bool:=(decide (0≤v.aA)&&decide (v.aA≤9999))&&(decide (0≤v.aC)&&decide (v.aC≤9999))&&(decide (0≤v.aD)&&decide (v.aD≤9999))
theorem jL (v:Version):gW v=lR v:=by
 unfold gW qS lR
 rw [wI,wI,wI,al]
 simp;omega
theorem zT (v:Version):dP v=if lR v=true then 0 else 1:=by
 unfold dP pg
 rw [zq,zq,zq]
 by_cases h:lR v=true
 ·rw [if_pos h,if_neg];unfold lR at h;simp at h ⊢;omega
 ·rw [if_neg h,if_pos];unfold lR at h;simp at h ⊢;omega
theorem M8 (x:an) (v:Version):j6 x v=xM x v:=by
 unfold j6 xM
 have h:(fun y0=>lp y0 v)=(fun y0=>sY y0 v):=by
  funext y
  unfold lp sY jc pW
  simp only [rK,u4]
 rw [h]
def Fj (v:Version) (r:Range):Bool:=decide (iu r.wC v≤0)&&decide (iu v r.mI≤0)
theorem Q1 (x:an) (v:Version) (h:x.bS.length≤1000000):xM x v=some (x.bS.any (Fj v)):=by
 unfold xM
 have e:dX x.bS (fun y0=>sY y0 v)=some (x.bS.any (Fj v)):=xj x.bS _ (Fj v) (fun r _=>by
  unfold sY pW Fj
  simp only [u4,aa]
  by_cases c:iu r.wC v≤0
  ·rw [if_pos c];simp [c]
  ·rw [if_neg c];simp [c]) (by omega)
 rw [e];rfl
theorem Fk (x:an):fR x=qu x:=by
 unfold fR qu
 split
 ·rfl
 ·unfold nq xa
  refine zS (fun i=>?_) 0
  unfold fE nB
  split
  ·congr 1;funext r
   have s0:eU x i r 0=if lR r.wC=true then some (.inl 1) else some (.inr (.inr 1)):=by
    unfold eU
    rw [if_pos (by simp)]
    have e1:idx [r.wC,r.mI] 0=some r.wC:=rfl
    rw [e1]
    simp only [aa,zT]
    rw [bl (by omega) (by omega)]
    cases lR r.wC<;>rfl
   have s1:eU x i r 1=if lR r.mI=true then some (.inl 2) else some (.inr (.inr 1)):=by
    unfold eU
    rw [if_pos (by simp)]
    have e1:idx [r.wC,r.mI] 1=some r.mI:=rfl
    rw [e1]
    simp only [aa,zT]
    rw [bl (by omega) (by omega)]
    cases lR r.mI<;>rfl
   have s2:eU x i r 2=eB .inr (pX x i r):=by
    unfold eU
    rw [if_neg (by simp)]
   unfold w9
   rw [iter_eq,s0,jL,jL]
   unfold df
   cases h1:lR r.wC with
   | false=>simp [after]
   | true=>
     simp only [ap,ai,if_false,if_true,aa,bC]
     rw [iter_eq,s1]
     cases h2:lR r.mI with
     | false=>simp [after]
     | true=>
       simp only [ap,ai,if_false,if_true,aa,bC]
       rw [iter_eq,s2,aY]
       unfold pX fD nA
       simp only [rK,u4,aa]
       by_cases c:(0:Int) < iu r.wC r.mI
       ·simp [c]
       ·simp only [c,decide_false,ai,if_false]
  ·unfold jP sZ
   rw [M8]
theorem LW (xs:List an):eA xs=qx xs:=by
 unfold eA qx
 split
 ·rfl
 ·unfold nu xc
  refine zS (fun i=>?_) 0
  have j1:∀ (x:an) (c:Bool),dD i x c=kP i x c:=by
   intro x c
   unfold dD kP
   split
   ·rfl
   ·split
    ·rfl
    ·split
     ·rfl
     ·unfold nt xb
      refine zS (fun k=>?_) 0
      unfold fF nD eh nC
      split
      ·congr 1;funext m
       rw [Cy,DU]
      ·unfold jQ s9
       rw [Fk,wI,zq]
       congr 2;funext e
       split
       ·rfl
       ·have:(decide (x.cM < 1)||decide (1000000000 < x.cM))=!(decide (1≤x.cM)&&decide (x.cM≤1000000000)):=by
         rw [al];simp<;>omega
        rw [this]
  unfold fG nE
  split
  ·congr 1;funext x
   rw [jL,zT]
   cases h:lR x.Version with
   | false=>simp
   | true=>
     simp only [ap,ai,if_false,if_true,ne_eq,not_true_eq_false]
     split
     ·congr 1;funext y
      simp only [rK,u4,aa]
      rw [j1,BS]
      congr 1
      rw [decide_eq_decide];omega
     ·exact j1 x false
  ·rfl
def FZ (x:an):Prop:=x.dc.length≤10∧x.bS.length≤10
def sy (xs:List an):Prop:=xs.length≤8∧∀ x∈xs,FZ x
def xq (k:Int):List bn→Option (List Int)
 | []=>some []
 | w :: r=>match BQ w k,xq k r with
   | some n,some l=>some (n :: l)
   | _,_=>none
theorem BT (ws:List bn) (k:Nat) (hk:k≤17) (hl:ws.length≤100000000):∀ (m:Nat) (l:List Int) (i:Int),0≤i→i+m=ws.length→(l.length:Int)=i→
 qV ws k l i=some (match xq k (ws.drop i.toNat) with | some r=>(l++r,true) | none=>([],false))
 | 0,l,i,h0,hm,he=>by
   unfold qV
   rw [iter_eq,lZ,if_neg (by simp only;omega),aY,bk (by omega)]
   simp [xq]
 | m+1,l,i,h0,hm,he=>by
   have ih:=BT ws k hk hl m
   unfold qV at ih ⊢
   obtain ⟨w,hw,_,hd⟩:=ff ws h0 (by omega)
   rw [iter_eq,lZ,if_pos (by simp only;omega)]
   simp only [hw,aa]
   rw [OA w k hk,hd,xq]
   simp only [aa]
   cases hn:BQ w k with
   | none=>simp [after]
   | some n=>
     simp only [ap,ai,if_false]
     rw [pJ (by simp;omega)]
     simp only [aa,bC]
     rw [bl (by omega) (by omega),ih (l++[n]) (i+1) (by omega) (by omega) (by simp;omega)]
     cases xq k (ws.drop (i+1).toNat) with
     | none=>rfl
     | some r=>simp
theorem LX (ws:List bn) (k:Nat) (hk:k≤17) (hl:ws.length≤100000000):sr ws k=some (match xq k ws with | some r=>(r,true) | none=>([],false)):=by
 unfold sr
 rw [BT ws k hk hl ws.length [] 0 (by omega) (by omega) (by simp)]
 simp
def M9 (s:bn):Option Version:=match xq 4 (vw 46 s) with
 | some [x,y,z]=>if 0≤x∧0≤y∧0≤z then some ⟨x,y,z⟩ else none
 | _=>none
theorem abZ {α:Type}:∀ {l:List α},l.length=3→∃ a b c,l=[a,b,c]
 | [a,b,c],_=>⟨a,b,c,rfl⟩
theorem Dc {k:Nat}:∀ {ws:List bn} {l:List Int},xq k ws=some l→∀ x∈l,-(10 ^ k:Nat) < x∧x < (10 ^ k:Nat)
 | [],l,h=>by simp [xq] at h;subst h;simp
 | w :: r,l,h=>by
   rw [xq] at h
   cases h1:BQ w k with
   | none=>rw [h1] at h;simp at h
   | some n=>
     cases h2:xq k r with
     | none=>rw [h1,h2] at h;simp at h
     | some t=>
       rw [h1,h2] at h
       simp only [d1] at h;subst h
       intro x hx
       rcases ad.1 hx with rfl | hx
       ·exact LV h1
       ·exact Dc h2 x hx
theorem Q2 (s:bn) (hs:s.length≤1000000):je s=some (match M9 s with | some v=>(v,0) | none=>(⟨0,0,0⟩,9)):=by
 unfold je
 have hl:=Ap 46 s
 rw [Ow (by omega)]
 simp only [aa]
 rw [show (4:Int)=((4:Nat):Int) from rfl,LX _ 4 (by omega) (by omega)]
 simp only [aa]
 unfold jx M9
 rw [show (4:Int)=((4:Nat):Int) from rfl]
 generalize hN:xq ((4:Nat):Int) (vw 46 s)=o
 cases o with
 | none=>rfl
 | some l=>
   by_cases h3:l.length=3
   ·obtain ⟨x,y,z,rfl⟩:=abZ h3
    have bd:=Dc hN
    have bx:=bd x (by simp)
    have by_:=bd y (by simp)
    have bz:=bd z (by simp)
    simp only [ap,gf]
    rw [if_neg (by simp)]
    have e0:idx [x,y,z] 0=some x:=rfl
    have e1:idx [x,y,z] 1=some y:=rfl
    have e2:idx [x,y,z] 2=some z:=rfl
    rw [e0,e1,e2]
    simp only [aa,jL]
    by_cases hp:0≤x∧0≤y∧0≤z
    ·rw [if_pos hp,if_neg]
     unfold lR;simp;omega
    ·rw [if_neg hp,if_pos]
     unfold lR;simp;omega
   ·simp only
    rw [if_pos (by simp;omega)]
    split
    ·rename_i v e
     split at e
     ·rename_i e2;obtain rfl:=be e2;simp at h3
     ·cases e
    ·rfl
theorem BU:rJ=some true:=by
 unfold rJ
 rw [Q2 _ (by simp)]
 have h:M9 [49,46,50,46,51]=some ⟨1,2,3⟩:=by
  have e:vw 46 [49,46,50,46,51]=[[49],[50],[51]]:=by decide
  have i1:Lib.itoa 1=[49]:=by unfold Lib.itoa;rw [if_neg (by omega),Lib.decDigits,dif_pos (by decide)];rfl
  have i2:Lib.itoa 2=[50]:=by unfold Lib.itoa;rw [if_neg (by omega),Lib.decDigits,dif_pos (by decide)];rfl
  have i3:Lib.itoa 3=[51]:=by unfold Lib.itoa;rw [if_neg (by omega),Lib.decDigits,dif_pos (by decide)];rfl
  have n1:=Cz (n:=1) (k:=4) (by rw [Lib.decDigits,dif_pos (by decide)];simp)
  have n2:=Cz (n:=2) (k:=4) (by rw [Lib.decDigits,dif_pos (by decide)];simp)
  have n3:=Cz (n:=3) (k:=4) (by rw [Lib.decDigits,dif_pos (by decide)];simp)
  rw [i1] at n1;rw [i2] at n2;rw [i3] at n3
  unfold M9
  rw [e]
  simp [xq,n1,n2,n3]
 rw [h]
 simp [su]
def mO (a b:MarkS):Int:=if er a.At b.At≠0 then er a.At b.At else Lib.compareBytes a.Device b.Device
theorem OB:uj mO:=(zn.on MarkS.At).lex (Cv.on MarkS.Device)
theorem J9 (a b:MarkS):mi a b=some (mO a b):=by
 unfold mi
 rw [jK]
 have h:mJ [er a.At b.At,Lib.compareBytes a.Device b.Device]=some (pL [er a.At b.At,Lib.compareBytes a.Device b.Device]):=AP _ (by simp)
 rw [h,Wq];rfl
def MB (x:MarkS):Prop:=-4000000000000000000≤x.At∧x.At≤4000000000000000000
theorem BV {a b:MarkS} (ha:MB a) (hb:MB b):ie a b=mO a b:=by
 unfold MB at ha hb
 unfold ie mO
 rw [bl (by omega) (by omega)]
 have e:EO (a.At - b.At)=er a.At b.At:=by
  unfold EO er
  repeat' split
  all_goals omega
 rw [e]
 by_cases h1:a.At=b.At
 ·have:er a.At b.At=0:=by unfold er;rw [if_neg (by omega),if_neg (by omega)]
  rw [if_neg (fun z:a.At≠b.At=>z h1),if_neg (fun z=>z this)]
 ·rw [if_pos h1,if_pos (fun h=>h1 (zR h))]
theorem Ka {xs:List MarkS} (hB:∀ x∈xs,MB x):∀ x∈xs,∀ y∈xs,ie x y=mO x y:=fun x hx y hy=>BV (hB x hx) (hB y hy)
theorem Ib:uj iu:=by
 have h:uj (fun a b:Version=>if (if er a.aA b.aA≠0 then er a.aA b.aA else er a.aC b.aC)≠0 then (if er a.aA b.aA≠0 then er a.aA b.aA else er a.aC b.aC) else er a.aD b.aD):=
  ((zn.on Version.aA).lex (zn.on Version.aC)).lex (zn.on Version.aD)
 have e:iu=fun a b:Version=>if (if er a.aA b.aA≠0 then er a.aA b.aA else er a.aC b.aC)≠0 then (if er a.aA b.aA≠0 then er a.aA b.aA else er a.aC b.aC) else er a.aD b.aD:=by
  funext a b
  unfold iu
  rw [Y0,Wq]
 rw [e];exact h
def AX (n:Int):Bool:=decide (0≤n)&&decide (n≤345686399999)
def BW (s:MarkS):Int:=if AX s.At=false then 1 else if ql s.Device=false then 5 else if s.Kind < 1∨5 < s.Kind then 4 else if lR s.Version=false then 1 else 0
def vx (prev:Option MarkS) (s:MarkS):Int:=if BW s≠0 then BW s else match prev with
 | none=>0
 | some p=>if mO s p≤0 then 7 else 0
def CA (xs:List MarkS):Int:=if (3000:Int) < xs.length then 2 else yk vx none xs
theorem F0 (xs:List MarkS):ki xs=some (CA xs):=by
 unfold ki CA
 split
 ·rfl
 ·rename_i hl
  unfold sb
  refine Fe vx xs _ (fun {i s} h0 h1 hs=>?_) (by show dM xs _=_;rw [dM,if_neg (by omega)];rfl)
  show dM xs i=_
  rw [dM,if_pos h1,hs]
  simp only [aa,Cy]
  rw [xp,show (decide (0≤s.At)&&decide (s.At≤345686399999))=AX s.At from rfl,jL,wI]
  unfold vx BW
  cases hm:AX s.At
  ·simp
  ·simp only [ap,ai,if_false,cc]
   cases hk:ql s.Device
   ·simp
   ·simp only [ap,ai,if_false,cc]
    rw [show (decide (s.Kind < 1)||decide (5 < s.Kind))=decide (s.Kind < 1∨5 < s.Kind) by rw [al];simp]
    by_cases h3:s.Kind < 1∨5 < s.Kind
    ·rw [decide_eq_true h3,if_pos rfl,if_pos h3];simp
    ·rw [decide_eq_false h3,if_neg ce,if_neg h3]
     cases hv:lR s.Version
     ·simp
     ·simp only [ap,ai,if_false,cc,ne_eq,not_true_eq_false]
      unfold iw
      rw [bl (x:=i+1) (by omega) (by omega)]
      by_cases hi:0 < i
      ·obtain ⟨p,hp,_,_⟩:=ff xs (i:=i - 1) (by omega) (by omega)
       have NA:mU xs i=some p:=by unfold mU;rw [if_neg (by omega),hp]
       rw [NA,if_pos hi,bl (by omega) (by omega),hp]
       simp only [aa,J9]
       by_cases hb:mO s p≤0
       ·simp [hb]
       ·simp [hb]
      ·have NA:mU xs i=none:=by unfold mU;rw [if_pos (by omega)]
       rw [NA,if_neg hi];simp
theorem F1 (xs:List MarkS) (hB:∀ x∈xs,MB x):sg xs=some (CA xs):=by
 unfold sg CA
 split
 ·rfl
 ·rename_i hl
  unfold yf
  refine Fe vx xs _ (fun {i s} h0 h1 hs=>?_) (by show iM xs _=_;rw [iM,if_neg (by omega)];rfl)
  show iM xs i=_
  rw [iM,if_pos h1,hs]
  simp only [aa,DU]
  rw [AW,show (decide (0≤s.At)&&decide (s.At≤345686399999))=AX s.At from rfl,zT,zq]
  unfold vx BW
  cases hm:AX s.At
  ·simp
  ·simp only [ap,ai,if_false,cc]
   cases hk:ql s.Device
   ·simp
   ·simp only [ap,ai,if_false,cc]
    rw [show (!(decide (1≤s.Kind)&&decide (s.Kind≤5)))=decide (s.Kind < 1∨5 < s.Kind) by rw [al];simp [eX]]
    by_cases h3:s.Kind < 1∨5 < s.Kind
    ·rw [decide_eq_true h3,if_pos rfl,if_pos h3];simp
    ·rw [decide_eq_false h3,if_neg ce,if_neg h3]
     cases hv:lR s.Version
     ·simp
     ·simp only [ap,ai,if_false,cc,if_true,ne_eq,not_true_eq_false]
      unfold oK
      rw [bl (x:=i+1) (by omega) (by omega)]
      by_cases hi:0 < i
      ·obtain ⟨p,hp,UN,_⟩:=ff xs (i:=i - 1) (by omega) (by omega)
       have NA:mU xs i=some p:=by unfold mU;rw [if_neg (by omega),hp]
       rw [NA,if_pos hi,bl (by omega) (by omega),hp]
       simp only [aa]
       rw [Ka hB p UN s (uR hs),OB.neg p s]
       by_cases hb:mO s p≤0
       ·rw [decide_eq_true (by omega)];simp [hb]
       ·rw [decide_eq_false (by omega)];simp [hb]
      ·have NA:mU xs i=none:=by unfold mU;rw [if_pos (by omega)]
       rw [NA,if_neg hi];simp
def ZM:MarkS:=⟨0,[],0,⟨0,0,0⟩⟩
theorem Kb (f:MarkS→MarkS→Option Int) (xs:List MarkS) (hl:(xs.length:Int)≤20) (hf:∀ x∈xs,∀ y∈xs,f x y=some (mO x y)):∃ Z,pb xs.length (fun r:List MarkS=>r.length) (dW xs f)=some Z∧Z.Perm xs∧JV mO Z:=by
 obtain ⟨Z,h1,h2,h3⟩:=TG f mO xs (by omega) hf (OB.ord xs)
 have DX:cG xs 0 xs.length f=some Z:=h1
 have hlen:=h2.length_eq
 refine ⟨Z,?_,h2,h3⟩
 have hs:gj xs xs.length f=some Z:=by
  unfold gj oB
  by_cases h20:(xs.length:Int)=20
  ·rw [iter_eq,dh,if_pos (by simp only;omega)]
   simp only
   rw [h20] at DX ⊢
   rw [wH DX hlen]
   simp only [aa,bC]
   rw [iter_eq,dh,show bB (20+20)=40 from rfl,if_neg (by simp),aY]
   unfold gU
   have NB:cG Z 20 20 f=some Z:=by
    unfold cG kG
    rw [iter_eq,dx,show bB (20+1)=21 from rfl,if_neg (by simp),aY]
   simp only
   rw [wH NB rfl]
   simp only [aa]
   unfold jZ
   rw [iter_eq,dI,if_neg (by simp),aY]
  ·rw [iter_eq,dh,if_neg (by simp only;omega),aY]
   unfold gU
   simp only
   rw [wH DX hlen]
   simp only [aa]
   unfold jZ
   rw [iter_eq,dI,if_neg (by omega),aY]
 refine wH ?_ hlen
 unfold dW
 rw [wH hs hlen];rfl
theorem Ic (f:MarkS→MarkS→Option Bool) (e:MarkS→MarkS→Bool) (xs:List MarkS) (hl:(xs.length:Int)≤100000) (hf:∀ x∈xs,∀ y∈xs,f x y=some (e x y)):gV xs f=some (dd e xs):=QS ZM f e xs hl hf
def Ie (x:DeviceS):Prop:=ql x.Key=false∨ql x.Model=false∨ql x.fb=false
instance (x:DeviceS):Decidable (Ie x):=by unfold Ie;infer_instance
def AY (p:Option DeviceS) (x:DeviceS):Bool:=match p with
 | none=>false
 | some q=>Op.bytesLess x.Key q.Key||x.Key==q.Key
def xX (p:Option DeviceS) (x:DeviceS):Int:=if Ie x then 5 else if AY p x=true then 7 else if lR x.bQ=false then 1 else if (20:Int) < x.o5.length then 2 else 0
def BX (xs:List DeviceS):Int:=if (500:Int) < xs.length then 2 else yk xX none xs
theorem Fl {α:Type} (x:DeviceS) (f:Bool→α):(if (!ql x.Key)=true then f true else if (!ql x.Model)=true then f true else f (!ql x.fb))=f (decide (Ie x)):=by
 have h:∀ a b c:Bool,(if (!a)=true then f true else if (!b)=true then f true else f (!c))=f (decide (a=false∨b=false∨c=false)):=by
  intro a b c
  cases a<;>cases b<;>cases c<;>rfl
 rw [show decide (Ie x)=decide (ql x.Key=false∨ql x.Model=false∨ql x.fb=false) from decide_eq_decide.2 Iff.rfl]
 exact h _ _ _
theorem F2 (xs:List DeviceS):kh xs=some (BX xs):=by
 unfold kh BX
 split
 ·rfl
 ·rename_i hl
  unfold sa
  refine Fe xX xs _ (fun {i s} h0 h1 hs=>?_) (by show dL xs _=_;rw [dL,if_neg (by omega)];rfl)
  show dL xs i=_
  rw [dL,if_pos h1,hs]
  simp only [aa,Cy]
  rw [Fl s (eG xs i s)]
  unfold eG xX
  by_cases hb:Ie s
  ·rw [decide_eq_true hb,if_pos rfl,if_pos hb];simp
  ·rw [decide_eq_false hb,if_neg ce,if_neg hb]
   have hj:(if 0 < i then (idx xs (bB (i - 1))).bind fun v10=>dK i s (Op.bytesLess s.Key v10.Key||s.Key==v10.Key) else dK i s false)=dK i s (AY (mU xs i) s):=by
    by_cases hi:0 < i
    ·obtain ⟨p,hp,_,_⟩:=ff xs (i:=i - 1) (by omega) (by omega)
     have NA:mU xs i=some p:=by unfold mU;rw [if_neg (by omega),hp]
     rw [NA,if_pos hi,bl (by omega) (by omega),hp];rfl
    ·have NA:mU xs i=none:=by unfold mU;rw [if_pos (by omega)]
     rw [NA,if_neg hi];rfl
   rw [hj]
   unfold dK
   rw [jL,bl (x:=i+1) (by omega) (by omega)]
   cases AY (mU xs i) s
   ·simp only [ai,if_false]
    cases lR s.bQ
    ·simp
    ·simp only [ap,ai,if_false,cc]
     by_cases ht:(20:Int) < s.o5.length
     ·rw [if_pos ht,if_pos ht];simp
     ·rw [if_neg ht,if_neg ht];simp
   ·simp
def Na (p:Option DeviceS):bn:=match p with
 | none=>[]
 | some n=>n.Key
theorem Q3 {s:bn} (h:ql s=true):s≠[]:=by
 rintro rfl;simp [ql] at h
theorem DE (xs:List DeviceS) (hl:(xs.length:Int)≤500):∀ (m i:Nat) (p:Option DeviceS),i+m=xs.length→qT xs (Na p) i=some (yk xX p (xs.drop i)):=by
 intro m
 induction m with
 | zero=>
   intro i p hi
   unfold qT
   rw [iter_eq,lY,if_neg (by simp only;omega),aY,bk (by omega)]
   rfl
 | succ m ih=>
   intro i p hi
   obtain ⟨x,hx,z7,hd⟩:=ff xs (i:=(i:Int)) (by omega) (by omega)
   rw [show ((i:Int)).toNat=i by omega,show ((i:Int)+1).toNat=i+1 by omega] at hd
   have w1:bB ((i:Int)+1)=((i+1:Nat):Int):=by rw [bl]<;>omega
   have U1:=ih (i+1) (some x) (by omega)
   unfold qT at U1 ⊢
   rw [iter_eq,lY,if_pos (by simp only;omega)]
   simp only [hx,aa,DU,hd,yk]
   rw [Fl x (j9 (Na p) (i:Int) x)]
   unfold j9 xX
   by_cases hb:Ie x
   ·rw [decide_eq_true hb,if_pos rfl,if_pos hb,if_neg (by omega)];rfl
   ·rw [decide_eq_false hb,if_neg ce,if_neg hb]
    have hk:ql x.Key=true:=by
     unfold Ie at hb
     cases h:ql x.Key with
     | true=>rfl
     | false=>exact absurd (.inl h) hb
    have hd2:(Op.bytesLess x.Key (Na p)||x.Key==Na p)=AY p x:=by
     cases p with
     | some p=>rfl
     | none=>
       have A2:=Q3 hk
       show (Op.bytesLess x.Key []||x.Key==[])=false
       cases hid:x.Key with
       | nil=>exact absurd hid A2
       | cons a b=>rfl
    rw [hd2,zT,w1]
    cases AY p x
    ·simp only [ai,if_false]
     cases lR x.bQ
     ·simp [after]
     ·simp only [if_true,ne_eq,not_true_eq_false,if_false,cc]
      by_cases ht:(20:Int) < x.o5.length
      ·rw [if_pos ht,if_pos ht,if_neg (by omega)];rfl
      ·rw [if_neg ht,if_neg ht,if_pos rfl]
       simp only [aa,bC]
       exact U1
    ·simp [after]
theorem F3 (xs:List DeviceS):sf xs=some (BX xs):=by
 unfold sf BX
 split
 ·rfl
 ·rename_i hl
  have:=DE xs (by omega) xs.length 0 none (by omega)
  rw [bo] at this
  exact this
theorem Ws (n lo hi:Int):(!(vK n lo hi))=gl n lo hi:=by
 rw [zq,wI,al];simp [eX]
theorem Ig (c:Campaign):lX c=cV c:=by
 unfold cV lX
 rw [Cy,DU]
 simp only [aa]
 rw [jL,zT,xp,AW]
 have hl:rf c 0 0=iR c 0 0:=by
  unfold iR rf
  refine zS (fun s=>?_) _
  unfold eD lu gm og iQ re gn oh
  simp only [Ws]
 unfold gp
 rw [hl]
 cases ql c.Key
 ·rfl
 ·simp only [ap,ai,if_false]
  cases lR c.Target
  ·simp
  ·simp only [if_true,ne_eq,not_true_eq_false,if_false,ap,gf]
def xu (l:List mH):Int:=(l.map mH.Part).sum
theorem Q4:∀ l:List mH,(∀ w∈l,1≤w.Part∧w.Part≤1000)→0≤xu l∧xu l≤1000 * l.length
 | [],_=>by simp [xu]
 | w :: l,h=>by
   have h1:=Q4 l (fun x hx=>h x (cn _ hx))
   have h2:=h w (by simp)
   unfold xu at h1 ⊢
   rw [bp,d2,cv]
   omega
theorem OC {l:List mH} {n:Nat} (h:n < l.length):xu (l.take (n+1))=xu (l.take n)+l[n].Part:=by
 rw [gk h];unfold xu;rw [eY,List.sum_append,bp,gs,d2,List.sum_nil,Int.add_zero]
structure lB (c:Campaign):Prop where
 key:ql c.Key=true
 len:c.aR.length≤20
 part:∀ w∈c.aR,1≤w.Part∧w.Part≤1000
 sum:xu c.aR=1000
 Q5:0≤c.At∧c.At≤345686399999
 wait:∀ w∈c.aR,0≤w.vg∧w.vg≤2592000000
 room:1≤c.Room∧c.Room≤500
 ahF:(0≤c.aZ.bS∧c.aZ.bS≤86400000)∧0≤c.aZ.To∧c.aZ.To≤86400000
 tgt:lR c.Target=true
theorem F4 (c:Campaign):Ok (cV c) (fun r=>r=0→lB c):=by
 unfold cV
 rw [Cy]
 simp only [aa]
 cases hk:ql c.Key
 ·exact Ok.ret (fun h=>absurd h (by omega))
 ·rw [if_neg (by simp)]
  unfold gp
  split
  ·exact Ok.ret (fun h=>absurd h (by omega))
  ·rename_i Xw
   have ac0:0≤c.At∧c.At≤345686399999:=by
    rw [xp] at Xw
    simp only [cp,not_or,gt,gv,ac,decide_eq_true_eq] at Xw
    exact Xw.2
   have ac1:lR c.Target=true:=by
    rw [xp] at Xw
    simp only [cp,not_or,gt,gv] at Xw
    rw [← jL];exact Xw.1
   split
   ·exact Ok.ret (fun h=>absurd h (by omega))
   ·split
    ·exact Ok.ret (fun h=>absurd h (by omega))
    ·rename_i hlen
     unfold iR
     refine Ok.iter (fun x:Int×Int=>(c.aR.length - x.2).toNat) (fun x:Int×Int=>0≤x.2∧x.2≤c.aR.length∧x.1=xu (c.aR.take x.2.toNat)∧∀ w∈c.aR.take x.2.toNat,(1≤w.Part∧w.Part≤1000)∧(0≤w.vg∧w.vg≤2592000000)) ?_ _ ⟨by simp,by simp,by simp [xu],by simp⟩
     rintro ⟨S,n⟩ ⟨g0,g1,g2,g3⟩
     simp only at g0 g1 g2 g3 ⊢
     have hS:=Q4 _ (fun w hw=>(g3 w hw).1)
     rw [← g2] at hS
     have XV:(c.aR.take n.toNat).length≤20:=by simp;omega
     unfold eD
     by_cases hn:n < c.aR.length
     ·rw [if_pos hn]
      obtain ⟨w,hw,hm,_⟩:=ff c.aR g0 hn
      obtain ⟨Je,O0⟩:=cs.1 (jC hw).2.2
      rw [hw]
      simp only [aa]
      unfold gm
      split
      ·exact Ok.inr (Ok.ret (fun h=>absurd h (by omega)))
      ·rename_i ho
       have hp:(1≤w.Part∧w.Part≤1000)∧(0≤w.vg∧w.vg≤2592000000):=by
        simp only [wI] at ho
        simp at ho
        omega
       refine Ok.ret ?_
       rw [bl (x:=S+w.Part) (by omega) (by omega),bl (x:=n+1) (by omega) (by omega)]
       refine ⟨⟨by simp only;omega,by simp only;omega,?_,?_⟩,by simp only;omega⟩
       ·simp only
        rw [show (n+1).toNat=n.toNat+1 by omega,OC Je,O0,g2]
       ·simp only
        intro y hy
        rw [show (n+1).toNat=n.toNat+1 by omega,gk Je,O0] at hy
        rcases d3.1 hy with e | e
        ·exact g3 y e
        ·rw [e5] at e;subst e;exact hp
     ·rw [if_neg hn]
      have hta:c.aR.take n.toNat=c.aR:=cX (by omega)
      rw [hta] at g2 g3
      refine Ok.inr ?_
      unfold iQ
      split
      ·exact Ok.ret (fun h=>absurd h (by omega))
      ·rename_i ahG
       unfold gn
       split
       ·exact Ok.ret (fun h=>absurd h (by omega))
       ·rename_i Nb
        simp only [wI] at Nb
        simp at Nb
        exact Ok.ret (fun _=>⟨hk,by omega,fun w hw=>(g3 w hw).1,by omega,ac0,fun w hw=>(g3 w hw).2,by omega,by omega,ac1⟩)
def sN (h:Int) (c:UInt8):Int:=IntKind.u64.wrap (AB .u64 h (IntKind.u64.wrap (c.toNat:Int)) * 1099511628211)
def nQ (h:Int) (s:bn):Int:=s.foldl sN h
def h0:Int:=14695981039346656037
theorem Kc (n:Int):0≤IntKind.u64.wrap n∧IntKind.u64.wrap n < 18446744073709551616:=by
 rw [IntKind.wrap_u64];omega
theorem GW:∀ (s:bn) (h:Int),0≤h∧h < 18446744073709551616→0≤nQ h s∧nQ h s < 18446744073709551616
 | [],h,hh=>hh
 | c :: s,h,hh=>GW s (sN h c) (Kc _)
theorem xor_zero {h:Int} (hh:0≤h∧h < 18446744073709551616):AB .u64 h 0=h:=by
 unfold AB
 have e:e6 IntKind.u64.bits 0=0#(IntKind.u64.bits):=by decide
 rw [e,BitVec.xor_zero,IntKind.wrap_u64,BitVec.toNat_ofInt]
 show ((h % ((2 ^ 64:Nat):Int)).toNat:Int) % 18446744073709551616=h
 omega
theorem LY {h:Int} (hh:0≤h∧h < 18446744073709551616):sN h 0=IntKind.u64.wrap (h * 1099511628211):=by
 unfold sN
 rw [show IntKind.u64.wrap (((0:UInt8).toNat:Nat):Int)=0 by decide,xor_zero hh]
theorem Nc (n4:Int) (s:bn) (hs:s.length≤1000):∀ (m i:Nat) (h:Int),i+m=s.length→uH n4 s h i=some (.inl (nQ h (s.drop i),bB (n4+1))):=by
 intro m
 induction m with
 | zero=>
   intro i h hi
   unfold uH
   rw [iter_eq,pT,if_neg (by simp only;omega),aY,bk (by omega)]
   rfl
 | succ m ih=>
   intro i h hi
   obtain ⟨c,hc,_,hd⟩:=ff s (i:=(i:Int)) (by omega) (by omega)
   rw [show ((i:Int)).toNat=i by omega,show ((i:Int)+1).toNat=i+1 by omega] at hd
   have w1:bB ((i:Int)+1)=((i+1:Nat):Int):=by rw [bl]<;>omega
   have U1:=ih (i+1) (sN h c) (by omega)
   unfold uH at U1 ⊢
   rw [iter_eq,pT,if_pos (by simp only;omega)]
   simp only [hc,aa,w1,bC,hd]
   exact U1
theorem Q6 (a b:bn) (ha:a.length≤1000) (hb:b.length≤1000):w6 [a,b]=some (nQ (IntKind.u64.wrap (nQ h0 a * 1099511628211)) b):=by
 unfold w6 Bx
 have e0:=Nc 0 a ha a.length 0 14695981039346656037 (by omega)
 have e1:=Nc 1 b hb b.length 0 (IntKind.u64.wrap (nQ h0 a * 1099511628211)) (by omega)
 rw [iter_eq,od,if_pos (by simp),show idx [a,b] 0=some a from rfl]
 simp only [aa]
 rw [if_neg (by omega)]
 unfold pU
 rw [show ((0:Nat):Int)=0 from rfl,bo] at e0
 rw [e0]
 simp only [aa,bC]
 rw [show bB (0+1)=1 by decide,iter_eq,od,if_pos (by simp),show idx [a,b] 1=some b from rfl]
 simp only [aa]
 rw [if_pos (by omega)]
 unfold pU
 rw [show ((0:Nat):Int)=0 from rfl,bo] at e1
 rw [show nQ 14695981039346656037 a=nQ h0 a from rfl,e1]
 simp only [aa,bC]
 rw [show bB (1+1)=2 by decide,iter_eq,od,if_neg (by simp),aY]
def xY (c:Campaign) (d:bn):Int:=bB ((AB .u64 (nQ (IntKind.u64.wrap (nQ h0 c.Key * 1099511628211)) d) (Hx .u64 (nQ (IntKind.u64.wrap (nQ h0 c.Key * 1099511628211)) d) 32)).tmod 1000)
theorem Ih (c:Campaign) (d:bn) (h1:c.Key.length≤1000) (h2:d.length≤1000):oe c d=some (xY c d):=by
 unfold oe
 rw [Q6 _ _ h1 h2];rfl
theorem TQ (s:bn) (hs:s.length≤3000):∀ (m i:Nat) (h:Int),i+m=s.length→By s h i=some (bB ((AB .u64 (nQ h (s.drop i)) (Hx .u64 (nQ h (s.drop i)) 32)).tmod 1000)):=by
 have Y1:(rb s).length=s.length:=by unfold rb;simp
 intro m
 induction m with
 | zero=>
   intro i h hi
   unfold By
   rw [iter_eq,xd,if_neg (by simp only;omega),aY,bk (by omega)]
   rfl
 | succ m ih=>
   intro i h hi
   obtain ⟨c,hc,_,hd⟩:=ff s (i:=(i:Int)) (by omega) (by omega)
   have hcb:idx (rb s) (i:Int)=some (c.toNat:Int):=by
    unfold idx at hc ⊢
    rw [if_pos (by omega)] at hc ⊢
    unfold rb
    rw [d4,hc];rfl
   rw [show ((i:Int)).toNat=i by omega,show ((i:Int)+1).toNat=i+1 by omega] at hd
   have w1:bB ((i:Int)+1)=((i+1:Nat):Int):=by rw [bl]<;>omega
   have U1:=ih (i+1) (sN h c) (by omega)
   unfold By at U1 ⊢
   rw [iter_eq,xd,if_pos (by simp only;omega)]
   simp only [hcb,aa,w1,bC,hd]
   exact U1
theorem Ii (c:Campaign) (d:bn) (h1:c.Key.length≤1000) (h2:d.length≤1000):EP c d=some (xY c d):=by
 unfold EP
 rw [QZ (by simp;omega)]
 simp only [aa]
 rw [QZ (by simp;omega)]
 simp only [aa]
 have e:=TQ (c.Key++[0]++d) (by simp;omega) (c.Key++[0]++d).length 0 h0 (by omega)
 have hh:nQ h0 (c.Key++[0]++d)=nQ (IntKind.u64.wrap (nQ h0 c.Key * 1099511628211)) d:=by
  unfold nQ
  rw [aw,aw,af,bm]
  have:=GW c.Key h0 (by unfold h0;omega)
  unfold nQ at this
  rw [LY this]
 rw [show ((0:Nat):Int)=0 from rfl,bo,hh] at e
 exact e
theorem Nd (c:Campaign) (d:bn):0≤xY c d∧xY c d < 1000:=by
 unfold xY
 have hx:=Kc ((e6 IntKind.u64.bits (nQ (IntKind.u64.wrap (nQ h0 c.Key * 1099511628211)) d) ^^^ e6 IntKind.u64.bits (Hx .u64 (nQ (IntKind.u64.wrap (nQ h0 c.Key * 1099511628211)) d) 32)).toNat:Int)
 change 0≤AB .u64 _ _∧AB .u64 _ _ < _ at hx
 have a1:=Int.tmod_nonneg 1000 hx.1
 have a2:=fv (AB .u64 (nQ (IntKind.u64.wrap (nQ h0 c.Key * 1099511628211)) d) (Hx .u64 (nQ (IntKind.u64.wrap (nQ h0 c.Key * 1099511628211)) d) 32)) (show (0:Int) < 1000 by omega)
 rw [bl (by omega) (by omega)]
 exact ⟨a1,a2⟩
theorem TR (c:Campaign) (hc:lB c) (v:Int) (hv:v < 1000):∀ (m k:Nat) (S:Int),k+m=c.aR.length→0≤S→S≤v→S+xu (c.aR.drop k)=1000→∃ j,lr c v S k=some j∧zc c (v - S) k=some j:=by
 have hlen:=hc.len
 intro m
 induction m with
 | zero=>
   intro k S hk h1 h2 h3
   rw [bk (by omega)] at h3
   simp [xu] at h3
   omega
 | succ m ih=>
   intro k S hk h1 h2 h3
   obtain ⟨w,hw,hm,hd⟩:=ff c.aR (i:=(k:Int)) (by omega) (by omega)
   rw [show ((k:Int)).toNat=k by omega,show ((k:Int)+1).toNat=k+1 by omega] at hd
   have hp:=hc.part w hm
   have w1:bB ((k:Int)+1)=((k+1:Nat):Int):=by rw [bl]<;>omega
   have h4:S+w.Part+xu (c.aR.drop (k+1))=1000:=by
    rw [hd] at h3
    unfold xu at h3 ⊢
    rw [bp,d2] at h3
    omega
   unfold lr zc
   rw [iter_eq,iter_eq,jh,tZ,if_pos (by simp only;omega),if_pos (by simp only;omega),hw]
   simp only [aa]
   rw [bl (x:=S+w.Part) (by omega) (by omega),bl (x:=v - S - w.Part) (by omega) (by omega),w1]
   by_cases hq:v < S+w.Part
   ·rw [if_pos hq,if_pos (by omega)]
    exact ⟨k,rfl,rfl⟩
   ·rw [if_neg hq,if_neg (by omega)]
    simp only [aa,bC]
    have:=ih (k+1) (S+w.Part) (by omega) (by omega) (by omega) h4
    rw [show v - S - w.Part=v - (S+w.Part) by omega]
    exact this
theorem xv {s:bn} (h:ql s=true):s.length≤40:=by
 cases s with
 | nil=>simp
 | cons c r=>rw [xo] at h;simp at h;simp;omega
def Xx (n:Int):Prop:=-1099511627777≤n∧n≤1099511627777
theorem DF {s:AS} {K:Int} (hs:uE s K) (hK:40≤K):sE (jE s) (K - 40) (fun c=>Xx c.At∧c.aR.length≤10):=by
 refine sE.of ?_
 unfold jE
 refine Ok.gen (AU hs (by omega) (by simp) (by simp)) (fun q s1 hq q1=>?_)
 refine Ok.gen (lQ q1 (by omega) (by simp) (by simp)) (fun a s2 ha q2=>?_)
 refine Ok.gen (lQ q2 (by omega) (by simp) (by simp)) (fun b s3 hb q3=>?_)
 refine Ok.gen (lQ q3 (by omega) (by simp) (by simp)) (fun d s4 hd q4=>?_)
 refine Ok.gen (zp q4 (by omega) (by omega) (by omega)) (fun e s5 he q5=>?_)
 refine Ok.idx he.1 (by simpa using he.2) (fun ps SR UN=>?_)
 have Vi:ps.length≤3:=by
  simp only [ad,fz,or_false] at UN
  rcases UN with h | h | h | h<;>subst h<;>simp
 have hbB:Xx b:=by simp at hb;unfold Xx;omega
 dsimp only
 unfold rB
 refine Ok.iter (fun x:List Int×Int×List mH×Int=>(ps.length - x.2.2.2).toNat) (fun x:List Int×Int×List mH×Int=>0≤x.2.2.2∧x.2.2.2≤ps.length∧uE ⟨x.1,x.2.1⟩ (K - 37+3 * (ps.length - x.2.2.2))∧(x.2.2.1.length:Int)=x.2.2.2) ?_ _ ⟨by simp,by simp,q5.less (by simp only;omega),by simp⟩
 rintro ⟨L,a2,l,n⟩ ⟨g0,g1,g2,g3⟩
 simp only at g0 g1 g2 g3 ⊢
 unfold ic
 by_cases hn:n < ps.length
 ·rw [if_pos hn]
  refine Ok.idx g0 hn (fun p hp _=>?_)
  refine Ok.gen (lQ g2 (by omega) (by simp) (by simp)) (fun u s6 _ q6=>?_)
  refine Ok.gen (lQ q6 (by omega) (by simp) (by simp)) (fun v s7 _ q7=>?_)
  refine Ok.gen (lQ q7 (by omega) (by simp) (by simp)) (fun w s8 _ q8=>?_)
  refine Ok.app (by simp;omega) ?_
  refine Ok.ret ?_
  rw [bl (by omega) (by omega)]
  exact ⟨⟨by simp only;omega,by simp only;omega,q8.less (by simp only;omega),by simp;omega⟩,by simp only;omega⟩
 ·rw [if_neg hn]
  refine Ok.inr ?_
  unfold nh ib
  refine Ok.gen (tu g2 (by omega) (by omega) (by omega)) (fun c s6 _ q6=>?_)
  dsimp only
  split
  ·refine Ok.gen (lQ q6 (by omega) (by simp) (by simp)) (fun u s7 _ q7=>?_)
   refine Ok.gen (lQ q7 (by omega) (by simp) (by simp)) (fun v s8 _ q8=>?_)
   exact Ok.ret ⟨⟨hbB,by simp only;omega⟩,q8.less (by omega)⟩
  ·exact Ok.ret ⟨⟨hbB,by simp only;omega⟩,q6.less (by omega)⟩
theorem GX {s:AS} {K:Int} (hs:uE s K) (hK:10≤K):sE (fQ s) (K - 10) (fun _=>True):=by
 refine sE.of ?_
 unfold fQ jO
 have hr:sE (gA s) (K - 3) (fun _=>True):=by
  refine sE.of ?_
  unfold gA
  refine Ok.gen (BO hs (by omega) (by omega) (by omega) (by omega)) (fun a s1 _ q1=>?_)
  refine Ok.gen (lQ q1 (by omega) (by simp) (by simp)) (fun b s2 _ q2=>?_)
  refine Ok.gen (lQ q2 (by omega) (by simp) (by simp)) (fun d s3 _ q3=>?_)
  exact Ok.ret ⟨trivial,q3.less (by omega)⟩
 refine Ok.gen hr (fun v s1 _ q1=>?_)
 refine Ok.gen (tu q1 (by omega) (by omega) (by omega)) (fun c s2 _ q2=>?_)
 dsimp only
 split
 ·refine Ok.gen (vv q2 (by omega) (by omega) (by omega) (by omega)) (fun b s3 _ q3=>?_)
  refine Ok.gen (vv q3 (by omega) (by omega) (by omega) (by omega)) (fun d s4 _ q4=>?_)
  exact Ok.ret ⟨trivial,q4.less (by omega)⟩
 ·exact Ok.ret ⟨trivial,q2.less (by omega)⟩
theorem LZ {s:AS} {K:Int} (hs:uE s K) (hK:70≤K):sE (ox s) (K - 70) (fun c=>Xx c.At):=by
 refine sE.of ?_
 unfold ox ll lj lh lg lf kZ
 refine Ok.gen (DF hs (by omega)) (fun c s1 hc q1=>?_)
 have KP:=hc.1
 refine Ok.gen (tu q1 (by omega) (by omega) (by omega)) (fun b s2 _ q2=>?_)
 dsimp only
 split
 ·refine Ok.gen (zp q2 (by omega) (by omega) (by omega)) (fun n s3 _ q3=>?_)
  dsimp only
  split
  ·refine Ok.gen (AU q3 (by omega) (by simp) (by simp)) (fun q s4 _ q4=>?_)
   exact Ok.ret ⟨KP,q4.less (by omega)⟩
  ·split
   ·refine Ok.gen (GX q3 (by omega)) (fun q s4 _ q4=>?_)
    exact Ok.ret ⟨KP,q4.less (by omega)⟩
   ·split
    ·refine Ok.gen (vv q3 (by omega) (by omega) (by omega) (by omega)) (fun q s4 hq q4=>?_)
     exact Ok.ret ⟨hq,q4.less (by omega)⟩
    ·split
     ·refine Ok.gen (vv q3 (by omega) (by omega) (by omega) (by omega)) (fun u s4 _ q4=>?_)
      refine Ok.gen (vv q4 (by omega) (by omega) (by omega) (by omega)) (fun v s5 _ q5=>?_)
      refine Ok.gen (vv q5 (by omega) (by omega) (by omega) (by omega)) (fun w s6 _ q6=>?_)
      refine Ok.gen (vv q6 (by omega) (by omega) (by omega) (by omega)) (fun x s7 _ q7=>?_)
      dsimp only
      refine Ok.app (by have:=hc.2;simp;omega) ?_
      exact Ok.ret ⟨KP,q7.less (by omega)⟩
     ·split
      ·refine Ok.gen (vv q3 (by omega) (by omega) (by omega) (by omega)) (fun u s4 _ q4=>?_)
       refine Ok.gen (vv q4 (by omega) (by omega) (by omega) (by omega)) (fun v s5 _ q5=>?_)
       exact Ok.ret ⟨KP,q5.less (by omega)⟩
      ·refine Ok.gen (vv q3 (by omega) (by omega) (by omega) (by omega)) (fun u s4 _ q4=>?_)
       exact Ok.ret ⟨KP,q4.less (by omega)⟩
 ·exact Ok.ret ⟨KP,q2.less (by omega)⟩
def MG (k:Int) (l:List MarkS):Prop:=(l.length:Int)≤k∧∀ x∈l,MB x
theorem MG.perm {k:Int} {l Z:List MarkS} (h:MG k l) (hp:Z.Perm l):MG k Z:=⟨by rw [hp.length_eq];exact h.1,fun c hc=>h.2 c (hp.mem_iff.1 hc)⟩
theorem MG.sub {k:Int} {l Z:List MarkS} (h:MG k l) (hp:Z.Sublist l):MG k Z:=⟨by have:=hp.length_le;have:=h.1;omega,fun c hc=>h.2 c (hp.subset hc)⟩
theorem MG.snoc {k:Int} {l:List MarkS} (h:MG k l) {c:MarkS} (hc:MB c):MG (k+1) (l++[c]):=
 ⟨by have:=h.1;simp;omega,fun x hx=>by
  rcases d3.1 hx with e | e
  ·exact h.2 x e
  ·rw [e5] at e;subst e;exact hc⟩
theorem TS {s:AS} {c:Campaign} {fl:List DeviceS} {many K:Int} (hs:uE s K) (hm:0≤many∧many≤20) (hK:400≤K) (hc:Xx c.At) (hf:fl.length≤1000):sE (r9 s c fl many) (K - 400) (MG many):=by
 refine sE.of ?_
 unfold r9 yd
 refine Ok.iter (fun x:List Int×Int×List MarkS×Int×Int=>(many - x.2.2.2.2).toNat) (fun x:List Int×Int×List MarkS×Int×Int=>0≤x.2.2.2.2∧x.2.2.2.2≤many∧uE ⟨x.1,x.2.1⟩ (K - 390+15 * (many - x.2.2.2.2))∧MG x.2.2.2.2 x.2.2.1∧(-1099511627777≤x.2.2.2.1∧x.2.2.2.1≤1099511627777+10 * x.2.2.2.2)) ?_ _ ⟨by simp,by simp only;omega,hs.less (by simp only;omega),⟨by simp,by simp⟩,by unfold Xx at hc;simp only;omega⟩
 rintro ⟨L,a,l,t,n⟩ ⟨g0,g1,g2,g3,g4⟩
 simp only at g0 g1 g2 g3 g4 ⊢
 have hll:=g3.1
 unfold oI
 by_cases hn:n < many
 ·rw [if_pos hn]
  refine Ok.gen (lQ g2 (by omega) (by simp) (by simp)) (fun p1 s1 h1 q1=>?_)
  refine Ok.gen (AU q1 (by omega) (by simp) (by simp)) (fun p2 s2 h2 q2=>?_)
  refine Ok.gen (BO q2 (by omega) (by omega) (by omega) (by omega)) (fun p3 s3 h3 q3=>?_)
  refine Ok.gen (lQ q3 (by omega) (by simp) (by simp)) (fun p4 s4 h4 q4=>?_)
  have vA:0≤p1∧p1≤10:=by simp at h1;omega
  dsimp only
  have j8:∀ (Y2 Y3 Y4:Int) (L':List Int) (a':Int) (at':Int) (q:bn) (kd:Int),(-1099511627777≤at'∧at'≤2099511627777)→uE ⟨L',a'⟩ (K - 390+15 * (many - n - 1))→
   Ok (lT l t n (p1,s1) Y2 Y3 Y4 L' a' at' q kd) (O4 (fun x:List Int×Int×List MarkS×Int×Int=>(many - x.2.2.2.2).toNat) (fun x:List Int×Int×List MarkS×Int×Int=>0≤x.2.2.2.2∧x.2.2.2.2≤many∧uE ⟨x.1,x.2.1⟩ (K - 390+15 * (many - x.2.2.2.2))∧MG x.2.2.2.2 x.2.2.1∧(-1099511627777≤x.2.2.2.1∧x.2.2.2.1≤1099511627777+10 * x.2.2.2.2)) (fun r=>MG many r.1∧uE r.2 (K - 400)) (L,a,l,t,n)):=by
   intro Y2 Y3 Y4 L' a' at' q kd sB C9
   unfold lT
   refine Ok.app (by simp;omega) ?_
   refine Ok.ret ?_
   rw [bl (x:=t+p1) (by omega) (by omega),bl (x:=n+1) (by omega) (by omega)]
   exact ⟨⟨by simp only;omega,by simp only;omega,C9.less (by simp only;omega),g3.snoc (by unfold MB;simp only;omega),by simp only;omega⟩,by simp only;omega⟩
  have j3:∀ (q:bn) (L':List Int) (a' kd Y2 Y3 Y4:Int),uE ⟨L',a'⟩ (K - 390+15 * (many - n - 1)+6)→
   Ok (lU l t n (p1,s1) q L' a' kd Y2 Y3 Y4) (O4 (fun x:List Int×Int×List MarkS×Int×Int=>(many - x.2.2.2.2).toNat) (fun x:List Int×Int×List MarkS×Int×Int=>0≤x.2.2.2.2∧x.2.2.2.2≤many∧uE ⟨x.1,x.2.1⟩ (K - 390+15 * (many - x.2.2.2.2))∧MG x.2.2.2.2 x.2.2.1∧(-1099511627777≤x.2.2.2.1∧x.2.2.2.1≤1099511627777+10 * x.2.2.2.2)) (fun r=>MG many r.1∧uE r.2 (K - 400)) (L,a,l,t,n)):=by
   intro q L' a' kd Y2 Y3 Y4 C9
   unfold lU
   refine Ok.gen (tu C9 (by omega) (by omega) (by omega)) (fun b s5 _ q5=>?_)
   dsimp only
   split
   ·refine Ok.gen (vv q5 (by omega) (by omega) (by omega) (by omega)) (fun u s6 hu q6=>?_)
    refine Ok.gen (AU q6 (by omega) (by simp) (by simp)) (fun v s7 _ q7=>?_)
    refine Ok.gen (vv q7 (by omega) (by omega) (by omega) (by omega)) (fun w s8 _ q8=>?_)
    exact j8 _ _ _ _ _ _ _ _ (by omega) (q8.less (by omega))
   ·rw [bl (x:=t+p1) (by omega) (by omega)]
    exact j8 _ _ _ _ _ _ _ _ (by omega) (q5.less (by omega))
  have j2:∀ (q:bn) (L':List Int) (a':Int),uE ⟨L',a'⟩ (K - 390+15 * (many - n - 1)+8)→
   Ok (lV l t n (p1,s1) (p3,s3) (p4,s4) L' a' q) (O4 (fun x:List Int×Int×List MarkS×Int×Int=>(many - x.2.2.2.2).toNat) (fun x:List Int×Int×List MarkS×Int×Int=>0≤x.2.2.2.2∧x.2.2.2.2≤many∧uE ⟨x.1,x.2.1⟩ (K - 390+15 * (many - x.2.2.2.2))∧MG x.2.2.2.2 x.2.2.1∧(-1099511627777≤x.2.2.2.1∧x.2.2.2.1≤1099511627777+10 * x.2.2.2.2)) (fun r=>MG many r.1∧uE r.2 (K - 400)) (L,a,l,t,n)):=by
   intro q L' a' C9
   unfold lV
   refine Ok.gen (tu C9 (by omega) (by omega) (by omega)) (fun b s5 _ q5=>?_)
   dsimp only
   split
   ·unfold yc
    refine Ok.iter (fun x:Int×bn×Int×Int×Int×Int×Int=>(l.length - x.2.2.2.2.2.2).toNat) (fun x:Int×bn×Int×Int×Int×Int×Int=>0≤x.2.2.2.2.2.2∧x.2.2.2.2.2.2≤l.length) ?_ _ ⟨by simp,by simp⟩
    rintro ⟨y1,y2,y3,y4,y5,y6,y7⟩ ⟨k0,k1⟩
    simp only at k0 k1 ⊢
    unfold oG
    by_cases hy:y7 < l.length
    ·rw [if_pos hy]
     refine Ok.idx k0 hy (fun p hp _=>?_)
     unfold oD
     rw [bl (by omega) (by omega)]
     split<;>exact Ok.ret ⟨⟨by simp only;omega,by simp only;omega⟩,by simp only;omega⟩
    ·rw [if_neg hy]
     refine Ok.inr ?_
     unfold ur oF oE
     split
     ·refine Ok.gen (lQ q5 (by omega) (by simp) (by simp)) (fun u s6 hu q6=>?_)
      exact j3 _ _ _ _ _ _ _ (q6.less (by omega))
     ·split
      ·refine Ok.gen (lQ q5 (by omega) (by simp) (by simp)) (fun u s6 hu q6=>?_)
       exact j3 _ _ _ _ _ _ _ (q6.less (by omega))
      ·exact j3 _ _ _ _ _ _ _ (q5.less (by omega))
   ·exact j3 _ _ _ _ _ _ _ (q5.less (by omega))
  unfold oH
  split
  ·rename_i tQ
   refine Ok.gen (tu q4 (by omega) (by omega) (by omega)) (fun b s5 _ q5=>?_)
   dsimp only
   split
   ·refine Ok.gen (zp q5 (by omega) (by omega) (by omega)) (fun u s6 hu q6=>?_)
    dsimp only
    refine Ok.idx hu.1 hu.2 (fun p hp _=>?_)
    exact j2 _ _ _ (q6.less (by omega))
   ·exact j2 _ _ _ (q5.less (by omega))
  ·rw [if_neg (by simp)]
   exact j2 _ _ _ (q4.less (by omega))
 ·rw [if_neg hn]
  refine Ok.inr ?_
  unfold uu
  have FI:MG many l:=⟨by omega,g3.2⟩
  obtain ⟨Z,z1,z2,_⟩:=Kb (fun y0 y1=>some (ie y0 y1)) l (by omega) (fun x hx y hy=>by rw [Ka g3.2 x hx y hy])
  rw [z1]
  simp only [aa]
  refine Ok.gen (tu g2 (by omega) (by omega) (by omega)) (fun b s5 _ q5=>?_)
  dsimp only
  split
  ·exact Ok.ret ⟨FI.perm z2,q5.less (by omega)⟩
  ·rw [Ic (fun y0 y1=>some (oC y0 y1)) oC Z (by have:=z2.length_eq;omega) (fun x _ y _=>rfl)]
   exact Ok.ret ⟨(FI.perm z2).sub (Wm _ _),q5.less (by omega)⟩
def Q7 (k:Int) (off:Version) (m:MarkS):Bool:=
 if m.Kind=1 then decide (k=0∨k=3∨k=4) else if m.Kind=2∨m.Kind=5 then decide (k=1∧m.Version=off) else decide (k=2∧m.Version=off)
def A8 (x:ao) (m:MarkS):ao:=
 ⟨⟨m.Kind,m.At,if m.Kind=3 then m.Version else x.ak.Version,if m.Kind=4 then bB (x.ak.et+1) else x.ak.et⟩,m.Version⟩
def Kd (x:ao) (m:MarkS):Bool:=Q7 x.ak.Kind x.bb m
def Cb (x:ao) (m:MarkS):ao:=if Kd x m=true then A8 x m else x
def x0 (d:DeviceS):ao:=⟨⟨0,0,d.bQ,0⟩,⟨0,0,0⟩⟩
theorem OD (x:ao) (m:MarkS) (b:Bool):eE x m b=if b=true then (true,A8 x m) else (false,x):=by
 unfold eE gr gq A8
 cases b
 ·rfl
 ·simp only [ap,ai,if_false,if_true]
  by_cases h3:m.Kind=3
  ·rw [if_pos h3,if_pos h3,if_neg (by omega)]
  ·rw [if_neg h3,if_neg h3]
   by_cases h4:m.Kind=4
   ·rw [if_pos h4,if_pos h4]
   ·rw [if_neg h4,if_neg h4]
theorem follow_eq (x:ao) (m:MarkS):aU x m=if Kd x m=true then (true,A8 x m) else (false,x):=by
 unfold aU iS gw iT iU gu
 simp only [OD]
 unfold Kd Q7
 by_cases h1:m.Kind=1
 ·rw [if_pos h1,if_pos h1]
  rw [show (decide (x.ak.Kind=0)||(decide (x.ak.Kind=3)||decide (x.ak.Kind=4)))=decide (x.ak.Kind=0∨x.ak.Kind=3∨x.ak.Kind=4) by rw [al];simp]
 ·rw [if_neg h1,if_neg h1]
  by_cases h2:m.Kind=2
  ·rw [if_pos h2,if_pos (Or.inl h2),if_pos (by simp [h2])]
   rw [show (decide (x.ak.Kind=1)&&decide (m.Version=x.bb))=decide (x.ak.Kind=1∧m.Version=x.bb) by rw [al];simp]
  ·rw [if_neg h2]
   by_cases h5:m.Kind=5
   ·rw [if_pos (Or.inr h5),if_pos (by simp [h5])]
    rw [show (decide (x.ak.Kind=1)&&decide (m.Version=x.bb))=decide (x.ak.Kind=1∧m.Version=x.bb) by rw [al];simp]
   ·rw [if_neg (show ¬ decide (m.Kind=5)=true by simp [h5]),if_neg (show ¬ (m.Kind=2∨m.Kind=5) by omega)]
    rw [show (decide (x.ak.Kind=2)&&decide (m.Version=x.bb))=decide (x.ak.Kind=2∧m.Version=x.bb) by rw [al];simp]
theorem Q8 (x:ao) (m:MarkS):(aU x m).1=Kd x m:=by
 rw [follow_eq];split
 ·rename_i h;rw [h]
 ·rename_i h;simp only [f0] at h;rw [h]
theorem Fm (x:ao) (m:MarkS):(aU x m).2=Cb x m:=by
 rw [follow_eq];unfold Cb;split<;>rfl
def uk (c:Campaign) (k:bn) (m:MarkS):Bool:=decide (m.Device=k)&&decide (c.At≤m.At)
def yB (c:Campaign) (k:bn) (at_:Int) (m:MarkS):Bool:=decide (m.Device=k)&&(decide (c.At≤m.At)&&decide (m.At≤at_))
def BY (c:Campaign) (d:DeviceS) (l:List MarkS) (at_:Int):ao:=(l.filter (yB c d.Key at_)).foldl Cb (x0 d)
def pK (l:List MarkS):Int×Version:=match l.getLast? with
 | some m=>(m.Kind,m.Version)
 | none=>(0,⟨0,0,0⟩)
def yC (l:List MarkS) (m:MarkS):List MarkS:=if Q7 (pK l).1 (pK l).2 m=true then l++[m] else l
theorem Ij:∀ (ms A:List MarkS) (d:DeviceS) (x:ao),x=A.foldl A8 (x0 d)→(x.ak.Kind,x.bb)=pK A→ms.foldl Cb x=(ms.foldl yC A).foldl A8 (x0 d)
 | [],A,d,x,h,_=>h
 | m :: r,A,d,x,h,hk=>by
   rw [af,af]
   have e:Kd x m=Q7 (pK A).1 (pK A).2 m:=by unfold Kd;rw [← hk]
   by_cases ho:Q7 (pK A).1 (pK A).2 m=true
   ·rw [show yC A m=A++[m] by unfold yC;rw [if_pos ho],show Cb x m=A8 x m by unfold Cb;rw [e,if_pos ho]]
    refine Ij r (A++[m]) d _ ?_ ?_
    ·rw [aw,← h];rfl
    ·unfold pK;rw [d5];rfl
   ·rw [show yC A m=A by unfold yC;rw [if_neg ho],show Cb x m=x by unfold Cb;rw [e,if_neg ho]]
    exact Ij r A d x h hk
theorem Q9 (x:Int):(dF [0,3,4] x=some (decide (x=0∨x=3∨x=4)))∧(∀ a,dF [a] x=some (decide (x=a))):=by
 constructor
 ·unfold dF jI nF
  rw [iter_eq,cJ,if_pos (by decide),show idx [(0:Int),3,4] 0=some 0 from rfl]
  simp only [aa]
  by_cases h0:x=0
  ·rw [if_pos h0,aY];simp [h0]
  ·rw [if_neg h0,aa,bC,iter_eq,cJ,show bB (0+1)=1 from rfl,if_pos (by decide),show idx [(0:Int),3,4] 1=some 3 from rfl]
   simp only [aa]
   by_cases h3:x=3
   ·rw [if_pos h3,aY];simp [h3]
   ·rw [if_neg h3,aa,bC,iter_eq,cJ,show bB (1+1)=2 from rfl,if_pos (by decide),show idx [(0:Int),3,4] 2=some 4 from rfl]
    simp only [aa]
    by_cases h4:x=4
    ·rw [if_pos h4,aY];simp [h4]
    ·rw [if_neg h4,aa,bC,iter_eq,cJ,show bB (2+1)=3 from rfl,if_neg (by decide),aY];simp [h0,h3,h4]
 ·intro a
  unfold dF jI nF
  rw [iter_eq,cJ,if_pos (by simp),show idx [a] 0=some a from rfl]
  simp only [aa]
  by_cases h0:x=a
  ·rw [if_pos h0,aY];simp [h0]
  ·rw [if_neg h0,aa,bC,iter_eq,cJ,show bB (0+1)=1 from rfl,if_neg (by simp),aY];simp [h0]
theorem TT (k:Int) (hk:1≤k∧k≤5):pc (bW (bW (bW (bW (bW ([]:List (Int×(List Int))) (1:Int) [(0:Int),(3:Int),(4:Int)]) (2:Int) [(1:Int)]) (5:Int) [(1:Int)]) (3:Int) [(2:Int)]) (4:Int) [(2:Int)]) k []=some (if k=1 then [0,3,4] else if k=2∨k=5 then [1] else [2]):=by
 have:k=1∨k=2∨k=3∨k=4∨k=5:=by omega
 unfold pc
 simp only [iG,zo]
 rcases this with h | h | h | h | h<;>subst h<;>simp
theorem Dd (l6:List MarkS) (n7:Int) (q:MarkS) (a:Int) (b:bn) (k x y z:Int) (hq:1≤q.Kind∧q.Kind≤5) (hl:(l6.length:Int)≤1000000):oP l6 n7 q a b k x y z=some (.inl (if Q7 k ⟨x,y,z⟩ q=true then l6++[q] else l6,bB (n7+1))):=by
 unfold oP
 rw [TT q.Kind hq]
 simp only [aa]
 have hc:dF (if q.Kind=1 then [0,3,4] else if q.Kind=2∨q.Kind=5 then [1] else [2]) k=some (if q.Kind=1 then decide (k=0∨k=3∨k=4) else if q.Kind=2∨q.Kind=5 then decide (k=1) else decide (k=2)):=by
  split
  ·exact (Q9 k).1
  ·split
   ·exact (Q9 k).2 1
   ·exact (Q9 k).2 2
 rw [hc]
 simp only [aa]
 have e:((if q.Kind=1 then decide (k=0∨k=3∨k=4) else if q.Kind=2∨q.Kind=5 then decide (k=1) else decide (k=2))&&(decide (q.Kind=1)||decide (q.Version=⟨x,y,z⟩)))=Q7 k ⟨x,y,z⟩ q:=by
  unfold Q7
  split
  ·rename_i h;simp [h]
  ·rename_i h
   split
   ·simp [h]
   ·simp [h]
 rw [e]
 unfold tD qy oO
 split
 ·rw [pJ (by simp;omega)];rfl
 ·rfl
theorem Aq (c:Campaign) (k:bn) (l:List MarkS) (at_:Int) (hl:(l.length:Int)≤100000) (hK:∀ q∈l,1≤q.Kind∧q.Kind≤5):∀ (m n:Nat) (A:List MarkS),n+m=l.length→A.length≤n→
 tE c k l at_ A (n:Int)=some (((l.drop n).filter (yB c k at_)).foldl yC A)
 | 0,n,A,h,ha=>by
   unfold tE
   rw [iter_eq,oQ,if_neg (by simp only;omega),bk (by omega),aY]
   rfl
 | m+1,n,A,h,ha=>by
   obtain ⟨q,hq,TU,hd⟩:=ff l (i:=(n:Int)) (by omega) (by omega)
   rw [show ((n:Int)).toNat=n by omega,show ((n:Int)+1).toNat=n+1 by omega] at hd
   have w1:bB ((n:Int)+1)=((n+1:Nat):Int):=by rw [bl]<;>omega
   have ih:=fun A ha=>Aq c k l at_ hl hK m (n+1) A (by omega) ha
   unfold tE at ih ⊢
   rw [iter_eq,oQ,if_pos (by simp only;omega),hd,aI]
   simp only
   rw [hq]
   simp only [aa]
   rw [show (decide (q.Device≠k)||(decide (q.At < c.At)||decide (at_ < q.At)))=!(yB c k at_ q) by unfold yB;rw [al];simp [eX]]
   unfold mM
   by_cases hr:yB c k at_ q=true
   ·rw [if_neg (by simp [hr]),if_pos hr,af]
    have last:mM A (n:Int) q false=some (.inl (yC A q,bB ((n:Int)+1))):=by
     unfold mM
     rw [if_neg (by simp)]
     rcases List.eq_nil_or_concat A with rfl | ⟨B,p,rfl⟩
     ·rw [if_neg (by decide),Dd _ _ _ _ _ _ _ _ _ (hK q TU) (by simp)];rfl
     ·rw [List.concat_eq_append] at ha ⊢
      rw [cy,d6] at ha
      have wl:bB (((B++[p]).length:Int) - 1)=(B.length:Int):=by rw [cy,d6,bl]<;>omega
      rw [wl,if_pos (by omega),BJ B p [] rfl]
      simp only [aa]
      rw [Dd _ _ _ _ _ _ _ _ _ (hK q TU) (by simp;omega)]
      unfold yC pK
      rw [d5]
    unfold mM at last
    rw [if_neg (by simp)] at last
    rw [last]
    simp only [aa,bC]
    rw [w1]
    refine ih _ ?_
    unfold yC;split
    ·simp;omega
    ·omega
   ·rw [if_pos (by simp [hr]),if_neg hr]
    unfold oO
    simp only [aa,bC]
    rw [w1]
    exact ih A (by omega)
theorem De (c:Campaign) (k:bn) (l:List MarkS) (at_:Int) (hl:(l.length:Int)≤100000) (hK:∀ q∈l,1≤q.Kind∧q.Kind≤5):ta c k l at_=some ((l.filter (yB c k at_)).foldl yC []):=by
 have:=Aq c k l at_ hl hK l.length 0 [] (by simp) (by simp)
 rw [bo] at this
 exact this
theorem Fo:∀ (ms A:List MarkS),(ms.foldl yC A).length≤A.length+ms.length
 | [],A=>by simp
 | m :: r,A=>by
   rw [af]
   have:=Fo r (yC A m)
   have:(yC A m).length≤A.length+1:=by unfold yC;split<;>simp
   rw [cv];omega
theorem Ar (v:List MarkS) (hl:(v.length:Int)≤100000):∀ (m n:Nat) (x:ao),n+m=v.length→
 tF v x.ak.Kind x.ak.Since x.ak.Version.aA x.ak.Version.aC x.ak.Version.aD x.ak.et (n:Int)=some ((v.drop n).foldl A8 x).ak
 | 0,n,x,h=>by
   unfold tF
   rw [iter_eq,oR,if_neg (by simp only;omega),bk (by omega),aY]
   rfl
 | m+1,n,x,h=>by
   obtain ⟨q,hq,TU,hd⟩:=ff v (i:=(n:Int)) (by omega) (by omega)
   rw [show ((n:Int)).toNat=n by omega,show ((n:Int)+1).toNat=n+1 by omega] at hd
   have w1:bB ((n:Int)+1)=((n+1:Nat):Int):=by rw [bl]<;>omega
   have ih:=Ar v hl m (n+1) (A8 x q) (by omega)
   unfold tF at ih ⊢
   rw [iter_eq,oR,if_pos (by simp only;omega),hd,af]
   simp only
   rw [hq]
   simp only [aa]
   unfold qA qz
   rw [w1]
   by_cases h3:q.Kind=3
   ·rw [show A8 x q=⟨⟨q.Kind,q.At,q.Version,x.ak.et⟩,q.Version⟩ by unfold A8;rw [if_pos h3,if_neg (by omega)]] at ih ⊢
    rw [if_pos h3]
    simp only [aa,bC]
    exact ih
   ·rw [if_neg h3]
    by_cases h4:q.Kind=4
    ·rw [show A8 x q=⟨⟨q.Kind,q.At,x.ak.Version,bB (x.ak.et+1)⟩,q.Version⟩ by unfold A8;rw [if_neg h3,if_pos h4]] at ih ⊢
     rw [if_pos h4]
     simp only [aa,bC]
     exact ih
    ·rw [show A8 x q=⟨⟨q.Kind,q.At,x.ak.Version,x.ak.et⟩,q.Version⟩ by unfold A8;rw [if_neg h3,if_neg h4]] at ih ⊢
     rw [if_neg h4]
     simp only [aa,bC]
     exact ih
theorem zt (c:Campaign) (d:DeviceS) (l:List MarkS) (at_:Int) (hl:(l.length:Int)≤10000) (hK:∀ q∈l,1≤q.Kind∧q.Kind≤5):ri c d l at_=some (BY c d l at_).ak:=by
 unfold ri
 rw [De c d.Key l at_ (by omega) hK]
 simp only [aa]
 have hx:=Fo (l.filter (yB c d.Key at_)) []
 have hf:=cf (yB c d.Key at_) l
 have:=Ar ((l.filter (yB c d.Key at_)).foldl yC []) (by simp at hx;omega) _ 0 (x0 d) (cS _)
 rw [bo] at this
 unfold BY
 rw [Ij _ [] d (x0 d) rfl rfl]
 exact this
abbrev CS:=ax
theorem tN {α:Type} {xs:List α} {i:Nat} {x:α} (h:xs[i]? =some x):idx xs (i:Int)=some x:=by
 unfold idx;rw [if_pos (by omega)];simpa using h
theorem OE (c:Campaign) (hc:lB c) (v:Int) (hv:v < 1000):∀ (m k:Nat) (S:Int),k+m=c.aR.length→0≤S→S≤v→S+xu (c.aR.drop k)=1000→∃ j:Int,lr c v S k=some j∧0≤j∧j < c.aR.length:=by
 have hlen:=hc.len
 intro m
 induction m with
 | zero=>
   intro k S hk h1 h2 h3
   rw [bk (by omega)] at h3
   simp [xu] at h3
   omega
 | succ m ih=>
   intro k S hk h1 h2 h3
   obtain ⟨w,hw,hm,hd⟩:=ff c.aR (i:=(k:Int)) (by omega) (by omega)
   rw [show ((k:Int)).toNat=k by omega,show ((k:Int)+1).toNat=k+1 by omega] at hd
   have hp:=hc.part w hm
   have w1:bB ((k:Int)+1)=((k+1:Nat):Int):=by rw [bl]<;>omega
   have h4:S+w.Part+xu (c.aR.drop (k+1))=1000:=by
    rw [hd] at h3
    unfold xu at h3 ⊢
    rw [bp,d2] at h3
    omega
   unfold lr
   rw [iter_eq,jh,if_pos (by simp only;omega),hw]
   simp only [aa]
   rw [bl (x:=S+w.Part) (by omega) (by omega),w1]
   by_cases hq:v < S+w.Part
   ·rw [if_pos hq]
    exact ⟨k,rfl,by omega,by omega⟩
   ·rw [if_neg hq]
    simp only [aa,bC]
    exact ih (k+1) (S+w.Part) (by omega) (by omega) (by omega) h4
noncomputable def qg (c:Campaign) (k:bn):Nat:=((gX c k).getD 0).toNat
theorem BZ (c:Campaign) (hc:lB c) (k:bn) (hk:ql k=true):gX c k=some (qg c k:Int)∧qg c k < c.aR.length:=by
 have h1:=xv hc.key
 have h2:=xv hk
 have Y5:=Nd c k
 obtain ⟨j,j1,j2,j3⟩:=OE c hc (xY c k) Y5.2 c.aR.length 0 0 (by omega) (by omega) Y5.1 (by rw [bo,hc.sum];rfl)
 have e:gX c k=some j:=by
  unfold gX
  rw [Ih c k (by omega) (by omega)]
  exact j1
 unfold qg
 rw [e,e8]
 exact ⟨by rw [show ((j.toNat:Nat):Int)=j by omega],by omega⟩
structure mV (l:List DeviceS):Prop where
 key:∀ d∈l,ql d.Key=true
 U2:(l.map DeviceS.Key).Nodup
def cq:List DeviceS→Nat→List (bn×Int)
 | [],_=>[]
 | d :: r,k=>(d.Key,(k:Int)) :: cq r (k+1)
theorem GY (d:DeviceS):∀ (l:List DeviceS) (k:Nat),cq (l++[d]) k=cq l k++[(d.Key,((k+l.length:Nat):Int))]
 | [],k=>by simp [cq]
 | x :: r,k=>by
   rw [eH,cq,GY d r (k+1),cq,eH,cv,show k+1+r.length=k+(r.length+1) by omega]
theorem Ke:∀ (l:List DeviceS) (k:Nat),(cq l k).map c6=l.map DeviceS.Key
 | [],_=>rfl
 | d :: r,k=>by rw [cq,bp,Ke r (k+1),bp]
theorem B0:∀ (l:List DeviceS) (k:Nat) (e:bn×Int),e∈cq l k→∃ i d,l[i]? =some d∧e=(d.Key,((k+i:Nat):Int))
 | [],_,e,h=>by cases h
 | d :: r,k,e,h=>by
   rw [cq] at h
   rcases ad.1 h with h | h
   ·exact ⟨0,d,rfl,h⟩
   ·obtain ⟨i,x,h1,h2⟩:=B0 r (k+1) e h
    exact ⟨i+1,x,by simpa using h1,by rw [h2,show k+1+i=k+(i+1) by omega]⟩
theorem Nf:∀ (l:List DeviceS) (k i:Nat) (d:DeviceS),l[i]? =some d→(d.Key,((k+i:Nat):Int))∈cq l k
 | [],_,i,d,h=>by simp at h
 | x :: r,k,0,d,h=>by simp at h;subst h;rw [cq];exact c7
 | x :: r,k,i+1,d,h=>by
   rw [cq]
   refine cn _ ?_
   have:=Nf r (k+1) i d (by simpa using h)
   rw [show k+(i+1)=k+1+i by omega];exact this
noncomputable def Kf (c:Campaign) (l:List DeviceS):List (bn×Int):=l.map fun d=>(d.Key,(qg c d.Key:Int))
noncomputable def oq (c:Campaign) (dn:List MarkS) (d:DeviceS):ao:=(dn.filter (uk c d.Key)).foldl Cb (x0 d)
structure SI (c:Campaign) (fl:List DeviceS) (s:CS) (dn:List MarkS):Prop where
 c_:s.c_=c
 qd:s.qd.Perm (cq fl 0)
 dq:s.dq.Perm (Kf c fl)
 mf:s.mf=fl.map (oq c dn)
 open_:s.open_.length=c.aR.length
 bD:s.bD.length=c.aR.length
 ba:s.ba.length=c.aR.length
 bg:s.aV.length≤c.aR.length
 nx:0≤s.cZ→s.aV.length < c.aR.length
def zU (c:Campaign) (x:ao):Bool:=decide (x.ak.Version=c.Target)||(!(decide (x.ak.Version=c.Target))&&(decide ((3:Int)≤x.ak.et)||decide (x.ak.Kind=(5:Int))))
theorem U3 (st:CS) (x:ao):(bZ st x||di st x)=zU st.c_ x:=by
 unfold di lH bZ zU;rfl
def lC (l:List Int) (k:Nat) (d:Int):List Int:=l.set k (bB (l.getD k 0+d))
theorem u5 (l:List Int) (k:Nat) (d:Int):(lC l k d).length=l.length:=by unfold lC;simp
theorem pR {l:List Int} {k:Nat} (h:k < l.length):idx l (k:Int)=some (l.getD k 0):=by
 refine tN ?_
 rw [ci,c8 h];rfl
def vy (c:Campaign) (k:Nat):mH:=c.aR.getD k ⟨0,0,0,0⟩
def Ik (c:Campaign) (op:List Int) (k:Nat) (x x':ao):List Int:=if (zU c x' !=zU c x)=true then (if zU c x'=true then lC op k (-1) else lC op k 1) else op
def OF (c:Campaign) (k:Nat) (en fa:List Int) (sp:Int) (m:MarkS):Int:=if sp < 0∧(vy c k).Aj≤en.getD k 0∧bB ((vy c k).et * en.getD k 0) < bB (1000 * fa.getD k 0) then m.At else sp
def sA (st:CS) (i k:Nat) (x:ao) (m:MarkS):CS:=
 if Kd x m=true then
  if m.Kind≠3∧m.Kind≠4 then {st with open_:=Ik st.c_ st.open_ k x (A8 x m),mf:=st.mf.set i (Cb x m)}
  else {st with open_:=Ik st.c_ st.open_ k x (A8 x m),bD:=lC st.bD k 1,ba:=if m.Kind=4 then lC st.ba k 1 else st.ba,bh:=OF st.c_ k (lC st.bD k 1) (if m.Kind=4 then lC st.ba k 1 else st.ba) st.bh m,mf:=st.mf.set i (Cb x m)}
 else {st with mf:=st.mf.set i (Cb x m)}
theorem TW (st:CS) (m:MarkS) (i k:Nat) (x:ao) (hi:bc st.qd m.Device=some (i:Int)) (hk:bc st.dq m.Device=some (k:Int)) (ha:¬ m.At < st.c_.At) (hx:st.mf[i]? =some x)
 (hW:k < st.c_.aR.length) (ho:k < st.open_.length) (he:k < st.bD.length) (hf:k < st.ba.length):cT st m=some (sA st i k x m):=by
 have hxi:=tN hx
 unfold cT
 rw [hi,vS]
 unfold iz
 rw [if_neg (by simp;omega)]
 unfold pc
 rw [hk,hxi]
 simp only [aa,e8]
 unfold kD
 rw [hxi]
 simp only [aa,Q8,Fm,U3,bi]
 unfold sA
 by_cases iv:Kd x m=true
 ·rw [if_neg (by simp [iv]),if_pos iv]
  have L0:Cb x m=A8 x m:=by unfold Cb;rw [if_pos iv]
  rw [L0]
  have j5:∀ op:List Int,fZ st m (i:Int) (k:Int) x op=some (if m.Kind≠3∧m.Kind≠4 then {st with open_:=op,mf:=st.mf.set i (A8 x m)}
   else {st with open_:=op,bD:=lC st.bD k 1,ba:=if m.Kind=4 then lC st.ba k 1 else st.ba,bh:=OF st.c_ k (lC st.bD k 1) (if m.Kind=4 then lC st.ba k 1 else st.ba) st.bh m,mf:=st.mf.set i (A8 x m)}):=by
   intro op
   unfold fZ kB
   simp only [Fm,L0,bi]
   by_cases hkk:m.Kind≠3∧m.Kind≠4
   ·rw [if_pos (by simp [hkk]),if_pos hkk]
   ·rw [if_neg (by simpa using hkk),if_neg hkk,pR he]
    simp only [aa]
    have j8:∀ fa:List Int,k < fa.length→fY st m (i:Int) (k:Int) x op (st.bD.getD k 0) fa=some {st with open_:=op,bD:=lC st.bD k 1,ba:=fa,bh:=OF st.c_ k (lC st.bD k 1) fa st.bh m,mf:=st.mf.set i (A8 x m)}:=by
     intro fa hfa
     unfold fY
     have Y6:idx st.c_.aR (k:Int)=some (vy st.c_ k):=by
      refine tN ?_
      unfold vy
      rw [ci,c8 hW];rfl
     rw [Y6]
     simp only [aa,bi]
     have vD:st.bD.set k (bB (st.bD.getD k 0+1))=lC st.bD k 1:=rfl
     rw [vD,pR (l:=lC st.bD k 1) (by rw [u5];exact he),pR hfa]
     simp only [aa]
     have j10:∀ b:Bool,eI st m (i:Int) (k:Int) x op (st.bD.getD k 0) fa b=some {st with open_:=op,bD:=lC st.bD k 1,ba:=fa,bh:=if b=true then m.At else st.bh,mf:=st.mf.set i (A8 x m)}:=by
      intro b
      unfold eI ij
      simp only [Fm,L0,bi]
      cases b<;>rfl
     simp only [j10]
     unfold OF
     by_cases a1:st.bh < 0
     ·rw [if_pos a1]
      by_cases a2:(vy st.c_ k).Aj≤(lC st.bD k 1).getD k 0
      ·rw [if_pos a2]
       by_cases a3:bB ((vy st.c_ k).et * (lC st.bD k 1).getD k 0) < bB (1000 * fa.getD k 0)
       ·rw [if_pos (decide_eq_true a3),if_pos ⟨a1,a2,a3⟩]
       ·rw [if_neg (by rw [decide_eq_false a3];exact ce),if_neg (fun h=>a3 h.2.2)]
      ·rw [if_neg a2,if_neg (by simp),if_neg (fun h=>a2 h.2.1)]
     ·rw [if_neg a1,if_neg (by simp),if_neg (fun h=>a1 h.1)]
    by_cases h4:m.Kind=4
    ·rw [if_pos h4,if_pos h4,pR hf]
     simp only [aa]
     exact j8 (lC st.ba k 1) (by rw [u5];exact hf)
    ·rw [if_neg h4,if_neg h4]
     exact j8 st.ba hf
  unfold kC iy
  simp only [j5,pR ho,aa,bi]
  unfold Ik
  by_cases b1:(zU st.c_ (A8 x m)!=zU st.c_ x)=true
  ·rw [if_pos b1,if_pos b1]
   by_cases b2:zU st.c_ (A8 x m)=true
   ·rw [if_pos b2,if_pos b2]
    rfl
   ·rw [if_neg b2,if_neg b2]
    rfl
  ·rw [if_neg b1,if_neg b1]
 ·rw [if_pos (by simpa using iv),if_neg iv]
theorem GZ (st:CS) (m:MarkS) (h:bc st.qd m.Device=none∨m.At < st.c_.At):cT st m=some st:=by
 unfold cT
 cases e:bc st.qd m.Device with
 | none=>rw [C2];unfold kA;rw [if_pos (by simp)]
 | some n=>
   rw [vS];unfold iz
   rcases h with h | h
   ·rw [e] at h;cases h
   ·rw [if_pos (by simp [h])]
theorem Fp (st:CS) (i k:Nat) (x:ao) (m:MarkS):(sA st i k x m).c_=st.c_∧(sA st i k x m).qd=st.qd∧(sA st i k x m).dq=st.dq∧(sA st i k x m).mf=st.mf.set i (Cb x m)∧(sA st i k x m).aV=st.aV∧(sA st i k x m).cZ=st.cZ∧
 (sA st i k x m).open_.length=st.open_.length∧(sA st i k x m).bD.length=st.bD.length∧(sA st i k x m).ba.length=st.ba.length:=by
 have ho:∀ c op x',(Ik c op k x x').length=op.length:=by
  intro c op x';unfold Ik;split
  ·split<;>exact u5 _ _ _
  ·rfl
 unfold sA
 split
 ·split
  ·exact ⟨rfl,rfl,rfl,rfl,rfl,rfl,ho _ _ _,rfl,rfl⟩
  ·refine ⟨rfl,rfl,rfl,rfl,rfl,rfl,ho _ _ _,u5 _ _ _,?_⟩
   show (if m.Kind=4 then lC st.ba k 1 else st.ba).length=_
   split
   ·exact u5 _ _ _
   ·rfl
 ·exact ⟨rfl,rfl,rfl,rfl,rfl,rfl,rfl,rfl,rfl⟩
theorem zV:∀ {l:List DeviceS},(l.map DeviceS.Key).Nodup→∀ (i j:Nat) (a b:DeviceS),l[i]? =some a→l[j]? =some b→a.Key=b.Key→i=j
 | [],_,i,j,a,b,h,_,_=>by simp at h
 | x :: r,hn,i,j,a,b,h1,h2,h3=>by
   rw [bp,List.nodup_cons] at hn
   match i,j with
   | 0,0=>rfl
   | 0,j+1=>
     exfalso;simp at h1 h2;subst h1
     exact hn.1 (aK.2 ⟨b,bw h2,h3.symm⟩)
   | i+1,0=>
     exfalso;simp at h1 h2;subst h2
     exact hn.1 (aK.2 ⟨a,bw h1,h3⟩)
   | i+1,j+1=>
     have:=zV hn.2 i j a b (by simpa using h1) (by simpa using h2) h3
     omega
theorem Kg {α β:Type} {f h:α→β} {l:List α} {i:Nat} {d:α} (hd:l[i]? =some d) (hr:∀ j d',j≠i→l[j]? =some d'→f d'=h d'):(l.map f).set i (h d)=l.map h:=by
 refine List.ext_getElem? (fun j=>?_)
 rw [gy,d4,d4]
 have hi:i < l.length:=(cs.1 hd).1
 by_cases e:i=j
 ·subst e
  rw [if_pos rfl,if_pos (by simpa using hi),hd];rfl
 ·rw [if_neg e]
  cases hj:l[j]? with
  | none=>rfl
  | some d'=>simp [hr j d' (fun h=>e h.symm) hj]
theorem zu (c:Campaign) (dn:List MarkS) (m:MarkS) (d:DeviceS):oq c (dn++[m]) d=if uk c d.Key m=true then Cb (oq c dn d) m else oq c dn d:=by
 unfold oq
 rw [bY,aw,aI]
 split<;>rfl
theorem Ra {fl:List DeviceS} (hf:mV fl) {of:List (bn×Int)} (hp:of.Perm (cq fl 0)):(of.map c6).Nodup:=by
 refine (hp.map c6).nodup_iff.2 ?_
 rw [Ke];exact hf.U2
theorem Rb {c:Campaign} {fl:List DeviceS} (hf:mV fl) {wv:List (bn×Int)} (hp:wv.Perm (Kf c fl)):(wv.map c6).Nodup:=by
 refine (hp.map c6).nodup_iff.2 ?_
 unfold Kf
 rw [List.map_map];exact hf.U2
theorem L1 {fl:List DeviceS} (hf:mV fl) {of:List (bn×Int)} (hp:of.Perm (cq fl 0)) {i:Nat} {d:DeviceS} (hd:fl[i]? =some d):bc of d.Key=some (i:Int):=by
 refine tW (Ra hf hp) (hp.mem_iff.2 ?_)
 have:=Nf fl 0 i d hd
 rw [cS] at this;exact this
theorem Il {c:Campaign} {fl:List DeviceS} (hf:mV fl) {wv:List (bn×Int)} (hp:wv.Perm (Kf c fl)) {d:DeviceS} (hd:d∈fl):bc wv d.Key=some (qg c d.Key:Int):=
 tW (Rb hf hp) (hp.mem_iff.2 (aK.2 ⟨d,hd,rfl⟩))
theorem TX {fl:List DeviceS} {of:List (bn×Int)} (hp:of.Perm (cq fl 0)) {k:bn} (h:∀ d∈fl,d.Key≠k):bc of k=none:=by
 refine pS.2 (fun e he hk=>?_)
 obtain ⟨i,d,h1,h2⟩:=B0 fl 0 e (hp.mem_iff.1 he)
 rw [h2] at hk
 exact h d (bw h1) hk
theorem Ng {c:Campaign} {fl:List DeviceS} {s:CS} {dn:List MarkS} (hc:lB c) (hf:mV fl) (h:SI c fl s dn) (m:MarkS):
 (cT s m=some s∧∀ d∈fl,uk c d.Key m=false)∨(∃ i d,fl[i]? =some d∧uk c d.Key m=true∧cT s m=some (sA s i (qg c d.Key) (oq c dn d) m)):=by
 by_cases Rc:∃ d,d∈fl∧d.Key=m.Device
 ·obtain ⟨d,hm,hk⟩:=Rc
  obtain ⟨i,hi⟩:=da hm
  by_cases ha:m.At < c.At
  ·left
   exact ⟨GZ s m (.inr (by rw [h.c_];exact ha)),fun d _=>by unfold uk;simp;intro _;omega⟩
  ·right
   have hw:=(BZ c hc d.Key (hf.key d hm)).2
   refine ⟨i,d,hi,by unfold uk;simp [hk];omega,?_⟩
   refine TW s m i (qg c d.Key) (oq c dn d) ?_ ?_ (by rw [h.c_];exact ha) ?_ (by rw [h.c_];exact hw) (by rw [h.open_];exact hw) (by rw [h.bD];exact hw) (by rw [h.ba];exact hw)
   ·rw [← hk];exact L1 hf h.qd hi
   ·rw [← hk];exact Il hf h.dq hm
   ·rw [h.mf,d4,hi];rfl
 ·left
  refine ⟨GZ s m (.inl (TX h.qd (fun d hd hk=>Rc ⟨d,hd,hk⟩))),fun d hd=>?_⟩
  unfold uk
  rw [g6]
  exact .inl (decide_eq_false (fun hk=>Rc ⟨d,hd,hk.symm⟩))
theorem TY {c:Campaign} {fl:List DeviceS} {s:CS} {dn:List MarkS} (hc:lB c) (hf:mV fl) (h:SI c fl s dn) (m:MarkS):Ok (cT s m) (fun r=>SI c fl r (dn++[m])):=by
 rcases Ng hc hf h m with ⟨e,hr⟩ | ⟨i,d,hi,hr,e⟩
 ·refine ⟨s,e,⟨h.c_,h.qd,h.dq,?_,h.open_,h.bD,h.ba,h.bg,h.nx⟩⟩
  rw [h.mf]
  refine List.map_congr_left (fun d hd=>?_)
  rw [zu,hr d hd];rfl
 ·obtain ⟨k1,k2,k3,k4,k5,k6,k7,k8,k9⟩:=Fp s i (qg c d.Key) (oq c dn d) m
  refine ⟨_,e,⟨by rw [k1];exact h.c_,by rw [k2];exact h.qd,by rw [k3];exact h.dq,?_,by rw [k7];exact h.open_,by rw [k8];exact h.bD,by rw [k9];exact h.ba,by rw [k5];exact h.bg,by rw [k5,k6];exact h.nx⟩⟩
  rw [k4,h.mf,show Cb (oq c dn d) m=oq c (dn++[m]) d by rw [zu,if_pos hr]]
  refine Kg hi (fun j d' hj ya=>?_)
  rw [zu,if_neg]
  intro SK
  unfold uk at hr SK
  simp only [ac,decide_eq_true_eq] at hr SK
  exact hj (zV hf.U2 j i d' d ya hi (by rw [← SK.1,hr.1]))
def G0 (r s:CS):Prop:=r.c_=s.c_∧r.qd=s.qd∧r.dq=s.dq∧r.mf=s.mf
noncomputable def zv (c:Campaign) (op:List Int) (d:DeviceS):List Int:=if decide (d.bQ=c.Target)=true then op else lC op (qg c d.Key) 1
theorem B1 (c:Campaign):∀ (l:List DeviceS) (op:List Int),(l.foldl (zv c) op).length=op.length
 | [],_=>rfl
 | d :: r,op=>by
   rw [af,B1 c r]
   unfold zv;split
   ·rfl
   ·exact u5 _ _ _
theorem Kh {m:List (bn×Int)} {k:bn} {v:Int} (h:∀ e∈m,e.1≠k):(bW m k v).Perm (m++[(k,v)]):=by
 refine (uZ m k v).trans ?_
 have:mG m k=m:=by unfold mG;exact List.filter_eq_self.2 (fun e he=>by simp [h e he])
 rw [this]
 exact (List.perm_append_singleton (k,v) m).symm
theorem As (c:Campaign) (fl:List DeviceS) (hc:lB c) (hf:mV fl) (hl:(fl.length:Int)≤100000) (R8 R10 R0:List Int) (hR:R0.length=c.aR.length):∀ (m n:Nat) (of wv:List (bn×Int)),n+m=fl.length→of.Perm (cq (fl.take n) 0)→wv.Perm (Kf c (fl.take n))→
 ∃ Wt Wu,mj c fl R8 R10 ((fl.take n).map x0) of wv ((fl.take n).foldl (zv c) R0) (n:Int)=some ⟨c,Wt,Wu,fl.foldl (zv c) R0,R8,R10,[],-1,c.At,fl.map x0⟩∧Wt.Perm (cq fl 0)∧Wu.Perm (Kf c fl)
 | 0,n,of,wv,h,h1,h2=>by
   rw [cX (by omega)] at h1 h2 ⊢
   refine ⟨of,wv,?_,h1,h2⟩
   unfold mj
   rw [iter_eq,ig,if_neg (by simp only;omega),aY]
 | m+1,n,of,wv,h,h1,h2=>by
   obtain ⟨d,hd,Re,Wo⟩:=ff fl (i:=(n:Int)) (by omega) (by omega)
   have hg:fl[n]? =some d:=by have:=(jC hd).2.2;rwa [bi] at this
   have ht:fl.take (n+1)=fl.take n++[d]:=by rw [cW,hg];rfl
   have IU:(fl.take n).length=n:=by rw [dg];omega
   have wS:∀ x∈fl.take n,x.Key≠d.Key:=by
    intro x hx hk
    obtain ⟨j,hj⟩:=da hx
    have Af:j < n:=by have:=(cs.1 hj).1;omega
    rw [List.getElem?_take_of_lt Af] at hj
    have:=zV hf.U2 j n x d hj hg hk
    omega
   have hof:∀ e∈of,e.1≠d.Key:=by
    intro e he hk
    obtain ⟨j,x,a1,a2⟩:=B0 _ 0 e (h1.mem_iff.1 he)
    rw [a2] at hk
    exact wS x (bw a1) hk
   have Y6:∀ e∈wv,e.1≠d.Key:=by
    intro e he hk
    obtain ⟨x,a1,a2⟩:=aK.1 (h2.mem_iff.1 he)
    rw [← a2] at hk
    exact wS x a1 hk
   have IN:VY ((fl.take n).map x0).length (of.map Prod.snd)=some ():=by
    unfold VY
    rw [if_pos]
    intro y hy
    obtain ⟨e,he,rfl⟩:=aK.1 hy
    obtain ⟨j,x,a1,a2⟩:=B0 _ 0 e (h1.mem_iff.1 he)
    have:=(cs.1 a1).1
    rw [a2,e9,IU]
    simp only
    omega
   obtain ⟨w1,w2⟩:=BZ c hc d.Key (hf.key d Re)
   have wn:bB ((n:Int)+1)=((n+1:Nat):Int):=by rw [bl]<;>omega
   have hol:((fl.take n).foldl (zv c) R0).length=c.aR.length:=by rw [B1];exact hR
   obtain ⟨Wt,Wu,r1,r2,r3⟩:=As c fl hc hf hl R8 R10 R0 hR m (n+1) (bW of d.Key (n:Int)) (bW wv d.Key (qg c d.Key:Int)) (by omega)
    (by rw [ht,GY,IU,cS];exact (Kh hof).trans (h1.append_right _))
    (by rw [ht];unfold Kf;rw [eY];exact (Kh Y6).trans (h2.append_right _))
   refine ⟨Wt,Wu,?_,r2,r3⟩
   rw [← r1,ht,eY,aw]
   unfold mj
   conv=>lhs;rw [iter_eq]
   rw [ig,if_pos (by simp only;omega)]
   simp only
   rw [hd]
   simp only [aa]
   rw [IN,w1]
   simp only [aa]
   unfold pc jH
   rw [iG,if_pos rfl,e9,IU,wn]
   simp only [aa,e8,bi]
   rw [pR (l:=(fl.take n).foldl (zv c) R0) (by rw [hol];exact w2)]
   simp only [aa,af,bm,bp,gs]
   have ac2:∀ s:CS,s.c_=c→bZ s ⟨⟨0,0,d.bQ,0⟩,⟨0,0,0⟩⟩=decide (d.bQ=c.Target):=by
    intro s hs;unfold bZ;rw [hs]
   rw [ac2 _ rfl]
   unfold zv
   by_cases hq:d.bQ=c.Target
   ·rw [if_neg (by simp [hq]),if_pos (by simp [hq])]
    rfl
   ·rw [if_pos (by simp [hq]),if_neg (by simp [hq])]
    rfl
theorem Ki (c:Campaign) (fl:List DeviceS) (hc:lB c) (hf:mV fl) (hl:(fl.length:Int)≤100000):∃ Wt Wu,gB c fl=some ⟨c,Wt,Wu,fl.foldl (zv c) (ag c.aR.length 0),ag c.aR.length 0,ag c.aR.length 0,[],-1,c.At,fl.map x0⟩∧Wt.Perm (cq fl 0)∧Wu.Perm (Kf c fl):=by
 have hlen:=hc.len
 have dY:OY (0:Int) (c.aR.length:Int) (c.aR.length:Int)=some (ag c.aR.length 0):=by
  unfold OY;rw [if_pos (by omega),bi]
 obtain ⟨a,b,r1,r2,r3⟩:=As c fl hc hf hl (ag c.aR.length 0) (ag c.aR.length 0) (ag c.aR.length 0) (by simp) fl.length 0 [] [] (by simp) (fd _) (fd _)
 refine ⟨a,b,?_,r2,r3⟩
 unfold gB
 rw [dY]
 exact r1
theorem Kj (c:Campaign) (fl:List DeviceS) (hc:lB c) (hf:mV fl) (hl:(fl.length:Int)≤100000):Ok (gB c fl) (fun s=>SI c fl s []∧s.open_=fl.foldl (zv c) (ag c.aR.length 0)∧s.bD=ag c.aR.length 0∧s.ba=ag c.aR.length 0∧s.aV=[]∧s.bh=-1∧s.cZ=c.At):=by
 obtain ⟨a,b,r1,r2,r3⟩:=Ki c fl hc hf hl
 refine ⟨_,r1,⟨rfl,r2,r3,rfl,by rw [B1];simp,by simp,by simp,by simp,fun _=>?_⟩,rfl,rfl,rfl,rfl,rfl,rfl⟩
 have:=hc.sum
 cases hw:c.aR with
 | nil=>rw [hw] at this;simp [xu] at this
 | cons x y=>simp
abbrev IF:=(List (bn×Int))×(List ao)×(List (bn×Int))×(List Int)×(List Int)×(List Int)×(List Int)×Int×Int×Int
def Im (c:Campaign) (t:IF):CS:=⟨c,t.1,t.2.2.1,t.2.2.2.1,t.2.2.2.2.1,t.2.2.2.2.2.1,t.2.2.2.2.2.2.1,t.2.2.2.2.2.2.2.1,t.2.2.2.2.2.2.2.2.1,t.2.1⟩
def nT (t:IF):Int:=t.2.2.2.2.2.2.2.2.2
theorem Io {r s:CS} (h:G0 r s):(⟨s.c_,s.qd,s.dq,r.open_,r.bD,r.ba,r.aV,r.bh,r.cZ,s.mf⟩:CS)=r:=by
 obtain ⟨h1,h2,h3,h4⟩:=h
 rw [← h1,← h2,← h3,← h4]
theorem OG (c:Campaign) (Wv:CS) (l:List MarkS) (at_:Int) (hl:(l.length:Int)≤10000) (hm:∀ x∈l,0≤x.At∧x.At≤345686399999) (hs:l.Pairwise (fun a b=>a.At≤b.At)) (P M:CS→Nat→Int→Prop) (R:CS→Nat→Prop)
 (hc:Wv.c_=c)
 (h1:∀ s n T x,s.c_=c→P s n T→l[n]? =some x→T < x.At→x.At≤at_→Ok (dz s (x.At - 1)) (fun r=>G0 r s∧M r n x.At))
 (h2:∀ s n x now,s.c_=c→M s n now→l[n]? =some x→x.At=now→now≤at_→Ok (cT s x) (fun r=>r.c_=c∧M r (n+1) now))
 (h3:∀ s n now,s.c_=c→M s n now→(∀ x∈l.drop n,now < x.At)→now≤at_→Ok (dz s now) (fun r=>G0 r s∧P r n now))
 (h4:∀ s n T,s.c_=c→P s n T→(∀ x∈l.drop n,at_ < x.At)→T≤at_→Ok (dz s at_) (fun r=>G0 r s∧R r n))
 (T0:Int) (h0:P Wv 0 T0) (X4:T0≤at_∧∀ x∈l,T0 < x.At):Ok (il Wv l at_) (fun r=>∃ n,n≤l.length∧R r n):=by
 unfold il rH
 have key:∀ t:IF,nT t=0→Im c t=Wv→Ok (iter (fun x:IF=>fJ Wv l at_ x.1 x.2.1 x.2.2.1 x.2.2.2.1 x.2.2.2.2.1 x.2.2.2.2.2.1 x.2.2.2.2.2.2.1 x.2.2.2.2.2.2.2.1 x.2.2.2.2.2.2.2.2.1 x.2.2.2.2.2.2.2.2.2) t) (fun r=>∃ n,n≤l.length∧R r n):=by
  intro t e1 e2
  refine Ok.iter (fun t:IF=>l.length - (nT t).toNat) (fun t:IF=>∃ n:Nat,nT t=(n:Int)∧n≤l.length∧∃ T,P (Im c t) n T∧T≤at_∧∀ x∈l.drop n,T < x.At) ?_ t ⟨0,by rw [e1];rfl,by omega,T0,by rw [e2];exact h0,X4.1,by rw [bo];exact X4.2⟩
  rintro ⟨a1,a2,a3,a4,a5,a6,a7,a8,a9,a10⟩ ⟨n,g1,g2,T,g3,g4,g5⟩
  unfold nT at g1
  simp only at g1
  subst g1
  have hk4:(∀ x∈l.drop n,at_ < x.At)→Ok (ek Wv l at_ a1 a2 a3 a4 a5 a6 a7 a8 a9 (n:Int) false) (O4 (fun t:IF=>l.length - (nT t).toNat) (fun t:IF=>∃ n:Nat,nT t=(n:Int)∧n≤l.length∧∃ T,P (Im c t) n T∧T≤at_∧∀ x∈l.drop n,T < x.At) (fun r=>∃ n,n≤l.length∧R r n) (a1,a2,a3,a4,a5,a6,a7,a8,a9,(n:Int))):=by
   intro hx
   unfold ek
   rw [if_neg (by simp)]
   refine Ok.inr ?_
   unfold nw
   rw [hc]
   refine Ok.bind (h4 (Im c (a1,a2,a3,a4,a5,a6,a7,a8,a9,(n:Int))) n T rfl g3 hx g4) (fun v hv=>?_)
   refine Ok.ret ⟨n,g2,?_⟩
   have:=Io hv.1
   unfold Im at this
   simp only at this
   rw [this]
   exact hv.2
  simp only
  unfold fJ
  by_cases hn:(n:Int) < l.length
  ·rw [if_pos hn]
   obtain ⟨x,hx,z7,hd⟩:=ff l (i:=(n:Int)) (by omega) hn
   rw [show ((n:Int)).toNat=n by omega,show ((n:Int)+1).toNat=n+1 by omega] at hd
   have hxg:l[n]? =some x:=by have:=(jC hx).2.2;rwa [bi] at this
   rw [hx]
   simp only [aa]
   have OZ:∀ y∈l.drop (n+1),x.At≤y.At:=by
    have:=fg (i:=n) hs
    rw [hd,cb] at this
    exact this.1
   by_cases ha:x.At≤at_
   ·unfold ek
    rw [if_pos (by simpa using ha),hx,hc]
    simp only [aa]
    have hb:=hm x z7
    rw [bl (x:=x.At - 1) (by omega) (by omega)]
    refine Ok.bind (h1 (Im c (a1,a2,a3,a4,a5,a6,a7,a8,a9,(n:Int))) n T x rfl g3 hxg (g5 x (by rw [hd];exact c7)) ha) (fun v hv=>?_)
    have hve:=Io hv.1
    unfold Im at hve
    simp only at hve
    unfold rD
    refine (Ok.iter (R:=fun r:IF⊕CS=>O4 (fun t:IF=>l.length - (nT t).toNat) (fun t:IF=>∃ n:Nat,nT t=(n:Int)∧n≤l.length∧∃ T,P (Im c t) n T∧T≤at_∧∀ x∈l.drop n,T < x.At) (fun r=>∃ n,n≤l.length∧R r n) (a1,a2,a3,a4,a5,a6,a7,a8,a9,(n:Int)) r) (fun t:IF=>l.length - (nT t).toNat) (fun t:IF=>∃ k:Nat,nT t=(k:Int)∧n≤k∧k≤l.length∧M (Im c t) k x.At) ?_ (a1,a2,a3,v.open_,v.bD,v.ba,v.aV,v.bh,v.cZ,(n:Int)) ⟨n,rfl,dR _,g2,by unfold Im;simp only;rw [hve];exact hv.2⟩)
    rintro ⟨b1,b2,b3,b4,b5,b6,b7,b8,b9,tL⟩ ⟨k,q1,q2,q3,q4⟩
    unfold nT at q1
    simp only at q1
    subst q1
    have fin:(∀ y∈l.drop k,x.At < y.At)→n < k→Ok (ei Wv l x b1 b2 b3 b4 b5 b6 b7 b8 b9 (k:Int) false) (O4 (fun t:IF=>l.length - (nT t).toNat) (fun t:IF=>∃ k:Nat,nT t=(k:Int)∧n≤k∧k≤l.length∧M (Im c t) k x.At) (fun r:IF⊕CS=>O4 (fun t:IF=>l.length - (nT t).toNat) (fun t:IF=>∃ n:Nat,nT t=(n:Int)∧n≤l.length∧∃ T,P (Im c t) n T∧T≤at_∧∀ x∈l.drop n,T < x.At) (fun r=>∃ n,n≤l.length∧R r n) (a1,a2,a3,a4,a5,a6,a7,a8,a9,(n:Int)) r) (b1,b2,b3,b4,b5,b6,b7,b8,b9,(k:Int))):=by
     intro hy hnk
     unfold ei
     rw [if_neg (by simp)]
     refine Ok.inr ?_
     unfold nv
     rw [hc]
     refine Ok.bind (h3 (Im c (b1,b2,b3,b4,b5,b6,b7,b8,b9,(k:Int))) k x.At rfl q4 hy ha) (fun r hr=>?_)
     have hre:=Io hr.1
     unfold Im at hre
     simp only at hre
     refine Ok.ret ⟨⟨k,rfl,q3,x.At,?_,ha,hy⟩,?_⟩
     ·unfold Im;simp only;rw [hre];exact hr.2
     ·unfold nT;simp only;omega
    simp only
    unfold ik
    by_cases hk:(k:Int) < l.length
    ·rw [if_pos hk]
     obtain ⟨y,hy,ZN,hyd⟩:=ff l (i:=(k:Int)) (by omega) hk
     rw [show ((k:Int)).toNat=k by omega,show ((k:Int)+1).toNat=k+1 by omega] at hyd
     have hyg:l[k]? =some y:=by have:=(jC hy).2.2;rwa [bi] at this
     rw [hy]
     simp only [aa]
     by_cases he:y.At=x.At
     ·unfold ei
      rw [if_pos (by simpa using he),hy,hc]
      simp only [aa]
      refine Ok.bind (h2 (Im c (b1,b2,b3,b4,b5,b6,b7,b8,b9,(k:Int))) k y x.At rfl q4 hyg he ha) (fun r hr=>?_)
      have wk:bB ((k:Int)+1)=((k+1:Nat):Int):=by rw [bl]<;>omega
      rw [wk]
      refine Ok.ret ⟨⟨k+1,rfl,by omega,by omega,?_⟩,?_⟩
      ·have:Im c (r.qd,r.mf,r.dq,r.open_,r.bD,r.ba,r.aV,r.bh,r.cZ,((k+1:Nat):Int))=r:=by
        unfold Im;simp only;rw [← hr.1]
       rw [this];exact hr.2
      ·unfold nT;simp only;omega
     ·rw [decide_eq_false he]
      have hkn:n < k:=by
       rcases dk n k with h | h
       ·exact h
       ·obtain rfl:k=n:=by omega
        rw [hxg] at hyg
        exact absurd (by rw [be hyg]) he
      have Hh:x.At≤y.At:=by
       refine OZ y ?_
       obtain ⟨z,rfl⟩:∃ z,k=n+1+z:=⟨k - (n+1),by omega⟩
       refine bw (i:=z) ?_
       rw [List.getElem?_drop];exact hyg
      refine fin (fun z hz=>?_) hkn
      rw [hyd] at hz
      have hsk:=fg (i:=k) hs
      rw [hyd,cb] at hsk
      rcases ad.1 hz with rfl | hz
      ·omega
      ·have:=hsk.1 z hz;omega
    ·rw [if_neg hk]
     have Ja:k=l.length:=by omega
     refine fin (fun z hz=>?_) (by omega)
     rw [bk (by omega)] at hz
     cases hz
   ·rw [decide_eq_false ha]
    refine hk4 (fun y hy=>?_)
    rw [hd] at hy
    rcases ad.1 hy with rfl | hy
    ·omega
    ·have:=OZ y hy;omega
  ·rw [if_neg hn]
   refine hk4 (fun y hy=>?_)
   rw [bk (by omega)] at hy
   cases hy
 refine key _ rfl ?_
 unfold Im
 rw [← hc]
theorem B2 (c:Campaign) (d:DeviceS) (l:List MarkS) (n:Nat) (at_:Int) (h1:∀ x∈l.take n,x.At≤at_) (h2:∀ x∈l.drop n,at_ < x.At):oq c (l.take n) d=BY c d l at_:=by
 unfold oq BY
 have e:l.filter (yB c d.Key at_)=(l.take n).filter (uk c d.Key):=by
  conv=>lhs;rw [← d7 n l,bY]
  have z:(l.drop n).filter (yB c d.Key at_)=[]:=by
   rw [dl]
   intro x hx
   have:=h2 x hx
   unfold yB
   simp only [ac,decide_eq_true_eq]
   omega
  rw [z,cz]
  refine cP (fun x hx=>?_)
  have:=h1 x hx
  unfold yB uk
  rw [decide_eq_true this,dy]
 rw [e]
theorem Ip:∀ {l:List DeviceS} {p:Option DeviceS},yk xX p l=0→(∀ d∈l,ql d.Key=true)∧l.Pairwise (fun a b=>Lib.compareBytes a.Key b.Key < 0)∧∀ q,p=some q→∀ d∈l,Lib.compareBytes q.Key d.Key < 0
 | [],p,_=>⟨by simp,g7,by simp⟩
 | d :: r,p,h=>by
   simp only [yk] at h
   split at h
   ·rename_i h0
    obtain ⟨i1,i2,i3⟩:=Ip h
    have hd:¬ Ie d∧AY p d=false:=by
     unfold xX at h0
     split at h0
     ·cases h0
     ·rename_i hk
      split at h0
      ·cases h0
      ·rename_i hb;exact ⟨hk,by simpa using hb⟩
    have hk:ql d.Key=true:=by
     cases e:ql d.Key
     ·exact absurd (Or.inl e) hd.1
     ·rfl
    refine ⟨fun x hx=>?_,cb.2 ⟨fun x hx=>i3 d rfl x hx,i2⟩,fun q hq x hx=>?_⟩
    ·rcases ad.1 hx with rfl | hx
     ·exact hk
     ·exact i1 x hx
    ·subst hq
     have hb:=hd.2
     unfold AY at hb
     simp only at hb
     have iW:Lib.compareBytes q.Key d.Key < 0:=by
      rw [xn,TE,Bool.or_eq_false_iff] at hb
      have b1:=of_decide_eq_false hb.1
      have b2:=of_decide_eq_false hb.2
      have:=E9 q.Key d.Key
      omega
     rcases ad.1 hx with rfl | hx
     ·exact iW
     ·exact Cv.tr iW (i3 d rfl x hx)
   ·exact absurd h ‹_›
theorem Ww {fl:List DeviceS} (h:BX fl=0):mV fl∧(fl.length:Int)≤500:=by
 unfold BX at h
 split at h
 ·cases h
 ·obtain ⟨h1,h2,_⟩:=Ip h
  refine ⟨⟨h1,?_⟩,by omega⟩
  unfold List.Nodup
  rw [fi]
  refine h2.imp (fun {a b} DL he=>?_)
  rw [he,xk] at DL
  omega
structure Iq (x:MarkS):Prop where
 Q5:0≤x.At∧x.At≤345686399999
 kind:1≤x.Kind∧x.Kind≤5
theorem Nh:∀ {l:List MarkS} {p:Option MarkS},yk vx p l=0→(∀ x∈l,Iq x)∧l.Pairwise (fun a b=>mO a b < 0)∧∀ q,p=some q→∀ x∈l,mO q x < 0
 | [],p,_=>⟨by simp,g7,by simp⟩
 | d :: r,p,h=>by
   simp only [yk] at h
   split at h
   ·rename_i h0
    obtain ⟨i1,i2,i3⟩:=Nh h
    unfold vx at h0
    split at h0
    ·rename_i hb;exact absurd h0 hb
    ·rename_i hb
     have hb:=eL.1 hb
     have hd:Iq d:=by
      unfold BW at hb
      split at hb
      ·cases hb
      ·rename_i a1
       split at hb
       ·cases hb
       ·split at hb
        ·cases hb
        ·rename_i a3
         have a1:AX d.At=true:=by simpa using a1
         unfold AX at a1
         simp only [ac,decide_eq_true_eq] at a1
         exact ⟨a1,by omega⟩
     refine ⟨fun x hx=>?_,cb.2 ⟨fun x hx=>i3 d rfl x hx,i2⟩,fun q hq x hx=>?_⟩
     ·rcases ad.1 hx with rfl | hx
      ·exact hd
      ·exact i1 x hx
     ·subst hq
      simp only at h0
      have iW:mO q d < 0:=by
       split at h0
       ·cases h0
       ·have:=OB.neg q d;omega
      rcases ad.1 hx with rfl | hx
      ·exact iW
      ·exact OB.tr iW (i3 d rfl x hx)
   ·exact absurd h ‹_›
theorem Kk {a b:MarkS} (h:mO a b < 0):a.At≤b.At:=by
 unfold mO at h
 by_cases h0:er a.At b.At≠0
 ·rw [if_pos h0] at h
  unfold er at h
  split at h
  ·omega
  ·split at h<;>omega
 ·have:=Wr.1 (eL.1 h0);omega
theorem Wx {l:List MarkS} (h:CA l=0):(∀ x∈l,Iq x)∧l.Pairwise (fun a b=>mO a b < 0)∧(l.length:Int)≤3000:=by
 unfold CA at h
 split at h
 ·cases h
 ·obtain ⟨h1,h2,_⟩:=Nh h
  exact ⟨h1,h2,by omega⟩
def F5 (at_:Int):Int:=if AX at_=true then 0 else 1
theorem qN {α:Type} {P:List α→Prop} (h0:P []) (h:∀ l x,P l→P (l++[x])):∀ l,P l:=by
 intro l
 rw [← l.reverse_reverse]
 induction l.reverse with
 | nil=>exact h0
 | cons x r ih=>rw [List.reverse_cons];exact h _ x ih
def yD (m:MarkS):Bool:=decide (m.Kind=3)||decide (m.Kind=4)
noncomputable def qD (c:Campaign) (dn:List MarkS) (m:MarkS) (d:DeviceS):Bool:=uk c d.Key m&&Kd (oq c dn d) m
noncomputable def zw (c:Campaign) (fl:List DeviceS) (dn:List MarkS) (w:Nat) (m:MarkS):Bool:=yD m&&fl.any (fun d=>decide (qg c d.Key=w)&&qD c dn m d)
noncomputable def Ni (c:Campaign) (fl:List DeviceS) (w:Nat) (s:List MarkS×List MarkS) (m:MarkS):List MarkS×List MarkS:=(s.1++[m],if zw c fl s.1 w m=true then s.2++[m] else s.2)
noncomputable def EL (c:Campaign) (fl:List DeviceS) (w:Nat) (dn:List MarkS):List MarkS:=(dn.foldl (Ni c fl w) ([],[])).2
theorem Wy (c:Campaign) (fl:List DeviceS) (w:Nat):∀ dn:List MarkS,(dn.foldl (Ni c fl w) ([],[])).1=dn:=
 qN rfl (fun l x h=>by rw [aw];simp only [af,bm];unfold Ni at h ⊢;rw [h])
theorem tO (c:Campaign) (fl:List DeviceS) (w:Nat) (dn:List MarkS) (m:MarkS):EL c fl w (dn++[m])=if zw c fl dn w m=true then EL c fl w dn++[m] else EL c fl w dn:=by
 unfold EL
 rw [aw]
 simp only [af,bm]
 have e:∀ S:List MarkS×List MarkS,(Ni c fl w S m).2=if zw c fl S.1 w m=true then S.2++[m] else S.2:=fun _=>rfl
 rw [e,Wy]
def CB (E:List MarkS):Nat:=(E.filter (fun m=>decide (m.Kind=4))).length
def CC (c:Campaign) (w:Nat) (E:List MarkS):Bool:=decide ((vy c w).Aj≤(E.length:Int))&&decide (bB ((vy c w).et * (E.length:Int)) < bB (1000 * (CB E:Int)))
noncomputable def Fq (c:Campaign) (fl:List DeviceS) (dn:List MarkS) (m:MarkS):Bool:=(bt c.aR.length).any (fun w=>zw c fl dn w m&&CC c w (EL c fl w (dn++[m])))
noncomputable def Nj (c:Campaign) (fl:List DeviceS) (s:List MarkS×Int) (m:MarkS):List MarkS×Int:=(s.1++[m],if s.2 < 0∧Fq c fl s.1 m=true then m.At else s.2)
noncomputable def SA (c:Campaign) (fl:List DeviceS) (dn:List MarkS):Int:=(dn.foldl (Nj c fl) ([],-1)).2
theorem Wz (c:Campaign) (fl:List DeviceS):∀ dn:List MarkS,(dn.foldl (Nj c fl) ([],-1)).1=dn:=
 qN rfl (fun l x h=>by rw [aw];simp only [af,bm];unfold Nj at h ⊢;rw [h])
theorem xZ (c:Campaign) (fl:List DeviceS) (dn:List MarkS) (m:MarkS):SA c fl (dn++[m])=if SA c fl dn < 0∧Fq c fl dn m=true then m.At else SA c fl dn:=by
 unfold SA
 rw [aw]
 simp only [af,bm]
 have e:∀ S:List MarkS×Int,(Nj c fl S m).2=if S.2 < 0∧Fq c fl S.1 m=true then m.At else S.2:=fun _=>rfl
 rw [e,Wz]
noncomputable def IG (c:Campaign) (dn:List MarkS) (w:Nat) (d:DeviceS):Bool:=decide (qg c d.Key=w)&&!zU c (oq c dn d)
noncomputable def L2 (c:Campaign) (fl:List DeviceS) (dn:List MarkS) (w:Nat):Nat:=(fl.filter (IG c dn w)).length
structure SX (c:Campaign) (fl:List DeviceS) (s:CS) (dn:List MarkS):Prop extends SI c fl s dn where
 opn:∀ w,w < c.aR.length→s.open_.getD w 0=(L2 c fl dn w:Int)
 en:∀ w,w < c.aR.length→s.bD.getD w 0=((EL c fl w dn).length:Int)
 fa:∀ w,w < c.aR.length→s.ba.getD w 0=(CB (EL c fl w dn):Int)
 sp:s.bh=SA c fl dn
theorem tv {l:List Int} {k w:Nat} {d:Int} (hk:k < l.length):(lC l k d).getD w 0=if k=w then bB (l.getD k 0+d) else l.getD w 0:=by
 unfold lC
 rw [ci,gy]
 by_cases e:k=w
 ·rw [if_pos e,if_pos e,if_pos hk];rfl
 ·rw [if_neg e,if_neg e,ci]
theorem filter_one {α:Type} {p p':α→Bool}:∀ (l:List α) (i:Nat) (d:α),l[i]? =some d→(∀ j d',j≠i→l[j]? =some d'→p' d'=p d')→(l.filter p').length+(if p d=true then 1 else 0)=(l.filter p).length+(if p' d=true then 1 else 0)
 | [],i,d,h,_=>by simp at h
 | x :: r,0,d,h,hr=>by
   simp at h;subst h
   have e:r.filter p'=r.filter p:=by
    refine cP (fun y hy=>?_)
    obtain ⟨j,hj⟩:=da hy
    exact hr (j+1) y (by omega) (by simpa using hj)
   rw [aI,aI,e]
   by_cases a:p x=true<;>by_cases b:p' x=true<;>simp [a,b]
 | x :: r,i+1,d,h,hr=>by
   have ih:=filter_one r i d (by simpa using h) (fun j d' hj hd=>hr (j+1) d' (by omega) (by simpa using hd))
   have e:=hr 0 x (by omega) rfl
   rw [aI,aI,e]
   by_cases a:p x=true
   ·rw [if_pos a,if_pos a,cv,cv];omega
   ·rw [if_neg a,if_neg a];exact ih
theorem Kl {c:Campaign} {fl:List DeviceS} (hf:mV fl) {m:MarkS} {i j:Nat} {d d':DeviceS} (hi:fl[i]? =some d) (hj:fl[j]? =some d') (h:uk c d.Key m=true) (h':uk c d'.Key m=true):j=i:=by
 unfold uk at h h'
 simp only [ac,decide_eq_true_eq] at h h'
 exact zV hf.U2 j i d' d hj hi (by rw [← h'.1,h.1])
theorem WA {c:Campaign} {fl:List DeviceS} (hf:mV fl) {dn:List MarkS} {m:MarkS} {i:Nat} {d:DeviceS} (hi:fl[i]? =some d) (h:uk c d.Key m=true) (w:Nat):zw c fl dn w m=(yD m&&(decide (qg c d.Key=w)&&Kd (oq c dn d) m)):=by
 unfold zw qD
 congr 1
 rw [al,ds]
 constructor
 ·rintro ⟨d',ya,e⟩
  obtain ⟨j,hj⟩:=da ya
  simp only [ac,decide_eq_true_eq] at e ⊢
  obtain rfl:=Kl hf hi hj h e.2.1
  rw [hi] at hj
  obtain rfl:=be hj
  exact ⟨e.1,e.2.2⟩
 ·intro e
  simp only [ac,decide_eq_true_eq] at e
  exact ⟨d,bw hi,by simp [e.1,e.2,h]⟩
theorem WB {c:Campaign} {fl:List DeviceS} {dn:List MarkS} {m:MarkS} (h:∀ d∈fl,qD c dn m d=false) (w:Nat):zw c fl dn w m=false:=by
 unfold zw
 rw [g6]
 right
 rw [fn]
 intro d hd
 rw [h d hd];simp
theorem Rf {c:Campaign} {fl:List DeviceS} {dn:List MarkS} {m:MarkS} (h:∀ w,zw c fl dn w m=false):Fq c fl dn m=false:=by
 unfold Fq
 rw [fn]
 intro w _
 rw [h w];simp
theorem Nk {c:Campaign} {fl:List DeviceS} {s s':CS} {dn:List MarkS} {m:MarkS} (h:SX c fl s dn) (hS:SI c fl s' (dn++[m])) (hc:∀ d∈fl,oq c (dn++[m]) d=oq c dn d) (hn:∀ w,zw c fl dn w m=false)
 (e1:s'.open_=s.open_) (e2:s'.bD=s.bD) (e3:s'.ba=s.ba) (e4:s'.bh=s.bh):SX c fl s' (dn++[m]):=by
 refine ⟨hS,fun w hw=>?_,fun w hw=>?_,fun w hw=>?_,?_⟩
 ·rw [e1,h.opn w hw]
  unfold L2
  have e:fl.filter (IG c (dn++[m]) w)=fl.filter (IG c dn w):=cP (fun d hd=>by unfold IG;rw [hc d hd])
  rw [e]
 ·rw [e2,tO,hn w];exact h.en w hw
 ·rw [e3,tO,hn w];exact h.fa w hw
 ·rw [e4,xZ,Rf hn,if_neg (by simp)];exact h.sp
theorem WC (c:Campaign) (fl:List DeviceS) (w:Nat):∀ dn:List MarkS,(EL c fl w dn).length≤dn.length:=
 qN (by unfold EL;simp) (fun l x h=>by
  rw [tO];split
  ·simp;exact h
  ·simp;omega)
theorem Nl (E:List MarkS):CB E≤E.length:=cf _ _
theorem Km (E:List MarkS) (m:MarkS):CB (E++[m])=CB E+(if m.Kind=4 then 1 else 0):=by
 unfold CB
 rw [bY,cy,aI]
 by_cases h:m.Kind=4
 ·rw [if_pos (by simpa using h),if_pos h];rfl
 ·rw [if_neg (by simpa using h),if_neg h];rfl
theorem TZ {c:Campaign} {fl:List DeviceS} {s:CS} {dn:List MarkS} (hc:lB c) (hf:mV fl) (hl:(fl.length:Int)≤100000) (hd:(dn.length:Int)≤100000) (h:SX c fl s dn) (m:MarkS):Ok (cT s m) (fun r=>SX c fl r (dn++[m])∧r.aV=s.aV∧r.cZ=s.cZ):=by
 obtain ⟨r,r1,r2⟩:=TY hc hf h.toSI m
 rcases Ng hc hf h.toSI m with ⟨e,hr⟩ | ⟨i,d,hi,hr,e⟩
 ·rw [e] at r1
  obtain rfl:=be r1
  have hq:∀ d∈fl,qD c dn m d=false:=fun d hd=>by unfold qD;rw [hr d hd];rfl
  exact ⟨s,e,Nk h r2 (fun d hd=>by rw [zu,hr d hd];rfl) (WB hq) rfl rfl rfl rfl,rfl,rfl⟩
 ·obtain ⟨k1,k2,k3,k4,k5,k6,k7,k8,k9⟩:=Fp s i (qg c d.Key) (oq c dn d) m
  rw [e] at r1
  obtain rfl:=be r1
  refine ⟨_,e,?_,k5,k6⟩
  have hm:=bw hi
  have hw:=(BZ c hc d.Key (hf.key d hm)).2
  have WD:=WA (dn:=dn) hf hi hr
  have Hq:∀ d',d'∈fl→oq c (dn++[m]) d'=if d'=d then Cb (oq c dn d) m else oq c dn d':=by
   intro d' ya
   rw [zu]
   by_cases e:d'=d
   ·rw [if_pos e,e,if_pos hr]
   ·rw [if_neg e,if_neg]
    intro SK
    obtain ⟨j,hj⟩:=da ya
    have ej:=Kl hf hi hj hr SK
    rw [ej,hi] at hj
    exact e (be hj).symm
  by_cases iv:Kd (oq c dn d) m=true
  ·have L0:Cb (oq c dn d) m=A8 (oq c dn d) m:=by unfold Cb;rw [if_pos iv]
   have Y7:∀ w,w < c.aR.length→(Ik s.c_ s.open_ (qg c d.Key) (oq c dn d) (A8 (oq c dn d) m)).getD w 0=(L2 c fl (dn++[m]) w:Int):=by
    intro w Mp
    have vE:=filter_one (p:=IG c dn w) (p':=IG c (dn++[m]) w) fl i d hi (fun j d' hj ya=>by
     unfold IG
     rw [Hq d' (bw ya),if_neg]
     intro e;subst e
     exact hj (zV hf.U2 j i d' d' ya hi rfl))
    have hp:IG c dn w d=(decide (qg c d.Key=w)&&!zU c (oq c dn d)):=rfl
    have cL:IG c (dn++[m]) w d=(decide (qg c d.Key=w)&&!zU c (A8 (oq c dn d) m)):=by unfold IG;rw [Hq d hm,if_pos rfl,L0]
    have DI:L2 c fl dn w≤fl.length:=cf _ _
    have NV:L2 c fl (dn++[m]) w≤fl.length:=cf _ _
    have h0:=h.opn w Mp
    unfold L2 at DI NV h0 ⊢
    have hlo:qg c d.Key < s.open_.length:=by rw [h.open_];exact hw
    unfold Ik
    rw [h.c_]
    by_cases U4:qg c d.Key=w
    ·rw [hp,cL,U4,decide_eq_true rfl,dQ,dQ] at vE
     rw [U4] at hlo ⊢
     cases a:zU c (oq c dn d)<;>cases b:zU c (A8 (oq c dn d) m)<;>simp only [a,b] at vE ⊢<;>simp at vE
     ·rw [if_neg (by simp),h0];omega
     ·rw [if_pos (by simp),if_pos trivial,tv hlo,if_pos rfl,h0,bl (by omega) (by omega)];omega
     ·rw [if_pos (by simp),if_neg (by simp),tv hlo,if_pos rfl,h0,bl (by omega) (by omega)];omega
     ·rw [if_neg (by simp),h0];omega
    ·rw [hp,cL,decide_eq_false U4,g8,g8] at vE
     simp at vE
     rw [vE]
     split
     ·split<;>rw [tv hlo,if_neg U4]<;>exact h0
     ·exact h0
   by_cases hk:m.Kind≠3∧m.Kind≠4
   ·have PM:yD m=false:=by unfold yD;simp [hk]
    have Ea:∀ w,zw c fl dn w m=false:=fun w=>by rw [WD w,PM];rfl
    have hS:sA s i (qg c d.Key) (oq c dn d) m={s with open_:=Ik s.c_ s.open_ (qg c d.Key) (oq c dn d) (A8 (oq c dn d) m),mf:=s.mf.set i (Cb (oq c dn d) m)}:=by
     unfold sA;rw [if_pos iv,if_pos hk]
    rw [hS] at r2 ⊢
    refine ⟨r2,Y7,fun w Mp=>?_,fun w Mp=>?_,?_⟩
    ·rw [tO,Ea w];exact h.en w Mp
    ·rw [tO,Ea w];exact h.fa w Mp
    ·rw [xZ,Rf Ea,if_neg (by simp)];exact h.sp
   ·have PM:yD m=true:=by unfold yD;simp;omega
    have hS:sA s i (qg c d.Key) (oq c dn d) m={s with open_:=Ik s.c_ s.open_ (qg c d.Key) (oq c dn d) (A8 (oq c dn d) m),bD:=lC s.bD (qg c d.Key) 1,ba:=if m.Kind=4 then lC s.ba (qg c d.Key) 1 else s.ba,bh:=OF s.c_ (qg c d.Key) (lC s.bD (qg c d.Key) 1) (if m.Kind=4 then lC s.ba (qg c d.Key) 1 else s.ba) s.bh m,mf:=s.mf.set i (Cb (oq c dn d) m)}:=by
     unfold sA;rw [if_pos iv,if_neg hk]
    have hh:∀ w,zw c fl dn w m=decide (qg c d.Key=w):=fun w=>by rw [WD w,PM,iv];simp
    have x7:=WC c fl (qg c d.Key) dn
    have Y1:=Nl (EL c fl (qg c d.Key) dn)
    have hle:qg c d.Key < s.bD.length:=by rw [h.bD];exact hw
    have hlf:qg c d.Key < s.ba.length:=by rw [h.ba];exact hw
    have vD:∀ w,w < c.aR.length→(lC s.bD (qg c d.Key) 1).getD w 0=((EL c fl w (dn++[m])).length:Int):=by
     intro w Mp
     rw [tv hle,tO,hh w]
     by_cases e:qg c d.Key=w
     ·rw [if_pos e,decide_eq_true e,if_pos rfl,h.en _ hw,bl (by omega) (by omega),← e];simp
     ·rw [if_neg e,decide_eq_false e,if_neg ce];exact h.en w Mp
    have hfa:∀ w,w < c.aR.length→(if m.Kind=4 then lC s.ba (qg c d.Key) 1 else s.ba).getD w 0=(CB (EL c fl w (dn++[m])):Int):=by
     intro w Mp
     rw [tO,hh w]
     by_cases e:qg c d.Key=w
     ·rw [decide_eq_true e,if_pos rfl,Km]
      by_cases h4:m.Kind=4
      ·rw [if_pos h4,if_pos h4,tv hlf,if_pos e,h.fa _ hw,bl (by omega) (by omega),← e];simp
      ·rw [if_neg h4,if_neg h4,h.fa w Mp];simp
     ·rw [decide_eq_false e,if_neg ce]
      split
      ·rw [tv hlf,if_neg e];exact h.fa w Mp
      ·exact h.fa w Mp
    rw [hS] at r2 ⊢
    refine ⟨r2,Y7,vD,hfa,?_⟩
    simp only
    unfold OF
    rw [vD _ hw,hfa _ hw,h.c_,h.sp,xZ]
    have wS:Fq c fl dn m=CC c (qg c d.Key) (EL c fl (qg c d.Key) (dn++[m])):=by
     unfold Fq
     rw [al,ds]
     constructor
     ·rintro ⟨w,_,e⟩
      rw [hh w] at e
      simp only [ac,decide_eq_true_eq] at e
      rw [e.1];exact e.2
     ·intro e
      exact ⟨qg c d.Key,fr.2 hw,by rw [hh];simp [e]⟩
    rw [wS]
    unfold CC
    simp only [ac,decide_eq_true_eq]
  ·have L0:Cb (oq c dn d) m=oq c dn d:=by unfold Cb;rw [if_neg iv]
   have hS:sA s i (qg c d.Key) (oq c dn d) m={s with mf:=s.mf.set i (Cb (oq c dn d) m)}:=by unfold sA;rw [if_neg iv]
   have ac3:Kd (oq c dn d) m=false:=by simpa using iv
   rw [hS] at r2 ⊢
   exact Nk h r2 (fun d' ya=>by rw [Hq d' ya,L0];split<;>simp_all) (fun w=>by rw [WD w,ac3];simp) rfl rfl rfl rfl
theorem Kn (c:Campaign) (fl:List DeviceS) (hc:lB c) (hf:mV fl) (hl:(fl.length:Int)≤100000):Ok (gB c fl) (fun s=>SX c fl s []∧s.aV=[]∧s.cZ=c.At):=by
 refine (Kj c fl hc hf hl).mono ?_
 rintro s ⟨h0,h1,h2,h3,h4,h5,h6⟩
 have WE:∀ w,(ag c.aR.length (0:Int)).getD w 0=0:=by
  intro w
  rw [ci,List.getElem?_replicate]
  split<;>rfl
 refine ⟨⟨h0,fun w hw=>?_,fun w hw=>?_,fun w hw=>?_,?_⟩,h4,h6⟩
 ·rw [h1]
  have key:∀ l:List DeviceS,(∀ d∈l,ql d.Key=true)→(l.length:Int)≤100000→(l.foldl (zv c) (ag c.aR.length 0)).getD w 0=((l.filter (IG c [] w)).length:Int):=by
   refine qN (fun _ _=>WE w) (fun l d ih hk hl=>?_)
   have ih:=ih (fun x hx=>hk x (fs _ hx)) (by simp at hl;omega)
   have hll:((l.foldl (zv c) (ag c.aR.length 0))).length=c.aR.length:=by rw [B1];simp
   have hle:=cf (IG c [] w) l
   rw [aw,bY,aI]
   simp only [af,bm]
   have hp:IG c [] w d=(decide (qg c d.Key=w)&&!decide (d.bQ=c.Target)):=by
    unfold IG zU
    rw [show oq c [] d=x0 d from rfl]
    unfold x0
    simp
   have hkw:=(BZ c hc d.Key (hk d (by simp))).2
   rw [hp]
   simp at hl
   by_cases a:d.bQ=c.Target
   ·rw [show zv c (l.foldl (zv c) (ag c.aR.length 0)) d=l.foldl (zv c) (ag c.aR.length 0) from if_pos (decide_eq_true a),ih];simp [a]
   ·rw [show zv c (l.foldl (zv c) (ag c.aR.length 0)) d=lC (l.foldl (zv c) (ag c.aR.length 0)) (qg c d.Key) 1 from if_neg (by simpa using a),tv (by rw [hll];exact hkw)]
    by_cases b:qg c d.Key=w
    ·rw [if_pos b,b,ih,bl (by omega) (by omega)];simp [a]
    ·rw [if_neg b,ih];simp [a,b]
  exact key fl hf.key hl
 ·rw [h2,WE];rfl
 ·rw [h3,WE];rfl
 ·rw [h5];rfl
noncomputable def FM (c:Campaign) (dn:List MarkS) (d:DeviceS):List MarkS:=(dn.filter (uk c d.Key)).foldl yC []
theorem G1:∀ (ms A:List MarkS) (x:ao),(x.ak.Kind,x.bb)=pK A→((ms.foldl Cb x).ak.Kind,(ms.foldl Cb x).bb)=pK (ms.foldl yC A)
 | [],A,x,h=>h
 | m :: r,A,x,h=>by
   rw [af,af]
   refine G1 r _ _ ?_
   have e:Kd x m=Q7 (pK A).1 (pK A).2 m:=by unfold Kd;rw [← h]
   unfold Cb yC
   rw [e]
   split
   ·unfold pK;rw [d5];rfl
   ·exact h
theorem Rg (c:Campaign) (dn:List MarkS) (d:DeviceS):((oq c dn d).ak.Kind,(oq c dn d).bb)=pK (FM c dn d):=G1 _ [] (x0 d) rfl
theorem T2 (c:Campaign) (dn:List MarkS) (m:MarkS) (d:DeviceS):FM c (dn++[m]) d=if qD c dn m d=true then FM c dn d++[m] else FM c dn d:=by
 have hl:=Rg c dn d
 have e:Kd (oq c dn d) m=Q7 (pK (FM c dn d)).1 (pK (FM c dn d)).2 m:=by unfold Kd;rw [← hl]
 unfold qD
 conv=>lhs;unfold FM
 rw [bY,aI,aw]
 by_cases h:uk c d.Key m=true
 ·rw [if_pos h,h,dQ,e];rfl
 ·rw [if_neg h,if_neg (by simp [h])];rfl
theorem WG (c:Campaign) (dn:List MarkS) (d:DeviceS):(FM c dn d).length≤dn.length:=by
 have h1:=Fo (dn.filter (uk c d.Key)) []
 have h2:=cf (uk c d.Key) dn
 unfold FM;simp at h1;omega
theorem Rh (c:Campaign) (k:bn) (l:List MarkS) (n:Nat) (at_:Int) (h1:∀ x∈l.take n,x.At≤at_) (h2:∀ x∈l.drop n,at_ < x.At):l.filter (yB c k at_)=(l.take n).filter (uk c k):=by
 conv=>lhs;rw [← d7 n l,bY]
 have z:(l.drop n).filter (yB c k at_)=[]:=by
  rw [dl]
  intro x hx
  have:=h2 x hx
  unfold yB
  simp only [ac,decide_eq_true_eq]
  omega
 rw [z,cz]
 refine cP (fun x hx=>?_)
 have:=h1 x hx
 unfold yB uk
 rw [decide_eq_true this,dy]
theorem Ir (c:Campaign) (d:DeviceS) (l:List MarkS) (n:Nat) (at_:Int) (h1:∀ x∈l.take n,x.At≤at_) (h2:∀ x∈l.drop n,at_ < x.At) (hl:(l.length:Int)≤3000) (hK:∀ q∈l,1≤q.Kind∧q.Kind≤5):ta c d.Key l at_=some (FM c (l.take n) d):=by
 rw [De c d.Key l at_ (by omega) hK,Rh c d.Key l n at_ h1 h2];rfl
theorem zy (c:Campaign) (hc:lB c) (k:bn) (hk:ql k=true):sh c k=some (qg c k:Int):=by
 have h1:=xv hc.key
 have h2:=xv hk
 have Y5:=Nd c k
 obtain ⟨j,j1,j2⟩:=TR c hc (xY c k) Y5.2 c.aR.length 0 0 (by omega) (by omega) Y5.1 (by rw [bo,hc.sum];rfl)
 have e:gX c k=some j:=by
  unfold gX
  rw [Ih c k (by omega) (by omega)]
  exact j1
 have e2:=(BZ c hc k hk).1
 rw [e] at e2
 rw [← be e2]
 unfold sh
 rw [Ii c k (by omega) (by omega)]
 simp only [aa]
 rw [show xY c k - 0=xY c k by omega] at j2
 exact j2
theorem G2 {α β:Type} (q:α→Bool) (g:α→List β) (m:β):∀ L:List α,L.Pairwise (fun a b=>¬ (q a=true∧q b=true))→(L.flatMap (fun d=>if q d=true then g d++[m] else g d)).Perm (L.flatMap g++(if L.any q=true then [m] else []))
 | [],_=>by simp
 | d :: r,h=>by
   rw [cb] at h
   have ih:=G2 q g m r h.2
   rw [g9,g9,List.any_cons]
   by_cases hd:q d=true
   ·have hn:r.any q=false:=by
     rw [fn]
     intro x hx hq
     exact h.1 x hx ⟨hd,hq⟩
    rw [hn,if_neg (by simp),cz] at ih
    rw [if_pos hd,hd,Bool.true_or,if_pos rfl,du,du]
    exact hG _ (((List.perm_append_comm).trans (hJ _ ih)))
   ·rw [if_neg hd,show (q d||r.any q)=r.any q by simp [hd],du]
    exact hG _ ih
noncomputable def O5 (c:Campaign) (fl:List DeviceS) (w:Nat):List DeviceS:=fl.filter (fun d=>decide (qg c d.Key=w))
theorem T3 {c:Campaign} {fl:List DeviceS} (hf:mV fl) (w:Nat):∀ dn:List MarkS,(((O5 c fl w).flatMap (FM c dn)).filter yD).Perm (EL c fl w dn):=by
 refine qN ?_ (fun dn m ih=>?_)
 ·have:(O5 c fl w).flatMap (FM c [])=[]:=by
   rw [List.flatMap_eq_nil_iff];intro x _;rfl
  rw [this];exact fd _
 ·have e:(FM c (dn++[m]))=fun d=>if qD c dn m d=true then FM c dn d++[m] else FM c dn d:=funext (fun d=>T2 c dn m d)
  have hp:(O5 c fl w).Pairwise (fun a b=>¬ (qD c dn m a=true∧qD c dn m b=true)):=by
   have hn:=hf.U2
   unfold List.Nodup at hn
   rw [fi] at hn
   unfold O5
   refine (hL _ hn).imp (fun {a b} DL hq=>DL ?_)
   unfold qD uk at hq
   simp only [ac,decide_eq_true_eq] at hq
   rw [← hq.1.1.1,← hq.2.1.1]
  rw [e]
  refine ((G2 (qD c dn m) (FM c dn) m _ hp).filter yD).trans ?_
  rw [bY,tO]
  have ha:(O5 c fl w).any (qD c dn m)=fl.any (fun d=>decide (qg c d.Key=w)&&qD c dn m d):=by unfold O5;rw [List.any_filter]
  have hh:zw c fl dn w m=(yD m&&(O5 c fl w).any (qD c dn m)):=by rw [ha];rfl
  rw [hh]
  by_cases a:(O5 c fl w).any (qD c dn m)=true
  ·rw [if_pos a,a,dy,aI]
   split
   ·exact hJ _ ih
   ·rw [hM,cz];exact ih
  ·rw [if_neg a,if_neg (by simp [a]),hM,cz];exact ih
theorem WH (c:Campaign) (fl:List DeviceS) (w:Nat):∀ dn:List MarkS,(EL c fl w dn).Sublist dn:=
 qN (hO _) (fun l x h=>by
  rw [tO];split
  ·exact h.append (hO _)
  ·exact h.trans (List.sublist_append_left _ _))
noncomputable def Nn (c:Campaign) (w:Nat) (s:List MarkS×Int) (m:MarkS):List MarkS×Int:=(s.1++[m],if s.2 < 0∧CC c w (s.1++[m])=true then m.At else s.2)
noncomputable def SW (c:Campaign) (w:Nat) (E:List MarkS):Int:=(E.foldl (Nn c w) ([],-1)).2
theorem WI (c:Campaign) (w:Nat):∀ dn:List MarkS,(dn.foldl (Nn c w) ([],-1)).1=dn:=
 qN rfl (fun l x h=>by rw [aw];simp only [af,bm];unfold Nn at h ⊢;rw [h])
theorem Is (c:Campaign) (w:Nat) (dn:List MarkS) (m:MarkS):SW c w (dn++[m])=if SW c w dn < 0∧CC c w (dn++[m])=true then m.At else SW c w dn:=by
 unfold SW
 rw [aw]
 simp only [af,bm]
 have e:∀ S:List MarkS×Int,(Nn c w S m).2=if S.2 < 0∧CC c w (S.1++[m])=true then m.At else S.2:=fun _=>rfl
 rw [e,WI]
theorem T6 (c:Campaign) (w:Nat) (A:List MarkS) (h:0≤SW c w A):∀ l,SW c w (A++l)=SW c w A:=
 qN (by rw [cz]) (fun l x ih=>by rw [← du,Is,ih,if_neg (by omega)])
theorem G3 (c:Campaign) (w:Nat) (hw:w < c.aR.length) (Z:List MarkS) (hl:(Z.length:Int)≤100000) (hm:∀ x∈Z,0≤x.At):∀ (m n:Nat),n+m=Z.length→SW c w (Z.take n)=-1→wa c (w:Int) Z (CB (Z.take n):Int) (n:Int)=some (SW c w Z)
 | 0,n,h,hs=>by
   rw [cX (by omega)] at hs
   unfold wa
   rw [iter_eq,pD,if_neg (by simp only;omega),aY,hs]
 | m+1,n,h,hs=>by
   obtain ⟨q,hq,TU,hd⟩:=ff Z (i:=(n:Int)) (by omega) (by omega)
   rw [show ((n:Int)).toNat=n by omega,show ((n:Int)+1).toNat=n+1 by omega] at hd
   have hg:Z[n]? =some q:=by have:=(jC hq).2.2;rwa [bi] at this
   have ht:Z.take (n+1)=Z.take n++[q]:=by rw [cW,hg];rfl
   have IU:(Z.take n).length=n:=by rw [dg];omega
   have Y1:=Nl (Z.take n)
   have w1:bB ((n:Int)+1)=((n+1:Nat):Int):=by rw [bl]<;>omega
   have ih:=G3 c w hw Z hl hm m (n+1) (by omega)
   have OX:=Is c w (Z.take n) q
   rw [← ht,hs] at OX
   have Y6:idx c.aR (w:Int)=some (vy c w):=by
    refine tN ?_
    unfold vy
    rw [ci,c8 hw];rfl
   have j2:pC c (w:Int) (n:Int) q (CB (Z.take (n+1)):Int)=if CC c w (Z.take (n+1))=true then some (.inr q.At) else some (.inl ((CB (Z.take (n+1)):Int),((n+1:Nat):Int))):=by
    unfold pC vZ
    rw [Y6,w1]
    simp only [aa]
    have e:CC c w (Z.take (n+1))=(decide ((vy c w).Aj≤((n+1:Nat):Int))&&decide (bB ((vy c w).et * ((n+1:Nat):Int)) < bB ((CB (Z.take (n+1)):Int) * 1000))):=by
     unfold CC
     rw [show (Z.take (n+1)).length=n+1 by rw [dg];omega,Int.mul_comm (1000:Int)]
    rw [e]
    rfl
   have sN:pD c (w:Int) Z (CB (Z.take n):Int) (n:Int)=pC c (w:Int) (n:Int) q (CB (Z.take (n+1)):Int):=by
    rw [pD,if_pos (by omega),hq]
    simp only [aa]
    rw [ht,Km]
    by_cases h4:q.Kind=4
    ·rw [if_pos h4,if_pos h4,bl (by omega) (by omega)];rfl
    ·rw [if_neg h4,if_neg h4];rfl
   unfold wa at ih ⊢
   rw [iter_eq]
   simp only
   rw [sN,j2]
   by_cases hc:CC c w (Z.take (n+1))=true
   ·rw [if_pos hc]
    rw [if_pos ⟨by omega,hc⟩] at OX
    have hk:=T6 c w (Z.take (n+1)) (by rw [OX];exact hm q TU) (Z.drop (n+1))
    rw [d7] at hk
    rw [hk,OX];rfl
   ·rw [if_neg hc]
    rw [if_neg (fun h=>hc h.2)] at OX
    simp only [aa,bC]
    exact ih OX
theorem sorted_at {l:List MarkS} (h:l.Pairwise (fun a b=>mO a b < 0)):∀ a∈l,∀ b∈l,¬ mO a b < 0→¬ mO b a < 0→a=b:=by
 induction l with
 | nil=>intro a ha;cases ha
 | cons x r ih=>
   rw [cb] at h
   intro a ha b hb h1 h2
   rcases ad.1 ha with ea | ME<;>rcases ad.1 hb with eb | B6
   ·rw [ea,eb]
   ·rw [ea] at h1;exact absurd (h.1 b B6) h1
   ·rw [eb] at h2;exact absurd (h.1 a ME) h2
   ·exact ih h.2 a ME b B6 h1 h2
structure KU (c:Campaign) (fl:List DeviceS) (l:List MarkS):Prop where
 c_:lB c
 f_:mV fl
 Y8:(fl.length:Int)≤500
 m_:∀ x∈l,Iq x
 s_:l.Pairwise (fun a b=>mO a b < 0)
 l_:(l.length:Int)≤3000
theorem OH {c:Campaign} {fl:List DeviceS} {l:List MarkS} (H:KU c fl l) (w:Nat) (hw:w < c.aR.length) (n:Nat) (X:List MarkS) (hX:X=(O5 c fl w).flatMap (FM c (l.take n))) (Xy:(X.length:Int)≤100000):wb c (w:Int) X=some (SW c w (EL c fl w (l.take n))):=by
 have ow:=(WH c fl w (l.take n)).trans (ft n l)
 have mW:=T3 (c:=c) H.f_ w (l.take n)
 rw [← hX] at mW
 unfold wb
 have ac4:fx X (fun y0=>some (mw y0))=some (X.filter yD):=by
  have:=MY ZM (fun y0=>some (mw y0)) mw X Xy (fun x _=>rfl)
  rw [show fx X (fun y0=>some (mw y0))=Wn ZM X (fun y0=>some (mw y0)) from rfl,this]
  congr 1
  refine cP (fun x _=>?_)
  unfold mw si yD
  rw [al];simp
 rw [ac4]
 simp only [aa]
 have lI:∀ x∈X.filter yD,x∈l:=fun x hx=>ow.subset (mW.mem_iff.1 hx)
 have hMB:∀ x∈X.filter yD,MB x:=fun x hx=>by have:=(H.m_ x (lI x hx)).Q5;unfold MB;omega
 have Hl:=cf yD X
 obtain ⟨Z,z1,z2,z3⟩:=JX (fun y0 y1=>some (ie y0 y1)) mO (X.filter yD) (by omega) (fun a ha b hb=>by rw [BV (hMB a ha) (hMB b hb)]) (OB.ord _)
 have YZ:=z2.length_eq
 have hs:pb (X.filter yD).length (fun r:List MarkS=>r.length) (lP (X.filter yD) (fun y0 y1=>some (ie y0 y1)))=some Z:=wH z1 YZ
 rw [hs]
 simp only [aa]
 have hZE:Z=EL c fl w (l.take n):=by
  refine AR (z2.trans mW) z3 ?_ (fun a ha b hb=>sorted_at H.s_ a (lI a (z2.mem_iff.1 ha)) b (lI b (z2.mem_iff.1 hb)))
  unfold JV
  refine (H.s_.sublist ow).imp (fun {a b} DL Y9=>?_)
  have:=OB.neg a b
  omega
 rw [hZE]
 have R7:=ow.length_le
 have Za:=H.l_
 exact G3 c w hw (EL c fl w (l.take n)) (by omega) (fun x hx=>(H.m_ x (ow.subset hx)).Q5.1) _ 0 (cS _) rfl
theorem Df {c:Campaign} {fl:List DeviceS} {l:List MarkS} (H:KU c fl l) (w:Nat) (hw:w < c.aR.length) (at_:Int) (n:Nat) (h1:∀ x∈l.take n,x.At≤at_) (h2:∀ x∈l.drop n,at_ < x.At) (hb:(fl.length * l.length:Int)≤100000):∀ (m k:Nat) (X:List MarkS),k+m=fl.length→X=(O5 c (fl.take k) w).flatMap (FM c (l.take n))→X.length≤k * l.length→wc c (w:Int) fl l at_ X (k:Int)=some (SW c w (EL c fl w (l.take n)))
 | 0,k,X,hk,hX,Xy=>by
   have Ja:k=fl.length:=by omega
   rw [Ja,cX (dR _)] at hX
   unfold wc
   rw [iter_eq,rI,if_neg (by simp only;omega),aY]
   refine OH H w hw n X hX ?_
   rw [Ja] at Xy
   have:((fl.length * l.length:Nat):Int)=(fl.length * l.length:Int):=by push_cast;rfl
   omega
 | m+1,k,X,hk,hX,Xy=>by
   obtain ⟨d,hd,Re,_⟩:=ff fl (i:=(k:Int)) (by omega) (by omega)
   have hg:fl[k]? =some d:=by have:=(jC hd).2.2;rwa [bi] at this
   have ht:fl.take (k+1)=fl.take k++[d]:=by rw [cW,hg];rfl
   have an1:=H.Y8
   have w1:bB ((k:Int)+1)=((k+1:Nat):Int):=by rw [bl]<;>omega
   have hFl:=WG c (l.take n) d
   have an2:(l.take n).length≤l.length:=by rw [dg];omega
   have hmul:k * l.length≤fl.length * l.length:=Nat.mul_le_mul_right _ (by omega)
   have ahH:((fl.length * l.length:Nat):Int)=(fl.length * l.length:Int):=by push_cast;rfl
   have Za:=H.l_
   have ih:=fun X hX Xy=>Df H w hw at_ n h1 h2 hb m (k+1) X (by omega) hX Xy
   unfold wc at ih ⊢
   rw [iter_eq,rI,if_pos (by simp only;omega)]
   simp only
   rw [hd]
   simp only [aa]
   rw [zy c H.c_ d.Key (H.f_.key d Re)]
   simp only [aa]
   unfold uc
   rw [w1]
   have CZ:(k+1) * l.length=k * l.length+l.length:=Nat.succ_mul _ _
   by_cases U4:qg c d.Key=w
   ·rw [if_pos (by rw [U4]),Ir c d l n at_ h1 h2 (by omega) (fun q hq=>(H.m_ q hq).kind)]
    simp only [aa]
    rw [pJ (by omega)]
    simp only [aa,bC]
    refine ih _ ?_ (by rw [cy,CZ];omega)
    rw [ht,hX]
    unfold O5
    rw [bY,aI,if_pos (by simpa using U4),List.flatMap_append]
    simp
   ·rw [if_neg (by omega)]
    simp only [aa,bC]
    refine ih _ ?_ (by rw [CZ];omega)
    rw [ht,hX]
    unfold O5
    rw [bY,aI,if_neg (by simpa using U4)]
    simp
theorem OI {c:Campaign} {fl:List DeviceS} {l:List MarkS} (H:KU c fl l) (w:Nat) (hw:w < c.aR.length) (at_:Int) (n:Nat) (h1:∀ x∈l.take n,x.At≤at_) (h2:∀ x∈l.drop n,at_ < x.At) (hb:(fl.length * l.length:Int)≤100000):Bz c (w:Int) fl l at_=some (SW c w (EL c fl w (l.take n))):=
 Df H w hw at_ n h1 h2 hb fl.length 0 [] (by omega) rfl (by simp)
def comb (r v:Int):Int:=if 0≤v∧(r < 0∨v < r) then v else r
theorem G4 (f:Nat→Int):∀ N:Nat,((bt N).foldl (fun r w=>comb r (f w)) (-1)=-1∧∀ w,w < N→f w < 0)∨(0≤(bt N).foldl (fun r w=>comb r (f w)) (-1)∧(∃ w,w < N∧f w=(bt N).foldl (fun r w=>comb r (f w)) (-1))∧∀ w,w < N→f w < 0∨(bt N).foldl (fun r w=>comb r (f w)) (-1)≤f w)
 | 0=>.inl ⟨rfl,fun w h=>by omega⟩
 | N+1=>by
   rw [hU,aw]
   simp only [af,bm]
   rcases G4 f N with ⟨h1,h2⟩ | ⟨h1,⟨w0,h2,h3⟩,h4⟩
   ·rw [h1]
    unfold comb
    by_cases hv:0≤f N
    ·rw [if_pos ⟨hv,.inl (by omega)⟩]
     refine .inr ⟨hv,⟨N,by omega,rfl⟩,fun w hw=>?_⟩
     rcases dk w N with h | h
     ·exact .inl (h2 w h)
     ·obtain rfl:w=N:=by omega
      exact .inr (d8 _)
    ·rw [if_neg (fun h=>hv h.1)]
     refine .inl ⟨rfl,fun w hw=>?_⟩
     rcases dk w N with h | h
     ·exact h2 w h
     ·obtain rfl:w=N:=by omega
      omega
   ·generalize (bt N).foldl (fun r w=>comb r (f w)) (-1)=r at h1 h3 h4 ⊢
    right
    unfold comb
    by_cases hv:0≤f N∧(r < 0∨f N < r)
    ·rw [if_pos hv]
     refine ⟨hv.1,⟨N,by omega,rfl⟩,fun w hw=>?_⟩
     rcases dk w N with h | h
     ·have:=h4 w h;omega
     ·obtain rfl:w=N:=by omega
      exact .inr (d8 _)
    ·rw [if_neg hv]
     refine ⟨h1,⟨w0,by omega,h3⟩,fun w hw=>?_⟩
     rcases dk w N with h | h
     ·exact h4 w h
     ·obtain rfl:w=N:=by omega
      omega
theorem T7 (c:Campaign) (fl:List DeviceS):∀ dn:List MarkS,dn.Pairwise (fun a b=>a.At≤b.At)→(∀ x∈dn,0≤x.At)→
 ((SA c fl dn=-1∧∀ w,w < c.aR.length→SW c w (EL c fl w dn)=-1)∨(0≤SA c fl dn∧(∃ w,w < c.aR.length∧SW c w (EL c fl w dn)=SA c fl dn)∧∀ w,w < c.aR.length→SW c w (EL c fl w dn)=-1∨SA c fl dn≤SW c w (EL c fl w dn)))∧∀ w,w < c.aR.length→SW c w (EL c fl w dn)=-1∨∃ x∈dn,SW c w (EL c fl w dn)=x.At:=by
 refine qN (fun _ _=>⟨.inl ⟨rfl,fun _ _=>rfl⟩,fun _ _=>.inl rfl⟩) (fun dn m ih hp hn=>?_)
 rw [hV] at hp
 obtain ⟨i1,i2⟩:=ih hp.1 (fun x hx=>hn x (fs _ hx))
 have W4:=hn m (by simp)
 have hle:∀ x∈dn,x.At≤m.At:=fun x hx=>hp.2.2 x hx m (by simp)
 have hf:∀ w,SW c w (EL c fl w (dn++[m]))=if zw c fl dn w m=true∧SW c w (EL c fl w dn) < 0∧CC c w (EL c fl w (dn++[m]))=true then m.At else SW c w (EL c fl w dn):=by
  intro w
  rw [tO]
  by_cases h:zw c fl dn w m=true
  ·rw [if_pos h,Is]
   by_cases h2:SW c w (EL c fl w dn) < 0∧CC c w (EL c fl w dn++[m])=true
   ·rw [if_pos h2,if_pos ⟨h,h2⟩]
   ·rw [if_neg h2,if_neg (fun h'=>h2 h'.2)]
  ·rw [if_neg h,if_neg (fun h'=>h h'.1)]
 have wS:Fq c fl dn m=true↔∃ w,w < c.aR.length∧zw c fl dn w m=true∧CC c w (EL c fl w (dn++[m]))=true:=by
  unfold Fq
  rw [ds]
  constructor
  ·rintro ⟨w,hw,e⟩
   rw [ac] at e
   exact ⟨w,fr.1 hw,e⟩
  ·rintro ⟨w,hw,e⟩
   exact ⟨w,fr.2 hw,by rw [ac];exact e⟩
 refine ⟨?_,fun w hw=>?_⟩
 ·rcases i1 with ⟨h1,h2⟩ | ⟨h1,⟨w0,hw0,h2⟩,h3⟩
  ·rw [xZ,h1]
   by_cases hN:Fq c fl dn m=true
   ·rw [if_pos ⟨by omega,hN⟩]
    obtain ⟨w,hw,a1,a2⟩:=wS.1 hN
    refine .inr ⟨W4,⟨w,hw,by rw [hf,if_pos ⟨a1,by rw [h2 w hw];omega,a2⟩]⟩,fun v hv=>?_⟩
    rw [hf]
    split
    ·exact .inr (d8 _)
    ·exact .inl (h2 v hv)
   ·rw [if_neg (fun h=>hN h.2)]
    refine .inl ⟨rfl,fun w hw=>?_⟩
    rw [hf,if_neg]
    ·exact h2 w hw
    ·rintro ⟨a1,_,a2⟩
     exact hN (wS.2 ⟨w,hw,a1,a2⟩)
  ·rw [xZ,if_neg (by omega)]
   refine .inr ⟨h1,⟨w0,hw0,by rw [hf,if_neg (by omega)];exact h2⟩,fun v hv=>?_⟩
   rw [hf]
   split
   ·right
    have:=i2 w0 hw0
    rcases this with e | ⟨x,hx,e⟩
    ·omega
    ·have:=hle x hx;omega
   ·exact h3 v hv
 ·rw [hf]
  split
  ·exact .inr ⟨m,by simp,rfl⟩
  ·rcases i2 w hw with e | ⟨x,hx,e⟩
   ·exact .inl e
   ·exact .inr ⟨x,fs _ hx,e⟩
theorem zA {c:Campaign} {fl:List DeviceS} {l:List MarkS} (H:KU c fl l) (at_:Int) (n:Nat) (h1:∀ x∈l.take n,x.At≤at_) (h2:∀ x∈l.drop n,at_ < x.At) (hb:(fl.length * l.length:Int)≤100000):∀ (m k:Nat),k+m=c.aR.length→sk c fl l at_ ((bt k).foldl (fun r w=>comb r (SW c w (EL c fl w (l.take n)))) (-1)) (k:Int)=some ((bt c.aR.length).foldl (fun r w=>comb r (SW c w (EL c fl w (l.take n)))) (-1))
 | 0,k,hk=>by
   have Ja:k=c.aR.length:=by omega
   subst Ja
   unfold sk
   rw [iter_eq,nH,if_neg (by simp only;omega),aY]
 | m+1,k,hk=>by
   have Ag:=H.c_.len
   have w1:bB ((k:Int)+1)=((k+1:Nat):Int):=by rw [bl]<;>omega
   have ih:=zA H at_ n h1 h2 hb m (k+1) (by omega)
   rw [hU,aw] at ih
   simp only [af,bm] at ih
   unfold sk at ih ⊢
   rw [iter_eq,nH,if_pos (by simp only;omega)]
   simp only
   rw [OI H k (by omega) at_ n h1 h2 hb]
   simp only [aa]
   generalize (bt k).foldl (fun r w=>comb r (SW c w (EL c fl w (l.take n)))) (-1)=r at ih ⊢
   generalize SW c k (EL c fl k (l.take n))=v at ih ⊢
   unfold sj pE
   rw [w1]
   unfold comb at ih
   by_cases hv:0≤v∧(r < 0∨v < r)
   ·rw [if_pos hv] at ih
    rw [if_pos (by simpa using hv)]
    simp only [aa,bC]
    exact ih
   ·rw [if_neg hv] at ih
    rw [if_neg (by simpa using hv)]
    simp only [aa,bC]
    exact ih
theorem Iu {c:Campaign} {fl:List DeviceS} {l:List MarkS} (H:KU c fl l) (at_:Int) (n:Nat) (h1:∀ x∈l.take n,x.At≤at_) (h2:∀ x∈l.drop n,at_ < x.At) (hb:(fl.length * l.length:Int)≤100000):nW c fl l at_=some (SA c fl (l.take n)):=by
 have h:=zA H at_ n h1 h2 hb c.aR.length 0 (by omega)
 unfold nW
 refine Eq.trans h (congrArg some ?_)
 have ow:=ft n l
 obtain ⟨a,b⟩:=T7 c fl (l.take n) ((H.s_.sublist ow).imp Kk) (fun x hx=>(H.m_ x (ow.subset hx)).Q5.1)
 have Gp:=G4 (fun w=>SW c w (EL c fl w (l.take n))) c.aR.length
 generalize (bt c.aR.length).foldl (fun r w=>comb r (SW c w (EL c fl w (l.take n)))) (-1)=r at Gp ⊢
 rcases Gp with ⟨p1,p2⟩ | ⟨p1,⟨w,pw,p2⟩,p3⟩<;>rcases a with ⟨q1,q2⟩ | ⟨q1,⟨v,qv,q2⟩,q3⟩
 ·omega
 ·have:=p2 v qv;omega
 ·have:=q2 w pw;omega
 ·have:=p3 v qv;have:=q3 w pw;omega
theorem Ri {c:Campaign} {dn:List MarkS} {d:DeviceS} (h:(oq c dn d).ak.Kind≠0):∃ x∈dn,uk c d.Key x=true:=by
 cases e:dn.filter (uk c d.Key) with
 | nil=>unfold oq at h;rw [e] at h;exact absurd rfl h
 | cons x r=>
   have:x∈dn.filter (uk c d.Key):=by rw [e];simp
   rw [bv] at this
   exact ⟨x,this⟩
theorem Zb (c:Campaign) (fl:List DeviceS):∀ dn:List MarkS,dn.Pairwise (fun a b=>mO a b < 0)→SA c fl dn=-1∨c.At < SA c fl dn:=by
 refine qN (fun _=>.inl rfl) (fun dn m ih hp=>?_)
 rw [hV] at hp
 have ih:=ih hp.1
 rw [xZ]
 split
 ·rename_i h
  right
  have hn:=h.2
  unfold Fq at hn
  rw [ds] at hn
  obtain ⟨w,_,hw⟩:=hn
  rw [ac] at hw
  have hh:=hw.1
  unfold zw at hh
  rw [ac,ds] at hh
  obtain ⟨he,d,hd,hq⟩:=hh
  unfold qD at hq
  simp only [ac,decide_eq_true_eq] at hq
  have Zc:(oq c dn d).ak.Kind≠0:=by
   have ho:=hq.2.2
   unfold Kd Q7 at ho
   unfold yD at he
   simp only [cp,decide_eq_true_eq] at he
   rw [if_neg (by omega),if_neg (by omega)] at ho
   simp only [decide_eq_true_eq] at ho
   omega
  obtain ⟨x,hx,hr⟩:=Ri Zc
  have z7:=hp.2.2 x hx m (by simp)
  unfold uk at hr hq
  simp only [ac,decide_eq_true_eq] at hr hq
  have Rc:x.Device=m.Device:=by rw [hr.1,hq.2.1.1]
  unfold mO at z7
  have iW:x.At < m.At:=by
   by_cases h0:er x.At m.At≠0
   ·rw [if_pos h0] at z7
    unfold er at z7
    split at z7
    ·assumption
    ·split at z7<;>omega
   ·rw [if_neg h0,Rc,xk] at z7
    omega
  omega
 ·exact ih
section
variable (c:Campaign) (fl:List DeviceS) (l:List MarkS)
noncomputable def ux (w:Nat) (t:Int):Bool:=fl.all (fun d=>!(decide (qg c d.Key=w))||zU c (BY c d l t))
def DG (from_ at_:Int):List Int:=from_ :: ((l.filter (fun m=>decide (from_≤m.At)&&decide (m.At≤at_))).map MarkS.At)
def lD (bs:List Int):Int:=bs.getLast?.getD 0
noncomputable def jf (at_:Int) (bs:List Int):Option Int:=
 if bs.length=0 then some c.At else if bs.length < c.aR.length then ((DG l (lD bs) at_).find? (ux c fl l (bs.length - 1))).map (fun t=>t+(vy c bs.length).vg) else none
inductive O6 (at_ S:Int):List Int→Prop
 | nil:O6 at_ S []
 | snoc {bs:List Int} {nx:Int} (h:O6 at_ S bs) (hl:bs.length < c.aR.length) (hn:jf c fl l at_ bs=some nx) (ha:nx≤at_) (hs:¬ (0≤S∧S≤nx)):O6 at_ S (bs++[nx])
def WJ (at_ S:Int) (bs:List Int):Prop:=∀ nx,jf c fl l at_ bs=some nx→at_ < nx∨(0≤S∧S≤nx)
end
theorem x3 (bs:List Int) (x:Int):lD (bs++[x])=x:=by unfold lD;rw [d5];rfl
theorem xw {c:Campaign} {k:Nat} (h:k < c.aR.length):vy c k∈c.aR:=by
 unfold vy
 rw [ci,c8 h]
 exact List.getElem_mem h
theorem Fs {c:Campaign} {k:Nat} (h:k < c.aR.length):idx c.aR (k:Int)=some (vy c k):=by
 refine tN ?_
 unfold vy
 rw [ci,c8 h];rfl
theorem Rj {l:List MarkS} {f a t:Int} (h:t∈DG l f a):f≤t∧(t=f∨t≤a):=by
 unfold DG at h
 rcases ad.1 h with e | h
 ·exact ⟨by omega,.inl e⟩
 ·obtain ⟨m,hm,rfl⟩:=aK.1 h
  have:=(bv.1 hm).2
  simp only [ac,decide_eq_true_eq] at this
  exact ⟨this.1,.inr this.2⟩
theorem G5 {c:Campaign} (hc:lB c):0 < c.aR.length:=by
 have:=hc.sum
 cases hw:c.aR with
 | nil=>rw [hw] at this;simp [xu] at this
 | cons x y=>simp
theorem Ft {c:Campaign} {fl:List DeviceS} {l:List MarkS} (hc:lB c) {a:Int} {bs:List Int} {v:Int} (h:jf c fl l a bs=some v):bs.length < c.aR.length:=by
 have:=G5 hc
 unfold jf at h
 split at h
 ·omega
 ·split at h
  ·assumption
  ·cases h
theorem DW {c:Campaign} {fl:List DeviceS} {l:List MarkS} (hc:lB c) {a:Int} {bs:List Int} {v:Int} (h:jf c fl l a bs=some v) (hb:0≤lD bs):0≤v∧(bs.length=0→v=c.At)∧(bs.length≠0→lD bs≤v):=by
 have hm:=hc.Q5
 have hlen:=Ft hc h
 unfold jf at h
 split at h
 ·rename_i h0
  have:=be h
  exact ⟨by omega,fun _=>by omega,fun h'=>absurd h0 h'⟩
 ·rename_i h0
  obtain ⟨t,ht,e⟩:=d9.1 h
  have hw:=hc.wait _ (xw hlen)
  have:=Rj (eg ht)
  exact ⟨by omega,fun h'=>absurd h' h0,fun _=>by omega⟩
theorem Iv {c:Campaign} {fl:List DeviceS} {l:List MarkS} (hc:lB c) {a S:Int} {bs:List Int} (h:O6 c fl l a S bs):bs.length≤c.aR.length∧0≤lD bs∧(bs.length≠0→lD bs≤a):=by
 induction h with
 | nil=>exact ⟨by simp,by unfold lD;simp,fun h=>absurd rfl h⟩
 | snoc h hl hn ha hs ih=>
   have:=DW hc hn ih.2.1
   refine ⟨by simp;omega,by rw [x3];exact this.1,fun _=>by rw [x3];exact ha⟩
theorem G6 {c:Campaign} {fl:List DeviceS} {l:List MarkS} {t t':Int} (ht:t≤t') (h:∀ x∈l,¬ (t < x.At∧x.At≤t')) (w:Nat):ux c fl l w t=ux c fl l w t':=by
 have e:∀ d,BY c d l t=BY c d l t':=by
  intro d
  unfold BY
  congr 1
  refine cP (fun x hx=>?_)
  have:=h x hx
  unfold yB
  congr 2
  rw [decide_eq_decide];omega
 unfold ux
 simp only [e]
theorem OJ {l:List MarkS} (hs:l.Pairwise (fun a b=>a.At≤b.At)) (q:Int→Bool) (f a a':Int) (ha:a≤a') (t:Int):((l.filter (fun m=>decide (f≤m.At)&&decide (m.At≤a))).map MarkS.At).find? q=some t→((l.filter (fun m=>decide (f≤m.At)&&decide (m.At≤a'))).map MarkS.At).find? q=some t:=by
 induction l with
 | nil=>intro h;exact h
 | cons x r ih=>
   rw [cb] at hs
   have ih:=ih hs.2
   intro h
   rw [aI] at h ⊢
   by_cases h1:f≤x.At
   ·by_cases h2:x.At≤a
    ·rw [if_pos (by simp;omega),bp,el] at h ⊢
     cases hq:q x.At with
     | true=>rw [hq] at h;exact h
     | false=>rw [hq] at h;exact ih h
    ·rw [if_neg (by simp;omega)] at h
     have:r.filter (fun m=>decide (f≤m.At)&&decide (m.At≤a))=[]:=by
      rw [dl]
      intro y hy
      have:=hs.1 y hy
      simp only [ac,decide_eq_true_eq];omega
     rw [this] at h;cases h
   ·rw [if_neg (by simp;omega)] at h ⊢
    exact ih h
theorem G7 {c:Campaign} {fl:List DeviceS} {l:List MarkS} (hs:l.Pairwise (fun a b=>a.At≤b.At)) {a a':Int} (ha:a≤a') {bs:List Int} {v:Int} (h:jf c fl l a bs=some v):jf c fl l a' bs=some v:=by
 unfold jf at h ⊢
 split
 ·rename_i h0;rw [if_pos h0] at h;exact h
 ·rename_i h0
  rw [if_neg h0] at h
  split
  ·rename_i h1
   rw [if_pos h1] at h
   obtain ⟨t,ht,e⟩:=d9.1 h
   rw [d9]
   refine ⟨t,?_,e⟩
   unfold DG at ht ⊢
   rw [el] at ht ⊢
   cases hq:ux c fl l (bs.length - 1) (lD bs) with
   | true=>rw [hq] at ht;exact ht
   | false=>rw [hq] at ht;exact OJ hs _ _ _ _ ha t ht
  ·rename_i h1;rw [if_neg h1] at h;cases h
def Ko (T S0 S1:Int):Prop:=(S0 < 0∧(S1 < 0∨T < S1))∨(0≤S0∧S1=S0)
theorem Rk {c:Campaign} {fl:List DeviceS} {l:List MarkS} (hs:l.Pairwise (fun a b=>a.At≤b.At)) {a a' S0 S1:Int} (ha:a≤a') (hS:Ko a S0 S1) {bs:List Int} (h:O6 c fl l a S0 bs):O6 c fl l a' S1 bs:=by
 induction h with
 | nil=>exact .nil
 | snoc h hl hn hx hb ih=>
   refine .snoc ih hl (G7 hs ha hn) (by omega) ?_
   unfold Ko at hS
   omega
structure U5 (c:Campaign) (fl:List DeviceS) (l:List MarkS) (T S:Int) (bs:List Int) (nx:Int):Prop where
 r:O6 c fl l T S bs
 n:nx=(jf c fl l T bs).getD (-1)
 f:WJ c fl l T S bs
theorem Zd {l:List MarkS} {f a a' t:Int} (h:t∈DG l f a'):t∈DG l f a∨(∃ x∈l,x.At=t∧a < t∧t≤a'):=by
 unfold DG at h ⊢
 rcases ad.1 h with e | h
 ·exact .inl (by rw [e];exact c7)
 ·obtain ⟨m,hm,rfl⟩:=aK.1 h
  have IB:=bv.1 hm
  have:=IB.2
  simp only [ac,decide_eq_true_eq] at this
  by_cases hx:m.At≤a
  ·refine .inl (cn _ (aK.2 ⟨m,bv.2 ⟨IB.1,by simp;omega⟩,rfl⟩))
  ·exact .inr ⟨m,IB.1,rfl,by omega,this.2⟩
theorem T8 {l:List MarkS} (f a:Int) (hf:f≤a):∃ t∈DG l f a,t≤a∧∀ x∈l,¬ (t < x.At∧x.At≤a):=by
 induction l with
 | nil=>exact ⟨f,by unfold DG;simp,hf,by simp⟩
 | cons x r ih=>
   obtain ⟨t,t1,t2,t3⟩:=ih
   have ow:t∈DG (x :: r) f a:=by
    unfold DG at t1 ⊢
    rcases ad.1 t1 with e | h
    ·rw [e];exact c7
    ·refine cn _ ?_
     obtain ⟨m,hm,e⟩:=aK.1 h
     have IB:=bv.1 hm
     exact aK.2 ⟨m,bv.2 ⟨cn _ IB.1,IB.2⟩,e⟩
   by_cases hx:t < x.At∧x.At≤a
   ·have QU:=(Rj t1).1
    refine ⟨x.At,?_,hx.2,fun y hy=>?_⟩
    ·unfold DG
     refine cn _ (aK.2 ⟨x,bv.2 ⟨c7,by simp;omega⟩,rfl⟩)
    ·rcases ad.1 hy with rfl | hy
     ·omega
     ·have:=t3 y hy;omega
   ·refine ⟨t,ow,t2,fun y hy=>?_⟩
    rcases ad.1 hy with rfl | hy
    ·exact hx
    ·exact t3 y hy
theorem Kp {c:Campaign} {fl:List DeviceS} {l:List MarkS} {s:CS} {n:Nat} (h:SX c fl s (l.take n)) {T:Int} (h1:∀ x∈l.take n,x.At≤T) (h2:∀ x∈l.drop n,T < x.At) {w:Nat} (hw:w < c.aR.length):s.open_.getD w 0=0↔ux c fl l w T=true:=by
 rw [h.opn w hw]
 unfold L2 ux
 rw [es]
 constructor
 ·intro e d hd
  have e':(fl.filter (IG c (l.take n) w))=[]:=List.length_eq_zero_iff.1 (by omega)
  rw [dl] at e'
  have:=e' d hd
  unfold IG at this
  rw [B2 c d l n T h1 h2] at this
  cases a:decide (qg c d.Key=w)<;>cases b:zU c (BY c d l T)<;>simp_all
 ·intro e
  have:(fl.filter (IG c (l.take n) w))=[]:=by
   rw [dl]
   intro d hd
   have:=e d hd
   unfold IG
   rw [B2 c d l n T h1 h2]
   cases a:decide (qg c d.Key=w)<;>cases b:zU c (BY c d l T)<;>simp_all
  rw [this];rfl
section
variable {c:Campaign} {fl:List DeviceS} {l:List MarkS} (H:KU c fl l) {s:CS} {n:Nat} (h:SX c fl s (l.take n)) {T T':Int} (hT:T≤T') (hTb:T'≤345686399999) (hTa:-1≤T)
 (h1:∀ x∈l.take n,x.At≤T') (h2:∀ x∈l.drop n,T' < x.At) (OK:(∀ x∈l,¬ (T < x.At∧x.At≤T'))∨T'=T+1) {S0:Int} (hS:Ko T S0 (SA c fl (l.take n)))
include H h hT hTb hTa h1 h2 OK hS
def WK (c:Campaign) (fl:List DeviceS) (l:List MarkS) (T T' S1:Int) (bs:List Int) (nx:Int) (x:List Int×Int):Prop:=
 O6 c fl l T' S1 x.1∧((x.1=bs∧x.2=nx)∨(x.1.length≠0∧T < lD x.1∧x.2=if x.1.length < c.aR.length∧ux c fl l (x.1.length - 1) T'=true then lD x.1+(vy c x.1.length).vg else -1))
theorem L3 (hP:U5 c fl l T S0 s.aV s.cZ) (l5:List Int) (n6:Int) (hI:WK c fl l T T' (SA c fl (l.take n)) s.aV s.cZ (l5,n6)):
 cr s T' l5 n6=cH s T' l5 ((jf c fl l T' l5).getD (-1))∧∀ v,jf c fl l T' l5=some v→T < v∨(0≤SA c fl (l.take n)∧SA c fl (l.take n)≤v):=by
 have hc:=H.c_
 have U6:l.Pairwise (fun a b=>a.At≤b.At):=H.s_.imp Kk
 obtain ⟨hR,hI⟩:=hI
 simp only at hR hI
 obtain ⟨r1,r2,r3⟩:=Iv hc hR
 have U7:=hc.len
 have Ze:∀ m:Int,cI s T' l5 m false=cH s T' l5 m:=fun m=>by unfold cI;rw [if_neg (by simp)]
 have pos:∀ m:Int,0≤m→cr s T' l5 m=cH s T' l5 m:=fun m hm=>by unfold cr;rw [if_neg (by omega),Ze]
 have full:∀ m:Int,¬ l5.length < c.aR.length→cr s T' l5 m=cH s T' l5 m:=by
  intro m hm
  unfold cr
  rw [h.c_]
  split
  ·split
   ·rw [if_neg (by omega),Ze]
   ·exact Ze m
  ·exact Ze m
 have neg:l5.length≠0→l5.length < c.aR.length→cr s T' l5 (-1)=cH s T' l5 (if ux c fl l (l5.length - 1) T'=true then T'+(vy c l5.length).vg else -1):=by
  intro k0 k1
  have w1:bB ((l5.length:Int) - 1)=((l5.length - 1:Nat):Int):=by rw [bl]<;>omega
  unfold cr
  rw [if_pos (by omega),if_pos (by omega),h.c_,if_pos (by omega),w1,pR (l:=s.open_) (by rw [h.open_];omega)]
  simp only [aa]
  have Vw:=Kp h h1 h2 (w:=l5.length - 1) (by omega)
  by_cases ha:ux c fl l (l5.length - 1) T'=true
  ·rw [if_pos (Vw.2 ha),if_pos ha]
   have XT:idx l5 ((l5.length - 1:Nat):Int)=some (lD l5):=by
    refine tN ?_
    unfold lD
    rw [hY]
    cases hx:l5[l5.length - 1]? with
    | none=>rw [hZ] at hx;omega
    | some y=>rfl
   rw [XT]
   simp only [aa]
   have hwm:=hc.wait _ (xw k1)
   unfold cI
   rw [if_pos (by simpa using r3 k0),h.c_,Fs k1]
   simp only [aa]
   rw [bl (by omega) (by omega)]
  ·rw [if_neg (fun e=>ha (Vw.1 e)),if_neg ha,Ze]
 rcases hI with ⟨rfl,rfl⟩ | ⟨k0,k1,k2⟩
 ·
  cases hn:jf c fl l T s.aV with
  | some v=>
    have hv:=DW hc hn r2
    have Je:=G7 U6 hT hn
    rw [Je]
    refine ⟨?_,fun v' e=>?_⟩
    ·rw [hP.n,hn];exact pos v hv.1
    ·obtain rfl:=be e
     rcases hP.f v hn with a | a
     ·exact .inl a
     ·unfold Ko at hS;right;omega
  | none=>
    have O7:s.cZ=-1:=by rw [hP.n,hn];rfl
    have k0:s.aV.length≠0:=by
     intro e;unfold jf at hn;rw [if_pos e] at hn;cases hn
    rw [O7]
    by_cases k1:s.aV.length < c.aR.length
    ·have Nb:=(Iv hc hP.r).2.2 k0
     unfold jf at hn
     rw [if_neg k0,if_pos k1,fu,em] at hn
     have wS:∀ t,t∈DG l (lD s.aV) T'→ux c fl l (s.aV.length - 1) t=true→t=T'∧T < T':=by
      intro t ht hq
      rcases Zd (a:=T) ht with e | ⟨x,hx,e1,e2,e3⟩
      ·exact absurd hq (hn t e)
      ·rcases OK with g | g
       ·exact absurd ⟨by omega,by omega⟩ (g x hx)
       ·exact ⟨by omega,by omega⟩
     have Fu:jf c fl l T' s.aV=if ux c fl l (s.aV.length - 1) T'=true then some (T'+(vy c s.aV.length).vg) else none:=by
      unfold jf
      rw [if_neg k0,if_pos k1]
      by_cases ha:ux c fl l (s.aV.length - 1) T'=true
      ·rw [if_pos ha]
       have hex:∃ x∈l,T < x.At∧x.At≤T':=by
        refine Classical.byContradiction (fun Ea=>?_)
        have ac5:∀ x∈l,¬ (T < x.At∧x.At≤T'):=fun x hx hh=>Ea ⟨x,hx,hh⟩
        obtain ⟨t,t1,t2,t3⟩:=T8 (l:=l) (lD s.aV) T Nb
        have:=G6 (c:=c) (fl:=fl) (l:=l) (t:=t) (t':=T') (by omega) (fun x hx hh=>by
         have a1:=t3 x hx
         have a2:=ac5 x hx
         omega) (s.aV.length - 1)
        exact hn t t1 (by rw [this];exact ha)
       obtain ⟨x,hx,x1,x2⟩:=hex
       have lI:T'∈DG l (lD s.aV) T':=by
        have:x.At=T':=by
         rcases OK with g | g
         ·exact absurd ⟨x1,x2⟩ (g x hx)
         ·omega
        unfold DG
        exact cn _ (aK.2 ⟨x,bv.2 ⟨hx,by simp;omega⟩,this⟩)
       cases hf:(DG l (lD s.aV) T').find? (ux c fl l (s.aV.length - 1)) with
       | none=>rw [em] at hf;exact absurd ha (hf T' lI)
       | some t=>
         have:=wS t (eg hf) (h7 hf)
         rw [this.1];rfl
      ·rw [if_neg ha,fu,em]
       intro t ht hq
       have:=wS t ht hq
       rw [this.1] at hq
       exact ha hq
     rw [Fu,neg k0 k1]
     refine ⟨?_,fun v hv=>?_⟩
     ·split<;>rfl
     ·split at hv
      ·rename_i ha
       left
       have hwm:=hc.wait _ (xw k1)
       have hv:=be hv
       have hf:jf c fl l T' s.aV=some (T'+(vy c s.aV.length).vg):=by rw [Fu,if_pos ha]
       unfold jf at hf
       rw [if_neg k0,if_pos k1] at hf
       obtain ⟨t,ht,_⟩:=d9.1 hf
       have:=wS t (eg ht) (h7 ht)
       omega
      ·cases hv
    ·have Fu:jf c fl l T' s.aV=none:=by unfold jf;rw [if_neg k0,if_neg k1]
     rw [Fu]
     exact ⟨full _ k1,fun v hv=>by cases hv⟩
 ·
  by_cases kw:l5.length < c.aR.length
  ·have hle:=r3 k0
   have hwm:=hc.wait _ (xw kw)
   have hfs:ux c fl l (l5.length - 1) (lD l5)=ux c fl l (l5.length - 1) T':=by
    refine G6 hle (fun x hx hh=>?_) _
    rcases OK with g | g
    ·exact g x hx ⟨by omega,hh.2⟩
    ·omega
   have Fu:jf c fl l T' l5=if ux c fl l (l5.length - 1) T'=true then some (lD l5+(vy c l5.length).vg) else none:=by
    unfold jf
    rw [if_neg k0,if_pos kw]
    by_cases ha:ux c fl l (l5.length - 1) T'=true
    ·rw [if_pos ha]
     unfold DG
     rw [el,hfs,ha];rfl
    ·rw [if_neg ha,fu,em]
     intro t ht hq
     rcases ad.1 (show t∈lD l5 :: _ from ht) with e | hm
     ·rw [e,hfs] at hq;exact ha hq
     ·obtain ⟨m,hm,e⟩:=aK.1 hm
      have IB:=bv.1 hm
      have:=IB.2
      simp only [ac,decide_eq_true_eq] at this
      rcases OK with g | g
      ·exact g m IB.1 ⟨by omega,by omega⟩
      ·have:t=T':=by omega
       rw [this] at hq;exact ha hq
   rw [Fu,k2]
   refine ⟨?_,fun v hv=>?_⟩
   ·by_cases ha:ux c fl l (l5.length - 1) T'=true
    ·rw [if_pos ⟨kw,ha⟩,if_pos ha];exact pos _ (by omega)
    ·rw [if_neg (fun e=>ha e.2),if_neg ha,neg k0 kw,if_neg ha];rfl
   ·split at hv
    ·have:=be hv;left;omega
    ·cases hv
  ·have Fu:jf c fl l T' l5=none:=by unfold jf;rw [if_neg k0,if_neg kw]
   rw [Fu,k2,if_neg (fun e=>kw e.1)]
   exact ⟨full _ kw,fun v hv=>by cases hv⟩
theorem CE (hP:U5 c fl l T S0 s.aV s.cZ):Ok (dz s T') (fun r=>G0 r s∧SX c fl r (l.take n)∧U5 c fl l T' (SA c fl (l.take n)) r.aV r.cZ):=by
 have hc:=H.c_
 have U6:l.Pairwise (fun a b=>a.At≤b.At):=H.s_.imp Kk
 have U7:=hc.len
 have hcm:=hc.Q5
 unfold dz rC
 refine Ok.iter (fun x:List Int×Int=>c.aR.length - x.1.length) (WK c fl l T T' (SA c fl (l.take n)) s.aV s.cZ) ?_ _ ⟨Rk U6 hT hS hP.r,.inl ⟨rfl,rfl⟩⟩
 rintro ⟨l5,n6⟩ hI
 obtain ⟨e1,e2⟩:=L3 H h hT hTb hTa h1 h2 OK hS hP l5 n6 hI
 have hR:=hI.1
 simp only at hR ⊢
 obtain ⟨r1,r2,r3⟩:=Iv hc hR
 rw [e1]
 generalize L4:(jf c fl l T' l5).getD (-1)=n10
 unfold cH jR
 have U8:0≤n10→jf c fl l T' l5=some n10:=by
  intro h0
  cases hx:jf c fl l T' l5 with
  | none=>rw [hx] at L4;simp at L4;omega
  | some v=>rw [hx] at L4;simp at L4;rw [L4]
 by_cases L5:((decide (n10 < (0:Int)))||((decide (T' < n10))||((decide ((0:Int) < (l5.length:Int)))&&((decide ((0:Int)≤s.bh))&&(decide (s.bh≤n10))))))=true
 ·rw [if_pos L5]
  refine Ok.inr (Ok.ret ⟨⟨rfl,rfl,rfl,rfl⟩,⟨⟨h.c_,h.qd,h.dq,h.mf,h.open_,h.bD,h.ba,r1,fun h0=>Ft hc (U8 h0)⟩,h.opn,h.en,h.fa,h.sp⟩,⟨hR,L4.symm,fun v hv=>?_⟩⟩)
  have hvn:n10=v:=by rw [← L4,hv];rfl
  have ZK:=(DW hc hv r2).1
  rw [h.sp] at L5
  simp only [cp,ac,decide_eq_true_eq] at L5
  omega
 ·rw [if_neg L5]
  rw [h.sp] at L5
  simp only [cp,ac,decide_eq_true_eq,not_or] at L5
  have O7:=U8 (by omega)
  have iW:=Ft hc O7
  have K6:=Zb c fl (l.take n) (H.s_.sublist (ft n l))
  have hns:¬ (0≤SA c fl (l.take n)∧SA c fl (l.take n)≤n10):=by
   intro hh
   by_cases h0:l5.length=0
   ·have:=(DW hc O7 r2).2.1 h0
    omega
   ·exact L5.2.2 ⟨by omega,hh⟩
  have hR':O6 c fl l T' (SA c fl (l.take n)) (l5++[n10]):=.snoc hR iW O7 (by omega) hns
  have hTn:T < n10:=by
   rcases e2 n10 O7 with a | a
   ·exact a
   ·exact absurd a hns
  refine Ok.app (by simp;omega) ?_
  have w1:bB ((l5.length:Int)+1)=((l5.length+1:Nat):Int):=by rw [bl]<;>omega
  rw [w1]
  have j5:∀ n17:Int,n17=(if l5.length+1 < c.aR.length∧ux c fl l l5.length T'=true then n10+(vy c (l5.length+1)).vg else -1)→Ok (fH (l5++[n10]) n17) (O4 (fun x:List Int×Int=>c.aR.length - x.1.length) (WK c fl l T T' (SA c fl (l.take n)) s.aV s.cZ) (fun r=>G0 r s∧SX c fl r (l.take n)∧U5 c fl l T' (SA c fl (l.take n)) r.aV r.cZ) (l5,n6)):=by
   intro n17 ac6
   unfold fH
   refine Ok.ret ⟨⟨hR',.inr ⟨by simp,by simp only;rw [x3];exact hTn,?_⟩⟩,by simp;omega⟩
   simp only
   rw [x3,cy,d6,ac6]
   rfl
  rw [h.c_]
  by_cases hk:l5.length+1 < c.aR.length
  ·rw [if_pos (by omega),pR (l:=s.open_) (by rw [h.open_];omega)]
   simp only [aa]
   have Vw:=Kp h h1 h2 (w:=l5.length) iW
   unfold fI
   by_cases ha:ux c fl l l5.length T'=true
   ·rw [if_pos (decide_eq_true (Vw.2 ha)),w1,h.c_,Fs hk]
    simp only [aa]
    have hwm:=hc.wait _ (xw hk)
    refine j5 _ ?_
    rw [if_pos ⟨hk,ha⟩,bl (by omega) (by omega)]
   ·rw [if_neg (by rw [decide_eq_false (fun e=>ha (Vw.1 e))];exact ce)]
    refine j5 _ ?_
    rw [if_neg (fun e=>ha e.2)]
  ·rw [if_neg (by omega)]
   unfold fI
   rw [if_neg (by simp)]
   refine j5 _ ?_
   rw [if_neg (fun e=>hk e.1)]
end
theorem Fv (p:Int→Bool):∀ (xs:List Int) (i:Int),0≤i→(lM p xs i=-1∧xs.find? p=none)∨∃ (j:Nat) (x:Int),lM p xs i=i+j∧xs[j]? =some x∧xs.find? p=some x
 | [],i,_=>.inl ⟨rfl,rfl⟩
 | y :: r,i,h=>by
   rw [el]
   unfold lM
   cases hy:p y with
   | true=>rw [if_pos rfl];exact .inr ⟨0,y,by simp,rfl,rfl⟩
   | false=>
     rw [if_neg (by simp)]
     rcases Fv p r (i+1) (by omega) with ⟨h1,h2⟩ | ⟨j,x,h1,h2,h3⟩
     ·exact .inl ⟨h1,h2⟩
     ·exact .inr ⟨j+1,x,by rw [h1];omega,by simpa using h2,h3⟩
theorem Zf (X:List Int) (h:X.length≤5000) (hs:X.Pairwise (fun a b=>a≤b)):pb X.length (fun r:List Int=>r.length) (ng X)=some X:=by
 have e:NT X=X:=by
  unfold NT
  exact List.mergeSort_of_pairwise (hs.imp (fun {a b} DL=>by simpa using DL))
 unfold ng Jj
 rw [if_pos (by omega),e]
 unfold pb
 simp
theorem Kq {c:Campaign} {fl:List DeviceS} {l:List MarkS} (H:KU c fl l) (d:DeviceS) (t:Int):Cp c d l t=some (zU c (BY c d l t)):=by
 have hl:=H.l_
 unfold Cp zL
 rw [zt c d l t (by omega) (fun q hq=>(H.m_ q hq).kind)]
 simp only [aa]
 unfold zU
 cases decide ((BY c d l t).ak.Version=c.Target)<;>simp
theorem WL {c:Campaign} {fl:List DeviceS} {l:List MarkS} (H:KU c fl l) (k:Nat) (hk:0 < k∧k≤20) (t:Int):oS t fl c (k:Int) l=some (ux c fl l (k - 1) t):=by
 have Hl:=H.Y8
 have w1:bB ((k:Int) - 1)=((k - 1:Nat):Int):=by rw [bl]<;>omega
 have hf:∀ d∈fl,kQ d c (k:Int) l t=some (decide (qg c d.Key=k - 1)&&!zU c (BY c d l t)):=by
  intro d hd
  unfold kQ kj
  rw [zy c H.c_ d.Key (H.f_.key d hd),w1]
  simp only [aa]
  by_cases e:qg c d.Key=k - 1
  ·rw [if_pos (by omega),Kq H]
   simp [e]
  ·rw [if_neg (by omega)]
   simp [e]
 unfold oS
 rw [show eR fl (fun y0=>kQ y0 c (k:Int) l t)=some (fl.any (fun d=>decide (qg c d.Key=k - 1)&&!zU c (BY c d l t))) from xj fl _ _ hf (by omega)]
 simp only [aa]
 unfold ux
 rw [List.not_any_eq_all_not]
 simp only [Bool.not_and,Bool.not_not]
theorem Fw (c:Campaign) (fl:List DeviceS) (l:List MarkS) (at_ S:Int) (bs:List Int) (k from_:Int) (hl:(l.length:Int)≤3000):∀ (m n:Nat) (X:List Int),n+m=l.length→X.length≤n+1→
 tI c fl l at_ S bs k from_ X (n:Int)=tH c fl l at_ S bs k (X++((l.drop n).filter (fun m=>decide (from_≤m.At)&&decide (m.At≤at_))).map MarkS.At)
 | 0,n,X,h,hX=>by
   unfold tI
   rw [iter_eq,oU,if_neg (by simp only;omega),aY,bk (by omega)]
   simp
 | m+1,n,X,h,hX=>by
   obtain ⟨q,hq,TU,hd⟩:=ff l (i:=(n:Int)) (by omega) (by omega)
   rw [show ((n:Int)).toNat=n by omega,show ((n:Int)+1).toNat=n+1 by omega] at hd
   have w1:bB ((n:Int)+1)=((n+1:Nat):Int):=by rw [bl]<;>omega
   have ih:=fun X hX=>Fw c fl l at_ S bs k from_ hl m (n+1) X (by omega) hX
   unfold tI at ih ⊢
   rw [iter_eq,oU,if_pos (by simp only;omega),hd,aI]
   simp only
   rw [hq]
   simp only [aa]
   rw [zq]
   unfold qB
   rw [w1]
   by_cases hr:(decide (from_≤q.At)&&decide (q.At≤at_))=true
   ·rw [if_pos hr,if_pos hr,pJ (by simp;omega)]
    simp only [aa,bC]
    rw [ih _ (by simp;omega),bp,du];rfl
   ·rw [if_neg hr,if_neg hr]
    simp only [aa,bC]
    exact ih X (by omega)
theorem OL {l:List MarkS} (hs:l.Pairwise (fun a b=>a.At≤b.At)) (f a:Int):(DG l f a).Pairwise (fun x y=>x≤y):=by
 unfold DG
 rw [cb]
 refine ⟨fun y hy=>?_,?_⟩
 ·obtain ⟨m,hm,rfl⟩:=aK.1 hy
  have:=(bv.1 hm).2
  simp only [ac,decide_eq_true_eq] at this
  exact this.1
 ·rw [fi]
  exact hL _ hs
theorem WN (l:List MarkS) (f a:Int):(DG l f a).length≤l.length+1:=by
 unfold DG
 rw [cv,e9]
 have:=cf (fun m:MarkS=>decide (f≤m.At)&&decide (m.At≤a)) l
 omega
theorem Rl (c:Campaign) (at_ S:Int) (bs:List Int) (n15 n18:Int) (hb:bs.length≤1000):oT at_ S bs n15 n18=if at_ < n18∨(0≤S∧S≤n18) then some (.inr bs) else some (.inl (bs++[n18],n18,bB (n15+1))):=by
 unfold oT tG
 by_cases h:at_ < n18∨(0≤S∧S≤n18)
 ·rw [if_pos h,if_pos (by simpa using h)];rfl
 ·rw [if_neg h,if_neg (by simpa using h),pJ (by simp;omega)];rfl
theorem Kr {c:Campaign} {fl:List DeviceS} {l:List MarkS} (H:KU c fl l) {at_ S:Int} (sB:at_≤345686399999) {bs:List Int} (hR:O6 c fl l at_ S bs) (n14:Int) (h14:bs.length=0→n14=c.At):
 (∀ nx,jf c fl l at_ bs=some nx→¬ (at_ < nx∨(0≤S∧S≤nx))→kI c fl l at_ S bs n14 (bs.length:Int)=kI c fl l at_ S (bs++[nx]) nx ((bs++[nx]).length:Int))∧
 (WJ c fl l at_ S bs→kI c fl l at_ S bs n14 (bs.length:Int)=some bs):=by
 have hc:=H.c_
 have U7:=hc.len
 have Za:=H.l_
 have U6:l.Pairwise (fun a b=>a.At≤b.At):=H.s_.imp Kk
 obtain ⟨r1,r2,r3⟩:=Iv hc hR
 have w1:∀ nx:Int,bB ((bs.length:Int)+1)=((bs++[nx]).length:Int):=fun nx=>by rw [cy,d6,bl]<;>omega
 have key:oV c fl l at_ S bs n14 (bs.length:Int)=match jf c fl l at_ bs with
  | none=>some (.inr bs)
  | some nx=>if at_ < nx∨(0≤S∧S≤nx) then some (.inr bs) else some (.inl (bs++[nx],nx,bB ((bs.length:Int)+1))):=by
  unfold oV
  by_cases k1:bs.length < c.aR.length
  ·rw [if_pos (by omega)]
   by_cases k0:bs.length=0
   ·rw [if_neg (by omega),Rl c at_ S bs _ _ (by omega),h14 k0]
    unfold jf
    rw [if_pos k0]
   ·have hle:=r3 k0
    have wm:bB ((bs.length:Int) - 1)=((bs.length - 1:Nat):Int):=by rw [bl]<;>omega
    have XT:idx bs ((bs.length - 1:Nat):Int)=some (lD bs):=by
     refine tN ?_
     unfold lD
     rw [hY]
     cases hx:bs[bs.length - 1]? with
     | none=>rw [hZ] at hx;omega
     | some y=>rfl
    rw [if_pos (by omega),wm,XT]
    simp only [aa]
    have ht:=Fw c fl l at_ S bs (bs.length:Int) (lD bs) Za l.length 0 [lD bs] (by omega) (by simp)
    rw [bo] at ht
    rw [show (([lD bs]:List Int)++(l.filter (fun m=>decide (lD bs≤m.At)&&decide (m.At≤at_))).map MarkS.At)=DG l (lD bs) at_ from rfl] at ht
    refine Eq.trans ht ?_
    have XV:=WN l (lD bs) at_
    unfold tH
    rw [Zf _ (by omega) (OL U6 _ _)]
    simp only [aa]
    rw [show jw (DG l (lD bs) at_) (fun y0=>oS y0 fl c (bs.length:Int) l)=some (lM (ux c fl l (bs.length - 1)) (DG l (lD bs) at_) 0) from qM _ _ _ (fun t _=>WL H bs.length ⟨by omega,by omega⟩ t) (by omega)]
    simp only [aa]
    unfold jf
    rw [if_neg k0,if_pos k1]
    rcases Fv (ux c fl l (bs.length - 1)) (DG l (lD bs) at_) 0 (by omega) with ⟨f1,f2⟩ | ⟨j,t,f1,f2,f3⟩
    ·rw [f1,f2,if_pos (by omega)];rfl
    ·rw [f1,f3,if_neg (by omega),Int.zero_add,tN f2,Fs k1]
     simp only [aa,Option.map_some]
     have hwm:=hc.wait _ (xw k1)
     have htg:=Rj (eg f3)
     rw [bl (by omega) (by omega),Rl c at_ S bs _ _ (by omega)]
  ·rw [if_neg (by omega)]
   have:jf c fl l at_ bs=none:=by
    unfold jf
    have:=G5 hc
    rw [if_neg (by omega),if_neg k1]
   rw [this];rfl
 refine ⟨fun nx hn hb=>?_,fun hF=>?_⟩
 ·rw [hn] at key
  simp only at key
  rw [if_neg hb] at key
  unfold kI
  conv=>lhs;rw [iter_eq]
  simp only
  rw [key]
  simp only [aa,bC]
  rw [w1 nx]
 ·unfold kI
  rw [iter_eq]
  simp only
  rw [key]
  cases hn:jf c fl l at_ bs with
  | none=>rfl
  | some nx=>simp only;rw [if_pos (hF nx hn)];rfl
theorem OM {c:Campaign} {fl:List DeviceS} {l:List MarkS} (H:KU c fl l) {at_ S:Int} (sB:at_≤345686399999) {bs:List Int} (hR:O6 c fl l at_ S bs):∃ n14,(bs.length=0→n14=c.At)∧kI c fl l at_ S [] c.At 0=kI c fl l at_ S bs n14 (bs.length:Int):=by
 induction hR with
 | nil=>exact ⟨c.At,fun _=>rfl,rfl⟩
 | snoc h hl hn ha hs ih=>
   obtain ⟨n14,i1,i2⟩:=ih
   rename_i bs nx
   refine ⟨nx,fun h=>by simp at h,?_⟩
   rw [i2]
   exact (Kr H sB h n14 i1).1 nx hn (by omega)
theorem Ks {c:Campaign} {fl:List DeviceS} {l:List MarkS} (H:KU c fl l) {at_ S:Int} (sB:at_≤345686399999) (hS:nW c fl l at_=some S) {bs:List Int} (hR:O6 c fl l at_ S bs) (hF:WJ c fl l at_ S bs):tc c fl l at_=some bs:=by
 unfold tc
 rw [hS]
 simp only [aa]
 obtain ⟨n14,i1,i2⟩:=OM H sB hR
 rw [i2]
 exact (Kr H sB hR n14 i1).2 hF
theorem T9 {c:Campaign} {fl:List DeviceS} {l:List MarkS} (H:KU c fl l) (at_:Int) (ha:0≤at_∧at_≤345686399999):∃ v r n,gB c fl=some v∧il ⟨c,v.qd,v.dq,v.open_,v.bD,v.ba,v.aV,v.bh,v.cZ,v.mf⟩ l at_=some r∧
 SX c fl r (l.take n)∧(∀ x∈l.take n,x.At≤at_)∧(∀ x∈l.drop n,at_ < x.At)∧U5 c fl l at_ (SA c fl (l.take n)) r.aV r.cZ:=by
 have hc:=H.c_
 have hf:=H.f_
 have Hl:=H.Y8
 have Za:=H.l_
 have U6:l.Pairwise (fun a b=>a.At≤b.At):=H.s_.imp Kk
 have hcm:=hc.Q5
 obtain ⟨v,v1,v2,v3,v4⟩:=Kn c fl hc hf (by omega)
 have Pr:∀ (n:Nat) (x:MarkS),l[n]? =some x→∀ y∈l.drop n,x.At≤y.At:=by
  intro n x hx y hy
  have hd:l.drop n=x :: l.drop (n+1):=by
   have hn:=(cs.1 hx)
   rw [List.drop_eq_getElem_cons hn.1,hn.2]
  have hp:=fg (i:=n) U6
  rw [hd,cb] at hp
  rw [hd] at hy
  rcases ad.1 hy with rfl | hy
  ·exact d8 _
  ·exact hp.1 y hy
 have U9:∀ (n:Nat) (T T':Int),(∀ x∈l.take n,x.At≤T)→(∀ x∈l.drop n,T' < x.At)→∀ x∈l,¬ (T < x.At∧x.At≤T'):=by
  intro n T T' g1 g2 x hx hh
  rw [← d7 n l] at hx
  rcases d3.1 hx with hx | hx
  ·have:=g1 x hx;omega
  ·have:=g2 x hx;omega
 have Rm:∀ (T S:Int),Ko T S S:=fun T S=>by unfold Ko;omega
 have key:=OG c v l at_ (by omega) (fun x hx=>(H.m_ x hx).Q5) U6
  (fun s n T=>SX c fl s (l.take n)∧(∀ x∈l.take n,x.At≤T)∧(∀ x∈l.drop n,T < x.At)∧U5 c fl l T (SA c fl (l.take n)) s.aV s.cZ∧-1≤T)
  (fun s n now=>SX c fl s (l.take n)∧(∀ x∈l.take n,x.At≤now)∧(∃ S0,Ko (now - 1) S0 (SA c fl (l.take n))∧U5 c fl l (now - 1) S0 s.aV s.cZ)∧0≤now)
  (fun r n=>SX c fl r (l.take n)∧(∀ x∈l.take n,x.At≤at_)∧(∀ x∈l.drop n,at_ < x.At)∧U5 c fl l at_ (SA c fl (l.take n)) r.aV r.cZ)
  v2.c_ ?_ ?_ ?_ ?_ (-1) ⟨by rw [h8];exact v2,by simp,fun x hx=>by have:=(H.m_ x (List.mem_of_mem_drop hx)).Q5;omega,?_,by omega⟩ ⟨by omega,fun x hx=>by have:=(H.m_ x hx).Q5;omega⟩
 ·obtain ⟨r,r1,n,_,r2⟩:=key
  refine ⟨v,r,n,v1,?_,r2⟩
  rw [← v2.c_]
  exact r1
 ·
  rintro s n T x _ ⟨p1,p2,p3,p4,p5⟩ hx hT hxa
  have hx0:=(H.m_ x (bw hx)).Q5
  have K6:∀ y∈l.drop n,x.At - 1 < y.At:=fun y hy=>by have:=Pr n x hx y hy;omega
  refine (CE H p1 (T:=T) (T':=x.At - 1) (by omega) (by omega) p5 (fun y hy=>by have:=p2 y hy;omega) K6 (.inl (U9 n T (x.At - 1) p2 K6)) (Rm _ _) p4).mono (fun r hr=>⟨hr.1,hr.2.1,fun y hy=>by have:=p2 y hy;omega,⟨_,Rm _ _,hr.2.2⟩,hx0.1⟩)
 ·
  rintro s n x now _ ⟨p1,p2,⟨S0,p3,p4⟩,p5⟩ hx he hna
  have ht:l.take (n+1)=l.take n++[x]:=by rw [cW,hx];rfl
  have IU:(l.take n).length≤l.length:=by rw [dg];omega
  refine (TZ hc hf (by omega) (by omega) p1 x).mono (fun r hr=>?_)
  refine ⟨hr.1.c_,by rw [ht];exact hr.1,fun y hy=>?_,⟨S0,?_,by rw [hr.2.1,hr.2.2];exact p4⟩,p5⟩
  ·rw [ht] at hy
   rcases d3.1 hy with hy | hy
   ·exact p2 y hy
   ·rw [e5] at hy;subst hy;omega
  ·rw [ht,xZ]
   unfold Ko at p3 ⊢
   split<;>omega
 ·
  rintro s n now _ ⟨p1,p2,⟨S0,p3,p4⟩,p5⟩ hd hna
  exact (CE H p1 (T:=now - 1) (T':=now) (by omega) (by omega) (by omega) p2 hd (.inr (by omega)) p3 p4).mono (fun r hr=>⟨hr.1,hr.2.1,p2,hd,hr.2.2,by omega⟩)
 ·
  rintro s n T _ ⟨p1,p2,p3,p4,p5⟩ hd hTa
  exact (CE H p1 (T:=T) (T':=at_) hTa ha.2 p5 (fun y hy=>by have:=p2 y hy;omega) hd (.inl (U9 n T at_ p2 hd)) (Rm _ _) p4).mono (fun r hr=>⟨hr.1,hr.2.1,fun y hy=>by have:=p2 y hy;omega,hd,hr.2.2⟩)
 ·
  rw [h8,v3,v4]
  refine ⟨.nil,?_,fun nx hn=>?_⟩
  ·unfold jf;rw [if_pos h9];rfl
  ·unfold jf at hn
   rw [if_pos h9] at hn
   have:=be hn
   left;omega
end Go.Beacon
