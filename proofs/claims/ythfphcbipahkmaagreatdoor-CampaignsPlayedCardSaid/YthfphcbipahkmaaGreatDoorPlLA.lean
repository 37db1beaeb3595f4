/- Plain facts on what the functions compute. No program in sight. -/
import Derived.Test.YthfphcbipahkmaaGreatDoorCpyP
import Derived.Test.YthfphcbipahkmaaGreatDoorPlBA
import Derived.Lib.AtoiTie
import Derived.Lib.AtoiBound
import Derived.Lib.ItoaLen
import Derived.Laws.Bits64
open BitVec renaming ofInt→ek
open Bool renaming and_eq_true→ac,eq_iff_iff→aw,false_eq_true→a6,not_true→bm,or_eq_true→b8,false_ne_true→ce,and_true→c6,true_and→c7,not_eq_true→fd,false_or→fs,true_eq_false→ft,not_eq_true'→f0,not_eq_false→f9,and_eq_false_iff→gk,false_and→gq
open Classical renaming not_not→fr
open Int renaming toNat_natCast→bc,tmod_eq_emod_of_nonneg→d3,tmod_lt_of_pos→d4,le_refl→eY,lt_tmod_of_pos→e8
open List renaming mem_cons→ad,foldl_cons→af,replicate→ag,foldl_append→ai,filter_cons→al,mem_map→ap,foldl_nil→aJ,map_cons→a7,pairwise_cons→be,range→bi,mem_filter→bk,drop_of_length_le→bo,drop_zero→bp,filter_append→bv,mem_cons_of_mem→bO,length_append→bW,length_filter_le→bX,getD_eq_getElem?_getD→b4,append_nil→b5,all_cons→b7,length_cons→b9,getElem?_eq_getElem→cb,mem_of_getElem?→cc,filter_congr→ci,isPrefixOf→ck,take_add_one→cm,take_of_length_le→cn,getElem?_eq_some_iff→cp,length_singleton→cs,getElem?_of_mem→cy,Perm.refl→cz,filter_eq_nil_iff→cA,any_eq_true→cJ,append_assoc→cK,sum_cons→dd,getElem?_map→dg,getLast?_concat→dk,mem_cons_self→ds,length_take→dy,mem_of_find?_eq_some→d0,find?_cons→d1,find?_eq_none→d2,length_pos_iff→d5,all_eq_true→d6,cons_append→d9,map_append→eg,length_map→el,take_append_drop→em,pairwise_map→eq,any_eq_false→es,mem_range→eH,mem_append_left→eL,take_sublist→eX,pairwise_append→e5,not_mem_nil→e9,all_append→fn,take_succ_eq_append_getElem→fv,map_nil→fz,mem_singleton→gc,eq_nil_or_concat→ge,getElem?_set→gf,flatMap_cons→gs,Perm.append_left→gt,Perm.append_right→gv,Pairwise.filter→gI,filter_nil→g5,Sublist.refl→g6,range_succ→g7,getLast?_eq_getElem?→g8,getElem?_eq_none_iff→g9,find?_some→hC,eq_nil_of_length_eq_zero→hG,perm_middle→hM,getElem_of_mem→hU
open Nat renaming zero_add→cl,lt_or_ge→dV,le_refl→d7,strongRecOn→d8,add_comm→fi
open Option renaming bind_some→aa,some.inj→aH,map→c8,some.injEq→db,getD_some→dl,map_eq_some_iff→dY,map_eq_none_iff→e6
open Prod renaming fst→cv
open UInt8 renaming ofNat→b6,toNat_ofNat'→da,toNat_inj→fj
set_option linter.unusedVariables false
set_option linter.unusedSimpArgs false
namespace Go.Beacon
open Go Go.Eng
abbrev zr:=ah
def vS (s:zr) (k:Int):Prop:=0≤s.at_∧s.at_+k≤4611686018427387904
theorem vS.less {s:zr} {k k':Int} (h:vS s k) (hk:k'≤k):vS s k':=⟨h.1,by have:=h.2;omega⟩
def sq {α:Type} (m:Option (α×zr)) (k:Int) (P:α→Prop):Prop:=∃ v s',m=some (v,s')∧P v∧vS s' k
theorem sq.bind {α β:Type} {m:Option (α×zr)} {k k':Int} {P:α→Prop} {Q:β→Prop} {f:α×zr→Option (β×zr)} (h:sq m k P) (hf:∀ v s',P v→vS s' k→sq (f (v,s')) k' Q):sq (m.bind f) k' Q:=by
 obtain ⟨v,s',rfl,h1,h2⟩:=h
 exact hf v s' h1 h2
theorem sq.ret {α:Type} {v:α} {s:zr} {k:Int} {P:α→Prop} (h1:P v) (h2:vS s k):sq (some (v,s)) k P:=⟨v,s,rfl,h1,h2⟩
theorem EC (x:Int) {n:Int} (h1:1≤n) (h2:n≤4611686018427387904):∃ v,Below x n=some v∧0≤v∧v < n:=by
 unfold Below yn
 rw [if_neg (by omega),V2 (by omega)]
 have a1:=e8 x (show 0 < n by omega)
 have a2:=d4 x (show 0 < n by omega)
 simp only [aa]
 split
 ·exact ⟨_,rfl,by rw [bn]<;>omega,by rw [bn]<;>omega⟩
 ·exact ⟨_,rfl,by omega,by omega⟩
theorem Bf {s:zr} {n k:Int} (hs:vS s (k+1)) (h1:1≤n) (h2:n≤4611686018427387904) (hk:0≤k):sq (eN s n) k (fun v=>0≤v∧v < n):=by
 obtain ⟨a1,a2⟩:=hs
 have e1:bE (s.at_+1)=s.at_+1:=by rw [bn]<;>omega
 have e2:bE (s.at_+1 - 1)=s.at_:=by rw [bn]<;>omega
 unfold eN
 split
 ·obtain ⟨v,hv,h3,h4⟩:=EC (bE (bE (s.at_+1) * 7919)) h1 h2
  rw [hv]
  exact sq.ret ⟨h3,h4⟩ ⟨by show 0≤bE (s.at_+1);omega,by show bE (s.at_+1)+k≤_;omega⟩
 ·rename_i hl
  have FC:(0:Int) < s.L.length:=by omega
  rw [e1,e2,Tc FC a1,P3 (by omega)]
  simp only [aa]
  obtain ⟨x,hx,_,_⟩:=gj s.L (i:=s.at_ % s.L.length) (Int.emod_nonneg _ (by omega)) (Int.emod_lt_of_pos _ FC)
  rw [hx]
  simp only [aa]
  obtain ⟨u,hu,_,_⟩:=EC x (n:=1073741824) (by omega) (by omega)
  rw [hu]
  simp only [aa]
  obtain ⟨v,hv,h3,h4⟩:=EC (bE (u+bE (bE (s.at_.tdiv s.L.length) * bE (7919+s.at_ % s.L.length)))) h1 h2
  rw [hv]
  exact sq.ret ⟨h3,h4⟩ ⟨by simp only;omega,by simp only;omega⟩
theorem Mf {s:zr} {l:List Int} {k:Int} (hs:vS s (k+1)) (h1:l≠[]) (h2:l.length≤1000) (hk:0≤k):sq (cU s l) k (fun v=>v∈l):=by
 unfold cU
 have hl:0 < l.length:=d5.2 h1
 refine sq.bind (Bf hs (by omega) (by omega) hk) (fun v s' hv Jn=>?_)
 obtain ⟨x,hx,hm,_⟩:=gj l hv.1 hv.2
 simp only [hx,aa]
 exact sq.ret hm Jn
theorem Jo {s:zr} {a b k:Int} (hs:vS s (k+1)) (C9:a≤b) (ha:-1152921504606846976≤a) (hb:b≤1152921504606846976) (hk:0≤k):sq (lS s a b) k (fun v=>a≤v∧v≤b):=by
 unfold lS
 have e1:bE (b - a)=b - a:=by rw [bn]<;>omega
 have e2:bE (b - a+1)=b - a+1:=by rw [bn]<;>omega
 rw [if_neg (by omega),e1,e2]
 refine sq.bind (Bf hs (by omega) (by omega) hk) (fun v s' hv Jn=>?_)
 refine sq.ret ?_ Jn
 simp only
 rw [bn]<;>omega
theorem Mg {s:zr} {n k:Int} (hs:vS s (k+1)) (h1:1≤n) (h2:n≤4611686018427387904) (hk:0≤k):sq (eO s n) k (fun _=>True):=by
 unfold eO
 exact sq.bind (Bf hs h1 h2 hk) (fun v s' hv Jn=>sq.ret trivial Jn)
theorem Mh {l:List Int} {v lo hi:Int} (h:v∈l) (hl:l.all (fun x=>decide (lo≤x∧x≤hi))=true):lo≤v∧v≤hi:=by
 rw [d6] at hl
 simpa using hl v h
theorem Tf {s:zr} {l:List bj} {k:Int} (hs:vS s (k+1)) (h1:l≠[]) (h2:l.length≤1000) (hk:0≤k):sq (kD s l) k (fun v=>v∈l):=by
 unfold kD
 have hl:0 < l.length:=d5.2 h1
 refine sq.bind (Bf hs (by omega) (by omega) hk) (fun v s' hv Jn=>?_)
 obtain ⟨x,hx,hm,_⟩:=gj l hv.1 hv.2
 simp only [hx,aa]
 exact sq.ret hm Jn
theorem V7 {s:zr} {a b k:Int} (hs:vS s (k+2)) (C9:a≤b) (ha:-1099511627776≤a) (hb:b≤1099511627776) (hk:0≤k):sq (eS s a b) k (fun v=>-1099511627777≤v∧v≤1099511627777):=by
 unfold eS
 refine sq.bind (Mg (k:=k+1) (hs.less (by omega)) (by omega) (by omega) (by omega)) (fun v s' hv Jn=>?_)
 simp only
 split
 ·refine sq.bind (Mf Jn (by simp) (by simp) hk) (fun v s' hv Jn=>sq.ret ?_ Jn)
  have e1:bE (a - 1)=a - 1:=by rw [bn]<;>omega
  have e2:bE (b+1)=b+1:=by rw [bn]<;>omega
  rw [e1,e2] at hv
  simp only [ad,e9,or_false] at hv
  simp only;omega
 ·refine sq.bind (Jo Jn C9 (by omega) (by omega) hk) (fun v s' hv Jn=>sq.ret ?_ Jn)
  simp only;omega
theorem Ak {s:zr} {n K:Int} (hs:vS s K) (hK:1≤K) (h1:1≤n) (h2:n≤4611686018427387904):sq (eN s n) (K - 1) (fun v=>0≤v∧v < n):=
 Bf (hs.less (by omega)) h1 h2 (by omega)
theorem uT {s:zr} {n K:Int} (hs:vS s K) (hK:1≤K) (h1:1≤n) (h2:n≤4611686018427387904):sq (eO s n) (K - 1) (fun _=>True):=
 Mg (hs.less (by omega)) h1 h2 (by omega)
theorem nt {s:zr} {l:List Int} {K:Int} (hs:vS s K) (hK:1≤K) (h1:l≠[]) (h2:l.length≤1000):sq (cU s l) (K - 1) (fun v=>v∈l):=
 Mf (hs.less (by omega)) h1 h2 (by omega)
theorem Hq {s:zr} {a b K:Int} (hs:vS s K) (hK:1≤K) (C9:a≤b) (ha:-1152921504606846976≤a) (hb:b≤1152921504606846976):sq (lS s a b) (K - 1) (fun v=>a≤v∧v≤b):=
 Jo (hs.less (by omega)) C9 ha hb (by omega)
theorem ED {s:zr} {l:List bj} {K:Int} (hs:vS s K) (hK:1≤K) (h1:l≠[]) (h2:l.length≤1000):sq (kD s l) (K - 1) (fun v=>v∈l):=
 Tf (hs.less (by omega)) h1 h2 (by omega)
theorem uU {s:zr} {a b K:Int} (hs:vS s K) (hK:2≤K) (C9:a≤b) (ha:-1099511627776≤a) (hb:b≤1099511627776):sq (eS s a b) (K - 2) (fun v=>-1099511627777≤v∧v≤1099511627777):=
 V7 (hs.less (by omega)) C9 ha hb (by omega)
theorem uV (n lo hi:Int):fV n lo hi=(decide (n < lo)||decide (hi < n)):=rfl
theorem yA (n lo hi:Int):vd n lo hi=(decide (lo≤n)&&decide (n≤hi)):=rfl
def Tg (n:Nat):Bool:=(decide (97≤n)&&decide (n≤122))||(decide (48≤n)&&decide (n≤57))||decide (n=45)||decide (n=95)
def rj:bj→Bool
 | []=>false
 | c :: r=>decide ((c :: r).length≤40)&&(decide (97≤c.toNat)&&decide (c.toNat≤122))&&(c :: r).all (fun c=>Tg c.toNat)
theorem wL (c:UInt8) (r:bj):rj (c :: r)=(decide ((c :: r).length≤40)&&(decide (97≤c.toNat)&&decide (c.toNat≤122))&&(c :: r).all (fun c=>Tg c.toNat)):=rfl
theorem P8 (s:bj) (hl:s.length≤40):yo s 0=some (s.all (fun c=>Tg c.toNat)):=by
 unfold yo
 rw [BQ s (fun x:Int=>oU s x) (fun c=>if Tg c.toNat=true then none else some false) true (by omega),Ah]
 ·intro i c h0 h1 hc
  have hB:(if (97:Int)≤(c.toNat:Int) then if (c.toNat:Int)≤(122:Int) then !true else if (48:Int)≤(c.toNat:Int) then if (c.toNat:Int)≤(57:Int) then !true else if (c.toNat:Int)=(45:Int) then !true else decide (¬ ((c.toNat:Int)=(95:Int))) else if (c.toNat:Int)=(45:Int) then !true else decide (¬ ((c.toNat:Int)=(95:Int))) else if (48:Int)≤(c.toNat:Int) then if (c.toNat:Int)≤(57:Int) then !true else if (c.toNat:Int)=(45:Int) then !true else decide (¬ ((c.toNat:Int)=(95:Int))) else if (c.toNat:Int)=(45:Int) then !true else decide (¬ ((c.toNat:Int)=(95:Int))))=!Tg c.toNat:=by
   unfold Tg
   rw [aw]
   repeat' split
   all_goals simp
   all_goals omega
  rw [oU,if_pos h1,hc]
  simp only [aa]
  rw [hB]
  unfold vm
  rw [bn (by omega) (by omega)]
  cases Tg c.toNat<;>rfl
 ·rw [oU,if_neg (by omega)];rfl
theorem EE (s:bj):pS s=some (rj s):=by
 unfold pS oV
 cases s with
 | nil=>simp [rj]
 | cons c r=>
   rw [if_neg (by simp)]
   have hc:idx (c :: r) 0=some c:=rfl
   rw [hc]
   simp only [aa]
   by_cases hl:(c :: r).length≤40
   ·rw [if_neg (by omega),P8 _ hl,wL]
    by_cases h1:(c.toNat:Int) < 97
    ·rw [if_pos h1]
     have:decide (97≤c.toNat)=false:=by simp;omega
     rw [this];simp
    ·rw [if_neg h1]
     have e1:decide (97≤c.toNat)=true:=by simp;omega
     by_cases h2:(122:Int) < c.toNat
     ·rw [if_pos (by simpa using h2)]
      have:decide (c.toNat≤122)=false:=by simp;omega
      rw [this];simp
     ·rw [if_neg (by simpa using h2)]
      have:decide (c.toNat≤122)=true:=by simp;omega
      rw [e1,this,decide_eq_true hl];simp
   ·rw [if_pos (by omega),wL,decide_eq_false hl];simp
theorem NG:∀ n:Fin 256,decide (b6 n.val∈([97,98,99,100,101,102,103,104,105,106,107,108,109,110,111,112,113,114,115,116,117,118,119,120,121,122,48,49,50,51,52,53,54,55,56,57,45,95]:List UInt8))=Tg n.val:=by decide+kernel
theorem Th:∀ n:Fin 256,decide (b6 n.val∈([97,98,99,100,101,102,103,104,105,106,107,108,109,110,111,112,113,114,115,116,117,118,119,120,121,122]:List UInt8))=(decide (97≤n.val)&&decide (n.val≤122)):=by decide+kernel
theorem P9 {p:UInt8→Bool} {q:Nat→Bool} (h:∀ n:Fin 256,p (b6 n.val)=q n.val) (c:UInt8):p c=q c.toNat:=by
 have:=h ⟨c.toNat,c.toNat_lt⟩
 simpa using this
theorem Mi (s chars:bj) (hl:(s.length:Int)≤4611686018427387904):BK s chars=some (s.all (fun c=>decide (c∈chars))):=by
 unfold BK Ga
 rw [BQ s (fun x:Int=>sy s chars x) (fun c=>if decide (c∈chars)=true then none else some false) true hl,Ah]
 ·intro i c h0 h1 hc
  rw [sy,if_pos h1,hc]
  simp only [aa,Aa,abT]
  rw [bn (by omega) (by omega)]
  by_cases hm:c∈chars
  ·rw [if_neg (fun h=>(sM _ _).1 h hm)];simp [hm]
  ·rw [if_pos ((sM _ _).2 hm)];simp [hm]
 ·rw [sy,if_neg (by omega)];rfl
theorem Hr (s:bj):AY s=some (rj s):=by
 unfold AY wu
 rw [yA]
 cases s with
 | nil=>rfl
 | cons c r=>
   have hs:Cj (c :: r) 0 1=some [c]:=by rw [Lk (by omega) (by omega) (by simp;omega)];simp
   rw [hs]
   simp only [aa]
   by_cases hl:(c :: r).length≤40
   ·rw [if_pos (by simp;simp at hl;omega),Mi _ _ (by simp)]
    simp only [aa,b7,List.all_nil,c6]
    rw [Mi _ _ (by omega)]
    simp only [aa]
    rw [P9 (p:=fun c=>decide (c∈([97,98,99,100,101,102,103,104,105,106,107,108,109,110,111,112,113,114,115,116,117,118,119,120,121,122]:List UInt8))) (q:=fun n=>decide (97≤n)&&decide (n≤122)) Th c]
    have e:(c :: r).all (fun c=>decide (c∈([97,98,99,100,101,102,103,104,105,106,107,108,109,110,111,112,113,114,115,116,117,118,119,120,121,122,48,49,50,51,52,53,54,55,56,57,45,95]:List UInt8)))=(c :: r).all (fun c=>Tg c.toNat):=by
     congr 1;funext c
     exact P9 (p:=fun c=>decide (c∈([97,98,99,100,101,102,103,104,105,106,107,108,109,110,111,112,113,114,115,116,117,118,119,120,121,122,48,49,50,51,52,53,54,55,56,57,45,95]:List UInt8))) NG c
    rw [e,wL,decide_eq_true hl,c7]
    split
    ·rename_i h;rw [h];simp
    ·rename_i h
     rw [fd] at h
     rw [h];simp
   ·rw [if_neg (by simp;simp at hl;omega),wL,decide_eq_false hl];rfl
theorem EF (a b:Int):dZ a b=- dZ b a:=by
 unfold dZ
 repeat' split
 all_goals omega
theorem jD (a b:Int):cmp_Compare_int a b=dZ a b:=by
 unfold cmp_Compare_int cmp_isNaN_int dZ;simp
theorem BV (n:Int):qT n=(decide (0≤n)&&decide (n≤345686399999)):=by
 unfold qT
 rw [uV,aw]
 simp
theorem Lm (n:Int):AZ n=(decide (0≤n)&&decide (n≤345686399999)):=rfl
theorem Qa {S A:Type} (f:S→Option (S⊕A)) (m:S→Nat) (Inv:S→Prop) (R:A→Prop)
 (h:∀ s,Inv s→(∃ s',f s=some (.inl s')∧Inv s'∧m s' < m s)∨(∃ a,f s=some (.inr a)∧R a)):∀ s,Inv s→∃ a,iter f s=some a∧R a:=by
 have key:∀ (n:Nat) s,m s≤n→Inv s→∃ a,iter f s=some a∧R a:=by
  intro n
  induction n with
  | zero=>
    intro s hm hi
    rcases h s hi with ⟨s',_,_,h3⟩ | ⟨a,h1,h2⟩
    ·omega
    ·exact ⟨a,by rw [iter_eq,h1];rfl,h2⟩
  | succ n ih=>
    intro s hm hi
    rcases h s hi with ⟨s',h1,h2,h3⟩ | ⟨a,h1,h2⟩
    ·obtain ⟨a,h4,h5⟩:=ih s' (by omega) h2
     exact ⟨a,by rw [iter_eq,h1];simpa using h4,h5⟩
    ·exact ⟨a,by rw [iter_eq,h1];rfl,h2⟩
 exact fun s hi=>key (m s) s (d7 _) hi
theorem Tj {S A:Type} (f:S→Option (S⊕A)) (m:S→Nat) (Inv:S→Prop) (r:Option A)
 (h:∀ s,Inv s→(∃ s',f s=some (.inl s')∧Inv s'∧m s' < m s)∨f s=r.map .inr):∀ s,Inv s→iter f s=r:=by
 have key:∀ (n:Nat) s,m s≤n→Inv s→iter f s=r:=by
  intro n
  induction n with
  | zero=>
    intro s hm hi
    rcases h s hi with ⟨s',_,_,h3⟩ | h1
    ·omega
    ·rw [iter_eq,h1,bb]
  | succ n ih=>
    intro s hm hi
    rcases h s hi with ⟨s',h1,h2,h3⟩ | h1
    ·rw [iter_eq,h1];simpa using ih s' (by omega) h2
    ·rw [iter_eq,h1,bb]
 exact fun s hi=>key (m s) s (d7 _) hi
theorem Qb (xs:List Int) (h:(xs.length:Int)≤4611686018427387904):xa xs=some (rk xs):=Ai xs h
theorem YJ (x y z:Int):rk [x,y,z]=if rk [x,y]≠0 then rk [x,y] else z:=by
 by_cases h1:x=0<;>by_cases h2:y=0<;>by_cases h3:z=0<;>simp [rk,h1,h2,h3]
theorem V8 (x y:Int):rk [x,y]=if x≠0 then x else y:=by
 by_cases h1:x=0<;>by_cases h2:y=0<;>simp [rk,h1,h2]
def Ok {α:Type} (m:Option α) (Q:α→Prop):Prop:=∃ r,m=some r∧Q r
theorem Ok.ret {α:Type} {v:α} {Q:α→Prop} (h:Q v):Ok (some v) Q:=⟨v,rfl,h⟩
theorem Ok.mono {α:Type} {m:Option α} {P Q:α→Prop} (h:Ok m P) (hp:∀ v,P v→Q v):Ok m Q:=by
 obtain ⟨r,h1,h2⟩:=h;exact ⟨r,h1,hp r h2⟩
theorem Ok.bind {α β:Type} {m:Option α} {f:α→Option β} {P:α→Prop} {Q:β→Prop} (h:Ok m P) (hf:∀ v,P v→Ok (f v) Q):Ok (m.bind f) Q:=by
 obtain ⟨r,rfl,h2⟩:=h;exact hf r h2
theorem Ok.is {α β:Type} {m:Option α} {v:α} {f:α→Option β} {Q:β→Prop} (h:m=some v) (hf:Ok (f v) Q):Ok (m.bind f) Q:=by rw [h];exact hf
theorem Ok.inr {α β:Type} {m:Option β} {Q:α⊕β→Prop} (h:Ok m (fun r=>Q (.inr r))):Ok (c8 .inr m) Q:=by
 obtain ⟨r,rfl,h2⟩:=h;exact ⟨_,rfl,h2⟩
theorem Ok.gen {α β:Type} {m:Option (α×zr)} {k:Int} {P:α→Prop} {f:α×zr→Option β} {Q:β→Prop} (h:sq m k P) (hf:∀ v s',P v→vS s' k→Ok (f (v,s')) Q):Ok (m.bind f) Q:=by
 obtain ⟨v,s',rfl,h1,h2⟩:=h;exact hf v s' h1 h2
theorem sq.of {α:Type} {m:Option (α×zr)} {k:Int} {P:α→Prop} (h:Ok m (fun r=>P r.1∧vS r.2 k)):sq m k P:=by
 obtain ⟨⟨v,s⟩,h1,h2,h3⟩:=h;exact ⟨v,s,h1,h2,h3⟩
theorem Ok.idx {α β:Type} {xs:List α} {i:Int} {f:α→Option β} {Q:β→Prop} (h0:0≤i) (h1:i < xs.length) (hf:∀ x,idx xs i=some x→x∈xs→Ok (f x) Q):Ok ((idx xs i).bind f) Q:=by
 obtain ⟨x,hx,hm,_⟩:=gj xs h0 h1
 rw [hx];exact hf x hx hm
theorem Ok.app {α β:Type} {xs ys:List α} {f:List α→Option β} {Q:β→Prop} (h:xs.length+ys.length≤1000000000) (hf:Ok (f (xs++ys)) Q):Ok ((app xs ys).bind f) Q:=by
 rw [lx h];exact hf
theorem Qd {a b:bj} (h:a.length+b.length≤9223372036854775807):Nk a b=some (a++b):=by unfold Nk;rw [if_pos h]
abbrev Rz {S A:Type} (m:S→Nat) (Inv:S→Prop) (R:A→Prop) (s:S):S⊕A→Prop
 | .inl s'=>Inv s'∧m s' < m s
 | .inr a=>R a
theorem Ok.iter {S A:Type} {f:S→Option (S⊕A)} {R:A→Prop} (m:S→Nat) (Inv:S→Prop)
 (h:∀ s,Inv s→Ok (f s) (Rz m Inv R s)) (s:S) (hs:Inv s):Ok (iter f s) R:=by
 refine Qa f m Inv R (fun s hi=>?_) s hs
 obtain ⟨r,h1,h2⟩:=h s hi
 cases r with
 | inl s'=>exact .inl ⟨s',h1,h2.1,h2.2⟩
 | inr a=>exact .inr ⟨a,h1,h2⟩
abbrev Rng {A:Type} (N:Nat) (R:A→Prop) (i:Int):Int⊕A→Prop
 | .inl j=>j=i+1∧i < N
 | .inr a=>R a
theorem Ok.range {A:Type} {f:Int→Option (Int⊕A)} {R:A→Prop} (N:Nat) (h:∀ i:Int,0≤i→i≤N→Ok (f i) (Rng N R i)):Ok (Eng.iter f 0) R:=by
 refine Ok.iter (fun i:Int=>N+1 - i.toNat) (fun i:Int=>0≤i∧i≤N) (fun i hi=>?_) 0 ⟨by omega,by omega⟩
 refine (h i hi.1 hi.2).mono (fun r hr=>?_)
 cases r with
 | inl j=>simp only [Rng,Rz] at hr ⊢;omega
 | inr a=>exact hr
theorem zb {S A:Type} {f g:S→Option (S⊕A)} (h:∀ s,f s=g s) (s:S):iter f s=iter g s:=by rw [funext h]
theorem Tk {α β:Type} (f:α→β) (xs:List α) (i:Int):idx (xs.map f) i=(idx xs i).map f:=by
 unfold idx;split
 ·simp
 ·rfl
def uW (c:UInt8):bj→List bj
 | []=>[[]]
 | b :: r=>if b=c then [] :: uW c r else match uW c r with
   | []=>[[b]]
   | h :: t=>(b :: h) :: t
theorem zI (c:UInt8):∀ s,(uW c s).length≤s.length+1
 | []=>by simp [uW]
 | b :: r=>by
   have ih:=zI c r
   unfold uW
   split
   ·simp;omega
   ·split
    ·simp
    ·rename_i h t e;rw [e] at ih;simp at ih ⊢;omega
theorem Mj (c:UInt8):∀ s,Lib.split s [c]=uW c s
 | []=>rfl
 | b :: r=>by
   have ih:=Mj c r
   unfold Lib.split at ih ⊢
   unfold uW
   by_cases hb:b=c
   ·subst hb
    have Kd:Lib.index (b :: r) [b]=0:=by rw [Lib.index];simp [ck]
    rw [if_pos rfl,Lib.count_cons_eq,fi,Lib.splitK,Kd,← ih]
    simp
   ·rw [if_neg hb,Lib.count_cons_ne b c r hb,← ih]
    have hp:([c]:List UInt8).isPrefixOf (b :: r)=false:=by simp [ck,Ne.symm hb]
    have Kd:Lib.index (b :: r) [c]=if Lib.index r [c]==-1 then -1 else Lib.index r [c]+1:=by rw [Lib.index,hp];simp
    by_cases hm:Lib.index r [c]=-1
    ·rw [Lib.count_miss hm];rfl
    ·have Ue:=Lib.index_ge r [c]
     obtain ⟨j,hj⟩:∃ j:Nat,Lib.index r [c]=j:=⟨(Lib.index r [c]).toNat,by omega⟩
     have abV:Lib.index (b :: r) [c]=((j+1:Nat):Int):=by rw [Kd,if_neg (fun e=>hm (beq_iff_eq.1 e)),hj];omega
     rw [Lib.count_hit (by simp) hj,fi]
     have n1:¬ ((((j+1:Nat):Int)==-1)=true):=fun h=>by have:=beq_iff_eq.1 h;omega
     have n2:¬ ((((j:Nat):Int)==-1)=true):=fun h=>by have:=beq_iff_eq.1 h;omega
     simp only [Lib.splitK,abV,hj,if_neg n1,if_neg n2]
     simp [List.take_succ_cons]
theorem NH {s:bj} {c:UInt8} (h:s.length≤1000000000):D8 s [c]=some (uW c s):=by
 unfold D8
 rw [if_pos ⟨by omega,by simp⟩]
 congr 1
 have h1:=Lib.splitB_data ⟨#[c]⟩ 0 (Lib.countB ⟨s.toArray⟩ ⟨#[c]⟩) ⟨s.toArray⟩
 rw [← Mj]
 exact h1
def oO (c:UInt8):Bool:=decide (48≤c.toNat)&&decide (c.toNat≤57)
theorem NI {c:UInt8} (h:oO c=true):Lib.digitVal c=some (c.toNat - 48):=by
 unfold oO at h;simp at h
 unfold Lib.digitVal;rw [if_pos h]
theorem Dk {c:UInt8} {d:Nat} (h:Lib.digitVal c=some d):oO c=true∧d=c.toNat - 48∧b6 (48+d)=c:=by
 obtain ⟨h1,h2,h3⟩:=Lib.digitVal_eq h
 refine ⟨by unfold oO;simp;omega,h3,?_⟩
 apply fj.1
 rw [da]
 omega
theorem vD:∀ (l:bj) (acc:Nat),l.all oO=true→∃ m,Lib.decFrom acc l=some m
 | [],acc,_=>⟨acc,rfl⟩
 | b :: r,acc,h=>by
   simp only [b7,ac] at h
   obtain ⟨m,hm⟩:=vD r (acc * 10+(b.toNat - 48)) h.2
   exact ⟨m,by rw [Lib.decFrom,NI h.1];exact hm⟩
theorem Jp:∀ (l:bj) (acc m:Nat),0 < acc→Lib.decFrom acc l=some m→Lib.decDigits m=Lib.decDigits acc++l
 | [],acc,m,_,h=>by simp only [Lib.decFrom,db] at h;simp [h]
 | b :: r,acc,m,ha,h=>by
   rw [Lib.decFrom] at h
   cases hd:Lib.digitVal b with
   | none=>rw [hd] at h;simp at h
   | some d=>
     rw [hd] at h
     obtain ⟨h1,h2,h3⟩:=Lib.digitVal_eq hd
     have ih:=Jp r (acc * 10+d) m (by omega) h
     rw [ih,Lib.decDigits,dif_neg (by omega)]
     rw [show (acc * 10+d) / 10=acc by omega,show (acc * 10+d) % 10=d by omega,(Dk hd).2.2]
     simp
theorem Jq {m:Nat} (h:0 < m):∃ b r,Lib.decDigits m=b :: r∧b≠48:=by
 induction m using d8 with
 | _ m ih=>
   rw [Lib.decDigits]
   split
   ·refine ⟨_,_,rfl,?_⟩
    intro e
    have:=congrArg UInt8.toNat e
    rw [da] at this
    simp at this;omega
   ·obtain ⟨b,r,h1,h2⟩:=ih (m / 10) (by omega) (by omega)
    exact ⟨b,r++_,by rw [h1];rfl,h2⟩
theorem EG:Lib.decDigits 0=[48]:=by rw [Lib.decDigits,dif_pos (by omega)];rfl
theorem Cw {l:bj} {m:Nat} (h:Lib.decFrom 0 l=some m) (hl:l≠[]):Lib.decDigits m=l↔(l.head? ≠some 48∨l.length=1):=by
 cases l with
 | nil=>exact absurd rfl hl
 | cons b r=>
   rw [Lib.decFrom] at h
   cases hd:Lib.digitVal b with
   | none=>rw [hd] at h;simp at h
   | some d=>
     rw [hd] at h
     simp only [Nat.zero_mul,cl] at h
     obtain ⟨h1,h2,h3⟩:=Lib.digitVal_eq hd
     by_cases hz:d=0
     ·subst hz
      have hb:b=48:=by rw [← (Dk hd).2.2];rfl
      subst hb
      constructor
      ·intro e
       right
       by_cases hm:m=0
       ·subst hm;rw [EG] at e
        have:=congrArg List.length e;simpa using this.symm
       ·obtain ⟨b,r',h4,h5⟩:=Jq (m:=m) (by omega)
        rw [h4] at e;simp at e;exact absurd e.1 h5
      ·rintro (e | e)
       ·simp at e
       ·have:r=[]:=by cases r with
         | nil=>rfl
         | cons _ _=>simp at e
        subst this
        simp only [Lib.decFrom,db] at h
        subst h;exact EG
     ·have hg:=Jp r d m (by omega) h
      have hd1:Lib.decDigits d=[b6 (48+d)]:=by rw [Lib.decDigits,dif_pos (by omega)]
      rw [hd1,(Dk hd).2.2] at hg
      constructor
      ·intro _;left
       intro e;simp at e
       have e2:=(Dk hd).2.1
       rw [e] at e2;simp at e2;omega
      ·intro _;exact hg
theorem Bg (m:Nat):(Lib.decDigits m).all oO=true:=by
 induction m using d8 with
 | _ m ih=>
   rw [Lib.decDigits]
   have key:∀ d,d < 10→oO (b6 (48+d))=true:=by
    intro d hd
    unfold oO;rw [da];simp;omega
   split
   ·rename_i h;rw [b7,key m h];rfl
   ·rw [fn,ih (m / 10) (by omega),b7,key (m % 10) (by omega)];rfl
theorem yB:∀ (l r:bj) (acc:Nat),Lib.decFrom acc (l++r)=(Lib.decFrom acc l).bind fun a=>Lib.decFrom a r
 | [],r,acc=>rfl
 | b :: l,r,acc=>by
   rw [d9,Lib.decFrom,Lib.decFrom]
   cases Lib.digitVal b with
   | none=>rfl
   | some d=>exact yB l r _
theorem Hs (m:Nat):Lib.decFrom 0 (Lib.decDigits m)=some m:=by
 induction m using d8 with
 | _ m ih=>
   have key:∀ d,d < 10→Lib.digitVal (b6 (48+d))=some d:=by
    intro d hd
    unfold Lib.digitVal;rw [da]
    rw [if_pos (by omega)];congr 1;omega
   rw [Lib.decDigits]
   split
   ·rename_i h;rw [Lib.decFrom,key m h];simp [Lib.decFrom]
   ·rw [yB,ih (m / 10) (by omega)]
    simp only [aa]
    rw [Lib.decFrom,key (m % 10) (by omega)]
    simp only [Lib.decFrom]
    congr 1;omega
theorem Ln (m:Nat):Lib.decDigits m≠[]:=by
 rw [Lib.decDigits];split
 ·simp
 ·simp
theorem NJ (n:Int):Lib.atoi (Lib.itoa n)=some n:=by
 unfold Lib.itoa
 have hN:∀ m,Lib.decNat (Lib.decDigits m)=some m:=by
  intro m;unfold Lib.decNat
  rw [if_neg (by simpa using Ln m),Hs]
 split
 ·rw [Lib.atoi];simp [hN];omega
 ·obtain ⟨b,r,e⟩:=List.exists_cons_of_ne_nil (Ln n.toNat)
  have hd:=Bg n.toNat
  rw [e] at hd ⊢
  simp only [b7,ac] at hd
  have hb:=hd.1
  unfold oO at hb;simp at hb
  have n45:b≠45:=fun h=>by subst h;simp at hb
  have n43:b≠43:=fun h=>by subst h;simp at hb
  rw [Lib.atoi]
  simp only [beq_iff_eq,n45,n43,if_false]
  rw [← e,hN];simp;omega
def Bh (s:bj) (k:Int):Option Int:=
 if (Lib.trimPrefix s [45]=[]∨k < (Lib.trimPrefix s [45]).length)∨(Lib.trimPrefix s [45]).all oO=false then none
 else match Lib.atoi s with
  | some n=>if Lib.itoa n=s then some n else none
  | none=>none
theorem vE (s:bj):(∃ d,s=45 :: d∧Lib.trimPrefix s [45]=d)∨(Lib.trimPrefix s [45]=s∧s.head? ≠some 45):=by
 cases s with
 | nil=>right;exact ⟨rfl,by simp⟩
 | cons b r=>
   unfold Lib.trimPrefix
   by_cases h:b=45
   ·subst h;left;exact ⟨r,rfl,by simp [Lib.hasPrefix,ck]⟩
   ·right
    have hp:Lib.hasPrefix (b :: r) [45]=false:=by simp [Lib.hasPrefix,ck,Ne.symm h]
    rw [hp];exact ⟨by simp,by simpa using h⟩
theorem Bi (s:bj):(Lib.trimPrefix s [45]).length≤s.length∧s.length≤(Lib.trimPrefix s [45]).length+1:=by
 rcases vE s with ⟨d,h1,h2⟩ | ⟨h1,_⟩
 ·rw [h2,h1];simp
 ·rw [h1];omega
theorem Lo {s:bj} {n:Int} (hl:s.length≤18) (h:Lib.atoi s=some n):Lib.atoiAll s=.ok n:=by
 rw [Lib.atoiAll_short s hl,h];rfl
theorem NK {s:bj} (h1:Lib.trimPrefix s [45]≠[]) (h2:(Lib.trimPrefix s [45]).all oO=true):∃ n,Lib.atoi s=some n∧(Lib.itoa n=s↔¬((Lib.trimPrefix s [45]).head? =some 48∧(1 < (Lib.trimPrefix s [45]).length∨(Lib.trimPrefix s [45]).length < s.length))):=by
 rcases vE s with ⟨d,e1,e2⟩ | ⟨e1,e2⟩
 ·rw [e2] at h1 h2 ⊢
  subst e1
  obtain ⟨m,hm⟩:=vD d 0 h2
  have hN:Lib.decNat d=some m:=by unfold Lib.decNat;rw [if_neg (by simpa using h1),hm]
  refine ⟨-(m:Int),by rw [Lib.atoi];simp [hN],?_⟩
  have hs:=Cw hm h1
  have hlen:d.length < (45 :: d).length:=by simp
  constructor
  ·rintro e ⟨hh,_⟩
   unfold Lib.itoa at e
   split at e
   ·have e':Lib.decDigits m=d:=by simpa using e
    rename_i amH
    obtain ⟨b,r,h4,h5⟩:=Jq (m:=m) (by omega)
    rw [e'] at h4;rw [h4] at hh;simp at hh;exact h5 hh
   ·have:=Bg (-(m:Int)).toNat
    rw [e] at this;simp [oO] at this
  ·intro hn
   have hh:d.head? ≠some 48:=fun hh=>hn ⟨hh,.inr hlen⟩
   have e':=hs.2 (.inl hh)
   have WO:m≠0:=by
    intro h0;subst h0;rw [EG] at e';subst e';simp at hh
   unfold Lib.itoa
   rw [if_pos (by omega)]
   simp [e']
 ·rw [e1] at h1 h2 ⊢
  obtain ⟨m,hm⟩:=vD s 0 h2
  have hN:Lib.decNat s=some m:=by unfold Lib.decNat;rw [if_neg (by simpa using h1),hm]
  have hs:=Cw hm h1
  cases s with
  | nil=>exact absurd rfl h1
  | cons b r=>
    have n45:b≠45:=by simpa using e2
    have hb:oO b=true:=by simp only [b7,ac] at h2;exact h2.1
    have n43:b≠43:=fun h=>by subst h;simp [oO] at hb
    refine ⟨m,by rw [Lib.atoi];simp only [beq_iff_eq,n45,n43,if_false];rw [hN];rfl,?_⟩
    have hi:Lib.itoa (m:Int)=Lib.decDigits m:=by unfold Lib.itoa;rw [if_neg (by omega)];simp
    rw [hi,hs]
    constructor
    ·rintro (h | h) ⟨h3,h4⟩
     ·exact h h3
     ·omega
    ·intro h
     by_cases hh:(b :: r).head? =some 48
     ·right
      have:¬ (1 < (b :: r).length):=fun h5=>h ⟨hh,.inl h5⟩
      simp at this ⊢;omega
     ·exact .inl hh
theorem Lp {s:bj} {k:Nat} {n:Int} (h:Bh s k=some n):-(10 ^ k:Nat) < n∧n < (10 ^ k:Nat):=by
 unfold Bh at h
 split at h
 ·cases h
 ·rename_i hc
  cases ha:Lib.atoi s with
  | none=>rw [ha] at h;cases h
  | some n'=>
    rw [ha] at h
    simp only at h
    split at h
    ·obtain rfl:=aH h
     simp only [not_or] at hc
     have lE:(Lib.trimPrefix s [45]).all oO=true:=by simpa using hc.2
     have hlen:(Lib.trimPrefix s [45]).length≤k:=by have:=hc.1.2;omega
     obtain ⟨m,hm⟩:=vD _ 0 lE
     have hb:=Lib.decFrom_lt _ 0 m hm
     have hp:(10:Nat) ^ (Lib.trimPrefix s [45]).length≤10 ^ k:=Nat.pow_le_pow_right (by omega) hlen
     have ep:m < 10 ^ k:=by omega
     have hnm:n'=m∨n'=-(m:Int):=by
      have hN:Lib.decNat (Lib.trimPrefix s [45])=some m:=by unfold Lib.decNat;rw [if_neg (by simpa using hc.1.1),hm]
      rcases vE s with ⟨d,e1,e2⟩ | ⟨e1,e2⟩
      ·rw [e2] at hN;rw [e1,Lib.atoi] at ha;simp [hN] at ha;right;omega
      ·rw [e1] at hN lE
       cases s with
       | nil=>simp [Lib.atoi] at ha
       | cons b r=>
         have n45:b≠45:=by simpa using e2
         have hb:oO b=true:=by simp only [b7,ac] at lE;exact lE.1
         have n43:b≠43:=fun h=>by subst h;simp [oO] at hb
         rw [Lib.atoi] at ha
         simp only [beq_iff_eq,n45,n43,if_false] at ha
         rw [hN] at ha;simp at ha;left;omega
     omega
    ·cases h
theorem BW {n k:Int} (h:((Lib.decDigits n.natAbs).length:Int)≤k):Bh (Lib.itoa n) k=some n:=by
 have ht:Lib.trimPrefix (Lib.itoa n) [45]=Lib.decDigits n.natAbs:=by
  unfold Lib.itoa
  split
  ·unfold Lib.trimPrefix;simp [Lib.hasPrefix,ck]
  ·rename_i h0
   rw [show n.toNat=n.natAbs by omega]
   rcases vE (Lib.decDigits n.natAbs) with ⟨d,e1,e2⟩ | ⟨e1,e2⟩
   ·have:=Bg n.natAbs;rw [e1] at this;simp [oO] at this
   ·exact e1
 unfold Bh
 rw [ht,if_neg (by
  rintro ((h1 | h1) | h1)
  ·exact Ln _ h1
  ·omega
  ·rw [Bg] at h1;cases h1),NJ]
 simp
theorem Jr (s:bj) (hl:s.length≤18):uJ s 0=if (Lib.trimPrefix s [45]).all oO=true then rV s else some (0,false):=by
 unfold uJ
 have hd:((Lib.trimPrefix s [45]).length:Int)≤4611686018427387904:=by have:=Bi s;omega
 refine Tj (fun x:Int=>fE s x) (fun i=>(Lib.trimPrefix s [45]).length+1 - i.toNat) (fun i=>0≤i∧i≤(Lib.trimPrefix s [45]).length∧((Lib.trimPrefix s [45]).take i.toNat).all oO=true) _ ?_ 0 ⟨by omega,by omega,by simp⟩
 rintro i ⟨h0,h1,h2⟩
 by_cases hi:i < (Lib.trimPrefix s [45]).length
 ·obtain ⟨c,hc,_,V6⟩:=gj (Lib.trimPrefix s [45]) h0 hi
  have hg:=(jX hc).2.2
  have lK:c∈Lib.trimPrefix s [45]:=vC hc
  have hB:fE s i=if oO c=true then some (.inl (bE (i+1))) else c8 .inr (some ((0:Int),false)):=by
   unfold fE
   rw [if_pos hi,hc]
   simp only [aa]
   unfold o7 oO
   by_cases a1:(c.toNat:Int) < 48
   ·rw [if_pos a1,if_pos rfl,if_neg (by simp;omega)]
   ·rw [if_neg a1]
    by_cases a2:(57:Int) < c.toNat
    ·rw [if_pos (by simpa using a2),if_neg (by simp;omega)]
    ·rw [if_neg (by simpa using a2),if_pos (by simp;omega)]
  by_cases Z8:oO c=true
  ·left
   refine ⟨i+1,?_,⟨by omega,by omega,?_⟩,by omega⟩
   ·show fE s i=_
    rw [hB,if_pos Z8,bn (by omega) (by omega)]
   ·rw [show (i+1).toNat=i.toNat+1 by omega,cm,fn,h2,hg];simp [Z8]
  ·right
   show fE s i=_
   rw [hB,if_neg Z8,if_neg (fun h=>Z8 (d6.1 h c lK))]
 ·right
  show fE s i=_
  unfold fE
  rw [if_neg hi]
  rw [cn (by omega)] at h2
  rw [if_pos h2]
theorem Qe {s:bj} {n:Int} (hl:s.length≤18) (h:Lib.atoi s=some n):IW s=some (n,true):=by
 unfold IW;rw [if_pos (by omega),Lo hl h]
theorem NL (s:bj) (k:Nat) (hk:k≤17):tB s k=some (match Bh s k with | some n=>(n,true) | none=>(0,false)):=by
 have hln:=Bi s
 unfold tB nk
 by_cases h1:Lib.trimPrefix s [45]=[]
 ·rw [if_pos h1,if_pos rfl];unfold Bh;rw [if_pos (.inl (.inl h1))]
 ·rw [if_neg h1]
  by_cases h2:(k:Int) < (Lib.trimPrefix s [45]).length
  ·rw [if_pos h2,if_pos rfl];unfold Bh;rw [if_pos (.inl (.inr h2))]
  ·rw [if_neg h2]
   have tI:0 < (Lib.trimPrefix s [45]).length:=d5.2 h1
   obtain ⟨c,hc,_,_⟩:=gj (Lib.trimPrefix s [45]) (i:=0) (by omega) (by omega)
   have hh:(Lib.trimPrefix s [45]).head? =some c:=by
    have:=(jX hc).2.2
    rw [List.head?_eq_getElem?];simpa using this
   rw [hc]
   simp only [aa]
   rw [Jr s (by omega)]
   by_cases lE:(Lib.trimPrefix s [45]).all oO=true
   ·obtain ⟨n,hn,abW⟩:=NK h1 lE
    have Z9:Bh s k=if Lib.itoa n=s then some n else none:=by
     unfold Bh
     rw [if_neg (fun h=>h.elim (fun h=>h.elim h1 h2) (fun h=>by rw [lE] at h;cases h)),hn]
    have UG:(decide ((c.toNat:Int)=48)&&(decide ((1:Int) < (Lib.trimPrefix s [45]).length)||decide (((Lib.trimPrefix s [45]).length:Int) < s.length)))=true↔¬ Lib.itoa n=s:=by
     rw [abW,hh]
     simp only [ac,decide_eq_true_eq,b8,db,fr]
     constructor
     ·rintro ⟨a,b⟩;exact ⟨fj.1 (by simpa using (by omega:c.toNat=48)),by omega⟩
     ·rintro ⟨a,b⟩;exact ⟨by rw [a];rfl,by omega⟩
    by_cases hi:Lib.itoa n=s
    ·rw [if_neg (fun h=>UG.1 h hi),if_pos lE,Z9,if_pos hi]
     unfold rV
     rw [Qe (by omega) hn];rfl
    ·rw [if_pos (UG.2 hi),Z9,if_neg hi]
   ·have Z9:Bh s k=none:=by unfold Bh;rw [if_pos (.inr (by simpa using lE))]
    rw [Z9,if_neg lE];simp
def ig (a b:Version):Int:=rk [dZ a.aA b.aA,dZ a.aD b.aD,dZ a.aF b.aF]
theorem rf (a b:Version):fH a b=some (ig a b):=by
 unfold fH
 have h:mo [cmp_Compare_int a.aA b.aA,cmp_Compare_int a.aD b.aD,cmp_Compare_int a.aF b.aF]=some (rk [cmp_Compare_int a.aA b.aA,cmp_Compare_int a.aD b.aD,cmp_Compare_int a.aF b.aF]):=Ai _ (by simp)
 rw [h,jD,jD,jD];rfl
theorem Qf {a b:Int}:dZ a b=0↔a=b:=by
 unfold dZ;repeat' split
 all_goals omega
theorem uw (a b:Version):ee a b=some (ig a b):=by
 unfold ee
 have step:∀ (i:Nat) (x y:Int),[a.aA,a.aD,a.aF][i]? =some x→[b.aA,b.aD,b.aF][i]? =some y→bu [a.aA,a.aD,a.aF] [b.aA,b.aD,b.aF] (i:Int)=if dZ x y≠0 then some (.inr (dZ x y)) else some (.inl ((i:Int)+1)):=by
  intro i x y h1 h2
  have hi:i < 3:=by simpa using (cp.1 h1).1
  unfold bu
  rw [if_pos (by simp;omega)]
  have e1:idx [a.aA,a.aD,a.aF] (i:Int)=some x:=by unfold idx;rw [if_pos (by omega)];simpa using h1
  have e2:idx [b.aA,b.aD,b.aF] (i:Int)=some y:=by unfold idx;rw [if_pos (by omega)];simpa using h2
  rw [e1]
  simp only [aa]
  rw [if_neg (by simp;omega),e2]
  simp only [aa,jD]
  rw [bn (by omega) (by omega)]
  rfl
 have s0:bu [a.aA,a.aD,a.aF] [b.aA,b.aD,b.aF] 0=if dZ a.aA b.aA≠0 then some (.inr (dZ a.aA b.aA)) else some (.inl 1):=step 0 a.aA b.aA rfl rfl
 have s1:bu [a.aA,a.aD,a.aF] [b.aA,b.aD,b.aF] 1=if dZ a.aD b.aD≠0 then some (.inr (dZ a.aD b.aD)) else some (.inl 2):=step 1 a.aD b.aD rfl rfl
 have s2:bu [a.aA,a.aD,a.aF] [b.aA,b.aD,b.aF] 2=if dZ a.aF b.aF≠0 then some (.inr (dZ a.aF b.aF)) else some (.inl 3):=step 2 a.aF b.aF rfl rfl
 have s3:bu [a.aA,a.aD,a.aF] [b.aA,b.aD,b.aF] 3=some (.inr 0):=by
  unfold bu iP
  rw [if_neg (by simp),if_neg (by simp)];rfl
 unfold ew fU
 unfold ig rk rk rk rk
 rw [iter_eq,s0]
 by_cases c0:dZ a.aA b.aA=0
 ·rw [if_neg (by simpa using c0),if_neg (by simpa using c0)]
  simp only [aa,bD]
  rw [iter_eq,s1]
  by_cases c1:dZ a.aD b.aD=0
  ·rw [if_neg (by simpa using c1),if_neg (by simpa using c1)]
   simp only [aa,bD]
   rw [iter_eq,s2]
   by_cases c2:dZ a.aF b.aF=0
   ·rw [if_neg (by simpa using c2),if_neg (by simpa using c2)]
    simp only [aa,bD]
    rw [iter_eq,s3];rfl
   ·rw [if_pos c2,if_pos c2];rfl
  ·rw [if_pos c1,if_pos c1];rfl
 ·rw [if_pos c0,if_pos c0];rfl
theorem Bj (a b:Version):ig b a=- ig a b:=by
 unfold ig
 rw [EF b.aA a.aA,EF b.aD a.aD,EF b.aF a.aF]
 simp only [rk]
 repeat' split
 all_goals omega
def mH (v:Version):Bool:=(decide (0≤v.aA)&&decide (v.aA≤9999))&&(decide (0≤v.aD)&&decide (v.aD≤9999))&&(decide (0≤v.aF)&&decide (v.aF≤9999))
theorem kH (v:Version):iq v=mH v:=by
 unfold iq qt mH
 rw [uV,uV,uV,aw]
 simp;omega
theorem Bl (v:Version):eC v=if mH v=true then 0 else 1:=by
 unfold eC oN
 rw [yA,yA,yA]
 by_cases h:mH v=true
 ·rw [if_pos h,if_neg];unfold mH at h;simp at h ⊢;omega
 ·rw [if_neg h,if_pos];unfold mH at h;simp at h ⊢;omega
theorem Mk (x:ak) (v:Version):jU x v=xb x v:=by
 unfold jU xb
 have h:(fun y0=>ll y0 v)=(fun y0=>sA y0 v):=by
  funext y
  unfold ll sA ja pv
  simp only [rf,uw]
 rw [h]
def EH (v:Version) (r:Range):Bool:=decide (ig r.vM v≤0)&&decide (ig v r.mn≤0)
theorem Qg (x:ak) (v:Version) (h:x.bF.length≤1000000):xb x v=some (x.bF.any (EH v)):=by
 unfold xb
 have e:dU x.bF (fun y0=>sA y0 v)=some (x.bF.any (EH v)):=wH x.bF _ (EH v) (fun r _=>by
  unfold sA pv EH
  simp only [uw,aa]
  by_cases c:ig r.vM v≤0
  ·rw [if_pos c];simp [c]
  ·rw [if_neg c];simp [c]) (by omega)
 rw [e];rfl
theorem EI (x:ak):fC x=pU x:=by
 unfold fC pU
 split
 ·rfl
 ·unfold mR wy
  refine zb (fun i=>?_) 0
  unfold fo mW
  split
  ·congr 1;funext r
   have s0:eM x i r 0=if mH r.vM=true then some (.inl 1) else some (.inr (.inr 1)):=by
    unfold eM
    rw [if_pos (by simp)]
    have e1:idx [r.vM,r.mn] 0=some r.vM:=rfl
    rw [e1]
    simp only [aa,Bl]
    rw [bn (by omega) (by omega)]
    cases mH r.vM<;>rfl
   have s1:eM x i r 1=if mH r.mn=true then some (.inl 2) else some (.inr (.inr 1)):=by
    unfold eM
    rw [if_pos (by simp)]
    have e1:idx [r.vM,r.mn] 1=some r.mn:=rfl
    rw [e1]
    simp only [aa,Bl]
    rw [bn (by omega) (by omega)]
    cases mH r.mn<;>rfl
   have s2:eM x i r 2=c8 .inr (pz x i r):=by
    unfold eM
    rw [if_neg (by simp)]
   unfold wx
   rw [iter_eq,s0,kH,kH]
   unfold di
   cases h1:mH r.vM with
   | false=>simp [after]
   | true=>
     simp only [bm,a6,if_false,if_true,aa,bD]
     rw [iter_eq,s1]
     cases h2:mH r.mn with
     | false=>simp [after]
     | true=>
       simp only [bm,a6,if_false,if_true,aa,bD]
       rw [iter_eq,s2,bb]
       unfold pz fk mV
       simp only [rf,uw,aa]
       by_cases c:(0:Int) < ig r.vM r.mn
       ·simp [c]
       ·simp only [c,decide_false,a6,if_false]
  ·unfold jK sB
   rw [Mk]
theorem Lq (xs:List ak):er xs=pV xs:=by
 unfold er pV
 split
 ·rfl
 ·unfold mT wA
  refine zb (fun i=>?_) 0
  have j1:∀ (x:ak) (c:Bool),dE i x c=kQ i x c:=by
   intro x c
   unfold dE kQ
   split
   ·rfl
   ·split
    ·rfl
    ·split
     ·rfl
     ·unfold mS wz
      refine zb (fun k=>?_) 0
      unfold fp mY ef mX
      split
      ·congr 1;funext m
       rw [EE,Hr]
      ·unfold jL sC
       rw [EI,uV,yA]
       congr 2;funext e
       split
       ·rfl
       ·have:(decide (x.cW < 1)||decide (1000000000 < x.cW))=!(decide (1≤x.cW)&&decide (x.cW≤1000000000)):=by
         rw [aw];simp<;>omega
        rw [this]
  unfold fq mZ
  split
  ·congr 1;funext x
   rw [kH,Bl]
   cases h:mH x.Version with
   | false=>simp
   | true=>
     simp only [bm,a6,if_false,if_true,ne_eq,not_true_eq_false]
     split
     ·congr 1;funext y
      simp only [rf,uw,aa]
      rw [j1,Bj]
      congr 1
      rw [decide_eq_decide];omega
     ·exact j1 x false
  ·rfl
def Fs (x:ak):Prop:=x.df.length≤10∧x.bF.length≤10
def pa (xs:List ak):Prop:=xs.length≤8∧∀ x∈xs,Fs x
def wM (k:Int):List bj→Option (List Int)
 | []=>some []
 | w :: r=>match Bh w k,wM k r with
   | some n,some l=>some (n :: l)
   | _,_=>none
theorem Bm (ws:List bj) (k:Nat) (hk:k≤17) (hl:ws.length≤100000000):∀ (m:Nat) (l:List Int) (i:Int),0≤i→i+m=ws.length→(l.length:Int)=i→
 qy ws k l i=some (match wM k (ws.drop i.toNat) with | some r=>(l++r,true) | none=>([],false))
 | 0,l,i,h0,hm,he=>by
   unfold qy
   rw [iter_eq,lP,if_neg (by simp only;omega),bb,bo (by omega)]
   simp [wM]
 | m+1,l,i,h0,hm,he=>by
   have ih:=Bm ws k hk hl m
   unfold qy at ih ⊢
   obtain ⟨w,hw,_,hd⟩:=gj ws h0 (by omega)
   rw [iter_eq,lP,if_pos (by simp only;omega)]
   simp only [hw,aa]
   rw [NL w k hk,hd,wM]
   simp only [aa]
   cases hn:Bh w k with
   | none=>simp [after]
   | some n=>
     simp only [bm,a6,if_false]
     rw [lx (by simp;omega)]
     simp only [aa,bD]
     rw [bn (by omega) (by omega),ih (l++[n]) (i+1) (by omega) (by omega) (by simp;omega)]
     cases wM k (ws.drop (i+1).toNat) with
     | none=>rfl
     | some r=>simp
theorem Lr (ws:List bj) (k:Nat) (hk:k≤17) (hl:ws.length≤100000000):rW ws k=some (match wM k ws with | some r=>(r,true) | none=>([],false)):=by
 unfold rW
 rw [Bm ws k hk hl ws.length [] 0 (by omega) (by omega) (by simp)]
 simp
def Ml (s:bj):Option Version:=match wM 4 (uW 46 s) with
 | some [x,y,z]=>if 0≤x∧0≤y∧0≤z then some ⟨x,y,z⟩ else none
 | _=>none
theorem abX {α:Type}:∀ {l:List α},l.length=3→∃ a b c,l=[a,b,c]
 | [a,b,c],_=>⟨a,b,c,rfl⟩
theorem Cx {k:Nat}:∀ {ws:List bj} {l:List Int},wM k ws=some l→∀ x∈l,-(10 ^ k:Nat) < x∧x < (10 ^ k:Nat)
 | [],l,h=>by simp [wM] at h;subst h;simp
 | w :: r,l,h=>by
   rw [wM] at h
   cases h1:Bh w k with
   | none=>rw [h1] at h;simp at h
   | some n=>
     cases h2:wM k r with
     | none=>rw [h1,h2] at h;simp at h
     | some t=>
       rw [h1,h2] at h
       simp only [db] at h;subst h
       intro x hx
       rcases ad.1 hx with rfl | hx
       ·exact Lp h1
       ·exact Cx h2 x hx
theorem Qh (s:bj) (hs:s.length≤1000000):jb s=some (match Ml s with | some v=>(v,0) | none=>(⟨0,0,0⟩,9)):=by
 unfold jb
 have hl:=zI 46 s
 rw [NH (by omega)]
 simp only [aa]
 rw [show (4:Int)=((4:Nat):Int) from rfl,Lr _ 4 (by omega) (by omega)]
 simp only [aa]
 unfold jq Ml
 rw [show (4:Int)=((4:Nat):Int) from rfl]
 generalize hN:wM ((4:Nat):Int) (uW 46 s)=o
 cases o with
 | none=>rfl
 | some l=>
   by_cases h3:l.length=3
   ·obtain ⟨x,y,z,rfl⟩:=abX h3
    have bd:=Cx hN
    have bx:=bd x (by simp)
    have by_:=bd y (by simp)
    have bz:=bd z (by simp)
    simp only [bm,fs]
    rw [if_neg (by simp)]
    have e0:idx [x,y,z] 0=some x:=rfl
    have e1:idx [x,y,z] 1=some y:=rfl
    have e2:idx [x,y,z] 2=some z:=rfl
    rw [e0,e1,e2]
    simp only [aa,kH]
    by_cases hp:0≤x∧0≤y∧0≤z
    ·rw [if_pos hp,if_neg]
     unfold mH;simp;omega
    ·rw [if_neg hp,if_pos]
     unfold mH;simp;omega
   ·simp only
    rw [if_pos (by simp;omega)]
    split
    ·rename_i v e
     split at e
     ·rename_i e2;obtain rfl:=aH e2;simp at h3
     ·cases e
    ·rfl
theorem Ht:tC=some true:=by
 unfold tC
 rw [Qh _ (by simp)]
 have h:Ml [49,46,50,46,51]=some ⟨1,2,3⟩:=by
  have e:uW 46 [49,46,50,46,51]=[[49],[50],[51]]:=by decide
  have i1:Lib.itoa 1=[49]:=by unfold Lib.itoa;rw [if_neg (by omega),Lib.decDigits,dif_pos (by decide)];rfl
  have i2:Lib.itoa 2=[50]:=by unfold Lib.itoa;rw [if_neg (by omega),Lib.decDigits,dif_pos (by decide)];rfl
  have i3:Lib.itoa 3=[51]:=by unfold Lib.itoa;rw [if_neg (by omega),Lib.decDigits,dif_pos (by decide)];rfl
  have n1:=BW (n:=1) (k:=4) (by rw [Lib.decDigits,dif_pos (by decide)];simp)
  have n2:=BW (n:=2) (k:=4) (by rw [Lib.decDigits,dif_pos (by decide)];simp)
  have n3:=BW (n:=3) (k:=4) (by rw [Lib.decDigits,dif_pos (by decide)];simp)
  rw [i1] at n1;rw [i2] at n2;rw [i3] at n3
  unfold Ml
  rw [e]
  simp [wM,n1,n2,n3]
 rw [h]
 simp [rZ]
def mO (a b:MarkS):Int:=if dZ a.At b.At≠0 then dZ a.At b.At else Lib.compareBytes a.Device b.Device
theorem NM:tG mO:=(yy.on MarkS.At).lex (BS.on MarkS.Device)
theorem Js (a b:MarkS):iv a b=some (mO a b):=by
 unfold iv
 rw [jD]
 have h:mo [dZ a.At b.At,Lib.compareBytes a.Device b.Device]=some (rk [dZ a.At b.At,Lib.compareBytes a.Device b.Device]):=Ai _ (by simp)
 rw [h,V8];rfl
def MB (x:MarkS):Prop:=-4000000000000000000≤x.At∧x.At≤4000000000000000000
theorem Bn {a b:MarkS} (ha:MB a) (hb:MB b):kE a b=mO a b:=by
 unfold MB at ha hb
 unfold kE mO
 rw [bn (by omega) (by omega)]
 have e:Ee (a.At - b.At)=dZ a.At b.At:=by
  unfold Ee dZ
  repeat' split
  all_goals omega
 rw [e]
 by_cases h1:a.At=b.At
 ·have:dZ a.At b.At=0:=by unfold dZ;rw [if_neg (by omega),if_neg (by omega)]
  rw [if_neg (fun z:a.At≠b.At=>z h1),if_neg (fun z=>z this)]
 ·rw [if_pos h1,if_pos (fun h=>h1 (za h))]
theorem Hu:tG ig:=by
 have h:tG (fun a b:Version=>if (if dZ a.aA b.aA≠0 then dZ a.aA b.aA else dZ a.aD b.aD)≠0 then (if dZ a.aA b.aA≠0 then dZ a.aA b.aA else dZ a.aD b.aD) else dZ a.aF b.aF):=
  ((yy.on Version.aA).lex (yy.on Version.aD)).lex (yy.on Version.aF)
 have e:ig=fun a b:Version=>if (if dZ a.aA b.aA≠0 then dZ a.aA b.aA else dZ a.aD b.aD)≠0 then (if dZ a.aA b.aA≠0 then dZ a.aA b.aA else dZ a.aD b.aD) else dZ a.aF b.aF:=by
  funext a b
  unfold ig
  rw [YJ,V8]
 rw [e];exact h
def ZM:MarkS:=⟨0,[],0,⟨0,0,0⟩⟩
def Hv (x:DeviceS):Prop:=rj x.Key=false∨rj x.Model=false∨rj x.eR=false
instance (x:DeviceS):Decidable (Hv x):=by unfold Hv;infer_instance
def Al (p:Option DeviceS) (x:DeviceS):Bool:=match p with
 | none=>false
 | some q=>Op.bytesLess x.Key q.Key||x.Key==q.Key
def xm (p:Option DeviceS) (x:DeviceS):Int:=if Hv x then 5 else if Al p x=true then 7 else if mH x.bR=false then 1 else if (20:Int) < x.oF.length then 2 else 0
def sh (xs:List DeviceS):Int:=if (500:Int) < xs.length then 2 else Be xm none xs
theorem EJ {α:Type} (x:DeviceS) (f:Bool→α):(if (!rj x.Key)=true then f true else if (!rj x.Model)=true then f true else f (!rj x.eR))=f (decide (Hv x)):=by
 have h:∀ a b c:Bool,(if (!a)=true then f true else if (!b)=true then f true else f (!c))=f (decide (a=false∨b=false∨c=false)):=by
  intro a b c
  cases a<;>cases b<;>cases c<;>rfl
 rw [show decide (Hv x)=decide (rj x.Key=false∨rj x.Model=false∨rj x.eR=false) from decide_eq_decide.2 Iff.rfl]
 exact h _ _ _
theorem Ft (xs:List DeviceS):jZ xs=some (sh xs):=by
 unfold jZ sh
 split
 ·rfl
 ·rename_i hl
  unfold rC
  refine P7 xm xs _ (fun {i s} h0 h1 hs=>?_) (by show dN xs _=_;rw [dN,if_neg (by omega)];rfl)
  show dN xs i=_
  rw [dN,if_pos h1,hs]
  simp only [aa,EE]
  rw [EJ s (ey xs i s)]
  unfold ey xm
  by_cases hb:Hv s
  ·rw [decide_eq_true hb,if_pos rfl,if_pos hb];simp
  ·rw [decide_eq_false hb,if_neg ce,if_neg hb]
   have hj:(if 0 < i then (idx xs (bE (i - 1))).bind fun v10=>dM i s (Op.bytesLess s.Key v10.Key||s.Key==v10.Key) else dM i s false)=dM i s (Al (sN xs i) s):=by
    by_cases hi:0 < i
    ·obtain ⟨p,hp,_,_⟩:=gj xs (i:=i - 1) (by omega) (by omega)
     have Xw:sN xs i=some p:=by unfold sN;rw [if_neg (by omega),hp]
     rw [Xw,if_pos hi,bn (by omega) (by omega),hp];rfl
    ·have Xw:sN xs i=none:=by unfold sN;rw [if_pos (by omega)]
     rw [Xw,if_neg hi];rfl
   rw [hj]
   unfold dM
   rw [kH,bn (x:=i+1) (by omega) (by omega)]
   cases Al (sN xs i) s
   ·simp only [a6,if_false]
    cases mH s.bR
    ·simp
    ·simp only [bm,a6,if_false,ft]
     by_cases ht:(20:Int) < s.oF.length
     ·rw [if_pos ht,if_pos ht];simp
     ·rw [if_neg ht,if_neg ht];simp
   ·simp
def Mm (p:Option DeviceS):bj:=match p with
 | none=>[]
 | some n=>n.Key
theorem Qi {s:bj} (h:rj s=true):s≠[]:=by
 rintro rfl;simp [rj] at h
theorem C2 (xs:List DeviceS) (hl:(xs.length:Int)≤500):∀ (m i:Nat) (p:Option DeviceS),i+m=xs.length→qu xs (Mm p) i=some (Be xm p (xs.drop i)):=by
 intro m
 induction m with
 | zero=>
   intro i p hi
   unfold qu
   rw [iter_eq,lO,if_neg (by simp only;omega),bb,bo (by omega)]
   rfl
 | succ m ih=>
   intro i p hi
   obtain ⟨x,hx,zW,hd⟩:=gj xs (i:=(i:Int)) (by omega) (by omega)
   rw [show ((i:Int)).toNat=i by omega,show ((i:Int)+1).toNat=i+1 by omega] at hd
   have w1:bE ((i:Int)+1)=((i+1:Nat):Int):=by rw [bn]<;>omega
   have UH:=ih (i+1) (some x) (by omega)
   unfold qu at UH ⊢
   rw [iter_eq,lO,if_pos (by simp only;omega)]
   simp only [hx,aa,Hr,hd,Be]
   rw [EJ x (jW (Mm p) (i:Int) x)]
   unfold jW xm
   by_cases hb:Hv x
   ·rw [decide_eq_true hb,if_pos rfl,if_pos hb,if_neg (by omega)];rfl
   ·rw [decide_eq_false hb,if_neg ce,if_neg hb]
    have hk:rj x.Key=true:=by
     unfold Hv at hb
     cases h:rj x.Key with
     | true=>rfl
     | false=>exact absurd (.inl h) hb
    have hd2:(Op.bytesLess x.Key (Mm p)||x.Key==Mm p)=Al p x:=by
     cases p with
     | some p=>rfl
     | none=>
       have Aq:=Qi hk
       show (Op.bytesLess x.Key []||x.Key==[])=false
       cases hid:x.Key with
       | nil=>exact absurd hid Aq
       | cons a b=>rfl
    rw [hd2,Bl,w1]
    cases Al p x
    ·simp only [a6,if_false]
     cases mH x.bR
     ·simp [after]
     ·simp only [if_true,ne_eq,not_true_eq_false,if_false,ft]
      by_cases ht:(20:Int) < x.oF.length
      ·rw [if_pos ht,if_pos ht,if_neg (by omega)];rfl
      ·rw [if_neg ht,if_neg ht,if_pos rfl]
       simp only [aa,bD]
       exact UH
    ·simp [after]
theorem Fu (xs:List DeviceS):rK xs=some (sh xs):=by
 unfold rK sh
 split
 ·rfl
 ·rename_i hl
  have:=C2 xs (by omega) xs.length 0 none (by omega)
  rw [bp] at this
  exact this
theorem V9 (n lo hi:Int):(!(vd n lo hi))=fV n lo hi:=by
 rw [yA,uV,aw];simp [Int.not_le]
theorem Hw (c:Campaign):nZ c=dL c:=by
 unfold dL nZ
 rw [EE,Hr]
 simp only [aa]
 rw [kH,Bl,BV,Lm]
 have hl:qG c 0 0=iR c 0 0:=by
  unfold iR qG
  refine zb (fun s=>?_) _
  unfold et lp fW nJ iQ qF fX nK
  simp only [V9]
 unfold fY
 rw [hl]
 cases rj c.Key
 ·rfl
 ·simp only [bm,a6,if_false]
  cases mH c.Target
  ·simp
  ·simp only [if_true,ne_eq,not_true_eq_false,if_false,bm,fs]
def wN (l:List ml):Int:=(l.map ml.Part).sum
theorem Qj:∀ l:List ml,(∀ w∈l,1≤w.Part∧w.Part≤1000)→0≤wN l∧wN l≤1000 * l.length
 | [],_=>by simp [wN]
 | w :: l,h=>by
   have h1:=Qj l (fun x hx=>h x (bO _ hx))
   have h2:=h w (by simp)
   unfold wN at h1 ⊢
   rw [a7,dd,b9]
   omega
theorem NN {l:List ml} {n:Nat} (h:n < l.length):wN (l.take (n+1))=wN (l.take n)+l[n].Part:=by
 rw [fv h];unfold wN;rw [eg,List.sum_append,a7,fz,dd,List.sum_nil,Int.add_zero]
structure jj (c:Campaign):Prop where
 key:rj c.Key=true
 len:c.aI.length≤20
 part:∀ w∈c.aI,1≤w.Part∧w.Part≤1000
 sum:wN c.aI=1000
 UI:0≤c.At∧c.At≤345686399999
 wait:∀ w∈c.aI,0≤w.sx∧w.sx≤2592000000
 room:1≤c.Room∧c.Room≤500
 ah9:(0≤c.aZ.bF∧c.aZ.bF≤86400000)∧0≤c.aZ.To∧c.aZ.To≤86400000
 tgt:mH c.Target=true
theorem Fv (c:Campaign):Ok (dL c) (fun r=>r=0→jj c):=by
 unfold dL
 rw [EE]
 simp only [aa]
 cases hk:rj c.Key
 ·exact Ok.ret (fun h=>absurd h (by omega))
 ·rw [if_neg (by simp)]
  unfold fY
  split
  ·exact Ok.ret (fun h=>absurd h (by omega))
  ·rename_i Xe
   have abY:0≤c.At∧c.At≤345686399999:=by
    rw [BV] at Xe
    simp only [b8,not_or,f0,f9,ac,decide_eq_true_eq] at Xe
    exact Xe.2
   have abZ:mH c.Target=true:=by
    rw [BV] at Xe
    simp only [b8,not_or,f0,f9] at Xe
    rw [← kH];exact Xe.1
   split
   ·exact Ok.ret (fun h=>absurd h (by omega))
   ·split
    ·exact Ok.ret (fun h=>absurd h (by omega))
    ·rename_i hlen
     unfold iR
     refine Ok.iter (fun x:Int×Int=>(c.aI.length - x.2).toNat) (fun x:Int×Int=>0≤x.2∧x.2≤c.aI.length∧x.1=wN (c.aI.take x.2.toNat)∧∀ w∈c.aI.take x.2.toNat,(1≤w.Part∧w.Part≤1000)∧(0≤w.sx∧w.sx≤2592000000)) ?_ _ ⟨by simp,by simp,by simp [wN],by simp⟩
     rintro ⟨S,n⟩ ⟨g0,g1,g2,g3⟩
     simp only at g0 g1 g2 g3 ⊢
     have hS:=Qj _ (fun w hw=>(g3 w hw).1)
     rw [← g2] at hS
     have XG:(c.aI.take n.toNat).length≤20:=by simp;omega
     unfold et
     by_cases hn:n < c.aI.length
     ·rw [if_pos hn]
      obtain ⟨w,hw,hm,_⟩:=gj c.aI g0 hn
      obtain ⟨Iv,Oi⟩:=cp.1 (jX hw).2.2
      rw [hw]
      simp only [aa]
      unfold fW
      split
      ·exact Ok.inr (Ok.ret (fun h=>absurd h (by omega)))
      ·rename_i ho
       have hp:(1≤w.Part∧w.Part≤1000)∧(0≤w.sx∧w.sx≤2592000000):=by
        simp only [uV] at ho
        simp at ho
        omega
       refine Ok.ret ?_
       rw [bn (x:=S+w.Part) (by omega) (by omega),bn (x:=n+1) (by omega) (by omega)]
       refine ⟨⟨by simp only;omega,by simp only;omega,?_,?_⟩,by simp only;omega⟩
       ·simp only
        rw [show (n+1).toNat=n.toNat+1 by omega,NN Iv,Oi,g2]
       ·simp only
        intro y hy
        rw [show (n+1).toNat=n.toNat+1 by omega,fv Iv,Oi] at hy
        rcases List.mem_append.1 hy with e | e
        ·exact g3 y e
        ·rw [gc] at e;subst e;exact hp
     ·rw [if_neg hn]
      have hta:c.aI.take n.toNat=c.aI:=cn (by omega)
      rw [hta] at g2 g3
      refine Ok.inr ?_
      unfold iQ
      split
      ·exact Ok.ret (fun h=>absurd h (by omega))
      ·rename_i ahA
       unfold fX
       split
       ·exact Ok.ret (fun h=>absurd h (by omega))
       ·rename_i Mn
        simp only [uV] at Mn
        simp at Mn
        exact Ok.ret (fun _=>⟨hk,by omega,fun w hw=>(g3 w hw).1,by omega,abY,fun w hw=>(g3 w hw).2,by omega,by omega,abZ⟩)
def sk (h:Int) (c:UInt8):Int:=IntKind.u64.wrap (zS .u64 h (IntKind.u64.wrap (c.toNat:Int)) * 1099511628211)
def nu (h:Int) (s:bj):Int:=s.foldl sk h
def h0:Int:=14695981039346656037
theorem Jt (n:Int):0≤IntKind.u64.wrap n∧IntKind.u64.wrap n < 18446744073709551616:=by
 rw [IntKind.wrap_u64];omega
theorem Gi:∀ (s:bj) (h:Int),0≤h∧h < 18446744073709551616→0≤nu h s∧nu h s < 18446744073709551616
 | [],h,hh=>hh
 | c :: s,h,hh=>Gi s (sk h c) (Jt _)
theorem xor_zero {h:Int} (hh:0≤h∧h < 18446744073709551616):zS .u64 h 0=h:=by
 unfold zS
 have e:ek IntKind.u64.bits 0=0#(IntKind.u64.bits):=by decide
 rw [e,BitVec.xor_zero,IntKind.wrap_u64,BitVec.toNat_ofInt]
 show ((h % ((2 ^ 64:Nat):Int)).toNat:Int) % 18446744073709551616=h
 omega
theorem Ls {h:Int} (hh:0≤h∧h < 18446744073709551616):sk h 0=IntKind.u64.wrap (h * 1099511628211):=by
 unfold sk
 rw [show IntKind.u64.wrap (((0:UInt8).toNat:Nat):Int)=0 by decide,xor_zero hh]
theorem Mo (n4:Int) (s:bj) (hs:s.length≤1000):∀ (m i:Nat) (h:Int),i+m=s.length→uc n4 s h i=some (.inl (nu h (s.drop i),bE (n4+1))):=by
 intro m
 induction m with
 | zero=>
   intro i h hi
   unfold uc
   rw [iter_eq,pk,if_neg (by simp only;omega),bb,bo (by omega)]
   rfl
 | succ m ih=>
   intro i h hi
   obtain ⟨c,hc,_,hd⟩:=gj s (i:=(i:Int)) (by omega) (by omega)
   rw [show ((i:Int)).toNat=i by omega,show ((i:Int)+1).toNat=i+1 by omega] at hd
   have w1:bE ((i:Int)+1)=((i+1:Nat):Int):=by rw [bn]<;>omega
   have UH:=ih (i+1) (sk h c) (by omega)
   unfold uc at UH ⊢
   rw [iter_eq,pk,if_pos (by simp only;omega)]
   simp only [hc,aa,w1,bD,hd]
   exact UH
theorem Qk (a b:bj) (ha:a.length≤1000) (hb:b.length≤1000):wq [a,b]=some (nu (IntKind.u64.wrap (nu h0 a * 1099511628211)) b):=by
 unfold wq AX
 have e0:=Mo 0 a ha a.length 0 14695981039346656037 (by omega)
 have e1:=Mo 1 b hb b.length 0 (IntKind.u64.wrap (nu h0 a * 1099511628211)) (by omega)
 rw [iter_eq,nG,if_pos (by simp),show idx [a,b] 0=some a from rfl]
 simp only [aa]
 rw [if_neg (by omega)]
 unfold pn
 rw [show ((0:Nat):Int)=0 from rfl,bp] at e0
 rw [e0]
 simp only [aa,bD]
 rw [show bE (0+1)=1 by decide,iter_eq,nG,if_pos (by simp),show idx [a,b] 1=some b from rfl]
 simp only [aa]
 rw [if_pos (by omega)]
 unfold pn
 rw [show ((0:Nat):Int)=0 from rfl,bp] at e1
 rw [show nu 14695981039346656037 a=nu h0 a from rfl,e1]
 simp only [aa,bD]
 rw [show bE (1+1)=2 by decide,iter_eq,nG,if_neg (by simp),bb]
def xn (c:Campaign) (d:bj):Int:=bE ((zS .u64 (nu (IntKind.u64.wrap (nu h0 c.Key * 1099511628211)) d) (GX .u64 (nu (IntKind.u64.wrap (nu h0 c.Key * 1099511628211)) d) 32)).tmod 1000)
theorem Hx (c:Campaign) (d:bj) (h1:c.Key.length≤1000) (h2:d.length≤1000):nH c d=some (xn c d):=by
 unfold nH
 rw [Qk _ _ h1 h2];rfl
theorem Tl (s:bj) (hs:s.length≤3000):∀ (m i:Nat) (h:Int),i+m=s.length→A0 s h i=some (bE ((zS .u64 (nu h (s.drop i)) (GX .u64 (nu h (s.drop i)) 32)).tmod 1000)):=by
 have YK:(qE s).length=s.length:=by unfold qE;simp
 intro m
 induction m with
 | zero=>
   intro i h hi
   unfold A0
   rw [iter_eq,wB,if_neg (by simp only;omega),bb,bo (by omega)]
   rfl
 | succ m ih=>
   intro i h hi
   obtain ⟨c,hc,_,hd⟩:=gj s (i:=(i:Int)) (by omega) (by omega)
   have hcb:idx (qE s) (i:Int)=some (c.toNat:Int):=by
    unfold idx at hc ⊢
    rw [if_pos (by omega)] at hc ⊢
    unfold qE
    rw [dg,hc];rfl
   rw [show ((i:Int)).toNat=i by omega,show ((i:Int)+1).toNat=i+1 by omega] at hd
   have w1:bE ((i:Int)+1)=((i+1:Nat):Int):=by rw [bn]<;>omega
   have UH:=ih (i+1) (sk h c) (by omega)
   unfold A0 at UH ⊢
   rw [iter_eq,wB,if_pos (by simp only;omega)]
   simp only [hcb,aa,w1,bD,hd]
   exact UH
theorem Hy (c:Campaign) (d:bj) (h1:c.Key.length≤1000) (h2:d.length≤1000):Ed c d=some (xn c d):=by
 unfold Ed
 rw [Qd (by simp;omega)]
 simp only [aa]
 rw [Qd (by simp;omega)]
 simp only [aa]
 have e:=Tl (c.Key++[0]++d) (by simp;omega) (c.Key++[0]++d).length 0 h0 (by omega)
 have hh:nu h0 (c.Key++[0]++d)=nu (IntKind.u64.wrap (nu h0 c.Key * 1099511628211)) d:=by
  unfold nu
  rw [ai,ai,af,aJ]
  have:=Gi c.Key h0 (by unfold h0;omega)
  unfold nu at this
  rw [Ls this]
 rw [show ((0:Nat):Int)=0 from rfl,bp,hh] at e
 exact e
theorem Mp (c:Campaign) (d:bj):0≤xn c d∧xn c d < 1000:=by
 unfold xn
 have hx:=Jt ((ek IntKind.u64.bits (nu (IntKind.u64.wrap (nu h0 c.Key * 1099511628211)) d) ^^^ ek IntKind.u64.bits (GX .u64 (nu (IntKind.u64.wrap (nu h0 c.Key * 1099511628211)) d) 32)).toNat:Int)
 change 0≤zS .u64 _ _∧zS .u64 _ _ < _ at hx
 have a1:=Int.tmod_nonneg 1000 hx.1
 have a2:=d4 (zS .u64 (nu (IntKind.u64.wrap (nu h0 c.Key * 1099511628211)) d) (GX .u64 (nu (IntKind.u64.wrap (nu h0 c.Key * 1099511628211)) d) 32)) (show (0:Int) < 1000 by omega)
 rw [bn (by omega) (by omega)]
 exact ⟨a1,a2⟩
theorem Tm (c:Campaign) (hc:jj c) (v:Int) (hv:v < 1000):∀ (m k:Nat) (S:Int),k+m=c.aI.length→0≤S→S≤v→S+wN (c.aI.drop k)=1000→∃ j,ln c v S k=some j∧yq c (v - S) k=some j:=by
 have hlen:=hc.len
 intro m
 induction m with
 | zero=>
   intro k S hk h1 h2 h3
   rw [bo (by omega)] at h3
   simp [wN] at h3
   omega
 | succ m ih=>
   intro k S hk h1 h2 h3
   obtain ⟨w,hw,hm,hd⟩:=gj c.aI (i:=(k:Int)) (by omega) (by omega)
   rw [show ((k:Int)).toNat=k by omega,show ((k:Int)+1).toNat=k+1 by omega] at hd
   have hp:=hc.part w hm
   have w1:bE ((k:Int)+1)=((k+1:Nat):Int):=by rw [bn]<;>omega
   have h4:S+w.Part+wN (c.aI.drop (k+1))=1000:=by
    rw [hd] at h3
    unfold wN at h3 ⊢
    rw [a7,dd] at h3
    omega
   unfold ln yq
   rw [iter_eq,iter_eq,jf,tw,if_pos (by simp only;omega),if_pos (by simp only;omega),hw]
   simp only [aa]
   rw [bn (x:=S+w.Part) (by omega) (by omega),bn (x:=v - S - w.Part) (by omega) (by omega),w1]
   by_cases hq:v < S+w.Part
   ·rw [if_pos hq,if_pos (by omega)]
    exact ⟨k,rfl,rfl⟩
   ·rw [if_neg hq,if_neg (by omega)]
    simp only [aa,bD]
    have:=ih (k+1) (S+w.Part) (by omega) (by omega) (by omega) h4
    rw [show v - S - w.Part=v - (S+w.Part) by omega]
    exact this
theorem wP {s:bj} (h:rj s=true):s.length≤40:=by
 cases s with
 | nil=>simp
 | cons c r=>rw [wL] at h;simp at h;simp;omega
def B40 (n:Int):Prop:=-1099511627777≤n∧n≤1099511627777
theorem C3 {s:zr} {K:Int} (hs:vS s K) (hK:40≤K):sq (jv s) (K - 40) (fun c=>B40 c.At∧c.aI.length≤10):=by
 refine sq.of ?_
 unfold jv
 refine Ok.gen (ED hs (by omega) (by simp) (by simp)) (fun q s1 hq q1=>?_)
 refine Ok.gen (nt q1 (by omega) (by simp) (by simp)) (fun a s2 ha q2=>?_)
 refine Ok.gen (nt q2 (by omega) (by simp) (by simp)) (fun b s3 hb q3=>?_)
 refine Ok.gen (nt q3 (by omega) (by simp) (by simp)) (fun d s4 hd q4=>?_)
 refine Ok.gen (Ak q4 (by omega) (by omega) (by omega)) (fun e s5 he q5=>?_)
 refine Ok.idx he.1 (by simpa using he.2) (fun ps Sg WT=>?_)
 have UU:ps.length≤3:=by
  simp only [ad,e9,or_false] at WT
  rcases WT with h | h | h | h<;>subst h<;>simp
 have hbB:B40 b:=by simp at hb;unfold B40;omega
 dsimp only
 unfold qS
 refine Ok.iter (fun x:List Int×Int×List ml×Int=>(ps.length - x.2.2.2).toNat) (fun x:List Int×Int×List ml×Int=>0≤x.2.2.2∧x.2.2.2≤ps.length∧vS ⟨x.1,x.2.1⟩ (K - 37+3 * (ps.length - x.2.2.2))∧(x.2.2.1.length:Int)=x.2.2.2) ?_ _ ⟨by simp,by simp,q5.less (by simp only;omega),by simp⟩
 rintro ⟨L,a2,l,n⟩ ⟨g0,g1,g2,g3⟩
 simp only at g0 g1 g2 g3 ⊢
 unfold gR
 by_cases hn:n < ps.length
 ·rw [if_pos hn]
  refine Ok.idx g0 hn (fun p hp _=>?_)
  refine Ok.gen (nt g2 (by omega) (by simp) (by simp)) (fun u s6 _ q6=>?_)
  refine Ok.gen (nt q6 (by omega) (by simp) (by simp)) (fun v s7 _ q7=>?_)
  refine Ok.gen (nt q7 (by omega) (by simp) (by simp)) (fun w s8 _ q8=>?_)
  refine Ok.app (by simp;omega) ?_
  refine Ok.ret ?_
  rw [bn (by omega) (by omega)]
  exact ⟨⟨by simp only;omega,by simp only;omega,q8.less (by simp only;omega),by simp;omega⟩,by simp only;omega⟩
 ·rw [if_neg hn]
  refine Ok.inr ?_
  unfold mM gQ
  refine Ok.gen (uT g2 (by omega) (by omega) (by omega)) (fun c s6 _ q6=>?_)
  dsimp only
  split
  ·refine Ok.gen (nt q6 (by omega) (by simp) (by simp)) (fun u s7 _ q7=>?_)
   refine Ok.gen (nt q7 (by omega) (by simp) (by simp)) (fun v s8 _ q8=>?_)
   exact Ok.ret ⟨⟨hbB,by simp only;omega⟩,q8.less (by omega)⟩
  ·exact Ok.ret ⟨⟨hbB,by simp only;omega⟩,q6.less (by omega)⟩
theorem Gj {s:zr} {K:Int} (hs:vS s K) (hK:10≤K):sq (fB s) (K - 10) (fun _=>True):=by
 refine sq.of ?_
 unfold fB jJ
 have hr:sq (gi s) (K - 3) (fun _=>True):=by
  refine sq.of ?_
  unfold gi
  refine Ok.gen (Hq hs (by omega) (by omega) (by omega) (by omega)) (fun a s1 _ q1=>?_)
  refine Ok.gen (nt q1 (by omega) (by simp) (by simp)) (fun b s2 _ q2=>?_)
  refine Ok.gen (nt q2 (by omega) (by simp) (by simp)) (fun d s3 _ q3=>?_)
  exact Ok.ret ⟨trivial,q3.less (by omega)⟩
 refine Ok.gen hr (fun v s1 _ q1=>?_)
 refine Ok.gen (uT q1 (by omega) (by omega) (by omega)) (fun c s2 _ q2=>?_)
 dsimp only
 split
 ·refine Ok.gen (uU q2 (by omega) (by omega) (by omega) (by omega)) (fun b s3 _ q3=>?_)
  refine Ok.gen (uU q3 (by omega) (by omega) (by omega) (by omega)) (fun d s4 _ q4=>?_)
  exact Ok.ret ⟨trivial,q4.less (by omega)⟩
 ·exact Ok.ret ⟨trivial,q2.less (by omega)⟩
theorem Lt {s:zr} {K:Int} (hs:vS s K) (hK:70≤K):sq (nV s) (K - 70) (fun c=>B40 c.At):=by
 refine sq.of ?_
 unfold nV lh lg lf kZ kY kX
 refine Ok.gen (C3 hs (by omega)) (fun c s1 hc q1=>?_)
 have Kb:=hc.1
 refine Ok.gen (uT q1 (by omega) (by omega) (by omega)) (fun b s2 _ q2=>?_)
 dsimp only
 split
 ·refine Ok.gen (Ak q2 (by omega) (by omega) (by omega)) (fun n s3 _ q3=>?_)
  dsimp only
  split
  ·refine Ok.gen (ED q3 (by omega) (by simp) (by simp)) (fun q s4 _ q4=>?_)
   exact Ok.ret ⟨Kb,q4.less (by omega)⟩
  ·split
   ·refine Ok.gen (Gj q3 (by omega)) (fun q s4 _ q4=>?_)
    exact Ok.ret ⟨Kb,q4.less (by omega)⟩
   ·split
    ·refine Ok.gen (uU q3 (by omega) (by omega) (by omega) (by omega)) (fun q s4 hq q4=>?_)
     exact Ok.ret ⟨hq,q4.less (by omega)⟩
    ·split
     ·refine Ok.gen (uU q3 (by omega) (by omega) (by omega) (by omega)) (fun u s4 _ q4=>?_)
      refine Ok.gen (uU q4 (by omega) (by omega) (by omega) (by omega)) (fun v s5 _ q5=>?_)
      refine Ok.gen (uU q5 (by omega) (by omega) (by omega) (by omega)) (fun w s6 _ q6=>?_)
      refine Ok.gen (uU q6 (by omega) (by omega) (by omega) (by omega)) (fun x s7 _ q7=>?_)
      dsimp only
      refine Ok.app (by have:=hc.2;simp;omega) ?_
      exact Ok.ret ⟨Kb,q7.less (by omega)⟩
     ·split
      ·refine Ok.gen (uU q3 (by omega) (by omega) (by omega) (by omega)) (fun u s4 _ q4=>?_)
       refine Ok.gen (uU q4 (by omega) (by omega) (by omega) (by omega)) (fun v s5 _ q5=>?_)
       exact Ok.ret ⟨Kb,q5.less (by omega)⟩
      ·refine Ok.gen (uU q3 (by omega) (by omega) (by omega) (by omega)) (fun u s4 _ q4=>?_)
       exact Ok.ret ⟨Kb,q4.less (by omega)⟩
 ·exact Ok.ret ⟨Kb,q2.less (by omega)⟩
def Ql (k:Int) (off:Version) (m:MarkS):Bool:=
 if m.Kind=1 then decide (k=0∨k=3∨k=4) else if m.Kind=2∨m.Kind=5 then decide (k=1∧m.Version=off) else decide (k=2∧m.Version=off)
def zc (x:aq) (m:MarkS):aq:=
 ⟨⟨m.Kind,m.At,if m.Kind=3 then m.Version else x.an.Version,if m.Kind=4 then bE (x.an.ed+1) else x.an.ed⟩,m.Version⟩
def Ju (x:aq) (m:MarkS):Bool:=Ql x.an.Kind x.aX m
def zt (x:aq) (m:MarkS):aq:=if Ju x m=true then zc x m else x
def x0 (d:DeviceS):aq:=⟨⟨0,0,d.bR,0⟩,⟨0,0,0⟩⟩
theorem NO (x:aq) (m:MarkS) (b:Bool):eu x m b=if b=true then (true,zc x m) else (false,x):=by
 unfold eu ga fZ zc
 cases b
 ·rfl
 ·simp only [bm,a6,if_false,if_true]
  by_cases h3:m.Kind=3
  ·rw [if_pos h3,if_pos h3,if_neg (by omega)]
  ·rw [if_neg h3,if_neg h3]
   by_cases h4:m.Kind=4
   ·rw [if_pos h4,if_pos h4]
   ·rw [if_neg h4,if_neg h4]
theorem follow_eq (x:aq) (m:MarkS):aU x m=if Ju x m=true then (true,zc x m) else (false,x):=by
 unfold aU iS gd iT iU gb
 simp only [NO]
 unfold Ju Ql
 by_cases h1:m.Kind=1
 ·rw [if_pos h1,if_pos h1]
  rw [show (decide (x.an.Kind=0)||(decide (x.an.Kind=3)||decide (x.an.Kind=4)))=decide (x.an.Kind=0∨x.an.Kind=3∨x.an.Kind=4) by rw [aw];simp]
 ·rw [if_neg h1,if_neg h1]
  by_cases h2:m.Kind=2
  ·rw [if_pos h2,if_pos (Or.inl h2),if_pos (by simp [h2])]
   rw [show (decide (x.an.Kind=1)&&decide (m.Version=x.aX))=decide (x.an.Kind=1∧m.Version=x.aX) by rw [aw];simp]
  ·rw [if_neg h2]
   by_cases h5:m.Kind=5
   ·rw [if_pos (Or.inr h5),if_pos (by simp [h5])]
    rw [show (decide (x.an.Kind=1)&&decide (m.Version=x.aX))=decide (x.an.Kind=1∧m.Version=x.aX) by rw [aw];simp]
   ·rw [if_neg (show ¬ decide (m.Kind=5)=true by simp [h5]),if_neg (show ¬ (m.Kind=2∨m.Kind=5) by omega)]
    rw [show (decide (x.an.Kind=2)&&decide (m.Version=x.aX))=decide (x.an.Kind=2∧m.Version=x.aX) by rw [aw];simp]
theorem Qm (x:aq) (m:MarkS):(aU x m).1=Ju x m:=by
 rw [follow_eq];split
 ·rename_i h;rw [h]
 ·rename_i h;simp only [fd] at h;rw [h]
theorem EK (x:aq) (m:MarkS):(aU x m).2=zt x m:=by
 rw [follow_eq];unfold zt;split<;>rfl
def qK (c:Campaign) (k:bj) (m:MarkS):Bool:=decide (m.Device=k)&&decide (c.At≤m.At)
def si (c:Campaign) (k:bj) (at_:Int) (m:MarkS):Bool:=decide (m.Device=k)&&(decide (c.At≤m.At)&&decide (m.At≤at_))
def xW (c:Campaign) (d:DeviceS) (l:List MarkS) (at_:Int):aq:=(l.filter (si c d.Key at_)).foldl zt (x0 d)
def lL (l:List MarkS):Int×Version:=match l.getLast? with
 | some m=>(m.Kind,m.Version)
 | none=>(0,⟨0,0,0⟩)
def uX (l:List MarkS) (m:MarkS):List MarkS:=if Ql (lL l).1 (lL l).2 m=true then l++[m] else l
theorem Dl:∀ (ms A:List MarkS) (d:DeviceS) (x:aq),x=A.foldl zc (x0 d)→(x.an.Kind,x.aX)=lL A→ms.foldl zt x=(ms.foldl uX A).foldl zc (x0 d)
 | [],A,d,x,h,_=>h
 | m :: r,A,d,x,h,hk=>by
   rw [af,af]
   have e:Ju x m=Ql (lL A).1 (lL A).2 m:=by unfold Ju;rw [← hk]
   by_cases ho:Ql (lL A).1 (lL A).2 m=true
   ·rw [show uX A m=A++[m] by unfold uX;rw [if_pos ho],show zt x m=zc x m by unfold zt;rw [e,if_pos ho]]
    refine Dl r (A++[m]) d _ ?_ ?_
    ·rw [ai,← h];rfl
    ·unfold lL;rw [dk];rfl
   ·rw [show uX A m=A by unfold uX;rw [if_neg ho],show zt x m=x by unfold zt;rw [e,if_neg ho]]
    exact Dl r A d x h hk
theorem Qn (x:Int):(dF [0,3,4] x=some (decide (x=0∨x=3∨x=4)))∧(∀ a,dF [a] x=some (decide (x=a))):=by
 constructor
 ·unfold dF jz na
  rw [iter_eq,cO,if_pos (by decide),show idx [(0:Int),3,4] 0=some 0 from rfl]
  simp only [aa]
  by_cases h0:x=0
  ·rw [if_pos h0,bb];simp [h0]
  ·rw [if_neg h0,aa,bD,iter_eq,cO,show bE (0+1)=1 from rfl,if_pos (by decide),show idx [(0:Int),3,4] 1=some 3 from rfl]
   simp only [aa]
   by_cases h3:x=3
   ·rw [if_pos h3,bb];simp [h3]
   ·rw [if_neg h3,aa,bD,iter_eq,cO,show bE (1+1)=2 from rfl,if_pos (by decide),show idx [(0:Int),3,4] 2=some 4 from rfl]
    simp only [aa]
    by_cases h4:x=4
    ·rw [if_pos h4,bb];simp [h4]
    ·rw [if_neg h4,aa,bD,iter_eq,cO,show bE (2+1)=3 from rfl,if_neg (by decide),bb];simp [h0,h3,h4]
 ·intro a
  unfold dF jz na
  rw [iter_eq,cO,if_pos (by simp),show idx [a] 0=some a from rfl]
  simp only [aa]
  by_cases h0:x=a
  ·rw [if_pos h0,bb];simp [h0]
  ·rw [if_neg h0,aa,bD,iter_eq,cO,show bE (0+1)=1 from rfl,if_neg (by simp),bb];simp [h0]
theorem Tn (k:Int) (hk:1≤k∧k≤5):oJ (ca (ca (ca (ca (ca ([]:List (Int×(List Int))) (1:Int) [(0:Int),(3:Int),(4:Int)]) (2:Int) [(1:Int)]) (5:Int) [(1:Int)]) (3:Int) [(2:Int)]) (4:Int) [(2:Int)]) k []=some (if k=1 then [0,3,4] else if k=2∨k=5 then [1] else [2]):=by
 have:k=1∨k=2∨k=3∨k=4∨k=5:=by omega
 unfold oJ
 simp only [iH,yz]
 rcases this with h | h | h | h | h<;>subst h<;>simp
theorem Cy (l6:List MarkS) (n7:Int) (q:MarkS) (a:Int) (b:bj) (k x y z:Int) (hq:1≤q.Kind∧q.Kind≤5) (hl:(l6.length:Int)≤1000000):oo l6 n7 q a b k x y z=some (.inl (if Ql k ⟨x,y,z⟩ q=true then l6++[q] else l6,bE (n7+1))):=by
 unfold oo
 rw [Tn q.Kind hq]
 simp only [aa]
 have hc:dF (if q.Kind=1 then [0,3,4] else if q.Kind=2∨q.Kind=5 then [1] else [2]) k=some (if q.Kind=1 then decide (k=0∨k=3∨k=4) else if q.Kind=2∨q.Kind=5 then decide (k=1) else decide (k=2)):=by
  split
  ·exact (Qn k).1
  ·split
   ·exact (Qn k).2 1
   ·exact (Qn k).2 2
 rw [hc]
 simp only [aa]
 have e:((if q.Kind=1 then decide (k=0∨k=3∨k=4) else if q.Kind=2∨q.Kind=5 then decide (k=1) else decide (k=2))&&(decide (q.Kind=1)||decide (q.Version=⟨x,y,z⟩)))=Ql k ⟨x,y,z⟩ q:=by
  unfold Ql
  split
  ·rename_i h;simp [h]
  ·rename_i h
   split
   ·simp [h]
   ·simp [h]
 rw [e]
 unfold sW pW om
 split
 ·rw [lx (by simp;omega)];rfl
 ·rfl
theorem zJ (c:Campaign) (k:bj) (l:List MarkS) (at_:Int) (hl:(l.length:Int)≤100000) (hK:∀ q∈l,1≤q.Kind∧q.Kind≤5):∀ (m n:Nat) (A:List MarkS),n+m=l.length→A.length≤n→
 sX c k l at_ A (n:Int)=some (((l.drop n).filter (si c k at_)).foldl uX A)
 | 0,n,A,h,ha=>by
   unfold sX
   rw [iter_eq,oq,if_neg (by simp only;omega),bo (by omega),bb]
   rfl
 | m+1,n,A,h,ha=>by
   obtain ⟨q,hq,Tp,hd⟩:=gj l (i:=(n:Int)) (by omega) (by omega)
   rw [show ((n:Int)).toNat=n by omega,show ((n:Int)+1).toNat=n+1 by omega] at hd
   have w1:bE ((n:Int)+1)=((n+1:Nat):Int):=by rw [bn]<;>omega
   have ih:=fun A ha=>zJ c k l at_ hl hK m (n+1) A (by omega) ha
   unfold sX at ih ⊢
   rw [iter_eq,oq,if_pos (by simp only;omega),hd,al]
   simp only
   rw [hq]
   simp only [aa]
   rw [show (decide (q.Device≠k)||(decide (q.At < c.At)||decide (at_ < q.At)))=!(si c k at_ q) by unfold si;rw [aw];simp [Int.not_le]]
   unfold mr
   by_cases hr:si c k at_ q=true
   ·rw [if_neg (by simp [hr]),if_pos hr,af]
    have last:mr A (n:Int) q false=some (.inl (uX A q,bE ((n:Int)+1))):=by
     unfold mr
     rw [if_neg (by simp)]
     rcases ge A with rfl | ⟨B,p,rfl⟩
     ·rw [if_neg (by decide),Cy _ _ _ _ _ _ _ _ _ (hK q Tp) (by simp)];rfl
     ·rw [List.concat_eq_append] at ha ⊢
      rw [bW,cs] at ha
      have wl:bE (((B++[p]).length:Int) - 1)=(B.length:Int):=by rw [bW,cs,bn]<;>omega
      rw [wl,if_pos (by omega),Hl B p [] rfl]
      simp only [aa]
      rw [Cy _ _ _ _ _ _ _ _ _ (hK q Tp) (by simp;omega)]
      unfold uX lL
      rw [dk]
    unfold mr at last
    rw [if_neg (by simp)] at last
    rw [last]
    simp only [aa,bD]
    rw [w1]
    refine ih _ ?_
    unfold uX;split
    ·simp;omega
    ·omega
   ·rw [if_pos (by simp [hr]),if_neg hr]
    unfold om
    simp only [aa,bD]
    rw [w1]
    exact ih A (by omega)
theorem yC (c:Campaign) (k:bj) (l:List MarkS) (at_:Int) (hl:(l.length:Int)≤100000) (hK:∀ q∈l,1≤q.Kind∧q.Kind≤5):qH c k l at_=some ((l.filter (si c k at_)).foldl uX []):=by
 have:=zJ c k l at_ hl hK l.length 0 [] (by simp) (by simp)
 rw [bp] at this
 exact this
theorem Bo:∀ (ms A:List MarkS),(ms.foldl uX A).length≤A.length+ms.length
 | [],A=>by simp
 | m :: r,A=>by
   rw [af]
   have:=Bo r (uX A m)
   have:(uX A m).length≤A.length+1:=by unfold uX;split<;>simp
   rw [b9];omega
theorem zK (v:List MarkS) (hl:(v.length:Int)≤100000):∀ (m n:Nat) (x:aq),n+m=v.length→
 sY v x.an.Kind x.an.Since x.an.Version.aA x.an.Version.aD x.an.Version.aF x.an.ed (n:Int)=some ((v.drop n).foldl zc x).an
 | 0,n,x,h=>by
   unfold sY
   rw [iter_eq,ot,if_neg (by simp only;omega),bo (by omega),bb]
   rfl
 | m+1,n,x,h=>by
   obtain ⟨q,hq,Tp,hd⟩:=gj v (i:=(n:Int)) (by omega) (by omega)
   rw [show ((n:Int)).toNat=n by omega,show ((n:Int)+1).toNat=n+1 by omega] at hd
   have w1:bE ((n:Int)+1)=((n+1:Nat):Int):=by rw [bn]<;>omega
   have ih:=zK v hl m (n+1) (zc x q) (by omega)
   unfold sY at ih ⊢
   rw [iter_eq,ot,if_pos (by simp only;omega),hd,af]
   simp only
   rw [hq]
   simp only [aa]
   unfold pY pX
   rw [w1]
   by_cases h3:q.Kind=3
   ·rw [show zc x q=⟨⟨q.Kind,q.At,q.Version,x.an.ed⟩,q.Version⟩ by unfold zc;rw [if_pos h3,if_neg (by omega)]] at ih ⊢
    rw [if_pos h3]
    simp only [aa,bD]
    exact ih
   ·rw [if_neg h3]
    by_cases h4:q.Kind=4
    ·rw [show zc x q=⟨⟨q.Kind,q.At,x.an.Version,bE (x.an.ed+1)⟩,q.Version⟩ by unfold zc;rw [if_neg h3,if_pos h4]] at ih ⊢
     rw [if_pos h4]
     simp only [aa,bD]
     exact ih
    ·rw [show zc x q=⟨⟨q.Kind,q.At,x.an.Version,x.an.ed⟩,q.Version⟩ by unfold zc;rw [if_neg h3,if_neg h4]] at ih ⊢
     rw [if_neg h4]
     simp only [aa,bD]
     exact ih
theorem yD (c:Campaign) (d:DeviceS) (l:List MarkS) (at_:Int) (hl:(l.length:Int)≤10000) (hK:∀ q∈l,1≤q.Kind∧q.Kind≤5):qI c d l at_=some (xW c d l at_).an:=by
 unfold qI
 rw [yC c d.Key l at_ (by omega) hK]
 simp only [aa]
 have hx:=Bo (l.filter (si c d.Key at_)) []
 have hf:=bX (si c d.Key at_) l
 have:=zK ((l.filter (si c d.Key at_)).foldl uX []) (by simp at hx;omega) _ 0 (x0 d) (cl _)
 rw [bp] at this
 unfold xW
 rw [Dl _ [] d (x0 d) rfl rfl]
 exact this
abbrev CS:=aB
theorem oP {α:Type} {xs:List α} {i:Nat} {x:α} (h:xs[i]? =some x):idx xs (i:Int)=some x:=by
 unfold idx;rw [if_pos (by omega)];simpa using h
theorem NP (c:Campaign) (hc:jj c) (v:Int) (hv:v < 1000):∀ (m k:Nat) (S:Int),k+m=c.aI.length→0≤S→S≤v→S+wN (c.aI.drop k)=1000→∃ j:Int,ln c v S k=some j∧0≤j∧j < c.aI.length:=by
 have hlen:=hc.len
 intro m
 induction m with
 | zero=>
   intro k S hk h1 h2 h3
   rw [bo (by omega)] at h3
   simp [wN] at h3
   omega
 | succ m ih=>
   intro k S hk h1 h2 h3
   obtain ⟨w,hw,hm,hd⟩:=gj c.aI (i:=(k:Int)) (by omega) (by omega)
   rw [show ((k:Int)).toNat=k by omega,show ((k:Int)+1).toNat=k+1 by omega] at hd
   have hp:=hc.part w hm
   have w1:bE ((k:Int)+1)=((k+1:Nat):Int):=by rw [bn]<;>omega
   have h4:S+w.Part+wN (c.aI.drop (k+1))=1000:=by
    rw [hd] at h3
    unfold wN at h3 ⊢
    rw [a7,dd] at h3
    omega
   unfold ln
   rw [iter_eq,jf,if_pos (by simp only;omega),hw]
   simp only [aa]
   rw [bn (x:=S+w.Part) (by omega) (by omega),w1]
   by_cases hq:v < S+w.Part
   ·rw [if_pos hq]
    exact ⟨k,rfl,by omega,by omega⟩
   ·rw [if_neg hq]
    simp only [aa,bD]
    exact ih (k+1) (S+w.Part) (by omega) (by omega) (by omega) h4
noncomputable def pG (c:Campaign) (k:bj):Nat:=((gJ c k).getD 0).toNat
theorem Bp (c:Campaign) (hc:jj c) (k:bj) (hk:rj k=true):gJ c k=some (pG c k:Int)∧pG c k < c.aI.length:=by
 have h1:=wP hc.key
 have h2:=wP hk
 have YL:=Mp c k
 obtain ⟨j,j1,j2,j3⟩:=NP c hc (xn c k) YL.2 c.aI.length 0 0 (by omega) (by omega) YL.1 (by rw [bp,hc.sum];rfl)
 have e:gJ c k=some j:=by
  unfold gJ
  rw [Hx c k (by omega) (by omega)]
  exact j1
 unfold pG
 rw [e,dl]
 exact ⟨by rw [show ((j.toNat:Nat):Int)=j by omega],by omega⟩
structure jE (l:List DeviceS):Prop where
 key:∀ d∈l,rj d.Key=true
 Qo:(l.map DeviceS.Key).Nodup
def cC:List DeviceS→Nat→List (bj×Int)
 | [],_=>[]
 | d :: r,k=>(d.Key,(k:Int)) :: cC r (k+1)
theorem Gk (d:DeviceS):∀ (l:List DeviceS) (k:Nat),cC (l++[d]) k=cC l k++[(d.Key,((k+l.length:Nat):Int))]
 | [],k=>by simp [cC]
 | x :: r,k=>by
   rw [d9,cC,Gk d r (k+1),cC,d9,b9,show k+1+r.length=k+(r.length+1) by omega]
theorem Jv:∀ (l:List DeviceS) (k:Nat),(cC l k).map cv=l.map DeviceS.Key
 | [],_=>rfl
 | d :: r,k=>by rw [cC,a7,Jv r (k+1),a7]
theorem Bq:∀ (l:List DeviceS) (k:Nat) (e:bj×Int),e∈cC l k→∃ i d,l[i]? =some d∧e=(d.Key,((k+i:Nat):Int))
 | [],_,e,h=>by cases h
 | d :: r,k,e,h=>by
   rw [cC] at h
   rcases ad.1 h with h | h
   ·exact ⟨0,d,rfl,h⟩
   ·obtain ⟨i,x,h1,h2⟩:=Bq r (k+1) e h
    exact ⟨i+1,x,by simpa using h1,by rw [h2,show k+1+i=k+(i+1) by omega]⟩
theorem Mq:∀ (l:List DeviceS) (k i:Nat) (d:DeviceS),l[i]? =some d→(d.Key,((k+i:Nat):Int))∈cC l k
 | [],_,i,d,h=>by simp at h
 | x :: r,k,0,d,h=>by simp at h;subst h;rw [cC];exact ds
 | x :: r,k,i+1,d,h=>by
   rw [cC]
   refine bO _ ?_
   have:=Mq r (k+1) i d (by simpa using h)
   rw [show k+(i+1)=k+1+i by omega];exact this
noncomputable def Jw (c:Campaign) (l:List DeviceS):List (bj×Int):=l.map fun d=>(d.Key,(pG c d.Key:Int))
noncomputable def jk (c:Campaign) (dn:List MarkS) (d:DeviceS):aq:=(dn.filter (qK c d.Key)).foldl zt (x0 d)
structure SI (c:Campaign) (fl:List DeviceS) (s:CS) (dn:List MarkS):Prop where
 c_:s.c_=c
 nw:s.nw.Perm (cC fl 0)
 cL:s.cL.Perm (Jw c fl)
 kd:s.kd=fl.map (jk c dn)
 open_:s.open_.length=c.aI.length
 bt:s.bt.length=c.aI.length
 aY:s.aY.length=c.aI.length
 bg:s.aN.length≤c.aI.length
 nx:0≤s.cw→s.aN.length < c.aI.length
theorem yE (st:CS) (T:Int) (l5:List Int) (n6 n10:Int) (hw:st.open_.length=st.c_.aI.length) (hW:st.c_.aI.length≤20) (h1:l5.length≤st.c_.aI.length) (h2:0≤n10→l5.length < st.c_.aI.length):
 Ok (bS st T l5 n10) (Rz (fun x:List Int×Int=>st.c_.aI.length - x.1.length) (fun x:List Int×Int=>x.1.length≤st.c_.aI.length∧(0≤x.2→x.1.length < st.c_.aI.length)) (fun r:CS=>∃ bs nx,r={st with aN:=bs,cw:=nx}∧bs.length≤st.c_.aI.length∧(0≤nx→bs.length < st.c_.aI.length)) (l5,n6)):=by
 unfold bS fu
 split
 ·exact Ok.inr (Ok.ret ⟨l5,n10,rfl,h1,h2⟩)
 ·rename_i hc
  simp only [b8,decide_eq_true_eq,not_or] at hc
  have eI:=h2 (by omega)
  refine Ok.app (by simp;omega) ?_
  have w1:bE ((l5.length:Int)+1)=((l5.length+1:Nat):Int):=by rw [bn]<;>omega
  rw [w1]
  have j5:∀ n17:Int,(0≤n17→l5.length+1 < st.c_.aI.length)→Ok (cM (l5++[n10]) n17) (Rz (fun x:List Int×Int=>st.c_.aI.length - x.1.length) (fun x:List Int×Int=>x.1.length≤st.c_.aI.length∧(0≤x.2→x.1.length < st.c_.aI.length)) (fun r:CS=>∃ bs nx,r={st with aN:=bs,cw:=nx}∧bs.length≤st.c_.aI.length∧(0≤nx→bs.length < st.c_.aI.length)) (l5,n6)):=by
   intro n17 h
   unfold cM
   exact Ok.ret ⟨⟨by simp;omega,fun h'=>by simp only [bW,cs];exact h h'⟩,by simp;omega⟩
  split
  ·rename_i hk
   refine Ok.idx (by omega) (by omega) (fun v _ _=>?_)
   unfold cN
   rw [w1]
   split
   ·refine Ok.idx (by omega) hk (fun v _ _=>?_)
    exact j5 _ (fun _=>by omega)
   ·exact j5 _ (fun h=>absurd h (by omega))
  ·unfold cN
   rw [if_neg (by simp)]
   exact j5 _ (fun h=>absurd h (by omega))
theorem Qp (st:CS) (T:Int) (hw:st.open_.length=st.c_.aI.length) (hW:st.c_.aI.length≤20) (h1:st.aN.length≤st.c_.aI.length) (h2:0≤st.cw→st.aN.length < st.c_.aI.length):
 Ok (cF st T) (fun r:CS=>∃ bs nx,r={st with aN:=bs,cw:=nx}∧bs.length≤st.c_.aI.length∧(0≤nx→bs.length < st.c_.aI.length)):=by
 unfold cF jM
 refine Ok.iter (fun x:List Int×Int=>st.c_.aI.length - x.1.length) (fun x:List Int×Int=>x.1.length≤st.c_.aI.length∧(0≤x.2→x.1.length < st.c_.aI.length)) ?_ _ ⟨h1,h2⟩
 rintro ⟨l5,n6⟩ ⟨g1,g2⟩
 simp only at g1 g2 ⊢
 have Mr:Ok (bJ st T l5 n6 false) (Rz (fun x:List Int×Int=>st.c_.aI.length - x.1.length) (fun x:List Int×Int=>x.1.length≤st.c_.aI.length∧(0≤x.2→x.1.length < st.c_.aI.length)) (fun r:CS=>∃ bs nx,r={st with aN:=bs,cw:=nx}∧bs.length≤st.c_.aI.length∧(0≤nx→bs.length < st.c_.aI.length)) (l5,n6)):=by
  unfold bJ
  rw [if_neg (by simp)]
  exact yE st T l5 n6 n6 hw hW g1 g2
 unfold bK
 split
 ·split
  ·rename_i hp
   have w1:bE ((l5.length:Int) - 1)=(l5.length:Int) - 1:=by rw [bn]<;>omega
   split
   ·rename_i hq
    rw [w1]
    refine Ok.idx (by omega) (by omega) (fun v _ _=>?_)
    split
    ·refine Ok.idx (by omega) (by omega) (fun v _ _=>?_)
     unfold bJ
     split
     ·refine Ok.idx (by omega) hq (fun w _ _=>?_)
      exact yE st T l5 n6 _ hw hW g1 (fun _=>by omega)
     ·exact yE st T l5 n6 n6 hw hW g1 g2
    ·exact Mr
   ·exact Mr
  ·exact Mr
 ·exact Mr
def wQ (c:Campaign) (x:aq):Bool:=decide (x.an.Version=c.Target)||(!(decide (x.an.Version=c.Target))&&(decide ((3:Int)≤x.an.ed)||decide (x.an.Kind=(5:Int))))
theorem UJ (st:CS) (x:aq):(cj st x||dm st x)=wQ st.c_ x:=by
 unfold dm lC cj wQ;rfl
def ly (l:List Int) (k:Nat) (d:Int):List Int:=l.set k (bE (l.getD k 0+d))
theorem ux (l:List Int) (k:Nat) (d:Int):(ly l k d).length=l.length:=by unfold ly;simp
theorem nD {l:List Int} {k:Nat} (h:k < l.length):idx l (k:Int)=some (l.getD k 0):=by
 refine oP ?_
 rw [b4,cb h];rfl
def sO (c:Campaign) (k:Nat):ml:=c.aI.getD k ⟨0,0,0,0⟩
def Hz (c:Campaign) (op:List Int) (k:Nat) (x x':aq):List Int:=if (wQ c x' !=wQ c x)=true then (if wQ c x'=true then ly op k (-1) else ly op k 1) else op
def NQ (c:Campaign) (k:Nat) (en fa:List Int) (sp:Int) (m:MarkS):Int:=if sp < 0∧(sO c k).zC≤en.getD k 0∧bE ((sO c k).ed * en.getD k 0) < bE (1000 * fa.getD k 0) then m.At else sp
def r9 (st:CS) (i k:Nat) (x:aq) (m:MarkS):CS:=
 if Ju x m=true then
  if m.Kind≠3∧m.Kind≠4 then {st with open_:=Hz st.c_ st.open_ k x (zc x m),kd:=st.kd.set i (zt x m)}
  else {st with open_:=Hz st.c_ st.open_ k x (zc x m),bt:=ly st.bt k 1,aY:=if m.Kind=4 then ly st.aY k 1 else st.aY,bf:=NQ st.c_ k (ly st.bt k 1) (if m.Kind=4 then ly st.aY k 1 else st.aY) st.bf m,kd:=st.kd.set i (zt x m)}
 else {st with kd:=st.kd.set i (zt x m)}
theorem Tq (st:CS) (m:MarkS) (i k:Nat) (x:aq) (hi:bh st.nw m.Device=some (i:Int)) (hk:bh st.cL m.Device=some (k:Int)) (ha:¬ m.At < st.c_.At) (hx:st.kd[i]? =some x)
 (hW:k < st.c_.aI.length) (ho:k < st.open_.length) (he:k < st.bt.length) (hf:k < st.aY.length):dw st m=some (r9 st i k x m):=by
 have hxi:=oP hx
 unfold dw
 rw [hi,tq]
 unfold iA
 rw [if_neg (by simp;omega)]
 unfold oJ
 rw [hk,hxi]
 simp only [aa,dl]
 unfold ku
 rw [hxi]
 simp only [aa,Qm,EK,UJ,bc]
 unfold r9
 by_cases gN:Ju x m=true
 ·rw [if_neg (by simp [gN]),if_pos gN]
  have Lu:zt x m=zc x m:=by unfold zt;rw [if_pos gN]
  rw [Lu]
  have j5:∀ op:List Int,fO st m (i:Int) (k:Int) x op=some (if m.Kind≠3∧m.Kind≠4 then {st with open_:=op,kd:=st.kd.set i (zc x m)}
   else {st with open_:=op,bt:=ly st.bt k 1,aY:=if m.Kind=4 then ly st.aY k 1 else st.aY,bf:=NQ st.c_ k (ly st.bt k 1) (if m.Kind=4 then ly st.aY k 1 else st.aY) st.bf m,kd:=st.kd.set i (zc x m)}):=by
   intro op
   unfold fO kq
   simp only [EK,Lu,bc]
   by_cases hkk:m.Kind≠3∧m.Kind≠4
   ·rw [if_pos (by simp [hkk]),if_pos hkk]
   ·rw [if_neg (by simpa using hkk),if_neg hkk,nD he]
    simp only [aa]
    have j8:∀ fa:List Int,k < fa.length→fN st m (i:Int) (k:Int) x op (st.bt.getD k 0) fa=some {st with open_:=op,bt:=ly st.bt k 1,aY:=fa,bf:=NQ st.c_ k (ly st.bt k 1) fa st.bf m,kd:=st.kd.set i (zc x m)}:=by
     intro fa Kj
     unfold fN
     have YM:idx st.c_.aI (k:Int)=some (sO st.c_ k):=by
      refine oP ?_
      unfold sO
      rw [b4,cb hW];rfl
     rw [YM]
     simp only [aa,bc]
     have u5:st.bt.set k (bE (st.bt.getD k 0+1))=ly st.bt k 1:=rfl
     rw [u5,nD (l:=ly st.bt k 1) (by rw [ux];exact he),nD Kj]
     simp only [aa]
     have j10:∀ b:Bool,ez st m (i:Int) (k:Int) x op (st.bt.getD k 0) fa b=some {st with open_:=op,bt:=ly st.bt k 1,aY:=fa,bf:=if b=true then m.At else st.bf,kd:=st.kd.set i (zc x m)}:=by
      intro b
      unfold ez gU
      simp only [EK,Lu,bc]
      cases b<;>rfl
     simp only [j10]
     unfold NQ
     by_cases a1:st.bf < 0
     ·rw [if_pos a1]
      by_cases a2:(sO st.c_ k).zC≤(ly st.bt k 1).getD k 0
      ·rw [if_pos a2]
       by_cases a3:bE ((sO st.c_ k).ed * (ly st.bt k 1).getD k 0) < bE (1000 * fa.getD k 0)
       ·rw [if_pos (decide_eq_true a3),if_pos ⟨a1,a2,a3⟩]
       ·rw [if_neg (by rw [decide_eq_false a3];exact ce),if_neg (fun h=>a3 h.2.2)]
      ·rw [if_neg a2,if_neg (by simp),if_neg (fun h=>a2 h.2.1)]
     ·rw [if_neg a1,if_neg (by simp),if_neg (fun h=>a1 h.1)]
    by_cases h4:m.Kind=4
    ·rw [if_pos h4,if_pos h4,nD hf]
     simp only [aa]
     exact j8 (ly st.aY k 1) (by rw [ux];exact hf)
    ·rw [if_neg h4,if_neg h4]
     exact j8 st.aY hf
  unfold kr iz
  simp only [j5,nD ho,aa,bc]
  unfold Hz
  by_cases b1:(wQ st.c_ (zc x m)!=wQ st.c_ x)=true
  ·rw [if_pos b1,if_pos b1]
   by_cases b2:wQ st.c_ (zc x m)=true
   ·rw [if_pos b2,if_pos b2]
    rfl
   ·rw [if_neg b2,if_neg b2]
    rfl
  ·rw [if_neg b1,if_neg b1]
 ·rw [if_pos (by simpa using gN),if_neg gN]
theorem Gl (st:CS) (m:MarkS) (h:bh st.nw m.Device=none∨m.At < st.c_.At):dw st m=some st:=by
 unfold dw
 cases e:bh st.nw m.Device with
 | none=>rw [Cp];unfold ko;rw [if_pos (by simp)]
 | some n=>
   rw [tq];unfold iA
   rcases h with h | h
   ·rw [e] at h;cases h
   ·rw [if_pos (by simp [h])]
theorem EM (st:CS) (i k:Nat) (x:aq) (m:MarkS):(r9 st i k x m).c_=st.c_∧(r9 st i k x m).nw=st.nw∧(r9 st i k x m).cL=st.cL∧(r9 st i k x m).kd=st.kd.set i (zt x m)∧(r9 st i k x m).aN=st.aN∧(r9 st i k x m).cw=st.cw∧
 (r9 st i k x m).open_.length=st.open_.length∧(r9 st i k x m).bt.length=st.bt.length∧(r9 st i k x m).aY.length=st.aY.length:=by
 have ho:∀ c op x',(Hz c op k x x').length=op.length:=by
  intro c op x';unfold Hz;split
  ·split<;>exact ux _ _ _
  ·rfl
 unfold r9
 split
 ·split
  ·exact ⟨rfl,rfl,rfl,rfl,rfl,rfl,ho _ _ _,rfl,rfl⟩
  ·refine ⟨rfl,rfl,rfl,rfl,rfl,rfl,ho _ _ _,ux _ _ _,?_⟩
   show (if m.Kind=4 then ly st.aY k 1 else st.aY).length=_
   split
   ·exact ux _ _ _
   ·rfl
 ·exact ⟨rfl,rfl,rfl,rfl,rfl,rfl,rfl,rfl,rfl⟩
theorem xo:∀ {l:List DeviceS},(l.map DeviceS.Key).Nodup→∀ (i j:Nat) (a b:DeviceS),l[i]? =some a→l[j]? =some b→a.Key=b.Key→i=j
 | [],_,i,j,a,b,h,_,_=>by simp at h
 | x :: r,hn,i,j,a,b,h1,h2,h3=>by
   rw [a7,List.nodup_cons] at hn
   match i,j with
   | 0,0=>rfl
   | 0,j+1=>
     exfalso;simp at h1 h2;subst h1
     exact hn.1 (ap.2 ⟨b,cc h2,h3.symm⟩)
   | i+1,0=>
     exfalso;simp at h1 h2;subst h2
     exact hn.1 (ap.2 ⟨a,cc h1,h3⟩)
   | i+1,j+1=>
     have:=xo hn.2 i j a b (by simpa using h1) (by simpa using h2) h3
     omega
theorem Jx {α β:Type} {f h:α→β} {l:List α} {i:Nat} {d:α} (hd:l[i]? =some d) (hr:∀ j d',j≠i→l[j]? =some d'→f d'=h d'):(l.map f).set i (h d)=l.map h:=by
 refine List.ext_getElem? (fun j=>?_)
 rw [gf,dg,dg]
 have hi:i < l.length:=(cp.1 hd).1
 by_cases e:i=j
 ·subst e
  rw [if_pos rfl,if_pos (by simpa using hi),hd];rfl
 ·rw [if_neg e]
  cases hj:l[j]? with
  | none=>rfl
  | some d'=>simp [hr j d' (fun h=>e h.symm) hj]
theorem yF (c:Campaign) (dn:List MarkS) (m:MarkS) (d:DeviceS):jk c (dn++[m]) d=if qK c d.Key m=true then zt (jk c dn d) m else jk c dn d:=by
 unfold jk
 rw [bv,ai,al]
 split<;>rfl
theorem Qq {fl:List DeviceS} (hf:jE fl) {of:List (bj×Int)} (hp:of.Perm (cC fl 0)):(of.map cv).Nodup:=by
 refine (hp.map cv).nodup_iff.2 ?_
 rw [Jv];exact hf.Qo
theorem Qr {c:Campaign} {fl:List DeviceS} (hf:jE fl) {wv:List (bj×Int)} (hp:wv.Perm (Jw c fl)):(wv.map cv).Nodup:=by
 refine (hp.map cv).nodup_iff.2 ?_
 unfold Jw
 rw [List.map_map];exact hf.Qo
theorem HA {fl:List DeviceS} (hf:jE fl) {of:List (bj×Int)} (hp:of.Perm (cC fl 0)) {i:Nat} {d:DeviceS} (hd:fl[i]? =some d):bh of d.Key=some (i:Int):=by
 refine tp (Qq hf hp) (hp.mem_iff.2 ?_)
 have:=Mq fl 0 i d hd
 rw [cl] at this;exact this
theorem HB {c:Campaign} {fl:List DeviceS} (hf:jE fl) {wv:List (bj×Int)} (hp:wv.Perm (Jw c fl)) {d:DeviceS} (hd:d∈fl):bh wv d.Key=some (pG c d.Key:Int):=
 tp (Qr hf hp) (hp.mem_iff.2 (ap.2 ⟨d,hd,rfl⟩))
theorem Tr {fl:List DeviceS} {of:List (bj×Int)} (hp:of.Perm (cC fl 0)) {k:bj} (h:∀ d∈fl,d.Key≠k):bh of k=none:=by
 refine ph.2 (fun e he hk=>?_)
 obtain ⟨i,d,h1,h2⟩:=Bq fl 0 e (hp.mem_iff.1 he)
 rw [h2] at hk
 exact h d (cc h1) hk
theorem Ms {c:Campaign} {fl:List DeviceS} {s:CS} {dn:List MarkS} (hc:jj c) (hf:jE fl) (h:SI c fl s dn) (m:MarkS):
 (dw s m=some s∧∀ d∈fl,qK c d.Key m=false)∨(∃ i d,fl[i]? =some d∧qK c d.Key m=true∧dw s m=some (r9 s i (pG c d.Key) (jk c dn d) m)):=by
 by_cases HC:∃ d,d∈fl∧d.Key=m.Device
 ·obtain ⟨d,hm,hk⟩:=HC
  obtain ⟨i,hi⟩:=cy hm
  by_cases ha:m.At < c.At
  ·left
   exact ⟨Gl s m (.inr (by rw [h.c_];exact ha)),fun d _=>by unfold qK;simp;intro _;omega⟩
  ·right
   have hw:=(Bp c hc d.Key (hf.key d hm)).2
   refine ⟨i,d,hi,by unfold qK;simp [hk];omega,?_⟩
   refine Tq s m i (pG c d.Key) (jk c dn d) ?_ ?_ (by rw [h.c_];exact ha) ?_ (by rw [h.c_];exact hw) (by rw [h.open_];exact hw) (by rw [h.bt];exact hw) (by rw [h.aY];exact hw)
   ·rw [← hk];exact HA hf h.nw hi
   ·rw [← hk];exact HB hf h.cL hm
   ·rw [h.kd,dg,hi];rfl
 ·left
  refine ⟨Gl s m (.inl (Tr h.nw (fun d hd hk=>HC ⟨d,hd,hk⟩))),fun d hd=>?_⟩
  unfold qK
  rw [gk]
  exact .inl (decide_eq_false (fun hk=>HC ⟨d,hd,hk.symm⟩))
theorem Ts {c:Campaign} {fl:List DeviceS} {s:CS} {dn:List MarkS} (hc:jj c) (hf:jE fl) (h:SI c fl s dn) (m:MarkS):Ok (dw s m) (fun r=>SI c fl r (dn++[m])):=by
 rcases Ms hc hf h m with ⟨e,hr⟩ | ⟨i,d,hi,hr,e⟩
 ·refine ⟨s,e,⟨h.c_,h.nw,h.cL,?_,h.open_,h.bt,h.aY,h.bg,h.nx⟩⟩
  rw [h.kd]
  refine List.map_congr_left (fun d hd=>?_)
  rw [yF,hr d hd];rfl
 ·obtain ⟨k1,k2,k3,k4,k5,k6,k7,k8,k9⟩:=EM s i (pG c d.Key) (jk c dn d) m
  refine ⟨_,e,⟨by rw [k1];exact h.c_,by rw [k2];exact h.nw,by rw [k3];exact h.cL,?_,by rw [k7];exact h.open_,by rw [k8];exact h.bt,by rw [k9];exact h.aY,by rw [k5];exact h.bg,by rw [k5,k6];exact h.nx⟩⟩
  rw [k4,h.kd,show zt (jk c dn d) m=jk c (dn++[m]) d by rw [yF,if_pos hr]]
  refine Jx hi (fun j d' hj vT=>?_)
  rw [yF,if_neg]
  intro R9
  unfold qK at hr R9
  simp only [ac,decide_eq_true_eq] at hr R9
  exact hj (xo hf.Qo j i d' d vT hi (by rw [← R9.1,hr.1]))
def EN (r s:CS):Prop:=r.c_=s.c_∧r.nw=s.nw∧r.cL=s.cL∧r.kd=s.kd
noncomputable def yG (c:Campaign) (op:List Int) (d:DeviceS):List Int:=if decide (d.bR=c.Target)=true then op else ly op (pG c d.Key) 1
theorem Br (c:Campaign):∀ (l:List DeviceS) (op:List Int),(l.foldl (yG c) op).length=op.length
 | [],_=>rfl
 | d :: r,op=>by
   rw [af,Br c r]
   unfold yG;split
   ·rfl
   ·exact ux _ _ _
theorem Jy {m:List (bj×Int)} {k:bj} {v:Int} (h:∀ e∈m,e.1≠k):(ca m k v).Perm (m++[(k,v)]):=by
 refine (uu m k v).trans ?_
 have:mj m k=m:=by unfold mj;exact List.filter_eq_self.2 (fun e he=>by simp [h e he])
 rw [this]
 exact (List.perm_append_singleton (k,v) m).symm
theorem zL (c:Campaign) (fl:List DeviceS) (hc:jj c) (hf:jE fl) (hl:(fl.length:Int)≤100000) (R8 R10 R0:List Int) (hR:R0.length=c.aI.length):∀ (m n:Nat) (of wv:List (bj×Int)),n+m=fl.length→of.Perm (cC (fl.take n) 0)→wv.Perm (Jw c (fl.take n))→
 ∃ Wa Wb,lU c fl R8 R10 ((fl.take n).map x0) of wv ((fl.take n).foldl (yG c) R0) (n:Int)=some ⟨c,Wa,Wb,fl.foldl (yG c) R0,R8,R10,[],-1,c.At,fl.map x0⟩∧Wa.Perm (cC fl 0)∧Wb.Perm (Jw c fl)
 | 0,n,of,wv,h,h1,h2=>by
   rw [cn (by omega)] at h1 h2 ⊢
   refine ⟨of,wv,?_,h1,h2⟩
   unfold lU
   rw [iter_eq,gS,if_neg (by simp only;omega),bb]
 | m+1,n,of,wv,h,h1,h2=>by
   obtain ⟨d,hd,Qs,V6⟩:=gj fl (i:=(n:Int)) (by omega) (by omega)
   have hg:fl[n]? =some d:=by have:=(jX hd).2.2;rwa [bc] at this
   have ht:fl.take (n+1)=fl.take n++[d]:=by rw [cm,hg];rfl
   have GJ:(fl.take n).length=n:=by rw [dy];omega
   have wb:∀ x∈fl.take n,x.Key≠d.Key:=by
    intro x hx hk
    obtain ⟨j,hj⟩:=cy hx
    have zw:j < n:=by have:=(cp.1 hj).1;omega
    rw [List.getElem?_take_of_lt zw] at hj
    have:=xo hf.Qo j n x d hj hg hk
    omega
   have hof:∀ e∈of,e.1≠d.Key:=by
    intro e he hk
    obtain ⟨j,x,a1,a2⟩:=Bq _ 0 e (h1.mem_iff.1 he)
    rw [a2] at hk
    exact wb x (cc a1) hk
   have YM:∀ e∈wv,e.1≠d.Key:=by
    intro e he hk
    obtain ⟨x,a1,a2⟩:=ap.1 (h2.mem_iff.1 he)
    rw [← a2] at hk
    exact wb x a1 hk
   have H4:VB ((fl.take n).map x0).length (of.map Prod.snd)=some ():=by
    unfold VB
    rw [if_pos]
    intro y hy
    obtain ⟨e,he,rfl⟩:=ap.1 hy
    obtain ⟨j,x,a1,a2⟩:=Bq _ 0 e (h1.mem_iff.1 he)
    have:=(cp.1 a1).1
    rw [a2,el,GJ]
    simp only
    omega
   obtain ⟨w1,w2⟩:=Bp c hc d.Key (hf.key d Qs)
   have wn:bE ((n:Int)+1)=((n+1:Nat):Int):=by rw [bn]<;>omega
   have hol:((fl.take n).foldl (yG c) R0).length=c.aI.length:=by rw [Br];exact hR
   obtain ⟨Wa,Wb,r1,r2,r3⟩:=zL c fl hc hf hl R8 R10 R0 hR m (n+1) (ca of d.Key (n:Int)) (ca wv d.Key (pG c d.Key:Int)) (by omega)
    (by rw [ht,Gk,GJ,cl];exact (Jy hof).trans (h1.append_right _))
    (by rw [ht];unfold Jw;rw [eg];exact (Jy YM).trans (h2.append_right _))
   refine ⟨Wa,Wb,?_,r2,r3⟩
   rw [← r1,ht,eg,ai]
   unfold lU
   conv=>lhs;rw [iter_eq]
   rw [gS,if_pos (by simp only;omega)]
   simp only
   rw [hd]
   simp only [aa]
   rw [H4,w1]
   simp only [aa]
   unfold oJ jy
   rw [iH,if_pos rfl,el,GJ,wn]
   simp only [aa,dl,bc]
   rw [nD (l:=(fl.take n).foldl (yG c) R0) (by rw [hol];exact w2)]
   simp only [aa,af,aJ,a7,fz]
   have ac0:∀ s:CS,s.c_=c→cj s ⟨⟨0,0,d.bR,0⟩,⟨0,0,0⟩⟩=decide (d.bR=c.Target):=by
    intro s hs;unfold cj;rw [hs]
   rw [ac0 _ rfl]
   unfold yG
   by_cases hq:d.bR=c.Target
   ·rw [if_neg (by simp [hq]),if_pos (by simp [hq])]
    rfl
   ·rw [if_pos (by simp [hq]),if_neg (by simp [hq])]
    rfl
theorem Jz (c:Campaign) (fl:List DeviceS) (hc:jj c) (hf:jE fl) (hl:(fl.length:Int)≤100000):∃ Wa Wb,ir c fl=some ⟨c,Wa,Wb,fl.foldl (yG c) (ag c.aI.length 0),ag c.aI.length 0,ag c.aI.length 0,[],-1,c.At,fl.map x0⟩∧Wa.Perm (cC fl 0)∧Wb.Perm (Jw c fl):=by
 have hlen:=hc.len
 have ep:Oh (0:Int) (c.aI.length:Int) (c.aI.length:Int)=some (ag c.aI.length 0):=by
  unfold Oh;rw [if_pos (by omega),bc]
 obtain ⟨a,b,r1,r2,r3⟩:=zL c fl hc hf hl (ag c.aI.length 0) (ag c.aI.length 0) (ag c.aI.length 0) (by simp) fl.length 0 [] [] (by simp) (cz _) (cz _)
 refine ⟨a,b,?_,r2,r3⟩
 unfold ir
 rw [ep]
 exact r1
theorem JA (c:Campaign) (fl:List DeviceS) (hc:jj c) (hf:jE fl) (hl:(fl.length:Int)≤100000):Ok (ir c fl) (fun s=>SI c fl s []∧s.open_=fl.foldl (yG c) (ag c.aI.length 0)∧s.bt=ag c.aI.length 0∧s.aY=ag c.aI.length 0∧s.aN=[]∧s.bf=-1∧s.cw=c.At):=by
 obtain ⟨a,b,r1,r2,r3⟩:=Jz c fl hc hf hl
 refine ⟨_,r1,⟨rfl,r2,r3,rfl,by rw [Br];simp,by simp,by simp,by simp,fun _=>?_⟩,rfl,rfl,rfl,rfl,rfl,rfl⟩
 have:=hc.sum
 cases hw:c.aI with
 | nil=>rw [hw] at this;simp [wN] at this
 | cons x y=>simp
theorem yH (c:Campaign) (d:DeviceS) (l:List MarkS) (n:Nat) (at_:Int) (h1:∀ x∈l.take n,x.At≤at_) (h2:∀ x∈l.drop n,at_ < x.At):jk c (l.take n) d=xW c d l at_:=by
 unfold jk xW
 have e:l.filter (si c d.Key at_)=(l.take n).filter (qK c d.Key):=by
  conv=>lhs;rw [← em n l,bv]
  have z:(l.drop n).filter (si c d.Key at_)=[]:=by
   rw [cA]
   intro x hx
   have:=h2 x hx
   unfold si
   simp only [ac,decide_eq_true_eq]
   omega
  rw [z,b5]
  refine ci (fun x hx=>?_)
  have:=h1 x hx
  unfold si qK
  rw [decide_eq_true this,c6]
 rw [e]
theorem HD:∀ {l:List DeviceS} {p:Option DeviceS},Be xm p l=0→(∀ d∈l,rj d.Key=true)∧l.Pairwise (fun a b=>Lib.compareBytes a.Key b.Key < 0)∧∀ q,p=some q→∀ d∈l,Lib.compareBytes q.Key d.Key < 0
 | [],p,_=>⟨by simp,List.Pairwise.nil,by simp⟩
 | d :: r,p,h=>by
   simp only [Be] at h
   split at h
   ·rename_i h0
    obtain ⟨i1,i2,i3⟩:=HD h
    have hd:¬ Hv d∧Al p d=false:=by
     unfold xm at h0
     split at h0
     ·cases h0
     ·rename_i hk
      split at h0
      ·cases h0
      ·rename_i hb;exact ⟨hk,by simpa using hb⟩
    have hk:rj d.Key=true:=by
     cases e:rj d.Key
     ·exact absurd (Or.inl e) hd.1
     ·rfl
    refine ⟨fun x hx=>?_,be.2 ⟨fun x hx=>i3 d rfl x hx,i2⟩,fun q hq x hx=>?_⟩
    ·rcases ad.1 hx with rfl | hx
     ·exact hk
     ·exact i1 x hx
    ·subst hq
     have hb:=hd.2
     unfold Al at hb
     simp only at hb
     have eI:Lib.compareBytes q.Key d.Key < 0:=by
      rw [wK,Td,Bool.or_eq_false_iff] at hb
      have b1:=of_decide_eq_false hb.1
      have b2:=of_decide_eq_false hb.2
      have:=Ez q.Key d.Key
      omega
     rcases ad.1 hx with rfl | hx
     ·exact eI
     ·exact BS.tr eI (i3 d rfl x hx)
   ·exact absurd h ‹_›
theorem Wc {fl:List DeviceS} (h:sh fl=0):jE fl∧(fl.length:Int)≤500:=by
 unfold sh at h
 split at h
 ·cases h
 ·obtain ⟨h1,h2,_⟩:=HD h
  refine ⟨⟨h1,?_⟩,by omega⟩
  unfold List.Nodup
  rw [eq]
  refine h2.imp (fun {a b} C9 he=>?_)
  rw [he,wI] at C9
  omega
structure Wd (x:MarkS):Prop where
 UI:0≤x.At∧x.At≤345686399999
 kind:1≤x.Kind∧x.Kind≤5
theorem Mt {a b:MarkS} (h:mO a b < 0):a.At≤b.At:=by
 unfold mO at h
 by_cases h0:dZ a.At b.At≠0
 ·rw [if_pos h0] at h
  unfold dZ at h
  split at h
  ·omega
  ·split at h<;>omega
 ·have:=Qf.1 (fr.1 h0);omega
theorem pb {α:Type} {P:List α→Prop} (h0:P []) (h:∀ l x,P l→P (l++[x])):∀ l,P l:=by
 intro l
 rw [← l.reverse_reverse]
 induction l.reverse with
 | nil=>exact h0
 | cons x r ih=>rw [List.reverse_cons];exact h _ x ih
def xX (m:MarkS):Bool:=decide (m.Kind=3)||decide (m.Kind=4)
noncomputable def qD (c:Campaign) (dn:List MarkS) (m:MarkS) (d:DeviceS):Bool:=qK c d.Key m&&Ju (jk c dn d) m
noncomputable def yI (c:Campaign) (fl:List DeviceS) (dn:List MarkS) (w:Nat) (m:MarkS):Bool:=xX m&&fl.any (fun d=>decide (pG c d.Key=w)&&qD c dn m d)
noncomputable def Mu (c:Campaign) (fl:List DeviceS) (w:Nat) (s:List MarkS×List MarkS) (m:MarkS):List MarkS×List MarkS:=(s.1++[m],if yI c fl s.1 w m=true then s.2++[m] else s.2)
noncomputable def EL (c:Campaign) (fl:List DeviceS) (w:Nat) (dn:List MarkS):List MarkS:=(dn.foldl (Mu c fl w) ([],[])).2
theorem We (c:Campaign) (fl:List DeviceS) (w:Nat):∀ dn:List MarkS,(dn.foldl (Mu c fl w) ([],[])).1=dn:=
 pb rfl (fun l x h=>by rw [ai];simp only [af,aJ];unfold Mu at h ⊢;rw [h])
theorem tf (c:Campaign) (fl:List DeviceS) (w:Nat) (dn:List MarkS) (m:MarkS):EL c fl w (dn++[m])=if yI c fl dn w m=true then EL c fl w dn++[m] else EL c fl w dn:=by
 unfold EL
 rw [ai]
 simp only [af,aJ]
 have e:∀ S:List MarkS×List MarkS,(Mu c fl w S m).2=if yI c fl S.1 w m=true then S.2++[m] else S.2:=fun _=>rfl
 rw [e,We]
def BX (E:List MarkS):Nat:=(E.filter (fun m=>decide (m.Kind=4))).length
def BY (c:Campaign) (w:Nat) (E:List MarkS):Bool:=decide ((sO c w).zC≤(E.length:Int))&&decide (bE ((sO c w).ed * (E.length:Int)) < bE (1000 * (BX E:Int)))
noncomputable def EO (c:Campaign) (fl:List DeviceS) (dn:List MarkS) (m:MarkS):Bool:=(bi c.aI.length).any (fun w=>yI c fl dn w m&&BY c w (EL c fl w (dn++[m])))
noncomputable def Mv (c:Campaign) (fl:List DeviceS) (s:List MarkS×Int) (m:MarkS):List MarkS×Int:=(s.1++[m],if s.2 < 0∧EO c fl s.1 m=true then m.At else s.2)
noncomputable def SA (c:Campaign) (fl:List DeviceS) (dn:List MarkS):Int:=(dn.foldl (Mv c fl) ([],-1)).2
theorem Wf (c:Campaign) (fl:List DeviceS):∀ dn:List MarkS,(dn.foldl (Mv c fl) ([],-1)).1=dn:=
 pb rfl (fun l x h=>by rw [ai];simp only [af,aJ];unfold Mv at h ⊢;rw [h])
theorem xp (c:Campaign) (fl:List DeviceS) (dn:List MarkS) (m:MarkS):SA c fl (dn++[m])=if SA c fl dn < 0∧EO c fl dn m=true then m.At else SA c fl dn:=by
 unfold SA
 rw [ai]
 simp only [af,aJ]
 have e:∀ S:List MarkS×Int,(Mv c fl S m).2=if S.2 < 0∧EO c fl S.1 m=true then m.At else S.2:=fun _=>rfl
 rw [e,Wf]
noncomputable def HV (c:Campaign) (dn:List MarkS) (w:Nat) (d:DeviceS):Bool:=decide (pG c d.Key=w)&&!wQ c (jk c dn d)
noncomputable def Lv (c:Campaign) (fl:List DeviceS) (dn:List MarkS) (w:Nat):Nat:=(fl.filter (HV c dn w)).length
structure SX (c:Campaign) (fl:List DeviceS) (s:CS) (dn:List MarkS):Prop extends SI c fl s dn where
 Xf:∀ w,w < c.aI.length→s.open_.getD w 0=(Lv c fl dn w:Int)
 en:∀ w,w < c.aI.length→s.bt.getD w 0=((EL c fl w dn).length:Int)
 fa:∀ w,w < c.aI.length→s.aY.getD w 0=(BX (EL c fl w dn):Int)
 sp:s.bf=SA c fl dn
theorem sP {l:List Int} {k w:Nat} {d:Int} (hk:k < l.length):(ly l k d).getD w 0=if k=w then bE (l.getD k 0+d) else l.getD w 0:=by
 unfold ly
 rw [b4,gf]
 by_cases e:k=w
 ·rw [if_pos e,if_pos e,if_pos hk];rfl
 ·rw [if_neg e,if_neg e,b4]
theorem filter_one {α:Type} {p p':α→Bool}:∀ (l:List α) (i:Nat) (d:α),l[i]? =some d→(∀ j d',j≠i→l[j]? =some d'→p' d'=p d')→(l.filter p').length+(if p d=true then 1 else 0)=(l.filter p).length+(if p' d=true then 1 else 0)
 | [],i,d,h,_=>by simp at h
 | x :: r,0,d,h,hr=>by
   simp at h;subst h
   have e:r.filter p'=r.filter p:=by
    refine ci (fun y hy=>?_)
    obtain ⟨j,hj⟩:=cy hy
    exact hr (j+1) y (by omega) (by simpa using hj)
   rw [al,al,e]
   by_cases a:p x=true<;>by_cases b:p' x=true<;>simp [a,b]
 | x :: r,i+1,d,h,hr=>by
   have ih:=filter_one r i d (by simpa using h) (fun j d' hj hd=>hr (j+1) d' (by omega) (by simpa using hd))
   have e:=hr 0 x (by omega) rfl
   rw [al,al,e]
   by_cases a:p x=true
   ·rw [if_pos a,if_pos a,b9,b9];omega
   ·rw [if_neg a,if_neg a];exact ih
theorem JC {c:Campaign} {fl:List DeviceS} (hf:jE fl) {m:MarkS} {i j:Nat} {d d':DeviceS} (hi:fl[i]? =some d) (hj:fl[j]? =some d') (h:qK c d.Key m=true) (h':qK c d'.Key m=true):j=i:=by
 unfold qK at h h'
 simp only [ac,decide_eq_true_eq] at h h'
 exact xo hf.Qo j i d' d hj hi (by rw [← h'.1,h.1])
theorem Wg {c:Campaign} {fl:List DeviceS} (hf:jE fl) {dn:List MarkS} {m:MarkS} {i:Nat} {d:DeviceS} (hi:fl[i]? =some d) (h:qK c d.Key m=true) (w:Nat):yI c fl dn w m=(xX m&&(decide (pG c d.Key=w)&&Ju (jk c dn d) m)):=by
 unfold yI qD
 congr 1
 rw [aw,cJ]
 constructor
 ·rintro ⟨d',vT,e⟩
  obtain ⟨j,hj⟩:=cy vT
  simp only [ac,decide_eq_true_eq] at e ⊢
  obtain rfl:=JC hf hi hj h e.2.1
  rw [hi] at hj
  obtain rfl:=aH hj
  exact ⟨e.1,e.2.2⟩
 ·intro e
  simp only [ac,decide_eq_true_eq] at e
  exact ⟨d,cc hi,by simp [e.1,e.2,h]⟩
theorem Wh {c:Campaign} {fl:List DeviceS} {dn:List MarkS} {m:MarkS} (h:∀ d∈fl,qD c dn m d=false) (w:Nat):yI c fl dn w m=false:=by
 unfold yI
 rw [gk]
 right
 rw [es]
 intro d hd
 rw [h d hd];simp
theorem Qt {c:Campaign} {fl:List DeviceS} {dn:List MarkS} {m:MarkS} (h:∀ w,yI c fl dn w m=false):EO c fl dn m=false:=by
 unfold EO
 rw [es]
 intro w _
 rw [h w];simp
theorem Mw {c:Campaign} {fl:List DeviceS} {s s':CS} {dn:List MarkS} {m:MarkS} (h:SX c fl s dn) (hS:SI c fl s' (dn++[m])) (hc:∀ d∈fl,jk c (dn++[m]) d=jk c dn d) (hn:∀ w,yI c fl dn w m=false)
 (e1:s'.open_=s.open_) (e2:s'.bt=s.bt) (e3:s'.aY=s.aY) (e4:s'.bf=s.bf):SX c fl s' (dn++[m]):=by
 refine ⟨hS,fun w hw=>?_,fun w hw=>?_,fun w hw=>?_,?_⟩
 ·rw [e1,h.Xf w hw]
  unfold Lv
  have e:fl.filter (HV c (dn++[m]) w)=fl.filter (HV c dn w):=ci (fun d hd=>by unfold HV;rw [hc d hd])
  rw [e]
 ·rw [e2,tf,hn w];exact h.en w hw
 ·rw [e3,tf,hn w];exact h.fa w hw
 ·rw [e4,xp,Qt hn,if_neg (by simp)];exact h.sp
theorem Wi (c:Campaign) (fl:List DeviceS) (w:Nat):∀ dn:List MarkS,(EL c fl w dn).length≤dn.length:=
 pb (by unfold EL;simp) (fun l x h=>by
  rw [tf];split
  ·simp;exact h
  ·simp;omega)
theorem Mx (E:List MarkS):BX E≤E.length:=bX _ _
theorem JD (E:List MarkS) (m:MarkS):BX (E++[m])=BX E+(if m.Kind=4 then 1 else 0):=by
 unfold BX
 rw [bv,bW,al]
 by_cases h:m.Kind=4
 ·rw [if_pos (by simpa using h),if_pos h];rfl
 ·rw [if_neg (by simpa using h),if_neg h];rfl
theorem Tt {c:Campaign} {fl:List DeviceS} {s:CS} {dn:List MarkS} (hc:jj c) (hf:jE fl) (hl:(fl.length:Int)≤100000) (hd:(dn.length:Int)≤100000) (h:SX c fl s dn) (m:MarkS):Ok (dw s m) (fun r=>SX c fl r (dn++[m])∧r.aN=s.aN∧r.cw=s.cw):=by
 obtain ⟨r,r1,r2⟩:=Ts hc hf h.toSI m
 rcases Ms hc hf h.toSI m with ⟨e,hr⟩ | ⟨i,d,hi,hr,e⟩
 ·rw [e] at r1
  obtain rfl:=aH r1
  have hq:∀ d∈fl,qD c dn m d=false:=fun d hd=>by unfold qD;rw [hr d hd];rfl
  exact ⟨s,e,Mw h r2 (fun d hd=>by rw [yF,hr d hd];rfl) (Wh hq) rfl rfl rfl rfl,rfl,rfl⟩
 ·obtain ⟨k1,k2,k3,k4,k5,k6,k7,k8,k9⟩:=EM s i (pG c d.Key) (jk c dn d) m
  rw [e] at r1
  obtain rfl:=aH r1
  refine ⟨_,e,?_,k5,k6⟩
  have hm:=cc hi
  have hw:=(Bp c hc d.Key (hf.key d hm)).2
  have Wj:=Wg (dn:=dn) hf hi hr
  have GO:∀ d',d'∈fl→jk c (dn++[m]) d'=if d'=d then zt (jk c dn d) m else jk c dn d':=by
   intro d' vT
   rw [yF]
   by_cases e:d'=d
   ·rw [if_pos e,e,if_pos hr]
   ·rw [if_neg e,if_neg]
    intro R9
    obtain ⟨j,hj⟩:=cy vT
    have ej:=JC hf hi hj hr R9
    rw [ej,hi] at hj
    exact e (aH hj).symm
  by_cases gN:Ju (jk c dn d) m=true
  ·have Lu:zt (jk c dn d) m=zc (jk c dn d) m:=by unfold zt;rw [if_pos gN]
   have YN:∀ w,w < c.aI.length→(Hz s.c_ s.open_ (pG c d.Key) (jk c dn d) (zc (jk c dn d) m)).getD w 0=(Lv c fl (dn++[m]) w:Int):=by
    intro w LR
    have u6:=filter_one (p:=HV c dn w) (p':=HV c (dn++[m]) w) fl i d hi (fun j d' hj vT=>by
     unfold HV
     rw [GO d' (cc vT),if_neg]
     intro e;subst e
     exact hj (xo hf.Qo j i d' d' vT hi rfl))
    have hp:HV c dn w d=(decide (pG c d.Key=w)&&!wQ c (jk c dn d)):=rfl
    have cQ:HV c (dn++[m]) w d=(decide (pG c d.Key=w)&&!wQ c (zc (jk c dn d) m)):=by unfold HV;rw [GO d hm,if_pos rfl,Lu]
    have C6:Lv c fl dn w≤fl.length:=bX _ _
    have Nc:Lv c fl (dn++[m]) w≤fl.length:=bX _ _
    have h0:=h.Xf w LR
    unfold Lv at C6 Nc h0 ⊢
    have hlo:pG c d.Key < s.open_.length:=by rw [h.open_];exact hw
    unfold Hz
    rw [h.c_]
    by_cases UK:pG c d.Key=w
    ·rw [hp,cQ,UK,decide_eq_true rfl,c7,c7] at u6
     rw [UK] at hlo ⊢
     cases a:wQ c (jk c dn d)<;>cases b:wQ c (zc (jk c dn d) m)<;>simp only [a,b] at u6 ⊢<;>simp at u6
     ·rw [if_neg (by simp),h0];omega
     ·rw [if_pos (by simp),if_pos trivial,sP hlo,if_pos rfl,h0,bn (by omega) (by omega)];omega
     ·rw [if_pos (by simp),if_neg (by simp),sP hlo,if_pos rfl,h0,bn (by omega) (by omega)];omega
     ·rw [if_neg (by simp),h0];omega
    ·rw [hp,cQ,decide_eq_false UK,gq,gq] at u6
     simp at u6
     rw [u6]
     split
     ·split<;>rw [sP hlo,if_neg UK]<;>exact h0
     ·exact h0
   by_cases hk:m.Kind≠3∧m.Kind≠4
   ·have O2:xX m=false:=by unfold xX;simp [hk]
    have CK:∀ w,yI c fl dn w m=false:=fun w=>by rw [Wj w,O2];rfl
    have hS:r9 s i (pG c d.Key) (jk c dn d) m={s with open_:=Hz s.c_ s.open_ (pG c d.Key) (jk c dn d) (zc (jk c dn d) m),kd:=s.kd.set i (zt (jk c dn d) m)}:=by
     unfold r9;rw [if_pos gN,if_pos hk]
    rw [hS] at r2 ⊢
    refine ⟨r2,YN,fun w LR=>?_,fun w LR=>?_,?_⟩
    ·rw [tf,CK w];exact h.en w LR
    ·rw [tf,CK w];exact h.fa w LR
    ·rw [xp,Qt CK,if_neg (by simp)];exact h.sp
   ·have O2:xX m=true:=by unfold xX;simp;omega
    have hS:r9 s i (pG c d.Key) (jk c dn d) m={s with open_:=Hz s.c_ s.open_ (pG c d.Key) (jk c dn d) (zc (jk c dn d) m),bt:=ly s.bt (pG c d.Key) 1,aY:=if m.Kind=4 then ly s.aY (pG c d.Key) 1 else s.aY,bf:=NQ s.c_ (pG c d.Key) (ly s.bt (pG c d.Key) 1) (if m.Kind=4 then ly s.aY (pG c d.Key) 1 else s.aY) s.bf m,kd:=s.kd.set i (zt (jk c dn d) m)}:=by
     unfold r9;rw [if_pos gN,if_neg hk]
    have hh:∀ w,yI c fl dn w m=decide (pG c d.Key=w):=fun w=>by rw [Wj w,O2,gN];simp
    have xv:=Wi c fl (pG c d.Key) dn
    have YK:=Mx (EL c fl (pG c d.Key) dn)
    have hle:pG c d.Key < s.bt.length:=by rw [h.bt];exact hw
    have hlf:pG c d.Key < s.aY.length:=by rw [h.aY];exact hw
    have u5:∀ w,w < c.aI.length→(ly s.bt (pG c d.Key) 1).getD w 0=((EL c fl w (dn++[m])).length:Int):=by
     intro w LR
     rw [sP hle,tf,hh w]
     by_cases e:pG c d.Key=w
     ·rw [if_pos e,decide_eq_true e,if_pos rfl,h.en _ hw,bn (by omega) (by omega),← e];simp
     ·rw [if_neg e,decide_eq_false e,if_neg ce];exact h.en w LR
    have Kj:∀ w,w < c.aI.length→(if m.Kind=4 then ly s.aY (pG c d.Key) 1 else s.aY).getD w 0=(BX (EL c fl w (dn++[m])):Int):=by
     intro w LR
     rw [tf,hh w]
     by_cases e:pG c d.Key=w
     ·rw [decide_eq_true e,if_pos rfl,JD]
      by_cases h4:m.Kind=4
      ·rw [if_pos h4,if_pos h4,sP hlf,if_pos e,h.fa _ hw,bn (by omega) (by omega),← e];simp
      ·rw [if_neg h4,if_neg h4,h.fa w LR];simp
     ·rw [decide_eq_false e,if_neg ce]
      split
      ·rw [sP hlf,if_neg e];exact h.fa w LR
      ·exact h.fa w LR
    rw [hS] at r2 ⊢
    refine ⟨r2,YN,u5,Kj,?_⟩
    simp only
    unfold NQ
    rw [u5 _ hw,Kj _ hw,h.c_,h.sp,xp]
    have wb:EO c fl dn m=BY c (pG c d.Key) (EL c fl (pG c d.Key) (dn++[m])):=by
     unfold EO
     rw [aw,cJ]
     constructor
     ·rintro ⟨w,_,e⟩
      rw [hh w] at e
      simp only [ac,decide_eq_true_eq] at e
      rw [e.1];exact e.2
     ·intro e
      exact ⟨pG c d.Key,eH.2 hw,by rw [hh];simp [e]⟩
    rw [wb]
    unfold BY
    simp only [ac,decide_eq_true_eq]
  ·have Lu:zt (jk c dn d) m=jk c dn d:=by unfold zt;rw [if_neg gN]
   have hS:r9 s i (pG c d.Key) (jk c dn d) m={s with kd:=s.kd.set i (zt (jk c dn d) m)}:=by unfold r9;rw [if_neg gN]
   have ac1:Ju (jk c dn d) m=false:=by simpa using gN
   rw [hS] at r2 ⊢
   exact Mw h r2 (fun d' vT=>by rw [GO d' vT,Lu];split<;>simp_all) (fun w=>by rw [Wj w,ac1];simp) rfl rfl rfl rfl
theorem JE (c:Campaign) (fl:List DeviceS) (hc:jj c) (hf:jE fl) (hl:(fl.length:Int)≤100000):Ok (ir c fl) (fun s=>SX c fl s []∧s.aN=[]∧s.cw=c.At):=by
 refine (JA c fl hc hf hl).mono ?_
 rintro s ⟨h0,h1,h2,h3,h4,h5,h6⟩
 have Wk:∀ w,(ag c.aI.length (0:Int)).getD w 0=0:=by
  intro w
  rw [b4,List.getElem?_replicate]
  split<;>rfl
 refine ⟨⟨h0,fun w hw=>?_,fun w hw=>?_,fun w hw=>?_,?_⟩,h4,h6⟩
 ·rw [h1]
  have key:∀ l:List DeviceS,(∀ d∈l,rj d.Key=true)→(l.length:Int)≤100000→(l.foldl (yG c) (ag c.aI.length 0)).getD w 0=((l.filter (HV c [] w)).length:Int):=by
   refine pb (fun _ _=>Wk w) (fun l d ih hk hl=>?_)
   have ih:=ih (fun x hx=>hk x (eL _ hx)) (by simp at hl;omega)
   have Wl:((l.foldl (yG c) (ag c.aI.length 0))).length=c.aI.length:=by rw [Br];simp
   have hle:=bX (HV c [] w) l
   rw [ai,bv,al]
   simp only [af,aJ]
   have hp:HV c [] w d=(decide (pG c d.Key=w)&&!decide (d.bR=c.Target)):=by
    unfold HV wQ
    rw [show jk c [] d=x0 d from rfl]
    unfold x0
    simp
   have hkw:=(Bp c hc d.Key (hk d (by simp))).2
   rw [hp]
   simp at hl
   by_cases a:d.bR=c.Target
   ·rw [show yG c (l.foldl (yG c) (ag c.aI.length 0)) d=l.foldl (yG c) (ag c.aI.length 0) from if_pos (decide_eq_true a),ih];simp [a]
   ·rw [show yG c (l.foldl (yG c) (ag c.aI.length 0)) d=ly (l.foldl (yG c) (ag c.aI.length 0)) (pG c d.Key) 1 from if_neg (by simpa using a),sP (by rw [Wl];exact hkw)]
    by_cases b:pG c d.Key=w
    ·rw [if_pos b,b,ih,bn (by omega) (by omega)];simp [a]
    ·rw [if_neg b,ih];simp [a,b]
  exact key fl hf.key hl
 ·rw [h2,Wk];rfl
 ·rw [h3,Wk];rfl
 ·rw [h5];rfl
noncomputable def FM (c:Campaign) (dn:List MarkS) (d:DeviceS):List MarkS:=(dn.filter (qK c d.Key)).foldl uX []
theorem Gm:∀ (ms A:List MarkS) (x:aq),(x.an.Kind,x.aX)=lL A→((ms.foldl zt x).an.Kind,(ms.foldl zt x).aX)=lL (ms.foldl uX A)
 | [],A,x,h=>h
 | m :: r,A,x,h=>by
   rw [af,af]
   refine Gm r _ _ ?_
   have e:Ju x m=Ql (lL A).1 (lL A).2 m:=by unfold Ju;rw [← h]
   unfold zt uX
   rw [e]
   split
   ·unfold lL;rw [dk];rfl
   ·exact h
theorem Qu (c:Campaign) (dn:List MarkS) (d:DeviceS):((jk c dn d).an.Kind,(jk c dn d).aX)=lL (FM c dn d):=Gm _ [] (x0 d) rfl
theorem Tu (c:Campaign) (dn:List MarkS) (m:MarkS) (d:DeviceS):FM c (dn++[m]) d=if qD c dn m d=true then FM c dn d++[m] else FM c dn d:=by
 have hl:=Qu c dn d
 have e:Ju (jk c dn d) m=Ql (lL (FM c dn d)).1 (lL (FM c dn d)).2 m:=by unfold Ju;rw [← hl]
 unfold qD
 conv=>lhs;unfold FM
 rw [bv,al,ai]
 by_cases h:qK c d.Key m=true
 ·rw [if_pos h,h,c7,e];rfl
 ·rw [if_neg h,if_neg (by simp [h])];rfl
theorem Wm (c:Campaign) (dn:List MarkS) (d:DeviceS):(FM c dn d).length≤dn.length:=by
 have h1:=Bo (dn.filter (qK c d.Key)) []
 have h2:=bX (qK c d.Key) dn
 unfold FM;simp at h1;omega
theorem Qv (c:Campaign) (k:bj) (l:List MarkS) (n:Nat) (at_:Int) (h1:∀ x∈l.take n,x.At≤at_) (h2:∀ x∈l.drop n,at_ < x.At):l.filter (si c k at_)=(l.take n).filter (qK c k):=by
 conv=>lhs;rw [← em n l,bv]
 have z:(l.drop n).filter (si c k at_)=[]:=by
  rw [cA]
  intro x hx
  have:=h2 x hx
  unfold si
  simp only [ac,decide_eq_true_eq]
  omega
 rw [z,b5]
 refine ci (fun x hx=>?_)
 have:=h1 x hx
 unfold si qK
 rw [decide_eq_true this,c6]
theorem HE (c:Campaign) (d:DeviceS) (l:List MarkS) (n:Nat) (at_:Int) (h1:∀ x∈l.take n,x.At≤at_) (h2:∀ x∈l.drop n,at_ < x.At) (hl:(l.length:Int)≤3000) (hK:∀ q∈l,1≤q.Kind∧q.Kind≤5):qH c d.Key l at_=some (FM c (l.take n) d):=by
 rw [yC c d.Key l at_ (by omega) hK,Qv c d.Key l n at_ h1 h2];rfl
theorem yJ (c:Campaign) (hc:jj c) (k:bj) (hk:rj k=true):rO c k=some (pG c k:Int):=by
 have h1:=wP hc.key
 have h2:=wP hk
 have YL:=Mp c k
 obtain ⟨j,j1,j2⟩:=Tm c hc (xn c k) YL.2 c.aI.length 0 0 (by omega) (by omega) YL.1 (by rw [bp,hc.sum];rfl)
 have e:gJ c k=some j:=by
  unfold gJ
  rw [Hx c k (by omega) (by omega)]
  exact j1
 have e2:=(Bp c hc k hk).1
 rw [e] at e2
 rw [← aH e2]
 unfold rO
 rw [Hy c k (by omega) (by omega)]
 simp only [aa]
 rw [show xn c k - 0=xn c k by omega] at j2
 exact j2
theorem Gn {α β:Type} (q:α→Bool) (g:α→List β) (m:β):∀ L:List α,L.Pairwise (fun a b=>¬ (q a=true∧q b=true))→(L.flatMap (fun d=>if q d=true then g d++[m] else g d)).Perm (L.flatMap g++(if L.any q=true then [m] else []))
 | [],_=>by simp
 | d :: r,h=>by
   rw [be] at h
   have ih:=Gn q g m r h.2
   rw [gs,gs,List.any_cons]
   by_cases hd:q d=true
   ·have hn:r.any q=false:=by
     rw [es]
     intro x hx hq
     exact h.1 x hx ⟨hd,hq⟩
    rw [hn,if_neg (by simp),b5] at ih
    rw [if_pos hd,hd,Bool.true_or,if_pos rfl,cK,cK]
    exact gt _ (((List.perm_append_comm).trans (gv _ ih)))
   ·rw [if_neg hd,show (q d||r.any q)=r.any q by simp [hd],cK]
    exact gt _ ih
noncomputable def Om (c:Campaign) (fl:List DeviceS) (w:Nat):List DeviceS:=fl.filter (fun d=>decide (pG c d.Key=w))
theorem Tv {c:Campaign} {fl:List DeviceS} (hf:jE fl) (w:Nat):∀ dn:List MarkS,(((Om c fl w).flatMap (FM c dn)).filter xX).Perm (EL c fl w dn):=by
 refine pb ?_ (fun dn m ih=>?_)
 ·have:(Om c fl w).flatMap (FM c [])=[]:=by
   rw [List.flatMap_eq_nil_iff];intro x _;rfl
  rw [this];exact cz _
 ·have e:(FM c (dn++[m]))=fun d=>if qD c dn m d=true then FM c dn d++[m] else FM c dn d:=funext (fun d=>Tu c dn m d)
  have hp:(Om c fl w).Pairwise (fun a b=>¬ (qD c dn m a=true∧qD c dn m b=true)):=by
   have hn:=hf.Qo
   unfold List.Nodup at hn
   rw [eq] at hn
   unfold Om
   refine (gI _ hn).imp (fun {a b} C9 hq=>C9 ?_)
   unfold qD qK at hq
   simp only [ac,decide_eq_true_eq] at hq
   rw [← hq.1.1.1,← hq.2.1.1]
  rw [e]
  refine ((Gn (qD c dn m) (FM c dn) m _ hp).filter xX).trans ?_
  rw [bv,tf]
  have ha:(Om c fl w).any (qD c dn m)=fl.any (fun d=>decide (pG c d.Key=w)&&qD c dn m d):=by unfold Om;rw [List.any_filter]
  have hh:yI c fl dn w m=(xX m&&(Om c fl w).any (qD c dn m)):=by rw [ha];rfl
  rw [hh]
  by_cases a:(Om c fl w).any (qD c dn m)=true
  ·rw [if_pos a,a,c6,al]
   split
   ·exact gv _ ih
   ·rw [g5,b5];exact ih
  ·rw [if_neg a,if_neg (by simp [a]),g5,b5];exact ih
theorem Wn (c:Campaign) (fl:List DeviceS) (w:Nat):∀ dn:List MarkS,(EL c fl w dn).Sublist dn:=
 pb (g6 _) (fun l x h=>by
  rw [tf];split
  ·exact h.append (g6 _)
  ·exact h.trans (List.sublist_append_left _ _))
noncomputable def My (c:Campaign) (w:Nat) (s:List MarkS×Int) (m:MarkS):List MarkS×Int:=(s.1++[m],if s.2 < 0∧BY c w (s.1++[m])=true then m.At else s.2)
noncomputable def SW (c:Campaign) (w:Nat) (E:List MarkS):Int:=(E.foldl (My c w) ([],-1)).2
theorem Wo (c:Campaign) (w:Nat):∀ dn:List MarkS,(dn.foldl (My c w) ([],-1)).1=dn:=
 pb rfl (fun l x h=>by rw [ai];simp only [af,aJ];unfold My at h ⊢;rw [h])
theorem HF (c:Campaign) (w:Nat) (dn:List MarkS) (m:MarkS):SW c w (dn++[m])=if SW c w dn < 0∧BY c w (dn++[m])=true then m.At else SW c w dn:=by
 unfold SW
 rw [ai]
 simp only [af,aJ]
 have e:∀ S:List MarkS×Int,(My c w S m).2=if S.2 < 0∧BY c w (S.1++[m])=true then m.At else S.2:=fun _=>rfl
 rw [e,Wo]
theorem Tw (c:Campaign) (w:Nat) (A:List MarkS) (h:0≤SW c w A):∀ l,SW c w (A++l)=SW c w A:=
 pb (by rw [b5]) (fun l x ih=>by rw [← cK,HF,ih,if_neg (by omega)])
theorem Gp (c:Campaign) (w:Nat) (hw:w < c.aI.length) (Z:List MarkS) (hl:(Z.length:Int)≤100000) (hm:∀ x∈Z,0≤x.At):∀ (m n:Nat),n+m=Z.length→SW c w (Z.take n)=-1→vr c (w:Int) Z (BX (Z.take n):Int) (n:Int)=some (SW c w Z)
 | 0,n,h,hs=>by
   rw [cn (by omega)] at hs
   unfold vr
   rw [iter_eq,oY,if_neg (by simp only;omega),bb,hs]
 | m+1,n,h,hs=>by
   obtain ⟨q,hq,Tp,hd⟩:=gj Z (i:=(n:Int)) (by omega) (by omega)
   rw [show ((n:Int)).toNat=n by omega,show ((n:Int)+1).toNat=n+1 by omega] at hd
   have hg:Z[n]? =some q:=by have:=(jX hq).2.2;rwa [bc] at this
   have ht:Z.take (n+1)=Z.take n++[q]:=by rw [cm,hg];rfl
   have GJ:(Z.take n).length=n:=by rw [dy];omega
   have YK:=Mx (Z.take n)
   have w1:bE ((n:Int)+1)=((n+1:Nat):Int):=by rw [bn]<;>omega
   have ih:=Gp c w hw Z hl hm m (n+1) (by omega)
   have Og:=HF c w (Z.take n) q
   rw [← ht,hs] at Og
   have YM:idx c.aI (w:Int)=some (sO c w):=by
    refine oP ?_
    unfold sO
    rw [b4,cb hw];rfl
   have j2:oX c (w:Int) (n:Int) q (BX (Z.take (n+1)):Int)=if BY c w (Z.take (n+1))=true then some (.inr q.At) else some (.inl ((BX (Z.take (n+1)):Int),((n+1:Nat):Int))):=by
    unfold oX vq
    rw [YM,w1]
    simp only [aa]
    have e:BY c w (Z.take (n+1))=(decide ((sO c w).zC≤((n+1:Nat):Int))&&decide (bE ((sO c w).ed * ((n+1:Nat):Int)) < bE ((BX (Z.take (n+1)):Int) * 1000))):=by
     unfold BY
     rw [show (Z.take (n+1)).length=n+1 by rw [dy];omega,Int.mul_comm (1000:Int)]
    rw [e]
    rfl
   have sk:oY c (w:Int) Z (BX (Z.take n):Int) (n:Int)=oX c (w:Int) (n:Int) q (BX (Z.take (n+1)):Int):=by
    rw [oY,if_pos (by omega),hq]
    simp only [aa]
    rw [ht,JD]
    by_cases h4:q.Kind=4
    ·rw [if_pos h4,if_pos h4,bn (by omega) (by omega)];rfl
    ·rw [if_neg h4,if_neg h4];rfl
   unfold vr at ih ⊢
   rw [iter_eq]
   simp only
   rw [sk,j2]
   by_cases hc:BY c w (Z.take (n+1))=true
   ·rw [if_pos hc]
    rw [if_pos ⟨by omega,hc⟩] at Og
    have hk:=Tw c w (Z.take (n+1)) (by rw [Og];exact hm q Tp) (Z.drop (n+1))
    rw [em] at hk
    rw [hk,Og];rfl
   ·rw [if_neg hc]
    rw [if_neg (fun h=>hc h.2)] at Og
    simp only [aa,bD]
    exact ih Og
theorem sorted_at {l:List MarkS} (h:l.Pairwise (fun a b=>mO a b < 0)):∀ a∈l,∀ b∈l,¬ mO a b < 0→¬ mO b a < 0→a=b:=by
 induction l with
 | nil=>intro a ha;cases ha
 | cons x r ih=>
   rw [be] at h
   intro a ha b hb h1 h2
   rcases ad.1 ha with ea | KX<;>rcases ad.1 hb with eb | Bx
   ·rw [ea,eb]
   ·rw [ea] at h1;exact absurd (h.1 b Bx) h1
   ·rw [eb] at h2;exact absurd (h.1 a KX) h2
   ·exact ih h.2 a KX b Bx h1 h2
structure Dm (c:Campaign) (fl:List DeviceS) (l:List MarkS):Prop where
 c_:jj c
 f_:jE fl
 UL:(fl.length:Int)≤500
 m_:∀ x∈l,Wd x
 s_:l.Pairwise (fun a b=>mO a b < 0)
 l_:(l.length:Int)≤3000
theorem NR {c:Campaign} {fl:List DeviceS} {l:List MarkS} (H:Dm c fl l) (w:Nat) (hw:w < c.aI.length) (n:Nat) (X:List MarkS) (hX:X=(Om c fl w).flatMap (FM c (l.take n))) (Xg:(X.length:Int)≤100000):vu c (w:Int) X=some (SW c w (EL c fl w (l.take n))):=by
 have nU:=(Wn c fl w (l.take n)).trans (eX n l)
 have mC:=Tv (c:=c) H.f_ w (l.take n)
 rw [← hX] at mC
 unfold vu
 have ac2:fc X (fun y0=>some (l0 y0))=some (X.filter xX):=by
  have:=Mc ZM (fun y0=>some (l0 y0)) l0 X Xg (fun x _=>rfl)
  rw [show fc X (fun y0=>some (l0 y0))=V5 ZM X (fun y0=>some (l0 y0)) from rfl,this]
  congr 1
  refine ci (fun x _=>?_)
  unfold l0 rP xX
  rw [aw];simp
 rw [ac2]
 simp only [aa]
 have lK:∀ x∈X.filter xX,x∈l:=fun x hx=>nU.subset (mC.mem_iff.1 hx)
 have YO:∀ x∈X.filter xX,MB x:=fun x hx=>by have:=(H.m_ x (lK x hx)).UI;unfold MB;omega
 have FD:=bX xX X
 obtain ⟨Z,z1,z2,z3⟩:=Bd (fun y0 y1=>some (kE y0 y1)) mO (X.filter xX) (by omega) (fun a ha b hb=>by rw [Bn (YO a ha) (YO b hb)]) (NM.ord _)
 have hzl:=z2.length_eq
 have hs:pP (X.filter xX).length (fun r:List MarkS=>r.length) (dI (X.filter xX) (fun y0 y1=>some (kE y0 y1)))=some Z:=Aj z1 hzl
 rw [hs]
 simp only [aa]
 have hZE:Z=EL c fl w (l.take n):=by
  refine xk (z2.trans mC) z3 ?_ (fun a ha b hb=>sorted_at H.s_ a (lK a (z2.mem_iff.1 ha)) b (lK b (z2.mem_iff.1 hb)))
  unfold UF
  refine (H.s_.sublist nU).imp (fun {a b} C9 YP=>?_)
  have:=NM.neg a b
  omega
 rw [hZE]
 have Rp:=nU.length_le
 have hlb:=H.l_
 exact Gp c w hw (EL c fl w (l.take n)) (by omega) (fun x hx=>(H.m_ x (nU.subset hx)).UI.1) _ 0 (cl _) rfl
theorem Cz {c:Campaign} {fl:List DeviceS} {l:List MarkS} (H:Dm c fl l) (w:Nat) (hw:w < c.aI.length) (at_:Int) (n:Nat) (h1:∀ x∈l.take n,x.At≤at_) (h2:∀ x∈l.drop n,at_ < x.At) (hb:(fl.length * l.length:Int)≤100000):∀ (m k:Nat) (X:List MarkS),k+m=fl.length→X=(Om c (fl.take k) w).flatMap (FM c (l.take n))→X.length≤k * l.length→vv c (w:Int) fl l at_ X (k:Int)=some (SW c w (EL c fl w (l.take n)))
 | 0,k,X,hk,hX,Xg=>by
   have M6:k=fl.length:=by omega
   rw [M6,cn (d7 _)] at hX
   unfold vv
   rw [iter_eq,qU,if_neg (by simp only;omega),bb]
   refine NR H w hw n X hX ?_
   rw [M6] at Xg
   have:((fl.length * l.length:Nat):Int)=(fl.length * l.length:Int):=by push_cast;rfl
   omega
 | m+1,k,X,hk,hX,Xg=>by
   obtain ⟨d,hd,Qs,_⟩:=gj fl (i:=(k:Int)) (by omega) (by omega)
   have hg:fl[k]? =some d:=by have:=(jX hd).2.2;rwa [bc] at this
   have ht:fl.take (k+1)=fl.take k++[d]:=by rw [cm,hg];rfl
   have amI:=H.UL
   have w1:bE ((k:Int)+1)=((k+1:Nat):Int):=by rw [bn]<;>omega
   have hFl:=Wm c (l.take n) d
   have amJ:(l.take n).length≤l.length:=by rw [dy];omega
   have hmul:k * l.length≤fl.length * l.length:=Nat.mul_le_mul_right _ (by omega)
   have ahB:((fl.length * l.length:Nat):Int)=(fl.length * l.length:Int):=by push_cast;rfl
   have hlb:=H.l_
   have ih:=fun X hX Xg=>Cz H w hw at_ n h1 h2 hb m (k+1) X (by omega) hX Xg
   unfold vv at ih ⊢
   rw [iter_eq,qU,if_pos (by simp only;omega)]
   simp only
   rw [hd]
   simp only [aa]
   rw [yJ c H.c_ d.Key (H.f_.key d Qs)]
   simp only [aa]
   unfold tz
   rw [w1]
   have Cl:(k+1) * l.length=k * l.length+l.length:=Nat.succ_mul _ _
   by_cases UK:pG c d.Key=w
   ·rw [if_pos (by rw [UK]),HE c d l n at_ h1 h2 (by omega) (fun q hq=>(H.m_ q hq).kind)]
    simp only [aa]
    rw [lx (by omega)]
    simp only [aa,bD]
    refine ih _ ?_ (by rw [bW,Cl];omega)
    rw [ht,hX]
    unfold Om
    rw [bv,al,if_pos (by simpa using UK),List.flatMap_append]
    simp
   ·rw [if_neg (by omega)]
    simp only [aa,bD]
    refine ih _ ?_ (by rw [Cl];omega)
    rw [ht,hX]
    unfold Om
    rw [bv,al,if_neg (by simpa using UK)]
    simp
theorem NS {c:Campaign} {fl:List DeviceS} {l:List MarkS} (H:Dm c fl l) (w:Nat) (hw:w < c.aI.length) (at_:Int) (n:Nat) (h1:∀ x∈l.take n,x.At≤at_) (h2:∀ x∈l.drop n,at_ < x.At) (hb:(fl.length * l.length:Int)≤100000):A1 c (w:Int) fl l at_=some (SW c w (EL c fl w (l.take n))):=
 Cz H w hw at_ n h1 h2 hb fl.length 0 [] (by omega) rfl (by simp)
def comb (r v:Int):Int:=if 0≤v∧(r < 0∨v < r) then v else r
theorem Gq (f:Nat→Int):∀ N:Nat,((bi N).foldl (fun r w=>comb r (f w)) (-1)=-1∧∀ w,w < N→f w < 0)∨(0≤(bi N).foldl (fun r w=>comb r (f w)) (-1)∧(∃ w,w < N∧f w=(bi N).foldl (fun r w=>comb r (f w)) (-1))∧∀ w,w < N→f w < 0∨(bi N).foldl (fun r w=>comb r (f w)) (-1)≤f w)
 | 0=>.inl ⟨rfl,fun w h=>by omega⟩
 | N+1=>by
   rw [g7,ai]
   simp only [af,aJ]
   rcases Gq f N with ⟨h1,h2⟩ | ⟨h1,⟨w0,h2,h3⟩,h4⟩
   ·rw [h1]
    unfold comb
    by_cases hv:0≤f N
    ·rw [if_pos ⟨hv,.inl (by omega)⟩]
     refine .inr ⟨hv,⟨N,by omega,rfl⟩,fun w hw=>?_⟩
     rcases dV w N with h | h
     ·exact .inl (h2 w h)
     ·obtain rfl:w=N:=by omega
      exact .inr (eY _)
    ·rw [if_neg (fun h=>hv h.1)]
     refine .inl ⟨rfl,fun w hw=>?_⟩
     rcases dV w N with h | h
     ·exact h2 w h
     ·obtain rfl:w=N:=by omega
      omega
   ·generalize (bi N).foldl (fun r w=>comb r (f w)) (-1)=r at h1 h3 h4 ⊢
    right
    unfold comb
    by_cases hv:0≤f N∧(r < 0∨f N < r)
    ·rw [if_pos hv]
     refine ⟨hv.1,⟨N,by omega,rfl⟩,fun w hw=>?_⟩
     rcases dV w N with h | h
     ·have:=h4 w h;omega
     ·obtain rfl:w=N:=by omega
      exact .inr (eY _)
    ·rw [if_neg hv]
     refine ⟨h1,⟨w0,by omega,h3⟩,fun w hw=>?_⟩
     rcases dV w N with h | h
     ·exact h4 w h
     ·obtain rfl:w=N:=by omega
      omega
theorem Tx (c:Campaign) (fl:List DeviceS):∀ dn:List MarkS,dn.Pairwise (fun a b=>a.At≤b.At)→(∀ x∈dn,0≤x.At)→
 ((SA c fl dn=-1∧∀ w,w < c.aI.length→SW c w (EL c fl w dn)=-1)∨(0≤SA c fl dn∧(∃ w,w < c.aI.length∧SW c w (EL c fl w dn)=SA c fl dn)∧∀ w,w < c.aI.length→SW c w (EL c fl w dn)=-1∨SA c fl dn≤SW c w (EL c fl w dn)))∧∀ w,w < c.aI.length→SW c w (EL c fl w dn)=-1∨∃ x∈dn,SW c w (EL c fl w dn)=x.At:=by
 refine pb (fun _ _=>⟨.inl ⟨rfl,fun _ _=>rfl⟩,fun _ _=>.inl rfl⟩) (fun dn m ih hp hn=>?_)
 rw [e5] at hp
 obtain ⟨i1,i2⟩:=ih hp.1 (fun x hx=>hn x (eL _ hx))
 have WO:=hn m (by simp)
 have hle:∀ x∈dn,x.At≤m.At:=fun x hx=>hp.2.2 x hx m (by simp)
 have hf:∀ w,SW c w (EL c fl w (dn++[m]))=if yI c fl dn w m=true∧SW c w (EL c fl w dn) < 0∧BY c w (EL c fl w (dn++[m]))=true then m.At else SW c w (EL c fl w dn):=by
  intro w
  rw [tf]
  by_cases h:yI c fl dn w m=true
  ·rw [if_pos h,HF]
   by_cases h2:SW c w (EL c fl w dn) < 0∧BY c w (EL c fl w dn++[m])=true
   ·rw [if_pos h2,if_pos ⟨h,h2⟩]
   ·rw [if_neg h2,if_neg (fun h'=>h2 h'.2)]
  ·rw [if_neg h,if_neg (fun h'=>h h'.1)]
 have wb:EO c fl dn m=true↔∃ w,w < c.aI.length∧yI c fl dn w m=true∧BY c w (EL c fl w (dn++[m]))=true:=by
  unfold EO
  rw [cJ]
  constructor
  ·rintro ⟨w,hw,e⟩
   rw [ac] at e
   exact ⟨w,eH.1 hw,e⟩
  ·rintro ⟨w,hw,e⟩
   exact ⟨w,eH.2 hw,by rw [ac];exact e⟩
 refine ⟨?_,fun w hw=>?_⟩
 ·rcases i1 with ⟨h1,h2⟩ | ⟨h1,⟨w0,hw0,h2⟩,h3⟩
  ·rw [xp,h1]
   by_cases hN:EO c fl dn m=true
   ·rw [if_pos ⟨by omega,hN⟩]
    obtain ⟨w,hw,a1,a2⟩:=wb.1 hN
    refine .inr ⟨WO,⟨w,hw,by rw [hf,if_pos ⟨a1,by rw [h2 w hw];omega,a2⟩]⟩,fun v hv=>?_⟩
    rw [hf]
    split
    ·exact .inr (eY _)
    ·exact .inl (h2 v hv)
   ·rw [if_neg (fun h=>hN h.2)]
    refine .inl ⟨rfl,fun w hw=>?_⟩
    rw [hf,if_neg]
    ·exact h2 w hw
    ·rintro ⟨a1,_,a2⟩
     exact hN (wb.2 ⟨w,hw,a1,a2⟩)
  ·rw [xp,if_neg (by omega)]
   refine .inr ⟨h1,⟨w0,hw0,by rw [hf,if_neg (by omega)];exact h2⟩,fun v hv=>?_⟩
   rw [hf]
   split
   ·right
    have:=i2 w0 hw0
    rcases this with e | ⟨x,hx,e⟩
    ·omega
    ·have:=hle x hx;omega
   ·exact h3 v hv
 ·rw [hf]
  split
  ·exact .inr ⟨m,by simp,rfl⟩
  ·rcases i2 w hw with e | ⟨x,hx,e⟩
   ·exact .inl e
   ·exact .inr ⟨x,eL _ hx,e⟩
theorem yK {c:Campaign} {fl:List DeviceS} {l:List MarkS} (H:Dm c fl l) (at_:Int) (n:Nat) (h1:∀ x∈l.take n,x.At≤at_) (h2:∀ x∈l.drop n,at_ < x.At) (hb:(fl.length * l.length:Int)≤100000):∀ (m k:Nat),k+m=c.aI.length→rR c fl l at_ ((bi k).foldl (fun r w=>comb r (SW c w (EL c fl w (l.take n)))) (-1)) (k:Int)=some ((bi c.aI.length).foldl (fun r w=>comb r (SW c w (EL c fl w (l.take n)))) (-1))
 | 0,k,hk=>by
   have M6:k=c.aI.length:=by omega
   subst M6
   unfold rR
   rw [iter_eq,nf,if_neg (by simp only;omega),bb]
 | m+1,k,hk=>by
   have zy:=H.c_.len
   have w1:bE ((k:Int)+1)=((k+1:Nat):Int):=by rw [bn]<;>omega
   have ih:=yK H at_ n h1 h2 hb m (k+1) (by omega)
   rw [g7,ai] at ih
   simp only [af,aJ] at ih
   unfold rR at ih ⊢
   rw [iter_eq,nf,if_pos (by simp only;omega)]
   simp only
   rw [NS H k (by omega) at_ n h1 h2 hb]
   simp only [aa]
   generalize (bi k).foldl (fun r w=>comb r (SW c w (EL c fl w (l.take n)))) (-1)=r at ih ⊢
   generalize SW c k (EL c fl k (l.take n))=v at ih ⊢
   unfold rQ oZ
   rw [w1]
   unfold comb at ih
   by_cases hv:0≤v∧(r < 0∨v < r)
   ·rw [if_pos hv] at ih
    rw [if_pos (by simpa using hv)]
    simp only [aa,bD]
    exact ih
   ·rw [if_neg hv] at ih
    rw [if_neg (by simpa using hv)]
    simp only [aa,bD]
    exact ih
theorem HG {c:Campaign} {fl:List DeviceS} {l:List MarkS} (H:Dm c fl l) (at_:Int) (n:Nat) (h1:∀ x∈l.take n,x.At≤at_) (h2:∀ x∈l.drop n,at_ < x.At) (hb:(fl.length * l.length:Int)≤100000):kF c fl l at_=some (SA c fl (l.take n)):=by
 have h:=yK H at_ n h1 h2 hb c.aI.length 0 (by omega)
 unfold kF
 refine Eq.trans h (congrArg some ?_)
 have nU:=eX n l
 obtain ⟨a,b⟩:=Tx c fl (l.take n) ((H.s_.sublist nU).imp Mt) (fun x hx=>(H.m_ x (nU.subset hx)).UI.1)
 have FO:=Gq (fun w=>SW c w (EL c fl w (l.take n))) c.aI.length
 generalize (bi c.aI.length).foldl (fun r w=>comb r (SW c w (EL c fl w (l.take n)))) (-1)=r at FO ⊢
 rcases FO with ⟨p1,p2⟩ | ⟨p1,⟨w,pw,p2⟩,p3⟩<;>rcases a with ⟨q1,q2⟩ | ⟨q1,⟨v,qv,q2⟩,q3⟩
 ·omega
 ·have:=p2 v qv;omega
 ·have:=q2 w pw;omega
 ·have:=p3 v qv;have:=q3 w pw;omega
theorem Qw {c:Campaign} {dn:List MarkS} {d:DeviceS} (h:(jk c dn d).an.Kind≠0):∃ x∈dn,qK c d.Key x=true:=by
 cases e:dn.filter (qK c d.Key) with
 | nil=>unfold jk at h;rw [e] at h;exact absurd rfl h
 | cons x r=>
   have:x∈dn.filter (qK c d.Key):=by rw [e];simp
   rw [bk] at this
   exact ⟨x,this⟩
theorem YQ (c:Campaign) (fl:List DeviceS):∀ dn:List MarkS,dn.Pairwise (fun a b=>mO a b < 0)→SA c fl dn=-1∨c.At < SA c fl dn:=by
 refine pb (fun _=>.inl rfl) (fun dn m ih hp=>?_)
 rw [e5] at hp
 have ih:=ih hp.1
 rw [xp]
 split
 ·rename_i h
  right
  have hn:=h.2
  unfold EO at hn
  rw [cJ] at hn
  obtain ⟨w,_,hw⟩:=hn
  rw [ac] at hw
  have hh:=hw.1
  unfold yI at hh
  rw [ac,cJ] at hh
  obtain ⟨he,d,hd,hq⟩:=hh
  unfold qD at hq
  simp only [ac,decide_eq_true_eq] at hq
  have YR:(jk c dn d).an.Kind≠0:=by
   have ho:=hq.2.2
   unfold Ju Ql at ho
   unfold xX at he
   simp only [b8,decide_eq_true_eq] at he
   rw [if_neg (by omega),if_neg (by omega)] at ho
   simp only [decide_eq_true_eq] at ho
   omega
  obtain ⟨x,hx,hr⟩:=Qw YR
  have zW:=hp.2.2 x hx m (by simp)
  unfold qK at hr hq
  simp only [ac,decide_eq_true_eq] at hr hq
  have HC:x.Device=m.Device:=by rw [hr.1,hq.2.1.1]
  unfold mO at zW
  have eI:x.At < m.At:=by
   by_cases h0:dZ x.At m.At≠0
   ·rw [if_pos h0] at zW
    unfold dZ at zW
    split at zW
    ·assumption
    ·split at zW<;>omega
   ·rw [if_neg h0,HC,wI] at zW
    omega
  omega
 ·exact ih
section
variable (c:Campaign) (fl:List DeviceS) (l:List MarkS)
noncomputable def j9 (w:Nat) (t:Int):Bool:=fl.all (fun d=>!(decide (pG c d.Key=w))||wQ c (xW c d l t))
def xE (from_ at_:Int):List Int:=from_ :: ((l.filter (fun m=>decide (from_≤m.At)&&decide (m.At≤at_))).map MarkS.At)
def ic (bs:List Int):Int:=bs.getLast?.getD 0
noncomputable def dG (at_:Int) (bs:List Int):Option Int:=
 if bs.length=0 then some c.At else if bs.length < c.aI.length then ((xE l (ic bs) at_).find? (j9 c fl l (bs.length - 1))).map (fun t=>t+(sO c bs.length).sx) else none
inductive Kk (at_ S:Int):List Int→Prop
 | nil:Kk at_ S []
 | snoc {bs:List Int} {nx:Int} (h:Kk at_ S bs) (hl:bs.length < c.aI.length) (hn:dG c fl l at_ bs=some nx) (ha:nx≤at_) (hs:¬ (0≤S∧S≤nx)):Kk at_ S (bs++[nx])
def Wp (at_ S:Int) (bs:List Int):Prop:=∀ nx,dG c fl l at_ bs=some nx→at_ < nx∨(0≤S∧S≤nx)
end
theorem uY (bs:List Int) (x:Int):ic (bs++[x])=x:=by unfold ic;rw [dk];rfl
theorem pc {c:Campaign} {k:Nat} (h:k < c.aI.length):sO c k∈c.aI:=by
 unfold sO
 rw [b4,cb h]
 exact List.getElem_mem h
theorem yL {c:Campaign} {k:Nat} (h:k < c.aI.length):idx c.aI (k:Int)=some (sO c k):=by
 refine oP ?_
 unfold sO
 rw [b4,cb h];rfl
theorem Mz {l:List MarkS} {f a t:Int} (h:t∈xE l f a):f≤t∧(t=f∨t≤a):=by
 unfold xE at h
 rcases ad.1 h with e | h
 ·exact ⟨by omega,.inl e⟩
 ·obtain ⟨m,hm,rfl⟩:=ap.1 h
  have:=(bk.1 hm).2
  simp only [ac,decide_eq_true_eq] at this
  exact ⟨this.1,.inr this.2⟩
theorem Gr {c:Campaign} (hc:jj c):0 < c.aI.length:=by
 have:=hc.sum
 cases hw:c.aI with
 | nil=>rw [hw] at this;simp [wN] at this
 | cons x y=>simp
theorem yM {c:Campaign} {fl:List DeviceS} {l:List MarkS} (hc:jj c) {a:Int} {bs:List Int} {v:Int} (h:dG c fl l a bs=some v):bs.length < c.aI.length:=by
 have:=Gr hc
 unfold dG at h
 split at h
 ·omega
 ·split at h
  ·assumption
  ·cases h
theorem zd {c:Campaign} {fl:List DeviceS} {l:List MarkS} (hc:jj c) {a:Int} {bs:List Int} {v:Int} (h:dG c fl l a bs=some v) (hb:0≤ic bs):0≤v∧(bs.length=0→v=c.At)∧(bs.length≠0→ic bs≤v):=by
 have hm:=hc.UI
 have hlen:=yM hc h
 unfold dG at h
 split at h
 ·rename_i h0
  have:=aH h
  exact ⟨by omega,fun _=>by omega,fun h'=>absurd h0 h'⟩
 ·rename_i h0
  obtain ⟨t,ht,e⟩:=dY.1 h
  have hw:=hc.wait _ (pc hlen)
  have:=Mz (d0 ht)
  exact ⟨by omega,fun h'=>absurd h' h0,fun _=>by omega⟩
theorem Am {c:Campaign} {fl:List DeviceS} {l:List MarkS} (hc:jj c) {a S:Int} {bs:List Int} (h:Kk c fl l a S bs):bs.length≤c.aI.length∧0≤ic bs∧(bs.length≠0→ic bs≤a):=by
 induction h with
 | nil=>exact ⟨by simp,by unfold ic;simp,fun h=>absurd rfl h⟩
 | snoc h hl hn ha hs ih=>
   have:=zd hc hn ih.2.1
   refine ⟨by simp;omega,by rw [uY];exact this.1,fun _=>by rw [uY];exact ha⟩
theorem BZ {c:Campaign} {fl:List DeviceS} {l:List MarkS} {t t':Int} (ht:t≤t') (h:∀ x∈l,¬ (t < x.At∧x.At≤t')) (w:Nat):j9 c fl l w t=j9 c fl l w t':=by
 have e:∀ d,xW c d l t=xW c d l t':=by
  intro d
  unfold xW
  congr 1
  refine ci (fun x hx=>?_)
  have:=h x hx
  unfold si
  congr 2
  rw [decide_eq_decide];omega
 unfold j9
 simp only [e]
theorem NT {l:List MarkS} (hs:l.Pairwise (fun a b=>a.At≤b.At)) (q:Int→Bool) (f a a':Int) (ha:a≤a') (t:Int):((l.filter (fun m=>decide (f≤m.At)&&decide (m.At≤a))).map MarkS.At).find? q=some t→((l.filter (fun m=>decide (f≤m.At)&&decide (m.At≤a'))).map MarkS.At).find? q=some t:=by
 induction l with
 | nil=>intro h;exact h
 | cons x r ih=>
   rw [be] at hs
   have ih:=ih hs.2
   intro h
   rw [al] at h ⊢
   by_cases h1:f≤x.At
   ·by_cases h2:x.At≤a
    ·rw [if_pos (by simp;omega),a7,d1] at h ⊢
     cases hq:q x.At with
     | true=>rw [hq] at h;exact h
     | false=>rw [hq] at h;exact ih h
    ·rw [if_neg (by simp;omega)] at h
     have:r.filter (fun m=>decide (f≤m.At)&&decide (m.At≤a))=[]:=by
      rw [cA]
      intro y hy
      have:=hs.1 y hy
      simp only [ac,decide_eq_true_eq];omega
     rw [this] at h;cases h
   ·rw [if_neg (by simp;omega)] at h ⊢
    exact ih h
theorem Gs {c:Campaign} {fl:List DeviceS} {l:List MarkS} (hs:l.Pairwise (fun a b=>a.At≤b.At)) {a a':Int} (ha:a≤a') {bs:List Int} {v:Int} (h:dG c fl l a bs=some v):dG c fl l a' bs=some v:=by
 unfold dG at h ⊢
 split
 ·rename_i h0;rw [if_pos h0] at h;exact h
 ·rename_i h0
  rw [if_neg h0] at h
  split
  ·rename_i h1
   rw [if_pos h1] at h
   obtain ⟨t,ht,e⟩:=dY.1 h
   rw [dY]
   refine ⟨t,?_,e⟩
   unfold xE at ht ⊢
   rw [d1] at ht ⊢
   cases hq:j9 c fl l (bs.length - 1) (ic bs) with
   | true=>rw [hq] at ht;exact ht
   | false=>rw [hq] at ht;exact NT hs _ _ _ _ ha t ht
  ·rename_i h1;rw [if_neg h1] at h;cases h
def Qx (T S0 S1:Int):Prop:=(S0 < 0∧(S1 < 0∨T < S1))∨(0≤S0∧S1=S0)
theorem Qy {c:Campaign} {fl:List DeviceS} {l:List MarkS} (hs:l.Pairwise (fun a b=>a.At≤b.At)) {a a' S0 S1:Int} (ha:a≤a') (hS:Qx a S0 S1) {bs:List Int} (h:Kk c fl l a S0 bs):Kk c fl l a' S1 bs:=by
 induction h with
 | nil=>exact .nil
 | snoc h hl hn hx hb ih=>
   refine .snoc ih hl (Gs hs ha hn) (by omega) ?_
   unfold Qx at hS
   omega
structure Ty (c:Campaign) (fl:List DeviceS) (l:List MarkS) (T S:Int) (bs:List Int) (nx:Int):Prop where
 r:Kk c fl l T S bs
 n:nx=(dG c fl l T bs).getD (-1)
 f:Wp c fl l T S bs
theorem YS {l:List MarkS} {f a a' t:Int} (h:t∈xE l f a'):t∈xE l f a∨(∃ x∈l,x.At=t∧a < t∧t≤a'):=by
 unfold xE at h ⊢
 rcases ad.1 h with e | h
 ·exact .inl (by rw [e];exact ds)
 ·obtain ⟨m,hm,rfl⟩:=ap.1 h
  have HQ:=bk.1 hm
  have:=HQ.2
  simp only [ac,decide_eq_true_eq] at this
  by_cases hx:m.At≤a
  ·refine .inl (bO _ (ap.2 ⟨m,bk.2 ⟨HQ.1,by simp;omega⟩,rfl⟩))
  ·exact .inr ⟨m,HQ.1,rfl,by omega,this.2⟩
theorem MA {l:List MarkS} (f a:Int) (hf:f≤a):∃ t∈xE l f a,t≤a∧∀ x∈l,¬ (t < x.At∧x.At≤a):=by
 induction l with
 | nil=>exact ⟨f,by unfold xE;simp,hf,by simp⟩
 | cons x r ih=>
   obtain ⟨t,t1,t2,t3⟩:=ih
   have nU:t∈xE (x :: r) f a:=by
    unfold xE at t1 ⊢
    rcases ad.1 t1 with e | h
    ·rw [e];exact ds
    ·refine bO _ ?_
     obtain ⟨m,hm,e⟩:=ap.1 h
     have HQ:=bk.1 hm
     exact ap.2 ⟨m,bk.2 ⟨bO _ HQ.1,HQ.2⟩,e⟩
   by_cases hx:t < x.At∧x.At≤a
   ·have Ll:=(Mz t1).1
    refine ⟨x.At,?_,hx.2,fun y hy=>?_⟩
    ·unfold xE
     refine bO _ (ap.2 ⟨x,bk.2 ⟨ds,by simp;omega⟩,rfl⟩)
    ·rcases ad.1 hy with rfl | hy
     ·omega
     ·have:=t3 y hy;omega
   ·refine ⟨t,nU,t2,fun y hy=>?_⟩
    rcases ad.1 hy with rfl | hy
    ·exact hx
    ·exact t3 y hy
theorem EP {c:Campaign} {fl:List DeviceS} {l:List MarkS} {s:CS} {n:Nat} (h:SX c fl s (l.take n)) {T:Int} (h1:∀ x∈l.take n,x.At≤T) (h2:∀ x∈l.drop n,T < x.At) {w:Nat} (hw:w < c.aI.length):s.open_.getD w 0=0↔j9 c fl l w T=true:=by
 rw [h.Xf w hw]
 unfold Lv j9
 rw [d6]
 constructor
 ·intro e d hd
  have e':(fl.filter (HV c (l.take n) w))=[]:=List.length_eq_zero_iff.1 (by omega)
  rw [cA] at e'
  have:=e' d hd
  unfold HV at this
  rw [yH c d l n T h1 h2] at this
  cases a:decide (pG c d.Key=w)<;>cases b:wQ c (xW c d l T)<;>simp_all
 ·intro e
  have:(fl.filter (HV c (l.take n) w))=[]:=by
   rw [cA]
   intro d hd
   have:=e d hd
   unfold HV
   rw [yH c d l n T h1 h2]
   cases a:decide (pG c d.Key=w)<;>cases b:wQ c (xW c d l T)<;>simp_all
  rw [this];rfl
section
variable {c:Campaign} {fl:List DeviceS} {l:List MarkS} (H:Dm c fl l) {s:CS} {n:Nat} (h:SX c fl s (l.take n)) {T T':Int} (hT:T≤T') (hTb:T'≤345686399999) (hTa:-1≤T)
 (h1:∀ x∈l.take n,x.At≤T') (h2:∀ x∈l.drop n,T' < x.At) (NU:(∀ x∈l,¬ (T < x.At∧x.At≤T'))∨T'=T+1) {S0:Int} (hS:Qx T S0 (SA c fl (l.take n)))
include H h hT hTb hTa h1 h2 NU hS
def Wq (c:Campaign) (fl:List DeviceS) (l:List MarkS) (T T' S1:Int) (bs:List Int) (nx:Int) (x:List Int×Int):Prop:=
 Kk c fl l T' S1 x.1∧((x.1=bs∧x.2=nx)∨(x.1.length≠0∧T < ic x.1∧x.2=if x.1.length < c.aI.length∧j9 c fl l (x.1.length - 1) T'=true then ic x.1+(sO c x.1.length).sx else -1))
theorem Lw (hP:Ty c fl l T S0 s.aN s.cw) (l5:List Int) (n6:Int) (hI:Wq c fl l T T' (SA c fl (l.take n)) s.aN s.cw (l5,n6)):
 bK s T' l5 n6=bS s T' l5 ((dG c fl l T' l5).getD (-1))∧∀ v,dG c fl l T' l5=some v→T < v∨(0≤SA c fl (l.take n)∧SA c fl (l.take n)≤v):=by
 have hc:=H.c_
 have YT:l.Pairwise (fun a b=>a.At≤b.At):=H.s_.imp Mt
 obtain ⟨hR,hI⟩:=hI
 simp only at hR hI
 obtain ⟨r1,r2,r3⟩:=Am hc hR
 have Qz:=hc.len
 have Mr:∀ m:Int,bJ s T' l5 m false=bS s T' l5 m:=fun m=>by unfold bJ;rw [if_neg (by simp)]
 have pos:∀ m:Int,0≤m→bK s T' l5 m=bS s T' l5 m:=fun m hm=>by unfold bK;rw [if_neg (by omega),Mr]
 have full:∀ m:Int,¬ l5.length < c.aI.length→bK s T' l5 m=bS s T' l5 m:=by
  intro m hm
  unfold bK
  rw [h.c_]
  split
  ·split
   ·rw [if_neg (by omega),Mr]
   ·exact Mr m
  ·exact Mr m
 have neg:l5.length≠0→l5.length < c.aI.length→bK s T' l5 (-1)=bS s T' l5 (if j9 c fl l (l5.length - 1) T'=true then T'+(sO c l5.length).sx else -1):=by
  intro k0 k1
  have w1:bE ((l5.length:Int) - 1)=((l5.length - 1:Nat):Int):=by rw [bn]<;>omega
  unfold bK
  rw [if_pos (by omega),if_pos (by omega),h.c_,if_pos (by omega),w1,nD (l:=s.open_) (by rw [h.open_];omega)]
  simp only [aa]
  have Kc:=EP h h1 h2 (w:=l5.length - 1) (by omega)
  by_cases ha:j9 c fl l (l5.length - 1) T'=true
  ·rw [if_pos (Kc.2 ha),if_pos ha]
   have U1:idx l5 ((l5.length - 1:Nat):Int)=some (ic l5):=by
    refine oP ?_
    unfold ic
    rw [g8]
    cases hx:l5[l5.length - 1]? with
    | none=>rw [g9] at hx;omega
    | some y=>rfl
   rw [U1]
   simp only [aa]
   have Tz:=hc.wait _ (pc k1)
   unfold bJ
   rw [if_pos (by simpa using r3 k0),h.c_,yL k1]
   simp only [aa]
   rw [bn (by omega) (by omega)]
  ·rw [if_neg (fun e=>ha (Kc.1 e)),if_neg ha,Mr]
 rcases hI with ⟨rfl,rfl⟩ | ⟨k0,k1,k2⟩
 ·
  cases hn:dG c fl l T s.aN with
  | some v=>
    have hv:=zd hc hn r2
    have Iv:=Gs YT hT hn
    rw [Iv]
    refine ⟨?_,fun v' e=>?_⟩
    ·rw [hP.n,hn];exact pos v hv.1
    ·obtain rfl:=aH e
     rcases hP.f v hn with a | a
     ·exact .inl a
     ·unfold Qx at hS;right;omega
  | none=>
    have Kl:s.cw=-1:=by rw [hP.n,hn];rfl
    have k0:s.aN.length≠0:=by
     intro e;unfold dG at hn;rw [if_pos e] at hn;cases hn
    rw [Kl]
    by_cases k1:s.aN.length < c.aI.length
    ·have Mn:=(Am hc hP.r).2.2 k0
     unfold dG at hn
     rw [if_neg k0,if_pos k1,e6,d2] at hn
     have wb:∀ t,t∈xE l (ic s.aN) T'→j9 c fl l (s.aN.length - 1) t=true→t=T'∧T < T':=by
      intro t ht hq
      rcases YS (a:=T) ht with e | ⟨x,hx,e1,e2,e3⟩
      ·exact absurd hq (hn t e)
      ·rcases NU with g | g
       ·exact absurd ⟨by omega,by omega⟩ (g x hx)
       ·exact ⟨by omega,by omega⟩
     have yN:dG c fl l T' s.aN=if j9 c fl l (s.aN.length - 1) T'=true then some (T'+(sO c s.aN.length).sx) else none:=by
      unfold dG
      rw [if_neg k0,if_pos k1]
      by_cases ha:j9 c fl l (s.aN.length - 1) T'=true
      ·rw [if_pos ha]
       have hex:∃ x∈l,T < x.At∧x.At≤T':=by
        refine Classical.byContradiction (fun CK=>?_)
        have ac3:∀ x∈l,¬ (T < x.At∧x.At≤T'):=fun x hx hh=>CK ⟨x,hx,hh⟩
        obtain ⟨t,t1,t2,t3⟩:=MA (l:=l) (ic s.aN) T Mn
        have:=BZ (c:=c) (fl:=fl) (l:=l) (t:=t) (t':=T') (by omega) (fun x hx hh=>by
         have a1:=t3 x hx
         have a2:=ac3 x hx
         omega) (s.aN.length - 1)
        exact hn t t1 (by rw [this];exact ha)
       obtain ⟨x,hx,x1,x2⟩:=hex
       have lK:T'∈xE l (ic s.aN) T':=by
        have:x.At=T':=by
         rcases NU with g | g
         ·exact absurd ⟨x1,x2⟩ (g x hx)
         ·omega
        unfold xE
        exact bO _ (ap.2 ⟨x,bk.2 ⟨hx,by simp;omega⟩,this⟩)
       cases hf:(xE l (ic s.aN) T').find? (j9 c fl l (s.aN.length - 1)) with
       | none=>rw [d2] at hf;exact absurd ha (hf T' lK)
       | some t=>
         have:=wb t (d0 hf) (hC hf)
         rw [this.1];rfl
      ·rw [if_neg ha,e6,d2]
       intro t ht hq
       have:=wb t ht hq
       rw [this.1] at hq
       exact ha hq
     rw [yN,neg k0 k1]
     refine ⟨?_,fun v hv=>?_⟩
     ·split<;>rfl
     ·split at hv
      ·rename_i ha
       left
       have Tz:=hc.wait _ (pc k1)
       have hv:=aH hv
       have hf:dG c fl l T' s.aN=some (T'+(sO c s.aN.length).sx):=by rw [yN,if_pos ha]
       unfold dG at hf
       rw [if_neg k0,if_pos k1] at hf
       obtain ⟨t,ht,_⟩:=dY.1 hf
       have:=wb t (d0 ht) (hC ht)
       omega
      ·cases hv
    ·have yN:dG c fl l T' s.aN=none:=by unfold dG;rw [if_neg k0,if_neg k1]
     rw [yN]
     exact ⟨full _ k1,fun v hv=>by cases hv⟩
 ·
  by_cases kw:l5.length < c.aI.length
  ·have hle:=r3 k0
   have Tz:=hc.wait _ (pc kw)
   have hfs:j9 c fl l (l5.length - 1) (ic l5)=j9 c fl l (l5.length - 1) T':=by
    refine BZ hle (fun x hx hh=>?_) _
    rcases NU with g | g
    ·exact g x hx ⟨by omega,hh.2⟩
    ·omega
   have yN:dG c fl l T' l5=if j9 c fl l (l5.length - 1) T'=true then some (ic l5+(sO c l5.length).sx) else none:=by
    unfold dG
    rw [if_neg k0,if_pos kw]
    by_cases ha:j9 c fl l (l5.length - 1) T'=true
    ·rw [if_pos ha]
     unfold xE
     rw [d1,hfs,ha];rfl
    ·rw [if_neg ha,e6,d2]
     intro t ht hq
     rcases ad.1 (show t∈ic l5 :: _ from ht) with e | hm
     ·rw [e,hfs] at hq;exact ha hq
     ·obtain ⟨m,hm,e⟩:=ap.1 hm
      have HQ:=bk.1 hm
      have:=HQ.2
      simp only [ac,decide_eq_true_eq] at this
      rcases NU with g | g
      ·exact g m HQ.1 ⟨by omega,by omega⟩
      ·have:t=T':=by omega
       rw [this] at hq;exact ha hq
   rw [yN,k2]
   refine ⟨?_,fun v hv=>?_⟩
   ·by_cases ha:j9 c fl l (l5.length - 1) T'=true
    ·rw [if_pos ⟨kw,ha⟩,if_pos ha];exact pos _ (by omega)
    ·rw [if_neg (fun e=>ha e.2),if_neg ha,neg k0 kw,if_neg ha];rfl
   ·split at hv
    ·have:=aH hv;left;omega
    ·cases hv
  ·have yN:dG c fl l T' l5=none:=by unfold dG;rw [if_neg k0,if_neg kw]
   rw [yN,k2,if_neg (fun e=>kw e.1)]
   exact ⟨full _ kw,fun v hv=>by cases hv⟩
theorem NV (hP:Ty c fl l T S0 s.aN s.cw):Ok (cF s T') (fun r=>EN r s∧SX c fl r (l.take n)∧Ty c fl l T' (SA c fl (l.take n)) r.aN r.cw):=by
 have hc:=H.c_
 have YT:l.Pairwise (fun a b=>a.At≤b.At):=H.s_.imp Mt
 have Qz:=hc.len
 have hcm:=hc.UI
 unfold cF jM
 refine Ok.iter (fun x:List Int×Int=>c.aI.length - x.1.length) (Wq c fl l T T' (SA c fl (l.take n)) s.aN s.cw) ?_ _ ⟨Qy YT hT hS hP.r,.inl ⟨rfl,rfl⟩⟩
 rintro ⟨l5,n6⟩ hI
 obtain ⟨e1,e2⟩:=Lw H h hT hTb hTa h1 h2 NU hS hP l5 n6 hI
 have hR:=hI.1
 simp only at hR ⊢
 obtain ⟨r1,r2,r3⟩:=Am hc hR
 rw [e1]
 generalize An:(dG c fl l T' l5).getD (-1)=n10
 unfold bS fu
 have JF:0≤n10→dG c fl l T' l5=some n10:=by
  intro h0
  cases hx:dG c fl l T' l5 with
  | none=>rw [hx] at An;simp at An;omega
  | some v=>rw [hx] at An;simp at An;rw [An]
 by_cases Bs:((decide (n10 < (0:Int)))||((decide (T' < n10))||((decide ((0:Int) < (l5.length:Int)))&&((decide ((0:Int)≤s.bf))&&(decide (s.bf≤n10))))))=true
 ·rw [if_pos Bs]
  refine Ok.inr (Ok.ret ⟨⟨rfl,rfl,rfl,rfl⟩,⟨⟨h.c_,h.nw,h.cL,h.kd,h.open_,h.bt,h.aY,r1,fun h0=>yM hc (JF h0)⟩,h.Xf,h.en,h.fa,h.sp⟩,⟨hR,An.symm,fun v hv=>?_⟩⟩)
  have hvn:n10=v:=by rw [← An,hv];rfl
  have XQ:=(zd hc hv r2).1
  rw [h.sp] at Bs
  simp only [b8,ac,decide_eq_true_eq] at Bs
  omega
 ·rw [if_neg Bs]
  rw [h.sp] at Bs
  simp only [b8,ac,decide_eq_true_eq,not_or] at Bs
  have Kl:=JF (by omega)
  have eI:=yM hc Kl
  have Of:=YQ c fl (l.take n) (H.s_.sublist (eX n l))
  have hns:¬ (0≤SA c fl (l.take n)∧SA c fl (l.take n)≤n10):=by
   intro hh
   by_cases h0:l5.length=0
   ·have:=(zd hc Kl r2).2.1 h0
    omega
   ·exact Bs.2.2 ⟨by omega,hh⟩
  have hR':Kk c fl l T' (SA c fl (l.take n)) (l5++[n10]):=.snoc hR eI Kl (by omega) hns
  have hTn:T < n10:=by
   rcases e2 n10 Kl with a | a
   ·exact a
   ·exact absurd a hns
  refine Ok.app (by simp;omega) ?_
  have w1:bE ((l5.length:Int)+1)=((l5.length+1:Nat):Int):=by rw [bn]<;>omega
  rw [w1]
  have j5:∀ n17:Int,n17=(if l5.length+1 < c.aI.length∧j9 c fl l l5.length T'=true then n10+(sO c (l5.length+1)).sx else -1)→Ok (cM (l5++[n10]) n17) (Rz (fun x:List Int×Int=>c.aI.length - x.1.length) (Wq c fl l T T' (SA c fl (l.take n)) s.aN s.cw) (fun r=>EN r s∧SX c fl r (l.take n)∧Ty c fl l T' (SA c fl (l.take n)) r.aN r.cw) (l5,n6)):=by
   intro n17 NW
   unfold cM
   refine Ok.ret ⟨⟨hR',.inr ⟨by simp,by simp only;rw [uY];exact hTn,?_⟩⟩,by simp;omega⟩
   simp only
   rw [uY,bW,cs,NW]
   rfl
  rw [h.c_]
  by_cases hk:l5.length+1 < c.aI.length
  ·rw [if_pos (by omega),nD (l:=s.open_) (by rw [h.open_];omega)]
   simp only [aa]
   have Kc:=EP h h1 h2 (w:=l5.length) eI
   unfold cN
   by_cases ha:j9 c fl l l5.length T'=true
   ·rw [if_pos (decide_eq_true (Kc.2 ha)),w1,h.c_,yL hk]
    simp only [aa]
    have Tz:=hc.wait _ (pc hk)
    refine j5 _ ?_
    rw [if_pos ⟨hk,ha⟩,bn (by omega) (by omega)]
   ·rw [if_neg (by rw [decide_eq_false (fun e=>ha (Kc.1 e))];exact ce)]
    refine j5 _ ?_
    rw [if_neg (fun e=>ha e.2)]
  ·rw [if_neg (by omega)]
   unfold cN
   rw [if_neg (by simp)]
   refine j5 _ ?_
   rw [if_neg (fun e=>hk e.1)]
end
theorem ER (p:Int→Bool):∀ (xs:List Int) (i:Int),0≤i→(lI p xs i=-1∧xs.find? p=none)∨∃ (j:Nat) (x:Int),lI p xs i=i+j∧xs[j]? =some x∧xs.find? p=some x
 | [],i,_=>.inl ⟨rfl,rfl⟩
 | y :: r,i,h=>by
   rw [d1]
   unfold lI
   cases hy:p y with
   | true=>rw [if_pos rfl];exact .inr ⟨0,y,by simp,rfl,rfl⟩
   | false=>
     rw [if_neg (by simp)]
     rcases ER p r (i+1) (by omega) with ⟨h1,h2⟩ | ⟨j,x,h1,h2,h3⟩
     ·exact .inl ⟨h1,h2⟩
     ·exact .inr ⟨j+1,x,by rw [h1];omega,by simpa using h2,h3⟩
theorem YU (X:List Int) (h:X.length≤5000) (hs:X.Pairwise (fun a b=>a≤b)):pP X.length (fun r:List Int=>r.length) (mK X)=some X:=by
 have e:Na X=X:=by
  unfold Na
  exact List.mergeSort_of_pairwise (hs.imp (fun {a b} C9=>by simpa using C9))
 unfold mK IA
 rw [if_pos (by omega),e]
 unfold pP
 simp
theorem JG {c:Campaign} {fl:List DeviceS} {l:List MarkS} (H:Dm c fl l) (d:DeviceS) (t:Int):BM c d l t=some (wQ c (xW c d l t)):=by
 have hl:=H.l_
 unfold BM y7
 rw [yD c d l t (by omega) (fun q hq=>(H.m_ q hq).kind)]
 simp only [aa]
 unfold wQ
 cases decide ((xW c d l t).an.Version=c.Target)<;>simp
theorem Wr {c:Campaign} {fl:List DeviceS} {l:List MarkS} (H:Dm c fl l) (k:Nat) (hk:0 < k∧k≤20) (t:Int):ou t fl c (k:Int) l=some (j9 c fl l (k - 1) t):=by
 have FD:=H.UL
 have w1:bE ((k:Int) - 1)=((k - 1:Nat):Int):=by rw [bn]<;>omega
 have hf:∀ d∈fl,kR d c (k:Int) l t=some (decide (pG c d.Key=k - 1)&&!wQ c (xW c d l t)):=by
  intro d hd
  unfold kR j0
  rw [yJ c H.c_ d.Key (H.f_.key d hd),w1]
  simp only [aa]
  by_cases e:pG c d.Key=k - 1
  ·rw [if_pos (by omega),JG H]
   simp [e]
  ·rw [if_neg (by omega)]
   simp [e]
 unfold ou
 rw [show eG fl (fun y0=>kR y0 c (k:Int) l t)=some (fl.any (fun d=>decide (pG c d.Key=k - 1)&&!wQ c (xW c d l t))) from wH fl _ _ hf (by omega)]
 simp only [aa]
 unfold j9
 rw [List.not_any_eq_all_not]
 simp only [Bool.not_and,Bool.not_not]
theorem ES (c:Campaign) (fl:List DeviceS) (l:List MarkS) (at_ S:Int) (bs:List Int) (k from_:Int) (hl:(l.length:Int)≤3000):∀ (m n:Nat) (X:List Int),n+m=l.length→X.length≤n+1→
 tb c fl l at_ S bs k from_ X (n:Int)=ta c fl l at_ S bs k (X++((l.drop n).filter (fun m=>decide (from_≤m.At)&&decide (m.At≤at_))).map MarkS.At)
 | 0,n,X,h,hX=>by
   unfold tb
   rw [iter_eq,ow,if_neg (by simp only;omega),bb,bo (by omega)]
   simp
 | m+1,n,X,h,hX=>by
   obtain ⟨q,hq,Tp,hd⟩:=gj l (i:=(n:Int)) (by omega) (by omega)
   rw [show ((n:Int)).toNat=n by omega,show ((n:Int)+1).toNat=n+1 by omega] at hd
   have w1:bE ((n:Int)+1)=((n+1:Nat):Int):=by rw [bn]<;>omega
   have ih:=fun X hX=>ES c fl l at_ S bs k from_ hl m (n+1) X (by omega) hX
   unfold tb at ih ⊢
   rw [iter_eq,ow,if_pos (by simp only;omega),hd,al]
   simp only
   rw [hq]
   simp only [aa]
   rw [yA]
   unfold pZ
   rw [w1]
   by_cases hr:(decide (from_≤q.At)&&decide (q.At≤at_))=true
   ·rw [if_pos hr,if_pos hr,lx (by simp;omega)]
    simp only [aa,bD]
    rw [ih _ (by simp;omega),a7,cK];rfl
   ·rw [if_neg hr,if_neg hr]
    simp only [aa,bD]
    exact ih X (by omega)
theorem NX {l:List MarkS} (hs:l.Pairwise (fun a b=>a.At≤b.At)) (f a:Int):(xE l f a).Pairwise (fun x y=>x≤y):=by
 unfold xE
 rw [be]
 refine ⟨fun y hy=>?_,?_⟩
 ·obtain ⟨m,hm,rfl⟩:=ap.1 hy
  have:=(bk.1 hm).2
  simp only [ac,decide_eq_true_eq] at this
  exact this.1
 ·rw [eq]
  exact gI _ hs
theorem Ws (l:List MarkS) (f a:Int):(xE l f a).length≤l.length+1:=by
 unfold xE
 rw [b9,el]
 have:=bX (fun m:MarkS=>decide (f≤m.At)&&decide (m.At≤a)) l
 omega
theorem QA (c:Campaign) (at_ S:Int) (bs:List Int) (n15 n18:Int) (hb:bs.length≤1000):ov at_ S bs n15 n18=if at_ < n18∨(0≤S∧S≤n18) then some (.inr bs) else some (.inl (bs++[n18],n18,bE (n15+1))):=by
 unfold ov sZ
 by_cases h:at_ < n18∨(0≤S∧S≤n18)
 ·rw [if_pos h,if_pos (by simpa using h)];rfl
 ·rw [if_neg h,if_neg (by simpa using h),lx (by simp;omega)];rfl
theorem JH {c:Campaign} {fl:List DeviceS} {l:List MarkS} (H:Dm c fl l) {at_ S:Int} (qo:at_≤345686399999) {bs:List Int} (hR:Kk c fl l at_ S bs) (n14:Int) (h14:bs.length=0→n14=c.At):
 (∀ nx,dG c fl l at_ bs=some nx→¬ (at_ < nx∨(0≤S∧S≤nx))→kG c fl l at_ S bs n14 (bs.length:Int)=kG c fl l at_ S (bs++[nx]) nx ((bs++[nx]).length:Int))∧
 (Wp c fl l at_ S bs→kG c fl l at_ S bs n14 (bs.length:Int)=some bs):=by
 have hc:=H.c_
 have Qz:=hc.len
 have hlb:=H.l_
 have YT:l.Pairwise (fun a b=>a.At≤b.At):=H.s_.imp Mt
 obtain ⟨r1,r2,r3⟩:=Am hc hR
 have w1:∀ nx:Int,bE ((bs.length:Int)+1)=((bs++[nx]).length:Int):=fun nx=>by rw [bW,cs,bn]<;>omega
 have key:ox c fl l at_ S bs n14 (bs.length:Int)=match dG c fl l at_ bs with
  | none=>some (.inr bs)
  | some nx=>if at_ < nx∨(0≤S∧S≤nx) then some (.inr bs) else some (.inl (bs++[nx],nx,bE ((bs.length:Int)+1))):=by
  unfold ox
  by_cases k1:bs.length < c.aI.length
  ·rw [if_pos (by omega)]
   by_cases k0:bs.length=0
   ·rw [if_neg (by omega),QA c at_ S bs _ _ (by omega),h14 k0]
    unfold dG
    rw [if_pos k0]
   ·have hle:=r3 k0
    have wm:bE ((bs.length:Int) - 1)=((bs.length - 1:Nat):Int):=by rw [bn]<;>omega
    have U1:idx bs ((bs.length - 1:Nat):Int)=some (ic bs):=by
     refine oP ?_
     unfold ic
     rw [g8]
     cases hx:bs[bs.length - 1]? with
     | none=>rw [g9] at hx;omega
     | some y=>rfl
    rw [if_pos (by omega),wm,U1]
    simp only [aa]
    have ht:=ES c fl l at_ S bs (bs.length:Int) (ic bs) hlb l.length 0 [ic bs] (by omega) (by simp)
    rw [bp] at ht
    rw [show (([ic bs]:List Int)++(l.filter (fun m=>decide (ic bs≤m.At)&&decide (m.At≤at_))).map MarkS.At)=xE l (ic bs) at_ from rfl] at ht
    refine Eq.trans ht ?_
    have XG:=Ws l (ic bs) at_
    unfold ta
    rw [YU _ (by omega) (NX YT _ _)]
    simp only [aa]
    rw [show jo (xE l (ic bs) at_) (fun y0=>ou y0 fl c (bs.length:Int) l)=some (lI (j9 c fl l (bs.length - 1)) (xE l (ic bs) at_) 0) from qm _ _ _ (fun t _=>Wr H bs.length ⟨by omega,by omega⟩ t) (by omega)]
    simp only [aa]
    unfold dG
    rw [if_neg k0,if_pos k1]
    rcases ER (j9 c fl l (bs.length - 1)) (xE l (ic bs) at_) 0 (by omega) with ⟨f1,f2⟩ | ⟨j,t,f1,f2,f3⟩
    ·rw [f1,f2,if_pos (by omega)];rfl
    ·rw [f1,f3,if_neg (by omega),Int.zero_add,oP f2,yL k1]
     simp only [aa,Option.map_some]
     have Tz:=hc.wait _ (pc k1)
     have htg:=Mz (d0 f3)
     rw [bn (by omega) (by omega),QA c at_ S bs _ _ (by omega)]
  ·rw [if_neg (by omega)]
   have:dG c fl l at_ bs=none:=by
    unfold dG
    have:=Gr hc
    rw [if_neg (by omega),if_neg k1]
   rw [this];rfl
 refine ⟨fun nx hn hb=>?_,fun hF=>?_⟩
 ·rw [hn] at key
  simp only at key
  rw [if_neg hb] at key
  unfold kG
  conv=>lhs;rw [iter_eq]
  simp only
  rw [key]
  simp only [aa,bD]
  rw [w1 nx]
 ·unfold kG
  rw [iter_eq]
  simp only
  rw [key]
  cases hn:dG c fl l at_ bs with
  | none=>rfl
  | some nx=>simp only;rw [if_pos (hF nx hn)];rfl
theorem NY {c:Campaign} {fl:List DeviceS} {l:List MarkS} (H:Dm c fl l) {at_ S:Int} (qo:at_≤345686399999) {bs:List Int} (hR:Kk c fl l at_ S bs):∃ n14,(bs.length=0→n14=c.At)∧kG c fl l at_ S [] c.At 0=kG c fl l at_ S bs n14 (bs.length:Int):=by
 induction hR with
 | nil=>exact ⟨c.At,fun _=>rfl,rfl⟩
 | snoc h hl hn ha hs ih=>
   obtain ⟨n14,i1,i2⟩:=ih
   rename_i bs nx
   refine ⟨nx,fun h=>by simp at h,?_⟩
   rw [i2]
   exact (JH H qo h n14 i1).1 nx hn (by omega)
theorem JI {c:Campaign} {fl:List DeviceS} {l:List MarkS} (H:Dm c fl l) {at_ S:Int} (qo:at_≤345686399999) (hS:kF c fl l at_=some S) {bs:List Int} (hR:Kk c fl l at_ S bs) (hF:Wp c fl l at_ S bs):sF c fl l at_=some bs:=by
 unfold sF
 rw [hS]
 simp only [aa]
 obtain ⟨n14,i1,i2⟩:=NY H qo hR
 rw [i2]
 exact (JH H qo hR n14 i1).2 hF
def RA {α:Type} (cf:α→α→Int) (Gt:α→α→Prop) (Z:List α):Prop:=Z.Pairwise (fun a b=>¬ cf b a < 0∧(¬ cf a b < 0→Gt a b))
theorem Lx {α:Type} (qN:α→α→Option Int) (cf:α→α→Int) (Gt:α→α→Prop) (n4:Int) (hn:n4≤1000000) (x:α):∀ (k:Nat) (P R post:List α),P.length=k→(P.length:Int)≤1000000→
 (∀ y∈P,qN x y=some (cf x y))→Fq cf (x :: (P++R))→RA cf Gt (P++R)→(∀ r∈R,cf x r < 0)→(∀ y∈P,Gt y x)→
 ∃ Z,Bb 0 qN n4 (P++x :: (R++post)) P.length=some (.inl (Z++post,bE (n4+1)))∧Z.Perm (x :: (P++R))∧RA cf Gt Z:=by
 intro k
 induction k with
 | zero=>
   intro P R post hP hl hf hO hs hR h2
   obtain rfl:P=[]:=hG hP
   refine ⟨x :: R,?_,by simp,?_⟩
   ·unfold Bb
    rw [iter_eq,Df,if_neg (by simp),Ba,if_neg (by simp),bb];simp
   ·refine be.2 ⟨fun r hr=>⟨fun eI=>?_,fun Ue=>absurd (hR r hr) Ue⟩,by simpa [RA] using hs⟩
    exact hO.NC x (by simp) (hO.tr x (by simp) r (by simp [hr]) x (by simp) (hR r hr) eI)
 | succ k ih=>
   intro P R post hP hl hf hO hs hR h2
   obtain ⟨Q,y,rfl⟩:∃ Q y,P=Q++[y]:=by
    rcases ge P with h | ⟨Q,y,h⟩
    ·rw [h] at hP;simp at hP
    ·exact ⟨Q,y,by simpa using h⟩
   have hQ:Q.length=k:=by simpa using hP
   have hlen:((Q++[y]).length:Int)=Q.length+1:=by simp
   have hlq:(Q.length:Int)+1≤1000000:=by rw [← hlen];exact hl
   have w1:bE ((Q.length:Int)+1 - 1)=Q.length:=by rw [bn]<;>omega
   have e1:(Q++[y])++x :: (R++post)=Q++y :: x :: (R++post):=by simp
   have i1:idx (Q++y :: x :: (R++post)) ((Q.length:Int)+1)=some x:=by
    have:=Hl (Q++[y]) x (R++post) (i:=(Q.length:Int)+1) (by simp)
    simpa using this
   have i0:idx (Q++y :: x :: (R++post)) (Q.length:Int)=some y:=Hl Q y _ rfl
   rw [e1,hlen]
   by_cases hc:cf x y < 0
   ·obtain ⟨Z,z1,z2,z3⟩:=ih Q (y :: R) post hQ (by omega) (fun z hz=>hf z (by simp [hz])) (hO.mono (fun z hz=>by simp at hz ⊢;rcases hz with h | h | h | h<;>simp [h])) (by simpa using hs) (fun r hr=>by rcases ad.1 hr with rfl | hr;exact hc;exact hR r hr) (fun z hz=>h2 z (by simp [hz]))
    refine ⟨Z,?_,z2.trans (by simp),z3⟩
    unfold Bb at z1 ⊢
    rw [iter_eq,Df,if_pos (by simp only;omega)]
    simp only [i1,w1,i0,aa,hf y (by simp),hc,decide_true]
    unfold Ba
    rw [if_pos rfl,w1]
    simp only [i0,i1,aa]
    have i2:idx ((Q++y :: x :: (R++post)).set ((Q.length:Int)+1).toNat y) (Q.length:Int)=some y:=by
     rw [show ((Q.length:Int)+1).toNat=Q.length+1 by omega]
     unfold idx
     rw [if_pos (by omega),List.getElem?_set_ne (by simp)]
     simp
    rw [i2]
    simp only [aa,bD]
    have e2:((Q++y :: x :: (R++post)).set ((Q.length:Int)+1).toNat y).set ((Q.length:Int)).toNat x=Q++x :: (y :: R++post):=by
     rw [show ((Q.length:Int)+1).toNat=Q.length+1 by omega,show ((Q.length:Int)).toNat=Q.length by omega,P5];simp
    rw [e2]
    exact z1
   ·refine ⟨Q++y :: x :: R,?_,?_,?_⟩
    ·unfold Bb
     rw [iter_eq,Df,if_pos (by simp only;omega)]
     simp only [i1,w1,i0,aa,hf y (by simp),hc,decide_false]
     unfold Ba
     rw [if_neg (by simp),bb];simp
    ·have:(Q++y :: x :: R).Perm (x :: (Q++y :: R)):=by
      have h:=hM (a:=x) (l₁:=Q++[y]) (l₂:=R)
      simpa using h
     simpa using this
    ·unfold RA at hs ⊢
     have Jn:(Q++y :: R).Pairwise (fun a b=>¬ cf b a < 0∧(¬ cf a b < 0→Gt a b)):=by simpa using hs
     rw [e5,be] at Jn ⊢
     obtain ⟨a1,⟨a2,a3⟩,a4⟩:=Jn
     have hxQ:∀ q∈Q,¬ cf x q < 0:=fun q hq=>hO.ntr x (by simp) y (by simp) q (by simp [hq]) hc (a4 q hq y (by simp)).1
     refine ⟨a1,⟨fun z hz=>?_,be.2 ⟨fun r hr=>⟨fun eI=>?_,fun Ue=>absurd (hR r hr) Ue⟩,a3⟩⟩,fun q hq z hz=>?_⟩
     ·rcases ad.1 hz with rfl | hz
      ·exact ⟨hc,fun _=>h2 y (by simp)⟩
      ·exact a2 z hz
     ·exact hO.NC x (by simp) (hO.tr x (by simp) r (by simp [hr]) x (by simp) (hR r hr) eI)
     ·rcases ad.1 hz with rfl | hz
      ·exact a4 q hq z (by simp)
      ·rcases ad.1 hz with rfl | hz
       ·exact ⟨hxQ q hq,fun _=>h2 q (by simp [hq])⟩
       ·exact a4 q hq z (by simp [hz])
theorem Ly {α:Type} (qN:α→α→Option Int) (cf:α→α→Int) (Gt:α→α→Prop) (xs:List α) (hl:(xs.length:Int)≤100000) (hf:∀ x∈xs,∀ y∈xs,qN x y=some (cf x y)) (hO:Fq cf xs):∀ (n:Nat) (P post:List α) (i:Int),i=P.length→post.length=n→(P++post).Perm xs→RA cf Gt P→(∀ y∈P,∀ z∈post,Gt y z)→post.Pairwise Gt→
 ∃ Z,Bc 0 xs.length qN (P++post) i=some Z∧Z.Perm xs∧RA cf Gt Z:=by
 intro n
 induction n with
 | zero=>
   intro P post i hi hn hp hs h2 h3
   obtain rfl:post=[]:=hG hn
   have hlen:=hp.length_eq
   simp only [b5] at hp hlen ⊢
   refine ⟨P,?_,hp,hs⟩
   unfold Bc
   rw [iter_eq,Dg,if_neg (by simp only;omega),bb]
 | succ n ih=>
   intro P post i hi hn hp hs h2 h3
   match post,hn with
   | x :: r,hn=>
     have hlen:=hp.length_eq
     simp only [bW,b9] at hlen
     have lK:∀ z∈P++x :: r,z∈xs:=fun z hz=>hp.mem_iff.1 hz
     have Zi:=be.1 h3
     obtain ⟨Z,z1,z2,z3⟩:=Lx qN cf Gt i (by omega) x P.length P [] r rfl (by omega) (fun y hy=>hf x (lK x (by simp)) y (lK y (by simp [hy]))) (hO.mono (fun z hz=>lK z (by simp at hz ⊢;rcases hz with h | h<;>simp [h]))) (by simpa using hs) (by simp) (fun y hy=>h2 y hy x (by simp))
     simp only [b5,List.nil_append] at z1 z2
     have hzl:=z2.length_eq
     obtain ⟨Y,y1,y2,y3⟩:=ih Z r (i+1) (by rw [hi];simp at hzl;omega) (by simpa using hn) (by
      refine List.Perm.trans ?_ hp
      have:(Z++r).Perm ((x :: P)++r):=z2.append_right r
      refine this.trans ?_
      have h:=hM (a:=x) (l₁:=P) (l₂:=r)
      simpa using h.symm) z3 (fun y hy z hz=>by
       rcases ad.1 (z2.mem_iff.1 hy) with rfl | hy
       ·exact Zi.1 z hz
       ·exact h2 y hy z (bO _ hz)) Zi.2
     refine ⟨Y,?_,y2,y3⟩
     unfold Bc at y1 ⊢
     rw [iter_eq,Dg,if_pos (by simp only;omega)]
     simp only
     rw [← hi] at z1
     rw [z1]
     simp only [aa,bD]
     rw [bn (by omega) (by omega)]
     exact y1
theorem QB {α:Type} (qN:α→α→Option Int) (cf:α→α→Int) (Gt:α→α→Prop) (xs:List α) (hl:(xs.length:Int)≤100000) (hf:∀ x∈xs,∀ y∈xs,qN x y=some (cf x y)) (hO:Fq cf xs) (h2:xs.Pairwise Gt):∃ Z,YI xs 0 xs.length qN=some Z∧Z.Perm xs∧RA cf Gt Z:=by
 unfold YI
 rw [show bE (0+1)=1 by decide]
 cases xs with
 | nil=>
   refine ⟨[],?_,cz _,.nil⟩
   unfold Bc
   rw [iter_eq,Dg,if_neg (by simp),bb]
 | cons x r=>
   have OE:=be.1 h2
   exact Ly qN cf Gt (x :: r) hl hf hO r.length [x] r 1 (by simp) rfl (cz _) (by simp [RA]) (fun y hy z hz=>by
    rw [gc] at hy;subst hy;exact OE.1 z hz) OE.2
theorem lz {α σ A X:Type} (xs:List α) (mk:σ→Int→X) (f:X→Option (X⊕A)) (stp:σ→α→σ) (Inv:Int→σ→Prop) (E:σ→Option A)
 (h1:∀ s (i:Int) x,0≤i→i < xs.length→idx xs i=some x→Inv i s→f (mk s i)=some (.inl (mk (stp s x) (i+1)))∧Inv (i+1) (stp s x))
 (h2:∀ s,Inv xs.length s→f (mk s xs.length)=c8 .inr (E s)) (s:σ) (h0:Inv 0 s):iter f (mk s 0)=E (xs.foldl stp s):=by
 have key:∀ (n:Nat) (s:σ) (i:Int),0≤i→i+n=xs.length→Inv i s→iter f (mk s i)=E ((xs.drop i.toNat).foldl stp s):=by
  intro n
  induction n with
  | zero=>
    intro s i hi hn hv
    have:i=xs.length:=by omega
    subst this
    rw [iter_eq,h2 s hv,bb]
    simp
  | succ n ih=>
    intro s i hi hn hv
    obtain ⟨x,hx,_,hd⟩:=gj xs hi (by omega)
    obtain ⟨e1,e2⟩:=h1 s i x hi (by omega) hx hv
    rw [iter_eq,e1]
    simp only [aa,bD]
    rw [ih _ _ (by omega) (by omega) e2,hd]
    rfl
 have:=key xs.length s 0 (by omega) (by omega) h0
 simpa using this
theorem foldl_filter {α:Type} (p:α→Bool):∀ (xs acc:List α),xs.foldl (fun acc x=>if p x=true then acc++[x] else acc) acc=acc++xs.filter p
 | [],acc=>by simp
 | x :: r,acc=>by
   rw [af,foldl_filter p r,al]
   cases p x<;>simp
abbrev TA {A:Type} (N:Nat) (Inv:Int→Prop) (R:A→Prop) (i:Int):Int⊕A→Prop
 | .inl j=>j=i+1∧i < N∧Inv (i+1)
 | .inr a=>R a
theorem Ok.QC {A:Type} {f:Int→Option (Int⊕A)} {R:A→Prop} (N:Nat) (Inv:Int→Prop) (h0:Inv 0) (h:∀ i:Int,0≤i→i≤N→Inv i→Ok (f i) (TA N Inv R i)):Ok (Eng.iter f 0) R:=by
 refine Ok.iter (fun i:Int=>N+1 - i.toNat) (fun i:Int=>(0≤i∧i≤N)∧Inv i) (fun i hi=>?_) 0 ⟨⟨by omega,by omega⟩,h0⟩
 refine (h i hi.1.1 hi.1.2 hi.2).mono (fun r hr=>?_)
 cases r with
 | inl j=>
   simp only [Rz,TA] at hr ⊢
   obtain ⟨rfl,h2,h3⟩:=hr
   exact ⟨⟨by omega,h3⟩,by omega⟩
 | inr a=>exact hr
theorem take_succ {α:Type} {xs:List α} {i:Int} {x:α} (h0:0≤i) (h:idx xs i=some x):xs.take (i+1).toNat=xs.take i.toNat++[x]:=by
 obtain ⟨_,h1,h2⟩:=jX h
 rw [show (i+1).toNat=i.toNat+1 by omega,cm,h2];rfl
theorem Ok.QD {σ A X:Type} {f:X→Option (X⊕A)} {R:A→Prop} (N:Nat) (mk:σ→Int→X) (Inv:Int→σ→Prop)
 (h:∀ s (i:Int),0≤i→i≤N→Inv i s→Ok (f (mk s i)) (fun r=>(∃ s',r=.inl (mk s' (i+1))∧i < N∧Inv (i+1) s')∨∃ a,r=.inr a∧R a)) (s:σ) (h0:Inv 0 s):Ok (Eng.iter f (mk s 0)) R:=by
 have key:∀ (k:Nat) (s:σ) (i:Int),0≤i→i≤N→i+k=N+1→Inv i s→Ok (Eng.iter f (mk s i)) R:=by
  intro k
  induction k with
  | zero=>
    intro s i hi hN hk hv
    omega
  | succ k ih=>
    intro s i hi hN hk hv
    obtain ⟨r,h1,h2⟩:=h s i hi hN hv
    rw [iter_eq,h1]
    rcases h2 with ⟨s',rfl,h3,h4⟩ | ⟨a,rfl,h3⟩
    ·simp only [aa,bD]
     exact ih s' (i+1) (by omega) (by omega) (by omega) h4
    ·exact ⟨a,rfl,h3⟩
 exact key (N+1) s 0 (by omega) (by omega) (by omega) h0
theorem JJ (x:Int) (r:List Int):rk (x :: r)=if x≠0 then x else rk r:=rfl
theorem tG.or {α:Type} {c:α→α→Int} {f:α→α→List Int} (h:tG c) (k:tG fun a b=>rk (f a b)):tG fun a b=>rk (c a b :: f a b):=h.lex k
theorem tG.or0 {α:Type}:tG (fun (_ _:α)=>rk []):=⟨fun _ _=>rfl,fun h _=>absurd h (by simp [rk]),fun _ h=>absurd h (by simp [rk])⟩
theorem JK:∀ {l:List Int},rk l=0→∀ x∈l,x=0
 | [],_,x,hx=>by simp at hx
 | y :: r,h,x,hx=>by
   rw [JJ] at h
   by_cases h0:y=0
   ·rw [if_neg (by simpa using h0)] at h
    rcases ad.1 hx with rfl | hx
    ·exact h0
    ·exact JK h x hx
   ·rw [if_pos h0] at h;exact absurd h h0
theorem TB {tH at_:Int} (hz:-86400000≤tH∧tH≤86400000) (ha:0≤at_∧at_≤345686399999):
 (bE ((bE (at_+tH)).tmod 86400000+86400000)).tmod 86400000=(bE ((bE (at_+tH))+86400000)).tmod 86400000:=by
 rw [bn (x:=at_+tH) (by omega) (by omega),bn (x:=at_+tH+86400000) (by omega) (by omega),d3 (a:=at_+tH+86400000) (by omega)]
 have hb:=d4 (at_+tH) (show (0:Int) < 86400000 by omega)
 have hl:=e8 (at_+tH) (show (0:Int) < 86400000 by omega)
 rw [bn (x:=(at_+tH).tmod 86400000+86400000) (by omega) (by omega),d3 (a:=(at_+tH).tmod 86400000+86400000) (by omega)]
 by_cases h:0≤at_+tH
 ·rw [d3 h];omega
 ·have:=Int.neg_tmod (-(at_+tH)) 86400000
  rw [Int.neg_neg,d3 (show 0≤-(at_+tH) by omega)] at this
  rw [this];omega
theorem QE (c:Campaign) {tH at_:Int} (hz:-86400000≤tH∧tH≤86400000) (ha:0≤at_∧at_≤345686399999):kN c tH at_=sE c tH at_:=by
 unfold kN sE mI ud mJ ue
 rw [TB hz ha]
noncomputable def wO (c:Campaign) (a b:DeviceS):Int:=rk [dZ (pG c a.Key:Int) (pG c b.Key:Int),dZ (xn c a.Key) (xn c b.Key)]
theorem YV (c:Campaign):tG (wO c):=(yy.on fun d:DeviceS=>(pG c d.Key:Int)).or ((yy.on fun d:DeviceS=>xn c d.Key).or .or0)
noncomputable def dO (c:Campaign) (a b:DeviceS):Int:=rk [dZ (pG c a.Key:Int) (pG c b.Key:Int),dZ (xn c a.Key) (xn c b.Key),Lib.compareBytes a.Key b.Key]
theorem YW (c:Campaign):tG (dO c):=(yy.on fun d:DeviceS=>(pG c d.Key:Int)).or ((yy.on fun d:DeviceS=>xn c d.Key).or ((BS.on DeviceS.Key).or .or0))
theorem ac4 (a b c:Int):rk [a,b,c]=if rk [a,b]≠0 then rk [a,b] else c:=by
 have e0:∀ r,rk (0 :: r)=rk r:=fun _=>rfl
 have e1:∀ (x:Int) r,x≠0→rk (x :: r)=x:=fun x r h=>if_pos h
 by_cases ha:a=0
 ·subst ha
  rw [e0,e0]
  by_cases hb:b=0
  ·subst hb
   rw [e0,e0,if_neg (fun z=>z rfl)]
   by_cases hc:c=0
   ·subst hc;rfl
   ·exact e1 c [] hc
  ·rw [e1 b _ hb,e1 b _ hb,if_pos hb]
 ·rw [e1 a _ ha,e1 a _ ha,if_pos ha]
theorem YX (c:Campaign) (a b:DeviceS):dO c a b=if wO c a b≠0 then wO c a b else Lib.compareBytes a.Key b.Key:=by
 unfold dO wO
 exact ac4 _ _ _
theorem TC {c:Campaign} {Z:List DeviceS} (h:RA (wO c) (fun a b=>Lib.compareBytes a.Key b.Key < 0) Z):UF (dO c) Z:=by
 refine List.Pairwise.imp (fun {a b} C9 YP=>?_) h
 obtain ⟨h1,h2⟩:=C9
 have hn:=(YV c).neg a b
 have hk:=BS.neg a.Key b.Key
 rw [YX] at YP
 by_cases h0:wO c b a=0
 ·rw [if_neg (fun z=>z h0)] at YP
  have:=h2 (by omega)
  omega
 ·rw [if_pos h0] at YP
  exact h1 YP
theorem ET {c:Campaign} {Z Z':List DeviceS} (h1:UF (dO c) Z) (h2:UF (dO c) Z') (hp:Z.Perm Z') (hk:∀ a∈Z,∀ b∈Z,a.Key=b.Key→a=b):Z=Z':=
 xk hp h1 h2 fun a ha b hb k1 k2=>by
  have hn:=(YW c).neg a b
  have h0:dO c a b=0:=by omega
  exact hk a ha b hb (uv (JK h0 _ (by simp)))
theorem YY (a b x y:Int):ew [a,b] [x,y]=some (rk [dZ a x,dZ b y]):=by
 have e:∀ n:Int,fU [a,b] [x,y] n=(bu [a,b] [x,y] n).bind (after fun z=>fU [a,b] [x,y] z):=fun n=>by
  unfold fU
  rw [iter_eq]
 have b0:bu [a,b] [x,y] 0=some (if dZ a x≠0 then .inr (dZ a x) else .inl 1):=by
  unfold bu
  rw [if_pos (by simp),show idx [a,b] (0:Int)=some a from rfl]
  simp only [aa]
  rw [if_neg (by simp),show idx [x,y] (0:Int)=some x from rfl]
  simp only [aa]
  rw [jD]
  by_cases h:dZ a x≠0
  ·rw [if_pos h,if_pos h];rfl
  ·rw [if_neg h,if_neg h,show bE (0+1)=1 by decide]
 have b1:bu [a,b] [x,y] 1=some (if dZ b y≠0 then .inr (dZ b y) else .inl 2):=by
  unfold bu
  rw [if_pos (by simp),show idx [a,b] (1:Int)=some b from rfl]
  simp only [aa]
  rw [if_neg (by simp),show idx [x,y] (1:Int)=some y from rfl]
  simp only [aa]
  rw [jD]
  by_cases h:dZ b y≠0
  ·rw [if_pos h,if_pos h];rfl
  ·rw [if_neg h,if_neg h,show bE (1+1)=2 by decide]
 have b2:bu [a,b] [x,y] 2=some (.inr 0):=by
  unfold bu iP
  rw [if_neg (by simp),if_neg (by simp)];rfl
 unfold ew
 rw [e 0,b0]
 simp only [aa,JJ]
 by_cases h:dZ a x≠0
 ·rw [if_pos h,if_pos h];rfl
 ·rw [if_neg h,if_neg h,bD,e 1,b1]
  simp only [aa]
  by_cases h':dZ b y≠0
  ·rw [if_pos h',if_pos h'];rfl
  ·rw [if_neg h',if_neg h',bD,e 2,b2];rfl
theorem yO {s:bj} (h:rj s=true):s.length≤1000:=by have:=wP h;omega
theorem QF {c:Campaign} {fl:List DeviceS} {s:CS} {dn:List MarkS} (hc:jj c) (hf:jE fl) (h:SI c fl s dn) {a b:DeviceS} (ha:a∈fl) (hb:b∈fl):dz a b s=some (dO c a b):=by
 unfold dz oJ
 rw [HB hf h.cL ha,HB hf h.cL hb,h.c_,Hx c a.Key (yO hc.key) (yO (hf.key a ha)),Hx c b.Key (yO hc.key) (yO (hf.key b hb))]
 simp only [aa,dl]
 rw [jD,jD,show mo [dZ (pG c a.Key:Int) (pG c b.Key:Int),dZ (xn c a.Key) (xn c b.Key),Lib.compareBytes a.Key b.Key]=some (rk [dZ (pG c a.Key:Int) (pG c b.Key:Int),dZ (xn c a.Key) (xn c b.Key),Lib.compareBytes a.Key b.Key]) from Ai _ (by simp)]
 rfl
theorem TE {c:Campaign} {fl:List DeviceS} (hc:jj c) (hf:jE fl) {a b:DeviceS} (ha:a∈fl) (hb:b∈fl):mw a b c=some (wO c a b):=by
 unfold mw
 rw [yJ c hc a.Key (hf.key a ha),yJ c hc b.Key (hf.key b hb),Hy c a.Key (yO hc.key) (yO (hf.key a ha)),Hy c b.Key (yO hc.key) (yO (hf.key b hb))]
 simp only [aa]
 rw [YY]
 rfl
theorem JL (qN:DeviceS→DeviceS→Option Int) (cf:DeviceS→DeviceS→Int) (Gt:DeviceS→DeviceS→Prop) (xs:List DeviceS) (hl:(xs.length:Int) < 20) (hf:∀ x∈xs,∀ y∈xs,qN x y=some (cf x y)) (hO:Fq cf xs) (h2:xs.Pairwise Gt):
 ∃ Z,pP xs.length (fun r:List DeviceS=>r.length) (cP xs qN)=some Z∧Z.Perm xs∧RA cf Gt Z:=by
 obtain ⟨Z,h1,h2,h3⟩:=QB qN cf Gt xs (by omega) hf hO h2
 have GA:dC xs 0 xs.length qN=some Z:=h1
 have hlen:=h2.length_eq
 refine ⟨Z,?_,h2,h3⟩
 have hs:fe xs xs.length qN=some Z:=by
  unfold fe nj
  rw [iter_eq,ei,if_neg (by simp only;omega),bb]
  unfold jh
  simp only
  rw [Aj GA hlen]
  simp only [aa]
  unfold nh
  rw [iter_eq,eh,if_neg (by omega),bb]
 refine Aj ?_ hlen
 unfold cP
 rw [Aj hs hlen];rfl
theorem Lz {c:Campaign} {fl:List DeviceS} {s:CS} {dn:List MarkS} (hc:jj c) (hf:jE fl) (hs:fl.Pairwise (fun a b=>Lib.compareBytes a.Key b.Key < 0)) (h:SI c fl s dn) (L:List DeviceS) (hL:L.Sublist fl) (hl:(L.length:Int) < 20):
 ∃ Z,pP L.length (fun r:List DeviceS=>r.length) (gl L (fun y0 y1=>dz y0 y1 s))=some Z∧pP L.length (fun r:List DeviceS=>r.length) (cP L (fun y0 y1=>mw y0 y1 c))=some Z∧Z.Perm L:=by
 have hm:∀ a∈L,a∈fl:=fun a ha=>hL.subset ha
 obtain ⟨Z,z1,z2,z3⟩:=Bd (fun y0 y1=>dz y0 y1 s) (dO c) L (by omega) (fun a ha b hb=>QF hc hf h (hm a ha) (hm b hb)) ((YW c).ord L)
 obtain ⟨Z',y1,y2,y3⟩:=JL (fun y0 y1=>mw y0 y1 c) (wO c) (fun a b=>Lib.compareBytes a.Key b.Key < 0) L hl (fun a ha b hb=>TE hc hf (hm a ha) (hm b hb)) ((YV c).ord L) (hs.sublist hL)
 have:Z=Z':=ET z3 (TC y3) (z2.trans y2.symm) fun a ha b hb hk=>by
  have KX:=hm a (z2.mem_iff.1 ha)
  have Bx:=hm b (z2.mem_iff.1 hb)
  have um:=hf.Qo
  obtain ⟨i,hi,rfl⟩:=hU KX
  obtain ⟨j,hj,rfl⟩:=hU Bx
  have:=xo um i j _ _ (cb hi) (cb hj) hk
  subst this;rfl
 subst this
 exact ⟨Z,Aj (show gl L (fun y0 y1=>dz y0 y1 s)=some Z from z1) z2.length_eq,y1,z2⟩
end Go.Beacon
