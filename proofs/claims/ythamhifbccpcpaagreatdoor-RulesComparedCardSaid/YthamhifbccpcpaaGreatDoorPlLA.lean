/- Plain facts on what the functions compute. No program in sight. -/
import Derived.Test.YthamhifbccpcpaaGreatDoorPlBA
import Derived.Test.YthamhifbccpcpaaGreatDoorRcoP
set_option linter.unusedVariables false
set_option linter.unusedSimpArgs false
namespace Go.Beacon
open Go Go.Eng
def CG (σ:Int→Int) (E st long c t:Int):Prop:=c+long≤t∧t < E∧∀ u,t - long≤u→u≤t→σ u=st
def zp (σ:Int→Int) (E st long c t:Int):Prop:=CG σ E st long c t∧∀ t',t' < t→¬ CG σ E st long c t'
theorem zp.uniq {σ:Int→Int} {E st long c t t':Int} (h:zp σ E st long c t) (h':zp σ E st long c t'):t=t':=by
 rcases Int.lt_trichotomy t t' with k | k | k
 ·exact (h'.2 t k h.1).elim
 ·exact k
 ·exact (h.2 t' k h'.1).elim
inductive FF (σ:Int→Int) (E on H off R:Int):Bool→Int→List (Int×Int)→Prop
 | never {c:Int}:(∀ t,¬ CG σ E on H c t)→FF σ E on H off R false c []
 | up {c t:Int} {ws:List (Int×Int)}:zp σ E on H c t→FF σ E on H off R true t ws→FF σ E on H off R false c ws
 | stay {c:Int}:(∀ t,¬ CG σ E off R c t)→FF σ E on H off R true c [(c,E)]
 | down {c t:Int} {ws:List (Int×Int)}:zp σ E off R c t→FF σ E on H off R false t ws→FF σ E on H off R true c ((c,t) :: ws)
theorem FF.uniq {σ:Int→Int} {E on H off R:Int} {f:Bool} {c:Int} {ws:List (Int×Int)} (h:FF σ E on H off R f c ws):∀ {Sr:List (Int×Int)},FF σ E on H off R f c Sr→ws=Sr:=by
 induction h with
 | never hn=>
   intro Sr h'
   cases h' with
   | never _=>rfl
   | up hl _=>exact (hn _ hl.1).elim
 | up hl _ ih=>
   intro Sr h'
   cases h' with
   | never hn=>exact (hn _ hl.1).elim
   | up x5 k=>obtain rfl:=hl.uniq x5;exact ih k
 | stay hn=>
   intro Sr h'
   cases h' with
   | stay _=>rfl
   | down hl _=>exact (hn _ hl.1).elim
 | down hl _ ih=>
   intro Sr h'
   cases h' with
   | stay hn=>exact (hn _ hl.1).elim
   | down x5 k=>obtain rfl:=hl.uniq x5;rw [ih k]
inductive o7 (σ:Int→Int) (E:Int):Int→List (Int×Int×Int)→Prop
 | nil:o7 σ E E []
 | cons {a b s:Int} {rs:List (Int×Int×Int)}:a < b→b≤E→(∀ u,a≤u→u < b→σ u=s)→(∀ x,rs.head? =some x→x.2.2≠s)→o7 σ E b rs→o7 σ E a ((a,b,s) :: rs)
theorem o7.ne {σ:Int→Int} {E a s:Int} {rs:List (Int×Int×Int)} (h:o7 σ E a rs) (hs:∀ x,rs.head? =some x→x.2.2≠s) (ha:a < E):σ a≠s:=by
 cases h with
 | nil=>omega
 | cons h1 h2 h3 _ _=>rw [h3 _ (Int.le_refl _) h1];exact hs _ rfl
def sT (st long c:Int):List (Int×Int×Int)→Option Int
 | []=>none
 | x :: r=>if x.2.2=st∧max x.1 c+long < x.2.1 then some (max x.1 c+long) else sT st long c r
theorem Ea {σ:Int→Int} {E st long c:Int} (hl:0≤long):∀ {rs:List (Int×Int×Int)} {a:Int},o7 σ E a rs→
 (∀ t,sT st long c rs=some t→a≤t∧CG σ E st long c t∧∀ t',t' < t→a+long≤t'→¬ CG σ E st long c t')∧(sT st long c rs=none→∀ t',a+long≤t'→¬ CG σ E st long c t'):=by
 intro rs
 induction rs with
 | nil=>
   intro a h
   cases h
   refine ⟨fun t h=>by simp [sT] at h,fun _ t' h1 h2=>?_⟩
   have:=h2.2.1;omega
 | cons x r ih=>
   intro a h
   cases h with
   | @cons _ b s _ h1 h2 h3 h4 h5=>
     obtain ⟨i1,i2⟩:=ih h5
     simp only [sT]
     by_cases hc:s=st∧max a c+long < b
     ·rw [if_pos hc]
      refine ⟨fun t ht=>?_,fun h=>by simp at h⟩
      obtain rfl:=Option.some.inj ht
      obtain ⟨rfl,lh⟩:=hc
      refine ⟨by omega,⟨by omega,by omega,fun u Ye hu2=>h3 u (by omega) (by omega)⟩,fun t' k1 k2 k3=>?_⟩
      have:=k3.1;omega
     ·rw [if_neg hc]
      have key:∀ t',a+long≤t'→t' < b+long→¬ CG σ E st long c t':=by
       intro t' k1 k2 k3
       have e1:=k3.2.2 (t' - long) (Int.le_refl _) (by omega)
       rw [h3 _ (by omega) (by omega)] at e1
       by_cases hb:t' < b
       ·apply hc
        refine ⟨e1,?_⟩
        have:=k3.1
        omega
       ·exact o7.ne h5 h4 (by have:=k3.2.1;omega) (by rw [k3.2.2 b (by omega) (by omega),e1])
      refine ⟨fun t ht=>?_,fun hn t' k1=>?_⟩
      ·obtain ⟨j1,j2,j3⟩:=i1 t ht
       refine ⟨by omega,j2,fun t' k1 k2=>?_⟩
       by_cases hb:t' < b+long
       ·exact key t' k2 hb
       ·exact j3 t' k1 (by omega)
      ·by_cases hb:t' < b+long
       ·exact key t' k1 hb
       ·exact i2 hn t' (by omega)
theorem sv {σ:Int→Int} {E st long c t:Int} {rs:List (Int×Int×Int)} (hr:o7 σ E 0 rs) (hl:0≤long) (hc:0≤c) (h:sT st long c rs=some t):zp σ E st long c t:=by
 obtain ⟨_,h2,h3⟩:=(Ea hl hr).1 t h
 exact ⟨h2,fun t' k1 k2=>h3 t' k1 (by have:=k2.1;omega) k2⟩
theorem Eb {σ:Int→Int} {E st long c:Int} {rs:List (Int×Int×Int)} (hr:o7 σ E 0 rs) (hl:0≤long) (hc:0≤c) (h:sT st long c rs=none) (t:Int):¬ CG σ E st long c t:=
 fun k=>(Ea hl hr).2 h t (by have:=k.1;omega) k
structure Re (σ:Int→Int) (E want long:Int) (c z s q:Int):Prop where
 hz:0≤z∧(z≤q∨z=0)
 st:∀ u,z≤u→u≤q→σ u=s
 br:z=0∨σ (z - 1)≠s
 hc:0≤c∧(c≤q∨c=0)
 cz:s=want→c≤z
 no:∀ t,t < q→¬ CG σ E want long c t
theorem Re.none {σ:Int→Int} {E want long c z s q p:Int} (h:Re σ E want long c z s q) (hl:0≤long) (hs:∀ u,q≤u→u < p→σ u=s) (ht:s=want→p≤z+long) (t:Int) (hp:t < p):¬ CG σ E want long c t:=by
 intro k
 by_cases hq:t < q
 ·exact h.no t hq k
 ·have e1:=k.2.2 t (by omega) (Int.le_refl _)
  rw [hs t (by omega) hp] at e1
  have:=ht e1
  have k1:=k.1
  by_cases h0:z=0
  ·have:=h.hc.1;omega
  ·rcases h.br with hz | hz
   ·exact h0 hz
   ·refine hz ?_
    rw [k.2.2 (z - 1) (by omega) (by have:=h.hz.2;omega),e1]
theorem Re.go {σ:Int→Int} {E want long c z s q p:Int} (h:Re σ E want long c z s q) (hl:0≤long) (hp:q≤p) (Tg:0≤p) (hs:∀ u,q≤u→u < p→σ u=s) (ht:s=want→p≤z+long):
 Re σ E want long c (if σ p=s then z else p) (σ p) p:=by
 have hz:=h.hz
 have hc:=h.hc
 have mC:∀ u,z≤u→u < p→σ u=s:=fun u h1 h2=>by
  by_cases hu:u≤q
  ·exact h.st u h1 hu
  ·exact hs u (by omega) h2
 refine ⟨?_,fun u h1 h2=>?_,?_,⟨hc.1,by omega⟩,fun hw=>?_,fun t htp=>h.none hl hs ht t htp⟩
 ·split<;>omega
 ·split at h1
  ·rename_i he
   by_cases hu:u=p
   ·rw [hu]
   ·rw [he];exact mC u h1 (by omega)
  ·obtain rfl:u=p:=by omega
   rfl
 ·split
  ·rename_i he;rw [he];exact h.br
  ·rename_i he
   by_cases h0:p=0
   ·exact .inl h0
   ·right
    by_cases hzp:z≤p - 1
    ·rw [mC (p - 1) hzp (by omega)];exact fun e=>he e.symm
    ·exfalso
     apply he
     have:p=z:=by omega
     rw [this];exact h.st z (Int.le_refl _) (by omega)
 ·split
  ·rename_i he;exact h.cz (by rw [← he,hw])
  ·omega
theorem Re.flip {σ:Int→Int} {E want long c z s q Ss Su:Int} (h:Re σ E want long c z s q) (hl:0≤long) (x5:0≤Su) (hE:q < E) (hs:s=want) (ht:z+long=q) (hw:want≠Ss):
 zp σ E want long c q∧Re σ E Ss Su q z s q:=by
 have hz:=h.hz
 have hc:=h.hc
 refine ⟨⟨⟨by have:=h.cz hs;omega,hE,fun u h1 h2=>by rw [h.st u (by omega) h2,hs]⟩,fun t ht=>h.no t ht⟩,hz,h.st,h.br,⟨by omega,.inl (Int.le_refl _)⟩,fun e=>(hw (hs.symm.trans e)).elim,fun t ht k=>?_⟩
 have:=k.1;omega
theorem o7.snoc {σ:Int→Int} {b b' s:Int} (hb:b < b') (hs:∀ u,b≤u→u < b'→σ u=s):∀ {rs:List (Int×Int×Int)} {a:Int},o7 σ b a rs→(∀ x,rs.getLast? =some x→x.2.2≠s)→o7 σ b' a (rs++[(b,b',s)]):=by
 intro rs
 induction rs with
 | nil=>
   intro a h _
   cases h
   exact .cons hb (Int.le_refl _) hs (fun x hx=>by simp at hx) .nil
 | cons x r ih=>
   intro a h hl
   cases h with
   | @cons _ b1 s1 _ h1 h2 h3 h4 h5=>
     refine .cons h1 (by omega) h3 (fun x hx=>?_) (ih h5 (fun x hx=>hl x ?_))
     ·cases r with
      | nil=>
        obtain rfl:(b,b',s)=x:=by simpa using hx
        exact fun e=>hl _ rfl e.symm
      | cons y r'=>exact h4 x hx
     ·cases r with
      | nil=>simp at hx
      | cons y r'=>rw [List.getLast?_cons_cons];exact hx
theorem o7.ext {σ:Int→Int} {a0 b b' s:Int} (hb:b < b') (hs:∀ u,b≤u→u < b'→σ u=s):∀ {rs:List (Int×Int×Int)} {a:Int},o7 σ b a (rs++[(a0,b,s)])→o7 σ b' a (rs++[(a0,b',s)]):=by
 intro rs
 induction rs with
 | nil=>
   intro a h
   cases h with
   | cons h1 h2 h3 h4 h5=>
     refine .cons (by omega) (Int.le_refl _) (fun u h6 h7=>?_) (fun x hx=>by simp at hx) .nil
     by_cases hu:u < b
     ·exact h3 u h6 hu
     ·exact hs u (by omega) h7
 | cons x r ih=>
   intro a h
   cases h with
   | @cons _ b1 s1 _ h1 h2 h3 h4 h5=>
     refine .cons h1 (by omega) h3 (fun x hx=>?_) (ih h5)
     cases r with
     | nil=>
       obtain rfl:(a0,b',s)=x:=by simpa using hx
       exact h4 (a0,b,s) (by simp)
     | cons y r'=>exact h4 x hx
theorem o7.last {σ:Int→Int} {E:Int} {x:Int×Int×Int}:∀ {rs:List (Int×Int×Int)} {a:Int},o7 σ E a (rs++[x])→x.2.1=E
 | [],a,h=>by cases h with | cons _ _ _ _ h5=>cases h5;rfl
 | y :: r,a,h=>by cases h with | cons _ _ _ _ h5=>exact o7.last h5
def xS {α:Type} (at_:α→Int) (l:List α):Prop:=l.Pairwise (fun a b=>at_ a < at_ b)
def k7 {α:Type} (f:α→Int):List α→List α
 | []=>[]
 | x :: r=>if r.all (fun y=>decide (f x < f y)) then x :: k7 f r else k7 f r
theorem G0 {α:Type} {f:α→Int} {x:α}:∀ {l:List α},x∈k7 f l→x∈l
 | [],h=>h
 | y :: r,h=>by
   simp only [k7] at h
   split at h
   ·rcases List.mem_cons.1 h with rfl | h
    ·simp
    ·exact List.mem_cons_of_mem _ (G0 h)
   ·exact List.mem_cons_of_mem _ (G0 h)
theorem Ec {α:Type} (f:α→Int) (s:α):∀ (l:List α),k7 f (l++[s])=(k7 f l).filter (fun x=>decide (f x < f s))++[s]
 | []=>by simp [k7]
 | x :: r=>by
   simp only [List.cons_append,k7,List.all_append,List.all_cons,List.all_nil,Bool.and_true,Ec f s r]
   by_cases h1:r.all (fun y=>decide (f x < f y))=true
   ·by_cases h2:f x < f s
    ·simp [h1,h2]
    ·have hr:(k7 f r).filter (fun x=>decide (f x < f s))=[]∨True:=.inr trivial
     simp only [h1,h2,decide_false,Bool.and_false,Bool.false_eq_true,if_false,if_true,List.filter_cons]
   ·simp [h1]
theorem Ah {α:Type} (f:α→Int):∀ (l:List α),(k7 f l).Pairwise (fun a b=>f a < f b)
 | []=>List.Pairwise.nil
 | x :: r=>by
   simp only [k7]
   split
   ·rename_i h
    refine List.pairwise_cons.2 ⟨fun y hy=>?_,Ah f r⟩
    simpa using List.all_eq_true.1 h y (G0 hy)
   ·exact Ah f r
theorem ON {α:Type} (f:α→Int):∀ {l:List α},l≠[]→k7 f l≠[]
 | [],h=>(h rfl).elim
 | [x],_=>by simp [k7]
 | x :: y :: r,_=>by
   have:=ON f (l:=y :: r) (by simp)
   simp only [k7] at this ⊢
   split
   ·simp
   ·exact this
theorem vG {α:Type} (f:α→Int) {x:α}:∀ {l:List α},(k7 f l).head? =some x→x∈l∧∀ y∈l,f x≤f y
 | [],h=>by simp [k7] at h
 | z :: r,h=>by
   simp only [k7] at h
   split at h
   ·rename_i ha
    obtain rfl:z=x:=by simpa using h
    refine ⟨by simp,fun y hy=>?_⟩
    rcases List.mem_cons.1 hy with rfl | hy
    ·exact Int.le_refl _
    ·have:=List.all_eq_true.1 ha y hy
     simp at this;omega
   ·rename_i ha
    obtain ⟨h1,h2⟩:=vG f h
    refine ⟨List.mem_cons_of_mem _ h1,fun y hy=>?_⟩
    rcases List.mem_cons.1 hy with rfl | hy
    ·simp only [List.all_eq_true,decide_eq_true_eq] at ha
     have ⟨w,hw⟩:=Classical.not_forall.1 ha
     obtain ⟨L8,Z4⟩:=Classical.not_imp.1 hw
     have:=h2 w L8
     omega
    ·exact h2 y hy
theorem OO {α:Type} [DecidableEq α] (f:α→Int) {at_:α→Int} {x:α} {r:List α} (h:xS at_ (x :: r)):k7 f r=if (k7 f (x :: r)).head? =some x then (k7 f (x :: r)).tail else k7 f (x :: r):=by
 simp only [k7]
 split
 ·simp
 ·rw [if_neg]
  intro e
  have hx:=(vG f e).1
  have:=List.rel_of_pairwise_cons h hx
  omega
theorem B8 {α:Type} {f:α→Int} {b:Int}:∀ {l:List α} {x:α},(l++[x]).Pairwise (fun a b=>f a < f b)→(l++[x]).filter (fun y=>decide (f y < b))=if f x < b then l++[x] else l.filter (fun y=>decide (f y < b)):=by
 intro l x h
 rw [List.filter_append]
 split
 ·rename_i hb
  have:l.filter (fun y=>decide (f y < b))=l:=List.filter_eq_self.2 fun y hy=>by
   have:=(List.pairwise_append.1 h).2.2 y hy x (by simp)
   simp;omega
  rw [this];simp [hb]
 ·rename_i hb
  simp [hb]
def ur {α:Type} (at_:α→Int) (long t:Int) (l:List α):List α:=l.filter (fun x=>decide (t - long < at_ x∧at_ x≤t))
def c8 {α:Type} (at_:α→Int) (long t:Int):List α→List α
 | []=>[]
 | x :: r=>if at_ x+long≤t then c8 at_ long t r else x :: r
theorem pg {α:Type} (at_:α→Int) (long t:Int):∀ (l:List α),(c8 at_ long t l) <:+l
 | []=>List.suffix_refl _
 | x :: r=>by
   simp only [c8]
   split
   ·exact (pg at_ long t r).trans (List.suffix_cons _ _)
   ·exact List.suffix_refl _
theorem uu {α:Type} {at_:α→Int} {long t:Int}:∀ {l:List α},xS at_ l→c8 at_ long t l=l.filter (fun x=>decide (t - long < at_ x))
 | [],_=>rfl
 | x :: r,h=>by
   have hr:=List.pairwise_cons.1 h
   simp only [c8]
   split
   ·rename_i hx
    rw [List.filter_cons_of_neg (by simp;omega)]
    exact uu hr.2
   ·rename_i hx
    rw [List.filter_cons_of_pos (by simp;omega)]
    rw [List.filter_eq_self.2]
    intro y hy
    have:=hr.1 y hy
    simp;omega
theorem B9 {α:Type} {at_:α→Int} {long t:Int} {l1 l2:List α} (h1:∀ x∈l1,at_ x≤t) (h2:∀ x∈l2,t < at_ x):ur at_ long t (l1++l2)=l1.filter (fun x=>decide (t - long < at_ x)):=by
 unfold ur
 rw [List.filter_append]
 have e2:l2.filter (fun x=>decide (t - long < at_ x∧at_ x≤t))=[]:=List.filter_eq_nil_iff.2 fun x hx=>by
  have:=h2 x hx
  simp;omega
 rw [e2,List.append_nil]
 exact List.filter_congr fun x hx=>by
  have:=h1 x hx
  simp [this]
theorem wk {α:Type} {at_:α→Int} {long q t:Int} {l:List α} (h:q≤t):(l.filter (fun x=>decide (q - long < at_ x))).filter (fun x=>decide (t - long < at_ x))=l.filter (fun x=>decide (t - long < at_ x)):=by
 rw [List.filter_filter]
 exact List.filter_congr fun x hx=>by
  by_cases h1:t - long < at_ x
  ·have:q - long < at_ x:=by omega
   simp [h1,this]
  ·simp [h1]
theorem IZ {α:Type} {at_:α→Int} {long t:Int} {l:List α} (h:∀ x∈l,t - long < at_ x):l.filter (fun x=>decide (t - long < at_ x))=l:=
 List.filter_eq_self.2 fun x hx=>by simpa using h x hx
theorem xS.filter {α:Type} {at_:α→Int} {l:List α} (h:xS at_ l) (p:α→Bool):xS at_ (l.filter p):=List.Pairwise.filter p h
def kR {α:Type} (f:α→Int) (l:List α):Int:=(l.map f).sum
theorem FI {α:Type} (f:α→Int) (x:α) (r:List α):kR f (x :: r)=f x+kR f r:=by simp [kR]
theorem My {α:Type} (f:α→Int) (x:α) (r:List α):kR f (r++[x])=kR f r+f x:=by simp [kR]
theorem Ed {α:Type} {f:α→Int} {B:Int}:∀ {l:List α},(∀ x∈l,-B≤f x∧f x≤B)→-(B * l.length)≤kR f l∧kR f l≤B * l.length
 | [],_=>by simp [kR]
 | x :: r,h=>by
   have h1:=h x (by simp)
   have h2:=Ed (l:=r) (fun y hy=>h y (List.mem_cons_of_mem _ hy))
   rw [FI]
   simp only [List.length_cons,Int.natCast_add,Int.mul_add]
   omega
abbrev zq:=an
def zr (s:zq) (k:Int):Prop:=0≤s.at_∧s.at_+k≤4611686018427387904
theorem zr.less {s:zq} {k k':Int} (h:zr s k) (hk:k'≤k):zr s k':=⟨h.1,by have:=h.2;omega⟩
def uB {α:Type} (m:Option (α×zq)) (k:Int) (P:α→Prop):Prop:=∃ v s',m=some (v,s')∧P v∧zr s' k
theorem uB.bind {α β:Type} {m:Option (α×zq)} {k k':Int} {P:α→Prop} {Q:β→Prop} {f:α×zq→Option (β×zq)} (h:uB m k P) (hf:∀ v s',P v→zr s' k→uB (f (v,s')) k' Q):uB (m.bind f) k' Q:=by
 obtain ⟨v,s',rfl,h1,h2⟩:=h
 exact hf v s' h1 h2
theorem uB.ret {α:Type} {v:α} {s:zq} {k:Int} {P:α→Prop} (h1:P v) (h2:zr s k):uB (some (v,s)) k P:=⟨v,s,rfl,h1,h2⟩
theorem Ee (x:Int) {n:Int} (h1:1≤n) (h2:n≤4611686018427387904):∃ v,Below x n=some v∧0≤v∧v < n:=by
 unfold Below xv
 rw [if_neg (by omega),Kb (by omega)]
 have a1:=Int.lt_tmod_of_pos x (show 0 < n by omega)
 have a2:=Int.tmod_lt_of_pos x (show 0 < n by omega)
 simp only [Option.bind_some]
 split
 ·exact ⟨_,rfl,by rw [aP]<;>omega,by rw [aP]<;>omega⟩
 ·exact ⟨_,rfl,by omega,by omega⟩
theorem Ai {s:zq} {n k:Int} (hs:zr s (k+1)) (h1:1≤n) (h2:n≤4611686018427387904) (hk:0≤k):uB (gR s n) k (fun v=>0≤v∧v < n):=by
 obtain ⟨a1,a2⟩:=hs
 have e1:aU (s.at_+1)=s.at_+1:=by rw [aP]<;>omega
 have e2:aU (s.at_+1 - 1)=s.at_:=by rw [aP]<;>omega
 unfold gR
 split
 ·obtain ⟨v,hv,h3,h4⟩:=Ee (aU (aU (s.at_+1) * 7919)) h1 h2
  rw [hv]
  exact uB.ret ⟨h3,h4⟩ ⟨by show 0≤aU (s.at_+1);omega,by show aU (s.at_+1)+k≤_;omega⟩
 ·rename_i hl
  have x5:(0:Int) < s.L.length:=by omega
  rw [e1,e2,Q7 x5 a1,Kc (by omega)]
  simp only [Option.bind_some]
  obtain ⟨x,hx,_,_⟩:=gu s.L (i:=s.at_ % s.L.length) (Int.emod_nonneg _ (by omega)) (Int.emod_lt_of_pos _ x5)
  rw [hx]
  simp only [Option.bind_some]
  obtain ⟨u,hu,_,_⟩:=Ee x (n:=1073741824) (by omega) (by omega)
  rw [hu]
  simp only [Option.bind_some]
  obtain ⟨v,hv,h3,h4⟩:=Ee (aU (u+aU (aU (s.at_.tdiv s.L.length) * aU (7919+s.at_ % s.L.length)))) h1 h2
  rw [hv]
  exact uB.ret ⟨h3,h4⟩ ⟨by simp only;omega,by simp only;omega⟩
theorem Lg {s:zq} {l:List Int} {k:Int} (hs:zr s (k+1)) (h1:l≠[]) (h2:l.length≤1000) (hk:0≤k):uB (cF s l) k (fun v=>v∈l):=by
 unfold cF
 have hl:0 < l.length:=List.length_pos_iff.2 h1
 refine uB.bind (Ai hs (by omega) (by omega) hk) (fun v s' hv xa=>?_)
 obtain ⟨x,hx,hm,_⟩:=gu l hv.1 hv.2
 simp only [hx,Option.bind_some]
 exact uB.ret hm xa
theorem I0 {s:zq} {a b k:Int} (hs:zr s (k+1)) (uz:a≤b) (ha:-1152921504606846976≤a) (hb:b≤1152921504606846976) (hk:0≤k):uB (kC s a b) k (fun v=>a≤v∧v≤b):=by
 unfold kC
 have e1:aU (b - a)=b - a:=by rw [aP]<;>omega
 have e2:aU (b - a+1)=b - a+1:=by rw [aP]<;>omega
 rw [if_neg (by omega),e1,e2]
 refine uB.bind (Ai hs (by omega) (by omega) hk) (fun v s' hv xa=>?_)
 refine uB.ret ?_ xa
 simp only
 rw [aP]<;>omega
theorem Lh {s:zq} {n k:Int} (hs:zr s (k+1)) (h1:1≤n) (h2:n≤4611686018427387904) (hk:0≤k):uB (gh s n) k (fun _=>True):=by
 unfold gh
 exact uB.bind (Ai hs h1 h2 hk) (fun v s' hv xa=>uB.ret trivial xa)
theorem Rf {s:zq} {l:List aO} {k:Int} (hs:zr s (k+1)) (h1:l≠[]) (h2:l.length≤1000) (hk:0≤k):uB (gS s l) k (fun v=>v∈l):=by
 unfold gS
 have hl:0 < l.length:=List.length_pos_iff.2 h1
 refine uB.bind (Ai hs (by omega) (by omega) hk) (fun v s' hv xa=>?_)
 obtain ⟨x,hx,hm,_⟩:=gu l hv.1 hv.2
 simp only [hx,Option.bind_some]
 exact uB.ret hm xa
theorem TZ {s:zq} {a b k:Int} (hs:zr s (k+2)) (uz:a≤b) (ha:-1099511627776≤a) (hb:b≤1099511627776) (hk:0≤k):uB (fV s a b) k (fun v=>-1099511627777≤v∧v≤1099511627777):=by
 unfold fV
 refine uB.bind (Lh (k:=k+1) (hs.less (by omega)) (by omega) (by omega) (by omega)) (fun v s' hv xa=>?_)
 simp only
 split
 ·refine uB.bind (Lg xa (by simp) (by simp) hk) (fun v s' hv xa=>uB.ret ?_ xa)
  have e1:aU (a - 1)=a - 1:=by rw [aP]<;>omega
  have e2:aU (b+1)=b+1:=by rw [aP]<;>omega
  rw [e1,e2] at hv
  simp only [List.mem_cons,List.not_mem_nil,or_false] at hv
  simp only;omega
 ·refine uB.bind (I0 xa uz (by omega) (by omega) hk) (fun v s' hv xa=>uB.ret ?_ xa)
  simp only;omega
theorem Kg {s:zq} {n K:Int} (hs:zr s K) (hK:1≤K) (h1:1≤n) (h2:n≤4611686018427387904):uB (gR s n) (K - 1) (fun v=>0≤v∧v < n):=
 Ai (hs.less (by omega)) h1 h2 (by omega)
theorem zt {s:zq} {n K:Int} (hs:zr s K) (hK:1≤K) (h1:1≤n) (h2:n≤4611686018427387904):uB (gh s n) (K - 1) (fun _=>True):=
 Lh (hs.less (by omega)) h1 h2 (by omega)
theorem o8 {s:zq} {l:List Int} {K:Int} (hs:zr s K) (hK:1≤K) (h1:l≠[]) (h2:l.length≤1000):uB (cF s l) (K - 1) (fun v=>v∈l):=
 Lg (hs.less (by omega)) h1 h2 (by omega)
theorem Li {s:zq} {a b K:Int} (hs:zr s K) (hK:1≤K) (uz:a≤b) (ha:-1152921504606846976≤a) (hb:b≤1152921504606846976):uB (kC s a b) (K - 1) (fun v=>a≤v∧v≤b):=
 I0 (hs.less (by omega)) uz ha hb (by omega)
theorem zu {s:zq} {l:List aO} {K:Int} (hs:zr s K) (hK:1≤K) (h1:l≠[]) (h2:l.length≤1000):uB (gS s l) (K - 1) (fun v=>v∈l):=
 Rf (hs.less (by omega)) h1 h2 (by omega)
theorem yO {s:zq} {a b K:Int} (hs:zr s K) (hK:2≤K) (uz:a≤b) (ha:-1099511627776≤a) (hb:b≤1099511627776):uB (fV s a b) (K - 2) (fun v=>-1099511627777≤v∧v≤1099511627777):=
 TZ (hs.less (by omega)) uz ha hb (by omega)
theorem G1 (n lo hi:Int):gi n lo hi=(decide (n < lo)||decide (hi < n)):=rfl
theorem Bm (n lo hi:Int):nD n lo hi=(decide (lo≤n)&&decide (n≤hi)):=rfl
def Rg (n:Nat):Bool:=(decide (97≤n)&&decide (n≤122))||(decide (48≤n)&&decide (n≤57))||decide (n=45)||decide (n=95)
def nM:aO→Bool
 | []=>false
 | c :: r=>decide ((c :: r).length≤40)&&(decide (97≤c.toNat)&&decide (c.toNat≤122))&&(c :: r).all (fun c=>Rg c.toNat)
theorem yh (c:UInt8) (r:aO):nM (c :: r)=(decide ((c :: r).length≤40)&&(decide (97≤c.toNat)&&decide (c.toNat≤122))&&(c :: r).all (fun c=>Rg c.toNat)):=rfl
theorem OP (s:aO) (hl:s.length≤40):xx s 0=some (s.all (fun c=>Rg c.toNat)):=by
 unfold xx
 rw [Bh s (fun x:Int=>mZ s x) (fun c=>if Rg c.toNat=true then none else some false) true (by omega),D6]
 ·intro i c h0 h1 hc
  have hB:(if (97:Int)≤(c.toNat:Int) then if (c.toNat:Int)≤(122:Int) then !true else if (48:Int)≤(c.toNat:Int) then if (c.toNat:Int)≤(57:Int) then !true else if (c.toNat:Int)=(45:Int) then !true else decide (¬ ((c.toNat:Int)=(95:Int))) else if (c.toNat:Int)=(45:Int) then !true else decide (¬ ((c.toNat:Int)=(95:Int))) else if (48:Int)≤(c.toNat:Int) then if (c.toNat:Int)≤(57:Int) then !true else if (c.toNat:Int)=(45:Int) then !true else decide (¬ ((c.toNat:Int)=(95:Int))) else if (c.toNat:Int)=(45:Int) then !true else decide (¬ ((c.toNat:Int)=(95:Int))))=!Rg c.toNat:=by
   unfold Rg
   rw [Bool.eq_iff_iff]
   repeat' split
   all_goals simp
   all_goals omega
  rw [mZ,if_pos h1,hc]
  simp only [Option.bind_some]
  rw [hB]
  unfold uJ
  rw [aP (by omega) (by omega)]
  cases Rg c.toNat<;>rfl
 ·rw [mZ,if_neg (by omega)];rfl
theorem G2 (s:aO):pM s=some (nM s):=by
 unfold pM na
 cases s with
 | nil=>simp [nM]
 | cons c r=>
   rw [if_neg (by simp)]
   have hc:idx (c :: r) 0=some c:=rfl
   rw [hc]
   simp only [Option.bind_some]
   by_cases hl:(c :: r).length≤40
   ·rw [if_neg (by omega),OP _ hl,yh]
    by_cases h1:(c.toNat:Int) < 97
    ·rw [if_pos h1]
     have:decide (97≤c.toNat)=false:=by simp;omega
     rw [this];simp
    ·rw [if_neg h1]
     have e1:decide (97≤c.toNat)=true:=by simp;omega
     by_cases h2:(122:Int) < c.toNat
     ·rw [if_pos (by simpa using h2)]
      have:decide (c.toNat≤122)=false:=by simp;omega
      rw [this];simp
     ·rw [if_neg (by simpa using h2)]
      have:decide (c.toNat≤122)=true:=by simp;omega
      rw [e1,this,decide_eq_true hl];simp
   ·rw [if_pos (by omega),yh,decide_eq_false hl];simp
theorem Mz:∀ n:Fin 256,decide (UInt8.ofNat n.val∈([97,98,99,100,101,102,103,104,105,106,107,108,109,110,111,112,113,114,115,116,117,118,119,120,121,122,48,49,50,51,52,53,54,55,56,57,45,95]:List UInt8))=Rg n.val:=by decide+kernel
theorem Rh:∀ n:Fin 256,decide (UInt8.ofNat n.val∈([97,98,99,100,101,102,103,104,105,106,107,108,109,110,111,112,113,114,115,116,117,118,119,120,121,122]:List UInt8))=(decide (97≤n.val)&&decide (n.val≤122)):=by decide+kernel
theorem OQ {p:UInt8→Bool} {q:Nat→Bool} (h:∀ n:Fin 256,p (UInt8.ofNat n.val)=q n.val) (c:UInt8):p c=q c.toNat:=by
 have:=h ⟨c.toNat,c.toNat_lt⟩
 simpa using this
theorem lG (a b:Int):cmp_Compare_int a b=oc a b:=by
 unfold cmp_Compare_int cmp_isNaN_int oc;simp
theorem MA (n:Int):rR n=(decide (0≤n)&&decide (n≤345686399999)):=by
 unfold rR
 rw [G1,Bool.eq_iff_iff]
 simp
theorem OR {S A:Type} (f:S→Option (S⊕A)) (m:S→Nat) (Inv:S→Prop) (R:A→Prop)
 (h:∀ s,Inv s→(∃ s',f s=some (.inl s')∧Inv s'∧m s' < m s)∨(∃ a,f s=some (.inr a)∧R a)):∀ s,Inv s→∃ a,iter f s=some a∧R a:=by
 have key:∀ (n:Nat) s,m s≤n→Inv s→∃ a,iter f s=some a∧R a:=by
  intro n
  induction n with
  | zero=>
    intro s hm hi
    rcases h s hi with ⟨s',_,_,h3⟩ | ⟨a,h1,h2⟩
    ·omega
    ·exact ⟨a,by rw [iter_eq,h1];rfl,h2⟩
  | succ n ih=>
    intro s hm hi
    rcases h s hi with ⟨s',h1,h2,h3⟩ | ⟨a,h1,h2⟩
    ·obtain ⟨a,h4,h5⟩:=ih s' (by omega) h2
     exact ⟨a,by rw [iter_eq,h1];simpa using h4,h5⟩
    ·exact ⟨a,by rw [iter_eq,h1];rfl,h2⟩
 exact fun s hi=>key (m s) s (Nat.le_refl _) hi
theorem Lj {S A:Type} (f:S→Option (S⊕A)) (m:S→Nat) (Inv:S→Prop) (r:Option A)
 (h:∀ s,Inv s→(∃ s',f s=some (.inl s')∧Inv s'∧m s' < m s)∨f s=r.map .inr):∀ s,Inv s→iter f s=r:=by
 have key:∀ (n:Nat) s,m s≤n→Inv s→iter f s=r:=by
  intro n
  induction n with
  | zero=>
    intro s hm hi
    rcases h s hi with ⟨s',_,_,h3⟩ | h1
    ·omega
    ·rw [iter_eq,h1,bL]
  | succ n ih=>
    intro s hm hi
    rcases h s hi with ⟨s',h1,h2,h3⟩ | h1
    ·rw [iter_eq,h1];simpa using ih s' (by omega) h2
    ·rw [iter_eq,h1,bL]
 exact fun s hi=>key (m s) s (Nat.le_refl _) hi
def Ok {α:Type} (m:Option α) (Q:α→Prop):Prop:=∃ r,m=some r∧Q r
theorem Ok.ret {α:Type} {v:α} {Q:α→Prop} (h:Q v):Ok (some v) Q:=⟨v,rfl,h⟩
theorem Ok.bind {α β:Type} {m:Option α} {f:α→Option β} {P:α→Prop} {Q:β→Prop} (h:Ok m P) (hf:∀ v,P v→Ok (f v) Q):Ok (m.bind f) Q:=by
 obtain ⟨r,rfl,h2⟩:=h;exact hf r h2
theorem Ok.is {α β:Type} {m:Option α} {v:α} {f:α→Option β} {Q:β→Prop} (h:m=some v) (hf:Ok (f v) Q):Ok (m.bind f) Q:=by rw [h];exact hf
theorem Ok.inr {α β:Type} {m:Option β} {Q:α⊕β→Prop} (h:Ok m (fun r=>Q (.inr r))):Ok (Option.map .inr m) Q:=by
 obtain ⟨r,rfl,h2⟩:=h;exact ⟨_,rfl,h2⟩
theorem Ok.gen {α β:Type} {m:Option (α×zq)} {k:Int} {P:α→Prop} {f:α×zq→Option β} {Q:β→Prop} (h:uB m k P) (hf:∀ v s',P v→zr s' k→Ok (f (v,s')) Q):Ok (m.bind f) Q:=by
 obtain ⟨v,s',rfl,h1,h2⟩:=h;exact hf v s' h1 h2
theorem uB.of {α:Type} {m:Option (α×zq)} {k:Int} {P:α→Prop} (h:Ok m (fun r=>P r.1∧zr r.2 k)):uB m k P:=by
 obtain ⟨⟨v,s⟩,h1,h2,h3⟩:=h;exact ⟨v,s,h1,h2,h3⟩
theorem Ok.idx {α β:Type} {xs:List α} {i:Int} {f:α→Option β} {Q:β→Prop} (h0:0≤i) (h1:i < xs.length) (hf:∀ x,idx xs i=some x→x∈xs→Ok (f x) Q):Ok ((idx xs i).bind f) Q:=by
 obtain ⟨x,hx,hm,_⟩:=gu xs h0 h1
 rw [hx];exact hf x hx hm
theorem Ok.app {α β:Type} {xs ys:List α} {f:List α→Option β} {Q:β→Prop} (h:xs.length+ys.length≤1000000000) (hf:Ok (f (xs++ys)) Q):Ok ((app xs ys).bind f) Q:=by
 rw [fR h];exact hf
abbrev Stp {S A:Type} (m:S→Nat) (Inv:S→Prop) (R:A→Prop) (s:S):S⊕A→Prop
 | .inl s'=>Inv s'∧m s' < m s
 | .inr a=>R a
theorem Ok.iter {S A:Type} {f:S→Option (S⊕A)} {R:A→Prop} (m:S→Nat) (Inv:S→Prop)
 (h:∀ s,Inv s→Ok (f s) (Stp m Inv R s)) (s:S) (hs:Inv s):Ok (iter f s) R:=by
 refine OR f m Inv R (fun s hi=>?_) s hs
 obtain ⟨r,h1,h2⟩:=h s hi
 cases r with
 | inl s'=>exact .inl ⟨s',h1,h2.1,h2.2⟩
 | inr a=>exact .inr ⟨a,h1,h2⟩
theorem Ri {α β:Type} (f:α→β) (xs:List α) (i:Int):idx (xs.map f) i=(idx xs i).map f:=by
 unfold idx;split
 ·simp
 ·rfl
theorem lS {α σ A X:Type} (xs:List α) (mk:σ→Int→X) (f:X→Option (X⊕A)) (Yf:σ→α→σ) (Inv:Int→σ→Prop) (E:σ→Option A)
 (h1:∀ s (i:Int) x,0≤i→i < xs.length→idx xs i=some x→Inv i s→f (mk s i)=some (.inl (mk (Yf s x) (i+1)))∧Inv (i+1) (Yf s x))
 (h2:∀ s,Inv xs.length s→f (mk s xs.length)=Option.map .inr (E s)) (s:σ) (h0:Inv 0 s):iter f (mk s 0)=E (xs.foldl Yf s):=by
 have key:∀ (n:Nat) (s:σ) (i:Int),0≤i→i+n=xs.length→Inv i s→iter f (mk s i)=E ((xs.drop i.toNat).foldl Yf s):=by
  intro n
  induction n with
  | zero=>
    intro s i hi hn hv
    have:i=xs.length:=by omega
    subst this
    rw [iter_eq,h2 s hv,bL]
    simp
  | succ n ih=>
    intro s i hi hn hv
    obtain ⟨x,hx,_,hd⟩:=gu xs hi (by omega)
    obtain ⟨e1,e2⟩:=h1 s i x hi (by omega) hx hv
    rw [iter_eq,e1]
    simp only [Option.bind_some,cS]
    rw [ih _ _ (by omega) (by omega) e2,hd]
    rfl
 have:=key xs.length s 0 (by omega) (by omega) h0
 simpa using this
theorem take_succ {α:Type} {xs:List α} {i:Int} {x:α} (h0:0≤i) (h:idx xs i=some x):xs.take (i+1).toNat=xs.take i.toNat++[x]:=by
 obtain ⟨_,h1,h2⟩:=lZ h
 rw [show (i+1).toNat=i.toNat+1 by omega,List.take_add_one,h2];rfl
abbrev eG:Int:=345686400000
abbrev aS (x:ae):Int:=x.at_
abbrev vS (x:ae):Int:=x.bU
abbrev vN (x:ae):Int:=-x.bU
def WT (x:ae):Prop:=0≤x.at_∧x.at_≤345686399999∧-1000000000≤x.bU∧x.bU≤1000000000
structure vH (r:aG):Prop where
 long:1≤r.bh∧r.bh≤2592000000
 on:-1000000000≤r.On∧r.On≤1000000000
 off:-1000000000≤r.eJ∧r.eJ≤1000000000
 hold:0≤r.bR∧r.bR≤2592000000
 rest:0≤r.Rest∧r.Rest≤2592000000
 empty:0≤r.Empty∧r.Empty≤2
 agg:1≤r.eI∧r.eI≤6
def yz (W:List ae):Prop:=xS aS W∧(∀ x∈W,WT x)∧W.length≤5000
theorem yz.tail {x:ae} {W:List ae} (h:yz (x :: W)):yz W:=⟨(List.pairwise_cons.1 h.1).2,fun y hy=>h.2.1 y (List.mem_cons_of_mem _ hy),by have:=h.2.2;simp at this;omega⟩
theorem yz.suf {V W:List ae} (h:yz W) (k:V <:+W):yz V:=⟨h.1.sublist k.sublist,fun y hy=>h.2.1 y (k.subset hy),Nat.le_trans k.length_le h.2.2⟩
theorem FJ {W:List ae} (h:yz W):-5000000000000≤kR vS W∧kR vS W≤5000000000000:=by
 have h1:=Ed (f:=vS) (B:=1000000000) (l:=W) (fun x hx=>(h.2.1 x hx).2.2)
 have:=h.2.2
 omega
def I1 (W:List ae):Int:=(W.head?.map vS).getD 0
def CH (W:List ae):Int:=(W.getLast?.map vS).getD 0
def Vm (W:List ae):Int:=((k7 vS W).head?.map vS).getD 0
def Vn (W:List ae):Int:=((k7 vN W).head?.map vS).getD 0
def sw (r:aG) (W:List ae):Int:=if r.eI=1 then CH W else if r.eI=2 then Vm W else if r.eI=3 then Vn W else if r.eI=4 then kR vS W else if r.eI=5 then W.length else if r.eI=6 then CH W - I1 W else 0
def FK (r:aG) (W:List ae):Int:=if r.eI=4 then W.length else 1
def MB (r:aG) (v k:Int):Int:=if r.bj=true then (if r.On * k≤v then 1 else if v < r.eJ * k then 2 else 0) else (if v≤r.On * k then 1 else if r.eJ * k < v then 2 else 0)
def Rj (r:aG):Int:=if r.Empty=0 then 0 else if r.Empty=1 then 2 else 1
def AR (r:aG) (W:List ae):Int:=if W=[]∧r.eI≠5 then Rj r else MB r (sw r W) (FK r W)
def nT (r:aG) (W:List ae) (s z:Int) (f:Bool) (b:Int):aK:=⟨r,W,k7 vS W,k7 vN W,kR vS W,s,z,f,b⟩
theorem vh {α:Type} (x:α) (l:List α):idx (x :: l) (0:Int)=some x:=by unfold idx;simp
theorem wm {α:Type} (l:List α) (x:α):idx (l++[x]) ((l++[x]).length - 1:Int)=some x:=by
 unfold idx
 rw [if_pos (by simp)]
 simp
theorem OS {α:Type} (x:α) (l:List α):xm (x :: l) (1:Int) ((x :: l).length:Int)=some l:=by
 rw [D3 (by omega) (by simp;omega) (by omega)]
 simp
theorem I2 {α:Type} (l:List α) (x:α):xm (l++[x]) (0:Int) ((l++[x]).length - 1:Int)=some l:=by
 rw [D3 (by omega) (by simp) (by omega)]
 simp
theorem Lk {r:aG} (h:vH r):idx [(0:Int),(2:Int),(1:Int)] r.Empty=some (Rj r):=by
 have:=h.empty
 unfold Rj
 rcases (show r.Empty=0∨r.Empty=1∨r.Empty=2 by omega) with e | e | e<;>rw [e]<;>rfl
theorem wo {p:aK} (h:vH p.au) {v k:Int} (hv:-100000000000000≤v∧v≤100000000000000) (hk:0≤k∧k≤5000):jb p v k=some (MB p.au v k):=by
 have h1:=h.on
 have h2:=h.off
 have e1:-5000000000000≤p.au.On * k∧p.au.On * k≤5000000000000:=by
  constructor
  ·have:=Int.mul_le_mul_of_nonneg_right h1.1 hk.1;omega
  ·have:=Int.mul_le_mul_of_nonneg_right h1.2 hk.1;omega
 have e2:-5000000000000≤p.au.eJ * k∧p.au.eJ * k≤5000000000000:=by
  constructor
  ·have:=Int.mul_le_mul_of_nonneg_right h2.1 hk.1;omega
  ·have:=Int.mul_le_mul_of_nonneg_right h2.2 hk.1;omega
 unfold jb kE MB
 rw [aP (x:=p.au.On * k) (by omega) (by omega),aP (x:=p.au.eJ * k) (by omega) (by omega)]
 by_cases ha:p.au.bj=true
 ·simp only [ha,Bool.not_true,Bool.false_eq_true,if_false,if_true]
  split
  ·rfl
  ·split<;>rfl
 ·rw [aP (by omega) (by omega),aP (by omega) (by omega),aP (by omega) (by omega)]
  simp only [Bool.not_eq_true] at ha
  simp only [ha,Bool.not_false,Bool.false_eq_true,if_false,if_true]
  by_cases c1:v≤p.au.On * k
  ·rw [if_pos (by omega),if_pos c1]
  ·rw [if_neg (by omega),if_neg c1]
   by_cases c2:p.au.eJ * k < v
   ·rw [if_pos (by omega),if_pos c2]
   ·rw [if_neg (by omega),if_neg c2]
theorem FL {f:ae→Int} {W:List ae} (h:W≠[]):∃ x L,k7 f W=x :: L∧x∈W:=by
 have:=ON f h
 cases hd:k7 f W with
 | nil=>exact (this hd).elim
 | cons x L=>exact ⟨x,L,rfl,(vG f (by rw [hd];rfl)).1⟩
theorem Sv {r:aG} {W:List ae} (h:yz W):-100000000000000≤sw r W∧sw r W≤100000000000000:=by
 have hs:=FJ h
 have hl:=h.2.2
 have k1:-1000000000≤CH W∧CH W≤1000000000:=by
  unfold CH
  cases hg:W.getLast? with
  | none=>simp
  | some x=>have:=(h.2.1 x (List.mem_of_getLast? hg)).2.2;simpa using this
 have k2:-1000000000≤I1 W∧I1 W≤1000000000:=by
  unfold I1
  cases hg:W.head? with
  | none=>simp
  | some x=>have:=(h.2.1 x (List.mem_of_head? hg)).2.2;simpa using this
 have k3:∀ f:ae→Int,-1000000000≤((k7 f W).head?.map vS).getD 0∧((k7 f W).head?.map vS).getD 0≤1000000000:=by
  intro f
  cases hg:(k7 f W).head? with
  | none=>simp
  | some x=>have:=(h.2.1 x (vG f hg).1).2.2;simpa using this
 have k4:=k3 vS
 have k5:=k3 vN
 unfold sw Vm Vn
 repeat' split
 all_goals omega
theorem OT {r:aG} (h:vH r) {W:List ae} (hw:yz W) (s z:Int) (f:Bool) (b:Int):ln (nT r W s z f b)=some (AR r W):=by
 have hB:=Sv (r:=r) hw
 have hl:=hw.2.2
 unfold ln mI AR
 by_cases he:W=[]
 ·subst he
  by_cases h5:r.eI=5
  ·simp only [nT,List.length_nil,Int.ofNat_zero,h5,ne_eq,not_true_eq_false,decide_true,decide_false,Bool.and_false,Bool.false_eq_true,if_false,and_false]
   simp only [show ¬ ((5:Int)=1) by decide,show ¬ ((5:Int)=2) by decide,show ¬ ((5:Int)=3) by decide,show ¬ ((5:Int)=4) by decide,if_false,if_true]
   unfold gz fB ej dz
   rw [wo (p:=⟨r,[],k7 vS [],k7 vN [],kR vS [],s,z,f,b⟩) h (by simp) (by simp)]
   simp [sw,FK,h5]
  ·simp only [nT,List.length_nil,Int.ofNat_zero,h5,ne_eq,not_false_eq_true,decide_true,Bool.and_self,if_true,and_self,Lk h,Option.bind_some]
 ·rw [show (if W=[]∧r.eI≠5 then Rj r else MB r (sw r W) (FK r W))=MB r (sw r W) (FK r W) from if_neg (fun c=>he c.1)]
  have yY:0 < W.length:=List.length_pos_iff.2 he
  rw [if_neg (by simp [nT,he])]
  have Aj:∃ l x,W=l++[x]:=⟨W.dropLast,W.getLast he,(List.dropLast_concat_getLast he).symm⟩
  obtain ⟨l,x,hx⟩:=Aj
  have WU:CH W=x.bU:=by rw [hx];simp [CH]
  have S8:idx W (aU ((W.length:Int) - 1))=some x:=by
   rw [aP (by omega) (by omega),hx];exact wm l x
  have ha:=h.agg
  obtain ⟨y,W',hy⟩:∃ y W',W=y :: W':=by
   cases W with
   | nil=>exact (he rfl).elim
   | cons y W'=>exact ⟨y,W',rfl⟩
  have Z5:idx W (0:Int)=some y:=by rw [hy];exact vh y W'
  have hfv:I1 W=y.bU:=by rw [hy];rfl
  have hxB:=(hw.2.1 x (by rw [hx];simp)).2.2
  have hyB:=(hw.2.1 y (by rw [hy];simp)).2.2
  rcases (show r.eI=1∨r.eI=2∨r.eI=3∨r.eI=4∨r.eI=5∨r.eI=6 by omega) with e | e | e | e | e | e
  ·simp only [nT,e,if_true,S8,Option.bind_some]
   rw [wo (p:=⟨r,W,k7 vS W,k7 vN W,kR vS W,s,z,f,b⟩) h (by omega) (by simp)]
   simp [sw,FK,e,WU]
  ·obtain ⟨q,L,hq,hm⟩:=FL (f:=vS) he
   have hqB:=(hw.2.1 q hm).2.2
   simp only [nT,e,show ¬ ((2:Int)=1) by decide,if_false,if_true,hq,vh,Option.bind_some]
   unfold dz
   rw [wo (p:=⟨r,W,q :: L,k7 vN W,kR vS W,s,z,f,b⟩) h (by omega) (by simp)]
   simp [sw,FK,e,Vm,hq]
  ·obtain ⟨q,L,hq,hm⟩:=FL (f:=vN) he
   have hqB:=(hw.2.1 q hm).2.2
   simp only [nT,e,show ¬ ((3:Int)=1) by decide,show ¬ ((3:Int)=2) by decide,if_false,if_true,hq,vh,Option.bind_some]
   unfold ej dz
   rw [wo (p:=⟨r,W,k7 vS W,q :: L,kR vS W,s,z,f,b⟩) h (by omega) (by simp)]
   simp [sw,FK,e,Vn,hq]
  ·have hs:=FJ hw
   simp only [nT,e,show ¬ ((4:Int)=1) by decide,show ¬ ((4:Int)=2) by decide,show ¬ ((4:Int)=3) by decide,if_false,if_true]
   unfold fB ej dz
   rw [wo (p:=⟨r,W,k7 vS W,k7 vN W,kR vS W,s,z,f,b⟩) h (by omega) (by omega)]
   simp [sw,FK,e]
  ·simp only [nT,e,show ¬ ((5:Int)=1) by decide,show ¬ ((5:Int)=2) by decide,show ¬ ((5:Int)=3) by decide,show ¬ ((5:Int)=4) by decide,if_false,if_true]
   unfold gz fB ej dz
   rw [wo (p:=⟨r,W,k7 vS W,k7 vN W,kR vS W,s,z,f,b⟩) h (by omega) (by omega)]
   simp [sw,FK,e]
  ·simp only [nT,e,show ¬ ((6:Int)=1) by decide,show ¬ ((6:Int)=2) by decide,show ¬ ((6:Int)=3) by decide,show ¬ ((6:Int)=4) by decide,show ¬ ((6:Int)=5) by decide,if_false,if_true,S8,Z5,Option.bind_some]
   unfold kF gz fB ej dz
   rw [aP (by omega) (by omega),wo (p:=⟨r,W,k7 vS W,k7 vN W,kR vS W,s,z,f,b⟩) h (by omega) (by simp)]
   simp [sw,FK,e,WU,hfv]
theorem Ll {f:ae→Int} {x y:ae} {W L:List ae} (h:xS aS (x :: W)) (hd:k7 f (x :: W)=y :: L):k7 f W=if y=x then L else y :: L:=by
 rw [OO f h,hd]
 simp
theorem MC (p:aK) (hr:vH p.au) {at_:Int}:∀ {W:List ae},yz W→
 jT p at_ W (k7 vS W) (k7 vN W) (kR vS W)=some (nT p.au (c8 aS p.au.bh at_ W) p.bF p.ck p.bK p.cm):=by
 intro W
 induction W with
 | nil=>
   intro _
   unfold jT
   rw [iter_eq]
   unfold fY dN
   simp [c8,nT,bL]
 | cons x W ih=>
   intro hw
   have hx:=hw.2.1 x (by simp)
   have hl:=hr.long
   obtain ⟨hx1,Ze,hx3⟩:=hx
   have De:fY p at_ (x :: W) (k7 vS (x :: W)) (k7 vN (x :: W)) (kR vS (x :: W))=dN p (x :: W) (k7 vS (x :: W)) (k7 vN (x :: W)) (kR vS (x :: W)) (decide (x.at_+p.au.bh≤at_)):=by
    unfold fY
    rw [if_pos (by simp),vh]
    simp only [Option.bind_some]
    rw [aP (by omega) (by omega)]
   unfold jT
   rw [iter_eq]
   dsimp only
   rw [De]
   by_cases hd:x.at_+p.au.bh≤at_
   ·obtain ⟨y1,L1,e1,_⟩:=FL (f:=vS) (W:=x :: W) (by simp)
    obtain ⟨y2,L2,e2,_⟩:=FL (f:=vN) (W:=x :: W) (by simp)
    have s1:=Ll hw.1 e1
    have s2:=Ll hw.1 e2
    have hs1:=FJ hw.tail
    have KM:=FJ hw
    have key:fj (y2 :: L2) (kR vS (x :: W)) x W (k7 vS W)=some (.inl (W,k7 vS W,k7 vN W,kR vS W)):=by
     unfold fj jS
     simp only [vh,Option.bind_some,OS]
     have OU:aU (kR vS (x :: W) - x.bU)=kR vS W:=by
      rw [FI] at KM ⊢
      rw [aP (by simp only [vS] at *;omega) (by simp only [vS] at *;omega)]
      simp only [vS]<;>omega
     rw [OU,s2]
     by_cases c:y2=x
     ·rw [if_pos c,if_pos c]
     ·rw [if_neg c,if_neg c]
    have goal:(if y1=x then fj (y2 :: L2) (kR vS (x :: W)) x W L1 else fj (y2 :: L2) (kR vS (x :: W)) x W (y1 :: L1))=some (.inl (W,k7 vS W,k7 vN W,kR vS W)):=by
     rw [← key,s1]
     by_cases c:y1=x
     ·rw [if_pos c,if_pos c]
     ·rw [if_neg c,if_neg c]
    have hj:dN p (x :: W) (k7 vS (x :: W)) (k7 vN (x :: W)) (kR vS (x :: W)) (decide (x.at_+p.au.bh≤at_))=some (.inl (W,k7 vS W,k7 vN W,kR vS W)):=by
     unfold dN
     rw [if_pos (by simpa using hd),e1,e2]
     simp only [vh,Option.bind_some,OS]
     exact goal
    rw [hj]
    simp only [Option.bind_some,cS]
    have:=ih hw.tail
    unfold jT at this
    rw [this]
    simp only [c8]
    rw [if_pos hd]
   ·unfold dN
    rw [if_neg (by simpa using hd),bL]
    simp only [c8]
    rw [if_neg hd];rfl
theorem drop_eq {r:aG} (h:vH r) {W:List ae} (hw:yz W) (s z:Int) (f:Bool) (b at_:Int):ml (nT r W s z f b) at_=some (nT r (c8 aS r.bh at_ W) s z f b):=
 MC (nT r W s z f b) h hw
theorem FM {r:aG} (h:vH r) {W:List ae} (hw:yz W) (s z:Int) (f:Bool) (b at_:Int):jc (nT r W s z f b) at_=some (nT r W (AR r W) (if AR r W=s then z else at_) f b):=by
 unfold jc iU
 rw [OT h hw]
 simp only [Option.bind_some]
 by_cases c:AR r W=s
 ·rw [if_neg (by simpa [nT] using c),if_pos c];simp [nT,c]
 ·rw [if_pos (by simpa [nT] using c),if_neg c];rfl
theorem MD (p:aK) (x:ae) (v:aK) (l9 lU:List ae):∀ (n:Nat) (L:List ae),L.length=n→n≤5000→L.Pairwise (fun a b=>vN a < vN b)→kH p x v l9 lU L (L.length:Int)=jd p x v l9 lU (L.filter (fun y=>decide (vN y < vN x))):=by
 intro n
 induction n with
 | zero=>
   intro L hL _ _
   obtain rfl:L=[]:=List.eq_nil_of_length_eq_zero hL
   have hb:fC p x v l9 lU [] (([]:List ae).length:Int)=Option.map .inr (jd p x v l9 lU []):=by
    unfold fC dA
    rw [if_neg (by simp),if_neg (by simp)]
   unfold kH
   rw [iter_eq]
   dsimp only
   rw [hb,bL]
   rfl
 | succ n ih=>
   intro L hL hn hp
   have wF:L≠[]:=by intro e;rw [e] at hL;simp at hL
   obtain ⟨l,y,rfl⟩:∃ l y,L=l++[y]:=⟨L.dropLast,L.getLast wF,(List.dropLast_concat_getLast wF).symm⟩
   have hl:l.length=n:=by simpa using hL
   have e1:aU (((l++[y]).length:Int) - 1)=((l++[y]).length:Int) - 1:=aP (by omega) (by omega)
   have hb:fC p x v l9 lU (l++[y]) ((l++[y]).length:Int)=dA p x v l9 lU (l++[y]) ((l++[y]).length:Int) (decide (y.bU≤x.bU)):=by
    unfold fC
    rw [if_pos (by omega),e1,wm]
    simp only [Option.bind_some]
   unfold kH
   rw [iter_eq]
   dsimp only
   rw [hb,B8 hp]
   by_cases c:y.bU≤x.bU
   ·have hj:dA p x v l9 lU (l++[y]) ((l++[y]).length:Int) (decide (y.bU≤x.bU))=some (.inl (l,((l++[y]).length:Int) - 1)):=by
     unfold dA
     rw [if_pos (by simpa using c),e1,I2]
     rfl
    rw [hj]
    simp only [Option.bind_some,cS]
    have:=ih l hl (by omega) (List.pairwise_append.1 hp).1
    unfold kH at this
    rw [show ((l++[y]).length:Int) - 1=(l.length:Int) by simp,this,if_neg (by simp only [vN];omega)]
   ·have hj:dA p x v l9 lU (l++[y]) ((l++[y]).length:Int) (decide (y.bU≤x.bU))=Option.map .inr (jd p x v l9 lU (l++[y])):=by
     unfold dA
     rw [if_neg (by simpa using c)]
    rw [hj,bL,if_pos (by simp only [vN];omega)]
theorem ME (p:aK) (x:ae) (v:aK) (l9:List ae):∀ (n:Nat) (L:List ae),L.length=n→n≤5000→L.Pairwise (fun a b=>vS a < vS b)→kI p x v l9 L (L.length:Int)=je p x v l9 (L.filter (fun y=>decide (vS y < vS x))):=by
 intro n
 induction n with
 | zero=>
   intro L hL _ _
   obtain rfl:L=[]:=List.eq_nil_of_length_eq_zero hL
   have hb:fD p x v l9 [] (([]:List ae).length:Int)=Option.map .inr (je p x v l9 []):=by
    unfold fD dB
    rw [if_neg (by simp),if_neg (by simp)]
   unfold kI
   rw [iter_eq]
   dsimp only
   rw [hb,bL]
   rfl
 | succ n ih=>
   intro L hL hn hp
   have wF:L≠[]:=by intro e;rw [e] at hL;simp at hL
   obtain ⟨l,y,rfl⟩:∃ l y,L=l++[y]:=⟨L.dropLast,L.getLast wF,(List.dropLast_concat_getLast wF).symm⟩
   have hl:l.length=n:=by simpa using hL
   have e1:aU (((l++[y]).length:Int) - 1)=((l++[y]).length:Int) - 1:=aP (by omega) (by omega)
   have hb:fD p x v l9 (l++[y]) ((l++[y]).length:Int)=dB p x v l9 (l++[y]) ((l++[y]).length:Int) (decide (x.bU≤y.bU)):=by
    unfold fD
    rw [if_pos (by omega),e1,wm]
    simp only [Option.bind_some]
   unfold kI
   rw [iter_eq]
   dsimp only
   rw [hb,B8 hp]
   by_cases c:x.bU≤y.bU
   ·have hj:dB p x v l9 (l++[y]) ((l++[y]).length:Int) (decide (x.bU≤y.bU))=some (.inl (l,((l++[y]).length:Int) - 1)):=by
     unfold dB
     rw [if_pos (by simpa using c),e1,I2]
     rfl
    rw [hj]
    simp only [Option.bind_some,cS]
    have:=ih l hl (by omega) (List.pairwise_append.1 hp).1
    unfold kI at this
    rw [show ((l++[y]).length:Int) - 1=(l.length:Int) by simp,this,if_neg (by simp only [vS];omega)]
   ·have hj:dB p x v l9 (l++[y]) ((l++[y]).length:Int) (decide (x.bU≤y.bU))=Option.map .inr (je p x v l9 (l++[y])):=by
     unfold dB
     rw [if_neg (by simpa using c)]
    rw [hj,bL,if_pos (by simp only [vS];omega)]
theorem put_eq {r:aG} (h:vH r) {W:List ae} {x:ae} (hw:yz (W++[x])) (hl:W.length≤4999) (s z:Int) (f:Bool) (b:Int):
 nh (nT r W s z f b) x=some (let V:=c8 aS r.bh x.at_ W++[x];nT r V (AR r V) (if AR r V=s then z else x.at_) f b):=by
 have hw0:yz W:=⟨(List.pairwise_append.1 hw.1).1,fun y hy=>hw.2.1 y (List.mem_append_left _ hy),by omega⟩
 have hD:=pg aS r.bh x.at_ W
 have Vo:=hD.length_le
 have hV:yz (c8 aS r.bh x.at_ W++[x]):=by
  refine ⟨hw.1.sublist (hD.sublist.append (List.Sublist.refl _)),fun y hy=>hw.2.1 y ?_,by simp;omega⟩
  rcases List.mem_append.1 hy with hy | hy
  ·exact List.mem_append_left _ (hD.subset hy)
  ·exact List.mem_append_right _ hy
 have hs:=FJ hV
 unfold nh
 rw [drop_eq h hw0]
 simp only [Option.bind_some]
 generalize c8 aS r.bh x.at_ W=D at *
 rw [fR (by simp [nT];omega)]
 simp only [Option.bind_some]
 have hlen:∀ g:ae→Int,(k7 g D).length≤D.length:=fun g=>by
  clear hV hs hD
  induction D with
  | nil=>simp [k7]
  | cons a D ih=>
    simp only [k7]
    split
    ·simp;exact ih (by simp at Vo;omega)
    ·simp;have:=ih (by simp at Vo;omega);omega
 have e1:=ME (nT r W s z f b) x (nT r D s z f b) (D++[x]) (k7 vS D).length (k7 vS D) rfl (by have:=hlen vS;omega) (Ah vS D)
 have e2:=MD (nT r W s z f b) x (nT r D s z f b) (D++[x]) ((k7 vS D).filter (fun y=>decide (vS y < vS x))++[x]) (k7 vN D).length (k7 vN D) rfl (by have:=hlen vN;omega) (Ah vN D)
 rw [show (nT r D s z f b).ba++[x]=D++[x] from rfl]
 rw [show (nT r D s z f b).bE=k7 vS D from rfl,e1]
 unfold je
 have f1:=List.length_filter_le (fun y=>decide (vS y < vS x)) (k7 vS D)
 have f2:=List.length_filter_le (fun y=>decide (vN y < vN x)) (k7 vN D)
 have:=hlen vS
 have:=hlen vN
 rw [fR (by simp only [List.length_singleton];omega)]
 simp only [Option.bind_some]
 rw [show (nT r D s z f b).bW=k7 vN D from rfl,e2]
 unfold jd
 rw [fR (by simp only [List.length_singleton];omega)]
 simp only [Option.bind_some]
 have OU:aU ((nT r D s z f b).iZ+x.bU)=kR vS (D++[x]):=by
  rw [My] at hs ⊢
  exact aP (by simp only [nT,vS] at *;omega) (by simp only [nT,vS] at *;omega)
 rw [OU,← Ec,← Ec]
 have e3:=FM h hV s z f b x.at_
 rw [show (⟨(nT r W s z f b).au,D++[x],k7 vS (D++[x]),k7 vN (D++[x]),kR vS (D++[x]),(nT r D s z f b).bF,(nT r D s z f b).ck,(nT r D s z f b).bK,(nT r D s z f b).cm⟩:aK)=nT r (D++[x]) s z f b from rfl,e3]
 rfl
def nx (f:Bool):Int:=if f=true then 2 else 1
def xT (r:aG) (f:Bool):Int:=if f=true then r.Rest else r.bR
def wq (r:aG) (s z:Int) (f:Bool):Int:=if s=nx f then z+xT r f else eG
theorem FN {r:aG} (h:vH r) (f:Bool):0≤xT r f∧xT r f≤2592000000:=by
 unfold xT
 have:=h.hold
 have:=h.rest
 split<;>omega
theorem Lm {r:aG} (h:vH r) (W:List ae) {s z:Int} (hz:0≤z∧z≤345686400000) (f:Bool) (b:Int):dT (nT r W s z f b)=wq r s z f:=by
 have:=h.hold
 have:=h.rest
 unfold dT lQ lP wq nx xT nT
 dsimp only
 rw [aP (x:=z+r.bR) (by omega) (by omega),aP (x:=z+r.Rest) (by omega) (by omega)]
 cases f<;>by_cases h1:s=1<;>by_cases h2:s=2<;>simp [h1,h2]<;>omega
def sK (r:aG) (W:List ae) (s z:Int) (f:Bool):Int:=match W with
 | []=>min (wq r s z f) eG
 | x :: _=>min (min (wq r s z f) eG) (x.at_+r.bh)
theorem T3 {r:aG} (h:vH r) {W:List ae} (hw:yz W) {s z:Int} (hz:0≤z∧z≤345686400000) (f:Bool) (b:Int):ng (nT r W s z f b)=some (sK r W s z f):=by
 have hl:=h.long
 unfold ng kG
 rw [Lm h W hz]
 cases W with
 | nil=>simp [nT,sK]
 | cons x W=>
   have hx:=hw.2.1 x (by simp)
   rw [if_pos (by simp [nT]),show (nT r (x :: W) s z f b).ba=x :: W from rfl,vh]
   simp only [Option.bind_some]
   rw [show (nT r (x :: W) s z f b).au=r from rfl,aP (by have:=hx.1;omega) (by have:=hx.2.1;omega)]
   rfl
def qo (r:aG) (L:List ae) (t:Int):Int:=AR r (ur aS r.bh t L)
def yP (w:Int×Int):aZ:=⟨w.1,w.2⟩
def Ak (f:Bool) (c:Int):List (Int×Int):=if f=true then [(c,eG)] else []
abbrev FR (r:aG) (L:List ae) (f:Bool) (c:Int) (ws:List (Int×Int)):Prop:=FF (qo r L) eG 1 r.bR 2 r.Rest f c ws
def Al (W:List ae) (s:Int) (f:Bool):Nat:=2 * W.length+(if s=nx f then 1 else 0)
structure AI (r:aG) (L L1 L2:List ae) (q:Int) (W:List ae) (s z:Int) (f:Bool) (c:Int) (ny:List (Int×Int)) (out:List aZ):Prop where
 hL:L=L1++L2
 h1:∀ x∈L1,x.at_≤q
 h2:∀ x∈L2,q < x.at_
 hq:-1≤q∧q < eG
 st:s=AR r W
 hW:W=L1.filter (fun x=>decide (q - r.bh < aS x))
 WV:Re (qo r L) eG (nx f) (xT r f) c z s q
 Z6:s=nx f→q≤z+xT r f
 ho:out=(ny++Ak f c).map yP
 WW:∀ ws,FR r L f c ws→FR r L false 0 (ny++ws)
 WX:out.length+Al W s f≤4 * L1.length+1
theorem AI.win {r:aG} {L L1 L2:List ae} {q:Int} {W:List ae} {s z:Int} {f:Bool} {c:Int} {ny:List (Int×Int)} {out:List aZ} (h:AI r L L1 L2 q W s z f c ny out) {u:Int} (hu:q≤u) (h2:∀ x∈L2,u < x.at_):
 ur aS r.bh u L=W.filter (fun x=>decide (u - r.bh < aS x)):=by
 rw [h.hL,B9 (fun x hx=>Int.le_trans (h.h1 x hx) hu) h2,h.hW,wk hu]
theorem AI.same {r:aG} {L L1 L2:List ae} {q:Int} {W:List ae} {s z:Int} {f:Bool} {c:Int} {ny:List (Int×Int)} {out:List aZ} (h:AI r L L1 L2 q W s z f c ny out) {u:Int} (hu:q≤u) (h2:∀ x∈L2,u < x.at_) (h3:∀ x∈W,u < x.at_+r.bh):qo r L u=s:=by
 rw [h.st]
 unfold qo
 rw [h.win hu h2,IZ (fun x hx=>by have:=h3 x hx;simp only [aS];omega)]
theorem AI.Yg {r:aG} {L L1 L2:List ae} {q:Int} {W:List ae} {s z:Int} {f:Bool} {c:Int} {ny:List (Int×Int)} {out:List aZ} (h:AI r L L1 L2 q W s z f c ny out) (hw:yz L):yz L1∧yz W:=by
 have h1:yz L1:=by
  rw [h.hL] at hw
  exact ⟨(List.pairwise_append.1 hw.1).1,fun x hx=>hw.2.1 x (List.mem_append_left _ hx),by have:=hw.2.2;rw [List.length_append] at this;omega⟩
 refine ⟨h1,?_⟩
 rw [h.hW]
 exact ⟨h1.1.filter _,fun x hx=>h1.2.1 x ((List.mem_filter.1 hx).1),Nat.le_trans (List.length_filter_le _ _) h1.2.2⟩
theorem OV {r:aG} {W:List ae} (hw:xS aS W) {s z:Int} {f:Bool}:(s=nx f→sK r W s z f≤z+xT r f)∧sK r W s z f≤eG∧∀ x∈W,sK r W s z f≤x.at_+r.bh:=by
 have ht:s=nx f→wq r s z f=z+xT r f:=fun e=>by unfold wq;rw [if_pos e]
 cases W with
 | nil=>
   refine ⟨fun e=>?_,?_,fun x hx=>by simp at hx⟩
   ·have:=ht e;simp only [sK];omega
   ·simp only [sK];omega
 | cons y W=>
   refine ⟨fun e=>?_,?_,fun x hx=>?_⟩
   ·have:=ht e;simp only [sK];omega
   ·simp only [sK];omega
   ·have hy:y.at_≤x.at_:=by
     rcases List.mem_cons.1 hx with rfl | hx
     ·exact Int.le_refl _
     ·exact Int.le_of_lt (List.rel_of_pairwise_cons hw hx)
    simp only [sK];omega
theorem T4 {r:aG} {L L1 L2:List ae} {q:Int} {W:List ae} {s z:Int} {f:Bool} {c:Int} {ny:List (Int×Int)} {out:List aZ} (h:AI r L L1 L2 q W s z f c ny out):q≤sK r W s z f:=by
 have hq:=h.hq
 have ht:q≤wq r s z f:=by
  unfold wq
  split
  ·rename_i e;exact h.Z6 e
  ·exact Int.le_of_lt hq.2
 have hW:∀ x∈W,q < x.at_+r.bh:=fun x hx=>by
  rw [h.hW] at hx
  have:=(List.mem_filter.1 hx).2
  simp only [aS,decide_eq_true_eq] at this
  omega
 have h4:(345686400000:Int)=eG:=rfl
 cases W with
 | nil=>simp only [sK];omega
 | cons y W=>have:=hW y (by simp);simp only [sK];omega
theorem OW {α:Type} {c:Prop} [Decidable c] {a b:Option α} {Q:α→Prop} (h:c) (k:Ok a Q):Ok (if c then a else b) Q:=by rw [if_pos h];exact k
theorem OX {α:Type} {c:Prop} [Decidable c] {a b:Option α} {Q:α→Prop} (h:¬ c) (k:Ok b Q):Ok (if c then a else b) Q:=by rw [if_neg h];exact k
theorem Ln {r:aG} (hr:vH r) {W:List ae} (hw:yz W) {s z:Int} (hz:0≤z) (f:Bool):0≤sK r W s z f:=by
 have hl:=FN hr f
 have Z7:=hr.long
 have ht:0≤wq r s z f:=by unfold wq;simp only [eG];split<;>omega
 cases W with
 | nil=>simp only [sK,eG];omega
 | cons y W=>have:=(hw.2.1 y (by simp)).1;simp only [sK,eG];omega
theorem Lo (f:Bool):nx f≠nx (!f):=by cases f<;>simp [nx]
def Quiet (r:aG) (W:List ae) (s z:Int) (f:Bool) (p:Int):Prop:=(s=nx f→p≤z+xT r f)∧∀ x∈W,p≤x.at_+r.bh
theorem Lp {ny:List (Int×Int)} {f:Bool} {c:Int} {out:List aZ} (h:out=(ny++Ak f c).map yP):out.length=ny.length+(if f=true then 1 else 0):=by
 rw [h]
 cases f<;>simp [Ak]
theorem AI.step {r:aG} (hr:vH r) {L:List ae} (HC:yz L) {L1 L2:List ae} {q:Int} {W:List ae} {s z:Int} {f:Bool} {c:Int} {ny:List (Int×Int)} {out:List aZ} (h:AI r L L1 L2 q W s z f c ny out) {p:Int} (hp:p=sK r W s z f) (hE:p < eG) (h2:∀ x∈L2,p < x.at_):
 ∃ W' s' z',W'=c8 aS r.bh p W∧s'=AR r W'∧z'=(if s'=s then z else p)∧
   (wq r s' z' f=p→∃ yQ,AI r L L1 L2 p W' s' z' (!f) p yQ (if f=true then (ny++[(c,p)]).map yP else out++[⟨p,eG⟩])∧Al W' s' (!f) < Al W s f)∧
   (wq r s' z' f≠p→AI r L L1 L2 p W' s' z' f c ny out∧Al W' s' f < Al W s f):=by
 obtain ⟨L8,hw⟩:=h.Yg HC
 have hq:=h.hq
 have hl:=FN hr f
 have x5:=FN hr (!f)
 have JJ:q≤p:=by rw [hp];exact T4 h
 obtain ⟨d1,d2,d3⟩:=OV (r:=r) (s:=s) (z:=z) (f:=f) hw.1
 rw [← hp] at d1 d2 d3
 have hWf:c8 aS r.bh p W=W.filter (fun x=>decide (p - r.bh < aS x)):=uu hw.1
 have Rk:c8 aS r.bh p W=L1.filter (fun x=>decide (p - r.bh < aS x)):=by rw [hWf,h.hW,wk JJ]
 have T5:qo r L p=AR r (c8 aS r.bh p W):=by
  unfold qo;rw [h.win JJ h2,hWf]
 have OY:∀ u,q≤u→u < p→qo r L u=s:=fun u h5 h6=>h.same h5 (fun x hx=>by have:=h2 x hx;omega) (fun x hx=>by have:=d3 x hx;omega)
 have Tg:0≤p:=by rw [hp];exact Ln hr hw h.WV.hz.1 f
 have Vp:=h.WV.go hl.1 JJ Tg OY d1
 rw [T5] at Vp
 have hlen:(c8 aS r.bh p W).length≤W.length:=(pg aS r.bh p W).length_le
 have OZ:(c8 aS r.bh p W).length < W.length∨(c8 aS r.bh p W=W∧s=nx f∧z+xT r f=p):=by
  cases W with
  | nil=>
    right
    refine ⟨rfl,?_⟩
    simp only [sK,wq] at hp
    by_cases e:s=nx f
    ·rw [if_pos e] at hp;exact ⟨e,by omega⟩
    ·rw [if_neg e] at hp;omega
  | cons y W=>
    by_cases e:y.at_+r.bh≤p
    ·left
     simp only [c8]
     rw [if_pos e]
     have:=(pg aS r.bh p W).length_le
     simp only [List.length_cons];omega
    ·right
     refine ⟨by simp only [c8];rw [if_neg e],?_⟩
     simp only [sK,wq] at hp
     by_cases e2:s=nx f
     ·rw [if_pos e2] at hp;exact ⟨e2,by omega⟩
     ·rw [if_neg e2] at hp;omega
 have yX:=h.st
 refine ⟨_,_,_,rfl,rfl,rfl,fun ht=>?_,fun ht=>?_⟩
 ·have xa:AR r (c8 aS r.bh p W)=nx f:=by
   unfold wq at ht
   by_cases e:AR r (c8 aS r.bh p W)=nx f
   ·exact e
   ·rw [if_neg e] at ht;omega
  unfold wq at ht
  rw [if_pos xa] at ht
  obtain ⟨k1,k2⟩:=Vp.flip hl.1 x5.1 hE xa ht (Lo f)
  have hnw:¬ AR r (c8 aS r.bh p W)=nx (!f):=by rw [xa];exact Lo f
  have T8:Al (c8 aS r.bh p W) (AR r (c8 aS r.bh p W)) (!f) < Al W s f:=by
   unfold Al
   rw [if_neg hnw]
   rcases OZ with h7 | ⟨h7,h8,_⟩
   ·split<;>omega
   ·rw [h7,if_pos h8];omega
  have h0:=h.WX
  have ho:=Lp h.ho
  refine ⟨if f=true then ny++[(c,p)] else ny,⟨h.hL,fun x hx=>Int.le_trans (h.h1 x hx) JJ,h2,⟨by omega,hE⟩,rfl,Rk,k2,fun e=>(hnw e).elim,?_,?_,?_⟩,T8⟩
  ·cases f with
   | true=>simp [Ak]
   | false=>simp [Ak,h.ho,yP]
  ·intro ws Yh
   cases f with
   | true=>
     simp only [if_true,Bool.not_true] at Yh ⊢
     rw [List.append_assoc]
     exact h.WW _ (FF.down (by simpa [nx,xT] using k1) Yh)
   | false=>
     simp only [Bool.false_eq_true,if_false,Bool.not_false] at Yh ⊢
     exact h.WW _ (FF.up (by simpa [nx,xT] using k1) Yh)
  ·cases f with
   | true=>simp only [if_true,List.length_map,List.length_append,List.length_singleton] at ho ⊢;omega
   | false=>simp only [Bool.false_eq_true,if_false,List.length_append,List.length_singleton] at ho ⊢;omega
 ·have WY:AR r (c8 aS r.bh p W)=nx f→p≤(if AR r (c8 aS r.bh p W)=s then z else p)+xT r f:=by
   intro e
   split
   ·rename_i e2;exact d1 (by rw [← e2,e])
   ·omega
  have T8:Al (c8 aS r.bh p W) (AR r (c8 aS r.bh p W)) f < Al W s f:=by
   unfold Al
   rcases OZ with h7 | ⟨h7,h8,h9⟩
   ·split<;>split<;>omega
   ·exfalso
    apply ht
    unfold wq
    rw [h7,← yX,if_pos h8,if_pos rfl,h9]
  have h0:=h.WX
  exact ⟨⟨h.hL,fun x hx=>Int.le_trans (h.h1 x hx) JJ,h2,⟨by omega,hE⟩,rfl,Rk,Vp,WY,h.ho,h.WW,by omega⟩,T8⟩
theorem Rl {ny:List (Int×Int)} {c p:Int} {out:List aZ} (h:out=(ny++Ak true c).map yP) (hl:out.length≤100000):kr p false out=some ((ny++[(c,p)]).map yP):=by
 have e:out=ny.map yP++[⟨c,eG⟩]:=by rw [h];simp [Ak,yP]
 have Qk:aU ((out.length:Int) - 1)=(out.length:Int) - 1:=aP (by omega) (by omega)
 unfold kr iz
 rw [if_neg (by simp),Qk]
 have hi:idx out ((out.length:Int) - 1)=some ⟨c,eG⟩:=by rw [e];exact wm _ _
 rw [hi]
 simp only [Option.bind_some]
 congr 1
 rw [e]
 simp [yP]
theorem Ef {r:aG} (hr:vH r) {L:List ae} (HC:yz L) {L1 L2:List ae} {q:Int} {W:List ae} {s z:Int} {f:Bool} {c:Int} {ny:List (Int×Int)} {out:List aZ} (h:AI r L L1 L2 q W s z f c ny out) (b p:Int) (h2:∀ x∈L2,p≤x.at_):
 Ok (bS (nT r W s z f b) p out) (fun res=>∃ q' W' s' z' f' b' c' yQ,res.1=nT r W' s' z' f' b'∧AI r L L1 L2 q' W' s' z' f' c' yQ res.2∧Quiet r W' s' z' f' (min p eG)):=by
 unfold bS gA
 refine Ok.iter (fun x=>Al x.1 x.2.2.2.2.1 x.2.2.2.2.2.2.1) (fun x=>∃ q' W' s' z' f' b' c' yQ DI,x=(W',k7 vS W',k7 vN W',kR vS W',s',z',f',b',DI)∧AI r L L1 L2 q' W' s' z' f' c' yQ DI) (fun x hx=>?_) _ ⟨q,W,s,z,f,b,c,ny,out,rfl,h⟩
 obtain ⟨q,W,s,z,f,b,c,ny,out,rfl,h⟩:=hx
 obtain ⟨L8,hw⟩:=h.Yg HC
 have hzq:=h.WV.hz
 have hq:=h.hq
 have Yx:L1.length≤5000:=L8.2.2
 have ho:=h.WX
 dsimp only
 unfold cj
 have e1:(⟨(nT r W s z f b).au,W,k7 vS W,k7 vN W,kR vS W,s,z,f,b⟩:aK)=nT r W s z f b:=rfl
 have e0:∀ (W0:List ae) (s0 z0:Int) (f0:Bool) (b0:Int),(⟨(nT r W0 s0 z0 f0 b0).au,W,k7 vS W,k7 vN W,kR vS W,s,z,f,b⟩:aK)=nT r W s z f b:=fun _ _ _ _ _=>rfl
 simp only [e0]
 refine Ok.is (T3 hr hw (by simp only [eG] at hq;omega) f b) ?_
 obtain ⟨d1,d2,d3⟩:=OV (r:=r) (s:=s) (z:=z) (f:=f) hw.1
 split
 ·rename_i hle
  refine Ok.inr (Ok.ret ⟨q,W,s,z,f,b,c,ny,rfl,h,fun e=>?_,fun x hx=>?_⟩)
  ·have:=d1 e;simp only [eG];omega
  ·have:=d3 x hx;simp only [eG];omega
 ·rename_i hle
  have hE:sK r W s z f < eG:=by simp only [eG];omega
  have Tf:sK r W s z f < p:=by omega
  obtain ⟨W',s',z',Rk,xa,hz',k1,k2⟩:=h.step hr HC rfl hE (fun x hx=>by have:=h2 x hx;omega)
  have Z8:yz W':=by rw [Rk];exact hw.suf (pg _ _ _ _)
  refine Ok.is (drop_eq hr hw s z f b _) ?_
  rw [← Rk]
  refine Ok.is (v:=nT r W' s' z' f b) ?_ ?_
  ·have:=FM hr Z8 s z f b (sK r W s z f)
   rw [← xa,← hz'] at this
   exact this
  have Og:0≤z'∧z'≤345686400000:=by
   have:=Ln hr hw hzq.1 f (s:=s)
   simp only [eG] at hE hq
   rw [hz'];split<;>omega
  have e2:(⟨r,(nT r W' s' z' f b).ba,(nT r W' s' z' f b).bE,(nT r W' s' z' f b).bW,(nT r W' s' z' f b).iZ,(nT r W' s' z' f b).bF,(nT r W' s' z' f b).ck,(nT r W' s' z' f b).bK,(nT r W' s' z' f b).cm⟩:aK)=nT r W' s' z' f b:=rfl
  have e3:dT (nT r W' s' z' f b)=wq r s' z' f:=Lm hr W' Og f b
  by_cases ht:wq r s' z' f=sK r W s z f
  ·obtain ⟨yQ,a1,a2⟩:=k1 ht
   refine OW (e3.trans ht) ?_
   cases f with
   | false=>
     rw [if_pos (by rfl)]
     unfold bN
     refine Ok.is (v:=out++[⟨sK r W s z false,eG⟩]) ?_ ?_
     ·unfold kr iz
      rw [if_pos (by rfl),fR (by simp;omega)]
      rfl
     ·exact Ok.ret ⟨⟨_,_,_,_,_,_,_,_,_,rfl,a1⟩,a2⟩
   | true=>
     rw [if_neg (by simp [nT])]
     unfold bN
     refine Ok.is (v:=(ny++[(c,sK r W s z true)]).map yP) ?_ ?_
     ·exact Rl h.ho (by omega)
     ·exact Ok.ret ⟨⟨_,_,_,_,_,_,_,_,_,rfl,a1⟩,a2⟩
  ·obtain ⟨a1,a2⟩:=k2 ht
   refine OX (fun e=>ht (e3.symm.trans e)) ?_
   unfold ch
   exact Ok.ret ⟨⟨_,_,_,_,_,_,_,_,_,rfl,a1⟩,a2⟩
theorem AI.put {r:aG} (hr:vH r) {L:List ae} (HC:yz L) {L1 L2:List ae} {x:ae} {q:Int} {W:List ae} {s z:Int} {f:Bool} {c:Int} {ny:List (Int×Int)} {out:List aZ} (h:AI r L L1 (x :: L2) q W s z f c ny out) (hq:Quiet r W s z f x.at_):
 ∃ V,V=c8 aS r.bh x.at_ W++[x]∧AI r L (L1++[x]) L2 x.at_ V (AR r V) (if AR r V=s then z else x.at_) f c ny out:=by
 obtain ⟨L8,hw⟩:=h.Yg HC
 have VG:q < x.at_:=h.h2 x (by simp)
 have hx:WT x:=HC.2.1 x (by rw [h.hL];simp)
 have hl:=FN hr f
 have Z7:=hr.long
 have Z9:xS aS (L1++(x :: L2)):=by rw [← h.hL];exact HC.1
 have MZ:∀ y∈L2,x.at_ < y.at_:=fun y hy=>List.rel_of_pairwise_cons (List.pairwise_append.1 Z9).2.1 hy
 have hV:c8 aS r.bh x.at_ W++[x]=(L1++[x]).filter (fun y=>decide (x.at_ - r.bh < aS y)):=by
  rw [uu hw.1,h.hW,wk (Int.le_of_lt VG),List.filter_append]
  congr 1
  rw [List.filter_cons_of_pos (by simp only [aS,decide_eq_true_eq];omega)];rfl
 have Yi:L=(L1++[x])++L2:=by rw [h.hL];simp
 have Hw:∀ y∈L1++[x],y.at_≤x.at_:=fun y hy=>by
  rcases List.mem_append.1 hy with hy | hy
  ·have:=h.h1 y hy;omega
  ·obtain rfl:y=x:=by simpa using hy
   exact Int.le_refl _
 have T5:qo r L x.at_=AR r (c8 aS r.bh x.at_ W++[x]):=by
  unfold qo
  rw [Yi,B9 Hw MZ,hV]
 have Vp:=h.WV.go hl.1 (Int.le_of_lt VG) hx.1 (fun u h5 h6=>h.same h5 (fun y hy=>by
  rcases List.mem_cons.1 hy with rfl | hy
  ·exact h6
  ·have:=MZ y hy;omega) (fun y hy=>by have:=hq.2 y hy;omega)) hq.1
 rw [T5] at Vp
 refine ⟨_,rfl,Yi,Hw,MZ,⟨by have:=hx.1;omega,by have:=hx.2.1;simp only [eG];omega⟩,rfl,hV,Vp,fun e=>?_,h.ho,h.WW,?_⟩
 ·split
  ·rename_i e2;exact hq.1 (by rw [← e2,e])
  ·omega
 ·have h0:=h.WX
  have hlen:(c8 aS r.bh x.at_ W).length≤W.length:=(pg aS r.bh x.at_ W).length_le
  unfold Al at h0 ⊢
  simp only [List.length_append,List.length_singleton]
  split<;>split at h0<;>omega
theorem I3 {r:aG} (hr:vH r) {L:List ae} (HC:yz L):∃ ws,FR r L false 0 ws∧ws.length≤4 * L.length+1∧gB r L=some (ws.map yP):=by
 have hl:=HC.2.2
 have key:Ok (gB r L) (fun res=>∃ ws,FR r L false 0 ws∧ws.length≤4 * L.length+1∧res=ws.map yP):=by
  unfold gB
  have O0:=OT hr (W:=[]) ⟨List.Pairwise.nil,by simp,by simp⟩ 0 0 false 0
  have JQ:ov r=some (nT r [] (AR r []) 0 false 0):=by
   unfold ov
   rw [show (⟨r,[],[],[],0,0,0,false,0⟩:aK)=nT r [] 0 0 false 0 from rfl,O0]
   rfl
  refine Ok.is JQ ?_
  unfold wN
  have aiD:qo r L (-1)=AR r []:=by
   unfold qo ur
   rw [List.filter_eq_nil_iff.2 fun x hx=>by have:=(HC.2.1 x hx).1;simp only [aS,decide_eq_true_eq];omega]
  have aa0:AI r L [] L (-1) [] (AR r []) 0 false 0 [] []:=by
   have hlg:=FN hr false
   refine ⟨rfl,by simp,fun x hx=>by have:=(HC.2.1 x hx).1;omega,⟨by omega,by simp [eG]⟩,rfl,rfl,⟨⟨Int.le_refl _,.inr rfl⟩,fun u h1 h2=>by omega,.inl rfl,⟨Int.le_refl _,.inr rfl⟩,fun _=>Int.le_refl _,fun t ht k=>?_⟩,fun _=>by omega,rfl,fun ws h=>by simpa using h,?_⟩
   ·have:=k.1;omega
   ·unfold Al;simp;split<;>omega
  refine Ok.iter (fun x=>L.length+1 - x.2.2.2.2.2.2.2.2.2.toNat) (fun x=>∃ (i:Nat) (q:Int) (W:List ae) (s z:Int) (f:Bool) (b c:Int) (ny:List (Int×Int)) (out:List aZ),x=(out,W,k7 vS W,k7 vN W,kR vS W,s,z,f,b,(i:Int))∧i≤L.length∧AI r L (L.take i) (L.drop i) q W s z f c ny out) (fun x hx=>?_) _ ⟨0,-1,[],AR r [],0,false,0,0,[],[],rfl,Nat.zero_le _,by simpa using aa0⟩
  obtain ⟨i,q,W,s,z,f,b,c,ny,out,rfl,hi,h⟩:=hx
  dsimp only
  unfold mn
  by_cases lh:i < L.length
  ·rw [if_pos (by omega)]
   have hx:idx L (i:Int)=some L[i]:=by unfold idx;simp [lh]
   have hd:L.drop i=L[i] :: L.drop (i+1):=List.drop_eq_getElem_cons lh
   have ht:L.take (i+1)=L.take i++[L[i]]:=by rw [List.take_add_one];simp [lh]
   refine Ok.is hx ?_
   rw [hd] at h
   have Z9:xS aS (L.take i++(L[i] :: L.drop (i+1))):=by rw [← h.hL];exact HC.1
   have aa1:=Ef hr HC h b L[i].at_ (fun y hy=>by
    rcases List.mem_cons.1 hy with rfl | hy
    ·exact Int.le_refl _
    ·exact Int.le_of_lt (List.rel_of_pairwise_cons (List.pairwise_append.1 Z9).2.1 hy))
   rw [show (⟨r,W,k7 vS W,k7 vN W,kR vS W,s,z,f,b⟩:aK)=nT r W s z f b from rfl]
   refine Ok.bind aa1 (fun res JM=>?_)
   obtain ⟨q',W',s',z',f',b',c',yQ,e1,h',Vq⟩:=JM
   obtain ⟨t1,DI⟩:=res
   dsimp only at e1 h'
   subst e1
   have hxO:WT L[i]:=HC.2.1 _ (List.getElem_mem lh)
   have Y0:Quiet r W' s' z' f' L[i].at_:=by
    have:min L[i].at_ eG=L[i].at_:=by have:=hxO.2.1;simp only [eG];omega
    rw [this] at Vq;exact Vq
   obtain ⟨V,hV,hp⟩:=h'.put hr HC Y0
   obtain ⟨L8,hw⟩:=h'.Yg HC
   have hWx:yz (W'++[L[i]]):=by
    refine ⟨List.pairwise_append.2 ⟨hw.1,List.pairwise_singleton _ _,fun a ha b hb=>?_⟩,fun y hy=>?_,?_⟩
    ·obtain rfl:b=L[i]:=by simpa using hb
     have h9:=h'.h1 a (by have:=h'.hW;rw [this] at ha;exact (List.mem_filter.1 ha).1)
     have:=h'.h2 L[i] (List.mem_cons_self ..)
     simp only [aS];omega
    ·rcases List.mem_append.1 hy with hy | hy
     ·exact hw.2.1 y hy
     ·obtain rfl:y=L[i]:=by simpa using hy
      exact hxO
    ·have:W'.length≤i:=by
      rw [h'.hW];exact Nat.le_trans (List.length_filter_le _ _) (by simp;omega)
     simp;omega
   have hl4:W'.length≤4999:=by have:=hWx.2.2;simp at this;omega
   have WZ:=put_eq hr hWx hl4 s' z' f' b'
   rw [← hV] at WZ
   refine Ok.is WZ ?_
   have Cj:aU ((i:Int)+1)=((i+1:Nat):Int):=by rw [aP (by omega) (by omega)];omega
   refine Ok.ret ⟨⟨i+1,L[i].at_,V,AR r V,(if AR r V=s' then z' else L[i].at_),f',b',c',yQ,DI,?_,by omega,by rw [ht];exact hp⟩,?_⟩
   ·rw [Cj];rfl
   ·simp only [Cj];omega
  ·rw [if_neg (by omega)]
   have hiL:i=L.length:=by omega
   subst hiL
   refine Ok.inr ?_
   unfold sE
   rw [show (⟨r,W,k7 vS W,k7 vN W,kR vS W,s,z,f,b⟩:aK)=nT r W s z f b from rfl]
   rw [List.drop_length,List.take_length] at h
   refine Ok.bind (Ef hr HC h b 345686400000 (by simp)) (fun res JM=>?_)
   obtain ⟨q',W',s',z',f',b',c',yQ,e1,h',Vq⟩:=JM
   have hlg:=FN hr f'
   have Fg:∀ t,¬ CG (qo r L) eG (nx f') (xT r f') c' t:=fun t k=>by
    have hE:min (345686400000:Int) eG=eG:=by simp [eG]
    rw [hE] at Vq
    exact h'.WV.none hlg.1 (fun u h5 h6=>h'.same h5 (by simp) (fun x hx=>by have:=Vq.2 x hx;omega)) Vq.1 t k.2.1 k
   have ho:=h'.WX
   have Zi:=Lp h'.ho
   refine Ok.ret ⟨yQ++Ak f' c',h'.WW _ ?_,?_,h'.ho⟩
   ·cases f' with
    | false=>exact FF.never (by simpa [nx,xT] using Fg)
    | true=>exact FF.stay (by simpa [nx,xT] using Fg)
   ·rw [List.length_append]
    have:(Ak f' c').length=if f'=true then 1 else 0:=by cases f'<;>rfl
    omega
 obtain ⟨res,h1,ws,h2,h3,rfl⟩:=key
 exact ⟨ws,h2,h3,h1⟩
theorem yi {α:Type} (p:α→Bool):∀ l:List α,l.dropWhile p=[]↔l.all p=true
 | []=>by simp
 | x :: r=>by
   rw [List.dropWhile_cons]
   cases h:p x with
   | true=>simp only [if_true,List.all_cons,h,Bool.true_and];exact yi p r
   | false=>simp [h]
theorem FO (l cs:aO):Lib.trimS l cs=[]↔l.all (fun c=>decide (c∈cs))=true:=by
 have hc:∀ c:UInt8,cs.contains c=decide (c∈cs):=fun c=>by rw [Bool.eq_iff_iff];simp
 unfold Lib.trimS Lib.trimLeftS Lib.trimRightS
 rw [yi,List.all_reverse]
 constructor
 ·intro h
  have hd:(l.reverse.dropWhile (cs.contains ·))=[]:=by
   cases hh:l.reverse.dropWhile (cs.contains ·) with
   | nil=>rfl
   | cons a b=>
     have h1:=List.head?_dropWhile_not (fun c=>cs.contains c) l.reverse
     rw [hh] at h h1
     simp only [List.head?_cons] at h1
     simp only [List.all_cons,Bool.and_eq_true] at h
     rw [h.1] at h1;simp at h1
  rw [yi,List.all_reverse] at hd
  simpa [hc] using hd
 ·intro h
  have hd:l.reverse.dropWhile (cs.contains ·)=[]:=by
   rw [yi,List.all_reverse];simpa [hc] using h
  rw [hd];rfl
theorem O1 {s cs:aO} (h1:s.length≤100000) (h2:cs.length≤100000) (h3:cs.all (fun b=>decide (b.toNat < 128))=true):Ix s cs=some (Lib.trimS s cs):=by
 unfold Ix;rw [if_pos ⟨by omega,by omega,h3⟩]
theorem Am (s:aO):zX s=some (nM s):=by
 unfold zX vx
 rw [Bm]
 cases s with
 | nil=>rfl
 | cons c r=>
   by_cases hl:(c :: r).length≤40
   ·rw [if_pos (by simp;simp at hl;omega),O1 (by omega) (by simp) (by decide)]
    simp only [Option.bind_some]
    have e:(c :: r).all (fun c=>decide (c∈([97,98,99,100,101,102,103,104,105,106,107,108,109,110,111,112,113,114,115,116,117,118,119,120,121,122,48,49,50,51,52,53,54,55,56,57,45,95]:List UInt8)))=(c :: r).all (fun c=>Rg c.toNat):=by
     congr 1;funext c
     exact OQ (p:=fun c=>decide (c∈([97,98,99,100,101,102,103,104,105,106,107,108,109,110,111,112,113,114,115,116,117,118,119,120,121,122,48,49,50,51,52,53,54,55,56,57,45,95]:List UInt8))) Mz c
    have e2:=OQ (p:=fun c=>decide (c∈([97,98,99,100,101,102,103,104,105,106,107,108,109,110,111,112,113,114,115,116,117,118,119,120,121,122]:List UInt8))) (q:=fun n=>decide (97≤n)&&decide (n≤122)) Rh c
    rw [yh,decide_eq_true hl,Bool.true_and,← e,← e2]
    by_cases ht:Lib.trimS (c :: r) ([97,98,99,100,101,102,103,104,105,106,107,108,109,110,111,112,113,114,115,116,117,118,119,120,121,122,48,49,50,51,52,53,54,55,56,57,45,95]:aO)=[]
    ·rw [if_pos ht,(FO _ _).1 ht,Bool.and_true]
     have i0:idx (c :: r) 0=some c:=rfl
     rw [i0]
     simp only [Option.bind_some,vY,Z0]
     congr 1
     have:=vE ([97,98,99,100,101,102,103,104,105,106,107,108,109,110,111,112,113,114,115,116,117,118,119,120,121,122]:List UInt8) c
     rw [decide_eq_decide]
     constructor
     ·intro h;exact Classical.byContradiction fun h'=>by have:=this.2 h';omega
     ·intro h;have h':=mt this.1 (fun h'=>h' h);omega
    ·rw [if_neg ht]
     have:(c :: r).all (fun c=>decide (c∈([97,98,99,100,101,102,103,104,105,106,107,108,109,110,111,112,113,114,115,116,117,118,119,120,121,122,48,49,50,51,52,53,54,55,56,57,45,95]:List UInt8)))=false:=by
      rw [← Bool.not_eq_true];exact fun h=>ht ((FO _ _).2 h)
     rw [this,Bool.and_false]
   ·rw [if_neg (by simp;simp at hl;omega),yh,decide_eq_false hl];rfl
theorem I4 (n:Int):om n=if 0≤n∧n≤345686399999 then 0 else 1:=by
 unfold om
 rw [Bm]
 by_cases h:0≤n∧n≤345686399999
 ·rw [if_pos h,if_neg (by simp;omega)]
 ·rw [if_neg h,if_pos (by simp;omega)]
theorem O2 (s:aO):tY s=some (if nM s=true then 0 else 5):=by
 unfold tY
 rw [Am]
 simp only [Option.bind_some]
 cases nM s<;>rfl
theorem O3 (x:Int) (r:List Int):mA (x :: r)=if x≠0 then x else mA r:=rfl
theorem nL.or {α:Type} {c:α→α→Int} {f:α→α→List Int} (h:nL c) (k:nL fun a b=>mA (f a b)):nL fun a b=>mA (c a b :: f a b):=h.lex k
theorem nL.or0 {α:Type}:nL (fun (_ _:α)=>mA []):=⟨fun _ _=>rfl,fun h _=>absurd h (by simp [mA]),fun _ h=>absurd h (by simp [mA])⟩
theorem Lq {α:Type} [DecidableEq α] {c:α→α→Int} (hc:nL c):∀ (r:List α) (p:α),qV c (p :: r)→(∀ a∈p :: r,∀ b∈p :: r,c a b=0→a=b)→(∀ x∈CE vg p r,x≠p)∧(CE vg p r).Nodup
 | [],p,_,_=>by simp [CE]
 | y :: r,p,hs,ha=>by
   have xa:=List.pairwise_cons.1 hs
   obtain ⟨i1,i2⟩:=Lq hc r y xa.2 (fun a h1 b h2=>ha a (List.mem_cons_of_mem _ h1) b (List.mem_cons_of_mem _ h2))
   simp only [CE]
   by_cases e:vg y p=true
   ·rw [if_pos e]
    have:y=p:=by simpa [vg] using e
    subst this
    exact ⟨i1,i2⟩
   ·rw [if_neg e]
    have hyp:y≠p:=by simpa [vg] using e
    refine ⟨fun x hx=>?_,List.nodup_cons.2 ⟨fun h=>i1 y h rfl,i2⟩⟩
    rcases List.mem_cons.1 hx with rfl | hx
    ·exact hyp
    ·intro hxp
     subst hxp
     have hxr:x∈r:=(C2 vg y r).subset hx
     have h1:=xa.1 y (by simp)
     have h2:=(List.pairwise_cons.1 xa.2).1 x hxr
     have:=hc.neg x y
     exact hyp (ha y (by simp) x (by simp) (by omega))
theorem T9 {α:Type} [DecidableEq α] {c:α→α→Int} (hc:nL c) {U:List α} (hs:qV c U) (ha:∀ a∈U,∀ b∈U,c a b=0→a=b):(dd vg U).Nodup:=by
 cases U with
 | nil=>simp [dd]
 | cons p r=>
   obtain ⟨i1,i2⟩:=Lq hc r p hs ha
   simp only [dd]
   exact List.nodup_cons.2 ⟨fun h=>i1 p h rfl,i2⟩
theorem Kh {α:Type} [DecidableEq α] (U:List α) (x:α):x∈dd vg U↔x∈U:=⟨fun h=>(Ke vg U).subset h,Z3⟩
theorem zv {α:Type} {st:Option α→α→Int}:∀ (xs:List α) (p:Option α),B7 st p xs=0→∀ (i:Nat) x,xs[i]? =some x→st (if i=0 then p else xs[i - 1]?) x=0
 | [],_,_,i,x,h=>by simp at h
 | s :: r,p,h,i,x,hx=>by
   simp only [B7] at h
   split at h
   ·rename_i h0
    match i with
    | 0=>simp at hx;subst hx;exact h0
    | i+1=>
      have:=zv r (some s) h i x (by simpa using hx)
      rw [if_neg (by omega)]
      match i with
      | 0=>simpa using this
      | i+1=>simpa using this
   ·exact absurd h ‹_›
def mO (a b:ao):Int:=mA [oc a.At b.At,Lib.compareBytes a.Device b.Device,Lib.compareBytes a.ax b.ax]
theorem Ua:nL mO:=(D8.on ao.At).or ((wj.on ao.Device).or ((wj.on ao.ax).or .or0))
theorem G3 (a b:ao):ot a b=some (mO a b):=by
 unfold ot
 rw [lG]
 have h:jj [oc a.At b.At,Lib.compareBytes a.Device b.Device,Lib.compareBytes a.ax b.ax]=some (mO a b):=xM _ (by simp)
 rw [h];rfl
theorem Eg (a b:ao):oq a b=some (mO a b):=by
 unfold oq
 rw [lG]
 have h:jj [oc a.At b.At,Lib.compareBytes a.Device b.Device,Lib.compareBytes a.ax b.ax]=some (mO a b):=xM _ (by simp)
 rw [h];rfl
def Ki (n:Int):Bool:=decide (0≤n)&&decide (n≤345686399999)
def wU (s:ao):Int:=if Ki s.At=false then 1 else if (nM s.Device&&nM s.ax)=false then 5 else if s.Value < -1000000000∨1000000000 < s.Value then 1 else 0
def Bn (prev:Option ao) (s:ao):Int:=if wU s≠0 then wU s else match prev with
 | none=>0
 | some p=>if mO s p≤0 then 7 else 0
def iE (xs:List ao):Int:=if (5000:Int) < xs.length then 2 else B7 Bn none xs
theorem Eh (s:ao):ll s=some (wU s):=by
 unfold ll wU
 rw [MA,show (decide (0≤s.At)&&decide (s.At≤345686399999))=Ki s.At from rfl]
 simp only [G2,Option.bind_some]
 cases hm:Ki s.At
 ·simp
 ·simp only [Bool.not_true,Bool.false_eq_true,if_false,Bool.true_eq_false]
  have key:gO s (!(nM s.Device&&nM s.ax))=some (if (nM s.Device&&nM s.ax)=false then 5 else if s.Value < -1000000000∨1000000000 < s.Value then 1 else 0):=by
   unfold gO
   cases hk:(nM s.Device&&nM s.ax)
   ·simp
   ·simp only [Bool.not_true,Bool.false_eq_true,if_false,Bool.true_eq_false]
    rw [G1]
    by_cases h3:s.Value < -1000000000∨1000000000 < s.Value
    ·rw [if_pos h3,if_pos (by simp only [Bool.or_eq_true,decide_eq_true_eq];exact h3)]
    ·rw [if_neg h3,if_neg (by simp only [Bool.or_eq_true,decide_eq_true_eq];exact h3)]
  cases hd:nM s.Device
  ·rw [hd] at key;simpa using key
  ·rw [hd] at key;simpa using key
theorem CI (s:ao):oo s=some (wU s):=by
 unfold oo wU
 rw [I4]
 simp only [Am,Option.bind_some]
 have W1:(Ki s.At=false)↔¬ (0≤s.At∧s.At≤345686399999):=by
  unfold Ki
  rw [← Bool.decide_and,decide_eq_false_iff_not]
 by_cases hm:0≤s.At∧s.At≤345686399999
 ·rw [if_neg (by rw [if_pos hm];simp),if_neg (c:=Ki s.At=false) (fun h=>W1.1 h hm)]
  have key:jF s (!(nM s.Device&&nM s.ax))=some (if (nM s.Device&&nM s.ax)=false then 5 else if s.Value < -1000000000∨1000000000 < s.Value then 1 else 0):=by
   unfold jF
   cases hk:(nM s.Device&&nM s.ax)
   ·simp
   ·simp only [Bool.not_true,Bool.false_eq_true,if_false,Bool.true_eq_false]
    rw [Bm]
    by_cases h3:s.Value < -1000000000∨1000000000 < s.Value
    ·rw [if_pos h3,if_pos (by simp only [Bool.not_eq_true',Bool.and_eq_false_iff,decide_eq_false_iff_not];omega)]
    ·rw [if_neg h3,if_neg (by simp only [Bool.not_eq_true',Bool.and_eq_false_iff,decide_eq_false_iff_not];omega)]
  cases hd:nM s.Device
  ·rw [hd] at key;simpa using key
  ·rw [hd] at key;simpa using key
 ·rw [if_pos (by rw [if_neg hm];simp),if_pos (W1.2 hm)]
theorem oU (xs:List ao):cU xs=some (iE xs):=by
 unfold cU iE
 split
 ·rfl
 ·rename_i hl
  unfold rS
  refine Af Bn xs _ (fun {i s} h0 h1 hs=>?_) (by show dH xs _=_;rw [dH,if_neg (by omega)];rfl)
  show dH xs i=_
  rw [dH,if_pos h1,hs]
  simp only [Option.bind_some]
  rw [Eh]
  unfold Bn
  simp only [Option.bind_some]
  by_cases hb:wU s=0
  ·simp only [hb,ne_eq,not_true_eq_false,if_false]
   unfold iS
   rw [aP (x:=i+1) (by omega) (by omega)]
   by_cases hi:0 < i
   ·obtain ⟨p,hp,_,_⟩:=gu xs (i:=i - 1) (by omega) (by omega)
    have HT:kc xs i=some p:=by unfold kc;rw [if_neg (by omega),hp]
    rw [HT,if_pos hi,aP (by omega) (by omega),hp]
    simp only [Option.bind_some,G3]
    by_cases hb:mO s p≤0
    ·simp [hb]
    ·simp [hb]
   ·have HT:kc xs i=none:=by unfold kc;rw [if_pos (by omega)]
    rw [HT,if_neg hi];simp
  ·rw [if_pos hb,if_pos hb,if_neg hb];rfl
theorem CJ (xs:List ao):mY xs=some (iE xs):=by
 unfold mY iE
 split
 ·rfl
 ·rename_i hl
  unfold uI
  refine Af Bn xs _ (fun {i s} h0 h1 hs=>?_) (by show fA xs _=_;rw [fA,if_neg (by omega)];rfl)
  show fA xs i=_
  rw [fA,if_pos h1,hs]
  simp only [Option.bind_some]
  rw [CI]
  unfold Bn
  simp only [Option.bind_some]
  by_cases hb:wU s=0
  ·simp only [hb,ne_eq,not_true_eq_false,if_false]
   unfold kD
   rw [aP (x:=i+1) (by omega) (by omega)]
   by_cases hi:0 < i
   ·obtain ⟨p,hp,_,_⟩:=gu xs (i:=i - 1) (by omega) (by omega)
    have HT:kc xs i=some p:=by unfold kc;rw [if_neg (by omega),hp]
    rw [HT,if_pos hi,aP (by omega) (by omega),hp]
    simp only [Option.bind_some,Eg]
    have hn:=Ua.neg p s
    by_cases hb:mO s p≤0
    ·have:0≤mO p s:=by omega
     simp [hb,this]
    ·have:¬ 0≤mO p s:=by omega
     simp [hb,this]
   ·have HT:kc xs i=none:=by unfold kc;rw [if_pos (by omega)]
    rw [HT,if_neg hi];simp
  ·rw [if_pos hb,if_pos hb,if_neg hb];rfl
structure AS (xs:List ao):Prop where
 len:(xs.length:Int)≤5000
 Ub:∀ x∈xs,0≤x.At∧x.At≤345686399999
 val:∀ x∈xs,-1000000000≤x.Value∧x.Value≤1000000000
 Cp:xs.Pairwise (fun a b=>mO a b < 0)
theorem Ei {xs:List ao} (h:iE xs=0):AS xs:=by
 unfold iE at h
 split at h
 ·cases h
 ·rename_i hl
  have hz:=zv xs none h
  have yX:∀ (i:Nat) x,xs[i]? =some x→wU x=0∧∀ p,0 < i→xs[i - 1]? =some p→mO p x < 0:=fun i x hx=>by
   have h1:=hz i x hx
   unfold Bn at h1
   by_cases hb:wU x=0
   ·rw [if_neg (by simpa using hb)] at h1
    refine ⟨hb,fun p hi hp=>?_⟩
    rw [if_neg (by omega),hp] at h1
    by_cases c:mO x p≤0
    ·simp [c] at h1
    ·have:=Ua.neg p x;omega
   ·rw [if_pos hb] at h1;exact (hb h1).elim
  have aa2:∀ x∈xs,wU x=0:=fun x hx=>by
   obtain ⟨i,hi,rfl⟩:=List.getElem_of_mem hx
   exact (yX i xs[i] (List.getElem?_eq_getElem hi)).1
  have L6:∀ x∈xs,(0≤x.At∧x.At≤345686399999)∧(-1000000000≤x.Value∧x.Value≤1000000000):=fun x hx=>by
   have:=aa2 x hx
   unfold wU Ki at this
   by_cases c1:0≤x.At∧x.At≤345686399999
   ·refine ⟨c1,?_⟩
    rw [if_neg (by rw [← Bool.decide_and,decide_eq_true c1];simp)] at this
    split at this
    ·cases this
    ·split at this
     ·cases this
     ·omega
   ·rw [if_pos (by rw [← Bool.decide_and,decide_eq_false c1])] at this;cases this
  refine ⟨by omega,fun x hx=>(L6 x hx).1,fun x hx=>(L6 x hx).2,?_⟩
  have key:∀ (ys:List ao),(∀ (i:Nat) x,ys[i]? =some x→∀ p,0 < i→ys[i - 1]? =some p→mO p x < 0)→ys.Pairwise (fun a b=>mO a b < 0):=by
   intro ys
   induction ys with
   | nil=>intro _;exact List.Pairwise.nil
   | cons y r ih=>
     intro h
     have hr:=ih (fun i x hx p hi hp=>h (i+1) x (by simpa using hx) p (by omega) (by
      cases i with
      | zero=>omega
      | succ j=>simpa using hp))
     refine List.pairwise_cons.2 ⟨fun z hz=>?_,hr⟩
     cases r with
     | nil=>simp at hz
     | cons w r'=>
       have h1:mO y w < 0:=h 1 w rfl y (by omega) rfl
       rcases List.mem_cons.1 hz with rfl | hz
       ·exact h1
       ·have h2:=(List.pairwise_cons.1 hr).1 z hz
        exact Ua.tr h1 h2
  exact key xs (fun i x hx=>(yX i x hx).2)
def sL (m d:aO) (x:ao):Bool:=decide (x.ax=m)&&decide (x.Device=d)
def O4 (x:ao):ae:=⟨x.At,x.Value⟩
def fl (l:List ao) (m d:aO):List ae:=(l.filter (sL m d)).map O4
theorem Ej {α β:Type} (p:α→Bool) (g:α→β):∀ (xs:List α) (acc:List β),xs.foldl (fun acc x=>if p x=true then acc++[g x] else acc) acc=acc++(xs.filter p).map g
 | [],acc=>by simp
 | x :: r,acc=>by
   rw [List.foldl_cons,Ej p g r,List.filter_cons]
   cases p x<;>simp
theorem Rm (l:List ao) (hl:(l.length:Int)≤5000) (m d:aO):vA l m d=some (fl l m d):=by
 unfold vA zY
 have main:=lS (A:=List ae) l (fun (s:List ae) (i:Int)=>(s,i)) (fun x:(List ae)×Int=>ju l m d x.1 x.2) (fun acc x=>if sL m d x=true then acc++[O4 x] else acc) (fun i s=>(s.length:Int)≤i) (fun s=>some s)
  (fun s i x h0 h1 hx hv=>by
   refine ⟨?_,by split<;>(try simp)<;>omega⟩
   show ju l m d s i=_
   rw [ju,if_pos h1,hx]
   simp only [Option.bind_some]
   unfold td qa
   rw [aP (x:=i+1) (by omega) (by omega)]
   rw [show (decide (x.ax=m)&&decide (x.Device=d))=sL m d x from rfl]
   by_cases h4:sL m d x=true
   ·rw [if_pos h4,if_pos h4,fR (by simp;omega)];rfl
   ·rw [if_neg h4,if_neg h4])
  (fun s hv=>by
   show ju l m d s l.length=_
   rw [ju,if_neg (by omega)]) [] (by simp)
 refine main.trans ?_
 rw [Ej];rfl
theorem vI {l:List ao} (h:AS l) (m d:aO):yz (fl l m d):=by
 refine ⟨?_,fun x hx=>?_,?_⟩
 ·unfold fl xS
  rw [List.pairwise_map]
  refine (List.Pairwise.sublist List.filter_sublist h.Cp).imp_of_mem (fun {a b} ha hb uz=>?_)
  have ka:=(List.mem_filter.1 ha).2
  have kb:=(List.mem_filter.1 hb).2
  unfold sL at ka kb
  simp only [Bool.and_eq_true,decide_eq_true_eq] at ka kb
  unfold mO at uz
  rw [O3] at uz
  show a.At < b.At
  have e1:Lib.compareBytes a.Device b.Device=0:=by rw [ka.2,kb.2];exact wj.zero _
  have e2:Lib.compareBytes a.ax b.ax=0:=by rw [ka.1,kb.1];exact wj.zero _
  rw [e1,e2] at uz
  unfold oc at uz
  by_cases c:a.At < b.At
  ·exact c
  ·exfalso
   rw [if_neg c] at uz
   by_cases c2:b.At < a.At
   ·rw [if_pos c2] at uz;simp at uz
   ·rw [if_neg c2] at uz;simp [mA] at uz
 ·obtain ⟨y,hy,rfl⟩:=List.mem_map.1 hx
  have W2:=(List.mem_filter.1 hy).1
  exact ⟨(h.Ub y W2).1,(h.Ub y W2).2,h.val y W2⟩
 ·have:=h.len
  unfold fl
  rw [List.length_map]
  have:=List.length_filter_le (sL m d) l
  omega
theorem FP {a b:Int} (hb:b≠0):Nat.gcd b.natAbs (a.tmod b).natAbs=Nat.gcd a.natAbs b.natAbs:=by
 rw [Int.natAbs_tmod,Nat.gcd_comm a.natAbs,Nat.gcd_rec b.natAbs a.natAbs,Nat.gcd_comm]
theorem O5 {n d:Int} (hn:-9000000000000000000≤n∧n≤9000000000000000000) (hd:0 < d∧d≤9000000000000000000):pR n d=rW n d ((Nat.gcd n.natAbs d.natAbs:Nat):Int):=by
 unfold pR BX
 have e1:max n (aU (-n))=(n.natAbs:Int):=by rw [aP (by omega) (by omega)];omega
 rw [e1]
 refine Lj _ (fun s:Int×Int=>s.2.natAbs) (fun s:Int×Int=>0≤s.1∧0≤s.2∧Nat.gcd s.1.natAbs s.2.natAbs=Nat.gcd n.natAbs d.natAbs) _ ?_ _ ⟨by omega,by omega,by simp⟩
 rintro ⟨x,y⟩ ⟨h0,h1,h2⟩
 simp only at h0 h1 h2 ⊢
 unfold rZ
 by_cases hy:y=0
 ·rw [if_neg (by omega)]
  right
  rw [hy] at h2
  simp only [Int.natAbs_zero,Nat.gcd_zero_right] at h2
  rw [← h2,show ((x.natAbs:Nat):Int)=x by omega]
 ·rw [if_pos (by omega),Kb hy]
  left
  have lh:=Int.tmod_lt_of_pos x (show 0 < y by omega)
  have UH:=Int.tmod_nonneg y h0
  exact ⟨_,rfl,⟨h1,UH,by simp only;rw [FP hy];exact h2⟩,by simp only;omega⟩
theorem O6 {n d:Int} (hn:-9000000000000000000≤n∧n≤9000000000000000000) (hd:0 < d∧d≤9000000000000000000):∃ f g,pR n d=some f∧0 < g∧n=f.Mi * g∧d=f.Den * g:=by
 rw [O5 hn hd]
 have hg:0 < Nat.gcd n.natAbs d.natAbs:=Nat.gcd_pos_of_pos_right _ (by omega)
 have d1:((Nat.gcd n.natAbs d.natAbs:Nat):Int) ∣ n:=Int.ofNat_dvd_left.2 (Nat.gcd_dvd_left _ _)
 have d2:((Nat.gcd n.natAbs d.natAbs:Nat):Int) ∣ d:=Int.ofNat_dvd_left.2 (Nat.gcd_dvd_right _ _)
 generalize Nat.gcd n.natAbs d.natAbs=g at *
 obtain ⟨a,ha⟩:=d1
 obtain ⟨b,hb⟩:=d2
 unfold rW
 have Y1:(0:Int) < g:=by omega
 have q1:n.tdiv g=a:=by rw [ha];exact Int.mul_tdiv_cancel_left a (by omega)
 have q2:d.tdiv g=b:=by rw [hb];exact Int.mul_tdiv_cancel_left b (by omega)
 have Xw:b≤d:=by
  have h0:0 < b:=by
   by_cases h:0 < b
   ·exact h
   ·have:=Int.mul_nonpos_of_nonneg_of_nonpos (show (0:Int)≤g by omega) (show b≤0 by omega);omega
  have:=Int.mul_le_mul_of_nonneg_right (show (1:Int)≤g by omega) (Int.le_of_lt h0)
  omega
 have De:0 < b:=by
  by_cases h:0 < b
  ·exact h
  ·have:=Int.mul_nonpos_of_nonneg_of_nonpos (show (0:Int)≤g by omega) (show b≤0 by omega);omega
 have han:-9000000000000000000≤a∧a≤9000000000000000000:=by
  rcases Int.le_total 0 a with h | h
  ·have:=Int.mul_le_mul_of_nonneg_right (show (1:Int)≤g by omega) h;omega
  ·have:=Int.mul_le_mul_of_nonpos_right (show (1:Int)≤g by omega) h;omega
 rw [Kc (by omega),Kc (by omega),q1,q2,aP (by omega) (by omega),aP (by omega) (by omega)]
 exact ⟨_,(g:Int),rfl,Y1,by simp only;rw [ha,Int.mul_comm],by simp only;rw [hb,Int.mul_comm]⟩
theorem Kj (r:aG) (l:List ao) (d:aO) (t:Int):(ur aS r.bh t (fl l r.ax d)).map vS=(l.filter (fun x=>sL r.ax d x&&decide (t - r.bh < x.At∧x.At≤t))).map ao.Value:=by
 unfold ur fl
 rw [List.filter_map,List.map_map,List.filter_filter]
 have e:(fun a=>((fun x=>decide (t - r.bh < aS x∧aS x≤t))∘O4) a&&sL r.ax d a)=(fun x=>sL r.ax d x&&decide (t - r.bh < x.At∧x.At≤t)):=by
  funext x
  rw [Bool.and_comm];rfl
 rw [e];rfl
theorem I5 {r:aG} (hr:vH r) (l:List ao) (hl:(l.length:Int)≤5000) (d:aO) {t:Int} (ht:0≤t∧t≤345686400000):tU r l d t=some ((ur aS r.bh t (fl l r.ax d)).map vS):=by
 have hlo:=hr.long
 unfold tU yH
 have main:=lS (A:=List Int) l (fun (s:List Int) (i:Int)=>(s,i)) (fun x:(List Int)×Int=>iJ r l d t x.1 x.2) (fun acc x=>if (sL r.ax d x&&decide (t - r.bh < x.At∧x.At≤t))=true then acc++[x.Value] else acc) (fun i s=>(s.length:Int)≤i) (fun s=>some s)
  (fun s i x h0 h1 hx hv=>by
   refine ⟨?_,by split<;>(try simp)<;>omega⟩
   show iJ r l d t s i=_
   rw [iJ,if_pos h1,hx]
   simp only [Option.bind_some]
   unfold rf ow
   rw [aP (x:=i+1) (by omega) (by omega),aP (x:=t - r.bh) (by omega) (by omega)]
   have e:(decide (x.Device=d)&&(decide (x.ax=r.ax)&&(decide (t - r.bh < x.At)&&decide (x.At≤t))))=(sL r.ax d x&&decide (t - r.bh < x.At∧x.At≤t)):=by
    unfold sL
    rw [Bool.decide_and]
    cases decide (x.Device=d)<;>cases decide (x.ax=r.ax)<;>rfl
   rw [e]
   by_cases h4:(sL r.ax d x&&decide (t - r.bh < x.At∧x.At≤t))=true
   ·rw [if_pos h4,if_pos h4,fR (by simp;omega)];rfl
   ·rw [if_neg h4,if_neg h4])
  (fun s hv=>by
   show iJ r l d t s l.length=_
   rw [iJ,if_neg (by omega)]) [] (by simp)
 refine main.trans ?_
 rw [Ej,Kj];rfl
theorem xU:∀ (l:List Int) (m:Int),(l.foldl min m=m∨l.foldl min m∈l)∧l.foldl min m≤m∧∀ x∈l,l.foldl min m≤x
 | [],m=>⟨.inl rfl,Int.le_refl _,by simp⟩
 | y :: l,m=>by
   obtain ⟨h1,h2,h3⟩:=xU l (min m y)
   rw [List.foldl_cons]
   refine ⟨?_,by omega,fun x hx=>?_⟩
   ·rcases h1 with h1 | h1
    ·by_cases c:m≤y
     ·left;rw [h1];omega
     ·right;rw [h1,show min m y=y by omega];simp
    ·exact .inr (List.mem_cons_of_mem _ h1)
   ·rcases List.mem_cons.1 hx with rfl | hx
    ·omega
    ·exact h3 x hx
theorem xV:∀ (l:List Int) (m:Int),(l.foldl max m=m∨l.foldl max m∈l)∧m≤l.foldl max m∧∀ x∈l,x≤l.foldl max m
 | [],m=>⟨.inl rfl,Int.le_refl _,by simp⟩
 | y :: l,m=>by
   obtain ⟨h1,h2,h3⟩:=xV l (max m y)
   rw [List.foldl_cons]
   refine ⟨?_,by omega,fun x hx=>?_⟩
   ·rcases h1 with h1 | h1
    ·by_cases c:y≤m
     ·left;rw [h1];omega
     ·right;rw [h1,show max m y=y by omega];simp
    ·exact .inr (List.mem_cons_of_mem _ h1)
   ·rcases List.mem_cons.1 hx with rfl | hx
    ·omega
    ·exact h3 x hx
theorem MF (l:List Int) (hl:l.length≤100000):∀ (n:Nat) (m i:Int),0≤i→i+n=l.length→ke l m i=some ((l.drop i.toNat).foldl min m):=by
 intro n
 induction n with
 | zero=>
   intro m i h0 hi
   unfold ke
   rw [iter_eq,fM,if_neg (by simp only;omega),bL,List.drop_of_length_le (by omega)]
   rfl
 | succ n ih=>
   intro m i h0 hi
   obtain ⟨v,hv,_,hd⟩:=gu l (i:=i) h0 (by omega)
   have MG:=ih (min m v) (i+1) (by omega) (by omega)
   unfold ke at MG ⊢
   rw [iter_eq,fM,if_pos (by simp only;omega)]
   simp only [hv,Option.bind_some,cS]
   rw [aP (by omega) (by omega),MG,hd]
   rfl
theorem MH (l:List Int) (hl:l.length≤100000):∀ (n:Nat) (m i:Int),0≤i→i+n=l.length→kf l m i=some ((l.drop i.toNat).foldl max m):=by
 intro n
 induction n with
 | zero=>
   intro m i h0 hi
   unfold kf
   rw [iter_eq,fN,if_neg (by simp only;omega),bL,List.drop_of_length_le (by omega)]
   rfl
 | succ n ih=>
   intro m i h0 hi
   obtain ⟨v,hv,_,hd⟩:=gu l (i:=i) h0 (by omega)
   have MG:=ih (max m v) (i+1) (by omega) (by omega)
   unfold kf at MG ⊢
   rw [iter_eq,fN,if_pos (by simp only;omega)]
   simp only [hv,Option.bind_some,cS]
   rw [aP (by omega) (by omega),MG,hd]
   rfl
theorem Rn {W:List ae} (hw:W.length≤5000) (h:W≠[]):jV (W.map vS)=some (Vm W):=by
 obtain ⟨q,L,hq,hm⟩:=FL (f:=vS) h
 have hh:=(vG vS (l:=W) (x:=q) (by rw [hq];rfl)).2
 have hmn:Vm W=vS q:=by unfold Vm;rw [hq];rfl
 cases W with
 | nil=>exact (h rfl).elim
 | cons y W=>
   unfold jV
   rw [if_neg (by simp;omega),List.map_cons,vh]
   simp only [Option.bind_some]
   have e:=MF (vS y :: W.map vS) (by simp at hw ⊢;omega) W.length (vS y) 1 (by omega) (by simp;omega)
   rw [e,hmn]
   simp only [Option.some.injEq,Int.toNat_one,List.drop_succ_cons,List.drop_zero]
   obtain ⟨k1,k2,k3⟩:=xU (W.map vS) (vS y)
   apply Int.le_antisymm
   ·rcases List.mem_cons.1 hm with rfl | hm
    ·exact k2
    ·exact k3 _ (List.mem_map_of_mem hm)
   ·rcases k1 with k1 | k1
    ·rw [k1];exact hh y (by simp)
    ·obtain ⟨z,hz,Og⟩:=List.mem_map.1 k1
     rw [← Og];exact hh z (List.mem_cons_of_mem _ hz)
theorem Ro {W:List ae} (hw:W.length≤5000) (h:W≠[]):jW (W.map vS)=some (Vn W):=by
 obtain ⟨q,L,hq,hm⟩:=FL (f:=vN) h
 have hh:=(vG vN (l:=W) (x:=q) (by rw [hq];rfl)).2
 have hmn:Vn W=vS q:=by unfold Vn;rw [hq];rfl
 cases W with
 | nil=>exact (h rfl).elim
 | cons y W=>
   unfold jW
   rw [if_neg (by simp;omega),List.map_cons,vh]
   simp only [Option.bind_some]
   have e:=MH (vS y :: W.map vS) (by simp at hw ⊢;omega) W.length (vS y) 1 (by omega) (by simp;omega)
   rw [e,hmn]
   simp only [Option.some.injEq,Int.toNat_one,List.drop_succ_cons,List.drop_zero]
   obtain ⟨k1,k2,k3⟩:=xV (W.map vS) (vS y)
   apply Int.le_antisymm
   ·rcases k1 with k1 | k1
    ·rw [k1];have:=hh y (by simp);simp only [vN,vS] at this ⊢;omega
    ·obtain ⟨z,hz,Og⟩:=List.mem_map.1 k1
     rw [← Og];have:=hh z (List.mem_cons_of_mem _ hz);simp only [vN,vS] at this ⊢;omega
   ·rcases List.mem_cons.1 hm with rfl | hm
    ·exact k2
    ·exact k3 _ (List.mem_map_of_mem hm)
theorem MI (l:List Int) (hl:l.length≤5000) (hB:∀ x∈l,-1000000000≤x∧x≤1000000000):∀ (n:Nat) (m i:Int),0≤i→i+n=l.length→-1000000000 * i≤m∧m≤1000000000 * i→ta l m i=sZ l (m+(l.drop i.toNat).sum):=by
 intro n
 induction n with
 | zero=>
   intro m i h0 hi hm
   unfold ta
   rw [iter_eq,nG,if_neg (by simp only;omega),bL,List.drop_of_length_le (by omega)]
   simp
 | succ n ih=>
   intro m i h0 hi hm
   obtain ⟨v,hv,hvm,hd⟩:=gu l (i:=i) h0 (by omega)
   have hvB:=hB v hvm
   have MG:=ih (m+v) (i+1) (by omega) (by omega) (by omega)
   unfold ta at MG ⊢
   rw [iter_eq,nG,if_pos (by simp only;omega)]
   simp only [hv,Option.bind_some,cS]
   rw [aP (x:=i+1) (by omega) (by omega),aP (by omega) (by omega),MG,hd,List.sum_cons,Int.add_assoc]
theorem O7 {r:aG} (hr:vH r) {l:List ao} (hs:AS l) (d:aO) {t:Int} (ht:0≤t∧t≤345686400000) (W:List ae) (hW:W=ur aS r.bh t (fl l r.ax d)):
 ∃ f b,vy r l d t=some (f,b)∧(if W=[]∧r.eI≠5 then b=false∧f=⟨0,0⟩ else b=true∧(if r.eI=4 then pR (kR vS W) W.length=some f else f=⟨sw r W,1⟩)∧∃ g,0 < g∧sw r W=f.Mi * g∧FK r W=f.Den * g):=by
 have Sw:yz W:=by
  have h:=vI hs r.ax d
  rw [hW]
  exact ⟨h.1.filter _,fun x hx=>h.2.1 x (List.mem_filter.1 hx).1,Nat.le_trans (List.length_filter_le _ _) h.2.2⟩
 have hl:=Sw.2.2
 unfold vy
 rw [I5 hr l hs.len d ht,← hW]
 simp only [Option.bind_some,List.length_map]
 have ha:=hr.agg
 by_cases h5:r.eI=5
 ·rw [if_pos h5]
  refine ⟨_,_,rfl,?_⟩
  rw [if_neg (fun h=>h.2 h5)]
  refine ⟨rfl,by rw [if_neg (by omega)];simp [sw,h5],1,by omega,?_,?_⟩
  ·simp [sw,h5]
  ·simp [FK,h5]
 ·rw [if_neg h5]
  by_cases he:W=[]
  ·subst he
   refine ⟨_,_,by rw [if_pos (by simp)],?_⟩
   rw [if_pos ⟨rfl,h5⟩]
   exact ⟨rfl,rfl⟩
  ·have yY:0 < W.length:=List.length_pos_iff.2 he
   rw [if_neg (by omega)]
   simp only [he,false_and,if_false]
   have hwe:W=W.dropLast++[W.getLast he]:=(List.dropLast_concat_getLast he).symm
   have WU:CH W=vS (W.getLast he):=by unfold CH;rw [List.getLast?_eq_some_getLast he];rfl
   have S8:idx (W.map vS) (aU ((W.length:Int) - 1))=some (CH W):=by
    rw [aP (by omega) (by omega),Ri,WU]
    conv=>lhs;rw [hwe]
    have:=wm W.dropLast (W.getLast he)
    rw [this];rfl
   have Z5:idx (W.map vS) (0:Int)=some (I1 W):=by
    cases W with
    | nil=>exact (he rfl).elim
    | cons y W=>rw [List.map_cons,vh];rfl
   have hlB:-1000000000≤CH W∧CH W≤1000000000:=by rw [WU];exact (Sw.2.1 _ (List.getLast_mem he)).2.2
   have hfB:-1000000000≤I1 W∧I1 W≤1000000000:=by
    cases W with
    | nil=>exact (he rfl).elim
    | cons y W=>exact (Sw.2.1 y (by simp)).2.2
   rcases (show r.eI=1∨r.eI=2∨r.eI=3∨r.eI=4∨r.eI=6 by omega) with e | e | e | e | e
   ·simp only [e,show ¬ ((1:Int)=2) by decide,show ¬ ((1:Int)=3) by decide,show ¬ ((1:Int)=4) by decide,show ¬ ((1:Int)=6) by decide,if_false,S8,Option.bind_some]
    exact ⟨_,_,rfl,rfl,by simp [sw,e],1,by omega,by simp [sw,e],by simp [FK,e]⟩
   ·simp only [e,if_true,Rn hl he,Option.bind_some,show ¬ ((2:Int)=4) by decide,if_false]
    exact ⟨_,_,rfl,rfl,by simp [sw,e],1,by omega,by simp [sw,e],by simp [FK,e]⟩
   ·simp only [e,if_true,Ro hl he,Option.bind_some,show ¬ ((3:Int)=2) by decide,show ¬ ((3:Int)=4) by decide,if_false]
    exact ⟨_,_,rfl,rfl,by simp [sw,e],1,by omega,by simp [sw,e],by simp [FK,e]⟩
   ·simp only [e,if_true,show ¬ ((4:Int)=2) by decide,show ¬ ((4:Int)=3) by decide,if_false]
    have OU:=FJ Sw
    rw [MI (W.map vS) (by simpa using hl) (fun x hx=>by
     obtain ⟨y,hy,rfl⟩:=List.mem_map.1 hx
     exact (Sw.2.1 y hy).2.2) W.length 0 0 (by omega) (by simp) (by omega)]
    have hse:(0:Int)+(List.drop (0:Int).toNat (W.map vS)).sum=kR vS W:=by simp [kR]
    rw [hse]
    unfold sZ
    rw [List.length_map]
    obtain ⟨f,g,k1,k2,k3,k4⟩:=O6 (n:=kR vS W) (d:=W.length) (by omega) (by omega)
    rw [k1]
    exact ⟨_,_,rfl,rfl,rfl,g,k2,by simp [sw,e];exact k3,by simp [FK,e];exact k4⟩
   ·simp only [e,if_true,show ¬ ((6:Int)=2) by decide,show ¬ ((6:Int)=3) by decide,show ¬ ((6:Int)=4) by decide,if_false,S8,Z5,Option.bind_some]
    rw [aP (by omega) (by omega)]
    exact ⟨_,_,rfl,rfl,by simp [sw,e],1,by omega,by simp [sw,e],by simp [FK,e]⟩
theorem C5 {a b g:Int} (hg:0 < g):(a * g≤b * g↔a≤b)∧(a * g < b * g↔a < b):=
 ⟨⟨fun h=>Int.le_of_mul_le_mul_right h hg,fun h=>Int.mul_le_mul_of_nonneg_right h (Int.le_of_lt hg)⟩,⟨fun h=>Int.lt_of_mul_lt_mul_right h (Int.le_of_lt hg),fun h=>Int.mul_lt_mul_of_pos_right h hg⟩⟩
theorem Kk {r:aG} (hr:vH r) {l:List ao} (hs:AS l) (d:aO) {t:Int} (ht:0≤t∧t≤345686400000):vz r l d t=some (qo r (fl l r.ax d) t):=by
 have Sw:yz (ur aS r.bh t (fl l r.ax d)):=by
  have h:=vI hs r.ax d
  exact ⟨h.1.filter _,fun x hx=>h.2.1 x (List.mem_filter.1 hx).1,Nat.le_trans (List.length_filter_le _ _) h.2.2⟩
 obtain ⟨f,b,h1,h2⟩:=O7 hr hs d ht _ rfl
 have hvB:=Sv (r:=r) Sw
 have hbB:0≤FK r (ur aS r.bh t (fl l r.ax d))∧FK r (ur aS r.bh t (fl l r.ax d))≤5000:=by
  have:=Sw.2.2
  unfold FK;split<;>omega
 unfold vz qo AR
 rw [h1]
 simp only [Option.bind_some]
 generalize ur aS r.bh t (fl l r.ax d)=W at *
 by_cases he:W=[]∧r.eI≠5
 ·rw [if_pos he] at h2 ⊢
  rw [h2.1,if_pos (show (!false)=true from rfl),Lk hr];rfl
 ·rw [if_neg he] at h2 ⊢
  obtain ⟨rfl,_,g,hg,k1,k2⟩:=h2
  rw [if_neg (by simp)]
  obtain ⟨n,de⟩:=f
  simp only at k1 k2 ⊢
  have Yj:0≤de∧de≤5000:=by
   constructor
   ·by_cases c:0≤de
    ·exact c
    ·have:=Int.mul_neg_of_neg_of_pos (show de < 0 by omega) hg;omega
   ·by_cases c:de≤5000
    ·exact c
    ·have:=Int.mul_le_mul_of_nonneg_left (show (1:Int)≤g by omega) (show 0≤de by omega);omega
  have hn:-100000000000000≤n∧n≤100000000000000:=by
   rcases Int.le_total 0 n with c | c
   ·have:=Int.mul_le_mul_of_nonneg_left (show (1:Int)≤g by omega) c;omega
   ·have:=Int.mul_le_mul_of_nonpos_left c (show (1:Int)≤g by omega);omega
  have Sa:=hr.on
  have W3:=hr.off
  have e1:-5000000000000≤r.On * de∧r.On * de≤5000000000000:=by
   constructor
   ·have:=Int.mul_le_mul_of_nonneg_right Sa.1 Yj.1;omega
   ·have:=Int.mul_le_mul_of_nonneg_right Sa.2 Yj.1;omega
  have e2:-5000000000000≤r.eJ * de∧r.eJ * de≤5000000000000:=by
   constructor
   ·have:=Int.mul_le_mul_of_nonneg_right W3.1 Yj.1;omega
   ·have:=Int.mul_le_mul_of_nonneg_right W3.2 Yj.1;omega
  rw [aP (x:=r.On * de) (by omega) (by omega),aP (x:=r.eJ * de) (by omega) (by omega),lG,lG]
  unfold MB pS
  rw [k1,k2,← Int.mul_assoc,← Int.mul_assoc]
  have c1:=(C5 (a:=r.On * de) (b:=n) hg).1
  have c2:=(C5 (a:=n) (b:=r.eJ * de) hg).2
  have c3:=(C5 (a:=n) (b:=r.On * de) hg).1
  have c4:=(C5 (a:=r.eJ * de) (b:=n) hg).2
  have w1:∀ x y:Int,aU (-(oc x y))=-(oc x y):=fun x y=>by unfold oc;split<;>(try split)<;>rfl
  rw [w1,w1]
  by_cases ha:r.bj=true
  ·simp only [ha,Bool.not_true,Bool.false_eq_true,if_false,if_true,c1,c2]
   unfold oc
   by_cases a1:r.On * de≤n
   ·rw [if_pos a1,if_pos (by rw [if_neg (by omega)];split<;>omega)]
   ·rw [if_neg a1,if_neg (by rw [if_pos (by omega)];omega)]
    by_cases a2:n < r.eJ * de
    ·rw [if_pos a2,if_pos (by omega),if_pos a2]
    ·rw [if_neg a2,if_neg (by split<;>omega),if_neg a2]
  ·simp only [Bool.not_eq_true] at ha
   simp only [ha,Bool.not_false,Bool.false_eq_true,if_false,if_true,c3,c4]
   unfold oc
   by_cases a1:n≤r.On * de
   ·rw [if_pos a1,if_pos (by split<;>(try split)<;>omega)]
   ·rw [if_neg a1,if_neg (by rw [if_neg (by omega),if_pos (by omega)];omega)]
    by_cases a2:r.eJ * de < n
    ·rw [if_pos a2,if_pos (by rw [if_neg (by omega)];omega),if_pos a2]
    ·rw [if_neg a2,if_neg (by split<;>(try split)<;>omega),if_neg a2]
theorem uv (l:List Int):(zd l).Perm l:=List.mergeSort_perm l _
theorem MJ (l:List Int):qV oc (zd l):=by
 have h:=List.pairwise_mergeSort (le:=fun x y:Int=>decide (x≤y)) (fun a b c h1 h2=>by
  rw [decide_eq_true_eq] at *;omega) (fun a b=>by
  rw [Bool.or_eq_true,decide_eq_true_eq,decide_eq_true_eq];omega) l
 exact h.imp (fun {a b} uz hba=>by
  rw [decide_eq_true_eq] at uz
  unfold oc at hba
  split at hba
  ·omega
  ·split at hba<;>omega)
def RI (l:List Int):Prop:=l.Pairwise (fun a b=>a < b)
theorem Lr (l:List Int):RI (dd vg (zd l))∧∀ t,t∈dd vg (zd l)↔t∈l:=by
 have hs:=MJ l
 have hn:=T9 D8 hs (fun a _ b _ h=>Mx h)
 refine ⟨?_,fun t=>(Kh _ t).trans (uv l).mem_iff⟩
 have h2:qV oc (dd vg (zd l)):=List.Pairwise.sublist (Ke vg _) hs
 exact List.Pairwise.imp₂ (fun a b h1 h2=>by
  have:¬ b < a:=fun h=>h1 (by unfold oc;rw [if_pos h];omega)
  omega) h2 hn
theorem An (xs:List Int) (hl:(xs.length:Int)≤100000):gD xs=some (dd vg xs):=Ld 0 xs hl
theorem RI.gu {M:List Int} (h:RI M) {i j a b:Int} (ha:idx M i=some a) (hb:idx M j=some b) (BI:i < j):a < b:=by
 obtain ⟨i0,i1,i2⟩:=lZ ha
 obtain ⟨j0,j1,j2⟩:=lZ hb
 have:=List.pairwise_iff_getElem.1 h i.toNat j.toNat (by omega) (by omega) (by omega)
 rw [List.getElem?_eq_getElem (by omega)] at i2 j2
 rw [← Option.some.inj i2,← Option.some.inj j2];exact this
theorem RI.G4 {M:List Int} {t:Int} (ht:t∈M):∃ k:Nat,k < M.length∧idx M (k:Int)=some t:=by
 obtain ⟨k,hk,rfl⟩:=List.getElem_of_mem ht
 refine ⟨k,hk,?_⟩
 unfold idx
 rw [if_pos (by omega),show ((k:Int)).toNat=k by omega,List.getElem?_eq_getElem hk]
theorem RI.gap {M:List Int} (h:RI M) {i a b:Int} (ha:idx M i=some a) (hb:idx M (i+1)=some b) {t:Int} (ht:t∈M):t≤a∨b≤t:=by
 obtain ⟨k,hk,KL⟩:=RI.G4 ht
 by_cases h1:(k:Int)≤i
 ·left
  by_cases e:(k:Int)=i
  ·rw [e] at KL;rw [KL] at ha;rw [Option.some.inj ha];exact Int.le_refl _
  ·have:=h.gu KL ha (by omega);omega
 ·right
  by_cases e:(k:Int)=i+1
  ·rw [e] at KL;rw [KL] at hb;rw [Option.some.inj hb];exact Int.le_refl _
  ·have:=h.gu hb KL (by omega);omega
def Ca (r:aG) (l:List ao) (d:aO):List Int:=l.foldl (fun acc x=>if sL r.ax d x=true then acc++[x.At,min (x.At+r.bh) eG] else acc) [0,eG]
theorem Ek (r:aG) (d:aO):∀ (l:List ao) (acc:List Int),(l.foldl (fun acc x=>if sL r.ax d x=true then acc++[x.At,min (x.At+r.bh) eG] else acc) acc).length≤acc.length+2 * l.length∧∀ t,t∈l.foldl (fun acc x=>if sL r.ax d x=true then acc++[x.At,min (x.At+r.bh) eG] else acc) acc↔t∈acc∨∃ x∈fl l r.ax d,t=x.at_∨t=min (x.at_+r.bh) eG
 | [],acc=>by simp [fl]
 | x :: l,acc=>by
   rw [List.foldl_cons]
   have ih:=Ek r d l (if sL r.ax d x=true then acc++[x.At,min (x.At+r.bh) eG] else acc)
   refine ⟨?_,fun t=>?_⟩
   ·have:=ih.1
    have h2:(if sL r.ax d x=true then acc++[x.At,min (x.At+r.bh) eG] else acc).length≤acc.length+2:=by split<;>simp
    simp only [List.length_cons];omega
   ·rw [ih.2 t]
    unfold fl
    rw [List.filter_cons]
    by_cases h:sL r.ax d x=true
    ·rw [if_pos h,if_pos h]
     simp only [List.mem_append,List.mem_cons,List.not_mem_nil,or_false,List.map_cons,or_assoc,O4]
     constructor
     ·rintro (h1 | h1 | h1 | ⟨y,h1,h2⟩)
      ·exact .inl h1
      ·exact .inr ⟨_,.inl rfl,.inl h1⟩
      ·exact .inr ⟨_,.inl rfl,.inr h1⟩
      ·exact .inr ⟨y,.inr h1,h2⟩
     ·rintro (h1 | ⟨y,rfl | h1,h2⟩)
      ·exact .inl h1
      ·rcases h2 with h2 | h2
       ·exact .inr (.inl h2)
       ·exact .inr (.inr (.inl h2))
      ·exact .inr (.inr (.inr ⟨y,h1,h2⟩))
    ·rw [if_neg h,if_neg h]
structure I6 (r:aG) (L:List ae) (M:List Int):Prop where
 Cp:RI M
 mem:∀ t,t∈M↔t=0∨t=eG∨∃ x∈L,t=x.at_∨t=min (x.at_+r.bh) eG
 len:(M.length:Int)≤10002
theorem I6.NA {r:aG} (hr:vH r) {L:List ae} (hw:yz L) {M:List Int} (h:I6 r L M) {t:Int} (ht:t∈M):0≤t∧t≤eG:=by
 have hl:=hr.long
 rcases (h.mem t).1 ht with rfl | rfl | ⟨x,hx,rfl | rfl⟩
 ·simp [eG]
 ·simp [eG]
 ·have:=hw.2.1 x hx;unfold WT at this;simp only [eG];omega
 ·have:=hw.2.1 x hx;unfold WT at this;simp only [eG];omega
theorem I6.same {r:aG} (hr:vH r) {L:List ae} (hw:yz L) {M:List Int} (h:I6 r L M) {i a b:Int} (ha:idx M i=some a) (hb:idx M (i+1)=some b) {u:Int} (h1:a≤u) (h2:u < b):qo r L u=qo r L a:=by
 unfold qo ur
 congr 1
 refine List.filter_congr fun x hx=>?_
 have hbE:=(h.NA hr hw (ry hb)).2
 have k1:=h.Cp.gap ha hb ((h.mem x.at_).2 (.inr (.inr ⟨x,hx,.inl rfl⟩)))
 have k2:=h.Cp.gap ha hb ((h.mem (min (x.at_+r.bh) eG)).2 (.inr (.inr ⟨x,hx,.inr rfl⟩)))
 rw [decide_eq_decide]
 simp only [aS]
 omega
theorem I6.first {r:aG} (hr:vH r) {L:List ae} (hw:yz L) {M:List Int} (h:I6 r L M):idx M 0=some 0∧idx M ((M.length:Int) - 1)=some eG∧2≤(M.length:Int):=by
 obtain ⟨k,hk,KL⟩:=RI.G4 ((h.mem 0).2 (.inl rfl))
 obtain ⟨j,hj,M3⟩:=RI.G4 ((h.mem eG).2 (.inr (.inl rfl)))
 have hkj:k < j:=by
  rcases Nat.lt_trichotomy k j with c | c | c
  ·exact c
  ·subst c;rw [KL] at M3;simp [eG] at M3
  ·have:=h.Cp.gu M3 KL (by omega);simp only [eG] at this;omega
 refine ⟨?_,?_,by omega⟩
 ·by_cases e:k=0
  ·subst e;exact KL
  ·exfalso
   obtain ⟨x,hx,QM,_⟩:=gu M (i:=0) (by omega) (by omega)
   have:=h.Cp.gu hx KL (by omega)
   have:=(h.NA hr hw QM).1
   omega
 ·by_cases e:j=M.length - 1
  ·rw [show ((M.length:Int) - 1)=(j:Int) by omega];exact M3
  ·exfalso
   obtain ⟨x,hx,QM,_⟩:=gu M (i:=(M.length:Int) - 1) (by omega) (by omega)
   have:=h.Cp.gu M3 hx (by omega)
   have:=(h.NA hr hw QM).2
   omega
def HD (x:aX):Int×Int×Int:=(x.from_,x.EO,x.bF)
theorem MK {r:aG} (hr:vH r) {l:List ao} (hs:AS l) (d:aO) {M:List Int} (hM:I6 r (fl l r.ax d) M):∀ (n:Nat) (out:List aX) (i a:Int),0≤i→i+n=M.length - 1→idx M i=some a→(out.length:Int)≤i→o7 (qo r (fl l r.ax d)) a 0 (out.map HD)→
 ∃ R,uL r l d M out i=some R∧(R.length:Int)≤10002∧o7 (qo r (fl l r.ax d)) eG 0 (R.map HD):=by
 have hw:=vI hs r.ax d
 have hlen:=hM.len
 obtain ⟨_,Aj,h2l⟩:=hM.first hr hw
 intro n
 induction n with
 | zero=>
   intro out i a h0 hn ha ho hR
   have hi:i=(M.length:Int) - 1:=by omega
   subst hi
   rw [Aj] at ha
   obtain rfl:=Option.some.inj ha
   refine ⟨out,?_,by omega,hR⟩
   unfold uL
   rw [iter_eq]
   dsimp only
   rw [nn,aP (x:=(M.length:Int) - 1) (by omega) (by omega),if_neg (by omega),bL]
 | succ n ih=>
   intro out i a h0 hn ha ho hR
   obtain ⟨b,hb,EF,_⟩:=gu M (i:=i+1) (by omega) (by omega)
   have uz:=hM.Cp.gu ha hb (by omega)
   have haB:=hM.NA hr hw (ry ha)
   simp only [eG] at haB
   have OY:∀ u,a≤u→u < b→qo r (fl l r.ax d) u=qo r (fl l r.ax d) a:=fun u h1 h2=>hM.same hr hw ha hb h1 h2
   have L6:∀ c:Bool,lC out i a b (qo r (fl l r.ax d) a) c=lC out i a b (qo r (fl l r.ax d) a) c:=fun _=>rfl
   have main:∃ DI,nn r l d M out i=some (.inl (DI,i+1))∧(DI.length:Int)≤i+1∧o7 (qo r (fl l r.ax d)) b 0 (DI.map HD):=by
    rw [nn,aP (x:=(M.length:Int) - 1) (by omega) (by omega),if_pos (by omega),aP (x:=i+1) (by omega) (by omega),ha,hb]
    simp only [Option.bind_some]
    rw [Kk hr hs d (by omega)]
    simp only [Option.bind_some]
    by_cases he:out=[]
    ·subst he
     rw [if_neg (by simp)]
     unfold lC pd
     rw [if_neg (by simp),fR (by simp),aP (x:=i+1) (by omega) (by omega)]
     exact ⟨_,rfl,by simp;omega,o7.snoc uz OY hR (by simp)⟩
    ·have yY:0 < out.length:=List.length_pos_iff.2 he
     obtain ⟨o,y,rfl⟩:∃ o y,out=o++[y]:=⟨out.dropLast,out.getLast he,(List.dropLast_concat_getLast he).symm⟩
     have L8:aU (((o++[y]).length:Int) - 1)=((o++[y]).length:Int) - 1:=aP (by omega) (by omega)
     have Yk:=hR
     rw [List.map_append,List.map_cons,List.map_nil] at Yk
     have hya:y.EO=a:=o7.last Yk
     rw [if_pos (by omega),L8,wm]
     simp only [Option.bind_some]
     unfold lC pd
     rw [aP (x:=i+1) (by omega) (by omega),L8]
     by_cases yX:y.bF=qo r (fl l r.ax d) a
     ·rw [if_pos (by simpa using yX),wm]
      simp only [Option.bind_some]
      refine ⟨_,rfl,by rw [List.length_set];omega,?_⟩
      have aa3:(o++[y]).set (((o++[y]).length:Int) - 1).toNat ⟨y.from_,b,y.bF⟩=o++[⟨y.from_,b,y.bF⟩]:=by
       rw [show (((o++[y]).length:Int) - 1).toNat=o.length by simp]
       simp
      rw [aa3,List.map_append,List.map_cons,List.map_nil]
      have hy:HD y=(y.from_,a,y.bF):=by unfold HD;rw [hya]
      rw [hy] at Yk
      exact o7.ext uz (fun u h1 h2=>by rw [OY u h1 h2,yX]) Yk
     ·rw [if_neg (by simpa using yX),fR (by simp at ho ⊢;omega)]
      refine ⟨_,rfl,by simp at ho ⊢;omega,?_⟩
      rw [List.map_append,List.map_cons,List.map_nil]
      refine o7.snoc uz OY hR (fun x hx=>?_)
      rw [List.map_append,List.map_cons,List.map_nil,List.getLast?_concat] at hx
      obtain rfl:=Option.some.inj hx
      exact yX
   obtain ⟨DI,e1,e2,e3⟩:=main
   obtain ⟨R,f1,f2⟩:=ih DI (i+1) b (by omega) (by omega) hb e2 e3
   refine ⟨R,?_,f2⟩
   unfold uL at f1 ⊢
   rw [iter_eq]
   dsimp only
   rw [e1]
   simp only [Option.bind_some,cS]
   exact f1
theorem ML {r:aG} (hr:vH r) {l:List ao} (hs:AS l) (d:aO):∃ R,xz r l d=some R∧(R.length:Int)≤10002∧o7 (qo r (fl l r.ax d)) eG 0 (R.map HD):=by
 have hl:=hs.len
 have hlo:=hr.long
 have hw:=vI hs r.ax d
 have hf:=Ek r d l [0,eG]
 have hm:(Ca r l d).length≤2+2 * l.length:=hf.1
 have hp:=(uv (Ca r l d)).length_eq
 have hcm:I6 r (fl l r.ax d) (dd vg (zd (Ca r l d))):=by
  refine ⟨(Lr _).1,fun t=>?_,?_⟩
  ·rw [(Lr _).2 t]
   show t∈Ca r l d↔_
   unfold Ca
   rw [hf.2 t]
   simp [or_assoc]
  ·have:=Kd vg (zd (Ca r l d))
   omega
 unfold xz BY
 have main:=lS (A:=List aX) l (fun (s:List Int) (i:Int)=>(s,i)) (fun x:(List Int)×Int=>jz r l d x.1 x.2) (fun acc x=>if sL r.ax d x=true then acc++[x.At,min (x.At+r.bh) eG] else acc) (fun i s=>(s.length:Int)≤2+2 * i) (sb r l d)
  (fun s i x h0 h1 hx S7=>by
   refine ⟨?_,by split<;>(try simp)<;>omega⟩
   show jz r l d s i=_
   rw [jz,if_pos h1,hx]
   simp only [Option.bind_some]
   have QM:=hs.Ub x (ry hx)
   unfold uK sa
   rw [aP (x:=i+1) (by omega) (by omega),aP (x:=x.At+r.bh) (by omega) (by omega)]
   rw [show (decide (x.Device=d)&&decide (x.ax=r.ax))=sL r.ax d x by unfold sL;rw [Bool.and_comm]]
   by_cases h4:sL r.ax d x=true
   ·rw [if_pos h4,if_pos h4,fR (by simp;omega)];rfl
   ·rw [if_neg h4,if_neg h4])
  (fun s S7=>by
   show jz r l d s l.length=_
   rw [jz,if_neg (by omega)]) [0,345686400000] (by simp)
 rw [show iter (fun x:(List Int)×Int=>jz r l d x.1 x.2) ([0,345686400000],0)=_ from main]
 show ∃ R,sb r l d (Ca r l d)=some R∧_
 unfold sb gP BN
 rw [if_pos (by omega)]
 unfold dm
 simp only [Option.bind_some]
 rw [if_pos hp]
 simp only [Option.bind_some]
 rw [An _ (by omega)]
 simp only [Option.bind_some]
 obtain ⟨h0,_,h2l⟩:=hcm.first hr hw
 exact MK hr hs d hcm ((dd vg (zd (Ca r l d))).length - 1) [] 0 0 (by omega) (by omega) h0 (by simp) .nil
theorem Em {r:aG} (c st long:Int) (hl:0≤long∧long≤2592000000) (hc:0≤c∧c≤345686400000) (R:List aX) (hR:(R.length:Int)≤10002) (hB:∀ x∈R,0≤x.from_∧x.from_≤345686400000):
 nH c st long R=some (match sT st long c (R.map HD) with | some t=>(t,true) | none=>(0,false)):=by
 unfold nH wO
 rw [Bh R (fun x:Int=>jk c st long R x) (fun x=>if x.bF=st∧max x.from_ c+long < x.EO then some (max x.from_ c+long,true) else none) (0,false) (by omega)]
 ·congr 1
  clear hR hB
  induction R with
  | nil=>rfl
  | cons x R ih=>
    simp only [B3,List.map_cons,sT,HD]
    by_cases h:x.bF=st∧max x.from_ c+long < x.EO
    ·rw [if_pos h,if_pos h]
    ·rw [if_neg h,if_neg h];exact ih
 ·intro i x h0 h1 hx
  have hxB:=hB x (ry hx)
  rw [jk,if_pos h1,hx]
  simp only [Option.bind_some]
  unfold oP
  rw [aP (x:=max x.from_ c+long) (by omega) (by omega),aP (x:=i+1) (by omega) (by omega)]
  by_cases h:x.bF=st∧max x.from_ c+long < x.EO
  ·rw [if_pos h,if_pos (by simpa using h)];rfl
  ·rw [if_neg h,if_neg (by simpa using h)]
 ·rw [jk,if_neg (by omega)];rfl
theorem o7.NA {σ:Int→Int} {E:Int}:∀ {rs:List (Int×Int×Int)} {a:Int},o7 σ E a rs→∀ x∈rs,a≤x.1∧x.1≤E
 | [],_,_=>by simp
 | y :: r,a,h=>by
   cases h with
   | cons h1 h2 h3 h4 h5=>
     intro x hx
     rcases List.mem_cons.1 hx with rfl | hx
     ·exact ⟨Int.le_refl _,by simp only;omega⟩
     ·have:=o7.NA h5 x hx;omega
def yR (w:Int×Int):aE:=⟨w.1,w.2⟩
theorem Kl {r:aG} (hr:vH r) {L:List ae} {R:List aX} (hR:(R.length:Int)≤10002) (Sx:o7 (qo r L) eG 0 (R.map HD)):∀ (n:Nat) (c:Int) (ws:List (Int×Int)) (acc:List aE),ws.length≤n→0≤c∧c≤345686400000→acc.length+ws.length≤1000000→FR r L false c ws→pT r R acc c=some (acc++ws.map yR):=by
 have hB:∀ x∈R,0≤x.from_∧x.from_≤345686400000:=fun x hx=>by
  have:=o7.NA Sx (HD x) (List.mem_map_of_mem hx)
  simpa [HD,eG] using this
 have hh:=hr.hold
 have Yl:=hr.rest
 intro n
 induction n with
 | zero=>
   intro c ws acc hn hc ha hF
   obtain rfl:ws=[]:=List.eq_nil_of_length_eq_zero (by omega)
   unfold pT
   rw [iter_eq]
   dsimp only
   rw [nI,Em (r:=r) c 1 r.bR hh hc R hR hB]
   cases hF with
   | never Fg=>
     cases W4:sT 1 r.bR c (R.map HD) with
     | some t=>exact (Fg t (sv Sx hh.1 hc.1 W4).1).elim
     | none=>simp [bL]
   | up hl h2=>cases h2
 | succ n ih=>
   intro c ws acc hn hc ha hF
   unfold pT
   rw [iter_eq]
   dsimp only
   rw [nI,Em (r:=r) c 1 r.bR hh hc R hR hB]
   cases hF with
   | never Fg=>
     cases W4:sT 1 r.bR c (R.map HD) with
     | some t=>exact (Fg t (sv Sx hh.1 hc.1 W4).1).elim
     | none=>simp [bL]
   | @up _ t ws hl h2=>
     have W4:sT 1 r.bR c (R.map HD)=some t:=by
      cases hq:sT 1 r.bR c (R.map HD) with
      | some t'=>rw [(sv Sx hh.1 hc.1 hq).uniq hl]
      | none=>exact (Eb Sx hh.1 hc.1 hq t hl.1).elim
     have ht:0≤t∧t≤345686400000:=by
      have h5:=hl.1.1
      have h6:=hl.1.2.1
      simp only [eG] at h6;omega
     rw [W4]
     simp only [Option.bind_some,Bool.not_true,Bool.false_eq_true,if_false]
     rw [Em (r:=r) t 2 r.Rest Yl ht R hR hB]
     cases h2 with
     | stay Fg=>
       cases hq:sT 2 r.Rest t (R.map HD) with
       | some t'=>exact (Fg t' (sv Sx Yl.1 ht.1 hq).1).elim
       | none=>
         simp only [Option.bind_some,Bool.not_false,if_true]
         rw [fR (by simp at ha ⊢;omega)]
         simp only [Option.bind_some,bL]
         rfl
     | @down _ t' Sr x5 h3=>
       have aa4:sT 2 r.Rest t (R.map HD)=some t':=by
        cases hq:sT 2 r.Rest t (R.map HD) with
        | some t''=>rw [(sv Sx Yl.1 ht.1 hq).uniq x5]
        | none=>exact (Eb Sx Yl.1 ht.1 hq t' x5.1).elim
       rw [aa4]
       simp only [Option.bind_some,Bool.not_true,Bool.false_eq_true,if_false]
       have ht':0≤t'∧t'≤345686400000:=by
        have h5:=x5.1.1
        have h6:=x5.1.2.1
        simp only [eG] at h6;omega
       rw [fR (by simp at ha ⊢;omega)]
       simp only [Option.bind_some,cS]
       have:=ih t' Sr (acc++[⟨t,t'⟩]) (by simp at hn;omega) ht' (by simp at ha ⊢;omega) h3
       unfold pT at this
       rw [this]
       simp [yR]
theorem Km {r:aG} (hr:vH r) {l:List ao} (hs:AS l) (d:aO):∃ ws,FR r (fl l r.ax d) false 0 ws∧ws.length≤4 * (fl l r.ax d).length+1∧gB r (fl l r.ax d)=some (ws.map yP)∧pe r l d=some (ws.map yR):=by
 have hw:=vI hs r.ax d
 obtain ⟨ws,h1,h2,h3⟩:=I3 hr hw
 obtain ⟨R,r1,r2,r3⟩:=ML hr hs d
 refine ⟨ws,h1,h2,h3,?_⟩
 have hl:=hw.2.2
 unfold pe
 rw [r1]
 simp only [Option.bind_some]
 exact Kl hr r2 r3 ws.length 0 ws [] (Nat.le_refl _) (by omega) (by simp;omega) h1
theorem jg {α β A X:Type} (xs:List α) (mk:List β→Int→X) (f:X→Option (X⊕A)) (g:α→List β) (B K:Int) (E:List β→Option A) (hB:∀ x∈xs,((g x).length:Int)≤B) (VN:0≤B)
 (h1:∀ s (i:Int) x,0≤i→i < xs.length→idx xs i=some x→(s.length:Int)≤K+B * xs.length→x∈xs→f (mk s i)=some (.inl (mk (s++g x) (i+1))))
 (h2:∀ s,(s.length:Int)≤K+B * xs.length→f (mk s xs.length)=Option.map .inr (E s)) (s:List β) (h0:(s.length:Int)≤K):iter f (mk s 0)=E (s++xs.flatMap g):=by
 have O8:∀ i:Int,i≤xs.length→B * i≤B * xs.length:=fun i hi=>Int.mul_le_mul_of_nonneg_left hi VN
 have main:=lS (A:=A) xs mk f (fun acc x=>acc++g x) (fun i s=>(s.length:Int)≤K+B * i) E
  (fun s i x i0 i1 hx hv=>⟨h1 s i x i0 i1 hx (by have:=O8 i (by omega);omega) (ry hx),by
   have:=hB x (ry hx)
   rw [List.length_append,Int.mul_add];omega⟩)
  (fun s hv=>h2 s hv) s (by simpa using h0)
 rw [main]
 congr 1
 have:∀ (ys:List α) (acc:List β),ys.foldl (fun acc x=>acc++g x) acc=acc++ys.flatMap g:=by
  intro ys
  induction ys with
  | nil=>intro acc;simp
  | cons y ys ih=>intro acc;rw [List.foldl_cons,ih,List.flatMap_cons,List.append_assoc]
 exact this xs s
theorem uw (l:List aO):(DK l).Perm l:=List.mergeSort_perm l _
def yA (l:List ao) (m:aO):List aO:=l.flatMap (fun x=>if x.ax=m then [x.Device] else [])
theorem Ao (m:aO):∀ l:List ao,(yA l m).length≤l.length
 | []=>by simp [yA]
 | x :: r=>by
   have:=Ao m r
   unfold yA at this ⊢
   rw [List.flatMap_cons,List.length_append,List.length_cons]
   have h:(if x.ax=m then [x.Device] else []).length≤1:=by split<;>simp
   omega
def mE (l:List ao) (m:aO):List aO:=dd vg (DK (yA l m))
theorem vJ (l:List ao) (m:aO):(mE l m).length≤l.length:=by
 have h1:=Kd vg (DK (yA l m))
 have h2:=(uw (yA l m)).length_eq
 have h3:=Ao m l
 unfold mE;omega
theorem G5 (L:List aO) (hl:(L.length:Int)≤5000):(dm L.length (fun r:(List aO)=>r.length) (cy L)).bind (fun v=>dS v)=some (dd vg (DK L)):=by
 have hp:=(uw L).length_eq
 unfold cy BN dm
 rw [if_pos (by omega)]
 simp only [Option.bind_some]
 rw [if_pos hp]
 simp only [Option.bind_some]
 exact Ld [] _ (by omega)
theorem Kn (l:List ao) (hl:(l.length:Int)≤5000) (m:aO):nF l m=some (mE l m):=by
 have hd:=Ao m l
 unfold nF wM
 refine (jg l (fun s i=>(s,i)) (fun x:(List aO)×Int=>fU l m x.1 x.2) (fun x=>if x.ax=m then [x.Device] else []) 1 0 (mj) (fun x _=>by split<;>simp) (by omega) (fun s i x h0 h1 hx hs _=>?_) (fun s hs=>?_) [] (by simp)).trans ?_
 ·show fU l m s i=_
  rw [fU,if_pos h1,hx]
  simp only [Option.bind_some]
  unfold mi
  rw [aP (x:=i+1) (by omega) (by omega)]
  by_cases h:x.ax=m
  ·rw [if_pos h,if_pos h,fR (by simp;omega)];rfl
  ·rw [if_neg h,if_neg h,List.append_nil]
 ·show fU l m s l.length=_
  rw [fU,if_neg (by omega)]
 ·rw [List.nil_append]
  show mj (yA l m)=_
  unfold mj
  have:=G5 (yA l m) (by omega)
  cases hx:dm (yA l m).length (fun r:(List aO)=>r.length) (cy (yA l m)) with
  | none=>rw [hx] at this;cases this
  | some v=>
    rw [hx] at this
    simp only [Option.bind_some] at this ⊢
    rw [this];rfl
theorem Ap (l:List ao) (hl:(l.length:Int)≤5000) {m:aO} (hm:m≠[]):iW l m=some (mE l m):=by
 have hd:=Ao m l
 unfold iW tT
 refine (jg l (fun s i=>(s,i)) (fun x:(List aO)×Int=>cX l m x.1 x.2) (fun x=>if x.ax=m then [x.Device] else []) 1 0 (iV) (fun x _=>by split<;>simp) (by omega) (fun s i x h0 h1 hx hs _=>?_) (fun s hs=>?_) [] (by simp)).trans ?_
 ·show cX l m s i=_
  rw [cX,if_pos h1,hx]
  simp only [Option.bind_some]
  unfold nk lr
  rw [aP (x:=i+1) (by omega) (by omega)]
  by_cases h:x.ax=m
  ·rw [if_pos h,if_pos (by simp [h]),fR (by simp;omega)];rfl
  ·rw [if_neg h,if_neg (by simp [h,hm]),List.append_nil]
 ·show cX l m s l.length=_
  rw [cX,if_neg (by omega)]
 ·rw [List.nil_append]
  show iV (yA l m)=_
  unfold iV DU fk
  rw [fR (by simp;omega)]
  simp only [Option.bind_some,List.nil_append]
  have:=G5 (yA l m) (by omega)
  cases hx:dm (yA l m).length (fun r:(List aO)=>r.length) (cy (yA l m)) with
  | none=>rw [hx] at this;cases this
  | some v=>
    rw [hx] at this
    simp only [Option.bind_some] at this ⊢
    rw [this];rfl
structure FD (r:aG) (l:List ao) (f:aO→List (Int×Int)):Prop where
 fr:∀ d,FR r (fl l r.ax d) false 0 (f d)
 len:∀ d,(f d).length≤4 * l.length+1
 sp:∀ d,gB r (fl l r.ax d)=some ((f d).map yP)
theorem O9 {r:aG} (hr:vH r) {l:List ao} (hs:AS l):∃ f,FD r l f:=by
 obtain ⟨f,hf⟩:=Classical.skolem.1 (fun d=>I3 hr (vI hs r.ax d))
 refine ⟨f,fun d=>(hf d).1,fun d=>?_,fun d=>(hf d).2.2⟩
 have h1:=(hf d).2.1
 have h2:(fl l r.ax d).length≤l.length:=by
  unfold fl;rw [List.length_map];exact List.length_filter_le _ _
 omega
theorem Pa {r:aG} (hr:vH r) {l:List ao} (hs:AS l) {f:aO→List (Int×Int)} (hf:FD r l f) (d:aO):pe r l d=some ((f d).map yR):=by
 obtain ⟨ws,h1,_,_,h4⟩:=Km hr hs d
 rw [h4,(hf.fr d).uniq h1]
def kY (d k:aO) (w:Int×Int):ah:=⟨d,k,w.1,w.2⟩
theorem FQ (l:List ao) (x:ao) (m d:aO):fl (l++[x]) m d=fl l m d++(if x.ax=m∧x.Device=d then [O4 x] else []):=by
 unfold fl
 rw [List.filter_append,List.map_append]
 congr 1
 unfold sL
 by_cases h:x.ax=m∧x.Device=d
 ·rw [if_pos h];simp [h.1,h.2]
 ·rw [if_neg h]
  by_cases h1:x.ax=m
  ·have h2:¬ x.Device=d:=fun e=>h ⟨h1,e⟩
   simp [h1,h2]
  ·simp [h1]
theorem I7 {r:aG} {l:List ao} (hs:AS l) {f:aO→List (Int×Int)} (hf:FD r l f):jU r l=some ((mE l r.ax).flatMap fun d=>(f d).map (kY d r.Key)):=by
 have hl:=hs.len
 have P6:=vJ l r.ax
 have k2:∀ M:List (aO×List ae),(∀ d,vu M d []=some (fl l r.ax d))→re r l M=some ((mE l r.ax).flatMap fun d=>(f d).map (kY d r.Key)):=by
  intro M hM
  unfold re
  rw [Kn l hl]
  simp only [Option.bind_some]
  unfold yF
  refine (jg (mE l r.ax) (fun s i=>(s,i)) (fun x:(List ah)×Int=>iH r M (mE l r.ax) x.1 x.2) (fun d=>(f d).map (kY d r.Key)) 20001 0 (fun s=>some s) (fun d _=>by rw [List.length_map];have:=hf.len d;omega) (by omega) (fun s i d h0 h1 hd Dr _=>?_) (fun s Dr=>?_) [] (by simp)).trans (by rw [List.nil_append])
  ·show iH r M (mE l r.ax) s i=_
   rw [iH,if_pos h1,hd]
   simp only [Option.bind_some]
   rw [hM d]
   simp only [Option.bind_some]
   rw [hf.sp d]
   simp only [Option.bind_some]
   unfold yE
   have Jz:=hf.len d
   refine (jg ((f d).map yP) (fun s j=>(s,j)) (fun x:(List ah)×Int=>iG r i d ((f d).map yP) x.1 x.2) (fun w=>[⟨d,r.Key,w.from_,w.EO⟩]) 1 500000000 (fun s=>some (.inl (s,i+1))) (fun _ _=>by simp) (by omega) (fun s j w j0 j1 hw KM _=>?_) (fun s KM=>?_) s (by omega)).trans ?_
   ·show iG r i d ((f d).map yP) s j=_
    rw [List.length_map] at KM
    rw [iG,if_pos j1,hw]
    simp only [Option.bind_some]
    rw [List.length_map] at j1
    rw [fR (by simp;omega),aP (x:=j+1) (by omega) (by omega)]
    rfl
   ·show iG r i d ((f d).map yP) s ((f d).map yP).length=_
    rw [iG,if_neg (by omega),aP (x:=i+1) (by omega) (by omega)]
   ·congr 3
    generalize f d=ws
    congr 1
    induction ws with
    | nil=>rfl
    | cons w ws ih=>simp only [List.map_cons,List.flatMap_cons,ih];rfl
  ·show iH r M (mE l r.ax) s (mE l r.ax).length=_
   rw [iH,if_neg (by omega)]
 unfold jU yG
 have key:∀ (n:Nat) (i:Int) (M:List (aO×List ae)),0≤i→i+n=l.length→(∀ d,vu M d []=some (fl (l.take i.toNat) r.ax d))→iter (fun x:(List (aO×(List ae)))×Int=>kV r l x.1 x.2) (M,i)=some ((mE l r.ax).flatMap fun d=>(f d).map (kY d r.Key)):=by
  intro n
  induction n with
  | zero=>
    intro i M h0 hn hM
    rw [iter_eq]
    dsimp only
    rw [kV,if_neg (by omega),bL]
    refine k2 M fun d=>?_
    rw [hM d,List.take_of_length_le (by omega)]
  | succ n ih=>
    intro i M h0 hn hM
    obtain ⟨x,hx,_,_⟩:=gu l (i:=i) h0 (by omega)
    have hts:=take_succ h0 hx
    have W5:∀ d,(fl (l.take i.toNat) r.ax d).length≤l.length:=fun d=>by
     unfold fl
     rw [List.length_map]
     have h1:=List.length_filter_le (sL r.ax d) (l.take i.toNat)
     have h2:(l.take i.toNat).length≤l.length:=by rw [List.length_take];omega
     omega
    rw [iter_eq]
    dsimp only
    rw [kV,if_pos (by omega),hx]
    simp only [Option.bind_some]
    by_cases hm:x.ax=r.ax
    ·have Dr:=W5 x.Device
     rw [if_pos hm,hM]
     simp only [Option.bind_some]
     rw [fR (by simp;omega)]
     simp only [Option.bind_some]
     unfold mu
     rw [aP (x:=i+1) (by omega) (by omega)]
     simp only [Option.bind_some,cS]
     refine ih (i+1) _ (by omega) (by omega) fun d=>?_
     rw [hts,FQ]
     have hMd:=hM d
     unfold vu at hMd ⊢
     rw [vF]
     by_cases hd:x.Device=d
     ·rw [if_pos hd,if_pos ⟨hm,hd⟩,hd];rfl
     ·rw [if_neg hd,if_neg (fun h=>hd h.2),List.append_nil];exact hMd
    ·rw [if_neg hm]
     unfold mu
     rw [aP (x:=i+1) (by omega) (by omega)]
     simp only [Option.bind_some,cS]
     refine ih (i+1) _ (by omega) (by omega) fun d=>?_
     rw [hts,FQ,if_neg (fun h=>hm h.1),List.append_nil];exact hM d
 exact key l.length 0 [] (by omega) (by omega) (fun d=>by simp [vu,D9,fl])
def kS (w:aE) (s:ah):List ah:=if max s.aT w.aT < min s.To w.To then [⟨s.Device,s.aG,max s.aT w.aT,min s.To w.To⟩] else []
theorem Pb (L:List ah) (hl:(L.length:Int)≤200000000) (w:aE):nj L w=some (L.flatMap (kS w)):=by
 unfold nj BW
 refine (jg L (fun s i=>(s,i)) (fun x:(List ah)×Int=>kJ L w x.1 x.2) (kS w) 1 0 (fun s=>some s) (fun x _=>by unfold kS;split<;>simp) (by omega) (fun s i x h0 h1 hx hs _=>?_) (fun s hs=>?_) [] (by simp)).trans (by rw [List.nil_append])
 ·show kJ L w s i=_
  rw [kJ,if_pos h1,hx]
  simp only [Option.bind_some]
  unfold rU kS
  rw [aP (x:=i+1) (by omega) (by omega)]
  by_cases h:max x.aT w.aT < min x.To w.To
  ·rw [if_pos h,if_pos h,fR (by simp;omega)];rfl
  ·rw [if_neg h,if_neg h,List.append_nil]
 ·show kJ L w s L.length=_
  rw [kJ,if_neg (by omega)]
def fL (l:List ao) (w:aE) (r:aG) (f:aO→List (Int×Int)):List ah:=(mE l r.ax).flatMap fun d=>(f d).flatMap fun t=>kS w (kY d r.Key t)
theorem jq {α β:Type} (g:α→List β) (B:Nat):∀ (l:List α),(∀ x∈l,(g x).length≤B)→(l.flatMap g).length≤B * l.length
 | [],_=>by simp
 | x :: r,h=>by
   have h1:=h x (by simp)
   have h2:=jq g B r (fun y hy=>h y (List.mem_cons_of_mem _ hy))
   rw [List.flatMap_cons,List.length_append,List.length_cons,Nat.mul_add];omega
theorem I8 {r:aG} {l:List ao} (hl:l.length≤40) {f:aO→List (Int×Int)} (hf:FD r l f) (w:aE):(fL l w r f).length≤8000:=by
 have P6:=vJ l r.ax
 have:=jq (fun d=>(f d).flatMap fun t=>kS w (kY d r.Key t)) 161 (mE l r.ax) (fun d _=>by
  have h1:=jq (fun t=>kS w (kY d r.Key t)) 1 (f d) (fun t _=>by unfold kS;split<;>simp)
  have h2:=hf.len d
  omega)
 unfold fL
 have h3:=Nat.mul_le_mul_left 161 (Nat.le_trans P6 hl)
 omega
theorem yj {r:aG} {l:List ao} (hs:AS l) (hl:l.length≤40) {f:aO→List (Int×Int)} (hf:FD r l f) (w:aE):∃ L,jU r l=some L∧nj L w=some (fL l w r f):=by
 refine ⟨_,I7 hs hf,?_⟩
 have P6:=vJ l r.ax
 have hlen:=jq (fun d=>(f d).map (kY d r.Key)) 161 (mE l r.ax) (fun d _=>by
  rw [List.length_map];have h2:=hf.len d;omega)
 have h3:=Nat.mul_le_mul_left 161 (Nat.le_trans P6 hl)
 rw [Pb _ (by omega)]
 congr 1
 unfold fL
 generalize mE l r.ax=D
 clear hlen h3 P6
 induction D with
 | nil=>rfl
 | cons d D ih=>
   rw [List.flatMap_cons,List.flatMap_append,ih,List.flatMap_cons]
   congr 1
   generalize f d=ws
   induction ws with
   | nil=>rfl
   | cons t ws ih=>rw [List.map_cons,List.flatMap_cons,List.flatMap_cons,ih]
theorem G6 {l:List ao} (hs:AS l) (hl:l.length≤40) (w:aE) {r:aG} (hr:vH r) (hm:r.ax≠[]) {f:aO→List (Int×Int)} (hf:FD r l f) (acc:List ah) (ha:(acc.length:Int)≤500000) (n7:Int) (hn:0≤n7∧n7≤1000):
 vc l w n7 r (mE l r.ax) acc 0=some (.inl (acc++fL l w r f,n7+1)):=by
 have P6:=vJ l r.ax
 unfold vc
 have hB:∀ d,((f d).flatMap fun t=>kS w (kY d r.Key t)).length≤161:=fun d=>by
  have h1:=jq (fun t=>kS w (kY d r.Key t)) 1 (f d) (fun t _=>by unfold kS;split<;>simp)
  have h2:=hf.len d
  omega
 refine (jg (mE l r.ax) (fun s i=>(s,i)) (fun x:(List ah)×Int=>iL l w n7 r (mE l r.ax) x.1 x.2) (fun d=>(f d).flatMap fun t=>kS w (kY d r.Key t)) 161 500000 (fun s=>some (.inl (s,n7+1))) (fun d _=>by have:=hB d;omega) (by omega) (fun s i d h0 h1 hd Dr _=>?_) (fun s Dr=>?_) acc ha).trans rfl
 ·show iL l w n7 r (mE l r.ax) s i=_
  rw [iL,if_pos h1,hd]
  simp only [Option.bind_some]
  rw [Pa hr hs hf d]
  simp only [Option.bind_some]
  unfold yI
  have Jz:=hf.len d
  refine (jg ((f d).map yR) (fun s j=>(s,j)) (fun x:(List ah)×Int=>iK w r i d ((f d).map yR) x.1 x.2) (fun t=>kS w ⟨d,r.Key,t.aT,t.To⟩) 1 600000 (fun s=>some (.inl (s,i+1))) (fun _ _=>by unfold kS;split<;>simp) (by omega) (fun s j t j0 j1 ht KM _=>?_) (fun s KM=>?_) s (by omega)).trans ?_
  ·show iK w r i d ((f d).map yR) s j=_
   rw [List.length_map] at KM
   rw [iK,if_pos j1,ht]
   simp only [Option.bind_some]
   rw [List.length_map] at j1
   unfold oy ox kS
   rw [aP (x:=j+1) (by omega) (by omega)]
   by_cases h:max t.aT w.aT < min t.To w.To
   ·rw [if_pos h,if_pos (by simpa using h),fR (by simp;omega)];rfl
   ·rw [if_neg h,if_neg (by simpa using h),List.append_nil]
  ·show iK w r i d ((f d).map yR) s ((f d).map yR).length=_
   rw [iK,if_neg (by omega),aP (x:=i+1) (by omega) (by omega)]
  ·congr 3
   generalize f d=ws
   congr 1
   induction ws with
   | nil=>rfl
   | cons t ws ih=>rw [List.map_cons,List.flatMap_cons,List.flatMap_cons,ih];rfl
 ·show iL l w n7 r (mE l r.ax) s (mE l r.ax).length=_
  rw [iL,if_neg (by omega),aP (x:=n7+1) (by omega) (by omega)]
def P7 (a b:ah):Int:=mA [oc a.aT b.aT,Lib.compareBytes a.Device b.Device,Lib.compareBytes a.aG b.aG]
theorem Pc:nL P7:=(D8.on ah.aT).or ((wj.on ah.Device).or ((wj.on ah.aG).or .or0))
theorem Bo (a b:ah):dI a b=some (P7 a b):=by
 unfold dI
 rw [lG]
 have h:jj [oc a.aT b.aT,Lib.compareBytes a.Device b.Device,Lib.compareBytes a.aG b.aG]=some (P7 a b):=xM _ (by simp)
 rw [h];rfl
theorem yS (a b:ah):js a b=some (P7 a b):=by
 unfold js
 rw [lG]
 have h:jj [oc a.aT b.aT,Lib.compareBytes a.Device b.Device,Lib.compareBytes a.aG b.aG]=some (P7 a b):=xM _ (by simp)
 rw [h];rfl
theorem Rp (L:List ah) (hl:(L.length:Int)≤100000):∃ Z,Z.Perm L∧dm L.length (fun r:(List ah)=>r.length) (bA L (fun y0 y1=>dI y0 y1))=some Z:=by
 obtain ⟨Z,h1,h2,h3⟩:=D7 (fun y0 y1=>dI y0 y1) P7 L (by omega) (fun a _ b _=>Bo a b) (Pc.ord L)
 exact ⟨Z,h2,mD h1 h2.length_eq⟩
theorem xW {l:List ao} (hs:AS l) (hl:l.length≤40) (w:aE) {rs:List aG} (hr:∀ r∈rs,vH r∧r.ax≠[]) (hn:rs.length≤10):∃ F:aG→aO→List (Int×Int),(∀ r∈rs,FD r l (F r))∧(∀ r∈rs,(fL l w r (F r)).length≤8000)∧∃ Z,Z.length≤80000∧Z.Perm (rs.flatMap fun r=>fL l w r (F r))∧
 dm (rs.flatMap fun r=>fL l w r (F r)).length (fun r:(List ah)=>r.length) (bA (rs.flatMap fun r=>fL l w r (F r)) (fun y0 y1=>dI y0 y1))=some Z∧qj rs l w [] 0=some (Z,0):=by
 have hF:∀ r:aG,∃ f,r∈rs→FD r l f:=fun r=>by
  by_cases h:r∈rs
  ·obtain ⟨f,hf⟩:=O9 (hr r h).1 hs
   exact ⟨f,fun _=>hf⟩
  ·exact ⟨fun _=>[],fun h'=>(h h').elim⟩
 obtain ⟨F,hF⟩:=Classical.skolem.1 hF
 have hlen:∀ r∈rs,(fL l w r (F r)).length≤8000:=fun r h=>I8 hl (hF r h) w
 have mC:=jq (fun r=>fL l w r (F r)) 8000 rs hlen
 obtain ⟨Z,TE,Og⟩:=Rp (rs.flatMap fun r=>fL l w r (F r)) (by omega)
 refine ⟨F,hF,hlen,Z,by rw [TE.length_eq];omega,TE,Og,?_⟩
 unfold qj
 refine (jg rs (fun s i=>(s,i)) (fun x:(List ah)×Int=>gK rs l w x.1 x.2) (fun r=>fL l w r (F r)) 8000 0 qh (fun r h=>by have:=hlen r h;omega) (by omega) (fun s i r h0 h1 hd Dr Sy=>?_) (fun s Dr=>?_) [] (by simp)).trans ?_
 ·show gK rs l w s i=_
  rw [gK,if_pos h1,hd]
  simp only [Option.bind_some]
  obtain ⟨L,e1,e2⟩:=yj hs hl (hF r Sy) w
  have:=hlen r Sy
  rw [e1]
  simp only [Option.bind_some]
  rw [e2]
  simp only [Option.bind_some]
  rw [fR (by omega),aP (x:=i+1) (by omega) (by omega)]
  rfl
 ·show gK rs l w s rs.length=_
  rw [gK,if_neg (by omega)]
 ·rw [List.nil_append]
  unfold qh
  rw [Og];rfl
theorem I9 {l:List ao} (hs:AS l) (hl:l.length≤40) (w:aE) {rs:List aG} (hr:∀ r∈rs,vH r∧r.ax≠[]) (hn:rs.length≤10):∃ Z,Z.length≤80000∧qj rs l w [] 0=some (Z,0)∧np rs l w=some Z:=by
 obtain ⟨F,hF,hlen,Z,z0,z1,z2,z3⟩:=xW hs hl w hr hn
 refine ⟨Z,z0,z3,?_⟩
 have e:(fun y0 y1=>js y0 y1)=(fun y0 y1=>dI y0 y1):=by funext a b;rw [Bo,yS]
 unfold np yJ
 refine (jg rs (fun s i=>(s,i)) (fun x:(List ah)×Int=>iM rs l w x.1 x.2) (fun r=>fL l w r (F r)) 8000 0 ri (fun r h=>by have:=hlen r h;omega) (by omega) (fun s i r h0 h1 hd Dr Sy=>?_) (fun s Dr=>?_) [] (by simp)).trans ?_
 ·show iM rs l w s i=_
  rw [iM,if_pos h1,hd]
  simp only [Option.bind_some]
  have hm:=(hr r Sy).2
  rw [Ap l hs.len hm]
  simp only [Option.bind_some]
  exact G6 hs hl w (hr r Sy).1 hm (hF r Sy) s (by omega) i ⟨h0,by omega⟩
 ·show iM rs l w s rs.length=_
  rw [iM,if_neg (by omega)]
 ·rw [List.nil_append]
  unfold ri
  rw [e,z2];rfl
def leB (a b:aO):Bool:=Op.bytesLess a b||a==b
def Sz (r:aG):Prop:=(r.bh < 1∨2592000000 < r.bh)∨(r.On < -1000000000∨1000000000 < r.On)∨(r.eJ < -1000000000∨1000000000 < r.eJ)∨(r.bj=true∧r.On < r.eJ)∨(r.bj=false∧r.eJ < r.On)∨(r.bR < 0∨2592000000 < r.bR)∨(r.Rest < 0∨2592000000 < r.Rest)
instance (r:aG):Decidable (Sz r):=by unfold Sz;infer_instance
def Uc (r:aG):Int:=if nM r.ax=false then 5 else if r.eI < 1∨6 < r.eI then 4 else if Sz r then 1 else if r.Empty < 0∨2 < r.Empty then 4 else 0
def W6 (prev:Option aG) (r:aG):Bool:=match prev with | none=>false | some p=>leB r.Key p.Key
def Bp (prev:Option aG) (r:aG):Int:=if nM r.Key=false then 5 else if W6 prev r=true then 7 else Uc r
def gN (rs:List aG):Int:=if (100:Int) < rs.length then 2 else B7 Bp none rs
theorem uV (n lo hi:Int):gi n lo hi=decide (n < lo∨hi < n):=by rw [G1,Bool.decide_or]
theorem wu (n lo hi:Int):(!(nD n lo hi))=decide (n < lo∨hi < n):=by
 rw [Bm,Bool.eq_iff_iff]
 simp only [Bool.not_eq_true',Bool.and_eq_false_iff,decide_eq_false_iff_not,decide_eq_true_eq]
 omega
abbrev uW (n:Int) (e:Int):Option (Int⊕Int):=some (if e=0 then .inl (n+1) else .inr e)
theorem SA {n:Int} (hn:0≤n∧n≤1000) (r:aG) (c:Bool):iu n r c=uW n (if c=true then 1 else if r.Empty < 0∨2 < r.Empty then 4 else 0):=by
 unfold iu uW
 rw [aP (by omega) (by omega),uV]
 cases c
 ·by_cases h:r.Empty < 0∨2 < r.Empty
  ·simp [h]
  ·simp [h]
 ·simp
theorem W7 {n:Int} (hn:0≤n∧n≤1000) (r:aG) (c:Bool):iv n r c=uW n (if c=true∨(r.bR < 0∨2592000000 < r.bR)∨(r.Rest < 0∨2592000000 < r.Rest) then 1 else if r.Empty < 0∨2 < r.Empty then 4 else 0):=by
 unfold iv
 rw [SA hn,SA hn,uV,uV]
 cases c
 ·by_cases h:r.bR < 0∨2592000000 < r.bR
  ·simp [h]
  ·by_cases h2:r.Rest < 0∨2592000000 < r.Rest
   ·simp [h,h2]
   ·simp [h,h2]
 ·simp [uW]
theorem SC {n:Int} (hn:0≤n∧n≤1000) (r:aG) (c:Bool):iy n r c=uW n (if c=true then 7 else Uc r):=by
 unfold iy Uc
 cases c
 ·rw [if_neg (by simp),G2]
  simp only [Option.bind_some,Bool.false_eq_true,if_false]
  cases hk:nM r.ax
  ·simp [uW]
  ·simp only [Bool.not_true,Bool.false_eq_true,if_false,Bool.true_eq_false]
   rw [uV,uV]
   by_cases ha:r.eI < 1∨6 < r.eI
   ·simp [ha,uW]
   ·simp only [ha,decide_false,Bool.false_eq_true,if_false]
    unfold fW fX lO iw lN dM Sz
    unfold fX iw
    unfold fW fX
    unfold fW
    simp only [W7 hn,Bool.not_not,uV,decide_eq_true_eq]
    by_cases h1:r.bh < 1∨2592000000 < r.bh
    ·simp [h1]
    ·by_cases h2:r.On < -1000000000∨1000000000 < r.On
     ·simp [h1,h2]
     ·by_cases h3:r.eJ < -1000000000∨1000000000 < r.eJ
      ·simp [h1,h2,h3]
      ·rcases Bool.eq_false_or_eq_true r.bj with uz | uz
       ·by_cases h4:r.On < r.eJ
        ·simp [h1,h2,h3,h4,uz]
        ·simp [h1,h2,h3,h4,uz]
       ·by_cases h5:r.eJ < r.On
        ·simp [h1,h2,h3,h5,uz]
        ·simp [h1,h2,h3,h5,uz]
 ·simp [uW]
theorem oH (rs:List aG):fT rs=some (gN rs):=by
 unfold fT gN
 split
 ·rfl
 ·rename_i hl
  unfold tP
  refine Af Bp rs _ (fun {i s} h0 h1 hs=>?_) (by show fh rs _=_;rw [fh,if_neg (by omega)];rfl)
  show fh rs i=_
  rw [fh,if_pos h1,hs]
  simp only [Option.bind_some,G2]
  unfold Bp
  cases hk:nM s.Key
  ·simp
  ·simp only [Bool.not_true,Bool.false_eq_true,if_false,Bool.true_eq_false]
   by_cases hi:0 < i
   ·obtain ⟨p,hp,_,_⟩:=gu rs (i:=i - 1) (by omega) (by omega)
    have HT:kc rs i=some p:=by unfold kc;rw [if_neg (by omega),hp]
    rw [HT,if_pos hi,aP (by omega) (by omega),hp]
    simp only [Option.bind_some]
    rw [SC ⟨h0,by omega⟩]
    rfl
   ·have HT:kc rs i=none:=by unfold kc;rw [if_pos (by omega)]
    rw [HT,if_neg hi,SC ⟨h0,by omega⟩]
    rfl
theorem W8 {n:Int} (hn:0≤n∧n≤1000) (r:aG) (c:Bool):mh n r c=uW n (if c=true then 1 else if r.Empty < 0∨2 < r.Empty then 4 else 0):=by
 unfold mh uW
 rw [aP (by omega) (by omega),wu]
 cases c
 ·by_cases h:r.Empty < 0∨2 < r.Empty
  ·simp [h]
  ·simp [h]
 ·simp
theorem SD {n:Int} (hn:0≤n∧n≤1000) (r:aG) (c:Bool):kq n r c=uW n (if c=true then 7 else Uc r):=by
 unfold kq Uc
 cases c
 ·rw [if_neg (by simp),Am]
  simp only [Option.bind_some,Bool.false_eq_true,if_false]
  cases hk:nM r.ax
  ·simp [uW]
  ·simp only [Bool.not_true,Bool.false_eq_true,if_false,Bool.true_eq_false]
   rw [wu]
   by_cases ha:r.eI < 1∨6 < r.eI
   ·simp [ha,uW]
   ·simp only [ha,decide_false,Bool.false_eq_true,if_false]
    rw [W8 hn]
    congr 2
    have e:∀ (a b:Bool) (P:Prop) [Decidable P],(a||b)=decide P→((a||b)=true↔P):=fun a b P _ h=>by rw [h];simp
    have key:((!(nD r.bh (1:Int) (2592000000:Int)))||((!(ji r.On))||((!(ji r.eJ))||(if r.bj=true then (decide (r.On < r.eJ))||(if (!r.bj)=true then (decide (r.eJ < r.On))||((!(nD r.bR (0:Int) (2592000000:Int)))||(!(nD r.Rest (0:Int) (2592000000:Int)))) else (!(nD r.bR (0:Int) (2592000000:Int)))||(!(nD r.Rest (0:Int) (2592000000:Int)))) else if (!r.bj)=true then (decide (r.eJ < r.On))||((!(nD r.bR (0:Int) (2592000000:Int)))||(!(nD r.Rest (0:Int) (2592000000:Int)))) else (!(nD r.bR (0:Int) (2592000000:Int)))||(!(nD r.Rest (0:Int) (2592000000:Int)))))))=decide (Sz r):=by
     unfold ji Sz
     rw [wu,wu,wu,wu,wu]
     rw [Bool.eq_iff_iff]
     rcases Bool.eq_false_or_eq_true r.bj with uz | uz
     ·simp only [uz,Bool.not_true,if_true,Bool.false_eq_true,if_false,Bool.true_eq_false,false_and,true_and,false_or,Bool.or_eq_true,decide_eq_true_eq]
     ·simp only [uz,Bool.not_false,if_true,Bool.false_eq_true,if_false,false_and,true_and,false_or,Bool.or_eq_true,decide_eq_true_eq]
    rw [key]
    by_cases h:Sz r
    ·simp [h]
    ·simp [h]
 ·simp [uW]
theorem vi (rs:List aG):lM rs=some (gN rs):=by
 unfold lM gN
 split
 ·rfl
 ·rename_i hl
  unfold wL
  refine Af Bp rs _ (fun {i s} h0 h1 hs=>?_) (by show gU rs _=_;rw [gU,if_neg (by omega)];rfl)
  show gU rs i=_
  rw [gU,if_pos h1,hs]
  simp only [Option.bind_some,Am]
  unfold Bp
  cases hk:nM s.Key
  ·simp
  ·simp only [Bool.not_true,Bool.false_eq_true,if_false,Bool.true_eq_false]
   by_cases hi:0 < i
   ·obtain ⟨p,hp,_,_⟩:=gu rs (i:=i - 1) (by omega) (by omega)
    have HT:kc rs i=some p:=by unfold kc;rw [if_neg (by omega),hp]
    rw [HT,if_pos hi,aP (by omega) (by omega),hp]
    simp only [Option.bind_some]
    rw [SD ⟨h0,by omega⟩]
    rfl
   ·have HT:kc rs i=none:=by unfold kc;rw [if_pos (by omega)]
    rw [HT,if_neg hi,SD ⟨h0,by omega⟩]
    rfl
theorem Pd {r:aG} (h:Uc r=0):vH r∧r.ax≠[]:=by
 unfold Uc at h
 split at h
 ·cases h
 ·rename_i hk
  split at h
  ·cases h
  ·rename_i ha
   split at h
   ·cases h
   ·rename_i h3
    split at h
    ·cases h
    ·rename_i he
     unfold Sz at h3
     refine ⟨⟨by omega,by omega,by omega,by omega,by omega,by omega,by omega⟩,fun e=>?_⟩
     rw [e] at hk;exact hk rfl
theorem tz {rs:List aG} (h:gN rs=0):(∀ r∈rs,vH r∧r.ax≠[])∧rs.length≤100:=by
 unfold gN at h
 split at h
 ·cases h
 ·rename_i hl
  refine ⟨fun r hr=>?_,by omega⟩
  obtain ⟨i,hi,rfl⟩:=List.getElem_of_mem hr
  have h1:=zv rs none h i rs[i] (List.getElem?_eq_getElem hi)
  unfold Bp at h1
  by_cases c1:nM rs[i].Key=false
  ·rw [if_pos c1] at h1;cases h1
  ·rw [if_neg c1] at h1
   by_cases c2:W6 (if i=0 then none else rs[i - 1]?) rs[i]=true
   ·rw [if_pos c2] at h1;cases h1
   ·rw [if_neg c2] at h1;exact Pd h1
def zw (w:aE):Bool:=decide (0≤w.aT)&&decide (w.aT≤w.To)&&decide (w.To≤345686400000)
def lz (w:aE):Int:=if zw w=true then 0 else 1
theorem wv (w:aE):iT w=zw w:=by
 unfold iT pN zw
 rw [G1,Bool.eq_iff_iff];simp
theorem mq (w:aE):bP w=lz w:=by
 unfold bP nE lz zw
 rw [Bm]
 by_cases h:0≤w.aT∧w.aT≤w.To∧w.To≤345686400000
 ·rw [if_neg (by simp;omega),if_pos (by simp;omega)]
 ·rw [if_pos (by simp;omega),if_neg (by simp;omega)]
theorem Rq (a b:Int):nf [a,b]=some (mA [a,b]):=xM _ (by simp)
theorem Bq (rs:List aG) (l:List ao) (w:aE):o4 rs l w=some (mA [gN rs,iE l,lz w]):=by
 unfold o4 rb ou
 rw [oH,oU]
 simp only [Option.bind_some,Rq,wv]
 unfold lz
 by_cases h1:gN rs=0
 ·by_cases h2:iE l=0
  ·cases hw:zw w<;>simp [h1,h2,hw,mA]
  ·simp [h1,h2,mA]
 ·simp [h1,mA]
def G7:aG:=⟨[114],[116],1,10,true,1,1,0,0,0⟩
def P8:List ao:=[⟨[100],[116],0,1⟩]
theorem Ud:vH G7:=⟨by decide,by decide,by decide,by decide,by decide,by decide,by decide⟩
theorem Ue:AS P8:=⟨by decide,by decide,by decide,List.pairwise_singleton _ _⟩
theorem Pe (t:Int) (h:0≤t):qo G7 (fl P8 [116] [100]) t=if t < 10 then 1 else 0:=by
 have hs:fl P8 [116] [100]=[⟨0,1⟩]:=by decide
 rw [hs]
 unfold qo ur
 by_cases c:t < 10
 ·rw [if_pos c,List.filter_cons_of_pos (by simp only [decide_eq_true_eq];exact ⟨by show t - 10 < (0:Int);omega,h⟩),List.filter_nil]
  decide
 ·rw [if_neg c,List.filter_cons_of_neg (by simp only [decide_eq_true_eq];exact fun k=>by have k1:t - 10 < (0:Int):=k.1;omega),List.filter_nil]
  decide
theorem W9:FR G7 (fl P8 G7.ax [100]) false 0 [(0,eG)]:=by
 refine FF.up (t:=0) ⟨⟨by decide,by decide,fun u h1 h2=>?_⟩,fun t' ht k=>?_⟩ (FF.stay fun t k=>?_)
 ·rw [show u=0 by simp [G7] at h1;omega]
  exact Pe 0 (by omega)
 ·have:=k.1;simp [G7] at this;omega
 ·have h1:=k.1
  have h2:=k.2.2 t (by simp [G7]) (Int.le_refl _)
  rw [show G7.ax=[116] from rfl,Pe t (by simp [G7] at h1;omega)] at h2
  split at h2<;>omega
theorem Ja:yd=some true:=by
 unfold yd ub
 have hR:gN [G7]=0:=by decide
 have hM:iE P8=0:=by decide
 have hW:lz ⟨0,5⟩=0:=by decide
 have h0:mA [gN [G7],iE P8,lz ⟨0,5⟩]=0:=by rw [hR,hM,hW];rfl
 obtain ⟨F,hF,_,Z,_,hp,_,z2⟩:=xW Ue (by decide) ⟨0,5⟩ (rs:=[G7]) (fun r hr=>(show r=G7 by simpa using hr)▸⟨Ud,by decide⟩) (by decide)
 have hf:=hF G7 (by simp)
 rw [List.flatMap_cons,List.flatMap_nil,List.append_nil] at hp
 generalize F G7=f at *
 have Uf:f [100]=[(0,eG)]:=(hf.fr [100]).uniq W9
 have ht:fL P8 ⟨0,5⟩ G7 f=[⟨[100],[114],0,5⟩]:=by
  unfold fL
  rw [show mE P8 G7.ax=[[100]] by
   unfold mE
   rw [show yA P8 G7.ax=[[100]] by decide]
   simp [DK,dd,CE]]
  simp only [List.flatMap_cons,List.flatMap_nil,List.append_nil,Uf]
  decide
 rw [ht] at hp
 have hZ:Z=[⟨[100],[114],0,5⟩]:=List.perm_singleton.1 hp
 have hS:pf [G7] P8 ⟨0,5⟩=some (Z,0):=by
  unfold pf
  rw [Bq,h0]
  simp only [Option.bind_some]
  rw [if_neg (by simp)]
  exact z2
 rw [show pf [(⟨([114]:aO),([116]:aO),(1:Int),(10:Int),true,(1:Int),(1:Int),(0:Int),(0:Int),(0:Int)⟩:aG)] [(⟨([100]:aO),([116]:aO),(0:Int),(1:Int)⟩:ao)] (⟨(0:Int),(5:Int)⟩:aE)=some (Z,0) from hS]
 simp only [Option.bind_some,if_true]
 rw [hZ,show cG [⟨[100],[114],0,5⟩] [⟨[100],[114],0,5⟩]=some true from (FC _ _ (by simp)).trans (by simp)]
 rfl
theorem xX {s:zq} {k:aO} {K:Int} (hs:zr s K) (hK:20≤K):uB (iq s k) (K - 20) (fun _=>True):=by
 refine uB.of ?_
 unfold iq jn
 refine Ok.gen (zu hs (by omega) (by simp) (by simp)) (fun a s1 ha q1=>?_)
 refine Ok.gen (Li q1 (by omega) (by omega) (by omega) (by omega)) (fun b s2 hb q2=>?_)
 refine Ok.gen (o8 q2 (by omega) (by simp) (by simp)) (fun c s3 hc q3=>?_)
 refine Ok.gen (zt q3 (by omega) (by omega) (by omega)) (fun d s4 hd q4=>?_)
 refine Ok.gen (o8 q4 (by omega) (by simp) (by simp)) (fun e s5 he q5=>?_)
 refine Ok.gen (o8 q5 (by omega) (by simp) (by simp)) (fun f s6 hf q6=>?_)
 refine Ok.gen (o8 q6 (by omega) (by simp) (by simp)) (fun g s7 hg q7=>?_)
 refine Ok.gen (o8 q7 (by omega) (by simp) (by simp)) (fun h s8 hh q8=>?_)
 refine Ok.gen (o8 q8 (by omega) (by simp) (by simp)) (fun i s9 hi q9=>?_)
 split
 ·exact Ok.ret ⟨trivial,q9.less (by omega)⟩
 ·exact Ok.ret ⟨trivial,q9.less (by omega)⟩
theorem Rr {s:zq} {K:Int} (hs:zr s K) (hK:200≤K):uB (pK s) (K - 200) (fun l=>(l.length:Int)≤4):=by
 refine uB.of ?_
 unfold pK wK
 refine Ok.iter (fun x:List Int×Int×List aG×Int=>(3 - x.2.2.2).toNat) (fun x:List Int×Int×List aG×Int=>0≤x.2.2.2∧x.2.2.2≤3∧zr ⟨x.1,x.2.1⟩ (K - 100+30 * (3 - x.2.2.2))∧(x.2.2.1.length:Int)≤x.2.2.2) ?_ _ ⟨by simp,by simp,hs.less (by simp;omega),by simp⟩
 rintro ⟨L,c,l,n⟩ ⟨g0,g1,g2,g3⟩
 simp only at g0 g1 g2 g3 ⊢
 unfold mf
 by_cases hn:n < 3
 ·rw [if_pos (by simpa using hn)]
  refine Ok.idx g0 (by simpa using hn) (fun k hk _=>?_)
  refine Ok.gen (zt g2 (by omega) (by omega) (by omega)) (fun p4 s4 _ q4=>?_)
  unfold ma
  rw [aP (x:=n+1) (by omega) (by omega)]
  split
  ·refine Ok.gen (xX q4 (by omega)) (fun v s5 _ q5=>?_)
   refine Ok.app (by simp;omega) ?_
   exact Ok.ret ⟨⟨by (try simp only);omega,by (try simp only);omega,q5.less (by (try simp only);omega),by simp;omega⟩,by (try simp only);omega⟩
  ·exact Ok.ret ⟨⟨by (try simp only);omega,by (try simp only);omega,q4.less (by (try simp only);omega),by (try simp only);omega⟩,by (try simp only);omega⟩
 ·rw [if_neg (by simpa using hn)]
  refine Ok.inr ?_
  unfold sD ko
  refine Ok.gen (zt g2 (by omega) (by omega) (by omega)) (fun p s1 _ q1=>?_)
  split
  ·refine Ok.gen (zu q1 (by omega) (by simp) (by simp)) (fun a s2 _ q2=>?_)
   refine Ok.gen (xX q2 (by omega)) (fun v s3 _ q3=>?_)
   refine Ok.gen (Kg q3 (by omega) (by omega) (by omega)) (fun u s4 hu q4=>?_)
   unfold me mc mb ko
   dsimp only
   split
   ·refine Ok.gen (yO q4 (by omega) (by omega) (by omega) (by omega)) (fun b s5 _ q5=>?_)
    refine Ok.gen (yO q5 (by omega) (by omega) (by omega) (by omega)) (fun b2 s6 _ q6=>?_)
    refine Ok.app (by simp;omega) (Ok.ret ⟨by simp;omega,q6.less (by (try simp only);omega)⟩)
   ·split
    ·refine Ok.gen (yO q4 (by omega) (by omega) (by omega) (by omega)) (fun b s5 _ q5=>?_)
     refine Ok.gen (yO q5 (by omega) (by omega) (by omega) (by omega)) (fun b2 s6 _ q6=>?_)
     refine Ok.gen (yO q6 (by omega) (by omega) (by omega) (by omega)) (fun b3 s7 _ q7=>?_)
     refine Ok.app (by simp;omega) (Ok.ret ⟨by simp;omega,q7.less (by (try simp only);omega)⟩)
    ·split
     ·refine Ok.gen (yO q4 (by omega) (by omega) (by omega) (by omega)) (fun b s5 _ q5=>?_)
      refine Ok.gen (yO q5 (by omega) (by omega) (by omega) (by omega)) (fun b2 s6 _ q6=>?_)
      refine Ok.app (by simp;omega) (Ok.ret ⟨by simp;omega,q6.less (by (try simp only);omega)⟩)
     ·refine Ok.gen (zu q4 (by omega) (by simp) (by simp)) (fun b s5 _ q5=>?_)
      refine Ok.app (by simp;omega) (Ok.ret ⟨by simp;omega,q5.less (by (try simp only);omega)⟩)
  ·exact Ok.ret ⟨by (try simp only);omega,q1.less (by (try simp only);omega)⟩
theorem FT {s:zq} {K:Int} (hs:zr s K) (hK:50≤K):uB (tv s) (K - 50) (fun _=>True):=by
 refine uB.of ?_
 unfold tv pL
 refine Ok.gen (zu hs (by omega) (by simp) (by simp)) (fun a s1 ha q1=>?_)
 refine Ok.gen (xX q1 (by omega)) (fun v s2 _ q2=>?_)
 refine Ok.gen (zt q2 (by omega) (by omega) (by omega)) (fun p s3 _ q3=>?_)
 split
 ·refine Ok.gen (zu q3 (by omega) (by simp) (by simp)) (fun b s4 _ q4=>?_)
  refine Ok.gen (yO q4 (by omega) (by omega) (by omega) (by omega)) (fun c s5 _ q5=>?_)
  refine Ok.gen (yO q5 (by omega) (by omega) (by omega) (by omega)) (fun c2 s6 _ q6=>?_)
  exact Ok.ret ⟨trivial,q6.less (by omega)⟩
 ·exact Ok.ret ⟨trivial,q3.less (by omega)⟩
theorem Ko {s:zq} {many K:Int} (hs:zr s K) (hm:0≤many∧many≤10) (hK:400≤K):uB (mg s many) (K - 400) (fun l=>(l.length:Int)≤4 * many):=by
 refine uB.of ?_
 unfold mg
 refine Ok.gen (Kg hs (by omega) (by omega) (by omega)) (fun a s1 ha q1=>?_)
 unfold tO
 refine Ok.iter (fun x:List Int×Int×List ao×Int×Int=>(many - x.2.2.2.2).toNat) (fun x:List Int×Int×List ao×Int×Int=>(0≤x.2.2.2.2∧x.2.2.2.2≤many)∧zr ⟨x.1,x.2.1⟩ (K - 300+20 * (many - x.2.2.2.2))∧(x.2.2.1.length:Int)≤4 * x.2.2.2.2) ?_ _ ⟨⟨by simp,by (try simp only);omega⟩,q1.less (by (try simp only);omega),by simp⟩
 rintro ⟨L,c,l,t,n⟩ ⟨g0,g2,g3⟩
 simp only at g0 g2 g3 ⊢
 unfold jR
 by_cases hn:n < many
 ·rw [if_pos hn]
  unfold tN
  refine Ok.iter (fun x:List Int×Int×List ao×Int=>(2 - x.2.2.2).toNat) (fun x:List Int×Int×List ao×Int=>(0≤x.2.2.2∧x.2.2.2≤2)∧zr ⟨x.1,x.2.1⟩ (K - 300+20 * (many - n) - 8 * x.2.2.2)∧(x.2.2.1.length:Int)≤4 * n+2 * x.2.2.2) ?_ _ ⟨by simp,by simpa using g2,by simpa using g3⟩
  rintro ⟨L2,c2,l2,i⟩ ⟨i0,i2,i3⟩
  simp only at i0 i2 i3 ⊢
  unfold jP
  by_cases hi:i < 2
  ·rw [if_pos (by simpa using hi)]
   refine Ok.idx i0.1 (by simpa using hi) (fun d hd _=>?_)
   unfold tM
   refine Ok.iter (fun x:List Int×Int×List ao×Int=>(2 - x.2.2.2).toNat) (fun x:List Int×Int×List ao×Int=>(0≤x.2.2.2∧x.2.2.2≤2)∧zr ⟨x.1,x.2.1⟩ (K - 300+20 * (many - n) - 8 * i - 3 * x.2.2.2)∧(x.2.2.1.length:Int)≤4 * n+2 * i+x.2.2.2) ?_ _ ⟨by simp,by simpa using i2,by simpa using i3⟩
   rintro ⟨L3,c3,l3,j⟩ ⟨j0,j2,j3⟩
   simp only at j0 j2 j3 ⊢
   unfold jO
   by_cases hj:j < 2
   ·rw [if_pos (by simpa using hj)]
    refine Ok.idx j0.1 (by simpa using hj) (fun m hmm _=>?_)
    refine Ok.gen (zt j2 (by omega) (by omega) (by omega)) (fun p s4 _ q4=>?_)
    unfold jN
    rw [aP (x:=j+1) (by omega) (by omega)]
    split
    ·refine Ok.gen (o8 q4 (by omega) (by simp) (by simp)) (fun v s5 _ q5=>?_)
     refine Ok.app (by simp;omega) ?_
     exact Ok.ret ⟨⟨by (try simp only);omega,q5.less (by (try simp only);omega),by simp;omega⟩,by (try simp only);omega⟩
    ·exact Ok.ret ⟨⟨by (try simp only);omega,q4.less (by (try simp only);omega),by (try simp only);omega⟩,by (try simp only);omega⟩
   ·rw [if_neg (by simpa using hj)]
    refine Ok.inr (Ok.ret ?_)
    rw [aP (x:=i+1) (by omega) (by omega)]
    exact ⟨⟨by (try simp only);omega,j2.less (by (try simp only);omega),by (try simp only);omega⟩,by (try simp only);omega⟩
  ·rw [if_neg (by simpa using hi)]
   refine Ok.inr ?_
   unfold oZ
   refine Ok.gen (o8 i2 (by omega) (by simp) (by simp)) (fun v s5 _ q5=>?_)
   dsimp only
   rw [aP (x:=n+1) (by omega) (by omega)]
   exact Ok.ret ⟨⟨by (try simp only);omega,q5.less (by (try simp only);omega),by (try simp only);omega⟩,by (try simp only);omega⟩
 ·rw [if_neg hn]
  refine Ok.inr ?_
  unfold o0
  have j1:∀ (L':List Int) (a':Int) (x:Bool),(x=true→0 < (l.length:Int))→zr ⟨L',a'⟩ (K - 310)→Ok (ir l L' a' x) (fun r=>(r.1.length:Int)≤4 * many∧zr r.2 (K - 400)):=by
   intro L' a' x hx xa
   unfold ir jQ
   split
   ·rename_i h
    have:=hx h
    refine Ok.gen (Kg xa (by omega) (by omega) (by omega)) (fun u s6 hu q6=>?_)
    refine Ok.idx hu.1 hu.2 (fun p hp _=>?_)
    refine Ok.gen (o8 q6 (by omega) (by simp) (by simp)) (fun v s7 _ q7=>?_)
    refine Ok.gen (zu q7 (by omega) (by simp) (by simp)) (fun w s8 _ q8=>?_)
    refine Ok.gen (yO q8 (by omega) (by omega) (by omega) (by omega)) (fun w2 s9 _ q9=>?_)
    exact Ok.ret ⟨by simp only [List.length_set];omega,q9.less (by (try simp only);omega)⟩
   ·exact Ok.ret ⟨by (try simp only);omega,xa.less (by (try simp only);omega)⟩
  split
  ·rename_i h
   refine Ok.gen (zt g2 (by omega) (by omega) (by omega)) (fun x s5 _ q5=>?_)
   exact j1 _ _ _ (fun _=>h) (q5.less (by omega))
  ·exact j1 _ _ _ (fun h=>by cases h) (g2.less (by omega))
theorem Rt {s:zq} {K:Int} (hs:zr s K) (hK:10≤K):uB (rQ s) (K - 10) (fun _=>True):=by
 refine uB.of ?_
 unfold rQ mX
 refine Ok.gen (o8 hs (by omega) (by simp) (by simp)) (fun a s1 _ q1=>?_)
 refine Ok.gen (o8 q1 (by omega) (by simp) (by simp)) (fun b s2 _ q2=>?_)
 refine Ok.gen (zt q2 (by omega) (by omega) (by omega)) (fun c s3 _ q3=>?_)
 split
 ·refine Ok.gen (o8 q3 (by omega) (by simp) (by simp)) (fun d s4 _ q4=>?_)
  refine Ok.gen (o8 q4 (by omega) (by simp) (by simp)) (fun e s5 _ q5=>?_)
  exact Ok.ret ⟨trivial,q5.less (by omega)⟩
 ·exact Ok.ret ⟨trivial,q3.less (by omega)⟩
theorem Jb {X X' A A':Type} {f:X→Option (X⊕A)} {f':X'→Option (X'⊕A')} (φ:X→X') (ψ:A→A') (I:X→Prop)
 (h:∀ s z,I s→f s=some z→match z with | .inl s'=>f' (φ s)=some (.inl (φ s'))∧I s' | .inr a=>f' (φ s)=some (.inr (ψ a))) {s:X} {a:A} (hI:I s) (hs:Eng.iter f s=some a):Eng.iter f' (φ s)=some (ψ a):=by
 obtain ⟨n,hn⟩:=tu.1 hs
 clear hs
 induction n generalizing s with
 | zero=>cases hn
 | succ n ih=>
   rw [iter_eq]
   unfold pI at hn
   cases hf:f s with
   | none=>rw [hf] at hn;cases hn
   | some z=>
     rw [hf] at hn
     have h1:=h s z hI hf
     cases z with
     | inl s'=>
       obtain ⟨h2,h3⟩:=h1
       rw [h2]
       exact ih h3 hn
     | inr b=>
       have h2:f' (φ s)=some (.inr (ψ b)):=h1
       rw [h2]
       obtain rfl:=Option.some.inj hn
       rfl
section shift
variable {α:Type} (P R:List α)
def HE (l:List α):List α:=P++l++R
theorem Aq {l:List α} {i:Int} {v:α} (h:idx l i=some v):idx (HE P R l) (i+P.length)=some v:=by
 obtain ⟨h0,h1,h2⟩:=lZ h
 unfold idx HE
 rw [if_pos (by omega),List.append_assoc,List.getElem?_append_right (by omega),List.getElem?_append_left (by omega),show (i+(P.length:Int)).toNat - P.length=i.toNat by omega,h2]
theorem Ls {l:List α} {i:Int} (h0:0≤i) (h1:i < l.length) (v:α):(HE P R l).set (i+P.length).toNat v=HE P R (l.set i.toNat v):=by
 unfold HE
 rw [List.append_assoc,List.append_assoc,List.set_append_right _ _ (by omega),List.set_append_left _ _ (by omega),show (i+(P.length:Int)).toNat - P.length=i.toNat by omega]
def shR (n4:Int) (L:Nat) (f':Option ((List α×Int)⊕((List α×Int)⊕List α))):(List α×Int)⊕((List α×Int)⊕List α)→Prop
 | .inl s=>f'=some (.inl (HE P R s.1,s.2+P.length))∧(s.1.length=L∧0≤s.2∧s.2≤L)
 | .inr (.inl s)=>f'=some (.inr (.inl (HE P R s.1,s.2+P.length)))∧(s.1.length=L∧s.2=n4+1)
 | .inr (.inr _)=>False
theorem Pf (nO:α→α→Option Int) (n4:Int) (l:List α) (n8:Int) (hl:l.length≤100000) (hP:P.length≤100000) (h4:0≤n4∧n4≤100000) (h8:0≤n8∧n8≤l.length) (z:(List α×Int)⊕((List α×Int)⊕List α)) (hz:rB 0 nO n4 l n8=some z):shR P R n4 l.length (rB P.length nO (n4+P.length) (HE P R l) (n8+P.length)) z:=by
 have j1:∀ c z,uT n4 l n8 c=some z→(c=true→0 < n8)→shR P R n4 l.length (uT (n4+P.length) (HE P R l) (n8+P.length) c) z:=by
  intro c z hz hc
  unfold uT at hz ⊢
  cases c with
  | false=>
    rw [if_neg Bool.false_ne_true] at hz
    rw [aP (by omega) (by omega)] at hz
    obtain rfl:=Option.some.inj hz
    refine ⟨?_,rfl,rfl⟩
    rw [if_neg Bool.false_ne_true,aP (by omega) (by omega),show n4+P.length+1=n4+1+(P.length:Int) by omega]
    rfl
  | true=>
    have hp:=hc rfl
    rw [if_pos rfl,aP (by omega) (by omega)] at hz
    rw [if_pos rfl,aP (by omega) (by omega),show n8+P.length - 1=n8 - 1+(P.length:Int) by omega]
    cases h1:idx l (n8 - 1) with
    | none=>rw [h1] at hz;cases hz
    | some v=>
      rw [h1] at hz
      simp only [Option.bind_some] at hz
      cases h2:idx l n8 with
      | none=>rw [h2] at hz;cases hz
      | some u=>
        rw [h2] at hz
        simp only [Option.bind_some] at hz
        obtain ⟨g0,g1,_⟩:=lZ h2
        cases h3:idx (l.set n8.toNat v) (n8 - 1) with
        | none=>rw [h3] at hz;cases hz
        | some y=>
          rw [h3] at hz
          simp only [Option.bind_some] at hz
          obtain rfl:=Option.some.inj hz
          rw [Aq P R h1]
          simp only [Option.bind_some]
          rw [Aq P R h2]
          simp only [Option.bind_some]
          rw [Ls P R g0 (by omega),Aq P R h3]
          simp only [Option.bind_some]
          rw [Ls P R (by omega) (by rw [List.length_set];omega)]
          exact ⟨rfl,by simp,by omega,by omega⟩
 unfold rB at hz ⊢
 by_cases c:0 < n8
 ·rw [if_pos c] at hz
  rw [if_pos (by omega)]
  cases h2:idx l n8 with
  | none=>rw [h2] at hz;cases hz
  | some u=>
    rw [h2] at hz
    simp only [Option.bind_some] at hz
    rw [Aq P R h2]
    simp only [Option.bind_some]
    rw [aP (by omega) (by omega)] at hz
    rw [aP (by omega) (by omega),show n8+P.length - 1=n8 - 1+(P.length:Int) by omega]
    cases h1:idx l (n8 - 1) with
    | none=>rw [h1] at hz;cases hz
    | some v=>
      rw [h1] at hz
      simp only [Option.bind_some] at hz
      rw [Aq P R h1]
      simp only [Option.bind_some]
      cases hf:nO u v with
      | none=>rw [hf] at hz;cases hz
      | some k=>
        rw [hf] at hz
        simp only [Option.bind_some] at hz ⊢
        exact j1 _ z hz (fun _=>c)
 ·rw [if_neg c] at hz
  rw [if_neg (by omega)]
  exact j1 _ z hz (fun h=>by cases h)
def okZ (L:Nat):(List α×Int)⊕List α→Prop
 | .inl s=>s.1.length=L∧0≤s.2∧s.2≤L
 | .inr _=>False
theorem FU (nO:α→α→Option Int) (cf:α→α→Int) (xs:List α) (hl:(xs.length:Int)≤100000) (hP:P.length≤100000) (hf:∀ x∈xs,∀ y∈xs,nO x y=some (cf x y)) (hO:E3 cf xs) (wF:xs≠[]):
 ∃ Z,IW (HE P R xs) P.length (P.length+xs.length) nO=some (HE P R Z)∧Z.Perm xs∧qV cf Z:=by
 obtain ⟨Z,z1,z2,z3⟩:=Q8 nO cf xs hl hf hO
 refine ⟨Z,?_,z2,z3⟩
 unfold IW wh at z1 ⊢
 rw [show aU (0+1)=1 by decide] at z1
 rw [aP (by omega) (by omega)]
 have hx:1≤xs.length:=List.length_pos_iff.2 wF
 have:=Jb (f':=fun x:(List α)×Int=>uU P.length (P.length+xs.length) nO x.1 x.2) (fun s:List α×Int=>(HE P R s.1,s.2+P.length)) (fun a:List α=>HE P R a) (fun s=>s.1.length=xs.length∧0≤s.2∧s.2≤xs.length) ?_ (s:=(xs,1)) ⟨rfl,by simp only;omega,by simp only;omega⟩ z1
 ·rw [show (1:Int)+P.length=P.length+1 by omega] at this
  exact this
 ·rintro ⟨l,i⟩ z ⟨e1,e2,e3⟩ hz
  simp only at e1 e2 e3 hz ⊢
  unfold uU at hz ⊢
  by_cases c:i < xs.length
  ·rw [if_pos c] at hz
   rw [if_pos (by omega)]
   unfold yg at hz ⊢
   have:=Jb (f':=fun x:(List α)×Int=>rB P.length nO (i+P.length) x.1 x.2) (fun s:List α×Int=>(HE P R s.1,s.2+P.length)) (fun a:(List α×Int)⊕List α=>match a with | .inl s=>.inl (HE P R s.1,s.2+P.length) | .inr l=>.inr (HE P R l)) (fun s=>s.1.length=xs.length∧0≤s.2∧s.2≤xs.length) ?_ (s:=(l,i)) ⟨e1,e2,e3⟩ hz
   ·have inv:okZ xs.length z:=by
     obtain ⟨n,hn⟩:=tu.1 hz
     have key:∀ (n:Nat) (s:List α×Int),(s.1.length=xs.length∧0≤s.2∧s.2≤xs.length)→pI (fun x:(List α)×Int=>rB 0 nO i x.1 x.2) n s=some z→okZ xs.length z:=by
      intro n
      induction n with
      | zero=>intro s _ h;cases h
      | succ n ih=>
        intro s hs h
        unfold pI at h
        cases hb:rB 0 nO i s.1 s.2 with
        | none=>rw [hb] at h;cases h
        | some y=>
          rw [hb] at h
          have h3:=Pf P R nO i s.1 s.2 (by omega) hP (by omega) (by omega) y hb
          match y,h3,h with
          | .inl (l',m),h3,h=>
            obtain ⟨_,q1,q2,q3⟩:=h3
            simp only at q1 q2 q3
            exact ih (l',m) ⟨by simp only;omega,by simp only;omega,by simp only;omega⟩ h
          | .inr (.inl (l',m)),h3,h=>
            obtain ⟨_,q1,q2⟩:=h3
            simp only at q1 q2
            obtain rfl:=Option.some.inj h
            exact ⟨by simp only;omega,by simp only;omega,by simp only;omega⟩
          | .inr (.inr _),h3,_=>exact h3.elim
     exact key n (l,i) ⟨e1,e2,e3⟩ hn
    cases z with
    | inl s=>exact ⟨this,inv⟩
    | inr _=>exact inv.elim
   ·rintro ⟨l2,i2⟩ y ⟨d1,d2,d3⟩ hy
    simp only at d1 d2 d3 hy ⊢
    have h3:=Pf P R nO i l2 i2 (by omega) hP (by omega) (by omega) y hy
    match y,h3 with
    | .inl (l',m),h3=>
      obtain ⟨q0,q1,q2,q3⟩:=h3
      simp only at q1 q2 q3
      exact ⟨q0,by simp only;omega,by simp only;omega,by simp only;omega⟩
    | .inr (.inl (l',m)),h3=>exact h3.1
    | .inr (.inr _),h3=>exact h3.elim
  ·rw [if_neg c] at hz
   rw [if_neg (by omega)]
   obtain rfl:=Option.some.inj hz
   rfl
end shift
section
variable {α:Type}
noncomputable def yk (aj:Int) (ar:Int) (aI:Int) (l3:List α) (n4:Int):Option (((List α)×Int)⊕(List α)):=
 if n4 < aI then
  (idx l3 (aU (ar+n4))).bind fun v5=>
  (idx l3 (aU (aj+n4))).bind fun v6=>
  (idx l3 (aU (aj+n4))).bind fun v7=>
  (idx (l3.set (aU (aj+n4)).toNat v5) (aU (ar+n4))).bind fun v8=>
  some (.inl ((l3.set (aU (aj+n4)).toNat v5).set (aU (ar+n4)).toNat v6,aU (n4+(1:Int))))
 else
  Option.map .inr (some l3)
noncomputable def Ru (l:List α) (a b n:Int):Option (List α):=iter (fun x:(List α)×Int=>yk a b n x.1 x.2) (l,(0:Int))
noncomputable def Lt (ar:Int) (l4:List α) (n5:Int):Option (List α):=
 (dm l4.length (fun r:(List α)=>r.length) (Ru l4 (aU (ar - n5)) ar n5)).bind fun v12=>
 some v12
noncomputable def G8 (ar:Int) (l4:List α) (n5:Int) (n6:Int):Option (((List α)×Int×Int)⊕(List α)):=
 if n5≠n6 then
  if n6 < n5 then
   (dm l4.length (fun r:(List α)=>r.length) (Ru l4 (aU (ar - n5)) ar n6)).bind fun v10=>
   some (.inl (v10,aU (n5 - n6),n6))
  else
   (dm l4.length (fun r:(List α)=>r.length) (Ru l4 (aU (ar - n5)) (aU ((aU (ar+n6)) - n5)) n5)).bind fun v11=>
   some (.inl (v11,n5,aU (n6 - n5)))
 else
  Option.map .inr (Lt ar l4 n5)
noncomputable def G9 (ar:Int) (l4:List α) (n5:Int) (n6:Int):Option (List α):=
 iter (fun x:(List α)×Int×Int=>G8 ar x.1 x.2.1 x.2.2) (l4,n5,n6)
noncomputable def Ug (aa:List α) (aj:Int) (ar:Int) (aI:Int):Option (List α):=
 G9 ar aa (aU (ar - aj)) (aU (aI - ar))
def P9 (a b n t:Nat):Nat:=if a≤t∧t < a+n then t+(b - a) else if b≤t∧t < b+n then t - (b - a) else t
def Xa (a m b t:Nat):Nat:=if a≤t∧t < a+(b - m) then t+(m - a) else if a+(b - m)≤t∧t < b then t - (b - m) else t
theorem Kp {l:List α} {i:Nat} (h:i < l.length):∃ v,idx l (i:Int)=some v∧l[i]? =some v:=by
 refine ⟨l[i],?_,List.getElem?_eq_getElem h⟩
 unfold idx
 rw [if_pos (by omega),Int.toNat_natCast,List.getElem?_eq_getElem h]
theorem Kq (l:List α) (a b n:Nat) (hl:l.length≤1000000) (h1:a+n≤b) (h2:b+n≤l.length):∃ r,Ru l a b n=some r∧r.length=l.length∧∀ t:Nat,r[t]? =l[P9 a b n t]?:=by
 have key:∀ (m k:Nat) (L:List α),k+m=n→L.length=l.length→(∀ t:Nat,L[t]? =l[P9 a b k t]?)→∃ r,iter (fun x:(List α)×Int=>yk a b n x.1 x.2) (L,(k:Int))=some r∧r.length=l.length∧∀ t:Nat,r[t]? =l[P9 a b n t]?:=by
  intro m
  induction m with
  | zero=>
    intro k L hk hL hp
    refine ⟨L,?_,hL,fun t=>by rw [hp t,show k=n by omega]⟩
    rw [iter_eq]
    show (yk a b n L k).bind _=_
    unfold yk
    rw [if_neg (by omega)]
    rfl
  | succ m ih=>
    intro k L hk hL hp
    obtain ⟨x,x1,x2⟩:=Kp (l:=L) (i:=a+k) (by omega)
    obtain ⟨y,y1,y2⟩:=Kp (l:=L) (i:=b+k) (by omega)
    obtain ⟨z,z1,z2⟩:=Kp (l:=L.set (a+k) y) (i:=b+k) (by rw [List.length_set];omega)
    have:=ih (k+1) ((L.set (a+k) y).set (b+k) x) (by omega) (by rw [List.length_set,List.length_set];exact hL) (fun t=>by
     rw [List.getElem?_set,List.getElem?_set,List.length_set]
     by_cases c1:b+k=t
     ·rw [if_pos c1,if_pos (by omega),← x2,hp (a+k)]
      congr 1
      unfold P9
      rw [if_neg (by omega),if_neg (by omega),if_neg (by omega),if_pos (by omega)]
      omega
     ·rw [if_neg c1]
      by_cases c2:a+k=t
      ·rw [if_pos c2,if_pos (by omega),← y2,hp (b+k)]
       congr 1
       unfold P9
       rw [if_neg (by omega),if_neg (by omega),if_pos (by omega)]
       omega
      ·rw [if_neg c2,hp t]
       congr 1
       unfold P9
       repeat' split
       all_goals omega)
    rw [iter_eq]
    show ∃ r,(yk a b n L k).bind _=some r∧_
    unfold yk
    rw [if_pos (by omega),aP (x:=(b:Int)+k) (by omega) (by omega),aP (x:=(a:Int)+k) (by omega) (by omega),aP (x:=(k:Int)+1) (by omega) (by omega)]
    rw [show (b:Int)+k=((b+k:Nat):Int) by omega,show (a:Int)+k=((a+k:Nat):Int) by omega,x1,y1]
    simp only [Option.bind_some,Int.toNat_natCast]
    rw [z1]
    simp only [Option.bind_some,cS]
    rw [show (k:Int)+1=((k+1:Nat):Int) by omega]
    exact this
 exact key n 0 l (by omega) rfl (fun t=>by
  congr 1
  unfold P9
  rw [if_neg (by omega),if_neg (by omega)])
theorem Pg:∀ (fuel i j:Nat) (L:List α) (m:Nat),i+j≤fuel→1≤i→1≤j→i≤m→m+j≤L.length→L.length≤1000000→∃ r,G9 m L i j=some r∧r.length=L.length∧∀ t:Nat,r[t]? =L[Xa (m - i) m (m+j) t]?:=by
 intro fuel
 induction fuel with
 | zero=>intro i j L m h h1 h2;omega
 | succ fuel ih=>
   intro i j L m hf hi hj Ff hjm hl
   unfold G9
   rw [iter_eq]
   show ∃ r,(G8 m L i j).bind _=some r∧_
   unfold G8
   by_cases c:i=j
   ·subst c
    rw [if_neg (fun h=>h rfl)]
    unfold Lt
    obtain ⟨r,r1,r2,r3⟩:=Kq L (m - i) m i hl (by omega) (by omega)
    rw [aP (by omega) (by omega),show (m:Int) - i=((m - i:Nat):Int) by omega,mD r1 r2]
    refine ⟨r,rfl,r2,fun t=>?_⟩
    rw [r3 t]
    congr 1
    unfold P9 Xa
    repeat' split
    all_goals omega
   ·rw [if_pos (by omega)]
    by_cases d:j < i
    ·rw [if_pos (by omega)]
     obtain ⟨r,r1,r2,r3⟩:=Kq L (m - i) m j hl (by omega) (by omega)
     obtain ⟨s,s1,s2,s3⟩:=ih (i - j) j r m (by omega) (by omega) hj (by omega) (by omega) (by omega)
     rw [aP (x:=(m:Int) - i) (by omega) (by omega),show (m:Int) - i=((m - i:Nat):Int) by omega,mD r1 r2]
     simp only [Option.bind_some,cS]
     rw [aP (by omega) (by omega),show (i:Int) - j=((i - j:Nat):Int) by omega]
     refine ⟨s,s1,by omega,fun t=>?_⟩
     rw [s3 t,r3]
     congr 1
     unfold P9 Xa
     repeat' split
     all_goals omega
    ·rw [if_neg (by omega)]
     obtain ⟨r,r1,r2,r3⟩:=Kq L (m - i) (m+j - i) i hl (by omega) (by omega)
     obtain ⟨s,s1,s2,s3⟩:=ih i (j - i) r m (by omega) hi (by omega) Ff (by omega) (by omega)
     rw [aP (x:=(m:Int) - i) (by omega) (by omega),aP (x:=(m:Int)+j) (by omega) (by omega),aP (x:=(m:Int)+j - i) (by omega) (by omega),show (m:Int) - i=((m - i:Nat):Int) by omega,show (m:Int)+j - i=((m+j - i:Nat):Int) by omega,mD r1 r2]
     simp only [Option.bind_some,cS]
     rw [aP (by omega) (by omega),show (j:Int) - i=((j - i:Nat):Int) by omega]
     refine ⟨s,s1,by omega,fun t=>?_⟩
     rw [s3 t,r3]
     congr 1
     unfold P9 Xa
     repeat' split
     all_goals omega
theorem Uh (P X Y R:List α) (hX:X≠[]) (hY:Y≠[]) (hl:(P++X++Y++R).length≤1000000):Ug (P++X++Y++R) P.length ((P.length+X.length:Nat):Int) ((P.length+X.length+Y.length:Nat):Int)=some (P++Y++X++R):=by
 have h1:=List.length_pos_iff.2 hX
 have h2:=List.length_pos_iff.2 hY
 simp only [List.length_append] at hl
 obtain ⟨r,r1,r2,r3⟩:=Pg (X.length+Y.length) X.length Y.length (P++X++Y++R) (P.length+X.length) (Nat.le_refl _) h1 h2 (by omega) (by simp only [List.length_append];omega) (by simp only [List.length_append];omega)
 unfold Ug
 rw [aP (by omega) (by omega),aP (by omega) (by omega),show ((P.length+X.length:Nat):Int) - P.length=X.length by omega,show ((P.length+X.length+Y.length:Nat):Int) - ((P.length+X.length:Nat):Int)=Y.length by omega,r1]
 congr 1
 apply List.ext_getElem?
 intro t
 rw [r3 t,show P.length+X.length - X.length=P.length by omega]
 unfold Xa
 rw [show P.length+X.length+Y.length - (P.length+X.length)=Y.length by omega,show P.length+X.length - P.length=X.length by omega]
 have e1:∀ u,(P++X++Y++R)[u]? =if u < P.length then P[u]? else if u < P.length+X.length then X[u - P.length]? else if u < P.length+X.length+Y.length then Y[u - (P.length+X.length)]? else R[u - (P.length+X.length+Y.length)]?:=fun u=>by
  rw [List.getElem?_append,List.getElem?_append,List.getElem?_append]
  simp only [List.length_append]
  repeat' split
  all_goals first | rfl | (exfalso;omega)
 have e2:∀ u,(P++Y++X++R)[u]? =if u < P.length then P[u]? else if u < P.length+Y.length then Y[u - P.length]? else if u < P.length+Y.length+X.length then X[u - (P.length+Y.length)]? else R[u - (P.length+Y.length+X.length)]?:=fun u=>by
  rw [List.getElem?_append,List.getElem?_append,List.getElem?_append]
  simp only [List.length_append]
  repeat' split
  all_goals first | rfl | (exfalso;omega)
 rw [e2]
 by_cases c1:t < P.length
 ·rw [if_neg (show ¬ (P.length≤t∧t < P.length+Y.length) by omega),if_neg (show ¬ (P.length+Y.length≤t∧t < P.length+X.length+Y.length) by omega),e1,if_pos c1,if_pos c1]
 rw [if_neg c1]
 by_cases c2:t < P.length+Y.length
 ·rw [if_pos (show P.length≤t∧t < P.length+Y.length by omega),e1,if_neg (by omega),if_neg (by omega),if_pos (by omega),if_pos c2]
  congr 1;omega
 rw [if_neg c2,if_neg (show ¬ (P.length≤t∧t < P.length+Y.length) by omega)]
 by_cases c3:t < P.length+Y.length+X.length
 ·rw [if_pos (show P.length+Y.length≤t∧t < P.length+X.length+Y.length by omega),e1,if_neg (by omega),if_pos (by omega),if_pos c3]
  congr 1;omega
 ·rw [if_neg c3,if_neg (show ¬ (P.length+Y.length≤t∧t < P.length+X.length+Y.length) by omega),e1,if_neg (by omega),if_neg (by omega),if_neg (by omega)]
  congr 1;omega
end
section
variable {α:Type}
noncomputable def Ar (n3:Int) (jI:List α) (n13:Int):Option (((List α)×Int)⊕(List α)):=
 if n13 < (aU (n3 - (1:Int))) then
  (idx jI (aU (n13+(1:Int)))).bind fun nz=>
  (idx jI n13).bind fun mM=>
  (idx jI n13).bind fun gx=>
  (idx (jI.set n13.toNat nz) (aU (n13+(1:Int)))).bind fun v17=>
  some (.inl ((jI.set n13.toNat nz).set (aU (n13+(1:Int))).toNat mM,aU (n13+(1:Int))))
 else
  Option.map .inr (some jI)
noncomputable def C6 (n3:Int) (jI:List α) (n13:Int):Option (List α):=
 iter (fun x:(List α)×Int=>Ar n3 x.1 x.2) (jI,n13)
noncomputable def As (aa:List α) (aj:Int) (iA:α→α→Option Int) (n3:Int) (n4:Int):Option ((Int×Int)⊕(List α)):=
 if n3 < n4 then
  (idx aa (aU (fS .u64 (IntKind.u64.wrap (aU (n3+n4))) (1:Int)))).bind fun v5=>
  (idx aa aj).bind fun v6=>
  (iA v5 v6).bind fun v7=>
  if v7 < (0:Int) then
   some (.inl (aU ((aU (fS .u64 (IntKind.u64.wrap (aU (n3+n4))) (1:Int)))+(1:Int)),n4))
  else
   some (.inl (n3,aU (fS .u64 (IntKind.u64.wrap (aU (n3+n4))) (1:Int))))
 else
  Option.map .inr (C6 n3 aa aj)
noncomputable def wx (aa:List α) (aj:Int) (iA:α→α→Option Int) (n3:Int) (n4:Int):Option (List α):=
 iter (fun x:Int×Int=>As aa aj iA x.1 x.2) (n3,n4)
noncomputable def Au (n20:Int) (vb:List α) (n30:Int):Option (((List α)×Int)⊕(List α)):=
 if n20 < n30 then
  (idx vb (aU (n30 - (1:Int)))).bind fun v31=>
  (idx vb n30).bind fun v32=>
  (idx vb n30).bind fun v33=>
  (idx (vb.set n30.toNat v31) (aU (n30 - (1:Int)))).bind fun vm=>
  some (.inl ((vb.set n30.toNat v31).set (aU (n30 - (1:Int))).toNat v32,aU (n30 - (1:Int))))
 else
  Option.map .inr (some vb)
noncomputable def Av (n20:Int) (vb:List α) (n30:Int):Option (List α):=
 iter (fun x:(List α)×Int=>Au n20 x.1 x.2) (vb,n30)
noncomputable def Aw (aa:List α) (ar:Int) (iA:α→α→Option Int) (n20:Int) (n21:Int):Option ((Int×Int)⊕(List α)):=
 if n20 < n21 then
  (idx aa ar).bind fun v22=>
  (idx aa (aU (fS .u64 (IntKind.u64.wrap (aU (n20+n21))) (1:Int)))).bind fun v23=>
  (iA v22 v23).bind fun v24=>
  if ¬ (v24 < (0:Int)) then
   some (.inl (aU ((aU (fS .u64 (IntKind.u64.wrap (aU (n20+n21))) (1:Int)))+(1:Int)),n21))
  else
   some (.inl (n20,aU (fS .u64 (IntKind.u64.wrap (aU (n20+n21))) (1:Int))))
 else
  Option.map .inr (Av n20 aa ar)
noncomputable def wy (aa:List α) (ar:Int) (iA:α→α→Option Int) (n20:Int) (n21:Int):Option (List α):=
 iter (fun x:Int×Int=>Aw aa ar iA x.1 x.2) (n20,n21)
theorem Jc {S A:Type} {f:S→Option (S⊕A)} {s s':S} (h:f s=some (.inl s')):Eng.iter f s=Eng.iter f s':=by
 rw [iter_eq,h];rfl
theorem vj {S A:Type} {f:S→Option (S⊕A)} {s:S} {o:Option A} (h:f s=Option.map .inr o):Eng.iter f s=o:=by
 rw [iter_eq,h,bL]
theorem aa5 {x:Int} (h0:0≤x) (h1:x < 18446744073709551616):IntKind.u64.wrap x=x:=by
 show x % (2 ^ 64:Int)=x
 exact Int.emod_eq_of_lt h0 (by omega)
theorem Ax {i j:Nat} (h:i+j≤4000000):aU (fS .u64 (IntKind.u64.wrap (aU ((i:Int)+j))) 1)=(((i+j) / 2:Nat):Int):=by
 have e1:aU ((i:Int)+j)=(i:Int)+j:=by rw [aP]<;>omega
 have e2:IntKind.u64.wrap ((i:Int)+j)=(i:Int)+j:=aa5 (by omega) (by omega)
 rw [e1,e2]
 have e3:fS .u64 ((i:Int)+j) 1=((i:Int)+j) / 2:=by
  show ((i:Int)+j).fdiv 2=_
  rw [Int.fdiv_eq_ediv_of_nonneg _ (by omega)]
 rw [e3,aP]<;>omega
theorem Xb (P:List α) (x y:α) (T:List α):((P++x :: y :: T).set P.length y).set (P.length+1) x=P++y :: x :: T:=by
 induction P with
 | nil=>rfl
 | cons p P ih=>simp only [List.cons_append,List.length_cons,List.set_cons_succ,ih]
theorem Ph:∀ (Y P R:List α) (x:α),(P++x :: (Y++R)).length≤1000000→C6 ((P.length+Y.length+1:Nat):Int) (P++x :: (Y++R)) P.length=some (P++(Y++x :: R))
 | [],P,R,x,hl=>by
   simp only [List.length_append,List.length_cons,List.length_nil] at hl
   unfold C6
   refine vj (o:=some _) ?_
   show Ar ((P.length+([]:List α).length+1:Nat):Int) (P++x :: ([]++R)) P.length=_
   unfold Ar
   rw [List.length_nil,aP (by omega) (by omega),if_neg (by omega)]
   rfl
 | y :: Y,P,R,x,hl=>by
   have ih:=Ph Y (P++[y]) R x (by simp only [List.length_append,List.length_cons,List.length_nil] at hl ⊢;omega)
   simp only [List.length_append,List.length_cons] at hl
   have Dh:(y :: Y).length=Y.length+1:=rfl
   have i0:idx (P++x :: (y :: Y++R)) P.length=some x:=lg P x _ rfl
   have i1:idx (P++x :: (y :: Y++R)) ((P.length:Int)+1)=some y:=by
    have:=lg (P++[x]) y (Y++R) (i:=(P.length:Int)+1) (by simp)
    simpa using this
   obtain ⟨z,z1,_⟩:=Kp (l:=(P++x :: (y :: Y++R)).set (P.length:Int).toNat y) (i:=P.length+1) (by simp)
   have e1:P++y :: x :: (Y++R)=(P++[y])++x :: (Y++R):=by simp
   have e2:((P.length+(y :: Y).length+1:Nat):Int)=(((P++[y]).length+Y.length+1:Nat):Int):=by simp;omega
   have e3:((P.length+1:Nat):Int)=((P++[y]).length:Int):=by simp
   refine Eq.trans (Jc (s':=((P++[y])++x :: (Y++R),((P++[y]).length:Int))) ?_) ?_
   ·show Ar _ (P++x :: (y :: Y++R)) P.length=_
    unfold Ar
    rw [Dh,aP (by omega) (by omega),if_pos (by omega),aP (by omega) (by omega),i1]
    simp only [Option.bind_some]
    rw [i0]
    simp only [Option.bind_some]
    rw [show (P.length:Int)+1=((P.length+1:Nat):Int) by omega,z1]
    simp only [Option.bind_some,Int.toNat_natCast]
    rw [show (P++x :: (y :: Y++R))=P++x :: y :: (Y++R) from rfl,Xb,e1,e3]
   ·rw [e2]
    refine Eq.trans ih ?_
    simp
theorem Ui:∀ (k:Nat) (Y P R:List α) (y:α),Y.length=k→(P++(Y++y :: R)).length≤1000000→Av P.length (P++(Y++y :: R)) ((P.length+Y.length:Nat):Int)=some (P++y :: (Y++R)):=by
 intro k
 induction k with
 | zero=>
   intro Y P R y hY hl
   obtain rfl:=List.eq_nil_of_length_eq_zero hY
   unfold Av
   refine vj (o:=some _) ?_
   show Au P.length (P++([]++y :: R)) ((P.length+([]:List α).length:Nat):Int)=_
   unfold Au
   rw [List.length_nil,if_neg (by omega)]
   rfl
 | succ k ih=>
   intro Y P R y hY hl
   obtain ⟨Z,x,rfl⟩:∃ Z x,Y=Z++[x]:=⟨Y.dropLast,Y.getLast (fun e=>by rw [e] at hY;cases hY),(List.dropLast_concat_getLast _).symm⟩
   have hZ:Z.length=k:=by simpa using hY
   have MG:=ih Z P (x :: R) y hZ (by simp only [List.length_append,List.length_cons,List.length_nil] at hl ⊢;omega)
   simp only [List.length_append,List.length_cons,List.length_nil] at hl
   have eD:P++(Z++[x]++y :: R)=(P++Z)++x :: y :: R:=by simp
   have e0:((P.length+(Z++[x]).length:Nat):Int) - 1=(((P++Z).length:Nat):Int):=by simp;omega
   have e1:((P.length+(Z++[x]).length:Nat):Int)=(((P++Z).length+1:Nat):Int):=by simp;omega
   have hPZ:(P++Z).length=P.length+Z.length:=List.length_append
   have i0:idx ((P++Z)++x :: y :: R) ((P++Z).length:Int)=some x:=lg (P++Z) x _ rfl
   have i1:idx ((P++Z)++x :: y :: R) (((P++Z).length+1:Nat):Int)=some y:=by
    have:=lg ((P++Z)++[x]) y R (i:=(((P++Z).length+1:Nat):Int)) (by simp;omega)
    simpa using this
   obtain ⟨z,z1,_⟩:=Kp (l:=((P++Z)++x :: y :: R).set ((P++Z).length+1) x) (i:=(P++Z).length) (by rw [List.length_set,List.length_append];simp)
   have es:(((P++Z)++x :: y :: R).set ((P++Z).length+1) x).set (P++Z).length y=(P++Z)++y :: x :: R:=IX (P++Z) y x R
   have e2:(P++Z)++y :: x :: R=P++(Z++y :: x :: R):=by simp
   have e3:(((P++Z).length:Nat):Int)=((P.length+Z.length:Nat):Int):=by simp
   rw [eD,e1]
   unfold Av at MG ⊢
   refine Eq.trans (Jc (s':=(P++(Z++y :: x :: R),((P.length+Z.length:Nat):Int))) ?_) ?_
   ·show Au P.length ((P++Z)++x :: y :: R) (((P++Z).length+1:Nat):Int)=_
    unfold Au
    rw [if_pos (by omega),aP (by omega) (by omega),show (((P++Z).length+1:Nat):Int) - 1=((P++Z).length:Int) by omega,i0]
    simp only [Option.bind_some]
    rw [i1]
    simp only [Option.bind_some,Int.toNat_natCast]
    rw [z1]
    simp only [Option.bind_some]
    rw [es,e2,e3]
   ·refine Eq.trans MG ?_
    simp
theorem Pj (P S T R:List α) {i:Nat} (h:i < S.length):idx (P++S++T++R) ((P.length+i:Nat):Int)=some S[i]:=by
 unfold idx
 rw [if_pos (by omega),Int.toNat_natCast,List.append_assoc,List.append_assoc,List.getElem?_append_right (by omega),List.getElem?_append_left (by omega),show P.length+i - P.length=i by omega,List.getElem?_eq_getElem h]
theorem Pk (P S T R:List α) {i:Nat} (h:i < T.length):idx (P++S++T++R) ((P.length+S.length+i:Nat):Int)=some T[i]:=by
 unfold idx
 rw [if_pos (by omega),Int.toNat_natCast,List.append_assoc,List.append_assoc,List.getElem?_append_right (by omega),List.getElem?_append_right (by omega),List.getElem?_append_left (by omega),show P.length+S.length+i - P.length - S.length=i by omega,List.getElem?_eq_getElem h]
variable {c:α→α→Int}
theorem Uj (hc:nL c) {a b d:α} (h1:¬ c b a < 0) (h2:¬ c d b < 0):¬ c d a < 0:=(hc.ord [a,b,d]).Yd d (by simp) b (by simp) a (by simp) h2 h1
theorem ltT (hc:nL c) {a b d:α} (h1:¬ c b a < 0) (h2:c b d < 0):c a d < 0:=Classical.byContradiction fun h=>Uj hc h h1 h2
theorem aa6 (hc:nL c) {a b d:α} (h1:c a b < 0) (h2:¬ c d b < 0):c a d < 0:=Classical.byContradiction fun h=>Uj hc h2 h h1
theorem Pl (hc:nL c) {a b:α} (h:c a b < 0):¬ c b a < 0:=by have:=hc.neg a b;omega
theorem uX {S:List α} (h:qV c S) {i j:Nat} (hi:i < S.length) (hj:j < S.length) (BI:i≤j):i=j∨¬ c S[j] S[i] < 0:=by
 by_cases e:i=j
 ·exact .inl e
 ·exact .inr (List.pairwise_iff_getElem.1 h i j hi hj (by omega))
theorem ti {S:List α} {k:Nat} {x:α} (h:x∈S.take k):∃ i,∃ hi:i < S.length,i < k∧S[i]=x:=by
 obtain ⟨i,hi,rfl⟩:=List.getElem_of_mem h
 have Qg:i < k∧i < S.length:=by rw [List.length_take] at hi;omega
 exact ⟨i,Qg.2,Qg.1,by rw [List.getElem_take]⟩
theorem tj {S:List α} {k:Nat} {x:α} (h:x∈S.drop k):∃ i,∃ hi:i < S.length,k≤i∧S[i]=x:=by
 obtain ⟨i,hi,rfl⟩:=List.getElem_of_mem h
 have Qg:k+i < S.length:=by rw [List.length_drop] at hi;omega
 exact ⟨k+i,Qg,by omega,by rw [List.getElem_drop]⟩
variable (hc:nL c) (f:α→α→Option Int) (hf:∀ a b,f a b=some (c a b))
include hc hf
theorem Rv (P T R:List α) (x:α) (hT:qV c T) (hl:(P++[x]++T++R).length≤1000000):∃ U,wx (P++[x]++T++R) P.length f ((P.length+1:Nat):Int) ((P.length+1+T.length:Nat):Int)=some (P++U++R)∧U.Perm ([x]++T)∧qV c U:=by
 have x5:P.length+1+T.length+R.length≤1000000:=by simp only [List.length_append,List.length_cons,List.length_nil] at hl;omega
 have key:∀ (fuel i j:Nat),j - i≤fuel→i≤j→j≤T.length→(∀ t∈T.take i,c t x < 0)→(∀ t∈T.drop j,¬ c t x < 0)→∃ h,h≤T.length∧(∀ t∈T.take h,c t x < 0)∧(∀ t∈T.drop h,¬ c t x < 0)∧
  wx (P++[x]++T++R) P.length f ((P.length+1+i:Nat):Int) ((P.length+1+j:Nat):Int)=C6 ((P.length+1+h:Nat):Int) (P++[x]++T++R) P.length:=by
  intro fuel
  induction fuel with
  | zero=>
    intro i j Uf BI hj h1 h2
    have:i=j:=by omega
    subst this
    refine ⟨i,hj,h1,h2,?_⟩
    unfold wx
    refine vj ?_
    unfold As
    rw [if_neg (by simp only;omega)]
  | succ fuel ih=>
    intro i j Uf BI hj h1 h2
    by_cases e:i=j
    ·subst e
     refine ⟨i,hj,h1,h2,?_⟩
     unfold wx
     refine vj ?_
     unfold As
     rw [if_neg (by simp only;omega)]
    ·obtain ⟨q,hq⟩:∃ q,q=(i+j) / 2:=⟨_,rfl⟩
     have Tq:i≤q∧q < j:=by omega
     have SE:q < T.length:=by omega
     have hh:((P.length+1+i+(P.length+1+j)) / 2:Nat)=P.length+1+q:=by omega
     have i1:idx (P++[x]++T++R) ((P.length+1+q:Nat):Int)=some T[q]:=Pk P [x] T R SE
     have i2:idx (P++[x]++T++R) (P.length:Int)=some x:=Pj P [x] T R (i:=0) (by simp)
     have step:As (P++[x]++T++R) P.length f ((P.length+1+i:Nat):Int) ((P.length+1+j:Nat):Int)=some (.inl (if c T[q] x < 0 then (((P.length+1+(q+1):Nat):Int),((P.length+1+j:Nat):Int)) else (((P.length+1+i:Nat):Int),((P.length+1+q:Nat):Int)))):=by
      unfold As
      rw [if_pos (by omega),Ax (by omega),hh,i1]
      simp only [Option.bind_some]
      rw [i2]
      simp only [Option.bind_some]
      rw [hf]
      simp only [Option.bind_some]
      rw [aP (by omega) (by omega)]
      split
      ·rfl
      ·rfl
     by_cases d:c T[q] x < 0
     ·obtain ⟨h,a1,a2,a3,a4⟩:=ih (q+1) j (by omega) (by omega) hj (fun t ht=>by
       obtain ⟨u,hu,Ye,rfl⟩:=ti ht
       rcases uX hT hu SE (by omega) with g | g
       ·subst g;exact d
       ·exact ltT hc g d) h2
      refine ⟨h,a1,a2,a3,?_⟩
      rw [← a4]
      unfold wx
      refine Jc ?_
      rw [if_pos d] at step
      exact step
     ·obtain ⟨h,a1,a2,a3,a4⟩:=ih i q (by omega) (by omega) (by omega) h1 (fun t ht=>by
       obtain ⟨u,hu,Ye,rfl⟩:=tj ht
       rcases uX hT SE hu (by omega) with g | g
       ·subst g;exact d
       ·exact fun z=>d (ltT hc g z))
      refine ⟨h,a1,a2,a3,?_⟩
      rw [← a4]
      unfold wx
      refine Jc ?_
      rw [if_neg d] at step
      exact step
 obtain ⟨h,a1,a2,a3,a4⟩:=key T.length 0 T.length (by omega) (by omega) (Nat.le_refl _) (by simp) (by simp)
 refine ⟨T.take h++x :: T.drop h,?_,?_,?_⟩
 ·rw [show ((P.length+1:Nat):Int)=((P.length+1+0:Nat):Int) from rfl,a4]
  have e:P++[x]++T++R=P++x :: (T.take h++(T.drop h++R)):=by
   rw [← List.append_assoc (T.take h),List.take_append_drop];simp
  have Ym:(T.take h).length=h:=by rw [List.length_take];omega
  have:=Ph (T.take h) P (T.drop h++R) x (by rw [← e];exact hl)
  rw [Ym] at this
  rw [e,show P.length+1+h=P.length+h+1 by omega,this]
  simp
 ·have h1:=List.perm_middle (a:=x) (l₁:=T.take h) (l₂:=T.drop h)
  rw [List.take_append_drop] at h1
  exact h1
 ·unfold qV
  rw [List.pairwise_append,List.pairwise_cons]
  have Xc:=hT
  unfold qV at Xc
  rw [← List.take_append_drop h T,List.pairwise_append] at Xc
  refine ⟨Xc.1,⟨a3,Xc.2.1⟩,fun u hu v hv=>?_⟩
  rcases List.mem_cons.1 hv with rfl | hv
  ·exact Pl hc (a2 u hu)
  ·exact Xc.2.2 u hu v hv
theorem Rw (P S R:List α) (y:α) (hS:qV c S) (hl:(P++S++[y]++R).length≤1000000):∃ U,wy (P++S++[y]++R) ((P.length+S.length:Nat):Int) f P.length ((P.length+S.length:Nat):Int)=some (P++U++R)∧U.Perm (S++[y])∧qV c U:=by
 have x5:P.length+S.length+1+R.length≤1000000:=by simp only [List.length_append,List.length_cons,List.length_nil] at hl;omega
 have key:∀ (fuel i j:Nat),j - i≤fuel→i≤j→j≤S.length→(∀ t∈S.take i,¬ c y t < 0)→(∀ t∈S.drop j,c y t < 0)→∃ h,h≤S.length∧(∀ t∈S.take h,¬ c y t < 0)∧(∀ t∈S.drop h,c y t < 0)∧
  wy (P++S++[y]++R) ((P.length+S.length:Nat):Int) f ((P.length+i:Nat):Int) ((P.length+j:Nat):Int)=Av ((P.length+h:Nat):Int) (P++S++[y]++R) ((P.length+S.length:Nat):Int):=by
  intro fuel
  induction fuel with
  | zero=>
    intro i j Uf BI hj h1 h2
    have:i=j:=by omega
    subst this
    refine ⟨i,hj,h1,h2,?_⟩
    unfold wy
    refine vj ?_
    unfold Aw
    rw [if_neg (by simp only;omega)]
  | succ fuel ih=>
    intro i j Uf BI hj h1 h2
    by_cases e:i=j
    ·subst e
     refine ⟨i,hj,h1,h2,?_⟩
     unfold wy
     refine vj ?_
     unfold Aw
     rw [if_neg (by simp only;omega)]
    ·obtain ⟨q,hq⟩:∃ q,q=(i+j) / 2:=⟨_,rfl⟩
     have Tq:i≤q∧q < j:=by omega
     have SF:q < S.length:=by omega
     have hh:((P.length+i+(P.length+j)) / 2:Nat)=P.length+q:=by omega
     have i1:idx (P++S++[y]++R) ((P.length+q:Nat):Int)=some S[q]:=Pj P S [y] R SF
     have i2:idx (P++S++[y]++R) ((P.length+S.length:Nat):Int)=some y:=Pk P S [y] R (i:=0) (by simp)
     have step:Aw (P++S++[y]++R) ((P.length+S.length:Nat):Int) f ((P.length+i:Nat):Int) ((P.length+j:Nat):Int)=some (.inl (if ¬ c y S[q] < 0 then (((P.length+(q+1):Nat):Int),((P.length+j:Nat):Int)) else (((P.length+i:Nat):Int),((P.length+q:Nat):Int)))):=by
      unfold Aw
      rw [if_pos (by omega),i2]
      simp only [Option.bind_some]
      rw [Ax (by omega),hh,i1]
      simp only [Option.bind_some]
      rw [hf]
      simp only [Option.bind_some]
      rw [aP (by omega) (by omega)]
      split
      ·rfl
      ·rfl
     by_cases d:¬ c y S[q] < 0
     ·obtain ⟨h,a1,a2,a3,a4⟩:=ih (q+1) j (by omega) (by omega) hj (fun t ht=>by
       obtain ⟨u,hu,Ye,rfl⟩:=ti ht
       rcases uX hS hu SF (by omega) with g | g
       ·subst g;exact d
       ·exact Uj hc g d) h2
      refine ⟨h,a1,a2,a3,?_⟩
      rw [← a4]
      unfold wy
      refine Jc ?_
      rw [if_pos d] at step
      exact step
     ·obtain ⟨h,a1,a2,a3,a4⟩:=ih i q (by omega) (by omega) (by omega) h1 (fun t ht=>by
       obtain ⟨u,hu,Ye,rfl⟩:=tj ht
       have d':=Decidable.not_not.1 d
       rcases uX hS SF hu (by omega) with g | g
       ·subst g;exact d'
       ·exact aa6 hc d' g)
      refine ⟨h,a1,a2,a3,?_⟩
      rw [← a4]
      unfold wy
      refine Jc ?_
      rw [if_neg d] at step
      exact step
 obtain ⟨h,a1,a2,a3,a4⟩:=key S.length 0 S.length (by omega) (by omega) (Nat.le_refl _) (by simp) (by simp)
 refine ⟨S.take h++y :: S.drop h,?_,?_,?_⟩
 ·rw [show (P.length:Int)=((P.length+0:Nat):Int) from rfl,a4]
  have e:P++S++[y]++R=(P++S.take h)++(S.drop h++y :: R):=by
   rw [List.append_assoc P (S.take h),← List.append_assoc (S.take h),List.take_append_drop];simp
  have Ym:(S.take h).length=h:=by rw [List.length_take];omega
  have hdh:(S.drop h).length=S.length - h:=by rw [List.length_drop]
  have:=Ui (S.drop h).length (S.drop h) (P++S.take h) R y rfl (by rw [← e];exact hl)
  rw [e]
  have e5:((P++S.take h).length:Int)=((P.length+h:Nat):Int):=by rw [List.length_append,Ym]
  have e6:(((P++S.take h).length+(S.drop h).length:Nat):Int)=((P.length+S.length:Nat):Int):=by rw [List.length_append,Ym,hdh];omega
  rw [e5,e6] at this
  rw [this]
  simp
 ·have h1:=List.perm_middle (a:=y) (l₁:=S.take h) (l₂:=S.drop h)
  rw [List.take_append_drop] at h1
  exact h1.trans (List.perm_append_singleton y S).symm
 ·unfold qV
  rw [List.pairwise_append,List.pairwise_cons]
  have Xd:=hS
  unfold qV at Xd
  rw [← List.take_append_drop h S,List.pairwise_append] at Xd
  refine ⟨Xd.1,⟨fun u hu=>Pl hc (a3 u hu),Xd.2.1⟩,fun u hu v hv=>?_⟩
  rcases List.mem_cons.1 hv with rfl | hv
  ·exact a2 u hu
  ·exact Xd.2.2 u hu v hv
end
section
variable {α:Type}
abbrev ux (a b:Int):Int:=aU (fS .u64 (IntKind.u64.wrap (aU (a+b))) (1:Int))
abbrev yT (α:Type):=(List α)→Int→Int→Int→(α→α→Option Int)→Option (List α)
noncomputable def Lu (self:yT α) (aj:Int) (ar:Int) (aI:Int) (iA:α→α→Option Int) (n39:Int) (BV:List α) (TJ:Bool):Option (List α):=
 if TJ=true then
  (dm BV.length (fun r:(List α)=>r.length) (self BV (ux aj aI) (aU ((aU ((ux aj aI)+ar)) - n39)) aI iA)).bind fun v54=>
  some v54
 else
  some BV
noncomputable def yl (self:yT α) (aj:Int) (ar:Int) (aI:Int) (iA:α→α→Option Int) (n39:Int) (BV:List α):Option (List α):=
 Lu self aj ar aI iA n39 BV ((decide ((ux aj aI) < (aU ((aU ((ux aj aI)+ar)) - n39))))&&(decide ((aU ((aU ((ux aj aI)+ar)) - n39)) < aI)))
noncomputable def Lv (self:yT α) (aj:Int) (ar:Int) (aI:Int) (iA:α→α→Option Int) (n39:Int) (Fy:List α) (c49:Bool):Option (List α):=
 if c49=true then
  (dm Fy.length (fun r:(List α)=>r.length) (self Fy aj n39 (ux aj aI) iA)).bind fun v51=>
  yl self aj ar aI iA n39 v51
 else
  yl self aj ar aI iA n39 Fy
noncomputable def Ay (self:yT α) (aj:Int) (ar:Int) (aI:Int) (iA:α→α→Option Int) (n39:Int) (Fy:List α):Option (List α):=
 Lv self aj ar aI iA n39 Fy ((decide (aj < n39))&&(decide (n39 < (ux aj aI))))
noncomputable def wz (self:yT α) (aa:List α) (aj:Int) (ar:Int) (aI:Int) (iA:α→α→Option Int) (n39:Int) (c46:Bool):Option (List α):=
 if c46=true then
  (dm aa.length (fun r:(List α)=>r.length) (Ug aa n39 ar (aU ((aU ((ux aj aI)+ar)) - n39)))).bind fun TK=>
  Ay self aj ar aI iA n39 TK
 else
  Ay self aj ar aI iA n39 aa
noncomputable def C7 (self:yT α) (aa:List α) (aj:Int) (ar:Int) (aI:Int) (iA:α→α→Option Int) (n39:Int) (n40:Int):Option ((Int×Int)⊕(List α)):=
 if n39 < n40 then
  (idx aa (aU ((aU ((aU ((ux aj aI)+ar)) - (1:Int))) - (ux n39 n40)))).bind fun v41=>
  (idx aa (ux n39 n40)).bind fun A8=>
  (iA v41 A8).bind fun CZ=>
  if ¬ (CZ < (0:Int)) then
   some (.inl (aU ((ux n39 n40)+(1:Int)),n40))
  else
   some (.inl (n39,ux n39 n40))
 else
  Option.map .inr (wz self aa aj ar aI iA n39 ((decide (n39 < ar))&&(decide (ar < (aU ((aU ((ux aj aI)+ar)) - n39))))))
noncomputable def rC (self:yT α) (aa:List α) (aj:Int) (ar:Int) (aI:Int) (iA:α→α→Option Int) (n39:Int) (n40:Int):Option (List α):=
 iter (fun x:Int×Int=>C7 self aa aj ar aI iA x.1 x.2) (n39,n40)
noncomputable def C8 (self:yT α) (aa:List α) (aj:Int) (ar:Int) (aI:Int) (iA:α→α→Option Int):Option (List α):=
 if (aU (ar - aj))=(1:Int) then
  wx aa aj iA ar aI
 else
  if (aU (aI - ar))=(1:Int) then
   wy aa ar iA aj ar
  else
   if (ux aj aI) < ar then
    rC self aa aj ar aI iA (aU ((aU ((ux aj aI)+ar)) - aI)) (ux aj aI)
   else
    rC self aa aj ar aI iA aj ar
noncomputable def mF:Nat→yT α
 | 0=>fun _ _ _ _ _=>none
 | k+1=>C8 (mF k)
variable {c:α→α→Int} (f:α→α→Option Int) (hf:∀ a b,f a b=some (c a b))
include hf
theorem En (self:yT α) (P S T R:List α) (hl:(P++S++T++R).length≤1000000) (hS1:1≤S.length) (hT1:1≤T.length) (a m b mQ lo hi:Nat) (ha:a=P.length) (hm:m=P.length+S.length) (hb:b=P.length+S.length+T.length) (Dz:mQ=(a+b) / 2)
 (hlh:(mQ < m∧lo=mQ+m - b∧hi=mQ)∨(m≤mQ∧lo=a∧hi=m)):
 ∃ k1 k2:Nat,k1≤S.length∧k2≤T.length∧a+k1+k2=mQ∧
   (∀ x∈S.take k1,∀ y∈T.drop k2,(k1=0∨k2=T.length∨∃ (h1:k1 - 1 < S.length) (h2:k2 < T.length),¬ c T[k2] S[k1 - 1] < 0))∧
   (k1=0∨k2=T.length∨∃ (h1:k1 - 1 < S.length) (h2:k2 < T.length),¬ c T[k2] S[k1 - 1] < 0)∧
   (k1=S.length∨k2=0∨∃ (h1:k1 < S.length) (h2:k2 - 1 < T.length),c T[k2 - 1] S[k1] < 0)∧
   rC self (P++S++T++R) a m b f lo hi=wz self (P++S++T++R) a m b f ((a+k1:Nat):Int) (decide (k1 < S.length)&&decide (0 < k2)):=by
 have x5:P.length+S.length+T.length+R.length≤1000000:=by simp only [List.length_append] at hl;omega
 have Kr:ux a b=(mQ:Int):=by unfold ux;rw [Ax (by omega),← Dz]
 have key:∀ (fuel i j:Nat),j - i≤fuel→lo≤i→i≤j→j≤hi→
  (i=lo∨∃ (h1:i - 1 - a < S.length) (h2:mQ+m - i - m < T.length),a+1≤i∧m≤mQ+m - i∧¬ c T[mQ+m - i - m] S[i - 1 - a] < 0)→
  (j=hi∨∃ (h1:j - a < S.length) (h2:mQ+m - 1 - j - m < T.length),a≤j∧m+j+1≤mQ+m∧c T[mQ+m - 1 - j - m] S[j - a] < 0)→
  ∃ st:Nat,lo≤st∧st≤hi∧(st=lo∨∃ (h1:st - 1 - a < S.length) (h2:mQ+m - st - m < T.length),a+1≤st∧m≤mQ+m - st∧¬ c T[mQ+m - st - m] S[st - 1 - a] < 0)∧
  (st=hi∨∃ (h1:st - a < S.length) (h2:mQ+m - 1 - st - m < T.length),a≤st∧m+st+1≤mQ+m∧c T[mQ+m - 1 - st - m] S[st - a] < 0)∧
  rC self (P++S++T++R) a m b f i j=wz self (P++S++T++R) a m b f (st:Int) (decide (st < m)&&decide (m < mQ+m - st)):=by
  intro fuel
  have fin:∀ i:Nat,lo≤i→i≤hi→rC self (P++S++T++R) a m b f i i=wz self (P++S++T++R) a m b f (i:Int) (decide (i < m)&&decide (m < mQ+m - i)):=by
   intro i h1 h2
   unfold rC
   refine vj ?_
   unfold C7
   rw [if_neg (by simp only;omega),Kr,aP (x:=(mQ:Int)+m) (by omega) (by omega),aP (x:=(mQ:Int)+m - i) (by omega) (by omega)]
   have e1:decide ((i:Int) < (m:Int))=decide (i < m):=decide_eq_decide.2 (by omega)
   have e2:decide ((m:Int) < (mQ:Int)+m - i)=decide (m < mQ+m - i):=decide_eq_decide.2 (by omega)
   simp only [e1,e2]
  induction fuel with
  | zero=>
    intro i j Uf Cj BI hj h1 h2
    have:i=j:=by clear h1 h2;omega
    subst this
    exact ⟨i,Cj,hj,h1,h2,fin i Cj hj⟩
  | succ fuel ih=>
    intro i j Uf Cj BI hj h1 h2
    by_cases e:i=j
    ·subst e
     exact ⟨i,Cj,hj,h1,h2,fin i Cj hj⟩
    ·obtain ⟨q,hq⟩:∃ q,q=(i+j) / 2:=⟨_,rfl⟩
     have Tq:i≤q∧q < j:=by clear h1 h2;omega
     have SF:q - a < S.length∧a≤q:=by clear h1 h2;omega
     have SE:mQ+m - 1 - q - m < T.length∧m+q+1≤mQ+m:=by clear h1 h2;omega
     have hQ:ux i j=(q:Int):=by unfold ux;rw [Ax (by clear h1 h2;omega),← hq]
     have i1:idx (P++S++T++R) (q:Int)=some S[q - a]:=by
      have:=Pj P S T R SF.1
      rw [show P.length+(q - a)=q by clear h1 h2 this;omega] at this
      exact this
     have i2:idx (P++S++T++R) ((mQ+m - 1 - q:Nat):Int)=some T[mQ+m - 1 - q - m]:=by
      have:=Pk P S T R SE.1
      rw [show P.length+S.length+(mQ+m - 1 - q - m)=mQ+m - 1 - q by clear h1 h2 this;omega] at this
      exact this
     have step:C7 self (P++S++T++R) a m b f i j=some (.inl (if ¬ c (T[mQ+m - 1 - q - m]'SE.1) (S[q - a]'SF.1) < 0 then (((q+1:Nat):Int),(j:Int)) else ((i:Int),(q:Int)))):=by
      clear h1 h2
      unfold C7
      rw [if_pos (by omega),Kr,hQ,aP (x:=(mQ:Int)+m) (by omega) (by omega),aP (x:=(mQ:Int)+m - 1) (by omega) (by omega),aP (x:=(mQ:Int)+m - 1 - q) (by omega) (by omega),show (mQ:Int)+m - 1 - q=((mQ+m - 1 - q:Nat):Int) by omega,i2]
      simp only [Option.bind_some]
      rw [i1]
      simp only [Option.bind_some]
      rw [hf]
      simp only [Option.bind_some]
      rw [aP (by omega) (by omega)]
      split
      ·rfl
      ·rfl
     by_cases d:¬ c T[mQ+m - 1 - q - m] S[q - a] < 0
     ·obtain ⟨st,a1,a2,a3,a4,a5⟩:=ih (q+1) j (by clear h1 h2 d step;omega) (by clear h1 h2 d step;omega) (by clear h1 h2 d step;omega) hj (.inr ⟨by clear h1 h2 d step;omega,by clear h1 h2 d step;omega,by clear h1 h2 d step;omega,by clear h1 h2 d step;omega,by
       have e1:mQ+m - (q+1) - m=mQ+m - 1 - q - m:=by clear h1 h2 d step;omega
       have e2:q+1 - 1 - a=q - a:=by clear h1 h2 d step;omega
       simp only [e1,e2]
       exact d⟩) h2
      refine ⟨st,a1,a2,a3,a4,?_⟩
      rw [← a5]
      unfold rC
      refine Jc ?_
      rw [if_pos d] at step
      exact step
     ·obtain ⟨st,a1,a2,a3,a4,a5⟩:=ih i q (by clear h1 h2 d step;omega) Cj Tq.1 (by clear h1 h2 d step;omega) h1 (.inr ⟨SF.1,SE.1,SF.2,SE.2,Decidable.not_not.1 d⟩)
      refine ⟨st,a1,a2,a3,a4,?_⟩
      rw [← a5]
      unfold rC
      refine Jc ?_
      rw [if_neg d] at step
      exact step
 obtain ⟨st,a1,a2,a3,a4,a5⟩:=key hi lo hi (by omega) (Nat.le_refl _) (by omega) (Nat.le_refl _) (.inl rfl) (.inl rfl)
 have yX:a≤st∧st≤m∧m≤mQ+m - st∧mQ+m - st≤b:=by clear a3 a4 a5;omega
 have A:st - a=0∨mQ+m - st - m=T.length∨∃ (h1:st - a - 1 < S.length) (h2:mQ+m - st - m < T.length),¬ c T[mQ+m - st - m] S[st - a - 1] < 0:=by
  rcases a3 with g | ⟨g1,g2,g3,g4,g5⟩
  ·clear a4 a5;omega
  ·refine .inr (.inr ⟨by clear g5 a4 a5;omega,g2,?_⟩)
   have e1:st - a - 1=st - 1 - a:=by clear g5 a4 a5;omega
   simp only [e1]
   exact g5
 have B:st - a=S.length∨mQ+m - st - m=0∨∃ (h1:st - a < S.length) (h2:mQ+m - st - m - 1 < T.length),c T[mQ+m - st - m - 1] S[st - a] < 0:=by
  rcases a4 with g | ⟨g1,g2,g3,g4,g5⟩
  ·clear a3 a5 A;omega
  ·refine .inr (.inr ⟨g1,by clear g5 a3 a5 A;omega,?_⟩)
   have e1:mQ+m - st - m - 1=mQ+m - 1 - st - m:=by clear g5 a3 a5 A;omega
   simp only [e1]
   exact g5
 refine ⟨st - a,mQ+m - st - m,by clear a3 a4 a5 A B;omega,by clear a3 a4 a5 A B;omega,by clear a3 a4 a5 A B;omega,fun _ _ _ _=>A,A,B,?_⟩
 rw [a5,show a+(st - a)=st by clear a3 a4 a5 A B;omega]
 clear a3 a4 a5 A B
 congr 1
 congr 1
 ·exact decide_eq_decide.2 (by omega)
 ·exact decide_eq_decide.2 (by omega)
end
end Go.Beacon
