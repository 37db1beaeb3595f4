/- Plain facts on what the functions compute. No program in sight. -/
import Derived.Test.YtckmkjeblanlfaaGreatDoorCore
set_option linter.unusedVariables false
namespace Go.Beacon
open Go Go.Eng
theorem bh {x:Int} (h1:-9223372036854775808≤x) (h2:x≤9223372036854775807):cr x=x:=DQ ⟨h1,h2⟩
theorem Ot {a b:Int} (h:0 < b) (h0:0≤a):rem a b=some (a % b):=by
 unfold rem
 rw [if_neg (by omega),Int.tmod_eq_emod_of_nonneg h0]
theorem QT {a b:Int} (h:b≠0):rem a b=some (a.tmod b):=by unfold rem;rw [if_neg h]
theorem QU {a b:Int} (h:b≠0):quo a b=some (cr (a.tdiv b)):=by unfold quo;rw [if_neg h]
theorem iZ {α:Type} (xs:List α) {i:Int} (h0:0≤i) (h1:i < xs.length):∃ x,idx xs i=some x∧x∈xs∧xs.drop i.toNat=x :: xs.drop (i+1).toNat:=by
 have h:i.toNat < xs.length:=by omega
 refine ⟨xs[i.toNat],by unfold idx;rw [if_pos h0];simp [h],List.getElem_mem h,?_⟩
 rw [show (i+1).toNat=i.toNat+1 by omega]
 exact List.drop_eq_getElem_cons h
theorem ik {α:Type} {xs:List α} {i:Int} {x:α} (h:idx xs i=some x):x∈xs:=List.mem_of_getElem? (tw h).2.2
theorem mx {α:Type} {xs ys:List α} (h:xs.length+ys.length≤1000000000):app xs ys=some (xs++ys):=by unfold app;rw [if_pos h]
theorem vM {α:Type} {xs:List α} {l h:Int} (h0:0≤l) (h1:l≤h) (h2:h≤xs.length):yD xs l h=some ((xs.drop l.toNat).take (h.toNat - l.toNat)):=by
 unfold yD;rw [if_pos ⟨h0,h1,h2⟩]
def CA {α σ A:Type} (step:σ→α→Int→Option (σ⊕A)) (fin:σ→Int→Option A):List α→σ→Int→Option A
 | [],s,i=>fin s i
 | x :: r,s,i=>match step s x i with
   | none=>none
   | some (.inl s')=>CA step fin r s' (i+1)
   | some (.inr a)=>some a
theorem CB {α σ A X:Type} (xs:List α) (mk:σ→Int→X) (f:X→Option (X⊕A)) (step:σ→α→Int→Option (σ⊕A)) (fin:σ→Int→Option A)
 (h1:∀ s (i:Int) x,0≤i→i < xs.length→idx xs i=some x→f (mk s i)=(step s x i).map (Sum.map (fun s'=>mk s' (i+1)) id))
 (h2:∀ s,f (mk s xs.length)=(fin s xs.length).map .inr):∀ (n:Nat) (s:σ) (i:Int),0≤i→i+n=xs.length→iter f (mk s i)=CA step fin (xs.drop i.toNat) s i
 | 0,s,i,h0,hn=>by
   have hi:i=xs.length:=by omega
   subst hi
   rw [iter_eq,h2,cH]
   simp [CA]
 | n+1,s,i,h0,hn=>by
   obtain ⟨x,hx,_,hd⟩:=iZ xs h0 (by omega)
   rw [iter_eq,h1 s i x h0 (by omega) hx,hd]
   simp only [CA]
   cases FQ:step s x i with
   | none=>rfl
   | some u=>
     cases u with
     | inl s'=>exact CB xs mk f step fin h1 h2 n s' (i+1) (by omega) (by omega)
     | inr a=>rfl
theorem GJ {α σ A X:Type} (xs:List α) (mk:σ→Int→X) (f:X→Option (X⊕A)) (step:σ→α→Int→Option (σ⊕A)) (fin:σ→Int→Option A)
 (h1:∀ s (i:Int) x,0≤i→i < xs.length→idx xs i=some x→f (mk s i)=(step s x i).map (Sum.map (fun s'=>mk s' (i+1)) id))
 (h2:∀ s,f (mk s xs.length)=(fin s xs.length).map .inr) (s:σ):iter f (mk s 0)=CA step fin xs s 0:=
 CB xs mk f step fin h1 h2 xs.length s 0 (by omega) (by omega)
def xd {α A:Type} (g:α→Option A) (e:A):List α→A
 | []=>e
 | x :: r=>match g x with
   | some a=>a
   | none=>xd g e r
theorem ru {α A:Type} (xs:List α) (f:Int→Option (Int⊕A)) (g:α→Option A) (e:A) (hlen:(xs.length:Int)≤4611686018427387904)
 (h1:∀ (i:Int) x,0≤i→i < xs.length→idx xs i=some x→f i=match g x with | some a=>some (.inr a) | none=>some (.inl (i+1)))
 (h2:f xs.length=some (.inr e)):iter f 0=some (xd g e xs):=by
 have h:=GJ xs (fun (_:Unit) i=>i) f (fun _ x _=>match g x with | some a=>some (.inr a) | none=>some (.inl ())) (fun _ _=>some e)
  (fun s i x h0 h3 h4=>by rw [h1 i x h0 h3 h4];cases g x<;>rfl) (fun s=>by rw [h2];rfl) ()
 rw [h]
 clear h h1 h2 hlen
 suffices ∀ (xs:List α) (i:Int),CA (fun (_:Unit) x _=>match g x with | some a=>some (.inr a) | none=>some (.inl ())) (fun _ _=>some e) xs () i=some (xd g e xs) from this xs 0
 intro xs
 induction xs with
 | nil=>intro i;rfl
 | cons x r ih=>
   intro i
   simp only [CA,xd]
   cases g x with
   | none=>exact ih (i+1)
   | some a=>rfl
theorem CC {α:Type} (p:α→Bool):∀ (xs:List α),xd (fun x=>if p x=true then none else some false) true xs=xs.all p
 | []=>rfl
 | x :: r=>by
   simp only [xd,List.all_cons]
   cases hp:p x<;>simp [CC p r]
end Go.Beacon
set_option linter.unusedSimpArgs false
namespace Go.Beacon
open Go Go.Eng
def xz {α:Type} [DecidableEq α] (xs ys:List α) (i:Int):Option (Int⊕Bool):=
 if i < (xs.length:Int) then
  (idx xs i).bind fun v3=>
  (idx ys i).bind fun v4=>
  if v3≠v4 then
   Option.map .inr (some false)
  else
   some (.inl (cr (i+(1:Int))))
 else
  Option.map .inr (some true)
noncomputable def Mn {α:Type} [DecidableEq α] (xs ys:List α):Option Bool:=
 if (xs.length:Int)≠(ys.length:Int) then
  some false
 else
  iter (fun x:Int=>xz xs ys x) 0
theorem AR {α:Type} [DecidableEq α] (xs ys:List α) (hl:xs.length=ys.length) (hb:(xs.length:Int)≤4611686018427387904):∀ (n:Nat) (i:Int),0≤i→i+n=xs.length→
 iter (fun x:Int=>xz xs ys x) i=some (decide (xs.drop i.toNat=ys.drop i.toNat))
 | 0,i,h0,hn=>by
   rw [iter_eq,xz,if_neg (by omega),List.drop_of_length_le (by omega),List.drop_of_length_le (by omega)];simp
 | n+1,i,h0,hn=>by
   obtain ⟨x,hx,_,hd⟩:=iZ xs h0 (by omega)
   obtain ⟨y,hy,_,Bb⟩:=iZ ys h0 (by omega)
   rw [iter_eq,xz,if_pos (by omega),hx,hy,hd,Bb]
   simp only [Option.bind_some]
   by_cases Iu:x=y
   ·subst Iu
    rw [if_neg (by simp)]
    simp only [Option.bind_some,dh]
    rw [bh (by omega) (by omega)]
    have:=AR xs ys hl hb n (i+1) (by omega) (by omega)
    rw [this];simp
   ·rw [if_pos Iu];simp [Iu]
theorem xA {α:Type} [DecidableEq α] (xs ys:List α) (hb:(xs.length:Int)≤4611686018427387904):Mn xs ys=some (decide (xs=ys)):=by
 unfold Mn
 by_cases h:xs.length=ys.length
 ·rw [if_neg (by omega),AR xs ys h hb xs.length 0 (by omega) (by omega)];simp
 ·rw [if_pos (by omega),decide_eq_false (fun e=>h (by rw [e]))]
def oS {α:Type} (xs:List α) (f:α→Option Bool) (i:Int):Option (Int⊕Int):=
 if i < (xs.length:Int) then
  (idx xs i).bind fun v3=>
  (f v3).bind fun v4=>
  if v4=true then
   Option.map .inr (some i)
  else
   some (.inl (cr (i+(1:Int))))
 else
  Option.map .inr (some (-1:Int))
noncomputable def ry {α:Type} (xs:List α) (f:α→Option Bool):Option Int:=iter (fun x:Int=>oS xs f x) 0
noncomputable def x7 {α:Type} (xs:List α) (f:α→Option Bool):Option Bool:=(ry xs f).bind fun v1=>some (decide ((0:Int)≤v1))
def eE {α:Type} (p:α→Bool):List α→Int→Int
 | [],_=>-1
 | x :: r,i=>if p x=true then i else eE p r (i+1)
theorem xB {α:Type} (p:α→Bool):∀ (xs:List α) (i:Int),0≤i→(0≤eE p xs i↔xs.any p=true)
 | [],i,h=>by simp [eE]
 | x :: r,i,h=>by
   have:=xB p r (i+1) (by omega)
   simp only [eE,List.any_cons,Bool.or_eq_true]
   split
   ·rename_i hp;simp [hp,h]
   ·rename_i hp
    have dR:p x=false:=by simpa using hp
    simp only [dR,Bool.false_eq_true,false_or];exact this
theorem wc {α:Type} (xs:List α) (f:α→Option Bool) (p:α→Bool) (hf:∀ x∈xs,f x=some (p x)) (hb:(xs.length:Int)≤4611686018427387904):∀ (n:Nat) (i:Int),0≤i→i+n=xs.length→
 iter (fun x:Int=>oS xs f x) i=some (eE p (xs.drop i.toNat) i)
 | 0,i,h0,hn=>by
   rw [iter_eq,oS,if_neg (by omega),List.drop_of_length_le (by omega)];rfl
 | n+1,i,h0,hn=>by
   obtain ⟨x,hx,hm,hd⟩:=iZ xs h0 (by omega)
   rw [iter_eq,oS,if_pos (by omega),hx,hd]
   simp only [Option.bind_some,hf x hm,eE]
   split
   ·rfl
   ·simp only [Option.bind_some,dh]
    rw [bh (by omega) (by omega)]
    exact wc xs f p hf hb n (i+1) (by omega) (by omega)
theorem oT {α:Type} (xs:List α) (f:α→Option Bool) (p:α→Bool) (hf:∀ x∈xs,f x=some (p x)) (hb:(xs.length:Int)≤4611686018427387904):ry xs f=some (eE p xs 0):=by
 unfold ry
 rw [wc xs f p hf hb xs.length 0 (by omega) (by omega)];simp
theorem gf {α:Type} (xs:List α) (f:α→Option Bool) (p:α→Bool) (hf:∀ x∈xs,f x=some (p x)) (hb:(xs.length:Int)≤4611686018427387904):x7 xs f=some (xs.any p):=by
 unfold x7
 rw [oT xs f p hf hb]
 simp only [Option.bind_some,Option.some.injEq]
 rw [Bool.eq_iff_iff,decide_eq_true_eq]
 exact xB p xs 0 (by omega)
def Fi (xs:List Int) (i:Int):Option (Int⊕Int):=
 if i < (xs.length:Int) then
  (idx xs i).bind fun v3=>
  if v3≠(0:Int) then
   Option.map .inr (some v3)
  else
   some (.inl (cr (i+(1:Int))))
 else
  Option.map .inr (some (0:Int))
noncomputable def gOr (xs:List Int):Option Int:=iter (fun x:Int=>Fi xs x) 0
def AS:List Int→Int
 | []=>0
 | x :: r=>if x≠0 then x else AS r
theorem CD (xs:List Int) (hb:(xs.length:Int)≤4611686018427387904):gOr xs=some (AS xs):=by
 unfold gOr
 rw [ru xs (fun x:Int=>Fi xs x) (fun x=>if x≠0 then some x else none) 0 hb]
 ·congr 1
  clear hb
  induction xs with
  | nil=>rfl
  | cons x r ih=>
    simp only [xd,AS]
    by_cases h:x=0
    ·subst h;simpa using ih
    ·simp [h]
 ·intro i x h0 h1 hx
  unfold Fi
  rw [if_pos h1,hx]
  simp only [Option.bind_some]
  by_cases h:x=0
  ·rw [bh (by omega) (by omega)];simp [h]
  ·simp [h]
 ·unfold Fi;rw [if_neg (by omega)];rfl
theorem xC:∀ l:List UInt8,Lib.compareBytes l l=0
 | []=>rfl
 | a :: l=>by simp only [Lib.compareBytes];rw [if_neg (by simp),if_neg (by simp)];exact xC l
theorem Fj (a:UInt8):¬ a < a:=by simp
theorem Ag (a b:UInt8):a < b∨a=b∨b < a:=by
 rcases Nat.lt_trichotomy a.toNat b.toNat with h | h | h
 ·exact .inl h
 ·exact .inr (.inl (UInt8.toNat_inj.1 h))
 ·exact .inr (.inr h)
theorem vm {a b:UInt8} (h:a < b):¬ b < a:=by
 rw [UInt8.lt_iff_toNat_lt] at *;omega
theorem vn:∀ a b:List UInt8,Lib.compareBytes a b=- Lib.compareBytes b a
 | [],[]=>rfl
 | [],_ :: _=>rfl
 | _ :: _,[]=>rfl
 | a :: la,b :: lb=>by
   simp only [Lib.compareBytes]
   rcases Ag a b with h | h | h
   ·rw [if_pos h,if_neg (vm h),if_pos h]
   ·subst h
    rw [if_neg (by simp),if_neg (by simp),if_neg (by simp),if_neg (by simp)];exact vn la lb
   ·rw [if_neg (vm h),if_pos h,if_pos h];rfl
theorem Em:∀ a b:List UInt8,Lib.compareBytes a b=-1∨Lib.compareBytes a b=0∨Lib.compareBytes a b=1
 | [],[]=>by simp [Lib.compareBytes]
 | [],_ :: _=>by simp [Lib.compareBytes]
 | _ :: _,[]=>by simp [Lib.compareBytes]
 | a :: la,b :: lb=>by
   simp only [Lib.compareBytes]
   split
   ·simp
   ·split
    ·simp
    ·exact Em la lb
theorem xD:∀ {a b:List UInt8},Lib.compareBytes a b=0→a=b
 | [],[],_=>rfl
 | [],_ :: _,h=>by simp [Lib.compareBytes] at h
 | _ :: _,[],h=>by simp [Lib.compareBytes] at h
 | a :: la,b :: lb,h=>by
   simp only [Lib.compareBytes] at h
   split at h
   ·simp at h
   ·split at h
    ·simp at h
    ·rename_i h1 h2
     rcases Ag a b with h3 | h3 | h3
     ·exact absurd h3 h1
     ·rw [h3,xD h]
     ·exact absurd h3 h2
theorem vo:∀ a b:List UInt8,Op.bytesLess a b=decide (Lib.compareBytes a b < 0)
 | [],[]=>by simp [Op.bytesLess,Lib.compareBytes]
 | [],_ :: _=>by simp [Op.bytesLess,Lib.compareBytes]
 | _ :: _,[]=>by simp [Op.bytesLess,Lib.compareBytes]
 | a :: la,b :: lb=>by
   simp only [Op.bytesLess,Lib.compareBytes]
   rcases Ag a b with h | h | h
   ·simp [h]
   ·subst h;simp [vo la lb]
   ·have h1:=vm h
    have h2:(a==b)=false:=by
     rw [beq_eq_false_iff_ne];intro e;subst e;exact Fj _ h
    simp [h,h1,h2]
theorem Ou (a b:List UInt8):(a==b)=decide (Lib.compareBytes a b=0):=by
 rw [Bool.eq_iff_iff]
 simp only [beq_iff_eq,decide_eq_true_eq]
 exact ⟨fun h=>by rw [h];exact xC b,xD⟩
theorem vp:∀ (l:List UInt8) (c:UInt8),(Lib.indexByte l c < 0)↔c∉l
 | [],c=>by simp [Lib.indexByte]
 | b :: l,c=>by
   have ih:=vp l c
   have Pb:=Lib.indexByte_ge l c
   simp only [Lib.indexByte,List.mem_cons,not_or]
   by_cases hb:b=c
   ·subst hb;simp
   ·rw [if_neg (by simpa using hb)]
    by_cases h1:Lib.indexByte l c=-1
    ·rw [h1] at ih
     simp only [h1,beq_self_eq_true,if_true]
     exact ⟨fun _=>⟨fun e=>hb e.symm,ih.1 (by omega)⟩,fun _=>by omega⟩
    ·rw [if_neg (by simpa using h1)]
     exact ⟨fun h=>by omega,fun h=>absurd (ih.2 h.2) (by omega)⟩
theorem Xe (c:UInt8):((c.toNat:Int)).toNat.toUInt8=c:=by simp
def CE {α:Type} (Z:α) (l10:List α) (n11:Int):Option (Int⊕(List α)):=
 (yD l10 n11 (l10.length:Int)).bind fun HM=>
 (yD (IK l10 n11 HM.length Z) (0:Int) n11).bind fun wP=>
 Option.map .inr (some wP)
theorem QW {α:Type} (Z:α) (l:List α) {k:Int} (h0:0≤k) (h1:k≤l.length):CE Z l k=some (.inr (l.take k.toNat)):=by
 unfold CE
 rw [vM h0 h1 (by omega)]
 simp only [Option.bind_some]
 have hlen:(((l.drop k.toNat).take (((l.length:Int)).toNat - k.toNat)).length)=l.length - k.toNat:=by simp
 rw [hlen,vM (by omega) h0 (by unfold IK;simp;omega)]
 simp only [Option.bind_some,Option.map_some,Option.some.injEq,Sum.inr.injEq]
 unfold IK
 simp only [Int.toNat_zero,List.drop_zero,Nat.sub_zero]
 rw [List.append_assoc,List.take_append_of_le_length (by simp;omega),List.take_take]
 congr 1;omega
def Fk {α:Type} (n7:Int) (yl:List α) (n12:Int):Option (((List α)×Int×Int)⊕(List α)):=
 some (.inl (yl,n12,cr (n7+(1:Int))))
def Fl {α:Type} (Z:α) (l5:List α) (n6:Int):Option (List α):=
 (yD l5 n6 (l5.length:Int)).bind fun yi=>
 (yD (IK l5 n6 yi.length Z) (0:Int) n6).bind fun AL=>
 some AL
def BF {α:Type} (Z:α) (jz:α→Option Bool) (l5:List α) (n6:Int) (n7:Int):Option (((List α)×Int×Int)⊕(List α)):=
 if n7 < (l5.length:Int) then
  (idx l5 n7).bind fun v8=>
  (jz v8).bind fun v10=>
  if (!v10)=true then
   (idx l5 n6).bind fun oh=>
   Fk n7 (l5.set n6.toNat v8) (cr (n6+(1:Int)))
  else
   Fk n7 l5 n6
 else
  Option.map .inr (Fl Z l5 n6)
noncomputable def TK {α:Type} (Z:α) (aa:List α) (jz:α→Option Bool):Option (List α):=
 (ry aa jz).bind fun v1=>
 if v1=(-1:Int) then
  some aa
 else
  iter (fun x:(List α)×Int×Int=>BF Z jz x.1 x.2.1 x.2.2) (aa,v1,cr (v1+(1:Int)))
theorem Ov {α:Type} (Z:α) (l:List α) {k:Int} (h0:0≤k) (h1:k≤l.length):Fl Z l k=some (l.take k.toNat):=by
 have:=QW Z l h0 h1
 unfold CE at this
 unfold Fl
 cases h:yD l k l.length with
 | none=>rw [h] at this;simp at this
 | some v=>
   rw [h] at this
   simp only [Option.bind_some] at this ⊢
   cases h2:yD (IK l k v.length Z) 0 k with
   | none=>rw [h2] at this;simp at this
   | some u=>rw [h2] at this;simpa using this
theorem AU {α:Type} (p:α→Bool) {xs:List α} {m:Nat} (h:m < xs.length):(xs.take (m+1)).filter p=if p xs[m]=true then (xs.take m).filter p++[xs[m]] else (xs.take m).filter p:=by
 rw [← List.take_append_getElem h,List.filter_append]
 by_cases hp:p xs[m]=true<;>simp [hp]
theorem Mo {α:Type} (Z:α) (jz:α→Option Bool) (p:α→Bool) (xs:List α) (hl:(xs.length:Int)≤100000) (hf:∀ x∈xs,jz x=some (p x)):∀ (n:Nat) (l:List α) (k j:Int),1≤j→j+n=xs.length→l.length=xs.length→0≤k→k < j→l.drop j.toNat=xs.drop j.toNat→l.take k.toNat=(xs.take j.toNat).filter (fun x=>!p x)→
 iter (fun x:(List α)×Int×Int=>BF Z jz x.1 x.2.1 x.2.2) (l,k,j)=some (xs.filter (fun x=>!p x)):=by
 intro n
 induction n with
 | zero=>
   intro l k j g1 g2 g3 g4 g5 g6 g7
   rw [iter_eq,BF,if_neg (by simp only;omega),cH,Ov Z l g4 (by omega),g7,List.take_of_length_le (by omega)]
 | succ n ih=>
   intro l k j g1 g2 g3 g4 g5 g6 g7
   have w1:cr (j+1)=j+1:=by rw [bh]<;>omega
   have w3:cr (k+1)=k+1:=by rw [bh]<;>omega
   have hm:j.toNat < xs.length:=by omega
   have hgl:∀ m:Nat,j.toNat≤m→l[m]? =xs[m]?:=by
    intro m hm
    have:=congrArg (fun q:List α=>q[m - j.toNat]?) g6
    simp only [List.getElem?_drop] at this
    rw [show j.toNat+(m - j.toNat)=m by omega] at this
    exact this
   have e1:idx l j=some xs[j.toNat]:=by
    unfold idx;rw [if_pos (by omega),hgl _ (Nat.le_refl _)];simp [hm]
   have Nd:=AU (fun x=>!p x) hm
   rw [show j.toNat+1=(j+1).toNat by omega] at Nd
   have Xf:l.drop (j+1).toNat=xs.drop (j+1).toNat:=by
    have:=congrArg (List.drop 1) g6
    rw [List.drop_drop,List.drop_drop,show j.toNat+1=(j+1).toNat by omega] at this
    exact this
   rw [iter_eq,BF,if_pos (by simp only;omega)]
   simp only [e1,Option.bind_some,hf _ (List.getElem_mem hm)]
   unfold Fk
   rw [w1]
   cases hp:p xs[j.toNat] with
   | true=>
     rw [hp] at Nd
     simp only [Bool.not_true,Bool.false_eq_true,if_false] at Nd ⊢
     simp only [Option.bind_some,dh]
     exact ih l k (j+1) (by omega) (by omega) g3 g4 (by omega) Xf (by rw [g7,Nd])
   | false=>
     rw [hp] at Nd
     simp only [Bool.not_false,if_true] at Nd ⊢
     obtain ⟨y,hy,_,_⟩:=iZ l (i:=k) g4 (by omega)
     simp only [hy,Option.bind_some,dh,w3]
     refine ih (l.set k.toNat _) (k+1) (j+1) (by omega) (by omega) (by simpa using g3) (by omega) (by omega) ?_ ?_
     ·apply List.ext_getElem?
      intro m
      rw [List.getElem?_drop,List.getElem?_drop,List.getElem?_set_ne (by omega),hgl _ (by omega)]
     ·rw [Nd,← g7,show (k+1).toNat=k.toNat+1 by omega]
      apply List.ext_getElem?
      intro m
      have SX:k.toNat < l.length:=by omega
      by_cases hm:m < k.toNat
      ·rw [List.getElem?_take,if_pos (by omega),List.getElem?_set_ne (by omega),List.getElem?_append_left (by simp;omega),List.getElem?_take,if_pos hm]
      ·by_cases Uz:m=k.toNat
       ·subst Uz
        rw [List.getElem?_take,if_pos (by omega),List.getElem?_set_self SX,List.getElem?_append_right (by simp only [List.length_take];omega)]
        simp [Nat.min_eq_left (Nat.le_of_lt SX)]
       ·rw [List.getElem?_eq_none (by simp;omega),List.getElem?_eq_none (by simp;omega)]
theorem AW {α:Type} (p:α→Bool):∀ (xs:List α) (i:Int),0≤i→(eE p xs i=-1∧∀ x∈xs,p x=false)∨(i≤eE p xs i∧eE p xs i < i+xs.length∧(∀ x∈xs.take (eE p xs i - i).toNat,p x=false)∧∃ y,xs[(eE p xs i - i).toNat]? =some y∧p y=true)
 | [],i,h=>.inl ⟨rfl,by simp⟩
 | x :: r,i,h=>by
   by_cases hp:p x=true
   ·have e:eE p (x :: r) i=i:=by simp [eE,hp]
    rw [e]
    exact .inr ⟨by omega,by simp;omega,by simp,x,by simp,hp⟩
   ·have e:eE p (x :: r) i=eE p r (i+1):=by simp [eE,hp]
    rw [e]
    have dR:p x=false:=by simpa using hp
    rcases AW p r (i+1) (by omega) with ⟨h1,h2⟩ | ⟨h1,h2,h3,y,h4,h5⟩
    ·exact .inl ⟨h1,fun y hy=>by rcases List.mem_cons.1 hy with rfl | hy;exact dR;exact h2 y hy⟩
    ·have e:(eE p r (i+1) - i).toNat=(eE p r (i+1) - (i+1)).toNat+1:=by omega
     refine .inr ⟨by omega,by simp;omega,?_,y,?_,h5⟩
     ·rw [e]
      intro y hy
      rw [List.take_succ_cons] at hy
      rcases List.mem_cons.1 hy with rfl | hy
      ·exact dR
      ·exact h3 y hy
     ·rw [e,List.getElem?_cons_succ];exact h4
theorem Ow {α:Type} (Z:α) (jz:α→Option Bool) (p:α→Bool) (xs:List α) (hl:(xs.length:Int)≤100000) (hf:∀ x∈xs,jz x=some (p x)):TK Z xs jz=some (xs.filter (fun x=>!p x)):=by
 unfold TK
 rw [oT xs jz p hf (by omega)]
 simp only [Option.bind_some]
 rcases AW p xs 0 (by omega) with ⟨h1,h2⟩ | ⟨h1,h2,h3,y,h4,h5⟩
 ·rw [if_pos h1]
  congr 1
  exact (List.filter_eq_self.2 (fun x hx=>by simp [h2 x hx])).symm
 ·generalize eE p xs 0=v at *
  simp only [Int.sub_zero] at h3 h4 h5
  rw [if_neg (by omega),bh (by omega) (by omega)]
  refine Mo Z jz p xs hl hf (xs.length - (v+1).toNat) xs v (v+1) (by omega) (by omega) rfl h1 (by omega) rfl ?_
  obtain ⟨h4',Xg⟩:=List.getElem?_eq_some_iff.1 h4
  have Nd:=AU (fun x=>!p x) h4'
  rw [show v.toNat+1=(v+1).toNat by omega,Xg] at Nd
  rw [Nd,h5]
  simp only [Bool.not_true,Bool.false_eq_true,if_false]
  exact (List.filter_eq_self.2 (fun x hx=>by simp [h3 x hx])).symm
structure Ah {α:Type} (c:α→α→Int):Prop where
 neg:∀ a b,c a b=- c b a
 tr:∀ {a b d},c a b < 0→c b d < 0→c a d < 0
 cg:∀ {a b d},c a b=0→c b d < 0→c a d < 0
theorem Ah.zero {α:Type} {c:α→α→Int} (h:Ah c) (a:α):c a a=0:=by have:=h.neg a a;omega
theorem Ah.Xh {α:Type} {c:α→α→Int} (h:Ah c) {a b d:α} (h0:c a b=0) (h1:c d a < 0):c d b < 0:=by
 have n1:=h.neg d b
 have n2:=h.neg a b
 have n3:=h.neg d a
 by_cases e:c d b=0
 ·have:=h.cg e (d:=a)
  by_cases k:c b a < 0
  ·omega
  ·have e2:c b d=0:=by have:=h.neg b d;omega
   have:=h.cg e2 (d:=a) h1
   omega
 ·by_cases k:c d b < 0
  ·exact k
  ·have k1:c b d < 0:=by omega
   have k2:=h.tr k1 h1
   omega
theorem Ah.lex {α:Type} {c1 c2:α→α→Int} (h1:Ah c1) (h2:Ah c2):Ah (fun a b=>if c1 a b≠0 then c1 a b else c2 a b):=by
 refine ⟨fun a b=>?_,fun {a b d}=>?_,fun {a b d}=>?_⟩
 ·have n1:=h1.neg a b;have n2:=h2.neg a b
  repeat' split
  all_goals omega
 ·intro k1 k2
  by_cases e1:c1 a b=0
  ·by_cases e2:c1 b d=0
   ·have e3:c1 a d=0:=by
     have n1:=h1.neg a d
     have n2:=h1.neg b d
     have n3:=h1.neg a b
     by_cases k:c1 a d < 0
     ·have:=h1.cg (a:=b) (b:=a) (d:=d) (by omega) k;omega
     ·by_cases k':c1 d a < 0
      ·have:=h1.Xh (a:=a) (b:=b) (d:=d) e1 k';omega
      ·omega
    rw [if_neg (by simpa using e1)] at k1
    rw [if_neg (by simpa using e2)] at k2
    rw [if_neg (by simpa using e3)]
    exact h2.tr k1 k2
   ·rw [if_pos e2] at k2
    have:=h1.cg e1 k2
    rw [if_pos (by omega)];exact this
  ·rw [if_pos e1] at k1
   by_cases e2:c1 b d=0
   ·have:=h1.Xh e2 k1
    rw [if_pos (by omega)];exact this
   ·rw [if_pos e2] at k2
    have:=h1.tr k1 k2
    rw [if_pos (by omega)];exact this
 ·intro k1 k2
  by_cases e1:c1 a b=0
  ·rw [if_neg (by simpa using e1)] at k1
   by_cases e2:c1 b d=0
   ·have e3:c1 a d=0:=by
     have n1:=h1.neg a d
     have n2:=h1.neg b d
     have n3:=h1.neg a b
     by_cases k:c1 a d < 0
     ·have:=h1.cg (a:=b) (b:=a) (d:=d) (by omega) k;omega
     ·by_cases k':c1 d a < 0
      ·have:=h1.Xh (a:=a) (b:=b) (d:=d) e1 k';omega
      ·omega
    rw [if_neg (by simpa using e2)] at k2
    rw [if_neg (by simpa using e3)]
    exact h2.cg k1 k2
   ·rw [if_pos e2] at k2
    have:=h1.cg e1 k2
    rw [if_pos (by omega)];exact this
  ·rw [if_pos e1] at k1;exact absurd k1 e1
theorem Ah.on {α β:Type} {c:α→α→Int} (h:Ah c) (f:β→α):Ah (fun a b=>c (f a) (f b)):=
 ⟨fun a b=>h.neg _ _,fun h1 h2=>h.tr h1 h2,fun h1 h2=>h.cg h1 h2⟩
theorem Fm:∀ {a b c:List UInt8},Lib.compareBytes a b < 0→Lib.compareBytes b c < 0→Lib.compareBytes a c < 0
 | [],[],c,h1,h2=>by simp [Lib.compareBytes] at h1
 | [],_ :: _,[],h1,h2=>by simp [Lib.compareBytes] at h2
 | [],_ :: _,_ :: _,h1,h2=>by simp [Lib.compareBytes]
 | _ :: _,[],c,h1,h2=>by simp [Lib.compareBytes] at h1
 | _ :: _,_ :: _,[],h1,h2=>by simp [Lib.compareBytes] at h2
 | a :: la,b :: lb,c :: lc,h1,h2=>by
   simp only [Lib.compareBytes] at h1 h2 ⊢
   rcases Ag a b with h | h | h
   ·rcases Ag b c with k | k | k
    ·rw [if_pos (UInt8.lt_trans h k)];omega
    ·subst k;rw [if_pos h];omega
    ·rw [if_neg (vm k),if_pos k] at h2;omega
   ·subst h
    rcases Ag a c with k | k | k
    ·rw [if_pos k];omega
    ·subst k
     rw [if_neg (by simp),if_neg (by simp)] at h1 h2 ⊢
     exact Fm h1 h2
    ·rw [if_neg (vm k),if_pos k] at h2;omega
   ·rw [if_neg (vm h),if_pos h] at h1;omega
theorem Fo:Ah Lib.compareBytes:=⟨vn,Fm,fun h1 h2=>by rw [xD h1];exact h2⟩
end Go.Beacon
set_option linter.unusedSectionVars false
namespace Go.Beacon
open Go Go.Eng
class wq (K:Type) [vV K]:Prop where
 Ox:∀ a:K,vV.lt a a=false
 tr:∀ {a b c:K},vV.lt a b=true→vV.lt b c=true→vV.lt a c=true
 Pw:∀ a b:K,vV.lt a b=true∨a=b∨vV.lt b a=true
instance:wq Int where
 Ox a:=by show decide (a < a)=false;simp
 tr {a b c} h1 h2:=by
  have h1:decide (a < b)=true:=h1
  have h2:decide (b < c)=true:=h2
  show decide (a < c)=true
  simp only [decide_eq_true_eq] at *;omega
 Pw a b:=by
  show decide (a < b)=true∨a=b∨decide (b < a)=true
  simp only [decide_eq_true_eq];omega
instance:wq Bool where
 Ox a:=by cases a<;>rfl
 tr {a b c} h1 h2:=by revert h1 h2;cases a<;>cases b<;>cases c<;>decide
 Pw a b:=by cases a<;>cases b<;>decide
instance:wq (List UInt8) where
 Ox a:=by
  show Op.bytesLess a a=false
  rw [vo,xC];rfl
 tr {a b c} h1 h2:=by
  have h1:Op.bytesLess a b=true:=h1
  have h2:Op.bytesLess b c=true:=h2
  show Op.bytesLess a c=true
  rw [vo,decide_eq_true_eq] at *
  exact Fo.tr h1 h2
 Pw a b:=by
  show Op.bytesLess a b=true∨a=b∨Op.bytesLess b a=true
  rw [vo,vo,decide_eq_true_eq,decide_eq_true_eq]
  rcases Int.lt_trichotomy (Lib.compareBytes a b) 0 with h | h | h
  ·exact .inl h
  ·exact .inr (.inl (xD h))
  ·exact .inr (.inr (by have:=Fo.neg a b;omega))
section
variable {K V:Type} [DecidableEq K]
theorem xe (k:K):bM ([]:List (K×V)) k=none:=rfl
theorem gN (e:K×V) (m:List (K×V)) (k:K):bM (e :: m) k=if e.1=k then some e.2 else bM m k:=rfl
theorem Ai (m:List (K×V)) (k k':K):bM (mQ m k) k'=if k=k' then none else bM m k':=by
 induction m with
 | nil=>simp [mQ,bM]
 | cons e r ih=>
   unfold mQ at ih ⊢
   rw [List.filter_cons]
   by_cases h:e.1=k
   ·rw [if_neg (by simp [h]),ih,gN]
    by_cases h2:k=k'
    ·rw [if_pos h2,if_pos h2]
    ·rw [if_neg h2,if_neg h2,if_neg (by rw [h];exact h2)]
   ·rw [if_pos (by simp [h]),gN,ih,gN]
    by_cases h2:k=k'
    ·rw [if_pos h2,if_pos h2,if_neg (by rw [← h2];exact h)]
    ·rw [if_neg h2,if_neg h2]
variable [vV K]
theorem En (k:K) (v:V) (k':K):∀ (m:List (K×V)),bM m k=none→bM (u7 k v m) k'=if k=k' then some v else bM m k'
 | [],_=>by simp [u7,bM]
 | e :: r,h=>by
   rw [gN] at h
   have h1:e.1≠k:=fun he=>by rw [if_pos he] at h;cases h
   rw [if_neg h1] at h
   unfold u7
   split
   ·rw [gN,En k v k' r h,gN]
    by_cases h2:k=k'
    ·rw [if_pos h2,if_pos h2,if_neg (by rw [← h2];exact h1)]
    ·rw [if_neg h2,if_neg h2]
   ·rw [gN]
theorem ti (m:List (K×V)) (k:K) (v:V) (k':K):bM (kO m k v) k'=if k=k' then some v else bM m k':=by
 unfold kO
 rw [En k v k' _ (by rw [Ai,if_pos rfl]),Ai]
 by_cases h:k=k'
 ·rw [if_pos h,if_pos h]
 ·rw [if_neg h,if_neg h,if_neg h]
def SM (m:List (K×V)):Prop:=m.Pairwise (fun a b=>vV.lt a.1 b.1=true)
theorem SM.nil:SM ([]:List (K×V)):=List.Pairwise.nil
theorem SM.del {m:List (K×V)} (h:SM m) (k:K):SM (mQ m k):=List.Pairwise.filter _ h
variable [wq K]
theorem I1 (k:K) (v:V):∀ {m:List (K×V)},SM m→bM m k=none→SM (u7 k v m)
 | [],_,_=>by unfold u7 SM;simp
 | e :: r,h,hn=>by
   have h':=List.pairwise_cons.1 h
   rw [gN] at hn
   have h1:e.1≠k:=fun he=>by rw [if_pos he] at hn;cases hn
   rw [if_neg h1] at hn
   unfold u7
   split
   ·rename_i pB
    refine List.pairwise_cons.2 ⟨fun z hz=>?_,I1 k v h'.2 hn⟩
    rcases List.mem_cons.1 ((rb k v r).mem_iff.1 hz) with rfl | hz
    ·exact pB
    ·exact h'.1 z hz
   ·rename_i pB
    have hke:vV.lt k e.1=true:=by
     rcases wq.Pw k e.1 with h | h | h
     ·exact h
     ·exact absurd h.symm h1
     ·exact absurd h pB
    refine List.pairwise_cons.2 ⟨fun z hz=>?_,h⟩
    rcases List.mem_cons.1 hz with rfl | hz
    ·exact hke
    ·exact wq.tr hke (h'.1 z hz)
theorem SM.set {m:List (K×V)} (h:SM m) (k:K) (v:V):SM (kO m k v):=
 I1 k v (h.del k) (by rw [Ai,if_pos rfl])
theorem SM.none_lt {e:K×V} {m:List (K×V)} (h:SM (e :: m)) {k:K} (hk:vV.lt k e.1=true):bM (e :: m) k=none:=by
 rw [ps]
 intro z hz he
 have h':=List.pairwise_cons.1 h
 have hkz:vV.lt k z.1=true:=by
  rcases List.mem_cons.1 hz with rfl | hz
  ·exact hk
  ·exact wq.tr hk (h'.1 z hz)
 rw [he,wq.Ox] at hkz;cases hkz
theorem I2:∀ {m m':List (K×V)},SM m→SM m'→(∀ k,bM m k=bM m' k)→m=m'
 | [],[],_,_,_=>rfl
 | [],y :: B,_,_,h=>by have:=h y.1;rw [xe,gN,if_pos rfl] at this;cases this
 | x :: A,[],_,_,h=>by have:=h x.1;rw [xe,gN,if_pos rfl] at this;cases this
 | x :: A,y :: B,h1,h2,h=>by
   have Hh:=List.pairwise_cons.1 h1
   have Pc:=List.pairwise_cons.1 h2
   have Iu:x.1=y.1:=by
    rcases wq.Pw x.1 y.1 with c | c | c
    ·have e:=h x.1
     rw [gN,if_pos rfl,h2.none_lt c] at e;cases e
    ·exact c
    ·have e:=h y.1
     rw [gN y,if_pos rfl,h1.none_lt c] at e;cases e
   have e:=h x.1
   rw [gN,if_pos rfl,gN,if_pos Iu.symm] at e
   have hx:x=y:=Prod.ext Iu (Option.some.inj e)
   subst hx
   rw [I2 Hh.2 Pc.2 (fun k=>?_)]
   have:=h k
   rw [gN,gN] at this
   by_cases hk:x.1=k
   ·subst hk
    have a1:bM A x.1=none:=ps.2 fun z hz he=>by have:=Hh.1 z hz;rw [he,wq.Ox] at this;cases this
    have a2:bM B x.1=none:=ps.2 fun z hz he=>by have:=Pc.1 z hz;rw [he,wq.Ox] at this;cases this
    rw [a1,a2]
   ·rw [if_neg hk,if_neg hk] at this;exact this
theorem Mp (k:K) (v:V) (m:List (K×V)):(u7 k v m).length=m.length+1:=by
 have:=(rb k v m).length_eq;simpa using this
theorem Fp {m:List (K×V)} {k:K} {v:V} (hk:bM m k=none):(kO m k v).length=m.length+1:=by
 unfold kO;rw [Mp,u9 hk]
end
section
variable {E S A:Type}
end
section
variable {α:Type} (id:α→al)
end
end Go.Beacon
