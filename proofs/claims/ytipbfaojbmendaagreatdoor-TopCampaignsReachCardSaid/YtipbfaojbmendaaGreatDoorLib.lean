/- Contracts of library functions that are not walked here: the shelf's, in the engine's words. -/
import Derived.Test.YtipbfaojbmendaaGreatDoorCore
import Derived.Test.YtipbfaojbmendaaGreatDoorInst
import Derived.Test.YtipbfaojbmendaaGreatDoorShelf
open ByteArray renaming size→aa
open Option renaming some.inj→ac
set_option maxRecDepth 100000
set_option linter.unusedVariables false
namespace Go.Proofs.YtipbfaojbmendaaGreatDoor
open Go Go.Eng Go.Proofs Go.Beacon
theorem mT [GI:ck] {a b:bq} {r:Int} (h:Lib.compareBytes a b=r):Pu Tryz.prog 73 [.str a,.str b] (I r):=by
 intro w S vs hr hl ha
 match vs,hl with
 | ⟨[x,y]⟩,_=>
   have h1:=(ha 0 _ _ rfl rfl).gV
   have h2:=(ha 1 _ _ rfl rfl).gV
   subst h1 h2 h
   refine (Tryz.strings_Compare _ _ _).mono ?_
   rintro e w' ⟨rfl,rfl⟩
   exact ⟨_,_,[],S,rfl,rfl,.int _ _,hr,lr.refl _ _ _⟩
theorem wx [GI:ck] {s p r:bq} (h:Lib.trimPrefix s p=r):Pu Tryz.prog 104 [.str s,.str p] (.str r):=by
 intro w S vs hr hl ha
 match vs,hl with
 | ⟨[x,y]⟩,_=>
   have h1:=(ha 0 _ _ rfl rfl).gV
   have h2:=(ha 1 _ _ rfl rfl).gV
   subst h1 h2 h
   refine (Tryz.strings_TrimPrefix _ _ _).mono ?_
   rintro e w' ⟨rfl,rfl⟩
   exact ⟨_,_,[],S,rfl,rfl,.str _,hr,lr.refl _ _ _⟩
theorem Bh {s sep:bq} {r:List bq} (h:Cs s sep=some r):aY Tryz.prog 63 [.str s,.str sep] [] (T1 (fun d=>[(d,.arr 1 (r.map AV.str))]) (fun d=>.sl 1 d 0 r.length)):=by
 intro w S vs hr hl ha
 match vs,hl with
 | ⟨[x,y]⟩,_=>
   have h1:=(ha 0 _ _ rfl rfl).gV
   have h2:=(ha 1 _ _ rfl rfl).gV
   subst h1 h2
   unfold Cs at h
   split at h
   ·rename_i hs
    obtain ⟨us,m,h3,h4⟩:=(hr.ib 0 (Tc .i64) rfl).2
    refine (Tryz.strings_Split ⟨s.toArray⟩ ⟨sep.toArray⟩ m w (by simpa [aa] using hs.1) (by rw [Cl w 0 0 h3];exact h4) (by simpa [aa] using hs.2)).mono ?_
    rintro e w' ⟨rfl,rfl⟩
    obtain rfl:=ac h
    have hlen:((Lib.splitB ⟨sep.toArray⟩ 0 (Lib.countB ⟨s.toArray⟩ ⟨sep.toArray⟩) ⟨s.toArray⟩).map fun b=>b.data.toList).length=Lib.countB ⟨s.toArray⟩ ⟨sep.toArray⟩+1:=by
     rw [List.length_map];exact Lib.splitB_all _ (by simpa [aa] using hs.2) 0 _ _ rfl
    rw [← hlen]
    generalize Lib.splitB ⟨sep.toArray⟩ 0 (Lib.countB ⟨s.toArray⟩ ⟨sep.toArray⟩) ⟨s.toArray⟩=L
    have K:=fun E=>IN hr (L.map fun b=>b.data.toList) E (vs:=(L.map Value.string).toArray) (by rw [List.map_map];rfl)
    exact ⟨_,_,_,S,rfl,⟨_,rfl,rfl⟩,(K _).1,(K _).2.1,(K _).2.2⟩
   ·cases h
theorem I3 [GI:ck] {w:World} {S:Nat→Prop} {a b:AV} {x y:Value} (h1:At w S a x) (h2:At w S b y):At w S (.ma [a,b]) (.tuple #[x,y]):=by
 refine .ma _ _ rfl (fun i c v hc hv=>?_)
 match i with
 | 0=>cases hc;cases hv;exact h1
 | 1=>cases hc;cases hv;exact h2
 | i+2=>simp at hc
theorem Cu {s:bq} {r:Int×Bool} (h:G2 s=some r):PuE Tryz.prog 105 [.str s] r.1 r.2:=by
 intro w S vs hr hl ha
 match vs,hl with
 | ⟨[x]⟩,_=>
   have h1:=(ha 0 _ _ rfl rfl).gV
   subst h1
   unfold G2 at h
   split at h
   ·rename_i hs
    have lp:(⟨s.toArray⟩:ByteArray).size=s.length:=by simp [aa]
    obtain rfl:=ac h
    cases hA:Lib.atoiAll s with
    | ok v=>
      refine (Any.strconv_Atoi_ok Tryz.Ct ⟨s.toArray⟩ (by omega) v (by simpa using hA) w).mono ?_
      rintro e w' ⟨rfl,hw⟩
      have hE:Ext w w':=by
       rcases hw with rfl | ⟨t,rfl⟩
       ·exact Ext.refl _
       ·exact zW (Lib.bytesWorld_below _ _ _)
      exact ⟨_,_,[],S,rfl,⟨_,rfl,.inl ⟨rfl,rfl⟩⟩,I3 (.int _ _) (.raw _),hr.ext hE,lr.ext hr.slt hE⟩
    | range=>
      obtain ⟨us,ev,h3,h4,h5⟩:=(hr.ib 2 Ng rfl).2
      refine (Any.strconv_Atoi_range Tryz.Ct ⟨s.toArray⟩ (by omega) (by simpa using hA) ev w (by show w.cell? ⟨2,0,none⟩=some ev;rw [Cl w 2 0 h3];exact h4) h5).mono ?_
      rintro e w' ⟨N,rfl,_,_,hb⟩
      have hE:=zW hb
      exact ⟨_,_,[],S,rfl,⟨_,rfl,.inr ⟨⟨_,_,rfl⟩,rfl⟩⟩,by simpa using I3 (.int _ _) (.raw _),hr.ext hE,lr.ext hr.slt hE⟩
    | _=>
      obtain ⟨us,ev,h3,h4,h5⟩:=(hr.ib 1 Ng rfl).2
      refine (Any.strconv_Atoi_syntax Tryz.Ct ⟨s.toArray⟩ (by omega) (by simpa using hA) ev w (by show w.cell? ⟨1,0,none⟩=some ev;rw [Cl w 1 0 h3];exact h4) h5).mono ?_
      rintro e w' ⟨N,rfl,_,_,hb⟩
      have hE:=zW hb
      exact ⟨_,_,[],S,rfl,⟨_,rfl,.inr ⟨⟨_,_,rfl⟩,rfl⟩⟩,I3 (.int _ _) (.raw _),hr.ext hE,lr.ext hr.slt hE⟩
   ·cases h
end Go.Proofs.YtipbfaojbmendaaGreatDoor
