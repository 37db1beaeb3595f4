/- Contracts of library functions that are not walked here: the shelf's, in the engine's words. -/
import Derived.Test.YtpibecbdhjbanaaGreatDoorCore
import Derived.Test.YtpibecbdhjbanaaGreatDoorInst
import Derived.Test.YtpibecbdhjbanaaGreatDoorShelf
set_option maxRecDepth 100000
set_option linter.unusedVariables false
namespace Go.Proofs.YtpibecbdhjbanaaGreatDoor
open Go Go.Eng Go.Proofs Go.Beacon
theorem ph [GI:bD] {a b:bq} {r:Int} (h:Lib.compareBytes a b=r):Pu Tryz.prog 103 [.str a,.str b] (I r):=by
 intro w S vs hr hl ha
 match vs,hl with
 | ⟨[x,y]⟩,_=>
   have h1:=(ha 0 _ _ rfl rfl).et
   have h2:=(ha 1 _ _ rfl rfl).et
   subst h1 h2 h
   refine (Tryz.strings_Compare _ _ _).mono ?_
   rintro e w' ⟨rfl,rfl⟩
   exact ⟨_,_,[],S,rfl,rfl,.int _ _,hr,iF.refl _ _ _⟩
theorem td [GI:bD] {s:bq} {c:Int} {r:Int} (h:tX s c=r):Pu Tryz.prog 139 [.str s,.int .u8 c] (I r):=by
 intro w S vs hr hl ha
 match vs,hl with
 | ⟨[x,y]⟩,_=>
   have h1:=(ha 0 _ _ rfl rfl).et
   have h2:=(ha 1 _ _ rfl rfl).er
   subst h1 h2 h
   refine (Tryz.strings_IndexByte _ _ _).mono ?_
   rintro e w' ⟨rfl,rfl⟩
   exact ⟨_,_,[],S,rfl,rfl,.int _ _,hr,iF.refl _ _ _⟩
theorem si [GI:bD] {s p r:bq} (h:Lib.trimPrefix s p=r):Pu Tryz.prog 179 [.str s,.str p] (.str r):=by
 intro w S vs hr hl ha
 match vs,hl with
 | ⟨[x,y]⟩,_=>
   have h1:=(ha 0 _ _ rfl rfl).et
   have h2:=(ha 1 _ _ rfl rfl).et
   subst h1 h2 h
   refine (Tryz.strings_TrimPrefix _ _ _).mono ?_
   rintro e w' ⟨rfl,rfl⟩
   exact ⟨_,_,[],S,rfl,rfl,.str _,hr,iF.refl _ _ _⟩
theorem wL {s sep:bq} {r:List bq} (h:xZ s sep=some r):aF Tryz.prog 110 [.str s,.str sep] [] (T1 (fun d=>[(d,.arr 1 (r.map AV.str))]) (fun d=>.sl 1 d 0 r.length)):=by
 intro w S vs hr hl ha
 match vs,hl with
 | ⟨[x,y]⟩,_=>
   have h1:=(ha 0 _ _ rfl rfl).et
   have h2:=(ha 1 _ _ rfl rfl).et
   subst h1 h2
   unfold xZ at h
   split at h
   ·rename_i hs
    obtain ⟨us,m,h3,h4⟩:=(hr.fU 0 (LJ .i64) rfl).2
    refine (Tryz.strings_Split ⟨s.toArray⟩ ⟨sep.toArray⟩ m w (by simpa [ByteArray.size] using hs.1) (by rw [xT w 0 0 h3];exact h4) (by simpa [ByteArray.size] using hs.2)).mono ?_
    rintro e w' ⟨rfl,rfl⟩
    obtain rfl:=Option.some.inj h
    have hlen:((Lib.splitB ⟨sep.toArray⟩ 0 (Lib.countB ⟨s.toArray⟩ ⟨sep.toArray⟩) ⟨s.toArray⟩).map fun b=>b.data.toList).length=Lib.countB ⟨s.toArray⟩ ⟨sep.toArray⟩+1:=by
     rw [List.length_map];exact Lib.splitB_all _ (by simpa [ByteArray.size] using hs.2) 0 _ _ rfl
    rw [← hlen]
    generalize Lib.splitB ⟨sep.toArray⟩ 0 (Lib.countB ⟨s.toArray⟩ ⟨sep.toArray⟩) ⟨s.toArray⟩=L
    have K:=fun E=>Dq hr (L.map fun b=>b.data.toList) E (vs:=(L.map Value.string).toArray) (by rw [List.map_map];rfl)
    exact ⟨_,_,_,S,rfl,⟨_,rfl,rfl⟩,(K _).1,(K _).2.1,(K _).2.2⟩
   ·cases h
theorem Dz [GI:bD] {w:World} {S:Nat→Prop} {a b:AV} {x y:Value} (h1:At w S a x) (h2:At w S b y):At w S (.kj [a,b]) (.tuple #[x,y]):=by
 refine .kj _ _ rfl (fun i c v hc hv=>?_)
 match i with
 | 0=>cases hc;cases hv;exact h1
 | 1=>cases hc;cases hv;exact h2
 | i+2=>simp at hc
theorem x4 {s:bq} {r:Int×Bool} (h:B8 s=some r):R3 Tryz.prog 180 [.str s] r.1 r.2:=by
 intro w S vs hr hl ha
 match vs,hl with
 | ⟨[x]⟩,_=>
   have h1:=(ha 0 _ _ rfl rfl).et
   subst h1
   unfold B8 at h
   split at h
   ·rename_i hs
    have hJ:(⟨s.toArray⟩:ByteArray).size=s.length:=by simp [ByteArray.size]
    obtain rfl:=Option.some.inj h
    cases hA:Lib.atoiAll s with
    | ok v=>
      refine (Any.strconv_Atoi_ok Tryz.x3 ⟨s.toArray⟩ (by omega) v (by simpa using hA) w).mono ?_
      rintro e w' ⟨rfl,hw⟩
      have hE:Ext w w':=by
       rcases hw with rfl | ⟨t,rfl⟩
       ·exact Ext.refl _
       ·exact vD (Lib.bytesWorld_below _ _ _)
      exact ⟨_,_,[],S,rfl,⟨_,rfl,.inl ⟨rfl,rfl⟩⟩,Dz (.int _ _) (.raw _),hr.ext hE,iF.ext hr.slt hE⟩
    | range=>
      obtain ⟨us,ev,h3,h4,h5⟩:=(hr.fU 2 Hp rfl).2
      refine (Any.strconv_Atoi_range Tryz.x3 ⟨s.toArray⟩ (by omega) (by simpa using hA) ev w (by show w.cell? ⟨2,0,none⟩=some ev;rw [xT w 2 0 h3];exact h4) h5).mono ?_
      rintro e w' ⟨N,rfl,_,_,hb⟩
      have hE:=vD hb
      exact ⟨_,_,[],S,rfl,⟨_,rfl,.inr ⟨⟨_,_,rfl⟩,rfl⟩⟩,by simpa using Dz (.int _ _) (.raw _),hr.ext hE,iF.ext hr.slt hE⟩
    | _=>
      obtain ⟨us,ev,h3,h4,h5⟩:=(hr.fU 1 Hp rfl).2
      refine (Any.strconv_Atoi_syntax Tryz.x3 ⟨s.toArray⟩ (by omega) (by simpa using hA) ev w (by show w.cell? ⟨1,0,none⟩=some ev;rw [xT w 1 0 h3];exact h4) h5).mono ?_
      rintro e w' ⟨N,rfl,_,_,hb⟩
      have hE:=vD hb
      exact ⟨_,_,[],S,rfl,⟨_,rfl,.inr ⟨⟨_,_,rfl⟩,rfl⟩⟩,Dz (.int _ _) (.raw _),hr.ext hE,iF.ext hr.slt hE⟩
   ·cases h
end Go.Proofs.YtpibecbdhjbanaaGreatDoor
