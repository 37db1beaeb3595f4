/- Contracts of library functions that are not walked here: the shelf's, in the engine's words. -/
import Derived.Test.YtnchkajkgjkpmaaGreatDoorCore
import Derived.Test.YtnchkajkgjkpmaaGreatDoorInst
import Derived.Test.YtnchkajkgjkpmaaGreatDoorShelf
import Derived.Shelf.Strings.SlTrimAscii
set_option maxRecDepth 100000
set_option linter.unusedVariables false
namespace Go.Proofs.YtnchkajkgjkpmaaGreatDoor
open Go Go.Eng Go.Proofs Go.Beacon
theorem eF [GI:bc] {a b:ae} {r:Int} (h:Lib.compareBytes a b=r):Pu Tryz.prog 58 [.str a,.str b] (I r):=by
 intro w S vs hr hl ha
 match vs,hl with
 | ⟨[x,y]⟩,_=>
   have h1:=(ha 0 _ _ rfl rfl).dz
   have h2:=(ha 1 _ _ rfl rfl).dz
   subst h1 h2 h
   refine (Tryz.strings_Compare _ _ _).mono ?_
   rintro e w' ⟨rfl,rfl⟩
   exact ⟨_,_,[],S,rfl,rfl,.int _ _,hr,lB.refl _ _ _⟩
theorem zJ [GI:bc] {s:ae} {c:Int} {r:Int} (h:xw s c=r):Pu Tryz.prog 147 [.str s,.int .u8 c] (I r):=by
 intro w S vs hr hl ha
 match vs,hl with
 | ⟨[x,y]⟩,_=>
   have h1:=(ha 0 _ _ rfl rfl).dz
   have h2:=(ha 1 _ _ rfl rfl).gy
   subst h1 h2 h
   refine (Tryz.strings_IndexByte _ _ _).mono ?_
   rintro e w' ⟨rfl,rfl⟩
   exact ⟨_,_,[],S,rfl,rfl,.int _ _,hr,lB.refl _ _ _⟩
theorem mK {s:ae} {r:Bool} (h:wv s=some r):Pu Tryz.prog 155 [.str s] (.bool r):=by
 intro w S vs hr hl ha
 match vs,hl with
 | ⟨[x]⟩,_=>
   have h1:=(ha 0 _ _ rfl rfl).dz
   subst h1
   unfold wv at h
   split at h
   ·rename_i hs
    obtain rfl:=Option.some.inj h
    refine (Any.utf8_ValidString Tryz.MD ⟨s.toArray⟩ w (by simpa [ByteArray.size] using hs) (Sr hr)).mono ?_
    rintro e w' ⟨rfl,hb⟩
    have hE:=GM hb
    exact ⟨_,_,[],S,rfl,rfl,.bool _,hr.ext hE,lB.ext hr.slt hE⟩
   ·cases h
theorem yD {s cs r:ae} (h:GN s cs=some r):Pu Tryz.prog 146 [.str s,.str cs] (.str r):=by
 intro w S vs hr hl ha
 match vs,hl with
 | ⟨[x,y]⟩,_=>
   have h1:=(ha 0 _ _ rfl rfl).dz
   have h2:=(ha 1 _ _ rfl rfl).dz
   subst h1 h2
   unfold GN at h
   split at h
   ·rename_i hs
    obtain rfl:=Option.some.inj h
    refine (Any.strings_Trim_laid Tryz.Ss (by kernel_rfl) ⟨s.toArray⟩ ⟨cs.toArray⟩ w (by simpa [ByteArray.size] using hs.1) (by simpa [ByteArray.size] using hs.2.1) (by simpa using ascii_of_all hs.2.2)).mono ?_
    rintro e w' ⟨rfl,hb⟩
    have hE:=GM hb
    exact ⟨_,_,[],S,rfl,rfl,.str _,hr.ext hE,lB.ext hr.slt hE⟩
   ·cases h
theorem uh {s sep:ae} {r:List ae} (h:AD s sep=some r):ACall Tryz.prog 104 [.str s,.str sep] [] (T1 (fun d=>[(d,.arr 1 (r.map AV.str))]) (fun d=>.sl 1 d 0 r.length)):=by
 intro w S vs hr hl ha
 match vs,hl with
 | ⟨[x,y]⟩,_=>
   have h1:=(ha 0 _ _ rfl rfl).dz
   have h2:=(ha 1 _ _ rfl rfl).dz
   subst h1 h2
   unfold AD at h
   split at h
   ·rename_i hs
    obtain ⟨us,m,h3,h4⟩:=(hr.ib 0 (PQ .i64) rfl).2
    refine (Tryz.strings_Split ⟨s.toArray⟩ ⟨sep.toArray⟩ m w (by simpa [ByteArray.size] using hs.1) (by rw [EA w 0 0 h3];exact h4) (by simpa [ByteArray.size] using hs.2)).mono ?_
    rintro e w' ⟨rfl,rfl⟩
    obtain rfl:=Option.some.inj h
    have hlen:((Lib.splitB ⟨sep.toArray⟩ 0 (Lib.countB ⟨s.toArray⟩ ⟨sep.toArray⟩) ⟨s.toArray⟩).map fun b=>b.data.toList).length=Lib.countB ⟨s.toArray⟩ ⟨sep.toArray⟩+1:=by
     rw [List.length_map];exact Lib.splitB_all _ (by simpa [ByteArray.size] using hs.2) 0 _ _ rfl
    rw [← hlen]
    generalize Lib.splitB ⟨sep.toArray⟩ 0 (Lib.countB ⟨s.toArray⟩ ⟨sep.toArray⟩) ⟨s.toArray⟩=L
    have K:=fun E=>Lj hr (L.map fun b=>b.data.toList) E (vs:=(L.map Value.string).toArray) (by rw [List.map_map];rfl)
    exact ⟨_,_,_,S,rfl,⟨_,rfl,rfl⟩,(K _).1,(K _).2.1,(K _).2.2⟩
   ·cases h
theorem Vh [GI:bc] {w:World} {S:Nat→Prop} {a b c:AV} {x y z:Value} (h1:At w S a x) (h2:At w S b y) (h3:At w S c z):At w S (.pj [a,b,c]) (.tuple #[x,y,z]):=by
 refine .pj _ _ rfl (fun i c v hc hv=>?_)
 match i with
 | 0=>cases hc;cases hv;exact h1
 | 1=>cases hc;cases hv;exact h2
 | 2=>cases hc;cases hv;exact h3
 | i+3=>simp at hc
theorem NS (w:World) (k:Nat) (hd:¬ bc.dr):Ext w (w.drewN k):=
 ⟨rfl,rfl,rfl,Nat.le_refl _,fun n hn=>rfl,fun q=>absurd q hd⟩
theorem FN {s sep:ae} {r:ae×ae×Bool} (h:PX s sep=some r):Pu Tryz.prog 185 [.str s,.str sep] (.pj [.str r.1,.str r.2.1,.bool r.2.2]):=by
 intro w S vs hr hl ha
 match vs,hl with
 | ⟨[x,y]⟩,_=>
   have h1:=(ha 0 _ _ rfl rfl).dz
   have h2:=(ha 1 _ _ rfl rfl).dz
   subst h1 h2
   unfold PX at h
   split at h
   ·rename_i hs
    obtain rfl:=Option.some.inj h
    obtain ⟨us,m,h3,h4⟩:=(hr.ib 0 (PQ .i64) rfl).2
    refine (Tryz.strings_Cut ⟨s.toArray⟩ ⟨sep.toArray⟩ m w (by simpa [ByteArray.size] using hs) (by show w.cell? ⟨0,0,none⟩=some (.int .i64 m);rw [EA w 0 0 h3];exact h4)).mono ?_
    rintro e w' ⟨rfl,k,rfl⟩
    have hE:=NS w k id
    exact ⟨_,_,[],S,rfl,rfl,Vh (.str _) (.str _) (.bool _),hr.ext hE,lB.ext hr.slt hE⟩
   ·cases h
theorem Dl {s t:ae} {r:Int} (h:Ln s t=some r):Pu Tryz.prog 236 [.str s,.str t] (I r):=by
 intro w S vs hr hl ha
 match vs,hl with
 | ⟨[x,y]⟩,_=>
   have h1:=(ha 0 _ _ rfl rfl).dz
   have h2:=(ha 1 _ _ rfl rfl).dz
   subst h1 h2
   unfold Ln at h
   split at h
   ·obtain rfl:=Option.some.inj h
    refine (Tryz.strings_Index_one _ _ _).mono ?_
    rintro e w' ⟨rfl,rfl⟩
    exact ⟨_,_,[],S,rfl,rfl,.int _ _,hr,lB.refl _ _ _⟩
   ·rename_i c d Rk
    unfold HF at h
    split at h
    ·rename_i hs
     obtain rfl:=Option.some.inj h
     obtain ⟨us,m,h3,h4⟩:=(hr.ib 0 (PQ .i64) rfl).2
     refine (Tryz.strings_Index ⟨s.toArray⟩ ⟨[c,d].toArray⟩ m w (by simpa [ByteArray.size] using hs) (by rw [EA w 0 0 h3];exact h4)).mono ?_
     rintro e w' ⟨rfl,rfl⟩
     exact ⟨_,_,[],S,rfl,rfl,.int _ _,hr,lB.refl _ _ _⟩
    ·cases h
   ·cases h
end Go.Proofs.YtnchkajkgjkpmaaGreatDoor
