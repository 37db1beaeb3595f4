/- Contracts of library functions that are not walked here: the shelf's, in the engine's words. -/
import Derived.Test.YtnchkajkgjkpmaaGreatDoorCore
import Derived.Test.YtnchkajkgjkpmaaGreatDoorInst
import Derived.Test.YtnchkajkgjkpmaaGreatDoorShelf
import Derived.Shelf.Strings.SlTrimAscii
set_option maxRecDepth 100000
set_option linter.unusedVariables false
namespace Go.Proofs.YtnchkajkgjkpmaaGreatDoor
open Go Go.Eng Go.Proofs Go.Beacon
theorem dD [GI:bD] {a b:ai} {r:Int} (h:Lib.compareBytes a b=r):Pu Tryz.prog 58 [.str a,.str b] (I r):=by
 intro w S vs hr hl ha
 match vs,hl with
 | ⟨[x,y]⟩,_=>
   have h1:=(ha 0 _ _ rfl rfl).dB
   have h2:=(ha 1 _ _ rfl rfl).dB
   subst h1 h2 h
   refine (Tryz.strings_Compare _ _ _).mono ?_
   rintro e w' ⟨rfl,rfl⟩
   exact ⟨_,_,[],S,rfl,rfl,.int _ _,hr,lD.refl _ _ _⟩
theorem Al [GI:bD] {s:ai} {c:Int} {r:Int} (h:xS s c=r):Pu Tryz.prog 147 [.str s,.int .u8 c] (I r):=by
 intro w S vs hr hl ha
 match vs,hl with
 | ⟨[x,y]⟩,_=>
   have h1:=(ha 0 _ _ rfl rfl).dB
   have h2:=(ha 1 _ _ rfl rfl).eU
   subst h1 h2 h
   refine (Tryz.strings_IndexByte _ _ _).mono ?_
   rintro e w' ⟨rfl,rfl⟩
   exact ⟨_,_,[],S,rfl,rfl,.int _ _,hr,lD.refl _ _ _⟩
theorem mN {s:ai} {r:Bool} (h:wQ s=some r):Pu Tryz.prog 155 [.str s] (.bool r):=by
 intro w S vs hr hl ha
 match vs,hl with
 | ⟨[x]⟩,_=>
   have h1:=(ha 0 _ _ rfl rfl).dB
   subst h1
   unfold wQ at h
   split at h
   ·rename_i hs
    obtain rfl:=Option.some.inj h
    refine (Any.utf8_ValidString Tryz.NY ⟨s.toArray⟩ w (by simpa [ByteArray.size] using hs) (UG hr)).mono ?_
    rintro e w' ⟨rfl,hb⟩
    have hE:=HU hb
    exact ⟨_,_,[],S,rfl,rfl,.bool _,hr.ext hE,lD.ext hr.slt hE⟩
   ·cases h
theorem za {s cs r:ai} (h:HV s cs=some r):Pu Tryz.prog 146 [.str s,.str cs] (.str r):=by
 intro w S vs hr hl ha
 match vs,hl with
 | ⟨[x,y]⟩,_=>
   have h1:=(ha 0 _ _ rfl rfl).dB
   have h2:=(ha 1 _ _ rfl rfl).dB
   subst h1 h2
   unfold HV at h
   split at h
   ·rename_i hs
    obtain rfl:=Option.some.inj h
    refine (Any.strings_Trim_laid Tryz.UH (by kernel_rfl) ⟨s.toArray⟩ ⟨cs.toArray⟩ w (by simpa [ByteArray.size] using hs.1) (by simpa [ByteArray.size] using hs.2.1) (by simpa using ascii_of_all hs.2.2)).mono ?_
    rintro e w' ⟨rfl,hb⟩
    have hE:=HU hb
    exact ⟨_,_,[],S,rfl,rfl,.str _,hr.ext hE,lD.ext hr.slt hE⟩
   ·cases h
theorem uG {s sep:ai} {r:List ai} (h:A9 s sep=some r):aI Tryz.prog 104 [.str s,.str sep] [] (T1 (fun d=>[(d,.arr 1 (r.map AV.str))]) (fun d=>.sl 1 d 0 r.length)):=by
 intro w S vs hr hl ha
 match vs,hl with
 | ⟨[x,y]⟩,_=>
   have h1:=(ha 0 _ _ rfl rfl).dB
   have h2:=(ha 1 _ _ rfl rfl).dB
   subst h1 h2
   unfold A9 at h
   split at h
   ·rename_i hs
    obtain ⟨us,m,h3,h4⟩:=(hr.hJ 0 (Rw .i64) rfl).2
    refine (Tryz.strings_Split ⟨s.toArray⟩ ⟨sep.toArray⟩ m w (by simpa [ByteArray.size] using hs.1) (by rw [Fw w 0 0 h3];exact h4) (by simpa [ByteArray.size] using hs.2)).mono ?_
    rintro e w' ⟨rfl,rfl⟩
    obtain rfl:=Option.some.inj h
    have hlen:((Lib.splitB ⟨sep.toArray⟩ 0 (Lib.countB ⟨s.toArray⟩ ⟨sep.toArray⟩) ⟨s.toArray⟩).map fun b=>b.data.toList).length=Lib.countB ⟨s.toArray⟩ ⟨sep.toArray⟩+1:=by
     rw [List.length_map];exact Lib.splitB_all _ (by simpa [ByteArray.size] using hs.2) 0 _ _ rfl
    rw [← hlen]
    generalize Lib.splitB ⟨sep.toArray⟩ 0 (Lib.countB ⟨s.toArray⟩ ⟨sep.toArray⟩) ⟨s.toArray⟩=L
    have K:=fun E=>MA hr (L.map fun b=>b.data.toList) E (vs:=(L.map Value.string).toArray) (by rw [List.map_map];rfl)
    exact ⟨_,_,_,S,rfl,⟨_,rfl,rfl⟩,(K _).1,(K _).2.1,(K _).2.2⟩
   ·cases h
theorem Xj [GI:bD] {w:World} {S:Nat→Prop} {a b c:AV} {x y z:Value} (h1:At w S a x) (h2:At w S b y) (h3:At w S c z):At w S (.pT [a,b,c]) (.tuple #[x,y,z]):=by
 refine .pT _ _ rfl (fun i c v hc hv=>?_)
 match i with
 | 0=>cases hc;cases hv;exact h1
 | 1=>cases hc;cases hv;exact h2
 | 2=>cases hc;cases hv;exact h3
 | i+3=>simp at hc
theorem Pk (w:World) (k:Nat) (hd:¬ bD.dr):Ext w (w.drewN k):=
 ⟨rfl,rfl,rfl,Nat.le_refl _,fun n hn=>rfl,fun q=>absurd q hd⟩
theorem GV {s sep:ai} {r:ai×ai×Bool} (h:RC s sep=some r):Pu Tryz.prog 185 [.str s,.str sep] (.pT [.str r.1,.str r.2.1,.bool r.2.2]):=by
 intro w S vs hr hl ha
 match vs,hl with
 | ⟨[x,y]⟩,_=>
   have h1:=(ha 0 _ _ rfl rfl).dB
   have h2:=(ha 1 _ _ rfl rfl).dB
   subst h1 h2
   unfold RC at h
   split at h
   ·rename_i hs
    obtain rfl:=Option.some.inj h
    obtain ⟨us,m,h3,h4⟩:=(hr.hJ 0 (Rw .i64) rfl).2
    refine (Tryz.strings_Cut ⟨s.toArray⟩ ⟨sep.toArray⟩ m w (by simpa [ByteArray.size] using hs) (by show w.cell? ⟨0,0,none⟩=some (.int .i64 m);rw [Fw w 0 0 h3];exact h4)).mono ?_
    rintro e w' ⟨rfl,k,rfl⟩
    have hE:=Pk w k id
    exact ⟨_,_,[],S,rfl,rfl,Xj (.str _) (.str _) (.bool _),hr.ext hE,lD.ext hr.slt hE⟩
   ·cases h
theorem D5 {s t:ai} {r:Int} (h:ME s t=some r):Pu Tryz.prog 236 [.str s,.str t] (I r):=by
 intro w S vs hr hl ha
 match vs,hl with
 | ⟨[x,y]⟩,_=>
   have h1:=(ha 0 _ _ rfl rfl).dB
   have h2:=(ha 1 _ _ rfl rfl).dB
   subst h1 h2
   unfold ME at h
   split at h
   ·obtain rfl:=Option.some.inj h
    refine (Tryz.strings_Index_one _ _ _).mono ?_
    rintro e w' ⟨rfl,rfl⟩
    exact ⟨_,_,[],S,rfl,rfl,.int _ _,hr,lD.refl _ _ _⟩
   ·rename_i c d Tk
    unfold IQ at h
    split at h
    ·rename_i hs
     obtain rfl:=Option.some.inj h
     obtain ⟨us,m,h3,h4⟩:=(hr.hJ 0 (Rw .i64) rfl).2
     refine (Tryz.strings_Index ⟨s.toArray⟩ ⟨[c,d].toArray⟩ m w (by simpa [ByteArray.size] using hs) (by rw [Fw w 0 0 h3];exact h4)).mono ?_
     rintro e w' ⟨rfl,rfl⟩
     exact ⟨_,_,[],S,rfl,rfl,.int _ _,hr,lD.refl _ _ _⟩
    ·cases h
   ·cases h
end Go.Proofs.YtnchkajkgjkpmaaGreatDoor
