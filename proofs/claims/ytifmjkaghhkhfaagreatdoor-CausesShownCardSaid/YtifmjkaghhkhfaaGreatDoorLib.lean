/- Contracts of library functions that are not walked here: the shelf's, in the engine's words. -/
import Derived.Test.YtifmjkaghhkhfaaGreatDoorCore
import Derived.Test.YtifmjkaghhkhfaaGreatDoorInst
import Derived.Test.YtifmjkaghhkhfaaGreatDoorShelf
import Derived.Shelf.Strings.SlTrimAscii
set_option maxRecDepth 100000
set_option linter.unusedVariables false
namespace Go.Proofs.YtifmjkaghhkhfaaGreatDoor
open Go Go.Eng Go.Proofs Go.Beacon
theorem df [GI:bA] {a b:aS} {r:Int} (h:Lib.compareBytes a b=r):Pu Tryz.prog 85 [.str a,.str b] (I r):=by
 intro w S vs hr hl ha
 match vs,hl with
 | ⟨[x,y]⟩,_=>
   have h1:=(ha 0 _ _ rfl rfl).gO
   have h2:=(ha 1 _ _ rfl rfl).gO
   subst h1 h2 h
   refine (Tryz.strings_Compare _ _ _).mono ?_
   rintro e w' ⟨rfl,rfl⟩
   exact ⟨_,_,[],S,rfl,rfl,.int _ _,hr,lz.refl _ _ _⟩
theorem wP [GI:bA] {s:aS} {c:Int} {r:Int} (h:uF s c=r):Pu Tryz.prog 143 [.str s,.int .u8 c] (I r):=by
 intro w S vs hr hl ha
 match vs,hl with
 | ⟨[x,y]⟩,_=>
   have h1:=(ha 0 _ _ rfl rfl).gO
   have h2:=(ha 1 _ _ rfl rfl).eB
   subst h1 h2 h
   refine (Tryz.strings_IndexByte _ _ _).mono ?_
   rintro e w' ⟨rfl,rfl⟩
   exact ⟨_,_,[],S,rfl,rfl,.int _ _,hr,lz.refl _ _ _⟩
theorem Bj {s cs r:aS} (h:E1 s cs=some r):Pu Tryz.prog 142 [.str s,.str cs] (.str r):=by
 intro w S vs hr hl ha
 match vs,hl with
 | ⟨[x,y]⟩,_=>
   have h1:=(ha 0 _ _ rfl rfl).gO
   have h2:=(ha 1 _ _ rfl rfl).gO
   subst h1 h2
   unfold E1 at h
   split at h
   ·rename_i hs
    obtain rfl:=Option.some.inj h
    refine (Any.strings_Trim_laid Tryz.Ma (by kernel_rfl) ⟨s.toArray⟩ ⟨cs.toArray⟩ w (by simpa [ByteArray.size] using hs.1) (by simpa [ByteArray.size] using hs.2.1) (by simpa using ascii_of_all hs.2.2)).mono ?_
    rintro e w' ⟨rfl,hb⟩
    have hE:=H4 hb
    exact ⟨_,_,[],S,rfl,rfl,.str _,hr.ext hE,lz.ext hr.slt hE⟩
   ·cases h
end Go.Proofs.YtifmjkaghhkhfaaGreatDoor
