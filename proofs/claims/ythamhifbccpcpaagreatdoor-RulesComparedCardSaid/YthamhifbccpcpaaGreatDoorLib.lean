/- Contracts of library functions that are not walked here: the shelf's, in the engine's words. -/
import Derived.Test.YthamhifbccpcpaaGreatDoorCore
import Derived.Test.YthamhifbccpcpaaGreatDoorInst
import Derived.Test.YthamhifbccpcpaaGreatDoorShelf
import Derived.Shelf.Strings.SlTrimAscii
set_option maxRecDepth 100000
set_option linter.unusedVariables false
namespace Go.Proofs.YthamhifbccpcpaaGreatDoor
open Go Go.Eng Go.Proofs Go.Beacon
theorem ei [GI:bI] {a b:aO} {r:Int} (h:Lib.compareBytes a b=r):Pu Tryz.prog 58 [.str a,.str b] (I r):=by
 intro w S vs hr hl ha
 match vs,hl with
 | ⟨[x,y]⟩,_=>
   have h1:=(ha 0 _ _ rfl rfl).iF
   have h2:=(ha 1 _ _ rfl rfl).iF
   subst h1 h2 h
   refine (Tryz.strings_Compare _ _ _).mono ?_
   rintro e w' ⟨rfl,rfl⟩
   exact ⟨_,_,[],S,rfl,rfl,.int _ _,hr,kT.refl _ _ _⟩
theorem yx [GI:bI] {s:aO} {c:Int} {r:Int} (h:vY s c=r):Pu Tryz.prog 121 [.str s,.int .u8 c] (I r):=by
 intro w S vs hr hl ha
 match vs,hl with
 | ⟨[x,y]⟩,_=>
   have h1:=(ha 0 _ _ rfl rfl).iF
   have h2:=(ha 1 _ _ rfl rfl).eh
   subst h1 h2 h
   refine (Tryz.strings_IndexByte _ _ _).mono ?_
   rintro e w' ⟨rfl,rfl⟩
   exact ⟨_,_,[],S,rfl,rfl,.int _ _,hr,kT.refl _ _ _⟩
theorem DT {s cs r:aO} (h:Ix s cs=some r):Pu Tryz.prog 120 [.str s,.str cs] (.str r):=by
 intro w S vs hr hl ha
 match vs,hl with
 | ⟨[x,y]⟩,_=>
   have h1:=(ha 0 _ _ rfl rfl).iF
   have h2:=(ha 1 _ _ rfl rfl).iF
   subst h1 h2
   unfold Ix at h
   split at h
   ·rename_i hs
    obtain rfl:=Option.some.inj h
    refine (Any.strings_Trim_laid Tryz.QX (by kernel_rfl) ⟨s.toArray⟩ ⟨cs.toArray⟩ w (by simpa [ByteArray.size] using hs.1) (by simpa [ByteArray.size] using hs.2.1) (by simpa using ascii_of_all hs.2.2)).mono ?_
    rintro e w' ⟨rfl,hb⟩
    have hE:=Mh hb
    exact ⟨_,_,[],S,rfl,rfl,.str _,hr.ext hE,kT.ext hr.slt hE⟩
   ·cases h
end Go.Proofs.YthamhifbccpcpaaGreatDoor
