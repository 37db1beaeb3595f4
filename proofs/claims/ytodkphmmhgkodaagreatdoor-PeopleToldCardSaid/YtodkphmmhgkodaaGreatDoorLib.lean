/- Contracts of library functions that are not walked here: the shelf's, in the engine's words. -/
import Derived.Test.YtodkphmmhgkodaaGreatDoorCore
import Derived.Test.YtodkphmmhgkodaaGreatDoorInst
import Derived.Test.YtodkphmmhgkodaaGreatDoorShelf
import Derived.Shelf.Strings.SlTrimAscii
set_option maxRecDepth 100000
set_option linter.unusedVariables false
namespace Go.Proofs.YtodkphmmhgkodaaGreatDoor
open Go Go.Eng Go.Proofs Go.Beacon
theorem cr [GI:bM] {a b:bO} {r:Int} (h:Lib.compareBytes a b=r):Pu Tryz.prog 39 [.str a,.str b] (I r):=by
 intro w S vs hr hl ha
 match vs,hl with
 | ⟨[x,y]⟩,_=>
   have h1:=(ha 0 _ _ rfl rfl).gQ
   have h2:=(ha 1 _ _ rfl rfl).gQ
   subst h1 h2 h
   refine (Tryz.strings_Compare _ _ _).mono ?_
   rintro e w' ⟨rfl,rfl⟩
   exact ⟨_,_,[],S,rfl,rfl,.int _ _,hr,k9.refl _ _ _⟩
theorem xb [GI:bM] {s:bO} {c:Int} {r:Int} (h:uI s c=r):Pu Tryz.prog 69 [.str s,.int .u8 c] (I r):=by
 intro w S vs hr hl ha
 match vs,hl with
 | ⟨[x,y]⟩,_=>
   have h1:=(ha 0 _ _ rfl rfl).gQ
   have h2:=(ha 1 _ _ rfl rfl).eG
   subst h1 h2 h
   refine (Tryz.strings_IndexByte _ _ _).mono ?_
   rintro e w' ⟨rfl,rfl⟩
   exact ⟨_,_,[],S,rfl,rfl,.int _ _,hr,k9.refl _ _ _⟩
theorem BQ {s cs r:bO} (h:FA s cs=some r):Pu Tryz.prog 68 [.str s,.str cs] (.str r):=by
 intro w S vs hr hl ha
 match vs,hl with
 | ⟨[x,y]⟩,_=>
   have h1:=(ha 0 _ _ rfl rfl).gQ
   have h2:=(ha 1 _ _ rfl rfl).gQ
   subst h1 h2
   unfold FA at h
   split at h
   ·rename_i hs
    obtain rfl:=Option.some.inj h
    refine (Any.strings_Trim_laid Tryz.M0 (by kernel_rfl) ⟨s.toArray⟩ ⟨cs.toArray⟩ w (by simpa [ByteArray.size] using hs.1) (by simpa [ByteArray.size] using hs.2.1) (by simpa using ascii_of_all hs.2.2)).mono ?_
    rintro e w' ⟨rfl,hb⟩
    have hE:=IQ hb
    exact ⟨_,_,[],S,rfl,rfl,.str _,hr.ext hE,k9.ext hr.slt hE⟩
   ·cases h
end Go.Proofs.YtodkphmmhgkodaaGreatDoor
