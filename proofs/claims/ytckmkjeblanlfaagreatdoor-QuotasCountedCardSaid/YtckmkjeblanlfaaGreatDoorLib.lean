/- Contracts of library functions that are not walked here: the shelf's, in the engine's words. -/
import Derived.Test.YtckmkjeblanlfaaGreatDoorCore
import Derived.Test.YtckmkjeblanlfaaGreatDoorInst
import Derived.Test.YtckmkjeblanlfaaGreatDoorShelf
import Derived.Shelf.Strings.SlTrimAscii
set_option maxRecDepth 100000
set_option linter.unusedVariables false
namespace Go.Proofs.YtckmkjeblanlfaaGreatDoor
open Go Go.Eng Go.Proofs Go.Beacon
theorem cM [GI:bx] {a b:al} {r:Int} (h:Lib.compareBytes a b=r):Pu Tryz.prog 84 [.str a,.str b] (I r):=by
 intro w S vs hr hl ha
 match vs,hl with
 | ⟨[x,y]⟩,_=>
   have h1:=(ha 0 _ _ rfl rfl).eI
   have h2:=(ha 1 _ _ rfl rfl).eI
   subst h1 h2 h
   refine (Tryz.strings_Compare _ _ _).mono ?_
   rintro e w' ⟨rfl,rfl⟩
   exact ⟨_,_,[],S,rfl,rfl,.int _ _,hr,kP.refl _ _ _⟩
theorem xP [GI:bx] {s:al} {c:Int} {r:Int} (h:vD s c=r):Pu Tryz.prog 160 [.str s,.int .u8 c] (I r):=by
 intro w S vs hr hl ha
 match vs,hl with
 | ⟨[x,y]⟩,_=>
   have h1:=(ha 0 _ _ rfl rfl).eI
   have h2:=(ha 1 _ _ rfl rfl).fK
   subst h1 h2 h
   refine (Tryz.strings_IndexByte _ _ _).mono ?_
   rintro e w' ⟨rfl,rfl⟩
   exact ⟨_,_,[],S,rfl,rfl,.int _ _,hr,kP.refl _ _ _⟩
theorem tD {s:al} {r:Bool} (h:zO s=some r):Pu Tryz.prog 336 [.str s] (.bool r):=by
 intro w S vs hr hl ha
 match vs,hl with
 | ⟨[x]⟩,_=>
   have h1:=(ha 0 _ _ rfl rfl).eI
   subst h1
   unfold zO at h
   split at h
   ·rename_i hs
    obtain rfl:=Option.some.inj h
    refine (Any.utf8_ValidString Tryz.IW ⟨s.toArray⟩ w (by simpa [ByteArray.size] using hs) (Oa hr)).mono ?_
    rintro e w' ⟨rfl,hb⟩
    have hE:=Ef hb
    exact ⟨_,_,[],S,rfl,rfl,.bool _,hr.ext hE,kP.ext hr.slt hE⟩
   ·cases h
theorem Ce {s cs r:al} (h:Gk s cs=some r):Pu Tryz.prog 159 [.str s,.str cs] (.str r):=by
 intro w S vs hr hl ha
 match vs,hl with
 | ⟨[x,y]⟩,_=>
   have h1:=(ha 0 _ _ rfl rfl).eI
   have h2:=(ha 1 _ _ rfl rfl).eI
   subst h1 h2
   unfold Gk at h
   split at h
   ·rename_i hs
    obtain rfl:=Option.some.inj h
    refine (Any.strings_Trim_laid Tryz.Oc (by kernel_rfl) ⟨s.toArray⟩ ⟨cs.toArray⟩ w (by simpa [ByteArray.size] using hs.1) (by simpa [ByteArray.size] using hs.2.1) (by simpa using ascii_of_all hs.2.2)).mono ?_
    rintro e w' ⟨rfl,hb⟩
    have hE:=Ef hb
    exact ⟨_,_,[],S,rfl,rfl,.str _,hr.ext hE,kP.ext hr.slt hE⟩
   ·cases h
theorem sy {s sep:al} {r:List al} (h:yg s sep=some r):aB Tryz.prog 219 [.str s,.str sep] [] (T1 (fun d=>[(d,.arr 1 (r.map AV.str))]) (fun d=>.sl 1 d 0 r.length)):=by
 intro w S vs hr hl ha
 match vs,hl with
 | ⟨[x,y]⟩,_=>
   have h1:=(ha 0 _ _ rfl rfl).eI
   have h2:=(ha 1 _ _ rfl rfl).eI
   subst h1 h2
   unfold yg at h
   split at h
   ·rename_i hs
    obtain ⟨us,m,h3,h4⟩:=(hr.kN 0 (N2 .i64) rfl).2
    refine (Tryz.strings_Split ⟨s.toArray⟩ ⟨sep.toArray⟩ m w (by simpa [ByteArray.size] using hs.1) (by rw [Gh w 0 0 h3];exact h4) (by simpa [ByteArray.size] using hs.2)).mono ?_
    rintro e w' ⟨rfl,rfl⟩
    obtain rfl:=Option.some.inj h
    have hlen:((Lib.splitB ⟨sep.toArray⟩ 0 (Lib.countB ⟨s.toArray⟩ ⟨sep.toArray⟩) ⟨s.toArray⟩).map fun b=>b.data.toList).length=Lib.countB ⟨s.toArray⟩ ⟨sep.toArray⟩+1:=by
     rw [List.length_map];exact Lib.splitB_all _ (by simpa [ByteArray.size] using hs.2) 0 _ _ rfl
    rw [← hlen]
    generalize Lib.splitB ⟨sep.toArray⟩ 0 (Lib.countB ⟨s.toArray⟩ ⟨sep.toArray⟩) ⟨s.toArray⟩=L
    have K:=fun E=>HG hr (L.map fun b=>b.data.toList) E (vs:=(L.map Value.string).toArray) (by rw [List.map_map];rfl)
    exact ⟨_,_,_,S,rfl,⟨_,rfl,rfl⟩,(K _).1,(K _).2.1,(K _).2.2⟩
   ·cases h
theorem Qw [GI:bx] {w:World} {S:Nat→Prop} {a b c:AV} {x y z:Value} (h1:At w S a x) (h2:At w S b y) (h3:At w S c z):At w S (.om [a,b,c]) (.tuple #[x,y,z]):=by
 refine .om _ _ rfl (fun i c v hc hv=>?_)
 match i with
 | 0=>cases hc;cases hv;exact h1
 | 1=>cases hc;cases hv;exact h2
 | 2=>cases hc;cases hv;exact h3
 | i+3=>simp at hc
theorem JT (w:World) (k:Nat) (hd:¬ bx.dr):Ext w (w.drewN k):=
 ⟨rfl,rfl,rfl,Nat.le_refl _,fun n hn=>rfl,fun q=>absurd q hd⟩
theorem Dj {s sep:al} {r:al×al×Bool} (h:L6 s sep=some r):Pu Tryz.prog 313 [.str s,.str sep] (.om [.str r.1,.str r.2.1,.bool r.2.2]):=by
 intro w S vs hr hl ha
 match vs,hl with
 | ⟨[x,y]⟩,_=>
   have h1:=(ha 0 _ _ rfl rfl).eI
   have h2:=(ha 1 _ _ rfl rfl).eI
   subst h1 h2
   unfold L6 at h
   split at h
   ·rename_i hs
    obtain rfl:=Option.some.inj h
    obtain ⟨us,m,h3,h4⟩:=(hr.kN 0 (N2 .i64) rfl).2
    refine (Tryz.strings_Cut ⟨s.toArray⟩ ⟨sep.toArray⟩ m w (by simpa [ByteArray.size] using hs) (by show w.cell? ⟨0,0,none⟩=some (.int .i64 m);rw [Gh w 0 0 h3];exact h4)).mono ?_
    rintro e w' ⟨rfl,k,rfl⟩
    have hE:=JT w k id
    exact ⟨_,_,[],S,rfl,rfl,Qw (.str _) (.str _) (.bool _),hr.ext hE,kP.ext hr.slt hE⟩
   ·cases h
end Go.Proofs.YtckmkjeblanlfaaGreatDoor
