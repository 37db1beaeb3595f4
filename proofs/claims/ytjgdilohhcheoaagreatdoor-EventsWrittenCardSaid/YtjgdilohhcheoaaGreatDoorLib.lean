/- Contracts of library functions that are not walked here: the shelf's, in the engine's words. -/
import Derived.Test.YtjgdilohhcheoaaGreatDoorCore
import Derived.Test.YtjgdilohhcheoaaGreatDoorInst
import Derived.Test.YtjgdilohhcheoaaGreatDoorShelf
import Derived.Shelf.Strings.SlTrimAscii
set_option maxRecDepth 100000
set_option linter.unusedVariables false
namespace Go.Proofs.YtjgdilohhcheoaaGreatDoor
open Go Go.Eng Go.Proofs Go.Beacon
theorem kP [GI:bz] {a b:ax} {r:Int} (h:Lib.compareBytes a b=r):Pu Tryz.prog 69 [.str a,.str b] (I r):=by
 intro w S vs hr hl ha
 match vs,hl with
 | ⟨[x,y]⟩,_=>
   have h1:=(ha 0 _ _ rfl rfl).ct
   have h2:=(ha 1 _ _ rfl rfl).ct
   subst h1 h2 h
   refine (Tryz.strings_Compare _ _ _).mono ?_
   rintro e w' ⟨rfl,rfl⟩
   exact ⟨_,_,[],S,rfl,rfl,.int _ _,hr,gY.refl _ _ _⟩
theorem oZ [GI:bz] {s:ax} {c:Int} {r:Int} (h:pE s c=r):Pu Tryz.prog 85 [.str s,.int .u8 c] (I r):=by
 intro w S vs hr hl ha
 match vs,hl with
 | ⟨[x,y]⟩,_=>
   have h1:=(ha 0 _ _ rfl rfl).ct
   have h2:=(ha 1 _ _ rfl rfl).bR
   subst h1 h2 h
   refine (Tryz.strings_IndexByte _ _ _).mono ?_
   rintro e w' ⟨rfl,rfl⟩
   exact ⟨_,_,[],S,rfl,rfl,.int _ _,hr,gY.refl _ _ _⟩
theorem pF {s:ax} {r:Bool} (h:wW s=some r):Pu Tryz.prog 194 [.str s] (.bool r):=by
 intro w S vs hr hl ha
 match vs,hl with
 | ⟨[x]⟩,_=>
   have h1:=(ha 0 _ _ rfl rfl).ct
   subst h1
   unfold wW at h
   split at h
   ·rename_i hs
    obtain rfl:=Option.some.inj h
    refine (Any.utf8_ValidString Tryz.FW ⟨s.toArray⟩ w (by simpa [ByteArray.size] using hs) (K5 hr)).mono ?_
    rintro e w' ⟨rfl,hb⟩
    have hE:=uc hb
    exact ⟨_,_,[],S,rfl,rfl,.bool _,hr.ext hE,gY.ext hr.slt hE⟩
   ·cases h
theorem ju {s cs r:ax} (h:uK s cs=some r):Pu Tryz.prog 49 [.str s,.str cs] (.str r):=by
 intro w S vs hr hl ha
 match vs,hl with
 | ⟨[x,y]⟩,_=>
   have h1:=(ha 0 _ _ rfl rfl).ct
   have h2:=(ha 1 _ _ rfl rfl).ct
   subst h1 h2
   unfold uK at h
   split at h
   ·rename_i hs
    obtain rfl:=Option.some.inj h
    refine (Any.strings_Trim_laid Tryz.K7 (by kernel_rfl) ⟨s.toArray⟩ ⟨cs.toArray⟩ w (by simpa [ByteArray.size] using hs.1) (by simpa [ByteArray.size] using hs.2.1) (by simpa using ascii_of_all hs.2.2)).mono ?_
    rintro e w' ⟨rfl,hb⟩
    have hE:=uc hb
    exact ⟨_,_,[],S,rfl,rfl,.str _,hr.ext hE,gY.ext hr.slt hE⟩
   ·cases h
theorem wX {s:ax} {c:Int} {r:ax} (h:ym s c=some r):Pu Tryz.prog 108 [.str s,I c] (.str r):=by
 intro w S vs hr hl ha
 match vs,hl with
 | ⟨[x,y]⟩,_=>
   have h1:=(ha 0 _ _ rfl rfl).ct
   have h2:=(ha 1 _ _ rfl rfl).bR
   subst h1 h2
   unfold ym at h
   split at h
   ·rename_i hs
    obtain rfl:=Option.some.inj h
    have hc:(c.toNat:Int)=c:=Int.toNat_of_nonneg hs.1
    have hk:=Tryz.strings_Repeat ⟨s.toArray⟩ c.toNat w (by omega) (by simpa [ByteArray.size] using hs.2.2)
    rw [hc] at hk
    refine hk.mono ?_
    rintro e w' ⟨rfl,hb⟩
    have hE:=uc hb
    exact ⟨_,_,[],S,rfl,rfl,.str _,hr.ext hE,gY.ext hr.slt hE⟩
   ·cases h
theorem vU {s r:ax} (h:vQ s=some r):Pu Tryz.prog 50 [.str s] (.str r):=by
 intro w S vs hr hl ha
 match vs,hl with
 | ⟨[x]⟩,_=>
   have h1:=(ha 0 _ _ rfl rfl).ct
   subst h1
   unfold vQ at h
   split at h
   ·rename_i hs
    obtain rfl:=Option.some.inj h
    have hk:=Tryz.strings_ToUpper_ascii ⟨s.toArray⟩ w (by simpa [ByteArray.size] using hs.1) (fun j b hb=>of_decide_eq_true (List.all_eq_true.1 hs.2 b (List.mem_of_getElem? (by simpa using hb))))
    refine hk.mono ?_
    rintro e w' ⟨rfl,hb⟩
    have hE:=uc hb
    refine ⟨_,_,[],S,rfl,rfl,?_,hr.ext hE,gY.ext hr.slt hE⟩
    exact .str _
   ·cases h
theorem zf {n:Int} {r:ax} (h:Dk n=some r):Pu Tryz.prog 107 [I n] (.str r):=by
 intro w S vs hr hl ha
 match vs,hl with
 | ⟨[x]⟩,_=>
   have h1:=(ha 0 _ _ rfl rfl).bR
   subst h1
   unfold Dk at h
   split at h
   ·rename_i hs
    obtain rfl:=Option.some.inj h
    have ht:=(hr.gQ 4 (KN .u64 Lib.pow10Tab) rfl).2
    refine (Any.strconv_Itoa Tryz.IS n hs.1 hs.2 w (by unfold Lib.TabIs;rw [FK (g:=4) (by kernel_rfl)];exact ht)).mono ?_
    rintro e w' ⟨rfl,k,os,rfl⟩
    have hE:=IQ w k os id
    exact ⟨_,_,[],S,rfl,rfl,.str _,hr.ext hE,gY.ext hr.slt hE⟩
   ·cases h
theorem xX {s sep:ax} {r:List ax} (h:ze s sep=some r):aH Tryz.prog 100 [.str s,.str sep] [] (T1 (fun d=>[(d,.arr 1 (r.map AV.str))]) (fun d=>.sl 1 d 0 r.length)):=by
 intro w S vs hr hl ha
 match vs,hl with
 | ⟨[x,y]⟩,_=>
   have h1:=(ha 0 _ _ rfl rfl).ct
   have h2:=(ha 1 _ _ rfl rfl).ct
   subst h1 h2
   unfold ze at h
   split at h
   ·rename_i hs
    obtain ⟨us,m,h3,h4⟩:=(hr.gQ 0 (Ip .i64) rfl).2
    refine (Tryz.strings_Split ⟨s.toArray⟩ ⟨sep.toArray⟩ m w (by simpa [ByteArray.size] using hs.1) (by rw [y7 w 0 0 h3];exact h4) (by simpa [ByteArray.size] using hs.2)).mono ?_
    rintro e w' ⟨rfl,rfl⟩
    obtain rfl:=Option.some.inj h
    have hlen:((Lib.splitB ⟨sep.toArray⟩ 0 (Lib.countB ⟨s.toArray⟩ ⟨sep.toArray⟩) ⟨s.toArray⟩).map fun b=>b.data.toList).length=Lib.countB ⟨s.toArray⟩ ⟨sep.toArray⟩+1:=by
     rw [List.length_map];exact Lib.splitB_all _ (by simpa [ByteArray.size] using hs.2) 0 _ _ rfl
    rw [← hlen]
    generalize Lib.splitB ⟨sep.toArray⟩ 0 (Lib.countB ⟨s.toArray⟩ ⟨sep.toArray⟩) ⟨s.toArray⟩=L
    have K:=fun E=>EH hr (L.map fun b=>b.data.toList) E (vs:=(L.map Value.string).toArray) (by rw [List.map_map];rfl)
    exact ⟨_,_,_,S,rfl,⟨_,rfl,rfl⟩,(K _).1,(K _).2.1,(K _).2.2⟩
   ·cases h
theorem Nu [GI:bz] {w:World} {S:Nat→Prop} {a b c:AV} {x y z:Value} (h1:At w S a x) (h2:At w S b y) (h3:At w S c z):At w S (.mA [a,b,c]) (.tuple #[x,y,z]):=by
 refine .mA _ _ rfl (fun i c v hc hv=>?_)
 match i with
 | 0=>cases hc;cases hv;exact h1
 | 1=>cases hc;cases hv;exact h2
 | 2=>cases hc;cases hv;exact h3
 | i+3=>simp at hc
theorem GR (w:World) (k:Nat) (hd:¬ bz.dr):Ext w (w.drewN k):=
 ⟨rfl,rfl,rfl,Nat.le_refl _,fun n hn=>rfl,fun q=>absurd q hd⟩
theorem Ah {s sep:ax} {r:ax×ax×Bool} (h:IP s sep=some r):Pu Tryz.prog 233 [.str s,.str sep] (.mA [.str r.1,.str r.2.1,.bool r.2.2]):=by
 intro w S vs hr hl ha
 match vs,hl with
 | ⟨[x,y]⟩,_=>
   have h1:=(ha 0 _ _ rfl rfl).ct
   have h2:=(ha 1 _ _ rfl rfl).ct
   subst h1 h2
   unfold IP at h
   split at h
   ·rename_i hs
    obtain rfl:=Option.some.inj h
    obtain ⟨us,m,h3,h4⟩:=(hr.gQ 0 (Ip .i64) rfl).2
    refine (Tryz.strings_Cut ⟨s.toArray⟩ ⟨sep.toArray⟩ m w (by simpa [ByteArray.size] using hs) (by show w.cell? ⟨0,0,none⟩=some (.int .i64 m);rw [y7 w 0 0 h3];exact h4)).mono ?_
    rintro e w' ⟨rfl,k,rfl⟩
    have hE:=GR w k id
    exact ⟨_,_,[],S,rfl,rfl,Nu (.str _) (.str _) (.bool _),hr.ext hE,gY.ext hr.slt hE⟩
   ·cases h
theorem xY {s t:ax} {r:Int} (h:EO s t=some r):Pu Tryz.prog 152 [.str s,.str t] (I r):=by
 intro w S vs hr hl ha
 match vs,hl with
 | ⟨[x,y]⟩,_=>
   have h1:=(ha 0 _ _ rfl rfl).ct
   have h2:=(ha 1 _ _ rfl rfl).ct
   subst h1 h2
   unfold EO at h
   split at h
   ·obtain rfl:=Option.some.inj h
    refine (Tryz.strings_Index_one _ _ _).mono ?_
    rintro e w' ⟨rfl,rfl⟩
    exact ⟨_,_,[],S,rfl,rfl,.int _ _,hr,gY.refl _ _ _⟩
   ·rename_i c d JJ
    unfold B1 at h
    split at h
    ·rename_i hs
     obtain rfl:=Option.some.inj h
     obtain ⟨us,m,h3,h4⟩:=(hr.gQ 0 (Ip .i64) rfl).2
     refine (Tryz.strings_Index ⟨s.toArray⟩ ⟨[c,d].toArray⟩ m w (by simpa [ByteArray.size] using hs) (by rw [y7 w 0 0 h3];exact h4)).mono ?_
     rintro e w' ⟨rfl,rfl⟩
     exact ⟨_,_,[],S,rfl,rfl,.int _ _,hr,gY.refl _ _ _⟩
    ·cases h
   ·cases h
end Go.Proofs.YtjgdilohhcheoaaGreatDoor
