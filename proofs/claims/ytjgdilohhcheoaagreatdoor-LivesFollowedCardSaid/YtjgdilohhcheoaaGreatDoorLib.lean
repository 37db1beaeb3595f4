/- Contracts of library functions that are not walked here: the shelf's, in the engine's words. -/
import Derived.Test.YtjgdilohhcheoaaGreatDoorCore
import Derived.Test.YtjgdilohhcheoaaGreatDoorInst
import Derived.Test.YtjgdilohhcheoaaGreatDoorShelf
import Derived.Shelf.Strings.SlTrimAscii
set_option maxRecDepth 100000
set_option linter.unusedVariables false
namespace Go.Proofs.YtjgdilohhcheoaaGreatDoor
open Go Go.Eng Go.Proofs Go.Beacon
theorem gD [GI:bt] {a b:ax} {r:Int} (h:Lib.compareBytes a b=r):Pu Tryz.prog 69 [.str a,.str b] (I r):=by
 intro w S vs hr hl ha
 match vs,hl with
 | ⟨[x,y]⟩,_=>
   have h1:=(ha 0 _ _ rfl rfl).cI
   have h2:=(ha 1 _ _ rfl rfl).cI
   subst h1 h2 h
   refine (Tryz.strings_Compare _ _ _).mono ?_
   rintro e w' ⟨rfl,rfl⟩
   exact ⟨_,_,[],S,rfl,rfl,.int _ _,hr,ic.refl _ _ _⟩
theorem pY [GI:bt] {s:ax} {c:Int} {r:Int} (h:qP s c=r):Pu Tryz.prog 85 [.str s,.int .u8 c] (I r):=by
 intro w S vs hr hl ha
 match vs,hl with
 | ⟨[x,y]⟩,_=>
   have h1:=(ha 0 _ _ rfl rfl).cI
   have h2:=(ha 1 _ _ rfl rfl).ca
   subst h1 h2 h
   refine (Tryz.strings_IndexByte _ _ _).mono ?_
   rintro e w' ⟨rfl,rfl⟩
   exact ⟨_,_,[],S,rfl,rfl,.int _ _,hr,ic.refl _ _ _⟩
theorem qQ {s:ax} {r:Bool} (h:yg s=some r):Pu Tryz.prog 194 [.str s] (.bool r):=by
 intro w S vs hr hl ha
 match vs,hl with
 | ⟨[x]⟩,_=>
   have h1:=(ha 0 _ _ rfl rfl).cI
   subst h1
   unfold yg at h
   split at h
   ·rename_i hs
    obtain rfl:=Option.some.inj h
    refine (Any.utf8_ValidString Tryz.G7 ⟨s.toArray⟩ w (by simpa [ByteArray.size] using hs) (Mv hr)).mono ?_
    rintro e w' ⟨rfl,hb⟩
    have hE:=vh hb
    exact ⟨_,_,[],S,rfl,rfl,.bool _,hr.ext hE,ic.ext hr.slt hE⟩
   ·cases h
theorem jM {s cs r:ax} (h:vM s cs=some r):Pu Tryz.prog 49 [.str s,.str cs] (.str r):=by
 intro w S vs hr hl ha
 match vs,hl with
 | ⟨[x,y]⟩,_=>
   have h1:=(ha 0 _ _ rfl rfl).cI
   have h2:=(ha 1 _ _ rfl rfl).cI
   subst h1 h2
   unfold vM at h
   split at h
   ·rename_i hs
    obtain rfl:=Option.some.inj h
    refine (Any.strings_Trim_laid Tryz.Mx (by kernel_rfl) ⟨s.toArray⟩ ⟨cs.toArray⟩ w (by simpa [ByteArray.size] using hs.1) (by simpa [ByteArray.size] using hs.2.1) (by simpa using ascii_of_all hs.2.2)).mono ?_
    rintro e w' ⟨rfl,hb⟩
    have hE:=vh hb
    exact ⟨_,_,[],S,rfl,rfl,.str _,hr.ext hE,ic.ext hr.slt hE⟩
   ·cases h
theorem yh {s:ax} {c:Int} {r:ax} (h:zB s c=some r):Pu Tryz.prog 108 [.str s,I c] (.str r):=by
 intro w S vs hr hl ha
 match vs,hl with
 | ⟨[x,y]⟩,_=>
   have h1:=(ha 0 _ _ rfl rfl).cI
   have h2:=(ha 1 _ _ rfl rfl).ca
   subst h1 h2
   unfold zB at h
   split at h
   ·rename_i hs
    obtain rfl:=Option.some.inj h
    have hc:(c.toNat:Int)=c:=Int.toNat_of_nonneg hs.1
    have hk:=Tryz.strings_Repeat ⟨s.toArray⟩ c.toNat w (by omega) (by simpa [ByteArray.size] using hs.2.2)
    rw [hc] at hk
    refine hk.mono ?_
    rintro e w' ⟨rfl,hb⟩
    have hE:=vh hb
    exact ⟨_,_,[],S,rfl,rfl,.str _,hr.ext hE,ic.ext hr.slt hE⟩
   ·cases h
theorem xk {s r:ax} (h:xg s=some r):Pu Tryz.prog 50 [.str s] (.str r):=by
 intro w S vs hr hl ha
 match vs,hl with
 | ⟨[x]⟩,_=>
   have h1:=(ha 0 _ _ rfl rfl).cI
   subst h1
   unfold xg at h
   split at h
   ·rename_i hs
    obtain rfl:=Option.some.inj h
    have hk:=Tryz.strings_ToUpper_ascii ⟨s.toArray⟩ w (by simpa [ByteArray.size] using hs.1) (fun j b hb=>of_decide_eq_true (List.all_eq_true.1 hs.2 b (List.mem_of_getElem? (by simpa using hb))))
    refine hk.mono ?_
    rintro e w' ⟨rfl,hb⟩
    have hE:=vh hb
    refine ⟨_,_,[],S,rfl,rfl,?_,hr.ext hE,ic.ext hr.slt hE⟩
    exact .str _
   ·cases h
theorem Au {n:Int} {r:ax} (h:Ez n=some r):Pu Tryz.prog 107 [I n] (.str r):=by
 intro w S vs hr hl ha
 match vs,hl with
 | ⟨[x]⟩,_=>
   have h1:=(ha 0 _ _ rfl rfl).ca
   subst h1
   unfold Ez at h
   split at h
   ·rename_i hs
    obtain rfl:=Option.some.inj h
    have ht:=(hr.gq 4 (Ma .u64 Lib.pow10Tab) rfl).2
    refine (Any.strconv_Itoa Tryz.Kg n hs.1 hs.2 w (by unfold Lib.TabIs;rw [GX (g:=4) (by kernel_rfl)];exact ht)).mono ?_
    rintro e w' ⟨rfl,k,os,rfl⟩
    have hE:=Kf w k os id
    exact ⟨_,_,[],S,rfl,rfl,.str _,hr.ext hE,ic.ext hr.slt hE⟩
   ·cases h
theorem y8 {s sep:ax} {r:List ax} (h:As s sep=some r):aG Tryz.prog 100 [.str s,.str sep] [] (T1 (fun d=>[(d,.arr 1 (r.map AV.str))]) (fun d=>.sl 1 d 0 r.length)):=by
 intro w S vs hr hl ha
 match vs,hl with
 | ⟨[x,y]⟩,_=>
   have h1:=(ha 0 _ _ rfl rfl).cI
   have h2:=(ha 1 _ _ rfl rfl).cI
   subst h1 h2
   unfold As at h
   split at h
   ·rename_i hs
    obtain ⟨us,m,h3,h4⟩:=(hr.gq 0 (JM .i64) rfl).2
    refine (Tryz.strings_Split ⟨s.toArray⟩ ⟨sep.toArray⟩ m w (by simpa [ByteArray.size] using hs.1) (by rw [Al w 0 0 h3];exact h4) (by simpa [ByteArray.size] using hs.2)).mono ?_
    rintro e w' ⟨rfl,rfl⟩
    obtain rfl:=Option.some.inj h
    have hlen:((Lib.splitB ⟨sep.toArray⟩ 0 (Lib.countB ⟨s.toArray⟩ ⟨sep.toArray⟩) ⟨s.toArray⟩).map fun b=>b.data.toList).length=Lib.countB ⟨s.toArray⟩ ⟨sep.toArray⟩+1:=by
     rw [List.length_map];exact Lib.splitB_all _ (by simpa [ByteArray.size] using hs.2) 0 _ _ rfl
    rw [← hlen]
    generalize Lib.splitB ⟨sep.toArray⟩ 0 (Lib.countB ⟨s.toArray⟩ ⟨sep.toArray⟩) ⟨s.toArray⟩=L
    have K:=fun E=>FN hr (L.map fun b=>b.data.toList) E (vs:=(L.map Value.string).toArray) (by rw [List.map_map];rfl)
    exact ⟨_,_,_,S,rfl,⟨_,rfl,rfl⟩,(K _).1,(K _).2.1,(K _).2.2⟩
   ·cases h
theorem OT [GI:bt] {w:World} {S:Nat→Prop} {a b c:AV} {x y z:Value} (h1:At w S a x) (h2:At w S b y) (h3:At w S c z):At w S (.mN [a,b,c]) (.tuple #[x,y,z]):=by
 refine .mN _ _ rfl (fun i c v hc hv=>?_)
 match i with
 | 0=>cases hc;cases hv;exact h1
 | 1=>cases hc;cases hv;exact h2
 | 2=>cases hc;cases hv;exact h3
 | i+3=>simp at hc
theorem H8 (w:World) (k:Nat) (hd:¬ bt.dr):Ext w (w.drewN k):=
 ⟨rfl,rfl,rfl,Nat.le_refl _,fun n hn=>rfl,fun q=>absurd q hd⟩
theorem Bw {s sep:ax} {r:ax×ax×Bool} (h:Ke s sep=some r):Pu Tryz.prog 233 [.str s,.str sep] (.mN [.str r.1,.str r.2.1,.bool r.2.2]):=by
 intro w S vs hr hl ha
 match vs,hl with
 | ⟨[x,y]⟩,_=>
   have h1:=(ha 0 _ _ rfl rfl).cI
   have h2:=(ha 1 _ _ rfl rfl).cI
   subst h1 h2
   unfold Ke at h
   split at h
   ·rename_i hs
    obtain rfl:=Option.some.inj h
    obtain ⟨us,m,h3,h4⟩:=(hr.gq 0 (JM .i64) rfl).2
    refine (Tryz.strings_Cut ⟨s.toArray⟩ ⟨sep.toArray⟩ m w (by simpa [ByteArray.size] using hs) (by show w.cell? ⟨0,0,none⟩=some (.int .i64 m);rw [Al w 0 0 h3];exact h4)).mono ?_
    rintro e w' ⟨rfl,k,rfl⟩
    have hE:=H8 w k id
    exact ⟨_,_,[],S,rfl,rfl,OT (.str _) (.str _) (.bool _),hr.ext hE,ic.ext hr.slt hE⟩
   ·cases h
theorem y9 {s t:ax} {r:Int} (h:FY s t=some r):Pu Tryz.prog 152 [.str s,.str t] (I r):=by
 intro w S vs hr hl ha
 match vs,hl with
 | ⟨[x,y]⟩,_=>
   have h1:=(ha 0 _ _ rfl rfl).cI
   have h2:=(ha 1 _ _ rfl rfl).cI
   subst h1 h2
   unfold FY at h
   split at h
   ·obtain rfl:=Option.some.inj h
    refine (Tryz.strings_Index_one _ _ _).mono ?_
    rintro e w' ⟨rfl,rfl⟩
    exact ⟨_,_,[],S,rfl,rfl,.int _ _,hr,ic.refl _ _ _⟩
   ·rename_i c d K7
    unfold C1 at h
    split at h
    ·rename_i hs
     obtain rfl:=Option.some.inj h
     obtain ⟨us,m,h3,h4⟩:=(hr.gq 0 (JM .i64) rfl).2
     refine (Tryz.strings_Index ⟨s.toArray⟩ ⟨[c,d].toArray⟩ m w (by simpa [ByteArray.size] using hs) (by rw [Al w 0 0 h3];exact h4)).mono ?_
     rintro e w' ⟨rfl,rfl⟩
     exact ⟨_,_,[],S,rfl,rfl,.int _ _,hr,ic.refl _ _ _⟩
    ·cases h
   ·cases h
end Go.Proofs.YtjgdilohhcheoaaGreatDoor
