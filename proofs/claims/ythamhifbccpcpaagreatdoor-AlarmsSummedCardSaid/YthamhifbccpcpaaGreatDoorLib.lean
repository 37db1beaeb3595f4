/- Contracts of library functions that are not walked here: the shelf's, in the engine's words. -/
import Derived.Test.YthamhifbccpcpaaGreatDoorCore
import Derived.Test.YthamhifbccpcpaaGreatDoorInst
import Derived.Test.YthamhifbccpcpaaGreatDoorShelf
import Derived.Shelf.Strings.SlTrimAscii
set_option maxRecDepth 100000
set_option linter.unusedVariables false
namespace Go.Proofs.YthamhifbccpcpaaGreatDoor
open Go Go.Eng Go.Proofs Go.Beacon
theorem dC [GI:bF] {a b:aI} {r:Int} (h:Lib.compareBytes a b=r):Pu Tryz.prog 58 [.str a,.str b] (I r):=by
 intro w S vs hr hl ha
 match vs,hl with
 | ⟨[x,y]⟩,_=>
   have h1:=(ha 0 _ _ rfl rfl).ct
   have h2:=(ha 1 _ _ rfl rfl).ct
   subst h1 h2 h
   refine (Tryz.strings_Compare _ _ _).mono ?_
   rintro e w' ⟨rfl,rfl⟩
   exact ⟨_,_,[],S,rfl,rfl,.int _ _,hr,iE.refl _ _ _⟩
theorem vO [GI:bF] {s:aI} {c:Int} {r:Int} (h:tq s c=r):Pu Tryz.prog 121 [.str s,.int .u8 c] (I r):=by
 intro w S vs hr hl ha
 match vs,hl with
 | ⟨[x,y]⟩,_=>
   have h1:=(ha 0 _ _ rfl rfl).ct
   have h2:=(ha 1 _ _ rfl rfl).cO
   subst h1 h2 h
   refine (Tryz.strings_IndexByte _ _ _).mono ?_
   rintro e w' ⟨rfl,rfl⟩
   exact ⟨_,_,[],S,rfl,rfl,.int _ _,hr,iE.refl _ _ _⟩
theorem uH {s cs r:aI} (h:Cs s cs=some r):Pu Tryz.prog 120 [.str s,.str cs] (.str r):=by
 intro w S vs hr hl ha
 match vs,hl with
 | ⟨[x,y]⟩,_=>
   have h1:=(ha 0 _ _ rfl rfl).ct
   have h2:=(ha 1 _ _ rfl rfl).ct
   subst h1 h2
   unfold Cs at h
   split at h
   ·rename_i hs
    obtain rfl:=Option.some.inj h
    refine (Any.strings_Trim_laid Tryz.N8 (by kernel_rfl) ⟨s.toArray⟩ ⟨cs.toArray⟩ w (by simpa [ByteArray.size] using hs.1) (by simpa [ByteArray.size] using hs.2.1) (by simpa using ascii_of_all hs.2.2)).mono ?_
    rintro e w' ⟨rfl,hb⟩
    have hE:=vx hb
    exact ⟨_,_,[],S,rfl,rfl,.str _,hr.ext hE,iE.ext hr.slt hE⟩
   ·cases h
theorem pz [GI:bF] {s p r:aI} (h:Lib.trimPrefix s p=r):Pu Tryz.prog 148 [.str s,.str p] (.str r):=by
 intro w S vs hr hl ha
 match vs,hl with
 | ⟨[x,y]⟩,_=>
   have h1:=(ha 0 _ _ rfl rfl).ct
   have h2:=(ha 1 _ _ rfl rfl).ct
   subst h1 h2 h
   refine (Tryz.strings_TrimPrefix _ _ _).mono ?_
   rintro e w' ⟨rfl,rfl⟩
   exact ⟨_,_,[],S,rfl,rfl,.str _,hr,iE.refl _ _ _⟩
theorem mh {n:Int} {r:aI} (h:wa n=some r):Pu Tryz.prog 63 [I n] (.str r):=by
 intro w S vs hr hl ha
 match vs,hl with
 | ⟨[x]⟩,_=>
   have h1:=(ha 0 _ _ rfl rfl).cO
   subst h1
   unfold wa at h
   split at h
   ·rename_i hs
    obtain rfl:=Option.some.inj h
    have ht:=(hr.fe 1 (NQ .u64 Lib.pow10Tab) rfl).2
    refine (Any.strconv_Itoa Tryz.Lg n hs.1 hs.2 w (by unfold Lib.TabIs;rw [Dm (g:=1) (by kernel_rfl)];exact ht)).mono ?_
    rintro e w' ⟨rfl,k,os,rfl⟩
    have hE:=Lf w k os id
    exact ⟨_,_,[],S,rfl,rfl,.str _,hr.ext hE,iE.ext hr.slt hE⟩
   ·cases h
theorem pR {s sep:aI} {r:List aI} (h:wG s sep=some r):aJ Tryz.prog 76 [.str s,.str sep] [] (T1 (fun d=>[(d,.arr 1 (r.map AV.str))]) (fun d=>.sl 1 d 0 r.length)):=by
 intro w S vs hr hl ha
 match vs,hl with
 | ⟨[x,y]⟩,_=>
   have h1:=(ha 0 _ _ rfl rfl).ct
   have h2:=(ha 1 _ _ rfl rfl).ct
   subst h1 h2
   unfold wG at h
   split at h
   ·rename_i hs
    obtain ⟨us,m,h3,h4⟩:=(hr.fe 0 (NR .i64) rfl).2
    refine (Tryz.strings_Split ⟨s.toArray⟩ ⟨sep.toArray⟩ m w (by simpa [ByteArray.size] using hs.1) (by rw [xg w 0 0 h3];exact h4) (by simpa [ByteArray.size] using hs.2)).mono ?_
    rintro e w' ⟨rfl,rfl⟩
    obtain rfl:=Option.some.inj h
    have hlen:((Lib.splitB ⟨sep.toArray⟩ 0 (Lib.countB ⟨s.toArray⟩ ⟨sep.toArray⟩) ⟨s.toArray⟩).map fun b=>b.data.toList).length=Lib.countB ⟨s.toArray⟩ ⟨sep.toArray⟩+1:=by
     rw [List.length_map];exact Lib.splitB_all _ (by simpa [ByteArray.size] using hs.2) 0 _ _ rfl
    rw [← hlen]
    generalize Lib.splitB ⟨sep.toArray⟩ 0 (Lib.countB ⟨s.toArray⟩ ⟨sep.toArray⟩) ⟨s.toArray⟩=L
    have K:=fun E=>GN hr (L.map fun b=>b.data.toList) E (vs:=(L.map Value.string).toArray) (by rw [List.map_map];rfl)
    exact ⟨_,_,_,S,rfl,⟨_,rfl,rfl⟩,(K _).1,(K _).2.1,(K _).2.2⟩
   ·cases h
theorem QB [GI:bF] {w:World} {S:Nat→Prop} {a b c:AV} {x y z:Value} (h1:At w S a x) (h2:At w S b y) (h3:At w S c z):At w S (.iV [a,b,c]) (.tuple #[x,y,z]):=by
 refine .iV _ _ rfl (fun i c v hc hv=>?_)
 match i with
 | 0=>cases hc;cases hv;exact h1
 | 1=>cases hc;cases hv;exact h2
 | 2=>cases hc;cases hv;exact h3
 | i+3=>simp at hc
theorem Jl (w:World) (k:Nat) (hd:¬ bF.dr):Ext w (w.drewN k):=
 ⟨rfl,rfl,rfl,Nat.le_refl _,fun n hn=>rfl,fun q=>absurd q hd⟩
theorem BM {s sep:aI} {r:aI×aI×Bool} (h:Jk s sep=some r):Pu Tryz.prog 146 [.str s,.str sep] (.iV [.str r.1,.str r.2.1,.bool r.2.2]):=by
 intro w S vs hr hl ha
 match vs,hl with
 | ⟨[x,y]⟩,_=>
   have h1:=(ha 0 _ _ rfl rfl).ct
   have h2:=(ha 1 _ _ rfl rfl).ct
   subst h1 h2
   unfold Jk at h
   split at h
   ·rename_i hs
    obtain rfl:=Option.some.inj h
    obtain ⟨us,m,h3,h4⟩:=(hr.fe 0 (NR .i64) rfl).2
    refine (Tryz.strings_Cut ⟨s.toArray⟩ ⟨sep.toArray⟩ m w (by simpa [ByteArray.size] using hs) (by show w.cell? ⟨0,0,none⟩=some (.int .i64 m);rw [xg w 0 0 h3];exact h4)).mono ?_
    rintro e w' ⟨rfl,k,rfl⟩
    have hE:=Jl w k id
    exact ⟨_,_,[],S,rfl,rfl,QB (.str _) (.str _) (.bool _),hr.ext hE,iE.ext hr.slt hE⟩
   ·cases h
theorem GY [GI:bF] {w:World} {S:Nat→Prop} {a b:AV} {x y:Value} (h1:At w S a x) (h2:At w S b y):At w S (.iV [a,b]) (.tuple #[x,y]):=by
 refine .iV _ _ rfl (fun i c v hc hv=>?_)
 match i with
 | 0=>cases hc;cases hv;exact h1
 | 1=>cases hc;cases hv;exact h2
 | i+2=>simp at hc
theorem uI {s:aI} {r:Int×Bool} (h:Ct s=some r):Yl Tryz.prog 149 [.str s] r.1 r.2:=by
 intro w S vs hr hl ha
 match vs,hl with
 | ⟨[x]⟩,_=>
   have h1:=(ha 0 _ _ rfl rfl).ct
   subst h1
   unfold Ct at h
   split at h
   ·rename_i hs
    have gG:(⟨s.toArray⟩:ByteArray).size=s.length:=by simp [ByteArray.size]
    obtain rfl:=Option.some.inj h
    cases hA:Lib.atoiAll s with
    | ok v=>
      refine (Any.strconv_Atoi_ok Tryz.AA ⟨s.toArray⟩ (by omega) v (by simpa using hA) w).mono ?_
      rintro e w' ⟨rfl,hw⟩
      have hE:Ext w w':=by
       rcases hw with rfl | ⟨t,rfl⟩
       ·exact Ext.refl _
       ·exact vx (Lib.bytesWorld_below _ _ _)
      exact ⟨_,_,[],S,rfl,⟨_,rfl,.inl ⟨rfl,rfl⟩⟩,GY (.int _ _) (.raw _),hr.ext hE,iE.ext hr.slt hE⟩
    | range=>
      obtain ⟨us,ev,h3,h4,h5⟩:=(hr.fe 3 K5 rfl).2
      refine (Any.strconv_Atoi_range Tryz.AA ⟨s.toArray⟩ (by omega) (by simpa using hA) ev w (by show w.cell? ⟨3,0,none⟩=some ev;rw [xg w 3 0 h3];exact h4) h5).mono ?_
      rintro e w' ⟨N,rfl,_,_,hb⟩
      have hE:=vx hb
      exact ⟨_,_,[],S,rfl,⟨_,rfl,.inr ⟨⟨_,_,rfl⟩,rfl⟩⟩,by simpa using GY (.int _ _) (.raw _),hr.ext hE,iE.ext hr.slt hE⟩
    | _=>
      obtain ⟨us,ev,h3,h4,h5⟩:=(hr.fe 2 K5 rfl).2
      refine (Any.strconv_Atoi_syntax Tryz.AA ⟨s.toArray⟩ (by omega) (by simpa using hA) ev w (by show w.cell? ⟨2,0,none⟩=some ev;rw [xg w 2 0 h3];exact h4) h5).mono ?_
      rintro e w' ⟨N,rfl,_,_,hb⟩
      have hE:=vx hb
      exact ⟨_,_,[],S,rfl,⟨_,rfl,.inr ⟨⟨_,_,rfl⟩,rfl⟩⟩,GY (.int _ _) (.raw _),hr.ext hE,iE.ext hr.slt hE⟩
   ·cases h
set_option maxHeartbeats 1000000 in
open Go.Shelf Go.RowKit in
theorem Ib (b:Nat) (p v:Value) (w:World) (hb:w.heap[b]? =some (.cells #[p,v] 130 (0,0))) (hp:p=.pointer none∨p=.pointer (some ⟨b,0,none⟩)):
 Calls Tryz.prog 140 #[.pointer (some ⟨b,0,none⟩)] w fun e w'=>e=.returned (.tuple #[])∧w'.heap[b]? =some (.cells #[.pointer (some ⟨b,0,none⟩),v] 130 (0,0))∧w'.heap.size=w.heap.size∧∀ row,gD w w' b row:=by
 obtain ⟨j,hj,Gj⟩:=Option.map_eq_some_iff.1 Tryz.je.sizeBuilder
 have hsh:w.shape? b=some (130,2):=by simp [World.shape?,hb]
 rcases hp with rfl | rfl
 ·have h0:w.cell? ⟨b,0,none⟩=some (.pointer none):=by rw [Lib.cell_of_heap hb];rfl
  have U4:w.frozen? ⟨b,0,none⟩=false:=Lib.frozen_of_heap hb 0
  go_enter Tryz.func140,Tryz.ntmps140
  go_wp2
  rw [Lib.run_to_unsafe w ⟨b,0,none⟩ Tryz.underlying127 Tryz.underlying264 hj (by rw [Gj];decide) hsh (Nat.zero_lt_succ 1)]
  simp only [Result.andThen]
  rw [Oper.upon_value]
  go_wp2
  rw [run_callFunc_extern Tryz.func201 (by kernel_rfl) (by kernel_rfl) (by kernel_rfl) (e:=Extern.AbiNoEscape.same) (by kernel_rfl)]
  rw [Lib.run_noEscape]
  simp only [Result.andThen]
  rw [Oper.upon_value]
  go_wp2
  rw [Lib.run_from_unsafe w ⟨b,0,none⟩ Tryz.underlying264 Tryz.underlying127 hj hsh Tryz.je.liesBuilder]
  simp only [Result.andThen]
  rw [Oper.upon_value]
  go_wp2
  go_end0
  exact ⟨rfl,Tm hb,by simp [World.setCell],fun row=>gD.set w b row 0 _⟩
 ·have h0:w.cell? ⟨b,0,none⟩=some (.pointer (some ⟨b,0,none⟩)):=by rw [Lib.cell_of_heap hb];rfl
  go_enter Tryz.func140,Tryz.ntmps140
  go_wp2
  rw [Lib.run_neq_ptr_same w _ Tryz.underlying127 hj]
  go_wp2
  go_end0
  exact ⟨rfl,hb,rfl,fun row=>gD.refl w b row⟩
set_option maxHeartbeats 2000000 in
open Go.Shelf Go.RowKit in
theorem Li:Ck Tryz.prog 65 130 5:=by
 intro b p v bs s w hb hp ho mb hlen
 obtain ⟨i0,hi,hz0,hz1,hz2⟩:=info_parts Tryz.je.infoByte
 have iT:=H5 hb
 have eC:∀ args w,(callFunc 140 args).run Tryz.prog w=.ok (.enter 140 args) w:=enters_of Tryz.func140 (by kernel_rfl) rfl
 go_enter Tryz.func65,Tryz.ntmps65
 go_wp2_with (go_at_fn 140;refine (Ib b p v _ hb hp).mono ?_)
 rintro e w1 ⟨rfl,Ev,hs1,Pn⟩
 have Ss:w1.ownsRowF 0 5 1 v bs.length bs:=K6 ho (fun k hk=>(Pn none).keep k (ho.lt k hk).2 (fun e=>mb (e▸hk)) (by simp))
 have c0:w1.cell? ⟨b,0,none⟩=some (.pointer (some ⟨b,0,none⟩)):=by rw [Lib.cell_of_heap Ev];rfl
 have c1:w1.cell? ⟨b,1,none⟩=some v:=by rw [Lib.cell_of_heap Ev];rfl
 go_wp2_with (at_builtin;refine E5 _ rfl _ _ 128 9 rfl 5 i0 Tryz.underlying128 Tryz.underlying9 hi hz0 hz1 hz2 _ _ _ rfl Ss s rfl ?c3 ?c4 ?_)
 case c3=>unfold maxLen;omega
 case c4=>omega
 intro v' w2 Po Pp tf
 have JU:w2.heap[b]? =some (.cells #[.pointer (some ⟨b,0,none⟩),v] 130 (0,0)):=by
  rw [Pp.block b (by omega) (fun e=>mb e.symm)]
  exact Ev
 have d0:w2.cell? ⟨b,0,none⟩=some (.pointer (some ⟨b,0,none⟩)):=by rw [Lib.cell_of_heap JU];rfl
 have d1:w2.cell? ⟨b,1,none⟩=some v:=by rw [Lib.cell_of_heap JU];rfl
 have f1:w2.frozen? ⟨b,1,none⟩=false:=Lib.frozen_of_heap JU 1
 have WZ:v'.ownBlock≠some b:=by
  rcases tf with h | ⟨m,h,hm⟩
  ·rw [h];exact mb
  ·rw [h];intro e;have:=Option.some.inj e;omega
 have QC:w2.grownBy (w2.setCell ⟨b,1,none⟩ v') (some b):=⟨rfl,rfl,rfl,by simp [World.setCell],fun k _ hk=>Below.heap_setCell _ _ _ _ (fun e=>hk (by simp [e]))⟩
 obtain ⟨ao,n',cap,rfl⟩:∃ ao n' cap,v'=.slice ao n' cap:=by
  rcases Po.2 with ⟨hv,_⟩ | ⟨g,cap,cur,fz,hv,_⟩
  ·exact ⟨_,_,_,hv⟩
  ·exact ⟨_,_,_,hv⟩
 go_wp2
 go_ret2
 refine ⟨rfl,_,Pj JU,Po.kept QC (.inr WZ),?_,((Pn _).trans (gD.grown Pp)).trans (gD.set w2 b _ 1 _)⟩
 rcases tf with h | ⟨m,h,hm⟩
 ·exact .inl h
 ·exact .inr ⟨m,h,by omega⟩
theorem QD:¬ bF.dr:=fun h=>h
theorem cX {b:Bk} {q:Option Nat} {x s y:aI} (h:zf x s=some y):aJ Tryz.prog 65 [.ptr b 0,.str s] [(b,.qK 130 5 q x)] (T1 (fun q':Bk=>[(b,.qK 130 5 q'.bN y)]) (fun _=>.iV [I s.length,.raw .nilIface])):=
 Jg QD Li h
theorem ud {b:Bk} {q:Option Nat} {x:aI}:aJ Tryz.prog 67 [.ptr b 0] [(b,.qK 130 5 q x)] (T0 [(b,.qK 130 5 q x)] (I x.length)):=
 NW Tryz.N6
theorem jE {b:Bk} {q:Option Nat} {x:aI}:aJ Tryz.prog 68 [.ptr b 0] [(b,.qK 130 5 q x)] (T0 [] (.str x)):=
 GU QD Tryz.Dt Tryz.je
open Go.Shelf Go.RowKit in
theorem Lj {b:Nat} {p:Value} {w:World} {cs:Array Value} (hb:w.heap[b]? =some (.cells #[p,.slice none 0 0] 130 (0,0))) (hm:cs.size≤maxLen):
 ∃ v',(((w.setCell ⟨b,1,none⟩ (.slice (some ⟨w.heap.size,0,none⟩) 0 cs.size)).alloc (.cells cs 5)).drew.drew.drew).heap[b]? =some (.cells #[p,v'] 130 (0,0))∧(((w.setCell ⟨b,1,none⟩ (.slice (some ⟨w.heap.size,0,none⟩) 0 cs.size)).alloc (.cells cs 5)).drew.drew.drew).ownsRowF 0 5 1 v' 0 []∧
   (v'.ownBlock=none∨∃ m,v'.ownBlock=some m∧w.heap.size≤m)∧gD w (((w.setCell ⟨b,1,none⟩ (.slice (some ⟨w.heap.size,0,none⟩) 0 cs.size)).alloc (.cells cs 5)).drew.drew.drew) b none:=by
 have iT:=H5 hb
 have gG:(w.setCell ⟨b,1,none⟩ (.slice (some ⟨w.heap.size,0,none⟩) 0 cs.size)).heap.size=w.heap.size:=by simp [World.setCell]
 refine ⟨.slice (some ⟨w.heap.size,0,none⟩) 0 cs.size,(heap_alloc_old _ _ (by rw [gG];exact iT)).trans (Pj hb),?_,.inr ⟨_,rfl,Nat.le_refl _⟩,(((gD.set w b none 1 _).alloc _).drew).drew.drew⟩
 refine ⟨rfl,.inr ⟨w.heap.size,cs.size,cs,(0,0),rfl,Nat.zero_le _,?_,Nat.zero_le _,Nat.zero_le _,hm,by simp,by simp⟩⟩
 have:=heap_alloc_new (w.setCell ⟨b,1,none⟩ (.slice (some ⟨w.heap.size,0,none⟩) 0 cs.size)) (.cells cs 5)
 rw [gG] at this
 exact this
set_option maxHeartbeats 1000000 in
open Go.Shelf Go.RowKit in
theorem Jm (b n:Nat) (w:World) (hb:w.heap[b]? =some (.cells #[.pointer (some ⟨b,0,none⟩),.slice none 0 0] 130 (0,0))) (hn:n≤281474976710656):
 Calls Tryz.prog 202 #[.pointer (some ⟨b,0,none⟩),.int .i64 n] w fun e w'=>e=.returned (.tuple #[])∧
  ∃ v',w'.heap[b]? =some (.cells #[.pointer (some ⟨b,0,none⟩),v'] 130 (0,0))∧w'.ownsRowF 0 5 1 v' 0 []∧(v'.ownBlock=none∨∃ m,v'.ownBlock=some m∧w.heap.size≤m)∧gD w w' b none:=by
 have iT:=H5 hb
 obtain ⟨cs,uu,hle,W0⟩:=Lib.run_makeNoZero (P:=Tryz.prog) w.drew #[3] 128 5 Tryz.underlying128 n hn
 have hw:IntKind.i64.wrap (IntKind.i64.wrap 0+(n:Int))=n:=by
  rw [IntKind.wrap_i64,IntKind.wrap_i64]
  omega
 have Ce:(callFunc 267 #[.int .i64 (IntKind.i64.wrap (IntKind.i64.wrap 0+(n:Int)))]).run Tryz.prog w.drew=.ok (.value (.slice (some ⟨w.drew.heap.size,0,none⟩) n cs.size)) (w.drew.drew.drew.alloc (.cells cs 5)):=by
  rw [hw,run_callFunc_extern Tryz.func267 (by kernel_rfl) (by kernel_rfl) (by kernel_rfl) (e:=Extern.BytealgMakeNoZero.makeNoZero #[3] #[128]) (by kernel_rfl),uu]
  rfl
 have c1:w.drew.cell? ⟨b,1,none⟩=some (.slice none 0 0):=by
  have:w.drew.heap[b]? =_:=hb
  rw [Lib.cell_of_heap this];rfl
 have JU:(w.alloc (.cells cs 5)).heap[b]? =_:=(Lib.alloc_old w _ b iT).trans hb
 have c2:(w.alloc (.cells cs 5)).cell? ⟨b,1,none⟩=some (.slice none 0 0):=by rw [Lib.cell_of_heap JU];rfl
 have f2:(w.alloc (.cells cs 5)).frozen? ⟨b,1,none⟩=false:=Lib.frozen_of_heap JU 1
 have ac6:∀ W:World,(Builtin.copy_ #[128,128] 3 #[.slice (some ⟨w.heap.size,0,none⟩) 0 cs.size,.slice none 0 0]).run Tryz.prog W=.ok (goInt 0) W:=
  fun W=>run_copy_none W 128 128 3 5 _ _ 0 cs.size 0 0 Tryz.underlying128 Tryz.je.sizeByte rfl
 clear hw
 have mixed:=Tryz.Dt.mixed
 go_enter Tryz.func202,Tryz.ntmps202
 go_wp2
 have QC:=Lj (cs:=cs) hb (W0 (by unfold maxLen;omega))
 go_region_o
 all_goals (go_wp2;go_end0;exact ⟨rfl,QC⟩)
set_option maxHeartbeats 1000000 in
open Go.Shelf Go.RowKit in
theorem Oj:E6 Tryz.prog 141 130 5:=by
 intro b n p w hb hp hn
 have eC:∀ args w,(callFunc 140 args).run Tryz.prog w=.ok (.enter 140 args) w:=enters_of Tryz.func140 (by kernel_rfl) rfl
 have eG:∀ args w,(callFunc 202 args).run Tryz.prog w=.ok (.enter 202 args) w:=enters_of Tryz.func202 (by kernel_rfl) rfl
 have mixed:=Tryz.Dt.mixed
 go_enter Tryz.func141,Tryz.ntmps141
 go_wp2_with (go_at_fn 140;refine (Ib b p (.slice none 0 0) _ hb hp).mono ?_)
 rintro e w1 ⟨rfl,Ev,hs1,Pn⟩
 have c1:w1.cell? ⟨b,1,none⟩=some (.slice none 0 0):=by rw [Lib.cell_of_heap Ev];rfl
 have c1':w1.drew.cell? ⟨b,1,none⟩=some (.slice none 0 0):=c1
 go_wp2
 go_region_o
 all_goals go_wp2_with (go_at_fn 202;refine (Jm b n w1.drew Ev hn).mono ?_;rintro e w' ⟨rfl,v',h1,h2,h3,h4⟩)
 all_goals first
  | (go_end0;exact ⟨rfl,v',h1,h2,h3.imp id (fun ⟨m,q1,q2⟩=>⟨m,q1,by have:w1.drew.heap.size=w1.heap.size:=rfl;omega⟩),((Pn none).drew).trans h4⟩)
  | (go_end0;exact ⟨rfl,.slice none 0 0,Ev,World.ownsRowF_nil _ _ _ _,.inl rfl,(Pn none).drew⟩)
theorem tu {b:Bk} {n:Int} {u:Unit} (h:K8 n=some u):aJ Tryz.prog 141 [.ptr b 0,I n] [(b,.qK 130 5 none [])] (T1 (fun q':Bk=>[(b,.qK 130 5 q'.bN [])]) (fun _=>.iV [])):=
 K9 QD Oj h
theorem zg [GI:bF] {s t:aI} {r:Int} (h:Ds s t=some r):Pu Tryz.prog 144 [.str s,.str t] (I r):=by
 intro w S vs hr hl ha
 match vs,hl with
 | ⟨[x,y]⟩,_=>
   have h1:=(ha 0 _ _ rfl rfl).ct
   have h2:=(ha 1 _ _ rfl rfl).ct
   subst h1 h2
   unfold Ds at h
   split at h
   ·obtain rfl:=Option.some.inj h
    refine (Tryz.strings_Count_one _ _ _).mono ?_
    rintro e w' ⟨rfl,rfl⟩
    exact ⟨_,_,[],S,rfl,rfl,.int _ _,hr,iE.refl _ _ _⟩
   ·cases h
end Go.Proofs.YthamhifbccpcpaaGreatDoor
