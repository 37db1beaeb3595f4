/- The code computes the plain functions: proofs written by shal.py. -/
import Derived.Test.YtckmkjeblanlfaaGreatDoorQuoP
import Derived.Test.YtckmkjeblanlfaaGreatDoorLib
set_option maxHeartbeats 4000000
set_option maxRecDepth 100000
set_option linter.unusedVariables false
set_option linter.unusedSimpArgs false
namespace Go.Proofs.YtckmkjeblanlfaaGreatDoor
open Go Go.Eng Go.Proofs Go.Beacon
attribute [local irreducible] ae ab AQ QV aB ai O6 AM
instance adE:Dh Tryz.prog 92:=⟨by kernel_rfl⟩
instance adF:mP Tryz.prog 92 2 aH.av:=⟨fun x y w S v u hv hu=>by
 obtain ⟨vs,rfl,hl,ha⟩:=At.gR hv
 obtain ⟨us,rfl,uZ,zN⟩:=At.gR hu
 obtain ⟨v0,p0,q0⟩:=kB.get hl ha (off:=0) rfl
 obtain ⟨u0,J7,J8⟩:=kB.get uZ zN (off:=0) rfl
 obtain ⟨v1,p1,q1⟩:=kB.get hl ha (off:=1) rfl
 obtain ⟨u1,J9,Ka⟩:=kB.get uZ zN (off:=1) rfl
 obtain ⟨v2,p2,q2⟩:=kB.get hl ha (off:=2) rfl
 obtain ⟨u2,QG,QH⟩:=kB.get uZ zN (off:=2) rfl
 refine uL.cast (uL.struct Tryz.underlying92 (by kernel_rfl) (.cons (by decide) (bZ J p0) (bZ J J7) (uL.up (mP.h (g:=AV.str) x.an y.an w S _ _ q0 J8) 0) (.cons (by decide) (bZ J p1) (bZ J J9) (uL.up (mP.h (g:=AV.str) x.bT y.bT w S _ _ q1 Ka) 0) (.cons (by decide) (bZ J p2) (bZ J QG) (uL.up (mP.h (g:=I) x.kU y.kU w S _ _ q2 QH) 0) .nil)))) ?_
 obtain ⟨_,_,_⟩:=x
 obtain ⟨_,_,_⟩:=y
 rw [Bool.eq_iff_iff];simp [and_assoc]⟩
instance adG:Dh Tryz.prog 98:=⟨by kernel_rfl⟩
instance adH:mP Tryz.prog 98 2 Version.av:=⟨fun x y w S v u hv hu=>by
 obtain ⟨vs,rfl,hl,ha⟩:=At.gR hv
 obtain ⟨us,rfl,uZ,zN⟩:=At.gR hu
 obtain ⟨v0,p0,q0⟩:=kB.get hl ha (off:=0) rfl
 obtain ⟨u0,J7,J8⟩:=kB.get uZ zN (off:=0) rfl
 obtain ⟨v1,p1,q1⟩:=kB.get hl ha (off:=1) rfl
 obtain ⟨u1,J9,Ka⟩:=kB.get uZ zN (off:=1) rfl
 obtain ⟨v2,p2,q2⟩:=kB.get hl ha (off:=2) rfl
 obtain ⟨u2,QG,QH⟩:=kB.get uZ zN (off:=2) rfl
 refine uL.cast (uL.struct Tryz.underlying98 (by kernel_rfl) (.cons (by decide) (bZ J p0) (bZ J J7) (uL.up (mP.h (g:=I) x.bQ y.bQ w S _ _ q0 J8) 0) (.cons (by decide) (bZ J p1) (bZ J J9) (uL.up (mP.h (g:=I) x.bR y.bR w S _ _ q1 Ka) 0) (.cons (by decide) (bZ J p2) (bZ J QG) (uL.up (mP.h (g:=I) x.bN y.bN w S _ _ q2 QH) 0) .nil)))) ?_
 obtain ⟨_,_,_⟩:=x
 obtain ⟨_,_,_⟩:=y
 rw [Bool.eq_iff_iff];simp [and_assoc]⟩
instance WJ:Dh Tryz.prog 101:=⟨by kernel_rfl⟩
instance WK:mP Tryz.prog 101 2 lA.av:=⟨fun x y w S v u hv hu=>by
 obtain ⟨vs,rfl,hl,ha⟩:=At.gR hv
 obtain ⟨us,rfl,uZ,zN⟩:=At.gR hu
 obtain ⟨v0,p0,q0⟩:=kB.get hl ha (off:=0) rfl
 obtain ⟨u0,J7,J8⟩:=kB.get uZ zN (off:=0) rfl
 obtain ⟨v1,p1,q1⟩:=kB.get hl ha (off:=1) rfl
 obtain ⟨u1,J9,Ka⟩:=kB.get uZ zN (off:=1) rfl
 refine uL.cast (uL.struct Tryz.underlying101 (by kernel_rfl) (.cons (by decide) (bZ J p0) (bZ J J7) (uL.up (mP.h (g:=I) x.iU y.iU w S _ _ q0 J8) 0) (.cons (by decide) (bZ J p1) (bZ J J9) (uL.up (mP.h (g:=I) x.To y.To w S _ _ q1 Ka) 0) .nil))) ?_
 obtain ⟨_,_⟩:=x
 obtain ⟨_,_⟩:=y
 rw [Bool.eq_iff_iff];simp [and_assoc]⟩
instance WL:Dh Tryz.prog 164:=⟨by kernel_rfl⟩
instance WM:mP Tryz.prog 164 2 an.av:=⟨fun x y w S v u hv hu=>by
 obtain ⟨vs,rfl,hl,ha⟩:=At.gR hv
 obtain ⟨us,rfl,uZ,zN⟩:=At.gR hu
 obtain ⟨v0,p0,q0⟩:=kB.get hl ha (off:=0) rfl
 obtain ⟨u0,J7,J8⟩:=kB.get uZ zN (off:=0) rfl
 obtain ⟨v1,p1,q1⟩:=kB.get hl ha (off:=1) rfl
 obtain ⟨u1,J9,Ka⟩:=kB.get uZ zN (off:=1) rfl
 refine uL.cast (uL.struct Tryz.underlying164 (by kernel_rfl) (.cons (by decide) (bZ J p0) (bZ J J7) (uL.up (mP.h (g:=AV.str) x.Key y.Key w S _ _ q0 J8) 0) (.cons (by decide) (bZ J p1) (bZ J J9) (uL.up (mP.h (g:=AV.str) x.eB y.eB w S _ _ q1 Ka) 0) .nil))) ?_
 obtain ⟨_,_⟩:=x
 obtain ⟨_,_⟩:=y
 rw [Bool.eq_iff_iff];simp [and_assoc]⟩
instance WN:Dh Tryz.prog 169:=⟨by kernel_rfl⟩
instance WO:mP Tryz.prog 169 2 bj.av:=⟨fun x y w S v u hv hu=>by
 obtain ⟨vs,rfl,hl,ha⟩:=At.gR hv
 obtain ⟨us,rfl,uZ,zN⟩:=At.gR hu
 obtain ⟨v0,p0,q0⟩:=kB.get hl ha (off:=0) rfl
 obtain ⟨u0,J7,J8⟩:=kB.get uZ zN (off:=0) rfl
 obtain ⟨v1,p1,q1⟩:=kB.get hl ha (off:=1) rfl
 obtain ⟨u1,J9,Ka⟩:=kB.get uZ zN (off:=1) rfl
 obtain ⟨v2,p2,q2⟩:=kB.get hl ha (off:=2) rfl
 obtain ⟨u2,QG,QH⟩:=kB.get uZ zN (off:=2) rfl
 refine uL.cast (uL.struct Tryz.underlying169 (by kernel_rfl) (.cons (by decide) (bZ J p0) (bZ J J7) (uL.up (mP.h (g:=AV.str) x.vE y.vE w S _ _ q0 J8) 0) (.cons (by decide) (bZ J p1) (bZ J J9) (uL.up (mP.h (g:=AV.str) x.an y.an w S _ _ q1 Ka) 0) (.cons (by decide) (bZ J p2) (bZ J QG) (uL.up (mP.h (g:=AV.str) x.bF y.bF w S _ _ q2 QH) 0) .nil)))) ?_
 obtain ⟨_,_,_⟩:=x
 obtain ⟨_,_,_⟩:=y
 rw [Bool.eq_iff_iff];simp [and_assoc]⟩
instance WQ:Dh Tryz.prog 171:=⟨by kernel_rfl⟩
instance WR:mP Tryz.prog 171 2 bL.av:=⟨fun x y w S v u hv hu=>by
 obtain ⟨vs,rfl,hl,ha⟩:=At.gR hv
 obtain ⟨us,rfl,uZ,zN⟩:=At.gR hu
 obtain ⟨v0,p0,q0⟩:=kB.get hl ha (off:=0) rfl
 obtain ⟨u0,J7,J8⟩:=kB.get uZ zN (off:=0) rfl
 obtain ⟨v1,p1,q1⟩:=kB.get hl ha (off:=1) rfl
 obtain ⟨u1,J9,Ka⟩:=kB.get uZ zN (off:=1) rfl
 obtain ⟨v2,p2,q2⟩:=kB.get hl ha (off:=2) rfl
 obtain ⟨u2,QG,QH⟩:=kB.get uZ zN (off:=2) rfl
 obtain ⟨v3,p3,q3⟩:=kB.get hl ha (off:=3) rfl
 obtain ⟨u3,p3',q3'⟩:=kB.get uZ zN (off:=3) rfl
 refine uL.cast (uL.struct Tryz.underlying171 (by kernel_rfl) (.cons (by decide) (bZ J p0) (bZ J J7) (uL.up (mP.h (g:=I) x.Kind y.Kind w S _ _ q0 J8) 0) (.cons (by decide) (bZ J p1) (bZ J J9) (uL.up (mP.h (g:=AV.bool) x.cf y.cf w S _ _ q1 Ka) 0) (.cons (by decide) (bZ J p2) (bZ J QG) (uL.up (mP.h (g:=I) x.Number y.Number w S _ _ q2 QH) 0) (.cons (by decide) (bZ J p3) (bZ J p3') (uL.up (mP.h (g:=AV.str) x.Words y.Words w S _ _ q3 q3') 0) .nil))))) ?_
 obtain ⟨_,_,_,_⟩:=x
 obtain ⟨_,_,_,_⟩:=y
 rw [Bool.eq_iff_iff];simp [and_assoc]⟩
instance WS:mP Tryz.prog 198 2 aj.av:=⟨fun x y w S v u hv hu=>by
 obtain ⟨vs,rfl,hl,ha⟩:=At.gR hv
 obtain ⟨us,rfl,uZ,zN⟩:=At.gR hu
 obtain ⟨v0,p0,q0⟩:=kB.get hl ha (off:=0) rfl
 obtain ⟨u0,J7,J8⟩:=kB.get uZ zN (off:=0) rfl
 obtain ⟨v1,p1,q1⟩:=kB.get hl ha (off:=1) rfl
 obtain ⟨u1,J9,Ka⟩:=kB.get uZ zN (off:=1) rfl
 refine uL.cast (uL.struct Tryz.underlying198 (by kernel_rfl) (.cons (by decide) (bZ J p0) (bZ J J7) (uL.up (mP.h (g:=AV.str) x.cu y.cu w S _ _ q0 J8) 0) (.cons (by decide) (bZ J p1) (bZ J J9) (uL.up (mP.h (g:=AV.str) x.cZ y.cZ w S _ _ q1 Ka) 0) .nil))) ?_
 obtain ⟨_,_⟩:=x
 obtain ⟨_,_⟩:=y
 rw [Bool.eq_iff_iff];simp [and_assoc]⟩
instance WT:gn Tryz.prog 198 aj.av:=gn.struct (n:=2) J Tryz.underlying198 (fun f hf=>by
 simp only [List.mem_cons,List.not_mem_nil,or_false] at hf
 rcases hf with rfl | rfl
 ·exact ⟨_,aA.h (P:=Tryz.prog) (t:=9),J,by decide⟩
 ·exact ⟨_,aA.h (P:=Tryz.prog) (t:=9),J,by decide⟩) (fun x=>⟨_,J,J,fun c hc=>by
 simp only [List.mem_cons,List.not_mem_nil,or_false] at hc
 rcases hc with rfl | rfl<;>rfl⟩) (fun a b h=>by
 obtain ⟨_,_⟩:=a
 obtain ⟨_,_⟩:=b
 simpa [aj.av] using h)
abbrev du (xs:List Int):AV:=.list 1 (xs.map I)
abbrev mU (xs:List al):AV:=.list 1 (xs.map AV.str)
abbrev y8 (xs:List an):AV:=.list 2 (xs.map an.av)
abbrev C3 (xs:List bF):AV:=.list 2 (xs.map bF.av)
abbrev xQ (xs:List bj):Ob:=.arr 3 (xs.map bj.av)
abbrev lr (xs:List Query):AV:=.list 11 (xs.map Query.av)
abbrev Nc (xs:List Query):Ob:=.arr 11 (xs.map Query.av)
abbrev wX (x:Query):List AV:=[I x.Kind,.str x.Field,.str x.Op,I x.Value.Kind,.bool x.Value.cf,I x.Value.Number,.str x.Value.Words,I x.Version.bQ,I x.Version.bR,I x.Version.bN,lr x.Kids]
abbrev C4 (xs:List bJ):Ob:=.arr 17 (xs.map bJ.av)
abbrev xR (xs:List an):Ob:=.arr 2 (xs.map an.av)
abbrev zR (xs:List bF):Ob:=.arr 2 (xs.map bF.av)
abbrev Se (x:bu) (b0 b1 b2 b3:Bk):List AV:=[.sl 2 b0 0 x.ak.length,.sl 2 b1 0 x.ba.length,.sl 3 b2 0 x.aL.length,.sl 17 b3 0 x.aR.length]
abbrev Ei (xs:List aH):Ob:=.arr 3 (xs.map aH.av)
abbrev Mg (xs:List aM):Ob:=.arr 3 (xs.map aM.av)
abbrev Dq (xs:List bj):AV:=.list 3 (xs.map bj.av)
abbrev Ch (xs:List bJ):AV:=.list 17 (xs.map bJ.av)
abbrev uE (x:bu):List AV:=[y8 x.ak,C3 x.ba,Dq x.aL,Ch x.aR]
abbrev Be (xs:List al):Ob:=.arr 1 (xs.map AV.str)
abbrev lE9 (xs:List Bool):AV:=.list 1 (xs.map AV.bool)
abbrev QI (x:bJ):List AV:=[.str x.Key,.str x.iU,.str x.To,I x.Query.Kind,.str x.Query.Field,.str x.Query.Op,I x.Query.Value.Kind,.bool x.Query.Value.cf,I x.Query.Value.Number,.str x.Query.Value.Words,I x.Query.Version.bQ,I x.Query.Version.bR,I x.Query.Version.bN,lr x.Query.Kids,mU x.mR,I x.Time.iU,I x.Time.To]
abbrev th (xs:List aH):AV:=.list 3 (xs.map aH.av)
abbrev wb (xs:List aM):AV:=.list 3 (xs.map aM.av)
abbrev eG (xs:List (al×al)):Ob:=.mp (xs.map (fun e=>(AV.str e.1,AV.str e.2)))
abbrev ym (xs:List (al×(List al))):Ob:=.mp (xs.map (fun e=>(AV.str e.1,(Df 1 AV.str) e.2)))
abbrev Dr (xs:List (jb×(List Int))):Ob:=.mp (xs.map (fun e=>(jb.av e.1,(Df 1 I) e.2)))
abbrev Ds (xs:List (jb×Bool)):Ob:=.mp (xs.map (fun e=>(jb.av e.1,AV.bool e.2)))
abbrev Sf (xs:List Int):Ob:=.arr 1 (xs.map I)
abbrev mV (x:aC) (b4 b5 b6 b7 b8:Bk):List AV:=[y8 x.bu.ak,C3 x.bu.ba,Dq x.bu.aL,Ch x.bu.aR,.gl b4,.gl b5,.gl b6,.gl b7,.gl b8]
abbrev Kb (xs:List (al×(List Int))):Ob:=.mp (xs.map (fun e=>(AV.str e.1,(Df 1 I) e.2)))
abbrev wi:=(fun (e:aj×Int)=>(aj.av e.1,I e.2))
abbrev su (xs:List (aj×Int)):Ob:=.mp (xs.map (fun e=>(aj.av e.1,I e.2)))
abbrev Ol (xs:List (List al)):AV:=.list 1 (xs.map (Df 1 AV.str))
theorem E6 [GI:bx] {aa:Int} {ah:Int} {r:Int} (h:Below aa ah=some r):Pu Tryz.prog 74 [I aa,I ah] (I r):=by
 unfold Below at h
 refine aB.aS Tryz.func74 J Tryz.ntmps74 Tryz.results74 J J ?_
 refine ax<|rA J J<|rN<|tS<|ax<|rM J J<|ae.qv (bG J J) J<|rN<|cD h J (fun h=>?_) (fun h=>?_)
 ·refine ax<|rA J J<|rN<|ab.ret<|?_
  cases h
  exact hP J J
 ·refine tK<|ax<|rM J J<|rM J J<|au h fun n1 e1 h=>ae.qv (Lf J J e1) J<|rA J J<|rN<|tS<|ax<|rM J J<|ae.qv (bG J J) J<|rN<|ab.cut (fun aE=>∃ (n2:Int),wO n2=some r∧aE=⟨16,[(0,I n2)],[]⟩) ?_ ?_
  ·refine cD h J (fun h=>?_) (fun h=>?_)
   ·exact tR<|rM J J<|rM J J<|ae.qv (bd J J) J<|rA J J<|rN<|ab.stop<|ai.lq [] ⟨cr (n1+ah),h,J⟩ J J
   ·exact tK<|ab.stop<|ai.lq [] ⟨n1,h,J⟩ J J
  ·rintro aE ⟨n2,h,rfl⟩
   unfold wO at h
   refine ax<|rM J J<|rA J J<|rN<|ab.ret<|?_
   cases h
   exact hP J J
theorem dZ [GI:bx] {br:Bk} {aa:ag} {ah:Int} {r:Int×ag} (h:dw aa ah=some r):aB Tryz.prog 12 [.ptr br 0,I ah] [(br,.cells [du aa.L,I aa.at_])] (T0 ([(br,.cells [du r.2.L,I r.2.at_])]) (I r.1)):=by
 unfold dw at h
 refine aB.dS ?_
 refine aB.aS Tryz.func12 J Tryz.ntmps12 Tryz.results12 J J ?_
 refine ax<|rA J J<|rN<|ax<|rM J J<|ae.qv (aY J) J<|rF J J J<|rL J J .p0 J J<|ae.qv (bd J J) J<|ae.qv (aY J) J<|rF J J J<|aq J J J J .p0 J J<|rN<|tS<|ax<|rM J J<|ae.qv (aY J) J<|rF J J J<|rL J J .p0 J J<|ae.qv (bA J) J<|ae.qv (cL J J) J<|rN<|cD h J (fun h=>?_) (fun h=>?_)
 ·refine ax<|rM J J<|ae.qv (aY J) J<|rF J J J<|rL J J .p0 J J<|ae.qv (KT J J) J<|rM J J<|au h fun v1 e1 h=>aG J (E6 e1) cR J<|rA J J<|rN<|ab.ret<|?_
  cases h
  exact hH J [0] J ⟨J,J⟩
 ·refine tK<|tS<|ab.cV (id:=4) (A:=[0,1,3,7,15,0,32,96,224,480,1023,2047]) 12 mixed J (by kernel_rfl) (by kernel_rfl)<|AM.qv (aQ J) J<|AM.qv (aY J) J<|AM.qv (az J J) J<|AM.qv (aI J J .p0 J) J<|AM.qv (gi J J) J<|AM.qv (aQ J) J<|AM.qv (aY J) J<|AM.qv (az J J) J<|AM.qv (aI J J .p0 J) J<|AM.qv (bA J) J<|au h fun n2 e2 h=>AM.qv (Lf J J e2) J<|AM.qv (bI J) J<|AM.nil<|rN<|tS<|ab.cV (id:=5) (A:=[0,1,3,7,15,0,32,96,224,480,1023,2047]) 12 mixed J (by kernel_rfl) (by kernel_rfl)<|AM.qv (aQ J) J<|AM.qv (aY J) J<|AM.qv (az J J) J<|AM.qv (aI J J .p0 J) J<|AM.qv (gi J J) J<|AM.qv (aQ J) J<|AM.qv (aY J) J<|AM.qv (az J J) J<|AM.qv (aI J J .p0 J) J<|AM.qv (bA J) J<|au h fun n3 e3 h=>AM.qv (P4 J J e3) J<|AM.qv (bI J) J<|AM.nil<|rN<|ax<|rM J J<|ae.qv (aY J) J<|rF J J J<|rL J J .p0 J J<|rM J J<|au h fun v4 e4 h=>ae.qv (aO J J J e4 J J) J<|ae.qv (aJ J J J) J<|au h fun v5 e5 h=>aG J (E6 e5) cR J<|rM J J<|rM J J<|ae.qv (bd J J) J<|ae.qv (KT J J) J<|ae.qv (bd J J) J<|rM J J<|au h fun v6 e6 h=>aG J (E6 e6) cR J<|rA J J<|rN<|ab.ret<|?_
  cases h
  exact hH J [0] J ⟨J,J⟩
theorem bD [GI:bx] {br:Bk} {aa:ag} {ah:List al} {r:al×ag} (h:bH aa ah=some r):aB Tryz.prog 10 [.ptr br 0,mU ah] [(br,.cells [du aa.L,I aa.at_])] (T0 ([(br,.cells [du r.2.L,I r.2.at_])]) (.str r.1)):=by
 unfold bH at h
 refine aB.dS ?_
 refine aB.aS Tryz.func10 J Tryz.ntmps10 Tryz.results10 J J ?_
 refine ax<|rA J J<|rN<|ax<|rM J J<|rM J J<|rM J J<|ae.qv (bA J) J<|au h fun v1 e1 h=>aK J (dZ e1) cR (.cons .p0 .nil) J J<|au h fun v2 e2 h=>ae.qv (aO J J J e2 J J) J<|ae.qv (aJ J J J) J<|rA J J<|rN<|ab.ret<|?_
 cases h
 exact hH J [0] J ⟨J,J⟩
theorem uQ [GI:bx] {br:Bk} {aa:ag} {r:(List al)×ag} (h:mY aa=some r):aB Tryz.prog 99 [.ptr br 0] [(br,.cells [du aa.L,I aa.at_])] (T0 ([(br,.cells [du r.2.L,I r.2.at_])]) (mU r.1)):=by
 unfold mY at h
 refine aB.dS ?_
 refine aB.aS Tryz.func99 J Tryz.ntmps99 Tryz.results99 J J ?_
 refine ax<|rA J J<|rN<|ax<|aD (xs:=([([42]:al)]).map AV.str) J J J J J J<|aD (xs:=([([100,101,118,105,99,101,46,42]:al)]).map AV.str) J J J J J J<|aD (xs:=([([100,101,118,105,99,101,46,114,101,97,100]:al)]).map AV.str) J J J J J J<|aD (xs:=([([100,101,118,105,99,101,46,114,101,97,100]:al),([111,114,103,46,42]:al)]).map AV.str) J J J J J J<|aD (xs:=([([100,101,118,105,99,101,46,114,101,97,100]:al),([100,101,118,105,99,101,46,119,114,105,116,101]:al)]).map AV.str) J J J J J J<|aD (xs:=([[([42]:al)],[([100,101,118,105,99,101,46,42]:al)],[([100,101,118,105,99,101,46,114,101,97,100]:al)],[([100,101,118,105,99,101,46,114,101,97,100]:al),([111,114,103,46,42]:al)],[([100,101,118,105,99,101,46,114,101,97,100]:al),([100,101,118,105,99,101,46,119,114,105,116,101]:al)]]).map (Df 1 AV.str)) J J J J J J<|rM J J<|au h fun v1 e1 h=>aK J (dZ e1) cR (.cons .p0 .nil) J J<|au h fun v2 e2 h=>ae.qv (aO J J J e2 J J) J<|ae.qv (aJ J J J) J<|rA J J<|rN<|ab.ret<|?_
 cases h
 exact hH J [0] J ⟨J,J⟩
theorem ea [GI:bx] {br:Bk} {aa:ag} {ah:Int} {r:Bool×ag} (h:dx aa ah=some r):aB Tryz.prog 13 [.ptr br 0,I ah] [(br,.cells [du aa.L,I aa.at_])] (T0 ([(br,.cells [du r.2.L,I r.2.at_])]) (.bool r.1)):=by
 unfold dx at h
 refine aB.dS ?_
 refine aB.aS Tryz.func13 J Tryz.ntmps13 Tryz.results13 J J ?_
 refine ax<|rA J J<|rN<|ax<|rM J J<|rM J J<|au h fun v1 e1 h=>aK J (dZ e1) cR (.cons .p0 .nil) J J<|ae.qv (cL J J) J<|rA J J<|rN<|ab.ret<|?_
 cases h
 exact hH J [0] J ⟨J,J⟩
theorem cI [GI:bx] {br:Bk} {aa:ag} {ah:List Int} {r:Int×ag} (h:cx aa ah=some r):aB Tryz.prog 56 [.ptr br 0,du ah] [(br,.cells [du aa.L,I aa.at_])] (T0 ([(br,.cells [du r.2.L,I r.2.at_])]) (I r.1)):=by
 unfold cx at h
 refine aB.dS ?_
 refine aB.aS Tryz.func56 J Tryz.ntmps56 Tryz.results56 J J ?_
 refine ax<|rA J J<|rN<|ax<|rM J J<|rM J J<|rM J J<|ae.qv (bA J) J<|au h fun v1 e1 h=>aK J (dZ e1) cR (.cons .p0 .nil) J J<|au h fun v2 e2 h=>ae.qv (aO J J J e2 J J) J<|ae.qv (aJ J J J) J<|rA J J<|rN<|ab.ret<|?_
 cases h
 exact hH J [0] J ⟨J,J⟩
theorem lh [GI:bx] {QJ:Bk} {aa:ag} {r:al×ag} (h:gq aa=some r):aB Tryz.prog 246 [.mu [.ptr QJ 0]] [(QJ,.cells [du aa.L,I aa.at_])] (T0 ([(QJ,.cells [du r.2.L,I r.2.at_])]) (.str r.1)):=by
 unfold gq at h
 refine aB.dS ?_
 refine aB.aS Tryz.func246 J Tryz.ntmps246 Tryz.results246 J J ?_
 refine ax<|rA J J<|rN<|ax<|ae.qv (aJ J J J) J<|aD (xs:=([([61,61]:al),([61,61]:al),([33,61]:al)]).map AV.str) J J J J J J<|au h fun v1 e1 h=>aK J (bD e1) cR (.cons .p0 .nil) J J<|rA J J<|rN<|ab.ret<|?_
 cases h
 exact hH J [0] J ⟨J,J⟩
theorem nW [GI:bx] {QK:Bk} {aa:List al} {ah:ag} {r:bL×ag} (h:iq aa ah=some r):aB Tryz.prog 247 [mU aa,.mu [.ptr QK 0]] [(QK,.cells [du ah.L,I ah.at_])] (T0 ([(QK,.cells [du r.2.L,I r.2.at_])]) (bL.av r.1)):=by
 unfold iq at h
 refine aB.dS ?_
 refine aB.aS Tryz.func247 J Tryz.ntmps247 Tryz.results247 J J ?_
 refine ax<|bf J J J J fun b1=>rN<|ax<|ae.qv (aJ J J J) J<|rM J J<|au h fun v2 e1 h=>aK J (bD e1) cR (.cons .p1 .nil) J J<|ae.qv (bn J J J J J) J<|aq J J J J .p1 J J<|rN<|ab.ret<|?_
 cases h
 exact ai.here ⟨_,.cons (.all _ _ _ _ _ _ J .p1 aA.h aN.h J J) .nil,_,.cons .p0 .nil,⟨J,J⟩⟩
theorem E7 [GI:bx] {r:(List al)} (h:vc=r):Pu Tryz.prog 248 [] (mU r):=by
 unfold vc at h
 refine aB.aS Tryz.func248 J Tryz.ntmps248 Tryz.results248 J J ?_
 refine ax<|rA J J<|rN<|ax<|aD (xs:=([([61,61]:al),([33,61]:al),([60,61]:al),([62,61]:al),([60]:al),([62]:al)]).map AV.str) J J J J J J<|rA J J<|rN<|ab.ret<|?_
 obtain rfl:=h
 exact hP J J
theorem x6 [GI:bx] {br:Bk} {aa:ag} {r:Query×ag} (h:pw aa=some r):aB Tryz.prog 179 [.ptr br 0] [(br,.cells [du aa.L,I aa.at_])] (T0 ([(br,.cells [du r.2.L,I r.2.at_])]) (.agg [I r.1.Kind,.str r.1.Field,.str r.1.Op,I r.1.Value.Kind,.bool r.1.Value.cf,I r.1.Value.Number,.str r.1.Value.Words,I r.1.Version.bQ,I r.1.Version.bR,I r.1.Version.bN,lr r.1.Kids])):=by
 unfold pw at h
 refine aB.dS ?_
 refine aB.aS Tryz.func179 J Tryz.ntmps179 Tryz.results179 J J ?_
 refine ax<|cm J J J J fun b1=>ae.ghost<|ai.Qs (s:=1) J .p0<|ai.here<|bf J J J J fun b2=>rN<|ax<|ae.qv (jk J) J<|rA J J<|rN<|ax<|ae.qv (jk J) J<|rA J J<|rN<|tS<|ax<|ae.qv (aJ J J J) J<|au h fun v3 e1 h=>aK J (dZ e1) cR (.cons .p1 .nil) J J<|rN<|ab.block<|ax<|ae.qv (cL J J) J<|rA J J<|rN<|cD h J (fun h=>?_) (fun h=>?_)
 ·refine ax<|ae.qv (aJ J J J) J<|aD (xs:=([([116,97,103,46,115,105,116,101]:al),([116,97,103,46,111,112,101,110]:al),([112,114,111,112,46,97]:al),([112,114,111,112,46,102,97,110,46,111,110]:al)]).map AV.str) J J J J J J<|au h fun v4 e2 h=>aK J (bD e2) cR (.cons .p0 .nil) J J<|ae.qv (bn J J J J J) J<|aq J J J J .p1 J J<|rN<|ab.ret<|?_
  cases h
  exact ai.cd (j:=10) 11 .p1 J J J<|ai.here ⟨_,.cons (.all _ _ _ _ _ _ J .p1 aA.h aN.h J J) .nil,_,.cons .p0 .nil,⟨J,J⟩⟩
 ·refine ax<|ae.qv (cL J J) J<|rA J J<|rN<|cD h J (fun h=>?_) (fun h=>?_)
  ·refine ax<|rM J J<|au h fun v5 e3 h=>pP J J J (lh e3) cR (.cons .p0 .nil) J J<|rM J J<|aD (xs:=([([100,97]:al),([100,98]:al),([102,114,101,115,104]:al)]).map AV.str) J J J J J J<|au h fun v6 e4 h=>pP J J J (nW e4) cR (.cons .p0 .nil) J J<|ae.qv (bn J J J J J) J<|aq J J J J .p1 J J<|rN<|ab.ret<|?_
   cases h
   exact ai.cd (j:=10) 11 .p1 J J J<|ai.here ⟨_,.cons (.all _ _ _ _ _ _ J .p1 aA.h aN.h J J) .nil,_,.cons .p0 .nil,⟨J,J⟩⟩
  ·refine ax<|ae.qv (cL J J) J<|rA J J<|rN<|cD h J (fun h=>?_) (fun h=>?_)
   ·refine ax<|ae.qv (aJ J J J) J<|aD (xs:=([([109,111,100,101,108]:al),([116,101,110,97,110,116]:al)]).map AV.str) J J J J J J<|au h fun v7 e5 h=>aK J (bD e5) cR (.cons .p0 .nil) J J<|rM J J<|au h fun v8 e6 h=>pP J J J (lh e6) cR (.cons .p0 .nil) J J<|rM J J<|aD (xs:=([([109,97]:al),([116,97]:al),([]:al),([81]:al)]).map AV.str) J J J J J J<|au h fun v9 e7 h=>pP J J J (nW e7) cR (.cons .p0 .nil) J J<|ae.qv (bn J J J J J) J<|aq J J J J .p1 J J<|rN<|ab.ret<|?_
    cases h
    exact ai.cd (j:=10) 11 .p1 J J J<|ai.here ⟨_,.cons (.all _ _ _ _ _ _ J .p1 aA.h aN.h J J) .nil,_,.cons .p0 .nil,⟨J,J⟩⟩
   ·refine ax<|ae.qv (cL J J) J<|rA J J<|rN<|cD h J (fun h=>?_) (fun h=>?_)
    ·refine tS<|au h fun v10 e8 h=>au h fun v11 e9 h=>au h fun v12 zS h=>ab.jM (id:=11) (A:=[0,0,3,0,15,0,0,127,0,0,1023,2047,4095,8191]) (H0:=[(br,.cells [du v3.2.L,I v3.2.at_])]) (HH:=fun β=>[(br,.cells [du v12.2.L,I v12.2.at_]),(b2,.cells [I (0:Int),.str [],.str [],I (0:Int),.bool false,I (0:Int),.str [],I (0:Int),I (0:Int),I (0:Int),.nil])]) 10 mixed J (by kernel_rfl) (by kernel_rfl) [⟨none,some 2,[],fun _=>(br,.cells [du v3.2.L,I v3.2.at_]),none,[]⟩,⟨some 2,some 4,[],fun _=>(br,.cells [du v10.2.L,I v10.2.at_]),none,[]⟩,⟨some 4,some 7,[],fun _=>(br,.cells [du v11.2.L,I v11.2.at_]),none,[]⟩,⟨some 7,none,[],fun _=>(br,.cells [du v12.2.L,I v12.2.at_]),none,[]⟩] [] J (by kernel_rfl) J (.cons .p0 .nil) (fun _=>J)<|AT.am 2 J J<|AM.qv (aJ J J J) J<|AM.gj J (E7 J) cR J<|AM.nil<|AT.tx (av:=.str v10.1) (Ti:=[(br,.cells [du v3.2.L,I v3.2.at_])]) (Pi:=[(br,.cells [du v10.2.L,I v10.2.at_])]) (fun _=>J) (fun _=>J) (fun _=>J) J J J ?_ ?_
     ·exact aK J (bD e8) cR (.cons .p0 .nil) J J<|ae.nil ⟨_,J,J⟩
     refine AT.am 1 J J<|AM.qv (aJ J J J) J<|AM.nil<|AT.tx (av:=I v11.1) (Ti:=[(br,.cells [du v10.2.L,I v10.2.at_])]) (Pi:=[(br,.cells [du v11.2.L,I v11.2.at_])]) (fun _=>J) (fun _=>J) (fun _=>J) J J J ?_ ?_
     ·exact aK J (dZ e9) cR (.cons .p0 .nil) J J<|ae.nil ⟨_,J,J⟩
     refine AT.am 2 J J<|AM.qv (aJ J J J) J<|AM.bz (xs:=([(0:Int),(2:Int)]).map I) J J J J J J<|AM.nil<|AT.tx (av:=I v12.1) (Ti:=[(br,.cells [du v11.2.L,I v11.2.at_])]) (Pi:=[(br,.cells [du v12.2.L,I v12.2.at_])]) (fun _=>J) (fun _=>J) (fun _=>J) J J J ?_ ?_
     ·exact aK J (cI zS) cR (.cons .p0 .nil) J J<|ae.nil ⟨_,J,J⟩
     refine AT.am 2 J J<|AM.qv (aJ J J J) J<|AM.bz (xs:=([(0:Int),(0:Int),(9999:Int)]).map I) J J J J J J<|AM.nil<|AT.wJ (fun _=>J) fun β=>au h fun oh E8 h=>aK J (cI E8) cR (.cons .p0 .nil) J J<|ae.qv (bn J J J J J) J<|ae.qv (bn J J J J J) J<|aq J J J J .p1 J J<|rN<|ab.ret<|?_
     cases h
     exact ai.cd (j:=10) 11 .p1 J J J<|ai.here ⟨_,.cons (.all _ _ _ _ _ _ J .p1 aA.h aN.h J J) .nil,_,.cons .p0 .nil,⟨J,J⟩⟩
    ·refine ax<|ae.qv (cL J J) J<|rA J J<|rN<|cD h J (fun h=>?_) (fun h=>?_)
     ·refine ax<|rM J J<|au h fun xy FE h=>pP J J J (lh FE) cR (.cons .p0 .nil) J J<|rM J J<|aD (xs:=([([120]:al),([121]:al),([97,34,98,92,99]:al),([]:al)]).map AV.str) J J J J J J<|au h fun lB GC h=>pP J J J (nW GC) cR (.cons .p0 .nil) J J<|ae.qv (bn J J J J J) J<|aq J J J J .p1 J J<|rN<|ab.ret<|?_
      cases h
      exact ai.cd (j:=10) 11 .p1 J J J<|ai.here ⟨_,.cons (.all _ _ _ _ _ _ J .p1 aA.h aN.h J J) .nil,_,.cons .p0 .nil,⟨J,J⟩⟩
     ·refine ax<|ae.qv (cL J J) J<|rA J J<|rN<|cD h J (fun h=>?_) (fun h=>?_)
      ·refine tS<|au h fun uq Mh h=>ab.jM (id:=15) (A:=[0,1,0,7,15,31,63]) (H0:=[(br,.cells [du v3.2.L,I v3.2.at_])]) (HH:=fun β=>[(br,.cells [du uq.2.L,I uq.2.at_]),(b2,.cells [I (0:Int),.str [],.str [],I (0:Int),.bool false,I (0:Int),.str [],I (0:Int),I (0:Int),I (0:Int),.nil])]) 3 mixed J (by kernel_rfl) (by kernel_rfl) [⟨none,some 1,[],fun _=>(br,.cells [du v3.2.L,I v3.2.at_]),none,[]⟩,⟨some 1,none,[],fun _=>(br,.cells [du uq.2.L,I uq.2.at_]),none,[]⟩] [] J (by kernel_rfl) J (.cons .p0 .nil) (fun _=>J)<|AT.am 1 J J<|AM.qv (aQ J) J<|AM.nil<|AT.tx (av:=.str uq.1) (Ti:=[(br,.cells [du v3.2.L,I v3.2.at_])]) (Pi:=[(br,.cells [du uq.2.L,I uq.2.at_])]) (fun _=>J) (fun _=>J) (fun _=>J) J J J ?_ ?_
       ·exact pP J J J (lh Mh) cR (.cons .p0 .nil) J J<|ae.nil ⟨_,J,J⟩
       refine AT.am 1 J J<|AM.qv (aJ J J J) J<|AM.nil<|AT.wJ (fun _=>J) fun β=>au h fun v17 QL h=>aK J (ea QL) cR (.cons .p0 .nil) J J<|ae.qv (bn J J J J J) J<|ae.qv (bn J J J J J) J<|aq J J J J .p1 J J<|rN<|ab.ret<|?_
       cases h
       exact ai.cd (j:=10) 11 .p1 J J J<|ai.here ⟨_,.cons (.all _ _ _ _ _ _ J .p1 aA.h aN.h J J) .nil,_,.cons .p0 .nil,⟨J,J⟩⟩
      ·refine ax<|ae.qv (cL J J) J<|rA J J<|rN<|cD h J (fun h=>?_) (fun h=>?_)
       ·refine ax<|rM J J<|au h fun uO QM h=>pP J J J (lh QM) cR (.cons .p0 .nil) J J<|rM J J<|aD (xs:=([([120]:al),([]:al)]).map AV.str) J J J J J J<|au h fun iV QN h=>pP J J J (nW QN) cR (.cons .p0 .nil) J J<|ae.qv (bn J J J J J) J<|aq J J J J .p1 J J<|rN<|ab.ret<|?_
        cases h
        exact ai.cd (j:=10) 11 .p1 J J J<|ai.here ⟨_,.cons (.all _ _ _ _ _ _ J .p1 aA.h aN.h J J) .nil,_,.cons .p0 .nil,⟨J,J⟩⟩
       ·refine tK<|ab.cF<|tS<|au h fun v20 Ty h=>ab.jM (id:=18) (A:=[0,0,3,0,0,31,63,127,255]) (H0:=[(br,.cells [du v3.2.L,I v3.2.at_])]) (HH:=fun β=>[(br,.cells [du v20.2.L,I v20.2.at_]),(b2,.cells [I (0:Int),.str [],.str [],I (0:Int),.bool false,I (0:Int),.str [],I (0:Int),I (0:Int),I (0:Int),.nil])]) 5 mixed J (by kernel_rfl) (by kernel_rfl) [⟨none,some 2,[],fun _=>(br,.cells [du v3.2.L,I v3.2.at_]),none,[]⟩,⟨some 2,none,[],fun _=>(br,.cells [du v20.2.L,I v20.2.at_]),none,[]⟩] [] J (by kernel_rfl) J (.cons .p0 .nil) (fun _=>J)<|AT.am 2 J J<|AM.qv (aJ J J J) J<|AM.gj J (E7 J) cR J<|AM.nil<|AT.tx (av:=.str v20.1) (Ti:=[(br,.cells [du v3.2.L,I v3.2.at_])]) (Pi:=[(br,.cells [du v20.2.L,I v20.2.at_])]) (fun _=>J) (fun _=>J) (fun _=>J) J J J ?_ ?_
        ·exact aK J (bD Ty) cR (.cons .p0 .nil) J J<|ae.nil ⟨_,J,J⟩
        refine AT.am 2 J J<|AM.qv (aJ J J J) J<|AM.bz (xs:=([(0:Int),(5:Int),(6:Int),(-5:Int)]).map I) J J J J J J<|AM.nil<|AT.wJ (fun _=>J) fun β=>au h fun v21 Tz h=>aK J (cI Tz) cR (.cons .p0 .nil) J J<|ae.qv (bn J J J J J) J<|ae.qv (bn J J J J J) J<|aq J J J J .p1 J J<|rN<|ab.ret<|?_
        cases h
        exact ai.cd (j:=10) 11 .p1 J J J<|ai.here ⟨_,.cons (.all _ _ _ _ _ _ J .p1 aA.h aN.h J J) .nil,_,.cons .p0 .nil,⟨J,J⟩⟩
theorem vH [GI:bx] {br:Bk} {self:ag→Int→Option (Query×ag)} (pn:∀ {br:Bk} {aa:ag} {ah:Int} {r:Query×ag},self aa ah=some r→aB Tryz.prog 177 [.ptr br 0,I ah] [(br,.cells [du aa.L,I aa.at_])] (T0 ([(br,.cells [du r.2.L,I r.2.at_])]) (.agg [I r.1.Kind,.str r.1.Field,.str r.1.Op,I r.1.Value.Kind,.bool r.1.Value.cf,I r.1.Value.Number,.str r.1.Value.Words,I r.1.Version.bQ,I r.1.Version.bR,I r.1.Version.bN,lr r.1.Kids]))) {aa:ag} {ah:Int} {r:Query×ag} (h:eM self aa ah=some r):aB Tryz.prog 177 [.ptr br 0,I ah] [(br,.cells [du aa.L,I aa.at_])] (T0 ([(br,.cells [du r.2.L,I r.2.at_])]) (.agg [I r.1.Kind,.str r.1.Field,.str r.1.Op,I r.1.Value.Kind,.bool r.1.Value.cf,I r.1.Value.Number,.str r.1.Value.Words,I r.1.Version.bQ,I r.1.Version.bR,I r.1.Version.bN,lr r.1.Kids])):=by
 unfold eM at h
 refine aB.dS ?_
 refine aB.aS Tryz.func177 J Tryz.ntmps177 Tryz.results177 J J ?_
 refine ax<|bf J J J J fun b1=>rN<|tS<|tS<|ab.cut (fun aE=>∃ (l2:List Int) (n3:Int) (c4:Bool),fV self ah l2 n3 c4=some r∧aE=⟨57,[(0,.ptr br 0),(1,I ah),(4,.ptr b1 0),(13,.bool c4)],[(br,.cells [du l2,I n3]),(b1,.cells [I (0:Int),.str [],.str [],I (0:Int),.bool false,I (0:Int),.str [],I (0:Int),I (0:Int),I (0:Int),.nil])]⟩) ?_ ?_
 ·refine tR<|rM J J<|ae.qv (cL J J) J<|rM J J<|gF h J J J (fun h=>?_) (fun h=>?_)
  ·exact rM J J<|rY J J J<|au h fun v5 e1 h=>aK J (ea e1) cR (.cons .p1 .nil) J J<|rE J J J<|rN<|ab.stop<|ai.lq [0,0] ⟨v5.2.L,v5.2.at_,v5.1,h,J⟩ J J
  ·exact rG J J J J<|rT J J J<|rN<|ab.stop<|ai.lq [1,0] ⟨aa.L,aa.at_,true,h,J⟩ J J
 ·rintro aE ⟨l2,n3,c4,h,rfl⟩
  unfold fV at h
  refine cB h J (fun h=>?_) (fun h=>?_)
  ·refine ax<|rM J J<|au h fun v6 e2 h=>aK J (x6 e2) cR (.cons .p0 .nil) J J<|aq J J J J .p1 J J<|rN<|ab.ret<|?_
   cases h
   exact ai.here ⟨_,.cons (.all _ _ _ _ _ _ J .p1 aA.h aN.h J J) .nil,_,.cons .p0 .nil,⟨J,J⟩⟩
  ·refine tK<|ax<|rM J J<|aD (xs:=([(3:Int),(4:Int),(5:Int)]).map I) J J J J J J<|au h fun v7 e3 h=>aK J (cI e3) cR (.cons .p0 .nil) J J<|ae.qv (bn J J J J J) J<|bf J J J J fun b8=>aq J J J J .p0 J J<|rN<|ax<|rA J J<|rN<|tS<|ax<|rF J J J<|rL J J .p0 J J<|ae.qv (cG J J) J<|rN<|ab.cut (fun aE=>∃ (l9:List Int) (n10:Int) (n11:Int),fU self ah v7 l9 n10 n11=some r∧aE=⟨57,[(0,.ptr br 0),(1,I ah),(4,.ptr b1 0),(5,.ptr b8 0),(6,I n11)],[(br,.cells [du l9,I n10]),(b1,.cells [I (0:Int),.str [],.str [],I (0:Int),.bool false,I (0:Int),.str [],I (0:Int),I (0:Int),I (0:Int),.nil]),(b8,.cells [I v7.1,.str [],.str [],I (0:Int),.bool false,I (0:Int),.str [],I (0:Int),I (0:Int),I (0:Int),.nil])]⟩) ?_ ?_
   ·refine cD h J (fun h=>?_) (fun h=>?_)
    ·exact tR<|rM J J<|aD (xs:=([(2:Int),(2:Int),(3:Int)]).map I) J J J J J J<|au h fun v12 e4 h=>aK J (cI e4) cR (.cons .p1 .nil) J J<|rA J J<|rN<|ab.stop<|ai.lq [0,1,0] ⟨v12.2.L,v12.2.at_,v12.1,h,J⟩ J J
    ·exact tK<|ab.stop<|ai.lq [1,1,0] ⟨v7.2.L,v7.2.at_,(1:Int),h,J⟩ J J
   ·rintro aE ⟨l9,n10,n11,h,rfl⟩
    unfold fU at h
    refine tS<|ax<|rM J J<|rM J J<|rN<|ab.block<|ab.cq (fun x:(List Int)×Int×(List Query)×Int=>ir self ah v7 n11 x.1 x.2.1 x.2.2.1 x.2.2.2) (fun x aE=>∃ (Bf:Bk),aE=⟨57,[(0,.ptr br 0),(1,I ah),(4,.ptr b1 0),(5,.ptr b8 0),(26,I n11),(27,I x.2.2.2)],[(br,.cells [du x.1,I x.2.1]),(b1,.cells [I (0:Int),.str [],.str [],I (0:Int),.bool false,I (0:Int),.str [],I (0:Int),I (0:Int),I (0:Int),.nil]),(b8,.cells [I v7.1,.str [],.str [],I (0:Int),.bool false,I (0:Int),.str [],I (0:Int),I (0:Int),I (0:Int),.sl 11 Bf 0 x.2.2.1.length]),(Bf,Nc x.2.2.1)]⟩) h ?_ ?_
    ·exact ai.zL (j:=10) 11 (fun _=>.p2) J (fun _=>J) (fun _=>J) fun b23=>ai.lq [1,1,1,0] ⟨b23,J⟩ J J
    ·intro x z1 aE J1 dN h gH df
     obtain ⟨wu,n19,wP,n22⟩:=x
     obtain ⟨Bf,rfl⟩:=dN
     replace h:ir self ah v7 n11 wu n19 wP n22=some z1:=h
     unfold ir at h
     refine ax<|ae.qv (bG J J) J<|rN<|tS<|cD h J (fun h=>?_) (fun h=>?_)
     ·refine tK<|tS<|ab.block<|ax<|rM J J<|rM J J<|ae.qv (gi J J) J<|au h fun v24 e5 h=>aK J (pn e5) cR (.cons .p0 .nil) J J<|bf J J J J fun b25=>aq J J J J .p0 J J<|rN<|tS<|ab.cut (fun aE=>∃ (KD:Bool),jN wP n22 v24 KD=some z1∧aE=⟨57,[(0,.ptr br 0),(1,I ah),(4,.ptr b1 0),(5,.ptr b8 0),(7,.ptr b25 0),(26,I n11),(27,I n22),(42,.bool KD)],[(br,.cells [du v24.2.L,I v24.2.at_]),(b1,.cells [I (0:Int),.str [],.str [],I (0:Int),.bool false,I (0:Int),.str [],I (0:Int),I (0:Int),I (0:Int),.nil]),(b8,.cells [I v7.1,.str [],.str [],I (0:Int),.bool false,I (0:Int),.str [],I (0:Int),I (0:Int),I (0:Int),.sl 11 Bf 0 wP.length]),(Bf,Nc wP),(b25,.cells (wX v24.1))]⟩) ?_ ?_
      ·refine tR<|rF J J J<|rL J J .p0 J J<|rF J J J<|rL J J .p3 J J<|ae.qv (cL J J) J<|rM J J<|ae.cN J J J (fun hc=>?_) (fun hc=>?_)
       ·rw [sK hc] at h
        exact rF J J J<|rY J J J<|rL J J .p3 J J<|rY J J J<|ae.qv (cG J J) J<|rT J J J<|rN<|ab.stop<|ai.lq [1,1,1,1,0] ⟨decide (v7.1≠(3:Int)),h,J⟩ J J
       ·rw [sL hc] at h
        exact rG J J J J<|rG J J J J<|rE J J J<|rN<|ab.stop<|ai.lq [1,1,1,1,0] ⟨false,h,J⟩ J J
      ·rintro aE ⟨KD,h,rfl⟩
       unfold jN at h
       refine ab.cut (fun aE=>∃ (IZ:Bk) (Eg:List Query),fT n22 v24 Eg=some z1∧aE=⟨57,[(0,.ptr br 0),(1,I ah),(4,.ptr b1 0),(5,.ptr b8 0),(26,I n11),(27,I n22)],[(br,.cells [du v24.2.L,I v24.2.at_]),(b1,.cells [I (0:Int),.str [],.str [],I (0:Int),.bool false,I (0:Int),.str [],I (0:Int),I (0:Int),I (0:Int),.nil]),(b8,.cells [I v7.1,.str [],.str [],I (0:Int),.bool false,I (0:Int),.str [],I (0:Int),I (0:Int),I (0:Int),.sl 11 IZ 0 Eg.length]),(IZ,Nc Eg)]⟩) ?_ ?_
       ·refine cB h J (fun h=>?_) (fun h=>?_)
        ·exact tR<|rF J J J<|rL J J .p2 J J<|rF J J J<|rL J J .p4 J J<|au h fun Mc e6 h=>dt (g:=Query.av) J J J J J J J J (.list _) e6 (fun _=>.p3) J fun TA=>rF J J J<|aq J J J J .p2 J J<|rN<|ab.stop<|ai.lq [0,0,0,0] ⟨TA,Mc,h,J⟩ J J
        ·exact tR<|rF J J J<|rL J J .p2 J J<|ae.qv (ao J J .p4 J) J<|aD (xs:=([v24.1]:List Query).map Query.av) J (by simp only [List.map_cons,List.map_nil,Query.pV];rfl) J (by simp only [List.map_cons,List.map_nil,Query.pV];rfl) J J<|au h fun KE e7 h=>dt (g:=Query.av) J J J J J J J J (.list _) e7 (fun _=>.p3) J fun QO=>rF J J J<|aq J J J J .p2 J J<|rN<|ab.stop<|ai.lq [0,0,0,0] ⟨QO,KE,h,J⟩ J J
       ·rintro aE ⟨IZ,Eg,h,rfl⟩
        unfold fT at h
        refine ab.cF<|tR<|ae.qv (bd J J) J<|rM J J<|rN<|ab.stop<|?_
        cases h
        exact gH _ _ J<|ai.lq [0,0,0,0] ⟨IZ,J⟩ J J
     ·refine ab.exit J<|have h:=bE h df;ax<|ae.qv (ao J J .p2 J) J<|aq J J J J .p1 J J<|rN<|ab.ret<|?_
      cases h
      exact ai.freeze .p3<|ai.u6 (j:=10) .p1 J (Co.sx .p3) J J<|ai.here ⟨_,.cons (.all _ _ _ _ _ _ J .p1 aA.h aN.h J J) .nil,_,.cons .p0 .nil,⟨J,J⟩⟩
theorem wj [GI:bx]:∀ (k:Nat) {br:Bk} {aa:ag} {ah:Int} {r:Query×ag},ed k aa ah=some r→aB Tryz.prog 177 [.ptr br 0,I ah] [(br,.cells [du aa.L,I aa.at_])] (T0 ([(br,.cells [du r.2.L,I r.2.at_])]) (.agg [I r.1.Kind,.str r.1.Field,.str r.1.Op,I r.1.Value.Kind,.bool r.1.Value.cf,I r.1.Value.Number,.str r.1.Value.Words,I r.1.Version.bQ,I r.1.Version.bR,I r.1.Version.bN,lr r.1.Kids])):=by
 intro k
 induction k with
 | zero=>intro br aa ah r h;cases h
 | succ k ih=>intro br aa ah r h;exact vH ih h
theorem sR [GI:bx] {br:Bk} {aa:ag} {ah:Int} {r:Query×ag} (h:pW aa ah=some r):aB Tryz.prog 177 [.ptr br 0,I ah] [(br,.cells [du aa.L,I aa.at_])] (T0 ([(br,.cells [du r.2.L,I r.2.at_])]) (.agg [I r.1.Kind,.str r.1.Field,.str r.1.Op,I r.1.Value.Kind,.bool r.1.Value.cf,I r.1.Value.Number,.str r.1.Value.Words,I r.1.Version.bQ,I r.1.Version.bR,I r.1.Version.bN,lr r.1.Kids])):=wj depth h
theorem y9 [GI:bx] {br:Bk} {aa:ag} {r:bu×ag} (h:lO aa=some r):aB Tryz.prog 97 [.ptr br 0] [(br,.cells [du aa.L,I aa.at_])] (T4 (fun Ci Cj Ck Cl=>[(br,.cells [du r.2.L,I r.2.at_]),(Ci,xR r.1.ak),(Cj,zR r.1.ba),(Ck,xQ r.1.aL),(Cl,C4 r.1.aR)]) (fun Ci Cj Ck Cl=>.agg [.sl 2 Ci 0 r.1.ak.length,.sl 2 Cj 0 r.1.ba.length,.sl 3 Ck 0 r.1.aL.length,.sl 17 Cl 0 r.1.aR.length])):=by
 unfold lO at h
 refine aB.dS ?_
 refine aB.aS Tryz.func97 J Tryz.ntmps97 Tryz.results97 J J ?_
 refine ax<|bf J J J J fun b1=>rN<|ax<|ae.qv (bn J J J J J) J<|ae.qv (bn J J J J J) J<|rM J J<|aD (xs:=([([116,98]:al),([116,97]:al),([]:al)]).map AV.str) J J J J J J<|au h fun v2 e1 h=>aK J (bD e1) cR (.cons .p1 .nil) J J<|ae.qv (bn J J J J J) J<|ae.qv (bn J J J J J) J<|jK J J J J J J fun b3=>ae.qv (bn J J J J J) J<|bf J J J J fun b4=>aq J J J J .p0 J J<|rN<|ax<|aD (xs:=([([42]:al)]).map AV.str) J J J J J J<|ae.qv (bn J J J J J) J<|rM J J<|au h fun v5 e2 h=>aK J (uQ e2) cR (.cons .p2 .nil) J J<|ae.qv (bn J J J J J) J<|aD (xs:=([([100,101,118,105,99,101,46,114,101,97,100]:al)]).map AV.str) J J J J J J<|ae.qv (bn J J J J J) J<|jK J J J J J J fun b6=>rF J J J<|aq J J J J .p2 J J<|rN<|tS<|ax<|aD (xs:=([([97,110,110]:al),([98,111,98]:al)]).map AV.str) J J J J J J<|ae.qv (bA J) J<|rM J J<|rN<|ab.block<|ab.cq (fun x:(List Int)×Int×(List bj)×Int=>jt v2 v5 x.1 x.2.1 x.2.2.1 x.2.2.2) (fun x aE=>∃ (Ej:Bk),aE=⟨110,[(0,.ptr br 0),(2,.ptr b1 0),(3,.ptr b4 0),(32,mU [([97,110,110]:al),([98,111,98]:al)]),(33,I ([([97,110,110]:al),([98,111,98]:al)].length:Int)),(34,I x.2.2.2)],[(br,.cells [du x.1,I x.2.1]),(b1,.cells [.nil,.nil,.nil,.nil]),(b4,.cells [.sl 2 b3 0 [(⟨([116,97]:al),[]⟩:an),(⟨([116,98]:al),([116,97]:al)⟩:an),(⟨([116,99]:al),v2.1⟩:an),(⟨([116,100]:al),[]⟩:an)].length,.sl 2 b6 0 [(⟨([97,100,109,105,110]:al),[([42]:al)]⟩:bF),(⟨([101,100,105,116]:al),v5.1⟩:bF),(⟨([114,101,97,100]:al),[([100,101,118,105,99,101,46,114,101,97,100]:al)]⟩:bF)].length,.sl 3 Ej 0 x.2.2.1.length,.nil]),(b3,xR [(⟨([116,97]:al),[]⟩:an),(⟨([116,98]:al),([116,97]:al)⟩:an),(⟨([116,99]:al),v2.1⟩:an),(⟨([116,100]:al),[]⟩:an)]),(b6,zR [(⟨([97,100,109,105,110]:al),[([42]:al)]⟩:bF),(⟨([101,100,105,116]:al),v5.1⟩:bF),(⟨([114,101,97,100]:al),[([100,101,118,105,99,101,46,114,101,97,100]:al)]⟩:bF)]),(Ej,xQ x.2.2.1)]⟩) h ?_ ?_
 ·exact ai.zL (j:=2) 3 (fun _=>.p2) J (fun _=>J) (fun _=>J) fun I0=>ai.lq [2,4,2,2,1,0] ⟨I0,J⟩ J J
 ·intro x z1 aE J1 dN h gH df
  obtain ⟨zQ,n13,AL,n16⟩:=x
  obtain ⟨Ej,rfl⟩:=dN
  replace h:jt v2 v5 zQ n13 AL n16=some z1:=h
  unfold jt at h
  refine ax<|ae.qv (bG J J) J<|rN<|tS<|cD h J (fun h=>?_) (fun h=>?_)
  ·refine tK<|tS<|ab.block<|ax<|au h fun uO e3 h=>ae.qv (aO J J J e3 J J) J<|ae.qv (aJ J J J) J<|rA J J<|rN<|ax<|aD (xs:=([([116,97]:al),([116,98]:al),([116,99]:al),([116,100]:al)]).map AV.str) J J J J J J<|ae.qv (bA J) J<|rM J J<|rN<|ab.block<|ab.cq (fun x:(List Int)×Int×(List bj)×Int=>jr n16 uO x.1 x.2.1 x.2.2.1 x.2.2.2) (fun x aE=>∃ (FF:Bk),aE=⟨110,[(0,.ptr br 0),(2,.ptr b1 0),(3,.ptr b4 0),(5,.str uO),(32,mU [([97,110,110]:al),([98,111,98]:al)]),(33,I ([([97,110,110]:al),([98,111,98]:al)].length:Int)),(34,I n16),(38,mU [([116,97]:al),([116,98]:al),([116,99]:al),([116,100]:al)]),(39,I ([([116,97]:al),([116,98]:al),([116,99]:al),([116,100]:al)].length:Int)),(40,I x.2.2.2)],[(br,.cells [du x.1,I x.2.1]),(b1,.cells [.nil,.nil,.nil,.nil]),(b4,.cells [.sl 2 b3 0 [(⟨([116,97]:al),[]⟩:an),(⟨([116,98]:al),([116,97]:al)⟩:an),(⟨([116,99]:al),v2.1⟩:an),(⟨([116,100]:al),[]⟩:an)].length,.sl 2 b6 0 [(⟨([97,100,109,105,110]:al),[([42]:al)]⟩:bF),(⟨([101,100,105,116]:al),v5.1⟩:bF),(⟨([114,101,97,100]:al),[([100,101,118,105,99,101,46,114,101,97,100]:al)]⟩:bF)].length,.sl 3 FF 0 x.2.2.1.length,.nil]),(b3,xR [(⟨([116,97]:al),[]⟩:an),(⟨([116,98]:al),([116,97]:al)⟩:an),(⟨([116,99]:al),v2.1⟩:an),(⟨([116,100]:al),[]⟩:an)]),(b6,zR [(⟨([97,100,109,105,110]:al),[([42]:al)]⟩:bF),(⟨([101,100,105,116]:al),v5.1⟩:bF),(⟨([114,101,97,100]:al),[([100,101,118,105,99,101,46,114,101,97,100]:al)]⟩:bF)]),(FF,xQ x.2.2.1)]⟩) h ?_ ?_
   ·exact ai.lq [0,0,0,0,0,0] ⟨Ej,J⟩ J J
   ·intro x z2 aE J2 dN h Dt zv
    obtain ⟨yF,n25,Cf,n28⟩:=x
    obtain ⟨FF,rfl⟩:=dN
    replace h:jr n16 uO yF n25 Cf n28=some z2:=h
    unfold jr at h
    refine ax<|ae.qv (bG J J) J<|rN<|tS<|cD h J (fun h=>?_) (fun h=>?_)
    ·refine tK<|tS<|ab.block<|ax<|au h fun vv e4 h=>ae.qv (aO J J J e4 J J) J<|ae.qv (aJ J J J) J<|rA J J<|rN<|ax<|aD (xs:=([([97,100,109,105,110]:al),([101,100,105,116]:al),([114,101,97,100]:al)]).map AV.str) J J J J J J<|ae.qv (bA J) J<|rM J J<|rN<|ab.block<|ab.cq (fun x:(List Int)×Int×(List bj)×Int=>jq uO n28 vv x.1 x.2.1 x.2.2.1 x.2.2.2) (fun x aE=>∃ (Mi:Bk),aE=⟨110,[(0,.ptr br 0),(2,.ptr b1 0),(3,.ptr b4 0),(5,.str uO),(7,.str vv),(32,mU [([97,110,110]:al),([98,111,98]:al)]),(33,I ([([97,110,110]:al),([98,111,98]:al)].length:Int)),(34,I n16),(38,mU [([116,97]:al),([116,98]:al),([116,99]:al),([116,100]:al)]),(39,I ([([116,97]:al),([116,98]:al),([116,99]:al),([116,100]:al)].length:Int)),(40,I n28),(44,mU [([97,100,109,105,110]:al),([101,100,105,116]:al),([114,101,97,100]:al)]),(45,I ([([97,100,109,105,110]:al),([101,100,105,116]:al),([114,101,97,100]:al)].length:Int)),(46,I x.2.2.2)],[(br,.cells [du x.1,I x.2.1]),(b1,.cells [.nil,.nil,.nil,.nil]),(b4,.cells [.sl 2 b3 0 [(⟨([116,97]:al),[]⟩:an),(⟨([116,98]:al),([116,97]:al)⟩:an),(⟨([116,99]:al),v2.1⟩:an),(⟨([116,100]:al),[]⟩:an)].length,.sl 2 b6 0 [(⟨([97,100,109,105,110]:al),[([42]:al)]⟩:bF),(⟨([101,100,105,116]:al),v5.1⟩:bF),(⟨([114,101,97,100]:al),[([100,101,118,105,99,101,46,114,101,97,100]:al)]⟩:bF)].length,.sl 3 Mi 0 x.2.2.1.length,.nil]),(b3,xR [(⟨([116,97]:al),[]⟩:an),(⟨([116,98]:al),([116,97]:al)⟩:an),(⟨([116,99]:al),v2.1⟩:an),(⟨([116,100]:al),[]⟩:an)]),(b6,zR [(⟨([97,100,109,105,110]:al),[([42]:al)]⟩:bF),(⟨([101,100,105,116]:al),v5.1⟩:bF),(⟨([114,101,97,100]:al),[([100,101,118,105,99,101,46,114,101,97,100]:al)]⟩:bF)]),(Mi,xQ x.2.2.1)]⟩) h ?_ ?_
     ·exact ai.lq [0,0,0,0,0,0] ⟨FF,J⟩ J J
     ·intro x z3 aE J3 dN h Om Mj
      obtain ⟨Oj,n36,He,n39⟩:=x
      obtain ⟨Mi,rfl⟩:=dN
      replace h:jq uO n28 vv Oj n36 He n39=some z3:=h
      unfold jq at h
      refine ax<|ae.qv (bG J J) J<|rN<|tS<|cD h J (fun h=>?_) (fun h=>?_)
      ·refine tK<|tS<|ab.block<|ax<|au h fun v40 e5 h=>ae.qv (aO J J J e5 J J) J<|ae.qv (aJ J J J) J<|rA J J<|rN<|ax<|rM J J<|au h fun v41 e6 h=>aK J (ea e6) cR (.cons .p0 .nil) J J<|rN<|ab.cut (fun aE=>∃ (Vf:Bk) (Rt:List bj),jo n39 v41 Rt=some z3∧aE=⟨110,[(0,.ptr br 0),(2,.ptr b1 0),(3,.ptr b4 0),(5,.str uO),(7,.str vv),(32,mU [([97,110,110]:al),([98,111,98]:al)]),(33,I ([([97,110,110]:al),([98,111,98]:al)].length:Int)),(34,I n16),(38,mU [([116,97]:al),([116,98]:al),([116,99]:al),([116,100]:al)]),(39,I ([([116,97]:al),([116,98]:al),([116,99]:al),([116,100]:al)].length:Int)),(40,I n28),(44,mU [([97,100,109,105,110]:al),([101,100,105,116]:al),([114,101,97,100]:al)]),(45,I ([([97,100,109,105,110]:al),([101,100,105,116]:al),([114,101,97,100]:al)].length:Int)),(46,I n39)],[(br,.cells [du v41.2.L,I v41.2.at_]),(b1,.cells [.nil,.nil,.nil,.nil]),(b4,.cells [.sl 2 b3 0 [(⟨([116,97]:al),[]⟩:an),(⟨([116,98]:al),([116,97]:al)⟩:an),(⟨([116,99]:al),v2.1⟩:an),(⟨([116,100]:al),[]⟩:an)].length,.sl 2 b6 0 [(⟨([97,100,109,105,110]:al),[([42]:al)]⟩:bF),(⟨([101,100,105,116]:al),v5.1⟩:bF),(⟨([114,101,97,100]:al),[([100,101,118,105,99,101,46,114,101,97,100]:al)]⟩:bF)].length,.sl 3 Vf 0 Rt.length,.nil]),(b3,xR [(⟨([116,97]:al),[]⟩:an),(⟨([116,98]:al),([116,97]:al)⟩:an),(⟨([116,99]:al),v2.1⟩:an),(⟨([116,100]:al),[]⟩:an)]),(b6,zR [(⟨([97,100,109,105,110]:al),[([42]:al)]⟩:bF),(⟨([101,100,105,116]:al),v5.1⟩:bF),(⟨([114,101,97,100]:al),[([100,101,118,105,99,101,46,114,101,97,100]:al)]⟩:bF)]),(Vf,xQ Rt)]⟩) ?_ ?_
       ·refine cB h J (fun h=>?_) (fun h=>?_)
        ·exact tR<|rF J J J<|rL J J .p2 J J<|rM J J<|rM J J<|rM J J<|ae.qv (bn J J J J J) J<|aD (xs:=([(⟨uO,vv,v40⟩:bj)]).map bj.av) J J J J J J<|au h fun Wx e7 h=>dt (g:=bj.av) J J J J J J J J (.list _) e7 (fun _=>.p5) J fun b45=>rF J J J<|aq J J J J .p2 J J<|rN<|ab.stop<|ai.lq [0,0,0,0,0,0] ⟨b45,Wx,h,J⟩ J J
        ·exact tK<|ab.stop<|ai.lq [0,0,0,0,0,0] ⟨Mi,He,h,J⟩ J J
       ·rintro aE ⟨Vf,Rt,h,rfl⟩
        unfold jo at h
        refine ab.cF<|tR<|ae.qv (bd J J) J<|rM J J<|rN<|ab.stop<|?_
        cases h
        exact Om _ _ J<|ai.lq [0,0,0,0,0,0] ⟨Vf,J⟩ J J
      ·refine ab.exit J<|have h:=bE h Mj;ab.cF<|tR<|ae.qv (bd J J) J<|rM J J<|rN<|ab.stop<|?_
       cases h
       exact Dt _ _ J<|ai.lq [0,0,0,0,0,0] ⟨Mi,J⟩ J J
    ·refine ab.exit J<|have h:=bE h zv;ab.cF<|tR<|ae.qv (bd J J) J<|rM J J<|rN<|ab.stop<|?_
     cases h
     exact gH _ _ J<|ai.lq [0,0,0,0,0,0] ⟨FF,J⟩ J J
  ·refine ab.exit J<|have h:=bE h df;tS<|ax<|aD (xs:=([([115,97]:al),([115,98]:al)]).map AV.str) J J J J J J<|ae.qv (bA J) J<|rM J J<|rN<|ab.block<|ab.cq (fun x:(List Int)×Int×(List bJ)×Int=>js v2 v5 AL x.1 x.2.1 x.2.2.1 x.2.2.2) (fun x aE=>∃ (KL:Bk),aE=⟨110,[(0,.ptr br 0),(2,.ptr b1 0),(3,.ptr b4 0),(64,mU [([115,97]:al),([115,98]:al)]),(65,I ([([115,97]:al),([115,98]:al)].length:Int)),(66,I x.2.2.2)],[(br,.cells [du x.1,I x.2.1]),(b1,.cells [.nil,.nil,.nil,.nil]),(b4,.cells [.sl 2 b3 0 [(⟨([116,97]:al),[]⟩:an),(⟨([116,98]:al),([116,97]:al)⟩:an),(⟨([116,99]:al),v2.1⟩:an),(⟨([116,100]:al),[]⟩:an)].length,.sl 2 b6 0 [(⟨([97,100,109,105,110]:al),[([42]:al)]⟩:bF),(⟨([101,100,105,116]:al),v5.1⟩:bF),(⟨([114,101,97,100]:al),[([100,101,118,105,99,101,46,114,101,97,100]:al)]⟩:bF)].length,.sl 3 Ej 0 AL.length,.sl 17 KL 0 x.2.2.1.length]),(b3,xR [(⟨([116,97]:al),[]⟩:an),(⟨([116,98]:al),([116,97]:al)⟩:an),(⟨([116,99]:al),v2.1⟩:an),(⟨([116,100]:al),[]⟩:an)]),(b6,zR [(⟨([97,100,109,105,110]:al),[([42]:al)]⟩:bF),(⟨([101,100,105,116]:al),v5.1⟩:bF),(⟨([114,101,97,100]:al),[([100,101,118,105,99,101,46,114,101,97,100]:al)]⟩:bF)]),(Ej,xQ AL),(KL,C4 x.2.2.1)]⟩) h ?_ ?_
   ·exact ai.zL (j:=3) 17 (fun _=>.p2) J (fun _=>J) (fun _=>J) fun b56=>ai.lq [1,1,1,1,1,1,0] ⟨b56,J⟩ J J
   ·intro x z4 aE J4 dN h WU Vg
    obtain ⟨KH,n52,C1,BD⟩:=x
    obtain ⟨KL,rfl⟩:=dN
    replace h:js v2 v5 AL KH n52 C1 BD=some z4:=h
    unfold js at h
    refine ax<|ae.qv (bG J J) J<|rN<|tS<|cD h J (fun h=>?_) (fun h=>?_)
    ·refine tK<|tS<|ab.block<|ax<|au h fun KF e8 h=>ae.qv (aO J J J e8 J J) J<|ae.qv (aJ J J J) J<|rA J J<|rN<|ax<|rM J J<|au h fun v58 e9 h=>aK J (ea e9) cR (.cons .p0 .nil) J J<|rN<|ab.cut (fun aE=>∃ (Vh:Bk) (Ts:List Int) (n60:Int) (JU:List bJ),gV BD Ts n60 JU=some z4∧aE=⟨110,[(0,.ptr br 0),(2,.ptr b1 0),(3,.ptr b4 0),(64,mU [([115,97]:al),([115,98]:al)]),(65,I ([([115,97]:al),([115,98]:al)].length:Int)),(66,I BD)],[(br,.cells [du Ts,I n60]),(b1,.cells [.nil,.nil,.nil,.nil]),(b4,.cells [.sl 2 b3 0 [(⟨([116,97]:al),[]⟩:an),(⟨([116,98]:al),([116,97]:al)⟩:an),(⟨([116,99]:al),v2.1⟩:an),(⟨([116,100]:al),[]⟩:an)].length,.sl 2 b6 0 [(⟨([97,100,109,105,110]:al),[([42]:al)]⟩:bF),(⟨([101,100,105,116]:al),v5.1⟩:bF),(⟨([114,101,97,100]:al),[([100,101,118,105,99,101,46,114,101,97,100]:al)]⟩:bF)].length,.sl 3 Ej 0 AL.length,.sl 17 Vh 0 JU.length]),(b3,xR [(⟨([116,97]:al),[]⟩:an),(⟨([116,98]:al),([116,97]:al)⟩:an),(⟨([116,99]:al),v2.1⟩:an),(⟨([116,100]:al),[]⟩:an)]),(b6,zR [(⟨([97,100,109,105,110]:al),[([42]:al)]⟩:bF),(⟨([101,100,105,116]:al),v5.1⟩:bF),(⟨([114,101,97,100]:al),[([100,101,118,105,99,101,46,114,101,97,100]:al)]⟩:bF)]),(Ej,xQ AL),(Vh,C4 JU)]⟩) ?_ ?_
     ·refine cB h J (fun h=>?_) (fun h=>?_)
      ·refine ax<|rM J J<|aD (xs:=([(0:Int),(20:Int),(50:Int)]).map I) J J J J J J<|au h fun KG zS h=>aK J (cI zS) cR (.cons .p0 .nil) J J<|rA J J<|rN<|ax<|rM J J<|rM J J<|aD (xs:=([([116,97]:al),([116,98]:al)]).map AV.str) J J J J J J<|au h fun v64 E8 h=>aK J (bD E8) cR (.cons .p0 .nil) J J<|rM J J<|rM J J<|aD (xs:=([(0:Int),(1:Int)]).map I) J J J J J J<|au h fun Wz FE h=>aK J (cI FE) cR (.cons .p0 .nil) J J<|au h fun v66 GC h=>aK J (sR GC) cR (.cons .p0 .nil) J J<|rM J J<|au h fun v67 Mh h=>aK J (uQ Mh) cR (.cons .p0 .nil) J J<|rM J J<|rM J J<|rM J J<|aD (xs:=([(0:Int),(30:Int),(100:Int)]).map I) J J J J J J<|au h fun BE QL h=>aK J (cI QL) cR (.cons .p0 .nil) J J<|ae.qv (bd J J) J<|ae.qv (bn J J J J J) J<|ae.qv (bn J J J J J) J<|bf J J J J fun b69=>aq J J J J .p0 J J<|rN<|tS<|ax<|rM J J<|au h fun v70 QM h=>aK J (ea QM) cR (.cons .p1 .nil) J J<|rN<|ab.cut (fun aE=>∃ (Ru:al) (Rv:al),gW C1 BD KF KG v66 v67 BE v70 Ru Rv=some z4∧aE=⟨110,[(0,.ptr br 0),(2,.ptr b1 0),(3,.ptr b4 0),(13,.ptr b69 0),(64,mU [([115,97]:al),([115,98]:al)]),(65,I ([([115,97]:al),([115,98]:al)].length:Int)),(66,I BD)],[(br,.cells [du v70.2.L,I v70.2.at_]),(b1,.cells [.nil,.nil,.nil,.nil]),(b4,.cells [.sl 2 b3 0 [(⟨([116,97]:al),[]⟩:an),(⟨([116,98]:al),([116,97]:al)⟩:an),(⟨([116,99]:al),v2.1⟩:an),(⟨([116,100]:al),[]⟩:an)].length,.sl 2 b6 0 [(⟨([97,100,109,105,110]:al),[([42]:al)]⟩:bF),(⟨([101,100,105,116]:al),v5.1⟩:bF),(⟨([114,101,97,100]:al),[([100,101,118,105,99,101,46,114,101,97,100]:al)]⟩:bF)].length,.sl 3 Ej 0 AL.length,.sl 17 KL 0 C1.length]),(b3,xR [(⟨([116,97]:al),[]⟩:an),(⟨([116,98]:al),([116,97]:al)⟩:an),(⟨([116,99]:al),v2.1⟩:an),(⟨([116,100]:al),[]⟩:an)]),(b6,zR [(⟨([97,100,109,105,110]:al),[([42]:al)]⟩:bF),(⟨([101,100,105,116]:al),v5.1⟩:bF),(⟨([114,101,97,100]:al),[([100,101,118,105,99,101,46,114,101,97,100]:al)]⟩:bF)]),(Ej,xQ AL),(KL,C4 C1),(b69,.cells [.str KF,.str Ru,.str Rv,I v66.1.Kind,.str v66.1.Field,.str v66.1.Op,I v66.1.Value.Kind,.bool v66.1.Value.cf,I v66.1.Value.Number,.str v66.1.Value.Words,I v66.1.Version.bQ,I v66.1.Version.bR,I v66.1.Version.bN,lr v66.1.Kids,mU v67.1,I KG.1,I (cr (KG.1+BE.1))])]⟩) ?_ ?_
       ·refine cB h J (fun h=>?_) (fun h=>?_)
        ·exact tR<|rF J J J<|rL J J .p1 J J<|rF J J J<|rL J J .p1 J J<|rF J J J<|aq J J J J .p1 J J<|rF J J J<|aq J J J J .p1 J J<|rN<|ab.stop<|ai.lq [0,1,1,1,1,1,1,0] ⟨([116,100]:al),v64.1,h,J⟩ J J
        ·exact tK<|ab.stop<|ai.lq [0,1,1,1,1,1,1,0] ⟨v64.1,([116,100]:al),h,J⟩ J J
       ·rintro aE ⟨Ru,Rv,h,rfl⟩
        unfold gW at h
        exact tR<|rF J J J<|rL J J .p2 J J<|ae.qv (ao J J .p7 J) J<|aD (xs:=([(⟨KF,Ru,Rv,v66.1,v67.1,(⟨KG.1,cr (KG.1+BE.1)⟩:lA)⟩:bJ)]).map bJ.av) J J J J J J<|au h fun Wy QN h=>dt (g:=bJ.av) J J J J J J J J (.list _) QN (fun _=>.p6) J fun b74=>rF J J J<|aq J J J J .p2 J J<|rN<|ab.stop<|ai.lq [0,0,0,0,0,0,0] ⟨b74,v70.2.L,v70.2.at_,Wy,h,J⟩ J J
      ·exact tK<|ab.stop<|ai.lq [0,0,0,0,0,0,0] ⟨KL,v58.2.L,v58.2.at_,C1,h,J⟩ J J
     ·rintro aE ⟨Vh,Ts,n60,JU,h,rfl⟩
      unfold gV at h
      refine ab.cF<|tR<|ae.qv (bd J J) J<|rM J J<|rN<|ab.stop<|?_
      cases h
      exact WU _ _ J<|ai.lq [0,0,0,0,0,0,0] ⟨Vh,J⟩ J J
    ·refine ab.exit J<|have h:=bE h Vg;ax<|ae.qv (ao J J .p2 J) J<|aq J J J J .p1 J J<|rN<|ab.ret<|?_
     cases h
     exact ai.here ⟨_,.cons (.all _ _ _ _ _ _ J .p1 aA.h aN.h J J) .nil,_,.cons .p0 (.cons .p2 (.cons .p2 (.cons .p2 (.cons .p2 .nil)))),⟨b3,b6,Ej,KL,J,J⟩⟩
theorem Cm [GI:bx] {br:Bk} {aa:ag} {ah:Int} {bc:Int} {r:Int×ag} (h:pX aa ah bc=some r):aB Tryz.prog 7 [.ptr br 0,I ah,I bc] [(br,.cells [du aa.L,I aa.at_])] (T0 ([(br,.cells [du r.2.L,I r.2.at_])]) (I r.1)):=by
 unfold pX at h
 refine aB.dS ?_
 refine aB.aS Tryz.func7 J Tryz.ntmps7 Tryz.results7 J J ?_
 refine ax<|rA J J<|rN<|tS<|ax<|rM J J<|rM J J<|ae.qv (bG J J) J<|rN<|cD h J (fun h=>?_) (fun h=>?_)
 ·refine ax<|rM J J<|rA J J<|rN<|ab.ret<|?_
  cases h
  exact hH J [0] J ⟨J,J⟩
 ·refine tK<|ax<|rM J J<|rM J J<|rM J J<|rM J J<|ae.qv (gi J J) J<|ae.qv (bd J J) J<|au h fun v1 e1 h=>aK J (dZ e1) cR (.cons .p0 .nil) J J<|ae.qv (bd J J) J<|rA J J<|rN<|ab.ret<|?_
  cases h
  exact hH J [0] J ⟨J,J⟩
theorem vI [GI:bx] {br:Bk} {aa:ag} {ah:Int} {bc:Int} {r:Int×ag} (h:na aa ah bc=some r):aB Tryz.prog 73 [.ptr br 0,I ah,I bc] [(br,.cells [du aa.L,I aa.at_])] (T0 ([(br,.cells [du r.2.L,I r.2.at_])]) (I r.1)):=by
 unfold na at h
 refine aB.dS ?_
 refine aB.aS Tryz.func73 J Tryz.ntmps73 Tryz.results73 J J ?_
 refine ax<|rA J J<|rN<|tS<|ax<|rM J J<|au h fun v1 e1 h=>aK J (ea e1) cR (.cons .p0 .nil) J J<|rN<|cB h J (fun h=>?_) (fun h=>?_)
 ·refine ax<|rM J J<|rM J J<|ae.qv (gi J J) J<|rM J J<|ae.qv (bd J J) J<|rM J J<|rM J J<|aD (xs:=([cr (ah - (1:Int)),cr (bc+(1:Int)),ah,bc,(-1099511627776:Int),(1099511627776:Int)]).map I) J J J J J J<|au h fun v2 e2 h=>aK J (cI e2) cR (.cons .p0 .nil) J J<|rA J J<|rN<|ab.ret<|?_
  cases h
  exact hH J [0] J ⟨J,J⟩
 ·refine tK<|ax<|rM J J<|rM J J<|rM J J<|au h fun v3 e3 h=>aK J (Cm e3) cR (.cons .p0 .nil) J J<|rA J J<|rN<|ab.ret<|?_
  cases h
  exact hH J [0] J ⟨J,J⟩
theorem tQ [GI:bx] {aa:List Query} {r:(List Query)} (h:hY aa=some r):aB Tryz.prog 178 [.list 11 (aa.map Query.av)] [] (T1 (fun iM=>[(iM,.arr 11 (r.map Query.av))]) (fun iM=>.sl 11 iM 0 r.length)):=by
 unfold hY at h
 refine aB.dS ?_
 refine aB.aS Tryz.func178 J Tryz.ntmps178 Tryz.results178 J J ?_
 refine ab.seq ?_
 refine ab.region ?_
 refine ae.qv (bI J) J ?_
 refine ae.nil ?_
 refine ab.seq ?_
 refine ab.seq ?_
 refine ab.region ?_
 refine ae.qv (aQ J) J ?_
 refine yU J J J J (fun c hc=>?_)
 refine ae.nil ?_
 refine ab.cond J (fun hT=>?_) (fun hF=>?_)
 ·obtain rfl:=pR h (List.map_eq_nil_iff.1 (hc hT))
  refine ab.seq ?_
  refine ab.region ?_
  refine ae.qv (bI J) J ?_
  refine ae.nil ?_
  refine ab.ret ?_
  refine ai.arr (s:=2) 11 J (fun b1=>?_)
  exact ai.here ⟨_,.cons (.tmp _ _ J) .nil,_,.cons .here .nil,⟨b1,J,J⟩⟩
 ·refine ab.skip ?_
  refine ab.seq ?_
  refine ab.region ?_
  refine jK (xs:=([]:List Query).map Query.av) J J J J J J (fun b2=>?_)
  refine ae.qv (aQ J) J ?_
  refine dt (g:=Query.av) (Xs:=[]) J J J J J J J J (.list _) h (fun _=>.here) J (fun b3=>?_)
  refine ae.qv (bI J) J ?_
  refine ae.nil ?_
  refine ab.ret ?_
  exact ai.here ⟨_,.cons (.tmp _ _ J) .nil,_,.cons .here .nil,⟨b3,J,J⟩⟩
theorem Cn [GI:bx] {br:Bk} {aa:ag} {r:Query×ag} (h:pY aa=some r):aB Tryz.prog 98 [.ptr br 0] [(br,.cells [du aa.L,I aa.at_])] (T0 ([(br,.cells [du r.2.L,I r.2.at_])]) (.agg [I r.1.Kind,.str r.1.Field,.str r.1.Op,I r.1.Value.Kind,.bool r.1.Value.cf,I r.1.Value.Number,.str r.1.Value.Words,I r.1.Version.bQ,I r.1.Version.bR,I r.1.Version.bN,lr r.1.Kids])):=by
 unfold pY at h
 refine aB.dS ?_
 refine aB.aS Tryz.func98 J Tryz.ntmps98 Tryz.results98 J J ?_
 refine ax<|bf J J J J fun b1=>rN<|ax<|rM J J<|rM J J<|aD (xs:=([(0:Int),(1:Int),(1:Int),(2:Int)]).map I) J J J J J J<|au h fun v2 e1 h=>aK J (cI e1) cR (.cons .p1 .nil) J J<|au h fun v3 e2 h=>aK J (sR e2) cR (.cons .p0 .nil) J J<|bf J J J J fun b4=>aq J J J J .p0 J J<|rN<|tS<|ax<|rM J J<|au h fun v5 e3 h=>aK J (ea e3) cR (.cons .p1 .nil) J J<|rN<|ab.cut (fun aE=>∃ (l6:List Int) (n7:Int) (n8:Int) (q9:al) (C2:al) (n11:Int) (c12:Bool) (n13:Int) (KI:al) (n15:Int) (n16:Int) (n17:Int) (wu:List Query),lP l6 n7 n8 q9 C2 n11 c12 n13 KI n15 n16 n17 wu=some r∧aE=⟨63,[(2,.ptr b1 0),(3,.ptr b4 0)],[(br,.cells [du l6,I n7]),(b1,.cells [I (0:Int),.str [],.str [],I (0:Int),.bool false,I (0:Int),.str [],I (0:Int),I (0:Int),I (0:Int),.nil]),(b4,.cells [I n8,.str q9,.str C2,I n11,.bool c12,I n13,.str KI,I n15,I n16,I n17,lr wu])]⟩) ?_ ?_
 ·refine cB h J (fun h=>?_) (fun h=>?_)
  ·refine ax<|rM J J<|au h fun iV e4 h=>aK J (dZ e4) cR (.cons .p0 .nil) J J<|rN<|ab.block<|ax<|ae.qv (cL J J) J<|rA J J<|rN<|ab.cut (fun aE=>∃ (HM:List Int) (n21:Int) (n22:Int) (Rw:al) (Rx:al) (n25:Int) (KD:Bool) (n27:Int) (Pv:al) (n29:Int) (n30:Int) (n31:Int) (Ry:List Query),o0 HM n21 n22 Rw Rx n25 KD n27 Pv n29 n30 n31 Ry=some r∧aE=⟨63,[(2,.ptr b1 0),(3,.ptr b4 0)],[(br,.cells [du HM,I n21]),(b1,.cells [I (0:Int),.str [],.str [],I (0:Int),.bool false,I (0:Int),.str [],I (0:Int),I (0:Int),I (0:Int),.nil]),(b4,.cells [I n22,.str Rw,.str Rx,I n25,.bool KD,I n27,.str Pv,I n29,I n30,I n31,lr Ry])]⟩) ?_ ?_
   ·refine cD h J (fun h=>?_) (fun h=>?_)
    ·exact tR<|rM J J<|au h fun v33 e5 h=>aK J (vI e5) cR (.cons .p0 .nil) J J<|rF J J J<|aq J J J J .p1 J J<|rN<|ab.stop<|ai.lq [0,1,0] ⟨v33.2.L,v33.2.at_,v33.1,v3.1.Field,v3.1.Op,v3.1.Value.Kind,v3.1.Value.cf,v3.1.Value.Number,v3.1.Value.Words,v3.1.Version.bQ,v3.1.Version.bR,v3.1.Version.bN,v3.1.Kids,h,J⟩ J J
    ·refine ax<|ae.qv (cL J J) J<|rA J J<|rN<|ab.cut (fun aE=>∃ (Rz:List Int) (n35:Int) (n36:Int) (RA:al) (RB:al) (n39:Int) (c40:Bool) (n41:Int) (RC:al) (n43:Int) (n44:Int) (n45:Int) (RD:List Query),o1 Rz n35 n36 RA RB n39 c40 n41 RC n43 n44 n45 RD=some r∧aE=⟨63,[(2,.ptr b1 0),(3,.ptr b4 0)],[(br,.cells [du Rz,I n35]),(b1,.cells [I (0:Int),.str [],.str [],I (0:Int),.bool false,I (0:Int),.str [],I (0:Int),I (0:Int),I (0:Int),.nil]),(b4,.cells [I n36,.str RA,.str RB,I n39,.bool c40,I n41,.str RC,I n43,I n44,I n45,lr RD])]⟩) ?_ ?_
     ·refine cD h J (fun h=>?_) (fun h=>?_)
      ·exact tR<|rM J J<|aD (xs:=([([]:al),([110,111,112,101]:al),([116,97,103,46]:al),([116,97,103,46,65]:al),([112,114,111,112,46,97,46]:al),([107,101,121]:al),([102,105,114,109,119,97,114,101]:al)]).map AV.str) J J J J J J<|au h fun Qx e6 h=>aK J (bD e6) cR (.cons .p0 .nil) J J<|rF J J J<|aq J J J J .p1 J J<|rN<|ab.stop<|ai.lq [0,1,0] ⟨Qx.2.L,Qx.2.at_,v3.1.Kind,Qx.1,v3.1.Op,v3.1.Value.Kind,v3.1.Value.cf,v3.1.Value.Number,v3.1.Value.Words,v3.1.Version.bQ,v3.1.Version.bR,v3.1.Version.bN,v3.1.Kids,h,J⟩ J J
      ·refine ax<|ae.qv (cL J J) J<|rA J J<|rN<|ab.cut (fun aE=>∃ (RE:List Int) (n49:Int) (n50:Int) (RF:al) (RG:al) (RH:Int) (KJ:Bool) (BD:Int) (RI:al) (n57:Int) (RJ:Int) (n59:Int) (JV:List Query),o2 RE n49 n50 RF RG RH KJ BD RI n57 RJ n59 JV=some r∧aE=⟨63,[(2,.ptr b1 0),(3,.ptr b4 0)],[(br,.cells [du RE,I n49]),(b1,.cells [I (0:Int),.str [],.str [],I (0:Int),.bool false,I (0:Int),.str [],I (0:Int),I (0:Int),I (0:Int),.nil]),(b4,.cells [I n50,.str RF,.str RG,I RH,.bool KJ,I BD,.str RI,I n57,I RJ,I n59,lr JV])]⟩) ?_ ?_
       ·refine cD h J (fun h=>?_) (fun h=>?_)
        ·exact tR<|rM J J<|aD (xs:=([([]:al),([61]:al),([60]:al),([61,61]:al)]).map AV.str) J J J J J J<|au h fun Qy e7 h=>aK J (bD e7) cR (.cons .p0 .nil) J J<|rF J J J<|aq J J J J .p1 J J<|rN<|ab.stop<|ai.lq [0,1,0] ⟨Qy.2.L,Qy.2.at_,v3.1.Kind,v3.1.Field,Qy.1,v3.1.Value.Kind,v3.1.Value.cf,v3.1.Value.Number,v3.1.Value.Words,v3.1.Version.bQ,v3.1.Version.bR,v3.1.Version.bN,v3.1.Kids,h,J⟩ J J
        ·refine ax<|ae.qv (cL J J) J<|rA J J<|rN<|ab.cut (fun aE=>∃ (JU:List Int) (RL:Int) (RM:Int) (RN:al) (RO:al) (RP:Int) (RQ:Bool) (n69:Int) (RR:al) (RS:Int) (JW:Int) (RT:Int) (IY:List Query),o3 JU RL RM RN RO RP RQ n69 RR RS JW RT IY=some r∧aE=⟨63,[(2,.ptr b1 0),(3,.ptr b4 0)],[(br,.cells [du JU,I RL]),(b1,.cells [I (0:Int),.str [],.str [],I (0:Int),.bool false,I (0:Int),.str [],I (0:Int),I (0:Int),I (0:Int),.nil]),(b4,.cells [I RM,.str RN,.str RO,I RP,.bool RQ,I n69,.str RR,I RS,I JW,I RT,lr IY])]⟩) ?_ ?_
         ·refine cD h J (fun h=>?_) (fun h=>?_)
          ·exact tR<|ae.qv (bn J J J J J) J<|ae.qv (bn J J J J J) J<|ae.qv (bn J J J J J) J<|ae.qv (bn J J J J J) J<|ae.qv (bn J J J J J) J<|aD (xs:=([(⟨(0:Int),false,(0:Int),[]⟩:bL),(⟨(9:Int),false,(0:Int),[]⟩:bL),(⟨(1:Int),false,(1:Int),[]⟩:bL),(⟨(3:Int),false,(0:Int),([255]:al)⟩:bL),(⟨(2:Int),false,(1000000001:Int),[]⟩:bL)]).map bL.av) J J J J J J<|rM J J<|au h fun v75 e8 h=>aK J (dZ e8) cR (.cons .p0 .nil) J J<|au h fun v76 e9 h=>ae.qv (aO J J J e9 J J) J<|ae.qv (aF J J J) J<|rF J J J<|aq J J J J .p1 J J<|rN<|ab.stop<|ai.lq [0,1,0] ⟨v75.2.L,v75.2.at_,v3.1.Kind,v3.1.Field,v3.1.Op,v76.Kind,v76.cf,v76.Number,v76.Words,v3.1.Version.bQ,v3.1.Version.bR,v3.1.Version.bN,v3.1.Kids,h,J⟩ J J
          ·refine ax<|ae.qv (cL J J) J<|rA J J<|rN<|ab.cut (fun aE=>∃ (RU:List Int) (RW:Int) (RX:Int) (RY:al) (RZ:al) (R3:Int) (R4:Bool) (JX:Int) (R5:al) (R6:Int) (R7:Int) (R8:Int) (R9:List Query),o4 RU RW RX RY RZ R3 R4 JX R5 R6 R7 R8 R9=some r∧aE=⟨63,[(2,.ptr b1 0),(3,.ptr b4 0)],[(br,.cells [du RU,I RW]),(b1,.cells [I (0:Int),.str [],.str [],I (0:Int),.bool false,I (0:Int),.str [],I (0:Int),I (0:Int),I (0:Int),.nil]),(b4,.cells [I RX,.str RY,.str RZ,I R3,.bool R4,I JX,.str R5,I R6,I R7,I R8,lr R9])]⟩) ?_ ?_
           ·refine cD h J (fun h=>?_) (fun h=>?_)
            ·exact tR<|rF J J J<|rL J J .p1 J J<|au h fun v90 zS h=>de J (tQ zS) cR .nil (fun _=>J) J fun b91=>rM J J<|au h fun Qz E8 h=>aK J (x6 E8) cR (.cons .p1 .nil) J J<|aD (xs:=([Qz.1]:List Query).map Query.av) J (by simp only [List.map_cons,List.map_nil,Query.pV];rfl) J (by simp only [List.map_cons,List.map_nil,Query.pV];rfl) J J<|au h fun WA FE h=>dt (g:=Query.av) J J J J J J J J (.list _) FE (fun _=>.p1) J fun b94=>rF J J J<|aq J J J J .p2 J J<|rN<|ab.stop<|ai.freeze .p1<|ai.u6 (j:=10) .p2 J (Co.sx .p1) J J<|ai.lq [0,2,1] ⟨Qz.2.L,Qz.2.at_,v3.1.Kind,v3.1.Field,v3.1.Op,v3.1.Value.Kind,v3.1.Value.cf,v3.1.Value.Number,v3.1.Value.Words,v3.1.Version.bQ,v3.1.Version.bR,v3.1.Version.bN,WA,h,J⟩ J J
            ·refine ax<|rM J J<|aD (xs:=([(18:Int),(19:Int),(20:Int)]).map I) J J J J J J<|au h fun HN GC h=>aK J (cI GC) cR (.cons .p0 .nil) J J<|rM J J<|rN<|ab.block<|ab.cq (fun x:Int×al×al×Int×Bool×Int×al×Int×Int×Int×(List Query)×Int=>lQ HN x.1 x.2.1 x.2.2.1 x.2.2.2.1 x.2.2.2.2.1 x.2.2.2.2.2.1 x.2.2.2.2.2.2.1 x.2.2.2.2.2.2.2.1 x.2.2.2.2.2.2.2.2.1 x.2.2.2.2.2.2.2.2.2.1 x.2.2.2.2.2.2.2.2.2.2.1 x.2.2.2.2.2.2.2.2.2.2.2) (fun x aE=>aE=⟨63,[(2,.ptr b1 0),(3,.ptr b4 0),(15,I HN.1),(16,I x.2.2.2.2.2.2.2.2.2.2.2)],[(br,.cells [du HN.2.L,I HN.2.at_]),(b1,.cells [I (0:Int),.str [],.str [],I (0:Int),.bool false,I (0:Int),.str [],I (0:Int),I (0:Int),I (0:Int),.nil]),(b4,.cells [I x.1,.str x.2.1,.str x.2.2.1,I x.2.2.2.1,.bool x.2.2.2.2.1,I x.2.2.2.2.2.1,.str x.2.2.2.2.2.2.1,I x.2.2.2.2.2.2.2.1,I x.2.2.2.2.2.2.2.2.1,I x.2.2.2.2.2.2.2.2.2.1,lr x.2.2.2.2.2.2.2.2.2.2.1])]⟩) h ?_ ?_
             ·exact ai.lq [0,1,0] J J J
             ·intro x z1 aE J1 dN h gH df
              obtain ⟨n108,Gu,Gv,n111,Gw,n113,Gx,n115,n116,n117,Gy,n119⟩:=x
              obtain rfl:=dN
              replace h:lQ HN n108 Gu Gv n111 Gw n113 Gx n115 n116 n117 Gy n119=some z1:=h
              unfold lQ at h
              refine ax<|ae.qv (bG J J) J<|rN<|tS<|cD h J (fun h=>?_) (fun h=>?_)
              ·refine tK<|tS<|ab.block<|tR<|ae.qv (ao J J .p2 J) J<|aD (xs:=([(⟨n108,Gu,Gv,(⟨n111,Gw,n113,Gx⟩:bL),(⟨n115,n116,n117⟩:Version),Gy⟩:Query)]).map Query.av) J (by simp only [List.map_cons,List.map_nil,Query.pV];rfl) J (by simp only [List.map_cons,List.map_nil,Query.pV];rfl) J J<|ae.qv (bn J J J J J) J<|aq J J J J .p2 J J<|rN<|ab.cF<|tR<|ae.qv (bd J J) J<|rM J J<|rN<|ab.stop<|?_
               cases h
               exact gH _ _ J<|ai.lq [0,0,0] J J J
              ·exact ab.exit J<|have h:=bE h df;ab.stop<|ai.lq [0,0,0] ⟨HN.2.L,HN.2.at_,n108,Gu,Gv,n111,Gw,n113,Gx,n115,n116,n117,Gy,h,J⟩ J J
           ·rintro aE ⟨RU,RW,RX,RY,RZ,R3,R4,JX,R5,R6,R7,R8,R9,h,rfl⟩
            unfold o4 at h
            exact ab.stop<|ai.lq [0,0,0] ⟨RU,RW,RX,RY,RZ,R3,R4,JX,R5,R6,R7,R8,R9,h,J⟩ J J
         ·rintro aE ⟨JU,RL,RM,RN,RO,RP,RQ,n69,RR,RS,JW,RT,IY,h,rfl⟩
          unfold o3 at h
          exact ab.stop<|ai.lq [0,0,0] ⟨JU,RL,RM,RN,RO,RP,RQ,n69,RR,RS,JW,RT,IY,h,J⟩ J J
       ·rintro aE ⟨RE,n49,n50,RF,RG,RH,KJ,BD,RI,n57,RJ,n59,JV,h,rfl⟩
        unfold o2 at h
        exact ab.stop<|ai.lq [0,0,0] ⟨RE,n49,n50,RF,RG,RH,KJ,BD,RI,n57,RJ,n59,JV,h,J⟩ J J
     ·rintro aE ⟨Rz,n35,n36,RA,RB,n39,c40,n41,RC,n43,n44,n45,RD,h,rfl⟩
      unfold o1 at h
      exact ab.stop<|ai.lq [0,0,0] ⟨Rz,n35,n36,RA,RB,n39,c40,n41,RC,n43,n44,n45,RD,h,J⟩ J J
   ·rintro aE ⟨HM,n21,n22,Rw,Rx,n25,KD,n27,Pv,n29,n30,n31,Ry,h,rfl⟩
    unfold o0 at h
    exact ab.cF<|ab.stop<|ai.lq [0,0,0] ⟨HM,n21,n22,Rw,Rx,n25,KD,n27,Pv,n29,n30,n31,Ry,h,J⟩ J J
  ·exact tK<|ab.stop<|ai.lq [0,1,0] ⟨v5.2.L,v5.2.at_,v3.1.Kind,v3.1.Field,v3.1.Op,v3.1.Value.Kind,v3.1.Value.cf,v3.1.Value.Number,v3.1.Value.Words,v3.1.Version.bQ,v3.1.Version.bR,v3.1.Version.bN,v3.1.Kids,h,J⟩ J J
 ·rintro aE ⟨l6,n7,n8,q9,C2,n11,c12,n13,KI,n15,n16,n17,wu,h,rfl⟩
  unfold lP at h
  refine ax<|ae.qv (ao J J .p2 J) J<|aq J J J J .p1 J J<|rN<|ab.ret<|?_
  cases h
  exact ai.here ⟨_,.cons (.all _ _ _ _ _ _ J .p1 aA.h aN.h J J) .nil,_,.cons .p0 .nil,⟨J,J⟩⟩
theorem Du [GI:bx] {br:Bk} {aa:ag} {r:lA×ag} (h:se aa=some r):aB Tryz.prog 100 [.ptr br 0] [(br,.cells [du aa.L,I aa.at_])] (T0 ([(br,.cells [du r.2.L,I r.2.at_])]) (lA.av r.1)):=by
 unfold se at h
 refine aB.dS ?_
 refine aB.aS Tryz.func100 J Tryz.ntmps100 Tryz.results100 J J ?_
 refine ax<|bf J J J J fun b1=>rN<|ax<|rM J J<|aD (xs:=([(0:Int),(5:Int),(30:Int),(100:Int)]).map I) J J J J J J<|au h fun v2 e1 h=>aK J (cI e1) cR (.cons .p1 .nil) J J<|rM J J<|aD (xs:=([(30:Int),(100:Int),(250:Int),(1000:Int),(345686400000:Int)]).map I) J J J J J J<|au h fun v3 e2 h=>aK J (cI e2) cR (.cons .p0 .nil) J J<|ae.qv (bn J J J J J) J<|bf J J J J fun b4=>aq J J J J .p0 J J<|rN<|tS<|ax<|rM J J<|au h fun v5 e3 h=>aK J (ea e3) cR (.cons .p1 .nil) J J<|rN<|ab.cut (fun aE=>∃ (l6:List Int) (n7:Int) (n8:Int) (n9:Int),pZ l6 n7 n8 n9=some r∧aE=⟨21,[(2,.ptr b1 0),(3,.ptr b4 0)],[(br,.cells [du l6,I n7]),(b1,.cells [I (0:Int),I (0:Int)]),(b4,.cells [I n8,I n9])]⟩) ?_ ?_
 ·refine cB h J (fun h=>?_) (fun h=>?_)
  ·exact tR<|rM J J<|aD (xs:=([(-1:Int),(10:Int)]).map I) J J J J J J<|au h fun v10 e4 h=>aK J (cI e4) cR (.cons .p0 .nil) J J<|rM J J<|aD (xs:=([(9:Int),(345686400001:Int)]).map I) J J J J J J<|au h fun v11 e5 h=>aK J (cI e5) cR (.cons .p0 .nil) J J<|ae.qv (bn J J J J J) J<|aq J J J J .p1 J J<|rN<|ab.stop<|ai.lq [0,1,0] ⟨v11.2.L,v11.2.at_,v10.1,v11.1,h,J⟩ J J
  ·exact tK<|ab.stop<|ai.lq [0,1,0] ⟨v5.2.L,v5.2.at_,v2.1,v3.1,h,J⟩ J J
 ·rintro aE ⟨l6,n7,n8,n9,h,rfl⟩
  unfold pZ at h
  refine ax<|ae.qv (ao J J .p2 J) J<|aq J J J J .p1 J J<|rN<|ab.ret<|?_
  cases h
  exact ai.here ⟨_,.cons (.all _ _ _ _ _ _ J .p1 aA.h aN.h J J) .nil,_,.cons .p0 .nil,⟨J,J⟩⟩
theorem E9 [GI:bx] {br:Bk} {aa:ag} {r:bu×ag} (h:tF aa=some r):aB Tryz.prog 33 [.ptr br 0] [(br,.cells [du aa.L,I aa.at_])] (T0 ([(br,.cells [du r.2.L,I r.2.at_])]) (bu.av r.1)):=by
 unfold tF at h
 refine aB.dS ?_
 refine aB.aS Tryz.func33 J Tryz.ntmps33 Tryz.results33 J J ?_
 refine ax<|bf J J J J fun b1=>rN<|ax<|rM J J<|au h fun v2 e1 h=>IN J (y9 e1) cR (.cons .p1 .nil) (fun _ _ _ _=>J) J fun b3 b4 b5 b6=>bf J J J J fun b7=>aq J J J J .p0 J J<|rN<|tS<|ax<|rM J J<|au h fun v8 e2 h=>aK J (ea e2) cR (.cons .p1 .nil) J J<|rN<|ab.cut (fun aE=>∃ (yn:Bk) (Dv:Bk) (On:Bk) (I0:Bk) (l9:List Int) (n10:Int) (zQ:List an) (yi:List bF) (JY:List bj) (wu:List bJ),oy l9 n10 zQ yi JY wu=some r∧aE=⟨112,[(2,.ptr b1 0),(3,.ptr b7 0)],[(br,.cells [du l9,I n10]),(b1,.cells [.nil,.nil,.nil,.nil]),(b7,.cells [.sl 2 yn 0 zQ.length,.sl 2 Dv 0 yi.length,.sl 3 On 0 JY.length,.sl 17 I0 0 wu.length]),(yn,xR zQ),(Dv,zR yi),(On,xQ JY),(I0,C4 wu)]⟩) ?_ ?_
 ·refine cB h J (fun h=>?_) (fun h=>?_)
  ·refine ax<|rM J J<|au h fun iV e3 h=>aK J (dZ e3) cR (.cons .p0 .nil) J J<|rN<|ab.block<|ax<|ae.qv (cL J J) J<|rA J J<|rN<|ab.cut (fun aE=>∃ (Sg:Bk) (TB:Bk) (FF:Bk) (Sh:Bk) (HM:List Int) (n21:Int) (AN:List an) (E3:List bF) (Cf:List bj) (Mc:List bJ),rH HM n21 AN E3 Cf Mc=some r∧aE=⟨112,[(2,.ptr b1 0),(3,.ptr b7 0)],[(br,.cells [du HM,I n21]),(b1,.cells [.nil,.nil,.nil,.nil]),(b7,.cells [.sl 2 Sg 0 AN.length,.sl 2 TB 0 E3.length,.sl 3 FF 0 Cf.length,.sl 17 Sh 0 Mc.length]),(Sg,xR AN),(TB,zR E3),(FF,xQ Cf),(Sh,C4 Mc)]⟩) ?_ ?_
   ·refine cD h J (fun h=>?_) (fun h=>?_)
    ·refine au h fun v30 e4 h=>au h fun v31 e5 h=>ab.jM (id:=7) (A:=[0,1,0,4,0,0,60,127,255,511]) (H0:=[(br,.cells [du iV.2.L,I iV.2.at_])]) (HH:=fun β=>[(br,.cells [du v31.2.L,I v31.2.at_]),(b7,.cells (Se v2.1 b3 b4 b5 b6)),(b3,xR v2.1.ak),(b4,zR v2.1.ba),(b5,xQ v2.1.aL),(b6,C4 v2.1.aR),(b1,.cells [.nil,.nil,.nil,.nil])]) 7 mixed J (by kernel_rfl) (by kernel_rfl) [⟨none,some 3,[],fun _=>(br,.cells [du iV.2.L,I iV.2.at_]),none,[]⟩,⟨some 3,some 6,[],fun _=>(br,.cells [du v30.2.L,I v30.2.at_]),none,[]⟩,⟨some 6,none,[],fun _=>(br,.cells [du v31.2.L,I v31.2.at_]),none,[]⟩] [] J (by kernel_rfl) J (.cons .p0 .nil) (fun _=>J)<|AT.am 3 J J<|AM.qv (az J J) J<|AM.qv (aI J J .p0 J) J<|AM.qv (aQ J) J<|AM.nil<|AT.tx (av:=I v30.1) (Ti:=[(br,.cells [du iV.2.L,I iV.2.at_])]) (Pi:=[(br,.cells [du v30.2.L,I v30.2.at_])]) (fun _=>J) (fun _=>J) (fun _=>J) J J J ?_ ?_
     ·exact aK J (dZ e4) cR (.cons .p0 .nil) J J<|ae.nil ⟨_,J,J⟩
     refine AT.am 2 J J<|AM.qv (aQ J) J<|AM.bz (xs:=([([116,99]:al),([116,97]:al),([110,111,110,101]:al),([116,98]:al)]).map AV.str) J J J J J J<|AM.nil<|AT.tx (av:=.str v31.1) (Ti:=[(br,.cells [du v30.2.L,I v30.2.at_])]) (Pi:=[(br,.cells [du v31.2.L,I v31.2.at_])]) (fun _=>J) (fun _=>J) (fun _=>J) J J J ?_ ?_
     ·exact aK J (bD e5) cR (.cons .p0 .nil) J J<|ae.nil ⟨_,J,J⟩
     exact AT.wJ (fun _=>J) fun β=>au h fun v32 e6 h=>ae.qv (kE J J J e6) J<|ae.qv (pQ J J) J<|ou (g:=an.av) (IE:=(⟨v32.Key,v31.1⟩:an)) J J J J e6 J .p2 J<|ae.ghost<|ai.eqs (s:=28) (r7:=.sl 2 b3 0 (v2.1.ak.set v30.1.toNat (⟨v32.Key,v31.1⟩:an)).length) J (by rw [List.length_set])<|ai.here<|ae.ghost<|ai.IF (j:=0) (r7:=.sl 2 b3 0 (v2.1.ak.set v30.1.toNat (⟨v32.Key,v31.1⟩:an)).length) .p1 J (by rw [List.length_set]) J<|ai.here<|rN<|ab.stop<|ai.lq [0,5,0,0,0,0,0] ⟨b3,b4,b5,b6,v31.2.L,v31.2.at_,v2.1.ak.set v30.1.toNat (⟨v32.Key,v31.1⟩:an),v2.1.ba,v2.1.aL,v2.1.aR,h,J⟩ J J
    ·refine ax<|ae.qv (cL J J) J<|rA J J<|rN<|ab.cut (fun aE=>∃ (HQ:Bk) (Mi:Bk) (Vi:Bk) (Oo:Bk) (FD:List Int) (n34:Int) (Dk:List an) (He:List bF) (HO:List bj) (QA:List bJ),rI FD n34 Dk He HO QA=some r∧aE=⟨112,[(2,.ptr b1 0),(3,.ptr b7 0)],[(br,.cells [du FD,I n34]),(b1,.cells [.nil,.nil,.nil,.nil]),(b7,.cells [.sl 2 HQ 0 Dk.length,.sl 2 Mi 0 He.length,.sl 3 Vi 0 HO.length,.sl 17 Oo 0 QA.length]),(HQ,xR Dk),(Mi,zR He),(Vi,xQ HO),(Oo,C4 QA)]⟩) ?_ ?_
     ·refine cD h J (fun h=>?_) (fun h=>?_)
      ·refine au h fun Md e7 h=>au h fun v44 e8 h=>ab.jM (id:=9) (A:=[0,1,0,0,12,0,0,124,252,508,1023,2047,4095]) (H0:=[(br,.cells [du iV.2.L,I iV.2.at_])]) (HH:=fun β=>[(br,.cells [du v44.2.L,I v44.2.at_]),(b7,.cells (Se v2.1 b3 b4 b5 b6)),(b3,xR v2.1.ak),(b4,zR v2.1.ba),(b5,xQ v2.1.aL),(b6,C4 v2.1.aR),(b1,.cells [.nil,.nil,.nil,.nil])]) 10 mixed J (by kernel_rfl) (by kernel_rfl) [⟨none,some 4,[],fun _=>(br,.cells [du iV.2.L,I iV.2.at_]),none,[]⟩,⟨some 4,some 7,[],fun _=>(br,.cells [du Md.2.L,I Md.2.at_]),none,[]⟩,⟨some 7,none,[],fun _=>(br,.cells [du v44.2.L,I v44.2.at_]),none,[]⟩] [] J (by kernel_rfl) J (.cons .p0 .nil) (fun _=>J)<|AT.am 4 J J<|AM.qv (az J J) J<|AM.qv (aI J J .p0 J) J<|AM.qv (aQ J) J<|AM.bz (xs:=([([]:al),([116,97]:al),([116,122]:al)]).map AV.str) J J J J J J<|AM.nil<|AT.tx (av:=.str Md.1) (Ti:=[(br,.cells [du iV.2.L,I iV.2.at_])]) (Pi:=[(br,.cells [du Md.2.L,I Md.2.at_])]) (fun _=>J) (fun _=>J) (fun _=>J) J J J ?_ ?_
       ·exact aK J (bD e7) cR (.cons .p0 .nil) J J<|ae.nil ⟨_,J,J⟩
       refine AT.am 2 J J<|AM.qv (aQ J) J<|AM.bz (xs:=([([]:al),([116,100]:al)]).map AV.str) J J J J J J<|AM.nil<|AT.tx (av:=.str v44.1) (Ti:=[(br,.cells [du Md.2.L,I Md.2.at_])]) (Pi:=[(br,.cells [du v44.2.L,I v44.2.at_])]) (fun _=>J) (fun _=>J) (fun _=>J) J J J ?_ ?_
       ·exact aK J (bD e8) cR (.cons .p0 .nil) J J<|ae.nil ⟨_,J,J⟩
       exact AT.am 2 J J<|AM.qv (bn J J J J J) J<|AM.bz (xs:=([(⟨Md.1,v44.1⟩:an)]).map an.av) J J J J J J<|AM.nil<|AT.wJ (fun _=>J) fun β=>au h fun WB e9 h=>dt (g:=an.av) J J J J J J J J (.list _) e9 (fun _=>.p2) J fun Vj=>rF J J J<|aq J J J J .p1 J J<|rN<|ab.stop<|ai.lq [0,5,0,0,0,0,0] ⟨Vj,b4,b5,b6,v44.2.L,v44.2.at_,WB,v2.1.ba,v2.1.aL,v2.1.aR,h,J⟩ J J
      ·refine ax<|ae.qv (cL J J) J<|rA J J<|rN<|ab.cut (fun aE=>∃ (Vk:Bk) (Vl:Bk) (KL:Bk) (Sa:List Int) (n48:Int) (JZ:List bF) (J0:List bj) (C1:List bJ),rJ v2 Sa n48 JZ J0 C1=some r∧aE=⟨112,[(2,.ptr b1 0),(3,.ptr b7 0)],[(br,.cells [du Sa,I n48]),(b1,.cells [.nil,.nil,.nil,.nil]),(b7,.cells [.sl 2 b3 0 v2.1.ak.length,.sl 2 Vk 0 JZ.length,.sl 3 Vl 0 J0.length,.sl 17 KL 0 C1.length]),(b3,xR v2.1.ak),(Vk,zR JZ),(Vl,xQ J0),(KL,C4 C1)]⟩) ?_ ?_
       ·refine cD h J (fun h=>?_) (fun h=>?_)
        ·refine au h fun v55 zS h=>au h fun Gz E8 h=>au h fun KF FE h=>ab.jM (id:=11) (A:=[0,1,0,0,12,0,0,0,0,0,992,0,2076,8188,16380,32764,65532,131071,262143,524287]) (H0:=[(br,.cells [du iV.2.L,I iV.2.at_])]) (HH:=fun β=>[(br,.cells [du Gz.2.L,I Gz.2.at_]),(b7,.cells (Se v2.1 b3 b4 b5 b6)),(b3,xR v2.1.ak),(b4,zR v2.1.ba),(b5,xQ v2.1.aL),(b6,C4 v2.1.aR),(b1,.cells [.nil,.nil,.nil,.nil])]) 17 mixed J (by kernel_rfl) (by kernel_rfl) [⟨none,some 4,[],fun _=>(br,.cells [du iV.2.L,I iV.2.at_]),none,[]⟩,⟨some 4,some 12,[],fun _=>(br,.cells [du v55.2.L,I v55.2.at_]),none,[]⟩,⟨some 12,none,[],fun _=>(br,.cells [du Gz.2.L,I Gz.2.at_]),none,[]⟩] [] J (by kernel_rfl) J (.cons .p0 .nil) (fun _=>J)<|AT.am 4 J J<|AM.qv (az J J) J<|AM.qv (aI J J .p0 J) J<|AM.qv (aQ J) J<|AM.bz (xs:=([([]:al),([114,101,97,100]:al),([122,122]:al)]).map AV.str) J J J J J J<|AM.nil<|AT.tx (av:=.str v55.1) (Ti:=[(br,.cells [du iV.2.L,I iV.2.at_])]) (Pi:=[(br,.cells [du v55.2.L,I v55.2.at_])]) (fun _=>J) (fun _=>J) (fun _=>J) J J J ?_ ?_
         ·exact aK J (bD zS) cR (.cons .p0 .nil) J J<|ae.nil ⟨_,J,J⟩
         refine AT.am 7 J J<|AM.bz (xs:=([([97,42]:al)]).map AV.str) J J J J J J<|AM.bz (xs:=([([42,46,97]:al)]).map AV.str) J J J J J J<|AM.bz (xs:=([([98]:al),([97]:al)]).map AV.str) J J J J J J<|AM.bz (xs:=([([97,46,98,46,99,46,100,46,101,46,102]:al)]).map AV.str) J J J J J J<|AM.bz (xs:=([([97,46,42]:al)]).map AV.str) J J J J J J<|AM.AJ (xs:=[.nil,mU [([97,42]:al)],mU [([42,46,97]:al)],mU [([98]:al),([97]:al)],mU [([97,46,98,46,99,46,100,46,101,46,102]:al)],mU [([97,46,42]:al)]]) (av:=.list 1 (([[],[([97,42]:al)],[([42,46,97]:al)],[([98]:al),([97]:al)],[([97,46,98,46,99,46,100,46,101,46,102]:al)],[([97,46,42]:al)]]:List (List al)).map (Df 1 AV.str))) J J J J J J (zr.IJ (.cons .n (.cons .r (.cons .r (.cons .r (.cons .r (.cons .r .nil)))))) J J)<|AM.qv (aQ J) J<|AM.nil<|AT.tx (av:=I Gz.1) (Ti:=[(br,.cells [du v55.2.L,I v55.2.at_])]) (Pi:=[(br,.cells [du Gz.2.L,I Gz.2.at_])]) (fun _=>J) (fun _=>J) (fun _=>J) J J J ?_ ?_
         ·exact aK J (dZ E8) cR (.cons .p0 .nil) J J<|ae.nil ⟨_,J,J⟩
         exact AT.am 4 J J<|AM.qv (aO J J J FE J J) J<|AM.qv (aJ J J J) J<|AM.qv (bn J J J J J) J<|AM.bz (xs:=([(⟨v55.1,KF⟩:bF)]).map bF.av) J J J J J J<|AM.nil<|AT.wJ (fun _=>J) fun β=>au h fun WC GC h=>dt (g:=bF.av) J J J J J J J J (.list _) GC (fun _=>.p3) J fun b59=>rF J J J<|aq J J J J .p1 J J<|rN<|ab.stop<|ai.lq [0,5,0,0,0,0,0] ⟨b59,b5,b6,Gz.2.L,Gz.2.at_,WC,v2.1.aL,v2.1.aR,h,J⟩ J J
        ·refine ax<|ae.qv (cL J J) J<|rA J J<|rN<|ab.cut (fun aE=>∃ (Vm:Bk) (Vn:Bk) (JV:List Int) (n61:Int) (QC:List bj) (QD:List bJ),rK v2 JV n61 QC QD=some r∧aE=⟨112,[(2,.ptr b1 0),(3,.ptr b7 0)],[(br,.cells [du JV,I n61]),(b1,.cells [.nil,.nil,.nil,.nil]),(b7,.cells [.sl 2 b3 0 v2.1.ak.length,.sl 2 b4 0 v2.1.ba.length,.sl 3 Vm 0 QC.length,.sl 17 Vn 0 QD.length]),(b3,xR v2.1.ak),(b4,zR v2.1.ba),(Vm,xQ QC),(Vn,C4 QD)]⟩) ?_ ?_
         ·refine cD h J (fun h=>?_) (fun h=>?_)
          ·refine au h fun v66 Mh h=>au h fun v67 QL h=>au h fun BE QM h=>ab.jM (id:=13) (A:=[0,1,0,0,12,0,0,124,0,0,1020,2044,4092,8191,16383,32767]) (H0:=[(br,.cells [du iV.2.L,I iV.2.at_])]) (HH:=fun β=>[(br,.cells [du BE.2.L,I BE.2.at_]),(b7,.cells (Se v2.1 b3 b4 b5 b6)),(b3,xR v2.1.ak),(b4,zR v2.1.ba),(b5,xQ v2.1.aL),(b6,C4 v2.1.aR),(b1,.cells [.nil,.nil,.nil,.nil])]) 13 mixed J (by kernel_rfl) (by kernel_rfl) [⟨none,some 4,[],fun _=>(br,.cells [du iV.2.L,I iV.2.at_]),none,[]⟩,⟨some 4,some 7,[],fun _=>(br,.cells [du v66.2.L,I v66.2.at_]),none,[]⟩,⟨some 7,some 10,[],fun _=>(br,.cells [du v67.2.L,I v67.2.at_]),none,[]⟩,⟨some 10,none,[],fun _=>(br,.cells [du BE.2.L,I BE.2.at_]),none,[]⟩] [] J (by kernel_rfl) J (.cons .p0 .nil) (fun _=>J)<|AT.am 4 J J<|AM.qv (az J J) J<|AM.qv (aI J J .p0 J) J<|AM.qv (aQ J) J<|AM.bz (xs:=([([]:al),([97,110,110]:al),([122,101,100]:al)]).map AV.str) J J J J J J<|AM.nil<|AT.tx (av:=.str v66.1) (Ti:=[(br,.cells [du iV.2.L,I iV.2.at_])]) (Pi:=[(br,.cells [du v66.2.L,I v66.2.at_])]) (fun _=>J) (fun _=>J) (fun _=>J) J J J ?_ ?_
           ·exact aK J (bD Mh) cR (.cons .p0 .nil) J J<|ae.nil ⟨_,J,J⟩
           refine AT.am 2 J J<|AM.qv (aQ J) J<|AM.bz (xs:=([([116,97]:al),([110,111,110,101]:al)]).map AV.str) J J J J J J<|AM.nil<|AT.tx (av:=.str v67.1) (Ti:=[(br,.cells [du v66.2.L,I v66.2.at_])]) (Pi:=[(br,.cells [du v67.2.L,I v67.2.at_])]) (fun _=>J) (fun _=>J) (fun _=>J) J J J ?_ ?_
           ·exact aK J (bD QL) cR (.cons .p0 .nil) J J<|ae.nil ⟨_,J,J⟩
           refine AT.am 2 J J<|AM.qv (aQ J) J<|AM.bz (xs:=([([114,101,97,100]:al),([110,111,110,101]:al)]).map AV.str) J J J J J J<|AM.nil<|AT.tx (av:=.str BE.1) (Ti:=[(br,.cells [du v67.2.L,I v67.2.at_])]) (Pi:=[(br,.cells [du BE.2.L,I BE.2.at_])]) (fun _=>J) (fun _=>J) (fun _=>J) J J J ?_ ?_
           ·exact aK J (bD QM) cR (.cons .p0 .nil) J J<|ae.nil ⟨_,J,J⟩
           exact AT.am 2 J J<|AM.qv (bn J J J J J) J<|AM.bz (xs:=([(⟨v66.1,v67.1,BE.1⟩:bj)]).map bj.av) J J J J J J<|AM.nil<|AT.wJ (fun _=>J) fun β=>au h fun WD QN h=>dt (g:=bj.av) J J J J J J J J (.list _) QN (fun _=>.p4) J fun b70=>rF J J J<|aq J J J J .p1 J J<|rN<|ab.stop<|ai.lq [0,5,0,0,0,0,0] ⟨b70,b6,BE.2.L,BE.2.at_,WD,v2.1.aR,h,J⟩ J J
          ·refine ax<|ae.qv (cL J J) J<|rA J J<|rN<|ab.cut (fun aE=>∃ (Vo:Bk) (Sb:List Int) (JW:Int) (IY:List bJ),rO v2 Sb JW IY=some r∧aE=⟨112,[(2,.ptr b1 0),(3,.ptr b7 0)],[(br,.cells [du Sb,I JW]),(b1,.cells [.nil,.nil,.nil,.nil]),(b7,.cells [.sl 2 b3 0 v2.1.ak.length,.sl 2 b4 0 v2.1.ba.length,.sl 3 b5 0 v2.1.aL.length,.sl 17 Vo 0 IY.length]),(b3,xR v2.1.ak),(b4,zR v2.1.ba),(b5,xQ v2.1.aL),(Vo,C4 IY)]⟩) ?_ ?_
           ·refine cD h J (fun h=>?_) (fun h=>?_)
            ·refine au h fun v75 Ty h=>au h fun v76 Tz h=>au h fun v77 WV h=>au h fun v78 WW h=>au h fun v79 WX h=>au h fun v80 WY h=>ab.jM (id:=15) (A:=[0,1,0,0,12,0,0,124,0,0,1020,0,4092,0,16380,0,65532,131068,262140,524287,1048575,2097151]) (H0:=[(br,.cells [du iV.2.L,I iV.2.at_])]) (HH:=fun β=>[(br,.cells [du v80.2.L,I v80.2.at_]),(b7,.cells (Se v2.1 b3 b4 b5 b6)),(b3,xR v2.1.ak),(b4,zR v2.1.ba),(b5,xQ v2.1.aL),(b6,C4 v2.1.aR),(b1,.cells [.nil,.nil,.nil,.nil])]) 19 mixed J (by kernel_rfl) (by kernel_rfl) [⟨none,some 4,[],fun _=>(br,.cells [du iV.2.L,I iV.2.at_]),none,[]⟩,⟨some 4,some 7,[],fun _=>(br,.cells [du v75.2.L,I v75.2.at_]),none,[]⟩,⟨some 7,some 10,[],fun _=>(br,.cells [du v76.2.L,I v76.2.at_]),none,[]⟩,⟨some 10,some 12,[],fun _=>(br,.cells [du v77.2.L,I v77.2.at_]),none,[]⟩,⟨some 12,some 14,[],fun _=>(br,.cells [du v78.2.L,I v78.2.at_]),none,[]⟩,⟨some 14,some 16,[],fun _=>(br,.cells [du v79.2.L,I v79.2.at_]),none,[]⟩,⟨some 16,none,[],fun _=>(br,.cells [du v80.2.L,I v80.2.at_]),none,[]⟩] [] J (by kernel_rfl) J (.cons .p0 .nil) (fun _=>J)<|AT.am 4 J J<|AM.qv (az J J) J<|AM.qv (aI J J .p0 J) J<|AM.qv (aQ J) J<|AM.bz (xs:=([([]:al),([115,97]:al),([115,122]:al)]).map AV.str) J J J J J J<|AM.nil<|AT.tx (av:=.str v75.1) (Ti:=[(br,.cells [du iV.2.L,I iV.2.at_])]) (Pi:=[(br,.cells [du v75.2.L,I v75.2.at_])]) (fun _=>J) (fun _=>J) (fun _=>J) J J J ?_ ?_
             ·exact aK J (bD Ty) cR (.cons .p0 .nil) J J<|ae.nil ⟨_,J,J⟩
             refine AT.am 2 J J<|AM.qv (aQ J) J<|AM.bz (xs:=([([116,97]:al),([110,111,110,101]:al),([116,100]:al)]).map AV.str) J J J J J J<|AM.nil<|AT.tx (av:=.str v76.1) (Ti:=[(br,.cells [du v75.2.L,I v75.2.at_])]) (Pi:=[(br,.cells [du v76.2.L,I v76.2.at_])]) (fun _=>J) (fun _=>J) (fun _=>J) J J J ?_ ?_
             ·exact aK J (bD Tz) cR (.cons .p0 .nil) J J<|ae.nil ⟨_,J,J⟩
             refine AT.am 2 J J<|AM.qv (aQ J) J<|AM.bz (xs:=([([116,100]:al),([116,98]:al),([110,111,110,101]:al)]).map AV.str) J J J J J J<|AM.nil<|AT.tx (av:=.str v77.1) (Ti:=[(br,.cells [du v76.2.L,I v76.2.at_])]) (Pi:=[(br,.cells [du v77.2.L,I v77.2.at_])]) (fun _=>J) (fun _=>J) (fun _=>J) J J J ?_ ?_
             ·exact aK J (bD WV) cR (.cons .p0 .nil) J J<|ae.nil ⟨_,J,J⟩
             refine AT.am 1 J J<|AM.qv (aQ J) J<|AM.nil<|AT.tx (av:=.agg [I v78.1.Kind,.str v78.1.Field,.str v78.1.Op,I v78.1.Value.Kind,.bool v78.1.Value.cf,I v78.1.Value.Number,.str v78.1.Value.Words,I v78.1.Version.bQ,I v78.1.Version.bR,I v78.1.Version.bN,lr v78.1.Kids]) (Ti:=[(br,.cells [du v77.2.L,I v77.2.at_])]) (Pi:=[(br,.cells [du v78.2.L,I v78.2.at_])]) (fun _=>J) (fun _=>J) (fun _=>J) J J J ?_ ?_
             ·exact aK J (Cn WW) cR (.cons .p0 .nil) J J<|ae.nil ⟨_,J,J⟩
             refine AT.am 1 J J<|AM.qv (aQ J) J<|AM.nil<|AT.tx (av:=mU v79.1) (Ti:=[(br,.cells [du v78.2.L,I v78.2.at_])]) (Pi:=[(br,.cells [du v79.2.L,I v79.2.at_])]) (fun _=>J) (fun _=>J) (fun _=>J) J J J ?_ ?_
             ·exact aK J (uQ WX) cR (.cons .p0 .nil) J J<|ae.nil ⟨_,J,J⟩
             refine AT.am 1 J J<|AM.qv (aQ J) J<|AM.nil<|AT.tx (av:=lA.av v80.1) (Ti:=[(br,.cells [du v79.2.L,I v79.2.at_])]) (Pi:=[(br,.cells [du v80.2.L,I v80.2.at_])]) (fun _=>J) (fun _=>J) (fun _=>J) J J J ?_ ?_
             ·exact aK J (Du WY) cR (.cons .p0 .nil) J J<|ae.nil ⟨_,J,J⟩
             exact AT.am 2 J J<|AM.qv (bn J J J J J) J<|AM.bz (xs:=([(⟨v75.1,v76.1,v77.1,v78.1,v79.1,v80.1⟩:bJ)]).map bJ.av) J J J J J J<|AM.nil<|AT.wJ (fun _=>J) fun β=>au h fun WE WZ h=>dt (g:=bJ.av) J J J J J J J J (.list _) WZ (fun _=>.p5) J fun b82=>rF J J J<|aq J J J J .p1 J J<|rN<|ab.stop<|ai.lq [0,5,0,0,0,0,0] ⟨b82,v80.2.L,v80.2.at_,WE,h,J⟩ J J
            ·refine ax<|rF J J J<|rL J J .p1 J J<|ae.qv (ot J) J<|ae.qv (fO J J) J<|rN<|ab.cut (fun aE=>∃ (Sc:List Int) (JX:Int) (QE:List bJ),rP v2 Sc JX QE=some r∧aE=⟨112,[(2,.ptr b1 0),(3,.ptr b7 0)],[(br,.cells [du Sc,I JX]),(b1,.cells [.nil,.nil,.nil,.nil]),(b7,.cells [.sl 2 b3 0 v2.1.ak.length,.sl 2 b4 0 v2.1.ba.length,.sl 3 b5 0 v2.1.aL.length,.sl 17 b6 0 QE.length]),(b3,xR v2.1.ak),(b4,zR v2.1.ba),(b5,xQ v2.1.aL),(b6,C4 QE)]⟩) ?_ ?_
             ·refine cD h J (fun h=>?_) (fun h=>?_)
              ·refine au h fun J5 W0 h=>au h fun v87 W1 h=>ab.jM (id:=5) (A:=[0,1,0,0,12,0,32,124,252,511,1023,2047]) (H0:=[(br,.cells [du iV.2.L,I iV.2.at_])]) (HH:=fun β=>[(br,.cells [du J5.2.L,I J5.2.at_]),(b7,.cells (Se v2.1 b3 b4 b5 b6)),(b3,xR v2.1.ak),(b4,zR v2.1.ba),(b5,xQ v2.1.aL),(b6,C4 v2.1.aR),(b1,.cells [.nil,.nil,.nil,.nil])]) 9 mixed J (by kernel_rfl) (by kernel_rfl) [⟨none,some 6,[],fun _=>(br,.cells [du iV.2.L,I iV.2.at_]),none,[]⟩,⟨some 6,none,[],fun _=>(br,.cells [du J5.2.L,I J5.2.at_]),none,[]⟩] [] J (by kernel_rfl) J (.cons .p0 .nil) (fun _=>J)<|AT.am 6 J J<|AM.qv (az J J) J<|AM.qv (aI J J .p0 J) J<|AM.bz (xs:=([([65]:al)]).map AV.str) J J J J J J<|AM.bz (xs:=([([98]:al),([97]:al)]).map AV.str) J J J J J J<|AM.AJ (xs:=[.nil,mU [([65]:al)],mU [([98]:al),([97]:al)]]) (av:=.list 1 (([[],[([65]:al)],[([98]:al),([97]:al)]]:List (List al)).map (Df 1 AV.str))) J J J J J J (zr.IJ (.cons .n (.cons .r (.cons .r .nil))) J J)<|AM.qv (aQ J) J<|AM.nil<|AT.tx (av:=I J5.1) (Ti:=[(br,.cells [du iV.2.L,I iV.2.at_])]) (Pi:=[(br,.cells [du J5.2.L,I J5.2.at_])]) (fun _=>J) (fun _=>J) (fun _=>J) J J J ?_ ?_
               ·exact aK J (dZ W0) cR (.cons .p0 .nil) J J<|ae.nil ⟨_,J,J⟩
               exact AT.am 2 J J<|AM.qv (aO J J J W1 J J) J<|AM.qv (aJ J J J) J<|AM.nil<|AT.wJ (fun _=>J) fun β=>au h fun yj Vp h=>ae.qv (kE J J J Vp) J<|ae.qv (pQ J J) J<|ou (g:=bJ.av) (IE:=(⟨yj.Key,yj.iU,yj.To,yj.Query,v87,yj.Time⟩:bJ)) J J J J Vp J .p5 J<|ae.ghost<|ai.eqs (s:=11) (r7:=.sl 17 b6 0 (v2.1.aR.set (0:Int).toNat (⟨yj.Key,yj.iU,yj.To,yj.Query,v87,yj.Time⟩:bJ)).length) J (by rw [List.length_set])<|ai.here<|ae.ghost<|ai.eqs (s:=15) (r7:=.sl 17 b6 0 (v2.1.aR.set (0:Int).toNat (⟨yj.Key,yj.iU,yj.To,yj.Query,v87,yj.Time⟩:bJ)).length) J (by rw [List.length_set])<|ai.here<|ae.ghost<|ai.IF (j:=3) (r7:=.sl 17 b6 0 (v2.1.aR.set (0:Int).toNat (⟨yj.Key,yj.iU,yj.To,yj.Query,v87,yj.Time⟩:bJ)).length) .p1 J (by rw [List.length_set]) J<|ai.here<|rN<|ab.stop<|ai.lq [0,5,0,0,0,0,0] ⟨J5.2.L,J5.2.at_,v2.1.aR.set (0:Int).toNat (⟨yj.Key,yj.iU,yj.To,yj.Query,v87,yj.Time⟩:bJ),h,J⟩ J J
              ·exact tK<|ab.stop<|ai.lq [0,5,0,0,0,0,0] ⟨iV.2.L,iV.2.at_,v2.1.aR,h,J⟩ J J
             ·rintro aE ⟨Sc,JX,QE,h,rfl⟩
              unfold rP at h
              exact ab.stop<|ai.lq [0,0,0,0,0,0,0] ⟨b6,Sc,JX,QE,h,J⟩ J J
           ·rintro aE ⟨Vo,Sb,JW,IY,h,rfl⟩
            unfold rO at h
            exact ab.stop<|ai.lq [0,0,0,0,0,0,0] ⟨b5,Vo,Sb,JW,v2.1.aL,IY,h,J⟩ J J
         ·rintro aE ⟨Vm,Vn,JV,n61,QC,QD,h,rfl⟩
          unfold rK at h
          exact ab.stop<|ai.lq [0,0,0,0,0,0,0] ⟨b4,Vm,Vn,JV,n61,v2.1.ba,QC,QD,h,J⟩ J J
       ·rintro aE ⟨Vk,Vl,KL,Sa,n48,JZ,J0,C1,h,rfl⟩
        unfold rJ at h
        exact ab.stop<|ai.lq [0,0,0,0,0,0,0] ⟨b3,Vk,Vl,KL,Sa,n48,v2.1.ak,JZ,J0,C1,h,J⟩ J J
     ·rintro aE ⟨HQ,Mi,Vi,Oo,FD,n34,Dk,He,HO,QA,h,rfl⟩
      unfold rI at h
      exact ab.stop<|ai.lq [0,0,0,0,0,0,0] ⟨HQ,Mi,Vi,Oo,FD,n34,Dk,He,HO,QA,h,J⟩ J J
   ·rintro aE ⟨Sg,TB,FF,Sh,HM,n21,AN,E3,Cf,Mc,h,rfl⟩
    unfold rH at h
    exact ab.cF<|ab.stop<|ai.lq [0,0,0,0,0,0,0] ⟨Sg,TB,FF,Sh,HM,n21,AN,E3,Cf,Mc,h,J⟩ J J
  ·exact tK<|ab.stop<|ai.lq [0,5,0,0,0,0,0] ⟨b3,b4,b5,b6,v8.2.L,v8.2.at_,v2.1.ak,v2.1.ba,v2.1.aL,v2.1.aR,h,J⟩ J J
 ·rintro aE ⟨yn,Dv,On,I0,l9,n10,zQ,yi,JY,wu,h,rfl⟩
  unfold oy at h
  refine ax<|ae.qv (ao J J .p2 J) J<|aq J J J J .p1 J J<|rN<|ab.ret<|?_
  cases h
  exact ai.freeze .p3<|ai.u6 (j:=0) .p1 J (Co.sx .p3) J J<|ai.freeze .p4<|ai.u6 (j:=1) .p1 J (Co.sx .p4) J J<|ai.freeze .p5<|ai.u6 (j:=2) .p1 J (Co.sx .p5) J J<|ai.freeze .p6<|ai.u6 (j:=3) .p1 J (Co.sx .p6) J J<|ai.here ⟨_,.cons (.all _ _ _ _ _ _ J .p1 aA.h aN.h J J) .nil,_,.cons .p0 .nil,⟨J,J⟩⟩
theorem Bg [GI:bx] {br:Bk} {aa:ag} {r:(List aH)×ag} (h:oz aa=some r):aB Tryz.prog 34 [.ptr br 0] [(br,.cells [du aa.L,I aa.at_])] (T1 (fun iM=>[(br,.cells [du r.2.L,I r.2.at_]),(iM,Ei r.1)]) (fun iM=>.sl 3 iM 0 r.1.length)):=by
 unfold oz at h
 refine aB.dS ?_
 refine aB.aS Tryz.func34 J Tryz.ntmps34 Tryz.results34 J J ?_
 refine ax<|rA J J<|rN<|ax<|rA J J<|rN<|tS<|ax<|aD (xs:=([([116,97]:al),([116,98]:al),([116,100]:al)]).map AV.str) J J J J J J<|ae.qv (bA J) J<|rM J J<|rN<|ab.block<|ab.cq (fun x:(List Int)×Int×(List aH)×Int=>kY x.1 x.2.1 x.2.2.1 x.2.2.2) (fun x aE=>∃ (b8:Bk),aE=⟨48,[(0,.ptr br 0),(3,.sl 3 b8 0 x.2.2.1.length),(8,mU [([116,97]:al),([116,98]:al),([116,100]:al)]),(9,I ([([116,97]:al),([116,98]:al),([116,100]:al)].length:Int)),(10,I x.2.2.2)],[(br,.cells [du x.1,I x.2.1]),(b8,Ei x.2.2.1)]⟩) h ?_ ?_
 ·exact ai.arr (s:=3) 3 J fun yn=>ai.lq [1,0] ⟨yn,J⟩ J J
 ·intro x z1 aE J1 dN h gH df
  obtain ⟨l6,n7,l9,n10⟩:=x
  obtain ⟨b8,rfl⟩:=dN
  replace h:kY l6 n7 l9 n10=some z1:=h
  unfold kY at h
  refine ax<|ae.qv (bG J J) J<|rN<|tS<|cD h J (fun h=>?_) (fun h=>?_)
  ·refine tK<|tS<|ab.block<|ax<|au h fun v12 e1 h=>ae.qv (aO J J J e1 J J) J<|ae.qv (aJ J J J) J<|rA J J<|rN<|ax<|aD (xs:=([([99,112,117]:al),([100,101,118]:al)]).map AV.str) J J J J J J<|ae.qv (bA J) J<|rM J J<|rN<|ab.block<|ab.cq (fun x:(List Int)×Int×(List aH)×Int=>kW n10 v12 x.1 x.2.1 x.2.2.1 x.2.2.2) (fun x aE=>∃ (Bf:Bk),aE=⟨48,[(0,.ptr br 0),(3,.sl 3 Bf 0 x.2.2.1.length),(5,.str v12),(8,mU [([116,97]:al),([116,98]:al),([116,100]:al)]),(9,I ([([116,97]:al),([116,98]:al),([116,100]:al)].length:Int)),(10,I n10),(14,mU [([99,112,117]:al),([100,101,118]:al)]),(15,I ([([99,112,117]:al),([100,101,118]:al)].length:Int)),(16,I x.2.2.2)],[(br,.cells [du x.1,I x.2.1]),(Bf,Ei x.2.2.1)]⟩) h ?_ ?_
   ·exact ai.lq [0,0] ⟨b8,J⟩ J J
   ·intro x z2 aE J2 dN h Dt zv
    obtain ⟨wu,n19,wP,n22⟩:=x
    obtain ⟨Bf,rfl⟩:=dN
    replace h:kW n10 v12 wu n19 wP n22=some z2:=h
    unfold kW at h
    refine ax<|ae.qv (bG J J) J<|rN<|tS<|cD h J (fun h=>?_) (fun h=>?_)
    ·refine tK<|tS<|ab.block<|ax<|au h fun v23 e2 h=>ae.qv (aO J J J e2 J J) J<|ae.qv (aJ J J J) J<|rA J J<|rN<|ax<|rM J J<|au h fun v24 e3 h=>aK J (ea e3) cR (.cons .p0 .nil) J J<|rN<|ab.cut (fun aE=>∃ (IZ:Bk) (E3:List Int) (n26:Int) (Eg:List aH),kV n22 E3 n26 Eg=some z2∧aE=⟨48,[(0,.ptr br 0),(3,.sl 3 IZ 0 Eg.length),(5,.str v12),(8,mU [([116,97]:al),([116,98]:al),([116,100]:al)]),(9,I ([([116,97]:al),([116,98]:al),([116,100]:al)].length:Int)),(10,I n10),(14,mU [([99,112,117]:al),([100,101,118]:al)]),(15,I ([([99,112,117]:al),([100,101,118]:al)].length:Int)),(16,I n22)],[(br,.cells [du E3,I n26]),(IZ,Ei Eg)]⟩) ?_ ?_
     ·refine cB h J (fun h=>?_) (fun h=>?_)
      ·exact tR<|rM J J<|rM J J<|rM J J<|rM J J<|aD (xs:=([(0:Int),(3:Int),(5:Int),(9:Int),(1000000000:Int)]).map I) J J J J J J<|au h fun vv e4 h=>aK J (cI e4) cR (.cons .p0 .nil) J J<|ae.qv (bn J J J J J) J<|aD (xs:=([(⟨v12,v23,vv.1⟩:aH)]).map aH.av) J J J J J J<|au h fun QF e5 h=>dt (g:=aH.av) J J J J J J J J (.list _) e5 (fun _=>.p1) J fun Si=>rA J J<|rN<|ab.stop<|ai.lq [0,0] ⟨Si,vv.2.L,vv.2.at_,QF,h,J⟩ J J
      ·exact tK<|ab.stop<|ai.lq [0,0] ⟨Bf,v24.2.L,v24.2.at_,wP,h,J⟩ J J
     ·rintro aE ⟨IZ,E3,n26,Eg,h,rfl⟩
      unfold kV at h
      refine ab.cF<|tR<|ae.qv (bd J J) J<|rM J J<|rN<|ab.stop<|?_
      cases h
      exact Dt _ _ J<|ai.lq [0,0] ⟨IZ,J⟩ J J
    ·refine ab.exit J<|have h:=bE h zv;ab.cF<|tR<|ae.qv (bd J J) J<|rM J J<|rN<|ab.stop<|?_
     cases h
     exact gH _ _ J<|ai.lq [0,0] ⟨Bf,J⟩ J J
  ·refine ab.exit J<|have h:=bE h df;?_
   unfold ri at h
   refine tS<|ax<|rM J J<|au h fun v32 e6 h=>aK J (ea e6) cR (.cons .p0 .nil) J J<|rN<|ab.cut (fun aE=>∃ (HQ:Bk) (FD:List Int) (n34:Int) (Dk:List aH),kX FD n34 Dk=some r∧aE=⟨48,[(3,.sl 3 HQ 0 Dk.length)],[(br,.cells [du FD,I n34]),(HQ,Ei Dk)]⟩) ?_ ?_
   ·refine cB h J (fun h=>?_) (fun h=>?_)
    ·exact tR<|rM J J<|rM J J<|aD (xs:=([([116,97]:al),([110,111,110,101]:al),([116,100]:al)]).map AV.str) J J J J J J<|au h fun v37 e7 h=>aK J (bD e7) cR (.cons .p0 .nil) J J<|rM J J<|aD (xs:=([([122,122]:al),([]:al),([99,112,117]:al)]).map AV.str) J J J J J J<|au h fun J6 e8 h=>aK J (bD e8) cR (.cons .p0 .nil) J J<|rM J J<|au h fun v39 e9 h=>aK J (vI e9) cR (.cons .p0 .nil) J J<|ae.qv (bn J J J J J) J<|aD (xs:=([(⟨v37.1,J6.1,v39.1⟩:aH)]).map aH.av) J J J J J J<|au h fun HO zS h=>dt (g:=aH.av) J J J J J J J J (.list _) zS (fun _=>.p1) J fun Oo=>rA J J<|rN<|ab.stop<|ai.lq [0,0] ⟨Oo,v39.2.L,v39.2.at_,HO,h,J⟩ J J
    ·exact tK<|ab.stop<|ai.lq [0,0] ⟨b8,v32.2.L,v32.2.at_,l9,h,J⟩ J J
   ·rintro aE ⟨HQ,FD,n34,Dk,h,rfl⟩
    unfold kX at h
    refine ax<|rM J J<|rA J J<|rN<|ab.ret<|?_
    cases h
    exact hH J [0,0] J ⟨HQ,J,J⟩
theorem zT [GI:bx] {br:Bk} {aa:ag} {r:(List aM)×ag} (h:nf aa=some r):aB Tryz.prog 35 [.ptr br 0] [(br,.cells [du aa.L,I aa.at_])] (T1 (fun iM=>[(br,.cells [du r.2.L,I r.2.at_]),(iM,Mg r.1)]) (fun iM=>.sl 3 iM 0 r.1.length)):=by
 unfold nf at h
 refine aB.dS ?_
 refine aB.aS Tryz.func35 J Tryz.ntmps35 Tryz.results35 J J ?_
 refine ax<|rA J J<|rN<|ax<|rA J J<|rN<|tS<|ax<|aD (xs:=([([116,97]:al),([116,98]:al),([116,99]:al),([116,100]:al)]).map AV.str) J J J J J J<|ae.qv (bA J) J<|rM J J<|rN<|ab.block<|ab.cq (fun x:(List Int)×Int×(List aM)×Int=>jR x.1 x.2.1 x.2.2.1 x.2.2.2) (fun x aE=>∃ (b8:Bk),aE=⟨48,[(0,.ptr br 0),(3,.sl 3 b8 0 x.2.2.1.length),(8,mU [([116,97]:al),([116,98]:al),([116,99]:al),([116,100]:al)]),(9,I ([([116,97]:al),([116,98]:al),([116,99]:al),([116,100]:al)].length:Int)),(10,I x.2.2.2)],[(br,.cells [du x.1,I x.2.1]),(b8,Mg x.2.2.1)]⟩) h ?_ ?_
 ·exact ai.arr (s:=3) 3 J fun yn=>ai.lq [1,0] ⟨yn,J⟩ J J
 ·intro x z1 aE J1 dN h gH df
  obtain ⟨l6,n7,l9,n10⟩:=x
  obtain ⟨b8,rfl⟩:=dN
  replace h:jR l6 n7 l9 n10=some z1:=h
  unfold jR at h
  refine ax<|ae.qv (bG J J) J<|rN<|tS<|cD h J (fun h=>?_) (fun h=>?_)
  ·refine tK<|tS<|ab.block<|ax<|au h fun v12 e1 h=>ae.qv (aO J J J e1 J J) J<|ae.qv (aJ J J J) J<|rA J J<|rN<|ax<|aD (xs:=([([99,112,117]:al),([100,101,118]:al)]).map AV.str) J J J J J J<|ae.qv (bA J) J<|rM J J<|rN<|ab.block<|ab.cq (fun x:(List Int)×Int×(List aM)×Int=>jP n10 v12 x.1 x.2.1 x.2.2.1 x.2.2.2) (fun x aE=>∃ (Bf:Bk),aE=⟨48,[(0,.ptr br 0),(3,.sl 3 Bf 0 x.2.2.1.length),(5,.str v12),(8,mU [([116,97]:al),([116,98]:al),([116,99]:al),([116,100]:al)]),(9,I ([([116,97]:al),([116,98]:al),([116,99]:al),([116,100]:al)].length:Int)),(10,I n10),(14,mU [([99,112,117]:al),([100,101,118]:al)]),(15,I ([([99,112,117]:al),([100,101,118]:al)].length:Int)),(16,I x.2.2.2)],[(br,.cells [du x.1,I x.2.1]),(Bf,Mg x.2.2.1)]⟩) h ?_ ?_
   ·exact ai.lq [0,0] ⟨b8,J⟩ J J
   ·intro x z2 aE J2 dN h Dt zv
    obtain ⟨wu,n19,wP,n22⟩:=x
    obtain ⟨Bf,rfl⟩:=dN
    replace h:jP n10 v12 wu n19 wP n22=some z2:=h
    unfold jP at h
    refine ax<|ae.qv (bG J J) J<|rN<|tS<|cD h J (fun h=>?_) (fun h=>?_)
    ·refine tK<|tS<|ab.block<|ax<|au h fun v23 e2 h=>ae.qv (aO J J J e2 J J) J<|ae.qv (aJ J J J) J<|rA J J<|rN<|ax<|rM J J<|au h fun v24 e3 h=>aK J (ea e3) cR (.cons .p0 .nil) J J<|rN<|ab.cut (fun aE=>∃ (IZ:Bk) (E3:List Int) (n26:Int) (Eg:List aM),jO n22 E3 n26 Eg=some z2∧aE=⟨48,[(0,.ptr br 0),(3,.sl 3 IZ 0 Eg.length),(5,.str v12),(8,mU [([116,97]:al),([116,98]:al),([116,99]:al),([116,100]:al)]),(9,I ([([116,97]:al),([116,98]:al),([116,99]:al),([116,100]:al)].length:Int)),(10,I n10),(14,mU [([99,112,117]:al),([100,101,118]:al)]),(15,I ([([99,112,117]:al),([100,101,118]:al)].length:Int)),(16,I n22)],[(br,.cells [du E3,I n26]),(IZ,Mg Eg)]⟩) ?_ ?_
     ·refine cB h J (fun h=>?_) (fun h=>?_)
      ·exact tR<|rM J J<|rM J J<|rM J J<|rM J J<|aD (xs:=([(1:Int),(1:Int),(2:Int),(4:Int)]).map I) J J J J J J<|au h fun vv e4 h=>aK J (cI e4) cR (.cons .p0 .nil) J J<|ae.qv (bn J J J J J) J<|aD (xs:=([(⟨v12,v23,vv.1⟩:aM)]).map aM.av) J J J J J J<|au h fun QF e5 h=>dt (g:=aM.av) J J J J J J J J (.list _) e5 (fun _=>.p1) J fun Si=>rA J J<|rN<|ab.stop<|ai.lq [0,0] ⟨Si,vv.2.L,vv.2.at_,QF,h,J⟩ J J
      ·exact tK<|ab.stop<|ai.lq [0,0] ⟨Bf,v24.2.L,v24.2.at_,wP,h,J⟩ J J
     ·rintro aE ⟨IZ,E3,n26,Eg,h,rfl⟩
      unfold jO at h
      refine ab.cF<|tR<|ae.qv (bd J J) J<|rM J J<|rN<|ab.stop<|?_
      cases h
      exact Dt _ _ J<|ai.lq [0,0] ⟨IZ,J⟩ J J
    ·refine ab.exit J<|have h:=bE h zv;ab.cF<|tR<|ae.qv (bd J J) J<|rM J J<|rN<|ab.stop<|?_
     cases h
     exact gH _ _ J<|ai.lq [0,0] ⟨Bf,J⟩ J J
  ·refine ab.exit J<|have h:=bE h df;?_
   unfold qa at h
   refine tS<|ax<|rM J J<|au h fun v32 e6 h=>aK J (ea e6) cR (.cons .p0 .nil) J J<|rN<|ab.cut (fun aE=>∃ (HQ:Bk) (FD:List Int) (n34:Int) (Dk:List aM),jQ FD n34 Dk=some r∧aE=⟨48,[(3,.sl 3 HQ 0 Dk.length)],[(br,.cells [du FD,I n34]),(HQ,Mg Dk)]⟩) ?_ ?_
   ·refine cB h J (fun h=>?_) (fun h=>?_)
    ·exact tR<|rM J J<|rM J J<|aD (xs:=([([116,97]:al),([110,111,110,101]:al),([116,100]:al)]).map AV.str) J J J J J J<|au h fun v37 e7 h=>aK J (bD e7) cR (.cons .p0 .nil) J J<|rM J J<|aD (xs:=([([122,122]:al),([]:al),([99,112,117]:al)]).map AV.str) J J J J J J<|au h fun J6 e8 h=>aK J (bD e8) cR (.cons .p0 .nil) J J<|rM J J<|au h fun v39 e9 h=>aK J (vI e9) cR (.cons .p0 .nil) J J<|ae.qv (bn J J J J J) J<|aD (xs:=([(⟨v37.1,J6.1,v39.1⟩:aM)]).map aM.av) J J J J J J<|au h fun HO zS h=>dt (g:=aM.av) J J J J J J J J (.list _) zS (fun _=>.p1) J fun Oo=>rA J J<|rN<|ab.stop<|ai.lq [0,0] ⟨Oo,v39.2.L,v39.2.at_,HO,h,J⟩ J J
    ·exact tK<|ab.stop<|ai.lq [0,0] ⟨b8,v32.2.L,v32.2.at_,l9,h,J⟩ J J
   ·rintro aE ⟨HQ,FD,n34,Dk,h,rfl⟩
    unfold jQ at h
    refine ax<|rM J J<|rA J J<|rN<|ab.ret<|?_
    cases h
    exact hH J [0,0] J ⟨HQ,J,J⟩
theorem uR [GI:bx] {aa:Int} {ah:Int} {bc:Int} {r:Bool} (h:ve aa ah bc=r):Pu Tryz.prog 76 [I aa,I ah,I bc] (.bool r):=by
 unfold ve at h
 refine aB.aS Tryz.func76 J Tryz.ntmps76 Tryz.results76 J J ?_
 refine ax<|rA J J<|rN<|tS<|ab.cut (fun aE=>∃ (c1:Bool),vF c1=r∧aE=⟨15,[(6,.bool c1)],[]⟩) ?_ ?_
 ·refine tR<|rM J J<|rM J J<|ae.qv (r8 J J) J<|rM J J<|ae.cN J J J (fun hc=>?_) (fun hc=>?_)
  ·rw [sK hc] at h
   exact rM J J<|rY J J J<|rM J J<|rY J J J<|ae.qv (r8 J J) J<|rT J J J<|rA J J<|rN<|ab.stop<|ai.lq [] ⟨decide (aa≤bc),h,J⟩ J J
  ·rw [sL hc] at h
   exact rG J J J J<|rG J J J J<|rE J J J<|rA J J<|rN<|ab.stop<|ai.lq [] ⟨false,h,J⟩ J J
 ·rintro aE ⟨c1,h,rfl⟩
  unfold vF at h
  refine ab.ret<|?_
  obtain rfl:=h
  exact hP J J
theorem qC {aa:al} {r:Bool} (h:tG aa=some r):Pu Tryz.prog 75 [.str aa] (.bool r):=by
 unfold tG at h
 refine aB.aS Tryz.func75 J Tryz.ntmps75 Tryz.results75 J J ?_
 refine ax<|rA J J<|rN<|tS<|ab.cut (fun aE=>∃ (c1:Bool),vf c1=some r∧aE=⟨17,[(2,.bool c1)],[]⟩) ?_ ?_
 ·refine tR<|rM J J<|ae.qv (fS J) J<|aG J (uR J) cR J<|rM J J<|ae.guard J J J (fun hc=>?_) (fun hc=>?_)
  ·refine have h:=lL hc h;rM J J<|rY J J J<|au h fun v2 e1 h=>aG J (Ce e1) cR J<|rY J J J<|ae.qv (iz J J) J<|rT J J J<|rM J J<|gT h J J J (fun h=>?_) (fun h=>?_)
   ·exact rM J J<|rY J J J<|au h fun c3 e2 h=>ae.qv (uh J J e2) J<|rY J J J<|aG J (xP J) cR J<|rY J J J<|ae.qv (tq J J) J<|rT J J J<|rA J J<|rN<|ab.stop<|ai.lq [] ⟨decide ((0:Int)≤(vD ([97,98,99,100,101,102,103,104,105,106,107,108,109,110,111,112,113,114,115,116,117,118,119,120,121,122]:al) (c3.toNat:Int))),h,J⟩ J J
   ·exact rG J J J J<|rG J J J J<|rG J J J J<|rE J J J<|rA J J<|rN<|ab.stop<|ai.lq [] ⟨false,h,J⟩ J J
  ·exact have h:=lM hc h;rG J J J J<|rG J J J J<|rE J J J<|rM J J<|rG J J J J<|rG J J J J<|rG J J J J<|rG J J J J<|rE J J J<|rA J J<|rN<|ab.stop<|ai.lq [] ⟨false,h,J⟩ J J
 ·rintro aE ⟨c1,h,rfl⟩
  unfold vf at h
  refine ab.ret<|?_
  cases h
  exact hP J J
theorem Bh [GI:bx] {aa:an} {ah:al} {r:Bool} (h:rQ aa ah=r):Pu Tryz.prog 182 [an.av aa,.mu [.str ah]] (.bool r):=by
 unfold rQ at h
 refine aB.aS Tryz.func182 J Tryz.ntmps182 Tryz.results182 J J ?_
 refine ax<|cm J J J J fun b1=>rA J J<|rN<|ax<|rF J J J<|rL J J .p0 J J<|ae.qv (aJ J J J) J<|ae.qv (iz J J) J<|rA J J<|rN<|ab.ret<|?_
 obtain rfl:=h
 exact hP J J
theorem qD [GI:bx] {aa:List an} {jz:an→Option Bool} {fP:FuncId} [bb Tryz.prog fP] {iT:List AV} (qW:∀ {y0:_} {u:Bool},jz y0=some u→Pu Tryz.prog fP (an.av y0 :: iT) (.bool u)) {r:Int} (h:fe aa jz=some r):Pu Tryz.prog 181 [y8 aa,.func (.func fP) iT] (I r):=by
 unfold fe at h
 refine aB.aS Tryz.func181 J Tryz.ntmps181 Tryz.results181 J J ?_
 refine ax<|rA J J<|rN<|tS<|ax<|rM J J<|ae.qv (bA J) J<|rM J J<|rN<|ab.block<|ab.cq (fun x:Int=>dU aa jz x) (fun x aE=>aE=⟨19,[(0,y8 aa),(1,.func (.func fP) iT),(7,I (aa.length:Int)),(8,I x)],[]⟩) h ?_ ?_
 ·exact ai.lq [] J J J
 ·intro n2 z1 aE J1 dN h gH df
  obtain rfl:=dN
  replace h:dU aa jz n2=some z1:=h
  unfold dU at h
  refine ax<|ae.qv (bG J J) J<|rN<|tS<|cD h J (fun h=>?_) (fun h=>?_)
  ·refine tK<|tS<|ab.block<|ax<|rM J J<|rA J J<|rN<|ax<|rM J J<|rM J J<|rM J J<|au h fun v3 e1 h=>ae.qv (aO J J J e1 J J) J<|ae.qv (aF J J J) J<|au h fun v4 e2 h=>pJ J J (qW e2) cR J<|rN<|cB h J (fun h=>?_) (fun h=>?_)
   ·refine ax<|rM J J<|rA J J<|rN<|ab.ret<|have h:=bE h df;?_
    cases h
    exact hP J J
   ·refine tK<|ab.cF<|tR<|ae.qv (bd J J) J<|rM J J<|rN<|ab.stop<|?_
    cases h
    exact gH _ _ J<|ai.lq [] J J J
  ·refine ab.exit J<|have h:=bE h df;ax<|rA J J<|rN<|ab.ret<|?_
   cases h
   exact hP J J
theorem gI [GI:bx] {aa:bu} {ah:al} {r:Int} (h:dP aa ah=some r):Pu Tryz.prog 103 [bu.av aa,.str ah] (I r):=by
 unfold dP at h
 refine aB.aS Tryz.func103 J Tryz.ntmps103 Tryz.results103 J J ?_
 refine ax<|cm J J J J fun b1=>cm J J J J fun b2=>rA J J<|rN<|ax<|rF J J J<|rL J J .p1 J J<|ae.qv (jk J) J<|au h fun v3 e1 h=>cO J (qD (fun e=>Bh (Option.some.inj e)) e1) (.cons (.co (.refl _)) (.cons (.tv _ _ _ (.cons (.C9 _ _ _ .p0 (.cons (.co (.refl _)) .nil)) .nil)) .nil)) J J<|rA J J<|rN<|ab.ret<|?_
 cases h
 exact hP J J
theorem sC [GI:bx] {aa:List al} {ah:al} {r:Int} (h:gr aa ah=some r):Pu Tryz.prog 183 [mU aa,.str ah] (I r):=by
 unfold gr at h
 refine aB.aS Tryz.func183 J Tryz.ntmps183 Tryz.results183 J J ?_
 refine ax<|rA J J<|rN<|tS<|ax<|rM J J<|ae.qv (bA J) J<|rM J J<|rN<|ab.block<|ab.cq (fun x:Int=>cY aa ah x) (fun x aE=>aE=⟨19,[(0,mU aa),(1,.str ah),(7,I (aa.length:Int)),(8,I x)],[]⟩) h ?_ ?_
 ·exact ai.lq [] J J J
 ·intro n2 z1 aE J1 dN h gH df
  obtain rfl:=dN
  replace h:cY aa ah n2=some z1:=h
  unfold cY at h
  refine ax<|ae.qv (bG J J) J<|rN<|tS<|cD h J (fun h=>?_) (fun h=>?_)
  ·refine tK<|tS<|ab.block<|ax<|rM J J<|rA J J<|rN<|ax<|rM J J<|rM J J<|rM J J<|au h fun v3 e1 h=>ae.qv (aO J J J e1 J J) J<|ae.qv (aJ J J J) J<|ae.qv (iz J J) J<|rN<|cD h J (fun h=>?_) (fun h=>?_)
   ·refine ax<|rM J J<|rA J J<|rN<|ab.ret<|have h:=bE h df;?_
    cases h
    exact hP J J
   ·refine tK<|ab.cF<|tR<|ae.qv (bd J J) J<|rM J J<|rN<|ab.stop<|?_
    cases h
    exact gH _ _ J<|ai.lq [] J J J
  ·refine ab.exit J<|have h:=bE h df;ax<|rA J J<|rN<|ab.ret<|?_
   cases h
   exact hP J J
theorem bt [GI:bx] {aa:List al} {ah:al} {r:Bool} (h:aT aa ah=some r):Pu Tryz.prog 104 [mU aa,.str ah] (.bool r):=by
 unfold aT at h
 refine aB.aS Tryz.func104 J Tryz.ntmps104 Tryz.results104 J J ?_
 refine ax<|rA J J<|rN<|ax<|rM J J<|rM J J<|au h fun v1 e1 h=>aG J (sC e1) cR J<|ae.qv (tq J J) J<|rA J J<|rN<|ab.ret<|?_
 cases h
 exact hP J J
theorem tT [GI:bx] {aa:bu} {ah:al} {r:(List al)} (h:oA aa ah=some r):Pu Tryz.prog 105 [bu.av aa,.str ah] (mU r):=by
 unfold oA at h
 refine aB.aS Tryz.func105 J Tryz.ntmps105 Tryz.results105 J J ?_
 refine ax<|cm J J J J fun b1=>rA J J<|rN<|ax<|rA J J<|rN<|tS<|ab.block<|ab.cq (fun x:al×(List al)=>ng aa x.1 x.2) (fun x aE=>∃ (b6:Bk),aE=⟨24,[(1,.str x.1),(2,.ptr b1 0),(5,.sl 1 b6 0 x.2.length)],[(b1,.cells (uE aa)),(b6,Be x.2)]⟩) h ?_ ?_
 ·exact ai.arr (s:=5) 1 J fun b8=>ai.lq [1,0] ⟨b8,J⟩ J J
 ·intro x z1 aE J1 dN h gH df
  obtain ⟨q5,l7⟩:=x
  obtain ⟨b6,rfl⟩:=dN
  replace h:ng aa q5 l7=some z1:=h
  unfold ng at h
  refine tS<|ax<|rM J J<|ae.qv (tt J J) J<|rN<|cD h J (fun h=>?_) (fun h=>?_)
  ·refine tK<|ab.block<|tS<|ax<|rM J J<|rM J J<|au h fun v9 e1 h=>cO J (bt e1) (.cons (qO.nL .p1) (.cons (.co (.refl _)) .nil)) J J<|rN<|cB h J (fun h=>?_) (fun h=>?_)
   ·refine ax<|rA J J<|rN<|ab.ret<|have h:=bE h df;?_
    cases h
    exact ai.co (s:=4) J (.nil 1)<|ai.here ⟨_,.cons (.tmp _ _ J) .nil,J⟩
   ·refine tK<|ax<|rM J J<|rM J J<|aD (xs:=([q5]:List al).map AV.str) J J J J J J<|au h fun l10 e2 h=>dt (g:=AV.str) J J J J J J J J (.list _) e2 (fun _=>.p1) J fun yn=>rA J J<|rN<|ab.cV (id:=6) (A:=[0,1,0,0,12,31,63,127,255]) 9 mixed J (by kernel_rfl) (by kernel_rfl)<|AM.qv (az J J) J<|AM.qv (aI J J .p0 J) J<|AM.qv (ao J J .p0 J) J<|AM.qv (aQ J) J<|au h fun v12 e3 h=>AM.gj J (gI e3) cR J<|au h fun oh e4 h=>AM.qv (aO J J J e4 J J) J<|AM.qv (cU J J) J<|AM.qv (aJ J J J) J<|AM.qv (bI J) J<|AM.nil<|rN<|ab.cF<|ab.stop<|?_
    cases h
    exact gH _ _ J<|ai.lq [0,0] ⟨yn,J⟩ J J
  ·refine ab.exit J<|have h:=bE h df;ax<|rM J J<|rA J J<|rN<|ab.ret<|?_
   cases h
   exact ai.freeze .p1<|ai.co (s:=4) J (Co.sx .p1)<|ai.here ⟨_,.cons (.tmp _ _ J) .nil,J⟩
theorem qE [GI:bx] {aa:bu} {ah:al} {r:(Option (List al))} (h:nM aa ah=some r):aB Tryz.prog 105 [bu.av aa,.str ah] [] (TM r (T0 ([]) (.nil)) (fun x=>T1 (fun iM=>[(iM,Be x)]) (fun iM=>.sl 1 iM 0 x.length))):=by
 unfold nM at h
 refine aB.dS ?_
 refine aB.aS Tryz.func105 J Tryz.ntmps105 Tryz.results105 J J ?_
 refine ax<|cm J J J J fun b1=>rA J J<|rN<|ax<|rA J J<|rN<|tS<|ab.block<|ab.cq (fun x:al×(List al)=>iH aa x.1 x.2) (fun x aE=>∃ (b6:Bk),aE=⟨24,[(1,.str x.1),(2,.ptr b1 0),(5,.sl 1 b6 0 x.2.length)],[(b1,.cells (uE aa)),(b6,Be x.2)]⟩) h ?_ ?_
 ·exact ai.arr (s:=5) 1 J fun b8=>ai.lq [1,0] ⟨b8,J⟩ J J
 ·intro x z1 aE J1 dN h gH df
  obtain ⟨q5,l7⟩:=x
  obtain ⟨b6,rfl⟩:=dN
  replace h:iH aa q5 l7=some z1:=h
  unfold iH at h
  refine tS<|ax<|rM J J<|ae.qv (tt J J) J<|rN<|cD h J (fun h=>?_) (fun h=>?_)
  ·refine tK<|ab.block<|tS<|ax<|rM J J<|rM J J<|au h fun v9 e1 h=>cO J (bt e1) (.cons (qO.nL .p1) (.cons (.co (.refl _)) .nil)) J J<|rN<|cB h J (fun h=>?_) (fun h=>?_)
   ·refine ax<|rA J J<|rN<|ab.ret<|have h:=bE h df;?_
    cases h
    exact hH J [] J ⟨J,J⟩
   ·refine tK<|ax<|rM J J<|rM J J<|aD (xs:=([q5]:List al).map AV.str) J J J J J J<|au h fun l10 e2 h=>dt (g:=AV.str) J J J J J J J J (.list _) e2 (fun _=>.p1) J fun yn=>rA J J<|rN<|ab.cV (id:=6) (A:=[0,1,0,0,12,31,63,127,255]) 9 mixed J (by kernel_rfl) (by kernel_rfl)<|AM.qv (az J J) J<|AM.qv (aI J J .p0 J) J<|AM.qv (ao J J .p0 J) J<|AM.qv (aQ J) J<|au h fun v12 e3 h=>AM.gj J (gI e3) cR J<|au h fun oh e4 h=>AM.qv (aO J J J e4 J J) J<|AM.qv (cU J J) J<|AM.qv (aJ J J J) J<|AM.qv (bI J) J<|AM.nil<|rN<|ab.cF<|ab.stop<|?_
    cases h
    exact gH _ _ J<|ai.lq [0,0] ⟨yn,J⟩ J J
  ·refine ab.exit J<|have h:=bE h df;ax<|rM J J<|rA J J<|rN<|ab.ret<|?_
   cases h
   exact hH J [1] J ⟨b6,J,J⟩
theorem zU {aa:bu} {r:Int} (h:nh aa=some r):Pu Tryz.prog 101 [bu.av aa] (I r):=by
 unfold nh at h
 refine aB.aS Tryz.func101 J Tryz.ntmps101 Tryz.results101 J J ?_
 refine ax<|cm J J J J fun b1=>rA J J<|rN<|tS<|ax<|rF J J J<|rL J J .p0 J J<|ae.qv (bA J) J<|ae.qv (fO J J) J<|rN<|cD h J (fun h=>?_) (fun h=>?_)
 ·refine ax<|rA J J<|rN<|ab.ret<|?_
  cases h
  exact hP J J
 ·refine tK<|tS<|ax<|rF J J J<|rL J J .p0 J J<|ae.qv (bA J) J<|rM J J<|rN<|ab.block<|ab.cq (fun x:Int=>jT aa x) (fun x aE=>aE=⟨87,[(1,.ptr b1 0),(16,y8 aa.ak),(17,I (aa.ak.length:Int)),(18,I x)],[(b1,.cells (uE aa))]⟩) h ?_ ?_
  ·exact ai.lq [0] J J J
  ·intro n3 z1 aE J1 dN h gH df
   obtain rfl:=dN
   replace h:jT aa n3=some z1:=h
   unfold jT at h
   refine ax<|ae.qv (bG J J) J<|rN<|tS<|cD h J (fun h=>?_) (fun h=>?_)
   ·refine tK<|tS<|ab.block<|ax<|rM J J<|au h fun v4 e1 h=>ae.qv (aO J J J e1 J J) J<|ae.qv (aF J J J) J<|bf J J J J fun b5=>rA J J<|aq J J J J .p0 J J<|rN<|tS<|ax<|rF J J J<|rL J J .p0 J J<|au h fun v6 e2 h=>aG J (qC e2) cR J<|ae.qv (bX J) J<|rN<|cB h J (fun h=>?_) (fun h=>?_)
    ·refine ax<|rA J J<|rN<|ab.ret<|have h:=bE h df;?_
     cases h
     exact hP J J
    ·refine tK<|tS<|ab.cut (fun aE=>∃ (c7:Bool),gu n3 c7=some z1∧aE=⟨87,[(1,.ptr b1 0),(16,y8 aa.ak),(17,I (aa.ak.length:Int)),(18,I n3),(40,.bool c7)],[(b1,.cells (uE aa))]⟩) ?_ ?_
     ·refine ab.cV (id:=8) (A:=[0,1,3,7,15,7,39,7,135,487,999,2023,4095,8191]) 14 mixed J (by kernel_rfl) (by kernel_rfl)<|AM.qv (aQ J) J<|AM.qv (fO J J) J<|AM.qv (aQ J) J<|AM.cN J J J (fun hc=>?_) (fun hc=>?_)
      ·exact have h:=lL hc h;AM.qv (az J J) J<|AM.ar J J J<|AM.qv (aI J J .p0 J) J<|AM.ar J J J<|AM.qv (az J J) J<|AM.ar J J J<|AM.qv (aI J J .p1 J) J<|AM.ar J J J<|AM.qv (aQ J) J<|AM.ar J J J<|AM.qv (gi J J) J<|AM.ar J J J<|au h fun v8 e3 h=>AM.qv (aO J J J e3 J J) J<|AM.ar J J J<|AM.qv (cU J J) J<|AM.ar J J J<|AM.qv (aJ J J J) J<|AM.ar J J J<|AM.qv (wI J J) J<|AM.qv (kS J J) J<|AM.nil<|rN<|ab.stop<|ai.lq [1] ⟨Op.bytesLess v4.Key v8.Key||v4.Key==v8.Key,h,J⟩ J J
      ·exact have h:=zI hc h;AM.ay J J J J<|AM.ay J J J J<|AM.ay J J J J<|AM.ay J J J J<|AM.ay J J J J<|AM.ay J J J J<|AM.ay J J J J<|AM.ay J J J J<|AM.ay J J J J<|AM.qv (kT J J) J<|AM.nil<|rN<|ab.stop<|ai.lq [1] ⟨false,h,J⟩ J J
     ·rintro aE ⟨c7,h,rfl⟩
      unfold gu at h
      refine cB h J (fun h=>?_) (fun h=>?_)
      ·refine ax<|rA J J<|rN<|ab.ret<|have h:=bE h df;?_
       cases h
       exact hP J J
      ·refine tK<|ab.cF<|tR<|ae.qv (bd J J) J<|rM J J<|rN<|ab.stop<|?_
       cases h
       exact gH _ _ J<|ai.lq [0] J J J
   ·refine ab.exit J<|have h:=bE h df;tS<|ax<|rF J J J<|rL J J .p0 J J<|ae.qv (bA J) J<|rM J J<|rN<|ab.block<|ab.cq (fun x:Int=>jS aa x) (fun x aE=>aE=⟨87,[(1,.ptr b1 0),(43,y8 aa.ak),(44,I (aa.ak.length:Int)),(45,I x)],[(b1,.cells (uE aa))]⟩) h ?_ ?_
    ·exact ai.lq [0] J J J
    ·intro n10 z2 aE J2 dN h Dt zv
     obtain rfl:=dN
     replace h:jS aa n10=some z2:=h
     unfold jS at h
     refine ax<|ae.qv (bG J J) J<|rN<|tS<|cD h J (fun h=>?_) (fun h=>?_)
     ·refine tK<|tS<|ab.block<|ax<|au h fun v11 e4 h=>ae.qv (aO J J J e4 J J) J<|ae.qv (aF J J J) J<|bf J J J J fun TC=>aq J J J J .p0 J J<|rN<|tS<|ab.cut (fun aE=>∃ (Bc:Bool),gw n10 Bc=some z2∧aE=⟨87,[(1,.ptr b1 0),(43,y8 aa.ak),(44,I (aa.ak.length:Int)),(45,I n10),(58,.bool Bc)],[(b1,.cells (uE aa))]⟩) ?_ ?_
      ·refine tR<|rF J J J<|rL J J .p0 J J<|ae.qv (tt J J) J<|rM J J<|gT h J J J (fun h=>?_) (fun h=>?_)
       ·exact ae.qv (ao J J .p1 J) J<|rY J J J<|rF J J J<|rY J J J<|rL J J .p0 J J<|rY J J J<|au h fun xy e5 h=>aG J (gI e5) cR J<|rY J J J<|ae.qv (bG J J) J<|rT J J J<|rN<|ab.stop<|ai.lq [1] ⟨decide (xy < (0:Int)),h,J⟩ J J
       ·exact rG J J J J<|rG J J J J<|rG J J J J<|rG J J J J<|rE J J J<|rN<|ab.stop<|ai.lq [1] ⟨false,h,J⟩ J J
      ·rintro aE ⟨Bc,h,rfl⟩
       unfold gw at h
       refine cB h J (fun h=>?_) (fun h=>?_)
       ·refine ax<|rA J J<|rN<|ab.ret<|have h:=bE h zv;?_
        cases h
        exact hP J J
       ·refine tK<|ab.cF<|tR<|ae.qv (bd J J) J<|rM J J<|rN<|ab.stop<|?_
        cases h
        exact Dt _ _ J<|ai.lq [0] J J J
     ·refine ab.exit J<|have h:=bE h zv;tS<|ax<|rF J J J<|rL J J .p0 J J<|ae.qv (bA J) J<|rM J J<|rN<|ab.block<|ab.cq (fun x:Int=>ef aa x) (fun x aE=>aE=⟨87,[(1,.ptr b1 0),(61,y8 aa.ak),(62,I (aa.ak.length:Int)),(63,I x)],[(b1,.cells (uE aa))]⟩) h ?_ ?_
      ·exact ai.lq [0] J J J
      ·intro n16 z3 aE J3 dN h Om Mj
       obtain rfl:=dN
       replace h:ef aa n16=some z3:=h
       unfold ef at h
       refine ax<|ae.qv (bG J J) J<|rN<|tS<|cD h J (fun h=>?_) (fun h=>?_)
       ·refine tK<|tS<|ab.block<|ax<|au h fun v17 e6 h=>ae.qv (aO J J J e6 J J) J<|ae.qv (aF J J J) J<|bf J J J J fun KM=>aq J J J J .p0 J J<|rN<|ax<|ae.qv (ao J J .p1 J) J<|rF J J J<|rL J J .p0 J J<|au h fun iV e7 h=>B6 h (fun e8 h=>?_) (fun WG e8 h=>?_)
        ·refine have W2:=pS e8 (qE e7);aK J W2 cR .nil J J<|ae.qv (LW J J) J<|rN<|ab.zD J<|ax<|rA J J<|rN<|ab.ret<|have h:=bE h Mj;?_
         cases h
         exact hP J J
        ·refine have W3:=pT e8 (qE e7);de J W3 cR .nil (fun _=>J) J fun Vq=>au h fun v22 e9 h=>ae.qv (LX (l:=WG) J J e9) J<|rN<|ab.EI J<|tK<|ab.cF<|tR<|ae.qv (bd J J) J<|rM J J<|rN<|ab.stop<|?_
         cases h
         exact Om _ _ J<|ai.lq [2] J J J
       ·refine ab.exit J<|have h:=bE h Mj;tS<|ax<|rF J J J<|rL J J .p0 J J<|ae.qv (bA J) J<|rM J J<|rN<|ab.block<|ab.cq (fun x:Int=>gx aa x) (fun x aE=>aE=⟨87,[(1,.ptr b1 0),(74,y8 aa.ak),(75,I (aa.ak.length:Int)),(76,I x)],[(b1,.cells (uE aa))]⟩) h ?_ ?_
        ·exact ai.lq [0] J J J
        ·intro n24 z4 aE J4 dN h WU Vg
         obtain rfl:=dN
         replace h:gx aa n24=some z4:=h
         unfold gx at h
         refine ax<|ae.qv (bG J J) J<|rN<|tS<|cD h J (fun h=>?_) (fun h=>?_)
         ·refine tK<|tS<|ab.block<|ax<|au h fun v25 zS h=>ae.qv (aO J J J zS J J) J<|ae.qv (aF J J J) J<|bf J J J J fun FF=>aq J J J J .p0 J J<|rN<|ax<|ae.qv (ao J J .p1 J) J<|rF J J J<|rL J J .p0 J J<|au h fun zu E8 h=>aG J (tT E8) cR J<|ae.qv (bA J) J<|ae.qv (fO J J) J<|rN<|cD h J (fun h=>?_) (fun h=>?_)
          ·refine ax<|rA J J<|rN<|ab.ret<|have h:=bE h Vg;?_
           cases h
           exact hP J J
          ·refine tK<|ab.cF<|tR<|ae.qv (bd J J) J<|rM J J<|rN<|ab.stop<|?_
           cases h
           exact WU _ _ J<|ai.lq [1] J J J
         ·refine ab.exit J<|have h:=bE h Vg;ax<|rA J J<|rN<|ab.ret<|?_
          cases h
          exact hP J J
theorem Bi {aa:al} {r:Bool} (h:mg aa=some r):Pu Tryz.prog 309 [.str aa] (.bool r):=by
 unfold mg at h
 refine aB.aS Tryz.func309 J Tryz.ntmps309 Tryz.results309 J J ?_
 refine ax<|rA J J<|rN<|ax<|rM J J<|au h fun v1 e1 h=>aG J (qC e1) cR J<|ae.qv (bX J) J<|rA J J<|rN<|ab.ret<|?_
 cases h
 exact hP J J
theorem qG [GI:bx] {aa:List al} {jz:al→Option Bool} {fP:FuncId} [bb Tryz.prog fP] {iT:List AV} (qW:∀ {y0:_} {u:Bool},jz y0=some u→Pu Tryz.prog fP (.str y0 :: iT) (.bool u)) {r:Int} (h:gX aa jz=some r):Pu Tryz.prog 261 [mU aa,.func (.func fP) iT] (I r):=by
 unfold gX at h
 refine aB.aS Tryz.func261 J Tryz.ntmps261 Tryz.results261 J J ?_
 refine ax<|rA J J<|rN<|tS<|ax<|rM J J<|ae.qv (bA J) J<|rM J J<|rN<|ab.block<|ab.cq (fun x:Int=>dV aa jz x) (fun x aE=>aE=⟨19,[(0,mU aa),(1,.func (.func fP) iT),(7,I (aa.length:Int)),(8,I x)],[]⟩) h ?_ ?_
 ·exact ai.lq [] J J J
 ·intro n2 z1 aE J1 dN h gH df
  obtain rfl:=dN
  replace h:dV aa jz n2=some z1:=h
  unfold dV at h
  refine ax<|ae.qv (bG J J) J<|rN<|tS<|cD h J (fun h=>?_) (fun h=>?_)
  ·refine tK<|tS<|ab.block<|ax<|rM J J<|rA J J<|rN<|ax<|rM J J<|rM J J<|rM J J<|au h fun v3 e1 h=>ae.qv (aO J J J e1 J J) J<|ae.qv (aJ J J J) J<|au h fun v4 e2 h=>pJ J J (qW e2) cR J<|rN<|cB h J (fun h=>?_) (fun h=>?_)
   ·refine ax<|rM J J<|rA J J<|rN<|ab.ret<|have h:=bE h df;?_
    cases h
    exact hP J J
   ·refine tK<|ab.cF<|tR<|ae.qv (bd J J) J<|rM J J<|rN<|ab.stop<|?_
    cases h
    exact gH _ _ J<|ai.lq [] J J J
  ·refine ab.exit J<|have h:=bE h df;ax<|rA J J<|rN<|ab.ret<|?_
   cases h
   exact hP J J
theorem cJ [GI:bx] {aa:List al} {jz:al→Option Bool} {fP:FuncId} [bb Tryz.prog fP] {iT:List AV} (qW:∀ {y0:_} {u:Bool},jz y0=some u→Pu Tryz.prog fP (.str y0 :: iT) (.bool u)) {r:Bool} (h:aZ aa jz=some r):Pu Tryz.prog 201 [mU aa,.func (.func fP) iT] (.bool r):=by
 unfold aZ at h
 refine aB.aS Tryz.func201 J Tryz.ntmps201 Tryz.results201 J J ?_
 refine ax<|rA J J<|rN<|ax<|rM J J<|rM J J<|au h fun v1 e1 h=>cO J (qG qW e1) (.cons (.co (.refl _)) (.cons (.co (.refl _)) .nil)) J J<|ae.qv (tq J J) J<|rA J J<|rN<|ab.ret<|?_
 cases h
 exact hP J J
theorem Fa {aa:al} {ah:Bool} {r:Bool} (h:tH aa ah=some r):Pu Tryz.prog 254 [.str aa,.bool ah] (.bool r):=by
 unfold tH at h
 refine aB.aS Tryz.func254 J Tryz.ntmps254 Tryz.results254 J J ?_
 refine ax<|rA J J<|rN<|ax<|rM J J<|au h fun v1 e1 h=>de J (sy e1) cR .nil (fun _=>J) J fun b2=>rA J J<|rN<|tS<|ax<|rM J J<|ae.qv (ot J) J<|ae.qv (gi J J) J<|rA J J<|rN<|tS<|ab.cut (fun aE=>∃ (c3:Bool),oC aa v1 c3=some r∧aE=⟨39,[(0,.str aa),(5,.sl 1 b2 0 v1.length),(6,I (cr ((v1.length:Int) - (1:Int)))),(20,.bool c3)],[(b2,Be v1)]⟩) ?_ ?_
 ·refine tR<|rM J J<|ae.qv (bX J) J<|rM J J<|ae.guard J J J (fun hc=>?_) (fun hc=>?_)
  ·exact have h:=lL hc h;rM J J<|rY J J J<|rM J J<|rY J J J<|au h fun v4 e2 h=>ae.qv (kE J J J e2) J<|rY J J J<|ae.qv (ui (g:=AV.str) J J (.inl .p0) e2 J) J<|rY J J J<|ae.qv (iz J J) J<|rT J J J<|rN<|ab.stop<|ai.lq [0] ⟨decide (v4=([42]:al)),h,J⟩ J J
  ·exact have h:=lM hc h;rG J J J J<|rG J J J J<|rG J J J J<|rG J J J J<|rE J J J<|rN<|ab.stop<|ai.lq [0] ⟨false,h,J⟩ J J
 ·rintro aE ⟨c3,h,rfl⟩
  unfold oC at h
  refine ab.cut (fun aE=>∃ (l5:List al),mh aa l5=some r∧aE=⟨39,[(0,.str aa),(5,.sl 1 b2 0 l5.length)],[(b2,Be l5)]⟩) ?_ ?_
  ·refine cB h J (fun h=>?_) (fun h=>?_)
   ·exact tR<|rM J J<|rM J J<|au h fun l6 e3 h=>ae.qv (tz J J .none (.some _ _ _ J) J J e3) J<|rA J J<|ae.ghost<|ai.LC e3 .p0<|ai.here<|rN<|ab.stop<|ai.lq [0] ⟨l6,h,J⟩ J J
   ·refine ax<|rM J J<|rM J J<|au h fun v7 e4 h=>ae.qv (kE J J J e4) J<|ae.qv (ui (g:=AV.str) J J (.inl .p0) e4 J) J<|au h fun v8 e5 h=>aG J (qC e5) cR J<|ae.qv (bX J) J<|rN<|cB h J (fun h=>?_) (fun h=>?_)
    ·refine ax<|rA J J<|rN<|ab.ret<|?_
     cases h
     exact hP J J
    ·exact tK<|ab.stop<|ai.lq [0] ⟨v1,h,J⟩ J J
  ·rintro aE ⟨l5,h,rfl⟩
   unfold mh at h
   refine tS<|ab.cut (fun aE=>∃ (c9:Bool),oB c9=some r∧aE=⟨39,[(4,.bool c9)],[]⟩) ?_ ?_
   ·refine tR<|rM J J<|au h fun v10 e6 h=>de J (sy e6) cR .nil (fun _=>J) J fun yn=>ae.qv (ot J) J<|ae.qv (r8 J J) J<|rM J J<|gT h J J J (fun h=>?_) (fun h=>?_)
    ·exact rM J J<|rY J J J<|au h fun v12 e7 h=>cO J (cJ (fun e=>Bi e) e7) (.cons (qO.nL .p1) (.cons (.tv _ _ _ .nil) .nil)) J J<|rY J J J<|ae.qv (bX J) J<|rT J J J<|rA J J<|rN<|ab.stop<|ai.lq [] ⟨!v12,h,J⟩ J J
    ·exact rG J J J J<|rG J J J J<|rE J J J<|rA J J<|rN<|ab.stop<|ai.lq [] ⟨false,h,J⟩ J J
   ·rintro aE ⟨c9,h,rfl⟩
    unfold oB at h
    refine ab.ret<|?_
    cases h
    exact hP J J
theorem Dw {aa:List al} {ah:Bool} {r:Int} (h:uv aa ah=some r):Pu Tryz.prog 187 [mU aa,.bool ah] (I r):=by
 unfold uv at h
 refine aB.aS Tryz.func187 J Tryz.ntmps187 Tryz.results187 J J ?_
 refine ax<|rA J J<|rN<|tS<|ax<|rM J J<|ae.qv (bA J) J<|rM J J<|rN<|ab.block<|ab.cq (fun x:Int=>jv aa ah x) (fun x aE=>aE=⟨30,[(0,mU aa),(1,.bool ah),(7,mU aa),(8,I (aa.length:Int)),(9,I x)],[]⟩) h ?_ ?_
 ·exact ai.lq [] J J J
 ·intro n2 z1 aE J1 dN h gH df
  obtain rfl:=dN
  replace h:jv aa ah n2=some z1:=h
  unfold jv at h
  refine ax<|ae.qv (bG J J) J<|rN<|tS<|cD h J (fun h=>?_) (fun h=>?_)
  ·refine tK<|tS<|ab.block<|ax<|rM J J<|au h fun v3 e1 h=>ae.qv (aO J J J e1 J J) J<|ae.qv (aJ J J J) J<|rA J J<|rA J J<|rN<|tS<|ax<|rM J J<|rM J J<|au h fun v4 e2 h=>aG J (Fa e2) cR J<|ae.qv (bX J) J<|rN<|cB h J (fun h=>?_) (fun h=>?_)
   ·refine ax<|rA J J<|rN<|ab.ret<|have h:=bE h df;?_
    cases h
    exact hP J J
   ·refine tK<|tS<|ab.cut (fun aE=>∃ (c5:Bool),ju n2 c5=some z1∧aE=⟨30,[(0,mU aa),(1,.bool ah),(7,mU aa),(8,I (aa.length:Int)),(9,I n2),(28,.bool c5)],[]⟩) ?_ ?_
    ·refine tR<|rM J J<|ae.qv (fO J J) J<|rM J J<|gT h J J J (fun h=>?_) (fun h=>?_)
     ·exact rM J J<|rY J J J<|rM J J<|rY J J J<|rM J J<|rY J J J<|ae.qv (gi J J) J<|rY J J J<|au h fun v6 e3 h=>ae.qv (aO J J J e3 J J) J<|rY J J J<|ae.qv (aJ J J J) J<|rY J J J<|ae.qv (wI J J) J<|rT J J J<|rN<|ab.stop<|ai.lq [] ⟨Op.bytesLess v3 v6||v3==v6,h,J⟩ J J
     ·exact rG J J J J<|rG J J J J<|rG J J J J<|rG J J J J<|rG J J J J<|rG J J J J<|rE J J J<|rN<|ab.stop<|ai.lq [] ⟨false,h,J⟩ J J
    ·rintro aE ⟨c5,h,rfl⟩
     unfold ju at h
     refine cB h J (fun h=>?_) (fun h=>?_)
     ·refine ax<|rA J J<|rN<|ab.ret<|have h:=bE h df;?_
      cases h
      exact hP J J
     ·refine tK<|ab.cF<|tR<|ae.qv (bd J J) J<|rM J J<|rN<|ab.stop<|?_
      cases h
      exact gH _ _ J<|ai.lq [] J J J
  ·refine ab.exit J<|have h:=bE h df;ax<|rA J J<|rN<|ab.ret<|?_
   cases h
   exact hP J J
theorem za {aa:List al} {r:Int} (h:ph aa=some r):Pu Tryz.prog 107 [mU aa] (I r):=by
 unfold ph at h
 refine aB.aS Tryz.func107 J Tryz.ntmps107 Tryz.results107 J J ?_
 refine ax<|rA J J<|rN<|tS<|ab.block<|ax<|rM J J<|ae.qv (bA J) J<|ae.qv (cL J J) J<|rA J J<|rN<|cD h J (fun h=>?_) (fun h=>?_)
 ·refine ax<|rA J J<|rN<|ab.ret<|?_
  cases h
  exact hP J J
 ·refine ax<|rM J J<|ae.qv (bA J) J<|ae.qv (fO J J) J<|rA J J<|rN<|cD h J (fun h=>?_) (fun h=>?_)
  ·refine ax<|rA J J<|rN<|ab.ret<|?_
   cases h
   exact hP J J
  ·refine tK<|ab.cF<|ax<|rM J J<|au h fun v1 e1 h=>aG J (Dw e1) cR J<|rA J J<|rN<|ab.ret<|?_
   cases h
   exact hP J J
theorem Dx [GI:bx] {aa:bF} {ah:al} {r:Bool} (h:uw aa ah=r):Pu Tryz.prog 250 [bF.av aa,.mu [.str ah]] (.bool r):=by
 unfold uw at h
 refine aB.aS Tryz.func250 J Tryz.ntmps250 Tryz.results250 J J ?_
 refine ax<|cm J J J J fun b1=>rA J J<|rN<|ax<|rF J J J<|rL J J .p0 J J<|ae.qv (aJ J J J) J<|ae.qv (iz J J) J<|rA J J<|rN<|ab.ret<|?_
 obtain rfl:=h
 exact hP J J
theorem sD [GI:bx] {aa:List bF} {jz:bF→Option Bool} {fP:FuncId} [bb Tryz.prog fP] {iT:List AV} (qW:∀ {y0:_} {u:Bool},jz y0=some u→Pu Tryz.prog fP (bF.av y0 :: iT) (.bool u)) {r:Int} (h:gy aa jz=some r):Pu Tryz.prog 249 [C3 aa,.func (.func fP) iT] (I r):=by
 unfold gy at h
 refine aB.aS Tryz.func249 J Tryz.ntmps249 Tryz.results249 J J ?_
 refine ax<|rA J J<|rN<|tS<|ax<|rM J J<|ae.qv (bA J) J<|rM J J<|rN<|ab.block<|ab.cq (fun x:Int=>fq aa jz x) (fun x aE=>aE=⟨19,[(0,C3 aa),(1,.func (.func fP) iT),(7,I (aa.length:Int)),(8,I x)],[]⟩) h ?_ ?_
 ·exact ai.lq [] J J J
 ·intro n2 z1 aE J1 dN h gH df
  obtain rfl:=dN
  replace h:fq aa jz n2=some z1:=h
  unfold fq at h
  refine ax<|ae.qv (bG J J) J<|rN<|tS<|cD h J (fun h=>?_) (fun h=>?_)
  ·refine tK<|tS<|ab.block<|ax<|rM J J<|rA J J<|rN<|ax<|rM J J<|rM J J<|rM J J<|au h fun v3 e1 h=>ae.qv (aO J J J e1 J J) J<|ae.qv (aF J J J) J<|au h fun v4 e2 h=>pJ J J (qW e2) cR J<|rN<|cB h J (fun h=>?_) (fun h=>?_)
   ·refine ax<|rM J J<|rA J J<|rN<|ab.ret<|have h:=bE h df;?_
    cases h
    exact hP J J
   ·refine tK<|ab.cF<|tR<|ae.qv (bd J J) J<|rM J J<|rN<|ab.stop<|?_
    cases h
    exact gH _ _ J<|ai.lq [] J J J
  ·refine ab.exit J<|have h:=bE h df;ax<|rA J J<|rN<|ab.ret<|?_
   cases h
   exact hP J J
theorem HR [GI:bx] {aa:bu} {ah:al} {r:Int} (h:wQ aa ah=some r):Pu Tryz.prog 180 [bu.av aa,.str ah] (I r):=by
 unfold wQ at h
 refine aB.aS Tryz.func180 J Tryz.ntmps180 Tryz.results180 J J ?_
 refine ax<|cm J J J J fun b1=>cm J J J J fun b2=>rA J J<|rN<|ax<|rF J J J<|rL J J .p1 J J<|ae.qv (jk J) J<|au h fun v3 e1 h=>cO J (sD (fun e=>Dx (Option.some.inj e)) e1) (.cons (.co (.refl _)) (.cons (.tv _ _ _ (.cons (.C9 _ _ _ .p0 (.cons (.co (.refl _)) .nil)) .nil)) .nil)) J J<|rA J J<|rN<|ab.ret<|?_
 cases h
 exact hP J J
theorem qH [GI:bx] {aa:List Int} {r:Int} (h:iI aa=some r):Pu Tryz.prog 83 [du aa] (I r):=by
 unfold iI at h
 refine aB.aS Tryz.func83 J Tryz.ntmps83 Tryz.results83 J J ?_
 refine ax<|rA J J<|rN<|ax<|rA J J<|rN<|tS<|ax<|rM J J<|ae.qv (bA J) J<|rM J J<|rN<|ab.block<|ab.cq (fun x:Int=>rR aa x) (fun x aE=>aE=⟨18,[(3,I (0:Int)),(6,du aa),(7,I (aa.length:Int)),(8,I x)],[]⟩) h ?_ ?_
 ·exact ai.lq [] J J J
 ·intro n2 z1 aE J1 dN h gH df
  obtain rfl:=dN
  replace h:rR aa n2=some z1:=h
  unfold rR at h
  refine ax<|ae.qv (bG J J) J<|rN<|tS<|cD h J (fun h=>?_) (fun h=>?_)
  ·refine tK<|tS<|ab.block<|ax<|au h fun v3 e1 h=>ae.qv (aO J J J e1 J J) J<|ae.qv (aJ J J J) J<|rA J J<|rN<|ax<|rM J J<|rM J J<|ae.qv (cG J J) J<|rN<|cD h J (fun h=>?_) (fun h=>?_)
   ·refine ax<|rM J J<|rA J J<|rN<|ab.ret<|have h:=bE h df;?_
    cases h
    exact hP J J
   ·refine tK<|ab.cF<|tR<|ae.qv (bd J J) J<|rM J J<|rN<|ab.stop<|?_
    cases h
    exact gH _ _ J<|ai.lq [] J J J
  ·refine ab.exit J<|have h:=bE h df;ax<|rM J J<|rA J J<|rN<|ab.ret<|?_
   cases h
   exact hP J J
theorem Cp {aa:bu} {r:Int} (h:qg aa=some r):Pu Tryz.prog 102 [bu.av aa] (I r):=by
 unfold qg at h
 refine aB.aS Tryz.func102 J Tryz.ntmps102 Tryz.results102 J J ?_
 refine ax<|cm J J J J fun b1=>rA J J<|rN<|tS<|ax<|rF J J J<|rL J J .p0 J J<|ae.qv (bA J) J<|ae.qv (fO J J) J<|rN<|cD h J (fun h=>?_) (fun h=>?_)
 ·refine ax<|rA J J<|rN<|ab.ret<|?_
  cases h
  exact hP J J
 ·refine tK<|tS<|ax<|rF J J J<|rL J J .p0 J J<|ae.qv (bA J) J<|rM J J<|rN<|ab.block<|ab.cq (fun x:Int=>gP aa x) (fun x aE=>aE=⟨114,[(1,.ptr b1 0),(13,C3 aa.ba),(14,I (aa.ba.length:Int)),(15,I x)],[(b1,.cells (uE aa))]⟩) h ?_ ?_
  ·exact ai.lq [0] J J J
  ·intro n3 z1 aE J1 dN h gH df
   obtain rfl:=dN
   replace h:gP aa n3=some z1:=h
   unfold gP at h
   refine ax<|ae.qv (bG J J) J<|rN<|tS<|cD h J (fun h=>?_) (fun h=>?_)
   ·refine tK<|tS<|ab.block<|ax<|rM J J<|au h fun v4 e1 h=>ae.qv (aO J J J e1 J J) J<|ae.qv (aF J J J) J<|bf J J J J fun b5=>rA J J<|aq J J J J .p0 J J<|rN<|tS<|ax<|rF J J J<|rL J J .p0 J J<|au h fun v6 e2 h=>aG J (qC e2) cR J<|ae.qv (bX J) J<|rN<|cB h J (fun h=>?_) (fun h=>?_)
    ·refine ax<|rA J J<|rN<|ab.ret<|have h:=bE h df;?_
     cases h
     exact hP J J
    ·refine tK<|tS<|tS<|ab.cut (fun aE=>∃ (c7:Bool),gO n3 v4 c7=some z1∧aE=⟨114,[(1,.ptr b1 0),(4,.ptr b5 0),(13,C3 aa.ba),(14,I (aa.ba.length:Int)),(15,I n3),(37,.bool c7)],[(b1,.cells (uE aa)),(b5,.cells [.str v4.Key,mU v4.mR])]⟩) ?_ ?_
     ·refine ab.cV (id:=8) (A:=[0,1,3,7,15,7,39,7,135,487,999,2023,4095,8191]) 14 mixed J (by kernel_rfl) (by kernel_rfl)<|AM.qv (aQ J) J<|AM.qv (fO J J) J<|AM.qv (aQ J) J<|AM.cN J J J (fun hc=>?_) (fun hc=>?_)
      ·exact have h:=lL hc h;AM.qv (az J J) J<|AM.ar J J J<|AM.qv (aI J J .p0 J) J<|AM.ar J J J<|AM.qv (az J J) J<|AM.ar J J J<|AM.qv (aI J J .p1 J) J<|AM.ar J J J<|AM.qv (aQ J) J<|AM.ar J J J<|AM.qv (gi J J) J<|AM.ar J J J<|au h fun v8 e3 h=>AM.qv (aO J J J e3 J J) J<|AM.ar J J J<|AM.qv (cU J J) J<|AM.ar J J J<|AM.qv (aJ J J J) J<|AM.ar J J J<|AM.qv (wI J J) J<|AM.qv (kS J J) J<|AM.nil<|rN<|ab.stop<|ai.lq [1,0] ⟨Op.bytesLess v4.Key v8.Key||v4.Key==v8.Key,h,J⟩ J J
      ·exact have h:=zI hc h;AM.ay J J J J<|AM.ay J J J J<|AM.ay J J J J<|AM.ay J J J J<|AM.ay J J J J<|AM.ay J J J J<|AM.ay J J J J<|AM.ay J J J J<|AM.ay J J J J<|AM.qv (kT J J) J<|AM.nil<|rN<|ab.stop<|ai.lq [1,0] ⟨false,h,J⟩ J J
     ·rintro aE ⟨c7,h,rfl⟩
      unfold gO at h
      refine cB h J (fun h=>?_) (fun h=>?_)
      ·refine ax<|rA J J<|rN<|ab.ret<|have h:=bE h df;?_
       cases h
       exact hP J J
      ·refine tK<|ax<|rF J J J<|rL J J .p1 J J<|au h fun v9 e4 h=>aG J (za e4) cR J<|rA J J<|rN<|ax<|rM J J<|ae.qv (cG J J) J<|rN<|cD h J (fun h=>?_) (fun h=>?_)
       ·refine ax<|rM J J<|rA J J<|rN<|ab.ret<|have h:=bE h df;?_
        cases h
        exact hP J J
       ·refine tK<|ab.cF<|tR<|ae.qv (bd J J) J<|rM J J<|rN<|ab.stop<|?_
        cases h
        exact gH _ _ J<|ai.lq [0] J J J
   ·refine ab.exit J<|have h:=bE h df;?_
    unfold jE at h
    refine tS<|ax<|rF J J J<|rL J J .p0 J J<|ae.qv (bA J) J<|ae.qv (fO J J) J<|rN<|cD h J (fun h=>?_) (fun h=>?_)
    ·refine ax<|rA J J<|rN<|ab.ret<|?_
     cases h
     exact hP J J
    ·refine tK<|tS<|ax<|rF J J J<|rL J J .p0 J J<|ae.qv (bA J) J<|rM J J<|rN<|ab.block<|ab.cq (fun x:Int=>lS aa x) (fun x aE=>aE=⟨114,[(1,.ptr b1 0),(50,Dq aa.aL),(51,I (aa.aL.length:Int)),(52,I x)],[(b1,.cells (uE aa))]⟩) h ?_ ?_
     ·exact ai.lq [0] J J J
     ·intro n11 z2 aE J2 dN h Dt zv
      obtain rfl:=dN
      replace h:lS aa n11=some z2:=h
      unfold lS at h
      refine ax<|ae.qv (bG J J) J<|rN<|tS<|cD h J (fun h=>?_) (fun h=>?_)
      ·refine tK<|tS<|ab.block<|ax<|rM J J<|au h fun v12 e5 h=>ae.qv (aO J J J e5 J J) J<|ae.qv (aF J J J) J<|bf J J J J fun Dv=>rA J J<|aq J J J J .p0 J J<|rN<|ab.block<|ax<|rF J J J<|rL J J .p0 J J<|au h fun xy e6 h=>aG J (qC e6) cR J<|ae.qv (bX J) J<|rA J J<|rN<|cB h J (fun h=>?_) (fun h=>?_)
       ·refine ax<|rA J J<|rN<|ab.ret<|have h:=bE h zv;?_
        cases h
        exact hP J J
       ·refine tS<|ab.cut (fun aE=>∃ (KK:Bool),iJ aa n11 v12 KK=some z2∧aE=⟨114,[(1,.ptr b1 0),(6,I n11),(7,.ptr Dv 0),(50,Dq aa.aL),(51,I (aa.aL.length:Int)),(52,I n11),(62,.bool KK)],[(b1,.cells (uE aa)),(Dv,.cells [.str v12.vE,.str v12.an,.str v12.bF])]⟩) ?_ ?_
        ·refine tR<|ae.qv (ao J J .p1 J) J<|rF J J J<|rL J J .p0 J J<|au h fun uq e7 h=>aG J (gI e7) cR J<|ae.qv (bG J J) J<|rM J J<|gF h J J J (fun h=>?_) (fun h=>?_)
         ·exact ae.qv (ao J J .p1 J) J<|rY J J J<|rF J J J<|rY J J J<|rL J J .p0 J J<|rY J J J<|au h fun v17 e8 h=>aG J (HR e8) cR J<|rY J J J<|ae.qv (bG J J) J<|rE J J J<|rA J J<|rN<|ab.stop<|ai.lq [1,0] ⟨decide (v17 < (0:Int)),h,J⟩ J J
         ·exact rG J J J J<|rG J J J J<|rG J J J J<|rG J J J J<|rT J J J<|rA J J<|rN<|ab.stop<|ai.lq [1,0] ⟨true,h,J⟩ J J
        ·rintro aE ⟨KK,h,rfl⟩
         unfold iJ at h
         refine cB h J (fun h=>?_) (fun h=>?_)
         ·refine ax<|rA J J<|rN<|ab.ret<|have h:=bE h zv;?_
          cases h
          exact hP J J
         ·refine tS<|ab.cut (fun aE=>∃ (Me:Bool),o5 n11 Me=some z2∧aE=⟨114,[(1,.ptr b1 0),(50,Dq aa.aL),(51,I (aa.aL.length:Int)),(52,I n11),(75,.bool Me)],[(b1,.cells (uE aa))]⟩) ?_ ?_
          ·refine ab.cV (id:=23) (A:=[0,1,3,7,15,7,39,127,255,511,7,1031,4095,7,8199,7,32775,122887,253959,516103,7,1048583,4194303,7,8388615,7,33554439,125829127,260046855,528482311,7,1073741831,4294967295,8589934591,17179869183,34359738367,68719476735,137438953471]) 38 mixed J (by kernel_rfl) (by kernel_rfl)<|AM.qv (aQ J) J<|AM.qv (fO J J) J<|AM.qv (aQ J) J<|AM.cN J J J (fun hc=>?_) (fun hc=>?_)
           ·exact have h:=lL hc h;AM.qv (az J J) J<|AM.ar J J J<|AM.qv (aI J J .p0 J) J<|AM.ar J J J<|AM.qv (aQ J) J<|AM.ar J J J<|AM.qv (gi J J) J<|AM.ar J J J<|au h fun iV e9 h=>AM.qv (aO J J J e9 J J) J<|AM.ar J J J<|AM.qv (cU J J) J<|AM.ar J J J<|AM.qv (aJ J J J) J<|AM.ar J J J<|AM.qv (az J J) J<|AM.ar J J J<|AM.qv (aI J J .p1 J) J<|AM.ar J J J<|AM.gj J (cM J) cR J<|AM.ar J J J<|AM.qv (az J J) J<|AM.ar J J J<|AM.qv (aI J J .p0 J) J<|AM.ar J J J<|AM.qv (aQ J) J<|AM.ar J J J<|AM.qv (gi J J) J<|AM.ar J J J<|au h fun v20 zS h=>AM.qv (aO J J J zS J J) J<|AM.ar J J J<|AM.qv (cU J J) J<|AM.ar J J J<|AM.qv (aJ J J J) J<|AM.ar J J J<|AM.qv (az J J) J<|AM.ar J J J<|AM.qv (aI J J .p1 J) J<|AM.ar J J J<|AM.gj J (cM J) cR J<|AM.ar J J J<|AM.qv (az J J) J<|AM.ar J J J<|AM.qv (aI J J .p0 J) J<|AM.ar J J J<|AM.qv (aQ J) J<|AM.ar J J J<|AM.qv (gi J J) J<|AM.ar J J J<|au h fun v21 E8 h=>AM.qv (aO J J J E8 J J) J<|AM.ar J J J<|AM.qv (cU J J) J<|AM.ar J J J<|AM.qv (aJ J J J) J<|AM.ar J J J<|AM.qv (az J J) J<|AM.ar J J J<|AM.qv (aI J J .p1 J) J<|AM.ar J J J<|AM.gj J (cM J) cR J<|AM.ar J J J<|AM.bz (xs:=([(Lib.compareBytes iV.vE v12.vE),(Lib.compareBytes v20.an v12.an),(Lib.compareBytes v21.bF v12.bF)]:List Int).map I) J J J J J J<|AM.ar J J J<|au h fun v22 FE h=>AM.gj J (qH FE) cR J<|AM.ar J J J<|AM.qv (tq J J) J<|AM.qv (kS J J) J<|AM.qv (bI J) J<|AM.nil<|rN<|ab.stop<|ai.lq [0] ⟨decide ((0:Int)≤v22),h,J⟩ J J
           ·exact have h:=zI hc h;AM.ay J J J J<|AM.ay J J J J<|AM.ay J J J J<|AM.ay J J J J<|AM.ay J J J J<|AM.ay J J J J<|AM.ay J J J J<|AM.ay J J J J<|AM.ay J J J J<|AM.ay J J J J<|AM.ay J J J J<|AM.ay J J J J<|AM.ay J J J J<|AM.ay J J J J<|AM.ay J J J J<|AM.ay J J J J<|AM.ay J J J J<|AM.ay J J J J<|AM.ay J J J J<|AM.ay J J J J<|AM.ay J J J J<|AM.ay J J J J<|AM.ay J J J J<|AM.ay J J J J<|AM.ay J J J J<|AM.ay J J J J<|AM.ay J J J J<|AM.ay J J J J<|AM.ay J J J J<|AM.ay J J J J<|AM.ay J J J J<|AM.ay J J J J<|AM.qv (kT J J) J<|AM.qv (bI J) J<|AM.nil<|rN<|ab.stop<|ai.lq [0] ⟨false,h,J⟩ J J
          ·rintro aE ⟨Me,h,rfl⟩
           unfold o5 at h
           refine cB h J (fun h=>?_) (fun h=>?_)
           ·refine ax<|rA J J<|rN<|ab.ret<|have h:=bE h zv;?_
            cases h
            exact hP J J
           ·refine tK<|ab.cF<|ab.cF<|tR<|ae.qv (bd J J) J<|rM J J<|rN<|ab.stop<|?_
            cases h
            exact Dt _ _ J<|ai.lq [0] J J J
      ·refine ab.exit J<|have h:=bE h zv;ax<|rA J J<|rN<|ab.ret<|?_
       cases h
       exact hP J J
theorem Dy [GI:bx] {self:Query→Option (List Query)} (pn:∀ {aa:Query} {r:(List Query)},self aa=some r→aB Tryz.prog 184 [.agg [I aa.Kind,.str aa.Field,.str aa.Op,I aa.Value.Kind,.bool aa.Value.cf,I aa.Value.Number,.str aa.Value.Words,I aa.Version.bQ,I aa.Version.bR,I aa.Version.bN,lr aa.Kids]] [] (T1 (fun iM=>[(iM,Nc r)]) (fun iM=>.sl 11 iM 0 r.length))) {aa:Query} {r:(List Query)} (h:si self aa=some r):aB Tryz.prog 184 [.agg [I aa.Kind,.str aa.Field,.str aa.Op,I aa.Value.Kind,.bool aa.Value.cf,I aa.Value.Number,.str aa.Value.Words,I aa.Version.bQ,I aa.Version.bR,I aa.Version.bN,lr aa.Kids]] [] (T1 (fun iM=>[(iM,Nc r)]) (fun iM=>.sl 11 iM 0 r.length)):=by
 unfold si at h
 refine aB.dS ?_
 refine aB.aS Tryz.func184 J Tryz.ntmps184 Tryz.results184 J J ?_
 refine ax<|cm J J J J fun b1=>rA J J<|rN<|ax<|rA J J<|rN<|tS<|tS<|ab.cut (fun aE=>∃ (c2:Bool),ux self aa c2=some r∧aE=⟨31,[(1,.ptr b1 0),(3,.nil),(13,.bool c2)],[(b1,.cells (wX aa))]⟩) ?_ ?_
 ·refine tR<|rF J J J<|rL J J .p0 J J<|ae.qv (cL J J) J<|rM J J<|ae.fC J J J (fun hc=>?_) (fun hc=>?_)
  ·rw [zK hc] at h
   exact rF J J J<|rY J J J<|rL J J .p0 J J<|rY J J J<|ae.qv (cL J J) J<|rE J J J<|rN<|ab.stop<|ai.lq [0] ⟨decide (aa.Kind=(2:Int)),h,J⟩ J J
  ·rw [zJ hc] at h
   exact rG J J J J<|rG J J J J<|rT J J J<|rN<|ab.stop<|ai.lq [0] ⟨true,h,J⟩ J J
 ·rintro aE ⟨c2,h,rfl⟩
  unfold ux at h
  refine ab.cut (fun aE=>∃ (b3:Bk) (l4:List Query),sh self aa l4=some r∧aE=⟨31,[(1,.ptr b1 0),(3,.sl 11 b3 0 l4.length)],[(b1,.cells (wX aa)),(b3,Nc l4)]⟩) ?_ ?_
  ·refine cB h J (fun h=>?_) (fun h=>?_)
   ·exact tR<|rM J J<|ae.qv (ao J J .p0 J) J<|aD (xs:=([aa]:List Query).map Query.av) J (by simp only [List.map_cons,List.map_nil,Query.pV];rfl) J (by simp only [List.map_cons,List.map_nil,Query.pV];rfl) J J<|au h fun l5 e1 h=>Jv (g:=Query.av) J J J J J J J J (.list _) e1 fun b6=>rA J J<|rN<|ab.stop<|ai.lq [1,0] ⟨b6,l5,h,J⟩ J J
   ·exact tK<|ab.stop<|ai.arr (s:=3) 11 J fun b7=>ai.lq [1,0] ⟨b7,[],h,J⟩ J J
  ·rintro aE ⟨b3,l4,h,rfl⟩
   unfold sh at h
   refine tS<|ax<|rF J J J<|rL J J .p0 J J<|ae.qv (bA J) J<|rM J J<|rN<|ab.block<|ab.cq (fun x:(List Query)×Int=>jU self aa x.1 x.2) (fun x aE=>∃ (yn:Bk),aE=⟨31,[(3,.sl 11 yn 0 x.1.length),(19,lr aa.Kids),(20,I (aa.Kids.length:Int)),(21,I x.2)],[(yn,Nc x.1)]⟩) h ?_ ?_
   ·exact ai.lq [1] ⟨b3,J⟩ J J
   ·intro x z1 aE J1 dN h gH df
    obtain ⟨zQ,n13⟩:=x
    obtain ⟨yn,rfl⟩:=dN
    replace h:jU self aa zQ n13=some z1:=h
    unfold jU at h
    refine ax<|ae.qv (bG J J) J<|rN<|tS<|cD h J (fun h=>?_) (fun h=>?_)
    ·refine tK<|tS<|ab.block<|ax<|au h fun xy e2 h=>ae.qv (aO J J J e2 J (by rw [Query.pV];rfl)) J<|ae.qv (aF J J J) J<|bf J J J J fun On=>aq J J J J .p0 J J<|rN<|tR<|rM J J<|ae.qv (ao J J .p0 J) J<|au h fun uq e3 h=>de J (pn e3) cR .nil (fun _=>J) J fun I0=>au h fun wu e4 h=>dt (g:=Query.av) J J J J J J J J (Ju (.inl .p0) J) e4 (fun _=>.p2) J fun QP=>rA J J<|rN<|ab.cF<|tR<|ae.qv (bd J J) J<|rM J J<|rN<|ab.stop<|?_
     cases h
     exact gH _ _ J<|ai.lq [2] ⟨QP,J⟩ J J
    ·refine ab.exit J<|have h:=bE h df;ax<|rM J J<|rA J J<|rN<|ab.ret<|?_
     cases h
     exact hH J [0] J ⟨yn,J,J⟩
theorem Fb [GI:bx]:∀ (k:Nat) {aa:Query} {r:(List Query)},kF k aa=some r→aB Tryz.prog 184 [.agg [I aa.Kind,.str aa.Field,.str aa.Op,I aa.Value.Kind,.bool aa.Value.cf,I aa.Value.Number,.str aa.Value.Words,I aa.Version.bQ,I aa.Version.bR,I aa.Version.bN,lr aa.Kids]] [] (T1 (fun iM=>[(iM,Nc r)]) (fun iM=>.sl 11 iM 0 r.length)):=by
 intro k
 induction k with
 | zero=>intro aa r h;cases h
 | succ k ih=>intro aa r h;exact Dy ih h
theorem HT [GI:bx] {aa:Query} {r:(List Query)} (h:Cg aa=some r):aB Tryz.prog 184 [.agg [I aa.Kind,.str aa.Field,.str aa.Op,I aa.Value.Kind,.bool aa.Value.cf,I aa.Value.Number,.str aa.Value.Words,I aa.Version.bQ,I aa.Version.bR,I aa.Version.bN,lr aa.Kids]] [] (T1 (fun iM=>[(iM,Nc r)]) (fun iM=>.sl 11 iM 0 r.length)):=Fb depth h
theorem GD [GI:bx] {self:Query→Option Int} (pn:∀ {aa:Query} {r:Int},self aa=some r→Pu Tryz.prog 185 [.agg [I aa.Kind,.str aa.Field,.str aa.Op,I aa.Value.Kind,.bool aa.Value.cf,I aa.Value.Number,.str aa.Value.Words,I aa.Version.bQ,I aa.Version.bR,I aa.Version.bN,lr aa.Kids]] (I r)) {aa:Query} {r:Int} (h:vg self aa=some r):Pu Tryz.prog 185 [.agg [I aa.Kind,.str aa.Field,.str aa.Op,I aa.Value.Kind,.bool aa.Value.cf,I aa.Value.Number,.str aa.Value.Words,I aa.Version.bQ,I aa.Version.bR,I aa.Version.bN,lr aa.Kids]] (I r):=by
 unfold vg at h
 refine aB.aS Tryz.func185 J Tryz.ntmps185 Tryz.results185 J J ?_
 refine ax<|cm J J J J fun b1=>rA J J<|rN<|ax<|rA J J<|rN<|tS<|ax<|rF J J J<|rL J J .p0 J J<|ae.qv (bA J) J<|rM J J<|rN<|ab.block<|ab.cq (fun x:Int×Int=>nN self aa x.1 x.2) (fun x aE=>aE=⟨20,[(3,I x.1),(7,lr aa.Kids),(8,I (aa.Kids.length:Int)),(9,I x.2)],[]⟩) h ?_ ?_
 ·exact ai.lq [] J J J
 ·intro x z1 aE J1 dN h gH df
  obtain ⟨n4,n5⟩:=x
  obtain rfl:=dN
  replace h:nN self aa n4 n5=some z1:=h
  unfold nN at h
  refine ax<|ae.qv (bG J J) J<|rN<|tS<|cD h J (fun h=>?_) (fun h=>?_)
  ·refine tK<|tS<|ab.block<|ax<|au h fun v6 e1 h=>ae.qv (aO J J J e1 J (by rw [Query.pV];rfl)) J<|ae.qv (aF J J J) J<|bf J J J J fun b7=>aq J J J J .p0 J J<|rN<|tR<|rM J J<|ae.qv (ao J J .p0 J) J<|au h fun v8 e2 h=>aG J (pn e2) cR J<|ae.qv (Is J J) J<|rA J J<|rN<|ab.cF<|tR<|ae.qv (bd J J) J<|rM J J<|rN<|ab.stop<|?_
   cases h
   exact gH _ _ J<|ai.lq [] J J J
  ·refine ab.exit J<|have h:=bE h df;ax<|rM J J<|ae.qv (bd J J) J<|rA J J<|rN<|ab.ret<|?_
   cases h
   exact hP J J
theorem HU [GI:bx]:∀ (k:Nat) {aa:Query} {r:Int},qh k aa=some r→Pu Tryz.prog 185 [.agg [I aa.Kind,.str aa.Field,.str aa.Op,I aa.Value.Kind,.bool aa.Value.cf,I aa.Value.Number,.str aa.Value.Words,I aa.Version.bQ,I aa.Version.bR,I aa.Version.bN,lr aa.Kids]] (I r):=by
 intro k
 induction k with
 | zero=>intro aa r h;cases h
 | succ k ih=>intro aa r h;exact GD ih h
theorem Mk [GI:bx] {aa:Query} {r:Int} (h:HP aa=some r):Pu Tryz.prog 185 [.agg [I aa.Kind,.str aa.Field,.str aa.Op,I aa.Value.Kind,.bool aa.Value.cf,I aa.Value.Number,.str aa.Value.Words,I aa.Version.bQ,I aa.Version.bR,I aa.Version.bN,lr aa.Kids]] (I r):=HU depth h
theorem Bj [GI:bx] {aa:Query} {ah:Query} {r:Bool} (h:rS aa ah=r):Pu Tryz.prog 252 [.agg [I aa.Kind,.str aa.Field,.str aa.Op,I aa.Value.Kind,.bool aa.Value.cf,I aa.Value.Number,.str aa.Value.Words,I aa.Version.bQ,I aa.Version.bR,I aa.Version.bN,lr aa.Kids],.mu [I ah.Kind,.str ah.Field,.str ah.Op,I ah.Value.Kind,.bool ah.Value.cf,I ah.Value.Number,.str ah.Value.Words,I ah.Version.bQ,I ah.Version.bR,I ah.Version.bN,lr ah.Kids]] (.bool r):=by
 unfold rS at h
 refine aB.aS Tryz.func252 J Tryz.ntmps252 Tryz.results252 J J ?_
 refine ax<|cm J J J J fun b1=>rA J J<|rN<|ax<|rF J J J<|rL J J .p0 J J<|ae.qv (cU J J) J<|ae.qv (aJ J J J) J<|ae.qv (cL J J) J<|rA J J<|rN<|ab.ret<|?_
 obtain rfl:=h
 exact hP J J
theorem rn [GI:bx] {aa:List Query} {jz:Query→Option Bool} {fP:FuncId} [bb Tryz.prog fP] {iT:List AV} (qW:∀ {y0:_} {u:Bool},jz y0=some u→Pu Tryz.prog fP (.agg [I y0.Kind,.str y0.Field,.str y0.Op,I y0.Value.Kind,.bool y0.Value.cf,I y0.Value.Number,.str y0.Value.Words,I y0.Version.bQ,I y0.Version.bR,I y0.Version.bN,lr y0.Kids] :: iT) (.bool u)) {r:Int} (h:iK aa jz=some r):Pu Tryz.prog 304 [lr aa,.func (.func fP) iT] (I r):=by
 unfold iK at h
 refine aB.aS Tryz.func304 J Tryz.ntmps304 Tryz.results304 J J ?_
 refine ax<|rA J J<|rN<|tS<|ax<|rM J J<|ae.qv (bA J) J<|rM J J<|rN<|ab.block<|ab.cq (fun x:Int=>eJ aa jz x) (fun x aE=>aE=⟨19,[(0,lr aa),(1,.func (.func fP) iT),(7,I (aa.length:Int)),(8,I x)],[]⟩) h ?_ ?_
 ·exact ai.lq [] J J J
 ·intro n2 z1 aE J1 dN h gH df
  obtain rfl:=dN
  replace h:eJ aa jz n2=some z1:=h
  unfold eJ at h
  refine ax<|ae.qv (bG J J) J<|rN<|tS<|cD h J (fun h=>?_) (fun h=>?_)
  ·refine tK<|tS<|ab.block<|ax<|rM J J<|rA J J<|rN<|ax<|rM J J<|rM J J<|rM J J<|au h fun v3 e1 h=>ae.qv (aO J J J e1 J (by rw [Query.pV];rfl)) J<|ae.qv (aF J J J) J<|au h fun v4 e2 h=>pJ J J (qW e2) cR J<|rN<|cB h J (fun h=>?_) (fun h=>?_)
   ·refine ax<|rM J J<|rA J J<|rN<|ab.ret<|have h:=bE h df;?_
    cases h
    exact hP J J
   ·refine tK<|ab.cF<|tR<|ae.qv (bd J J) J<|rM J J<|rN<|ab.stop<|?_
    cases h
    exact gH _ _ J<|ai.lq [] J J J
  ·refine ab.exit J<|have h:=bE h df;ax<|rA J J<|rN<|ab.ret<|?_
   cases h
   exact hP J J
theorem jB [GI:bx] {aa:List Query} {jz:Query→Option Bool} {fP:FuncId} [bb Tryz.prog fP] {iT:List AV} (qW:∀ {y0:_} {u:Bool},jz y0=some u→Pu Tryz.prog fP (.agg [I y0.Kind,.str y0.Field,.str y0.Op,I y0.Value.Kind,.bool y0.Value.cf,I y0.Value.Number,.str y0.Value.Words,I y0.Version.bQ,I y0.Version.bR,I y0.Version.bN,lr y0.Kids] :: iT) (.bool u)) {r:Bool} (h:cA aa jz=some r):Pu Tryz.prog 251 [lr aa,.func (.func fP) iT] (.bool r):=by
 unfold cA at h
 refine aB.aS Tryz.func251 J Tryz.ntmps251 Tryz.results251 J J ?_
 refine ax<|rA J J<|rN<|ax<|rM J J<|rM J J<|au h fun v1 e1 h=>cO J (rn qW e1) (.cons (.co (.refl _)) (.cons (.co (.refl _)) .nil)) J J<|ae.qv (tq J J) J<|rA J J<|rN<|ab.ret<|?_
 cases h
 exact hP J J
theorem ku [GI:bx] {aa:al} {ah:al} {r:Bool} (h:cK aa ah=some r):Pu Tryz.prog 337 [.str aa,.str ah] (.bool r):=by
 unfold cK at h
 refine aB.aS Tryz.func337 J Tryz.ntmps337 Tryz.results337 J J ?_
 refine ax<|rA J J<|rN<|tS<|ab.cut (fun aE=>∃ (c1:Bool),db c1=some r∧aE=⟨18,[(4,.bool c1)],[]⟩) ?_ ?_
 ·refine tR<|rM J J<|ae.qv (fS J) J<|rM J J<|ae.qv (fS J) J<|ae.qv (tq J J) J<|rM J J<|gT h J J J (fun h=>?_) (fun h=>?_)
  ·exact rM J J<|rY J J J<|rM J J<|rY J J J<|ae.qv (fS J) J<|rY J J J<|au h fun l2 e1 h=>ae.qv (uj J .none (.some _ _ _ J) J J e1) J<|rY J J J<|rM J J<|rY J J J<|ae.qv (iz J J) J<|rT J J J<|rA J J<|rN<|ab.stop<|ai.lq [] ⟨decide (l2=ah),h,J⟩ J J
  ·exact rG J J J J<|rG J J J J<|rG J J J J<|rG J J J J<|rG J J J J<|rE J J J<|rA J J<|rN<|ab.stop<|ai.lq [] ⟨false,h,J⟩ J J
 ·rintro aE ⟨c1,h,rfl⟩
  unfold db at h
  refine ab.ret<|?_
  cases h
  exact hP J J
theorem qI [GI:bx] {aa:al} {ah:al} {r:al×Bool} (h:ff aa ah=some r):Pu Tryz.prog 354 [.str aa,.str ah] (.om [.str r.1,.bool r.2]):=by
 unfold ff at h
 refine aB.aS Tryz.func354 J Tryz.ntmps354 Tryz.results354 J J ?_
 refine ax<|rA J J<|rA J J<|rN<|tS<|ax<|rM J J<|rM J J<|au h fun v1 e1 h=>aG J (ku e1) cR J<|ae.qv (bX J) J<|rN<|cB h J (fun h=>?_) (fun h=>?_)
 ·refine ax<|rM J J<|rA J J<|rA J J<|rN<|ab.ret<|?_
  cases h
  exact hQ J J J
 ·refine tK<|ax<|rM J J<|rM J J<|ae.qv (fS J) J<|au h fun l2 e2 h=>ae.qv (uj J (.some _ _ _ J) .none J J e2) J<|rA J J<|rA J J<|rN<|ab.ret<|?_
  cases h
  exact hQ J J J
theorem kQ [GI:bx] {aa:al} {ah:al} {r:al×Bool} (h:strings_CutPrefix aa ah=some r):Pu Tryz.prog 334 [.str aa,.str ah] (.om [.str r.1,.bool r.2]):=by
 unfold strings_CutPrefix at h
 refine aB.aS Tryz.func334 J Tryz.ntmps334 Tryz.results334 J J ?_
 refine ax<|rA J J<|rA J J<|rN<|ax<|rM J J<|rM J J<|au h fun v1 e1 h=>aG J (qI e1) cR J<|rX J J J<|rX J J J<|rA J J<|rA J J<|rN<|ab.ret<|?_
 cases h
 exact hQ J J J
theorem Bl {aa:al} {r:Bool} (h:oD aa=some r):Pu Tryz.prog 355 [.str aa] (.bool r):=by
 unfold oD at h
 refine aB.aS Tryz.func355 J Tryz.ntmps355 Tryz.results355 J J ?_
 refine ax<|rA J J<|rN<|ax<|rM J J<|au h fun v1 e1 h=>aG J (qC e1) cR J<|ae.qv (bX J) J<|rA J J<|rN<|ab.ret<|?_
 cases h
 exact hP J J
theorem Fc {aa:al} {r:Bool} (h:tI aa=some r):Pu Tryz.prog 335 [.str aa] (.bool r):=by
 unfold tI at h
 refine aB.aS Tryz.func335 J Tryz.ntmps335 Tryz.results335 J J ?_
 refine ax<|rA J J<|rN<|ax<|rM J J<|au h fun v1 e1 h=>de J (sy e1) cR .nil (fun _=>J) J fun b2=>rA J J<|rN<|tS<|ab.cut (fun aE=>∃ (c3:Bool),mi c3=some r∧aE=⟨19,[(2,.bool c3)],[]⟩) ?_ ?_
 ·refine tR<|rM J J<|ae.qv (fS J) J<|ae.qv (r8 J J) J<|rM J J<|gT h J J J (fun h=>?_) (fun h=>?_)
  ·refine rM J J<|rY J J J<|ae.qv (ot J) J<|rY J J J<|ae.qv (r8 J J) J<|rT J J J<|rM J J<|gT h J J J (fun h=>?_) (fun h=>?_)
   ·exact rM J J<|rY J J J<|au h fun v4 e2 h=>cO J (cJ (fun e=>Bl e) e2) (.cons (qO.nL .p0) (.cons (.tv _ _ _ .nil) .nil)) J J<|rY J J J<|ae.qv (bX J) J<|rT J J J<|rA J J<|rN<|ab.stop<|ai.lq [] ⟨!v4,h,J⟩ J J
   ·exact rG J J J J<|rG J J J J<|rE J J J<|rA J J<|rN<|ab.stop<|ai.lq [] ⟨false,h,J⟩ J J
  ·exact rG J J J J<|rG J J J J<|rE J J J<|rM J J<|rG J J J J<|rG J J J J<|rG J J J J<|rE J J J<|rA J J<|rN<|ab.stop<|ai.lq [] ⟨false,h,J⟩ J J
 ·rintro aE ⟨c3,h,rfl⟩
  unfold mi at h
  refine ab.ret<|?_
  cases h
  exact hP J J
theorem Cq {aa:al} {ah:Bool} {r:Bool} (h:qj aa ah=some r):Pu Tryz.prog 305 [.str aa,.bool ah] (.bool r):=by
 unfold qj at h
 refine aB.aS Tryz.func305 J Tryz.ntmps305 Tryz.results305 J J ?_
 refine ax<|rA J J<|rN<|tS<|ax<|rM J J<|au h fun v1 e1 h=>aG J (kQ e1) cR J<|rM J J<|rX J J J<|rX J J J<|rA J J<|rA J J<|rN<|tS<|ab.cut (fun aE=>∃ (c2:Bool),jG aa ah c2=some r∧aE=⟨36,[(0,.str aa),(1,.bool ah),(18,.bool c2)],[]⟩) ?_ ?_
 ·refine tR<|rM J J<|rM J J<|ae.guard J J J (fun hc=>?_) (fun hc=>?_)
  ·exact have h:=lL hc h;rM J J<|rY J J J<|au h fun v3 e2 h=>aG J (qC e2) cR J<|rT J J J<|rN<|ab.stop<|ai.lq [] ⟨v3,h,J⟩ J J
  ·exact have h:=lM hc h;rG J J J J<|rE J J J<|rN<|ab.stop<|ai.lq [] ⟨false,h,J⟩ J J
 ·rintro aE ⟨c2,h,rfl⟩
  unfold jG at h
  refine cB h J (fun h=>?_) (fun h=>?_)
  ·refine ax<|rA J J<|rN<|ab.ret<|?_
   cases h
   exact hP J J
  ·refine tK<|tS<|ax<|rM J J<|au h fun v4 e3 h=>aG J (kQ e3) cR J<|rM J J<|rX J J J<|rX J J J<|rA J J<|rA J J<|rN<|tS<|ab.cut (fun aE=>∃ (c5:Bool),jF aa ah c5=some r∧aE=⟨36,[(0,.str aa),(1,.bool ah),(28,.bool c5)],[]⟩) ?_ ?_
   ·refine tR<|rM J J<|rM J J<|ae.guard J J J (fun hc=>?_) (fun hc=>?_)
    ·exact have h:=lL hc h;rM J J<|rY J J J<|au h fun v6 e4 h=>aG J (Fc e4) cR J<|rT J J J<|rN<|ab.stop<|ai.lq [] ⟨v6,h,J⟩ J J
    ·exact have h:=lM hc h;rG J J J J<|rE J J J<|rN<|ab.stop<|ai.lq [] ⟨false,h,J⟩ J J
   ·rintro aE ⟨c5,h,rfl⟩
    unfold jF at h
    refine cB h J (fun h=>?_) (fun h=>?_)
    ·refine ax<|rA J J<|rN<|ab.ret<|?_
     cases h
     exact hP J J
    ·refine tK<|tS<|ab.cut (fun aE=>∃ (c7:Bool),lT c7=some r∧aE=⟨36,[(4,.bool c7)],[]⟩) ?_ ?_
     ·refine tR<|rM J J<|ae.qv (bX J) J<|rM J J<|ae.guard J J J (fun hc=>?_) (fun hc=>?_)
      ·exact have h:=lL hc h;aD (xs:=([([107,101,121]:al),([109,111,100,101,108]:al),([116,101,110,97,110,116]:al),([102,105,114,109,119,97,114,101]:al)]).map AV.str) J J J J J J<|rY J J J<|rM J J<|rY J J J<|au h fun v8 e5 h=>aG J (bt e5) cR J<|rT J J J<|rA J J<|rN<|ab.stop<|ai.lq [] ⟨v8,h,J⟩ J J
      ·exact have h:=lM hc h;rG J J J J<|rG J J J J<|rE J J J<|rA J J<|rN<|ab.stop<|ai.lq [] ⟨false,h,J⟩ J J
     ·rintro aE ⟨c7,h,rfl⟩
      unfold lT at h
      refine ab.ret<|?_
      cases h
      exact hP J J
end Go.Proofs.YtckmkjeblanlfaaGreatDoor
