/- The code computes the plain functions: proofs written by shal.py. -/
import Derived.Test.YthamhifbccpcpaaGreatDoorAsuP
import Derived.Test.YthamhifbccpcpaaGreatDoorLib
set_option maxHeartbeats 4000000
set_option maxRecDepth 100000
set_option linter.unusedVariables false
set_option linter.unusedSimpArgs false
namespace Go.Proofs.YthamhifbccpcpaaGreatDoor
open Go Go.Eng Go.Proofs Go.Beacon
attribute [local irreducible] ae aa AQ QV aJ ai OY AM
instance ac7:Np Tryz.prog 41:=⟨by kernel_rfl⟩
instance ac8:qQ Tryz.prog 41 2 aj.av:=⟨fun x y w S v u hv hu=>by
 obtain ⟨vs,rfl,hl,ha⟩:=At.nq hv
 obtain ⟨us,rfl,vI,Dp⟩:=At.nq hu
 obtain ⟨v0,p0,q0⟩:=kG.get hl ha (off:=0) rfl
 obtain ⟨u0,TS,TT⟩:=kG.get vI Dp (off:=0) rfl
 obtain ⟨v1,p1,q1⟩:=kG.get hl ha (off:=1) rfl
 obtain ⟨u1,TU,TW⟩:=kG.get vI Dp (off:=1) rfl
 obtain ⟨v2,p2,q2⟩:=kG.get hl ha (off:=2) rfl
 obtain ⟨u2,W5,W6⟩:=kG.get vI Dp (off:=2) rfl
 obtain ⟨v3,p3,q3⟩:=kG.get hl ha (off:=3) rfl
 obtain ⟨u3,W7,W8⟩:=kG.get vI Dp (off:=3) rfl
 obtain ⟨v4,p4,q4⟩:=kG.get hl ha (off:=4) rfl
 obtain ⟨u4,W9,Xa⟩:=kG.get vI Dp (off:=4) rfl
 refine w6.cast (w6.struct Tryz.underlying41 (by kernel_rfl) (.cons (by decide) (cW J p0) (cW J TS) (w6.up (qQ.h (g:=AV.str) x.a8 y.a8 w S _ _ q0 TT) 0) (.cons (by decide) (cW J p1) (cW J TU) (w6.up (qQ.h (g:=I) x.bS y.bS w S _ _ q1 TW) 0) (.cons (by decide) (cW J p2) (cW J W5) (w6.up (qQ.h (g:=I) x.dh y.dh w S _ _ q2 W6) 0) (.cons (by decide) (cW J p3) (cW J W7) (w6.up (qQ.h (g:=I) x.bV y.bV w S _ _ q3 W8) 0) (.cons (by decide) (cW J p4) (cW J W9) (w6.up (qQ.h (g:=I) x.Time y.Time w S _ _ q4 Xa) 0) .nil)))))) ?_
 obtain ⟨_,_,_,_,_⟩:=x
 obtain ⟨_,_,_,_,_⟩:=y
 rw [Bool.eq_iff_iff];simp [and_assoc]⟩
instance ac9:Np Tryz.prog 51:=⟨by kernel_rfl⟩
instance acA:qQ Tryz.prog 51 2 Signal.av:=⟨fun x y w S v u hv hu=>by
 obtain ⟨vs,rfl,hl,ha⟩:=At.nq hv
 obtain ⟨us,rfl,vI,Dp⟩:=At.nq hu
 obtain ⟨v0,p0,q0⟩:=kG.get hl ha (off:=0) rfl
 obtain ⟨u0,TS,TT⟩:=kG.get vI Dp (off:=0) rfl
 obtain ⟨v1,p1,q1⟩:=kG.get hl ha (off:=1) rfl
 obtain ⟨u1,TU,TW⟩:=kG.get vI Dp (off:=1) rfl
 obtain ⟨v2,p2,q2⟩:=kG.get hl ha (off:=2) rfl
 obtain ⟨u2,W5,W6⟩:=kG.get vI Dp (off:=2) rfl
 obtain ⟨v3,p3,q3⟩:=kG.get hl ha (off:=3) rfl
 obtain ⟨u3,W7,W8⟩:=kG.get vI Dp (off:=3) rfl
 obtain ⟨v4,p4,q4⟩:=kG.get hl ha (off:=4) rfl
 obtain ⟨u4,W9,Xa⟩:=kG.get vI Dp (off:=4) rfl
 obtain ⟨v5,p5,q5⟩:=kG.get hl ha (off:=5) rfl
 obtain ⟨u5,p5',q5'⟩:=kG.get vI Dp (off:=5) rfl
 refine w6.cast (w6.struct Tryz.underlying51 (by kernel_rfl) (.cons (by decide) (cW J p0) (cW J TS) (w6.up (qQ.h (g:=I) x.At y.At w S _ _ q0 TT) 0) (.cons (by decide) (cW J p1) (cW J TU) (w6.up (qQ.h (g:=I) x.Kind y.Kind w S _ _ q1 TW) 0) (.cons (by decide) (cW J p2) (cW J W5) (w6.up (qQ.h (g:=AV.str) x.Device y.Device w S _ _ q2 W6) 0) (.cons (by decide) (cW J p3) (cW J W7) (w6.up (qQ.h (g:=AV.str) x.a8 y.a8 w S _ _ q3 W8) 0) (.cons (by decide) (cW J p4) (cW J W9) (w6.up (qQ.h (g:=AV.str) x.By y.By w S _ _ q4 Xa) 0) (.cons (by decide) (cW J p5) (cW J p5') (w6.up (qQ.h (g:=I) x.aV y.aV w S _ _ q5 q5') 0) .nil))))))) ?_
 obtain ⟨_,_,_,_,_,_⟩:=x
 obtain ⟨_,_,_,_,_,_⟩:=y
 rw [Bool.eq_iff_iff];simp [and_assoc]⟩
instance Xb:qQ Tryz.prog 107 2 aq.av:=⟨fun x y w S v u hv hu=>by
 obtain ⟨vs,rfl,hl,ha⟩:=At.nq hv
 obtain ⟨us,rfl,vI,Dp⟩:=At.nq hu
 obtain ⟨v0,p0,q0⟩:=kG.get hl ha (off:=0) rfl
 obtain ⟨u0,TS,TT⟩:=kG.get vI Dp (off:=0) rfl
 obtain ⟨v1,p1,q1⟩:=kG.get hl ha (off:=1) rfl
 obtain ⟨u1,TU,TW⟩:=kG.get vI Dp (off:=1) rfl
 refine w6.cast (w6.struct Tryz.underlying107 (by kernel_rfl) (.cons (by decide) (cW J p0) (cW J TS) (w6.up (qQ.h (g:=AV.str) x.aK y.aK w S _ _ q0 TT) 0) (.cons (by decide) (cW J p1) (cW J TU) (w6.up (qQ.h (g:=AV.str) x.aN y.aN w S _ _ q1 TW) 0) .nil))) ?_
 obtain ⟨_,_⟩:=x
 obtain ⟨_,_⟩:=y
 rw [Bool.eq_iff_iff];simp [and_assoc]⟩
instance Xc:lH Tryz.prog 107 aq.av:=lH.struct (n:=2) J Tryz.underlying107 (fun f hf=>by
 simp only [List.mem_cons,List.not_mem_nil,or_false] at hf
 rcases hf with rfl | rfl
 ·exact ⟨_,aE.h (P:=Tryz.prog) (t:=9),J,by decide⟩
 ·exact ⟨_,aE.h (P:=Tryz.prog) (t:=9),J,by decide⟩) (fun x=>⟨_,J,J,fun c hc=>by
 simp only [List.mem_cons,List.not_mem_nil,or_false] at hc
 rcases hc with rfl | rfl<;>rfl⟩) (fun a b h=>by
 obtain ⟨_,_⟩:=a
 obtain ⟨_,_⟩:=b
 simpa [aq.av] using h)
abbrev gx (xs:List Int):AV:=.list 1 (xs.map I)
abbrev JY (xs:List aI):AV:=.list 1 (xs.map AV.str)
abbrev ek (xs:List Signal):Ob:=.arr 6 (xs.map Signal.av)
abbrev iW (xs:List Signal):AV:=.list 6 (xs.map Signal.av)
abbrev vA (x:Signal):List AV:=[I x.At,I x.Kind,.str x.Device,.str x.a8,.str x.By,I x.aV]
abbrev fE0 (x:ak):List AV:=[.str x.aR.aK,.str x.aR.aN,I x.az,I x.bM,.list 1 (x.aD.map I),I x.ay,.list 2 (x.eV.map au.av),.list 2 (x.bC.map au.av),.list 2 (x.bh.map au.av),.list 1 (x.bf.map I),.list 1 (x.aW.map I)]
abbrev Ii (b:Bk) (s:Nat→Bk) (x:ak):List (Bk×PO):=[(b,.cells [.str x.aR.aK,.str x.aR.aN,I x.az,I x.bM,.sl 1 (s 0) 0 x.aD.length,I x.ay,.sl 2 (s 1) 0 x.eV.length,.sl 2 (s 2) 0 x.bC.length,.sl 2 (s 3) 0 x.bh.length,.sl 1 (s 4) 0 x.bf.length,.sl 1 (s 5) 0 x.aW.length]),(s 0,.arr 1 (x.aD.map I)),(s 1,.arr 2 (x.eV.map au.av)),(s 2,.arr 2 (x.bC.map au.av)),(s 3,.arr 2 (x.bh.map au.av)),(s 4,.arr 1 (x.bf.map I)),(s 5,.arr 1 (x.aW.map I))]
theorem Xd:KB Ii fE0:=⟨⟨fun x=>[.v (.str x.aR.aK),.v (.str x.aR.aN),.v (I x.az),.v (I x.bM),.l 1 I x.aD,.v (I x.ay),.l 2 au.av x.eV,.l 2 au.av x.bC,.l 2 au.av x.bh,.l 1 I x.bf,.l 1 I x.aW],fun _ _ _=>J,fun _=>J⟩⟩
abbrev qC (xs:List au):AV:=.list 2 (xs.map au.av)
abbrev iF (xs:List au):Ob:=.arr 2 (xs.map au.av)
abbrev G5 (x:ak) (b4 b6 b7 b8 b9 nh:Bk):List AV:=[.str x.aR.aK,.str x.aR.aN,I x.az,I x.bM,.sl 1 b4 0 x.aD.length,I x.ay,.sl 2 b6 0 x.eV.length,.sl 2 b7 0 x.bC.length,.sl 2 b8 0 x.bh.length,.sl 1 b9 0 x.bf.length,.sl 1 nh 0 x.aW.length]
abbrev gB (xs:List Int):Ob:=.arr 1 (xs.map I)
abbrev sq (b:Bk) (s:Nat→Bk) (x:aj):List (Bk×PO):=[(b,.cells [.str x.a8,I x.bS,I x.dh,I x.bV,I x.Time])]
abbrev Eg (xs:List ak):AV:=.list 1 (xs.map (fun x=>AV.eo (fE0 x)))
abbrev Jp (xs:List aj):Ob:=.arr 5 (xs.map aj.av)
abbrev fE2 (x:an):List AV:=[.str x.aK,.str x.aN,.list 6 (x.bq.map Signal.av),I x.az,I x.ay.bg,I x.ay.To]
abbrev MU (b:Bk) (s:Nat→Bk) (x:an):List (Bk×PO):=[(b,.cells [.str x.aK,.str x.aN,.sl 6 (s 0) 0 x.bq.length,I x.az,I x.ay.bg,I x.ay.To]),(s 0,.arr 6 (x.bq.map Signal.av))]
theorem Xe:KB MU fE2:=⟨⟨fun x=>[.v (.str x.aK),.v (.str x.aN),.l 6 Signal.av x.bq,.v (I x.az),.v (I x.ay.bg),.v (I x.ay.To)],fun _ _ _=>J,fun _=>J⟩⟩
abbrev zj (xs:List an):AV:=.list 1 (xs.map (fun x=>AV.eo (fE2 x)))
abbrev TX (xs:List cd):Ob:=.arr 2 (xs.map cd.av)
abbrev uM (xs:List aI):Ob:=.arr 1 (xs.map AV.str)
abbrev VD (xs:List aj):AV:=.list 5 (xs.map aj.av)
theorem DC [GI:bF] {ab:Int} {ah:Int} {r:Int} (h:Below ab ah=some r):Pu Tryz.prog 116 [I ab,I ah] (I r):=by
 unfold Below at h
 refine aJ.bD Tryz.func116 J Tryz.ntmps116 Tryz.results116 J J ?_
 refine aM<|rA J J<|rN<|tS<|aM<|rM J J<|ae.qv (bH J J) J<|rN<|cD h J (fun h=>?_) (fun h=>?_)
 ·refine aM<|rA J J<|rN<|aa.ret<|?_
  cases h
  exact hP J J
 ·refine tK<|aM<|rM J J<|rM J J<|aF h fun n1 e1 h=>ae.qv (Kz J J e1) J<|rA J J<|rN<|tS<|aM<|rM J J<|ae.qv (bH J J) J<|rN<|aa.cut (fun aG=>∃ (n2:Int),uJ n2=some r∧aG=⟨16,[(0,I n2)],[]⟩) ?_ ?_
  ·refine cD h J (fun h=>?_) (fun h=>?_)
   ·exact tR<|rM J J<|rM J J<|ae.qv (aU J J) J<|rA J J<|rN<|aa.stop<|ai.lq [] ⟨aT (n1+ah),h,J⟩ J J
   ·exact tK<|aa.stop<|ai.lq [] ⟨n1,h,J⟩ J J
  ·rintro aG ⟨n2,h,rfl⟩
   unfold uJ at h
   refine aM<|rM J J<|rA J J<|rN<|aa.ret<|?_
   cases h
   exact hP J J
theorem gA [GI:bF] {aY:Bk} {ab:ar} {ah:Int} {r:Int×ar} (h:eM ab ah=some r):aJ Tryz.prog 42 [.ptr aY 0,I ah] [(aY,.cells [gx ab.L,I ab.at_])] (T0 ([(aY,.cells [gx r.2.L,I r.2.at_])]) (I r.1)):=by
 unfold eM at h
 refine aJ.fa ?_
 refine aJ.bD Tryz.func42 J Tryz.ntmps42 Tryz.results42 J J ?_
 refine aM<|rA J J<|rN<|aM<|rM J J<|ae.qv (ax J) J<|rF J J J<|rL J J .p0 J J<|ae.qv (aU J J) J<|ae.qv (ax J) J<|rF J J J<|aB J J J J .p0 J J<|rN<|tS<|aM<|rM J J<|ae.qv (ax J) J<|rF J J J<|rL J J .p0 J J<|ae.qv (dz J) J<|ae.qv (bY J J) J<|rN<|cD h J (fun h=>?_) (fun h=>?_)
 ·refine aM<|rM J J<|ae.qv (ax J) J<|rF J J J<|rL J J .p0 J J<|ae.qv (xZ J J) J<|rM J J<|aF h fun v1 e1 h=>bw J (DC e1) cR J<|rA J J<|rN<|aa.ret<|?_
  cases h
  exact hH J [0] J ⟨J,J⟩
 ·refine tK<|tS<|aa.bL (id:=4) (A:=[0,1,3,7,15,0,32,96,224,480,1023,2047]) 12 mixed J (by kernel_rfl) (by kernel_rfl)<|AM.qv (aA J) J<|AM.qv (ax J) J<|AM.qv (aC J J) J<|AM.qv (aL J J .p0 J) J<|AM.qv (bR J J) J<|AM.qv (aA J) J<|AM.qv (ax J) J<|AM.qv (aC J J) J<|AM.qv (aL J J .p0 J) J<|AM.qv (dz J) J<|aF h fun n2 e2 h=>AM.qv (Kz J J e2) J<|AM.qv (cU J) J<|AM.nil<|rN<|tS<|aa.bL (id:=5) (A:=[0,1,3,7,15,0,32,96,224,480,1023,2047]) 12 mixed J (by kernel_rfl) (by kernel_rfl)<|AM.qv (aA J) J<|AM.qv (ax J) J<|AM.qv (aC J J) J<|AM.qv (aL J J .p0 J) J<|AM.qv (bR J J) J<|AM.qv (aA J) J<|AM.qv (ax J) J<|AM.qv (aC J J) J<|AM.qv (aL J J .p0 J) J<|AM.qv (dz J) J<|aF h fun n3 e3 h=>AM.qv (Ky J J e3) J<|AM.qv (cU J) J<|AM.nil<|rN<|aM<|rM J J<|ae.qv (ax J) J<|rF J J J<|rL J J .p0 J J<|rM J J<|aF h fun v4 e4 h=>ae.qv (bJ J J J e4 J J) J<|ae.qv (aH J J J) J<|aF h fun v5 e5 h=>bw J (DC e5) cR J<|rM J J<|rM J J<|ae.qv (aU J J) J<|ae.qv (xZ J J) J<|ae.qv (aU J J) J<|rM J J<|aF h fun v6 e6 h=>bw J (DC e6) cR J<|rA J J<|rN<|aa.ret<|?_
  cases h
  exact hH J [0] J ⟨J,J⟩
theorem rb [GI:bF] {aY:Bk} {ab:ar} {ah:Int} {aO:Int} {r:Int×ar} (h:jf ab ah aO=some r):aJ Tryz.prog 6 [.ptr aY 0,I ah,I aO] [(aY,.cells [gx ab.L,I ab.at_])] (T0 ([(aY,.cells [gx r.2.L,I r.2.at_])]) (I r.1)):=by
 unfold jf at h
 refine aJ.fa ?_
 refine aJ.bD Tryz.func6 J Tryz.ntmps6 Tryz.results6 J J ?_
 refine aM<|rA J J<|rN<|tS<|aM<|rM J J<|rM J J<|ae.qv (bH J J) J<|rN<|cD h J (fun h=>?_) (fun h=>?_)
 ·refine aM<|rM J J<|rA J J<|rN<|aa.ret<|?_
  cases h
  exact hH J [0] J ⟨J,J⟩
 ·refine tK<|aM<|rM J J<|rM J J<|rM J J<|rM J J<|ae.qv (bR J J) J<|ae.qv (aU J J) J<|aF h fun v1 e1 h=>bz J (gA e1) cR (.cons .p0 .nil) J J<|ae.qv (aU J J) J<|rA J J<|rN<|aa.ret<|?_
  cases h
  exact hH J [0] J ⟨J,J⟩
theorem ej [GI:bF] {aY:Bk} {ab:ar} {ah:List Int} {r:Int×ar} (h:cY ab ah=some r):aJ Tryz.prog 25 [.ptr aY 0,gx ah] [(aY,.cells [gx ab.L,I ab.at_])] (T0 ([(aY,.cells [gx r.2.L,I r.2.at_])]) (I r.1)):=by
 unfold cY at h
 refine aJ.fa ?_
 refine aJ.bD Tryz.func25 J Tryz.ntmps25 Tryz.results25 J J ?_
 refine aM<|rA J J<|rN<|aM<|rM J J<|rM J J<|rM J J<|ae.qv (dz J) J<|aF h fun v1 e1 h=>bz J (gA e1) cR (.cons .p0 .nil) J J<|aF h fun v2 e2 h=>ae.qv (bJ J J J e2 J J) J<|ae.qv (aH J J J) J<|rA J J<|rN<|aa.ret<|?_
 cases h
 exact hH J [0] J ⟨J,J⟩
theorem pk [GI:bF] {aY:Bk} {ab:ar} {ah:List aI} {r:aI×ar} (h:jg ab ah=some r):aJ Tryz.prog 24 [.ptr aY 0,JY ah] [(aY,.cells [gx ab.L,I ab.at_])] (T0 ([(aY,.cells [gx r.2.L,I r.2.at_])]) (.str r.1)):=by
 unfold jg at h
 refine aJ.fa ?_
 refine aJ.bD Tryz.func24 J Tryz.ntmps24 Tryz.results24 J J ?_
 refine aM<|rA J J<|rN<|aM<|rM J J<|rM J J<|rM J J<|ae.qv (dz J) J<|aF h fun v1 e1 h=>bz J (gA e1) cR (.cons .p0 .nil) J J<|aF h fun v2 e2 h=>ae.qv (bJ J J J e2 J J) J<|ae.qv (aH J J J) J<|rA J J<|rN<|aa.ret<|?_
 cases h
 exact hH J [0] J ⟨J,J⟩
theorem tL [GI:bF] {ab:Int} {r:Bool} (h:cmp_isNaN_int ab=r):Pu Tryz.prog 172 [I ab] (.bool r):=by
 unfold cmp_isNaN_int at h
 refine aJ.bD Tryz.func172 J Tryz.ntmps172 Tryz.results172 J J ?_
 refine aM<|rA J J<|rN<|aM<|rM J J<|rM J J<|ae.qv (jb J J) J<|rA J J<|rN<|aa.ret<|?_
 obtain rfl:=h
 exact hP J J
theorem l0 [GI:bF] {ab:Int} {ah:Int} {r:Int} (h:cmp_Compare_int ab ah=r):Pu Tryz.prog 119 [I ab,I ah] (I r):=by
 unfold cmp_Compare_int at h
 refine aJ.bD Tryz.func119 J Tryz.ntmps119 Tryz.results119 J J ?_
 refine aM<|rA J J<|rN<|aM<|rM J J<|bw J (tL J) cR J<|rA J J<|rN<|aM<|rM J J<|bw J (tL J) cR J<|rA J J<|rN<|tS<|aM<|rM J J<|rN<|cB h J (fun h=>?_) (fun h=>?_)
 ·refine tS<|aM<|rM J J<|rN<|cB h J (fun h=>?_) (fun h=>?_)
  ·refine aM<|rA J J<|rN<|aa.ret<|?_
   obtain rfl:=h
   exact hP J J
  ·refine tK<|aM<|rA J J<|rN<|aa.ret<|?_
   obtain rfl:=h
   exact hP J J
 ·refine tK<|tS<|aM<|rM J J<|rN<|cB h J (fun h=>?_) (fun h=>?_)
  ·refine aM<|rA J J<|rN<|aa.ret<|?_
   obtain rfl:=h
   exact hP J J
  ·refine tK<|tS<|aM<|rM J J<|rM J J<|ae.qv (bH J J) J<|rN<|cD h J (fun h=>?_) (fun h=>?_)
   ·refine aM<|rA J J<|rN<|aa.ret<|?_
    obtain rfl:=h
    exact hP J J
   ·refine tK<|tS<|aM<|rM J J<|rM J J<|ae.qv (ir J J) J<|rN<|cD h J (fun h=>?_) (fun h=>?_)
    ·refine aM<|rA J J<|rN<|aa.ret<|?_
     obtain rfl:=h
     exact hP J J
    ·refine tK<|aM<|rA J J<|rN<|aa.ret<|?_
     obtain rfl:=h
     exact hP J J
theorem qD [GI:bF] {ab:List Int} {r:Int} (h:jF ab=some r):Pu Tryz.prog 118 [gx ab] (I r):=by
 unfold jF at h
 refine aJ.bD Tryz.func118 J Tryz.ntmps118 Tryz.results118 J J ?_
 refine aM<|rA J J<|rN<|aM<|rA J J<|rN<|tS<|aM<|rM J J<|ae.qv (dz J) J<|rM J J<|rN<|aa.block<|aa.cj (fun x:Int=>ph ab x) (fun x aG=>aG=⟨18,[(3,I (0:Int)),(6,gx ab),(7,I (ab.length:Int)),(8,I x)],[]⟩) h ?_ ?_
 ·exact ai.lq [] J J J
 ·intro n2 z1 aG J1 eZ h mL iQ
  obtain rfl:=eZ
  replace h:ph ab n2=some z1:=h
  unfold ph at h
  refine aM<|ae.qv (bH J J) J<|rN<|tS<|cD h J (fun h=>?_) (fun h=>?_)
  ·refine tK<|tS<|aa.block<|aM<|aF h fun v3 e1 h=>ae.qv (bJ J J J e1 J J) J<|ae.qv (aH J J J) J<|rA J J<|rN<|aM<|rM J J<|rM J J<|ae.qv (jb J J) J<|rN<|cD h J (fun h=>?_) (fun h=>?_)
   ·refine aM<|rM J J<|rA J J<|rN<|aa.ret<|have h:=cr h iQ;?_
    cases h
    exact hP J J
   ·refine tK<|aa.bN<|tR<|ae.qv (aU J J) J<|rM J J<|rN<|aa.stop<|?_
    cases h
    exact mL _ _ J<|ai.lq [] J J J
  ·refine aa.exit J<|have h:=cr h iQ;aM<|rM J J<|rA J J<|rN<|aa.ret<|?_
   cases h
   exact hP J J
theorem pZ [GI:bF] {ab:Signal} {ah:Signal} {r:Int} (h:iu ab ah=some r):Pu Tryz.prog 44 [Signal.av ab,Signal.av ah] (I r):=by
 unfold iu at h
 refine aJ.bD Tryz.func44 J Tryz.ntmps44 Tryz.results44 J J ?_
 refine aM<|jU J J J J fun b1=>jU J J J J fun b2=>rA J J<|rN<|tS<|aa.bL (id:=1) (A:=[0,1,0,4,15,0,32,0,128,511,0,1024,0,4096,16383,0,32768,0,131072,524287,1048575,2097151,4194303]) 23 mixed J (by kernel_rfl) (by kernel_rfl)<|AM.qv (aC J J) J<|AM.qv (aL J J .p1 J) J<|AM.qv (aC J J) J<|AM.qv (aL J J .p0 J) J<|AM.jV J (l0 J) cR J<|AM.qv (aC J J) J<|AM.qv (aL J J .p1 J) J<|AM.qv (aC J J) J<|AM.qv (aL J J .p0 J) J<|AM.jV J (dC J) cR J<|AM.qv (aC J J) J<|AM.qv (aL J J .p1 J) J<|AM.qv (aC J J) J<|AM.qv (aL J J .p0 J) J<|AM.jV J (dC J) cR J<|AM.qv (aC J J) J<|AM.qv (aL J J .p1 J) J<|AM.qv (aC J J) J<|AM.qv (aL J J .p0 J) J<|AM.jV J (l0 J) cR J<|AM.fk (xs:=([(cmp_Compare_int ab.At ah.At),(Lib.compareBytes ab.Device ah.Device),(Lib.compareBytes ab.a8 ah.a8),(cmp_Compare_int ab.Kind ah.Kind)]:List Int).map I) J J J J J J<|aF h fun v3 e1 h=>AM.jV J (qD e1) cR J<|AM.qv (cU J) J<|AM.nil<|rN<|aa.ret<|?_
 cases h
 exact hP J J
theorem ie [GI:bF] {aY:Bk} {ab:List Signal} {ah:Int} {aO:Int} {mA:Signal→Signal→Option Int} {r7:FuncId} [bu Tryz.prog r7] {tM:List AV} (Lr:∀ {y0 y1:_} {u:Int},mA y0 y1=some u→Pu Tryz.prog r7 (Signal.av y0 :: Signal.av y1 :: tM) (I u)) {r:(List Signal)} (h:ch ab ah aO mA=some r):aJ Tryz.prog 170 [.sl 6 aY 0 ab.length,I ah,I aO,.func (.func r7) tM] [(aY,ek ab)] (T0 ([(aY,ek r)]) (.iV [])):=by
 unfold ch at h
 refine aJ.fa ?_
 refine aJ.bD Tryz.func170 J Tryz.ntmps170 Tryz.results170 J J ?_
 refine aM<|rM J J<|ae.qv (aU J J) J<|rA J J<|rN<|aa.block<|aa.cj (fun x:(List Signal)×Int=>cy ah aO mA x.1 x.2) (fun x aG=>aG=⟨53,[(0,.sl 6 aY 0 x.1.length),(1,I ah),(2,I aO),(3,.func (.func r7) tM),(8,I x.2)],[(aY,ek x.1)]⟩) h ?_ ?_
 ·exact ai.lq [0] J J J
 ·intro x z1 aG J1 eZ h mL iQ
  obtain ⟨l3,n4⟩:=x
  obtain rfl:=eZ
  replace h:cy ah aO mA l3 n4=some z1:=h
  unfold cy at h
  refine tS<|aM<|rM J J<|rM J J<|ae.qv (bH J J) J<|rN<|cD h J (fun h=>?_) (fun h=>?_)
  ·refine tK<|tS<|aa.block<|aM<|rM J J<|rA J J<|rN<|aa.block<|aa.cj (fun x:(List Signal)×Int=>cx ah mA n4 x.1 x.2) (fun x aG=>aG=⟨53,[(0,.sl 6 aY 0 x.1.length),(1,I ah),(2,I aO),(3,.func (.func r7) tM),(8,I n4),(9,I x.2)],[(aY,ek x.1)]⟩) h ?_ ?_
   ·exact ai.lq [0] J J J
   ·intro x z2 aG J2 eZ h Fy Fz
    obtain ⟨l7,n8⟩:=x
    obtain rfl:=eZ
    replace h:cx ah mA n4 l7 n8=some z2:=h
    unfold cx at h
    refine tS<|tS<|aa.cut (fun aG=>∃ (c9:Bool),cw n4 l7 n8 c9=some z2∧aG=⟨53,[(0,.sl 6 aY 0 l7.length),(1,I ah),(2,I aO),(3,.func (.func r7) tM),(8,I n4),(9,I n8),(34,.bool c9)],[(aY,ek l7)]⟩) ?_ ?_
    ·refine aa.bL (id:=4) (A:=[0,0,3,7,15,15,15,111,239,15,15,1039,3599,7695,16383,32767,65535]) 17 mixed J (by kernel_rfl) (by kernel_rfl)<|AM.qv (aA J) J<|AM.qv (aA J) J<|AM.qv (ir J J) J<|AM.qv (aA J) J<|AM.bW J J J (fun hc=>?_) (fun hc=>?_)
     ·exact have h:=uy hc h;AM.qv (aA J) J<|AM.bc J J J<|AM.qv (aA J) J<|AM.bc J J J<|AM.qv (aA J) J<|AM.bc J J J<|aF h fun v10 e1 h=>AM.qv (aS J J J e1) J<|AM.bc J J J<|AM.qv (bx (g:=Signal.av) J J (.inl .p0) J e1 J) J<|AM.bc J J J<|AM.qv (aA J) J<|AM.bc J J J<|AM.qv (aA J) J<|AM.bc J J J<|AM.qv (bR J J) J<|AM.bc J J J<|aF h fun v11 e2 h=>AM.qv (aS J J J e2) J<|AM.bc J J J<|AM.qv (bx (g:=Signal.av) J J (.inl .p0) J e2 J) J<|AM.bc J J J<|aF h fun v12 e3 h=>AM.yd J J (Lr e3) cR J<|AM.bc J J J<|AM.qv (bH J J) J<|AM.qv (pr J J) J<|AM.nil<|rN<|aa.stop<|ai.lq [0] ⟨decide (v12 < (0:Int)),h,J⟩ J J
     ·exact have h:=EI hc h;AM.bn J J J J<|AM.bn J J J J<|AM.bn J J J J<|AM.bn J J J J<|AM.bn J J J J<|AM.bn J J J J<|AM.bn J J J J<|AM.bn J J J J<|AM.bn J J J J<|AM.bn J J J J<|AM.bn J J J J<|AM.qv (ps J J) J<|AM.nil<|rN<|aa.stop<|ai.lq [0] ⟨false,h,J⟩ J J
    ·rintro aG ⟨c9,h,rfl⟩
     unfold cw at h
     refine cB h J (fun h=>?_) (fun h=>?_)
     ·refine tK<|tS<|aa.block<|aF h fun oN e4 h=>aF h fun mB e5 h=>aF h fun jP e6 h=>aa.iS (id:=6) (A:=[0,0,0,0,8,0,0,64,224,480,0,0,3072,7168,16355,32739,65535,131071]) (H0:=[(aY,ek l7)]) (HH:=fun β=>[(aY,ek (l7.set n8.toNat oN))]) 16 mixed J (by kernel_rfl) (by kernel_rfl) [⟨none,some 15,[9,13],fun _=>(aY,ek l7),none,[]⟩,⟨some 15,none,[],fun _=>(aY,ek (l7.set n8.toNat oN)),none,[]⟩] [] J (by kernel_rfl) J (.cons .p0 .nil) (fun _=>J)<|AT.am 9 J J<|AM.qv (aA J) J<|AM.qv (aA J) J<|AM.qv (aA J) J<|AM.qv (aA J) J<|AM.qv (bR J J) J<|AM.qv (aA J) J<|AM.qv (aA J) J<|AM.qv (bR J J) J<|AM.qv (aS J J J e4) J<|AM.nil<|AT.rd (Rs:=[(aY,ek l7)]) (fun _=>J) J (fun _=>J) (fun _=>J) (bx (g:=Signal.av) J J (.inl .p0) J e4 J) J<|AT.am 3 J J<|AM.qv (aA J) J<|AM.qv (aA J) J<|AM.qv (aS J J J e5) J<|AM.nil<|AT.rd (Rs:=[(aY,ek l7)]) (fun _=>J) J (fun _=>J) (fun _=>J) (bx (g:=Signal.av) J J (.inl .p0) J e5 J) J<|AT.am 1 J J<|AM.qv (aS J J J e6) J<|AM.nil<|AT.BG (Ti:=[(aY,ek l7)]) (Pi:=[(aY,ek (l7.set n8.toNat oN))]) (fun _=>J) (fun _=>J) (fun _=>J) J J ?_ ?_
      ·exact bQ (g:=Signal.av) (xV:=oN) J J J J e6 J .p0 J<|ae.nil ⟨_,J⟩
      refine AT.ub (fun _=>J) fun β=>ae.ghost<|ai.eqs (s:=0) (eW:=.sl 6 aY 0 (l7.set n8.toNat oN).length) J (by simp)<|ai.here<|ae.ghost<|ai.eqs (s:=37) (eW:=.sl 6 aY 0 (l7.set n8.toNat oN).length) J (by simp)<|ai.here<|ae.ghost<|ai.eqs (s:=39) (eW:=.sl 6 aY 0 (l7.set n8.toNat oN).length) J (by simp)<|ai.here<|ae.ghost<|ai.eqs (s:=42) (eW:=.sl 6 aY 0 (l7.set n8.toNat oN).length) J (by simp)<|ai.here<|ae.ghost<|ai.eqs (s:=47) (eW:=.sl 6 aY 0 (l7.set n8.toNat oN).length) J (by simp)<|ai.here<|aF h fun og e7 h=>ae.qv (aS J J J e7) J<|bQ (g:=Signal.av) (xV:=mB) J J J J e7 J .p0 J<|ae.ghost<|ai.eqs (s:=0) (eW:=.sl 6 aY 0 ((l7.set n8.toNat oN).set (aT (n8 - (1:Int))).toNat mB).length) J (by rw [List.length_set])<|ai.here<|ae.ghost<|ai.eqs (s:=37) (eW:=.sl 6 aY 0 ((l7.set n8.toNat oN).set (aT (n8 - (1:Int))).toNat mB).length) J (by rw [List.length_set])<|ai.here<|ae.ghost<|ai.eqs (s:=39) (eW:=.sl 6 aY 0 ((l7.set n8.toNat oN).set (aT (n8 - (1:Int))).toNat mB).length) J (by rw [List.length_set])<|ai.here<|ae.ghost<|ai.eqs (s:=42) (eW:=.sl 6 aY 0 ((l7.set n8.toNat oN).set (aT (n8 - (1:Int))).toNat mB).length) J (by rw [List.length_set])<|ai.here<|ae.ghost<|ai.eqs (s:=47) (eW:=.sl 6 aY 0 ((l7.set n8.toNat oN).set (aT (n8 - (1:Int))).toNat mB).length) J (by rw [List.length_set])<|ai.here<|rN<|aa.bN<|tR<|rM J J<|ae.qv (bR J J) J<|rA J J<|rN<|aa.stop<|?_
      cases h
      exact Fy _ _ J<|ai.lq [0] J J J
     ·refine aa.exit J<|have h:=cr h Fz;aa.bN<|tR<|rM J J<|ae.qv (aU J J) J<|rA J J<|rN<|aa.stop<|?_
      cases h
      exact mL _ _ J<|ai.lq [0] J J J
  ·refine aa.exit J<|have h:=cr h iQ;aa.nil<|?_
   cases h
   exact ai.here ⟨_,.nil,_,.cons .p0 .nil,⟨J,J⟩⟩
theorem fJ [GI:bF] {aY:Bk} {ab:List Signal} {ah:Int} {aO:Int} {bE:Int} {kE:Signal→Signal→Option Int} {fK:FuncId} [bu Tryz.prog fK] {ig:List AV} (oV:∀ {y0 y1:_} {u:Int},kE y0 y1=some u→Pu Tryz.prog fK (Signal.av y0 :: Signal.av y1 :: ig) (I u)) {r:(List Signal)} (h:cI ab ah aO bE kE=some r):aJ Tryz.prog 283 [.sl 6 aY 0 ab.length,I ah,I aO,I bE,.func (.func fK) ig] [(aY,ek ab)] (T0 ([(aY,ek r)]) (.iV [])):=by
 unfold cI at h
 refine aJ.fa ?_
 refine aJ.bD Tryz.func283 J Tryz.ntmps283 Tryz.results283 J J ?_
 refine aM<|rA J J<|rN<|aa.block<|aa.cj (fun x:(List Signal)×Int=>di ah aO bE x.1 x.2) (fun x aG=>aG=⟨38,[(0,.sl 6 aY 0 x.1.length),(1,I ah),(2,I aO),(3,I bE),(10,I x.2)],[(aY,ek x.1)]⟩) h ?_ ?_
 ·exact ai.lq [0] J J J
 ·intro x z1 aG J1 eZ h mL iQ
  obtain ⟨l3,n4⟩:=x
  obtain rfl:=eZ
  replace h:di ah aO bE l3 n4=some z1:=h
  unfold di at h
  refine tS<|aM<|rM J J<|rM J J<|ae.qv (bH J J) J<|rN<|cD h J (fun h=>?_) (fun h=>?_)
  ·refine tK<|tS<|aa.block<|aF h fun v5 e1 h=>aF h fun v6 e2 h=>aF h fun v7 e3 h=>aa.iS (id:=3) (A:=[0,0,0,6,0,0,0,96,0,0,0,1536,3840,7936,0,0,0,98304,245760,507904,1048335,2096911,4194303,8388607]) (H0:=[(aY,ek l3)]) (HH:=fun β=>[(aY,ek (l3.set (aT (ah+n4)).toNat v5))]) 22 mixed J (by kernel_rfl) (by kernel_rfl) [⟨none,some 21,[13,19],fun _=>(aY,ek l3),none,[]⟩,⟨some 21,none,[],fun _=>(aY,ek (l3.set (aT (ah+n4)).toNat v5)),none,[]⟩] [] J (by kernel_rfl) J (.cons .p0 .nil) (fun _=>J)<|AT.am 13 J J<|AM.qv (aA J) J<|AM.qv (aA J) J<|AM.qv (aA J) J<|AM.qv (aU J J) J<|AM.qv (aA J) J<|AM.qv (aA J) J<|AM.qv (aA J) J<|AM.qv (aU J J) J<|AM.qv (aA J) J<|AM.qv (aA J) J<|AM.qv (aA J) J<|AM.qv (aU J J) J<|AM.qv (aS J J J e1) J<|AM.nil<|AT.rd (Rs:=[(aY,ek l3)]) (fun _=>J) J (fun _=>J) (fun _=>J) (bx (g:=Signal.av) J J (.inl .p0) J e1 J) J<|AT.am 5 J J<|AM.qv (aA J) J<|AM.qv (aA J) J<|AM.qv (aA J) J<|AM.qv (aU J J) J<|AM.qv (aS J J J e2) J<|AM.nil<|AT.rd (Rs:=[(aY,ek l3)]) (fun _=>J) J (fun _=>J) (fun _=>J) (bx (g:=Signal.av) J J (.inl .p0) J e2 J) J<|AT.am 1 J J<|AM.qv (aS J J J e3) J<|AM.nil<|AT.BG (Ti:=[(aY,ek l3)]) (Pi:=[(aY,ek (l3.set (aT (ah+n4)).toNat v5))]) (fun _=>J) (fun _=>J) (fun _=>J) J J ?_ ?_
   ·exact bQ (g:=Signal.av) (xV:=v5) J J J J e3 J .p0 J<|ae.nil ⟨_,J⟩
   refine AT.ub (fun _=>J) fun β=>ae.ghost<|ai.eqs (s:=0) (eW:=.sl 6 aY 0 (l3.set (aT (ah+n4)).toNat v5).length) J (by simp)<|ai.here<|ae.ghost<|ai.eqs (s:=16) (eW:=.sl 6 aY 0 (l3.set (aT (ah+n4)).toNat v5).length) J (by simp)<|ai.here<|ae.ghost<|ai.eqs (s:=20) (eW:=.sl 6 aY 0 (l3.set (aT (ah+n4)).toNat v5).length) J (by simp)<|ai.here<|ae.ghost<|ai.eqs (s:=24) (eW:=.sl 6 aY 0 (l3.set (aT (ah+n4)).toNat v5).length) J (by simp)<|ai.here<|ae.ghost<|ai.eqs (s:=30) (eW:=.sl 6 aY 0 (l3.set (aT (ah+n4)).toNat v5).length) J (by simp)<|ai.here<|aF h fun v8 e4 h=>ae.qv (aS J J J e4) J<|bQ (g:=Signal.av) (xV:=v6) J J J J e4 J .p0 J<|ae.ghost<|ai.eqs (s:=0) (eW:=.sl 6 aY 0 ((l3.set (aT (ah+n4)).toNat v5).set (aT (aO+n4)).toNat v6).length) J (by rw [List.length_set])<|ai.here<|ae.ghost<|ai.eqs (s:=16) (eW:=.sl 6 aY 0 ((l3.set (aT (ah+n4)).toNat v5).set (aT (aO+n4)).toNat v6).length) J (by rw [List.length_set])<|ai.here<|ae.ghost<|ai.eqs (s:=20) (eW:=.sl 6 aY 0 ((l3.set (aT (ah+n4)).toNat v5).set (aT (aO+n4)).toNat v6).length) J (by rw [List.length_set])<|ai.here<|ae.ghost<|ai.eqs (s:=24) (eW:=.sl 6 aY 0 ((l3.set (aT (ah+n4)).toNat v5).set (aT (aO+n4)).toNat v6).length) J (by rw [List.length_set])<|ai.here<|ae.ghost<|ai.eqs (s:=30) (eW:=.sl 6 aY 0 ((l3.set (aT (ah+n4)).toNat v5).set (aT (aO+n4)).toNat v6).length) J (by rw [List.length_set])<|ai.here<|rN<|aa.bN<|tR<|rM J J<|ae.qv (aU J J) J<|rA J J<|rN<|aa.stop<|?_
   cases h
   exact mL _ _ J<|ai.lq [0] J J J
  ·refine aa.exit J<|have h:=cr h iQ;aa.nil<|?_
   cases h
   exact ai.here ⟨_,.nil,_,.cons .p0 .nil,⟨J,J⟩⟩
theorem pI [GI:bF] {aY:Bk} {ab:List Signal} {ah:Int} {aO:Int} {bE:Int} {kE:Signal→Signal→Option Int} {fK:FuncId} [bu Tryz.prog fK] {ig:List AV} (oV:∀ {y0 y1:_} {u:Int},kE y0 y1=some u→Pu Tryz.prog fK (Signal.av y0 :: Signal.av y1 :: ig) (I u)) {r:(List Signal)} (h:il ab ah aO bE kE=some r):aJ Tryz.prog 231 [.sl 6 aY 0 ab.length,I ah,I aO,I bE,.func (.func fK) ig] [(aY,ek ab)] (T0 ([(aY,ek r)]) (.iV [])):=by
 unfold il at h
 refine aJ.fa ?_
 refine aJ.bD Tryz.func231 J Tryz.ntmps231 Tryz.results231 J J ?_
 refine aM<|rM J J<|rM J J<|ae.qv (bR J J) J<|rA J J<|rN<|aM<|rM J J<|rM J J<|ae.qv (bR J J) J<|rA J J<|rN<|tS<|aa.block<|aa.cj (fun x:(List Signal)×Int×Int=>et aO kE x.1 x.2.1 x.2.2) (fun x aG=>aG=⟨58,[(0,.sl 6 aY 0 x.1.length),(2,I aO),(4,.func (.func fK) ig),(10,I x.2.1),(11,I x.2.2)],[(aY,ek x.1)]⟩) h ?_ ?_
 ·exact ai.lq [0] J J J
 ·intro x z1 aG J1 eZ h mL iQ
  obtain ⟨l4,n5,n6⟩:=x
  obtain rfl:=eZ
  replace h:et aO kE l4 n5 n6=some z1:=h
  unfold et at h
  refine tS<|aM<|rM J J<|rM J J<|ae.qv (jb J J) J<|rN<|cD h J (fun h=>?_) (fun h=>?_)
  ·refine tK<|aa.block<|aM<|rM J J<|rM J J<|ae.qv (ir J J) J<|rN<|aa.cut (fun aG=>∃ (l7:List Signal) (n8:Int) (n9:Int),er l7 n8 n9=some z1∧aG=⟨58,[(0,.sl 6 aY 0 l7.length),(2,I aO),(4,.func (.func fK) ig),(10,I n8),(11,I n9)],[(aY,ek l7)]⟩) ?_ ?_
   ·refine cD h J (fun h=>?_) (fun h=>?_)
    ·exact aM<|rM J J<|rM J J<|rM J J<|ae.qv (bR J J) J<|rM J J<|rM J J<|rM J J<|aF h fun v10 e1 h=>bz J (fJ oV (kL e1)) cR (.cons .p0 .nil) J J<|ae.ghost<|ai.eqs (s:=0) (eW:=.sl 6 aY 0 v10.length) J (congrArg (AV.sl 6 aY 0) (cP e1))<|ai.here<|ae.ghost<|ai.eqs (s:=24) (eW:=.sl 6 aY 0 v10.length) J (congrArg (AV.sl 6 aY 0) (cP e1))<|ai.here<|rN<|tR<|rM J J<|rM J J<|ae.qv (bR J J) J<|rA J J<|rN<|aa.stop<|ai.lq [0] ⟨v10,aT (n5 - n6),n6,h,J⟩ J J
    ·exact aM<|rM J J<|rM J J<|rM J J<|ae.qv (bR J J) J<|rM J J<|rM J J<|ae.qv (aU J J) J<|rM J J<|ae.qv (bR J J) J<|rM J J<|rM J J<|aF h fun v11 e2 h=>bz J (fJ oV (kL e2)) cR (.cons .p0 .nil) J J<|ae.ghost<|ai.eqs (s:=0) (eW:=.sl 6 aY 0 v11.length) J (congrArg (AV.sl 6 aY 0) (cP e2))<|ai.here<|ae.ghost<|ai.eqs (s:=35) (eW:=.sl 6 aY 0 v11.length) J (congrArg (AV.sl 6 aY 0) (cP e2))<|ai.here<|rN<|tR<|rM J J<|rM J J<|ae.qv (bR J J) J<|rA J J<|rN<|aa.stop<|ai.lq [0] ⟨v11,n5,aT (n6 - n5),h,J⟩ J J
   ·rintro aG ⟨l7,n8,n9,h,rfl⟩
    unfold er at h
    refine aa.bN<|aa.stop<|?_
    cases h
    exact mL _ _ J<|ai.lq [0] J J J
  ·refine aa.exit J<|have h:=cr h iQ;?_
   unfold jY at h
   refine tR<|rM J J<|rM J J<|rM J J<|ae.qv (bR J J) J<|rM J J<|rM J J<|rM J J<|aF h fun v12 e3 h=>bz J (fJ oV (kL e3)) cR (.cons .p0 .nil) J J<|ae.ghost<|ai.eqs (s:=0) (eW:=.sl 6 aY 0 v12.length) J (congrArg (AV.sl 6 aY 0) (cP e3))<|ai.here<|ae.ghost<|ai.eqs (s:=50) (eW:=.sl 6 aY 0 v12.length) J (congrArg (AV.sl 6 aY 0) (cP e3))<|ai.here<|rN<|aa.nil<|?_
   cases h
   exact ai.here ⟨_,.nil,_,.cons .p0 .nil,⟨J,J⟩⟩
theorem nJ [GI:bF] {aY:Bk} {self:(List Signal)→Int→Int→Int→(Signal→Signal→Option Int)→Option (List Signal)} (Ls:∀ {aY:Bk} {ab:List Signal} {ah:Int} {aO:Int} {bE:Int} {kE:Signal→Signal→Option Int} {fK:FuncId} [bu Tryz.prog fK] {ig:List AV} (oV:∀ {y0 y1:_} {u:Int},kE y0 y1=some u→Pu Tryz.prog fK (Signal.av y0 :: Signal.av y1 :: ig) (I u)) {r:(List Signal)},self ab ah aO bE kE=some r→aJ Tryz.prog 171 [.sl 6 aY 0 ab.length,I ah,I aO,I bE,.func (.func fK) ig] [(aY,ek ab)] (T0 ([(aY,ek r)]) (.iV []))) {ab:List Signal} {ah:Int} {aO:Int} {bE:Int} {kE:Signal→Signal→Option Int} {fK:FuncId} [bu Tryz.prog fK] {ig:List AV} (oV:∀ {y0 y1:_} {u:Int},kE y0 y1=some u→Pu Tryz.prog fK (Signal.av y0 :: Signal.av y1 :: ig) (I u)) {r:(List Signal)} (h:fE self ab ah aO bE kE=some r):aJ Tryz.prog 171 [.sl 6 aY 0 ab.length,I ah,I aO,I bE,.func (.func fK) ig] [(aY,ek ab)] (T0 ([(aY,ek r)]) (.iV [])):=by
 unfold fE at h
 refine aJ.fa ?_
 refine aJ.bD Tryz.func171 J Tryz.ntmps171 Tryz.results171 J J ?_
 refine tS<|aM<|rM J J<|rM J J<|ae.qv (bR J J) J<|ae.qv (bY J J) J<|rN<|cD h J (fun h=>?_) (fun h=>?_)
 ·refine aM<|rM J J<|rA J J<|rN<|aM<|rM J J<|rA J J<|rN<|tS<|aa.block<|aa.cj (fun x:Int×Int=>dG ab ah kE x.1 x.2) (fun x aG=>aG=⟨220,[(0,.sl 6 aY 0 ab.length),(1,I ah),(4,.func (.func fK) ig),(10,I x.1),(11,I x.2)],[(aY,ek ab)]⟩) h ?_ ?_
  ·exact ai.lq [0] J J J
  ·intro x z1 aG J1 eZ h mL iQ
   obtain ⟨n3,n4⟩:=x
   obtain rfl:=eZ
   replace h:dG ab ah kE n3 n4=some z1:=h
   unfold dG at h
   refine tS<|aM<|rM J J<|rM J J<|ae.qv (bH J J) J<|rN<|cD h J (fun h=>?_) (fun h=>?_)
   ·refine tK<|aa.block<|aM<|rM J J<|rM J J<|ae.qv (aU J J) J<|ae.qv (jC J) J<|ae.qv (HM J J (by decide)) J<|ae.qv (jC J) J<|rA J J<|rN<|tS<|aa.bL (id:=5) (A:=[0,0,0,6,14,0,0,96,224,511,1023]) 11 mixed J (by kernel_rfl) (by kernel_rfl)<|AM.qv (aA J) J<|AM.qv (aA J) J<|AM.qv (aA J) J<|aF h fun v5 e1 h=>AM.qv (aS J J J e1) J<|AM.qv (bx (g:=Signal.av) J J (.inl .p0) J e1 J) J<|AM.qv (aA J) J<|AM.qv (aA J) J<|aF h fun v6 e2 h=>AM.qv (aS J J J e2) J<|AM.qv (bx (g:=Signal.av) J J (.inl .p0) J e2 J) J<|aF h fun v7 e3 h=>AM.yd J J (oV e3) cR J<|AM.qv (bH J J) J<|AM.nil<|rN<|aa.cut (fun aG=>∃ (n8:Int) (n9:Int),dD n8 n9=some z1∧aG=⟨220,[(0,.sl 6 aY 0 ab.length),(1,I ah),(4,.func (.func fK) ig),(10,I n8),(11,I n9)],[(aY,ek ab)]⟩) ?_ ?_
    ·refine cD h J (fun h=>?_) (fun h=>?_)
     ·exact tR<|rM J J<|ae.qv (aU J J) J<|rA J J<|rN<|aa.stop<|ai.lq [0] ⟨aT ((aT (gj .u64 (IntKind.u64.wrap (aT (n3+n4))) (1:Int)))+(1:Int)),n4,h,J⟩ J J
     ·exact tR<|rM J J<|rA J J<|rN<|aa.stop<|ai.lq [0] ⟨n3,aT (gj .u64 (IntKind.u64.wrap (aT (n3+n4))) (1:Int)),h,J⟩ J J
    ·rintro aG ⟨n8,n9,h,rfl⟩
     unfold dD at h
     refine aa.bN<|aa.stop<|?_
     cases h
     exact mL _ _ J<|ai.lq [0] J J J
   ·refine aa.exit J<|have h:=cr h iQ;tS<|aM<|rM J J<|rA J J<|rN<|aa.block<|aa.cj (fun x:(List Signal)×Int=>dE n3 x.1 x.2) (fun x aG=>aG=⟨220,[(0,.sl 6 aY 0 x.1.length),(10,I n3),(13,I x.2)],[(aY,ek x.1)]⟩) h ?_ ?_
    ·exact ai.lq [0] J J J
    ·intro x z2 aG J2 eZ h Fy Fz
     obtain ⟨sw,n13⟩:=x
     obtain rfl:=eZ
     replace h:dE n3 sw n13=some z2:=h
     unfold dE at h
     refine tS<|aM<|rM J J<|rM J J<|ae.qv (bR J J) J<|ae.qv (bH J J) J<|rN<|cD h J (fun h=>?_) (fun h=>?_)
     ·refine tK<|tS<|aa.block<|aF h fun mB e4 h=>aF h fun jP e5 h=>aF h fun og e6 h=>aa.iS (id:=11) (A:=[0,0,0,0,8,0,0,64,224,480,0,0,3072,7168,16355,32739,65535,131071]) (H0:=[(aY,ek sw)]) (HH:=fun β=>[(aY,ek (sw.set n13.toNat mB))]) 16 mixed J (by kernel_rfl) (by kernel_rfl) [⟨none,some 15,[9,13],fun _=>(aY,ek sw),none,[]⟩,⟨some 15,none,[],fun _=>(aY,ek (sw.set n13.toNat mB)),none,[]⟩] [] J (by kernel_rfl) J (.cons .p0 .nil) (fun _=>J)<|AT.am 9 J J<|AM.qv (aA J) J<|AM.qv (aA J) J<|AM.qv (aA J) J<|AM.qv (aA J) J<|AM.qv (aU J J) J<|AM.qv (aA J) J<|AM.qv (aA J) J<|AM.qv (aU J J) J<|AM.qv (aS J J J e4) J<|AM.nil<|AT.rd (Rs:=[(aY,ek sw)]) (fun _=>J) J (fun _=>J) (fun _=>J) (bx (g:=Signal.av) J J (.inl .p0) J e4 J) J<|AT.am 3 J J<|AM.qv (aA J) J<|AM.qv (aA J) J<|AM.qv (aS J J J e5) J<|AM.nil<|AT.rd (Rs:=[(aY,ek sw)]) (fun _=>J) J (fun _=>J) (fun _=>J) (bx (g:=Signal.av) J J (.inl .p0) J e5 J) J<|AT.am 1 J J<|AM.qv (aS J J J e6) J<|AM.nil<|AT.BG (Ti:=[(aY,ek sw)]) (Pi:=[(aY,ek (sw.set n13.toNat mB))]) (fun _=>J) (fun _=>J) (fun _=>J) J J ?_ ?_
      ·exact bQ (g:=Signal.av) (xV:=mB) J J J J e6 J .p0 J<|ae.nil ⟨_,J⟩
      refine AT.ub (fun _=>J) fun β=>ae.ghost<|ai.eqs (s:=0) (eW:=.sl 6 aY 0 (sw.set n13.toNat mB).length) J (by simp)<|ai.here<|ae.ghost<|ai.eqs (s:=61) (eW:=.sl 6 aY 0 (sw.set n13.toNat mB).length) J (by simp)<|ai.here<|ae.ghost<|ai.eqs (s:=63) (eW:=.sl 6 aY 0 (sw.set n13.toNat mB).length) J (by simp)<|ai.here<|ae.ghost<|ai.eqs (s:=66) (eW:=.sl 6 aY 0 (sw.set n13.toNat mB).length) J (by simp)<|ai.here<|ae.ghost<|ai.eqs (s:=71) (eW:=.sl 6 aY 0 (sw.set n13.toNat mB).length) J (by simp)<|ai.here<|aF h fun v17 e7 h=>ae.qv (aS J J J e7) J<|bQ (g:=Signal.av) (xV:=jP) J J J J e7 J .p0 J<|ae.ghost<|ai.eqs (s:=0) (eW:=.sl 6 aY 0 ((sw.set n13.toNat mB).set (aT (n13+(1:Int))).toNat jP).length) J (by rw [List.length_set])<|ai.here<|ae.ghost<|ai.eqs (s:=61) (eW:=.sl 6 aY 0 ((sw.set n13.toNat mB).set (aT (n13+(1:Int))).toNat jP).length) J (by rw [List.length_set])<|ai.here<|ae.ghost<|ai.eqs (s:=63) (eW:=.sl 6 aY 0 ((sw.set n13.toNat mB).set (aT (n13+(1:Int))).toNat jP).length) J (by rw [List.length_set])<|ai.here<|ae.ghost<|ai.eqs (s:=66) (eW:=.sl 6 aY 0 ((sw.set n13.toNat mB).set (aT (n13+(1:Int))).toNat jP).length) J (by rw [List.length_set])<|ai.here<|ae.ghost<|ai.eqs (s:=71) (eW:=.sl 6 aY 0 ((sw.set n13.toNat mB).set (aT (n13+(1:Int))).toNat jP).length) J (by rw [List.length_set])<|ai.here<|rN<|aa.bN<|tR<|rM J J<|ae.qv (aU J J) J<|rA J J<|rN<|aa.stop<|?_
      cases h
      exact Fy _ _ J<|ai.lq [0] J J J
     ·refine aa.exit J<|have h:=cr h Fz;aa.ret<|?_
      cases h
      exact ai.here ⟨_,.nil,_,.cons .p0 .nil,⟨J,J⟩⟩
 ·refine tK<|tS<|aM<|rM J J<|rM J J<|ae.qv (bR J J) J<|ae.qv (bY J J) J<|rN<|cD h J (fun h=>?_) (fun h=>?_)
  ·refine aM<|rM J J<|rA J J<|rN<|aM<|rM J J<|rA J J<|rN<|tS<|aa.block<|aa.cj (fun x:Int×Int=>dJ ab aO kE x.1 x.2) (fun x aG=>aG=⟨220,[(0,.sl 6 aY 0 ab.length),(2,I aO),(4,.func (.func fK) ig),(14,I x.1),(15,I x.2)],[(aY,ek ab)]⟩) h ?_ ?_
   ·exact ai.lq [0] J J J
   ·intro x z3 aG J3 eZ h QO QP
    obtain ⟨n20,n21⟩:=x
    obtain rfl:=eZ
    replace h:dJ ab aO kE n20 n21=some z3:=h
    unfold dJ at h
    refine tS<|aM<|rM J J<|rM J J<|ae.qv (bH J J) J<|rN<|cD h J (fun h=>?_) (fun h=>?_)
    ·refine tK<|aa.block<|aM<|rM J J<|rM J J<|ae.qv (aU J J) J<|ae.qv (jC J) J<|ae.qv (HM J J (by decide)) J<|ae.qv (jC J) J<|rA J J<|rN<|tS<|aa.bL (id:=17) (A:=[0,0,0,6,14,0,0,96,224,511,1023,2047]) 12 mixed J (by kernel_rfl) (by kernel_rfl)<|AM.qv (aA J) J<|AM.qv (aA J) J<|AM.qv (aA J) J<|aF h fun v22 e8 h=>AM.qv (aS J J J e8) J<|AM.qv (bx (g:=Signal.av) J J (.inl .p0) J e8 J) J<|AM.qv (aA J) J<|AM.qv (aA J) J<|aF h fun v23 e9 h=>AM.qv (aS J J J e9) J<|AM.qv (bx (g:=Signal.av) J J (.inl .p0) J e9 J) J<|aF h fun v24 vP h=>AM.yd J J (oV vP) cR J<|AM.qv (bH J J) J<|AM.qv (mE J) J<|AM.nil<|rN<|aa.cut (fun aG=>∃ (n25:Int) (n26:Int),dH n25 n26=some z3∧aG=⟨220,[(0,.sl 6 aY 0 ab.length),(2,I aO),(4,.func (.func fK) ig),(14,I n25),(15,I n26)],[(aY,ek ab)]⟩) ?_ ?_
     ·refine cD h J (fun h=>?_) (fun h=>?_)
      ·exact tR<|rM J J<|ae.qv (aU J J) J<|rA J J<|rN<|aa.stop<|ai.lq [0] ⟨aT ((aT (gj .u64 (IntKind.u64.wrap (aT (n20+n21))) (1:Int)))+(1:Int)),n21,h,J⟩ J J
      ·exact tR<|rM J J<|rA J J<|rN<|aa.stop<|ai.lq [0] ⟨n20,aT (gj .u64 (IntKind.u64.wrap (aT (n20+n21))) (1:Int)),h,J⟩ J J
     ·rintro aG ⟨n25,n26,h,rfl⟩
      unfold dH at h
      refine aa.bN<|aa.stop<|?_
      cases h
      exact QO _ _ J<|ai.lq [0] J J J
    ·refine aa.exit J<|have h:=cr h QP;tS<|aM<|rM J J<|rA J J<|rN<|aa.block<|aa.cj (fun x:(List Signal)×Int=>dI n20 x.1 x.2) (fun x aG=>aG=⟨220,[(0,.sl 6 aY 0 x.1.length),(14,I n20),(17,I x.2)],[(aY,ek x.1)]⟩) h ?_ ?_
     ·exact ai.lq [0] J J J
     ·intro x z4 aG J4 eZ h VE TY
      obtain ⟨xX,n30⟩:=x
      obtain rfl:=eZ
      replace h:dI n20 xX n30=some z4:=h
      unfold dI at h
      refine tS<|aM<|rM J J<|rM J J<|ae.qv (ir J J) J<|rN<|cD h J (fun h=>?_) (fun h=>?_)
      ·refine tK<|tS<|aa.block<|aF h fun v31 zk h=>aF h fun v32 Gp h=>aF h fun v33 Ij h=>aa.iS (id:=23) (A:=[0,0,0,0,8,0,0,64,224,480,0,0,3072,7168,16355,32739,65535,131071]) (H0:=[(aY,ek xX)]) (HH:=fun β=>[(aY,ek (xX.set n30.toNat v31))]) 16 mixed J (by kernel_rfl) (by kernel_rfl) [⟨none,some 15,[9,13],fun _=>(aY,ek xX),none,[]⟩,⟨some 15,none,[],fun _=>(aY,ek (xX.set n30.toNat v31)),none,[]⟩] [] J (by kernel_rfl) J (.cons .p0 .nil) (fun _=>J)<|AT.am 9 J J<|AM.qv (aA J) J<|AM.qv (aA J) J<|AM.qv (aA J) J<|AM.qv (aA J) J<|AM.qv (bR J J) J<|AM.qv (aA J) J<|AM.qv (aA J) J<|AM.qv (bR J J) J<|AM.qv (aS J J J zk) J<|AM.nil<|AT.rd (Rs:=[(aY,ek xX)]) (fun _=>J) J (fun _=>J) (fun _=>J) (bx (g:=Signal.av) J J (.inl .p0) J zk J) J<|AT.am 3 J J<|AM.qv (aA J) J<|AM.qv (aA J) J<|AM.qv (aS J J J Gp) J<|AM.nil<|AT.rd (Rs:=[(aY,ek xX)]) (fun _=>J) J (fun _=>J) (fun _=>J) (bx (g:=Signal.av) J J (.inl .p0) J Gp J) J<|AT.am 1 J J<|AM.qv (aS J J J Ij) J<|AM.nil<|AT.BG (Ti:=[(aY,ek xX)]) (Pi:=[(aY,ek (xX.set n30.toNat v31))]) (fun _=>J) (fun _=>J) (fun _=>J) J J ?_ ?_
       ·exact bQ (g:=Signal.av) (xV:=v31) J J J J Ij J .p0 J<|ae.nil ⟨_,J⟩
       refine AT.ub (fun _=>J) fun β=>ae.ghost<|ai.eqs (s:=0) (eW:=.sl 6 aY 0 (xX.set n30.toNat v31).length) J (by simp)<|ai.here<|ae.ghost<|ai.eqs (s:=113) (eW:=.sl 6 aY 0 (xX.set n30.toNat v31).length) J (by simp)<|ai.here<|ae.ghost<|ai.eqs (s:=115) (eW:=.sl 6 aY 0 (xX.set n30.toNat v31).length) J (by simp)<|ai.here<|ae.ghost<|ai.eqs (s:=118) (eW:=.sl 6 aY 0 (xX.set n30.toNat v31).length) J (by simp)<|ai.here<|ae.ghost<|ai.eqs (s:=123) (eW:=.sl 6 aY 0 (xX.set n30.toNat v31).length) J (by simp)<|ai.here<|aF h fun Pq MW h=>ae.qv (aS J J J MW) J<|bQ (g:=Signal.av) (xV:=v32) J J J J MW J .p0 J<|ae.ghost<|ai.eqs (s:=0) (eW:=.sl 6 aY 0 ((xX.set n30.toNat v31).set (aT (n30 - (1:Int))).toNat v32).length) J (by rw [List.length_set])<|ai.here<|ae.ghost<|ai.eqs (s:=113) (eW:=.sl 6 aY 0 ((xX.set n30.toNat v31).set (aT (n30 - (1:Int))).toNat v32).length) J (by rw [List.length_set])<|ai.here<|ae.ghost<|ai.eqs (s:=115) (eW:=.sl 6 aY 0 ((xX.set n30.toNat v31).set (aT (n30 - (1:Int))).toNat v32).length) J (by rw [List.length_set])<|ai.here<|ae.ghost<|ai.eqs (s:=118) (eW:=.sl 6 aY 0 ((xX.set n30.toNat v31).set (aT (n30 - (1:Int))).toNat v32).length) J (by rw [List.length_set])<|ai.here<|ae.ghost<|ai.eqs (s:=123) (eW:=.sl 6 aY 0 ((xX.set n30.toNat v31).set (aT (n30 - (1:Int))).toNat v32).length) J (by rw [List.length_set])<|ai.here<|rN<|aa.bN<|tR<|rM J J<|ae.qv (bR J J) J<|rA J J<|rN<|aa.stop<|?_
       cases h
       exact VE _ _ J<|ai.lq [0] J J J
      ·refine aa.exit J<|have h:=cr h TY;aa.ret<|?_
       cases h
       exact ai.here ⟨_,.nil,_,.cons .p0 .nil,⟨J,J⟩⟩
  ·refine tK<|aM<|rM J J<|rM J J<|ae.qv (aU J J) J<|ae.qv (jC J) J<|ae.qv (HM J J (by decide)) J<|ae.qv (jC J) J<|rA J J<|rN<|aM<|rM J J<|rM J J<|ae.qv (aU J J) J<|rA J J<|rN<|aM<|rA J J<|rA J J<|rN<|tS<|aM<|rM J J<|rM J J<|ae.qv (ir J J) J<|rN<|aa.cut (fun aG=>∃ (n35:Int) (n36:Int),dO self ab ah aO bE kE n35 n36=some r∧aG=⟨220,[(0,.sl 6 aY 0 ab.length),(1,I ah),(2,I aO),(3,I bE),(4,.func (.func fK) ig),(18,I (aT (gj .u64 (IntKind.u64.wrap (aT (ah+bE))) (1:Int)))),(19,I (aT ((aT (gj .u64 (IntKind.u64.wrap (aT (ah+bE))) (1:Int)))+aO))),(20,I n35),(21,I n36)],[(aY,ek ab)]⟩) ?_ ?_
   ·refine cD h J (fun h=>?_) (fun h=>?_)
    ·exact aM<|rM J J<|rM J J<|ae.qv (bR J J) J<|rA J J<|rN<|tR<|rM J J<|rA J J<|rN<|aa.stop<|ai.lq [0] ⟨aT ((aT ((aT (gj .u64 (IntKind.u64.wrap (aT (ah+bE))) (1:Int)))+aO)) - bE),aT (gj .u64 (IntKind.u64.wrap (aT (ah+bE))) (1:Int)),h,J⟩ J J
    ·exact aM<|rM J J<|rA J J<|rN<|tR<|rM J J<|rA J J<|rN<|aa.stop<|ai.lq [0] ⟨ah,aO,h,J⟩ J J
   ·rintro aG ⟨n35,n36,h,rfl⟩
    unfold dO at h
    refine aM<|rM J J<|ae.qv (bR J J) J<|rA J J<|rN<|tS<|aa.block<|aa.cj (fun x:Int×Int=>dN self ab ah aO bE kE x.1 x.2) (fun x aG=>aG=⟨220,[(0,.sl 6 aY 0 ab.length),(1,I ah),(2,I aO),(3,I bE),(4,.func (.func fK) ig),(18,I (aT (gj .u64 (IntKind.u64.wrap (aT (ah+bE))) (1:Int)))),(19,I (aT ((aT (gj .u64 (IntKind.u64.wrap (aT (ah+bE))) (1:Int)))+aO))),(20,I x.1),(21,I x.2),(22,I (aT ((aT ((aT (gj .u64 (IntKind.u64.wrap (aT (ah+bE))) (1:Int)))+aO)) - (1:Int))))],[(aY,ek ab)]⟩) h ?_ ?_
    ·exact ai.lq [0] J J J
    ·intro x z5 aG J5 eZ h TZ T3
     obtain ⟨n39,n40⟩:=x
     obtain rfl:=eZ
     replace h:dN self ab ah aO bE kE n39 n40=some z5:=h
     unfold dN at h
     refine tS<|aM<|rM J J<|rM J J<|ae.qv (bH J J) J<|rN<|cD h J (fun h=>?_) (fun h=>?_)
     ·refine tK<|aa.block<|aM<|rM J J<|rM J J<|ae.qv (aU J J) J<|ae.qv (jC J) J<|ae.qv (HM J J (by decide)) J<|ae.qv (jC J) J<|rA J J<|rN<|tS<|aa.bL (id:=35) (A:=[0,0,0,0,12,30,62,0,0,384,896,2047,4095,8191]) 14 mixed J (by kernel_rfl) (by kernel_rfl)<|AM.qv (aA J) J<|AM.qv (aA J) J<|AM.qv (aA J) J<|AM.qv (aA J) J<|AM.qv (bR J J) J<|aF h fun v41 AG h=>AM.qv (aS J J J AG) J<|AM.qv (bx (g:=Signal.av) J J (.inl .p0) J AG J) J<|AM.qv (aA J) J<|AM.qv (aA J) J<|aF h fun v42 R4 h=>AM.qv (aS J J J R4) J<|AM.qv (bx (g:=Signal.av) J J (.inl .p0) J R4 J) J<|aF h fun Jn T4 h=>AM.yd J J (oV T4) cR J<|AM.qv (bH J J) J<|AM.qv (mE J) J<|AM.nil<|rN<|aa.cut (fun aG=>∃ (n44:Int) (n45:Int),dK n44 n45=some z5∧aG=⟨220,[(0,.sl 6 aY 0 ab.length),(1,I ah),(2,I aO),(3,I bE),(4,.func (.func fK) ig),(18,I (aT (gj .u64 (IntKind.u64.wrap (aT (ah+bE))) (1:Int)))),(19,I (aT ((aT (gj .u64 (IntKind.u64.wrap (aT (ah+bE))) (1:Int)))+aO))),(20,I n44),(21,I n45),(22,I (aT ((aT ((aT (gj .u64 (IntKind.u64.wrap (aT (ah+bE))) (1:Int)))+aO)) - (1:Int))))],[(aY,ek ab)]⟩) ?_ ?_
      ·refine cD h J (fun h=>?_) (fun h=>?_)
       ·exact tR<|rM J J<|ae.qv (aU J J) J<|rA J J<|rN<|aa.stop<|ai.lq [0] ⟨aT ((aT (gj .u64 (IntKind.u64.wrap (aT (n39+n40))) (1:Int)))+(1:Int)),n40,h,J⟩ J J
       ·exact tR<|rM J J<|rA J J<|rN<|aa.stop<|ai.lq [0] ⟨n39,aT (gj .u64 (IntKind.u64.wrap (aT (n39+n40))) (1:Int)),h,J⟩ J J
      ·rintro aG ⟨n44,n45,h,rfl⟩
       unfold dK at h
       refine aa.bN<|aa.stop<|?_
       cases h
       exact TZ _ _ J<|ai.lq [0] J J J
     ·refine aa.exit J<|have h:=cr h T3;aM<|rM J J<|rM J J<|ae.qv (bR J J) J<|rA J J<|rN<|tS<|tS<|aa.cut (fun aG=>∃ (c46:Bool),fD self ab ah aO bE kE n39 c46=some r∧aG=⟨220,[(0,.sl 6 aY 0 ab.length),(1,I ah),(2,I aO),(3,I bE),(4,.func (.func fK) ig),(18,I (aT (gj .u64 (IntKind.u64.wrap (aT (ah+bE))) (1:Int)))),(20,I n39),(24,I (aT ((aT ((aT (gj .u64 (IntKind.u64.wrap (aT (ah+bE))) (1:Int)))+aO)) - n39))),(185,.bool c46)],[(aY,ek ab)]⟩) ?_ ?_
      ·refine tR<|rM J J<|rM J J<|ae.qv (bH J J) J<|rM J J<|ae.bW J J J (fun hc=>?_) (fun hc=>?_)
       ·rw [lM hc] at h
        exact rM J J<|rY J J J<|rM J J<|rY J J J<|ae.qv (bH J J) J<|rT J J J<|rN<|aa.stop<|ai.lq [0] ⟨decide (aO < (aT ((aT ((aT (gj .u64 (IntKind.u64.wrap (aT (ah+bE))) (1:Int)))+aO)) - n39))),h,J⟩ J J
       ·rw [lN hc] at h
        exact rG J J J J<|rG J J J J<|rE J J J<|rN<|aa.stop<|ai.lq [0] ⟨false,h,J⟩ J J
      ·rintro aG ⟨c46,h,rfl⟩
       unfold fD at h
       refine aa.cut (fun aG=>∃ (Ie:List Signal),dM self ah aO bE kE n39 Ie=some r∧aG=⟨220,[(0,.sl 6 aY 0 Ie.length),(1,I ah),(3,I bE),(4,.func (.func fK) ig),(18,I (aT (gj .u64 (IntKind.u64.wrap (aT (ah+bE))) (1:Int)))),(20,I n39),(24,I (aT ((aT ((aT (gj .u64 (IntKind.u64.wrap (aT (ah+bE))) (1:Int)))+aO)) - n39)))],[(aY,ek Ie)]⟩) ?_ ?_
       ·refine cB h J (fun h=>?_) (fun h=>?_)
        ·exact tR<|rM J J<|rM J J<|rM J J<|rM J J<|rM J J<|aF h fun bI Ps h=>bz J (pI oV (kL Ps)) cR (.cons .p0 .nil) J J<|ae.ghost<|ai.eqs (s:=0) (eW:=.sl 6 aY 0 bI.length) J (congrArg (AV.sl 6 aY 0) (cP Ps))<|ai.here<|ae.ghost<|ai.eqs (s:=186) (eW:=.sl 6 aY 0 bI.length) J (congrArg (AV.sl 6 aY 0) (cP Ps))<|ai.here<|rN<|aa.stop<|ai.lq [0] ⟨bI,h,J⟩ J J
        ·exact tK<|aa.stop<|ai.lq [0] ⟨ab,h,J⟩ J J
       ·rintro aG ⟨Ie,h,rfl⟩
        unfold dM at h
        refine tS<|tS<|aa.cut (fun aG=>∃ (c49:Bool),fC self ah aO bE kE n39 Ie c49=some r∧aG=⟨220,[(0,.sl 6 aY 0 Ie.length),(1,I ah),(3,I bE),(4,.func (.func fK) ig),(18,I (aT (gj .u64 (IntKind.u64.wrap (aT (ah+bE))) (1:Int)))),(20,I n39),(24,I (aT ((aT ((aT (gj .u64 (IntKind.u64.wrap (aT (ah+bE))) (1:Int)))+aO)) - n39))),(199,.bool c49)],[(aY,ek Ie)]⟩) ?_ ?_
        ·refine tR<|rM J J<|rM J J<|ae.qv (bH J J) J<|rM J J<|ae.bW J J J (fun hc=>?_) (fun hc=>?_)
         ·rw [lM hc] at h
          exact rM J J<|rY J J J<|rM J J<|rY J J J<|ae.qv (bH J J) J<|rT J J J<|rN<|aa.stop<|ai.lq [0] ⟨decide (n39 < (aT (gj .u64 (IntKind.u64.wrap (aT (ah+bE))) (1:Int)))),h,J⟩ J J
         ·rw [lN hc] at h
          exact rG J J J J<|rG J J J J<|rE J J J<|rN<|aa.stop<|ai.lq [0] ⟨false,h,J⟩ J J
        ·rintro aG ⟨c49,h,rfl⟩
         unfold fC at h
         refine aa.cut (fun aG=>∃ (Ic:List Signal),dL self ah aO bE kE n39 Ic=some r∧aG=⟨220,[(0,.sl 6 aY 0 Ic.length),(3,I bE),(4,.func (.func fK) ig),(18,I (aT (gj .u64 (IntKind.u64.wrap (aT (ah+bE))) (1:Int)))),(24,I (aT ((aT ((aT (gj .u64 (IntKind.u64.wrap (aT (ah+bE))) (1:Int)))+aO)) - n39)))],[(aY,ek Ic)]⟩) ?_ ?_
         ·refine cB h J (fun h=>?_) (fun h=>?_)
          ·exact tR<|rM J J<|rM J J<|rM J J<|rM J J<|rM J J<|aF h fun v51 Oq h=>bz J (Ls oV (kL Oq)) cR (.cons .p0 .nil) J J<|ae.ghost<|ai.eqs (s:=0) (eW:=.sl 6 aY 0 v51.length) J (congrArg (AV.sl 6 aY 0) (cP Oq))<|ai.here<|ae.ghost<|ai.eqs (s:=200) (eW:=.sl 6 aY 0 v51.length) J (congrArg (AV.sl 6 aY 0) (cP Oq))<|ai.here<|rN<|aa.stop<|ai.lq [0] ⟨v51,h,J⟩ J J
          ·exact tK<|aa.stop<|ai.lq [0] ⟨Ie,h,J⟩ J J
         ·rintro aG ⟨Ic,h,rfl⟩
          unfold dL at h
          refine tS<|aa.cut (fun aG=>∃ (Tt:Bool),fB self ah aO bE kE n39 Ic Tt=some r∧aG=⟨220,[(0,.sl 6 aY 0 Ic.length),(3,I bE),(4,.func (.func fK) ig),(18,I (aT (gj .u64 (IntKind.u64.wrap (aT (ah+bE))) (1:Int)))),(24,I (aT ((aT ((aT (gj .u64 (IntKind.u64.wrap (aT (ah+bE))) (1:Int)))+aO)) - n39))),(213,.bool Tt)],[(aY,ek Ic)]⟩) ?_ ?_
          ·refine tR<|rM J J<|rM J J<|ae.qv (bH J J) J<|rM J J<|ae.bW J J J (fun hc=>?_) (fun hc=>?_)
           ·rw [lM hc] at h
            exact rM J J<|rY J J J<|rM J J<|rY J J J<|ae.qv (bH J J) J<|rT J J J<|rN<|aa.stop<|ai.lq [0] ⟨decide ((aT ((aT ((aT (gj .u64 (IntKind.u64.wrap (aT (ah+bE))) (1:Int)))+aO)) - n39)) < bE),h,J⟩ J J
           ·rw [lN hc] at h
            exact rG J J J J<|rG J J J J<|rE J J J<|rN<|aa.stop<|ai.lq [0] ⟨false,h,J⟩ J J
          ·rintro aG ⟨Tt,h,rfl⟩
           unfold fB at h
           refine aa.cut (fun aG=>∃ (GZ:List Signal),dj GZ=some r∧aG=⟨220,[],[(aY,ek GZ)]⟩) ?_ ?_
           ·refine cB h J (fun h=>?_) (fun h=>?_)
            ·exact tR<|rM J J<|rM J J<|rM J J<|rM J J<|rM J J<|aF h fun v54 T5 h=>bz J (Ls oV (kL T5)) cR (.cons .p0 .nil) J J<|ae.ghost<|ai.eqs (s:=0) (eW:=.sl 6 aY 0 v54.length) J (congrArg (AV.sl 6 aY 0) (cP T5))<|ai.here<|ae.ghost<|ai.eqs (s:=214) (eW:=.sl 6 aY 0 v54.length) J (congrArg (AV.sl 6 aY 0) (cP T5))<|ai.here<|rN<|aa.stop<|ai.lq [0] ⟨v54,h,J⟩ J J
            ·exact tK<|aa.stop<|ai.lq [0] ⟨Ic,h,J⟩ J J
           ·rintro aG ⟨GZ,h,rfl⟩
            unfold dj at h
            refine aa.nil<|?_
            cases h
            exact ai.here ⟨_,.nil,_,.cons .p0 .nil,⟨J,J⟩⟩
theorem oc [GI:bF]:∀ (k:Nat) {aY:Bk} {ab:List Signal} {ah:Int} {aO:Int} {bE:Int} {kE:Signal→Signal→Option Int} {fK:FuncId} [bu Tryz.prog fK] {ig:List AV} (oV:∀ {y0 y1:_} {u:Int},kE y0 y1=some u→Pu Tryz.prog fK (Signal.av y0 :: Signal.av y1 :: ig) (I u)) {r:(List Signal)},fW k ab ah aO bE kE=some r→aJ Tryz.prog 171 [.sl 6 aY 0 ab.length,I ah,I aO,I bE,.func (.func fK) ig] [(aY,ek ab)] (T0 ([(aY,ek r)]) (.iV [])):=by
 intro k
 induction k with
 | zero=>intro aY ab ah aO bE kE fK _ ig oV r h;cases h
 | succ k ih=>intro aY ab ah aO bE kE fK _ ig oV r h;exact nJ ih oV h
theorem jM [GI:bF] {aY:Bk} {ab:List Signal} {ah:Int} {aO:Int} {bE:Int} {kE:Signal→Signal→Option Int} {fK:FuncId} [bu Tryz.prog fK] {ig:List AV} (oV:∀ {y0 y1:_} {u:Int},kE y0 y1=some u→Pu Tryz.prog fK (Signal.av y0 :: Signal.av y1 :: ig) (I u)) {r:(List Signal)} (h:gE ab ah aO bE kE=some r):aJ Tryz.prog 171 [.sl 6 aY 0 ab.length,I ah,I aO,I bE,.func (.func fK) ig] [(aY,ek ab)] (T0 ([(aY,ek r)]) (.iV [])):=oc depth oV h
theorem pJ [GI:bF] {aY:Bk} {ab:List Signal} {ah:Int} {xl:Signal→Signal→Option Int} {AH:FuncId} [bu Tryz.prog AH] {Cu:List AV} (Ik:∀ {y0 y1:_} {u:Int},xl y0 y1=some u→Pu Tryz.prog AH (Signal.av y0 :: Signal.av y1 :: Cu) (I u)) {r:(List Signal)} (h:dP ab ah xl=some r):aJ Tryz.prog 117 [.sl 6 aY 0 ab.length,I ah,.func (.func AH) Cu] [(aY,ek ab)] (T0 ([(aY,ek r)]) (.iV [])):=by
 unfold dP at h
 refine aJ.fa ?_
 refine aJ.bD Tryz.func117 J Tryz.ntmps117 Tryz.results117 J J ?_
 refine aM<|rA J J<|rN<|aM<|rM J J<|rA J J<|rA J J<|rN<|tS<|aa.block<|aa.cj (fun x:(List Signal)×Int×Int=>cK ah xl x.1 x.2.1 x.2.2) (fun x aG=>aG=⟨63,[(0,.sl 6 aY 0 x.1.length),(1,I ah),(2,.func (.func AH) Cu),(6,I (20:Int)),(7,I x.2.1),(8,I x.2.2)],[(aY,ek x.1)]⟩) h ?_ ?_
 ·exact ai.lq [0] J J J
 ·intro x z1 aG J1 eZ h mL iQ
  obtain ⟨l4,n5,n6⟩:=x
  obtain rfl:=eZ
  replace h:cK ah xl l4 n5 n6=some z1:=h
  unfold cK at h
  refine tS<|aM<|rM J J<|rM J J<|ae.qv (rS J J) J<|rN<|cD h J (fun h=>?_) (fun h=>?_)
  ·refine tK<|aa.block<|aM<|rM J J<|rM J J<|rM J J<|rM J J<|aF h fun v7 e1 h=>bz J (ie Ik (kL e1)) cR (.cons .p0 .nil) J J<|ae.ghost<|ai.eqs (s:=0) (eW:=.sl 6 aY 0 v7.length) J (congrArg (AV.sl 6 aY 0) (cP e1))<|ai.here<|ae.ghost<|ai.eqs (s:=14) (eW:=.sl 6 aY 0 v7.length) J (congrArg (AV.sl 6 aY 0) (cP e1))<|ai.here<|rN<|aM<|rM J J<|rA J J<|rN<|tR<|rM J J<|rM J J<|ae.qv (aU J J) J<|rA J J<|rN<|aa.bN<|aa.stop<|?_
   cases h
   exact mL _ _ J<|ai.lq [0] J J J
  ·refine aa.exit J<|have h:=cr h iQ;?_
   unfold gm at h
   refine aM<|rM J J<|rM J J<|rM J J<|rM J J<|aF h fun v8 e2 h=>bz J (ie Ik (kL e2)) cR (.cons .p0 .nil) J J<|ae.ghost<|ai.eqs (s:=0) (eW:=.sl 6 aY 0 v8.length) J (congrArg (AV.sl 6 aY 0) (cP e2))<|ai.here<|ae.ghost<|ai.eqs (s:=23) (eW:=.sl 6 aY 0 v8.length) J (congrArg (AV.sl 6 aY 0) (cP e2))<|ai.here<|rN<|aa.block<|aa.cj (fun x:(List Signal)×Int=>cJ ah xl x.1 x.2) (fun x aG=>aG=⟨63,[(0,.sl 6 aY 0 x.1.length),(1,I ah),(2,.func (.func AH) Cu),(6,I x.2)],[(aY,ek x.1)]⟩) h ?_ ?_
   ·exact ai.lq [0] J J J
   ·intro x z2 aG J2 eZ h Fy Fz
    obtain ⟨iU,n12⟩:=x
    obtain rfl:=eZ
    replace h:cJ ah xl iU n12=some z2:=h
    unfold cJ at h
    refine tS<|aM<|rM J J<|rM J J<|ae.qv (bH J J) J<|rN<|cD h J (fun h=>?_) (fun h=>?_)
    ·refine tK<|aa.block<|aM<|rM J J<|ae.qv (xZ J J) J<|rA J J<|rA J J<|rN<|tS<|aa.block<|aa.cj (fun x:(List Signal)×Int×Int=>ew ah xl n12 x.1 x.2.1 x.2.2) (fun x aG=>aG=⟨63,[(0,.sl 6 aY 0 x.1.length),(1,I ah),(2,.func (.func AH) Cu),(6,I n12),(7,I x.2.1),(8,I x.2.2)],[(aY,ek x.1)]⟩) h ?_ ?_
     ·exact ai.lq [0] J J J
     ·intro x z3 aG J3 eZ h QO QP
      obtain ⟨kA,n17,n18⟩:=x
      obtain rfl:=eZ
      replace h:ew ah xl n12 kA n17 n18=some z3:=h
      unfold ew at h
      refine tS<|aM<|rM J J<|rM J J<|ae.qv (rS J J) J<|rN<|cD h J (fun h=>?_) (fun h=>?_)
      ·refine tK<|aa.block<|aM<|rM J J<|rM J J<|rM J J<|rM J J<|ae.qv (aU J J) J<|rM J J<|rM J J<|aF h fun Bp e3 h=>bz J (jM Ik (kL e3)) cR (.cons .p0 .nil) J J<|ae.ghost<|ai.eqs (s:=0) (eW:=.sl 6 aY 0 Bp.length) J (congrArg (AV.sl 6 aY 0) (cP e3))<|ai.here<|ae.ghost<|ai.eqs (s:=36) (eW:=.sl 6 aY 0 Bp.length) J (congrArg (AV.sl 6 aY 0) (cP e3))<|ai.here<|rN<|aM<|rM J J<|rA J J<|rN<|tR<|rM J J<|rM J J<|ae.qv (xZ J J) J<|ae.qv (aU J J) J<|rA J J<|rN<|aa.bN<|aa.stop<|?_
       cases h
       exact QO _ _ J<|ai.lq [0] J J J
      ·refine aa.exit J<|have h:=cr h QP;?_
       unfold jZ at h
       refine tS<|aM<|rM J J<|rM J J<|ae.qv (aU J J) J<|rA J J<|rN<|aM<|rM J J<|rM J J<|ae.qv (bH J J) J<|rN<|aa.cut (fun aG=>∃ (tv:List Signal),eu n12 tv=some z2∧aG=⟨63,[(0,.sl 6 aY 0 tv.length),(1,I ah),(2,.func (.func AH) Cu),(6,I n12)],[(aY,ek tv)]⟩) ?_ ?_
       ·refine cD h J (fun h=>?_) (fun h=>?_)
        ·exact tR<|rM J J<|rM J J<|rM J J<|rM J J<|rM J J<|aF h fun v21 e4 h=>bz J (jM Ik (kL e4)) cR (.cons .p0 .nil) J J<|ae.ghost<|ai.eqs (s:=0) (eW:=.sl 6 aY 0 v21.length) J (congrArg (AV.sl 6 aY 0) (cP e4))<|ai.here<|ae.ghost<|ai.eqs (s:=55) (eW:=.sl 6 aY 0 v21.length) J (congrArg (AV.sl 6 aY 0) (cP e4))<|ai.here<|rN<|aa.stop<|ai.lq [0] ⟨v21,h,J⟩ J J
        ·exact tK<|aa.stop<|ai.lq [0] ⟨kA,h,J⟩ J J
       ·rintro aG ⟨tv,h,rfl⟩
        unfold eu at h
        refine tR<|rM J J<|ae.qv (xZ J J) J<|rA J J<|rN<|aa.bN<|aa.stop<|?_
        cases h
        exact Fy _ _ J<|ai.lq [0] J J J
    ·refine aa.exit J<|have h:=cr h Fz;aa.nil<|?_
     cases h
     exact ai.here ⟨_,.nil,_,.cons .p0 .nil,⟨J,J⟩⟩
theorem mM [GI:bF] {aY:Bk} {ab:List Signal} {oK:Signal→Signal→Option Int} {oH:FuncId} [bu Tryz.prog oH] {re:List AV} (yT:∀ {y0 y1:_} {u:Int},oK y0 y1=some u→Pu Tryz.prog oH (Signal.av y0 :: Signal.av y1 :: re) (I u)) {r:(List Signal)} (h:bZ ab oK=some r):aJ Tryz.prog 43 [.sl 6 aY 0 ab.length,.func (.func oH) re] [(aY,ek ab)] (T0 ([(aY,ek r)]) (.iV [])):=by
 unfold bZ at h
 refine aJ.fa ?_
 refine aJ.bD Tryz.func43 J Tryz.ntmps43 Tryz.results43 J J ?_
 refine tR<|rM J J<|rM J J<|ae.qv (cH J) J<|rM J J<|aF h fun v1 e1 h=>bz J (pJ yT (kL e1)) cR (.cons .p0 .nil) J J<|ae.ghost<|ai.eqs (s:=0) (eW:=.sl 6 aY 0 v1.length) J (congrArg (AV.sl 6 aY 0) (cP e1))<|ai.here<|ae.ghost<|ai.eqs (s:=4) (eW:=.sl 6 aY 0 v1.length) J (congrArg (AV.sl 6 aY 0) (cP e1))<|ai.here<|ae.ghost<|ai.eqs (s:=5) (eW:=.sl 6 aY 0 v1.length) J (congrArg (AV.sl 6 aY 0) (cP e1))<|ai.here<|rN<|aa.nil<|?_
 cases h
 exact ai.here ⟨_,.nil,_,.cons .p0 .nil,⟨J,J⟩⟩
theorem pn [GI:bF] {aY:Bk} {ab:ar} {ah:Int} {r:Bool×ar} (h:jh ab ah=some r):aJ Tryz.prog 45 [.ptr aY 0,I ah] [(aY,.cells [gx ab.L,I ab.at_])] (T0 ([(aY,.cells [gx r.2.L,I r.2.at_])]) (.bool r.1)):=by
 unfold jh at h
 refine aJ.fa ?_
 refine aJ.bD Tryz.func45 J Tryz.ntmps45 Tryz.results45 J J ?_
 refine aM<|rA J J<|rN<|aM<|rM J J<|rM J J<|aF h fun v1 e1 h=>bz J (gA e1) cR (.cons .p0 .nil) J J<|ae.qv (bY J J) J<|rA J J<|rN<|aa.ret<|?_
 cases h
 exact hH J [0] J ⟨J,J⟩
theorem vQ [GI:bF] {ab:Signal} {ah:Signal} {r:Bool} (h:ji ab ah=some r):Pu Tryz.prog 47 [Signal.av ab,Signal.av ah] (.bool r):=by
 unfold ji at h
 refine aJ.bD Tryz.func47 J Tryz.ntmps47 Tryz.results47 J J ?_
 refine aM<|jU J J J J fun b1=>jU J J J J fun b2=>rA J J<|rN<|aM<|ae.qv (bb J J .p1 J) J<|ae.qv (bb J J .p0 J) J<|aF h fun v3 e1 h=>bw J (pZ e1) cR J<|ae.qv (bY J J) J<|rA J J<|rN<|aa.ret<|?_
 cases h
 exact hP J J
theorem nK [GI:bF] {aY:Bk} {ab:List Signal} {oK:Signal→Signal→Option Bool} {oH:FuncId} [bu Tryz.prog oH] {re:List AV} (yT:∀ {y0 y1:_} {u:Bool},oK y0 y1=some u→Pu Tryz.prog oH (Signal.av y0 :: Signal.av y1 :: re) (.bool u)) {r:(List Signal)} (h:dQ ab oK=some r):aJ Tryz.prog 46 [.sl 6 aY 0 ab.length,.func (.func oH) re] [(aY,ek ab)] (T1 (fun mS=>[(mS,ek r)]) (fun mS=>.sl 6 mS 0 r.length)):=by
 unfold dQ at h
 refine aJ.fa ?_
 refine aJ.bD Tryz.func46 J Tryz.ntmps46 Tryz.results46 J J ?_
 refine aM<|rA J J<|rN<|tS<|aM<|rM J J<|ae.qv (cH J) J<|ae.qv (bH J J) J<|rN<|cD h J (fun h=>?_) (fun h=>?_)
 ·refine aM<|rM J J<|rA J J<|rN<|aa.ret<|?_
  cases h
  exact hH J [0] J ⟨aY,J,J⟩
 ·refine tK<|tS<|aM<|rA J J<|rN<|aa.block<|aa.cj (fun x:Int=>cT ab oK x) (fun x aG=>aG=⟨66,[(0,.sl 6 aY 0 ab.length),(1,.func (.func oH) re),(5,I x)],[(aY,ek ab)]⟩) h ?_ ?_
  ·exact ai.lq [0] J J J
  ·intro n2 z1 aG J1 eZ h mL iQ
   obtain rfl:=eZ
   replace h:cT ab oK n2=some z1:=h
   unfold cT at h
   refine tS<|aM<|rM J J<|rM J J<|ae.qv (cH J) J<|ae.qv (bH J J) J<|rN<|cD h J (fun h=>?_) (fun h=>?_)
   ·refine tK<|tS<|aa.block<|tS<|aa.bL (id:=6) (A:=[0,0,0,6,14,0,0,64,224,480,1023]) 11 mixed J (by kernel_rfl) (by kernel_rfl)<|AM.qv (aA J) J<|AM.qv (aA J) J<|AM.qv (aA J) J<|aF h fun v3 e1 h=>AM.qv (aS J J J e1) J<|AM.qv (bx (g:=Signal.av) J J (.inl .p0) J e1 J) J<|AM.qv (aA J) J<|AM.qv (aA J) J<|AM.qv (bR J J) J<|aF h fun v4 e2 h=>AM.qv (aS J J J e2) J<|AM.qv (bx (g:=Signal.av) J J (.inl .p0) J e2 J) J<|aF h fun v5 e3 h=>AM.yd J J (yT e3) cR J<|AM.nil<|rN<|cB h J (fun h=>?_) (fun h=>?_)
    ·refine aM<|rM J J<|rM J J<|aF h fun l6 e4 h=>ae.qv (kK J J (.some _ _ _ J) .none J J e4) J<|rA J J<|rN<|tS<|aM<|rA J J<|rN<|aa.block<|aa.cj (fun x:(List Signal)×Int×Int=>cS oK n2 l6 x.1 x.2.1 x.2.2) (fun x aG=>aG=⟨66,[(0,.sl 6 aY 0 x.1.length),(1,.func (.func oH) re),(5,I x.2.1),(6,.sl 6 aY n2.toNat l6.length),(7,I x.2.2)],[(aY,ek x.1)]⟩) h ?_ ?_
     ·exact ai.lq [0] J J J
     ·intro x z2 aG J2 eZ h Fy Fz
      obtain ⟨l10,n11,n12⟩:=x
      obtain rfl:=eZ
      replace h:cS oK n2 l6 l10 n11 n12=some z2:=h
      unfold cS at h
      refine tS<|aM<|rM J J<|rM J J<|ae.qv (x9 J) J<|ae.qv (bH J J) J<|rN<|cD h J (fun h=>?_) (fun h=>?_)
      ·refine tK<|tS<|aa.block<|tS<|aa.bL (id:=11) (A:=[0,0,0,6,14,0,0,64,224,480,1023,2047]) 12 mixed J (by kernel_rfl) (by kernel_rfl)<|AM.qv (aA J) J<|AM.qv (aA J) J<|AM.qv (aA J) J<|aF h fun oN e5 h=>AM.qv (jd (L:=n2) J J J e5) J<|AM.qv (bx (g:=Signal.av) J J (.inl .p0) J (lx e5).2 J) J<|AM.qv (aA J) J<|AM.qv (aA J) J<|AM.qv (bR J J) J<|aF h fun mB e6 h=>AM.qv (jd (L:=n2) J J J e6) J<|AM.qv (bx (g:=Signal.av) J J (.inl .p0) J (lx e6).2 J) J<|aF h fun jP e7 h=>AM.yd J J (yT e7) cR J<|AM.qv (fj J) J<|AM.nil<|rN<|aa.cut (fun aG=>∃ (kA:List Signal) (n17:Int),cQ n12 kA n17=some z2∧aG=⟨66,[(0,.sl 6 aY 0 kA.length),(1,.func (.func oH) re),(5,I n17),(6,.sl 6 aY n2.toNat l6.length),(7,I n12)],[(aY,ek kA)]⟩) ?_ ?_
       ·refine cB h J (fun h=>?_) (fun h=>?_)
        ·exact aM<|rM J J<|rM J J<|rM J J<|rM J J<|aF h fun G0 e8 h=>ae.qv (jd (L:=n2) J J J e8) J<|ae.qv (bx (g:=Signal.av) J J (.inl .p0) J (lx e8).2 J) J<|aF h fun Bp e9 h=>ae.qv (aS J J J e9) J<|bQ (g:=Signal.av) (xV:=G0) J J J J e9 J .p0 J<|ae.ghost<|ai.eqs (s:=0) (eW:=.sl 6 aY 0 (l10.set n11.toNat G0).length) J (by rw [List.length_set])<|ai.here<|ae.ghost<|ai.eqs (s:=50) (eW:=.sl 6 aY 0 (l10.set n11.toNat G0).length) J (by rw [List.length_set])<|ai.here<|rN<|tR<|rM J J<|ae.qv (aU J J) J<|rA J J<|rN<|aa.stop<|ai.lq [0] ⟨l10.set n11.toNat G0,aT (n11+(1:Int)),h,J⟩ J J
        ·exact tK<|aa.stop<|ai.lq [0] ⟨l10,n11,h,J⟩ J J
       ·rintro aG ⟨kA,n17,h,rfl⟩
        unfold cQ at h
        refine aa.bN<|tR<|rM J J<|ae.qv (aU J J) J<|rA J J<|rN<|aa.stop<|?_
        cases h
        exact Fy _ _ J<|ai.lq [0] J J J
      ·refine aa.exit J<|have h:=cr h Fz;?_
       unfold iv at h
       refine aM<|rM J J<|rM J J<|aF h fun tv vP h=>ae.qv (kK J J (.some _ _ _ J) .none J J vP) J<|Dk (g:=Signal.av) (Z:=(⟨(0:Int),(0:Int),[],[],[],(0:Int)⟩:Signal)) (L:=n11) J J J J J J vP .p0<|ae.ghost<|ai.eqs (s:=0) (eW:=.sl 6 aY 0 (Cf l10 n11 tv.length (⟨(0:Int),(0:Int),[],[],[],(0:Int)⟩:Signal)).length) J (congrArg (AV.sl 6 aY 0) (vm vP))<|ai.here<|ae.ghost<|ai.eqs (s:=59) (eW:=.sl 6 aY 0 (Cf l10 n11 tv.length (⟨(0:Int),(0:Int),[],[],[],(0:Int)⟩:Signal)).length) J (congrArg (AV.sl 6 aY 0) (vm vP))<|ai.here<|rN<|aM<|rM J J<|rM J J<|aF h fun qT zk h=>ae.qv (kK J J .none (.some _ _ _ J) J J zk) J<|rA J J<|ae.ghost<|ai.KT zk .p0<|ai.here<|rN<|aa.ret<|have h:=cr h iQ;?_
       cases h
       exact hH J [0] J ⟨aY,J,J⟩
    ·refine tK<|aa.bN<|tR<|rM J J<|ae.qv (aU J J) J<|rA J J<|rN<|aa.stop<|?_
     cases h
     exact mL _ _ J<|ai.lq [0] J J J
   ·refine aa.exit J<|have h:=cr h iQ;aM<|rM J J<|rA J J<|rN<|aa.ret<|?_
    cases h
    exact hH J [0] J ⟨aY,J,J⟩
theorem DD [GI:bF] {aY:Bk} {ab:ar} {ah:Int} {aO:Int} {r:Int×ar} (h:o4 ab ah aO=some r):aJ Tryz.prog 48 [.ptr aY 0,I ah,I aO] [(aY,.cells [gx ab.L,I ab.at_])] (T0 ([(aY,.cells [gx r.2.L,I r.2.at_])]) (I r.1)):=by
 unfold o4 at h
 refine aJ.fa ?_
 refine aJ.bD Tryz.func48 J Tryz.ntmps48 Tryz.results48 J J ?_
 refine aM<|rA J J<|rN<|tS<|aM<|rM J J<|aF h fun v1 e1 h=>bz J (pn e1) cR (.cons .p0 .nil) J J<|rN<|cB h J (fun h=>?_) (fun h=>?_)
 ·refine aM<|rM J J<|rM J J<|ae.qv (bR J J) J<|rM J J<|ae.qv (aU J J) J<|rM J J<|rM J J<|ba (xs:=([aT (ah - (1:Int)),aT (aO+(1:Int)),ah,aO,(-1099511627776:Int),(1099511627776:Int)]).map I) J J J J J J<|aF h fun v2 e2 h=>bz J (ej e2) cR (.cons .p0 .nil) J J<|rA J J<|rN<|aa.ret<|?_
  cases h
  exact hH J [0] J ⟨J,J⟩
 ·refine tK<|aM<|rM J J<|rM J J<|rM J J<|aF h fun v3 e3 h=>bz J (rb e3) cR (.cons .p0 .nil) J J<|rA J J<|rN<|aa.ret<|?_
  cases h
  exact hH J [0] J ⟨J,J⟩
theorem sM [GI:bF] {aY:Bk} {ab:ar} {ah:Int} {aO:Bool} {r:(List Signal)×ar} (h:kc ab ah aO=some r):aJ Tryz.prog 5 [.ptr aY 0,I ah,.bool aO] [(aY,.cells [gx ab.L,I ab.at_])] (T1 (fun mS=>[(aY,.cells [gx r.2.L,I r.2.at_]),(mS,ek r.1)]) (fun mS=>.sl 6 mS 0 r.1.length)):=by
 unfold kc at h
 refine aJ.fa ?_
 refine aJ.bD Tryz.func5 J Tryz.ntmps5 Tryz.results5 J J ?_
 refine aM<|rA J J<|rN<|aM<|rA J J<|rN<|aM<|rM J J<|aF h fun v1 e1 h=>bz J (gA e1) cR (.cons .p0 .nil) J J<|rA J J<|rN<|tS<|aM<|rM J J<|rM J J<|rN<|aa.block<|aa.cj (fun x:(List Int)×Int×(List Signal)×Int×Int=>jk ah aO x.1 x.2.1 x.2.2.1 x.2.2.2.1 x.2.2.2.2) (fun x aG=>∃ (nh:Bk),aG=⟨124,[(0,.ptr aY 0),(2,.bool aO),(7,.sl 6 nh 0 x.2.2.1.length),(8,I x.2.2.2.1),(13,I ah),(14,I x.2.2.2.2)],[(aY,.cells [gx x.1,I x.2.1]),(nh,ek x.2.2.1)]⟩) h ?_ ?_
 ·exact ai.arr (s:=7) 6 J fun yh=>ai.lq [1,0] ⟨yh,J⟩ J J
 ·intro x z1 aG J1 eZ h mL iQ
  obtain ⟨l8,n9,iU,n12,n13⟩:=x
  obtain ⟨nh,rfl⟩:=eZ
  replace h:jk ah aO l8 n9 iU n12 n13=some z1:=h
  unfold jk at h
  refine aM<|ae.qv (bH J J) J<|rN<|tS<|cD h J (fun h=>?_) (fun h=>?_)
  ·refine tK<|tS<|aa.block<|aM<|rM J J<|rM J J<|ba (xs:=([(1:Int),(1:Int),(2:Int),(2:Int),(3:Int),(3:Int),(4:Int),(5:Int)]).map I) J J J J J J<|aF h fun jP e2 h=>bz J (ej e2) cR (.cons .p0 .nil) J J<|rM J J<|ba (xs:=([([100,97]:aI),([100,97]:aI),([100,98]:aI),([100,103]:aI)]).map AV.str) J J J J J J<|aF h fun og e3 h=>bz J (pk e3) cR (.cons .p0 .nil) J J<|rM J J<|ba (xs:=([([114,97]:aI),([114,97]:aI),([114,98]:aI)]).map AV.str) J J J J J J<|aF h fun v17 e4 h=>bz J (pk e4) cR (.cons .p0 .nil) J J<|ae.qv (db J J J J J) J<|bX J J J J fun we=>aB J J J J .p0 J J<|rN<|tS<|aM<|rM J J<|rN<|aa.cut (fun aG=>∃ (nT:List Int) (n20:Int) (n21:Int),gK iU n12 n13 og v17 nT n20 n21=some z1∧aG=⟨124,[(0,.ptr aY 0),(2,.bool aO),(7,.sl 6 nh 0 iU.length),(8,I n12),(9,.ptr we 0),(13,I ah),(14,I n13)],[(aY,.cells [gx nT,I n20]),(nh,ek iU),(we,.cells [I n12,I n21,.str og.1,.str v17.1,.str [],I (0:Int)])]⟩) ?_ ?_
   ·refine cB h J (fun h=>?_) (fun h=>?_)
    ·exact tR<|rM J J<|ba (xs:=([(3:Int),(3:Int),(4:Int),(5:Int)]).map I) J J J J J J<|aF h fun v22 e5 h=>bz J (ej e5) cR (.cons .p1 .nil) J J<|rF J J J<|aB J J J J .p1 J J<|rN<|aa.stop<|ai.lq [0,1,0] ⟨v22.2.L,v22.2.at_,v22.1,h,J⟩ J J
    ·exact tK<|aa.stop<|ai.lq [1,1,0] ⟨v17.2.L,v17.2.at_,jP.1,h,J⟩ J J
   ·rintro aG ⟨nT,n20,n21,h,rfl⟩
    unfold gK at h
    refine tS<|aM<|rF J J J<|rL J J .p2 J J<|ae.qv (rU J J) J<|rN<|aa.cut (fun aG=>∃ (xm:List Int) (n24:Int) (Dz:aI),gJ iU n12 n13 og v17 n21 xm n24 Dz=some z1∧aG=⟨124,[(0,.ptr aY 0),(2,.bool aO),(7,.sl 6 nh 0 iU.length),(8,I n12),(9,.ptr we 0),(13,I ah),(14,I n13)],[(aY,.cells [gx xm,I n24]),(nh,ek iU),(we,.cells [I n12,I n21,.str og.1,.str v17.1,.str Dz,I (0:Int)])]⟩) ?_ ?_
    ·refine cD h J (fun h=>?_) (fun h=>?_)
     ·exact tR<|rM J J<|ba (xs:=([([97,110,110]:aI),([98,111,98]:aI)]).map AV.str) J J J J J J<|aF h fun v26 e6 h=>bz J (pk e6) cR (.cons .p0 .nil) J J<|rF J J J<|aB J J J J .p2 J J<|rN<|aa.stop<|ai.lq [0,0,0] ⟨v26.2.L,v26.2.at_,v26.1,h,J⟩ J J
     ·exact tK<|aa.stop<|ai.lq [0,0,0] ⟨nT,n20,[],h,J⟩ J J
    ·rintro aG ⟨xm,n24,Dz,h,rfl⟩
     unfold gJ at h
     refine tS<|aM<|rF J J J<|rL J J .p2 J J<|ae.qv (bY J J) J<|rN<|aa.cut (fun aG=>∃ (Lk:List Int) (n28:Int) (n29:Int),gI iU n12 n13 og v17 n21 Dz Lk n28 n29=some z1∧aG=⟨124,[(0,.ptr aY 0),(2,.bool aO),(7,.sl 6 nh 0 iU.length),(8,I n12),(9,.ptr we 0),(13,I ah),(14,I n13)],[(aY,.cells [gx Lk,I n28]),(nh,ek iU),(we,.cells [I n12,I n21,.str og.1,.str v17.1,.str Dz,I n29])]⟩) ?_ ?_
     ·refine cD h J (fun h=>?_) (fun h=>?_)
      ·exact tR<|rM J J<|rM J J<|ba (xs:=([(1:Int),(10:Int),(50:Int)]).map I) J J J J J J<|aF h fun v30 e7 h=>bz J (ej e7) cR (.cons .p0 .nil) J J<|ae.qv (aU J J) J<|rF J J J<|aB J J J J .p2 J J<|rN<|aa.stop<|ai.lq [0,0,0] ⟨v30.2.L,v30.2.at_,aT (n12+v30.1),h,J⟩ J J
      ·exact tK<|aa.stop<|ai.lq [0,0,0] ⟨xm,n24,(0:Int),h,J⟩ J J
     ·rintro aG ⟨Lk,n28,n29,h,rfl⟩
      unfold gI at h
      refine aM<|rM J J<|ae.qv (bb J J .p2 J) J<|ba (xs:=([(⟨n12,n21,og.1,v17.1,Dz,n29⟩:Signal)]).map Signal.av) J J J J J J<|aF h fun Tu e8 h=>dA (g:=Signal.av) J J J J J J J J (.list _) e8 (fun _=>.p1) J fun Xf=>rA J J<|rN<|tR<|rM J J<|rM J J<|ba (xs:=([(0:Int),(1:Int),(3:Int),(10:Int),(40:Int)]).map I) J J J J J J<|aF h fun v33 e9 h=>bz J (ej e9) cR (.cons .p0 .nil) J J<|ae.qv (aU J J) J<|rA J J<|rN<|aa.bN<|tR<|ae.qv (aU J J) J<|rM J J<|rN<|aa.stop<|?_
      cases h
      exact mL _ _ J<|ai.lq [0,0] ⟨Xf,J⟩ J J
  ·refine aa.exit J<|have h:=cr h iQ;?_
   unfold oz at h
   refine aM<|rM J J<|aF h fun Pq vP h=>bz J (mM (fun e=>pZ e) (kL vP)) cR (.cons .p1 .nil) J J<|ae.ghost<|ai.eqs (s:=7) (eW:=.sl 6 nh 0 Pq.length) J (congrArg (AV.sl 6 nh 0) (cP vP))<|ai.here<|ae.ghost<|ai.eqs (s:=58) (eW:=.sl 6 nh 0 Pq.length) J (congrArg (AV.sl 6 nh 0) (cP vP))<|ai.here<|rN<|tS<|aM<|rM J J<|aF h fun v35 zk h=>bz J (pn zk) cR (.cons .p1 .nil) J J<|ae.qv (fj J) J<|rN<|aa.cut (fun aG=>∃ (sX:Bk) (o5:List Signal),gM v35 o5=some r∧aG=⟨124,[(0,.ptr aY 0),(7,.sl 6 sX 0 o5.length)],[(aY,.cells [gx v35.2.L,I v35.2.at_]),(sX,ek o5)]⟩) ?_ ?_
   ·refine cB h J (fun h=>?_) (fun h=>?_)
    ·exact tR<|rM J J<|aF h fun W1 Gp h=>ep J (nK (fun e=>vQ e) Gp) cR (.cons .p1 .nil) (fun _=>J) J fun QQ=>rA J J<|rN<|aa.stop<|ai.lq [1,0] ⟨QQ,W1,h,J⟩ J J
    ·exact tK<|aa.stop<|ai.lq [0,0] ⟨nh,Pq,h,J⟩ J J
   ·rintro aG ⟨sX,o5,h,rfl⟩
    unfold gM at h
    refine tS<|tS<|aa.cut (fun aG=>∃ (G1:List Int) (n41:Int) (Tv:Bool),gL o5 G1 n41 Tv=some r∧aG=⟨124,[(0,.ptr aY 0),(7,.sl 6 sX 0 o5.length),(71,.bool Tv)],[(aY,.cells [gx G1,I n41]),(sX,ek o5)]⟩) ?_ ?_
    ·refine tR<|rM J J<|ae.qv (cH J) J<|ae.qv (ir J J) J<|rM J J<|gT h J J J (fun h=>?_) (fun h=>?_)
     ·exact rM J J<|rY J J J<|aF h fun Jn Ij h=>bz J (pn Ij) cR (.cons .p0 .nil) J J<|rT J J J<|rN<|aa.stop<|ai.lq [0,0] ⟨Jn.2.L,Jn.2.at_,Jn.1,h,J⟩ J J
     ·exact rG J J J J<|rE J J J<|rN<|aa.stop<|ai.lq [0,0] ⟨v35.2.L,v35.2.at_,false,h,J⟩ J J
    ·rintro aG ⟨G1,n41,Tv,h,rfl⟩
     unfold gL at h
     refine aa.cut (fun aG=>∃ (Fw:List Int) (n45:Int) (Ig:List Signal),jj Fw n45 Ig=some r∧aG=⟨124,[(7,.sl 6 sX 0 Ig.length)],[(aY,.cells [gx Fw,I n45]),(sX,ek Ig)]⟩) ?_ ?_
     ·refine cB h J (fun h=>?_) (fun h=>?_)
      ·refine aM<|rM J J<|rM J J<|rM J J<|ae.qv (cH J) J<|aF h fun j9 MW h=>bz J (gA MW) cR (.cons .p0 .nil) J J<|aF h fun bI AG h=>ae.qv (aS J J J AG) J<|rA J J<|rN<|aF h fun v49 R4 h=>aF h fun v50 T4 h=>aF h fun v51 Ps h=>aF h fun BP Oq h=>aa.iS (id:=20) (A:=[0,0,0,0,0,0,32,96,224,480,1008,0,4080,0,0,16384,49152,114688,245760,524272,0,0,2097152,6291456,14680064,0,33554432,100663296,234881024,0,536870912,1610612736,3758096384,8053063680,16642998272,34357641216,68719476720,137438953457,274877906929,549755813873,1099511627763,2199023255539,4398046511091,8796093022199,17592186044407,35184372088823,70368744177663,140737488355327,281474976710655]) (H0:=[(aY,.cells [gx j9.2.L,I j9.2.at_]),(sX,ek o5)]) (HH:=fun β=>[(aY,.cells [gx BP.2.L,I BP.2.at_]),(sX,ek (((o5.set j9.1.toNat (⟨v49.1,bI.Kind,bI.Device,bI.a8,bI.By,bI.aV⟩:Signal)).set j9.1.toNat (⟨v49.1,v50.1,bI.Device,bI.a8,bI.By,bI.aV⟩:Signal)).set j9.1.toNat (⟨v49.1,v50.1,bI.Device,bI.a8,v51.1,bI.aV⟩:Signal)))]) 46 mixed J (by kernel_rfl) (by kernel_rfl) [⟨none,some 10,[],fun _=>(aY,.cells [gx j9.2.L,I j9.2.at_]),none,[]⟩,⟨none,some 39,[8,17,24,28,32],fun _=>(sX,ek o5),none,[]⟩,⟨some 10,some 12,[],fun _=>(aY,.cells [gx v49.2.L,I v49.2.at_]),none,[]⟩,⟨some 12,some 19,[],fun _=>(aY,.cells [gx v50.2.L,I v50.2.at_]),none,[]⟩,⟨some 19,some 36,[],fun _=>(aY,.cells [gx v51.2.L,I v51.2.at_]),none,[]⟩,⟨some 36,none,[],fun _=>(aY,.cells [gx BP.2.L,I BP.2.at_]),none,[]⟩,⟨some 39,some 42,[],fun _=>(sX,ek (o5.set j9.1.toNat (⟨v49.1,bI.Kind,bI.Device,bI.a8,bI.By,bI.aV⟩:Signal))),none,[]⟩,⟨some 42,some 45,[],fun _=>(sX,ek ((o5.set j9.1.toNat (⟨v49.1,bI.Kind,bI.Device,bI.a8,bI.By,bI.aV⟩:Signal)).set j9.1.toNat (⟨v49.1,v50.1,bI.Device,bI.a8,bI.By,bI.aV⟩:Signal))),none,[]⟩,⟨some 45,none,[],fun _=>(sX,ek (((o5.set j9.1.toNat (⟨v49.1,bI.Kind,bI.Device,bI.a8,bI.By,bI.aV⟩:Signal)).set j9.1.toNat (⟨v49.1,v50.1,bI.Device,bI.a8,bI.By,bI.aV⟩:Signal)).set j9.1.toNat (⟨v49.1,v50.1,bI.Device,bI.a8,v51.1,bI.aV⟩:Signal))),none,[]⟩] [] J (by kernel_rfl) J (.cons .p0 (.cons .p0 .nil)) (fun _=>J)<|AT.am 8 J J<|AM.qv (aA J) J<|AM.qv (aA J) J<|AM.qv (aA J) J<|AM.qv (aA J) J<|AM.qv (aA J) J<|AM.qv (aA J) J<|AM.qv (df J) J<|AM.qv (dB J J) J<|AM.nil<|AT.rd (Rs:=[(sX,ek o5)]) (fun _=>J) J (fun _=>J) (fun _=>J) (bl (g:=Signal.av) J J (.inl .p0) AG J) J<|AT.am 1 J J<|AM.fk (xs:=([bI.At,(-1:Int),(345686400000:Int)]).map I) J J J J J J<|AM.nil<|AT.Ny (av:=I v49.1) (Ti:=[(aY,.cells [gx j9.2.L,I j9.2.at_])]) (Pi:=[(aY,.cells [gx v49.2.L,I v49.2.at_])]) (fun _=>J) (fun _=>J) (fun _=>J) J J J ?_ ?_
       ·exact bz J (ej R4) cR (.cons .p0 .nil) J J<|ae.nil ⟨_,J,J⟩
       refine AT.am 1 J J<|AM.qv (aA J) J<|AM.nil<|AT.Ny (av:=I v50.1) (Ti:=[(aY,.cells [gx v49.2.L,I v49.2.at_])]) (Pi:=[(aY,.cells [gx v50.2.L,I v50.2.at_])]) (fun _=>J) (fun _=>J) (fun _=>J) J J J ?_ ?_
       ·exact bz J (DD T4) cR (.cons .p0 .nil) J J<|ae.nil ⟨_,J,J⟩
       refine AT.am 4 J J<|AM.qv (aA J) J<|AM.qv (aA J) J<|AM.qv (df J) J<|AM.qv (dB J J) J<|AM.nil<|AT.rd (Rs:=[(sX,ek o5)]) (fun _=>J) J (fun _=>J) (fun _=>J) (bl (g:=Signal.av) J J (.inl .p0) AG J) J<|AT.am 1 J J<|AM.fk (xs:=([bI.By,([]:aI),([65]:aI)]).map AV.str) J J J J J J<|AM.nil<|AT.Ny (av:=.str v51.1) (Ti:=[(aY,.cells [gx v50.2.L,I v50.2.at_])]) (Pi:=[(aY,.cells [gx v51.2.L,I v51.2.at_])]) (fun _=>J) (fun _=>J) (fun _=>J) J J J ?_ ?_
       ·exact bz J (pk Ps) cR (.cons .p0 .nil) J J<|ae.nil ⟨_,J,J⟩
       refine AT.am 4 J J<|AM.qv (aA J) J<|AM.qv (aA J) J<|AM.qv (df J) J<|AM.qv (dB J J) J<|AM.nil<|AT.rd (Rs:=[(sX,ek o5)]) (fun _=>J) J (fun _=>J) (fun _=>J) (bl (g:=Signal.av) J J (.inl .p0) AG J) J<|AT.am 3 J J<|AM.qv (aA J) J<|AM.qv (df J) J<|AM.qv (dB J J) J<|AM.nil<|AT.rd (Rs:=[(sX,ek o5)]) (fun _=>J) J (fun _=>J) (fun _=>J) (bl (g:=Signal.av) J J (.inl .p0) AG J) J<|AT.am 3 J J<|AM.qv (aA J) J<|AM.qv (df J) J<|AM.qv (dB J J) J<|AM.nil<|AT.rd (Rs:=[(sX,ek o5)]) (fun _=>J) J (fun _=>J) (fun _=>J) (bl (g:=Signal.av) J J (.inl .p0) AG J) J<|AT.am 3 J J<|AM.qv (aU J J) J<|AM.qv (aU J J) J<|AM.fk (xs:=([bI.aV,(0:Int),bI.At,aT ((aT (bI.At+(2592000000:Int)))+(1:Int))]).map I) J J J J J J<|AM.nil<|AT.Ny (av:=I BP.1) (Ti:=[(aY,.cells [gx v51.2.L,I v51.2.at_])]) (Pi:=[(aY,.cells [gx BP.2.L,I BP.2.at_])]) (fun _=>J) (fun _=>J) (fun _=>J) J J J ?_ ?_
       ·exact bz J (ej Oq) cR (.cons .p0 .nil) J J<|ae.nil ⟨_,J,J⟩
       refine AT.am 2 J J<|AM.qv (df J) J<|AM.qv (dB J J) J<|AM.nil<|AT.BG (Ti:=[(sX,ek o5)]) (Pi:=[(sX,ek (o5.set j9.1.toNat (⟨v49.1,bI.Kind,bI.Device,bI.a8,bI.By,bI.aV⟩:Signal)))]) (fun _=>J) (fun _=>J) (fun _=>J) J J ?_ ?_
       ·exact bQ (g:=Signal.av) (xV:=(⟨v49.1,bI.Kind,bI.Device,bI.a8,bI.By,bI.aV⟩:Signal)) J J J J AG J .p0 J<|ae.nil ⟨_,J⟩
       refine AT.am 2 J J<|AM.qv (df J) J<|AM.qv (dB J J) J<|AM.nil<|AT.BG (Ti:=[(sX,ek (o5.set j9.1.toNat (⟨v49.1,bI.Kind,bI.Device,bI.a8,bI.By,bI.aV⟩:Signal)))]) (Pi:=[(sX,ek ((o5.set j9.1.toNat (⟨v49.1,bI.Kind,bI.Device,bI.a8,bI.By,bI.aV⟩:Signal)).set j9.1.toNat (⟨v49.1,v50.1,bI.Device,bI.a8,bI.By,bI.aV⟩:Signal)))]) (fun _=>J) (fun _=>J) (fun _=>J) J J ?_ ?_
       ·exact bQ (g:=Signal.av) (xV:=(⟨v49.1,v50.1,bI.Device,bI.a8,bI.By,bI.aV⟩:Signal)) J J J J (fA (v:=(⟨v49.1,bI.Kind,bI.Device,bI.a8,bI.By,bI.aV⟩:Signal)) AG) J .p0 J<|ae.nil ⟨_,J⟩
       refine AT.am 2 J J<|AM.qv (df J) J<|AM.qv (dB J J) J<|AM.nil<|AT.BG (Ti:=[(sX,ek ((o5.set j9.1.toNat (⟨v49.1,bI.Kind,bI.Device,bI.a8,bI.By,bI.aV⟩:Signal)).set j9.1.toNat (⟨v49.1,v50.1,bI.Device,bI.a8,bI.By,bI.aV⟩:Signal)))]) (Pi:=[(sX,ek (((o5.set j9.1.toNat (⟨v49.1,bI.Kind,bI.Device,bI.a8,bI.By,bI.aV⟩:Signal)).set j9.1.toNat (⟨v49.1,v50.1,bI.Device,bI.a8,bI.By,bI.aV⟩:Signal)).set j9.1.toNat (⟨v49.1,v50.1,bI.Device,bI.a8,v51.1,bI.aV⟩:Signal)))]) (fun _=>J) (fun _=>J) (fun _=>J) J J ?_ ?_
       ·exact bQ (g:=Signal.av) (xV:=(⟨v49.1,v50.1,bI.Device,bI.a8,v51.1,bI.aV⟩:Signal)) J J J J (fA (v:=(⟨v49.1,v50.1,bI.Device,bI.a8,bI.By,bI.aV⟩:Signal)) (fA (v:=(⟨v49.1,bI.Kind,bI.Device,bI.a8,bI.By,bI.aV⟩:Signal)) AG)) J .p0 J<|ae.nil ⟨_,J⟩
       exact AT.ub (fun _=>J) fun β=>ae.ghost<|ai.eqs (s:=7) (eW:=.sl 6 sX 0 (((o5.set j9.1.toNat (⟨v49.1,bI.Kind,bI.Device,bI.a8,bI.By,bI.aV⟩:Signal)).set j9.1.toNat (⟨v49.1,v50.1,bI.Device,bI.a8,bI.By,bI.aV⟩:Signal)).set j9.1.toNat (⟨v49.1,v50.1,bI.Device,bI.a8,v51.1,bI.aV⟩:Signal)).length) J (by simp)<|ai.here<|ae.ghost<|ai.eqs (s:=72) (eW:=.sl 6 sX 0 (((o5.set j9.1.toNat (⟨v49.1,bI.Kind,bI.Device,bI.a8,bI.By,bI.aV⟩:Signal)).set j9.1.toNat (⟨v49.1,v50.1,bI.Device,bI.a8,bI.By,bI.aV⟩:Signal)).set j9.1.toNat (⟨v49.1,v50.1,bI.Device,bI.a8,v51.1,bI.aV⟩:Signal)).length) J (by simp)<|ai.here<|ae.ghost<|ai.eqs (s:=74) (eW:=.sl 6 sX 0 (((o5.set j9.1.toNat (⟨v49.1,bI.Kind,bI.Device,bI.a8,bI.By,bI.aV⟩:Signal)).set j9.1.toNat (⟨v49.1,v50.1,bI.Device,bI.a8,bI.By,bI.aV⟩:Signal)).set j9.1.toNat (⟨v49.1,v50.1,bI.Device,bI.a8,v51.1,bI.aV⟩:Signal)).length) J (by simp)<|ai.here<|ae.qv (df J) J<|ae.qv (dB J J) J<|bQ (g:=Signal.av) (xV:=(⟨v49.1,v50.1,bI.Device,bI.a8,v51.1,BP.1⟩:Signal)) J J J J (fA (v:=(⟨v49.1,v50.1,bI.Device,bI.a8,v51.1,bI.aV⟩:Signal)) (fA (v:=(⟨v49.1,v50.1,bI.Device,bI.a8,bI.By,bI.aV⟩:Signal)) (fA (v:=(⟨v49.1,bI.Kind,bI.Device,bI.a8,bI.By,bI.aV⟩:Signal)) AG))) J .p1 J<|ae.ghost<|ai.eqs (s:=7) (eW:=.sl 6 sX 0 ((((o5.set j9.1.toNat (⟨v49.1,bI.Kind,bI.Device,bI.a8,bI.By,bI.aV⟩:Signal)).set j9.1.toNat (⟨v49.1,v50.1,bI.Device,bI.a8,bI.By,bI.aV⟩:Signal)).set j9.1.toNat (⟨v49.1,v50.1,bI.Device,bI.a8,v51.1,bI.aV⟩:Signal)).set j9.1.toNat (⟨v49.1,v50.1,bI.Device,bI.a8,v51.1,BP.1⟩:Signal)).length) J (by rw [List.length_set])<|ai.here<|ae.ghost<|ai.eqs (s:=72) (eW:=.sl 6 sX 0 ((((o5.set j9.1.toNat (⟨v49.1,bI.Kind,bI.Device,bI.a8,bI.By,bI.aV⟩:Signal)).set j9.1.toNat (⟨v49.1,v50.1,bI.Device,bI.a8,bI.By,bI.aV⟩:Signal)).set j9.1.toNat (⟨v49.1,v50.1,bI.Device,bI.a8,v51.1,bI.aV⟩:Signal)).set j9.1.toNat (⟨v49.1,v50.1,bI.Device,bI.a8,v51.1,BP.1⟩:Signal)).length) J (by rw [List.length_set])<|ai.here<|ae.ghost<|ai.eqs (s:=74) (eW:=.sl 6 sX 0 ((((o5.set j9.1.toNat (⟨v49.1,bI.Kind,bI.Device,bI.a8,bI.By,bI.aV⟩:Signal)).set j9.1.toNat (⟨v49.1,v50.1,bI.Device,bI.a8,bI.By,bI.aV⟩:Signal)).set j9.1.toNat (⟨v49.1,v50.1,bI.Device,bI.a8,v51.1,bI.aV⟩:Signal)).set j9.1.toNat (⟨v49.1,v50.1,bI.Device,bI.a8,v51.1,BP.1⟩:Signal)).length) J (by rw [List.length_set])<|ai.here<|rN<|aa.stop<|ai.lq [0,0] ⟨BP.2.L,BP.2.at_,(((o5.set j9.1.toNat (⟨v49.1,bI.Kind,bI.Device,bI.a8,bI.By,bI.aV⟩:Signal)).set j9.1.toNat (⟨v49.1,v50.1,bI.Device,bI.a8,bI.By,bI.aV⟩:Signal)).set j9.1.toNat (⟨v49.1,v50.1,bI.Device,bI.a8,v51.1,bI.aV⟩:Signal)).set j9.1.toNat (⟨v49.1,v50.1,bI.Device,bI.a8,v51.1,BP.1⟩:Signal),h,J⟩ J J
      ·exact tK<|aa.stop<|ai.lq [0,0] ⟨G1,n41,o5,h,J⟩ J J
     ·rintro aG ⟨Fw,n45,Ig,h,rfl⟩
      unfold jj at h
      refine aM<|rM J J<|rA J J<|rN<|aa.ret<|?_
      cases h
      exact hH J [0,0] J ⟨sX,J,J⟩
theorem BR [GI:bF] {aY:Bk} {ab:ar} {r:au×ar} (h:pB ab=some r):aJ Tryz.prog 7 [.ptr aY 0] [(aY,.cells [gx ab.L,I ab.at_])] (T0 ([(aY,.cells [gx r.2.L,I r.2.at_])]) (au.av r.1)):=by
 unfold pB at h
 refine aJ.fa ?_
 refine aJ.bD Tryz.func7 J Tryz.ntmps7 Tryz.results7 J J ?_
 refine aM<|bX J J J J fun b1=>rN<|aM<|rM J J<|ba (xs:=([(0:Int),(5:Int),(30:Int),(100:Int)]).map I) J J J J J J<|aF h fun v2 e1 h=>bz J (ej e1) cR (.cons .p1 .nil) J J<|rM J J<|ba (xs:=([(30:Int),(100:Int),(250:Int),(1000:Int),(345686400000:Int)]).map I) J J J J J J<|aF h fun v3 e2 h=>bz J (ej e2) cR (.cons .p0 .nil) J J<|ae.qv (db J J J J J) J<|bX J J J J fun b4=>aB J J J J .p0 J J<|rN<|tS<|aM<|rM J J<|aF h fun v5 e3 h=>bz J (pn e3) cR (.cons .p1 .nil) J J<|rN<|aa.cut (fun aG=>∃ (l6:List Int) (n7:Int) (n8:Int) (n9:Int),mi l6 n7 n8 n9=some r∧aG=⟨21,[(2,.ptr b1 0),(3,.ptr b4 0)],[(aY,.cells [gx l6,I n7]),(b1,.cells [I (0:Int),I (0:Int)]),(b4,.cells [I n8,I n9])]⟩) ?_ ?_
 ·refine cB h J (fun h=>?_) (fun h=>?_)
  ·exact tR<|rM J J<|ba (xs:=([(-1:Int),(10:Int)]).map I) J J J J J J<|aF h fun v10 e4 h=>bz J (ej e4) cR (.cons .p0 .nil) J J<|rM J J<|ba (xs:=([(9:Int),(345686400001:Int)]).map I) J J J J J J<|aF h fun v11 e5 h=>bz J (ej e5) cR (.cons .p0 .nil) J J<|ae.qv (db J J J J J) J<|aB J J J J .p1 J J<|rN<|aa.stop<|ai.lq [0,1,0] ⟨v11.2.L,v11.2.at_,v10.1,v11.1,h,J⟩ J J
  ·exact tK<|aa.stop<|ai.lq [0,1,0] ⟨v5.2.L,v5.2.at_,v2.1,v3.1,h,J⟩ J J
 ·rintro aG ⟨l6,n7,n8,n9,h,rfl⟩
  unfold mi at h
  refine aM<|ae.qv (bb J J .p2 J) J<|aB J J J J .p1 J J<|rN<|aa.ret<|?_
  cases h
  exact ai.here ⟨_,.cons (.all _ _ _ _ _ _ J .p1 aE.h aX.h J J) .nil,_,.cons .p0 .nil,⟨J,J⟩⟩
theorem yi [GI:bF] {ab:Int} {ah:Int} {aO:Int} {r:Bool} (h:zh ab ah aO=r):Pu Tryz.prog 51 [I ab,I ah,I aO] (.bool r):=by
 unfold zh at h
 refine aJ.bD Tryz.func51 J Tryz.ntmps51 Tryz.results51 J J ?_
 refine aM<|rA J J<|rN<|tS<|aa.cut (fun aG=>∃ (c1:Bool),DA c1=r∧aG=⟨15,[(6,.bool c1)],[]⟩) ?_ ?_
 ·refine tR<|rM J J<|rM J J<|ae.qv (rS J J) J<|rM J J<|ae.bW J J J (fun hc=>?_) (fun hc=>?_)
  ·rw [lM hc] at h
   exact rM J J<|rY J J J<|rM J J<|rY J J J<|ae.qv (rS J J) J<|rT J J J<|rA J J<|rN<|aa.stop<|ai.lq [] ⟨decide (ab≤aO),h,J⟩ J J
  ·rw [lN hc] at h
   exact rG J J J J<|rG J J J J<|rE J J J<|rA J J<|rN<|aa.stop<|ai.lq [] ⟨false,h,J⟩ J J
 ·rintro aG ⟨c1,h,rfl⟩
  unfold DA at h
  refine aa.ret<|?_
  obtain rfl:=h
  exact hP J J
theorem zm [GI:bF] {ab:Int} {r:Int} (h:mX ab=r):Pu Tryz.prog 49 [I ab] (I r):=by
 unfold mX at h
 refine aJ.bD Tryz.func49 J Tryz.ntmps49 Tryz.results49 J J ?_
 refine aM<|rA J J<|rN<|tS<|aM<|rM J J<|bw J (yi J) cR J<|ae.qv (fj J) J<|rN<|cB h J (fun h=>?_) (fun h=>?_)
 ·refine aM<|rA J J<|rN<|aa.ret<|?_
  obtain rfl:=h
  exact hP J J
 ·refine tK<|aM<|rA J J<|rN<|aa.ret<|?_
  obtain rfl:=h
  exact hP J J
theorem DE {ab:aI} {r:Bool} (h:AD ab=some r):Pu Tryz.prog 50 [.str ab] (.bool r):=by
 unfold AD at h
 refine aJ.bD Tryz.func50 J Tryz.ntmps50 Tryz.results50 J J ?_
 refine aM<|rA J J<|rN<|tS<|aa.cut (fun aG=>∃ (c1:Bool),sG c1=some r∧aG=⟨17,[(2,.bool c1)],[]⟩) ?_ ?_
 ·refine tR<|rM J J<|ae.qv (cu J) J<|bw J (yi J) cR J<|rM J J<|ae.guard J J J (fun hc=>?_) (fun hc=>?_)
  ·refine have h:=uy hc h;rM J J<|rY J J J<|aF h fun v2 e1 h=>bw J (uH e1) cR J<|rY J J J<|ae.qv (qg J J) J<|rT J J J<|rM J J<|gT h J J J (fun h=>?_) (fun h=>?_)
   ·exact rM J J<|rY J J J<|aF h fun c3 e2 h=>ae.qv (kB J J e2) J<|rY J J J<|bw J (vO J) cR J<|rY J J J<|ae.qv (rU J J) J<|rT J J J<|rA J J<|rN<|aa.stop<|ai.lq [] ⟨decide ((0:Int)≤(tq ([97,98,99,100,101,102,103,104,105,106,107,108,109,110,111,112,113,114,115,116,117,118,119,120,121,122]:aI) (c3.toNat:Int))),h,J⟩ J J
   ·exact rG J J J J<|rG J J J J<|rG J J J J<|rE J J J<|rA J J<|rN<|aa.stop<|ai.lq [] ⟨false,h,J⟩ J J
  ·exact have h:=w5 hc h;rG J J J J<|rG J J J J<|rE J J J<|rM J J<|rG J J J J<|rG J J J J<|rG J J J J<|rG J J J J<|rE J J J<|rA J J<|rN<|aa.stop<|ai.lq [] ⟨false,h,J⟩ J J
 ·rintro aG ⟨c1,h,rfl⟩
  unfold sG at h
  refine aa.ret<|?_
  cases h
  exact hP J J
theorem o6 {ab:List Signal} {r:Int} (h:iI ab=some r):Pu Tryz.prog 8 [iW ab] (I r):=by
 unfold iI at h
 refine aJ.bD Tryz.func8 J Tryz.ntmps8 Tryz.results8 J J ?_
 refine aM<|rA J J<|rN<|tS<|aM<|rM J J<|ae.qv (dz J) J<|ae.qv (ir J J) J<|rN<|cD h J (fun h=>?_) (fun h=>?_)
 ·refine aM<|rA J J<|rN<|aa.ret<|?_
  cases h
  exact hP J J
 ·refine tK<|tS<|aM<|rM J J<|ae.qv (dz J) J<|rM J J<|rN<|aa.block<|aa.cj (fun x:Int=>eN ab x) (fun x aG=>aG=⟨97,[(0,iW ab),(10,iW ab),(11,I (ab.length:Int)),(12,I x)],[]⟩) h ?_ ?_
  ·exact ai.lq [] J J J
  ·intro n2 z1 aG J1 eZ h mL iQ
   obtain rfl:=eZ
   replace h:eN ab n2=some z1:=h
   unfold eN at h
   refine aM<|ae.qv (bH J J) J<|rN<|tS<|cD h J (fun h=>?_) (fun h=>?_)
   ·refine tK<|tS<|aa.block<|aM<|rM J J<|aF h fun v3 e1 h=>ae.qv (bJ J J J e1 J J) J<|ae.qv (bA J J J) J<|bX J J J J fun b4=>rA J J<|aB J J J J .p0 J J<|rN<|tS<|aa.bL (id:=6) (A:=[0,1,3,0,8,24,7,127]) 8 mixed J (by kernel_rfl) (by kernel_rfl)<|AM.qv (aC J J) J<|AM.qv (aL J J .p0 J) J<|AM.qv (rU J J) J<|AM.qv (aC J J) J<|AM.qv (aL J J .p0 J) J<|AM.qv (bY J J) J<|AM.qv (cU J) J<|AM.qv (cU J) J<|AM.nil<|rN<|aa.block<|aM<|rF J J J<|rL J J .p0 J J<|bw J (zm J) cR J<|ae.qv (jb J J) J<|rA J J<|rN<|cD h J (fun h=>?_) (fun h=>?_)
    ·refine aM<|rA J J<|rN<|aa.ret<|have h:=cr h iQ;?_
     cases h
     exact hP J J
    ·refine tS<|aa.cut (fun aG=>∃ (c5:Bool),gO ab n2 v3 c5=some z1∧aG=⟨97,[(0,iW ab),(3,I n2),(4,.ptr b4 0),(5,.bool (decide ((3:Int)≤v3.Kind))),(6,.bool (decide (v3.Kind=(4:Int)))),(10,iW ab),(11,I (ab.length:Int)),(12,I n2),(28,.bool c5)],[(b4,.cells (vA v3))]⟩) ?_ ?_
     ·refine tR<|rF J J J<|rL J J .p0 J J<|aF h fun v6 e2 h=>bw J (DE e2) cR J<|ae.qv (fj J) J<|rM J J<|ae.guard J J J (fun hc=>?_) (fun hc=>?_)
      ·exact have h:=w5 hc h;rF J J J<|rY J J J<|rL J J .p0 J J<|rY J J J<|aF h fun v7 e3 h=>bw J (DE e3) cR J<|rY J J J<|ae.qv (fj J) J<|rE J J J<|rA J J<|rN<|aa.stop<|ai.lq [0] ⟨!v7,h,J⟩ J J
      ·exact have h:=uy hc h;rG J J J J<|rG J J J J<|rG J J J J<|rT J J J<|rA J J<|rN<|aa.stop<|ai.lq [0] ⟨true,h,J⟩ J J
     ·rintro aG ⟨c5,h,rfl⟩
      unfold gO at h
      refine cB h J (fun h=>?_) (fun h=>?_)
      ·refine aM<|rA J J<|rN<|aa.ret<|have h:=cr h iQ;?_
       cases h
       exact hP J J
      ·refine aM<|rF J J J<|rL J J .p0 J J<|bw J (yi J) cR J<|ae.qv (fj J) J<|rA J J<|rN<|cB h J (fun h=>?_) (fun h=>?_)
       ·refine aM<|rA J J<|rN<|aa.ret<|have h:=cr h iQ;?_
        cases h
        exact hP J J
       ·refine tS<|aa.cut (fun aG=>∃ (c8:Bool),gN ab n2 v3 c8=some z1∧aG=⟨97,[(0,iW ab),(3,I n2),(4,.ptr b4 0),(5,.bool (decide ((3:Int)≤v3.Kind))),(6,.bool (decide (v3.Kind=(4:Int)))),(10,iW ab),(11,I (ab.length:Int)),(12,I n2),(44,.bool c8)],[(b4,.cells (vA v3))]⟩) ?_ ?_
        ·refine tR<|rM J J<|rM J J<|gT h J J J (fun h=>?_) (fun h=>?_)
         ·exact rF J J J<|rY J J J<|rL J J .p0 J J<|rY J J J<|aF h fun v9 e4 h=>bw J (DE e4) cR J<|rY J J J<|ae.qv (fj J) J<|rT J J J<|rA J J<|rN<|aa.stop<|ai.lq [0] ⟨!v9,h,J⟩ J J
         ·exact rG J J J J<|rG J J J J<|rG J J J J<|rE J J J<|rA J J<|rN<|aa.stop<|ai.lq [0] ⟨false,h,J⟩ J J
        ·rintro aG ⟨c8,h,rfl⟩
         unfold gN at h
         refine cB h J (fun h=>?_) (fun h=>?_)
         ·refine aM<|rA J J<|rN<|aa.ret<|have h:=cr h iQ;?_
          cases h
          exact hP J J
         ·refine tS<|aa.cut (fun aG=>∃ (Tw:Bool),lQ ab n2 v3 Tw=some z1∧aG=⟨97,[(0,iW ab),(3,I n2),(4,.ptr b4 0),(6,.bool (decide (v3.Kind=(4:Int)))),(10,iW ab),(11,I (ab.length:Int)),(12,I n2),(52,.bool Tw)],[(b4,.cells (vA v3))]⟩) ?_ ?_
          ·refine tR<|rM J J<|ae.qv (mE J) J<|rM J J<|ae.bW J J J (fun hc=>?_) (fun hc=>?_)
           ·rw [lM hc] at h
            exact rF J J J<|rY J J J<|rL J J .p0 J J<|rY J J J<|ae.qv (vY J J) J<|rT J J J<|rA J J<|rN<|aa.stop<|ai.lq [0] ⟨decide (v3.By≠([]:aI)),h,J⟩ J J
           ·rw [lN hc] at h
            exact rG J J J J<|rG J J J J<|rE J J J<|rA J J<|rN<|aa.stop<|ai.lq [0] ⟨false,h,J⟩ J J
          ·rintro aG ⟨Tw,h,rfl⟩
           unfold lQ at h
           refine cB h J (fun h=>?_) (fun h=>?_)
           ·refine aM<|rA J J<|rN<|aa.ret<|have h:=cr h iQ;?_
            cases h
            exact hP J J
           ·refine tS<|aa.cut (fun aG=>∃ (Lm:Bool),lP ab n2 v3 Lm=some z1∧aG=⟨97,[(0,iW ab),(3,I n2),(4,.ptr b4 0),(6,.bool (decide (v3.Kind=(4:Int)))),(10,iW ab),(11,I (ab.length:Int)),(12,I n2),(60,.bool Lm)],[(b4,.cells (vA v3))]⟩) ?_ ?_
            ·refine tR<|rM J J<|rM J J<|ae.bW J J J (fun hc=>?_) (fun hc=>?_)
             ·rw [lM hc] at h
              exact rF J J J<|rY J J J<|rL J J .p0 J J<|rY J J J<|rF J J J<|rY J J J<|rL J J .p0 J J<|rY J J J<|ae.qv (aU J J) J<|rY J J J<|rF J J J<|rY J J J<|rL J J .p0 J J<|rY J J J<|ae.qv (aU J J) J<|rY J J J<|ae.qv (HA J J) J<|rY J J J<|bw J (yi J) cR J<|rY J J J<|ae.qv (fj J) J<|rT J J J<|rA J J<|rN<|aa.stop<|ai.lq [0] ⟨!(zh v3.aV (aT (v3.At+(1:Int))) (min (aT (v3.At+(2592000000:Int))) (345686400000:Int))),h,J⟩ J J
             ·rw [lN hc] at h
              exact rG J J J J<|rG J J J J<|rG J J J J<|rG J J J J<|rG J J J J<|rG J J J J<|rG J J J J<|rG J J J J<|rG J J J J<|rG J J J J<|rE J J J<|rA J J<|rN<|aa.stop<|ai.lq [0] ⟨false,h,J⟩ J J
            ·rintro aG ⟨Lm,h,rfl⟩
             unfold lP at h
             refine cB h J (fun h=>?_) (fun h=>?_)
             ·refine aM<|rA J J<|rN<|aa.ret<|have h:=cr h iQ;?_
              cases h
              exact hP J J
             ·refine tS<|aa.cut (fun aG=>∃ (c12:Bool),lO ab n2 v3 c12=some z1∧aG=⟨97,[(0,iW ab),(3,I n2),(4,.ptr b4 0),(10,iW ab),(11,I (ab.length:Int)),(12,I n2),(75,.bool c12)],[(b4,.cells (vA v3))]⟩) ?_ ?_
              ·refine tR<|rM J J<|ae.qv (mE J) J<|rM J J<|ae.bW J J J (fun hc=>?_) (fun hc=>?_)
               ·rw [lM hc] at h
                exact rF J J J<|rY J J J<|rL J J .p0 J J<|rY J J J<|ae.qv (jb J J) J<|rT J J J<|rA J J<|rN<|aa.stop<|ai.lq [0] ⟨decide (v3.aV≠(0:Int)),h,J⟩ J J
               ·rw [lN hc] at h
                exact rG J J J J<|rG J J J J<|rE J J J<|rA J J<|rN<|aa.stop<|ai.lq [0] ⟨false,h,J⟩ J J
              ·rintro aG ⟨c12,h,rfl⟩
               unfold lO at h
               refine cB h J (fun h=>?_) (fun h=>?_)
               ·refine aM<|rA J J<|rN<|aa.ret<|have h:=cr h iQ;?_
                cases h
                exact hP J J
               ·refine tS<|aa.cut (fun aG=>∃ (Ll:Bool),jl n2 Ll=some z1∧aG=⟨97,[(0,iW ab),(10,iW ab),(11,I (ab.length:Int)),(12,I n2),(83,.bool Ll)],[]⟩) ?_ ?_
                ·refine aa.bL (id:=21) (A:=[0,1,3,7,7,23,63,127,7,511,1023,2047,4095]) 13 mixed J (by kernel_rfl) (by kernel_rfl)<|AM.qv (aA J) J<|AM.qv (ir J J) J<|AM.qv (aA J) J<|AM.bW J J J (fun hc=>?_) (fun hc=>?_)
                 ·exact have h:=uy hc h;AM.qv (aA J) J<|AM.bc J J J<|AM.qv (aA J) J<|AM.bc J J J<|AM.qv (bR J J) J<|AM.bc J J J<|aF h fun mB e5 h=>AM.qv (bJ J J J e5 J J) J<|AM.bc J J J<|AM.qv (bA J J J) J<|AM.bc J J J<|AM.qv (bb J J .p0 J) J<|AM.bc J J J<|aF h fun jP e6 h=>AM.jV J (pZ e6) cR J<|AM.bc J J J<|AM.qv (rU J J) J<|AM.qv (pr J J) J<|AM.qv (cU J) J<|AM.nil<|rN<|aa.stop<|ai.lq [] ⟨decide ((0:Int)≤jP),h,J⟩ J J
                 ·exact have h:=EI hc h;AM.bn J J J J<|AM.bn J J J J<|AM.bn J J J J<|AM.bn J J J J<|AM.bn J J J J<|AM.bn J J J J<|AM.bn J J J J<|AM.qv (ps J J) J<|AM.qv (cU J) J<|AM.nil<|rN<|aa.stop<|ai.lq [] ⟨false,h,J⟩ J J
                ·rintro aG ⟨Ll,h,rfl⟩
                 unfold jl at h
                 refine cB h J (fun h=>?_) (fun h=>?_)
                 ·refine aM<|rA J J<|rN<|aa.ret<|have h:=cr h iQ;?_
                  cases h
                  exact hP J J
                 ·refine tK<|aa.bN<|aa.bN<|tR<|ae.qv (aU J J) J<|rM J J<|rN<|aa.stop<|?_
                  cases h
                  exact mL _ _ J<|ai.lq [] J J J
   ·refine aa.exit J<|have h:=cr h iQ;aM<|rA J J<|rN<|aa.ret<|?_
    cases h
    exact hP J J
theorem tx [GI:bF] {ab:Int} {ah:Int} {aO:Int} {r:Bool} (h:qU ab ah aO=r):Pu Tryz.prog 98 [I ab,I ah,I aO] (.bool r):=by
 unfold qU at h
 refine aJ.bD Tryz.func98 J Tryz.ntmps98 Tryz.results98 J J ?_
 refine aM<|rA J J<|rN<|tS<|aa.cut (fun aG=>∃ (c1:Bool),uK c1=r∧aG=⟨15,[(6,.bool c1)],[]⟩) ?_ ?_
 ·refine tR<|rM J J<|rM J J<|ae.qv (bH J J) J<|rM J J<|ae.gg J J J (fun hc=>?_) (fun hc=>?_)
  ·rw [BE hc] at h
   exact rM J J<|rY J J J<|rM J J<|rY J J J<|ae.qv (ir J J) J<|rE J J J<|rA J J<|rN<|aa.stop<|ai.lq [] ⟨decide (aO < ab),h,J⟩ J J
  ·rw [BD hc] at h
   exact rG J J J J<|rG J J J J<|rT J J J<|rA J J<|rN<|aa.stop<|ai.lq [] ⟨true,h,J⟩ J J
 ·rintro aG ⟨c1,h,rfl⟩
  unfold uK at h
  refine aa.ret<|?_
  obtain rfl:=h
  exact hP J J
theorem wg [GI:bF] {ab:Int} {r:Bool} (h:nU ab=r):Pu Tryz.prog 151 [I ab] (.bool r):=by
 unfold nU at h
 refine aJ.bD Tryz.func151 J Tryz.ntmps151 Tryz.results151 J J ?_
 refine aM<|rA J J<|rN<|aM<|rM J J<|bw J (tx J) cR J<|ae.qv (fj J) J<|rA J J<|rN<|aa.ret<|?_
 obtain rfl:=h
 exact hP J J
theorem ri [GI:bF] {ab:aI} {r:Bool} (h:oA ab=some r):Pu Tryz.prog 101 [.str ab] (.bool r):=by
 unfold oA at h
 refine aJ.bD Tryz.func101 J Tryz.ntmps101 Tryz.results101 J J ?_
 refine aM<|rA J J<|rN<|tS<|tS<|aa.cut (fun aG=>∃ (c1:Bool),ml ab c1=some r∧aG=⟨54,[(0,.str ab),(21,.bool c1)],[]⟩) ?_ ?_
 ·refine tR<|rM J J<|ae.qv (qg J J) J<|rM J J<|gF h J J J (fun h=>?_) (fun h=>?_)
  ·refine rM J J<|rY J J J<|ae.qv (cu J) J<|rY J J J<|ae.qv (ir J J) J<|rE J J J<|rM J J<|gF h J J J (fun h=>?_) (fun h=>?_)
   ·refine rM J J<|rY J J J<|aF h fun c2 e1 h=>ae.qv (kB J J e1) J<|rY J J J<|ae.qv (bH J J) J<|rE J J J<|rM J J<|gF h J J J (fun h=>?_) (fun h=>?_)
    ·exact rM J J<|rY J J J<|aF h fun c3 e2 h=>ae.qv (kB J J e2) J<|rY J J J<|ae.qv (ir J J) J<|rE J J J<|rN<|aa.stop<|ai.lq [] ⟨decide ((122:Int) < (c3.toNat:Int)),h,J⟩ J J
    ·exact rG J J J J<|rG J J J J<|rT J J J<|rN<|aa.stop<|ai.lq [] ⟨true,h,J⟩ J J
   ·exact rG J J J J<|rG J J J J<|rT J J J<|rM J J<|rG J J J J<|rG J J J J<|rG J J J J<|rT J J J<|rN<|aa.stop<|ai.lq [] ⟨true,h,J⟩ J J
  ·exact rG J J J J<|rG J J J J<|rT J J J<|rM J J<|rG J J J J<|rG J J J J<|rG J J J J<|rT J J J<|rM J J<|rG J J J J<|rG J J J J<|rG J J J J<|rT J J J<|rN<|aa.stop<|ai.lq [] ⟨true,h,J⟩ J J
 ·rintro aG ⟨c1,h,rfl⟩
  unfold ml at h
  refine cB h J (fun h=>?_) (fun h=>?_)
  ·refine aM<|rA J J<|rN<|aa.ret<|?_
   cases h
   exact hP J J
  ·refine tK<|tS<|aM<|rM J J<|ae.qv (cu J) J<|rM J J<|rN<|aa.block<|aa.cj (fun x:Int=>mj ab x) (fun x aG=>aG=⟨54,[(0,.str ab),(23,I (ab.length:Int)),(24,I x)],[]⟩) h ?_ ?_
   ·exact ai.lq [] J J J
   ·intro n5 z1 aG J1 eZ h mL iQ
    obtain rfl:=eZ
    replace h:mj ab n5=some z1:=h
    unfold mj at h
    refine aM<|ae.qv (bH J J) J<|rN<|tS<|cD h J (fun h=>?_) (fun h=>?_)
    ·refine tK<|tS<|aa.block<|aM<|rM J J<|rA J J<|rN<|aM<|rM J J<|rM J J<|aF h fun c6 e3 h=>ae.qv (kB J J e3) J<|rA J J<|rN<|tS<|aa.cut (fun aG=>∃ (c7:Bool),r5 n5 c7=some z1∧aG=⟨54,[(0,.str ab),(23,I (ab.length:Int)),(24,I n5),(52,.bool c7)],[]⟩) ?_ ?_
     ·refine tR<|rM J J<|ae.qv (rU J J) J<|rM J J<|ae.bW J J J (fun hc=>?_) (fun hc=>?_)
      ·rw [if_pos hc] at h
       refine rM J J<|rY J J J<|ae.qv (rS J J) J<|rT J J J<|rM J J<|ae.gg J J J (fun hc=>?_) (fun hc=>?_)
       ·rw [if_neg hc] at h
        refine rM J J<|rY J J J<|ae.qv (rU J J) J<|rY J J J<|rM J J<|ae.bW J J J (fun hc=>?_) (fun hc=>?_)
        ·rw [if_pos hc] at h
         refine rM J J<|rY J J J<|ae.qv (rS J J) J<|rY J J J<|rT J J J<|rE J J J<|rM J J<|ae.gg J J J (fun hc=>?_) (fun hc=>?_)
         ·rw [if_neg hc] at h
          refine rM J J<|rY J J J<|ae.qv (bY J J) J<|rE J J J<|rM J J<|ae.gg J J J (fun hc=>?_) (fun hc=>?_)
          ·rw [if_neg hc] at h
           exact rM J J<|rY J J J<|ae.qv (bY J J) J<|rE J J J<|ae.qv (mE J) J<|rN<|aa.stop<|ai.lq [] ⟨decide (¬ ((c6.toNat:Int)=(95:Int))),h,J⟩ J J
          ·rw [if_pos hc] at h
           exact rG J J J J<|rT J J J<|ae.qv (fj J) J<|rN<|aa.stop<|ai.lq [] ⟨!true,h,J⟩ J J
         ·rw [if_pos hc] at h
          exact rG J J J J<|rT J J J<|rM J J<|rG J J J J<|rG J J J J<|rT J J J<|ae.qv (fj J) J<|rN<|aa.stop<|ai.lq [] ⟨!true,h,J⟩ J J
        ·rw [if_neg hc] at h
         refine rG J J J J<|rY J J J<|rE J J J<|rE J J J<|rM J J<|rY J J J<|rM J J<|rY J J J<|ae.qv (bY J J) J<|rE J J J<|rM J J<|ae.gg J J J (fun hc=>?_) (fun hc=>?_)
         ·rw [if_neg hc] at h
          exact rM J J<|rY J J J<|ae.qv (bY J J) J<|rE J J J<|ae.qv (mE J) J<|rN<|aa.stop<|ai.lq [] ⟨decide (¬ ((c6.toNat:Int)=(95:Int))),h,J⟩ J J
         ·rw [if_pos hc] at h
          exact rG J J J J<|rT J J J<|ae.qv (fj J) J<|rN<|aa.stop<|ai.lq [] ⟨!true,h,J⟩ J J
       ·rw [if_pos hc] at h
        exact rG J J J J<|rG J J J J<|ae.br J J J<|ae.br J J J<|rG J J J J<|rT J J J<|rM J J<|rG J J J J<|rG J J J J<|rT J J J<|rM J J<|rG J J J J<|rG J J J J<|rT J J J<|ae.qv (fj J) J<|rN<|aa.stop<|ai.lq [] ⟨!true,h,J⟩ J J
      ·rw [if_neg hc] at h
       refine rG J J J J<|rE J J J<|rM J J<|rY J J J<|rM J J<|rY J J J<|ae.qv (rU J J) J<|rY J J J<|rM J J<|ae.bW J J J (fun hc=>?_) (fun hc=>?_)
       ·rw [if_pos hc] at h
        refine rM J J<|rY J J J<|ae.qv (rS J J) J<|rY J J J<|rT J J J<|rE J J J<|rM J J<|ae.gg J J J (fun hc=>?_) (fun hc=>?_)
        ·rw [if_neg hc] at h
         refine rM J J<|rY J J J<|ae.qv (bY J J) J<|rE J J J<|rM J J<|ae.gg J J J (fun hc=>?_) (fun hc=>?_)
         ·rw [if_neg hc] at h
          exact rM J J<|rY J J J<|ae.qv (bY J J) J<|rE J J J<|ae.qv (mE J) J<|rN<|aa.stop<|ai.lq [] ⟨decide (¬ ((c6.toNat:Int)=(95:Int))),h,J⟩ J J
         ·rw [if_pos hc] at h
          exact rG J J J J<|rT J J J<|ae.qv (fj J) J<|rN<|aa.stop<|ai.lq [] ⟨!true,h,J⟩ J J
        ·rw [if_pos hc] at h
         exact rG J J J J<|rT J J J<|rM J J<|rG J J J J<|rG J J J J<|rT J J J<|ae.qv (fj J) J<|rN<|aa.stop<|ai.lq [] ⟨!true,h,J⟩ J J
       ·rw [if_neg hc] at h
        refine rG J J J J<|rY J J J<|rE J J J<|rE J J J<|rM J J<|rY J J J<|rM J J<|rY J J J<|ae.qv (bY J J) J<|rE J J J<|rM J J<|ae.gg J J J (fun hc=>?_) (fun hc=>?_)
        ·rw [if_neg hc] at h
         exact rM J J<|rY J J J<|ae.qv (bY J J) J<|rE J J J<|ae.qv (mE J) J<|rN<|aa.stop<|ai.lq [] ⟨decide (¬ ((c6.toNat:Int)=(95:Int))),h,J⟩ J J
        ·rw [if_pos hc] at h
         exact rG J J J J<|rT J J J<|ae.qv (fj J) J<|rN<|aa.stop<|ai.lq [] ⟨!true,h,J⟩ J J
     ·rintro aG ⟨c7,h,rfl⟩
      unfold r5 at h
      refine cB h J (fun h=>?_) (fun h=>?_)
      ·refine aM<|rA J J<|rN<|aa.ret<|have h:=cr h iQ;?_
       cases h
       exact hP J J
      ·refine tK<|aa.bN<|tR<|ae.qv (aU J J) J<|rM J J<|rN<|aa.stop<|?_
       cases h
       exact mL _ _ J<|ai.lq [] J J J
    ·refine aa.exit J<|have h:=cr h iQ;aM<|rA J J<|rN<|aa.ret<|?_
     cases h
     exact hP J J
theorem vR [GI:bF] {ab:Signal} {r:Int} (h:jq ab=some r):Pu Tryz.prog 122 [Signal.av ab] (I r):=by
 unfold jq at h
 refine aJ.bD Tryz.func122 J Tryz.ntmps122 Tryz.results122 J J ?_
 refine aM<|jU J J J J fun b1=>rA J J<|rN<|aM<|rF J J J<|rL J J .p0 J J<|ae.qv (rU J J) J<|rA J J<|rN<|aM<|rF J J J<|rL J J .p0 J J<|ae.qv (bY J J) J<|rA J J<|rN<|tS<|aa.block<|aM<|rF J J J<|rL J J .p0 J J<|bw J (wg J) cR J<|ae.qv (fj J) J<|rA J J<|rN<|cB h J (fun h=>?_) (fun h=>?_)
 ·refine aM<|rA J J<|rN<|aa.ret<|?_
  cases h
  exact hP J J
 ·refine tS<|aa.cut (fun aG=>∃ (c2:Bool),fo ab c2=some r∧aG=⟨73,[(1,.ptr b1 0),(3,.bool (decide ((3:Int)≤ab.Kind))),(4,.bool (decide (ab.Kind=(4:Int)))),(16,.bool c2)],[(b1,.cells (vA ab))]⟩) ?_ ?_
  ·refine tR<|rF J J J<|rL J J .p0 J J<|aF h fun v3 e1 h=>bw J (ri e1) cR J<|ae.qv (fj J) J<|rM J J<|ae.guard J J J (fun hc=>?_) (fun hc=>?_)
   ·exact have h:=w5 hc h;rF J J J<|rY J J J<|rL J J .p0 J J<|rY J J J<|aF h fun v4 e2 h=>bw J (ri e2) cR J<|rY J J J<|ae.qv (fj J) J<|rE J J J<|rA J J<|rN<|aa.stop<|ai.lq [0] ⟨!v4,h,J⟩ J J
   ·exact have h:=uy hc h;rG J J J J<|rG J J J J<|rG J J J J<|rT J J J<|rA J J<|rN<|aa.stop<|ai.lq [0] ⟨true,h,J⟩ J J
  ·rintro aG ⟨c2,h,rfl⟩
   unfold fo at h
   refine cB h J (fun h=>?_) (fun h=>?_)
   ·refine aM<|rA J J<|rN<|aa.ret<|?_
    cases h
    exact hP J J
   ·refine aM<|rF J J J<|rL J J .p0 J J<|bw J (tx J) cR J<|rA J J<|rN<|cB h J (fun h=>?_) (fun h=>?_)
    ·refine aM<|rA J J<|rN<|aa.ret<|?_
     cases h
     exact hP J J
    ·refine tS<|aa.cut (fun aG=>∃ (c5:Bool),fl ab c5=some r∧aG=⟨73,[(1,.ptr b1 0),(3,.bool (decide ((3:Int)≤ab.Kind))),(4,.bool (decide (ab.Kind=(4:Int)))),(31,.bool c5)],[(b1,.cells (vA ab))]⟩) ?_ ?_
     ·refine tR<|rM J J<|rM J J<|gT h J J J (fun h=>?_) (fun h=>?_)
      ·exact rF J J J<|rY J J J<|rL J J .p0 J J<|rY J J J<|aF h fun v6 e3 h=>bw J (ri e3) cR J<|rY J J J<|ae.qv (fj J) J<|rT J J J<|rA J J<|rN<|aa.stop<|ai.lq [0] ⟨!v6,h,J⟩ J J
      ·exact rG J J J J<|rG J J J J<|rG J J J J<|rE J J J<|rA J J<|rN<|aa.stop<|ai.lq [0] ⟨false,h,J⟩ J J
     ·rintro aG ⟨c5,h,rfl⟩
      unfold fl at h
      refine cB h J (fun h=>?_) (fun h=>?_)
      ·refine aM<|rA J J<|rN<|aa.ret<|?_
       cases h
       exact hP J J
      ·refine tS<|aa.cut (fun aG=>∃ (c7:Bool),jo ab c7=some r∧aG=⟨73,[(1,.ptr b1 0),(4,.bool (decide (ab.Kind=(4:Int)))),(39,.bool c7)],[(b1,.cells (vA ab))]⟩) ?_ ?_
       ·refine tR<|rM J J<|ae.qv (mE J) J<|rM J J<|ae.bW J J J (fun hc=>?_) (fun hc=>?_)
        ·rw [lM hc] at h
         exact rF J J J<|rY J J J<|rL J J .p0 J J<|rY J J J<|ae.qv (vY J J) J<|rT J J J<|rA J J<|rN<|aa.stop<|ai.lq [0] ⟨decide (ab.By≠([]:aI)),h,J⟩ J J
        ·rw [lN hc] at h
         exact rG J J J J<|rG J J J J<|rE J J J<|rA J J<|rN<|aa.stop<|ai.lq [0] ⟨false,h,J⟩ J J
       ·rintro aG ⟨c7,h,rfl⟩
        unfold jo at h
        refine cB h J (fun h=>?_) (fun h=>?_)
        ·refine aM<|rA J J<|rN<|aa.ret<|?_
         cases h
         exact hP J J
        ·refine tS<|aa.cut (fun aG=>∃ (c8:Bool),jn ab c8=some r∧aG=⟨73,[(1,.ptr b1 0),(4,.bool (decide (ab.Kind=(4:Int)))),(47,.bool c8)],[(b1,.cells (vA ab))]⟩) ?_ ?_
         ·refine tR<|rM J J<|rM J J<|ae.bW J J J (fun hc=>?_) (fun hc=>?_)
          ·rw [lM hc] at h
           refine rF J J J<|rY J J J<|rL J J .p0 J J<|rY J J J<|rF J J J<|rY J J J<|rL J J .p0 J J<|rY J J J<|ae.qv (aU J J) J<|rY J J J<|rF J J J<|rY J J J<|rL J J .p0 J J<|rY J J J<|ae.qv (aU J J) J<|rY J J J<|bw J (tx J) cR J<|rY J J J<|rM J J<|ae.guard J J J (fun hc=>?_) (fun hc=>?_)
           ·rw [P5 hc] at h
            exact rF J J J<|rY J J J<|rL J J .p0 J J<|rY J J J<|ae.qv (ir J J) J<|rY J J J<|rE J J J<|rT J J J<|rA J J<|rN<|aa.stop<|ai.lq [0] ⟨decide ((345686400000:Int) < ab.aV),h,J⟩ J J
           ·rw [P4 hc] at h
            exact rG J J J J<|rG J J J J<|rY J J J<|rT J J J<|rT J J J<|rA J J<|rN<|aa.stop<|ai.lq [0] ⟨true,h,J⟩ J J
          ·rw [lN hc] at h
           exact rG J J J J<|rG J J J J<|rG J J J J<|rG J J J J<|rG J J J J<|rG J J J J<|rG J J J J<|rG J J J J<|rG J J J J<|ae.br J J J<|ae.br J J J<|ae.br J J J<|rG J J J J<|rE J J J<|rA J J<|rN<|aa.stop<|ai.lq [0] ⟨false,h,J⟩ J J
         ·rintro aG ⟨c8,h,rfl⟩
          unfold jn at h
          refine cB h J (fun h=>?_) (fun h=>?_)
          ·refine aM<|rA J J<|rN<|aa.ret<|?_
           cases h
           exact hP J J
          ·refine tS<|aa.cut (fun aG=>∃ (c9:Bool),jm c9=some r∧aG=⟨73,[(65,.bool c9)],[]⟩) ?_ ?_
           ·refine tR<|rM J J<|ae.qv (mE J) J<|rM J J<|ae.bW J J J (fun hc=>?_) (fun hc=>?_)
            ·rw [lM hc] at h
             exact rF J J J<|rY J J J<|rL J J .p0 J J<|rY J J J<|ae.qv (jb J J) J<|rT J J J<|rA J J<|rN<|aa.stop<|ai.lq [] ⟨decide (ab.aV≠(0:Int)),h,J⟩ J J
            ·rw [lN hc] at h
             exact rG J J J J<|rG J J J J<|rE J J J<|rA J J<|rN<|aa.stop<|ai.lq [] ⟨false,h,J⟩ J J
           ·rintro aG ⟨c9,h,rfl⟩
            unfold jm at h
            refine cB h J (fun h=>?_) (fun h=>?_)
            ·refine aM<|rA J J<|rN<|aa.ret<|?_
             cases h
             exact hP J J
            ·refine tK<|aa.bN<|aM<|rA J J<|rN<|aa.ret<|?_
             cases h
             exact hP J J
theorem yj [GI:bF] {ab:Signal} {ah:Signal} {r:Int} (h:mn ab ah=some r):Pu Tryz.prog 123 [Signal.av ab,Signal.av ah] (I r):=by
 unfold mn at h
 refine aJ.bD Tryz.func123 J Tryz.ntmps123 Tryz.results123 J J ?_
 refine aM<|jU J J J J fun b1=>jU J J J J fun b2=>rA J J<|rN<|tS<|aa.bL (id:=1) (A:=[0,1,0,4,15,0,32,0,128,511,0,1024,0,4096,16383,0,32768,0,131072,524287,1048575,2097151,4194303]) 23 mixed J (by kernel_rfl) (by kernel_rfl)<|AM.qv (aC J J) J<|AM.qv (aL J J .p1 J) J<|AM.qv (aC J J) J<|AM.qv (aL J J .p0 J) J<|AM.jV J (l0 J) cR J<|AM.qv (aC J J) J<|AM.qv (aL J J .p1 J) J<|AM.qv (aC J J) J<|AM.qv (aL J J .p0 J) J<|AM.jV J (dC J) cR J<|AM.qv (aC J J) J<|AM.qv (aL J J .p1 J) J<|AM.qv (aC J J) J<|AM.qv (aL J J .p0 J) J<|AM.jV J (dC J) cR J<|AM.qv (aC J J) J<|AM.qv (aL J J .p1 J) J<|AM.qv (aC J J) J<|AM.qv (aL J J .p0 J) J<|AM.jV J (l0 J) cR J<|AM.fk (xs:=([(cmp_Compare_int ab.At ah.At),(Lib.compareBytes ab.Device ah.Device),(Lib.compareBytes ab.a8 ah.a8),(cmp_Compare_int ab.Kind ah.Kind)]:List Int).map I) J J J J J J<|aF h fun v3 e1 h=>AM.jV J (qD e1) cR J<|AM.qv (cU J) J<|AM.nil<|rN<|aa.ret<|?_
 cases h
 exact hP J J
theorem jA [GI:bF] {ab:List Signal} {r:Int} (h:ec ab=some r):Pu Tryz.prog 52 [iW ab] (I r):=by
 unfold ec at h
 refine aJ.bD Tryz.func52 J Tryz.ntmps52 Tryz.results52 J J ?_
 refine aM<|rA J J<|rN<|tS<|aM<|rM J J<|ae.qv (dz J) J<|ae.qv (ir J J) J<|rN<|cD h J (fun h=>?_) (fun h=>?_)
 ·refine aM<|rA J J<|rN<|aa.ret<|?_
  cases h
  exact hP J J
 ·refine tK<|tS<|aM<|rM J J<|ae.qv (dz J) J<|rM J J<|rN<|aa.block<|aa.cj (fun x:Int=>cE ab x) (fun x aG=>aG=⟨34,[(0,iW ab),(9,iW ab),(10,I (ab.length:Int)),(11,I x)],[]⟩) h ?_ ?_
  ·exact ai.lq [] J J J
  ·intro n2 z1 aG J1 eZ h mL iQ
   obtain rfl:=eZ
   replace h:cE ab n2=some z1:=h
   unfold cE at h
   refine aM<|ae.qv (bH J J) J<|rN<|tS<|cD h J (fun h=>?_) (fun h=>?_)
   ·refine tK<|tS<|aa.block<|aM<|rM J J<|aF h fun v3 e1 h=>ae.qv (bJ J J J e1 J J) J<|ae.qv (bA J J J) J<|bX J J J J fun b4=>rA J J<|aB J J J J .p0 J J<|rN<|tS<|aM<|ae.qv (bb J J .p0 J) J<|aF h fun v5 e2 h=>bw J (vR e2) cR J<|rA J J<|rN<|aM<|rM J J<|ae.qv (jb J J) J<|rN<|cD h J (fun h=>?_) (fun h=>?_)
    ·refine aM<|rM J J<|rA J J<|rN<|aa.ret<|have h:=cr h iQ;?_
     cases h
     exact hP J J
    ·refine tK<|tS<|aa.cut (fun aG=>∃ (c6:Bool),gh n2 c6=some z1∧aG=⟨34,[(0,iW ab),(9,iW ab),(10,I (ab.length:Int)),(11,I n2),(32,.bool c6)],[]⟩) ?_ ?_
     ·refine aa.bL (id:=9) (A:=[0,1,3,7,7,7,39,119,247,511,1023,2047]) 12 mixed J (by kernel_rfl) (by kernel_rfl)<|AM.qv (aA J) J<|AM.qv (ir J J) J<|AM.qv (aA J) J<|AM.bW J J J (fun hc=>?_) (fun hc=>?_)
      ·exact have h:=uy hc h;AM.qv (bb J J .p0 J) J<|AM.bc J J J<|AM.qv (aA J) J<|AM.bc J J J<|AM.qv (aA J) J<|AM.bc J J J<|AM.qv (bR J J) J<|AM.bc J J J<|aF h fun v7 e3 h=>AM.qv (bJ J J J e3 J J) J<|AM.bc J J J<|AM.qv (bA J J J) J<|AM.bc J J J<|aF h fun v8 e4 h=>AM.jV J (yj e4) cR J<|AM.bc J J J<|AM.qv (rS J J) J<|AM.qv (pr J J) J<|AM.nil<|rN<|aa.stop<|ai.lq [] ⟨decide (v8≤(0:Int)),h,J⟩ J J
      ·exact have h:=EI hc h;AM.bn J J J J<|AM.bn J J J J<|AM.bn J J J J<|AM.bn J J J J<|AM.bn J J J J<|AM.bn J J J J<|AM.bn J J J J<|AM.qv (ps J J) J<|AM.nil<|rN<|aa.stop<|ai.lq [] ⟨false,h,J⟩ J J
     ·rintro aG ⟨c6,h,rfl⟩
      unfold gh at h
      refine cB h J (fun h=>?_) (fun h=>?_)
      ·refine aM<|rA J J<|rN<|aa.ret<|have h:=cr h iQ;?_
       cases h
       exact hP J J
      ·refine tK<|aa.bN<|tR<|ae.qv (aU J J) J<|rM J J<|rN<|aa.stop<|?_
       cases h
       exact mL _ _ J<|ai.lq [] J J J
   ·refine aa.exit J<|have h:=cr h iQ;aM<|rA J J<|rN<|aa.ret<|?_
    cases h
    exact hP J J
theorem BS [GI:bF] {ab:au} {r:Bool} (h:pC ab=r):Pu Tryz.prog 53 [au.av ab] (.bool r):=by
 unfold pC at h
 refine aJ.bD Tryz.func53 J Tryz.ntmps53 Tryz.results53 J J ?_
 refine aM<|jU J J J J fun b1=>rA J J<|rN<|tS<|aa.cut (fun aG=>∃ (c2:Bool),oB c2=r∧aG=⟨14,[(2,.bool c2)],[]⟩) ?_ ?_
 ·refine tR<|rF J J J<|rL J J .p0 J J<|rF J J J<|rL J J .p0 J J<|bw J (tx J) cR J<|ae.qv (fj J) J<|rM J J<|ae.guard J J J (fun hc=>?_) (fun hc=>?_)
  ·rw [EN hc] at h
   exact rF J J J<|rY J J J<|rL J J .p0 J J<|rY J J J<|ae.qv (rS J J) J<|rT J J J<|rA J J<|rN<|aa.stop<|ai.lq [] ⟨decide (ab.To≤(345686400000:Int)),h,J⟩ J J
  ·rw [EO hc] at h
   exact rG J J J J<|rG J J J J<|rE J J J<|rA J J<|rN<|aa.stop<|ai.lq [] ⟨false,h,J⟩ J J
 ·rintro aG ⟨c2,h,rfl⟩
  unfold oB at h
  refine aa.ret<|?_
  obtain rfl:=h
  exact hP J J
theorem AI [GI:bF] {ab:aq} {ah:aq} {r:Int} (h:qy ab ah=some r):Pu Tryz.prog 183 [aq.av ab,aq.av ah] (I r):=by
 unfold qy at h
 refine aJ.bD Tryz.func183 J Tryz.ntmps183 Tryz.results183 J J ?_
 refine aM<|jU J J J J fun b1=>jU J J J J fun b2=>rA J J<|rN<|tS<|aa.bL (id:=1) (A:=[0,1,0,4,15,0,32,0,128,511,1023,2047,4095]) 13 mixed J (by kernel_rfl) (by kernel_rfl)<|AM.qv (aC J J) J<|AM.qv (aL J J .p1 J) J<|AM.qv (aC J J) J<|AM.qv (aL J J .p0 J) J<|AM.jV J (dC J) cR J<|AM.qv (aC J J) J<|AM.qv (aL J J .p1 J) J<|AM.qv (aC J J) J<|AM.qv (aL J J .p0 J) J<|AM.jV J (dC J) cR J<|AM.fk (xs:=([(Lib.compareBytes ab.aK ah.aK),(Lib.compareBytes ab.aN ah.aN)]:List Int).map I) J J J J J J<|aF h fun v3 e1 h=>AM.jV J (qD e1) cR J<|AM.qv (cU J) J<|AM.nil<|rN<|aa.ret<|?_
 cases h
 exact hP J J
theorem vS [GI:bF] {ab:ak} {ah:ak} {r:Int} (h:gP ab ah=some r):Pu Tryz.prog 182 [.eo [.str ab.aR.aK,.str ab.aR.aN,I ab.az,I ab.bM,gx ab.aD,I ab.ay,qC ab.eV,qC ab.bC,qC ab.bh,gx ab.bf,gx ab.aW],.eo [.str ah.aR.aK,.str ah.aR.aN,I ah.az,I ah.bM,gx ah.aD,I ah.ay,qC ah.eV,qC ah.bC,qC ah.bh,gx ah.bf,gx ah.aW]] (I r):=by
 unfold gP at h
 refine aJ.bD Tryz.func182 J Tryz.ntmps182 Tryz.results182 J J ?_
 refine aM<|rA J J<|rN<|tS<|aa.bL (id:=1) (A:=[0,1,3,7,0,16,48,112,255,511]) 10 mixed J (by kernel_rfl) (by kernel_rfl)<|AM.qv (aA J) J<|AM.qv (aP J) J<|AM.qv (aQ J J) J<|AM.qv (sC J J J J) J<|AM.qv (aA J) J<|AM.qv (aP J) J<|AM.qv (aQ J J) J<|AM.qv (sC J J J J) J<|aF h fun v1 e1 h=>AM.jV J (AI e1) cR J<|AM.qv (cU J) J<|AM.nil<|rN<|aa.ret<|?_
 cases h
 exact hP J J
theorem lI:H7 Tryz.prog 181:=⟨fun enc h1 cf hO g cb bN off cap d w eg hc hH hb hs=>Any.slices_SortFunc_eq Tryz.Fv enc h1 cf hO g cb bN off cap d w eg hc hH hb hs,fun p cap fv w=>AnyF.slices_SortFunc_none {Tryz.Fv with} p cap fv w⟩
theorem yk [GI:bF] {ab:List Signal} {r:bO} (h:mo ab=some r):aJ Tryz.prog 124 [iW ab] [] (T6 (fun mS AJ AL FA tz AN=>[(mS,.cells [.jO AJ,.sl 1 AL 0 r.jX.length]),(AJ,.mp (r.rD.map (fun e=>(aq.av e.1,(pA tz) e.2)))),(AL,.arr 1 (r.jX.map (pA tz))),(FA,.bU (gl Ii tz AN r.BN))]) (fun mS AJ AL FA tz AN=>.ptr mS 0)):=by
 unfold mo at h
 refine aJ.fa ?_
 refine aJ.bD Tryz.func124 J Tryz.ntmps124 Tryz.results124 J J ?_
 refine aM<|rA J J<|rN<|aM<|vr J fun b1=>ae.qv (db J J J J J) J<|jU J J J J fun b2=>ae.ghost<|ai.Dq (kb:=Ii) fun b3 bo4 bs5=>ai.here<|rA J J<|rN<|tS<|aM<|rM J J<|ae.qv (dz J) J<|rM J J<|rN<|aa.block<|aa.cj (fun x:(List (aq×Int))×(List ak)×(List Int)×Int=>dR ab x.1 x.2.1 x.2.2.1 x.2.2.2) (fun x aG=>∃ (FB:Nat→Bk) (DF:Nat→Nat→Bk) (AO:Bk),aG=⟨55,[(3,.ptr b2 0),(11,iW ab),(12,I (ab.length:Int)),(13,I x.2.2.2)],[(b2,.cells [.jO b1,.sl 1 AO 0 x.2.2.1.length]),(b1,.mp (x.1.map (fun e=>(aq.av e.1,(pA FB) e.2)))),(b3,.bU (gl Ii FB DF x.2.1)),(AO,.arr 1 (x.2.2.1.map (pA FB)))]⟩) h ?_ ?_
 ·exact ai.sj (j:=1) 1 (fun _=>.p1) J (fun _=>J) (fun _=>J) fun xY=>ai.lq [2,2,1,0] ⟨bo4,bs5,xY,J⟩ J J
 ·intro x z1 aG J1 eZ h mL iQ
  obtain ⟨sn,oh,ue,n19⟩:=x
  obtain ⟨FB,DF,AO,rfl⟩:=eZ
  replace h:dR ab sn oh ue n19=some z1:=h
  unfold dR at h
  refine aM<|ae.qv (bH J J) J<|rN<|tS<|cD h J (fun h=>?_) (fun h=>?_)
  ·refine tK<|tS<|aa.cut (fun aG=>∃ (kr:Nat→Bk) (uN:Nat→Nat→Bk) (vB:Bk) (qT:List (aq×Int)) (gz:List ak) (Jo:List Int),jr n19 qT gz Jo=some z1∧aG=⟨55,[(3,.ptr b2 0),(11,iW ab),(12,I (ab.length:Int)),(13,I n19)],[(b2,.cells [.jO b1,.sl 1 vB 0 Jo.length]),(b1,.mp (qT.map (fun e=>(aq.av e.1,(pA kr) e.2)))),(b3,.bU (gl Ii kr uN gz)),(vB,.arr 1 (Jo.map (pA kr)))]⟩) ?_ ?_
   ·refine aa.block<|aM<|aF h fun yf e1 h=>ae.qv (bJ J J J e1 J J) J<|ae.qv (bA J J J) J<|bX J J J J fun VF=>aB J J J J .p0 J J<|rN<|aM<|rF J J J<|rL J J .p0 J J<|rF J J J<|rL J J .p0 J J<|ae.qv (db J J J J J) J<|bX J J J J fun b29=>aB J J J J .p0 J J<|rN<|tS<|aa.bL (id:=6) (A:=[0,1,3,7,0,31,63]) 7 mixed J (by kernel_rfl) (by kernel_rfl)<|AM.qv (aA J) J<|AM.qv (ax J) J<|AM.qv (aC J J) J<|AM.qv (aL J J .p2 J) J<|AM.qv (bb J J .p0 J) J<|Jb h (fun e2 h=>?_) (fun n30 e2 h=>?_)
    ·exact AM.qv (oZ (gk:=aq.av) (gv:=(pA FB)) (M:=sn) (key:=(⟨yf.Device,yf.a8⟩:aq)) J J .p3 J e2) J<|AM.qv (Au J J) J<|AM.nil<|rN<|aa.CW J<|aM<|ae.qv (bb J J .p0 J) J<|ae.qv (db J J J J J) J<|jU J J J J fun b31=>rA J J<|rN<|tS<|aa.bL (id:=8) (A:=[0,1,3,7,0,0,63]) 6 mixed J (by kernel_rfl) (by kernel_rfl)<|AM.qv (aA J) J<|AM.qv (ax J) J<|AM.qv (aC J J) J<|AM.qv (aL J J .p3 J) J<|AM.qv (bb J J .p1 J) J<|AM.qv (aA J) J<|AM.nil<|ae.ghost<|ai.sj (j:=4) 1 (fun _=>.p0) J (fun _=>J) (fun _=>J) fun Xf=>ai.here<|ae.ghost<|ai.sj (j:=6) 2 (fun _=>.p1) J (fun _=>J) (fun _=>J) fun VG=>ai.here<|ae.ghost<|ai.sj (j:=7) 2 (fun _=>.p2) J (fun _=>J) (fun _=>J) fun R5=>ai.here<|ae.ghost<|ai.sj (j:=8) 2 (fun _=>.p3) J (fun _=>J) (fun _=>J) fun b35=>ai.here<|ae.ghost<|ai.sj (j:=9) 1 (fun _=>.p4) J (fun _=>J) (fun _=>J) fun sX=>ai.here<|ae.ghost<|ai.sj (j:=10) 1 (fun _=>.p5) J (fun _=>J) (fun _=>J) fun R6=>ai.here<|aF h fun u38 e3 h=>ae.ghost<|ai.Dr (kb:=Ii) (v:=(⟨(⟨yf.Device,yf.a8⟩:aq),(0:Int),(0:Int),[],(0:Int),[],[],[],[],[]⟩:ak)) (s:=Jh [Xf,VG,R5,b35,sX,R6]) (.cons .p6 (.cons .p5 (.cons .p4 (.cons .p3 (.cons .p2 (.cons .p1 (.cons .p0 .nil))))))) J (fun _ _=>.p4) fun G6 Xg T7 QR=>ai.here<|ae.ghost<|ai.N0 (Pm T7 (Tq e3)) .p3<|ai.here<|ae.ghost<|ai.N0 (Lc T7 (Tr e3)) .p5<|ai.here<|ae.ghost<|ai.eqs (s:=31) (eW:=.ptr (G6 (oh.length:Int).toNat) 0) J (Az QR _)<|ai.here<|ae.ghost<|ai.eqs (s:=7) (eW:=.ptr (G6 (oh.length:Int).toNat) 0) J (Az QR _)<|ai.here<|ae.ghost<|ai.eqs (s:=37) (eW:=.ptr (G6 (oh.length:Int).toNat) 0) J (Az QR _)<|ai.here<|uD (gk:=aq.av) (gv:=(pA G6)) (M:=sn) (key:=(⟨yf.Device,yf.a8⟩:aq)) (v:=(oh.length:Int)) J J J J .p3<|rN<|tR<|rM J J<|rM J J<|ae.qv (ax J) J<|rF J J J<|rL J J .p2 J J<|rM J J<|ba (xs:=([(oh.length:Int)]).map (pA G6)) J J J J J J<|aF h fun W3 e5 h=>dA (g:=(pA G6)) J J J J J J J J (.list _) e5 (fun _=>.p5) J fun b42=>ae.qv (ax J) J<|rF J J J<|aB J J J J .p2 J J<|rN<|aa.bN<|aa.stop<|ai.lq [2,2,2,2] ⟨G6,Xg,b42,gV sn (⟨yf.Device,yf.a8⟩:aq) (oh.length:Int),oh++[(⟨(⟨yf.Device,yf.a8⟩:aq),(0:Int),(0:Int),[],(0:Int),[],[],[],[],[]⟩:ak)],W3,h,J⟩ J J
    ·exact AM.qv (o0 (gk:=aq.av) (gv:=(pA FB)) (M:=sn) (key:=(⟨yf.Device,yf.a8⟩:aq)) J J .p3 e2) J<|AM.qv (Dl J J) J<|AM.nil<|rN<|aa.CX J<|tK<|aa.bN<|aa.stop<|ai.lq [2,2,2,2] ⟨FB,DF,AO,sn,oh,ue,h,J⟩ J J
   ·rintro aG ⟨kr,uN,vB,qT,gz,Jo,h,rfl⟩
    unfold jr at h
    refine tR<|ae.qv (aU J J) J<|rM J J<|rN<|aa.stop<|?_
    cases h
    exact mL _ _ J<|ai.lq [0,0,0,0] ⟨kr,uN,vB,J⟩ J J
  ·refine aa.exit J<|have h:=cr h iQ;?_
   unfold lR at h
   refine aM<|rM J J<|ae.qv (ax J) J<|rF J J J<|rL J J .p0 J J<|aF h fun VA e6 h=>bz J (yO lI Xd (fun e=>vS (GI:=mC) e) e6) cR (.cons .p3 (.cons .p2 .nil)) J J<|ae.ghost<|ai.eqs (s:=52) (eW:=.sl 1 AO 0 VA.length) J (congrArg (AV.sl 1 AO 0) (vw e6))<|ai.here<|ae.ghost<|ai.HL (j:=1) (eW:=.sl 1 AO 0 VA.length) .p2 J (congrArg (AV.sl 1 AO 0) (vw e6)) J<|ai.here<|rN<|aM<|rM J J<|rA J J<|rN<|aa.ret<|?_
   cases h
   exact hH J [2,2,0,0] J ⟨b2,b1,AO,b3,FB,DF,J,J⟩
theorem pK [GI:bF] {aY:Bk} {ab:List au} {r:Int} (h:gn ab=some r):aJ Tryz.prog 295 [.sl 2 aY 0 ab.length] [(aY,iF ab)] (T0 ([(aY,iF ab)]) (.pq 2 aY r.toNat 0)):=by
 unfold gn at h
 refine aJ.fa ?_
 refine aJ.bD Tryz.func295 J Tryz.ntmps295 Tryz.results295 J J ?_
 refine aM<|rA J J<|rN<|aM<|rM J J<|rM J J<|ae.qv (cH J) J<|ae.qv (bR J J) J<|aF h fun v1 e1 h=>ae.qv (aS J J J e1) J<|rA J J<|rN<|aa.ret<|?_
 cases h
 exact hH J [0] J ⟨J,J⟩
theorem ma [GI:bF] {aY:Bk} {eD:Bk} {eE:Bk} {ft:Bk} {dV:Bk} {eF:Bk} {cq:Bk} {ab:ak} {ah:Int} {aO:Int} {r:ak} (h:fP ab ah aO=some r):aJ Tryz.prog 238 [.ptr aY 0,I ah,I aO] [(aY,.cells (G5 ab eD eE ft dV eF cq)),(eD,gB ab.aD),(eE,iF ab.eV),(ft,iF ab.bC),(dV,iF ab.bh),(eF,gB ab.bf),(cq,gB ab.aW)] (T6 (fun uO uP uQ uR uS rj=>[(aY,.cells (G5 r uO uP uQ uR uS rj)),(uO,gB r.aD),(uP,iF r.eV),(uQ,iF r.bC),(uR,iF r.bh),(uS,gB r.bf),(rj,gB r.aW)]) (fun uO uP uQ uR uS rj=>.iV [])):=by
 unfold fP at h
 refine aJ.fa ?_
 refine aJ.bD Tryz.func238 J Tryz.ntmps238 Tryz.results238 J J ?_
 refine aM<|rA J J<|rN<|tS<|aa.cut (fun aG=>∃ (c1:Bool) (c2:Bool),kP ab ah aO c1 c2=some r∧aG=⟨92,[(0,.ptr aY 0),(1,I ah),(2,I aO),(6,.func (.func 295) []),(7,.bool c1),(8,.bool c2)],[(aY,.cells (G5 ab eD eE ft dV eF cq)),(eD,gB ab.aD),(eE,iF ab.eV),(ft,iF ab.bC),(dV,iF ab.bh),(eF,gB ab.bf),(cq,gB ab.aW)]⟩) ?_ ?_
 ·refine tR<|rM J J<|ae.qv (ax J) J<|rF J J J<|rL J J .p0 J J<|ae.qv (bY J J) J<|rM J J<|ae.gg J J J (fun hc=>?_) (fun hc=>?_)
  ·rw [BE hc] at h
   refine rM J J<|rY J J J<|ae.qv (ax J) J<|rY J J J<|rF J J J<|rY J J J<|rL J J .p0 J J<|rY J J J<|ae.qv (bY J J) J<|rE J J J<|rM J J<|ae.qv (bY J J) J<|rM J J<|ae.gg J J J (fun hc=>?_) (fun hc=>?_)
   ·rw [BE hc] at h
    exact rM J J<|rY J J J<|ae.qv (bY J J) J<|rE J J J<|rA J J<|rA J J<|rN<|aa.stop<|ai.lq [0,0,0,0,0,0,0] ⟨decide (ab.az=(2:Int)),decide (ah=(2:Int)),h,J⟩ J J
   ·rw [BD hc] at h
    exact rG J J J J<|rT J J J<|rA J J<|rA J J<|rN<|aa.stop<|ai.lq [0,0,0,0,0,0,0] ⟨decide (ab.az=(2:Int)),true,h,J⟩ J J
  ·rw [BD hc] at h
   refine rG J J J J<|rG J J J J<|rG J J J J<|rG J J J J<|rT J J J<|rM J J<|ae.qv (bY J J) J<|rM J J<|ae.gg J J J (fun hc=>?_) (fun hc=>?_)
   ·rw [BE hc] at h
    exact rM J J<|rY J J J<|ae.qv (bY J J) J<|rE J J J<|rA J J<|rA J J<|rN<|aa.stop<|ai.lq [0,0,0,0,0,0,0] ⟨true,decide (ah=(2:Int)),h,J⟩ J J
   ·rw [BD hc] at h
    exact rG J J J J<|rT J J J<|rA J J<|rA J J<|rN<|aa.stop<|ai.lq [0,0,0,0,0,0,0] ⟨true,true,h,J⟩ J J
 ·rintro aG ⟨c1,c2,h,rfl⟩
  unfold kP at h
  refine tS<|aM<|rM J J<|ae.qv (ax J) J<|rF J J J<|rL J J .p0 J J<|ae.qv (bY J J) J<|rN<|aa.cut (fun aG=>∃ (l3:List au),gr ab ah aO c1 c2 l3=some r∧aG=⟨92,[(0,.ptr aY 0),(1,I ah),(2,I aO),(6,.func (.func 295) []),(7,.bool c1),(8,.bool c2)],[(aY,.cells [.str ab.aR.aK,.str ab.aR.aN,I ab.az,I ab.bM,.sl 1 eD 0 ab.aD.length,I ab.ay,.sl 2 eE 0 ab.eV.length,.sl 2 ft 0 l3.length,.sl 2 dV 0 ab.bh.length,.sl 1 eF 0 ab.bf.length,.sl 1 cq 0 ab.aW.length]),(eD,gB ab.aD),(eE,iF ab.eV),(ft,iF l3),(dV,iF ab.bh),(eF,gB ab.bf),(cq,gB ab.aW)]⟩) ?_ ?_
  ·refine cD h J (fun h=>?_) (fun h=>?_)
   ·exact tR<|rM J J<|rM J J<|ae.qv (ax J) J<|rF J J J<|rL J J .p0 J J<|aF h fun v4 e1 h=>EL J J J (pK e1) cR (.cons .p3 .nil) J J<|rM J J<|ae.qv (df J) J<|ae.qv (dB J J) J<|aF h fun v5 e2 h=>bQ (g:=au.av) (xV:=(⟨v5.bg,aO⟩:au)) J J J J e2 J .p0 J<|ae.ghost<|ai.eqs (s:=36) (eW:=.sl 2 ft 0 (ab.bC.set v4.toNat (⟨v5.bg,aO⟩:au)).length) J (by rw [List.length_set])<|ai.here<|ae.ghost<|ai.HL (j:=7) (eW:=.sl 2 ft 0 (ab.bC.set v4.toNat (⟨v5.bg,aO⟩:au)).length) .p1 J (by rw [List.length_set]) J<|ai.here<|rN<|aa.stop<|ai.lq [1,1,1,0,0,0,0] ⟨ab.bC.set v4.toNat (⟨v5.bg,aO⟩:au),h,J⟩ J J
   ·exact tK<|aa.stop<|ai.lq [0,0,0,0,0,0,0] ⟨ab.bC,h,J⟩ J J
  ·rintro aG ⟨l3,h,rfl⟩
   unfold gr at h
   refine tS<|tS<|aa.cut (fun aG=>∃ (c6:Bool),kO ab ah aO c1 c2 l3 c6=some r∧aG=⟨92,[(0,.ptr aY 0),(1,I ah),(2,I aO),(6,.func (.func 295) []),(7,.bool c1),(8,.bool c2),(45,.bool c6)],[(aY,.cells [.str ab.aR.aK,.str ab.aR.aN,I ab.az,I ab.bM,.sl 1 eD 0 ab.aD.length,I ab.ay,.sl 2 eE 0 ab.eV.length,.sl 2 ft 0 l3.length,.sl 2 dV 0 ab.bh.length,.sl 1 eF 0 ab.bf.length,.sl 1 cq 0 ab.aW.length]),(eD,gB ab.aD),(eE,iF ab.eV),(ft,iF l3),(dV,iF ab.bh),(eF,gB ab.bf),(cq,gB ab.aW)]⟩) ?_ ?_
   ·refine tR<|rM J J<|rM J J<|ae.guard J J J (fun hc=>?_) (fun hc=>?_)
    ·rw [EN hc] at h
     exact rM J J<|rY J J J<|ae.qv (fj J) J<|rT J J J<|rN<|aa.stop<|ai.lq [0,0,0,0,0,0,0] ⟨!c2,h,J⟩ J J
    ·rw [EO hc] at h
     exact rG J J J J<|rE J J J<|rN<|aa.stop<|ai.lq [0,0,0,0,0,0,0] ⟨false,h,J⟩ J J
   ·rintro aG ⟨c6,h,rfl⟩
    unfold kO at h
    refine aa.cut (fun aG=>∃ (l7:List au),gq ab ah aO c1 c2 l3 l7=some r∧aG=⟨92,[(0,.ptr aY 0),(1,I ah),(2,I aO),(7,.bool c1),(8,.bool c2)],[(aY,.cells [.str ab.aR.aK,.str ab.aR.aN,I ab.az,I ab.bM,.sl 1 eD 0 ab.aD.length,I ab.ay,.sl 2 eE 0 l7.length,.sl 2 ft 0 l3.length,.sl 2 dV 0 ab.bh.length,.sl 1 eF 0 ab.bf.length,.sl 1 cq 0 ab.aW.length]),(eD,gB ab.aD),(eE,iF l7),(ft,iF l3),(dV,iF ab.bh),(eF,gB ab.bf),(cq,gB ab.aW)]⟩) ?_ ?_
    ·refine cB h J (fun h=>?_) (fun h=>?_)
     ·exact tR<|rM J J<|rM J J<|ae.qv (ax J) J<|rF J J J<|rL J J .p0 J J<|aF h fun v8 e3 h=>EL J J J (pK e3) cR (.cons .p2 .nil) J J<|rM J J<|ae.qv (df J) J<|ae.qv (dB J J) J<|aF h fun v9 e4 h=>bQ (g:=au.av) (xV:=(⟨v9.bg,aO⟩:au)) J J J J e4 J .p0 J<|ae.ghost<|ai.eqs (s:=50) (eW:=.sl 2 eE 0 (ab.eV.set v8.toNat (⟨v9.bg,aO⟩:au)).length) J (by rw [List.length_set])<|ai.here<|ae.ghost<|ai.HL (j:=6) (eW:=.sl 2 eE 0 (ab.eV.set v8.toNat (⟨v9.bg,aO⟩:au)).length) .p1 J (by rw [List.length_set]) J<|ai.here<|rN<|aa.stop<|ai.lq [1,1,0,0,0,0,0] ⟨ab.eV.set v8.toNat (⟨v9.bg,aO⟩:au),h,J⟩ J J
     ·exact tK<|aa.stop<|ai.lq [0,0,0,0,0,0,0] ⟨ab.eV,h,J⟩ J J
    ·rintro aG ⟨l7,h,rfl⟩
     unfold gq at h
     refine tS<|aM<|rM J J<|ae.qv (bY J J) J<|rN<|aa.cut (fun aG=>∃ (nh:Bk) (iU:List au),gp ab ah aO c1 c2 l7 iU=some r∧aG=⟨92,[(0,.ptr aY 0),(1,I ah),(2,I aO),(7,.bool c1),(8,.bool c2)],[(aY,.cells [.str ab.aR.aK,.str ab.aR.aN,I ab.az,I ab.bM,.sl 1 eD 0 ab.aD.length,I ab.ay,.sl 2 eE 0 l7.length,.sl 2 nh 0 iU.length,.sl 2 dV 0 ab.bh.length,.sl 1 eF 0 ab.bf.length,.sl 1 cq 0 ab.aW.length]),(eD,gB ab.aD),(eE,iF l7),(nh,iF iU),(dV,iF ab.bh),(eF,gB ab.bf),(cq,gB ab.aW)]⟩) ?_ ?_
     ·refine cD h J (fun h=>?_) (fun h=>?_)
      ·exact tR<|rM J J<|rM J J<|ae.qv (ax J) J<|rF J J J<|rL J J .p0 J J<|rM J J<|ae.qv (db J J J J J) J<|ba (xs:=([(⟨aO,(345686400000:Int)⟩:au)]).map au.av) J J J J J J<|aF h fun sw e5 h=>dA (g:=au.av) J J J J J J J J (.list _) e5 (fun _=>.p3) J fun FC=>ae.qv (ax J) J<|rF J J J<|aB J J J J .p0 J J<|rN<|aa.stop<|ai.lq [0,0,0,0,0,0,0] ⟨FC,sw,h,J⟩ J J
      ·exact tK<|aa.stop<|ai.lq [0,0,0,0,0,0,0] ⟨ft,l3,h,J⟩ J J
     ·rintro aG ⟨nh,iU,h,rfl⟩
      unfold gp at h
      refine tS<|tS<|aa.cut (fun aG=>∃ (Tx:Bool),kN ab ah aO l7 iU Tx=some r∧aG=⟨92,[(0,.ptr aY 0),(1,I ah),(2,I aO),(72,.bool Tx)],[(aY,.cells [.str ab.aR.aK,.str ab.aR.aN,I ab.az,I ab.bM,.sl 1 eD 0 ab.aD.length,I ab.ay,.sl 2 eE 0 l7.length,.sl 2 nh 0 iU.length,.sl 2 dV 0 ab.bh.length,.sl 1 eF 0 ab.bf.length,.sl 1 cq 0 ab.aW.length]),(eD,gB ab.aD),(eE,iF l7),(nh,iF iU),(dV,iF ab.bh),(eF,gB ab.bf),(cq,gB ab.aW)]⟩) ?_ ?_
      ·refine tR<|rM J J<|rM J J<|ae.guard J J J (fun hc=>?_) (fun hc=>?_)
       ·rw [EN hc] at h
        exact rM J J<|rY J J J<|ae.qv (fj J) J<|rT J J J<|rN<|aa.stop<|ai.lq [0,0,0,0,0,0,0] ⟨!c1,h,J⟩ J J
       ·rw [EO hc] at h
        exact rG J J J J<|rE J J J<|rN<|aa.stop<|ai.lq [0,0,0,0,0,0,0] ⟨false,h,J⟩ J J
      ·rintro aG ⟨Tx,h,rfl⟩
       unfold kN at h
       refine aa.cut (fun aG=>∃ (Pt:Bk) (kA:List au),iJ ab ah aO iU kA=some r∧aG=⟨92,[(0,.ptr aY 0),(1,I ah),(2,I aO)],[(aY,.cells [.str ab.aR.aK,.str ab.aR.aN,I ab.az,I ab.bM,.sl 1 eD 0 ab.aD.length,I ab.ay,.sl 2 Pt 0 kA.length,.sl 2 nh 0 iU.length,.sl 2 dV 0 ab.bh.length,.sl 1 eF 0 ab.bf.length,.sl 1 cq 0 ab.aW.length]),(eD,gB ab.aD),(Pt,iF kA),(nh,iF iU),(dV,iF ab.bh),(eF,gB ab.bf),(cq,gB ab.aW)]⟩) ?_ ?_
       ·refine cB h J (fun h=>?_) (fun h=>?_)
        ·exact tR<|rM J J<|rM J J<|ae.qv (ax J) J<|rF J J J<|rL J J .p0 J J<|rM J J<|ae.qv (db J J J J J) J<|ba (xs:=([(⟨aO,(345686400000:Int)⟩:au)]).map au.av) J J J J J J<|aF h fun Gm e6 h=>dA (g:=au.av) J J J J J J J J (.list _) e6 (fun _=>.p2) J fun we=>ae.qv (ax J) J<|rF J J J<|aB J J J J .p0 J J<|rN<|aa.stop<|ai.lq [0,0,0,0,0,0,0] ⟨we,Gm,h,J⟩ J J
        ·exact tK<|aa.stop<|ai.lq [0,0,0,0,0,0,0] ⟨eE,l7,h,J⟩ J J
       ·rintro aG ⟨Pt,kA,h,rfl⟩
        unfold iJ at h
        refine tR<|rM J J<|rM J J<|rM J J<|rM J J<|ae.qv (ax J) J<|rF J J J<|aB J J J J .p0 J J<|ae.qv (ax J) J<|rF J J J<|aB J J J J .p0 J J<|rN<|aa.nil<|?_
        cases h
        exact ai.here ⟨_,.nil,_,.cons .p0 (.cons .p0 (.cons .p0 (.cons .p0 (.cons .p0 (.cons .p0 (.cons .p0 .nil)))))),⟨eD,Pt,nh,dV,eF,cq,J,J⟩⟩
theorem wI [GI:bF] {aY:Bk} {eD:Bk} {eE:Bk} {ft:Bk} {dV:Bk} {eF:Bk} {cq:Bk} {ab:ak} {ah:Signal} {r:Int×ak} (h:ke ab ah=some r):aJ Tryz.prog 239 [.ptr aY 0,Signal.av ah] [(aY,.cells (G5 ab eD eE ft dV eF cq)),(eD,gB ab.aD),(eE,iF ab.eV),(ft,iF ab.bC),(dV,iF ab.bh),(eF,gB ab.bf),(cq,gB ab.aW)] (T6 (fun uO uP uQ uR uS rj=>[(aY,.cells (G5 r.2 uO uP uQ uR uS rj)),(uO,gB r.2.aD),(uP,iF r.2.eV),(uQ,iF r.2.bC),(uR,iF r.2.bh),(uS,gB r.2.bf),(rj,gB r.2.aW)]) (fun uO uP uQ uR uS rj=>I r.1)):=by
 unfold ke at h
 refine aJ.fa ?_
 refine aJ.bD Tryz.func239 J Tryz.ntmps239 Tryz.results239 J J ?_
 refine aM<|jU J J J J fun b1=>rA J J<|rN<|aM<|rF J J J<|rL J J .p0 J J<|ae.qv (bY J J) J<|rA J J<|rN<|tS<|aa.block<|tS<|aa.cut (fun aG=>∃ (c2:Bool),gZ ab ah c2=some r∧aG=⟨95,[(0,.ptr aY 0),(3,.ptr b1 0),(5,.bool (decide (ah.Kind=(2:Int)))),(9,.bool c2)],[(aY,.cells (G5 ab eD eE ft dV eF cq)),(eD,gB ab.aD),(eE,iF ab.eV),(ft,iF ab.bC),(dV,iF ab.bh),(eF,gB ab.bf),(cq,gB ab.aW),(b1,.cells (vA ah))]⟩) ?_ ?_
 ·refine tR<|rM J J<|rM J J<|ae.bW J J J (fun hc=>?_) (fun hc=>?_)
  ·rw [lM hc] at h
   exact rM J J<|rY J J J<|ae.qv (ax J) J<|rY J J J<|rF J J J<|rY J J J<|rL J J .p1 J J<|rY J J J<|ae.qv (bY J J) J<|rT J J J<|rA J J<|rN<|aa.stop<|ai.lq [1,1,1,1,1,1,1,0] ⟨decide (ab.az=(1:Int)),h,J⟩ J J
  ·rw [lN hc] at h
   exact rG J J J J<|rG J J J J<|rG J J J J<|rG J J J J<|rE J J J<|rA J J<|rN<|aa.stop<|ai.lq [1,1,1,1,1,1,1,0] ⟨false,h,J⟩ J J
 ·rintro aG ⟨c2,h,rfl⟩
  unfold gZ at h
  refine aa.cut (fun aG=>∃ (b7:Bk) (nh:Bk) (xx:Bk) (yh:Bk) (uj:Bk) (we:Bk) (q3:aI) (q4:aI) (n5:Int) (n6:Int) (l8:List Int) (n9:Int) (iU:List au) (sn:List au) (pD:List au) (Gm:List Int) (nT:List Int),dt ah q3 q4 n5 n6 l8 n9 iU sn pD Gm nT=some r∧aG=⟨95,[(0,.ptr aY 0),(3,.ptr b1 0),(5,.bool (decide (ah.Kind=(2:Int))))],[(aY,.cells [.str q3,.str q4,I n5,I n6,.sl 1 b7 0 l8.length,I n9,.sl 2 nh 0 iU.length,.sl 2 xx 0 sn.length,.sl 2 yh 0 pD.length,.sl 1 uj 0 Gm.length,.sl 1 we 0 nT.length]),(b7,gB l8),(nh,iF iU),(xx,iF sn),(yh,iF pD),(uj,gB Gm),(we,gB nT),(b1,.cells (vA ah))]⟩) ?_ ?_
  ·refine cB h J (fun h=>?_) (fun h=>?_)
   ·exact tR<|rM J J<|rF J J J<|rL J J .p7 J J<|aF h fun v20 e1 h=>qx J (ma e1) cR (.cons .p0 (.cons .p0 (.cons .p0 (.cons .p0 (.cons .p0 (.cons .p0 (.cons .p0 .nil))))))) (fun _ _ _ _ _ _=>J) J fun Gq Lt Xh Lu vB T8=>rN<|aa.stop<|ai.lq [0,0,0,0,0,0,0,0] ⟨Gq,Lt,Xh,Lu,vB,T8,v20.aR.aK,v20.aR.aN,v20.az,v20.bM,v20.aD,v20.ay,v20.eV,v20.bC,v20.bh,v20.bf,v20.aW,h,J⟩ J J
   ·refine tS<|tS<|aa.cut (fun aG=>∃ (QI:Bool),gY ab ah QI=some r∧aG=⟨95,[(0,.ptr aY 0),(3,.ptr b1 0),(5,.bool (decide (ah.Kind=(2:Int)))),(22,.bool QI)],[(aY,.cells (G5 ab eD eE ft dV eF cq)),(eD,gB ab.aD),(eE,iF ab.eV),(ft,iF ab.bC),(dV,iF ab.bh),(eF,gB ab.bf),(cq,gB ab.aW),(b1,.cells (vA ah))]⟩) ?_ ?_
    ·refine tR<|rM J J<|rM J J<|ae.bW J J J (fun hc=>?_) (fun hc=>?_)
     ·rw [lM hc] at h
      exact rM J J<|rY J J J<|ae.qv (ax J) J<|rY J J J<|rF J J J<|rY J J J<|rL J J .p0 J J<|rY J J J<|ae.qv (bY J J) J<|rT J J J<|rA J J<|rN<|aa.stop<|ai.lq [0,0,0,0,0,0,0,0] ⟨decide (ab.az=(2:Int)),h,J⟩ J J
     ·rw [lN hc] at h
      exact rG J J J J<|rG J J J J<|rG J J J J<|rG J J J J<|rE J J J<|rA J J<|rN<|aa.stop<|ai.lq [0,0,0,0,0,0,0,0] ⟨false,h,J⟩ J J
    ·rintro aG ⟨QI,h,rfl⟩
     unfold gY at h
     refine aa.cut (fun aG=>∃ (c28:Bool),eJ ab ah c28=some r∧aG=⟨95,[(0,.ptr aY 0),(3,.ptr b1 0),(5,.bool (decide (ah.Kind=(2:Int)))),(22,.bool c28)],[(aY,.cells (G5 ab eD eE ft dV eF cq)),(eD,gB ab.aD),(eE,iF ab.eV),(ft,iF ab.bC),(dV,iF ab.bh),(eF,gB ab.bf),(cq,gB ab.aW),(b1,.cells (vA ah))]⟩) ?_ ?_
     ·refine cB h J (fun h=>?_) (fun h=>?_)
      ·exact tK<|aa.stop<|ai.lq [0,0,0,0,0,0,0,0] ⟨QI,h,J⟩ J J
      ·refine aa.cut (fun aG=>∃ (RZ:Bool),gX ab ah RZ=some r∧aG=⟨95,[(0,.ptr aY 0),(3,.ptr b1 0),(5,.bool (decide (ah.Kind=(2:Int)))),(22,.bool RZ)],[(aY,.cells (G5 ab eD eE ft dV eF cq)),(eD,gB ab.aD),(eE,iF ab.eV),(ft,iF ab.bC),(dV,iF ab.bh),(eF,gB ab.bf),(cq,gB ab.aW),(b1,.cells (vA ah))]⟩) ?_ ?_
       ·refine tR<|rM J J<|ae.qv (mE J) J<|rM J J<|ae.bW J J J (fun hc=>?_) (fun hc=>?_)
        ·rw [lM hc] at h
         exact rM J J<|rY J J J<|ae.qv (ax J) J<|rY J J J<|rF J J J<|rY J J J<|rL J J .p0 J J<|rY J J J<|ae.qv (bY J J) J<|rT J J J<|rA J J<|rN<|aa.stop<|ai.lq [0,0,0,0,0,0,0,0] ⟨decide (ab.az=(3:Int)),h,J⟩ J J
        ·rw [lN hc] at h
         exact rG J J J J<|rG J J J J<|rG J J J J<|rG J J J J<|rE J J J<|rA J J<|rN<|aa.stop<|ai.lq [0,0,0,0,0,0,0,0] ⟨false,h,J⟩ J J
       ·rintro aG ⟨RZ,h,rfl⟩
        unfold gX at h
        exact aa.stop<|ai.lq [0,0,0,0,0,0,0,0] ⟨RZ,h,J⟩ J J
     ·rintro aG ⟨c28,h,rfl⟩
      unfold eJ at h
      refine aa.cut (fun aG=>∃ (R5:Bk) (R6:Bk) (QQ:Bk) (VH:Bk) (VI:Bk) (QS:Bk) (RX:aI) (RY:aI) (n32:Int) (n33:Int) (QF:List Int) (n36:Int) (QG:List au) (G1:List au) (QH:List au) (Fw:List Int) (Ig:List Int),eI ah RX RY n32 n33 QF n36 QG G1 QH Fw Ig=some r∧aG=⟨95,[(0,.ptr aY 0),(3,.ptr b1 0),(5,.bool (decide (ah.Kind=(2:Int))))],[(aY,.cells [.str RX,.str RY,I n32,I n33,.sl 1 R5 0 QF.length,I n36,.sl 2 R6 0 QG.length,.sl 2 QQ 0 G1.length,.sl 2 VH 0 QH.length,.sl 1 VI 0 Fw.length,.sl 1 QS 0 Ig.length]),(R5,gB QF),(R6,iF QG),(QQ,iF G1),(VH,iF QH),(VI,gB Fw),(QS,gB Ig),(b1,.cells (vA ah))]⟩) ?_ ?_
      ·refine cB h J (fun h=>?_) (fun h=>?_)
       ·exact tR<|rM J J<|rF J J J<|rL J J .p7 J J<|aF h fun j9 e2 h=>qx J (ma e2) cR (.cons .p0 (.cons .p0 (.cons .p0 (.cons .p0 (.cons .p0 (.cons .p0 (.cons .p0 .nil))))))) (fun _ _ _ _ _ _=>J) J fun b48 Xi b50 R7 b52 b53=>rN<|aa.stop<|ai.lq [0,0,0,0,0,0,0,0] ⟨b48,Xi,b50,R7,b52,b53,j9.aR.aK,j9.aR.aN,j9.az,j9.bM,j9.aD,j9.ay,j9.eV,j9.bC,j9.bh,j9.bf,j9.aW,h,J⟩ J J
       ·refine tS<|aa.cut (fun aG=>∃ (Ty:Bool),gW ab ah Ty=some r∧aG=⟨95,[(0,.ptr aY 0),(3,.ptr b1 0),(5,.bool (decide (ah.Kind=(2:Int)))),(44,.bool Ty)],[(aY,.cells (G5 ab eD eE ft dV eF cq)),(eD,gB ab.aD),(eE,iF ab.eV),(ft,iF ab.bC),(dV,iF ab.bh),(eF,gB ab.bf),(cq,gB ab.aW),(b1,.cells (vA ah))]⟩) ?_ ?_
        ·refine tR<|rM J J<|ae.qv (mE J) J<|rM J J<|ae.bW J J J (fun hc=>?_) (fun hc=>?_)
         ·rw [lM hc] at h
          exact rM J J<|rY J J J<|ae.qv (ax J) J<|rY J J J<|rF J J J<|rY J J J<|rL J J .p0 J J<|rY J J J<|ae.qv (bY J J) J<|rT J J J<|rA J J<|rN<|aa.stop<|ai.lq [0,0,0,0,0,0,0,0] ⟨decide (ab.az=(1:Int)),h,J⟩ J J
         ·rw [lN hc] at h
          exact rG J J J J<|rG J J J J<|rG J J J J<|rG J J J J<|rE J J J<|rA J J<|rN<|aa.stop<|ai.lq [0,0,0,0,0,0,0,0] ⟨false,h,J⟩ J J
        ·rintro aG ⟨Ty,h,rfl⟩
         unfold gW at h
         refine cB h J (fun h=>?_) (fun h=>?_)
         ·exact tR<|rM J J<|rF J J J<|rL J J .p7 J J<|aF h fun v55 e3 h=>qx J (ma e3) cR (.cons .p0 (.cons .p0 (.cons .p0 (.cons .p0 (.cons .p0 (.cons .p0 (.cons .p0 .nil))))))) (fun _ _ _ _ _ _=>J) J fun b56 b57 b58 b59 b60 b61=>rN<|aa.stop<|ai.lq [0,0,0,0,0,0,0,0] ⟨b56,b57,b58,b59,b60,b61,v55.aR.aK,v55.aR.aN,v55.az,v55.bM,v55.aD,v55.ay,v55.eV,v55.bC,v55.bh,v55.bf,v55.aW,h,J⟩ J J
         ·refine aM<|rA J J<|rN<|aa.ret<|?_
          cases h
          exact hH J [0,0,0,0,0,0,0] J ⟨eD,eE,ft,dV,eF,cq,J,J⟩
      ·rintro aG ⟨R5,R6,QQ,VH,VI,QS,RX,RY,n32,n33,QF,n36,QG,G1,QH,Fw,Ig,h,rfl⟩
       unfold eI at h
       exact aa.stop<|ai.lq [0,0,0,0,0,0,0,0] ⟨R5,R6,QQ,VH,VI,QS,RX,RY,n32,n33,QF,n36,QG,G1,QH,Fw,Ig,h,J⟩ J J
  ·rintro aG ⟨b7,nh,xx,yh,uj,we,q3,q4,n5,n6,l8,n9,iU,sn,pD,Gm,nT,h,rfl⟩
   unfold dt at h
   refine aa.bN<|tS<|aM<|rM J J<|ae.qv (mE J) J<|rN<|aa.cut (fun aG=>∃ (VJ:Bk) (VK:Bk) (RU:List Int) (RW:List Int),dq q3 q4 n5 n6 l8 n9 iU sn pD RU RW=some r∧aG=⟨95,[],[(aY,.cells [.str q3,.str q4,I n5,I n6,.sl 1 b7 0 l8.length,I n9,.sl 2 nh 0 iU.length,.sl 2 xx 0 sn.length,.sl 2 yh 0 pD.length,.sl 1 VJ 0 RU.length,.sl 1 VK 0 RW.length]),(b7,gB l8),(nh,iF iU),(xx,iF sn),(yh,iF pD),(VJ,gB RU),(VK,gB RW)]⟩) ?_ ?_
   ·refine cD h J (fun h=>?_) (fun h=>?_)
    ·refine tS<|aF h fun Om e4 h=>aa.iS (id:=11) (A:=[0,0,2,6,14,0,32,96,254,511,1023,2047]) (H0:=[(uj,gB Gm)]) (HH:=fun β=>[((β 8),gB Om),(aY,.cells [.str q3,.str q4,I n5,I n6,.sl 1 b7 0 l8.length,I n9,.sl 2 nh 0 iU.length,.sl 2 xx 0 sn.length,.sl 2 yh 0 pD.length,.sl 1 uj 0 Gm.length,.sl 1 we 0 nT.length]),(b7,gB l8),(nh,iF iU),(xx,iF sn),(yh,iF pD),(we,gB nT),(b1,.cells (vA ah))]) 9 mixed J (by kernel_rfl) (by kernel_rfl) [⟨none,some 8,[],fun _=>(uj,gB Gm),none,[]⟩,⟨some 8,none,[],fun b=>(b,gB Om),none,[]⟩] [8] J (by kernel_rfl) J (.cons .p5 .nil) (fun _=>J)<|AT.am 8 J J<|AM.qv (aA J) J<|AM.qv (aA J) J<|AM.qv (ax J) J<|AM.qv (aC J J) J<|AM.qv (aL J J .p0 J) J<|AM.qv (aC J J) J<|AM.qv (aL J J .p6 J) J<|AM.fk (xs:=([ah.At]:List Int).map I) J J J J J J<|AM.nil<|AT.BF (V:=fun b=>.sl 1 b 0 Om.length) (Ti:=[(uj,gB Gm)]) (Pi:=fun b=>[(b,gB Om)]) (fun _=>J) (fun _=>J) (fun _ _=>J) J (fun _=>J) J J J ?_ ?_
     ·exact dA (g:=I) J J J J J J J J (.list _) e4 (fun _=>.p0) J fun T9=>ae.nil ⟨T9,_,J,J⟩
     refine AT.ub (fun _=>J) fun β=>?_
     generalize β 8=T9
     clear β
     refine ae.qv (ax J) J<|rF J J J<|aB J J J J .p1 J J<|rN<|aF h fun G2 e5 h=>aF h fun QE e6 h=>aa.iS (id:=12) (A:=[0,0,2,6,14,0,32,0,128,384,896,0,2048,6144,14336,30720,63488,130944,262016,524256,1048544,2097150,4194303,8388607,16777215]) (H0:=[(we,gB nT)]) (HH:=fun β=>[((β 21),gB QE),(T9,gB Om),(aY,.cells [.str q3,.str q4,I n5,I n6,.sl 1 b7 0 l8.length,I n9,.sl 2 nh 0 iU.length,.sl 2 xx 0 sn.length,.sl 2 yh 0 pD.length,.sl 1 T9 0 Om.length,.sl 1 we 0 nT.length]),(b7,gB l8),(nh,iF iU),(xx,iF sn),(yh,iF pD),(b1,.cells (vA ah))]) 22 mixed J (by kernel_rfl) (by kernel_rfl) [⟨none,some 21,[],fun _=>(we,gB nT),none,[]⟩,⟨some 21,none,[],fun b=>(b,gB QE),none,[]⟩] [21] J (by kernel_rfl) J (.cons .p6 .nil) (fun _=>J)<|AT.am 21 J J<|AM.qv (aA J) J<|AM.qv (aA J) J<|AM.qv (ax J) J<|AM.qv (aC J J) J<|AM.qv (aL J J .p1 J) J<|AM.qv (aC J J) J<|AM.qv (aL J J .p6 J) J<|AM.qv (aA J) J<|AM.qv (ax J) J<|AM.qv (aC J J) J<|AM.qv (aL J J .p1 J) J<|AM.qv (aA J) J<|AM.qv (ax J) J<|AM.qv (aC J J) J<|AM.qv (aL J J .p1 J) J<|AM.qv (cH J) J<|AM.qv (bR J J) J<|AM.qv (aS J J J e5) J<|AM.qv (bl (g:=I) J J (.inl .p2) e5 J) J<|AM.qv (bR J J) J<|AM.fk (xs:=([aT (ah.At - G2)]:List Int).map I) J J J J J J<|AM.nil<|AT.BF (V:=fun b=>.sl 1 b 0 QE.length) (Ti:=[(we,gB nT)]) (Pi:=fun b=>[(b,gB QE)]) (fun _=>J) (fun _=>J) (fun _ _=>J) J (fun _=>J) J J J ?_ ?_
     ·exact dA (g:=I) J J J J J J J J (.list _) e6 (fun _=>.p0) J fun VL=>ae.nil ⟨VL,_,J,J⟩
     refine AT.ub (fun _=>J) fun β=>?_
     generalize β 21=VL
     clear β
     exact ae.qv (ax J) J<|rF J J J<|aB J J J J .p2 J J<|rN<|aa.stop<|ai.lq [2,2,2,2,2,1,0] ⟨T9,VL,Om,QE,h,J⟩ J J
    ·exact tK<|aa.stop<|ai.lq [0,0,0,0,0,0,0] ⟨uj,we,Gm,nT,h,J⟩ J J
   ·rintro aG ⟨VJ,VK,RU,RW,h,rfl⟩
    unfold dq at h
    refine aM<|rA J J<|rN<|aa.ret<|?_
    cases h
    exact hH J [0,0,0,0,0,0,0] J ⟨b7,nh,xx,yh,VJ,VK,J,J⟩
theorem vT [GI:bF] {aY:Bk} {eD:Bk} {eE:Bk} {ft:Bk} {dV:Bk} {eF:Bk} {cq:Bk} {ab:ak} {ah:Signal} {r:Int×ak} (h:jt ab ah=some r):aJ Tryz.prog 184 [.ptr aY 0,Signal.av ah] [(aY,.cells (G5 ab eD eE ft dV eF cq)),(eD,gB ab.aD),(eE,iF ab.eV),(ft,iF ab.bC),(dV,iF ab.bh),(eF,gB ab.bf),(cq,gB ab.aW)] (T6 (fun uO uP uQ uR uS rj=>[(aY,.cells (G5 r.2 uO uP uQ uR uS rj)),(uO,gB r.2.aD),(uP,iF r.2.eV),(uQ,iF r.2.bC),(uR,iF r.2.bh),(uS,gB r.2.bf),(rj,gB r.2.aW)]) (fun uO uP uQ uR uS rj=>I r.1)):=by
 unfold jt at h
 refine aJ.fa ?_
 refine aJ.bD Tryz.func184 J Tryz.ntmps184 Tryz.results184 J J ?_
 refine aM<|jU J J J J fun b1=>rA J J<|rN<|tS<|aM<|rF J J J<|rL J J .p0 J J<|rN<|aa.block<|aM<|ae.qv (bY J J) J<|rA J J<|rN<|cD h J (fun h=>?_) (fun h=>?_)
 ·refine tS<|tS<|aa.cut (fun aG=>∃ (c2:Bool),js ab ah c2=some r∧aG=⟨96,[(0,.ptr aY 0),(3,.ptr b1 0),(20,.bool c2)],[(aY,.cells (G5 ab eD eE ft dV eF cq)),(eD,gB ab.aD),(eE,iF ab.eV),(ft,iF ab.bC),(dV,iF ab.bh),(eF,gB ab.bf),(cq,gB ab.aW),(b1,.cells (vA ah))]⟩) ?_ ?_
  ·refine tR<|rM J J<|ae.qv (ax J) J<|rF J J J<|rL J J .p1 J J<|ae.qv (bY J J) J<|rM J J<|ae.gg J J J (fun hc=>?_) (fun hc=>?_)
   ·rw [BE hc] at h
    exact rM J J<|rY J J J<|ae.qv (ax J) J<|rY J J J<|rF J J J<|rY J J J<|rL J J .p1 J J<|rY J J J<|ae.qv (bY J J) J<|rE J J J<|rN<|aa.stop<|ai.lq [1,1,1,1,1,1,1,0] ⟨decide (ab.az=(2:Int)),h,J⟩ J J
   ·rw [BD hc] at h
    exact rG J J J J<|rG J J J J<|rG J J J J<|rG J J J J<|rT J J J<|rN<|aa.stop<|ai.lq [1,1,1,1,1,1,1,0] ⟨true,h,J⟩ J J
  ·rintro aG ⟨c2,h,rfl⟩
   unfold js at h
   refine cB h J (fun h=>?_) (fun h=>?_)
   ·refine aM<|rA J J<|rN<|aa.ret<|?_
    cases h
    exact hH J [0,0,0,0,0,0,0] J ⟨eD,eE,ft,dV,eF,cq,J,J⟩
   ·refine tK<|aM<|rM J J<|rF J J J<|rL J J .p7 J J<|aF h fun v3 e1 h=>qx J (ma e1) cR (.cons .p0 (.cons .p0 (.cons .p0 (.cons .p0 (.cons .p0 (.cons .p0 (.cons .p0 .nil))))))) (fun _ _ _ _ _ _=>J) J fun b4 b5 b6 b7 b8 b9=>rN<|tS<|aF h fun l10 e2 h=>aa.iS (id:=6) (A:=[0,0,2,6,14,0,32,96,254,511,1023,2047]) (H0:=[(b4,gB v3.aD)]) (HH:=fun β=>[((β 8),gB l10),(aY,.cells (G5 v3 b4 b5 b6 b7 b8 b9)),(b5,iF v3.eV),(b6,iF v3.bC),(b7,iF v3.bh),(b8,gB v3.bf),(b9,gB v3.aW),(b1,.cells (vA ah))]) 9 mixed J (by kernel_rfl) (by kernel_rfl) [⟨none,some 8,[],fun _=>(b4,gB v3.aD),none,[]⟩,⟨some 8,none,[],fun b=>(b,gB l10),none,[]⟩] [8] J (by kernel_rfl) J (.cons .p1 .nil) (fun _=>J)<|AT.am 8 J J<|AM.qv (aA J) J<|AM.qv (aA J) J<|AM.qv (ax J) J<|AM.qv (aC J J) J<|AM.qv (aL J J .p0 J) J<|AM.qv (aC J J) J<|AM.qv (aL J J .p6 J) J<|AM.fk (xs:=([ah.At]:List Int).map I) J J J J J J<|AM.nil<|AT.BF (V:=fun b=>.sl 1 b 0 l10.length) (Ti:=[(b4,gB v3.aD)]) (Pi:=fun b=>[(b,gB l10)]) (fun _=>J) (fun _=>J) (fun _ _=>J) J (fun _=>J) J J J ?_ ?_
    ·exact dA (g:=I) J J J J J J J J (.list _) e2 (fun _=>.p0) J fun QT=>ae.nil ⟨QT,_,J,J⟩
    refine AT.ub (fun _=>J) fun β=>?_
    generalize β 8=QT
    clear β
    refine ae.qv (ax J) J<|rF J J J<|aB J J J J .p1 J J<|rN<|aM<|rA J J<|rN<|aa.ret<|?_
    cases h
    exact hH J [1,0,0,0,0,0,0] J ⟨QT,b5,b6,b7,b8,b9,J,J⟩
 ·refine tS<|aM<|ae.qv (bY J J) J<|rA J J<|rN<|aa.cut (fun aG=>∃ (c12:Bool),fq ab ah c12=some r∧aG=⟨96,[(0,.ptr aY 0),(3,.ptr b1 0),(6,I ah.Kind),(36,.bool c12)],[(aY,.cells (G5 ab eD eE ft dV eF cq)),(eD,gB ab.aD),(eE,iF ab.eV),(ft,iF ab.bC),(dV,iF ab.bh),(eF,gB ab.bf),(cq,gB ab.aW),(b1,.cells (vA ah))]⟩) ?_ ?_
  ·refine cD h J (fun h=>?_) (fun h=>?_)
   ·exact tK<|aa.stop<|ai.lq [1,1,1,1,1,1,1,0] ⟨decide (ah.Kind=(2:Int)),h,J⟩ J J
   ·exact tR<|ae.qv (bY J J) J<|rA J J<|rN<|aa.stop<|ai.lq [1,1,1,1,1,1,1,0] ⟨decide (ah.Kind=(3:Int)),h,J⟩ J J
  ·rintro aG ⟨c12,h,rfl⟩
   unfold fq at h
   refine cB h J (fun h=>?_) (fun h=>?_)
   ·refine aM<|rM J J<|ae.qv (bb J J .p7 J) J<|aF h fun oN e3 h=>qx J (wI e3) cR (.cons .p0 (.cons .p0 (.cons .p0 (.cons .p0 (.cons .p0 (.cons .p0 (.cons .p0 .nil))))))) (fun _ _ _ _ _ _=>J) J fun yh Pt uj AO we b19=>rA J J<|rN<|aa.ret<|?_
    cases h
    exact hH J [0,0,0,0,0,0,0] J ⟨yh,Pt,uj,AO,we,b19,J,J⟩
   ·refine aM<|ae.qv (bY J J) J<|rA J J<|rN<|cD h J (fun h=>?_) (fun h=>?_)
    ·refine tS<|tS<|aa.bL (id:=12) (A:=[0,1,3,7,0,16,63]) 7 mixed J (by kernel_rfl) (by kernel_rfl)<|AM.qv (aA J) J<|AM.qv (ax J) J<|AM.qv (aC J J) J<|AM.qv (aL J J .p0 J) J<|AM.qv (aC J J) J<|AM.qv (aL J J .p7 J) J<|AM.qv (ir J J) J<|AM.nil<|rN<|cD h J (fun h=>?_) (fun h=>?_)
     ·refine aM<|rA J J<|rN<|aa.ret<|?_
      cases h
      exact hH J [0,0,0,0,0,0,0] J ⟨eD,eE,ft,dV,eF,cq,J,J⟩
     ·refine tK<|aM<|rM J J<|rF J J J<|rL J J .p7 J J<|ae.qv (ax J) J<|rF J J J<|aB J J J J .p0 J J<|rN<|tS<|aF h fun tv e4 h=>aa.iS (id:=15) (A:=[0,0,2,6,14,0,32,0,128,480,992,2046,4095,8191,16383]) (H0:=[(dV,iF ab.bh)]) (HH:=fun β=>[((β 11),iF tv),(aY,.cells [.str ab.aR.aK,.str ab.aR.aN,I ab.az,I ab.bM,.sl 1 eD 0 ab.aD.length,I ah.aV,.sl 2 eE 0 ab.eV.length,.sl 2 ft 0 ab.bC.length,.sl 2 dV 0 ab.bh.length,.sl 1 eF 0 ab.bf.length,.sl 1 cq 0 ab.aW.length]),(eD,gB ab.aD),(eE,iF ab.eV),(ft,iF ab.bC),(eF,gB ab.bf),(cq,gB ab.aW),(b1,.cells (vA ah))]) 12 mixed J (by kernel_rfl) (by kernel_rfl) [⟨none,some 11,[],fun _=>(dV,iF ab.bh),none,[]⟩,⟨some 11,none,[],fun b=>(b,iF tv),none,[]⟩] [11] J (by kernel_rfl) J (.cons .p4 .nil) (fun _=>J)<|AT.am 11 J J<|AM.qv (aA J) J<|AM.qv (aA J) J<|AM.qv (ax J) J<|AM.qv (aC J J) J<|AM.qv (aL J J .p0 J) J<|AM.qv (aC J J) J<|AM.qv (aL J J .p6 J) J<|AM.qv (aC J J) J<|AM.qv (aL J J .p6 J) J<|AM.qv (db J J J J J) J<|AM.fk (xs:=([(⟨ah.At,ah.aV⟩:au)]).map au.av) J J J J J J<|AM.nil<|AT.BF (V:=fun b=>.sl 2 b 0 tv.length) (Ti:=[(dV,iF ab.bh)]) (Pi:=fun b=>[(b,iF tv)]) (fun _=>J) (fun _=>J) (fun _ _=>J) J (fun _=>J) J J J ?_ ?_
      ·exact dA (g:=au.av) J J J J J J J J (.list _) e4 (fun _=>.p0) J fun Gq=>ae.nil ⟨Gq,_,J,J⟩
      refine AT.ub (fun _=>J) fun β=>?_
      generalize β 11=Gq
      clear β
      refine ae.qv (ax J) J<|rF J J J<|aB J J J J .p1 J J<|rN<|aM<|rA J J<|rN<|aa.ret<|?_
      cases h
      exact hH J [1,1,1,1,0,0,0] J ⟨eD,eE,ft,Gq,eF,cq,J,J⟩
    ·refine tK<|aa.bN<|tS<|tS<|aa.bL (id:=17) (A:=[0,1,3,7,0,16,63]) 7 mixed J (by kernel_rfl) (by kernel_rfl)<|AM.qv (aA J) J<|AM.qv (ax J) J<|AM.qv (aC J J) J<|AM.qv (aL J J .p0 J) J<|AM.qv (aC J J) J<|AM.qv (aL J J .p7 J) J<|AM.qv (rS J J) J<|AM.nil<|rN<|cD h J (fun h=>?_) (fun h=>?_)
     ·refine aM<|rA J J<|rN<|aa.ret<|?_
      cases h
      exact hH J [0,0,0,0,0,0,0] J ⟨eD,eE,ft,dV,eF,cq,J,J⟩
     ·refine tK<|aM<|rM J J<|rF J J J<|rL J J .p7 J J<|ae.qv (ax J) J<|rF J J J<|aB J J J J .p0 J J<|rN<|tS<|aa.bL (id:=20) (A:=[0,1,3,7,0,16,48,112,240,496,0,1024,4095,8191,16383]) 14 mixed J (by kernel_rfl) (by kernel_rfl)<|AM.qv (aA J) J<|AM.qv (ax J) J<|AM.qv (aC J J) J<|AM.qv (aL J J .p0 J) J<|AM.qv (aA J) J<|AM.qv (ax J) J<|AM.qv (aC J J) J<|AM.qv (aL J J .p0 J) J<|AM.qv (cH J) J<|AM.qv (bR J J) J<|AM.qv (aC J J) J<|AM.qv (aL J J .p7 J) J<|aF h fun v22 e5 h=>AM.qv (aS J J J e5) J<|AM.qv (dB J J) J<|AM.nil<|bQ (g:=au.av) (xV:=(⟨v22.bg,ah.At⟩:au)) J J J J e5 J .p4 J<|ae.ghost<|ai.eqs (s:=85) (eW:=.sl 2 dV 0 (ab.bh.set (aT ((ab.bh.length:Int) - (1:Int))).toNat (⟨v22.bg,ah.At⟩:au)).length) J (by rw [List.length_set])<|ai.here<|ae.ghost<|ai.eqs (s:=89) (eW:=.sl 2 dV 0 (ab.bh.set (aT ((ab.bh.length:Int) - (1:Int))).toNat (⟨v22.bg,ah.At⟩:au)).length) J (by rw [List.length_set])<|ai.here<|ae.ghost<|ai.HL (j:=8) (eW:=.sl 2 dV 0 (ab.bh.set (aT ((ab.bh.length:Int) - (1:Int))).toNat (⟨v22.bg,ah.At⟩:au)).length) .p0 J (by rw [List.length_set]) J<|ai.here<|rN<|aM<|rA J J<|rN<|aa.ret<|?_
      cases h
      exact hH J [0,0,0,0,0,0,0] J ⟨eD,eE,ft,dV,eF,cq,J,J⟩
end Go.Proofs.YthamhifbccpcpaaGreatDoor
