/- The code computes the plain functions: proofs written by shal.py. -/
import Derived.Test.YtodkphmmhgkodaaGreatDoorNctP
import Derived.Test.YtodkphmmhgkodaaGreatDoorLib
set_option maxHeartbeats 4000000
set_option maxRecDepth 100000
set_option linter.unusedVariables false
set_option linter.unusedSimpArgs false
namespace Go.Proofs.YtodkphmmhgkodaaGreatDoor
open Go Go.Eng Go.Proofs Go.Beacon
attribute [local irreducible] ae aa AQ QV aT aj NS AM
instance Ya:Mz Tryz.prog 35:=⟨by kernel_rfl⟩
instance Yb:tW Tryz.prog 35 2 ar.av:=⟨fun x y w S v u hv hu=>by
 obtain ⟨vs,rfl,hl,ha⟩:=At.nQ hv
 obtain ⟨us,rfl,x4,D5⟩:=At.nQ hu
 obtain ⟨v0,p0,q0⟩:=mR.get hl ha (off:=0) rfl
 obtain ⟨u0,R5,R6⟩:=mR.get x4 D5 (off:=0) rfl
 obtain ⟨v1,p1,q1⟩:=mR.get hl ha (off:=1) rfl
 obtain ⟨u1,R7,R8⟩:=mR.get x4 D5 (off:=1) rfl
 refine z7.cast (z7.struct Tryz.underlying35 (by kernel_rfl) (.cons (by decide) (fN J p0) (fN J R5) (z7.up (tW.h (g:=I) x.aM y.aM w S _ _ q0 R6) 0) (.cons (by decide) (fN J p1) (fN J R7) (z7.up (tW.h (g:=I) x.To y.To w S _ _ q1 R8) 0) .nil))) ?_
 obtain ⟨_,_⟩:=x
 obtain ⟨_,_⟩:=y
 rw [Bool.eq_iff_iff];simp [and_assoc]⟩
instance Yc:Mz Tryz.prog 61:=⟨by kernel_rfl⟩
instance Yd:tW Tryz.prog 61 2 ai.av:=⟨fun x y w S v u hv hu=>by
 obtain ⟨vs,rfl,hl,ha⟩:=At.nQ hv
 obtain ⟨us,rfl,x4,D5⟩:=At.nQ hu
 obtain ⟨v0,p0,q0⟩:=mR.get hl ha (off:=0) rfl
 obtain ⟨u0,R5,R6⟩:=mR.get x4 D5 (off:=0) rfl
 obtain ⟨v1,p1,q1⟩:=mR.get hl ha (off:=1) rfl
 obtain ⟨u1,R7,R8⟩:=mR.get x4 D5 (off:=1) rfl
 obtain ⟨v2,p2,q2⟩:=mR.get hl ha (off:=2) rfl
 obtain ⟨u2,p2',q2'⟩:=mR.get x4 D5 (off:=2) rfl
 obtain ⟨v3,p3,q3⟩:=mR.get hl ha (off:=3) rfl
 obtain ⟨u3,p3',q3'⟩:=mR.get x4 D5 (off:=3) rfl
 obtain ⟨v4,p4,q4⟩:=mR.get hl ha (off:=4) rfl
 obtain ⟨u4,p4',q4'⟩:=mR.get x4 D5 (off:=4) rfl
 obtain ⟨v5,p5,q5⟩:=mR.get hl ha (off:=5) rfl
 obtain ⟨u5,p5',q5'⟩:=mR.get x4 D5 (off:=5) rfl
 refine z7.cast (z7.struct Tryz.underlying61 (by kernel_rfl) (.cons (by decide) (fN J p0) (fN J R5) (z7.up (tW.h (g:=I) x.At y.At w S _ _ q0 R6) 0) (.cons (by decide) (fN J p1) (fN J R7) (z7.up (tW.h (g:=AV.str) x.Device y.Device w S _ _ q1 R8) 0) (.cons (by decide) (fN J p2) (fN J p2') (z7.up (tW.h (g:=AV.str) x.bg y.bg w S _ _ q2 q2') 0) (.cons (by decide) (fN J p3) (fN J p3') (z7.up (tW.h (g:=AV.str) x.cO y.cO w S _ _ q3 q3') 0) (.cons (by decide) (fN J p4) (fN J p4') (z7.up (tW.h (g:=AV.str) x.gm y.gm w S _ _ q4 q4') 0) (.cons (by decide) (fN J p5) (fN J p5') (z7.up (tW.h (g:=I) x.fE y.fE w S _ _ q5 q5') 0) .nil))))))) ?_
 obtain ⟨_,_,_,_,_,_⟩:=x
 obtain ⟨_,_,_,_,_,_⟩:=y
 rw [Bool.eq_iff_iff];simp [and_assoc]⟩
instance Vy:tW Tryz.prog 104 2 aq.av:=⟨fun x y w S v u hv hu=>by
 obtain ⟨vs,rfl,hl,ha⟩:=At.nQ hv
 obtain ⟨us,rfl,x4,D5⟩:=At.nQ hu
 obtain ⟨v0,p0,q0⟩:=mR.get hl ha (off:=0) rfl
 obtain ⟨u0,R5,R6⟩:=mR.get x4 D5 (off:=0) rfl
 obtain ⟨v1,p1,q1⟩:=mR.get hl ha (off:=1) rfl
 obtain ⟨u1,R7,R8⟩:=mR.get x4 D5 (off:=1) rfl
 refine z7.cast (z7.struct Tryz.underlying104 (by kernel_rfl) (.cons (by decide) (fN J p0) (fN J R5) (z7.up (tW.h (g:=AV.str) x.aG y.aG w S _ _ q0 R6) 0) (.cons (by decide) (fN J p1) (fN J R7) (z7.up (tW.h (g:=AV.str) x.a8 y.a8 w S _ _ q1 R8) 0) .nil))) ?_
 obtain ⟨_,_⟩:=x
 obtain ⟨_,_⟩:=y
 rw [Bool.eq_iff_iff];simp [and_assoc]⟩
instance Vz:mM Tryz.prog 104 aq.av:=mM.struct (n:=2) J Tryz.underlying104 (fun f hf=>by
 simp only [List.mem_cons,List.not_mem_nil,or_false] at hf
 rcases hf with rfl | rfl
 ·exact ⟨_,aP.h (P:=Tryz.prog) (t:=9),J,by decide⟩
 ·exact ⟨_,aP.h (P:=Tryz.prog) (t:=9),J,by decide⟩) (fun x=>⟨_,J,J,fun c hc=>by
 simp only [List.mem_cons,List.not_mem_nil,or_false] at hc
 rcases hc with rfl | rfl<;>rfl⟩) (fun a b h=>by
 obtain ⟨_,_⟩:=a
 obtain ⟨_,_⟩:=b
 simpa [aq.av] using h)
abbrev eJ (xs:List Int):AV:=.list 1 (xs.map I)
abbrev Qu (xs:List bO):AV:=.list 1 (xs.map AV.str)
abbrev gi (xs:List Signal):Ob:=.arr 6 (xs.map Signal.av)
abbrev lV (xs:List Signal):AV:=.list 6 (xs.map Signal.av)
abbrev Oh (xs:List fE):Ob:=.arr 2 (xs.map fE.av)
abbrev tN (xs:List aA):AV:=.list 3 (xs.map aA.av)
abbrev u6 (xs:List aB):Ob:=.arr 4 (xs.map aB.av)
abbrev nG (xs:List aB):AV:=.list 4 (xs.map aB.av)
abbrev M9 (x:aB):List AV:=[.str x.cO,.str x.gm,I x.Time.aM,I x.Time.To]
abbrev x6 (xs:List fE):AV:=.list 2 (xs.map fE.av)
abbrev jx (xs:List ar):Ob:=.arr 2 (xs.map ar.av)
abbrev qY (xs:List ar):AV:=.list 2 (xs.map ar.av)
abbrev vn (x:Signal):List AV:=[I x.At,I x.Kind,.str x.Device,.str x.bg,.str x.By,I x.bu]
abbrev Ye (x:au):List AV:=[.str x.bl.aG,.str x.bl.a8,I x.aE,I x.bX,.list 1 (x.aY.map I),I x.ay,.list 2 (x.mj.map ar.av),.list 2 (x.bt.map ar.av),.list 2 (x.aW.map ar.av),.list 1 (x.cj.map I),.list 1 (x.bG.map I)]
abbrev HM (b:Bk) (s:Nat→Bk) (x:au):List (Bk×PO):=[(b,.cells [.str x.bl.aG,.str x.bl.a8,I x.aE,I x.bX,.sl 1 (s 0) 0 x.aY.length,I x.ay,.sl 2 (s 1) 0 x.mj.length,.sl 2 (s 2) 0 x.bt.length,.sl 2 (s 3) 0 x.aW.length,.sl 1 (s 4) 0 x.cj.length,.sl 1 (s 5) 0 x.bG.length]),(s 0,.arr 1 (x.aY.map I)),(s 1,.arr 2 (x.mj.map ar.av)),(s 2,.arr 2 (x.bt.map ar.av)),(s 3,.arr 2 (x.aW.map ar.av)),(s 4,.arr 1 (x.cj.map I)),(s 5,.arr 1 (x.bG.map I))]
theorem VA:KB HM Ye:=⟨⟨fun x=>[.v (.str x.bl.aG),.v (.str x.bl.a8),.v (I x.aE),.v (I x.bX),.l 1 I x.aY,.v (I x.ay),.l 2 ar.av x.mj,.l 2 ar.av x.bt,.l 2 ar.av x.aW,.l 1 I x.cj,.l 1 I x.bG],fun _ _ _=>J,fun _=>J⟩⟩
abbrev GS (x:au) (b4 b6 b7 b8 b9 mF:Bk):List AV:=[.str x.bl.aG,.str x.bl.a8,I x.aE,I x.bX,.sl 1 b4 0 x.aY.length,I x.ay,.sl 2 b6 0 x.mj.length,.sl 2 b7 0 x.bt.length,.sl 2 b8 0 x.aW.length,.sl 1 b9 0 x.cj.length,.sl 1 mF 0 x.bG.length]
abbrev jy (xs:List Int):Ob:=.arr 1 (xs.map I)
abbrev gp (xs:List ai):Ob:=.arr 6 (xs.map ai.av)
abbrev R9 (xs:List ai):AV:=.list 6 (xs.map ai.av)
abbrev VB (xs:List au):AV:=.list 1 (xs.map (fun x=>AV.bR (Ye x)))
abbrev Yf (x:an):List AV:=[.str x.aG,.str x.a8,.list 6 (x.bw.map Signal.av),I x.aE,I x.ay.aM,I x.ay.To]
abbrev L0 (b:Bk) (s:Nat→Bk) (x:an):List (Bk×PO):=[(b,.cells [.str x.aG,.str x.a8,.sl 6 (s 0) 0 x.bw.length,I x.aE,I x.ay.aM,I x.ay.To]),(s 0,.arr 6 (x.bw.map Signal.av))]
theorem VC:KB L0 Yf:=⟨⟨fun x=>[.v (.str x.aG),.v (.str x.a8),.l 6 Signal.av x.bw,.v (I x.aE),.v (I x.ay.aM),.v (I x.ay.To)],fun _ _ _=>J,fun _=>J⟩⟩
abbrev Js (xs:List an):AV:=.list 1 (xs.map (fun x=>AV.bR (Yf x)))
abbrev KI (xs:List dc):Ob:=.arr 2 (xs.map dc.av)
theorem Ec [GI:bM] {ab:Int} {ah:Int} {r:Int} (h:Below ab ah=some r):Pu Tryz.prog 66 [I ab,I ah] (I r):=by
 unfold Below at h
 refine aT.bJ Tryz.func66 J Tryz.ntmps66 Tryz.results66 J J ?_
 refine aS<|rA J J<|rN<|tS<|aS<|rM J J<|ae.qv (bE J J) J<|rN<|cD h J (fun h=>?_) (fun h=>?_)
 ·refine aS<|rA J J<|rN<|aa.ret<|?_
  cases h
  exact hP J J
 ·refine tK<|aS<|rM J J<|rM J J<|aK h fun n1 e1 h=>ae.qv (JU J J e1) J<|rA J J<|rN<|tS<|aS<|rM J J<|ae.qv (bE J J) J<|rN<|aa.cut (fun aH=>∃ (n2:Int),vS n2=some r∧aH=⟨16,[(0,I n2)],[]⟩) ?_ ?_
  ·refine cD h J (fun h=>?_) (fun h=>?_)
   ·exact tR<|rM J J<|rM J J<|ae.qv (bc J J) J<|rA J J<|rN<|aa.stop<|aj.lq [] ⟨aL (n1+ah),h,J⟩ J J
   ·exact tK<|aa.stop<|aj.lq [] ⟨n1,h,J⟩ J J
  ·rintro aH ⟨n2,h,rfl⟩
   unfold vS at h
   refine aS<|rM J J<|rA J J<|rN<|aa.ret<|?_
   cases h
   exact hP J J
theorem fR [GI:bM] {aR:Bk} {ab:ak} {ah:Int} {r:Int×ak} (h:dH ab ah=some r):aT Tryz.prog 30 [.ptr aR 0,I ah] [(aR,.cells [eJ ab.L,I ab.at_])] (T0 ([(aR,.cells [eJ r.2.L,I r.2.at_])]) (I r.1)):=by
 unfold dH at h
 refine aT.fM ?_
 refine aT.bJ Tryz.func30 J Tryz.ntmps30 Tryz.results30 J J ?_
 refine aS<|rA J J<|rN<|aS<|rM J J<|ae.qv (aC J) J<|rF J J J<|rL J J .p0 J J<|ae.qv (bc J J) J<|ae.qv (aC J) J<|rF J J J<|aQ J J J J .p0 J J<|rN<|tS<|aS<|rM J J<|ae.qv (aC J) J<|rF J J J<|rL J J .p0 J J<|ae.qv (cY J) J<|ae.qv (cL J J) J<|rN<|cD h J (fun h=>?_) (fun h=>?_)
 ·refine aS<|rM J J<|ae.qv (aC J) J<|rF J J J<|rL J J .p0 J J<|ae.qv (sj J J) J<|rM J J<|aK h fun v1 e1 h=>bB J (Ec e1) cR J<|rA J J<|rN<|aa.ret<|?_
  cases h
  exact hH J [0] J ⟨J,J⟩
 ·refine tK<|tS<|aa.bS (id:=4) (A:=[0,1,3,7,15,0,32,96,224,480,1023,2047]) 12 mixed J (by kernel_rfl) (by kernel_rfl)<|AM.qv (ax J) J<|AM.qv (aC J) J<|AM.qv (az J J) J<|AM.qv (aF J J .p0 J) J<|AM.qv (bK J J) J<|AM.qv (ax J) J<|AM.qv (aC J) J<|AM.qv (az J J) J<|AM.qv (aF J J .p0 J) J<|AM.qv (cY J) J<|aK h fun n2 e2 h=>AM.qv (JU J J e2) J<|AM.qv (bZ J) J<|AM.nil<|rN<|tS<|aa.bS (id:=5) (A:=[0,1,3,7,15,0,32,96,224,480,1023,2047]) 12 mixed J (by kernel_rfl) (by kernel_rfl)<|AM.qv (ax J) J<|AM.qv (aC J) J<|AM.qv (az J J) J<|AM.qv (aF J J .p0 J) J<|AM.qv (bK J J) J<|AM.qv (ax J) J<|AM.qv (aC J) J<|AM.qv (az J J) J<|AM.qv (aF J J .p0 J) J<|AM.qv (cY J) J<|aK h fun n3 e3 h=>AM.qv (DY J J e3) J<|AM.qv (bZ J) J<|AM.nil<|rN<|aS<|rM J J<|ae.qv (aC J) J<|rF J J J<|rL J J .p0 J J<|rM J J<|aK h fun v4 e4 h=>ae.qv (bN J J J e4 J J) J<|ae.qv (aJ J J J) J<|aK h fun v5 e5 h=>bB J (Ec e5) cR J<|rM J J<|rM J J<|ae.qv (bc J J) J<|ae.qv (sj J J) J<|ae.qv (bc J J) J<|rM J J<|aK h fun v6 e6 h=>bB J (Ec e6) cR J<|rA J J<|rN<|aa.ret<|?_
  cases h
  exact hH J [0] J ⟨J,J⟩
theorem sE [GI:bM] {aR:Bk} {ab:ak} {ah:Int} {ao:Int} {r:Int×ak} (h:ko ab ah ao=some r):aT Tryz.prog 5 [.ptr aR 0,I ah,I ao] [(aR,.cells [eJ ab.L,I ab.at_])] (T0 ([(aR,.cells [eJ r.2.L,I r.2.at_])]) (I r.1)):=by
 unfold ko at h
 refine aT.fM ?_
 refine aT.bJ Tryz.func5 J Tryz.ntmps5 Tryz.results5 J J ?_
 refine aS<|rA J J<|rN<|tS<|aS<|rM J J<|rM J J<|ae.qv (bE J J) J<|rN<|cD h J (fun h=>?_) (fun h=>?_)
 ·refine aS<|rM J J<|rA J J<|rN<|aa.ret<|?_
  cases h
  exact hH J [0] J ⟨J,J⟩
 ·refine tK<|aS<|rM J J<|rM J J<|rM J J<|rM J J<|ae.qv (bK J J) J<|ae.qv (bc J J) J<|aK h fun v1 e1 h=>bh J (fR e1) cR (.cons .p0 .nil) J J<|ae.qv (bc J J) J<|rA J J<|rN<|aa.ret<|?_
  cases h
  exact hH J [0] J ⟨J,J⟩
theorem bW [GI:bM] {aR:Bk} {ab:ak} {ah:List Int} {r:Int×ak} (h:bU ab ah=some r):aT Tryz.prog 31 [.ptr aR 0,eJ ah] [(aR,.cells [eJ ab.L,I ab.at_])] (T0 ([(aR,.cells [eJ r.2.L,I r.2.at_])]) (I r.1)):=by
 unfold bU at h
 refine aT.fM ?_
 refine aT.bJ Tryz.func31 J Tryz.ntmps31 Tryz.results31 J J ?_
 refine aS<|rA J J<|rN<|aS<|rM J J<|rM J J<|rM J J<|ae.qv (cY J) J<|aK h fun v1 e1 h=>bh J (fR e1) cR (.cons .p0 .nil) J J<|aK h fun v2 e2 h=>ae.qv (bN J J J e2 J J) J<|ae.qv (aJ J J J) J<|rA J J<|rN<|aa.ret<|?_
 cases h
 exact hH J [0] J ⟨J,J⟩
theorem fS [GI:bM] {aR:Bk} {ab:ak} {ah:List bO} {r:bO×ak} (h:dI ab ah=some r):aT Tryz.prog 10 [.ptr aR 0,Qu ah] [(aR,.cells [eJ ab.L,I ab.at_])] (T0 ([(aR,.cells [eJ r.2.L,I r.2.at_])]) (.str r.1)):=by
 unfold dI at h
 refine aT.fM ?_
 refine aT.bJ Tryz.func10 J Tryz.ntmps10 Tryz.results10 J J ?_
 refine aS<|rA J J<|rN<|aS<|rM J J<|rM J J<|rM J J<|ae.qv (cY J) J<|aK h fun v1 e1 h=>bh J (fR e1) cR (.cons .p0 .nil) J J<|aK h fun v2 e2 h=>ae.qv (bN J J J e2 J J) J<|ae.qv (aJ J J J) J<|rA J J<|rN<|aa.ret<|?_
 cases h
 exact hH J [0] J ⟨J,J⟩
theorem u7 [GI:bM] {ab:Int} {r:Bool} (h:cmp_isNaN_int ab=r):Pu Tryz.prog 71 [I ab] (.bool r):=by
 unfold cmp_isNaN_int at h
 refine aT.bJ Tryz.func71 J Tryz.ntmps71 Tryz.results71 J J ?_
 refine aS<|rA J J<|rN<|aS<|rM J J<|rM J J<|ae.qv (jU J J) J<|rA J J<|rN<|aa.ret<|?_
 obtain rfl:=h
 exact hP J J
theorem fD [GI:bM] {ab:Int} {ah:Int} {r:Int} (h:cmp_Compare_int ab ah=r):Pu Tryz.prog 40 [I ab,I ah] (I r):=by
 unfold cmp_Compare_int at h
 refine aT.bJ Tryz.func40 J Tryz.ntmps40 Tryz.results40 J J ?_
 refine aS<|rA J J<|rN<|aS<|rM J J<|bB J (u7 J) cR J<|rA J J<|rN<|aS<|rM J J<|bB J (u7 J) cR J<|rA J J<|rN<|tS<|aS<|rM J J<|rN<|cB h J (fun h=>?_) (fun h=>?_)
 ·refine tS<|aS<|rM J J<|rN<|cB h J (fun h=>?_) (fun h=>?_)
  ·refine aS<|rA J J<|rN<|aa.ret<|?_
   obtain rfl:=h
   exact hP J J
  ·refine tK<|aS<|rA J J<|rN<|aa.ret<|?_
   obtain rfl:=h
   exact hP J J
 ·refine tK<|tS<|aS<|rM J J<|rN<|cB h J (fun h=>?_) (fun h=>?_)
  ·refine aS<|rA J J<|rN<|aa.ret<|?_
   obtain rfl:=h
   exact hP J J
  ·refine tK<|tS<|aS<|rM J J<|rM J J<|ae.qv (bE J J) J<|rN<|cD h J (fun h=>?_) (fun h=>?_)
   ·refine aS<|rA J J<|rN<|aa.ret<|?_
    obtain rfl:=h
    exact hP J J
   ·refine tK<|tS<|aS<|rM J J<|rM J J<|ae.qv (fW J J) J<|rN<|cD h J (fun h=>?_) (fun h=>?_)
    ·refine aS<|rA J J<|rN<|aa.ret<|?_
     obtain rfl:=h
     exact hP J J
    ·refine tK<|aS<|rA J J<|rN<|aa.ret<|?_
     obtain rfl:=h
     exact hP J J
theorem kS [GI:bM] {ab:List Int} {r:Int} (h:eM ab=some r):Pu Tryz.prog 38 [eJ ab] (I r):=by
 unfold eM at h
 refine aT.bJ Tryz.func38 J Tryz.ntmps38 Tryz.results38 J J ?_
 refine aS<|rA J J<|rN<|aS<|rA J J<|rN<|tS<|aS<|rM J J<|ae.qv (cY J) J<|rM J J<|rN<|aa.block<|aa.cw (fun x:Int=>qz ab x) (fun x aH=>aH=⟨18,[(3,I (0:Int)),(6,eJ ab),(7,I (ab.length:Int)),(8,I x)],[]⟩) h ?_ ?_
 ·exact aj.lq [] J J J
 ·intro n2 z1 aH J1 fe h k6 fh
  obtain rfl:=fe
  replace h:qz ab n2=some z1:=h
  unfold qz at h
  refine aS<|ae.qv (bE J J) J<|rN<|tS<|cD h J (fun h=>?_) (fun h=>?_)
  ·refine tK<|tS<|aa.block<|aS<|aK h fun v3 e1 h=>ae.qv (bN J J J e1 J J) J<|ae.qv (aJ J J J) J<|rA J J<|rN<|aS<|rM J J<|rM J J<|ae.qv (jU J J) J<|rN<|cD h J (fun h=>?_) (fun h=>?_)
   ·refine aS<|rM J J<|rA J J<|rN<|aa.ret<|have h:=bT h fh;?_
    cases h
    exact hP J J
   ·refine tK<|aa.cu<|tR<|ae.qv (bc J J) J<|rM J J<|rN<|aa.stop<|?_
    cases h
    exact k6 _ _ J<|aj.lq [] J J J
  ·refine aa.exit J<|have h:=bT h fh;aS<|rM J J<|rA J J<|rN<|aa.ret<|?_
   cases h
   exact hP J J
theorem rk [GI:bM] {ab:Signal} {ah:Signal} {r:Int} (h:jm ab ah=some r):Pu Tryz.prog 33 [Signal.av ab,Signal.av ah] (I r):=by
 unfold jm at h
 refine aT.bJ Tryz.func33 J Tryz.ntmps33 Tryz.results33 J J ?_
 refine aS<|gn J J J J fun b1=>gn J J J J fun b2=>rA J J<|rN<|tS<|aa.bS (id:=1) (A:=[0,1,0,4,15,0,32,0,128,511,0,1024,0,4096,16383,0,32768,0,131072,524287,1048575,2097151,4194303]) 23 mixed J (by kernel_rfl) (by kernel_rfl)<|AM.qv (az J J) J<|AM.qv (aF J J .p1 J) J<|AM.qv (az J J) J<|AM.qv (aF J J .p0 J) J<|AM.fL J (fD J) cR J<|AM.qv (az J J) J<|AM.qv (aF J J .p1 J) J<|AM.qv (az J J) J<|AM.qv (aF J J .p0 J) J<|AM.fL J (cr J) cR J<|AM.qv (az J J) J<|AM.qv (aF J J .p1 J) J<|AM.qv (az J J) J<|AM.qv (aF J J .p0 J) J<|AM.fL J (cr J) cR J<|AM.qv (az J J) J<|AM.qv (aF J J .p1 J) J<|AM.qv (az J J) J<|AM.qv (aF J J .p0 J) J<|AM.fL J (fD J) cR J<|AM.bL (xs:=([(cmp_Compare_int ab.At ah.At),(Lib.compareBytes ab.Device ah.Device),(Lib.compareBytes ab.bg ah.bg),(cmp_Compare_int ab.Kind ah.Kind)]:List Int).map I) J J J J J J<|aK h fun v3 e1 h=>AM.fL J (kS e1) cR J<|AM.qv (bZ J) J<|AM.nil<|rN<|aa.ret<|?_
 cases h
 exact hP J J
theorem jf [GI:bM] {aR:Bk} {ab:List Signal} {ah:Int} {ao:Int} {lW:Signal→Signal→Option Int} {uh:FuncId} [bF Tryz.prog uh] {vZ:List AV} (KJ:∀ {y0 y1:_} {u:Int},lW y0 y1=some u→Pu Tryz.prog uh (Signal.av y0 :: Signal.av y1 :: vZ) (I u)) {r:(List Signal)} (h:cH ab ah ao lW=some r):aT Tryz.prog 91 [.sl 6 aR 0 ab.length,I ah,I ao,.func (.func uh) vZ] [(aR,gi ab)] (T0 ([(aR,gi r)]) (.oL [])):=by
 unfold cH at h
 refine aT.fM ?_
 refine aT.bJ Tryz.func91 J Tryz.ntmps91 Tryz.results91 J J ?_
 refine aS<|rM J J<|ae.qv (bc J J) J<|rA J J<|rN<|aa.block<|aa.cw (fun x:(List Signal)×Int=>cU ah ao lW x.1 x.2) (fun x aH=>aH=⟨53,[(0,.sl 6 aR 0 x.1.length),(1,I ah),(2,I ao),(3,.func (.func uh) vZ),(8,I x.2)],[(aR,gi x.1)]⟩) h ?_ ?_
 ·exact aj.lq [0] J J J
 ·intro x z1 aH J1 fe h k6 fh
  obtain ⟨l3,n4⟩:=x
  obtain rfl:=fe
  replace h:cU ah ao lW l3 n4=some z1:=h
  unfold cU at h
  refine tS<|aS<|rM J J<|rM J J<|ae.qv (bE J J) J<|rN<|cD h J (fun h=>?_) (fun h=>?_)
  ·refine tK<|tS<|aa.block<|aS<|rM J J<|rA J J<|rN<|aa.block<|aa.cw (fun x:(List Signal)×Int=>cT ah lW n4 x.1 x.2) (fun x aH=>aH=⟨53,[(0,.sl 6 aR 0 x.1.length),(1,I ah),(2,I ao),(3,.func (.func uh) vZ),(8,I n4),(9,I x.2)],[(aR,gi x.1)]⟩) h ?_ ?_
   ·exact aj.lq [0] J J J
   ·intro x z2 aH J2 fe h yD vr
    obtain ⟨l7,n8⟩:=x
    obtain rfl:=fe
    replace h:cT ah lW n4 l7 n8=some z2:=h
    unfold cT at h
    refine tS<|tS<|aa.cut (fun aH=>∃ (c9:Bool),cS n4 l7 n8 c9=some z2∧aH=⟨53,[(0,.sl 6 aR 0 l7.length),(1,I ah),(2,I ao),(3,.func (.func uh) vZ),(8,I n4),(9,I n8),(34,.bool c9)],[(aR,gi l7)]⟩) ?_ ?_
    ·refine aa.bS (id:=4) (A:=[0,0,3,7,15,15,15,111,239,15,15,1039,3599,7695,16383,32767,65535]) 17 mixed J (by kernel_rfl) (by kernel_rfl)<|AM.qv (ax J) J<|AM.qv (ax J) J<|AM.qv (fW J J) J<|AM.qv (ax J) J<|AM.bH J J J (fun hc=>?_) (fun hc=>?_)
     ·exact have h:=sW hc h;AM.qv (ax J) J<|AM.aI J J J<|AM.qv (ax J) J<|AM.aI J J J<|AM.qv (ax J) J<|AM.aI J J J<|aK h fun v10 e1 h=>AM.qv (ba J J J e1) J<|AM.aI J J J<|AM.qv (aZ (g:=Signal.av) J J (.inl .p0) J e1 J) J<|AM.aI J J J<|AM.qv (ax J) J<|AM.aI J J J<|AM.qv (ax J) J<|AM.aI J J J<|AM.qv (bK J J) J<|AM.aI J J J<|aK h fun v11 e2 h=>AM.qv (ba J J J e2) J<|AM.aI J J J<|AM.qv (aZ (g:=Signal.av) J J (.inl .p0) J e2 J) J<|AM.aI J J J<|aK h fun v12 e3 h=>AM.tG J J (KJ e3) cR J<|AM.aI J J J<|AM.qv (bE J J) J<|AM.qv (kj J J) J<|AM.nil<|rN<|aa.stop<|aj.lq [0] ⟨decide (v12 < (0:Int)),h,J⟩ J J
     ·exact have h:=zq hc h;AM.aN J J J J<|AM.aN J J J J<|AM.aN J J J J<|AM.aN J J J J<|AM.aN J J J J<|AM.aN J J J J<|AM.aN J J J J<|AM.aN J J J J<|AM.aN J J J J<|AM.aN J J J J<|AM.aN J J J J<|AM.qv (jz J J) J<|AM.nil<|rN<|aa.stop<|aj.lq [0] ⟨false,h,J⟩ J J
    ·rintro aH ⟨c9,h,rfl⟩
     unfold cS at h
     refine cB h J (fun h=>?_) (fun h=>?_)
     ·refine tK<|tS<|aa.block<|aK h fun fo e4 h=>aK h fun gR e5 h=>aK h fun ll e6 h=>aa.fT (id:=6) (A:=[0,0,0,0,8,0,0,64,224,480,0,0,3072,7168,16355,32739,65535,131071]) (H0:=[(aR,gi l7)]) (HH:=fun β=>[(aR,gi (l7.set n8.toNat fo))]) 16 mixed J (by kernel_rfl) (by kernel_rfl) [⟨none,some 15,[9,13],fun _=>(aR,gi l7),none,[]⟩,⟨some 15,none,[],fun _=>(aR,gi (l7.set n8.toNat fo)),none,[]⟩] [] J (by kernel_rfl) J (.cons .p0 .nil) (fun _=>J)<|AT.am 9 J J<|AM.qv (ax J) J<|AM.qv (ax J) J<|AM.qv (ax J) J<|AM.qv (ax J) J<|AM.qv (bK J J) J<|AM.qv (ax J) J<|AM.qv (ax J) J<|AM.qv (bK J J) J<|AM.qv (ba J J J e4) J<|AM.nil<|AT.rd (Rs:=[(aR,gi l7)]) (fun _=>J) J (fun _=>J) (fun _=>J) (aZ (g:=Signal.av) J J (.inl .p0) J e4 J) J<|AT.am 3 J J<|AM.qv (ax J) J<|AM.qv (ax J) J<|AM.qv (ba J J J e5) J<|AM.nil<|AT.rd (Rs:=[(aR,gi l7)]) (fun _=>J) J (fun _=>J) (fun _=>J) (aZ (g:=Signal.av) J J (.inl .p0) J e5 J) J<|AT.am 1 J J<|AM.qv (ba J J J e6) J<|AM.nil<|AT.xa (Ti:=[(aR,gi l7)]) (Pi:=[(aR,gi (l7.set n8.toNat fo))]) (fun _=>J) (fun _=>J) (fun _=>J) J J ?_ ?_
      ·exact bz (g:=Signal.av) (uy:=fo) J J J J e6 J .p0 J<|ae.nil ⟨_,J⟩
      refine AT.rb (fun _=>J) fun β=>ae.ghost<|aj.eqs (s:=0) (cy:=.sl 6 aR 0 (l7.set n8.toNat fo).length) J (by simp)<|aj.here<|ae.ghost<|aj.eqs (s:=37) (cy:=.sl 6 aR 0 (l7.set n8.toNat fo).length) J (by simp)<|aj.here<|ae.ghost<|aj.eqs (s:=39) (cy:=.sl 6 aR 0 (l7.set n8.toNat fo).length) J (by simp)<|aj.here<|ae.ghost<|aj.eqs (s:=42) (cy:=.sl 6 aR 0 (l7.set n8.toNat fo).length) J (by simp)<|aj.here<|ae.ghost<|aj.eqs (s:=47) (cy:=.sl 6 aR 0 (l7.set n8.toNat fo).length) J (by simp)<|aj.here<|aK h fun xo e7 h=>ae.qv (ba J J J e7) J<|bz (g:=Signal.av) (uy:=gR) J J J J e7 J .p0 J<|ae.ghost<|aj.eqs (s:=0) (cy:=.sl 6 aR 0 ((l7.set n8.toNat fo).set (aL (n8 - (1:Int))).toNat gR).length) J (by rw [List.length_set])<|aj.here<|ae.ghost<|aj.eqs (s:=37) (cy:=.sl 6 aR 0 ((l7.set n8.toNat fo).set (aL (n8 - (1:Int))).toNat gR).length) J (by rw [List.length_set])<|aj.here<|ae.ghost<|aj.eqs (s:=39) (cy:=.sl 6 aR 0 ((l7.set n8.toNat fo).set (aL (n8 - (1:Int))).toNat gR).length) J (by rw [List.length_set])<|aj.here<|ae.ghost<|aj.eqs (s:=42) (cy:=.sl 6 aR 0 ((l7.set n8.toNat fo).set (aL (n8 - (1:Int))).toNat gR).length) J (by rw [List.length_set])<|aj.here<|ae.ghost<|aj.eqs (s:=47) (cy:=.sl 6 aR 0 ((l7.set n8.toNat fo).set (aL (n8 - (1:Int))).toNat gR).length) J (by rw [List.length_set])<|aj.here<|rN<|aa.cu<|tR<|rM J J<|ae.qv (bK J J) J<|rA J J<|rN<|aa.stop<|?_
      cases h
      exact yD _ _ J<|aj.lq [0] J J J
     ·refine aa.exit J<|have h:=bT h vr;aa.cu<|tR<|rM J J<|ae.qv (bc J J) J<|rA J J<|rN<|aa.stop<|?_
      cases h
      exact k6 _ _ J<|aj.lq [0] J J J
  ·refine aa.exit J<|have h:=bT h fh;aa.nil<|?_
   cases h
   exact aj.here ⟨_,.nil,_,.cons .p0 .nil,⟨J,J⟩⟩
theorem gE [GI:bM] {aR:Bk} {ab:List Signal} {ah:Int} {ao:Int} {aD:Int} {cG:Signal→Signal→Option Int} {bY:FuncId} [bF Tryz.prog bY] {cx:List AV} (gY:∀ {y0 y1:_} {u:Int},cG y0 y1=some u→Pu Tryz.prog bY (Signal.av y0 :: Signal.av y1 :: cx) (I u)) {r:(List Signal)} (h:df ab ah ao aD cG=some r):aT Tryz.prog 142 [.sl 6 aR 0 ab.length,I ah,I ao,I aD,.func (.func bY) cx] [(aR,gi ab)] (T0 ([(aR,gi r)]) (.oL [])):=by
 unfold df at h
 refine aT.fM ?_
 refine aT.bJ Tryz.func142 J Tryz.ntmps142 Tryz.results142 J J ?_
 refine aS<|rA J J<|rN<|aa.block<|aa.cw (fun x:(List Signal)×Int=>dz ah ao aD x.1 x.2) (fun x aH=>aH=⟨38,[(0,.sl 6 aR 0 x.1.length),(1,I ah),(2,I ao),(3,I aD),(10,I x.2)],[(aR,gi x.1)]⟩) h ?_ ?_
 ·exact aj.lq [0] J J J
 ·intro x z1 aH J1 fe h k6 fh
  obtain ⟨l3,n4⟩:=x
  obtain rfl:=fe
  replace h:dz ah ao aD l3 n4=some z1:=h
  unfold dz at h
  refine tS<|aS<|rM J J<|rM J J<|ae.qv (bE J J) J<|rN<|cD h J (fun h=>?_) (fun h=>?_)
  ·refine tK<|tS<|aa.block<|aK h fun v5 e1 h=>aK h fun v6 e2 h=>aK h fun v7 e3 h=>aa.fT (id:=3) (A:=[0,0,0,6,0,0,0,96,0,0,0,1536,3840,7936,0,0,0,98304,245760,507904,1048335,2096911,4194303,8388607]) (H0:=[(aR,gi l3)]) (HH:=fun β=>[(aR,gi (l3.set (aL (ah+n4)).toNat v5))]) 22 mixed J (by kernel_rfl) (by kernel_rfl) [⟨none,some 21,[13,19],fun _=>(aR,gi l3),none,[]⟩,⟨some 21,none,[],fun _=>(aR,gi (l3.set (aL (ah+n4)).toNat v5)),none,[]⟩] [] J (by kernel_rfl) J (.cons .p0 .nil) (fun _=>J)<|AT.am 13 J J<|AM.qv (ax J) J<|AM.qv (ax J) J<|AM.qv (ax J) J<|AM.qv (bc J J) J<|AM.qv (ax J) J<|AM.qv (ax J) J<|AM.qv (ax J) J<|AM.qv (bc J J) J<|AM.qv (ax J) J<|AM.qv (ax J) J<|AM.qv (ax J) J<|AM.qv (bc J J) J<|AM.qv (ba J J J e1) J<|AM.nil<|AT.rd (Rs:=[(aR,gi l3)]) (fun _=>J) J (fun _=>J) (fun _=>J) (aZ (g:=Signal.av) J J (.inl .p0) J e1 J) J<|AT.am 5 J J<|AM.qv (ax J) J<|AM.qv (ax J) J<|AM.qv (ax J) J<|AM.qv (bc J J) J<|AM.qv (ba J J J e2) J<|AM.nil<|AT.rd (Rs:=[(aR,gi l3)]) (fun _=>J) J (fun _=>J) (fun _=>J) (aZ (g:=Signal.av) J J (.inl .p0) J e2 J) J<|AT.am 1 J J<|AM.qv (ba J J J e3) J<|AM.nil<|AT.xa (Ti:=[(aR,gi l3)]) (Pi:=[(aR,gi (l3.set (aL (ah+n4)).toNat v5))]) (fun _=>J) (fun _=>J) (fun _=>J) J J ?_ ?_
   ·exact bz (g:=Signal.av) (uy:=v5) J J J J e3 J .p0 J<|ae.nil ⟨_,J⟩
   refine AT.rb (fun _=>J) fun β=>ae.ghost<|aj.eqs (s:=0) (cy:=.sl 6 aR 0 (l3.set (aL (ah+n4)).toNat v5).length) J (by simp)<|aj.here<|ae.ghost<|aj.eqs (s:=16) (cy:=.sl 6 aR 0 (l3.set (aL (ah+n4)).toNat v5).length) J (by simp)<|aj.here<|ae.ghost<|aj.eqs (s:=20) (cy:=.sl 6 aR 0 (l3.set (aL (ah+n4)).toNat v5).length) J (by simp)<|aj.here<|ae.ghost<|aj.eqs (s:=24) (cy:=.sl 6 aR 0 (l3.set (aL (ah+n4)).toNat v5).length) J (by simp)<|aj.here<|ae.ghost<|aj.eqs (s:=30) (cy:=.sl 6 aR 0 (l3.set (aL (ah+n4)).toNat v5).length) J (by simp)<|aj.here<|aK h fun v8 e4 h=>ae.qv (ba J J J e4) J<|bz (g:=Signal.av) (uy:=v6) J J J J e4 J .p0 J<|ae.ghost<|aj.eqs (s:=0) (cy:=.sl 6 aR 0 ((l3.set (aL (ah+n4)).toNat v5).set (aL (ao+n4)).toNat v6).length) J (by rw [List.length_set])<|aj.here<|ae.ghost<|aj.eqs (s:=16) (cy:=.sl 6 aR 0 ((l3.set (aL (ah+n4)).toNat v5).set (aL (ao+n4)).toNat v6).length) J (by rw [List.length_set])<|aj.here<|ae.ghost<|aj.eqs (s:=20) (cy:=.sl 6 aR 0 ((l3.set (aL (ah+n4)).toNat v5).set (aL (ao+n4)).toNat v6).length) J (by rw [List.length_set])<|aj.here<|ae.ghost<|aj.eqs (s:=24) (cy:=.sl 6 aR 0 ((l3.set (aL (ah+n4)).toNat v5).set (aL (ao+n4)).toNat v6).length) J (by rw [List.length_set])<|aj.here<|ae.ghost<|aj.eqs (s:=30) (cy:=.sl 6 aR 0 ((l3.set (aL (ah+n4)).toNat v5).set (aL (ao+n4)).toNat v6).length) J (by rw [List.length_set])<|aj.here<|rN<|aa.cu<|tR<|rM J J<|ae.qv (bc J J) J<|rA J J<|rN<|aa.stop<|?_
   cases h
   exact k6 _ _ J<|aj.lq [0] J J J
  ·refine aa.exit J<|have h:=bT h fh;aa.nil<|?_
   cases h
   exact aj.here ⟨_,.nil,_,.cons .p0 .nil,⟨J,J⟩⟩
theorem qQ [GI:bM] {aR:Bk} {ab:List Signal} {ah:Int} {ao:Int} {aD:Int} {cG:Signal→Signal→Option Int} {bY:FuncId} [bF Tryz.prog bY] {cx:List AV} (gY:∀ {y0 y1:_} {u:Int},cG y0 y1=some u→Pu Tryz.prog bY (Signal.av y0 :: Signal.av y1 :: cx) (I u)) {r:(List Signal)} (h:jj ab ah ao aD cG=some r):aT Tryz.prog 119 [.sl 6 aR 0 ab.length,I ah,I ao,I aD,.func (.func bY) cx] [(aR,gi ab)] (T0 ([(aR,gi r)]) (.oL [])):=by
 unfold jj at h
 refine aT.fM ?_
 refine aT.bJ Tryz.func119 J Tryz.ntmps119 Tryz.results119 J J ?_
 refine aS<|rM J J<|rM J J<|ae.qv (bK J J) J<|rA J J<|rN<|aS<|rM J J<|rM J J<|ae.qv (bK J J) J<|rA J J<|rN<|tS<|aa.block<|aa.cw (fun x:(List Signal)×Int×Int=>eP ao cG x.1 x.2.1 x.2.2) (fun x aH=>aH=⟨58,[(0,.sl 6 aR 0 x.1.length),(2,I ao),(4,.func (.func bY) cx),(10,I x.2.1),(11,I x.2.2)],[(aR,gi x.1)]⟩) h ?_ ?_
 ·exact aj.lq [0] J J J
 ·intro x z1 aH J1 fe h k6 fh
  obtain ⟨l4,n5,n6⟩:=x
  obtain rfl:=fe
  replace h:eP ao cG l4 n5 n6=some z1:=h
  unfold eP at h
  refine tS<|aS<|rM J J<|rM J J<|ae.qv (jU J J) J<|rN<|cD h J (fun h=>?_) (fun h=>?_)
  ·refine tK<|aa.block<|aS<|rM J J<|rM J J<|ae.qv (fW J J) J<|rN<|aa.cut (fun aH=>∃ (l7:List Signal) (n8:Int) (n9:Int),eO l7 n8 n9=some z1∧aH=⟨58,[(0,.sl 6 aR 0 l7.length),(2,I ao),(4,.func (.func bY) cx),(10,I n8),(11,I n9)],[(aR,gi l7)]⟩) ?_ ?_
   ·refine cD h J (fun h=>?_) (fun h=>?_)
    ·exact aS<|rM J J<|rM J J<|rM J J<|ae.qv (bK J J) J<|rM J J<|rM J J<|rM J J<|aK h fun v10 e1 h=>bh J (gE gY (fU e1)) cR (.cons .p0 .nil) J J<|ae.ghost<|aj.eqs (s:=0) (cy:=.sl 6 aR 0 v10.length) J (congrArg (AV.sl 6 aR 0) (bP e1))<|aj.here<|ae.ghost<|aj.eqs (s:=24) (cy:=.sl 6 aR 0 v10.length) J (congrArg (AV.sl 6 aR 0) (bP e1))<|aj.here<|rN<|tR<|rM J J<|rM J J<|ae.qv (bK J J) J<|rA J J<|rN<|aa.stop<|aj.lq [0] ⟨v10,aL (n5 - n6),n6,h,J⟩ J J
    ·exact aS<|rM J J<|rM J J<|rM J J<|ae.qv (bK J J) J<|rM J J<|rM J J<|ae.qv (bc J J) J<|rM J J<|ae.qv (bK J J) J<|rM J J<|rM J J<|aK h fun v11 e2 h=>bh J (gE gY (fU e2)) cR (.cons .p0 .nil) J J<|ae.ghost<|aj.eqs (s:=0) (cy:=.sl 6 aR 0 v11.length) J (congrArg (AV.sl 6 aR 0) (bP e2))<|aj.here<|ae.ghost<|aj.eqs (s:=35) (cy:=.sl 6 aR 0 v11.length) J (congrArg (AV.sl 6 aR 0) (bP e2))<|aj.here<|rN<|tR<|rM J J<|rM J J<|ae.qv (bK J J) J<|rA J J<|rN<|aa.stop<|aj.lq [0] ⟨v11,n5,aL (n6 - n5),h,J⟩ J J
   ·rintro aH ⟨l7,n8,n9,h,rfl⟩
    unfold eO at h
    refine aa.cu<|aa.stop<|?_
    cases h
    exact k6 _ _ J<|aj.lq [0] J J J
  ·refine aa.exit J<|have h:=bT h fh;?_
   unfold lu at h
   refine tR<|rM J J<|rM J J<|rM J J<|ae.qv (bK J J) J<|rM J J<|rM J J<|rM J J<|aK h fun v12 e3 h=>bh J (gE gY (fU e3)) cR (.cons .p0 .nil) J J<|ae.ghost<|aj.eqs (s:=0) (cy:=.sl 6 aR 0 v12.length) J (congrArg (AV.sl 6 aR 0) (bP e3))<|aj.here<|ae.ghost<|aj.eqs (s:=50) (cy:=.sl 6 aR 0 v12.length) J (congrArg (AV.sl 6 aR 0) (bP e3))<|aj.here<|rN<|aa.nil<|?_
   cases h
   exact aj.here ⟨_,.nil,_,.cons .p0 .nil,⟨J,J⟩⟩
theorem oZ [GI:bM] {aR:Bk} {self:(List Signal)→Int→Int→Int→(Signal→Signal→Option Int)→Option (List Signal)} (BT:∀ {aR:Bk} {ab:List Signal} {ah:Int} {ao:Int} {aD:Int} {cG:Signal→Signal→Option Int} {bY:FuncId} [bF Tryz.prog bY] {cx:List AV} (gY:∀ {y0 y1:_} {u:Int},cG y0 y1=some u→Pu Tryz.prog bY (Signal.av y0 :: Signal.av y1 :: cx) (I u)) {r:(List Signal)},self ab ah ao aD cG=some r→aT Tryz.prog 92 [.sl 6 aR 0 ab.length,I ah,I ao,I aD,.func (.func bY) cx] [(aR,gi ab)] (T0 ([(aR,gi r)]) (.oL []))) {ab:List Signal} {ah:Int} {ao:Int} {aD:Int} {cG:Signal→Signal→Option Int} {bY:FuncId} [bF Tryz.prog bY] {cx:List AV} (gY:∀ {y0 y1:_} {u:Int},cG y0 y1=some u→Pu Tryz.prog bY (Signal.av y0 :: Signal.av y1 :: cx) (I u)) {r:(List Signal)} (h:gw self ab ah ao aD cG=some r):aT Tryz.prog 92 [.sl 6 aR 0 ab.length,I ah,I ao,I aD,.func (.func bY) cx] [(aR,gi ab)] (T0 ([(aR,gi r)]) (.oL [])):=by
 unfold gw at h
 refine aT.fM ?_
 refine aT.bJ Tryz.func92 J Tryz.ntmps92 Tryz.results92 J J ?_
 refine tS<|aS<|rM J J<|rM J J<|ae.qv (bK J J) J<|ae.qv (cL J J) J<|rN<|cD h J (fun h=>?_) (fun h=>?_)
 ·refine aS<|rM J J<|rA J J<|rN<|aS<|rM J J<|rA J J<|rN<|tS<|aa.block<|aa.cw (fun x:Int×Int=>dR ab ah cG x.1 x.2) (fun x aH=>aH=⟨220,[(0,.sl 6 aR 0 ab.length),(1,I ah),(4,.func (.func bY) cx),(10,I x.1),(11,I x.2)],[(aR,gi ab)]⟩) h ?_ ?_
  ·exact aj.lq [0] J J J
  ·intro x z1 aH J1 fe h k6 fh
   obtain ⟨n3,n4⟩:=x
   obtain rfl:=fe
   replace h:dR ab ah cG n3 n4=some z1:=h
   unfold dR at h
   refine tS<|aS<|rM J J<|rM J J<|ae.qv (bE J J) J<|rN<|cD h J (fun h=>?_) (fun h=>?_)
   ·refine tK<|aa.block<|aS<|rM J J<|rM J J<|ae.qv (bc J J) J<|ae.qv (fl J) J<|ae.qv (z8 J J (by decide)) J<|ae.qv (fl J) J<|rA J J<|rN<|tS<|aa.bS (id:=5) (A:=[0,0,0,6,14,0,0,96,224,511,1023]) 11 mixed J (by kernel_rfl) (by kernel_rfl)<|AM.qv (ax J) J<|AM.qv (ax J) J<|AM.qv (ax J) J<|aK h fun v5 e1 h=>AM.qv (ba J J J e1) J<|AM.qv (aZ (g:=Signal.av) J J (.inl .p0) J e1 J) J<|AM.qv (ax J) J<|AM.qv (ax J) J<|aK h fun v6 e2 h=>AM.qv (ba J J J e2) J<|AM.qv (aZ (g:=Signal.av) J J (.inl .p0) J e2 J) J<|aK h fun v7 e3 h=>AM.tG J J (gY e3) cR J<|AM.qv (bE J J) J<|AM.nil<|rN<|aa.cut (fun aH=>∃ (n8:Int) (n9:Int),dP n8 n9=some z1∧aH=⟨220,[(0,.sl 6 aR 0 ab.length),(1,I ah),(4,.func (.func bY) cx),(10,I n8),(11,I n9)],[(aR,gi ab)]⟩) ?_ ?_
    ·refine cD h J (fun h=>?_) (fun h=>?_)
     ·exact tR<|rM J J<|ae.qv (bc J J) J<|rA J J<|rN<|aa.stop<|aj.lq [0] ⟨aL ((aL (cd .u64 (IntKind.u64.wrap (aL (n3+n4))) (1:Int)))+(1:Int)),n4,h,J⟩ J J
     ·exact tR<|rM J J<|rA J J<|rN<|aa.stop<|aj.lq [0] ⟨n3,aL (cd .u64 (IntKind.u64.wrap (aL (n3+n4))) (1:Int)),h,J⟩ J J
    ·rintro aH ⟨n8,n9,h,rfl⟩
     unfold dP at h
     refine aa.cu<|aa.stop<|?_
     cases h
     exact k6 _ _ J<|aj.lq [0] J J J
   ·refine aa.exit J<|have h:=bT h fh;tS<|aS<|rM J J<|rA J J<|rN<|aa.block<|aa.cw (fun x:(List Signal)×Int=>dQ n3 x.1 x.2) (fun x aH=>aH=⟨220,[(0,.sl 6 aR 0 x.1.length),(10,I n3),(13,I x.2)],[(aR,gi x.1)]⟩) h ?_ ?_
    ·exact aj.lq [0] J J J
    ·intro x z2 aH J2 fe h yD vr
     obtain ⟨jT,n13⟩:=x
     obtain rfl:=fe
     replace h:dQ n3 jT n13=some z2:=h
     unfold dQ at h
     refine tS<|aS<|rM J J<|rM J J<|ae.qv (bK J J) J<|ae.qv (bE J J) J<|rN<|cD h J (fun h=>?_) (fun h=>?_)
     ·refine tK<|tS<|aa.block<|aK h fun gR e4 h=>aK h fun ll e5 h=>aK h fun xo e6 h=>aa.fT (id:=11) (A:=[0,0,0,0,8,0,0,64,224,480,0,0,3072,7168,16355,32739,65535,131071]) (H0:=[(aR,gi jT)]) (HH:=fun β=>[(aR,gi (jT.set n13.toNat gR))]) 16 mixed J (by kernel_rfl) (by kernel_rfl) [⟨none,some 15,[9,13],fun _=>(aR,gi jT),none,[]⟩,⟨some 15,none,[],fun _=>(aR,gi (jT.set n13.toNat gR)),none,[]⟩] [] J (by kernel_rfl) J (.cons .p0 .nil) (fun _=>J)<|AT.am 9 J J<|AM.qv (ax J) J<|AM.qv (ax J) J<|AM.qv (ax J) J<|AM.qv (ax J) J<|AM.qv (bc J J) J<|AM.qv (ax J) J<|AM.qv (ax J) J<|AM.qv (bc J J) J<|AM.qv (ba J J J e4) J<|AM.nil<|AT.rd (Rs:=[(aR,gi jT)]) (fun _=>J) J (fun _=>J) (fun _=>J) (aZ (g:=Signal.av) J J (.inl .p0) J e4 J) J<|AT.am 3 J J<|AM.qv (ax J) J<|AM.qv (ax J) J<|AM.qv (ba J J J e5) J<|AM.nil<|AT.rd (Rs:=[(aR,gi jT)]) (fun _=>J) J (fun _=>J) (fun _=>J) (aZ (g:=Signal.av) J J (.inl .p0) J e5 J) J<|AT.am 1 J J<|AM.qv (ba J J J e6) J<|AM.nil<|AT.xa (Ti:=[(aR,gi jT)]) (Pi:=[(aR,gi (jT.set n13.toNat gR))]) (fun _=>J) (fun _=>J) (fun _=>J) J J ?_ ?_
      ·exact bz (g:=Signal.av) (uy:=gR) J J J J e6 J .p0 J<|ae.nil ⟨_,J⟩
      refine AT.rb (fun _=>J) fun β=>ae.ghost<|aj.eqs (s:=0) (cy:=.sl 6 aR 0 (jT.set n13.toNat gR).length) J (by simp)<|aj.here<|ae.ghost<|aj.eqs (s:=61) (cy:=.sl 6 aR 0 (jT.set n13.toNat gR).length) J (by simp)<|aj.here<|ae.ghost<|aj.eqs (s:=63) (cy:=.sl 6 aR 0 (jT.set n13.toNat gR).length) J (by simp)<|aj.here<|ae.ghost<|aj.eqs (s:=66) (cy:=.sl 6 aR 0 (jT.set n13.toNat gR).length) J (by simp)<|aj.here<|ae.ghost<|aj.eqs (s:=71) (cy:=.sl 6 aR 0 (jT.set n13.toNat gR).length) J (by simp)<|aj.here<|aK h fun v17 e7 h=>ae.qv (ba J J J e7) J<|bz (g:=Signal.av) (uy:=ll) J J J J e7 J .p0 J<|ae.ghost<|aj.eqs (s:=0) (cy:=.sl 6 aR 0 ((jT.set n13.toNat gR).set (aL (n13+(1:Int))).toNat ll).length) J (by rw [List.length_set])<|aj.here<|ae.ghost<|aj.eqs (s:=61) (cy:=.sl 6 aR 0 ((jT.set n13.toNat gR).set (aL (n13+(1:Int))).toNat ll).length) J (by rw [List.length_set])<|aj.here<|ae.ghost<|aj.eqs (s:=63) (cy:=.sl 6 aR 0 ((jT.set n13.toNat gR).set (aL (n13+(1:Int))).toNat ll).length) J (by rw [List.length_set])<|aj.here<|ae.ghost<|aj.eqs (s:=66) (cy:=.sl 6 aR 0 ((jT.set n13.toNat gR).set (aL (n13+(1:Int))).toNat ll).length) J (by rw [List.length_set])<|aj.here<|ae.ghost<|aj.eqs (s:=71) (cy:=.sl 6 aR 0 ((jT.set n13.toNat gR).set (aL (n13+(1:Int))).toNat ll).length) J (by rw [List.length_set])<|aj.here<|rN<|aa.cu<|tR<|rM J J<|ae.qv (bc J J) J<|rA J J<|rN<|aa.stop<|?_
      cases h
      exact yD _ _ J<|aj.lq [0] J J J
     ·refine aa.exit J<|have h:=bT h vr;aa.ret<|?_
      cases h
      exact aj.here ⟨_,.nil,_,.cons .p0 .nil,⟨J,J⟩⟩
 ·refine tK<|tS<|aS<|rM J J<|rM J J<|ae.qv (bK J J) J<|ae.qv (cL J J) J<|rN<|cD h J (fun h=>?_) (fun h=>?_)
  ·refine aS<|rM J J<|rA J J<|rN<|aS<|rM J J<|rA J J<|rN<|tS<|aa.block<|aa.cw (fun x:Int×Int=>dV ab ao cG x.1 x.2) (fun x aH=>aH=⟨220,[(0,.sl 6 aR 0 ab.length),(2,I ao),(4,.func (.func bY) cx),(14,I x.1),(15,I x.2)],[(aR,gi ab)]⟩) h ?_ ?_
   ·exact aj.lq [0] J J J
   ·intro x z3 aH J3 fe h Na L1
    obtain ⟨n20,n21⟩:=x
    obtain rfl:=fe
    replace h:dV ab ao cG n20 n21=some z3:=h
    unfold dV at h
    refine tS<|aS<|rM J J<|rM J J<|ae.qv (bE J J) J<|rN<|cD h J (fun h=>?_) (fun h=>?_)
    ·refine tK<|aa.block<|aS<|rM J J<|rM J J<|ae.qv (bc J J) J<|ae.qv (fl J) J<|ae.qv (z8 J J (by decide)) J<|ae.qv (fl J) J<|rA J J<|rN<|tS<|aa.bS (id:=17) (A:=[0,0,0,6,14,0,0,96,224,511,1023,2047]) 12 mixed J (by kernel_rfl) (by kernel_rfl)<|AM.qv (ax J) J<|AM.qv (ax J) J<|AM.qv (ax J) J<|aK h fun v22 e8 h=>AM.qv (ba J J J e8) J<|AM.qv (aZ (g:=Signal.av) J J (.inl .p0) J e8 J) J<|AM.qv (ax J) J<|AM.qv (ax J) J<|aK h fun v23 e9 h=>AM.qv (ba J J J e9) J<|AM.qv (aZ (g:=Signal.av) J J (.inl .p0) J e9 J) J<|aK h fun v24 xd h=>AM.tG J J (gY xd) cR J<|AM.qv (bE J J) J<|AM.qv (lY J) J<|AM.nil<|rN<|aa.cut (fun aH=>∃ (n25:Int) (n26:Int),dS n25 n26=some z3∧aH=⟨220,[(0,.sl 6 aR 0 ab.length),(2,I ao),(4,.func (.func bY) cx),(14,I n25),(15,I n26)],[(aR,gi ab)]⟩) ?_ ?_
     ·refine cD h J (fun h=>?_) (fun h=>?_)
      ·exact tR<|rM J J<|ae.qv (bc J J) J<|rA J J<|rN<|aa.stop<|aj.lq [0] ⟨aL ((aL (cd .u64 (IntKind.u64.wrap (aL (n20+n21))) (1:Int)))+(1:Int)),n21,h,J⟩ J J
      ·exact tR<|rM J J<|rA J J<|rN<|aa.stop<|aj.lq [0] ⟨n20,aL (cd .u64 (IntKind.u64.wrap (aL (n20+n21))) (1:Int)),h,J⟩ J J
     ·rintro aH ⟨n25,n26,h,rfl⟩
      unfold dS at h
      refine aa.cu<|aa.stop<|?_
      cases h
      exact Na _ _ J<|aj.lq [0] J J J
    ·refine aa.exit J<|have h:=bT h L1;tS<|aS<|rM J J<|rA J J<|rN<|aa.block<|aa.cw (fun x:(List Signal)×Int=>dU n20 x.1 x.2) (fun x aH=>aH=⟨220,[(0,.sl 6 aR 0 x.1.length),(14,I n20),(17,I x.2)],[(aR,gi x.1)]⟩) h ?_ ?_
     ·exact aj.lq [0] J J J
     ·intro x z4 aH J4 fe h VD VE
      obtain ⟨nW,n30⟩:=x
      obtain rfl:=fe
      replace h:dU n20 nW n30=some z4:=h
      unfold dU at h
      refine tS<|aS<|rM J J<|rM J J<|ae.qv (fW J J) J<|rN<|cD h J (fun h=>?_) (fun h=>?_)
      ·refine tK<|tS<|aa.block<|aK h fun v31 Cs h=>aK h fun v32 zj h=>aK h fun v33 IV h=>aa.fT (id:=23) (A:=[0,0,0,0,8,0,0,64,224,480,0,0,3072,7168,16355,32739,65535,131071]) (H0:=[(aR,gi nW)]) (HH:=fun β=>[(aR,gi (nW.set n30.toNat v31))]) 16 mixed J (by kernel_rfl) (by kernel_rfl) [⟨none,some 15,[9,13],fun _=>(aR,gi nW),none,[]⟩,⟨some 15,none,[],fun _=>(aR,gi (nW.set n30.toNat v31)),none,[]⟩] [] J (by kernel_rfl) J (.cons .p0 .nil) (fun _=>J)<|AT.am 9 J J<|AM.qv (ax J) J<|AM.qv (ax J) J<|AM.qv (ax J) J<|AM.qv (ax J) J<|AM.qv (bK J J) J<|AM.qv (ax J) J<|AM.qv (ax J) J<|AM.qv (bK J J) J<|AM.qv (ba J J J Cs) J<|AM.nil<|AT.rd (Rs:=[(aR,gi nW)]) (fun _=>J) J (fun _=>J) (fun _=>J) (aZ (g:=Signal.av) J J (.inl .p0) J Cs J) J<|AT.am 3 J J<|AM.qv (ax J) J<|AM.qv (ax J) J<|AM.qv (ba J J J zj) J<|AM.nil<|AT.rd (Rs:=[(aR,gi nW)]) (fun _=>J) J (fun _=>J) (fun _=>J) (aZ (g:=Signal.av) J J (.inl .p0) J zj J) J<|AT.am 1 J J<|AM.qv (ba J J J IV) J<|AM.nil<|AT.xa (Ti:=[(aR,gi nW)]) (Pi:=[(aR,gi (nW.set n30.toNat v31))]) (fun _=>J) (fun _=>J) (fun _=>J) J J ?_ ?_
       ·exact bz (g:=Signal.av) (uy:=v31) J J J J IV J .p0 J<|ae.nil ⟨_,J⟩
       refine AT.rb (fun _=>J) fun β=>ae.ghost<|aj.eqs (s:=0) (cy:=.sl 6 aR 0 (nW.set n30.toNat v31).length) J (by simp)<|aj.here<|ae.ghost<|aj.eqs (s:=113) (cy:=.sl 6 aR 0 (nW.set n30.toNat v31).length) J (by simp)<|aj.here<|ae.ghost<|aj.eqs (s:=115) (cy:=.sl 6 aR 0 (nW.set n30.toNat v31).length) J (by simp)<|aj.here<|ae.ghost<|aj.eqs (s:=118) (cy:=.sl 6 aR 0 (nW.set n30.toNat v31).length) J (by simp)<|aj.here<|ae.ghost<|aj.eqs (s:=123) (cy:=.sl 6 aR 0 (nW.set n30.toNat v31).length) J (by simp)<|aj.here<|aK h fun EO KK h=>ae.qv (ba J J J KK) J<|bz (g:=Signal.av) (uy:=v32) J J J J KK J .p0 J<|ae.ghost<|aj.eqs (s:=0) (cy:=.sl 6 aR 0 ((nW.set n30.toNat v31).set (aL (n30 - (1:Int))).toNat v32).length) J (by rw [List.length_set])<|aj.here<|ae.ghost<|aj.eqs (s:=113) (cy:=.sl 6 aR 0 ((nW.set n30.toNat v31).set (aL (n30 - (1:Int))).toNat v32).length) J (by rw [List.length_set])<|aj.here<|ae.ghost<|aj.eqs (s:=115) (cy:=.sl 6 aR 0 ((nW.set n30.toNat v31).set (aL (n30 - (1:Int))).toNat v32).length) J (by rw [List.length_set])<|aj.here<|ae.ghost<|aj.eqs (s:=118) (cy:=.sl 6 aR 0 ((nW.set n30.toNat v31).set (aL (n30 - (1:Int))).toNat v32).length) J (by rw [List.length_set])<|aj.here<|ae.ghost<|aj.eqs (s:=123) (cy:=.sl 6 aR 0 ((nW.set n30.toNat v31).set (aL (n30 - (1:Int))).toNat v32).length) J (by rw [List.length_set])<|aj.here<|rN<|aa.cu<|tR<|rM J J<|ae.qv (bK J J) J<|rA J J<|rN<|aa.stop<|?_
       cases h
       exact VD _ _ J<|aj.lq [0] J J J
      ·refine aa.exit J<|have h:=bT h VE;aa.ret<|?_
       cases h
       exact aj.here ⟨_,.nil,_,.cons .p0 .nil,⟨J,J⟩⟩
  ·refine tK<|aS<|rM J J<|rM J J<|ae.qv (bc J J) J<|ae.qv (fl J) J<|ae.qv (z8 J J (by decide)) J<|ae.qv (fl J) J<|rA J J<|rN<|aS<|rM J J<|rM J J<|ae.qv (bc J J) J<|rA J J<|rN<|aS<|rA J J<|rA J J<|rN<|tS<|aS<|rM J J<|rM J J<|ae.qv (fW J J) J<|rN<|aa.cut (fun aH=>∃ (n35:Int) (n36:Int),ea self ab ah ao aD cG n35 n36=some r∧aH=⟨220,[(0,.sl 6 aR 0 ab.length),(1,I ah),(2,I ao),(3,I aD),(4,.func (.func bY) cx),(18,I (aL (cd .u64 (IntKind.u64.wrap (aL (ah+aD))) (1:Int)))),(19,I (aL ((aL (cd .u64 (IntKind.u64.wrap (aL (ah+aD))) (1:Int)))+ao))),(20,I n35),(21,I n36)],[(aR,gi ab)]⟩) ?_ ?_
   ·refine cD h J (fun h=>?_) (fun h=>?_)
    ·exact aS<|rM J J<|rM J J<|ae.qv (bK J J) J<|rA J J<|rN<|tR<|rM J J<|rA J J<|rN<|aa.stop<|aj.lq [0] ⟨aL ((aL ((aL (cd .u64 (IntKind.u64.wrap (aL (ah+aD))) (1:Int)))+ao)) - aD),aL (cd .u64 (IntKind.u64.wrap (aL (ah+aD))) (1:Int)),h,J⟩ J J
    ·exact aS<|rM J J<|rA J J<|rN<|tR<|rM J J<|rA J J<|rN<|aa.stop<|aj.lq [0] ⟨ah,ao,h,J⟩ J J
   ·rintro aH ⟨n35,n36,h,rfl⟩
    unfold ea at h
    refine aS<|rM J J<|ae.qv (bK J J) J<|rA J J<|rN<|tS<|aa.block<|aa.cw (fun x:Int×Int=>dZ self ab ah ao aD cG x.1 x.2) (fun x aH=>aH=⟨220,[(0,.sl 6 aR 0 ab.length),(1,I ah),(2,I ao),(3,I aD),(4,.func (.func bY) cx),(18,I (aL (cd .u64 (IntKind.u64.wrap (aL (ah+aD))) (1:Int)))),(19,I (aL ((aL (cd .u64 (IntKind.u64.wrap (aL (ah+aD))) (1:Int)))+ao))),(20,I x.1),(21,I x.2),(22,I (aL ((aL ((aL (cd .u64 (IntKind.u64.wrap (aL (ah+aD))) (1:Int)))+ao)) - (1:Int))))],[(aR,gi ab)]⟩) h ?_ ?_
    ·exact aj.lq [0] J J J
    ·intro x z5 aH J5 fe h VF VG
     obtain ⟨n39,n40⟩:=x
     obtain rfl:=fe
     replace h:dZ self ab ah ao aD cG n39 n40=some z5:=h
     unfold dZ at h
     refine tS<|aS<|rM J J<|rM J J<|ae.qv (bE J J) J<|rN<|cD h J (fun h=>?_) (fun h=>?_)
     ·refine tK<|aa.block<|aS<|rM J J<|rM J J<|ae.qv (bc J J) J<|ae.qv (fl J) J<|ae.qv (z8 J J (by decide)) J<|ae.qv (fl J) J<|rA J J<|rN<|tS<|aa.bS (id:=35) (A:=[0,0,0,0,12,30,62,0,0,384,896,2047,4095,8191]) 14 mixed J (by kernel_rfl) (by kernel_rfl)<|AM.qv (ax J) J<|AM.qv (ax J) J<|AM.qv (ax J) J<|AM.qv (ax J) J<|AM.qv (bK J J) J<|aK h fun v41 Dr h=>AM.qv (ba J J J Dr) J<|AM.qv (aZ (g:=Signal.av) J J (.inl .p0) J Dr J) J<|AM.qv (ax J) J<|AM.qv (ax J) J<|aK h fun vq Nb h=>AM.qv (ba J J J Nb) J<|AM.qv (aZ (g:=Signal.av) J J (.inl .p0) J Nb J) J<|aK h fun wR Nc h=>AM.tG J J (gY Nc) cR J<|AM.qv (bE J J) J<|AM.qv (lY J) J<|AM.nil<|rN<|aa.cut (fun aH=>∃ (n44:Int) (n45:Int),dW n44 n45=some z5∧aH=⟨220,[(0,.sl 6 aR 0 ab.length),(1,I ah),(2,I ao),(3,I aD),(4,.func (.func bY) cx),(18,I (aL (cd .u64 (IntKind.u64.wrap (aL (ah+aD))) (1:Int)))),(19,I (aL ((aL (cd .u64 (IntKind.u64.wrap (aL (ah+aD))) (1:Int)))+ao))),(20,I n44),(21,I n45),(22,I (aL ((aL ((aL (cd .u64 (IntKind.u64.wrap (aL (ah+aD))) (1:Int)))+ao)) - (1:Int))))],[(aR,gi ab)]⟩) ?_ ?_
      ·refine cD h J (fun h=>?_) (fun h=>?_)
       ·exact tR<|rM J J<|ae.qv (bc J J) J<|rA J J<|rN<|aa.stop<|aj.lq [0] ⟨aL ((aL (cd .u64 (IntKind.u64.wrap (aL (n39+n40))) (1:Int)))+(1:Int)),n40,h,J⟩ J J
       ·exact tR<|rM J J<|rA J J<|rN<|aa.stop<|aj.lq [0] ⟨n39,aL (cd .u64 (IntKind.u64.wrap (aL (n39+n40))) (1:Int)),h,J⟩ J J
      ·rintro aH ⟨n44,n45,h,rfl⟩
       unfold dW at h
       refine aa.cu<|aa.stop<|?_
       cases h
       exact VF _ _ J<|aj.lq [0] J J J
     ·refine aa.exit J<|have h:=bT h VG;aS<|rM J J<|rM J J<|ae.qv (bK J J) J<|rA J J<|rN<|tS<|tS<|aa.cut (fun aH=>∃ (IT:Bool),gu self ab ah ao aD cG n39 IT=some r∧aH=⟨220,[(0,.sl 6 aR 0 ab.length),(1,I ah),(2,I ao),(3,I aD),(4,.func (.func bY) cx),(18,I (aL (cd .u64 (IntKind.u64.wrap (aL (ah+aD))) (1:Int)))),(20,I n39),(24,I (aL ((aL ((aL (cd .u64 (IntKind.u64.wrap (aL (ah+aD))) (1:Int)))+ao)) - n39))),(185,.bool IT)],[(aR,gi ab)]⟩) ?_ ?_
      ·refine tR<|rM J J<|rM J J<|ae.qv (bE J J) J<|rM J J<|ae.bH J J J (fun hc=>?_) (fun hc=>?_)
       ·rw [iD hc] at h
        exact rM J J<|rY J J J<|rM J J<|rY J J J<|ae.qv (bE J J) J<|rT J J J<|rN<|aa.stop<|aj.lq [0] ⟨decide (ao < (aL ((aL ((aL (cd .u64 (IntKind.u64.wrap (aL (ah+aD))) (1:Int)))+ao)) - n39))),h,J⟩ J J
       ·rw [iE hc] at h
        exact rG J J J J<|rG J J J J<|rE J J J<|rN<|aa.stop<|aj.lq [0] ⟨false,h,J⟩ J J
      ·rintro aH ⟨IT,h,rfl⟩
       unfold gu at h
       refine aa.cut (fun aH=>∃ (tH:List Signal),dY self ah ao aD cG n39 tH=some r∧aH=⟨220,[(0,.sl 6 aR 0 tH.length),(1,I ah),(3,I aD),(4,.func (.func bY) cx),(18,I (aL (cd .u64 (IntKind.u64.wrap (aL (ah+aD))) (1:Int)))),(20,I n39),(24,I (aL ((aL ((aL (cd .u64 (IntKind.u64.wrap (aL (ah+aD))) (1:Int)))+ao)) - n39)))],[(aR,gi tH)]⟩) ?_ ?_
       ·refine cB h J (fun h=>?_) (fun h=>?_)
        ·exact tR<|rM J J<|rM J J<|rM J J<|rM J J<|rM J J<|aK h fun bQ IW h=>bh J (qQ gY (fU IW)) cR (.cons .p0 .nil) J J<|ae.ghost<|aj.eqs (s:=0) (cy:=.sl 6 aR 0 bQ.length) J (congrArg (AV.sl 6 aR 0) (bP IW))<|aj.here<|ae.ghost<|aj.eqs (s:=186) (cy:=.sl 6 aR 0 bQ.length) J (congrArg (AV.sl 6 aR 0) (bP IW))<|aj.here<|rN<|aa.stop<|aj.lq [0] ⟨bQ,h,J⟩ J J
        ·exact tK<|aa.stop<|aj.lq [0] ⟨ab,h,J⟩ J J
       ·rintro aH ⟨tH,h,rfl⟩
        unfold dY at h
        refine tS<|tS<|aa.cut (fun aH=>∃ (c49:Bool),gr self ah ao aD cG n39 tH c49=some r∧aH=⟨220,[(0,.sl 6 aR 0 tH.length),(1,I ah),(3,I aD),(4,.func (.func bY) cx),(18,I (aL (cd .u64 (IntKind.u64.wrap (aL (ah+aD))) (1:Int)))),(20,I n39),(24,I (aL ((aL ((aL (cd .u64 (IntKind.u64.wrap (aL (ah+aD))) (1:Int)))+ao)) - n39))),(199,.bool c49)],[(aR,gi tH)]⟩) ?_ ?_
        ·refine tR<|rM J J<|rM J J<|ae.qv (bE J J) J<|rM J J<|ae.bH J J J (fun hc=>?_) (fun hc=>?_)
         ·rw [iD hc] at h
          exact rM J J<|rY J J J<|rM J J<|rY J J J<|ae.qv (bE J J) J<|rT J J J<|rN<|aa.stop<|aj.lq [0] ⟨decide (n39 < (aL (cd .u64 (IntKind.u64.wrap (aL (ah+aD))) (1:Int)))),h,J⟩ J J
         ·rw [iE hc] at h
          exact rG J J J J<|rG J J J J<|rE J J J<|rN<|aa.stop<|aj.lq [0] ⟨false,h,J⟩ J J
        ·rintro aH ⟨c49,h,rfl⟩
         unfold gr at h
         refine aa.cut (fun aH=>∃ (vT:List Signal),dX self ah ao aD cG n39 vT=some r∧aH=⟨220,[(0,.sl 6 aR 0 vT.length),(3,I aD),(4,.func (.func bY) cx),(18,I (aL (cd .u64 (IntKind.u64.wrap (aL (ah+aD))) (1:Int)))),(24,I (aL ((aL ((aL (cd .u64 (IntKind.u64.wrap (aL (ah+aD))) (1:Int)))+ao)) - n39)))],[(aR,gi vT)]⟩) ?_ ?_
         ·refine cB h J (fun h=>?_) (fun h=>?_)
          ·exact tR<|rM J J<|rM J J<|rM J J<|rM J J<|rM J J<|aK h fun v51 IX h=>bh J (BT gY (fU IX)) cR (.cons .p0 .nil) J J<|ae.ghost<|aj.eqs (s:=0) (cy:=.sl 6 aR 0 v51.length) J (congrArg (AV.sl 6 aR 0) (bP IX))<|aj.here<|ae.ghost<|aj.eqs (s:=200) (cy:=.sl 6 aR 0 v51.length) J (congrArg (AV.sl 6 aR 0) (bP IX))<|aj.here<|rN<|aa.stop<|aj.lq [0] ⟨v51,h,J⟩ J J
          ·exact tK<|aa.stop<|aj.lq [0] ⟨tH,h,J⟩ J J
         ·rintro aH ⟨vT,h,rfl⟩
          unfold dX at h
          refine tS<|aa.cut (fun aH=>∃ (IS:Bool),gq self ah ao aD cG n39 vT IS=some r∧aH=⟨220,[(0,.sl 6 aR 0 vT.length),(3,I aD),(4,.func (.func bY) cx),(18,I (aL (cd .u64 (IntKind.u64.wrap (aL (ah+aD))) (1:Int)))),(24,I (aL ((aL ((aL (cd .u64 (IntKind.u64.wrap (aL (ah+aD))) (1:Int)))+ao)) - n39))),(213,.bool IS)],[(aR,gi vT)]⟩) ?_ ?_
          ·refine tR<|rM J J<|rM J J<|ae.qv (bE J J) J<|rM J J<|ae.bH J J J (fun hc=>?_) (fun hc=>?_)
           ·rw [iD hc] at h
            exact rM J J<|rY J J J<|rM J J<|rY J J J<|ae.qv (bE J J) J<|rT J J J<|rN<|aa.stop<|aj.lq [0] ⟨decide ((aL ((aL ((aL (cd .u64 (IntKind.u64.wrap (aL (ah+aD))) (1:Int)))+ao)) - n39)) < aD),h,J⟩ J J
           ·rw [iE hc] at h
            exact rG J J J J<|rG J J J J<|rE J J J<|rN<|aa.stop<|aj.lq [0] ⟨false,h,J⟩ J J
          ·rintro aH ⟨IS,h,rfl⟩
           unfold gq at h
           refine aa.cut (fun aH=>∃ (BR:List Signal),dA BR=some r∧aH=⟨220,[],[(aR,gi BR)]⟩) ?_ ?_
           ·refine cB h J (fun h=>?_) (fun h=>?_)
            ·exact tR<|rM J J<|rM J J<|rM J J<|rM J J<|rM J J<|aK h fun v54 Nd h=>bh J (BT gY (fU Nd)) cR (.cons .p0 .nil) J J<|ae.ghost<|aj.eqs (s:=0) (cy:=.sl 6 aR 0 v54.length) J (congrArg (AV.sl 6 aR 0) (bP Nd))<|aj.here<|ae.ghost<|aj.eqs (s:=214) (cy:=.sl 6 aR 0 v54.length) J (congrArg (AV.sl 6 aR 0) (bP Nd))<|aj.here<|rN<|aa.stop<|aj.lq [0] ⟨v54,h,J⟩ J J
            ·exact tK<|aa.stop<|aj.lq [0] ⟨vT,h,J⟩ J J
           ·rintro aH ⟨BR,h,rfl⟩
            unfold dA at h
            refine aa.nil<|?_
            cases h
            exact aj.here ⟨_,.nil,_,.cons .p0 .nil,⟨J,J⟩⟩
theorem pg [GI:bM]:∀ (k:Nat) {aR:Bk} {ab:List Signal} {ah:Int} {ao:Int} {aD:Int} {cG:Signal→Signal→Option Int} {bY:FuncId} [bF Tryz.prog bY] {cx:List AV} (gY:∀ {y0 y1:_} {u:Int},cG y0 y1=some u→Pu Tryz.prog bY (Signal.av y0 :: Signal.av y1 :: cx) (I u)) {r:(List Signal)},gP k ab ah ao aD cG=some r→aT Tryz.prog 92 [.sl 6 aR 0 ab.length,I ah,I ao,I aD,.func (.func bY) cx] [(aR,gi ab)] (T0 ([(aR,gi r)]) (.oL [])):=by
 intro k
 induction k with
 | zero=>intro aR ab ah ao aD cG bY _ cx gY r h;cases h
 | succ k ih=>intro aR ab ah ao aD cG bY _ cx gY r h;exact oZ ih gY h
theorem lf [GI:bM] {aR:Bk} {ab:List Signal} {ah:Int} {ao:Int} {aD:Int} {cG:Signal→Signal→Option Int} {bY:FuncId} [bF Tryz.prog bY] {cx:List AV} (gY:∀ {y0 y1:_} {u:Int},cG y0 y1=some u→Pu Tryz.prog bY (Signal.av y0 :: Signal.av y1 :: cx) (I u)) {r:(List Signal)} (h:iF ab ah ao aD cG=some r):aT Tryz.prog 92 [.sl 6 aR 0 ab.length,I ah,I ao,I aD,.func (.func bY) cx] [(aR,gi ab)] (T0 ([(aR,gi r)]) (.oL [])):=pg depth gY h
theorem qR [GI:bM] {aR:Bk} {ab:List Signal} {ah:Int} {ml:Signal→Signal→Option Int} {sF:FuncId} [bF Tryz.prog sF] {ui:List AV} (yE:∀ {y0 y1:_} {u:Int},ml y0 y1=some u→Pu Tryz.prog sF (Signal.av y0 :: Signal.av y1 :: ui) (I u)) {r:(List Signal)} (h:ec ab ah ml=some r):aT Tryz.prog 67 [.sl 6 aR 0 ab.length,I ah,.func (.func sF) ui] [(aR,gi ab)] (T0 ([(aR,gi r)]) (.oL [])):=by
 unfold ec at h
 refine aT.fM ?_
 refine aT.bJ Tryz.func67 J Tryz.ntmps67 Tryz.results67 J J ?_
 refine aS<|rA J J<|rN<|aS<|rM J J<|rA J J<|rA J J<|rN<|tS<|aa.block<|aa.cw (fun x:(List Signal)×Int×Int=>di ah ml x.1 x.2.1 x.2.2) (fun x aH=>aH=⟨63,[(0,.sl 6 aR 0 x.1.length),(1,I ah),(2,.func (.func sF) ui),(6,I (20:Int)),(7,I x.2.1),(8,I x.2.2)],[(aR,gi x.1)]⟩) h ?_ ?_
 ·exact aj.lq [0] J J J
 ·intro x z1 aH J1 fe h k6 fh
  obtain ⟨l4,n5,n6⟩:=x
  obtain rfl:=fe
  replace h:di ah ml l4 n5 n6=some z1:=h
  unfold di at h
  refine tS<|aS<|rM J J<|rM J J<|ae.qv (ot J J) J<|rN<|cD h J (fun h=>?_) (fun h=>?_)
  ·refine tK<|aa.block<|aS<|rM J J<|rM J J<|rM J J<|rM J J<|aK h fun v7 e1 h=>bh J (jf yE (fU e1)) cR (.cons .p0 .nil) J J<|ae.ghost<|aj.eqs (s:=0) (cy:=.sl 6 aR 0 v7.length) J (congrArg (AV.sl 6 aR 0) (bP e1))<|aj.here<|ae.ghost<|aj.eqs (s:=14) (cy:=.sl 6 aR 0 v7.length) J (congrArg (AV.sl 6 aR 0) (bP e1))<|aj.here<|rN<|aS<|rM J J<|rA J J<|rN<|tR<|rM J J<|rM J J<|ae.qv (bc J J) J<|rA J J<|rN<|aa.cu<|aa.stop<|?_
   cases h
   exact k6 _ _ J<|aj.lq [0] J J J
  ·refine aa.exit J<|have h:=bT h fh;?_
   unfold hJ at h
   refine aS<|rM J J<|rM J J<|rM J J<|rM J J<|aK h fun v8 e2 h=>bh J (jf yE (fU e2)) cR (.cons .p0 .nil) J J<|ae.ghost<|aj.eqs (s:=0) (cy:=.sl 6 aR 0 v8.length) J (congrArg (AV.sl 6 aR 0) (bP e2))<|aj.here<|ae.ghost<|aj.eqs (s:=23) (cy:=.sl 6 aR 0 v8.length) J (congrArg (AV.sl 6 aR 0) (bP e2))<|aj.here<|rN<|aa.block<|aa.cw (fun x:(List Signal)×Int=>dh ah ml x.1 x.2) (fun x aH=>aH=⟨63,[(0,.sl 6 aR 0 x.1.length),(1,I ah),(2,.func (.func sF) ui),(6,I x.2)],[(aR,gi x.1)]⟩) h ?_ ?_
   ·exact aj.lq [0] J J J
   ·intro x z2 aH J2 fe h yD vr
    obtain ⟨dN,n12⟩:=x
    obtain rfl:=fe
    replace h:dh ah ml dN n12=some z2:=h
    unfold dh at h
    refine tS<|aS<|rM J J<|rM J J<|ae.qv (bE J J) J<|rN<|cD h J (fun h=>?_) (fun h=>?_)
    ·refine tK<|aa.block<|aS<|rM J J<|ae.qv (sj J J) J<|rA J J<|rA J J<|rN<|tS<|aa.block<|aa.cw (fun x:(List Signal)×Int×Int=>eR ah ml n12 x.1 x.2.1 x.2.2) (fun x aH=>aH=⟨63,[(0,.sl 6 aR 0 x.1.length),(1,I ah),(2,.func (.func sF) ui),(6,I n12),(7,I x.2.1),(8,I x.2.2)],[(aR,gi x.1)]⟩) h ?_ ?_
     ·exact aj.lq [0] J J J
     ·intro x z3 aH J3 fe h Na L1
      obtain ⟨nX,n17,n18⟩:=x
      obtain rfl:=fe
      replace h:eR ah ml n12 nX n17 n18=some z3:=h
      unfold eR at h
      refine tS<|aS<|rM J J<|rM J J<|ae.qv (ot J J) J<|rN<|cD h J (fun h=>?_) (fun h=>?_)
      ·refine tK<|aa.block<|aS<|rM J J<|rM J J<|rM J J<|rM J J<|ae.qv (bc J J) J<|rM J J<|rM J J<|aK h fun vl e3 h=>bh J (lf yE (fU e3)) cR (.cons .p0 .nil) J J<|ae.ghost<|aj.eqs (s:=0) (cy:=.sl 6 aR 0 vl.length) J (congrArg (AV.sl 6 aR 0) (bP e3))<|aj.here<|ae.ghost<|aj.eqs (s:=36) (cy:=.sl 6 aR 0 vl.length) J (congrArg (AV.sl 6 aR 0) (bP e3))<|aj.here<|rN<|aS<|rM J J<|rA J J<|rN<|tR<|rM J J<|rM J J<|ae.qv (sj J J) J<|ae.qv (bc J J) J<|rA J J<|rN<|aa.cu<|aa.stop<|?_
       cases h
       exact Na _ _ J<|aj.lq [0] J J J
      ·refine aa.exit J<|have h:=bT h L1;?_
       unfold lv at h
       refine tS<|aS<|rM J J<|rM J J<|ae.qv (bc J J) J<|rA J J<|rN<|aS<|rM J J<|rM J J<|ae.qv (bE J J) J<|rN<|aa.cut (fun aH=>∃ (mU:List Signal),eQ n12 mU=some z2∧aH=⟨63,[(0,.sl 6 aR 0 mU.length),(1,I ah),(2,.func (.func sF) ui),(6,I n12)],[(aR,gi mU)]⟩) ?_ ?_
       ·refine cD h J (fun h=>?_) (fun h=>?_)
        ·exact tR<|rM J J<|rM J J<|rM J J<|rM J J<|rM J J<|aK h fun v21 e4 h=>bh J (lf yE (fU e4)) cR (.cons .p0 .nil) J J<|ae.ghost<|aj.eqs (s:=0) (cy:=.sl 6 aR 0 v21.length) J (congrArg (AV.sl 6 aR 0) (bP e4))<|aj.here<|ae.ghost<|aj.eqs (s:=55) (cy:=.sl 6 aR 0 v21.length) J (congrArg (AV.sl 6 aR 0) (bP e4))<|aj.here<|rN<|aa.stop<|aj.lq [0] ⟨v21,h,J⟩ J J
        ·exact tK<|aa.stop<|aj.lq [0] ⟨nX,h,J⟩ J J
       ·rintro aH ⟨mU,h,rfl⟩
        unfold eQ at h
        refine tR<|rM J J<|ae.qv (sj J J) J<|rA J J<|rN<|aa.cu<|aa.stop<|?_
        cases h
        exact yD _ _ J<|aj.lq [0] J J J
    ·refine aa.exit J<|have h:=bT h vr;aa.nil<|?_
     cases h
     exact aj.here ⟨_,.nil,_,.cons .p0 .nil,⟨J,J⟩⟩
theorem om [GI:bM] {aR:Bk} {ab:List Signal} {gZ:Signal→Signal→Option Int} {gG:FuncId} [bF Tryz.prog gG] {jP:List AV} (qS:∀ {y0 y1:_} {u:Int},gZ y0 y1=some u→Pu Tryz.prog gG (Signal.av y0 :: Signal.av y1 :: jP) (I u)) {r:(List Signal)} (h:cz ab gZ=some r):aT Tryz.prog 32 [.sl 6 aR 0 ab.length,.func (.func gG) jP] [(aR,gi ab)] (T0 ([(aR,gi r)]) (.oL [])):=by
 unfold cz at h
 refine aT.fM ?_
 refine aT.bJ Tryz.func32 J Tryz.ntmps32 Tryz.results32 J J ?_
 refine tR<|rM J J<|rM J J<|ae.qv (iC J) J<|rM J J<|aK h fun v1 e1 h=>bh J (qR qS (fU e1)) cR (.cons .p0 .nil) J J<|ae.ghost<|aj.eqs (s:=0) (cy:=.sl 6 aR 0 v1.length) J (congrArg (AV.sl 6 aR 0) (bP e1))<|aj.here<|ae.ghost<|aj.eqs (s:=4) (cy:=.sl 6 aR 0 v1.length) J (congrArg (AV.sl 6 aR 0) (bP e1))<|aj.here<|ae.ghost<|aj.eqs (s:=5) (cy:=.sl 6 aR 0 v1.length) J (congrArg (AV.sl 6 aR 0) (bP e1))<|aj.here<|rN<|aa.nil<|?_
 cases h
 exact aj.here ⟨_,.nil,_,.cons .p0 .nil,⟨J,J⟩⟩
theorem iB [GI:bM] {aR:Bk} {ab:ak} {ah:Int} {r:Bool×ak} (h:fx ab ah=some r):aT Tryz.prog 11 [.ptr aR 0,I ah] [(aR,.cells [eJ ab.L,I ab.at_])] (T0 ([(aR,.cells [eJ r.2.L,I r.2.at_])]) (.bool r.1)):=by
 unfold fx at h
 refine aT.fM ?_
 refine aT.bJ Tryz.func11 J Tryz.ntmps11 Tryz.results11 J J ?_
 refine aS<|rA J J<|rN<|aS<|rM J J<|rM J J<|aK h fun v1 e1 h=>bh J (fR e1) cR (.cons .p0 .nil) J J<|ae.qv (cL J J) J<|rA J J<|rN<|aa.ret<|?_
 cases h
 exact hH J [0] J ⟨J,J⟩
theorem xe [GI:bM] {ab:Signal} {ah:Signal} {r:Bool} (h:kq ab ah=some r):Pu Tryz.prog 35 [Signal.av ab,Signal.av ah] (.bool r):=by
 unfold kq at h
 refine aT.bJ Tryz.func35 J Tryz.ntmps35 Tryz.results35 J J ?_
 refine aS<|gn J J J J fun b1=>gn J J J J fun b2=>rA J J<|rN<|aS<|ae.qv (bq J J .p1 J) J<|ae.qv (bq J J .p0 J) J<|aK h fun v3 e1 h=>bB J (rk e1) cR J<|ae.qv (cL J J) J<|rA J J<|rN<|aa.ret<|?_
 cases h
 exact hP J J
theorem o0 [GI:bM] {aR:Bk} {ab:List Signal} {gZ:Signal→Signal→Option Bool} {gG:FuncId} [bF Tryz.prog gG] {jP:List AV} (qS:∀ {y0 y1:_} {u:Bool},gZ y0 y1=some u→Pu Tryz.prog gG (Signal.av y0 :: Signal.av y1 :: jP) (.bool u)) {r:(List Signal)} (h:ed ab gZ=some r):aT Tryz.prog 34 [.sl 6 aR 0 ab.length,.func (.func gG) jP] [(aR,gi ab)] (T1 (fun sG=>[(sG,gi r)]) (fun sG=>.sl 6 sG 0 r.length)):=by
 unfold ed at h
 refine aT.fM ?_
 refine aT.bJ Tryz.func34 J Tryz.ntmps34 Tryz.results34 J J ?_
 refine aS<|rA J J<|rN<|tS<|aS<|rM J J<|ae.qv (iC J) J<|ae.qv (bE J J) J<|rN<|cD h J (fun h=>?_) (fun h=>?_)
 ·refine aS<|rM J J<|rA J J<|rN<|aa.ret<|?_
  cases h
  exact hH J [0] J ⟨aR,J,J⟩
 ·refine tK<|tS<|aS<|rA J J<|rN<|aa.block<|aa.cw (fun x:Int=>dt ab gZ x) (fun x aH=>aH=⟨66,[(0,.sl 6 aR 0 ab.length),(1,.func (.func gG) jP),(5,I x)],[(aR,gi ab)]⟩) h ?_ ?_
  ·exact aj.lq [0] J J J
  ·intro n2 z1 aH J1 fe h k6 fh
   obtain rfl:=fe
   replace h:dt ab gZ n2=some z1:=h
   unfold dt at h
   refine tS<|aS<|rM J J<|rM J J<|ae.qv (iC J) J<|ae.qv (bE J J) J<|rN<|cD h J (fun h=>?_) (fun h=>?_)
   ·refine tK<|tS<|aa.block<|tS<|aa.bS (id:=6) (A:=[0,0,0,6,14,0,0,64,224,480,1023]) 11 mixed J (by kernel_rfl) (by kernel_rfl)<|AM.qv (ax J) J<|AM.qv (ax J) J<|AM.qv (ax J) J<|aK h fun v3 e1 h=>AM.qv (ba J J J e1) J<|AM.qv (aZ (g:=Signal.av) J J (.inl .p0) J e1 J) J<|AM.qv (ax J) J<|AM.qv (ax J) J<|AM.qv (bK J J) J<|aK h fun v4 e2 h=>AM.qv (ba J J J e2) J<|AM.qv (aZ (g:=Signal.av) J J (.inl .p0) J e2 J) J<|aK h fun v5 e3 h=>AM.tG J J (qS e3) cR J<|AM.nil<|rN<|cB h J (fun h=>?_) (fun h=>?_)
    ·refine aS<|rM J J<|rM J J<|aK h fun l6 e4 h=>ae.qv (sy J J (.some _ _ _ J) .none J J e4) J<|rA J J<|rN<|tS<|aS<|rA J J<|rN<|aa.block<|aa.cw (fun x:(List Signal)×Int×Int=>dq gZ n2 l6 x.1 x.2.1 x.2.2) (fun x aH=>aH=⟨66,[(0,.sl 6 aR 0 x.1.length),(1,.func (.func gG) jP),(5,I x.2.1),(6,.sl 6 aR n2.toNat l6.length),(7,I x.2.2)],[(aR,gi x.1)]⟩) h ?_ ?_
     ·exact aj.lq [0] J J J
     ·intro x z2 aH J2 fe h yD vr
      obtain ⟨l10,n11,n12⟩:=x
      obtain rfl:=fe
      replace h:dq gZ n2 l6 l10 n11 n12=some z2:=h
      unfold dq at h
      refine tS<|aS<|rM J J<|rM J J<|ae.qv (IH J) J<|ae.qv (bE J J) J<|rN<|cD h J (fun h=>?_) (fun h=>?_)
      ·refine tK<|tS<|aa.block<|tS<|aa.bS (id:=11) (A:=[0,0,0,6,14,0,0,64,224,480,1023,2047]) 12 mixed J (by kernel_rfl) (by kernel_rfl)<|AM.qv (ax J) J<|AM.qv (ax J) J<|AM.qv (ax J) J<|aK h fun fo e5 h=>AM.qv (vN (L:=n2) J J J e5) J<|AM.qv (aZ (g:=Signal.av) J J (.inl .p0) J (wK e5).2 J) J<|AM.qv (ax J) J<|AM.qv (ax J) J<|AM.qv (bK J J) J<|aK h fun gR e6 h=>AM.qv (vN (L:=n2) J J J e6) J<|AM.qv (aZ (g:=Signal.av) J J (.inl .p0) J (wK e6).2 J) J<|aK h fun ll e7 h=>AM.tG J J (qS e7) cR J<|AM.qv (eF J) J<|AM.nil<|rN<|aa.cut (fun aH=>∃ (nX:List Signal) (n17:Int),dp n12 nX n17=some z2∧aH=⟨66,[(0,.sl 6 aR 0 nX.length),(1,.func (.func gG) jP),(5,I n17),(6,.sl 6 aR n2.toNat l6.length),(7,I n12)],[(aR,gi nX)]⟩) ?_ ?_
       ·refine cB h J (fun h=>?_) (fun h=>?_)
        ·exact aS<|rM J J<|rM J J<|rM J J<|rM J J<|aK h fun zC e8 h=>ae.qv (vN (L:=n2) J J J e8) J<|ae.qv (aZ (g:=Signal.av) J J (.inl .p0) J (wK e8).2 J) J<|aK h fun vl e9 h=>ae.qv (ba J J J e9) J<|bz (g:=Signal.av) (uy:=zC) J J J J e9 J .p0 J<|ae.ghost<|aj.eqs (s:=0) (cy:=.sl 6 aR 0 (l10.set n11.toNat zC).length) J (by rw [List.length_set])<|aj.here<|ae.ghost<|aj.eqs (s:=50) (cy:=.sl 6 aR 0 (l10.set n11.toNat zC).length) J (by rw [List.length_set])<|aj.here<|rN<|tR<|rM J J<|ae.qv (bc J J) J<|rA J J<|rN<|aa.stop<|aj.lq [0] ⟨l10.set n11.toNat zC,aL (n11+(1:Int)),h,J⟩ J J
        ·exact tK<|aa.stop<|aj.lq [0] ⟨l10,n11,h,J⟩ J J
       ·rintro aH ⟨nX,n17,h,rfl⟩
        unfold dp at h
        refine aa.cu<|tR<|rM J J<|ae.qv (bc J J) J<|rA J J<|rN<|aa.stop<|?_
        cases h
        exact yD _ _ J<|aj.lq [0] J J J
      ·refine aa.exit J<|have h:=bT h vr;?_
       unfold jn at h
       refine aS<|rM J J<|rM J J<|aK h fun mU xd h=>ae.qv (sy J J (.some _ _ _ J) .none J J xd) J<|Hy (g:=Signal.av) (Z:=(⟨(0:Int),(0:Int),[],[],[],(0:Int)⟩:Signal)) (L:=n11) J J J J J J xd .p0<|ae.ghost<|aj.eqs (s:=0) (cy:=.sl 6 aR 0 (Dc l10 n11 mU.length (⟨(0:Int),(0:Int),[],[],[],(0:Int)⟩:Signal)).length) J (congrArg (AV.sl 6 aR 0) (yl xd))<|aj.here<|ae.ghost<|aj.eqs (s:=59) (cy:=.sl 6 aR 0 (Dc l10 n11 mU.length (⟨(0:Int),(0:Int),[],[],[],(0:Int)⟩:Signal)).length) J (congrArg (AV.sl 6 aR 0) (yl xd))<|aj.here<|rN<|aS<|rM J J<|rM J J<|aK h fun xp Cs h=>ae.qv (sy J J .none (.some _ _ _ J) J J Cs) J<|rA J J<|ae.ghost<|aj.N5 Cs .p0<|aj.here<|rN<|aa.ret<|have h:=bT h fh;?_
       cases h
       exact hH J [0] J ⟨aR,J,J⟩
    ·refine tK<|aa.cu<|tR<|rM J J<|ae.qv (bc J J) J<|rA J J<|rN<|aa.stop<|?_
     cases h
     exact k6 _ _ J<|aj.lq [0] J J J
   ·refine aa.exit J<|have h:=bT h fh;aS<|rM J J<|rA J J<|rN<|aa.ret<|?_
    cases h
    exact hH J [0] J ⟨aR,J,J⟩
theorem yF [GI:bM] {aR:Bk} {ab:ak} {ah:Int} {ao:Int} {r:Int×ak} (h:oV ab ah ao=some r):aT Tryz.prog 36 [.ptr aR 0,I ah,I ao] [(aR,.cells [eJ ab.L,I ab.at_])] (T0 ([(aR,.cells [eJ r.2.L,I r.2.at_])]) (I r.1)):=by
 unfold oV at h
 refine aT.fM ?_
 refine aT.bJ Tryz.func36 J Tryz.ntmps36 Tryz.results36 J J ?_
 refine aS<|rA J J<|rN<|tS<|aS<|rM J J<|aK h fun v1 e1 h=>bh J (iB e1) cR (.cons .p0 .nil) J J<|rN<|cB h J (fun h=>?_) (fun h=>?_)
 ·refine aS<|rM J J<|rM J J<|ae.qv (bK J J) J<|rM J J<|ae.qv (bc J J) J<|rM J J<|rM J J<|bj (xs:=([aL (ah - (1:Int)),aL (ao+(1:Int)),ah,ao,(-1099511627776:Int),(1099511627776:Int)]).map I) J J J J J J<|aK h fun v2 e2 h=>bh J (bW e2) cR (.cons .p0 .nil) J J<|rA J J<|rN<|aa.ret<|?_
  cases h
  exact hH J [0] J ⟨J,J⟩
 ·refine tK<|aS<|rM J J<|rM J J<|rM J J<|aK h fun v3 e3 h=>bh J (sE e3) cR (.cons .p0 .nil) J J<|rA J J<|rN<|aa.ret<|?_
  cases h
  exact hH J [0] J ⟨J,J⟩
theorem zD [GI:bM] {aR:Bk} {ab:ak} {ah:Int} {ao:Bool} {r:(List Signal)×ak} (h:np ab ah ao=some r):aT Tryz.prog 4 [.ptr aR 0,I ah,.bool ao] [(aR,.cells [eJ ab.L,I ab.at_])] (T1 (fun sG=>[(aR,.cells [eJ r.2.L,I r.2.at_]),(sG,gi r.1)]) (fun sG=>.sl 6 sG 0 r.1.length)):=by
 unfold np at h
 refine aT.fM ?_
 refine aT.bJ Tryz.func4 J Tryz.ntmps4 Tryz.results4 J J ?_
 refine aS<|rA J J<|rN<|aS<|rA J J<|rN<|aS<|rM J J<|aK h fun v1 e1 h=>bh J (fR e1) cR (.cons .p0 .nil) J J<|rA J J<|rN<|tS<|aS<|rM J J<|rM J J<|rN<|aa.block<|aa.cw (fun x:(List Int)×Int×(List Signal)×Int×Int=>ku ah ao x.1 x.2.1 x.2.2.1 x.2.2.2.1 x.2.2.2.2) (fun x aH=>∃ (mF:Bk),aH=⟨124,[(0,.ptr aR 0),(2,.bool ao),(7,.sl 6 mF 0 x.2.2.1.length),(8,I x.2.2.2.1),(13,I ah),(14,I x.2.2.2.2)],[(aR,.cells [eJ x.1,I x.2.1]),(mF,gi x.2.2.1)]⟩) h ?_ ?_
 ·exact aj.arr (s:=7) 6 J fun xf=>aj.lq [1,0] ⟨xf,J⟩ J J
 ·intro x z1 aH J1 fe h k6 fh
  obtain ⟨l8,n9,dN,n12,n13⟩:=x
  obtain ⟨mF,rfl⟩:=fe
  replace h:ku ah ao l8 n9 dN n12 n13=some z1:=h
  unfold ku at h
  refine aS<|ae.qv (bE J J) J<|rN<|tS<|cD h J (fun h=>?_) (fun h=>?_)
  ·refine tK<|tS<|aa.block<|aS<|rM J J<|rM J J<|bj (xs:=([(1:Int),(1:Int),(2:Int),(2:Int),(3:Int),(3:Int),(4:Int),(5:Int)]).map I) J J J J J J<|aK h fun ll e2 h=>bh J (bW e2) cR (.cons .p0 .nil) J J<|rM J J<|bj (xs:=([([100,97]:bO),([100,97]:bO),([100,98]:bO),([100,103]:bO)]).map AV.str) J J J J J J<|aK h fun xo e3 h=>bh J (fS e3) cR (.cons .p0 .nil) J J<|rM J J<|bj (xs:=([([114,97]:bO),([114,97]:bO),([114,98]:bO)]).map AV.str) J J J J J J<|aK h fun v17 e4 h=>bh J (fS e4) cR (.cons .p0 .nil) J J<|ae.qv (cJ J J J J J) J<|ct J J J J fun zk=>aQ J J J J .p0 J J<|rN<|tS<|aS<|rM J J<|rN<|aa.cut (fun aH=>∃ (sB:List Int) (n20:Int) (n21:Int),iO dN n12 n13 xo v17 sB n20 n21=some z1∧aH=⟨124,[(0,.ptr aR 0),(2,.bool ao),(7,.sl 6 mF 0 dN.length),(8,I n12),(9,.ptr zk 0),(13,I ah),(14,I n13)],[(aR,.cells [eJ sB,I n20]),(mF,gi dN),(zk,.cells [I n12,I n21,.str xo.1,.str v17.1,.str [],I (0:Int)])]⟩) ?_ ?_
   ·refine cB h J (fun h=>?_) (fun h=>?_)
    ·exact tR<|rM J J<|bj (xs:=([(3:Int),(3:Int),(4:Int),(5:Int)]).map I) J J J J J J<|aK h fun v22 e5 h=>bh J (bW e5) cR (.cons .p1 .nil) J J<|rF J J J<|aQ J J J J .p1 J J<|rN<|aa.stop<|aj.lq [0,1,0] ⟨v22.2.L,v22.2.at_,v22.1,h,J⟩ J J
    ·exact tK<|aa.stop<|aj.lq [1,1,0] ⟨v17.2.L,v17.2.at_,ll.1,h,J⟩ J J
   ·rintro aH ⟨sB,n20,n21,h,rfl⟩
    unfold iO at h
    refine tS<|aS<|rF J J J<|rL J J .p2 J J<|ae.qv (tb J J) J<|rN<|aa.cut (fun aH=>∃ (ri:List Int) (n24:Int) (IU:bO),iN dN n12 n13 xo v17 n21 ri n24 IU=some z1∧aH=⟨124,[(0,.ptr aR 0),(2,.bool ao),(7,.sl 6 mF 0 dN.length),(8,I n12),(9,.ptr zk 0),(13,I ah),(14,I n13)],[(aR,.cells [eJ ri,I n24]),(mF,gi dN),(zk,.cells [I n12,I n21,.str xo.1,.str v17.1,.str IU,I (0:Int)])]⟩) ?_ ?_
    ·refine cD h J (fun h=>?_) (fun h=>?_)
     ·exact tR<|rM J J<|bj (xs:=([([97,110,110]:bO),([98,111,98]:bO)]).map AV.str) J J J J J J<|aK h fun v26 e6 h=>bh J (fS e6) cR (.cons .p0 .nil) J J<|rF J J J<|aQ J J J J .p2 J J<|rN<|aa.stop<|aj.lq [0,0,0] ⟨v26.2.L,v26.2.at_,v26.1,h,J⟩ J J
     ·exact tK<|aa.stop<|aj.lq [0,0,0] ⟨sB,n20,[],h,J⟩ J J
    ·rintro aH ⟨ri,n24,IU,h,rfl⟩
     unfold iN at h
     refine tS<|aS<|rF J J J<|rL J J .p2 J J<|ae.qv (cL J J) J<|rN<|aa.cut (fun aH=>∃ (FJ:List Int) (n28:Int) (n29:Int),iM dN n12 n13 xo v17 n21 IU FJ n28 n29=some z1∧aH=⟨124,[(0,.ptr aR 0),(2,.bool ao),(7,.sl 6 mF 0 dN.length),(8,I n12),(9,.ptr zk 0),(13,I ah),(14,I n13)],[(aR,.cells [eJ FJ,I n28]),(mF,gi dN),(zk,.cells [I n12,I n21,.str xo.1,.str v17.1,.str IU,I n29])]⟩) ?_ ?_
     ·refine cD h J (fun h=>?_) (fun h=>?_)
      ·exact tR<|rM J J<|rM J J<|bj (xs:=([(1:Int),(10:Int),(50:Int)]).map I) J J J J J J<|aK h fun v30 e7 h=>bh J (bW e7) cR (.cons .p0 .nil) J J<|ae.qv (bc J J) J<|rF J J J<|aQ J J J J .p2 J J<|rN<|aa.stop<|aj.lq [0,0,0] ⟨v30.2.L,v30.2.at_,aL (n12+v30.1),h,J⟩ J J
      ·exact tK<|aa.stop<|aj.lq [0,0,0] ⟨ri,n24,(0:Int),h,J⟩ J J
     ·rintro aH ⟨FJ,n28,n29,h,rfl⟩
      unfold iM at h
      refine aS<|rM J J<|ae.qv (bq J J .p2 J) J<|bj (xs:=([(⟨n12,n21,xo.1,v17.1,IU,n29⟩:Signal)]).map Signal.av) J J J J J J<|aK h fun RN e8 h=>eK (g:=Signal.av) J J J J J J J J (.list _) e8 (fun _=>.p1) J fun VH=>rA J J<|rN<|tR<|rM J J<|rM J J<|bj (xs:=([(0:Int),(1:Int),(3:Int),(10:Int),(40:Int)]).map I) J J J J J J<|aK h fun v33 e9 h=>bh J (bW e9) cR (.cons .p0 .nil) J J<|ae.qv (bc J J) J<|rA J J<|rN<|aa.cu<|tR<|ae.qv (bc J J) J<|rM J J<|rN<|aa.stop<|?_
      cases h
      exact k6 _ _ J<|aj.lq [0,0] ⟨VH,J⟩ J J
  ·refine aa.exit J<|have h:=bT h fh;?_
   unfold pG at h
   refine aS<|rM J J<|aK h fun EO xd h=>bh J (om (fun e=>rk e) (fU xd)) cR (.cons .p1 .nil) J J<|ae.ghost<|aj.eqs (s:=7) (cy:=.sl 6 mF 0 EO.length) J (congrArg (AV.sl 6 mF 0) (bP xd))<|aj.here<|ae.ghost<|aj.eqs (s:=58) (cy:=.sl 6 mF 0 EO.length) J (congrArg (AV.sl 6 mF 0) (bP xd))<|aj.here<|rN<|tS<|aS<|rM J J<|aK h fun v35 Cs h=>bh J (iB Cs) cR (.cons .p1 .nil) J J<|ae.qv (eF J) J<|rN<|aa.cut (fun aH=>∃ (qZ:Bk) (nY:List Signal),iQ v35 nY=some r∧aH=⟨124,[(0,.ptr aR 0),(7,.sl 6 qZ 0 nY.length)],[(aR,.cells [eJ v35.2.L,I v35.2.at_]),(qZ,gi nY)]⟩) ?_ ?_
   ·refine cB h J (fun h=>?_) (fun h=>?_)
    ·exact tR<|rM J J<|aK h fun Of zj h=>pt J (o0 (fun e=>xe e) zj) cR (.cons .p1 .nil) (fun _=>J) J fun KL=>rA J J<|rN<|aa.stop<|aj.lq [1,0] ⟨KL,Of,h,J⟩ J J
    ·exact tK<|aa.stop<|aj.lq [0,0] ⟨mF,EO,h,J⟩ J J
   ·rintro aH ⟨qZ,nY,h,rfl⟩
    unfold iQ at h
    refine tS<|tS<|aa.cut (fun aH=>∃ (Cq:List Int) (n41:Int) (RO:Bool),iP nY Cq n41 RO=some r∧aH=⟨124,[(0,.ptr aR 0),(7,.sl 6 qZ 0 nY.length),(71,.bool RO)],[(aR,.cells [eJ Cq,I n41]),(qZ,gi nY)]⟩) ?_ ?_
    ·refine tR<|rM J J<|ae.qv (iC J) J<|ae.qv (fW J J) J<|rM J J<|gT h J J J (fun h=>?_) (fun h=>?_)
     ·exact rM J J<|rY J J J<|aK h fun wR IV h=>bh J (iB IV) cR (.cons .p0 .nil) J J<|rT J J J<|rN<|aa.stop<|aj.lq [0,0] ⟨wR.2.L,wR.2.at_,wR.1,h,J⟩ J J
     ·exact rG J J J J<|rE J J J<|rN<|aa.stop<|aj.lq [0,0] ⟨v35.2.L,v35.2.at_,false,h,J⟩ J J
    ·rintro aH ⟨Cq,n41,RO,h,rfl⟩
     unfold iP at h
     refine aa.cut (fun aH=>∃ (AB:List Int) (n45:Int) (HL:List Signal),kr AB n45 HL=some r∧aH=⟨124,[(7,.sl 6 qZ 0 HL.length)],[(aR,.cells [eJ AB,I n45]),(qZ,gi HL)]⟩) ?_ ?_
     ·refine cB h J (fun h=>?_) (fun h=>?_)
      ·refine aS<|rM J J<|rM J J<|rM J J<|ae.qv (iC J) J<|aK h fun kW KK h=>bh J (fR KK) cR (.cons .p0 .nil) J J<|aK h fun bQ Dr h=>ae.qv (ba J J J Dr) J<|rA J J<|rN<|aK h fun v49 Nb h=>aK h fun v50 Nc h=>aK h fun v51 IW h=>aK h fun CG IX h=>aa.fT (id:=20) (A:=[0,0,0,0,0,0,32,96,224,480,1008,0,4080,0,0,16384,49152,114688,245760,524272,0,0,2097152,6291456,14680064,0,33554432,100663296,234881024,0,536870912,1610612736,3758096384,8053063680,16642998272,34357641216,68719476720,137438953457,274877906929,549755813873,1099511627763,2199023255539,4398046511091,8796093022199,17592186044407,35184372088823,70368744177663,140737488355327,281474976710655]) (H0:=[(aR,.cells [eJ kW.2.L,I kW.2.at_]),(qZ,gi nY)]) (HH:=fun β=>[(aR,.cells [eJ CG.2.L,I CG.2.at_]),(qZ,gi (((nY.set kW.1.toNat (⟨v49.1,bQ.Kind,bQ.Device,bQ.bg,bQ.By,bQ.bu⟩:Signal)).set kW.1.toNat (⟨v49.1,v50.1,bQ.Device,bQ.bg,bQ.By,bQ.bu⟩:Signal)).set kW.1.toNat (⟨v49.1,v50.1,bQ.Device,bQ.bg,v51.1,bQ.bu⟩:Signal)))]) 46 mixed J (by kernel_rfl) (by kernel_rfl) [⟨none,some 10,[],fun _=>(aR,.cells [eJ kW.2.L,I kW.2.at_]),none,[]⟩,⟨none,some 39,[8,17,24,28,32],fun _=>(qZ,gi nY),none,[]⟩,⟨some 10,some 12,[],fun _=>(aR,.cells [eJ v49.2.L,I v49.2.at_]),none,[]⟩,⟨some 12,some 19,[],fun _=>(aR,.cells [eJ v50.2.L,I v50.2.at_]),none,[]⟩,⟨some 19,some 36,[],fun _=>(aR,.cells [eJ v51.2.L,I v51.2.at_]),none,[]⟩,⟨some 36,none,[],fun _=>(aR,.cells [eJ CG.2.L,I CG.2.at_]),none,[]⟩,⟨some 39,some 42,[],fun _=>(qZ,gi (nY.set kW.1.toNat (⟨v49.1,bQ.Kind,bQ.Device,bQ.bg,bQ.By,bQ.bu⟩:Signal))),none,[]⟩,⟨some 42,some 45,[],fun _=>(qZ,gi ((nY.set kW.1.toNat (⟨v49.1,bQ.Kind,bQ.Device,bQ.bg,bQ.By,bQ.bu⟩:Signal)).set kW.1.toNat (⟨v49.1,v50.1,bQ.Device,bQ.bg,bQ.By,bQ.bu⟩:Signal))),none,[]⟩,⟨some 45,none,[],fun _=>(qZ,gi (((nY.set kW.1.toNat (⟨v49.1,bQ.Kind,bQ.Device,bQ.bg,bQ.By,bQ.bu⟩:Signal)).set kW.1.toNat (⟨v49.1,v50.1,bQ.Device,bQ.bg,bQ.By,bQ.bu⟩:Signal)).set kW.1.toNat (⟨v49.1,v50.1,bQ.Device,bQ.bg,v51.1,bQ.bu⟩:Signal))),none,[]⟩] [] J (by kernel_rfl) J (.cons .p0 (.cons .p0 .nil)) (fun _=>J)<|AT.am 8 J J<|AM.qv (ax J) J<|AM.qv (ax J) J<|AM.qv (ax J) J<|AM.qv (ax J) J<|AM.qv (ax J) J<|AM.qv (ax J) J<|AM.qv (bD J) J<|AM.qv (bI J J) J<|AM.nil<|AT.rd (Rs:=[(qZ,gi nY)]) (fun _=>J) J (fun _=>J) (fun _=>J) (fw (g:=Signal.av) J J (.inl .p0) Dr J) J<|AT.am 1 J J<|AM.bL (xs:=([bQ.At,(-1:Int),(345686400000:Int)]).map I) J J J J J J<|AM.nil<|AT.Ay (av:=I v49.1) (Ti:=[(aR,.cells [eJ kW.2.L,I kW.2.at_])]) (Pi:=[(aR,.cells [eJ v49.2.L,I v49.2.at_])]) (fun _=>J) (fun _=>J) (fun _=>J) J J J ?_ ?_
       ·exact bh J (bW Nb) cR (.cons .p0 .nil) J J<|ae.nil ⟨_,J,J⟩
       refine AT.am 1 J J<|AM.qv (ax J) J<|AM.nil<|AT.Ay (av:=I v50.1) (Ti:=[(aR,.cells [eJ v49.2.L,I v49.2.at_])]) (Pi:=[(aR,.cells [eJ v50.2.L,I v50.2.at_])]) (fun _=>J) (fun _=>J) (fun _=>J) J J J ?_ ?_
       ·exact bh J (yF Nc) cR (.cons .p0 .nil) J J<|ae.nil ⟨_,J,J⟩
       refine AT.am 4 J J<|AM.qv (ax J) J<|AM.qv (ax J) J<|AM.qv (bD J) J<|AM.qv (bI J J) J<|AM.nil<|AT.rd (Rs:=[(qZ,gi nY)]) (fun _=>J) J (fun _=>J) (fun _=>J) (fw (g:=Signal.av) J J (.inl .p0) Dr J) J<|AT.am 1 J J<|AM.bL (xs:=([bQ.By,([]:bO),([65]:bO)]).map AV.str) J J J J J J<|AM.nil<|AT.Ay (av:=.str v51.1) (Ti:=[(aR,.cells [eJ v50.2.L,I v50.2.at_])]) (Pi:=[(aR,.cells [eJ v51.2.L,I v51.2.at_])]) (fun _=>J) (fun _=>J) (fun _=>J) J J J ?_ ?_
       ·exact bh J (fS IW) cR (.cons .p0 .nil) J J<|ae.nil ⟨_,J,J⟩
       refine AT.am 4 J J<|AM.qv (ax J) J<|AM.qv (ax J) J<|AM.qv (bD J) J<|AM.qv (bI J J) J<|AM.nil<|AT.rd (Rs:=[(qZ,gi nY)]) (fun _=>J) J (fun _=>J) (fun _=>J) (fw (g:=Signal.av) J J (.inl .p0) Dr J) J<|AT.am 3 J J<|AM.qv (ax J) J<|AM.qv (bD J) J<|AM.qv (bI J J) J<|AM.nil<|AT.rd (Rs:=[(qZ,gi nY)]) (fun _=>J) J (fun _=>J) (fun _=>J) (fw (g:=Signal.av) J J (.inl .p0) Dr J) J<|AT.am 3 J J<|AM.qv (ax J) J<|AM.qv (bD J) J<|AM.qv (bI J J) J<|AM.nil<|AT.rd (Rs:=[(qZ,gi nY)]) (fun _=>J) J (fun _=>J) (fun _=>J) (fw (g:=Signal.av) J J (.inl .p0) Dr J) J<|AT.am 3 J J<|AM.qv (bc J J) J<|AM.qv (bc J J) J<|AM.bL (xs:=([bQ.bu,(0:Int),bQ.At,aL ((aL (bQ.At+(2592000000:Int)))+(1:Int))]).map I) J J J J J J<|AM.nil<|AT.Ay (av:=I CG.1) (Ti:=[(aR,.cells [eJ v51.2.L,I v51.2.at_])]) (Pi:=[(aR,.cells [eJ CG.2.L,I CG.2.at_])]) (fun _=>J) (fun _=>J) (fun _=>J) J J J ?_ ?_
       ·exact bh J (bW IX) cR (.cons .p0 .nil) J J<|ae.nil ⟨_,J,J⟩
       refine AT.am 2 J J<|AM.qv (bD J) J<|AM.qv (bI J J) J<|AM.nil<|AT.xa (Ti:=[(qZ,gi nY)]) (Pi:=[(qZ,gi (nY.set kW.1.toNat (⟨v49.1,bQ.Kind,bQ.Device,bQ.bg,bQ.By,bQ.bu⟩:Signal)))]) (fun _=>J) (fun _=>J) (fun _=>J) J J ?_ ?_
       ·exact bz (g:=Signal.av) (uy:=(⟨v49.1,bQ.Kind,bQ.Device,bQ.bg,bQ.By,bQ.bu⟩:Signal)) J J J J Dr J .p0 J<|ae.nil ⟨_,J⟩
       refine AT.am 2 J J<|AM.qv (bD J) J<|AM.qv (bI J J) J<|AM.nil<|AT.xa (Ti:=[(qZ,gi (nY.set kW.1.toNat (⟨v49.1,bQ.Kind,bQ.Device,bQ.bg,bQ.By,bQ.bu⟩:Signal)))]) (Pi:=[(qZ,gi ((nY.set kW.1.toNat (⟨v49.1,bQ.Kind,bQ.Device,bQ.bg,bQ.By,bQ.bu⟩:Signal)).set kW.1.toNat (⟨v49.1,v50.1,bQ.Device,bQ.bg,bQ.By,bQ.bu⟩:Signal)))]) (fun _=>J) (fun _=>J) (fun _=>J) J J ?_ ?_
       ·exact bz (g:=Signal.av) (uy:=(⟨v49.1,v50.1,bQ.Device,bQ.bg,bQ.By,bQ.bu⟩:Signal)) J J J J (dw (v:=(⟨v49.1,bQ.Kind,bQ.Device,bQ.bg,bQ.By,bQ.bu⟩:Signal)) Dr) J .p0 J<|ae.nil ⟨_,J⟩
       refine AT.am 2 J J<|AM.qv (bD J) J<|AM.qv (bI J J) J<|AM.nil<|AT.xa (Ti:=[(qZ,gi ((nY.set kW.1.toNat (⟨v49.1,bQ.Kind,bQ.Device,bQ.bg,bQ.By,bQ.bu⟩:Signal)).set kW.1.toNat (⟨v49.1,v50.1,bQ.Device,bQ.bg,bQ.By,bQ.bu⟩:Signal)))]) (Pi:=[(qZ,gi (((nY.set kW.1.toNat (⟨v49.1,bQ.Kind,bQ.Device,bQ.bg,bQ.By,bQ.bu⟩:Signal)).set kW.1.toNat (⟨v49.1,v50.1,bQ.Device,bQ.bg,bQ.By,bQ.bu⟩:Signal)).set kW.1.toNat (⟨v49.1,v50.1,bQ.Device,bQ.bg,v51.1,bQ.bu⟩:Signal)))]) (fun _=>J) (fun _=>J) (fun _=>J) J J ?_ ?_
       ·exact bz (g:=Signal.av) (uy:=(⟨v49.1,v50.1,bQ.Device,bQ.bg,v51.1,bQ.bu⟩:Signal)) J J J J (dw (v:=(⟨v49.1,v50.1,bQ.Device,bQ.bg,bQ.By,bQ.bu⟩:Signal)) (dw (v:=(⟨v49.1,bQ.Kind,bQ.Device,bQ.bg,bQ.By,bQ.bu⟩:Signal)) Dr)) J .p0 J<|ae.nil ⟨_,J⟩
       exact AT.rb (fun _=>J) fun β=>ae.ghost<|aj.eqs (s:=7) (cy:=.sl 6 qZ 0 (((nY.set kW.1.toNat (⟨v49.1,bQ.Kind,bQ.Device,bQ.bg,bQ.By,bQ.bu⟩:Signal)).set kW.1.toNat (⟨v49.1,v50.1,bQ.Device,bQ.bg,bQ.By,bQ.bu⟩:Signal)).set kW.1.toNat (⟨v49.1,v50.1,bQ.Device,bQ.bg,v51.1,bQ.bu⟩:Signal)).length) J (by simp)<|aj.here<|ae.ghost<|aj.eqs (s:=72) (cy:=.sl 6 qZ 0 (((nY.set kW.1.toNat (⟨v49.1,bQ.Kind,bQ.Device,bQ.bg,bQ.By,bQ.bu⟩:Signal)).set kW.1.toNat (⟨v49.1,v50.1,bQ.Device,bQ.bg,bQ.By,bQ.bu⟩:Signal)).set kW.1.toNat (⟨v49.1,v50.1,bQ.Device,bQ.bg,v51.1,bQ.bu⟩:Signal)).length) J (by simp)<|aj.here<|ae.ghost<|aj.eqs (s:=74) (cy:=.sl 6 qZ 0 (((nY.set kW.1.toNat (⟨v49.1,bQ.Kind,bQ.Device,bQ.bg,bQ.By,bQ.bu⟩:Signal)).set kW.1.toNat (⟨v49.1,v50.1,bQ.Device,bQ.bg,bQ.By,bQ.bu⟩:Signal)).set kW.1.toNat (⟨v49.1,v50.1,bQ.Device,bQ.bg,v51.1,bQ.bu⟩:Signal)).length) J (by simp)<|aj.here<|ae.qv (bD J) J<|ae.qv (bI J J) J<|bz (g:=Signal.av) (uy:=(⟨v49.1,v50.1,bQ.Device,bQ.bg,v51.1,CG.1⟩:Signal)) J J J J (dw (v:=(⟨v49.1,v50.1,bQ.Device,bQ.bg,v51.1,bQ.bu⟩:Signal)) (dw (v:=(⟨v49.1,v50.1,bQ.Device,bQ.bg,bQ.By,bQ.bu⟩:Signal)) (dw (v:=(⟨v49.1,bQ.Kind,bQ.Device,bQ.bg,bQ.By,bQ.bu⟩:Signal)) Dr))) J .p1 J<|ae.ghost<|aj.eqs (s:=7) (cy:=.sl 6 qZ 0 ((((nY.set kW.1.toNat (⟨v49.1,bQ.Kind,bQ.Device,bQ.bg,bQ.By,bQ.bu⟩:Signal)).set kW.1.toNat (⟨v49.1,v50.1,bQ.Device,bQ.bg,bQ.By,bQ.bu⟩:Signal)).set kW.1.toNat (⟨v49.1,v50.1,bQ.Device,bQ.bg,v51.1,bQ.bu⟩:Signal)).set kW.1.toNat (⟨v49.1,v50.1,bQ.Device,bQ.bg,v51.1,CG.1⟩:Signal)).length) J (by rw [List.length_set])<|aj.here<|ae.ghost<|aj.eqs (s:=72) (cy:=.sl 6 qZ 0 ((((nY.set kW.1.toNat (⟨v49.1,bQ.Kind,bQ.Device,bQ.bg,bQ.By,bQ.bu⟩:Signal)).set kW.1.toNat (⟨v49.1,v50.1,bQ.Device,bQ.bg,bQ.By,bQ.bu⟩:Signal)).set kW.1.toNat (⟨v49.1,v50.1,bQ.Device,bQ.bg,v51.1,bQ.bu⟩:Signal)).set kW.1.toNat (⟨v49.1,v50.1,bQ.Device,bQ.bg,v51.1,CG.1⟩:Signal)).length) J (by rw [List.length_set])<|aj.here<|ae.ghost<|aj.eqs (s:=74) (cy:=.sl 6 qZ 0 ((((nY.set kW.1.toNat (⟨v49.1,bQ.Kind,bQ.Device,bQ.bg,bQ.By,bQ.bu⟩:Signal)).set kW.1.toNat (⟨v49.1,v50.1,bQ.Device,bQ.bg,bQ.By,bQ.bu⟩:Signal)).set kW.1.toNat (⟨v49.1,v50.1,bQ.Device,bQ.bg,v51.1,bQ.bu⟩:Signal)).set kW.1.toNat (⟨v49.1,v50.1,bQ.Device,bQ.bg,v51.1,CG.1⟩:Signal)).length) J (by rw [List.length_set])<|aj.here<|rN<|aa.stop<|aj.lq [0,0] ⟨CG.2.L,CG.2.at_,(((nY.set kW.1.toNat (⟨v49.1,bQ.Kind,bQ.Device,bQ.bg,bQ.By,bQ.bu⟩:Signal)).set kW.1.toNat (⟨v49.1,v50.1,bQ.Device,bQ.bg,bQ.By,bQ.bu⟩:Signal)).set kW.1.toNat (⟨v49.1,v50.1,bQ.Device,bQ.bg,v51.1,bQ.bu⟩:Signal)).set kW.1.toNat (⟨v49.1,v50.1,bQ.Device,bQ.bg,v51.1,CG.1⟩:Signal),h,J⟩ J J
      ·exact tK<|aa.stop<|aj.lq [0,0] ⟨Cq,n41,nY,h,J⟩ J J
     ·rintro aH ⟨AB,n45,HL,h,rfl⟩
      unfold kr at h
      refine aS<|rM J J<|rA J J<|rN<|aa.ret<|?_
      cases h
      exact hH J [0,0] J ⟨qZ,J,J⟩
theorem zE [GI:bM] {aR:Bk} {ab:ak} {r:(List aA)×ak} (h:nq ab=some r):aT Tryz.prog 6 [.ptr aR 0] [(aR,.cells [eJ ab.L,I ab.at_])] (T0 ([(aR,.cells [eJ r.2.L,I r.2.at_])]) (tN r.1)):=by
 unfold nq at h
 refine aT.fM ?_
 refine aT.bJ Tryz.func6 J Tryz.ntmps6 Tryz.results6 J J ?_
 refine aS<|rA J J<|rN<|aS<|rA J J<|rN<|tS<|aS<|bj (xs:=([([114,97]:bO),([114,98]:bO)]).map AV.str) J J J J J J<|ae.qv (cY J) J<|rM J J<|rN<|aa.block<|aa.cw (fun x:(List Int)×Int×(List aA)×Int=>kC x.1 x.2.1 x.2.2.1 x.2.2.2) (fun x aH=>∃ (mF:Bk) (nH:Nat→Bk) (Ct:Bk),aH=⟨101,[(0,.ptr aR 0),(3,.sl 3 mF 0 x.2.2.1.length),(9,Qu [([114,97]:bO),([114,98]:bO)]),(10,I ([([114,97]:bO),([114,98]:bO)].length:Int)),(11,I x.2.2.2)],[(aR,.cells [eJ x.1,I x.2.1]),(mF,.arr 3 ((kZ nH x.2.2.1).map (fun p:aA×Bk=>AV.agg [.str p.1.bg,.sl 2 p.2 0 p.1.aV.length,I p.1.aX]))),(Ct,.cm (mT 2 fE.av aA.aV (kZ nH x.2.2.1)))]⟩) h ?_ ?_
 ·exact aj.arr (s:=3) 3 J fun Oi=>aj.UU fun FK=>aj.lq [2,1,0] ⟨Oi,(fun _=>⟨none,0⟩),FK,J⟩ J J
 ·intro x z1 aH J1 fe h k6 fh
  obtain ⟨l8,n9,dN,n14⟩:=x
  obtain ⟨mF,nH,Ct,rfl⟩:=fe
  replace h:kC l8 n9 dN n14=some z1:=h
  unfold kC at h
  refine aS<|ae.qv (bE J J) J<|rN<|tS<|cD h J (fun h=>?_) (fun h=>?_)
  ·refine tK<|tS<|aa.cut (fun aH=>∃ (Cu:Bk) (Nf:Nat→Bk) (Cr:List Int) (n18:Int) (mU:List aA),iR n14 Cr n18 mU=some z1∧aH=⟨101,[(0,.ptr aR 0),(3,.sl 3 Cu 0 mU.length),(9,Qu [([114,97]:bO),([114,98]:bO)]),(10,I ([([114,97]:bO),([114,98]:bO)].length:Int)),(11,I n14)],[(aR,.cells [eJ Cr,I n18]),(Cu,.arr 3 ((kZ Nf mU).map (fun p:aA×Bk=>AV.agg [.str p.1.bg,.sl 2 p.2 0 p.1.aV.length,I p.1.aX]))),(Ct,.cm (mT 2 fE.av aA.aV (kZ Nf mU)))]⟩) ?_ ?_
   ·refine aa.block<|aS<|aK h fun v22 e1 h=>ae.qv (bN J J J e1 J J) J<|ae.qv (aJ J J J) J<|rA J J<|rN<|tS<|aS<|rM J J<|aK h fun v23 e2 h=>bh J (iB e2) cR (.cons .p0 .nil) J J<|rN<|cB h J (fun h=>?_) (fun h=>?_)
    ·exact aa.exit J<|aa.stop<|aj.lq [0,0,0] ⟨mF,nH,v23.2.L,v23.2.at_,dN,h,J⟩ J J
    ·refine tK<|aS<|rM J J<|rM J J<|bj (xs:=([(0:Int),(0:Int),(1000:Int)]).map I) J J J J J J<|aK h fun v24 e3 h=>bh J (bW e3) cR (.cons .p0 .nil) J J<|ae.qv (cJ J J J J J) J<|ct J J J J fun xv=>aQ J J J J .p0 J J<|rN<|aS<|rM J J<|bj (xs:=([(0:Int),(5:Int)]).map I) J J J J J J<|aK h fun v26 e4 h=>bh J (bW e4) cR (.cons .p1 .nil) J J<|rA J J<|rN<|tS<|aS<|rM J J<|aK h fun rU e5 h=>bh J (sE e5) cR (.cons .p0 .nil) J J<|rM J J<|rN<|aa.block<|aa.cw (fun x:(List Int)×Int×(List fE)×Int×Int=>kA dN n14 v22 v24 rU x.1 x.2.1 x.2.2.1 x.2.2.2.1 x.2.2.2.2) (fun x aH=>∃ (qZ:Bk),aH=⟨101,[(0,.ptr aR 0),(3,.sl 3 mF 0 dN.length),(6,.ptr xv 0),(7,I x.2.2.2.1),(9,Qu [([114,97]:bO),([114,98]:bO)]),(10,I ([([114,97]:bO),([114,98]:bO)].length:Int)),(11,I n14),(26,I rU.1),(27,I x.2.2.2.2)],[(aR,.cells [eJ x.1,I x.2.1]),(mF,.arr 3 ((kZ nH dN).map (fun p:aA×Bk=>AV.agg [.str p.1.bg,.sl 2 p.2 0 p.1.aV.length,I p.1.aX]))),(Ct,.cm (mT 2 fE.av aA.aV (kZ nH dN))),(xv,.cells [.str v22,.sl 2 qZ 0 x.2.2.1.length,I v24.1]),(qZ,Oh x.2.2.1)]⟩) h ?_ ?_
     ·exact aj.sv (j:=1) 2 (fun _=>.p1) J (fun _=>J) (fun _=>J) fun VI=>aj.lq [1,2,2,1,0] ⟨VI,J⟩ J J
     ·intro x z2 aH J2 fe h yD vr
      obtain ⟨vU,n35,nY,n38,n39⟩:=x
      obtain ⟨qZ,rfl⟩:=fe
      replace h:kA dN n14 v22 v24 rU vU n35 nY n38 n39=some z2:=h
      unfold kA at h
      refine aS<|ae.qv (bE J J) J<|rN<|tS<|cD h J (fun h=>?_) (fun h=>?_)
      ·refine tK<|tS<|aa.block<|tS<|aK h fun v41 e6 h=>aa.fT (id:=10) (A:=[0,1,0,0,0,24,60,124,255,511,1023]) (H0:=[(aR,.cells [eJ vU,I n35])]) (HH:=fun β=>[(aR,.cells [eJ v41.2.L,I v41.2.at_]),(mF,.arr 3 ((kZ nH dN).map (fun p:aA×Bk=>AV.agg [.str p.1.bg,.sl 2 p.2 0 p.1.aV.length,I p.1.aX]))),(Ct,.cm (mT 2 fE.av aA.aV (kZ nH dN))),(xv,.cells [.str v22,.sl 2 qZ 0 nY.length,I v24.1]),(qZ,Oh nY)]) 8 mixed J (by kernel_rfl) (by kernel_rfl) [⟨none,some 5,[],fun _=>(aR,.cells [eJ vU,I n35]),none,[]⟩,⟨some 5,none,[],fun _=>(aR,.cells [eJ v41.2.L,I v41.2.at_]),none,[]⟩] [] J (by kernel_rfl) J (.cons .p0 .nil) (fun _=>J)<|AT.am 5 J J<|AM.qv (az J J) J<|AM.qv (aF J J .p2 J) J<|AM.qv (ax J) J<|AM.qv (ax J) J<|AM.bL (xs:=([([111,112,115]:bO),([98,111,115,115]:bO)]).map AV.str) J J J J J J<|AM.nil<|AT.Ay (av:=.str v41.1) (Ti:=[(aR,.cells [eJ vU,I n35])]) (Pi:=[(aR,.cells [eJ v41.2.L,I v41.2.at_])]) (fun _=>J) (fun _=>J) (fun _=>J) J J J ?_ ?_
       ·exact bh J (fS e6) cR (.cons .p0 .nil) J J<|ae.nil ⟨_,J,J⟩
       refine AT.am 2 J J<|AM.qv (cJ J J J J J) J<|AM.bL (xs:=([(⟨n38,v41.1⟩:fE)]).map fE.av) J J J J J J<|AM.nil<|AT.rb (fun _=>J) fun β=>aK h fun LZ e7 h=>eK (g:=fE.av) J J J J J J J J (.list _) e7 (fun _=>.p4) J fun Qv=>rF J J J<|aQ J J J J .p3 J J<|rN<|tR<|rM J J<|rM J J<|bj (xs:=([(1:Int),(10:Int),(30:Int)]).map I) J J J J J J<|aK h fun v44 e8 h=>bh J (bW e8) cR (.cons .p0 .nil) J J<|ae.qv (bc J J) J<|rA J J<|rN<|aa.cu<|tR<|ae.qv (bc J J) J<|rM J J<|rN<|aa.stop<|?_
       cases h
       exact yD _ _ J<|aj.lq [0,0,0,0,0] ⟨Qv,J⟩ J J
      ·refine aa.exit J<|have h:=bT h vr;?_
       unfold pH at h
       exact tR<|rM J J<|ae.qv (bq J J .p3 J) J<|bj (xs:=[.agg [.str v22,.sl 2 qZ 0 nY.length,I v24.1]]) J J J J J J<|aK h fun EP e9 h=>Fz (gK:=(fun p:aA×Bk=>AV.agg [.str p.1.bg,.sl 2 p.2 0 p.1.aV.length,I p.1.aX])) (β:=nH) (l:=dN) (v:=(⟨v22,nY,v24.1⟩:aA)) (b:=qZ) J J J J J J J J e9 (fun _=>.p1) J fun VJ=>ae.ghost<|aj.drop .p3<|aj.here<|ae.ghost<|aj.UZ (rg:=aA.aV) (β:=nH) (l:=dN) (v:=(⟨v22,nY,v24.1⟩:aA)) e9 J .p3 .p2<|aj.here<|rA J J<|rN<|aa.cu<|aa.stop<|aj.lq [0,0,0] ⟨VJ,(AA nH dN.length qZ),vU,n35,EP,h,J⟩ J J
   ·rintro aH ⟨Cu,Nf,Cr,n18,mU,h,rfl⟩
    unfold iR at h
    refine tR<|ae.qv (bc J J) J<|rM J J<|rN<|aa.stop<|?_
    cases h
    exact k6 _ _ J<|aj.lq [0,0,0] ⟨Cu,Nf,Ct,J⟩ J J
  ·refine aa.exit J<|have h:=bT h fh;?_
   unfold pI at h
   refine tS<|tS<|aa.cut (fun aH=>∃ (tH:List Int) (n48:Int) (c49:Bool),iT dN tH n48 c49=some r∧aH=⟨101,[(0,.ptr aR 0),(3,.sl 3 mF 0 dN.length),(56,.bool c49)],[(aR,.cells [eJ tH,I n48]),(mF,.arr 3 ((kZ nH dN).map (fun p:aA×Bk=>AV.agg [.str p.1.bg,.sl 2 p.2 0 p.1.aV.length,I p.1.aX]))),(Ct,.cm (mT 2 fE.av aA.aV (kZ nH dN)))]⟩) ?_ ?_
   ·refine tR<|rM J J<|ae.qv (iC J) J<|ae.qv (fW J J) J<|rM J J<|gT h J J J (fun h=>?_) (fun h=>?_)
    ·exact rM J J<|rY J J J<|aK h fun v50 xd h=>bh J (iB xd) cR (.cons .p0 .nil) J J<|rT J J J<|rN<|aa.stop<|aj.lq [0,0,0] ⟨v50.2.L,v50.2.at_,v50.1,h,J⟩ J J
    ·exact rG J J J J<|rE J J J<|rN<|aa.stop<|aj.lq [0,0,0] ⟨l8,n9,false,h,J⟩ J J
   ·rintro aH ⟨tH,n48,c49,h,rfl⟩
    unfold iT at h
    refine aa.cut (fun aH=>∃ (Pn:Nat→Bk) (RP:List Int) (n52:Int) (BR:List aA),kB RP n52 BR=some r∧aH=⟨101,[(3,.sl 3 mF 0 BR.length)],[(aR,.cells [eJ RP,I n52]),(mF,.arr 3 ((kZ Pn BR).map (fun p:aA×Bk=>AV.agg [.str p.1.bg,.sl 2 p.2 0 p.1.aV.length,I p.1.aX]))),(Ct,.cm (mT 2 fE.av aA.aV (kZ Pn BR)))]⟩) ?_ ?_
    ·refine cB h J (fun h=>?_) (fun h=>?_)
     ·refine aS<|rM J J<|rM J J<|rM J J<|ae.qv (iC J) J<|aK h fun v55 Cs h=>bh J (fR Cs) cR (.cons .p0 .nil) J J<|aK h fun tI zj h=>ae.qv (ba J J J zj) J<|rA J J<|rN<|tS<|aK h fun uz IV h=>aK h fun v58 KK h=>aa.fT (id:=17) (A:=[0,0,0,0,8,24,56,120,252,0,0,1024,3072,7168,15360,32764,65533,131069,262141,524287,1048575,2097151]) (H0:=[(aR,.cells [eJ v55.2.L,I v55.2.at_]),(mF,.arr 3 ((kZ nH dN).map (fun p:aA×Bk=>AV.agg [.str p.1.bg,.sl 2 p.2 0 p.1.aV.length,I p.1.aX])))]) (HH:=fun β=>[(aR,.cells [eJ v58.2.L,I v58.2.at_]),(mF,.arr 3 (((kZ nH dN).set v55.1.toNat ((⟨uz.1,tI.aV,tI.aX⟩:aA),(nH v55.1.toNat))).map (fun p:aA×Bk=>AV.agg [.str p.1.bg,.sl 2 p.2 0 p.1.aV.length,I p.1.aX]))),(Ct,.cm (mT 2 fE.av aA.aV (kZ nH dN)))]) 19 mixed J (by kernel_rfl) (by kernel_rfl) [⟨none,some 8,[],fun _=>(aR,.cells [eJ v55.2.L,I v55.2.at_]),none,[]⟩,⟨none,some 18,[6,13],fun _=>(mF,.arr 3 ((kZ nH dN).map (fun p:aA×Bk=>AV.agg [.str p.1.bg,.sl 2 p.2 0 p.1.aV.length,I p.1.aX]))),none,[]⟩,⟨some 8,some 15,[],fun _=>(aR,.cells [eJ uz.2.L,I uz.2.at_]),none,[]⟩,⟨some 15,none,[],fun _=>(aR,.cells [eJ v58.2.L,I v58.2.at_]),none,[]⟩,⟨some 18,none,[],fun _=>(mF,.arr 3 (((kZ nH dN).set v55.1.toNat ((⟨uz.1,tI.aV,tI.aX⟩:aA),(nH v55.1.toNat))).map (fun p:aA×Bk=>AV.agg [.str p.1.bg,.sl 2 p.2 0 p.1.aV.length,I p.1.aX]))),none,[]⟩] [] J (by kernel_rfl) J (.cons .p0 (.cons .p0 .nil)) (fun _=>J)<|AT.am 6 J J<|AM.qv (ax J) J<|AM.qv (ax J) J<|AM.qv (ax J) J<|AM.qv (ax J) J<|AM.qv (bD J) J<|AM.qv (bI J J) J<|AM.nil<|AT.rd (Rs:=[(mF,.arr 3 ((kZ nH dN).map (fun p:aA×Bk=>AV.agg [.str p.1.bg,.sl 2 p.2 0 p.1.aV.length,I p.1.aX])))]) (fun _=>J) J (fun _=>J) (fun _=>J) (fw (g:=(fun p:aA×Bk=>AV.agg [.str p.1.bg,.sl 2 p.2 0 p.1.aV.length,I p.1.aX])) J J (.inl .p0) (Af zj) J) J<|AT.am 1 J J<|AM.bL (xs:=([tI.bg,([]:bO),([114,97]:bO)]).map AV.str) J J J J J J<|AM.nil<|AT.Ay (av:=.str uz.1) (Ti:=[(aR,.cells [eJ v55.2.L,I v55.2.at_])]) (Pi:=[(aR,.cells [eJ uz.2.L,I uz.2.at_])]) (fun _=>J) (fun _=>J) (fun _=>J) J J J ?_ ?_
      ·exact bh J (fS IV) cR (.cons .p0 .nil) J J<|ae.nil ⟨_,J,J⟩
      refine AT.am 4 J J<|AM.qv (ax J) J<|AM.qv (ax J) J<|AM.qv (bD J) J<|AM.qv (bI J J) J<|AM.nil<|AT.rd (Rs:=[(mF,.arr 3 ((kZ nH dN).map (fun p:aA×Bk=>AV.agg [.str p.1.bg,.sl 2 p.2 0 p.1.aV.length,I p.1.aX])))]) (fun _=>J) J (fun _=>J) (fun _=>J) (fw (g:=(fun p:aA×Bk=>AV.agg [.str p.1.bg,.sl 2 p.2 0 p.1.aV.length,I p.1.aX])) J J (.inl .p0) (Af zj) J) J<|AT.am 1 J J<|AM.bL (xs:=([tI.aX,(999:Int),(1:Int),(-1:Int)]).map I) J J J J J J<|AM.nil<|AT.Ay (av:=I v58.1) (Ti:=[(aR,.cells [eJ uz.2.L,I uz.2.at_])]) (Pi:=[(aR,.cells [eJ v58.2.L,I v58.2.at_])]) (fun _=>J) (fun _=>J) (fun _=>J) J J J ?_ ?_
      ·exact bh J (bW KK) cR (.cons .p0 .nil) J J<|ae.nil ⟨_,J,J⟩
      refine AT.am 2 J J<|AM.qv (bD J) J<|AM.qv (bI J J) J<|AM.nil<|AT.xa (Ti:=[(mF,.arr 3 ((kZ nH dN).map (fun p:aA×Bk=>AV.agg [.str p.1.bg,.sl 2 p.2 0 p.1.aV.length,I p.1.aX])))]) (Pi:=[(mF,.arr 3 (((kZ nH dN).set v55.1.toNat ((⟨uz.1,tI.aV,tI.aX⟩:aA),(nH v55.1.toNat))).map (fun p:aA×Bk=>AV.agg [.str p.1.bg,.sl 2 p.2 0 p.1.aV.length,I p.1.aX])))]) (fun _=>J) (fun _=>J) (fun _=>J) J J ?_ ?_
      ·exact bz (g:=(fun p:aA×Bk=>AV.agg [.str p.1.bg,.sl 2 p.2 0 p.1.aV.length,I p.1.aX])) (uy:=((⟨uz.1,tI.aV,tI.aX⟩:aA),(nH v55.1.toNat))) J J J J (Af zj) J .p0 J<|ae.nil ⟨_,J⟩
      refine AT.rb (fun _=>J) fun β=>ae.qv (bD J) J<|ae.qv (bI J J) J<|bz (g:=(fun p:aA×Bk=>AV.agg [.str p.1.bg,.sl 2 p.2 0 p.1.aV.length,I p.1.aX])) (uy:=((⟨uz.1,tI.aV,v58.1⟩:aA),(nH v55.1.toNat))) J J J J (dw (v:=((⟨uz.1,tI.aV,tI.aX⟩:aA),(nH v55.1.toNat))) (Af zj)) J .p1 J<|ae.ghost<|aj.GN (b:=mF) (o':=.arr 3 (((kZ nH dN).set v55.1.toNat ((⟨uz.1,tI.aV,v58.1⟩:aA),(nH v55.1.toNat))).map (fun p:aA×Bk=>AV.agg [.str p.1.bg,.sl 2 p.2 0 p.1.aV.length,I p.1.aX]))) (by simp only [List.set_set]) .p1<|aj.here<|ae.ghost<|aj.UY (rg:=aA.aV) (v':=(⟨uz.1,tI.aV,v58.1⟩:aA)) (gK:=(fun p:aA×Bk=>AV.agg [.str p.1.bg,.sl 2 p.2 0 p.1.aV.length,I p.1.aX])) zj J .p2 .p1<|aj.here<|ae.ghost<|aj.eqs (s:=3) (cy:=.sl 3 mF 0 (dN.set v55.1.toNat (⟨uz.1,tI.aV,v58.1⟩:aA)).length) J (by rw [List.length_set])<|aj.here<|ae.ghost<|aj.eqs (s:=57) (cy:=.sl 3 mF 0 (dN.set v55.1.toNat (⟨uz.1,tI.aV,v58.1⟩:aA)).length) J (by rw [List.length_set])<|aj.here<|ae.ghost<|aj.eqs (s:=59) (cy:=.sl 3 mF 0 (dN.set v55.1.toNat (⟨uz.1,tI.aV,v58.1⟩:aA)).length) J (by rw [List.length_set])<|aj.here<|rN<|aS<|rM J J<|aK h fun v59 Dr h=>bh J (iB Dr) cR (.cons .p0 .nil) J J<|rN<|aa.cut (fun aH=>∃ (Ng:Nat→Bk) (Qn:List Int) (n61:Int) (Og:List aA),iS Qn n61 Og=some r∧aH=⟨101,[(3,.sl 3 mF 0 Og.length)],[(aR,.cells [eJ Qn,I n61]),(mF,.arr 3 ((kZ Ng Og).map (fun p:aA×Bk=>AV.agg [.str p.1.bg,.sl 2 p.2 0 p.1.aV.length,I p.1.aX]))),(Ct,.cm (mT 2 fE.av aA.aV (kZ Ng Og)))]⟩) ?_ ?_
      ·refine cB h J (fun h=>?_) (fun h=>?_)
       ·refine aa.ghost (aj.RM (rg:=aA.aV) (dw (v:=(⟨uz.1,tI.aV,v58.1⟩:aA)) zj) .p2 (fun Oj Sa=>aj.here ?_))
        refine aK h fun KE Nc h=>aK h fun v66 IW h=>aK h fun Jq IX h=>aa.fT (id:=19) (A:=[0,0,2,6,14,0,32,0,0,480,992,2016,4094,8191,16383,32767]) (H0:=[(aR,.cells [eJ v59.2.L,I v59.2.at_]),(Oj,Oh tI.aV)]) (HH:=fun β=>[(aR,.cells [eJ v66.2.L,I v66.2.at_]),((β 12),Oh Jq),(mF,.arr 3 ((kZ nH (dN.set v55.1.toNat (⟨uz.1,tI.aV,v58.1⟩:aA):List aA)).map (fun p:aA×Bk=>AV.agg [.str p.1.bg,.sl 2 p.2 0 p.1.aV.length,I p.1.aX]))),(Ct,.cm (mT 2 fE.av aA.aV ((kZ nH (dN.set v55.1.toNat (⟨uz.1,tI.aV,v58.1⟩:aA):List aA)).eraseIdx v55.1.toNat)))]) 13 mixed J (by kernel_rfl) (by kernel_rfl) [⟨none,some 6,[],fun _=>(aR,.cells [eJ v59.2.L,I v59.2.at_]),none,[]⟩,⟨none,some 12,[],fun _=>(Oj,Oh tI.aV),none,[]⟩,⟨some 6,some 9,[],fun _=>(aR,.cells [eJ KE.2.L,I KE.2.at_]),none,[]⟩,⟨some 9,none,[],fun _=>(aR,.cells [eJ v66.2.L,I v66.2.at_]),none,[]⟩,⟨some 12,none,[],fun b=>(b,Oh Jq),none,[]⟩] [12] J (by kernel_rfl) J (.cons .p1 (.cons .p0 .nil)) (fun _=>J)<|AT.am 6 J J<|AM.qv (ax J) J<|AM.qv (ax J) J<|AM.qv (bD J) J<|AM.qv (bI J J) J<|AM.qv (fw (g:=(fun p:aA×Bk=>AV.agg [.str p.1.bg,.sl 2 p.2 0 p.1.aV.length,I p.1.aX])) J J (.inl .p0) (Oe (dw (v:=(⟨uz.1,tI.aV,v58.1⟩:aA)) zj) Sa) J) J<|AM.qv (ax J) J<|AM.nil<|AT.Ay (av:=I KE.1) (Ti:=[(aR,.cells [eJ v59.2.L,I v59.2.at_])]) (Pi:=[(aR,.cells [eJ KE.2.L,I KE.2.at_])]) (fun _=>J) (fun _=>J) (fun _=>J) J J J ?_ ?_
        ·exact bh J (yF Nc) cR (.cons .p0 .nil) J J<|ae.nil ⟨_,J,J⟩
        refine AT.am 2 J J<|AM.qv (ax J) J<|AM.bL (xs:=([([]:bO),([111,112,115]:bO)]).map AV.str) J J J J J J<|AM.nil<|AT.Ay (av:=.str v66.1) (Ti:=[(aR,.cells [eJ KE.2.L,I KE.2.at_])]) (Pi:=[(aR,.cells [eJ v66.2.L,I v66.2.at_])]) (fun _=>J) (fun _=>J) (fun _=>J) J J J ?_ ?_
        ·exact bh J (fS IW) cR (.cons .p0 .nil) J J<|ae.nil ⟨_,J,J⟩
        refine AT.am 2 J J<|AM.qv (cJ J J J J J) J<|AM.bL (xs:=([(⟨KE.1,v66.1⟩:fE)]).map fE.av) J J J J J J<|AM.nil<|AT.BA (V:=fun b=>.sl 2 b 0 Jq.length) (Ti:=[(Oj,Oh tI.aV)]) (Pi:=fun b=>[(b,Oh Jq)]) (fun _=>J) (fun _=>J) (fun _ _=>J) J (fun _=>J) J J J ?_ ?_
        ·exact eK (g:=fE.av) J J J J J J J J (.list _) IX (fun _=>.p0) J fun TG=>ae.nil ⟨TG,_,J,J⟩
        refine AT.rb (fun _=>J) fun β=>?_
        generalize β 12=TG
        clear β
        exact ae.qv (bD J) J<|ae.qv (bI J J) J<|bz (g:=(fun p:aA×Bk=>AV.agg [.str p.1.bg,.sl 2 p.2 0 p.1.aV.length,I p.1.aX])) (uy:=((⟨uz.1,Jq,v58.1⟩:aA),TG)) J J J J (Oe (dw (v:=(⟨uz.1,tI.aV,v58.1⟩:aA)) zj) Sa) J .p2 J<|ae.ghost<|aj.UX (rg:=aA.aV) (v':=(⟨uz.1,Jq,v58.1⟩:aA)) (gK:=(fun p:aA×Bk=>AV.agg [.str p.1.bg,.sl 2 p.2 0 p.1.aV.length,I p.1.aX])) (dw (v:=(⟨uz.1,tI.aV,v58.1⟩:aA)) zj) J .p1 .p2 .p1<|aj.here<|ae.ghost<|aj.eqs (s:=3) (cy:=.sl 3 mF 0 ((dN.set v55.1.toNat (⟨uz.1,tI.aV,v58.1⟩:aA)).set v55.1.toNat (⟨uz.1,Jq,v58.1⟩:aA)).length) J (by rw [List.length_set])<|aj.here<|ae.ghost<|aj.eqs (s:=57) (cy:=.sl 3 mF 0 ((dN.set v55.1.toNat (⟨uz.1,tI.aV,v58.1⟩:aA)).set v55.1.toNat (⟨uz.1,Jq,v58.1⟩:aA)).length) J (by rw [List.length_set])<|aj.here<|ae.ghost<|aj.eqs (s:=59) (cy:=.sl 3 mF 0 ((dN.set v55.1.toNat (⟨uz.1,tI.aV,v58.1⟩:aA)).set v55.1.toNat (⟨uz.1,Jq,v58.1⟩:aA)).length) J (by rw [List.length_set])<|aj.here<|rN<|aa.stop<|aj.lq [0,0,0] ⟨(AA nH v55.1.toNat TG),v66.2.L,v66.2.at_,(dN.set v55.1.toNat (⟨uz.1,tI.aV,v58.1⟩:aA)).set v55.1.toNat (⟨uz.1,Jq,v58.1⟩:aA),h,J⟩ J J
       ·exact tK<|aa.stop<|aj.lq [0,0,0] ⟨nH,v59.2.L,v59.2.at_,dN.set v55.1.toNat (⟨uz.1,tI.aV,v58.1⟩:aA),h,J⟩ J J
      ·rintro aH ⟨Ng,Qn,n61,Og,h,rfl⟩
       unfold iS at h
       exact aa.stop<|aj.lq [0,0,0] ⟨Ng,Qn,n61,Og,h,J⟩ J J
     ·exact tK<|aa.stop<|aj.lq [0,0,0] ⟨nH,tH,n48,dN,h,J⟩ J J
    ·rintro aH ⟨Pn,RP,n52,BR,h,rfl⟩
     unfold kB at h
     refine aS<|rM J J<|rA J J<|rN<|aa.ret<|?_
     cases h
     exact aj.U3 (rg:=aA.aV) (gK:=(fun p:aA×Bk=>AV.agg [.str p.1.bg,.sl 2 p.2 0 p.1.aV.length,I p.1.aX])) (gF:=aA.av) (pre:=(fun v:aA=>[.str v.bg])) (post:=(fun v:aA=>[I v.aX])) (fun _=>J) (fun _=>J) .p2 .p1<|aj.freeze .p1<|aj.co (s:=2) J (Co.Q9 .p1)<|aj.here ⟨_,.cons (.tmp _ _ J) .nil,_,.cons .p0 .nil,⟨J,J⟩⟩
theorem AE [GI:bM] {aR:Bk} {ab:ak} {r:(List aB)×ak} (h:oD ab=some r):aT Tryz.prog 7 [.ptr aR 0] [(aR,.cells [eJ ab.L,I ab.at_])] (T1 (fun sG=>[(aR,.cells [eJ r.2.L,I r.2.at_]),(sG,u6 r.1)]) (fun sG=>.sl 4 sG 0 r.1.length)):=by
 unfold oD at h
 refine aT.fM ?_
 refine aT.bJ Tryz.func7 J Tryz.ntmps7 Tryz.results7 J J ?_
 refine aS<|rA J J<|rN<|aS<|rA J J<|rN<|tS<|aS<|bj (xs:=([([98,111,115,115]:bO),([111,112,115]:bO)]).map AV.str) J J J J J J<|ae.qv (cY J) J<|rM J J<|rN<|aa.block<|aa.cw (fun x:(List Int)×Int×(List aB)×Int=>lB x.1 x.2.1 x.2.2.1 x.2.2.2) (fun x aH=>∃ (b8:Bk),aH=⟨96,[(0,.ptr aR 0),(3,.sl 4 b8 0 x.2.2.1.length),(9,Qu [([98,111,115,115]:bO),([111,112,115]:bO)]),(10,I ([([98,111,115,115]:bO),([111,112,115]:bO)].length:Int)),(11,I x.2.2.2)],[(aR,.cells [eJ x.1,I x.2.1]),(b8,u6 x.2.2.1)]⟩) h ?_ ?_
 ·exact aj.arr (s:=3) 4 J fun vu=>aj.lq [1,0] ⟨vu,J⟩ J J
 ·intro x z1 aH J1 fe h k6 fh
  obtain ⟨l6,n7,l9,n10⟩:=x
  obtain ⟨b8,rfl⟩:=fe
  replace h:lB l6 n7 l9 n10=some z1:=h
  unfold lB at h
  refine aS<|ae.qv (bE J J) J<|rN<|tS<|cD h J (fun h=>?_) (fun h=>?_)
  ·refine tK<|tS<|aa.block<|aS<|aK h fun v12 e1 h=>ae.qv (bN J J J e1 J J) J<|ae.qv (aJ J J J) J<|rA J J<|rN<|aS<|rM J J<|bj (xs:=([(0:Int),(10:Int)]).map I) J J J J J J<|aK h fun fo e2 h=>bh J (bW e2) cR (.cons .p0 .nil) J J<|rA J J<|rN<|aS<|rM J J<|aK h fun gR e3 h=>bh J (fR e3) cR (.cons .p0 .nil) J J<|rM J J<|rN<|aa.block<|aa.cw (fun x:(List Int)×Int×(List aB)×Int×Int=>lz n10 v12 gR x.1 x.2.1 x.2.2.1 x.2.2.2.1 x.2.2.2.2) (fun x aH=>∃ (L2:Bk),aH=⟨96,[(0,.ptr aR 0),(3,.sl 4 L2 0 x.2.2.1.length),(5,.str v12),(6,I x.2.2.2.1),(9,Qu [([98,111,115,115]:bO),([111,112,115]:bO)]),(10,I ([([98,111,115,115]:bO),([111,112,115]:bO)].length:Int)),(11,I n10),(19,I gR.1),(20,I x.2.2.2.2)],[(aR,.cells [eJ x.1,I x.2.1]),(L2,u6 x.2.2.1)]⟩) h ?_ ?_
   ·exact aj.lq [0,0] ⟨b8,J⟩ J J
   ·intro x z2 aH J2 fe h yD vr
    obtain ⟨xp,n22,Qo,n25,n26⟩:=x
    obtain ⟨L2,rfl⟩:=fe
    replace h:lz n10 v12 gR xp n22 Qo n25 n26=some z2:=h
    unfold lz at h
    refine aS<|ae.qv (bE J J) J<|rN<|tS<|cD h J (fun h=>?_) (fun h=>?_)
    ·refine tK<|tS<|aa.block<|aS<|rM J J<|rM J J<|bj (xs:=([(5:Int),(20:Int),(50:Int)]).map I) J J J J J J<|aK h fun rU e4 h=>bh J (bW e4) cR (.cons .p0 .nil) J J<|ae.qv (bc J J) J<|rA J J<|rN<|aS<|rM J J<|rM J J<|rM J J<|bj (xs:=([([97,110,110]:bO),([98,111,98]:bO)]).map AV.str) J J J J J J<|aK h fun v28 e5 h=>bh J (fS e5) cR (.cons .p0 .nil) J J<|rM J J<|rM J J<|ae.qv (cJ J J J J J) J<|ae.qv (cJ J J J J J) J<|bj (xs:=([(⟨v12,v28.1,(⟨n25,aL (n25+rU.1)⟩:ar)⟩:aB)]).map aB.av) J J J J J J<|aK h fun nW e6 h=>eK (g:=aB.av) J J J J J J J J (.list _) e6 (fun _=>.p1) J fun Qw=>rA J J<|rN<|tR<|rM J J<|rM J J<|bj (xs:=([(0:Int),(0:Int),(10:Int)]).map I) J J J J J J<|aK h fun v31 e7 h=>bh J (bW e7) cR (.cons .p0 .nil) J J<|ae.qv (bc J J) J<|rA J J<|rN<|aa.cu<|tR<|ae.qv (bc J J) J<|rM J J<|rN<|aa.stop<|?_
     cases h
     exact yD _ _ J<|aj.lq [0,0] ⟨Qw,J⟩ J J
    ·refine aa.exit J<|have h:=bT h vr;aa.cu<|tR<|ae.qv (bc J J) J<|rM J J<|rN<|aa.stop<|?_
     cases h
     exact k6 _ _ J<|aj.lq [0,0] ⟨L2,J⟩ J J
  ·refine aa.exit J<|have h:=bT h fh;?_
   unfold qn at h
   refine tS<|tS<|aa.cut (fun aH=>∃ (Pg:List Int) (n33:Int) (RQ:Bool),js l9 Pg n33 RQ=some r∧aH=⟨96,[(0,.ptr aR 0),(3,.sl 4 b8 0 l9.length),(51,.bool RQ)],[(aR,.cells [eJ Pg,I n33]),(b8,u6 l9)]⟩) ?_ ?_
   ·refine tR<|rM J J<|ae.qv (iC J) J<|ae.qv (fW J J) J<|rM J J<|gT h J J J (fun h=>?_) (fun h=>?_)
    ·exact rM J J<|rY J J J<|aK h fun v35 e8 h=>bh J (iB e8) cR (.cons .p0 .nil) J J<|rT J J J<|rN<|aa.stop<|aj.lq [0,0] ⟨v35.2.L,v35.2.at_,v35.1,h,J⟩ J J
    ·exact rG J J J J<|rE J J J<|rN<|aa.stop<|aj.lq [0,0] ⟨l6,n7,false,h,J⟩ J J
   ·rintro aH ⟨Pg,n33,RQ,h,rfl⟩
    unfold js at h
    refine aa.cut (fun aH=>∃ (M6:List Int) (n37:Int) (xP:List aB),lA M6 n37 xP=some r∧aH=⟨96,[(3,.sl 4 b8 0 xP.length)],[(aR,.cells [eJ M6,I n37]),(b8,u6 xP)]⟩) ?_ ?_
    ·refine cB h J (fun h=>?_) (fun h=>?_)
     ·refine aS<|rM J J<|rM J J<|rM J J<|ae.qv (iC J) J<|aK h fun v39 e9 h=>bh J (fR e9) cR (.cons .p0 .nil) J J<|aK h fun v40 xd h=>ae.qv (ba J J J xd) J<|rA J J<|rN<|aK h fun v41 Cs h=>aK h fun vq zj h=>aK h fun wR IV h=>aa.fT (id:=15) (A:=[0,0,0,0,0,16,48,112,240,504,0,0,2048,6144,14336,30720,65528,0,0,262144,786432,1835008,3932160,0,8388608,25165824,58720256,125829120,268173312,536870904,1073741817,2147483641,4294967289,8589934587,17179869179,34359738363,68719476735,137438953471,274877906943,549755813887]) (H0:=[(aR,.cells [eJ v39.2.L,I v39.2.at_]),(b8,u6 l9)]) (HH:=fun β=>[(aR,.cells [eJ wR.2.L,I wR.2.at_]),(b8,u6 ((l9.set v39.1.toNat (⟨v41.1,v40.gm,v40.Time⟩:aB)).set v39.1.toNat (⟨v41.1,vq.1,v40.Time⟩:aB)))]) 36 mixed J (by kernel_rfl) (by kernel_rfl) [⟨none,some 9,[],fun _=>(aR,.cells [eJ v39.2.L,I v39.2.at_]),none,[]⟩,⟨none,some 32,[7,14,22,27],fun _=>(b8,u6 l9),none,[]⟩,⟨some 9,some 16,[],fun _=>(aR,.cells [eJ v41.2.L,I v41.2.at_]),none,[]⟩,⟨some 16,some 29,[],fun _=>(aR,.cells [eJ vq.2.L,I vq.2.at_]),none,[]⟩,⟨some 29,none,[],fun _=>(aR,.cells [eJ wR.2.L,I wR.2.at_]),none,[]⟩,⟨some 32,some 35,[],fun _=>(b8,u6 (l9.set v39.1.toNat (⟨v41.1,v40.gm,v40.Time⟩:aB))),none,[]⟩,⟨some 35,none,[],fun _=>(b8,u6 ((l9.set v39.1.toNat (⟨v41.1,v40.gm,v40.Time⟩:aB)).set v39.1.toNat (⟨v41.1,vq.1,v40.Time⟩:aB))),none,[]⟩] [] J (by kernel_rfl) J (.cons .p0 (.cons .p0 .nil)) (fun _=>J)<|AT.am 7 J J<|AM.qv (ax J) J<|AM.qv (ax J) J<|AM.qv (ax J) J<|AM.qv (ax J) J<|AM.qv (ax J) J<|AM.qv (bD J) J<|AM.qv (bI J J) J<|AM.nil<|AT.rd (Rs:=[(b8,u6 l9)]) (fun _=>J) J (fun _=>J) (fun _=>J) (fw (g:=aB.av) J J (.inl .p0) xd J) J<|AT.am 1 J J<|AM.bL (xs:=([v40.cO,([]:bO),([122,122]:bO)]).map AV.str) J J J J J J<|AM.nil<|AT.Ay (av:=.str v41.1) (Ti:=[(aR,.cells [eJ v39.2.L,I v39.2.at_])]) (Pi:=[(aR,.cells [eJ v41.2.L,I v41.2.at_])]) (fun _=>J) (fun _=>J) (fun _=>J) J J J ?_ ?_
      ·exact bh J (fS Cs) cR (.cons .p0 .nil) J J<|ae.nil ⟨_,J,J⟩
      refine AT.am 4 J J<|AM.qv (ax J) J<|AM.qv (ax J) J<|AM.qv (bD J) J<|AM.qv (bI J J) J<|AM.nil<|AT.rd (Rs:=[(b8,u6 l9)]) (fun _=>J) J (fun _=>J) (fun _=>J) (fw (g:=aB.av) J J (.inl .p0) xd J) J<|AT.am 1 J J<|AM.bL (xs:=([v40.gm,([65]:bO)]).map AV.str) J J J J J J<|AM.nil<|AT.Ay (av:=.str vq.1) (Ti:=[(aR,.cells [eJ v41.2.L,I v41.2.at_])]) (Pi:=[(aR,.cells [eJ vq.2.L,I vq.2.at_])]) (fun _=>J) (fun _=>J) (fun _=>J) J J J ?_ ?_
      ·exact bh J (fS zj) cR (.cons .p0 .nil) J J<|ae.nil ⟨_,J,J⟩
      refine AT.am 5 J J<|AM.qv (ax J) J<|AM.qv (ax J) J<|AM.qv (bD J) J<|AM.qv (bI J J) J<|AM.qv (bI J J) J<|AM.nil<|AT.rd (Rs:=[(b8,u6 l9)]) (fun _=>J) J (fun _=>J) (fun _=>J) (fw (g:=aB.av) J J (.inl .p0) xd J) J<|AT.am 4 J J<|AM.qv (ax J) J<|AM.qv (bD J) J<|AM.qv (bI J J) J<|AM.qv (bI J J) J<|AM.nil<|AT.rd (Rs:=[(b8,u6 l9)]) (fun _=>J) J (fun _=>J) (fun _=>J) (fw (g:=aB.av) J J (.inl .p0) xd J) J<|AT.am 1 J J<|AM.bL (xs:=([v40.Time.To,v40.Time.aM,(500:Int)]).map I) J J J J J J<|AM.nil<|AT.Ay (av:=I wR.1) (Ti:=[(aR,.cells [eJ vq.2.L,I vq.2.at_])]) (Pi:=[(aR,.cells [eJ wR.2.L,I wR.2.at_])]) (fun _=>J) (fun _=>J) (fun _=>J) J J J ?_ ?_
      ·exact bh J (bW IV) cR (.cons .p0 .nil) J J<|ae.nil ⟨_,J,J⟩
      refine AT.am 2 J J<|AM.qv (bD J) J<|AM.qv (bI J J) J<|AM.nil<|AT.xa (Ti:=[(b8,u6 l9)]) (Pi:=[(b8,u6 (l9.set v39.1.toNat (⟨v41.1,v40.gm,v40.Time⟩:aB)))]) (fun _=>J) (fun _=>J) (fun _=>J) J J ?_ ?_
      ·exact bz (g:=aB.av) (uy:=(⟨v41.1,v40.gm,v40.Time⟩:aB)) J J J J xd J .p0 J<|ae.nil ⟨_,J⟩
      refine AT.am 2 J J<|AM.qv (bD J) J<|AM.qv (bI J J) J<|AM.nil<|AT.xa (Ti:=[(b8,u6 (l9.set v39.1.toNat (⟨v41.1,v40.gm,v40.Time⟩:aB)))]) (Pi:=[(b8,u6 ((l9.set v39.1.toNat (⟨v41.1,v40.gm,v40.Time⟩:aB)).set v39.1.toNat (⟨v41.1,vq.1,v40.Time⟩:aB)))]) (fun _=>J) (fun _=>J) (fun _=>J) J J ?_ ?_
      ·exact bz (g:=aB.av) (uy:=(⟨v41.1,vq.1,v40.Time⟩:aB)) J J J J (dw (v:=(⟨v41.1,v40.gm,v40.Time⟩:aB)) xd) J .p0 J<|ae.nil ⟨_,J⟩
      exact AT.rb (fun _=>J) fun β=>ae.ghost<|aj.eqs (s:=3) (cy:=.sl 4 b8 0 ((l9.set v39.1.toNat (⟨v41.1,v40.gm,v40.Time⟩:aB)).set v39.1.toNat (⟨v41.1,vq.1,v40.Time⟩:aB)).length) J (by simp)<|aj.here<|ae.ghost<|aj.eqs (s:=52) (cy:=.sl 4 b8 0 ((l9.set v39.1.toNat (⟨v41.1,v40.gm,v40.Time⟩:aB)).set v39.1.toNat (⟨v41.1,vq.1,v40.Time⟩:aB)).length) J (by simp)<|aj.here<|ae.ghost<|aj.eqs (s:=54) (cy:=.sl 4 b8 0 ((l9.set v39.1.toNat (⟨v41.1,v40.gm,v40.Time⟩:aB)).set v39.1.toNat (⟨v41.1,vq.1,v40.Time⟩:aB)).length) J (by simp)<|aj.here<|ae.qv (bD J) J<|ae.qv (bI J J) J<|ae.qv (bI J J) J<|bz (g:=aB.av) (uy:=(⟨v41.1,vq.1,(⟨v40.Time.aM,wR.1⟩:ar)⟩:aB)) J J J J (dw (v:=(⟨v41.1,vq.1,v40.Time⟩:aB)) (dw (v:=(⟨v41.1,v40.gm,v40.Time⟩:aB)) xd)) J .p1 J<|ae.ghost<|aj.eqs (s:=3) (cy:=.sl 4 b8 0 (((l9.set v39.1.toNat (⟨v41.1,v40.gm,v40.Time⟩:aB)).set v39.1.toNat (⟨v41.1,vq.1,v40.Time⟩:aB)).set v39.1.toNat (⟨v41.1,vq.1,(⟨v40.Time.aM,wR.1⟩:ar)⟩:aB)).length) J (by rw [List.length_set])<|aj.here<|ae.ghost<|aj.eqs (s:=52) (cy:=.sl 4 b8 0 (((l9.set v39.1.toNat (⟨v41.1,v40.gm,v40.Time⟩:aB)).set v39.1.toNat (⟨v41.1,vq.1,v40.Time⟩:aB)).set v39.1.toNat (⟨v41.1,vq.1,(⟨v40.Time.aM,wR.1⟩:ar)⟩:aB)).length) J (by rw [List.length_set])<|aj.here<|ae.ghost<|aj.eqs (s:=54) (cy:=.sl 4 b8 0 (((l9.set v39.1.toNat (⟨v41.1,v40.gm,v40.Time⟩:aB)).set v39.1.toNat (⟨v41.1,vq.1,v40.Time⟩:aB)).set v39.1.toNat (⟨v41.1,vq.1,(⟨v40.Time.aM,wR.1⟩:ar)⟩:aB)).length) J (by rw [List.length_set])<|aj.here<|rN<|aa.stop<|aj.lq [0,0] ⟨wR.2.L,wR.2.at_,((l9.set v39.1.toNat (⟨v41.1,v40.gm,v40.Time⟩:aB)).set v39.1.toNat (⟨v41.1,vq.1,v40.Time⟩:aB)).set v39.1.toNat (⟨v41.1,vq.1,(⟨v40.Time.aM,wR.1⟩:ar)⟩:aB),h,J⟩ J J
     ·exact tK<|aa.stop<|aj.lq [0,0] ⟨Pg,n33,l9,h,J⟩ J J
    ·rintro aH ⟨M6,n37,xP,h,rfl⟩
     unfold lA at h
     refine aS<|rM J J<|rA J J<|rN<|aa.ret<|?_
     cases h
     exact hH J [0,0] J ⟨b8,J,J⟩
theorem CJ [GI:bM] {aR:Bk} {ab:ak} {r:Int×ak} (h:qK ab=some r):aT Tryz.prog 8 [.ptr aR 0] [(aR,.cells [eJ ab.L,I ab.at_])] (T0 ([(aR,.cells [eJ r.2.L,I r.2.at_])]) (I r.1)):=by
 unfold qK at h
 refine aT.fM ?_
 refine aT.bJ Tryz.func8 J Tryz.ntmps8 Tryz.results8 J J ?_
 refine aS<|rA J J<|rN<|aS<|rM J J<|rM J J<|aK h fun v1 e1 h=>bh J (fR e1) cR (.cons .p0 .nil) J J<|rM J J<|aK h fun v2 e2 h=>bh J (fR e2) cR (.cons .p0 .nil) J J<|rM J J<|bj (xs:=([(345686399999:Int),(-1:Int),(345686400000:Int)]).map I) J J J J J J<|aK h fun v3 e3 h=>bh J (bW e3) cR (.cons .p0 .nil) J J<|bj (xs:=([(0:Int),(5:Int),(20:Int),(40:Int),(60:Int),(80:Int),(120:Int),v1.1,v2.1,v3.1]).map I) J J J J J J<|aK h fun v4 e4 h=>bh J (bW e4) cR (.cons .p0 .nil) J J<|rA J J<|rN<|aa.ret<|?_
 cases h
 exact hH J [0] J ⟨J,J⟩
theorem CK [GI:bM] {aR:Bk} {ab:ak} {r:ar×ak} (h:qL ab=some r):aT Tryz.prog 9 [.ptr aR 0] [(aR,.cells [eJ ab.L,I ab.at_])] (T0 ([(aR,.cells [eJ r.2.L,I r.2.at_])]) (ar.av r.1)):=by
 unfold qL at h
 refine aT.fM ?_
 refine aT.bJ Tryz.func9 J Tryz.ntmps9 Tryz.results9 J J ?_
 refine aS<|ct J J J J fun b1=>rN<|aS<|rM J J<|bj (xs:=([(0:Int),(5:Int),(30:Int),(100:Int)]).map I) J J J J J J<|aK h fun v2 e1 h=>bh J (bW e1) cR (.cons .p1 .nil) J J<|rM J J<|bj (xs:=([(30:Int),(100:Int),(250:Int),(1000:Int),(345686400000:Int)]).map I) J J J J J J<|aK h fun v3 e2 h=>bh J (bW e2) cR (.cons .p0 .nil) J J<|ae.qv (cJ J J J J J) J<|ct J J J J fun b4=>aQ J J J J .p0 J J<|rN<|tS<|aS<|rM J J<|aK h fun v5 e3 h=>bh J (iB e3) cR (.cons .p1 .nil) J J<|rN<|aa.cut (fun aH=>∃ (l6:List Int) (n7:Int) (n8:Int) (n9:Int),nt l6 n7 n8 n9=some r∧aH=⟨21,[(2,.ptr b1 0),(3,.ptr b4 0)],[(aR,.cells [eJ l6,I n7]),(b1,.cells [I (0:Int),I (0:Int)]),(b4,.cells [I n8,I n9])]⟩) ?_ ?_
 ·refine cB h J (fun h=>?_) (fun h=>?_)
  ·exact tR<|rM J J<|bj (xs:=([(-1:Int),(10:Int)]).map I) J J J J J J<|aK h fun v10 e4 h=>bh J (bW e4) cR (.cons .p0 .nil) J J<|rM J J<|bj (xs:=([(9:Int),(345686400001:Int)]).map I) J J J J J J<|aK h fun v11 e5 h=>bh J (bW e5) cR (.cons .p0 .nil) J J<|ae.qv (cJ J J J J J) J<|aQ J J J J .p1 J J<|rN<|aa.stop<|aj.lq [0,1,0] ⟨v11.2.L,v11.2.at_,v10.1,v11.1,h,J⟩ J J
  ·exact tK<|aa.stop<|aj.lq [0,1,0] ⟨v5.2.L,v5.2.at_,v2.1,v3.1,h,J⟩ J J
 ·rintro aH ⟨l6,n7,n8,n9,h,rfl⟩
  unfold nt at h
  refine aS<|ae.qv (bq J J .p2 J) J<|aQ J J J J .p1 J J<|rN<|aa.ret<|?_
  cases h
  exact aj.here ⟨_,.cons (.all _ _ _ _ _ _ J .p1 aP.h br.h J J) .nil,_,.cons .p0 .nil,⟨J,J⟩⟩
theorem wa [GI:bM] {ab:Int} {ah:Int} {ao:Int} {r:Bool} (h:xc ab ah ao=r):Pu Tryz.prog 43 [I ab,I ah,I ao] (.bool r):=by
 unfold xc at h
 refine aT.bJ Tryz.func43 J Tryz.ntmps43 Tryz.results43 J J ?_
 refine aS<|rA J J<|rN<|tS<|aa.cut (fun aH=>∃ (c1:Bool),yz c1=r∧aH=⟨15,[(6,.bool c1)],[]⟩) ?_ ?_
 ·refine tR<|rM J J<|rM J J<|ae.qv (ot J J) J<|rM J J<|ae.bH J J J (fun hc=>?_) (fun hc=>?_)
  ·rw [iD hc] at h
   exact rM J J<|rY J J J<|rM J J<|rY J J J<|ae.qv (ot J J) J<|rT J J J<|rA J J<|rN<|aa.stop<|aj.lq [] ⟨decide (ab≤ao),h,J⟩ J J
  ·rw [iE hc] at h
   exact rG J J J J<|rG J J J J<|rE J J J<|rA J J<|rN<|aa.stop<|aj.lq [] ⟨false,h,J⟩ J J
 ·rintro aH ⟨c1,h,rfl⟩
  unfold yz at h
  refine aa.ret<|?_
  obtain rfl:=h
  exact hP J J
theorem tt {ab:bO} {r:Bool} (h:ub ab=some r):Pu Tryz.prog 37 [.str ab] (.bool r):=by
 unfold ub at h
 refine aT.bJ Tryz.func37 J Tryz.ntmps37 Tryz.results37 J J ?_
 refine aS<|rA J J<|rN<|tS<|aa.cut (fun aH=>∃ (c1:Bool),ua c1=some r∧aH=⟨17,[(2,.bool c1)],[]⟩) ?_ ?_
 ·refine tR<|rM J J<|ae.qv (zm J) J<|bB J (wa J) cR J<|rM J J<|ae.guard J J J (fun hc=>?_) (fun hc=>?_)
  ·refine have h:=sW hc h;rM J J<|rY J J J<|aK h fun v2 e1 h=>bB J (BQ e1) cR J<|rY J J J<|ae.qv (uX J J) J<|rT J J J<|rM J J<|gT h J J J (fun h=>?_) (fun h=>?_)
   ·exact rM J J<|rY J J J<|aK h fun c3 e2 h=>ae.qv (td J J e2) J<|rY J J J<|bB J (xb J) cR J<|rY J J J<|ae.qv (tb J J) J<|rT J J J<|rA J J<|rN<|aa.stop<|aj.lq [] ⟨decide ((0:Int)≤(uI ([97,98,99,100,101,102,103,104,105,106,107,108,109,110,111,112,113,114,115,116,117,118,119,120,121,122]:bO) (c3.toNat:Int))),h,J⟩ J J
   ·exact rG J J J J<|rG J J J J<|rG J J J J<|rE J J J<|rA J J<|rN<|aa.stop<|aj.lq [] ⟨false,h,J⟩ J J
  ·exact have h:=ye hc h;rG J J J J<|rG J J J J<|rE J J J<|rM J J<|rG J J J J<|rG J J J J<|rG J J J J<|rG J J J J<|rE J J J<|rA J J<|rN<|aa.stop<|aj.lq [] ⟨false,h,J⟩ J J
 ·rintro aH ⟨c1,h,rfl⟩
  unfold ua at h
  refine aa.ret<|?_
  cases h
  exact hP J J
theorem AF {ab:List aB} {r:Int} (h:oE ab=some r):Pu Tryz.prog 12 [nG ab] (I r):=by
 unfold oE at h
 refine aT.bJ Tryz.func12 J Tryz.ntmps12 Tryz.results12 J J ?_
 refine aS<|rA J J<|rN<|tS<|aS<|rM J J<|ae.qv (cY J) J<|ae.qv (fW J J) J<|rN<|cD h J (fun h=>?_) (fun h=>?_)
 ·refine aS<|rA J J<|rN<|aa.ret<|?_
  cases h
  exact hP J J
 ·refine tK<|tS<|aS<|rM J J<|ae.qv (cY J) J<|rM J J<|rN<|aa.block<|aa.cw (fun x:Int=>lD ab x) (fun x aH=>aH=⟨85,[(0,nG ab),(9,nG ab),(10,I (ab.length:Int)),(11,I x)],[]⟩) h ?_ ?_
  ·exact aj.lq [] J J J
  ·intro n2 z1 aH J1 fe h k6 fh
   obtain rfl:=fe
   replace h:lD ab n2=some z1:=h
   unfold lD at h
   refine aS<|ae.qv (bE J J) J<|rN<|tS<|cD h J (fun h=>?_) (fun h=>?_)
   ·refine tK<|tS<|aa.cut (fun aH=>nZ n2=some z1∧aH=⟨85,[(0,nG ab),(9,nG ab),(10,I (ab.length:Int)),(11,I n2)],[]⟩) ?_ ?_
    ·refine aa.block<|aS<|rM J J<|aK h fun v3 e1 h=>ae.qv (bN J J J e1 J J) J<|ae.qv (bf J J J) J<|ct J J J J fun b4=>rA J J<|aQ J J J J .p0 J J<|rN<|tS<|aa.block<|tS<|aa.cut (fun aH=>∃ (c5:Bool),jt ab n2 v3 c5=some z1∧aH=⟨85,[(0,nG ab),(3,I n2),(4,.ptr b4 0),(9,nG ab),(10,I (ab.length:Int)),(11,I n2),(16,.bool c5)],[(b4,.cells (M9 v3))]⟩) ?_ ?_
     ·refine tR<|rF J J J<|rL J J .p0 J J<|aK h fun v6 e2 h=>bB J (tt e2) cR J<|ae.qv (eF J) J<|rM J J<|ae.guard J J J (fun hc=>?_) (fun hc=>?_)
      ·exact have h:=ye hc h;rF J J J<|rY J J J<|rL J J .p0 J J<|rY J J J<|aK h fun v7 e3 h=>bB J (tt e3) cR J<|rY J J J<|ae.qv (eF J) J<|rE J J J<|rA J J<|rN<|aa.stop<|aj.lq [0] ⟨!v7,h,J⟩ J J
      ·exact have h:=sW hc h;rG J J J J<|rG J J J J<|rG J J J J<|rT J J J<|rA J J<|rN<|aa.stop<|aj.lq [0] ⟨true,h,J⟩ J J
     ·rintro aH ⟨c5,h,rfl⟩
      unfold jt at h
      refine cB h J (fun h=>?_) (fun h=>?_)
      ·refine aS<|rA J J<|rN<|aa.ret<|have h:=bT h fh;?_
       cases h
       exact hP J J
      ·refine tS<|aa.cut (fun aH=>∃ (c8:Bool),lC ab n2 v3 c8=some z1∧aH=⟨85,[(0,nG ab),(3,I n2),(4,.ptr b4 0),(9,nG ab),(10,I (ab.length:Int)),(11,I n2),(27,.bool c8)],[(b4,.cells (M9 v3))]⟩) ?_ ?_
       ·refine tR<|rF J J J<|rF J J J<|rL J J .p0 J J<|ae.qv (bE J J) J<|rM J J<|ae.ff J J J (fun hc=>?_) (fun hc=>?_)
        ·rw [yh hc] at h
         refine rF J J J<|rY J J J<|rF J J J<|rY J J J<|rL J J .p0 J J<|rY J J J<|rF J J J<|rY J J J<|rF J J J<|rY J J J<|rL J J .p0 J J<|rY J J J<|ae.qv (tb J J) J<|rE J J J<|rM J J<|ae.ff J J J (fun hc=>?_) (fun hc=>?_)
         ·rw [yh hc] at h
          exact rF J J J<|rY J J J<|rF J J J<|rY J J J<|rL J J .p0 J J<|rY J J J<|ae.qv (fW J J) J<|rE J J J<|rA J J<|rN<|aa.stop<|aj.lq [0] ⟨decide ((345686400000:Int) < v3.Time.To),h,J⟩ J J
         ·rw [yg hc] at h
          exact rG J J J J<|rG J J J J<|rG J J J J<|rT J J J<|rA J J<|rN<|aa.stop<|aj.lq [0] ⟨true,h,J⟩ J J
        ·rw [yg hc] at h
         exact rG J J J J<|rG J J J J<|rG J J J J<|rG J J J J<|rG J J J J<|rG J J J J<|rT J J J<|rM J J<|rG J J J J<|rG J J J J<|rG J J J J<|rG J J J J<|rT J J J<|rA J J<|rN<|aa.stop<|aj.lq [0] ⟨true,h,J⟩ J J
       ·rintro aH ⟨c8,h,rfl⟩
        unfold lC at h
        refine cB h J (fun h=>?_) (fun h=>?_)
        ·refine aS<|rA J J<|rN<|aa.ret<|have h:=bT h fh;?_
         cases h
         exact hP J J
        ·refine aS<|rM J J<|ae.qv (cL J J) J<|rA J J<|rN<|cD h J (fun h=>?_) (fun h=>?_)
         ·exact aa.exit J<|aa.stop<|aj.lq [] ⟨h,J⟩ J J
         ·refine tK<|aa.cu<|aS<|rM J J<|rM J J<|ae.qv (bK J J) J<|aK h fun v9 e4 h=>ae.qv (bN J J J e4 J J) J<|ae.qv (bf J J J) J<|ct J J J J fun mF=>aQ J J J J .p0 J J<|rN<|tS<|tS<|aa.bS (id:=12) (A:=[0,1,0,4,15,0,32,96,0,256,768,2047,4095,8191,16383]) 15 mixed J (by kernel_rfl) (by kernel_rfl)<|AM.qv (az J J) J<|AM.qv (aF J J .p0 J) J<|AM.qv (az J J) J<|AM.qv (aF J J .p1 J) J<|AM.fL J (cr J) cR J<|AM.qv (az J J) J<|AM.qv (az J J) J<|AM.qv (aF J J .p0 J) J<|AM.qv (az J J) J<|AM.qv (az J J) J<|AM.qv (aF J J .p1 J) J<|AM.fL J (fD J) cR J<|AM.bL (xs:=([(Lib.compareBytes v9.cO v3.cO),(cmp_Compare_int v9.Time.aM v3.Time.aM)]:List Int).map I) J J J J J J<|aK h fun v11 e5 h=>AM.fL J (kS e5) cR J<|AM.qv (tb J J) J<|AM.nil<|rN<|cD h J (fun h=>?_) (fun h=>?_)
          ·refine aS<|rA J J<|rN<|aa.ret<|have h:=bT h fh;?_
           cases h
           exact hP J J
          ·refine tK<|tS<|aa.cut (fun aH=>∃ (vV:Bool),qo n2 vV=some z1∧aH=⟨85,[(0,nG ab),(9,nG ab),(10,I (ab.length:Int)),(11,I n2),(83,.bool vV)],[]⟩) ?_ ?_
           ·refine tR<|rF J J J<|rL J J .p0 J J<|rF J J J<|rL J J .p1 J J<|ae.qv (uX J J) J<|rM J J<|ae.bH J J J (fun hc=>?_) (fun hc=>?_)
            ·rw [iD hc] at h
             exact rF J J J<|rY J J J<|rF J J J<|rY J J J<|rL J J .p1 J J<|rY J J J<|rF J J J<|rY J J J<|rF J J J<|rY J J J<|rL J J .p0 J J<|rY J J J<|ae.qv (bE J J) J<|rT J J J<|rN<|aa.stop<|aj.lq [] ⟨decide (v3.Time.aM < v9.Time.To),h,J⟩ J J
            ·rw [iE hc] at h
             exact rG J J J J<|rG J J J J<|rG J J J J<|rG J J J J<|rG J J J J<|rG J J J J<|rE J J J<|rN<|aa.stop<|aj.lq [] ⟨false,h,J⟩ J J
           ·rintro aH ⟨vV,h,rfl⟩
            unfold qo at h
            refine cB h J (fun h=>?_) (fun h=>?_)
            ·refine aS<|rA J J<|rN<|aa.ret<|have h:=bT h fh;?_
             cases h
             exact hP J J
            ·exact tK<|aa.cu<|aa.stop<|aj.lq [] ⟨h,J⟩ J J
    ·rintro aH ⟨h,rfl⟩
     unfold nZ at h
     refine tR<|ae.qv (bc J J) J<|rM J J<|rN<|aa.stop<|?_
     cases h
     exact k6 _ _ J<|aj.lq [] J J J
   ·refine aa.exit J<|have h:=bT h fh;aS<|rA J J<|rN<|aa.ret<|?_
    cases h
    exact hP J J
theorem k7 [GI:bM] {ab:bO} {r:Bool} (h:jC ab=some r):Pu Tryz.prog 41 [.str ab] (.bool r):=by
 unfold jC at h
 refine aT.bJ Tryz.func41 J Tryz.ntmps41 Tryz.results41 J J ?_
 refine aS<|rA J J<|rN<|tS<|tS<|aa.cut (fun aH=>∃ (c1:Bool),nv ab c1=some r∧aH=⟨54,[(0,.str ab),(21,.bool c1)],[]⟩) ?_ ?_
 ·refine tR<|rM J J<|ae.qv (uX J J) J<|rM J J<|gF h J J J (fun h=>?_) (fun h=>?_)
  ·refine rM J J<|rY J J J<|ae.qv (zm J) J<|rY J J J<|ae.qv (fW J J) J<|rE J J J<|rM J J<|gF h J J J (fun h=>?_) (fun h=>?_)
   ·refine rM J J<|rY J J J<|aK h fun c2 e1 h=>ae.qv (td J J e1) J<|rY J J J<|ae.qv (bE J J) J<|rE J J J<|rM J J<|gF h J J J (fun h=>?_) (fun h=>?_)
    ·exact rM J J<|rY J J J<|aK h fun c3 e2 h=>ae.qv (td J J e2) J<|rY J J J<|ae.qv (fW J J) J<|rE J J J<|rN<|aa.stop<|aj.lq [] ⟨decide ((122:Int) < (c3.toNat:Int)),h,J⟩ J J
    ·exact rG J J J J<|rG J J J J<|rT J J J<|rN<|aa.stop<|aj.lq [] ⟨true,h,J⟩ J J
   ·exact rG J J J J<|rG J J J J<|rT J J J<|rM J J<|rG J J J J<|rG J J J J<|rG J J J J<|rT J J J<|rN<|aa.stop<|aj.lq [] ⟨true,h,J⟩ J J
  ·exact rG J J J J<|rG J J J J<|rT J J J<|rM J J<|rG J J J J<|rG J J J J<|rG J J J J<|rT J J J<|rM J J<|rG J J J J<|rG J J J J<|rG J J J J<|rT J J J<|rN<|aa.stop<|aj.lq [] ⟨true,h,J⟩ J J
 ·rintro aH ⟨c1,h,rfl⟩
  unfold nv at h
  refine cB h J (fun h=>?_) (fun h=>?_)
  ·refine aS<|rA J J<|rN<|aa.ret<|?_
   cases h
   exact hP J J
  ·refine tK<|tS<|aS<|rM J J<|ae.qv (zm J) J<|rM J J<|rN<|aa.block<|aa.cw (fun x:Int=>nu ab x) (fun x aH=>aH=⟨54,[(0,.str ab),(23,I (ab.length:Int)),(24,I x)],[]⟩) h ?_ ?_
   ·exact aj.lq [] J J J
   ·intro n5 z1 aH J1 fe h k6 fh
    obtain rfl:=fe
    replace h:nu ab n5=some z1:=h
    unfold nu at h
    refine aS<|ae.qv (bE J J) J<|rN<|tS<|cD h J (fun h=>?_) (fun h=>?_)
    ·refine tK<|tS<|aa.block<|aS<|rM J J<|rA J J<|rN<|aS<|rM J J<|rM J J<|aK h fun c6 e3 h=>ae.qv (td J J e3) J<|rA J J<|rN<|tS<|aa.cut (fun aH=>∃ (c7:Bool),ti n5 c7=some z1∧aH=⟨54,[(0,.str ab),(23,I (ab.length:Int)),(24,I n5),(52,.bool c7)],[]⟩) ?_ ?_
     ·refine tR<|rM J J<|ae.qv (tb J J) J<|rM J J<|ae.bH J J J (fun hc=>?_) (fun hc=>?_)
      ·rw [if_pos hc] at h
       refine rM J J<|rY J J J<|ae.qv (ot J J) J<|rT J J J<|rM J J<|ae.ff J J J (fun hc=>?_) (fun hc=>?_)
       ·rw [if_neg hc] at h
        refine rM J J<|rY J J J<|ae.qv (tb J J) J<|rY J J J<|rM J J<|ae.bH J J J (fun hc=>?_) (fun hc=>?_)
        ·rw [if_pos hc] at h
         refine rM J J<|rY J J J<|ae.qv (ot J J) J<|rY J J J<|rT J J J<|rE J J J<|rM J J<|ae.ff J J J (fun hc=>?_) (fun hc=>?_)
         ·rw [if_neg hc] at h
          refine rM J J<|rY J J J<|ae.qv (cL J J) J<|rE J J J<|rM J J<|ae.ff J J J (fun hc=>?_) (fun hc=>?_)
          ·rw [if_neg hc] at h
           exact rM J J<|rY J J J<|ae.qv (cL J J) J<|rE J J J<|ae.qv (lY J) J<|rN<|aa.stop<|aj.lq [] ⟨decide (¬ ((c6.toNat:Int)=(95:Int))),h,J⟩ J J
          ·rw [if_pos hc] at h
           exact rG J J J J<|rT J J J<|ae.qv (eF J) J<|rN<|aa.stop<|aj.lq [] ⟨!true,h,J⟩ J J
         ·rw [if_pos hc] at h
          exact rG J J J J<|rT J J J<|rM J J<|rG J J J J<|rG J J J J<|rT J J J<|ae.qv (eF J) J<|rN<|aa.stop<|aj.lq [] ⟨!true,h,J⟩ J J
        ·rw [if_neg hc] at h
         refine rG J J J J<|rY J J J<|rE J J J<|rE J J J<|rM J J<|rY J J J<|rM J J<|rY J J J<|ae.qv (cL J J) J<|rE J J J<|rM J J<|ae.ff J J J (fun hc=>?_) (fun hc=>?_)
         ·rw [if_neg hc] at h
          exact rM J J<|rY J J J<|ae.qv (cL J J) J<|rE J J J<|ae.qv (lY J) J<|rN<|aa.stop<|aj.lq [] ⟨decide (¬ ((c6.toNat:Int)=(95:Int))),h,J⟩ J J
         ·rw [if_pos hc] at h
          exact rG J J J J<|rT J J J<|ae.qv (eF J) J<|rN<|aa.stop<|aj.lq [] ⟨!true,h,J⟩ J J
       ·rw [if_pos hc] at h
        exact rG J J J J<|rG J J J J<|ae.j0 J J J<|ae.j0 J J J<|rG J J J J<|rT J J J<|rM J J<|rG J J J J<|rG J J J J<|rT J J J<|rM J J<|rG J J J J<|rG J J J J<|rT J J J<|ae.qv (eF J) J<|rN<|aa.stop<|aj.lq [] ⟨!true,h,J⟩ J J
      ·rw [if_neg hc] at h
       refine rG J J J J<|rE J J J<|rM J J<|rY J J J<|rM J J<|rY J J J<|ae.qv (tb J J) J<|rY J J J<|rM J J<|ae.bH J J J (fun hc=>?_) (fun hc=>?_)
       ·rw [if_pos hc] at h
        refine rM J J<|rY J J J<|ae.qv (ot J J) J<|rY J J J<|rT J J J<|rE J J J<|rM J J<|ae.ff J J J (fun hc=>?_) (fun hc=>?_)
        ·rw [if_neg hc] at h
         refine rM J J<|rY J J J<|ae.qv (cL J J) J<|rE J J J<|rM J J<|ae.ff J J J (fun hc=>?_) (fun hc=>?_)
         ·rw [if_neg hc] at h
          exact rM J J<|rY J J J<|ae.qv (cL J J) J<|rE J J J<|ae.qv (lY J) J<|rN<|aa.stop<|aj.lq [] ⟨decide (¬ ((c6.toNat:Int)=(95:Int))),h,J⟩ J J
         ·rw [if_pos hc] at h
          exact rG J J J J<|rT J J J<|ae.qv (eF J) J<|rN<|aa.stop<|aj.lq [] ⟨!true,h,J⟩ J J
        ·rw [if_pos hc] at h
         exact rG J J J J<|rT J J J<|rM J J<|rG J J J J<|rG J J J J<|rT J J J<|ae.qv (eF J) J<|rN<|aa.stop<|aj.lq [] ⟨!true,h,J⟩ J J
       ·rw [if_neg hc] at h
        refine rG J J J J<|rY J J J<|rE J J J<|rE J J J<|rM J J<|rY J J J<|rM J J<|rY J J J<|ae.qv (cL J J) J<|rE J J J<|rM J J<|ae.ff J J J (fun hc=>?_) (fun hc=>?_)
        ·rw [if_neg hc] at h
         exact rM J J<|rY J J J<|ae.qv (cL J J) J<|rE J J J<|ae.qv (lY J) J<|rN<|aa.stop<|aj.lq [] ⟨decide (¬ ((c6.toNat:Int)=(95:Int))),h,J⟩ J J
        ·rw [if_pos hc] at h
         exact rG J J J J<|rT J J J<|ae.qv (eF J) J<|rN<|aa.stop<|aj.lq [] ⟨!true,h,J⟩ J J
     ·rintro aH ⟨c7,h,rfl⟩
      unfold ti at h
      refine cB h J (fun h=>?_) (fun h=>?_)
      ·refine aS<|rA J J<|rN<|aa.ret<|have h:=bT h fh;?_
       cases h
       exact hP J J
      ·refine tK<|aa.cu<|tR<|ae.qv (bc J J) J<|rM J J<|rN<|aa.stop<|?_
       cases h
       exact k6 _ _ J<|aj.lq [] J J J
    ·refine aa.exit J<|have h:=bT h fh;aS<|rA J J<|rN<|aa.ret<|?_
     cases h
     exact hP J J
theorem qt [GI:bM] {ab:Int} {ah:Int} {ao:Int} {r:Bool} (h:mq ab ah ao=r):Pu Tryz.prog 42 [I ab,I ah,I ao] (.bool r):=by
 unfold mq at h
 refine aT.bJ Tryz.func42 J Tryz.ntmps42 Tryz.results42 J J ?_
 refine aS<|rA J J<|rN<|tS<|aa.cut (fun aH=>∃ (c1:Bool),vX c1=r∧aH=⟨15,[(6,.bool c1)],[]⟩) ?_ ?_
 ·refine tR<|rM J J<|rM J J<|ae.qv (bE J J) J<|rM J J<|ae.ff J J J (fun hc=>?_) (fun hc=>?_)
  ·rw [yh hc] at h
   exact rM J J<|rY J J J<|rM J J<|rY J J J<|ae.qv (fW J J) J<|rE J J J<|rA J J<|rN<|aa.stop<|aj.lq [] ⟨decide (ao < ab),h,J⟩ J J
  ·rw [yg hc] at h
   exact rG J J J J<|rG J J J J<|rT J J J<|rA J J<|rN<|aa.stop<|aj.lq [] ⟨true,h,J⟩ J J
 ·rintro aH ⟨c1,h,rfl⟩
  unfold vX at h
  refine aa.ret<|?_
  obtain rfl:=h
  exact hP J J
theorem qT [GI:bM] {ab:List aA} {r:Int} (h:cQ ab=some r):Pu Tryz.prog 13 [tN ab] (I r):=by
 unfold cQ at h
 refine aT.bJ Tryz.func13 J Tryz.ntmps13 Tryz.results13 J J ?_
 refine aS<|rA J J<|rN<|tS<|aS<|rM J J<|ae.qv (cY J) J<|ae.qv (fW J J) J<|rN<|cD h J (fun h=>?_) (fun h=>?_)
 ·refine aS<|rA J J<|rN<|aa.ret<|?_
  cases h
  exact hP J J
 ·refine tK<|tS<|aS<|rM J J<|ae.qv (cY J) J<|rM J J<|rN<|aa.block<|aa.cw (fun x:Int=>fG ab x) (fun x aH=>aH=⟨88,[(0,tN ab),(10,tN ab),(11,I (ab.length:Int)),(12,I x)],[]⟩) h ?_ ?_
  ·exact aj.lq [] J J J
  ·intro n2 z1 aH J1 fe h k6 fh
   obtain rfl:=fe
   replace h:fG ab n2=some z1:=h
   unfold fG at h
   refine aS<|ae.qv (bE J J) J<|rN<|tS<|cD h J (fun h=>?_) (fun h=>?_)
   ·refine tK<|tS<|aa.block<|aS<|rM J J<|aK h fun v3 e1 h=>ae.qv (bN J J J e1 J J) J<|ae.qv (bf J J J) J<|ct J J J J fun b4=>rA J J<|aQ J J J J .p0 J J<|rN<|tS<|aa.block<|aS<|rF J J J<|rL J J .p0 J J<|aK h fun v5 e2 h=>bB J (k7 e2) cR J<|ae.qv (eF J) J<|rA J J<|rN<|cB h J (fun h=>?_) (fun h=>?_)
    ·refine aS<|rA J J<|rN<|aa.ret<|have h:=bT h fh;?_
     cases h
     exact hP J J
    ·refine tS<|aa.cut (fun aH=>∃ (c6:Bool),dL n2 v3 c6=some z1∧aH=⟨88,[(0,tN ab),(4,.ptr b4 0),(10,tN ab),(11,I (ab.length:Int)),(12,I n2),(22,.bool c6)],[(b4,.cells [.str v3.bg,x6 v3.aV,I v3.aX])]⟩) ?_ ?_
     ·refine aa.bS (id:=8) (A:=[0,1,3,7,15,7,7,71,231,487,999,2047,4095,8191]) 14 mixed J (by kernel_rfl) (by kernel_rfl)<|AM.qv (ax J) J<|AM.qv (fW J J) J<|AM.qv (ax J) J<|AM.bH J J J (fun hc=>?_) (fun hc=>?_)
      ·exact have h:=sW hc h;AM.qv (az J J) J<|AM.aI J J J<|AM.qv (aF J J .p0 J) J<|AM.aI J J J<|AM.qv (ax J) J<|AM.aI J J J<|AM.qv (ax J) J<|AM.aI J J J<|AM.qv (bK J J) J<|AM.aI J J J<|aK h fun v7 e3 h=>AM.qv (bN J J J e3 J J) J<|AM.aI J J J<|AM.qv (aO J J) J<|AM.aI J J J<|AM.qv (aJ J J J) J<|AM.aI J J J<|AM.qv (J0 J J) J<|AM.qv (kj J J) J<|AM.qv (bZ J) J<|AM.nil<|rN<|aa.stop<|aj.lq [0] ⟨Op.bytesLess v3.bg v7.bg||v3.bg==v7.bg,h,J⟩ J J
      ·exact have h:=zq hc h;AM.aN J J J J<|AM.aN J J J J<|AM.aN J J J J<|AM.aN J J J J<|AM.aN J J J J<|AM.aN J J J J<|AM.aN J J J J<|AM.aN J J J J<|AM.qv (jz J J) J<|AM.qv (bZ J) J<|AM.nil<|rN<|aa.stop<|aj.lq [0] ⟨false,h,J⟩ J J
     ·rintro aH ⟨c6,h,rfl⟩
      unfold dL at h
      refine cB h J (fun h=>?_) (fun h=>?_)
      ·refine aS<|rA J J<|rN<|aa.ret<|have h:=bT h fh;?_
       cases h
       exact hP J J
      ·refine aS<|rF J J J<|rL J J .p0 J J<|ae.qv (cY J) J<|ae.qv (cL J J) J<|rA J J<|rN<|cD h J (fun h=>?_) (fun h=>?_)
       ·refine aS<|rA J J<|rN<|aa.ret<|have h:=bT h fh;?_
        cases h
        exact hP J J
       ·refine aS<|rF J J J<|rL J J .p0 J J<|ae.qv (cY J) J<|ae.qv (fW J J) J<|rA J J<|rN<|cD h J (fun h=>?_) (fun h=>?_)
        ·refine aS<|rA J J<|rN<|aa.ret<|have h:=bT h fh;?_
         cases h
         exact hP J J
        ·refine tK<|aa.cu<|tS<|aS<|rF J J J<|rL J J .p0 J J<|ae.qv (cY J) J<|rM J J<|rN<|aa.block<|aa.cw (fun x:Int=>fF n2 v3 x) (fun x aH=>aH=⟨88,[(0,tN ab),(4,.ptr b4 0),(10,tN ab),(11,I (ab.length:Int)),(12,I n2),(47,x6 v3.aV),(48,I (v3.aV.length:Int)),(49,I x)],[(b4,.cells [.str v3.bg,x6 v3.aV,I v3.aX])]⟩) h ?_ ?_
         ·exact aj.lq [0] J J J
         ·intro n9 z2 aH J2 fe h yD vr
          obtain rfl:=fe
          replace h:fF n2 v3 n9=some z2:=h
          unfold fF at h
          refine aS<|ae.qv (bE J J) J<|rN<|tS<|cD h J (fun h=>?_) (fun h=>?_)
          ·refine tK<|tS<|aa.block<|aS<|rM J J<|aK h fun v10 e4 h=>ae.qv (bN J J J e4 J J) J<|ae.qv (bf J J J) J<|ct J J J J fun vu=>rA J J<|aQ J J J J .p0 J J<|rN<|aa.block<|aS<|rF J J J<|rL J J .p0 J J<|bB J (qt J) cR J<|rA J J<|rN<|cB h J (fun h=>?_) (fun h=>?_)
           ·refine aS<|rA J J<|rN<|aa.ret<|have h:=bT h vr;have h:=bT h fh;?_
            cases h
            exact hP J J
           ·refine tS<|aa.cut (fun aH=>∃ (vV:Bool),da n9 v10 vV=some z2∧aH=⟨88,[(0,tN ab),(4,.ptr b4 0),(6,.ptr vu 0),(10,tN ab),(11,I (ab.length:Int)),(12,I n2),(47,x6 v3.aV),(48,I (v3.aV.length:Int)),(49,I n9),(58,.bool vV)],[(b4,.cells [.str v3.bg,x6 v3.aV,I v3.aX]),(vu,.cells [I v10.bn,.str v10.cO])]⟩) ?_ ?_
            ·refine aa.bS (id:=19) (A:=[0,1,3,7,15,7,39,7,135,487,999,2023,4095,8191,16383]) 15 mixed J (by kernel_rfl) (by kernel_rfl)<|AM.qv (ax J) J<|AM.qv (fW J J) J<|AM.qv (ax J) J<|AM.bH J J J (fun hc=>?_) (fun hc=>?_)
             ·exact have h:=sW hc h;AM.qv (az J J) J<|AM.aI J J J<|AM.qv (aF J J .p0 J) J<|AM.aI J J J<|AM.qv (az J J) J<|AM.aI J J J<|AM.qv (aF J J .p1 J) J<|AM.aI J J J<|AM.qv (ax J) J<|AM.aI J J J<|AM.qv (bK J J) J<|AM.aI J J J<|aK h fun fo e5 h=>AM.qv (bN J J J e5 J J) J<|AM.aI J J J<|AM.qv (aO J J) J<|AM.aI J J J<|AM.qv (aJ J J J) J<|AM.aI J J J<|AM.qv (ot J J) J<|AM.qv (kj J J) J<|AM.qv (bZ J) J<|AM.nil<|rN<|aa.stop<|aj.lq [1,0] ⟨decide (v10.bn≤fo.bn),h,J⟩ J J
             ·exact have h:=zq hc h;AM.aN J J J J<|AM.aN J J J J<|AM.aN J J J J<|AM.aN J J J J<|AM.aN J J J J<|AM.aN J J J J<|AM.aN J J J J<|AM.aN J J J J<|AM.aN J J J J<|AM.qv (jz J J) J<|AM.qv (bZ J) J<|AM.nil<|rN<|aa.stop<|aj.lq [1,0] ⟨false,h,J⟩ J J
            ·rintro aH ⟨vV,h,rfl⟩
             unfold da at h
             refine cB h J (fun h=>?_) (fun h=>?_)
             ·refine aS<|rA J J<|rN<|aa.ret<|have h:=bT h vr;have h:=bT h fh;?_
              cases h
              exact hP J J
             ·refine aS<|rF J J J<|rL J J .p1 J J<|aK h fun gR e6 h=>bB J (k7 e6) cR J<|ae.qv (eF J) J<|rA J J<|rN<|cB h J (fun h=>?_) (fun h=>?_)
              ·refine aS<|rA J J<|rN<|aa.ret<|have h:=bT h vr;have h:=bT h fh;?_
               cases h
               exact hP J J
              ·refine tK<|aa.cu<|aa.cu<|tR<|ae.qv (bc J J) J<|rM J J<|rN<|aa.stop<|?_
               cases h
               exact yD _ _ J<|aj.lq [0] J J J
          ·refine aa.exit J<|have h:=bT h vr;tS<|aa.cut (fun aH=>∃ (BS:Bool),jR n2 BS=some z1∧aH=⟨88,[(0,tN ab),(10,tN ab),(11,I (ab.length:Int)),(12,I n2),(86,.bool BS)],[]⟩) ?_ ?_
           ·refine tR<|rF J J J<|rL J J .p0 J J<|ae.qv (jU J J) J<|rM J J<|ae.bH J J J (fun hc=>?_) (fun hc=>?_)
            ·rw [iD hc] at h
             exact rF J J J<|rY J J J<|rL J J .p0 J J<|rY J J J<|bB J (qt J) cR J<|rT J J J<|rN<|aa.stop<|aj.lq [] ⟨(mq v3.aX (1000:Int) (2592000000:Int)),h,J⟩ J J
            ·rw [iE hc] at h
             exact rG J J J J<|rG J J J J<|rE J J J<|rN<|aa.stop<|aj.lq [] ⟨false,h,J⟩ J J
           ·rintro aH ⟨BS,h,rfl⟩
            unfold jR at h
            refine cB h J (fun h=>?_) (fun h=>?_)
            ·refine aS<|rA J J<|rN<|aa.ret<|have h:=bT h fh;?_
             cases h
             exact hP J J
            ·refine tK<|aa.cu<|tR<|ae.qv (bc J J) J<|rM J J<|rN<|aa.stop<|?_
             cases h
             exact k6 _ _ J<|aj.lq [] J J J
   ·refine aa.exit J<|have h:=bT h fh;aS<|rA J J<|rN<|aa.ret<|?_
    cases h
    exact hP J J
theorem uj {ab:List aA} {r:Int} (h:jD ab=some r):Pu Tryz.prog 14 [tN ab] (I r):=by
 unfold jD at h
 refine aT.bJ Tryz.func14 J Tryz.ntmps14 Tryz.results14 J J ?_
 refine aS<|rA J J<|rN<|tS<|aS<|rM J J<|ae.qv (cY J) J<|ae.qv (fW J J) J<|rN<|cD h J (fun h=>?_) (fun h=>?_)
 ·refine aS<|rA J J<|rN<|aa.ret<|?_
  cases h
  exact hP J J
 ·refine tK<|tS<|aS<|rM J J<|ae.qv (cY J) J<|rM J J<|rN<|aa.block<|aa.cw (fun x:Int=>kF ab x) (fun x aH=>aH=⟨90,[(0,tN ab),(10,tN ab),(11,I (ab.length:Int)),(12,I x)],[]⟩) h ?_ ?_
  ·exact aj.lq [] J J J
  ·intro n2 z1 aH J1 fe h k6 fh
   obtain rfl:=fe
   replace h:kF ab n2=some z1:=h
   unfold kF at h
   refine aS<|ae.qv (bE J J) J<|rN<|tS<|cD h J (fun h=>?_) (fun h=>?_)
   ·refine tK<|tS<|aa.block<|aS<|rM J J<|aK h fun v3 e1 h=>ae.qv (bN J J J e1 J J) J<|ae.qv (bf J J J) J<|ct J J J J fun b4=>rA J J<|aQ J J J J .p0 J J<|rN<|tS<|aa.block<|aS<|rF J J J<|rL J J .p0 J J<|aK h fun v5 e2 h=>bB J (tt e2) cR J<|ae.qv (eF J) J<|rA J J<|rN<|cB h J (fun h=>?_) (fun h=>?_)
    ·refine aS<|rA J J<|rN<|aa.ret<|have h:=bT h fh;?_
     cases h
     exact hP J J
    ·refine tS<|aa.cut (fun aH=>∃ (c6:Bool),kE n2 v3 c6=some z1∧aH=⟨90,[(0,tN ab),(4,.ptr b4 0),(10,tN ab),(11,I (ab.length:Int)),(12,I n2),(22,.bool c6)],[(b4,.cells [.str v3.bg,x6 v3.aV,I v3.aX])]⟩) ?_ ?_
     ·refine aa.bS (id:=8) (A:=[0,1,3,7,15,7,7,71,231,487,999,2047,4095,8191]) 14 mixed J (by kernel_rfl) (by kernel_rfl)<|AM.qv (ax J) J<|AM.qv (fW J J) J<|AM.qv (ax J) J<|AM.bH J J J (fun hc=>?_) (fun hc=>?_)
      ·exact have h:=sW hc h;AM.qv (az J J) J<|AM.aI J J J<|AM.qv (aF J J .p0 J) J<|AM.aI J J J<|AM.qv (ax J) J<|AM.aI J J J<|AM.qv (ax J) J<|AM.aI J J J<|AM.qv (bK J J) J<|AM.aI J J J<|aK h fun v7 e3 h=>AM.qv (bN J J J e3 J J) J<|AM.aI J J J<|AM.qv (aO J J) J<|AM.aI J J J<|AM.qv (aJ J J J) J<|AM.aI J J J<|AM.qv (J0 J J) J<|AM.qv (kj J J) J<|AM.qv (bZ J) J<|AM.nil<|rN<|aa.stop<|aj.lq [0] ⟨Op.bytesLess v3.bg v7.bg||v3.bg==v7.bg,h,J⟩ J J
      ·exact have h:=zq hc h;AM.aN J J J J<|AM.aN J J J J<|AM.aN J J J J<|AM.aN J J J J<|AM.aN J J J J<|AM.aN J J J J<|AM.aN J J J J<|AM.aN J J J J<|AM.qv (jz J J) J<|AM.qv (bZ J) J<|AM.nil<|rN<|aa.stop<|aj.lq [0] ⟨false,h,J⟩ J J
     ·rintro aH ⟨c6,h,rfl⟩
      unfold kE at h
      refine cB h J (fun h=>?_) (fun h=>?_)
      ·refine aS<|rA J J<|rN<|aa.ret<|have h:=bT h fh;?_
       cases h
       exact hP J J
      ·refine aS<|rF J J J<|rL J J .p0 J J<|ae.qv (cY J) J<|ae.qv (cL J J) J<|rA J J<|rN<|cD h J (fun h=>?_) (fun h=>?_)
       ·refine aS<|rA J J<|rN<|aa.ret<|have h:=bT h fh;?_
        cases h
        exact hP J J
       ·refine aS<|rF J J J<|rL J J .p0 J J<|ae.qv (cY J) J<|ae.qv (fW J J) J<|rA J J<|rN<|cD h J (fun h=>?_) (fun h=>?_)
        ·refine aS<|rA J J<|rN<|aa.ret<|have h:=bT h fh;?_
         cases h
         exact hP J J
        ·refine tK<|aa.cu<|tS<|aS<|rF J J J<|rL J J .p0 J J<|ae.qv (cY J) J<|rM J J<|rN<|aa.block<|aa.cw (fun x:Int=>kD n2 v3 x) (fun x aH=>aH=⟨90,[(0,tN ab),(4,.ptr b4 0),(10,tN ab),(11,I (ab.length:Int)),(12,I n2),(47,x6 v3.aV),(48,I (v3.aV.length:Int)),(49,I x)],[(b4,.cells [.str v3.bg,x6 v3.aV,I v3.aX])]⟩) h ?_ ?_
         ·exact aj.lq [0] J J J
         ·intro n9 z2 aH J2 fe h yD vr
          obtain rfl:=fe
          replace h:kD n2 v3 n9=some z2:=h
          unfold kD at h
          refine aS<|ae.qv (bE J J) J<|rN<|tS<|cD h J (fun h=>?_) (fun h=>?_)
          ·refine tK<|tS<|aa.block<|aS<|rM J J<|aK h fun v10 e4 h=>ae.qv (bN J J J e4 J J) J<|ae.qv (bf J J J) J<|ct J J J J fun vu=>rA J J<|aQ J J J J .p0 J J<|rN<|aa.block<|aS<|rF J J J<|rL J J .p0 J J<|bB J (wa J) cR J<|ae.qv (eF J) J<|rA J J<|rN<|cB h J (fun h=>?_) (fun h=>?_)
           ·refine aS<|rA J J<|rN<|aa.ret<|have h:=bT h vr;have h:=bT h fh;?_
            cases h
            exact hP J J
           ·refine tS<|aa.cut (fun aH=>∃ (vV:Bool),iU n9 v10 vV=some z2∧aH=⟨90,[(0,tN ab),(4,.ptr b4 0),(6,.ptr vu 0),(10,tN ab),(11,I (ab.length:Int)),(12,I n2),(47,x6 v3.aV),(48,I (v3.aV.length:Int)),(49,I n9),(59,.bool vV)],[(b4,.cells [.str v3.bg,x6 v3.aV,I v3.aX]),(vu,.cells [I v10.bn,.str v10.cO])]⟩) ?_ ?_
            ·refine aa.bS (id:=19) (A:=[0,1,3,7,15,7,39,7,135,487,999,2023,4095,8191,16383]) 15 mixed J (by kernel_rfl) (by kernel_rfl)<|AM.qv (ax J) J<|AM.qv (fW J J) J<|AM.qv (ax J) J<|AM.bH J J J (fun hc=>?_) (fun hc=>?_)
             ·exact have h:=sW hc h;AM.qv (az J J) J<|AM.aI J J J<|AM.qv (aF J J .p0 J) J<|AM.aI J J J<|AM.qv (az J J) J<|AM.aI J J J<|AM.qv (aF J J .p1 J) J<|AM.aI J J J<|AM.qv (ax J) J<|AM.aI J J J<|AM.qv (bK J J) J<|AM.aI J J J<|aK h fun fo e5 h=>AM.qv (bN J J J e5 J J) J<|AM.aI J J J<|AM.qv (aO J J) J<|AM.aI J J J<|AM.qv (aJ J J J) J<|AM.aI J J J<|AM.qv (ot J J) J<|AM.qv (kj J J) J<|AM.qv (bZ J) J<|AM.nil<|rN<|aa.stop<|aj.lq [1,0] ⟨decide (v10.bn≤fo.bn),h,J⟩ J J
             ·exact have h:=zq hc h;AM.aN J J J J<|AM.aN J J J J<|AM.aN J J J J<|AM.aN J J J J<|AM.aN J J J J<|AM.aN J J J J<|AM.aN J J J J<|AM.aN J J J J<|AM.aN J J J J<|AM.qv (jz J J) J<|AM.qv (bZ J) J<|AM.nil<|rN<|aa.stop<|aj.lq [1,0] ⟨false,h,J⟩ J J
            ·rintro aH ⟨vV,h,rfl⟩
             unfold iU at h
             refine cB h J (fun h=>?_) (fun h=>?_)
             ·refine aS<|rA J J<|rN<|aa.ret<|have h:=bT h vr;have h:=bT h fh;?_
              cases h
              exact hP J J
             ·refine aS<|rF J J J<|rL J J .p1 J J<|aK h fun gR e6 h=>bB J (tt e6) cR J<|ae.qv (eF J) J<|rA J J<|rN<|cB h J (fun h=>?_) (fun h=>?_)
              ·refine aS<|rA J J<|rN<|aa.ret<|have h:=bT h vr;have h:=bT h fh;?_
               cases h
               exact hP J J
              ·refine tK<|aa.cu<|aa.cu<|tR<|ae.qv (bc J J) J<|rM J J<|rN<|aa.stop<|?_
               cases h
               exact yD _ _ J<|aj.lq [0] J J J
          ·refine aa.exit J<|have h:=bT h vr;tS<|aa.cut (fun aH=>∃ (BS:Bool),pJ n2 BS=some z1∧aH=⟨90,[(0,tN ab),(10,tN ab),(11,I (ab.length:Int)),(12,I n2),(88,.bool BS)],[]⟩) ?_ ?_
           ·refine tR<|rF J J J<|rL J J .p0 J J<|ae.qv (jU J J) J<|rM J J<|ae.bH J J J (fun hc=>?_) (fun hc=>?_)
            ·rw [iD hc] at h
             exact rF J J J<|rY J J J<|rL J J .p0 J J<|rY J J J<|bB J (wa J) cR J<|rY J J J<|ae.qv (eF J) J<|rT J J J<|rN<|aa.stop<|aj.lq [] ⟨!(xc v3.aX (1000:Int) (2592000000:Int)),h,J⟩ J J
            ·rw [iE hc] at h
             exact rG J J J J<|rG J J J J<|rG J J J J<|rE J J J<|rN<|aa.stop<|aj.lq [] ⟨false,h,J⟩ J J
           ·rintro aH ⟨BS,h,rfl⟩
            unfold pJ at h
            refine cB h J (fun h=>?_) (fun h=>?_)
            ·refine aS<|rA J J<|rN<|aa.ret<|have h:=bT h fh;?_
             cases h
             exact hP J J
            ·refine tK<|aa.cu<|tR<|ae.qv (bc J J) J<|rM J J<|rN<|aa.stop<|?_
             cases h
             exact k6 _ _ J<|aj.lq [] J J J
   ·refine aa.exit J<|have h:=bT h fh;aS<|rA J J<|rN<|aa.ret<|?_
    cases h
    exact hP J J
theorem ox [GI:bM] {ab:List aB} {r:Int} (h:cP ab=some r):Pu Tryz.prog 15 [nG ab] (I r):=by
 unfold cP at h
 refine aT.bJ Tryz.func15 J Tryz.ntmps15 Tryz.results15 J J ?_
 refine aS<|rA J J<|rN<|tS<|aS<|rM J J<|ae.qv (cY J) J<|ae.qv (fW J J) J<|rN<|cD h J (fun h=>?_) (fun h=>?_)
 ·refine aS<|rA J J<|rN<|aa.ret<|?_
  cases h
  exact hP J J
 ·refine tK<|tS<|aS<|rM J J<|ae.qv (cY J) J<|rM J J<|rN<|aa.block<|aa.cw (fun x:Int=>fZ ab x) (fun x aH=>aH=⟨86,[(0,nG ab),(9,nG ab),(10,I (ab.length:Int)),(11,I x)],[]⟩) h ?_ ?_
  ·exact aj.lq [] J J J
  ·intro n2 z1 aH J1 fe h k6 fh
   obtain rfl:=fe
   replace h:fZ ab n2=some z1:=h
   unfold fZ at h
   refine aS<|ae.qv (bE J J) J<|rN<|tS<|cD h J (fun h=>?_) (fun h=>?_)
   ·refine tK<|tS<|aa.cut (fun aH=>fX n2=some z1∧aH=⟨86,[(0,nG ab),(9,nG ab),(10,I (ab.length:Int)),(11,I n2)],[]⟩) ?_ ?_
    ·refine aa.block<|aS<|rM J J<|aK h fun v3 e1 h=>ae.qv (bN J J J e1 J J) J<|ae.qv (bf J J J) J<|ct J J J J fun b4=>rA J J<|aQ J J J J .p0 J J<|rN<|tS<|aa.block<|tS<|aa.cut (fun aH=>∃ (c5:Bool),du ab n2 v3 c5=some z1∧aH=⟨86,[(0,nG ab),(3,I n2),(4,.ptr b4 0),(9,nG ab),(10,I (ab.length:Int)),(11,I n2),(16,.bool c5)],[(b4,.cells (M9 v3))]⟩) ?_ ?_
     ·refine tR<|rF J J J<|rL J J .p0 J J<|aK h fun v6 e2 h=>bB J (k7 e2) cR J<|ae.qv (eF J) J<|rM J J<|ae.guard J J J (fun hc=>?_) (fun hc=>?_)
      ·exact have h:=ye hc h;rF J J J<|rY J J J<|rL J J .p0 J J<|rY J J J<|aK h fun v7 e3 h=>bB J (k7 e3) cR J<|rY J J J<|ae.qv (eF J) J<|rE J J J<|rA J J<|rN<|aa.stop<|aj.lq [0] ⟨!v7,h,J⟩ J J
      ·exact have h:=sW hc h;rG J J J J<|rG J J J J<|rG J J J J<|rT J J J<|rA J J<|rN<|aa.stop<|aj.lq [0] ⟨true,h,J⟩ J J
     ·rintro aH ⟨c5,h,rfl⟩
      unfold du at h
      refine cB h J (fun h=>?_) (fun h=>?_)
      ·refine aS<|rA J J<|rN<|aa.ret<|have h:=bT h fh;?_
       cases h
       exact hP J J
      ·refine tS<|aa.cut (fun aH=>∃ (c8:Bool),fY ab n2 v3 c8=some z1∧aH=⟨86,[(0,nG ab),(3,I n2),(4,.ptr b4 0),(9,nG ab),(10,I (ab.length:Int)),(11,I n2),(27,.bool c8)],[(b4,.cells (M9 v3))]⟩) ?_ ?_
       ·refine tR<|rF J J J<|rF J J J<|rL J J .p0 J J<|rF J J J<|rF J J J<|rL J J .p0 J J<|ae.qv (tb J J) J<|rM J J<|ae.ff J J J (fun hc=>?_) (fun hc=>?_)
        ·rw [yh hc] at h
         refine rF J J J<|rY J J J<|rF J J J<|rY J J J<|rL J J .p0 J J<|rY J J J<|ae.qv (bE J J) J<|rE J J J<|rM J J<|ae.ff J J J (fun hc=>?_) (fun hc=>?_)
         ·rw [yh hc] at h
          exact rF J J J<|rY J J J<|rF J J J<|rY J J J<|rL J J .p0 J J<|rY J J J<|ae.qv (fW J J) J<|rE J J J<|rA J J<|rN<|aa.stop<|aj.lq [0] ⟨decide ((345686400000:Int) < v3.Time.To),h,J⟩ J J
         ·rw [yg hc] at h
          exact rG J J J J<|rG J J J J<|rG J J J J<|rT J J J<|rA J J<|rN<|aa.stop<|aj.lq [0] ⟨true,h,J⟩ J J
        ·rw [yg hc] at h
         exact rG J J J J<|rG J J J J<|rG J J J J<|rT J J J<|rM J J<|rG J J J J<|rG J J J J<|rG J J J J<|rG J J J J<|rT J J J<|rA J J<|rN<|aa.stop<|aj.lq [0] ⟨true,h,J⟩ J J
       ·rintro aH ⟨c8,h,rfl⟩
        unfold fY at h
        refine cB h J (fun h=>?_) (fun h=>?_)
        ·refine aS<|rA J J<|rN<|aa.ret<|have h:=bT h fh;?_
         cases h
         exact hP J J
        ·refine tK<|aa.cu<|tS<|aS<|rM J J<|ae.qv (cL J J) J<|rN<|cD h J (fun h=>?_) (fun h=>?_)
         ·exact aa.exit J<|aa.stop<|aj.lq [] ⟨h,J⟩ J J
         ·refine tK<|aS<|rM J J<|rM J J<|ae.qv (bK J J) J<|aK h fun v9 e4 h=>ae.qv (bN J J J e4 J J) J<|ae.qv (bf J J J) J<|ct J J J J fun mF=>aQ J J J J .p0 J J<|rN<|aa.block<|tS<|aa.bS (id:=12) (A:=[0,1,0,4,15,0,32,96,0,256,768,2047,4095,8191,16383,32767]) 16 mixed J (by kernel_rfl) (by kernel_rfl)<|AM.qv (az J J) J<|AM.qv (aF J J .p1 J) J<|AM.qv (az J J) J<|AM.qv (aF J J .p0 J) J<|AM.fL J (cr J) cR J<|AM.qv (az J J) J<|AM.qv (az J J) J<|AM.qv (aF J J .p1 J) J<|AM.qv (az J J) J<|AM.qv (az J J) J<|AM.qv (aF J J .p0 J) J<|AM.fL J (fD J) cR J<|AM.bL (xs:=([(Lib.compareBytes v3.cO v9.cO),(cmp_Compare_int v3.Time.aM v9.Time.aM)]:List Int).map I) J J J J J J<|aK h fun v11 e5 h=>AM.fL J (kS e5) cR J<|AM.qv (ot J J) J<|AM.qv (bZ J) J<|AM.nil<|rN<|cD h J (fun h=>?_) (fun h=>?_)
          ·refine aS<|rA J J<|rN<|aa.ret<|have h:=bT h fh;?_
           cases h
           exact hP J J
          ·refine tS<|aa.cut (fun aH=>∃ (vV:Bool),kG n2 vV=some z1∧aH=⟨86,[(0,nG ab),(9,nG ab),(10,I (ab.length:Int)),(11,I n2),(70,.bool vV)],[]⟩) ?_ ?_
           ·refine tR<|rF J J J<|rL J J .p1 J J<|rF J J J<|rL J J .p0 J J<|ae.qv (uX J J) J<|rM J J<|ae.bH J J J (fun hc=>?_) (fun hc=>?_)
            ·rw [iD hc] at h
             exact rF J J J<|rY J J J<|rF J J J<|rY J J J<|rL J J .p1 J J<|rY J J J<|rF J J J<|rY J J J<|rF J J J<|rY J J J<|rL J J .p0 J J<|rY J J J<|ae.qv (bE J J) J<|rT J J J<|rA J J<|rN<|aa.stop<|aj.lq [] ⟨decide (v3.Time.aM < v9.Time.To),h,J⟩ J J
            ·rw [iE hc] at h
             exact rG J J J J<|rG J J J J<|rG J J J J<|rG J J J J<|rG J J J J<|rG J J J J<|rE J J J<|rA J J<|rN<|aa.stop<|aj.lq [] ⟨false,h,J⟩ J J
           ·rintro aH ⟨vV,h,rfl⟩
            unfold kG at h
            refine cB h J (fun h=>?_) (fun h=>?_)
            ·refine aS<|rA J J<|rN<|aa.ret<|have h:=bT h fh;?_
             cases h
             exact hP J J
            ·exact tK<|aa.cu<|aa.cu<|aa.stop<|aj.lq [] ⟨h,J⟩ J J
    ·rintro aH ⟨h,rfl⟩
     unfold fX at h
     refine tR<|ae.qv (bc J J) J<|rM J J<|rN<|aa.stop<|?_
     cases h
     exact k6 _ _ J<|aj.lq [] J J J
   ·refine aa.exit J<|have h:=bT h fh;aS<|rA J J<|rN<|aa.ret<|?_
    cases h
    exact hP J J
end Go.Proofs.YtodkphmmhgkodaaGreatDoor
