/- The code computes the plain functions: proofs written by shal.py. -/
import Derived.Test.YthfphcbipahkmaaGreatDoorOfmW1
open List renaming length_set→ac
set_option maxHeartbeats 4000000
set_option maxRecDepth 100000
set_option linter.unusedVariables false
set_option linter.unusedSimpArgs false
namespace Go.Proofs.YthfphcbipahkmaaGreatDoor
open Go Go.Eng Go.Proofs Go.Beacon
attribute [local irreducible] ae ab AQ QV aP aj Sf AM
theorem vn [GI:bN] {aa:Campaign} {ai:bn} {r:Int} (h:oe aa ai=some r):Pu Tryz.prog 99 [.ch [.str aa.Key,I aa.Target.aA,I aa.Target.aC,I aa.Target.aD,I aa.At,p9 aa.aR,I aa.aZ.bS,I aa.aZ.To,I aa.Room],.str ai] (I r):=by
 unfold oe at h
 refine aP.bI Tryz.func99 J Tryz.ntmps99 Tryz.results99 J J ?_
 refine aJ<|rA J J<|rN<|aJ<|rM J J<|ae.qv (bL J) J<|ae.qv (bf J J) J<|ae.qv (aQ J J J) J<|rM J J<|aW (xs:=([aa.Key,ai]:List bn).map AV.str) J J J J J J<|aH h fun v1 e1 h=>aT J (JN e1) cR J<|rA J J<|rN<|aJ<|rM J J<|rM J J<|ae.qv (UD J J (by decide)) J<|ae.qv (Mq J J) J<|ae.qv (Gb J J (by decide)) J<|ae.qv (xD J) J<|rA J J<|rN<|ab.ret<|?_
 cases h
 exact hP J J
theorem BF [GI:bN] {aa:Campaign} {ai:bn} {r:Int} (h:gX aa ai=some r):Pu Tryz.prog 91 [.ch [.str aa.Key,I aa.Target.aA,I aa.Target.aC,I aa.Target.aD,I aa.At,p9 aa.aR,I aa.aZ.bS,I aa.aZ.To,I aa.Room],.str ai] (I r):=by
 unfold gX at h
 refine aP.bI Tryz.func91 J Tryz.ntmps91 Tryz.results91 J J ?_
 refine aJ<|rA J J<|rN<|aJ<|rM J J<|rM J J<|aH h fun v1 e1 h=>aT J (vn e1) cR J<|rA J J<|rA J J<|rN<|tS<|aJ<|rM J J<|ae.qv (bL J) J<|ae.qv (bf J J) J<|ae.qv (aQ J J J) J<|ae.qv (ca J) J<|rM J J<|rN<|ab.block<|ab.cx (fun x:Int×Int=>jh aa v1 x.1 x.2) (fun x aK=>aK=⟨37,[(0,.ch [.str aa.Key,I aa.Target.aA,I aa.Target.aC,I aa.Target.aD,I aa.At,p9 aa.aR,I aa.aZ.bS,I aa.aZ.To,I aa.Room]),(5,I v1),(6,I x.1),(15,p9 aa.aR),(16,I (aa.aR.length:Int)),(17,I x.2)],[]⟩) h ?_ ?_
 ·exact aj.lq [] J J J
 ·intro x z1 aK J1 dY h jl dQ
  obtain ⟨n4,n5⟩:=x
  obtain rfl:=dY
  replace h:jh aa v1 n4 n5=some z1:=h
  unfold jh at h
  refine aJ<|ae.qv (bO J J) J<|rN<|tS<|cD h J (fun h=>?_) (fun h=>?_)
  ·refine tK<|tS<|ab.block<|aJ<|rM J J<|aH h fun v6 e2 h=>ae.qv (bG J J J e2 J J) J<|ae.qv (aL J J J) J<|bH J J J J fun b7=>rA J J<|ay J J J J .p0 J J<|rN<|aJ<|rM J J<|rF J J J<|rL J J .p0 J J<|ae.qv (bq J J) J<|rA J J<|rN<|aJ<|rM J J<|rM J J<|ae.qv (bO J J) J<|rN<|cD h J (fun h=>?_) (fun h=>?_)
   ·refine aJ<|rM J J<|rA J J<|rN<|ab.ret<|have h:=bT h dQ;?_
    cases h
    exact hP J J
   ·refine tK<|ab.cw<|tR<|ae.qv (bq J J) J<|rM J J<|rN<|ab.stop<|?_
    cases h
    exact jl _ _ J<|aj.lq [] J J J
  ·refine ab.exit J<|have h:=bT h dQ;aJ<|rM J J<|ae.qv (bL J) J<|ae.qv (bf J J) J<|ae.qv (aQ J J J) J<|ae.qv (ca J) J<|ae.qv (eK J J) J<|rA J J<|rN<|ab.ret<|?_
   cases h
   exact hP J J
theorem iD [GI:bN] {cQ cS:Bk} {aa:ax} {ai:ao} {r:Bool} (h:bZ aa ai=r):Pu Tryz.prog 92 [.ch [.ch [.str aa.c_.Key,I aa.c_.Target.aA,I aa.c_.Target.aC,I aa.c_.Target.aD,I aa.c_.At,p9 aa.c_.aR,I aa.c_.aZ.bS,I aa.c_.aZ.To,I aa.c_.Room],.bV cQ,.bV cS,eJ aa.open_,eJ aa.bD,eJ aa.ba,eJ aa.aV,I aa.bh,I aa.cZ],.ch [I ai.ak.Kind,I ai.ak.Since,I ai.ak.Version.aA,I ai.ak.Version.aC,I ai.ak.Version.aD,I ai.ak.et,I ai.bb.aA,I ai.bb.aC,I ai.bb.aD]] (.bool r):=by
 unfold bZ at h
 refine aP.bI Tryz.func92 J Tryz.ntmps92 Tryz.results92 J J ?_
 refine aJ<|rA J J<|rN<|tS<|ab.cU (id:=1) (A:=[0,1,3,7,15,0,32,96,224,480,992,2016,4095,8191]) 14 mixed J (by kernel_rfl) (by kernel_rfl)<|AM.qv (aM J) J<|AM.qv (bL J) J<|AM.qv (bf J J) J<|AM.qv (bf J J) J<|AM.qv (kL J J J J) J<|AM.qv (aM J) J<|AM.qv (bL J) J<|AM.qv (bf J J) J<|AM.qv (aQ J J J) J<|AM.qv (bL J) J<|AM.qv (bf J J) J<|AM.qv (kL J J J J) J<|AM.qv (Eh (g:=Version.av) (X:=ai.ak.Version) (Y:=aa.c_.Target) J J J J J) J<|AM.qv (bR J) J<|AM.nil<|rN<|ab.ret<|?_
 obtain rfl:=h
 exact hP J J
theorem Ad [GI:bN] {aa:Campaign} {ai:List DeviceS} {r:ax} (h:gB aa ai=some r):aP Tryz.prog 48 [.ch [.str aa.Key,I aa.Target.aA,I aa.Target.aC,I aa.Target.aD,I aa.At,p9 aa.aR,I aa.aZ.bS,I aa.aZ.To,I aa.Room],ue ai] [] (T10 (fun nO QF QG QH QI EU QJ UY LP QK=>[(nO,.cells [.ch [.str aa.Key,I aa.Target.aA,I aa.Target.aC,I aa.Target.aD,I aa.At,p9 aa.aR,I aa.aZ.bS,I aa.aZ.To,I aa.Room],.bV QF,.bV QG,.sl 1 QH 0 r.open_.length,.sl 1 QI 0 r.bD.length,.sl 1 EU 0 r.ba.length,.sl 1 QJ 0 r.aV.length,I r.bh,I r.cZ]),(QF,.mp (r.qd.map (fun e=>(AV.str e.1,(pA LP) e.2)))),(QG,yG r.dq),(QH,dH r.open_),(QI,dH r.bD),(EU,dH r.ba),(QJ,dH r.aV),(UY,.ct (jq u3 LP QK r.mf))]) (fun nO QF QG QH QI EU QJ UY LP QK=>.ptr nO 0)):=by
 unfold gB at h
 refine aP.hC ?_
 refine aP.bI Tryz.func48 J Tryz.ntmps48 Tryz.results48 J J ?_
 refine ab.ghost (aj.Te (kb:=u3) (fun b1 YP bs3=>aj.here ?_))
 refine aJ<|rA J J<|rN<|aJ<|rM J J<|ae.qv (bL J) J<|ae.qv (bf J J) J<|ae.qv (aQ J J J) J<|ae.qv (ca J) J<|rA J J<|rN<|tS<|aH h fun l6 e1 h=>aH h fun l8 e2 h=>aH h fun l10 e3 h=>ab.jN (id:=2) (A:=[0,0,0,0,8,0,32,0,128,0,512,1536,3584,8191,16383,32767]) (H0:=[]) (HH:=fun β=>[((β 1),.mp (([]:List (bn×Int)).map (fun e=>(AV.str e.1,(pA YP) e.2)))),((β 2),yG []),((β 4),dH l6),((β 6),dH l8),((β 8),dH l10),(b1,.ct (jq u3 YP bs3 ([]:List ao)))]) 13 mixed J (by kernel_rfl) (by kernel_rfl) [⟨some 1,none,[],fun b=>(b,.mp (([]:List (bn×Int)).map (fun e=>(AV.str e.1,(pA YP) e.2)))),none,[]⟩,⟨some 2,none,[],fun b=>(b,yG []),none,[]⟩,⟨some 4,none,[],fun b=>(b,dH l6),none,[]⟩,⟨some 6,none,[],fun b=>(b,dH l8),none,[]⟩,⟨some 8,none,[],fun b=>(b,dH l10),none,[]⟩] [1,2,4,6,8] J (by kernel_rfl) J .nil (fun _=>J)<|AT.am 1 J J<|AM.qv (aM J) J<|AM.nil<|AT.Bm (V:=fun b=>.bV b) (Ti:=[]) (Pi:=fun b=>[(b,.mp (([]:List (bn×Int)).map (fun e=>(AV.str e.1,(pA YP) e.2))))]) (fun _=>J) (fun _=>J) (fun _ _=>J) J (fun _=>J) J J J ?_ ?_
 ·exact sV J fun b4=>ae.nil ⟨b4,_,J,J⟩
 refine AT.Bm (V:=fun b=>.bV b) (Ti:=[]) (Pi:=fun b=>[(b,yG [])]) (fun _=>J) (fun _=>J) (fun _ _=>J) J (fun _=>J) J J J ?_ ?_
 ·exact sV J fun b5=>ae.nil ⟨b5,_,J,J⟩
 refine AT.am 1 J J<|AM.qv (aM J) J<|AM.nil<|AT.Bm (V:=fun b=>.sl 1 b 0 l6.length) (Ti:=[]) (Pi:=fun b=>[(b,dH l6)]) (fun _=>J) (fun _=>J) (fun _ _=>J) J (fun _=>J) J J J ?_ ?_
 ·exact yU (g:=I) (Z:=0) J J J J J J J J J e1 fun b7=>ae.nil ⟨b7,_,J,J⟩
 refine AT.am 1 J J<|AM.qv (aM J) J<|AM.nil<|AT.Bm (V:=fun b=>.sl 1 b 0 l8.length) (Ti:=[]) (Pi:=fun b=>[(b,dH l8)]) (fun _=>J) (fun _=>J) (fun _ _=>J) J (fun _=>J) J J J ?_ ?_
 ·exact yU (g:=I) (Z:=0) J J J J J J J J J e2 fun b9=>ae.nil ⟨b9,_,J,J⟩
 refine AT.am 1 J J<|AM.qv (aM J) J<|AM.nil<|AT.Bm (V:=fun b=>.sl 1 b 0 l10.length) (Ti:=[]) (Pi:=fun b=>[(b,dH l10)]) (fun _=>J) (fun _=>J) (fun _ _=>J) J (fun _=>J) J J J ?_ ?_
 ·exact yU (g:=I) (Z:=0) J J J J J J J J J e3 fun Og=>ae.nil ⟨Og,_,J,J⟩
 refine AT.am 4 J J<|AM.qv (aM J) J<|AM.qv (bL J) J<|AM.qv (bf J J) J<|AM.qv (aQ J J J) J<|AM.nil<|AT.wW (fun _=>J) fun β=>?_
 generalize β 1=b4
 generalize β 2=b5
 generalize β 4=b7
 generalize β 6=b9
 generalize β 8=Og
 clear β
 refine ae.qv (dv J J J J J) J<|dp J J J J fun kV=>rA J J<|rN<|tS<|aJ<|rM J J<|ae.qv (ca J) J<|rM J J<|rN<|ab.block<|ab.cx (fun x:(List ao)×(List (bn×Int))×(List (bn×Int))×(List Int)×Int=>ig aa ai l8 l10 x.1 x.2.1 x.2.2.1 x.2.2.2.1 x.2.2.2.2) (fun x aK=>∃ (Tz:Nat→Bk) (We:Nat→Nat→Bk),aK=⟨83,[(0,.ch [.str aa.Key,I aa.Target.aA,I aa.Target.aC,I aa.Target.aD,I aa.At,p9 aa.aR,I aa.aZ.bS,I aa.aZ.To,I aa.Room]),(6,.ptr kV 0),(30,ue ai),(31,I (ai.length:Int)),(32,I x.2.2.2.2)],[(b1,.ct (jq u3 Tz We x.1)),(kV,.cells [.ch [.str aa.Key,I aa.Target.aA,I aa.Target.aC,I aa.Target.aD,I aa.At,p9 aa.aR,I aa.aZ.bS,I aa.aZ.To,I aa.Room],.bV b4,.bV b5,.sl 1 b7 0 x.2.2.2.1.length,.sl 1 b9 0 l8.length,.sl 1 Og 0 l10.length,.nil,I (-1:Int),I aa.At]),(b4,.mp (x.2.1.map (fun e=>(AV.str e.1,(pA Tz) e.2)))),(b5,yG x.2.2.1),(b7,dH x.2.2.2.1),(b9,dH l8),(Og,dH l10)]⟩) h ?_ ?_
 ·exact aj.lq [6,0,0,0,0,0,0] ⟨YP,bs3,J⟩ J J
 ·intro x z1 aK J1 dY h jl dQ
  obtain ⟨jy,um,xy,r7,n26⟩:=x
  obtain ⟨Tz,We,rfl⟩:=dY
  replace h:ig aa ai l8 l10 jy um xy r7 n26=some z1:=h
  unfold ig at h
  refine aJ<|ae.qv (bO J J) J<|rN<|tS<|cD h J (fun h=>?_) (fun h=>?_)
  ·refine tK<|tS<|ab.block<|aJ<|aH h fun mz e4 h=>ae.qv (bG J J J e4 J J) J<|ae.qv (aL J J J) J<|bH J J J J fun O2=>ay J J J J .p0 J J<|rN<|aJ<|rF J J J<|ae.qv (aO J J .p0 J J) J<|ae.qv (dv J J J J J) J<|ae.qv (dv J J J J J) J<|dp J J J J fun Oh=>rA J J<|rN<|tS<|aH h fun u30 e5 h=>ab.ghost (aj.Tl (kb:=u3) (v:=(⟨(⟨0,0,mz.bQ,0⟩:ak),(⟨0,0,0⟩:Version)⟩:ao)) (s:=nbk []) (.cons .p0 .nil) J (fun _ _=>.p1) (fun yw TA abQ YQ=>aj.here ?_))
   refine ab.ghost<|aj.aaO (Yq abQ e5) .p3<|aj.here<|ab.ghost<|aj.eqs (s:=40) (gx:=.ptr (yw (jy.length:Int).toNat) 0) J (Qo YQ _)<|aj.here<|ab.ghost<|aj.eqs (s:=9) (gx:=.ptr (yw (jy.length:Int).toNat) 0) J (Qo YQ _)<|aj.here<|aH h fun v33 e7 h=>ab.ghost (aj.UQ (k:=.str mz.Key) (fun _=>.p3) (fun Wf=>aj.here ?_))
   refine ab.jN (id:=7) (A:=[0,1,3,7,0,16,0,64,192,448,0,1024,0,0,0,16384,57344,123903,254975,521215,1048575,2097151,4194303]) (H0:=[(b4,.He (um.map (fun e=>(AV.str e.1,(pA yw) e.2))) Wf (.str mz.Key))]) (HH:=fun β=>[(b4,.mp ((bW um mz.Key (jy.length:Int)).map (fun e=>(AV.str e.1,(pA yw) e.2)))),(O2,.cells (Tx mz)),(b1,.ct (jq u3 yw TA (jy++[(⟨(⟨0,0,mz.bQ,0⟩:ak),(⟨0,0,0⟩:Version)⟩:ao)]))),(kV,.cells [.ch [.str aa.Key,I aa.Target.aA,I aa.Target.aC,I aa.Target.aD,I aa.At,p9 aa.aR,I aa.aZ.bS,I aa.aZ.To,I aa.Room],.bV b4,.bV b5,.sl 1 b7 0 r7.length,.sl 1 b9 0 l8.length,.sl 1 Og 0 l10.length,.nil,I (-1:Int),I aa.At]),(b5,yG xy),(b7,dH r7),(b9,dH l8),(Og,dH l10)]) 20 mixed J (by kernel_rfl) (by kernel_rfl) [⟨none,some 17,[],fun _=>(b4,.He (um.map (fun e=>(AV.str e.1,(pA yw) e.2))) Wf (.str mz.Key)),none,[]⟩,⟨some 17,some 19,[],fun _=>(b4,.He ((bW (tX um) mz.Key (bc um mz.Key)).map fun e=>(AV.str e.1,pQ yw e.2)) Wf (.str mz.Key)),none,[]⟩,⟨some 19,none,[],fun _=>(b4,.mp ((bW um mz.Key (jy.length:Int)).map (fun e=>(AV.str e.1,(pA yw) e.2)))),none,[]⟩] [] J (by kernel_rfl) J (.cons .p3 .nil) (fun _=>J)<|AT.am 17 J J<|AM.qv (aM J) J<|AM.qv (aE J) J<|AM.qv (az J J) J<|AM.qv (aN J J .p2 J) J<|AM.qv (az J J) J<|AM.qv (aN J J .p0 J) J<|AM.qv (aM J) J<|AM.qv (aE J) J<|AM.qv (az J J) J<|AM.qv (aN J J .p2 J) J<|AM.qv (az J J) J<|AM.qv (aN J J .p0 J) J<|AM.qv (aM J) J<|AM.qv (aM J) J<|AM.qv (az J J) J<|AM.qv (aN J J .p0 J) J<|AM.iX J (BF e7) cR J<|AM.nil<|AT.Bl (av:=.lE [pQ yw (bc um mz.Key),I ((Wf:Nat):Int)]) (Ti:=[(b4,.He (um.map (fun e=>(AV.str e.1,(pA yw) e.2))) Wf (.str mz.Key))]) (Pi:=[(b4,.He ((bW (tX um) mz.Key (bc um mz.Key)).map fun e=>(AV.str e.1,pQ yw e.2)) Wf (.str mz.Key))]) (fun _=>J) (fun _=>J) (fun _=>J) J J J ?_ ?_
   ·exact JA (gk:=AV.str) (bo:=yw) (M:=um) (key:=mz.Key) J J J J .p0 J<|ae.nil ⟨_,J,J⟩
   refine AT.am 1 J J<|AM.qv (jM J J) J<|AM.nil<|AT.HB (Ti:=[(b4,.He ((bW (tX um) mz.Key (bc um mz.Key)).map fun e=>(AV.str e.1,pQ yw e.2)) Wf (.str mz.Key))]) (Pi:=[(b4,.mp ((bW um mz.Key (jy.length:Int)).map (fun e=>(AV.str e.1,(pA yw) e.2))))]) (fun _=>J) (fun _=>J) (fun _=>J) J J ?_ ?_
   ·exact FR (kt:=9) (gk:=AV.str) (bo:=yw) (M:=um) (key:=mz.Key) (v':=(jy.length:Int)) J J J J .p0<|ae.nil ⟨_,J⟩
   refine AT.wW (fun _=>J) fun β=>ae.ghost<|aj.UQ (k:=.str mz.Key) (fun _=>.p4) fun amX=>aj.here<|aH h fun Ck e9 h=>EF (gk:=AV.str) (gv:=I) (M:=xy) (key:=mz.Key) (Z:=0) (v:=Ck) J J J J J e9 .p4 J<|rX J J J<|Bv (kt:=9) (gk:=AV.str) (gv:=I) (M:=xy) (key:=mz.Key) (v:=Ck) (v':=v33) J J J J .p4<|rN<|aJ<|rM J J<|rM J J<|fk J (iD (J:bZ (⟨aa,bW um mz.Key (jy.length:Int),bW xy mz.Key v33,r7,l8,l10,[],(-1:Int),aa.At,jy++[(⟨(⟨0,0,mz.bQ,0⟩:ak),(⟨0,0,0⟩:Version)⟩:ao)]⟩:ax) (⟨(⟨0,0,mz.bQ,0⟩:ak),(⟨0,0,0⟩:Version)⟩:ao)=_)) (.cons (.xC _ _ _ .p3 (.cons (.co (.refl _)) (.cons (.co (.refl _)) (.cons (.co (.refl _)) (.cons (lO.jX .p5) (.cons (lO.jX .p6) (.cons (lO.jX .p7) (.cons (.co (.nil _)) (.cons (.co (.refl _)) (.cons (.co (.refl _)) .nil)))))))))) (.cons (lO.C3 (bp:=b1) (kb:=u3) (bs:=TA) (M:=(jy++[(⟨(⟨0,0,mz.bQ,0⟩:ak),(⟨0,0,0⟩:Version)⟩:ao)])) UU (Tm _ _) .p2) .nil)) J J<|ae.qv (cu J) J<|rN<|ab.cut (fun aK=>∃ (sC:List Int),jH jy um xy n26 mz v33 sC=some z1∧aK=⟨83,[(0,.ch [.str aa.Key,I aa.Target.aA,I aa.Target.aC,I aa.Target.aD,I aa.At,p9 aa.aR,I aa.aZ.bS,I aa.aZ.To,I aa.Room]),(6,.ptr kV 0),(30,ue ai),(31,I (ai.length:Int)),(32,I n26)],[(b1,.ct (jq u3 yw TA (jy++[(⟨(⟨0,0,mz.bQ,0⟩:ak),(⟨0,0,0⟩:Version)⟩:ao)]))),(kV,.cells [.ch [.str aa.Key,I aa.Target.aA,I aa.Target.aC,I aa.Target.aD,I aa.At,p9 aa.aR,I aa.aZ.bS,I aa.aZ.To,I aa.Room],.bV b4,.bV b5,.sl 1 b7 0 sC.length,.sl 1 b9 0 l8.length,.sl 1 Og 0 l10.length,.nil,I (-1:Int),I aa.At]),(b4,.mp ((bW um mz.Key (jy.length:Int)).map (fun e=>(AV.str e.1,(pA yw) e.2)))),(b5,yG (bW xy mz.Key v33)),(b7,dH sC),(b9,dH l8),(Og,dH l10)]⟩) ?_ ?_
   ·refine cB h J (fun h=>?_) (fun h=>?_)
    ·exact ab.cU (id:=9) (A:=[0,1,3,7,0,16,48,112,0,256,1008,2047,4095,8191,16383,32767]) 15 mixed J (by kernel_rfl) (by kernel_rfl)<|AM.qv (aM J) J<|AM.qv (aE J) J<|AM.qv (az J J) J<|AM.qv (aN J J .p3 J) J<|AM.qv (aM J) J<|AM.qv (aE J) J<|AM.qv (az J J) J<|AM.qv (aN J J .p3 J) J<|AM.qv (az J J) J<|AM.qv (aN J J .p1 J) J<|aH h fun Qy BB h=>AM.qv (Bq (gk:=AV.str) (gv:=I) (M:=(bW xy mz.Key v33)) (key:=mz.Key) (Z:=0) J J .p4 J J J BB J) J<|aH h fun v37 C6 h=>AM.qv (bu J J J C6) J<|AM.qv (dJ (g:=I) J J (.inl .p5) C6 J) J<|AM.qv (bq J J) J<|aH h fun B9 FW h=>AM.qv (bu J J J FW) J<|AM.nil<|cE (g:=I) (A6:=bB (v37+1)) J J J J FW J .p5 J<|ae.ghost<|aj.eqs (s:=69) (gx:=.sl 1 b7 0 (r7.set Qy.toNat (bB (v37+1))).length) J (by rw [ac])<|aj.here<|ae.ghost<|aj.I9 (j:=3) (gx:=.sl 1 b7 0 (r7.set Qy.toNat (bB (v37+1))).length) .p3 J (by rw [ac]) J<|aj.here<|rN<|ab.stop<|aj.lq [2,2,0,1,1,1,1] ⟨r7.set Qy.toNat (bB (v37+1)),h,J⟩ J J
    ·exact tK<|ab.stop<|aj.lq [2,2,0,1,1,1,1] ⟨r7,h,J⟩ J J
   ·rintro aK ⟨sC,h,rfl⟩
    unfold jH at h
    refine ab.cw<|tR<|ae.qv (bq J J) J<|rM J J<|rN<|ab.stop<|?_
    cases h
    exact jl _ _ J<|aj.lq [0,0,0,0,0,0,0] ⟨yw,TA,J⟩ J J
  ·refine ab.exit J<|have h:=bT h dQ;aJ<|rM J J<|rA J J<|rN<|ab.ret<|?_
   cases h
   exact aj.Lc (j:=6) 1 (fun _=>.p1) J (fun _=>J) (fun _=>J) fun HV=>aj.here ⟨_,.cons (.tmp _ _ J) .nil,_,.cons .p2 (.cons .p2 (.cons .p2 (.cons .p2 (.cons .p2 (.cons .p2 (.cons .p0 (.cons .p0 .nil))))))),⟨kV,b4,b5,b7,b9,Og,HV,b1,Tz,We,J,J⟩⟩
theorem oo [GI:bN] {bt cQ cS cP cm cW dR:Bk} {aa:ax} {ai:Int} {r:ax} (h:dz aa ai=some r):aP Tryz.prog 74 [.ptr bt 0,I ai] [(bt,.cells [.ch [.str aa.c_.Key,I aa.c_.Target.aA,I aa.c_.Target.aC,I aa.c_.Target.aD,I aa.c_.At,p9 aa.c_.aR,I aa.c_.aZ.bS,I aa.c_.aZ.To,I aa.c_.Room],.bV cQ,.bV cS,.sl 1 cP 0 aa.open_.length,.sl 1 cm 0 aa.bD.length,.sl 1 cW 0 aa.ba.length,.sl 1 dR 0 aa.aV.length,I aa.bh,I aa.cZ]),(cP,dH aa.open_),(cm,dH aa.bD),(cW,dH aa.ba),(dR,dH aa.aV)] (T4 (fun zg zh zi zj=>[(bt,.cells [.ch [.str aa.c_.Key,I aa.c_.Target.aA,I aa.c_.Target.aC,I aa.c_.Target.aD,I aa.c_.At,p9 aa.c_.aR,I aa.c_.aZ.bS,I aa.c_.aZ.To,I aa.c_.Room],.bV cQ,.bV cS,.sl 1 zg 0 r.open_.length,.sl 1 zh 0 r.bD.length,.sl 1 zi 0 r.ba.length,.sl 1 zj 0 r.aV.length,I r.bh,I r.cZ]),(zg,dH r.open_),(zh,dH r.bD),(zi,dH r.ba),(zj,dH r.aV)]) (fun zg zh zi zj=>.lE [])):=by
 unfold dz at h
 refine aP.hC ?_
 refine aP.bI Tryz.func74 J Tryz.ntmps74 Tryz.results74 J J ?_
 refine ab.block<|ab.cx (fun x:(List Int)×Int=>cr aa ai x.1 x.2) (fun x aK=>∃ (b4:Bk),aK=⟨161,[(0,.ptr bt 0),(1,I ai)],[(bt,.cells [.ch [.str aa.c_.Key,I aa.c_.Target.aA,I aa.c_.Target.aC,I aa.c_.Target.aD,I aa.c_.At,p9 aa.c_.aR,I aa.c_.aZ.bS,I aa.c_.aZ.To,I aa.c_.Room],.bV cQ,.bV cS,.sl 1 cP 0 aa.open_.length,.sl 1 cm 0 aa.bD.length,.sl 1 cW 0 aa.ba.length,.sl 1 b4 0 x.1.length,I aa.bh,I x.2]),(cP,dH aa.open_),(cm,dH aa.bD),(cW,dH aa.ba),(b4,dH x.1)]⟩) h ?_ ?_
 ·exact aj.lq [0,0,0,0,0] ⟨dR,J⟩ J J
 ·intro x z1 aK J1 dY h jl dQ
  obtain ⟨l5,n6⟩:=x
  obtain ⟨b4,rfl⟩:=dY
  replace h:cr aa ai l5 n6=some z1:=h
  unfold cr at h
  refine ab.block<|aJ<|rM J J<|ae.qv (aE J) J<|rF J J J<|rL J J .p0 J J<|ae.qv (ee J) J<|rA J J<|rN<|tS<|tS<|ab.cut (fun aK=>∃ (c7:Bool),cI aa ai l5 n6 c7=some z1∧aK=⟨161,[(0,.ptr bt 0),(1,I ai),(4,I (l5.length:Int)),(54,.bool c7)],[(bt,.cells [.ch [.str aa.c_.Key,I aa.c_.Target.aA,I aa.c_.Target.aC,I aa.c_.Target.aD,I aa.c_.At,p9 aa.c_.aR,I aa.c_.aZ.bS,I aa.c_.aZ.To,I aa.c_.Room],.bV cQ,.bV cS,.sl 1 cP 0 aa.open_.length,.sl 1 cm 0 aa.bD.length,.sl 1 cW 0 aa.ba.length,.sl 1 b4 0 l5.length,I aa.bh,I n6]),(cP,dH aa.open_),(cm,dH aa.bD),(cW,dH aa.ba),(b4,dH l5)]⟩) ?_ ?_
  ·refine tR<|rM J J<|ae.qv (aE J) J<|rF J J J<|rL J J .p0 J J<|ae.qv (bO J J) J<|rM J J<|gT h J J J (fun h=>?_) (fun h=>?_)
   ·refine rM J J<|rY J J J<|ae.qv (eM J J) J<|rT J J J<|rM J J<|gT h J J J (fun h=>?_) (fun h=>?_)
    ·refine rM J J<|rY J J J<|rM J J<|rY J J J<|ae.qv (aE J) J<|rY J J J<|rF J J J<|rY J J J<|rL J J .p0 J J<|rY J J J<|ae.qv (bL J) J<|rY J J J<|ae.qv (bf J J) J<|rY J J J<|ae.qv (aQ J J J) J<|rY J J J<|ae.qv (ca J) J<|rY J J J<|ae.qv (bO J J) J<|rT J J J<|rM J J<|gT h J J J (fun h=>?_) (fun h=>?_)
     ·refine rM J J<|rY J J J<|ae.qv (aE J) J<|rY J J J<|rF J J J<|rY J J J<|rL J J .p0 J J<|rY J J J<|rM J J<|rY J J J<|ae.qv (eK J J) J<|rY J J J<|aH h fun v8 e1 h=>ae.qv (bu J J J e1) J<|rY J J J<|ae.qv (dJ (g:=I) J J (.inl .p1) e1 J) J<|rY J J J<|ae.qv (dt J J) J<|rT J J J<|rM J J<|gT h J J J (fun h=>?_) (fun h=>?_)
      ·exact rM J J<|rY J J J<|rM J J<|rY J J J<|ae.qv (aE J) J<|rY J J J<|rF J J J<|rY J J J<|rL J J .p0 J J<|rY J J J<|rM J J<|rY J J J<|ae.qv (eK J J) J<|rY J J J<|aH h fun v9 e2 h=>ae.qv (bu J J J e2) J<|rY J J J<|ae.qv (dJ (g:=I) J J (.inl .p4) e2 J) J<|rY J J J<|ae.qv (nU J J) J<|rT J J J<|rN<|ab.stop<|aj.lq [0,0,0,0,0] ⟨decide (v9≤ai),h,J⟩ J J
      ·exact rG J J J J<|rG J J J J<|rG J J J J<|rG J J J J<|rG J J J J<|rG J J J J<|rG J J J J<|rG J J J J<|rG J J J J<|rE J J J<|rN<|ab.stop<|aj.lq [0,0,0,0,0] ⟨false,h,J⟩ J J
     ·exact rG J J J J<|rG J J J J<|rG J J J J<|rG J J J J<|rG J J J J<|rG J J J J<|rG J J J J<|rG J J J J<|rE J J J<|rM J J<|rG J J J J<|rG J J J J<|rG J J J J<|rG J J J J<|rG J J J J<|rG J J J J<|rG J J J J<|rG J J J J<|rG J J J J<|rG J J J J<|rE J J J<|rN<|ab.stop<|aj.lq [0,0,0,0,0] ⟨false,h,J⟩ J J
    ·exact rG J J J J<|rG J J J J<|rG J J J J<|rG J J J J<|rG J J J J<|rG J J J J<|rG J J J J<|rG J J J J<|rG J J J J<|rE J J J<|rM J J<|rG J J J J<|rG J J J J<|rG J J J J<|rG J J J J<|rG J J J J<|rG J J J J<|rG J J J J<|rG J J J J<|rG J J J J<|rE J J J<|rM J J<|rG J J J J<|rG J J J J<|rG J J J J<|rG J J J J<|rG J J J J<|rG J J J J<|rG J J J J<|rG J J J J<|rG J J J J<|rG J J J J<|rE J J J<|rN<|ab.stop<|aj.lq [0,0,0,0,0] ⟨false,h,J⟩ J J
   ·exact rG J J J J<|rE J J J<|rM J J<|rG J J J J<|rG J J J J<|rG J J J J<|rG J J J J<|rG J J J J<|rG J J J J<|rG J J J J<|rG J J J J<|rG J J J J<|rG J J J J<|rE J J J<|rM J J<|rG J J J J<|rG J J J J<|rG J J J J<|rG J J J J<|rG J J J J<|rG J J J J<|rG J J J J<|rG J J J J<|rG J J J J<|rE J J J<|rM J J<|rG J J J J<|rG J J J J<|rG J J J J<|rG J J J J<|rG J J J J<|rG J J J J<|rG J J J J<|rG J J J J<|rG J J J J<|rG J J J J<|rE J J J<|rN<|ab.stop<|aj.lq [0,0,0,0,0] ⟨false,h,J⟩ J J
  ·rintro aK ⟨c7,h,rfl⟩
   unfold cI at h
   refine ab.cut (fun aK=>∃ (n10:Int),cH aa ai l5 n10=some z1∧aK=⟨161,[(0,.ptr bt 0),(1,I ai),(4,I (l5.length:Int))],[(bt,.cells [.ch [.str aa.c_.Key,I aa.c_.Target.aA,I aa.c_.Target.aC,I aa.c_.Target.aD,I aa.c_.At,p9 aa.c_.aR,I aa.c_.aZ.bS,I aa.c_.aZ.To,I aa.c_.Room],.bV cQ,.bV cS,.sl 1 cP 0 aa.open_.length,.sl 1 cm 0 aa.bD.length,.sl 1 cW 0 aa.ba.length,.sl 1 b4 0 l5.length,I aa.bh,I n10]),(cP,dH aa.open_),(cm,dH aa.bD),(cW,dH aa.ba),(b4,dH l5)]⟩) ?_ ?_
   ·refine cB h J (fun h=>?_) (fun h=>?_)
    ·exact tR<|rM J J<|rM J J<|rM J J<|ae.qv (aE J) J<|rF J J J<|rL J J .p0 J J<|ae.qv (bL J) J<|ae.qv (bf J J) J<|ae.qv (aQ J J J) J<|rM J J<|aH h fun v11 e3 h=>ae.qv (bG J J J e3 J J) J<|ae.qv (bf J J) J<|ae.qv (aQ J J J) J<|ae.qv (bq J J) J<|ae.qv (aE J) J<|rF J J J<|ay J J J J .p0 J J<|rN<|ab.stop<|aj.lq [0,0,0,0,0] ⟨bB (ai+v11.vg),h,J⟩ J J
    ·exact tK<|ab.stop<|aj.lq [0,0,0,0,0] ⟨n6,h,J⟩ J J
   ·rintro aK ⟨n10,h,rfl⟩
    unfold cH at h
    refine tS<|tS<|ab.cut (fun aK=>∃ (c12:Bool),jR aa l5 n10 c12=some z1∧aK=⟨161,[(0,.ptr bt 0),(1,I ai),(4,I (l5.length:Int)),(105,.bool c12)],[(bt,.cells [.ch [.str aa.c_.Key,I aa.c_.Target.aA,I aa.c_.Target.aC,I aa.c_.Target.aD,I aa.c_.At,p9 aa.c_.aR,I aa.c_.aZ.bS,I aa.c_.aZ.To,I aa.c_.Room],.bV cQ,.bV cS,.sl 1 cP 0 aa.open_.length,.sl 1 cm 0 aa.bD.length,.sl 1 cW 0 aa.ba.length,.sl 1 b4 0 l5.length,I aa.bh,I n10]),(cP,dH aa.open_),(cm,dH aa.bD),(cW,dH aa.ba),(b4,dH l5)]⟩) ?_ ?_
    ·refine ab.cU (id:=3) (A:=[0,1,3,7,15,31,63,127,255,511,63,2047,4095,8191,16383,32767,65535,131071,262143,524287,1048575,2097151,4194303,8388607,16777215,33554431,67108863,134217727,16777215,285212671,822083583,1895825407,4294967295,8589934591,17179869183]) 35 mixed J (by kernel_rfl) (by kernel_rfl)<|AM.qv (aM J) J<|AM.qv (aE J) J<|AM.qv (az J J) J<|AM.qv (aN J J .p0 J) J<|AM.qv (bO J J) J<|AM.qv (aM J) J<|AM.dG J J J (fun hc=>?_) (fun hc=>?_)
     ·rw [wU hc] at h
      refine AM.qv (aM J) J<|AM.au J J J<|AM.qv (aE J) J<|AM.au J J J<|AM.qv (az J J) J<|AM.au J J J<|AM.qv (aN J J .p0 J) J<|AM.au J J J<|AM.qv (aM J) J<|AM.au J J J<|AM.qv (eM J J) J<|AM.qv (ed J J) J<|AM.qv (aM J) J<|AM.dG J J J (fun hc=>?_) (fun hc=>?_)
      ·rw [wU hc] at h
       refine AM.qv (aM J) J<|AM.au J J J<|AM.qv (eM J J) J<|AM.au J J J<|AM.qv (aM J) J<|AM.dw J J J (fun hc=>?_) (fun hc=>?_)
       ·rw [vc hc] at h
        refine AM.qv (aM J) J<|AM.au J J J<|AM.qv (aE J) J<|AM.au J J J<|AM.qv (az J J) J<|AM.au J J J<|AM.qv (aN J J .p0 J) J<|AM.au J J J<|AM.qv (nU J J) J<|AM.au J J J<|AM.qv (fP J J) J<|AM.au J J J<|AM.qv (aM J) J<|AM.dw J J J (fun hc=>?_) (fun hc=>?_)
        ·rw [vc hc] at h
         exact AM.qv (aM J) J<|AM.au J J J<|AM.qv (aE J) J<|AM.au J J J<|AM.qv (az J J) J<|AM.au J J J<|AM.qv (aN J J .p0 J) J<|AM.au J J J<|AM.qv (aM J) J<|AM.au J J J<|AM.qv (aE J) J<|AM.au J J J<|AM.qv (az J J) J<|AM.au J J J<|AM.qv (aN J J .p0 J) J<|AM.au J J J<|AM.qv (pn J J) J<|AM.au J J J<|AM.qv (fP J J) J<|AM.qv (ed J J) J<|AM.nil<|rN<|ab.stop<|aj.lq [0,0,0,0,0] ⟨decide (aa.bh≤n10),h,J⟩ J J
        ·rw [vd hc] at h
         exact AM.ar J J J J<|AM.ar J J J J<|AM.ar J J J J<|AM.ar J J J J<|AM.ar J J J J<|AM.ar J J J J<|AM.ar J J J J<|AM.ar J J J J<|AM.au J J J<|AM.qv (ed J J) J<|AM.qv (ed J J) J<|AM.nil<|rN<|ab.stop<|aj.lq [0,0,0,0,0] ⟨false,h,J⟩ J J
       ·rw [vd hc] at h
        exact AM.ar J J J J<|AM.ar J J J J<|AM.ar J J J J<|AM.ar J J J J<|AM.au J J J<|AM.qv (ed J J) J<|AM.au J J J<|AM.qv (aM J) J<|AM.ar J J J J<|AM.ar J J J J<|AM.ar J J J J<|AM.ar J J J J<|AM.ar J J J J<|AM.ar J J J J<|AM.ar J J J J<|AM.ar J J J J<|AM.ar J J J J<|AM.au J J J<|AM.qv (ed J J) J<|AM.qv (ed J J) J<|AM.nil<|rN<|ab.stop<|aj.lq [0,0,0,0,0] ⟨false,h,J⟩ J J
      ·rw [wT hc] at h
       exact AM.ar J J J J<|AM.ar J J J J<|AM.aS J J J<|AM.aS J J J<|AM.aS J J J<|AM.aS J J J<|AM.aS J J J<|AM.ar J J J J<|AM.ar J J J J<|AM.aS J J J<|AM.aS J J J<|AM.aS J J J<|AM.aS J J J<|AM.aS J J J<|AM.aS J J J<|AM.aS J J J<|AM.aS J J J<|AM.aS J J J<|AM.ar J J J J<|AM.qv (fP J J) J<|AM.nil<|rN<|ab.stop<|aj.lq [0,0,0,0,0] ⟨true,h,J⟩ J J
     ·rw [wT hc] at h
      exact AM.ar J J J J<|AM.ar J J J J<|AM.ar J J J J<|AM.ar J J J J<|AM.ar J J J J<|AM.qv (fP J J) J<|AM.qv (aM J) J<|AM.ar J J J J<|AM.ar J J J J<|AM.ar J J J J<|AM.aS J J J<|AM.aS J J J<|AM.aS J J J<|AM.aS J J J<|AM.aS J J J<|AM.ar J J J J<|AM.ar J J J J<|AM.aS J J J<|AM.aS J J J<|AM.aS J J J<|AM.aS J J J<|AM.aS J J J<|AM.aS J J J<|AM.aS J J J<|AM.aS J J J<|AM.aS J J J<|AM.ar J J J J<|AM.qv (fP J J) J<|AM.nil<|rN<|ab.stop<|aj.lq [0,0,0,0,0] ⟨true,h,J⟩ J J
    ·rintro aK ⟨c12,h,rfl⟩
     unfold jR at h
     refine cB h J (fun h=>?_) (fun h=>?_)
     ·refine ab.ret<|have h:=bT h dQ;?_
      cases h
      exact aj.here ⟨_,.nil,_,.cons .p0 (.cons .p0 (.cons .p0 (.cons .p0 (.cons .p0 .nil)))),⟨cP,cm,cW,b4,J,J⟩⟩
     ·refine tK<|aJ<|rM J J<|ae.qv (aE J) J<|rF J J J<|rL J J .p0 J J<|rA J J<|rN<|aJ<|rM J J<|rM J J<|rM J J<|ae.qv (aE J) J<|rF J J J<|rL J J .p0 J J<|rM J J<|aW (xs:=([n10]:List Int).map I) J J J J J J<|aH h fun kT e4 h=>fo (g:=I) J J J J J J J J (.list _) e4 (fun _=>.p4) J fun DP=>ae.qv (aE J) J<|rF J J J<|ay J J J J .p0 J J<|ae.qv (aE J) J<|rF J J J<|ay J J J J .p0 J J<|rN<|tS<|ab.cut (fun aK=>∃ (YB:Bool),fI aa l5 n10 kT YB=some z1∧aK=⟨161,[(0,.ptr bt 0),(1,I ai),(4,I (l5.length:Int)),(5,I n10),(143,.bool YB)],[(bt,.cells [.ch [.str aa.c_.Key,I aa.c_.Target.aA,I aa.c_.Target.aC,I aa.c_.Target.aD,I aa.c_.At,p9 aa.c_.aR,I aa.c_.aZ.bS,I aa.c_.aZ.To,I aa.c_.Room],.bV cQ,.bV cS,.sl 1 cP 0 aa.open_.length,.sl 1 cm 0 aa.bD.length,.sl 1 cW 0 aa.ba.length,.sl 1 DP 0 kT.length,I aa.bh,I (-1:Int)]),(cP,dH aa.open_),(cm,dH aa.bD),(cW,dH aa.ba),(DP,dH kT)]⟩) ?_ ?_
      ·refine tR<|rM J J<|ae.qv (bq J J) J<|rM J J<|ae.qv (aE J) J<|rF J J J<|rL J J .p0 J J<|ae.qv (bL J) J<|ae.qv (bf J J) J<|ae.qv (aQ J J J) J<|ae.qv (ca J) J<|ae.qv (bO J J) J<|rM J J<|gT h J J J (fun h=>?_) (fun h=>?_)
       ·exact rM J J<|rY J J J<|ae.qv (aE J) J<|rY J J J<|rF J J J<|rY J J J<|rL J J .p0 J J<|rY J J J<|rM J J<|rY J J J<|aH h fun sW e5 h=>ae.qv (bu J J J e5) J<|rY J J J<|ae.qv (dJ (g:=I) J J (.inl .p1) e5 J) J<|rY J J J<|ae.qv (dt J J) J<|rT J J J<|rN<|ab.stop<|aj.lq [0,0,0,0,0] ⟨decide (sW=0),h,J⟩ J J
       ·exact rG J J J J<|rG J J J J<|rG J J J J<|rG J J J J<|rG J J J J<|rG J J J J<|rG J J J J<|rE J J J<|rN<|ab.stop<|aj.lq [0,0,0,0,0] ⟨false,h,J⟩ J J
      ·rintro aK ⟨YB,h,rfl⟩
       unfold fI at h
       refine ab.cut (fun aK=>∃ (n17:Int),fH kT n17=some z1∧aK=⟨161,[(0,.ptr bt 0),(1,I ai)],[(bt,.cells [.ch [.str aa.c_.Key,I aa.c_.Target.aA,I aa.c_.Target.aC,I aa.c_.Target.aD,I aa.c_.At,p9 aa.c_.aR,I aa.c_.aZ.bS,I aa.c_.aZ.To,I aa.c_.Room],.bV cQ,.bV cS,.sl 1 cP 0 aa.open_.length,.sl 1 cm 0 aa.bD.length,.sl 1 cW 0 aa.ba.length,.sl 1 DP 0 kT.length,I aa.bh,I n17]),(cP,dH aa.open_),(cm,dH aa.bD),(cW,dH aa.ba),(DP,dH kT)]⟩) ?_ ?_
       ·refine cB h J (fun h=>?_) (fun h=>?_)
        ·exact tR<|rM J J<|rM J J<|rM J J<|ae.qv (aE J) J<|rF J J J<|rL J J .p0 J J<|ae.qv (bL J) J<|ae.qv (bf J J) J<|ae.qv (aQ J J J) J<|rM J J<|ae.qv (bq J J) J<|aH h fun fg e6 h=>ae.qv (bG J J J e6 J J) J<|ae.qv (bf J J) J<|ae.qv (aQ J J J) J<|ae.qv (bq J J) J<|ae.qv (aE J) J<|rF J J J<|ay J J J J .p0 J J<|rN<|ab.stop<|aj.lq [0,0,0,0,0] ⟨bB (n10+fg.vg),h,J⟩ J J
        ·exact tK<|ab.stop<|aj.lq [0,0,0,0,0] ⟨(-1:Int),h,J⟩ J J
       ·rintro aK ⟨n17,h,rfl⟩
        unfold fH at h
        refine ab.cw<|ab.stop<|?_
        cases h
        exact jl _ _ J<|aj.lq [0,0,0,0,0] ⟨DP,J⟩ J J
theorem pH [GI:bN] {cQ cS:Bk} {aa:ax} {ai:ao} {r:Bool} (h:di aa ai=r):Pu Tryz.prog 94 [.ch [.ch [.str aa.c_.Key,I aa.c_.Target.aA,I aa.c_.Target.aC,I aa.c_.Target.aD,I aa.c_.At,p9 aa.c_.aR,I aa.c_.aZ.bS,I aa.c_.aZ.To,I aa.c_.Room],.bV cQ,.bV cS,eJ aa.open_,eJ aa.bD,eJ aa.ba,eJ aa.aV,I aa.bh,I aa.cZ],.ch [I ai.ak.Kind,I ai.ak.Since,I ai.ak.Version.aA,I ai.ak.Version.aC,I ai.ak.Version.aD,I ai.ak.et,I ai.bb.aA,I ai.bb.aC,I ai.bb.aD]] (.bool r):=by
 unfold di at h
 refine aP.bI Tryz.func94 J Tryz.ntmps94 Tryz.results94 J J ?_
 refine aJ<|rA J J<|rN<|tS<|ab.cut (fun aK=>∃ (c1:Bool),lH c1=r∧aK=⟨25,[(4,.bool c1)],[]⟩) ?_ ?_
 ·refine tR<|rM J J<|rM J J<|aT J (iD J) cR J<|ae.qv (cu J) J<|rM J J<|ae.guard J J J (fun hc=>?_) (fun hc=>?_)
  ·rw [Gk hc] at h
   refine rM J J<|rY J J J<|ae.qv (bL J) J<|rY J J J<|ae.qv (bf J J) J<|rY J J J<|ae.qv (bf J J) J<|rY J J J<|ae.qv (aQ J J J) J<|rY J J J<|ae.qv (nU J J) J<|rY J J J<|rM J J<|ae.dG J J J (fun hc=>?_) (fun hc=>?_)
   ·rw [wU hc] at h
    exact rM J J<|rY J J J<|ae.qv (bL J) J<|rY J J J<|ae.qv (bf J J) J<|rY J J J<|ae.qv (bf J J) J<|rY J J J<|ae.qv (aQ J J J) J<|rY J J J<|ae.qv (dt J J) J<|rY J J J<|rE J J J<|rT J J J<|rA J J<|rN<|ab.stop<|aj.lq [] ⟨decide (ai.ak.Kind=5),h,J⟩ J J
   ·rw [wT hc] at h
    exact rG J J J J<|rG J J J J<|rG J J J J<|rG J J J J<|rG J J J J<|rY J J J<|rT J J J<|rT J J J<|rA J J<|rN<|ab.stop<|aj.lq [] ⟨true,h,J⟩ J J
  ·rw [Gl hc] at h
   exact rG J J J J<|rG J J J J<|rG J J J J<|rG J J J J<|rG J J J J<|rG J J J J<|ae.aS J J J<|ae.aS J J J<|ae.aS J J J<|ae.aS J J J<|ae.aS J J J<|ae.aS J J J<|rG J J J J<|rE J J J<|rA J J<|rN<|ab.stop<|aj.lq [] ⟨false,h,J⟩ J J
 ·rintro aK ⟨c1,h,rfl⟩
  unfold lH at h
  refine ab.ret<|?_
  obtain rfl:=h
  exact hP J J
theorem wG [GI:bN] {bt:Bk} {aa:ao} {ai:MarkS} {r:Bool×ao} (h:aU aa ai=r):aP Tryz.prog 115 [.ptr bt 0,MarkS.av ai] [(bt,.cells [I aa.ak.Kind,I aa.ak.Since,I aa.ak.Version.aA,I aa.ak.Version.aC,I aa.ak.Version.aD,I aa.ak.et,I aa.bb.aA,I aa.bb.aC,I aa.bb.aD])] (T0 ([(bt,.cells [I r.2.ak.Kind,I r.2.ak.Since,I r.2.ak.Version.aA,I r.2.ak.Version.aC,I r.2.ak.Version.aD,I r.2.ak.et,I r.2.bb.aA,I r.2.bb.aC,I r.2.bb.aD])]) (.bool r.1)):=by
 unfold aU at h
 refine aP.hC ?_
 refine aP.bI Tryz.func115 J Tryz.ntmps115 Tryz.results115 J J ?_
 refine aJ<|dp J J J J fun b1=>rA J J<|rN<|tS<|ab.cU (id:=1) (A:=[0,1,0,4,12,28,63,127]) 8 mixed J (by kernel_rfl) (by kernel_rfl)<|AM.qv (az J J) J<|AM.qv (aO J J .p0 J J) J<|AM.qv (aM J) J<|AM.qv (aE J) J<|AM.qv (az J J) J<|AM.qv (aO J J .p1 J J) J<|AM.qv (Eh (g:=Version.av) (X:=ai.Version) (Y:=aa.bb) J J J J J) J<|AM.qv (bR J) J<|AM.nil<|rN<|aJ<|rA J J<|rN<|tS<|aJ<|rF J J J<|rL J J .p0 J J<|rN<|ab.block<|aJ<|ae.qv (dt J J) J<|rA J J<|rN<|ab.cut (fun aK=>∃ (c2:Bool),eE aa ai c2=r∧aK=⟨101,[(0,.ptr bt 0),(3,.ptr b1 0),(6,.bool c2)],[(bt,.cells [I aa.ak.Kind,I aa.ak.Since,I aa.ak.Version.aA,I aa.ak.Version.aC,I aa.ak.Version.aD,I aa.ak.et,I aa.bb.aA,I aa.bb.aC,I aa.bb.aD]),(b1,.cells [I ai.At,.str ai.Device,I ai.Kind,I ai.Version.aA,I ai.Version.aC,I ai.Version.aD])]⟩) ?_ ?_
 ·refine cD h J (fun h=>?_) (fun h=>?_)
  ·refine ab.cut (fun aK=>∃ (c3:Bool),iS aa ai c3=r∧aK=⟨101,[(0,.ptr bt 0),(3,.ptr b1 0),(6,.bool c3)],[(bt,.cells [I aa.ak.Kind,I aa.ak.Since,I aa.ak.Version.aA,I aa.ak.Version.aC,I aa.ak.Version.aD,I aa.ak.et,I aa.bb.aA,I aa.bb.aC,I aa.bb.aD]),(b1,.cells [I ai.At,.str ai.Device,I ai.Kind,I ai.Version.aA,I ai.Version.aC,I ai.Version.aD])]⟩) ?_ ?_
   ·refine tR<|rM J J<|ae.qv (aE J) J<|rF J J J<|rF J J J<|rL J J .p1 J J<|ae.qv (dt J J) J<|rM J J<|ae.dG J J J (fun hc=>?_) (fun hc=>?_)
    ·rw [wU hc] at h
     refine rM J J<|rY J J J<|ae.qv (aE J) J<|rY J J J<|rF J J J<|rY J J J<|rF J J J<|rY J J J<|rL J J .p1 J J<|rY J J J<|ae.qv (dt J J) J<|rE J J J<|rM J J<|ae.dG J J J (fun hc=>?_) (fun hc=>?_)
     ·rw [wU hc] at h
      exact rM J J<|rY J J J<|ae.qv (aE J) J<|rY J J J<|rF J J J<|rY J J J<|rF J J J<|rY J J J<|rL J J .p1 J J<|rY J J J<|ae.qv (dt J J) J<|rE J J J<|rA J J<|rN<|ab.stop<|aj.lq [1,0] ⟨decide (aa.ak.Kind=4),h,J⟩ J J
     ·rw [wT hc] at h
      exact rG J J J J<|rG J J J J<|rG J J J J<|rG J J J J<|rG J J J J<|rT J J J<|rA J J<|rN<|ab.stop<|aj.lq [1,0] ⟨true,h,J⟩ J J
    ·rw [wT hc] at h
     exact rG J J J J<|rG J J J J<|rG J J J J<|rG J J J J<|rG J J J J<|rT J J J<|rM J J<|rG J J J J<|rG J J J J<|rG J J J J<|rG J J J J<|rG J J J J<|rG J J J J<|rT J J J<|rA J J<|rN<|ab.stop<|aj.lq [1,0] ⟨true,h,J⟩ J J
   ·rintro aK ⟨c3,h,rfl⟩
    unfold iS at h
    exact ab.stop<|aj.lq [0,0] ⟨c3,h,J⟩ J J
  ·refine tS<|aJ<|ae.qv (dt J J) J<|rA J J<|rN<|ab.cut (fun aK=>∃ (c4:Bool),gw aa ai c4=r∧aK=⟨101,[(0,.ptr bt 0),(3,.ptr b1 0),(5,.bool (decide (ai.Version=aa.bb))),(49,.bool c4)],[(bt,.cells [I aa.ak.Kind,I aa.ak.Since,I aa.ak.Version.aA,I aa.ak.Version.aC,I aa.ak.Version.aD,I aa.ak.et,I aa.bb.aA,I aa.bb.aC,I aa.bb.aD]),(b1,.cells [I ai.At,.str ai.Device,I ai.Kind,I ai.Version.aA,I ai.Version.aC,I ai.Version.aD])]⟩) ?_ ?_
   ·refine cD h J (fun h=>?_) (fun h=>?_)
    ·exact tK<|ab.stop<|aj.lq [1,0] ⟨decide (ai.Kind=2),h,J⟩ J J
    ·exact tR<|ae.qv (dt J J) J<|rA J J<|rN<|ab.stop<|aj.lq [1,0] ⟨decide (ai.Kind=5),h,J⟩ J J
   ·rintro aK ⟨c4,h,rfl⟩
    unfold gw at h
    refine ab.cut (fun aK=>∃ (c5:Bool),gu aa ai c5=r∧aK=⟨101,[(0,.ptr bt 0),(3,.ptr b1 0),(6,.bool c5)],[(bt,.cells [I aa.ak.Kind,I aa.ak.Since,I aa.ak.Version.aA,I aa.ak.Version.aC,I aa.ak.Version.aD,I aa.ak.et,I aa.bb.aA,I aa.bb.aC,I aa.bb.aD]),(b1,.cells [I ai.At,.str ai.Device,I ai.Kind,I ai.Version.aA,I ai.Version.aC,I ai.Version.aD])]⟩) ?_ ?_
    ·refine cB h J (fun h=>?_) (fun h=>?_)
     ·refine ab.cut (fun aK=>∃ (c6:Bool),iT aa ai c6=r∧aK=⟨101,[(0,.ptr bt 0),(3,.ptr b1 0),(6,.bool c6)],[(bt,.cells [I aa.ak.Kind,I aa.ak.Since,I aa.ak.Version.aA,I aa.ak.Version.aC,I aa.ak.Version.aD,I aa.ak.et,I aa.bb.aA,I aa.bb.aC,I aa.bb.aD]),(b1,.cells [I ai.At,.str ai.Device,I ai.Kind,I ai.Version.aA,I ai.Version.aC,I ai.Version.aD])]⟩) ?_ ?_
      ·refine tR<|rM J J<|ae.qv (aE J) J<|rF J J J<|rF J J J<|rL J J .p0 J J<|ae.qv (dt J J) J<|rM J J<|ae.dw J J J (fun hc=>?_) (fun hc=>?_)
       ·rw [vc hc] at h
        exact rM J J<|rT J J J<|rA J J<|rN<|ab.stop<|aj.lq [0,0] ⟨decide (ai.Version=aa.bb),h,J⟩ J J
       ·rw [vd hc] at h
        exact rE J J J<|rA J J<|rN<|ab.stop<|aj.lq [0,0] ⟨false,h,J⟩ J J
      ·rintro aK ⟨c6,h,rfl⟩
       unfold iT at h
       exact ab.stop<|aj.lq [0,0] ⟨c6,h,J⟩ J J
     ·refine ab.cut (fun aK=>∃ (c7:Bool),iU aa ai c7=r∧aK=⟨101,[(0,.ptr bt 0),(3,.ptr b1 0),(6,.bool c7)],[(bt,.cells [I aa.ak.Kind,I aa.ak.Since,I aa.ak.Version.aA,I aa.ak.Version.aC,I aa.ak.Version.aD,I aa.ak.et,I aa.bb.aA,I aa.bb.aC,I aa.bb.aD]),(b1,.cells [I ai.At,.str ai.Device,I ai.Kind,I ai.Version.aA,I ai.Version.aC,I ai.Version.aD])]⟩) ?_ ?_
      ·refine tR<|rM J J<|ae.qv (aE J) J<|rF J J J<|rF J J J<|rL J J .p0 J J<|ae.qv (dt J J) J<|rM J J<|ae.dw J J J (fun hc=>?_) (fun hc=>?_)
       ·rw [vc hc] at h
        exact rM J J<|rT J J J<|rA J J<|rN<|ab.stop<|aj.lq [0,0] ⟨decide (ai.Version=aa.bb),h,J⟩ J J
       ·rw [vd hc] at h
        exact rE J J J<|rA J J<|rN<|ab.stop<|aj.lq [0,0] ⟨false,h,J⟩ J J
      ·rintro aK ⟨c7,h,rfl⟩
       unfold iU at h
       exact ab.stop<|aj.lq [0,0] ⟨c7,h,J⟩ J J
    ·rintro aK ⟨c5,h,rfl⟩
     unfold gu at h
     exact ab.stop<|aj.lq [0,0] ⟨c5,h,J⟩ J J
 ·rintro aK ⟨c2,h,rfl⟩
  unfold eE at h
  refine ab.cw<|tS<|aJ<|rM J J<|ae.qv (cu J) J<|rN<|cB h J (fun h=>?_) (fun h=>?_)
  ·refine aJ<|rA J J<|rN<|ab.ret<|?_
   obtain rfl:=h
   exact hH J [0] J ⟨J,J⟩
  ·refine tK<|tS<|ab.jN (id:=12) (A:=[0,0,0,0,8,0,32,0,128,25,537,1561,3609,7803,15995,32379,65147,131071,262143,524287]) (H0:=[(bt,.cells [I aa.ak.Kind,I aa.ak.Since,I aa.ak.Version.aA,I aa.ak.Version.aC,I aa.ak.Version.aD,I aa.ak.et,I aa.bb.aA,I aa.bb.aC,I aa.bb.aD])]) (HH:=fun β=>[(bt,.cells [I ai.Kind,I ai.At,I aa.ak.Version.aA,I aa.ak.Version.aC,I aa.ak.Version.aD,I aa.ak.et,I aa.bb.aA,I aa.bb.aC,I aa.bb.aD]),(b1,.cells [I ai.At,.str ai.Device,I ai.Kind,I ai.Version.aA,I ai.Version.aC,I ai.Version.aD])]) 17 mixed J (by kernel_rfl) (by kernel_rfl) [⟨none,some 12,[],fun _=>(bt,.cells [I aa.ak.Kind,I aa.ak.Since,I aa.ak.Version.aA,I aa.ak.Version.aC,I aa.ak.Version.aD,I aa.ak.et,I aa.bb.aA,I aa.bb.aC,I aa.bb.aD]),none,[]⟩,⟨some 12,some 16,[],fun _=>(bt,.cells [I ai.Kind,I aa.ak.Since,I aa.ak.Version.aA,I aa.ak.Version.aC,I aa.ak.Version.aD,I aa.ak.et,I aa.bb.aA,I aa.bb.aC,I aa.bb.aD]),none,[]⟩,⟨some 16,none,[],fun _=>(bt,.cells [I ai.Kind,I ai.At,I aa.ak.Version.aA,I aa.ak.Version.aC,I aa.ak.Version.aD,I aa.ak.et,I aa.bb.aA,I aa.bb.aC,I aa.bb.aD]),none,[]⟩] [] J (by kernel_rfl) J (.cons .p0 .nil) (fun _=>J)<|AT.am 12 J J<|AM.qv (aM J) J<|AM.qv (aM J) J<|AM.qv (aM J) J<|AM.qv (az J J) J<|AM.qv (aN J J .p0 J) J<|AM.qv (az J J) J<|AM.qv (aN J J .p0 J) J<|AM.qv (az J J) J<|AM.qv (aO J J .p0 J J) J<|AM.qv (aE J) J<|AM.qv (az J J) J<|AM.qv (az J J) J<|AM.nil<|AT.HB (Ti:=[(bt,.cells [I aa.ak.Kind,I aa.ak.Since,I aa.ak.Version.aA,I aa.ak.Version.aC,I aa.ak.Version.aD,I aa.ak.et,I aa.bb.aA,I aa.bb.aC,I aa.bb.aD])]) (Pi:=[(bt,.cells [I ai.Kind,I aa.ak.Since,I aa.ak.Version.aA,I aa.ak.Version.aC,I aa.ak.Version.aD,I aa.ak.et,I aa.bb.aA,I aa.bb.aC,I aa.bb.aD])]) (fun _=>J) (fun _=>J) (fun _=>J) J J ?_ ?_
   ·exact ay J J J J .p0 J J<|ae.nil ⟨_,J⟩
   refine AT.am 3 J J<|AM.qv (aE J) J<|AM.qv (az J J) J<|AM.qv (az J J) J<|AM.nil<|AT.HB (Ti:=[(bt,.cells [I ai.Kind,I aa.ak.Since,I aa.ak.Version.aA,I aa.ak.Version.aC,I aa.ak.Version.aD,I aa.ak.et,I aa.bb.aA,I aa.bb.aC,I aa.bb.aD])]) (Pi:=[(bt,.cells [I ai.Kind,I ai.At,I aa.ak.Version.aA,I aa.ak.Version.aC,I aa.ak.Version.aD,I aa.ak.et,I aa.bb.aA,I aa.bb.aC,I aa.bb.aD])]) (fun _=>J) (fun _=>J) (fun _=>J) J J ?_ ?_
   ·exact ay J J J J .p0 J J<|ae.nil ⟨_,J⟩
   refine AT.wW (fun _=>J) fun β=>ae.qv (aE J) J<|rF J J J<|ay J J J J .p0 J J<|rN<|tS<|aJ<|rF J J J<|rL J J .p1 J J<|rN<|ab.block<|aJ<|ae.qv (dt J J) J<|rA J J<|rN<|ab.cut (fun aK=>∃ (n8:Int) (n9:Int) (n10:Int) (n11:Int),gq ai n8 n9 n10 n11=r∧aK=⟨101,[],[(bt,.cells [I ai.Kind,I ai.At,I n8,I n9,I n10,I n11,I ai.Version.aA,I ai.Version.aC,I ai.Version.aD])]⟩) ?_ ?_
   ·refine cD h J (fun h=>?_) (fun h=>?_)
    ·exact tR<|rM J J<|rF J J J<|ae.qv (aO J J .p1 J J) J<|ae.qv (aE J) J<|rF J J J<|rF J J J<|ay J J J J .p0 J J<|rN<|ab.stop<|aj.lq [0] ⟨ai.Version.aA,ai.Version.aC,ai.Version.aD,aa.ak.et,h,J⟩ J J
    ·refine aJ<|ae.qv (dt J J) J<|rA J J<|rN<|ab.cut (fun aK=>∃ (n12:Int),gr aa ai n12=r∧aK=⟨101,[],[(bt,.cells [I ai.Kind,I ai.At,I aa.ak.Version.aA,I aa.ak.Version.aC,I aa.ak.Version.aD,I n12,I ai.Version.aA,I ai.Version.aC,I ai.Version.aD])]⟩) ?_ ?_
     ·refine cD h J (fun h=>?_) (fun h=>?_)
      ·exact tR<|rM J J<|ae.qv (aE J) J<|rF J J J<|rF J J J<|rL J J .p0 J J<|ae.qv (bq J J) J<|ae.qv (aE J) J<|rF J J J<|rF J J J<|ay J J J J .p0 J J<|rN<|ab.stop<|aj.lq [0] ⟨bB (aa.ak.et+1),h,J⟩ J J
      ·exact tK<|ab.stop<|aj.lq [0] ⟨aa.ak.et,h,J⟩ J J
     ·rintro aK ⟨n12,h,rfl⟩
      unfold gr at h
      exact ab.stop<|aj.lq [0] ⟨aa.ak.Version.aA,aa.ak.Version.aC,aa.ak.Version.aD,n12,h,J⟩ J J
   ·rintro aK ⟨n8,n9,n10,n11,h,rfl⟩
    unfold gq at h
    refine ab.cw<|aJ<|rA J J<|rN<|ab.ret<|?_
    obtain rfl:=h
    exact hH J [0] J ⟨J,J⟩
theorem yx [GI:bN] {bt iN:Bk} {bY:Nat→Bk} {jJ:Nat→Nat→Bk} {cQ cS cP cm cW dR:Bk} {aa:ax} {ai:MarkS} {r:ax} (h:cT aa ai=some r):aP Tryz.prog 76 [.ptr bt 0,MarkS.av ai] [(bt,.cells [.ch [.str aa.c_.Key,I aa.c_.Target.aA,I aa.c_.Target.aC,I aa.c_.Target.aD,I aa.c_.At,p9 aa.c_.aR,I aa.c_.aZ.bS,I aa.c_.aZ.To,I aa.c_.Room],.bV cQ,.bV cS,.sl 1 cP 0 aa.open_.length,.sl 1 cm 0 aa.bD.length,.sl 1 cW 0 aa.ba.length,.sl 1 dR 0 aa.aV.length,I aa.bh,I aa.cZ]),(cQ,.mp (aa.qd.map (fun e=>(AV.str e.1,(pA bY) e.2)))),(cS,yG aa.dq),(cP,dH aa.open_),(cm,dH aa.bD),(cW,dH aa.ba),(dR,dH aa.aV),(iN,.ct (jq u3 bY jJ aa.mf))] (T5 (fun zg zh zi zj EZ=>[(bt,.cells [.ch [.str aa.c_.Key,I aa.c_.Target.aA,I aa.c_.Target.aC,I aa.c_.Target.aD,I aa.c_.At,p9 aa.c_.aR,I aa.c_.aZ.bS,I aa.c_.aZ.To,I aa.c_.Room],.bV cQ,.bV cS,.sl 1 zg 0 r.open_.length,.sl 1 zh 0 r.bD.length,.sl 1 zi 0 r.ba.length,.sl 1 zj 0 r.aV.length,I r.bh,I r.cZ]),(cQ,.mp (r.qd.map (fun e=>(AV.str e.1,(pA bY) e.2)))),(cS,yG r.dq),(zg,dH r.open_),(zh,dH r.bD),(zi,dH r.ba),(zj,dH r.aV),(iN,.ct (jq u3 bY EZ r.mf))]) (fun zg zh zi zj EZ=>.lE [])):=by
 unfold cT at h
 refine aP.hC ?_
 refine aP.bI Tryz.func76 J Tryz.ntmps76 Tryz.results76 J J ?_
 refine aJ<|dp J J J J fun b1=>rN<|tS<|ab.cU (id:=1) (A:=[0,1,3,7,0,16,63,127,255,255,511,2047]) 12 mixed J (by kernel_rfl) (by kernel_rfl)<|AM.qv (aM J) J<|AM.qv (aE J) J<|AM.qv (az J J) J<|AM.qv (aN J J .p1 J) J<|AM.qv (az J J) J<|AM.qv (aN J J .p0 J) J<|VL h (fun e1 h=>?_) (fun n2 e1 h=>?_)
 ·refine AM.qv (Lx (gk:=AV.str) (gv:=(pA bY)) (M:=aa.qd) (key:=ai.Device) J J .p2 J e1) J<|AM.qv (aM J) J<|AM.qv (jM J J) J<|AM.qv (jM J J) J<|AM.qv (bR J) J<|AM.qv (bR J) J<|AM.nil<|rN<|tS<|tS<|ab.cut (fun aK=>∃ (c3:Bool),kA aa ai c3=some r∧aK=⟨165,[(0,.ptr bt 0),(3,.ptr b1 0),(4,.raw (.pointer none)),(33,.bool c3)],[(bt,.cells [.ch [.str aa.c_.Key,I aa.c_.Target.aA,I aa.c_.Target.aC,I aa.c_.Target.aD,I aa.c_.At,p9 aa.c_.aR,I aa.c_.aZ.bS,I aa.c_.aZ.To,I aa.c_.Room],.bV cQ,.bV cS,.sl 1 cP 0 aa.open_.length,.sl 1 cm 0 aa.bD.length,.sl 1 cW 0 aa.ba.length,.sl 1 dR 0 aa.aV.length,I aa.bh,I aa.cZ]),(cQ,.mp (aa.qd.map (fun e=>(AV.str e.1,(pA bY) e.2)))),(iN,.ct (jq u3 bY jJ aa.mf)),(cS,yG aa.dq),(cP,dH aa.open_),(cm,dH aa.bD),(cW,dH aa.ba),(dR,dH aa.aV),(b1,.cells [I ai.At,.str ai.Device,I ai.Kind,I ai.Version.aA,I ai.Version.aC,I ai.Version.aD])]⟩) ?_ ?_
  ·refine ab.cU (id:=2) (A:=[0,1,3,7,15,7,39,103,231,487,999,2023,4095,8191]) 14 mixed J (by kernel_rfl) (by kernel_rfl)<|AM.qv (aM J) J<|AM.qv (cu J) J<|AM.qv (aM J) J<|AM.guard J J J (fun hc=>?_) (fun hc=>?_)
   ·rw [vI hc] at h
    exact AM.qv (az J J) J<|AM.au J J J<|AM.qv (aN J J .p0 J) J<|AM.au J J J<|AM.qv (aM J) J<|AM.au J J J<|AM.qv (aE J) J<|AM.au J J J<|AM.qv (az J J) J<|AM.au J J J<|AM.qv (aN J J .p1 J) J<|AM.au J J J<|AM.qv (bL J) J<|AM.au J J J<|AM.qv (bf J J) J<|AM.au J J J<|AM.qv (aQ J J J) J<|AM.au J J J<|AM.qv (bO J J) J<|AM.qv (ed J J) J<|AM.nil<|rN<|ab.stop<|aj.lq [1,1,6,1,1,1,1,1,0] ⟨decide (ai.At < aa.c_.At),h,J⟩ J J
   ·rw [vH hc] at h
    exact AM.ar J J J J<|AM.ar J J J J<|AM.ar J J J J<|AM.ar J J J J<|AM.ar J J J J<|AM.ar J J J J<|AM.ar J J J J<|AM.ar J J J J<|AM.ar J J J J<|AM.qv (fP J J) J<|AM.nil<|rN<|ab.stop<|aj.lq [1,1,6,1,1,1,1,1,0] ⟨true,h,J⟩ J J
  ·rintro aK ⟨c3,h,rfl⟩
   unfold kA at h
   refine cB h J (fun h=>?_) (fun h=>?_)
   ·refine ab.ret<|?_
    cases h
    exact aj.here ⟨_,.nil,_,.cons .p0 (.cons .p0 (.cons .p1 (.cons .p1 (.cons .p1 (.cons .p1 (.cons .p1 (.cons .p0 .nil))))))),⟨cP,cm,cW,dR,jJ,J,J⟩⟩
   ·refine tK<|tS<|ab.cU (id:=3) (A:=[0,1,3,7,0,16,63,127]) 8 mixed J (by kernel_rfl) (by kernel_rfl)<|AM.qv (aM J) J<|AM.qv (aE J) J<|AM.qv (az J J) J<|AM.qv (aN J J .p0 J) J<|AM.qv (az J J) J<|AM.qv (aN J J (.next .p7) J) J<|aH h fun v4 e2 h=>AM.qv (Bq (gk:=AV.str) (gv:=I) (M:=aa.dq) (key:=ai.Device) (Z:=0) J J .p3 J J J e2 J) J<|AM.qv (bR J) J<|AM.nil<|rN<|aJ<|rM J J<|rM J J<|?_
    cases h
 ·refine AM.qv (Ly (gk:=AV.str) (gv:=(pA bY)) (M:=aa.qd) (key:=ai.Device) J J .p2 e1) J<|AM.qv (aM J) J<|AM.qv (jM J J) J<|AM.qv (jM J J) J<|AM.qv (bR J) J<|AM.qv (bR J) J<|AM.nil<|rN<|tS<|tS<|ab.cut (fun aK=>∃ (c5:Bool),iz aa ai n2 c5=some r∧aK=⟨165,[(0,.ptr bt 0),(3,.ptr b1 0),(4,.ptr (bY n2.toNat) 0),(33,.bool c5)],[(bt,.cells [.ch [.str aa.c_.Key,I aa.c_.Target.aA,I aa.c_.Target.aC,I aa.c_.Target.aD,I aa.c_.At,p9 aa.c_.aR,I aa.c_.aZ.bS,I aa.c_.aZ.To,I aa.c_.Room],.bV cQ,.bV cS,.sl 1 cP 0 aa.open_.length,.sl 1 cm 0 aa.bD.length,.sl 1 cW 0 aa.ba.length,.sl 1 dR 0 aa.aV.length,I aa.bh,I aa.cZ]),(cQ,.mp (aa.qd.map (fun e=>(AV.str e.1,(pA bY) e.2)))),(iN,.ct (jq u3 bY jJ aa.mf)),(cS,yG aa.dq),(cP,dH aa.open_),(cm,dH aa.bD),(cW,dH aa.ba),(dR,dH aa.aV),(b1,.cells [I ai.At,.str ai.Device,I ai.Kind,I ai.Version.aA,I ai.Version.aC,I ai.Version.aD])]⟩) ?_ ?_
  ·refine ab.cU (id:=2) (A:=[0,1,3,7,15,7,39,103,231,487,999,2023,4095,8191]) 14 mixed J (by kernel_rfl) (by kernel_rfl)<|AM.qv (aM J) J<|AM.qv (cu J) J<|AM.qv (aM J) J<|AM.guard J J J (fun hc=>?_) (fun hc=>?_)
   ·rw [vI hc] at h
    exact AM.qv (az J J) J<|AM.au J J J<|AM.qv (aN J J .p0 J) J<|AM.au J J J<|AM.qv (aM J) J<|AM.au J J J<|AM.qv (aE J) J<|AM.au J J J<|AM.qv (az J J) J<|AM.au J J J<|AM.qv (aN J J .p1 J) J<|AM.au J J J<|AM.qv (bL J) J<|AM.au J J J<|AM.qv (bf J J) J<|AM.au J J J<|AM.qv (aQ J J J) J<|AM.au J J J<|AM.qv (bO J J) J<|AM.qv (ed J J) J<|AM.nil<|rN<|ab.stop<|aj.lq [1,1,6,1,1,1,1,1,0] ⟨decide (ai.At < aa.c_.At),h,J⟩ J J
   ·rw [vH hc] at h
    exact AM.ar J J J J<|AM.ar J J J J<|AM.ar J J J J<|AM.ar J J J J<|AM.ar J J J J<|AM.ar J J J J<|AM.ar J J J J<|AM.ar J J J J<|AM.ar J J J J<|AM.qv (fP J J) J<|AM.nil<|rN<|ab.stop<|aj.lq [1,1,6,1,1,1,1,1,0] ⟨true,h,J⟩ J J
  ·rintro aK ⟨c5,h,rfl⟩
   unfold iz at h
   refine cB h J (fun h=>?_) (fun h=>?_)
   ·refine ab.ret<|?_
    cases h
    exact aj.here ⟨_,.nil,_,.cons .p0 (.cons .p0 (.cons .p1 (.cons .p1 (.cons .p1 (.cons .p1 (.cons .p1 (.cons .p0 .nil))))))),⟨cP,cm,cW,dR,jJ,J,J⟩⟩
   ·refine tK<|tS<|ab.cU (id:=3) (A:=[0,1,3,7,0,16,63,127]) 8 mixed J (by kernel_rfl) (by kernel_rfl)<|AM.qv (aM J) J<|AM.qv (aE J) J<|AM.qv (az J J) J<|AM.qv (aN J J .p0 J) J<|AM.qv (az J J) J<|AM.qv (aN J J (.next .p7) J) J<|aH h fun v6 e3 h=>AM.qv (Bq (gk:=AV.str) (gv:=I) (M:=aa.dq) (key:=ai.Device) (Z:=0) J J .p3 J J J e3 J) J<|AM.qv (bR J) J<|AM.nil<|rN<|tS<|ab.cut (fun aK=>∃ (c7:Bool),kD aa ai n2 v6 c7=some r∧aK=⟨165,[(0,.ptr bt 0),(3,.ptr b1 0),(4,.ptr (bY n2.toNat) 0),(6,I v6),(7,.bool c7)],[(bt,.cells [.ch [.str aa.c_.Key,I aa.c_.Target.aA,I aa.c_.Target.aC,I aa.c_.Target.aD,I aa.c_.At,p9 aa.c_.aR,I aa.c_.aZ.bS,I aa.c_.aZ.To,I aa.c_.Room],.bV cQ,.bV cS,.sl 1 cP 0 aa.open_.length,.sl 1 cm 0 aa.bD.length,.sl 1 cW 0 aa.ba.length,.sl 1 dR 0 aa.aV.length,I aa.bh,I aa.cZ]),(cQ,.mp (aa.qd.map (fun e=>(AV.str e.1,(pA bY) e.2)))),(iN,.ct (jq u3 bY jJ aa.mf)),(cS,yG aa.dq),(cP,dH aa.open_),(cm,dH aa.bD),(cW,dH aa.ba),(dR,dH aa.aV),(b1,.cells [I ai.At,.str ai.Device,I ai.Kind,I ai.Version.aA,I ai.Version.aC,I ai.Version.aD])]⟩) ?_ ?_
    ·refine tR<|rM J J<|rM J J<|aH h fun v8 e4 h=>fk J (iD J) (.cons (.xC _ _ _ .p0 (.cons (.co (.refl _)) (.cons (.co (.refl _)) (.cons (.co (.refl _)) (.cons (lO.jX .p4) (.cons (lO.jX .p5) (.cons (lO.jX .p6) (.cons (lO.jX .p7) (.cons (.co (.refl _)) (.cons (.co (.refl _)) .nil)))))))))) (.cons (lO.C3 (bp:=iN) (kb:=u3) (bs:=jJ) (M:=aa.mf) UU e4 .p2) .nil)) J J<|rM J J<|ae.guard J J J (fun hc=>?_) (fun hc=>?_)
     ·rw [vI hc] at h
      exact rM J J<|rY J J J<|rM J J<|rY J J J<|fk J (pH J) (.cons (.xC _ _ _ .p0 (.cons (.co (.refl _)) (.cons (.co (.refl _)) (.cons (.co (.refl _)) (.cons (lO.jX .p4) (.cons (lO.jX .p5) (.cons (lO.jX .p6) (.cons (lO.jX .p7) (.cons (.co (.refl _)) (.cons (.co (.refl _)) .nil)))))))))) (.cons (lO.C3 (bp:=iN) (kb:=u3) (bs:=jJ) (M:=aa.mf) UU e4 .p2) .nil)) J J<|rE J J J<|rA J J<|rN<|ab.stop<|aj.lq [0,0,0,0,0,0,0,0,0] ⟨(di aa v8),h,J⟩ J J
     ·rw [vH hc] at h
      exact rG J J J J<|rG J J J J<|rT J J J<|rA J J<|rN<|ab.stop<|aj.lq [0,0,0,0,0,0,0,0,0] ⟨true,h,J⟩ J J
    ·rintro aK ⟨c7,h,rfl⟩
     unfold kD at h
     refine tS<|aJ<|rM J J<|ae.qv (aG J J (.next .p7) J) J<|aH h fun v9 e5 h=>ae.ghost<|aj.Qn (kb:=u3) e5 .p2 J<|aj.here<|br J (wG J) cR (.cons .p0 .nil) J J<|ae.qv (cu J) J<|ae.ghost<|aj.Tk (kb:=u3) (v':=((aU v9 ai).2)) (s:=nbk []) e5 (.cons .p0 .nil) J (fun _=>.p2) fun Dx=>aj.here<|rN<|cB h J (fun h=>?_) (fun h=>?_)
     ·refine ab.ret<|?_
      cases h
      exact aj.here ⟨_,.nil,_,.cons .p0 (.cons .p0 (.cons .p1 (.cons .p1 (.cons .p1 (.cons .p1 (.cons .p1 (.cons .p0 .nil))))))),⟨cP,cm,cW,dR,Dx,J,J⟩⟩
     ·refine tK<|tS<|tS<|ab.cut (fun aK=>∃ (Cl:Bool),kC aa ai n2 v6 c7 v9 Cl=some r∧aK=⟨165,[(0,.ptr bt 0),(3,.ptr b1 0),(6,I v6),(7,.bool c7),(8,.bool Cl)],[(bt,.cells [.ch [.str aa.c_.Key,I aa.c_.Target.aA,I aa.c_.Target.aC,I aa.c_.Target.aD,I aa.c_.At,p9 aa.c_.aR,I aa.c_.aZ.bS,I aa.c_.aZ.To,I aa.c_.Room],.bV cQ,.bV cS,.sl 1 cP 0 aa.open_.length,.sl 1 cm 0 aa.bD.length,.sl 1 cW 0 aa.ba.length,.sl 1 dR 0 aa.aV.length,I aa.bh,I aa.cZ]),(cQ,.mp (aa.qd.map (fun e=>(AV.str e.1,(pA bY) e.2)))),(iN,.ct (jq u3 bY Dx (aa.mf.set n2.toNat ((aU v9 ai).2)))),(cS,yG aa.dq),(cP,dH aa.open_),(cm,dH aa.bD),(cW,dH aa.ba),(dR,dH aa.aV),(b1,.cells [I ai.At,.str ai.Device,I ai.Kind,I ai.Version.aA,I ai.Version.aC,I ai.Version.aD])]⟩) ?_ ?_
      ·refine tR<|rM J J<|rM J J<|fk J (iD (J:bZ (⟨aa.c_,aa.qd,aa.dq,aa.open_,aa.bD,aa.ba,aa.aV,aa.bh,aa.cZ,aa.mf.set n2.toNat ((aU v9 ai).2)⟩:ax) ((aU v9 ai).2)=_)) (.cons (.xC _ _ _ .p0 (.cons (.co (.refl _)) (.cons (.co (.refl _)) (.cons (.co (.refl _)) (.cons (lO.jX .p4) (.cons (lO.jX .p5) (.cons (lO.jX .p6) (.cons (lO.jX .p7) (.cons (.co (.refl _)) (.cons (.co (.refl _)) .nil)))))))))) (.cons (lO.C3 (bp:=iN) (kb:=u3) (bs:=Dx) (M:=(aa.mf.set n2.toNat ((aU v9 ai).2))) UU (rW (v:=((aU v9 ai).2)) e5) .p2) .nil)) J J<|rM J J<|ae.guard J J J (fun hc=>?_) (fun hc=>?_)
       ·rw [vI hc] at h
        exact rM J J<|rY J J J<|rM J J<|rY J J J<|fk J (pH (J:di (⟨aa.c_,aa.qd,aa.dq,aa.open_,aa.bD,aa.ba,aa.aV,aa.bh,aa.cZ,aa.mf.set n2.toNat ((aU v9 ai).2)⟩:ax) ((aU v9 ai).2)=_)) (.cons (.xC _ _ _ .p0 (.cons (.co (.refl _)) (.cons (.co (.refl _)) (.cons (.co (.refl _)) (.cons (lO.jX .p4) (.cons (lO.jX .p5) (.cons (lO.jX .p6) (.cons (lO.jX .p7) (.cons (.co (.refl _)) (.cons (.co (.refl _)) .nil)))))))))) (.cons (lO.C3 (bp:=iN) (kb:=u3) (bs:=Dx) (M:=(aa.mf.set n2.toNat ((aU v9 ai).2))) UU (rW (v:=((aU v9 ai).2)) e5) .p2) .nil)) J J<|rE J J J<|rA J J<|rN<|ab.stop<|aj.lq [0,0,0,0,0,0,0,0,0] ⟨(di (⟨aa.c_,aa.qd,aa.dq,aa.open_,aa.bD,aa.ba,aa.aV,aa.bh,aa.cZ,aa.mf.set n2.toNat ((aU v9 ai).2)⟩:ax) ((aU v9 ai).2)),h,J⟩ J J
       ·rw [vH hc] at h
        exact rG J J J J<|rG J J J J<|rT J J J<|rA J J<|rN<|ab.stop<|aj.lq [0,0,0,0,0,0,0,0,0] ⟨true,h,J⟩ J J
      ·rintro aK ⟨Cl,h,rfl⟩
       unfold kC at h
       refine aJ<|rM J J<|rM J J<|ae.qv (XI J J) J<|rN<|ab.cut (fun aK=>∃ (AI:List Int),fZ aa ai n2 v6 v9 AI=some r∧aK=⟨165,[(0,.ptr bt 0),(3,.ptr b1 0),(6,I v6)],[(bt,.cells [.ch [.str aa.c_.Key,I aa.c_.Target.aA,I aa.c_.Target.aC,I aa.c_.Target.aD,I aa.c_.At,p9 aa.c_.aR,I aa.c_.aZ.bS,I aa.c_.aZ.To,I aa.c_.Room],.bV cQ,.bV cS,.sl 1 cP 0 AI.length,.sl 1 cm 0 aa.bD.length,.sl 1 cW 0 aa.ba.length,.sl 1 dR 0 aa.aV.length,I aa.bh,I aa.cZ]),(cQ,.mp (aa.qd.map (fun e=>(AV.str e.1,(pA bY) e.2)))),(iN,.ct (jq u3 bY Dx (aa.mf.set n2.toNat ((aU v9 ai).2)))),(cS,yG aa.dq),(cP,dH AI),(cm,dH aa.bD),(cW,dH aa.ba),(dR,dH aa.aV),(b1,.cells [I ai.At,.str ai.Device,I ai.Kind,I ai.Version.aA,I ai.Version.aC,I ai.Version.aD])]⟩) ?_ ?_
       ·refine cB h J (fun h=>?_) (fun h=>?_)
        ·refine aJ<|rM J J<|rN<|ab.cut (fun aK=>∃ (kT:List Int),iy aa ai n2 v6 v9 kT=some r∧aK=⟨165,[(0,.ptr bt 0),(3,.ptr b1 0),(6,I v6)],[(bt,.cells [.ch [.str aa.c_.Key,I aa.c_.Target.aA,I aa.c_.Target.aC,I aa.c_.Target.aD,I aa.c_.At,p9 aa.c_.aR,I aa.c_.aZ.bS,I aa.c_.aZ.To,I aa.c_.Room],.bV cQ,.bV cS,.sl 1 cP 0 kT.length,.sl 1 cm 0 aa.bD.length,.sl 1 cW 0 aa.ba.length,.sl 1 dR 0 aa.aV.length,I aa.bh,I aa.cZ]),(cQ,.mp (aa.qd.map (fun e=>(AV.str e.1,(pA bY) e.2)))),(iN,.ct (jq u3 bY Dx (aa.mf.set n2.toNat ((aU v9 ai).2)))),(cS,yG aa.dq),(cP,dH kT),(cm,dH aa.bD),(cW,dH aa.ba),(dR,dH aa.aV),(b1,.cells [I ai.At,.str ai.Device,I ai.Kind,I ai.Version.aA,I ai.Version.aC,I ai.Version.aD])]⟩) ?_ ?_
         ·refine cB h J (fun h=>?_) (fun h=>?_)
          ·exact tR<|rM J J<|ae.qv (aE J) J<|rF J J J<|rL J J .p0 J J<|rM J J<|aH h fun qe e6 h=>ae.qv (bu J J J e6) J<|ae.qv (dJ (g:=I) J J (.inl .p4) e6 J) J<|ae.qv (eK J J) J<|aH h fun kU e7 h=>ae.qv (bu J J J e7) J<|cE (g:=I) (A6:=bB (qe - 1)) J J J J e7 J .p4 J<|ae.ghost<|aj.eqs (s:=68) (gx:=.sl 1 cP 0 (aa.open_.set v6.toNat (bB (qe - 1))).length) J (by rw [ac])<|aj.here<|ae.ghost<|aj.I9 (j:=3) (gx:=.sl 1 cP 0 (aa.open_.set v6.toNat (bB (qe - 1))).length) .p0 J (by rw [ac]) J<|aj.here<|rN<|ab.stop<|aj.lq [0,0,0,0,0,0,0,0,0] ⟨aa.open_.set v6.toNat (bB (qe - 1)),h,J⟩ J J
          ·exact tR<|rM J J<|ae.qv (aE J) J<|rF J J J<|rL J J .p0 J J<|rM J J<|aH h fun sW e8 h=>ae.qv (bu J J J e8) J<|ae.qv (dJ (g:=I) J J (.inl .p4) e8 J) J<|ae.qv (bq J J) J<|aH h fun v17 e9 h=>ae.qv (bu J J J e9) J<|cE (g:=I) (A6:=bB (sW+1)) J J J J e9 J .p4 J<|ae.ghost<|aj.eqs (s:=77) (gx:=.sl 1 cP 0 (aa.open_.set v6.toNat (bB (sW+1))).length) J (by rw [ac])<|aj.here<|ae.ghost<|aj.I9 (j:=3) (gx:=.sl 1 cP 0 (aa.open_.set v6.toNat (bB (sW+1))).length) .p0 J (by rw [ac]) J<|aj.here<|rN<|ab.stop<|aj.lq [0,0,0,0,0,0,0,0,0] ⟨aa.open_.set v6.toNat (bB (sW+1)),h,J⟩ J J
         ·rintro aK ⟨kT,h,rfl⟩
          unfold iy at h
          exact ab.stop<|aj.lq [0,0,0,0,0,0,0,0,0] ⟨kT,h,J⟩ J J
        ·exact tK<|ab.stop<|aj.lq [0,0,0,0,0,0,0,0,0] ⟨aa.open_,h,J⟩ J J
       ·rintro aK ⟨AI,h,rfl⟩
        unfold fZ at h
        refine tS<|tS<|ab.cut (fun aK=>∃ (YD:Bool),kB aa ai n2 v6 v9 AI YD=some r∧aK=⟨165,[(0,.ptr bt 0),(3,.ptr b1 0),(6,I v6),(90,.bool YD)],[(bt,.cells [.ch [.str aa.c_.Key,I aa.c_.Target.aA,I aa.c_.Target.aC,I aa.c_.Target.aD,I aa.c_.At,p9 aa.c_.aR,I aa.c_.aZ.bS,I aa.c_.aZ.To,I aa.c_.Room],.bV cQ,.bV cS,.sl 1 cP 0 AI.length,.sl 1 cm 0 aa.bD.length,.sl 1 cW 0 aa.ba.length,.sl 1 dR 0 aa.aV.length,I aa.bh,I aa.cZ]),(cQ,.mp (aa.qd.map (fun e=>(AV.str e.1,(pA bY) e.2)))),(iN,.ct (jq u3 bY Dx (aa.mf.set n2.toNat ((aU v9 ai).2)))),(cS,yG aa.dq),(cP,dH AI),(cm,dH aa.bD),(cW,dH aa.ba),(dR,dH aa.aV),(b1,.cells [I ai.At,.str ai.Device,I ai.Kind,I ai.Version.aA,I ai.Version.aC,I ai.Version.aD])]⟩) ?_ ?_
        ·refine tR<|rF J J J<|rL J J (.next .p7) J J<|ae.qv (o9 J J) J<|rM J J<|ae.dw J J J (fun hc=>?_) (fun hc=>?_)
         ·rw [vc hc] at h
          exact rF J J J<|rY J J J<|rL J J (.next .p7) J J<|rY J J J<|ae.qv (o9 J J) J<|rT J J J<|rN<|ab.stop<|aj.lq [0,0,0,0,0,0,0,0,0] ⟨decide (ai.Kind≠4),h,J⟩ J J
         ·rw [vd hc] at h
          exact rG J J J J<|rG J J J J<|rE J J J<|rN<|ab.stop<|aj.lq [0,0,0,0,0,0,0,0,0] ⟨false,h,J⟩ J J
        ·rintro aK ⟨YD,h,rfl⟩
         unfold kB at h
         refine cB h J (fun h=>?_) (fun h=>?_)
         ·refine ab.ret<|?_
          cases h
          exact aj.here ⟨_,.nil,_,.cons .p0 (.cons .p0 (.cons .p1 (.cons .p1 (.cons .p1 (.cons .p1 (.cons .p1 (.cons .p0 .nil))))))),⟨cP,cm,cW,dR,Dx,J,J⟩⟩
         ·refine tK<|aJ<|rM J J<|ae.qv (aE J) J<|rF J J J<|rL J J .p0 J J<|rM J J<|aH h fun np BB h=>ae.qv (bu J J J BB) J<|ae.qv (dJ (g:=I) J J (.inl .p5) BB J) J<|ae.qv (bq J J) J<|aH h fun v20 C6 h=>ae.qv (bu J J J C6) J<|cE (g:=I) (A6:=bB (np+1)) J J J J C6 J .p5 J<|ae.ghost<|aj.eqs (s:=94) (gx:=.sl 1 cm 0 (aa.bD.set v6.toNat (bB (np+1))).length) J (by rw [ac])<|aj.here<|ae.ghost<|aj.I9 (j:=4) (gx:=.sl 1 cm 0 (aa.bD.set v6.toNat (bB (np+1))).length) .p0 J (by rw [ac]) J<|aj.here<|rN<|tS<|aJ<|rF J J J<|rL J J (.next .p7) J J<|ae.qv (dt J J) J<|rN<|ab.cut (fun aK=>∃ (xz:List Int),fY aa ai n2 v6 v9 AI np xz=some r∧aK=⟨165,[(0,.ptr bt 0),(3,.ptr b1 0),(6,I v6)],[(bt,.cells [.ch [.str aa.c_.Key,I aa.c_.Target.aA,I aa.c_.Target.aC,I aa.c_.Target.aD,I aa.c_.At,p9 aa.c_.aR,I aa.c_.aZ.bS,I aa.c_.aZ.To,I aa.c_.Room],.bV cQ,.bV cS,.sl 1 cP 0 AI.length,.sl 1 cm 0 (aa.bD.set v6.toNat (bB (np+1))).length,.sl 1 cW 0 xz.length,.sl 1 dR 0 aa.aV.length,I aa.bh,I aa.cZ]),(cQ,.mp (aa.qd.map (fun e=>(AV.str e.1,(pA bY) e.2)))),(iN,.ct (jq u3 bY Dx (aa.mf.set n2.toNat ((aU v9 ai).2)))),(cS,yG aa.dq),(cP,dH AI),(cm,dH (aa.bD.set v6.toNat (bB (np+1)))),(cW,dH xz),(dR,dH aa.aV),(b1,.cells [I ai.At,.str ai.Device,I ai.Kind,I ai.Version.aA,I ai.Version.aC,I ai.Version.aD])]⟩) ?_ ?_
          ·refine cD h J (fun h=>?_) (fun h=>?_)
           ·exact tR<|rM J J<|ae.qv (aE J) J<|rF J J J<|rL J J .p0 J J<|rM J J<|aH h fun v22 FW h=>ae.qv (bu J J J FW) J<|ae.qv (dJ (g:=I) J J (.inl .p6) FW J) J<|ae.qv (bq J J) J<|aH h fun v23 IE h=>ae.qv (bu J J J IE) J<|cE (g:=I) (A6:=bB (v22+1)) J J J J IE J .p6 J<|ae.ghost<|aj.eqs (s:=106) (gx:=.sl 1 cW 0 (aa.ba.set v6.toNat (bB (v22+1))).length) J (by rw [ac])<|aj.here<|ae.ghost<|aj.I9 (j:=5) (gx:=.sl 1 cW 0 (aa.ba.set v6.toNat (bB (v22+1))).length) .p0 J (by rw [ac]) J<|aj.here<|rN<|ab.stop<|aj.lq [0,0,0,0,0,0,0,0,0] ⟨aa.ba.set v6.toNat (bB (v22+1)),h,J⟩ J J
           ·exact tK<|ab.stop<|aj.lq [0,0,0,0,0,0,0,0,0] ⟨aa.ba,h,J⟩ J J
          ·rintro aK ⟨xz,h,rfl⟩
           unfold fY at h
           refine aJ<|rM J J<|ae.qv (aE J) J<|rF J J J<|rL J J .p0 J J<|ae.qv (bL J) J<|ae.qv (bf J J) J<|ae.qv (aQ J J J) J<|rM J J<|aH h fun v24 QC h=>ae.qv (bG J J J QC J J) J<|ae.qv (aL J J J) J<|bH J J J J fun Dv=>ay J J J J .p0 J J<|rN<|tS<|ab.cut (fun aK=>∃ (YC:Bool),eI aa ai n2 v6 v9 AI np xz YC=some r∧aK=⟨165,[(0,.ptr bt 0),(3,.ptr b1 0),(159,.bool YC)],[(bt,.cells [.ch [.str aa.c_.Key,I aa.c_.Target.aA,I aa.c_.Target.aC,I aa.c_.Target.aD,I aa.c_.At,p9 aa.c_.aR,I aa.c_.aZ.bS,I aa.c_.aZ.To,I aa.c_.Room],.bV cQ,.bV cS,.sl 1 cP 0 AI.length,.sl 1 cm 0 (aa.bD.set v6.toNat (bB (np+1))).length,.sl 1 cW 0 xz.length,.sl 1 dR 0 aa.aV.length,I aa.bh,I aa.cZ]),(cQ,.mp (aa.qd.map (fun e=>(AV.str e.1,(pA bY) e.2)))),(iN,.ct (jq u3 bY Dx (aa.mf.set n2.toNat ((aU v9 ai).2)))),(cS,yG aa.dq),(cP,dH AI),(cm,dH (aa.bD.set v6.toNat (bB (np+1)))),(cW,dH xz),(dR,dH aa.aV),(b1,.cells [I ai.At,.str ai.Device,I ai.Kind,I ai.Version.aA,I ai.Version.aC,I ai.Version.aD])]⟩) ?_ ?_
           ·refine ab.cU (id:=16) (A:=[0,1,3,7,15,31,63,127,255,511,63,2047,4095,63,8255,32767,65535,131071,262143,524287,1048575,2097151,262143,8388607,16777215,33554431,262143,67371007,262143,268697599,805568511,1879310335,262143,8321761279,16911695871,34292891647,68719476735,137438953471]) 38 mixed J (by kernel_rfl) (by kernel_rfl)<|AM.qv (aM J) J<|AM.qv (aE J) J<|AM.qv (az J J) J<|AM.qv (aN J J .p1 J) J<|AM.qv (bO J J) J<|AM.qv (aM J) J<|AM.dw J J J (fun hc=>?_) (fun hc=>?_)
            ·refine have h:=pj hc h;AM.qv (aM J) J<|AM.au J J J<|AM.qv (aE J) J<|AM.au J J J<|AM.qv (az J J) J<|AM.au J J J<|AM.qv (aN J J .p1 J) J<|AM.au J J J<|AM.qv (aM J) J<|AM.au J J J<|aH h fun mz UW h=>AM.qv (bu J J J UW) J<|AM.au J J J<|AM.qv (dJ (g:=I) J J (.inl .p6) UW J) J<|AM.au J J J<|AM.qv (az J J) J<|AM.au J J J<|AM.qv (aN J J .p0 J) J<|AM.au J J J<|AM.qv (nU J J) J<|AM.qv (fP J J) J<|AM.qv (aM J) J<|AM.dw J J J (fun hc=>?_) (fun hc=>?_)
             ·exact have h:=pj hc h;AM.qv (aM J) J<|AM.au J J J<|AM.qv (aE J) J<|AM.au J J J<|AM.qv (az J J) J<|AM.au J J J<|AM.qv (aN J J .p1 J) J<|AM.au J J J<|AM.qv (aM J) J<|AM.au J J J<|aH h fun v28 Xp h=>AM.qv (bu J J J Xp) J<|AM.au J J J<|AM.qv (dJ (g:=I) J J (.inl .p7) Xp J) J<|AM.au J J J<|AM.qv (sR J J) J<|AM.au J J J<|AM.qv (az J J) J<|AM.au J J J<|AM.qv (aN J J .p0 J) J<|AM.au J J J<|AM.qv (aM J) J<|AM.au J J J<|AM.qv (aE J) J<|AM.au J J J<|AM.qv (az J J) J<|AM.au J J J<|AM.qv (aN J J .p1 J) J<|AM.au J J J<|AM.qv (aM J) J<|AM.au J J J<|aH h fun qj UX h=>AM.qv (bu J J J UX) J<|AM.au J J J<|AM.qv (dJ (g:=I) J J (.inl .p6) UX J) J<|AM.au J J J<|AM.qv (sR J J) J<|AM.au J J J<|AM.qv (eM J J) J<|AM.qv (fP J J) J<|AM.nil<|rN<|ab.stop<|aj.lq [1,1,1,1,1,1,1,1,1] ⟨decide ((bB (v24.et * qj)) < (bB (1000 * v28))),h,J⟩ J J
             ·exact have h:=zZ hc h;AM.ar J J J J<|AM.ar J J J J<|AM.ar J J J J<|AM.ar J J J J<|AM.ar J J J J<|AM.ar J J J J<|AM.ar J J J J<|AM.ar J J J J<|AM.ar J J J J<|AM.ar J J J J<|AM.ar J J J J<|AM.ar J J J J<|AM.ar J J J J<|AM.ar J J J J<|AM.ar J J J J<|AM.ar J J J J<|AM.ar J J J J<|AM.ar J J J J<|AM.qv (ed J J) J<|AM.nil<|rN<|ab.stop<|aj.lq [1,1,1,1,1,1,1,1,1] ⟨false,h,J⟩ J J
            ·exact have h:=zZ hc h;AM.ar J J J J<|AM.ar J J J J<|AM.ar J J J J<|AM.ar J J J J<|AM.ar J J J J<|AM.ar J J J J<|AM.ar J J J J<|AM.ar J J J J<|AM.ar J J J J<|AM.qv (ed J J) J<|AM.qv (aM J) J<|AM.ar J J J J<|AM.ar J J J J<|AM.ar J J J J<|AM.ar J J J J<|AM.ar J J J J<|AM.ar J J J J<|AM.ar J J J J<|AM.ar J J J J<|AM.ar J J J J<|AM.ar J J J J<|AM.ar J J J J<|AM.ar J J J J<|AM.ar J J J J<|AM.ar J J J J<|AM.ar J J J J<|AM.ar J J J J<|AM.ar J J J J<|AM.ar J J J J<|AM.ar J J J J<|AM.qv (ed J J) J<|AM.nil<|rN<|ab.stop<|aj.lq [1,1,1,1,1,1,1,1,1] ⟨false,h,J⟩ J J
           ·rintro aK ⟨YC,h,rfl⟩
            unfold eI at h
            refine ab.cut (fun aK=>∃ (n30:Int),ij aa ai n2 v6 v9 AI np xz n30=some r∧aK=⟨165,[],[(bt,.cells [.ch [.str aa.c_.Key,I aa.c_.Target.aA,I aa.c_.Target.aC,I aa.c_.Target.aD,I aa.c_.At,p9 aa.c_.aR,I aa.c_.aZ.bS,I aa.c_.aZ.To,I aa.c_.Room],.bV cQ,.bV cS,.sl 1 cP 0 AI.length,.sl 1 cm 0 (aa.bD.set v6.toNat (bB (np+1))).length,.sl 1 cW 0 xz.length,.sl 1 dR 0 aa.aV.length,I n30,I aa.cZ]),(cQ,.mp (aa.qd.map (fun e=>(AV.str e.1,(pA bY) e.2)))),(iN,.ct (jq u3 bY Dx (aa.mf.set n2.toNat ((aU v9 ai).2)))),(cS,yG aa.dq),(cP,dH AI),(cm,dH (aa.bD.set v6.toNat (bB (np+1)))),(cW,dH xz),(dR,dH aa.aV)]⟩) ?_ ?_
            ·refine cB h J (fun h=>?_) (fun h=>?_)
             ·exact tR<|rM J J<|rF J J J<|rL J J (.next .p7) J J<|ae.qv (aE J) J<|rF J J J<|ay J J J J .p0 J J<|rN<|ab.stop<|aj.lq [0,0,0,0,0,0,0,0] ⟨ai.At,h,J⟩ J J
             ·exact tK<|ab.stop<|aj.lq [0,0,0,0,0,0,0,0] ⟨aa.bh,h,J⟩ J J
            ·rintro aK ⟨n30,h,rfl⟩
             unfold ij at h
             refine ab.nil<|?_
             cases h
             exact aj.here ⟨_,.nil,_,.cons .p0 (.cons .p0 (.cons .p1 (.cons .p1 (.cons .p1 (.cons .p1 (.cons .p1 (.cons .p0 .nil))))))),⟨cP,cm,cW,dR,Dx,J,J⟩⟩
theorem xQ [GI:bN] {bt iN:Bk} {bY:Nat→Bk} {jJ:Nat→Nat→Bk} {cQ cS cP cm cW dR:Bk} {aa:ax} {ai:List MarkS} {aI:Int} {r:ax} (h:il aa ai aI=some r):aP Tryz.prog 49 [.ptr bt 0,uf ai,I aI] [(bt,.cells [.ch [.str aa.c_.Key,I aa.c_.Target.aA,I aa.c_.Target.aC,I aa.c_.Target.aD,I aa.c_.At,p9 aa.c_.aR,I aa.c_.aZ.bS,I aa.c_.aZ.To,I aa.c_.Room],.bV cQ,.bV cS,.sl 1 cP 0 aa.open_.length,.sl 1 cm 0 aa.bD.length,.sl 1 cW 0 aa.ba.length,.sl 1 dR 0 aa.aV.length,I aa.bh,I aa.cZ]),(cQ,.mp (aa.qd.map (fun e=>(AV.str e.1,(pA bY) e.2)))),(cS,yG aa.dq),(cP,dH aa.open_),(cm,dH aa.bD),(cW,dH aa.ba),(dR,dH aa.aV),(iN,.ct (jq u3 bY jJ aa.mf))] (T5 (fun zg zh zi zj EZ=>[(bt,.cells [.ch [.str aa.c_.Key,I aa.c_.Target.aA,I aa.c_.Target.aC,I aa.c_.Target.aD,I aa.c_.At,p9 aa.c_.aR,I aa.c_.aZ.bS,I aa.c_.aZ.To,I aa.c_.Room],.bV cQ,.bV cS,.sl 1 zg 0 r.open_.length,.sl 1 zh 0 r.bD.length,.sl 1 zi 0 r.ba.length,.sl 1 zj 0 r.aV.length,I r.bh,I r.cZ]),(cQ,.mp (r.qd.map (fun e=>(AV.str e.1,(pA bY) e.2)))),(cS,yG r.dq),(zg,dH r.open_),(zh,dH r.bD),(zi,dH r.ba),(zj,dH r.aV),(iN,.ct (jq u3 bY EZ r.mf))]) (fun zg zh zi zj EZ=>.lE [])):=by
 unfold il at h
 refine aP.hC ?_
 refine aP.bI Tryz.func49 J Tryz.ntmps49 Tryz.results49 J J ?_
 refine tS<|aJ<|rA J J<|rN<|ab.block<|ab.cx (fun x:(List (bn×Int))×(List ao)×(List (bn×Int))×(List Int)×(List Int)×(List Int)×(List Int)×Int×Int×Int=>fJ aa ai aI x.1 x.2.1 x.2.2.1 x.2.2.2.1 x.2.2.2.2.1 x.2.2.2.2.2.1 x.2.2.2.2.2.2.1 x.2.2.2.2.2.2.2.1 x.2.2.2.2.2.2.2.2.1 x.2.2.2.2.2.2.2.2.2) (fun x aK=>∃ (Oi:Nat→Nat→Bk) (JO:Bk) (MW:Bk) (xe:Bk) (zO:Bk),aK=⟨57,[(0,.ptr bt 0),(1,uf ai),(2,I aI),(6,I x.2.2.2.2.2.2.2.2.2)],[(bt,.cells [.ch [.str aa.c_.Key,I aa.c_.Target.aA,I aa.c_.Target.aC,I aa.c_.Target.aD,I aa.c_.At,p9 aa.c_.aR,I aa.c_.aZ.bS,I aa.c_.aZ.To,I aa.c_.Room],.bV cQ,.bV cS,.sl 1 JO 0 x.2.2.2.1.length,.sl 1 MW 0 x.2.2.2.2.1.length,.sl 1 xe 0 x.2.2.2.2.2.1.length,.sl 1 zO 0 x.2.2.2.2.2.2.1.length,I x.2.2.2.2.2.2.2.1,I x.2.2.2.2.2.2.2.2.1]),(cQ,.mp (x.1.map (fun e=>(AV.str e.1,(pA bY) e.2)))),(iN,.ct (jq u3 bY Oi x.2.1)),(cS,yG x.2.2.1),(JO,dH x.2.2.2.1),(MW,dH x.2.2.2.2.1),(xe,dH x.2.2.2.2.2.1),(zO,dH x.2.2.2.2.2.2.1)]⟩) h ?_ ?_
 ·exact aj.lq [0,0,5,0,0,0,0,0] ⟨jJ,cP,cm,cW,dR,J⟩ J J
 ·intro x z1 aK J1 dY h jl dQ
  obtain ⟨za,vB,yo,xz,um,r7,wK,n28,n29,n30⟩:=x
  obtain ⟨Oi,JO,MW,xe,zO,rfl⟩:=dY
  replace h:fJ aa ai aI za vB yo xz um r7 wK n28 n29 n30=some z1:=h
  unfold fJ at h
  refine tS<|tS<|ab.cut (fun aK=>∃ (c31:Bool),ek aa ai aI za vB yo xz um r7 wK n28 n29 n30 c31=some z1∧aK=⟨57,[(0,.ptr bt 0),(1,uf ai),(2,I aI),(6,I n30),(20,.bool c31)],[(bt,.cells [.ch [.str aa.c_.Key,I aa.c_.Target.aA,I aa.c_.Target.aC,I aa.c_.Target.aD,I aa.c_.At,p9 aa.c_.aR,I aa.c_.aZ.bS,I aa.c_.aZ.To,I aa.c_.Room],.bV cQ,.bV cS,.sl 1 JO 0 xz.length,.sl 1 MW 0 um.length,.sl 1 xe 0 r7.length,.sl 1 zO 0 wK.length,I n28,I n29]),(cQ,.mp (za.map (fun e=>(AV.str e.1,(pA bY) e.2)))),(iN,.ct (jq u3 bY Oi vB)),(cS,yG yo),(JO,dH xz),(MW,dH um),(xe,dH r7),(zO,dH wK)]⟩) ?_ ?_
  ·refine tR<|rM J J<|rM J J<|ae.qv (ca J) J<|ae.qv (bO J J) J<|rM J J<|gT h J J J (fun h=>?_) (fun h=>?_)
   ·exact rM J J<|rY J J J<|rM J J<|rY J J J<|aH h fun v32 e1 h=>ae.qv (bG J J J e1 J J) J<|rY J J J<|ae.qv (bf J J) J<|rY J J J<|ae.qv (aQ J J J) J<|rY J J J<|rM J J<|rY J J J<|ae.qv (pn J J) J<|rT J J J<|rN<|ab.stop<|aj.lq [0,0,0,0,0,0,0,0] ⟨decide (v32.At≤aI),h,J⟩ J J
   ·exact rG J J J J<|rG J J J J<|rG J J J J<|rG J J J J<|rG J J J J<|rG J J J J<|rE J J J<|rN<|ab.stop<|aj.lq [0,0,0,0,0,0,0,0] ⟨false,h,J⟩ J J
  ·rintro aK ⟨c31,h,rfl⟩
   unfold ek at h
   refine cB h J (fun h=>?_) (fun h=>?_)
   ·refine tK<|ab.block<|aJ<|rM J J<|rM J J<|aH h fun v33 e2 h=>ae.qv (bG J J J e2 J J) J<|ae.qv (bf J J) J<|ae.qv (aQ J J J) J<|rA J J<|rN<|aJ<|rM J J<|rM J J<|ae.qv (eK J J) J<|aH h fun Ck e3 h=>HL J (oo e3) cR (.cons .p0 (.cons .p3 (.cons .p3 (.cons .p3 (.cons .p3 .nil))))) (fun _ _ _ _=>J) J fun b35 EY b37 Sb=>rN<|tS<|ab.block<|ab.cx (fun x:(List (bn×Int))×(List ao)×(List (bn×Int))×(List Int)×(List Int)×(List Int)×(List Int)×Int×Int×Int=>ik aa ai v33 x.1 x.2.1 x.2.2.1 x.2.2.2.1 x.2.2.2.2.1 x.2.2.2.2.2.1 x.2.2.2.2.2.2.1 x.2.2.2.2.2.2.2.1 x.2.2.2.2.2.2.2.2.1 x.2.2.2.2.2.2.2.2.2) (fun x aK=>∃ (TB:Nat→Nat→Bk) (YR:Bk) (Wg:Bk) (YS:Bk) (YT:Bk),aK=⟨57,[(0,.ptr bt 0),(1,uf ai),(2,I aI),(6,I x.2.2.2.2.2.2.2.2.2),(7,I v33.At)],[(bt,.cells [.ch [.str aa.c_.Key,I aa.c_.Target.aA,I aa.c_.Target.aC,I aa.c_.Target.aD,I aa.c_.At,p9 aa.c_.aR,I aa.c_.aZ.bS,I aa.c_.aZ.To,I aa.c_.Room],.bV cQ,.bV cS,.sl 1 YR 0 x.2.2.2.1.length,.sl 1 Wg 0 x.2.2.2.2.1.length,.sl 1 YS 0 x.2.2.2.2.2.1.length,.sl 1 YT 0 x.2.2.2.2.2.2.1.length,I x.2.2.2.2.2.2.2.1,I x.2.2.2.2.2.2.2.2.1]),(cQ,.mp (x.1.map (fun e=>(AV.str e.1,(pA bY) e.2)))),(iN,.ct (jq u3 bY TB x.2.1)),(cS,yG x.2.2.1),(YR,dH x.2.2.2.1),(Wg,dH x.2.2.2.2.1),(YS,dH x.2.2.2.2.2.1),(YT,dH x.2.2.2.2.2.2.1)]⟩) h ?_ ?_
    ·exact aj.lq [0,4,4,4,0,0,0,0] ⟨Oi,b35,EY,b37,Sb,J⟩ J J
    ·intro x z2 aK J2 dY h yr wE
     obtain ⟨ID,MO,MP,Dt,MQ,GO,MR,Od,Cj,n68⟩:=x
     obtain ⟨TB,YR,Wg,YS,YT,rfl⟩:=dY
     replace h:ik aa ai v33 ID MO MP Dt MQ GO MR Od Cj n68=some z2:=h
     unfold ik at h
     refine tS<|tS<|ab.cut (fun aK=>∃ (YE:Bool),ei aa ai v33 ID MO MP Dt MQ GO MR Od Cj n68 YE=some z2∧aK=⟨57,[(0,.ptr bt 0),(1,uf ai),(2,I aI),(6,I n68),(7,I v33.At),(42,.bool YE)],[(bt,.cells [.ch [.str aa.c_.Key,I aa.c_.Target.aA,I aa.c_.Target.aC,I aa.c_.Target.aD,I aa.c_.At,p9 aa.c_.aR,I aa.c_.aZ.bS,I aa.c_.aZ.To,I aa.c_.Room],.bV cQ,.bV cS,.sl 1 YR 0 Dt.length,.sl 1 Wg 0 MQ.length,.sl 1 YS 0 GO.length,.sl 1 YT 0 MR.length,I Od,I Cj]),(cQ,.mp (ID.map (fun e=>(AV.str e.1,(pA bY) e.2)))),(iN,.ct (jq u3 bY TB MO)),(cS,yG MP),(YR,dH Dt),(Wg,dH MQ),(YS,dH GO),(YT,dH MR)]⟩) ?_ ?_
     ·refine tR<|rM J J<|rM J J<|ae.qv (ca J) J<|ae.qv (bO J J) J<|rM J J<|gT h J J J (fun h=>?_) (fun h=>?_)
      ·exact rM J J<|rY J J J<|rM J J<|rY J J J<|aH h fun v70 e4 h=>ae.qv (bG J J J e4 J J) J<|rY J J J<|ae.qv (bf J J) J<|rY J J J<|ae.qv (aQ J J J) J<|rY J J J<|rM J J<|rY J J J<|ae.qv (dt J J) J<|rT J J J<|rN<|ab.stop<|aj.lq [0,0,0,0,0,0,0,0] ⟨decide (v70.At=v33.At),h,J⟩ J J
      ·exact rG J J J J<|rG J J J J<|rG J J J J<|rG J J J J<|rG J J J J<|rG J J J J<|rE J J J<|rN<|ab.stop<|aj.lq [0,0,0,0,0,0,0,0] ⟨false,h,J⟩ J J
     ·rintro aK ⟨YE,h,rfl⟩
      unfold ei at h
      refine cB h J (fun h=>?_) (fun h=>?_)
      ·refine tK<|tS<|ab.block<|tR<|rM J J<|rM J J<|rM J J<|aH h fun V6 e5 h=>ae.qv (bG J J J e5 J J) J<|ae.qv (aL J J J) J<|aH h fun v72 e6 h=>Mz J (yx e6) cR (.cons .p0 (.cons .p0 (.cons .p1 (.cons .p1 (.cons .p1 (.cons .p1 (.cons .p1 (.cons .p0 .nil)))))))) (fun _ _ _ _ _=>J) J fun b73 b74 b75 b76 abR=>rN<|ab.cw<|tR<|rM J J<|ae.qv (bq J J) J<|rA J J<|rN<|ab.stop<|?_
       cases h
       exact yr _ _ J<|aj.lq [0,0,5,0,0,0,0,0] ⟨abR,b73,b74,b75,b76,J⟩ J J
      ·refine ab.exit J<|have h:=bT h wE;?_
       unfold nv at h
       refine tR<|rM J J<|rM J J<|aH h fun v78 e7 h=>HL J (oo e7) cR (.cons .p0 (.cons .p3 (.cons .p3 (.cons .p3 (.cons .p3 .nil))))) (fun _ _ _ _=>J) J fun b79 b80 b81 b82=>rN<|ab.cw<|ab.stop<|?_
       cases h
       exact jl _ _ J<|aj.lq [0,4,4,4,0,0,0,0] ⟨TB,b79,b80,b81,b82,J⟩ J J
   ·refine ab.exit J<|have h:=bT h dQ;?_
    unfold nw at h
    refine tR<|rM J J<|rM J J<|aH h fun V8 e8 h=>HL J (oo e8) cR (.cons .p0 (.cons .p3 (.cons .p3 (.cons .p3 (.cons .p3 .nil))))) (fun _ _ _ _=>J) J fun b84 b85 b86 b87=>rN<|ab.nil<|?_
    cases h
    exact aj.here ⟨_,.nil,_,.cons .p0 (.cons .p4 (.cons .p5 (.cons .p0 (.cons .p0 (.cons .p0 (.cons .p0 (.cons .p0 .nil))))))),⟨b84,b85,b86,b87,Oi,J,J⟩⟩
theorem vo [GI:bN] {aa:Campaign} {ai aI:Int} {r:Bool} (h:ji aa ai aI=r):Pu Tryz.prog 51 [.ch [.str aa.Key,I aa.Target.aA,I aa.Target.aC,I aa.Target.aD,I aa.At,p9 aa.aR,I aa.aZ.bS,I aa.aZ.To,I aa.Room],I ai,I aI] (.bool r):=by
 unfold ji at h
 refine aP.bI Tryz.func51 J Tryz.ntmps51 Tryz.results51 J J ?_
 refine aJ<|rA J J<|rN<|aJ<|rM J J<|rM J J<|ae.qv (bq J J) J<|ae.qv (Gb J J (by decide)) J<|ae.qv (bq J J) J<|ae.qv (Gb J J (by decide)) J<|rA J J<|rN<|tS<|ab.cU (id:=2) (A:=[0,1,3,7,15,0,32,96,224,480,31,2047]) 12 mixed J (by kernel_rfl) (by kernel_rfl)<|AM.qv (aM J) J<|AM.qv (bL J) J<|AM.qv (bf J J) J<|AM.qv (bf J J) J<|AM.qv (aQ J J J) J<|AM.qv (aM J) J<|AM.qv (bL J) J<|AM.qv (bf J J) J<|AM.qv (bf J J) J<|AM.qv (aQ J J J) J<|AM.qv (bR J) J<|AM.qv (bR J) J<|AM.nil<|rN<|tS<|ab.block<|aJ<|rM J J<|rM J J<|ae.qv (bO J J) J<|rA J J<|rN<|cD h J (fun h=>?_) (fun h=>?_)
 ·refine tS<|ab.cut (fun aK=>∃ (c1:Bool),nd c1=r∧aK=⟨50,[(6,.bool c1)],[]⟩) ?_ ?_
  ·refine tR<|rM J J<|rM J J<|ae.qv (pn J J) J<|rM J J<|ae.dw J J J (fun hc=>?_) (fun hc=>?_)
   ·rw [vc hc] at h
    exact rM J J<|rY J J J<|rM J J<|rY J J J<|ae.qv (bO J J) J<|rT J J J<|rA J J<|rN<|ab.stop<|aj.lq [] ⟨decide (((bB (((bB (aI+ai)).tmod 86400000)+86400000)).tmod 86400000) < aa.aZ.To),h,J⟩ J J
   ·rw [vd hc] at h
    exact rG J J J J<|rG J J J J<|rE J J J<|rA J J<|rN<|ab.stop<|aj.lq [] ⟨false,h,J⟩ J J
  ·rintro aK ⟨c1,h,rfl⟩
   unfold nd at h
   refine ab.ret<|?_
   obtain rfl:=h
   exact hP J J
 ·refine aJ<|rM J J<|rM J J<|ae.qv (eM J J) J<|rA J J<|rN<|cD h J (fun h=>?_) (fun h=>?_)
  ·refine tS<|ab.cut (fun aK=>∃ (c2:Bool),nf c2=r∧aK=⟨50,[(6,.bool c2)],[]⟩) ?_ ?_
   ·refine tR<|rM J J<|rM J J<|ae.qv (nU J J) J<|rM J J<|ae.dG J J J (fun hc=>?_) (fun hc=>?_)
    ·rw [wU hc] at h
     exact rM J J<|rY J J J<|rM J J<|rY J J J<|ae.qv (bO J J) J<|rE J J J<|rA J J<|rN<|ab.stop<|aj.lq [] ⟨decide (((bB (((bB (aI+ai)).tmod 86400000)+86400000)).tmod 86400000) < aa.aZ.To),h,J⟩ J J
    ·rw [wT hc] at h
     exact rG J J J J<|rG J J J J<|rT J J J<|rA J J<|rN<|ab.stop<|aj.lq [] ⟨true,h,J⟩ J J
   ·rintro aK ⟨c2,h,rfl⟩
    unfold nf at h
    refine ab.ret<|?_
    obtain rfl:=h
    exact hP J J
  ·refine tK<|ab.cw<|aJ<|rA J J<|rN<|ab.ret<|?_
   obtain rfl:=h
   exact hP J J
theorem Dy [GI:bN] {aa:ao} {r:Bool} (h:qt aa=r):Pu Tryz.prog 93 [.ch [I aa.ak.Kind,I aa.ak.Since,I aa.ak.Version.aA,I aa.ak.Version.aC,I aa.ak.Version.aD,I aa.ak.et,I aa.bb.aA,I aa.bb.aC,I aa.bb.aD]] (.bool r):=by
 unfold qt at h
 refine aP.bI Tryz.func93 J Tryz.ntmps93 Tryz.results93 J J ?_
 refine aJ<|rA J J<|rN<|tS<|ab.cut (fun aK=>∃ (c1:Bool),pV c1=r∧aK=⟨17,[(2,.bool c1)],[]⟩) ?_ ?_
 ·refine tR<|rM J J<|ae.qv (bL J) J<|ae.qv (bf J J) J<|ae.qv (bf J J) J<|ae.qv (aQ J J J) J<|ae.qv (dt J J) J<|rM J J<|ae.dG J J J (fun hc=>?_) (fun hc=>?_)
  ·rw [wU hc] at h
   exact rM J J<|rY J J J<|ae.qv (bL J) J<|rY J J J<|ae.qv (bf J J) J<|rY J J J<|ae.qv (bf J J) J<|rY J J J<|ae.qv (aQ J J J) J<|rY J J J<|ae.qv (dt J J) J<|rE J J J<|rA J J<|rN<|ab.stop<|aj.lq [] ⟨decide (aa.ak.Kind=2),h,J⟩ J J
  ·rw [wT hc] at h
   exact rG J J J J<|rG J J J J<|rG J J J J<|rG J J J J<|rG J J J J<|rT J J J<|rA J J<|rN<|ab.stop<|aj.lq [] ⟨true,h,J⟩ J J
 ·rintro aK ⟨c1,h,rfl⟩
  unfold pV at h
  refine ab.ret<|?_
  obtain rfl:=h
  exact hP J J
theorem vp [GI:bN] {Wh:Nat→Bk} {aa ai:DeviceS} {aI:ax} {r:Int} (h:dA aa ai aI=some r):Pu Tryz.prog 96 [DeviceS.av aa,DeviceS.av ai,.ch [.ch [.ch [.str aI.c_.Key,I aI.c_.Target.aA,I aI.c_.Target.aC,I aI.c_.Target.aD,I aI.c_.At,p9 aI.c_.aR,I aI.c_.aZ.bS,I aI.c_.aZ.To,I aI.c_.Room],GL AV.str (pA Wh) aI.qd,GL AV.str I aI.dq,eJ aI.open_,eJ aI.bD,eJ aI.ba,eJ aI.aV,I aI.bh,I aI.cZ]]] (I r):=by
 unfold dA at h
 refine aP.bI Tryz.func96 J Tryz.ntmps96 Tryz.results96 J J ?_
 refine aJ<|dp J J J J fun b1=>dp J J J J fun b2=>rA J J<|rN<|tS<|ab.cU (id:=1) (A:=[0,1,3,7,0,16,63,0,128,384,896,0,2048,8064,16383,0,32768,98304,229376,0,524288,2097151,0,4194304,12582912,29360128,0,67108864,268435455,536870911,0,1073741824,0,4294967296,17179869183,34359738367,68719476735,137438953471]) 38 mixed J (by kernel_rfl) (by kernel_rfl)<|AM.qv (aQ J J J) J<|AM.qv (bL J) J<|AM.qv (bf J J) J<|AM.qv (aQ J J J) J<|AM.qv (az J J) J<|AM.qv (aN J J .p1 J) J<|aH h fun v3 e1 h=>AM.qv (GM (gk:=AV.str) (gv:=I) (M:=aI.dq) (key:=aa.Key) (Z:=0) J J J J J e1 J) J<|AM.qv (aQ J J J) J<|AM.qv (bL J) J<|AM.qv (bf J J) J<|AM.qv (aQ J J J) J<|AM.qv (az J J) J<|AM.qv (aN J J .p0 J) J<|aH h fun v4 e2 h=>AM.qv (GM (gk:=AV.str) (gv:=I) (M:=aI.dq) (key:=ai.Key) (Z:=0) J J J J J e2 J) J<|AM.iX J (fC J) cR J<|AM.qv (aQ J J J) J<|AM.qv (bL J) J<|AM.qv (bf J J) J<|AM.qv (aQ J J J) J<|AM.qv (az J J) J<|AM.qv (aN J J .p1 J) J<|aH h fun v5 e3 h=>AM.iX J (vn e3) cR J<|AM.qv (aQ J J J) J<|AM.qv (bL J) J<|AM.qv (bf J J) J<|AM.qv (aQ J J J) J<|AM.qv (az J J) J<|AM.qv (aN J J .p0 J) J<|aH h fun v6 e4 h=>AM.iX J (vn e4) cR J<|AM.iX J (fC J) cR J<|AM.qv (az J J) J<|AM.qv (aN J J .p1 J) J<|AM.qv (az J J) J<|AM.qv (aN J J .p0 J) J<|AM.iX J (r6 J) cR J<|AM.cO (xs:=([(cmp_Compare_int v3 v4),(cmp_Compare_int v5 v6),(Lib.compareBytes aa.Key ai.Key)]:List Int).map I) J J J J J J<|aH h fun v7 e5 h=>AM.iX J (uO e5) cR J<|AM.qv (bR J) J<|AM.nil<|rN<|ab.ret<|?_
 cases h
 exact hP J J
theorem sL:Jg Tryz.prog 95 7:=⟨fun enc hk h1 cf hO g cb cw off cap d w eg hc hH hb hs=>AnyQ.slices_SortFunc_eq Tryz.ML 7 Tryz.isAgg86 Tryz.sizeOf86 enc hk h1 cf hO g cb cw off cap d w eg hc hH hb hs,fun p cap fv w=>AnyF.slices_SortFunc_none Tryz.ML p cap fv w⟩
theorem sw [GI:bN] {bt:Bk} {aa:List DeviceS} {eC:DeviceS→DeviceS→Option Int} {du:FuncId} [bJ Tryz.prog du] {eB:List AV} (lK:∀ {y0 y1:_} {u:Int},eC y0 y1=some u→@Pu pM Tryz.prog du (DeviceS.av y0 :: DeviceS.av y1 :: eB) (I u)) {r:(List DeviceS)} (h:gC aa eC=some r):LC Tryz.prog 95 [.sl 7 bt 0 aa.length,.func (.func du) eB] [(bt,.arr 7 (aa.map DeviceS.av))] [(bt,.arr 7 (r.map DeviceS.av))] (.lE []):=
 JB (fn:=eC) sL J @lK (fun _=>J) h
theorem uv [GI:bN] {aa:List bn} {ai:bn} {r:Int} (h:iA aa ai=some r):Pu Tryz.prog 117 [Du aa,.str ai] (I r):=by
 unfold iA at h
 refine aP.bI Tryz.func117 J Tryz.ntmps117 Tryz.results117 J J ?_
 refine aJ<|rA J J<|rN<|tS<|aJ<|rM J J<|ae.qv (ca J) J<|rM J J<|rN<|ab.block<|ab.cx (fun x:Int=>dE aa ai x) (fun x aK=>aK=⟨19,[(0,Du aa),(1,.str ai),(7,I (aa.length:Int)),(8,I x)],[]⟩) h ?_ ?_
 ·exact aj.lq [] J J J
 ·intro n2 z1 aK J1 dY h jl dQ
  obtain rfl:=dY
  replace h:dE aa ai n2=some z1:=h
  unfold dE at h
  refine aJ<|ae.qv (bO J J) J<|rN<|tS<|cD h J (fun h=>?_) (fun h=>?_)
  ·refine tK<|tS<|ab.block<|aJ<|rM J J<|rA J J<|rN<|aJ<|rM J J<|rM J J<|rM J J<|aH h fun v3 e1 h=>ae.qv (bG J J J e1 J J) J<|ae.qv (aQ J J J) J<|ae.qv (Ml J J) J<|rN<|cD h J (fun h=>?_) (fun h=>?_)
   ·refine aJ<|rM J J<|rA J J<|rN<|ab.ret<|have h:=bT h dQ;?_
    cases h
    exact hP J J
   ·refine tK<|ab.cw<|tR<|ae.qv (bq J J) J<|rM J J<|rN<|ab.stop<|?_
    cases h
    exact jl _ _ J<|aj.lq [] J J J
  ·refine ab.exit J<|have h:=bT h dQ;aJ<|rA J J<|rN<|ab.ret<|?_
   cases h
   exact hP J J
theorem iO [GI:bN] {aa:List bn} {ai:bn} {r:Bool} (h:cC aa ai=some r):Pu Tryz.prog 78 [Du aa,.str ai] (.bool r):=by
 unfold cC at h
 refine aP.bI Tryz.func78 J Tryz.ntmps78 Tryz.results78 J J ?_
 refine aJ<|rA J J<|rN<|aJ<|rM J J<|rM J J<|aH h fun v1 e1 h=>aT J (uv e1) cR J<|ae.qv (nU J J) J<|rA J J<|rN<|ab.ret<|?_
 cases h
 exact hP J J
theorem xg [GI:bN] {aa:List an} {ai:bn} {aI:Version} {r:(List an)} (h:ny aa ai aI=some r):aP Tryz.prog 164 [rP aa,.str ai,Version.av aI] [] (T1 (fun nO=>[(nO,yg r)]) (fun nO=>.sl 6 nO 0 r.length)):=by
 unfold ny at h
 refine aP.hC ?_
 refine aP.bI Tryz.func164 J Tryz.ntmps164 Tryz.results164 J J ?_
 refine aJ<|dp J J J J fun b1=>rA J J<|rN<|aJ<|rA J J<|rN<|tS<|aJ<|rM J J<|ae.qv (ca J) J<|rM J J<|rN<|ab.block<|ab.cx (fun x:(List an)×Int=>fp aa ai aI x.1 x.2) (fun x aK=>∃ (b5:Bk),aK=⟨31,[(1,.str ai),(5,.ptr b1 0),(7,.sl 6 b5 0 x.1.length),(10,rP aa),(11,I (aa.length:Int)),(12,I x.2)],[(b1,.cells [I aI.aA,I aI.aC,I aI.aD]),(b5,yg x.1)]⟩) h ?_ ?_
 ·exact aj.arr (s:=7) 6 J fun b8=>aj.lq [1,0] ⟨b8,J⟩ J J
 ·intro x z1 aK J1 dY h jl dQ
  obtain ⟨l6,n7⟩:=x
  obtain ⟨b5,rfl⟩:=dY
  replace h:fp aa ai aI l6 n7=some z1:=h
  unfold fp at h
  refine aJ<|ae.qv (bO J J) J<|rN<|tS<|cD h J (fun h=>?_) (fun h=>?_)
  ·refine tK<|tS<|ab.block<|aJ<|aH h fun v9 e1 h=>ae.qv (bG J J J e1 J J) J<|ae.qv (aL J J J) J<|bH J J J J fun tL=>ay J J J J .p0 J J<|rN<|tS<|ab.cut (fun aK=>∃ (Cl:Bool),jT l6 n7 v9 Cl=some z1∧aK=⟨31,[(1,.str ai),(5,.ptr b1 0),(7,.sl 6 b5 0 l6.length),(9,.ptr tL 0),(10,rP aa),(11,I (aa.length:Int)),(12,I n7),(24,.bool Cl)],[(b1,.cells [I aI.aA,I aI.aC,I aI.aD]),(b5,yg l6),(tL,.cells (ET v9))]⟩) ?_ ?_
   ·refine tR<|rF J J J<|rL J J .p0 J J<|rM J J<|aH h fun v12 e2 h=>aT J (iO e2) cR J<|rM J J<|ae.guard J J J (fun hc=>?_) (fun hc=>?_)
    ·exact have h:=pj hc h;ae.qv (aG J J .p0 J) J<|rY J J J<|ae.qv (aG J J .p1 J) J<|rY J J J<|aH h fun gy e3 h=>aT J (wg e3) cR J<|rT J J J<|rN<|ab.stop<|aj.lq [1,1,0] ⟨gy,h,J⟩ J J
    ·exact have h:=ry hc h;rG J J J J<|rG J J J J<|rE J J J<|rN<|ab.stop<|aj.lq [1,1,0] ⟨false,h,J⟩ J J
   ·rintro aK ⟨Cl,h,rfl⟩
    unfold jT at h
    refine ab.cut (fun aK=>∃ (DP:Bk) (yp:List an),jS n7 yp=some z1∧aK=⟨31,[(1,.str ai),(5,.ptr b1 0),(7,.sl 6 DP 0 yp.length),(10,rP aa),(11,I (aa.length:Int)),(12,I n7)],[(b1,.cells [I aI.aA,I aI.aC,I aI.aD]),(DP,yg yp)]⟩) ?_ ?_
    ·refine cB h J (fun h=>?_) (fun h=>?_)
     ·exact tR<|rM J J<|ae.qv (aG J J .p2 J) J<|aW (xs:=([v9]:List an).map an.av) J J J J J J<|aH h fun za e4 h=>fo (g:=an.av) J J J J J J J J (.list _) e4 (fun _=>.p1) J fun ti=>rA J J<|rN<|ab.stop<|aj.lq [0,0] ⟨ti,za,h,J⟩ J J
     ·exact tK<|ab.stop<|aj.lq [0,0] ⟨b5,l6,h,J⟩ J J
    ·rintro aK ⟨DP,yp,h,rfl⟩
     unfold jS at h
     refine ab.cw<|tR<|ae.qv (bq J J) J<|rM J J<|rN<|ab.stop<|?_
     cases h
     exact jl _ _ J<|aj.lq [0,0] ⟨DP,J⟩ J J
  ·refine ab.exit J<|have h:=bT h dQ;aJ<|rM J J<|rA J J<|rN<|ab.ret<|?_
   cases h
   exact hH J [1] J ⟨b5,J,J⟩
theorem wh [GI:bN] {aa ai:aq} {r:Int} (h:lW aa ai=some r):Pu Tryz.prog 165 [aq.av aa,aq.av ai] (I r):=by
 unfold lW at h
 refine aP.bI Tryz.func165 J Tryz.ntmps165 Tryz.results165 J J ?_
 refine aJ<|dp J J J J fun b1=>dp J J J J fun b2=>rA J J<|rN<|tS<|ab.cU (id:=1) (A:=[0,1,0,4,15,0,32,0,128,511,1023,2047,4095]) 13 mixed J (by kernel_rfl) (by kernel_rfl)<|AM.qv (az J J) J<|AM.qv (aN J J .p1 J) J<|AM.qv (az J J) J<|AM.qv (aN J J .p0 J) J<|AM.iX J (fC J) cR J<|AM.qv (az J J) J<|AM.qv (aN J J .p1 J) J<|AM.qv (az J J) J<|AM.qv (aN J J .p0 J) J<|AM.iX J (fC J) cR J<|AM.cO (xs:=([(cmp_Compare_int aa.bX ai.bX),(cmp_Compare_int aa.bM ai.bM)]:List Int).map I) J J J J J J<|aH h fun v3 e1 h=>AM.iX J (uO e1) cR J<|AM.qv (bR J) J<|AM.nil<|rN<|ab.ret<|?_
 cases h
 exact hP J J
theorem Cr [GI:bN] {aa:List an} {ai:bn} {aI:Version} {r:(List (Version×aq))} (h:pB aa ai aI=some r):aP Tryz.prog 127 [rP aa,.str ai,Version.av aI] [] (T1 (fun nO=>[(nO,LN r)]) (fun nO=>.bV nO)):=by
 unfold pB at h
 refine aP.hC ?_
 refine aP.bI Tryz.func127 J Tryz.ntmps127 Tryz.results127 J J ?_
 refine aJ<|dp J J J J fun b1=>rA J J<|rN<|aJ<|rA J J<|rN<|tS<|aJ<|rM J J<|ae.qv (ca J) J<|rM J J<|rN<|ab.block<|ab.cx (fun x:(List an)×Int=>fw aa ai aI x.1 x.2) (fun x aK=>∃ (b5:Bk),aK=⟨121,[(1,.str ai),(5,.ptr b1 0),(7,.sl 6 b5 0 x.1.length),(23,rP aa),(24,I (aa.length:Int)),(25,I x.2)],[(b1,.cells [I aI.aA,I aI.aC,I aI.aD]),(b5,yg x.1)]⟩) h ?_ ?_
 ·exact aj.arr (s:=7) 6 J fun b8=>aj.lq [1,0] ⟨b8,J⟩ J J
 ·intro x z1 aK J1 dY h jl dQ
  obtain ⟨l6,n7⟩:=x
  obtain ⟨b5,rfl⟩:=dY
  replace h:fw aa ai aI l6 n7=some z1:=h
  unfold fw at h
  refine aJ<|ae.qv (bO J J) J<|rN<|tS<|cD h J (fun h=>?_) (fun h=>?_)
  ·refine tK<|tS<|ab.block<|aJ<|aH h fun v9 e1 h=>ae.qv (bG J J J e1 J J) J<|ae.qv (aL J J J) J<|bH J J J J fun tL=>ay J J J J .p0 J J<|rN<|aJ<|rF J J J<|rL J J .p0 J J<|rM J J<|aH h fun v11 e2 h=>aT J (iO e2) cR J<|rN<|ab.cut (fun aK=>∃ (kV:Bk) (kT:List an),ml n7 kT=some z1∧aK=⟨121,[(1,.str ai),(5,.ptr b1 0),(7,.sl 6 kV 0 kT.length),(23,rP aa),(24,I (aa.length:Int)),(25,I n7)],[(b1,.cells [I aI.aA,I aI.aC,I aI.aD]),(kV,yg kT)]⟩) ?_ ?_
   ·refine cB h J (fun h=>?_) (fun h=>?_)
    ·exact tR<|rM J J<|ae.qv (aG J J .p0 J) J<|aW (xs:=([v9]:List an).map an.av) J J J J J J<|aH h fun yF e3 h=>fo (g:=an.av) J J J J J J J J (.list _) e3 (fun _=>.p2) J fun YU=>rA J J<|rN<|ab.stop<|aj.lq [1,1] ⟨YU,yF,h,J⟩ J J
    ·exact tK<|ab.stop<|aj.lq [1,1] ⟨b5,l6,h,J⟩ J J
   ·rintro aK ⟨kV,kT,h,rfl⟩
    unfold ml at h
    refine ab.cw<|tR<|ae.qv (bq J J) J<|rM J J<|rN<|ab.stop<|?_
    cases h
    exact jl _ _ J<|aj.lq [0,0] ⟨kV,J⟩ J J
  ·refine ab.exit J<|have h:=bT h dQ;?_
   unfold mq at h
   refine aJ<|rM J J<|ae.qv (ee J) J<|aH h fun za e4 h=>HM (g:=(K7 6 an.av)) (Z:=([]:List an)) J J J J J J J J J e4 fun ti=>rA J J<|rN<|tS<|aJ<|rM J J<|ae.qv (ee J) J<|rM J J<|rN<|ab.block<|ab.cx (fun x:(List (List an))×Int=>jV ai aI l6 x.1 x.2) (fun x aK=>aK=⟨121,[(1,.str ai),(5,.ptr b1 0),(7,.sl 6 b5 0 l6.length),(10,.sl 1 ti 0 x.1.length),(41,.sl 6 b5 0 l6.length),(42,I (l6.length:Int)),(43,I x.2)],[(b1,.cells [I aI.aA,I aI.aC,I aI.aD]),(b5,Wa l6),(ti,Wb x.1)]⟩) h ?_ ?_
   ·exact aj.freeze .p2<|aj.lq [1,1,0] J J J
   ·intro x z2 aK J2 dY h yr wE
    obtain ⟨jy,n21⟩:=x
    obtain rfl:=dY
    replace h:jV ai aI l6 jy n21=some z2:=h
    unfold jV at h
    refine aJ<|ae.qv (bO J J) J<|rN<|tS<|cD h J (fun h=>?_) (fun h=>?_)
    ·refine tK<|tS<|ab.block<|aJ<|rM J J<|aH h fun v22 e5 h=>ae.qv (bu J J J e5) J<|ae.qv (bP (g:=an.av) J J (.inr .p1) J e5 J) J<|bH J J J J fun b23=>rA J J<|ay J J J J .p0 J J<|rN<|tR<|rM J J<|rM J J<|rM J J<|rM J J<|rF J J J<|ae.qv (aO J J .p0 J J) J<|aH h fun v24 e6 h=>jn J (xg e6) (.cons (Co.Ef .p2) (.cons (.refl _) (.cons (.refl _) .nil))) .nil (fun _=>J) J fun Dv=>aH h fun v26 e7 h=>ae.qv (bu J J J e7) J<|ae.ghost<|aj.freeze .p0<|aj.here<|ae.ghost<|aj.Vx (s:=54) (gx:=rP v24) J (.co (Co.Ef .p0))<|aj.here<|cE (g:=(K7 6 an.av)) (A6:=v24) J J J J e7 J .p4 J<|ae.ghost<|aj.eqs (s:=10) (gx:=.sl 1 ti 0 (jy.set n21.toNat v24).length) J (by rw [ac])<|aj.here<|ae.ghost<|aj.eqs (s:=48) (gx:=.sl 1 ti 0 (jy.set n21.toNat v24).length) J (by rw [ac])<|aj.here<|rN<|ab.cw<|tR<|ae.qv (bq J J) J<|rM J J<|rN<|ab.stop<|?_
     cases h
     exact yr _ _ J<|aj.lq [2,2,2] J J J
    ·refine ab.exit J<|have h:=bT h wE;aJ<|sV J fun Ca=>ae.qv (aG J J .p1 J) J<|ae.qv (dv J J J J J) J<|Et (gk:=Version.av) (gv:=aq.av) (M:=([]:List (Version×aq))) (key:=aI) (v:=(⟨0,0⟩:aq)) J J J J .p0<|rM J J<|rA J J<|rN<|tS<|aJ<|rA J J<|rN<|ab.block<|ab.cx (fun x:(List (Version×aq))×Bool=>mo l6 jy x.1 x.2) (fun x aK=>aK=⟨121,[(7,.sl 6 b5 0 l6.length),(10,.sl 1 ti 0 jy.length),(13,.bV Ca),(14,.bool x.2)],[(b5,Wa l6),(ti,Wb jy),(Ca,LN x.1)]⟩) h ?_ ?_
     ·exact aj.lq [2,2,0] J J J
     ·intro x z3 aK J3 dY h YO Wd
      obtain ⟨HQ,c31⟩:=x
      obtain rfl:=dY
      replace h:mo l6 jy HQ c31=some z3:=h
      unfold mo at h
      refine tS<|aJ<|rM J J<|rN<|cB h J (fun h=>?_) (fun h=>?_)
      ·refine tK<|ab.block<|aJ<|rA J J<|rN<|aJ<|rM J J<|ae.qv (ee J) J<|rM J J<|rN<|ab.block<|ab.cx (fun x:(List (Version×aq))×Bool×Int=>jU l6 jy x.1 x.2.1 x.2.2) (fun x aK=>aK=⟨121,[(7,.sl 6 b5 0 l6.length),(10,.sl 1 ti 0 jy.length),(13,.bV Ca),(14,.bool x.2.1),(62,.sl 6 b5 0 l6.length),(63,I (l6.length:Int)),(64,I x.2.2)],[(b5,Wa l6),(ti,Wb jy),(Ca,LN x.1)]⟩) h ?_ ?_
       ·exact aj.lq [0,0,0] J J J
       ·intro x z4 aK J4 dY h hJ4 hA4
        obtain ⟨sC,Xj,n37⟩:=x
        obtain rfl:=dY
        replace h:jU l6 jy sC Xj n37=some z4:=h
        unfold jU at h
        refine aJ<|ae.qv (bO J J) J<|rN<|tS<|cD h J (fun h=>?_) (fun h=>?_)
        ·refine tK<|tS<|ab.block<|aJ<|rM J J<|aH h fun B9 e8 h=>ae.qv (bu J J J e8) J<|ae.qv (bP (g:=an.av) J J (.inr .p0) J e8 J) J<|bH J J J J fun HV=>rA J J<|ay J J J J .p0 J J<|rN<|aJ<|rM J J<|rF J J J<|ae.qv (aO J J .p0 J J) J<|aH h fun v40 e9 h=>ae.qv (Gx (gk:=Version.av) (gv:=aq.av) (M:=sC) (key:=B9.Version) (Z:=(⟨0,0⟩:aq)) J J .p3 J J J e9 J) J<|rM J J<|rX J J J<|rX J J J<|bH J J J J fun QL=>ay J J J J .p0 J J<|rA J J<|rN<|tS<|aJ<|rM J J<|rM J J<|aH h fun LL BB h=>ae.qv (bu J J J BB) J<|ae.qv (dJ (g:=(K7 6 an.av)) J J (.inl .p3) BB J) J<|ae.qv (ca J) J<|rM J J<|rN<|ab.block<|ab.cx (fun x:Bool×Int×Int×Bool×Int=>fq sC n37 B9 LL x.1 x.2.1 x.2.2.1 x.2.2.2.1 x.2.2.2.2) (fun x aK=>aK=⟨121,[(7,.sl 6 b5 0 l6.length),(10,.sl 1 ti 0 jy.length),(13,.bV Ca),(14,.bool x.1),(16,.ptr HV 0),(17,.ptr QL 0),(18,.bool x.2.2.2.1),(62,.sl 6 b5 0 l6.length),(63,I (l6.length:Int)),(64,I n37),(79,rP LL),(80,I (LL.length:Int)),(81,I x.2.2.2.2)],[(b5,Wa l6),(ti,Wb jy),(Ca,LN sC),(HV,.cells (ET B9)),(QL,.cells [I x.2.1,I x.2.2.1])]⟩) h ?_ ?_
         ·exact aj.lq [2,2,2,1,0] J J J
         ·intro x z5 aK J5 dY h hJ5 hA5
          obtain ⟨C4,n49,n50,c51,n52⟩:=x
          obtain rfl:=dY
          replace h:fq sC n37 B9 LL C4 n49 n50 c51 n52=some z5:=h
          unfold fq at h
          refine aJ<|ae.qv (bO J J) J<|rN<|tS<|cD h J (fun h=>?_) (fun h=>?_)
          ·refine tK<|tS<|ab.block<|aJ<|aH h fun v53 C6 h=>ae.qv (bG J J J C6 J J) J<|ae.qv (aL J J J) J<|bH J J J J fun b54=>ay J J J J .p0 J J<|rN<|aJ<|rM J J<|rF J J J<|ae.qv (aO J J .p0 J J) J<|aH h fun v55 FW h=>ae.qv (Gx (gk:=Version.av) (gv:=aq.av) (M:=sC) (key:=v53.Version) (Z:=(⟨0,0⟩:aq)) J J .p3 J J J FW J) J<|rM J J<|rX J J J<|rX J J J<|bH J J J J fun Xq=>ay J J J J .p0 J J<|rA J J<|rN<|aJ<|rF J J J<|rL J J .p0 J J<|ae.qv (bq J J) J<|rF J J J<|rL J J .p0 J J<|rF J J J<|rL J J .p1 J J<|ae.qv (bq J J) J<|ae.qv (dv J J J J J) J<|ay J J J J .p0 J J<|rN<|tS<|ab.cut (fun aK=>∃ (YG:Bool),gE C4 n49 n50 c51 n52 v53 v55 YG=some z5∧aK=⟨121,[(7,.sl 6 b5 0 l6.length),(10,.sl 1 ti 0 jy.length),(13,.bV Ca),(14,.bool C4),(16,.ptr HV 0),(17,.ptr QL 0),(18,.bool c51),(21,.ptr Xq 0),(62,.sl 6 b5 0 l6.length),(63,I (l6.length:Int)),(64,I n37),(79,rP LL),(80,I (LL.length:Int)),(81,I n52),(111,.bool YG)],[(b5,Wa l6),(ti,Wb jy),(Ca,LN sC),(HV,.cells (ET B9)),(QL,.cells [I n49,I n50]),(Xq,.cells [I (bB (v55.1.bX+1)),I (bB (v55.1.bM+v53.cM))])]⟩) ?_ ?_
           ·refine tR<|rM J J<|rM J J<|ae.guard J J J (fun hc=>?_) (fun hc=>?_)
            ·refine have h:=pj hc h;rM J J<|rY J J J<|ae.qv (cu J) J<|rY J J J<|rM J J<|ae.guard J J J (fun hc=>?_) (fun hc=>?_)
             ·exact have h:=ry hc h;ae.qv (aG J J .p0 J) J<|rY J J J<|ae.qv (aG J J .p6 J) J<|rY J J J<|aH h fun v58 IE h=>aT J (wh IE) cR J<|rY J J J<|ae.qv (bO J J) J<|rY J J J<|rE J J J<|rT J J J<|rN<|ab.stop<|aj.lq [2,2,2,2,2,0] ⟨decide (v58 < 0),h,J⟩ J J
             ·exact have h:=pj hc h;rG J J J J<|rG J J J J<|rG J J J J<|rY J J J<|rT J J J<|rT J J J<|rN<|ab.stop<|aj.lq [2,2,2,2,2,0] ⟨true,h,J⟩ J J
            ·exact have h:=ry hc h;rG J J J J<|rG J J J J<|ae.aS J J J<|ae.aS J J J<|ae.aS J J J<|ae.aS J J J<|rG J J J J<|rE J J J<|rN<|ab.stop<|aj.lq [2,2,2,2,2,0] ⟨false,h,J⟩ J J
           ·rintro aK ⟨YG,h,rfl⟩
            unfold gE at h
            refine ab.cut (fun aK=>∃ (c59:Bool) (n60:Int) (n61:Int) (YF:Bool),iB n52 c59 n60 n61 YF=some z5∧aK=⟨121,[(7,.sl 6 b5 0 l6.length),(10,.sl 1 ti 0 jy.length),(13,.bV Ca),(14,.bool c59),(16,.ptr HV 0),(17,.ptr QL 0),(18,.bool YF),(62,.sl 6 b5 0 l6.length),(63,I (l6.length:Int)),(64,I n37),(79,rP LL),(80,I (LL.length:Int)),(81,I n52)],[(b5,Wa l6),(ti,Wb jy),(Ca,LN sC),(HV,.cells (ET B9)),(QL,.cells [I n60,I n61])]⟩) ?_ ?_
            ·refine cB h J (fun h=>?_) (fun h=>?_)
             ·exact tR<|ae.qv (aG J J .p5 J) J<|ay J J J J .p4 J J<|rA J J<|rA J J<|rN<|ab.stop<|aj.lq [0,0,0,0,0] ⟨true,bB (v55.1.bX+1),bB (v55.1.bM+v53.cM),true,h,J⟩ J J
             ·exact tK<|ab.stop<|aj.lq [0,0,0,0,0] ⟨C4,n49,n50,c51,h,J⟩ J J
            ·rintro aK ⟨c59,n60,n61,YF,h,rfl⟩
             unfold iB at h
             refine ab.cw<|tR<|ae.qv (bq J J) J<|rM J J<|rN<|ab.stop<|?_
             cases h
             exact hJ5 _ _ J<|aj.lq [0,0,0,0,0] J J J
          ·refine ab.exit J<|have h:=bT h hA5;?_
           unfold pf at h
           refine aJ<|rM J J<|rN<|ab.cut (fun aK=>∃ (GO:List (Version×aq)),mn n37 C4 GO=some z4∧aK=⟨121,[(7,.sl 6 b5 0 l6.length),(10,.sl 1 ti 0 jy.length),(13,.bV Ca),(14,.bool C4),(62,.sl 6 b5 0 l6.length),(63,I (l6.length:Int)),(64,I n37)],[(b5,Wa l6),(ti,Wb jy),(Ca,LN GO)]⟩) ?_ ?_
           ·refine cB h J (fun h=>?_) (fun h=>?_)
            ·exact tR<|rM J J<|rF J J J<|ae.qv (aO J J .p3 J J) J<|ae.qv (aG J J .p4 J) J<|vR (gk:=Version.av) (gv:=aq.av) (M:=sC) (key:=B9.Version) (v:=(⟨n49,n50⟩:aq)) J J J J .p2<|rN<|ab.stop<|aj.lq [0,0,0] ⟨bW sC B9.Version (⟨n49,n50⟩:aq),h,J⟩ J J
            ·exact tK<|ab.stop<|aj.lq [0,0,0] ⟨sC,h,J⟩ J J
           ·rintro aK ⟨GO,h,rfl⟩
            unfold mn at h
            refine ab.cw<|tR<|ae.qv (bq J J) J<|rM J J<|rN<|ab.stop<|?_
            cases h
            exact hJ4 _ _ J<|aj.lq [0,0,0] J J J
        ·refine ab.exit J<|have h:=bT h hA4;ab.cw<|ab.stop<|?_
         cases h
         exact YO _ _ J<|aj.lq [0,0,0] J J J
      ·refine ab.exit J<|have h:=bT h Wd;aJ<|rM J J<|rA J J<|rN<|ab.ret<|?_
       cases h
       exact hH J [2] J ⟨Ca,J,J⟩
theorem zk [GI:bN] {aa:List an} {ai:bn} {aI bw:Version} {hJ:List (Version×aq)} {r:(List Version)×Bool} (h:mr aa ai aI bw hJ=some r):Pu Tryz.prog 128 [rP aa,.str ai,Version.av aI,Version.av bw,GL Version.av aq.av hJ] (.lE [sK r.1,.bool r.2]):=by
 unfold mr at h
 refine aP.bI Tryz.func128 J Tryz.ntmps128 Tryz.results128 J J ?_
 refine aJ<|dp J J J J fun b1=>dp J J J J fun b2=>rA J J<|rA J J<|rN<|aJ<|rA J J<|rN<|tS<|aJ<|ae.qv (aG J J .p1 J) J<|bH J J J J fun b3=>ay J J J J .p0 J J<|rN<|ab.block<|ab.cx (fun x:(List Version)×Int×Int×Int=>dj aa ai bw hJ x.1 x.2.1 x.2.2.1 x.2.2.2) (fun x aK=>∃ (tL:Bk) (kV:Bk),aK=⟨74,[(0,rP aa),(1,.str ai),(4,GL Version.av aq.av hJ),(8,.ptr b2 0),(12,.sl 3 tL 0 x.1.length),(13,.ptr kV 0)],[(b2,.cells [I bw.aA,I bw.aC,I bw.aD]),(tL,uM x.1),(kV,.cells [I x.2.1,I x.2.2.1,I x.2.2.2])]⟩) h ?_ ?_
 ·exact aj.arr (s:=12) 3 J fun MT=>aj.lq [2,0,0] ⟨MT,b3,J⟩ J J
 ·intro x z1 aK J1 dY h jl dQ
  obtain ⟨js,n13,n14,n15⟩:=x
  obtain ⟨tL,kV,rfl⟩:=dY
  replace h:dj aa ai bw hJ js n13 n14 n15=some z1:=h
  unfold dj at h
  refine tS<|aJ<|ae.qv (aG J J .p2 J) J<|ae.qv (aG J J .p0 J) J<|ae.qv (UC (g:=Version.av) (X:=(⟨n13,n14,n15⟩:Version)) (Y:=bw) J J J J J) J<|rN<|cD h J (fun h=>?_) (fun h=>?_)
  ·refine tK<|tS<|ab.block<|aJ<|bH J J J J fun ti=>rN<|aJ<|bH J J J J fun Oj=>rN<|aJ<|rA J J<|rN<|tS<|aJ<|rM J J<|rM J J<|ae.qv (aG J J .p4 J) J<|aH h fun np e1 h=>jn J (xg e1) cR .nil (fun _=>J) J fun JO=>ae.qv (ee J) J<|rM J J<|rN<|ab.block<|ab.cx (fun x:Int×Int×Int×Int×Int×Bool×Int=>gY hJ js np x.1 x.2.1 x.2.2.1 x.2.2.2.1 x.2.2.2.2.1 x.2.2.2.2.2.1 x.2.2.2.2.2.2) (fun x aK=>aK=⟨74,[(0,rP aa),(1,.str ai),(4,GL Version.av aq.av hJ),(8,.ptr b2 0),(12,.sl 3 tL 0 js.length),(13,.ptr kV 0),(14,.ptr ti 0),(15,.ptr Oj 0),(16,.bool x.2.2.2.2.2.1),(28,.sl 6 JO 0 np.length),(29,I (np.length:Int)),(30,I x.2.2.2.2.2.2)],[(b2,.cells [I bw.aA,I bw.aC,I bw.aD]),(tL,uM js),(kV,.cells [I n13,I n14,I n15]),(ti,.cells [I x.1,I x.2.1,I x.2.2.1]),(Oj,.cells [I x.2.2.2.1,I x.2.2.2.2.1]),(JO,yg np)]⟩) h ?_ ?_
   ·exact aj.lq [3,3,3,2,1,0] J J J
   ·intro x z2 aK J2 dY h yr wE
    obtain ⟨n28,n29,n30,n31,n32,KT,n34⟩:=x
    obtain rfl:=dY
    replace h:gY hJ js np n28 n29 n30 n31 n32 KT n34=some z2:=h
    unfold gY at h
    refine aJ<|ae.qv (bO J J) J<|rN<|tS<|cD h J (fun h=>?_) (fun h=>?_)
    ·refine tK<|tS<|ab.block<|aJ<|aH h fun v35 e2 h=>ae.qv (bu J J J e2) J<|ae.qv (bP (g:=an.av) J J (.inl .p5) J e2 J) J<|bH J J J J fun EY=>ay J J J J .p0 J J<|rN<|aJ<|rM J J<|rF J J J<|ae.qv (aO J J .p0 J J) J<|aH h fun v37 e3 h=>ae.qv (LG (gk:=Version.av) (gv:=aq.av) (M:=hJ) (key:=v35.Version) (Z:=(⟨0,0⟩:aq)) J J J J J e3 J) J<|rM J J<|rX J J J<|rX J J J<|bH J J J J fun Sb=>ay J J J J .p0 J J<|rA J J<|rN<|aJ<|rF J J J<|rL J J .p0 J J<|ae.qv (bq J J) J<|rF J J J<|rL J J .p0 J J<|rF J J J<|rL J J .p1 J J<|ae.qv (bq J J) J<|ae.qv (dv J J J J J) J<|ay J J J J .p0 J J<|rN<|tS<|ab.cut (fun aK=>∃ (YH:Bool),iJ n28 n29 n30 n31 n32 KT n34 v35 v37 YH=some z2∧aK=⟨74,[(0,rP aa),(1,.str ai),(4,GL Version.av aq.av hJ),(8,.ptr b2 0),(12,.sl 3 tL 0 js.length),(13,.ptr kV 0),(14,.ptr ti 0),(15,.ptr Oj 0),(16,.bool KT),(18,.ptr EY 0),(19,.ptr Sb 0),(28,.sl 6 JO 0 np.length),(29,I (np.length:Int)),(30,I n34),(60,.bool YH)],[(b2,.cells [I bw.aA,I bw.aC,I bw.aD]),(tL,uM js),(kV,.cells [I n13,I n14,I n15]),(ti,.cells [I n28,I n29,I n30]),(Oj,.cells [I n31,I n32]),(EY,.cells (ET v35)),(Sb,.cells [I (bB (v37.1.bX+1)),I (bB (v37.1.bM+v35.cM))]),(JO,yg np)]⟩) ?_ ?_
     ·refine tR<|rM J J<|rM J J<|ae.guard J J J (fun hc=>?_) (fun hc=>?_)
      ·refine have h:=pj hc h;rM J J<|rY J J J<|ae.qv (cu J) J<|rY J J J<|rM J J<|ae.guard J J J (fun hc=>?_) (fun hc=>?_)
       ·exact have h:=ry hc h;ae.qv (aG J J .p0 J) J<|rY J J J<|ae.qv (aG J J .p6 J) J<|rY J J J<|aH h fun v40 e4 h=>aT J (wh e4) cR J<|rY J J J<|ae.qv (bO J J) J<|rY J J J<|rE J J J<|rT J J J<|rN<|ab.stop<|aj.lq [2,2,2,2,2,1,0,0] ⟨decide (v40 < 0),h,J⟩ J J
       ·exact have h:=pj hc h;rG J J J J<|rG J J J J<|rG J J J J<|rY J J J<|rT J J J<|rT J J J<|rN<|ab.stop<|aj.lq [2,2,2,2,2,1,0,0] ⟨true,h,J⟩ J J
      ·exact have h:=ry hc h;rG J J J J<|rG J J J J<|ae.aS J J J<|ae.aS J J J<|ae.aS J J J<|ae.aS J J J<|rG J J J J<|rE J J J<|rN<|ab.stop<|aj.lq [2,2,2,2,2,1,0,0] ⟨false,h,J⟩ J J
     ·rintro aK ⟨YH,h,rfl⟩
      unfold iJ at h
      refine ab.cut (fun aK=>∃ (n41:Int) (n42:Int) (n43:Int) (n44:Int) (n45:Int) (c46:Bool),j7 n34 n41 n42 n43 n44 n45 c46=some z2∧aK=⟨74,[(0,rP aa),(1,.str ai),(4,GL Version.av aq.av hJ),(8,.ptr b2 0),(12,.sl 3 tL 0 js.length),(13,.ptr kV 0),(14,.ptr ti 0),(15,.ptr Oj 0),(16,.bool c46),(28,.sl 6 JO 0 np.length),(29,I (np.length:Int)),(30,I n34)],[(b2,.cells [I bw.aA,I bw.aC,I bw.aD]),(tL,uM js),(kV,.cells [I n13,I n14,I n15]),(ti,.cells [I n41,I n42,I n43]),(Oj,.cells [I n44,I n45]),(JO,yg np)]⟩) ?_ ?_
      ·refine cB h J (fun h=>?_) (fun h=>?_)
       ·refine ab.jN (id:=13) (A:=[0,1,0,3,15,31]) (H0:=[(ti,.cells [I n28,I n29,I n30])]) (HH:=fun β=>[(ti,.cells [I v35.Version.aA,I v35.Version.aC,I v35.Version.aD]),(b2,.cells [I bw.aA,I bw.aC,I bw.aD]),(tL,uM js),(kV,.cells [I n13,I n14,I n15]),(Oj,.cells [I n31,I n32]),(EY,.cells (ET v35)),(Sb,.cells [I (bB (v37.1.bX+1)),I (bB (v37.1.bM+v35.cM))]),(JO,yg np)]) 4 mixed J (by kernel_rfl) (by kernel_rfl) [⟨none,some 3,[],fun _=>(ti,.cells [I n28,I n29,I n30]),none,[]⟩,⟨some 3,none,[],fun _=>(ti,.cells [I v35.Version.aA,I v35.Version.aC,I v35.Version.aD]),none,[]⟩] [] J (by kernel_rfl) J (.cons .p3 .nil) (fun _=>J)<|AT.am 3 J J<|AM.qv (az J J) J<|AM.qv (aO J J .p4 J J) J<|AM.qv (aG J J .p5 J) J<|AM.nil<|AT.HB (Ti:=[(ti,.cells [I n28,I n29,I n30])]) (Pi:=[(ti,.cells [I v35.Version.aA,I v35.Version.aC,I v35.Version.aD])]) (fun _=>J) (fun _=>J) (fun _=>J) J J ?_ ?_
        ·exact ay J J J J .p0 J J<|ae.nil ⟨_,J⟩
        exact AT.wW (fun _=>J) fun β=>ay J J J J .p4 J J<|rA J J<|rN<|ab.stop<|aj.lq [1,1,1,0,0,2] ⟨v35.Version.aA,v35.Version.aC,v35.Version.aD,bB (v37.1.bX+1),bB (v37.1.bM+v35.cM),true,h,J⟩ J J
       ·exact tK<|ab.stop<|aj.lq [0,0,0,0,0,2] ⟨n28,n29,n30,n31,n32,KT,h,J⟩ J J
      ·rintro aK ⟨n41,n42,n43,n44,n45,c46,h,rfl⟩
       unfold j7 at h
       refine ab.cw<|tR<|ae.qv (bq J J) J<|rM J J<|rN<|ab.stop<|?_
       cases h
       exact yr _ _ J<|aj.lq [0,0,0,0,0,0] J J J
    ·refine ab.exit J<|have h:=bT h wE;?_
     unfold oJ at h
     refine tS<|aJ<|rM J J<|ae.qv (cu J) J<|rN<|cB h J (fun h=>?_) (fun h=>?_)
     ·refine aJ<|rA J J<|rA J J<|rN<|ab.ret<|have h:=bT h dQ;?_
      cases h
      exact aj.co (s:=10) J (.nil 3)<|aj.here ⟨_,.cons (.tmp _ _ J) (.cons (.tmp _ _ J) .nil),J⟩
     ·refine tK<|aH h fun Sa e5 h=>ab.jN (id:=17) (A:=[0,0,2,7,0,15,63]) (H0:=[(tL,uM js)]) (HH:=fun β=>[((β 5),uM Sa),(b2,.cells [I bw.aA,I bw.aC,I bw.aD]),(kV,.cells [I n13,I n14,I n15]),(ti,.cells [I n28,I n29,I n30]),(Oj,.cells [I n31,I n32]),(JO,yg np)]) 6 mixed J (by kernel_rfl) (by kernel_rfl) [⟨none,some 3,[],fun _=>(tL,uM js),none,[]⟩,⟨some 3,some 5,[],fun b=>(b,uM Sa),none,[]⟩,⟨some 5,none,[],fun b=>(b,uM Sa),none,[]⟩] [3,5] J (by kernel_rfl) J (.cons .p1 .nil) (fun _=>J)<|AT.am 3 J J<|AM.qv (aM J) J<|AM.qv (aG J J .p2 J) J<|AM.cO (xs:=([(⟨n28,n29,n30⟩:Version)]).map Version.av) J J J J J J<|AM.nil<|AT.Bm (V:=fun b=>.sl 3 b 0 Sa.length) (Ti:=[(tL,uM js)]) (Pi:=fun b=>[(b,uM Sa)]) (fun _=>J) (fun _=>J) (fun _ _=>J) J (fun _=>J) J J J ?_ ?_
      ·exact fo (g:=Version.av) J J J J J J J J (.list _) e5 (fun _=>.p0) J fun Xn=>ae.nil ⟨Xn,_,J,J⟩
      refine AT.am 1 J J<|AM.qv (aG J J .p2 J) J<|AM.nil<|AT.VM (V:=fun b=>.sl 3 b 0 Sa.length) (Ti:=fun β=>[(β 3,uM Sa)]) (Pi:=fun b=>[(b,uM Sa)]) (fun _=>J) (fun _=>J) (fun _ _=>J) (fun _=>J) (fun _=>J) J J J (fun β=>?_) ?_
      ·generalize β 3=Xn
       exact rA J J<|ae.nil ⟨Xn,_,J,J⟩
      refine AT.wW (fun _=>J) fun β=>?_
      generalize β 3=Xn
      generalize β 5=b49
      clear β
      refine ay J J J J .p2 J J<|rN<|ab.cw<|aJ<|ae.qv (aG J J .p2 J) J<|rN<|tR<|bH J J J J fun b50=>ay J J J J .p0 J J<|rN<|ab.stop<|?_
      cases h
      exact jl _ _ J<|aj.lq [2,1,0] ⟨b49,b50,J⟩ J J
  ·refine ab.exit J<|have h:=bT h dQ;aJ<|rM J J<|rA J J<|rA J J<|rN<|ab.ret<|?_
   cases h
   exact aj.freeze .p1<|aj.co (s:=10) J (Co.Ef .p1)<|aj.here ⟨_,.cons (.tmp _ _ J) (.cons (.tmp _ _ J) .nil),J⟩
theorem qK [GI:bN] {aa:an} {ai:List Version} {r:Bool} (h:dN aa ai=some r):Pu Tryz.prog 129 [an.av aa,.ch [sK ai]] (.bool r):=by
 unfold dN at h
 refine aP.bI Tryz.func129 J Tryz.ntmps129 Tryz.results129 J J ?_
 refine aJ<|dp J J J J fun b1=>rA J J<|rN<|tS<|ab.cU (id:=1) (A:=[0,1,0,4,12,31,63]) 7 mixed J (by kernel_rfl) (by kernel_rfl)<|AM.qv (az J J) J<|AM.qv (aO J J .p0 J J) J<|AM.qv (aQ J J J) J<|aH h fun v2 e1 h=>AM.qv (bG J J J e1 J J) J<|AM.qv (aL J J J) J<|AM.qv (Eh (g:=Version.av) (X:=aa.Version) (Y:=v2) J J J J J) J<|AM.qv (bR J) J<|AM.nil<|rN<|ab.ret<|?_
 cases h
 exact hP J J
theorem gh [GI:bN] {aa:List an} {eC:an→Option Bool} {du:FuncId} [bJ Tryz.prog du] {eB:List AV} (lK:∀ {y0:_} {u:Bool},eC y0=some u→Pu Tryz.prog du (an.av y0 :: eB) (.bool u)) {r:Int} (h:cj aa eC=some r):Pu Tryz.prog 69 [rP aa,.func (.func du) eB] (I r):=by
 unfold cj at h
 refine aP.bI Tryz.func69 J Tryz.ntmps69 Tryz.results69 J J ?_
 refine aJ<|rA J J<|rN<|tS<|aJ<|rM J J<|ae.qv (ca J) J<|rM J J<|rN<|ab.block<|ab.cx (fun x:Int=>fO aa eC x) (fun x aK=>aK=⟨19,[(0,rP aa),(1,.func (.func du) eB),(7,I (aa.length:Int)),(8,I x)],[]⟩) h ?_ ?_
 ·exact aj.lq [] J J J
 ·intro n2 z1 aK J1 dY h jl dQ
  obtain rfl:=dY
  replace h:fO aa eC n2=some z1:=h
  unfold fO at h
  refine aJ<|ae.qv (bO J J) J<|rN<|tS<|cD h J (fun h=>?_) (fun h=>?_)
  ·refine tK<|tS<|ab.block<|aJ<|rM J J<|rA J J<|rN<|aJ<|rM J J<|rM J J<|rM J J<|aH h fun v3 e1 h=>ae.qv (bG J J J e1 J J) J<|ae.qv (aL J J J) J<|aH h fun v4 e2 h=>tV J J (lK e2) cR J<|rN<|cB h J (fun h=>?_) (fun h=>?_)
   ·refine aJ<|rM J J<|rA J J<|rN<|ab.ret<|have h:=bT h dQ;?_
    cases h
    exact hP J J
   ·refine tK<|ab.cw<|tR<|ae.qv (bq J J) J<|rM J J<|rN<|ab.stop<|?_
    cases h
    exact jl _ _ J<|aj.lq [] J J J
  ·refine ab.exit J<|have h:=bT h dQ;aJ<|rA J J<|rN<|ab.ret<|?_
   cases h
   exact hP J J
theorem yy [GI:bN] {bt cm:Bk} {aa:bF} {ai:bn} {aI:Version} {r:an×Bool×bF} (h:iE aa ai aI=some r):aP Tryz.prog 100 [.ptr bt 0,.str ai,Version.av aI] [(bt,.cells (LM aa cm)),(cm,vL aa.jY)] (T0 ([(bt,.cells (LM r.2.2 cm)),(cm,vL r.2.2.jY)]) (.lE [an.av r.1,.bool r.2.1])):=by
 unfold iE at h
 refine aP.hC ?_
 refine aP.bI Tryz.func100 J Tryz.ntmps100 Tryz.results100 J J ?_
 refine aJ<|dp J J J J fun b1=>bH J J J J fun b2=>rA J J<|rN<|aJ<|rM J J<|ae.qv (aE J) J<|rF J J J<|rL J J .p2 J J<|rM J J<|VL h (fun e1 h=>?_) (fun m3 e1 h=>?_)
 ·refine ae.qv (LD (gk:=AV.str) (gv:=(GL Version.av aq.av)) (M:=aa.jY) (key:=ai) J J .p3 J e1) J<|rM J J<|rX J J J<|rX J J J<|rA J J<|rA J J<|rN<|tS<|aJ<|rM J J<|ae.qv (cu J) J<|rN<|ab.Pd J<|tS<|ab.cU (id:=3) (A:=[0,1,3,7,0,0,32,96,224,511,1023]) 9 mixed J (by kernel_rfl) (by kernel_rfl)<|AM.qv (aM J) J<|AM.qv (aE J) J<|AM.qv (az J J) J<|AM.qv (aN J J .p2 J) J<|AM.qv (aM J) J<|AM.qv (aM J) J<|AM.qv (aE J) J<|AM.qv (az J J) J<|AM.qv (aO J J .p2 J J) J<|AM.nil<|aH h fun v4 e2 h=>jn J (Cr e2) cR .nil (fun _=>J) J fun b5=>rA J J<|rN<|tR<|rM J J<|ae.qv (aE J) J<|rF J J J<|rL J J .p3 J J<|rM J J<|rM J J<|ae.ghost<|aj.V3 (gk:=Version.av) (gv:=aq.av) (M:=v4) (ss:=[8,33,39]) (by simp [lk]) .p0<|aj.here<|vR (gk:=AV.str) (gv:=(GL Version.av aq.av)) (M:=aa.jY) (key:=ai) (v:=v4) J J J J .p3<|rN<|tS<|aH h fun v6 e3 h=>ab.jN (id:=5) (A:=[0,1,3,7,0,0,0,64,192,448,0,2047,4095,8191,8191,0,49151,131071]) (H0:=[]) (HH:=fun β=>[((β 15),.cells [sK v6.1]),(b2,.cells [I 0,I 0,I 0,.nil,.nil,I 0]),(b1,.cells [I aI.aA,I aI.aC,I aI.aD]),(bt,.cells [rP aa.pd,I aa.GN.aA,I aa.GN.aC,I aa.GN.aD,.bV cm]),(cm,vL (bW aa.jY ai v4))]) 17 mixed J (by kernel_rfl) (by kernel_rfl) [⟨some 15,some 16,[],fun b=>(b,.cells [.nil]),none,[]⟩,⟨some 16,none,[],fun b=>(b,.cells [sK v6.1]),some 15,[]⟩] [15] J (by kernel_rfl) J .nil (fun _=>J)<|AT.am 15 J J<|AM.qv (aM J) J<|AM.qv (aE J) J<|AM.qv (az J J) J<|AM.qv (aN J J .p2 J) J<|AM.qv (aM J) J<|AM.qv (aG J J .p1 J) J<|AM.qv (aM J) J<|AM.qv (aE J) J<|AM.qv (az J J) J<|AM.qv (aO J J .p2 J J) J<|AM.qv (aM J) J<|AM.iX J (zk e3) cR J<|AM.qv (aM J) J<|AM.qv (jM J J) J<|AM.qv (jM J J) J<|AM.nil<|AT.Bm (V:=fun b=>.ptr b 0) (Ti:=[]) (Pi:=fun b=>[(b,.cells [.nil])]) (fun _=>J) (fun _=>J) (fun _ _=>J) J (fun _=>J) J J J ?_ ?_
  ·exact bH J J J J fun b7=>ae.nil ⟨b7,_,J,J⟩
  refine AT.runN (Ti:=fun β=>[((β 15),.cells [.nil])]) (Pi:=fun β=>[((β 15),.cells [sK v6.1])]) (fun _=>J) (fun _=>J) (fun _ _=>J) (fun _=>J) (fun _=>J) (fun β=>?_) ?_
  ·generalize β 15=b7
   exact ay J J J J .p0 J J<|ae.nil ⟨_,J⟩
  refine AT.wW (fun _=>J) fun β=>?_
  generalize β 15=b7
  clear β
  refine rA J J<|rN<|tS<|tS<|ab.cut (fun aK=>∃ (c8:Bool),kE aa ai v4 v6 c8=some r∧aK=⟨76,[(0,.ptr bt 0),(6,.ptr b2 0),(10,.ptr b7 0),(61,.bool c8)],[(bt,.cells [rP aa.pd,I aa.GN.aA,I aa.GN.aC,I aa.GN.aD,.bV cm]),(cm,vL (bW aa.jY ai v4)),(b2,.cells [I 0,I 0,I 0,.nil,.nil,I 0]),(b7,.cells [sK v6.1])]⟩) ?_ ?_
  ·refine tR<|rM J J<|ae.qv (cu J) J<|rM J J<|ae.guard J J J (fun hc=>?_) (fun hc=>?_)
   ·rw [vI hc] at h
    exact rL J J .p0 J J<|rY J J J<|ae.qv (ca J) J<|rY J J J<|ae.qv (dt J J) J<|rE J J J<|rN<|ab.stop<|aj.lq [3,3,1,0] ⟨decide ((v6.1.length:Int)=0),h,J⟩ J J
   ·rw [vH hc] at h
    exact rG J J J J<|rG J J J J<|rT J J J<|rN<|ab.stop<|aj.lq [3,3,1,0] ⟨true,h,J⟩ J J
  ·rintro aK ⟨c8,h,rfl⟩
   unfold kE at h
   refine cB h J (fun h=>?_) (fun h=>?_)
   ·refine aJ<|ae.qv (dv J J J J J) J<|ay J J J J .p2 J J<|rA J J<|rN<|ab.ret<|?_
    cases h
    exact aj.HD (j:=3) 1 .p2 J J J<|aj.HD (j:=4) 6 .p2 J J J<|aj.here ⟨_,.cons (.all _ _ _ _ _ _ J .p2 aB.h aX.h J J) (.cons (.tmp _ _ J) .nil),_,.cons .p0 (.cons .p0 .nil),⟨J,J⟩⟩
   ·refine tK<|aJ<|rM J J<|ae.qv (aE J) J<|rF J J J<|rL J J .p0 J J<|ae.qv (mC J) J<|aH h fun v9 e4 h=>fk J (gh (fun e=>qK e) e4) (.cons (.co (.refl _)) (.cons (.Bf _ _ _ (.cons (.xC _ _ _ .p3 (.cons (.co (.refl _)) .nil)) .nil)) .nil)) J J<|rA J J<|rN<|aJ<|rM J J<|ae.qv (aE J) J<|rF J J J<|rL J J .p0 J J<|rM J J<|aH h fun v10 e5 h=>ae.qv (bG J J J e5 J J) J<|ae.qv (aL J J J) J<|ay J J J J .p2 J J<|rA J J<|rN<|ab.ret<|?_
    cases h
    exact aj.here ⟨_,.cons (.all _ _ _ _ _ _ J .p2 aB.h aX.h J J) (.cons (.tmp _ _ J) .nil),_,.cons .p0 (.cons .p0 .nil),⟨J,J⟩⟩
 ·refine ae.qv (LF (gk:=AV.str) (gv:=(GL Version.av aq.av)) (M:=aa.jY) (key:=ai) J J .p3 e1) J<|rM J J<|rX J J J<|rX J J J<|rA J J<|rA J J<|rN<|tS<|aJ<|rM J J<|ae.qv (cu J) J<|rN<|ab.Pe J<|tK<|tS<|aH h fun v11 e6 h=>ab.jN (id:=5) (A:=[0,1,3,7,0,0,0,64,192,448,0,2047,4095,8191,8191,0,49151,131071]) (H0:=[]) (HH:=fun β=>[((β 15),.cells [sK v11.1]),(b2,.cells [I 0,I 0,I 0,.nil,.nil,I 0]),(b1,.cells [I aI.aA,I aI.aC,I aI.aD]),(bt,.cells (LM aa cm)),(cm,vL aa.jY)]) 17 mixed J (by kernel_rfl) (by kernel_rfl) [⟨some 15,some 16,[],fun b=>(b,.cells [.nil]),none,[]⟩,⟨some 16,none,[],fun b=>(b,.cells [sK v11.1]),some 15,[]⟩] [15] J (by kernel_rfl) J .nil (fun _=>J)<|AT.am 15 J J<|AM.qv (aM J) J<|AM.qv (aE J) J<|AM.qv (az J J) J<|AM.qv (aN J J .p2 J) J<|AM.qv (aM J) J<|AM.qv (aG J J .p1 J) J<|AM.qv (aM J) J<|AM.qv (aE J) J<|AM.qv (az J J) J<|AM.qv (aO J J .p2 J J) J<|AM.qv (aM J) J<|AM.iX J (zk e6) cR J<|AM.qv (aM J) J<|AM.qv (jM J J) J<|AM.qv (jM J J) J<|AM.nil<|AT.Bm (V:=fun b=>.ptr b 0) (Ti:=[]) (Pi:=fun b=>[(b,.cells [.nil])]) (fun _=>J) (fun _=>J) (fun _ _=>J) J (fun _=>J) J J J ?_ ?_
  ·exact bH J J J J fun kV=>ae.nil ⟨kV,_,J,J⟩
  refine AT.runN (Ti:=fun β=>[((β 15),.cells [.nil])]) (Pi:=fun β=>[((β 15),.cells [sK v11.1])]) (fun _=>J) (fun _=>J) (fun _ _=>J) (fun _=>J) (fun _=>J) (fun β=>?_) ?_
  ·generalize β 15=kV
   exact ay J J J J .p0 J J<|ae.nil ⟨_,J⟩
  refine AT.wW (fun _=>J) fun β=>?_
  generalize β 15=kV
  clear β
  refine rA J J<|rN<|tS<|tS<|ab.cut (fun aK=>∃ (Qz:Bool),kF aa v11 Qz=some r∧aK=⟨76,[(0,.ptr bt 0),(6,.ptr b2 0),(10,.ptr kV 0),(61,.bool Qz)],[(bt,.cells (LM aa cm)),(cm,vL aa.jY),(b2,.cells [I 0,I 0,I 0,.nil,.nil,I 0]),(kV,.cells [sK v11.1])]⟩) ?_ ?_
  ·refine tR<|rM J J<|ae.qv (cu J) J<|rM J J<|ae.guard J J J (fun hc=>?_) (fun hc=>?_)
   ·rw [vI hc] at h
    exact rL J J .p0 J J<|rY J J J<|ae.qv (ca J) J<|rY J J J<|ae.qv (dt J J) J<|rE J J J<|rN<|ab.stop<|aj.lq [3,3,1,0] ⟨decide ((v11.1.length:Int)=0),h,J⟩ J J
   ·rw [vH hc] at h
    exact rG J J J J<|rG J J J J<|rT J J J<|rN<|ab.stop<|aj.lq [3,3,1,0] ⟨true,h,J⟩ J J
  ·rintro aK ⟨Qz,h,rfl⟩
   unfold kF at h
   refine cB h J (fun h=>?_) (fun h=>?_)
   ·refine aJ<|ae.qv (dv J J J J J) J<|ay J J J J .p2 J J<|rA J J<|rN<|ab.ret<|?_
    cases h
    exact aj.HD (j:=3) 1 .p2 J J J<|aj.HD (j:=4) 6 .p2 J J J<|aj.here ⟨_,.cons (.all _ _ _ _ _ _ J .p2 aB.h aX.h J J) (.cons (.tmp _ _ J) .nil),_,.cons .p0 (.cons .p0 .nil),⟨J,J⟩⟩
   ·refine tK<|aJ<|rM J J<|ae.qv (aE J) J<|rF J J J<|rL J J .p0 J J<|ae.qv (mC J) J<|aH h fun qe e7 h=>fk J (gh (fun e=>qK e) e7) (.cons (.co (.refl _)) (.cons (.Bf _ _ _ (.cons (.xC _ _ _ .p3 (.cons (.co (.refl _)) .nil)) .nil)) .nil)) J J<|rA J J<|rN<|aJ<|rM J J<|ae.qv (aE J) J<|rF J J J<|rL J J .p0 J J<|rM J J<|aH h fun kU e8 h=>ae.qv (bG J J J e8 J J) J<|ae.qv (aL J J J) J<|ay J J J J .p2 J J<|rA J J<|rN<|ab.ret<|?_
    cases h
    exact aj.here ⟨_,.cons (.all _ _ _ _ _ _ J .p2 aB.h aX.h J J) (.cons (.tmp _ _ J) .nil),_,.cons .p0 (.cons .p0 .nil),⟨J,J⟩⟩
theorem xh [GI:bN] {bt iN:Bk} {bY:Nat→Bk} {jJ:Nat→Nat→Bk} {cQ cS cP cm cW dR DQ kJ:Bk} {aa:ax} {ai:bF} {aI:List DeviceS} {bw hJ:Int} {r:(List cd)×bF} (h:jd aa ai aI bw hJ=some r):aP Tryz.prog 50 [.ptr bt 0,.ptr DQ 0,ue aI,I bw,I hJ] [(bt,.cells [.ch [.str aa.c_.Key,I aa.c_.Target.aA,I aa.c_.Target.aC,I aa.c_.Target.aD,I aa.c_.At,p9 aa.c_.aR,I aa.c_.aZ.bS,I aa.c_.aZ.To,I aa.c_.Room],.bV cQ,.bV cS,.sl 1 cP 0 aa.open_.length,.sl 1 cm 0 aa.bD.length,.sl 1 cW 0 aa.ba.length,.sl 1 dR 0 aa.aV.length,I aa.bh,I aa.cZ]),(cQ,.mp (aa.qd.map (fun e=>(AV.str e.1,(pA bY) e.2)))),(cS,yG aa.dq),(cP,dH aa.open_),(cm,dH aa.bD),(cW,dH aa.ba),(dR,dH aa.aV),(iN,.ct (jq u3 bY jJ aa.mf)),(DQ,.cells (LM ai kJ)),(kJ,vL ai.jY)] (T1 (fun nO=>[(bt,.cells [.ch [.str aa.c_.Key,I aa.c_.Target.aA,I aa.c_.Target.aC,I aa.c_.Target.aD,I aa.c_.At,p9 aa.c_.aR,I aa.c_.aZ.bS,I aa.c_.aZ.To,I aa.c_.Room],.bV cQ,.bV cS,.sl 1 cP 0 aa.open_.length,.sl 1 cm 0 aa.bD.length,.sl 1 cW 0 aa.ba.length,.sl 1 dR 0 aa.aV.length,I aa.bh,I aa.cZ]),(cQ,.mp (aa.qd.map (fun e=>(AV.str e.1,(pA bY) e.2)))),(cS,yG aa.dq),(cP,dH aa.open_),(cm,dH aa.bD),(cW,dH aa.ba),(dR,dH aa.aV),(iN,.ct (jq u3 bY jJ aa.mf)),(DQ,.cells (LM r.2 kJ)),(kJ,vL r.2.jY),(nO,BA r.1)]) (fun nO=>.sl 5 nO 0 r.1.length)):=by
 unfold jd at h
 refine aP.hC ?_
 refine aP.bI Tryz.func50 J Tryz.ntmps50 Tryz.results50 J J ?_
 refine aJ<|dp J J J J fun b1=>ae.ghost<|aj.Qj (s:=5) J .p0<|aj.here<|rA J J<|rN<|tS<|tS<|ab.cut (fun aK=>∃ (c2:Bool),jv aa ai aI c2=some r∧aK=⟨136,[(1,.ptr DQ 0),(2,ue aI),(5,.ch [.ptr bt 0]),(35,.bool c2)],[(bt,.cells [.ch [.str aa.c_.Key,I aa.c_.Target.aA,I aa.c_.Target.aC,I aa.c_.Target.aD,I aa.c_.At,p9 aa.c_.aR,I aa.c_.aZ.bS,I aa.c_.aZ.To,I aa.c_.Room],.bV cQ,.bV cS,.sl 1 cP 0 aa.open_.length,.sl 1 cm 0 aa.bD.length,.sl 1 cW 0 aa.ba.length,.sl 1 dR 0 aa.aV.length,I aa.bh,I aa.cZ]),(cQ,.mp (aa.qd.map (fun e=>(AV.str e.1,(pA bY) e.2)))),(iN,.ct (jq u3 bY jJ aa.mf)),(cS,yG aa.dq),(cP,dH aa.open_),(cm,dH aa.bD),(cW,dH aa.ba),(dR,dH aa.aV),(DQ,.cells (LM ai kJ)),(kJ,vL ai.jY)]⟩) ?_ ?_
 ·refine tR<|ae.qv (aQ J J J) J<|ae.qv (aE J) J<|rF J J J<|rL J J .p0 J J<|ae.qv (nU J J) J<|rM J J<|ae.dG J J J (fun hc=>?_) (fun hc=>?_)
  ·rw [wU hc] at h
   exact ae.qv (aQ J J J) J<|rY J J J<|ae.qv (aE J) J<|rY J J J<|rF J J J<|rY J J J<|rL J J .p0 J J<|rY J J J<|rM J J<|rY J J J<|rM J J<|rY J J J<|aT J (vo J) cR J<|rY J J J<|ae.qv (cu J) J<|rE J J J<|rN<|ab.stop<|aj.lq [0,0,5,0,0,0,0,0,0,0] ⟨!(ji aa.c_ bw hJ),h,J⟩ J J
  ·rw [wT hc] at h
   exact rG J J J J<|rG J J J J<|rG J J J J<|rG J J J J<|rG J J J J<|rG J J J J<|rG J J J J<|rT J J J<|rN<|ab.stop<|aj.lq [0,0,5,0,0,0,0,0,0,0] ⟨true,h,J⟩ J J
 ·rintro aK ⟨c2,h,rfl⟩
  unfold jv at h
  refine cB h J (fun h=>?_) (fun h=>?_)
  ·refine aJ<|rA J J<|rN<|ab.ret<|?_
   cases h
   exact aj.arr (s:=10) 5 J fun b3=>aj.here ⟨_,.cons (.tmp _ _ J) .nil,_,.cons .p1 (.cons .p1 (.cons .p2 (.cons .p2 (.cons .p2 (.cons .p2 (.cons .p2 (.cons .p1 (.cons .p1 (.cons .p1 (.cons .p0 .nil)))))))))),⟨b3,J,J⟩⟩
  ·refine tK<|aJ<|ae.qv (aQ J J J) J<|ae.qv (aE J) J<|rF J J J<|rL J J .p0 J J<|ae.qv (bL J) J<|ae.qv (bf J J) J<|ae.qv (aQ J J J) J<|rA J J<|rN<|aJ<|rA J J<|rN<|tS<|aJ<|rM J J<|ae.qv (ca J) J<|rM J J<|rN<|ab.block<|ab.cx (fun x:Int×(List DeviceS)×Int=>eT aa ai aI x.1 x.2.1 x.2.2) (fun x aK=>∃ (b9:Bk),aK=⟨136,[(1,.ptr DQ 0),(5,.ch [.ptr bt 0]),(11,I x.1),(12,.sl 7 b9 0 x.2.1.length),(43,ue aI),(44,I (aI.length:Int)),(45,I x.2.2)],[(bt,.cells [.ch [.str aa.c_.Key,I aa.c_.Target.aA,I aa.c_.Target.aC,I aa.c_.Target.aD,I aa.c_.At,p9 aa.c_.aR,I aa.c_.aZ.bS,I aa.c_.aZ.To,I aa.c_.Room],.bV cQ,.bV cS,.sl 1 cP 0 aa.open_.length,.sl 1 cm 0 aa.bD.length,.sl 1 cW 0 aa.ba.length,.sl 1 dR 0 aa.aV.length,I aa.bh,I aa.cZ]),(cQ,.mp (aa.qd.map (fun e=>(AV.str e.1,(pA bY) e.2)))),(iN,.ct (jq u3 bY jJ aa.mf)),(cS,yG aa.dq),(cP,dH aa.open_),(cm,dH aa.bD),(cW,dH aa.ba),(dR,dH aa.aV),(DQ,.cells (LM ai kJ)),(kJ,vL ai.jY),(b9,wL x.2.1)]⟩) h ?_ ?_
   ·exact aj.arr (s:=12) 7 J fun kV=>aj.lq [1,1,1,1,1,1,1,1,1,1,0] ⟨kV,J⟩ J J
   ·intro x z1 aK J1 dY h jl dQ
    obtain ⟨n8,l10,n11⟩:=x
    obtain ⟨b9,rfl⟩:=dY
    replace h:eT aa ai aI n8 l10 n11=some z1:=h
    unfold eT at h
    refine aJ<|ae.qv (bO J J) J<|rN<|tS<|cD h J (fun h=>?_) (fun h=>?_)
    ·refine tK<|tS<|ab.block<|aJ<|aH h fun gy e1 h=>ae.qv (bG J J J e1 J J) J<|ae.qv (aL J J J) J<|bH J J J J fun DP=>ay J J J J .p0 J J<|rN<|tS<|ab.cU (id:=8) (A:=[0,1,3,7,0,16,63,127]) 8 mixed J (by kernel_rfl) (by kernel_rfl)<|AM.qv (aQ J J J) J<|AM.qv (aE J) J<|AM.qv (az J J) J<|AM.qv (aN J J .p1 J) J<|AM.qv (az J J) J<|AM.qv (aN J J .p0 J) J<|VL h (fun e2 h=>?_) (fun n15 e2 h=>?_)
     ·refine AM.qv (Lw (gk:=AV.str) (gv:=(pA bY)) (M:=aa.qd) (key:=gy.Key) J J .p2 J e2) J<|AM.qv (bR J) J<|AM.nil<|rN<|ab.block<|aJ<|rM J J<|?_
      cases h
     ·refine AM.qv (EI (gk:=AV.str) (gv:=(pA bY)) (M:=aa.qd) (key:=gy.Key) J J .p2 e2) J<|AM.qv (bR J) J<|AM.nil<|rN<|ab.block<|aJ<|rM J J<|aH h fun sW e3 h=>fk J (Dy J) (.cons (lO.C3 (bp:=iN) (kb:=u3) (bs:=jJ) (M:=aa.mf) UU e3 .p3) .nil) J J<|rA J J<|rN<|ab.cut (fun aK=>∃ (Oj:Bk) (n17:Int) (yo:List DeviceS),eS n11 n17 yo=some z1∧aK=⟨136,[(1,.ptr DQ 0),(5,.ch [.ptr bt 0]),(11,I n17),(12,.sl 7 Oj 0 yo.length),(43,ue aI),(44,I (aI.length:Int)),(45,I n11)],[(bt,.cells [.ch [.str aa.c_.Key,I aa.c_.Target.aA,I aa.c_.Target.aC,I aa.c_.Target.aD,I aa.c_.At,p9 aa.c_.aR,I aa.c_.aZ.bS,I aa.c_.aZ.To,I aa.c_.Room],.bV cQ,.bV cS,.sl 1 cP 0 aa.open_.length,.sl 1 cm 0 aa.bD.length,.sl 1 cW 0 aa.ba.length,.sl 1 dR 0 aa.aV.length,I aa.bh,I aa.cZ]),(cQ,.mp (aa.qd.map (fun e=>(AV.str e.1,(pA bY) e.2)))),(iN,.ct (jq u3 bY jJ aa.mf)),(cS,yG aa.dq),(cP,dH aa.open_),(cm,dH aa.bD),(cW,dH aa.ba),(dR,dH aa.aV),(DQ,.cells (LM ai kJ)),(kJ,vL ai.jY),(Oj,wL yo)]⟩) ?_ ?_
      ·refine cB h J (fun h=>?_) (fun h=>?_)
       ·exact tR<|rM J J<|ae.qv (eK J J) J<|rA J J<|rN<|ab.stop<|aj.lq [1,1,1,1,1,1,1,1,1,1,1] ⟨b9,bB (n8 - 1),l10,h,J⟩ J J
       ·refine tS<|ab.cut (fun aK=>∃ (c20:Bool),jt n8 l10 n11 gy c20=some z1∧aK=⟨136,[(1,.ptr DQ 0),(5,.ch [.ptr bt 0]),(11,I n8),(12,.sl 7 b9 0 l10.length),(14,.ptr DP 0),(43,ue aI),(44,I (aI.length:Int)),(45,I n11),(61,.bool c20)],[(bt,.cells [.ch [.str aa.c_.Key,I aa.c_.Target.aA,I aa.c_.Target.aC,I aa.c_.Target.aD,I aa.c_.At,p9 aa.c_.aR,I aa.c_.aZ.bS,I aa.c_.aZ.To,I aa.c_.Room],.bV cQ,.bV cS,.sl 1 cP 0 aa.open_.length,.sl 1 cm 0 aa.bD.length,.sl 1 cW 0 aa.ba.length,.sl 1 dR 0 aa.aV.length,I aa.bh,I aa.cZ]),(cQ,.mp (aa.qd.map (fun e=>(AV.str e.1,(pA bY) e.2)))),(iN,.ct (jq u3 bY jJ aa.mf)),(cS,yG aa.dq),(cP,dH aa.open_),(cm,dH aa.bD),(cW,dH aa.ba),(dR,dH aa.aV),(DQ,.cells (LM ai kJ)),(kJ,vL ai.jY),(b9,wL l10),(DP,.cells (Tx gy))]⟩) ?_ ?_
        ·refine ab.cU (id:=11) (A:=[0,1,3,7,0,16,63,0,128,384,896,1920,4095,8191,16383,16383,65535,131071,262143,524287,1048575,1048575,4194303,8388607,16777215,33554431]) 26 mixed J (by kernel_rfl) (by kernel_rfl)<|AM.qv (aQ J J J) J<|AM.qv (aE J) J<|AM.qv (az J J) J<|AM.qv (aN J J .p1 J) J<|AM.qv (az J J) J<|AM.qv (aN J J .p0 J) J<|aH h fun v21 e4 h=>AM.qv (Bq (gk:=AV.str) (gv:=I) (M:=aa.dq) (key:=gy.Key) (Z:=0) J J .p4 J J J e4 J) J<|AM.qv (aQ J J J) J<|AM.qv (aE J) J<|AM.qv (az J J) J<|AM.qv (aN J J .p1 J) J<|AM.qv (ee J) J<|AM.qv (bO J J) J<|AM.qv (aM J) J<|AM.dw J J J (fun hc=>?_) (fun hc=>?_)
         ·rw [vc hc] at h
          refine AM.qv (aQ J J J) J<|AM.au J J J<|AM.qv (aM J) J<|AM.au J J J<|AM.Pv J (iD J) (.cons (.xC _ _ _ .p1 (.cons (.co (.refl _)) (.cons (.co (.refl _)) (.cons (.co (.refl _)) (.cons (lO.jX .p5) (.cons (lO.jX .p6) (.cons (lO.jX .p7) (.cons (lO.jX (.next .p7)) (.cons (.co (.refl _)) (.cons (.co (.refl _)) .nil)))))))))) (.cons (lO.C3 (bp:=iN) (kb:=u3) (bs:=jJ) (M:=aa.mf) UU e3 .p3) .nil)) J J<|AM.au J J J<|AM.qv (cu J) J<|AM.qv (fP J J) J<|AM.qv (aM J) J<|AM.guard J J J (fun hc=>?_) (fun hc=>?_)
          ·rw [Gk hc] at h
           exact AM.qv (aQ J J J) J<|AM.au J J J<|AM.qv (aM J) J<|AM.au J J J<|AM.Pv J (pH J) (.cons (.xC _ _ _ .p1 (.cons (.co (.refl _)) (.cons (.co (.refl _)) (.cons (.co (.refl _)) (.cons (lO.jX .p5) (.cons (lO.jX .p6) (.cons (lO.jX .p7) (.cons (lO.jX (.next .p7)) (.cons (.co (.refl _)) (.cons (.co (.refl _)) .nil)))))))))) (.cons (lO.C3 (bp:=iN) (kb:=u3) (bs:=jJ) (M:=aa.mf) UU e3 .p3) .nil)) J J<|AM.au J J J<|AM.qv (cu J) J<|AM.qv (fP J J) J<|AM.qv (bR J) J<|AM.nil<|rN<|ab.stop<|aj.lq [1,1,1,1,1,1,1,1,1,1,1,0] ⟨!(di aa sW),h,J⟩ J J
          ·rw [Gl hc] at h
           exact AM.ar J J J J<|AM.ar J J J J<|AM.ar J J J J<|AM.qv (ed J J) J<|AM.qv (bR J) J<|AM.nil<|rN<|ab.stop<|aj.lq [1,1,1,1,1,1,1,1,1,1,1,0] ⟨false,h,J⟩ J J
         ·rw [vd hc] at h
          exact AM.ar J J J J<|AM.ar J J J J<|AM.ar J J J J<|AM.qv (ed J J) J<|AM.qv (aM J) J<|AM.ar J J J J<|AM.ar J J J J<|AM.ar J J J J<|AM.ar J J J J<|AM.qv (ed J J) J<|AM.qv (bR J) J<|AM.nil<|rN<|ab.stop<|aj.lq [1,1,1,1,1,1,1,1,1,1,1,0] ⟨false,h,J⟩ J J
        ·rintro aK ⟨c20,h,rfl⟩
         unfold jt at h
         refine ab.cut (fun aK=>∃ (MW:Bk) (um:List DeviceS),gM n8 n11 um=some z1∧aK=⟨136,[(1,.ptr DQ 0),(5,.ch [.ptr bt 0]),(11,I n8),(12,.sl 7 MW 0 um.length),(43,ue aI),(44,I (aI.length:Int)),(45,I n11)],[(bt,.cells [.ch [.str aa.c_.Key,I aa.c_.Target.aA,I aa.c_.Target.aC,I aa.c_.Target.aD,I aa.c_.At,p9 aa.c_.aR,I aa.c_.aZ.bS,I aa.c_.aZ.To,I aa.c_.Room],.bV cQ,.bV cS,.sl 1 cP 0 aa.open_.length,.sl 1 cm 0 aa.bD.length,.sl 1 cW 0 aa.ba.length,.sl 1 dR 0 aa.aV.length,I aa.bh,I aa.cZ]),(cQ,.mp (aa.qd.map (fun e=>(AV.str e.1,(pA bY) e.2)))),(iN,.ct (jq u3 bY jJ aa.mf)),(cS,yG aa.dq),(cP,dH aa.open_),(cm,dH aa.bD),(cW,dH aa.ba),(dR,dH aa.aV),(DQ,.cells (LM ai kJ)),(kJ,vL ai.jY),(MW,wL um)]⟩) ?_ ?_
         ·refine cB h J (fun h=>?_) (fun h=>?_)
          ·exact tR<|rM J J<|ae.qv (aG J J (.next (.next (.next (.next .p7)))) J) J<|aW (xs:=([gy]:List DeviceS).map DeviceS.av) J J J J J J<|aH h fun xy e5 h=>fo (g:=DeviceS.av) J J J J J J J J (.list _) e5 (fun _=>(.next (.next (.next .p7)))) J fun Dv=>rA J J<|rN<|ab.stop<|aj.lq [0,0,0,0,0,0,0,0,0,0,0] ⟨Dv,xy,h,J⟩ J J
          ·exact tK<|ab.stop<|aj.lq [0,0,0,0,0,0,0,0,0,0,0] ⟨b9,l10,h,J⟩ J J
         ·rintro aK ⟨MW,um,h,rfl⟩
          unfold gM at h
          exact ab.stop<|aj.lq [0,0,0,0,0,0,0,0,0,0,0] ⟨MW,n8,um,h,J⟩ J J
      ·rintro aK ⟨Oj,n17,yo,h,rfl⟩
       unfold eS at h
       refine ab.cw<|ab.cw<|tR<|ae.qv (bq J J) J<|rM J J<|rN<|ab.stop<|?_
       cases h
       exact jl _ _ J<|aj.lq [0,0,0,0,0,0,0,0,0,0,0] ⟨Oj,J⟩ J J
    ·refine ab.exit J<|have h:=bT h dQ;?_
     unfold gP at h
     refine aJ<|rM J J<|ae.qv (mC J) J<|aH h fun v26 e6 h=>Tq J (sw (fun e=>vp (GI:=pM) e) (rZ e6)) (.cons (.next (.next (.next .p7))) .nil) (.cons (.co (.refl _)) (.cons (.Bf _ _ _ (.cons (lO.Yt (.cons (.xC _ _ _ .p0 (.cons (.co (.refl _)) (.cons (lO.fm .p1) (.cons (lO.fm .p3) (.cons (lO.jX .p4) (.cons (lO.jX .p5) (.cons (lO.jX .p6) (.cons (lO.jX .p7) (.cons (.co (.refl _)) (.cons (.co (.refl _)) .nil)))))))))) .nil)) .nil)) .nil)) J J<|ae.ghost<|aj.eqs (s:=12) (gx:=.sl 7 b9 0 v26.length) J (congrArg (AV.sl 7 b9 0) (gR e6))<|aj.here<|ae.ghost<|aj.eqs (s:=92) (gx:=.sl 7 b9 0 v26.length) J (congrArg (AV.sl 7 b9 0) (gR e6))<|aj.here<|rN<|aJ<|rA J J<|rN<|tS<|aJ<|rM J J<|ae.qv (ee J) J<|rM J J<|rN<|ab.cut (fun aK=>∃ (Xr:Bk) (wK:List an) (n28:Int) (n29:Int) (n30:Int) (KS:List (bn×(List (Version×aq)))) (MN:List cd),ju wK n28 n29 n30 KS MN=some r∧aK=⟨136,[(16,.sl 5 Xr 0 MN.length)],[(bt,.cells [.ch [.str aa.c_.Key,I aa.c_.Target.aA,I aa.c_.Target.aC,I aa.c_.Target.aD,I aa.c_.At,p9 aa.c_.aR,I aa.c_.aZ.bS,I aa.c_.aZ.To,I aa.c_.Room],.bV cQ,.bV cS,.sl 1 cP 0 aa.open_.length,.sl 1 cm 0 aa.bD.length,.sl 1 cW 0 aa.ba.length,.sl 1 dR 0 aa.aV.length,I aa.bh,I aa.cZ]),(cQ,.mp (aa.qd.map (fun e=>(AV.str e.1,(pA bY) e.2)))),(iN,.ct (jq u3 bY jJ aa.mf)),(cS,yG aa.dq),(cP,dH aa.open_),(cm,dH aa.bD),(cW,dH aa.ba),(dR,dH aa.aV),(DQ,.cells [rP wK,I n28,I n29,I n30,.bV kJ]),(kJ,vL KS),(Xr,BA MN)]⟩) ?_ ?_
     ·refine ab.block<|ab.cx (fun x:(List an)×Int×Int×Int×(List (bn×(List (Version×aq))))×(List cd)×Int=>dS aa n8 v26 x.1 x.2.1 x.2.2.1 x.2.2.2.1 x.2.2.2.2.1 x.2.2.2.2.2.1 x.2.2.2.2.2.2) (fun x aK=>∃ (GQ:Bk),aK=⟨136,[(1,.ptr DQ 0),(5,.ch [.ptr bt 0]),(11,I n8),(16,.sl 5 GQ 0 x.2.2.2.2.2.1.length),(95,.sl 7 b9 0 v26.length),(96,I (v26.length:Int)),(97,I x.2.2.2.2.2.2)],[(bt,.cells [.ch [.str aa.c_.Key,I aa.c_.Target.aA,I aa.c_.Target.aC,I aa.c_.Target.aD,I aa.c_.At,p9 aa.c_.aR,I aa.c_.aZ.bS,I aa.c_.aZ.To,I aa.c_.Room],.bV cQ,.bV cS,.sl 1 cP 0 aa.open_.length,.sl 1 cm 0 aa.bD.length,.sl 1 cW 0 aa.ba.length,.sl 1 dR 0 aa.aV.length,I aa.bh,I aa.cZ]),(cQ,.mp (aa.qd.map (fun e=>(AV.str e.1,(pA bY) e.2)))),(iN,.ct (jq u3 bY jJ aa.mf)),(cS,yG aa.dq),(cP,dH aa.open_),(cm,dH aa.bD),(cW,dH aa.ba),(dR,dH aa.aV),(DQ,.cells [rP x.1,I x.2.1,I x.2.2.1,I x.2.2.2.1,.bV kJ]),(kJ,vL x.2.2.2.2.1),(GQ,BA x.2.2.2.2.2.1),(b9,wL v26)]⟩) h ?_ ?_
      ·exact aj.arr (s:=16) 5 J fun b50=>aj.lq [2,2,2,2,2,2,2,2,2,2,0,0] ⟨b50,J⟩ J J
      ·intro x z2 aK J2 dY h yr wE
       obtain ⟨HR,n43,n44,n45,KR,FT,n49⟩:=x
       obtain ⟨GQ,rfl⟩:=dY
       replace h:dS aa n8 v26 HR n43 n44 n45 KR FT n49=some z2:=h
       unfold dS at h
       refine aJ<|ae.qv (bO J J) J<|rN<|tS<|cD h J (fun h=>?_) (fun h=>?_)
       ·refine tK<|tS<|ab.block<|aJ<|aH h fun v51 e7 h=>ae.qv (bu J J J e7) J<|ae.qv (bP (g:=DeviceS.av) J J (.inl (.next (.next (.next (.next .p7))))) J e7 J) J<|bH J J J J fun Wc=>ay J J J J .p0 J J<|rN<|tS<|aJ<|rM J J<|ae.qv (ee J) J<|rM J J<|ae.qv (nU J J) J<|rN<|cD h J (fun h=>?_) (fun h=>?_)
        ·exact ab.exit J<|have h:=bT h wE;ab.stop<|aj.lq [1,1,1,1,1,1,1,1,1,1,1] ⟨GQ,HR,n43,n44,n45,KR,FT,h,J⟩ J J
        ·refine tK<|tS<|aH h fun US e8 h=>aH h fun v54 e9 h=>aH h fun v55 BB h=>ab.jN (id:=20) (A:=[0,0,2,0,8,24,56,0,128,504,1016,2040,4088,8184,16383,32767,65535,65535,0,393215,1048575]) (H0:=[(DQ,.cells [rP HR,I n43,I n44,I n45,.bV kJ]),(kJ,vL KR)]) (HH:=fun β=>[(DQ,.cells (LM v55.2.2 kJ)),(kJ,vL v55.2.2.jY),((β 18),.cells (ET v55.1)),(Wc,.cells (Tx v51)),(bt,.cells [.ch [.str aa.c_.Key,I aa.c_.Target.aA,I aa.c_.Target.aC,I aa.c_.Target.aD,I aa.c_.At,p9 aa.c_.aR,I aa.c_.aZ.bS,I aa.c_.aZ.To,I aa.c_.Room],.bV cQ,.bV cS,.sl 1 cP 0 aa.open_.length,.sl 1 cm 0 aa.bD.length,.sl 1 cW 0 aa.ba.length,.sl 1 dR 0 aa.aV.length,I aa.bh,I aa.cZ]),(cQ,.mp (aa.qd.map (fun e=>(AV.str e.1,(pA bY) e.2)))),(iN,.ct (jq u3 bY jJ aa.mf)),(cS,yG aa.dq),(cP,dH aa.open_),(cm,dH aa.bD),(cW,dH aa.ba),(dR,dH aa.aV),(GQ,BA FT),(b9,wL v26)]) 20 mixed J (by kernel_rfl) (by kernel_rfl) [⟨none,some 14,[],fun _=>(DQ,.cells [rP HR,I n43,I n44,I n45,.bV kJ]),none,[]⟩,⟨none,some 14,[],fun _=>(kJ,vL KR),none,[]⟩,⟨some 14,none,[],fun _=>(DQ,.cells (LM v55.2.2 kJ)),none,[]⟩,⟨some 14,none,[],fun _=>(kJ,vL v55.2.2.jY),none,[]⟩,⟨some 18,some 19,[],fun b=>(b,.cells [I 0,I 0,I 0,.nil,.nil,I 0]),none,[]⟩,⟨some 19,none,[],fun b=>(b,.cells (ET v55.1)),some 18,[]⟩] [18] J (by kernel_rfl) J (.cons (.next (.next .p7)) (.cons (.next (.next .p7)) .nil)) (fun _=>J)<|AT.am 14 J J<|AM.qv (aM J) J<|AM.qv (az J J) J<|AM.qv (aN J J .p0 J) J<|AM.qv (aQ J J J) J<|AM.qv (aE J) J<|AM.qv (az J J) J<|AM.qv (aN J J .p1 J) J<|AM.qv (az J J) J<|AM.qv (aN J J .p0 J) J<|AM.qv (EI (gk:=AV.str) (gv:=(pA bY)) (M:=aa.qd) (key:=v51.Key) J J .p2 e8) J<|AM.qv (aE J) J<|AM.qv (az J J) J<|AM.qv (az J J) J<|AM.qv (QV.ara (kb:=u3) e9 .p3 J (aO J J .p0 J J)) J<|AM.nil<|AT.Bl (av:=.lE [an.av v55.1,.bool v55.2.1]) (Ti:=[(DQ,.cells [rP HR,I n43,I n44,I n45,.bV kJ]),(kJ,vL KR)]) (Pi:=[(DQ,.cells (LM v55.2.2 kJ)),(kJ,vL v55.2.2.jY)]) (fun _=>J) (fun _=>J) (fun _=>J) J J J ?_ ?_
         ·exact br J (yy BB) cR (.cons .p0 (.cons .p0 .nil)) J J<|ae.nil ⟨_,J,J⟩
         refine AT.am 3 J J<|AM.qv (aM J) J<|AM.qv (jM J J) J<|AM.qv (jM J J) J<|AM.nil<|AT.Bm (V:=fun b=>.ptr b 0) (Ti:=[]) (Pi:=fun b=>[(b,.cells [I 0,I 0,I 0,.nil,.nil,I 0])]) (fun _=>J) (fun _=>J) (fun _ _=>J) J (fun _=>J) J J J ?_ ?_
         ·exact bH J J J J fun Xq=>ae.nil ⟨Xq,_,J,J⟩
         refine AT.runN (Ti:=fun β=>[((β 18),.cells [I 0,I 0,I 0,.nil,.nil,I 0])]) (Pi:=fun β=>[((β 18),.cells (ET v55.1))]) (fun _=>J) (fun _=>J) (fun _ _=>J) (fun _=>J) (fun _=>J) (fun β=>?_) ?_
         ·generalize β 18=Xq
          exact ay J J J J .p0 J J<|ae.nil ⟨_,J⟩
         refine AT.wW (fun _=>J) fun β=>?_
         generalize β 18=Xq
         clear β
         refine rA J J<|rN<|aJ<|rM J J<|rN<|ab.cut (fun aK=>∃ (Xo:Bk) (Xk:List cd),gN n49 v55 Xk=some z2∧aK=⟨136,[(1,.ptr DQ 0),(5,.ch [.ptr bt 0]),(11,I n8),(16,.sl 5 Xo 0 Xk.length),(95,.sl 7 b9 0 v26.length),(96,I (v26.length:Int)),(97,I n49)],[(bt,.cells [.ch [.str aa.c_.Key,I aa.c_.Target.aA,I aa.c_.Target.aC,I aa.c_.Target.aD,I aa.c_.At,p9 aa.c_.aR,I aa.c_.aZ.bS,I aa.c_.aZ.To,I aa.c_.Room],.bV cQ,.bV cS,.sl 1 cP 0 aa.open_.length,.sl 1 cm 0 aa.bD.length,.sl 1 cW 0 aa.ba.length,.sl 1 dR 0 aa.aV.length,I aa.bh,I aa.cZ]),(cQ,.mp (aa.qd.map (fun e=>(AV.str e.1,(pA bY) e.2)))),(iN,.ct (jq u3 bY jJ aa.mf)),(cS,yG aa.dq),(cP,dH aa.open_),(cm,dH aa.bD),(cW,dH aa.ba),(dR,dH aa.aV),(DQ,.cells (LM v55.2.2 kJ)),(kJ,vL v55.2.2.jY),(Xo,BA Xk),(b9,wL v26)]⟩) ?_ ?_
         ·refine cB h J (fun h=>?_) (fun h=>?_)
          ·exact tR<|rM J J<|rF J J J<|rL J J .p3 J J<|rF J J J<|ae.qv (aO J J .p2 J J) J<|rF J J J<|rL J J .p2 J J<|ae.qv (dv J J J J J) J<|aW (xs:=([(⟨v51.Key,v55.1.Version,v55.1.cM⟩:cd)]).map cd.av) J J J J J J<|aH h fun Dt C6 h=>fo (g:=cd.av) J J J J J J J J (.list _) C6 (fun _=>(.next (.next (.next (.next (.next .p7)))))) J fun Wg=>rA J J<|rN<|ab.stop<|aj.lq [4,4,4,4,4,4,4,4,0,0,2,2] ⟨Wg,Dt,h,J⟩ J J
          ·exact tK<|ab.stop<|aj.lq [4,4,4,4,4,4,4,4,0,0,2,2] ⟨GQ,FT,h,J⟩ J J
         ·rintro aK ⟨Xo,Xk,h,rfl⟩
          unfold gN at h
          refine ab.cw<|tR<|ae.qv (bq J J) J<|rM J J<|rN<|ab.stop<|?_
          cases h
          exact yr _ _ J<|aj.lq [0,0,0,0,0,0,0,0,0,0,0,0] ⟨Xo,J⟩ J J
       ·exact ab.exit J<|have h:=bT h wE;ab.stop<|aj.lq [0,0,0,0,0,0,0,0,0,0,0] ⟨GQ,HR,n43,n44,n45,KR,FT,h,J⟩ J J
     ·rintro aK ⟨Xr,wK,n28,n29,n30,KS,MN,h,rfl⟩
      unfold ju at h
      refine aJ<|rM J J<|rA J J<|rN<|ab.ret<|?_
      cases h
      exact hH J [0,0,1,1,1,1,1,0,0,0,0] J ⟨Xr,J,J⟩
theorem BG [GI:bN] {aa:Campaign} {ai:List an} {aI:List DeviceS} {bw:List MarkS} {hJ mL:Int} {r:(List cd)×Int} (h:iL aa ai aI bw hJ mL=some r):aP Tryz.prog 11 [Campaign.av aa,rP ai,ue aI,uf bw,I hJ,I mL] [] (T1 (fun nO=>[(nO,BA r.1)]) (fun nO=>.lE [.sl 5 nO 0 r.1.length,I r.2])):=by
 unfold iL at h
 refine aP.hC ?_
 refine aP.bI Tryz.func11 J Tryz.ntmps11 Tryz.results11 J J ?_
 refine aJ<|dp J J J J fun b1=>rA J J<|rA J J<|rN<|tS<|aJ<|ae.qv (aG J J .p0 J) J<|aH h fun v2 e1 h=>aT J (qJ e1) cR J<|rM J J<|aH h fun v3 e2 h=>aT J (xP e2) cR J<|rM J J<|aH h fun v4 e3 h=>aT J (yu e3) cR J<|rM J J<|aH h fun v5 e4 h=>aT J (yv e4) cR J<|rM J J<|rM J J<|aT J (ug J) cR J<|aW (xs:=([v2,v3,v4,v5,(fS hJ mL)]:List Int).map I) J J J J J J<|aH h fun v6 e5 h=>aT J (BE e5) cR J<|rA J J<|rN<|aJ<|rM J J<|ae.qv (o9 J J) J<|rN<|cD h J (fun h=>?_) (fun h=>?_)
 ·refine aJ<|rM J J<|rA J J<|rA J J<|rN<|ab.ret<|?_
  cases h
  exact aj.arr (s:=12) 5 J fun b7=>aj.here ⟨_,.cons (.tmp _ _ J) (.cons (.tmp _ _ J) .nil),_,.cons .p0 .nil,⟨b7,J,J⟩⟩
 ·refine tK<|aJ<|rM J J<|ae.ghost<|aj.Tn (ss:=[6]) (by simp [lk]) .p0<|aj.here<|aH h fun v8 e6 h=>P8 J (Ad e6) cR .nil (fun _ _ _ _ _ _ _ _ _ _=>J) J fun b9 tL Og kV MU DP YU MT amY Oi=>rA J J<|rN<|aJ<|rM J J<|rM J J<|rM J J<|aH h fun np e7 h=>Mz J (xQ e7) cR (.cons .p0 (.cons .p0 (.cons .p0 (.cons .p0 (.cons .p0 (.cons .p0 (.cons .p0 (.cons .p0 .nil)))))))) (fun _ _ _ _ _=>J) J fun JO YV MW b23 amZ=>rN<|aJ<|rM J J<|rM J J<|ae.qv (bf J J) J<|ae.qv (kL J J J J) J<|sV J fun Dv=>ae.qv (dv J J J J J) J<|dp J J J J fun zO=>rM J J<|rM J J<|rM J J<|aH h fun mz e8 h=>jn J (xh e8) cR (.cons .p2 (.cons .p2 (.cons .p2 (.cons .p2 (.cons .p2 (.cons .p2 (.cons .p2 (.cons .p2 (.cons .p0 (.cons .p0 .nil)))))))))) (fun _=>J) J fun O2=>rA J J<|rA J J<|rN<|ab.ret<|?_
  cases h
  exact hI J J [10] J ⟨O2,J,J⟩
theorem AK [GI:bN] {aa:Campaign} {ai aI:Int} {r:Bool×Int} (h:nz aa ai aI=some r):Pu Tryz.prog 12 [Campaign.av aa,I ai,I aI] (.lE [.bool r.1,I r.2]):=by
 unfold nz at h
 refine aP.bI Tryz.func12 J Tryz.ntmps12 Tryz.results12 J J ?_
 refine aJ<|dp J J J J fun b1=>rA J J<|rA J J<|rN<|tS<|aJ<|ae.qv (aG J J .p0 J) J<|aH h fun v2 e1 h=>aT J (qJ e1) cR J<|rM J J<|rM J J<|aT J (ug J) cR J<|aW (xs:=([v2,(fS ai aI)]:List Int).map I) J J J J J J<|aH h fun v3 e2 h=>aT J (BE e2) cR J<|rA J J<|rN<|aJ<|rM J J<|ae.qv (o9 J J) J<|rN<|cD h J (fun h=>?_) (fun h=>?_)
 ·refine aJ<|rM J J<|rA J J<|rA J J<|rN<|ab.ret<|?_
  cases h
  exact hQ J J J
 ·refine tK<|aJ<|rM J J<|rM J J<|fk J (vo J) (.cons (.xC _ _ _ .p0 (.cons (.co (.refl _)) (.cons (.co (.refl _)) (.cons (.co (.refl _)) (.cons (.co (.refl _)) (.cons (.co (.refl _)) (.cons (.co (.refl _)) (.cons (.co (.refl _)) (.cons (.co (.refl _)) (.cons (.co (.refl _)) .nil)))))))))) (.cons (.co (.refl _)) (.cons (.co (.refl _)) .nil))) J J<|rA J J<|rA J J<|rN<|ab.ret<|?_
  cases h
  exact hQ J J J
end Go.Proofs.YthfphcbipahkmaaGreatDoor
