/- The code computes the plain functions: proofs written by shal.py. -/
import Derived.Test.YtifmjkaghhkhfaaGreatDoorCauW1
set_option maxHeartbeats 4000000
set_option maxRecDepth 100000
set_option linter.unusedVariables false
set_option linter.unusedSimpArgs false
namespace Go.Proofs.YtifmjkaghhkhfaaGreatDoor
open Go Go.Eng Go.Proofs Go.Beacon
attribute [local irreducible] ah ae AQ QV aG aj M1 AM
theorem zj [GI:bA] {aa:Signal} {ai:Signal} {r:Int} (h:mS aa ai=some r):Pu Tryz.prog 79 [Signal.av aa,Signal.av ai] (I r):=by
 unfold mS at h
 refine aG.bw Tryz.func79 J Tryz.ntmps79 Tryz.results79 J J ?_
 refine aI<|dC J J J J fun b1=>dC J J J J fun b2=>rA J J<|rN<|tS<|ae.bV (id:=1) (A:=[0,1,0,4,15,0,32,0,128,511,0,1024,0,4096,16383,0,32768,0,131072,524287,1048575,2097151,4194303]) 23 mixed J (by kernel_rfl) (by kernel_rfl)<|AM.qv (au J J) J<|AM.qv (aB J J .p1 J) J<|AM.qv (au J J) J<|AM.qv (aB J J .p0 J) J<|AM.jR J (fF J) cR J<|AM.qv (au J J) J<|AM.qv (aB J J .p1 J) J<|AM.qv (au J J) J<|AM.qv (aB J J .p0 J) J<|AM.jR J (df J) cR J<|AM.qv (au J J) J<|AM.qv (aB J J .p1 J) J<|AM.qv (au J J) J<|AM.qv (aB J J .p0 J) J<|AM.jR J (df J) cR J<|AM.qv (au J J) J<|AM.qv (aB J J .p1 J) J<|AM.qv (au J J) J<|AM.qv (aB J J .p0 J) J<|AM.jR J (fF J) cR J<|AM.bU (xs:=([(cmp_Compare_int aa.At ai.At),(Lib.compareBytes aa.Device ai.Device),(Lib.compareBytes aa.aZ ai.aZ),(cmp_Compare_int aa.Kind ai.Kind)]:List Int).map I) J J J J J J<|aA h fun v3 e1 h=>AM.jR J (nx e1) cR J<|AM.qv (c0 J) J<|AM.nil<|rN<|ae.ret<|?_
 cases h
 exact hP J J
theorem nh [GI:bA] {aa:List Signal} {r:Int} (h:fR aa=some r):Pu Tryz.prog 16 [nw aa] (I r):=by
 unfold fR at h
 refine aG.bw Tryz.func16 J Tryz.ntmps16 Tryz.results16 J J ?_
 refine aI<|rA J J<|rN<|tS<|aI<|rM J J<|ah.qv (ey J) J<|ah.qv (gR J J) J<|rN<|cD h J (fun h=>?_) (fun h=>?_)
 ·refine aI<|rA J J<|rN<|ae.ret<|?_
  cases h
  exact hP J J
 ·refine tK<|tS<|aI<|rM J J<|ah.qv (ey J) J<|rM J J<|rN<|ae.block<|ae.bS (fun x:Int=>cS aa x) (fun x aC=>aC=⟨34,[(0,nw aa),(9,nw aa),(10,I (aa.length:Int)),(11,I x)],[]⟩) h ?_ ?_
  ·exact aj.lq [] J J J
  ·intro n2 z1 aC J1 dL h jF fP
   obtain rfl:=dL
   replace h:cS aa n2=some z1:=h
   unfold cS at h
   refine aI<|ah.qv (bB J J) J<|rN<|tS<|cD h J (fun h=>?_) (fun h=>?_)
   ·refine tK<|tS<|ae.block<|aI<|rM J J<|aA h fun v3 e1 h=>ah.qv (bO J J J e1 J J) J<|ah.qv (bn J J J) J<|bT J J J J fun b4=>rA J J<|aE J J J J .p0 J J<|rN<|tS<|aI<|ah.qv (aL J J .p0 J) J<|aA h fun v5 e2 h=>bc J (wZ e2) cR J<|rA J J<|rN<|aI<|rM J J<|ah.qv (jH J J) J<|rN<|cD h J (fun h=>?_) (fun h=>?_)
    ·refine aI<|rM J J<|rA J J<|rN<|ae.ret<|have h:=bP h fP;?_
     cases h
     exact hP J J
    ·refine tK<|tS<|ae.cut (fun aC=>∃ (c6:Bool),gU n2 c6=some z1∧aC=⟨34,[(0,nw aa),(9,nw aa),(10,I (aa.length:Int)),(11,I n2),(32,.bool c6)],[]⟩) ?_ ?_
     ·refine ae.bV (id:=9) (A:=[0,1,3,7,7,7,39,119,247,511,1023,2047]) 12 mixed J (by kernel_rfl) (by kernel_rfl)<|AM.qv (ax J) J<|AM.qv (gR J J) J<|AM.qv (ax J) J<|AM.bJ J J J (fun hc=>?_) (fun hc=>?_)
      ·exact have h:=rO hc h;AM.qv (aL J J .p0 J) J<|AM.aF J J J<|AM.qv (ax J) J<|AM.aF J J J<|AM.qv (ax J) J<|AM.aF J J J<|AM.qv (bF J J) J<|AM.aF J J J<|aA h fun v7 e3 h=>AM.qv (bO J J J e3 J J) J<|AM.aF J J J<|AM.qv (bn J J J) J<|AM.aF J J J<|aA h fun v8 e4 h=>AM.jR J (zj e4) cR J<|AM.aF J J J<|AM.qv (oW J J) J<|AM.qv (jv J J) J<|AM.nil<|rN<|ae.stop<|aj.lq [] ⟨decide (v8≤(0:Int)),h,J⟩ J J
      ·exact have h:=yU hc h;AM.aJ J J J J<|AM.aJ J J J J<|AM.aJ J J J J<|AM.aJ J J J J<|AM.aJ J J J J<|AM.aJ J J J J<|AM.aJ J J J J<|AM.qv (iX J J) J<|AM.nil<|rN<|ae.stop<|aj.lq [] ⟨false,h,J⟩ J J
     ·rintro aC ⟨c6,h,rfl⟩
      unfold gU at h
      refine cB h J (fun h=>?_) (fun h=>?_)
      ·refine aI<|rA J J<|rN<|ae.ret<|have h:=bP h fP;?_
       cases h
       exact hP J J
      ·refine tK<|ae.cd<|tR<|ah.qv (aV J J) J<|rM J J<|rN<|ae.stop<|?_
       cases h
       exact jF _ _ J<|aj.lq [] J J J
   ·refine ae.exit J<|have h:=bP h fP;aI<|rA J J<|rN<|ae.ret<|?_
    cases h
    exact hP J J
theorem yp [GI:bA] {aa:List Int} {r:Int} (h:sy aa=some r):Pu Tryz.prog 80 [gQ aa] (I r):=by
 unfold sy at h
 refine aG.bw Tryz.func80 J Tryz.ntmps80 Tryz.results80 J J ?_
 refine aI<|rA J J<|rN<|tS<|aI<|rM J J<|ah.qv (ey J) J<|rM J J<|rN<|ae.block<|ae.bS (fun x:Int=>qd aa x) (fun x aC=>aC=⟨15,[(5,gQ aa),(6,I (aa.length:Int)),(7,I x)],[]⟩) h ?_ ?_
 ·exact aj.lq [] J J J
 ·intro n2 z1 aC J1 dL h jF fP
  obtain rfl:=dL
  replace h:qd aa n2=some z1:=h
  unfold qd at h
  refine aI<|ah.qv (bB J J) J<|rN<|tS<|cD h J (fun h=>?_) (fun h=>?_)
  ·refine tK<|tS<|ae.block<|aI<|aA h fun v3 e1 h=>ah.qv (bO J J J e1 J J) J<|ah.qv (aU J J J) J<|rA J J<|rN<|aI<|rM J J<|ah.qv (jH J J) J<|rN<|cD h J (fun h=>?_) (fun h=>?_)
   ·refine aI<|rM J J<|rA J J<|rN<|ae.ret<|have h:=bP h fP;?_
    cases h
    exact hP J J
   ·refine tK<|ae.cd<|tR<|ah.qv (aV J J) J<|rM J J<|rN<|ae.stop<|?_
    cases h
    exact jF _ _ J<|aj.lq [] J J J
  ·refine ae.exit J<|have h:=bP h fP;aI<|rA J J<|rN<|ae.ret<|?_
   cases h
   exact hP J J
theorem Bt [GI:bA] {aa:al} {ai:al} {r:Int} (h:rU aa ai=some r):Pu Tryz.prog 152 [al.av aa,al.av ai] (I r):=by
 unfold rU at h
 refine aG.bw Tryz.func152 J Tryz.ntmps152 Tryz.results152 J J ?_
 refine aI<|dC J J J J fun b1=>dC J J J J fun b2=>rA J J<|rN<|tS<|ae.bV (id:=1) (A:=[0,1,0,4,15,0,32,0,128,511,1023,2047,4095]) 13 mixed J (by kernel_rfl) (by kernel_rfl)<|AM.qv (au J J) J<|AM.qv (aB J J .p1 J) J<|AM.qv (au J J) J<|AM.qv (aB J J .p0 J) J<|AM.jR J (df J) cR J<|AM.qv (au J J) J<|AM.qv (aB J J .p1 J) J<|AM.qv (au J J) J<|AM.qv (aB J J .p0 J) J<|AM.jR J (df J) cR J<|AM.bU (xs:=([(Lib.compareBytes aa.aO ai.aO),(Lib.compareBytes aa.bf ai.bf)]:List Int).map I) J J J J J J<|aA h fun v3 e1 h=>AM.jR J (nx e1) cR J<|AM.qv (c0 J) J<|AM.nil<|rN<|ae.ret<|?_
 cases h
 exact hP J J
theorem w4 [GI:bA] {aa:ar} {ai:ar} {r:Int} (h:iQ aa ai=some r):Pu Tryz.prog 151 [.gg [.str aa.bz.aO,.str aa.bz.bf,I aa.aK,I aa.cr,gQ aa.aQ,I aa.az,IG aa.nH,IG aa.bN,IG aa.bx,gQ aa.cq,gQ aa.bH],.gg [.str ai.bz.aO,.str ai.bz.bf,I ai.aK,I ai.cr,gQ ai.aQ,I ai.az,IG ai.nH,IG ai.bN,IG ai.bx,gQ ai.cq,gQ ai.bH]] (I r):=by
 unfold iQ at h
 refine aG.bw Tryz.func151 J Tryz.ntmps151 Tryz.results151 J J ?_
 refine aI<|rA J J<|rN<|tS<|ae.bV (id:=1) (A:=[0,1,3,7,0,16,48,112,255,511]) 10 mixed J (by kernel_rfl) (by kernel_rfl)<|AM.qv (ax J) J<|AM.qv (bt J) J<|AM.qv (bb J J) J<|AM.qv (tV J J J J) J<|AM.qv (ax J) J<|AM.qv (bt J) J<|AM.qv (bb J J) J<|AM.qv (tV J J J J) J<|aA h fun v1 e1 h=>AM.jR J (Bt e1) cR J<|AM.qv (c0 J) J<|AM.nil<|rN<|ae.ret<|?_
 cases h
 exact hP J J
theorem mw:Hf Tryz.prog 150:=⟨fun enc h1 cf hO g cb cd off cap d w eg hc hH hb hs=>Any.slices_SortFunc_eq Tryz.E8 enc h1 cf hO g cb cd off cap d w eg hc hH hb hs,fun p cap fv w=>AnyF.slices_SortFunc_none {Tryz.E8 with} p cap fv w⟩
theorem zk [GI:bA] {aa:List Signal} {r:bI} (h:mT aa=some r):aG Tryz.prog 91 [nw aa] [] (T6 (fun lV vP vQ yq uI Bu=>[(lV,.cells [.gD vP,.sl 1 vQ 0 r.ew.length]),(vP,.mp (r.sW.map (fun e=>(al.av e.1,(pA uI) e.2)))),(vQ,.arr 1 (r.ew.map (pA uI))),(yq,.cj (ju yk uI Bu r.wQ))]) (fun lV vP vQ yq uI Bu=>.ptr lV 0)):=by
 unfold mT at h
 refine aG.dD ?_
 refine aG.bw Tryz.func91 J Tryz.ntmps91 Tryz.results91 J J ?_
 refine aI<|rA J J<|rN<|aI<|pO J fun b1=>ah.qv (cF J J J J J) J<|dC J J J J fun b2=>ah.ghost<|aj.Hc (kb:=yk) fun b3 bo4 bs5=>aj.here<|rA J J<|rN<|tS<|aI<|rM J J<|ah.qv (ey J) J<|rM J J<|rN<|ae.block<|ae.bS (fun x:(List (al×Int))×(List ar)×(List Int)×Int=>ei aa x.1 x.2.1 x.2.2.1 x.2.2.2) (fun x aC=>∃ (Ff:Nat→Bk) (DK:Nat→Nat→Bk) (tG:Bk),aC=⟨55,[(3,.ptr b2 0),(11,nw aa),(12,I (aa.length:Int)),(13,I x.2.2.2)],[(b2,.cells [.gD b1,.sl 1 tG 0 x.2.2.1.length]),(b1,.mp (x.1.map (fun e=>(al.av e.1,(pA Ff) e.2)))),(b3,.cj (ju yk Ff DK x.2.1)),(tG,.arr 1 (x.2.2.1.map (pA Ff)))]⟩) h ?_ ?_
 ·exact aj.sr (j:=1) 1 (fun _=>.p1) J (fun _=>J) (fun _=>J) fun J9=>aj.lq [2,2,1,0] ⟨bo4,bs5,J9,J⟩ J J
 ·intro x z1 aC J1 dL h jF fP
  obtain ⟨uw,oG,rV,n19⟩:=x
  obtain ⟨Ff,DK,tG,rfl⟩:=dL
  replace h:ei aa uw oG rV n19=some z1:=h
  unfold ei at h
  refine aI<|ah.qv (bB J J) J<|rN<|tS<|cD h J (fun h=>?_) (fun h=>?_)
  ·refine tK<|tS<|ae.cut (fun aC=>∃ (Ka:Nat→Bk) (Gn:Nat→Nat→Bk) (zg:Bk) (Ai:List (al×Int)) (wR:List ar) (pU:List Int),kc n19 Ai wR pU=some z1∧aC=⟨55,[(3,.ptr b2 0),(11,nw aa),(12,I (aa.length:Int)),(13,I n19)],[(b2,.cells [.gD b1,.sl 1 zg 0 pU.length]),(b1,.mp (Ai.map (fun e=>(al.av e.1,(pA Ka) e.2)))),(b3,.cj (ju yk Ka Gn wR)),(zg,.arr 1 (pU.map (pA Ka)))]⟩) ?_ ?_
   ·refine ae.block<|aI<|aA h fun zf e1 h=>ah.qv (bO J J J e1 J J) J<|ah.qv (bn J J J) J<|bT J J J J fun RR=>aE J J J J .p0 J J<|rN<|aI<|rF J J J<|rL J J .p0 J J<|rF J J J<|rL J J .p0 J J<|ah.qv (cF J J J J J) J<|bT J J J J fun Mm=>aE J J J J .p0 J J<|rN<|tS<|ae.bV (id:=6) (A:=[0,1,3,7,0,31,63]) 7 mixed J (by kernel_rfl) (by kernel_rfl)<|AM.qv (ax J) J<|AM.qv (ay J) J<|AM.qv (au J J) J<|AM.qv (aB J J .p2 J) J<|AM.qv (aL J J .p0 J) J<|Of h (fun e2 h=>?_) (fun n30 e2 h=>?_)
    ·exact AM.qv (xw (gk:=al.av) (gv:=(pA Ff)) (M:=uw) (key:=(⟨zf.Device,zf.aZ⟩:al)) J J .p3 J e2) J<|AM.qv (ET J J) J<|AM.nil<|rN<|ae.IN J<|aI<|ah.qv (aL J J .p0 J) J<|ah.qv (cF J J J J J) J<|dC J J J J fun Qx=>rA J J<|rN<|tS<|ae.bV (id:=8) (A:=[0,1,3,7,0,0,63]) 6 mixed J (by kernel_rfl) (by kernel_rfl)<|AM.qv (ax J) J<|AM.qv (ay J) J<|AM.qv (au J J) J<|AM.qv (aB J J .p3 J) J<|AM.qv (aL J J .p1 J) J<|AM.qv (ax J) J<|AM.nil<|ah.ghost<|aj.sr (j:=4) 1 (fun _=>.p0) J (fun _=>J) (fun _=>J) fun Pj=>aj.here<|ah.ghost<|aj.sr (j:=6) 2 (fun _=>.p1) J (fun _=>J) (fun _=>J) fun b33=>aj.here<|ah.ghost<|aj.sr (j:=7) 2 (fun _=>.p2) J (fun _=>J) (fun _=>J) fun Pk=>aj.here<|ah.ghost<|aj.sr (j:=8) 2 (fun _=>.p3) J (fun _=>J) (fun _=>J) fun Pl=>aj.here<|ah.ghost<|aj.sr (j:=9) 1 (fun _=>.p4) J (fun _=>J) (fun _=>J) fun tM=>aj.here<|ah.ghost<|aj.sr (j:=10) 1 (fun _=>.p5) J (fun _=>J) (fun _=>J) fun Mq=>aj.here<|aA h fun u38 e3 h=>ah.ghost<|aj.He (kb:=yk) (v:=(⟨(⟨zf.Device,zf.aZ⟩:al),(0:Int),(0:Int),[],(0:Int),[],[],[],[],[]⟩:ar)) (s:=Rg [Pj,b33,Pk,Pl,tM,Mq]) (.cons .p6 (.cons .p5 (.cons .p4 (.cons .p3 (.cons .p2 (.cons .p1 (.cons .p0 .nil))))))) J (fun _ _=>.p4) fun Gp TE Qy OE=>aj.here<|ah.ghost<|aj.Om (Qk Qy (Qi e3)) .p3<|aj.here<|ah.ghost<|aj.Om (JO Qy (Qj e3)) .p5<|aj.here<|ah.ghost<|aj.eqs (s:=31) (bZ:=.ptr (Gp (oG.length:Int).toNat) 0) J (DC OE _)<|aj.here<|ah.ghost<|aj.eqs (s:=7) (bZ:=.ptr (Gp (oG.length:Int).toNat) 0) J (DC OE _)<|aj.here<|ah.ghost<|aj.eqs (s:=37) (bZ:=.ptr (Gp (oG.length:Int).toNat) 0) J (DC OE _)<|aj.here<|oF (gk:=al.av) (gv:=(pA Gp)) (M:=uw) (key:=(⟨zf.Device,zf.aZ⟩:al)) (v:=(oG.length:Int)) J J J J .p3<|rN<|tR<|rM J J<|rM J J<|ah.qv (ay J) J<|rF J J J<|rL J J .p2 J J<|rM J J<|aY (xs:=([(oG.length:Int)]).map (pA Gp)) J J J J J J<|aA h fun Tk e5 h=>dq (g:=(pA Gp)) J J J J J J J J (.list _) e5 (fun _=>.p5) J fun b42=>ah.qv (ay J) J<|rF J J J<|aE J J J J .p2 J J<|rN<|ae.cd<|ae.stop<|aj.lq [2,2,2,2] ⟨Gp,TE,b42,jh uw (⟨zf.Device,zf.aZ⟩:al) (oG.length:Int),oG++[(⟨(⟨zf.Device,zf.aZ⟩:al),(0:Int),(0:Int),[],(0:Int),[],[],[],[],[]⟩:ar)],Tk,h,J⟩ J J
    ·exact AM.qv (xx (gk:=al.av) (gv:=(pA Ff)) (M:=uw) (key:=(⟨zf.Device,zf.aZ⟩:al)) J J .p3 e2) J<|AM.qv (Ha J J) J<|AM.nil<|rN<|ae.IP J<|tK<|ae.cd<|ae.stop<|aj.lq [2,2,2,2] ⟨Ff,DK,tG,uw,oG,rV,h,J⟩ J J
   ·rintro aC ⟨Ka,Gn,zg,Ai,wR,pU,h,rfl⟩
    unfold kc at h
    refine tR<|ah.qv (aV J J) J<|rM J J<|rN<|ae.stop<|?_
    cases h
    exact jF _ _ J<|aj.lq [0,0,0,0] ⟨Ka,Gn,zg,J⟩ J J
  ·refine ae.exit J<|have h:=bP h fP;?_
   unfold mA at h
   refine aI<|rM J J<|ah.qv (ay J) J<|rF J J J<|rL J J .p0 J J<|aA h fun JS e6 h=>ba J (zJ mw Tv (fun e=>w4 (GI:=nk) e) e6) cR (.cons .p3 (.cons .p2 .nil)) J J<|ah.ghost<|aj.eqs (s:=52) (bZ:=.sl 1 tG 0 JS.length) J (congrArg (AV.sl 1 tG 0) (wC e6))<|aj.here<|ah.ghost<|aj.G3 (j:=1) (bZ:=.sl 1 tG 0 JS.length) .p2 J (congrArg (AV.sl 1 tG 0) (wC e6)) J<|aj.here<|rN<|aI<|rM J J<|rA J J<|rN<|ae.ret<|?_
   cases h
   exact hH J [2,2,0,0] J ⟨b2,b1,tG,b3,Ff,DK,J,J⟩
theorem qK [GI:bA] {aM:Bk} {aa:List ao} {r:Int} (h:gX aa=some r):aG Tryz.prog 249 [.sl 2 aM 0 aa.length] [(aM,iI aa)] (T0 ([(aM,iI aa)]) (.pB 2 aM r.toNat 0)):=by
 unfold gX at h
 refine aG.dD ?_
 refine aG.bw Tryz.func249 J Tryz.ntmps249 Tryz.results249 J J ?_
 refine aI<|rA J J<|rN<|aI<|rM J J<|rM J J<|ah.qv (eR J) J<|ah.qv (bF J J) J<|aA h fun v1 e1 h=>ah.qv (aP J J J e1) J<|rA J J<|rN<|ae.ret<|?_
 cases h
 exact hH J [0] J ⟨J,J⟩
theorem mG [GI:bA] {aM:Bk} {fg:Bk} {fh:Bk} {ga:Bk} {eu:Bk} {fi:Bk} {cC:Bk} {aa:ar} {ai:Int} {aq:Int} {r:ar} (h:gG aa ai aq=some r):aG Tryz.prog 206 [.ptr aM 0,I ai,I aq] [(aM,.cells (Gk aa fg fh ga eu fi cC)),(fg,iH aa.aQ),(fh,iI aa.nH),(ga,iI aa.bN),(eu,iI aa.bx),(fi,iH aa.cq),(cC,iH aa.bH)] (T6 (fun vR vS vT vU vV sJ=>[(aM,.cells (Gk r vR vS vT vU vV sJ)),(vR,iH r.aQ),(vS,iI r.nH),(vT,iI r.bN),(vU,iI r.bx),(vV,iH r.cq),(sJ,iH r.bH)]) (fun vR vS vT vU vV sJ=>.nI [])):=by
 unfold gG at h
 refine aG.dD ?_
 refine aG.bw Tryz.func206 J Tryz.ntmps206 Tryz.results206 J J ?_
 refine aI<|rA J J<|rN<|tS<|ae.cut (fun aC=>∃ (c1:Bool) (c2:Bool),lU aa ai aq c1 c2=some r∧aC=⟨92,[(0,.ptr aM 0),(1,I ai),(2,I aq),(6,.func (.func 249) []),(7,.bool c1),(8,.bool c2)],[(aM,.cells (Gk aa fg fh ga eu fi cC)),(fg,iH aa.aQ),(fh,iI aa.nH),(ga,iI aa.bN),(eu,iI aa.bx),(fi,iH aa.cq),(cC,iH aa.bH)]⟩) ?_ ?_
 ·refine tR<|rM J J<|ah.qv (ay J) J<|rF J J J<|rL J J .p0 J J<|ah.qv (cH J J) J<|rM J J<|ah.fU J J J (fun hc=>?_) (fun hc=>?_)
  ·rw [Ae hc] at h
   refine rM J J<|rY J J J<|ah.qv (ay J) J<|rY J J J<|rF J J J<|rY J J J<|rL J J .p0 J J<|rY J J J<|ah.qv (cH J J) J<|rE J J J<|rM J J<|ah.qv (cH J J) J<|rM J J<|ah.fU J J J (fun hc=>?_) (fun hc=>?_)
   ·rw [Ae hc] at h
    exact rM J J<|rY J J J<|ah.qv (cH J J) J<|rE J J J<|rA J J<|rA J J<|rN<|ae.stop<|aj.lq [0,0,0,0,0,0,0] ⟨decide (aa.aK=(2:Int)),decide (ai=(2:Int)),h,J⟩ J J
   ·rw [Ad hc] at h
    exact rG J J J J<|rT J J J<|rA J J<|rA J J<|rN<|ae.stop<|aj.lq [0,0,0,0,0,0,0] ⟨decide (aa.aK=(2:Int)),true,h,J⟩ J J
  ·rw [Ad hc] at h
   refine rG J J J J<|rG J J J J<|rG J J J J<|rG J J J J<|rT J J J<|rM J J<|ah.qv (cH J J) J<|rM J J<|ah.fU J J J (fun hc=>?_) (fun hc=>?_)
   ·rw [Ae hc] at h
    exact rM J J<|rY J J J<|ah.qv (cH J J) J<|rE J J J<|rA J J<|rA J J<|rN<|ae.stop<|aj.lq [0,0,0,0,0,0,0] ⟨true,decide (ai=(2:Int)),h,J⟩ J J
   ·rw [Ad hc] at h
    exact rG J J J J<|rT J J J<|rA J J<|rA J J<|rN<|ae.stop<|aj.lq [0,0,0,0,0,0,0] ⟨true,true,h,J⟩ J J
 ·rintro aC ⟨c1,c2,h,rfl⟩
  unfold lU at h
  refine tS<|aI<|rM J J<|ah.qv (ay J) J<|rF J J J<|rL J J .p0 J J<|ah.qv (cH J J) J<|rN<|ae.cut (fun aC=>∃ (l3:List ao),hJ aa ai aq c1 c2 l3=some r∧aC=⟨92,[(0,.ptr aM 0),(1,I ai),(2,I aq),(6,.func (.func 249) []),(7,.bool c1),(8,.bool c2)],[(aM,.cells [.str aa.bz.aO,.str aa.bz.bf,I aa.aK,I aa.cr,.sl 1 fg 0 aa.aQ.length,I aa.az,.sl 2 fh 0 aa.nH.length,.sl 2 ga 0 l3.length,.sl 2 eu 0 aa.bx.length,.sl 1 fi 0 aa.cq.length,.sl 1 cC 0 aa.bH.length]),(fg,iH aa.aQ),(fh,iI aa.nH),(ga,iI l3),(eu,iI aa.bx),(fi,iH aa.cq),(cC,iH aa.bH)]⟩) ?_ ?_
  ·refine cD h J (fun h=>?_) (fun h=>?_)
   ·exact tR<|rM J J<|rM J J<|ah.qv (ay J) J<|rF J J J<|rL J J .p0 J J<|aA h fun v4 e1 h=>EH J J J (qK e1) cR (.cons .p3 .nil) J J<|rM J J<|ah.qv (cm J) J<|ah.qv (bR J J) J<|aA h fun v5 e2 h=>br (g:=ao.av) (uB:=(⟨v5.dR,aq⟩:ao)) J J J J e2 J .p0 J<|ah.ghost<|aj.eqs (s:=36) (bZ:=.sl 2 ga 0 (aa.bN.set v4.toNat (⟨v5.dR,aq⟩:ao)).length) J (by rw [List.length_set])<|aj.here<|ah.ghost<|aj.G3 (j:=7) (bZ:=.sl 2 ga 0 (aa.bN.set v4.toNat (⟨v5.dR,aq⟩:ao)).length) .p1 J (by rw [List.length_set]) J<|aj.here<|rN<|ae.stop<|aj.lq [1,1,1,0,0,0,0] ⟨aa.bN.set v4.toNat (⟨v5.dR,aq⟩:ao),h,J⟩ J J
   ·exact tK<|ae.stop<|aj.lq [0,0,0,0,0,0,0] ⟨aa.bN,h,J⟩ J J
  ·rintro aC ⟨l3,h,rfl⟩
   unfold hJ at h
   refine tS<|tS<|ae.cut (fun aC=>∃ (c6:Bool),lT aa ai aq c1 c2 l3 c6=some r∧aC=⟨92,[(0,.ptr aM 0),(1,I ai),(2,I aq),(6,.func (.func 249) []),(7,.bool c1),(8,.bool c2),(45,.bool c6)],[(aM,.cells [.str aa.bz.aO,.str aa.bz.bf,I aa.aK,I aa.cr,.sl 1 fg 0 aa.aQ.length,I aa.az,.sl 2 fh 0 aa.nH.length,.sl 2 ga 0 l3.length,.sl 2 eu 0 aa.bx.length,.sl 1 fi 0 aa.cq.length,.sl 1 cC 0 aa.bH.length]),(fg,iH aa.aQ),(fh,iI aa.nH),(ga,iI l3),(eu,iI aa.bx),(fi,iH aa.cq),(cC,iH aa.bH)]⟩) ?_ ?_
   ·refine tR<|rM J J<|rM J J<|ah.guard J J J (fun hc=>?_) (fun hc=>?_)
    ·rw [Nd hc] at h
     exact rM J J<|rY J J J<|ah.qv (dB J) J<|rT J J J<|rN<|ae.stop<|aj.lq [0,0,0,0,0,0,0] ⟨!c2,h,J⟩ J J
    ·rw [Nf hc] at h
     exact rG J J J J<|rE J J J<|rN<|ae.stop<|aj.lq [0,0,0,0,0,0,0] ⟨false,h,J⟩ J J
   ·rintro aC ⟨c6,h,rfl⟩
    unfold lT at h
    refine ae.cut (fun aC=>∃ (l7:List ao),gZ aa ai aq c1 c2 l3 l7=some r∧aC=⟨92,[(0,.ptr aM 0),(1,I ai),(2,I aq),(7,.bool c1),(8,.bool c2)],[(aM,.cells [.str aa.bz.aO,.str aa.bz.bf,I aa.aK,I aa.cr,.sl 1 fg 0 aa.aQ.length,I aa.az,.sl 2 fh 0 l7.length,.sl 2 ga 0 l3.length,.sl 2 eu 0 aa.bx.length,.sl 1 fi 0 aa.cq.length,.sl 1 cC 0 aa.bH.length]),(fg,iH aa.aQ),(fh,iI l7),(ga,iI l3),(eu,iI aa.bx),(fi,iH aa.cq),(cC,iH aa.bH)]⟩) ?_ ?_
    ·refine cB h J (fun h=>?_) (fun h=>?_)
     ·exact tR<|rM J J<|rM J J<|ah.qv (ay J) J<|rF J J J<|rL J J .p0 J J<|aA h fun v8 e3 h=>EH J J J (qK e3) cR (.cons .p2 .nil) J J<|rM J J<|ah.qv (cm J) J<|ah.qv (bR J J) J<|aA h fun v9 e4 h=>br (g:=ao.av) (uB:=(⟨v9.dR,aq⟩:ao)) J J J J e4 J .p0 J<|ah.ghost<|aj.eqs (s:=50) (bZ:=.sl 2 fh 0 (aa.nH.set v8.toNat (⟨v9.dR,aq⟩:ao)).length) J (by rw [List.length_set])<|aj.here<|ah.ghost<|aj.G3 (j:=6) (bZ:=.sl 2 fh 0 (aa.nH.set v8.toNat (⟨v9.dR,aq⟩:ao)).length) .p1 J (by rw [List.length_set]) J<|aj.here<|rN<|ae.stop<|aj.lq [1,1,0,0,0,0,0] ⟨aa.nH.set v8.toNat (⟨v9.dR,aq⟩:ao),h,J⟩ J J
     ·exact tK<|ae.stop<|aj.lq [0,0,0,0,0,0,0] ⟨aa.nH,h,J⟩ J J
    ·rintro aC ⟨l7,h,rfl⟩
     unfold gZ at h
     refine tS<|aI<|rM J J<|ah.qv (cH J J) J<|rN<|ae.cut (fun aC=>∃ (pz:Bk) (iY:List ao),gY aa ai aq c1 c2 l7 iY=some r∧aC=⟨92,[(0,.ptr aM 0),(1,I ai),(2,I aq),(7,.bool c1),(8,.bool c2)],[(aM,.cells [.str aa.bz.aO,.str aa.bz.bf,I aa.aK,I aa.cr,.sl 1 fg 0 aa.aQ.length,I aa.az,.sl 2 fh 0 l7.length,.sl 2 pz 0 iY.length,.sl 2 eu 0 aa.bx.length,.sl 1 fi 0 aa.cq.length,.sl 1 cC 0 aa.bH.length]),(fg,iH aa.aQ),(fh,iI l7),(pz,iI iY),(eu,iI aa.bx),(fi,iH aa.cq),(cC,iH aa.bH)]⟩) ?_ ?_
     ·refine cD h J (fun h=>?_) (fun h=>?_)
      ·exact tR<|rM J J<|rM J J<|ah.qv (ay J) J<|rF J J J<|rL J J .p0 J J<|rM J J<|ah.qv (cF J J J J J) J<|aY (xs:=([(⟨aq,(345686400000:Int)⟩:ao)]).map ao.av) J J J J J J<|aA h fun ly e5 h=>dq (g:=ao.av) J J J J J J J J (.list _) e5 (fun _=>.p3) J fun Cc=>ah.qv (ay J) J<|rF J J J<|aE J J J J .p0 J J<|rN<|ae.stop<|aj.lq [0,0,0,0,0,0,0] ⟨Cc,ly,h,J⟩ J J
      ·exact tK<|ae.stop<|aj.lq [0,0,0,0,0,0,0] ⟨ga,l3,h,J⟩ J J
     ·rintro aC ⟨pz,iY,h,rfl⟩
      unfold gY at h
      refine tS<|tS<|ae.cut (fun aC=>∃ (Qp:Bool),lS aa ai aq l7 iY Qp=some r∧aC=⟨92,[(0,.ptr aM 0),(1,I ai),(2,I aq),(72,.bool Qp)],[(aM,.cells [.str aa.bz.aO,.str aa.bz.bf,I aa.aK,I aa.cr,.sl 1 fg 0 aa.aQ.length,I aa.az,.sl 2 fh 0 l7.length,.sl 2 pz 0 iY.length,.sl 2 eu 0 aa.bx.length,.sl 1 fi 0 aa.cq.length,.sl 1 cC 0 aa.bH.length]),(fg,iH aa.aQ),(fh,iI l7),(pz,iI iY),(eu,iI aa.bx),(fi,iH aa.cq),(cC,iH aa.bH)]⟩) ?_ ?_
      ·refine tR<|rM J J<|rM J J<|ah.guard J J J (fun hc=>?_) (fun hc=>?_)
       ·rw [Nd hc] at h
        exact rM J J<|rY J J J<|ah.qv (dB J) J<|rT J J J<|rN<|ae.stop<|aj.lq [0,0,0,0,0,0,0] ⟨!c1,h,J⟩ J J
       ·rw [Nf hc] at h
        exact rG J J J J<|rE J J J<|rN<|ae.stop<|aj.lq [0,0,0,0,0,0,0] ⟨false,h,J⟩ J J
      ·rintro aC ⟨Qp,h,rfl⟩
       unfold lS at h
       refine ae.cut (fun aC=>∃ (Mp:Bk) (sX:List ao),jz aa ai aq iY sX=some r∧aC=⟨92,[(0,.ptr aM 0),(1,I ai),(2,I aq)],[(aM,.cells [.str aa.bz.aO,.str aa.bz.bf,I aa.aK,I aa.cr,.sl 1 fg 0 aa.aQ.length,I aa.az,.sl 2 Mp 0 sX.length,.sl 2 pz 0 iY.length,.sl 2 eu 0 aa.bx.length,.sl 1 fi 0 aa.cq.length,.sl 1 cC 0 aa.bH.length]),(fg,iH aa.aQ),(Mp,iI sX),(pz,iI iY),(eu,iI aa.bx),(fi,iH aa.cq),(cC,iH aa.bH)]⟩) ?_ ?_
       ·refine cB h J (fun h=>?_) (fun h=>?_)
        ·exact tR<|rM J J<|rM J J<|ah.qv (ay J) J<|rF J J J<|rL J J .p0 J J<|rM J J<|ah.qv (cF J J J J J) J<|aY (xs:=([(⟨aq,(345686400000:Int)⟩:ao)]).map ao.av) J J J J J J<|aA h fun Bm e6 h=>dq (g:=ao.av) J J J J J J J J (.list _) e6 (fun _=>.p2) J fun sS=>ah.qv (ay J) J<|rF J J J<|aE J J J J .p0 J J<|rN<|ae.stop<|aj.lq [0,0,0,0,0,0,0] ⟨sS,Bm,h,J⟩ J J
        ·exact tK<|ae.stop<|aj.lq [0,0,0,0,0,0,0] ⟨fh,l7,h,J⟩ J J
       ·rintro aC ⟨Mp,sX,h,rfl⟩
        unfold jz at h
        refine tR<|rM J J<|rM J J<|rM J J<|rM J J<|ah.qv (ay J) J<|rF J J J<|aE J J J J .p0 J J<|ah.qv (ay J) J<|rF J J J<|aE J J J J .p0 J J<|rN<|ae.nil<|?_
        cases h
        exact aj.here ⟨_,.nil,_,.cons .p0 (.cons .p0 (.cons .p0 (.cons .p0 (.cons .p0 (.cons .p0 (.cons .p0 .nil)))))),⟨fg,Mp,pz,eu,fi,cC,J,J⟩⟩
theorem xD [GI:bA] {aM:Bk} {fg:Bk} {fh:Bk} {ga:Bk} {eu:Bk} {fi:Bk} {cC:Bk} {aa:ar} {ai:Signal} {r:Int×ar} (h:kY aa ai=some r):aG Tryz.prog 207 [.ptr aM 0,Signal.av ai] [(aM,.cells (Gk aa fg fh ga eu fi cC)),(fg,iH aa.aQ),(fh,iI aa.nH),(ga,iI aa.bN),(eu,iI aa.bx),(fi,iH aa.cq),(cC,iH aa.bH)] (T6 (fun vR vS vT vU vV sJ=>[(aM,.cells (Gk r.2 vR vS vT vU vV sJ)),(vR,iH r.2.aQ),(vS,iI r.2.nH),(vT,iI r.2.bN),(vU,iI r.2.bx),(vV,iH r.2.cq),(sJ,iH r.2.bH)]) (fun vR vS vT vU vV sJ=>I r.1)):=by
 unfold kY at h
 refine aG.dD ?_
 refine aG.bw Tryz.func207 J Tryz.ntmps207 Tryz.results207 J J ?_
 refine aI<|dC J J J J fun b1=>rA J J<|rN<|aI<|rF J J J<|rL J J .p0 J J<|ah.qv (cH J J) J<|rA J J<|rN<|tS<|ae.block<|tS<|ae.cut (fun aC=>∃ (c2:Bool),jd aa ai c2=some r∧aC=⟨95,[(0,.ptr aM 0),(3,.ptr b1 0),(5,.bool (decide (ai.Kind=(2:Int)))),(9,.bool c2)],[(aM,.cells (Gk aa fg fh ga eu fi cC)),(fg,iH aa.aQ),(fh,iI aa.nH),(ga,iI aa.bN),(eu,iI aa.bx),(fi,iH aa.cq),(cC,iH aa.bH),(b1,.cells (wU ai))]⟩) ?_ ?_
 ·refine tR<|rM J J<|rM J J<|ah.bJ J J J (fun hc=>?_) (fun hc=>?_)
  ·rw [lB hc] at h
   exact rM J J<|rY J J J<|ah.qv (ay J) J<|rY J J J<|rF J J J<|rY J J J<|rL J J .p1 J J<|rY J J J<|ah.qv (cH J J) J<|rT J J J<|rA J J<|rN<|ae.stop<|aj.lq [1,1,1,1,1,1,1,0] ⟨decide (aa.aK=(1:Int)),h,J⟩ J J
  ·rw [lC hc] at h
   exact rG J J J J<|rG J J J J<|rG J J J J<|rG J J J J<|rE J J J<|rA J J<|rN<|ae.stop<|aj.lq [1,1,1,1,1,1,1,0] ⟨false,h,J⟩ J J
 ·rintro aC ⟨c2,h,rfl⟩
  unfold jd at h
  refine ae.cut (fun aC=>∃ (b7:Bk) (pz:Bk) (wX:Bk) (ux:Bk) (CV:Bk) (sS:Bk) (q3:aS) (q4:aS) (n5:Int) (n6:Int) (l8:List Int) (n9:Int) (iY:List ao) (uw:List ao) (oh:List ao) (Bm:List Int) (sv:List Int),dO ai q3 q4 n5 n6 l8 n9 iY uw oh Bm sv=some r∧aC=⟨95,[(0,.ptr aM 0),(3,.ptr b1 0),(5,.bool (decide (ai.Kind=(2:Int))))],[(aM,.cells [.str q3,.str q4,I n5,I n6,.sl 1 b7 0 l8.length,I n9,.sl 2 pz 0 iY.length,.sl 2 wX 0 uw.length,.sl 2 ux 0 oh.length,.sl 1 CV 0 Bm.length,.sl 1 sS 0 sv.length]),(b7,iH l8),(pz,iI iY),(wX,iI uw),(ux,iI oh),(CV,iH Bm),(sS,iH sv),(b1,.cells (wU ai))]⟩) ?_ ?_
  ·refine cB h J (fun h=>?_) (fun h=>?_)
   ·exact tR<|rM J J<|rF J J J<|rL J J .p7 J J<|aA h fun v20 e1 h=>rQ J (mG e1) cR (.cons .p0 (.cons .p0 (.cons .p0 (.cons .p0 (.cons .p0 (.cons .p0 (.cons .p0 .nil))))))) (fun _ _ _ _ _ _=>J) J fun Bp Eg Qz BX zg b26=>rN<|ae.stop<|aj.lq [0,0,0,0,0,0,0,0] ⟨Bp,Eg,Qz,BX,zg,b26,v20.bz.aO,v20.bz.bf,v20.aK,v20.cr,v20.aQ,v20.az,v20.nH,v20.bN,v20.bx,v20.cq,v20.bH,h,J⟩ J J
   ·refine tS<|tS<|ae.cut (fun aC=>∃ (Oz:Bool),jc aa ai Oz=some r∧aC=⟨95,[(0,.ptr aM 0),(3,.ptr b1 0),(5,.bool (decide (ai.Kind=(2:Int)))),(22,.bool Oz)],[(aM,.cells (Gk aa fg fh ga eu fi cC)),(fg,iH aa.aQ),(fh,iI aa.nH),(ga,iI aa.bN),(eu,iI aa.bx),(fi,iH aa.cq),(cC,iH aa.bH),(b1,.cells (wU ai))]⟩) ?_ ?_
    ·refine tR<|rM J J<|rM J J<|ah.bJ J J J (fun hc=>?_) (fun hc=>?_)
     ·rw [lB hc] at h
      exact rM J J<|rY J J J<|ah.qv (ay J) J<|rY J J J<|rF J J J<|rY J J J<|rL J J .p0 J J<|rY J J J<|ah.qv (cH J J) J<|rT J J J<|rA J J<|rN<|ae.stop<|aj.lq [0,0,0,0,0,0,0,0] ⟨decide (aa.aK=(2:Int)),h,J⟩ J J
     ·rw [lC hc] at h
      exact rG J J J J<|rG J J J J<|rG J J J J<|rG J J J J<|rE J J J<|rA J J<|rN<|ae.stop<|aj.lq [0,0,0,0,0,0,0,0] ⟨false,h,J⟩ J J
    ·rintro aC ⟨Oz,h,rfl⟩
     unfold jc at h
     refine ae.cut (fun aC=>∃ (Qr:Bool),fm aa ai Qr=some r∧aC=⟨95,[(0,.ptr aM 0),(3,.ptr b1 0),(5,.bool (decide (ai.Kind=(2:Int)))),(22,.bool Qr)],[(aM,.cells (Gk aa fg fh ga eu fi cC)),(fg,iH aa.aQ),(fh,iI aa.nH),(ga,iI aa.bN),(eu,iI aa.bx),(fi,iH aa.cq),(cC,iH aa.bH),(b1,.cells (wU ai))]⟩) ?_ ?_
     ·refine cB h J (fun h=>?_) (fun h=>?_)
      ·exact tK<|ae.stop<|aj.lq [0,0,0,0,0,0,0,0] ⟨Oz,h,J⟩ J J
      ·refine ae.cut (fun aC=>∃ (Pf:Bool),jb aa ai Pf=some r∧aC=⟨95,[(0,.ptr aM 0),(3,.ptr b1 0),(5,.bool (decide (ai.Kind=(2:Int)))),(22,.bool Pf)],[(aM,.cells (Gk aa fg fh ga eu fi cC)),(fg,iH aa.aQ),(fh,iI aa.nH),(ga,iI aa.bN),(eu,iI aa.bx),(fi,iH aa.cq),(cC,iH aa.bH),(b1,.cells (wU ai))]⟩) ?_ ?_
       ·refine tR<|rM J J<|ah.qv (lM J) J<|rM J J<|ah.bJ J J J (fun hc=>?_) (fun hc=>?_)
        ·rw [lB hc] at h
         exact rM J J<|rY J J J<|ah.qv (ay J) J<|rY J J J<|rF J J J<|rY J J J<|rL J J .p0 J J<|rY J J J<|ah.qv (cH J J) J<|rT J J J<|rA J J<|rN<|ae.stop<|aj.lq [0,0,0,0,0,0,0,0] ⟨decide (aa.aK=(3:Int)),h,J⟩ J J
        ·rw [lC hc] at h
         exact rG J J J J<|rG J J J J<|rG J J J J<|rG J J J J<|rE J J J<|rA J J<|rN<|ae.stop<|aj.lq [0,0,0,0,0,0,0,0] ⟨false,h,J⟩ J J
       ·rintro aC ⟨Pf,h,rfl⟩
        unfold jb at h
        exact ae.stop<|aj.lq [0,0,0,0,0,0,0,0] ⟨Pf,h,J⟩ J J
     ·rintro aC ⟨Qr,h,rfl⟩
      unfold fm at h
      refine ae.cut (fun aC=>∃ (Pk:Bk) (Mq:Bk) (OD:Bk) (IH:Bk) (RS:Bk) (Pm:Bk) (Pd:aS) (Pe:aS) (n32:Int) (n33:Int) (zd:List Int) (n36:Int) (Ox:List ao) (xQ:List ao) (Oy:List ao) (Bl:List Int) (Hg:List Int),fl ai Pd Pe n32 n33 zd n36 Ox xQ Oy Bl Hg=some r∧aC=⟨95,[(0,.ptr aM 0),(3,.ptr b1 0),(5,.bool (decide (ai.Kind=(2:Int))))],[(aM,.cells [.str Pd,.str Pe,I n32,I n33,.sl 1 Pk 0 zd.length,I n36,.sl 2 Mq 0 Ox.length,.sl 2 OD 0 xQ.length,.sl 2 IH 0 Oy.length,.sl 1 RS 0 Bl.length,.sl 1 Pm 0 Hg.length]),(Pk,iH zd),(Mq,iI Ox),(OD,iI xQ),(IH,iI Oy),(RS,iH Bl),(Pm,iH Hg),(b1,.cells (wU ai))]⟩) ?_ ?_
      ·refine cB h J (fun h=>?_) (fun h=>?_)
       ·exact tR<|rM J J<|rF J J J<|rL J J .p7 J J<|aA h fun kX e2 h=>rQ J (mG e2) cR (.cons .p0 (.cons .p0 (.cons .p0 (.cons .p0 (.cons .p0 (.cons .p0 (.cons .p0 .nil))))))) (fun _ _ _ _ _ _=>J) J fun b48 TF b50 Nr b52 b53=>rN<|ae.stop<|aj.lq [0,0,0,0,0,0,0,0] ⟨b48,TF,b50,Nr,b52,b53,kX.bz.aO,kX.bz.bf,kX.aK,kX.cr,kX.aQ,kX.az,kX.nH,kX.bN,kX.bx,kX.cq,kX.bH,h,J⟩ J J
       ·refine tS<|ae.cut (fun aC=>∃ (Qq:Bool),ja aa ai Qq=some r∧aC=⟨95,[(0,.ptr aM 0),(3,.ptr b1 0),(5,.bool (decide (ai.Kind=(2:Int)))),(44,.bool Qq)],[(aM,.cells (Gk aa fg fh ga eu fi cC)),(fg,iH aa.aQ),(fh,iI aa.nH),(ga,iI aa.bN),(eu,iI aa.bx),(fi,iH aa.cq),(cC,iH aa.bH),(b1,.cells (wU ai))]⟩) ?_ ?_
        ·refine tR<|rM J J<|ah.qv (lM J) J<|rM J J<|ah.bJ J J J (fun hc=>?_) (fun hc=>?_)
         ·rw [lB hc] at h
          exact rM J J<|rY J J J<|ah.qv (ay J) J<|rY J J J<|rF J J J<|rY J J J<|rL J J .p0 J J<|rY J J J<|ah.qv (cH J J) J<|rT J J J<|rA J J<|rN<|ae.stop<|aj.lq [0,0,0,0,0,0,0,0] ⟨decide (aa.aK=(1:Int)),h,J⟩ J J
         ·rw [lC hc] at h
          exact rG J J J J<|rG J J J J<|rG J J J J<|rG J J J J<|rE J J J<|rA J J<|rN<|ae.stop<|aj.lq [0,0,0,0,0,0,0,0] ⟨false,h,J⟩ J J
        ·rintro aC ⟨Qq,h,rfl⟩
         unfold ja at h
         refine cB h J (fun h=>?_) (fun h=>?_)
         ·exact tR<|rM J J<|rF J J J<|rL J J .p7 J J<|aA h fun v55 e3 h=>rQ J (mG e3) cR (.cons .p0 (.cons .p0 (.cons .p0 (.cons .p0 (.cons .p0 (.cons .p0 (.cons .p0 .nil))))))) (fun _ _ _ _ _ _=>J) J fun b56 b57 b58 b59 b60 b61=>rN<|ae.stop<|aj.lq [0,0,0,0,0,0,0,0] ⟨b56,b57,b58,b59,b60,b61,v55.bz.aO,v55.bz.bf,v55.aK,v55.cr,v55.aQ,v55.az,v55.nH,v55.bN,v55.bx,v55.cq,v55.bH,h,J⟩ J J
         ·refine aI<|rA J J<|rN<|ae.ret<|?_
          cases h
          exact hH J [0,0,0,0,0,0,0] J ⟨fg,fh,ga,eu,fi,cC,J,J⟩
      ·rintro aC ⟨Pk,Mq,OD,IH,RS,Pm,Pd,Pe,n32,n33,zd,n36,Ox,xQ,Oy,Bl,Hg,h,rfl⟩
       unfold fl at h
       exact ae.stop<|aj.lq [0,0,0,0,0,0,0,0] ⟨Pk,Mq,OD,IH,RS,Pm,Pd,Pe,n32,n33,zd,n36,Ox,xQ,Oy,Bl,Hg,h,J⟩ J J
  ·rintro aC ⟨b7,pz,wX,ux,CV,sS,q3,q4,n5,n6,l8,n9,iY,uw,oh,Bm,sv,h,rfl⟩
   unfold dO at h
   refine ae.cd<|tS<|aI<|rM J J<|ah.qv (lM J) J<|rN<|ae.cut (fun aC=>∃ (RU:Bk) (RW:Bk) (Pb:List Int) (Pc:List Int),dN q3 q4 n5 n6 l8 n9 iY uw oh Pb Pc=some r∧aC=⟨95,[],[(aM,.cells [.str q3,.str q4,I n5,I n6,.sl 1 b7 0 l8.length,I n9,.sl 2 pz 0 iY.length,.sl 2 wX 0 uw.length,.sl 2 ux 0 oh.length,.sl 1 RU 0 Pb.length,.sl 1 RW 0 Pc.length]),(b7,iH l8),(pz,iI iY),(wX,iI uw),(ux,iI oh),(RU,iH Pb),(RW,iH Pc)]⟩) ?_ ?_
   ·refine cD h J (fun h=>?_) (fun h=>?_)
    ·refine tS<|aA h fun Mf e4 h=>ae.fK (id:=11) (A:=[0,0,2,6,14,0,32,96,254,511,1023,2047]) (H0:=[(CV,iH Bm)]) (HH:=fun β=>[((β 8),iH Mf),(aM,.cells [.str q3,.str q4,I n5,I n6,.sl 1 b7 0 l8.length,I n9,.sl 2 pz 0 iY.length,.sl 2 wX 0 uw.length,.sl 2 ux 0 oh.length,.sl 1 CV 0 Bm.length,.sl 1 sS 0 sv.length]),(b7,iH l8),(pz,iI iY),(wX,iI uw),(ux,iI oh),(sS,iH sv),(b1,.cells (wU ai))]) 9 mixed J (by kernel_rfl) (by kernel_rfl) [⟨none,some 8,[],fun _=>(CV,iH Bm),none,[]⟩,⟨some 8,none,[],fun b=>(b,iH Mf),none,[]⟩] [8] J (by kernel_rfl) J (.cons .p5 .nil) (fun _=>J)<|AT.am 8 J J<|AM.qv (ax J) J<|AM.qv (ax J) J<|AM.qv (ay J) J<|AM.qv (au J J) J<|AM.qv (aB J J .p0 J) J<|AM.qv (au J J) J<|AM.qv (aB J J .p6 J) J<|AM.bU (xs:=([ai.At]:List Int).map I) J J J J J J<|AM.nil<|AT.B7 (V:=fun b=>.sl 1 b 0 Mf.length) (Ti:=[(CV,iH Bm)]) (Pi:=fun b=>[(b,iH Mf)]) (fun _=>J) (fun _=>J) (fun _ _=>J) J (fun _=>J) J J J ?_ ?_
     ·exact dq (g:=I) J J J J J J J J (.list _) e4 (fun _=>.p0) J fun QA=>ah.nil ⟨QA,_,J,J⟩
     refine AT.qS (fun _=>J) fun β=>?_
     generalize β 8=QA
     clear β
     refine ah.qv (ay J) J<|rF J J J<|aE J J J J .p1 J J<|rN<|aA h fun Tl e5 h=>aA h fun Ow e6 h=>ae.fK (id:=12) (A:=[0,0,2,6,14,0,32,0,128,384,896,0,2048,6144,14336,30720,63488,130944,262016,524256,1048544,2097150,4194303,8388607,16777215]) (H0:=[(sS,iH sv)]) (HH:=fun β=>[((β 21),iH Ow),(QA,iH Mf),(aM,.cells [.str q3,.str q4,I n5,I n6,.sl 1 b7 0 l8.length,I n9,.sl 2 pz 0 iY.length,.sl 2 wX 0 uw.length,.sl 2 ux 0 oh.length,.sl 1 QA 0 Mf.length,.sl 1 sS 0 sv.length]),(b7,iH l8),(pz,iI iY),(wX,iI uw),(ux,iI oh),(b1,.cells (wU ai))]) 22 mixed J (by kernel_rfl) (by kernel_rfl) [⟨none,some 21,[],fun _=>(sS,iH sv),none,[]⟩,⟨some 21,none,[],fun b=>(b,iH Ow),none,[]⟩] [21] J (by kernel_rfl) J (.cons .p6 .nil) (fun _=>J)<|AT.am 21 J J<|AM.qv (ax J) J<|AM.qv (ax J) J<|AM.qv (ay J) J<|AM.qv (au J J) J<|AM.qv (aB J J .p1 J) J<|AM.qv (au J J) J<|AM.qv (aB J J .p6 J) J<|AM.qv (ax J) J<|AM.qv (ay J) J<|AM.qv (au J J) J<|AM.qv (aB J J .p1 J) J<|AM.qv (ax J) J<|AM.qv (ay J) J<|AM.qv (au J J) J<|AM.qv (aB J J .p1 J) J<|AM.qv (eR J) J<|AM.qv (bF J J) J<|AM.qv (aP J J J e5) J<|AM.qv (eS (g:=I) J J (.inl .p2) e5 J) J<|AM.qv (bF J J) J<|AM.bU (xs:=([aN (ai.At - Tl)]:List Int).map I) J J J J J J<|AM.nil<|AT.B7 (V:=fun b=>.sl 1 b 0 Ow.length) (Ti:=[(sS,iH sv)]) (Pi:=fun b=>[(b,iH Ow)]) (fun _=>J) (fun _=>J) (fun _ _=>J) J (fun _=>J) J J J ?_ ?_
     ·exact dq (g:=I) J J J J J J J J (.list _) e6 (fun _=>.p0) J fun TG=>ah.nil ⟨TG,_,J,J⟩
     refine AT.qS (fun _=>J) fun β=>?_
     generalize β 21=TG
     clear β
     exact ah.qv (ay J) J<|rF J J J<|aE J J J J .p2 J J<|rN<|ae.stop<|aj.lq [2,2,2,2,2,1,0] ⟨QA,TG,Mf,Ow,h,J⟩ J J
    ·exact tK<|ae.stop<|aj.lq [0,0,0,0,0,0,0] ⟨CV,sS,Bm,sv,h,J⟩ J J
   ·rintro aC ⟨RU,RW,Pb,Pc,h,rfl⟩
    unfold dN at h
    refine aI<|rA J J<|rN<|ae.ret<|?_
    cases h
    exact hH J [0,0,0,0,0,0,0] J ⟨b7,pz,wX,ux,RU,RW,J,J⟩
theorem w5 [GI:bA] {aM:Bk} {fg:Bk} {fh:Bk} {ga:Bk} {eu:Bk} {fi:Bk} {cC:Bk} {aa:ar} {ai:Signal} {r:Int×ar} (h:kf aa ai=some r):aG Tryz.prog 153 [.ptr aM 0,Signal.av ai] [(aM,.cells (Gk aa fg fh ga eu fi cC)),(fg,iH aa.aQ),(fh,iI aa.nH),(ga,iI aa.bN),(eu,iI aa.bx),(fi,iH aa.cq),(cC,iH aa.bH)] (T6 (fun vR vS vT vU vV sJ=>[(aM,.cells (Gk r.2 vR vS vT vU vV sJ)),(vR,iH r.2.aQ),(vS,iI r.2.nH),(vT,iI r.2.bN),(vU,iI r.2.bx),(vV,iH r.2.cq),(sJ,iH r.2.bH)]) (fun vR vS vT vU vV sJ=>I r.1)):=by
 unfold kf at h
 refine aG.dD ?_
 refine aG.bw Tryz.func153 J Tryz.ntmps153 Tryz.results153 J J ?_
 refine aI<|dC J J J J fun b1=>rA J J<|rN<|tS<|aI<|rF J J J<|rL J J .p0 J J<|rN<|ae.block<|aI<|ah.qv (cH J J) J<|rA J J<|rN<|cD h J (fun h=>?_) (fun h=>?_)
 ·refine tS<|tS<|ae.cut (fun aC=>∃ (c2:Bool),ke aa ai c2=some r∧aC=⟨96,[(0,.ptr aM 0),(3,.ptr b1 0),(20,.bool c2)],[(aM,.cells (Gk aa fg fh ga eu fi cC)),(fg,iH aa.aQ),(fh,iI aa.nH),(ga,iI aa.bN),(eu,iI aa.bx),(fi,iH aa.cq),(cC,iH aa.bH),(b1,.cells (wU ai))]⟩) ?_ ?_
  ·refine tR<|rM J J<|ah.qv (ay J) J<|rF J J J<|rL J J .p1 J J<|ah.qv (cH J J) J<|rM J J<|ah.fU J J J (fun hc=>?_) (fun hc=>?_)
   ·rw [Ae hc] at h
    exact rM J J<|rY J J J<|ah.qv (ay J) J<|rY J J J<|rF J J J<|rY J J J<|rL J J .p1 J J<|rY J J J<|ah.qv (cH J J) J<|rE J J J<|rN<|ae.stop<|aj.lq [1,1,1,1,1,1,1,0] ⟨decide (aa.aK=(2:Int)),h,J⟩ J J
   ·rw [Ad hc] at h
    exact rG J J J J<|rG J J J J<|rG J J J J<|rG J J J J<|rT J J J<|rN<|ae.stop<|aj.lq [1,1,1,1,1,1,1,0] ⟨true,h,J⟩ J J
  ·rintro aC ⟨c2,h,rfl⟩
   unfold ke at h
   refine cB h J (fun h=>?_) (fun h=>?_)
   ·refine aI<|rA J J<|rN<|ae.ret<|?_
    cases h
    exact hH J [0,0,0,0,0,0,0] J ⟨fg,fh,ga,eu,fi,cC,J,J⟩
   ·refine tK<|aI<|rM J J<|rF J J J<|rL J J .p7 J J<|aA h fun v3 e1 h=>rQ J (mG e1) cR (.cons .p0 (.cons .p0 (.cons .p0 (.cons .p0 (.cons .p0 (.cons .p0 (.cons .p0 .nil))))))) (fun _ _ _ _ _ _=>J) J fun b4 b5 b6 b7 b8 b9=>rN<|tS<|aA h fun l10 e2 h=>ae.fK (id:=6) (A:=[0,0,2,6,14,0,32,96,254,511,1023,2047]) (H0:=[(b4,iH v3.aQ)]) (HH:=fun β=>[((β 8),iH l10),(aM,.cells (Gk v3 b4 b5 b6 b7 b8 b9)),(b5,iI v3.nH),(b6,iI v3.bN),(b7,iI v3.bx),(b8,iH v3.cq),(b9,iH v3.bH),(b1,.cells (wU ai))]) 9 mixed J (by kernel_rfl) (by kernel_rfl) [⟨none,some 8,[],fun _=>(b4,iH v3.aQ),none,[]⟩,⟨some 8,none,[],fun b=>(b,iH l10),none,[]⟩] [8] J (by kernel_rfl) J (.cons .p1 .nil) (fun _=>J)<|AT.am 8 J J<|AM.qv (ax J) J<|AM.qv (ax J) J<|AM.qv (ay J) J<|AM.qv (au J J) J<|AM.qv (aB J J .p0 J) J<|AM.qv (au J J) J<|AM.qv (aB J J .p6 J) J<|AM.bU (xs:=([ai.At]:List Int).map I) J J J J J J<|AM.nil<|AT.B7 (V:=fun b=>.sl 1 b 0 l10.length) (Ti:=[(b4,iH v3.aQ)]) (Pi:=fun b=>[(b,iH l10)]) (fun _=>J) (fun _=>J) (fun _ _=>J) J (fun _=>J) J J J ?_ ?_
    ·exact dq (g:=I) J J J J J J J J (.list _) e2 (fun _=>.p0) J fun BY=>ah.nil ⟨BY,_,J,J⟩
    refine AT.qS (fun _=>J) fun β=>?_
    generalize β 8=BY
    clear β
    refine ah.qv (ay J) J<|rF J J J<|aE J J J J .p1 J J<|rN<|aI<|rA J J<|rN<|ae.ret<|?_
    cases h
    exact hH J [1,0,0,0,0,0,0] J ⟨BY,b5,b6,b7,b8,b9,J,J⟩
 ·refine tS<|aI<|ah.qv (cH J J) J<|rA J J<|rN<|ae.cut (fun aC=>∃ (JT:Bool),fZ aa ai JT=some r∧aC=⟨96,[(0,.ptr aM 0),(3,.ptr b1 0),(6,I ai.Kind),(36,.bool JT)],[(aM,.cells (Gk aa fg fh ga eu fi cC)),(fg,iH aa.aQ),(fh,iI aa.nH),(ga,iI aa.bN),(eu,iI aa.bx),(fi,iH aa.cq),(cC,iH aa.bH),(b1,.cells (wU ai))]⟩) ?_ ?_
  ·refine cD h J (fun h=>?_) (fun h=>?_)
   ·exact tK<|ae.stop<|aj.lq [1,1,1,1,1,1,1,0] ⟨decide (ai.Kind=(2:Int)),h,J⟩ J J
   ·exact tR<|ah.qv (cH J J) J<|rA J J<|rN<|ae.stop<|aj.lq [1,1,1,1,1,1,1,0] ⟨decide (ai.Kind=(3:Int)),h,J⟩ J J
  ·rintro aC ⟨JT,h,rfl⟩
   unfold fZ at h
   refine cB h J (fun h=>?_) (fun h=>?_)
   ·refine aI<|rM J J<|ah.qv (aL J J .p7 J) J<|aA h fun gb e3 h=>rQ J (xD e3) cR (.cons .p0 (.cons .p0 (.cons .p0 (.cons .p0 (.cons .p0 (.cons .p0 (.cons .p0 .nil))))))) (fun _ _ _ _ _ _=>J) J fun ux Mp CV tG sS Fg=>rA J J<|rN<|ae.ret<|?_
    cases h
    exact hH J [0,0,0,0,0,0,0] J ⟨ux,Mp,CV,tG,sS,Fg,J,J⟩
   ·refine aI<|ah.qv (cH J J) J<|rA J J<|rN<|cD h J (fun h=>?_) (fun h=>?_)
    ·refine tS<|tS<|ae.bV (id:=12) (A:=[0,1,3,7,0,16,63]) 7 mixed J (by kernel_rfl) (by kernel_rfl)<|AM.qv (ax J) J<|AM.qv (ay J) J<|AM.qv (au J J) J<|AM.qv (aB J J .p0 J) J<|AM.qv (au J J) J<|AM.qv (aB J J .p7 J) J<|AM.qv (gR J J) J<|AM.nil<|rN<|cD h J (fun h=>?_) (fun h=>?_)
     ·refine aI<|rA J J<|rN<|ae.ret<|?_
      cases h
      exact hH J [0,0,0,0,0,0,0] J ⟨fg,fh,ga,eu,fi,cC,J,J⟩
     ·refine tK<|aI<|rM J J<|rF J J J<|rL J J .p7 J J<|ah.qv (ay J) J<|rF J J J<|aE J J J J .p0 J J<|rN<|tS<|aA h fun qP e4 h=>ae.fK (id:=15) (A:=[0,0,2,6,14,0,32,0,128,480,992,2046,4095,8191,16383]) (H0:=[(eu,iI aa.bx)]) (HH:=fun β=>[((β 11),iI qP),(aM,.cells [.str aa.bz.aO,.str aa.bz.bf,I aa.aK,I aa.cr,.sl 1 fg 0 aa.aQ.length,I ai.bh,.sl 2 fh 0 aa.nH.length,.sl 2 ga 0 aa.bN.length,.sl 2 eu 0 aa.bx.length,.sl 1 fi 0 aa.cq.length,.sl 1 cC 0 aa.bH.length]),(fg,iH aa.aQ),(fh,iI aa.nH),(ga,iI aa.bN),(fi,iH aa.cq),(cC,iH aa.bH),(b1,.cells (wU ai))]) 12 mixed J (by kernel_rfl) (by kernel_rfl) [⟨none,some 11,[],fun _=>(eu,iI aa.bx),none,[]⟩,⟨some 11,none,[],fun b=>(b,iI qP),none,[]⟩] [11] J (by kernel_rfl) J (.cons .p4 .nil) (fun _=>J)<|AT.am 11 J J<|AM.qv (ax J) J<|AM.qv (ax J) J<|AM.qv (ay J) J<|AM.qv (au J J) J<|AM.qv (aB J J .p0 J) J<|AM.qv (au J J) J<|AM.qv (aB J J .p6 J) J<|AM.qv (au J J) J<|AM.qv (aB J J .p6 J) J<|AM.qv (cF J J J J J) J<|AM.bU (xs:=([(⟨ai.At,ai.bh⟩:ao)]).map ao.av) J J J J J J<|AM.nil<|AT.B7 (V:=fun b=>.sl 2 b 0 qP.length) (Ti:=[(eu,iI aa.bx)]) (Pi:=fun b=>[(b,iI qP)]) (fun _=>J) (fun _=>J) (fun _ _=>J) J (fun _=>J) J J J ?_ ?_
      ·exact dq (g:=ao.av) J J J J J J J J (.list _) e4 (fun _=>.p0) J fun Bp=>ah.nil ⟨Bp,_,J,J⟩
      refine AT.qS (fun _=>J) fun β=>?_
      generalize β 11=Bp
      clear β
      refine ah.qv (ay J) J<|rF J J J<|aE J J J J .p1 J J<|rN<|aI<|rA J J<|rN<|ae.ret<|?_
      cases h
      exact hH J [1,1,1,1,0,0,0] J ⟨fg,fh,ga,Bp,fi,cC,J,J⟩
    ·refine tK<|ae.cd<|tS<|tS<|ae.bV (id:=17) (A:=[0,1,3,7,0,16,63]) 7 mixed J (by kernel_rfl) (by kernel_rfl)<|AM.qv (ax J) J<|AM.qv (ay J) J<|AM.qv (au J J) J<|AM.qv (aB J J .p0 J) J<|AM.qv (au J J) J<|AM.qv (aB J J .p7 J) J<|AM.qv (oW J J) J<|AM.nil<|rN<|cD h J (fun h=>?_) (fun h=>?_)
     ·refine aI<|rA J J<|rN<|ae.ret<|?_
      cases h
      exact hH J [0,0,0,0,0,0,0] J ⟨fg,fh,ga,eu,fi,cC,J,J⟩
     ·refine tK<|aI<|rM J J<|rF J J J<|rL J J .p7 J J<|ah.qv (ay J) J<|rF J J J<|aE J J J J .p0 J J<|rN<|tS<|ae.bV (id:=20) (A:=[0,1,3,7,0,16,48,112,240,496,0,1024,4095,8191,16383]) 14 mixed J (by kernel_rfl) (by kernel_rfl)<|AM.qv (ax J) J<|AM.qv (ay J) J<|AM.qv (au J J) J<|AM.qv (aB J J .p0 J) J<|AM.qv (ax J) J<|AM.qv (ay J) J<|AM.qv (au J J) J<|AM.qv (aB J J .p0 J) J<|AM.qv (eR J) J<|AM.qv (bF J J) J<|AM.qv (au J J) J<|AM.qv (aB J J .p7 J) J<|aA h fun v22 e5 h=>AM.qv (aP J J J e5) J<|AM.qv (bR J J) J<|AM.nil<|br (g:=ao.av) (uB:=(⟨v22.dR,ai.At⟩:ao)) J J J J e5 J .p4 J<|ah.ghost<|aj.eqs (s:=85) (bZ:=.sl 2 eu 0 (aa.bx.set (aN ((aa.bx.length:Int) - (1:Int))).toNat (⟨v22.dR,ai.At⟩:ao)).length) J (by rw [List.length_set])<|aj.here<|ah.ghost<|aj.eqs (s:=89) (bZ:=.sl 2 eu 0 (aa.bx.set (aN ((aa.bx.length:Int) - (1:Int))).toNat (⟨v22.dR,ai.At⟩:ao)).length) J (by rw [List.length_set])<|aj.here<|ah.ghost<|aj.G3 (j:=8) (bZ:=.sl 2 eu 0 (aa.bx.set (aN ((aa.bx.length:Int) - (1:Int))).toNat (⟨v22.dR,ai.At⟩:ao)).length) .p0 J (by rw [List.length_set]) J<|aj.here<|rN<|aI<|rA J J<|rN<|ae.ret<|?_
      cases h
      exact hH J [0,0,0,0,0,0,0] J ⟨fg,fh,ga,eu,fi,cC,J,J⟩
theorem sK [GI:bA] {aM:Bk} {fQ:Bk} {vW:Nat→Bk} {OF:Nat→Nat→Bk} {sL:Bk} {tu:Bk} {aa:bI} {ai:Signal} {r:Int×bI} (h:fH aa ai=some r):aG Tryz.prog 92 [.ptr aM 0,Signal.av ai] [(aM,.cells [.gD sL,.sl 1 tu 0 aa.ew.length]),(sL,.mp (aa.sW.map (fun e=>(al.av e.1,(pA vW) e.2)))),(tu,.arr 1 (aa.ew.map (pA vW))),(fQ,.cj (ju yk vW OF aa.wQ))] (T2 (fun Kb Kc=>[(aM,.cells [.gD sL,.sl 1 Kb 0 r.2.ew.length]),(sL,.mp (r.2.sW.map (fun e=>(al.av e.1,(pA vW) e.2)))),(Kb,.arr 1 (r.2.ew.map (pA vW))),(fQ,.cj (ju yk vW Kc r.2.wQ))]) (fun Kb Kc=>I r.1)):=by
 unfold fH at h
 refine aG.dD ?_
 refine aG.bw Tryz.func92 J Tryz.ntmps92 Tryz.results92 J J ?_
 refine aI<|dC J J J J fun b1=>rA J J<|rN<|tS<|ae.bV (id:=1) (A:=[0,1,3,7,0,16,0,64,240,511,0,2047,4095]) 11 mixed J (by kernel_rfl) (by kernel_rfl)<|AM.qv (ax J) J<|AM.qv (ay J) J<|AM.qv (au J J) J<|AM.qv (aB J J .p1 J) J<|AM.qv (au J J) J<|AM.qv (aB J J .p0 J) J<|AM.qv (au J J) J<|AM.qv (aB J J .p0 J) J<|AM.qv (cF J J J J J) J<|Of h (fun e1 h=>?_) (fun n2 e1 h=>?_)
 ·refine AM.qv (xw (gk:=al.av) (gv:=(pA vW)) (M:=aa.sW) (key:=(⟨ai.Device,ai.aZ⟩:al)) J J .p2 J e1) J<|AM.qv (aL J J .p0 J) J<|AM.nil<|?_
  cases h
 ·refine AM.qv (xx (gk:=al.av) (gv:=(pA vW)) (M:=aa.sW) (key:=(⟨ai.Device,ai.aZ⟩:al)) J J .p2 e1) J<|AM.qv (aL J J .p0 J) J<|AM.nil<|aA h fun v3 e2 h=>ah.ghost<|aj.EY (kb:=yk) e2 .p4 J<|aj.here<|aA h fun v4 e3 h=>rQ J (w5 e3) cR (.cons .p0 (.cons .p0 (.cons .p0 (.cons .p0 (.cons .p0 (.cons .p0 (.cons .p0 .nil))))))) (fun _ _ _ _ _ _=>J) J fun b5 b6 b7 b8 b9 pz=>rA J J<|ah.ghost<|aj.Hd (kb:=yk) (v':=v4.2) (s:=Rg [b5,b6,b7,b8,b9,pz]) e2 (.cons .p0 (.cons .p0 (.cons .p0 (.cons .p0 (.cons .p0 (.cons .p0 (.cons .p0 .nil))))))) J (fun _=>.p4) fun TH=>aj.here<|rN<|ae.ret<|?_
  cases h
  exact hH J [1,1,1,1] J ⟨tu,TH,J,J⟩
theorem Bv [GI:bA] {aa:List Signal} {ai:Int} {r:bI} (h:sA aa ai=some r):aG Tryz.prog 94 [nw aa,I ai] [] (T6 (fun lV vP vQ yq uI Bu=>[(lV,.cells [.gD vP,.sl 1 vQ 0 r.ew.length]),(vP,.mp (r.sW.map (fun e=>(al.av e.1,(pA uI) e.2)))),(vQ,.arr 1 (r.ew.map (pA uI))),(yq,.cj (ju yk uI Bu r.wQ))]) (fun lV vP vQ yq uI Bu=>.ptr lV 0)):=by
 unfold sA at h
 refine aG.dD ?_
 refine aG.bw Tryz.func94 J Tryz.ntmps94 Tryz.results94 J J ?_
 refine aI<|rA J J<|rN<|aI<|rM J J<|aA h fun v1 e1 h=>rQ J (zk e1) cR .nil (fun _ _ _ _ _ _=>J) J fun b2 b3 b4 b5 OG bs7=>rA J J<|rN<|tS<|aI<|rM J J<|ah.qv (ey J) J<|rM J J<|rN<|ae.block<|ae.bS (fun x:(List (al×Int))×(List ar)×(List Int)×Int=>oJ aa ai x.1 x.2.1 x.2.2.1 x.2.2.2) (fun x aC=>∃ (DK:Nat→Nat→Bk) (tG:Bk),aC=⟨25,[(1,I ai),(5,.ptr b2 0),(10,nw aa),(11,I (aa.length:Int)),(12,I x.2.2.2)],[(b2,.cells [.gD b3,.sl 1 tG 0 x.2.2.1.length]),(b3,.mp (x.1.map (fun e=>(al.av e.1,(pA OG) e.2)))),(b5,.cj (ju yk OG DK x.2.1)),(tG,.arr 1 (x.2.2.1.map (pA OG)))]⟩) h ?_ ?_
 ·exact aj.lq [0,0,1,0] ⟨bs7,b4,J⟩ J J
 ·intro x z1 aC J1 dL h jF fP
  obtain ⟨oG,oh,rV,n19⟩:=x
  obtain ⟨DK,tG,rfl⟩:=dL
  replace h:oJ aa ai oG oh rV n19=some z1:=h
  unfold oJ at h
  refine aI<|ah.qv (bB J J) J<|rN<|tS<|cD h J (fun h=>?_) (fun h=>?_)
  ·refine tK<|tS<|ae.block<|aI<|aA h fun v20 e2 h=>ah.qv (bO J J J e2 J J) J<|ah.qv (bn J J J) J<|bT J J J J fun Bp=>aE J J J J .p0 J J<|rN<|aI<|rF J J J<|rL J J .p0 J J<|rM J J<|ah.qv (oW J J) J<|rN<|ae.cut (fun aC=>∃ (Gn:Nat→Nat→Bk) (zg:Bk) (wR:List (al×Int)) (vh:List ar) (pU:List Int),qB n19 wR vh pU=some z1∧aC=⟨25,[(1,I ai),(5,.ptr b2 0),(10,nw aa),(11,I (aa.length:Int)),(12,I n19)],[(b2,.cells [.gD b3,.sl 1 zg 0 pU.length]),(b3,.mp (wR.map (fun e=>(al.av e.1,(pA OG) e.2)))),(b5,.cj (ju yk OG Gn vh)),(zg,.arr 1 (pU.map (pA OG)))]⟩) ?_ ?_
   ·refine cD h J (fun h=>?_) (fun h=>?_)
    ·exact tR<|rM J J<|ah.qv (aL J J .p0 J) J<|aA h fun zf e3 h=>G2 J (sK e3) cR (.cons .p1 (.cons .p1 (.cons .p2 (.cons .p1 .nil)))) (fun _ _=>J) J fun RR TI=>rN<|ae.stop<|aj.lq [0,0,1,0] ⟨TI,RR,zf.2.sW,zf.2.wQ,zf.2.ew,h,J⟩ J J
    ·exact tK<|ae.stop<|aj.lq [1,1,1,1] ⟨DK,tG,oG,oh,rV,h,J⟩ J J
   ·rintro aC ⟨Gn,zg,wR,vh,pU,h,rfl⟩
    unfold qB at h
    refine ae.cd<|tR<|ah.qv (aV J J) J<|rM J J<|rN<|ae.stop<|?_
    cases h
    exact jF _ _ J<|aj.lq [0,0,0,0] ⟨Gn,zg,J⟩ J J
  ·refine ae.exit J<|have h:=bP h fP;aI<|rM J J<|rA J J<|rN<|ae.ret<|?_
   cases h
   exact hH J [0,0,1,0] J ⟨b2,b3,tG,b5,OG,DK,J,J⟩
theorem tv [GI:bA] {aa:ar} {ai:Int} {r:aH×Bool} (h:a8 aa ai=r):Pu Tryz.prog 95 [.gg [.str aa.bz.aO,.str aa.bz.bf,I aa.aK,I aa.cr,gQ aa.aQ,I aa.az,IG aa.nH,IG aa.bN,IG aa.bx,gQ aa.cq,gQ aa.bH],I ai] (.nI [aH.av r.1,.bool r.2]):=by
 unfold a8 at h
 refine aG.bw Tryz.func95 J Tryz.ntmps95 Tryz.results95 J J ?_
 refine aI<|bT J J J J fun b1=>rA J J<|rN<|tS<|ae.fK (id:=1) (A:=[0,1,3,7,15,0,32,96,224,480,0,1024,3072,7168,0,16384,49152,114688,0,262144,786432,1835008,3932160,8388607,0,33554431]) (H0:=[]) (HH:=fun β=>[((β 24),.cells [.str [],.str [],I (0:Int),I (0:Int),I (0:Int),I (0:Int)]),(b1,.cells [.str [],.str [],I (0:Int),I (0:Int),I (0:Int),I (0:Int)])]) 25 mixed J (by kernel_rfl) (by kernel_rfl) [⟨some 24,none,[],fun b=>(b,.cells [.str [],.str [],I (0:Int),I (0:Int),I (0:Int),I (0:Int)]),none,[]⟩] [24] J (by kernel_rfl) J .nil (fun _=>J)<|AT.am 24 J J<|AM.qv (ax J) J<|AM.qv (bt J) J<|AM.qv (bb J J) J<|AM.qv (bb J J) J<|AM.qv (aU J J J) J<|AM.qv (ax J) J<|AM.qv (bt J) J<|AM.qv (bb J J) J<|AM.qv (bb J J) J<|AM.qv (aU J J J) J<|AM.qv (ax J) J<|AM.qv (bt J) J<|AM.qv (bb J J) J<|AM.qv (aU J J J) J<|AM.qv (ax J) J<|AM.qv (bt J) J<|AM.qv (bb J J) J<|AM.qv (aU J J J) J<|AM.qv (ax J) J<|AM.qv (bt J) J<|AM.qv (bb J J) J<|AM.qv (aU J J J) J<|AM.qv (ey J) J<|AM.qv (cF J J J J J) J<|AM.nil<|AT.B7 (V:=fun b=>.ptr b 0) (Ti:=[]) (Pi:=fun b=>[(b,.cells [.str [],.str [],I (0:Int),I (0:Int),I (0:Int),I (0:Int)])]) (fun _=>J) (fun _=>J) (fun _ _=>J) J (fun _=>J) J J J ?_ ?_
 ·exact bT J J J J fun b2=>ah.nil ⟨b2,_,J,J⟩
 refine AT.qS (fun _=>J) fun β=>?_
 generalize β 24=b2
 clear β
 refine aE J J J J .p0 J J<|rN<|tS<|aI<|rM J J<|ah.qv (bt J) J<|ah.qv (bb J J) J<|ah.qv (aU J J J) J<|rM J J<|ah.qv (gR J J) J<|rN<|ae.cut (fun aC=>∃ (n3:Int),jB aa n3=r∧aC=⟨51,[(4,.ptr b1 0),(6,.ptr b2 0)],[(b1,.cells [.str [],.str [],I (0:Int),I (0:Int),I (0:Int),I (0:Int)]),(b2,.cells [.str aa.bz.aO,.str aa.bz.bf,I aa.aK,I aa.cr,I (aa.aQ.length:Int),I n3])]⟩) ?_ ?_
 ·refine cD h J (fun h=>?_) (fun h=>?_)
  ·exact tR<|rM J J<|ah.qv (bt J) J<|ah.qv (bb J J) J<|ah.qv (aU J J J) J<|rF J J J<|aE J J J J .p0 J J<|rN<|ae.stop<|aj.lq [1,0] ⟨aa.az,h,J⟩ J J
  ·exact tK<|ae.stop<|aj.lq [1,0] ⟨(0:Int),h,J⟩ J J
 ·rintro aC ⟨n3,h,rfl⟩
  unfold jB at h
  refine tS<|ae.cut (fun aC=>∃ (c4:Bool),jA aa n3 c4=r∧aC=⟨51,[(4,.ptr b1 0),(5,.bool c4)],[(b1,.cells [.str aa.bz.aO,.str aa.bz.bf,I aa.aK,I aa.cr,I (aa.aQ.length:Int),I n3])]⟩) ?_ ?_
  ·refine Classical.byCases (p:=aa.aK≠(0:Int)) (fun Kd=>?_) (fun Kd=>?_)
   ·replace h:=rO Kd h
    refine ae.fK (id:=4) (A:=[0,0,2,6,14,30,62,126,254,31,1023]) (H0:=[(b1,.cells [.str [],.str [],I (0:Int),I (0:Int),I (0:Int),I (0:Int)])]) (HH:=fun β=>[(b1,.cells [.str aa.bz.aO,.str aa.bz.bf,I aa.aK,I aa.cr,I (aa.aQ.length:Int),I n3]),(b2,.cells [.str aa.bz.aO,.str aa.bz.bf,I aa.aK,I aa.cr,I (aa.aQ.length:Int),I n3])]) 10 mixed J (by kernel_rfl) (by kernel_rfl) [⟨none,some 9,[],fun _=>(b1,.cells [.str [],.str [],I (0:Int),I (0:Int),I (0:Int),I (0:Int)]),none,[]⟩,⟨some 9,none,[],fun _=>(b1,.cells [.str aa.bz.aO,.str aa.bz.bf,I aa.aK,I aa.cr,I (aa.aQ.length:Int),I n3]),none,[]⟩] [] J (by kernel_rfl) J (.cons .p0 .nil) (fun _=>J)<|AT.am 9 J J<|AM.qv (aL J J .p0 J) J<|AM.qv (au J J) J<|AM.qv (aB J J .p0 J) J<|AM.qv (jH J J) J<|AM.qv (QV.dT Kd (ax J)) J<|AM.aJ J J J J<|AM.aJ J J J J<|AM.aJ J J J J<|AM.qv (jv J J) J<|AM.nil<|AT.yY (Ti:=[(b1,.cells [.str [],.str [],I (0:Int),I (0:Int),I (0:Int),I (0:Int)])]) (Pi:=[(b1,.cells [.str aa.bz.aO,.str aa.bz.bf,I aa.aK,I aa.cr,I (aa.aQ.length:Int),I n3])]) (fun _=>J) (fun _=>J) (fun _=>J) J J ?_ ?_
    ·exact aE J J J J .p0 J J<|ah.nil ⟨_,J⟩
    exact AT.qS (fun _=>J) fun β=>rA J J<|rN<|ae.stop<|aj.lq [0] ⟨true,h,J⟩ J J
   ·replace h:=yU Kd h
    refine ae.fK (id:=4) (A:=[0,0,2,6,14,30,62,126,254,31,1023]) (H0:=[(b1,.cells [.str [],.str [],I (0:Int),I (0:Int),I (0:Int),I (0:Int)])]) (HH:=fun β=>[(b1,.cells [.str aa.bz.aO,.str aa.bz.bf,I aa.aK,I aa.cr,I (aa.aQ.length:Int),I n3]),(b2,.cells [.str aa.bz.aO,.str aa.bz.bf,I aa.aK,I aa.cr,I (aa.aQ.length:Int),I n3])]) 10 mixed J (by kernel_rfl) (by kernel_rfl) [⟨none,some 9,[],fun _=>(b1,.cells [.str [],.str [],I (0:Int),I (0:Int),I (0:Int),I (0:Int)]),none,[]⟩,⟨some 9,none,[],fun _=>(b1,.cells [.str aa.bz.aO,.str aa.bz.bf,I aa.aK,I aa.cr,I (aa.aQ.length:Int),I n3]),none,[]⟩] [] J (by kernel_rfl) J (.cons .p0 .nil) (fun _=>J)<|AT.am 9 J J<|AM.qv (aL J J .p0 J) J<|AM.qv (au J J) J<|AM.qv (aB J J .p0 J) J<|AM.qv (jH J J) J<|AM.qv (QV.dF Kd (ax J)) J<|AM.aF J J J<|AM.qv (au J J) J<|AM.aF J J J<|AM.qv (aB J J .p0 J) J<|AM.aF J J J<|AM.qv (gR J J) J<|AM.qv (iX J J) J<|AM.nil<|AT.yY (Ti:=[(b1,.cells [.str [],.str [],I (0:Int),I (0:Int),I (0:Int),I (0:Int)])]) (Pi:=[(b1,.cells [.str aa.bz.aO,.str aa.bz.bf,I aa.aK,I aa.cr,I (aa.aQ.length:Int),I n3])]) (fun _=>J) (fun _=>J) (fun _=>J) J J ?_ ?_
    ·exact aE J J J J .p0 J J<|ah.nil ⟨_,J⟩
    exact AT.qS (fun _=>J) fun β=>rA J J<|rN<|ae.stop<|aj.lq [0] ⟨decide ((0:Int) < n3),h,J⟩ J J
  ·rintro aC ⟨c4,h,rfl⟩
   unfold jA at h
   refine ae.ret<|?_
   obtain rfl:=h
   exact aj.here ⟨_,.cons (.all _ _ _ _ _ _ J .p0 aD.h aX.h J J) (.cons (.tmp _ _ J) .nil),J⟩
theorem Ch [GI:bA] {aa:bW} {ai:List Int} {r:(List ao)} (h:mY aa ai=some r):aG Tryz.prog 139 [bW.av aa,gQ ai] [] (T1 (fun lV=>[(lV,iI r)]) (fun lV=>.sl 2 lV 0 r.length)):=by
 unfold mY at h
 refine aG.dD ?_
 refine aG.bw Tryz.func139 J Tryz.ntmps139 Tryz.results139 J J ?_
 refine aI<|dC J J J J fun b1=>rA J J<|rN<|aI<|rA J J<|rN<|aI<|rA J J<|rN<|tS<|aI<|rM J J<|ah.qv (ey J) J<|rM J J<|rN<|ae.block<|ae.bS (fun x:(List ao)×Int×Int=>gx aa ai x.1 x.2.1 x.2.2) (fun x aC=>∃ (b6:Bk),aC=⟨87,[(1,gQ ai),(2,.ptr b1 0),(5,.sl 2 b6 0 x.1.length),(6,I x.2.1),(11,gQ ai),(12,I (ai.length:Int)),(13,I x.2.2)],[(b1,.cells [I aa.kM,I aa.ao,I aa.Calm]),(b6,iI x.1)]⟩) h ?_ ?_
 ·exact aj.arr (s:=5) 2 J fun pz=>aj.lq [1,0] ⟨pz,J⟩ J J
 ·intro x z1 aC J1 dL h jF fP
  obtain ⟨l7,n8,n9⟩:=x
  obtain ⟨b6,rfl⟩:=dL
  replace h:gx aa ai l7 n8 n9=some z1:=h
  unfold gx at h
  refine aI<|ah.qv (bB J J) J<|rN<|tS<|cD h J (fun h=>?_) (fun h=>?_)
  ·refine tK<|tS<|ae.block<|aI<|rM J J<|aA h fun v11 e1 h=>ah.qv (bO J J J e1 J J) J<|ah.qv (aU J J J) J<|rA J J<|rA J J<|rN<|tS<|ae.block<|ae.bS (fun x:Int=>fI aa ai l7 n9 v11 x) (fun x aC=>aC=⟨87,[(1,gQ ai),(2,.ptr b1 0),(5,.sl 2 b6 0 l7.length),(6,I x),(7,I n9),(8,I v11),(11,gQ ai),(12,I (ai.length:Int)),(13,I n9)],[(b1,.cells [I aa.kM,I aa.ao,I aa.Calm]),(b6,iI l7)]⟩) h ?_ ?_
   ·exact aj.lq [0,0] J J J
   ·intro n13 z2 aC J2 dL h xC wW
    obtain rfl:=dL
    replace h:fI aa ai l7 n9 v11 n13=some z2:=h
    unfold fI at h
    refine tS<|tS<|ae.bV (id:=6) (A:=[0,0,3,7,0,0,32,112,255]) 9 mixed J (by kernel_rfl) (by kernel_rfl)<|AM.qv (ax J) J<|AM.qv (ax J) J<|aA h fun gh e2 h=>AM.qv (bO J J J e2 J J) J<|AM.qv (aU J J J) J<|AM.qv (ax J) J<|AM.qv (au J J) J<|AM.qv (aB J J .p0 J) J<|AM.qv (bF J J) J<|AM.qv (oW J J) J<|AM.nil<|rN<|cD h J (fun h=>?_) (fun h=>?_)
    ·refine tK<|ae.block<|tR<|rM J J<|ah.qv (aV J J) J<|rA J J<|rN<|ae.cd<|ae.stop<|?_
     cases h
     exact xC _ _ J<|aj.lq [0,0] J J J
    ·refine ae.exit J<|have h:=bP h wW;?_
     unfold mW at h
     refine aI<|rM J J<|ah.qv (eR J) J<|ah.qv (bF J J) J<|rA J J<|rN<|ae.block<|tS<|ae.cut (fun aC=>∃ (Fb:Bool),kZ aa l7 n9 v11 n13 Fb=some z1∧aC=⟨87,[(1,gQ ai),(2,.ptr b1 0),(5,.sl 2 b6 0 l7.length),(6,I n13),(7,I n9),(8,I v11),(9,I (aN ((l7.length:Int) - (1:Int)))),(11,gQ ai),(12,I (ai.length:Int)),(13,I n9),(32,.bool Fb)],[(b1,.cells [I aa.kM,I aa.ao,I aa.Calm]),(b6,iI l7)]⟩) ?_ ?_
     ·refine tR<|rM J J<|ah.qv (sn J J) J<|rM J J<|gT h J J J (fun h=>?_) (fun h=>?_)
      ·exact rM J J<|rY J J J<|rM J J<|rY J J J<|rM J J<|rY J J J<|aA h fun kS e3 h=>ah.qv (aP J J J e3) J<|rY J J J<|ah.qv (bR J J) J<|rY J J J<|ah.qv (eS (g:=ao.av) J J (.inl .p1) e3 J) J<|rY J J J<|ah.qv (oW J J) J<|rT J J J<|rA J J<|rN<|ae.stop<|aj.lq [0,0] ⟨decide (v11≤kS.To),h,J⟩ J J
      ·exact rG J J J J<|rG J J J J<|rG J J J J<|rG J J J J<|rG J J J J<|rG J J J J<|rE J J J<|rA J J<|rN<|ae.stop<|aj.lq [0,0] ⟨false,h,J⟩ J J
     ·rintro aC ⟨Fb,h,rfl⟩
      unfold kZ at h
      refine ae.cut (fun aC=>∃ (tG:Bk) (rV:List ao),mU n9 n13 rV=some z1∧aC=⟨87,[(1,gQ ai),(2,.ptr b1 0),(5,.sl 2 tG 0 rV.length),(6,I n13),(11,gQ ai),(12,I (ai.length:Int)),(13,I n9)],[(b1,.cells [I aa.kM,I aa.ao,I aa.Calm]),(tG,iI rV)]⟩) ?_ ?_
      ·refine cB h J (fun h=>?_) (fun h=>?_)
       ·exact tR<|rM J J<|rM J J<|rM J J<|rF J J J<|rL J J .p0 J J<|ah.qv (aV J J) J<|aA h fun w9 e4 h=>ah.qv (aP J J J e4) J<|ah.qv (bR J J) J<|br (g:=ao.av) (uB:=(⟨w9.dR,aN (v11+aa.Calm)⟩:ao)) J J J J e4 J .p1 J<|ah.ghost<|aj.eqs (s:=5) (bZ:=.sl 2 b6 0 (l7.set (aN ((l7.length:Int) - (1:Int))).toNat (⟨w9.dR,aN (v11+aa.Calm)⟩:ao)).length) J (by rw [List.length_set])<|aj.here<|ah.ghost<|aj.eqs (s:=44) (bZ:=.sl 2 b6 0 (l7.set (aN ((l7.length:Int) - (1:Int))).toNat (⟨w9.dR,aN (v11+aa.Calm)⟩:ao)).length) J (by rw [List.length_set])<|aj.here<|rN<|ae.stop<|aj.lq [0,0] ⟨b6,l7.set (aN ((l7.length:Int) - (1:Int))).toNat (⟨w9.dR,aN (v11+aa.Calm)⟩:ao),h,J⟩ J J
       ·refine aI<|rM J J<|rM J J<|ah.qv (bF J J) J<|ah.qv (aV J J) J<|rF J J J<|rL J J .p0 J J<|ah.qv (sn J J) J<|rA J J<|rN<|ae.cut (fun aC=>∃ (J9:Bk) (Ai:List ao),mV n9 n13 Ai=some z1∧aC=⟨87,[(1,gQ ai),(2,.ptr b1 0),(5,.sl 2 J9 0 Ai.length),(6,I n13),(11,gQ ai),(12,I (ai.length:Int)),(13,I n9)],[(b1,.cells [I aa.kM,I aa.ao,I aa.Calm]),(J9,iI Ai)]⟩) ?_ ?_
        ·refine cD h J (fun h=>?_) (fun h=>?_)
         ·exact tR<|rM J J<|rM J J<|rM J J<|rF J J J<|rL J J .p0 J J<|ah.qv (aV J J) J<|ah.qv (cF J J J J J) J<|aY (xs:=([(⟨v11,aN (v11+aa.Calm)⟩:ao)]).map ao.av) J J J J J J<|aA h fun wR e5 h=>dq (g:=ao.av) J J J J J J J J (.list _) e5 (fun _=>.p1) J fun Qz=>rA J J<|rN<|ae.stop<|aj.lq [0,0] ⟨Qz,wR,h,J⟩ J J
         ·exact tK<|ae.stop<|aj.lq [0,0] ⟨b6,l7,h,J⟩ J J
        ·rintro aC ⟨J9,Ai,h,rfl⟩
         unfold mV at h
         exact ae.stop<|aj.lq [0,0] ⟨J9,Ai,h,J⟩ J J
      ·rintro aC ⟨tG,rV,h,rfl⟩
       unfold mU at h
       refine ae.cd<|ae.cd<|tR<|ah.qv (aV J J) J<|rM J J<|rN<|ae.stop<|?_
       cases h
       exact jF _ _ J<|aj.lq [0,0] ⟨tG,J⟩ J J
  ·refine ae.exit J<|have h:=bP h fP;tS<|aI<|rM J J<|ah.qv (eR J) J<|rM J J<|rN<|ae.block<|ae.bS (fun x:(List ao)×Int=>gw l7 x.1 x.2) (fun x aC=>aC=⟨87,[(5,.sl 2 b6 0 x.1.length),(71,I (l7.length:Int)),(72,I x.2)],[(b6,iI x.1)]⟩) h ?_ ?_
   ·exact aj.lq [1] J J J
   ·intro x z3 aC J3 dL h H9 DI
    obtain ⟨pU,n27⟩:=x
    obtain rfl:=dL
    replace h:gw l7 pU n27=some z3:=h
    unfold gw at h
    refine aI<|ah.qv (bB J J) J<|rN<|tS<|cD h J (fun h=>?_) (fun h=>?_)
    ·refine tK<|tS<|ae.block<|aI<|rM J J<|rA J J<|rN<|tR<|rM J J<|rM J J<|rM J J<|rM J J<|aA h fun v28 e6 h=>ah.qv (aP J J J e6) J<|ah.qv (bR J J) J<|ah.qv (eS (g:=ao.av) J J (.inl .p0) e6 J) J<|ah.qv (IS J J) J<|aA h fun xz e7 h=>ah.qv (aP J J J e7) J<|ah.qv (bR J J) J<|br (g:=ao.av) (uB:=(⟨xz.dR,min v28.To (345686400000:Int)⟩:ao)) J J J J e7 J .p0 J<|ah.ghost<|aj.eqs (s:=5) (bZ:=.sl 2 b6 0 (pU.set n27.toNat (⟨xz.dR,min v28.To (345686400000:Int)⟩:ao)).length) J (by rw [List.length_set])<|aj.here<|ah.ghost<|aj.eqs (s:=75) (bZ:=.sl 2 b6 0 (pU.set n27.toNat (⟨xz.dR,min v28.To (345686400000:Int)⟩:ao)).length) J (by rw [List.length_set])<|aj.here<|ah.ghost<|aj.eqs (s:=77) (bZ:=.sl 2 b6 0 (pU.set n27.toNat (⟨xz.dR,min v28.To (345686400000:Int)⟩:ao)).length) J (by rw [List.length_set])<|aj.here<|rN<|ae.cd<|tR<|ah.qv (aV J J) J<|rM J J<|rN<|ae.stop<|?_
     cases h
     exact H9 _ _ J<|aj.lq [0] J J J
    ·refine ae.exit J<|have h:=bP h DI;aI<|rM J J<|rA J J<|rN<|ae.ret<|?_
     cases h
     exact hH J [0] J ⟨b6,J,J⟩
theorem po [GI:bA] {aa:List ao} {dH:ao→Option Bool} {cu:FuncId} [bq Tryz.prog cu] {dP:List AV} (kJ:∀ {y0:_} {u:Bool},dH y0=some u→Pu Tryz.prog cu (ao.av y0 :: dP) (.bool u)) {r:Int} (h:hZ aa dH=some r):Pu Tryz.prog 218 [IG aa,.func (.func cu) dP] (I r):=by
 unfold hZ at h
 refine aG.bw Tryz.func218 J Tryz.ntmps218 Tryz.results218 J J ?_
 refine aI<|rA J J<|rN<|tS<|aI<|rM J J<|ah.qv (ey J) J<|rM J J<|rN<|ae.block<|ae.bS (fun x:Int=>dI aa dH x) (fun x aC=>aC=⟨19,[(0,IG aa),(1,.func (.func cu) dP),(7,I (aa.length:Int)),(8,I x)],[]⟩) h ?_ ?_
 ·exact aj.lq [] J J J
 ·intro n2 z1 aC J1 dL h jF fP
  obtain rfl:=dL
  replace h:dI aa dH n2=some z1:=h
  unfold dI at h
  refine aI<|ah.qv (bB J J) J<|rN<|tS<|cD h J (fun h=>?_) (fun h=>?_)
  ·refine tK<|tS<|ae.block<|aI<|rM J J<|rA J J<|rN<|aI<|rM J J<|rM J J<|rM J J<|aA h fun v3 e1 h=>ah.qv (bO J J J e1 J J) J<|ah.qv (bn J J J) J<|aA h fun v4 e2 h=>so J J (kJ e2) cR J<|rN<|cB h J (fun h=>?_) (fun h=>?_)
   ·refine aI<|rM J J<|rA J J<|rN<|ae.ret<|have h:=bP h fP;?_
    cases h
    exact hP J J
   ·refine tK<|ae.cd<|tR<|ah.qv (aV J J) J<|rM J J<|rN<|ae.stop<|?_
    cases h
    exact jF _ _ J<|aj.lq [] J J J
  ·refine ae.exit J<|have h:=bP h fP;aI<|rA J J<|rN<|ae.ret<|?_
   cases h
   exact hP J J
theorem jq [GI:bA] {aa:List ao} {dH:ao→Option Bool} {cu:FuncId} [bq Tryz.prog cu] {dP:List AV} (kJ:∀ {y0:_} {u:Bool},dH y0=some u→Pu Tryz.prog cu (ao.av y0 :: dP) (.bool u)) {r:Bool} (h:cy aa dH=some r):Pu Tryz.prog 168 [IG aa,.func (.func cu) dP] (.bool r):=by
 unfold cy at h
 refine aG.bw Tryz.func168 J Tryz.ntmps168 Tryz.results168 J J ?_
 refine aI<|rA J J<|rN<|aI<|rM J J<|rM J J<|aA h fun v1 e1 h=>gi J (po kJ e1) (.cons (.co (.refl _)) (.cons (.co (.refl _)) .nil)) J J<|ah.qv (sn J J) J<|rA J J<|rN<|ae.ret<|?_
 cases h
 exact hP J J
theorem w6 [GI:bA] {aa:ao} {ai:Int} {r:Bool} (h:mB aa ai=r):Pu Tryz.prog 169 [ao.av aa,.gg [I ai]] (.bool r):=by
 unfold mB at h
 refine aG.bw Tryz.func169 J Tryz.ntmps169 Tryz.results169 J J ?_
 refine aI<|dC J J J J fun b1=>rA J J<|rN<|tS<|ae.cut (fun aC=>∃ (c2:Bool),mZ c2=r∧aC=⟨14,[(3,.bool c2)],[]⟩) ?_ ?_
 ·refine tR<|ah.qv (aU J J J) J<|rF J J J<|rL J J .p0 J J<|ah.qv (sn J J) J<|rM J J<|ah.bJ J J J (fun hc=>?_) (fun hc=>?_)
  ·rw [lB hc] at h
   exact ah.qv (aU J J J) J<|rY J J J<|rF J J J<|rY J J J<|rL J J .p0 J J<|rY J J J<|ah.qv (bB J J) J<|rT J J J<|rA J J<|rN<|ae.stop<|aj.lq [] ⟨decide (ai < aa.To),h,J⟩ J J
  ·rw [lC hc] at h
   exact rG J J J J<|rG J J J J<|rG J J J J<|rE J J J<|rA J J<|rN<|ae.stop<|aj.lq [] ⟨false,h,J⟩ J J
 ·rintro aC ⟨c2,h,rfl⟩
  unfold mZ at h
  refine ae.ret<|?_
  obtain rfl:=h
  exact hP J J
theorem nB [GI:bA] {aM:Bk} {sL:Bk} {tu:Bk} {fQ:Bk} {xe:Bk} {aa:bE} {ai:aH} {r:Bool} (h:ez aa ai=some r):aG Tryz.prog 128 [.ptr aM 0,aH.av ai] [(aM,.cells (JX aa sL tu fQ xe)),(sL,Gi aa.mz),(fQ,vi aa.o4)] (T0 ([(aM,.cells (JX aa sL tu fQ xe)),(sL,Gi aa.mz),(fQ,vi aa.o4)]) (.bool r)):=by
 unfold ez at h
 refine aG.dD ?_
 refine aG.bw Tryz.func128 J Tryz.ntmps128 Tryz.results128 J J ?_
 refine aI<|dC J J J J fun b1=>rA J J<|rN<|tS<|ae.cut (fun aC=>∃ (c2:Bool),eU c2=some r∧aC=⟨18,[(4,.bool c2)],[(aM,.cells (JX aa sL tu fQ xe)),(sL,Gi aa.mz),(fQ,vi aa.o4)]⟩) ?_ ?_
 ·refine ae.bV (id:=1) (A:=[0,1,3,7,15,31,63,127,15,271,1023,2047,4095,8191]) 14 mixed J (by kernel_rfl) (by kernel_rfl)<|AM.qv (au J J) J<|AM.qv (aB J J .p0 J) J<|AM.qv (jH J J) J<|AM.qv (ax J) J<|AM.bJ J J J (fun hc=>?_) (fun hc=>?_)
  ·exact have h:=rO hc h;AM.qv (ax J) J<|AM.aF J J J<|AM.qv (ay J) J<|AM.aF J J J<|AM.qv (au J J) J<|AM.aF J J J<|AM.qv (aB J J .p1 J) J<|AM.aF J J J<|AM.qv (au J J) J<|AM.aF J J J<|AM.qv (aB J J .p0 J) J<|AM.aF J J J<|aA h fun v3 e1 h=>AM.qv (ss (gk:=AV.str) (gv:=bC.av) (M:=aa.mz) (key:=ai.aZ) (Z:=(⟨[],(0:Int),false⟩:bC)) J J .p2 J J J e1 J) J<|AM.aF J J J<|AM.qv (za (ft:=4) (off:=2) ⟨_,_,Tryz.underlying188,J,J,J⟩ J J J) J<|AM.qv (jv J J) J<|AM.qv (c0 J) J<|AM.nil<|rN<|ae.stop<|aj.lq [1,1,1] ⟨v3.o1,h,J⟩ J J
  ·exact have h:=yU hc h;AM.aJ J J J J<|AM.aJ J J J J<|AM.aJ J J J J<|AM.aJ J J J J<|AM.aJ J J J J<|AM.aJ J J J J<|AM.aJ J J J J<|AM.qv (iX J J) J<|AM.qv (c0 J) J<|AM.nil<|rN<|ae.stop<|aj.lq [1,1,1] ⟨false,h,J⟩ J J
 ·rintro aC ⟨c2,h,rfl⟩
  unfold eU at h
  refine ae.ret<|?_
  cases h
  exact hH J [0,0,0] J ⟨J,J⟩
theorem ug [GI:bA] {aa:bd} {ai:List Signal} {aq:Int} {r:bE} (h:k6 aa ai aq=some r):aG Tryz.prog 121 [bd.av aa,nw ai,I aq] [] (T5 (fun lV vP vQ yq Bo=>[(lV,.cells (JX r vP vQ yq Bo)),(vP,Gi r.mz),(vQ,BW r.pP),(yq,vi r.o4),(Bo,Gj r.o5)]) (fun lV vP vQ yq Bo=>.ptr lV 0)):=by
 unfold k6 at h
 refine aG.dD ?_
 refine aG.bw Tryz.func121 J Tryz.ntmps121 Tryz.results121 J J ?_
 refine aI<|dC J J J J fun b1=>dC J J J J fun b2=>rA J J<|rN<|aI<|pO J fun b3=>rF J J J<|rL J J .p2 J J<|aA h fun v4 e1 h=>ik J (qY e1) cR .nil (fun _=>J) J fun b5=>pO J fun b6=>ah.qv (cF J J J J J) J<|dC J J J J fun b7=>rA J J<|rN<|tS<|aI<|rF J J J<|rL J J .p5 J J<|ah.qv (ey J) J<|rM J J<|rN<|ae.block<|ae.bS (fun x:(List (aS×bC))×Int=>ek aa ai aq v4 x.1 x.2) (fun x aC=>aC=⟨99,[(1,nw ai),(3,.ptr b1 0),(5,.ptr b2 0),(7,.ptr b7 0),(23,Mi aa.aW),(24,I (aa.aW.length:Int)),(25,I x.2)],[(b1,.cells (xB aa)),(b2,.cells [I aq]),(b7,.cells [.gD b3,.gD b5,.nil,.gD b6]),(b3,Gi x.1),(b5,BW v4),(b6,Gj [])]⟩) h ?_ ?_
 ·exact aj.lq [5,4,0,2,1,0] J J J
 ·intro x z1 aC J1 dL h jF fP
  obtain ⟨l10,n11⟩:=x
  obtain rfl:=dL
  replace h:ek aa ai aq v4 l10 n11=some z1:=h
  unfold ek at h
  refine aI<|ah.qv (bB J J) J<|rN<|tS<|cD h J (fun h=>?_) (fun h=>?_)
  ·refine tK<|tS<|ae.block<|aI<|aA h fun v12 e2 h=>ah.qv (bO J J J e2 J J) J<|ah.qv (bn J J J) J<|bT J J J J fun Cc=>aE J J J J .p0 J J<|rN<|ae.bV (id:=5) (A:=[0,1,3,7,0,16,0,127]) 7 mixed J (by kernel_rfl) (by kernel_rfl)<|AM.qv (ax J) J<|AM.qv (ay J) J<|AM.qv (au J J) J<|AM.qv (aB J J .p3 J) J<|AM.qv (au J J) J<|AM.qv (aB J J .p0 J) J<|AM.qv (aL J J .p0 J) J<|AM.nil<|oF (gk:=AV.str) (gv:=bC.av) (M:=l10) (key:=v12.aZ) (v:=v12) J J J J .p4<|rN<|ae.cd<|tR<|ah.qv (aV J J) J<|rM J J<|rN<|ae.stop<|?_
   cases h
   exact jF _ _ J<|aj.lq [1,1,1,1,1,1] J J J
  ·refine ae.exit J<|have h:=bP h fP;?_
   unfold kj at h
   refine tS<|aI<|rM J J<|rL J J .p1 J J<|aA h fun gh e3 h=>rQ J (Bv e3) cR .nil (fun _ _ _ _ _ _=>J) J fun Mp CV tG sS uJ zm=>ah.qv (ay J) J<|rF J J J<|rL J J .p0 J J<|ah.qv (eR J) J<|rM J J<|rN<|ae.block<|ae.bS (fun x:(List aH)×(List (aS×Bool))×Int=>ej aa aq v4 l10 gh x.1 x.2.1 x.2.2) (fun x aC=>∃ (zg:Bk),aC=⟨99,[(3,.ptr b1 0),(5,.ptr b2 0),(7,.ptr b7 0),(42,.sl 1 tG 0 gh.ew.length),(43,I (gh.ew.length:Int)),(44,I x.2.2)],[(b1,.cells (xB aa)),(b2,.cells [I aq]),(b7,.cells [.gD b3,.gD b5,.sl 6 zg 0 x.1.length,.gD b6]),(b3,Gi l10),(b5,BW v4),(zg,vi x.1),(b6,Gj x.2.1),(tG,.arr 1 (gh.ew.map (pA uJ))),(sS,.cj (ju yk uJ zm gh.wQ))]⟩) h ?_ ?_
   ·exact aj.sr (j:=2) 6 (fun _=>.p6) J (fun _=>J) (fun _=>J) fun Mm=>aj.lq [5,5,5,5,5,0,4,2,2] ⟨Mm,J⟩ J J
   ·intro x z2 aC J2 dL h xC wW
    obtain ⟨pU,w8,n28⟩:=x
    obtain ⟨zg,rfl⟩:=dL
    replace h:ej aa aq v4 l10 gh pU w8 n28=some z2:=h
    unfold ej at h
    refine aI<|ah.qv (bB J J) J<|rN<|tS<|cD h J (fun h=>?_) (fun h=>?_)
    ·refine tK<|tS<|ae.cut (fun aC=>∃ (Ml:Bk) (FU:List aH) (H5:List (aS×Bool)),kh n28 FU H5=some z2∧aC=⟨99,[(3,.ptr b1 0),(5,.ptr b2 0),(7,.ptr b7 0),(42,.sl 1 tG 0 gh.ew.length),(43,I (gh.ew.length:Int)),(44,I n28)],[(b1,.cells (xB aa)),(b2,.cells [I aq]),(b7,.cells [.gD b3,.gD b5,.sl 6 Ml 0 FU.length,.gD b6]),(b3,Gi l10),(b5,BW v4),(Ml,vi FU),(b6,Gj H5),(tG,.arr 1 (gh.ew.map (pA uJ))),(sS,.cj (ju yk uJ zm gh.wQ))]⟩) ?_ ?_
     ·refine ae.block<|aI<|aA h fun v33 e4 h=>ah.qv (aP J J J e4) J<|ah.qv (eS (g:=(pA uJ)) J J (.inl .p7) e4 J) J<|rA J J<|rN<|aI<|rM J J<|rL J J .p1 J J<|aA h fun oH e5 h=>gi J (tv J) (.cons (nJ.Nq (bp:=sS) (kb:=yk) (bs:=zm) (M:=gh.wQ) Tv e5 (.next .p7)) (.cons (.co (.refl _)) .nil)) J J<|rM J J<|rX J J J<|rX J J J<|bT J J J J fun Pl=>aE J J J J .p0 J J<|rA J J<|rN<|tS<|aA h fun Pg e6 h=>ae.fK (id:=11) (A:=[0,1,0,4,12,28,63,0,255,511]) (H0:=[(sS,.cj (ju yk uJ zm gh.wQ))]) (HH:=fun β=>[((β 6),iI Pg),(sS,.cj (ju yk uJ zm gh.wQ)),(Pl,.cells [.str (((a8 oH aq).1).Device),.str (((a8 oH aq).1).aZ),I (((a8 oH aq).1).State),I (((a8 oH aq).1).Since),I (((a8 oH aq).1).o3),I (((a8 oH aq).1).gP)]),(b1,.cells (xB aa)),(b2,.cells [I aq]),(b7,.cells [.gD b3,.gD b5,.sl 6 zg 0 pU.length,.gD b6]),(b3,Gi l10),(b5,BW v4),(zg,vi pU),(b6,Gj w8),(tG,.arr 1 (gh.ew.map (pA uJ)))]) 8 mixed J (by kernel_rfl) (by kernel_rfl) [⟨none,some 6,[5],fun _=>(sS,.cj (ju yk uJ zm gh.wQ)),none,[]⟩,⟨some 6,none,[],fun b=>(b,iI Pg),none,[]⟩,⟨some 6,none,[],fun b=>(sS,.cj (ju yk uJ zm gh.wQ)),none,[]⟩] [6] J (by kernel_rfl) J (.cons (.next (.next .p7)) .nil) (fun _=>J)<|AT.am 5 J J<|AM.qv (au J J) J<|AM.qv (oe J J .p1 J J) J<|AM.qv (ax J) J<|AM.qv (ay J) J<|AM.qv (au J J) J<|AM.nil<|AT.rd (Rs:=[(sS,.cj (ju yk uJ zm gh.wQ))]) (fun _=>J) J (fun _=>J) (fun _=>J) (QV.ara (kb:=yk) e5 .p0 J (aB J J .p0 J)) J<|AT.B7 (V:=fun b=>.sl 2 b 0 Pg.length) (Ti:=[(sS,.cj (ju yk uJ zm gh.wQ))]) (Pi:=fun b=>[(b,iI Pg),(sS,.cj (ju yk uJ zm gh.wQ))]) (fun _=>J) (fun _=>J) (fun _ _=>J) J (fun _=>J) J J J ?_ ?_
      ·exact vB J (Ch e6) .nil (.cons (.co (.refl _)) (.cons (nJ.ara (kb:=yk) e5 .p0 J (nJ.qR .p1)) .nil)) (fun _=>J) (fun _=>J) (fun _=>(.cons (La.qR (fun _=>J)) .nil)) J fun Mq=>ah.nil ⟨Mq,_,J,J⟩
      refine AT.am 1 J J<|AM.qv (ow J) J<|AM.nil<|AT.qS (fun _=>J) fun β=>?_
      generalize β 6=Mq
      clear β
      refine aA h fun Ah e7 h=>gi J (jq (fun e=>w6 (Option.some.inj e)) e7) (.cons (nJ.qR .p0) (.cons (.AO _ _ _ (.cons (.B4 _ _ _ .p4 (.cons (.co (.refl _)) .nil)) .nil)) .nil)) J J<|rA J J<|rN<|tS<|tS<|ae.cut (fun aC=>∃ (Qs:Bool),mC aq v4 l10 pU w8 n28 oH Qs=some z2∧aC=⟨99,[(3,.ptr b1 0),(5,.ptr b2 0),(7,.ptr b7 0),(12,.ptr Pl 0),(42,.sl 1 tG 0 gh.ew.length),(43,I (gh.ew.length:Int)),(44,I n28),(77,.bool Qs)],[(b1,.cells (xB aa)),(b2,.cells [I aq]),(b7,.cells [.gD b3,.gD b5,.sl 6 zg 0 pU.length,.gD b6]),(b3,Gi l10),(b5,BW v4),(zg,vi pU),(b6,Gj w8),(Pl,.cells [.str (((a8 oH aq).1).Device),.str (((a8 oH aq).1).aZ),I (((a8 oH aq).1).State),I (((a8 oH aq).1).Since),I (((a8 oH aq).1).o3),I (((a8 oH aq).1).gP)]),(tG,.arr 1 (gh.ew.map (pA uJ))),(sS,.cj (ju yk uJ zm gh.wQ))]⟩) ?_ ?_
      ·refine tR<|rM J J<|ah.qv (dB J) J<|rM J J<|ah.guard J J J (fun hc=>?_) (fun hc=>?_)
       ·rw [HN hc] at h
        refine rF J J J<|rY J J J<|rL J J .p2 J J<|rY J J J<|ah.qv (cH J J) J<|rE J J J<|rM J J<|ah.fU J J J (fun hc=>?_) (fun hc=>?_)
        ·rw [Ae hc] at h
         refine rF J J J<|rY J J J<|rL J J .p2 J J<|rY J J J<|ah.qv (gR J J) J<|rE J J J<|rM J J<|ah.fU J J J (fun hc=>?_) (fun hc=>?_)
         ·rw [Ae hc] at h
          exact rM J J<|rE J J J<|rN<|ae.stop<|aj.lq [3,3,3,3,3,3,3,2,2,1] ⟨Ah,h,J⟩ J J
         ·rw [Ad hc] at h
          exact rT J J J<|rN<|ae.stop<|aj.lq [3,3,3,3,3,3,3,2,2,1] ⟨true,h,J⟩ J J
        ·rw [Ad hc] at h
         exact rG J J J J<|rG J J J J<|rT J J J<|rM J J<|rG J J J J<|rT J J J<|rN<|ae.stop<|aj.lq [3,3,3,3,3,3,3,2,2,1] ⟨true,h,J⟩ J J
       ·rw [HM hc] at h
        exact rG J J J J<|rG J J J J<|rT J J J<|rM J J<|rG J J J J<|rG J J J J<|rG J J J J<|rT J J J<|rM J J<|rG J J J J<|rT J J J<|rN<|ae.stop<|aj.lq [3,3,3,3,3,3,3,2,2,1] ⟨true,h,J⟩ J J
      ·rintro aC ⟨Qs,h,rfl⟩
       unfold mC at h
       refine cB h J (fun h=>?_) (fun h=>?_)
       ·exact ae.exit J<|ae.stop<|aj.lq [0,0,0,0,0,0,0,1,1] ⟨zg,pU,w8,h,J⟩ J J
       ·refine tK<|tS<|aA h fun xQ e8 h=>ae.fK (id:=13) (A:=[0,0,2,6,14,0,32,126,255,511,1023]) (H0:=[(zg,vi pU)]) (HH:=fun β=>[((β 7),vi xQ),(b1,.cells (xB aa)),(b2,.cells [I aq]),(b7,.cells [.gD b3,.gD b5,.sl 6 zg 0 pU.length,.gD b6]),(b3,Gi l10),(b5,BW v4),(b6,Gj w8),(Pl,.cells [.str (((a8 oH aq).1).Device),.str (((a8 oH aq).1).aZ),I (((a8 oH aq).1).State),I (((a8 oH aq).1).Since),I (((a8 oH aq).1).o3),I (((a8 oH aq).1).gP)]),(tG,.arr 1 (gh.ew.map (pA uJ))),(sS,.cj (ju yk uJ zm gh.wQ))]) 8 mixed J (by kernel_rfl) (by kernel_rfl) [⟨none,some 7,[],fun _=>(zg,vi pU),none,[]⟩,⟨some 7,none,[],fun b=>(b,vi xQ),none,[]⟩] [7] J (by kernel_rfl) J (.cons .p5 .nil) (fun _=>J)<|AT.am 7 J J<|AM.qv (ax J) J<|AM.qv (ax J) J<|AM.qv (ay J) J<|AM.qv (au J J) J<|AM.qv (aB J J .p2 J) J<|AM.qv (aL J J .p6 J) J<|AM.bU (xs:=([((a8 oH aq).1)]:List aH).map aH.av) J J J J J J<|AM.nil<|AT.B7 (V:=fun b=>.sl 6 b 0 xQ.length) (Ti:=[(zg,vi pU)]) (Pi:=fun b=>[(b,vi xQ)]) (fun _=>J) (fun _=>J) (fun _ _=>J) J (fun _=>J) J J J ?_ ?_
        ·exact dq (g:=aH.av) J J J J J J J J (.list _) e8 (fun _=>.p0) J fun IH=>ah.nil ⟨IH,_,J,J⟩
        refine AT.qS (fun _=>J) fun β=>?_
        generalize β 7=IH
        clear β
        refine ah.qv (ay J) J<|rF J J J<|aE J J J J .p3 J J<|rN<|aI<|rM J J<|ah.qv (aL J J .p7 J) J<|aA h fun ID e9 h=>ba J (nB e9) cR (.cons .p3 (.cons .p3 (.cons .p0 .nil))) J J<|rN<|ae.cut (fun aC=>∃ (JS:List (aS×Bool)),ki n28 xQ JS=some z2∧aC=⟨99,[(3,.ptr b1 0),(5,.ptr b2 0),(7,.ptr b7 0),(42,.sl 1 tG 0 gh.ew.length),(43,I (gh.ew.length:Int)),(44,I n28)],[(b1,.cells (xB aa)),(b2,.cells [I aq]),(b7,.cells [.gD b3,.gD b5,.sl 6 IH 0 xQ.length,.gD b6]),(b3,Gi l10),(b5,BW v4),(IH,vi xQ),(b6,Gj JS),(tG,.arr 1 (gh.ew.map (pA uJ))),(sS,.cj (ju yk uJ zm gh.wQ))]⟩) ?_ ?_
        ·refine cB h J (fun h=>?_) (fun h=>?_)
         ·exact ae.bV (id:=15) (A:=[0,1,3,7,0,16,63]) 6 mixed J (by kernel_rfl) (by kernel_rfl)<|AM.qv (ax J) J<|AM.qv (ay J) J<|AM.qv (au J J) J<|AM.qv (aB J J .p0 J) J<|AM.qv (au J J) J<|AM.qv (aB J J .p7 J) J<|AM.nil<|oF (gk:=AV.str) (gv:=AV.bool) (M:=w8) (key:=((a8 oH aq).1).Device) (v:=true) J J J J .p6<|rN<|ae.stop<|aj.lq [3,3,0,0,1,0,0,1,1] ⟨jh w8 (((a8 oH aq).1).Device) true,h,J⟩ J J
         ·exact tK<|ae.stop<|aj.lq [3,3,0,0,1,0,0,1,1] ⟨w8,h,J⟩ J J
        ·rintro aC ⟨JS,h,rfl⟩
         unfold ki at h
         exact ae.cd<|ae.stop<|aj.lq [0,0,0,0,0,0,0,0,0] ⟨IH,xQ,JS,h,J⟩ J J
     ·rintro aC ⟨Ml,FU,H5,h,rfl⟩
      unfold kh at h
      refine tR<|ah.qv (aV J J) J<|rM J J<|rN<|ae.stop<|?_
      cases h
      exact xC _ _ J<|aj.lq [0,0,0,0,0,0,0,0,0] ⟨Ml,J⟩ J J
    ·refine ae.exit J<|have h:=bP h wW;aI<|rM J J<|rA J J<|rN<|ae.ret<|?_
     cases h
     exact hH J [2,2,2,2,2] J ⟨b7,b3,b5,zg,b6,J,J⟩
theorem nC [GI:bA] {aM:Bk} {sL:Bk} {tu:Bk} {fQ:Bk} {xe:Bk} {aa:bE} {ai:aS} {r:aS} (h:eA aa ai=some r):aG Tryz.prog 122 [.ptr aM 0,.str ai] [(aM,.cells (JX aa sL tu fQ xe)),(tu,BW aa.pP),(fQ,vi aa.o4),(xe,Gj aa.o5)] (T0 ([(aM,.cells (JX aa sL tu fQ xe)),(tu,BW aa.pP),(fQ,vi aa.o4),(xe,Gj aa.o5)]) (.str r)):=by
 unfold eA at h
 refine aG.dD ?_
 refine aG.bw Tryz.func122 J Tryz.ntmps122 Tryz.results122 J J ?_
 refine aI<|rA J J<|rN<|tS<|aI<|rM J J<|ah.qv (ay J) J<|rF J J J<|rL J J .p0 J J<|rM J J<|aA h fun v1 e1 h=>ah.qv (wz (gk:=AV.str) (gv:=AV.str) (M:=aa.pP) (key:=ai) (Z:=[]) J J .p1 J J J e1 J) J<|rM J J<|rX J J J<|rX J J J<|rA J J<|rA J J<|rN<|ae.block<|ae.bS (fun x:aS×Bool=>bL aa x.1 x.2) (fun x aC=>aC=⟨33,[(0,.ptr aM 0),(5,.str x.1),(6,.bool x.2)],[(aM,.cells (JX aa sL tu fQ xe)),(tu,BW aa.pP),(fQ,vi aa.o4),(xe,Gj aa.o5)]⟩) h ?_ ?_
 ·exact aj.lq [0,0,0,0] J J J
 ·intro x z1 aC J1 dL h jF fP
  obtain ⟨q4,c5⟩:=x
  obtain rfl:=dL
  replace h:bL aa q4 c5=some z1:=h
  unfold bL at h
  refine tS<|aI<|rM J J<|rN<|cB h J (fun h=>?_) (fun h=>?_)
  ·refine tK<|tS<|ae.block<|aI<|rM J J<|ah.qv (ay J) J<|rF J J J<|rL J J .p0 J J<|rM J J<|aA h fun v6 e2 h=>ah.qv (ss (gk:=AV.str) (gv:=AV.bool) (M:=aa.o5) (key:=q4) (Z:=false) J J .p3 J J J e2 J) J<|rN<|cB h J (fun h=>?_) (fun h=>?_)
   ·refine aI<|rM J J<|rA J J<|rN<|ae.ret<|have h:=bP h fP;?_
    cases h
    exact hH J [0,0,0,0] J ⟨J,J⟩
   ·refine tK<|ae.cd<|tR<|rM J J<|ah.qv (ay J) J<|rF J J J<|rL J J .p0 J J<|rM J J<|aA h fun v7 e3 h=>ah.qv (wz (gk:=AV.str) (gv:=AV.str) (M:=aa.pP) (key:=q4) (Z:=[]) J J .p1 J J J e3 J) J<|rM J J<|rX J J J<|rX J J J<|rA J J<|rA J J<|rN<|ae.stop<|?_
    cases h
    exact jF _ _ J<|aj.lq [0,0,0,0] J J J
  ·refine ae.exit J<|have h:=bP h fP;aI<|rA J J<|rN<|ae.ret<|?_
   cases h
   exact hH J [0,0,0,0] J ⟨J,J⟩
theorem Ak [GI:bA] {aa:bd} {ai:List Signal} {aq:aS} {aT:Int} {r:aS×Bool×Int} (h:qe aa ai aq aT=some r):Pu Tryz.prog 56 [bd.av aa,nw ai,.str aq,I aT] (.nI [.str r.1,.bool r.2.1,I r.2.2]):=by
 unfold qe at h
 refine aG.bw Tryz.func56 J Tryz.ntmps56 Tryz.results56 J J ?_
 refine aI<|dC J J J J fun b1=>rA J J<|rA J J<|rA J J<|rN<|tS<|aI<|ah.qv (aL J J .p0 J) J<|aA h fun v2 e1 h=>bc J (lW e1) cR J<|rM J J<|aA h fun v3 e2 h=>bc J (nh e2) cR J<|aY (xs:=([v2,v3]:List Int).map I) J J J J J J<|aA h fun v4 e3 h=>bc J (yp e3) cR J<|rA J J<|rN<|aI<|rM J J<|ah.qv (jH J J) J<|rN<|cD h J (fun h=>?_) (fun h=>?_)
 ·refine aI<|rM J J<|rA J J<|rA J J<|rA J J<|rN<|ae.ret<|?_
  cases h
  exact aj.here ⟨_,.cons (.tmp _ _ J) (.cons (.tmp _ _ J) (.cons (.tmp _ _ J) .nil)),J⟩
 ·refine tK<|tS<|ae.block<|aI<|rM J J<|aA h fun v5 e4 h=>bc J (kG e4) cR J<|ah.qv (dB J) J<|rA J J<|rN<|cB h J (fun h=>?_) (fun h=>?_)
  ·refine aI<|rA J J<|rA J J<|rA J J<|rN<|ae.ret<|?_
   cases h
   exact aj.here ⟨_,.cons (.tmp _ _ J) (.cons (.tmp _ _ J) (.cons (.tmp _ _ J) .nil)),J⟩
  ·refine aI<|rM J J<|bc J (qk J) cR J<|ah.qv (dB J) J<|rA J J<|rN<|cB h J (fun h=>?_) (fun h=>?_)
   ·refine aI<|rA J J<|rA J J<|rA J J<|rN<|ae.ret<|?_
    cases h
    exact aj.here ⟨_,.cons (.tmp _ _ J) (.cons (.tmp _ _ J) (.cons (.tmp _ _ J) .nil)),J⟩
   ·refine tK<|ae.cd<|aI<|ah.qv (aL J J .p0 J) J<|rM J J<|rM J J<|aA h fun v6 e5 h=>G9 J (ug e5) cR .nil (fun _ _ _ _ _=>J) J fun b7 b8 b9 pz BY=>rM J J<|aA h fun v12 e6 h=>ba J (nC e6) cR (.cons .p0 (.cons .p1 (.cons .p1 (.cons .p1 .nil)))) J J<|rA J J<|rN<|aI<|rM J J<|rM J J<|ah.qv (zu J J) J<|rA J J<|rA J J<|rA J J<|rN<|ae.ret<|?_
    cases h
    exact aj.here ⟨_,.cons (.tmp _ _ J) (.cons (.tmp _ _ J) (.cons (.tmp _ _ J) .nil)),J⟩
theorem ra [GI:bA] {aa:Int} {r:Int} (h:fJ aa=r):Pu Tryz.prog 27 [I aa] (I r):=by
 unfold fJ at h
 refine aG.bw Tryz.func27 J Tryz.ntmps27 Tryz.results27 J J ?_
 refine aI<|rA J J<|rN<|tS<|aI<|rM J J<|bc J (vO J) cR J<|ah.qv (dB J) J<|rN<|cB h J (fun h=>?_) (fun h=>?_)
 ·refine aI<|rA J J<|rN<|ae.ret<|?_
  obtain rfl:=h
  exact hP J J
 ·refine tK<|aI<|rA J J<|rN<|ae.ret<|?_
  obtain rfl:=h
  exact hP J J
theorem uh {aa:List Signal} {r:Int} (h:k7 aa=some r):Pu Tryz.prog 15 [nw aa] (I r):=by
 unfold k7 at h
 refine aG.bw Tryz.func15 J Tryz.ntmps15 Tryz.results15 J J ?_
 refine aI<|rA J J<|rN<|tS<|aI<|rM J J<|ah.qv (ey J) J<|ah.qv (gR J J) J<|rN<|cD h J (fun h=>?_) (fun h=>?_)
 ·refine aI<|rA J J<|rN<|ae.ret<|?_
  cases h
  exact hP J J
 ·refine tK<|tS<|aI<|rM J J<|ah.qv (ey J) J<|rM J J<|rN<|ae.block<|ae.bS (fun x:Int=>fy aa x) (fun x aC=>aC=⟨97,[(0,nw aa),(10,nw aa),(11,I (aa.length:Int)),(12,I x)],[]⟩) h ?_ ?_
  ·exact aj.lq [] J J J
  ·intro n2 z1 aC J1 dL h jF fP
   obtain rfl:=dL
   replace h:fy aa n2=some z1:=h
   unfold fy at h
   refine aI<|ah.qv (bB J J) J<|rN<|tS<|cD h J (fun h=>?_) (fun h=>?_)
   ·refine tK<|tS<|ae.block<|aI<|rM J J<|aA h fun v3 e1 h=>ah.qv (bO J J J e1 J J) J<|ah.qv (bn J J J) J<|bT J J J J fun b4=>rA J J<|aE J J J J .p0 J J<|rN<|tS<|ae.bV (id:=6) (A:=[0,1,3,0,8,24,7,127]) 8 mixed J (by kernel_rfl) (by kernel_rfl)<|AM.qv (au J J) J<|AM.qv (aB J J .p0 J) J<|AM.qv (sn J J) J<|AM.qv (au J J) J<|AM.qv (aB J J .p0 J) J<|AM.qv (cH J J) J<|AM.qv (c0 J) J<|AM.qv (c0 J) J<|AM.nil<|rN<|ae.block<|aI<|rF J J J<|rL J J .p0 J J<|bc J (ra J) cR J<|ah.qv (jH J J) J<|rA J J<|rN<|cD h J (fun h=>?_) (fun h=>?_)
    ·refine aI<|rA J J<|rN<|ae.ret<|have h:=bP h fP;?_
     cases h
     exact hP J J
    ·refine tS<|ae.cut (fun aC=>∃ (c5:Bool),iS aa n2 v3 c5=some z1∧aC=⟨97,[(0,nw aa),(3,I n2),(4,.ptr b4 0),(5,.bool (decide ((3:Int)≤v3.Kind))),(6,.bool (decide (v3.Kind=(4:Int)))),(10,nw aa),(11,I (aa.length:Int)),(12,I n2),(28,.bool c5)],[(b4,.cells (wU v3))]⟩) ?_ ?_
     ·refine tR<|rF J J J<|rL J J .p0 J J<|aA h fun v6 e2 h=>bc J (uH e2) cR J<|ah.qv (dB J) J<|rM J J<|ah.guard J J J (fun hc=>?_) (fun hc=>?_)
      ·exact have h:=vz hc h;rF J J J<|rY J J J<|rL J J .p0 J J<|rY J J J<|aA h fun v7 e3 h=>bc J (uH e3) cR J<|rY J J J<|ah.qv (dB J) J<|rE J J J<|rA J J<|rN<|ae.stop<|aj.lq [0] ⟨!v7,h,J⟩ J J
      ·exact have h:=rO hc h;rG J J J J<|rG J J J J<|rG J J J J<|rT J J J<|rA J J<|rN<|ae.stop<|aj.lq [0] ⟨true,h,J⟩ J J
     ·rintro aC ⟨c5,h,rfl⟩
      unfold iS at h
      refine cB h J (fun h=>?_) (fun h=>?_)
      ·refine aI<|rA J J<|rN<|ae.ret<|have h:=bP h fP;?_
       cases h
       exact hP J J
      ·refine aI<|rF J J J<|rL J J .p0 J J<|bc J (vO J) cR J<|ah.qv (dB J) J<|rA J J<|rN<|cB h J (fun h=>?_) (fun h=>?_)
       ·refine aI<|rA J J<|rN<|ae.ret<|have h:=bP h fP;?_
        cases h
        exact hP J J
       ·refine tS<|ae.cut (fun aC=>∃ (c8:Bool),iR aa n2 v3 c8=some z1∧aC=⟨97,[(0,nw aa),(3,I n2),(4,.ptr b4 0),(5,.bool (decide ((3:Int)≤v3.Kind))),(6,.bool (decide (v3.Kind=(4:Int)))),(10,nw aa),(11,I (aa.length:Int)),(12,I n2),(44,.bool c8)],[(b4,.cells (wU v3))]⟩) ?_ ?_
        ·refine tR<|rM J J<|rM J J<|gT h J J J (fun h=>?_) (fun h=>?_)
         ·exact rF J J J<|rY J J J<|rL J J .p0 J J<|rY J J J<|aA h fun v9 e4 h=>bc J (uH e4) cR J<|rY J J J<|ah.qv (dB J) J<|rT J J J<|rA J J<|rN<|ae.stop<|aj.lq [0] ⟨!v9,h,J⟩ J J
         ·exact rG J J J J<|rG J J J J<|rG J J J J<|rE J J J<|rA J J<|rN<|ae.stop<|aj.lq [0] ⟨false,h,J⟩ J J
        ·rintro aC ⟨c8,h,rfl⟩
         unfold iR at h
         refine cB h J (fun h=>?_) (fun h=>?_)
         ·refine aI<|rA J J<|rN<|ae.ret<|have h:=bP h fP;?_
          cases h
          exact hP J J
         ·refine tS<|ae.cut (fun aC=>∃ (Qt:Bool),mF aa n2 v3 Qt=some z1∧aC=⟨97,[(0,nw aa),(3,I n2),(4,.ptr b4 0),(6,.bool (decide (v3.Kind=(4:Int)))),(10,nw aa),(11,I (aa.length:Int)),(12,I n2),(52,.bool Qt)],[(b4,.cells (wU v3))]⟩) ?_ ?_
          ·refine tR<|rM J J<|ah.qv (lM J) J<|rM J J<|ah.bJ J J J (fun hc=>?_) (fun hc=>?_)
           ·rw [lB hc] at h
            exact rF J J J<|rY J J J<|rL J J .p0 J J<|rY J J J<|ah.qv (zu J J) J<|rT J J J<|rA J J<|rN<|ae.stop<|aj.lq [0] ⟨decide (v3.By≠([]:aS)),h,J⟩ J J
           ·rw [lC hc] at h
            exact rG J J J J<|rG J J J J<|rE J J J<|rA J J<|rN<|ae.stop<|aj.lq [0] ⟨false,h,J⟩ J J
          ·rintro aC ⟨Qt,h,rfl⟩
           unfold mF at h
           refine cB h J (fun h=>?_) (fun h=>?_)
           ·refine aI<|rA J J<|rN<|ae.ret<|have h:=bP h fP;?_
            cases h
            exact hP J J
           ·refine tS<|ae.cut (fun aC=>∃ (Fa:Bool),mE aa n2 v3 Fa=some z1∧aC=⟨97,[(0,nw aa),(3,I n2),(4,.ptr b4 0),(6,.bool (decide (v3.Kind=(4:Int)))),(10,nw aa),(11,I (aa.length:Int)),(12,I n2),(60,.bool Fa)],[(b4,.cells (wU v3))]⟩) ?_ ?_
            ·refine tR<|rM J J<|rM J J<|ah.bJ J J J (fun hc=>?_) (fun hc=>?_)
             ·rw [lB hc] at h
              exact rF J J J<|rY J J J<|rL J J .p0 J J<|rY J J J<|rF J J J<|rY J J J<|rL J J .p0 J J<|rY J J J<|ah.qv (aV J J) J<|rY J J J<|rF J J J<|rY J J J<|rL J J .p0 J J<|rY J J J<|ah.qv (aV J J) J<|rY J J J<|ah.qv (IS J J) J<|rY J J J<|bc J (vO J) cR J<|rY J J J<|ah.qv (dB J) J<|rT J J J<|rA J J<|rN<|ae.stop<|aj.lq [0] ⟨!(ze v3.bh (aN (v3.At+(1:Int))) (min (aN (v3.At+(2592000000:Int))) (345686400000:Int))),h,J⟩ J J
             ·rw [lC hc] at h
              exact rG J J J J<|rG J J J J<|rG J J J J<|rG J J J J<|rG J J J J<|rG J J J J<|rG J J J J<|rG J J J J<|rG J J J J<|rG J J J J<|rE J J J<|rA J J<|rN<|ae.stop<|aj.lq [0] ⟨false,h,J⟩ J J
            ·rintro aC ⟨Fa,h,rfl⟩
             unfold mE at h
             refine cB h J (fun h=>?_) (fun h=>?_)
             ·refine aI<|rA J J<|rN<|ae.ret<|have h:=bP h fP;?_
              cases h
              exact hP J J
             ·refine tS<|ae.cut (fun aC=>∃ (JT:Bool),mD aa n2 v3 JT=some z1∧aC=⟨97,[(0,nw aa),(3,I n2),(4,.ptr b4 0),(10,nw aa),(11,I (aa.length:Int)),(12,I n2),(75,.bool JT)],[(b4,.cells (wU v3))]⟩) ?_ ?_
              ·refine tR<|rM J J<|ah.qv (lM J) J<|rM J J<|ah.bJ J J J (fun hc=>?_) (fun hc=>?_)
               ·rw [lB hc] at h
                exact rF J J J<|rY J J J<|rL J J .p0 J J<|rY J J J<|ah.qv (jH J J) J<|rT J J J<|rA J J<|rN<|ae.stop<|aj.lq [0] ⟨decide (v3.bh≠(0:Int)),h,J⟩ J J
               ·rw [lC hc] at h
                exact rG J J J J<|rG J J J J<|rE J J J<|rA J J<|rN<|ae.stop<|aj.lq [0] ⟨false,h,J⟩ J J
              ·rintro aC ⟨JT,h,rfl⟩
               unfold mD at h
               refine cB h J (fun h=>?_) (fun h=>?_)
               ·refine aI<|rA J J<|rN<|ae.ret<|have h:=bP h fP;?_
                cases h
                exact hP J J
               ·refine tS<|ae.cut (fun aC=>∃ (Fc:Bool),ko n2 Fc=some z1∧aC=⟨97,[(0,nw aa),(10,nw aa),(11,I (aa.length:Int)),(12,I n2),(83,.bool Fc)],[]⟩) ?_ ?_
                ·refine ae.bV (id:=21) (A:=[0,1,3,7,7,23,63,127,7,511,1023,2047,4095]) 13 mixed J (by kernel_rfl) (by kernel_rfl)<|AM.qv (ax J) J<|AM.qv (gR J J) J<|AM.qv (ax J) J<|AM.bJ J J J (fun hc=>?_) (fun hc=>?_)
                 ·exact have h:=rO hc h;AM.qv (ax J) J<|AM.aF J J J<|AM.qv (ax J) J<|AM.aF J J J<|AM.qv (bF J J) J<|AM.aF J J J<|aA h fun gh e5 h=>AM.qv (bO J J J e5 J J) J<|AM.aF J J J<|AM.qv (bn J J J) J<|AM.aF J J J<|AM.qv (aL J J .p0 J) J<|AM.aF J J J<|aA h fun rS e6 h=>AM.jR J (qV e6) cR J<|AM.aF J J J<|AM.qv (sn J J) J<|AM.qv (jv J J) J<|AM.qv (c0 J) J<|AM.nil<|rN<|ae.stop<|aj.lq [] ⟨decide ((0:Int)≤rS),h,J⟩ J J
                 ·exact have h:=yU hc h;AM.aJ J J J J<|AM.aJ J J J J<|AM.aJ J J J J<|AM.aJ J J J J<|AM.aJ J J J J<|AM.aJ J J J J<|AM.aJ J J J J<|AM.qv (iX J J) J<|AM.qv (c0 J) J<|AM.nil<|rN<|ae.stop<|aj.lq [] ⟨false,h,J⟩ J J
                ·rintro aC ⟨Fc,h,rfl⟩
                 unfold ko at h
                 refine cB h J (fun h=>?_) (fun h=>?_)
                 ·refine aI<|rA J J<|rN<|ae.ret<|have h:=bP h fP;?_
                  cases h
                  exact hP J J
                 ·refine tK<|ae.cd<|ae.cd<|tR<|ah.qv (aV J J) J<|rM J J<|rN<|ae.stop<|?_
                  cases h
                  exact jF _ _ J<|aj.lq [] J J J
   ·refine ae.exit J<|have h:=bP h fP;aI<|rA J J<|rN<|ae.ret<|?_
    cases h
    exact hP J J
theorem rb [GI:bA] {aa:List Signal} {r:(List Signal)} (h:eV aa=some r):aG Tryz.prog 12 [.list 6 (aa.map Signal.av)] [] (T1 (fun lV=>[(lV,.arr 6 (r.map Signal.av))]) (fun lV=>.sl 6 lV 0 r.length)):=by
 unfold eV at h
 refine aG.dD ?_
 refine aG.bw Tryz.func12 J Tryz.ntmps12 Tryz.results12 J J ?_
 refine ae.seq ?_
 refine ae.region ?_
 refine ah.qv (c0 J) J ?_
 refine ah.nil ?_
 refine ae.seq ?_
 refine ae.seq ?_
 refine ae.region ?_
 refine ah.qv (ax J) J ?_
 refine LR J J J J (fun c hc=>?_)
 refine ah.nil ?_
 refine ae.cond J (fun hT=>?_) (fun hF=>?_)
 ·obtain rfl:=Dy h (List.map_eq_nil_iff.1 (hc hT))
  refine ae.seq ?_
  refine ae.region ?_
  refine ah.qv (c0 J) J ?_
  refine ah.nil ?_
  refine ae.ret ?_
  refine aj.arr (s:=2) 6 J (fun b1=>?_)
  exact aj.here ⟨_,.cons (.tmp _ _ J) .nil,_,.cons .here .nil,⟨b1,J,J⟩⟩
 ·refine ae.skip ?_
  refine ae.seq ?_
  refine ae.region ?_
  refine Dn (xs:=([]:List Signal).map Signal.av) J J J J J J (fun b2=>?_)
  refine ah.qv (ax J) J ?_
  refine dq (g:=Signal.av) (Xs:=[]) J J J J J J J J (.list _) h (fun _=>.here) J (fun b3=>?_)
  refine ah.qv (c0 J) J ?_
  refine ah.nil ?_
  refine ae.ret ?_
  exact aj.here ⟨_,.cons (.tmp _ _ J) .nil,_,.cons .here .nil,⟨b3,J,J⟩⟩
theorem Ci [GI:bA] {aa:Signal} {ai:Int} {r:Bool} (h:lF aa ai=r):Pu Tryz.prog 171 [Signal.av aa,.gg [I ai]] (.bool r):=by
 unfold lF at h
 refine aG.bw Tryz.func171 J Tryz.ntmps171 Tryz.results171 J J ?_
 refine aI<|dC J J J J fun b1=>rA J J<|rN<|aI<|rF J J J<|rL J J .p0 J J<|ah.qv (aU J J J) J<|ah.qv (gR J J) J<|rA J J<|rN<|ae.ret<|?_
 obtain rfl:=h
 exact hP J J
theorem pq [GI:bA] {aa:List Signal} {dH:Signal→Option Bool} {cu:FuncId} [bq Tryz.prog cu] {dP:List AV} (kJ:∀ {y0:_} {u:Bool},dH y0=some u→Pu Tryz.prog cu (Signal.av y0 :: dP) (.bool u)) {r:Int} (h:ia aa dH=some r):Pu Tryz.prog 135 [nw aa,.func (.func cu) dP] (I r):=by
 unfold ia at h
 refine aG.bw Tryz.func135 J Tryz.ntmps135 Tryz.results135 J J ?_
 refine aI<|rA J J<|rN<|tS<|aI<|rM J J<|ah.qv (ey J) J<|rM J J<|rN<|ae.block<|ae.bS (fun x:Int=>dJ aa dH x) (fun x aC=>aC=⟨19,[(0,nw aa),(1,.func (.func cu) dP),(7,I (aa.length:Int)),(8,I x)],[]⟩) h ?_ ?_
 ·exact aj.lq [] J J J
 ·intro n2 z1 aC J1 dL h jF fP
  obtain rfl:=dL
  replace h:dJ aa dH n2=some z1:=h
  unfold dJ at h
  refine aI<|ah.qv (bB J J) J<|rN<|tS<|cD h J (fun h=>?_) (fun h=>?_)
  ·refine tK<|tS<|ae.block<|aI<|rM J J<|rA J J<|rN<|aI<|rM J J<|rM J J<|rM J J<|aA h fun v3 e1 h=>ah.qv (bO J J J e1 J J) J<|ah.qv (bn J J J) J<|aA h fun v4 e2 h=>so J J (kJ e2) cR J<|rN<|cB h J (fun h=>?_) (fun h=>?_)
   ·refine aI<|rM J J<|rA J J<|rN<|ae.ret<|have h:=bP h fP;?_
    cases h
    exact hP J J
   ·refine tK<|ae.cd<|tR<|ah.qv (aV J J) J<|rM J J<|rN<|ae.stop<|?_
    cases h
    exact jF _ _ J<|aj.lq [] J J J
  ·refine ae.exit J<|have h:=bP h fP;aI<|rA J J<|rN<|ae.ret<|?_
   cases h
   exact hP J J
theorem oS [GI:bA] {aM:Bk} {aa:List Signal} {dH:Signal→Option Bool} {cu:FuncId} [bq Tryz.prog cu] {dP:List AV} (kJ:∀ {y0:_} {u:Bool},dH y0=some u→Pu Tryz.prog cu (Signal.av y0 :: dP) (.bool u)) {r:(List Signal)} (h:cN aa dH=some r):aG Tryz.prog 170 [.sl 6 aM 0 aa.length,.func (.func cu) dP] [(aM,fS aa)] (T1 (fun lV=>[(lV,fS r)]) (fun lV=>.sl 6 lV 0 r.length)):=by
 unfold cN at h
 refine aG.dD ?_
 refine aG.bw Tryz.func170 J Tryz.ntmps170 Tryz.results170 J J ?_
 refine aI<|rA J J<|rN<|aI<|rM J J<|rM J J<|aA h fun v1 e1 h=>gi J (pq kJ e1) (.cons (nJ.qR .p0) (.cons (.co (.refl _)) .nil)) J J<|rA J J<|rN<|tS<|aI<|rM J J<|ah.qv (cH J J) J<|rN<|cD h J (fun h=>?_) (fun h=>?_)
 ·refine aI<|rM J J<|rA J J<|rN<|ae.ret<|?_
  cases h
  exact hH J [0] J ⟨aM,J,J⟩
 ·refine tK<|tS<|aI<|rM J J<|ah.qv (aV J J) J<|rA J J<|rN<|ae.block<|ae.bS (fun x:(List Signal)×Int×Int=>dA dH x.1 x.2.1 x.2.2) (fun x aC=>aC=⟨42,[(0,.sl 6 aM 0 x.1.length),(1,.func (.func cu) dP),(5,I x.2.1),(6,I x.2.2)],[(aM,fS x.1)]⟩) h ?_ ?_
  ·exact aj.lq [0] J J J
  ·intro x z1 aC J1 dL h jF fP
   obtain ⟨l5,n6,n7⟩:=x
   obtain rfl:=dL
   replace h:dA dH l5 n6 n7=some z1:=h
   unfold dA at h
   refine tS<|aI<|rM J J<|rM J J<|ah.qv (eR J) J<|ah.qv (bB J J) J<|rN<|cD h J (fun h=>?_) (fun h=>?_)
   ·refine tK<|tS<|ae.block<|aI<|rM J J<|rM J J<|aA h fun v8 e2 h=>ah.qv (aP J J J e2) J<|ah.qv (aR (g:=Signal.av) J J (.inl .p0) J e2 J) J<|bT J J J J fun b9=>aE J J J J .p0 J J<|rN<|aI<|rM J J<|ah.qv (aL J J .p0 J) J<|aA h fun v10 e3 h=>so J J (kJ e3) cR J<|ah.qv (dB J) J<|rN<|ae.cut (fun aC=>∃ (iY:List Signal) (n12:Int),dz n7 iY n12=some z1∧aC=⟨42,[(0,.sl 6 aM 0 iY.length),(1,.func (.func cu) dP),(5,I n12),(6,I n7)],[(aM,fS iY)]⟩) ?_ ?_
    ·refine cB h J (fun h=>?_) (fun h=>?_)
     ·exact aI<|rM J J<|rM J J<|ah.qv (aL J J .p0 J) J<|aA h fun gb e4 h=>ah.qv (aP J J J e4) J<|br (g:=Signal.av) (uB:=v8) J J J J e4 J .p1 J<|ah.ghost<|aj.eqs (s:=0) (bZ:=.sl 6 aM 0 (l5.set n6.toNat v8).length) J (by rw [List.length_set])<|aj.here<|ah.ghost<|aj.eqs (s:=17) (bZ:=.sl 6 aM 0 (l5.set n6.toNat v8).length) J (by rw [List.length_set])<|aj.here<|ah.ghost<|aj.eqs (s:=22) (bZ:=.sl 6 aM 0 (l5.set n6.toNat v8).length) J (by rw [List.length_set])<|aj.here<|ah.ghost<|aj.eqs (s:=30) (bZ:=.sl 6 aM 0 (l5.set n6.toNat v8).length) J (by rw [List.length_set])<|aj.here<|rN<|tR<|rM J J<|ah.qv (aV J J) J<|rA J J<|rN<|ae.stop<|aj.lq [1] ⟨l5.set n6.toNat v8,aN (n6+(1:Int)),h,J⟩ J J
     ·exact tK<|ae.stop<|aj.lq [1] ⟨l5,n6,h,J⟩ J J
    ·rintro aC ⟨iY,n12,h,rfl⟩
     unfold dz at h
     refine ae.cd<|tR<|rM J J<|ah.qv (aV J J) J<|rA J J<|rN<|ae.stop<|?_
     cases h
     exact jF _ _ J<|aj.lq [0] J J J
   ·refine ae.exit J<|have h:=bP h fP;?_
    unfold jC at h
    refine aI<|rM J J<|rM J J<|aA h fun oG e5 h=>ah.qv (mL J J (.some _ _ _ J) .none J J e5) J<|Dz (g:=Signal.av) (Z:=(⟨(0:Int),(0:Int),[],[],[],(0:Int)⟩:Signal)) (L:=n6) J J J J J J e5 .p0<|ah.ghost<|aj.eqs (s:=0) (bZ:=.sl 6 aM 0 (Ay l5 n6 oG.length (⟨(0:Int),(0:Int),[],[],[],(0:Int)⟩:Signal)).length) J (congrArg (AV.sl 6 aM 0) (tb e5))<|aj.here<|ah.ghost<|aj.eqs (s:=17) (bZ:=.sl 6 aM 0 (Ay l5 n6 oG.length (⟨(0:Int),(0:Int),[],[],[],(0:Int)⟩:Signal)).length) J (congrArg (AV.sl 6 aM 0) (tb e5))<|aj.here<|ah.ghost<|aj.eqs (s:=36) (bZ:=.sl 6 aM 0 (Ay l5 n6 oG.length (⟨(0:Int),(0:Int),[],[],[],(0:Int)⟩:Signal)).length) J (congrArg (AV.sl 6 aM 0) (tb e5))<|aj.here<|rN<|aI<|rM J J<|rM J J<|aA h fun oh e6 h=>ah.qv (mL J J .none (.some _ _ _ J) J J e6) J<|rA J J<|ah.ghost<|aj.Jw e6 .p0<|aj.here<|rN<|ae.ret<|?_
    cases h
    exact hH J [0] J ⟨aM,J,J⟩
theorem Al [GI:bA] {aa:an} {ai:Signal} {r:Bool} (h:jo aa ai=r):Pu Tryz.prog 155 [.gg [.str aa.aO,.str aa.bf,nw aa.bK,I aa.aK,I aa.az.dR,I aa.az.To],.gg [I ai.At,I ai.Kind,.str ai.Device,.str ai.aZ,.str ai.By,I ai.bh]] (.bool r):=by
 unfold jo at h
 refine aG.bw Tryz.func155 J Tryz.ntmps155 Tryz.results155 J J ?_
 refine aI<|rA J J<|rN<|tS<|ae.cut (fun aC=>∃ (c1:Bool),nu c1=r∧aC=⟨20,[(3,.bool c1)],[]⟩) ?_ ?_
 ·refine ae.bV (id:=1) (A:=[0,1,3,7,0,16,63,127,255,511,1023,2047,255,4351,16383,32767,65535]) 17 mixed J (by kernel_rfl) (by kernel_rfl)<|AM.qv (ax J) J<|AM.qv (bt J) J<|AM.qv (bb J J) J<|AM.qv (aU J J J) J<|AM.qv (bb J J) J<|AM.qv (aU J J J) J<|AM.qv (uX J J) J<|AM.qv (ax J) J<|AM.bJ J J J (fun hc=>?_) (fun hc=>?_)
  ·rw [lB hc] at h
   exact AM.qv (ax J) J<|AM.aF J J J<|AM.qv (bt J) J<|AM.aF J J J<|AM.qv (bb J J) J<|AM.aF J J J<|AM.qv (aU J J J) J<|AM.aF J J J<|AM.qv (bb J J) J<|AM.aF J J J<|AM.qv (aU J J J) J<|AM.aF J J J<|AM.qv (uX J J) J<|AM.qv (jv J J) J<|AM.qv (c0 J) J<|AM.nil<|rN<|ae.stop<|aj.lq [] ⟨decide (aa.bf=ai.aZ),h,J⟩ J J
  ·rw [lC hc] at h
   exact AM.aJ J J J J<|AM.aJ J J J J<|AM.aJ J J J J<|AM.aJ J J J J<|AM.aJ J J J J<|AM.aJ J J J J<|AM.qv (iX J J) J<|AM.qv (c0 J) J<|AM.nil<|rN<|ae.stop<|aj.lq [] ⟨false,h,J⟩ J J
 ·rintro aC ⟨c1,h,rfl⟩
  unfold nu at h
  refine ae.ret<|?_
  obtain rfl:=h
  exact hP J J
theorem nX [GI:bA] {aa:List an} {dH:an→Option Bool} {cu:FuncId} [bq Tryz.prog cu] {dP:List AV} (kJ:∀ {y0:_} {u:Bool},dH y0=some u→Pu Tryz.prog cu (.gg [.str y0.aO,.str y0.bf,nw y0.bK,I y0.aK,I y0.az.dR,I y0.az.To] :: dP) (.bool u)) {r:Int} (h:dK aa dH=some r):Pu Tryz.prog 154 [Cb aa,.func (.func cu) dP] (I r):=by
 unfold dK at h
 refine aG.bw Tryz.func154 J Tryz.ntmps154 Tryz.results154 J J ?_
 refine aI<|rA J J<|rN<|tS<|aI<|rM J J<|ah.qv (ey J) J<|rM J J<|rN<|ae.block<|ae.bS (fun x:Int=>cV aa dH x) (fun x aC=>aC=⟨19,[(0,Cb aa),(1,.func (.func cu) dP),(7,I (aa.length:Int)),(8,I x)],[]⟩) h ?_ ?_
 ·exact aj.lq [] J J J
 ·intro n2 z1 aC J1 dL h jF fP
  obtain rfl:=dL
  replace h:cV aa dH n2=some z1:=h
  unfold cV at h
  refine aI<|ah.qv (bB J J) J<|rN<|tS<|cD h J (fun h=>?_) (fun h=>?_)
  ·refine tK<|tS<|ae.block<|aI<|rM J J<|rA J J<|rN<|aI<|rM J J<|rM J J<|rM J J<|aA h fun v3 e1 h=>ah.qv (bO J J J e1 J J) J<|ah.qv (aU J J J) J<|aA h fun v4 e2 h=>so J J (kJ e2) cR J<|rN<|cB h J (fun h=>?_) (fun h=>?_)
   ·refine aI<|rM J J<|rA J J<|rN<|ae.ret<|have h:=bP h fP;?_
    cases h
    exact hP J J
   ·refine tK<|ae.cd<|tR<|ah.qv (aV J J) J<|rM J J<|rN<|ae.stop<|?_
    cases h
    exact jF _ _ J<|aj.lq [] J J J
  ·refine ae.exit J<|have h:=bP h fP;aI<|rA J J<|rN<|ae.ret<|?_
   cases h
   exact hP J J
theorem Bw [GI:bA] {aM:Bk} {fQ:Bk} {aa:an} {ai:Signal} {r:Int×an} (h:ph aa ai=some r):aG Tryz.prog 156 [.ptr aM 0,Signal.av ai] [(aM,.cells [.str aa.aO,.str aa.bf,.sl 6 fQ 0 aa.bK.length,I aa.aK,I aa.az.dR,I aa.az.To]),(fQ,fS aa.bK)] (T1 (fun Ke=>[(aM,.cells [.str r.2.aO,.str r.2.bf,.sl 6 Ke 0 r.2.bK.length,I r.2.aK,I r.2.az.dR,I r.2.az.To]),(Ke,fS r.2.bK)]) (fun Ke=>I r.1)):=by
 unfold ph at h
 refine aG.dD ?_
 refine aG.bw Tryz.func156 J Tryz.ntmps156 Tryz.results156 J J ?_
 refine aI<|dC J J J J fun b1=>rA J J<|rN<|tS<|ae.cut (fun aC=>∃ (c2:Bool),ou aa ai c2=some r∧aC=⟨110,[(0,.ptr aM 0),(3,.ptr b1 0),(5,.bool c2)],[(aM,.cells [.str aa.aO,.str aa.bf,.sl 6 fQ 0 aa.bK.length,I aa.aK,I aa.az.dR,I aa.az.To]),(fQ,fS aa.bK),(b1,.cells (wU ai))]⟩) ?_ ?_
 ·refine tR<|rM J J<|ah.qv (ay J) J<|rF J J J<|rL J J .p1 J J<|ah.qv (cH J J) J<|rM J J<|ah.fU J J J (fun hc=>?_) (fun hc=>?_)
  ·rw [Ae hc] at h
   exact rM J J<|rY J J J<|ah.qv (ay J) J<|rY J J J<|rF J J J<|rY J J J<|rL J J .p1 J J<|rY J J J<|ah.qv (cH J J) J<|rE J J J<|rA J J<|rN<|ae.stop<|aj.lq [1,1,0] ⟨decide (aa.aK=(2:Int)),h,J⟩ J J
  ·rw [Ad hc] at h
   exact rG J J J J<|rG J J J J<|rG J J J J<|rG J J J J<|rT J J J<|rA J J<|rN<|ae.stop<|aj.lq [1,1,0] ⟨true,h,J⟩ J J
 ·rintro aC ⟨c2,h,rfl⟩
  unfold ou at h
  refine tS<|ae.cut (fun aC=>∃ (c3:Bool),ot aa ai c2 c3=some r∧aC=⟨110,[(0,.ptr aM 0),(3,.ptr b1 0),(5,.bool c2),(6,.bool c3)],[(aM,.cells [.str aa.aO,.str aa.bf,.sl 6 fQ 0 aa.bK.length,I aa.aK,I aa.az.dR,I aa.az.To]),(fQ,fS aa.bK),(b1,.cells (wU ai))]⟩) ?_ ?_
  ·refine ae.bV (id:=2) (A:=[0,1,3,7,15,0,32,127,255,511,1023,511,2559,6655,14847,31231,65535,131071,262143]) 19 mixed J (by kernel_rfl) (by kernel_rfl)<|AM.qv (ax J) J<|AM.qv (ay J) J<|AM.qv (au J J) J<|AM.qv (au J J) J<|AM.qv (aB J J .p0 J) J<|AM.qv (au J J) J<|AM.qv (aB J J .p2 J) J<|AM.qv (oW J J) J<|AM.qv (ax J) J<|AM.bJ J J J (fun hc=>?_) (fun hc=>?_)
   ·rw [lB hc] at h
    exact AM.qv (au J J) J<|AM.aF J J J<|AM.qv (aB J J .p2 J) J<|AM.aF J J J<|AM.qv (ax J) J<|AM.aF J J J<|AM.qv (ay J) J<|AM.aF J J J<|AM.qv (au J J) J<|AM.aF J J J<|AM.qv (au J J) J<|AM.aF J J J<|AM.qv (aB J J .p0 J) J<|AM.aF J J J<|AM.qv (bB J J) J<|AM.qv (jv J J) J<|AM.qv (c0 J) J<|AM.nil<|rN<|ae.stop<|aj.lq [0,0,0] ⟨decide (ai.At < aa.az.To),h,J⟩ J J
   ·rw [lC hc] at h
    exact AM.aJ J J J J<|AM.aJ J J J J<|AM.aJ J J J J<|AM.aJ J J J J<|AM.aJ J J J J<|AM.aJ J J J J<|AM.aJ J J J J<|AM.qv (iX J J) J<|AM.qv (c0 J) J<|AM.nil<|rN<|ae.stop<|aj.lq [0,0,0] ⟨false,h,J⟩ J J
  ·rintro aC ⟨c3,h,rfl⟩
   unfold ot at h
   refine tS<|aI<|rF J J J<|rL J J .p2 J J<|rN<|ae.block<|aI<|ah.qv (cH J J) J<|rA J J<|rN<|ae.cut (fun aC=>∃ (n4:Int) (n5:Int) (n6:Int),jM aa ai n4 n5 n6=some r∧aC=⟨110,[(0,.ptr aM 0),(3,.ptr b1 0)],[(aM,.cells [.str aa.aO,.str aa.bf,.sl 6 fQ 0 aa.bK.length,I n4,I n5,I n6]),(fQ,fS aa.bK),(b1,.cells (wU ai))]⟩) ?_ ?_
   ·refine cD h J (fun h=>?_) (fun h=>?_)
    ·refine tS<|aI<|rM J J<|rN<|cB h J (fun h=>?_) (fun h=>?_)
     ·refine aI<|rA J J<|rN<|ae.ret<|?_
      cases h
      exact hH J [0,0] J ⟨fQ,J,J⟩
     ·exact tK<|tR<|rM J J<|ah.qv (ay J) J<|rF J J J<|aE J J J J .p0 J J<|rN<|ae.stop<|aj.lq [0,0,0] ⟨(1:Int),aa.az.dR,aa.az.To,h,J⟩ J J
    ·refine aI<|ah.qv (cH J J) J<|rA J J<|rN<|ae.cut (fun aC=>∃ (n7:Int) (n8:Int) (n9:Int),gH aa ai n7 n8 n9=some r∧aC=⟨110,[(0,.ptr aM 0),(3,.ptr b1 0)],[(aM,.cells [.str aa.aO,.str aa.bf,.sl 6 fQ 0 aa.bK.length,I n7,I n8,I n9]),(fQ,fS aa.bK),(b1,.cells (wU ai))]⟩) ?_ ?_
     ·refine cD h J (fun h=>?_) (fun h=>?_)
      ·refine tS<|aI<|rM J J<|ah.qv (dB J) J<|rN<|cB h J (fun h=>?_) (fun h=>?_)
       ·refine aI<|rA J J<|rN<|ae.ret<|?_
        cases h
        exact hH J [0,0] J ⟨fQ,J,J⟩
       ·exact tK<|tR<|rM J J<|pO J fun pz=>yb (gk:=I) (gv:=I) (M:=([]:List (Int×Int))) (key:=(1:Int)) (v:=(3:Int)) J J J J .p0<|yb (gk:=I) (gv:=I) (M:=(jh ([]:List (Int×Int)) (1:Int) (3:Int))) (key:=(2:Int)) (v:=(0:Int)) J J J J .p0<|rM J J<|rM J J<|ah.qv (ay J) J<|rF J J J<|rL J J .p1 J J<|aA h fun v11 e1 h=>ah.qv (ss (gk:=I) (gv:=I) (M:=(jh (jh ([]:List (Int×Int)) (1:Int) (3:Int)) (2:Int) (0:Int))) (key:=aa.aK) (Z:=(0:Int)) J J .p0 J J J e1 J) J<|ah.qv (ay J) J<|rF J J J<|aE J J J J .p1 J J<|rN<|ae.stop<|aj.lq [1,1,1] ⟨v11,aa.az.dR,aa.az.To,h,J⟩ J J
      ·refine aI<|ah.qv (cH J J) J<|rA J J<|rN<|ae.cut (fun aC=>∃ (n12:Int) (n13:Int) (n14:Int),jN aa ai n12 n13 n14=some r∧aC=⟨110,[(0,.ptr aM 0),(3,.ptr b1 0)],[(aM,.cells [.str aa.aO,.str aa.bf,.sl 6 fQ 0 aa.bK.length,I n12,I n13,I n14]),(fQ,fS aa.bK),(b1,.cells (wU ai))]⟩) ?_ ?_
       ·refine cD h J (fun h=>?_) (fun h=>?_)
        ·refine tS<|tS<|ae.cut (fun aC=>∃ (Fb:Bool),oq aa ai Fb=some r∧aC=⟨110,[(0,.ptr aM 0),(3,.ptr b1 0),(78,.bool Fb)],[(aM,.cells [.str aa.aO,.str aa.bf,.sl 6 fQ 0 aa.bK.length,I aa.aK,I aa.az.dR,I aa.az.To]),(fQ,fS aa.bK),(b1,.cells (wU ai))]⟩) ?_ ?_
         ·refine tR<|rM J J<|ah.qv (ay J) J<|rF J J J<|rL J J .p0 J J<|ah.qv (jH J J) J<|rM J J<|ah.bJ J J J (fun hc=>?_) (fun hc=>?_)
          ·rw [lB hc] at h
           exact rM J J<|rY J J J<|ah.qv (ay J) J<|rY J J J<|rF J J J<|rY J J J<|rL J J .p0 J J<|rY J J J<|ah.qv (jH J J) J<|rT J J J<|rN<|ae.stop<|aj.lq [0,0,0] ⟨decide (aa.aK≠(3:Int)),h,J⟩ J J
          ·rw [lC hc] at h
           exact rG J J J J<|rG J J J J<|rG J J J J<|rG J J J J<|rE J J J<|rN<|ae.stop<|aj.lq [0,0,0] ⟨false,h,J⟩ J J
         ·rintro aC ⟨Fb,h,rfl⟩
          unfold oq at h
          refine cB h J (fun h=>?_) (fun h=>?_)
          ·refine aI<|rA J J<|rN<|ae.ret<|?_
           cases h
           exact hH J [0,0] J ⟨fQ,J,J⟩
          ·exact tK<|tR<|rM J J<|pO J fun CV=>yb (gk:=I) (gv:=I) (M:=([]:List (Int×Int))) (key:=(1:Int)) (v:=(2:Int)) J J J J .p0<|yb (gk:=I) (gv:=I) (M:=(jh ([]:List (Int×Int)) (1:Int) (2:Int))) (key:=(3:Int)) (v:=(0:Int)) J J J J .p0<|rM J J<|rM J J<|ah.qv (ay J) J<|rF J J J<|rL J J .p1 J J<|aA h fun v17 e2 h=>ah.qv (ss (gk:=I) (gv:=I) (M:=(jh (jh ([]:List (Int×Int)) (1:Int) (2:Int)) (3:Int) (0:Int))) (key:=aa.aK) (Z:=(0:Int)) J J .p0 J J J e2 J) J<|ah.qv (ay J) J<|rF J J J<|aE J J J J .p1 J J<|rN<|ae.stop<|aj.lq [1,1,1] ⟨v17,aa.az.dR,aa.az.To,h,J⟩ J J
        ·refine aI<|ah.qv (cH J J) J<|rA J J<|rN<|ae.cut (fun aC=>∃ (n18:Int) (n19:Int),mg aa ai n18 n19=some r∧aC=⟨110,[(0,.ptr aM 0),(3,.ptr b1 0)],[(aM,.cells [.str aa.aO,.str aa.bf,.sl 6 fQ 0 aa.bK.length,I aa.aK,I n18,I n19]),(fQ,fS aa.bK),(b1,.cells (wU ai))]⟩) ?_ ?_
         ·refine cD h J (fun h=>?_) (fun h=>?_)
          ·refine tS<|aI<|rM J J<|rN<|cB h J (fun h=>?_) (fun h=>?_)
           ·refine aI<|rA J J<|rN<|ae.ret<|?_
            cases h
            exact hH J [0,0] J ⟨fQ,J,J⟩
           ·exact tK<|tR<|rM J J<|rF J J J<|rL J J .p2 J J<|rF J J J<|rL J J .p2 J J<|ah.qv (cF J J J J J) J<|ah.qv (ay J) J<|rF J J J<|aE J J J J .p0 J J<|rN<|ae.stop<|aj.lq [0,0,0] ⟨ai.At,ai.bh,h,J⟩ J J
          ·refine tS<|aI<|rM J J<|ah.qv (dB J) J<|rN<|cB h J (fun h=>?_) (fun h=>?_)
           ·refine aI<|rA J J<|rN<|ae.ret<|?_
            cases h
            exact hH J [0,0] J ⟨fQ,J,J⟩
           ·exact tK<|tR<|rM J J<|ah.qv (cF J J J J J) J<|ah.qv (ay J) J<|rF J J J<|aE J J J J .p0 J J<|rN<|ae.stop<|aj.lq [0,0,0] ⟨(0:Int),(0:Int),h,J⟩ J J
         ·rintro aC ⟨n18,n19,h,rfl⟩
          unfold mg at h
          exact ae.stop<|aj.lq [0,0,0] ⟨aa.aK,n18,n19,h,J⟩ J J
       ·rintro aC ⟨n12,n13,n14,h,rfl⟩
        unfold jN at h
        exact ae.stop<|aj.lq [0,0,0] ⟨n12,n13,n14,h,J⟩ J J
     ·rintro aC ⟨n7,n8,n9,h,rfl⟩
      unfold gH at h
      exact ae.stop<|aj.lq [0,0,0] ⟨n7,n8,n9,h,J⟩ J J
   ·rintro aC ⟨n4,n5,n6,h,rfl⟩
    unfold jM at h
    refine ae.cd<|tS<|aA h fun qP e3 h=>ae.fK (id:=23) (A:=[0,0,2,6,14,0,32,126,255,511,1023]) (H0:=[(fQ,fS aa.bK)]) (HH:=fun β=>[((β 7),fS qP),(aM,.cells [.str aa.aO,.str aa.bf,.sl 6 fQ 0 aa.bK.length,I n4,I n5,I n6]),(b1,.cells (wU ai))]) 8 mixed J (by kernel_rfl) (by kernel_rfl) [⟨none,some 7,[],fun _=>(fQ,fS aa.bK),none,[]⟩,⟨some 7,none,[],fun b=>(b,fS qP),none,[]⟩] [7] J (by kernel_rfl) J (.cons .p1 .nil) (fun _=>J)<|AT.am 7 J J<|AM.qv (ax J) J<|AM.qv (ax J) J<|AM.qv (ay J) J<|AM.qv (au J J) J<|AM.qv (aB J J .p0 J) J<|AM.qv (aL J J .p1 J) J<|AM.bU (xs:=([ai]:List Signal).map Signal.av) J J J J J J<|AM.nil<|AT.B7 (V:=fun b=>.sl 6 b 0 qP.length) (Ti:=[(fQ,fS aa.bK)]) (Pi:=fun b=>[(b,fS qP)]) (fun _=>J) (fun _=>J) (fun _ _=>J) J (fun _=>J) J J J ?_ ?_
    ·exact dq (g:=Signal.av) J J J J J J J J (.list _) e3 (fun _=>.p0) J fun Bp=>ah.nil ⟨Bp,_,J,J⟩
    refine AT.qS (fun _=>J) fun β=>?_
    generalize β 7=Bp
    clear β
    refine ah.qv (ay J) J<|rF J J J<|aE J J J J .p1 J J<|rN<|aI<|rA J J<|rN<|ae.ret<|?_
    cases h
    exact hH J [1,0] J ⟨Bp,J,J⟩
theorem Am [GI:bA] {aa:an} {ai:an} {r:Int} (h:mn aa ai=some r):Pu Tryz.prog 158 [.gg [.str aa.aO,.str aa.bf,nw aa.bK,I aa.aK,I aa.az.dR,I aa.az.To],.gg [.str ai.aO,.str ai.bf,nw ai.bK,I ai.aK,I ai.az.dR,I ai.az.To]] (I r):=by
 unfold mn at h
 refine aG.bw Tryz.func158 J Tryz.ntmps158 Tryz.results158 J J ?_
 refine aI<|rA J J<|rN<|tS<|ae.bV (id:=1) (A:=[0,1,3,7,0,16,48,112,255,0,512,1536,3584,0,8192,24576,57344,131071,262143,524287,1048575]) 21 mixed J (by kernel_rfl) (by kernel_rfl)<|AM.qv (ax J) J<|AM.qv (bt J) J<|AM.qv (bb J J) J<|AM.qv (aU J J J) J<|AM.qv (ax J) J<|AM.qv (bt J) J<|AM.qv (bb J J) J<|AM.qv (aU J J J) J<|AM.jR J (df J) cR J<|AM.qv (ax J) J<|AM.qv (bt J) J<|AM.qv (bb J J) J<|AM.qv (aU J J J) J<|AM.qv (ax J) J<|AM.qv (bt J) J<|AM.qv (bb J J) J<|AM.qv (aU J J J) J<|AM.jR J (df J) cR J<|AM.bU (xs:=([(Lib.compareBytes aa.aO ai.aO),(Lib.compareBytes aa.bf ai.bf)]:List Int).map I) J J J J J J<|aA h fun v1 e1 h=>AM.jR J (nx e1) cR J<|AM.qv (c0 J) J<|AM.nil<|rN<|ae.ret<|?_
 cases h
 exact hP J J
theorem oD:Hf Tryz.prog 157:=⟨fun enc h1 cf hO g cb cd off cap d w eg hc hH hb hs=>Any.slices_SortFunc_eq Tryz.E9 enc h1 cf hO g cb cd off cap d w eg hc hH hb hs,fun p cap fv w=>AnyF.slices_SortFunc_none {Tryz.E9 with} p cap fv w⟩
theorem yr [GI:bA] {aa:List Signal} {ai:Int} {r:(List an)×(List dh)} (h:oz aa ai=some r):aG Tryz.prog 93 [nw aa,I ai] [] (T1 (fun TJ=>[(TJ,JY r.2)]) (fun TJ=>.nI [Cb r.1,.sl 2 TJ 0 r.2.length])):=by
 unfold oz at h
 refine aG.dD ?_
 refine aG.bw Tryz.func93 J Tryz.ntmps93 Tryz.results93 J J ?_
 refine ae.ghost (aj.Hc (kb:=Lc) (fun b1 bo2 bs3=>aj.here ?_))
 refine aI<|rA J J<|rA J J<|rN<|aI<|rA J J<|rN<|aI<|rA J J<|rN<|tS<|aI<|rM J J<|ah.qv (ey J) J<|rM J J<|rN<|ae.cut (fun aC=>∃ (TK:Nat→Bk) (Yb:Nat→Nat→Bk) (b7:Bk) (b9:Bk) (l4:List an) (l8:List Int) (l10:List dh),kE l4 l8 l10=some r∧aC=⟨58,[(6,.sl 1 b7 0 l8.length),(7,.sl 2 b9 0 l10.length)],[(b1,.cj (ju Lc TK Yb l4)),(b7,.arr 1 (l8.map (pA TK))),(b9,JY l10)]⟩) ?_ ?_
 ·refine ae.block<|ae.bS (fun x:(List an)×(List Int)×(List dh)×Int=>mq aa ai x.1 x.2.1 x.2.2.1 x.2.2.2) (fun x aC=>∃ (Ia:Nat→Bk) (Ib:Nat→Nat→Bk) (Eg:Bk) (BX:Bk),aC=⟨58,[(1,I ai),(6,.sl 1 Eg 0 x.2.1.length),(7,.sl 2 BX 0 x.2.2.1.length),(12,nw aa),(13,I (aa.length:Int)),(14,I x.2.2.2)],[(b1,.cj (ju Lc Ia Ib x.1)),(Eg,.arr 1 (x.2.1.map (pA Ia))),(BX,JY x.2.2.1)]⟩) h ?_ ?_
  ·exact aj.arr (s:=6) 1 J fun CW=>aj.arr (s:=7) 2 J fun RR=>aj.lq [2,1,0] ⟨bo2,bs3,CW,RR,J⟩ J J
  ·intro x z1 aC J1 dL h jF fP
   obtain ⟨sv,vh,wT,n26⟩:=x
   obtain ⟨Ia,Ib,Eg,BX,rfl⟩:=dL
   replace h:mq aa ai sv vh wT n26=some z1:=h
   unfold mq at h
   refine aI<|ah.qv (bB J J) J<|rN<|tS<|cD h J (fun h=>?_) (fun h=>?_)
   ·refine tK<|tS<|ae.block<|aI<|rM J J<|aA h fun xz e1 h=>ah.qv (bO J J J e1 J J) J<|ah.qv (bn J J J) J<|bT J J J J fun Ml=>rA J J<|aE J J J J .p0 J J<|rN<|tS<|aI<|rF J J J<|rL J J .p0 J J<|rM J J<|ah.qv (gR J J) J<|rN<|cD h J (fun h=>?_) (fun h=>?_)
    ·exact ae.exit J<|have h:=bP h fP;ae.stop<|aj.lq [1,1,1] ⟨Ia,Ib,Eg,BX,sv,vh,wT,h,J⟩ J J
    ·refine tK<|aI<|rM J J<|ah.qv (ow J) J<|aA h fun FU e2 h=>aA h fun v32 e3 h=>gi J (nX (fun e=>Al (Option.some.inj e)) e3) (.cons (nJ.Qh (bp:=b1) (kb:=Lc) (bs:=Ib) (M:=sv) Tx e2 (.inl .p2) .p1) (.cons (.AO _ _ _ (.cons (.B4 _ _ _ .p0 (.cons (.co (.refl _)) (.cons (.co (.refl _)) (.cons (.co (.refl _)) (.cons (.co (.refl _)) (.cons (.co (.refl _)) (.cons (.co (.refl _)) .nil))))))) .nil)) .nil)) J J<|rA J J<|rN<|tS<|aI<|rM J J<|ah.qv (bB J J) J<|rN<|ae.cut (fun aC=>∃ (Gq:Nat→Bk) (QB:Nat→Nat→Bk) (tM:Bk) (JU:List an) (pS:List Int) (n38:Int),mo wT n26 xz JU pS n38=some z1∧aC=⟨58,[(1,I ai),(6,.sl 1 tM 0 pS.length),(7,.sl 2 BX 0 wT.length),(8,I n26),(9,.ptr Ml 0),(10,I n38),(12,nw aa),(13,I (aa.length:Int)),(14,I n26)],[(b1,.cj (ju Lc Gq QB JU)),(tM,.arr 1 (pS.map (pA Gq))),(BX,JY wT),(Ml,.cells (wU xz))]⟩) ?_ ?_
     ·refine cD h J (fun h=>?_) (fun h=>?_)
      ·exact aI<|rM J J<|ah.qv (eR J) J<|rA J J<|rN<|tR<|rM J J<|rF J J J<|rL J J .p0 J J<|rF J J J<|rL J J .p0 J J<|ah.qv (cF J J J J J) J<|dC J J J J fun OD=>ah.ghost<|aj.sr (j:=2) 6 (fun _=>.p0) J (fun _=>J) (fun _=>J) fun Ty=>aj.here<|aA h fun u41 e4 h=>ah.ghost<|aj.He (kb:=Lc) (v:=(⟨xz.Device,xz.aZ,[],(0:Int),(⟨(0:Int),(0:Int)⟩:ao)⟩:an)) (s:=Rg [Ty]) (.cons .p1 (.cons .p0 .nil)) J (fun _ _=>.p1) fun Mr TN TO TP=>aj.here<|ah.ghost<|aj.Om (JO TO e4) .p2<|aj.here<|ah.ghost<|aj.eqs (s:=36) (bZ:=.ptr (Mr (sv.length:Int).toNat) 0) J (DC TP _)<|aj.here<|aY (xs:=([(sv.length:Int)]).map (pA Mr)) J J J J J J<|aA h fun Bl e6 h=>dq (g:=(pA Mr)) J J J J J J J J (.list _) e6 (fun _=>.p2) J fun Pm=>rA J J<|rN<|ae.stop<|aj.lq [1,1,1,0] ⟨Mr,TN,Pm,sv++[(⟨xz.Device,xz.aZ,[],(0:Int),(⟨(0:Int),(0:Int)⟩:ao)⟩:an)],Bl,(vh.length:Int),h,J⟩ J J
      ·exact tK<|ae.stop<|aj.lq [1,1,1,0] ⟨Ia,Ib,Eg,sv,vh,v32,h,J⟩ J J
     ·rintro aC ⟨Gq,QB,tM,JU,pS,n38,h,rfl⟩
      unfold mo at h
      refine tS<|ae.bV (id:=11) (A:=[0,0,3,7,0,31,63]) 5 mixed J (by kernel_rfl) (by kernel_rfl)<|AM.qv (ax J) J<|AM.qv (ax J) J<|aA h fun v46 e7 h=>AM.qv (aP J J J e7) J<|AM.qv (eS (g:=(pA Gq)) J J (.inl .p1) e7 J) J<|AM.qv (aL J J .p3 J) J<|AM.nil<|aA h fun kX e8 h=>ah.ghost<|aj.EY (kb:=Lc) e8 .p0 J<|aj.here<|aA h fun bD e9 h=>ik J (Bw e9) cR (.cons .p0 (.cons .p0 .nil)) (fun _=>J) J fun TF=>rA J J<|ah.ghost<|aj.Hd (kb:=Lc) (v':=bD.2) (s:=Rg [TF]) e8 (.cons .p0 (.cons .p0 .nil)) J (fun _=>.p0) fun QC=>aj.here<|rN<|aI<|rM J J<|ah.qv (jH J J) J<|rN<|ae.cut (fun aC=>∃ (Nr:Bk) (Ph:List dh),nM n26 JU pS v46 bD Ph=some z1∧aC=⟨58,[(1,I ai),(6,.sl 1 tM 0 pS.length),(7,.sl 2 Nr 0 Ph.length),(12,nw aa),(13,I (aa.length:Int)),(14,I n26)],[(b1,.cj (ju Lc Gq QC (JU.set v46.toNat bD.2))),(tM,.arr 1 (pS.map (pA Gq))),(Nr,JY Ph)]⟩) ?_ ?_
      ·refine cD h J (fun h=>?_) (fun h=>?_)
       ·exact tR<|rM J J<|rM J J<|rM J J<|ah.qv (cF J J J J J) J<|aY (xs:=([(⟨n26,bD.1⟩:dh)]).map dh.av) J J J J J J<|aA h fun Gg yl h=>dq (g:=dh.av) J J J J J J J J (.list _) yl (fun _=>.p2) J fun b54=>rA J J<|rN<|ae.stop<|aj.lq [0,0,0] ⟨b54,Gg,h,J⟩ J J
       ·exact tK<|ae.stop<|aj.lq [0,0,0] ⟨BX,wT,h,J⟩ J J
      ·rintro aC ⟨Nr,Ph,h,rfl⟩
       unfold nM at h
       refine ae.cd<|tR<|ah.qv (aV J J) J<|rM J J<|rN<|ae.stop<|?_
       cases h
       exact jF _ _ J<|aj.lq [0,0,0] ⟨Gq,QC,tM,Nr,J⟩ J J
   ·exact ae.exit J<|have h:=bP h fP;ae.stop<|aj.lq [0,0,0] ⟨Ia,Ib,Eg,BX,sv,vh,wT,h,J⟩ J J
 ·rintro aC ⟨TK,Yb,b7,b9,l4,l8,l10,h,rfl⟩
  unfold kE at h
  refine aI<|rM J J<|aA h fun RP CX h=>ba J (zJ oD Tx (fun e=>Am (GI:=nk) e) CX) cR (.cons .p1 (.cons .p0 .nil)) J J<|ah.ghost<|aj.eqs (s:=6) (bZ:=.sl 1 b7 0 RP.length) J (congrArg (AV.sl 1 b7 0) (wC CX))<|aj.here<|ah.ghost<|aj.eqs (s:=54) (bZ:=.sl 1 b7 0 RP.length) J (congrArg (AV.sl 1 b7 0) (wC CX))<|aj.here<|rN<|aI<|rM J J<|rM J J<|rA J J<|rA J J<|rN<|ae.ret<|aA h fun X7 Gl h=>?_
  cases h
  exact aj.Ou (s:=4) J (.cons .p0 (.cons .p0 .nil)) (nJ.Qh Tx Gl (.inl .p0) .p1)<|aj.here ⟨_,.cons (.tmp _ _ J) (.cons (.tmp _ _ J) .nil),_,.cons .p0 .nil,⟨b9,J,J⟩⟩
theorem An [GI:bA] {aa:an} {ai:Int} {r:aH} (h:nN aa ai=some r):Pu Tryz.prog 96 [.gg [.str aa.aO,.str aa.bf,nw aa.bK,I aa.aK,I aa.az.dR,I aa.az.To],I ai] (aH.av r):=by
 unfold nN at h
 refine aG.bw Tryz.func96 J Tryz.ntmps96 Tryz.results96 J J ?_
 refine aI<|bT J J J J fun b1=>rN<|tS<|ae.fK (id:=1) (A:=[0,1,3,7,0,16,48,112,0,256,768,1792,4095,0,16383]) (H0:=[]) (HH:=fun β=>[((β 13),.cells [.str [],.str [],I (0:Int),I (0:Int),I (0:Int),I (0:Int)]),(b1,.cells [.str [],.str [],I (0:Int),I (0:Int),I (0:Int),I (0:Int)])]) 14 mixed J (by kernel_rfl) (by kernel_rfl) [⟨some 13,none,[],fun b=>(b,.cells [.str [],.str [],I (0:Int),I (0:Int),I (0:Int),I (0:Int)]),none,[]⟩] [13] J (by kernel_rfl) J .nil (fun _=>J)<|AT.am 13 J J<|AM.qv (ax J) J<|AM.qv (bt J) J<|AM.qv (bb J J) J<|AM.qv (aU J J J) J<|AM.qv (ax J) J<|AM.qv (bt J) J<|AM.qv (bb J J) J<|AM.qv (aU J J J) J<|AM.qv (ax J) J<|AM.qv (bt J) J<|AM.qv (bb J J) J<|AM.qv (aU J J J) J<|AM.qv (cF J J J J J) J<|AM.nil<|AT.B7 (V:=fun b=>.ptr b 0) (Ti:=[]) (Pi:=fun b=>[(b,.cells [.str [],.str [],I (0:Int),I (0:Int),I (0:Int),I (0:Int)])]) (fun _=>J) (fun _=>J) (fun _ _=>J) J (fun _=>J) J J J ?_ ?_
 ·exact bT J J J J fun b2=>ah.nil ⟨b2,_,J,J⟩
 refine AT.qS (fun _=>J) fun β=>?_
 generalize β 13=b2
 clear β
 refine aE J J J J .p0 J J<|rN<|tS<|aI<|rM J J<|ah.qv (bt J) J<|ah.qv (bb J J) J<|ah.qv (aU J J J) J<|ah.qv (ey J) J<|rM J J<|rN<|ae.block<|ae.bS (fun x:Int×Int×Int=>ff aa ai x.1 x.2.1 x.2.2) (fun x aC=>aC=⟨67,[(0,.gg [.str aa.aO,.str aa.bf,nw aa.bK,I aa.aK,I aa.az.dR,I aa.az.To]),(1,I ai),(4,.ptr b1 0),(5,.ptr b2 0),(24,nw aa.bK),(25,I (aa.bK.length:Int)),(26,I x.2.2)],[(b1,.cells [.str [],.str [],I (0:Int),I (0:Int),I (0:Int),I (0:Int)]),(b2,.cells [.str aa.aO,.str aa.bf,I aa.aK,I x.1,I x.2.1,I (0:Int)])]⟩) h ?_ ?_
 ·exact aj.lq [1,0] J J J
 ·intro x z1 aC J1 dL h jF fP
  obtain ⟨n6,n7,n8⟩:=x
  obtain rfl:=dL
  replace h:ff aa ai n6 n7 n8=some z1:=h
  unfold ff at h
  refine aI<|ah.qv (bB J J) J<|rN<|tS<|cD h J (fun h=>?_) (fun h=>?_)
  ·refine tK<|tS<|ae.block<|aI<|aA h fun v9 e1 h=>ah.qv (bO J J J e1 J J) J<|ah.qv (bn J J J) J<|bT J J J J fun pz=>aE J J J J .p0 J J<|rN<|tS<|aI<|rF J J J<|rL J J .p0 J J<|ah.qv (oW J J) J<|rN<|ae.cut (fun aC=>∃ (n11:Int),k9 n7 n8 v9 n11=some z1∧aC=⟨67,[(0,.gg [.str aa.aO,.str aa.bf,nw aa.bK,I aa.aK,I aa.az.dR,I aa.az.To]),(1,I ai),(4,.ptr b1 0),(5,.ptr b2 0),(7,.ptr pz 0),(24,nw aa.bK),(25,I (aa.bK.length:Int)),(26,I n8)],[(b1,.cells [.str [],.str [],I (0:Int),I (0:Int),I (0:Int),I (0:Int)]),(b2,.cells [.str aa.aO,.str aa.bf,I aa.aK,I n11,I n7,I (0:Int)]),(pz,.cells (wU v9))]⟩) ?_ ?_
   ·refine cD h J (fun h=>?_) (fun h=>?_)
    ·exact tR<|rF J J J<|rL J J .p0 J J<|rF J J J<|aE J J J J .p2 J J<|rN<|ae.stop<|aj.lq [1,1,0] ⟨v9.At,h,J⟩ J J
    ·exact tK<|ae.stop<|aj.lq [1,1,0] ⟨n6,h,J⟩ J J
   ·rintro aC ⟨n11,h,rfl⟩
    unfold k9 at h
    refine aI<|rF J J J<|rL J J .p2 J J<|ah.qv (cH J J) J<|rN<|ae.cut (fun aC=>∃ (n12:Int),k8 n8 n11 n12=some z1∧aC=⟨67,[(0,.gg [.str aa.aO,.str aa.bf,nw aa.bK,I aa.aK,I aa.az.dR,I aa.az.To]),(1,I ai),(4,.ptr b1 0),(5,.ptr b2 0),(24,nw aa.bK),(25,I (aa.bK.length:Int)),(26,I n8)],[(b1,.cells [.str [],.str [],I (0:Int),I (0:Int),I (0:Int),I (0:Int)]),(b2,.cells [.str aa.aO,.str aa.bf,I aa.aK,I n11,I n12,I (0:Int)])]⟩) ?_ ?_
    ·refine cD h J (fun h=>?_) (fun h=>?_)
     ·exact tR<|rF J J J<|rL J J .p1 J J<|ah.qv (aV J J) J<|rF J J J<|aE J J J J .p1 J J<|rN<|ae.stop<|aj.lq [0,0] ⟨aN (n7+(1:Int)),h,J⟩ J J
     ·exact tK<|ae.stop<|aj.lq [0,0] ⟨n7,h,J⟩ J J
    ·rintro aC ⟨n12,h,rfl⟩
     unfold k8 at h
     refine ae.cd<|tR<|ah.qv (aV J J) J<|rM J J<|rN<|ae.stop<|?_
     cases h
     exact jF _ _ J<|aj.lq [0,0] J J J
  ·refine ae.exit J<|have h:=bP h fP;tS<|tS<|ae.cut (fun aC=>∃ (Fc:Bool),lg aa n6 n7 Fc=some r∧aC=⟨67,[(0,.gg [.str aa.aO,.str aa.bf,nw aa.bK,I aa.aK,I aa.az.dR,I aa.az.To]),(4,.ptr b1 0),(5,.ptr b2 0),(59,.bool Fc)],[(b1,.cells [.str [],.str [],I (0:Int),I (0:Int),I (0:Int),I (0:Int)]),(b2,.cells [.str aa.aO,.str aa.bf,I aa.aK,I n6,I n7,I (0:Int)])]⟩) ?_ ?_
   ·refine tR<|rM J J<|ah.qv (bt J) J<|ah.qv (bb J J) J<|ah.qv (bb J J) J<|ah.qv (aU J J J) J<|rM J J<|ah.qv (oW J J) J<|rM J J<|ah.bJ J J J (fun hc=>?_) (fun hc=>?_)
    ·rw [lB hc] at h
     exact rM J J<|rY J J J<|rM J J<|rY J J J<|ah.qv (bt J) J<|rY J J J<|ah.qv (bb J J) J<|rY J J J<|ah.qv (bb J J) J<|rY J J J<|ah.qv (aU J J J) J<|rY J J J<|ah.qv (bB J J) J<|rT J J J<|rN<|ae.stop<|aj.lq [0,0] ⟨decide (ai < aa.az.To),h,J⟩ J J
    ·rw [lC hc] at h
     exact rG J J J J<|rG J J J J<|rG J J J J<|rG J J J J<|rG J J J J<|rG J J J J<|rE J J J<|rN<|ae.stop<|aj.lq [0,0] ⟨false,h,J⟩ J J
   ·rintro aC ⟨Fc,h,rfl⟩
    unfold lg at h
    refine ae.cut (fun aC=>∃ (n14:Int),lf aa n6 n7 n14=some r∧aC=⟨67,[(4,.ptr b1 0),(5,.ptr b2 0)],[(b1,.cells [.str [],.str [],I (0:Int),I (0:Int),I (0:Int),I (0:Int)]),(b2,.cells [.str aa.aO,.str aa.bf,I aa.aK,I n6,I n7,I n14])]⟩) ?_ ?_
    ·refine cB h J (fun h=>?_) (fun h=>?_)
     ·exact tR<|rM J J<|ah.qv (bt J) J<|ah.qv (bb J J) J<|ah.qv (bb J J) J<|ah.qv (aU J J J) J<|rF J J J<|aE J J J J .p1 J J<|rN<|ae.stop<|aj.lq [0,0] ⟨aa.az.To,h,J⟩ J J
     ·exact tK<|ae.stop<|aj.lq [0,0] ⟨(0:Int),h,J⟩ J J
    ·rintro aC ⟨n14,h,rfl⟩
     unfold lf at h
     refine aI<|ah.qv (aL J J .p1 J) J<|aE J J J J .p0 J J<|rN<|ae.ret<|?_
     cases h
     exact aj.here ⟨_,.cons (.all _ _ _ _ _ _ J .p0 aD.h aX.h J J) .nil,J⟩
theorem DL [GI:bA] {aa:List Signal} {ai:Int} {r:(List aH)} (h:pV aa ai=some r):aG Tryz.prog 29 [nw aa,I ai] [] (T1 (fun lV=>[(lV,vi r)]) (fun lV=>.sl 6 lV 0 r.length)):=by
 unfold pV at h
 refine aG.dD ?_
 refine aG.bw Tryz.func29 J Tryz.ntmps29 Tryz.results29 J J ?_
 refine aI<|rA J J<|rN<|aI<|rA J J<|rN<|aI<|rM J J<|rM J J<|aA h fun v1 e1 h=>ik J (yr e1) cR .nil (fun _=>J) J fun b2=>rM J J<|rX J J J<|rX J J J<|rA J J<|rA J J<|rN<|tS<|aI<|rM J J<|ah.qv (ey J) J<|rM J J<|rN<|ae.block<|ae.bS (fun x:(List aH)×Int=>il ai v1 x.1 x.2) (fun x aC=>∃ (b6:Bk),aC=⟨40,[(1,I ai),(5,.sl 6 b6 0 x.1.length),(17,Cb v1.1),(18,I (v1.1.length:Int)),(19,I x.2)],[(b6,vi x.1)]⟩) h ?_ ?_
 ·exact aj.arr (s:=5) 6 J fun b9=>aj.lq [0] ⟨b9,J⟩ J J
 ·intro x z1 aC J1 dL h jF fP
  obtain ⟨l7,n8⟩:=x
  obtain ⟨b6,rfl⟩:=dL
  replace h:il ai v1 l7 n8=some z1:=h
  unfold il at h
  refine aI<|ah.qv (bB J J) J<|rN<|tS<|cD h J (fun h=>?_) (fun h=>?_)
  ·refine tK<|tS<|ae.block<|aI<|aA h fun v10 e2 h=>ah.qv (bO J J J e2 J J) J<|ah.qv (aU J J J) J<|rA J J<|rN<|aI<|rM J J<|rM J J<|aA h fun v11 e3 h=>bc J (An e3) cR J<|bT J J J J fun wX=>aE J J J J .p0 J J<|rN<|tS<|ae.cut (fun aC=>∃ (Fc:Bool),qg l7 n8 v11 Fc=some z1∧aC=⟨40,[(1,I ai),(5,.sl 6 b6 0 l7.length),(10,.ptr wX 0),(17,Cb v1.1),(18,I (v1.1.length:Int)),(19,I n8),(33,.bool Fc)],[(b6,vi l7),(wX,.cells [.str v11.Device,.str v11.aZ,I v11.State,I v11.Since,I v11.o3,I v11.gP])]⟩) ?_ ?_
   ·refine tR<|rF J J J<|rL J J .p0 J J<|ah.qv (jH J J) J<|rM J J<|ah.fU J J J (fun hc=>?_) (fun hc=>?_)
    ·rw [Ae hc] at h
     exact rF J J J<|rY J J J<|rL J J .p0 J J<|rY J J J<|ah.qv (gR J J) J<|rE J J J<|rN<|ae.stop<|aj.lq [1,0] ⟨decide ((0:Int) < v11.gP),h,J⟩ J J
    ·rw [Ad hc] at h
     exact rG J J J J<|rG J J J J<|rT J J J<|rN<|ae.stop<|aj.lq [1,0] ⟨true,h,J⟩ J J
   ·rintro aC ⟨Fc,h,rfl⟩
    unfold qg at h
    refine ae.cut (fun aC=>∃ (ux:Bk) (oh:List aH),nO n8 oh=some z1∧aC=⟨40,[(1,I ai),(5,.sl 6 ux 0 oh.length),(17,Cb v1.1),(18,I (v1.1.length:Int)),(19,I n8)],[(ux,vi oh)]⟩) ?_ ?_
    ·refine cB h J (fun h=>?_) (fun h=>?_)
     ·exact tR<|rM J J<|ah.qv (aL J J .p1 J) J<|aY (xs:=([v11]:List aH).map aH.av) J J J J J J<|aA h fun sX e4 h=>dq (g:=aH.av) J J J J J J J J (.list _) e4 (fun _=>.p0) J fun tG=>rA J J<|rN<|ae.stop<|aj.lq [0] ⟨tG,sX,h,J⟩ J J
     ·exact tK<|ae.stop<|aj.lq [0] ⟨b6,l7,h,J⟩ J J
    ·rintro aC ⟨ux,oh,h,rfl⟩
     unfold nO at h
     refine ae.cd<|tR<|ah.qv (aV J J) J<|rM J J<|rN<|ae.stop<|?_
     cases h
     exact jF _ _ J<|aj.lq [0] ⟨ux,J⟩ J J
  ·refine ae.exit J<|have h:=bP h fP;aI<|rM J J<|rA J J<|rN<|ae.ret<|?_
   cases h
   exact hH J [0] J ⟨b6,J,J⟩
theorem DM [GI:bA] {aa:List Signal} {ai:aS} {aq:aS} {r:(List Int)} (h:sD aa ai aq=some r):aG Tryz.prog 140 [nw aa,.str ai,.str aq] [] (T1 (fun lV=>[(lV,iH r)]) (fun lV=>.sl 1 lV 0 r.length)):=by
 unfold sD at h
 refine aG.dD ?_
 refine aG.bw Tryz.func140 J Tryz.ntmps140 Tryz.results140 J J ?_
 refine aI<|rA J J<|rN<|aI<|rM J J<|aA h fun v1 e1 h=>ik J (yr e1) cR .nil (fun _=>J) J fun b2=>rM J J<|rX J J J<|rX J J J<|rA J J<|rA J J<|rN<|aI<|rA J J<|rN<|tS<|aI<|rM J J<|ah.qv (ey J) J<|rM J J<|rN<|ae.block<|ae.bS (fun x:(List Int)×Int=>iq ai aq v1 x.1 x.2) (fun x aC=>∃ (b6:Bk),aC=⟨61,[(1,.str ai),(2,.str aq),(9,.sl 1 b6 0 x.1.length),(19,Cb v1.1),(20,I (v1.1.length:Int)),(21,I x.2)],[(b6,iH x.1)]⟩) h ?_ ?_
 ·exact aj.arr (s:=9) 1 J fun b9=>aj.lq [0] ⟨b9,J⟩ J J
 ·intro x z1 aC J1 dL h jF fP
  obtain ⟨l7,n8⟩:=x
  obtain ⟨b6,rfl⟩:=dL
  replace h:iq ai aq v1 l7 n8=some z1:=h
  unfold iq at h
  refine aI<|ah.qv (bB J J) J<|rN<|tS<|cD h J (fun h=>?_) (fun h=>?_)
  ·refine tK<|tS<|ae.block<|aI<|aA h fun v10 e2 h=>ah.qv (bO J J J e2 J J) J<|ah.qv (aU J J J) J<|rA J J<|rN<|aI<|rM J J<|ah.qv (bt J) J<|ah.qv (bb J J) J<|ah.qv (aU J J J) J<|ah.qv (ey J) J<|rM J J<|rN<|ae.block<|ae.bS (fun x:(List Int)×Int=>im ai aq n8 v10 x.1 x.2) (fun x aC=>∃ (ux:Bk),aC=⟨61,[(1,.str ai),(2,.str aq),(9,.sl 1 ux 0 x.1.length),(11,.gg [.str v10.aO,.str v10.bf,nw v10.bK,I v10.aK,I v10.az.dR,I v10.az.To]),(19,Cb v1.1),(20,I (v1.1.length:Int)),(21,I n8),(28,nw v10.bK),(29,I (v10.bK.length:Int)),(30,I x.2)],[(ux,iH x.1)]⟩) h ?_ ?_
   ·exact aj.lq [0] ⟨b6,J⟩ J J
   ·intro x z2 aC J2 dL h xC wW
    obtain ⟨oh,n16⟩:=x
    obtain ⟨ux,rfl⟩:=dL
    replace h:im ai aq n8 v10 oh n16=some z2:=h
    unfold im at h
    refine aI<|ah.qv (bB J J) J<|rN<|tS<|cD h J (fun h=>?_) (fun h=>?_)
    ·refine tK<|tS<|ae.block<|aI<|aA h fun v17 e3 h=>ah.qv (bO J J J e3 J J) J<|ah.qv (bn J J J) J<|bT J J J J fun sS=>aE J J J J .p0 J J<|rN<|tS<|ae.cut (fun aC=>∃ (JV:Bool),qh oh n16 v17 JV=some z2∧aC=⟨61,[(1,.str ai),(2,.str aq),(9,.sl 1 ux 0 oh.length),(11,.gg [.str v10.aO,.str v10.bf,nw v10.bK,I v10.aK,I v10.az.dR,I v10.az.To]),(13,.ptr sS 0),(19,Cb v1.1),(20,I (v1.1.length:Int)),(21,I n8),(28,nw v10.bK),(29,I (v10.bK.length:Int)),(30,I n16),(52,.bool JV)],[(ux,iH oh),(sS,.cells (wU v17))]⟩) ?_ ?_
     ·refine tR<|rM J J<|ah.qv (bt J) J<|ah.qv (bb J J) J<|ah.qv (aU J J J) J<|rM J J<|ah.qv (uX J J) J<|rM J J<|ah.bJ J J J (fun hc=>?_) (fun hc=>?_)
      ·rw [lB hc] at h
       refine rM J J<|rY J J J<|ah.qv (bt J) J<|rY J J J<|ah.qv (bb J J) J<|rY J J J<|ah.qv (aU J J J) J<|rY J J J<|rM J J<|rY J J J<|ah.qv (uX J J) J<|rT J J J<|rM J J<|ah.bJ J J J (fun hc=>?_) (fun hc=>?_)
       ·rw [lB hc] at h
        exact rF J J J<|rY J J J<|rL J J .p0 J J<|rY J J J<|ah.qv (cH J J) J<|rT J J J<|rN<|ae.stop<|aj.lq [1,0] ⟨decide (v17.Kind=(1:Int)),h,J⟩ J J
       ·rw [lC hc] at h
        exact rG J J J J<|rG J J J J<|rE J J J<|rN<|ae.stop<|aj.lq [1,0] ⟨false,h,J⟩ J J
      ·rw [lC hc] at h
       exact rG J J J J<|rG J J J J<|rG J J J J<|rG J J J J<|rG J J J J<|rE J J J<|rM J J<|rG J J J J<|rG J J J J<|rG J J J J<|rE J J J<|rN<|ae.stop<|aj.lq [1,0] ⟨false,h,J⟩ J J
     ·rintro aC ⟨JV,h,rfl⟩
      unfold qh at h
      refine ae.cut (fun aC=>∃ (J9:Bk) (Ai:List Int),nP n16 Ai=some z2∧aC=⟨61,[(1,.str ai),(2,.str aq),(9,.sl 1 J9 0 Ai.length),(11,.gg [.str v10.aO,.str v10.bf,nw v10.bK,I v10.aK,I v10.az.dR,I v10.az.To]),(19,Cb v1.1),(20,I (v1.1.length:Int)),(21,I n8),(28,nw v10.bK),(29,I (v10.bK.length:Int)),(30,I n16)],[(J9,iH Ai)]⟩) ?_ ?_
      ·refine cB h J (fun h=>?_) (fun h=>?_)
       ·exact tR<|rM J J<|rF J J J<|rL J J .p1 J J<|aY (xs:=([v17.At]:List Int).map I) J J J J J J<|aA h fun wR e4 h=>dq (g:=I) J J J J J J J J (.list _) e4 (fun _=>.p0) J fun Qz=>rA J J<|rN<|ae.stop<|aj.lq [0] ⟨Qz,wR,h,J⟩ J J
       ·exact tK<|ae.stop<|aj.lq [0] ⟨ux,oh,h,J⟩ J J
      ·rintro aC ⟨J9,Ai,h,rfl⟩
       unfold nP at h
       refine ae.cd<|tR<|ah.qv (aV J J) J<|rM J J<|rN<|ae.stop<|?_
       cases h
       exact xC _ _ J<|aj.lq [0] ⟨J9,J⟩ J J
    ·refine ae.exit J<|have h:=bP h wW;ae.cd<|tR<|ah.qv (aV J J) J<|rM J J<|rN<|ae.stop<|?_
     cases h
     exact jF _ _ J<|aj.lq [0] ⟨ux,J⟩ J J
  ·refine ae.exit J<|have h:=bP h fP;aI<|rM J J<|rA J J<|rN<|ae.ret<|?_
   cases h
   exact hH J [0] J ⟨b6,J,J⟩
theorem Cj [GI:bA] {aa:bW} {ai:List Signal} {aq:aS} {aT:aS} {r:(List ao)} (h:qC aa ai aq aT=some r):aG Tryz.prog 68 [bW.av aa,nw ai,.str aq,.str aT] [] (T1 (fun lV=>[(lV,iI r)]) (fun lV=>.sl 2 lV 0 r.length)):=by
 unfold qC at h
 refine aG.dD ?_
 refine aG.bw Tryz.func68 J Tryz.ntmps68 Tryz.results68 J J ?_
 refine aI<|dC J J J J fun b1=>rA J J<|rN<|aI<|rM J J<|rM J J<|rM J J<|aA h fun v2 e1 h=>ik J (DM e1) cR .nil (fun _=>J) J fun b3=>rA J J<|rN<|aI<|rA J J<|rN<|tS<|aI<|rM J J<|ah.qv (eR J) J<|rM J J<|rN<|ae.block<|ae.bS (fun x:(List ao)×Int=>gz aa v2 x.1 x.2) (fun x aC=>∃ (b7:Bk),aC=⟨86,[(4,.ptr b1 0),(9,.sl 1 b3 0 v2.length),(10,.sl 2 b7 0 x.1.length),(22,.sl 1 b3 0 v2.length),(23,I (v2.length:Int)),(24,I x.2)],[(b1,.cells [I aa.kM,I aa.ao,I aa.Calm]),(b3,iH v2),(b7,iI x.1)]⟩) h ?_ ?_
 ·exact aj.arr (s:=10) 2 J fun pz=>aj.lq [2,1,0] ⟨pz,J⟩ J J
 ·intro x z1 aC J1 dL h jF fP
  obtain ⟨l8,n9⟩:=x
  obtain ⟨b7,rfl⟩:=dL
  replace h:gz aa v2 l8 n9=some z1:=h
  unfold gz at h
  refine aI<|ah.qv (bB J J) J<|rN<|tS<|cD h J (fun h=>?_) (fun h=>?_)
  ·refine tK<|tS<|ae.block<|aI<|rM J J<|aA h fun v11 e2 h=>ah.qv (aP J J J e2) J<|ah.qv (eS (g:=I) J J (.inl .p1) e2 J) J<|rA J J<|rA J J<|rN<|aI<|rA J J<|rN<|tS<|aI<|rM J J<|rM J J<|ah.qv (aV J J) J<|aA h fun ly e3 h=>ah.qv (mL J J .none (.some _ _ _ J) J J e3) J<|ah.qv (CI J) J<|rM J J<|rN<|ae.block<|ae.bS (fun x:Int×Int=>gy aa v2 l8 n9 v11 ly x.1 x.2) (fun x aC=>aC=⟨86,[(4,.ptr b1 0),(9,.sl 1 b3 0 v2.length),(10,.sl 2 b7 0 l8.length),(12,I v11),(13,I x.1),(22,.sl 1 b3 0 v2.length),(23,I (v2.length:Int)),(24,I n9),(32,.sl 1 b3 0 ly.length),(33,I (ly.length:Int)),(34,I x.2)],[(b1,.cells [I aa.kM,I aa.ao,I aa.Calm]),(b3,iH v2),(b7,iI l8)]⟩) h ?_ ?_
   ·exact aj.lq [0,0,0] J J J
   ·intro x z2 aC J2 dL h xC wW
    obtain ⟨n15,n16⟩:=x
    obtain rfl:=dL
    replace h:gy aa v2 l8 n9 v11 ly n15 n16=some z2:=h
    unfold gy at h
    refine aI<|ah.qv (bB J J) J<|rN<|tS<|cD h J (fun h=>?_) (fun h=>?_)
    ·refine tK<|tS<|ae.block<|aI<|aA h fun v17 e4 h=>ah.qv (tc (L:=(0:Int)) J J J e4) J<|ah.qv (eS (g:=I) J J (.inl .p1) (tW e4).2 J) J<|rA J J<|rN<|aI<|rM J J<|rM J J<|rF J J J<|rL J J .p0 J J<|ah.qv (bF J J) J<|ah.qv (gR J J) J<|rN<|ae.cut (fun aC=>∃ (n18:Int),na n16 n18=some z2∧aC=⟨86,[(4,.ptr b1 0),(9,.sl 1 b3 0 v2.length),(10,.sl 2 b7 0 l8.length),(12,I v11),(13,I n18),(22,.sl 1 b3 0 v2.length),(23,I (v2.length:Int)),(24,I n9),(32,.sl 1 b3 0 ly.length),(33,I (ly.length:Int)),(34,I n16)],[(b1,.cells [I aa.kM,I aa.ao,I aa.Calm]),(b3,iH v2),(b7,iI l8)]⟩) ?_ ?_
     ·refine cD h J (fun h=>?_) (fun h=>?_)
      ·exact tR<|rM J J<|ah.qv (aV J J) J<|rA J J<|rN<|ae.stop<|aj.lq [0,0,0] ⟨aN (n15+(1:Int)),h,J⟩ J J
      ·exact tK<|ae.stop<|aj.lq [0,0,0] ⟨n15,h,J⟩ J J
     ·rintro aC ⟨n18,h,rfl⟩
      unfold na at h
      refine ae.cd<|tR<|ah.qv (aV J J) J<|rM J J<|rN<|ae.stop<|?_
      cases h
      exact xC _ _ J<|aj.lq [0,0,0] J J J
    ·refine ae.exit J<|have h:=bP h wW;?_
     unfold lj at h
     refine aI<|rM J J<|ah.qv (eR J) J<|rA J J<|rN<|aI<|rM J J<|rF J J J<|rL J J .p0 J J<|ah.qv (aV J J) J<|ah.qv (IS J J) J<|rA J J<|rN<|ae.block<|tS<|ae.cut (fun aC=>∃ (JV:Bool),lh aa l8 n9 v11 n15 JV=some z1∧aC=⟨86,[(4,.ptr b1 0),(9,.sl 1 b3 0 v2.length),(10,.sl 2 b7 0 l8.length),(12,I v11),(13,I n15),(16,I (l8.length:Int)),(17,I (min (aN (v11+aa.Calm)) (345686400000:Int))),(22,.sl 1 b3 0 v2.length),(23,I (v2.length:Int)),(24,I n9),(54,.bool JV)],[(b1,.cells [I aa.kM,I aa.ao,I aa.Calm]),(b3,iH v2),(b7,iI l8)]⟩) ?_ ?_
     ·refine tR<|rM J J<|ah.qv (gR J J) J<|rM J J<|gT h J J J (fun h=>?_) (fun h=>?_)
      ·exact rM J J<|rY J J J<|rM J J<|rY J J J<|rM J J<|rY J J J<|ah.qv (bF J J) J<|rY J J J<|aA h fun v20 e5 h=>ah.qv (aP J J J e5) J<|rY J J J<|ah.qv (bR J J) J<|rY J J J<|ah.qv (eS (g:=ao.av) J J (.inl .p2) e5 J) J<|rY J J J<|ah.qv (oW J J) J<|rT J J J<|rA J J<|rN<|ae.stop<|aj.lq [0,0,0] ⟨decide (v11≤v20.To),h,J⟩ J J
      ·exact rG J J J J<|rG J J J J<|rG J J J J<|rG J J J J<|rG J J J J<|rG J J J J<|rG J J J J<|rE J J J<|rA J J<|rN<|ae.stop<|aj.lq [0,0,0] ⟨false,h,J⟩ J J
     ·rintro aC ⟨JV,h,rfl⟩
      unfold lh at h
      refine ae.cut (fun aC=>∃ (Bp:Bk) (wR:List ao),nd n9 wR=some z1∧aC=⟨86,[(4,.ptr b1 0),(9,.sl 1 b3 0 v2.length),(10,.sl 2 Bp 0 wR.length),(22,.sl 1 b3 0 v2.length),(23,I (v2.length:Int)),(24,I n9)],[(b1,.cells [I aa.kM,I aa.ao,I aa.Calm]),(b3,iH v2),(Bp,iI wR)]⟩) ?_ ?_
      ·refine cB h J (fun h=>?_) (fun h=>?_)
       ·exact tR<|rM J J<|rM J J<|ah.qv (bF J J) J<|rM J J<|aA h fun v23 e6 h=>ah.qv (aP J J J e6) J<|ah.qv (bR J J) J<|br (g:=ao.av) (uB:=(⟨v23.dR,min (aN (v11+aa.Calm)) (345686400000:Int)⟩:ao)) J J J J e6 J .p2 J<|ah.ghost<|aj.eqs (s:=10) (bZ:=.sl 2 b7 0 (l8.set (aN ((l8.length:Int) - (1:Int))).toNat (⟨v23.dR,min (aN (v11+aa.Calm)) (345686400000:Int)⟩:ao)).length) J (by rw [List.length_set])<|aj.here<|ah.ghost<|aj.eqs (s:=67) (bZ:=.sl 2 b7 0 (l8.set (aN ((l8.length:Int) - (1:Int))).toNat (⟨v23.dR,min (aN (v11+aa.Calm)) (345686400000:Int)⟩:ao)).length) J (by rw [List.length_set])<|aj.here<|rN<|ae.stop<|aj.lq [0,0,0] ⟨b7,l8.set (aN ((l8.length:Int) - (1:Int))).toNat (⟨v23.dR,min (aN (v11+aa.Calm)) (345686400000:Int)⟩:ao),h,J⟩ J J
       ·refine aI<|rM J J<|rF J J J<|rL J J .p0 J J<|ah.qv (sn J J) J<|rA J J<|rN<|ae.cut (fun aC=>∃ (BX:Bk) (wT:List ao),nf n9 wT=some z1∧aC=⟨86,[(4,.ptr b1 0),(9,.sl 1 b3 0 v2.length),(10,.sl 2 BX 0 wT.length),(22,.sl 1 b3 0 v2.length),(23,I (v2.length:Int)),(24,I n9)],[(b1,.cells [I aa.kM,I aa.ao,I aa.Calm]),(b3,iH v2),(BX,iI wT)]⟩) ?_ ?_
        ·refine cD h J (fun h=>?_) (fun h=>?_)
         ·exact tR<|rM J J<|rM J J<|rM J J<|ah.qv (cF J J J J J) J<|aY (xs:=([(⟨v11,min (aN (v11+aa.Calm)) (345686400000:Int)⟩:ao)]).map ao.av) J J J J J J<|aA h fun pU e7 h=>dq (g:=ao.av) J J J J J J J J (.list _) e7 (fun _=>.p2) J fun CW=>rA J J<|rN<|ae.stop<|aj.lq [0,0,0] ⟨CW,pU,h,J⟩ J J
         ·exact tK<|ae.stop<|aj.lq [0,0,0] ⟨b7,l8,h,J⟩ J J
        ·rintro aC ⟨BX,wT,h,rfl⟩
         unfold nf at h
         exact ae.stop<|aj.lq [0,0,0] ⟨BX,wT,h,J⟩ J J
      ·rintro aC ⟨Bp,wR,h,rfl⟩
       unfold nd at h
       refine ae.cd<|ae.cd<|tR<|ah.qv (aV J J) J<|rM J J<|rN<|ae.stop<|?_
       cases h
       exact jF _ _ J<|aj.lq [0,0,0] ⟨Bp,J⟩ J J
  ·refine ae.exit J<|have h:=bP h fP;aI<|rM J J<|rA J J<|rN<|ae.ret<|?_
   cases h
   exact hH J [2] J ⟨b7,J,J⟩
theorem Bx [GI:bA] {aa:ao} {ai:Int} {r:Bool} (h:rW aa ai=r):Pu Tryz.prog 219 [ao.av aa,.gg [I ai]] (.bool r):=by
 unfold rW at h
 refine aG.bw Tryz.func219 J Tryz.ntmps219 Tryz.results219 J J ?_
 refine aI<|dC J J J J fun b1=>rA J J<|rN<|tS<|ae.cut (fun aC=>∃ (c2:Bool),qU c2=r∧aC=⟨14,[(3,.bool c2)],[]⟩) ?_ ?_
 ·refine tR<|rF J J J<|rL J J .p0 J J<|ah.qv (aU J J J) J<|ah.qv (oW J J) J<|rM J J<|ah.bJ J J J (fun hc=>?_) (fun hc=>?_)
  ·rw [lB hc] at h
   exact ah.qv (aU J J J) J<|rY J J J<|rF J J J<|rY J J J<|rL J J .p0 J J<|rY J J J<|ah.qv (bB J J) J<|rT J J J<|rA J J<|rN<|ae.stop<|aj.lq [] ⟨decide (ai < aa.To),h,J⟩ J J
  ·rw [lC hc] at h
   exact rG J J J J<|rG J J J J<|rG J J J J<|rE J J J<|rA J J<|rN<|ae.stop<|aj.lq [] ⟨false,h,J⟩ J J
 ·rintro aC ⟨c2,h,rfl⟩
  unfold qU at h
  refine ae.ret<|?_
  obtain rfl:=h
  exact hP J J
end Go.Proofs.YtifmjkaghhkhfaaGreatDoor
