/- The code computes the plain functions: proofs written by shal.py. -/
import Derived.Test.YthamhifbccpcpaaGreatDoorRcoW2
set_option maxHeartbeats 4000000
set_option maxRecDepth 100000
set_option linter.unusedVariables false
set_option linter.unusedSimpArgs false
namespace Go.Proofs.YthamhifbccpcpaaGreatDoor
open Go Go.Eng Go.Proofs Go.Beacon
attribute [local irreducible] ai ab AQ QV aM ak RX AM
theorem fQ [GI:bI] {bc:Bk} {aa:List ah} {mN:ah→ah→Option Int} {nR:FuncId} [bD Tryz.prog nR] {so:List AV} (yN:∀ {y0 y1:_} {u:Int},mN y0 y1=some u→Pu Tryz.prog nR (ah.av y0 :: ah.av y1 :: so) (I u)) {r:(List ah)} (h:bq aa mN=some r):aM Tryz.prog 113 [.sl 4 bc 0 aa.length,.func (.func nR) so] [(bc,dQ aa)] (T0 ([(bc,dQ r)]) (.lA [])):=by
 unfold bq at h
 refine aM.dx ?_
 refine aM.bt Tryz.func113 J Tryz.ntmps113 Tryz.results113 J J ?_
 refine tR<|rM J J<|rM J J<|ai.qv (cE J) J<|rM J J<|aF h fun v1 e1 h=>bd J (sI yN (gl e1)) cR (.cons .p0 .nil) J J<|ai.ghost<|ak.eqs (s:=0) (dF:=.sl 4 bc 0 v1.length) J (congrArg (AV.sl 4 bc 0) (bO e1))<|ak.here<|ai.ghost<|ak.eqs (s:=4) (dF:=.sl 4 bc 0 v1.length) J (congrArg (AV.sl 4 bc 0) (bO e1))<|ak.here<|ai.ghost<|ak.eqs (s:=5) (dF:=.sl 4 bc 0 v1.length) J (congrArg (AV.sl 4 bc 0) (bO e1))<|ak.here<|rN<|ab.nil<|?_
 cases h
 exact ak.here ⟨_,.nil,_,.cons .p0 .nil,⟨J,J⟩⟩
theorem qm [GI:bI] {aa:List aO} {aj:aE} {aI:List (List ah)} {gZ:List ah} {hJ:List ah} {ed:aG} {ee:aG} {r:(List ah)} (h:fo aa aj aI gZ hJ ed ee=some r):aM Tryz.prog 93 [ET aa,aE.av aj,.func (.func 95) [.bJ [uA gZ],.bJ [uA hJ],.bJ [.str ed.Key,.str ed.ax,I ed.eI,I ed.bh,.bool ed.bj,I ed.On,I ed.eJ,I ed.bR,I ed.Rest,I ed.Empty],.bJ [.str ee.Key,.str ee.ax,I ee.eI,I ee.bh,.bool ee.bj,I ee.On,I ee.eJ,I ee.bR,I ee.Rest,I ee.Empty]],xC aI] [] (T1 (fun gr=>[(gr,dQ r)]) (fun gr=>.sl 4 gr 0 r.length)):=by
 unfold fo at h
 refine aM.dx ?_
 refine aM.bt Tryz.func93 J Tryz.ntmps93 Tryz.results93 J J ?_
 refine aN<|df J J J J fun b1=>rA J J<|rN<|aN<|rA J J<|rN<|tS<|aN<|rM J J<|ai.qv (db J) J<|rM J J<|rN<|ab.block<|ab.bV (fun x:(List ah)×Int=>dZ aa aj aI gZ hJ ed ee x.1 x.2) (fun x aL=>∃ (b5:Bk),aL=⟨106,[(2,.func (.func 95) [.bJ [uA gZ],.bJ [uA hJ],.bJ [.str ed.Key,.str ed.ax,I ed.eI,I ed.bh,.bool ed.bj,I ed.On,I ed.eJ,I ed.bR,I ed.Rest,I ed.Empty],.bJ [.str ee.Key,.str ee.ax,I ee.eI,I ee.bh,.bool ee.bj,I ee.On,I ee.eJ,I ee.bR,I ee.Rest,I ee.Empty]]),(3,xC aI),(5,.ptr b1 0),(9,.sl 4 b5 0 x.1.length),(18,ET aa),(19,I (aa.length:Int)),(20,I x.2)],[(b1,.cells [I aj.aT,I aj.To]),(b5,dQ x.1)]⟩) h ?_ ?_
 ·exact ak.arr (s:=9) 4 J fun b8=>ak.lq [1,0] ⟨b8,J⟩ J J
 ·intro x z1 aL J1 cT h im fw
  obtain ⟨l6,n7⟩:=x
  obtain ⟨b5,rfl⟩:=cT
  replace h:dZ aa aj aI gZ hJ ed ee l6 n7=some z1:=h
  unfold dZ at h
  refine aN<|ai.qv (bB J J) J<|rN<|tS<|cD h J (fun h=>?_) (fun h=>?_)
  ·refine tK<|tS<|ab.block<|aN<|aF h fun v9 e1 h=>ai.qv (bz J J J e1 J J) J<|ai.qv (aW J J J) J<|rA J J<|rN<|aN<|rM J J<|ai.qv (aA J J .p0 J) J<|rM J J<|aF h fun v10 e2 h=>eM J (DZ e2) cR .nil (fun _=>J) J fun kh=>rA J J<|rN<|aN<|rM J J<|ai.qv (cE J) J<|ai.qv (bT J J) J<|rM J J<|rN<|ab.block<|ab.bV (fun x:(List ah)×Int=>dY gZ hJ ed ee n7 v9 v10 x.1 x.2) (fun x aL=>∃ (w9:Bk),aL=⟨106,[(2,.func (.func 95) [.bJ [uA gZ],.bJ [uA hJ],.bJ [.str ed.Key,.str ed.ax,I ed.eI,I ed.bh,.bool ed.bj,I ed.On,I ed.eJ,I ed.bR,I ed.Rest,I ed.Empty],.bJ [.str ee.Key,.str ee.ax,I ee.eI,I ee.bh,.bool ee.bj,I ee.On,I ee.eJ,I ee.bR,I ee.Rest,I ee.Empty]]),(3,xC aI),(5,.ptr b1 0),(9,.sl 4 w9 0 x.1.length),(11,.str v9),(12,.sl 1 kh 0 v10.length),(18,ET aa),(19,I (aa.length:Int)),(20,I n7),(30,I (aU ((v10.length:Int) - (1:Int)))),(31,I x.2)],[(b1,.cells [I aj.aT,I aj.To]),(w9,dQ x.1),(kh,vf v10)]⟩) h ?_ ?_
   ·exact ak.lq [1,1,0] ⟨b5,J⟩ J J
   ·intro x z2 aL J2 cT h wb wR
    obtain ⟨gm,n17⟩:=x
    obtain ⟨w9,rfl⟩:=cT
    replace h:dY gZ hJ ed ee n7 v9 v10 gm n17=some z2:=h
    unfold dY at h
    refine aN<|ai.qv (bB J J) J<|rN<|tS<|cD h J (fun h=>?_) (fun h=>?_)
    ·refine tK<|tS<|ab.cut (fun aL=>∃ (uS:Bk) (lU:List ah),dW n17 lU=some z2∧aL=⟨106,[(2,.func (.func 95) [.bJ [uA gZ],.bJ [uA hJ],.bJ [.str ed.Key,.str ed.ax,I ed.eI,I ed.bh,.bool ed.bj,I ed.On,I ed.eJ,I ed.bR,I ed.Rest,I ed.Empty],.bJ [.str ee.Key,.str ee.ax,I ee.eI,I ee.bh,.bool ee.bj,I ee.On,I ee.eJ,I ee.bR,I ee.Rest,I ee.Empty]]),(3,xC aI),(5,.ptr b1 0),(9,.sl 4 uS 0 lU.length),(11,.str v9),(12,.sl 1 kh 0 v10.length),(18,ET aa),(19,I (aa.length:Int)),(20,I n7),(30,I (aU ((v10.length:Int) - (1:Int)))),(31,I n17)],[(b1,.cells [I aj.aT,I aj.To]),(uS,dQ lU),(kh,vf v10)]⟩) ?_ ?_
     ·refine ab.block<|aN<|rM J J<|rA J J<|rN<|aN<|rM J J<|rM J J<|rM J J<|rM J J<|aF h fun v20 e3 h=>ai.qv (aV J J J e3) J<|ai.qv (bg (g:=I) J J (.inl .p2) e3 J) J<|aF h fun v21 e4 h=>rO J J (zn e4) cR J<|rM J J<|rX J J J<|rX J J J<|rA J J<|rA J J<|rN<|tS<|aN<|rM J J<|ai.qv (cL J) J<|rN<|cB h J (fun h=>?_) (fun h=>?_)
      ·exact ab.exit J<|ab.stop<|ak.lq [0,0,0] ⟨w9,gm,h,J⟩ J J
      ·refine tK<|tS<|aF h fun v22 e5 h=>aF h fun v23 e6 h=>ab.gj (id:=11) (A:=[0,0,0,0,12,28,0,0,128,448,960,2047,0,8191]) (H0:=[]) (HH:=fun β=>[((β 12),.cells [.str [],.str [],I (0:Int),I (0:Int)]),(b1,.cells [I aj.aT,I aj.To]),(w9,dQ gm),(kh,vf v10)]) 13 mixed J (by kernel_rfl) (by kernel_rfl) [⟨some 12,none,[],fun b=>(b,.cells [.str [],.str [],I (0:Int),I (0:Int)]),none,[]⟩] [12] J (by kernel_rfl) J .nil (fun _=>J)<|AT.am 12 J J<|AM.qv (ay J) J<|AM.qv (ay J) J<|AM.qv (ay J) J<|AM.qv (ay J) J<|AM.qv (aV J J J e5) J<|AM.qv (bg (g:=I) J J (.inl .p2) e5 J) J<|AM.qv (ay J) J<|AM.qv (ay J) J<|AM.qv (a8 J J) J<|AM.qv (aV J J J e6) J<|AM.qv (bg (g:=I) J J (.inl .p2) e6 J) J<|AM.qv (cq J J J J J) J<|AM.nil<|AT.yq (V:=fun b=>.ptr b 0) (Ti:=[]) (Pi:=fun b=>[(b,.cells [.str [],.str [],I (0:Int),I (0:Int)])]) (fun _=>J) (fun _=>J) (fun _ _=>J) J (fun _=>J) J J J ?_ ?_
       ·exact bH J J J J fun IK=>ai.nil ⟨IK,_,J,J⟩
       refine AT.sY (fun _=>J) fun β=>?_
       generalize β 12=IK
       clear β
       refine aD J J J J .p0 J J<|rN<|aN<|rM J J<|ai.qv (cE J) J<|ai.qv (bT J J) J<|rA J J<|rN<|tS<|ab.cut (fun aL=>∃ (Mm:Bool),cw v9 gm n17 v21 v22 v23 Mm=some z2∧aL=⟨106,[(2,.func (.func 95) [.bJ [uA gZ],.bJ [uA hJ],.bJ [.str ed.Key,.str ed.ax,I ed.eI,I ed.bh,.bool ed.bj,I ed.On,I ed.eJ,I ed.bR,I ed.Rest,I ed.Empty],.bJ [.str ee.Key,.str ee.ax,I ee.eI,I ee.bh,.bool ee.bj,I ee.On,I ee.eJ,I ee.bR,I ee.Rest,I ee.Empty]]),(3,xC aI),(5,.ptr b1 0),(9,.sl 4 w9 0 gm.length),(11,.str v9),(12,.sl 1 kh 0 v10.length),(16,.ptr IK 0),(17,I (aU ((gm.length:Int) - (1:Int)))),(18,ET aa),(19,I (aa.length:Int)),(20,I n7),(30,I (aU ((v10.length:Int) - (1:Int)))),(31,I n17),(90,.bool Mm)],[(b1,.cells [I aj.aT,I aj.To]),(w9,dQ gm),(kh,vf v10),(IK,.cells [.str v9,.str v21.1,I v22,I v23])]⟩) ?_ ?_
       ·refine ab.bM (id:=13) (A:=[0,1,3,7,7,31,63,127,7,511,1023,2047,4095,4095,16383,32767,65535,4095,262143,524287,1048575,2097151,2097151,8388607,16777215,33554431,2097151,69206015,268435455,536870911]) 30 mixed J (by kernel_rfl) (by kernel_rfl)<|AM.qv (ay J) J<|AM.qv (rD J J) J<|AM.qv (ay J) J<|AM.ct J J J (fun hc=>?_) (fun hc=>?_)
        ·refine have h:=sC hc h;AM.qv (ay J) J<|AM.aB J J J<|AM.qv (ay J) J<|AM.aB J J J<|aF h fun v26 e7 h=>AM.qv (aV J J J e7) J<|AM.aB J J J<|AM.qv (bC J J) J<|AM.aB J J J<|AM.qv (bg (g:=ah.av) J J (.inl .p2) e7 J) J<|AM.aB J J J<|AM.qv (ay J) J<|AM.aB J J J<|AM.qv (nN J J) J<|AM.qv (il J J) J<|AM.qv (ay J) J<|AM.ct J J J (fun hc=>?_) (fun hc=>?_)
         ·refine have h:=sC hc h;AM.qv (ay J) J<|AM.aB J J J<|AM.qv (ay J) J<|AM.aB J J J<|aF h fun cx e8 h=>AM.qv (aV J J J e8) J<|AM.aB J J J<|AM.qv (bC J J) J<|AM.aB J J J<|AM.qv (bg (g:=ah.av) J J (.inl .p2) e8 J) J<|AM.aB J J J<|AM.qv (ay J) J<|AM.aB J J J<|AM.qv (nN J J) J<|AM.qv (il J J) J<|AM.qv (ay J) J<|AM.ct J J J (fun hc=>?_) (fun hc=>?_)
          ·exact have h:=sC hc h;AM.qv (ay J) J<|AM.aB J J J<|AM.qv (ay J) J<|AM.aB J J J<|aF h fun v28 e9 h=>AM.qv (aV J J J e9) J<|AM.aB J J J<|AM.qv (bC J J) J<|AM.aB J J J<|AM.qv (bg (g:=ah.av) J J (.inl .p2) e9 J) J<|AM.aB J J J<|AM.qv (aC J J) J<|AM.aB J J J<|AM.qv (aJ J J .p0 J) J<|AM.aB J J J<|AM.qv (dw J J) J<|AM.qv (il J J) J<|AM.nil<|rN<|ab.stop<|ak.lq [1,1,1,0] ⟨decide (v28.To=v22),h,J⟩ J J
          ·exact have h:=vq hc h;AM.az J J J J<|AM.az J J J J<|AM.az J J J J<|AM.az J J J J<|AM.az J J J J<|AM.az J J J J<|AM.az J J J J<|AM.qv (dR J J) J<|AM.nil<|rN<|ab.stop<|ak.lq [1,1,1,0] ⟨false,h,J⟩ J J
         ·exact have h:=vq hc h;AM.az J J J J<|AM.az J J J J<|AM.az J J J J<|AM.az J J J J<|AM.az J J J J<|AM.az J J J J<|AM.qv (dR J J) J<|AM.qv (ay J) J<|AM.az J J J J<|AM.az J J J J<|AM.az J J J J<|AM.az J J J J<|AM.az J J J J<|AM.az J J J J<|AM.az J J J J<|AM.az J J J J<|AM.qv (dR J J) J<|AM.nil<|rN<|ab.stop<|ak.lq [1,1,1,0] ⟨false,h,J⟩ J J
        ·exact have h:=vq hc h;AM.az J J J J<|AM.az J J J J<|AM.az J J J J<|AM.az J J J J<|AM.az J J J J<|AM.az J J J J<|AM.qv (dR J J) J<|AM.qv (ay J) J<|AM.az J J J J<|AM.az J J J J<|AM.az J J J J<|AM.az J J J J<|AM.az J J J J<|AM.az J J J J<|AM.az J J J J<|AM.qv (dR J J) J<|AM.qv (ay J) J<|AM.az J J J J<|AM.az J J J J<|AM.az J J J J<|AM.az J J J J<|AM.az J J J J<|AM.az J J J J<|AM.az J J J J<|AM.az J J J J<|AM.qv (dR J J) J<|AM.nil<|rN<|ab.stop<|ak.lq [1,1,1,0] ⟨false,h,J⟩ J J
       ·rintro aL ⟨Mm,h,rfl⟩
        unfold cw at h
        refine ab.cut (fun aL=>∃ (Be:Bk) (fx:List ah),dX n17 fx=some z2∧aL=⟨106,[(2,.func (.func 95) [.bJ [uA gZ],.bJ [uA hJ],.bJ [.str ed.Key,.str ed.ax,I ed.eI,I ed.bh,.bool ed.bj,I ed.On,I ed.eJ,I ed.bR,I ed.Rest,I ed.Empty],.bJ [.str ee.Key,.str ee.ax,I ee.eI,I ee.bh,.bool ee.bj,I ee.On,I ee.eJ,I ee.bR,I ee.Rest,I ee.Empty]]),(3,xC aI),(5,.ptr b1 0),(9,.sl 4 Be 0 fx.length),(11,.str v9),(12,.sl 1 kh 0 v10.length),(18,ET aa),(19,I (aa.length:Int)),(20,I n7),(30,I (aU ((v10.length:Int) - (1:Int)))),(31,I n17)],[(b1,.cells [I aj.aT,I aj.To]),(Be,dQ fx),(kh,vf v10)]⟩) ?_ ?_
        ·refine cB h J (fun h=>?_) (fun h=>?_)
         ·exact tR<|rM J J<|rM J J<|rF J J J<|rL J J .p3 J J<|aF h fun v31 Ba h=>ai.qv (aV J J J Ba) J<|ai.qv (bC J J) J<|bX (g:=ah.av) (za:=(⟨v31.Device,v31.aG,v31.aT,v23⟩:ah)) J J J J Ba J .p1 J<|ai.ghost<|ak.eqs (s:=9) (dF:=.sl 4 w9 0 (gm.set (aU ((gm.length:Int) - (1:Int))).toNat (⟨v31.Device,v31.aG,v31.aT,v23⟩:ah)).length) J (by rw [List.length_set])<|ak.here<|ai.ghost<|ak.eqs (s:=91) (dF:=.sl 4 w9 0 (gm.set (aU ((gm.length:Int) - (1:Int))).toNat (⟨v31.Device,v31.aG,v31.aT,v23⟩:ah)).length) J (by rw [List.length_set])<|ak.here<|rN<|ab.stop<|ak.lq [0,0,0] ⟨w9,gm.set (aU ((gm.length:Int) - (1:Int))).toNat (⟨v31.Device,v31.aG,v31.aT,v23⟩:ah),h,J⟩ J J
         ·exact tR<|rM J J<|ai.qv (aA J J .p3 J) J<|aQ (xs:=([(⟨v9,v21.1,v22,v23⟩:ah)]).map ah.av) J J J J J J<|aF h fun zg HB h=>cA (g:=ah.av) J J J J J J J J (.list _) HB (fun _=>.p1) J fun K5=>rA J J<|rN<|ab.stop<|ak.lq [0,0,0] ⟨K5,zg,h,J⟩ J J
        ·rintro aL ⟨Be,fx,h,rfl⟩
         unfold dX at h
         exact ab.cd<|ab.stop<|ak.lq [0,0,0] ⟨Be,fx,h,J⟩ J J
     ·rintro aL ⟨uS,lU,h,rfl⟩
      unfold dW at h
      refine tR<|ai.qv (a8 J J) J<|rM J J<|rN<|ab.stop<|?_
      cases h
      exact wb _ _ J<|ak.lq [0,0,0] ⟨uS,J⟩ J J
    ·refine ab.exit J<|have h:=cr h wR;ab.cd<|tR<|ai.qv (a8 J J) J<|rM J J<|rN<|ab.stop<|?_
     cases h
     exact im _ _ J<|ak.lq [0,0] ⟨w9,J⟩ J J
  ·refine ab.exit J<|have h:=cr h fw;?_
   unfold kj at h
   refine aN<|rM J J<|aF h fun vm EH h=>bd J (fQ (fun e=>xK e) (gl EH)) cR (.cons .p1 .nil) J J<|ai.ghost<|ak.eqs (s:=9) (dF:=.sl 4 b5 0 vm.length) J (congrArg (AV.sl 4 b5 0) (bO EH))<|ak.here<|ai.ghost<|ak.eqs (s:=103) (dF:=.sl 4 b5 0 vm.length) J (congrArg (AV.sl 4 b5 0) (bO EH))<|ak.here<|rN<|aN<|rM J J<|rA J J<|rN<|ab.ret<|?_
   cases h
   exact hH J [0] J ⟨b5,J,J⟩
theorem CA [GI:bI] {aa:aG} {aj:aG} {ar:List ao} {aI:aE} {r:(List ah)} (h:mw aa aj ar aI=some r):aM Tryz.prog 30 [aG.av aa,aG.av aj,lB ar,aE.av aI] [] (T1 (fun gr=>[(gr,dQ r)]) (fun gr=>.sl 4 gr 0 r.length)):=by
 unfold mw at h
 refine aM.dx ?_
 refine aM.bt Tryz.func30 J Tryz.ntmps30 Tryz.results30 J J ?_
 refine aN<|df J J J J fun b1=>df J J J J fun b2=>df J J J J fun b3=>rA J J<|rN<|tS<|aF h fun v4 e1 h=>aF h fun v5 e2 h=>ab.gj (id:=1) (A:=[0,1,0,0,15,0,32,0,0,511,0,0,4095,8191]) (H0:=[]) (HH:=fun β=>[((β 10),.cells [.nil]),((β 11),.cells [.nil]),(b3,.cells [I aI.aT,I aI.To]),(b2,.cells (w6 aj)),(b1,.cells (w6 aa))]) 12 mixed J (by kernel_rfl) (by kernel_rfl) [⟨some 10,none,[],fun b=>(b,.cells [.nil]),none,[]⟩,⟨some 11,none,[],fun b=>(b,.cells [.nil]),none,[]⟩] [10,11] J (by kernel_rfl) J .nil (fun _=>J)<|AT.am 10 J J<|AM.qv (aA J J .p2 J) J<|AM.bZ (xs:=([aa]:List aG).map aG.av) J J J J J J<|AM.qv (ay J) J<|AM.qv (aA J J .p0 J) J<|AM.gQ J (wg e1) cR J<|AM.qv (aA J J .p1 J) J<|AM.bZ (xs:=([aj]:List aG).map aG.av) J J J J J J<|AM.qv (ay J) J<|AM.qv (aA J J .p0 J) J<|AM.gQ J (wg e2) cR J<|AM.nil<|AT.yq (V:=fun b=>.ptr b 0) (Ti:=[]) (Pi:=fun b=>[(b,.cells [.nil])]) (fun _=>J) (fun _=>J) (fun _ _=>J) J (fun _=>J) J J J ?_ ?_
 ·exact bH J J J J fun b6=>ai.nil ⟨b6,_,J,J⟩
 refine AT.yq (V:=fun b=>.ptr b 0) (Ti:=[]) (Pi:=fun b=>[(b,.cells [.nil])]) (fun _=>J) (fun _=>J) (fun _ _=>J) J (fun _=>J) J J J ?_ ?_
 ·exact bH J J J J fun b7=>ai.nil ⟨b7,_,J,J⟩
 refine AT.sY (fun _=>J) fun β=>?_
 generalize β 10=b6
 generalize β 11=b7
 clear β
 refine aD J J J J .p0 J J<|aD J J J J .p1 J J<|rN<|tS<|aF h fun v8 e3 h=>ab.gj (id:=2) (A:=[0,1,0,0,0,0,48,127,255]) (H0:=[]) (HH:=fun β=>[((β 1),yy v8),(b6,.cells [uA v4]),(b7,.cells [uA v5]),(b3,.cells [I aI.aT,I aI.To]),(b2,.cells (w6 aj)),(b1,.cells (w6 aa))]) 7 mixed J (by kernel_rfl) (by kernel_rfl) [⟨some 1,none,[],fun b=>(b,yy v8),none,[]⟩] [1] J (by kernel_rfl) J .nil (fun _=>J)<|AT.am 1 J J<|AM.qv (ay J) J<|AM.nil<|AT.yq (V:=fun b=>.sl 1 b 0 v8.length) (Ti:=[]) (Pi:=fun b=>[(b,yy v8)]) (fun _=>J) (fun _=>J) (fun _ _=>J) J (fun _=>J) J J J ?_ ?_
 ·exact eM J (oF e3) cR .nil (fun _=>J) J fun b9=>ai.nil ⟨b9,_,J,J⟩
 refine AT.am 5 J J<|AM.qv (aA J J .p2 J) J<|AM.qv (oW J) J<|AM.qv (aJ J J .p0 J) J<|AM.qv (aJ J J .p1 J) J<|AM.bZ (xs:=([v4,v5]:List (List ah)).map (Gp 4 ah.av)) J J J J J J<|AM.nil<|AT.sY (fun _=>J) fun β=>?_
 generalize β 1=b9
 clear β
 refine aF h fun v10 e4 h=>fO J (qm e4) .nil (.cons (pj.gq .p0) (.cons (.co (.refl _)) (.cons (.HW _ _ _ (.cons (.yn _ _ _ .p1 (.cons (.co (.refl _)) .nil)) (.cons (.yn _ _ _ .p2 (.cons (.co (.refl _)) .nil)) (.cons (.yn _ _ _ .p5 (.cons (.co (.refl _)) (.cons (.co (.refl _)) (.cons (.co (.refl _)) (.cons (.co (.refl _)) (.cons (.co (.refl _)) (.cons (.co (.refl _)) (.cons (.co (.refl _)) (.cons (.co (.refl _)) (.cons (.co (.refl _)) (.cons (.co (.refl _)) .nil))))))))))) (.cons (.yn _ _ _ .p4 (.cons (.co (.refl _)) (.cons (.co (.refl _)) (.cons (.co (.refl _)) (.cons (.co (.refl _)) (.cons (.co (.refl _)) (.cons (.co (.refl _)) (.cons (.co (.refl _)) (.cons (.co (.refl _)) (.cons (.co (.refl _)) (.cons (.co (.refl _)) .nil))))))))))) .nil))))) (.cons (.co (.refl _)) .nil)))) (fun _=>J) (fun _=>J) (fun _=>(.cons (BP.gq (fun _=>J)) .nil)) J fun kh=>rA J J<|rN<|ab.ret<|?_
 cases h
 exact hH J [0] J ⟨kh,J,J⟩
theorem gM [GI:bI] {aa:List ah} {aj:List ah} {r:Bool} (h:cG aa aj=some r):Pu Tryz.prog 29 [uA aa,uA aj] (.bool r):=by
 unfold cG at h
 refine aM.bt Tryz.func29 J Tryz.ntmps29 Tryz.results29 J J ?_
 refine aN<|rA J J<|rN<|tS<|aN<|rM J J<|ai.qv (db J) J<|rM J J<|ai.qv (db J) J<|ai.qv (lW J J) J<|rN<|cD h J (fun h=>?_) (fun h=>?_)
 ·refine aN<|rA J J<|rN<|ab.ret<|?_
  cases h
  exact hP J J
 ·refine tK<|tS<|aN<|rM J J<|ai.qv (db J) J<|rM J J<|rN<|ab.block<|ab.bV (fun x:Int=>gn aa aj x) (fun x aL=>aL=⟨26,[(0,uA aa),(1,uA aj),(12,I (aa.length:Int)),(13,I x)],[]⟩) h ?_ ?_
  ·exact ak.lq [] J J J
  ·intro n2 z1 aL J1 cT h im fw
   obtain rfl:=cT
   replace h:gn aa aj n2=some z1:=h
   unfold gn at h
   refine aN<|ai.qv (bB J J) J<|rN<|tS<|cD h J (fun h=>?_) (fun h=>?_)
   ·refine tK<|tS<|ab.block<|aN<|rM J J<|rA J J<|rN<|tS<|ab.bM (id:=6) (A:=[0,0,3,7,0,0,48,112,255]) 9 mixed J (by kernel_rfl) (by kernel_rfl)<|AM.qv (ay J) J<|AM.qv (ay J) J<|aF h fun v3 e1 h=>AM.qv (bz J J J e1 J J) J<|AM.qv (bu J J J) J<|AM.qv (ay J) J<|AM.qv (ay J) J<|aF h fun v4 e2 h=>AM.qv (bz J J J e2 J J) J<|AM.qv (bu J J J) J<|AM.qv (Sd (g:=ah.av) (X:=v3) (Y:=v4) J J J J J) J<|AM.nil<|rN<|cD h J (fun h=>?_) (fun h=>?_)
    ·refine aN<|rA J J<|rN<|ab.ret<|have h:=cr h fw;?_
     cases h
     exact hP J J
    ·refine tK<|ab.cd<|tR<|ai.qv (a8 J J) J<|rM J J<|rN<|ab.stop<|?_
     cases h
     exact im _ _ J<|ak.lq [] J J J
   ·refine ab.exit J<|have h:=cr h fw;aN<|rA J J<|rN<|ab.ret<|?_
    cases h
    exact hP J J
theorem D2 [GI:bI] {aa:aG} {aj:List ao} {r:(List ah)} (h:tc aa aj=some r):Pu Tryz.prog 89 [.bJ [.str aa.Key,.str aa.ax,I aa.eI,I aa.bh,.bool aa.bj,I aa.On,I aa.eJ,I aa.bR,I aa.Rest,I aa.Empty],lB aj] (uA r):=by
 unfold tc at h
 refine aM.bt Tryz.func89 J Tryz.ntmps89 Tryz.results89 J J ?_
 refine aN<|rA J J<|rN<|aN<|zf (gk:=AV.str) (kp:=(bx 2 ae.av)) (β:=(fun _=>⟨none,0⟩)) J fun b1 b2=>rA J J<|rN<|tS<|aN<|rM J J<|ai.qv (db J) J<|rM J J<|rN<|ab.block<|ab.bV (fun x:(List (aO×(List ae)))×Int=>oT aa aj x.1 x.2) (fun x aL=>∃ (oE:aO→Bk),aL=⟨79,[(0,.bJ [.str aa.Key,.str aa.ax,I aa.eI,I aa.bh,.bool aa.bj,I aa.On,I aa.eJ,I aa.bR,I aa.Rest,I aa.Empty]),(1,lB aj),(5,.ph b1),(14,lB aj),(15,I (aj.length:Int)),(16,I x.2)],[(b1,.mp (kB AV.str (bx 2 ae.av) oE x.1)),(b2,.da (cC (bx 2 ae.av) oE x.1))]⟩) h ?_ ?_
 ·exact ak.lq [0,0] ⟨(fun _=>⟨none,0⟩),J⟩ J J
 ·intro x z1 aL J1 cT h im fw
  obtain ⟨l6,n8⟩:=x
  obtain ⟨oE,rfl⟩:=cT
  replace h:oT aa aj l6 n8=some z1:=h
  unfold oT at h
  refine aN<|ai.qv (bB J J) J<|rN<|tS<|cD h J (fun h=>?_) (fun h=>?_)
  ·refine tK<|tS<|ab.block<|aN<|aF h fun v9 e1 h=>ai.qv (bz J J J e1 J J) J<|ai.qv (bu J J J) J<|bH J J J J fun ja=>aD J J J J .p0 J J<|rN<|tS<|ab.bM (id:=5) (A:=[0,1,0,4,12,28,63]) 7 mixed J (by kernel_rfl) (by kernel_rfl)<|AM.qv (aC J J) J<|AM.qv (aJ J J .p0 J) J<|AM.qv (ay J) J<|AM.qv (cu J) J<|AM.qv (bl J J) J<|AM.qv (aW J J J) J<|AM.qv (nN J J) J<|AM.nil<|rN<|ab.cut (fun aL=>∃ (GK:aO→Bk) (jE:List (aO×(List ae))),oQ n8 jE=some z1∧aL=⟨79,[(0,.bJ [.str aa.Key,.str aa.ax,I aa.eI,I aa.bh,.bool aa.bj,I aa.On,I aa.eJ,I aa.bR,I aa.Rest,I aa.Empty]),(1,lB aj),(5,.ph b1),(14,lB aj),(15,I (aj.length:Int)),(16,I n8)],[(b1,.mp (kB AV.str (bx 2 ae.av) GK jE)),(b2,.da (cC (bx 2 ae.av) GK jE))]⟩) ?_ ?_
   ·refine cD h J (fun h=>?_) (fun h=>?_)
    ·refine aF h fun k9 e2 h=>aF h fun CY e3 h=>ab.gj (id:=6) (A:=[0,0,2,0,0,16,56,0,128,0,512,1920,3968,8184,16383]) (H0:=[(b1,.mp (kB AV.str (bx 2 ae.av) oE l6)),(b2,.da (cC (bx 2 ae.av) oE l6))]) (HH:=fun β=>[(b1,.mp (kB AV.str (bx 2 ae.av) oE l6)),(b2,.da (cC (bx 2 ae.av) oE (lJ l6 v9.Device))),((β 13),dC CY),(ja,.cells (Oq v9))]) 14 mixed J (by kernel_rfl) (by kernel_rfl) [⟨none,some 6,[],fun _=>(b1,.mp (kB AV.str (bx 2 ae.av) oE l6)),none,[]⟩,⟨none,some 6,[],fun _=>(b2,.da (cC (bx 2 ae.av) oE l6)),none,[]⟩,⟨some 6,some 13,[],fun b=>(b,dC k9),none,[]⟩,⟨some 6,none,[],fun b=>(b1,.mp (kB AV.str (bx 2 ae.av) oE l6)),none,[]⟩,⟨some 6,none,[],fun b=>(b2,.da (cC (bx 2 ae.av) oE (lJ l6 v9.Device))),none,[]⟩,⟨some 13,none,[],fun b=>(b,dC CY),none,[]⟩] [6,13] J (by kernel_rfl) J (.cons .p1 (.cons .p1 .nil)) (fun _=>J)<|AT.am 6 J J<|AM.qv (ay J) J<|AM.qv (aC J J) J<|AM.qv (aJ J J .p0 J) J<|AM.qv (ay J) J<|AM.qv (aC J J) J<|AM.qv (aJ J J .p0 J) J<|AM.nil<|AT.yq (V:=fun b=>.sl 2 b 0 k9.length) (Ti:=[(b1,.mp (kB AV.str (bx 2 ae.av) oE l6)),(b2,.da (cC (bx 2 ae.av) oE l6))]) (Pi:=fun b=>[(b,dC k9),(b1,.mp (kB AV.str (bx 2 ae.av) oE l6)),(b2,.da (cC (bx 2 ae.av) oE (lJ l6 v9.Device)))]) (fun _=>J) (fun _=>J) (fun _ _=>J) J (fun _=>J) J J J ?_ ?_
     ·exact vw (gk:=AV.str) (sz:=2) (g:=ae.av) (β:=oE) (M:=l6) (key:=v9.Device) J J .p0 .p1 J e2 J fun EU ZQ=>ai.nil ⟨EU,_,J,J⟩
     refine AT.am 6 J J<|AM.qv (aC J J) J<|AM.qv (aJ J J .p0 J) J<|AM.qv (aC J J) J<|AM.qv (aJ J J .p0 J) J<|AM.qv (cq J J J J J) J<|AM.bZ (xs:=([(⟨v9.At,v9.Value⟩:ae)]).map ae.av) J J J J J J<|AM.nil<|AT.Od (V:=fun b=>.sl 2 b 0 CY.length) (Ti:=fun β=>[((β 6),dC k9)]) (Pi:=fun b=>[(b,dC CY)]) (fun _=>J) (fun _=>J) (fun _ _=>J) (fun _=>J) (fun _=>J) J J J (fun β=>?_) ?_
     ·generalize β 6=EU
      exact cA (g:=ae.av) J J J J J J J J (.list _) e3 (fun _=>.p0) J fun A9=>ai.nil ⟨A9,_,J,J⟩
     refine AT.sY (fun _=>J) fun β=>?_
     generalize β 6=EU
     generalize β 13=A9
     clear β
     exact vX (gk:=AV.str) (kp:=(bx 2 ae.av)) (β:=oE) (M:=l6) (key:=v9.Device) (v:=CY) (b:=A9) J J J J .p0<|ai.ghost<|ak.CV (kp:=(bx 2 ae.av)) (β:=oE) (M:=l6) (key:=v9.Device) (v:=CY) J .p2 .p1<|ak.here<|rN<|ab.stop<|ak.lq [0,0] ⟨(w5 oE v9.Device A9),rP l6 v9.Device CY,h,J⟩ J J
    ·exact tK<|ab.stop<|ak.lq [1,1] ⟨oE,l6,h,J⟩ J J
   ·rintro aL ⟨GK,jE,h,rfl⟩
    unfold oQ at h
    refine ab.cd<|tR<|ai.qv (a8 J J) J<|rM J J<|rN<|ab.stop<|?_
    cases h
    exact im _ _ J<|ak.lq [0,0] ⟨GK,J⟩ J J
  ·refine ab.exit J<|have h:=cr h fw;?_
   unfold wP at h
   refine aN<|rA J J<|rN<|tS<|aN<|rM J J<|rM J J<|ai.qv (cu J) J<|ai.qv (bl J J) J<|ai.qv (aW J J J) J<|aF h fun v17 e4 h=>eM J (xD e4) cR .nil (fun _=>J) J fun uS=>ai.qv (cE J) J<|rM J J<|rN<|ab.block<|ab.bV (fun x:(List ah)×Int=>oS aa l6 v17 x.1 x.2) (fun x aL=>∃ (uO:Bk),aL=⟨79,[(0,.bJ [.str aa.Key,.str aa.ax,I aa.eI,I aa.bh,.bool aa.bj,I aa.On,I aa.eJ,I aa.bR,I aa.Rest,I aa.Empty]),(5,.ph b1),(8,.sl 4 uO 0 x.1.length),(47,.sl 1 uS 0 v17.length),(48,I (v17.length:Int)),(49,I x.2)],[(b1,.mp (kB AV.str (bx 2 ae.av) oE l6)),(b2,.da (cC (bx 2 ae.av) oE l6)),(uO,dQ x.1),(uS,yy v17)]⟩) h ?_ ?_
   ·exact ak.arr (s:=8) 4 J fun OA=>ak.lq [2,2,0,0] ⟨OA,J⟩ J J
   ·intro x z2 aL J2 cT h wb wR
    obtain ⟨od,n24⟩:=x
    obtain ⟨uO,rfl⟩:=cT
    replace h:oS aa l6 v17 od n24=some z2:=h
    unfold oS at h
    refine aN<|ai.qv (bB J J) J<|rN<|tS<|cD h J (fun h=>?_) (fun h=>?_)
    ·refine tK<|tS<|ab.block<|aN<|aF h fun v26 e5 h=>ai.qv (aV J J J e5) J<|ai.qv (bg (g:=AV.str) J J (.inl .p3) e5 J) J<|rA J J<|rN<|aN<|rM J J<|rM J J<|rM J J<|aF h fun cx e6 h=>vw (gk:=AV.str) (sz:=2) (g:=ae.av) (β:=oE) (M:=l6) (key:=v26) J J .p0 .p1 J e6 J fun JC TO=>aF h fun pn e7 h=>fO J (um e7) .nil (.cons (.co (.refl _)) (.cons (pj.gq .p0) .nil)) (fun _=>J) (fun _=>J) (fun _=>(.cons (BP.gq (fun _=>J)) .nil)) J fun Mr=>ai.qv (cE J) J<|rM J J<|ai.ghost<|ak.Sm (gk:=AV.str) (sz:=2) (g:=ae.av) (β:=oE) (M:=l6) (key:=v26) (nB.inj Tryz.prog 9) e6 TO .p2 .p1 .p2<|ak.here<|rN<|ab.block<|ab.bV (fun x:(List ah)×Int=>oR aa n24 v26 pn x.1 x.2) (fun x aL=>∃ (K7:Bk),aL=⟨79,[(0,.bJ [.str aa.Key,.str aa.ax,I aa.eI,I aa.bh,.bool aa.bj,I aa.On,I aa.eJ,I aa.bR,I aa.Rest,I aa.Empty]),(5,.ph b1),(8,.sl 4 K7 0 x.1.length),(10,.str v26),(47,.sl 1 uS 0 v17.length),(48,I (v17.length:Int)),(49,I n24),(57,.sl 2 Mr 0 pn.length),(58,I (pn.length:Int)),(59,I x.2)],[(b1,.mp (kB AV.str (bx 2 ae.av) oE l6)),(b2,.da (cC (bx 2 ae.av) oE l6)),(K7,dQ x.1),(uS,yy v17),(Mr,Mn pn)]⟩) h ?_ ?_
     ·exact ak.lq [1,1,1,1,0] ⟨uO,J⟩ J J
     ·intro x z3 aL J3 cT h IL JD
      obtain ⟨Mk,n36⟩:=x
      obtain ⟨K7,rfl⟩:=cT
      replace h:oR aa n24 v26 pn Mk n36=some z3:=h
      unfold oR at h
      refine aN<|ai.qv (bB J J) J<|rN<|tS<|cD h J (fun h=>?_) (fun h=>?_)
      ·refine tK<|tS<|ab.block<|aN<|aF h fun v37 e8 h=>ai.qv (aV J J J e8) J<|ai.qv (bw (g:=aZ.av) J J (.inl .p4) J e8 J) J<|bH J J J J fun b38=>aD J J J J .p0 J J<|rN<|ab.bM (id:=15) (A:=[0,0,0,4,12,28,0,64,0,256,1022,2046,4095,8191]) 12 mixed J (by kernel_rfl) (by kernel_rfl)<|AM.qv (ay J) J<|AM.qv (ay J) J<|AM.qv (ay J) J<|AM.qv (cu J) J<|AM.qv (bl J J) J<|AM.qv (aW J J J) J<|AM.qv (aC J J) J<|AM.qv (aJ J J .p0 J) J<|AM.qv (aC J J) J<|AM.qv (aJ J J .p0 J) J<|AM.qv (cq J J J J J) J<|AM.bZ (xs:=([(⟨v26,aa.Key,v37.from_,v37.EO⟩:ah)]).map ah.av) J J J J J J<|AM.nil<|aF h fun Wk e9 h=>cA (g:=ah.av) J J J J J J J J (.list _) e9 (fun _=>.p3) J fun Sq=>rA J J<|rN<|ab.cd<|tR<|ai.qv (a8 J J) J<|rM J J<|rN<|ab.stop<|?_
       cases h
       exact IL _ _ J<|ak.lq [1,1,1,1,1] ⟨Sq,J⟩ J J
      ·refine ab.exit J<|have h:=cr h JD;ab.cd<|tR<|ai.qv (a8 J J) J<|rM J J<|rN<|ab.stop<|?_
       cases h
       exact wb _ _ J<|ak.lq [0,0,0,0] ⟨K7,J⟩ J J
    ·refine ab.exit J<|have h:=cr h wR;aN<|rM J J<|rA J J<|rN<|ab.ret<|?_
     cases h
     exact ak.freeze .p2<|ak.co (s:=4) J (Co.LP .p2)<|ak.here ⟨_,.cons (.tmp _ _ J) .nil,J⟩
theorem GN [GI:bI] {aa:List ah} {aj:aE} {r:(List ah)} (h:wa aa aj=some r):Pu Tryz.prog 88 [uA aa,aE.av aj] (uA r):=by
 unfold wa at h
 refine aM.bt Tryz.func88 J Tryz.ntmps88 Tryz.results88 J J ?_
 refine aN<|df J J J J fun b1=>rA J J<|rN<|aN<|rA J J<|rN<|tS<|aN<|rM J J<|ai.qv (db J) J<|rM J J<|rN<|ab.block<|ab.bV (fun x:(List ah)×Int=>rk aa aj x.1 x.2) (fun x aL=>∃ (b5:Bk),aL=⟨37,[(3,.ptr b1 0),(5,.sl 4 b5 0 x.1.length),(8,uA aa),(9,I (aa.length:Int)),(10,I x.2)],[(b1,.cells [I aj.aT,I aj.To]),(b5,dQ x.1)]⟩) h ?_ ?_
 ·exact ak.arr (s:=5) 4 J fun b8=>ak.lq [1,0] ⟨b8,J⟩ J J
 ·intro x z1 aL J1 cT h im fw
  obtain ⟨l6,n7⟩:=x
  obtain ⟨b5,rfl⟩:=cT
  replace h:rk aa aj l6 n7=some z1:=h
  unfold rk at h
  refine aN<|ai.qv (bB J J) J<|rN<|tS<|cD h J (fun h=>?_) (fun h=>?_)
  ·refine tK<|tS<|ab.block<|aN<|aF h fun v9 e1 h=>ai.qv (bz J J J e1 J J) J<|ai.qv (bu J J J) J<|bH J J J J fun ja=>aD J J J J .p0 J J<|rN<|tS<|ab.gj (id:=5) (A:=[0,1,0,4,15,0,32,0,128,480,127,1151,4095,8191]) (H0:=[(ja,.cells [.str v9.Device,.str v9.aG,I v9.aT,I v9.To])]) (HH:=fun β=>[(ja,.cells [.str v9.Device,.str v9.aG,I (max v9.aT aj.aT),I v9.To]),(b1,.cells [I aj.aT,I aj.To]),(b5,dQ l6)]) 12 mixed J (by kernel_rfl) (by kernel_rfl) [⟨none,some 11,[1,6],fun _=>(ja,.cells [.str v9.Device,.str v9.aG,I v9.aT,I v9.To]),none,[]⟩,⟨some 11,none,[],fun _=>(ja,.cells [.str v9.Device,.str v9.aG,I (max v9.aT aj.aT),I v9.To]),none,[]⟩] [] J (by kernel_rfl) J (.cons .p0 .nil) (fun _=>J)<|AT.am 1 J J<|AM.qv (aC J J) J<|AM.nil<|AT.rd (Rs:=[(ja,.cells [.str v9.Device,.str v9.aG,I v9.aT,I v9.To])]) (fun _=>J) J (fun _=>J) (fun _=>J) (aJ J J .p0 J) J<|AT.am 4 J J<|AM.qv (aC J J) J<|AM.qv (aJ J J .p0 J) J<|AM.qv (zI J J) J<|AM.qv (aC J J) J<|AM.nil<|AT.rd (Rs:=[(ja,.cells [.str v9.Device,.str v9.aG,I v9.aT,I v9.To])]) (fun _=>J) J (fun _=>J) (fun _=>J) (aJ J J .p0 J) J<|AT.am 4 J J<|AM.qv (aC J J) J<|AM.qv (aJ J J .p0 J) J<|AM.qv (zJ J J) J<|AM.qv (aC J J) J<|AM.nil<|AT.Gt (Ti:=[(ja,.cells [.str v9.Device,.str v9.aG,I v9.aT,I v9.To])]) (Pi:=[(ja,.cells [.str v9.Device,.str v9.aG,I (max v9.aT aj.aT),I v9.To])]) (fun _=>J) (fun _=>J) (fun _=>J) J J ?_ ?_
   ·exact aD J J J J .p0 J J<|ai.nil ⟨_,J⟩
   refine AT.sY (fun _=>J) fun β=>rF J J J<|aD J J J J .p0 J J<|rN<|aN<|rF J J J<|rL J J .p0 J J<|rF J J J<|rL J J .p0 J J<|ai.qv (bB J J) J<|rN<|ab.cut (fun aL=>∃ (kh:Bk) (jI:List ah),rj n7 jI=some z1∧aL=⟨37,[(3,.ptr b1 0),(5,.sl 4 kh 0 jI.length),(8,uA aa),(9,I (aa.length:Int)),(10,I n7)],[(b1,.cells [I aj.aT,I aj.To]),(kh,dQ jI)]⟩) ?_ ?_
   ·refine cD h J (fun h=>?_) (fun h=>?_)
    ·exact tR<|rM J J<|ai.qv (aA J J .p0 J) J<|aQ (xs:=([(⟨v9.Device,v9.aG,max v9.aT aj.aT,min v9.To aj.To⟩:ah)]).map ah.av) J J J J J J<|aF h fun jJ e2 h=>cA (g:=ah.av) J J J J J J J J (.list _) e2 (fun _=>.p2) J fun EU=>rA J J<|rN<|ab.stop<|ak.lq [1,1] ⟨EU,jJ,h,J⟩ J J
    ·exact tK<|ab.stop<|ak.lq [1,1] ⟨b5,l6,h,J⟩ J J
   ·rintro aL ⟨kh,jI,h,rfl⟩
    unfold rj at h
    refine ab.cd<|tR<|ai.qv (a8 J J) J<|rM J J<|rN<|ab.stop<|?_
    cases h
    exact im _ _ J<|ak.lq [0,0] ⟨kh,J⟩ J J
  ·refine ab.exit J<|have h:=cr h fw;aN<|rM J J<|rA J J<|rN<|ab.ret<|?_
   cases h
   exact ak.freeze .p1<|ak.co (s:=4) J (Co.LP .p1)<|ak.here ⟨_,.cons (.tmp _ _ J) .nil,J⟩
theorem Bg [GI:bI] {aa:List Int} {aj:Int} {r:aO×Bool} (h:lu aa aj=some r):Pu Tryz.prog 99 [nu aa,.bJ [I aj]] (.lA [.str r.1,.bool r.2]):=by
 unfold lu at h
 refine aM.bt Tryz.func99 J Tryz.ntmps99 Tryz.results99 J J ?_
 refine aN<|rA J J<|rA J J<|rN<|aN<|rA J J<|rN<|tS<|aN<|rM J J<|ai.qv (db J) J<|rM J J<|rN<|ab.block<|ab.bV (fun x:Int×Int=>ey aa aj x.1 x.2) (fun x aL=>aL=⟨21,[(1,.bJ [I aj]),(5,I x.1),(8,nu aa),(9,I (aa.length:Int)),(10,I x.2)],[]⟩) h ?_ ?_
 ·exact ak.lq [] J J J
 ·intro x z1 aL J1 cT h im fw
  obtain ⟨n3,n4⟩:=x
  obtain rfl:=cT
  replace h:ey aa aj n3 n4=some z1:=h
  unfold ey at h
  refine aN<|ai.qv (bB J J) J<|rN<|tS<|cD h J (fun h=>?_) (fun h=>?_)
  ·refine tK<|tS<|ab.block<|aN<|aF h fun v5 e1 h=>ai.qv (bz J J J e1 J J) J<|ai.qv (aW J J J) J<|rA J J<|rN<|tR<|rM J J<|rM J J<|ai.qv (a8 J J) J<|rA J J<|rN<|ab.cd<|tR<|ai.qv (a8 J J) J<|rM J J<|rN<|ab.stop<|?_
   cases h
   exact im _ _ J<|ak.lq [] J J J
  ·refine ab.exit J<|have h:=cr h fw;tS<|ab.bM (id:=7) (A:=[0,0,3,0,15]) 5 mixed J (by kernel_rfl) (by kernel_rfl)<|AM.qv (ay J) J<|AM.qv (aW J J J) J<|AM.qv (rD J J) J<|AM.qv (bY J) J<|AM.qv (bY J) J<|AM.nil<|rN<|ab.ret<|?_
   cases h
   exact hQ J J J
theorem qD [GI:bI] {aa:List (List ah)} {ar:Int} {r:(List ah)} (h:fJ aa ar=some r):aM Tryz.prog 90 [xC aa,.func (.func 99) [.bJ [I ar]]] [] (T1 (fun gr=>[(gr,dQ r)]) (fun gr=>.sl 4 gr 0 r.length)):=by
 unfold fJ at h
 refine aM.dx ?_
 refine aM.bt Tryz.func90 J Tryz.ntmps90 Tryz.results90 J J ?_
 refine aN<|rA J J<|rN<|aN<|rA J J<|rN<|tS<|aN<|rM J J<|aF h fun v1 e1 h=>eM J (xE e1) cR .nil (fun _=>J) J fun b2=>CR (M:=v1) (enc:=X9) J (fun _ _=>.p0) J fun b3 IM zj TS TT=>rN<|ab.block<|ab.CO (fun e (x:(List ah))=>eC aa ar e x) (fun x:(List ah)=>eF x) (fun R x aL=>∃ (b6:Bk) (TU:List Nat),wJ IM zj TU (R.map X9)∧aL=⟨124,[(0,xC aa),(1,.func (.func 99) [.bJ [I ar]]),(5,.sl 4 b6 0 x.length),(16,.ptr b3 0)],[(b3,.Bz b2 zj TU),(b2,.Ch IM zj),(b6,dQ x)]⟩) h ?_ ?_
 ·exact ak.arr (s:=5) 4 J fun b8=>ak.lq [1,1,0] ⟨b8,[],TT,J⟩ J J
 ·intro R1 l7 aL J1 cT TW WH
  obtain ⟨b6,TU,TX,rfl⟩:=cT
  refine aN<|Gw J TX .p1 (fun _=>.p0) J (fun hN=>?_) (fun fy R' zk hP hlen OC OD=>?_)
  ·have h:=QO TW hN
   replace h:eF l7=_:=h
   unfold eF at h
   refine ai.ghost<|ak.Gx TS .p1<|ak.here<|rX J J J<|rN<|tS<|ab.F8 J<|ab.exit J<|aN<|rM J J<|aF h fun v9 e3 h=>bd J (dK (fun e=>rq (GI:=oI) e) (gl e3)) cR (.cons .p2 .nil) J J<|ai.ghost<|ak.eqs (s:=5) (dF:=.sl 4 b6 0 v9.length) J (congrArg (AV.sl 4 b6 0) (bO e3))<|ak.here<|ai.ghost<|ak.eqs (s:=121) (dF:=.sl 4 b6 0 v9.length) J (congrArg (AV.sl 4 b6 0) (bO e3))<|ak.here<|rN<|aN<|rM J J<|rA J J<|rN<|ab.ret<|?_
   cases h
   exact hH J [0] J ⟨b6,J,J⟩
  ·obtain ⟨z1,h,WI,fw⟩:=KV TW hP
   replace h:eC aa ar fy l7=some z1:=h
   unfold eC at h
   have im:=fun y aL (e:z1=.inl y) hi=>WH R' y aL hlen (WI y e) hi
   clear WI hP WH TW
   refine rX J J J<|rN<|tS<|ab.F7 J<|tK<|ab.block<|aN<|ai.qv (CS J .p0 .p1 OD J J) J<|rX J J J<|rX J J J<|rA J J<|rA J J<|rN<|aN<|rM J J<|ai.qv (db J) J<|aF h fun l10 e4 h=>BM (g:=I) (Z:=(0:Int)) J J J J J J J J J e4 fun kh=>rA J J<|rN<|aN<|rA J J<|rN<|aN<|rA J J<|rN<|ab.block<|ab.bV (fun x:(List ah)×(List Int)×Int×Int=>eB ar fy x.1 x.2.1 x.2.2.1 x.2.2.2) (fun x aL=>∃ (sS:Bk),aL=⟨124,[(0,xC aa),(1,.func (.func 99) [.bJ [I ar]]),(5,.sl 4 sS 0 x.1.length),(6,.str fy.1),(7,M7 fy.2),(8,.sl 1 kh 0 x.2.1.length),(9,I x.2.2.1),(10,I x.2.2.2),(16,.ptr b3 0)],[(sS,dQ x.1),(kh,vf x.2.1),(b3,.Bz b2 zj zk),(b2,.Ch IM zj)]⟩) h ?_ ?_
   ·exact ak.lq [3,0,0,0] ⟨b6,J⟩ J J
   ·intro x z2 aL J2 cT h wb wR
    obtain ⟨dL,lU,n20,n21⟩:=x
    obtain ⟨sS,rfl⟩:=cT
    replace h:eB ar fy dL lU n20 n21=some z2:=h
    unfold eB at h
    refine tS<|aN<|rM J J<|rM J J<|ai.qv (db J) J<|ai.qv (bB J J) J<|rN<|cD h J (fun h=>?_) (fun h=>?_)
    ·refine tK<|ab.cut (fun aL=>∃ (uO:Bk) (od:List ah) (qN:List Int) (n25:Int) (n26:Int),cY od qN n25 n26=some z2∧aL=⟨124,[(0,xC aa),(1,.func (.func 99) [.bJ [I ar]]),(5,.sl 4 uO 0 od.length),(6,.str fy.1),(7,M7 fy.2),(8,.sl 1 kh 0 qN.length),(9,I n25),(10,I n26),(16,.ptr b3 0)],[(uO,dQ od),(kh,vf qN),(b3,.Bz b2 zj zk),(b2,.Ch IM zj)]⟩) ?_ ?_
     ·refine ab.block<|aN<|rM J J<|rM J J<|aF h fun cx e5 h=>ai.qv (bz J J J e5 J J) J<|ai.qv (bl J J) J<|ai.qv (aW J J J) J<|rA J J<|rN<|tS<|ab.block<|ab.bV (fun x:(List Int)×Int=>eA ar fy dL n20 cx x.1 x.2) (fun x aL=>aL=⟨124,[(0,xC aa),(1,.func (.func 99) [.bJ [I ar]]),(5,.sl 4 sS 0 dL.length),(6,.str fy.1),(7,M7 fy.2),(8,.sl 1 kh 0 x.1.length),(9,I n20),(10,I x.2),(11,I cx.at_),(16,.ptr b3 0)],[(sS,dQ dL),(kh,vf x.1),(b3,.Bz b2 zj zk),(b2,.Ch IM zj)]⟩) h ?_ ?_
      ·exact ak.lq [0,0,0,0] J J J
      ·intro x z3 aL J3 cT h IL JD
       obtain ⟨fx,n31⟩:=x
       obtain rfl:=cT
       replace h:eA ar fy dL n20 cx fx n31=some z3:=h
       unfold eA at h
       refine tS<|tS<|ab.cut (fun aL=>∃ (GH:Bool),ez ar fy dL n20 cx fx n31 GH=some z3∧aL=⟨124,[(0,xC aa),(1,.func (.func 99) [.bJ [I ar]]),(5,.sl 4 sS 0 dL.length),(6,.str fy.1),(7,M7 fy.2),(8,.sl 1 kh 0 fx.length),(9,I n20),(10,I n31),(11,I cx.at_),(16,.ptr b3 0),(46,.bool GH)],[(sS,dQ dL),(kh,vf fx),(b3,.Bz b2 zj zk),(b2,.Ch IM zj)]⟩) ?_ ?_
       ·refine tR<|rM J J<|rM J J<|ai.qv (db J) J<|ai.qv (bB J J) J<|rM J J<|gT h J J J (fun h=>?_) (fun h=>?_)
        ·exact rM J J<|rY J J J<|rM J J<|rY J J J<|aF h fun v33 e6 h=>ai.qv (bz J J J e6 J J) J<|rY J J J<|ai.qv (bl J J) J<|rY J J J<|ai.qv (aW J J J) J<|rY J J J<|rM J J<|rY J J J<|ai.qv (dw J J) J<|rT J J J<|rN<|ab.stop<|ak.lq [0,0,0,0] ⟨decide (v33.at_=cx.at_),h,J⟩ J J
        ·exact rG J J J J<|rG J J J J<|rG J J J J<|rG J J J J<|rG J J J J<|rG J J J J<|rE J J J<|rN<|ab.stop<|ak.lq [0,0,0,0] ⟨false,h,J⟩ J J
       ·rintro aL ⟨GH,h,rfl⟩
        unfold ez at h
        refine cB h J (fun h=>?_) (fun h=>?_)
        ·refine tK<|tS<|ab.block<|ab.bM (id:=12) (A:=[0,0,0,6,14,30,63,127,0,0,768,1792,3840,8191,16383,32767]) 15 mixed J (by kernel_rfl) (by kernel_rfl)<|AM.qv (ay J) J<|AM.qv (ay J) J<|AM.qv (ay J) J<|aF h fun vm e7 h=>AM.qv (bz J J J e7 J J) J<|AM.qv (bl J J) J<|AM.qv (aW J J J) J<|aF h fun v35 e8 h=>AM.qv (aV J J J e8) J<|AM.qv (bg (g:=I) J J (.inl .p1) e8 J) J<|AM.qv (ay J) J<|AM.qv (ay J) J<|aF h fun AP e9 h=>AM.qv (bz J J J e9 J J) J<|AM.qv (bl J J) J<|AM.qv (aW J J J) J<|AM.qv (a8 J J) J<|aF h fun v37 Ba h=>AM.qv (aV J J J Ba) J<|AM.nil<|bX (g:=I) (za:=aU (v35+AP.CW)) J J J J Ba J .p1 J<|ai.ghost<|ak.eqs (s:=8) (dF:=.sl 1 kh 0 (fx.set vm.au.toNat (aU (v35+AP.CW))).length) J (by rw [List.length_set])<|ak.here<|ai.ghost<|ak.eqs (s:=49) (dF:=.sl 1 kh 0 (fx.set vm.au.toNat (aU (v35+AP.CW))).length) J (by rw [List.length_set])<|ak.here<|rN<|ab.cd<|tR<|rM J J<|ai.qv (a8 J J) J<|rA J J<|rN<|ab.stop<|?_
         cases h
         exact IL _ _ J<|ak.lq [0,0,0,0] J J J
        ·refine ab.exit J<|have h:=cr h JD;?_
         unfold kP at h
         refine aN<|rM J J<|rM J J<|aF h fun tQ HB h=>yb J J (Bg HB) (.cons (pj.gq .p1) (.cons (.co (.refl _)) .nil)) J J<|rM J J<|rX J J J<|rX J J J<|rA J J<|rA J J<|rN<|tS<|tS<|ab.cut (fun aL=>∃ (Ml:Bool),gG fy dL n20 cx fx n31 tQ Ml=some z2∧aL=⟨124,[(0,xC aa),(1,.func (.func 99) [.bJ [I ar]]),(5,.sl 4 sS 0 dL.length),(6,.str fy.1),(7,M7 fy.2),(8,.sl 1 kh 0 fx.length),(9,I n20),(10,I n31),(11,I cx.at_),(12,.str tQ.1),(16,.ptr b3 0),(77,.bool Ml)],[(sS,dQ dL),(kh,vf fx),(b3,.Bz b2 zj zk),(b2,.Ch IM zj)]⟩) ?_ ?_
         ·refine tR<|rM J J<|ai.qv (cL J) J<|rM J J<|ai.guard J J J (fun hc=>?_) (fun hc=>?_)
          ·rw [Cl hc] at h
           exact rM J J<|rY J J J<|rM J J<|rY J J J<|ai.qv (db J) J<|rY J J J<|ai.qv (dw J J) J<|rE J J J<|rN<|ab.stop<|ak.lq [0,0,0,0] ⟨decide (n31=(fy.2.length:Int)),h,J⟩ J J
          ·rw [Ck hc] at h
           exact rG J J J J<|rG J J J J<|rG J J J J<|rT J J J<|rN<|ab.stop<|ak.lq [0,0,0,0] ⟨true,h,J⟩ J J
         ·rintro aL ⟨Ml,h,rfl⟩
          unfold gG at h
          refine cB h J (fun h=>?_) (fun h=>?_)
          ·exact ab.exit J<|ab.stop<|ak.lq [0,0,0,0] ⟨sS,dL,fx,n20,n31,h,J⟩ J J
          ·refine tK<|tS<|tS<|ab.cut (fun aL=>∃ (c40:Bool),cZ fy dL n20 cx fx n31 tQ c40=some z2∧aL=⟨124,[(0,xC aa),(1,.func (.func 99) [.bJ [I ar]]),(5,.sl 4 sS 0 dL.length),(6,.str fy.1),(7,M7 fy.2),(8,.sl 1 kh 0 fx.length),(9,I n20),(10,I n31),(11,I cx.at_),(12,.str tQ.1),(16,.ptr b3 0),(97,.bool c40)],[(sS,dQ dL),(kh,vf fx),(b3,.Bz b2 zj zk),(b2,.Ch IM zj)]⟩) ?_ ?_
           ·refine tR<|rM J J<|ai.qv (rD J J) J<|rM J J<|gT h J J J (fun h=>?_) (fun h=>?_)
            ·refine rM J J<|rY J J J<|rM J J<|rY J J J<|aF h fun v41 EH h=>ai.qv (aV J J J EH) J<|rY J J J<|ai.qv (bC J J) J<|rY J J J<|ai.qv (bg (g:=ah.av) J J (.inl .p0) EH J) J<|rY J J J<|rM J J<|rY J J J<|ai.qv (dw J J) J<|rT J J J<|rM J J<|gT h J J J (fun h=>?_) (fun h=>?_)
             ·exact rM J J<|rY J J J<|rM J J<|rY J J J<|aF h fun A8 K4 h=>ai.qv (aV J J J K4) J<|rY J J J<|ai.qv (bC J J) J<|rY J J J<|ai.qv (bg (g:=ah.av) J J (.inl .p0) K4 J) J<|rY J J J<|rM J J<|rY J J J<|ai.qv (nN J J) J<|rT J J J<|rN<|ab.stop<|ak.lq [0,0,0,0] ⟨decide (A8.aG=tQ.1),h,J⟩ J J
             ·exact rG J J J J<|rG J J J J<|rG J J J J<|rG J J J J<|rG J J J J<|rG J J J J<|rE J J J<|rN<|ab.stop<|ak.lq [0,0,0,0] ⟨false,h,J⟩ J J
            ·exact rG J J J J<|rG J J J J<|rG J J J J<|rG J J J J<|rG J J J J<|rG J J J J<|rE J J J<|rM J J<|rG J J J J<|rG J J J J<|rG J J J J<|rG J J J J<|rG J J J J<|rG J J J J<|rG J J J J<|rE J J J<|rN<|ab.stop<|ak.lq [0,0,0,0] ⟨false,h,J⟩ J J
           ·rintro aL ⟨c40,h,rfl⟩
            unfold cZ at h
            refine cB h J (fun h=>?_) (fun h=>?_)
            ·exact aN<|rM J J<|rM J J<|rM J J<|rM J J<|aF h fun CZ P3 h=>ai.qv (bz J J J P3 J J) J<|ai.qv (bl J J) J<|ai.qv (aW J J J) J<|aF h fun v44 M8 h=>ai.qv (aV J J J M8) J<|ai.qv (bC J J) J<|bX (g:=ah.av) (za:=(⟨v44.Device,v44.aG,v44.aT,CZ.at_⟩:ah)) J J J J M8 J .p0 J<|ai.ghost<|ak.eqs (s:=5) (dF:=.sl 4 sS 0 (dL.set n20.toNat (⟨v44.Device,v44.aG,v44.aT,CZ.at_⟩:ah)).length) J (by rw [List.length_set])<|ak.here<|ai.ghost<|ak.eqs (s:=98) (dF:=.sl 4 sS 0 (dL.set n20.toNat (⟨v44.Device,v44.aG,v44.aT,CZ.at_⟩:ah)).length) J (by rw [List.length_set])<|ak.here<|rN<|ab.exit J<|ab.stop<|ak.lq [0,0,0,0] ⟨sS,dL.set n20.toNat (⟨v44.Device,v44.aG,v44.aT,CZ.at_⟩:ah),fx,n20,n31,h,J⟩ J J
            ·exact tK<|aN<|rM J J<|ai.qv (cE J) J<|rA J J<|rN<|tR<|rM J J<|rM J J<|rM J J<|rM J J<|rM J J<|rM J J<|aF h fun v45 P4 h=>ai.qv (bz J J J P4 J J) J<|ai.qv (bl J J) J<|ai.qv (aW J J J) J<|ai.qv (cq J J J J J) J<|aQ (xs:=([(⟨fy.1,tQ.1,cx.at_,v45.at_⟩:ah)]).map ah.av) J J J J J J<|aF h fun IH Q5 h=>cA (g:=ah.av) J J J J J J J J (.list _) Q5 (fun _=>.p0) J fun Vk=>rA J J<|rN<|ab.cd<|ab.stop<|ak.lq [0,0,0,0] ⟨Vk,IH,fx,(dL.length:Int),n31,h,J⟩ J J
     ·rintro aL ⟨uO,od,qN,n25,n26,h,rfl⟩
      unfold cY at h
      refine ab.stop<|?_
      cases h
      exact wb _ _ J<|ak.lq [0,0,0,0] ⟨uO,J⟩ J J
    ·refine ab.exit J<|have h:=cr h wR;ab.cd<|ab.stop<|?_
     cases h
     exact im _ _ J<|ak.lq [2,2,0] ⟨sS,zk,OC,J⟩ J J
theorem EY [GI:bI] {aa:List aG} {aj:Int} {ar:List ao} {aI:aE} {r:(List ah)×Int} (h:sh aa aj ar aI=some r):aM Tryz.prog 31 [wQ aa,I aj,lB ar,aE.av aI] [] (T1 (fun gr=>[(gr,dQ r.1)]) (fun gr=>.lA [.sl 4 gr 0 r.1.length,I r.2])):=by
 unfold sh at h
 refine aM.dx ?_
 refine aM.bt Tryz.func31 J Tryz.ntmps31 Tryz.results31 J J ?_
 refine aN<|df J J J J fun b1=>df J J J J fun b2=>rA J J<|rA J J<|rN<|tS<|aN<|rM J J<|aF h fun v3 e1 h=>bb J (kQ e1) cR J<|rM J J<|aF h fun v4 e2 h=>bb J (lf e2) cR J<|aQ (xs:=([v3,v4]:List Int).map I) J J J J J J<|aF h fun v5 e3 h=>bb J (tf e3) cR J<|rA J J<|rN<|aN<|rM J J<|ai.qv (lW J J) J<|rN<|cD h J (fun h=>?_) (fun h=>?_)
 ·refine aN<|rM J J<|rA J J<|rA J J<|rN<|ab.ret<|?_
  cases h
  exact ak.arr (s:=8) 4 J fun b6=>ak.here ⟨_,.cons (.tmp _ _ J) (.cons (.tmp _ _ J) .nil),_,.cons .p0 .nil,⟨b6,J,J⟩⟩
 ·refine tK<|tS<|tS<|ab.cut (fun aL=>∃ (c7:Bool),pZ aa aj ar aI c7=some r∧aL=⟨48,[(0,wQ aa),(2,lB ar),(5,.ptr b1 0),(7,.ptr b2 0),(28,.bool c7)],[(b1,.cells [I aj]),(b2,.cells [I aI.aT,I aI.To])]⟩) ?_ ?_
  ·refine tR<|rL J J .p1 J J<|bb J (j8 J) cR J<|rM J J<|ai.guard J J J (fun hc=>?_) (fun hc=>?_)
   ·rw [Cl hc] at h
    exact ai.qv (aA J J .p0 J) J<|rY J J J<|bb J (rn J) cR J<|rY J J J<|ai.qv (cL J) J<|rE J J J<|rN<|ab.stop<|ak.lq [1,0] ⟨!(iT aI),h,J⟩ J J
   ·rw [Ck hc] at h
    exact rG J J J J<|rG J J J J<|rT J J J<|rN<|ab.stop<|ak.lq [1,0] ⟨true,h,J⟩ J J
  ·rintro aL ⟨c7,h,rfl⟩
   unfold pZ at h
   refine cB h J (fun h=>?_) (fun h=>?_)
   ·refine aN<|rA J J<|rA J J<|rN<|ab.ret<|?_
    cases h
    exact ak.arr (s:=8) 4 J fun b8=>ak.here ⟨_,.cons (.tmp _ _ J) (.cons (.tmp _ _ J) .nil),_,.cons .p0 .nil,⟨b8,J,J⟩⟩
   ·refine tK<|aN<|rA J J<|rN<|tS<|aN<|rM J J<|ai.qv (db J) J<|rM J J<|rN<|ab.block<|ab.bV (fun x:(List (List ah))×Int=>gH aa aj ar aI x.1 x.2) (fun x aL=>∃ (vL:Bk),aL=⟨48,[(0,wQ aa),(2,lB ar),(5,.ptr b1 0),(7,.ptr b2 0),(11,.sl 1 vL 0 x.1.length),(30,I (aa.length:Int)),(31,I x.2)],[(b1,.cells [I aj]),(b2,.cells [I aI.aT,I aI.To]),(vL,aE8 x.1)]⟩) h ?_ ?_
    ·exact ak.arr (s:=11) 1 J fun w9=>ak.lq [1,1,0] ⟨w9,J⟩ J J
    ·intro x z1 aL J1 cT h im fw
     obtain ⟨jJ,n14⟩:=x
     obtain ⟨vL,rfl⟩:=cT
     replace h:gH aa aj ar aI jJ n14=some z1:=h
     unfold gH at h
     refine aN<|ai.qv (bB J J) J<|rN<|tS<|cD h J (fun h=>?_) (fun h=>?_)
     ·refine tK<|tS<|ab.block<|aN<|rM J J<|rA J J<|rN<|aF h fun gx e4 h=>aF h fun v17 e5 h=>aF h fun lL e6 h=>ab.gj (id:=10) (A:=[0,0,0,6,0,30,0,126,254,511,1023]) (H0:=[]) (HH:=fun β=>[(b1,.cells [I aj]),(b2,.cells [I aI.aT,I aI.To]),(vL,aE8 jJ)]) 9 mixed J (by kernel_rfl) (by kernel_rfl) [] [] J (by kernel_rfl) J .nil (fun _=>J)<|AT.am 5 J J<|AM.qv (ay J) J<|AM.qv (ay J) J<|AM.qv (ay J) J<|AM.qv (bz J J J e4 J J) J<|AM.qv (ay J) J<|AM.nil<|AT.LY (av:=uA v17) (Ti:=[]) (Pi:=[]) (fun _=>J) (fun _=>J) (fun _=>J) J J J ?_ ?_
      ·exact bb J (D2 e5) cR J<|ai.nil ⟨_,J,J⟩
      refine AT.am 1 J J<|AM.qv (aA J J .p1 J) J<|AM.nil<|AT.LY (av:=uA lL) (Ti:=[]) (Pi:=[]) (fun _=>J) (fun _=>J) (fun _=>J) J J J ?_ ?_
      ·exact bb J (GN e6) cR J<|ai.nil ⟨_,J,J⟩
      refine AT.am 1 J J<|AM.bZ (xs:=([lL]:List (List ah)).map (Gp 4 ah.av)) J J J J J J<|AM.nil<|AT.sY (fun _=>J) fun β=>aF h fun lU e7 h=>cA (g:=(Gp 4 ah.av)) J J J J J J J J (.list _) e7 (fun _=>.p2) J fun Q4=>rA J J<|rN<|ab.cd<|tR<|ai.qv (a8 J J) J<|rM J J<|rN<|ab.stop<|?_
      cases h
      exact im _ _ J<|ak.lq [0,0,0] ⟨Q4,J⟩ J J
     ·refine ab.exit J<|have h:=cr h fw;?_
      unfold pY at h
      refine aN<|rM J J<|ai.qv (oW J) J<|aF h fun v21 e8 h=>fO J (qD e8) .nil (.cons (pj.gq .p2) (.cons (.HW _ _ _ (.cons (.yn _ _ _ .p0 (.cons (.co (.refl _)) .nil)) .nil)) .nil)) (fun _=>J) (fun _=>J) (fun _=>(.cons (BP.gq (fun _=>J)) .nil)) J fun uO=>rA J J<|rA J J<|rN<|ab.ret<|?_
      cases h
      exact hI J J [0] J ⟨uO,J,J⟩
theorem xL [GI:bI] {aa:Bool} {aj:Int} {r:Int} (h:p9 aa aj=r):Pu Tryz.prog 32 [.bool aa,I aj] (I r):=by
 unfold p9 at h
 refine aM.bt Tryz.func32 J Tryz.ntmps32 Tryz.results32 J J ?_
 refine aN<|rA J J<|rN<|tS<|aN<|rM J J<|rN<|cB h J (fun h=>?_) (fun h=>?_)
 ·refine aN<|rM J J<|rA J J<|rN<|ab.ret<|?_
  obtain rfl:=h
  exact hP J J
 ·refine tK<|aN<|rA J J<|rN<|ab.ret<|?_
  obtain rfl:=h
  exact hP J J
theorem CB [GI:bI] {aa:aO} {aj:Int} {ar:List ah} {aI:Int} {r:aO×Bool} (h:mx aa aj ar aI=some r):Pu Tryz.prog 100 [.str aa,I aj,.bJ [uA ar],.bJ [I aI]] (.lA [.str r.1,.bool r.2]):=by
 unfold mx at h
 refine aM.bt Tryz.func100 J Tryz.ntmps100 Tryz.results100 J J ?_
 refine aN<|rA J J<|rA J J<|rN<|tS<|ab.bM (id:=1) (A:=[0,0,0,7,0,31,15,127]) 8 mixed J (by kernel_rfl) (by kernel_rfl)<|AM.qv (aW J J J) J<|AM.qv (ay J) J<|AM.qv (ay J) J<|aF h fun v1 e1 h=>AM.gQ J (zm e1) cR J<|AM.qv (aW J J J) J<|AM.qv (rD J J) J<|AM.qv (bY J) J<|AM.qv (bY J) J<|AM.nil<|rN<|ab.ret<|?_
 cases h
 exact hQ J J J
theorem sr [GI:bI] {aa:List aO} {aj:aE} {aI:List (List ah)} {gZ:List ah} {hJ:Int} {r:(List ah)} (h:gp aa aj aI gZ hJ=some r):aM Tryz.prog 93 [ET aa,aE.av aj,.func (.func 100) [.bJ [uA gZ],.bJ [I hJ]],xC aI] [] (T1 (fun gr=>[(gr,dQ r)]) (fun gr=>.sl 4 gr 0 r.length)):=by
 unfold gp at h
 refine aM.dx ?_
 refine aM.bt Tryz.func93 J Tryz.ntmps93 Tryz.results93 J J ?_
 refine aN<|df J J J J fun b1=>rA J J<|rN<|aN<|rA J J<|rN<|tS<|aN<|rM J J<|ai.qv (db J) J<|rM J J<|rN<|ab.block<|ab.bV (fun x:(List ah)×Int=>fu aa aj aI gZ hJ x.1 x.2) (fun x aL=>∃ (b5:Bk),aL=⟨106,[(2,.func (.func 100) [.bJ [uA gZ],.bJ [I hJ]]),(3,xC aI),(5,.ptr b1 0),(9,.sl 4 b5 0 x.1.length),(18,ET aa),(19,I (aa.length:Int)),(20,I x.2)],[(b1,.cells [I aj.aT,I aj.To]),(b5,dQ x.1)]⟩) h ?_ ?_
 ·exact ak.arr (s:=9) 4 J fun b8=>ak.lq [1,0] ⟨b8,J⟩ J J
 ·intro x z1 aL J1 cT h im fw
  obtain ⟨l6,n7⟩:=x
  obtain ⟨b5,rfl⟩:=cT
  replace h:fu aa aj aI gZ hJ l6 n7=some z1:=h
  unfold fu at h
  refine aN<|ai.qv (bB J J) J<|rN<|tS<|cD h J (fun h=>?_) (fun h=>?_)
  ·refine tK<|tS<|ab.block<|aN<|aF h fun v9 e1 h=>ai.qv (bz J J J e1 J J) J<|ai.qv (aW J J J) J<|rA J J<|rN<|aN<|rM J J<|ai.qv (aA J J .p0 J) J<|rM J J<|aF h fun v10 e2 h=>eM J (DZ e2) cR .nil (fun _=>J) J fun kh=>rA J J<|rN<|aN<|rM J J<|ai.qv (cE J) J<|ai.qv (bT J J) J<|rM J J<|rN<|ab.block<|ab.bV (fun x:(List ah)×Int=>ft gZ hJ n7 v9 v10 x.1 x.2) (fun x aL=>∃ (w9:Bk),aL=⟨106,[(2,.func (.func 100) [.bJ [uA gZ],.bJ [I hJ]]),(3,xC aI),(5,.ptr b1 0),(9,.sl 4 w9 0 x.1.length),(11,.str v9),(12,.sl 1 kh 0 v10.length),(18,ET aa),(19,I (aa.length:Int)),(20,I n7),(30,I (aU ((v10.length:Int) - (1:Int)))),(31,I x.2)],[(b1,.cells [I aj.aT,I aj.To]),(w9,dQ x.1),(kh,vf v10)]⟩) h ?_ ?_
   ·exact ak.lq [1,1,0] ⟨b5,J⟩ J J
   ·intro x z2 aL J2 cT h wb wR
    obtain ⟨gm,n17⟩:=x
    obtain ⟨w9,rfl⟩:=cT
    replace h:ft gZ hJ n7 v9 v10 gm n17=some z2:=h
    unfold ft at h
    refine aN<|ai.qv (bB J J) J<|rN<|tS<|cD h J (fun h=>?_) (fun h=>?_)
    ·refine tK<|tS<|ab.cut (fun aL=>∃ (uS:Bk) (lU:List ah),fp n17 lU=some z2∧aL=⟨106,[(2,.func (.func 100) [.bJ [uA gZ],.bJ [I hJ]]),(3,xC aI),(5,.ptr b1 0),(9,.sl 4 uS 0 lU.length),(11,.str v9),(12,.sl 1 kh 0 v10.length),(18,ET aa),(19,I (aa.length:Int)),(20,I n7),(30,I (aU ((v10.length:Int) - (1:Int)))),(31,I n17)],[(b1,.cells [I aj.aT,I aj.To]),(uS,dQ lU),(kh,vf v10)]⟩) ?_ ?_
     ·refine ab.block<|aN<|rM J J<|rA J J<|rN<|aN<|rM J J<|rM J J<|rM J J<|rM J J<|aF h fun v20 e3 h=>ai.qv (aV J J J e3) J<|ai.qv (bg (g:=I) J J (.inl .p2) e3 J) J<|aF h fun v21 e4 h=>rO J J (CB e4) cR J<|rM J J<|rX J J J<|rX J J J<|rA J J<|rA J J<|rN<|tS<|aN<|rM J J<|ai.qv (cL J) J<|rN<|cB h J (fun h=>?_) (fun h=>?_)
      ·exact ab.exit J<|ab.stop<|ak.lq [0,0,0] ⟨w9,gm,h,J⟩ J J
      ·refine tK<|tS<|aF h fun v22 e5 h=>aF h fun v23 e6 h=>ab.gj (id:=11) (A:=[0,0,0,0,12,28,0,0,128,448,960,2047,0,8191]) (H0:=[]) (HH:=fun β=>[((β 12),.cells [.str [],.str [],I (0:Int),I (0:Int)]),(b1,.cells [I aj.aT,I aj.To]),(w9,dQ gm),(kh,vf v10)]) 13 mixed J (by kernel_rfl) (by kernel_rfl) [⟨some 12,none,[],fun b=>(b,.cells [.str [],.str [],I (0:Int),I (0:Int)]),none,[]⟩] [12] J (by kernel_rfl) J .nil (fun _=>J)<|AT.am 12 J J<|AM.qv (ay J) J<|AM.qv (ay J) J<|AM.qv (ay J) J<|AM.qv (ay J) J<|AM.qv (aV J J J e5) J<|AM.qv (bg (g:=I) J J (.inl .p2) e5 J) J<|AM.qv (ay J) J<|AM.qv (ay J) J<|AM.qv (a8 J J) J<|AM.qv (aV J J J e6) J<|AM.qv (bg (g:=I) J J (.inl .p2) e6 J) J<|AM.qv (cq J J J J J) J<|AM.nil<|AT.yq (V:=fun b=>.ptr b 0) (Ti:=[]) (Pi:=fun b=>[(b,.cells [.str [],.str [],I (0:Int),I (0:Int)])]) (fun _=>J) (fun _=>J) (fun _ _=>J) J (fun _=>J) J J J ?_ ?_
       ·exact bH J J J J fun IK=>ai.nil ⟨IK,_,J,J⟩
       refine AT.sY (fun _=>J) fun β=>?_
       generalize β 12=IK
       clear β
       refine aD J J J J .p0 J J<|rN<|aN<|rM J J<|ai.qv (cE J) J<|ai.qv (bT J J) J<|rA J J<|rN<|tS<|ab.cut (fun aL=>∃ (Mm:Bool),cH v9 gm n17 v21 v22 v23 Mm=some z2∧aL=⟨106,[(2,.func (.func 100) [.bJ [uA gZ],.bJ [I hJ]]),(3,xC aI),(5,.ptr b1 0),(9,.sl 4 w9 0 gm.length),(11,.str v9),(12,.sl 1 kh 0 v10.length),(16,.ptr IK 0),(17,I (aU ((gm.length:Int) - (1:Int)))),(18,ET aa),(19,I (aa.length:Int)),(20,I n7),(30,I (aU ((v10.length:Int) - (1:Int)))),(31,I n17),(90,.bool Mm)],[(b1,.cells [I aj.aT,I aj.To]),(w9,dQ gm),(kh,vf v10),(IK,.cells [.str v9,.str v21.1,I v22,I v23])]⟩) ?_ ?_
       ·refine ab.bM (id:=13) (A:=[0,1,3,7,7,31,63,127,7,511,1023,2047,4095,4095,16383,32767,65535,4095,262143,524287,1048575,2097151,2097151,8388607,16777215,33554431,2097151,69206015,268435455,536870911]) 30 mixed J (by kernel_rfl) (by kernel_rfl)<|AM.qv (ay J) J<|AM.qv (rD J J) J<|AM.qv (ay J) J<|AM.ct J J J (fun hc=>?_) (fun hc=>?_)
        ·refine have h:=sC hc h;AM.qv (ay J) J<|AM.aB J J J<|AM.qv (ay J) J<|AM.aB J J J<|aF h fun v26 e7 h=>AM.qv (aV J J J e7) J<|AM.aB J J J<|AM.qv (bC J J) J<|AM.aB J J J<|AM.qv (bg (g:=ah.av) J J (.inl .p2) e7 J) J<|AM.aB J J J<|AM.qv (ay J) J<|AM.aB J J J<|AM.qv (nN J J) J<|AM.qv (il J J) J<|AM.qv (ay J) J<|AM.ct J J J (fun hc=>?_) (fun hc=>?_)
         ·refine have h:=sC hc h;AM.qv (ay J) J<|AM.aB J J J<|AM.qv (ay J) J<|AM.aB J J J<|aF h fun cx e8 h=>AM.qv (aV J J J e8) J<|AM.aB J J J<|AM.qv (bC J J) J<|AM.aB J J J<|AM.qv (bg (g:=ah.av) J J (.inl .p2) e8 J) J<|AM.aB J J J<|AM.qv (ay J) J<|AM.aB J J J<|AM.qv (nN J J) J<|AM.qv (il J J) J<|AM.qv (ay J) J<|AM.ct J J J (fun hc=>?_) (fun hc=>?_)
          ·exact have h:=sC hc h;AM.qv (ay J) J<|AM.aB J J J<|AM.qv (ay J) J<|AM.aB J J J<|aF h fun v28 e9 h=>AM.qv (aV J J J e9) J<|AM.aB J J J<|AM.qv (bC J J) J<|AM.aB J J J<|AM.qv (bg (g:=ah.av) J J (.inl .p2) e9 J) J<|AM.aB J J J<|AM.qv (aC J J) J<|AM.aB J J J<|AM.qv (aJ J J .p0 J) J<|AM.aB J J J<|AM.qv (dw J J) J<|AM.qv (il J J) J<|AM.nil<|rN<|ab.stop<|ak.lq [1,1,1,0] ⟨decide (v28.To=v22),h,J⟩ J J
          ·exact have h:=vq hc h;AM.az J J J J<|AM.az J J J J<|AM.az J J J J<|AM.az J J J J<|AM.az J J J J<|AM.az J J J J<|AM.az J J J J<|AM.qv (dR J J) J<|AM.nil<|rN<|ab.stop<|ak.lq [1,1,1,0] ⟨false,h,J⟩ J J
         ·exact have h:=vq hc h;AM.az J J J J<|AM.az J J J J<|AM.az J J J J<|AM.az J J J J<|AM.az J J J J<|AM.az J J J J<|AM.qv (dR J J) J<|AM.qv (ay J) J<|AM.az J J J J<|AM.az J J J J<|AM.az J J J J<|AM.az J J J J<|AM.az J J J J<|AM.az J J J J<|AM.az J J J J<|AM.az J J J J<|AM.qv (dR J J) J<|AM.nil<|rN<|ab.stop<|ak.lq [1,1,1,0] ⟨false,h,J⟩ J J
        ·exact have h:=vq hc h;AM.az J J J J<|AM.az J J J J<|AM.az J J J J<|AM.az J J J J<|AM.az J J J J<|AM.az J J J J<|AM.qv (dR J J) J<|AM.qv (ay J) J<|AM.az J J J J<|AM.az J J J J<|AM.az J J J J<|AM.az J J J J<|AM.az J J J J<|AM.az J J J J<|AM.az J J J J<|AM.qv (dR J J) J<|AM.qv (ay J) J<|AM.az J J J J<|AM.az J J J J<|AM.az J J J J<|AM.az J J J J<|AM.az J J J J<|AM.az J J J J<|AM.az J J J J<|AM.az J J J J<|AM.qv (dR J J) J<|AM.nil<|rN<|ab.stop<|ak.lq [1,1,1,0] ⟨false,h,J⟩ J J
       ·rintro aL ⟨Mm,h,rfl⟩
        unfold cH at h
        refine ab.cut (fun aL=>∃ (Be:Bk) (fx:List ah),fq n17 fx=some z2∧aL=⟨106,[(2,.func (.func 100) [.bJ [uA gZ],.bJ [I hJ]]),(3,xC aI),(5,.ptr b1 0),(9,.sl 4 Be 0 fx.length),(11,.str v9),(12,.sl 1 kh 0 v10.length),(18,ET aa),(19,I (aa.length:Int)),(20,I n7),(30,I (aU ((v10.length:Int) - (1:Int)))),(31,I n17)],[(b1,.cells [I aj.aT,I aj.To]),(Be,dQ fx),(kh,vf v10)]⟩) ?_ ?_
        ·refine cB h J (fun h=>?_) (fun h=>?_)
         ·exact tR<|rM J J<|rM J J<|rF J J J<|rL J J .p3 J J<|aF h fun v31 Ba h=>ai.qv (aV J J J Ba) J<|ai.qv (bC J J) J<|bX (g:=ah.av) (za:=(⟨v31.Device,v31.aG,v31.aT,v23⟩:ah)) J J J J Ba J .p1 J<|ai.ghost<|ak.eqs (s:=9) (dF:=.sl 4 w9 0 (gm.set (aU ((gm.length:Int) - (1:Int))).toNat (⟨v31.Device,v31.aG,v31.aT,v23⟩:ah)).length) J (by rw [List.length_set])<|ak.here<|ai.ghost<|ak.eqs (s:=91) (dF:=.sl 4 w9 0 (gm.set (aU ((gm.length:Int) - (1:Int))).toNat (⟨v31.Device,v31.aG,v31.aT,v23⟩:ah)).length) J (by rw [List.length_set])<|ak.here<|rN<|ab.stop<|ak.lq [0,0,0] ⟨w9,gm.set (aU ((gm.length:Int) - (1:Int))).toNat (⟨v31.Device,v31.aG,v31.aT,v23⟩:ah),h,J⟩ J J
         ·exact tR<|rM J J<|ai.qv (aA J J .p3 J) J<|aQ (xs:=([(⟨v9,v21.1,v22,v23⟩:ah)]).map ah.av) J J J J J J<|aF h fun zg HB h=>cA (g:=ah.av) J J J J J J J J (.list _) HB (fun _=>.p1) J fun K5=>rA J J<|rN<|ab.stop<|ak.lq [0,0,0] ⟨K5,zg,h,J⟩ J J
        ·rintro aL ⟨Be,fx,h,rfl⟩
         unfold fq at h
         exact ab.cd<|ab.stop<|ak.lq [0,0,0] ⟨Be,fx,h,J⟩ J J
     ·rintro aL ⟨uS,lU,h,rfl⟩
      unfold fp at h
      refine tR<|ai.qv (a8 J J) J<|rM J J<|rN<|ab.stop<|?_
      cases h
      exact wb _ _ J<|ak.lq [0,0,0] ⟨uS,J⟩ J J
    ·refine ab.exit J<|have h:=cr h wR;ab.cd<|tR<|ai.qv (a8 J J) J<|rM J J<|rN<|ab.stop<|?_
     cases h
     exact im _ _ J<|ak.lq [0,0] ⟨w9,J⟩ J J
  ·refine ab.exit J<|have h:=cr h fw;?_
   unfold lv at h
   refine aN<|rM J J<|aF h fun vm EH h=>bd J (fQ (fun e=>xK e) (gl EH)) cR (.cons .p1 .nil) J J<|ai.ghost<|ak.eqs (s:=9) (dF:=.sl 4 b5 0 vm.length) J (congrArg (AV.sl 4 b5 0) (bO EH))<|ak.here<|ai.ghost<|ak.eqs (s:=103) (dF:=.sl 4 b5 0 vm.length) J (congrArg (AV.sl 4 b5 0) (bO EH))<|ak.here<|rN<|aN<|rM J J<|rA J J<|rN<|ab.ret<|?_
   cases h
   exact hH J [0] J ⟨b5,J,J⟩
theorem GO [GI:bI] {aa:List aG} {aj:Int} {ar:List ao} {aI:aE} {r:(List ah)} (h:qQ aa aj ar aI=some r):aM Tryz.prog 33 [wQ aa,I aj,lB ar,aE.av aI] [] (T1 (fun gr=>[(gr,dQ r)]) (fun gr=>.sl 4 gr 0 r.length)):=by
 unfold qQ at h
 refine aM.dx ?_
 refine aM.bt Tryz.func33 J Tryz.ntmps33 Tryz.results33 J J ?_
 refine aN<|df J J J J fun b1=>df J J J J fun b2=>rA J J<|rN<|aN<|rM J J<|rM J J<|ai.qv (aA J J .p0 J) J<|aF h fun v3 e1 h=>bb J (wg e1) cR J<|bH J J J J fun b4=>aD J J J J .p0 J J<|rN<|tS<|aF h fun v5 e2 h=>ab.gj (id:=2) (A:=[0,1,0,0,0,16,63,127]) (H0:=[]) (HH:=fun β=>[((β 1),yy v5),(b4,.cells [uA v3]),(b2,.cells [I aI.aT,I aI.To]),(b1,.cells [I aj])]) 6 mixed J (by kernel_rfl) (by kernel_rfl) [⟨some 1,none,[],fun b=>(b,yy v5),none,[]⟩] [1] J (by kernel_rfl) J .nil (fun _=>J)<|AT.am 1 J J<|AM.qv (ay J) J<|AM.nil<|AT.yq (V:=fun b=>.sl 1 b 0 v5.length) (Ti:=[]) (Pi:=fun b=>[(b,yy v5)]) (fun _=>J) (fun _=>J) (fun _ _=>J) J (fun _=>J) J J J ?_ ?_
 ·exact eM J (oF e2) cR .nil (fun _=>J) J fun b6=>ai.nil ⟨b6,_,J,J⟩
 refine AT.am 4 J J<|AM.qv (aA J J .p1 J) J<|AM.qv (oW J) J<|AM.qv (aJ J J .p0 J) J<|AM.bZ (xs:=([v3]:List (List ah)).map (Gp 4 ah.av)) J J J J J J<|AM.nil<|AT.sY (fun _=>J) fun β=>?_
 generalize β 1=b6
 clear β
 refine aF h fun v7 e3 h=>fO J (sr e3) .nil (.cons (pj.gq .p0) (.cons (.co (.refl _)) (.cons (.HW _ _ _ (.cons (.yn _ _ _ .p1 (.cons (.co (.refl _)) .nil)) (.cons (.yn _ _ _ .p3 (.cons (.co (.refl _)) .nil)) .nil))) (.cons (.co (.refl _)) .nil)))) (fun _=>J) (fun _=>J) (fun _=>(.cons (BP.gq (fun _=>J)) .nil)) J fun b8=>rA J J<|rN<|ab.ret<|?_
 cases h
 exact hH J [0] J ⟨b8,J,J⟩
theorem IS [GI:bI] {aa:List ao} {aj:aO} {ar:aO} {r:(List ae)} (h:vA aa aj ar=some r):aM Tryz.prog 103 [lB aa,.str aj,.str ar] [] (T1 (fun gr=>[(gr,dC r)]) (fun gr=>.sl 2 gr 0 r.length)):=by
 unfold vA at h
 refine aM.dx ?_
 refine aM.bt Tryz.func103 J Tryz.ntmps103 Tryz.results103 J J ?_
 refine aN<|rA J J<|rN<|aN<|rA J J<|rN<|tS<|aN<|rM J J<|ai.qv (db J) J<|rM J J<|rN<|ab.block<|ab.bV (fun x:(List ae)×Int=>ju aa aj ar x.1 x.2) (fun x aL=>∃ (b4:Bk),aL=⟨36,[(1,.str aj),(2,.str ar),(7,.sl 2 b4 0 x.1.length),(10,lB aa),(11,I (aa.length:Int)),(12,I x.2)],[(b4,dC x.1)]⟩) h ?_ ?_
 ·exact ak.arr (s:=7) 2 J fun b7=>ak.lq [0] ⟨b7,J⟩ J J
 ·intro x z1 aL J1 cT h im fw
  obtain ⟨l5,n6⟩:=x
  obtain ⟨b4,rfl⟩:=cT
  replace h:ju aa aj ar l5 n6=some z1:=h
  unfold ju at h
  refine aN<|ai.qv (bB J J) J<|rN<|tS<|cD h J (fun h=>?_) (fun h=>?_)
  ·refine tK<|tS<|ab.block<|aN<|aF h fun v8 e1 h=>ai.qv (bz J J J e1 J J) J<|ai.qv (bu J J J) J<|bH J J J J fun b9=>aD J J J J .p0 J J<|rN<|tS<|ab.cut (fun aL=>∃ (CX:Bool),td l5 n6 v8 CX=some z1∧aL=⟨36,[(1,.str aj),(2,.str ar),(7,.sl 2 b4 0 l5.length),(9,.ptr b9 0),(10,lB aa),(11,I (aa.length:Int)),(12,I n6),(25,.bool CX)],[(b4,dC l5),(b9,.cells (Oq v8))]⟩) ?_ ?_
   ·refine tR<|rF J J J<|rL J J .p0 J J<|rM J J<|ai.qv (nN J J) J<|rM J J<|ai.ct J J J (fun hc=>?_) (fun hc=>?_)
    ·rw [tG hc] at h
     exact rF J J J<|rY J J J<|rL J J .p0 J J<|rY J J J<|rM J J<|rY J J J<|ai.qv (nN J J) J<|rT J J J<|rN<|ab.stop<|ak.lq [1,0] ⟨decide (v8.Device=ar),h,J⟩ J J
    ·rw [tH hc] at h
     exact rG J J J J<|rG J J J J<|rG J J J J<|rE J J J<|rN<|ab.stop<|ak.lq [1,0] ⟨false,h,J⟩ J J
   ·rintro aL ⟨CX,h,rfl⟩
    unfold td at h
    refine ab.cut (fun aL=>∃ (kh:Bk) (jI:List ae),qa n6 jI=some z1∧aL=⟨36,[(1,.str aj),(2,.str ar),(7,.sl 2 kh 0 jI.length),(10,lB aa),(11,I (aa.length:Int)),(12,I n6)],[(kh,dC jI)]⟩) ?_ ?_
    ·refine cB h J (fun h=>?_) (fun h=>?_)
     ·exact tR<|rM J J<|rF J J J<|rL J J .p1 J J<|rF J J J<|rL J J .p1 J J<|ai.qv (cq J J J J J) J<|aQ (xs:=([(⟨v8.At,v8.Value⟩:ae)]).map ae.av) J J J J J J<|aF h fun jJ e2 h=>cA (g:=ae.av) J J J J J J J J (.list _) e2 (fun _=>.p0) J fun EU=>rA J J<|rN<|ab.stop<|ak.lq [0] ⟨EU,jJ,h,J⟩ J J
     ·exact tK<|ab.stop<|ak.lq [0] ⟨b4,l5,h,J⟩ J J
    ·rintro aL ⟨kh,jI,h,rfl⟩
     unfold qa at h
     refine ab.cd<|tR<|ai.qv (a8 J J) J<|rM J J<|rN<|ab.stop<|?_
     cases h
     exact im _ _ J<|ak.lq [0] ⟨kh,J⟩ J J
  ·refine ab.exit J<|have h:=cr h fw;aN<|rM J J<|rA J J<|rN<|ab.ret<|?_
   cases h
   exact hH J [0] J ⟨b4,J,J⟩
theorem Ka [GI:bI] {aa:Int} {aj:Int} {r:Int} (h:xB aa aj=some r):Pu Tryz.prog 164 [I aa,I aj] (I r):=by
 unfold xB at h
 refine aM.bt Tryz.func164 J Tryz.ntmps164 Tryz.results164 J J ?_
 refine aN<|rA J J<|rN<|tS<|ab.block<|ab.bV (fun x:Int×Int=>sj x.1 x.2) (fun x aL=>aL=⟨12,[(0,I x.1),(1,I x.2)],[]⟩) h ?_ ?_
 ·exact ak.lq [] J J J
 ·intro x z1 aL J1 cT h im fw
  obtain ⟨n3,n4⟩:=x
  obtain rfl:=cT
  replace h:sj n3 n4=some z1:=h
  unfold sj at h
  refine tS<|aN<|rM J J<|ai.qv (lW J J) J<|rN<|cD h J (fun h=>?_) (fun h=>?_)
  ·refine tK<|ab.block<|ab.bM (id:=2) (A:=[0,0,0,6,3,31]) 6 mixed J (by kernel_rfl) (by kernel_rfl)<|AM.qv (ay J) J<|AM.qv (ay J) J<|AM.qv (ay J) J<|aF h fun n5 e1 h=>AM.qv (Gn J J e1) J<|AM.qv (bY J) J<|AM.qv (bY J) J<|AM.nil<|rN<|ab.cd<|ab.stop<|?_
   cases h
   exact im _ _ J<|ak.lq [] J J J
  ·refine ab.exit J<|have h:=cr h fw;aN<|rM J J<|rA J J<|rN<|ab.ret<|?_
   cases h
   exact hP J J
theorem CC [GI:bI] {aa:Int} {aj:Int} {r:Fraction} (h:oz aa aj=some r):Pu Tryz.prog 104 [I aa,I aj] (Fraction.av r):=by
 unfold oz at h
 refine aM.bt Tryz.func104 J Tryz.ntmps104 Tryz.results104 J J ?_
 refine aN<|bH J J J J fun b1=>rN<|aN<|rM J J<|rM J J<|ai.qv (y9 J) J<|ai.qv (zI J J) J<|rM J J<|aF h fun v2 e1 h=>bb J (Ka e1) cR J<|rA J J<|rN<|tS<|ab.bM (id:=2) (A:=[0,0,3,0,0,24,63,127]) 7 mixed J (by kernel_rfl) (by kernel_rfl)<|AM.qv (ay J) J<|AM.qv (ay J) J<|aF h fun n3 e2 h=>AM.qv (Dx J J e2) J<|AM.qv (ay J) J<|AM.qv (ay J) J<|aF h fun n4 e3 h=>AM.qv (Dx J J e3) J<|AM.qv (cq J J J J J) J<|AM.nil<|aD J J J J .p0 J J<|rN<|ab.ret<|?_
 cases h
 exact ak.here ⟨_,.cons (.all _ _ _ _ _ _ J .p0 aR.h bf.h J J) .nil,J⟩
theorem GP [GI:bI] {aa:aG} {aj:List ao} {ar:aO} {aI:aE} {r:Fraction×Int} (h:tX aa aj ar aI=some r):Pu Tryz.prog 34 [aG.av aa,lB aj,.str ar,aE.av aI] (.lA [Fraction.av r.1,I r.2]):=by
 unfold tX at h
 refine aM.bt Tryz.func34 J Tryz.ntmps34 Tryz.results34 J J ?_
 refine aN<|df J J J J fun b1=>df J J J J fun b2=>bH J J J J fun b3=>rA J J<|rN<|tS<|aN<|ai.qv (aA J J .p2 J) J<|aQ (xs:=([aa]:List aG).map aG.av) J J J J J J<|aF h fun v4 e1 h=>bb J (kQ e1) cR J<|rM J J<|aF h fun v5 e2 h=>bb J (lf e2) cR J<|aQ (xs:=([v4,v5]:List Int).map I) J J J J J J<|aF h fun v6 e3 h=>bb J (tf e3) cR J<|rA J J<|rN<|aN<|rM J J<|ai.qv (lW J J) J<|rN<|cD h J (fun h=>?_) (fun h=>?_)
 ·refine aN<|ai.qv (cq J J J J J) J<|rM J J<|aD J J J J .p0 J J<|rA J J<|rN<|ab.ret<|?_
  cases h
  exact ak.here ⟨_,.cons (.all _ _ _ _ _ _ J .p0 aR.h bf.h J J) (.cons (.tmp _ _ J) .nil),J⟩
 ·refine tK<|tS<|ab.block<|aN<|rM J J<|aF h fun v7 e4 h=>bb J (ue e4) cR J<|ai.qv (cL J) J<|rA J J<|rN<|cB h J (fun h=>?_) (fun h=>?_)
  ·refine aN<|ai.qv (cq J J J J J) J<|aD J J J J .p0 J J<|rA J J<|rN<|ab.ret<|?_
   cases h
   exact ak.here ⟨_,.cons (.all _ _ _ _ _ _ J .p0 aR.h bf.h J J) (.cons (.tmp _ _ J) .nil),J⟩
  ·refine aN<|ai.qv (aA J J .p1 J) J<|bb J (rn J) cR J<|ai.qv (cL J) J<|rA J J<|rN<|cB h J (fun h=>?_) (fun h=>?_)
   ·refine aN<|ai.qv (cq J J J J J) J<|aD J J J J .p0 J J<|rA J J<|rN<|ab.ret<|?_
    cases h
    exact ak.here ⟨_,.cons (.all _ _ _ _ _ _ J .p0 aR.h bf.h J J) (.cons (.tmp _ _ J) .nil),J⟩
   ·refine aN<|rF J J J<|rL J J .p1 J J<|rF J J J<|rL J J .p1 J J<|ai.qv (dw J J) J<|rA J J<|rN<|cD h J (fun h=>?_) (fun h=>?_)
    ·refine aN<|ai.qv (cq J J J J J) J<|aD J J J J .p0 J J<|rA J J<|rN<|ab.ret<|?_
     cases h
     exact ak.here ⟨_,.cons (.all _ _ _ _ _ _ J .p0 aR.h bf.h J J) (.cons (.tmp _ _ J) .nil),J⟩
    ·refine tK<|ab.cd<|aN<|rA J J<|rN<|tS<|aN<|rM J J<|rF J J J<|rL J J .p2 J J<|rM J J<|aF h fun v8 e5 h=>eM J (IS e5) cR .nil (fun _=>J) J fun b9=>aF h fun v10 e6 h=>fO J (um e6) .nil (.cons (.yn _ _ _ .p3 (.cons (.co (.refl _)) (.cons (.co (.refl _)) (.cons (.co (.refl _)) (.cons (.co (.refl _)) (.cons (.co (.refl _)) (.cons (.co (.refl _)) (.cons (.co (.refl _)) (.cons (.co (.refl _)) (.cons (.co (.refl _)) (.cons (.co (.refl _)) .nil))))))))))) (.cons (pj.gq .p0) .nil)) (fun _=>J) (fun _=>J) (fun _=>(.cons (BP.gq (fun _=>J)) .nil)) J fun kh=>ai.qv (cE J) J<|rM J J<|rN<|ab.block<|ab.bV (fun x:Int×Int=>iN aI v10 x.1 x.2) (fun x aL=>aL=⟨75,[(7,.ptr b2 0),(8,.ptr b3 0),(11,I x.1),(47,.sl 2 kh 0 v10.length),(48,I (v10.length:Int)),(49,I x.2)],[(b2,.cells [I aI.aT,I aI.To]),(b3,.cells [I (0:Int),I (0:Int)]),(kh,Mn v10)]⟩) h ?_ ?_
     ·exact ak.lq [3,2,0] J J J
     ·intro x z1 aL J1 cT h im fw
      obtain ⟨n14,n15⟩:=x
      obtain rfl:=cT
      replace h:iN aI v10 n14 n15=some z1:=h
      unfold iN at h
      refine aN<|ai.qv (bB J J) J<|rN<|tS<|cD h J (fun h=>?_) (fun h=>?_)
      ·refine tK<|tS<|ab.block<|aN<|aF h fun gx e7 h=>ai.qv (aV J J J e7) J<|ai.qv (bw (g:=aZ.av) J J (.inl .p2) J e7 J) J<|bH J J J J fun sS=>aD J J J J .p0 J J<|rN<|tR<|rM J J<|rF J J J<|rL J J .p0 J J<|rF J J J<|rL J J .p1 J J<|ai.qv (zJ J J) J<|rF J J J<|rL J J .p0 J J<|rF J J J<|rL J J .p1 J J<|ai.qv (zI J J) J<|ai.qv (bT J J) J<|ai.qv (zI J J) J<|ai.qv (a8 J J) J<|rA J J<|rN<|ab.cd<|tR<|ai.qv (a8 J J) J<|rM J J<|rN<|ab.stop<|?_
       cases h
       exact im _ _ J<|ak.lq [1,1,1] J J J
      ·refine ab.exit J<|have h:=cr h fw;?_
       unfold rl at h
       refine aN<|rM J J<|rF J J J<|rL J J .p0 J J<|rF J J J<|rL J J .p0 J J<|ai.qv (bT J J) J<|aF h fun lL e8 h=>bb J (CC e8) cR J<|aD J J J J .p1 J J<|rA J J<|rN<|ab.ret<|?_
       cases h
       exact ak.here ⟨_,.cons (.all _ _ _ _ _ _ J .p1 aR.h bf.h J J) (.cons (.tmp _ _ J) .nil),J⟩
theorem GQ {aa:aO} {r:Int} (h:tY aa=some r):Pu Tryz.prog 35 [.str aa] (I r):=by
 unfold tY at h
 refine aM.bt Tryz.func35 J Tryz.ntmps35 Tryz.results35 J J ?_
 refine aN<|rA J J<|rN<|tS<|aN<|rM J J<|aF h fun v1 e1 h=>bb J (Aa e1) cR J<|ai.qv (cL J) J<|rN<|cB h J (fun h=>?_) (fun h=>?_)
 ·refine aN<|rA J J<|rN<|ab.ret<|?_
  cases h
  exact hP J J
 ·refine tK<|aN<|rA J J<|rN<|ab.ret<|?_
  cases h
  exact hP J J
theorem IT [GI:bI] {aa:aG} {aj:List ao} {ar:aO} {aI:aE} {r:Fraction} (h:tx aa aj ar aI=some r):Pu Tryz.prog 36 [aG.av aa,lB aj,.str ar,aE.av aI] (Fraction.av r):=by
 unfold tx at h
 refine aM.bt Tryz.func36 J Tryz.ntmps36 Tryz.results36 J J ?_
 refine aN<|df J J J J fun b1=>df J J J J fun b2=>bH J J J J fun b3=>rN<|aN<|rA J J<|rN<|tS<|aN<|ai.qv (aA J J .p2 J) J<|rM J J<|rM J J<|aF h fun v4 e1 h=>eM J (xI e1) cR .nil (fun _=>J) J fun b5=>ai.qv (cE J) J<|rM J J<|rN<|ab.block<|ab.bV (fun x:Int×Int=>jv aI v4 x.1 x.2) (fun x aL=>aL=⟨45,[(7,.ptr b2 0),(8,.ptr b3 0),(9,I x.1),(17,.sl 2 b5 0 v4.length),(18,I (v4.length:Int)),(19,I x.2)],[(b2,.cells [I aI.aT,I aI.To]),(b3,.cells [I (0:Int),I (0:Int)]),(b5,IJ v4)]⟩) h ?_ ?_
 ·exact ak.lq [2,1,0] J J J
 ·intro x z1 aL J1 cT h im fw
  obtain ⟨n8,n9⟩:=x
  obtain rfl:=cT
  replace h:jv aI v4 n8 n9=some z1:=h
  unfold jv at h
  refine aN<|ai.qv (bB J J) J<|rN<|tS<|cD h J (fun h=>?_) (fun h=>?_)
  ·refine tK<|tS<|ab.block<|aN<|aF h fun v10 e2 h=>ai.qv (aV J J J e2) J<|ai.qv (bw (g:=aE.av) J J (.inl .p2) J e2 J) J<|bH J J J J fun kh=>aD J J J J .p0 J J<|rN<|aN<|ai.qv (aA J J .p0 J) J<|ai.qv (aA J J .p1 J) J<|bb J (GM J) cR J<|rM J J<|rX J J J<|rX J J J<|bH J J J J fun vL=>aD J J J J .p0 J J<|rA J J<|rN<|aN<|rM J J<|rN<|ab.cut (fun aL=>∃ (n13:Int),qd n9 n13=some z1∧aL=⟨45,[(7,.ptr b2 0),(8,.ptr b3 0),(9,I n13),(17,.sl 2 b5 0 v4.length),(18,I (v4.length:Int)),(19,I n9)],[(b2,.cells [I aI.aT,I aI.To]),(b3,.cells [I (0:Int),I (0:Int)]),(b5,IJ v4)]⟩) ?_ ?_
   ·refine cB h J (fun h=>?_) (fun h=>?_)
    ·exact tR<|rM J J<|rF J J J<|rL J J .p0 J J<|rF J J J<|rL J J .p0 J J<|ai.qv (bT J J) J<|ai.qv (a8 J J) J<|rA J J<|rN<|ab.stop<|ak.lq [2,2,2] ⟨aU (n8+(aU ((((ox v10 aI).1).To) - (((ox v10 aI).1).aT)))),h,J⟩ J J
    ·exact tK<|ab.stop<|ak.lq [2,2,2] ⟨n8,h,J⟩ J J
   ·rintro aL ⟨n13,h,rfl⟩
    unfold qd at h
    refine ab.cd<|tR<|ai.qv (a8 J J) J<|rM J J<|rN<|ab.stop<|?_
    cases h
    exact im _ _ J<|ak.lq [0,0,0] J J J
  ·refine ab.exit J<|have h:=cr h fw;?_
   unfold te at h
   refine aN<|rM J J<|rF J J J<|rL J J .p0 J J<|rF J J J<|rL J J .p0 J J<|ai.qv (bT J J) J<|aF h fun nz e3 h=>bb J (DY e3) cR J<|aD J J J J .p1 J J<|rN<|ab.ret<|?_
   cases h
   exact ak.here ⟨_,.cons (.all _ _ _ _ _ _ J .p1 aR.h bf.h J J) .nil,J⟩
theorem GR [GI:bI] {aa:aG} {aj:List ao} {ar:aE} {r:Int} (h:qR aa aj ar=some r):Pu Tryz.prog 107 [.bJ [.str aa.Key,.str aa.ax,I aa.eI,I aa.bh,.bool aa.bj,I aa.On,I aa.eJ,I aa.bR,I aa.Rest,I aa.Empty],lB aj,aE.av ar] (I r):=by
 unfold qR at h
 refine aM.bt Tryz.func107 J Tryz.ntmps107 Tryz.results107 J J ?_
 refine aN<|df J J J J fun b1=>rA J J<|rN<|aN<|rA J J<|rN<|tS<|aN<|rM J J<|rM J J<|aF h fun v2 e1 h=>eM J (th e1) cR .nil (fun _=>J) J fun b3=>ai.qv (cE J) J<|rM J J<|rN<|ab.block<|ab.bV (fun x:Int×Int=>iO ar v2 x.1 x.2) (fun x aL=>aL=⟨34,[(5,.ptr b1 0),(7,I x.1),(12,.sl 4 b3 0 v2.length),(13,I (v2.length:Int)),(14,I x.2)],[(b1,.cells [I ar.aT,I ar.To]),(b3,dQ v2)]⟩) h ?_ ?_
 ·exact ak.lq [1,0] J J J
 ·intro x z1 aL J1 cT h im fw
  obtain ⟨n6,n7⟩:=x
  obtain rfl:=cT
  replace h:iO ar v2 n6 n7=some z1:=h
  unfold iO at h
  refine aN<|ai.qv (bB J J) J<|rN<|tS<|cD h J (fun h=>?_) (fun h=>?_)
  ·refine tK<|tS<|ab.block<|aN<|aF h fun v8 e2 h=>ai.qv (aV J J J e2) J<|ai.qv (bw (g:=ah.av) J J (.inl .p1) J e2 J) J<|bH J J J J fun b9=>aD J J J J .p0 J J<|rN<|tS<|ab.cut (fun aL=>∃ (CX:Bool),rm n6 n7 CX=some z1∧aL=⟨34,[(5,.ptr b1 0),(7,I n6),(12,.sl 4 b3 0 v2.length),(13,I (v2.length:Int)),(14,I n7),(29,.bool CX)],[(b1,.cells [I ar.aT,I ar.To]),(b3,dQ v2)]⟩) ?_ ?_
   ·refine tR<|rF J J J<|rL J J .p0 J J<|rF J J J<|rL J J .p1 J J<|ai.qv (rD J J) J<|rM J J<|ai.ct J J J (fun hc=>?_) (fun hc=>?_)
    ·rw [tG hc] at h
     exact rF J J J<|rY J J J<|rL J J .p0 J J<|rY J J J<|rF J J J<|rY J J J<|rL J J .p1 J J<|rY J J J<|ai.qv (bB J J) J<|rT J J J<|rN<|ab.stop<|ak.lq [1,1] ⟨decide (v8.aT < ar.To),h,J⟩ J J
    ·rw [tH hc] at h
     exact rG J J J J<|rG J J J J<|rG J J J J<|rG J J J J<|rE J J J<|rN<|ab.stop<|ak.lq [1,1] ⟨false,h,J⟩ J J
   ·rintro aL ⟨CX,h,rfl⟩
    unfold rm at h
    refine ab.cut (fun aL=>∃ (n11:Int),oA n7 n11=some z1∧aL=⟨34,[(5,.ptr b1 0),(7,I n11),(12,.sl 4 b3 0 v2.length),(13,I (v2.length:Int)),(14,I n7)],[(b1,.cells [I ar.aT,I ar.To]),(b3,dQ v2)]⟩) ?_ ?_
    ·refine cB h J (fun h=>?_) (fun h=>?_)
     ·exact tR<|rM J J<|ai.qv (a8 J J) J<|rA J J<|rN<|ab.stop<|ak.lq [0,0] ⟨aU (n6+(1:Int)),h,J⟩ J J
     ·exact tK<|ab.stop<|ak.lq [0,0] ⟨n6,h,J⟩ J J
    ·rintro aL ⟨n11,h,rfl⟩
     unfold oA at h
     refine ab.cd<|tR<|ai.qv (a8 J J) J<|rM J J<|rN<|ab.stop<|?_
     cases h
     exact im _ _ J<|ak.lq [0,0] J J J
  ·refine ab.exit J<|have h:=cr h fw;aN<|rM J J<|rA J J<|rN<|ab.ret<|?_
   cases h
   exact hP J J
theorem GS [GI:bI] {aa:aG} {aj:List ao} {ar:aE} {r:Int×Int} (h:tZ aa aj ar=some r):Pu Tryz.prog 37 [aG.av aa,lB aj,aE.av ar] (.lA [I r.1,I r.2]):=by
 unfold tZ at h
 refine aM.bt Tryz.func37 J Tryz.ntmps37 Tryz.results37 J J ?_
 refine aN<|df J J J J fun b1=>df J J J J fun b2=>rA J J<|rA J J<|rN<|tS<|aN<|ai.qv (aA J J .p1 J) J<|aQ (xs:=([aa]:List aG).map aG.av) J J J J J J<|rM J J<|ai.qv (aA J J .p0 J) J<|aF h fun v3 e1 h=>bb J (wc e1) cR J<|rA J J<|rN<|aN<|rM J J<|ai.qv (lW J J) J<|rN<|cD h J (fun h=>?_) (fun h=>?_)
 ·refine aN<|rM J J<|rA J J<|rA J J<|rN<|ab.ret<|?_
  cases h
  exact hQ J J J
 ·refine tK<|aN<|rM J J<|ai.qv (aA J J .p0 J) J<|aF h fun v4 e2 h=>lY J (GR e2) (.cons (.yn _ _ _ .p1 (.cons (.co (.refl _)) (.cons (.co (.refl _)) (.cons (.co (.refl _)) (.cons (.co (.refl _)) (.cons (.co (.refl _)) (.cons (.co (.refl _)) (.cons (.co (.refl _)) (.cons (.co (.refl _)) (.cons (.co (.refl _)) (.cons (.co (.refl _)) .nil))))))))))) (.cons (.co (.refl _)) (.cons (.co (.refl _)) .nil))) J J<|rA J J<|rA J J<|rN<|ab.ret<|?_
  cases h
  exact hQ J J J
theorem IU [GI:bI] {aa:aG} {aj:List ao} {ar:aE} {r:Int} (h:qS aa aj ar=some r):Pu Tryz.prog 38 [aG.av aa,lB aj,aE.av ar] (I r):=by
 unfold qS at h
 refine aM.bt Tryz.func38 J Tryz.ntmps38 Tryz.results38 J J ?_
 refine aN<|df J J J J fun b1=>df J J J J fun b2=>rA J J<|rN<|aN<|rA J J<|rN<|tS<|aN<|rM J J<|rF J J J<|rL J J .p1 J J<|aF h fun v3 e1 h=>eM J (oF e1) cR .nil (fun _=>J) J fun b4=>ai.qv (cE J) J<|rM J J<|rN<|ab.block<|ab.bV (fun x:Int×Int=>jx aa aj ar v3 x.1 x.2) (fun x aL=>aL=⟨43,[(1,lB aj),(3,.ptr b1 0),(5,.ptr b2 0),(7,I x.1),(15,.sl 1 b4 0 v3.length),(16,I (v3.length:Int)),(17,I x.2)],[(b1,.cells (w6 aa)),(b2,.cells [I ar.aT,I ar.To]),(b4,yy v3)]⟩) h ?_ ?_
 ·exact ak.lq [2,1,0] J J J
 ·intro x z1 aL J1 cT h im fw
  obtain ⟨n7,n8⟩:=x
  obtain rfl:=cT
  replace h:jx aa aj ar v3 n7 n8=some z1:=h
  unfold jx at h
  refine aN<|ai.qv (bB J J) J<|rN<|tS<|cD h J (fun h=>?_) (fun h=>?_)
  ·refine tK<|tS<|ab.block<|aN<|aF h fun v9 e2 h=>ai.qv (aV J J J e2) J<|ai.qv (bg (g:=AV.str) J J (.inl .p2) e2 J) J<|rA J J<|rN<|aN<|ai.qv (aA J J .p0 J) J<|rM J J<|rM J J<|aF h fun v10 e3 h=>eM J (xI e3) cR .nil (fun _=>J) J fun kh=>ai.qv (cE J) J<|rM J J<|rN<|ab.block<|ab.bV (fun x:Int×Int=>jw ar n8 v10 x.1 x.2) (fun x aL=>aL=⟨43,[(1,lB aj),(3,.ptr b1 0),(5,.ptr b2 0),(7,I x.1),(15,.sl 1 b4 0 v3.length),(16,I (v3.length:Int)),(17,I n8),(24,.sl 2 kh 0 v10.length),(25,I (v10.length:Int)),(26,I x.2)],[(b1,.cells (w6 aa)),(b2,.cells [I ar.aT,I ar.To]),(b4,yy v3),(kh,IJ v10)]⟩) h ?_ ?_
   ·exact ak.lq [1,1,1,0] J J J
   ·intro x z2 aL J2 cT h wb wR
    obtain ⟨n14,n15⟩:=x
    obtain rfl:=cT
    replace h:jw ar n8 v10 n14 n15=some z2:=h
    unfold jw at h
    refine aN<|ai.qv (bB J J) J<|rN<|tS<|cD h J (fun h=>?_) (fun h=>?_)
    ·refine tK<|tS<|ab.block<|aN<|aF h fun gx e4 h=>ai.qv (aV J J J e4) J<|ai.qv (bw (g:=aE.av) J J (.inl .p3) J e4 J) J<|bH J J J J fun sS=>aD J J J J .p0 J J<|rN<|aN<|rF J J J<|rL J J .p0 J J<|rF J J J<|rL J J .p2 J J<|rF J J J<|rL J J .p2 J J<|ai.qv (bT J J) J<|bb J (nw J) cR J<|rN<|ab.cut (fun aL=>∃ (n18:Int),qe n15 n18=some z2∧aL=⟨43,[(1,lB aj),(3,.ptr b1 0),(5,.ptr b2 0),(7,I n18),(15,.sl 1 b4 0 v3.length),(16,I (v3.length:Int)),(17,I n8),(24,.sl 2 kh 0 v10.length),(25,I (v10.length:Int)),(26,I n15)],[(b1,.cells (w6 aa)),(b2,.cells [I ar.aT,I ar.To]),(b4,yy v3),(kh,IJ v10)]⟩) ?_ ?_
     ·refine cB h J (fun h=>?_) (fun h=>?_)
      ·exact tR<|rM J J<|ai.qv (a8 J J) J<|rA J J<|rN<|ab.stop<|ak.lq [1,1,1,1] ⟨aU (n14+(1:Int)),h,J⟩ J J
      ·exact tK<|ab.stop<|ak.lq [1,1,1,1] ⟨n14,h,J⟩ J J
     ·rintro aL ⟨n18,h,rfl⟩
      unfold qe at h
      refine ab.cd<|tR<|ai.qv (a8 J J) J<|rM J J<|rN<|ab.stop<|?_
      cases h
      exact wb _ _ J<|ak.lq [0,0,0,0] J J J
    ·refine ab.exit J<|have h:=cr h wR;ab.cd<|tR<|ai.qv (a8 J J) J<|rM J J<|rN<|ab.stop<|?_
     cases h
     exact im _ _ J<|ak.lq [0,0,0] J J J
  ·refine ab.exit J<|have h:=cr h fw;aN<|rM J J<|rA J J<|rN<|ab.ret<|?_
   cases h
   exact hP J J
theorem EZ [GI:bI] {aa:List ao} {aj:Int} {ar:aE} {r:(List ah)×Int} (h:sk aa aj ar=some r):aM Tryz.prog 39 [lB aa,I aj,aE.av ar] [] (T1 (fun gr=>[(gr,dQ r.1)]) (fun gr=>.lA [.sl 4 gr 0 r.1.length,I r.2])):=by
 unfold sk at h
 refine aM.dx ?_
 refine aM.bt Tryz.func39 J Tryz.ntmps39 Tryz.results39 J J ?_
 refine aN<|df J J J J fun b1=>rA J J<|rA J J<|rN<|tS<|aN<|rM J J<|aF h fun v2 e1 h=>bb J (lf e1) cR J<|rA J J<|rN<|aN<|rM J J<|ai.qv (lW J J) J<|rN<|cD h J (fun h=>?_) (fun h=>?_)
 ·refine aN<|rM J J<|rA J J<|rA J J<|rN<|ab.ret<|?_
  cases h
  exact ak.arr (s:=6) 4 J fun b3=>ak.here ⟨_,.cons (.tmp _ _ J) (.cons (.tmp _ _ J) .nil),_,.cons .p0 .nil,⟨b3,J,J⟩⟩
 ·refine tK<|tS<|tS<|ab.cut (fun aL=>∃ (c4:Bool),qg aa aj ar c4=some r∧aL=⟨85,[(0,lB aa),(1,I aj),(5,.ptr b1 0),(29,.bool c4)],[(b1,.cells [I ar.aT,I ar.To])]⟩) ?_ ?_
  ·refine tR<|rM J J<|bb J (j8 J) cR J<|rM J J<|ai.guard J J J (fun hc=>?_) (fun hc=>?_)
   ·rw [Cl hc] at h
    exact ai.qv (aA J J .p0 J) J<|rY J J J<|bb J (rn J) cR J<|rY J J J<|ai.qv (cL J) J<|rE J J J<|rN<|ab.stop<|ak.lq [0] ⟨!(iT ar),h,J⟩ J J
   ·rw [Ck hc] at h
    exact rG J J J J<|rG J J J J<|rT J J J<|rN<|ab.stop<|ak.lq [0] ⟨true,h,J⟩ J J
  ·rintro aL ⟨c4,h,rfl⟩
   unfold qg at h
   refine cB h J (fun h=>?_) (fun h=>?_)
   ·refine aN<|rA J J<|rA J J<|rN<|ab.ret<|?_
    cases h
    exact ak.arr (s:=6) 4 J fun b5=>ak.here ⟨_,.cons (.tmp _ _ J) (.cons (.tmp _ _ J) .nil),_,.cons .p0 .nil,⟨b5,J,J⟩⟩
   ·refine tK<|aN<|Fs J fun b6=>rA J J<|rN<|aN<|rA J J<|rN<|tS<|aN<|rM J J<|ai.qv (db J) J<|rM J J<|rN<|ab.block<|ab.bV (fun x:(List (aO×Int))×(List ah)×Int=>gI aa aj ar x.1 x.2.1 x.2.2) (fun x aL=>∃ (vL:Bk),aL=⟨85,[(1,I aj),(5,.ptr b1 0),(9,.ph b6),(10,.sl 4 vL 0 x.2.1.length),(31,lB aa),(32,I (aa.length:Int)),(33,I x.2.2)],[(b1,.cells [I ar.aT,I ar.To]),(b6,Wr x.1),(vL,dQ x.2.1)]⟩) h ?_ ?_
    ·exact ak.arr (s:=10) 4 J fun w9=>ak.lq [2,1,0] ⟨w9,J⟩ J J
    ·intro x z1 aL J1 cT h im fw
     obtain ⟨jE,jJ,n14⟩:=x
     obtain ⟨vL,rfl⟩:=cT
     replace h:gI aa aj ar jE jJ n14=some z1:=h
     unfold gI at h
     refine aN<|ai.qv (bB J J) J<|rN<|tS<|cD h J (fun h=>?_) (fun h=>?_)
     ·refine tK<|tS<|ab.block<|aN<|aF h fun gx e2 h=>ai.qv (bz J J J e2 J J) J<|ai.qv (bu J J J) J<|bH J J J J fun sS=>aD J J J J .p0 J J<|rN<|tS<|aN<|rM J J<|rF J J J<|rL J J .p0 J J<|aF h fun lL e3 h=>ai.qv (L7 (gk:=AV.str) (gv:=I) (M:=jE) (key:=gx.Device) (Z:=(0:Int)) J J .p2 J J J e3 J) J<|rM J J<|rX J J J<|rX J J J<|rA J J<|rA J J<|rN<|aN<|rM J J<|rN<|ab.cut (fun aL=>∃ (DX:Bk) (vZ:List ah),nq jE n14 gx vZ=some z1∧aL=⟨85,[(1,I aj),(5,.ptr b1 0),(9,.ph b6),(10,.sl 4 DX 0 vZ.length),(12,.ptr sS 0),(31,lB aa),(32,I (aa.length:Int)),(33,I n14)],[(b1,.cells [I ar.aT,I ar.To]),(b6,Wr jE),(DX,dQ vZ),(sS,.cells (Oq gx))]⟩) ?_ ?_
      ·refine cB h J (fun h=>?_) (fun h=>?_)
       ·exact tR<|rM J J<|rF J J J<|rL J J .p0 J J<|rM J J<|rM J J<|ai.qv (a8 J J) J<|ai.qv (a8 J J) J<|rF J J J<|rL J J .p0 J J<|ai.qv (cq J J J J J) J<|aQ (xs:=([(⟨gx.Device,[],aU ((aU (lL.1+aj))+(1:Int)),gx.At⟩:ah)]).map ah.av) J J J J J J<|aF h fun Mj e4 h=>cA (g:=ah.av) J J J J J J J J (.list _) e4 (fun _=>.p3) J fun uO=>rA J J<|rN<|ab.stop<|ak.lq [1,1,1,0] ⟨uO,Mj,h,J⟩ J J
       ·exact tK<|ab.stop<|ak.lq [1,1,1,0] ⟨vL,jJ,h,J⟩ J J
      ·rintro aL ⟨DX,vZ,h,rfl⟩
       unfold nq at h
       refine tR<|rM J J<|rF J J J<|rL J J .p3 J J<|rF J J J<|rL J J .p3 J J<|BS (gk:=AV.str) (gv:=I) (M:=jE) (key:=gx.Device) (v:=gx.At) J J J J .p1<|rN<|ab.cd<|tR<|ai.qv (a8 J J) J<|rM J J<|rN<|ab.stop<|?_
       cases h
       exact im _ _ J<|ak.lq [0,0,0] ⟨DX,J⟩ J J
     ·refine ab.exit J<|have h:=cr h fw;tS<|aN<|rM J J<|CR (M:=jE) (enc:=Ws) J (fun _ _=>.p1) J fun K6 WC TP TQ TR=>rN<|ab.block<|ab.CO (fun e (x:(List ah))=>jY aj e x) (fun x:(List ah)=>jZ ar x) (fun R x aL=>∃ (ZV:Bk) (ZW:List Nat),wJ WC TP ZW (R.map Ws)∧aL=⟨85,[(1,I aj),(5,.ptr b1 0),(10,.sl 4 ZV 0 x.length),(64,.ptr K6 0)],[(K6,.Bz b6 TP ZW),(b6,.Ch WC TP),(b1,.cells [I ar.aT,I ar.To]),(ZV,dQ x)]⟩) h ?_ ?_
      ·exact ak.lq [0,1,0,0] ⟨vL,[],TR,J⟩ J J
      ·intro R2 EG aL J2 cT ZX hK2
       obtain ⟨ZV,ZW,ZY,rfl⟩:=cT
       refine aN<|Gw J ZY .p1 (fun _=>.p0) J (fun hN=>?_) (fun Ve R' ZZ hP hlen WN WO=>?_)
       ·have h:=QO ZX hN
        replace h:jZ ar EG=_:=h
        unfold jZ at h
        refine ai.ghost<|ak.Gx TQ .p1<|ak.here<|rX J J J<|rN<|tS<|ab.F8 J<|ab.exit J<|aN<|rM J J<|ai.qv (aA J J .p2 J) J<|aF h fun v28 e6 h=>fO J (we e6) .nil (.cons (pj.gq .p3) (.cons (.co (.refl _)) .nil)) (fun _=>J) (fun _=>J) (fun _=>(.cons (BP.gq (fun _=>J)) .nil)) J fun Be=>rA J J<|rN<|aN<|rM J J<|aF h fun v30 e7 h=>bd J (dK (fun e=>rq (GI:=oI) e) (gl e7)) cR (.cons .p0 .nil) J J<|ai.ghost<|ak.eqs (s:=17) (dF:=.sl 4 Be 0 v30.length) J (congrArg (AV.sl 4 Be 0) (bO e7))<|ak.here<|ai.ghost<|ak.eqs (s:=81) (dF:=.sl 4 Be 0 v30.length) J (congrArg (AV.sl 4 Be 0) (bO e7))<|ak.here<|ai.ghost<|ak.eqs (s:=82) (dF:=.sl 4 Be 0 v30.length) J (congrArg (AV.sl 4 Be 0) (bO e7))<|ak.here<|rN<|aN<|rM J J<|rA J J<|rA J J<|rN<|ab.ret<|?_
        cases h
        exact hI J J [0] J ⟨Be,J,J⟩
       ·obtain ⟨z2,h,hN2,wR⟩:=KV ZX hP
        replace h:jY aj Ve EG=some z2:=h
        unfold jY at h
        have wb:=fun y aL (e:z2=.inl y) hi=>hK2 R' y aL hlen (hN2 y e) hi
        clear hN2 hP hK2 ZX
        refine rX J J J<|rN<|tS<|ab.F7 J<|tK<|ab.block<|aN<|ai.qv (CS J .p0 .p1 WO J J) J<|rX J J J<|rX J J J<|rA J J<|rA J J<|rN<|tR<|rM J J<|rM J J<|rM J J<|rM J J<|ai.qv (a8 J J) J<|ai.qv (a8 J J) J<|ai.qv (cq J J J J J) J<|aQ (xs:=([(⟨Ve.1,[],aU ((aU (Ve.2+aj))+(1:Int)),(345686400000:Int)⟩:ah)]).map ah.av) J J J J J J<|aF h fun Q2 e8 h=>cA (g:=ah.av) J J J J J J J J (.list _) e8 (fun _=>.p3) J fun M9=>rA J J<|rN<|ab.cd<|ab.stop<|?_
        cases h
        exact wb _ _ J<|ak.lq [0,0,0,0] ⟨M9,ZZ,WN,J⟩ J J
theorem sJ [GI:bI] {aa:List ao} {r:(List ao)} (h:gJ aa=some r):aM Tryz.prog 111 [.list 4 (aa.map ao.av)] [] (T1 (fun gr=>[(gr,.arr 4 (r.map ao.av))]) (fun gr=>.sl 4 gr 0 r.length)):=by
 unfold gJ at h
 refine aM.dx ?_
 refine aM.bt Tryz.func111 J Tryz.ntmps111 Tryz.results111 J J ?_
 refine ab.seq ?_
 refine ab.region ?_
 refine ai.qv (bY J) J ?_
 refine ai.nil ?_
 refine ab.seq ?_
 refine ab.seq ?_
 refine ab.region ?_
 refine ai.qv (ay J) J ?_
 refine KS J J J J (fun c hc=>?_)
 refine ai.nil ?_
 refine ab.cond J (fun hT=>?_) (fun hF=>?_)
 ·obtain rfl:=zQ h (List.map_eq_nil_iff.1 (hc hT))
  refine ab.seq ?_
  refine ab.region ?_
  refine ai.qv (bY J) J ?_
  refine ai.nil ?_
  refine ab.ret ?_
  refine ak.arr (s:=2) 4 J (fun b1=>?_)
  exact ak.here ⟨_,.cons (.tmp _ _ J) .nil,_,.cons .here .nil,⟨b1,J,J⟩⟩
 ·refine ab.skip ?_
  refine ab.seq ?_
  refine ab.region ?_
  refine sX (xs:=([]:List ao).map ao.av) J J J J J J (fun b2=>?_)
  refine ai.qv (ay J) J ?_
  refine cA (g:=ao.av) (Xs:=[]) J J J J J J J J (.list _) h (fun _=>.here) J (fun b3=>?_)
  refine ai.qv (bY J) J ?_
  refine ai.nil ?_
  refine ab.ret ?_
  exact ak.here ⟨_,.cons (.tmp _ _ J) .nil,_,.cons .here .nil,⟨b3,J,J⟩⟩
theorem CD [GI:bI] {aa:ao} {aj:aO} {r:Bool} (h:oB aa aj=r):Pu Tryz.prog 112 [ao.av aa,.bJ [.str aj]] (.bool r):=by
 unfold oB at h
 refine aM.bt Tryz.func112 J Tryz.ntmps112 Tryz.results112 J J ?_
 refine aN<|df J J J J fun b1=>rA J J<|rN<|aN<|rF J J J<|rL J J .p0 J J<|ai.qv (aW J J J) J<|ai.qv (R0 J J) J<|rA J J<|rN<|ab.ret<|?_
 obtain rfl:=h
 exact hP J J
theorem qn [GI:bI] {aa:List ao} {mN:ao→Option Bool} {nR:FuncId} [bD Tryz.prog nR] {so:List AV} (yN:∀ {y0:_} {u:Bool},mN y0=some u→Pu Tryz.prog nR (ao.av y0 :: so) (.bool u)) {r:Int} (h:iB aa mN=some r):Pu Tryz.prog 168 [lB aa,.func (.func nR) so] (I r):=by
 unfold iB at h
 refine aM.bt Tryz.func168 J Tryz.ntmps168 Tryz.results168 J J ?_
 refine aN<|rA J J<|rN<|tS<|aN<|rM J J<|ai.qv (db J) J<|rM J J<|rN<|ab.block<|ab.bV (fun x:Int=>ea aa mN x) (fun x aL=>aL=⟨19,[(0,lB aa),(1,.func (.func nR) so),(7,I (aa.length:Int)),(8,I x)],[]⟩) h ?_ ?_
 ·exact ak.lq [] J J J
 ·intro n2 z1 aL J1 cT h im fw
  obtain rfl:=cT
  replace h:ea aa mN n2=some z1:=h
  unfold ea at h
  refine aN<|ai.qv (bB J J) J<|rN<|tS<|cD h J (fun h=>?_) (fun h=>?_)
  ·refine tK<|tS<|ab.block<|aN<|rM J J<|rA J J<|rN<|aN<|rM J J<|rM J J<|rM J J<|aF h fun v3 e1 h=>ai.qv (bz J J J e1 J J) J<|ai.qv (bu J J J) J<|aF h fun v4 e2 h=>rO J J (yN e2) cR J<|rN<|cB h J (fun h=>?_) (fun h=>?_)
   ·refine aN<|rM J J<|rA J J<|rN<|ab.ret<|have h:=cr h fw;?_
    cases h
    exact hP J J
   ·refine tK<|ab.cd<|tR<|ai.qv (a8 J J) J<|rM J J<|rN<|ab.stop<|?_
    cases h
    exact im _ _ J<|ak.lq [] J J J
  ·refine ab.exit J<|have h:=cr h fw;aN<|rA J J<|rN<|ab.ret<|?_
   cases h
   exact hP J J
theorem pz [GI:bI] {bc:Bk} {aa:List ao} {mN:ao→Option Bool} {nR:FuncId} [bD Tryz.prog nR] {so:List AV} (yN:∀ {y0:_} {u:Bool},mN y0=some u→Pu Tryz.prog nR (ao.av y0 :: so) (.bool u)) {r:(List ao)} (h:dc aa mN=some r):aM Tryz.prog 110 [.sl 4 bc 0 aa.length,.func (.func nR) so] [(bc,zh aa)] (T1 (fun gr=>[(gr,zh r)]) (fun gr=>.sl 4 gr 0 r.length)):=by
 unfold dc at h
 refine aM.dx ?_
 refine aM.bt Tryz.func110 J Tryz.ntmps110 Tryz.results110 J J ?_
 refine aN<|rA J J<|rN<|aN<|rM J J<|rM J J<|aF h fun v1 e1 h=>lY J (qn yN e1) (.cons (pj.gq .p0) (.cons (.co (.refl _)) .nil)) J J<|rA J J<|rN<|tS<|aN<|rM J J<|ai.qv (dw J J) J<|rN<|cD h J (fun h=>?_) (fun h=>?_)
 ·refine aN<|rM J J<|rA J J<|rN<|ab.ret<|?_
  cases h
  exact hH J [0] J ⟨bc,J,J⟩
 ·refine tK<|tS<|aN<|rM J J<|ai.qv (a8 J J) J<|rA J J<|rN<|ab.block<|ab.bV (fun x:(List ao)×Int×Int=>dP mN x.1 x.2.1 x.2.2) (fun x aL=>aL=⟨42,[(0,.sl 4 bc 0 x.1.length),(1,.func (.func nR) so),(5,I x.2.1),(6,I x.2.2)],[(bc,zh x.1)]⟩) h ?_ ?_
  ·exact ak.lq [0] J J J
  ·intro x z1 aL J1 cT h im fw
   obtain ⟨l5,n6,n7⟩:=x
   obtain rfl:=cT
   replace h:dP mN l5 n6 n7=some z1:=h
   unfold dP at h
   refine tS<|aN<|rM J J<|rM J J<|ai.qv (cE J) J<|ai.qv (bB J J) J<|rN<|cD h J (fun h=>?_) (fun h=>?_)
   ·refine tK<|tS<|ab.block<|aN<|rM J J<|rM J J<|aF h fun v8 e2 h=>ai.qv (aV J J J e2) J<|ai.qv (bw (g:=ao.av) J J (.inl .p0) J e2 J) J<|bH J J J J fun b9=>aD J J J J .p0 J J<|rN<|aN<|rM J J<|ai.qv (aA J J .p0 J) J<|aF h fun v10 e3 h=>rO J J (yN e3) cR J<|ai.qv (cL J) J<|rN<|ab.cut (fun aL=>∃ (jE:List ao) (n12:Int),dO n7 jE n12=some z1∧aL=⟨42,[(0,.sl 4 bc 0 jE.length),(1,.func (.func nR) so),(5,I n12),(6,I n7)],[(bc,zh jE)]⟩) ?_ ?_
    ·refine cB h J (fun h=>?_) (fun h=>?_)
     ·exact aN<|rM J J<|rM J J<|ai.qv (aA J J .p0 J) J<|aF h fun k9 e4 h=>ai.qv (aV J J J e4) J<|bX (g:=ao.av) (za:=v8) J J J J e4 J .p1 J<|ai.ghost<|ak.eqs (s:=0) (dF:=.sl 4 bc 0 (l5.set n6.toNat v8).length) J (by rw [List.length_set])<|ak.here<|ai.ghost<|ak.eqs (s:=17) (dF:=.sl 4 bc 0 (l5.set n6.toNat v8).length) J (by rw [List.length_set])<|ak.here<|ai.ghost<|ak.eqs (s:=22) (dF:=.sl 4 bc 0 (l5.set n6.toNat v8).length) J (by rw [List.length_set])<|ak.here<|ai.ghost<|ak.eqs (s:=30) (dF:=.sl 4 bc 0 (l5.set n6.toNat v8).length) J (by rw [List.length_set])<|ak.here<|rN<|tR<|rM J J<|ai.qv (a8 J J) J<|rA J J<|rN<|ab.stop<|ak.lq [1] ⟨l5.set n6.toNat v8,aU (n6+(1:Int)),h,J⟩ J J
     ·exact tK<|ab.stop<|ak.lq [1] ⟨l5,n6,h,J⟩ J J
    ·rintro aL ⟨jE,n12,h,rfl⟩
     unfold dO at h
     refine ab.cd<|tR<|rM J J<|ai.qv (a8 J J) J<|rA J J<|rN<|ab.stop<|?_
     cases h
     exact im _ _ J<|ak.lq [0] J J J
   ·refine ab.exit J<|have h:=cr h fw;?_
    unfold j7 at h
    refine aN<|rM J J<|rM J J<|aF h fun tL e5 h=>ai.qv (mW J J (.some _ _ _ J) .none J J e5) J<|Gv (g:=ao.av) (Z:=(⟨[],[],(0:Int),(0:Int)⟩:ao)) (L:=n6) J J J J J J e5 .p0<|ai.ghost<|ak.eqs (s:=0) (dF:=.sl 4 bc 0 (Fm l5 n6 tL.length (⟨[],[],(0:Int),(0:Int)⟩:ao)).length) J (congrArg (AV.sl 4 bc 0) (vV e5))<|ak.here<|ai.ghost<|ak.eqs (s:=17) (dF:=.sl 4 bc 0 (Fm l5 n6 tL.length (⟨[],[],(0:Int),(0:Int)⟩:ao)).length) J (congrArg (AV.sl 4 bc 0) (vV e5))<|ak.here<|ai.ghost<|ak.eqs (s:=36) (dF:=.sl 4 bc 0 (Fm l5 n6 tL.length (⟨[],[],(0:Int),(0:Int)⟩:ao)).length) J (congrArg (AV.sl 4 bc 0) (vV e5))<|ak.here<|rN<|aN<|rM J J<|rM J J<|aF h fun CY e6 h=>ai.qv (mW J J .none (.some _ _ _ J) J J e6) J<|rA J J<|ai.ghost<|ak.NX e6 .p0<|ak.here<|rN<|ab.ret<|?_
    cases h
    exact hH J [0] J ⟨bc,J,J⟩
theorem GU [GI:bI] {aa:List ao} {aj:Int} {ar:aE} {r:(List ah)} (h:qT aa aj ar=some r):aM Tryz.prog 40 [lB aa,I aj,aE.av ar] [] (T1 (fun gr=>[(gr,dQ r)]) (fun gr=>.sl 4 gr 0 r.length)):=by
 unfold qT at h
 refine aM.dx ?_
 refine aM.bt Tryz.func40 J Tryz.ntmps40 Tryz.results40 J J ?_
 refine aN<|df J J J J fun b1=>rA J J<|rN<|aN<|rA J J<|rN<|tS<|aN<|rM J J<|aF h fun v2 e1 h=>eM J (oF e1) cR .nil (fun _=>J) J fun b3=>ai.qv (cE J) J<|rM J J<|rN<|ab.block<|ab.bV (fun x:(List ah)×Int=>iQ aa aj ar v2 x.1 x.2) (fun x aL=>∃ (b7:Bk),aL=⟨65,[(0,lB aa),(1,I aj),(5,.ptr b1 0),(7,.sl 4 b7 0 x.1.length),(16,.sl 1 b3 0 v2.length),(17,I (v2.length:Int)),(18,I x.2)],[(b1,.cells [I ar.aT,I ar.To]),(b7,dQ x.1),(b3,yy v2)]⟩) h ?_ ?_
 ·exact ak.arr (s:=7) 4 J fun ja=>ak.lq [2,0,0] ⟨ja,J⟩ J J
 ·intro x z1 aL J1 cT h im fw
  obtain ⟨l8,n9⟩:=x
  obtain ⟨b7,rfl⟩:=cT
  replace h:iQ aa aj ar v2 l8 n9=some z1:=h
  unfold iQ at h
  refine aN<|ai.qv (bB J J) J<|rN<|tS<|cD h J (fun h=>?_) (fun h=>?_)
  ·refine tK<|tS<|ab.block<|aN<|aF h fun v11 e2 h=>ai.qv (aV J J J e2) J<|ai.qv (bg (g:=AV.str) J J (.inl .p2) e2 J) J<|bH J J J J fun vL=>aD J J J J .p0 J J<|rN<|aN<|rA J J<|rN<|aN<|rM J J<|aF h fun k9 e3 h=>eM J (sJ e3) cR .nil (fun _=>J) J fun EU=>ai.qv (oW J) J<|aF h fun mM e4 h=>fO J (pz (fun e=>CD (Option.some.inj e)) e4) (.cons .p0 .nil) (.cons (.co (.refl _)) (.cons (.HW _ _ _ (.cons (.yn _ _ _ .p0 (.cons (.co (.refl _)) .nil)) .nil)) .nil)) (fun _=>J) (fun _=>J) (fun _=>(.cons (BP.gq (fun _=>J)) .nil)) J fun A9=>ai.qv (cq J J J J J) J<|aQ (xs:=([(⟨[],[],(345686400000:Int),(0:Int)⟩:ao)]).map ao.av) J J J J J J<|aF h fun xw e5 h=>cA (g:=ao.av) J J J J J J J J (.list _) e5 (fun _=>.p0) J fun uS=>ai.qv (cE J) J<|rM J J<|rN<|ab.block<|ab.bV (fun x:(List ah)×Int×Int=>iP aj ar n9 v11 xw x.1 x.2.1 x.2.2) (fun x aL=>∃ (K6:Bk),aL=⟨65,[(0,lB aa),(1,I aj),(5,.ptr b1 0),(7,.sl 4 K6 0 x.1.length),(9,.ptr vL 0),(10,I x.2.1),(16,.sl 1 b3 0 v2.length),(17,I (v2.length:Int)),(18,I n9),(28,.sl 4 uS 0 xw.length),(29,I (xw.length:Int)),(30,I x.2.2)],[(b1,.cells [I ar.aT,I ar.To]),(K6,dQ x.1),(vL,.cells [.str v11]),(b3,yy v2),(uS,zh xw)]⟩) h ?_ ?_
   ·exact ak.lq [2,2,1,1,0] ⟨b7,J⟩ J J
   ·intro x z2 aL J2 cT h wb wR
    obtain ⟨qN,n25,n26⟩:=x
    obtain ⟨K6,rfl⟩:=cT
    replace h:iP aj ar n9 v11 xw qN n25 n26=some z2:=h
    unfold iP at h
    refine aN<|ai.qv (bB J J) J<|rN<|tS<|cD h J (fun h=>?_) (fun h=>?_)
    ·refine tK<|tS<|ab.block<|aN<|aF h fun cx e6 h=>ai.qv (aV J J J e6) J<|ai.qv (bw (g:=ao.av) J J (.inl .p4) J e6 J) J<|bH J J J J fun JC=>aD J J J J .p0 J J<|rN<|tS<|aN<|rM J J<|ai.qv (rD J J) J<|rN<|ab.cut (fun aL=>∃ (Be:Bk) (fx:List ah),mz n26 cx fx=some z2∧aL=⟨65,[(0,lB aa),(1,I aj),(5,.ptr b1 0),(7,.sl 4 Be 0 fx.length),(9,.ptr vL 0),(12,.ptr JC 0),(16,.sl 1 b3 0 v2.length),(17,I (v2.length:Int)),(18,I n9),(28,.sl 4 uS 0 xw.length),(29,I (xw.length:Int)),(30,I n26)],[(b1,.cells [I ar.aT,I ar.To]),(Be,dQ fx),(vL,.cells [.str v11]),(JC,.cells (Oq cx)),(b3,yy v2),(uS,zh xw)]⟩) ?_ ?_
     ·refine cD h J (fun h=>?_) (fun h=>?_)
      ·refine aN<|rM J J<|rM J J<|ai.qv (a8 J J) J<|ai.qv (a8 J J) J<|rF J J J<|rL J J .p0 J J<|ai.qv (cq J J J J J) J<|ai.qv (aA J J .p1 J) J<|bb J (GM (J:ox (⟨aU ((aU (n25+aj))+(1:Int)),cx.At⟩:aE) ar=_)) cR J<|rM J J<|rX J J J<|rX J J J<|bH J J J J fun Mq=>aD J J J J .p0 J J<|rA J J<|rN<|aN<|rM J J<|rN<|ab.cut (fun aL=>∃ (M9:Bk) (Fx:List ah),oC n26 cx Fx=some z2∧aL=⟨65,[(0,lB aa),(1,I aj),(5,.ptr b1 0),(7,.sl 4 M9 0 Fx.length),(9,.ptr vL 0),(12,.ptr JC 0),(16,.sl 1 b3 0 v2.length),(17,I (v2.length:Int)),(18,I n9),(28,.sl 4 uS 0 xw.length),(29,I (xw.length:Int)),(30,I n26)],[(b1,.cells [I ar.aT,I ar.To]),(M9,dQ Fx),(vL,.cells [.str v11]),(JC,.cells (Oq cx)),(b3,yy v2),(uS,zh xw)]⟩) ?_ ?_
       ·refine cB h J (fun h=>?_) (fun h=>?_)
        ·exact tR<|rM J J<|rL J J .p4 J J<|rF J J J<|rL J J .p0 J J<|rF J J J<|rL J J .p0 J J<|ai.qv (cq J J J J J) J<|aQ (xs:=([(⟨v11,[],((ox (⟨aU ((aU (n25+aj))+(1:Int)),cx.At⟩:aE) ar).1).aT,((ox (⟨aU ((aU (n25+aj))+(1:Int)),cx.At⟩:aE) ar).1).To⟩:ah)]).map ah.av) J J J J J J<|aF h fun GF e7 h=>cA (g:=ah.av) J J J J J J J J (.list _) e7 (fun _=>.p3) J fun Vi=>rA J J<|rN<|ab.stop<|ak.lq [2,2,2,1,1,1] ⟨Vi,GF,h,J⟩ J J
        ·exact tK<|ab.stop<|ak.lq [2,2,2,1,1,1] ⟨K6,qN,h,J⟩ J J
       ·rintro aL ⟨M9,Fx,h,rfl⟩
        unfold oC at h
        exact ab.stop<|ak.lq [0,0,0,0,0,0] ⟨M9,Fx,h,J⟩ J J
      ·exact tK<|ab.stop<|ak.lq [1,1,1,0,0,0] ⟨K6,qN,h,J⟩ J J
     ·rintro aL ⟨Be,fx,h,rfl⟩
      unfold mz at h
      refine tR<|rF J J J<|rL J J .p3 J J<|rA J J<|rN<|ab.cd<|tR<|ai.qv (a8 J J) J<|rM J J<|rN<|ab.stop<|?_
      cases h
      exact wb _ _ J<|ak.lq [0,0,0,1,1] ⟨Be,J⟩ J J
    ·refine ab.exit J<|have h:=cr h wR;ab.cd<|tR<|ai.qv (a8 J J) J<|rM J J<|rN<|ab.stop<|?_
     cases h
     exact im _ _ J<|ak.lq [0,0,1] ⟨K6,J⟩ J J
  ·refine ab.exit J<|have h:=cr h fw;?_
   unfold oD at h
   refine aN<|rM J J<|aF h fun AP e8 h=>bd J (fQ (fun e=>xJ e) (gl e8)) cR (.cons .p1 .nil) J J<|ai.ghost<|ak.eqs (s:=7) (dF:=.sl 4 b7 0 AP.length) J (congrArg (AV.sl 4 b7 0) (bO e8))<|ak.here<|ai.ghost<|ak.eqs (s:=62) (dF:=.sl 4 b7 0 AP.length) J (congrArg (AV.sl 4 b7 0) (bO e8))<|ak.here<|rN<|aN<|rM J J<|rA J J<|rN<|ab.ret<|?_
   cases h
   exact hH J [0] J ⟨b7,J,J⟩
theorem E1 [GI:bI] {aa:List aG} {aj:List ao} {ar:aE} {r:(List ah)×Int} (h:pf aa aj ar=some r):aM Tryz.prog 115 [wQ aa,lB aj,aE.av ar] [] (T1 (fun gr=>[(gr,dQ r.1)]) (fun gr=>.lA [.sl 4 gr 0 r.1.length,I r.2])):=by
 unfold pf at h
 refine aM.dx ?_
 refine aM.bt Tryz.func115 J Tryz.ntmps115 Tryz.results115 J J ?_
 refine aN<|df J J J J fun b1=>rA J J<|rA J J<|rN<|tS<|aN<|rM J J<|rM J J<|ai.qv (aA J J .p0 J) J<|aF h fun v2 e1 h=>bb J (wc e1) cR J<|rA J J<|rN<|aN<|rM J J<|ai.qv (lW J J) J<|rN<|cD h J (fun h=>?_) (fun h=>?_)
 ·refine aN<|rM J J<|rA J J<|rA J J<|rN<|ab.ret<|?_
  cases h
  exact ak.arr (s:=6) 4 J fun b3=>ak.here ⟨_,.cons (.tmp _ _ J) (.cons (.tmp _ _ J) .nil),_,.cons .p0 .nil,⟨b3,J,J⟩⟩
 ·refine tK<|aN<|rA J J<|rN<|tS<|aN<|rM J J<|ai.qv (db J) J<|rM J J<|rN<|ab.block<|ab.bV (fun x:(List ah)×Int=>gK aa aj ar x.1 x.2) (fun x aL=>∃ (b7:Bk),aL=⟨36,[(0,wQ aa),(1,lB aj),(5,.ptr b1 0),(9,.sl 4 b7 0 x.1.length),(19,I (aa.length:Int)),(20,I x.2)],[(b1,.cells [I ar.aT,I ar.To]),(b7,dQ x.1)]⟩) h ?_ ?_
  ·exact ak.arr (s:=9) 4 J fun ja=>ak.lq [1,0] ⟨ja,J⟩ J J
  ·intro x z1 aL J1 cT h im fw
   obtain ⟨l8,n9⟩:=x
   obtain ⟨b7,rfl⟩:=cT
   replace h:gK aa aj ar l8 n9=some z1:=h
   unfold gK at h
   refine aN<|ai.qv (bB J J) J<|rN<|tS<|cD h J (fun h=>?_) (fun h=>?_)
   ·refine tK<|tS<|ab.block<|aN<|rM J J<|rA J J<|rN<|aF h fun v11 e2 h=>aF h fun v12 e3 h=>aF h fun nz e4 h=>ab.gj (id:=8) (A:=[0,0,0,6,0,30,0,126,255,511]) (H0:=[]) (HH:=fun β=>[((β 7),dQ nz),(b1,.cells [I ar.aT,I ar.To]),(b7,dQ l8)]) 8 mixed J (by kernel_rfl) (by kernel_rfl) [⟨some 5,some 7,[],fun b=>(b,dQ v12),none,[]⟩,⟨some 7,none,[],fun b=>(b,dQ nz),none,[]⟩] [5,7] J (by kernel_rfl) J .nil (fun _=>J)<|AT.am 5 J J<|AM.qv (ay J) J<|AM.qv (ay J) J<|AM.qv (ay J) J<|AM.qv (bz J J J e2 J J) J<|AM.qv (ay J) J<|AM.nil<|AT.yq (V:=fun b=>.sl 4 b 0 v12.length) (Ti:=[]) (Pi:=fun b=>[(b,dQ v12)]) (fun _=>J) (fun _=>J) (fun _ _=>J) J (fun _=>J) J J J ?_ ?_
    ·exact eM J (th e3) cR .nil (fun _=>J) J fun C1=>ai.nil ⟨C1,_,J,J⟩
    refine AT.am 1 J J<|AM.qv (aA J J .p0 J) J<|AM.nil<|AT.Od (V:=fun b=>.sl 4 b 0 nz.length) (Ti:=fun β=>[((β 5),dQ v12)]) (Pi:=fun b=>[(b,dQ nz)]) (fun _=>J) (fun _=>J) (fun _ _=>J) (fun _=>J) (fun _=>J) J J J (fun β=>?_) ?_
    ·generalize β 5=C1
     exact fO J (we e4) .nil (.cons (pj.gq .p0) (.cons (.co (.refl _)) .nil)) (fun _=>J) (fun _=>J) (fun _=>(.cons (BP.gq (fun _=>J)) .nil)) J fun w9=>ai.ghost<|ak.drop .p1<|ak.here<|ai.nil ⟨w9,_,J,J⟩
    refine AT.sY (fun _=>J) fun β=>?_
    generalize β 5=C1
    generalize β 7=w9
    clear β
    refine aF h fun gm e5 h=>cA (g:=ah.av) J J J J J J J J (LO (.inl .p0) J) e5 (fun _=>.p2) J fun sS=>rA J J<|rN<|ab.cd<|tR<|ai.qv (a8 J J) J<|rM J J<|rN<|ab.stop<|?_
    cases h
    exact im _ _ J<|ak.lq [1,1] ⟨sS,J⟩ J J
   ·refine ab.exit J<|have h:=cr h fw;?_
    unfold qh at h
    refine aN<|rM J J<|aF h fun lL e6 h=>bd J (dK (fun e=>rq (GI:=oI) e) (gl e6)) cR (.cons .p1 .nil) J J<|ai.ghost<|ak.eqs (s:=9) (dF:=.sl 4 b7 0 lL.length) J (congrArg (AV.sl 4 b7 0) (bO e6))<|ak.here<|ai.ghost<|ak.eqs (s:=33) (dF:=.sl 4 b7 0 lL.length) J (congrArg (AV.sl 4 b7 0) (bO e6))<|ak.here<|rN<|aN<|rM J J<|rA J J<|rA J J<|rN<|ab.ret<|?_
    cases h
    exact hI J J [0] J ⟨b7,J,J⟩
theorem FB [GI:bI] {r:Bool} (h:yd=some r):Pu Tryz.prog 41 [] (.bool r):=by
 unfold yd at h
 refine aM.bt Tryz.func41 J Tryz.ntmps41 Tryz.results41 J J ?_
 refine aN<|rA J J<|rN<|aN<|ai.qv (cq J J J J J) J<|bH J J J J fun b1=>aD J J J J .p0 J J<|rN<|aN<|ai.qv (aA J J .p0 J) J<|aQ (xs:=([(⟨([114]:aO),([116]:aO),(1:Int),(10:Int),true,(1:Int),(1:Int),(0:Int),(0:Int),(0:Int)⟩:aG)]).map aG.av) J J J J J J<|ai.qv (cq J J J J J) J<|aQ (xs:=([(⟨([100]:aO),([116]:aO),(0:Int),(1:Int)⟩:ao)]).map ao.av) J J J J J J<|ai.qv (cq J J J J J) J<|aF h fun v2 e1 h=>eM J (E1 e1) cR .nil (fun _=>J) J fun b3=>rM J J<|rX J J J<|rX J J J<|rA J J<|rA J J<|rN<|tS<|ab.cut (fun aL=>∃ (c4:Bool),ub c4=some r∧aL=⟨22,[(0,.bool c4)],[]⟩) ?_ ?_
 ·refine tR<|rM J J<|ai.qv (dw J J) J<|rM J J<|gT h J J J (fun h=>?_) (fun h=>?_)
  ·exact rM J J<|rY J J J<|ai.qv (cq J J J J J) J<|rY J J J<|aQ (xs:=([(⟨([100]:aO),([114]:aO),(0:Int),(5:Int)⟩:ah)]).map ah.av) J J J J J J<|rY J J J<|aF h fun v5 e2 h=>lY J (gM e2) (.cons (pj.gq .p0) (.cons (.co (.refl _)) .nil)) J J<|rT J J J<|rA J J<|rN<|ab.stop<|ak.lq [] ⟨v5,h,J⟩ J J
  ·exact rG J J J J<|rG J J J J<|rG J J J J<|rE J J J<|rA J J<|rN<|ab.stop<|ak.lq [] ⟨false,h,J⟩ J J
 ·rintro aL ⟨c4,h,rfl⟩
  unfold ub at h
  refine ab.ret<|?_
  cases h
  exact hP J J
theorem Ad {aa:List Int} {r:Bool} (h:mo aa=some r):Pu Tryz.prog 4 [nu aa] (.bool r):=by
 unfold mo at h
 refine aM.bt Tryz.func4 J Tryz.ntmps4 Tryz.results4 J J ?_
 refine aN<|rA J J<|rN<|aN<|rM J J<|ai.qv (cq J J J J J) J<|df J J J J fun b1=>rA J J<|rN<|aN<|rM J J<|aF h fun v2 e1 h=>eM J (DV e1) cR (.cons .p0 .nil) (fun _=>J) J fun b3=>rM J J<|aF h fun v4 e2 h=>bd J (B2 e2) cR (.cons .p0 .nil) J J<|rM J J<|aF h fun v5 e3 h=>bd J (B2 e3) cR (.cons .p0 .nil) J J<|rM J J<|rM J J<|aF h fun v6 e4 h=>bd J (uc e4) cR (.cons .p0 .nil) J J<|aF h fun v7 e5 h=>eM J (z8 e5) cR (.cons .p0 .nil) (fun _=>J) J fun b8=>rM J J<|aF h fun v9 e6 h=>bd J (EV e6) cR (.cons .p0 .nil) J J<|rM J J<|aQ (xs:=([([100,97]:aO),([100,97]:aO),([100,98]:aO),([65]:aO)]).map AV.str) J J J J J J<|aF h fun v10 e7 h=>bd J (kX e7) cR (.cons .p0 .nil) J J<|bH J J J J fun kh=>bH J J J J fun vL=>bH J J J J fun C1=>rA J J<|aD J J J J .p2 J J<|aD J J J J .p1 J J<|rA J J<|aD J J J J .p0 J J<|rA J J<|rN<|aN<|rM J J<|aQ (xs:=([(1:Int),(2:Int),(2:Int),(3:Int),(0:Int),(101:Int)]).map I) J J J J J J<|aF h fun nz e8 h=>bd J (cP e8) cR (.cons .p3 .nil) J J<|rM J J<|aQ (xs:=([(1:Int),(3:Int),(10:Int),(30:Int),(0:Int),(2592000001:Int)]).map I) J J J J J J<|aF h fun mM e9 h=>bd J (cP e9) cR (.cons .p0 .nil) J J<|rA J J<|rA J J<|rN<|tS<|ab.bM (id:=4) (A:=[0,1,3,0,8,31,0,127,255,511,1023]) 11 mixed J (by kernel_rfl) (by kernel_rfl)<|AM.qv (aA J J .p3 J) J<|AM.bZ (xs:=([v4.1]:List aG).map aG.av) J J J J J J<|aF h fun gx Ba h=>AM.gQ J (ud Ba) cR J<|AM.qv (aA J J .p2 J) J<|AM.bZ (xs:=([v5.1]:List aG).map aG.av) J J J J J J<|aF h fun v17 HB h=>AM.gQ J (ud HB) cR J<|AM.qv (ay J) J<|aF h fun lL EH h=>AM.Nz J (Bb EH) (.cons (pj.gq .p4) .nil) J J<|AM.qv (bY J) J<|AM.qv (bY J) J<|AM.qv (bY J) J<|AM.nil<|rN<|aN<|ai.qv (aA J J .p1 J) J<|bb J (Cx J) cR J<|rA J J<|rN<|aN<|ai.qv (aA J J .p3 J) J<|ai.qv (aA J J .p2 J) J<|rM J J<|ai.qv (aA J J .p1 J) J<|aF h fun C0 K4 h=>fO J (EX K4) .nil (.cons (.co (.refl _)) (.cons (.co (.refl _)) (.cons (pj.gq .p4) (.cons (.co (.refl _)) .nil)))) (fun _=>J) (fun _=>J) (fun _=>(.cons (BP.gq (fun _=>J)) .nil)) J fun Q4=>rM J J<|rX J J J<|rX J J J<|rA J J<|rA J J<|rN<|aN<|rM J J<|rM J J<|rM J J<|rM J J<|aQ (xs:=([gx,v17,lL,(bP v9.1)]:List Int).map I) J J J J J J<|aF h fun v21 P3 h=>bb J (j9 P3) cR J<|rA J J<|rN<|tS<|tS<|ab.cut (fun aL=>∃ (Wm:Bool),gg v2 v4 v7 v9 v10 nz mM gx lL Wm=some r∧aL=⟨224,[(4,.sl 10 b3 0 v2.1.length),(5,.ptr kh 0),(7,.sl 4 b8 0 v7.1.length),(8,.ptr C1 0),(9,.str v10.1),(10,I nz.1),(11,I mM.1),(12,I gx),(14,I lL),(15,I (bP v9.1)),(85,.bool Wm)],[(b3,Q3 v2.1),(kh,.cells (w6 v4.1)),(b8,zh v7.1),(C1,.cells [I v9.1.aT,I v9.1.To])]⟩) ?_ ?_
 ·refine tR<|rM J J<|rM J J<|ai.qv (lW J J) J<|rM J J<|gF h J J J (fun h=>?_) (fun h=>?_)
  ·refine rM J J<|rY J J J<|ai.qv (dw J J) J<|rY J J J<|rM J J<|gT h J J J (fun h=>?_) (fun h=>?_)
   ·exact rM J J<|rY J J J<|ai.qv (aA J J .p4 J) J<|rY J J J<|ai.qv (aA J J .p3 J) J<|rY J J J<|rM J J<|rY J J J<|ai.qv (aA J J .p2 J) J<|rY J J J<|aF h fun v23 M8 h=>fO J (CA M8) .nil (.cons (.co (.refl _)) (.cons (.co (.refl _)) (.cons (pj.gq .p5) (.cons (.co (.refl _)) .nil)))) (fun _=>J) (fun _=>J) (fun _=>(.cons (BP.gq (fun _=>J)) .nil)) J fun IK=>rY J J J<|aF h fun v25 P4 h=>lY J (gM P4) (.cons (pj.gq .p1) (.cons (pj.gq .p0) .nil)) J J<|rY J J J<|ai.qv (cL J) J<|rY J J J<|rT J J J<|rE J J J<|rN<|ab.stop<|ak.lq [7,5,5,3] ⟨!v25,h,J⟩ J J
   ·exact rG J J J J<|rG J J J J<|rG J J J J<|rG J J J J<|rG J J J J<|rG J J J J<|rG J J J J<|rY J J J<|rE J J J<|rE J J J<|rN<|ab.stop<|ak.lq [6,4,4,2] ⟨false,h,J⟩ J J
  ·exact rG J J J J<|rG J J J J<|ai.aY J J J<|ai.aY J J J<|ai.aY J J J<|ai.aY J J J<|ai.aY J J J<|ai.aY J J J<|ai.aY J J J<|ai.aY J J J<|rG J J J J<|rT J J J<|rN<|ab.stop<|ak.lq [6,4,4,2] ⟨true,h,J⟩ J J
 ·rintro aL ⟨Wm,h,rfl⟩
  unfold gg at h
  refine cB h J (fun h=>?_) (fun h=>?_)
  ·refine aN<|rA J J<|rN<|ab.ret<|?_
   cases h
   exact hP J J
  ·refine tK<|aN<|rM J J<|rM J J<|rM J J<|ai.qv (aA J J .p3 J) J<|aF h fun v26 Q5 h=>fO J (EY Q5) .nil (.cons (pj.gq .p0) (.cons (.co (.refl _)) (.cons (pj.gq .p2) (.cons (.co (.refl _)) .nil)))) (fun _=>J) (fun _=>J) (fun _=>(.cons (BP.gq (fun _=>J)) .nil)) J fun Ms=>rM J J<|rX J J J<|rX J J J<|rA J J<|rA J J<|rN<|tS<|ab.cut (fun aL=>∃ (n28:Int),iD v2 v4 v7 v9 v10 nz mM gx lL v26 n28=some r∧aL=⟨224,[(4,.sl 10 b3 0 v2.1.length),(5,.ptr kh 0),(7,.sl 4 b8 0 v7.1.length),(8,.ptr C1 0),(9,.str v10.1),(10,I nz.1),(11,I mM.1),(12,I gx),(14,I lL),(15,I (bP v9.1)),(16,.sl 4 Ms 0 v26.1.length),(17,I v26.2),(18,I n28)],[(b3,Q3 v2.1),(kh,.cells (w6 v4.1)),(b8,zh v7.1),(C1,.cells [I v9.1.aT,I v9.1.To]),(Ms,dQ v26.1)]⟩) ?_ ?_
   ·refine tR<|rM J J<|aF h fun pn WK h=>lY J (ud WK) (.cons (pj.gq .p1) .nil) J J<|rM J J<|rM J J<|ai.qv (bB J J) J<|rM J J<|gF h J J J (fun h=>?_) (fun h=>?_)
    ·exact rM J J<|rY J J J<|ai.qv (jl J J) J<|rE J J J<|bb J (xL J) cR J<|rM J J<|aQ (xs:=([pn,lL,(p9 (decide ((100:Int) < nz.1)) (1:Int)),(bP v9.1)]).map I) J J J J J J<|aF h fun v30 WL h=>bb J (j9 WL) cR J<|rA J J<|rN<|ab.stop<|ak.lq [1,1,1,1,0] ⟨v30,h,J⟩ J J
    ·exact rG J J J J<|rT J J J<|bb J (xL J) cR J<|rM J J<|aQ (xs:=([pn,lL,(p9 true (1:Int)),(bP v9.1)]).map I) J J J J J J<|aF h fun v31 WM h=>bb J (j9 WM) cR J<|rA J J<|rN<|ab.stop<|ak.lq [1,1,1,1,0] ⟨v31,h,J⟩ J J
   ·rintro aL ⟨n28,h,rfl⟩
    unfold iD at h
    refine tS<|tS<|ab.cut (fun aL=>∃ (GH:Bool),gd v4 v7 v9 v10 mM gx lL GH=some r∧aL=⟨224,[(5,.ptr kh 0),(7,.sl 4 b8 0 v7.1.length),(8,.ptr C1 0),(9,.str v10.1),(11,I mM.1),(12,I gx),(14,I lL),(15,I (bP v9.1)),(123,.bool GH)],[(kh,.cells (w6 v4.1)),(b8,zh v7.1),(C1,.cells [I v9.1.aT,I v9.1.To])]⟩) ?_ ?_
    ·refine tR<|rM J J<|rM J J<|ai.qv (lW J J) J<|rM J J<|gF h J J J (fun h=>?_) (fun h=>?_)
     ·refine rM J J<|rY J J J<|ai.qv (dw J J) J<|rY J J J<|rM J J<|gT h J J J (fun h=>?_) (fun h=>?_)
      ·exact rM J J<|rY J J J<|rM J J<|rY J J J<|rM J J<|rY J J J<|rM J J<|rY J J J<|ai.qv (aA J J .p3 J) J<|rY J J J<|aF h fun v33 e21 h=>fO J (GO e21) .nil (.cons (pj.gq .p0) (.cons (.co (.refl _)) (.cons (pj.gq .p2) (.cons (.co (.refl _)) .nil)))) (fun _=>J) (fun _=>J) (fun _=>(.cons (BP.gq (fun _=>J)) .nil)) J fun K7=>rY J J J<|aF h fun v35 e22 h=>lY J (gM e22) (.cons (pj.gq .p5) (.cons (pj.gq .p0) .nil)) J J<|rY J J J<|ai.qv (cL J) J<|rY J J J<|rT J J J<|rE J J J<|rN<|ab.stop<|ak.lq [2,2,2] ⟨!v35,h,J⟩ J J
      ·exact rG J J J J<|rG J J J J<|rG J J J J<|rG J J J J<|rG J J J J<|rG J J J J<|rG J J J J<|rY J J J<|rE J J J<|rE J J J<|rN<|ab.stop<|ak.lq [1,1,1] ⟨false,h,J⟩ J J
     ·exact rG J J J J<|rG J J J J<|ai.aY J J J<|ai.aY J J J<|ai.aY J J J<|ai.aY J J J<|ai.aY J J J<|ai.aY J J J<|ai.aY J J J<|ai.aY J J J<|rG J J J J<|rT J J J<|rN<|ab.stop<|ak.lq [1,1,1] ⟨true,h,J⟩ J J
    ·rintro aL ⟨GH,h,rfl⟩
     unfold gd at h
     refine cB h J (fun h=>?_) (fun h=>?_)
     ·refine aN<|rA J J<|rN<|ab.ret<|?_
      cases h
      exact hP J J
     ·refine tK<|aN<|ai.qv (aA J J .p0 J) J<|rM J J<|rM J J<|ai.qv (aA J J .p2 J) J<|aF h fun AP e23 h=>lY J (GP e23) (.cons (.co (.refl _)) (.cons (pj.gq .p1) (.cons (.co (.refl _)) (.cons (.co (.refl _)) .nil)))) J J<|rM J J<|rX J J J<|rX J J J<|bH J J J J fun ZM=>aD J J J J .p0 J J<|rA J J<|rN<|tS<|ab.bM (id:=15) (A:=[0,0,0,4,0,0,32,0,128,480,1004,2047,4095,8191]) 14 mixed J (by kernel_rfl) (by kernel_rfl)<|AM.qv (ay J) J<|AM.qv (ay J) J<|AM.qv (ay J) J<|aF h fun tQ e24 h=>AM.gQ J (GQ e24) cR J<|AM.qv (ay J) J<|AM.qv (aC J J) J<|AM.qv (aJ J J .p3 J) J<|AM.qv (aC J J) J<|AM.qv (aJ J J .p3 J) J<|AM.qv (dw J J) J<|AM.gQ J (xL J) cR J<|AM.bZ (xs:=([gx,lL,tQ,(bP v9.1),(p9 (decide (v9.1.aT=v9.1.To)) (8:Int))]).map I) J J J J J J<|aF h fun v39 e25 h=>AM.gQ J (j9 e25) cR J<|AM.qv (bY J) J<|AM.nil<|rN<|tS<|tS<|ab.cut (fun aL=>∃ (c40:Bool),gb v4 v7 v9 mM gx lL c40=some r∧aL=⟨224,[(5,.ptr kh 0),(7,.sl 4 b8 0 v7.1.length),(8,.ptr C1 0),(11,I mM.1),(12,I gx),(14,I lL),(15,I (bP v9.1)),(160,.bool c40)],[(kh,.cells (w6 v4.1)),(b8,zh v7.1),(C1,.cells [I v9.1.aT,I v9.1.To])]⟩) ?_ ?_
      ·refine ab.bM (id:=16) (A:=[0,0,3,7,15,31,63,127,127,127,127,127,3967,8191,16383,32767]) 16 mixed J (by kernel_rfl) (by kernel_rfl)<|AM.qv (ay J) J<|AM.qv (ay J) J<|AM.qv (lW J J) J<|AM.qv (ay J) J<|AM.jK J J J (fun hc=>?_) (fun hc=>?_)
       ·refine have h:=vq hc h;AM.qv (ay J) J<|AM.aB J J J<|AM.qv (dw J J) J<|AM.aB J J J<|AM.qv (ay J) J<|AM.ct J J J (fun hc=>?_) (fun hc=>?_)
        ·exact have h:=sC hc h;AM.qv (aA J J .p0 J) J<|AM.aB J J J<|AM.qv (aA J J .p1 J) J<|AM.aB J J J<|AM.qv (ay J) J<|AM.aB J J J<|AM.qv (ay J) J<|AM.aB J J J<|AM.qv (aA J J .p3 J) J<|AM.aB J J J<|aF h fun v41 e26 h=>AM.Nz J (IT e26) (.cons (.co (.refl _)) (.cons (pj.gq .p2) (.cons (.co (.refl _)) (.cons (.co (.refl _)) .nil)))) J J<|AM.aB J J J<|AM.qv (Sd (g:=Fraction.av) (X:=AP.1) (Y:=v41) J J J J J) J<|AM.aB J J J<|AM.qv (il J J) J<|AM.qv (dR J J) J<|AM.nil<|rN<|ab.stop<|ak.lq [1,1,1] ⟨decide (AP.1≠v41),h,J⟩ J J
        ·exact have h:=vq hc h;AM.az J J J J<|AM.az J J J J<|AM.az J J J J<|AM.az J J J J<|AM.az J J J J<|AM.az J J J J<|AM.aB J J J<|AM.qv (dR J J) J<|AM.qv (dR J J) J<|AM.nil<|rN<|ab.stop<|ak.lq [1,1,1] ⟨false,h,J⟩ J J
       ·exact have h:=sC hc h;AM.az J J J J<|AM.az J J J J<|AM.aY J J J<|AM.aY J J J<|AM.aY J J J<|AM.aY J J J<|AM.aY J J J<|AM.aY J J J<|AM.aY J J J<|AM.az J J J J<|AM.qv (il J J) J<|AM.nil<|rN<|ab.stop<|ak.lq [1,1,1] ⟨true,h,J⟩ J J
      ·rintro aL ⟨c40,h,rfl⟩
       unfold gb at h
       refine cB h J (fun h=>?_) (fun h=>?_)
       ·refine aN<|rA J J<|rN<|ab.ret<|?_
        cases h
        exact hP J J
       ·refine tK<|aN<|ai.qv (aA J J .p0 J) J<|rM J J<|ai.qv (aA J J .p2 J) J<|aF h fun A8 e27 h=>lY J (GS e27) (.cons (.co (.refl _)) (.cons (pj.gq .p1) (.cons (.co (.refl _)) .nil))) J J<|rM J J<|rX J J J<|rX J J J<|rA J J<|rA J J<|rN<|aN<|rM J J<|rM J J<|rM J J<|aQ (xs:=([gx,lL,(bP v9.1)]:List Int).map I) J J J J J J<|aF h fun CZ e28 h=>bb J (j9 e28) cR J<|rA J J<|rN<|tS<|tS<|ab.cut (fun aL=>∃ (Wl:Bool),ga v7 v9 mM lL Wl=some r∧aL=⟨224,[(7,.sl 4 b8 0 v7.1.length),(8,.ptr C1 0),(11,I mM.1),(14,I lL),(15,I (bP v9.1)),(187,.bool Wl)],[(b8,zh v7.1),(C1,.cells [I v9.1.aT,I v9.1.To])]⟩) ?_ ?_
        ·refine tR<|rM J J<|rM J J<|ai.qv (lW J J) J<|rM J J<|gF h J J J (fun h=>?_) (fun h=>?_)
         ·refine rM J J<|rY J J J<|ai.qv (dw J J) J<|rY J J J<|rM J J<|gT h J J J (fun h=>?_) (fun h=>?_)
          ·exact rM J J<|rY J J J<|ai.qv (aA J J .p0 J) J<|rY J J J<|rM J J<|rY J J J<|ai.qv (aA J J .p2 J) J<|rY J J J<|aF h fun v45 e29 h=>lY J (IU e29) (.cons (.co (.refl _)) (.cons (pj.gq .p1) (.cons (.co (.refl _)) .nil))) J J<|rY J J J<|ai.qv (lW J J) J<|rY J J J<|rT J J J<|rE J J J<|rN<|ab.stop<|ak.lq [1,1] ⟨decide (A8.1≠v45),h,J⟩ J J
          ·exact rG J J J J<|rG J J J J<|rG J J J J<|rG J J J J<|rG J J J J<|rY J J J<|rE J J J<|rE J J J<|rN<|ab.stop<|ak.lq [1,1] ⟨false,h,J⟩ J J
         ·exact rG J J J J<|rG J J J J<|ai.aY J J J<|ai.aY J J J<|ai.aY J J J<|ai.aY J J J<|ai.aY J J J<|ai.aY J J J<|rG J J J J<|rT J J J<|rN<|ab.stop<|ak.lq [1,1] ⟨true,h,J⟩ J J
        ·rintro aL ⟨Wl,h,rfl⟩
         unfold ga at h
         refine cB h J (fun h=>?_) (fun h=>?_)
         ·refine aN<|rA J J<|rN<|ab.ret<|?_
          cases h
          exact hP J J
         ·refine tK<|aN<|rM J J<|rM J J<|ai.qv (aA J J .p1 J) J<|aF h fun v46 e30 h=>fO J (EZ e30) .nil (.cons (pj.gq .p0) (.cons (.co (.refl _)) (.cons (.co (.refl _)) .nil))) (fun _=>J) (fun _=>J) (fun _=>(.cons (BP.gq (fun _=>J)) .nil)) J fun Vk=>rM J J<|rX J J J<|rX J J J<|rA J J<|rA J J<|rN<|tS<|ab.cut (fun aL=>∃ (n48:Int),iC v7 v9 mM v46 n48=some r∧aL=⟨224,[(7,.sl 4 b8 0 v7.1.length),(8,.ptr C1 0),(11,I mM.1),(16,.sl 4 Vk 0 v46.1.length),(17,I v46.2),(18,I n48)],[(b8,zh v7.1),(C1,.cells [I v9.1.aT,I v9.1.To]),(Vk,dQ v46.1)]⟩) ?_ ?_
          ·refine tR<|rM J J<|rM J J<|ai.qv (bB J J) J<|rM J J<|gF h J J J (fun h=>?_) (fun h=>?_)
           ·exact rM J J<|rY J J J<|ai.qv (jl J J) J<|rE J J J<|bb J (xL J) cR J<|rM J J<|aQ (xs:=([lL,(p9 (decide ((2592000000:Int) < mM.1)) (1:Int)),(bP v9.1)]).map I) J J J J J J<|aF h fun v49 e31 h=>bb J (j9 e31) cR J<|rA J J<|rN<|ab.stop<|ak.lq [1,1,0] ⟨v49,h,J⟩ J J
           ·exact rG J J J J<|rT J J J<|bb J (xL J) cR J<|rM J J<|aQ (xs:=([lL,(p9 true (1:Int)),(bP v9.1)]).map I) J J J J J J<|aF h fun v50 e32 h=>bb J (j9 e32) cR J<|rA J J<|rN<|ab.stop<|ak.lq [1,1,0] ⟨v50,h,J⟩ J J
          ·rintro aL ⟨n48,h,rfl⟩
           unfold iC at h
           refine tS<|ab.cut (fun aL=>∃ (c51:Bool),fZ c51=some r∧aL=⟨224,[(2,.bool c51)],[]⟩) ?_ ?_
           ·refine tR<|rM J J<|rM J J<|ai.qv (dw J J) J<|rM J J<|gT h J J J (fun h=>?_) (fun h=>?_)
            ·refine rM J J<|rY J J J<|ai.qv (lW J J) J<|rY J J J<|rM J J<|gF h J J J (fun h=>?_) (fun h=>?_)
             ·refine rM J J<|rY J J J<|rM J J<|rY J J J<|rM J J<|rY J J J<|ai.qv (aA J J .p1 J) J<|rY J J J<|aF h fun P1 e33 h=>fO J (GU e33) .nil (.cons (pj.gq .p0) (.cons (.co (.refl _)) (.cons (.co (.refl _)) .nil))) (fun _=>J) (fun _=>J) (fun _=>(.cons (BP.gq (fun _=>J)) .nil)) J fun b53=>rY J J J<|aF h fun v54 e34 h=>lY J (gM e34) (.cons (pj.gq .p3) (.cons (pj.gq .p0) .nil)) J J<|rY J J J<|rE J J J<|rT J J J<|rM J J<|ai.guard J J J (fun hc=>?_) (fun hc=>?_)
              ·exact have h:=sC hc h;aF h fun v55 e35 h=>bb J (FB e35) cR J<|rT J J J<|rA J J<|rN<|ab.stop<|ak.lq [] ⟨v55,h,J⟩ J J
              ·exact have h:=H6 hc h;rE J J J<|rA J J<|rN<|ab.stop<|ak.lq [] ⟨false,h,J⟩ J J
             ·exact rG J J J J<|rG J J J J<|rG J J J J<|rG J J J J<|rG J J J J<|rY J J J<|rT J J J<|rT J J J<|rM J J<|rY J J J<|aF h fun yD e36 h=>bb J (FB e36) cR J<|rT J J J<|rA J J<|rN<|ab.stop<|ak.lq [] ⟨yD,h,J⟩ J J
            ·exact rG J J J J<|rG J J J J<|ai.aY J J J<|ai.aY J J J<|ai.aY J J J<|ai.aY J J J<|ai.aY J J J<|ai.aY J J J<|rG J J J J<|rE J J J<|rM J J<|rG J J J J<|rE J J J<|rA J J<|rN<|ab.stop<|ak.lq [] ⟨false,h,J⟩ J J
           ·rintro aL ⟨c51,h,rfl⟩
            unfold fZ at h
            refine ab.ret<|?_
            cases h
            exact hP J J
end Go.Proofs.YthamhifbccpcpaaGreatDoor
