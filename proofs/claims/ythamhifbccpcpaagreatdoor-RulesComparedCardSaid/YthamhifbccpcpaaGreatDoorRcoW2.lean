/- The code computes the plain functions: proofs written by shal.py. -/
import Derived.Test.YthamhifbccpcpaaGreatDoorRcoW1
set_option maxHeartbeats 4000000
set_option maxRecDepth 100000
set_option linter.unusedVariables false
set_option linter.unusedSimpArgs false
namespace Go.Proofs.YthamhifbccpcpaaGreatDoor
open Go Go.Eng Go.Proofs Go.Beacon
attribute [local irreducible] ai ab AQ QV aM ak RX AM
theorem um [GI:bI] {aa:aG} {aj:List ae} {r:(List aZ)} (h:gB aa aj=some r):aM Tryz.prog 102 [.bJ [.str aa.Key,.str aa.ax,I aa.eI,I aa.bh,.bool aa.bj,I aa.On,I aa.eJ,I aa.bR,I aa.Rest,I aa.Empty],lE4 aj] [] (T1 (fun gr=>[(gr,Mn r)]) (fun gr=>.sl 2 gr 0 r.length)):=by
 unfold gB at h
 refine aM.dx ?_
 refine aM.bt Tryz.func102 J Tryz.ntmps102 Tryz.results102 J J ?_
 refine aN<|rA J J<|rN<|aN<|bH J J J J fun b1=>rN<|aN<|rM J J<|ai.qv (oW J) J<|aF h fun v2 e1 h=>Gy J (Cz e1) cR .nil (fun _ _ _ _ _ _ _=>J) J fun b3 b4 r5 b6 r7 b8 r9=>rA J J<|rN<|tS<|aN<|rM J J<|ai.qv (db J) J<|rM J J<|rN<|ab.block<|ab.bV (fun x:(List aZ)×(List ae)×(List ae)×(List ae)×Int×Int×Int×Bool×Int×Int=>mn aa aj x.1 x.2.1 x.2.2.1 x.2.2.2.1 x.2.2.2.2.1 x.2.2.2.2.2.1 x.2.2.2.2.2.2.1 x.2.2.2.2.2.2.2.1 x.2.2.2.2.2.2.2.2.1 x.2.2.2.2.2.2.2.2.2) (fun x aL=>∃ (Ms:Bk) (Be:Bk) (WB:List ae) (M9:Bk) (ZO:List ae) (Vi:Bk) (ZP:List ae),aL=⟨29,[(5,.ptr b1 0),(6,.ptr b3 0),(12,lE4 aj),(13,I (aj.length:Int)),(14,I x.2.2.2.2.2.2.2.2.2)],[(b1,.cells [.sl 2 Ms 0 x.1.length]),(Ms,Mn x.1),(b3,.cells [.bJ [.str aa.Key,.str aa.ax,I aa.eI,I aa.bh,.bool aa.bj,I aa.On,I aa.eJ,I aa.bR,I aa.Rest,I aa.Empty],.sl 2 Be WB.length x.2.1.length,.sl 2 M9 ZO.length x.2.2.1.length,.sl 2 Vi ZP.length x.2.2.2.1.length,I x.2.2.2.2.1,I x.2.2.2.2.2.1,I x.2.2.2.2.2.2.1,.bool x.2.2.2.2.2.2.2.1,I x.2.2.2.2.2.2.2.2.1,.func (.func 161) [.ptr b1 0]]),(Be,dC (WB++x.2.1)),(M9,dC (ZO++x.2.2.1)),(Vi,dC (ZP++x.2.2.2.1))]⟩) h ?_ ?_
 ·exact ak.Gu (j:=0) 2 (fun _=>.p4) J (fun _=>J) (fun _=>J) fun Q6=>ak.lq [5,0,0,0,0,0] ⟨Q6,b4,r5,b6,r7,b8,r9,J⟩ J J
 ·intro x z1 aL J1 cT h im fw
  obtain ⟨Sn,fx,Fx,M6,n38,n39,n40,Sp,n42,n43⟩:=x
  obtain ⟨Ms,Be,WB,M9,ZO,Vi,ZP,rfl⟩:=cT
  replace h:mn aa aj Sn fx Fx M6 n38 n39 n40 Sp n42 n43=some z1:=h
  unfold mn at h
  refine aN<|ai.qv (bB J J) J<|rN<|tS<|cD h J (fun h=>?_) (fun h=>?_)
  ·refine tK<|tS<|ab.block<|aN<|aF h fun v45 e2 h=>ai.qv (bz J J J e2 J J) J<|ai.qv (bu J J J) J<|bH J J J J fun Vj=>aD J J J J .p0 J J<|rN<|aN<|rM J J<|rF J J J<|rL J J .p0 J J<|aF h fun P2 e3 h=>Gy J (gY e3) cR (.cons .p3 (.cons .p3 (.cons .p3 (.cons .p3 (.cons .p1 (.cons .p1 .nil)))))) (fun _ _ _ _ _ _ _=>J) J fun b48 r49 WA r51 b52 r53 ZN=>rN<|tR<|rM J J<|ai.qv (aA J J .p6 J) J<|aF h fun v55 e4 h=>zW J (Bd e4) cR (.cons .p0 (.cons .p0 (.cons .p0 (.cons .p0 .nil)))) (fun _ _ _ _ _ _=>J) J fun b56 r57 b58 r59 b60 r61=>rN<|ab.cd<|tR<|ai.qv (a8 J J) J<|rM J J<|rN<|ab.stop<|?_
   cases h
   exact im _ _ J<|ak.lq [4,4,0,0,0,0] ⟨ZN,b56,r57,b58,r59,b60,r61,J⟩ J J
  ·refine ab.exit J<|have h:=cr h fw;?_
   unfold sE at h
   refine aN<|rM J J<|aF h fun v62 e5 h=>Gy J (gY e5) cR (.cons .p2 (.cons .p2 (.cons .p2 (.cons .p2 (.cons .p0 (.cons .p0 .nil)))))) (fun _ _ _ _ _ _ _=>J) J fun b63 r64 b65 r66 b67 r68 b69=>rN<|aN<|rL J J .p4 J J<|rA J J<|rN<|ab.ret<|?_
   cases h
   exact hH J [5] J ⟨b69,J,J⟩
theorem th [GI:bI] {aa:aG} {aj:List ao} {r:(List ah)} (h:jU aa aj=some r):aM Tryz.prog 89 [.bJ [.str aa.Key,.str aa.ax,I aa.eI,I aa.bh,.bool aa.bj,I aa.On,I aa.eJ,I aa.bR,I aa.Rest,I aa.Empty],lB aj] [] (T1 (fun gr=>[(gr,dQ r)]) (fun gr=>.sl 4 gr 0 r.length)):=by
 unfold jU at h
 refine aM.dx ?_
 refine aM.bt Tryz.func89 J Tryz.ntmps89 Tryz.results89 J J ?_
 refine aN<|rA J J<|rN<|aN<|zf (gk:=AV.str) (kp:=(bx 2 ae.av)) (β:=(fun _=>⟨none,0⟩)) J fun b1 b2=>rA J J<|rN<|tS<|aN<|rM J J<|ai.qv (db J) J<|rM J J<|rN<|ab.block<|ab.bV (fun x:(List (aO×(List ae)))×Int=>kV aa aj x.1 x.2) (fun x aL=>∃ (oE:aO→Bk),aL=⟨79,[(0,.bJ [.str aa.Key,.str aa.ax,I aa.eI,I aa.bh,.bool aa.bj,I aa.On,I aa.eJ,I aa.bR,I aa.Rest,I aa.Empty]),(1,lB aj),(5,.ph b1),(14,lB aj),(15,I (aj.length:Int)),(16,I x.2)],[(b1,.mp (kB AV.str (bx 2 ae.av) oE x.1)),(b2,.da (cC (bx 2 ae.av) oE x.1))]⟩) h ?_ ?_
 ·exact ak.lq [0,0] ⟨(fun _=>⟨none,0⟩),J⟩ J J
 ·intro x z1 aL J1 cT h im fw
  obtain ⟨l6,n8⟩:=x
  obtain ⟨oE,rfl⟩:=cT
  replace h:kV aa aj l6 n8=some z1:=h
  unfold kV at h
  refine aN<|ai.qv (bB J J) J<|rN<|tS<|cD h J (fun h=>?_) (fun h=>?_)
  ·refine tK<|tS<|ab.block<|aN<|aF h fun v9 e1 h=>ai.qv (bz J J J e1 J J) J<|ai.qv (bu J J J) J<|bH J J J J fun ja=>aD J J J J .p0 J J<|rN<|tS<|ab.bM (id:=5) (A:=[0,1,0,4,12,28,63]) 7 mixed J (by kernel_rfl) (by kernel_rfl)<|AM.qv (aC J J) J<|AM.qv (aJ J J .p0 J) J<|AM.qv (ay J) J<|AM.qv (cu J) J<|AM.qv (bl J J) J<|AM.qv (aW J J J) J<|AM.qv (nN J J) J<|AM.nil<|rN<|ab.cut (fun aL=>∃ (GK:aO→Bk) (jE:List (aO×(List ae))),mu n8 jE=some z1∧aL=⟨79,[(0,.bJ [.str aa.Key,.str aa.ax,I aa.eI,I aa.bh,.bool aa.bj,I aa.On,I aa.eJ,I aa.bR,I aa.Rest,I aa.Empty]),(1,lB aj),(5,.ph b1),(14,lB aj),(15,I (aj.length:Int)),(16,I n8)],[(b1,.mp (kB AV.str (bx 2 ae.av) GK jE)),(b2,.da (cC (bx 2 ae.av) GK jE))]⟩) ?_ ?_
   ·refine cD h J (fun h=>?_) (fun h=>?_)
    ·refine aF h fun k9 e2 h=>aF h fun CY e3 h=>ab.gj (id:=6) (A:=[0,0,2,0,0,16,56,0,128,0,512,1920,3968,8184,16383]) (H0:=[(b1,.mp (kB AV.str (bx 2 ae.av) oE l6)),(b2,.da (cC (bx 2 ae.av) oE l6))]) (HH:=fun β=>[(b1,.mp (kB AV.str (bx 2 ae.av) oE l6)),(b2,.da (cC (bx 2 ae.av) oE (lJ l6 v9.Device))),((β 13),dC CY),(ja,.cells (Oq v9))]) 14 mixed J (by kernel_rfl) (by kernel_rfl) [⟨none,some 6,[],fun _=>(b1,.mp (kB AV.str (bx 2 ae.av) oE l6)),none,[]⟩,⟨none,some 6,[],fun _=>(b2,.da (cC (bx 2 ae.av) oE l6)),none,[]⟩,⟨some 6,some 13,[],fun b=>(b,dC k9),none,[]⟩,⟨some 6,none,[],fun b=>(b1,.mp (kB AV.str (bx 2 ae.av) oE l6)),none,[]⟩,⟨some 6,none,[],fun b=>(b2,.da (cC (bx 2 ae.av) oE (lJ l6 v9.Device))),none,[]⟩,⟨some 13,none,[],fun b=>(b,dC CY),none,[]⟩] [6,13] J (by kernel_rfl) J (.cons .p1 (.cons .p1 .nil)) (fun _=>J)<|AT.am 6 J J<|AM.qv (ay J) J<|AM.qv (aC J J) J<|AM.qv (aJ J J .p0 J) J<|AM.qv (ay J) J<|AM.qv (aC J J) J<|AM.qv (aJ J J .p0 J) J<|AM.nil<|AT.yq (V:=fun b=>.sl 2 b 0 k9.length) (Ti:=[(b1,.mp (kB AV.str (bx 2 ae.av) oE l6)),(b2,.da (cC (bx 2 ae.av) oE l6))]) (Pi:=fun b=>[(b,dC k9),(b1,.mp (kB AV.str (bx 2 ae.av) oE l6)),(b2,.da (cC (bx 2 ae.av) oE (lJ l6 v9.Device)))]) (fun _=>J) (fun _=>J) (fun _ _=>J) J (fun _=>J) J J J ?_ ?_
     ·exact vw (gk:=AV.str) (sz:=2) (g:=ae.av) (β:=oE) (M:=l6) (key:=v9.Device) J J .p0 .p1 J e2 J fun EU ZQ=>ai.nil ⟨EU,_,J,J⟩
     refine AT.am 6 J J<|AM.qv (aC J J) J<|AM.qv (aJ J J .p0 J) J<|AM.qv (aC J J) J<|AM.qv (aJ J J .p0 J) J<|AM.qv (cq J J J J J) J<|AM.bZ (xs:=([(⟨v9.At,v9.Value⟩:ae)]).map ae.av) J J J J J J<|AM.nil<|AT.Od (V:=fun b=>.sl 2 b 0 CY.length) (Ti:=fun β=>[((β 6),dC k9)]) (Pi:=fun b=>[(b,dC CY)]) (fun _=>J) (fun _=>J) (fun _ _=>J) (fun _=>J) (fun _=>J) J J J (fun β=>?_) ?_
     ·generalize β 6=EU
      exact cA (g:=ae.av) J J J J J J J J (.list _) e3 (fun _=>.p0) J fun A9=>ai.nil ⟨A9,_,J,J⟩
     refine AT.sY (fun _=>J) fun β=>?_
     generalize β 6=EU
     generalize β 13=A9
     clear β
     exact vX (gk:=AV.str) (kp:=(bx 2 ae.av)) (β:=oE) (M:=l6) (key:=v9.Device) (v:=CY) (b:=A9) J J J J .p0<|ai.ghost<|ak.CV (kp:=(bx 2 ae.av)) (β:=oE) (M:=l6) (key:=v9.Device) (v:=CY) J .p2 .p1<|ak.here<|rN<|ab.stop<|ak.lq [0,0] ⟨(w5 oE v9.Device A9),rP l6 v9.Device CY,h,J⟩ J J
    ·exact tK<|ab.stop<|ak.lq [1,1] ⟨oE,l6,h,J⟩ J J
   ·rintro aL ⟨GK,jE,h,rfl⟩
    unfold mu at h
    refine ab.cd<|tR<|ai.qv (a8 J J) J<|rM J J<|rN<|ab.stop<|?_
    cases h
    exact im _ _ J<|ak.lq [0,0] ⟨GK,J⟩ J J
  ·refine ab.exit J<|have h:=cr h fw;?_
   unfold re at h
   refine aN<|rA J J<|rN<|tS<|aN<|rM J J<|rM J J<|ai.qv (cu J) J<|ai.qv (bl J J) J<|ai.qv (aW J J J) J<|aF h fun v17 e4 h=>eM J (xD e4) cR .nil (fun _=>J) J fun uS=>ai.qv (cE J) J<|rM J J<|rN<|ab.block<|ab.bV (fun x:(List ah)×Int=>iH aa l6 v17 x.1 x.2) (fun x aL=>∃ (uO:Bk),aL=⟨79,[(0,.bJ [.str aa.Key,.str aa.ax,I aa.eI,I aa.bh,.bool aa.bj,I aa.On,I aa.eJ,I aa.bR,I aa.Rest,I aa.Empty]),(5,.ph b1),(8,.sl 4 uO 0 x.1.length),(47,.sl 1 uS 0 v17.length),(48,I (v17.length:Int)),(49,I x.2)],[(b1,.mp (kB AV.str (bx 2 ae.av) oE l6)),(b2,.da (cC (bx 2 ae.av) oE l6)),(uO,dQ x.1),(uS,yy v17)]⟩) h ?_ ?_
   ·exact ak.arr (s:=8) 4 J fun OA=>ak.lq [2,2,0,0] ⟨OA,J⟩ J J
   ·intro x z2 aL J2 cT h wb wR
    obtain ⟨od,n24⟩:=x
    obtain ⟨uO,rfl⟩:=cT
    replace h:iH aa l6 v17 od n24=some z2:=h
    unfold iH at h
    refine aN<|ai.qv (bB J J) J<|rN<|tS<|cD h J (fun h=>?_) (fun h=>?_)
    ·refine tK<|tS<|ab.block<|aN<|aF h fun v26 e5 h=>ai.qv (aV J J J e5) J<|ai.qv (bg (g:=AV.str) J J (.inl .p3) e5 J) J<|rA J J<|rN<|aN<|rM J J<|rM J J<|rM J J<|aF h fun cx e6 h=>vw (gk:=AV.str) (sz:=2) (g:=ae.av) (β:=oE) (M:=l6) (key:=v26) J J .p0 .p1 J e6 J fun JC TO=>aF h fun pn e7 h=>fO J (um e7) .nil (.cons (.co (.refl _)) (.cons (pj.gq .p0) .nil)) (fun _=>J) (fun _=>J) (fun _=>(.cons (BP.gq (fun _=>J)) .nil)) J fun Mr=>ai.qv (cE J) J<|rM J J<|ai.ghost<|ak.Sm (gk:=AV.str) (sz:=2) (g:=ae.av) (β:=oE) (M:=l6) (key:=v26) (nB.inj Tryz.prog 9) e6 TO .p2 .p1 .p2<|ak.here<|rN<|ab.block<|ab.bV (fun x:(List ah)×Int=>iG aa n24 v26 pn x.1 x.2) (fun x aL=>∃ (K7:Bk),aL=⟨79,[(0,.bJ [.str aa.Key,.str aa.ax,I aa.eI,I aa.bh,.bool aa.bj,I aa.On,I aa.eJ,I aa.bR,I aa.Rest,I aa.Empty]),(5,.ph b1),(8,.sl 4 K7 0 x.1.length),(10,.str v26),(47,.sl 1 uS 0 v17.length),(48,I (v17.length:Int)),(49,I n24),(57,.sl 2 Mr 0 pn.length),(58,I (pn.length:Int)),(59,I x.2)],[(b1,.mp (kB AV.str (bx 2 ae.av) oE l6)),(b2,.da (cC (bx 2 ae.av) oE l6)),(K7,dQ x.1),(uS,yy v17),(Mr,Mn pn)]⟩) h ?_ ?_
     ·exact ak.lq [1,1,1,1,0] ⟨uO,J⟩ J J
     ·intro x z3 aL J3 cT h IL JD
      obtain ⟨Mk,n36⟩:=x
      obtain ⟨K7,rfl⟩:=cT
      replace h:iG aa n24 v26 pn Mk n36=some z3:=h
      unfold iG at h
      refine aN<|ai.qv (bB J J) J<|rN<|tS<|cD h J (fun h=>?_) (fun h=>?_)
      ·refine tK<|tS<|ab.block<|aN<|aF h fun v37 e8 h=>ai.qv (aV J J J e8) J<|ai.qv (bw (g:=aZ.av) J J (.inl .p4) J e8 J) J<|bH J J J J fun b38=>aD J J J J .p0 J J<|rN<|ab.bM (id:=15) (A:=[0,0,0,4,12,28,0,64,0,256,1022,2046,4095,8191]) 12 mixed J (by kernel_rfl) (by kernel_rfl)<|AM.qv (ay J) J<|AM.qv (ay J) J<|AM.qv (ay J) J<|AM.qv (cu J) J<|AM.qv (bl J J) J<|AM.qv (aW J J J) J<|AM.qv (aC J J) J<|AM.qv (aJ J J .p0 J) J<|AM.qv (aC J J) J<|AM.qv (aJ J J .p0 J) J<|AM.qv (cq J J J J J) J<|AM.bZ (xs:=([(⟨v26,aa.Key,v37.from_,v37.EO⟩:ah)]).map ah.av) J J J J J J<|AM.nil<|aF h fun Wk e9 h=>cA (g:=ah.av) J J J J J J J J (.list _) e9 (fun _=>.p3) J fun Sq=>rA J J<|rN<|ab.cd<|tR<|ai.qv (a8 J J) J<|rM J J<|rN<|ab.stop<|?_
       cases h
       exact IL _ _ J<|ak.lq [1,1,1,1,1] ⟨Sq,J⟩ J J
      ·refine ab.exit J<|have h:=cr h JD;ab.cd<|tR<|ai.qv (a8 J J) J<|rM J J<|rN<|ab.stop<|?_
       cases h
       exact wb _ _ J<|ak.lq [0,0,0,0] ⟨K7,J⟩ J J
    ·refine ab.exit J<|have h:=cr h wR;aN<|rM J J<|rA J J<|rN<|ab.ret<|?_
     cases h
     exact hH J [2] J ⟨uO,J,J⟩
theorem we [GI:bI] {aa:List ah} {aj:aE} {r:(List ah)} (h:nj aa aj=some r):aM Tryz.prog 88 [uA aa,aE.av aj] [] (T1 (fun gr=>[(gr,dQ r)]) (fun gr=>.sl 4 gr 0 r.length)):=by
 unfold nj at h
 refine aM.dx ?_
 refine aM.bt Tryz.func88 J Tryz.ntmps88 Tryz.results88 J J ?_
 refine aN<|df J J J J fun b1=>rA J J<|rN<|aN<|rA J J<|rN<|tS<|aN<|rM J J<|ai.qv (db J) J<|rM J J<|rN<|ab.block<|ab.bV (fun x:(List ah)×Int=>kJ aa aj x.1 x.2) (fun x aL=>∃ (b5:Bk),aL=⟨37,[(3,.ptr b1 0),(5,.sl 4 b5 0 x.1.length),(8,uA aa),(9,I (aa.length:Int)),(10,I x.2)],[(b1,.cells [I aj.aT,I aj.To]),(b5,dQ x.1)]⟩) h ?_ ?_
 ·exact ak.arr (s:=5) 4 J fun b8=>ak.lq [1,0] ⟨b8,J⟩ J J
 ·intro x z1 aL J1 cT h im fw
  obtain ⟨l6,n7⟩:=x
  obtain ⟨b5,rfl⟩:=cT
  replace h:kJ aa aj l6 n7=some z1:=h
  unfold kJ at h
  refine aN<|ai.qv (bB J J) J<|rN<|tS<|cD h J (fun h=>?_) (fun h=>?_)
  ·refine tK<|tS<|ab.block<|aN<|aF h fun v9 e1 h=>ai.qv (bz J J J e1 J J) J<|ai.qv (bu J J J) J<|bH J J J J fun ja=>aD J J J J .p0 J J<|rN<|tS<|ab.gj (id:=5) (A:=[0,1,0,4,15,0,32,0,128,480,127,1151,4095,8191]) (H0:=[(ja,.cells [.str v9.Device,.str v9.aG,I v9.aT,I v9.To])]) (HH:=fun β=>[(ja,.cells [.str v9.Device,.str v9.aG,I (max v9.aT aj.aT),I v9.To]),(b1,.cells [I aj.aT,I aj.To]),(b5,dQ l6)]) 12 mixed J (by kernel_rfl) (by kernel_rfl) [⟨none,some 11,[1,6],fun _=>(ja,.cells [.str v9.Device,.str v9.aG,I v9.aT,I v9.To]),none,[]⟩,⟨some 11,none,[],fun _=>(ja,.cells [.str v9.Device,.str v9.aG,I (max v9.aT aj.aT),I v9.To]),none,[]⟩] [] J (by kernel_rfl) J (.cons .p0 .nil) (fun _=>J)<|AT.am 1 J J<|AM.qv (aC J J) J<|AM.nil<|AT.rd (Rs:=[(ja,.cells [.str v9.Device,.str v9.aG,I v9.aT,I v9.To])]) (fun _=>J) J (fun _=>J) (fun _=>J) (aJ J J .p0 J) J<|AT.am 4 J J<|AM.qv (aC J J) J<|AM.qv (aJ J J .p0 J) J<|AM.qv (zI J J) J<|AM.qv (aC J J) J<|AM.nil<|AT.rd (Rs:=[(ja,.cells [.str v9.Device,.str v9.aG,I v9.aT,I v9.To])]) (fun _=>J) J (fun _=>J) (fun _=>J) (aJ J J .p0 J) J<|AT.am 4 J J<|AM.qv (aC J J) J<|AM.qv (aJ J J .p0 J) J<|AM.qv (zJ J J) J<|AM.qv (aC J J) J<|AM.nil<|AT.Gt (Ti:=[(ja,.cells [.str v9.Device,.str v9.aG,I v9.aT,I v9.To])]) (Pi:=[(ja,.cells [.str v9.Device,.str v9.aG,I (max v9.aT aj.aT),I v9.To])]) (fun _=>J) (fun _=>J) (fun _=>J) J J ?_ ?_
   ·exact aD J J J J .p0 J J<|ai.nil ⟨_,J⟩
   refine AT.sY (fun _=>J) fun β=>rF J J J<|aD J J J J .p0 J J<|rN<|aN<|rF J J J<|rL J J .p0 J J<|rF J J J<|rL J J .p0 J J<|ai.qv (bB J J) J<|rN<|ab.cut (fun aL=>∃ (kh:Bk) (jI:List ah),rU n7 jI=some z1∧aL=⟨37,[(3,.ptr b1 0),(5,.sl 4 kh 0 jI.length),(8,uA aa),(9,I (aa.length:Int)),(10,I n7)],[(b1,.cells [I aj.aT,I aj.To]),(kh,dQ jI)]⟩) ?_ ?_
   ·refine cD h J (fun h=>?_) (fun h=>?_)
    ·exact tR<|rM J J<|ai.qv (aA J J .p0 J) J<|aQ (xs:=([(⟨v9.Device,v9.aG,max v9.aT aj.aT,min v9.To aj.To⟩:ah)]).map ah.av) J J J J J J<|aF h fun jJ e2 h=>cA (g:=ah.av) J J J J J J J J (.list _) e2 (fun _=>.p2) J fun EU=>rA J J<|rN<|ab.stop<|ak.lq [1,1] ⟨EU,jJ,h,J⟩ J J
    ·exact tK<|ab.stop<|ak.lq [1,1] ⟨b5,l6,h,J⟩ J J
   ·rintro aL ⟨kh,jI,h,rfl⟩
    unfold rU at h
    refine ab.cd<|tR<|ai.qv (a8 J J) J<|rM J J<|rN<|ab.stop<|?_
    cases h
    exact im _ _ J<|ak.lq [0,0] ⟨kh,J⟩ J J
  ·refine ab.exit J<|have h:=cr h fw;aN<|rM J J<|rA J J<|rN<|ab.ret<|?_
   cases h
   exact hH J [1] J ⟨b5,J,J⟩
theorem Bf [GI:bI] {aa:List Int} {aj:aG} {ar:aG} {r:aO×Bool} (h:lp aa aj ar=some r):Pu Tryz.prog 91 [nu aa,.bJ [.str aj.Key,.str aj.ax,I aj.eI,I aj.bh,.bool aj.bj,I aj.On,I aj.eJ,I aj.bR,I aj.Rest,I aj.Empty],.bJ [.str ar.Key,.str ar.ax,I ar.eI,I ar.bh,.bool ar.bj,I ar.On,I ar.eJ,I ar.bR,I ar.Rest,I ar.Empty]] (.lA [.str r.1,.bool r.2]):=by
 unfold lp at h
 refine aM.bt Tryz.func91 J Tryz.ntmps91 Tryz.results91 J J ?_
 refine aN<|rA J J<|rA J J<|rN<|tS<|ab.block<|tS<|ab.cut (fun aL=>∃ (c1:Bool),kK aa aj ar c1=some r∧aL=⟨32,[(0,nu aa),(1,.bJ [.str aj.Key,.str aj.ax,I aj.eI,I aj.bh,.bool aj.bj,I aj.On,I aj.eJ,I aj.bR,I aj.Rest,I aj.Empty]),(2,.bJ [.str ar.Key,.str ar.ax,I ar.eI,I ar.bh,.bool ar.bj,I ar.On,I ar.eJ,I ar.bR,I ar.Rest,I ar.Empty]),(6,.bool c1)],[]⟩) ?_ ?_
 ·refine tR<|rM J J<|aF h fun v2 e1 h=>ai.qv (bz J J J e1 J J) J<|ai.qv (aW J J J) J<|ai.qv (jl J J) J<|rM J J<|gT h J J J (fun h=>?_) (fun h=>?_)
  ·exact rM J J<|rY J J J<|aF h fun v3 e2 h=>ai.qv (bz J J J e2 J J) J<|rY J J J<|ai.qv (aW J J J) J<|rY J J J<|ai.qv (dw J J) J<|rT J J J<|rA J J<|rN<|ab.stop<|ak.lq [] ⟨decide (v3=(0:Int)),h,J⟩ J J
  ·exact rG J J J J<|rG J J J J<|rG J J J J<|rE J J J<|rA J J<|rN<|ab.stop<|ak.lq [] ⟨false,h,J⟩ J J
 ·rintro aL ⟨c1,h,rfl⟩
  unfold kK at h
  refine cB h J (fun h=>?_) (fun h=>?_)
  ·refine aN<|ai.qv (bl J J) J<|ai.qv (aW J J J) J<|rA J J<|rA J J<|rN<|ab.ret<|?_
   cases h
   exact hQ J J J
  ·refine tS<|ab.cut (fun aL=>∃ (c4:Bool),jf ar c4=some r∧aL=⟨32,[(2,.bJ [.str ar.Key,.str ar.ax,I ar.eI,I ar.bh,.bool ar.bj,I ar.On,I ar.eJ,I ar.bR,I ar.Rest,I ar.Empty]),(19,.bool c4)],[]⟩) ?_ ?_
   ·refine tR<|rM J J<|aF h fun v5 e3 h=>ai.qv (bz J J J e3 J J) J<|ai.qv (aW J J J) J<|ai.qv (jl J J) J<|rM J J<|gT h J J J (fun h=>?_) (fun h=>?_)
    ·exact rM J J<|rY J J J<|aF h fun v6 e4 h=>ai.qv (bz J J J e4 J J) J<|rY J J J<|ai.qv (aW J J J) J<|rY J J J<|ai.qv (dw J J) J<|rT J J J<|rA J J<|rN<|ab.stop<|ak.lq [] ⟨decide (v6=(0:Int)),h,J⟩ J J
    ·exact rG J J J J<|rG J J J J<|rG J J J J<|rE J J J<|rA J J<|rN<|ab.stop<|ak.lq [] ⟨false,h,J⟩ J J
   ·rintro aL ⟨c4,h,rfl⟩
    unfold jf at h
    refine cB h J (fun h=>?_) (fun h=>?_)
    ·refine aN<|ai.qv (bl J J) J<|ai.qv (aW J J J) J<|rA J J<|rA J J<|rN<|ab.ret<|?_
     cases h
     exact hQ J J J
    ·refine tK<|ab.cd<|aN<|rA J J<|rA J J<|rN<|ab.ret<|?_
     cases h
     exact hQ J J J
theorem Ac [GI:bI] {aa:aq} {aj:aq} {r:Int} (h:gV aa aj=r):Pu Tryz.prog 213 [aq.av aa,aq.av aj] (I r):=by
 unfold gV at h
 refine aM.bt Tryz.func213 J Tryz.ntmps213 Tryz.results213 J J ?_
 refine aN<|df J J J J fun b1=>df J J J J fun b2=>rA J J<|rN<|aN<|rF J J J<|rL J J .p1 J J<|rF J J J<|rL J J .p0 J J<|bb J (fK J) cR J<|rA J J<|rN<|ab.ret<|?_
 obtain rfl:=h
 exact hP J J
theorem nJ:NY Tryz.prog 212 3:=⟨fun enc hk h1 cf hO g cb cd off cap d w eg hc hH hb hs=>AnyQ.slices_SortFunc_eq Tryz.IG 3 Tryz.isAgg220 Tryz.sizeOf220 enc hk h1 cf hO g cb cd off cap d w eg hc hH hb hs,fun p cap fv w=>AnyF.slices_SortFunc_none Tryz.IG p cap fv w⟩
theorem nK [GI:bI] {bc:Bk} {aa:List aq} {mN:aq→aq→Option Int} {nR:FuncId} [bD Tryz.prog nR] {so:List AV} (yN:∀ {y0 y1:_} {u:Int},mN y0 y1=some u→@Pu oI Tryz.prog nR (aq.av y0 :: aq.av y1 :: so) (I u)) {r:(List aq)} (h:fP aa mN=some r):aM Tryz.prog 212 [.sl 3 bc 0 aa.length,.func (.func nR) so] [(bc,.arr 3 (aa.map aq.av))] (T0 [(bc,.arr 3 (r.map aq.av))] (.lA [])):=
 DJ (fn:=mN) nJ J @yN (fun _=>J) h
theorem xE [GI:bI] {aa:List (List ah)} {r:(List (aO×(List aq)))} (h:lR aa=some r):aM Tryz.prog 155 [xC aa] [] (T1 (fun gr=>[(gr,mE9 r)]) (fun gr=>.ph gr)):=by
 unfold lR at h
 refine aM.dx ?_
 refine aM.bt Tryz.func155 J Tryz.ntmps155 Tryz.results155 J J ?_
 refine aN<|rA J J<|rN<|aN<|zf (gk:=AV.str) (kp:=(bx 3 aq.av)) (β:=(fun _=>⟨none,0⟩)) J fun b1 b2=>rA J J<|rN<|tS<|aN<|rM J J<|ai.qv (db J) J<|rM J J<|rN<|ab.block<|ab.bV (fun x:(List (aO×(List aq)))×Int=>gX aa x.1 x.2) (fun x aL=>∃ (oE:aO→Bk),aL=⟨52,[(3,.ph b1),(11,xC aa),(12,I (aa.length:Int)),(13,I x.2)],[(b1,.mp (kB AV.str (bx 3 aq.av) oE x.1)),(b2,.da (cC (bx 3 aq.av) oE x.1))]⟩) h ?_ ?_
 ·exact ak.lq [0,0] ⟨(fun _=>⟨none,0⟩),J⟩ J J
 ·intro x z1 aL J1 cT h im fw
  obtain ⟨l6,n8⟩:=x
  obtain ⟨oE,rfl⟩:=cT
  replace h:gX aa l6 n8=some z1:=h
  unfold gX at h
  refine aN<|ai.qv (bB J J) J<|rN<|tS<|cD h J (fun h=>?_) (fun h=>?_)
  ·refine tK<|tS<|ab.block<|aN<|rM J J<|aF h fun v9 e1 h=>ai.qv (bz J J J e1 J J) J<|ai.qv (aW J J J) J<|rA J J<|rA J J<|rN<|aN<|rM J J<|ai.qv (db J) J<|rM J J<|rN<|ab.block<|ab.bV (fun x:(List (aO×(List aq)))×Int=>gW n8 v9 x.1 x.2) (fun x aL=>∃ (vC:aO→Bk),aL=⟨52,[(3,.ph b1),(4,I n8),(11,xC aa),(12,I (aa.length:Int)),(13,I n8),(18,uA v9),(19,I (v9.length:Int)),(20,I x.2)],[(b1,.mp (kB AV.str (bx 3 aq.av) vC x.1)),(b2,.da (cC (bx 3 aq.av) vC x.1))]⟩) h ?_ ?_
   ·exact ak.lq [0,0] ⟨oE,J⟩ J J
   ·intro x z2 aL J2 cT h wb wR
    obtain ⟨jJ,n15⟩:=x
    obtain ⟨vC,rfl⟩:=cT
    replace h:gW n8 v9 jJ n15=some z2:=h
    unfold gW at h
    refine aN<|ai.qv (bB J J) J<|rN<|tS<|cD h J (fun h=>?_) (fun h=>?_)
    ·refine tK<|tS<|ab.block<|aN<|aF h fun gx e2 h=>ai.qv (bz J J J e2 J J) J<|ai.qv (bu J J J) J<|bH J J J J fun sS=>aD J J J J .p0 J J<|rN<|aF h fun lL e3 h=>aF h fun vZ e4 h=>ab.gj (id:=8) (A:=[0,0,2,0,0,16,56,0,128,0,896,0,2048,0,14336,32640,65528,131071]) (H0:=[(b1,.mp (kB AV.str (bx 3 aq.av) vC jJ)),(b2,.da (cC (bx 3 aq.av) vC jJ))]) (HH:=fun β=>[(b1,.mp (kB AV.str (bx 3 aq.av) vC jJ)),(b2,.da (cC (bx 3 aq.av) vC (lJ jJ gx.Device))),((β 16),Vf vZ),(sS,.cells [.str gx.Device,.str gx.aG,I gx.aT,I gx.To])]) 17 mixed J (by kernel_rfl) (by kernel_rfl) [⟨none,some 6,[],fun _=>(b1,.mp (kB AV.str (bx 3 aq.av) vC jJ)),none,[]⟩,⟨none,some 6,[],fun _=>(b2,.da (cC (bx 3 aq.av) vC jJ)),none,[]⟩,⟨some 6,some 16,[],fun b=>(b,Vf lL),none,[]⟩,⟨some 6,none,[],fun b=>(b1,.mp (kB AV.str (bx 3 aq.av) vC jJ)),none,[]⟩,⟨some 6,none,[],fun b=>(b2,.da (cC (bx 3 aq.av) vC (lJ jJ gx.Device))),none,[]⟩,⟨some 16,none,[],fun b=>(b,Vf vZ),none,[]⟩] [6,16] J (by kernel_rfl) J (.cons .p1 (.cons .p1 .nil)) (fun _=>J)<|AT.am 6 J J<|AM.qv (ay J) J<|AM.qv (aC J J) J<|AM.qv (aJ J J .p0 J) J<|AM.qv (ay J) J<|AM.qv (aC J J) J<|AM.qv (aJ J J .p0 J) J<|AM.nil<|AT.yq (V:=fun b=>.sl 3 b 0 lL.length) (Ti:=[(b1,.mp (kB AV.str (bx 3 aq.av) vC jJ)),(b2,.da (cC (bx 3 aq.av) vC jJ))]) (Pi:=fun b=>[(b,Vf lL),(b1,.mp (kB AV.str (bx 3 aq.av) vC jJ)),(b2,.da (cC (bx 3 aq.av) vC (lJ jJ gx.Device)))]) (fun _=>J) (fun _=>J) (fun _ _=>J) J (fun _=>J) J J J ?_ ?_
     ·exact vw (gk:=AV.str) (sz:=3) (g:=aq.av) (β:=vC) (M:=jJ) (key:=gx.Device) J J .p0 .p1 J e3 J fun DX aiC=>ai.nil ⟨DX,_,J,J⟩
     refine AT.am 9 J J<|AM.qv (aC J J) J<|AM.qv (aJ J J .p0 J) J<|AM.qv (ay J) J<|AM.qv (cq J J J J J) J<|AM.qv (aC J J) J<|AM.qv (aJ J J .p0 J) J<|AM.qv (ay J) J<|AM.qv (cq J J J J J) J<|AM.bZ (xs:=([(⟨gx.aT,n8,(1:Int)⟩:aq),(⟨gx.To,n8,(-1:Int)⟩:aq)]).map aq.av) J J J J J J<|AM.nil<|AT.Od (V:=fun b=>.sl 3 b 0 vZ.length) (Ti:=fun β=>[((β 6),Vf lL)]) (Pi:=fun b=>[(b,Vf vZ)]) (fun _=>J) (fun _=>J) (fun _ _=>J) (fun _=>J) (fun _=>J) J J J (fun β=>?_) ?_
     ·generalize β 6=DX
      exact cA (g:=aq.av) J J J J J J J J (.list _) e4 (fun _=>.p0) J fun OB=>ai.nil ⟨OB,_,J,J⟩
     refine AT.sY (fun _=>J) fun β=>?_
     generalize β 6=DX
     generalize β 16=OB
     clear β
     refine vX (gk:=AV.str) (kp:=(bx 3 aq.av)) (β:=vC) (M:=jJ) (key:=gx.Device) (v:=vZ) (b:=OB) J J J J .p0<|ai.ghost<|ak.CV (kp:=(bx 3 aq.av)) (β:=vC) (M:=jJ) (key:=gx.Device) (v:=vZ) J .p2 .p1<|ak.here<|rN<|ab.cd<|tR<|ai.qv (a8 J J) J<|rM J J<|rN<|ab.stop<|?_
     cases h
     exact wb _ _ J<|ak.lq [0,0] ⟨(w5 vC gx.Device OB),J⟩ J J
    ·refine ab.exit J<|have h:=cr h wR;ab.cd<|tR<|ai.qv (a8 J J) J<|rM J J<|rN<|ab.stop<|?_
     cases h
     exact im _ _ J<|ak.lq [0,0] ⟨vC,J⟩ J J
  ·refine ab.exit J<|have h:=cr h fw;tS<|aN<|rM J J<|CR (M:=l6) (enc:=(fun e=>(AV.str e.1,((bx 3 aq.av)).val (oE e.1) e.2))) J (fun _ _=>.p0) J fun uO WC TP TQ TR=>rN<|ab.block<|ab.CO (fun e (x:(List (aO×(List aq))))=>ku e x) (fun x:(List (aO×(List aq)))=>kA l6 x) (fun R x aL=>∃ (ZR:List Nat),wJ WC TP ZR (R.map (fun e=>(AV.str e.1,((bx 3 aq.av)).val (oE e.1) e.2)))∧aL=⟨52,[(3,.ph b1),(44,.ptr uO 0)],[(uO,.Bz b1 TP ZR),(b1,.Ch WC TP),(b2,.da (cC (bx 3 aq.av) oE x))]⟩) h ?_ ?_
   ·exact ak.lq [0,0,0] ⟨[],TR,J⟩ J J
   ·intro R3 qN aL J3 cT ZS hK3
    obtain ⟨ZR,ZT,rfl⟩:=cT
    refine aN<|Gw J ZT .p1 (fun _=>.p0) J (fun hN=>?_) (fun TI R' ZU hP hlen WD WE=>?_)
    ·have h:=QO ZS hN
     replace h:kA l6 qN=_:=h
     unfold kA at h
     refine aF h fun u25 e6 h=>ai.ghost<|ak.Gx (es:=kB AV.str (bx 3 aq.av) oE qN) (Wi TQ e6) .p1<|ak.here<|rX J J J<|rN<|tS<|ab.F8 J<|ab.exit J<|aN<|rM J J<|rA J J<|rN<|ab.ret<|?_
     obtain rfl:=Option.some.inj h
     exact ak.TF (gk:=AV.str) (sz:=3) (g:=aq.av) (β:=oE) (M:=qN) (nB.inj Tryz.prog 9) .p2 .p1<|ak.here ⟨_,.cons (.tmp _ _ J) .nil,_,.cons .p1 .nil,⟨b1,J,J⟩⟩
    ·obtain ⟨z3,h,hN3,JD⟩:=KV ZS hP
     replace h:ku TI qN=some z3:=h
     unfold ku at h
     have IL:=fun y aL (e:z3=.inl y) hi=>hK3 R' y aL hlen (hN3 y e) hi
     clear hN3 hP hK3 ZS
     refine rX J J J<|rN<|tS<|ab.F7 J<|tK<|ab.block<|aN<|ai.qv (CS J .p0 .p1 WE J J) J<|aF h fun v26 e7 h=>ai.ghost<|ak.BU (sz:=3) (g:=aq.av) (β:=oE) (M:=qN) (key:=TI.1) e7 .p2 fun Ms WG=>ak.here<|rX J J J<|rA J J<|rN<|tR<|rM J J<|aF h fun v28 e8 h=>bd J (nK (fun e=>Ac (GI:=oI) (Option.some.inj e)) (gl e8)) cR (.cons .p0 .nil) J J<|ai.ghost<|ak.eqs (s:=9) (dF:=.sl 3 Ms 0 v28.length) J (congrArg (AV.sl 3 Ms 0) (bO e8))<|ak.here<|ai.ghost<|ak.eqs (s:=48) (dF:=.sl 3 Ms 0 v28.length) J (congrArg (AV.sl 3 Ms 0) (bO e8))<|ak.here<|ai.ghost<|ak.eqs (s:=49) (dF:=.sl 3 Ms 0 v28.length) J (congrArg (AV.sl 3 Ms 0) (bO e8))<|ak.here<|rN<|ab.cd<|ab.stop<|?_
     cases h
     exact IL _ _ J<|ak.Zk (sz:=3) (g:=aq.av) (β:=oE) (M:=qN) (key:=TI.1) (v:=v28) WG .p0 .p2<|ak.lq [0,0,0] ⟨ZU,WD,J⟩ J J
theorem rq [GI:bI] {aa:ah} {aj:ah} {r:Int} (h:dI aa aj=some r):Pu Tryz.prog 109 [ah.av aa,ah.av aj] (I r):=by
 unfold dI at h
 refine aM.bt Tryz.func109 J Tryz.ntmps109 Tryz.results109 J J ?_
 refine aN<|df J J J J fun b1=>df J J J J fun b2=>rA J J<|rN<|tS<|ab.bM (id:=1) (A:=[0,1,0,4,15,0,32,0,128,511,0,1024,0,4096,16383,32767,65535,131071]) 18 mixed J (by kernel_rfl) (by kernel_rfl)<|AM.qv (aC J J) J<|AM.qv (aJ J J .p1 J) J<|AM.qv (aC J J) J<|AM.qv (aJ J J .p0 J) J<|AM.gQ J (fK J) cR J<|AM.qv (aC J J) J<|AM.qv (aJ J J .p1 J) J<|AM.qv (aC J J) J<|AM.qv (aJ J J .p0 J) J<|AM.gQ J (ei J) cR J<|AM.qv (aC J J) J<|AM.qv (aJ J J .p1 J) J<|AM.qv (aC J J) J<|AM.qv (aJ J J .p0 J) J<|AM.gQ J (ei J) cR J<|AM.bZ (xs:=([(cmp_Compare_int aa.aT aj.aT),(Lib.compareBytes aa.Device aj.Device),(Lib.compareBytes aa.aG aj.aG)]:List Int).map I) J J J J J J<|aF h fun v3 e1 h=>AM.gQ J (qk e1) cR J<|AM.qv (bY J) J<|AM.nil<|rN<|ab.ret<|?_
 cases h
 exact hP J J
theorem sq:NY Tryz.prog 108 4:=⟨fun enc hk h1 cf hO g cb cd off cap d w eg hc hH hb hs=>AnyQ.slices_SortFunc_eq Tryz.IF 4 Tryz.isAgg70 Tryz.sizeOf70 enc hk h1 cf hO g cb cd off cap d w eg hc hH hb hs,fun p cap fv w=>AnyF.slices_SortFunc_none Tryz.IF p cap fv w⟩
theorem dK [GI:bI] {bc:Bk} {aa:List ah} {mN:ah→ah→Option Int} {nR:FuncId} [bD Tryz.prog nR] {so:List AV} (yN:∀ {y0 y1:_} {u:Int},mN y0 y1=some u→@Pu oI Tryz.prog nR (ah.av y0 :: ah.av y1 :: so) (I u)) {r:(List ah)} (h:bA aa mN=some r):aM Tryz.prog 108 [.sl 4 bc 0 aa.length,.func (.func nR) so] [(bc,.arr 4 (aa.map ah.av))] (T0 [(bc,.arr 4 (r.map ah.av))] (.lA [])):=
 DJ (fn:=mN) sq J @yN (fun _=>J) h
theorem qC [GI:bI] {aa:List (List ah)} {ar:aG} {aI:aG} {r:(List ah)} (h:fE aa ar aI=some r):aM Tryz.prog 90 [xC aa,.func (.func 91) [.bJ [.str ar.Key,.str ar.ax,I ar.eI,I ar.bh,.bool ar.bj,I ar.On,I ar.eJ,I ar.bR,I ar.Rest,I ar.Empty],.bJ [.str aI.Key,.str aI.ax,I aI.eI,I aI.bh,.bool aI.bj,I aI.On,I aI.eJ,I aI.bR,I aI.Rest,I aI.Empty]]] [] (T1 (fun gr=>[(gr,dQ r)]) (fun gr=>.sl 4 gr 0 r.length)):=by
 unfold fE at h
 refine aM.dx ?_
 refine aM.bt Tryz.func90 J Tryz.ntmps90 Tryz.results90 J J ?_
 refine aN<|rA J J<|rN<|aN<|rA J J<|rN<|tS<|aN<|rM J J<|aF h fun v1 e1 h=>eM J (xE e1) cR .nil (fun _=>J) J fun b2=>CR (M:=v1) (enc:=X9) J (fun _ _=>.p0) J fun b3 IM zj TS TT=>rN<|ab.block<|ab.CO (fun e (x:(List ah))=>er aa ar aI e x) (fun x:(List ah)=>et x) (fun R x aL=>∃ (b6:Bk) (TU:List Nat),wJ IM zj TU (R.map X9)∧aL=⟨124,[(0,xC aa),(1,.func (.func 91) [.bJ [.str ar.Key,.str ar.ax,I ar.eI,I ar.bh,.bool ar.bj,I ar.On,I ar.eJ,I ar.bR,I ar.Rest,I ar.Empty],.bJ [.str aI.Key,.str aI.ax,I aI.eI,I aI.bh,.bool aI.bj,I aI.On,I aI.eJ,I aI.bR,I aI.Rest,I aI.Empty]]),(5,.sl 4 b6 0 x.length),(16,.ptr b3 0)],[(b3,.Bz b2 zj TU),(b2,.Ch IM zj),(b6,dQ x)]⟩) h ?_ ?_
 ·exact ak.arr (s:=5) 4 J fun b8=>ak.lq [1,1,0] ⟨b8,[],TT,J⟩ J J
 ·intro R1 l7 aL J1 cT TW WH
  obtain ⟨b6,TU,TX,rfl⟩:=cT
  refine aN<|Gw J TX .p1 (fun _=>.p0) J (fun hN=>?_) (fun fy R' zk hP hlen OC OD=>?_)
  ·have h:=QO TW hN
   replace h:et l7=_:=h
   unfold et at h
   refine ai.ghost<|ak.Gx TS .p1<|ak.here<|rX J J J<|rN<|tS<|ab.F8 J<|ab.exit J<|aN<|rM J J<|aF h fun v9 e3 h=>bd J (dK (fun e=>rq (GI:=oI) e) (gl e3)) cR (.cons .p2 .nil) J J<|ai.ghost<|ak.eqs (s:=5) (dF:=.sl 4 b6 0 v9.length) J (congrArg (AV.sl 4 b6 0) (bO e3))<|ak.here<|ai.ghost<|ak.eqs (s:=121) (dF:=.sl 4 b6 0 v9.length) J (congrArg (AV.sl 4 b6 0) (bO e3))<|ak.here<|rN<|aN<|rM J J<|rA J J<|rN<|ab.ret<|?_
   cases h
   exact hH J [0] J ⟨b6,J,J⟩
  ·obtain ⟨z1,h,WI,fw⟩:=KV TW hP
   replace h:er aa ar aI fy l7=some z1:=h
   unfold er at h
   have im:=fun y aL (e:z1=.inl y) hi=>WH R' y aL hlen (WI y e) hi
   clear WI hP WH TW
   refine rX J J J<|rN<|tS<|ab.F7 J<|tK<|ab.block<|aN<|ai.qv (CS J .p0 .p1 OD J J) J<|rX J J J<|rX J J J<|rA J J<|rA J J<|rN<|aN<|rM J J<|ai.qv (db J) J<|aF h fun l10 e4 h=>BM (g:=I) (Z:=(0:Int)) J J J J J J J J J e4 fun kh=>rA J J<|rN<|aN<|rA J J<|rN<|aN<|rA J J<|rN<|ab.block<|ab.bV (fun x:(List ah)×(List Int)×Int×Int=>ep ar aI fy x.1 x.2.1 x.2.2.1 x.2.2.2) (fun x aL=>∃ (sS:Bk),aL=⟨124,[(0,xC aa),(1,.func (.func 91) [.bJ [.str ar.Key,.str ar.ax,I ar.eI,I ar.bh,.bool ar.bj,I ar.On,I ar.eJ,I ar.bR,I ar.Rest,I ar.Empty],.bJ [.str aI.Key,.str aI.ax,I aI.eI,I aI.bh,.bool aI.bj,I aI.On,I aI.eJ,I aI.bR,I aI.Rest,I aI.Empty]]),(5,.sl 4 sS 0 x.1.length),(6,.str fy.1),(7,M7 fy.2),(8,.sl 1 kh 0 x.2.1.length),(9,I x.2.2.1),(10,I x.2.2.2),(16,.ptr b3 0)],[(sS,dQ x.1),(kh,vf x.2.1),(b3,.Bz b2 zj zk),(b2,.Ch IM zj)]⟩) h ?_ ?_
   ·exact ak.lq [3,0,0,0] ⟨b6,J⟩ J J
   ·intro x z2 aL J2 cT h wb wR
    obtain ⟨dL,lU,n20,n21⟩:=x
    obtain ⟨sS,rfl⟩:=cT
    replace h:ep ar aI fy dL lU n20 n21=some z2:=h
    unfold ep at h
    refine tS<|aN<|rM J J<|rM J J<|ai.qv (db J) J<|ai.qv (bB J J) J<|rN<|cD h J (fun h=>?_) (fun h=>?_)
    ·refine tK<|ab.cut (fun aL=>∃ (uO:Bk) (od:List ah) (qN:List Int) (n25:Int) (n26:Int),cV od qN n25 n26=some z2∧aL=⟨124,[(0,xC aa),(1,.func (.func 91) [.bJ [.str ar.Key,.str ar.ax,I ar.eI,I ar.bh,.bool ar.bj,I ar.On,I ar.eJ,I ar.bR,I ar.Rest,I ar.Empty],.bJ [.str aI.Key,.str aI.ax,I aI.eI,I aI.bh,.bool aI.bj,I aI.On,I aI.eJ,I aI.bR,I aI.Rest,I aI.Empty]]),(5,.sl 4 uO 0 od.length),(6,.str fy.1),(7,M7 fy.2),(8,.sl 1 kh 0 qN.length),(9,I n25),(10,I n26),(16,.ptr b3 0)],[(uO,dQ od),(kh,vf qN),(b3,.Bz b2 zj zk),(b2,.Ch IM zj)]⟩) ?_ ?_
     ·refine ab.block<|aN<|rM J J<|rM J J<|aF h fun cx e5 h=>ai.qv (bz J J J e5 J J) J<|ai.qv (bl J J) J<|ai.qv (aW J J J) J<|rA J J<|rN<|tS<|ab.block<|ab.bV (fun x:(List Int)×Int=>eo ar aI fy dL n20 cx x.1 x.2) (fun x aL=>aL=⟨124,[(0,xC aa),(1,.func (.func 91) [.bJ [.str ar.Key,.str ar.ax,I ar.eI,I ar.bh,.bool ar.bj,I ar.On,I ar.eJ,I ar.bR,I ar.Rest,I ar.Empty],.bJ [.str aI.Key,.str aI.ax,I aI.eI,I aI.bh,.bool aI.bj,I aI.On,I aI.eJ,I aI.bR,I aI.Rest,I aI.Empty]]),(5,.sl 4 sS 0 dL.length),(6,.str fy.1),(7,M7 fy.2),(8,.sl 1 kh 0 x.1.length),(9,I n20),(10,I x.2),(11,I cx.at_),(16,.ptr b3 0)],[(sS,dQ dL),(kh,vf x.1),(b3,.Bz b2 zj zk),(b2,.Ch IM zj)]⟩) h ?_ ?_
      ·exact ak.lq [0,0,0,0] J J J
      ·intro x z3 aL J3 cT h IL JD
       obtain ⟨fx,n31⟩:=x
       obtain rfl:=cT
       replace h:eo ar aI fy dL n20 cx fx n31=some z3:=h
       unfold eo at h
       refine tS<|tS<|ab.cut (fun aL=>∃ (GH:Bool),ek ar aI fy dL n20 cx fx n31 GH=some z3∧aL=⟨124,[(0,xC aa),(1,.func (.func 91) [.bJ [.str ar.Key,.str ar.ax,I ar.eI,I ar.bh,.bool ar.bj,I ar.On,I ar.eJ,I ar.bR,I ar.Rest,I ar.Empty],.bJ [.str aI.Key,.str aI.ax,I aI.eI,I aI.bh,.bool aI.bj,I aI.On,I aI.eJ,I aI.bR,I aI.Rest,I aI.Empty]]),(5,.sl 4 sS 0 dL.length),(6,.str fy.1),(7,M7 fy.2),(8,.sl 1 kh 0 fx.length),(9,I n20),(10,I n31),(11,I cx.at_),(16,.ptr b3 0),(46,.bool GH)],[(sS,dQ dL),(kh,vf fx),(b3,.Bz b2 zj zk),(b2,.Ch IM zj)]⟩) ?_ ?_
       ·refine tR<|rM J J<|rM J J<|ai.qv (db J) J<|ai.qv (bB J J) J<|rM J J<|gT h J J J (fun h=>?_) (fun h=>?_)
        ·exact rM J J<|rY J J J<|rM J J<|rY J J J<|aF h fun v33 e6 h=>ai.qv (bz J J J e6 J J) J<|rY J J J<|ai.qv (bl J J) J<|rY J J J<|ai.qv (aW J J J) J<|rY J J J<|rM J J<|rY J J J<|ai.qv (dw J J) J<|rT J J J<|rN<|ab.stop<|ak.lq [0,0,0,0] ⟨decide (v33.at_=cx.at_),h,J⟩ J J
        ·exact rG J J J J<|rG J J J J<|rG J J J J<|rG J J J J<|rG J J J J<|rG J J J J<|rE J J J<|rN<|ab.stop<|ak.lq [0,0,0,0] ⟨false,h,J⟩ J J
       ·rintro aL ⟨GH,h,rfl⟩
        unfold ek at h
        refine cB h J (fun h=>?_) (fun h=>?_)
        ·refine tK<|tS<|ab.block<|ab.bM (id:=12) (A:=[0,0,0,6,14,30,63,127,0,0,768,1792,3840,8191,16383,32767]) 15 mixed J (by kernel_rfl) (by kernel_rfl)<|AM.qv (ay J) J<|AM.qv (ay J) J<|AM.qv (ay J) J<|aF h fun vm e7 h=>AM.qv (bz J J J e7 J J) J<|AM.qv (bl J J) J<|AM.qv (aW J J J) J<|aF h fun v35 e8 h=>AM.qv (aV J J J e8) J<|AM.qv (bg (g:=I) J J (.inl .p1) e8 J) J<|AM.qv (ay J) J<|AM.qv (ay J) J<|aF h fun AP e9 h=>AM.qv (bz J J J e9 J J) J<|AM.qv (bl J J) J<|AM.qv (aW J J J) J<|AM.qv (a8 J J) J<|aF h fun v37 Ba h=>AM.qv (aV J J J Ba) J<|AM.nil<|bX (g:=I) (za:=aU (v35+AP.CW)) J J J J Ba J .p1 J<|ai.ghost<|ak.eqs (s:=8) (dF:=.sl 1 kh 0 (fx.set vm.au.toNat (aU (v35+AP.CW))).length) J (by rw [List.length_set])<|ak.here<|ai.ghost<|ak.eqs (s:=49) (dF:=.sl 1 kh 0 (fx.set vm.au.toNat (aU (v35+AP.CW))).length) J (by rw [List.length_set])<|ak.here<|rN<|ab.cd<|tR<|rM J J<|ai.qv (a8 J J) J<|rA J J<|rN<|ab.stop<|?_
         cases h
         exact IL _ _ J<|ak.lq [0,0,0,0] J J J
        ·refine ab.exit J<|have h:=cr h JD;?_
         unfold kL at h
         refine aN<|rM J J<|rM J J<|aF h fun tQ HB h=>yb J J (Bf HB) (.cons (pj.gq .p1) (.cons (.co (.refl _)) (.cons (.co (.refl _)) .nil))) J J<|rM J J<|rX J J J<|rX J J J<|rA J J<|rA J J<|rN<|tS<|tS<|ab.cut (fun aL=>∃ (Ml:Bool),gC fy dL n20 cx fx n31 tQ Ml=some z2∧aL=⟨124,[(0,xC aa),(1,.func (.func 91) [.bJ [.str ar.Key,.str ar.ax,I ar.eI,I ar.bh,.bool ar.bj,I ar.On,I ar.eJ,I ar.bR,I ar.Rest,I ar.Empty],.bJ [.str aI.Key,.str aI.ax,I aI.eI,I aI.bh,.bool aI.bj,I aI.On,I aI.eJ,I aI.bR,I aI.Rest,I aI.Empty]]),(5,.sl 4 sS 0 dL.length),(6,.str fy.1),(7,M7 fy.2),(8,.sl 1 kh 0 fx.length),(9,I n20),(10,I n31),(11,I cx.at_),(12,.str tQ.1),(16,.ptr b3 0),(77,.bool Ml)],[(sS,dQ dL),(kh,vf fx),(b3,.Bz b2 zj zk),(b2,.Ch IM zj)]⟩) ?_ ?_
         ·refine tR<|rM J J<|ai.qv (cL J) J<|rM J J<|ai.guard J J J (fun hc=>?_) (fun hc=>?_)
          ·rw [Cl hc] at h
           exact rM J J<|rY J J J<|rM J J<|rY J J J<|ai.qv (db J) J<|rY J J J<|ai.qv (dw J J) J<|rE J J J<|rN<|ab.stop<|ak.lq [0,0,0,0] ⟨decide (n31=(fy.2.length:Int)),h,J⟩ J J
          ·rw [Ck hc] at h
           exact rG J J J J<|rG J J J J<|rG J J J J<|rT J J J<|rN<|ab.stop<|ak.lq [0,0,0,0] ⟨true,h,J⟩ J J
         ·rintro aL ⟨Ml,h,rfl⟩
          unfold gC at h
          refine cB h J (fun h=>?_) (fun h=>?_)
          ·exact ab.exit J<|ab.stop<|ak.lq [0,0,0,0] ⟨sS,dL,fx,n20,n31,h,J⟩ J J
          ·refine tK<|tS<|tS<|ab.cut (fun aL=>∃ (c40:Bool),cW fy dL n20 cx fx n31 tQ c40=some z2∧aL=⟨124,[(0,xC aa),(1,.func (.func 91) [.bJ [.str ar.Key,.str ar.ax,I ar.eI,I ar.bh,.bool ar.bj,I ar.On,I ar.eJ,I ar.bR,I ar.Rest,I ar.Empty],.bJ [.str aI.Key,.str aI.ax,I aI.eI,I aI.bh,.bool aI.bj,I aI.On,I aI.eJ,I aI.bR,I aI.Rest,I aI.Empty]]),(5,.sl 4 sS 0 dL.length),(6,.str fy.1),(7,M7 fy.2),(8,.sl 1 kh 0 fx.length),(9,I n20),(10,I n31),(11,I cx.at_),(12,.str tQ.1),(16,.ptr b3 0),(97,.bool c40)],[(sS,dQ dL),(kh,vf fx),(b3,.Bz b2 zj zk),(b2,.Ch IM zj)]⟩) ?_ ?_
           ·refine tR<|rM J J<|ai.qv (rD J J) J<|rM J J<|gT h J J J (fun h=>?_) (fun h=>?_)
            ·refine rM J J<|rY J J J<|rM J J<|rY J J J<|aF h fun v41 EH h=>ai.qv (aV J J J EH) J<|rY J J J<|ai.qv (bC J J) J<|rY J J J<|ai.qv (bg (g:=ah.av) J J (.inl .p0) EH J) J<|rY J J J<|rM J J<|rY J J J<|ai.qv (dw J J) J<|rT J J J<|rM J J<|gT h J J J (fun h=>?_) (fun h=>?_)
             ·exact rM J J<|rY J J J<|rM J J<|rY J J J<|aF h fun A8 K4 h=>ai.qv (aV J J J K4) J<|rY J J J<|ai.qv (bC J J) J<|rY J J J<|ai.qv (bg (g:=ah.av) J J (.inl .p0) K4 J) J<|rY J J J<|rM J J<|rY J J J<|ai.qv (nN J J) J<|rT J J J<|rN<|ab.stop<|ak.lq [0,0,0,0] ⟨decide (A8.aG=tQ.1),h,J⟩ J J
             ·exact rG J J J J<|rG J J J J<|rG J J J J<|rG J J J J<|rG J J J J<|rG J J J J<|rE J J J<|rN<|ab.stop<|ak.lq [0,0,0,0] ⟨false,h,J⟩ J J
            ·exact rG J J J J<|rG J J J J<|rG J J J J<|rG J J J J<|rG J J J J<|rG J J J J<|rE J J J<|rM J J<|rG J J J J<|rG J J J J<|rG J J J J<|rG J J J J<|rG J J J J<|rG J J J J<|rG J J J J<|rE J J J<|rN<|ab.stop<|ak.lq [0,0,0,0] ⟨false,h,J⟩ J J
           ·rintro aL ⟨c40,h,rfl⟩
            unfold cW at h
            refine cB h J (fun h=>?_) (fun h=>?_)
            ·exact aN<|rM J J<|rM J J<|rM J J<|rM J J<|aF h fun CZ P3 h=>ai.qv (bz J J J P3 J J) J<|ai.qv (bl J J) J<|ai.qv (aW J J J) J<|aF h fun v44 M8 h=>ai.qv (aV J J J M8) J<|ai.qv (bC J J) J<|bX (g:=ah.av) (za:=(⟨v44.Device,v44.aG,v44.aT,CZ.at_⟩:ah)) J J J J M8 J .p0 J<|ai.ghost<|ak.eqs (s:=5) (dF:=.sl 4 sS 0 (dL.set n20.toNat (⟨v44.Device,v44.aG,v44.aT,CZ.at_⟩:ah)).length) J (by rw [List.length_set])<|ak.here<|ai.ghost<|ak.eqs (s:=98) (dF:=.sl 4 sS 0 (dL.set n20.toNat (⟨v44.Device,v44.aG,v44.aT,CZ.at_⟩:ah)).length) J (by rw [List.length_set])<|ak.here<|rN<|ab.exit J<|ab.stop<|ak.lq [0,0,0,0] ⟨sS,dL.set n20.toNat (⟨v44.Device,v44.aG,v44.aT,CZ.at_⟩:ah),fx,n20,n31,h,J⟩ J J
            ·exact tK<|aN<|rM J J<|ai.qv (cE J) J<|rA J J<|rN<|tR<|rM J J<|rM J J<|rM J J<|rM J J<|rM J J<|rM J J<|aF h fun v45 P4 h=>ai.qv (bz J J J P4 J J) J<|ai.qv (bl J J) J<|ai.qv (aW J J J) J<|ai.qv (cq J J J J J) J<|aQ (xs:=([(⟨fy.1,tQ.1,cx.at_,v45.at_⟩:ah)]).map ah.av) J J J J J J<|aF h fun IH Q5 h=>cA (g:=ah.av) J J J J J J J J (.list _) Q5 (fun _=>.p0) J fun Vk=>rA J J<|rN<|ab.cd<|ab.stop<|ak.lq [0,0,0,0] ⟨Vk,IH,fx,(dL.length:Int),n31,h,J⟩ J J
     ·rintro aL ⟨uO,od,qN,n25,n26,h,rfl⟩
      unfold cV at h
      refine ab.stop<|?_
      cases h
      exact wb _ _ J<|ak.lq [0,0,0,0] ⟨uO,J⟩ J J
    ·refine ab.exit J<|have h:=cr h wR;ab.cd<|ab.stop<|?_
     cases h
     exact im _ _ J<|ak.lq [2,2,0] ⟨sS,zk,OC,J⟩ J J
theorem EX [GI:bI] {aa:aG} {aj:aG} {ar:List ao} {aI:aE} {r:(List ah)×Int} (h:rV aa aj ar aI=some r):aM Tryz.prog 28 [aG.av aa,aG.av aj,lB ar,aE.av aI] [] (T1 (fun gr=>[(gr,dQ r.1)]) (fun gr=>.lA [.sl 4 gr 0 r.1.length,I r.2])):=by
 unfold rV at h
 refine aM.dx ?_
 refine aM.bt Tryz.func28 J Tryz.ntmps28 Tryz.results28 J J ?_
 refine aN<|df J J J J fun b1=>df J J J J fun b2=>df J J J J fun b3=>rA J J<|rA J J<|rN<|tS<|tS<|ab.bM (id:=1) (A:=[0,1,3,0,8,31,0,0,255,511,1023,2047]) 12 mixed J (by kernel_rfl) (by kernel_rfl)<|AM.qv (aA J J .p2 J) J<|AM.bZ (xs:=([aa]:List aG).map aG.av) J J J J J J<|aF h fun v4 e1 h=>AM.gQ J (kQ e1) cR J<|AM.qv (aA J J .p1 J) J<|AM.bZ (xs:=([aj]:List aG).map aG.av) J J J J J J<|aF h fun v5 e2 h=>AM.gQ J (kQ e2) cR J<|AM.qv (ay J) J<|AM.qv (aA J J .p0 J) J<|aF h fun v6 e3 h=>AM.gQ J (wc e3) (.cons (.nil _) (.cons (.refl _) (.cons (.refl _) .nil))) J<|AM.bZ (xs:=([v4,v5,v6]:List Int).map I) J J J J J J<|aF h fun v7 e4 h=>AM.gQ J (tf e4) cR J<|AM.qv (bY J) J<|AM.nil<|rN<|aN<|rM J J<|ai.qv (lW J J) J<|rN<|cD h J (fun h=>?_) (fun h=>?_)
 ·refine aN<|rM J J<|rA J J<|rA J J<|rN<|ab.ret<|?_
  cases h
  exact ak.arr (s:=8) 4 J fun b8=>ak.here ⟨_,.cons (.tmp _ _ J) (.cons (.tmp _ _ J) .nil),_,.cons .p0 .nil,⟨b8,J,J⟩⟩
 ·refine tK<|tS<|aF h fun v9 e5 h=>aF h fun v11 e6 h=>aF h fun k9 e7 h=>ab.gj (id:=4) (A:=[0,1,0,7,0,31,0,127,255,511]) (H0:=[]) (HH:=fun β=>[((β 3),dQ v11),((β 5),dQ k9),(b3,.cells [I aI.aT,I aI.To]),(b2,.cells (w6 aj)),(b1,.cells (w6 aa))]) 7 mixed J (by kernel_rfl) (by kernel_rfl) [⟨some 1,some 3,[],fun b=>(b,dQ v9),none,[]⟩,⟨some 3,none,[],fun b=>(b,dQ v11),none,[]⟩,⟨some 5,none,[],fun b=>(b,dQ k9),none,[]⟩] [1,3,5] J (by kernel_rfl) J .nil (fun _=>J)<|AT.am 1 J J<|AM.qv (ay J) J<|AM.nil<|AT.yq (V:=fun b=>.sl 4 b 0 v9.length) (Ti:=[]) (Pi:=fun b=>[(b,dQ v9)]) (fun _=>J) (fun _=>J) (fun _ _=>J) J (fun _=>J) J J J ?_ ?_
  ·exact fO J (th e5) .nil (.cons (.yn _ _ _ .p2 (.cons (.co (.refl _)) (.cons (.co (.refl _)) (.cons (.co (.refl _)) (.cons (.co (.refl _)) (.cons (.co (.refl _)) (.cons (.co (.refl _)) (.cons (.co (.refl _)) (.cons (.co (.refl _)) (.cons (.co (.refl _)) (.cons (.co (.refl _)) .nil))))))))))) (.cons (.co (.refl _)) .nil)) (fun _=>J) (fun _=>J) (fun _=>(.cons (BP.gq (fun _=>J)) .nil)) J fun ja=>ai.nil ⟨ja,_,J,J⟩
  refine AT.am 1 J J<|AM.qv (aA J J .p0 J) J<|AM.nil<|AT.Od (V:=fun b=>.sl 4 b 0 v11.length) (Ti:=fun β=>[((β 1),dQ v9)]) (Pi:=fun b=>[(b,dQ v11)]) (fun _=>J) (fun _=>J) (fun _ _=>J) (fun _=>J) (fun _=>J) J J J (fun β=>?_) ?_
  ·generalize β 1=ja
   exact fO J (we e6) .nil (.cons (pj.gq .p0) (.cons (.co (.refl _)) .nil)) (fun _=>J) (fun _=>J) (fun _=>(.cons (BP.gq (fun _=>J)) .nil)) J fun vL=>ai.ghost<|ak.drop .p1<|ak.here<|ai.nil ⟨vL,_,J,J⟩
  refine AT.am 1 J J<|AM.qv (ay J) J<|AM.nil<|AT.yq (V:=fun b=>.sl 4 b 0 k9.length) (Ti:=[]) (Pi:=fun b=>[(b,dQ k9)]) (fun _=>J) (fun _=>J) (fun _ _=>J) J (fun _=>J) J J J ?_ ?_
  ·exact fO J (th e7) .nil (.cons (.yn _ _ _ .p1 (.cons (.co (.refl _)) (.cons (.co (.refl _)) (.cons (.co (.refl _)) (.cons (.co (.refl _)) (.cons (.co (.refl _)) (.cons (.co (.refl _)) (.cons (.co (.refl _)) (.cons (.co (.refl _)) (.cons (.co (.refl _)) (.cons (.co (.refl _)) .nil))))))))))) (.cons (.co (.refl _)) .nil)) (fun _=>J) (fun _=>J) (fun _=>(.cons (BP.gq (fun _=>J)) .nil)) J fun EU=>ai.nil ⟨EU,_,J,J⟩
  refine AT.am 1 J J<|AM.qv (aA J J .p0 J) J<|AM.nil<|AT.sY (fun _=>J) fun β=>?_
  generalize β 1=ja
  generalize β 3=vL
  generalize β 5=EU
  clear β
  refine aF h fun mM e8 h=>fO J (we e8) .nil (.cons (pj.gq .p1) (.cons (.co (.refl _)) .nil)) (fun _=>J) (fun _=>J) (fun _=>(.cons (BP.gq (fun _=>J)) .nil)) J fun A9=>ai.ghost<|ak.freeze .p1<|ak.here<|ai.ghost<|ak.freeze .p0<|ak.here<|aQ (xs:=[.sl 4 vL 0 v11.length,.sl 4 A9 0 mM.length]) J J J J J J<|ai.ghost<|ak.cox (s:=34) (dF:=.list 1 (([v11,mM]:List (List ah)).map (Gp 4 ah.av))) J (JX.VZ (.cons (.co (Co.LP .p1)) (.cons (.co (Co.LP .p0)) .nil)) J J)<|ak.here<|rA J J<|rN<|aN<|rM J J<|ai.qv (oW J) J<|aF h fun v17 e9 h=>fO J (qC e9) .nil (.cons (.co (.refl _)) (.cons (.HW _ _ _ (.cons (.yn _ _ _ .p5 (.cons (.co (.refl _)) (.cons (.co (.refl _)) (.cons (.co (.refl _)) (.cons (.co (.refl _)) (.cons (.co (.refl _)) (.cons (.co (.refl _)) (.cons (.co (.refl _)) (.cons (.co (.refl _)) (.cons (.co (.refl _)) (.cons (.co (.refl _)) .nil))))))))))) (.cons (.yn _ _ _ .p4 (.cons (.co (.refl _)) (.cons (.co (.refl _)) (.cons (.co (.refl _)) (.cons (.co (.refl _)) (.cons (.co (.refl _)) (.cons (.co (.refl _)) (.cons (.co (.refl _)) (.cons (.co (.refl _)) (.cons (.co (.refl _)) (.cons (.co (.refl _)) .nil))))))))))) .nil))) .nil)) (fun _=>J) (fun _=>J) (fun _=>(.cons (BP.gq (fun _=>J)) .nil)) J fun uS=>rA J J<|rA J J<|rN<|ab.ret<|?_
  cases h
  exact hI J J [0] J ⟨uS,J,J⟩
theorem j9 [GI:bI] {aa:List Int} {r:Int} (h:iI aa=some r):Pu Tryz.prog 10 [nu aa] (I r):=by
 unfold iI at h
 refine aM.bt Tryz.func10 J Tryz.ntmps10 Tryz.results10 J J ?_
 refine aN<|rA J J<|rN<|aN<|rA J J<|rN<|tS<|aN<|rM J J<|ai.qv (db J) J<|rM J J<|rN<|ab.block<|ab.bV (fun x:Int=>oO aa x) (fun x aL=>aL=⟨18,[(3,I (0:Int)),(6,nu aa),(7,I (aa.length:Int)),(8,I x)],[]⟩) h ?_ ?_
 ·exact ak.lq [] J J J
 ·intro n2 z1 aL J1 cT h im fw
  obtain rfl:=cT
  replace h:oO aa n2=some z1:=h
  unfold oO at h
  refine aN<|ai.qv (bB J J) J<|rN<|tS<|cD h J (fun h=>?_) (fun h=>?_)
  ·refine tK<|tS<|ab.block<|aN<|aF h fun v3 e1 h=>ai.qv (bz J J J e1 J J) J<|ai.qv (aW J J J) J<|rA J J<|rN<|aN<|rM J J<|rM J J<|ai.qv (lW J J) J<|rN<|cD h J (fun h=>?_) (fun h=>?_)
   ·refine aN<|rM J J<|rA J J<|rN<|ab.ret<|have h:=cr h fw;?_
    cases h
    exact hP J J
   ·refine tK<|ab.cd<|tR<|ai.qv (a8 J J) J<|rM J J<|rN<|ab.stop<|?_
    cases h
    exact im _ _ J<|ak.lq [] J J J
  ·refine ab.exit J<|have h:=cr h fw;aN<|rM J J<|rA J J<|rN<|ab.ret<|?_
   cases h
   exact hP J J
theorem sG [GI:bI] {aa:List aO} {r:(List aO)} (h:fk aa=some r):aM Tryz.prog 134 [.list 1 (aa.map AV.str)] [] (T1 (fun gr=>[(gr,.arr 1 (r.map AV.str))]) (fun gr=>.sl 1 gr 0 r.length)):=by
 unfold fk at h
 refine aM.dx ?_
 refine aM.bt Tryz.func134 J Tryz.ntmps134 Tryz.results134 J J ?_
 refine ab.seq ?_
 refine ab.region ?_
 refine ai.qv (bY J) J ?_
 refine ai.nil ?_
 refine ab.seq ?_
 refine ab.seq ?_
 refine ab.region ?_
 refine ai.qv (ay J) J ?_
 refine KS J J J J (fun c hc=>?_)
 refine ai.nil ?_
 refine ab.cond J (fun hT=>?_) (fun hF=>?_)
 ·obtain rfl:=zQ h (List.map_eq_nil_iff.1 (hc hT))
  refine ab.seq ?_
  refine ab.region ?_
  refine ai.qv (bY J) J ?_
  refine ai.nil ?_
  refine ab.ret ?_
  refine ak.arr (s:=2) 1 J (fun b1=>?_)
  exact ak.here ⟨_,.cons (.tmp _ _ J) .nil,_,.cons .here .nil,⟨b1,J,J⟩⟩
 ·refine ab.skip ?_
  refine ab.seq ?_
  refine ab.region ?_
  refine sX (xs:=([]:List aO).map AV.str) J J J J J J (fun b2=>?_)
  refine ai.qv (ay J) J ?_
  refine cA (g:=AV.str) (Xs:=[]) J J J J J J J J (.list _) h (fun _=>.here) J (fun b3=>?_)
  refine ai.qv (bY J) J ?_
  refine ai.nil ?_
  refine ab.ret ?_
  exact ak.here ⟨_,.cons (.tmp _ _ J) .nil,_,.cons .here .nil,⟨b3,J,J⟩⟩
theorem OE [GI:bI] {aa:List aO} {r:(List aO)} (h:DU aa=some r):aM Tryz.prog 60 [ET aa] [] (T1 (fun gr=>[(gr,yy r)]) (fun gr=>.sl 1 gr 0 r.length)):=by
 unfold DU at h
 refine aM.dx ?_
 refine aM.bt Tryz.func60 J Tryz.ntmps60 Tryz.results60 J J ?_
 refine aN<|rA J J<|rN<|aN<|rM J J<|aF h fun v1 e1 h=>eM J (sG e1) cR .nil (fun _=>J) J fun b2=>rA J J<|rN<|aN<|rM J J<|aF h fun v3 e2 h=>bd J (mJ (gl e2)) cR (.cons .p0 .nil) J J<|ai.ghost<|ak.eqs (s:=0) (dF:=.sl 1 b2 0 v3.length) J (congrArg (AV.sl 1 b2 0) (bO e2))<|ak.here<|ai.ghost<|ak.eqs (s:=4) (dF:=.sl 1 b2 0 v3.length) J (congrArg (AV.sl 1 b2 0) (bO e2))<|ak.here<|ai.ghost<|ak.eqs (s:=5) (dF:=.sl 1 b2 0 v3.length) J (congrArg (AV.sl 1 b2 0) (bO e2))<|ak.here<|rN<|aN<|rM J J<|aF h fun v4 e3 h=>eM J (lx e3) cR (.cons .p0 .nil) (fun _=>J) J fun b5=>rA J J<|rN<|ab.ret<|?_
 cases h
 exact hH J [0] J ⟨b5,J,J⟩
theorem oF [GI:bI] {aa:List ao} {aj:aO} {r:(List aO)} (h:iW aa aj=some r):aM Tryz.prog 94 [lB aa,.str aj] [] (T1 (fun gr=>[(gr,yy r)]) (fun gr=>.sl 1 gr 0 r.length)):=by
 unfold iW at h
 refine aM.dx ?_
 refine aM.bt Tryz.func94 J Tryz.ntmps94 Tryz.results94 J J ?_
 refine aN<|rA J J<|rN<|aN<|rA J J<|rN<|tS<|aN<|rM J J<|ai.qv (db J) J<|rM J J<|rN<|ab.block<|ab.bV (fun x:(List aO)×Int=>cX aa aj x.1 x.2) (fun x aL=>∃ (b4:Bk),aL=⟨30,[(1,.str aj),(5,.sl 1 b4 0 x.1.length),(8,lB aa),(9,I (aa.length:Int)),(10,I x.2)],[(b4,yy x.1)]⟩) h ?_ ?_
 ·exact ak.arr (s:=5) 1 J fun b7=>ak.lq [0] ⟨b7,J⟩ J J
 ·intro x z1 aL J1 cT h im fw
  obtain ⟨l5,n6⟩:=x
  obtain ⟨b4,rfl⟩:=cT
  replace h:cX aa aj l5 n6=some z1:=h
  unfold cX at h
  refine aN<|ai.qv (bB J J) J<|rN<|tS<|cD h J (fun h=>?_) (fun h=>?_)
  ·refine tK<|tS<|ab.block<|aN<|aF h fun v8 e1 h=>ai.qv (bz J J J e1 J J) J<|ai.qv (bu J J J) J<|bH J J J J fun b9=>aD J J J J .p0 J J<|rN<|tS<|ab.cut (fun aL=>∃ (CX:Bool),nk l5 n6 v8 CX=some z1∧aL=⟨30,[(1,.str aj),(5,.sl 1 b4 0 l5.length),(7,.ptr b9 0),(8,lB aa),(9,I (aa.length:Int)),(10,I n6),(21,.bool CX)],[(b4,yy l5),(b9,.cells (Oq v8))]⟩) ?_ ?_
   ·refine tR<|rM J J<|ai.qv (nN J J) J<|rM J J<|ai.jK J J J (fun hc=>?_) (fun hc=>?_)
    ·rw [NJ hc] at h
     exact rF J J J<|rY J J J<|rL J J .p0 J J<|rY J J J<|rM J J<|rY J J J<|ai.qv (nN J J) J<|rE J J J<|rN<|ab.stop<|ak.lq [1,0] ⟨decide (v8.ax=aj),h,J⟩ J J
    ·rw [NI hc] at h
     exact rG J J J J<|rG J J J J<|rG J J J J<|rT J J J<|rN<|ab.stop<|ak.lq [1,0] ⟨true,h,J⟩ J J
   ·rintro aL ⟨CX,h,rfl⟩
    unfold nk at h
    refine ab.cut (fun aL=>∃ (kh:Bk) (jI:List aO),lr n6 jI=some z1∧aL=⟨30,[(1,.str aj),(5,.sl 1 kh 0 jI.length),(8,lB aa),(9,I (aa.length:Int)),(10,I n6)],[(kh,yy jI)]⟩) ?_ ?_
    ·refine cB h J (fun h=>?_) (fun h=>?_)
     ·exact tR<|rM J J<|rF J J J<|rL J J .p1 J J<|aQ (xs:=([v8.Device]:List aO).map AV.str) J J J J J J<|aF h fun jJ e2 h=>cA (g:=AV.str) J J J J J J J J (.list _) e2 (fun _=>.p0) J fun EU=>rA J J<|rN<|ab.stop<|ak.lq [0] ⟨EU,jJ,h,J⟩ J J
     ·exact tK<|ab.stop<|ak.lq [0] ⟨b4,l5,h,J⟩ J J
    ·rintro aL ⟨kh,jI,h,rfl⟩
     unfold lr at h
     refine ab.cd<|tR<|ai.qv (a8 J J) J<|rM J J<|rN<|ab.stop<|?_
     cases h
     exact im _ _ J<|ak.lq [0] ⟨kh,J⟩ J J
  ·refine ab.exit J<|have h:=cr h fw;?_
   unfold iV at h
   refine aN<|rM J J<|aF h fun mM e3 h=>fO J (OE e3) .nil (.cons (pj.gq .p0) .nil) (fun _=>J) (fun _=>J) (fun _=>(.cons (BP.gq (fun _=>J)) .nil)) J fun A9=>rA J J<|rN<|ab.ret<|?_
   cases h
   exact hH J [0] J ⟨A9,J,J⟩
theorem w7:KT Tryz.prog 214 (Value.int .i64) zd:=⟨fun cd off cap zs w hH hb hs=>Tryz.slices_Sort_int cd off cap zs w hH hb hs,fun p cap w=>Tryz.slices_Sort_int_none p cap w⟩
theorem qF [GI:bI] {bc:Bk} {aa:List Int} {r:(List Int)} (h:gP aa=some r):aM Tryz.prog 214 [.sl 1 bc 0 aa.length] [(bc,.arr 1 (aa.map I))] (T0 [(bc,.arr 1 (r.map I))] (.lA [])):=
 Ih w7 h
theorem oG [GI:bI] {bc:Bk} {aa:List Int} {r:(List Int)} (h:gD aa=some r):aM Tryz.prog 215 [.sl 1 bc 0 aa.length] [(bc,vf aa)] (T1 (fun gr=>[(gr,vf r)]) (fun gr=>.sl 1 gr 0 r.length)):=by
 unfold gD at h
 refine aM.dx ?_
 refine aM.bt Tryz.func215 J Tryz.ntmps215 Tryz.results215 J J ?_
 refine aN<|rA J J<|rN<|tS<|aN<|rM J J<|ai.qv (cE J) J<|ai.qv (bB J J) J<|rN<|cD h J (fun h=>?_) (fun h=>?_)
 ·refine aN<|rM J J<|rA J J<|rN<|ab.ret<|?_
  cases h
  exact hH J [0] J ⟨bc,J,J⟩
 ·refine tK<|tS<|aN<|rA J J<|rN<|ab.block<|ab.bV (fun x:Int=>ik aa x) (fun x aL=>aL=⟨61,[(0,.sl 1 bc 0 aa.length),(3,I x)],[(bc,vf aa)]⟩) h ?_ ?_
  ·exact ak.lq [0] J J J
  ·intro n2 z1 aL J1 cT h im fw
   obtain rfl:=cT
   replace h:ik aa n2=some z1:=h
   unfold ik at h
   refine tS<|aN<|rM J J<|rM J J<|ai.qv (cE J) J<|ai.qv (bB J J) J<|rN<|cD h J (fun h=>?_) (fun h=>?_)
   ·refine tK<|tS<|ab.block<|tS<|ab.bM (id:=6) (A:=[0,0,3,7,0,0,32,112,240,511]) 10 mixed J (by kernel_rfl) (by kernel_rfl)<|AM.qv (ay J) J<|AM.qv (ay J) J<|aF h fun v3 e1 h=>AM.qv (aV J J J e1) J<|AM.qv (bg (g:=I) J J (.inl .p0) e1 J) J<|AM.qv (ay J) J<|AM.qv (ay J) J<|AM.qv (bT J J) J<|aF h fun v4 e2 h=>AM.qv (aV J J J e2) J<|AM.qv (bg (g:=I) J J (.inl .p0) e2 J) J<|AM.qv (dw J J) J<|AM.nil<|rN<|cD h J (fun h=>?_) (fun h=>?_)
    ·refine aN<|rM J J<|rM J J<|aF h fun l5 e3 h=>ai.qv (mW J J (.some _ _ _ J) .none J J e3) J<|rA J J<|rN<|tS<|aN<|rA J J<|rN<|ab.block<|ab.bV (fun x:(List Int)×Int×Int=>ij n2 l5 x.1 x.2.1 x.2.2) (fun x aL=>aL=⟨61,[(0,.sl 1 bc 0 x.1.length),(3,I x.2.1),(4,.sl 1 bc n2.toNat l5.length),(5,I x.2.2)],[(bc,vf x.1)]⟩) h ?_ ?_
     ·exact ak.lq [0] J J J
     ·intro x z2 aL J2 cT h wb wR
      obtain ⟨l9,n10,n11⟩:=x
      obtain rfl:=cT
      replace h:ij n2 l5 l9 n10 n11=some z2:=h
      unfold ij at h
      refine tS<|aN<|rM J J<|rM J J<|ai.qv (Fo J) J<|ai.qv (bB J J) J<|rN<|cD h J (fun h=>?_) (fun h=>?_)
      ·refine tK<|tS<|ab.block<|tS<|ab.bM (id:=11) (A:=[0,0,3,7,0,0,32,112,240,511]) 10 mixed J (by kernel_rfl) (by kernel_rfl)<|AM.qv (ay J) J<|AM.qv (ay J) J<|aF h fun v12 e4 h=>AM.qv (pb (L:=n2) J J J e4) J<|AM.qv (bg (g:=I) J J (.inl .p0) (qL e4).2 J) J<|AM.qv (ay J) J<|AM.qv (ay J) J<|AM.qv (bT J J) J<|aF h fun k9 e5 h=>AM.qv (pb (L:=n2) J J J e5) J<|AM.qv (bg (g:=I) J J (.inl .p0) (qL e5).2 J) J<|AM.qv (lW J J) J<|AM.nil<|rN<|ab.cut (fun aL=>∃ (tL:List Int) (n15:Int),ig n11 tL n15=some z2∧aL=⟨61,[(0,.sl 1 bc 0 tL.length),(3,I n15),(4,.sl 1 bc n2.toNat l5.length),(5,I n11)],[(bc,vf tL)]⟩) ?_ ?_
       ·refine cD h J (fun h=>?_) (fun h=>?_)
        ·exact aN<|rM J J<|rM J J<|rM J J<|rM J J<|aF h fun gx e6 h=>ai.qv (pb (L:=n2) J J J e6) J<|ai.qv (bg (g:=I) J J (.inl .p0) (qL e6).2 J) J<|aF h fun v17 e7 h=>ai.qv (aV J J J e7) J<|bX (g:=I) (za:=gx) J J J J e7 J .p0 J<|ai.ghost<|ak.eqs (s:=0) (dF:=.sl 1 bc 0 (l9.set n10.toNat gx).length) J (by rw [List.length_set])<|ak.here<|ai.ghost<|ak.eqs (s:=45) (dF:=.sl 1 bc 0 (l9.set n10.toNat gx).length) J (by rw [List.length_set])<|ak.here<|rN<|tR<|rM J J<|ai.qv (a8 J J) J<|rA J J<|rN<|ab.stop<|ak.lq [0] ⟨l9.set n10.toNat gx,aU (n10+(1:Int)),h,J⟩ J J
        ·exact tK<|ab.stop<|ak.lq [0] ⟨l9,n10,h,J⟩ J J
       ·rintro aL ⟨tL,n15,h,rfl⟩
        unfold ig at h
        refine ab.cd<|tR<|rM J J<|ai.qv (a8 J J) J<|rA J J<|rN<|ab.stop<|?_
        cases h
        exact wb _ _ J<|ak.lq [0] J J J
      ·refine ab.exit J<|have h:=cr h wR;?_
       unfold nQ at h
       refine aN<|rM J J<|rM J J<|aF h fun dL e8 h=>ai.qv (mW J J (.some _ _ _ J) .none J J e8) J<|Gv (g:=I) (Z:=(0:Int)) (L:=n10) J J J J J J e8 .p0<|ai.ghost<|ak.eqs (s:=0) (dF:=.sl 1 bc 0 (Fm l9 n10 dL.length (0:Int)).length) J (congrArg (AV.sl 1 bc 0) (vV e8))<|ak.here<|ai.ghost<|ak.eqs (s:=54) (dF:=.sl 1 bc 0 (Fm l9 n10 dL.length (0:Int)).length) J (congrArg (AV.sl 1 bc 0) (vV e8))<|ak.here<|rN<|aN<|rM J J<|rM J J<|aF h fun lU e9 h=>ai.qv (mW J J .none (.some _ _ _ J) J J e9) J<|rA J J<|ai.ghost<|ak.NX e9 .p0<|ak.here<|rN<|ab.ret<|have h:=cr h fw;?_
       cases h
       exact hH J [0] J ⟨bc,J,J⟩
    ·refine tK<|ab.cd<|tR<|rM J J<|ai.qv (a8 J J) J<|rA J J<|rN<|ab.stop<|?_
     cases h
     exact im _ _ J<|ak.lq [0] J J J
   ·refine ab.exit J<|have h:=cr h fw;aN<|rM J J<|rA J J<|rN<|ab.ret<|?_
    cases h
    exact hH J [0] J ⟨bc,J,J⟩
theorem GL [GI:bI] {aa:aG} {aj:List ao} {ar:aO} {aI:Int} {r:(List Int)} (h:tU aa aj ar aI=some r):aM Tryz.prog 332 [aG.av aa,lB aj,.str ar,I aI] [] (T1 (fun gr=>[(gr,vf r)]) (fun gr=>.sl 1 gr 0 r.length)):=by
 unfold tU at h
 refine aM.dx ?_
 refine aM.bt Tryz.func332 J Tryz.ntmps332 Tryz.results332 J J ?_
 refine aN<|df J J J J fun b1=>rA J J<|rN<|aN<|rA J J<|rN<|tS<|aN<|rM J J<|ai.qv (db J) J<|rM J J<|rN<|ab.block<|ab.bV (fun x:(List Int)×Int=>iJ aa aj ar aI x.1 x.2) (fun x aL=>∃ (b5:Bk),aL=⟨51,[(2,.str ar),(3,I aI),(4,.ptr b1 0),(9,.sl 1 b5 0 x.1.length),(12,lB aj),(13,I (aj.length:Int)),(14,I x.2)],[(b1,.cells (w6 aa)),(b5,vf x.1)]⟩) h ?_ ?_
 ·exact ak.arr (s:=9) 1 J fun b8=>ak.lq [1,0] ⟨b8,J⟩ J J
 ·intro x z1 aL J1 cT h im fw
  obtain ⟨l6,n7⟩:=x
  obtain ⟨b5,rfl⟩:=cT
  replace h:iJ aa aj ar aI l6 n7=some z1:=h
  unfold iJ at h
  refine aN<|ai.qv (bB J J) J<|rN<|tS<|cD h J (fun h=>?_) (fun h=>?_)
  ·refine tK<|tS<|ab.block<|aN<|aF h fun v9 e1 h=>ai.qv (bz J J J e1 J J) J<|ai.qv (bu J J J) J<|bH J J J J fun ja=>aD J J J J .p0 J J<|rN<|tS<|ab.cut (fun aL=>∃ (HA:Bool),rf l6 n7 v9 HA=some z1∧aL=⟨51,[(2,.str ar),(3,I aI),(4,.ptr b1 0),(9,.sl 1 b5 0 l6.length),(11,.ptr ja 0),(12,lB aj),(13,I (aj.length:Int)),(14,I n7),(43,.bool HA)],[(b1,.cells (w6 aa)),(b5,vf l6),(ja,.cells (Oq v9))]⟩) ?_ ?_
   ·refine tR<|rF J J J<|rL J J .p0 J J<|rM J J<|ai.qv (nN J J) J<|rM J J<|ai.ct J J J (fun hc=>?_) (fun hc=>?_)
    ·rw [tG hc] at h
     refine rF J J J<|rY J J J<|rL J J .p0 J J<|rY J J J<|rF J J J<|rY J J J<|rL J J .p1 J J<|rY J J J<|ai.qv (nN J J) J<|rT J J J<|rM J J<|ai.ct J J J (fun hc=>?_) (fun hc=>?_)
     ·rw [tG hc] at h
      refine rF J J J<|rY J J J<|rL J J .p0 J J<|rY J J J<|rM J J<|rY J J J<|rF J J J<|rY J J J<|rL J J .p1 J J<|rY J J J<|ai.qv (bT J J) J<|rY J J J<|ai.qv (jl J J) J<|rT J J J<|rM J J<|ai.ct J J J (fun hc=>?_) (fun hc=>?_)
      ·rw [tG hc] at h
       exact rF J J J<|rY J J J<|rL J J .p0 J J<|rY J J J<|rM J J<|rY J J J<|ai.qv (vn J J) J<|rT J J J<|rN<|ab.stop<|ak.lq [1,1,0] ⟨decide (v9.At≤aI),h,J⟩ J J
      ·rw [tH hc] at h
       exact rG J J J J<|rG J J J J<|rG J J J J<|rE J J J<|rN<|ab.stop<|ak.lq [1,1,0] ⟨false,h,J⟩ J J
     ·rw [tH hc] at h
      exact rG J J J J<|rG J J J J<|rG J J J J<|rG J J J J<|rG J J J J<|rG J J J J<|rE J J J<|rM J J<|rG J J J J<|rG J J J J<|rG J J J J<|rG J J J J<|rE J J J<|rN<|ab.stop<|ak.lq [1,1,0] ⟨false,h,J⟩ J J
    ·rw [tH hc] at h
     exact rG J J J J<|rG J J J J<|rG J J J J<|rG J J J J<|rE J J J<|rM J J<|rG J J J J<|rG J J J J<|rG J J J J<|rG J J J J<|rG J J J J<|rG J J J J<|rG J J J J<|rE J J J<|rM J J<|rG J J J J<|rG J J J J<|rG J J J J<|rG J J J J<|rE J J J<|rN<|ab.stop<|ak.lq [1,1,0] ⟨false,h,J⟩ J J
   ·rintro aL ⟨HA,h,rfl⟩
    unfold rf at h
    refine ab.cut (fun aL=>∃ (vL:Bk) (jJ:List Int),ow n7 jJ=some z1∧aL=⟨51,[(2,.str ar),(3,I aI),(4,.ptr b1 0),(9,.sl 1 vL 0 jJ.length),(12,lB aj),(13,I (aj.length:Int)),(14,I n7)],[(b1,.cells (w6 aa)),(vL,vf jJ)]⟩) ?_ ?_
    ·refine cB h J (fun h=>?_) (fun h=>?_)
     ·exact tR<|rM J J<|rF J J J<|rL J J .p2 J J<|aQ (xs:=([v9.Value]:List Int).map I) J J J J J J<|aF h fun tL e2 h=>cA (g:=I) J J J J J J J J (.list _) e2 (fun _=>.p1) J fun w9=>rA J J<|rN<|ab.stop<|ak.lq [0,0] ⟨w9,tL,h,J⟩ J J
     ·exact tK<|ab.stop<|ak.lq [0,0] ⟨b5,l6,h,J⟩ J J
    ·rintro aL ⟨vL,jJ,h,rfl⟩
     unfold ow at h
     refine ab.cd<|tR<|ai.qv (a8 J J) J<|rM J J<|rN<|ab.stop<|?_
     cases h
     exact im _ _ J<|ak.lq [0,0] ⟨vL,J⟩ J J
  ·refine ab.exit J<|have h:=cr h fw;aN<|rM J J<|rA J J<|rN<|ab.ret<|?_
   cases h
   exact hH J [1] J ⟨b5,J,J⟩
theorem xF [GI:bI] {aa:List Int} {r:Int} (h:jV aa=some r):Pu Tryz.prog 333 [nu aa] (I r):=by
 unfold jV at h
 refine aM.bt Tryz.func333 J Tryz.ntmps333 Tryz.results333 J J ?_
 refine aN<|rA J J<|rN<|tS<|aN<|rM J J<|ai.qv (db J) J<|ai.qv (bB J J) J<|rN<|cD h J (fun h=>?_) (fun h=>?_)
 ·refine tR<|?_
  cases h
 ·refine tK<|aN<|rM J J<|aF h fun v1 e1 h=>ai.qv (bz J J J e1 J J) J<|ai.qv (aW J J J) J<|rA J J<|rN<|tS<|aN<|rA J J<|rN<|ab.block<|ab.bV (fun x:Int×Int=>fM aa x.1 x.2) (fun x aL=>aL=⟨25,[(0,nu aa),(3,I x.1),(4,I x.2)],[]⟩) h ?_ ?_
  ·exact ak.lq [] J J J
  ·intro x z1 aL J1 cT h im fw
   obtain ⟨n4,n5⟩:=x
   obtain rfl:=cT
   replace h:fM aa n4 n5=some z1:=h
   unfold fM at h
   refine tS<|aN<|rM J J<|rM J J<|ai.qv (db J) J<|ai.qv (bB J J) J<|rN<|cD h J (fun h=>?_) (fun h=>?_)
   ·refine tK<|tS<|ab.block<|tR<|rM J J<|rM J J<|rM J J<|aF h fun v6 e2 h=>ai.qv (bz J J J e2 J J) J<|ai.qv (aW J J J) J<|ai.qv (zJ J J) J<|rA J J<|rN<|ab.cd<|tR<|rM J J<|ai.qv (a8 J J) J<|rA J J<|rN<|ab.stop<|?_
    cases h
    exact im _ _ J<|ak.lq [] J J J
   ·refine ab.exit J<|have h:=cr h fw;aN<|rM J J<|rA J J<|rN<|ab.ret<|?_
    cases h
    exact hP J J
theorem xG [GI:bI] {aa:List Int} {r:Int} (h:jW aa=some r):Pu Tryz.prog 334 [nu aa] (I r):=by
 unfold jW at h
 refine aM.bt Tryz.func334 J Tryz.ntmps334 Tryz.results334 J J ?_
 refine aN<|rA J J<|rN<|tS<|aN<|rM J J<|ai.qv (db J) J<|ai.qv (bB J J) J<|rN<|cD h J (fun h=>?_) (fun h=>?_)
 ·refine tR<|?_
  cases h
 ·refine tK<|aN<|rM J J<|aF h fun v1 e1 h=>ai.qv (bz J J J e1 J J) J<|ai.qv (aW J J J) J<|rA J J<|rN<|tS<|aN<|rA J J<|rN<|ab.block<|ab.bV (fun x:Int×Int=>fN aa x.1 x.2) (fun x aL=>aL=⟨25,[(0,nu aa),(3,I x.1),(4,I x.2)],[]⟩) h ?_ ?_
  ·exact ak.lq [] J J J
  ·intro x z1 aL J1 cT h im fw
   obtain ⟨n4,n5⟩:=x
   obtain rfl:=cT
   replace h:fN aa n4 n5=some z1:=h
   unfold fN at h
   refine tS<|aN<|rM J J<|rM J J<|ai.qv (db J) J<|ai.qv (bB J J) J<|rN<|cD h J (fun h=>?_) (fun h=>?_)
   ·refine tK<|tS<|ab.block<|tR<|rM J J<|rM J J<|rM J J<|aF h fun v6 e2 h=>ai.qv (bz J J J e2 J J) J<|ai.qv (aW J J J) J<|ai.qv (zI J J) J<|rA J J<|rN<|ab.cd<|tR<|rM J J<|ai.qv (a8 J J) J<|rA J J<|rN<|ab.stop<|?_
    cases h
    exact im _ _ J<|ak.lq [] J J J
   ·refine ab.exit J<|have h:=cr h fw;aN<|rM J J<|rA J J<|rN<|ab.ret<|?_
    cases h
    exact hP J J
theorem DY [GI:bI] {aa:Int} {aj:Int} {r:Fraction} (h:pR aa aj=some r):Pu Tryz.prog 106 [I aa,I aj] (Fraction.av r):=by
 unfold pR at h
 refine aM.bt Tryz.func106 J Tryz.ntmps106 Tryz.results106 J J ?_
 refine aN<|bH J J J J fun b1=>rN<|aN<|rM J J<|rM J J<|ai.qv (y9 J) J<|ai.qv (zI J J) J<|rM J J<|rA J J<|rA J J<|rN<|tS<|ab.block<|ab.bV (fun x:Int×Int=>rZ aa aj x.1 x.2) (fun x aL=>aL=⟨25,[(0,I aa),(1,I aj),(4,.ptr b1 0),(5,I x.1),(6,I x.2)],[(b1,.cells [I (0:Int),I (0:Int)])]⟩) h ?_ ?_
 ·exact ak.lq [0] J J J
 ·intro x z1 aL J1 cT h im fw
  obtain ⟨n4,n5⟩:=x
  obtain rfl:=cT
  replace h:rZ aa aj n4 n5=some z1:=h
  unfold rZ at h
  refine tS<|aN<|rM J J<|ai.qv (jl J J) J<|rN<|cD h J (fun h=>?_) (fun h=>?_)
  ·refine tK<|ab.block<|ab.bM (id:=3) (A:=[0,0,0,6,3,31]) 6 mixed J (by kernel_rfl) (by kernel_rfl)<|AM.qv (ay J) J<|AM.qv (ay J) J<|AM.qv (ay J) J<|aF h fun n6 e1 h=>AM.qv (Gn J J e1) J<|AM.qv (bY J) J<|AM.qv (bY J) J<|AM.nil<|rN<|ab.cd<|ab.stop<|?_
   cases h
   exact im _ _ J<|ak.lq [0] J J J
  ·refine ab.exit J<|have h:=cr h fw;?_
   unfold rW at h
   refine tS<|ab.bM (id:=4) (A:=[0,0,3,0,0,24,63,127]) 7 mixed J (by kernel_rfl) (by kernel_rfl)<|AM.qv (ay J) J<|AM.qv (ay J) J<|aF h fun n7 e2 h=>AM.qv (Dx J J e2) J<|AM.qv (ay J) J<|AM.qv (ay J) J<|aF h fun n8 e3 h=>AM.qv (Dx J J e3) J<|AM.qv (cq J J J J J) J<|AM.nil<|aD J J J J .p0 J J<|rN<|ab.ret<|?_
   cases h
   exact ak.here ⟨_,.cons (.all _ _ _ _ _ _ J .p0 aR.h bf.h J J) .nil,J⟩
theorem IN [GI:bI] {aa:aG} {aj:List ao} {ar:aO} {aI:Int} {r:Fraction×Bool} (h:vy aa aj ar aI=some r):Pu Tryz.prog 278 [aG.av aa,lB aj,.str ar,I aI] (.lA [Fraction.av r.1,.bool r.2]):=by
 unfold vy at h
 refine aM.bt Tryz.func278 J Tryz.ntmps278 Tryz.results278 J J ?_
 refine aN<|df J J J J fun b1=>bH J J J J fun b2=>rA J J<|rN<|aN<|ai.qv (aA J J .p1 J) J<|rM J J<|rM J J<|rM J J<|aF h fun v3 e1 h=>eM J (GL e1) cR .nil (fun _=>J) J fun b4=>rA J J<|rN<|aN<|rM J J<|ai.qv (cE J) J<|rA J J<|rN<|tS<|aN<|rF J J J<|rL J J .p2 J J<|ai.qv (dw J J) J<|rN<|cD h J (fun h=>?_) (fun h=>?_)
 ·refine aN<|rM J J<|ai.qv (cq J J J J J) J<|aD J J J J .p1 J J<|rA J J<|rN<|ab.ret<|?_
  cases h
  exact ak.here ⟨_,.cons (.all _ _ _ _ _ _ J .p1 aR.h bf.h J J) (.cons (.tmp _ _ J) .nil),J⟩
 ·refine tK<|tS<|aN<|rM J J<|ai.qv (dw J J) J<|rN<|cD h J (fun h=>?_) (fun h=>?_)
  ·refine aN<|ai.qv (cq J J J J J) J<|aD J J J J .p1 J J<|rA J J<|rN<|ab.ret<|?_
   cases h
   exact ak.here ⟨_,.cons (.all _ _ _ _ _ _ J .p1 aR.h bf.h J J) (.cons (.tmp _ _ J) .nil),J⟩
  ·refine tK<|tS<|aN<|rF J J J<|rL J J .p2 J J<|rN<|ab.block<|aN<|ai.qv (dw J J) J<|rA J J<|rN<|cD h J (fun h=>?_) (fun h=>?_)
   ·refine aN<|rM J J<|aF h fun v5 e2 h=>lY J (xF e2) (.cons (pj.gq .p0) .nil) J J<|ai.qv (cq J J J J J) J<|aD J J J J .p1 J J<|rA J J<|rN<|ab.ret<|?_
    cases h
    exact ak.here ⟨_,.cons (.all _ _ _ _ _ _ J .p1 aR.h bf.h J J) (.cons (.tmp _ _ J) .nil),J⟩
   ·refine aN<|ai.qv (dw J J) J<|rA J J<|rN<|cD h J (fun h=>?_) (fun h=>?_)
    ·refine aN<|rM J J<|aF h fun v6 e3 h=>lY J (xG e3) (.cons (pj.gq .p0) .nil) J J<|ai.qv (cq J J J J J) J<|aD J J J J .p1 J J<|rA J J<|rN<|ab.ret<|?_
     cases h
     exact ak.here ⟨_,.cons (.all _ _ _ _ _ _ J .p1 aR.h bf.h J J) (.cons (.tmp _ _ J) .nil),J⟩
    ·refine aN<|ai.qv (dw J J) J<|rA J J<|rN<|cD h J (fun h=>?_) (fun h=>?_)
     ·refine aN<|rA J J<|rN<|tS<|aN<|rM J J<|ai.qv (cE J) J<|rM J J<|rN<|ab.block<|ab.bV (fun x:Int×Int=>nG v3 x.1 x.2) (fun x aL=>aL=⟨75,[(8,.ptr b2 0),(11,I (v3.length:Int)),(12,I x.1),(44,.sl 1 b4 0 v3.length),(45,I (v3.length:Int)),(46,I x.2)],[(b2,.cells [I (0:Int),I (0:Int)]),(b4,vf v3)]⟩) h ?_ ?_
      ·exact ak.lq [1,0] J J J
      ·intro x z1 aL J1 cT h im fw
       obtain ⟨n9,n10⟩:=x
       obtain rfl:=cT
       replace h:nG v3 n9 n10=some z1:=h
       unfold nG at h
       refine aN<|ai.qv (bB J J) J<|rN<|tS<|cD h J (fun h=>?_) (fun h=>?_)
       ·refine tK<|tS<|ab.block<|aN<|aF h fun v11 e4 h=>ai.qv (aV J J J e4) J<|ai.qv (bg (g:=I) J J (.inl .p1) e4 J) J<|rA J J<|rN<|tR<|rM J J<|rM J J<|ai.qv (a8 J J) J<|rA J J<|rN<|ab.cd<|tR<|ai.qv (a8 J J) J<|rM J J<|rN<|ab.stop<|?_
        cases h
        exact im _ _ J<|ak.lq [0,0] J J J
       ·refine ab.exit J<|have h:=cr h fw;?_
        unfold sZ at h
        refine aN<|rM J J<|rM J J<|aF h fun v12 e5 h=>bb J (DY e5) cR J<|aD J J J J .p0 J J<|rA J J<|rN<|ab.ret<|?_
        cases h
        exact ak.here ⟨_,.cons (.all _ _ _ _ _ _ J .p0 aR.h bf.h J J) (.cons (.tmp _ _ J) .nil),J⟩
     ·refine aN<|ai.qv (dw J J) J<|rA J J<|rN<|cD h J (fun h=>?_) (fun h=>?_)
      ·refine tS<|ab.bM (id:=21) (A:=[0,0,2,7,15,0,32,96,255,511,1023,2047]) 10 mixed J (by kernel_rfl) (by kernel_rfl)<|AM.qv (ay J) J<|AM.qv (ay J) J<|AM.qv (bT J J) J<|aF h fun k9 e6 h=>AM.qv (aV J J J e6) J<|AM.qv (bg (g:=I) J J (.inl .p0) e6 J) J<|AM.qv (ay J) J<|aF h fun nz e7 h=>AM.qv (aV J J J e7) J<|AM.qv (bg (g:=I) J J (.inl .p0) e7 J) J<|AM.qv (bT J J) J<|AM.qv (cq J J J J J) J<|AM.nil<|aD J J J J .p1 J J<|rA J J<|rN<|ab.ret<|?_
       cases h
       exact ak.here ⟨_,.cons (.all _ _ _ _ _ _ J .p1 aR.h bf.h J J) (.cons (.tmp _ _ J) .nil),J⟩
      ·refine tK<|ab.cd<|aN<|rM J J<|rM J J<|ai.qv (bT J J) J<|aF h fun mM e8 h=>ai.qv (aV J J J e8) J<|ai.qv (bg (g:=I) J J (.inl .p0) e8 J) J<|ai.qv (cq J J J J J) J<|aD J J J J .p1 J J<|rA J J<|rN<|ab.ret<|?_
       cases h
       exact ak.here ⟨_,.cons (.all _ _ _ _ _ _ J .p1 aR.h bf.h J J) (.cons (.tmp _ _ J) .nil),J⟩
theorem IP [GI:bI] {aa:aG} {aj:List ao} {ar:aO} {aI:Int} {r:Int} (h:vz aa aj ar aI=some r):Pu Tryz.prog 221 [aG.av aa,lB aj,.str ar,I aI] (I r):=by
 unfold vz at h
 refine aM.bt Tryz.func221 J Tryz.ntmps221 Tryz.results221 J J ?_
 refine aN<|df J J J J fun b1=>rA J J<|rN<|aN<|ai.qv (aA J J .p0 J) J<|rM J J<|rM J J<|rM J J<|aF h fun v2 e1 h=>bb J (IN e1) cR J<|rM J J<|rX J J J<|rX J J J<|bH J J J J fun b3=>aD J J J J .p0 J J<|rA J J<|rN<|tS<|aN<|rM J J<|ai.qv (cL J) J<|rN<|cB h J (fun h=>?_) (fun h=>?_)
 ·refine aN<|aQ (xs:=([(0:Int),(2:Int),(1:Int)]).map I) J J J J J J<|rF J J J<|rL J J .p1 J J<|aF h fun v4 e2 h=>ai.qv (bz J J J e2 J J) J<|ai.qv (aW J J J) J<|rA J J<|rN<|ab.ret<|?_
  cases h
  exact hP J J
 ·refine tK<|tS<|ab.bM (id:=4) (A:=[0,1,0,4,0,16,60,127,0,256,0,1024,0,4096,15360,32767,65535,131071]) 18 mixed J (by kernel_rfl) (by kernel_rfl)<|AM.qv (aC J J) J<|AM.qv (aJ J J .p0 J) J<|AM.qv (aC J J) J<|AM.qv (aJ J J .p1 J) J<|AM.qv (aC J J) J<|AM.qv (aJ J J .p0 J) J<|AM.qv (u4 J J) J<|AM.gQ J (fK J) cR J<|AM.qv (aC J J) J<|AM.qv (aJ J J .p0 J) J<|AM.qv (aC J J) J<|AM.qv (aJ J J .p1 J) J<|AM.qv (aC J J) J<|AM.qv (aJ J J .p0 J) J<|AM.qv (u4 J J) J<|AM.gQ J (fK J) cR J<|AM.qv (bY J) J<|AM.qv (bY J) J<|AM.nil<|rN<|tS<|aN<|rF J J J<|rL J J .p1 J J<|ai.qv (cL J) J<|rN<|ab.cut (fun aL=>∃ (n5:Int) (n6:Int),pS n5 n6=some r∧aL=⟨57,[(11,I n5),(12,I n6)],[]⟩) ?_ ?_
  ·refine cB h J (fun h=>?_) (fun h=>?_)
   ·exact tR<|rM J J<|ai.qv (y9 J) J<|rM J J<|ai.qv (y9 J) J<|rA J J<|rA J J<|rN<|ab.stop<|ak.lq [] ⟨aU (-(cmp_Compare_int v2.1.Mi (aU (aa.On * v2.1.Den)))),aU (-(cmp_Compare_int v2.1.Mi (aU (aa.eJ * v2.1.Den)))),h,J⟩ J J
   ·exact tK<|ab.stop<|ak.lq [] ⟨(cmp_Compare_int v2.1.Mi (aU (aa.On * v2.1.Den))),(cmp_Compare_int v2.1.Mi (aU (aa.eJ * v2.1.Den))),h,J⟩ J J
  ·rintro aL ⟨n5,n6,h,rfl⟩
   unfold pS at h
   refine tS<|ab.block<|aN<|rM J J<|ai.qv (rD J J) J<|rA J J<|rN<|cD h J (fun h=>?_) (fun h=>?_)
   ·refine aN<|rA J J<|rN<|ab.ret<|?_
    cases h
    exact hP J J
   ·refine aN<|rM J J<|ai.qv (bB J J) J<|rA J J<|rN<|cD h J (fun h=>?_) (fun h=>?_)
    ·refine aN<|rA J J<|rN<|ab.ret<|?_
     cases h
     exact hP J J
    ·refine tK<|ab.cd<|aN<|rA J J<|rN<|ab.ret<|?_
     cases h
     exact hP J J
theorem J9 [GI:bI] {aa:aG} {aj:List ao} {ar:aO} {r:(List aX)} (h:xz aa aj ar=some r):aM Tryz.prog 165 [aG.av aa,lB aj,.str ar] [] (T1 (fun gr=>[(gr,Mo r)]) (fun gr=>.sl 3 gr 0 r.length)):=by
 unfold xz at h
 refine aM.dx ?_
 refine aM.bt Tryz.func165 J Tryz.ntmps165 Tryz.results165 J J ?_
 refine aN<|df J J J J fun b1=>rA J J<|rN<|aN<|sX J J J J J J fun b2=>rA J J<|rN<|tS<|aN<|rM J J<|ai.qv (db J) J<|rM J J<|rN<|ab.block<|ab.bV (fun x:(List Int)×Int=>jz aa aj ar x.1 x.2) (fun x aL=>∃ (b6:Bk),aL=⟨100,[(1,lB aj),(2,.str ar),(3,.ptr b1 0),(7,.sl 1 b6 0 x.1.length),(15,lB aj),(16,I (aj.length:Int)),(17,I x.2)],[(b1,.cells (w6 aa)),(b6,vf x.1)]⟩) h ?_ ?_
 ·exact ak.lq [1,0] ⟨b2,J⟩ J J
 ·intro x z1 aL J1 cT h im fw
  obtain ⟨l7,n8⟩:=x
  obtain ⟨b6,rfl⟩:=cT
  replace h:jz aa aj ar l7 n8=some z1:=h
  unfold jz at h
  refine aN<|ai.qv (bB J J) J<|rN<|tS<|cD h J (fun h=>?_) (fun h=>?_)
  ·refine tK<|tS<|ab.block<|aN<|aF h fun v9 e1 h=>ai.qv (bz J J J e1 J J) J<|ai.qv (bu J J J) J<|bH J J J J fun ja=>aD J J J J .p0 J J<|rN<|tS<|ab.cut (fun aL=>∃ (HA:Bool),uK aa l7 n8 v9 HA=some z1∧aL=⟨100,[(1,lB aj),(2,.str ar),(3,.ptr b1 0),(7,.sl 1 b6 0 l7.length),(9,.ptr ja 0),(15,lB aj),(16,I (aj.length:Int)),(17,I n8),(31,.bool HA)],[(b1,.cells (w6 aa)),(b6,vf l7),(ja,.cells (Oq v9))]⟩) ?_ ?_
   ·refine tR<|rF J J J<|rL J J .p0 J J<|rM J J<|ai.qv (nN J J) J<|rM J J<|ai.ct J J J (fun hc=>?_) (fun hc=>?_)
    ·rw [tG hc] at h
     exact rF J J J<|rY J J J<|rL J J .p0 J J<|rY J J J<|rF J J J<|rY J J J<|rL J J .p1 J J<|rY J J J<|ai.qv (nN J J) J<|rT J J J<|rN<|ab.stop<|ak.lq [1,1,0] ⟨decide (v9.ax=aa.ax),h,J⟩ J J
    ·rw [tH hc] at h
     exact rG J J J J<|rG J J J J<|rG J J J J<|rG J J J J<|rE J J J<|rN<|ab.stop<|ak.lq [1,1,0] ⟨false,h,J⟩ J J
   ·rintro aL ⟨HA,h,rfl⟩
    unfold uK at h
    refine ab.cut (fun aL=>∃ (vL:Bk) (jJ:List Int),sa n8 jJ=some z1∧aL=⟨100,[(1,lB aj),(2,.str ar),(3,.ptr b1 0),(7,.sl 1 vL 0 jJ.length),(15,lB aj),(16,I (aj.length:Int)),(17,I n8)],[(b1,.cells (w6 aa)),(vL,vf jJ)]⟩) ?_ ?_
    ·refine cB h J (fun h=>?_) (fun h=>?_)
     ·exact tR<|rM J J<|rF J J J<|rL J J .p2 J J<|rF J J J<|rL J J .p2 J J<|rF J J J<|rL J J .p0 J J<|ai.qv (a8 J J) J<|ai.qv (zJ J J) J<|aQ (xs:=([v9.At,min (aU (v9.At+aa.bh)) (345686400000:Int)]).map I) J J J J J J<|aF h fun tL e2 h=>cA (g:=I) J J J J J J J J (.list _) e2 (fun _=>.p1) J fun w9=>rA J J<|rN<|ab.stop<|ak.lq [0,0] ⟨w9,tL,h,J⟩ J J
     ·exact tK<|ab.stop<|ak.lq [0,0] ⟨b6,l7,h,J⟩ J J
    ·rintro aL ⟨vL,jJ,h,rfl⟩
     unfold sa at h
     refine ab.cd<|tR<|ai.qv (a8 J J) J<|rM J J<|rN<|ab.stop<|?_
     cases h
     exact im _ _ J<|ak.lq [0,0] ⟨vL,J⟩ J J
  ·refine ab.exit J<|have h:=cr h fw;?_
   unfold sb at h
   refine aN<|rM J J<|aF h fun gx e3 h=>bd J (qF (gl e3)) cR (.cons .p1 .nil) J J<|ai.ghost<|ak.eqs (s:=7) (dF:=.sl 1 b6 0 gx.length) J (congrArg (AV.sl 1 b6 0) (bO e3))<|ak.here<|ai.ghost<|ak.eqs (s:=44) (dF:=.sl 1 b6 0 gx.length) J (congrArg (AV.sl 1 b6 0) (bO e3))<|ak.here<|rN<|aN<|rM J J<|aF h fun v17 e4 h=>eM J (oG e4) cR (.cons .p0 .nil) (fun _=>J) J fun uS=>rA J J<|rN<|aN<|rA J J<|rN<|tS<|aN<|rM J J<|ai.qv (cE J) J<|ai.qv (bT J J) J<|rM J J<|rN<|ab.block<|ab.bV (fun x:(List aX)×Int=>nn aa aj ar v17 x.1 x.2) (fun x aL=>∃ (uO:Bk),aL=⟨100,[(1,lB aj),(2,.str ar),(3,.ptr b1 0),(7,.sl 1 uS 0 v17.length),(10,.sl 3 uO 0 x.1.length),(50,I (aU ((v17.length:Int) - (1:Int)))),(51,I x.2)],[(b1,.cells (w6 aa)),(uS,vf v17),(uO,Mo x.1)]⟩) h ?_ ?_
   ·exact ak.arr (s:=10) 3 J fun OA=>ak.lq [2,1,0] ⟨OA,J⟩ J J
   ·intro x z2 aL J2 cT h wb wR
    obtain ⟨od,n24⟩:=x
    obtain ⟨uO,rfl⟩:=cT
    replace h:nn aa aj ar v17 od n24=some z2:=h
    unfold nn at h
    refine aN<|ai.qv (bB J J) J<|rN<|tS<|cD h J (fun h=>?_) (fun h=>?_)
    ·refine tK<|tS<|ab.block<|aN<|rM J J<|rA J J<|rN<|tS<|aF h fun v26 e5 h=>aF h fun cx e6 h=>aF h fun v28 e7 h=>aF h fun pn e8 h=>ab.gj (id:=14) (A:=[0,0,3,7,0,0,32,112,240,0,0,0,0,0,12288,28672,65024,131071,0,524287]) (H0:=[]) (HH:=fun β=>[((β 18),.cells [I (0:Int),I (0:Int),I (0:Int)]),(b1,.cells (w6 aa)),(uS,vf v17),(uO,Mo od)]) 19 mixed J (by kernel_rfl) (by kernel_rfl) [⟨some 18,none,[],fun b=>(b,.cells [I (0:Int),I (0:Int),I (0:Int)]),none,[]⟩] [18] J (by kernel_rfl) J .nil (fun _=>J)<|AT.am 18 J J<|AM.qv (ay J) J<|AM.qv (ay J) J<|AM.qv (aV J J J e5) J<|AM.qv (bg (g:=I) J J (.inl .p1) e5 J) J<|AM.qv (ay J) J<|AM.qv (ay J) J<|AM.qv (a8 J J) J<|AM.qv (aV J J J e6) J<|AM.qv (bg (g:=I) J J (.inl .p1) e6 J) J<|AM.qv (aA J J .p0 J) J<|AM.qv (ay J) J<|AM.qv (ay J) J<|AM.qv (ay J) J<|AM.qv (ay J) J<|AM.qv (aV J J J e7) J<|AM.qv (bg (g:=I) J J (.inl .p1) e7 J) J<|AM.gQ J (IP e8) cR J<|AM.qv (cq J J J J J) J<|AM.nil<|AT.yq (V:=fun b=>.ptr b 0) (Ti:=[]) (Pi:=fun b=>[(b,.cells [I (0:Int),I (0:Int),I (0:Int)])]) (fun _=>J) (fun _=>J) (fun _ _=>J) J (fun _=>J) J J J ?_ ?_
     ·exact bH J J J J fun Mr=>ai.nil ⟨Mr,_,J,J⟩
     refine AT.sY (fun _=>J) fun β=>?_
     generalize β 18=Mr
     clear β
     refine aD J J J J .p0 J J<|rN<|aN<|rM J J<|ai.qv (cE J) J<|rA J J<|rN<|tS<|ab.cut (fun aL=>∃ (c31:Bool),lC od n24 v26 cx pn c31=some z2∧aL=⟨100,[(1,lB aj),(2,.str ar),(3,.ptr b1 0),(7,.sl 1 uS 0 v17.length),(10,.sl 3 uO 0 od.length),(12,.ptr Mr 0),(13,I (od.length:Int)),(50,I (aU ((v17.length:Int) - (1:Int)))),(51,I n24),(86,.bool c31)],[(b1,.cells (w6 aa)),(uS,vf v17),(uO,Mo od),(Mr,.cells [I v26,I cx,I pn])]⟩) ?_ ?_
     ·refine ab.bM (id:=16) (A:=[0,1,3,7,7,23,63,127,255,7,519,2047,4095]) 13 mixed J (by kernel_rfl) (by kernel_rfl)<|AM.qv (ay J) J<|AM.qv (jl J J) J<|AM.qv (ay J) J<|AM.ct J J J (fun hc=>?_) (fun hc=>?_)
      ·exact have h:=sC hc h;AM.qv (ay J) J<|AM.aB J J J<|AM.qv (ay J) J<|AM.aB J J J<|AM.qv (bT J J) J<|AM.aB J J J<|aF h fun v32 e9 h=>AM.qv (aV J J J e9) J<|AM.aB J J J<|AM.qv (bC J J) J<|AM.aB J J J<|AM.qv (bg (g:=aX.av) J J (.inl .p3) e9 J) J<|AM.aB J J J<|AM.qv (aC J J) J<|AM.aB J J J<|AM.qv (aJ J J .p0 J) J<|AM.aB J J J<|AM.qv (dw J J) J<|AM.qv (il J J) J<|AM.nil<|rN<|ab.stop<|ak.lq [1,1,1,0] ⟨decide (v32.bF=pn),h,J⟩ J J
      ·exact have h:=vq hc h;AM.az J J J J<|AM.az J J J J<|AM.az J J J J<|AM.az J J J J<|AM.az J J J J<|AM.az J J J J<|AM.az J J J J<|AM.az J J J J<|AM.qv (dR J J) J<|AM.nil<|rN<|ab.stop<|ak.lq [1,1,1,0] ⟨false,h,J⟩ J J
     ·rintro aL ⟨c31,h,rfl⟩
      unfold lC at h
      refine ab.cut (fun aL=>∃ (K5:Bk) (GF:List aX),pd n24 GF=some z2∧aL=⟨100,[(1,lB aj),(2,.str ar),(3,.ptr b1 0),(7,.sl 1 uS 0 v17.length),(10,.sl 3 K5 0 GF.length),(50,I (aU ((v17.length:Int) - (1:Int)))),(51,I n24)],[(b1,.cells (w6 aa)),(uS,vf v17),(K5,Mo GF)]⟩) ?_ ?_
      ·refine cB h J (fun h=>?_) (fun h=>?_)
       ·exact tR<|rM J J<|rM J J<|ai.qv (bT J J) J<|rF J J J<|rL J J .p3 J J<|aF h fun v35 Ba h=>ai.qv (aV J J J Ba) J<|ai.qv (bC J J) J<|bX (g:=aX.av) (za:=(⟨v35.from_,cx,v35.bF⟩:aX)) J J J J Ba J .p2 J<|ai.ghost<|ak.eqs (s:=10) (dF:=.sl 3 uO 0 (od.set (aU ((od.length:Int) - (1:Int))).toNat (⟨v35.from_,cx,v35.bF⟩:aX)).length) J (by rw [List.length_set])<|ak.here<|ai.ghost<|ak.eqs (s:=87) (dF:=.sl 3 uO 0 (od.set (aU ((od.length:Int) - (1:Int))).toNat (⟨v35.from_,cx,v35.bF⟩:aX)).length) J (by rw [List.length_set])<|ak.here<|rN<|ab.stop<|ak.lq [0,0,0] ⟨uO,od.set (aU ((od.length:Int) - (1:Int))).toNat (⟨v35.from_,cx,v35.bF⟩:aX),h,J⟩ J J
       ·exact tR<|rM J J<|ai.qv (aA J J .p3 J) J<|aQ (xs:=([(⟨v26,cx,pn⟩:aX)]).map aX.av) J J J J J J<|aF h fun M6 HB h=>cA (g:=aX.av) J J J J J J J J (.list _) HB (fun _=>.p2) J fun ZM=>rA J J<|rN<|ab.stop<|ak.lq [0,0,0] ⟨ZM,M6,h,J⟩ J J
      ·rintro aL ⟨K5,GF,h,rfl⟩
       unfold pd at h
       refine ab.cd<|tR<|ai.qv (a8 J J) J<|rM J J<|rN<|ab.stop<|?_
       cases h
       exact wb _ _ J<|ak.lq [0,0,0] ⟨K5,J⟩ J J
    ·refine ab.exit J<|have h:=cr h wR;aN<|rM J J<|rA J J<|rN<|ab.ret<|?_
     cases h
     exact hH J [2] J ⟨uO,J,J⟩
theorem xH [GI:bI] {aa:Int} {aj:Int} {ar:Int} {aI:List aX} {r:Int×Bool} (h:nH aa aj ar aI=some r):Pu Tryz.prog 166 [I aa,I aj,I ar,.bJ [TL aI]] (.lA [I r.1,.bool r.2]):=by
 unfold nH at h
 refine aM.bt Tryz.func166 J Tryz.ntmps166 Tryz.results166 J J ?_
 refine aN<|rA J J<|rA J J<|rN<|tS<|aN<|ai.qv (aW J J J) J<|ai.qv (db J) J<|rM J J<|rN<|ab.block<|ab.bV (fun x:Int=>jk aa aj ar aI x) (fun x aL=>aL=⟨38,[(0,I aa),(1,I aj),(2,I ar),(12,TL aI),(13,I (aI.length:Int)),(14,I x)],[]⟩) h ?_ ?_
 ·exact ak.lq [] J J J
 ·intro n2 z1 aL J1 cT h im fw
  obtain rfl:=cT
  replace h:jk aa aj ar aI n2=some z1:=h
  unfold jk at h
  refine aN<|ai.qv (bB J J) J<|rN<|tS<|cD h J (fun h=>?_) (fun h=>?_)
  ·refine tK<|tS<|ab.block<|aN<|aF h fun v3 e1 h=>ai.qv (bz J J J e1 J J) J<|ai.qv (bu J J J) J<|bH J J J J fun b4=>aD J J J J .p0 J J<|rN<|aN<|rF J J J<|rL J J .p0 J J<|rM J J<|ai.qv (zI J J) J<|rA J J<|rN<|tS<|ab.cut (fun aL=>∃ (c5:Bool),oP aa ar n2 v3 c5=some z1∧aL=⟨38,[(0,I aa),(1,I aj),(2,I ar),(11,I (max v3.from_ aa)),(12,TL aI),(13,I (aI.length:Int)),(14,I n2),(33,.bool c5)],[]⟩) ?_ ?_
   ·refine tR<|rF J J J<|rL J J .p0 J J<|rM J J<|ai.qv (dw J J) J<|rM J J<|ai.ct J J J (fun hc=>?_) (fun hc=>?_)
    ·rw [tG hc] at h
     exact rM J J<|rY J J J<|rM J J<|rY J J J<|ai.qv (a8 J J) J<|rY J J J<|rF J J J<|rY J J J<|rL J J .p0 J J<|rY J J J<|ai.qv (bB J J) J<|rT J J J<|rN<|ab.stop<|ak.lq [] ⟨decide ((aU ((max v3.from_ aa)+ar)) < v3.EO),h,J⟩ J J
    ·rw [tH hc] at h
     exact rG J J J J<|rG J J J J<|rG J J J J<|rG J J J J<|rG J J J J<|rE J J J<|rN<|ab.stop<|ak.lq [] ⟨false,h,J⟩ J J
   ·rintro aL ⟨c5,h,rfl⟩
    unfold oP at h
    refine cB h J (fun h=>?_) (fun h=>?_)
    ·refine aN<|rM J J<|rM J J<|ai.qv (a8 J J) J<|rA J J<|rA J J<|rN<|ab.ret<|have h:=cr h fw;?_
     cases h
     exact hQ J J J
    ·refine tK<|ab.cd<|tR<|ai.qv (a8 J J) J<|rM J J<|rN<|ab.stop<|?_
     cases h
     exact im _ _ J<|ak.lq [] J J J
  ·refine ab.exit J<|have h:=cr h fw;aN<|rA J J<|rA J J<|rN<|ab.ret<|?_
   cases h
   exact hQ J J J
theorem xI [GI:bI] {aa:aG} {aj:List ao} {ar:aO} {r:(List aE)} (h:pe aa aj ar=some r):aM Tryz.prog 105 [aG.av aa,lB aj,.str ar] [] (T1 (fun gr=>[(gr,IJ r)]) (fun gr=>.sl 2 gr 0 r.length)):=by
 unfold pe at h
 refine aM.dx ?_
 refine aM.bt Tryz.func105 J Tryz.ntmps105 Tryz.results105 J J ?_
 refine aN<|df J J J J fun b1=>rA J J<|rN<|aN<|ai.qv (aA J J .p0 J) J<|rM J J<|rM J J<|aF h fun v2 e1 h=>eM J (J9 e1) cR .nil (fun _=>J) J fun b3=>bH J J J J fun b4=>aD J J J J .p0 J J<|rN<|aN<|ai.qv (oW J) J<|rA J J<|rN<|aN<|rA J J<|rN<|aN<|rA J J<|rN<|ab.block<|ab.bV (fun x:(List aE)×Int=>nI aa v2 x.1 x.2) (fun x aL=>∃ (b8:Bk),aL=⟨53,[(3,.ptr b1 0),(8,.func (.func 166) [.ptr b4 0]),(9,.sl 2 b8 0 x.1.length),(10,I x.2)],[(b1,.cells (w6 aa)),(b4,.cells [.sl 3 b3 0 v2.length]),(b3,Mo v2),(b8,IJ x.1)]⟩) h ?_ ?_
 ·exact ak.arr (s:=9) 2 J fun kh=>ak.lq [3,1,1,0] ⟨kh,J⟩ J J
 ·intro x z1 aL J1 cT h im fw
  obtain ⟨l9,n10⟩:=x
  obtain ⟨b8,rfl⟩:=cT
  replace h:nI aa v2 l9 n10=some z1:=h
  unfold nI at h
  refine ab.block<|aN<|rM J J<|rM J J<|rF J J J<|rL J J .p0 J J<|aF h fun v12 e2 h=>yb J J (xH e2) (.cons (.co (.refl _)) (.cons (.co (.refl _)) (.cons (.co (.refl _)) (.cons (.yn _ _ _ .p1 (.cons (pj.gq .p2) .nil)) .nil)))) J J<|rM J J<|rX J J J<|rX J J J<|rA J J<|rA J J<|rN<|tS<|aN<|rM J J<|ai.qv (cL J) J<|rN<|cB h J (fun h=>?_) (fun h=>?_)
  ·refine aN<|rM J J<|rA J J<|rN<|ab.ret<|have h:=cr h fw;?_
   cases h
   exact hH J [3] J ⟨b8,J,J⟩
  ·refine tK<|aN<|rM J J<|rM J J<|rF J J J<|rL J J .p0 J J<|aF h fun k9 e3 h=>yb J J (xH e3) (.cons (.co (.refl _)) (.cons (.co (.refl _)) (.cons (.co (.refl _)) (.cons (.yn _ _ _ .p1 (.cons (pj.gq .p2) .nil)) .nil)))) J J<|rM J J<|rX J J J<|rX J J J<|rA J J<|rA J J<|rN<|tS<|aN<|rM J J<|ai.qv (cL J) J<|rN<|cB h J (fun h=>?_) (fun h=>?_)
   ·refine aN<|rM J J<|rM J J<|ai.qv (cq J J J J J) J<|aQ (xs:=([(⟨v12.1,(345686400000:Int)⟩:aE)]).map aE.av) J J J J J J<|aF h fun tL e4 h=>cA (g:=aE.av) J J J J J J J J (.list _) e4 (fun _=>.p3) J fun w9=>rA J J<|rN<|ab.ret<|have h:=cr h fw;?_
    cases h
    exact hH J [3] J ⟨w9,J,J⟩
   ·refine tK<|aN<|rM J J<|rM J J<|rM J J<|ai.qv (cq J J J J J) J<|aQ (xs:=([(⟨v12.1,k9.1⟩:aE)]).map aE.av) J J J J J J<|aF h fun gm e5 h=>cA (g:=aE.av) J J J J J J J J (.list _) e5 (fun _=>.p3) J fun sS=>rA J J<|rN<|tR<|rM J J<|rA J J<|rN<|ab.cd<|ab.stop<|?_
    cases h
    exact im _ _ J<|ak.lq [0,0,0,0] ⟨sS,J⟩ J J
theorem GM [GI:bI] {aa:aE} {aj:aE} {r:aE×Bool} (h:ox aa aj=r):Pu Tryz.prog 62 [aE.av aa,aE.av aj] (.lA [aE.av r.1,.bool r.2]):=by
 unfold ox at h
 refine aM.bt Tryz.func62 J Tryz.ntmps62 Tryz.results62 J J ?_
 refine aN<|df J J J J fun b1=>df J J J J fun b2=>bH J J J J fun b3=>rA J J<|rN<|aN<|rF J J J<|rL J J .p2 J J<|rF J J J<|rL J J .p1 J J<|ai.qv (zI J J) J<|rF J J J<|rL J J .p2 J J<|rF J J J<|rL J J .p1 J J<|ai.qv (zJ J J) J<|ai.qv (cq J J J J J) J<|bH J J J J fun b4=>aD J J J J .p0 J J<|rN<|tS<|ab.gj (id:=2) (A:=[0,0,2,0,8,30,1,127]) (H0:=[(b3,.cells [I (0:Int),I (0:Int)])]) (HH:=fun β=>[(b3,.cells [I (max aa.aT aj.aT),I (min aa.To aj.To)]),(b4,.cells [I (max aa.aT aj.aT),I (min aa.To aj.To)]),(b2,.cells [I aj.aT,I aj.To]),(b1,.cells [I aa.aT,I aa.To])]) 7 mixed J (by kernel_rfl) (by kernel_rfl) [⟨none,some 6,[],fun _=>(b3,.cells [I (0:Int),I (0:Int)]),none,[]⟩,⟨some 6,none,[],fun _=>(b3,.cells [I (max aa.aT aj.aT),I (min aa.To aj.To)]),none,[]⟩] [] J (by kernel_rfl) J (.cons .p1 .nil) (fun _=>J)<|AT.am 6 J J<|AM.qv (aA J J .p0 J) J<|AM.qv (aC J J) J<|AM.qv (aJ J J .p0 J) J<|AM.qv (aC J J) J<|AM.qv (aJ J J .p0 J) J<|AM.qv (bB J J) J<|AM.nil<|AT.Gt (Ti:=[(b3,.cells [I (0:Int),I (0:Int)])]) (Pi:=[(b3,.cells [I (max aa.aT aj.aT),I (min aa.To aj.To)])]) (fun _=>J) (fun _=>J) (fun _=>J) J J ?_ ?_
 ·exact aD J J J J .p0 J J<|ai.nil ⟨_,J⟩
 refine AT.sY (fun _=>J) fun β=>rA J J<|rN<|ab.ret<|?_
 obtain rfl:=h
 exact ak.here ⟨_,.cons (.all _ _ _ _ _ _ J .p0 aR.h bf.h J J) (.cons (.tmp _ _ J) .nil),J⟩
theorem xJ [GI:bI] {aa:ah} {aj:ah} {r:Int} (h:js aa aj=some r):Pu Tryz.prog 114 [ah.av aa,ah.av aj] (I r):=by
 unfold js at h
 refine aM.bt Tryz.func114 J Tryz.ntmps114 Tryz.results114 J J ?_
 refine aN<|df J J J J fun b1=>df J J J J fun b2=>rA J J<|rN<|tS<|ab.bM (id:=1) (A:=[0,1,0,4,15,0,32,0,128,511,0,1024,0,4096,16383,32767,65535,131071]) 18 mixed J (by kernel_rfl) (by kernel_rfl)<|AM.qv (aC J J) J<|AM.qv (aJ J J .p1 J) J<|AM.qv (aC J J) J<|AM.qv (aJ J J .p0 J) J<|AM.gQ J (fK J) cR J<|AM.qv (aC J J) J<|AM.qv (aJ J J .p1 J) J<|AM.qv (aC J J) J<|AM.qv (aJ J J .p0 J) J<|AM.gQ J (ei J) cR J<|AM.qv (aC J J) J<|AM.qv (aJ J J .p1 J) J<|AM.qv (aC J J) J<|AM.qv (aJ J J .p0 J) J<|AM.gQ J (ei J) cR J<|AM.bZ (xs:=([(cmp_Compare_int aa.aT aj.aT),(Lib.compareBytes aa.Device aj.Device),(Lib.compareBytes aa.aG aj.aG)]:List Int).map I) J J J J J J<|aF h fun v3 e1 h=>AM.gQ J (qk e1) cR J<|AM.qv (bY J) J<|AM.nil<|rN<|ab.ret<|?_
 cases h
 exact hP J J
theorem wg [GI:bI] {aa:List aG} {aj:List ao} {ar:aE} {r:(List ah)} (h:np aa aj ar=some r):Pu Tryz.prog 92 [wQ aa,lB aj,aE.av ar] (uA r):=by
 unfold np at h
 refine aM.bt Tryz.func92 J Tryz.ntmps92 Tryz.results92 J J ?_
 refine aN<|df J J J J fun b1=>rA J J<|rN<|aN<|rA J J<|rN<|tS<|aN<|rM J J<|ai.qv (db J) J<|rM J J<|rN<|ab.block<|ab.bV (fun x:(List ah)×Int=>iM aa aj ar x.1 x.2) (fun x aL=>∃ (b5:Bk),aL=⟨64,[(1,lB aj),(5,.ptr b1 0),(7,.sl 4 b5 0 x.1.length),(16,wQ aa),(17,I (aa.length:Int)),(18,I x.2)],[(b1,.cells [I ar.aT,I ar.To]),(b5,dQ x.1)]⟩) h ?_ ?_
 ·exact ak.arr (s:=7) 4 J fun b8=>ak.lq [1,0] ⟨b8,J⟩ J J
 ·intro x z1 aL J1 cT h im fw
  obtain ⟨l6,n7⟩:=x
  obtain ⟨b5,rfl⟩:=cT
  replace h:iM aa aj ar l6 n7=some z1:=h
  unfold iM at h
  refine aN<|ai.qv (bB J J) J<|rN<|tS<|cD h J (fun h=>?_) (fun h=>?_)
  ·refine tK<|tS<|ab.block<|aN<|aF h fun v9 e1 h=>ai.qv (bz J J J e1 J J) J<|ai.qv (bu J J J) J<|bH J J J J fun ja=>aD J J J J .p0 J J<|rN<|aN<|rM J J<|rF J J J<|rL J J .p0 J J<|aF h fun v11 e2 h=>eM J (oF e2) cR .nil (fun _=>J) J fun vL=>ai.qv (cE J) J<|rM J J<|rN<|ab.block<|ab.bV (fun x:(List ah)×Int=>iL aj ar n7 v9 v11 x.1 x.2) (fun x aL=>∃ (A9:Bk),aL=⟨64,[(1,lB aj),(5,.ptr b1 0),(7,.sl 4 A9 0 x.1.length),(9,.ptr ja 0),(16,wQ aa),(17,I (aa.length:Int)),(18,I n7),(25,.sl 1 vL 0 v11.length),(26,I (v11.length:Int)),(27,I x.2)],[(b1,.cells [I ar.aT,I ar.To]),(A9,dQ x.1),(ja,.cells (w6 v9)),(vL,yy v11)]⟩) h ?_ ?_
   ·exact ak.lq [2,2,1,0] ⟨b5,J⟩ J J
   ·intro x z2 aL J2 cT h wb wR
    obtain ⟨xw,n18⟩:=x
    obtain ⟨A9,rfl⟩:=cT
    replace h:iL aj ar n7 v9 v11 xw n18=some z2:=h
    unfold iL at h
    refine aN<|ai.qv (bB J J) J<|rN<|tS<|cD h J (fun h=>?_) (fun h=>?_)
    ·refine tK<|tS<|ab.block<|aN<|aF h fun C0 e3 h=>ai.qv (aV J J J e3) J<|ai.qv (bg (g:=AV.str) J J (.inl .p3) e3 J) J<|rA J J<|rN<|aN<|ai.qv (aA J J .p2 J) J<|rM J J<|rM J J<|aF h fun v20 e4 h=>eM J (xI e4) cR .nil (fun _=>J) J fun OB=>ai.qv (cE J) J<|rM J J<|rN<|ab.block<|ab.bV (fun x:(List ah)×Int=>iK ar v9 n18 C0 v20 x.1 x.2) (fun x aL=>∃ (OA:Bk),aL=⟨64,[(1,lB aj),(5,.ptr b1 0),(7,.sl 4 OA 0 x.1.length),(9,.ptr ja 0),(11,.str C0),(16,wQ aa),(17,I (aa.length:Int)),(18,I n7),(25,.sl 1 vL 0 v11.length),(26,I (v11.length:Int)),(27,I n18),(34,.sl 2 OB 0 v20.length),(35,I (v20.length:Int)),(36,I x.2)],[(b1,.cells [I ar.aT,I ar.To]),(OA,dQ x.1),(ja,.cells (w6 v9)),(vL,yy v11),(OB,IJ v20)]⟩) h ?_ ?_
     ·exact ak.lq [1,1,1,1,0] ⟨A9,J⟩ J J
     ·intro x z3 aL J3 cT h IL JD
      obtain ⟨Oo,n27⟩:=x
      obtain ⟨OA,rfl⟩:=cT
      replace h:iK ar v9 n18 C0 v20 Oo n27=some z3:=h
      unfold iK at h
      refine aN<|ai.qv (bB J J) J<|rN<|tS<|cD h J (fun h=>?_) (fun h=>?_)
      ·refine tK<|tS<|ab.block<|aN<|aF h fun v28 e5 h=>ai.qv (aV J J J e5) J<|ai.qv (bw (g:=aE.av) J J (.inl .p4) J e5 J) J<|bH J J J J fun Be=>aD J J J J .p0 J J<|rN<|aN<|ai.qv (aA J J .p0 J) J<|ai.qv (aA J J .p1 J) J<|bb J (GM J) cR J<|rM J J<|rX J J J<|rX J J J<|bH J J J J fun Mr=>aD J J J J .p0 J J<|rA J J<|rN<|aN<|rM J J<|rN<|ab.cut (fun aL=>∃ (Mq:Bk) (zg:List ah),oy n27 zg=some z3∧aL=⟨64,[(1,lB aj),(5,.ptr b1 0),(7,.sl 4 Mq 0 zg.length),(9,.ptr ja 0),(11,.str C0),(16,wQ aa),(17,I (aa.length:Int)),(18,I n7),(25,.sl 1 vL 0 v11.length),(26,I (v11.length:Int)),(27,I n18),(34,.sl 2 OB 0 v20.length),(35,I (v20.length:Int)),(36,I n27)],[(b1,.cells [I ar.aT,I ar.To]),(Mq,dQ zg),(ja,.cells (w6 v9)),(vL,yy v11),(OB,IJ v20)]⟩) ?_ ?_
       ·refine cB h J (fun h=>?_) (fun h=>?_)
        ·exact tR<|rM J J<|rM J J<|rF J J J<|rL J J .p4 J J<|rF J J J<|rL J J .p0 J J<|rF J J J<|rL J J .p0 J J<|ai.qv (cq J J J J J) J<|aQ (xs:=([(⟨C0,v9.Key,((ox v28 ar).1).aT,((ox v28 ar).1).To⟩:ah)]).map ah.av) J J J J J J<|aF h fun Fx e6 h=>cA (g:=ah.av) J J J J J J J J (.list _) e6 (fun _=>.p3) J fun K7=>rA J J<|rN<|ab.stop<|ak.lq [2,2,2,2,2] ⟨K7,Fx,h,J⟩ J J
        ·exact tK<|ab.stop<|ak.lq [2,2,2,2,2] ⟨OA,Oo,h,J⟩ J J
       ·rintro aL ⟨Mq,zg,h,rfl⟩
        unfold oy at h
        refine ab.cd<|tR<|ai.qv (a8 J J) J<|rM J J<|rN<|ab.stop<|?_
        cases h
        exact IL _ _ J<|ak.lq [0,0,0,0,0] ⟨Mq,J⟩ J J
      ·refine ab.exit J<|have h:=cr h JD;ab.cd<|tR<|ai.qv (a8 J J) J<|rM J J<|rN<|ab.stop<|?_
       cases h
       exact wb _ _ J<|ak.lq [0,0,0,0] ⟨OA,J⟩ J J
    ·refine ab.exit J<|have h:=cr h wR;ab.cd<|tR<|ai.qv (a8 J J) J<|rM J J<|rN<|ab.stop<|?_
     cases h
     exact im _ _ J<|ak.lq [0,0] ⟨A9,J⟩ J J
  ·refine ab.exit J<|have h:=cr h fw;?_
   unfold ri at h
   refine aN<|rM J J<|aF h fun v35 e7 h=>bd J (dK (fun e=>xJ (GI:=oI) e) (gl e7)) cR (.cons .p1 .nil) J J<|ai.ghost<|ak.eqs (s:=7) (dF:=.sl 4 b5 0 v35.length) J (congrArg (AV.sl 4 b5 0) (bO e7))<|ak.here<|ai.ghost<|ak.eqs (s:=61) (dF:=.sl 4 b5 0 v35.length) J (congrArg (AV.sl 4 b5 0) (bO e7))<|ak.here<|rN<|aN<|rM J J<|rA J J<|rN<|ab.ret<|?_
   cases h
   exact ak.freeze .p0<|ak.co (s:=6) J (Co.LP .p0)<|ak.here ⟨_,.cons (.tmp _ _ J) .nil,J⟩
theorem zm [GI:bI] {aa:List ah} {aj:aO} {ar:Int} {r:Int} (h:tV aa aj ar=some r):Pu Tryz.prog 96 [uA aa,.str aj,I ar] (I r):=by
 unfold tV at h
 refine aM.bt Tryz.func96 J Tryz.ntmps96 Tryz.results96 J J ?_
 refine aN<|rA J J<|rN<|aN<|rA J J<|rN<|tS<|aN<|rM J J<|ai.qv (db J) J<|rM J J<|rN<|ab.block<|ab.bV (fun x:Int×Int=>kM aa aj ar x.1 x.2) (fun x aL=>aL=⟨36,[(1,.str aj),(2,I ar),(7,I x.1),(10,uA aa),(11,I (aa.length:Int)),(12,I x.2)],[]⟩) h ?_ ?_
 ·exact ak.lq [] J J J
 ·intro x z1 aL J1 cT h im fw
  obtain ⟨n3,n4⟩:=x
  obtain rfl:=cT
  replace h:kM aa aj ar n3 n4=some z1:=h
  unfold kM at h
  refine aN<|ai.qv (bB J J) J<|rN<|tS<|cD h J (fun h=>?_) (fun h=>?_)
  ·refine tK<|tS<|ab.block<|aN<|aF h fun v5 e1 h=>ai.qv (bz J J J e1 J J) J<|ai.qv (bu J J J) J<|bH J J J J fun b6=>aD J J J J .p0 J J<|rN<|tS<|ab.cut (fun aL=>∃ (c7:Bool),uM n3 n4 c7=some z1∧aL=⟨36,[(1,.str aj),(2,I ar),(7,I n3),(10,uA aa),(11,I (aa.length:Int)),(12,I n4),(31,.bool c7)],[]⟩) ?_ ?_
   ·refine tR<|rF J J J<|rL J J .p0 J J<|rM J J<|ai.qv (nN J J) J<|rM J J<|ai.ct J J J (fun hc=>?_) (fun hc=>?_)
    ·rw [tG hc] at h
     refine rF J J J<|rY J J J<|rL J J .p0 J J<|rY J J J<|rM J J<|rY J J J<|ai.qv (vn J J) J<|rT J J J<|rM J J<|ai.ct J J J (fun hc=>?_) (fun hc=>?_)
     ·rw [tG hc] at h
      exact rM J J<|rY J J J<|rF J J J<|rY J J J<|rL J J .p0 J J<|rY J J J<|ai.qv (bB J J) J<|rT J J J<|rN<|ab.stop<|ak.lq [] ⟨decide (ar < v5.To),h,J⟩ J J
     ·rw [tH hc] at h
      exact rG J J J J<|rG J J J J<|rG J J J J<|rE J J J<|rN<|ab.stop<|ak.lq [] ⟨false,h,J⟩ J J
    ·rw [tH hc] at h
     exact rG J J J J<|rG J J J J<|rG J J J J<|rE J J J<|rM J J<|rG J J J J<|rG J J J J<|rG J J J J<|rG J J J J<|rE J J J<|rN<|ab.stop<|ak.lq [] ⟨false,h,J⟩ J J
   ·rintro aL ⟨c7,h,rfl⟩
    unfold uM at h
    refine ab.cut (fun aL=>∃ (n8:Int),sc n4 n8=some z1∧aL=⟨36,[(1,.str aj),(2,I ar),(7,I n8),(10,uA aa),(11,I (aa.length:Int)),(12,I n4)],[]⟩) ?_ ?_
    ·refine cB h J (fun h=>?_) (fun h=>?_)
     ·exact tR<|rM J J<|ai.qv (a8 J J) J<|rA J J<|rN<|ab.stop<|ak.lq [] ⟨aU (n3+(1:Int)),h,J⟩ J J
     ·exact tK<|ab.stop<|ak.lq [] ⟨n3,h,J⟩ J J
    ·rintro aL ⟨n8,h,rfl⟩
     unfold sc at h
     refine ab.cd<|tR<|ai.qv (a8 J J) J<|rM J J<|rN<|ab.stop<|?_
     cases h
     exact im _ _ J<|ak.lq [] J J J
  ·refine ab.exit J<|have h:=cr h fw;aN<|rM J J<|rA J J<|rN<|ab.ret<|?_
   cases h
   exact hP J J
theorem zn [GI:bI] {aa:aO} {aj:Int} {ar:List ah} {aI:List ah} {gZ:aG} {hJ:aG} {r:aO×Bool} (h:jG aa aj ar aI gZ hJ=some r):Pu Tryz.prog 95 [.str aa,I aj,.bJ [uA ar],.bJ [uA aI],.bJ [.str gZ.Key,.str gZ.ax,I gZ.eI,I gZ.bh,.bool gZ.bj,I gZ.On,I gZ.eJ,I gZ.bR,I gZ.Rest,I gZ.Empty],.bJ [.str hJ.Key,.str hJ.ax,I hJ.eI,I hJ.bh,.bool hJ.bj,I hJ.On,I hJ.eJ,I hJ.bR,I hJ.Rest,I hJ.Empty]] (.lA [.str r.1,.bool r.2]):=by
 unfold jG at h
 refine aM.bt Tryz.func95 J Tryz.ntmps95 Tryz.results95 J J ?_
 refine aN<|rA J J<|rA J J<|rN<|tS<|ab.bM (id:=1) (A:=[0,0,0,7,0,0,0,127,255,511]) 10 mixed J (by kernel_rfl) (by kernel_rfl)<|AM.qv (aW J J J) J<|AM.qv (ay J) J<|AM.qv (ay J) J<|aF h fun v1 e1 h=>AM.gQ J (zm e1) cR J<|AM.qv (aW J J J) J<|AM.qv (ay J) J<|AM.qv (ay J) J<|aF h fun v2 e2 h=>AM.gQ J (zm e2) cR J<|AM.qv (bY J) J<|AM.qv (bY J) J<|AM.nil<|rN<|tS<|aN<|rM J J<|rM J J<|ai.qv (jl J J) J<|rN<|cD h J (fun h=>?_) (fun h=>?_)
 ·refine aN<|ai.qv (bl J J) J<|ai.qv (aW J J J) J<|rA J J<|rA J J<|rN<|ab.ret<|?_
  cases h
  exact hQ J J J
 ·refine tK<|aN<|ai.qv (bl J J) J<|ai.qv (aW J J J) J<|rM J J<|rM J J<|ai.qv (jl J J) J<|rA J J<|rA J J<|rN<|ab.ret<|?_
  cases h
  exact hQ J J J
theorem DZ [GI:bI] {aa:aO} {aj:aE} {ar:List (List ah)} {r:(List Int)} (h:sf aa aj ar=some r):aM Tryz.prog 156 [.str aa,aE.av aj,xC ar] [] (T1 (fun gr=>[(gr,vf r)]) (fun gr=>.sl 1 gr 0 r.length)):=by
 unfold sf at h
 refine aM.dx ?_
 refine aM.bt Tryz.func156 J Tryz.ntmps156 Tryz.results156 J J ?_
 refine aN<|df J J J J fun b1=>rA J J<|rN<|aN<|rF J J J<|rL J J .p0 J J<|rF J J J<|rL J J .p0 J J<|sX J J J J J J fun b2=>rA J J<|rN<|tS<|aN<|rM J J<|ai.qv (db J) J<|rM J J<|rN<|ab.block<|ab.bV (fun x:(List Int)×Int=>kO aa ar x.1 x.2) (fun x aL=>∃ (b6:Bk),aL=⟨46,[(0,.str aa),(7,.sl 1 b6 0 x.1.length),(17,xC ar),(18,I (ar.length:Int)),(19,I x.2)],[(b6,vf x.1)]⟩) h ?_ ?_
 ·exact ak.lq [0] ⟨b2,J⟩ J J
 ·intro x z1 aL J1 cT h im fw
  obtain ⟨l7,n8⟩:=x
  obtain ⟨b6,rfl⟩:=cT
  replace h:kO aa ar l7 n8=some z1:=h
  unfold kO at h
  refine aN<|ai.qv (bB J J) J<|rN<|tS<|cD h J (fun h=>?_) (fun h=>?_)
  ·refine tK<|tS<|ab.block<|aN<|aF h fun v9 e1 h=>ai.qv (bz J J J e1 J J) J<|ai.qv (aW J J J) J<|rA J J<|rN<|aN<|rM J J<|ai.qv (db J) J<|rM J J<|rN<|ab.block<|ab.bV (fun x:(List Int)×Int=>kN aa n8 v9 x.1 x.2) (fun x aL=>∃ (C1:Bk),aL=⟨46,[(0,.str aa),(7,.sl 1 C1 0 x.1.length),(17,xC ar),(18,I (ar.length:Int)),(19,I n8),(23,uA v9),(24,I (v9.length:Int)),(25,I x.2)],[(C1,vf x.1)]⟩) h ?_ ?_
   ·exact ak.lq [0] ⟨b6,J⟩ J J
   ·intro x z2 aL J2 cT h wb wR
    obtain ⟨tL,n15⟩:=x
    obtain ⟨C1,rfl⟩:=cT
    replace h:kN aa n8 v9 tL n15=some z2:=h
    unfold kN at h
    refine aN<|ai.qv (bB J J) J<|rN<|tS<|cD h J (fun h=>?_) (fun h=>?_)
    ·refine tK<|tS<|ab.block<|aN<|aF h fun gx e2 h=>ai.qv (bz J J J e2 J J) J<|ai.qv (bu J J J) J<|bH J J J J fun sS=>aD J J J J .p0 J J<|rN<|aN<|rF J J J<|rL J J .p0 J J<|rM J J<|ai.qv (nN J J) J<|rN<|ab.cut (fun aL=>∃ (uS:Bk) (lU:List Int),sd n15 lU=some z2∧aL=⟨46,[(0,.str aa),(7,.sl 1 uS 0 lU.length),(17,xC ar),(18,I (ar.length:Int)),(19,I n8),(23,uA v9),(24,I (v9.length:Int)),(25,I n15)],[(uS,vf lU)]⟩) ?_ ?_
     ·refine cD h J (fun h=>?_) (fun h=>?_)
      ·exact tR<|rM J J<|rF J J J<|rL J J .p0 J J<|rF J J J<|rL J J .p0 J J<|aQ (xs:=([gx.aT,gx.To]:List Int).map I) J J J J J J<|aF h fun vZ e3 h=>cA (g:=I) J J J J J J J J (.list _) e3 (fun _=>.p1) J fun OB=>rA J J<|rN<|ab.stop<|ak.lq [1] ⟨OB,vZ,h,J⟩ J J
      ·exact tK<|ab.stop<|ak.lq [1] ⟨C1,tL,h,J⟩ J J
     ·rintro aL ⟨uS,lU,h,rfl⟩
      unfold sd at h
      refine ab.cd<|tR<|ai.qv (a8 J J) J<|rM J J<|rN<|ab.stop<|?_
      cases h
      exact wb _ _ J<|ak.lq [0] ⟨uS,J⟩ J J
    ·refine ab.exit J<|have h:=cr h wR;ab.cd<|tR<|ai.qv (a8 J J) J<|rM J J<|rN<|ab.stop<|?_
     cases h
     exact im _ _ J<|ak.lq [0] ⟨C1,J⟩ J J
  ·refine ab.exit J<|have h:=cr h fw;?_
   unfold se at h
   refine aN<|rM J J<|aF h fun v22 e4 h=>bd J (qF (gl e4)) cR (.cons .p0 .nil) J J<|ai.ghost<|ak.eqs (s:=7) (dF:=.sl 1 b6 0 v22.length) J (congrArg (AV.sl 1 b6 0) (bO e4))<|ak.here<|ai.ghost<|ak.eqs (s:=42) (dF:=.sl 1 b6 0 v22.length) J (congrArg (AV.sl 1 b6 0) (bO e4))<|ak.here<|rN<|aN<|rM J J<|aF h fun v23 e5 h=>eM J (oG e5) cR (.cons .p0 .nil) (fun _=>J) J fun IK=>rA J J<|rN<|ab.ret<|?_
   cases h
   exact hH J [0] J ⟨IK,J,J⟩
theorem xK [GI:bI] {aa:ah} {aj:ah} {r:Int} (h:jt aa aj=some r):Pu Tryz.prog 157 [ah.av aa,ah.av aj] (I r):=by
 unfold jt at h
 refine aM.bt Tryz.func157 J Tryz.ntmps157 Tryz.results157 J J ?_
 refine aN<|df J J J J fun b1=>df J J J J fun b2=>rA J J<|rN<|tS<|ab.bM (id:=1) (A:=[0,1,0,4,15,0,32,0,128,511,1023,2047,4095]) 13 mixed J (by kernel_rfl) (by kernel_rfl)<|AM.qv (aC J J) J<|AM.qv (aJ J J .p1 J) J<|AM.qv (aC J J) J<|AM.qv (aJ J J .p0 J) J<|AM.gQ J (fK J) cR J<|AM.qv (aC J J) J<|AM.qv (aJ J J .p1 J) J<|AM.qv (aC J J) J<|AM.qv (aJ J J .p0 J) J<|AM.gQ J (ei J) cR J<|AM.bZ (xs:=([(cmp_Compare_int aa.aT aj.aT),(Lib.compareBytes aa.Device aj.Device)]:List Int).map I) J J J J J J<|aF h fun v3 e1 h=>AM.gQ J (qk e1) cR J<|AM.qv (bY J) J<|AM.nil<|rN<|ab.ret<|?_
 cases h
 exact hP J J
theorem jB [GI:bI] {bc:Bk} {aa:List ah} {aj:Int} {ar:Int} {nO:ah→ah→Option Int} {Fz:FuncId} [bD Tryz.prog Fz] {IQ:List AV} (WJ:∀ {y0 y1:_} {u:Int},nO y0 y1=some u→Pu Tryz.prog Fz (ah.av y0 :: ah.av y1 :: IQ) (I u)) {r:(List ah)} (h:dV aa aj ar nO=some r):aM Tryz.prog 222 [.sl 4 bc 0 aa.length,I aj,I ar,.func (.func Fz) IQ] [(bc,dQ aa)] (T0 ([(bc,dQ r)]) (.lA [])):=by
 unfold dV at h
 refine aM.dx ?_
 refine aM.bt Tryz.func222 J Tryz.ntmps222 Tryz.results222 J J ?_
 refine aN<|rM J J<|ai.qv (a8 J J) J<|rA J J<|rN<|ab.block<|ab.bV (fun x:(List ah)×Int=>dj aj ar nO x.1 x.2) (fun x aL=>aL=⟨53,[(0,.sl 4 bc 0 x.1.length),(1,I aj),(2,I ar),(3,.func (.func Fz) IQ),(8,I x.2)],[(bc,dQ x.1)]⟩) h ?_ ?_
 ·exact ak.lq [0] J J J
 ·intro x z1 aL J1 cT h im fw
  obtain ⟨l3,n4⟩:=x
  obtain rfl:=cT
  replace h:dj aj ar nO l3 n4=some z1:=h
  unfold dj at h
  refine tS<|aN<|rM J J<|rM J J<|ai.qv (bB J J) J<|rN<|cD h J (fun h=>?_) (fun h=>?_)
  ·refine tK<|tS<|ab.block<|aN<|rM J J<|rA J J<|rN<|ab.block<|ab.bV (fun x:(List ah)×Int=>di aj nO n4 x.1 x.2) (fun x aL=>aL=⟨53,[(0,.sl 4 bc 0 x.1.length),(1,I aj),(2,I ar),(3,.func (.func Fz) IQ),(8,I n4),(9,I x.2)],[(bc,dQ x.1)]⟩) h ?_ ?_
   ·exact ak.lq [0] J J J
   ·intro x z2 aL J2 cT h wb wR
    obtain ⟨l7,n8⟩:=x
    obtain rfl:=cT
    replace h:di aj nO n4 l7 n8=some z2:=h
    unfold di at h
    refine tS<|tS<|ab.cut (fun aL=>∃ (c9:Bool),dh n4 l7 n8 c9=some z2∧aL=⟨53,[(0,.sl 4 bc 0 l7.length),(1,I aj),(2,I ar),(3,.func (.func Fz) IQ),(8,I n4),(9,I n8),(34,.bool c9)],[(bc,dQ l7)]⟩) ?_ ?_
    ·refine ab.bM (id:=4) (A:=[0,0,3,7,15,15,15,111,239,15,15,1039,3599,7695,16383,32767,65535]) 17 mixed J (by kernel_rfl) (by kernel_rfl)<|AM.qv (ay J) J<|AM.qv (ay J) J<|AM.qv (jl J J) J<|AM.qv (ay J) J<|AM.ct J J J (fun hc=>?_) (fun hc=>?_)
     ·exact have h:=sC hc h;AM.qv (ay J) J<|AM.aB J J J<|AM.qv (ay J) J<|AM.aB J J J<|AM.qv (ay J) J<|AM.aB J J J<|aF h fun v10 e1 h=>AM.qv (aV J J J e1) J<|AM.aB J J J<|AM.qv (bw (g:=ah.av) J J (.inl .p0) J e1 J) J<|AM.aB J J J<|AM.qv (ay J) J<|AM.aB J J J<|AM.qv (ay J) J<|AM.aB J J J<|AM.qv (bT J J) J<|AM.aB J J J<|aF h fun v11 e2 h=>AM.qv (aV J J J e2) J<|AM.aB J J J<|AM.qv (bw (g:=ah.av) J J (.inl .p0) J e2 J) J<|AM.aB J J J<|aF h fun v12 e3 h=>AM.Gz J J (WJ e3) cR J<|AM.aB J J J<|AM.qv (bB J J) J<|AM.qv (il J J) J<|AM.nil<|rN<|ab.stop<|ak.lq [0] ⟨decide (v12 < (0:Int)),h,J⟩ J J
     ·exact have h:=vq hc h;AM.az J J J J<|AM.az J J J J<|AM.az J J J J<|AM.az J J J J<|AM.az J J J J<|AM.az J J J J<|AM.az J J J J<|AM.az J J J J<|AM.az J J J J<|AM.az J J J J<|AM.az J J J J<|AM.qv (dR J J) J<|AM.nil<|rN<|ab.stop<|ak.lq [0] ⟨false,h,J⟩ J J
    ·rintro aL ⟨c9,h,rfl⟩
     unfold dh at h
     refine cB h J (fun h=>?_) (fun h=>?_)
     ·refine tK<|tS<|ab.block<|aF h fun k9 e4 h=>aF h fun nz e5 h=>aF h fun mM e6 h=>ab.gj (id:=6) (A:=[0,0,0,0,8,0,0,64,224,480,0,0,3072,7168,16355,32739,65535,131071]) (H0:=[(bc,dQ l7)]) (HH:=fun β=>[(bc,dQ (l7.set n8.toNat k9))]) 16 mixed J (by kernel_rfl) (by kernel_rfl) [⟨none,some 15,[9,13],fun _=>(bc,dQ l7),none,[]⟩,⟨some 15,none,[],fun _=>(bc,dQ (l7.set n8.toNat k9)),none,[]⟩] [] J (by kernel_rfl) J (.cons .p0 .nil) (fun _=>J)<|AT.am 9 J J<|AM.qv (ay J) J<|AM.qv (ay J) J<|AM.qv (ay J) J<|AM.qv (ay J) J<|AM.qv (bT J J) J<|AM.qv (ay J) J<|AM.qv (ay J) J<|AM.qv (bT J J) J<|AM.qv (aV J J J e4) J<|AM.nil<|AT.rd (Rs:=[(bc,dQ l7)]) (fun _=>J) J (fun _=>J) (fun _=>J) (bw (g:=ah.av) J J (.inl .p0) J e4 J) J<|AT.am 3 J J<|AM.qv (ay J) J<|AM.qv (ay J) J<|AM.qv (aV J J J e5) J<|AM.nil<|AT.rd (Rs:=[(bc,dQ l7)]) (fun _=>J) J (fun _=>J) (fun _=>J) (bw (g:=ah.av) J J (.inl .p0) J e5 J) J<|AT.am 1 J J<|AM.qv (aV J J J e6) J<|AM.nil<|AT.Gt (Ti:=[(bc,dQ l7)]) (Pi:=[(bc,dQ (l7.set n8.toNat k9))]) (fun _=>J) (fun _=>J) (fun _=>J) J J ?_ ?_
      ·exact bX (g:=ah.av) (za:=k9) J J J J e6 J .p0 J<|ai.nil ⟨_,J⟩
      refine AT.sY (fun _=>J) fun β=>ai.ghost<|ak.eqs (s:=0) (dF:=.sl 4 bc 0 (l7.set n8.toNat k9).length) J (by simp)<|ak.here<|ai.ghost<|ak.eqs (s:=37) (dF:=.sl 4 bc 0 (l7.set n8.toNat k9).length) J (by simp)<|ak.here<|ai.ghost<|ak.eqs (s:=39) (dF:=.sl 4 bc 0 (l7.set n8.toNat k9).length) J (by simp)<|ak.here<|ai.ghost<|ak.eqs (s:=42) (dF:=.sl 4 bc 0 (l7.set n8.toNat k9).length) J (by simp)<|ak.here<|ai.ghost<|ak.eqs (s:=47) (dF:=.sl 4 bc 0 (l7.set n8.toNat k9).length) J (by simp)<|ak.here<|aF h fun gx e7 h=>ai.qv (aV J J J e7) J<|bX (g:=ah.av) (za:=nz) J J J J e7 J .p0 J<|ai.ghost<|ak.eqs (s:=0) (dF:=.sl 4 bc 0 ((l7.set n8.toNat k9).set (aU (n8 - (1:Int))).toNat nz).length) J (by rw [List.length_set])<|ak.here<|ai.ghost<|ak.eqs (s:=37) (dF:=.sl 4 bc 0 ((l7.set n8.toNat k9).set (aU (n8 - (1:Int))).toNat nz).length) J (by rw [List.length_set])<|ak.here<|ai.ghost<|ak.eqs (s:=39) (dF:=.sl 4 bc 0 ((l7.set n8.toNat k9).set (aU (n8 - (1:Int))).toNat nz).length) J (by rw [List.length_set])<|ak.here<|ai.ghost<|ak.eqs (s:=42) (dF:=.sl 4 bc 0 ((l7.set n8.toNat k9).set (aU (n8 - (1:Int))).toNat nz).length) J (by rw [List.length_set])<|ak.here<|ai.ghost<|ak.eqs (s:=47) (dF:=.sl 4 bc 0 ((l7.set n8.toNat k9).set (aU (n8 - (1:Int))).toNat nz).length) J (by rw [List.length_set])<|ak.here<|rN<|ab.cd<|tR<|rM J J<|ai.qv (bT J J) J<|rA J J<|rN<|ab.stop<|?_
      cases h
      exact wb _ _ J<|ak.lq [0] J J J
     ·refine ab.exit J<|have h:=cr h wR;ab.cd<|tR<|rM J J<|ai.qv (a8 J J) J<|rA J J<|rN<|ab.stop<|?_
      cases h
      exact im _ _ J<|ak.lq [0] J J J
  ·refine ab.exit J<|have h:=cr h fw;ab.nil<|?_
   cases h
   exact ak.here ⟨_,.nil,_,.cons .p0 .nil,⟨J,J⟩⟩
theorem ie [GI:bI] {bc:Bk} {aa:List ah} {aj:Int} {ar:Int} {aI:Int} {iA:ah→ah→Option Int} {gL:FuncId} [bD Tryz.prog gL] {jo:List AV} (qG:∀ {y0 y1:_} {u:Int},iA y0 y1=some u→Pu Tryz.prog gL (ah.av y0 :: ah.av y1 :: jo) (I u)) {r:(List ah)} (h:dJ aa aj ar aI iA=some r):aM Tryz.prog 336 [.sl 4 bc 0 aa.length,I aj,I ar,I aI,.func (.func gL) jo] [(bc,dQ aa)] (T0 ([(bc,dQ r)]) (.lA [])):=by
 unfold dJ at h
 refine aM.dx ?_
 refine aM.bt Tryz.func336 J Tryz.ntmps336 Tryz.results336 J J ?_
 refine aN<|rA J J<|rN<|ab.block<|ab.bV (fun x:(List ah)×Int=>eu aj ar aI x.1 x.2) (fun x aL=>aL=⟨38,[(0,.sl 4 bc 0 x.1.length),(1,I aj),(2,I ar),(3,I aI),(10,I x.2)],[(bc,dQ x.1)]⟩) h ?_ ?_
 ·exact ak.lq [0] J J J
 ·intro x z1 aL J1 cT h im fw
  obtain ⟨l3,n4⟩:=x
  obtain rfl:=cT
  replace h:eu aj ar aI l3 n4=some z1:=h
  unfold eu at h
  refine tS<|aN<|rM J J<|rM J J<|ai.qv (bB J J) J<|rN<|cD h J (fun h=>?_) (fun h=>?_)
  ·refine tK<|tS<|ab.block<|aF h fun v5 e1 h=>aF h fun v6 e2 h=>aF h fun v7 e3 h=>ab.gj (id:=3) (A:=[0,0,0,6,0,0,0,96,0,0,0,1536,3840,7936,0,0,0,98304,245760,507904,1048335,2096911,4194303,8388607]) (H0:=[(bc,dQ l3)]) (HH:=fun β=>[(bc,dQ (l3.set (aU (aj+n4)).toNat v5))]) 22 mixed J (by kernel_rfl) (by kernel_rfl) [⟨none,some 21,[13,19],fun _=>(bc,dQ l3),none,[]⟩,⟨some 21,none,[],fun _=>(bc,dQ (l3.set (aU (aj+n4)).toNat v5)),none,[]⟩] [] J (by kernel_rfl) J (.cons .p0 .nil) (fun _=>J)<|AT.am 13 J J<|AM.qv (ay J) J<|AM.qv (ay J) J<|AM.qv (ay J) J<|AM.qv (a8 J J) J<|AM.qv (ay J) J<|AM.qv (ay J) J<|AM.qv (ay J) J<|AM.qv (a8 J J) J<|AM.qv (ay J) J<|AM.qv (ay J) J<|AM.qv (ay J) J<|AM.qv (a8 J J) J<|AM.qv (aV J J J e1) J<|AM.nil<|AT.rd (Rs:=[(bc,dQ l3)]) (fun _=>J) J (fun _=>J) (fun _=>J) (bw (g:=ah.av) J J (.inl .p0) J e1 J) J<|AT.am 5 J J<|AM.qv (ay J) J<|AM.qv (ay J) J<|AM.qv (ay J) J<|AM.qv (a8 J J) J<|AM.qv (aV J J J e2) J<|AM.nil<|AT.rd (Rs:=[(bc,dQ l3)]) (fun _=>J) J (fun _=>J) (fun _=>J) (bw (g:=ah.av) J J (.inl .p0) J e2 J) J<|AT.am 1 J J<|AM.qv (aV J J J e3) J<|AM.nil<|AT.Gt (Ti:=[(bc,dQ l3)]) (Pi:=[(bc,dQ (l3.set (aU (aj+n4)).toNat v5))]) (fun _=>J) (fun _=>J) (fun _=>J) J J ?_ ?_
   ·exact bX (g:=ah.av) (za:=v5) J J J J e3 J .p0 J<|ai.nil ⟨_,J⟩
   refine AT.sY (fun _=>J) fun β=>ai.ghost<|ak.eqs (s:=0) (dF:=.sl 4 bc 0 (l3.set (aU (aj+n4)).toNat v5).length) J (by simp)<|ak.here<|ai.ghost<|ak.eqs (s:=16) (dF:=.sl 4 bc 0 (l3.set (aU (aj+n4)).toNat v5).length) J (by simp)<|ak.here<|ai.ghost<|ak.eqs (s:=20) (dF:=.sl 4 bc 0 (l3.set (aU (aj+n4)).toNat v5).length) J (by simp)<|ak.here<|ai.ghost<|ak.eqs (s:=24) (dF:=.sl 4 bc 0 (l3.set (aU (aj+n4)).toNat v5).length) J (by simp)<|ak.here<|ai.ghost<|ak.eqs (s:=30) (dF:=.sl 4 bc 0 (l3.set (aU (aj+n4)).toNat v5).length) J (by simp)<|ak.here<|aF h fun v8 e4 h=>ai.qv (aV J J J e4) J<|bX (g:=ah.av) (za:=v6) J J J J e4 J .p0 J<|ai.ghost<|ak.eqs (s:=0) (dF:=.sl 4 bc 0 ((l3.set (aU (aj+n4)).toNat v5).set (aU (ar+n4)).toNat v6).length) J (by rw [List.length_set])<|ak.here<|ai.ghost<|ak.eqs (s:=16) (dF:=.sl 4 bc 0 ((l3.set (aU (aj+n4)).toNat v5).set (aU (ar+n4)).toNat v6).length) J (by rw [List.length_set])<|ak.here<|ai.ghost<|ak.eqs (s:=20) (dF:=.sl 4 bc 0 ((l3.set (aU (aj+n4)).toNat v5).set (aU (ar+n4)).toNat v6).length) J (by rw [List.length_set])<|ak.here<|ai.ghost<|ak.eqs (s:=24) (dF:=.sl 4 bc 0 ((l3.set (aU (aj+n4)).toNat v5).set (aU (ar+n4)).toNat v6).length) J (by rw [List.length_set])<|ak.here<|ai.ghost<|ak.eqs (s:=30) (dF:=.sl 4 bc 0 ((l3.set (aU (aj+n4)).toNat v5).set (aU (ar+n4)).toNat v6).length) J (by rw [List.length_set])<|ak.here<|rN<|ab.cd<|tR<|rM J J<|ai.qv (a8 J J) J<|rA J J<|rN<|ab.stop<|?_
   cases h
   exact im _ _ J<|ak.lq [0] J J J
  ·refine ab.exit J<|have h:=cr h fw;ab.nil<|?_
   cases h
   exact ak.here ⟨_,.nil,_,.cons .p0 .nil,⟨J,J⟩⟩
theorem sH [GI:bI] {bc:Bk} {aa:List ah} {aj:Int} {ar:Int} {aI:Int} {iA:ah→ah→Option Int} {gL:FuncId} [bD Tryz.prog gL] {jo:List AV} (qG:∀ {y0 y1:_} {u:Int},iA y0 y1=some u→Pu Tryz.prog gL (ah.av y0 :: ah.av y1 :: jo) (I u)) {r:(List ah)} (h:jX aa aj ar aI iA=some r):aM Tryz.prog 282 [.sl 4 bc 0 aa.length,I aj,I ar,I aI,.func (.func gL) jo] [(bc,dQ aa)] (T0 ([(bc,dQ r)]) (.lA [])):=by
 unfold jX at h
 refine aM.dx ?_
 refine aM.bt Tryz.func282 J Tryz.ntmps282 Tryz.results282 J J ?_
 refine aN<|rM J J<|rM J J<|ai.qv (bT J J) J<|rA J J<|rN<|aN<|rM J J<|rM J J<|ai.qv (bT J J) J<|rA J J<|rN<|tS<|ab.block<|ab.bV (fun x:(List ah)×Int×Int=>fG ar iA x.1 x.2.1 x.2.2) (fun x aL=>aL=⟨58,[(0,.sl 4 bc 0 x.1.length),(2,I ar),(4,.func (.func gL) jo),(10,I x.2.1),(11,I x.2.2)],[(bc,dQ x.1)]⟩) h ?_ ?_
 ·exact ak.lq [0] J J J
 ·intro x z1 aL J1 cT h im fw
  obtain ⟨l4,n5,n6⟩:=x
  obtain rfl:=cT
  replace h:fG ar iA l4 n5 n6=some z1:=h
  unfold fG at h
  refine tS<|aN<|rM J J<|rM J J<|ai.qv (lW J J) J<|rN<|cD h J (fun h=>?_) (fun h=>?_)
  ·refine tK<|ab.block<|aN<|rM J J<|rM J J<|ai.qv (jl J J) J<|rN<|ab.cut (fun aL=>∃ (l7:List ah) (n8:Int) (n9:Int),fF l7 n8 n9=some z1∧aL=⟨58,[(0,.sl 4 bc 0 l7.length),(2,I ar),(4,.func (.func gL) jo),(10,I n8),(11,I n9)],[(bc,dQ l7)]⟩) ?_ ?_
   ·refine cD h J (fun h=>?_) (fun h=>?_)
    ·exact aN<|rM J J<|rM J J<|rM J J<|ai.qv (bT J J) J<|rM J J<|rM J J<|rM J J<|aF h fun v10 e1 h=>bd J (ie qG (gl e1)) cR (.cons .p0 .nil) J J<|ai.ghost<|ak.eqs (s:=0) (dF:=.sl 4 bc 0 v10.length) J (congrArg (AV.sl 4 bc 0) (bO e1))<|ak.here<|ai.ghost<|ak.eqs (s:=24) (dF:=.sl 4 bc 0 v10.length) J (congrArg (AV.sl 4 bc 0) (bO e1))<|ak.here<|rN<|tR<|rM J J<|rM J J<|ai.qv (bT J J) J<|rA J J<|rN<|ab.stop<|ak.lq [0] ⟨v10,aU (n5 - n6),n6,h,J⟩ J J
    ·exact aN<|rM J J<|rM J J<|rM J J<|ai.qv (bT J J) J<|rM J J<|rM J J<|ai.qv (a8 J J) J<|rM J J<|ai.qv (bT J J) J<|rM J J<|rM J J<|aF h fun v11 e2 h=>bd J (ie qG (gl e2)) cR (.cons .p0 .nil) J J<|ai.ghost<|ak.eqs (s:=0) (dF:=.sl 4 bc 0 v11.length) J (congrArg (AV.sl 4 bc 0) (bO e2))<|ak.here<|ai.ghost<|ak.eqs (s:=35) (dF:=.sl 4 bc 0 v11.length) J (congrArg (AV.sl 4 bc 0) (bO e2))<|ak.here<|rN<|tR<|rM J J<|rM J J<|ai.qv (bT J J) J<|rA J J<|rN<|ab.stop<|ak.lq [0] ⟨v11,n5,aU (n6 - n5),h,J⟩ J J
   ·rintro aL ⟨l7,n8,n9,h,rfl⟩
    unfold fF at h
    refine ab.cd<|ab.stop<|?_
    cases h
    exact im _ _ J<|ak.lq [0] J J J
  ·refine ab.exit J<|have h:=cr h fw;?_
   unfold lD at h
   refine tR<|rM J J<|rM J J<|rM J J<|ai.qv (bT J J) J<|rM J J<|rM J J<|rM J J<|aF h fun v12 e3 h=>bd J (ie qG (gl e3)) cR (.cons .p0 .nil) J J<|ai.ghost<|ak.eqs (s:=0) (dF:=.sl 4 bc 0 v12.length) J (congrArg (AV.sl 4 bc 0) (bO e3))<|ak.here<|ai.ghost<|ak.eqs (s:=50) (dF:=.sl 4 bc 0 v12.length) J (congrArg (AV.sl 4 bc 0) (bO e3))<|ak.here<|rN<|ab.nil<|?_
   cases h
   exact ak.here ⟨_,.nil,_,.cons .p0 .nil,⟨J,J⟩⟩
theorem pv [GI:bI] {bc:Bk} {self:(List ah)→Int→Int→Int→(ah→ah→Option Int)→Option (List ah)} (OF:∀ {bc:Bk} {aa:List ah} {aj:Int} {ar:Int} {aI:Int} {iA:ah→ah→Option Int} {gL:FuncId} [bD Tryz.prog gL] {jo:List AV} (qG:∀ {y0 y1:_} {u:Int},iA y0 y1=some u→Pu Tryz.prog gL (ah.av y0 :: ah.av y1 :: jo) (I u)) {r:(List ah)},self aa aj ar aI iA=some r→aM Tryz.prog 230 [.sl 4 bc 0 aa.length,I aj,I ar,I aI,.func (.func gL) jo] [(bc,dQ aa)] (T0 ([(bc,dQ r)]) (.lA []))) {aa:List ah} {aj:Int} {ar:Int} {aI:Int} {iA:ah→ah→Option Int} {gL:FuncId} [bD Tryz.prog gL] {jo:List AV} (qG:∀ {y0 y1:_} {u:Int},iA y0 y1=some u→Pu Tryz.prog gL (ah.av y0 :: ah.av y1 :: jo) (I u)) {r:(List ah)} (h:fg self aa aj ar aI iA=some r):aM Tryz.prog 230 [.sl 4 bc 0 aa.length,I aj,I ar,I aI,.func (.func gL) jo] [(bc,dQ aa)] (T0 ([(bc,dQ r)]) (.lA [])):=by
 unfold fg at h
 refine aM.dx ?_
 refine aM.bt Tryz.func230 J Tryz.ntmps230 Tryz.results230 J J ?_
 refine tS<|aN<|rM J J<|rM J J<|ai.qv (bT J J) J<|ai.qv (dw J J) J<|rN<|cD h J (fun h=>?_) (fun h=>?_)
 ·refine aN<|rM J J<|rA J J<|rN<|aN<|rM J J<|rA J J<|rN<|tS<|ab.block<|ab.bV (fun x:Int×Int=>eU aa aj iA x.1 x.2) (fun x aL=>aL=⟨220,[(0,.sl 4 bc 0 aa.length),(1,I aj),(4,.func (.func gL) jo),(10,I x.1),(11,I x.2)],[(bc,dQ aa)]⟩) h ?_ ?_
  ·exact ak.lq [0] J J J
  ·intro x z1 aL J1 cT h im fw
   obtain ⟨n3,n4⟩:=x
   obtain rfl:=cT
   replace h:eU aa aj iA n3 n4=some z1:=h
   unfold eU at h
   refine tS<|aN<|rM J J<|rM J J<|ai.qv (bB J J) J<|rN<|cD h J (fun h=>?_) (fun h=>?_)
   ·refine tK<|ab.block<|aN<|rM J J<|rM J J<|ai.qv (a8 J J) J<|ai.qv (mU J) J<|ai.qv (KO J J (by decide)) J<|ai.qv (mU J) J<|rA J J<|rN<|tS<|ab.bM (id:=5) (A:=[0,0,0,6,14,0,0,96,224,511,1023]) 11 mixed J (by kernel_rfl) (by kernel_rfl)<|AM.qv (ay J) J<|AM.qv (ay J) J<|AM.qv (ay J) J<|aF h fun v5 e1 h=>AM.qv (aV J J J e1) J<|AM.qv (bw (g:=ah.av) J J (.inl .p0) J e1 J) J<|AM.qv (ay J) J<|AM.qv (ay J) J<|aF h fun v6 e2 h=>AM.qv (aV J J J e2) J<|AM.qv (bw (g:=ah.av) J J (.inl .p0) J e2 J) J<|aF h fun v7 e3 h=>AM.Gz J J (qG e3) cR J<|AM.qv (bB J J) J<|AM.nil<|rN<|ab.cut (fun aL=>∃ (n8:Int) (n9:Int),eQ n8 n9=some z1∧aL=⟨220,[(0,.sl 4 bc 0 aa.length),(1,I aj),(4,.func (.func gL) jo),(10,I n8),(11,I n9)],[(bc,dQ aa)]⟩) ?_ ?_
    ·refine cD h J (fun h=>?_) (fun h=>?_)
     ·exact tR<|rM J J<|ai.qv (a8 J J) J<|rA J J<|rN<|ab.stop<|ak.lq [0] ⟨aU ((aU (fS .u64 (IntKind.u64.wrap (aU (n3+n4))) (1:Int)))+(1:Int)),n4,h,J⟩ J J
     ·exact tR<|rM J J<|rA J J<|rN<|ab.stop<|ak.lq [0] ⟨n3,aU (fS .u64 (IntKind.u64.wrap (aU (n3+n4))) (1:Int)),h,J⟩ J J
    ·rintro aL ⟨n8,n9,h,rfl⟩
     unfold eQ at h
     refine ab.cd<|ab.stop<|?_
     cases h
     exact im _ _ J<|ak.lq [0] J J J
   ·refine ab.exit J<|have h:=cr h fw;tS<|aN<|rM J J<|rA J J<|rN<|ab.block<|ab.bV (fun x:(List ah)×Int=>eR n3 x.1 x.2) (fun x aL=>aL=⟨220,[(0,.sl 4 bc 0 x.1.length),(10,I n3),(13,I x.2)],[(bc,dQ x.1)]⟩) h ?_ ?_
    ·exact ak.lq [0] J J J
    ·intro x z2 aL J2 cT h wb wR
     obtain ⟨jI,n13⟩:=x
     obtain rfl:=cT
     replace h:eR n3 jI n13=some z2:=h
     unfold eR at h
     refine tS<|aN<|rM J J<|rM J J<|ai.qv (bT J J) J<|ai.qv (bB J J) J<|rN<|cD h J (fun h=>?_) (fun h=>?_)
     ·refine tK<|tS<|ab.block<|aF h fun nz e4 h=>aF h fun mM e5 h=>aF h fun gx e6 h=>ab.gj (id:=11) (A:=[0,0,0,0,8,0,0,64,224,480,0,0,3072,7168,16355,32739,65535,131071]) (H0:=[(bc,dQ jI)]) (HH:=fun β=>[(bc,dQ (jI.set n13.toNat nz))]) 16 mixed J (by kernel_rfl) (by kernel_rfl) [⟨none,some 15,[9,13],fun _=>(bc,dQ jI),none,[]⟩,⟨some 15,none,[],fun _=>(bc,dQ (jI.set n13.toNat nz)),none,[]⟩] [] J (by kernel_rfl) J (.cons .p0 .nil) (fun _=>J)<|AT.am 9 J J<|AM.qv (ay J) J<|AM.qv (ay J) J<|AM.qv (ay J) J<|AM.qv (ay J) J<|AM.qv (a8 J J) J<|AM.qv (ay J) J<|AM.qv (ay J) J<|AM.qv (a8 J J) J<|AM.qv (aV J J J e4) J<|AM.nil<|AT.rd (Rs:=[(bc,dQ jI)]) (fun _=>J) J (fun _=>J) (fun _=>J) (bw (g:=ah.av) J J (.inl .p0) J e4 J) J<|AT.am 3 J J<|AM.qv (ay J) J<|AM.qv (ay J) J<|AM.qv (aV J J J e5) J<|AM.nil<|AT.rd (Rs:=[(bc,dQ jI)]) (fun _=>J) J (fun _=>J) (fun _=>J) (bw (g:=ah.av) J J (.inl .p0) J e5 J) J<|AT.am 1 J J<|AM.qv (aV J J J e6) J<|AM.nil<|AT.Gt (Ti:=[(bc,dQ jI)]) (Pi:=[(bc,dQ (jI.set n13.toNat nz))]) (fun _=>J) (fun _=>J) (fun _=>J) J J ?_ ?_
      ·exact bX (g:=ah.av) (za:=nz) J J J J e6 J .p0 J<|ai.nil ⟨_,J⟩
      refine AT.sY (fun _=>J) fun β=>ai.ghost<|ak.eqs (s:=0) (dF:=.sl 4 bc 0 (jI.set n13.toNat nz).length) J (by simp)<|ak.here<|ai.ghost<|ak.eqs (s:=61) (dF:=.sl 4 bc 0 (jI.set n13.toNat nz).length) J (by simp)<|ak.here<|ai.ghost<|ak.eqs (s:=63) (dF:=.sl 4 bc 0 (jI.set n13.toNat nz).length) J (by simp)<|ak.here<|ai.ghost<|ak.eqs (s:=66) (dF:=.sl 4 bc 0 (jI.set n13.toNat nz).length) J (by simp)<|ak.here<|ai.ghost<|ak.eqs (s:=71) (dF:=.sl 4 bc 0 (jI.set n13.toNat nz).length) J (by simp)<|ak.here<|aF h fun v17 e7 h=>ai.qv (aV J J J e7) J<|bX (g:=ah.av) (za:=mM) J J J J e7 J .p0 J<|ai.ghost<|ak.eqs (s:=0) (dF:=.sl 4 bc 0 ((jI.set n13.toNat nz).set (aU (n13+(1:Int))).toNat mM).length) J (by rw [List.length_set])<|ak.here<|ai.ghost<|ak.eqs (s:=61) (dF:=.sl 4 bc 0 ((jI.set n13.toNat nz).set (aU (n13+(1:Int))).toNat mM).length) J (by rw [List.length_set])<|ak.here<|ai.ghost<|ak.eqs (s:=63) (dF:=.sl 4 bc 0 ((jI.set n13.toNat nz).set (aU (n13+(1:Int))).toNat mM).length) J (by rw [List.length_set])<|ak.here<|ai.ghost<|ak.eqs (s:=66) (dF:=.sl 4 bc 0 ((jI.set n13.toNat nz).set (aU (n13+(1:Int))).toNat mM).length) J (by rw [List.length_set])<|ak.here<|ai.ghost<|ak.eqs (s:=71) (dF:=.sl 4 bc 0 ((jI.set n13.toNat nz).set (aU (n13+(1:Int))).toNat mM).length) J (by rw [List.length_set])<|ak.here<|rN<|ab.cd<|tR<|rM J J<|ai.qv (a8 J J) J<|rA J J<|rN<|ab.stop<|?_
      cases h
      exact wb _ _ J<|ak.lq [0] J J J
     ·refine ab.exit J<|have h:=cr h wR;ab.ret<|?_
      cases h
      exact ak.here ⟨_,.nil,_,.cons .p0 .nil,⟨J,J⟩⟩
 ·refine tK<|tS<|aN<|rM J J<|rM J J<|ai.qv (bT J J) J<|ai.qv (dw J J) J<|rN<|cD h J (fun h=>?_) (fun h=>?_)
  ·refine aN<|rM J J<|rA J J<|rN<|aN<|rM J J<|rA J J<|rN<|tS<|ab.block<|ab.bV (fun x:Int×Int=>eZ aa ar iA x.1 x.2) (fun x aL=>aL=⟨220,[(0,.sl 4 bc 0 aa.length),(2,I ar),(4,.func (.func gL) jo),(14,I x.1),(15,I x.2)],[(bc,dQ aa)]⟩) h ?_ ?_
   ·exact ak.lq [0] J J J
   ·intro x z3 aL J3 cT h IL JD
    obtain ⟨n20,n21⟩:=x
    obtain rfl:=cT
    replace h:eZ aa ar iA n20 n21=some z3:=h
    unfold eZ at h
    refine tS<|aN<|rM J J<|rM J J<|ai.qv (bB J J) J<|rN<|cD h J (fun h=>?_) (fun h=>?_)
    ·refine tK<|ab.block<|aN<|rM J J<|rM J J<|ai.qv (a8 J J) J<|ai.qv (mU J) J<|ai.qv (KO J J (by decide)) J<|ai.qv (mU J) J<|rA J J<|rN<|tS<|ab.bM (id:=17) (A:=[0,0,0,6,14,0,0,96,224,511,1023,2047]) 12 mixed J (by kernel_rfl) (by kernel_rfl)<|AM.qv (ay J) J<|AM.qv (ay J) J<|AM.qv (ay J) J<|aF h fun v22 e8 h=>AM.qv (aV J J J e8) J<|AM.qv (bw (g:=ah.av) J J (.inl .p0) J e8 J) J<|AM.qv (ay J) J<|AM.qv (ay J) J<|aF h fun v23 e9 h=>AM.qv (aV J J J e9) J<|AM.qv (bw (g:=ah.av) J J (.inl .p0) J e9 J) J<|aF h fun v24 Ba h=>AM.Gz J J (qG Ba) cR J<|AM.qv (bB J J) J<|AM.qv (x6 J) J<|AM.nil<|rN<|ab.cut (fun aL=>∃ (n25:Int) (n26:Int),eV n25 n26=some z3∧aL=⟨220,[(0,.sl 4 bc 0 aa.length),(2,I ar),(4,.func (.func gL) jo),(14,I n25),(15,I n26)],[(bc,dQ aa)]⟩) ?_ ?_
     ·refine cD h J (fun h=>?_) (fun h=>?_)
      ·exact tR<|rM J J<|ai.qv (a8 J J) J<|rA J J<|rN<|ab.stop<|ak.lq [0] ⟨aU ((aU (fS .u64 (IntKind.u64.wrap (aU (n20+n21))) (1:Int)))+(1:Int)),n21,h,J⟩ J J
      ·exact tR<|rM J J<|rA J J<|rN<|ab.stop<|ak.lq [0] ⟨n20,aU (fS .u64 (IntKind.u64.wrap (aU (n20+n21))) (1:Int)),h,J⟩ J J
     ·rintro aL ⟨n25,n26,h,rfl⟩
      unfold eV at h
      refine ab.cd<|ab.stop<|?_
      cases h
      exact IL _ _ J<|ak.lq [0] J J J
    ·refine ab.exit J<|have h:=cr h JD;tS<|aN<|rM J J<|rA J J<|rN<|ab.block<|ab.bV (fun x:(List ah)×Int=>eW n20 x.1 x.2) (fun x aL=>aL=⟨220,[(0,.sl 4 bc 0 x.1.length),(14,I n20),(17,I x.2)],[(bc,dQ x.1)]⟩) h ?_ ?_
     ·exact ak.lq [0] J J J
     ·intro x z4 aL J4 cT h hJ4 hA4
      obtain ⟨vb,n30⟩:=x
      obtain rfl:=cT
      replace h:eW n20 vb n30=some z4:=h
      unfold eW at h
      refine tS<|aN<|rM J J<|rM J J<|ai.qv (jl J J) J<|rN<|cD h J (fun h=>?_) (fun h=>?_)
      ·refine tK<|tS<|ab.block<|aF h fun v31 HB h=>aF h fun v32 EH h=>aF h fun v33 K4 h=>ab.gj (id:=23) (A:=[0,0,0,0,8,0,0,64,224,480,0,0,3072,7168,16355,32739,65535,131071]) (H0:=[(bc,dQ vb)]) (HH:=fun β=>[(bc,dQ (vb.set n30.toNat v31))]) 16 mixed J (by kernel_rfl) (by kernel_rfl) [⟨none,some 15,[9,13],fun _=>(bc,dQ vb),none,[]⟩,⟨some 15,none,[],fun _=>(bc,dQ (vb.set n30.toNat v31)),none,[]⟩] [] J (by kernel_rfl) J (.cons .p0 .nil) (fun _=>J)<|AT.am 9 J J<|AM.qv (ay J) J<|AM.qv (ay J) J<|AM.qv (ay J) J<|AM.qv (ay J) J<|AM.qv (bT J J) J<|AM.qv (ay J) J<|AM.qv (ay J) J<|AM.qv (bT J J) J<|AM.qv (aV J J J HB) J<|AM.nil<|AT.rd (Rs:=[(bc,dQ vb)]) (fun _=>J) J (fun _=>J) (fun _=>J) (bw (g:=ah.av) J J (.inl .p0) J HB J) J<|AT.am 3 J J<|AM.qv (ay J) J<|AM.qv (ay J) J<|AM.qv (aV J J J EH) J<|AM.nil<|AT.rd (Rs:=[(bc,dQ vb)]) (fun _=>J) J (fun _=>J) (fun _=>J) (bw (g:=ah.av) J J (.inl .p0) J EH J) J<|AT.am 1 J J<|AM.qv (aV J J J K4) J<|AM.nil<|AT.Gt (Ti:=[(bc,dQ vb)]) (Pi:=[(bc,dQ (vb.set n30.toNat v31))]) (fun _=>J) (fun _=>J) (fun _=>J) J J ?_ ?_
       ·exact bX (g:=ah.av) (za:=v31) J J J J K4 J .p0 J<|ai.nil ⟨_,J⟩
       refine AT.sY (fun _=>J) fun β=>ai.ghost<|ak.eqs (s:=0) (dF:=.sl 4 bc 0 (vb.set n30.toNat v31).length) J (by simp)<|ak.here<|ai.ghost<|ak.eqs (s:=113) (dF:=.sl 4 bc 0 (vb.set n30.toNat v31).length) J (by simp)<|ak.here<|ai.ghost<|ak.eqs (s:=115) (dF:=.sl 4 bc 0 (vb.set n30.toNat v31).length) J (by simp)<|ak.here<|ai.ghost<|ak.eqs (s:=118) (dF:=.sl 4 bc 0 (vb.set n30.toNat v31).length) J (by simp)<|ak.here<|ai.ghost<|ak.eqs (s:=123) (dF:=.sl 4 bc 0 (vb.set n30.toNat v31).length) J (by simp)<|ak.here<|aF h fun vm P3 h=>ai.qv (aV J J J P3) J<|bX (g:=ah.av) (za:=v32) J J J J P3 J .p0 J<|ai.ghost<|ak.eqs (s:=0) (dF:=.sl 4 bc 0 ((vb.set n30.toNat v31).set (aU (n30 - (1:Int))).toNat v32).length) J (by rw [List.length_set])<|ak.here<|ai.ghost<|ak.eqs (s:=113) (dF:=.sl 4 bc 0 ((vb.set n30.toNat v31).set (aU (n30 - (1:Int))).toNat v32).length) J (by rw [List.length_set])<|ak.here<|ai.ghost<|ak.eqs (s:=115) (dF:=.sl 4 bc 0 ((vb.set n30.toNat v31).set (aU (n30 - (1:Int))).toNat v32).length) J (by rw [List.length_set])<|ak.here<|ai.ghost<|ak.eqs (s:=118) (dF:=.sl 4 bc 0 ((vb.set n30.toNat v31).set (aU (n30 - (1:Int))).toNat v32).length) J (by rw [List.length_set])<|ak.here<|ai.ghost<|ak.eqs (s:=123) (dF:=.sl 4 bc 0 ((vb.set n30.toNat v31).set (aU (n30 - (1:Int))).toNat v32).length) J (by rw [List.length_set])<|ak.here<|rN<|ab.cd<|tR<|rM J J<|ai.qv (bT J J) J<|rA J J<|rN<|ab.stop<|?_
       cases h
       exact hJ4 _ _ J<|ak.lq [0] J J J
      ·refine ab.exit J<|have h:=cr h hA4;ab.ret<|?_
       cases h
       exact ak.here ⟨_,.nil,_,.cons .p0 .nil,⟨J,J⟩⟩
  ·refine tK<|aN<|rM J J<|rM J J<|ai.qv (a8 J J) J<|ai.qv (mU J) J<|ai.qv (KO J J (by decide)) J<|ai.qv (mU J) J<|rA J J<|rN<|aN<|rM J J<|rM J J<|ai.qv (a8 J J) J<|rA J J<|rN<|aN<|rA J J<|rA J J<|rN<|tS<|aN<|rM J J<|rM J J<|ai.qv (jl J J) J<|rN<|ab.cut (fun aL=>∃ (n35:Int) (n36:Int),ff self aa aj ar aI iA n35 n36=some r∧aL=⟨220,[(0,.sl 4 bc 0 aa.length),(1,I aj),(2,I ar),(3,I aI),(4,.func (.func gL) jo),(18,I (aU (fS .u64 (IntKind.u64.wrap (aU (aj+aI))) (1:Int)))),(19,I (aU ((aU (fS .u64 (IntKind.u64.wrap (aU (aj+aI))) (1:Int)))+ar))),(20,I n35),(21,I n36)],[(bc,dQ aa)]⟩) ?_ ?_
   ·refine cD h J (fun h=>?_) (fun h=>?_)
    ·exact aN<|rM J J<|rM J J<|ai.qv (bT J J) J<|rA J J<|rN<|tR<|rM J J<|rA J J<|rN<|ab.stop<|ak.lq [0] ⟨aU ((aU ((aU (fS .u64 (IntKind.u64.wrap (aU (aj+aI))) (1:Int)))+ar)) - aI),aU (fS .u64 (IntKind.u64.wrap (aU (aj+aI))) (1:Int)),h,J⟩ J J
    ·exact aN<|rM J J<|rA J J<|rN<|tR<|rM J J<|rA J J<|rN<|ab.stop<|ak.lq [0] ⟨aj,ar,h,J⟩ J J
   ·rintro aL ⟨n35,n36,h,rfl⟩
    unfold ff at h
    refine aN<|rM J J<|ai.qv (bT J J) J<|rA J J<|rN<|tS<|ab.block<|ab.bV (fun x:Int×Int=>fe self aa aj ar aI iA x.1 x.2) (fun x aL=>aL=⟨220,[(0,.sl 4 bc 0 aa.length),(1,I aj),(2,I ar),(3,I aI),(4,.func (.func gL) jo),(18,I (aU (fS .u64 (IntKind.u64.wrap (aU (aj+aI))) (1:Int)))),(19,I (aU ((aU (fS .u64 (IntKind.u64.wrap (aU (aj+aI))) (1:Int)))+ar))),(20,I x.1),(21,I x.2),(22,I (aU ((aU ((aU (fS .u64 (IntKind.u64.wrap (aU (aj+aI))) (1:Int)))+ar)) - (1:Int))))],[(bc,dQ aa)]⟩) h ?_ ?_
    ·exact ak.lq [0] J J J
    ·intro x z5 aL J5 cT h hJ5 hA5
     obtain ⟨n39,n40⟩:=x
     obtain rfl:=cT
     replace h:fe self aa aj ar aI iA n39 n40=some z5:=h
     unfold fe at h
     refine tS<|aN<|rM J J<|rM J J<|ai.qv (bB J J) J<|rN<|cD h J (fun h=>?_) (fun h=>?_)
     ·refine tK<|ab.block<|aN<|rM J J<|rM J J<|ai.qv (a8 J J) J<|ai.qv (mU J) J<|ai.qv (KO J J (by decide)) J<|ai.qv (mU J) J<|rA J J<|rN<|tS<|ab.bM (id:=35) (A:=[0,0,0,0,12,30,62,0,0,384,896,2047,4095,8191]) 14 mixed J (by kernel_rfl) (by kernel_rfl)<|AM.qv (ay J) J<|AM.qv (ay J) J<|AM.qv (ay J) J<|AM.qv (ay J) J<|AM.qv (bT J J) J<|aF h fun v41 M8 h=>AM.qv (aV J J J M8) J<|AM.qv (bw (g:=ah.av) J J (.inl .p0) J M8 J) J<|AM.qv (ay J) J<|AM.qv (ay J) J<|aF h fun A8 P4 h=>AM.qv (aV J J J P4) J<|AM.qv (bw (g:=ah.av) J J (.inl .p0) J P4 J) J<|aF h fun CZ Q5 h=>AM.Gz J J (qG Q5) cR J<|AM.qv (bB J J) J<|AM.qv (x6 J) J<|AM.nil<|rN<|ab.cut (fun aL=>∃ (n44:Int) (n45:Int),fa n44 n45=some z5∧aL=⟨220,[(0,.sl 4 bc 0 aa.length),(1,I aj),(2,I ar),(3,I aI),(4,.func (.func gL) jo),(18,I (aU (fS .u64 (IntKind.u64.wrap (aU (aj+aI))) (1:Int)))),(19,I (aU ((aU (fS .u64 (IntKind.u64.wrap (aU (aj+aI))) (1:Int)))+ar))),(20,I n44),(21,I n45),(22,I (aU ((aU ((aU (fS .u64 (IntKind.u64.wrap (aU (aj+aI))) (1:Int)))+ar)) - (1:Int))))],[(bc,dQ aa)]⟩) ?_ ?_
      ·refine cD h J (fun h=>?_) (fun h=>?_)
       ·exact tR<|rM J J<|ai.qv (a8 J J) J<|rA J J<|rN<|ab.stop<|ak.lq [0] ⟨aU ((aU (fS .u64 (IntKind.u64.wrap (aU (n39+n40))) (1:Int)))+(1:Int)),n40,h,J⟩ J J
       ·exact tR<|rM J J<|rA J J<|rN<|ab.stop<|ak.lq [0] ⟨n39,aU (fS .u64 (IntKind.u64.wrap (aU (n39+n40))) (1:Int)),h,J⟩ J J
      ·rintro aL ⟨n44,n45,h,rfl⟩
       unfold fa at h
       refine ab.cd<|ab.stop<|?_
       cases h
       exact hJ5 _ _ J<|ak.lq [0] J J J
     ·refine ab.exit J<|have h:=cr h hA5;aN<|rM J J<|rM J J<|ai.qv (bT J J) J<|rA J J<|rN<|tS<|tS<|ab.cut (fun aL=>∃ (c46:Bool),ic self aa aj ar aI iA n39 c46=some r∧aL=⟨220,[(0,.sl 4 bc 0 aa.length),(1,I aj),(2,I ar),(3,I aI),(4,.func (.func gL) jo),(18,I (aU (fS .u64 (IntKind.u64.wrap (aU (aj+aI))) (1:Int)))),(20,I n39),(24,I (aU ((aU ((aU (fS .u64 (IntKind.u64.wrap (aU (aj+aI))) (1:Int)))+ar)) - n39))),(185,.bool c46)],[(bc,dQ aa)]⟩) ?_ ?_
      ·refine tR<|rM J J<|rM J J<|ai.qv (bB J J) J<|rM J J<|ai.ct J J J (fun hc=>?_) (fun hc=>?_)
       ·rw [tG hc] at h
        exact rM J J<|rY J J J<|rM J J<|rY J J J<|ai.qv (bB J J) J<|rT J J J<|rN<|ab.stop<|ak.lq [0] ⟨decide (ar < (aU ((aU ((aU (fS .u64 (IntKind.u64.wrap (aU (aj+aI))) (1:Int)))+ar)) - n39))),h,J⟩ J J
       ·rw [tH hc] at h
        exact rG J J J J<|rG J J J J<|rE J J J<|rN<|ab.stop<|ak.lq [0] ⟨false,h,J⟩ J J
      ·rintro aL ⟨c46,h,rfl⟩
       unfold ic at h
       refine ab.cut (fun aL=>∃ (Fy:List ah),fc self aj ar aI iA n39 Fy=some r∧aL=⟨220,[(0,.sl 4 bc 0 Fy.length),(1,I aj),(3,I aI),(4,.func (.func gL) jo),(18,I (aU (fS .u64 (IntKind.u64.wrap (aU (aj+aI))) (1:Int)))),(20,I n39),(24,I (aU ((aU ((aU (fS .u64 (IntKind.u64.wrap (aU (aj+aI))) (1:Int)))+ar)) - n39)))],[(bc,dQ Fy)]⟩) ?_ ?_
       ·refine cB h J (fun h=>?_) (fun h=>?_)
        ·exact tR<|rM J J<|rM J J<|rM J J<|rM J J<|rM J J<|aF h fun TK WK h=>bd J (sH qG (gl WK)) cR (.cons .p0 .nil) J J<|ai.ghost<|ak.eqs (s:=0) (dF:=.sl 4 bc 0 TK.length) J (congrArg (AV.sl 4 bc 0) (bO WK))<|ak.here<|ai.ghost<|ak.eqs (s:=186) (dF:=.sl 4 bc 0 TK.length) J (congrArg (AV.sl 4 bc 0) (bO WK))<|ak.here<|rN<|ab.stop<|ak.lq [0] ⟨TK,h,J⟩ J J
        ·exact tK<|ab.stop<|ak.lq [0] ⟨aa,h,J⟩ J J
       ·rintro aL ⟨Fy,h,rfl⟩
        unfold fc at h
        refine tS<|tS<|ab.cut (fun aL=>∃ (c49:Bool),ib self aj ar aI iA n39 Fy c49=some r∧aL=⟨220,[(0,.sl 4 bc 0 Fy.length),(1,I aj),(3,I aI),(4,.func (.func gL) jo),(18,I (aU (fS .u64 (IntKind.u64.wrap (aU (aj+aI))) (1:Int)))),(20,I n39),(24,I (aU ((aU ((aU (fS .u64 (IntKind.u64.wrap (aU (aj+aI))) (1:Int)))+ar)) - n39))),(199,.bool c49)],[(bc,dQ Fy)]⟩) ?_ ?_
        ·refine tR<|rM J J<|rM J J<|ai.qv (bB J J) J<|rM J J<|ai.ct J J J (fun hc=>?_) (fun hc=>?_)
         ·rw [tG hc] at h
          exact rM J J<|rY J J J<|rM J J<|rY J J J<|ai.qv (bB J J) J<|rT J J J<|rN<|ab.stop<|ak.lq [0] ⟨decide (n39 < (aU (fS .u64 (IntKind.u64.wrap (aU (aj+aI))) (1:Int)))),h,J⟩ J J
         ·rw [tH hc] at h
          exact rG J J J J<|rG J J J J<|rE J J J<|rN<|ab.stop<|ak.lq [0] ⟨false,h,J⟩ J J
        ·rintro aL ⟨c49,h,rfl⟩
         unfold ib at h
         refine ab.cut (fun aL=>∃ (BV:List ah),fb self aj ar aI iA n39 BV=some r∧aL=⟨220,[(0,.sl 4 bc 0 BV.length),(3,I aI),(4,.func (.func gL) jo),(18,I (aU (fS .u64 (IntKind.u64.wrap (aU (aj+aI))) (1:Int)))),(24,I (aU ((aU ((aU (fS .u64 (IntKind.u64.wrap (aU (aj+aI))) (1:Int)))+ar)) - n39)))],[(bc,dQ BV)]⟩) ?_ ?_
         ·refine cB h J (fun h=>?_) (fun h=>?_)
          ·exact tR<|rM J J<|rM J J<|rM J J<|rM J J<|rM J J<|aF h fun v51 WL h=>bd J (OF qG (gl WL)) cR (.cons .p0 .nil) J J<|ai.ghost<|ak.eqs (s:=0) (dF:=.sl 4 bc 0 v51.length) J (congrArg (AV.sl 4 bc 0) (bO WL))<|ak.here<|ai.ghost<|ak.eqs (s:=200) (dF:=.sl 4 bc 0 v51.length) J (congrArg (AV.sl 4 bc 0) (bO WL))<|ak.here<|rN<|ab.stop<|ak.lq [0] ⟨v51,h,J⟩ J J
          ·exact tK<|ab.stop<|ak.lq [0] ⟨Fy,h,J⟩ J J
         ·rintro aL ⟨BV,h,rfl⟩
          unfold fb at h
          refine tS<|ab.cut (fun aL=>∃ (TJ:Bool),ia self aj ar aI iA n39 BV TJ=some r∧aL=⟨220,[(0,.sl 4 bc 0 BV.length),(3,I aI),(4,.func (.func gL) jo),(18,I (aU (fS .u64 (IntKind.u64.wrap (aU (aj+aI))) (1:Int)))),(24,I (aU ((aU ((aU (fS .u64 (IntKind.u64.wrap (aU (aj+aI))) (1:Int)))+ar)) - n39))),(213,.bool TJ)],[(bc,dQ BV)]⟩) ?_ ?_
          ·refine tR<|rM J J<|rM J J<|ai.qv (bB J J) J<|rM J J<|ai.ct J J J (fun hc=>?_) (fun hc=>?_)
           ·rw [tG hc] at h
            exact rM J J<|rY J J J<|rM J J<|rY J J J<|ai.qv (bB J J) J<|rT J J J<|rN<|ab.stop<|ak.lq [0] ⟨decide ((aU ((aU ((aU (fS .u64 (IntKind.u64.wrap (aU (aj+aI))) (1:Int)))+ar)) - n39)) < aI),h,J⟩ J J
           ·rw [tH hc] at h
            exact rG J J J J<|rG J J J J<|rE J J J<|rN<|ab.stop<|ak.lq [0] ⟨false,h,J⟩ J J
          ·rintro aL ⟨TJ,h,rfl⟩
           unfold ia at h
           refine ab.cut (fun aL=>∃ (M5:List ah),ew M5=some r∧aL=⟨220,[],[(bc,dQ M5)]⟩) ?_ ?_
           ·refine cB h J (fun h=>?_) (fun h=>?_)
            ·exact tR<|rM J J<|rM J J<|rM J J<|rM J J<|rM J J<|aF h fun v54 WM h=>bd J (OF qG (gl WM)) cR (.cons .p0 .nil) J J<|ai.ghost<|ak.eqs (s:=0) (dF:=.sl 4 bc 0 v54.length) J (congrArg (AV.sl 4 bc 0) (bO WM))<|ak.here<|ai.ghost<|ak.eqs (s:=214) (dF:=.sl 4 bc 0 v54.length) J (congrArg (AV.sl 4 bc 0) (bO WM))<|ak.here<|rN<|ab.stop<|ak.lq [0] ⟨v54,h,J⟩ J J
            ·exact tK<|ab.stop<|ak.lq [0] ⟨BV,h,J⟩ J J
           ·rintro aL ⟨M5,h,rfl⟩
            unfold ew at h
            refine ab.nil<|?_
            cases h
            exact ak.here ⟨_,.nil,_,.cons .p0 .nil,⟨J,J⟩⟩
theorem ql [GI:bI]:∀ (k:Nat) {bc:Bk} {aa:List ah} {aj:Int} {ar:Int} {aI:Int} {iA:ah→ah→Option Int} {gL:FuncId} [bD Tryz.prog gL] {jo:List AV} (qG:∀ {y0 y1:_} {u:Int},iA y0 y1=some u→Pu Tryz.prog gL (ah.av y0 :: ah.av y1 :: jo) (I u)) {r:(List ah)},dn k aa aj ar aI iA=some r→aM Tryz.prog 230 [.sl 4 bc 0 aa.length,I aj,I ar,I aI,.func (.func gL) jo] [(bc,dQ aa)] (T0 ([(bc,dQ r)]) (.lA [])):=by
 intro k
 induction k with
 | zero=>intro bc aa aj ar aI iA gL _ jo qG r h;cases h
 | succ k ih=>intro bc aa aj ar aI iA gL _ jo qG r h;exact pv ih qG h
theorem ly [GI:bI] {bc:Bk} {aa:List ah} {aj:Int} {ar:Int} {aI:Int} {iA:ah→ah→Option Int} {gL:FuncId} [bD Tryz.prog gL] {jo:List AV} (qG:∀ {y0 y1:_} {u:Int},iA y0 y1=some u→Pu Tryz.prog gL (ah.av y0 :: ah.av y1 :: jo) (I u)) {r:(List ah)} (h:dU aa aj ar aI iA=some r):aM Tryz.prog 230 [.sl 4 bc 0 aa.length,I aj,I ar,I aI,.func (.func gL) jo] [(bc,dQ aa)] (T0 ([(bc,dQ r)]) (.lA [])):=ql depth qG h
theorem sI [GI:bI] {bc:Bk} {aa:List ah} {aj:Int} {tw:ah→ah→Option Int} {D0:FuncId} [bD Tryz.prog D0] {FA:List AV} (K8:∀ {y0 y1:_} {u:Int},tw y0 y1=some u→Pu Tryz.prog D0 (ah.av y0 :: ah.av y1 :: FA) (I u)) {r:(List ah)} (h:gE aa aj tw=some r):aM Tryz.prog 169 [.sl 4 bc 0 aa.length,I aj,.func (.func D0) FA] [(bc,dQ aa)] (T0 ([(bc,dQ r)]) (.lA [])):=by
 unfold gE at h
 refine aM.dx ?_
 refine aM.bt Tryz.func169 J Tryz.ntmps169 Tryz.results169 J J ?_
 refine aN<|rA J J<|rN<|aN<|rM J J<|rA J J<|rA J J<|rN<|tS<|ab.block<|ab.bV (fun x:(List ah)×Int×Int=>cO aj tw x.1 x.2.1 x.2.2) (fun x aL=>aL=⟨63,[(0,.sl 4 bc 0 x.1.length),(1,I aj),(2,.func (.func D0) FA),(6,I (20:Int)),(7,I x.2.1),(8,I x.2.2)],[(bc,dQ x.1)]⟩) h ?_ ?_
 ·exact ak.lq [0] J J J
 ·intro x z1 aL J1 cT h im fw
  obtain ⟨l4,n5,n6⟩:=x
  obtain rfl:=cT
  replace h:cO aj tw l4 n5 n6=some z1:=h
  unfold cO at h
  refine tS<|aN<|rM J J<|rM J J<|ai.qv (vn J J) J<|rN<|cD h J (fun h=>?_) (fun h=>?_)
  ·refine tK<|ab.block<|aN<|rM J J<|rM J J<|rM J J<|rM J J<|aF h fun v7 e1 h=>bd J (jB K8 (gl e1)) cR (.cons .p0 .nil) J J<|ai.ghost<|ak.eqs (s:=0) (dF:=.sl 4 bc 0 v7.length) J (congrArg (AV.sl 4 bc 0) (bO e1))<|ak.here<|ai.ghost<|ak.eqs (s:=14) (dF:=.sl 4 bc 0 v7.length) J (congrArg (AV.sl 4 bc 0) (bO e1))<|ak.here<|rN<|aN<|rM J J<|rA J J<|rN<|tR<|rM J J<|rM J J<|ai.qv (a8 J J) J<|rA J J<|rN<|ab.cd<|ab.stop<|?_
   cases h
   exact im _ _ J<|ak.lq [0] J J J
  ·refine ab.exit J<|have h:=cr h fw;?_
   unfold iY at h
   refine aN<|rM J J<|rM J J<|rM J J<|rM J J<|aF h fun v8 e2 h=>bd J (jB K8 (gl e2)) cR (.cons .p0 .nil) J J<|ai.ghost<|ak.eqs (s:=0) (dF:=.sl 4 bc 0 v8.length) J (congrArg (AV.sl 4 bc 0) (bO e2))<|ak.here<|ai.ghost<|ak.eqs (s:=23) (dF:=.sl 4 bc 0 v8.length) J (congrArg (AV.sl 4 bc 0) (bO e2))<|ak.here<|rN<|ab.block<|ab.bV (fun x:(List ah)×Int=>cN aj tw x.1 x.2) (fun x aL=>aL=⟨63,[(0,.sl 4 bc 0 x.1.length),(1,I aj),(2,.func (.func D0) FA),(6,I x.2)],[(bc,dQ x.1)]⟩) h ?_ ?_
   ·exact ak.lq [0] J J J
   ·intro x z2 aL J2 cT h wb wR
    obtain ⟨jE,n12⟩:=x
    obtain rfl:=cT
    replace h:cN aj tw jE n12=some z2:=h
    unfold cN at h
    refine tS<|aN<|rM J J<|rM J J<|ai.qv (bB J J) J<|rN<|cD h J (fun h=>?_) (fun h=>?_)
    ·refine tK<|ab.block<|aN<|rM J J<|ai.qv (u4 J J) J<|rA J J<|rA J J<|rN<|tS<|ab.block<|ab.bV (fun x:(List ah)×Int×Int=>cM aj tw n12 x.1 x.2.1 x.2.2) (fun x aL=>aL=⟨63,[(0,.sl 4 bc 0 x.1.length),(1,I aj),(2,.func (.func D0) FA),(6,I n12),(7,I x.2.1),(8,I x.2.2)],[(bc,dQ x.1)]⟩) h ?_ ?_
     ·exact ak.lq [0] J J J
     ·intro x z3 aL J3 cT h IL JD
      obtain ⟨gm,n17,n18⟩:=x
      obtain rfl:=cT
      replace h:cM aj tw n12 gm n17 n18=some z3:=h
      unfold cM at h
      refine tS<|aN<|rM J J<|rM J J<|ai.qv (vn J J) J<|rN<|cD h J (fun h=>?_) (fun h=>?_)
      ·refine tK<|ab.block<|aN<|rM J J<|rM J J<|rM J J<|rM J J<|ai.qv (a8 J J) J<|rM J J<|rM J J<|aF h fun C0 e3 h=>bd J (ly K8 (gl e3)) cR (.cons .p0 .nil) J J<|ai.ghost<|ak.eqs (s:=0) (dF:=.sl 4 bc 0 C0.length) J (congrArg (AV.sl 4 bc 0) (bO e3))<|ak.here<|ai.ghost<|ak.eqs (s:=36) (dF:=.sl 4 bc 0 C0.length) J (congrArg (AV.sl 4 bc 0) (bO e3))<|ak.here<|rN<|aN<|rM J J<|rA J J<|rN<|tR<|rM J J<|rM J J<|ai.qv (u4 J J) J<|ai.qv (a8 J J) J<|rA J J<|rN<|ab.cd<|ab.stop<|?_
       cases h
       exact IL _ _ J<|ak.lq [0] J J J
      ·refine ab.exit J<|have h:=cr h JD;?_
       unfold fI at h
       refine tS<|aN<|rM J J<|rM J J<|ai.qv (a8 J J) J<|rA J J<|rN<|aN<|rM J J<|rM J J<|ai.qv (bB J J) J<|rN<|ab.cut (fun aL=>∃ (vZ:List ah),fH n12 vZ=some z2∧aL=⟨63,[(0,.sl 4 bc 0 vZ.length),(1,I aj),(2,.func (.func D0) FA),(6,I n12)],[(bc,dQ vZ)]⟩) ?_ ?_
       ·refine cD h J (fun h=>?_) (fun h=>?_)
        ·exact tR<|rM J J<|rM J J<|rM J J<|rM J J<|rM J J<|aF h fun v21 e4 h=>bd J (ly K8 (gl e4)) cR (.cons .p0 .nil) J J<|ai.ghost<|ak.eqs (s:=0) (dF:=.sl 4 bc 0 v21.length) J (congrArg (AV.sl 4 bc 0) (bO e4))<|ak.here<|ai.ghost<|ak.eqs (s:=55) (dF:=.sl 4 bc 0 v21.length) J (congrArg (AV.sl 4 bc 0) (bO e4))<|ak.here<|rN<|ab.stop<|ak.lq [0] ⟨v21,h,J⟩ J J
        ·exact tK<|ab.stop<|ak.lq [0] ⟨gm,h,J⟩ J J
       ·rintro aL ⟨vZ,h,rfl⟩
        unfold fH at h
        refine tR<|rM J J<|ai.qv (u4 J J) J<|rA J J<|rN<|ab.cd<|ab.stop<|?_
        cases h
        exact wb _ _ J<|ak.lq [0] J J J
    ·refine ab.exit J<|have h:=cr h wR;ab.nil<|?_
     cases h
     exact ak.here ⟨_,.nil,_,.cons .p0 .nil,⟨J,J⟩⟩
end Go.Proofs.YthamhifbccpcpaaGreatDoor
