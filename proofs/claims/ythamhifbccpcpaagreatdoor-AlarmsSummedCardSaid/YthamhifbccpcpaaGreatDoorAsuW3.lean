/- The code computes the plain functions: proofs written by shal.py. -/
import Derived.Test.YthamhifbccpcpaaGreatDoorAsuW2
set_option maxHeartbeats 4000000
set_option maxRecDepth 100000
set_option linter.unusedVariables false
set_option linter.unusedSimpArgs false
namespace Go.Proofs.YthamhifbccpcpaaGreatDoor
open Go Go.Eng Go.Proofs Go.Beacon
attribute [local irreducible] ae aa AQ QV aJ ai OY AM
theorem wJ {ab:aI} {r:Signal×Bool} (h:kp ab=some r):Pu Tryz.prog 73 [.str ab] (.iV [Signal.av r.1,.bool r.2]):=by
 unfold kp at h
 refine aJ.bD Tryz.func73 J Tryz.ntmps73 Tryz.results73 J J ?_
 refine aM<|bX J J J J fun b1=>rA J J<|rN<|aM<|rM J J<|rM J J<|aF h fun v2 e1 h=>bw J (zg e1) cR J<|ae.qv (aU J J) J<|aF h fun v3 e2 h=>ep J (DH e2) cR .nil (fun _=>J) J fun b4=>rM J J<|rX J J J<|rX J J J<|rA J J<|rA J J<|rN<|tS<|tS<|aa.cut (fun aG=>∃ (c5:Bool),ib v3 c5=some r∧aG=⟨81,[(2,.ptr b1 0),(4,.sl 1 b4 0 v3.1.length),(22,.bool c5)],[(b1,.cells [I (0:Int),I (0:Int),.str [],.str [],.str [],I (0:Int)]),(b4,uM v3.1)]⟩) ?_ ?_
 ·refine tR<|rM J J<|ae.qv (fj J) J<|rM J J<|ae.guard J J J (fun hc=>?_) (fun hc=>?_)
  ·rw [P5 hc] at h
   exact rM J J<|rY J J J<|ae.qv (cH J) J<|rY J J J<|ae.qv (bH J J) J<|rE J J J<|rN<|aa.stop<|ai.lq [1,0] ⟨decide ((v3.1.length:Int) < (4:Int)),h,J⟩ J J
  ·rw [P4 hc] at h
   exact rG J J J J<|rG J J J J<|rT J J J<|rN<|aa.stop<|ai.lq [1,0] ⟨true,h,J⟩ J J
 ·rintro aG ⟨c5,h,rfl⟩
  unfold ib at h
  refine cB h J (fun h=>?_) (fun h=>?_)
  ·refine aM<|ae.qv (db J J J J J) J<|aB J J J J .p0 J J<|rA J J<|rN<|aa.ret<|?_
   cases h
   exact ai.here ⟨_,.cons (.all _ _ _ _ _ _ J .p0 aE.h aX.h J J) (.cons (.tmp _ _ J) .nil),J⟩
  ·refine tK<|tS<|aa.bL (id:=4) (A:=[0,0,2,6,15,31]) 6 mixed J (by kernel_rfl) (by kernel_rfl)<|AM.jV J (wh J) cR J<|AM.qv (aA J) J<|aF h fun v6 e3 h=>AM.qv (aS J J J e3) J<|AM.qv (bl (g:=AV.str) J J (.inl .p1) e3 J) J<|aF h fun v7 e4 h=>AM.jV J (gS e4) cR J<|AM.qv (cU J) J<|AM.nil<|rN<|tS<|tS<|aa.cut (fun aG=>∃ (c8:Bool),fL v3 v7 c8=some r∧aG=⟨81,[(2,.ptr b1 0),(4,.sl 1 b4 0 v3.1.length),(6,I v7),(39,.bool c8)],[(b1,.cells [I (0:Int),I (0:Int),.str [],.str [],.str [],I (0:Int)]),(b4,uM v3.1)]⟩) ?_ ?_
   ·refine tR<|rM J J<|ae.qv (bH J J) J<|rM J J<|gF h J J J (fun h=>?_) (fun h=>?_)
    ·exact rM J J<|rY J J J<|ae.qv (cH J) J<|rY J J J<|ba (xs:=([(4:Int),(4:Int),(5:Int),(6:Int),(5:Int)]).map I) J J J J J J<|rY J J J<|rM J J<|rY J J J<|aF h fun v9 e5 h=>ae.qv (bJ J J J e5 J J) J<|rY J J J<|ae.qv (aH J J J) J<|rY J J J<|ae.qv (jb J J) J<|rE J J J<|rN<|aa.stop<|ai.lq [0,0] ⟨decide ((v3.1.length:Int)≠v9),h,J⟩ J J
    ·exact rG J J J J<|rG J J J J<|rG J J J J<|rG J J J J<|rG J J J J<|rG J J J J<|rT J J J<|rN<|aa.stop<|ai.lq [0,0] ⟨true,h,J⟩ J J
   ·rintro aG ⟨c8,h,rfl⟩
    unfold fL at h
    refine cB h J (fun h=>?_) (fun h=>?_)
    ·refine aM<|ae.qv (db J J J J J) J<|aB J J J J .p0 J J<|rA J J<|rN<|aa.ret<|?_
     cases h
     exact ai.here ⟨_,.cons (.all _ _ _ _ _ _ J .p0 aE.h aX.h J J) (.cons (.tmp _ _ J) .nil),J⟩
    ·refine tK<|tS<|aF h fun v10 e6 h=>aF h fun v11 e7 h=>aa.iS (id:=7) (A:=[0,1,0,4,12,0,32,96,255,0,1023]) (H0:=[]) (HH:=fun β=>[((β 9),.cells [I (0:Int),I (0:Int),.str [],.str [],.str [],I (0:Int)]),(b1,.cells [I (0:Int),I (0:Int),.str [],.str [],.str [],I (0:Int)]),(b4,uM v3.1)]) 10 mixed J (by kernel_rfl) (by kernel_rfl) [⟨some 9,none,[],fun b=>(b,.cells [I (0:Int),I (0:Int),.str [],.str [],.str [],I (0:Int)]),none,[]⟩] [9] J (by kernel_rfl) J .nil (fun _=>J)<|AT.am 9 J J<|AM.qv (aA J) J<|AM.qv (aU J J) J<|AM.qv (aA J) J<|AM.qv (aS J J J e6) J<|AM.qv (bl (g:=AV.str) J J (.inl .p1) e6 J) J<|AM.qv (aA J) J<|AM.qv (aS J J J e7) J<|AM.qv (bl (g:=AV.str) J J (.inl .p1) e7 J) J<|AM.qv (db J J J J J) J<|AM.nil<|AT.BF (V:=fun b=>.ptr b 0) (Ti:=[]) (Pi:=fun b=>[(b,.cells [I (0:Int),I (0:Int),.str [],.str [],.str [],I (0:Int)])]) (fun _=>J) (fun _=>J) (fun _ _=>J) J (fun _=>J) J J J ?_ ?_
     ·exact bX J J J J fun xx=>ae.nil ⟨xx,_,J,J⟩
     refine AT.ub (fun _=>J) fun β=>?_
     generalize β 9=xx
     clear β
     refine aB J J J J .p0 J J<|rN<|aM<|rM J J<|aF h fun oN e8 h=>ae.qv (aS J J J e8) J<|ae.qv (bl (g:=AV.str) J J (.inl .p2) e8 J) J<|aF h fun mB e9 h=>bw J (wi e9) cR J<|rM J J<|rX J J J<|rX J J J<|rF J J J<|aB J J J J .p0 J J<|rA J J<|rN<|tS<|aM<|rM J J<|ae.qv (cH J) J<|ae.qv (ir J J) J<|rN<|aa.cut (fun aG=>∃ (Ih:aI),du v3 v7 v10 v11 mB Ih=some r∧aG=⟨81,[(2,.ptr b1 0),(4,.sl 1 b4 0 v3.1.length),(5,.bool mB.2),(7,.ptr xx 0)],[(b1,.cells [I (0:Int),I (0:Int),.str [],.str [],.str [],I (0:Int)]),(b4,uM v3.1),(xx,.cells [I mB.1,I (aT ((1:Int)+v7)),.str v10,.str v11,.str Ih,I (0:Int)])]⟩) ?_ ?_
     ·refine cD h J (fun h=>?_) (fun h=>?_)
      ·exact tR<|rM J J<|aF h fun og vP h=>ae.qv (aS J J J vP) J<|ae.qv (bl (g:=AV.str) J J (.inl .p2) vP J) J<|rF J J J<|aB J J J J .p0 J J<|rN<|aa.stop<|ai.lq [1,1,0] ⟨og,h,J⟩ J J
      ·exact tK<|aa.stop<|ai.lq [1,1,0] ⟨[],h,J⟩ J J
     ·rintro aG ⟨Ih,h,rfl⟩
      unfold du at h
      refine tS<|tS<|aa.cut (fun aG=>∃ (JX:Bool),jQ v3 v7 v10 v11 mB Ih JX=some r∧aG=⟨81,[(2,.ptr b1 0),(4,.sl 1 b4 0 v3.1.length),(5,.bool mB.2),(7,.ptr xx 0),(70,.bool JX)],[(b1,.cells [I (0:Int),I (0:Int),.str [],.str [],.str [],I (0:Int)]),(b4,uM v3.1),(xx,.cells [I mB.1,I (aT ((1:Int)+v7)),.str v10,.str v11,.str Ih,I (0:Int)])]⟩) ?_ ?_
      ·refine tR<|rM J J<|rM J J<|ae.guard J J J (fun hc=>?_) (fun hc=>?_)
       ·rw [EN hc] at h
        exact rM J J<|rY J J J<|ae.qv (cH J) J<|rY J J J<|ae.qv (ir J J) J<|rT J J J<|rN<|aa.stop<|ai.lq [0,0,0] ⟨decide ((5:Int) < (v3.1.length:Int)),h,J⟩ J J
       ·rw [EO hc] at h
        exact rG J J J J<|rG J J J J<|rE J J J<|rN<|aa.stop<|ai.lq [0,0,0] ⟨false,h,J⟩ J J
      ·rintro aG ⟨JX,h,rfl⟩
       unfold jQ at h
       refine aa.cut (fun aG=>∃ (TO:Bool) (n19:Int),ia v7 v10 v11 mB Ih TO n19=some r∧aG=⟨81,[(2,.ptr b1 0),(5,.bool TO),(7,.ptr xx 0)],[(b1,.cells [I (0:Int),I (0:Int),.str [],.str [],.str [],I (0:Int)]),(xx,.cells [I mB.1,I (aT ((1:Int)+v7)),.str v10,.str v11,.str Ih,I n19])]⟩) ?_ ?_
       ·refine cB h J (fun h=>?_) (fun h=>?_)
        ·exact tR<|rM J J<|aF h fun v20 zk h=>ae.qv (aS J J J zk) J<|ae.qv (bl (g:=AV.str) J J (.inl .p1) zk J) J<|aF h fun v21 Gp h=>bw J (wi Gp) cR J<|rM J J<|rX J J J<|rX J J J<|rF J J J<|aB J J J J .p2 J J<|rA J J<|rN<|aa.stop<|ai.lq [0,1] ⟨v21.2,v21.1,h,J⟩ J J
        ·exact tK<|aa.stop<|ai.lq [0,1] ⟨mB.2,(0:Int),h,J⟩ J J
       ·rintro aG ⟨TO,n19,h,rfl⟩
        unfold ia at h
        refine aM<|ae.qv (bb J J .p1 J) J<|rM J J<|aB J J J J .p0 J J<|rA J J<|rN<|aa.ret<|?_
        cases h
        exact ai.here ⟨_,.cons (.all _ _ _ _ _ _ J .p0 aE.h aX.h J J) (.cons (.tmp _ _ J) .nil),J⟩
theorem tP {FG:Bk} {pL:Bk} {ab:aI} {ah:List Signal} {r:Bool×(List Signal)} (h:jI ab ah=some r):aJ Tryz.prog 72 [.str ab,.ptr FG 0] [(FG,.cells [.sl 6 pL 0 ah.length]),(pL,ek ah)] (T1 (fun AW=>[(FG,.cells [.sl 6 AW 0 r.2.length]),(AW,ek r.2)]) (fun AW=>.bool r.1)):=by
 unfold jI at h
 refine aJ.fa ?_
 refine aJ.bD Tryz.func72 J Tryz.ntmps72 Tryz.results72 J J ?_
 refine aM<|rA J J<|rN<|aM<|rM J J<|aF h fun v1 e1 h=>bw J (wJ e1) cR J<|rM J J<|rX J J J<|rX J J J<|bX J J J J fun b2=>aB J J J J .p0 J J<|rA J J<|rN<|aM<|rL J J .p1 J J<|ae.qv (bb J J .p0 J) J<|ba (xs:=([v1.1]:List Signal).map Signal.av) J J J J J J<|aF h fun l3 e2 h=>dA (g:=Signal.av) J J J J J J J J (.list _) e2 (fun _=>.p2) J fun b4=>aB J J J J .p1 J J<|rN<|aM<|rM J J<|rA J J<|rN<|aa.ret<|?_
 cases h
 exact hH J [1,1] J ⟨b4,J,J⟩
theorem oI [GI:bF] {ab:aI} {ah:aI} {r:Bool} (h:cL ab ah=some r):Pu Tryz.prog 308 [.str ab,.str ah] (.bool r):=by
 unfold cL at h
 refine aJ.bD Tryz.func308 J Tryz.ntmps308 Tryz.results308 J J ?_
 refine aM<|rA J J<|rN<|tS<|aa.cut (fun aG=>∃ (c1:Bool),cm c1=some r∧aG=⟨21,[(4,.bool c1)],[]⟩) ?_ ?_
 ·refine tR<|rM J J<|ae.qv (cu J) J<|rM J J<|ae.qv (cu J) J<|ae.qv (rU J J) J<|rM J J<|gT h J J J (fun h=>?_) (fun h=>?_)
  ·exact rM J J<|rY J J J<|rM J J<|rY J J J<|ae.qv (cu J) J<|rY J J J<|rM J J<|rY J J J<|ae.qv (cu J) J<|rY J J J<|ae.qv (bR J J) J<|rY J J J<|aF h fun l2 e1 h=>ae.qv (kC J (.some _ _ _ J) .none J J e1) J<|rY J J J<|rM J J<|rY J J J<|ae.qv (qg J J) J<|rT J J J<|rA J J<|rN<|aa.stop<|ai.lq [] ⟨decide (l2=ah),h,J⟩ J J
  ·exact rG J J J J<|rG J J J J<|rG J J J J<|rG J J J J<|rG J J J J<|rG J J J J<|rG J J J J<|rG J J J J<|rE J J J<|rA J J<|rN<|aa.stop<|ai.lq [] ⟨false,h,J⟩ J J
 ·rintro aG ⟨c1,h,rfl⟩
  unfold cm at h
  refine aa.ret<|?_
  cases h
  exact hP J J
theorem oJ [GI:bF] {ab:aI} {ah:aI} {r:aI×Bool} (h:eA ab ah=some r):Pu Tryz.prog 268 [.str ab,.str ah] (.iV [.str r.1,.bool r.2]):=by
 unfold eA at h
 refine aJ.bD Tryz.func268 J Tryz.ntmps268 Tryz.results268 J J ?_
 refine aM<|rA J J<|rA J J<|rN<|tS<|aM<|rM J J<|rM J J<|aF h fun v1 e1 h=>bw J (oI e1) cR J<|ae.qv (fj J) J<|rN<|cB h J (fun h=>?_) (fun h=>?_)
 ·refine aM<|rM J J<|rA J J<|rA J J<|rN<|aa.ret<|?_
  cases h
  exact hQ J J J
 ·refine tK<|aM<|rM J J<|rM J J<|ae.qv (cu J) J<|rM J J<|ae.qv (cu J) J<|ae.qv (bR J J) J<|aF h fun l2 e2 h=>ae.qv (kC J .none (.some _ _ _ J) J J e2) J<|rA J J<|rA J J<|rN<|aa.ret<|?_
  cases h
  exact hQ J J J
theorem vV [GI:bF] {ab:aI} {ah:aI} {r:aI×Bool} (h:strings_CutSuffix ab ah=some r):Pu Tryz.prog 203 [.str ab,.str ah] (.iV [.str r.1,.bool r.2]):=by
 unfold strings_CutSuffix at h
 refine aJ.bD Tryz.func203 J Tryz.ntmps203 Tryz.results203 J J ?_
 refine aM<|rA J J<|rA J J<|rN<|aM<|rM J J<|rM J J<|aF h fun v1 e1 h=>bw J (oJ e1) cR J<|rX J J J<|rX J J J<|rA J J<|rA J J<|rN<|aa.ret<|?_
 cases h
 exact hQ J J J
theorem DI {ab:aI} {r:(List aI)×Bool} (h:qZ ab=some r):aJ Tryz.prog 142 [.str ab] [] (T1 (fun mS=>[(mS,uM r.1)]) (fun mS=>.iV [.sl 1 mS 0 r.1.length,.bool r.2])):=by
 unfold qZ at h
 refine aJ.fa ?_
 refine aJ.bD Tryz.func142 J Tryz.ntmps142 Tryz.results142 J J ?_
 refine aM<|rA J J<|rA J J<|rN<|tS<|aM<|rM J J<|ae.qv (qg J J) J<|rN<|cD h J (fun h=>?_) (fun h=>?_)
 ·refine aM<|rA J J<|rA J J<|rN<|aa.ret<|?_
  cases h
  exact ai.arr (s:=2) 1 J fun b1=>ai.here ⟨_,.cons (.tmp _ _ J) (.cons (.tmp _ _ J) .nil),_,.cons .p0 .nil,⟨b1,J,J⟩⟩
 ·refine tK<|aM<|rM J J<|aF h fun v2 e1 h=>bw J (vV e1) cR J<|rM J J<|rX J J J<|rX J J J<|rA J J<|rA J J<|rN<|aM<|rM J J<|aF h fun v3 e2 h=>ep J (pR e2) cR .nil (fun _=>J) J fun b4=>rM J J<|rA J J<|rA J J<|rN<|aa.ret<|?_
  cases h
  exact hI J J [0] J ⟨b4,J,J⟩
theorem pM {G9:Bk} {AX:Bk} {ab:aI} {aO:List Signal} {r:Int×Bool×(List Signal)} (h:fx ab aO=some r):aJ Tryz.prog 71 [.str ab,.func (.func 72) [.ptr G9 0]] [(G9,.cells [.sl 6 AX 0 aO.length]),(AX,ek aO)] (T1 (fun AY=>[(G9,.cells [.sl 6 AY 0 r.2.2.length]),(AY,ek r.2.2)]) (fun AY=>.iV [I r.1,.bool r.2.1])):=by
 unfold fx at h
 refine aJ.fa ?_
 refine aJ.bD Tryz.func71 J Tryz.ntmps71 Tryz.results71 J J ?_
 refine aM<|rA J J<|rA J J<|rN<|aM<|rM J J<|aF h fun v1 e1 h=>ep J (DI e1) cR .nil (fun _=>J) J fun b2=>rM J J<|rX J J J<|rX J J J<|rA J J<|rA J J<|rN<|tS<|aM<|rM J J<|ae.qv (cH J) J<|rM J J<|rN<|aa.block<|aa.cj (fun x:(List Signal)×Int=>cN v1 x.1 x.2) (fun x aG=>∃ (b6:Bk),aG=⟨39,[(1,.func (.func 72) [.ptr G9 0]),(6,.sl 1 b2 0 v1.1.length),(7,.bool v1.2),(15,.sl 1 b2 0 v1.1.length),(16,I (v1.1.length:Int)),(17,I x.2)],[(G9,.cells [.sl 6 b6 0 x.1.length]),(b6,ek x.1),(b2,uM v1.1)]⟩) h ?_ ?_
 ·exact ai.lq [1,1,0] ⟨AX,J⟩ J J
 ·intro x z1 aG J1 eZ h mL iQ
  obtain ⟨l7,n8⟩:=x
  obtain ⟨b6,rfl⟩:=eZ
  replace h:cN v1 l7 n8=some z1:=h
  unfold cN at h
  refine aM<|ae.qv (bH J J) J<|rN<|tS<|cD h J (fun h=>?_) (fun h=>?_)
  ·refine tK<|tS<|aa.block<|aM<|rM J J<|aF h fun v9 e2 h=>ae.qv (aS J J J e2) J<|ae.qv (bl (g:=AV.str) J J (.inl .p2) e2 J) J<|rA J J<|rA J J<|rN<|tS<|aa.cut (fun aG=>∃ (nh:Bk) (iU:List Signal) (c12:Bool),cM n8 iU c12=some z1∧aG=⟨39,[(1,.func (.func 72) [.ptr G9 0]),(6,.sl 1 b2 0 v1.1.length),(7,.bool v1.2),(8,I n8),(15,.sl 1 b2 0 v1.1.length),(16,I (v1.1.length:Int)),(17,I n8),(36,.bool c12)],[(G9,.cells [.sl 6 nh 0 iU.length]),(nh,ek iU),(b2,uM v1.1)]⟩) ?_ ?_
   ·refine tR<|rM J J<|ae.qv (fj J) J<|rM J J<|ae.guard J J J (fun hc=>?_) (fun hc=>?_)
    ·refine have h:=uy hc h;rM J J<|rY J J J<|rM J J<|rY J J J<|ae.qv (cH J) J<|rY J J J<|ae.qv (bR J J) J<|rY J J J<|ae.qv (bY J J) J<|rT J J J<|rM J J<|gF h J J J (fun h=>?_) (fun h=>?_)
     ·exact rM J J<|rY J J J<|rM J J<|rY J J J<|aF h fun oN e3 h=>Af J J J (tP e3) cR (.cons .p0 (.cons .p0 .nil)) (fun _=>J) J fun yh=>rY J J J<|ae.qv (fj J) J<|rE J J J<|rN<|aa.stop<|ai.lq [0,0,0] ⟨yh,oN.2,!oN.1,h,J⟩ J J
     ·exact rG J J J J<|rG J J J J<|rG J J J J<|rT J J J<|rN<|aa.stop<|ai.lq [0,0,0] ⟨b6,l7,true,h,J⟩ J J
    ·exact have h:=w5 hc h;rG J J J J<|rG J J J J<|rG J J J J<|rG J J J J<|rE J J J<|rM J J<|rY J J J<|rM J J<|rY J J J<|rM J J<|rY J J J<|aF h fun jP e4 h=>Af J J J (tP e4) cR (.cons .p0 (.cons .p0 .nil)) (fun _=>J) J fun uj=>rY J J J<|ae.qv (fj J) J<|rE J J J<|rN<|aa.stop<|ai.lq [0,0,0] ⟨uj,jP.2,!jP.1,h,J⟩ J J
   ·rintro aG ⟨nh,iU,c12,h,rfl⟩
    unfold cM at h
    refine cB h J (fun h=>?_) (fun h=>?_)
    ·refine aM<|rM J J<|rA J J<|rA J J<|rN<|aa.ret<|have h:=cr h iQ;?_
     cases h
     exact hI J J [0,0] J ⟨nh,J,J⟩
    ·refine tK<|aa.bN<|tR<|ae.qv (aU J J) J<|rM J J<|rN<|aa.stop<|?_
     cases h
     exact mL _ _ J<|ai.lq [0,0,0] ⟨nh,J⟩ J J
  ·refine aa.exit J<|have h:=cr h iQ;aM<|rA J J<|rA J J<|rN<|aa.ret<|?_
   cases h
   exact hI J J [0,0] J ⟨b6,J,J⟩
theorem DJ {ab:aI} {r:(List Signal)×Int×Int} (h:ra ab=some r):aJ Tryz.prog 17 [.str ab] [] (T1 (fun mS=>[(mS,ek r.1)]) (fun mS=>.iV [.sl 6 mS 0 r.1.length,I r.2.1,I r.2.2])):=by
 unfold ra at h
 refine aJ.fa ?_
 refine aJ.bD Tryz.func17 J Tryz.ntmps17 Tryz.results17 J J ?_
 refine aM<|rA J J<|rA J J<|rA J J<|rN<|tS<|aM<|rM J J<|ae.qv (cu J) J<|ae.qv (ir J J) J<|rN<|cD h J (fun h=>?_) (fun h=>?_)
 ·refine aM<|rA J J<|rA J J<|rA J J<|rN<|aa.ret<|?_
  cases h
  exact ai.arr (s:=2) 6 J fun b1=>ai.here ⟨_,.cons (.tmp _ _ J) (.cons (.tmp _ _ J) (.cons (.tmp _ _ J) .nil)),_,.cons .p0 .nil,⟨b1,J,J⟩⟩
 ·refine tK<|aM<|bX J J J J fun b2=>rN<|aM<|rM J J<|ae.qv (ta J) J<|aF h fun v3 e1 h=>ae.ghost<|ai.sj (j:=0) 6 (fun _=>.p0) J (fun _=>J) (fun _=>J) fun b4=>ai.here<|ep J (pM e1) cR (.cons .p1 (.cons .p0 .nil)) (fun _=>J) J fun b5=>rM J J<|rX J J J<|rX J J J<|rA J J<|rA J J<|rN<|tS<|aM<|rM J J<|ae.qv (fj J) J<|rN<|cB h J (fun h=>?_) (fun h=>?_)
  ·refine aM<|rM J J<|rA J J<|rA J J<|rA J J<|rN<|aa.ret<|?_
   cases h
   exact ai.arr (s:=2) 6 J fun b6=>ai.here ⟨_,.cons (.tmp _ _ J) (.cons (.tmp _ _ J) (.cons (.tmp _ _ J) .nil)),_,.cons .p0 .nil,⟨b6,J,J⟩⟩
  ·refine tK<|tS<|aM<|rL J J .p0 J J<|aF h fun v7 e2 h=>jc J (jA e2) (.cons (oq.sg .p1) .nil) J J<|rA J J<|rN<|aM<|rM J J<|ae.qv (jb J J) J<|rN<|cD h J (fun h=>?_) (fun h=>?_)
   ·refine aM<|rM J J<|rA J J<|rA J J<|rA J J<|rN<|aa.ret<|?_
    cases h
    exact ai.arr (s:=2) 6 J fun b8=>ai.here ⟨_,.cons (.tmp _ _ J) (.cons (.tmp _ _ J) (.cons (.tmp _ _ J) .nil)),_,.cons .p0 .nil,⟨b8,J,J⟩⟩
   ·refine tK<|aM<|rL J J .p0 J J<|rA J J<|rA J J<|rA J J<|rN<|aa.ret<|?_
    cases h
    exact ai.here ⟨_,.cons (.tmp _ _ J) (.cons (.tmp _ _ J) (.cons (.tmp _ _ J) .nil)),_,.cons .p1 .nil,⟨b5,J,J⟩⟩
theorem oR [GI:bF] {ab:List aI} {ah:aI} {r:Bool} (h:cZ ab ah=some r):Pu Tryz.prog 77 [JY ab,.str ah] (.bool r):=by
 unfold cZ at h
 refine aJ.bD Tryz.func77 J Tryz.ntmps77 Tryz.results77 J J ?_
 refine aM<|rA J J<|rN<|aM<|rM J J<|rM J J<|aF h fun v1 e1 h=>bw J (gS e1) cR J<|ae.qv (rU J J) J<|rA J J<|rN<|aa.ret<|?_
 cases h
 exact hP J J
theorem AZ {ab:aI} {ah:Int} {r:Int×Bool} (h:pG ab ah=some r):Pu Tryz.prog 79 [.str ab,I ah] (.iV [I r.1,.bool r.2]):=by
 unfold pG at h
 refine aJ.bD Tryz.func79 J Tryz.ntmps79 Tryz.results79 J J ?_
 refine aM<|rA J J<|rA J J<|rN<|aM<|rM J J<|bw J (pz J) cR J<|rA J J<|rN<|tS<|tS<|aa.cut (fun aG=>∃ (c1:Bool),nW ab c1=some r∧aG=⟨38,[(0,.str ab),(23,.bool c1)],[]⟩) ?_ ?_
 ·refine tR<|rM J J<|ae.qv (qg J J) J<|rM J J<|gF h J J J (fun h=>?_) (fun h=>?_)
  ·refine rM J J<|rY J J J<|ae.qv (cu J) J<|rY J J J<|rM J J<|rY J J J<|ae.qv (ir J J) J<|rE J J J<|rM J J<|gF h J J J (fun h=>?_) (fun h=>?_)
   ·exact rM J J<|rY J J J<|aF h fun v2 e1 h=>bw J (uH e1) cR J<|rY J J J<|ae.qv (vY J J) J<|rE J J J<|rN<|aa.stop<|ai.lq [] ⟨decide (v2≠([]:aI)),h,J⟩ J J
   ·exact rG J J J J<|rG J J J J<|rT J J J<|rN<|aa.stop<|ai.lq [] ⟨true,h,J⟩ J J
  ·exact rG J J J J<|rG J J J J<|rG J J J J<|rT J J J<|rM J J<|rG J J J J<|rG J J J J<|rG J J J J<|rT J J J<|rN<|aa.stop<|ai.lq [] ⟨true,h,J⟩ J J
 ·rintro aG ⟨c1,h,rfl⟩
  unfold nW at h
  refine cB h J (fun h=>?_) (fun h=>?_)
  ·refine aM<|rA J J<|rA J J<|rN<|aa.ret<|?_
   cases h
   exact hQ J J J
  ·refine tK<|aM<|rM J J<|aF h fun v3 e2 h=>HZ J (uI e2) cR J fun e4 e3=>rM J J<|rX J J J<|rX J J J<|rA J J<|rA J J<|rN<|tS<|aa.cut (fun aG=>∃ (c5:Bool),pF v3 c5=some r∧aG=⟨38,[(4,I v3.1),(5,.bool c5)],[]⟩) ?_ ?_
   ·refine tR<|rM J J<|rM J J<|ae.qv (Ph e3 J) J<|rM J J<|ae.guard J J J (fun hc=>?_) (fun hc=>?_)
    ·exact have h:=uy hc h;rM J J<|rY J J J<|aF h fun v6 e4 h=>bw J (mh e4) cR J<|rY J J J<|rM J J<|rY J J J<|ae.qv (qg J J) J<|rT J J J<|rA J J<|rA J J<|rN<|aa.stop<|ai.lq [] ⟨decide (v6=ab),h,J⟩ J J
    ·exact have h:=w5 hc h;rG J J J J<|rG J J J J<|rG J J J J<|rE J J J<|rA J J<|rA J J<|rN<|aa.stop<|ai.lq [] ⟨false,h,J⟩ J J
   ·rintro aG ⟨c5,h,rfl⟩
    unfold pF at h
    refine aa.ret<|?_
    cases h
    exact hQ J J J
theorem wK {FG:Bk} {pL:Bk} {ab:aI} {ah:List Signal} {r:Bool×(List Signal)} (h:iD ab ah=some r):aJ Tryz.prog 75 [.str ab,.ptr FG 0] [(FG,.cells [.sl 6 pL 0 ah.length]),(pL,ek ah)] (T1 (fun AW=>[(FG,.cells [.sl 6 AW 0 r.2.length]),(AW,ek r.2)]) (fun AW=>.bool r.1)):=by
 unfold iD at h
 refine aJ.fa ?_
 refine aJ.bD Tryz.func75 J Tryz.ntmps75 Tryz.results75 J J ?_
 refine aM<|rA J J<|rN<|aM<|rM J J<|aF h fun v1 e1 h=>ep J (pR e1) cR .nil (fun _=>J) J fun b2=>rA J J<|rN<|tS<|tS<|aa.cut (fun aG=>∃ (c3:Bool),fN ah v1 c3=some r∧aG=⟨75,[(1,.ptr FG 0),(4,.sl 1 b2 0 v1.length),(18,.bool c3)],[(FG,.cells [.sl 6 pL 0 ah.length]),(pL,ek ah),(b2,uM v1)]⟩) ?_ ?_
 ·refine tR<|rM J J<|ae.qv (cH J) J<|ae.qv (bH J J) J<|rM J J<|gF h J J J (fun h=>?_) (fun h=>?_)
  ·exact rM J J<|rY J J J<|aF h fun v4 e2 h=>jc J (oR e2) (.cons (oq.sg .p0) (.cons (.co (.refl _)) .nil)) J J<|rE J J J<|rN<|aa.stop<|ai.lq [1,1,0] ⟨v4,h,J⟩ J J
  ·exact rG J J J J<|rT J J J<|rN<|aa.stop<|ai.lq [1,1,0] ⟨true,h,J⟩ J J
 ·rintro aG ⟨c3,h,rfl⟩
  unfold fN at h
  refine cB h J (fun h=>?_) (fun h=>?_)
  ·refine aM<|rA J J<|rN<|aa.ret<|?_
   cases h
   exact hH J [0,0] J ⟨pL,J,J⟩
  ·refine tK<|tS<|aa.bL (id:=4) (A:=[0,0,2,6,15,31]) 6 mixed J (by kernel_rfl) (by kernel_rfl)<|AM.jV J (tN J) cR J<|AM.qv (aA J) J<|aF h fun v5 e3 h=>AM.qv (aS J J J e3) J<|AM.qv (bl (g:=AV.str) J J (.inl .p2) e3 J) J<|aF h fun v6 e4 h=>AM.jV J (gS e4) cR J<|AM.qv (cU J) J<|AM.nil<|rN<|tS<|tS<|aa.cut (fun aG=>∃ (c7:Bool),fM ah v1 v6 c7=some r∧aG=⟨75,[(1,.ptr FG 0),(4,.sl 1 b2 0 v1.length),(5,I v6),(34,.bool c7)],[(FG,.cells [.sl 6 pL 0 ah.length]),(pL,ek ah),(b2,uM v1)]⟩) ?_ ?_
   ·refine tR<|rM J J<|ae.qv (bH J J) J<|rM J J<|gF h J J J (fun h=>?_) (fun h=>?_)
    ·exact rM J J<|rY J J J<|ae.qv (cH J) J<|rY J J J<|ba (xs:=([(0:Int),(4:Int),(4:Int),(5:Int),(6:Int),(5:Int)]).map I) J J J J J J<|rY J J J<|rM J J<|rY J J J<|aF h fun v8 e5 h=>ae.qv (bJ J J J e5 J J) J<|rY J J J<|ae.qv (aH J J J) J<|rY J J J<|ae.qv (jb J J) J<|rE J J J<|rN<|aa.stop<|ai.lq [0,0,0] ⟨decide ((v1.length:Int)≠v8),h,J⟩ J J
    ·exact rG J J J J<|rG J J J J<|rG J J J J<|rG J J J J<|rG J J J J<|rG J J J J<|rT J J J<|rN<|aa.stop<|ai.lq [0,0,0] ⟨true,h,J⟩ J J
   ·rintro aG ⟨c7,h,rfl⟩
    unfold fM at h
    refine cB h J (fun h=>?_) (fun h=>?_)
    ·refine aM<|rA J J<|rN<|aa.ret<|?_
     cases h
     exact hH J [0,0] J ⟨pL,J,J⟩
    ·refine tK<|aM<|rM J J<|aF h fun v9 e6 h=>ae.qv (aS J J J e6) J<|ae.qv (bl (g:=AV.str) J J (.inl .p2) e6 J) J<|aF h fun v10 e7 h=>bw J (AZ e7) cR J<|rM J J<|rX J J J<|rX J J J<|rA J J<|rA J J<|rN<|tS<|aF h fun v11 e8 h=>aF h fun v12 e9 h=>aa.iS (id:=8) (A:=[0,0,0,4,12,0,32,96,255,0,1023]) (H0:=[]) (HH:=fun β=>[((β 9),.cells [I (0:Int),I (0:Int),.str [],.str [],.str [],I (0:Int)]),(FG,.cells [.sl 6 pL 0 ah.length]),(pL,ek ah),(b2,uM v1)]) 10 mixed J (by kernel_rfl) (by kernel_rfl) [⟨some 9,none,[],fun b=>(b,.cells [I (0:Int),I (0:Int),.str [],.str [],.str [],I (0:Int)]),none,[]⟩] [9] J (by kernel_rfl) J .nil (fun _=>J)<|AT.am 9 J J<|AM.qv (aA J) J<|AM.qv (aA J) J<|AM.qv (aA J) J<|AM.qv (aS J J J e8) J<|AM.qv (bl (g:=AV.str) J J (.inl .p2) e8 J) J<|AM.qv (aA J) J<|AM.qv (aS J J J e9) J<|AM.qv (bl (g:=AV.str) J J (.inl .p2) e9 J) J<|AM.qv (db J J J J J) J<|AM.nil<|AT.BF (V:=fun b=>.ptr b 0) (Ti:=[]) (Pi:=fun b=>[(b,.cells [I (0:Int),I (0:Int),.str [],.str [],.str [],I (0:Int)])]) (fun _=>J) (fun _=>J) (fun _ _=>J) J (fun _=>J) J J J ?_ ?_
     ·exact bX J J J J fun FC=>ae.nil ⟨FC,_,J,J⟩
     refine AT.ub (fun _=>J) fun β=>?_
     generalize β 9=FC
     clear β
     refine aB J J J J .p0 J J<|rN<|tS<|aM<|rM J J<|ae.qv (rU J J) J<|rN<|aa.cut (fun aG=>∃ (Ef:aI),dv ah v1 v6 v10 v11 v12 Ef=some r∧aG=⟨75,[(1,.ptr FG 0),(4,.sl 1 b2 0 v1.length),(5,I v6),(7,.bool v10.2),(8,.ptr FC 0)],[(FG,.cells [.sl 6 pL 0 ah.length]),(pL,ek ah),(b2,uM v1),(FC,.cells [I v10.1,I v6,.str v11,.str v12,.str Ef,I (0:Int)])]⟩) ?_ ?_
     ·refine cD h J (fun h=>?_) (fun h=>?_)
      ·exact tR<|rM J J<|aF h fun jP vP h=>ae.qv (aS J J J vP) J<|ae.qv (bl (g:=AV.str) J J (.inl .p3) vP J) J<|rF J J J<|aB J J J J .p0 J J<|rN<|aa.stop<|ai.lq [1,1,1,0] ⟨jP,h,J⟩ J J
      ·exact tK<|aa.stop<|ai.lq [1,1,1,0] ⟨[],h,J⟩ J J
     ·rintro aG ⟨Ef,h,rfl⟩
      unfold dv at h
      refine aM<|rA J J<|rN<|tS<|aM<|rM J J<|ae.qv (bY J J) J<|rN<|aa.cut (fun aG=>∃ (n16:Int) (JX:Bool),ic ah v6 v10 v11 v12 Ef n16 JX=some r∧aG=⟨75,[(1,.ptr FG 0),(7,.bool v10.2),(8,.ptr FC 0),(9,.bool JX)],[(FG,.cells [.sl 6 pL 0 ah.length]),(pL,ek ah),(FC,.cells [I v10.1,I v6,.str v11,.str v12,.str Ef,I n16])]⟩) ?_ ?_
      ·refine cD h J (fun h=>?_) (fun h=>?_)
       ·exact tR<|rM J J<|aF h fun G0 zk h=>ae.qv (aS J J J zk) J<|ae.qv (bl (g:=AV.str) J J (.inl .p2) zk J) J<|aF h fun Bp Gp h=>bw J (AZ Gp) cR J<|rM J J<|rX J J J<|rX J J J<|rF J J J<|aB J J J J .p3 J J<|rA J J<|rN<|aa.stop<|ai.lq [0,0,1] ⟨Bp.1,Bp.2,h,J⟩ J J
       ·exact tK<|aa.stop<|ai.lq [0,0,1] ⟨(0:Int),true,h,J⟩ J J
      ·rintro aG ⟨n16,JX,h,rfl⟩
       unfold ic at h
       refine aM<|rL J J .p0 J J<|ae.qv (bb J J .p2 J) J<|ba (xs:=([(⟨v10.1,v6,v11,v12,Ef,n16⟩:Signal)]).map Signal.av) J J J J J J<|aF h fun tv Ij h=>dA (g:=Signal.av) J J J J J J J J (.list _) Ij (fun _=>.p1) J fun Gq=>aB J J J J .p0 J J<|rN<|tS<|aa.cut (fun aG=>∃ (TP:Bool),jR tv TP=some r∧aG=⟨75,[(3,.bool TP)],[(FG,.cells [.sl 6 Gq 0 tv.length]),(Gq,ek tv)]⟩) ?_ ?_
       ·refine tR<|rM J J<|rM J J<|ae.guard J J J (fun hc=>?_) (fun hc=>?_)
        ·rw [EN hc] at h
         exact rM J J<|rT J J J<|rA J J<|rN<|aa.stop<|ai.lq [0,0] ⟨JX,h,J⟩ J J
        ·rw [EO hc] at h
         exact rE J J J<|rA J J<|rN<|aa.stop<|ai.lq [0,0] ⟨false,h,J⟩ J J
       ·rintro aG ⟨TP,h,rfl⟩
        unfold jR at h
        refine aa.ret<|?_
        cases h
        exact hH J [0,0] J ⟨Gq,J,J⟩
theorem pa {G9:Bk} {AX:Bk} {ab:aI} {aO:List Signal} {r:Int×Bool×(List Signal)} (h:fh ab aO=some r):aJ Tryz.prog 74 [.str ab,.func (.func 75) [.ptr G9 0]] [(G9,.cells [.sl 6 AX 0 aO.length]),(AX,ek aO)] (T1 (fun AY=>[(G9,.cells [.sl 6 AY 0 r.2.2.length]),(AY,ek r.2.2)]) (fun AY=>.iV [I r.1,.bool r.2.1])):=by
 unfold fh at h
 refine aJ.fa ?_
 refine aJ.bD Tryz.func74 J Tryz.ntmps74 Tryz.results74 J J ?_
 refine aM<|rA J J<|rA J J<|rN<|tS<|aM<|rA J J<|rN<|aa.block<|aa.cj (fun x:(List Signal)×aI×Int=>cz x.1 x.2.1 x.2.2) (fun x aG=>∃ (b5:Bk),aG=⟨30,[(0,.str x.2.1),(1,.func (.func 75) [.ptr G9 0]),(6,I x.2.2)],[(G9,.cells [.sl 6 b5 0 x.1.length]),(b5,ek x.1)]⟩) h ?_ ?_
 ·exact ai.lq [0,0] ⟨AX,J⟩ J J
 ·intro x z1 aG J1 eZ h mL iQ
  obtain ⟨l6,q7,n8⟩:=x
  obtain ⟨b5,rfl⟩:=eZ
  replace h:cz l6 q7 n8=some z1:=h
  unfold cz at h
  refine tS<|aM<|rM J J<|ae.qv (vY J J) J<|rN<|cD h J (fun h=>?_) (fun h=>?_)
  ·refine tK<|tS<|aa.block<|aM<|rM J J<|aF h fun v9 e1 h=>bw J (BM e1) cR J<|rM J J<|rX J J J<|rX J J J<|rX J J J<|rA J J<|rA J J<|rA J J<|rN<|tS<|tS<|aa.cut (fun aG=>∃ (nh:Bk) (iU:List Signal) (c12:Bool),ea n8 v9 iU c12=some z1∧aG=⟨30,[(1,.func (.func 75) [.ptr G9 0]),(6,I n8),(8,.str v9.2.1),(27,.bool c12)],[(G9,.cells [.sl 6 nh 0 iU.length]),(nh,ek iU)]⟩) ?_ ?_
   ·refine tR<|rM J J<|ae.qv (fj J) J<|rM J J<|ae.guard J J J (fun hc=>?_) (fun hc=>?_)
    ·exact have h:=w5 hc h;rM J J<|rY J J J<|rM J J<|rY J J J<|aF h fun oN e2 h=>Af J J J (wK e2) cR (.cons .p0 (.cons .p0 .nil)) (fun _=>J) J fun yh=>rY J J J<|ae.qv (fj J) J<|rE J J J<|rN<|aa.stop<|ai.lq [0,0] ⟨yh,oN.2,!oN.1,h,J⟩ J J
    ·exact have h:=uy hc h;rG J J J J<|rG J J J J<|rG J J J J<|rT J J J<|rN<|aa.stop<|ai.lq [0,0] ⟨b5,l6,true,h,J⟩ J J
   ·rintro aG ⟨nh,iU,c12,h,rfl⟩
    unfold ea at h
    refine cB h J (fun h=>?_) (fun h=>?_)
    ·refine aM<|rM J J<|rA J J<|rA J J<|rN<|aa.ret<|have h:=cr h iQ;?_
     cases h
     exact hI J J [0,0] J ⟨nh,J,J⟩
    ·refine tK<|tR<|rM J J<|rA J J<|rN<|aa.bN<|tR<|rM J J<|ae.qv (aU J J) J<|rA J J<|rN<|aa.stop<|?_
     cases h
     exact mL _ _ J<|ai.lq [0,0] ⟨nh,J⟩ J J
  ·refine aa.exit J<|have h:=cr h iQ;aM<|rA J J<|rA J J<|rN<|aa.ret<|?_
   cases h
   exact hI J J [0,0] J ⟨b5,J,J⟩
theorem zt {ab:aI} {r:(List Signal)×Int×Int} (h:nf ab=some r):aJ Tryz.prog 18 [.str ab] [] (T1 (fun mS=>[(mS,ek r.1)]) (fun mS=>.iV [.sl 6 mS 0 r.1.length,I r.2.1,I r.2.2])):=by
 unfold nf at h
 refine aJ.fa ?_
 refine aJ.bD Tryz.func18 J Tryz.ntmps18 Tryz.results18 J J ?_
 refine aM<|rA J J<|rA J J<|rA J J<|rN<|tS<|aM<|rM J J<|ae.qv (cu J) J<|ae.qv (ir J J) J<|rN<|cD h J (fun h=>?_) (fun h=>?_)
 ·refine aM<|rA J J<|rA J J<|rA J J<|rN<|aa.ret<|?_
  cases h
  exact ai.arr (s:=2) 6 J fun b1=>ai.here ⟨_,.cons (.tmp _ _ J) (.cons (.tmp _ _ J) (.cons (.tmp _ _ J) .nil)),_,.cons .p0 .nil,⟨b1,J,J⟩⟩
 ·refine tK<|aM<|bX J J J J fun b2=>rN<|aM<|rM J J<|ae.qv (ta J) J<|aF h fun v3 e1 h=>ae.ghost<|ai.sj (j:=0) 6 (fun _=>.p0) J (fun _=>J) (fun _=>J) fun b4=>ai.here<|ep J (pa e1) cR (.cons .p1 (.cons .p0 .nil)) (fun _=>J) J fun b5=>rM J J<|rX J J J<|rX J J J<|rA J J<|rA J J<|rN<|tS<|aM<|rM J J<|ae.qv (fj J) J<|rN<|cB h J (fun h=>?_) (fun h=>?_)
  ·refine aM<|rM J J<|rA J J<|rA J J<|rA J J<|rN<|aa.ret<|?_
   cases h
   exact ai.arr (s:=2) 6 J fun b6=>ai.here ⟨_,.cons (.tmp _ _ J) (.cons (.tmp _ _ J) (.cons (.tmp _ _ J) .nil)),_,.cons .p0 .nil,⟨b6,J,J⟩⟩
  ·refine tK<|tS<|aM<|rL J J .p0 J J<|aF h fun v7 e2 h=>jc J (o6 e2) (.cons (oq.sg .p1) .nil) J J<|rA J J<|rN<|aM<|rM J J<|ae.qv (jb J J) J<|rN<|cD h J (fun h=>?_) (fun h=>?_)
   ·refine aM<|rM J J<|rA J J<|rA J J<|rA J J<|rN<|aa.ret<|?_
    cases h
    exact ai.arr (s:=2) 6 J fun b8=>ai.here ⟨_,.cons (.tmp _ _ J) (.cons (.tmp _ _ J) (.cons (.tmp _ _ J) .nil)),_,.cons .p0 .nil,⟨b8,J,J⟩⟩
   ·refine tK<|aM<|rL J J .p0 J J<|rA J J<|rA J J<|rA J J<|rN<|aa.ret<|?_
    cases h
    exact ai.here ⟨_,.cons (.tmp _ _ J) (.cons (.tmp _ _ J) (.cons (.tmp _ _ J) .nil)),_,.cons .p1 .nil,⟨b5,J,J⟩⟩
theorem qa [GI:bF] {ab:List Signal} {ah:List Signal} {r:Bool} (h:fI ab ah=some r):Pu Tryz.prog 19 [iW ab,iW ah] (.bool r):=by
 unfold fI at h
 refine aJ.bD Tryz.func19 J Tryz.ntmps19 Tryz.results19 J J ?_
 refine aM<|rA J J<|rN<|tS<|aM<|rM J J<|ae.qv (dz J) J<|rM J J<|ae.qv (dz J) J<|ae.qv (jb J J) J<|rN<|cD h J (fun h=>?_) (fun h=>?_)
 ·refine aM<|rA J J<|rN<|aa.ret<|?_
  cases h
  exact hP J J
 ·refine tK<|tS<|aM<|rM J J<|ae.qv (dz J) J<|rM J J<|rN<|aa.block<|aa.cj (fun x:Int=>eS ab ah x) (fun x aG=>aG=⟨26,[(0,iW ab),(1,iW ah),(12,I (ab.length:Int)),(13,I x)],[]⟩) h ?_ ?_
  ·exact ai.lq [] J J J
  ·intro n2 z1 aG J1 eZ h mL iQ
   obtain rfl:=eZ
   replace h:eS ab ah n2=some z1:=h
   unfold eS at h
   refine aM<|ae.qv (bH J J) J<|rN<|tS<|cD h J (fun h=>?_) (fun h=>?_)
   ·refine tK<|tS<|aa.block<|aM<|rM J J<|rA J J<|rN<|tS<|aa.bL (id:=6) (A:=[0,0,3,7,0,0,48,112,255]) 9 mixed J (by kernel_rfl) (by kernel_rfl)<|AM.qv (aA J) J<|AM.qv (aA J) J<|aF h fun v3 e1 h=>AM.qv (bJ J J J e1 J J) J<|AM.qv (bA J J J) J<|AM.qv (aA J) J<|AM.qv (aA J) J<|aF h fun v4 e2 h=>AM.qv (bJ J J J e2 J J) J<|AM.qv (bA J J J) J<|AM.qv (O7 (g:=Signal.av) (X:=v3) (Y:=v4) J J J J J) J<|AM.nil<|rN<|cD h J (fun h=>?_) (fun h=>?_)
    ·refine aM<|rA J J<|rN<|aa.ret<|have h:=cr h iQ;?_
     cases h
     exact hP J J
    ·refine tK<|aa.bN<|tR<|ae.qv (aU J J) J<|rM J J<|rN<|aa.stop<|?_
     cases h
     exact mL _ _ J<|ai.lq [] J J J
   ·refine aa.exit J<|have h:=cr h iQ;aM<|rA J J<|rN<|aa.ret<|?_
    cases h
    exact hP J J
theorem xA [GI:bF] {ab:List Signal} {ah:aI} {aO:aI} {r:Int} (h:lp ab ah aO=some r):Pu Tryz.prog 150 [iW ab,.str ah,.str aO] (I r):=by
 unfold lp at h
 refine aJ.bD Tryz.func150 J Tryz.ntmps150 Tryz.results150 J J ?_
 refine aM<|rA J J<|rN<|tS<|aM<|rM J J<|aF h fun v1 e1 h=>bw J (jA e1) cR J<|rA J J<|rN<|aM<|rM J J<|ae.qv (jb J J) J<|rN<|cD h J (fun h=>?_) (fun h=>?_)
 ·refine aM<|rM J J<|rA J J<|rN<|aa.ret<|?_
  cases h
  exact hP J J
 ·refine tK<|tS<|tS<|aa.cut (fun aG=>∃ (c2:Bool),iN c2=some r∧aG=⟨21,[(20,.bool c2)],[]⟩) ?_ ?_
  ·refine tR<|rM J J<|aF h fun v3 e2 h=>bw J (ri e2) cR J<|ae.qv (fj J) J<|rM J J<|ae.guard J J J (fun hc=>?_) (fun hc=>?_)
   ·exact have h:=w5 hc h;rM J J<|rY J J J<|aF h fun v4 e3 h=>bw J (ri e3) cR J<|rY J J J<|ae.qv (fj J) J<|rE J J J<|rN<|aa.stop<|ai.lq [] ⟨!v4,h,J⟩ J J
   ·exact have h:=uy hc h;rG J J J J<|rG J J J J<|rT J J J<|rN<|aa.stop<|ai.lq [] ⟨true,h,J⟩ J J
  ·rintro aG ⟨c2,h,rfl⟩
   unfold iN at h
   refine cB h J (fun h=>?_) (fun h=>?_)
   ·refine aM<|rA J J<|rN<|aa.ret<|?_
    cases h
    exact hP J J
   ·refine tK<|aM<|rA J J<|rN<|aa.ret<|?_
    cases h
    exact hP J J
theorem xB [GI:bF] {ab:ak} {ah:Int} {r:fb×Bool} (h:lu ab ah=r):Pu Tryz.prog 152 [.eo [.str ab.aR.aK,.str ab.aR.aN,I ab.az,I ab.bM,gx ab.aD,I ab.ay,qC ab.eV,qC ab.bC,qC ab.bh,gx ab.bf,gx ab.aW],I ah] (.iV [fb.av r.1,.bool r.2]):=by
 unfold lu at h
 refine aJ.bD Tryz.func152 J Tryz.ntmps152 Tryz.results152 J J ?_
 refine aM<|bX J J J J fun b1=>rA J J<|rN<|tS<|aa.iS (id:=1) (A:=[0,1,3,7,15,0,32,96,224,480,0,1024,3072,7168,0,16384,49152,114688,0,262144,786432,1835008,3932160,8388607,0,33554431]) (H0:=[]) (HH:=fun β=>[((β 24),.cells [.str [],.str [],I (0:Int),I (0:Int),I (0:Int),I (0:Int)]),(b1,.cells [.str [],.str [],I (0:Int),I (0:Int),I (0:Int),I (0:Int)])]) 25 mixed J (by kernel_rfl) (by kernel_rfl) [⟨some 24,none,[],fun b=>(b,.cells [.str [],.str [],I (0:Int),I (0:Int),I (0:Int),I (0:Int)]),none,[]⟩] [24] J (by kernel_rfl) J .nil (fun _=>J)<|AT.am 24 J J<|AM.qv (aA J) J<|AM.qv (aP J) J<|AM.qv (aQ J J) J<|AM.qv (aQ J J) J<|AM.qv (aH J J J) J<|AM.qv (aA J) J<|AM.qv (aP J) J<|AM.qv (aQ J J) J<|AM.qv (aQ J J) J<|AM.qv (aH J J J) J<|AM.qv (aA J) J<|AM.qv (aP J) J<|AM.qv (aQ J J) J<|AM.qv (aH J J J) J<|AM.qv (aA J) J<|AM.qv (aP J) J<|AM.qv (aQ J J) J<|AM.qv (aH J J J) J<|AM.qv (aA J) J<|AM.qv (aP J) J<|AM.qv (aQ J J) J<|AM.qv (aH J J J) J<|AM.qv (dz J) J<|AM.qv (db J J J J J) J<|AM.nil<|AT.BF (V:=fun b=>.ptr b 0) (Ti:=[]) (Pi:=fun b=>[(b,.cells [.str [],.str [],I (0:Int),I (0:Int),I (0:Int),I (0:Int)])]) (fun _=>J) (fun _=>J) (fun _ _=>J) J (fun _=>J) J J J ?_ ?_
 ·exact bX J J J J fun b2=>ae.nil ⟨b2,_,J,J⟩
 refine AT.ub (fun _=>J) fun β=>?_
 generalize β 24=b2
 clear β
 refine aB J J J J .p0 J J<|rN<|tS<|aM<|rM J J<|ae.qv (aP J) J<|ae.qv (aQ J J) J<|ae.qv (aH J J J) J<|rM J J<|ae.qv (ir J J) J<|rN<|aa.cut (fun aG=>∃ (n3:Int),iP ab n3=r∧aG=⟨51,[(4,.ptr b1 0),(6,.ptr b2 0)],[(b1,.cells [.str [],.str [],I (0:Int),I (0:Int),I (0:Int),I (0:Int)]),(b2,.cells [.str ab.aR.aK,.str ab.aR.aN,I ab.az,I ab.bM,I (ab.aD.length:Int),I n3])]⟩) ?_ ?_
 ·refine cD h J (fun h=>?_) (fun h=>?_)
  ·exact tR<|rM J J<|ae.qv (aP J) J<|ae.qv (aQ J J) J<|ae.qv (aH J J J) J<|rF J J J<|aB J J J J .p0 J J<|rN<|aa.stop<|ai.lq [1,0] ⟨ab.ay,h,J⟩ J J
  ·exact tK<|aa.stop<|ai.lq [1,0] ⟨(0:Int),h,J⟩ J J
 ·rintro aG ⟨n3,h,rfl⟩
  unfold iP at h
  refine tS<|aa.cut (fun aG=>∃ (c4:Bool),iO ab n3 c4=r∧aG=⟨51,[(4,.ptr b1 0),(5,.bool c4)],[(b1,.cells [.str ab.aR.aK,.str ab.aR.aN,I ab.az,I ab.bM,I (ab.aD.length:Int),I n3])]⟩) ?_ ?_
  ·refine Classical.byCases (p:=ab.az≠(0:Int)) (fun LH=>?_) (fun LH=>?_)
   ·replace h:=uy LH h
    refine aa.iS (id:=4) (A:=[0,0,2,6,14,30,62,126,254,31,1023]) (H0:=[(b1,.cells [.str [],.str [],I (0:Int),I (0:Int),I (0:Int),I (0:Int)])]) (HH:=fun β=>[(b1,.cells [.str ab.aR.aK,.str ab.aR.aN,I ab.az,I ab.bM,I (ab.aD.length:Int),I n3]),(b2,.cells [.str ab.aR.aK,.str ab.aR.aN,I ab.az,I ab.bM,I (ab.aD.length:Int),I n3])]) 10 mixed J (by kernel_rfl) (by kernel_rfl) [⟨none,some 9,[],fun _=>(b1,.cells [.str [],.str [],I (0:Int),I (0:Int),I (0:Int),I (0:Int)]),none,[]⟩,⟨some 9,none,[],fun _=>(b1,.cells [.str ab.aR.aK,.str ab.aR.aN,I ab.az,I ab.bM,I (ab.aD.length:Int),I n3]),none,[]⟩] [] J (by kernel_rfl) J (.cons .p0 .nil) (fun _=>J)<|AT.am 9 J J<|AM.qv (bb J J .p0 J) J<|AM.qv (aC J J) J<|AM.qv (aL J J .p0 J) J<|AM.qv (jb J J) J<|AM.qv (QV.dT LH (aA J)) J<|AM.bn J J J J<|AM.bn J J J J<|AM.bn J J J J<|AM.qv (pr J J) J<|AM.nil<|AT.BG (Ti:=[(b1,.cells [.str [],.str [],I (0:Int),I (0:Int),I (0:Int),I (0:Int)])]) (Pi:=[(b1,.cells [.str ab.aR.aK,.str ab.aR.aN,I ab.az,I ab.bM,I (ab.aD.length:Int),I n3])]) (fun _=>J) (fun _=>J) (fun _=>J) J J ?_ ?_
    ·exact aB J J J J .p0 J J<|ae.nil ⟨_,J⟩
    exact AT.ub (fun _=>J) fun β=>rA J J<|rN<|aa.stop<|ai.lq [0] ⟨true,h,J⟩ J J
   ·replace h:=EI LH h
    refine aa.iS (id:=4) (A:=[0,0,2,6,14,30,62,126,254,31,1023]) (H0:=[(b1,.cells [.str [],.str [],I (0:Int),I (0:Int),I (0:Int),I (0:Int)])]) (HH:=fun β=>[(b1,.cells [.str ab.aR.aK,.str ab.aR.aN,I ab.az,I ab.bM,I (ab.aD.length:Int),I n3]),(b2,.cells [.str ab.aR.aK,.str ab.aR.aN,I ab.az,I ab.bM,I (ab.aD.length:Int),I n3])]) 10 mixed J (by kernel_rfl) (by kernel_rfl) [⟨none,some 9,[],fun _=>(b1,.cells [.str [],.str [],I (0:Int),I (0:Int),I (0:Int),I (0:Int)]),none,[]⟩,⟨some 9,none,[],fun _=>(b1,.cells [.str ab.aR.aK,.str ab.aR.aN,I ab.az,I ab.bM,I (ab.aD.length:Int),I n3]),none,[]⟩] [] J (by kernel_rfl) J (.cons .p0 .nil) (fun _=>J)<|AT.am 9 J J<|AM.qv (bb J J .p0 J) J<|AM.qv (aC J J) J<|AM.qv (aL J J .p0 J) J<|AM.qv (jb J J) J<|AM.qv (QV.dF LH (aA J)) J<|AM.bc J J J<|AM.qv (aC J J) J<|AM.bc J J J<|AM.qv (aL J J .p0 J) J<|AM.bc J J J<|AM.qv (ir J J) J<|AM.qv (ps J J) J<|AM.nil<|AT.BG (Ti:=[(b1,.cells [.str [],.str [],I (0:Int),I (0:Int),I (0:Int),I (0:Int)])]) (Pi:=[(b1,.cells [.str ab.aR.aK,.str ab.aR.aN,I ab.az,I ab.bM,I (ab.aD.length:Int),I n3])]) (fun _=>J) (fun _=>J) (fun _=>J) J J ?_ ?_
    ·exact aB J J J J .p0 J J<|ae.nil ⟨_,J⟩
    exact AT.ub (fun _=>J) fun β=>rA J J<|rN<|aa.stop<|ai.lq [0] ⟨decide ((0:Int) < n3),h,J⟩ J J
  ·rintro aG ⟨c4,h,rfl⟩
   unfold iO at h
   refine aa.ret<|?_
   obtain rfl:=h
   exact ai.here ⟨_,.cons (.all _ _ _ _ _ _ J .p0 aE.h aX.h J J) (.cons (.tmp _ _ J) .nil),J⟩
theorem zu [GI:bF] {ab:List Signal} {ah:aI} {aO:aI} {bE:Int} {r:fb×Int} (h:ng ab ah aO bE=some r):Pu Tryz.prog 80 [iW ab,.str ah,.str aO,I bE] (.iV [fb.av r.1,I r.2]):=by
 unfold ng at h
 refine aJ.bD Tryz.func80 J Tryz.ntmps80 Tryz.results80 J J ?_
 refine aM<|bX J J J J fun b1=>rA J J<|rN<|tS<|aM<|rM J J<|rM J J<|rM J J<|aF h fun v2 e1 h=>bw J (xA e1) cR J<|rA J J<|rN<|aM<|rM J J<|ae.qv (jb J J) J<|rN<|cD h J (fun h=>?_) (fun h=>?_)
 ·refine aM<|ae.qv (db J J J J J) J<|rM J J<|aB J J J J .p0 J J<|rA J J<|rN<|aa.ret<|?_
  cases h
  exact ai.here ⟨_,.cons (.all _ _ _ _ _ _ J .p0 aE.h aX.h J J) (.cons (.tmp _ _ J) .nil),J⟩
 ·refine tK<|tS<|aM<|rM J J<|bw J (wg J) cR J<|ae.qv (fj J) J<|rN<|cB h J (fun h=>?_) (fun h=>?_)
  ·refine aM<|ae.qv (db J J J J J) J<|aB J J J J .p0 J J<|rA J J<|rN<|aa.ret<|?_
   cases h
   exact ai.here ⟨_,.cons (.all _ _ _ _ _ _ J .p0 aE.h aX.h J J) (.cons (.tmp _ _ J) .nil),J⟩
  ·refine tK<|aM<|rM J J<|rM J J<|aF h fun v3 e2 h=>qx J (AP e2) cR .nil (fun _ _ _ _ _ _=>J) J fun b4 b5 b6 b7 bo8 bs9=>ae.qv (ax J) J<|rF J J J<|rL J J .p0 J J<|rM J J<|rM J J<|ae.qv (db J J J J J) J<|Jb h (fun e3 h=>?_) (fun n10 e3 h=>?_)
   ·refine ae.qv (oZ (gk:=aq.av) (gv:=(pA bo8)) (M:=v3.rD) (key:=(⟨ah,aO⟩:aq)) J J .p1 J e3) J<|rA J J<|rN<|tS<|aM<|rM J J<|ae.qv (Au J J) J<|rN<|aa.CW J<|aM<|rM J J<|rM J J<|ae.qv (db J J J J J) J<|aB J J J J .p4 J J<|rA J J<|rN<|aa.ret<|?_
    cases h
    exact ai.here ⟨_,.cons (.all _ _ _ _ _ _ J .p4 aE.h aX.h J J) (.cons (.tmp _ _ J) .nil),J⟩
   ·refine ae.qv (o0 (gk:=aq.av) (gv:=(pA bo8)) (M:=v3.rD) (key:=(⟨ah,aO⟩:aq)) J J .p1 e3) J<|rA J J<|rN<|tS<|aM<|rM J J<|ae.qv (Dl J J) J<|rN<|aa.CX J<|tK<|aM<|rM J J<|rM J J<|aF h fun v11 e4 h=>jc J (xB J) (.cons (oq.Tp (bp:=b7) (kb:=Ii) (bs:=bs9) (M:=v3.BN) Xd e4 .p3) (.cons (.co (.refl _)) .nil)) J J<|rM J J<|rX J J J<|rX J J J<|bX J J J J fun xx=>aB J J J J .p0 J J<|rA J J<|rN<|aM<|ae.qv (bb J J .p0 J) J<|aB J J J J .p5 J J<|rA J J<|rN<|aa.ret<|?_
    cases h
    exact ai.here ⟨_,.cons (.all _ _ _ _ _ _ J .p5 aE.h aX.h J J) (.cons (.tmp _ _ J) .nil),J⟩
theorem FH [GI:bF] {r:Bool} (h:sL=some r):Pu Tryz.prog 20 [] (.bool r):=by
 unfold sL at h
 refine aJ.bD Tryz.func20 J Tryz.ntmps20 Tryz.results20 J J ?_
 refine aM<|rA J J<|rN<|aM<|ae.qv (db J J J J J) J<|ba (xs:=([(⟨(1:Int),(1:Int),([100]:aI),([114]:aI),[],(0:Int)⟩:Signal)]).map Signal.av) J J J J J J<|aF h fun v1 e1 h=>bw J (zu e1) cR J<|rM J J<|rX J J J<|rX J J J<|bX J J J J fun b2=>aB J J J J .p0 J J<|rA J J<|rN<|tS<|aa.cut (fun aG=>∃ (c3:Bool),qB c3=some r∧aG=⟨16,[(0,.bool c3)],[]⟩) ?_ ?_
 ·refine tR<|rM J J<|ae.qv (bY J J) J<|rM J J<|ae.bW J J J (fun hc=>?_) (fun hc=>?_)
  ·rw [lM hc] at h
   exact rF J J J<|rY J J J<|rL J J .p0 J J<|rY J J J<|ae.qv (bY J J) J<|rT J J J<|rA J J<|rN<|aa.stop<|ai.lq [] ⟨decide (v1.1.State=(1:Int)),h,J⟩ J J
  ·rw [lN hc] at h
   exact rG J J J J<|rG J J J J<|rE J J J<|rA J J<|rN<|aa.stop<|ai.lq [] ⟨false,h,J⟩ J J
 ·rintro aG ⟨c3,h,rfl⟩
  unfold qB at h
  refine aa.ret<|?_
  cases h
  exact hP J J
theorem yn {ab:List Int} {r:Bool} (h:mx ab=some r):Pu Tryz.prog 3 [gx ab] (.bool r):=by
 unfold mx at h
 refine aJ.bD Tryz.func3 J Tryz.ntmps3 Tryz.results3 J J ?_
 refine aM<|rA J J<|rN<|aM<|rM J J<|ae.qv (db J J J J J) J<|jU J J J J fun b1=>rA J J<|rN<|aM<|rM J J<|rM J J<|aF h fun v2 e1 h=>bz J (rb e1) cR (.cons .p0 .nil) J J<|aF h fun v3 e2 h=>ep J (sM e2) cR (.cons .p0 .nil) (fun _=>J) J fun b4=>rM J J<|aF h fun v5 e3 h=>bz J (BR e3) cR (.cons .p0 .nil) J J<|bX J J J J fun b6=>rA J J<|aB J J J J .p0 J J<|rN<|aM<|rM J J<|aF h fun v7 e4 h=>jc J (o6 e4) (.cons (oq.sg .p2) .nil) J J<|rA J J<|rN<|aM<|rM J J<|ae.qv (bb J J .p0 J) J<|aF h fun v8 e5 h=>Am J (yl e5) .nil (.cons (oq.sg .p2) (.cons (.co (.refl _)) .nil)) (fun _=>J) (fun _=>J) (fun _=>(.cons (Pd.sg (fun _=>J)) .nil)) J fun b9=>rM J J<|rX J J J<|rX J J J<|rA J J<|rA J J<|rN<|aM<|rM J J<|ae.qv (bb J J .p1 J) J<|bw J (zn J) cR J<|ba (xs:=([v7,(iw v5.1)]:List Int).map I) J J J J J J<|aF h fun v10 e6 h=>bw J (AR e6) cR J<|rA J J<|rN<|tS<|tS<|aa.cut (fun aG=>∃ (Lm:Bool),eU v3 v5 v7 Lm=some r∧aG=⟨111,[(3,.ptr b1 0),(4,.sl 6 b4 0 v3.1.length),(6,I v7),(54,.bool Lm)],[(b1,.cells [gx v5.2.L,I v5.2.at_]),(b4,ek v3.1)]⟩) ?_ ?_
 ·refine tR<|rM J J<|rM J J<|ae.qv (jb J J) J<|rM J J<|gF h J J J (fun h=>?_) (fun h=>?_)
  ·refine rM J J<|rY J J J<|ae.qv (bY J J) J<|rY J J J<|rM J J<|gT h J J J (fun h=>?_) (fun h=>?_)
   ·exact rM J J<|rY J J J<|rM J J<|rY J J J<|ae.qv (bb J J .p1 J) J<|rY J J J<|aF h fun v12 e7 h=>Am J (AU e7) .nil (.cons (oq.sg .p3) (.cons (.co (.refl _)) .nil)) (fun _=>J) (fun _=>J) (fun _=>(.cons (Pd.sg (fun _=>J)) .nil)) J fun FC=>rY J J J<|aF h fun mB e8 h=>jc J (o9 e8) (.cons (oq.sg .p1) (.cons (oq.sg .p0) .nil)) J J<|rY J J J<|ae.qv (fj J) J<|rY J J J<|rT J J J<|rE J J J<|rN<|aa.stop<|ai.lq [3,3] ⟨!mB,h,J⟩ J J
   ·exact rG J J J J<|rG J J J J<|rG J J J J<|rG J J J J<|rG J J J J<|rY J J J<|rE J J J<|rE J J J<|rN<|aa.stop<|ai.lq [2,2] ⟨false,h,J⟩ J J
  ·exact rG J J J J<|rG J J J J<|ae.br J J J<|ae.br J J J<|ae.br J J J<|ae.br J J J<|ae.br J J J<|ae.br J J J<|rG J J J J<|rT J J J<|rN<|aa.stop<|ai.lq [2,2] ⟨true,h,J⟩ J J
 ·rintro aG ⟨Lm,h,rfl⟩
  unfold eU at h
  refine cB h J (fun h=>?_) (fun h=>?_)
  ·refine aM<|rA J J<|rN<|aa.ret<|?_
   cases h
   exact hP J J
  ·refine tK<|aM<|rM J J<|aF h fun jP e9 h=>jc J (DG e9) (.cons (oq.sg .p1) .nil) J J<|rM J J<|rX J J J<|rX J J J<|rA J J<|rA J J<|rN<|tS<|tS<|aa.cut (fun aG=>∃ (TR:Bool),eT v5 TR=some r∧aG=⟨111,[(3,.ptr b1 0),(80,.bool TR)],[(b1,.cells [gx v5.2.L,I v5.2.at_])]⟩) ?_ ?_
   ·refine tR<|rM J J<|rM J J<|ae.qv (jb J J) J<|rM J J<|gF h J J J (fun h=>?_) (fun h=>?_)
    ·refine rM J J<|rY J J J<|ae.qv (bY J J) J<|rY J J J<|rM J J<|gT h J J J (fun h=>?_) (fun h=>?_)
     ·refine rM J J<|rY J J J<|rM J J<|rY J J J<|aF h fun v17 vP h=>jc J (tO vP) (.cons (oq.sg .p1) .nil) J J<|rY J J J<|ae.qv (vY J J) J<|rY J J J<|rT J J J<|rE J J J<|rM J J<|ae.gg J J J (fun hc=>?_) (fun hc=>?_)
      ·rw [BE hc] at h
       refine rM J J<|rY J J J<|ae.qv (jb J J) J<|rY J J J<|rM J J<|ae.bW J J J (fun hc=>?_) (fun hc=>?_)
       ·rw [lM hc] at h
        exact rM J J<|rY J J J<|ae.qv (vY J J) J<|rY J J J<|rT J J J<|rE J J J<|rN<|aa.stop<|ai.lq [0] ⟨decide (jP.1≠([]:aI)),h,J⟩ J J
       ·rw [lN hc] at h
        exact rG J J J J<|rY J J J<|rE J J J<|rE J J J<|rN<|aa.stop<|ai.lq [0] ⟨false,h,J⟩ J J
      ·rw [BD hc] at h
       exact rG J J J J<|rG J J J J<|ae.br J J J<|ae.br J J J<|rG J J J J<|rT J J J<|rN<|aa.stop<|ai.lq [0] ⟨true,h,J⟩ J J
     ·refine rG J J J J<|rG J J J J<|rG J J J J<|rY J J J<|rE J J J<|rE J J J<|rM J J<|rY J J J<|rM J J<|rY J J J<|ae.qv (jb J J) J<|rY J J J<|rM J J<|ae.bW J J J (fun hc=>?_) (fun hc=>?_)
      ·rw [lM hc] at h
       exact rM J J<|rY J J J<|ae.qv (vY J J) J<|rY J J J<|rT J J J<|rE J J J<|rN<|aa.stop<|ai.lq [0] ⟨decide (jP.1≠([]:aI)),h,J⟩ J J
      ·rw [lN hc] at h
       exact rG J J J J<|rY J J J<|rE J J J<|rE J J J<|rN<|aa.stop<|ai.lq [0] ⟨false,h,J⟩ J J
    ·exact rG J J J J<|rG J J J J<|ae.br J J J<|ae.br J J J<|ae.br J J J<|ae.br J J J<|rG J J J J<|rT J J J<|rM J J<|rG J J J J<|rG J J J J<|rG J J J J<|ae.br J J J<|ae.br J J J<|rG J J J J<|rT J J J<|rN<|aa.stop<|ai.lq [0] ⟨true,h,J⟩ J J
   ·rintro aG ⟨TR,h,rfl⟩
    unfold eT at h
    refine cB h J (fun h=>?_) (fun h=>?_)
    ·refine aM<|rA J J<|rN<|aa.ret<|?_
     cases h
     exact hP J J
    ·refine tK<|aM<|rM J J<|aF h fun G0 zk h=>bz J (uh zk) cR (.cons .p0 .nil) J J<|rA J J<|rN<|aM<|rM J J<|aF h fun Bp Gp h=>ep J (DJ Gp) cR .nil (fun _=>J) J fun xY=>rM J J<|rX J J J<|rX J J J<|rX J J J<|rA J J<|rA J J<|rA J J<|rN<|aM<|rM J J<|aF h fun v21 Ij h=>ep J (zt Ij) cR .nil (fun _=>J) J fun Lt=>rM J J<|rX J J J<|rX J J J<|rX J J J<|rA J J<|rA J J<|rA J J<|rN<|tS<|aa.cut (fun aG=>∃ (TQ:Bool),gQ TQ=some r∧aG=⟨111,[(2,.bool TQ)],[]⟩) ?_ ?_
     ·refine tR<|rM J J<|rM J J<|ae.qv (bY J J) J<|rM J J<|gT h J J J (fun h=>?_) (fun h=>?_)
      ·refine rM J J<|rY J J J<|rM J J<|rY J J J<|ae.qv (bY J J) J<|rT J J J<|rM J J<|gT h J J J (fun h=>?_) (fun h=>?_)
       ·refine rM J J<|rY J J J<|rM J J<|rY J J J<|aF h fun v24 MW h=>jc J (qa MW) (.cons (oq.sg .p1) (.cons (oq.sg .p0) .nil)) J J<|rT J J J<|rM J J<|ae.guard J J J (fun hc=>?_) (fun hc=>?_)
        ·exact have h:=uy hc h;aF h fun v25 AG h=>bw J (FH AG) cR J<|rT J J J<|rA J J<|rN<|aa.stop<|ai.lq [] ⟨v25,h,J⟩ J J
        ·exact have h:=w5 hc h;rE J J J<|rA J J<|rN<|aa.stop<|ai.lq [] ⟨false,h,J⟩ J J
       ·exact rG J J J J<|rG J J J J<|rE J J J<|rM J J<|rG J J J J<|rE J J J<|rA J J<|rN<|aa.stop<|ai.lq [] ⟨false,h,J⟩ J J
      ·exact rG J J J J<|rG J J J J<|rE J J J<|rM J J<|rG J J J J<|rG J J J J<|rG J J J J<|rE J J J<|rM J J<|rG J J J J<|rE J J J<|rA J J<|rN<|aa.stop<|ai.lq [] ⟨false,h,J⟩ J J
     ·rintro aG ⟨TQ,h,rfl⟩
      unfold gQ at h
      refine aa.ret<|?_
      cases h
      exact hP J J
end Go.Proofs.YthamhifbccpcpaaGreatDoor
