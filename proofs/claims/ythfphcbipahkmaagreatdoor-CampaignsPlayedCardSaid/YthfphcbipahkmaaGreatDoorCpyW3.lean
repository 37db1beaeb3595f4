/- The code computes the plain functions: proofs written by shal.py. -/
import Derived.Test.YthfphcbipahkmaaGreatDoorCpyW2
open List renaming length_set→ac,map_eq_nil_iff→af
open Option renaming some.inj→ad
set_option maxHeartbeats 4000000
set_option maxRecDepth 100000
set_option linter.unusedVariables false
set_option linter.unusedSimpArgs false
namespace Go.Proofs.YthfphcbipahkmaaGreatDoor
open Go Go.Eng Go.Proofs Go.Beacon
attribute [local irreducible] ae ab AQ QV aR aj Ua AM
theorem Es [GI:bU] {aa:List DeviceS} {r:Int} (h:rK aa=some r):Pu Tryz.prog 18 [pI aa] (I r):=by
 unfold rK at h
 refine aR.bI Tryz.func18 J Tryz.ntmps18 Tryz.results18 J J ?_
 refine aL<|rA J J<|rN<|tS<|aL<|rM J J<|ae.qv (cE J) J<|ae.qv (eB J J) J<|rN<|cD h J (fun h=>?_) (fun h=>?_)
 ·refine aL<|rA J J<|rN<|ab.ret<|?_
  cases h
  exact hP J J
 ·refine tK<|aL<|rA J J<|rN<|tS<|aL<|rM J J<|ae.qv (cE J) J<|rM J J<|rN<|ab.block<|ab.cS (fun x:bj×Int=>lO aa x.1 x.2) (fun x aJ=>aJ=⟨51,[(3,.str x.1),(10,pI aa),(11,I (aa.length:Int)),(12,I x.2)],[]⟩) h ?_ ?_
  ·exact aj.lq [] J J J
  ·intro x z1 aJ J1 ep h jF ek
   obtain ⟨q3,n4⟩:=x
   obtain rfl:=ep
   replace h:lO aa q3 n4=some z1:=h
   unfold lO at h
   refine aL<|ae.qv (bT J J) J<|rN<|tS<|cD h J (fun h=>?_) (fun h=>?_)
   ·refine tK<|tS<|ab.block<|aL<|aK h fun v5 e1 h=>ae.qv (bH J J J e1 J J) J<|ae.qv (aO J J J) J<|bA J J J J fun b6=>ar J J J J .p0 J J<|rN<|tS<|ab.block<|tS<|ab.cut (fun aJ=>∃ (c7:Bool),jW q3 n4 v5 c7=some z1∧aJ=⟨51,[(3,.str q3),(5,.ptr b6 0),(10,pI aa),(11,I (aa.length:Int)),(12,I n4),(16,.bool c7)],[(b6,.cells (Rv v5))]⟩) ?_ ?_
    ·refine tR<|rF J J J<|rL J J .p0 J J<|aK h fun v8 e2 h=>ba J (A6 e2) cR J<|ae.qv (cV J) J<|rM J J<|ae.guard J J J (fun hc=>?_) (fun hc=>?_)
     ·refine have h:=sn hc h;rF J J J<|rY J J J<|rL J J .p0 J J<|rY J J J<|aK h fun v9 e3 h=>ba J (A6 e3) cR J<|rY J J J<|ae.qv (cV J) J<|rE J J J<|rM J J<|ae.guard J J J (fun hc=>?_) (fun hc=>?_)
      ·exact have h:=sn hc h;rF J J J<|rY J J J<|rL J J .p0 J J<|rY J J J<|aK h fun v10 e4 h=>ba J (A6 e4) cR J<|rY J J J<|ae.qv (cV J) J<|rE J J J<|rA J J<|rN<|ab.stop<|aj.lq [0] ⟨!v10,h,J⟩ J J
      ·exact have h:=pN hc h;rG J J J J<|rG J J J J<|rG J J J J<|rT J J J<|rA J J<|rN<|ab.stop<|aj.lq [0] ⟨true,h,J⟩ J J
     ·exact have h:=pN hc h;rG J J J J<|rG J J J J<|rG J J J J<|rT J J J<|rM J J<|rG J J J J<|rG J J J J<|rG J J J J<|rG J J J J<|rT J J J<|rA J J<|rN<|ab.stop<|aj.lq [0] ⟨true,h,J⟩ J J
    ·rintro aJ ⟨c7,h,rfl⟩
     unfold jW at h
     refine cB h J (fun h=>?_) (fun h=>?_)
     ·refine aL<|rA J J<|rN<|ab.ret<|have h:=bZ h ek;?_
      cases h
      exact hP J J
     ·refine aL<|rF J J J<|rL J J .p0 J J<|rM J J<|ae.qv (GY J J) J<|rA J J<|rN<|cB h J (fun h=>?_) (fun h=>?_)
      ·refine aL<|rA J J<|rN<|ab.ret<|have h:=bZ h ek;?_
       cases h
       exact hP J J
      ·refine tK<|ab.cH<|aL<|rF J J J<|rL J J .p0 J J<|rA J J<|rN<|tS<|aL<|rF J J J<|ae.qv (aP J J .p0 J J) J<|ba J (pE J) cR J<|rA J J<|rN<|aL<|rM J J<|ae.qv (pH J J) J<|rN<|cD h J (fun h=>?_) (fun h=>?_)
       ·refine aL<|rM J J<|rA J J<|rN<|ab.ret<|have h:=bZ h ek;?_
        cases h
        exact hP J J
       ·refine tK<|aL<|rF J J J<|rL J J .p0 J J<|ae.qv (cE J) J<|ae.qv (eB J J) J<|rN<|cD h J (fun h=>?_) (fun h=>?_)
        ·refine aL<|rA J J<|rN<|ab.ret<|have h:=bZ h ek;?_
         cases h
         exact hP J J
        ·refine tK<|ab.cH<|tR<|ae.qv (br J J) J<|rM J J<|rN<|ab.stop<|?_
         cases h
         exact jF _ _ J<|aj.lq [] J J J
   ·refine ab.exit J<|have h:=bZ h ek;aL<|rA J J<|rN<|ab.ret<|?_
    cases h
    exact hP J J
theorem Et [GI:bU] {aa:Bool} {ai r:Int} (h:pK aa ai=r):Pu Tryz.prog 13 [.bool aa,I ai] (I r):=by
 unfold pK at h
 refine aR.bI Tryz.func13 J Tryz.ntmps13 Tryz.results13 J J ?_
 refine aL<|rA J J<|rN<|tS<|aL<|rM J J<|rN<|cB h J (fun h=>?_) (fun h=>?_)
 ·refine aL<|rM J J<|rA J J<|rN<|ab.ret<|?_
  obtain rfl:=h
  exact hP J J
 ·refine tK<|aL<|rA J J<|rN<|ab.ret<|?_
  obtain rfl:=h
  exact hP J J
theorem xC [GI:bU] {aa:eQ} {r:Int} (h:il aa=r):Pu Tryz.prog 27 [eQ.av aa] (I r):=by
 unfold il at h
 refine aR.bI Tryz.func27 J Tryz.ntmps27 Tryz.results27 J J ?_
 refine aL<|dh J J J J fun b1=>rA J J<|rN<|tS<|tS<|ab.cut (fun aJ=>∃ (c2:Bool),pB c2=r∧aJ=⟨14,[(13,.bool c2)],[]⟩) ?_ ?_
 ·refine tR<|rF J J J<|rL J J .p0 J J<|rF J J J<|rL J J .p0 J J<|ba J (qJ J) cR J<|ae.qv (cV J) J<|rM J J<|ae.guard J J J (fun hc=>?_) (fun hc=>?_)
  ·rw [va hc] at h
   exact rF J J J<|rY J J J<|rL J J .p0 J J<|rY J J J<|ae.qv (eB J J) J<|rE J J J<|rN<|ab.stop<|aj.lq [] ⟨decide (345686400000 < aa.To),h,J⟩ J J
  ·rw [u9 hc] at h
   exact rG J J J J<|rG J J J J<|rT J J J<|rN<|ab.stop<|aj.lq [] ⟨true,h,J⟩ J J
 ·rintro aJ ⟨c2,h,rfl⟩
  unfold pB at h
  refine cB h J (fun h=>?_) (fun h=>?_)
  ·refine aL<|rA J J<|rN<|ab.ret<|?_
   obtain rfl:=h
   exact hP J J
  ·refine tK<|aL<|rA J J<|rN<|ab.ret<|?_
   obtain rfl:=h
   exact hP J J
theorem Ji [GI:bU] {aa:List Int} {r:Int} (h:BL aa=some r):Pu Tryz.prog 14 [gg aa] (I r):=by
 unfold BL at h
 refine aR.bI Tryz.func14 J Tryz.ntmps14 Tryz.results14 J J ?_
 refine aL<|rA J J<|rN<|tS<|aL<|rM J J<|ae.qv (cE J) J<|rM J J<|rN<|ab.block<|ab.cS (fun x:Int=>y5 aa x) (fun x aJ=>aJ=⟨15,[(5,gg aa),(6,I (aa.length:Int)),(7,I x)],[]⟩) h ?_ ?_
 ·exact aj.lq [] J J J
 ·intro n2 z1 aJ J1 ep h jF ek
  obtain rfl:=ep
  replace h:y5 aa n2=some z1:=h
  unfold y5 at h
  refine aL<|ae.qv (bT J J) J<|rN<|tS<|cD h J (fun h=>?_) (fun h=>?_)
  ·refine tK<|tS<|ab.block<|aL<|aK h fun v3 e1 h=>ae.qv (bH J J J e1 J J) J<|ae.qv (aS J J J) J<|rA J J<|rN<|aL<|rM J J<|ae.qv (pH J J) J<|rN<|cD h J (fun h=>?_) (fun h=>?_)
   ·refine aL<|rM J J<|rA J J<|rN<|ab.ret<|have h:=bZ h ek;?_
    cases h
    exact hP J J
   ·refine tK<|ab.cH<|tR<|ae.qv (br J J) J<|rM J J<|rN<|ab.stop<|?_
    cases h
    exact jF _ _ J<|aj.lq [] J J J
  ·refine ab.exit J<|have h:=bZ h ek;aL<|rA J J<|rN<|ab.ret<|?_
   cases h
   exact hP J J
theorem xg [GI:bU] {aa:List Int} {ai r:Int} (h:jz aa ai=some r):Pu Tryz.prog 144 [gg aa,I ai] (I r):=by
 unfold jz at h
 refine aR.bI Tryz.func144 J Tryz.ntmps144 Tryz.results144 J J ?_
 refine aL<|rA J J<|rN<|tS<|aL<|rM J J<|ae.qv (cE J) J<|rM J J<|rN<|ab.block<|ab.cS (fun x:Int=>cO aa ai x) (fun x aJ=>aJ=⟨19,[(0,gg aa),(1,I ai),(7,I (aa.length:Int)),(8,I x)],[]⟩) h ?_ ?_
 ·exact aj.lq [] J J J
 ·intro n2 z1 aJ J1 ep h jF ek
  obtain rfl:=ep
  replace h:cO aa ai n2=some z1:=h
  unfold cO at h
  refine aL<|ae.qv (bT J J) J<|rN<|tS<|cD h J (fun h=>?_) (fun h=>?_)
  ·refine tK<|tS<|ab.block<|aL<|rM J J<|rA J J<|rN<|aL<|rM J J<|rM J J<|rM J J<|aK h fun v3 e1 h=>ae.qv (bH J J J e1 J J) J<|ae.qv (aS J J J) J<|ae.qv (dt J J) J<|rN<|cD h J (fun h=>?_) (fun h=>?_)
   ·refine aL<|rM J J<|rA J J<|rN<|ab.ret<|have h:=bZ h ek;?_
    cases h
    exact hP J J
   ·refine tK<|ab.cH<|tR<|ae.qv (br J J) J<|rM J J<|rN<|ab.stop<|?_
    cases h
    exact jF _ _ J<|aj.lq [] J J J
  ·refine ab.exit J<|have h:=bZ h ek;aL<|rA J J<|rN<|ab.ret<|?_
   cases h
   exact hP J J
theorem vg [GI:bU] {aa:List Int} {ai:Int} {r:Bool} (h:dF aa ai=some r):Pu Tryz.prog 116 [gg aa,I ai] (.bool r):=by
 unfold dF at h
 refine aR.bI Tryz.func116 J Tryz.ntmps116 Tryz.results116 J J ?_
 refine aL<|rA J J<|rN<|aL<|rM J J<|rM J J<|aK h fun v1 e1 h=>ba J (xg e1) cR J<|ae.qv (nP J J) J<|rA J J<|rN<|ab.ret<|?_
 cases h
 exact hP J J
theorem xh [GI:bU] {aa:Campaign} {ai:bj} {aH:List MarkS} {bc:Int} {r:(List MarkS)} (h:qH aa ai aH bc=some r):aR Tryz.prog 77 [Campaign.av aa,.str ai,wD aH,I bc] [] (T1 (fun np=>[(np,tW r)]) (fun np=>.sl 6 np 0 r.length)):=by
 unfold qH at h
 refine aR.iL ?_
 refine aR.bI Tryz.func77 J Tryz.ntmps77 Tryz.results77 J J ?_
 refine aL<|dh J J J J fun b1=>rA J J<|rN<|aL<|rA J J<|rN<|tS<|aL<|rM J J<|ae.qv (cE J) J<|rM J J<|rN<|ab.block<|ab.cS (fun x:(List MarkS)×Int=>oq aa ai aH bc x.1 x.2) (fun x aJ=>∃ (b5:Bk),aJ=⟨79,[(1,.str ai),(3,I bc),(4,.ptr b1 0),(9,.sl 6 b5 0 x.1.length),(15,wD aH),(16,I (aH.length:Int)),(17,I x.2)],[(b1,.cells (xz aa)),(b5,tW x.1)]⟩) h ?_ ?_
 ·exact aj.arr (s:=9) 6 J fun b8=>aj.lq [1,0] ⟨b8,J⟩ J J
 ·intro x z1 aJ J1 ep h jF ek
  obtain ⟨l6,n7⟩:=x
  obtain ⟨b5,rfl⟩:=ep
  replace h:oq aa ai aH bc l6 n7=some z1:=h
  unfold oq at h
  refine aL<|ae.qv (bT J J) J<|rN<|tS<|cD h J (fun h=>?_) (fun h=>?_)
  ·refine tK<|tS<|ab.cut (fun aJ=>∃ (b9:Bk) (l10:List MarkS),om n7 l10=some z1∧aJ=⟨79,[(1,.str ai),(3,I bc),(4,.ptr b1 0),(9,.sl 6 b9 0 l10.length),(15,wD aH),(16,I (aH.length:Int)),(17,I n7)],[(b1,.cells (xz aa)),(b9,tW l10)]⟩) ?_ ?_
   ·refine ab.block<|aL<|aK h fun v11 e1 h=>ae.qv (bH J J J e1 J J) J<|ae.qv (aO J J J) J<|bA J J J J fun kB=>ar J J J J .p0 J J<|rN<|tS<|tS<|ab.cut (fun aJ=>∃ (PN:Bool),mr l6 n7 v11 PN=some z1∧aJ=⟨79,[(1,.str ai),(3,I bc),(4,.ptr b1 0),(9,.sl 6 b5 0 l6.length),(11,.ptr kB 0),(15,wD aH),(16,I (aH.length:Int)),(17,I n7),(37,.bool PN)],[(b1,.cells (xz aa)),(b5,tW l6),(kB,.cells [I v11.At,.str v11.Device,I v11.Kind,I v11.Version.aA,I v11.Version.aD,I v11.Version.aF])]⟩) ?_ ?_
    ·refine tR<|rF J J J<|rL J J .p0 J J<|rM J J<|ae.qv (Xq J J) J<|rM J J<|ae.dA J J J (fun hc=>?_) (fun hc=>?_)
     ·rw [we hc] at h
      refine rF J J J<|rY J J J<|rL J J .p0 J J<|rY J J J<|rF J J J<|rY J J J<|rL J J .p1 J J<|rY J J J<|ae.qv (bT J J) J<|rE J J J<|rM J J<|ae.dA J J J (fun hc=>?_) (fun hc=>?_)
      ·rw [we hc] at h
       exact rF J J J<|rY J J J<|rL J J .p0 J J<|rY J J J<|rM J J<|rY J J J<|ae.qv (eB J J) J<|rE J J J<|rN<|ab.stop<|aj.lq [1,1,0] ⟨decide (bc < v11.At),h,J⟩ J J
      ·rw [wc hc] at h
       exact rG J J J J<|rG J J J J<|rG J J J J<|rT J J J<|rN<|ab.stop<|aj.lq [1,1,0] ⟨true,h,J⟩ J J
     ·rw [wc hc] at h
      exact rG J J J J<|rG J J J J<|rG J J J J<|rG J J J J<|rT J J J<|rM J J<|rG J J J J<|rG J J J J<|rG J J J J<|rG J J J J<|rT J J J<|rN<|ab.stop<|aj.lq [1,1,0] ⟨true,h,J⟩ J J
    ·rintro aJ ⟨PN,h,rfl⟩
     unfold mr at h
     refine cB h J (fun h=>?_) (fun h=>?_)
     ·exact ab.exit J<|ab.stop<|aj.lq [0,0] ⟨b5,l6,h,J⟩ J J
     ·refine tK<|aL<|bA J J J J fun Fl=>rN<|tS<|aL<|rM J J<|ae.qv (dH J) J<|ae.qv (fy J J) J<|rA J J<|rN<|aL<|rM J J<|ae.qv (nP J J) J<|rN<|ab.cut (fun aJ=>∃ (n15:Int) (Z3:bj) (n17:Int) (n18:Int) (n19:Int) (n20:Int),oo l6 n7 v11 n15 Z3 n17 n18 n19 n20=some z1∧aJ=⟨79,[(1,.str ai),(3,I bc),(4,.ptr b1 0),(9,.sl 6 b5 0 l6.length),(11,.ptr kB 0),(12,.ptr Fl 0),(15,wD aH),(16,I (aH.length:Int)),(17,I n7)],[(b1,.cells (xz aa)),(b5,tW l6),(kB,.cells [I v11.At,.str v11.Device,I v11.Kind,I v11.Version.aA,I v11.Version.aD,I v11.Version.aF]),(Fl,.cells [I n15,.str Z3,I n17,I n18,I n19,I n20])]⟩) ?_ ?_
      ·refine cD h J (fun h=>?_) (fun h=>?_)
       ·exact tR<|rM J J<|rM J J<|aK h fun v21 e2 h=>ae.qv (bB J J J e2) J<|ae.qv (cq (g:=MarkS.av) J J (.inl .p2) J e2 J) J<|ar J J J J .p0 J J<|rN<|ab.stop<|aj.lq [1,1,1,0] ⟨v21.At,v21.Device,v21.Kind,v21.Version.aA,v21.Version.aD,v21.Version.aF,h,J⟩ J J
       ·exact tK<|ab.stop<|aj.lq [1,1,1,0] ⟨0,[],0,0,0,0,h,J⟩ J J
      ·rintro aJ ⟨n15,Z3,n17,n18,n19,n20,h,rfl⟩
       unfold oo at h
       refine aL<|KR (gk:=I) (kp:=(mD 1 I)) (β:=(fun _=>⟨none,0⟩)) J fun Rx b23=>kf J J J J J J fun u4=>ae.ghost<|aj.yj (kp:=(mD 1 I)) (β:=(fun _=>⟨none,0⟩)) (M:=([]:List (Int×(List Int)))) 1 .p2<|aj.here<|wo (gk:=I) (kp:=(mD 1 I)) (β:=(fun _=>⟨none,0⟩)) (M:=([]:List (Int×(List Int)))) (key:=1) (v:=[0,3,4]) (b:=u4) J J J J .p1<|ae.ghost<|aj.AP (kp:=(mD 1 I)) (β:=(fun _=>⟨none,0⟩)) (M:=([]:List (Int×(List Int)))) (key:=1) (v:=[0,3,4]) J .p0 .p1<|aj.here<|kf J J J J J J fun A3=>ae.ghost<|aj.yj (kp:=(mD 1 I)) (β:=(gP (fun _=>⟨none,0⟩) 1 u4)) (M:=(ca ([]:List (Int×(List Int))) 1 [0,3,4])) 2 .p2<|aj.here<|wo (gk:=I) (kp:=(mD 1 I)) (β:=(gP (fun _=>⟨none,0⟩) 1 u4)) (M:=(ca ([]:List (Int×(List Int))) 1 [0,3,4])) (key:=2) (v:=[1]) (b:=A3) J J J J .p1<|ae.ghost<|aj.AP (kp:=(mD 1 I)) (β:=(gP (fun _=>⟨none,0⟩) 1 u4)) (M:=(ca ([]:List (Int×(List Int))) 1 [0,3,4])) (key:=2) (v:=[1]) J .p0 .p1<|aj.here<|kf J J J J J J fun BN=>ae.ghost<|aj.yj (kp:=(mD 1 I)) (β:=(gP (gP (fun _=>⟨none,0⟩) 1 u4) 2 A3)) (M:=(ca (ca ([]:List (Int×(List Int))) 1 [0,3,4]) 2 [1])) 5 .p2<|aj.here<|wo (gk:=I) (kp:=(mD 1 I)) (β:=(gP (gP (fun _=>⟨none,0⟩) 1 u4) 2 A3)) (M:=(ca (ca ([]:List (Int×(List Int))) 1 [0,3,4]) 2 [1])) (key:=5) (v:=[1]) (b:=BN) J J J J .p1<|ae.ghost<|aj.AP (kp:=(mD 1 I)) (β:=(gP (gP (fun _=>⟨none,0⟩) 1 u4) 2 A3)) (M:=(ca (ca ([]:List (Int×(List Int))) 1 [0,3,4]) 2 [1])) (key:=5) (v:=[1]) J .p0 .p1<|aj.here<|kf J J J J J J fun Ct=>ae.ghost<|aj.yj (kp:=(mD 1 I)) (β:=(gP (gP (gP (fun _=>⟨none,0⟩) 1 u4) 2 A3) 5 BN)) (M:=(ca (ca (ca ([]:List (Int×(List Int))) 1 [0,3,4]) 2 [1]) 5 [1])) 3 .p2<|aj.here<|wo (gk:=I) (kp:=(mD 1 I)) (β:=(gP (gP (gP (fun _=>⟨none,0⟩) 1 u4) 2 A3) 5 BN)) (M:=(ca (ca (ca ([]:List (Int×(List Int))) 1 [0,3,4]) 2 [1]) 5 [1])) (key:=3) (v:=[2]) (b:=Ct) J J J J .p1<|ae.ghost<|aj.AP (kp:=(mD 1 I)) (β:=(gP (gP (gP (fun _=>⟨none,0⟩) 1 u4) 2 A3) 5 BN)) (M:=(ca (ca (ca ([]:List (Int×(List Int))) 1 [0,3,4]) 2 [1]) 5 [1])) (key:=3) (v:=[2]) J .p0 .p1<|aj.here<|kf J J J J J J fun Jd=>ae.ghost<|aj.yj (kp:=(mD 1 I)) (β:=(gP (gP (gP (gP (fun _=>⟨none,0⟩) 1 u4) 2 A3) 5 BN) 3 Ct)) (M:=(ca (ca (ca (ca ([]:List (Int×(List Int))) 1 [0,3,4]) 2 [1]) 5 [1]) 3 [2])) 4 .p2<|aj.here<|wo (gk:=I) (kp:=(mD 1 I)) (β:=(gP (gP (gP (gP (fun _=>⟨none,0⟩) 1 u4) 2 A3) 5 BN) 3 Ct)) (M:=(ca (ca (ca (ca ([]:List (Int×(List Int))) 1 [0,3,4]) 2 [1]) 5 [1]) 3 [2])) (key:=4) (v:=[2]) (b:=Jd) J J J J .p1<|ae.ghost<|aj.AP (kp:=(mD 1 I)) (β:=(gP (gP (gP (gP (fun _=>⟨none,0⟩) 1 u4) 2 A3) 5 BN) 3 Ct)) (M:=(ca (ca (ca (ca ([]:List (Int×(List Int))) 1 [0,3,4]) 2 [1]) 5 [1]) 3 [2])) (key:=4) (v:=[2]) J .p0 .p1<|aj.here<|rM J J<|rF J J J<|rL J J .p4 J J<|aK h fun Av e3 h=>Nh (gk:=I) (sz:=1) (g:=I) (β:=(gP (gP (gP (gP (gP (fun _=>⟨none,0⟩) 1 u4) 2 A3) 5 BN) 3 Ct) 4 Jd)) (M:=(ca (ca (ca (ca (ca ([]:List (Int×(List Int))) 1 [0,3,4]) 2 [1]) 5 [1]) 3 [2]) 4 [2])) (key:=v11.Kind) J J .p0 .p1 J e3 J fun Nx V0=>rA J J<|rN<|tS<|ab.cut (fun aJ=>∃ (c31:Bool),sW l6 n7 v11 c31=some z1∧aJ=⟨79,[(1,.str ai),(3,I bc),(4,.ptr b1 0),(9,.sl 6 b5 0 l6.length),(11,.ptr kB 0),(15,wD aH),(16,I (aH.length:Int)),(17,I n7),(72,.bool c31)],[(b1,.cells (xz aa)),(b5,tW l6),(kB,.cells [I v11.At,.str v11.Device,I v11.Kind,I v11.Version.aA,I v11.Version.aD,I v11.Version.aF])]⟩) ?_ ?_
       ·refine tR<|rM J J<|rF J J J<|rL J J .p6 J J<|aK h fun v32 e4 h=>gO J (vg e4) (.cons (lD.jd .p0) (.cons (.co (.refl _)) .nil)) J J<|rM J J<|ae.guard J J J (fun hc=>?_) (fun hc=>?_)
        ·rw [DE hc] at h
         refine rF J J J<|rY J J J<|rL J J .p5 J J<|rY J J J<|ae.qv (dt J J) J<|rY J J J<|rM J J<|ae.dA J J J (fun hc=>?_) (fun hc=>?_)
         ·rw [we hc] at h
          exact rF J J J<|rY J J J<|ae.qv (aP J J .p5 J J) J<|rY J J J<|rF J J J<|rY J J J<|ae.qv (aP J J .p6 J J) J<|rY J J J<|ae.qv (DH (g:=Version.av) (X:=v11.Version) (Y:=(⟨n18,n19,n20⟩:Version)) J J J J J) J<|rY J J J<|rE J J J<|rT J J J<|ae.ghost<|aj.Pp (gk:=I) (sz:=1) (g:=I) (β:=(gP (gP (gP (gP (gP (fun _=>⟨none,0⟩) 1 u4) 2 A3) 5 BN) 3 Ct) 4 Jd)) (M:=(ca (ca (ca (ca (ca ([]:List (Int×(List Int))) 1 [0,3,4]) 2 [1]) 5 [1]) 3 [2]) 4 [2])) (key:=v11.Kind) (dD.inj Tryz.prog 3) e3 V0 .p1 .p0 .p1<|aj.here<|rN<|ab.stop<|aj.lq [2,2,2] ⟨decide (v11.Version=(⟨n18,n19,n20⟩:Version)),h,J⟩ J J
         ·rw [wc hc] at h
          exact rG J J J J<|rG J J J J<|rG J J J J<|rG J J J J<|rY J J J<|rT J J J<|rT J J J<|ae.ghost<|aj.Pp (gk:=I) (sz:=1) (g:=I) (β:=(gP (gP (gP (gP (gP (fun _=>⟨none,0⟩) 1 u4) 2 A3) 5 BN) 3 Ct) 4 Jd)) (M:=(ca (ca (ca (ca (ca ([]:List (Int×(List Int))) 1 [0,3,4]) 2 [1]) 5 [1]) 3 [2]) 4 [2])) (key:=v11.Kind) (dD.inj Tryz.prog 3) e3 V0 .p1 .p0 .p1<|aj.here<|rN<|ab.stop<|aj.lq [2,2,2] ⟨true,h,J⟩ J J
        ·rw [DF hc] at h
         exact rG J J J J<|rG J J J J<|rG J J J J<|ae.aV J J J<|ae.aV J J J<|ae.aV J J J<|ae.aV J J J<|ae.aV J J J<|rG J J J J<|rE J J J<|ae.ghost<|aj.Pp (gk:=I) (sz:=1) (g:=I) (β:=(gP (gP (gP (gP (gP (fun _=>⟨none,0⟩) 1 u4) 2 A3) 5 BN) 3 Ct) 4 Jd)) (M:=(ca (ca (ca (ca (ca ([]:List (Int×(List Int))) 1 [0,3,4]) 2 [1]) 5 [1]) 3 [2]) 4 [2])) (key:=v11.Kind) (dD.inj Tryz.prog 3) e3 V0 .p1 .p0 .p1<|aj.here<|rN<|ab.stop<|aj.lq [2,2,2] ⟨false,h,J⟩ J J
       ·rintro aJ ⟨c31,h,rfl⟩
        unfold sW at h
        refine ab.cut (fun aJ=>∃ (V1:Bk) (VM:List MarkS),pW n7 VM=some z1∧aJ=⟨79,[(1,.str ai),(3,I bc),(4,.ptr b1 0),(9,.sl 6 V1 0 VM.length),(15,wD aH),(16,I (aH.length:Int)),(17,I n7)],[(b1,.cells (xz aa)),(V1,tW VM)]⟩) ?_ ?_
        ·refine cB h J (fun h=>?_) (fun h=>?_)
         ·exact tR<|rM J J<|ae.qv (aG J J .p2 J) J<|aW (xs:=([v11]:List MarkS).map MarkS.av) J J J J J J<|aK h fun sa e5 h=>dB (g:=MarkS.av) J J J J J J J J (.list _) e5 (fun _=>.p1) J fun BP=>rA J J<|rN<|ab.stop<|aj.lq [0,0] ⟨BP,sa,h,J⟩ J J
         ·exact tK<|ab.stop<|aj.lq [0,0] ⟨b5,l6,h,J⟩ J J
        ·rintro aJ ⟨V1,VM,h,rfl⟩
         unfold pW at h
         exact ab.cH<|ab.stop<|aj.lq [0,0] ⟨V1,VM,h,J⟩ J J
   ·rintro aJ ⟨b9,l10,h,rfl⟩
    unfold om at h
    refine tR<|ae.qv (br J J) J<|rM J J<|rN<|ab.stop<|?_
    cases h
    exact jF _ _ J<|aj.lq [0,0] ⟨b9,J⟩ J J
  ·refine ab.exit J<|have h:=bZ h ek;aL<|rM J J<|rA J J<|rN<|ab.ret<|?_
   cases h
   exact hH J [1] J ⟨b5,J,J⟩
theorem Hg [GI:bU] {aa:Campaign} {ai:bj} {r:Int} (h:Ed aa ai=some r):Pu Tryz.prog 67 [Campaign.av aa,.str ai] (I r):=by
 unfold Ed at h
 refine aR.bI Tryz.func67 J Tryz.ntmps67 Tryz.results67 J J ?_
 refine aL<|dh J J J J fun b1=>rA J J<|rN<|aL<|rA J J<|rN<|tS<|aL<|rF J J J<|rL J J .p0 J J<|aK h fun q2 e1 h=>ae.qv (Pr e1 J J) J<|rM J J<|aK h fun q3 e2 h=>ae.qv (Pr e2 J J) J<|Nn J J<|ae.qv (cE J) J<|rM J J<|rN<|ab.block<|ab.cS (fun x:Int×Int=>wB q3 x.1 x.2) (fun x aJ=>aJ=⟨31,[(5,.int .u64 x.1),(13,abF (qE q3)),(14,I ((qE q3).length:Int)),(15,I x.2)],[]⟩) h ?_ ?_
 ·exact aj.lq [] J J J
 ·intro x z1 aJ J1 ep h jF ek
  obtain ⟨n6,n7⟩:=x
  obtain rfl:=ep
  replace h:wB q3 n6 n7=some z1:=h
  unfold wB at h
  refine aL<|ae.qv (bT J J) J<|rN<|tS<|cD h J (fun h=>?_) (fun h=>?_)
  ·refine tK<|tS<|ab.block<|aL<|aK h fun v8 e3 h=>ae.qv (bH J J J e3 J J) J<|ae.qv (aS J J J) J<|rA J J<|rN<|tR<|rM J J<|rM J J<|ae.qv (wW J) J<|ae.qv (LS J J) J<|ae.qv (uA J J) J<|rA J J<|rN<|ab.cH<|tR<|ae.qv (br J J) J<|rM J J<|rN<|ab.stop<|?_
   cases h
   exact jF _ _ J<|aj.lq [] J J J
  ·refine ab.exit J<|have h:=bZ h ek;aL<|rM J J<|rM J J<|ae.qv (Um J J (by decide)) J<|ae.qv (LS J J) J<|ae.qv (FB J J (by decide)) J<|ae.qv (wW J) J<|rA J J<|rN<|ab.ret<|?_
   cases h
   exact hP J J
theorem uQ [GI:bU] {aa:Campaign} {ai:bj} {r:Int} (h:rO aa ai=some r):Pu Tryz.prog 62 [Campaign.av aa,.str ai] (I r):=by
 unfold rO at h
 refine aR.bI Tryz.func62 J Tryz.ntmps62 Tryz.results62 J J ?_
 refine aL<|dh J J J J fun b1=>rA J J<|rN<|aL<|ae.qv (aG J J .p0 J) J<|rM J J<|aK h fun v2 e1 h=>ba J (Hg e1) cR J<|rA J J<|rN<|tS<|aL<|rF J J J<|rL J J .p0 J J<|ae.qv (cE J) J<|rM J J<|rN<|ab.block<|ab.cS (fun x:Int×Int=>tw aa x.1 x.2) (fun x aJ=>aJ=⟨27,[(5,I x.1),(12,oQ aa.aI),(13,I (aa.aI.length:Int)),(14,I x.2)],[]⟩) h ?_ ?_
 ·exact aj.lq [] J J J
 ·intro x z1 aJ J1 ep h jF ek
  obtain ⟨n5,n6⟩:=x
  obtain rfl:=ep
  replace h:tw aa n5 n6=some z1:=h
  unfold tw at h
  refine aL<|ae.qv (bT J J) J<|rN<|tS<|cD h J (fun h=>?_) (fun h=>?_)
  ·refine tK<|tS<|ab.block<|aL<|rM J J<|aK h fun v7 e2 h=>ae.qv (bH J J J e2 J J) J<|ae.qv (aO J J J) J<|bA J J J J fun b8=>rA J J<|ar J J J J .p0 J J<|rN<|aL<|rM J J<|rF J J J<|rL J J .p0 J J<|ae.qv (fy J J) J<|rA J J<|rN<|aL<|rM J J<|ae.qv (bT J J) J<|rN<|cD h J (fun h=>?_) (fun h=>?_)
   ·refine aL<|rM J J<|rA J J<|rN<|ab.ret<|have h:=bZ h ek;?_
    cases h
    exact hP J J
   ·refine tK<|ab.cH<|tR<|ae.qv (br J J) J<|rM J J<|rN<|ab.stop<|?_
    cases h
    exact jF _ _ J<|aj.lq [] J J J
  ·refine ab.exit J<|have h:=bZ h ek;aL<|rA J J<|rN<|ab.ret<|?_
   cases h
   exact hP J J
theorem Fm [GI:bU] {aa:MarkS} {r:Bool} (h:l0 aa=r):Pu Tryz.prog 134 [MarkS.av aa] (.bool r):=by
 unfold l0 at h
 refine aR.bI Tryz.func134 J Tryz.ntmps134 Tryz.results134 J J ?_
 refine aL<|dh J J J J fun b1=>rA J J<|rN<|tS<|ab.cut (fun aJ=>∃ (c2:Bool),rP c2=r∧aJ=⟨11,[(2,.bool c2)],[]⟩) ?_ ?_
 ·refine tR<|rF J J J<|rL J J .p0 J J<|ae.qv (pH J J) J<|rM J J<|ae.dJ J J J (fun hc=>?_) (fun hc=>?_)
  ·rw [uE hc] at h
   exact rF J J J<|rY J J J<|rL J J .p0 J J<|rY J J J<|ae.qv (pH J J) J<|rT J J J<|rA J J<|rN<|ab.stop<|aj.lq [] ⟨decide (aa.Kind≠4),h,J⟩ J J
  ·rw [uF hc] at h
   exact rG J J J J<|rG J J J J<|rE J J J<|rA J J<|rN<|ab.stop<|aj.lq [] ⟨false,h,J⟩ J J
 ·rintro aJ ⟨c2,h,rfl⟩
  unfold rP at h
  refine ab.ret<|?_
  obtain rfl:=h
  exact hP J J
theorem tN [GI:bU] {aa:List MarkS} {iD:MarkS→Option Bool} {dY:FuncId} [bN Tryz.prog dY] {gq:List AV} (oc:∀ {y0:_} {u:Bool},iD y0=some u→Pu Tryz.prog dY (MarkS.av y0 :: gq) (.bool u)) {r:Int} (h:lr aa iD=some r):Pu Tryz.prog 168 [wD aa,.func (.func dY) gq] (I r):=by
 unfold lr at h
 refine aR.bI Tryz.func168 J Tryz.ntmps168 Tryz.results168 J J ?_
 refine aL<|rA J J<|rN<|tS<|aL<|rM J J<|ae.qv (cE J) J<|rM J J<|rN<|ab.block<|ab.cS (fun x:Int=>gn aa iD x) (fun x aJ=>aJ=⟨19,[(0,wD aa),(1,.func (.func dY) gq),(7,I (aa.length:Int)),(8,I x)],[]⟩) h ?_ ?_
 ·exact aj.lq [] J J J
 ·intro n2 z1 aJ J1 ep h jF ek
  obtain rfl:=ep
  replace h:gn aa iD n2=some z1:=h
  unfold gn at h
  refine aL<|ae.qv (bT J J) J<|rN<|tS<|cD h J (fun h=>?_) (fun h=>?_)
  ·refine tK<|tS<|ab.block<|aL<|rM J J<|rA J J<|rN<|aL<|rM J J<|rM J J<|rM J J<|aK h fun v3 e1 h=>ae.qv (bH J J J e1 J J) J<|ae.qv (aO J J J) J<|aK h fun v4 e2 h=>tn J J (oc e2) cR J<|rN<|cB h J (fun h=>?_) (fun h=>?_)
   ·refine aL<|rM J J<|rA J J<|rN<|ab.ret<|have h:=bZ h ek;?_
    cases h
    exact hP J J
   ·refine tK<|ab.cH<|tR<|ae.qv (br J J) J<|rM J J<|rN<|ab.stop<|?_
    cases h
    exact jF _ _ J<|aj.lq [] J J J
  ·refine ab.exit J<|have h:=bZ h ek;aL<|rA J J<|rN<|ab.ret<|?_
   cases h
   exact hP J J
theorem tE [GI:bU] {bO:Bk} {aa:List MarkS} {iD:MarkS→Option Bool} {dY:FuncId} [bN Tryz.prog dY] {gq:List AV} (oc:∀ {y0:_} {u:Bool},iD y0=some u→Pu Tryz.prog dY (MarkS.av y0 :: gq) (.bool u)) {r:(List MarkS)} (h:fc aa iD=some r):aR Tryz.prog 133 [.sl 6 bO 0 aa.length,.func (.func dY) gq] [(bO,tW aa)] (T1 (fun np=>[(np,tW r)]) (fun np=>.sl 6 np 0 r.length)):=by
 unfold fc at h
 refine aR.iL ?_
 refine aR.bI Tryz.func133 J Tryz.ntmps133 Tryz.results133 J J ?_
 refine aL<|rA J J<|rN<|aL<|rM J J<|rM J J<|aK h fun v1 e1 h=>gO J (tN oc e1) (.cons (lD.jd .p0) (.cons (.co (.refl _)) .nil)) J J<|rA J J<|rN<|tS<|aL<|rM J J<|ae.qv (dt J J) J<|rN<|cD h J (fun h=>?_) (fun h=>?_)
 ·refine aL<|rM J J<|rA J J<|rN<|ab.ret<|?_
  cases h
  exact hH J [0] J ⟨bO,J,J⟩
 ·refine tK<|tS<|aL<|rM J J<|ae.qv (br J J) J<|rA J J<|rN<|ab.block<|ab.cS (fun x:(List MarkS)×Int×Int=>fQ iD x.1 x.2.1 x.2.2) (fun x aJ=>aJ=⟨42,[(0,.sl 6 bO 0 x.1.length),(1,.func (.func dY) gq),(5,I x.2.1),(6,I x.2.2)],[(bO,tW x.1)]⟩) h ?_ ?_
  ·exact aj.lq [0] J J J
  ·intro x z1 aJ J1 ep h jF ek
   obtain ⟨l5,n6,n7⟩:=x
   obtain rfl:=ep
   replace h:fQ iD l5 n6 n7=some z1:=h
   unfold fQ at h
   refine tS<|aL<|rM J J<|rM J J<|ae.qv (dH J) J<|ae.qv (bT J J) J<|rN<|cD h J (fun h=>?_) (fun h=>?_)
   ·refine tK<|tS<|ab.block<|aL<|rM J J<|rM J J<|aK h fun v8 e2 h=>ae.qv (bB J J J e2) J<|ae.qv (cq (g:=MarkS.av) J J (.inl .p0) J e2 J) J<|bA J J J J fun b9=>ar J J J J .p0 J J<|rN<|aL<|rM J J<|ae.qv (aG J J .p0 J) J<|aK h fun v10 e3 h=>tn J J (oc e3) cR J<|ae.qv (cV J) J<|rN<|ab.cut (fun aJ=>∃ (vN:List MarkS) (n12:Int),fP n7 vN n12=some z1∧aJ=⟨42,[(0,.sl 6 bO 0 vN.length),(1,.func (.func dY) gq),(5,I n12),(6,I n7)],[(bO,tW vN)]⟩) ?_ ?_
    ·refine cB h J (fun h=>?_) (fun h=>?_)
     ·exact aL<|rM J J<|rM J J<|ae.qv (aG J J .p0 J) J<|aK h fun lF e4 h=>ae.qv (bB J J J e4) J<|dj (g:=MarkS.av) (BE:=v8) J J J J e4 J .p1 J<|ae.ghost<|aj.eqs (s:=0) (iI:=.sl 6 bO 0 (l5.set n6.toNat v8).length) J (by rw [ac])<|aj.here<|ae.ghost<|aj.eqs (s:=17) (iI:=.sl 6 bO 0 (l5.set n6.toNat v8).length) J (by rw [ac])<|aj.here<|ae.ghost<|aj.eqs (s:=22) (iI:=.sl 6 bO 0 (l5.set n6.toNat v8).length) J (by rw [ac])<|aj.here<|ae.ghost<|aj.eqs (s:=30) (iI:=.sl 6 bO 0 (l5.set n6.toNat v8).length) J (by rw [ac])<|aj.here<|rN<|tR<|rM J J<|ae.qv (br J J) J<|rA J J<|rN<|ab.stop<|aj.lq [1] ⟨l5.set n6.toNat v8,bE (n6+1),h,J⟩ J J
     ·exact tK<|ab.stop<|aj.lq [1] ⟨l5,n6,h,J⟩ J J
    ·rintro aJ ⟨vN,n12,h,rfl⟩
     unfold fP at h
     refine ab.cH<|tR<|rM J J<|ae.qv (br J J) J<|rA J J<|rN<|ab.stop<|?_
     cases h
     exact jF _ _ J<|aj.lq [0] J J J
   ·refine ab.exit J<|have h:=bZ h ek;?_
    unfold nd at h
    refine aL<|rM J J<|rM J J<|aK h fun oK e5 h=>ae.qv (w5 J J (.some _ _ _ J) .none J J e5) J<|Sj (g:=MarkS.av) (Z:=(⟨0,[],0,(⟨0,0,0⟩:Version)⟩:MarkS)) (L:=n6) J J J J J J e5 .p0<|ae.ghost<|aj.eqs (s:=0) (iI:=.sl 6 bO 0 (E7 l5 n6 oK.length (⟨0,[],0,(⟨0,0,0⟩:Version)⟩:MarkS)).length) J (congrArg (AV.sl 6 bO 0) (yV e5))<|aj.here<|ae.ghost<|aj.eqs (s:=17) (iI:=.sl 6 bO 0 (E7 l5 n6 oK.length (⟨0,[],0,(⟨0,0,0⟩:Version)⟩:MarkS)).length) J (congrArg (AV.sl 6 bO 0) (yV e5))<|aj.here<|ae.ghost<|aj.eqs (s:=36) (iI:=.sl 6 bO 0 (E7 l5 n6 oK.length (⟨0,[],0,(⟨0,0,0⟩:Version)⟩:MarkS)).length) J (congrArg (AV.sl 6 bO 0) (yV e5))<|aj.here<|rN<|aL<|rM J J<|rM J J<|aK h fun xL e6 h=>ae.qv (w5 J J .none (.some _ _ _ J) J J e6) J<|rA J J<|ae.ghost<|aj.Ur e6 .p0<|aj.here<|rN<|ab.ret<|?_
    cases h
    exact hH J [0] J ⟨bO,J,J⟩
theorem PZ [GI:bU] {aa r:Int} (h:Ee aa=r):Pu Tryz.prog 83 [I aa] (I r):=by
 unfold Ee at h
 refine aR.bI Tryz.func83 J Tryz.ntmps83 Tryz.results83 J J ?_
 refine aL<|rA J J<|rN<|tS<|ab.block<|aL<|rM J J<|ae.qv (bT J J) J<|rA J J<|rN<|cD h J (fun h=>?_) (fun h=>?_)
 ·refine aL<|rA J J<|rN<|ab.ret<|?_
  obtain rfl:=h
  exact hP J J
 ·refine aL<|rM J J<|ae.qv (eB J J) J<|rA J J<|rN<|cD h J (fun h=>?_) (fun h=>?_)
  ·refine aL<|rA J J<|rN<|ab.ret<|?_
   obtain rfl:=h
   exact hP J J
  ·refine tK<|ab.cH<|aL<|rA J J<|rN<|ab.ret<|?_
   obtain rfl:=h
   exact hP J J
theorem zF [GI:bU] {aa ai:MarkS} {r:Int} (h:kE aa ai=r):Pu Tryz.prog 39 [MarkS.av aa,MarkS.av ai] (I r):=by
 unfold kE at h
 refine aR.bI Tryz.func39 J Tryz.ntmps39 Tryz.results39 J J ?_
 refine aL<|dh J J J J fun b1=>dh J J J J fun b2=>rA J J<|rN<|tS<|aL<|rF J J J<|rL J J .p1 J J<|rF J J J<|rL J J .p0 J J<|ae.qv (pH J J) J<|rN<|cD h J (fun h=>?_) (fun h=>?_)
 ·refine aL<|rF J J J<|rL J J .p1 J J<|rF J J J<|rL J J .p0 J J<|ae.qv (fy J J) J<|ba J (PZ J) cR J<|rA J J<|rN<|ab.ret<|?_
  obtain rfl:=h
  exact hP J J
 ·refine tK<|aL<|rF J J J<|rL J J .p1 J J<|rF J J J<|rL J J .p0 J J<|ba J (rz J) cR J<|rA J J<|rN<|ab.ret<|?_
  obtain rfl:=h
  exact hP J J
theorem Li [GI:bU] {aa:Campaign} {ai:Int} {aH:List DeviceS} {bc:List MarkS} {ck r:Int} (h:A1 aa ai aH bc ck=some r):Pu Tryz.prog 103 [Campaign.av aa,I ai,pI aH,wD bc,I ck] (I r):=by
 unfold A1 at h
 refine aR.bI Tryz.func103 J Tryz.ntmps103 Tryz.results103 J J ?_
 refine aL<|dh J J J J fun b1=>rA J J<|rN<|aL<|rA J J<|rN<|tS<|aL<|rM J J<|ae.qv (cE J) J<|rM J J<|rN<|ab.block<|ab.cS (fun x:(List MarkS)×Int=>qU aa ai aH bc ck x.1 x.2) (fun x aJ=>∃ (b5:Bk),aJ=⟨78,[(1,I ai),(3,wD bc),(4,I ck),(5,.ptr b1 0),(11,.sl 6 b5 0 x.1.length),(18,pI aH),(19,I (aH.length:Int)),(20,I x.2)],[(b1,.cells (xz aa)),(b5,tW x.1)]⟩) h ?_ ?_
 ·exact aj.arr (s:=11) 6 J fun b8=>aj.lq [1,0] ⟨b8,J⟩ J J
 ·intro x z1 aJ J1 ep h jF ek
  obtain ⟨l6,n7⟩:=x
  obtain ⟨b5,rfl⟩:=ep
  replace h:qU aa ai aH bc ck l6 n7=some z1:=h
  unfold qU at h
  refine aL<|ae.qv (bT J J) J<|rN<|tS<|cD h J (fun h=>?_) (fun h=>?_)
  ·refine tK<|tS<|ab.block<|aL<|aK h fun v9 e1 h=>ae.qv (bH J J J e1 J J) J<|ae.qv (aO J J J) J<|bA J J J J fun Er=>ar J J J J .p0 J J<|rN<|aL<|ae.qv (aG J J .p1 J) J<|rF J J J<|rL J J .p0 J J<|aK h fun v11 e2 h=>ba J (uQ e2) cR J<|rM J J<|ae.qv (dt J J) J<|rN<|ab.cut (fun aJ=>∃ (kB:Bk) (kU:List MarkS),tz n7 kU=some z1∧aJ=⟨78,[(1,I ai),(3,wD bc),(4,I ck),(5,.ptr b1 0),(11,.sl 6 kB 0 kU.length),(18,pI aH),(19,I (aH.length:Int)),(20,I n7)],[(b1,.cells (xz aa)),(kB,tW kU)]⟩) ?_ ?_
   ·refine cD h J (fun h=>?_) (fun h=>?_)
    ·exact tR<|rM J J<|ae.qv (aG J J .p1 J) J<|rF J J J<|rL J J .p0 J J<|rM J J<|rM J J<|aK h fun sT e3 h=>jH J (xh e3) cR .nil (fun _=>J) J fun Ta=>aK h fun Rt e4 h=>dB (g:=MarkS.av) J J J J J J J J (BD (.inl .p0) J) e4 (fun _=>.p3) J fun re=>rA J J<|rN<|ab.stop<|aj.lq [2,2] ⟨re,Rt,h,J⟩ J J
    ·exact tK<|ab.stop<|aj.lq [1,1] ⟨b5,l6,h,J⟩ J J
   ·rintro aJ ⟨kB,kU,h,rfl⟩
    unfold tz at h
    refine ab.cH<|tR<|ae.qv (br J J) J<|rM J J<|rN<|ab.stop<|?_
    cases h
    exact jF _ _ J<|aj.lq [0,0] ⟨kB,J⟩ J J
  ·refine ab.exit J<|have h:=bZ h ek;?_
   unfold vu at h
   refine aL<|rM J J<|aK h fun ub e5 h=>jH J (tE (fun e=>Fm (ad e)) e5) cR (.cons .p1 .nil) (fun _=>J) J fun vf=>rA J J<|rN<|aL<|rM J J<|aK h fun v20 e6 h=>bC J (kC (fun e=>zF (GI:=nz) (ad e)) (tZ e6)) cR (.cons .p0 .nil) J J<|ae.ghost<|aj.eqs (s:=11) (iI:=.sl 6 vf 0 v20.length) J (congrArg (AV.sl 6 vf 0) (jI e6))<|aj.here<|ae.ghost<|aj.eqs (s:=40) (iI:=.sl 6 vf 0 v20.length) J (congrArg (AV.sl 6 vf 0) (jI e6))<|aj.here<|ae.ghost<|aj.eqs (s:=41) (iI:=.sl 6 vf 0 v20.length) J (congrArg (AV.sl 6 vf 0) (jI e6))<|aj.here<|rN<|aL<|rA J J<|rN<|tS<|aL<|rM J J<|ae.qv (dH J) J<|rM J J<|rN<|ab.block<|ab.cS (fun x:Int×Int=>oY aa ai v20 x.1 x.2) (fun x aJ=>aJ=⟨78,[(1,I ai),(5,.ptr b1 0),(14,I x.1),(43,.sl 6 vf 0 v20.length),(44,I (v20.length:Int)),(45,I x.2)],[(b1,.cells (xz aa)),(vf,tW v20)]⟩) h ?_ ?_
   ·exact aj.lq [1,0] J J J
   ·intro x z2 aJ J2 ep h zm xd
    obtain ⟨n23,n24⟩:=x
    obtain rfl:=ep
    replace h:oY aa ai v20 n23 n24=some z2:=h
    unfold oY at h
    refine aL<|ae.qv (bT J J) J<|rN<|tS<|cD h J (fun h=>?_) (fun h=>?_)
    ·refine tK<|tS<|ab.block<|aL<|rM J J<|aK h fun v25 e7 h=>ae.qv (bB J J J e7) J<|ae.qv (cq (g:=MarkS.av) J J (.inl .p1) J e7 J) J<|bA J J J J fun BN=>rA J J<|ar J J J J .p0 J J<|rN<|tS<|aL<|rF J J J<|rL J J .p0 J J<|ae.qv (dt J J) J<|rN<|ab.cut (fun aJ=>∃ (n27:Int),oX aa ai n24 v25 n27=some z2∧aJ=⟨78,[(1,I ai),(5,.ptr b1 0),(14,I n27),(15,I n24),(16,.ptr BN 0),(43,.sl 6 vf 0 v20.length),(44,I (v20.length:Int)),(45,I n24)],[(b1,.cells (xz aa)),(BN,.cells [I v25.At,.str v25.Device,I v25.Kind,I v25.Version.aA,I v25.Version.aD,I v25.Version.aF]),(vf,tW v20)]⟩) ?_ ?_
     ·refine cD h J (fun h=>?_) (fun h=>?_)
      ·exact tR<|rM J J<|ae.qv (br J J) J<|rA J J<|rN<|ab.stop<|aj.lq [1,0,0] ⟨bE (n23+1),h,J⟩ J J
      ·exact tK<|ab.stop<|aj.lq [1,0,0] ⟨n23,h,J⟩ J J
     ·rintro aJ ⟨n27,h,rfl⟩
      unfold oX at h
      refine aL<|rF J J J<|rL J J .p0 J J<|rM J J<|aK h fun v28 e8 h=>ae.qv (bH J J J e8 J J) J<|ae.qv (aO J J J) J<|bA J J J J fun Ny=>ar J J J J .p0 J J<|rN<|tS<|ab.cut (fun aJ=>∃ (Yu:Bool),vq n24 v25 n27 Yu=some z2∧aJ=⟨78,[(1,I ai),(5,.ptr b1 0),(14,I n27),(16,.ptr BN 0),(43,.sl 6 vf 0 v20.length),(44,I (v20.length:Int)),(45,I n24),(74,.bool Yu)],[(b1,.cells (xz aa)),(BN,.cells [I v25.At,.str v25.Device,I v25.Kind,I v25.Version.aA,I v25.Version.aD,I v25.Version.aF]),(vf,tW v20)]⟩) ?_ ?_
      ·refine tR<|rM J J<|ae.qv (br J J) J<|rF J J J<|rL J J .p0 J J<|ae.qv (nP J J) J<|rM J J<|ae.dJ J J J (fun hc=>?_) (fun hc=>?_)
       ·rw [uE hc] at h
        exact rM J J<|rY J J J<|ae.qv (uA J J) J<|rY J J J<|rF J J J<|rY J J J<|rL J J .p0 J J<|rY J J J<|rM J J<|rY J J J<|ae.qv (br J J) J<|rY J J J<|ae.qv (uA J J) J<|rY J J J<|ae.qv (eB J J) J<|rT J J J<|rN<|ab.stop<|aj.lq [1,1,1] ⟨decide ((bE (v28.ed * (bE (n24+1)))) < (bE (n27 * 1000))),h,J⟩ J J
       ·rw [uF hc] at h
        exact rG J J J J<|rG J J J J<|rG J J J J<|rG J J J J<|rG J J J J<|rG J J J J<|rG J J J J<|rE J J J<|rN<|ab.stop<|aj.lq [1,1,1] ⟨false,h,J⟩ J J
      ·rintro aJ ⟨Yu,h,rfl⟩
       unfold vq at h
       refine cB h J (fun h=>?_) (fun h=>?_)
       ·refine aL<|rF J J J<|rL J J .p1 J J<|rA J J<|rN<|ab.ret<|have h:=bZ h xd;?_
        cases h
        exact hP J J
       ·refine tK<|ab.cH<|tR<|ae.qv (br J J) J<|rM J J<|rN<|ab.stop<|?_
        cases h
        exact zm _ _ J<|aj.lq [0,1] J J J
    ·refine ab.exit J<|have h:=bZ h xd;aL<|rA J J<|rN<|ab.ret<|?_
     cases h
     exact hP J J
theorem zG [GI:bU] {aa:Campaign} {ai:List DeviceS} {aH:List MarkS} {bc r:Int} (h:kF aa ai aH bc=some r):Pu Tryz.prog 58 [Campaign.av aa,pI ai,wD aH,I bc] (I r):=by
 unfold kF at h
 refine aR.bI Tryz.func58 J Tryz.ntmps58 Tryz.results58 J J ?_
 refine aL<|dh J J J J fun b1=>rA J J<|rN<|aL<|rA J J<|rN<|tS<|aL<|rF J J J<|rL J J .p0 J J<|ae.qv (cE J) J<|rM J J<|rN<|ab.block<|ab.cS (fun x:Int×Int=>nf aa ai aH bc x.1 x.2) (fun x aJ=>aJ=⟨38,[(1,pI ai),(2,wD aH),(3,I bc),(4,.ptr b1 0),(9,I x.1),(14,I (aa.aI.length:Int)),(15,I x.2)],[(b1,.cells (xz aa))]⟩) h ?_ ?_
 ·exact aj.lq [0] J J J
 ·intro x z1 aJ J1 ep h jF ek
  obtain ⟨n4,n5⟩:=x
  obtain rfl:=ep
  replace h:nf aa ai aH bc n4 n5=some z1:=h
  unfold nf at h
  refine aL<|ae.qv (bT J J) J<|rN<|tS<|cD h J (fun h=>?_) (fun h=>?_)
  ·refine tK<|tS<|ab.block<|aL<|rM J J<|rA J J<|rN<|aL<|ae.qv (aG J J .p0 J) J<|rM J J<|rM J J<|rM J J<|rM J J<|aK h fun v6 e1 h=>ba J (Li e1) cR J<|rA J J<|rN<|tS<|ab.cut (fun aJ=>∃ (c7:Bool),rQ n4 n5 v6 c7=some z1∧aJ=⟨38,[(1,pI ai),(2,wD aH),(3,I bc),(4,.ptr b1 0),(9,I n4),(11,I v6),(14,I (aa.aI.length:Int)),(15,I n5),(34,.bool c7)],[(b1,.cells (xz aa))]⟩) ?_ ?_
   ·refine tR<|rM J J<|ae.qv (nP J J) J<|rM J J<|ae.dJ J J J (fun hc=>?_) (fun hc=>?_)
    ·rw [uE hc] at h
     refine rM J J<|rY J J J<|ae.qv (bT J J) J<|rY J J J<|rM J J<|ae.dA J J J (fun hc=>?_) (fun hc=>?_)
     ·rw [we hc] at h
      exact rM J J<|rY J J J<|rM J J<|rY J J J<|ae.qv (bT J J) J<|rY J J J<|rE J J J<|rT J J J<|rN<|ab.stop<|aj.lq [0] ⟨decide (v6 < n4),h,J⟩ J J
     ·rw [wc hc] at h
      exact rG J J J J<|rG J J J J<|rY J J J<|rT J J J<|rT J J J<|rN<|ab.stop<|aj.lq [0] ⟨true,h,J⟩ J J
    ·rw [uF hc] at h
     exact rG J J J J<|rG J J J J<|ae.aV J J J<|ae.aV J J J<|ae.aV J J J<|rG J J J J<|rE J J J<|rN<|ab.stop<|aj.lq [0] ⟨false,h,J⟩ J J
   ·rintro aJ ⟨c7,h,rfl⟩
    unfold rQ at h
    refine ab.cut (fun aJ=>∃ (n8:Int),oZ n5 n8=some z1∧aJ=⟨38,[(1,pI ai),(2,wD aH),(3,I bc),(4,.ptr b1 0),(9,I n8),(14,I (aa.aI.length:Int)),(15,I n5)],[(b1,.cells (xz aa))]⟩) ?_ ?_
    ·refine cB h J (fun h=>?_) (fun h=>?_)
     ·exact tR<|rM J J<|rA J J<|rN<|ab.stop<|aj.lq [0] ⟨v6,h,J⟩ J J
     ·exact tK<|ab.stop<|aj.lq [0] ⟨n4,h,J⟩ J J
    ·rintro aJ ⟨n8,h,rfl⟩
     unfold oZ at h
     refine ab.cH<|tR<|ae.qv (br J J) J<|rM J J<|rN<|ab.stop<|?_
     cases h
     exact jF _ _ J<|aj.lq [0] J J J
  ·refine ab.exit J<|have h:=bZ h ek;aL<|rM J J<|rA J J<|rN<|ab.ret<|?_
   cases h
   exact hP J J
theorem Jj [GI:bU] {aa:Campaign} {ai aH:Int} {r:Bool} (h:sE aa ai aH=r):Pu Tryz.prog 21 [Campaign.av aa,I ai,I aH] (.bool r):=by
 unfold sE at h
 refine aR.bI Tryz.func21 J Tryz.ntmps21 Tryz.results21 J J ?_
 refine aL<|dh J J J J fun b1=>rA J J<|rN<|aL<|rM J J<|rM J J<|ae.qv (br J J) J<|ae.qv (br J J) J<|ae.qv (FB J J (by decide)) J<|rA J J<|rN<|tS<|ab.dv (id:=2) (A:=[0,1,3,0,8,24,7,127]) 8 mixed J (by kernel_rfl) (by kernel_rfl)<|AM.qv (ax J J) J<|AM.qv (ax J J) J<|AM.qv (aM J J .p0 J) J<|AM.qv (ax J J) J<|AM.qv (ax J J) J<|AM.qv (aM J J .p0 J) J<|AM.qv (bQ J) J<|AM.qv (bQ J) J<|AM.nil<|rN<|tS<|ab.block<|aL<|rM J J<|rM J J<|ae.qv (bT J J) J<|rA J J<|rN<|cD h J (fun h=>?_) (fun h=>?_)
 ·refine tS<|ab.cut (fun aJ=>∃ (c2:Bool),ud c2=r∧aJ=⟨45,[(6,.bool c2)],[]⟩) ?_ ?_
  ·refine tR<|rM J J<|rM J J<|ae.qv (qM J J) J<|rM J J<|ae.dJ J J J (fun hc=>?_) (fun hc=>?_)
   ·rw [uE hc] at h
    exact rM J J<|rY J J J<|rM J J<|rY J J J<|ae.qv (bT J J) J<|rT J J J<|rA J J<|rN<|ab.stop<|aj.lq [] ⟨decide (((bE ((bE (aH+ai))+86400000)).tmod 86400000) < aa.aZ.To),h,J⟩ J J
   ·rw [uF hc] at h
    exact rG J J J J<|rG J J J J<|rE J J J<|rA J J<|rN<|ab.stop<|aj.lq [] ⟨false,h,J⟩ J J
  ·rintro aJ ⟨c2,h,rfl⟩
   unfold ud at h
   refine ab.ret<|?_
   obtain rfl:=h
   exact hP J J
 ·refine aL<|rM J J<|rM J J<|ae.qv (eB J J) J<|rA J J<|rN<|cD h J (fun h=>?_) (fun h=>?_)
  ·refine tS<|ab.cut (fun aJ=>∃ (c3:Bool),ue c3=r∧aJ=⟨45,[(6,.bool c3)],[]⟩) ?_ ?_
   ·refine tR<|rM J J<|rM J J<|ae.qv (nP J J) J<|rM J J<|ae.dA J J J (fun hc=>?_) (fun hc=>?_)
    ·rw [we hc] at h
     exact rM J J<|rY J J J<|rM J J<|rY J J J<|ae.qv (bT J J) J<|rE J J J<|rA J J<|rN<|ab.stop<|aj.lq [] ⟨decide (((bE ((bE (aH+ai))+86400000)).tmod 86400000) < aa.aZ.To),h,J⟩ J J
    ·rw [wc hc] at h
     exact rG J J J J<|rG J J J J<|rT J J J<|rA J J<|rN<|ab.stop<|aj.lq [] ⟨true,h,J⟩ J J
   ·rintro aJ ⟨c3,h,rfl⟩
    unfold ue at h
    refine ab.ret<|?_
    obtain rfl:=h
    exact hP J J
  ·refine tK<|ab.cH<|aL<|rA J J<|rN<|ab.ret<|?_
   obtain rfl:=h
   exact hP J J
theorem xU:Pd Tryz.prog 104 (Value.int .i64) Na:=⟨fun cH off cap zs w hH hb hs=>Tryz.slices_Sort_int cH off cap zs w hH hb hs,fun p cap w=>Tryz.slices_Sort_int_none p cap w⟩
theorem xV [GI:bU] {bO:Bk} {aa:List Int} {r:(List Int)} (h:mK aa=some r):aR Tryz.prog 104 [.sl 1 bO 0 aa.length] [(bO,.arr 1 (aa.map I))] (T0 [(bO,.arr 1 (r.map I))] (.lM [])):=
 IC xU h
theorem xi [GI:bU] {aa:Campaign} {ai:DeviceS} {aH:List MarkS} {bc:Int} {r:an} (h:qI aa ai aH bc=some r):Pu Tryz.prog 60 [Campaign.av aa,DeviceS.av ai,wD aH,I bc] (an.av r):=by
 unfold qI at h
 refine aR.bI Tryz.func60 J Tryz.ntmps60 Tryz.results60 J J ?_
 refine aL<|dh J J J J fun b1=>dh J J J J fun b2=>bA J J J J fun b3=>rN<|aL<|rF J J J<|ae.qv (aP J J .p1 J J) J<|ae.qv (dc J J J J J) J<|bA J J J J fun b4=>ar J J J J .p0 J J<|rN<|tS<|aL<|ae.qv (aG J J .p3 J) J<|rF J J J<|rL J J .p2 J J<|rM J J<|rM J J<|aK h fun v5 e1 h=>jH J (xh e1) cR .nil (fun _=>J) J fun b6=>ae.qv (dH J) J<|rM J J<|rN<|ab.block<|ab.cS (fun x:Int×Int×Int×Int×Int×Int×Int=>ot v5 x.1 x.2.1 x.2.2.1 x.2.2.2.1 x.2.2.2.2.1 x.2.2.2.2.2.1 x.2.2.2.2.2.2) (fun x aJ=>aJ=⟨47,[(8,.ptr b3 0),(9,.ptr b4 0),(20,.sl 6 b6 0 v5.length),(21,I (v5.length:Int)),(22,I x.2.2.2.2.2.2)],[(b3,.cells [I 0,I 0,I 0,I 0,I 0,I 0]),(b4,.cells [I x.1,I x.2.1,I x.2.2.1,I x.2.2.2.1,I x.2.2.2.2.1,I x.2.2.2.2.2.1]),(b6,tW v5)]⟩) h ?_ ?_
 ·exact aj.lq [2,1,0] J J J
 ·intro x z1 aJ J1 ep h jF ek
  obtain ⟨n14,n15,n16,n17,n18,n19,n20⟩:=x
  obtain rfl:=ep
  replace h:ot v5 n14 n15 n16 n17 n18 n19 n20=some z1:=h
  unfold ot at h
  refine aL<|ae.qv (bT J J) J<|rN<|tS<|cD h J (fun h=>?_) (fun h=>?_)
  ·refine tK<|tS<|ab.block<|aL<|aK h fun v21 e2 h=>ae.qv (bB J J J e2) J<|ae.qv (cq (g:=MarkS.av) J J (.inl .p2) J e2 J) J<|bA J J J J fun Rx=>ar J J J J .p0 J J<|rN<|tS<|ab.lB (id:=5) (A:=[0,1,0,4,3,19,63,127]) (H0:=[(b4,.cells [I n14,I n15,I n16,I n17,I n18,I n19])]) (HH:=fun β=>[(b4,.cells [I v21.Kind,I n15,I n16,I n17,I n18,I n19]),(Rx,.cells [I v21.At,.str v21.Device,I v21.Kind,I v21.Version.aA,I v21.Version.aD,I v21.Version.aF]),(b3,.cells [I 0,I 0,I 0,I 0,I 0,I 0]),(b6,tW v5)]) 6 mixed J (by kernel_rfl) (by kernel_rfl) [⟨none,some 5,[],fun _=>(b4,.cells [I n14,I n15,I n16,I n17,I n18,I n19]),none,[]⟩,⟨some 5,none,[],fun _=>(b4,.cells [I v21.Kind,I n15,I n16,I n17,I n18,I n19]),none,[]⟩] [] J (by kernel_rfl) J (.cons .p2 .nil) (fun _=>J)<|AT.am 5 J J<|AM.qv (ax J J) J<|AM.qv (aM J J .p0 J) J<|AM.qv (ax J J) J<|AM.qv (aM J J .p0 J) J<|AM.qv (ax J J) J<|AM.nil<|AT.M9 (Ti:=[(b4,.cells [I n14,I n15,I n16,I n17,I n18,I n19])]) (Pi:=[(b4,.cells [I v21.Kind,I n15,I n16,I n17,I n18,I n19])]) (fun _=>J) (fun _=>J) (fun _=>J) J J ?_ ?_
   ·exact ar J J J J .p0 J J<|ae.nil ⟨_,J⟩
   refine AT.xK (fun _=>J) fun β=>rF J J J<|ar J J J J .p0 J J<|rN<|aL<|rF J J J<|rL J J .p1 J J<|rN<|ab.block<|aL<|ae.qv (dt J J) J<|rA J J<|rN<|ab.cut (fun aJ=>∃ (n23:Int) (n24:Int) (n25:Int) (n26:Int),pX n20 v21 n23 n24 n25 n26=some z1∧aJ=⟨47,[(8,.ptr b3 0),(9,.ptr b4 0),(20,.sl 6 b6 0 v5.length),(21,I (v5.length:Int)),(22,I n20)],[(b3,.cells [I 0,I 0,I 0,I 0,I 0,I 0]),(b4,.cells [I v21.Kind,I v21.At,I n23,I n24,I n25,I n26]),(b6,tW v5)]⟩) ?_ ?_
   ·refine cD h J (fun h=>?_) (fun h=>?_)
    ·exact tR<|rF J J J<|ae.qv (aP J J .p1 J J) J<|rF J J J<|ar J J J J .p0 J J<|rN<|ab.stop<|aj.lq [2,0,1] ⟨v21.Version.aA,v21.Version.aD,v21.Version.aF,n19,h,J⟩ J J
    ·refine aL<|ae.qv (dt J J) J<|rA J J<|rN<|ab.cut (fun aJ=>∃ (n27:Int),pY n16 n17 n18 n20 v21 n27=some z1∧aJ=⟨47,[(8,.ptr b3 0),(9,.ptr b4 0),(20,.sl 6 b6 0 v5.length),(21,I (v5.length:Int)),(22,I n20)],[(b3,.cells [I 0,I 0,I 0,I 0,I 0,I 0]),(b4,.cells [I v21.Kind,I v21.At,I n16,I n17,I n18,I n27]),(b6,tW v5)]⟩) ?_ ?_
     ·refine cD h J (fun h=>?_) (fun h=>?_)
      ·exact tR<|rF J J J<|rL J J .p0 J J<|ae.qv (br J J) J<|rF J J J<|ar J J J J .p0 J J<|rN<|ab.stop<|aj.lq [2,0,1] ⟨bE (n19+1),h,J⟩ J J
      ·exact tK<|ab.stop<|aj.lq [2,0,1] ⟨n19,h,J⟩ J J
     ·rintro aJ ⟨n27,h,rfl⟩
      unfold pY at h
      exact ab.stop<|aj.lq [0,0,0] ⟨n16,n17,n18,n27,h,J⟩ J J
   ·rintro aJ ⟨n23,n24,n25,n26,h,rfl⟩
    unfold pX at h
    refine ab.cH<|ab.cH<|tR<|ae.qv (br J J) J<|rM J J<|rN<|ab.stop<|?_
    cases h
    exact jF _ _ J<|aj.lq [0,0,0] J J J
  ·refine ab.exit J<|have h:=bZ h ek;aL<|ae.qv (aG J J .p1 J) J<|ar J J J J .p0 J J<|rN<|ab.ret<|?_
   cases h
   exact aj.here ⟨_,.cons (.all _ _ _ _ _ _ J .p0 aC.h a8.h J J) .nil,J⟩
theorem Jk [GI:bU] {aa:Campaign} {ai:DeviceS} {aH:List MarkS} {bc:Int} {r:Bool} (h:BM aa ai aH bc=some r):Pu Tryz.prog 63 [Campaign.av aa,DeviceS.av ai,wD aH,I bc] (.bool r):=by
 unfold BM at h
 refine aR.bI Tryz.func63 J Tryz.ntmps63 Tryz.results63 J J ?_
 refine aL<|dh J J J J fun b1=>dh J J J J fun b2=>rA J J<|rN<|aL<|ae.qv (aG J J .p1 J) J<|ae.qv (aG J J .p0 J) J<|rM J J<|rM J J<|aK h fun v3 e1 h=>ba J (xi e1) cR J<|bA J J J J fun b4=>ar J J J J .p0 J J<|rN<|tS<|ab.cut (fun aJ=>∃ (c5:Bool),y7 c5=some r∧aJ=⟨30,[(8,.bool c5)],[]⟩) ?_ ?_
 ·refine tR<|rF J J J<|ae.qv (aP J J .p0 J J) J<|rF J J J<|ae.qv (aP J J .p2 J J) J<|ae.qv (DH (g:=Version.av) (X:=v3.Version) (Y:=aa.Target) J J J J J) J<|rM J J<|ae.dA J J J (fun hc=>?_) (fun hc=>?_)
  ·rw [we hc] at h
   refine rF J J J<|rY J J J<|rL J J .p0 J J<|rY J J J<|ae.qv (nP J J) J<|rE J J J<|rM J J<|ae.dA J J J (fun hc=>?_) (fun hc=>?_)
   ·rw [we hc] at h
    exact rF J J J<|rY J J J<|rL J J .p0 J J<|rY J J J<|ae.qv (dt J J) J<|rE J J J<|rA J J<|rN<|ab.stop<|aj.lq [] ⟨decide (v3.Kind=5),h,J⟩ J J
   ·rw [wc hc] at h
    exact rG J J J J<|rG J J J J<|rT J J J<|rA J J<|rN<|ab.stop<|aj.lq [] ⟨true,h,J⟩ J J
  ·rw [wc hc] at h
   exact rG J J J J<|rG J J J J<|rT J J J<|rM J J<|rG J J J J<|rG J J J J<|rG J J J J<|rT J J J<|rA J J<|rN<|ab.stop<|aj.lq [] ⟨true,h,J⟩ J J
 ·rintro aJ ⟨c5,h,rfl⟩
  unfold y7 at h
  refine ab.ret<|?_
  cases h
  exact hP J J
theorem Ag [GI:bU] {aa:DeviceS} {ai:Campaign} {aH:Int} {bc:List MarkS} {ck:Int} {r:Bool} (h:kR aa ai aH bc ck=some r):Pu Tryz.prog 108 [DeviceS.av aa,.ch [.str ai.Key,I ai.Target.aA,I ai.Target.aD,I ai.Target.aF,I ai.At,oQ ai.aI,I ai.aZ.bF,I ai.aZ.To,I ai.Room],.ch [I aH],.ch [wD bc],.ch [I ck]] (.bool r):=by
 unfold kR at h
 refine aR.bI Tryz.func108 J Tryz.ntmps108 Tryz.results108 J J ?_
 refine aL<|dh J J J J fun b1=>rA J J<|rN<|tS<|ab.cut (fun aJ=>∃ (c2:Bool),j0 c2=some r∧aJ=⟨22,[(6,.bool c2)],[]⟩) ?_ ?_
 ·refine ab.dv (id:=1) (A:=[0,0,2,7,0,16,63,127,255,255,255,255,4095,8191,16383,32767]) 16 mixed J (by kernel_rfl) (by kernel_rfl)<|AM.qv (aO J J J) J<|AM.qv (ax J J) J<|AM.qv (aM J J .p0 J) J<|aK h fun v3 e1 h=>AM.gM J (uQ e1) cR J<|AM.qv (aS J J J) J<|AM.qv (fy J J) J<|AM.qv (dt J J) J<|AM.qv (aT J) J<|AM.dJ J J J (fun hc=>?_) (fun hc=>?_)
  ·exact have h:=pN hc h;AM.qv (aO J J J) J<|AM.ay J J J<|AM.qv (aG J J .p0 J) J<|AM.ay J J J<|AM.qv (aS J J J) J<|AM.ay J J J<|AM.qv (aS J J J) J<|AM.ay J J J<|aK h fun v4 e2 h=>AM.gM J (Jk e2) cR J<|AM.ay J J J<|AM.qv (cV J) J<|AM.qv (gx J J) J<|AM.qv (bQ J) J<|AM.nil<|rN<|ab.stop<|aj.lq [] ⟨!v4,h,J⟩ J J
  ·exact have h:=AD hc h;AM.au J J J J<|AM.au J J J J<|AM.au J J J J<|AM.au J J J J<|AM.au J J J J<|AM.qv (eA J J) J<|AM.qv (bQ J) J<|AM.nil<|rN<|ab.stop<|aj.lq [] ⟨false,h,J⟩ J J
 ·rintro aJ ⟨c2,h,rfl⟩
  unfold j0 at h
  refine ab.ret<|?_
  cases h
  exact hP J J
theorem r8 [GI:bU] {aa:List DeviceS} {iD:DeviceS→Option Bool} {dY:FuncId} [bN Tryz.prog dY] {gq:List AV} (oc:∀ {y0:_} {u:Bool},iD y0=some u→Pu Tryz.prog dY (DeviceS.av y0 :: gq) (.bool u)) {r:Int} (h:jg aa iD=some r):Pu Tryz.prog 136 [pI aa,.func (.func dY) gq] (I r):=by
 unfold jg at h
 refine aR.bI Tryz.func136 J Tryz.ntmps136 Tryz.results136 J J ?_
 refine aL<|rA J J<|rN<|tS<|aL<|rM J J<|ae.qv (cE J) J<|rM J J<|rN<|ab.block<|ab.cS (fun x:Int=>eF aa iD x) (fun x aJ=>aJ=⟨19,[(0,pI aa),(1,.func (.func dY) gq),(7,I (aa.length:Int)),(8,I x)],[]⟩) h ?_ ?_
 ·exact aj.lq [] J J J
 ·intro n2 z1 aJ J1 ep h jF ek
  obtain rfl:=ep
  replace h:eF aa iD n2=some z1:=h
  unfold eF at h
  refine aL<|ae.qv (bT J J) J<|rN<|tS<|cD h J (fun h=>?_) (fun h=>?_)
  ·refine tK<|tS<|ab.block<|aL<|rM J J<|rA J J<|rN<|aL<|rM J J<|rM J J<|rM J J<|aK h fun v3 e1 h=>ae.qv (bH J J J e1 J J) J<|ae.qv (aO J J J) J<|aK h fun v4 e2 h=>tn J J (oc e2) cR J<|rN<|cB h J (fun h=>?_) (fun h=>?_)
   ·refine aL<|rM J J<|rA J J<|rN<|ab.ret<|have h:=bZ h ek;?_
    cases h
    exact hP J J
   ·refine tK<|ab.cH<|tR<|ae.qv (br J J) J<|rM J J<|rN<|ab.stop<|?_
    cases h
    exact jF _ _ J<|aj.lq [] J J J
  ·refine ab.exit J<|have h:=bZ h ek;aL<|rA J J<|rN<|ab.ret<|?_
   cases h
   exact hP J J
theorem ql [GI:bU] {aa:List DeviceS} {iD:DeviceS→Option Bool} {dY:FuncId} [bN Tryz.prog dY] {gq:List AV} (oc:∀ {y0:_} {u:Bool},iD y0=some u→Pu Tryz.prog dY (DeviceS.av y0 :: gq) (.bool u)) {r:Bool} (h:eG aa iD=some r):Pu Tryz.prog 107 [pI aa,.func (.func dY) gq] (.bool r):=by
 unfold eG at h
 refine aR.bI Tryz.func107 J Tryz.ntmps107 Tryz.results107 J J ?_
 refine aL<|rA J J<|rN<|aL<|rM J J<|rM J J<|aK h fun v1 e1 h=>gO J (r8 oc e1) (.cons (.co (.refl _)) (.cons (.co (.refl _)) .nil)) J J<|ae.qv (nP J J) J<|rA J J<|rN<|ab.ret<|?_
 cases h
 exact hP J J
theorem CZ [GI:bU] {aa:Int} {ai:List DeviceS} {aH:Campaign} {bc:Int} {ck:List MarkS} {r:Bool} (h:ou aa ai aH bc ck=some r):Pu Tryz.prog 106 [I aa,.ch [pI ai],.ch [.str aH.Key,I aH.Target.aA,I aH.Target.aD,I aH.Target.aF,I aH.At,oQ aH.aI,I aH.aZ.bF,I aH.aZ.To,I aH.Room],.ch [I bc],.ch [wD ck]] (.bool r):=by
 unfold ou at h
 refine aR.bI Tryz.func106 J Tryz.ntmps106 Tryz.results106 J J ?_
 refine aL<|dh J J J J fun b1=>rA J J<|rN<|aL<|ae.qv (aS J J J) J<|ae.qv (mg J) J<|aK h fun v2 e1 h=>gO J (ql (fun e=>Ag e) e1) (.cons (.co (.refl _)) (.cons (.AB _ _ _ (.cons (.co (.refl _)) (.cons (.co (.refl _)) (.cons (.co (.refl _)) (.cons (.xG _ _ _ .p0 (.cons (.co (.refl _)) .nil)) .nil))))) .nil)) J J<|ae.qv (cV J) J<|rA J J<|rN<|ab.ret<|?_
 cases h
 exact hP J J
theorem uR [GI:bU] {aa:List Int} {iD:Int→Option Bool} {dY:FuncId} [bN Tryz.prog dY] {gq:List AV} (oc:∀ {y0:_} {u:Bool},iD y0=some u→Pu Tryz.prog dY (I y0 :: gq) (.bool u)) {r:Int} (h:jo aa iD=some r):Pu Tryz.prog 105 [gg aa,.func (.func dY) gq] (I r):=by
 unfold jo at h
 refine aR.bI Tryz.func105 J Tryz.ntmps105 Tryz.results105 J J ?_
 refine aL<|rA J J<|rN<|tS<|aL<|rM J J<|ae.qv (cE J) J<|rM J J<|rN<|ab.block<|ab.cS (fun x:Int=>ie aa iD x) (fun x aJ=>aJ=⟨19,[(0,gg aa),(1,.func (.func dY) gq),(7,I (aa.length:Int)),(8,I x)],[]⟩) h ?_ ?_
 ·exact aj.lq [] J J J
 ·intro n2 z1 aJ J1 ep h jF ek
  obtain rfl:=ep
  replace h:ie aa iD n2=some z1:=h
  unfold ie at h
  refine aL<|ae.qv (bT J J) J<|rN<|tS<|cD h J (fun h=>?_) (fun h=>?_)
  ·refine tK<|tS<|ab.block<|aL<|rM J J<|rA J J<|rN<|aL<|rM J J<|rM J J<|rM J J<|aK h fun v3 e1 h=>ae.qv (bH J J J e1 J J) J<|ae.qv (aS J J J) J<|aK h fun v4 e2 h=>tn J J (oc e2) cR J<|rN<|cB h J (fun h=>?_) (fun h=>?_)
   ·refine aL<|rM J J<|rA J J<|rN<|ab.ret<|have h:=bZ h ek;?_
    cases h
    exact hP J J
   ·refine tK<|ab.cH<|tR<|ae.qv (br J J) J<|rM J J<|rN<|ab.stop<|?_
    cases h
    exact jF _ _ J<|aj.lq [] J J J
  ·refine ab.exit J<|have h:=bZ h ek;aL<|rA J J<|rN<|ab.ret<|?_
   cases h
   exact hP J J
theorem Hh [GI:bU] {aa:Campaign} {ai:List DeviceS} {aH:List MarkS} {bc:Int} {r:(List Int)} (h:sF aa ai aH bc=some r):aR Tryz.prog 59 [Campaign.av aa,pI ai,wD aH,I bc] [] (T1 (fun np=>[(np,dx r)]) (fun np=>.sl 1 np 0 r.length)):=by
 unfold sF at h
 refine aR.iL ?_
 refine aR.bI Tryz.func59 J Tryz.ntmps59 Tryz.results59 J J ?_
 refine aL<|dh J J J J fun b1=>dh J J J J fun b2=>dh J J J J fun b3=>rA J J<|rN<|aL<|ae.qv (aG J J .p2 J) J<|rL J J .p1 J J<|rL J J .p0 J J<|rM J J<|aK h fun v4 e1 h=>ba J (zG e1) cR J<|rA J J<|rN<|aL<|rA J J<|rN<|aL<|rF J J J<|rL J J .p2 J J<|rA J J<|rN<|tS<|aL<|rF J J J<|rL J J .p2 J J<|ae.qv (cE J) J<|rM J J<|rN<|ab.block<|ab.cS (fun x:(List Int)×Int×Int=>ox aa ai aH bc v4 x.1 x.2.1 x.2.2) (fun x aJ=>∃ (kB:Bk),aJ=⟨95,[(3,I bc),(4,.ptr b1 0),(5,.ptr b2 0),(6,.ptr b3 0),(9,I v4),(10,.sl 1 kB 0 x.1.length),(11,I x.2.1),(27,I (aa.aI.length:Int)),(28,I x.2.2)],[(b1,.cells (xz aa)),(b2,.cells [pI ai]),(b3,.cells [wD aH]),(kB,dx x.1)]⟩) h ?_ ?_
 ·exact aj.arr (s:=10) 1 J fun Gb=>aj.lq [3,2,1,0] ⟨Gb,J⟩ J J
 ·intro x z1 aJ J1 ep h jF ek
  obtain ⟨kU,n14,n15⟩:=x
  obtain ⟨kB,rfl⟩:=ep
  replace h:ox aa ai aH bc v4 kU n14 n15=some z1:=h
  unfold ox at h
  refine aL<|ae.qv (bT J J) J<|rN<|tS<|cD h J (fun h=>?_) (fun h=>?_)
  ·refine tK<|tS<|ab.block<|aL<|rM J J<|bA J J J J fun re=>ar J J J J .p0 J J<|rN<|tS<|aL<|rL J J .p0 J J<|ae.qv (eB J J) J<|rN<|ab.cut (fun aJ=>∃ (n18:Int),ov bc v4 kU n15 n18=some z1∧aJ=⟨95,[(3,I bc),(4,.ptr b1 0),(5,.ptr b2 0),(6,.ptr b3 0),(9,I v4),(10,.sl 1 kB 0 kU.length),(11,I n18),(27,I (aa.aI.length:Int)),(28,I n15)],[(b1,.cells (xz aa)),(b2,.cells [pI ai]),(b3,.cells [wD aH]),(kB,dx kU)]⟩) ?_ ?_
   ·refine cD h J (fun h=>?_) (fun h=>?_)
    ·refine aL<|rM J J<|rL J J .p0 J J<|ae.qv (fy J J) J<|aK h fun pj e2 h=>ae.qv (bB J J J e2) J<|ae.qv (dK (g:=I) J J (.inl .p4) e2 J) J<|rA J J<|rN<|aL<|rM J J<|kf J J J J J J fun Nz=>rA J J<|rN<|tS<|aL<|rL J J .p4 J J<|ae.qv (cE J) J<|rM J J<|rN<|ab.block<|ab.cS (fun x:(List Int)×Int=>ow aa ai aH bc v4 kU n15 pj x.1 x.2) (fun x aJ=>∃ (u4:Bk),aJ=⟨95,[(3,I bc),(4,.ptr b1 0),(5,.ptr b2 0),(6,.ptr b3 0),(9,I v4),(10,.sl 1 kB 0 kU.length),(12,.ptr re 0),(13,I pj),(14,.sl 1 u4 0 x.1.length),(27,I (aa.aI.length:Int)),(28,I n15),(40,wD aH),(41,I (aH.length:Int)),(42,I x.2)],[(b1,.cells (xz aa)),(b2,.cells [pI ai]),(b3,.cells [wD aH]),(kB,dx kU),(re,.cells [I n15]),(u4,dx x.1)]⟩) h ?_ ?_
     ·exact aj.lq [2,2,2,2,1,0] ⟨Nz,J⟩ J J
     ·intro x z2 aJ J2 ep h zm xd
      obtain ⟨x3,n26⟩:=x
      obtain ⟨u4,rfl⟩:=ep
      replace h:ow aa ai aH bc v4 kU n15 pj x3 n26=some z2:=h
      unfold ow at h
      refine aL<|ae.qv (bT J J) J<|rN<|tS<|cD h J (fun h=>?_) (fun h=>?_)
      ·refine tK<|tS<|ab.block<|aL<|aK h fun nO e3 h=>ae.qv (bH J J J e3 J J) J<|ae.qv (aO J J J) J<|bA J J J J fun Jd=>ar J J J J .p0 J J<|rN<|aL<|rF J J J<|rL J J .p0 J J<|rM J J<|rM J J<|ba J (qJ J) cR J<|rN<|ab.cut (fun aJ=>∃ (Ny:Bk) (Nu:List Int),pZ n26 Nu=some z2∧aJ=⟨95,[(3,I bc),(4,.ptr b1 0),(5,.ptr b2 0),(6,.ptr b3 0),(9,I v4),(10,.sl 1 kB 0 kU.length),(12,.ptr re 0),(13,I pj),(14,.sl 1 Ny 0 Nu.length),(27,I (aa.aI.length:Int)),(28,I n15),(40,wD aH),(41,I (aH.length:Int)),(42,I n26)],[(b1,.cells (xz aa)),(b2,.cells [pI ai]),(b3,.cells [wD aH]),(kB,dx kU),(re,.cells [I n15]),(Ny,dx Nu)]⟩) ?_ ?_
       ·refine cB h J (fun h=>?_) (fun h=>?_)
        ·exact tR<|rM J J<|rF J J J<|rL J J .p0 J J<|aW (xs:=([nO.At]:List Int).map I) J J J J J J<|aK h fun yZ e4 h=>dB (g:=I) J J J J J J J J (.list _) e4 (fun _=>.p6) J fun Ry=>rA J J<|rN<|ab.stop<|aj.lq [1,1,1,1,1,1] ⟨Ry,yZ,h,J⟩ J J
        ·exact tK<|ab.stop<|aj.lq [1,1,1,1,1,1] ⟨u4,x3,h,J⟩ J J
       ·rintro aJ ⟨Ny,Nu,h,rfl⟩
        unfold pZ at h
        refine ab.cH<|tR<|ae.qv (br J J) J<|rM J J<|rN<|ab.stop<|?_
        cases h
        exact zm _ _ J<|aj.lq [0,0,0,0,0,0] ⟨Ny,J⟩ J J
      ·refine ab.exit J<|have h:=bZ h xd;?_
       unfold ta at h
       refine aL<|rM J J<|aK h fun v33 e5 h=>bC J (xV (tZ e5)) cR (.cons .p5 .nil) J J<|ae.ghost<|aj.eqs (s:=14) (iI:=.sl 1 u4 0 v33.length) J (congrArg (AV.sl 1 u4 0) (jI e5))<|aj.here<|ae.ghost<|aj.eqs (s:=57) (iI:=.sl 1 u4 0 v33.length) J (congrArg (AV.sl 1 u4 0) (jI e5))<|aj.here<|rN<|aL<|rM J J<|ae.qv (mg J) J<|aK h fun Ec e6 h=>gO J (uR (fun e=>CZ e) e6) (.cons (lD.jd .p0) (.cons (.AB _ _ _ (.cons (.xG _ _ _ .p2 (.cons (.co (.refl _)) .nil)) (.cons (.xG _ _ _ .p1 (.cons (.co (.refl _)) (.cons (.co (.refl _)) (.cons (.co (.refl _)) (.cons (.co (.refl _)) (.cons (.co (.refl _)) (.cons (.co (.refl _)) (.cons (.co (.refl _)) (.cons (.co (.refl _)) (.cons (.co (.refl _)) .nil)))))))))) (.cons (.xG _ _ _ .p5 (.cons (.co (.refl _)) .nil)) (.cons (.xG _ _ _ .p3 (.cons (.co (.refl _)) .nil)) .nil))))) .nil)) J J<|rA J J<|rN<|tS<|aL<|rM J J<|ae.qv (bT J J) J<|rN<|cD h J (fun h=>?_) (fun h=>?_)
       ·refine aL<|rM J J<|rA J J<|rN<|ab.ret<|have h:=bZ h ek;?_
        cases h
        exact hH J [4] J ⟨kB,J,J⟩
       ·exact tK<|ab.dv (id:=20) (A:=[0,0,3,7,0,16,0,112,240,496,1023,2047]) 12 mixed J (by kernel_rfl) (by kernel_rfl)<|AM.qv (aT J) J<|AM.qv (aT J) J<|aK h fun v35 e7 h=>AM.qv (bB J J J e7) J<|AM.qv (dK (g:=I) J J (.inl .p0) e7 J) J<|AM.qv (ax J J) J<|AM.qv (aM J J .p1 J) J<|AM.qv (aM J J .p5 J) J<|aK h fun PM e8 h=>AM.qv (bH J J J e8 J J) J<|AM.qv (bq J J) J<|AM.qv (aS J J J) J<|AM.qv (br J J) J<|AM.qv (bQ J) J<|AM.nil<|rN<|ab.stop<|aj.lq [1,1,1,1] ⟨bE (v35+PM.sx),h,J⟩ J J
    ·exact tK<|ab.stop<|aj.lq [1,1,1,1] ⟨n14,h,J⟩ J J
   ·rintro aJ ⟨n18,h,rfl⟩
    unfold ov at h
    refine tS<|tS<|ab.cut (fun aJ=>∃ (c37:Bool),sZ kU n15 n18 c37=some z1∧aJ=⟨95,[(3,I bc),(4,.ptr b1 0),(5,.ptr b2 0),(6,.ptr b3 0),(9,I v4),(10,.sl 1 kB 0 kU.length),(11,I n18),(27,I (aa.aI.length:Int)),(28,I n15),(87,.bool c37)],[(b1,.cells (xz aa)),(b2,.cells [pI ai]),(b3,.cells [wD aH]),(kB,dx kU)]⟩) ?_ ?_
    ·refine tR<|rM J J<|rM J J<|ae.qv (eB J J) J<|rM J J<|ae.dA J J J (fun hc=>?_) (fun hc=>?_)
     ·rw [we hc] at h
      refine rM J J<|rY J J J<|ae.qv (nP J J) J<|rY J J J<|rM J J<|ae.dJ J J J (fun hc=>?_) (fun hc=>?_)
      ·rw [uE hc] at h
       exact rM J J<|rY J J J<|rM J J<|rY J J J<|ae.qv (nP J J) J<|rY J J J<|rT J J J<|rE J J J<|rN<|ab.stop<|aj.lq [0,0,0,0] ⟨decide (v4≤n18),h,J⟩ J J
      ·rw [uF hc] at h
       exact rG J J J J<|rG J J J J<|rY J J J<|rE J J J<|rE J J J<|rN<|ab.stop<|aj.lq [0,0,0,0] ⟨false,h,J⟩ J J
     ·rw [wc hc] at h
      exact rG J J J J<|rG J J J J<|ae.aV J J J<|ae.aV J J J<|ae.aV J J J<|rG J J J J<|rT J J J<|rN<|ab.stop<|aj.lq [0,0,0,0] ⟨true,h,J⟩ J J
    ·rintro aJ ⟨c37,h,rfl⟩
     unfold sZ at h
     refine cB h J (fun h=>?_) (fun h=>?_)
     ·refine aL<|rM J J<|rA J J<|rN<|ab.ret<|have h:=bZ h ek;?_
      cases h
      exact hH J [3] J ⟨kB,J,J⟩
     ·refine tK<|tR<|rM J J<|rM J J<|aW (xs:=([n18]:List Int).map I) J J J J J J<|aK h fun W5 e9 h=>dB (g:=I) J J J J J J J J (.list _) e9 (fun _=>.p3) J fun Fi=>rA J J<|rN<|ab.cH<|tR<|ae.qv (br J J) J<|rM J J<|rN<|ab.stop<|?_
      cases h
      exact jF _ _ J<|aj.lq [0,0,0,0] ⟨Fi,J⟩ J J
  ·refine ab.exit J<|have h:=bZ h ek;aL<|rM J J<|rA J J<|rN<|ab.ret<|?_
   cases h
   exact hH J [3] J ⟨kB,J,J⟩
theorem P0 [GI:bU] {aa:an} {r:Bool} (h:Ef aa=r):Pu Tryz.prog 61 [an.av aa] (.bool r):=by
 unfold Ef at h
 refine aR.bI Tryz.func61 J Tryz.ntmps61 Tryz.results61 J J ?_
 refine aL<|dh J J J J fun b1=>rA J J<|rN<|tS<|ab.cut (fun aJ=>∃ (c2:Bool),y8 c2=r∧aJ=⟨11,[(2,.bool c2)],[]⟩) ?_ ?_
 ·refine tR<|rF J J J<|rL J J .p0 J J<|ae.qv (dt J J) J<|rM J J<|ae.dA J J J (fun hc=>?_) (fun hc=>?_)
  ·rw [we hc] at h
   exact rF J J J<|rY J J J<|rL J J .p0 J J<|rY J J J<|ae.qv (dt J J) J<|rE J J J<|rA J J<|rN<|ab.stop<|aj.lq [] ⟨decide (aa.Kind=2),h,J⟩ J J
  ·rw [wc hc] at h
   exact rG J J J J<|rG J J J J<|rT J J J<|rA J J<|rN<|ab.stop<|aj.lq [] ⟨true,h,J⟩ J J
 ·rintro aJ ⟨c2,h,rfl⟩
  unfold y8 at h
  refine ab.ret<|?_
  obtain rfl:=h
  exact hP J J
theorem C0 [GI:bU] {aa ai:DeviceS} {aH:Campaign} {r:Int} (h:mw aa ai aH=some r):Pu Tryz.prog 65 [DeviceS.av aa,DeviceS.av ai,.ch [.str aH.Key,I aH.Target.aA,I aH.Target.aD,I aH.Target.aF,I aH.At,oQ aH.aI,I aH.aZ.bF,I aH.aZ.To,I aH.Room]] (I r):=by
 unfold mw at h
 refine aR.bI Tryz.func65 J Tryz.ntmps65 Tryz.results65 J J ?_
 refine aL<|dh J J J J fun b1=>dh J J J J fun b2=>rA J J<|rN<|tS<|ab.dv (id:=1) (A:=[0,0,2,7,0,0,32,127,255,0,0,1024,3839,0,0,16384,65279,130815,262143,524287]) 20 mixed J (by kernel_rfl) (by kernel_rfl)<|AM.qv (aO J J J) J<|AM.qv (ax J J) J<|AM.qv (aM J J .p1 J) J<|aK h fun v3 e1 h=>AM.gM J (uQ e1) cR J<|AM.qv (aO J J J) J<|AM.qv (ax J J) J<|AM.qv (aM J J .p1 J) J<|aK h fun v4 e2 h=>AM.gM J (Hg e2) cR J<|AM.cI (xs:=([v3,v4]:List Int).map I) J J J J J J<|AM.qv (aO J J J) J<|AM.qv (ax J J) J<|AM.qv (aM J J .p0 J) J<|aK h fun v5 e3 h=>AM.gM J (uQ e3) cR J<|AM.qv (aO J J J) J<|AM.qv (ax J J) J<|AM.qv (aM J J .p0 J) J<|aK h fun v6 e4 h=>AM.gM J (Hg e4) cR J<|AM.cI (xs:=([v5,v6]:List Int).map I) J J J J J J<|aK h fun v7 e5 h=>AM.gM J (qj e5) cR J<|AM.qv (bQ J) J<|AM.nil<|rN<|ab.ret<|?_
 cases h
 exact hP J J
theorem j6 [GI:bU] {bO:Bk} {aa:List DeviceS} {ai aH:Int} {qN:DeviceS→DeviceS→Option Int} {Gd:FuncId} [bN Tryz.prog Gd] {Jl:List AV} (YF:∀ {y0 y1:_} {u:Int},qN y0 y1=some u→Pu Tryz.prog Gd (DeviceS.av y0 :: DeviceS.av y1 :: Jl) (I u)) {r:(List DeviceS)} (h:dC aa ai aH qN=some r):aR Tryz.prog 137 [.sl 7 bO 0 aa.length,I ai,I aH,.func (.func Gd) Jl] [(bO,uK aa)] (T0 ([(bO,uK r)]) (.lM [])):=by
 unfold dC at h
 refine aR.iL ?_
 refine aR.bI Tryz.func137 J Tryz.ntmps137 Tryz.results137 J J ?_
 refine aL<|rM J J<|ae.qv (br J J) J<|rA J J<|rN<|ab.block<|ab.cS (fun x:(List DeviceS)×Int=>dT ai aH qN x.1 x.2) (fun x aJ=>aJ=⟨53,[(0,.sl 7 bO 0 x.1.length),(1,I ai),(2,I aH),(3,.func (.func Gd) Jl),(8,I x.2)],[(bO,uK x.1)]⟩) h ?_ ?_
 ·exact aj.lq [0] J J J
 ·intro x z1 aJ J1 ep h jF ek
  obtain ⟨l3,n4⟩:=x
  obtain rfl:=ep
  replace h:dT ai aH qN l3 n4=some z1:=h
  unfold dT at h
  refine tS<|aL<|rM J J<|rM J J<|ae.qv (bT J J) J<|rN<|cD h J (fun h=>?_) (fun h=>?_)
  ·refine tK<|tS<|ab.block<|aL<|rM J J<|rA J J<|rN<|ab.block<|ab.cS (fun x:(List DeviceS)×Int=>dS ai qN n4 x.1 x.2) (fun x aJ=>aJ=⟨53,[(0,.sl 7 bO 0 x.1.length),(1,I ai),(2,I aH),(3,.func (.func Gd) Jl),(8,I n4),(9,I x.2)],[(bO,uK x.1)]⟩) h ?_ ?_
   ·exact aj.lq [0] J J J
   ·intro x z2 aJ J2 ep h zm xd
    obtain ⟨l7,n8⟩:=x
    obtain rfl:=ep
    replace h:dS ai qN n4 l7 n8=some z2:=h
    unfold dS at h
    refine tS<|tS<|ab.cut (fun aJ=>∃ (c9:Bool),dR n4 l7 n8 c9=some z2∧aJ=⟨53,[(0,.sl 7 bO 0 l7.length),(1,I ai),(2,I aH),(3,.func (.func Gd) Jl),(8,I n4),(9,I n8),(34,.bool c9)],[(bO,uK l7)]⟩) ?_ ?_
    ·refine ab.dv (id:=4) (A:=[0,0,3,7,15,15,15,111,239,15,15,1039,3599,7695,16383,32767,65535]) 17 mixed J (by kernel_rfl) (by kernel_rfl)<|AM.qv (aT J) J<|AM.qv (aT J) J<|AM.qv (eB J J) J<|AM.qv (aT J) J<|AM.dJ J J J (fun hc=>?_) (fun hc=>?_)
     ·exact have h:=pN hc h;AM.qv (aT J) J<|AM.ay J J J<|AM.qv (aT J) J<|AM.ay J J J<|AM.qv (aT J) J<|AM.ay J J J<|aK h fun v10 e1 h=>AM.qv (bB J J J e1) J<|AM.ay J J J<|AM.qv (cq (g:=DeviceS.av) J J (.inl .p0) J e1 J) J<|AM.ay J J J<|AM.qv (aT J) J<|AM.ay J J J<|AM.qv (aT J) J<|AM.ay J J J<|AM.qv (fy J J) J<|AM.ay J J J<|aK h fun v11 e2 h=>AM.qv (bB J J J e2) J<|AM.ay J J J<|AM.qv (cq (g:=DeviceS.av) J J (.inl .p0) J e2 J) J<|AM.ay J J J<|aK h fun v12 e3 h=>AM.Vy J J (YF e3) cR J<|AM.ay J J J<|AM.qv (bT J J) J<|AM.qv (gx J J) J<|AM.nil<|rN<|ab.stop<|aj.lq [0] ⟨decide (v12 < 0),h,J⟩ J J
     ·exact have h:=AD hc h;AM.au J J J J<|AM.au J J J J<|AM.au J J J J<|AM.au J J J J<|AM.au J J J J<|AM.au J J J J<|AM.au J J J J<|AM.au J J J J<|AM.au J J J J<|AM.au J J J J<|AM.au J J J J<|AM.qv (eA J J) J<|AM.nil<|rN<|ab.stop<|aj.lq [0] ⟨false,h,J⟩ J J
    ·rintro aJ ⟨c9,h,rfl⟩
     unfold dR at h
     refine cB h J (fun h=>?_) (fun h=>?_)
     ·refine tK<|tS<|ab.block<|aK h fun lF e4 h=>aK h fun sT e5 h=>aK h fun CQ e6 h=>ab.lB (id:=6) (A:=[0,0,0,0,8,0,0,64,224,480,0,0,3072,7168,16355,32739,65535,131071]) (H0:=[(bO,uK l7)]) (HH:=fun β=>[(bO,uK (l7.set n8.toNat lF))]) 16 mixed J (by kernel_rfl) (by kernel_rfl) [⟨none,some 15,[9,13],fun _=>(bO,uK l7),none,[]⟩,⟨some 15,none,[],fun _=>(bO,uK (l7.set n8.toNat lF)),none,[]⟩] [] J (by kernel_rfl) J (.cons .p0 .nil) (fun _=>J)<|AT.am 9 J J<|AM.qv (aT J) J<|AM.qv (aT J) J<|AM.qv (aT J) J<|AM.qv (aT J) J<|AM.qv (fy J J) J<|AM.qv (aT J) J<|AM.qv (aT J) J<|AM.qv (fy J J) J<|AM.qv (bB J J J e4) J<|AM.nil<|AT.rd (Rs:=[(bO,uK l7)]) (fun _=>J) J (fun _=>J) (fun _=>J) (cq (g:=DeviceS.av) J J (.inl .p0) J e4 J) J<|AT.am 3 J J<|AM.qv (aT J) J<|AM.qv (aT J) J<|AM.qv (bB J J J e5) J<|AM.nil<|AT.rd (Rs:=[(bO,uK l7)]) (fun _=>J) J (fun _=>J) (fun _=>J) (cq (g:=DeviceS.av) J J (.inl .p0) J e5 J) J<|AT.am 1 J J<|AM.qv (bB J J J e6) J<|AM.nil<|AT.M9 (Ti:=[(bO,uK l7)]) (Pi:=[(bO,uK (l7.set n8.toNat lF))]) (fun _=>J) (fun _=>J) (fun _=>J) J J ?_ ?_
      ·exact dj (g:=DeviceS.av) (BE:=lF) J J J J e6 J .p0 J<|ae.nil ⟨_,J⟩
      refine AT.xK (fun _=>J) fun β=>ae.ghost<|aj.eqs (s:=0) (iI:=.sl 7 bO 0 (l7.set n8.toNat lF).length) J (by simp)<|aj.here<|ae.ghost<|aj.eqs (s:=37) (iI:=.sl 7 bO 0 (l7.set n8.toNat lF).length) J (by simp)<|aj.here<|ae.ghost<|aj.eqs (s:=39) (iI:=.sl 7 bO 0 (l7.set n8.toNat lF).length) J (by simp)<|aj.here<|ae.ghost<|aj.eqs (s:=42) (iI:=.sl 7 bO 0 (l7.set n8.toNat lF).length) J (by simp)<|aj.here<|ae.ghost<|aj.eqs (s:=47) (iI:=.sl 7 bO 0 (l7.set n8.toNat lF).length) J (by simp)<|aj.here<|aK h fun tL e7 h=>ae.qv (bB J J J e7) J<|dj (g:=DeviceS.av) (BE:=sT) J J J J e7 J .p0 J<|ae.ghost<|aj.eqs (s:=0) (iI:=.sl 7 bO 0 ((l7.set n8.toNat lF).set (bE (n8 - 1)).toNat sT).length) J (by rw [ac])<|aj.here<|ae.ghost<|aj.eqs (s:=37) (iI:=.sl 7 bO 0 ((l7.set n8.toNat lF).set (bE (n8 - 1)).toNat sT).length) J (by rw [ac])<|aj.here<|ae.ghost<|aj.eqs (s:=39) (iI:=.sl 7 bO 0 ((l7.set n8.toNat lF).set (bE (n8 - 1)).toNat sT).length) J (by rw [ac])<|aj.here<|ae.ghost<|aj.eqs (s:=42) (iI:=.sl 7 bO 0 ((l7.set n8.toNat lF).set (bE (n8 - 1)).toNat sT).length) J (by rw [ac])<|aj.here<|ae.ghost<|aj.eqs (s:=47) (iI:=.sl 7 bO 0 ((l7.set n8.toNat lF).set (bE (n8 - 1)).toNat sT).length) J (by rw [ac])<|aj.here<|rN<|ab.cH<|tR<|rM J J<|ae.qv (fy J J) J<|rA J J<|rN<|ab.stop<|?_
      cases h
      exact zm _ _ J<|aj.lq [0] J J J
     ·refine ab.exit J<|have h:=bZ h xd;ab.cH<|tR<|rM J J<|ae.qv (br J J) J<|rA J J<|rN<|ab.stop<|?_
      cases h
      exact jF _ _ J<|aj.lq [0] J J J
  ·refine ab.exit J<|have h:=bZ h ek;ab.nil<|?_
   cases h
   exact aj.here ⟨_,.nil,_,.cons .p0 .nil,⟨J,J⟩⟩
theorem tF [GI:bU] {bO:Bk} {aa:List DeviceS} {ai:Int} {Dc:DeviceS→DeviceS→Option Int} {yw:FuncId} [bN Tryz.prog yw] {A8:List AV} (Mb:∀ {y0 y1:_} {u:Int},Dc y0 y1=some u→Pu Tryz.prog yw (DeviceS.av y0 :: DeviceS.av y1 :: A8) (I u)) {r:(List DeviceS)} (h:fe aa ai Dc=some r):aR Tryz.prog 109 [.sl 7 bO 0 aa.length,I ai,.func (.func yw) A8] [(bO,uK aa)] (T0 ([(bO,uK r)]) (.lM [])):=by
 unfold fe at h
 refine aR.iL ?_
 refine aR.bI Tryz.func109 J Tryz.ntmps109 Tryz.results109 J J ?_
 refine aL<|rA J J<|rN<|aL<|rM J J<|rA J J<|rA J J<|rN<|tS<|ab.block<|ab.cS (fun x:(List DeviceS)×Int×Int=>ei ai Dc x.1 x.2.1 x.2.2) (fun x aJ=>aJ=⟨63,[(0,.sl 7 bO 0 x.1.length),(1,I ai),(2,.func (.func yw) A8),(6,I 20),(7,I x.2.1),(8,I x.2.2)],[(bO,uK x.1)]⟩) h ?_ ?_
 ·exact aj.lq [0] J J J
 ·intro x z1 aJ J1 ep h jF ek
  obtain ⟨l4,n5,n6⟩:=x
  obtain rfl:=ep
  replace h:ei ai Dc l4 n5 n6=some z1:=h
  unfold ei at h
  refine tS<|aL<|rM J J<|rM J J<|ae.qv (qM J J) J<|rN<|cD h J (fun h=>?_) (fun h=>?_)
  ·refine tK<|ab.block<|aL<|rM J J<|rM J J<|rM J J<|rM J J<|aK h fun v7 e1 h=>bC J (j6 Mb (tZ e1)) cR (.cons .p0 .nil) J J<|ae.ghost<|aj.eqs (s:=0) (iI:=.sl 7 bO 0 v7.length) J (congrArg (AV.sl 7 bO 0) (jI e1))<|aj.here<|ae.ghost<|aj.eqs (s:=14) (iI:=.sl 7 bO 0 v7.length) J (congrArg (AV.sl 7 bO 0) (jI e1))<|aj.here<|rN<|aL<|rM J J<|rA J J<|rN<|tR<|rM J J<|rM J J<|ae.qv (br J J) J<|rA J J<|rN<|ab.cH<|ab.stop<|?_
   cases h
   exact jF _ _ J<|aj.lq [0] J J J
  ·refine ab.exit J<|have h:=bZ h ek;?_
   unfold jh at h
   refine aL<|rM J J<|rM J J<|rM J J<|rM J J<|aK h fun v8 e2 h=>bC J (j6 Mb (tZ e2)) cR (.cons .p0 .nil) J J<|ae.ghost<|aj.eqs (s:=0) (iI:=.sl 7 bO 0 v8.length) J (congrArg (AV.sl 7 bO 0) (jI e2))<|aj.here<|ae.ghost<|aj.eqs (s:=23) (iI:=.sl 7 bO 0 v8.length) J (congrArg (AV.sl 7 bO 0) (jI e2))<|aj.here<|rN<|ab.block<|ab.cS (fun x:Int=>eh ai v8 x) (fun x aJ=>aJ=⟨63,[(0,.sl 7 bO 0 v8.length),(1,I ai),(2,.func (.func yw) A8),(6,I x)],[(bO,uK v8)]⟩) h ?_ ?_
   ·exact aj.lq [0] J J J
   ·intro n10 z2 aJ J2 ep h zm xd
    obtain rfl:=ep
    replace h:eh ai v8 n10=some z2:=h
    unfold eh at h
    refine tS<|aL<|rM J J<|rM J J<|ae.qv (bT J J) J<|rN<|cD h J (fun h=>?_) (fun h=>?_)
    ·refine tK<|ab.block<|aL<|rM J J<|ae.qv (uA J J) J<|rA J J<|rA J J<|rN<|tS<|ab.block<|ab.cS (fun x:Unit=>fR ai n10) (fun x aJ=>aJ=⟨63,[(0,.sl 7 bO 0 v8.length),(1,I ai),(2,.func (.func yw) A8),(6,I n10),(7,I 0),(8,I (bE (2 * n10)))],[(bO,uK v8)]⟩) h ?_ ?_
     ·exact aj.lq [0] J J J
     ·intro x z3 aJ J3 ep h W9 VS
      obtain rfl:=ep
      replace h:fR ai n10=some z3:=h
      unfold fR at h
      refine tS<|aL<|rM J J<|rM J J<|ae.qv (qM J J) J<|rN<|cD h J (fun h=>?_) (fun h=>?_)
      ·refine tK<|ab.block<|aL<|rM J J<|rM J J<|rM J J<|rM J J<|ae.qv (br J J) J<|rM J J<|rM J J<|?_
       cases h
      ·refine ab.exit J<|have h:=bZ h VS;?_
       unfold ng at h
       refine tS<|aL<|rM J J<|rM J J<|ae.qv (br J J) J<|rA J J<|rN<|aL<|rM J J<|rM J J<|ae.qv (bT J J) J<|rN<|cD h J (fun h=>?_) (fun h=>?_)
       ·refine tR<|rM J J<|rM J J<|rM J J<|rM J J<|rM J J<|?_
        cases h
       ·refine tK<|tR<|rM J J<|ae.qv (uA J J) J<|rA J J<|rN<|ab.cH<|ab.stop<|?_
        cases h
        exact zm _ _ J<|aj.lq [0] J J J
    ·refine ab.exit J<|have h:=bZ h xd;ab.nil<|?_
     cases h
     exact aj.here ⟨_,.nil,_,.cons .p0 .nil,⟨J,J⟩⟩
theorem pF [GI:bU] {bO:Bk} {aa:List DeviceS} {iD:DeviceS→DeviceS→Option Int} {dY:FuncId} [bN Tryz.prog dY] {gq:List AV} (oc:∀ {y0 y1:_} {u:Int},iD y0 y1=some u→Pu Tryz.prog dY (DeviceS.av y0 :: DeviceS.av y1 :: gq) (I u)) {r:(List DeviceS)} (h:cP aa iD=some r):aR Tryz.prog 64 [.sl 7 bO 0 aa.length,.func (.func dY) gq] [(bO,uK aa)] (T0 ([(bO,uK r)]) (.lM [])):=by
 unfold cP at h
 refine aR.iL ?_
 refine aR.bI Tryz.func64 J Tryz.ntmps64 Tryz.results64 J J ?_
 refine tR<|rM J J<|rM J J<|ae.qv (dH J) J<|rM J J<|aK h fun v1 e1 h=>bC J (tF oc (tZ e1)) cR (.cons .p0 .nil) J J<|ae.ghost<|aj.eqs (s:=0) (iI:=.sl 7 bO 0 v1.length) J (congrArg (AV.sl 7 bO 0) (jI e1))<|aj.here<|ae.ghost<|aj.eqs (s:=4) (iI:=.sl 7 bO 0 v1.length) J (congrArg (AV.sl 7 bO 0) (jI e1))<|aj.here<|ae.ghost<|aj.eqs (s:=5) (iI:=.sl 7 bO 0 v1.length) J (congrArg (AV.sl 7 bO 0) (jI e1))<|aj.here<|rN<|ab.nil<|?_
 cases h
 exact aj.here ⟨_,.nil,_,.cons .p0 .nil,⟨J,J⟩⟩
theorem uS [GI:bU] {aa:List ak} {r:(List ak)} (h:gE aa=some r):aR Tryz.prog 140 [.list 6 (aa.map ak.av)] [] (T1 (fun np=>[(np,.arr 6 (r.map ak.av))]) (fun np=>.sl 6 np 0 r.length)):=by
 unfold gE at h
 refine aR.iL ?_
 refine aR.bI Tryz.func140 J Tryz.ntmps140 Tryz.results140 J J ?_
 refine ab.seq ?_
 refine ab.region ?_
 refine ae.qv (bQ J) J ?_
 refine ae.nil ?_
 refine ab.seq ?_
 refine ab.seq ?_
 refine ab.region ?_
 refine ae.qv (aT J) J ?_
 refine G3 J J J J (fun c hc=>?_)
 refine ae.nil ?_
 refine ab.cond J (fun hT=>?_) (fun hF=>?_)
 ·obtain rfl:=w4 h (af.1 (hc hT))
  refine ab.seq ?_
  refine ab.region ?_
  refine ae.qv (bQ J) J ?_
  refine ae.nil ?_
  refine ab.ret ?_
  refine aj.arr (s:=2) 6 J (fun b1=>?_)
  exact aj.here ⟨_,.cons (.tmp _ _ J) .nil,_,.cons .here .nil,⟨b1,J,J⟩⟩
 ·refine ab.skip ?_
  refine ab.seq ?_
  refine ab.region ?_
  refine kf (xs:=([]:List ak).map ak.av) J J J J J J (fun b2=>?_)
  refine ae.qv (aT J) J ?_
  refine dB (g:=ak.av) (Xs:=[]) J J J J J J J J (.list _) h (fun _=>.here) J (fun b3=>?_)
  refine ae.qv (bQ J) J ?_
  refine ae.nil ?_
  refine ab.ret ?_
  exact aj.here ⟨_,.cons (.tmp _ _ J) .nil,_,.cons .here .nil,⟨b3,J,J⟩⟩
theorem A9 [GI:bU] {aa:ak} {ai:bj} {aH:Version} {r:Bool} (h:qx aa ai aH=some r):Pu Tryz.prog 141 [ak.av aa,.ch [.str ai],.ch [I aH.aA,I aH.aD,I aH.aF]] (.bool r):=by
 unfold qx at h
 refine aR.bI Tryz.func141 J Tryz.ntmps141 Tryz.results141 J J ?_
 refine aL<|dh J J J J fun b1=>rA J J<|rN<|tS<|ab.cut (fun aJ=>∃ (c2:Bool),lu c2=some r∧aJ=⟨16,[(4,.bool c2)],[]⟩) ?_ ?_
 ·refine tR<|rF J J J<|rL J J .p0 J J<|ae.qv (aS J J J) J<|aK h fun v3 e1 h=>ba J (dW e1) cR J<|ae.qv (cV J) J<|rM J J<|ae.guard J J J (fun hc=>?_) (fun hc=>?_)
  ·exact have h:=sn hc h;ae.qv (aG J J .p0 J) J<|rY J J J<|ae.qv (aO J J J) J<|rY J J J<|aK h fun v4 e2 h=>ba J (Jh e2) cR J<|rY J J J<|ae.qv (cV J) J<|rE J J J<|rA J J<|rN<|ab.stop<|aj.lq [] ⟨!v4,h,J⟩ J J
  ·exact have h:=pN hc h;rG J J J J<|rG J J J J<|rG J J J J<|rT J J J<|rA J J<|rN<|ab.stop<|aj.lq [] ⟨true,h,J⟩ J J
 ·rintro aJ ⟨c2,h,rfl⟩
  unfold lu at h
  refine ab.ret<|?_
  cases h
  exact hP J J
theorem sg [GI:bU] {bO:Bk} {aa:List ak} {iD:ak→Option Bool} {dY:FuncId} [bN Tryz.prog dY] {gq:List AV} (oc:∀ {y0:_} {u:Bool},iD y0=some u→Pu Tryz.prog dY (ak.av y0 :: gq) (.bool u)) {r:(List ak)} (h:gp aa iD=some r):aR Tryz.prog 139 [.sl 6 bO 0 aa.length,.func (.func dY) gq] [(bO,vV aa)] (T1 (fun np=>[(np,vV r)]) (fun np=>.sl 6 np 0 r.length)):=by
 unfold gp at h
 refine aR.iL ?_
 refine aR.bI Tryz.func139 J Tryz.ntmps139 Tryz.results139 J J ?_
 refine aL<|rA J J<|rN<|aL<|rM J J<|rM J J<|aK h fun v1 e1 h=>gO J (fT oc e1) (.cons (lD.jd .p0) (.cons (.co (.refl _)) .nil)) J J<|rA J J<|rN<|tS<|aL<|rM J J<|ae.qv (dt J J) J<|rN<|cD h J (fun h=>?_) (fun h=>?_)
 ·refine aL<|rM J J<|rA J J<|rN<|ab.ret<|?_
  cases h
  exact hH J [0] J ⟨bO,J,J⟩
 ·refine tK<|tS<|aL<|rM J J<|ae.qv (br J J) J<|rA J J<|rN<|ab.block<|ab.cS (fun x:(List ak)×Int×Int=>fg iD x.1 x.2.1 x.2.2) (fun x aJ=>aJ=⟨42,[(0,.sl 6 bO 0 x.1.length),(1,.func (.func dY) gq),(5,I x.2.1),(6,I x.2.2)],[(bO,vV x.1)]⟩) h ?_ ?_
  ·exact aj.lq [0] J J J
  ·intro x z1 aJ J1 ep h jF ek
   obtain ⟨l5,n6,n7⟩:=x
   obtain rfl:=ep
   replace h:fg iD l5 n6 n7=some z1:=h
   unfold fg at h
   refine tS<|aL<|rM J J<|rM J J<|ae.qv (dH J) J<|ae.qv (bT J J) J<|rN<|cD h J (fun h=>?_) (fun h=>?_)
   ·refine tK<|tS<|ab.block<|aL<|rM J J<|rM J J<|aK h fun v8 e2 h=>ae.qv (bB J J J e2) J<|ae.qv (cq (g:=ak.av) J J (.inl .p0) J e2 J) J<|bA J J J J fun b9=>ar J J J J .p0 J J<|rN<|aL<|rM J J<|ae.qv (aG J J .p0 J) J<|aK h fun v10 e3 h=>tn J J (oc e3) cR J<|ae.qv (cV J) J<|rN<|ab.cut (fun aJ=>∃ (vN:List ak) (n12:Int),ff n7 vN n12=some z1∧aJ=⟨42,[(0,.sl 6 bO 0 vN.length),(1,.func (.func dY) gq),(5,I n12),(6,I n7)],[(bO,vV vN)]⟩) ?_ ?_
    ·refine cB h J (fun h=>?_) (fun h=>?_)
     ·exact aL<|rM J J<|rM J J<|ae.qv (aG J J .p0 J) J<|aK h fun lF e4 h=>ae.qv (bB J J J e4) J<|dj (g:=ak.av) (BE:=v8) J J J J e4 J .p1 J<|ae.ghost<|aj.eqs (s:=0) (iI:=.sl 6 bO 0 (l5.set n6.toNat v8).length) J (by rw [ac])<|aj.here<|ae.ghost<|aj.eqs (s:=17) (iI:=.sl 6 bO 0 (l5.set n6.toNat v8).length) J (by rw [ac])<|aj.here<|ae.ghost<|aj.eqs (s:=22) (iI:=.sl 6 bO 0 (l5.set n6.toNat v8).length) J (by rw [ac])<|aj.here<|ae.ghost<|aj.eqs (s:=30) (iI:=.sl 6 bO 0 (l5.set n6.toNat v8).length) J (by rw [ac])<|aj.here<|rN<|tR<|rM J J<|ae.qv (br J J) J<|rA J J<|rN<|ab.stop<|aj.lq [1] ⟨l5.set n6.toNat v8,bE (n6+1),h,J⟩ J J
     ·exact tK<|ab.stop<|aj.lq [1] ⟨l5,n6,h,J⟩ J J
    ·rintro aJ ⟨vN,n12,h,rfl⟩
     unfold ff at h
     refine ab.cH<|tR<|rM J J<|ae.qv (br J J) J<|rA J J<|rN<|ab.stop<|?_
     cases h
     exact jF _ _ J<|aj.lq [0] J J J
   ·refine ab.exit J<|have h:=bZ h ek;?_
    unfold ma at h
    refine aL<|rM J J<|rM J J<|aK h fun oK e5 h=>ae.qv (w5 J J (.some _ _ _ J) .none J J e5) J<|Pv (g:=ak.av) (Z:=(⟨(⟨0,0,0⟩:Version),[],[],0⟩:ak)) (L:=n6) J J J J J J e5 .p0<|ae.ghost<|aj.eqs (s:=0) (iI:=.sl 6 bO 0 (E7 l5 n6 oK.length (⟨(⟨0,0,0⟩:Version),[],[],0⟩:ak)).length) J (congrArg (AV.sl 6 bO 0) (yV e5))<|aj.here<|ae.ghost<|aj.eqs (s:=17) (iI:=.sl 6 bO 0 (E7 l5 n6 oK.length (⟨(⟨0,0,0⟩:Version),[],[],0⟩:ak)).length) J (congrArg (AV.sl 6 bO 0) (yV e5))<|aj.here<|ae.ghost<|aj.eqs (s:=36) (iI:=.sl 6 bO 0 (E7 l5 n6 oK.length (⟨(⟨0,0,0⟩:Version),[],[],0⟩:ak)).length) J (congrArg (AV.sl 6 bO 0) (yV e5))<|aj.here<|rN<|aL<|rM J J<|rM J J<|aK h fun xL e6 h=>ae.qv (w5 J J .none (.some _ _ _ J) J J e6) J<|rA J J<|ae.ghost<|aj.Ur e6 .p0<|aj.here<|rN<|ab.ret<|?_
    cases h
    exact hH J [0] J ⟨bO,J,J⟩
theorem Eu [GI:bU] {aa:List ak} {ai:bj} {aH:Version} {r:(List ak)} (h:rU aa ai aH=some r):aR Tryz.prog 110 [o8 aa,.str ai,Version.av aH] [] (T1 (fun np=>[(np,vV r)]) (fun np=>.sl 6 np 0 r.length)):=by
 unfold rU at h
 refine aR.iL ?_
 refine aR.bI Tryz.func110 J Tryz.ntmps110 Tryz.results110 J J ?_
 refine aL<|dh J J J J fun b1=>dh J J J J fun b2=>rA J J<|rN<|aL<|rM J J<|aK h fun v3 e1 h=>jH J (uS e1) cR .nil (fun _=>J) J fun b4=>ae.qv (mg J) J<|aK h fun v5 e2 h=>ae.ghost<|aj.Pw (s:=9) (j:=0) J J J .p2<|aj.here<|ae.ghost<|aj.Pw (s:=9) (j:=1) J J J .p1<|aj.here<|jH J (sg (fun e=>A9 e) e2) cR (.cons .p0 .nil) (fun _=>J) J fun b6=>rA J J<|rN<|ab.ret<|?_
 cases h
 exact hH J [0] J ⟨b6,J,J⟩
theorem sL [GI:bU] {aa:List Version} {r:(List Version)} (h:eD aa=some r):aR Tryz.prog 111 [.list 3 (aa.map Version.av)] [] (T1 (fun np=>[(np,.arr 3 (r.map Version.av))]) (fun np=>.sl 3 np 0 r.length)):=by
 unfold eD at h
 refine aR.iL ?_
 refine aR.bI Tryz.func111 J Tryz.ntmps111 Tryz.results111 J J ?_
 refine ab.seq ?_
 refine ab.region ?_
 refine ae.qv (bQ J) J ?_
 refine ae.nil ?_
 refine ab.seq ?_
 refine ab.seq ?_
 refine ab.region ?_
 refine ae.qv (aT J) J ?_
 refine G3 J J J J (fun c hc=>?_)
 refine ae.nil ?_
 refine ab.cond J (fun hT=>?_) (fun hF=>?_)
 ·obtain rfl:=w4 h (af.1 (hc hT))
  refine ab.seq ?_
  refine ab.region ?_
  refine ae.qv (bQ J) J ?_
  refine ae.nil ?_
  refine ab.ret ?_
  refine aj.arr (s:=2) 3 J (fun b1=>?_)
  exact aj.here ⟨_,.cons (.tmp _ _ J) .nil,_,.cons .here .nil,⟨b1,J,J⟩⟩
 ·refine ab.skip ?_
  refine ab.seq ?_
  refine ab.region ?_
  refine kf (xs:=([]:List Version).map Version.av) J J J J J J (fun b2=>?_)
  refine ae.qv (aT J) J ?_
  refine dB (g:=Version.av) (Xs:=[]) J J J J J J J J (.list _) h (fun _=>.here) J (fun b3=>?_)
  refine ae.qv (bQ J) J ?_
  refine ae.nil ?_
  refine ab.ret ?_
  exact aj.here ⟨_,.cons (.tmp _ _ J) .nil,_,.cons .here .nil,⟨b3,J,J⟩⟩
theorem j7 [GI:bU] {aa ai:List Version} {Dc:Version→Version→Option Int} {yw:FuncId} [bN Tryz.prog yw] {A8:List AV} (Mb:∀ {y0 y1:_} {u:Int},Dc y0 y1=some u→Pu Tryz.prog yw (Version.av y0 :: Version.av y1 :: A8) (I u)) {r:Int} (h:bY aa ai Dc=some r):Pu Tryz.prog 112 [se aa,se ai,.func (.func yw) A8] (I r):=by
 unfold bY at h
 refine aR.bI Tryz.func112 J Tryz.ntmps112 Tryz.results112 J J ?_
 refine aL<|rA J J<|rN<|tS<|aL<|rM J J<|ae.qv (cE J) J<|rM J J<|rN<|ab.block<|ab.cS (fun x:Int=>bG aa ai Dc x) (fun x aJ=>aJ=⟨39,[(0,se aa),(1,se ai),(2,.func (.func yw) A8),(11,se aa),(12,I (aa.length:Int)),(13,I x)],[]⟩) h ?_ ?_
 ·exact aj.lq [] J J J
 ·intro n2 z1 aJ J1 ep h jF ek
  obtain rfl:=ep
  replace h:bG aa ai Dc n2=some z1:=h
  unfold bG at h
  refine aL<|ae.qv (bT J J) J<|rN<|tS<|cD h J (fun h=>?_) (fun h=>?_)
  ·refine tK<|tS<|ab.block<|aL<|rM J J<|aK h fun v3 e1 h=>ae.qv (bH J J J e1 J J) J<|ae.qv (aO J J J) J<|bA J J J J fun b4=>rA J J<|ar J J J J .p0 J J<|rN<|tS<|aL<|rM J J<|rM J J<|ae.qv (cE J) J<|ae.qv (nP J J) J<|rN<|cD h J (fun h=>?_) (fun h=>?_)
   ·refine aL<|rA J J<|rN<|ab.ret<|have h:=bZ h ek;?_
    cases h
    exact hP J J
   ·refine tK<|aL<|rM J J<|rM J J<|aK h fun v5 e2 h=>ae.qv (bH J J J e2 J J) J<|ae.qv (aO J J J) J<|bA J J J J fun b6=>ar J J J J .p0 J J<|rN<|aL<|rM J J<|ae.qv (aG J J .p1 J) J<|ae.qv (aG J J .p0 J) J<|aK h fun v7 e3 h=>tn J J (Mb e3) cR J<|rA J J<|rN<|aL<|rM J J<|ae.qv (pH J J) J<|rN<|cD h J (fun h=>?_) (fun h=>?_)
    ·refine aL<|rM J J<|rA J J<|rN<|ab.ret<|have h:=bZ h ek;?_
     cases h
     exact hP J J
    ·refine tK<|ab.cH<|tR<|ae.qv (br J J) J<|rM J J<|rN<|ab.stop<|?_
     cases h
     exact jF _ _ J<|aj.lq [] J J J
  ·refine ab.exit J<|have h:=bZ h ek;?_
   unfold dq at h
   refine tS<|aL<|rM J J<|ae.qv (cE J) J<|rM J J<|ae.qv (cE J) J<|ae.qv (bT J J) J<|rN<|cD h J (fun h=>?_) (fun h=>?_)
   ·refine aL<|rA J J<|rN<|ab.ret<|?_
    cases h
    exact hP J J
   ·refine tK<|aL<|rA J J<|rN<|ab.ret<|?_
    cases h
    exact hP J J
theorem NA [GI:bU] {aa:List ak} {ai:bj} {aH bc:Version} {r:(List Version)×Bool} (h:vw aa ai aH bc=some r):Pu Tryz.prog 68 [o8 aa,.str ai,Version.av aH,Version.av bc] (.lM [se r.1,.bool r.2]):=by
 unfold vw at h
 refine aR.bI Tryz.func68 J Tryz.ntmps68 Tryz.results68 J J ?_
 refine aL<|dh J J J J fun b1=>dh J J J J fun b2=>rA J J<|rA J J<|rN<|aL<|sw J fun b3=>ae.qv (aG J J .p2 J) J<|ae.qv (dc J J J J J) J<|ae.ghost<|aj.Va (s:=23) (iI:=.agg [se [],I 0]) J (CO.XP (.cons .n (.cons .r .nil)))<|aj.here<|DQ (gk:=Version.av) (gv:=aE.av) (M:=([]:List (Version×aE))) (key:=aH) (v:=(⟨[],0⟩:aE)) J J J J .p0<|rM J J<|rA J J<|rN<|tS<|aL<|rM J J<|ae.qv (cE J) J<|ae.qv (br J J) J<|rM J J<|rN<|ab.block<|ab.cS (fun x:(List (Version×aE))×Int=>mz aa ai bc x.1 x.2) (fun x aJ=>∃ (b7:Bk),aJ=⟨107,[(0,o8 aa),(1,.str ai),(7,.ptr b2 0),(10,.bV b7),(27,I (bE ((aa.length:Int)+1))),(28,I x.2)],[(b2,.cells [I bc.aA,I bc.aD,I bc.aF]),(b7,Nw x.1)]⟩) h ?_ ?_
 ·exact aj.lq [1,0] ⟨b3,J⟩ J J
 ·intro x z1 aJ J1 ep h jF ek
  obtain ⟨l8,n9⟩:=x
  obtain ⟨b7,rfl⟩:=ep
  replace h:mz aa ai bc l8 n9=some z1:=h
  unfold mz at h
  refine aL<|ae.qv (bT J J) J<|rN<|tS<|cD h J (fun h=>?_) (fun h=>?_)
  ·refine tK<|tS<|ab.block<|tS<|aL<|rM J J<|ae.qv (aG J J .p0 J) J<|aK h fun v10 e1 h=>ae.qv (D2 (gk:=Version.av) (gv:=aE.av) (M:=l8) (key:=bc) (Z:=(⟨[],0⟩:aE)) J J .p1 J J e1 J) J<|rM J J<|rX J J J<|rX J J J<|bA J J J J fun De=>ar J J J J .p0 J J<|rA J J<|rN<|aL<|rM J J<|rN<|cB h J (fun h=>?_) (fun h=>?_)
   ·refine aL<|rF J J J<|rL J J .p0 J J<|rA J J<|rA J J<|rN<|ab.ret<|have h:=bZ h ek;?_
    cases h
    exact hQ J J J
   ·refine tK<|aL<|sw J fun kB=>rA J J<|rN<|tS<|aL<|rM J J<|Sp (M:=l8) (enc:=Yz) J (fun _ _=>.p3) J fun Ae Xb P1 abQ abR=>rN<|ab.block<|ab.Sl (fun e (x:(List (Version×aE)))=>sI aa ai e x) (fun x:(List (Version×aE))=>uI n9 x) (fun R x aJ=>∃ (s2m:List Nat),AN Xb P1 s2m (R.map Yz)∧aJ=⟨107,[(0,o8 aa),(1,.str ai),(7,.ptr b2 0),(13,.bV kB),(27,I (bE ((aa.length:Int)+1))),(28,I n9),(41,.ptr Ae 0)],[(Ae,.Km b7 P1 s2m),(b7,.LJ Xb P1),(b2,.cells [I bc.aA,I bc.aD,I bc.aF]),(kB,Nw x)]⟩) h ?_ ?_
    ·exact aj.lq [0,3,2,0] ⟨[],abR,J⟩ J J
    ·intro R2 xL aJ J2 ep hH2 hK2
     obtain ⟨s2m,abS,rfl⟩:=ep
     refine aL<|Vl J abS .p1 (fun _=>.p0) J (fun hN=>?_) (fun zD R' P2 hP hlen YG YH=>?_)
     ·have h:=aa8 hH2 hN
      replace h:uI n9 xL=_:=h
      unfold uI at h
      refine ae.ghost<|aj.Vn abQ .p1<|aj.here<|rX J J J<|rN<|tS<|ab.Ow J<|ab.exit J<|tR<|rM J J<|rA J J<|rN<|ab.cH<|tR<|ae.qv (br J J) J<|rM J J<|rN<|ab.stop<|?_
      cases h
      exact jF _ _ J<|aj.lq [2,2] ⟨kB,J⟩ J J
     ·obtain ⟨z2,h,hN2,xd⟩:=XU hH2 hP
      replace h:sI aa ai zD xL=some z2:=h
      unfold sI at h
      have zm:=fun y aJ (e:z2=.inl y) hi=>hK2 R' y aJ hlen (hN2 y e) hi
      clear hN2 hP hK2 hH2
      refine rX J J J<|rN<|tS<|ab.Ov J<|tK<|ab.block<|aL<|ae.qv (Sq J .p0 .p1 YH J J) J<|rX J J J<|rX J J J<|bA J J J J fun Gb=>bA J J J J fun re=>ar J J J J .p1 J J<|ar J J J J .p0 J J<|rN<|aL<|rM J J<|rM J J<|ae.qv (aG J J .p1 J) J<|aK h fun ub e3 h=>jH J (Eu e3) cR .nil (fun _=>J) J fun vf=>ae.qv (dH J) J<|rM J J<|rN<|ab.block<|ab.cS (fun x:(List (Version×aE))×Int=>nL zD ub x.1 x.2) (fun x aJ=>aJ=⟨107,[(0,o8 aa),(1,.str ai),(7,.ptr b2 0),(13,.bV kB),(15,.ptr re 0),(27,I (bE ((aa.length:Int)+1))),(28,I n9),(41,.ptr Ae 0),(50,.sl 6 vf 0 ub.length),(51,I (ub.length:Int)),(52,I x.2)],[(b2,.cells [I bc.aA,I bc.aD,I bc.aF]),(kB,Nw x.1),(re,.cells [se zD.2.oG,I zD.2.bP]),(Ae,.Km b7 P1 P2),(b7,.LJ Xb P1),(vf,vV ub)]⟩) h ?_ ?_
      ·exact aj.lq [5,5,1,2,2,0] J J J
      ·intro x z3 aJ J3 ep h W9 VS
       obtain ⟨vl,n23⟩:=x
       obtain rfl:=ep
       replace h:nL zD ub vl n23=some z3:=h
       unfold nL at h
       refine aL<|ae.qv (bT J J) J<|rN<|tS<|cD h J (fun h=>?_) (fun h=>?_)
       ·refine tK<|tS<|ab.block<|aL<|aK h fun v24 e4 h=>ae.qv (bB J J J e4) J<|ae.qv (cq (g:=ak.av) J J (.inl .p5) J e4 J) J<|bA J J J J fun A3=>ar J J J J .p0 J J<|rN<|tS<|aK h fun v26 e5 h=>aK h fun zE e6 h=>ab.lB (id:=14) (A:=[0,1,3,0,8,24,63,0,128,0,512,1920,4095,0,16383]) (H0:=[]) (HH:=fun β=>[((β 12),ug zE),((β 13),.cells [.nil,I 0]),(A3,.cells (Eh v24)),(b2,.cells [I bc.aA,I bc.aD,I bc.aF]),(kB,Nw vl),(re,.cells [se zD.2.oG,I zD.2.bP]),(Ae,.Km b7 P1 P2),(b7,.LJ Xb P1),(vf,vV ub)]) 14 mixed J (by kernel_rfl) (by kernel_rfl) [⟨some 2,some 6,[],fun b=>(b,ug v26),none,[]⟩,⟨some 6,some 12,[],fun b=>(b,ug zE),none,[]⟩,⟨some 12,none,[],fun b=>(b,ug zE),none,[]⟩,⟨some 13,none,[],fun b=>(b,.cells [.nil,I 0]),none,[]⟩] [2,6,12,13] J (by kernel_rfl) J .nil (fun _=>J)<|AT.am 2 J J<|AM.qv (ax J J) J<|AM.qv (aM J J .p3 J) J<|AM.nil<|AT.zU (V:=fun b=>.sl 3 b 0 v26.length) (Ti:=[]) (Pi:=fun b=>[(b,ug v26)]) (fun _=>J) (fun _=>J) (fun _ _=>J) J (fun _=>J) J J J ?_ ?_
        ·exact jH J (sL e5) cR .nil (fun _=>J) J fun Ct=>ae.nil ⟨Ct,_,J,J⟩
        refine AT.am 3 J J<|AM.qv (ax J J) J<|AM.qv (aP J J .p0 J J) J<|AM.cI (xs:=([v24.Version]:List Version).map Version.av) J J J J J J<|AM.nil<|AT.Vo (V:=fun b=>.sl 3 b 0 zE.length) (Ti:=fun β=>[((β 2),ug v26)]) (Pi:=fun b=>[(b,ug zE)]) (fun _=>J) (fun _=>J) (fun _ _=>J) (fun _=>J) (fun _=>J) J J J (fun β=>?_) ?_
        ·generalize β 2=Ct
         exact dB (g:=Version.av) J J J J J J J J (.list _) e6 (fun _=>.p0) J fun Ny=>ae.nil ⟨Ny,_,J,J⟩
        refine AT.am 5 J J<|AM.qv (ax J J) J<|AM.qv (aM J J .p3 J) J<|AM.qv (ax J J) J<|AM.qv (aM J J .p0 J) J<|AM.qv (br J J) J<|AM.nil<|AT.Vo (V:=fun b=>.agg [.sl 3 b 0 zE.length,I (bE (zD.2.bP+v24.cW))]) (Ti:=fun β=>[((β 6),ug zE)]) (Pi:=fun b=>[(b,ug zE)]) (fun _=>J) (fun _=>J) (fun _ _=>J) (fun _=>J) (fun _=>J) J J J (fun β=>?_) ?_
        ·generalize β 6=Ny
         exact ae.qv (dc J J J J J) J<|ae.nil ⟨Ny,_,J,J⟩
        refine AT.zU (V:=fun b=>.ptr b 0) (Ti:=[]) (Pi:=fun b=>[(b,.cells [.nil,I 0])]) (fun _=>J) (fun _=>J) (fun _ _=>J) J (fun _=>J) J J J ?_ ?_
        ·exact bA J J J J fun Lf=>ae.nil ⟨Lf,_,J,J⟩
        refine AT.xK (fun _=>J) fun β=>?_
        generalize β 2=Ct
        generalize β 6=Ny
        generalize β 12=Nx
        generalize β 13=Lf
        clear β
        refine ar J J J J .p1 J J<|rN<|aL<|rM J J<|rF J J J<|ae.qv (aP J J .p2 J J) J<|aK h fun v32 e7 h=>ae.qv (D2 (gk:=Version.av) (gv:=aE.av) (M:=vl) (key:=v24.Version) (Z:=(⟨[],0⟩:aE)) J J .p4 J J e7 J) J<|rM J J<|rX J J J<|rX J J J<|bA J J J J fun V1=>ar J J J J .p0 J J<|rA J J<|rN<|tS<|ab.cut (fun aJ=>∃ (Yw:Bool),mx zD vl n23 v24 zE Yw=some z3∧aJ=⟨107,[(0,o8 aa),(1,.str ai),(7,.ptr b2 0),(13,.bV kB),(15,.ptr re 0),(17,.ptr A3 0),(18,.ptr Lf 0),(27,I (bE ((aa.length:Int)+1))),(28,I n9),(41,.ptr Ae 0),(50,.sl 6 vf 0 ub.length),(51,I (ub.length:Int)),(52,I n23),(99,.bool Yw)],[(b2,.cells [I bc.aA,I bc.aD,I bc.aF]),(kB,Nw vl),(re,.cells [se zD.2.oG,I zD.2.bP]),(A3,.cells (Eh v24)),(Lf,.cells [.sl 3 Nx 0 zE.length,I (bE (zD.2.bP+v24.cW))]),(Nx,ug zE),(Ae,.Km b7 P1 P2),(b7,.LJ Xb P1),(vf,vV ub)]⟩) ?_ ?_
        ·refine tR<|rM J J<|ae.qv (cV J) J<|rM J J<|ae.guard J J J (fun hc=>?_) (fun hc=>?_)
         ·refine have h:=sn hc h;rF J J J<|rY J J J<|rL J J .p2 J J<|rY J J J<|rF J J J<|rY J J J<|rL J J .p0 J J<|rY J J J<|ae.qv (bT J J) J<|rE J J J<|rM J J<|gF h J J J (fun h=>?_) (fun h=>?_)
          ·refine rF J J J<|rY J J J<|rL J J .p2 J J<|rY J J J<|rF J J J<|rY J J J<|rL J J .p0 J J<|rY J J J<|ae.qv (dt J J) J<|rY J J J<|rM J J<|gT h J J J (fun h=>?_) (fun h=>?_)
           ·exact rF J J J<|rY J J J<|rL J J .p2 J J<|rY J J J<|rF J J J<|rY J J J<|rL J J .p0 J J<|rY J J J<|aK h fun v35 e8 h=>gO J (j7 (fun e=>ji e) e8) (.cons (lD.jd .p1) (.cons (.co (.refl _)) (.cons (.AB _ _ _ .nil) .nil))) J J<|rY J J J<|ae.qv (bT J J) J<|rY J J J<|rT J J J<|rE J J J<|rN<|ab.stop<|aj.lq [4,4,4,3,2,1,1,1,1] ⟨decide (v35 < 0),h,J⟩ J J
           ·exact rG J J J J<|rG J J J J<|rG J J J J<|rG J J J J<|rG J J J J<|rY J J J<|rE J J J<|rE J J J<|rN<|ab.stop<|aj.lq [4,4,4,3,2,1,1,1,1] ⟨false,h,J⟩ J J
          ·exact rG J J J J<|rG J J J J<|rG J J J J<|rG J J J J<|rG J J J J<|ae.aV J J J<|ae.aV J J J<|ae.aV J J J<|ae.aV J J J<|ae.aV J J J<|ae.aV J J J<|rG J J J J<|rT J J J<|rN<|ab.stop<|aj.lq [4,4,4,3,2,1,1,1,1] ⟨true,h,J⟩ J J
         ·exact have h:=pN hc h;rG J J J J<|rG J J J J<|rG J J J J<|rG J J J J<|rT J J J<|rM J J<|rG J J J J<|rG J J J J<|rG J J J J<|rG J J J J<|rG J J J J<|rG J J J J<|ae.aV J J J<|ae.aV J J J<|ae.aV J J J<|ae.aV J J J<|ae.aV J J J<|ae.aV J J J<|rG J J J J<|rT J J J<|rN<|ab.stop<|aj.lq [4,4,4,3,2,1,1,1,1] ⟨true,h,J⟩ J J
        ·rintro aJ ⟨Yw,h,rfl⟩
         unfold mx at h
         refine ab.cut (fun aJ=>∃ (Yv:List (Version×aE)),sH n23 Yv=some z3∧aJ=⟨107,[(0,o8 aa),(1,.str ai),(7,.ptr b2 0),(13,.bV kB),(15,.ptr re 0),(27,I (bE ((aa.length:Int)+1))),(28,I n9),(41,.ptr Ae 0),(50,.sl 6 vf 0 ub.length),(51,I (ub.length:Int)),(52,I n23)],[(b2,.cells [I bc.aA,I bc.aD,I bc.aF]),(kB,Nw Yv),(re,.cells [se zD.2.oG,I zD.2.bP]),(Ae,.Km b7 P1 P2),(b7,.LJ Xb P1),(vf,vV ub)]⟩) ?_ ?_
         ·refine cB h J (fun h=>?_) (fun h=>?_)
          ·exact tR<|rM J J<|rF J J J<|ae.qv (aP J J .p3 J J) J<|ae.qv (aG J J .p4 J) J<|ae.ghost<|aj.freeze .p5<|aj.here<|ae.ghost<|aj.Va (s:=103) (iI:=.agg [se zE,I (bE (zD.2.bP+v24.cW))]) J (CO.XP (.cons (.co (Co.Kz .p5)) (.cons .r .nil)))<|aj.here<|vk (gk:=Version.av) (gv:=aE.av) (M:=vl) (key:=v24.Version) (v:=(⟨zE,bE (zD.2.bP+v24.cW)⟩:aE)) J J J J .p1<|rN<|ab.stop<|aj.lq [0,0,0,3,3,3] ⟨ca vl v24.Version (⟨zE,bE (zD.2.bP+v24.cW)⟩:aE),h,J⟩ J J
          ·exact tK<|ab.stop<|aj.lq [0,0,0,3,3,3] ⟨vl,h,J⟩ J J
         ·rintro aJ ⟨Yv,h,rfl⟩
          unfold sH at h
          refine ab.cH<|tR<|ae.qv (br J J) J<|rM J J<|rN<|ab.stop<|?_
          cases h
          exact W9 _ _ J<|aj.lq [0,0,0,0,0,0] J J J
       ·refine ab.exit J<|have h:=bZ h VS;ab.cH<|ab.stop<|?_
        cases h
        exact zm _ _ J<|aj.lq [3,3,0,0] ⟨P2,YG,J⟩ J J
  ·refine ab.exit J<|have h:=bZ h ek;aL<|rA J J<|rA J J<|rN<|ab.ret<|?_
   cases h
   exact aj.co (s:=8) J (.nil 3)<|aj.here ⟨_,.cons (.tmp _ _ J) (.cons (.tmp _ _ J) .nil),J⟩
theorem C1 [GI:bU] {aa:ak} {ai:List Version} {r:Bool} (h:oy aa ai=some r):Pu Tryz.prog 70 [ak.av aa,.ch [se ai]] (.bool r):=by
 unfold oy at h
 refine aR.bI Tryz.func70 J Tryz.ntmps70 Tryz.results70 J J ?_
 refine aL<|dh J J J J fun b1=>rA J J<|rN<|tS<|ab.dv (id:=1) (A:=[0,1,0,4,12,31,63]) 7 mixed J (by kernel_rfl) (by kernel_rfl)<|AM.qv (ax J J) J<|AM.qv (aP J J .p0 J J) J<|AM.qv (aS J J J) J<|aK h fun v2 e1 h=>AM.qv (bH J J J e1 J J) J<|AM.qv (aO J J J) J<|AM.qv (DH (g:=Version.av) (X:=aa.Version) (Y:=v2) J J J J J) J<|AM.qv (bQ J) J<|AM.nil<|rN<|ab.ret<|?_
 cases h
 exact hP J J
theorem Hi [GI:bU] {aa:Campaign} {ai:List ak} {aH:List DeviceS} {bc:List MarkS} {ck dV:Int} {r:(List cx)} (h:nM aa ai aH bc ck dV=some r):aR Tryz.prog 20 [Campaign.av aa,o8 ai,pI aH,wD bc,I ck,I dV] [] (T1 (fun np=>[(np,CR r)]) (fun np=>.sl 5 np 0 r.length)):=by
 unfold nM at h
 refine aR.iL ?_
 refine aR.bI Tryz.func20 J Tryz.ntmps20 Tryz.results20 J J ?_
 refine aL<|dh J J J J fun b1=>ae.ghost<|aj.Px (s:=6) J .p0<|aj.here<|rA J J<|rN<|tS<|tS<|ab.cut (fun aJ=>∃ (c2:Bool),oC aa ai aH bc dV c2=some r∧aJ=⟨131,[(1,o8 ai),(2,pI aH),(3,wD bc),(5,I dV),(6,.ch [.str aa.Key,I aa.Target.aA,I aa.Target.aD,I aa.Target.aF,I aa.At,oQ aa.aI,I aa.aZ.bF,I aa.aZ.To,I aa.Room]),(37,.bool c2)],[]⟩) ?_ ?_
 ·refine tR<|ae.qv (aO J J J) J<|rM J J<|rM J J<|rM J J<|aK h fun v3 e1 h=>ba J (zG e1) cR J<|ae.qv (nP J J) J<|rM J J<|ae.dA J J J (fun hc=>?_) (fun hc=>?_)
  ·rw [we hc] at h
   exact ae.qv (aO J J J) J<|rY J J J<|rM J J<|rY J J J<|rM J J<|rY J J J<|ba J (Jj J) cR J<|rY J J J<|ae.qv (cV J) J<|rE J J J<|rN<|ab.stop<|aj.lq [] ⟨!(sE aa ck dV),h,J⟩ J J
  ·rw [wc hc] at h
   exact rG J J J J<|rG J J J J<|rG J J J J<|rG J J J J<|rT J J J<|rN<|ab.stop<|aj.lq [] ⟨true,h,J⟩ J J
 ·rintro aJ ⟨c2,h,rfl⟩
  unfold oC at h
  refine cB h J (fun h=>?_) (fun h=>?_)
  ·refine aL<|rA J J<|rN<|ab.ret<|?_
   cases h
   exact aj.arr (s:=12) 5 J fun b4=>aj.here ⟨_,.cons (.tmp _ _ J) .nil,_,.cons .p0 .nil,⟨b4,J,J⟩⟩
  ·refine tK<|aL<|ae.qv (aO J J J) J<|rM J J<|rM J J<|rM J J<|aK h fun v5 e2 h=>jH J (Hh e2) cR .nil (fun _=>J) J fun b6=>ae.qv (dH J) J<|rA J J<|rN<|aL<|ae.qv (bq J J) J<|ae.qv (aS J J J) J<|rA J J<|rN<|aL<|rA J J<|rN<|tS<|aL<|rM J J<|ae.qv (cE J) J<|rM J J<|rN<|ab.block<|ab.cS (fun x:Int×(List DeviceS)×Int=>oB aa ai aH bc dV v5 x.1 x.2.1 x.2.2) (fun x aJ=>∃ (kB:Bk),aJ=⟨131,[(1,o8 ai),(3,wD bc),(5,I dV),(6,.ch [.str aa.Key,I aa.Target.aA,I aa.Target.aD,I aa.Target.aF,I aa.At,oQ aa.aI,I aa.aZ.bF,I aa.aZ.To,I aa.Room]),(13,I (v5.length:Int)),(14,I x.1),(15,.sl 7 kB 0 x.2.1.length),(46,pI aH),(47,I (aH.length:Int)),(48,I x.2.2)],[(kB,uK x.2.1)]⟩) h ?_ ?_
   ·exact aj.arr (s:=15) 7 J fun Ta=>aj.lq [0] ⟨Ta,J⟩ J J
   ·intro x z1 aJ J1 ep h jF ek
    obtain ⟨n11,kU,n14⟩:=x
    obtain ⟨kB,rfl⟩:=ep
    replace h:oB aa ai aH bc dV v5 n11 kU n14=some z1:=h
    unfold oB at h
    refine aL<|ae.qv (bT J J) J<|rN<|tS<|cD h J (fun h=>?_) (fun h=>?_)
    ·refine tK<|tS<|ab.block<|aL<|aK h fun tL e3 h=>ae.qv (bH J J J e3 J J) J<|ae.qv (aO J J J) J<|bA J J J J fun re=>ar J J J J .p0 J J<|rN<|aL<|ae.qv (aO J J J) J<|ae.qv (aG J J .p0 J) J<|rM J J<|rM J J<|aK h fun ub e4 h=>ba J (xi e4) cR J<|bA J J J J fun vf=>ar J J J J .p0 J J<|rN<|aL<|ae.qv (aG J J .p0 J) J<|ba J (P0 J) cR J<|rN<|ab.cut (fun aJ=>∃ (VT:Bk) (n20:Int) (vl:List DeviceS),oz n14 n20 vl=some z1∧aJ=⟨131,[(1,o8 ai),(3,wD bc),(5,I dV),(6,.ch [.str aa.Key,I aa.Target.aA,I aa.Target.aD,I aa.Target.aF,I aa.At,oQ aa.aI,I aa.aZ.bF,I aa.aZ.To,I aa.Room]),(13,I (v5.length:Int)),(14,I n20),(15,.sl 7 VT 0 vl.length),(46,pI aH),(47,I (aH.length:Int)),(48,I n14)],[(VT,uK vl)]⟩) ?_ ?_
     ·refine cB h J (fun h=>?_) (fun h=>?_)
      ·exact tR<|rM J J<|ae.qv (fy J J) J<|rA J J<|rN<|ab.stop<|aj.lq [2] ⟨kB,bE (n11 - 1),kU,h,J⟩ J J
      ·refine tS<|ab.cut (fun aJ=>∃ (Yx:Bool),qa n11 kU n14 tL Yx=some z1∧aJ=⟨131,[(1,o8 ai),(3,wD bc),(5,I dV),(6,.ch [.str aa.Key,I aa.Target.aA,I aa.Target.aD,I aa.Target.aF,I aa.At,oQ aa.aI,I aa.aZ.bF,I aa.aZ.To,I aa.Room]),(13,I (v5.length:Int)),(14,I n11),(15,.sl 7 kB 0 kU.length),(17,.ptr re 0),(46,pI aH),(47,I (aH.length:Int)),(48,I n14),(74,.bool Yx)],[(kB,uK kU),(re,.cells (Rv tL))]⟩) ?_ ?_
       ·refine tR<|ae.qv (aO J J J) J<|rF J J J<|rL J J .p1 J J<|aK h fun v24 e5 h=>ba J (uQ e5) cR J<|rM J J<|ae.qv (bT J J) J<|rM J J<|gT h J J J (fun h=>?_) (fun h=>?_)
        ·exact ae.qv (aO J J J) J<|rY J J J<|ae.qv (aG J J .p1 J) J<|rY J J J<|rM J J<|rY J J J<|rM J J<|rY J J J<|aK h fun v25 e6 h=>ba J (Jk e6) cR J<|rY J J J<|ae.qv (cV J) J<|rT J J J<|rN<|ab.stop<|aj.lq [2,1] ⟨!v25,h,J⟩ J J
        ·exact rG J J J J<|rG J J J J<|rG J J J J<|rG J J J J<|rG J J J J<|rE J J J<|rN<|ab.stop<|aj.lq [2,1] ⟨false,h,J⟩ J J
       ·rintro aJ ⟨Yx,h,rfl⟩
        unfold qa at h
        refine ab.cut (fun aJ=>∃ (BN:Bk) (BI:List DeviceS),p9 n11 n14 BI=some z1∧aJ=⟨131,[(1,o8 ai),(3,wD bc),(5,I dV),(6,.ch [.str aa.Key,I aa.Target.aA,I aa.Target.aD,I aa.Target.aF,I aa.At,oQ aa.aI,I aa.aZ.bF,I aa.aZ.To,I aa.Room]),(13,I (v5.length:Int)),(14,I n11),(15,.sl 7 BN 0 BI.length),(46,pI aH),(47,I (aH.length:Int)),(48,I n14)],[(BN,uK BI)]⟩) ?_ ?_
        ·refine cB h J (fun h=>?_) (fun h=>?_)
         ·exact tR<|rM J J<|ae.qv (aG J J .p1 J) J<|aW (xs:=([tL]:List DeviceS).map DeviceS.av) J J J J J J<|aK h fun zE e7 h=>dB (g:=DeviceS.av) J J J J J J J J (.list _) e7 (fun _=>.p0) J fun Ny=>rA J J<|rN<|ab.stop<|aj.lq [0] ⟨Ny,zE,h,J⟩ J J
         ·exact tK<|ab.stop<|aj.lq [0] ⟨kB,kU,h,J⟩ J J
        ·rintro aJ ⟨BN,BI,h,rfl⟩
         unfold p9 at h
         exact ab.stop<|aj.lq [0] ⟨BN,n11,BI,h,J⟩ J J
     ·rintro aJ ⟨VT,n20,vl,h,rfl⟩
      unfold oz at h
      refine ab.cH<|tR<|ae.qv (br J J) J<|rM J J<|rN<|ab.stop<|?_
      cases h
      exact jF _ _ J<|aj.lq [0] ⟨VT,J⟩ J J
    ·refine ab.exit J<|have h:=bZ h ek;?_
     unfold qe at h
     refine aL<|rM J J<|ae.qv (mg J) J<|aK h fun v30 e8 h=>bC J (pF (fun e=>C0 e) (tZ e8)) cR (.cons .p0 .nil) J J<|ae.ghost<|aj.eqs (s:=15) (iI:=.sl 7 kB 0 v30.length) J (congrArg (AV.sl 7 kB 0) (jI e8))<|aj.here<|ae.ghost<|aj.eqs (s:=80) (iI:=.sl 7 kB 0 v30.length) J (congrArg (AV.sl 7 kB 0) (jI e8))<|aj.here<|rN<|aL<|rA J J<|rN<|tS<|aL<|rM J J<|ae.qv (dH J) J<|rM J J<|rN<|ab.block<|ab.cS (fun x:Int×(List cx)×Int=>mB aa ai bc dV v30 x.1 x.2.1 x.2.2) (fun x aJ=>∃ (BP:Bk),aJ=⟨131,[(1,o8 ai),(3,wD bc),(5,I dV),(6,.ch [.str aa.Key,I aa.Target.aA,I aa.Target.aD,I aa.Target.aF,I aa.At,oQ aa.aI,I aa.aZ.bF,I aa.aZ.To,I aa.Room]),(14,I x.1),(19,.sl 5 BP 0 x.2.1.length),(83,.sl 7 kB 0 v30.length),(84,I (v30.length:Int)),(85,I x.2.2)],[(BP,CR x.2.1),(kB,uK v30)]⟩) h ?_ ?_
     ·exact aj.arr (s:=19) 5 J fun Fi=>aj.lq [0,0] ⟨Fi,J⟩ J J
     ·intro x z2 aJ J2 ep h zm xd
      obtain ⟨n35,Ac,n38⟩:=x
      obtain ⟨BP,rfl⟩:=ep
      replace h:mB aa ai bc dV v30 n35 Ac n38=some z2:=h
      unfold mB at h
      refine aL<|ae.qv (bT J J) J<|rN<|tS<|cD h J (fun h=>?_) (fun h=>?_)
      ·refine tK<|tS<|ab.cut (fun aJ=>∃ (HU:Bk) (n40:Int) (Hc:List cx),mA n38 n40 Hc=some z2∧aJ=⟨131,[(1,o8 ai),(3,wD bc),(5,I dV),(6,.ch [.str aa.Key,I aa.Target.aA,I aa.Target.aD,I aa.Target.aF,I aa.At,oQ aa.aI,I aa.aZ.bF,I aa.aZ.To,I aa.Room]),(14,I n40),(19,.sl 5 HU 0 Hc.length),(83,.sl 7 kB 0 v30.length),(84,I (v30.length:Int)),(85,I n38)],[(HU,CR Hc),(kB,uK v30)]⟩) ?_ ?_
       ·refine ab.block<|aL<|aK h fun zk e9 h=>ae.qv (bB J J J e9) J<|ae.qv (cq (g:=DeviceS.av) J J (.inl .p1) J e9 J) J<|bA J J J J fun b44=>ar J J J J .p0 J J<|rN<|tS<|aK h fun v45 Ad h=>aK h fun v46 Ej h=>ab.lB (id:=20) (A:=[0,0,2,0,0,0,0,120,248,0,512,2047,4095,8191,8191,0,49151,131071]) (H0:=[]) (HH:=fun β=>[((β 15),.cells [se v46.1]),(b44,.cells (Rv zk)),(BP,CR Ac),(kB,uK v30)]) 17 mixed J (by kernel_rfl) (by kernel_rfl) [⟨some 15,some 16,[],fun b=>(b,.cells [.nil]),none,[]⟩,⟨some 16,none,[],fun b=>(b,.cells [se v46.1]),some 15,[]⟩] [15] J (by kernel_rfl) J .nil (fun _=>J)<|AT.am 15 J J<|AM.qv (aT J) J<|AM.qv (ax J J) J<|AM.qv (aM J J .p0 J) J<|AM.qv (aO J J J) J<|AM.qv (aG J J .p0 J) J<|AM.qv (aT J) J<|AM.qv (aT J) J<|AM.gM J (xi Ad) cR J<|AM.qv (No (ft:=27) (off:=2) ⟨_,_,Tryz.underlying112,J,J,J⟩ J J J J) J<|AM.qv (bq J J) J<|AM.qv (kJ J J J J) J<|AM.gM J (NA Ej) cR J<|AM.qv (aT J) J<|AM.qv (jG J J) J<|AM.qv (jG J J) J<|AM.nil<|AT.zU (V:=fun b=>.ptr b 0) (Ti:=[]) (Pi:=fun b=>[(b,.cells [.nil])]) (fun _=>J) (fun _=>J) (fun _ _=>J) J (fun _=>J) J J J ?_ ?_
        ·exact bA J J J J fun Gc=>ae.nil ⟨Gc,_,J,J⟩
        refine AT.runN (Ti:=fun β=>[((β 15),.cells [.nil])]) (Pi:=fun β=>[((β 15),.cells [se v46.1])]) (fun _=>J) (fun _=>J) (fun _ _=>J) (fun _=>J) (fun _=>J) (fun β=>?_) ?_
        ·generalize β 15=Gc
         exact ar J J J J .p0 J J<|ae.nil ⟨_,J⟩
        refine AT.xK (fun _=>J) fun β=>?_
        generalize β 15=Gc
        clear β
        refine rA J J<|rN<|tS<|tS<|ab.cut (fun aJ=>∃ (Cr:Bool),oA ai n35 Ac n38 zk v46 Cr=some z2∧aJ=⟨131,[(1,o8 ai),(3,wD bc),(5,I dV),(6,.ch [.str aa.Key,I aa.Target.aA,I aa.Target.aD,I aa.Target.aF,I aa.At,oQ aa.aI,I aa.aZ.bF,I aa.aZ.To,I aa.Room]),(14,I n35),(19,.sl 5 BP 0 Ac.length),(21,.ptr b44 0),(22,.ptr Gc 0),(83,.sl 7 kB 0 v30.length),(84,I (v30.length:Int)),(85,I n38),(109,.bool Cr)],[(BP,CR Ac),(b44,.cells (Rv zk)),(Gc,.cells [se v46.1]),(kB,uK v30)]⟩) ?_ ?_
        ·refine tR<|rM J J<|ae.qv (cV J) J<|rM J J<|ae.guard J J J (fun hc=>?_) (fun hc=>?_)
         ·rw [va hc] at h
          exact rM J J<|rY J J J<|ae.qv (qM J J) J<|rE J J J<|rN<|ab.stop<|aj.lq [2,1,0,0] ⟨decide (n35≤0),h,J⟩ J J
         ·rw [u9 hc] at h
          exact rG J J J J<|rT J J J<|rN<|ab.stop<|aj.lq [2,1,0,0] ⟨true,h,J⟩ J J
        ·rintro aJ ⟨Cr,h,rfl⟩
         unfold oA at h
         refine cB h J (fun h=>?_) (fun h=>?_)
         ·exact ab.exit J<|ab.stop<|aj.lq [0,2] ⟨BP,n35,Ac,h,J⟩ J J
         ·exact tK<|aL<|rM J J<|ae.qv (fy J J) J<|rA J J<|rN<|aL<|rM J J<|ae.qv (mg J) J<|aK h fun v49 Fh h=>gO J (fT (fun e=>C1 e) Fh) (.cons (.co (.refl _)) (.cons (.AB _ _ _ (.cons (.xG _ _ _ .p2 (.cons (.co (.refl _)) .nil)) .nil)) .nil)) J J<|rA J J<|rN<|ab.dv (id:=24) (A:=[0,0,2,0,8,24,0,0,192,448,960,2046,4094,8191,16383]) 13 mixed J (by kernel_rfl) (by kernel_rfl)<|AM.qv (aT J) J<|AM.qv (ax J J) J<|AM.qv (aM J J .p1 J) J<|AM.qv (aM J J .p2 J) J<|aK h fun v50 Ki h=>AM.qv (bH J J J Ki J J) J<|AM.qv (aO J J J) J<|AM.qv (aT J) J<|AM.qv (aT J) J<|aK h fun v51 S7 h=>AM.qv (bH J J J S7 J J) J<|AM.qv (bq J J) J<|AM.qv (aS J J J) J<|AM.qv (dc J J J J J) J<|AM.cI (xs:=([(⟨zk.Key,v50,v51.cW⟩:cx)]).map cx.av) J J J J J J<|AM.nil<|aK h fun l52 Xa h=>dB (g:=cx.av) J J J J J J J J (.list _) Xa (fun _=>.p0) J fun Xc=>rA J J<|rN<|ab.cH<|ab.stop<|aj.lq [0,2] ⟨Xc,bE (n35 - 1),l52,h,J⟩ J J
       ·rintro aJ ⟨HU,n40,Hc,h,rfl⟩
        unfold mA at h
        refine tR<|ae.qv (br J J) J<|rM J J<|rN<|ab.stop<|?_
        cases h
        exact zm _ _ J<|aj.lq [0,0] ⟨HU,J⟩ J J
      ·refine ab.exit J<|have h:=bZ h xd;aL<|rM J J<|rA J J<|rN<|ab.ret<|?_
       cases h
       exact hH J [0] J ⟨BP,J,J⟩
theorem Lj [GI:bU] {aa:Campaign} {ai:List ak} {aH:List DeviceS} {bc:Int} {ck:List bj} {dV:eQ} {r:(List MarkS)×Int} (h:wC aa ai aH bc ck dV=some r):aR Tryz.prog 28 [Campaign.av aa,o8 ai,pI aH,I bc,vz ck,eQ.av dV] [] (T1 (fun np=>[(np,tW r.1)]) (fun np=>.lM [.sl 6 np 0 r.1.length,I r.2])):=by
 unfold wC at h
 refine aR.iL ?_
 refine aR.bI Tryz.func28 J Tryz.ntmps28 Tryz.results28 J J ?_
 refine aL<|dh J J J J fun b1=>dh J J J J fun b2=>rA J J<|rA J J<|rN<|aL<|rA J J<|rN<|tS<|aL<|rF J J J<|rL J J .p0 J J<|rA J J<|rN<|ab.block<|ab.cS (fun x:(List MarkS)×Int=>ny aa ai aH bc ck dV x.1 x.2) (fun x aJ=>∃ (b6:Bk),aJ=⟨112,[(1,o8 ai),(2,pI aH),(3,I bc),(4,vz ck),(6,.ptr b1 0),(11,.ptr b2 0),(14,.sl 6 b6 0 x.1.length),(15,I x.2)],[(b1,.cells (xz aa)),(b2,.cells [I dV.bF,I dV.To]),(b6,tW x.1)]⟩) h ?_ ?_
 ·exact aj.arr (s:=14) 6 J fun b9=>aj.lq [2,1,0] ⟨b9,J⟩ J J
 ·intro x z1 aJ J1 ep h jF ek
  obtain ⟨l7,n8⟩:=x
  obtain ⟨b6,rfl⟩:=ep
  replace h:ny aa ai aH bc ck dV l7 n8=some z1:=h
  unfold ny at h
  refine tS<|aL<|rM J J<|rF J J J<|rL J J .p1 J J<|ae.qv (bT J J) J<|rN<|cD h J (fun h=>?_) (fun h=>?_)
  ·refine tK<|tS<|ab.block<|aL<|rA J J<|rN<|tS<|aL<|rM J J<|ae.qv (cE J) J<|rM J J<|rN<|ab.block<|ab.cS (fun x:(List MarkS)×Int=>ra aa ai aH bc ck l7 n8 x.1 x.2) (fun x aJ=>∃ (Ae:Bk),aJ=⟨112,[(1,o8 ai),(2,pI aH),(3,I bc),(4,vz ck),(6,.ptr b1 0),(11,.ptr b2 0),(14,.sl 6 b6 0 l7.length),(15,I n8),(16,.sl 6 Ae 0 x.1.length),(32,pI aH),(33,I (aH.length:Int)),(34,I x.2)],[(b1,.cells (xz aa)),(b2,.cells [I dV.bF,I dV.To]),(b6,tW l7),(Ae,tW x.1)]⟩) h ?_ ?_
   ·exact aj.arr (s:=16) 6 J fun Gb=>aj.lq [1,1,1,0] ⟨Gb,J⟩ J J
   ·intro x z2 aJ J2 ep h zm xd
    obtain ⟨oK,n15⟩:=x
    obtain ⟨Ae,rfl⟩:=ep
    replace h:ra aa ai aH bc ck l7 n8 oK n15=some z2:=h
    unfold ra at h
    refine aL<|ae.qv (bT J J) J<|rN<|tS<|cD h J (fun h=>?_) (fun h=>?_)
    ·refine tK<|tS<|ab.cut (fun aJ=>∃ (re:Bk) (Nt:List MarkS),o0 n15 Nt=some z2∧aJ=⟨112,[(1,o8 ai),(2,pI aH),(3,I bc),(4,vz ck),(6,.ptr b1 0),(11,.ptr b2 0),(14,.sl 6 b6 0 l7.length),(15,I n8),(16,.sl 6 re 0 Nt.length),(32,pI aH),(33,I (aH.length:Int)),(34,I n15)],[(b1,.cells (xz aa)),(b2,.cells [I dV.bF,I dV.To]),(b6,tW l7),(re,tW Nt)]⟩) ?_ ?_
     ·refine ab.block<|aL<|aK h fun pj e1 h=>ae.qv (bH J J J e1 J J) J<|ae.qv (aO J J J) J<|bA J J J J fun Nz=>ar J J J J .p0 J J<|rN<|aL<|ae.qv (aG J J .p1 J) J<|rF J J J<|rL J J .p0 J J<|rM J J<|rM J J<|ae.qv (fy J J) J<|aK h fun v21 e2 h=>yh J (xh e2) .nil (.cons (.co (.refl _)) (.cons (.co (.refl _)) (.cons (lD.jd .p3) (.cons (.co (.refl _)) .nil)))) (fun _=>J) (fun _=>J) (fun _=>(.cons (Rq.jd (fun _=>J)) .nil)) J fun Rx=>rA J J<|rN<|tS<|aL<|rM J J<|ae.qv (dH J) J<|ae.qv (dt J J) J<|rN<|cD h J (fun h=>?_) (fun h=>?_)
      ·exact ab.exit J<|ab.stop<|aj.lq [2,2,2,2] ⟨Ae,oK,h,J⟩ J J
      ·refine tK<|aL<|rM J J<|rM J J<|ae.qv (dH J) J<|ae.qv (fy J J) J<|aK h fun v23 e3 h=>ae.qv (bB J J J e3) J<|ae.qv (cq (g:=MarkS.av) J J (.inl .p0) J e3 J) J<|bA J J J J fun u4=>ar J J J J .p0 J J<|rN<|aL<|rM J J<|rF J J J<|ar J J J J .p0 J J<|rN<|tS<|ab.block<|tS<|ab.cut (fun aJ=>∃ (Yy:Bool),qX n8 oK n15 v23 Yy=some z2∧aJ=⟨112,[(1,o8 ai),(2,pI aH),(3,I bc),(4,vz ck),(6,.ptr b1 0),(11,.ptr b2 0),(14,.sl 6 b6 0 l7.length),(15,I n8),(16,.sl 6 Ae 0 oK.length),(20,.ptr u4 0),(32,pI aH),(33,I (aH.length:Int)),(34,I n15),(56,.bool Yy)],[(b1,.cells (xz aa)),(b2,.cells [I dV.bF,I dV.To]),(b6,tW l7),(Ae,tW oK),(u4,.cells [I n8,.str v23.Device,I v23.Kind,I v23.Version.aA,I v23.Version.aD,I v23.Version.aF])]⟩) ?_ ?_
       ·refine tR<|rF J J J<|rL J J .p0 J J<|ae.qv (dt J J) J<|rM J J<|gT h J J J (fun h=>?_) (fun h=>?_)
        ·exact rM J J<|rY J J J<|rF J J J<|rY J J J<|rL J J .p2 J J<|rY J J J<|aK h fun v26 e4 h=>ba J (dW e4) cR J<|rT J J J<|rA J J<|rN<|ab.stop<|aj.lq [3,3,3,3,0] ⟨v26,h,J⟩ J J
        ·exact rG J J J J<|rG J J J J<|rG J J J J<|rE J J J<|rA J J<|rN<|ab.stop<|aj.lq [3,3,3,3,0] ⟨false,h,J⟩ J J
       ·rintro aJ ⟨Yy,h,rfl⟩
        unfold qX at h
        refine ab.cut (fun aJ=>∃ (n27:Int),qV n8 oK n15 v23 n27=some z2∧aJ=⟨112,[(1,o8 ai),(2,pI aH),(3,I bc),(4,vz ck),(6,.ptr b1 0),(11,.ptr b2 0),(14,.sl 6 b6 0 l7.length),(15,I n8),(16,.sl 6 Ae 0 oK.length),(20,.ptr u4 0),(32,pI aH),(33,I (aH.length:Int)),(34,I n15)],[(b1,.cells (xz aa)),(b2,.cells [I dV.bF,I dV.To]),(b6,tW l7),(Ae,tW oK),(u4,.cells [I n8,.str v23.Device,I n27,I v23.Version.aA,I v23.Version.aD,I v23.Version.aF])]⟩) ?_ ?_
        ·refine cB h J (fun h=>?_) (fun h=>?_)
         ·exact tR<|rF J J J<|ar J J J J .p4 J J<|rN<|ab.stop<|aj.lq [0,0,0,0,0] ⟨4,h,J⟩ J J
         ·refine aL<|rF J J J<|rL J J .p4 J J<|ae.qv (dt J J) J<|rA J J<|rN<|ab.cut (fun aJ=>∃ (n28:Int),qW n8 oK n15 v23 n28=some z2∧aJ=⟨112,[(1,o8 ai),(2,pI aH),(3,I bc),(4,vz ck),(6,.ptr b1 0),(11,.ptr b2 0),(14,.sl 6 b6 0 l7.length),(15,I n8),(16,.sl 6 Ae 0 oK.length),(20,.ptr u4 0),(32,pI aH),(33,I (aH.length:Int)),(34,I n15)],[(b1,.cells (xz aa)),(b2,.cells [I dV.bF,I dV.To]),(b6,tW l7),(Ae,tW oK),(u4,.cells [I n8,.str v23.Device,I n28,I v23.Version.aA,I v23.Version.aD,I v23.Version.aF])]⟩) ?_ ?_
          ·refine cD h J (fun h=>?_) (fun h=>?_)
           ·exact tR<|rF J J J<|ar J J J J .p4 J J<|rN<|ab.stop<|aj.lq [0,0,0,0,0] ⟨3,h,J⟩ J J
           ·refine aL<|rF J J J<|rL J J .p4 J J<|ae.qv (dt J J) J<|rA J J<|rN<|cD h J (fun h=>?_) (fun h=>?_)
            ·exact tR<|rF J J J<|ar J J J J .p4 J J<|rN<|ab.stop<|aj.lq [0,0,0,0,0] ⟨2,h,J⟩ J J
            ·exact ab.exit J<|ab.stop<|aj.lq [0,0,0,0] ⟨Ae,oK,h,J⟩ J J
          ·rintro aJ ⟨n28,h,rfl⟩
           unfold qW at h
           exact ab.stop<|aj.lq [0,0,0,0,0] ⟨n28,h,J⟩ J J
        ·rintro aJ ⟨n27,h,rfl⟩
         unfold qV at h
         exact ab.cH<|tR<|rM J J<|ae.qv (aG J J .p4 J) J<|aW (xs:=([(⟨n8,v23.Device,n27,v23.Version⟩:MarkS)]).map MarkS.av) J J J J J J<|aK h fun E0 e5 h=>dB (g:=MarkS.av) J J J J J J J J (.list _) e5 (fun _=>.p3) J fun Nx=>rA J J<|rN<|ab.cH<|ab.stop<|aj.lq [0,0,0,0] ⟨Nx,E0,h,J⟩ J J
     ·rintro aJ ⟨re,Nt,h,rfl⟩
      unfold o0 at h
      refine tR<|ae.qv (br J J) J<|rM J J<|rN<|ab.stop<|?_
      cases h
      exact zm _ _ J<|aj.lq [0,0,0,0] ⟨re,J⟩ J J
    ·refine ab.exit J<|have h:=bZ h xd;?_
     unfold tA at h
     refine tS<|aL<|ae.qv (aG J J .p0 J) J<|rM J J<|rM J J<|rM J J<|rM J J<|aK h fun v31 e6 h=>yh J (Hi e6) .nil (.cons (.co (.refl _)) (.cons (.co (.refl _)) (.cons (.co (.refl _)) (.cons (lD.jd .p2) (.cons (.co (.refl _)) (.cons (.co (.refl _)) .nil)))))) (fun _=>J) (fun _=>J) (fun _=>(.cons (Rq.jd (fun _=>J)) .nil)) J fun Ry=>ae.qv (dH J) J<|rM J J<|rN<|ab.block<|ab.cS (fun x:(List MarkS)×Int=>qZ bc l7 n8 v31 x.1 x.2) (fun x aJ=>∃ (BP:Bk),aJ=⟨112,[(1,o8 ai),(2,pI aH),(3,I bc),(4,vz ck),(6,.ptr b1 0),(11,.ptr b2 0),(14,.sl 6 b6 0 l7.length),(15,I n8),(16,.sl 6 BP 0 x.1.length),(87,.sl 5 Ry 0 v31.length),(88,I (v31.length:Int)),(89,I x.2)],[(b1,.cells (xz aa)),(b2,.cells [I dV.bF,I dV.To]),(b6,tW l7),(BP,tW x.1),(Ry,CR v31)]⟩) h ?_ ?_
     ·exact aj.lq [1,1,1,1,0] ⟨Ae,J⟩ J J
     ·intro x z3 aJ J3 ep h W9 VS
      obtain ⟨Ac,n38⟩:=x
      obtain ⟨BP,rfl⟩:=ep
      replace h:qZ bc l7 n8 v31 Ac n38=some z3:=h
      unfold qZ at h
      refine aL<|ae.qv (bT J J) J<|rN<|tS<|cD h J (fun h=>?_) (fun h=>?_)
      ·refine tK<|tS<|ab.block<|aL<|aK h fun v39 e7 h=>ae.qv (bB J J J e7) J<|ae.qv (cq (g:=cx.av) J J (.inl .p4) J e7 J) J<|bA J J J J fun b40=>ar J J J J .p0 J J<|rN<|tR<|rM J J<|rM J J<|rF J J J<|rL J J .p0 J J<|rF J J J<|ae.qv (aP J J .p0 J J) J<|ae.qv (dc J J J J J) J<|aW (xs:=([(⟨n8,v39.Device,1,v39.Version⟩:MarkS)]).map MarkS.av) J J J J J J<|aK h fun l41 e8 h=>dB (g:=MarkS.av) J J J J J J J J (.list _) e8 (fun _=>.p4) J fun b42=>rA J J<|rN<|ab.cH<|tR<|ae.qv (br J J) J<|rM J J<|rN<|ab.stop<|?_
       cases h
       exact W9 _ _ J<|aj.lq [1,1,1,1,1] ⟨b42,J⟩ J J
      ·refine ab.exit J<|have h:=bZ h VS;?_
       unfold qY at h
       refine aL<|rM J J<|aK h fun zk e9 h=>bC J (kC (fun e=>zF (GI:=nz) (ad e)) (tZ e9)) cR (.cons .p3 .nil) J J<|ae.ghost<|aj.eqs (s:=16) (iI:=.sl 6 BP 0 zk.length) J (congrArg (AV.sl 6 BP 0) (jI e9))<|aj.here<|ae.ghost<|aj.eqs (s:=103) (iI:=.sl 6 BP 0 zk.length) J (congrArg (AV.sl 6 BP 0) (jI e9))<|aj.here<|rN<|aL<|rM J J<|rM J J<|aK h fun Ns Ad h=>dB (g:=MarkS.av) J J J J J J J J (BD (.inl .p0) J) Ad (fun _=>.p3) J fun b45=>rA J J<|rN<|aL<|rM J J<|ae.qv (dH J) J<|ae.qv (eB J J) J<|rN<|cD h J (fun h=>?_) (fun h=>?_)
       ·refine aL<|rA J J<|rA J J<|rN<|ab.ret<|have h:=bZ h ek;?_
        cases h
        exact aj.arr (s:=12) 6 J fun b46=>aj.here ⟨_,.cons (.tmp _ _ J) (.cons (.tmp _ _ J) .nil),_,.cons .p0 .nil,⟨b46,J,J⟩⟩
       ·refine tK<|ab.cH<|tR<|rM J J<|rM J J<|ae.qv (br J J) J<|rA J J<|rN<|ab.stop<|?_
        cases h
        exact jF _ _ J<|aj.lq [1,1,1] ⟨b45,J⟩ J J
  ·refine ab.exit J<|have h:=bZ h ek;aL<|rM J J<|rA J J<|rA J J<|rN<|ab.ret<|?_
   cases h
   exact hI J J [2] J ⟨b6,J,J⟩
theorem vR [GI:bU] {aa ai:List MarkS} {r:Bool} (h:kA aa ai=some r):Pu Tryz.prog 29 [wD aa,wD ai] (.bool r):=by
 unfold kA at h
 refine aR.bI Tryz.func29 J Tryz.ntmps29 Tryz.results29 J J ?_
 refine aL<|rA J J<|rN<|tS<|aL<|rM J J<|ae.qv (cE J) J<|rM J J<|ae.qv (cE J) J<|ae.qv (pH J J) J<|rN<|cD h J (fun h=>?_) (fun h=>?_)
 ·refine aL<|rA J J<|rN<|ab.ret<|?_
  cases h
  exact hP J J
 ·refine tK<|tS<|aL<|rM J J<|ae.qv (cE J) J<|rM J J<|rN<|ab.block<|ab.cS (fun x:Int=>iV aa ai x) (fun x aJ=>aJ=⟨26,[(0,wD aa),(1,wD ai),(12,I (aa.length:Int)),(13,I x)],[]⟩) h ?_ ?_
  ·exact aj.lq [] J J J
  ·intro n2 z1 aJ J1 ep h jF ek
   obtain rfl:=ep
   replace h:iV aa ai n2=some z1:=h
   unfold iV at h
   refine aL<|ae.qv (bT J J) J<|rN<|tS<|cD h J (fun h=>?_) (fun h=>?_)
   ·refine tK<|tS<|ab.block<|aL<|rM J J<|rA J J<|rN<|tS<|ab.dv (id:=6) (A:=[0,0,3,7,0,0,48,112,255]) 9 mixed J (by kernel_rfl) (by kernel_rfl)<|AM.qv (aT J) J<|AM.qv (aT J) J<|aK h fun v3 e1 h=>AM.qv (bH J J J e1 J J) J<|AM.qv (aO J J J) J<|AM.qv (aT J) J<|AM.qv (aT J) J<|aK h fun v4 e2 h=>AM.qv (bH J J J e2 J J) J<|AM.qv (aO J J J) J<|AM.qv (Ul (g:=MarkS.av) (X:=v3) (Y:=v4) J J J J J) J<|AM.nil<|rN<|cD h J (fun h=>?_) (fun h=>?_)
    ·refine aL<|rA J J<|rN<|ab.ret<|have h:=bZ h ek;?_
     cases h
     exact hP J J
    ·refine tK<|ab.cH<|tR<|ae.qv (br J J) J<|rM J J<|rN<|ab.stop<|?_
     cases h
     exact jF _ _ J<|aj.lq [] J J J
   ·refine ab.exit J<|have h:=bZ h ek;aL<|rA J J<|rN<|ab.ret<|?_
    cases h
    exact hP J J
theorem Fo {aa:bj} {ai:Int} {r:Int×Bool} (h:tB aa ai=some r):Pu Tryz.prog 142 [.str aa,I ai] (.lM [I r.1,.bool r.2]):=by
 unfold tB at h
 refine aR.bI Tryz.func142 J Tryz.ntmps142 Tryz.results142 J J ?_
 refine aL<|rA J J<|rA J J<|rN<|aL<|rM J J<|ba J (ym J) cR J<|rA J J<|rN<|tS<|tS<|ab.cut (fun aJ=>∃ (c1:Bool),nk aa c1=some r∧aJ=⟨61,[(0,.str aa),(6,.str (Lib.trimPrefix aa ([45]:bj))),(36,.bool c1)],[]⟩) ?_ ?_
 ·refine tR<|rM J J<|ae.qv (Oy J J) J<|rM J J<|gF h J J J (fun h=>?_) (fun h=>?_)
  ·refine rM J J<|rY J J J<|ae.qv (og J) J<|rY J J J<|rM J J<|rY J J J<|ae.qv (eB J J) J<|rE J J J<|rM J J<|gF h J J J (fun h=>?_) (fun h=>?_)
   ·refine rM J J<|rY J J J<|aK h fun c2 e1 h=>ae.qv (nv J J e1) J<|rY J J J<|ae.qv (dt J J) J<|rY J J J<|rM J J<|ae.dJ J J J (fun hc=>?_) (fun hc=>?_)
    ·rw [uE hc] at h
     refine rM J J<|rY J J J<|ae.qv (og J) J<|rY J J J<|ae.qv (eB J J) J<|rY J J J<|rM J J<|ae.dA J J J (fun hc=>?_) (fun hc=>?_)
     ·rw [we hc] at h
      exact rM J J<|rY J J J<|ae.qv (og J) J<|rY J J J<|rM J J<|rY J J J<|ae.qv (og J) J<|rY J J J<|ae.qv (eB J J) J<|rY J J J<|rE J J J<|rY J J J<|rT J J J<|rE J J J<|rN<|ab.stop<|aj.lq [] ⟨decide (((Lib.trimPrefix aa ([45]:bj)).length:Int) < (aa.length:Int)),h,J⟩ J J
     ·rw [wc hc] at h
      exact rG J J J J<|rG J J J J<|rG J J J J<|rG J J J J<|rY J J J<|rT J J J<|rY J J J<|rT J J J<|rE J J J<|rN<|ab.stop<|aj.lq [] ⟨true,h,J⟩ J J
    ·rw [uF hc] at h
     exact rG J J J J<|rG J J J J<|rG J J J J<|ae.aV J J J<|ae.aV J J J<|ae.aV J J J<|ae.aV J J J<|ae.aV J J J<|rG J J J J<|rY J J J<|rE J J J<|rE J J J<|rN<|ab.stop<|aj.lq [] ⟨false,h,J⟩ J J
   ·exact rG J J J J<|rG J J J J<|rG J J J J<|ae.aV J J J<|ae.aV J J J<|ae.aV J J J<|ae.aV J J J<|ae.aV J J J<|ae.aV J J J<|ae.aV J J J<|ae.aV J J J<|ae.aV J J J<|ae.aV J J J<|rG J J J J<|rT J J J<|rN<|ab.stop<|aj.lq [] ⟨true,h,J⟩ J J
  ·exact rG J J J J<|rG J J J J<|rG J J J J<|rT J J J<|rM J J<|rG J J J J<|rG J J J J<|rG J J J J<|rG J J J J<|ae.aV J J J<|ae.aV J J J<|ae.aV J J J<|ae.aV J J J<|ae.aV J J J<|ae.aV J J J<|ae.aV J J J<|ae.aV J J J<|ae.aV J J J<|ae.aV J J J<|rG J J J J<|rT J J J<|rN<|ab.stop<|aj.lq [] ⟨true,h,J⟩ J J
 ·rintro aJ ⟨c1,h,rfl⟩
  unfold nk at h
  refine cB h J (fun h=>?_) (fun h=>?_)
  ·refine aL<|rA J J<|rA J J<|rN<|ab.ret<|?_
   cases h
   exact hQ J J J
  ·refine tK<|tS<|aL<|rM J J<|ae.qv (og J) J<|rM J J<|rN<|ab.block<|ab.cS (fun x:Int=>fE aa x) (fun x aJ=>aJ=⟨61,[(0,.str aa),(6,.str (Lib.trimPrefix aa ([45]:bj))),(38,I ((Lib.trimPrefix aa ([45]:bj)).length:Int)),(39,I x)],[]⟩) h ?_ ?_
   ·exact aj.lq [] J J J
   ·intro n4 z1 aJ J1 ep h jF ek
    obtain rfl:=ep
    replace h:fE aa n4=some z1:=h
    unfold fE at h
    refine aL<|ae.qv (bT J J) J<|rN<|tS<|cD h J (fun h=>?_) (fun h=>?_)
    ·refine tK<|tS<|ab.block<|aL<|rM J J<|rA J J<|rN<|tS<|ab.cut (fun aJ=>∃ (c5:Bool),o7 n4 c5=some z1∧aJ=⟨61,[(0,.str aa),(6,.str (Lib.trimPrefix aa ([45]:bj))),(38,I ((Lib.trimPrefix aa ([45]:bj)).length:Int)),(39,I n4),(51,.bool c5)],[]⟩) ?_ ?_
     ·refine tR<|rM J J<|rM J J<|aK h fun c6 e2 h=>ae.qv (nv J J e2) J<|ae.qv (bT J J) J<|rM J J<|gF h J J J (fun h=>?_) (fun h=>?_)
      ·exact rM J J<|rY J J J<|rM J J<|rY J J J<|aK h fun c7 e3 h=>ae.qv (nv J J e3) J<|rY J J J<|ae.qv (eB J J) J<|rE J J J<|rN<|ab.stop<|aj.lq [] ⟨decide (57 < (c7.toNat:Int)),h,J⟩ J J
      ·exact rG J J J J<|rG J J J J<|rG J J J J<|rT J J J<|rN<|ab.stop<|aj.lq [] ⟨true,h,J⟩ J J
     ·rintro aJ ⟨c5,h,rfl⟩
      unfold o7 at h
      refine cB h J (fun h=>?_) (fun h=>?_)
      ·refine aL<|rA J J<|rA J J<|rN<|ab.ret<|have h:=bZ h ek;?_
       cases h
       exact hQ J J J
      ·refine tK<|ab.cH<|tR<|ae.qv (br J J) J<|rM J J<|rN<|ab.stop<|?_
       cases h
       exact jF _ _ J<|aj.lq [] J J J
    ·refine ab.exit J<|have h:=bZ h ek;?_
     unfold rV at h
     refine aL<|rM J J<|aK h fun v8 e4 h=>Sw J (Ea e4) cR J fun e9 e5=>rM J J<|rX J J J<|rX J J J<|rA J J<|rA J J<|rN<|tS<|ab.dv (id:=11) (A:=[0,0,2,1,15]) 5 mixed J (by kernel_rfl) (by kernel_rfl)<|AM.qv (aT J) J<|AM.qv (aT J) J<|AM.qv (X6 e5 J) J<|AM.qv (bQ J) J<|AM.qv (bQ J) J<|AM.nil<|rN<|ab.ret<|?_
     cases h
     exact hQ J J J
theorem Ev {aa:List bj} {ai:Int} {r:(List Int)×Bool} (h:rW aa ai=some r):aR Tryz.prog 113 [vz aa,I ai] [] (T1 (fun np=>[(np,dx r.1)]) (fun np=>.lM [.sl 1 np 0 r.1.length,.bool r.2])):=by
 unfold rW at h
 refine aR.iL ?_
 refine aR.bI Tryz.func113 J Tryz.ntmps113 Tryz.results113 J J ?_
 refine aL<|rA J J<|rA J J<|rN<|aL<|rA J J<|rN<|tS<|aL<|rM J J<|ae.qv (cE J) J<|rM J J<|rN<|ab.block<|ab.cS (fun x:(List Int)×Int=>lP aa ai x.1 x.2) (fun x aJ=>∃ (b4:Bk),aJ=⟨31,[(1,I ai),(6,.sl 1 b4 0 x.1.length),(11,vz aa),(12,I (aa.length:Int)),(13,I x.2)],[(b4,dx x.1)]⟩) h ?_ ?_
 ·exact aj.arr (s:=6) 1 J fun b7=>aj.lq [0] ⟨b7,J⟩ J J
 ·intro x z1 aJ J1 ep h jF ek
  obtain ⟨l5,n6⟩:=x
  obtain ⟨b4,rfl⟩:=ep
  replace h:lP aa ai l5 n6=some z1:=h
  unfold lP at h
  refine aL<|ae.qv (bT J J) J<|rN<|tS<|cD h J (fun h=>?_) (fun h=>?_)
  ·refine tK<|tS<|ab.block<|aL<|aK h fun v8 e1 h=>ae.qv (bH J J J e1 J J) J<|ae.qv (aS J J J) J<|rA J J<|rN<|aL<|rM J J<|rM J J<|aK h fun v9 e2 h=>ba J (Fo e2) cR J<|rM J J<|rX J J J<|rX J J J<|rA J J<|rA J J<|rN<|tS<|aL<|rM J J<|ae.qv (cV J) J<|rN<|cB h J (fun h=>?_) (fun h=>?_)
   ·refine aL<|rA J J<|rA J J<|rN<|ab.ret<|have h:=bZ h ek;?_
    cases h
    exact aj.arr (s:=4) 1 J fun Er=>aj.here ⟨_,.cons (.tmp _ _ J) (.cons (.tmp _ _ J) .nil),_,.cons .p0 .nil,⟨Er,J,J⟩⟩
   ·refine tK<|tR<|rM J J<|rM J J<|aW (xs:=([v9.1]:List Int).map I) J J J J J J<|aK h fun vN e3 h=>dB (g:=I) J J J J J J J J (.list _) e3 (fun _=>.p0) J fun kB=>rA J J<|rN<|ab.cH<|tR<|ae.qv (br J J) J<|rM J J<|rN<|ab.stop<|?_
    cases h
    exact jF _ _ J<|aj.lq [0] ⟨kB,J⟩ J J
  ·refine ab.exit J<|have h:=bZ h ek;aL<|rM J J<|rA J J<|rA J J<|rN<|ab.ret<|?_
   cases h
   exact hI J J [0] J ⟨b4,J,J⟩
theorem wG {aa:bj} {r:Version×Int} (h:jb aa=some r):Pu Tryz.prog 71 [.str aa] (.lM [Version.av r.1,I r.2]):=by
 unfold jb at h
 refine aR.bI Tryz.func71 J Tryz.ntmps71 Tryz.results71 J J ?_
 refine aL<|bA J J J J fun b1=>rA J J<|rN<|aL<|rM J J<|aK h fun v2 e1 h=>jH J (CP e1) cR .nil (fun _=>J) J fun b3=>aK h fun v4 e2 h=>yh J (Ev e2) .nil (.cons (lD.jd .p0) (.cons (.co (.refl _)) .nil)) (fun _=>J) (fun _=>J) (fun _=>(.cons (Rq.jd (fun _=>J)) .nil)) J fun b5=>rM J J<|rX J J J<|rX J J J<|rA J J<|rA J J<|rN<|tS<|tS<|ab.cut (fun aJ=>∃ (c6:Bool),jq v4 c6=some r∧aJ=⟨36,[(2,.ptr b1 0),(4,.sl 1 b5 0 v4.1.length),(19,.bool c6)],[(b1,.cells [I 0,I 0,I 0]),(b5,dx v4.1)]⟩) ?_ ?_
 ·refine tR<|rM J J<|ae.qv (cV J) J<|rM J J<|ae.guard J J J (fun hc=>?_) (fun hc=>?_)
  ·rw [va hc] at h
   exact rM J J<|rY J J J<|ae.qv (dH J) J<|rY J J J<|ae.qv (pH J J) J<|rE J J J<|rN<|ab.stop<|aj.lq [2,0] ⟨decide ((v4.1.length:Int)≠3),h,J⟩ J J
  ·rw [u9 hc] at h
   exact rG J J J J<|rG J J J J<|rT J J J<|rN<|ab.stop<|aj.lq [2,0] ⟨true,h,J⟩ J J
 ·rintro aJ ⟨c6,h,rfl⟩
  unfold jq at h
  refine cB h J (fun h=>?_) (fun h=>?_)
  ·refine aL<|ae.qv (dc J J J J J) J<|ar J J J J .p0 J J<|rA J J<|rN<|ab.ret<|?_
   cases h
   exact aj.here ⟨_,.cons (.all _ _ _ _ _ _ J .p0 aC.h a8.h J J) (.cons (.tmp _ _ J) .nil),J⟩
  ·refine tK<|tS<|aK h fun v7 e3 h=>aK h fun v8 e4 h=>aK h fun v9 e5 h=>ab.lB (id:=4) (A:=[0,1,3,0,8,24,0,64,192,511,0,2047]) (H0:=[]) (HH:=fun β=>[((β 10),.cells [I 0,I 0,I 0]),(b1,.cells [I 0,I 0,I 0]),(b5,dx v4.1)]) 11 mixed J (by kernel_rfl) (by kernel_rfl) [⟨some 10,none,[],fun b=>(b,.cells [I 0,I 0,I 0]),none,[]⟩] [10] J (by kernel_rfl) J .nil (fun _=>J)<|AT.am 10 J J<|AM.qv (aT J) J<|AM.qv (bB J J J e3) J<|AM.qv (dK (g:=I) J J (.inl .p1) e3 J) J<|AM.qv (aT J) J<|AM.qv (bB J J J e4) J<|AM.qv (dK (g:=I) J J (.inl .p1) e4 J) J<|AM.qv (aT J) J<|AM.qv (bB J J J e5) J<|AM.qv (dK (g:=I) J J (.inl .p1) e5 J) J<|AM.qv (dc J J J J J) J<|AM.nil<|AT.zU (V:=fun b=>.ptr b 0) (Ti:=[]) (Pi:=fun b=>[(b,.cells [I 0,I 0,I 0])]) (fun _=>J) (fun _=>J) (fun _ _=>J) J (fun _=>J) J J J ?_ ?_
   ·exact bA J J J J fun Er=>ae.nil ⟨Er,_,J,J⟩
   refine AT.xK (fun _=>J) fun β=>?_
   generalize β 10=Er
   clear β
   refine ar J J J J .p0 J J<|rN<|tS<|aL<|ae.qv (aG J J .p0 J) J<|ba J (nq (J:iq (⟨v7,v8,v9⟩:Version)=_)) cR J<|ae.qv (cV J) J<|rN<|cB h J (fun h=>?_) (fun h=>?_)
   ·refine aL<|ae.qv (dc J J J J J) J<|ar J J J J .p1 J J<|rA J J<|rN<|ab.ret<|?_
    cases h
    exact aj.here ⟨_,.cons (.all _ _ _ _ _ _ J .p1 aC.h a8.h J J) (.cons (.tmp _ _ J) .nil),J⟩
   ·refine tK<|aL<|ae.qv (aG J J .p0 J) J<|ar J J J J .p1 J J<|rA J J<|rN<|ab.ret<|?_
    cases h
    exact aj.here ⟨_,.cons (.all _ _ _ _ _ _ J .p1 aC.h a8.h J J) (.cons (.tmp _ _ J) .nil),J⟩
theorem Fp {r:Bool} (h:tC=some r):Pu Tryz.prog 23 [] (.bool r):=by
 unfold tC at h
 refine aR.bI Tryz.func23 J Tryz.ntmps23 Tryz.results23 J J ?_
 refine aL<|rA J J<|rN<|aL<|aK h fun v1 e1 h=>ba J (wG e1) cR J<|rM J J<|rX J J J<|rX J J J<|bA J J J J fun b2=>ar J J J J .p0 J J<|rA J J<|rN<|tS<|ab.cut (fun aJ=>∃ (c3:Bool),rZ c3=some r∧aJ=⟨14,[(0,.bool c3)],[]⟩) ?_ ?_
 ·refine tR<|rM J J<|ae.qv (dt J J) J<|rM J J<|ae.dJ J J J (fun hc=>?_) (fun hc=>?_)
  ·rw [uE hc] at h
   exact ae.qv (aG J J .p0 J) J<|rY J J J<|ae.qv (dc J J J J J) J<|rY J J J<|ae.qv (DH (g:=Version.av) (X:=v1.1) (Y:=(⟨1,2,3⟩:Version)) J J J J J) J<|rT J J J<|rA J J<|rN<|ab.stop<|aj.lq [] ⟨decide (v1.1=(⟨1,2,3⟩:Version)),h,J⟩ J J
  ·rw [uF hc] at h
   exact rG J J J J<|rG J J J J<|rE J J J<|rA J J<|rN<|ab.stop<|aj.lq [] ⟨false,h,J⟩ J J
 ·rintro aJ ⟨c3,h,rfl⟩
  unfold rZ at h
  refine ab.ret<|?_
  cases h
  exact hP J J
theorem zq {aa:List Int} {r:Bool} (h:mc aa=some r):Pu Tryz.prog 4 [gg aa] (.bool r):=by
 unfold mc at h
 refine aR.bI Tryz.func4 J Tryz.ntmps4 Tryz.results4 J J ?_
 refine aL<|rA J J<|rN<|aL<|rM J J<|ae.qv (dc J J J J J) J<|dh J J J J fun b1=>rA J J<|rN<|aL<|rM J J<|aK h fun v2 e1 h=>bC J (A4 e1) cR (.cons .p0 .nil) J J<|rM J J<|aK h fun v3 e2 h=>jH J (CT e2) cR (.cons .p0 .nil) (fun _=>J) J fun b4=>rM J J<|aK h fun v5 e3 h=>jH J (Ek e3) cR (.cons .p0 .nil) (fun _=>J) J fun b6=>rM J J<|aW (xs:=([10,10,25,1,0,2592000000,2592000001]).map I) J J J J J J<|aK h fun v7 e4 h=>bC J (cX e4) cR (.cons .p0 .nil) J J<|bA J J J J fun b8=>ar J J J J .p0 J J<|rA J J<|rA J J<|rA J J<|rN<|aL<|rM J J<|aW (xs:=([0,10,100]).map I) J J J J J J<|aK h fun v9 e5 h=>bC J (cX e5) cR (.cons .p1 .nil) J J<|rM J J<|aW (xs:=([100,200,250]).map I) J J J J J J<|aK h fun v10 e6 h=>bC J (cX e6) cR (.cons .p0 .nil) J J<|ae.qv (dc J J J J J) J<|bA J J J J fun De=>ar J J J J .p0 J J<|rN<|tS<|aL<|rM J J<|ae.qv (dt J J) J<|rN<|ab.cut (fun aJ=>∃ (xN:List Int) (n13:Int) (n14:Int),ib v2 v3 v5 v7 v9 xN n13 n14=some r∧aJ=⟨128,[(3,.ptr b1 0),(4,.ptr b8 0),(5,.sl 6 b4 0 v3.1.length),(6,.sl 7 b6 0 v5.1.length),(7,I v7.1),(8,.ptr De 0)],[(b1,.cells [gg xN,I n13]),(b8,.cells (xz v2.1)),(b4,vV v3.1),(b6,uK v5.1),(De,.cells [I v9.1,I n14])]⟩) ?_ ?_
 ·refine cD h J (fun h=>?_) (fun h=>?_)
  ·refine aK h fun CQ e7 h=>ab.lB (id:=5) (A:=[0,1,0,0,12,31,63,127]) (H0:=[(b1,.cells [gg v10.2.L,I v10.2.at_])]) (HH:=fun β=>[(b1,.cells [gg CQ.2.L,I CQ.2.at_]),(De,.cells [I v9.1,I v10.1]),(b8,.cells (xz v2.1)),(b6,uK v5.1),(b4,vV v3.1)]) 5 mixed J (by kernel_rfl) (by kernel_rfl) [⟨none,some 4,[],fun _=>(b1,.cells [gg v10.2.L,I v10.2.at_]),none,[]⟩,⟨some 4,none,[],fun _=>(b1,.cells [gg CQ.2.L,I CQ.2.at_]),none,[]⟩] [] J (by kernel_rfl) J (.cons .p1 .nil) (fun _=>J)<|AT.am 4 J J<|AM.qv (ax J J) J<|AM.qv (aM J J .p0 J) J<|AM.qv (aT J) J<|AM.cI (xs:=([5,20,501]).map I) J J J J J J<|AM.nil<|AT.CN (av:=I CQ.1) (Ti:=[(b1,.cells [gg v10.2.L,I v10.2.at_])]) (Pi:=[(b1,.cells [gg CQ.2.L,I CQ.2.at_])]) (fun _=>J) (fun _=>J) (fun _=>J) J J J ?_ ?_
   ·exact bC J (cX e7) cR (.cons .p0 .nil) J J<|ae.nil ⟨_,J,J⟩
   exact AT.xK (fun _=>J) fun β=>ae.qv (br J J) J<|rF J J J<|ar J J J J .p1 J J<|rN<|ab.stop<|aj.lq [0,1,2,1,0] ⟨CQ.2.L,CQ.2.at_,bE (v9.1+CQ.1),h,J⟩ J J
  ·exact tK<|ab.stop<|aj.lq [1,1,2,1,0] ⟨v10.2.L,v10.2.at_,v10.1,h,J⟩ J J
 ·rintro aJ ⟨xN,n13,n14,h,rfl⟩
  unfold ib at h
  refine tS<|aL<|rM J J<|aK h fun tL e8 h=>bC J (gH e8) cR (.cons .p0 .nil) J J<|rN<|ab.cut (fun aJ=>∃ (wS:List Int) (n18:Int) (n19:Int) (n20:Int),ia v2 v3 v5 v7 wS n18 n19 n20=some r∧aJ=⟨128,[(3,.ptr b1 0),(4,.ptr b8 0),(5,.sl 6 b4 0 v3.1.length),(6,.sl 7 b6 0 v5.1.length),(7,I v7.1),(8,.ptr De 0)],[(b1,.cells [gg wS,I n18]),(b8,.cells (xz v2.1)),(b4,vV v3.1),(b6,uK v5.1),(De,.cells [I n19,I n20])]⟩) ?_ ?_
  ·refine cB h J (fun h=>?_) (fun h=>?_)
   ·exact tR<|rM J J<|aK h fun v21 e9 h=>bC J (fS e9) cR (.cons .p0 .nil) J J<|rM J J<|aK h fun v22 Ad h=>bC J (fS Ad) cR (.cons .p0 .nil) J J<|ae.qv (dc J J J J J) J<|ar J J J J .p4 J J<|rN<|ab.stop<|aj.lq [0,0,0,0,0] ⟨v22.2.L,v22.2.at_,v21.1,v22.1,h,J⟩ J J
   ·exact tK<|ab.stop<|aj.lq [0,0,0,0,0] ⟨tL.2.L,tL.2.at_,v9.1,n14,h,J⟩ J J
  ·rintro aJ ⟨wS,n18,n19,n20,h,rfl⟩
   unfold ia at h
   refine aL<|rA J J<|rN<|tS<|aL<|aW (xs:=([([100,49]:bj),([100,51]:bj)]).map AV.str) J J J J J J<|ae.qv (cE J) J<|rM J J<|rN<|ab.block<|ab.cS (fun x:(List Int)×Int×(List bj)×Int=>jC v2 v3 v5 v7 n19 n20 x.1 x.2.1 x.2.2.1 x.2.2.2) (fun x aJ=>∃ (Nx:Bk),aJ=⟨128,[(3,.ptr b1 0),(4,.ptr b8 0),(5,.sl 6 b4 0 v3.1.length),(6,.sl 7 b6 0 v5.1.length),(7,I v7.1),(8,.ptr De 0),(9,.sl 1 Nx 0 x.2.2.1.length),(51,vz [([100,49]:bj),([100,51]:bj)]),(52,I ([([100,49]:bj),([100,51]:bj)].length:Int)),(53,I x.2.2.2)],[(b1,.cells [gg x.1,I x.2.1]),(b8,.cells (xz v2.1)),(b4,vV v3.1),(b6,uK v5.1),(De,.cells [I n19,I n20]),(Nx,aE1 x.2.2.1)]⟩) h ?_ ?_
   ·exact aj.arr (s:=9) 1 J fun V1=>aj.lq [1,1,1,1,1,0] ⟨V1,J⟩ J J
   ·intro x z1 aJ J1 ep h jF ek
    obtain ⟨zE,n29,yZ,n32⟩:=x
    obtain ⟨Nx,rfl⟩:=ep
    replace h:jC v2 v3 v5 v7 n19 n20 zE n29 yZ n32=some z1:=h
    unfold jC at h
    refine aL<|ae.qv (bT J J) J<|rN<|tS<|cD h J (fun h=>?_) (fun h=>?_)
    ·refine tK<|tS<|ab.block<|aL<|aK h fun Ec Ej h=>ae.qv (bH J J J Ej J J) J<|ae.qv (aS J J J) J<|rA J J<|rN<|aL<|rM J J<|aK h fun v35 Fh h=>bC J (gH Fh) cR (.cons .p0 .nil) J J<|rN<|ab.cut (fun aJ=>∃ (BP:Bk) (Ac:List bj),gX n32 v35 Ac=some z1∧aJ=⟨128,[(3,.ptr b1 0),(4,.ptr b8 0),(5,.sl 6 b4 0 v3.1.length),(6,.sl 7 b6 0 v5.1.length),(7,I v7.1),(8,.ptr De 0),(9,.sl 1 BP 0 Ac.length),(51,vz [([100,49]:bj),([100,51]:bj)]),(52,I ([([100,49]:bj),([100,51]:bj)].length:Int)),(53,I n32)],[(b1,.cells [gg v35.2.L,I v35.2.at_]),(b8,.cells (xz v2.1)),(b4,vV v3.1),(b6,uK v5.1),(De,.cells [I n19,I n20]),(BP,aE1 Ac)]⟩) ?_ ?_
     ·refine cB h J (fun h=>?_) (fun h=>?_)
      ·exact tR<|rM J J<|rM J J<|aW (xs:=([Ec]:List bj).map AV.str) J J J J J J<|aK h fun W5 Ki h=>dB (g:=AV.str) J J J J J J J J (.list _) Ki (fun _=>.p5) J fun Fi=>rA J J<|rN<|ab.stop<|aj.lq [0,0,0,0,0,0] ⟨Fi,W5,h,J⟩ J J
      ·exact tK<|ab.stop<|aj.lq [0,0,0,0,0,0] ⟨Nx,yZ,h,J⟩ J J
     ·rintro aJ ⟨BP,Ac,h,rfl⟩
      unfold gX at h
      refine ab.cH<|tR<|ae.qv (br J J) J<|rM J J<|rN<|ab.stop<|?_
      cases h
      exact jF _ _ J<|aj.lq [0,0,0,0,0,0] ⟨BP,J⟩ J J
    ·refine ab.exit J<|have h:=bZ h ek;?_
     unfold mb at h
     refine aL<|ae.qv (aG J J .p1 J) J<|rM J J<|rM J J<|rM J J<|rM J J<|ae.qv (aG J J .p4 J) J<|aK h fun v40 S7 h=>yh J (CW S7) .nil (.cons (.co (.refl _)) (.cons (lD.jd .p2) (.cons (lD.jd .p3) (.cons (.co (.refl _)) (.cons (lD.jd .p5) (.cons (.co (.refl _)) .nil)))))) (fun _=>J) (fun _=>J) (fun _=>(.cons (Rq.jd (fun _=>J)) .nil)) J fun HU=>rM J J<|rX J J J<|rX J J J<|rA J J<|rA J J<|rN<|tS<|ab.cut (fun aJ=>∃ (n42:Int),gZ v2 v3 v5 v7 n19 n20 yZ v40 n42=some r∧aJ=⟨128,[(4,.ptr b8 0),(5,.sl 6 b4 0 v3.1.length),(6,.sl 7 b6 0 v5.1.length),(7,I v7.1),(8,.ptr De 0),(9,.sl 1 Nx 0 yZ.length),(12,.sl 6 HU 0 v40.1.length),(13,I v40.2),(14,I n42)],[(b8,.cells (xz v2.1)),(b4,vV v3.1),(b6,uK v5.1),(De,.cells [I n19,I n20]),(Nx,aE1 yZ),(HU,tW v40.1)]⟩) ?_ ?_
     ·refine ab.dv (id:=16) (A:=[0,1,0,7,0,31,0,64,255,511,1023,2047,4095,0,16383,32767,65535,131071]) 18 mixed J (by kernel_rfl) (by kernel_rfl)<|AM.qv (aG J J .p2 J) J<|aK h fun zk Xa h=>AM.gM J (A7 Xa) cR J<|AM.qv (aT J) J<|aK h fun v44 Z5 h=>AM.GV J (CY Z5) (.cons (lD.jd .p3) .nil) J J<|AM.qv (aT J) J<|aK h fun v45 Z6 h=>AM.GV J (Es Z6) (.cons (lD.jd .p4) .nil) J J<|AM.qv (aT J) J<|AM.qv (bT J J) J<|AM.qv (aT J) J<|AM.dA J J J (fun hc=>?_) (fun hc=>?_)
      ·exact have h:=AD hc h;AM.qv (aT J) J<|AM.ay J J J<|AM.qv (eB J J) J<|AM.qv (eA J J) J<|AM.gM J (Et J) cR J<|AM.qv (aG J J .p5 J) J<|AM.gM J (xC (J:il (⟨n19,n20⟩:eQ)=_)) cR J<|AM.cI (xs:=([zk,v44,v45,(pK (decide (2592000000 < v7.1)) 1),(il (⟨n19,n20⟩:eQ))]).map I) J J J J J J<|aK h fun v46 e18 h=>AM.gM J (Ji e18) cR J<|AM.qv (bQ J) J<|AM.nil<|rN<|ab.stop<|aj.lq [2,2,2,2,2,0] ⟨v46,h,J⟩ J J
      ·exact have h:=pN hc h;AM.au J J J J<|AM.qv (gx J J) J<|AM.gM J (Et J) cR J<|AM.qv (aG J J .p5 J) J<|AM.gM J (xC (J:il (⟨n19,n20⟩:eQ)=_)) cR J<|AM.cI (xs:=([zk,v44,v45,(pK true 1),(il (⟨n19,n20⟩:eQ))]).map I) J J J J J J<|aK h fun v47 e19 h=>AM.gM J (Ji e19) cR J<|AM.qv (bQ J) J<|AM.nil<|rN<|ab.stop<|aj.lq [2,2,2,2,2,0] ⟨v47,h,J⟩ J J
     ·rintro aJ ⟨n42,h,rfl⟩
      unfold gZ at h
      refine aL<|rA J J<|rN<|tS<|aL<|rM J J<|ae.qv (dt J J) J<|rN<|ab.cut (fun aJ=>∃ (YC:Bk) (n48:Int) (W6:List MarkS),gY v40 n48 W6=some r∧aJ=⟨128,[(12,.sl 6 HU 0 v40.1.length),(13,I v40.2),(14,I n48),(15,.sl 6 YC 0 W6.length)],[(HU,tW v40.1),(YC,tW W6)]⟩) ?_ ?_
      ·refine cD h J (fun h=>?_) (fun h=>?_)
       ·refine aL<|rF J J J<|rL J J .p3 J J<|rF J J J<|rL J J .p3 J J<|ae.qv (fy J J) J<|rM J J<|ae.qv (br J J) J<|ae.qv (fy J J) J<|rM J J<|aK h fun n51 e20 h=>ae.qv (Kx J J e20) J<|ae.qv (eB J J) J<|ba J (Et J) cR J<|rA J J<|rN<|aL<|rM J J<|ae.qv (dt J J) J<|rN<|ab.cut (fun aJ=>∃ (Xc:Bk) (n52:Int) (PL:List MarkS),jB v40 n52 PL=some r∧aJ=⟨128,[(12,.sl 6 HU 0 v40.1.length),(13,I v40.2),(14,I n52),(15,.sl 6 Xc 0 PL.length)],[(HU,tW v40.1),(Xc,tW PL)]⟩) ?_ ?_
        ·refine cD h J (fun h=>?_) (fun h=>?_)
         ·exact tR<|ae.qv (aG J J .p0 J) J<|rM J J<|rM J J<|rM J J<|rM J J<|ae.qv (aG J J .p3 J) J<|aK h fun v55 e21 h=>yh J (Lj e21) .nil (.cons (.co (.refl _)) (.cons (lD.jd .p1) (.cons (lD.jd .p2) (.cons (.co (.refl _)) (.cons (lD.jd .p4) (.cons (.co (.refl _)) .nil)))))) (fun _=>J) (fun _=>J) (fun _=>(.cons (Rq.jd (fun _=>J)) .nil)) J fun Ol=>rM J J<|rX J J J<|rX J J J<|rA J J<|rA J J<|rN<|ab.stop<|aj.lq [6,0] ⟨Ol,v55.2,v55.1,h,J⟩ J J
         ·exact tK<|ab.stop<|aj.arr (s:=15) 6 J fun UD=>aj.lq [6,0] ⟨UD,(pK (decide (500 < n51)) 1),[],h,J⟩ J J
        ·rintro aJ ⟨Xc,n52,PL,h,rfl⟩
         unfold jB at h
         exact ab.stop<|aj.lq [0,0] ⟨Xc,n52,PL,h,J⟩ J J
       ·exact tK<|ab.stop<|aj.arr (s:=15) 6 J fun YD=>aj.lq [6,0] ⟨YD,n42,[],h,J⟩ J J
      ·rintro aJ ⟨YC,n48,W6,h,rfl⟩
       unfold gY at h
       refine tS<|ab.cut (fun aJ=>∃ (c59:Bool),jA c59=some r∧aJ=⟨128,[(2,.bool c59)],[]⟩) ?_ ?_
       ·refine tR<|rM J J<|rM J J<|ae.qv (dt J J) J<|rM J J<|gT h J J J (fun h=>?_) (fun h=>?_)
        ·refine rM J J<|rY J J J<|rM J J<|rY J J J<|aK h fun v60 e22 h=>gO J (vR e22) (.cons (lD.jd .p0) (.cons (lD.jd .p1) .nil)) J J<|rT J J J<|rM J J<|ae.guard J J J (fun hc=>?_) (fun hc=>?_)
         ·exact have h:=pN hc h;aK h fun La e23 h=>ba J (Fp e23) cR J<|rT J J J<|rA J J<|rN<|ab.stop<|aj.lq [] ⟨La,h,J⟩ J J
         ·exact have h:=sn hc h;rE J J J<|rA J J<|rN<|ab.stop<|aj.lq [] ⟨false,h,J⟩ J J
        ·exact rG J J J J<|rG J J J J<|rE J J J<|rM J J<|rG J J J J<|rE J J J<|rA J J<|rN<|ab.stop<|aj.lq [] ⟨false,h,J⟩ J J
       ·rintro aJ ⟨c59,h,rfl⟩
        unfold jA at h
        refine ab.ret<|?_
        cases h
        exact hP J J
end Go.Proofs.YthfphcbipahkmaaGreatDoor
