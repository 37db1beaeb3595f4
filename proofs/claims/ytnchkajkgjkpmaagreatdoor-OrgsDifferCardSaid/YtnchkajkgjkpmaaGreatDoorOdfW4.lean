/- The code computes the plain functions: proofs written by shal.py. -/
import Derived.Test.YtnchkajkgjkpmaaGreatDoorOdfW3
set_option maxHeartbeats 4000000
set_option maxRecDepth 100000
set_option linter.unusedVariables false
set_option linter.unusedSimpArgs false
namespace Go.Proofs.YtnchkajkgjkpmaaGreatDoor
open Go Go.Eng Go.Proofs Go.Beacon
attribute [local irreducible] ae ab AQ QV aI aj TK AM
theorem Pz {aa:ai} {r:Bool} (h:B7 aa=some r):Pu Tryz.prog 78 [.str aa] (.bool r):=by
 unfold B7 at h
 refine aI.aZ Tryz.func78 J Tryz.ntmps78 Tryz.results78 J J ?_
 refine az<|rA J J<|rN<|tS<|az<|rM J J<|Pf J J<|ae.qv (bB J) J<|rM J J<|rN<|ab.block<|ab.bO (fun x:Int=>mS aa x) (fun x aE=>aE=⟨32,[(0,.str aa),(6,aaN (mM aa)),(7,I ((mM aa).length:Int)),(8,I x)],[]⟩) h ?_ ?_
 ·exact aj.lq [] J J J
 ·intro n2 z1 aE J1 dh h im dN
  obtain rfl:=dh
  replace h:mS aa n2=some z1:=h
  unfold mS at h
  refine az<|ae.qv (br J J) J<|rN<|tS<|cD h J (fun h=>?_) (fun h=>?_)
  ·refine tK<|tS<|ab.block<|az<|ax h fun v3 e1 h=>ae.qv (aS J J J e1 J J) J<|ae.qv (aJ J J J) J<|rA J J<|rN<|tS<|ab.cut (fun aE=>∃ (c4:Bool),xY n2 c4=some z1∧aE=⟨32,[(0,.str aa),(6,aaN (mM aa)),(7,I ((mM aa).length:Int)),(8,I n2),(17,.bool c4)],[]⟩) ?_ ?_
   ·refine tR<|rM J J<|ae.qv (br J J) J<|rM J J<|ae.dC J J J (fun hc=>?_) (fun hc=>?_)
    ·rw [yW hc] at h
     exact rM J J<|rY J J J<|ae.qv (cx J J) J<|rE J J J<|rN<|ab.stop<|aj.lq [] ⟨decide (v3=(127:Int)),h,J⟩ J J
    ·rw [yV hc] at h
     exact rG J J J J<|rT J J J<|rN<|ab.stop<|aj.lq [] ⟨true,h,J⟩ J J
   ·rintro aE ⟨c4,h,rfl⟩
    unfold xY at h
    refine cB h J (fun h=>?_) (fun h=>?_)
    ·refine az<|rA J J<|rN<|ab.ret<|have h:=bx h dN;?_
     cases h
     exact hP J J
    ·refine tK<|ab.bX<|tR<|ae.qv (bf J J) J<|rM J J<|rN<|ab.stop<|?_
     cases h
     exact im _ _ J<|aj.lq [] J J J
  ·refine ab.exit J<|have h:=bx h dN;?_
   unfold xZ at h
   refine tS<|ab.cut (fun aE=>∃ (c5:Bool),tf c5=some r∧aE=⟨32,[(2,.bool c5)],[]⟩) ?_ ?_
   ·refine tR<|rM J J<|ax h fun v6 e2 h=>aH J (mN e2) cR J<|rM J J<|ae.guard J J J (fun hc=>?_) (fun hc=>?_)
    ·refine have h:=hZ hc h;rM J J<|rY J J J<|rM J J<|rY J J J<|ax h fun v7 e3 h=>aH J (za e3) cR J<|rY J J J<|ae.qv (fC J J) J<|rT J J J<|rM J J<|gT h J J J (fun h=>?_) (fun h=>?_)
     ·exact rM J J<|rY J J J<|ax h fun v8 e4 h=>aH J (vL e4) cR J<|rY J J J<|ae.qv (bF J) J<|rT J J J<|rA J J<|rN<|ab.stop<|aj.lq [] ⟨!v8,h,J⟩ J J
     ·exact rG J J J J<|rG J J J J<|rE J J J<|rA J J<|rN<|ab.stop<|aj.lq [] ⟨false,h,J⟩ J J
    ·exact have h:=ir hc h;rG J J J J<|rG J J J J<|rG J J J J<|rE J J J<|rM J J<|rG J J J J<|rG J J J J<|rG J J J J<|rE J J J<|rA J J<|rN<|ab.stop<|aj.lq [] ⟨false,h,J⟩ J J
   ·rintro aE ⟨c5,h,rfl⟩
    unfold tf at h
    refine ab.ret<|?_
    cases h
    exact hP J J
theorem Hc {aa:aL} {r:Int} (h:uB aa=some r):Pu Tryz.prog 19 [aL.av aa] (I r):=by
 unfold uB at h
 refine aI.aZ Tryz.func19 J Tryz.ntmps19 Tryz.results19 J J ?_
 refine az<|cJ J J J J fun b1=>rA J J<|rN<|az<|rF J J J<|ae.qv (aY J J .p0 J J) J<|bu J J J J fun b2=>ay J J J J .p0 J J<|rN<|tS<|ab.block<|tS<|ab.cut (fun aE=>∃ (c3:Bool),kE aa c3=some r∧aE=⟨131,[(1,.ptr b1 0),(3,.ptr b2 0),(10,.bool c3)],[(b1,.cells (DH aa)),(b2,.cells (XB aa.Device))]⟩) ?_ ?_
 ·refine tR<|rF J J J<|rL J J .p0 J J<|ax h fun v4 e1 h=>aH J (qN e1) cR J<|ae.qv (bF J) J<|rM J J<|ae.guard J J J (fun hc=>?_) (fun hc=>?_)
  ·refine have h:=ir hc h;rF J J J<|rY J J J<|rL J J .p0 J J<|rY J J J<|ax h fun v5 e2 h=>aH J (qN e2) cR J<|rY J J J<|ae.qv (bF J) J<|rE J J J<|rM J J<|ae.guard J J J (fun hc=>?_) (fun hc=>?_)
   ·refine have h:=ir hc h;rF J J J<|rY J J J<|rL J J .p0 J J<|rY J J J<|ae.qv (ud J J) J<|rY J J J<|rM J J<|gT h J J J (fun h=>?_) (fun h=>?_)
    ·exact rF J J J<|rY J J J<|rL J J .p0 J J<|rY J J J<|ax h fun v6 e3 h=>aH J (qN e3) cR J<|rY J J J<|ae.qv (bF J) J<|rY J J J<|rT J J J<|rE J J J<|rA J J<|rN<|ab.stop<|aj.lq [1,0] ⟨!v6,h,J⟩ J J
    ·exact rG J J J J<|rG J J J J<|rG J J J J<|rY J J J<|rE J J J<|rE J J J<|rA J J<|rN<|ab.stop<|aj.lq [1,0] ⟨false,h,J⟩ J J
   ·exact have h:=hZ hc h;rG J J J J<|rG J J J J<|rG J J J J<|ae.bz J J J<|ae.bz J J J<|ae.bz J J J<|ae.bz J J J<|rG J J J J<|rT J J J<|rA J J<|rN<|ab.stop<|aj.lq [1,0] ⟨true,h,J⟩ J J
  ·exact have h:=hZ hc h;rG J J J J<|rG J J J J<|rG J J J J<|rT J J J<|rM J J<|rG J J J J<|rG J J J J<|rG J J J J<|rG J J J J<|ae.bz J J J<|ae.bz J J J<|ae.bz J J J<|ae.bz J J J<|rG J J J J<|rT J J J<|rA J J<|rN<|ab.stop<|aj.lq [1,0] ⟨true,h,J⟩ J J
 ·rintro aE ⟨c3,h,rfl⟩
  unfold kE at h
  refine cB h J (fun h=>?_) (fun h=>?_)
  ·refine az<|rA J J<|rN<|ab.ret<|?_
   cases h
   exact hP J J
  ·refine az<|rF J J J<|ae.qv (aY J J .p1 J J) J<|aH J (xA J) cR J<|ae.qv (bF J) J<|rA J J<|rN<|cB h J (fun h=>?_) (fun h=>?_)
   ·refine az<|rA J J<|rN<|ab.ret<|?_
    cases h
    exact hP J J
   ·refine az<|rF J J J<|rL J J .p1 J J<|ae.qv (bB J) J<|ae.qv (cS J J) J<|rA J J<|rN<|cD h J (fun h=>?_) (fun h=>?_)
    ·refine az<|rA J J<|rN<|ab.ret<|?_
     cases h
     exact hP J J
    ·refine tK<|ab.bX<|tS<|az<|rF J J J<|rL J J .p1 J J<|ae.qv (bB J) J<|rM J J<|rN<|ab.block<|ab.bO (fun x:Int=>mn aa x) (fun x aE=>aE=⟨131,[(1,.ptr b1 0),(3,.ptr b2 0),(43,Qf aa.Device.kY),(44,I (aa.Device.kY.length:Int)),(45,I x)],[(b1,.cells (DH aa)),(b2,.cells (XB aa.Device))]⟩) h ?_ ?_
     ·exact aj.lq [0,0] J J J
     ·intro n8 z1 aE J1 dh h im dN
      obtain rfl:=dh
      replace h:mn aa n8=some z1:=h
      unfold mn at h
      refine az<|ae.qv (br J J) J<|rN<|tS<|cD h J (fun h=>?_) (fun h=>?_)
      ·refine tK<|tS<|ab.block<|az<|rM J J<|ax h fun v9 e4 h=>ae.qv (aS J J J e4 J J) J<|ae.qv (aM J J J) J<|bu J J J J fun GH=>rA J J<|ay J J J J .p0 J J<|rN<|ab.block<|az<|rF J J J<|rL J J .p0 J J<|ax h fun v11 e5 h=>aH J (qN e5) cR J<|ae.qv (bF J) J<|rA J J<|rN<|cB h J (fun h=>?_) (fun h=>?_)
       ·refine az<|rA J J<|rN<|ab.ret<|have h:=bx h dN;?_
        cases h
        exact hP J J
       ·refine tS<|ab.cut (fun aE=>∃ (c12:Bool),mi n8 v9 c12=some z1∧aE=⟨131,[(1,.ptr b1 0),(3,.ptr b2 0),(5,.ptr GH 0),(43,Qf aa.Device.kY),(44,I (aa.Device.kY.length:Int)),(45,I n8),(55,.bool c12)],[(b1,.cells (DH aa)),(b2,.cells (XB aa.Device)),(GH,.cells [.str v9.Name,.str v9.Value])]⟩) ?_ ?_
        ·refine ab.cA (id:=13) (A:=[0,1,3,7,15,7,39,7,135,487,999,2023,4095,8191,16383]) 15 mixed J (by kernel_rfl) (by kernel_rfl)<|AM.qv (aO J) J<|AM.qv (cS J J) J<|AM.qv (aO J) J<|AM.cq J J J (fun hc=>?_) (fun hc=>?_)
         ·exact have h:=hZ hc h;AM.qv (ar J J) J<|AM.an J J J<|AM.qv (aD J J .p0 J) J<|AM.an J J J<|AM.qv (ar J J) J<|AM.an J J J<|AM.qv (aD J J .p2 J) J<|AM.an J J J<|AM.qv (aO J) J<|AM.an J J J<|AM.qv (fm J J) J<|AM.an J J J<|ax h fun ma e6 h=>AM.qv (aS J J J e6 J J) J<|AM.an J J J<|AM.qv (bY J J) J<|AM.an J J J<|AM.qv (aJ J J J) J<|AM.an J J J<|AM.qv (od J J) J<|AM.qv (cQ J J) J<|AM.qv (bR J) J<|AM.nil<|rN<|ab.stop<|aj.lq [1,1,0] ⟨Op.bytesLess v9.Name ma.Name||v9.Name==ma.Name,h,J⟩ J J
         ·exact have h:=wM hc h;AM.al J J J J<|AM.al J J J J<|AM.al J J J J<|AM.al J J J J<|AM.al J J J J<|AM.al J J J J<|AM.al J J J J<|AM.al J J J J<|AM.al J J J J<|AM.qv (eE J J) J<|AM.qv (bR J) J<|AM.nil<|rN<|ab.stop<|aj.lq [1,1,0] ⟨false,h,J⟩ J J
        ·rintro aE ⟨c12,h,rfl⟩
         unfold mi at h
         refine cB h J (fun h=>?_) (fun h=>?_)
         ·refine az<|rA J J<|rN<|ab.ret<|have h:=bx h dN;?_
          cases h
          exact hP J J
         ·refine tS<|ab.cut (fun aE=>∃ (zf:Bool),o9 n8 zf=some z1∧aE=⟨131,[(1,.ptr b1 0),(3,.ptr b2 0),(43,Qf aa.Device.kY),(44,I (aa.Device.kY.length:Int)),(45,I n8),(70,.bool zf)],[(b1,.cells (DH aa)),(b2,.cells (XB aa.Device))]⟩) ?_ ?_
          ·refine tR<|rF J J J<|rL J J .p2 J J<|ae.qv (fC J J) J<|rM J J<|gF h J J J (fun h=>?_) (fun h=>?_)
           ·refine rF J J J<|rY J J J<|rL J J .p2 J J<|rY J J J<|ax h fun B3 e7 h=>aH J (Pz e7) cR J<|rY J J J<|ae.qv (bF J) J<|rE J J J<|rM J J<|ae.guard J J J (fun hc=>?_) (fun hc=>?_)
            ·rw [GR hc] at h
             exact rF J J J<|rY J J J<|rL J J .p2 J J<|rY J J J<|ae.qv (eS J) J<|rY J J J<|ae.qv (cS J J) J<|rE J J J<|rA J J<|rN<|ab.stop<|aj.lq [0,0] ⟨decide ((100:Int) < (v9.Value.length:Int)),h,J⟩ J J
            ·rw [GQ hc] at h
             exact rG J J J J<|rG J J J J<|rG J J J J<|rT J J J<|rA J J<|rN<|ab.stop<|aj.lq [0,0] ⟨true,h,J⟩ J J
           ·exact rG J J J J<|rG J J J J<|rG J J J J<|rT J J J<|rM J J<|rG J J J J<|rG J J J J<|rG J J J J<|rG J J J J<|rT J J J<|rA J J<|rN<|ab.stop<|aj.lq [0,0] ⟨true,h,J⟩ J J
          ·rintro aE ⟨zf,h,rfl⟩
           unfold o9 at h
           refine cB h J (fun h=>?_) (fun h=>?_)
           ·refine az<|rA J J<|rN<|ab.ret<|have h:=bx h dN;?_
            cases h
            exact hP J J
           ·refine tK<|ab.bX<|ab.bX<|tR<|ae.qv (bf J J) J<|rM J J<|rN<|ab.stop<|?_
            cases h
            exact im _ _ J<|aj.lq [0,0] J J J
      ·refine ab.exit J<|have h:=bx h dN;?_
       unfold vE at h
       refine tS<|az<|rF J J J<|rL J J .p0 J J<|ae.qv (bB J) J<|ae.qv (cS J J) J<|rN<|cD h J (fun h=>?_) (fun h=>?_)
       ·refine az<|rA J J<|rN<|ab.ret<|?_
        cases h
        exact hP J J
       ·refine tK<|tS<|az<|rF J J J<|rL J J .p0 J J<|ae.qv (bB J) J<|rM J J<|rN<|ab.block<|ab.bO (fun x:Int=>ml aa x) (fun x aE=>aE=⟨131,[(1,.ptr b1 0),(92,Qg aa.eG),(93,I (aa.eG.length:Int)),(94,I x)],[(b1,.cells (DH aa))]⟩) h ?_ ?_
        ·exact aj.lq [0] J J J
        ·intro n17 z2 aE J2 dh h ya tY
         obtain rfl:=dh
         replace h:ml aa n17=some z2:=h
         unfold ml at h
         refine az<|ae.qv (br J J) J<|rN<|tS<|cD h J (fun h=>?_) (fun h=>?_)
         ·refine tK<|tS<|ab.block<|az<|rM J J<|ax h fun oH e8 h=>ae.qv (aS J J J e8 J J) J<|ae.qv (aM J J J) J<|bu J J J J fun Qk=>rA J J<|ay J J J J .p0 J J<|rN<|ab.block<|az<|rF J J J<|rL J J .p0 J J<|ax h fun v20 e9 h=>aH J (Cn e9) cR J<|ae.qv (bF J) J<|rA J J<|rN<|cB h J (fun h=>?_) (fun h=>?_)
          ·refine az<|rA J J<|rN<|ab.ret<|have h:=bx h tY;?_
           cases h
           exact hP J J
          ·refine tS<|ab.cut (fun aE=>∃ (c21:Bool),mj n17 oH c21=some z2∧aE=⟨131,[(1,.ptr b1 0),(7,.ptr Qk 0),(92,Qg aa.eG),(93,I (aa.eG.length:Int)),(94,I n17),(104,.bool c21)],[(b1,.cells (DH aa)),(Qk,.cells (cE7 oH))]⟩) ?_ ?_
           ·refine ab.cA (id:=25) (A:=[0,1,3,7,15,7,39,7,135,487,999,2023,4095,8191,16383]) 15 mixed J (by kernel_rfl) (by kernel_rfl)<|AM.qv (aO J) J<|AM.qv (cS J J) J<|AM.qv (aO J) J<|AM.cq J J J (fun hc=>?_) (fun hc=>?_)
            ·exact have h:=hZ hc h;AM.qv (ar J J) J<|AM.an J J J<|AM.qv (aD J J .p0 J) J<|AM.an J J J<|AM.qv (ar J J) J<|AM.an J J J<|AM.qv (aD J J .p1 J) J<|AM.an J J J<|AM.qv (aO J) J<|AM.an J J J<|AM.qv (fm J J) J<|AM.an J J J<|ax h fun v22 Am h=>AM.qv (aS J J J Am J J) J<|AM.an J J J<|AM.qv (bY J J) J<|AM.an J J J<|AM.qv (aJ J J J) J<|AM.an J J J<|AM.qv (od J J) J<|AM.qv (cQ J J) J<|AM.qv (bR J) J<|AM.nil<|rN<|ab.stop<|aj.lq [1,0] ⟨Op.bytesLess oH.Name v22.Name||oH.Name==v22.Name,h,J⟩ J J
            ·exact have h:=wM hc h;AM.al J J J J<|AM.al J J J J<|AM.al J J J J<|AM.al J J J J<|AM.al J J J J<|AM.al J J J J<|AM.al J J J J<|AM.al J J J J<|AM.al J J J J<|AM.qv (eE J J) J<|AM.qv (bR J) J<|AM.nil<|rN<|ab.stop<|aj.lq [1,0] ⟨false,h,J⟩ J J
           ·rintro aE ⟨c21,h,rfl⟩
            unfold mj at h
            refine cB h J (fun h=>?_) (fun h=>?_)
            ·refine az<|rA J J<|rN<|ab.ret<|have h:=bx h tY;?_
             cases h
             exact hP J J
            ·refine tS<|ab.cut (fun aE=>∃ (c23:Bool),sy n17 c23=some z2∧aE=⟨131,[(1,.ptr b1 0),(92,Qg aa.eG),(93,I (aa.eG.length:Int)),(94,I n17),(119,.bool c23)],[(b1,.cells (DH aa))]⟩) ?_ ?_
             ·refine tR<|rF J J J<|ae.qv (aY J J .p1 J J) J<|ax h fun v24 Bf h=>aH J (zo Bf) cR J<|ae.qv (bF J) J<|rM J J<|ae.guard J J J (fun hc=>?_) (fun hc=>?_)
              ·rw [GR hc] at h
               exact rF J J J<|rY J J J<|rF J J J<|rY J J J<|rL J J .p1 J J<|rY J J J<|ae.qv (cx J J) J<|rE J J J<|rA J J<|rN<|ab.stop<|aj.lq [0] ⟨decide (oH.Value.Kind=(0:Int)),h,J⟩ J J
              ·rw [GQ hc] at h
               exact rG J J J J<|rG J J J J<|rG J J J J<|rT J J J<|rA J J<|rN<|ab.stop<|aj.lq [0] ⟨true,h,J⟩ J J
             ·rintro aE ⟨c23,h,rfl⟩
              unfold sy at h
              refine cB h J (fun h=>?_) (fun h=>?_)
              ·refine az<|rA J J<|rN<|ab.ret<|have h:=bx h tY;?_
               cases h
               exact hP J J
              ·refine tK<|ab.bX<|ab.bX<|tR<|ae.qv (bf J J) J<|rM J J<|rN<|ab.stop<|?_
               cases h
               exact ya _ _ J<|aj.lq [0] J J J
         ·refine ab.exit J<|have h:=bx h tY;az<|rA J J<|rN<|ab.ret<|?_
          cases h
          exact hP J J
theorem F5 {aa:List aL} {r:Int} (h:lx aa=some r):Pu Tryz.prog 26 [wb aa] (I r):=by
 unfold lx at h
 refine aI.aZ Tryz.func26 J Tryz.ntmps26 Tryz.results26 J J ?_
 refine az<|rA J J<|rN<|tS<|az<|rM J J<|ae.qv (bB J) J<|ae.qv (cS J J) J<|rN<|cD h J (fun h=>?_) (fun h=>?_)
 ·refine az<|rA J J<|rN<|ab.ret<|?_
  cases h
  exact hP J J
 ·refine tK<|tS<|az<|rM J J<|ae.qv (bB J) J<|rM J J<|rN<|ab.block<|ab.bO (fun x:Int=>kR aa x) (fun x aE=>aE=⟨37,[(0,wb aa),(9,wb aa),(10,I (aa.length:Int)),(11,I x)],[]⟩) h ?_ ?_
  ·exact aj.lq [] J J J
  ·intro n2 z1 aE J1 dh h im dN
   obtain rfl:=dh
   replace h:kR aa n2=some z1:=h
   unfold kR at h
   refine az<|ae.qv (br J J) J<|rN<|tS<|cD h J (fun h=>?_) (fun h=>?_)
   ·refine tK<|tS<|ab.block<|az<|rM J J<|ax h fun v3 e1 h=>ae.qv (aS J J J e1 J J) J<|ae.qv (aM J J J) J<|bu J J J J fun b4=>rA J J<|ay J J J J .p0 J J<|rN<|tS<|az<|ae.qv (aA J J .p0 J) J<|ax h fun v5 e2 h=>aH J (Hc e2) cR J<|rA J J<|rN<|az<|rM J J<|ae.qv (ei J J) J<|rN<|cD h J (fun h=>?_) (fun h=>?_)
    ·refine az<|rM J J<|rA J J<|rN<|ab.ret<|have h:=bx h dN;?_
     cases h
     exact hP J J
    ·refine tK<|tS<|ab.cut (fun aE=>∃ (c6:Bool),qK n2 c6=some z1∧aE=⟨37,[(0,wb aa),(9,wb aa),(10,I (aa.length:Int)),(11,I n2),(35,.bool c6)],[]⟩) ?_ ?_
     ·refine ab.cA (id:=9) (A:=[0,1,3,7,15,31,7,7,135,455,967,1991,4039,8191,16383]) 15 mixed J (by kernel_rfl) (by kernel_rfl)<|AM.qv (aO J) J<|AM.qv (cS J J) J<|AM.qv (aO J) J<|AM.cq J J J (fun hc=>?_) (fun hc=>?_)
      ·exact have h:=hZ hc h;AM.qv (ar J J) J<|AM.an J J J<|AM.qv (ar J J) J<|AM.an J J J<|AM.qv (aD J J .p0 J) J<|AM.an J J J<|AM.qv (aO J) J<|AM.an J J J<|AM.qv (aO J) J<|AM.an J J J<|AM.qv (fm J J) J<|AM.an J J J<|ax h fun v7 e3 h=>AM.qv (aS J J J e3 J J) J<|AM.an J J J<|AM.qv (bY J J) J<|AM.an J J J<|AM.qv (bY J J) J<|AM.an J J J<|AM.qv (aJ J J J) J<|AM.an J J J<|AM.qv (od J J) J<|AM.qv (cQ J J) J<|AM.nil<|rN<|ab.stop<|aj.lq [] ⟨Op.bytesLess v3.Device.Key v7.Device.Key||v3.Device.Key==v7.Device.Key,h,J⟩ J J
      ·exact have h:=wM hc h;AM.al J J J J<|AM.al J J J J<|AM.al J J J J<|AM.al J J J J<|AM.al J J J J<|AM.al J J J J<|AM.al J J J J<|AM.al J J J J<|AM.al J J J J<|AM.al J J J J<|AM.qv (eE J J) J<|AM.nil<|rN<|ab.stop<|aj.lq [] ⟨false,h,J⟩ J J
     ·rintro aE ⟨c6,h,rfl⟩
      unfold qK at h
      refine cB h J (fun h=>?_) (fun h=>?_)
      ·refine az<|rA J J<|rN<|ab.ret<|have h:=bx h dN;?_
       cases h
       exact hP J J
      ·refine tK<|ab.bX<|tR<|ae.qv (bf J J) J<|rM J J<|rN<|ab.stop<|?_
       cases h
       exact im _ _ J<|aj.lq [] J J J
   ·refine ab.exit J<|have h:=bx h dN;az<|rA J J<|rN<|ab.ret<|?_
    cases h
    exact hP J J
theorem sP [GI:bD] {ak:Int} {r:(List ai)} (h:ec ak=some r):aI Tryz.prog 241 [.nil,I ak] [] (T1 (fun kK=>[(kK,vF r)]) (fun kK=>.sl 1 kK 0 r.length)):=by
 unfold ec at h
 refine aI.fD ?_
 refine aI.aZ Tryz.func241 J Tryz.ntmps241 Tryz.results241 J J ?_
 refine az<|rA J J<|rN<|tS<|az<|rM J J<|ae.qv (br J J) J<|rN<|cD h J (fun h=>?_) (fun h=>?_)
 ·refine tR<|?_
  cases h
 ·refine tK<|tS<|az<|rM J J<|rM J J<|ae.qv (HI J) J<|rM J J<|ae.qv (Hr J) J<|ae.qv (fm J J) J<|ae.qv (fm J J) J<|rA J J<|rN<|az<|rM J J<|ae.qv (cS J J) J<|rN<|ab.cut (fun aE=>∃ (b1:Bk) (l2:List ai),dM l2=some r∧aE=⟨27,[(0,.sl 1 b1 0 l2.length)],[(b1,vF l2)]⟩) ?_ ?_
  ·refine cD h J (fun h=>?_) (fun h=>?_)
   ·exact tR<|rM J J<|rM J J<|ae.qv (HI J) J<|ax h fun l3 e1 h=>ae.qv (Kv J .none (.some _ _ _ J) J J e1) J<|rM J J<|ax h fun l4 e2 h=>O2 (g:=AV.str) (Z:=[]) J J J J J J J J J e2 fun b5=>rM J J<|ae.qv (Hr J) J<|ax h fun l6 e3 h=>ae.qv (sZ J J .none (.some _ _ _ J) J J e3) J<|rA J J<|ae.ghost<|aj.Re e3 .p0<|aj.here<|rN<|ab.stop<|aj.lq [0] ⟨b5,l6,h,J⟩ J J
   ·exact tK<|ab.stop<|aj.arr (s:=0) 1 J fun b7=>aj.lq [0] ⟨b7,[],h,J⟩ J J
  ·rintro aE ⟨b1,l2,h,rfl⟩
   unfold dM at h
   refine az<|rM J J<|rA J J<|rN<|ab.ret<|?_
   cases h
   exact hH J [0] J ⟨b1,J,J⟩
theorem uD [GI:bD] {aa:List (List ai)} {r:(List ai)} (h:eQ aa=some r):aI Tryz.prog 169 [U1 aa] [] (T1 (fun kK=>[(kK,vF r)]) (fun kK=>.sl 1 kK 0 r.length)):=by
 unfold eQ at h
 refine aI.fD ?_
 refine aI.aZ Tryz.func169 J Tryz.ntmps169 Tryz.results169 J J ?_
 refine az<|rA J J<|rN<|az<|rA J J<|rN<|tS<|az<|rM J J<|ae.qv (bB J) J<|rM J J<|rN<|ab.block<|ab.bO (fun x:Int×Int=>cI aa x.1 x.2) (fun x aE=>aE=⟨36,[(0,U1 aa),(3,I x.1),(9,U1 aa),(10,I (aa.length:Int)),(11,I x.2)],[]⟩) h ?_ ?_
 ·exact aj.lq [] J J J
 ·intro x z1 aE J1 dh h im dN
  obtain ⟨n3,n4⟩:=x
  obtain rfl:=dh
  replace h:cI aa n3 n4=some z1:=h
  unfold cI at h
  refine az<|ae.qv (br J J) J<|rN<|tS<|cD h J (fun h=>?_) (fun h=>?_)
  ·refine tK<|tS<|ab.block<|az<|ax h fun v5 e1 h=>ae.qv (aS J J J e1 J J) J<|ae.qv (aJ J J J) J<|rA J J<|rN<|az<|rM J J<|rM J J<|ae.qv (bB J) J<|ae.qv (bf J J) J<|rA J J<|rN<|az<|rM J J<|ae.qv (br J J) J<|rN<|cD h J (fun h=>?_) (fun h=>?_)
   ·refine tR<|?_
    cases h
   ·refine tK<|ab.bX<|tR<|ae.qv (bf J J) J<|rM J J<|rN<|ab.stop<|?_
    cases h
    exact im _ _ J<|aj.lq [] J J J
  ·refine ab.exit J<|have h:=bx h dN;?_
   unfold iF at h
   refine az<|rM J J<|ax h fun v6 e2 h=>fV J (sP e2) cR .nil (fun _=>J) J fun b7=>rA J J<|rN<|tS<|az<|rM J J<|ae.qv (bB J) J<|rM J J<|rN<|ab.block<|ab.bO (fun x:(List ai)×Int=>bJ aa x.1 x.2) (fun x aE=>∃ (Bg:Bk),aE=⟨36,[(6,.sl 1 Bg 0 x.1.length),(25,U1 aa),(26,I (aa.length:Int)),(27,I x.2)],[(Bg,vF x.1)]⟩) h ?_ ?_
   ·exact aj.lq [0] ⟨b7,J⟩ J J
   ·intro x z2 aE J2 dh h ya tY
    obtain ⟨yG,n13⟩:=x
    obtain ⟨Bg,rfl⟩:=dh
    replace h:bJ aa yG n13=some z2:=h
    unfold bJ at h
    refine az<|ae.qv (br J J) J<|rN<|tS<|cD h J (fun h=>?_) (fun h=>?_)
    ·refine tK<|tS<|ab.block<|az<|ax h fun rl e3 h=>ae.qv (aS J J J e3 J J) J<|ae.qv (aJ J J J) J<|rA J J<|rN<|tR<|rM J J<|rM J J<|ax h fun sK e4 h=>cU (g:=AV.str) J J J J J J J J (.list _) e4 (fun _=>.p0) J fun Oa=>rA J J<|rN<|ab.bX<|tR<|ae.qv (bf J J) J<|rM J J<|rN<|ab.stop<|?_
     cases h
     exact ya _ _ J<|aj.lq [0] ⟨Oa,J⟩ J J
    ·refine ab.exit J<|have h:=bx h tY;az<|rM J J<|rA J J<|rN<|ab.ret<|?_
     cases h
     exact hH J [0] J ⟨Bg,J,J⟩
theorem Bi {aa:ai} {r:Bool} (h:jW aa=some r):Pu Tryz.prog 170 [.str aa] (.bool r):=by
 unfold jW at h
 refine aI.aZ Tryz.func170 J Tryz.ntmps170 Tryz.results170 J J ?_
 refine az<|rA J J<|rN<|az<|rM J J<|ax h fun v1 e1 h=>aH J (zk e1) cR J<|ae.qv (bF J) J<|rA J J<|rN<|ab.ret<|?_
 cases h
 exact hP J J
theorem yf [GI:bD] {aa:ai} {ak:List ai} {r:Bool} (h:gp aa ak=some r):Pu Tryz.prog 242 [.str aa,.mG [gz ak]] (.bool r):=by
 unfold gp at h
 refine aI.aZ Tryz.func242 J Tryz.ntmps242 Tryz.results242 J J ?_
 refine az<|rA J J<|rN<|az<|ae.qv (aJ J J J) J<|rM J J<|ax h fun v1 e1 h=>aH J (tv e1) cR J<|ae.qv (bF J) J<|rA J J<|rN<|ab.ret<|?_
 cases h
 exact hP J J
theorem As [GI:bD] {aa:List ai} {ak:List ai} {r:Bool} (h:ly aa ak=some r):Pu Tryz.prog 172 [gz aa,gz ak] (.bool r):=by
 unfold ly at h
 refine aI.aZ Tryz.func172 J Tryz.ntmps172 Tryz.results172 J J ?_
 refine az<|cJ J J J J fun b1=>rA J J<|rN<|az<|rM J J<|ae.qv (iv J) J<|ax h fun v2 e1 h=>eF J (bV (fun e=>yf e) e1) (.cons (.co (.refl _)) (.cons (.xf _ _ _ (.cons (.BM _ _ _ .p0 (.cons (.co (.refl _)) .nil)) .nil)) .nil)) J J<|ae.qv (bF J) J<|rA J J<|rN<|ab.ret<|?_
 cases h
 exact hP J J
theorem Et {aa:List ai} {ak:List ai} {r:Bool×Int} (h:qq aa ak=some r):Pu Tryz.prog 88 [gz aa,gz ak] (.pT [.bool r.1,I r.2]):=by
 unfold qq at h
 refine aI.aZ Tryz.func88 J Tryz.ntmps88 Tryz.results88 J J ?_
 refine az<|rA J J<|rA J J<|rN<|tS<|az<|rM J J<|rM J J<|aF (xs:=([aa,ak]:List (List ai)).map (A6 1 AV.str)) J J J J J J<|ax h fun v1 e1 h=>fV J (uD e1) cR .nil (fun _=>J) J fun b2=>ax h fun v3 e2 h=>eF J (bV (fun e=>Bi e) e2) (.cons (w7.wN .p0) (.cons (.xf _ _ _ .nil) .nil)) J J<|rN<|cB h J (fun h=>?_) (fun h=>?_)
 ·refine az<|rA J J<|rA J J<|rN<|ab.ret<|?_
  cases h
  exact hQ J J J
 ·refine tK<|tS<|tS<|ab.cut (fun aE=>∃ (c4:Bool),pK aa ak c4=some r∧aE=⟨22,[(0,gz aa),(1,gz ak),(18,.bool c4)],[]⟩) ?_ ?_
  ·refine tR<|rM J J<|ae.qv (bB J) J<|ae.qv (cS J J) J<|rM J J<|ae.dC J J J (fun hc=>?_) (fun hc=>?_)
   ·rw [yW hc] at h
    exact rM J J<|rY J J J<|ae.qv (bB J) J<|rY J J J<|ae.qv (cS J J) J<|rE J J J<|rN<|ab.stop<|aj.lq [] ⟨decide ((50:Int) < (ak.length:Int)),h,J⟩ J J
   ·rw [yV hc] at h
    exact rG J J J J<|rG J J J J<|rT J J J<|rN<|ab.stop<|aj.lq [] ⟨true,h,J⟩ J J
  ·rintro aE ⟨c4,h,rfl⟩
   unfold pK at h
   refine cB h J (fun h=>?_) (fun h=>?_)
   ·refine az<|rA J J<|rA J J<|rN<|ab.ret<|?_
    cases h
    exact hQ J J J
   ·refine tK<|az<|rM J J<|rM J J<|ax h fun v5 e3 h=>aH J (As e3) cR J<|rA J J<|rA J J<|rN<|ab.ret<|?_
    cases h
    exact hQ J J J
theorem Cp {r:Bool} (h:th=some r):Pu Tryz.prog 27 [] (.bool r):=by
 unfold th at h
 refine aI.aZ Tryz.func27 J Tryz.ntmps27 Tryz.results27 J J ?_
 refine az<|rA J J<|rN<|az<|aF (xs:=([([97,46,42]:ai)]).map AV.str) J J J J J J<|aF (xs:=([([97,46,98]:ai)]).map AV.str) J J J J J J<|ax h fun v1 e1 h=>aH J (Et e1) cR J<|rM J J<|rX J J J<|rX J J J<|rA J J<|rA J J<|rN<|tS<|ab.cut (fun aE=>∃ (c2:Bool),tX c2=some r∧aE=⟨14,[(0,.bool c2)],[]⟩) ?_ ?_
 ·refine tR<|rM J J<|ae.qv (cx J J) J<|rM J J<|ae.cq J J J (fun hc=>?_) (fun hc=>?_)
  ·rw [rQ hc] at h
   exact rM J J<|rT J J J<|rA J J<|rN<|ab.stop<|aj.lq [] ⟨v1.1,h,J⟩ J J
  ·rw [rR hc] at h
   exact rE J J J<|rA J J<|rN<|ab.stop<|aj.lq [] ⟨false,h,J⟩ J J
 ·rintro aE ⟨c2,h,rfl⟩
  unfold tX at h
  refine ab.ret<|?_
  cases h
  exact hP J J
theorem uO [GI:bD] {aa:List ai} {r:(List ai)} (h:gR aa=some r):aI Tryz.prog 240 [.list 1 (aa.map AV.str)] [] (T1 (fun kK=>[(kK,.arr 1 (r.map AV.str))]) (fun kK=>.sl 1 kK 0 r.length)):=by
 unfold gR at h
 refine aI.fD ?_
 refine aI.aZ Tryz.func240 J Tryz.ntmps240 Tryz.results240 J J ?_
 refine ab.seq ?_
 refine ab.region ?_
 refine ae.qv (bR J) J ?_
 refine ae.nil ?_
 refine ab.seq ?_
 refine ab.seq ?_
 refine ab.region ?_
 refine ae.qv (aO J) J ?_
 refine NM J J J J (fun c hc=>?_)
 refine ae.nil ?_
 refine ab.cond J (fun hT=>?_) (fun hF=>?_)
 ·obtain rfl:=BT h (List.map_eq_nil_iff.1 (hc hT))
  refine ab.seq ?_
  refine ab.region ?_
  refine ae.qv (bR J) J ?_
  refine ae.nil ?_
  refine ab.ret ?_
  refine aj.arr (s:=2) 1 J (fun b1=>?_)
  exact aj.here ⟨_,.cons (.tmp _ _ J) .nil,_,.cons .here .nil,⟨b1,J,J⟩⟩
 ·refine ab.skip ?_
  refine ab.seq ?_
  refine ab.region ?_
  refine rK (xs:=([]:List ai).map AV.str) J J J J J J (fun b2=>?_)
  refine ae.qv (aO J) J ?_
  refine cU (g:=AV.str) (Xs:=[]) J J J J J J J J (.list _) h (fun _=>.here) J (fun b3=>?_)
  refine ae.qv (bR J) J ?_
  refine ae.nil ?_
  refine ab.ret ?_
  exact aj.here ⟨_,.cons (.tmp _ _ J) .nil,_,.cons .here .nil,⟨b3,J,J⟩⟩
theorem Sf [GI:bD] {aa:List ai} {r:(List ai)} (h:I8 aa=some r):aI Tryz.prog 168 [gz aa] [] (T1 (fun kK=>[(kK,vF r)]) (fun kK=>.sl 1 kK 0 r.length)):=by
 unfold I8 at h
 refine aI.fD ?_
 refine aI.aZ Tryz.func168 J Tryz.ntmps168 Tryz.results168 J J ?_
 refine az<|rA J J<|rN<|az<|rM J J<|ax h fun v1 e1 h=>fV J (uO e1) cR .nil (fun _=>J) J fun b2=>rA J J<|rN<|az<|rM J J<|ax h fun v3 e2 h=>aR J (oE (rU e2)) cR (.cons .p0 .nil) J J<|ae.ghost<|aj.eqs (s:=0) (rz:=.sl 1 b2 0 v3.length) J (congrArg (AV.sl 1 b2 0) (kX e2))<|aj.here<|ae.ghost<|aj.eqs (s:=4) (rz:=.sl 1 b2 0 v3.length) J (congrArg (AV.sl 1 b2 0) (kX e2))<|aj.here<|ae.ghost<|aj.eqs (s:=5) (rz:=.sl 1 b2 0 v3.length) J (congrArg (AV.sl 1 b2 0) (kX e2))<|aj.here<|rN<|az<|rM J J<|ax h fun v4 e3 h=>fV J (mC e3) cR (.cons .p0 .nil) (fun _=>J) J fun b5=>rA J J<|rN<|ab.ret<|?_
 cases h
 exact hH J [0] J ⟨b5,J,J⟩
theorem Lh [GI:bD] {aa:List aW} {r:(List ai)} (h:xx aa=some r):aI Tryz.prog 86 [XC aa] [] (T1 (fun kK=>[(kK,vF r)]) (fun kK=>.sl 1 kK 0 r.length)):=by
 unfold xx at h
 refine aI.fD ?_
 refine aI.aZ Tryz.func86 J Tryz.ntmps86 Tryz.results86 J J ?_
 refine az<|rA J J<|rN<|az<|rA J J<|rN<|tS<|az<|rM J J<|ae.qv (bB J) J<|rM J J<|rN<|ab.block<|ab.bO (fun x:(List ai)×Int=>jG aa x.1 x.2) (fun x aE=>∃ (b4:Bk),aE=⟨30,[(3,.sl 1 b4 0 x.1.length),(8,XC aa),(9,I (aa.length:Int)),(10,I x.2)],[(b4,vF x.1)]⟩) h ?_ ?_
 ·exact aj.arr (s:=3) 1 J fun b7=>aj.lq [0] ⟨b7,J⟩ J J
 ·intro x z1 aE J1 dh h im dN
  obtain ⟨l5,n6⟩:=x
  obtain ⟨b4,rfl⟩:=dh
  replace h:jG aa l5 n6=some z1:=h
  unfold jG at h
  refine az<|ae.qv (br J J) J<|rN<|tS<|cD h J (fun h=>?_) (fun h=>?_)
  ·refine tK<|tS<|ab.block<|az<|ax h fun v8 e1 h=>ae.qv (aS J J J e1 J J) J<|ae.qv (aM J J J) J<|bu J J J J fun b9=>ay J J J J .p0 J J<|rN<|az<|rF J J J<|rL J J .p0 J J<|ae.qv (bB J) J<|rM J J<|rN<|ab.block<|ab.bO (fun x:(List ai)×Int=>jF n6 v8 x.1 x.2) (fun x aE=>∃ (JU:Bk),aE=⟨30,[(3,.sl 1 JU 0 x.1.length),(8,XC aa),(9,I (aa.length:Int)),(10,I n6),(15,w9 v8.aG),(16,I (v8.aG.length:Int)),(17,I x.2)],[(JU,vF x.1)]⟩) h ?_ ?_
   ·exact aj.lq [1] ⟨b4,J⟩ J J
   ·intro x z2 aE J2 dh h ya tY
    obtain ⟨B5,n15⟩:=x
    obtain ⟨JU,rfl⟩:=dh
    replace h:jF n6 v8 B5 n15=some z2:=h
    unfold jF at h
    refine az<|ae.qv (br J J) J<|rN<|tS<|cD h J (fun h=>?_) (fun h=>?_)
    ·refine tK<|tS<|ab.block<|az<|ax h fun pf e2 h=>ae.qv (aS J J J e2 J J) J<|ae.qv (aM J J J) J<|bu J J J J fun Qi=>ay J J J J .p0 J J<|rN<|tR<|rM J J<|rF J J J<|rL J J .p0 J J<|aF (xs:=([pf.ek]:List ai).map AV.str) J J J J J J<|ax h fun BA e3 h=>cU (g:=AV.str) J J J J J J J J (.list _) e3 (fun _=>.p1) J fun Qk=>rA J J<|rN<|ab.bX<|tR<|ae.qv (bf J J) J<|rM J J<|rN<|ab.stop<|?_
     cases h
     exact ya _ _ J<|aj.lq [1] ⟨Qk,J⟩ J J
    ·refine ab.exit J<|have h:=bx h tY;ab.bX<|tR<|ae.qv (bf J J) J<|rM J J<|rN<|ab.stop<|?_
     cases h
     exact im _ _ J<|aj.lq [0] ⟨JU,J⟩ J J
  ·refine ab.exit J<|have h:=bx h dN;?_
   unfold u6 at h
   refine az<|rM J J<|ax h fun v20 e4 h=>Fp J (Sf e4) .nil (.cons (w7.wN .p0) .nil) (fun _=>J) (fun _=>J) (fun _=>(.cons (V9.wN (fun _=>J)) .nil)) J fun TA=>rA J J<|rN<|ab.ret<|?_
   cases h
   exact hH J [0] J ⟨TA,J,J⟩
theorem Li [GI:bD] {aa:ai} {ak:ai} {r:Bool} (h:zR aa ak=some r):Pu Tryz.prog 166 [.str aa,.str ak] (.bool r):=by
 unfold zR at h
 refine aI.aZ Tryz.func166 J Tryz.ntmps166 Tryz.results166 J J ?_
 refine az<|rA J J<|rN<|az<|rM J J<|ax h fun v1 e1 h=>aH J (lX e1) cR J<|rM J J<|rX J J J<|rX J J J<|rA J J<|rA J J<|rN<|tS<|ab.cut (fun aE=>∃ (c2:Bool),sA c2=some r∧aE=⟨23,[(4,.bool c2)],[]⟩) ?_ ?_
 ·refine tR<|rM J J<|rM J J<|ae.qv (fC J J) J<|rM J J<|gF h J J J (fun h=>?_) (fun h=>?_)
  ·refine rM J J<|rY J J J<|rM J J<|ae.guard J J J (fun hc=>?_) (fun hc=>?_)
   ·exact have h:=hZ hc h;rM J J<|rY J J J<|rM J J<|rY J J J<|ax h fun v3 e2 h=>aH J (lY e2) cR J<|rY J J J<|rT J J J<|rE J J J<|rA J J<|rN<|ab.stop<|aj.lq [] ⟨v3,h,J⟩ J J
   ·exact have h:=ir hc h;rG J J J J<|rG J J J J<|rY J J J<|rE J J J<|rE J J J<|rA J J<|rN<|ab.stop<|aj.lq [] ⟨false,h,J⟩ J J
  ·exact rG J J J J<|ae.bz J J J<|ae.bz J J J<|ae.bz J J J<|rG J J J J<|rT J J J<|rA J J<|rN<|ab.stop<|aj.lq [] ⟨true,h,J⟩ J J
 ·rintro aE ⟨c2,h,rfl⟩
  unfold sA at h
  refine ab.ret<|?_
  cases h
  exact hP J J
theorem Au [GI:bD] {aa:ai} {ak:ai} {r:Bool} (h:ji aa ak=some r):Pu Tryz.prog 165 [.str aa,.mG [.str ak]] (.bool r):=by
 unfold ji at h
 refine aI.aZ Tryz.func165 J Tryz.ntmps165 Tryz.results165 J J ?_
 refine az<|rA J J<|rN<|az<|rM J J<|ae.qv (aJ J J J) J<|ax h fun v1 e1 h=>aH J (Li e1) cR J<|rA J J<|rN<|ab.ret<|?_
 cases h
 exact hP J J
theorem De [GI:bD] {aa:ai} {ak:List ai} {r:Bool} (h:mr aa ak=some r):Pu Tryz.prog 164 [.str aa,.mG [gz ak]] (.bool r):=by
 unfold mr at h
 refine aI.aZ Tryz.func164 J Tryz.ntmps164 Tryz.results164 J J ?_
 refine az<|cJ J J J J fun b1=>rA J J<|rN<|az<|ae.qv (aJ J J J) J<|ae.qv (iv J) J<|ax h fun v2 e1 h=>eF J (bV (fun e=>Au e) e1) (.cons (.co (.refl _)) (.cons (.xf _ _ _ (.cons (.BM _ _ _ .p0 (.cons (.co (.refl _)) .nil)) .nil)) .nil)) J J<|ae.qv (bF J) J<|rA J J<|rN<|ab.ret<|?_
 cases h
 exact hP J J
theorem AN [GI:bD] {aa:List ai} {ak:List ai} {r:Bool} (h:rf aa ak=some r):Pu Tryz.prog 83 [gz aa,gz ak] (.bool r):=by
 unfold rf at h
 refine aI.aZ Tryz.func83 J Tryz.ntmps83 Tryz.results83 J J ?_
 refine az<|cJ J J J J fun b1=>rA J J<|rN<|az<|rM J J<|ae.qv (iv J) J<|ax h fun v2 e1 h=>eF J (bV (fun e=>De e) e1) (.cons (.co (.refl _)) (.cons (.xf _ _ _ (.cons (.BM _ _ _ .p0 (.cons (.co (.refl _)) .nil)) .nil)) .nil)) J J<|ae.qv (bF J) J<|rA J J<|rN<|ab.ret<|?_
 cases h
 exact hP J J
theorem yA [GI:bD] {aa:aW} {ak:ai} {aP:ai} {aX:ai} {r:(List Int)} (h:nZ aa ak aP aX=some r):aI Tryz.prog 81 [aW.av aa,.str ak,.str aP,.str aX] [] (T1 (fun kK=>[(kK,MU r)]) (fun kK=>.sl 1 kK 0 r.length)):=by
 unfold nZ at h
 refine aI.fD ?_
 refine aI.aZ Tryz.func81 J Tryz.ntmps81 Tryz.results81 J J ?_
 refine az<|cJ J J J J fun b1=>rA J J<|rN<|az<|rA J J<|rN<|tS<|az<|ae.qv (aA J J .p0 J) J<|rM J J<|ax h fun v2 e1 h=>aH J (lB e1) cR J<|ae.qv (br J J) J<|rN<|cD h J (fun h=>?_) (fun h=>?_)
 ·refine az<|rA J J<|rN<|ab.ret<|?_
  cases h
  exact aj.arr (s:=8) 1 J fun b3=>aj.here ⟨_,.cons (.tmp _ _ J) .nil,_,.cons .p0 .nil,⟨b3,J,J⟩⟩
 ·refine tK<|tS<|az<|rF J J J<|rL J J .p0 J J<|ae.qv (bB J) J<|rM J J<|rN<|ab.block<|ab.bO (fun x:(List Int)×Int=>jX aa ak aP aX x.1 x.2) (fun x aE=>∃ (b7:Bk),aE=⟨56,[(1,.str ak),(2,.str aP),(3,.str aX),(4,.ptr b1 0),(9,.sl 1 b7 0 x.1.length),(17,w9 aa.aG),(18,I (aa.aG.length:Int)),(19,I x.2)],[(b1,.cells (wg aa)),(b7,MU x.1)]⟩) h ?_ ?_
  ·exact aj.arr (s:=9) 1 J fun GH=>aj.lq [1,0] ⟨GH,J⟩ J J
  ·intro x z1 aE J1 dh h im dN
   obtain ⟨l8,n9⟩:=x
   obtain ⟨b7,rfl⟩:=dh
   replace h:jX aa ak aP aX l8 n9=some z1:=h
   unfold jX at h
   refine az<|ae.qv (br J J) J<|rN<|tS<|cD h J (fun h=>?_) (fun h=>?_)
   ·refine tK<|tS<|ab.block<|az<|rM J J<|ax h fun v11 e2 h=>ae.qv (aS J J J e2 J J) J<|ae.qv (aM J J J) J<|bu J J J J fun Le=>rA J J<|ay J J J J .p0 J J<|rN<|tS<|ab.cut (fun aE=>∃ (D8:Bool),iG l8 n9 D8=some z1∧aE=⟨56,[(1,.str ak),(2,.str aP),(3,.str aX),(4,.ptr b1 0),(9,.sl 1 b7 0 l8.length),(10,I n9),(17,w9 aa.aG),(18,I (aa.aG.length:Int)),(19,I n9),(49,.bool D8)],[(b1,.cells (wg aa)),(b7,MU l8)]⟩) ?_ ?_
    ·refine ab.cA (id:=7) (A:=[0,1,0,7,15,31,31,127,31,287,1023,2047,4095,8191,16383,8191,8191,73727,237567,524287,1048575,2097151,8191,4202495,16777215,33554431]) 26 mixed J (by kernel_rfl) (by kernel_rfl)<|AM.qv (ar J J) J<|AM.qv (aD J J .p0 J) J<|AM.qv (aO J) J<|AM.qv (fC J J) J<|AM.qv (aO J) J<|AM.cq J J J (fun hc=>?_) (fun hc=>?_)
     ·refine have h:=hZ hc h;AM.qv (aA J J .p1 J) J<|AM.an J J J<|AM.qv (aO J) J<|AM.an J J J<|ax h fun rl e3 h=>AM.cT J (vN e3) cR J<|AM.an J J J<|AM.qv (ar J J) J<|AM.an J J J<|AM.qv (aD J J .p0 J) J<|AM.an J J J<|ax h fun B3 e4 h=>AM.cT J (bt e4) cR J<|AM.qv (cQ J J) J<|AM.qv (aO J) J<|AM.guard J J J (fun hc=>?_) (fun hc=>?_)
      ·exact have h:=hZ hc h;AM.qv (ar J J) J<|AM.an J J J<|AM.qv (aD J J .p1 J) J<|AM.an J J J<|AM.qv (aA J J .p1 J) J<|AM.an J J J<|AM.qv (ar J J) J<|AM.an J J J<|AM.qv (aD J J .p0 J) J<|AM.an J J J<|ax h fun pf e5 h=>AM.cT J (FX e5) cR J<|AM.an J J J<|ax h fun v17 e6 h=>AM.qv (aS J J J e6 J J) J<|AM.an J J J<|AM.qv (bY J J) J<|AM.an J J J<|AM.qv (aJ J J J) J<|AM.an J J J<|AM.qv (aO J) J<|AM.an J J J<|AM.a8 (xs:=([aP]:List ai).map AV.str) J J J J J J<|AM.an J J J<|ax h fun oH e7 h=>AM.cT J (AN e7) cR J<|AM.qv (cQ J J) J<|AM.nil<|rN<|ab.stop<|aj.lq [1,1] ⟨oH,h,J⟩ J J
      ·exact have h:=ir hc h;AM.al J J J J<|AM.al J J J J<|AM.al J J J J<|AM.al J J J J<|AM.al J J J J<|AM.al J J J J<|AM.al J J J J<|AM.al J J J J<|AM.al J J J J<|AM.al J J J J<|AM.al J J J J<|AM.qv (eE J J) J<|AM.nil<|rN<|ab.stop<|aj.lq [1,1] ⟨false,h,J⟩ J J
     ·exact have h:=wM hc h;AM.al J J J J<|AM.al J J J J<|AM.al J J J J<|AM.al J J J J<|AM.al J J J J<|AM.qv (eE J J) J<|AM.qv (aO J) J<|AM.al J J J J<|AM.al J J J J<|AM.al J J J J<|AM.al J J J J<|AM.al J J J J<|AM.al J J J J<|AM.al J J J J<|AM.al J J J J<|AM.al J J J J<|AM.al J J J J<|AM.al J J J J<|AM.al J J J J<|AM.qv (eE J J) J<|AM.nil<|rN<|ab.stop<|aj.lq [1,1] ⟨false,h,J⟩ J J
    ·rintro aE ⟨D8,h,rfl⟩
     unfold iG at h
     refine ab.cut (fun aE=>∃ (Qk:Bk) (CL:List Int),mu n9 CL=some z1∧aE=⟨56,[(1,.str ak),(2,.str aP),(3,.str aX),(4,.ptr b1 0),(9,.sl 1 Qk 0 CL.length),(17,w9 aa.aG),(18,I (aa.aG.length:Int)),(19,I n9)],[(b1,.cells (wg aa)),(Qk,MU CL)]⟩) ?_ ?_
     ·refine cB h J (fun h=>?_) (fun h=>?_)
      ·exact tR<|rM J J<|rM J J<|aF (xs:=([n9]:List Int).map I) J J J J J J<|ax h fun JP e8 h=>cU (g:=I) J J J J J J J J (.list _) e8 (fun _=>.p1) J fun Px=>rA J J<|rN<|ab.stop<|aj.lq [0,0] ⟨Px,JP,h,J⟩ J J
      ·exact tK<|ab.stop<|aj.lq [0,0] ⟨b7,l8,h,J⟩ J J
     ·rintro aE ⟨Qk,CL,h,rfl⟩
      unfold mu at h
      refine ab.bX<|tR<|ae.qv (bf J J) J<|rM J J<|rN<|ab.stop<|?_
      cases h
      exact im _ _ J<|aj.lq [0,0] ⟨Qk,J⟩ J J
   ·refine ab.exit J<|have h:=bx h dN;az<|rM J J<|rA J J<|rN<|ab.ret<|?_
    cases h
    exact hH J [1] J ⟨b7,J,J⟩
theorem yK [GI:bD] {self:Query→aL→Option Bool} (kJ:∀ {aa:Query} {ak:aL} {r:Bool},self aa ak=some r→Pu Tryz.prog 82 [.agg [I aa.Kind,.str aa.Field,.str aa.Op,I aa.Value.Kind,.bool aa.Value.ch,I aa.Value.Number,.str aa.Value.Words,I aa.Version.bP,I aa.Version.bQ,I aa.Version.bL,pb aa.Kids],aL.av ak] (.bool r)) {aa:Query} {ak:aL} {aP:Bool} {r:Bool} (h:jz self aa ak aP=some r):Pu Tryz.prog 160 [.agg [I aa.Kind,.str aa.Field,.str aa.Op,I aa.Value.Kind,.bool aa.Value.ch,I aa.Value.Number,.str aa.Value.Words,I aa.Version.bP,I aa.Version.bQ,I aa.Version.bL,pb aa.Kids],.mG [.str ak.Device.Key,.str ak.Device.Model,.str ak.Device.au,I ak.Device.ff.bP,I ak.Device.ff.bQ,I ak.Device.ff.bL,Qf ak.Device.kY,Qg ak.eG],.mG [.bool aP]] (.bool r):=by
 unfold jz at h
 refine aI.aZ Tryz.func160 J Tryz.ntmps160 Tryz.results160 J J ?_
 refine az<|cJ J J J J fun b1=>rA J J<|rN<|tS<|ab.cA (id:=1) (A:=[0,0,3,0,15,31]) 6 mixed J (by kernel_rfl) (by kernel_rfl)<|AM.qv (aA J J .p0 J) J<|AM.qv (aM J J J) J<|ax h fun v2 e1 h=>AM.cT J (kJ e1) cR J<|AM.qv (aJ J J J) J<|AM.qv (Ny J J) J<|AM.qv (bR J) J<|AM.nil<|rN<|ab.ret<|?_
 cases h
 exact hP J J
theorem vP [GI:bD] {self:Query→aL→Option Bool} (kJ:∀ {aa:Query} {ak:aL} {r:Bool},self aa ak=some r→Pu Tryz.prog 82 [.agg [I aa.Kind,.str aa.Field,.str aa.Op,I aa.Value.Kind,.bool aa.Value.ch,I aa.Value.Number,.str aa.Value.Words,I aa.Version.bP,I aa.Version.bQ,I aa.Version.bL,pb aa.Kids],aL.av ak] (.bool r)) {aa:Bool} {ak:Query} {aP:aL} {r:Bool} (h:jY self aa ak aP=some r):Pu Tryz.prog 158 [.bool aa,.mG [I ak.Kind,.str ak.Field,.str ak.Op,I ak.Value.Kind,.bool ak.Value.ch,I ak.Value.Number,.str ak.Value.Words,I ak.Version.bP,I ak.Version.bQ,I ak.Version.bL,pb ak.Kids],.mG [.str aP.Device.Key,.str aP.Device.Model,.str aP.Device.au,I aP.Device.ff.bP,I aP.Device.ff.bQ,I aP.Device.ff.bL,Qf aP.Device.kY,Qg aP.eG]] (.bool r):=by
 unfold jY at h
 refine aI.aZ Tryz.func158 J Tryz.ntmps158 Tryz.results158 J J ?_
 refine az<|cJ J J J J fun b1=>rA J J<|rN<|az<|ae.qv (bY J J) J<|ae.qv (aJ J J J) J<|ae.qv (iv J) J<|ax h fun v2 e1 h=>eF J (gx (fun e=>yK kJ e) e1) (.cons (.co (.refl _)) (.cons (.xf _ _ _ (.cons (.co (.refl _)) (.cons (.BM _ _ _ .p0 (.cons (.co (.refl _)) .nil)) .nil))) .nil)) J J<|ae.qv (bF J) J<|rA J J<|rN<|ab.ret<|?_
 cases h
 exact hP J J
theorem DI [GI:bD] {aa:aL} {ak:ai} {r:bg} (h:vi aa ak=some r):Pu Tryz.prog 161 [aL.av aa,.str ak] (bg.av r):=by
 unfold vi at h
 refine aI.aZ Tryz.func161 J Tryz.ntmps161 Tryz.results161 J J ?_
 refine az<|cJ J J J J fun b1=>bu J J J J fun b2=>rN<|tS<|az<|rM J J<|rN<|ab.block<|az<|ae.qv (fC J J) J<|rA J J<|rN<|cD h J (fun h=>?_) (fun h=>?_)
 ·refine az<|rF J J J<|rF J J J<|rL J J .p1 J J<|ae.qv (bq J J J J J) J<|ay J J J J .p0 J J<|rN<|ab.ret<|?_
  cases h
  exact aj.here ⟨_,.cons (.all _ _ _ _ _ _ J .p0 aC.h aU.h J J) .nil,J⟩
 ·refine az<|ae.qv (fC J J) J<|rA J J<|rN<|cD h J (fun h=>?_) (fun h=>?_)
  ·refine az<|rF J J J<|rF J J J<|rL J J .p1 J J<|ae.qv (bq J J J J J) J<|ay J J J J .p0 J J<|rN<|ab.ret<|?_
   cases h
   exact aj.here ⟨_,.cons (.all _ _ _ _ _ _ J .p0 aC.h aU.h J J) .nil,J⟩
  ·refine az<|ae.qv (fC J J) J<|rA J J<|rN<|cD h J (fun h=>?_) (fun h=>?_)
   ·refine az<|rF J J J<|rF J J J<|rL J J .p1 J J<|ae.qv (bq J J J J J) J<|ay J J J J .p0 J J<|rN<|ab.ret<|?_
    cases h
    exact aj.here ⟨_,.cons (.all _ _ _ _ _ _ J .p0 aC.h aU.h J J) .nil,J⟩
   ·refine tK<|ab.bX<|tS<|az<|rF J J J<|rF J J J<|rL J J .p1 J J<|ae.qv (bB J) J<|rM J J<|rN<|ab.block<|ab.bO (fun x:Int=>jI aa ak x) (fun x aE=>aE=⟨61,[(1,.str ak),(2,.ptr b1 0),(4,.ptr b2 0),(30,Qf aa.Device.kY),(31,I (aa.Device.kY.length:Int)),(32,I x)],[(b1,.cells (DH aa)),(b2,.cells [I (0:Int),.bool false,I (0:Int),.str []])]⟩) h ?_ ?_
    ·exact aj.lq [1,0] J J J
    ·intro n4 z1 aE J1 dh h im dN
     obtain rfl:=dh
     replace h:jI aa ak n4=some z1:=h
     unfold jI at h
     refine az<|ae.qv (br J J) J<|rN<|tS<|cD h J (fun h=>?_) (fun h=>?_)
     ·refine tK<|tS<|ab.block<|az<|ax h fun v5 e1 h=>ae.qv (aS J J J e1 J J) J<|ae.qv (aM J J J) J<|bu J J J J fun b6=>ay J J J J .p0 J J<|rN<|az<|rM J J<|rF J J J<|rL J J .p0 J J<|ax h fun q7 e2 h=>ae.qv (MB e2 J J) J<|ae.qv (fC J J) J<|rN<|cD h J (fun h=>?_) (fun h=>?_)
      ·refine az<|rF J J J<|rL J J .p0 J J<|ae.qv (bq J J J J J) J<|ay J J J J .p2 J J<|rN<|ab.ret<|have h:=bx h dN;?_
       cases h
       exact aj.here ⟨_,.cons (.all _ _ _ _ _ _ J .p2 aC.h aU.h J J) .nil,J⟩
      ·refine tK<|ab.bX<|tR<|ae.qv (bf J J) J<|rM J J<|rN<|ab.stop<|?_
       cases h
       exact im _ _ J<|aj.lq [1,1] J J J
     ·refine ab.exit J<|have h:=bx h dN;tS<|az<|rF J J J<|rL J J .p0 J J<|ae.qv (bB J) J<|rM J J<|rN<|ab.block<|ab.bO (fun x:Int=>jH aa ak x) (fun x aE=>aE=⟨61,[(1,.str ak),(4,.ptr b2 0),(46,Qg aa.eG),(47,I (aa.eG.length:Int)),(48,I x)],[(b2,.cells [I (0:Int),.bool false,I (0:Int),.str []])]⟩) h ?_ ?_
      ·exact aj.lq [1] J J J
      ·intro n9 z2 aE J2 dh h ya tY
       obtain rfl:=dh
       replace h:jH aa ak n9=some z2:=h
       unfold jH at h
       refine az<|ae.qv (br J J) J<|rN<|tS<|cD h J (fun h=>?_) (fun h=>?_)
       ·refine tK<|tS<|ab.block<|az<|ax h fun v10 e3 h=>ae.qv (aS J J J e3 J J) J<|ae.qv (aM J J J) J<|bu J J J J fun Bg=>ay J J J J .p0 J J<|rN<|az<|rM J J<|rF J J J<|rL J J .p0 J J<|ax h fun Xv e4 h=>ae.qv (MB e4 J J) J<|ae.qv (fC J J) J<|rN<|cD h J (fun h=>?_) (fun h=>?_)
        ·refine az<|rF J J J<|ae.qv (aY J J .p0 J J) J<|ay J J J J .p1 J J<|rN<|ab.ret<|have h:=bx h tY;?_
         cases h
         exact aj.here ⟨_,.cons (.all _ _ _ _ _ _ J .p1 aC.h aU.h J J) .nil,J⟩
        ·refine tK<|ab.bX<|tR<|ae.qv (bf J J) J<|rM J J<|rN<|ab.stop<|?_
         cases h
         exact ya _ _ J<|aj.lq [1] J J J
       ·refine ab.exit J<|have h:=bx h tY;az<|ae.qv (bq J J J J J) J<|ay J J J J .p0 J J<|rN<|ab.ret<|?_
        cases h
        exact aj.here ⟨_,.cons (.all _ _ _ _ _ _ J .p0 aC.h aU.h J J) .nil,J⟩
theorem Df [GI:bD] {aa:Version} {ak:Version} {r:Int} (h:pa aa ak=some r):Pu Tryz.prog 163 [Version.av aa,Version.av ak] (I r):=by
 unfold pa at h
 refine aI.aZ Tryz.func163 J Tryz.ntmps163 Tryz.results163 J J ?_
 refine az<|cJ J J J J fun b1=>cJ J J J J fun b2=>rA J J<|rN<|tS<|ab.cA (id:=1) (A:=[0,1,0,4,15,0,32,0,128,511,0,1024,0,4096,16383,32767,65535,131071]) 18 mixed J (by kernel_rfl) (by kernel_rfl)<|AM.qv (ar J J) J<|AM.qv (aD J J .p1 J) J<|AM.qv (ar J J) J<|AM.qv (aD J J .p0 J) J<|AM.cT J (eR J) cR J<|AM.qv (ar J J) J<|AM.qv (aD J J .p1 J) J<|AM.qv (ar J J) J<|AM.qv (aD J J .p0 J) J<|AM.cT J (eR J) cR J<|AM.qv (ar J J) J<|AM.qv (aD J J .p1 J) J<|AM.qv (ar J J) J<|AM.qv (aD J J .p0 J) J<|AM.cT J (eR J) cR J<|AM.a8 (xs:=([(cmp_Compare_int aa.bP ak.bP),(cmp_Compare_int aa.bQ ak.bQ),(cmp_Compare_int aa.bL ak.bL)]:List Int).map I) J J J J J J<|ax h fun v3 e1 h=>AM.cT J (mX e1) cR J<|AM.qv (bR J) J<|AM.nil<|rN<|ab.ret<|?_
 cases h
 exact hP J J
theorem Cq [GI:bD] {aa:ai} {ak:Int} {r:Bool} (h:tj aa ak=some r):Pu Tryz.prog 162 [.str aa,I ak] (.bool r):=by
 unfold tj at h
 refine aI.aZ Tryz.func162 J Tryz.ntmps162 Tryz.results162 J J ?_
 refine az<|rA J J<|rN<|az<|vg J fun b1=>rM J J<|ae.qv (cx J J) J<|xi (gk:=AV.str) (gv:=AV.bool) (M:=([]:List (ai×Bool))) (key:=([61,61]:ai)) (v:=decide (ak=(0:Int))) J J J J .p0<|rM J J<|ae.qv (ei J J) J<|xi (gk:=AV.str) (gv:=AV.bool) (M:=(jl ([]:List (ai×Bool)) ([61,61]:ai) (decide (ak=(0:Int))))) (key:=([33,61]:ai)) (v:=decide (ak≠(0:Int))) J J J J .p0<|rM J J<|ae.qv (br J J) J<|xi (gk:=AV.str) (gv:=AV.bool) (M:=(jl (jl ([]:List (ai×Bool)) ([61,61]:ai) (decide (ak=(0:Int)))) ([33,61]:ai) (decide (ak≠(0:Int))))) (key:=([60]:ai)) (v:=decide (ak < (0:Int))) J J J J .p0<|rM J J<|ae.qv (sS J J) J<|xi (gk:=AV.str) (gv:=AV.bool) (M:=(jl (jl (jl ([]:List (ai×Bool)) ([61,61]:ai) (decide (ak=(0:Int)))) ([33,61]:ai) (decide (ak≠(0:Int)))) ([60]:ai) (decide (ak < (0:Int))))) (key:=([60,61]:ai)) (v:=decide (ak≤(0:Int))) J J J J .p0<|rM J J<|ae.qv (cS J J) J<|xi (gk:=AV.str) (gv:=AV.bool) (M:=(jl (jl (jl (jl ([]:List (ai×Bool)) ([61,61]:ai) (decide (ak=(0:Int)))) ([33,61]:ai) (decide (ak≠(0:Int)))) ([60]:ai) (decide (ak < (0:Int)))) ([60,61]:ai) (decide (ak≤(0:Int))))) (key:=([62]:ai)) (v:=decide ((0:Int) < ak)) J J J J .p0<|rM J J<|ae.qv (vn J J) J<|xi (gk:=AV.str) (gv:=AV.bool) (M:=(jl (jl (jl (jl (jl ([]:List (ai×Bool)) ([61,61]:ai) (decide (ak=(0:Int)))) ([33,61]:ai) (decide (ak≠(0:Int)))) ([60]:ai) (decide (ak < (0:Int)))) ([60,61]:ai) (decide (ak≤(0:Int)))) ([62]:ai) (decide ((0:Int) < ak)))) (key:=([62,61]:ai)) (v:=decide ((0:Int)≤ak)) J J J J .p0<|rM J J<|rM J J<|ax h fun v2 e1 h=>ae.qv (KA (gk:=AV.str) (gv:=AV.bool) (M:=(jl (jl (jl (jl (jl (jl ([]:List (ai×Bool)) ([61,61]:ai) (decide (ak=(0:Int)))) ([33,61]:ai) (decide (ak≠(0:Int)))) ([60]:ai) (decide (ak < (0:Int)))) ([60,61]:ai) (decide (ak≤(0:Int)))) ([62]:ai) (decide ((0:Int) < ak))) ([62,61]:ai) (decide ((0:Int)≤ak)))) (key:=aa) (Z:=false) J J .p0 J J J e1 J) J<|rA J J<|rN<|ab.ret<|?_
 cases h
 exact hP J J
theorem Bj [GI:bD] {self:Query→aL→Option Bool} (kJ:∀ {aa:Query} {ak:aL} {r:Bool},self aa ak=some r→Pu Tryz.prog 82 [.agg [I aa.Kind,.str aa.Field,.str aa.Op,I aa.Value.Kind,.bool aa.Value.ch,I aa.Value.Number,.str aa.Value.Words,I aa.Version.bP,I aa.Version.bQ,I aa.Version.bL,pb aa.Kids],aL.av ak] (.bool r)) {aa:Query} {ak:aL} {r:Bool} (h:dV self aa ak=some r):Pu Tryz.prog 82 [.agg [I aa.Kind,.str aa.Field,.str aa.Op,I aa.Value.Kind,.bool aa.Value.ch,I aa.Value.Number,.str aa.Value.Words,I aa.Version.bP,I aa.Version.bQ,I aa.Version.bL,pb aa.Kids],aL.av ak] (.bool r):=by
 unfold dV at h
 refine aI.aZ Tryz.func82 J Tryz.ntmps82 Tryz.results82 J J ?_
 refine az<|cJ J J J J fun b1=>cJ J J J J fun b2=>rA J J<|rN<|az<|ae.qv (iv J) J<|rA J J<|rN<|tS<|az<|rF J J J<|rL J J .p1 J J<|rN<|ab.block<|az<|ae.qv (cx J J) J<|rA J J<|rN<|cD h J (fun h=>?_) (fun h=>?_)
 ·refine tS<|ab.cA (id:=4) (A:=[0,1,3,7,0,31,63,127]) 8 mixed J (by kernel_rfl) (by kernel_rfl)<|AM.qv (ar J J) J<|AM.qv (aD J J .p1 J) J<|ax h fun v3 e1 h=>AM.qv (aS J J J e1 J (by rw [Query.um];rfl)) J<|AM.qv (aM J J J) J<|AM.qv (aA J J .p0 J) J<|ax h fun v4 e2 h=>AM.cT J (kJ e2) cR J<|AM.qv (bF J) J<|AM.qv (bR J) J<|AM.nil<|rN<|ab.ret<|?_
  cases h
  exact hP J J
 ·refine az<|ae.qv (cx J J) J<|rA J J<|rN<|cD h J (fun h=>?_) (fun h=>?_)
  ·refine az<|rM J J<|ax h fun v5 e3 h=>HG J J (vP kJ e3) (.cons (.co (.refl _)) (.cons (.BM _ _ _ .p1 (.cons (.co (.refl _)) (.cons (.co (.refl _)) (.cons (.co (.refl _)) (.cons (.co (.refl _)) (.cons (.co (.refl _)) (.cons (.co (.refl _)) (.cons (.co (.refl _)) (.cons (.co (.refl _)) (.cons (.co (.refl _)) (.cons (.co (.refl _)) (.cons (.co (.refl _)) .nil)))))))))))) (.cons (.BM _ _ _ .p0 (.cons (.co (.refl _)) (.cons (.co (.refl _)) (.cons (.co (.refl _)) (.cons (.co (.refl _)) (.cons (.co (.refl _)) (.cons (.co (.refl _)) (.cons (.co (.refl _)) (.cons (.co (.refl _)) .nil))))))))) .nil))) J J<|rA J J<|rN<|ab.ret<|?_
   cases h
   exact hP J J
  ·refine az<|ae.qv (cx J J) J<|rA J J<|rN<|cD h J (fun h=>?_) (fun h=>?_)
   ·refine az<|rM J J<|ax h fun v6 e4 h=>HG J J (vP kJ e4) (.cons (.co (.refl _)) (.cons (.BM _ _ _ .p1 (.cons (.co (.refl _)) (.cons (.co (.refl _)) (.cons (.co (.refl _)) (.cons (.co (.refl _)) (.cons (.co (.refl _)) (.cons (.co (.refl _)) (.cons (.co (.refl _)) (.cons (.co (.refl _)) (.cons (.co (.refl _)) (.cons (.co (.refl _)) (.cons (.co (.refl _)) .nil)))))))))))) (.cons (.BM _ _ _ .p0 (.cons (.co (.refl _)) (.cons (.co (.refl _)) (.cons (.co (.refl _)) (.cons (.co (.refl _)) (.cons (.co (.refl _)) (.cons (.co (.refl _)) (.cons (.co (.refl _)) (.cons (.co (.refl _)) .nil))))))))) .nil))) J J<|ae.qv (bF J) J<|rA J J<|rN<|ab.ret<|?_
    cases h
    exact hP J J
   ·refine az<|ae.qv (cx J J) J<|rA J J<|rN<|cD h J (fun h=>?_) (fun h=>?_)
    ·refine az<|ae.qv (aA J J .p0 J) J<|rF J J J<|rL J J .p1 J J<|ax h fun v7 e5 h=>aH J (DI e5) cR J<|ae.qv (HR (ft:=3) (off:=0) ⟨_,_,Tryz.underlying101,J,J,J⟩ J J J) J<|ae.qv (ei J J) J<|rA J J<|rN<|ab.ret<|?_
     cases h
     exact hP J J
    ·refine tK<|ab.bX<|tS<|az<|rF J J J<|rL J J .p1 J J<|ae.qv (fC J J) J<|rN<|cD h J (fun h=>?_) (fun h=>?_)
     ·refine tS<|ab.cA (id:=12) (A:=[0,1,0,4,12,0,32,124,255,511]) 10 mixed J (by kernel_rfl) (by kernel_rfl)<|AM.qv (ar J J) J<|AM.qv (aD J J .p1 J) J<|AM.qv (ar J J) J<|AM.qv (ar J J) J<|AM.qv (aY J J .p0 J J) J<|AM.qv (ar J J) J<|AM.qv (aY J J .p1 J J) J<|ax h fun v8 e6 h=>AM.cT J (Df e6) cR J<|ax h fun v9 e7 h=>AM.cT J (Cq e7) cR J<|AM.qv (bR J) J<|AM.nil<|rN<|ab.ret<|?_
      cases h
      exact hP J J
     ·refine tK<|az<|ae.qv (aA J J .p0 J) J<|rF J J J<|rL J J .p1 J J<|ax h fun v10 e8 h=>aH J (DI e8) cR J<|bu J J J J fun Bg=>ay J J J J .p0 J J<|rN<|tS<|az<|rF J J J<|rL J J .p0 J J<|rF J J J<|rF J J J<|rL J J .p2 J J<|ae.qv (ei J J) J<|rN<|cD h J (fun h=>?_) (fun h=>?_)
      ·refine az<|rA J J<|rN<|ab.ret<|?_
       cases h
       exact hP J J
      ·refine tK<|tS<|ab.cA (id:=16) (A:=[0,1,0,4,12,31,0,64,0,256,768,2047,4095,8191,16383]) 15 mixed J (by kernel_rfl) (by kernel_rfl)<|AM.qv (ar J J) J<|AM.qv (aD J J .p0 J) J<|AM.qv (ar J J) J<|AM.qv (ar J J) J<|AM.qv (aD J J .p2 J) J<|AM.cT J (eR J) cR J<|AM.qv (ar J J) J<|AM.qv (aD J J .p0 J) J<|AM.qv (ar J J) J<|AM.qv (ar J J) J<|AM.qv (aD J J .p2 J) J<|AM.cT J (dD J) cR J<|AM.a8 (xs:=([(cmp_Compare_int v10.Number aa.Value.Number),(Lib.compareBytes v10.Words aa.Value.Words)]:List Int).map I) J J J J J J<|ax h fun v12 e9 h=>AM.cT J (mX e9) cR J<|AM.qv (bR J) J<|AM.nil<|rN<|tS<|az<|rF J J J<|rL J J .p0 J J<|rF J J J<|rF J J J<|rL J J .p2 J J<|ae.qv (Ny J J) J<|rN<|ab.cut (fun aE=>∃ (n13:Int),jZ aa n13=some r∧aE=⟨83,[(2,.ptr b1 0),(7,I n13)],[(b1,.cells (xL aa))]⟩) ?_ ?_
       ·refine cB h J (fun h=>?_) (fun h=>?_)
        ·exact tR<|rA J J<|rN<|ab.stop<|aj.lq [2] ⟨(1:Int),h,J⟩ J J
        ·exact tK<|ab.stop<|aj.lq [2] ⟨v12,h,J⟩ J J
       ·rintro aE ⟨n13,h,rfl⟩
        unfold jZ at h
        refine az<|rF J J J<|rL J J .p0 J J<|rM J J<|ax h fun rl Am h=>aH J (Cq Am) cR J<|rA J J<|rN<|ab.ret<|?_
        cases h
        exact hP J J
theorem Cr [GI:bD]:∀ (k:Nat) {aa:Query} {ak:aL} {r:Bool},ic k aa ak=some r→Pu Tryz.prog 82 [.agg [I aa.Kind,.str aa.Field,.str aa.Op,I aa.Value.Kind,.bool aa.Value.ch,I aa.Value.Number,.str aa.Value.Words,I aa.Version.bP,I aa.Version.bQ,I aa.Version.bL,pb aa.Kids],aL.av ak] (.bool r):=by
 intro k
 induction k with
 | zero=>intro aa ak r h;cases h
 | succ k ih=>intro aa ak r h;exact Bj ih h
theorem Eu [GI:bD] {aa:Query} {ak:aL} {r:Bool} (h:jQ aa ak=some r):Pu Tryz.prog 82 [.agg [I aa.Kind,.str aa.Field,.str aa.Op,I aa.Value.Kind,.bool aa.Value.ch,I aa.Value.Number,.str aa.Value.Words,I aa.Version.bP,I aa.Version.bQ,I aa.Version.bL,pb aa.Kids],aL.av ak] (.bool r):=Cr depth h
theorem Jl [GI:bD] {aa:Reason} {ak:Reason} {r:Int} (h:x6 aa ak=some r):Pu Tryz.prog 84 [Reason.av aa,Reason.av ak] (I r):=by
 unfold x6 at h
 refine aI.aZ Tryz.func84 J Tryz.ntmps84 Tryz.results84 J J ?_
 refine az<|cJ J J J J fun b1=>cJ J J J J fun b2=>rA J J<|rN<|tS<|ab.cA (id:=1) (A:=[0,1,0,4,15,0,32,0,128,511,1023,2047,4095]) 13 mixed J (by kernel_rfl) (by kernel_rfl)<|AM.qv (ar J J) J<|AM.qv (aD J J .p1 J) J<|AM.qv (ar J J) J<|AM.qv (aD J J .p0 J) J<|AM.cT J (eR J) cR J<|AM.qv (ar J J) J<|AM.qv (aD J J .p1 J) J<|AM.qv (ar J J) J<|AM.qv (aD J J .p0 J) J<|AM.cT J (dD J) cR J<|AM.a8 (xs:=([(cmp_Compare_int aa.aQ ak.aQ),(Lib.compareBytes aa.bl ak.bl)]:List Int).map I) J J J J J J<|ax h fun v3 e1 h=>AM.cT J (mX e1) cR J<|AM.qv (bR J) J<|AM.nil<|rN<|ab.ret<|?_
 cases h
 exact hP J J
theorem sQ:Rg Tryz.prog 54 2:=⟨fun enc hk h1 cf hO g cb bX off cap d w eg hc hH hb hs=>AnyQ.slices_SortFunc_eq Tryz.NZ 2 Tryz.isAgg65 Tryz.sizeOf65 enc hk h1 cf hO g cb bX off cap d w eg hc hH hb hs,fun p cap fv w=>AnyF.slices_SortFunc_none Tryz.NZ p cap fv w⟩
theorem sR [GI:bD] {bn:Bk} {aa:List Reason} {iB:Reason→Reason→Option Int} {dZ:FuncId} [bh Tryz.prog dZ] {gd:List AV} (mA:∀ {y0 y1:_} {u:Int},iB y0 y1=some u→@Pu mJ Tryz.prog dZ (Reason.av y0 :: Reason.av y1 :: gd) (I u)) {r:(List Reason)} (h:fM aa iB=some r):aI Tryz.prog 54 [.sl 2 bn 0 aa.length,.func (.func dZ) gd] [(bn,.arr 2 (aa.map Reason.av))] (T0 [(bn,.arr 2 (r.map Reason.av))] (.pT [])):=
 Fm (fn:=iB) sQ J @mA (fun _=>J) h
theorem HY [GI:bD] {aa:aW} {ak:ai} {aP:ai} {aX:aL} {bK:Int} {r:(List Reason)} (h:oD aa ak aP aX bK=some r):Pu Tryz.prog 22 [aW.av aa,.str ak,.str aP,aL.av aX,I bK] (ae3 r):=by
 unfold oD at h
 refine aI.aZ Tryz.func22 J Tryz.ntmps22 Tryz.results22 J J ?_
 refine az<|cJ J J J J fun b1=>cJ J J J J fun b2=>rA J J<|rN<|az<|rA J J<|rN<|tS<|az<|ae.qv (aA J J .p1 J) J<|rM J J<|rM J J<|rF J J J<|rF J J J<|rL J J .p0 J J<|ax h fun v3 e1 h=>fV J (yA e1) cR .nil (fun _=>J) J fun b4=>ae.qv (iu J) J<|rM J J<|rN<|ab.block<|ab.bO (fun x:(List Reason)×Int=>mU aa ak aP aX bK v3 x.1 x.2) (fun x aE=>∃ (b8:Bk),aE=⟨112,[(1,.str ak),(2,.str aP),(4,I bK),(5,.ptr b1 0),(8,.ptr b2 0),(11,.sl 2 b8 0 x.1.length),(24,.sl 1 b4 0 v3.length),(25,I (v3.length:Int)),(26,I x.2)],[(b1,.cells (wg aa)),(b2,.cells (DH aX)),(b8,Ea x.1),(b4,MU v3)]⟩) h ?_ ?_
 ·exact aj.arr (s:=11) 2 J fun Bg=>aj.lq [3,2,0,0] ⟨Bg,J⟩ J J
 ·intro x z1 aE J1 dh h im dN
  obtain ⟨l9,n10⟩:=x
  obtain ⟨b8,rfl⟩:=dh
  replace h:mU aa ak aP aX bK v3 l9 n10=some z1:=h
  unfold mU at h
  refine az<|ae.qv (br J J) J<|rN<|tS<|cD h J (fun h=>?_) (fun h=>?_)
  ·refine tK<|tS<|ab.block<|az<|ax h fun v12 e2 h=>ae.qv (jk J J J e2) J<|ae.qv (iO (g:=I) J J (.inl .p3) e2 J) J<|rA J J<|rN<|tR<|rM J J<|rM J J<|ae.qv (bq J J J J J) J<|aF (xs:=([(⟨v12,[]⟩:Reason)]).map Reason.av) J J J J J J<|ax h fun UY e3 h=>cU (g:=Reason.av) J J J J J J J J (.list _) e3 (fun _=>.p2) J fun zj=>rA J J<|rN<|ab.bX<|tR<|ae.qv (bf J J) J<|rM J J<|rN<|ab.stop<|?_
   cases h
   exact im _ _ J<|aj.lq [0,0,0,0] ⟨zj,J⟩ J J
  ·refine ab.exit J<|have h:=bx h dN;tS<|az<|rF J J J<|rL J J .p0 J J<|ae.qv (bB J) J<|rM J J<|rN<|ab.block<|ab.bO (fun x:(List Reason)×Int=>tp aa ak aP aX bK x.1 x.2) (fun x aE=>∃ (Jf:Bk),aE=⟨112,[(1,.str ak),(2,.str aP),(4,I bK),(5,.ptr b1 0),(8,.ptr b2 0),(11,.sl 2 Jf 0 x.1.length),(37,tq aa.aK),(38,I (aa.aK.length:Int)),(39,I x.2)],[(b1,.cells (wg aa)),(b2,.cells (DH aX)),(Jf,Ea x.1)]⟩) h ?_ ?_
   ·exact aj.lq [0,0,0] ⟨b8,J⟩ J J
   ·intro x z2 aE J2 dh h ya tY
    obtain ⟨CN,n20⟩:=x
    obtain ⟨Jf,rfl⟩:=dh
    replace h:tp aa ak aP aX bK CN n20=some z2:=h
    unfold tp at h
    refine az<|ae.qv (br J J) J<|rN<|tS<|cD h J (fun h=>?_) (fun h=>?_)
    ·refine tK<|tS<|ab.cut (fun aE=>∃ (TA:Bk) (UU:List Reason),tn n20 UU=some z2∧aE=⟨112,[(1,.str ak),(2,.str aP),(4,I bK),(5,.ptr b1 0),(8,.ptr b2 0),(11,.sl 2 TA 0 UU.length),(37,tq aa.aK),(38,I (aa.aK.length:Int)),(39,I n20)],[(b1,.cells (wg aa)),(b2,.cells (DH aX)),(TA,Ea UU)]⟩) ?_ ?_
     ·refine ab.block<|az<|ax h fun v23 e4 h=>ae.qv (aS J J J e4 J J) J<|ae.qv (aM J J J) J<|bu J J J J fun Sb=>ay J J J J .p0 J J<|rN<|tS<|tS<|ab.cut (fun aE=>∃ (c25:Bool),kF aa ak aP CN n20 v23 c25=some z2∧aE=⟨112,[(1,.str ak),(2,.str aP),(4,I bK),(5,.ptr b1 0),(8,.ptr b2 0),(11,.sl 2 Jf 0 CN.length),(15,.ptr Sb 0),(37,tq aa.aK),(38,I (aa.aK.length:Int)),(39,I n20),(88,.bool c25)],[(b1,.cells (wg aa)),(b2,.cells (DH aX)),(Jf,Ea CN),(Sb,.cells (L7 v23))]⟩) ?_ ?_
      ·refine ab.cA (id:=10) (A:=[0,0,2,6,15,31,63,127,127,383,895,2047,127,4223,16383,32767,65535,131071,262143,524287,262143,2097151,4194303,8388607,16777215,33554431,33554431,100663295,234881023,536870911,1073741823,2147483647,4294967295,4294967295,12884901887,30064771071,68719476735,137438953471,274877906943,549755813887,1099511627775,549755813887,2748779069439,8796093022207,17592186044415,35184372088831]) 46 mixed J (by kernel_rfl) (by kernel_rfl)<|AM.qv (aA J J .p1 J) J<|AM.qv (ar J J) J<|AM.qv (ar J J) J<|AM.qv (aD J J .p2 J) J<|ax h fun v26 e5 h=>AM.cT J (lB e5) cR J<|AM.qv (br J J) J<|AM.qv (aO J) J<|AM.dC J J J (fun hc=>?_) (fun hc=>?_)
       ·refine have h:=wM hc h;AM.qv (aA J J .p1 J) J<|AM.an J J J<|AM.qv (ar J J) J<|AM.an J J J<|AM.qv (ar J J) J<|AM.an J J J<|AM.qv (aD J J .p2 J) J<|AM.an J J J<|ax h fun FF e6 h=>AM.cT J (vN e6) cR J<|AM.an J J J<|AM.qv (ar J J) J<|AM.an J J J<|AM.qv (aD J J .p0 J) J<|AM.an J J J<|ax h fun v28 e7 h=>AM.cT J (bt e7) cR J<|AM.an J J J<|AM.qv (bF J) J<|AM.qv (eE J J) J<|AM.qv (aO J) J<|AM.guard J J J (fun hc=>?_) (fun hc=>?_)
        ·refine have h:=ir hc h;AM.qv (ar J J) J<|AM.an J J J<|AM.qv (aY J J .p0 J J) J<|AM.an J J J<|AM.qv (aA J J .p2 J) J<|AM.an J J J<|ax h fun FB e8 h=>AM.cT J (Eu e8) cR J<|AM.an J J J<|AM.qv (bF J) J<|AM.qv (eE J J) J<|AM.qv (aO J) J<|AM.guard J J J (fun hc=>?_) (fun hc=>?_)
         ·refine have h:=ir hc h;AM.qv (aO J) J<|AM.an J J J<|AM.qv (ar J J) J<|AM.an J J J<|AM.qv (ar J J) J<|AM.an J J J<|AM.qv (aD J J .p0 J) J<|AM.an J J J<|AM.qv (br J J) J<|AM.qv (eE J J) J<|AM.qv (aO J) J<|AM.dC J J J (fun hc=>?_) (fun hc=>?_)
          ·refine have h:=wM hc h;AM.qv (aO J) J<|AM.an J J J<|AM.qv (ar J J) J<|AM.an J J J<|AM.qv (ar J J) J<|AM.an J J J<|AM.qv (aD J J .p0 J) J<|AM.an J J J<|AM.qv (vn J J) J<|AM.qv (eE J J) J<|AM.qv (aO J) J<|AM.dC J J J (fun hc=>?_) (fun hc=>?_)
           ·exact have h:=wM hc h;AM.qv (ar J J) J<|AM.an J J J<|AM.qv (aD J J .p0 J) J<|AM.an J J J<|AM.qv (aO J) J<|AM.an J J J<|AM.a8 (xs:=([aP]:List ai).map AV.str) J J J J J J<|AM.an J J J<|ax h fun v30 e9 h=>AM.cT J (AN e9) cR J<|AM.an J J J<|AM.qv (bF J) J<|AM.qv (eE J J) J<|AM.nil<|rN<|ab.stop<|aj.lq [1,1,1,0] ⟨!v30,h,J⟩ J J
           ·exact have h:=hZ hc h;AM.al J J J J<|AM.al J J J J<|AM.al J J J J<|AM.al J J J J<|AM.al J J J J<|AM.qv (cQ J J) J<|AM.nil<|rN<|ab.stop<|aj.lq [1,1,1,0] ⟨true,h,J⟩ J J
          ·exact have h:=hZ hc h;AM.al J J J J<|AM.al J J J J<|AM.al J J J J<|AM.al J J J J<|AM.qv (cQ J J) J<|AM.qv (aO J) J<|AM.al J J J J<|AM.al J J J J<|AM.al J J J J<|AM.al J J J J<|AM.al J J J J<|AM.al J J J J<|AM.qv (cQ J J) J<|AM.nil<|rN<|ab.stop<|aj.lq [1,1,1,0] ⟨true,h,J⟩ J J
         ·exact have h:=hZ hc h;AM.al J J J J<|AM.al J J J J<|AM.al J J J J<|AM.al J J J J<|AM.qv (cQ J J) J<|AM.qv (aO J) J<|AM.al J J J J<|AM.al J J J J<|AM.al J J J J<|AM.al J J J J<|AM.al J J J J<|AM.qv (cQ J J) J<|AM.qv (aO J) J<|AM.al J J J J<|AM.al J J J J<|AM.al J J J J<|AM.al J J J J<|AM.al J J J J<|AM.al J J J J<|AM.qv (cQ J J) J<|AM.nil<|rN<|ab.stop<|aj.lq [1,1,1,0] ⟨true,h,J⟩ J J
        ·exact have h:=hZ hc h;AM.al J J J J<|AM.al J J J J<|AM.al J J J J<|AM.al J J J J<|AM.qv (cQ J J) J<|AM.qv (aO J) J<|AM.al J J J J<|AM.al J J J J<|AM.al J J J J<|AM.al J J J J<|AM.al J J J J<|AM.qv (cQ J J) J<|AM.qv (aO J) J<|AM.al J J J J<|AM.al J J J J<|AM.al J J J J<|AM.al J J J J<|AM.al J J J J<|AM.qv (cQ J J) J<|AM.qv (aO J) J<|AM.al J J J J<|AM.al J J J J<|AM.al J J J J<|AM.al J J J J<|AM.al J J J J<|AM.al J J J J<|AM.qv (cQ J J) J<|AM.nil<|rN<|ab.stop<|aj.lq [1,1,1,0] ⟨true,h,J⟩ J J
       ·exact have h:=hZ hc h;AM.al J J J J<|AM.al J J J J<|AM.al J J J J<|AM.al J J J J<|AM.al J J J J<|AM.al J J J J<|AM.al J J J J<|AM.al J J J J<|AM.qv (cQ J J) J<|AM.qv (aO J) J<|AM.al J J J J<|AM.al J J J J<|AM.al J J J J<|AM.al J J J J<|AM.al J J J J<|AM.qv (cQ J J) J<|AM.qv (aO J) J<|AM.al J J J J<|AM.al J J J J<|AM.al J J J J<|AM.al J J J J<|AM.al J J J J<|AM.qv (cQ J J) J<|AM.qv (aO J) J<|AM.al J J J J<|AM.al J J J J<|AM.al J J J J<|AM.al J J J J<|AM.al J J J J<|AM.qv (cQ J J) J<|AM.qv (aO J) J<|AM.al J J J J<|AM.al J J J J<|AM.al J J J J<|AM.al J J J J<|AM.al J J J J<|AM.al J J J J<|AM.qv (cQ J J) J<|AM.nil<|rN<|ab.stop<|aj.lq [1,1,1,0] ⟨true,h,J⟩ J J
      ·rintro aE ⟨c25,h,rfl⟩
       unfold kF at h
       refine cB h J (fun h=>?_) (fun h=>?_)
       ·exact ab.exit J<|ab.stop<|aj.lq [0,0,0] ⟨Jf,CN,h,J⟩ J J
       ·refine tK<|az<|ae.qv (aA J J .p0 J) J<|rM J J<|rM J J<|rF J J J<|rL J J .p3 J J<|ax h fun v31 Am h=>fV J (yA Am) cR .nil (fun _=>J) J fun Ty=>ae.qv (iu J) J<|rM J J<|rN<|ab.block<|ab.bO (fun x:(List Reason)×Int=>mT n20 v23 v31 x.1 x.2) (fun x aE=>∃ (Ma:Bk),aE=⟨112,[(1,.str ak),(2,.str aP),(4,I bK),(5,.ptr b1 0),(8,.ptr b2 0),(11,.sl 2 Ma 0 x.1.length),(15,.ptr Sb 0),(37,tq aa.aK),(38,I (aa.aK.length:Int)),(39,I n20),(94,.sl 1 Ty 0 v31.length),(95,I (v31.length:Int)),(96,I x.2)],[(b1,.cells (wg aa)),(b2,.cells (DH aX)),(Ma,Ea x.1),(Sb,.cells (L7 v23)),(Ty,MU v31)]⟩) h ?_ ?_
        ·exact aj.lq [1,1,1,1,0] ⟨Jf,J⟩ J J
        ·intro x z3 aE J3 dh h N9 Lb
         obtain ⟨AJ,n38⟩:=x
         obtain ⟨Ma,rfl⟩:=dh
         replace h:mT n20 v23 v31 AJ n38=some z3:=h
         unfold mT at h
         refine az<|ae.qv (br J J) J<|rN<|tS<|cD h J (fun h=>?_) (fun h=>?_)
         ·refine tK<|tS<|ab.block<|az<|ax h fun v39 Bf h=>ae.qv (jk J J J Bf) J<|ae.qv (iO (g:=I) J J (.inl .p4) Bf J) J<|rA J J<|rN<|tR<|rM J J<|rM J J<|rF J J J<|rL J J .p3 J J<|ae.qv (bq J J J J J) J<|aF (xs:=([(⟨v39,v23.Key⟩:Reason)]).map Reason.av) J J J J J J<|ax h fun GD GF h=>cU (g:=Reason.av) J J J J J J J J (.list _) GF (fun _=>.p2) J fun MW=>rA J J<|rN<|ab.bX<|tR<|ae.qv (bf J J) J<|rM J J<|rN<|ab.stop<|?_
          cases h
          exact N9 _ _ J<|aj.lq [0,0,0,0,0] ⟨MW,J⟩ J J
         ·exact ab.exit J<|have h:=bx h Lb;ab.bX<|ab.stop<|aj.lq [0,0,0] ⟨Ma,AJ,h,J⟩ J J
     ·rintro aE ⟨TA,UU,h,rfl⟩
      unfold tn at h
      refine tR<|ae.qv (bf J J) J<|rM J J<|rN<|ab.stop<|?_
      cases h
      exact ya _ _ J<|aj.lq [0,0,0] ⟨TA,J⟩ J J
    ·refine ab.exit J<|have h:=bx h tY;?_
     unfold Be at h
     refine az<|rM J J<|ax h fun JS G5 h=>aR J (sR (fun e=>Jl (GI:=mJ) e) (rU G5)) cR (.cons .p2 .nil) J J<|ae.ghost<|aj.eqs (s:=11) (rz:=.sl 2 Jf 0 JS.length) J (congrArg (AV.sl 2 Jf 0) (kX G5))<|aj.here<|ae.ghost<|aj.eqs (s:=109) (rz:=.sl 2 Jf 0 JS.length) J (congrArg (AV.sl 2 Jf 0) (kX G5))<|aj.here<|rN<|az<|rM J J<|rA J J<|rN<|ab.ret<|?_
     cases h
     exact aj.freeze .p0<|aj.co (s:=10) J (Co.Ah .p0)<|aj.here ⟨_,.cons (.tmp _ _ J) .nil,J⟩
theorem F6 [GI:bD] {aa:aW} {ak:aW} {aP:List ai} {aX:List aL} {bK:Int} {r:(List aB)×(List aB)} (h:mV aa ak aP aX bK=some r):aI Tryz.prog 33 [aW.av aa,aW.av ak,gz aP,wb aX,I bK] [] (T2 (fun kK XG=>[(kK,pL r.1),(XG,pL r.2)]) (fun kK XG=>.pT [.sl 3 kK 0 r.1.length,.sl 3 XG 0 r.2.length])):=by
 unfold mV at h
 refine aI.fD ?_
 refine aI.aZ Tryz.func33 J Tryz.ntmps33 Tryz.results33 J J ?_
 refine az<|cJ J J J J fun b1=>cJ J J J J fun b2=>rA J J<|rA J J<|rN<|tS<|az<|ae.qv (aA J J .p1 J) J<|ae.qv (aA J J .p0 J) J<|aF (xs:=([aa,ak]:List aW).map aW.av) J J J J J J<|ax h fun v3 e1 h=>fV J (Lh e1) cR .nil (fun _=>J) J fun b4=>ae.qv (iu J) J<|rM J J<|rN<|ab.block<|ab.bO (fun x:(List aB)×(List aB)×Int=>ij aa ak aP aX bK v3 x.1 x.2.1 x.2.2) (fun x aE=>∃ (GH:Bk) (Le:Bk),aE=⟨87,[(2,gz aP),(3,wb aX),(4,I bK),(5,.ptr b1 0),(6,.ptr b2 0),(10,.sl 3 GH 0 x.1.length),(11,.sl 3 Le 0 x.2.1.length),(24,.sl 1 b4 0 v3.length),(25,I (v3.length:Int)),(26,I x.2.2)],[(b1,.cells (wg aa)),(b2,.cells (wg ak)),(GH,pL x.1),(Le,pL x.2.1),(b4,vF v3)]⟩) h ?_ ?_
 ·exact aj.arr (s:=10) 3 J fun Lc=>aj.arr (s:=11) 3 J fun Oa=>aj.lq [4,3,1,0,0] ⟨Lc,Oa,J⟩ J J
 ·intro x z1 aE J1 dh h im dN
  obtain ⟨zd,UY,n14⟩:=x
  obtain ⟨GH,Le,rfl⟩:=dh
  replace h:ij aa ak aP aX bK v3 zd UY n14=some z1:=h
  unfold ij at h
  refine az<|ae.qv (br J J) J<|rN<|tS<|cD h J (fun h=>?_) (fun h=>?_)
  ·refine tK<|tS<|ab.block<|az<|ax h fun v17 e2 h=>ae.qv (jk J J J e2) J<|ae.qv (iO (g:=AV.str) J J (.inl .p4) e2 J) J<|rA J J<|rN<|az<|rM J J<|ae.qv (bB J) J<|rM J J<|rN<|ab.block<|ab.bO (fun x:(List aB)×(List aB)×Int=>ig aa ak aP aX bK n14 v17 x.1 x.2.1 x.2.2) (fun x aE=>∃ (Qh:Bk) (Tx:Bk),aE=⟨87,[(2,gz aP),(3,wb aX),(4,I bK),(5,.ptr b1 0),(6,.ptr b2 0),(10,.sl 3 Qh 0 x.1.length),(11,.sl 3 Tx 0 x.2.1.length),(13,.str v17),(24,.sl 1 b4 0 v3.length),(25,I (v3.length:Int)),(26,I n14),(30,gz aP),(31,I (aP.length:Int)),(32,I x.2.2)],[(b1,.cells (wg aa)),(b2,.cells (wg ak)),(Qh,pL x.1),(Tx,pL x.2.1),(b4,vF v3)]⟩) h ?_ ?_
   ·exact aj.lq [0,0,0,0,0] ⟨GH,Le,J⟩ J J
   ·intro x z2 aE J2 dh h ya tY
    obtain ⟨wy,Zp,n27⟩:=x
    obtain ⟨Qh,Tx,rfl⟩:=dh
    replace h:ig aa ak aP aX bK n14 v17 wy Zp n27=some z2:=h
    unfold ig at h
    refine az<|ae.qv (br J J) J<|rN<|tS<|cD h J (fun h=>?_) (fun h=>?_)
    ·refine tK<|tS<|ab.block<|az<|ax h fun v28 e3 h=>ae.qv (aS J J J e3 J J) J<|ae.qv (aJ J J J) J<|rA J J<|rN<|az<|rM J J<|ae.qv (bB J) J<|rM J J<|rN<|ab.block<|ab.bO (fun x:(List aB)×(List aB)×Int=>ie aa ak aX bK v17 n27 v28 x.1 x.2.1 x.2.2) (fun x aE=>∃ (GG:Bk) (Ma:Bk),aE=⟨87,[(2,gz aP),(3,wb aX),(4,I bK),(5,.ptr b1 0),(6,.ptr b2 0),(10,.sl 3 GG 0 x.1.length),(11,.sl 3 Ma 0 x.2.1.length),(13,.str v17),(15,.str v28),(24,.sl 1 b4 0 v3.length),(25,I (v3.length:Int)),(26,I n14),(30,gz aP),(31,I (aP.length:Int)),(32,I n27),(36,wb aX),(37,I (aX.length:Int)),(38,I x.2.2)],[(b1,.cells (wg aa)),(b2,.cells (wg ak)),(GG,pL x.1),(Ma,pL x.2.1),(b4,vF v3)]⟩) h ?_ ?_
     ·exact aj.lq [0,0,0,0,0] ⟨Qh,Tx,J⟩ J J
     ·intro x z3 aE J3 dh h N9 Lb
      obtain ⟨we,AJ,n38⟩:=x
      obtain ⟨GG,Ma,rfl⟩:=dh
      replace h:ie aa ak aX bK v17 n27 v28 we AJ n38=some z3:=h
      unfold ie at h
      refine az<|ae.qv (br J J) J<|rN<|tS<|cD h J (fun h=>?_) (fun h=>?_)
      ·refine tK<|tS<|ab.block<|az<|ax h fun v39 e4 h=>ae.qv (aS J J J e4 J J) J<|ae.qv (aM J J J) J<|bu J J J J fun U5=>ay J J J J .p0 J J<|rN<|tS<|ab.cA (id:=10) (A:=[0,0,0,0,0,31,63,127,0,0,0,0,0,7999,16191,32575,16383,131071]) 18 mixed J (by kernel_rfl) (by kernel_rfl)<|AM.qv (aA J J .p1 J) J<|AM.qv (aO J) J<|AM.qv (aO J) J<|AM.qv (aA J J .p0 J) J<|AM.qv (aO J) J<|ax h fun v41 e5 h=>AM.cT J (HY e5) cR J<|AM.qv (bB J) J<|AM.qv (cS J J) J<|AM.qv (aA J J .p2 J) J<|AM.qv (aO J) J<|AM.qv (aO J) J<|AM.qv (aA J J .p0 J) J<|AM.qv (aO J) J<|ax h fun JS e6 h=>AM.cT J (HY e6) cR J<|AM.qv (bB J) J<|AM.qv (cS J J) J<|AM.qv (bR J) J<|AM.qv (bR J) J<|AM.nil<|rN<|az<|rM J J<|rM J J<|rF J J J<|rF J J J<|rL J J .p0 J J<|ae.qv (bq J J J J J) J<|bu J J J J fun MX=>ay J J J J .p0 J J<|rN<|tS<|tS<|ab.cut (fun aE=>∃ (c44:Bool),qM v17 v28 we AJ n38 v39 v41 JS c44=some z3∧aE=⟨87,[(2,gz aP),(3,wb aX),(4,I bK),(5,.ptr b1 0),(6,.ptr b2 0),(10,.sl 3 GG 0 we.length),(11,.sl 3 Ma 0 AJ.length),(13,.str v17),(15,.str v28),(18,.bool (decide ((0:Int) < (v41.length:Int)))),(19,.bool (decide ((0:Int) < (JS.length:Int)))),(20,.ptr MX 0),(24,.sl 1 b4 0 v3.length),(25,I (v3.length:Int)),(26,I n14),(30,gz aP),(31,I (aP.length:Int)),(32,I n27),(36,wb aX),(37,I (aX.length:Int)),(38,I n38),(68,.bool c44)],[(b1,.cells (wg aa)),(b2,.cells (wg ak)),(GG,pL we),(Ma,pL AJ),(MX,.cells [.str v17,.str v28,.str v39.Device.Key]),(b4,vF v3)]⟩) ?_ ?_
       ·refine tR<|rM J J<|rM J J<|ae.cq J J J (fun hc=>?_) (fun hc=>?_)
        ·rw [rQ hc] at h
         exact rM J J<|rY J J J<|ae.qv (xN J) J<|rT J J J<|rN<|ab.stop<|aj.lq [2,2,2,2,0,1] ⟨decide (¬ ((0:Int) < (v41.length:Int))),h,J⟩ J J
        ·rw [rR hc] at h
         exact rG J J J J<|rE J J J<|rN<|ab.stop<|aj.lq [2,2,2,2,0,1] ⟨false,h,J⟩ J J
       ·rintro aE ⟨c44,h,rfl⟩
        unfold qM at h
        refine ab.cut (fun aE=>∃ (Qj:Bk) (EH:List aB),kS v17 v28 AJ n38 v39 v41 JS EH=some z3∧aE=⟨87,[(2,gz aP),(3,wb aX),(4,I bK),(5,.ptr b1 0),(6,.ptr b2 0),(10,.sl 3 Qj 0 EH.length),(11,.sl 3 Ma 0 AJ.length),(13,.str v17),(15,.str v28),(18,.bool (decide ((0:Int) < (v41.length:Int)))),(19,.bool (decide ((0:Int) < (JS.length:Int)))),(20,.ptr MX 0),(24,.sl 1 b4 0 v3.length),(25,I (v3.length:Int)),(26,I n14),(30,gz aP),(31,I (aP.length:Int)),(32,I n27),(36,wb aX),(37,I (aX.length:Int)),(38,I n38)],[(b1,.cells (wg aa)),(b2,.cells (wg ak)),(Qj,pL EH),(Ma,pL AJ),(MX,.cells [.str v17,.str v28,.str v39.Device.Key]),(b4,vF v3)]⟩) ?_ ?_
        ·refine cB h J (fun h=>?_) (fun h=>?_)
         ·exact tR<|rM J J<|ae.qv (aA J J .p4 J) J<|aF (xs:=([(⟨v17,v28,v39.Device.Key⟩:aB)]).map aB.av) J J J J J J<|ax h fun K6 e7 h=>cU (g:=aB.av) J J J J J J J J (.list _) e7 (fun _=>.p2) J fun b48=>rA J J<|rN<|ab.stop<|aj.lq [0,0,0,0,0,0] ⟨b48,K6,h,J⟩ J J
         ·exact tK<|ab.stop<|aj.lq [0,0,0,0,0,0] ⟨GG,we,h,J⟩ J J
        ·rintro aE ⟨Qj,EH,h,rfl⟩
         unfold kS at h
         refine tS<|ab.cut (fun aE=>∃ (c49:Bool),qL v17 v28 AJ n38 v39 EH c49=some z3∧aE=⟨87,[(2,gz aP),(3,wb aX),(4,I bK),(5,.ptr b1 0),(6,.ptr b2 0),(10,.sl 3 Qj 0 EH.length),(11,.sl 3 Ma 0 AJ.length),(13,.str v17),(15,.str v28),(20,.ptr MX 0),(24,.sl 1 b4 0 v3.length),(25,I (v3.length:Int)),(26,I n14),(30,gz aP),(31,I (aP.length:Int)),(32,I n27),(36,wb aX),(37,I (aX.length:Int)),(38,I n38),(77,.bool c49)],[(b1,.cells (wg aa)),(b2,.cells (wg ak)),(Qj,pL EH),(Ma,pL AJ),(MX,.cells [.str v17,.str v28,.str v39.Device.Key]),(b4,vF v3)]⟩) ?_ ?_
         ·refine tR<|rM J J<|rM J J<|ae.cq J J J (fun hc=>?_) (fun hc=>?_)
          ·rw [rQ hc] at h
           exact rM J J<|rY J J J<|ae.qv (xN J) J<|rT J J J<|rN<|ab.stop<|aj.lq [0,0,0,0,0,0] ⟨decide (¬ ((0:Int) < (JS.length:Int))),h,J⟩ J J
          ·rw [rR hc] at h
           exact rG J J J J<|rE J J J<|rN<|ab.stop<|aj.lq [0,0,0,0,0,0] ⟨false,h,J⟩ J J
         ·rintro aE ⟨c49,h,rfl⟩
          unfold qL at h
          refine ab.cut (fun aE=>∃ (Zz:Bk) (Pm:List aB),nF n38 EH Pm=some z3∧aE=⟨87,[(2,gz aP),(3,wb aX),(4,I bK),(5,.ptr b1 0),(6,.ptr b2 0),(10,.sl 3 Qj 0 EH.length),(11,.sl 3 Zz 0 Pm.length),(13,.str v17),(15,.str v28),(24,.sl 1 b4 0 v3.length),(25,I (v3.length:Int)),(26,I n14),(30,gz aP),(31,I (aP.length:Int)),(32,I n27),(36,wb aX),(37,I (aX.length:Int)),(38,I n38)],[(b1,.cells (wg aa)),(b2,.cells (wg ak)),(Qj,pL EH),(Zz,pL Pm),(b4,vF v3)]⟩) ?_ ?_
          ·refine cB h J (fun h=>?_) (fun h=>?_)
           ·exact tR<|rM J J<|ae.qv (aA J J .p4 J) J<|aF (xs:=([(⟨v17,v28,v39.Device.Key⟩:aB)]).map aB.av) J J J J J J<|ax h fun K7 e8 h=>cU (g:=aB.av) J J J J J J J J (.list _) e8 (fun _=>.p3) J fun L8=>rA J J<|rN<|ab.stop<|aj.lq [0,0,0,0,1] ⟨L8,K7,h,J⟩ J J
           ·exact tK<|ab.stop<|aj.lq [0,0,0,0,1] ⟨Ma,AJ,h,J⟩ J J
          ·rintro aE ⟨Zz,Pm,h,rfl⟩
           unfold nF at h
           refine ab.bX<|tR<|ae.qv (bf J J) J<|rM J J<|rN<|ab.stop<|?_
           cases h
           exact N9 _ _ J<|aj.lq [0,0,0,0,0] ⟨Qj,Zz,J⟩ J J
      ·refine ab.exit J<|have h:=bx h Lb;ab.bX<|tR<|ae.qv (bf J J) J<|rM J J<|rN<|ab.stop<|?_
       cases h
       exact ya _ _ J<|aj.lq [0,0,0,0,0] ⟨GG,Ma,J⟩ J J
    ·refine ab.exit J<|have h:=bx h tY;ab.bX<|tR<|ae.qv (bf J J) J<|rM J J<|rN<|ab.stop<|?_
     cases h
     exact im _ _ J<|aj.lq [0,0,0,0,0] ⟨Qh,Tx,J⟩ J J
  ·refine ab.exit J<|have h:=bx h dN;az<|rM J J<|rM J J<|rA J J<|rA J J<|rN<|ab.ret<|?_
   cases h
   exact hI J J [2,2] J ⟨GH,Le,J,J⟩
theorem pd [GI:bD] {aa:List aB} {ak:List aB} {r:Bool} (h:fU aa ak=some r):Pu Tryz.prog 34 [U2 aa,U2 ak] (.bool r):=by
 unfold fU at h
 refine aI.aZ Tryz.func34 J Tryz.ntmps34 Tryz.results34 J J ?_
 refine az<|rA J J<|rN<|tS<|az<|rM J J<|ae.qv (bB J) J<|rM J J<|ae.qv (bB J) J<|ae.qv (ei J J) J<|rN<|cD h J (fun h=>?_) (fun h=>?_)
 ·refine az<|rA J J<|rN<|ab.ret<|?_
  cases h
  exact hP J J
 ·refine tK<|tS<|az<|rM J J<|ae.qv (bB J) J<|rM J J<|rN<|ab.block<|ab.bO (fun x:Int=>gu aa ak x) (fun x aE=>aE=⟨26,[(0,U2 aa),(1,U2 ak),(12,I (aa.length:Int)),(13,I x)],[]⟩) h ?_ ?_
  ·exact aj.lq [] J J J
  ·intro n2 z1 aE J1 dh h im dN
   obtain rfl:=dh
   replace h:gu aa ak n2=some z1:=h
   unfold gu at h
   refine az<|ae.qv (br J J) J<|rN<|tS<|cD h J (fun h=>?_) (fun h=>?_)
   ·refine tK<|tS<|ab.block<|az<|rM J J<|rA J J<|rN<|tS<|ab.cA (id:=6) (A:=[0,0,3,7,0,0,48,112,255]) 9 mixed J (by kernel_rfl) (by kernel_rfl)<|AM.qv (aO J) J<|AM.qv (aO J) J<|ax h fun v3 e1 h=>AM.qv (aS J J J e1 J J) J<|AM.qv (aM J J J) J<|AM.qv (aO J) J<|AM.qv (aO J) J<|ax h fun v4 e2 h=>AM.qv (aS J J J e2 J J) J<|AM.qv (aM J J J) J<|AM.qv (AF (g:=aB.av) (X:=v3) (Y:=v4) J J J J J) J<|AM.nil<|rN<|cD h J (fun h=>?_) (fun h=>?_)
    ·refine az<|rA J J<|rN<|ab.ret<|have h:=bx h dN;?_
     cases h
     exact hP J J
    ·refine tK<|ab.bX<|tR<|ae.qv (bf J J) J<|rM J J<|rN<|ab.stop<|?_
     cases h
     exact im _ _ J<|aj.lq [] J J J
   ·refine ab.exit J<|have h:=bx h dN;az<|rA J J<|rN<|ab.ret<|?_
    cases h
    exact hP J J
theorem F7 {aa:List Int} {r:Bool} (h:sB aa=some r):Pu Tryz.prog 4 [cC aa] (.bool r):=by
 unfold sB at h
 refine aI.aZ Tryz.func4 J Tryz.ntmps4 Tryz.results4 J J ?_
 refine az<|rA J J<|rN<|az<|rM J J<|ae.qv (bq J J J J J) J<|cJ J J J J fun b1=>rA J J<|rN<|az<|rM J J<|ax h fun v2 e1 h=>aR J (Ca e1) cR (.cons .p0 .nil) J J<|rM J J<|ax h fun v3 e2 h=>aR J (Ca e2) cR (.cons .p0 .nil) J J<|rM J J<|ax h fun v4 e3 h=>fV J (Cb e3) cR (.cons .p0 .nil) (fun _=>J) J fun b5=>rM J J<|ax h fun v6 e4 h=>aR J (G8 e4) cR (.cons .p0 .nil) J J<|bu J J J J fun b7=>bu J J J J fun b8=>ay J J J J .p1 J J<|ay J J J J .p0 J J<|rA J J<|rA J J<|rN<|az<|aF (xs:=([([100,101,118,105,99,101,46,114,101,97,100]:ai)]).map AV.str) J J J J J J<|aF (xs:=([([100,101,118,105,99,101,46,114,101,97,100]:ai),([111,114,103,46,120]:ai)]).map AV.str) J J J J J J<|aF (xs:=([([100,101,118,105,99,101,46,119,114,105,116,101]:ai)]).map AV.str) J J J J J J<|aF (xs:=([([97,46,42]:ai)]).map AV.str) J J J J J J<|aF (xs:=([([98]:ai),([97]:ai)]).map AV.str) J J J J J J<|aF (xs:=[gz [([100,101,118,105,99,101,46,114,101,97,100]:ai)],gz [([100,101,118,105,99,101,46,114,101,97,100]:ai),([111,114,103,46,120]:ai)],gz [([100,101,118,105,99,101,46,119,114,105,116,101]:ai)],.nil,gz [([97,46,42]:ai)],gz [([98]:ai),([97]:ai)]]) J J J J J J<|ae.ghost<|aj.cox (s:=37) (rz:=.list 1 (([[([100,101,118,105,99,101,46,114,101,97,100]:ai)],[([100,101,118,105,99,101,46,114,101,97,100]:ai),([111,114,103,46,120]:ai)],[([100,101,118,105,99,101,46,119,114,105,116,101]:ai)],[],[([97,46,42]:ai)],[([98]:ai),([97]:ai)]]:List (List ai)).map (A6 1 AV.str))) J (Fi.Rf (.cons .r (.cons .r (.cons .r (.cons .n (.cons .r (.cons .r .nil)))))) J J)<|aj.here<|rM J J<|aF (xs:=([(0:Int),(0:Int),(1:Int),(1:Int),(2:Int),(3:Int),(4:Int),(5:Int)]).map I) J J J J J J<|ax h fun v9 e5 h=>aR J (cm e5) cR (.cons .p2 .nil) J J<|ax h fun v10 e6 h=>ae.qv (aS J J J e6 J J) J<|ae.qv (aJ J J J) J<|rA J J<|rN<|az<|ae.qv (aA J J .p2 J) J<|ae.qv (aA J J .p1 J) J<|rM J J<|rM J J<|rM J J<|ax h fun v11 e7 h=>ae.ghost<|aj.freeze .p3<|aj.here<|NI J (Ef e7) (.cons (.refl _) (.cons (.refl _) (.cons (.refl _) (.cons (Co.Ah .p3) (.cons (.refl _) .nil))))) .nil (fun _ _=>J) J fun Le JU=>rM J J<|rX J J J<|rX J J J<|rX J J J<|rA J J<|rA J J<|rA J J<|rN<|az<|ae.qv (aA J J .p4 J) J<|rM J J<|ax h fun rl e8 h=>aH J (Ar e8) cR J<|rM J J<|rX J J J<|rX J J J<|rX J J J<|rA J J<|rA J J<|rA J J<|rN<|az<|ae.qv (aA J J .p4 J) J<|ax h fun B3 e9 h=>aH J (ye e9) cR J<|rM J J<|aH J (yz J) cR J<|aF (xs:=([B3,(jP v6.1)]:List Int).map I) J J J J J J<|ax h fun pf Am h=>aH J (vO Am) cR J<|rA J J<|rN<|az<|rA J J<|rA J J<|rN<|tS<|az<|rM J J<|ae.qv (cx J J) J<|rN<|ab.cut (fun aE=>∃ (n17:Int) (JR:Bool),kU v2 v3 v4 v6 v10 v11 rl pf n17 JR=some r∧aE=⟨139,[(4,.ptr b7 0),(5,.ptr b8 0),(6,.sl 8 b5 0 v4.1.length),(7,I v6.1),(8,gz v10),(9,.sl 3 Le 0 v11.1.length),(10,.sl 3 JU 0 v11.2.1.length),(11,I v11.2.2),(12,I rl.1),(13,.bool rl.2.1),(14,I rl.2.2),(15,I pf),(16,I n17),(17,.bool JR)],[(b7,.cells (wg v2.1)),(b8,.cells (wg v3.1)),(b5,fE9 v4.1),(Le,pL v11.1),(JU,pL v11.2.1)]⟩) ?_ ?_
 ·refine cD h J (fun h=>?_) (fun h=>?_)
  ·exact tR<|ae.qv (aA J J .p4 J) J<|rM J J<|ax h fun ik Bf h=>aH J (F3 Bf) cR J<|rM J J<|rX J J J<|rX J J J<|rA J J<|rA J J<|rN<|ab.stop<|aj.lq [4,3,3,0,0] ⟨ik.1,ik.2,h,J⟩ J J
  ·exact tK<|ab.stop<|aj.lq [4,3,3,0,0] ⟨(0:Int),false,h,J⟩ J J
 ·rintro aE ⟨n17,JR,h,rfl⟩
  unfold kU at h
  refine tS<|tS<|ab.cut (fun aE=>∃ (c20:Bool),nH v2 v3 v4 v6 v10 v11 c20=some r∧aE=⟨139,[(4,.ptr b7 0),(5,.ptr b8 0),(6,.sl 8 b5 0 v4.1.length),(7,I v6.1),(8,gz v10),(9,.sl 3 Le 0 v11.1.length),(10,.sl 3 JU 0 v11.2.1.length),(11,I v11.2.2),(86,.bool c20)],[(b7,.cells (wg v2.1)),(b8,.cells (wg v3.1)),(b5,fE9 v4.1),(Le,pL v11.1),(JU,pL v11.2.1)]⟩) ?_ ?_
  ·refine tR<|rM J J<|rM J J<|ae.qv (ei J J) J<|rM J J<|ae.dC J J J (fun hc=>?_) (fun hc=>?_)
   ·rw [yW hc] at h
    refine rM J J<|rY J J J<|rM J J<|rY J J J<|ae.qv (ei J J) J<|rE J J J<|rM J J<|ae.dC J J J (fun hc=>?_) (fun hc=>?_)
    ·rw [yW hc] at h
     exact rM J J<|rY J J J<|rM J J<|rY J J J<|ae.qv (Ny J J) J<|rE J J J<|rN<|ab.stop<|aj.lq [0,0,0,0,0] ⟨rl.2.1!=JR,h,J⟩ J J
    ·rw [yV hc] at h
     exact rG J J J J<|rG J J J J<|rT J J J<|rN<|ab.stop<|aj.lq [0,0,0,0,0] ⟨true,h,J⟩ J J
   ·rw [yV hc] at h
    exact rG J J J J<|rG J J J J<|rT J J J<|rM J J<|rG J J J J<|rG J J J J<|rG J J J J<|rT J J J<|rN<|ab.stop<|aj.lq [0,0,0,0,0] ⟨true,h,J⟩ J J
  ·rintro aE ⟨c20,h,rfl⟩
   unfold nH at h
   refine cB h J (fun h=>?_) (fun h=>?_)
   ·refine az<|rA J J<|rN<|ab.ret<|?_
    cases h
    exact hP J J
   ·refine tK<|tS<|tS<|ab.cA (id:=12) (A:=[0,1,0,7,0,31,0,127,0,511,1023,2047,4095]) 13 mixed J (by kernel_rfl) (by kernel_rfl)<|AM.qv (aA J J .p0 J) J<|ax h fun v21 GF h=>AM.cT J (ye GF) cR J<|AM.qv (aA J J .p1 J) J<|ax h fun v22 G5 h=>AM.cT J (ye G5) cR J<|AM.qv (aO J) J<|ax h fun v23 Pw h=>AM.cT J (F4 Pw) cR J<|AM.qv (aO J) J<|ax h fun v24 R4 h=>AM.cT J (F5 R4) (.cons (Co.Ah .p2) .nil) J<|AM.qv (aO J) J<|AM.cT J (yz J) cR J<|AM.a8 (xs:=([v21,v22,v23,v24,(jP v6.1)]:List Int).map I) J J J J J J<|ax h fun v25 R5 h=>AM.cT J (vO R5) cR J<|AM.qv (bR J) J<|AM.nil<|rN<|az<|rM J J<|ae.qv (ei J J) J<|rN<|cD h J (fun h=>?_) (fun h=>?_)
    ·refine tS<|ab.cut (fun aE=>∃ (JQ:Bool),nG JQ=some r∧aE=⟨139,[(2,.bool JQ)],[]⟩) ?_ ?_
     ·refine tR<|rM J J<|rM J J<|ae.qv (cx J J) J<|rM J J<|gT h J J J (fun h=>?_) (fun h=>?_)
      ·refine rM J J<|rY J J J<|ae.qv (iu J) J<|rY J J J<|rM J J<|rY J J J<|ae.qv (iu J) J<|rY J J J<|ae.qv (bf J J) J<|rY J J J<|ae.qv (cx J J) J<|rT J J J<|rM J J<|gT h J J J (fun h=>?_) (fun h=>?_)
       ·exact ax h fun FF R6 h=>aH J (Cp R6) cR J<|rT J J J<|rA J J<|rN<|ab.stop<|aj.lq [] ⟨FF,h,J⟩ J J
       ·exact rE J J J<|rA J J<|rN<|ab.stop<|aj.lq [] ⟨false,h,J⟩ J J
      ·exact rG J J J J<|rG J J J J<|rG J J J J<|rG J J J J<|rG J J J J<|rE J J J<|rM J J<|rG J J J J<|rE J J J<|rA J J<|rN<|ab.stop<|aj.lq [] ⟨false,h,J⟩ J J
     ·rintro aE ⟨JQ,h,rfl⟩
      unfold nG at h
      refine ab.ret<|?_
      cases h
      exact hP J J
    ·refine tK<|az<|ae.qv (aA J J .p0 J) J<|ae.qv (aA J J .p1 J) J<|rM J J<|rM J J<|rM J J<|ax h fun v28 U3 h=>NI J (F6 U3) (.cons (.refl _) (.cons (.refl _) (.cons (.refl _) (.cons (Co.Ah .p2) (.cons (.refl _) .nil))))) .nil (fun _ _=>J) J fun b29 Zt=>rM J J<|rX J J J<|rX J J J<|rA J J<|rA J J<|rN<|tS<|ab.cut (fun aE=>∃ (c31:Bool),kT c31=some r∧aE=⟨139,[(2,.bool c31)],[]⟩) ?_ ?_
     ·refine tR<|rM J J<|ae.qv (cx J J) J<|rM J J<|gT h J J J (fun h=>?_) (fun h=>?_)
      ·refine rM J J<|rY J J J<|rM J J<|rY J J J<|ax h fun v32 Tw h=>eF J (pd Tw) (.cons (w7.wN .p5) (.cons (w7.wN .p0) .nil)) J J<|rT J J J<|rM J J<|ae.guard J J J (fun hc=>?_) (fun hc=>?_)
       ·refine have h:=hZ hc h;rM J J<|rY J J J<|rM J J<|rY J J J<|ax h fun v33 Wi h=>eF J (pd Wi) (.cons (w7.wN .p6) (.cons (w7.wN .p1) .nil)) J J<|rT J J J<|rM J J<|ae.guard J J J (fun hc=>?_) (fun hc=>?_)
        ·exact have h:=hZ hc h;ax h fun Zn Wj h=>aH J (Cp Wj) cR J<|rT J J J<|rA J J<|rN<|ab.stop<|aj.lq [] ⟨Zn,h,J⟩ J J
        ·exact have h:=ir hc h;rE J J J<|rA J J<|rN<|ab.stop<|aj.lq [] ⟨false,h,J⟩ J J
       ·exact have h:=ir hc h;rG J J J J<|rG J J J J<|rE J J J<|rM J J<|rG J J J J<|rE J J J<|rA J J<|rN<|ab.stop<|aj.lq [] ⟨false,h,J⟩ J J
      ·exact rG J J J J<|rG J J J J<|rE J J J<|rM J J<|rG J J J J<|rG J J J J<|rG J J J J<|rE J J J<|rM J J<|rG J J J J<|rE J J J<|rA J J<|rN<|ab.stop<|aj.lq [] ⟨false,h,J⟩ J J
     ·rintro aE ⟨c31,h,rfl⟩
      unfold kT at h
      refine ab.ret<|?_
      cases h
      exact hP J J
end Go.Proofs.YtnchkajkgjkpmaaGreatDoor
