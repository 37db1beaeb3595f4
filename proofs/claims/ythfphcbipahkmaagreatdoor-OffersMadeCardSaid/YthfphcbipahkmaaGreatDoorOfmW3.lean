/- The code computes the plain functions: proofs written by shal.py. -/
import Derived.Test.YthfphcbipahkmaaGreatDoorOfmW2
open List renaming length_set→ac,map_eq_nil_iff→af
open Option renaming some.inj→ad
set_option maxHeartbeats 4000000
set_option maxRecDepth 100000
set_option linter.unusedVariables false
set_option linter.unusedSimpArgs false
namespace Go.Proofs.YthfphcbipahkmaaGreatDoor
open Go Go.Eng Go.Proofs Go.Beacon
attribute [local irreducible] ae ab AQ QV aP aj Sf AM
theorem E0 [GI:bN] {aa:Bool} {ai r:Int} (h:vi aa ai=r):Pu Tryz.prog 13 [.bool aa,I ai] (I r):=by
 unfold vi at h
 refine aP.bI Tryz.func13 J Tryz.ntmps13 Tryz.results13 J J ?_
 refine aJ<|rA J J<|rN<|tS<|aJ<|rM J J<|rN<|cB h J (fun h=>?_) (fun h=>?_)
 ·refine aJ<|rM J J<|rA J J<|rN<|ab.ret<|?_
  obtain rfl:=h
  exact hP J J
 ·refine tK<|aJ<|rA J J<|rN<|ab.ret<|?_
  obtain rfl:=h
  exact hP J J
theorem rk [GI:bN] {aa ai aI:Int} {r:Bool} (h:vK aa ai aI=r):Pu Tryz.prog 55 [I aa,I ai,I aI] (.bool r):=by
 unfold vK at h
 refine aP.bI Tryz.func55 J Tryz.ntmps55 Tryz.results55 J J ?_
 refine aJ<|rA J J<|rN<|tS<|ab.cut (fun aK=>∃ (c1:Bool),HT c1=r∧aK=⟨15,[(6,.bool c1)],[]⟩) ?_ ?_
 ·refine tR<|rM J J<|rM J J<|ae.qv (pn J J) J<|rM J J<|ae.dw J J J (fun hc=>?_) (fun hc=>?_)
  ·rw [vc hc] at h
   exact rM J J<|rY J J J<|rM J J<|rY J J J<|ae.qv (pn J J) J<|rT J J J<|rA J J<|rN<|ab.stop<|aj.lq [] ⟨decide (aa≤aI),h,J⟩ J J
  ·rw [vd hc] at h
   exact rG J J J J<|rG J J J J<|rE J J J<|rA J J<|rN<|ab.stop<|aj.lq [] ⟨false,h,J⟩ J J
 ·rintro aK ⟨c1,h,rfl⟩
  unfold HT at h
  refine ab.ret<|?_
  obtain rfl:=h
  exact hP J J
theorem JP [GI:bN] {aa ai:bn} {r:Bool} (h:Cm aa ai=some r):Pu Tryz.prog 101 [.str aa,.str ai] (.bool r):=by
 unfold Cm at h
 refine aP.bI Tryz.func101 J Tryz.ntmps101 Tryz.results101 J J ?_
 refine aJ<|rA J J<|rN<|tS<|aJ<|rM J J<|ae.qv (oM J) J<|rM J J<|rN<|ab.block<|ab.cx (fun x:Int=>sX aa ai x) (fun x aK=>aK=⟨18,[(0,.str aa),(1,.str ai),(7,I (aa.length:Int)),(8,I x)],[]⟩) h ?_ ?_
 ·exact aj.lq [] J J J
 ·intro n2 z1 aK J1 dY h jl dQ
  obtain rfl:=dY
  replace h:sX aa ai n2=some z1:=h
  unfold sX at h
  refine aJ<|ae.qv (bO J J) J<|rN<|tS<|cD h J (fun h=>?_) (fun h=>?_)
  ·refine tK<|tS<|ab.block<|aJ<|rM J J<|rA J J<|rN<|aJ<|rM J J<|rM J J<|rM J J<|aH h fun c3 e1 h=>ae.qv (nV J J e1) J<|aT J (Aa J) cR J<|ae.qv (bO J J) J<|rN<|cD h J (fun h=>?_) (fun h=>?_)
   ·refine aJ<|rA J J<|rN<|ab.ret<|have h:=bT h dQ;?_
    cases h
    exact hP J J
   ·refine tK<|ab.cw<|tR<|ae.qv (bq J J) J<|rM J J<|rN<|ab.stop<|?_
    cases h
    exact jl _ _ J<|aj.lq [] J J J
  ·refine ab.exit J<|have h:=bT h dQ;aJ<|rA J J<|rN<|ab.ret<|?_
   cases h
   exact hP J J
theorem zP [GI:bN] {aa:bn} {r:Bool} (h:Ak aa=some r):Pu Tryz.prog 52 [.str aa] (.bool r):=by
 unfold Ak at h
 refine aP.bI Tryz.func52 J Tryz.ntmps52 Tryz.results52 J J ?_
 refine aJ<|rA J J<|rN<|tS<|ab.cut (fun aK=>∃ (c1:Bool),w7 c1=some r∧aK=⟨15,[(2,.bool c1)],[]⟩) ?_ ?_
 ·refine tR<|rM J J<|ae.qv (oM J) J<|aT J (rk J) cR J<|rM J J<|ae.guard J J J (fun hc=>?_) (fun hc=>?_)
  ·refine have h:=pj hc h;rM J J<|rY J J J<|aH h fun l2 e1 h=>ae.qv (I6 J .none (.some _ _ _ J) J J e1) J<|rY J J J<|aH h fun v3 e2 h=>aT J (JP e2) cR J<|rT J J J<|rM J J<|ae.guard J J J (fun hc=>?_) (fun hc=>?_)
   ·exact have h:=pj hc h;rM J J<|rY J J J<|aH h fun v4 e3 h=>aT J (JP e3) cR J<|rT J J J<|rA J J<|rN<|ab.stop<|aj.lq [] ⟨v4,h,J⟩ J J
   ·exact have h:=ry hc h;rG J J J J<|rE J J J<|rA J J<|rN<|ab.stop<|aj.lq [] ⟨false,h,J⟩ J J
  ·exact have h:=ry hc h;rG J J J J<|rG J J J J<|rE J J J<|rM J J<|rG J J J J<|rG J J J J<|rE J J J<|rA J J<|rN<|ab.stop<|aj.lq [] ⟨false,h,J⟩ J J
 ·rintro aK ⟨c1,h,rfl⟩
  unfold w7 at h
  refine ab.ret<|?_
  cases h
  exact hP J J
theorem nP [GI:bN] {aa:Version} {r:Int} (h:dP aa=r):Pu Tryz.prog 53 [Version.av aa] (I r):=by
 unfold dP at h
 refine aP.bI Tryz.func53 J Tryz.ntmps53 Tryz.results53 J J ?_
 refine aJ<|dp J J J J fun b1=>rA J J<|rN<|tS<|tS<|ab.cut (fun aK=>∃ (c2:Bool),pg c2=r∧aK=⟨19,[(18,.bool c2)],[]⟩) ?_ ?_
 ·refine tR<|rF J J J<|rL J J .p0 J J<|aT J (rk J) cR J<|ae.qv (cu J) J<|rM J J<|ae.guard J J J (fun hc=>?_) (fun hc=>?_)
  ·rw [vI hc] at h
   refine rF J J J<|rY J J J<|rL J J .p0 J J<|rY J J J<|aT J (rk J) cR J<|rY J J J<|ae.qv (cu J) J<|rE J J J<|rM J J<|ae.guard J J J (fun hc=>?_) (fun hc=>?_)
   ·rw [vI hc] at h
    exact rF J J J<|rY J J J<|rL J J .p0 J J<|rY J J J<|aT J (rk J) cR J<|rY J J J<|ae.qv (cu J) J<|rE J J J<|rN<|ab.stop<|aj.lq [] ⟨!(vK aa.aD 0 9999),h,J⟩ J J
   ·rw [vH hc] at h
    exact rG J J J J<|rG J J J J<|rG J J J J<|rT J J J<|rN<|ab.stop<|aj.lq [] ⟨true,h,J⟩ J J
  ·rw [vH hc] at h
   exact rG J J J J<|rG J J J J<|rG J J J J<|rT J J J<|rM J J<|rG J J J J<|rG J J J J<|rG J J J J<|rG J J J J<|rT J J J<|rN<|ab.stop<|aj.lq [] ⟨true,h,J⟩ J J
 ·rintro aK ⟨c2,h,rfl⟩
  unfold pg at h
  refine cB h J (fun h=>?_) (fun h=>?_)
  ·refine aJ<|rA J J<|rN<|ab.ret<|?_
   obtain rfl:=h
   exact hP J J
  ·refine tK<|aJ<|rA J J<|rN<|ab.ret<|?_
   obtain rfl:=h
   exact hP J J
theorem AL [GI:bN] {aa:Int} {r:Bool} (h:w8 aa=r):Pu Tryz.prog 54 [I aa] (.bool r):=by
 unfold w8 at h
 refine aP.bI Tryz.func54 J Tryz.ntmps54 Tryz.results54 J J ?_
 refine aJ<|rA J J<|rN<|aJ<|rM J J<|aT J (rk J) cR J<|rA J J<|rN<|ab.ret<|?_
 obtain rfl:=h
 exact hP J J
theorem wi [GI:bN] {aa:Campaign} {r:Int} (h:lX aa=some r):Pu Tryz.prog 15 [Campaign.av aa] (I r):=by
 unfold lX at h
 refine aP.bI Tryz.func15 J Tryz.ntmps15 Tryz.results15 J J ?_
 refine aJ<|dp J J J J fun b1=>rA J J<|rN<|tS<|aJ<|rF J J J<|rL J J .p0 J J<|aH h fun v2 e1 h=>aT J (zP e1) cR J<|ae.qv (cu J) J<|rN<|cB h J (fun h=>?_) (fun h=>?_)
 ·refine aJ<|rA J J<|rN<|ab.ret<|?_
  cases h
  exact hP J J
 ·refine tK<|tS<|aJ<|rF J J J<|ae.qv (aO J J .p0 J J) J<|aT J (nP J) cR J<|rA J J<|rN<|aJ<|rM J J<|ae.qv (o9 J J) J<|rN<|cD h J (fun h=>?_) (fun h=>?_)
  ·refine aJ<|rM J J<|rA J J<|rN<|ab.ret<|?_
   cases h
   exact hP J J
  ·refine tK<|tS<|ab.block<|aJ<|rF J J J<|rL J J .p0 J J<|aT J (AL J) cR J<|ae.qv (cu J) J<|rA J J<|rN<|cB h J (fun h=>?_) (fun h=>?_)
   ·refine aJ<|rA J J<|rN<|ab.ret<|?_
    cases h
    exact hP J J
   ·refine aJ<|rF J J J<|rL J J .p0 J J<|ae.qv (ca J) J<|ae.qv (dt J J) J<|rA J J<|rN<|cD h J (fun h=>?_) (fun h=>?_)
    ·refine aJ<|rA J J<|rN<|ab.ret<|?_
     cases h
     exact hP J J
    ·refine aJ<|rF J J J<|rL J J .p0 J J<|ae.qv (ca J) J<|ae.qv (eM J J) J<|rA J J<|rN<|cD h J (fun h=>?_) (fun h=>?_)
     ·refine aJ<|rA J J<|rN<|ab.ret<|?_
      cases h
      exact hP J J
     ·refine tK<|ab.cw<|aJ<|rA J J<|rN<|tS<|aJ<|rF J J J<|rL J J .p0 J J<|ae.qv (ca J) J<|rM J J<|rN<|ab.block<|ab.cx (fun x:Int×Int=>lu aa x.1 x.2) (fun x aK=>aK=⟨88,[(1,.ptr b1 0),(4,I x.1),(33,p9 aa.aR),(34,I (aa.aR.length:Int)),(35,I x.2)],[(b1,.cells (Cq aa))]⟩) h ?_ ?_
      ·exact aj.lq [0] J J J
      ·intro x z1 aK J1 dY h jl dQ
       obtain ⟨n5,n6⟩:=x
       obtain rfl:=dY
       replace h:lu aa n5 n6=some z1:=h
       unfold lu at h
       refine aJ<|ae.qv (bO J J) J<|rN<|tS<|cD h J (fun h=>?_) (fun h=>?_)
       ·refine tK<|tS<|ab.block<|aJ<|aH h fun v7 e2 h=>ae.qv (bG J J J e2 J J) J<|ae.qv (aL J J J) J<|bH J J J J fun b8=>ay J J J J .p0 J J<|rN<|tS<|tS<|ab.cut (fun aK=>∃ (c9:Bool),og n5 n6 v7 c9=some z1∧aK=⟨88,[(1,.ptr b1 0),(4,I n5),(6,.ptr b8 0),(33,p9 aa.aR),(34,I (aa.aR.length:Int)),(35,I n6),(60,.bool c9)],[(b1,.cells (Cq aa)),(b8,.cells (cE2 v7))]⟩) ?_ ?_
        ·refine tR<|rF J J J<|rL J J .p0 J J<|aT J (rk J) cR J<|ae.qv (cu J) J<|rM J J<|ae.guard J J J (fun hc=>?_) (fun hc=>?_)
         ·rw [vI hc] at h
          refine rF J J J<|rY J J J<|rL J J .p0 J J<|rY J J J<|aT J (rk J) cR J<|rY J J J<|ae.qv (cu J) J<|rE J J J<|rM J J<|ae.guard J J J (fun hc=>?_) (fun hc=>?_)
          ·rw [vI hc] at h
           refine rF J J J<|rY J J J<|rL J J .p0 J J<|rY J J J<|aT J (rk J) cR J<|rY J J J<|ae.qv (cu J) J<|rE J J J<|rM J J<|ae.guard J J J (fun hc=>?_) (fun hc=>?_)
           ·rw [vI hc] at h
            exact rF J J J<|rY J J J<|rL J J .p0 J J<|rY J J J<|aT J (rk J) cR J<|rY J J J<|ae.qv (cu J) J<|rE J J J<|rN<|ab.stop<|aj.lq [1,0] ⟨!(vK v7.et 0 1000),h,J⟩ J J
           ·rw [vH hc] at h
            exact rG J J J J<|rG J J J J<|rG J J J J<|rT J J J<|rN<|ab.stop<|aj.lq [1,0] ⟨true,h,J⟩ J J
          ·rw [vH hc] at h
           exact rG J J J J<|rG J J J J<|rG J J J J<|rT J J J<|rM J J<|rG J J J J<|rG J J J J<|rG J J J J<|rG J J J J<|rT J J J<|rN<|ab.stop<|aj.lq [1,0] ⟨true,h,J⟩ J J
         ·rw [vH hc] at h
          exact rG J J J J<|rG J J J J<|rG J J J J<|rT J J J<|rM J J<|rG J J J J<|rG J J J J<|rG J J J J<|rG J J J J<|rT J J J<|rM J J<|rG J J J J<|rG J J J J<|rG J J J J<|rG J J J J<|rT J J J<|rN<|ab.stop<|aj.lq [1,0] ⟨true,h,J⟩ J J
        ·rintro aK ⟨c9,h,rfl⟩
         unfold og at h
         refine cB h J (fun h=>?_) (fun h=>?_)
         ·refine aJ<|rA J J<|rN<|ab.ret<|have h:=bT h dQ;?_
          cases h
          exact hP J J
         ·refine tK<|tR<|rM J J<|rF J J J<|rL J J .p1 J J<|ae.qv (bq J J) J<|rA J J<|rN<|ab.cw<|tR<|ae.qv (bq J J) J<|rM J J<|rN<|ab.stop<|?_
          cases h
          exact jl _ _ J<|aj.lq [0] J J J
       ·refine ab.exit J<|have h:=bT h dQ;?_
        unfold re at h
        refine tS<|ab.block<|aJ<|rM J J<|ae.qv (o9 J J) J<|rA J J<|rN<|cD h J (fun h=>?_) (fun h=>?_)
        ·refine aJ<|rA J J<|rN<|ab.ret<|?_
         cases h
         exact hP J J
        ·refine tS<|ab.cut (fun aK=>∃ (Qx:Bool),oh Qx=some r∧aK=⟨88,[(69,.bool Qx)],[]⟩) ?_ ?_
         ·refine tR<|rF J J J<|rF J J J<|rL J J .p0 J J<|aT J (rk J) cR J<|ae.qv (cu J) J<|rM J J<|ae.guard J J J (fun hc=>?_) (fun hc=>?_)
          ·rw [vI hc] at h
           refine rF J J J<|rY J J J<|rF J J J<|rY J J J<|rL J J .p0 J J<|rY J J J<|aT J (rk J) cR J<|rY J J J<|ae.qv (cu J) J<|rE J J J<|rM J J<|ae.guard J J J (fun hc=>?_) (fun hc=>?_)
           ·rw [vI hc] at h
            exact rF J J J<|rY J J J<|rL J J .p0 J J<|rY J J J<|aT J (rk J) cR J<|rY J J J<|ae.qv (cu J) J<|rE J J J<|rA J J<|rN<|ab.stop<|aj.lq [] ⟨!(vK aa.Room 1 500),h,J⟩ J J
           ·rw [vH hc] at h
            exact rG J J J J<|rG J J J J<|rG J J J J<|rT J J J<|rA J J<|rN<|ab.stop<|aj.lq [] ⟨true,h,J⟩ J J
          ·rw [vH hc] at h
           exact rG J J J J<|rG J J J J<|rG J J J J<|rG J J J J<|rT J J J<|rM J J<|rG J J J J<|rG J J J J<|rG J J J J<|rG J J J J<|rT J J J<|rA J J<|rN<|ab.stop<|aj.lq [] ⟨true,h,J⟩ J J
         ·rintro aK ⟨Qx,h,rfl⟩
          unfold oh at h
          refine cB h J (fun h=>?_) (fun h=>?_)
          ·refine aJ<|rA J J<|rN<|ab.ret<|?_
           cases h
           exact hP J J
          ·refine tK<|ab.cw<|aJ<|rA J J<|rN<|ab.ret<|?_
           cases h
           exact hP J J
theorem yi [GI:bN] {aa r:Int} (h:kH aa=r):Pu Tryz.prog 16 [I aa] (I r):=by
 unfold kH at h
 refine aP.bI Tryz.func16 J Tryz.ntmps16 Tryz.results16 J J ?_
 refine aJ<|rA J J<|rN<|aJ<|rM J J<|aT J (AL J) cR J<|ae.qv (cu J) J<|aT J (E0 J) cR J<|rA J J<|rN<|ab.ret<|?_
 obtain rfl:=h
 exact hP J J
theorem JQ [GI:bN] {aa:List Int} {r:Int} (h:Cn aa=some r):Pu Tryz.prog 14 [eJ aa] (I r):=by
 unfold Cn at h
 refine aP.bI Tryz.func14 J Tryz.ntmps14 Tryz.results14 J J ?_
 refine aJ<|rA J J<|rN<|tS<|aJ<|rM J J<|ae.qv (ca J) J<|rM J J<|rN<|ab.block<|ab.cx (fun x:Int=>zK aa x) (fun x aK=>aK=⟨15,[(5,eJ aa),(6,I (aa.length:Int)),(7,I x)],[]⟩) h ?_ ?_
 ·exact aj.lq [] J J J
 ·intro n2 z1 aK J1 dY h jl dQ
  obtain rfl:=dY
  replace h:zK aa n2=some z1:=h
  unfold zK at h
  refine aJ<|ae.qv (bO J J) J<|rN<|tS<|cD h J (fun h=>?_) (fun h=>?_)
  ·refine tK<|tS<|ab.block<|aJ<|aH h fun v3 e1 h=>ae.qv (bG J J J e1 J J) J<|ae.qv (aQ J J J) J<|rA J J<|rN<|aJ<|rM J J<|ae.qv (o9 J J) J<|rN<|cD h J (fun h=>?_) (fun h=>?_)
   ·refine aJ<|rM J J<|rA J J<|rN<|ab.ret<|have h:=bT h dQ;?_
    cases h
    exact hP J J
   ·refine tK<|ab.cw<|tR<|ae.qv (bq J J) J<|rM J J<|rN<|ab.stop<|?_
    cases h
    exact jl _ _ J<|aj.lq [] J J J
  ·refine ab.exit J<|have h:=bT h dQ;aJ<|rA J J<|rN<|ab.ret<|?_
   cases h
   exact hP J J
theorem JR [GI:bN] {aa:Range} {ai:Version} {r:Bool} (h:sY aa ai=some r):Pu Tryz.prog 132 [Range.av aa,.ch [I ai.aA,I ai.aC,I ai.aD]] (.bool r):=by
 unfold sY at h
 refine aP.bI Tryz.func132 J Tryz.ntmps132 Tryz.results132 J J ?_
 refine aJ<|dp J J J J fun b1=>rA J J<|rN<|tS<|ab.cut (fun aK=>∃ (c2:Bool),pW c2=some r∧aK=⟨16,[(3,.bool c2)],[]⟩) ?_ ?_
 ·refine tR<|rF J J J<|ae.qv (aO J J .p0 J J) J<|ae.qv (aL J J J) J<|aH h fun v3 e1 h=>aT J (jm e1) cR J<|ae.qv (pn J J) J<|rM J J<|gT h J J J (fun h=>?_) (fun h=>?_)
  ·exact ae.qv (aL J J J) J<|rY J J J<|rF J J J<|rY J J J<|ae.qv (aO J J .p0 J J) J<|rY J J J<|aH h fun v4 e2 h=>aT J (jm e2) cR J<|rY J J J<|ae.qv (pn J J) J<|rT J J J<|rA J J<|rN<|ab.stop<|aj.lq [] ⟨decide (v4≤0),h,J⟩ J J
  ·exact rG J J J J<|rG J J J J<|rG J J J J<|rG J J J J<|rE J J J<|rA J J<|rN<|ab.stop<|aj.lq [] ⟨false,h,J⟩ J J
 ·rintro aK ⟨c2,h,rfl⟩
  unfold pW at h
  refine ab.ret<|?_
  cases h
  exact hP J J
theorem JS [GI:bN] {aa:an} {ai:Version} {r:Bool} (h:xM aa ai=some r):Pu Tryz.prog 102 [an.av aa,Version.av ai] (.bool r):=by
 unfold xM at h
 refine aP.bI Tryz.func102 J Tryz.ntmps102 Tryz.results102 J J ?_
 refine aJ<|dp J J J J fun b1=>dp J J J J fun b2=>rA J J<|rN<|aJ<|rF J J J<|rL J J .p1 J J<|ae.qv (mC J) J<|aH h fun v3 e1 h=>fk J (lL (fun e=>JR e) e1) (.cons (.co (.refl _)) (.cons (.Bf _ _ _ (.cons (.xC _ _ _ .p0 (.cons (.co (.refl _)) (.cons (.co (.refl _)) (.cons (.co (.refl _)) .nil)))) .nil)) .nil)) J J<|rA J J<|rN<|ab.ret<|?_
 cases h
 exact hP J J
theorem Dz [GI:bN] {aa:an} {r:Int} (h:qu aa=some r):Pu Tryz.prog 57 [an.av aa] (I r):=by
 unfold qu at h
 refine aP.bI Tryz.func57 J Tryz.ntmps57 Tryz.results57 J J ?_
 refine aJ<|dp J J J J fun b1=>rA J J<|rN<|tS<|aJ<|rF J J J<|rL J J .p0 J J<|ae.qv (ca J) J<|ae.qv (eM J J) J<|rN<|cD h J (fun h=>?_) (fun h=>?_)
 ·refine aJ<|rA J J<|rN<|ab.ret<|?_
  cases h
  exact hP J J
 ·refine tK<|tS<|aJ<|rF J J J<|rL J J .p0 J J<|ae.qv (ca J) J<|rM J J<|rN<|ab.block<|ab.cx (fun x:Int=>nB aa x) (fun x aK=>aK=⟨64,[(1,.ptr b1 0),(13,QB aa.bS),(14,I (aa.bS.length:Int)),(15,I x)],[(b1,.cells (ET aa))]⟩) h ?_ ?_
  ·exact aj.lq [0] J J J
  ·intro n3 z1 aK J1 dY h jl dQ
   obtain rfl:=dY
   replace h:nB aa n3=some z1:=h
   unfold nB at h
   refine aJ<|ae.qv (bO J J) J<|rN<|tS<|cD h J (fun h=>?_) (fun h=>?_)
   ·refine tK<|tS<|ab.block<|aJ<|rM J J<|aH h fun v4 e1 h=>ae.qv (bG J J J e1 J J) J<|ae.qv (aL J J J) J<|bH J J J J fun b5=>rA J J<|ay J J J J .p0 J J<|rN<|tS<|aJ<|rF J J J<|ae.qv (aO J J .p0 J J) J<|rF J J J<|ae.qv (aO J J .p0 J J) J<|aW (xs:=([v4.wC,v4.mI]:List Version).map Version.av) J J J J J J<|ae.qv (ca J) J<|rM J J<|rN<|ab.block<|ab.cx (fun x:Int=>eU aa n3 v4 x) (fun x aK=>aK=⟨64,[(1,.ptr b1 0),(3,I n3),(4,.ptr b5 0),(13,QB aa.bS),(14,I (aa.bS.length:Int)),(15,I n3),(24,sK [v4.wC,v4.mI]),(25,I ([v4.wC,v4.mI].length:Int)),(26,I x)],[(b1,.cells (ET aa)),(b5,.cells (cE4 v4))]⟩) h ?_ ?_
    ·exact aj.lq [1,0] J J J
    ·intro n7 z2 aK J2 dY h yr wE
     obtain rfl:=dY
     replace h:eU aa n3 v4 n7=some z2:=h
     unfold eU at h
     refine aJ<|ae.qv (bO J J) J<|rN<|tS<|cD h J (fun h=>?_) (fun h=>?_)
     ·refine tK<|tS<|ab.block<|aJ<|aH h fun v8 e2 h=>ae.qv (bG J J J e2 J J) J<|ae.qv (aL J J J) J<|bH J J J J fun b9=>ay J J J J .p0 J J<|rN<|aJ<|ae.qv (aG J J .p0 J) J<|aT J (nP J) cR J<|rA J J<|rN<|aJ<|rM J J<|ae.qv (o9 J J) J<|rN<|cD h J (fun h=>?_) (fun h=>?_)
      ·refine aJ<|rM J J<|rA J J<|rN<|ab.ret<|have h:=bT h wE;have h:=bT h dQ;?_
       cases h
       exact hP J J
      ·refine tK<|ab.cw<|tR<|ae.qv (bq J J) J<|rM J J<|rN<|ab.stop<|?_
       cases h
       exact yr _ _ J<|aj.lq [1,1] J J J
     ·refine ab.exit J<|have h:=bT h wE;?_
      unfold pX at h
      refine ab.block<|aJ<|rF J J J<|ae.qv (aO J J .p1 J J) J<|rF J J J<|ae.qv (aO J J .p1 J J) J<|aH h fun v10 e3 h=>aT J (jm e3) cR J<|ae.qv (eM J J) J<|rA J J<|rN<|cD h J (fun h=>?_) (fun h=>?_)
      ·refine aJ<|rA J J<|rN<|ab.ret<|have h:=bT h dQ;?_
       cases h
       exact hP J J
      ·refine tS<|ab.cut (fun aK=>∃ (Cl:Bool),nA n3 Cl=some z1∧aK=⟨64,[(1,.ptr b1 0),(13,QB aa.bS),(14,I (aa.bS.length:Int)),(15,I n3),(43,.bool Cl)],[(b1,.cells (ET aa))]⟩) ?_ ?_
       ·refine ab.cU (id:=15) (A:=[0,1,3,7,15,7,39,7,135,487,999,2023,4095,8191,16383,32767]) 16 mixed J (by kernel_rfl) (by kernel_rfl)<|AM.qv (aM J) J<|AM.qv (eM J J) J<|AM.qv (aM J) J<|AM.dw J J J (fun hc=>?_) (fun hc=>?_)
        ·exact have h:=pj hc h;AM.qv (az J J) J<|AM.au J J J<|AM.qv (aO J J .p1 J J) J<|AM.au J J J<|AM.qv (az J J) J<|AM.au J J J<|AM.qv (aN J J .p0 J) J<|AM.au J J J<|AM.qv (aM J) J<|AM.au J J J<|AM.qv (eK J J) J<|AM.au J J J<|aH h fun v12 e4 h=>AM.qv (bG J J J e4 J J) J<|AM.au J J J<|AM.qv (bf J J) J<|AM.au J J J<|AM.qv (aL J J J) J<|AM.au J J J<|aH h fun gy e5 h=>AM.iX J (jm e5) cR J<|AM.au J J J<|AM.qv (pn J J) J<|AM.qv (fP J J) J<|AM.qv (bR J) J<|AM.nil<|rN<|ab.stop<|aj.lq [0] ⟨decide (gy≤0),h,J⟩ J J
        ·exact have h:=zZ hc h;AM.ar J J J J<|AM.ar J J J J<|AM.ar J J J J<|AM.ar J J J J<|AM.ar J J J J<|AM.ar J J J J<|AM.ar J J J J<|AM.ar J J J J<|AM.ar J J J J<|AM.ar J J J J<|AM.qv (ed J J) J<|AM.qv (bR J) J<|AM.nil<|rN<|ab.stop<|aj.lq [0] ⟨false,h,J⟩ J J
       ·rintro aK ⟨Cl,h,rfl⟩
        unfold nA at h
        refine cB h J (fun h=>?_) (fun h=>?_)
        ·refine aJ<|rA J J<|rN<|ab.ret<|have h:=bT h dQ;?_
         cases h
         exact hP J J
        ·refine tK<|ab.cw<|ab.cw<|tR<|ae.qv (bq J J) J<|rM J J<|rN<|ab.stop<|?_
         cases h
         exact jl _ _ J<|aj.lq [0] J J J
   ·refine ab.exit J<|have h:=bT h dQ;?_
    unfold sZ at h
    refine tS<|aJ<|ae.qv (aG J J .p0 J) J<|rF J J J<|ae.qv (aO J J .p0 J J) J<|aH h fun qe e6 h=>aT J (JS e6) cR J<|rN<|cB h J (fun h=>?_) (fun h=>?_)
    ·refine aJ<|rA J J<|rN<|ab.ret<|?_
     cases h
     exact hP J J
    ·refine tK<|aJ<|rA J J<|rN<|ab.ret<|?_
     cases h
     exact hP J J
theorem DA [GI:bN] {aa:List an} {r:Int} (h:qx aa=some r):Pu Tryz.prog 17 [rP aa] (I r):=by
 unfold qx at h
 refine aP.bI Tryz.func17 J Tryz.ntmps17 Tryz.results17 J J ?_
 refine aJ<|rA J J<|rN<|tS<|aJ<|rM J J<|ae.qv (ca J) J<|ae.qv (eM J J) J<|rN<|cD h J (fun h=>?_) (fun h=>?_)
 ·refine aJ<|rA J J<|rN<|ab.ret<|?_
  cases h
  exact hP J J
 ·refine tK<|tS<|aJ<|rM J J<|ae.qv (ca J) J<|rM J J<|rN<|ab.block<|ab.cx (fun x:Int=>nE aa x) (fun x aK=>aK=⟨84,[(0,rP aa),(12,rP aa),(13,I (aa.length:Int)),(14,I x)],[]⟩) h ?_ ?_
  ·exact aj.lq [] J J J
  ·intro n2 z1 aK J1 dY h jl dQ
   obtain rfl:=dY
   replace h:nE aa n2=some z1:=h
   unfold nE at h
   refine aJ<|ae.qv (bO J J) J<|rN<|tS<|cD h J (fun h=>?_) (fun h=>?_)
   ·refine tK<|tS<|ab.block<|aJ<|rM J J<|aH h fun v3 e1 h=>ae.qv (bG J J J e1 J J) J<|ae.qv (aL J J J) J<|bH J J J J fun b4=>rA J J<|ay J J J J .p0 J J<|rN<|tS<|aJ<|rF J J J<|ae.qv (aO J J .p0 J J) J<|aT J (nP J) cR J<|rA J J<|rN<|aJ<|rM J J<|ae.qv (o9 J J) J<|rN<|cD h J (fun h=>?_) (fun h=>?_)
    ·refine aJ<|rM J J<|rA J J<|rN<|ab.ret<|have h:=bT h dQ;?_
     cases h
     exact hP J J
    ·refine tK<|tS<|ab.block<|tS<|ab.cut (fun aK=>∃ (c5:Bool),kP n2 v3 c5=some z1∧aK=⟨84,[(0,rP aa),(4,.ptr b4 0),(12,rP aa),(13,I (aa.length:Int)),(14,I n2),(25,.bool c5)],[(b4,.cells (ET v3))]⟩) ?_ ?_
     ·refine ab.cU (id:=9) (A:=[0,1,3,7,7,23,63,127,255,7,519,2047,4095,8191,16383]) 15 mixed J (by kernel_rfl) (by kernel_rfl)<|AM.qv (aM J) J<|AM.qv (eM J J) J<|AM.qv (aM J) J<|AM.dw J J J (fun hc=>?_) (fun hc=>?_)
      ·exact have h:=pj hc h;AM.qv (aM J) J<|AM.au J J J<|AM.qv (aM J) J<|AM.au J J J<|AM.qv (eK J J) J<|AM.au J J J<|aH h fun v6 e2 h=>AM.qv (bG J J J e2 J J) J<|AM.au J J J<|AM.qv (bf J J) J<|AM.au J J J<|AM.qv (kL J J J J) J<|AM.au J J J<|AM.qv (az J J) J<|AM.au J J J<|AM.qv (aO J J .p0 J J) J<|AM.au J J J<|aH h fun v7 e3 h=>AM.iX J (jm e3) cR J<|AM.au J J J<|AM.qv (nU J J) J<|AM.qv (fP J J) J<|AM.qv (bR J) J<|AM.nil<|rN<|ab.stop<|aj.lq [0] ⟨decide (0≤v7),h,J⟩ J J
      ·exact have h:=zZ hc h;AM.ar J J J J<|AM.ar J J J J<|AM.ar J J J J<|AM.ar J J J J<|AM.ar J J J J<|AM.ar J J J J<|AM.ar J J J J<|AM.ar J J J J<|AM.ar J J J J<|AM.qv (ed J J) J<|AM.qv (bR J) J<|AM.nil<|rN<|ab.stop<|aj.lq [0] ⟨false,h,J⟩ J J
     ·rintro aK ⟨c5,h,rfl⟩
      unfold kP at h
      refine cB h J (fun h=>?_) (fun h=>?_)
      ·refine aJ<|rA J J<|rN<|ab.ret<|have h:=bT h dQ;?_
       cases h
       exact hP J J
      ·refine aJ<|rF J J J<|rL J J .p0 J J<|ae.qv (ca J) J<|ae.qv (dt J J) J<|rA J J<|rN<|cD h J (fun h=>?_) (fun h=>?_)
       ·refine aJ<|rA J J<|rN<|ab.ret<|have h:=bT h dQ;?_
        cases h
        exact hP J J
       ·refine aJ<|rF J J J<|rL J J .p0 J J<|ae.qv (ca J) J<|ae.qv (eM J J) J<|rA J J<|rN<|cD h J (fun h=>?_) (fun h=>?_)
        ·refine aJ<|rA J J<|rN<|ab.ret<|have h:=bT h dQ;?_
         cases h
         exact hP J J
        ·refine tK<|ab.cw<|tS<|aJ<|rF J J J<|rL J J .p0 J J<|ae.qv (ca J) J<|rM J J<|rN<|ab.block<|ab.cx (fun x:Int=>nD n2 v3 x) (fun x aK=>aK=⟨84,[(0,rP aa),(4,.ptr b4 0),(12,rP aa),(13,I (aa.length:Int)),(14,I n2),(51,Du v3.dc),(52,I (v3.dc.length:Int)),(53,I x)],[(b4,.cells (ET v3))]⟩) h ?_ ?_
         ·exact aj.lq [0] J J J
         ·intro n9 z2 aK J2 dY h yr wE
          obtain rfl:=dY
          replace h:nD n2 v3 n9=some z2:=h
          unfold nD at h
          refine aJ<|ae.qv (bO J J) J<|rN<|tS<|cD h J (fun h=>?_) (fun h=>?_)
          ·refine tK<|tS<|ab.block<|aJ<|rM J J<|aH h fun v10 e4 h=>ae.qv (bG J J J e4 J J) J<|ae.qv (aQ J J J) J<|rA J J<|rA J J<|rN<|tS<|aJ<|rM J J<|aH h fun v11 e5 h=>aT J (zP e5) cR J<|ae.qv (cu J) J<|rN<|cB h J (fun h=>?_) (fun h=>?_)
           ·refine aJ<|rA J J<|rN<|ab.ret<|have h:=bT h wE;have h:=bT h dQ;?_
            cases h
            exact hP J J
           ·refine tK<|tS<|ab.cut (fun aK=>∃ (c12:Bool),nC n9 c12=some z2∧aK=⟨84,[(0,rP aa),(4,.ptr b4 0),(12,rP aa),(13,I (aa.length:Int)),(14,I n2),(51,Du v3.dc),(52,I (v3.dc.length:Int)),(53,I n9),(72,.bool c12)],[(b4,.cells (ET v3))]⟩) ?_ ?_
            ·refine tR<|rM J J<|ae.qv (eM J J) J<|rM J J<|gT h J J J (fun h=>?_) (fun h=>?_)
             ·exact rM J J<|rY J J J<|rF J J J<|rY J J J<|rL J J .p0 J J<|rY J J J<|rM J J<|rY J J J<|ae.qv (eK J J) J<|rY J J J<|aH h fun gy e6 h=>ae.qv (bG J J J e6 J J) J<|rY J J J<|ae.qv (aQ J J J) J<|rY J J J<|ae.qv (Hy J J) J<|rT J J J<|rN<|ab.stop<|aj.lq [0] ⟨Op.bytesLess v10 gy||v10==gy,h,J⟩ J J
             ·exact rG J J J J<|rG J J J J<|rG J J J J<|rG J J J J<|rG J J J J<|rG J J J J<|rG J J J J<|rE J J J<|rN<|ab.stop<|aj.lq [0] ⟨false,h,J⟩ J J
            ·rintro aK ⟨c12,h,rfl⟩
             unfold nC at h
             refine cB h J (fun h=>?_) (fun h=>?_)
             ·refine aJ<|rA J J<|rN<|ab.ret<|have h:=bT h wE;have h:=bT h dQ;?_
              cases h
              exact hP J J
             ·refine tK<|ab.cw<|tR<|ae.qv (bq J J) J<|rM J J<|rN<|ab.stop<|?_
              cases h
              exact yr _ _ J<|aj.lq [0] J J J
          ·refine ab.exit J<|have h:=bT h wE;?_
           unfold s9 at h
           refine tS<|aJ<|ae.qv (aG J J .p0 J) J<|aH h fun qe e7 h=>aT J (Dz e7) cR J<|rA J J<|rN<|aJ<|rM J J<|ae.qv (o9 J J) J<|rN<|cD h J (fun h=>?_) (fun h=>?_)
           ·refine aJ<|rM J J<|rA J J<|rN<|ab.ret<|have h:=bT h dQ;?_
            cases h
            exact hP J J
           ·refine tK<|aJ<|rF J J J<|rL J J .p0 J J<|aT J (rk J) cR J<|ae.qv (cu J) J<|rN<|cB h J (fun h=>?_) (fun h=>?_)
            ·refine aJ<|rA J J<|rN<|ab.ret<|have h:=bT h dQ;?_
             cases h
             exact hP J J
            ·refine tK<|ab.cw<|tR<|ae.qv (bq J J) J<|rM J J<|rN<|ab.stop<|?_
             cases h
             exact jl _ _ J<|aj.lq [] J J J
   ·refine ab.exit J<|have h:=bT h dQ;aJ<|rA J J<|rN<|ab.ret<|?_
    cases h
    exact hP J J
theorem E1 [GI:bN] {aa:List DeviceS} {r:Int} (h:sf aa=some r):Pu Tryz.prog 18 [ue aa] (I r):=by
 unfold sf at h
 refine aP.bI Tryz.func18 J Tryz.ntmps18 Tryz.results18 J J ?_
 refine aJ<|rA J J<|rN<|tS<|aJ<|rM J J<|ae.qv (ca J) J<|ae.qv (eM J J) J<|rN<|cD h J (fun h=>?_) (fun h=>?_)
 ·refine aJ<|rA J J<|rN<|ab.ret<|?_
  cases h
  exact hP J J
 ·refine tK<|aJ<|rA J J<|rN<|tS<|aJ<|rM J J<|ae.qv (ca J) J<|rM J J<|rN<|ab.block<|ab.cx (fun x:bn×Int=>lY aa x.1 x.2) (fun x aK=>aK=⟨51,[(3,.str x.1),(10,ue aa),(11,I (aa.length:Int)),(12,I x.2)],[]⟩) h ?_ ?_
  ·exact aj.lq [] J J J
  ·intro x z1 aK J1 dY h jl dQ
   obtain ⟨q3,n4⟩:=x
   obtain rfl:=dY
   replace h:lY aa q3 n4=some z1:=h
   unfold lY at h
   refine aJ<|ae.qv (bO J J) J<|rN<|tS<|cD h J (fun h=>?_) (fun h=>?_)
   ·refine tK<|tS<|ab.block<|aJ<|aH h fun v5 e1 h=>ae.qv (bG J J J e1 J J) J<|ae.qv (aL J J J) J<|bH J J J J fun b6=>ay J J J J .p0 J J<|rN<|tS<|ab.block<|tS<|ab.cut (fun aK=>∃ (c7:Bool),j9 q3 n4 v5 c7=some z1∧aK=⟨51,[(3,.str q3),(5,.ptr b6 0),(10,ue aa),(11,I (aa.length:Int)),(12,I n4),(16,.bool c7)],[(b6,.cells (Tx v5))]⟩) ?_ ?_
    ·refine tR<|rF J J J<|rL J J .p0 J J<|aH h fun v8 e2 h=>aT J (zP e2) cR J<|ae.qv (cu J) J<|rM J J<|ae.guard J J J (fun hc=>?_) (fun hc=>?_)
     ·refine have h:=ry hc h;rF J J J<|rY J J J<|rL J J .p0 J J<|rY J J J<|aH h fun v9 e3 h=>aT J (zP e3) cR J<|rY J J J<|ae.qv (cu J) J<|rE J J J<|rM J J<|ae.guard J J J (fun hc=>?_) (fun hc=>?_)
      ·exact have h:=ry hc h;rF J J J<|rY J J J<|rL J J .p0 J J<|rY J J J<|aH h fun v10 e4 h=>aT J (zP e4) cR J<|rY J J J<|ae.qv (cu J) J<|rE J J J<|rA J J<|rN<|ab.stop<|aj.lq [0] ⟨!v10,h,J⟩ J J
      ·exact have h:=pj hc h;rG J J J J<|rG J J J J<|rG J J J J<|rT J J J<|rA J J<|rN<|ab.stop<|aj.lq [0] ⟨true,h,J⟩ J J
     ·exact have h:=pj hc h;rG J J J J<|rG J J J J<|rG J J J J<|rT J J J<|rM J J<|rG J J J J<|rG J J J J<|rG J J J J<|rG J J J J<|rT J J J<|rA J J<|rN<|ab.stop<|aj.lq [0] ⟨true,h,J⟩ J J
    ·rintro aK ⟨c7,h,rfl⟩
     unfold j9 at h
     refine cB h J (fun h=>?_) (fun h=>?_)
     ·refine aJ<|rA J J<|rN<|ab.ret<|have h:=bT h dQ;?_
      cases h
      exact hP J J
     ·refine aJ<|rF J J J<|rL J J .p0 J J<|rM J J<|ae.qv (Hy J J) J<|rA J J<|rN<|cB h J (fun h=>?_) (fun h=>?_)
      ·refine aJ<|rA J J<|rN<|ab.ret<|have h:=bT h dQ;?_
       cases h
       exact hP J J
      ·refine tK<|ab.cw<|aJ<|rF J J J<|rL J J .p0 J J<|rA J J<|rN<|tS<|aJ<|rF J J J<|ae.qv (aO J J .p0 J J) J<|aT J (nP J) cR J<|rA J J<|rN<|aJ<|rM J J<|ae.qv (o9 J J) J<|rN<|cD h J (fun h=>?_) (fun h=>?_)
       ·refine aJ<|rM J J<|rA J J<|rN<|ab.ret<|have h:=bT h dQ;?_
        cases h
        exact hP J J
       ·refine tK<|aJ<|rF J J J<|rL J J .p0 J J<|ae.qv (ca J) J<|ae.qv (eM J J) J<|rN<|cD h J (fun h=>?_) (fun h=>?_)
        ·refine aJ<|rA J J<|rN<|ab.ret<|have h:=bT h dQ;?_
         cases h
         exact hP J J
        ·refine tK<|ab.cw<|tR<|ae.qv (bq J J) J<|rM J J<|rN<|ab.stop<|?_
         cases h
         exact jl _ _ J<|aj.lq [] J J J
   ·refine ab.exit J<|have h:=bT h dQ;aJ<|rA J J<|rN<|ab.ret<|?_
    cases h
    exact hP J J
theorem E2 [GI:bN] {aa:List MarkS} {r:Int} (h:sg aa=some r):Pu Tryz.prog 19 [uf aa] (I r):=by
 unfold sg at h
 refine aP.bI Tryz.func19 J Tryz.ntmps19 Tryz.results19 J J ?_
 refine aJ<|rA J J<|rN<|tS<|aJ<|rM J J<|ae.qv (ca J) J<|ae.qv (eM J J) J<|rN<|cD h J (fun h=>?_) (fun h=>?_)
 ·refine aJ<|rA J J<|rN<|ab.ret<|?_
  cases h
  exact hP J J
 ·refine tK<|tS<|aJ<|rM J J<|ae.qv (ca J) J<|rM J J<|rN<|ab.block<|ab.cx (fun x:Int=>iM aa x) (fun x aK=>aK=⟨50,[(0,uf aa),(9,uf aa),(10,I (aa.length:Int)),(11,I x)],[]⟩) h ?_ ?_
  ·exact aj.lq [] J J J
  ·intro n2 z1 aK J1 dY h jl dQ
   obtain rfl:=dY
   replace h:iM aa n2=some z1:=h
   unfold iM at h
   refine aJ<|ae.qv (bO J J) J<|rN<|tS<|cD h J (fun h=>?_) (fun h=>?_)
   ·refine tK<|tS<|ab.block<|aJ<|rM J J<|aH h fun v3 e1 h=>ae.qv (bG J J J e1 J J) J<|ae.qv (aL J J J) J<|bH J J J J fun b4=>rA J J<|ay J J J J .p0 J J<|rN<|tS<|ab.block<|aJ<|rF J J J<|rL J J .p0 J J<|aT J (AL J) cR J<|ae.qv (cu J) J<|rA J J<|rN<|cB h J (fun h=>?_) (fun h=>?_)
    ·refine aJ<|rA J J<|rN<|ab.ret<|have h:=bT h dQ;?_
     cases h
     exact hP J J
    ·refine aJ<|rF J J J<|rL J J .p0 J J<|aH h fun v5 e2 h=>aT J (zP e2) cR J<|ae.qv (cu J) J<|rA J J<|rN<|cB h J (fun h=>?_) (fun h=>?_)
     ·refine aJ<|rA J J<|rN<|ab.ret<|have h:=bT h dQ;?_
      cases h
      exact hP J J
     ·refine aJ<|rF J J J<|rL J J .p0 J J<|aT J (rk J) cR J<|ae.qv (cu J) J<|rA J J<|rN<|cB h J (fun h=>?_) (fun h=>?_)
      ·refine aJ<|rA J J<|rN<|ab.ret<|have h:=bT h dQ;?_
       cases h
       exact hP J J
      ·refine tK<|ab.cw<|tS<|aJ<|rF J J J<|ae.qv (aO J J .p0 J J) J<|aT J (nP J) cR J<|rA J J<|rN<|aJ<|rM J J<|ae.qv (o9 J J) J<|rN<|cD h J (fun h=>?_) (fun h=>?_)
       ·refine aJ<|rM J J<|rA J J<|rN<|ab.ret<|have h:=bT h dQ;?_
        cases h
        exact hP J J
       ·refine tK<|tS<|ab.cut (fun aK=>∃ (c6:Bool),oK n2 c6=some z1∧aK=⟨50,[(0,uf aa),(9,uf aa),(10,I (aa.length:Int)),(11,I n2),(48,.bool c6)],[]⟩) ?_ ?_
        ·refine ab.cU (id:=15) (A:=[0,1,3,7,7,23,63,127,7,511,1023,2047]) 12 mixed J (by kernel_rfl) (by kernel_rfl)<|AM.qv (aM J) J<|AM.qv (eM J J) J<|AM.qv (aM J) J<|AM.dw J J J (fun hc=>?_) (fun hc=>?_)
         ·exact have h:=pj hc h;AM.qv (aM J) J<|AM.au J J J<|AM.qv (aM J) J<|AM.au J J J<|AM.qv (eK J J) J<|AM.au J J J<|aH h fun v7 e3 h=>AM.qv (bG J J J e3 J J) J<|AM.au J J J<|AM.qv (aL J J J) J<|AM.au J J J<|AM.qv (aG J J .p0 J) J<|AM.au J J J<|AM.iX J (tJ J) cR J<|AM.au J J J<|AM.qv (nU J J) J<|AM.qv (fP J J) J<|AM.nil<|rN<|ab.stop<|aj.lq [] ⟨decide (0≤(ie v7 v3)),h,J⟩ J J
         ·exact have h:=zZ hc h;AM.ar J J J J<|AM.ar J J J J<|AM.ar J J J J<|AM.ar J J J J<|AM.ar J J J J<|AM.ar J J J J<|AM.ar J J J J<|AM.qv (ed J J) J<|AM.nil<|rN<|ab.stop<|aj.lq [] ⟨false,h,J⟩ J J
        ·rintro aK ⟨c6,h,rfl⟩
         unfold oK at h
         refine cB h J (fun h=>?_) (fun h=>?_)
         ·refine aJ<|rA J J<|rN<|ab.ret<|have h:=bT h dQ;?_
          cases h
          exact hP J J
         ·refine tK<|ab.cw<|tR<|ae.qv (bq J J) J<|rM J J<|rN<|ab.stop<|?_
          cases h
          exact jl _ _ J<|aj.lq [] J J J
   ·refine ab.exit J<|have h:=bT h dQ;aJ<|rA J J<|rN<|ab.ret<|?_
    cases h
    exact hP J J
theorem HW [GI:bN] {aa:Campaign} {ai:bn} {r:Int} (h:EP aa ai=some r):Pu Tryz.prog 67 [Campaign.av aa,.str ai] (I r):=by
 unfold EP at h
 refine aP.bI Tryz.func67 J Tryz.ntmps67 Tryz.results67 J J ?_
 refine aJ<|dp J J J J fun b1=>rA J J<|rN<|aJ<|rA J J<|rN<|tS<|aJ<|rF J J J<|rL J J .p0 J J<|aH h fun q2 e1 h=>ae.qv (Qe e1 J J) J<|rM J J<|aH h fun q3 e2 h=>ae.qv (Qe e2 J J) J<|N5 J J<|ae.qv (ca J) J<|rM J J<|rN<|ab.block<|ab.cx (fun x:Int×Int=>xd q3 x.1 x.2) (fun x aK=>aK=⟨31,[(5,.int .u64 x.1),(13,abP (rb q3)),(14,I ((rb q3).length:Int)),(15,I x.2)],[]⟩) h ?_ ?_
 ·exact aj.lq [] J J J
 ·intro x z1 aK J1 dY h jl dQ
  obtain ⟨n6,n7⟩:=x
  obtain rfl:=dY
  replace h:xd q3 n6 n7=some z1:=h
  unfold xd at h
  refine aJ<|ae.qv (bO J J) J<|rN<|tS<|cD h J (fun h=>?_) (fun h=>?_)
  ·refine tK<|tS<|ab.block<|aJ<|aH h fun v8 e3 h=>ae.qv (bG J J J e3 J J) J<|ae.qv (aQ J J J) J<|rA J J<|rN<|tR<|rM J J<|rM J J<|ae.qv (xD J) J<|ae.qv (Mq J J) J<|ae.qv (sR J J) J<|rA J J<|rN<|ab.cw<|tR<|ae.qv (bq J J) J<|rM J J<|rN<|ab.stop<|?_
   cases h
   exact jl _ _ J<|aj.lq [] J J J
  ·refine ab.exit J<|have h:=bT h dQ;aJ<|rM J J<|rM J J<|ae.qv (UD J J (by decide)) J<|ae.qv (Mq J J) J<|ae.qv (Gb J J (by decide)) J<|ae.qv (xD J) J<|rA J J<|rN<|ab.ret<|?_
   cases h
   exact hP J J
theorem vq [GI:bN] {aa:Campaign} {ai:bn} {r:Int} (h:sh aa ai=some r):Pu Tryz.prog 62 [Campaign.av aa,.str ai] (I r):=by
 unfold sh at h
 refine aP.bI Tryz.func62 J Tryz.ntmps62 Tryz.results62 J J ?_
 refine aJ<|dp J J J J fun b1=>rA J J<|rN<|aJ<|ae.qv (aG J J .p0 J) J<|rM J J<|aH h fun v2 e1 h=>aT J (HW e1) cR J<|rA J J<|rN<|tS<|aJ<|rF J J J<|rL J J .p0 J J<|ae.qv (ca J) J<|rM J J<|rN<|ab.block<|ab.cx (fun x:Int×Int=>tZ aa x.1 x.2) (fun x aK=>aK=⟨27,[(5,I x.1),(12,p9 aa.aR),(13,I (aa.aR.length:Int)),(14,I x.2)],[]⟩) h ?_ ?_
 ·exact aj.lq [] J J J
 ·intro x z1 aK J1 dY h jl dQ
  obtain ⟨n5,n6⟩:=x
  obtain rfl:=dY
  replace h:tZ aa n5 n6=some z1:=h
  unfold tZ at h
  refine aJ<|ae.qv (bO J J) J<|rN<|tS<|cD h J (fun h=>?_) (fun h=>?_)
  ·refine tK<|tS<|ab.block<|aJ<|rM J J<|aH h fun v7 e2 h=>ae.qv (bG J J J e2 J J) J<|ae.qv (aL J J J) J<|bH J J J J fun b8=>rA J J<|ay J J J J .p0 J J<|rN<|aJ<|rM J J<|rF J J J<|rL J J .p0 J J<|ae.qv (eK J J) J<|rA J J<|rN<|aJ<|rM J J<|ae.qv (bO J J) J<|rN<|cD h J (fun h=>?_) (fun h=>?_)
   ·refine aJ<|rM J J<|rA J J<|rN<|ab.ret<|have h:=bT h dQ;?_
    cases h
    exact hP J J
   ·refine tK<|ab.cw<|tR<|ae.qv (bq J J) J<|rM J J<|rN<|ab.stop<|?_
    cases h
    exact jl _ _ J<|aj.lq [] J J J
  ·refine ab.exit J<|have h:=bT h dQ;aJ<|rA J J<|rN<|ab.ret<|?_
   cases h
   exact hP J J
theorem xR [GI:bN] {aa:List Int} {ai r:Int} (h:jI aa ai=some r):Pu Tryz.prog 144 [eJ aa,I ai] (I r):=by
 unfold jI at h
 refine aP.bI Tryz.func144 J Tryz.ntmps144 Tryz.results144 J J ?_
 refine aJ<|rA J J<|rN<|tS<|aJ<|rM J J<|ae.qv (ca J) J<|rM J J<|rN<|ab.block<|ab.cx (fun x:Int=>cJ aa ai x) (fun x aK=>aK=⟨19,[(0,eJ aa),(1,I ai),(7,I (aa.length:Int)),(8,I x)],[]⟩) h ?_ ?_
 ·exact aj.lq [] J J J
 ·intro n2 z1 aK J1 dY h jl dQ
  obtain rfl:=dY
  replace h:cJ aa ai n2=some z1:=h
  unfold cJ at h
  refine aJ<|ae.qv (bO J J) J<|rN<|tS<|cD h J (fun h=>?_) (fun h=>?_)
  ·refine tK<|tS<|ab.block<|aJ<|rM J J<|rA J J<|rN<|aJ<|rM J J<|rM J J<|rM J J<|aH h fun v3 e1 h=>ae.qv (bG J J J e1 J J) J<|ae.qv (aQ J J J) J<|ae.qv (dt J J) J<|rN<|cD h J (fun h=>?_) (fun h=>?_)
   ·refine aJ<|rM J J<|rA J J<|rN<|ab.ret<|have h:=bT h dQ;?_
    cases h
    exact hP J J
   ·refine tK<|ab.cw<|tR<|ae.qv (bq J J) J<|rM J J<|rN<|ab.stop<|?_
    cases h
    exact jl _ _ J<|aj.lq [] J J J
  ·refine ab.exit J<|have h:=bT h dQ;aJ<|rA J J<|rN<|ab.ret<|?_
   cases h
   exact hP J J
theorem vM [GI:bN] {aa:List Int} {ai:Int} {r:Bool} (h:dF aa ai=some r):Pu Tryz.prog 116 [eJ aa,I ai] (.bool r):=by
 unfold dF at h
 refine aP.bI Tryz.func116 J Tryz.ntmps116 Tryz.results116 J J ?_
 refine aJ<|rA J J<|rN<|aJ<|rM J J<|rM J J<|aH h fun v1 e1 h=>aT J (xR e1) cR J<|ae.qv (nU J J) J<|rA J J<|rN<|ab.ret<|?_
 cases h
 exact hP J J
theorem BH [GI:bN] {aa:Campaign} {ai:bn} {aI:List MarkS} {bw:Int} {r:(List MarkS)} (h:ta aa ai aI bw=some r):aP Tryz.prog 77 [Campaign.av aa,.str ai,uf aI,I bw] [] (T1 (fun nO=>[(nO,sD r)]) (fun nO=>.sl 6 nO 0 r.length)):=by
 unfold ta at h
 refine aP.hC ?_
 refine aP.bI Tryz.func77 J Tryz.ntmps77 Tryz.results77 J J ?_
 refine aJ<|dp J J J J fun b1=>rA J J<|rN<|aJ<|rA J J<|rN<|tS<|aJ<|rM J J<|ae.qv (ca J) J<|rM J J<|rN<|ab.block<|ab.cx (fun x:(List MarkS)×Int=>oQ aa ai aI bw x.1 x.2) (fun x aK=>∃ (b5:Bk),aK=⟨79,[(1,.str ai),(3,I bw),(4,.ptr b1 0),(9,.sl 6 b5 0 x.1.length),(15,uf aI),(16,I (aI.length:Int)),(17,I x.2)],[(b1,.cells (Cq aa)),(b5,sD x.1)]⟩) h ?_ ?_
 ·exact aj.arr (s:=9) 6 J fun b8=>aj.lq [1,0] ⟨b8,J⟩ J J
 ·intro x z1 aK J1 dY h jl dQ
  obtain ⟨l6,n7⟩:=x
  obtain ⟨b5,rfl⟩:=dY
  replace h:oQ aa ai aI bw l6 n7=some z1:=h
  unfold oQ at h
  refine aJ<|ae.qv (bO J J) J<|rN<|tS<|cD h J (fun h=>?_) (fun h=>?_)
  ·refine tK<|tS<|ab.cut (fun aK=>∃ (b9:Bk) (l10:List MarkS),oO n7 l10=some z1∧aK=⟨79,[(1,.str ai),(3,I bw),(4,.ptr b1 0),(9,.sl 6 b9 0 l10.length),(15,uf aI),(16,I (aI.length:Int)),(17,I n7)],[(b1,.cells (Cq aa)),(b9,sD l10)]⟩) ?_ ?_
   ·refine ab.block<|aJ<|aH h fun v11 e1 h=>ae.qv (bG J J J e1 J J) J<|ae.qv (aL J J J) J<|bH J J J J fun kV=>ay J J J J .p0 J J<|rN<|tS<|tS<|ab.cut (fun aK=>∃ (Qz:Bool),mM l6 n7 v11 Qz=some z1∧aK=⟨79,[(1,.str ai),(3,I bw),(4,.ptr b1 0),(9,.sl 6 b5 0 l6.length),(11,.ptr kV 0),(15,uf aI),(16,I (aI.length:Int)),(17,I n7),(37,.bool Qz)],[(b1,.cells (Cq aa)),(b5,sD l6),(kV,.cells [I v11.At,.str v11.Device,I v11.Kind,I v11.Version.aA,I v11.Version.aC,I v11.Version.aD])]⟩) ?_ ?_
    ·refine tR<|rF J J J<|rL J J .p0 J J<|rM J J<|ae.qv (XH J J) J<|rM J J<|ae.dG J J J (fun hc=>?_) (fun hc=>?_)
     ·rw [wU hc] at h
      refine rF J J J<|rY J J J<|rL J J .p0 J J<|rY J J J<|rF J J J<|rY J J J<|rL J J .p1 J J<|rY J J J<|ae.qv (bO J J) J<|rE J J J<|rM J J<|ae.dG J J J (fun hc=>?_) (fun hc=>?_)
      ·rw [wU hc] at h
       exact rF J J J<|rY J J J<|rL J J .p0 J J<|rY J J J<|rM J J<|rY J J J<|ae.qv (eM J J) J<|rE J J J<|rN<|ab.stop<|aj.lq [1,1,0] ⟨decide (bw < v11.At),h,J⟩ J J
      ·rw [wT hc] at h
       exact rG J J J J<|rG J J J J<|rG J J J J<|rT J J J<|rN<|ab.stop<|aj.lq [1,1,0] ⟨true,h,J⟩ J J
     ·rw [wT hc] at h
      exact rG J J J J<|rG J J J J<|rG J J J J<|rG J J J J<|rT J J J<|rM J J<|rG J J J J<|rG J J J J<|rG J J J J<|rG J J J J<|rT J J J<|rN<|ab.stop<|aj.lq [1,1,0] ⟨true,h,J⟩ J J
    ·rintro aK ⟨Qz,h,rfl⟩
     unfold mM at h
     refine cB h J (fun h=>?_) (fun h=>?_)
     ·exact ab.exit J<|ab.stop<|aj.lq [0,0] ⟨b5,l6,h,J⟩ J J
     ·refine tK<|aJ<|bH J J J J fun DP=>rN<|tS<|aJ<|rM J J<|ae.qv (ee J) J<|ae.qv (eK J J) J<|rA J J<|rN<|aJ<|rM J J<|ae.qv (nU J J) J<|rN<|ab.cut (fun aK=>∃ (n15:Int) (q16:bn) (n17:Int) (n18:Int) (n19:Int) (n20:Int),oP l6 n7 v11 n15 q16 n17 n18 n19 n20=some z1∧aK=⟨79,[(1,.str ai),(3,I bw),(4,.ptr b1 0),(9,.sl 6 b5 0 l6.length),(11,.ptr kV 0),(12,.ptr DP 0),(15,uf aI),(16,I (aI.length:Int)),(17,I n7)],[(b1,.cells (Cq aa)),(b5,sD l6),(kV,.cells [I v11.At,.str v11.Device,I v11.Kind,I v11.Version.aA,I v11.Version.aC,I v11.Version.aD]),(DP,.cells [I n15,.str q16,I n17,I n18,I n19,I n20])]⟩) ?_ ?_
      ·refine cD h J (fun h=>?_) (fun h=>?_)
       ·exact tR<|rM J J<|rM J J<|aH h fun v21 e2 h=>ae.qv (bu J J J e2) J<|ae.qv (bP (g:=MarkS.av) J J (.inl .p2) J e2 J) J<|ay J J J J .p0 J J<|rN<|ab.stop<|aj.lq [1,1,1,0] ⟨v21.At,v21.Device,v21.Kind,v21.Version.aA,v21.Version.aC,v21.Version.aD,h,J⟩ J J
       ·exact tK<|ab.stop<|aj.lq [1,1,1,0] ⟨0,[],0,0,0,0,h,J⟩ J J
      ·rintro aK ⟨n15,q16,n17,n18,n19,n20,h,rfl⟩
       unfold oP at h
       refine aJ<|Lp (gk:=I) (kp:=(mX 1 I)) (β:=(fun _=>⟨none,0⟩)) J fun MW b23=>ku J J J J J J fun xe=>ae.ghost<|aj.yX (kp:=(mX 1 I)) (β:=(fun _=>⟨none,0⟩)) (M:=([]:List (Int×(List Int)))) 1 .p2<|aj.here<|w5 (gk:=I) (kp:=(mX 1 I)) (β:=(fun _=>⟨none,0⟩)) (M:=([]:List (Int×(List Int)))) (key:=1) (v:=[0,3,4]) (b:=xe) J J J J .p1<|ae.ghost<|aj.Bt (kp:=(mX 1 I)) (β:=(fun _=>⟨none,0⟩)) (M:=([]:List (Int×(List Int)))) (key:=1) (v:=[0,3,4]) J .p0 .p1<|aj.here<|ku J J J J J J fun Dv=>ae.ghost<|aj.yX (kp:=(mX 1 I)) (β:=(ia (fun _=>⟨none,0⟩) 1 xe)) (M:=(bW ([]:List (Int×(List Int))) 1 [0,3,4])) 2 .p2<|aj.here<|w5 (gk:=I) (kp:=(mX 1 I)) (β:=(ia (fun _=>⟨none,0⟩) 1 xe)) (M:=(bW ([]:List (Int×(List Int))) 1 [0,3,4])) (key:=2) (v:=[1]) (b:=Dv) J J J J .p1<|ae.ghost<|aj.Bt (kp:=(mX 1 I)) (β:=(ia (fun _=>⟨none,0⟩) 1 xe)) (M:=(bW ([]:List (Int×(List Int))) 1 [0,3,4])) (key:=2) (v:=[1]) J .p0 .p1<|aj.here<|ku J J J J J J fun zO=>ae.ghost<|aj.yX (kp:=(mX 1 I)) (β:=(ia (ia (fun _=>⟨none,0⟩) 1 xe) 2 Dv)) (M:=(bW (bW ([]:List (Int×(List Int))) 1 [0,3,4]) 2 [1])) 5 .p2<|aj.here<|w5 (gk:=I) (kp:=(mX 1 I)) (β:=(ia (ia (fun _=>⟨none,0⟩) 1 xe) 2 Dv)) (M:=(bW (bW ([]:List (Int×(List Int))) 1 [0,3,4]) 2 [1])) (key:=5) (v:=[1]) (b:=zO) J J J J .p1<|ae.ghost<|aj.Bt (kp:=(mX 1 I)) (β:=(ia (ia (fun _=>⟨none,0⟩) 1 xe) 2 Dv)) (M:=(bW (bW ([]:List (Int×(List Int))) 1 [0,3,4]) 2 [1])) (key:=5) (v:=[1]) J .p0 .p1<|aj.here<|ku J J J J J J fun Ca=>ae.ghost<|aj.yX (kp:=(mX 1 I)) (β:=(ia (ia (ia (fun _=>⟨none,0⟩) 1 xe) 2 Dv) 5 zO)) (M:=(bW (bW (bW ([]:List (Int×(List Int))) 1 [0,3,4]) 2 [1]) 5 [1])) 3 .p2<|aj.here<|w5 (gk:=I) (kp:=(mX 1 I)) (β:=(ia (ia (ia (fun _=>⟨none,0⟩) 1 xe) 2 Dv) 5 zO)) (M:=(bW (bW (bW ([]:List (Int×(List Int))) 1 [0,3,4]) 2 [1]) 5 [1])) (key:=3) (v:=[2]) (b:=Ca) J J J J .p1<|ae.ghost<|aj.Bt (kp:=(mX 1 I)) (β:=(ia (ia (ia (fun _=>⟨none,0⟩) 1 xe) 2 Dv) 5 zO)) (M:=(bW (bW (bW ([]:List (Int×(List Int))) 1 [0,3,4]) 2 [1]) 5 [1])) (key:=3) (v:=[2]) J .p0 .p1<|aj.here<|ku J J J J J J fun O2=>ae.ghost<|aj.yX (kp:=(mX 1 I)) (β:=(ia (ia (ia (ia (fun _=>⟨none,0⟩) 1 xe) 2 Dv) 5 zO) 3 Ca)) (M:=(bW (bW (bW (bW ([]:List (Int×(List Int))) 1 [0,3,4]) 2 [1]) 5 [1]) 3 [2])) 4 .p2<|aj.here<|w5 (gk:=I) (kp:=(mX 1 I)) (β:=(ia (ia (ia (ia (fun _=>⟨none,0⟩) 1 xe) 2 Dv) 5 zO) 3 Ca)) (M:=(bW (bW (bW (bW ([]:List (Int×(List Int))) 1 [0,3,4]) 2 [1]) 5 [1]) 3 [2])) (key:=4) (v:=[2]) (b:=O2) J J J J .p1<|ae.ghost<|aj.Bt (kp:=(mX 1 I)) (β:=(ia (ia (ia (ia (fun _=>⟨none,0⟩) 1 xe) 2 Dv) 5 zO) 3 Ca)) (M:=(bW (bW (bW (bW ([]:List (Int×(List Int))) 1 [0,3,4]) 2 [1]) 5 [1]) 3 [2])) (key:=4) (v:=[2]) J .p0 .p1<|aj.here<|rM J J<|rF J J J<|rL J J .p4 J J<|aH h fun qj e3 h=>N0 (gk:=I) (sz:=1) (g:=I) (β:=(ia (ia (ia (ia (ia (fun _=>⟨none,0⟩) 1 xe) 2 Dv) 5 zO) 3 Ca) 4 O2)) (M:=(bW (bW (bW (bW (bW ([]:List (Int×(List Int))) 1 [0,3,4]) 2 [1]) 5 [1]) 3 [2]) 4 [2])) (key:=v11.Kind) J J .p0 .p1 J e3 J fun b30 Wi=>rA J J<|rN<|tS<|ab.cut (fun aK=>∃ (c31:Bool),tD l6 n7 v11 c31=some z1∧aK=⟨79,[(1,.str ai),(3,I bw),(4,.ptr b1 0),(9,.sl 6 b5 0 l6.length),(11,.ptr kV 0),(15,uf aI),(16,I (aI.length:Int)),(17,I n7),(72,.bool c31)],[(b1,.cells (Cq aa)),(b5,sD l6),(kV,.cells [I v11.At,.str v11.Device,I v11.Kind,I v11.Version.aA,I v11.Version.aC,I v11.Version.aD])]⟩) ?_ ?_
       ·refine tR<|rM J J<|rF J J J<|rL J J .p6 J J<|aH h fun v32 e4 h=>fk J (vM e4) (.cons (lO.jX .p0) (.cons (.co (.refl _)) .nil)) J J<|rM J J<|ae.guard J J J (fun hc=>?_) (fun hc=>?_)
        ·rw [Gk hc] at h
         refine rF J J J<|rY J J J<|rL J J .p5 J J<|rY J J J<|ae.qv (dt J J) J<|rY J J J<|rM J J<|ae.dG J J J (fun hc=>?_) (fun hc=>?_)
         ·rw [wU hc] at h
          exact rF J J J<|rY J J J<|ae.qv (aO J J .p5 J J) J<|rY J J J<|rF J J J<|rY J J J<|ae.qv (aO J J .p6 J J) J<|rY J J J<|ae.qv (Eh (g:=Version.av) (X:=v11.Version) (Y:=(⟨n18,n19,n20⟩:Version)) J J J J J) J<|rY J J J<|rE J J J<|rT J J J<|ae.ghost<|aj.Qb (gk:=I) (sz:=1) (g:=I) (β:=(ia (ia (ia (ia (ia (fun _=>⟨none,0⟩) 1 xe) 2 Dv) 5 zO) 3 Ca) 4 O2)) (M:=(bW (bW (bW (bW (bW ([]:List (Int×(List Int))) 1 [0,3,4]) 2 [1]) 5 [1]) 3 [2]) 4 [2])) (key:=v11.Kind) (dC.inj Tryz.prog 3) e3 Wi .p1 .p0 .p1<|aj.here<|rN<|ab.stop<|aj.lq [2,2,2] ⟨decide (v11.Version=(⟨n18,n19,n20⟩:Version)),h,J⟩ J J
         ·rw [wT hc] at h
          exact rG J J J J<|rG J J J J<|rG J J J J<|rG J J J J<|rY J J J<|rT J J J<|rT J J J<|ae.ghost<|aj.Qb (gk:=I) (sz:=1) (g:=I) (β:=(ia (ia (ia (ia (ia (fun _=>⟨none,0⟩) 1 xe) 2 Dv) 5 zO) 3 Ca) 4 O2)) (M:=(bW (bW (bW (bW (bW ([]:List (Int×(List Int))) 1 [0,3,4]) 2 [1]) 5 [1]) 3 [2]) 4 [2])) (key:=v11.Kind) (dC.inj Tryz.prog 3) e3 Wi .p1 .p0 .p1<|aj.here<|rN<|ab.stop<|aj.lq [2,2,2] ⟨true,h,J⟩ J J
        ·rw [Gl hc] at h
         exact rG J J J J<|rG J J J J<|rG J J J J<|ae.aS J J J<|ae.aS J J J<|ae.aS J J J<|ae.aS J J J<|ae.aS J J J<|rG J J J J<|rE J J J<|ae.ghost<|aj.Qb (gk:=I) (sz:=1) (g:=I) (β:=(ia (ia (ia (ia (ia (fun _=>⟨none,0⟩) 1 xe) 2 Dv) 5 zO) 3 Ca) 4 O2)) (M:=(bW (bW (bW (bW (bW ([]:List (Int×(List Int))) 1 [0,3,4]) 2 [1]) 5 [1]) 3 [2]) 4 [2])) (key:=v11.Kind) (dC.inj Tryz.prog 3) e3 Wi .p1 .p0 .p1<|aj.here<|rN<|ab.stop<|aj.lq [2,2,2] ⟨false,h,J⟩ J J
       ·rintro aK ⟨c31,h,rfl⟩
        unfold tD at h
        refine ab.cut (fun aK=>∃ (YW:Bk) (V9:List MarkS),qy n7 V9=some z1∧aK=⟨79,[(1,.str ai),(3,I bw),(4,.ptr b1 0),(9,.sl 6 YW 0 V9.length),(15,uf aI),(16,I (aI.length:Int)),(17,I n7)],[(b1,.cells (Cq aa)),(YW,sD V9)]⟩) ?_ ?_
        ·refine cB h J (fun h=>?_) (fun h=>?_)
         ·exact tR<|rM J J<|ae.qv (aG J J .p2 J) J<|aW (xs:=([v11]:List MarkS).map MarkS.av) J J J J J J<|aH h fun sC e5 h=>fo (g:=MarkS.av) J J J J J J J J (.list _) e5 (fun _=>.p1) J fun EY=>rA J J<|rN<|ab.stop<|aj.lq [0,0] ⟨EY,sC,h,J⟩ J J
         ·exact tK<|ab.stop<|aj.lq [0,0] ⟨b5,l6,h,J⟩ J J
        ·rintro aK ⟨YW,V9,h,rfl⟩
         unfold qy at h
         exact ab.cw<|ab.stop<|aj.lq [0,0] ⟨YW,V9,h,J⟩ J J
   ·rintro aK ⟨b9,l10,h,rfl⟩
    unfold oO at h
    refine tR<|ae.qv (bq J J) J<|rM J J<|rN<|ab.stop<|?_
    cases h
    exact jl _ _ J<|aj.lq [0,0] ⟨b9,J⟩ J J
  ·refine ab.exit J<|have h:=bT h dQ;aJ<|rM J J<|rA J J<|rN<|ab.ret<|?_
   cases h
   exact hH J [1] J ⟨b5,J,J⟩
theorem FX [GI:bN] {aa:MarkS} {r:Bool} (h:mw aa=r):Pu Tryz.prog 134 [MarkS.av aa] (.bool r):=by
 unfold mw at h
 refine aP.bI Tryz.func134 J Tryz.ntmps134 Tryz.results134 J J ?_
 refine aJ<|dp J J J J fun b1=>rA J J<|rN<|tS<|ab.cut (fun aK=>∃ (c2:Bool),si c2=r∧aK=⟨11,[(2,.bool c2)],[]⟩) ?_ ?_
 ·refine tR<|rF J J J<|rL J J .p0 J J<|ae.qv (o9 J J) J<|rM J J<|ae.dw J J J (fun hc=>?_) (fun hc=>?_)
  ·rw [vc hc] at h
   exact rF J J J<|rY J J J<|rL J J .p0 J J<|rY J J J<|ae.qv (o9 J J) J<|rT J J J<|rA J J<|rN<|ab.stop<|aj.lq [] ⟨decide (aa.Kind≠4),h,J⟩ J J
  ·rw [vd hc] at h
   exact rG J J J J<|rG J J J J<|rE J J J<|rA J J<|rN<|ab.stop<|aj.lq [] ⟨false,h,J⟩ J J
 ·rintro aK ⟨c2,h,rfl⟩
  unfold si at h
  refine ab.ret<|?_
  obtain rfl:=h
  exact hP J J
theorem uw [GI:bN] {aa:List MarkS} {eC:MarkS→Option Bool} {du:FuncId} [bJ Tryz.prog du] {eB:List AV} (lK:∀ {y0:_} {u:Bool},eC y0=some u→Pu Tryz.prog du (MarkS.av y0 :: eB) (.bool u)) {r:Int} (h:lv aa eC=some r):Pu Tryz.prog 168 [uf aa,.func (.func du) eB] (I r):=by
 unfold lv at h
 refine aP.bI Tryz.func168 J Tryz.ntmps168 Tryz.results168 J J ?_
 refine aJ<|rA J J<|rN<|tS<|aJ<|rM J J<|ae.qv (ca J) J<|rM J J<|rN<|ab.block<|ab.cx (fun x:Int=>gG aa eC x) (fun x aK=>aK=⟨19,[(0,uf aa),(1,.func (.func du) eB),(7,I (aa.length:Int)),(8,I x)],[]⟩) h ?_ ?_
 ·exact aj.lq [] J J J
 ·intro n2 z1 aK J1 dY h jl dQ
  obtain rfl:=dY
  replace h:gG aa eC n2=some z1:=h
  unfold gG at h
  refine aJ<|ae.qv (bO J J) J<|rN<|tS<|cD h J (fun h=>?_) (fun h=>?_)
  ·refine tK<|tS<|ab.block<|aJ<|rM J J<|rA J J<|rN<|aJ<|rM J J<|rM J J<|rM J J<|aH h fun v3 e1 h=>ae.qv (bG J J J e1 J J) J<|ae.qv (aL J J J) J<|aH h fun v4 e2 h=>tV J J (lK e2) cR J<|rN<|cB h J (fun h=>?_) (fun h=>?_)
   ·refine aJ<|rM J J<|rA J J<|rN<|ab.ret<|have h:=bT h dQ;?_
    cases h
    exact hP J J
   ·refine tK<|ab.cw<|tR<|ae.qv (bq J J) J<|rM J J<|rN<|ab.stop<|?_
    cases h
    exact jl _ _ J<|aj.lq [] J J J
  ·refine ab.exit J<|have h:=bT h dQ;aJ<|rA J J<|rN<|ab.ret<|?_
   cases h
   exact hP J J
theorem uh [GI:bN] {bt:Bk} {aa:List MarkS} {eC:MarkS→Option Bool} {du:FuncId} [bJ Tryz.prog du] {eB:List AV} (lK:∀ {y0:_} {u:Bool},eC y0=some u→Pu Tryz.prog du (MarkS.av y0 :: eB) (.bool u)) {r:(List MarkS)} (h:fx aa eC=some r):aP Tryz.prog 133 [.sl 6 bt 0 aa.length,.func (.func du) eB] [(bt,sD aa)] (T1 (fun nO=>[(nO,sD r)]) (fun nO=>.sl 6 nO 0 r.length)):=by
 unfold fx at h
 refine aP.hC ?_
 refine aP.bI Tryz.func133 J Tryz.ntmps133 Tryz.results133 J J ?_
 refine aJ<|rA J J<|rN<|aJ<|rM J J<|rM J J<|aH h fun v1 e1 h=>fk J (uw lK e1) (.cons (lO.jX .p0) (.cons (.co (.refl _)) .nil)) J J<|rA J J<|rN<|tS<|aJ<|rM J J<|ae.qv (dt J J) J<|rN<|cD h J (fun h=>?_) (fun h=>?_)
 ·refine aJ<|rM J J<|rA J J<|rN<|ab.ret<|?_
  cases h
  exact hH J [0] J ⟨bt,J,J⟩
 ·refine tK<|tS<|aJ<|rM J J<|ae.qv (bq J J) J<|rA J J<|rN<|ab.block<|ab.cx (fun x:(List MarkS)×Int×Int=>gb eC x.1 x.2.1 x.2.2) (fun x aK=>aK=⟨42,[(0,.sl 6 bt 0 x.1.length),(1,.func (.func du) eB),(5,I x.2.1),(6,I x.2.2)],[(bt,sD x.1)]⟩) h ?_ ?_
  ·exact aj.lq [0] J J J
  ·intro x z1 aK J1 dY h jl dQ
   obtain ⟨l5,n6,n7⟩:=x
   obtain rfl:=dY
   replace h:gb eC l5 n6 n7=some z1:=h
   unfold gb at h
   refine tS<|aJ<|rM J J<|rM J J<|ae.qv (ee J) J<|ae.qv (bO J J) J<|rN<|cD h J (fun h=>?_) (fun h=>?_)
   ·refine tK<|tS<|ab.block<|aJ<|rM J J<|rM J J<|aH h fun v8 e2 h=>ae.qv (bu J J J e2) J<|ae.qv (bP (g:=MarkS.av) J J (.inl .p0) J e2 J) J<|bH J J J J fun b9=>ay J J J J .p0 J J<|rN<|aJ<|rM J J<|ae.qv (aG J J .p0 J) J<|aH h fun v10 e3 h=>tV J J (lK e3) cR J<|ae.qv (cu J) J<|rN<|ab.cut (fun aK=>∃ (js:List MarkS) (n12:Int),ga n7 js n12=some z1∧aK=⟨42,[(0,.sl 6 bt 0 js.length),(1,.func (.func du) eB),(5,I n12),(6,I n7)],[(bt,sD js)]⟩) ?_ ?_
    ·refine cB h J (fun h=>?_) (fun h=>?_)
     ·exact aJ<|rM J J<|rM J J<|ae.qv (aG J J .p0 J) J<|aH h fun gy e4 h=>ae.qv (bu J J J e4) J<|cE (g:=MarkS.av) (A6:=v8) J J J J e4 J .p1 J<|ae.ghost<|aj.eqs (s:=0) (gx:=.sl 6 bt 0 (l5.set n6.toNat v8).length) J (by rw [ac])<|aj.here<|ae.ghost<|aj.eqs (s:=17) (gx:=.sl 6 bt 0 (l5.set n6.toNat v8).length) J (by rw [ac])<|aj.here<|ae.ghost<|aj.eqs (s:=22) (gx:=.sl 6 bt 0 (l5.set n6.toNat v8).length) J (by rw [ac])<|aj.here<|ae.ghost<|aj.eqs (s:=30) (gx:=.sl 6 bt 0 (l5.set n6.toNat v8).length) J (by rw [ac])<|aj.here<|rN<|tR<|rM J J<|ae.qv (bq J J) J<|rA J J<|rN<|ab.stop<|aj.lq [1] ⟨l5.set n6.toNat v8,bB (n6+1),h,J⟩ J J
     ·exact tK<|ab.stop<|aj.lq [1] ⟨l5,n6,h,J⟩ J J
    ·rintro aK ⟨js,n12,h,rfl⟩
     unfold ga at h
     refine ab.cw<|tR<|rM J J<|ae.qv (bq J J) J<|rA J J<|rN<|ab.stop<|?_
     cases h
     exact jl _ _ J<|aj.lq [0] J J J
   ·refine ab.exit J<|have h:=bT h dQ;?_
    unfold nG at h
    refine aJ<|rM J J<|rM J J<|aH h fun yF e5 h=>ae.qv (qZ J J (.some _ _ _ J) .none J J e5) J<|Mx (g:=MarkS.av) (Z:=(⟨0,[],0,(⟨0,0,0⟩:Version)⟩:MarkS)) (L:=n6) J J J J J J e5 .p0<|ae.ghost<|aj.eqs (s:=0) (gx:=.sl 6 bt 0 (DM l5 n6 yF.length (⟨0,[],0,(⟨0,0,0⟩:Version)⟩:MarkS)).length) J (congrArg (AV.sl 6 bt 0) (vP e5))<|aj.here<|ae.ghost<|aj.eqs (s:=17) (gx:=.sl 6 bt 0 (DM l5 n6 yF.length (⟨0,[],0,(⟨0,0,0⟩:Version)⟩:MarkS)).length) J (congrArg (AV.sl 6 bt 0) (vP e5))<|aj.here<|ae.ghost<|aj.eqs (s:=36) (gx:=.sl 6 bt 0 (DM l5 n6 yF.length (⟨0,[],0,(⟨0,0,0⟩:Version)⟩:MarkS)).length) J (congrArg (AV.sl 6 bt 0) (vP e5))<|aj.here<|rN<|aJ<|rM J J<|rM J J<|aH h fun yp e6 h=>ae.qv (qZ J J .none (.some _ _ _ J) J J e6) J<|rA J J<|ae.ghost<|aj.PS e6 .p0<|aj.here<|rN<|ab.ret<|?_
    cases h
    exact hH J [0] J ⟨bt,J,J⟩
theorem uP:Jg Tryz.prog 79 6:=⟨fun enc hk h1 cf hO g cb cw off cap d w eg hc hH hb hs=>AnyQ.slices_SortFunc_eq Tryz.MK 6 Tryz.isAgg69 Tryz.sizeOf69 enc hk h1 cf hO g cb cw off cap d w eg hc hH hb hs,fun p cap fv w=>AnyF.slices_SortFunc_none Tryz.MK p cap fv w⟩
theorem uQ [GI:bN] {bt:Bk} {aa:List MarkS} {eC:MarkS→MarkS→Option Int} {du:FuncId} [bJ Tryz.prog du] {eB:List AV} (lK:∀ {y0 y1:_} {u:Int},eC y0 y1=some u→@Pu pM Tryz.prog du (MarkS.av y0 :: MarkS.av y1 :: eB) (I u)) {r:(List MarkS)} (h:lP aa eC=some r):aP Tryz.prog 79 [.sl 6 bt 0 aa.length,.func (.func du) eB] [(bt,.arr 6 (aa.map MarkS.av))] (T0 [(bt,.arr 6 (r.map MarkS.av))] (.lE [])):=
 Ld (fn:=eC) uP J @lK (fun _=>J) h
theorem LQ [GI:bN] {aa:Campaign} {ai:Int} {aI:List DeviceS} {bw:List MarkS} {hJ r:Int} (h:Bz aa ai aI bw hJ=some r):Pu Tryz.prog 103 [Campaign.av aa,I ai,ue aI,uf bw,I hJ] (I r):=by
 unfold Bz at h
 refine aP.bI Tryz.func103 J Tryz.ntmps103 Tryz.results103 J J ?_
 refine aJ<|dp J J J J fun b1=>rA J J<|rN<|aJ<|rA J J<|rN<|tS<|aJ<|rM J J<|ae.qv (ca J) J<|rM J J<|rN<|ab.block<|ab.cx (fun x:(List MarkS)×Int=>rI aa ai aI bw hJ x.1 x.2) (fun x aK=>∃ (b5:Bk),aK=⟨78,[(1,I ai),(3,uf bw),(4,I hJ),(5,.ptr b1 0),(11,.sl 6 b5 0 x.1.length),(18,ue aI),(19,I (aI.length:Int)),(20,I x.2)],[(b1,.cells (Cq aa)),(b5,sD x.1)]⟩) h ?_ ?_
 ·exact aj.arr (s:=11) 6 J fun b8=>aj.lq [1,0] ⟨b8,J⟩ J J
 ·intro x z1 aK J1 dY h jl dQ
  obtain ⟨l6,n7⟩:=x
  obtain ⟨b5,rfl⟩:=dY
  replace h:rI aa ai aI bw hJ l6 n7=some z1:=h
  unfold rI at h
  refine aJ<|ae.qv (bO J J) J<|rN<|tS<|cD h J (fun h=>?_) (fun h=>?_)
  ·refine tK<|tS<|ab.block<|aJ<|aH h fun v9 e1 h=>ae.qv (bG J J J e1 J J) J<|ae.qv (aL J J J) J<|bH J J J J fun tL=>ay J J J J .p0 J J<|rN<|aJ<|ae.qv (aG J J .p1 J) J<|rF J J J<|rL J J .p0 J J<|aH h fun v11 e2 h=>aT J (vq e2) cR J<|rM J J<|ae.qv (dt J J) J<|rN<|ab.cut (fun aK=>∃ (kV:Bk) (kT:List MarkS),uc n7 kT=some z1∧aK=⟨78,[(1,I ai),(3,uf bw),(4,I hJ),(5,.ptr b1 0),(11,.sl 6 kV 0 kT.length),(18,ue aI),(19,I (aI.length:Int)),(20,I n7)],[(b1,.cells (Cq aa)),(kV,sD kT)]⟩) ?_ ?_
   ·refine cD h J (fun h=>?_) (fun h=>?_)
    ·exact tR<|rM J J<|ae.qv (aG J J .p1 J) J<|rF J J J<|rL J J .p0 J J<|rM J J<|rM J J<|aH h fun qe e3 h=>jn J (BH e3) cR .nil (fun _=>J) J fun YU=>aH h fun za e4 h=>fo (g:=MarkS.av) J J J J J J J J (NI (.inl .p0) J) e4 (fun _=>.p3) J fun ti=>rA J J<|rN<|ab.stop<|aj.lq [2,2] ⟨ti,za,h,J⟩ J J
    ·exact tK<|ab.stop<|aj.lq [1,1] ⟨b5,l6,h,J⟩ J J
   ·rintro aK ⟨kV,kT,h,rfl⟩
    unfold uc at h
    refine ab.cw<|tR<|ae.qv (bq J J) J<|rM J J<|rN<|ab.stop<|?_
    cases h
    exact jl _ _ J<|aj.lq [0,0] ⟨kV,J⟩ J J
  ·refine ab.exit J<|have h:=bT h dQ;?_
   unfold wb at h
   refine aJ<|rM J J<|aH h fun fg e5 h=>jn J (uh (fun e=>FX (ad e)) e5) cR (.cons .p1 .nil) (fun _=>J) J fun qk=>rA J J<|rN<|aJ<|rM J J<|aH h fun v20 e6 h=>br J (uQ (fun e=>tJ (GI:=pM) (ad e)) (rZ e6)) cR (.cons .p0 .nil) J J<|ae.ghost<|aj.eqs (s:=11) (gx:=.sl 6 qk 0 v20.length) J (congrArg (AV.sl 6 qk 0) (gR e6))<|aj.here<|ae.ghost<|aj.eqs (s:=40) (gx:=.sl 6 qk 0 v20.length) J (congrArg (AV.sl 6 qk 0) (gR e6))<|aj.here<|ae.ghost<|aj.eqs (s:=41) (gx:=.sl 6 qk 0 v20.length) J (congrArg (AV.sl 6 qk 0) (gR e6))<|aj.here<|rN<|aJ<|rA J J<|rN<|tS<|aJ<|rM J J<|ae.qv (ee J) J<|rM J J<|rN<|ab.block<|ab.cx (fun x:Int×Int=>pD aa ai v20 x.1 x.2) (fun x aK=>aK=⟨78,[(1,I ai),(5,.ptr b1 0),(14,I x.1),(43,.sl 6 qk 0 v20.length),(44,I (v20.length:Int)),(45,I x.2)],[(b1,.cells (Cq aa)),(qk,sD v20)]⟩) h ?_ ?_
   ·exact aj.lq [1,0] J J J
   ·intro x z2 aK J2 dY h yr wE
    obtain ⟨n23,n24⟩:=x
    obtain rfl:=dY
    replace h:pD aa ai v20 n23 n24=some z2:=h
    unfold pD at h
    refine aJ<|ae.qv (bO J J) J<|rN<|tS<|cD h J (fun h=>?_) (fun h=>?_)
    ·refine tK<|tS<|ab.block<|aJ<|rM J J<|aH h fun v25 e7 h=>ae.qv (bu J J J e7) J<|ae.qv (bP (g:=MarkS.av) J J (.inl .p1) J e7 J) J<|bH J J J J fun zO=>rA J J<|ay J J J J .p0 J J<|rN<|tS<|aJ<|rF J J J<|rL J J .p0 J J<|ae.qv (dt J J) J<|rN<|ab.cut (fun aK=>∃ (n27:Int),pC aa ai n24 v25 n27=some z2∧aK=⟨78,[(1,I ai),(5,.ptr b1 0),(14,I n27),(15,I n24),(16,.ptr zO 0),(43,.sl 6 qk 0 v20.length),(44,I (v20.length:Int)),(45,I n24)],[(b1,.cells (Cq aa)),(zO,.cells [I v25.At,.str v25.Device,I v25.Kind,I v25.Version.aA,I v25.Version.aC,I v25.Version.aD]),(qk,sD v20)]⟩) ?_ ?_
     ·refine cD h J (fun h=>?_) (fun h=>?_)
      ·exact tR<|rM J J<|ae.qv (bq J J) J<|rA J J<|rN<|ab.stop<|aj.lq [1,0,0] ⟨bB (n23+1),h,J⟩ J J
      ·exact tK<|ab.stop<|aj.lq [1,0,0] ⟨n23,h,J⟩ J J
     ·rintro aK ⟨n27,h,rfl⟩
      unfold pC at h
      refine aJ<|rF J J J<|rL J J .p0 J J<|rM J J<|aH h fun v28 e8 h=>ae.qv (bG J J J e8 J J) J<|ae.qv (aL J J J) J<|bH J J J J fun Oh=>ay J J J J .p0 J J<|rN<|tS<|ab.cut (fun aK=>∃ (YI:Bool),vZ n24 v25 n27 YI=some z2∧aK=⟨78,[(1,I ai),(5,.ptr b1 0),(14,I n27),(16,.ptr zO 0),(43,.sl 6 qk 0 v20.length),(44,I (v20.length:Int)),(45,I n24),(74,.bool YI)],[(b1,.cells (Cq aa)),(zO,.cells [I v25.At,.str v25.Device,I v25.Kind,I v25.Version.aA,I v25.Version.aC,I v25.Version.aD]),(qk,sD v20)]⟩) ?_ ?_
      ·refine tR<|rM J J<|ae.qv (bq J J) J<|rF J J J<|rL J J .p0 J J<|ae.qv (nU J J) J<|rM J J<|ae.dw J J J (fun hc=>?_) (fun hc=>?_)
       ·rw [vc hc] at h
        exact rM J J<|rY J J J<|ae.qv (sR J J) J<|rY J J J<|rF J J J<|rY J J J<|rL J J .p0 J J<|rY J J J<|rM J J<|rY J J J<|ae.qv (bq J J) J<|rY J J J<|ae.qv (sR J J) J<|rY J J J<|ae.qv (eM J J) J<|rT J J J<|rN<|ab.stop<|aj.lq [1,1,1] ⟨decide ((bB (v28.et * (bB (n24+1)))) < (bB (n27 * 1000))),h,J⟩ J J
       ·rw [vd hc] at h
        exact rG J J J J<|rG J J J J<|rG J J J J<|rG J J J J<|rG J J J J<|rG J J J J<|rG J J J J<|rE J J J<|rN<|ab.stop<|aj.lq [1,1,1] ⟨false,h,J⟩ J J
      ·rintro aK ⟨YI,h,rfl⟩
       unfold vZ at h
       refine cB h J (fun h=>?_) (fun h=>?_)
       ·refine aJ<|rF J J J<|rL J J .p1 J J<|rA J J<|rN<|ab.ret<|have h:=bT h wE;?_
        cases h
        exact hP J J
       ·refine tK<|ab.cw<|tR<|ae.qv (bq J J) J<|rM J J<|rN<|ab.stop<|?_
        cases h
        exact yr _ _ J<|aj.lq [0,1] J J J
    ·refine ab.exit J<|have h:=bT h wE;aJ<|rA J J<|rN<|ab.ret<|?_
     cases h
     exact hP J J
theorem Am [GI:bN] {aa:Campaign} {ai:List DeviceS} {aI:List MarkS} {bw r:Int} (h:nW aa ai aI bw=some r):Pu Tryz.prog 58 [Campaign.av aa,ue ai,uf aI,I bw] (I r):=by
 unfold nW at h
 refine aP.bI Tryz.func58 J Tryz.ntmps58 Tryz.results58 J J ?_
 refine aJ<|dp J J J J fun b1=>rA J J<|rN<|aJ<|rA J J<|rN<|tS<|aJ<|rF J J J<|rL J J .p0 J J<|ae.qv (ca J) J<|rM J J<|rN<|ab.block<|ab.cx (fun x:Int×Int=>nH aa ai aI bw x.1 x.2) (fun x aK=>aK=⟨38,[(1,ue ai),(2,uf aI),(3,I bw),(4,.ptr b1 0),(9,I x.1),(14,I (aa.aR.length:Int)),(15,I x.2)],[(b1,.cells (Cq aa))]⟩) h ?_ ?_
 ·exact aj.lq [0] J J J
 ·intro x z1 aK J1 dY h jl dQ
  obtain ⟨n4,n5⟩:=x
  obtain rfl:=dY
  replace h:nH aa ai aI bw n4 n5=some z1:=h
  unfold nH at h
  refine aJ<|ae.qv (bO J J) J<|rN<|tS<|cD h J (fun h=>?_) (fun h=>?_)
  ·refine tK<|tS<|ab.block<|aJ<|rM J J<|rA J J<|rN<|aJ<|ae.qv (aG J J .p0 J) J<|rM J J<|rM J J<|rM J J<|rM J J<|aH h fun v6 e1 h=>aT J (LQ e1) cR J<|rA J J<|rN<|tS<|ab.cut (fun aK=>∃ (c7:Bool),sj n4 n5 v6 c7=some z1∧aK=⟨38,[(1,ue ai),(2,uf aI),(3,I bw),(4,.ptr b1 0),(9,I n4),(11,I v6),(14,I (aa.aR.length:Int)),(15,I n5),(34,.bool c7)],[(b1,.cells (Cq aa))]⟩) ?_ ?_
   ·refine tR<|rM J J<|ae.qv (nU J J) J<|rM J J<|ae.dw J J J (fun hc=>?_) (fun hc=>?_)
    ·rw [vc hc] at h
     refine rM J J<|rY J J J<|ae.qv (bO J J) J<|rY J J J<|rM J J<|ae.dG J J J (fun hc=>?_) (fun hc=>?_)
     ·rw [wU hc] at h
      exact rM J J<|rY J J J<|rM J J<|rY J J J<|ae.qv (bO J J) J<|rY J J J<|rE J J J<|rT J J J<|rN<|ab.stop<|aj.lq [0] ⟨decide (v6 < n4),h,J⟩ J J
     ·rw [wT hc] at h
      exact rG J J J J<|rG J J J J<|rY J J J<|rT J J J<|rT J J J<|rN<|ab.stop<|aj.lq [0] ⟨true,h,J⟩ J J
    ·rw [vd hc] at h
     exact rG J J J J<|rG J J J J<|ae.aS J J J<|ae.aS J J J<|ae.aS J J J<|rG J J J J<|rE J J J<|rN<|ab.stop<|aj.lq [0] ⟨false,h,J⟩ J J
   ·rintro aK ⟨c7,h,rfl⟩
    unfold sj at h
    refine ab.cut (fun aK=>∃ (n8:Int),pE n5 n8=some z1∧aK=⟨38,[(1,ue ai),(2,uf aI),(3,I bw),(4,.ptr b1 0),(9,I n8),(14,I (aa.aR.length:Int)),(15,I n5)],[(b1,.cells (Cq aa))]⟩) ?_ ?_
    ·refine cB h J (fun h=>?_) (fun h=>?_)
     ·exact tR<|rM J J<|rA J J<|rN<|ab.stop<|aj.lq [0] ⟨v6,h,J⟩ J J
     ·exact tK<|ab.stop<|aj.lq [0] ⟨n4,h,J⟩ J J
    ·rintro aK ⟨n8,h,rfl⟩
     unfold pE at h
     refine ab.cw<|tR<|ae.qv (bq J J) J<|rM J J<|rN<|ab.stop<|?_
     cases h
     exact jl _ _ J<|aj.lq [0] J J J
  ·refine ab.exit J<|have h:=bT h dQ;aJ<|rM J J<|rA J J<|rN<|ab.ret<|?_
   cases h
   exact hP J J
theorem C7 [GI:bN] {aa:Campaign} {ai aI:Int} {r:Bool} (h:nI aa ai aI=r):Pu Tryz.prog 21 [Campaign.av aa,I ai,I aI] (.bool r):=by
 unfold nI at h
 refine aP.bI Tryz.func21 J Tryz.ntmps21 Tryz.results21 J J ?_
 refine aJ<|dp J J J J fun b1=>rA J J<|rN<|aJ<|rM J J<|rM J J<|ae.qv (bq J J) J<|ae.qv (bq J J) J<|ae.qv (Gb J J (by decide)) J<|rA J J<|rN<|tS<|ab.cU (id:=2) (A:=[0,1,3,0,8,24,7,127]) 8 mixed J (by kernel_rfl) (by kernel_rfl)<|AM.qv (az J J) J<|AM.qv (az J J) J<|AM.qv (aN J J .p0 J) J<|AM.qv (az J J) J<|AM.qv (az J J) J<|AM.qv (aN J J .p0 J) J<|AM.qv (bR J) J<|AM.qv (bR J) J<|AM.nil<|rN<|tS<|ab.block<|aJ<|rM J J<|rM J J<|ae.qv (bO J J) J<|rA J J<|rN<|cD h J (fun h=>?_) (fun h=>?_)
 ·refine tS<|ab.cut (fun aK=>∃ (c2:Bool),uI c2=r∧aK=⟨45,[(6,.bool c2)],[]⟩) ?_ ?_
  ·refine tR<|rM J J<|rM J J<|ae.qv (pn J J) J<|rM J J<|ae.dw J J J (fun hc=>?_) (fun hc=>?_)
   ·rw [vc hc] at h
    exact rM J J<|rY J J J<|rM J J<|rY J J J<|ae.qv (bO J J) J<|rT J J J<|rA J J<|rN<|ab.stop<|aj.lq [] ⟨decide (((bB ((bB (aI+ai))+86400000)).tmod 86400000) < aa.aZ.To),h,J⟩ J J
   ·rw [vd hc] at h
    exact rG J J J J<|rG J J J J<|rE J J J<|rA J J<|rN<|ab.stop<|aj.lq [] ⟨false,h,J⟩ J J
  ·rintro aK ⟨c2,h,rfl⟩
   unfold uI at h
   refine ab.ret<|?_
   obtain rfl:=h
   exact hP J J
 ·refine aJ<|rM J J<|rM J J<|ae.qv (eM J J) J<|rA J J<|rN<|cD h J (fun h=>?_) (fun h=>?_)
  ·refine tS<|ab.cut (fun aK=>∃ (c3:Bool),uJ c3=r∧aK=⟨45,[(6,.bool c3)],[]⟩) ?_ ?_
   ·refine tR<|rM J J<|rM J J<|ae.qv (nU J J) J<|rM J J<|ae.dG J J J (fun hc=>?_) (fun hc=>?_)
    ·rw [wU hc] at h
     exact rM J J<|rY J J J<|rM J J<|rY J J J<|ae.qv (bO J J) J<|rE J J J<|rA J J<|rN<|ab.stop<|aj.lq [] ⟨decide (((bB ((bB (aI+ai))+86400000)).tmod 86400000) < aa.aZ.To),h,J⟩ J J
    ·rw [wT hc] at h
     exact rG J J J J<|rG J J J J<|rT J J J<|rA J J<|rN<|ab.stop<|aj.lq [] ⟨true,h,J⟩ J J
   ·rintro aK ⟨c3,h,rfl⟩
    unfold uJ at h
    refine ab.ret<|?_
    obtain rfl:=h
    exact hP J J
  ·refine tK<|ab.cw<|aJ<|rA J J<|rN<|ab.ret<|?_
   obtain rfl:=h
   exact hP J J
theorem yz:P0 Tryz.prog 104 (Value.int .i64) NT:=⟨fun cw off cap zs w hH hb hs=>Tryz.slices_Sort_int cw off cap zs w hH hb hs,fun p cap w=>Tryz.slices_Sort_int_none p cap w⟩
theorem yA [GI:bN] {bt:Bk} {aa:List Int} {r:(List Int)} (h:ng aa=some r):aP Tryz.prog 104 [.sl 1 bt 0 aa.length] [(bt,.arr 1 (aa.map I))] (T0 [(bt,.arr 1 (r.map I))] (.lE [])):=
 Jl yz h
theorem xS [GI:bN] {aa:Campaign} {ai:DeviceS} {aI:List MarkS} {bw:Int} {r:ak} (h:ri aa ai aI bw=some r):Pu Tryz.prog 60 [Campaign.av aa,DeviceS.av ai,uf aI,I bw] (ak.av r):=by
 unfold ri at h
 refine aP.bI Tryz.func60 J Tryz.ntmps60 Tryz.results60 J J ?_
 refine aJ<|dp J J J J fun b1=>dp J J J J fun b2=>bH J J J J fun b3=>rN<|aJ<|rF J J J<|ae.qv (aO J J .p1 J J) J<|ae.qv (dv J J J J J) J<|bH J J J J fun b4=>ay J J J J .p0 J J<|rN<|tS<|aJ<|ae.qv (aG J J .p3 J) J<|rF J J J<|rL J J .p2 J J<|rM J J<|rM J J<|aH h fun v5 e1 h=>jn J (BH e1) cR .nil (fun _=>J) J fun b6=>ae.qv (ee J) J<|rM J J<|rN<|ab.block<|ab.cx (fun x:Int×Int×Int×Int×Int×Int×Int=>oR v5 x.1 x.2.1 x.2.2.1 x.2.2.2.1 x.2.2.2.2.1 x.2.2.2.2.2.1 x.2.2.2.2.2.2) (fun x aK=>aK=⟨47,[(8,.ptr b3 0),(9,.ptr b4 0),(20,.sl 6 b6 0 v5.length),(21,I (v5.length:Int)),(22,I x.2.2.2.2.2.2)],[(b3,.cells [I 0,I 0,I 0,I 0,I 0,I 0]),(b4,.cells [I x.1,I x.2.1,I x.2.2.1,I x.2.2.2.1,I x.2.2.2.2.1,I x.2.2.2.2.2.1]),(b6,sD v5)]⟩) h ?_ ?_
 ·exact aj.lq [2,1,0] J J J
 ·intro x z1 aK J1 dY h jl dQ
  obtain ⟨n14,n15,n16,n17,n18,n19,n20⟩:=x
  obtain rfl:=dY
  replace h:oR v5 n14 n15 n16 n17 n18 n19 n20=some z1:=h
  unfold oR at h
  refine aJ<|ae.qv (bO J J) J<|rN<|tS<|cD h J (fun h=>?_) (fun h=>?_)
  ·refine tK<|tS<|ab.block<|aJ<|aH h fun v21 e2 h=>ae.qv (bu J J J e2) J<|ae.qv (bP (g:=MarkS.av) J J (.inl .p2) J e2 J) J<|bH J J J J fun MW=>ay J J J J .p0 J J<|rN<|tS<|ab.jN (id:=5) (A:=[0,1,0,4,3,19,63,127]) (H0:=[(b4,.cells [I n14,I n15,I n16,I n17,I n18,I n19])]) (HH:=fun β=>[(b4,.cells [I v21.Kind,I n15,I n16,I n17,I n18,I n19]),(MW,.cells [I v21.At,.str v21.Device,I v21.Kind,I v21.Version.aA,I v21.Version.aC,I v21.Version.aD]),(b3,.cells [I 0,I 0,I 0,I 0,I 0,I 0]),(b6,sD v5)]) 6 mixed J (by kernel_rfl) (by kernel_rfl) [⟨none,some 5,[],fun _=>(b4,.cells [I n14,I n15,I n16,I n17,I n18,I n19]),none,[]⟩,⟨some 5,none,[],fun _=>(b4,.cells [I v21.Kind,I n15,I n16,I n17,I n18,I n19]),none,[]⟩] [] J (by kernel_rfl) J (.cons .p2 .nil) (fun _=>J)<|AT.am 5 J J<|AM.qv (az J J) J<|AM.qv (aN J J .p0 J) J<|AM.qv (az J J) J<|AM.qv (aN J J .p0 J) J<|AM.qv (az J J) J<|AM.nil<|AT.HB (Ti:=[(b4,.cells [I n14,I n15,I n16,I n17,I n18,I n19])]) (Pi:=[(b4,.cells [I v21.Kind,I n15,I n16,I n17,I n18,I n19])]) (fun _=>J) (fun _=>J) (fun _=>J) J J ?_ ?_
   ·exact ay J J J J .p0 J J<|ae.nil ⟨_,J⟩
   refine AT.wW (fun _=>J) fun β=>rF J J J<|ay J J J J .p0 J J<|rN<|aJ<|rF J J J<|rL J J .p1 J J<|rN<|ab.block<|aJ<|ae.qv (dt J J) J<|rA J J<|rN<|ab.cut (fun aK=>∃ (n23:Int) (n24:Int) (n25:Int) (n26:Int),qz n20 v21 n23 n24 n25 n26=some z1∧aK=⟨47,[(8,.ptr b3 0),(9,.ptr b4 0),(20,.sl 6 b6 0 v5.length),(21,I (v5.length:Int)),(22,I n20)],[(b3,.cells [I 0,I 0,I 0,I 0,I 0,I 0]),(b4,.cells [I v21.Kind,I v21.At,I n23,I n24,I n25,I n26]),(b6,sD v5)]⟩) ?_ ?_
   ·refine cD h J (fun h=>?_) (fun h=>?_)
    ·exact tR<|rF J J J<|ae.qv (aO J J .p1 J J) J<|rF J J J<|ay J J J J .p0 J J<|rN<|ab.stop<|aj.lq [2,0,1] ⟨v21.Version.aA,v21.Version.aC,v21.Version.aD,n19,h,J⟩ J J
    ·refine aJ<|ae.qv (dt J J) J<|rA J J<|rN<|ab.cut (fun aK=>∃ (n27:Int),qA n16 n17 n18 n20 v21 n27=some z1∧aK=⟨47,[(8,.ptr b3 0),(9,.ptr b4 0),(20,.sl 6 b6 0 v5.length),(21,I (v5.length:Int)),(22,I n20)],[(b3,.cells [I 0,I 0,I 0,I 0,I 0,I 0]),(b4,.cells [I v21.Kind,I v21.At,I n16,I n17,I n18,I n27]),(b6,sD v5)]⟩) ?_ ?_
     ·refine cD h J (fun h=>?_) (fun h=>?_)
      ·exact tR<|rF J J J<|rL J J .p0 J J<|ae.qv (bq J J) J<|rF J J J<|ay J J J J .p0 J J<|rN<|ab.stop<|aj.lq [2,0,1] ⟨bB (n19+1),h,J⟩ J J
      ·exact tK<|ab.stop<|aj.lq [2,0,1] ⟨n19,h,J⟩ J J
     ·rintro aK ⟨n27,h,rfl⟩
      unfold qA at h
      exact ab.stop<|aj.lq [0,0,0] ⟨n16,n17,n18,n27,h,J⟩ J J
   ·rintro aK ⟨n23,n24,n25,n26,h,rfl⟩
    unfold qz at h
    refine ab.cw<|ab.cw<|tR<|ae.qv (bq J J) J<|rM J J<|rN<|ab.stop<|?_
    cases h
    exact jl _ _ J<|aj.lq [0,0,0] J J J
  ·refine ab.exit J<|have h:=bT h dQ;aJ<|ae.qv (aG J J .p1 J) J<|ay J J J J .p0 J J<|rN<|ab.ret<|?_
   cases h
   exact aj.here ⟨_,.cons (.all _ _ _ _ _ _ J .p0 aB.h aX.h J J) .nil,J⟩
theorem JT [GI:bN] {aa:Campaign} {ai:DeviceS} {aI:List MarkS} {bw:Int} {r:Bool} (h:Cp aa ai aI bw=some r):Pu Tryz.prog 63 [Campaign.av aa,DeviceS.av ai,uf aI,I bw] (.bool r):=by
 unfold Cp at h
 refine aP.bI Tryz.func63 J Tryz.ntmps63 Tryz.results63 J J ?_
 refine aJ<|dp J J J J fun b1=>dp J J J J fun b2=>rA J J<|rN<|aJ<|ae.qv (aG J J .p1 J) J<|ae.qv (aG J J .p0 J) J<|rM J J<|rM J J<|aH h fun v3 e1 h=>aT J (xS e1) cR J<|bH J J J J fun b4=>ay J J J J .p0 J J<|rN<|tS<|ab.cut (fun aK=>∃ (c5:Bool),zL c5=some r∧aK=⟨30,[(8,.bool c5)],[]⟩) ?_ ?_
 ·refine tR<|rF J J J<|ae.qv (aO J J .p0 J J) J<|rF J J J<|ae.qv (aO J J .p2 J J) J<|ae.qv (Eh (g:=Version.av) (X:=v3.Version) (Y:=aa.Target) J J J J J) J<|rM J J<|ae.dG J J J (fun hc=>?_) (fun hc=>?_)
  ·rw [wU hc] at h
   refine rF J J J<|rY J J J<|rL J J .p0 J J<|rY J J J<|ae.qv (nU J J) J<|rE J J J<|rM J J<|ae.dG J J J (fun hc=>?_) (fun hc=>?_)
   ·rw [wU hc] at h
    exact rF J J J<|rY J J J<|rL J J .p0 J J<|rY J J J<|ae.qv (dt J J) J<|rE J J J<|rA J J<|rN<|ab.stop<|aj.lq [] ⟨decide (v3.Kind=5),h,J⟩ J J
   ·rw [wT hc] at h
    exact rG J J J J<|rG J J J J<|rT J J J<|rA J J<|rN<|ab.stop<|aj.lq [] ⟨true,h,J⟩ J J
  ·rw [wT hc] at h
   exact rG J J J J<|rG J J J J<|rT J J J<|rM J J<|rG J J J J<|rG J J J J<|rG J J J J<|rT J J J<|rA J J<|rN<|ab.stop<|aj.lq [] ⟨true,h,J⟩ J J
 ·rintro aK ⟨c5,h,rfl⟩
  unfold zL at h
  refine ab.ret<|?_
  cases h
  exact hP J J
theorem AN [GI:bN] {aa:DeviceS} {ai:Campaign} {aI:Int} {bw:List MarkS} {hJ:Int} {r:Bool} (h:kQ aa ai aI bw hJ=some r):Pu Tryz.prog 108 [DeviceS.av aa,.ch [.str ai.Key,I ai.Target.aA,I ai.Target.aC,I ai.Target.aD,I ai.At,p9 ai.aR,I ai.aZ.bS,I ai.aZ.To,I ai.Room],.ch [I aI],.ch [uf bw],.ch [I hJ]] (.bool r):=by
 unfold kQ at h
 refine aP.bI Tryz.func108 J Tryz.ntmps108 Tryz.results108 J J ?_
 refine aJ<|dp J J J J fun b1=>rA J J<|rN<|tS<|ab.cut (fun aK=>∃ (c2:Bool),kj c2=some r∧aK=⟨22,[(6,.bool c2)],[]⟩) ?_ ?_
 ·refine ab.cU (id:=1) (A:=[0,0,2,7,0,16,63,127,255,255,255,255,4095,8191,16383,32767]) 16 mixed J (by kernel_rfl) (by kernel_rfl)<|AM.qv (aL J J J) J<|AM.qv (az J J) J<|AM.qv (aN J J .p0 J) J<|aH h fun v3 e1 h=>AM.iX J (vq e1) cR J<|AM.qv (aQ J J J) J<|AM.qv (eK J J) J<|AM.qv (dt J J) J<|AM.qv (aM J) J<|AM.dw J J J (fun hc=>?_) (fun hc=>?_)
  ·exact have h:=pj hc h;AM.qv (aL J J J) J<|AM.au J J J<|AM.qv (aG J J .p0 J) J<|AM.au J J J<|AM.qv (aQ J J J) J<|AM.au J J J<|AM.qv (aQ J J J) J<|AM.au J J J<|aH h fun v4 e2 h=>AM.iX J (JT e2) cR J<|AM.au J J J<|AM.qv (cu J) J<|AM.qv (fP J J) J<|AM.qv (bR J) J<|AM.nil<|rN<|ab.stop<|aj.lq [] ⟨!v4,h,J⟩ J J
  ·exact have h:=zZ hc h;AM.ar J J J J<|AM.ar J J J J<|AM.ar J J J J<|AM.ar J J J J<|AM.ar J J J J<|AM.qv (ed J J) J<|AM.qv (bR J) J<|AM.nil<|rN<|ab.stop<|aj.lq [] ⟨false,h,J⟩ J J
 ·rintro aK ⟨c2,h,rfl⟩
  unfold kj at h
  refine ab.ret<|?_
  cases h
  exact hP J J
theorem sx [GI:bN] {aa:List DeviceS} {eC:DeviceS→Option Bool} {du:FuncId} [bJ Tryz.prog du] {eB:List AV} (lK:∀ {y0:_} {u:Bool},eC y0=some u→Pu Tryz.prog du (DeviceS.av y0 :: eB) (.bool u)) {r:Int} (h:jj aa eC=some r):Pu Tryz.prog 136 [ue aa,.func (.func du) eB] (I r):=by
 unfold jj at h
 refine aP.bI Tryz.func136 J Tryz.ntmps136 Tryz.results136 J J ?_
 refine aJ<|rA J J<|rN<|tS<|aJ<|rM J J<|ae.qv (ca J) J<|rM J J<|rN<|ab.block<|ab.cx (fun x:Int=>eQ aa eC x) (fun x aK=>aK=⟨19,[(0,ue aa),(1,.func (.func du) eB),(7,I (aa.length:Int)),(8,I x)],[]⟩) h ?_ ?_
 ·exact aj.lq [] J J J
 ·intro n2 z1 aK J1 dY h jl dQ
  obtain rfl:=dY
  replace h:eQ aa eC n2=some z1:=h
  unfold eQ at h
  refine aJ<|ae.qv (bO J J) J<|rN<|tS<|cD h J (fun h=>?_) (fun h=>?_)
  ·refine tK<|tS<|ab.block<|aJ<|rM J J<|rA J J<|rN<|aJ<|rM J J<|rM J J<|rM J J<|aH h fun v3 e1 h=>ae.qv (bG J J J e1 J J) J<|ae.qv (aL J J J) J<|aH h fun v4 e2 h=>tV J J (lK e2) cR J<|rN<|cB h J (fun h=>?_) (fun h=>?_)
   ·refine aJ<|rM J J<|rA J J<|rN<|ab.ret<|have h:=bT h dQ;?_
    cases h
    exact hP J J
   ·refine tK<|ab.cw<|tR<|ae.qv (bq J J) J<|rM J J<|rN<|ab.stop<|?_
    cases h
    exact jl _ _ J<|aj.lq [] J J J
  ·refine ab.exit J<|have h:=bT h dQ;aJ<|rA J J<|rN<|ab.ret<|?_
   cases h
   exact hP J J
theorem qL [GI:bN] {aa:List DeviceS} {eC:DeviceS→Option Bool} {du:FuncId} [bJ Tryz.prog du] {eB:List AV} (lK:∀ {y0:_} {u:Bool},eC y0=some u→Pu Tryz.prog du (DeviceS.av y0 :: eB) (.bool u)) {r:Bool} (h:eR aa eC=some r):Pu Tryz.prog 107 [ue aa,.func (.func du) eB] (.bool r):=by
 unfold eR at h
 refine aP.bI Tryz.func107 J Tryz.ntmps107 Tryz.results107 J J ?_
 refine aJ<|rA J J<|rN<|aJ<|rM J J<|rM J J<|aH h fun v1 e1 h=>fk J (sx lK e1) (.cons (.co (.refl _)) (.cons (.co (.refl _)) .nil)) J J<|ae.qv (nU J J) J<|rA J J<|rN<|ab.ret<|?_
 cases h
 exact hP J J
theorem DB [GI:bN] {aa:Int} {ai:List DeviceS} {aI:Campaign} {bw:Int} {hJ:List MarkS} {r:Bool} (h:oS aa ai aI bw hJ=some r):Pu Tryz.prog 106 [I aa,.ch [ue ai],.ch [.str aI.Key,I aI.Target.aA,I aI.Target.aC,I aI.Target.aD,I aI.At,p9 aI.aR,I aI.aZ.bS,I aI.aZ.To,I aI.Room],.ch [I bw],.ch [uf hJ]] (.bool r):=by
 unfold oS at h
 refine aP.bI Tryz.func106 J Tryz.ntmps106 Tryz.results106 J J ?_
 refine aJ<|dp J J J J fun b1=>rA J J<|rN<|aJ<|ae.qv (aQ J J J) J<|ae.qv (mC J) J<|aH h fun v2 e1 h=>fk J (qL (fun e=>AN e) e1) (.cons (.co (.refl _)) (.cons (.Bf _ _ _ (.cons (.co (.refl _)) (.cons (.co (.refl _)) (.cons (.co (.refl _)) (.cons (.xC _ _ _ .p0 (.cons (.co (.refl _)) .nil)) .nil))))) .nil)) J J<|ae.qv (cu J) J<|rA J J<|rN<|ab.ret<|?_
 cases h
 exact hP J J
theorem vr [GI:bN] {aa:List Int} {eC:Int→Option Bool} {du:FuncId} [bJ Tryz.prog du] {eB:List AV} (lK:∀ {y0:_} {u:Bool},eC y0=some u→Pu Tryz.prog du (I y0 :: eB) (.bool u)) {r:Int} (h:jw aa eC=some r):Pu Tryz.prog 105 [eJ aa,.func (.func du) eB] (I r):=by
 unfold jw at h
 refine aP.bI Tryz.func105 J Tryz.ntmps105 Tryz.results105 J J ?_
 refine aJ<|rA J J<|rN<|tS<|aJ<|rM J J<|ae.qv (ca J) J<|rM J J<|rN<|ab.block<|ab.cx (fun x:Int=>iq aa eC x) (fun x aK=>aK=⟨19,[(0,eJ aa),(1,.func (.func du) eB),(7,I (aa.length:Int)),(8,I x)],[]⟩) h ?_ ?_
 ·exact aj.lq [] J J J
 ·intro n2 z1 aK J1 dY h jl dQ
  obtain rfl:=dY
  replace h:iq aa eC n2=some z1:=h
  unfold iq at h
  refine aJ<|ae.qv (bO J J) J<|rN<|tS<|cD h J (fun h=>?_) (fun h=>?_)
  ·refine tK<|tS<|ab.block<|aJ<|rM J J<|rA J J<|rN<|aJ<|rM J J<|rM J J<|rM J J<|aH h fun v3 e1 h=>ae.qv (bG J J J e1 J J) J<|ae.qv (aQ J J J) J<|aH h fun v4 e2 h=>tV J J (lK e2) cR J<|rN<|cB h J (fun h=>?_) (fun h=>?_)
   ·refine aJ<|rM J J<|rA J J<|rN<|ab.ret<|have h:=bT h dQ;?_
    cases h
    exact hP J J
   ·refine tK<|ab.cw<|tR<|ae.qv (bq J J) J<|rM J J<|rN<|ab.stop<|?_
    cases h
    exact jl _ _ J<|aj.lq [] J J J
  ·refine ab.exit J<|have h:=bT h dQ;aJ<|rA J J<|rN<|ab.ret<|?_
   cases h
   exact hP J J
theorem HX [GI:bN] {aa:Campaign} {ai:List DeviceS} {aI:List MarkS} {bw:Int} {r:(List Int)} (h:tc aa ai aI bw=some r):aP Tryz.prog 59 [Campaign.av aa,ue ai,uf aI,I bw] [] (T1 (fun nO=>[(nO,dH r)]) (fun nO=>.sl 1 nO 0 r.length)):=by
 unfold tc at h
 refine aP.hC ?_
 refine aP.bI Tryz.func59 J Tryz.ntmps59 Tryz.results59 J J ?_
 refine aJ<|dp J J J J fun b1=>dp J J J J fun b2=>dp J J J J fun b3=>rA J J<|rN<|aJ<|ae.qv (aG J J .p2 J) J<|rL J J .p1 J J<|rL J J .p0 J J<|rM J J<|aH h fun v4 e1 h=>aT J (Am e1) cR J<|rA J J<|rN<|aJ<|rA J J<|rN<|aJ<|rF J J J<|rL J J .p2 J J<|rA J J<|rN<|tS<|aJ<|rF J J J<|rL J J .p2 J J<|ae.qv (ca J) J<|rM J J<|rN<|ab.block<|ab.cx (fun x:(List Int)×Int×Int=>oV aa ai aI bw v4 x.1 x.2.1 x.2.2) (fun x aK=>∃ (kV:Bk),aK=⟨95,[(3,I bw),(4,.ptr b1 0),(5,.ptr b2 0),(6,.ptr b3 0),(9,I v4),(10,.sl 1 kV 0 x.1.length),(11,I x.2.1),(27,I (aa.aR.length:Int)),(28,I x.2.2)],[(b1,.cells (Cq aa)),(b2,.cells [ue ai]),(b3,.cells [uf aI]),(kV,dH x.1)]⟩) h ?_ ?_
 ·exact aj.arr (s:=10) 1 J fun MT=>aj.lq [3,2,1,0] ⟨MT,J⟩ J J
 ·intro x z1 aK J1 dY h jl dQ
  obtain ⟨kT,n14,n15⟩:=x
  obtain ⟨kV,rfl⟩:=dY
  replace h:oV aa ai aI bw v4 kT n14 n15=some z1:=h
  unfold oV at h
  refine aJ<|ae.qv (bO J J) J<|rN<|tS<|cD h J (fun h=>?_) (fun h=>?_)
  ·refine tK<|tS<|ab.block<|aJ<|rM J J<|bH J J J J fun ti=>ay J J J J .p0 J J<|rN<|tS<|aJ<|rL J J .p0 J J<|ae.qv (eM J J) J<|rN<|ab.cut (fun aK=>∃ (n18:Int),oT bw v4 kT n15 n18=some z1∧aK=⟨95,[(3,I bw),(4,.ptr b1 0),(5,.ptr b2 0),(6,.ptr b3 0),(9,I v4),(10,.sl 1 kV 0 kT.length),(11,I n18),(27,I (aa.aR.length:Int)),(28,I n15)],[(b1,.cells (Cq aa)),(b2,.cells [ue ai]),(b3,.cells [uf aI]),(kV,dH kT)]⟩) ?_ ?_
   ·refine cD h J (fun h=>?_) (fun h=>?_)
    ·refine aJ<|rM J J<|rL J J .p0 J J<|ae.qv (eK J J) J<|aH h fun np e2 h=>ae.qv (bu J J J e2) J<|ae.qv (dJ (g:=I) J J (.inl .p4) e2 J) J<|rA J J<|rN<|aJ<|rM J J<|ku J J J J J J fun JO=>rA J J<|rN<|tS<|aJ<|rL J J .p4 J J<|ae.qv (ca J) J<|rM J J<|rN<|ab.block<|ab.cx (fun x:(List Int)×Int=>oU aa ai aI bw v4 kT n15 np x.1 x.2) (fun x aK=>∃ (xe:Bk),aK=⟨95,[(3,I bw),(4,.ptr b1 0),(5,.ptr b2 0),(6,.ptr b3 0),(9,I v4),(10,.sl 1 kV 0 kT.length),(12,.ptr ti 0),(13,I np),(14,.sl 1 xe 0 x.1.length),(27,I (aa.aR.length:Int)),(28,I n15),(40,uf aI),(41,I (aI.length:Int)),(42,I x.2)],[(b1,.cells (Cq aa)),(b2,.cells [ue ai]),(b3,.cells [uf aI]),(kV,dH kT),(ti,.cells [I n15]),(xe,dH x.1)]⟩) h ?_ ?_
     ·exact aj.lq [2,2,2,2,1,0] ⟨JO,J⟩ J J
     ·intro x z2 aK J2 dY h yr wE
      obtain ⟨r7,n26⟩:=x
      obtain ⟨xe,rfl⟩:=dY
      replace h:oU aa ai aI bw v4 kT n15 np r7 n26=some z2:=h
      unfold oU at h
      refine aJ<|ae.qv (bO J J) J<|rN<|tS<|cD h J (fun h=>?_) (fun h=>?_)
      ·refine tK<|tS<|ab.block<|aJ<|aH h fun mz e3 h=>ae.qv (bG J J J e3 J J) J<|ae.qv (aL J J J) J<|bH J J J J fun O2=>ay J J J J .p0 J J<|rN<|aJ<|rF J J J<|rL J J .p0 J J<|rM J J<|rM J J<|aT J (rk J) cR J<|rN<|ab.cut (fun aK=>∃ (Oh:Bk) (HQ:List Int),qB n26 HQ=some z2∧aK=⟨95,[(3,I bw),(4,.ptr b1 0),(5,.ptr b2 0),(6,.ptr b3 0),(9,I v4),(10,.sl 1 kV 0 kT.length),(12,.ptr ti 0),(13,I np),(14,.sl 1 Oh 0 HQ.length),(27,I (aa.aR.length:Int)),(28,I n15),(40,uf aI),(41,I (aI.length:Int)),(42,I n26)],[(b1,.cells (Cq aa)),(b2,.cells [ue ai]),(b3,.cells [uf aI]),(kV,dH kT),(ti,.cells [I n15]),(Oh,dH HQ)]⟩) ?_ ?_
       ·refine cB h J (fun h=>?_) (fun h=>?_)
        ·exact tR<|rM J J<|rF J J J<|rL J J .p0 J J<|aW (xs:=([mz.At]:List Int).map I) J J J J J J<|aH h fun KS e4 h=>fo (g:=I) J J J J J J J J (.list _) e4 (fun _=>.p6) J fun Xr=>rA J J<|rN<|ab.stop<|aj.lq [1,1,1,1,1,1] ⟨Xr,KS,h,J⟩ J J
        ·exact tK<|ab.stop<|aj.lq [1,1,1,1,1,1] ⟨xe,r7,h,J⟩ J J
       ·rintro aK ⟨Oh,HQ,h,rfl⟩
        unfold qB at h
        refine ab.cw<|tR<|ae.qv (bq J J) J<|rM J J<|rN<|ab.stop<|?_
        cases h
        exact yr _ _ J<|aj.lq [0,0,0,0,0,0] ⟨Oh,J⟩ J J
      ·refine ab.exit J<|have h:=bT h wE;?_
       unfold tH at h
       refine aJ<|rM J J<|aH h fun v33 e5 h=>br J (yA (rZ e5)) cR (.cons .p5 .nil) J J<|ae.ghost<|aj.eqs (s:=14) (gx:=.sl 1 xe 0 v33.length) J (congrArg (AV.sl 1 xe 0) (gR e5))<|aj.here<|ae.ghost<|aj.eqs (s:=57) (gx:=.sl 1 xe 0 v33.length) J (congrArg (AV.sl 1 xe 0) (gR e5))<|aj.here<|rN<|aJ<|rM J J<|ae.qv (mC J) J<|aH h fun Ck e6 h=>fk J (vr (fun e=>DB e) e6) (.cons (lO.jX .p0) (.cons (.Bf _ _ _ (.cons (.xC _ _ _ .p2 (.cons (.co (.refl _)) .nil)) (.cons (.xC _ _ _ .p1 (.cons (.co (.refl _)) (.cons (.co (.refl _)) (.cons (.co (.refl _)) (.cons (.co (.refl _)) (.cons (.co (.refl _)) (.cons (.co (.refl _)) (.cons (.co (.refl _)) (.cons (.co (.refl _)) (.cons (.co (.refl _)) .nil)))))))))) (.cons (.xC _ _ _ .p5 (.cons (.co (.refl _)) .nil)) (.cons (.xC _ _ _ .p3 (.cons (.co (.refl _)) .nil)) .nil))))) .nil)) J J<|rA J J<|rN<|tS<|aJ<|rM J J<|ae.qv (bO J J) J<|rN<|cD h J (fun h=>?_) (fun h=>?_)
       ·refine aJ<|rM J J<|rA J J<|rN<|ab.ret<|have h:=bT h dQ;?_
        cases h
        exact hH J [4] J ⟨kV,J,J⟩
       ·exact tK<|ab.cU (id:=20) (A:=[0,0,3,7,0,16,0,112,240,496,1023,2047]) 12 mixed J (by kernel_rfl) (by kernel_rfl)<|AM.qv (aM J) J<|AM.qv (aM J) J<|aH h fun v35 e7 h=>AM.qv (bu J J J e7) J<|AM.qv (dJ (g:=I) J J (.inl .p0) e7 J) J<|AM.qv (az J J) J<|AM.qv (aN J J .p1 J) J<|AM.qv (aN J J .p5 J) J<|aH h fun Qy e8 h=>AM.qv (bG J J J e8 J J) J<|AM.qv (bf J J) J<|AM.qv (aQ J J J) J<|AM.qv (bq J J) J<|AM.qv (bR J) J<|AM.nil<|rN<|ab.stop<|aj.lq [1,1,1,1] ⟨bB (v35+Qy.vg),h,J⟩ J J
    ·exact tK<|ab.stop<|aj.lq [1,1,1,1] ⟨n14,h,J⟩ J J
   ·rintro aK ⟨n18,h,rfl⟩
    unfold oT at h
    refine tS<|tS<|ab.cut (fun aK=>∃ (c37:Bool),tG kT n15 n18 c37=some z1∧aK=⟨95,[(3,I bw),(4,.ptr b1 0),(5,.ptr b2 0),(6,.ptr b3 0),(9,I v4),(10,.sl 1 kV 0 kT.length),(11,I n18),(27,I (aa.aR.length:Int)),(28,I n15),(87,.bool c37)],[(b1,.cells (Cq aa)),(b2,.cells [ue ai]),(b3,.cells [uf aI]),(kV,dH kT)]⟩) ?_ ?_
    ·refine tR<|rM J J<|rM J J<|ae.qv (eM J J) J<|rM J J<|ae.dG J J J (fun hc=>?_) (fun hc=>?_)
     ·rw [wU hc] at h
      refine rM J J<|rY J J J<|ae.qv (nU J J) J<|rY J J J<|rM J J<|ae.dw J J J (fun hc=>?_) (fun hc=>?_)
      ·rw [vc hc] at h
       exact rM J J<|rY J J J<|rM J J<|rY J J J<|ae.qv (nU J J) J<|rY J J J<|rT J J J<|rE J J J<|rN<|ab.stop<|aj.lq [0,0,0,0] ⟨decide (v4≤n18),h,J⟩ J J
      ·rw [vd hc] at h
       exact rG J J J J<|rG J J J J<|rY J J J<|rE J J J<|rE J J J<|rN<|ab.stop<|aj.lq [0,0,0,0] ⟨false,h,J⟩ J J
     ·rw [wT hc] at h
      exact rG J J J J<|rG J J J J<|ae.aS J J J<|ae.aS J J J<|ae.aS J J J<|rG J J J J<|rT J J J<|rN<|ab.stop<|aj.lq [0,0,0,0] ⟨true,h,J⟩ J J
    ·rintro aK ⟨c37,h,rfl⟩
     unfold tG at h
     refine cB h J (fun h=>?_) (fun h=>?_)
     ·refine aJ<|rM J J<|rA J J<|rN<|ab.ret<|have h:=bT h dQ;?_
      cases h
      exact hH J [3] J ⟨kV,J,J⟩
     ·refine tK<|tR<|rM J J<|rM J J<|aW (xs:=([n18]:List Int).map I) J J J J J J<|aH h fun l38 e9 h=>fo (g:=I) J J J J J J J J (.list _) e9 (fun _=>.p3) J fun HV=>rA J J<|rN<|ab.cw<|tR<|ae.qv (bq J J) J<|rM J J<|rN<|ab.stop<|?_
      cases h
      exact jl _ _ J<|aj.lq [0,0,0,0] ⟨HV,J⟩ J J
  ·refine ab.exit J<|have h:=bT h dQ;aJ<|rM J J<|rA J J<|rN<|ab.ret<|?_
   cases h
   exact hH J [3] J ⟨kV,J,J⟩
theorem QM [GI:bN] {aa:ak} {r:Bool} (h:ER aa=r):Pu Tryz.prog 61 [ak.av aa] (.bool r):=by
 unfold ER at h
 refine aP.bI Tryz.func61 J Tryz.ntmps61 Tryz.results61 J J ?_
 refine aJ<|dp J J J J fun b1=>rA J J<|rN<|tS<|ab.cut (fun aK=>∃ (c2:Bool),zM c2=r∧aK=⟨11,[(2,.bool c2)],[]⟩) ?_ ?_
 ·refine tR<|rF J J J<|rL J J .p0 J J<|ae.qv (dt J J) J<|rM J J<|ae.dG J J J (fun hc=>?_) (fun hc=>?_)
  ·rw [wU hc] at h
   exact rF J J J<|rY J J J<|rL J J .p0 J J<|rY J J J<|ae.qv (dt J J) J<|rE J J J<|rA J J<|rN<|ab.stop<|aj.lq [] ⟨decide (aa.Kind=2),h,J⟩ J J
  ·rw [wT hc] at h
   exact rG J J J J<|rG J J J J<|rT J J J<|rA J J<|rN<|ab.stop<|aj.lq [] ⟨true,h,J⟩ J J
 ·rintro aK ⟨c2,h,rfl⟩
  unfold zM at h
  refine ab.ret<|?_
  obtain rfl:=h
  exact hP J J
theorem DC [GI:bN] {aa ai:DeviceS} {aI:Campaign} {r:Int} (h:mN aa ai aI=some r):Pu Tryz.prog 65 [DeviceS.av aa,DeviceS.av ai,.ch [.str aI.Key,I aI.Target.aA,I aI.Target.aC,I aI.Target.aD,I aI.At,p9 aI.aR,I aI.aZ.bS,I aI.aZ.To,I aI.Room]] (I r):=by
 unfold mN at h
 refine aP.bI Tryz.func65 J Tryz.ntmps65 Tryz.results65 J J ?_
 refine aJ<|dp J J J J fun b1=>dp J J J J fun b2=>rA J J<|rN<|tS<|ab.cU (id:=1) (A:=[0,0,2,7,0,0,32,127,255,0,0,1024,3839,0,0,16384,65279,130815,262143,524287]) 20 mixed J (by kernel_rfl) (by kernel_rfl)<|AM.qv (aL J J J) J<|AM.qv (az J J) J<|AM.qv (aN J J .p1 J) J<|aH h fun v3 e1 h=>AM.iX J (vq e1) cR J<|AM.qv (aL J J J) J<|AM.qv (az J J) J<|AM.qv (aN J J .p1 J) J<|aH h fun v4 e2 h=>AM.iX J (HW e2) cR J<|AM.cO (xs:=([v3,v4]:List Int).map I) J J J J J J<|AM.qv (aL J J J) J<|AM.qv (az J J) J<|AM.qv (aN J J .p0 J) J<|aH h fun v5 e3 h=>AM.iX J (vq e3) cR J<|AM.qv (aL J J J) J<|AM.qv (az J J) J<|AM.qv (aN J J .p0 J) J<|aH h fun v6 e4 h=>AM.iX J (HW e4) cR J<|AM.cO (xs:=([v5,v6]:List Int).map I) J J J J J J<|aH h fun v7 e5 h=>AM.iX J (qI e5) cR J<|AM.qv (bR J) J<|AM.nil<|rN<|ab.ret<|?_
 cases h
 exact hP J J
theorem ko [GI:bN] {bt:Bk} {aa:List DeviceS} {ai aI:Int} {lS:DeviceS→DeviceS→Option Int} {xf:FuncId} [bJ Tryz.prog xf] {ze:List AV} (QE:∀ {y0 y1:_} {u:Int},lS y0 y1=some u→Pu Tryz.prog xf (DeviceS.av y0 :: DeviceS.av y1 :: ze) (I u)) {r:(List DeviceS)} (h:dB aa ai aI lS=some r):aP Tryz.prog 137 [.sl 7 bt 0 aa.length,I ai,I aI,.func (.func xf) ze] [(bt,wL aa)] (T0 ([(bt,wL r)]) (.lE [])):=by
 unfold dB at h
 refine aP.hC ?_
 refine aP.bI Tryz.func137 J Tryz.ntmps137 Tryz.results137 J J ?_
 refine aJ<|rM J J<|ae.qv (bq J J) J<|rA J J<|rN<|ab.block<|ab.cx (fun x:(List DeviceS)×Int=>dV ai aI lS x.1 x.2) (fun x aK=>aK=⟨53,[(0,.sl 7 bt 0 x.1.length),(1,I ai),(2,I aI),(3,.func (.func xf) ze),(8,I x.2)],[(bt,wL x.1)]⟩) h ?_ ?_
 ·exact aj.lq [0] J J J
 ·intro x z1 aK J1 dY h jl dQ
  obtain ⟨l3,n4⟩:=x
  obtain rfl:=dY
  replace h:dV ai aI lS l3 n4=some z1:=h
  unfold dV at h
  refine tS<|aJ<|rM J J<|rM J J<|ae.qv (bO J J) J<|rN<|cD h J (fun h=>?_) (fun h=>?_)
  ·refine tK<|tS<|ab.block<|aJ<|rM J J<|rA J J<|rN<|ab.block<|ab.cx (fun x:(List DeviceS)×Int=>dU ai lS n4 x.1 x.2) (fun x aK=>aK=⟨53,[(0,.sl 7 bt 0 x.1.length),(1,I ai),(2,I aI),(3,.func (.func xf) ze),(8,I n4),(9,I x.2)],[(bt,wL x.1)]⟩) h ?_ ?_
   ·exact aj.lq [0] J J J
   ·intro x z2 aK J2 dY h yr wE
    obtain ⟨l7,n8⟩:=x
    obtain rfl:=dY
    replace h:dU ai lS n4 l7 n8=some z2:=h
    unfold dU at h
    refine tS<|tS<|ab.cut (fun aK=>∃ (c9:Bool),dT n4 l7 n8 c9=some z2∧aK=⟨53,[(0,.sl 7 bt 0 l7.length),(1,I ai),(2,I aI),(3,.func (.func xf) ze),(8,I n4),(9,I n8),(34,.bool c9)],[(bt,wL l7)]⟩) ?_ ?_
    ·refine ab.cU (id:=4) (A:=[0,0,3,7,15,15,15,111,239,15,15,1039,3599,7695,16383,32767,65535]) 17 mixed J (by kernel_rfl) (by kernel_rfl)<|AM.qv (aM J) J<|AM.qv (aM J) J<|AM.qv (eM J J) J<|AM.qv (aM J) J<|AM.dw J J J (fun hc=>?_) (fun hc=>?_)
     ·exact have h:=pj hc h;AM.qv (aM J) J<|AM.au J J J<|AM.qv (aM J) J<|AM.au J J J<|AM.qv (aM J) J<|AM.au J J J<|aH h fun v10 e1 h=>AM.qv (bu J J J e1) J<|AM.au J J J<|AM.qv (bP (g:=DeviceS.av) J J (.inl .p0) J e1 J) J<|AM.au J J J<|AM.qv (aM J) J<|AM.au J J J<|AM.qv (aM J) J<|AM.au J J J<|AM.qv (eK J J) J<|AM.au J J J<|aH h fun v11 e2 h=>AM.qv (bu J J J e2) J<|AM.au J J J<|AM.qv (bP (g:=DeviceS.av) J J (.inl .p0) J e2 J) J<|AM.au J J J<|aH h fun v12 e3 h=>AM.HN J J (QE e3) cR J<|AM.au J J J<|AM.qv (bO J J) J<|AM.qv (fP J J) J<|AM.nil<|rN<|ab.stop<|aj.lq [0] ⟨decide (v12 < 0),h,J⟩ J J
     ·exact have h:=zZ hc h;AM.ar J J J J<|AM.ar J J J J<|AM.ar J J J J<|AM.ar J J J J<|AM.ar J J J J<|AM.ar J J J J<|AM.ar J J J J<|AM.ar J J J J<|AM.ar J J J J<|AM.ar J J J J<|AM.ar J J J J<|AM.qv (ed J J) J<|AM.nil<|rN<|ab.stop<|aj.lq [0] ⟨false,h,J⟩ J J
    ·rintro aK ⟨c9,h,rfl⟩
     unfold dT at h
     refine cB h J (fun h=>?_) (fun h=>?_)
     ·refine tK<|tS<|ab.block<|aH h fun gy e4 h=>aH h fun qe e5 h=>aH h fun kU e6 h=>ab.jN (id:=6) (A:=[0,0,0,0,8,0,0,64,224,480,0,0,3072,7168,16355,32739,65535,131071]) (H0:=[(bt,wL l7)]) (HH:=fun β=>[(bt,wL (l7.set n8.toNat gy))]) 16 mixed J (by kernel_rfl) (by kernel_rfl) [⟨none,some 15,[9,13],fun _=>(bt,wL l7),none,[]⟩,⟨some 15,none,[],fun _=>(bt,wL (l7.set n8.toNat gy)),none,[]⟩] [] J (by kernel_rfl) J (.cons .p0 .nil) (fun _=>J)<|AT.am 9 J J<|AM.qv (aM J) J<|AM.qv (aM J) J<|AM.qv (aM J) J<|AM.qv (aM J) J<|AM.qv (eK J J) J<|AM.qv (aM J) J<|AM.qv (aM J) J<|AM.qv (eK J J) J<|AM.qv (bu J J J e4) J<|AM.nil<|AT.rd (Rs:=[(bt,wL l7)]) (fun _=>J) J (fun _=>J) (fun _=>J) (bP (g:=DeviceS.av) J J (.inl .p0) J e4 J) J<|AT.am 3 J J<|AM.qv (aM J) J<|AM.qv (aM J) J<|AM.qv (bu J J J e5) J<|AM.nil<|AT.rd (Rs:=[(bt,wL l7)]) (fun _=>J) J (fun _=>J) (fun _=>J) (bP (g:=DeviceS.av) J J (.inl .p0) J e5 J) J<|AT.am 1 J J<|AM.qv (bu J J J e6) J<|AM.nil<|AT.HB (Ti:=[(bt,wL l7)]) (Pi:=[(bt,wL (l7.set n8.toNat gy))]) (fun _=>J) (fun _=>J) (fun _=>J) J J ?_ ?_
      ·exact cE (g:=DeviceS.av) (A6:=gy) J J J J e6 J .p0 J<|ae.nil ⟨_,J⟩
      refine AT.wW (fun _=>J) fun β=>ae.ghost<|aj.eqs (s:=0) (gx:=.sl 7 bt 0 (l7.set n8.toNat gy).length) J (by simp)<|aj.here<|ae.ghost<|aj.eqs (s:=37) (gx:=.sl 7 bt 0 (l7.set n8.toNat gy).length) J (by simp)<|aj.here<|ae.ghost<|aj.eqs (s:=39) (gx:=.sl 7 bt 0 (l7.set n8.toNat gy).length) J (by simp)<|aj.here<|ae.ghost<|aj.eqs (s:=42) (gx:=.sl 7 bt 0 (l7.set n8.toNat gy).length) J (by simp)<|aj.here<|ae.ghost<|aj.eqs (s:=47) (gx:=.sl 7 bt 0 (l7.set n8.toNat gy).length) J (by simp)<|aj.here<|aH h fun sW e7 h=>ae.qv (bu J J J e7) J<|cE (g:=DeviceS.av) (A6:=qe) J J J J e7 J .p0 J<|ae.ghost<|aj.eqs (s:=0) (gx:=.sl 7 bt 0 ((l7.set n8.toNat gy).set (bB (n8 - 1)).toNat qe).length) J (by rw [ac])<|aj.here<|ae.ghost<|aj.eqs (s:=37) (gx:=.sl 7 bt 0 ((l7.set n8.toNat gy).set (bB (n8 - 1)).toNat qe).length) J (by rw [ac])<|aj.here<|ae.ghost<|aj.eqs (s:=39) (gx:=.sl 7 bt 0 ((l7.set n8.toNat gy).set (bB (n8 - 1)).toNat qe).length) J (by rw [ac])<|aj.here<|ae.ghost<|aj.eqs (s:=42) (gx:=.sl 7 bt 0 ((l7.set n8.toNat gy).set (bB (n8 - 1)).toNat qe).length) J (by rw [ac])<|aj.here<|ae.ghost<|aj.eqs (s:=47) (gx:=.sl 7 bt 0 ((l7.set n8.toNat gy).set (bB (n8 - 1)).toNat qe).length) J (by rw [ac])<|aj.here<|rN<|ab.cw<|tR<|rM J J<|ae.qv (eK J J) J<|rA J J<|rN<|ab.stop<|?_
      cases h
      exact yr _ _ J<|aj.lq [0] J J J
     ·refine ab.exit J<|have h:=bT h wE;ab.cw<|tR<|rM J J<|ae.qv (bq J J) J<|rA J J<|rN<|ab.stop<|?_
      cases h
      exact jl _ _ J<|aj.lq [0] J J J
  ·refine ab.exit J<|have h:=bT h dQ;ab.nil<|?_
   cases h
   exact aj.here ⟨_,.nil,_,.cons .p0 .nil,⟨J,J⟩⟩
theorem ui [GI:bN] {bt:Bk} {aa:List DeviceS} {ai:Int} {yb:DeviceS→DeviceS→Option Int} {sP:FuncId} [bJ Tryz.prog sP] {vm:List AV} (EW:∀ {y0 y1:_} {u:Int},yb y0 y1=some u→Pu Tryz.prog sP (DeviceS.av y0 :: DeviceS.av y1 :: vm) (I u)) {r:(List DeviceS)} (h:fy aa ai yb=some r):aP Tryz.prog 109 [.sl 7 bt 0 aa.length,I ai,.func (.func sP) vm] [(bt,wL aa)] (T0 ([(bt,wL r)]) (.lE [])):=by
 unfold fy at h
 refine aP.hC ?_
 refine aP.bI Tryz.func109 J Tryz.ntmps109 Tryz.results109 J J ?_
 refine aJ<|rA J J<|rN<|aJ<|rM J J<|rA J J<|rA J J<|rN<|tS<|ab.block<|ab.cx (fun x:(List DeviceS)×Int×Int=>ep ai yb x.1 x.2.1 x.2.2) (fun x aK=>aK=⟨63,[(0,.sl 7 bt 0 x.1.length),(1,I ai),(2,.func (.func sP) vm),(6,I 20),(7,I x.2.1),(8,I x.2.2)],[(bt,wL x.1)]⟩) h ?_ ?_
 ·exact aj.lq [0] J J J
 ·intro x z1 aK J1 dY h jl dQ
  obtain ⟨l4,n5,n6⟩:=x
  obtain rfl:=dY
  replace h:ep ai yb l4 n5 n6=some z1:=h
  unfold ep at h
  refine tS<|aJ<|rM J J<|rM J J<|ae.qv (pn J J) J<|rN<|cD h J (fun h=>?_) (fun h=>?_)
  ·refine tK<|ab.block<|aJ<|rM J J<|rM J J<|rM J J<|rM J J<|aH h fun v7 e1 h=>br J (ko EW (rZ e1)) cR (.cons .p0 .nil) J J<|ae.ghost<|aj.eqs (s:=0) (gx:=.sl 7 bt 0 v7.length) J (congrArg (AV.sl 7 bt 0) (gR e1))<|aj.here<|ae.ghost<|aj.eqs (s:=14) (gx:=.sl 7 bt 0 v7.length) J (congrArg (AV.sl 7 bt 0) (gR e1))<|aj.here<|rN<|aJ<|rM J J<|rA J J<|rN<|tR<|rM J J<|rM J J<|ae.qv (bq J J) J<|rA J J<|rN<|ab.cw<|ab.stop<|?_
   cases h
   exact jl _ _ J<|aj.lq [0] J J J
  ·refine ab.exit J<|have h:=bT h dQ;?_
   unfold jk at h
   refine aJ<|rM J J<|rM J J<|rM J J<|rM J J<|aH h fun v8 e2 h=>br J (ko EW (rZ e2)) cR (.cons .p0 .nil) J J<|ae.ghost<|aj.eqs (s:=0) (gx:=.sl 7 bt 0 v8.length) J (congrArg (AV.sl 7 bt 0) (gR e2))<|aj.here<|ae.ghost<|aj.eqs (s:=23) (gx:=.sl 7 bt 0 v8.length) J (congrArg (AV.sl 7 bt 0) (gR e2))<|aj.here<|rN<|ab.block<|ab.cx (fun x:Int=>eo ai v8 x) (fun x aK=>aK=⟨63,[(0,.sl 7 bt 0 v8.length),(1,I ai),(2,.func (.func sP) vm),(6,I x)],[(bt,wL v8)]⟩) h ?_ ?_
   ·exact aj.lq [0] J J J
   ·intro n10 z2 aK J2 dY h yr wE
    obtain rfl:=dY
    replace h:eo ai v8 n10=some z2:=h
    unfold eo at h
    refine tS<|aJ<|rM J J<|rM J J<|ae.qv (bO J J) J<|rN<|cD h J (fun h=>?_) (fun h=>?_)
    ·refine tK<|ab.block<|aJ<|rM J J<|ae.qv (sR J J) J<|rA J J<|rA J J<|rN<|tS<|ab.block<|ab.cx (fun x:Unit=>gd ai n10) (fun x aK=>aK=⟨63,[(0,.sl 7 bt 0 v8.length),(1,I ai),(2,.func (.func sP) vm),(6,I n10),(7,I 0),(8,I (bB (2 * n10)))],[(bt,wL v8)]⟩) h ?_ ?_
     ·exact aj.lq [0] J J J
     ·intro x z3 aK J3 dY h YO Wd
      obtain rfl:=dY
      replace h:gd ai n10=some z3:=h
      unfold gd at h
      refine tS<|aJ<|rM J J<|rM J J<|ae.qv (pn J J) J<|rN<|cD h J (fun h=>?_) (fun h=>?_)
      ·refine tK<|ab.block<|aJ<|rM J J<|rM J J<|rM J J<|rM J J<|ae.qv (bq J J) J<|rM J J<|rM J J<|?_
       cases h
      ·refine ab.exit J<|have h:=bT h Wd;?_
       unfold nJ at h
       refine tS<|aJ<|rM J J<|rM J J<|ae.qv (bq J J) J<|rA J J<|rN<|aJ<|rM J J<|rM J J<|ae.qv (bO J J) J<|rN<|cD h J (fun h=>?_) (fun h=>?_)
       ·refine tR<|rM J J<|rM J J<|rM J J<|rM J J<|rM J J<|?_
        cases h
       ·refine tK<|tR<|rM J J<|ae.qv (sR J J) J<|rA J J<|rN<|ab.cw<|ab.stop<|?_
        cases h
        exact yr _ _ J<|aj.lq [0] J J J
    ·refine ab.exit J<|have h:=bT h wE;ab.nil<|?_
     cases h
     exact aj.here ⟨_,.nil,_,.cons .p0 .nil,⟨J,J⟩⟩
theorem qa [GI:bN] {bt:Bk} {aa:List DeviceS} {eC:DeviceS→DeviceS→Option Int} {du:FuncId} [bJ Tryz.prog du] {eB:List AV} (lK:∀ {y0 y1:_} {u:Int},eC y0 y1=some u→Pu Tryz.prog du (DeviceS.av y0 :: DeviceS.av y1 :: eB) (I u)) {r:(List DeviceS)} (h:cK aa eC=some r):aP Tryz.prog 64 [.sl 7 bt 0 aa.length,.func (.func du) eB] [(bt,wL aa)] (T0 ([(bt,wL r)]) (.lE [])):=by
 unfold cK at h
 refine aP.hC ?_
 refine aP.bI Tryz.func64 J Tryz.ntmps64 Tryz.results64 J J ?_
 refine tR<|rM J J<|rM J J<|ae.qv (ee J) J<|rM J J<|aH h fun v1 e1 h=>br J (ui lK (rZ e1)) cR (.cons .p0 .nil) J J<|ae.ghost<|aj.eqs (s:=0) (gx:=.sl 7 bt 0 v1.length) J (congrArg (AV.sl 7 bt 0) (gR e1))<|aj.here<|ae.ghost<|aj.eqs (s:=4) (gx:=.sl 7 bt 0 v1.length) J (congrArg (AV.sl 7 bt 0) (gR e1))<|aj.here<|ae.ghost<|aj.eqs (s:=5) (gx:=.sl 7 bt 0 v1.length) J (congrArg (AV.sl 7 bt 0) (gR e1))<|aj.here<|rN<|ab.nil<|?_
 cases h
 exact aj.here ⟨_,.nil,_,.cons .p0 .nil,⟨J,J⟩⟩
theorem vu [GI:bN] {aa:List an} {r:(List an)} (h:gQ aa=some r):aP Tryz.prog 140 [.list 6 (aa.map an.av)] [] (T1 (fun nO=>[(nO,.arr 6 (r.map an.av))]) (fun nO=>.sl 6 nO 0 r.length)):=by
 unfold gQ at h
 refine aP.hC ?_
 refine aP.bI Tryz.func140 J Tryz.ntmps140 Tryz.results140 J J ?_
 refine ab.seq ?_
 refine ab.region ?_
 refine ae.qv (bR J) J ?_
 refine ae.nil ?_
 refine ab.seq ?_
 refine ab.seq ?_
 refine ab.region ?_
 refine ae.qv (aM J) J ?_
 refine HE J J J J (fun c hc=>?_)
 refine ae.nil ?_
 refine ab.cond J (fun hT=>?_) (fun hF=>?_)
 ·obtain rfl:=xH h (af.1 (hc hT))
  refine ab.seq ?_
  refine ab.region ?_
  refine ae.qv (bR J) J ?_
  refine ae.nil ?_
  refine ab.ret ?_
  refine aj.arr (s:=2) 6 J (fun b1=>?_)
  exact aj.here ⟨_,.cons (.tmp _ _ J) .nil,_,.cons .here .nil,⟨b1,J,J⟩⟩
 ·refine ab.skip ?_
  refine ab.seq ?_
  refine ab.region ?_
  refine ku (xs:=([]:List an).map an.av) J J J J J J (fun b2=>?_)
  refine ae.qv (aM J) J ?_
  refine fo (g:=an.av) (Xs:=[]) J J J J J J J J (.list _) h (fun _=>.here) J (fun b3=>?_)
  refine ae.qv (bR J) J ?_
  refine ae.nil ?_
  refine ab.ret ?_
  exact aj.here ⟨_,.cons (.tmp _ _ J) .nil,_,.cons .here .nil,⟨b3,J,J⟩⟩
theorem BI [GI:bN] {aa:an} {ai:bn} {aI:Version} {r:Bool} (h:qU aa ai aI=some r):Pu Tryz.prog 141 [an.av aa,.ch [.str ai],.ch [I aI.aA,I aI.aC,I aI.aD]] (.bool r):=by
 unfold qU at h
 refine aP.bI Tryz.func141 J Tryz.ntmps141 Tryz.results141 J J ?_
 refine aJ<|dp J J J J fun b1=>rA J J<|rN<|tS<|ab.cut (fun aK=>∃ (c2:Bool),lx c2=some r∧aK=⟨16,[(4,.bool c2)],[]⟩) ?_ ?_
 ·refine tR<|rF J J J<|rL J J .p0 J J<|ae.qv (aQ J J J) J<|aH h fun v3 e1 h=>aT J (iO e1) cR J<|ae.qv (cu J) J<|rM J J<|ae.guard J J J (fun hc=>?_) (fun hc=>?_)
  ·exact have h:=ry hc h;ae.qv (aG J J .p0 J) J<|rY J J J<|ae.qv (aL J J J) J<|rY J J J<|aH h fun v4 e2 h=>aT J (JS e2) cR J<|rY J J J<|ae.qv (cu J) J<|rE J J J<|rA J J<|rN<|ab.stop<|aj.lq [] ⟨!v4,h,J⟩ J J
  ·exact have h:=pj hc h;rG J J J J<|rG J J J J<|rG J J J J<|rT J J J<|rA J J<|rN<|ab.stop<|aj.lq [] ⟨true,h,J⟩ J J
 ·rintro aK ⟨c2,h,rfl⟩
  unfold lx at h
  refine ab.ret<|?_
  cases h
  exact hP J J
theorem sM [GI:bN] {bt:Bk} {aa:List an} {eC:an→Option Bool} {du:FuncId} [bJ Tryz.prog du] {eB:List AV} (lK:∀ {y0:_} {u:Bool},eC y0=some u→Pu Tryz.prog du (an.av y0 :: eB) (.bool u)) {r:(List an)} (h:gH aa eC=some r):aP Tryz.prog 139 [.sl 6 bt 0 aa.length,.func (.func du) eB] [(bt,yg aa)] (T1 (fun nO=>[(nO,yg r)]) (fun nO=>.sl 6 nO 0 r.length)):=by
 unfold gH at h
 refine aP.hC ?_
 refine aP.bI Tryz.func139 J Tryz.ntmps139 Tryz.results139 J J ?_
 refine aJ<|rA J J<|rN<|aJ<|rM J J<|rM J J<|aH h fun v1 e1 h=>fk J (gh lK e1) (.cons (lO.jX .p0) (.cons (.co (.refl _)) .nil)) J J<|rA J J<|rN<|tS<|aJ<|rM J J<|ae.qv (dt J J) J<|rN<|cD h J (fun h=>?_) (fun h=>?_)
 ·refine aJ<|rM J J<|rA J J<|rN<|ab.ret<|?_
  cases h
  exact hH J [0] J ⟨bt,J,J⟩
 ·refine tK<|tS<|aJ<|rM J J<|ae.qv (bq J J) J<|rA J J<|rN<|ab.block<|ab.cx (fun x:(List an)×Int×Int=>fB eC x.1 x.2.1 x.2.2) (fun x aK=>aK=⟨42,[(0,.sl 6 bt 0 x.1.length),(1,.func (.func du) eB),(5,I x.2.1),(6,I x.2.2)],[(bt,yg x.1)]⟩) h ?_ ?_
  ·exact aj.lq [0] J J J
  ·intro x z1 aK J1 dY h jl dQ
   obtain ⟨l5,n6,n7⟩:=x
   obtain rfl:=dY
   replace h:fB eC l5 n6 n7=some z1:=h
   unfold fB at h
   refine tS<|aJ<|rM J J<|rM J J<|ae.qv (ee J) J<|ae.qv (bO J J) J<|rN<|cD h J (fun h=>?_) (fun h=>?_)
   ·refine tK<|tS<|ab.block<|aJ<|rM J J<|rM J J<|aH h fun v8 e2 h=>ae.qv (bu J J J e2) J<|ae.qv (bP (g:=an.av) J J (.inl .p0) J e2 J) J<|bH J J J J fun b9=>ay J J J J .p0 J J<|rN<|aJ<|rM J J<|ae.qv (aG J J .p0 J) J<|aH h fun v10 e3 h=>tV J J (lK e3) cR J<|ae.qv (cu J) J<|rN<|ab.cut (fun aK=>∃ (js:List an) (n12:Int),fA n7 js n12=some z1∧aK=⟨42,[(0,.sl 6 bt 0 js.length),(1,.func (.func du) eB),(5,I n12),(6,I n7)],[(bt,yg js)]⟩) ?_ ?_
    ·refine cB h J (fun h=>?_) (fun h=>?_)
     ·exact aJ<|rM J J<|rM J J<|ae.qv (aG J J .p0 J) J<|aH h fun gy e4 h=>ae.qv (bu J J J e4) J<|cE (g:=an.av) (A6:=v8) J J J J e4 J .p1 J<|ae.ghost<|aj.eqs (s:=0) (gx:=.sl 6 bt 0 (l5.set n6.toNat v8).length) J (by rw [ac])<|aj.here<|ae.ghost<|aj.eqs (s:=17) (gx:=.sl 6 bt 0 (l5.set n6.toNat v8).length) J (by rw [ac])<|aj.here<|ae.ghost<|aj.eqs (s:=22) (gx:=.sl 6 bt 0 (l5.set n6.toNat v8).length) J (by rw [ac])<|aj.here<|ae.ghost<|aj.eqs (s:=30) (gx:=.sl 6 bt 0 (l5.set n6.toNat v8).length) J (by rw [ac])<|aj.here<|rN<|tR<|rM J J<|ae.qv (bq J J) J<|rA J J<|rN<|ab.stop<|aj.lq [1] ⟨l5.set n6.toNat v8,bB (n6+1),h,J⟩ J J
     ·exact tK<|ab.stop<|aj.lq [1] ⟨l5,n6,h,J⟩ J J
    ·rintro aK ⟨js,n12,h,rfl⟩
     unfold fA at h
     refine ab.cw<|tR<|rM J J<|ae.qv (bq J J) J<|rA J J<|rN<|ab.stop<|?_
     cases h
     exact jl _ _ J<|aj.lq [0] J J J
   ·refine ab.exit J<|have h:=bT h dQ;?_
    unfold mx at h
    refine aJ<|rM J J<|rM J J<|aH h fun yF e5 h=>ae.qv (qZ J J (.some _ _ _ J) .none J J e5) J<|Qh (g:=an.av) (Z:=(⟨(⟨0,0,0⟩:Version),[],[],0⟩:an)) (L:=n6) J J J J J J e5 .p0<|ae.ghost<|aj.eqs (s:=0) (gx:=.sl 6 bt 0 (DM l5 n6 yF.length (⟨(⟨0,0,0⟩:Version),[],[],0⟩:an)).length) J (congrArg (AV.sl 6 bt 0) (vP e5))<|aj.here<|ae.ghost<|aj.eqs (s:=17) (gx:=.sl 6 bt 0 (DM l5 n6 yF.length (⟨(⟨0,0,0⟩:Version),[],[],0⟩:an)).length) J (congrArg (AV.sl 6 bt 0) (vP e5))<|aj.here<|ae.ghost<|aj.eqs (s:=36) (gx:=.sl 6 bt 0 (DM l5 n6 yF.length (⟨(⟨0,0,0⟩:Version),[],[],0⟩:an)).length) J (congrArg (AV.sl 6 bt 0) (vP e5))<|aj.here<|rN<|aJ<|rM J J<|rM J J<|aH h fun yp e6 h=>ae.qv (qZ J J .none (.some _ _ _ J) J J e6) J<|rA J J<|ae.ghost<|aj.PS e6 .p0<|aj.here<|rN<|ab.ret<|?_
    cases h
    exact hH J [0] J ⟨bt,J,J⟩
theorem E3 [GI:bN] {aa:List an} {ai:bn} {aI:Version} {r:(List an)} (h:so aa ai aI=some r):aP Tryz.prog 110 [rP aa,.str ai,Version.av aI] [] (T1 (fun nO=>[(nO,yg r)]) (fun nO=>.sl 6 nO 0 r.length)):=by
 unfold so at h
 refine aP.hC ?_
 refine aP.bI Tryz.func110 J Tryz.ntmps110 Tryz.results110 J J ?_
 refine aJ<|dp J J J J fun b1=>dp J J J J fun b2=>rA J J<|rN<|aJ<|rM J J<|aH h fun v3 e1 h=>jn J (vu e1) cR .nil (fun _=>J) J fun b4=>ae.qv (mC J) J<|aH h fun v5 e2 h=>ae.ghost<|aj.Qi (s:=9) (j:=0) J J J .p2<|aj.here<|ae.ghost<|aj.Qi (s:=9) (j:=1) J J J .p1<|aj.here<|jn J (sM (fun e=>BI e) e2) cR (.cons .p0 .nil) (fun _=>J) J fun b6=>rA J J<|rN<|ab.ret<|?_
 cases h
 exact hH J [0] J ⟨b6,J,J⟩
theorem tq [GI:bN] {aa:List Version} {r:(List Version)} (h:eN aa=some r):aP Tryz.prog 111 [.list 3 (aa.map Version.av)] [] (T1 (fun nO=>[(nO,.arr 3 (r.map Version.av))]) (fun nO=>.sl 3 nO 0 r.length)):=by
 unfold eN at h
 refine aP.hC ?_
 refine aP.bI Tryz.func111 J Tryz.ntmps111 Tryz.results111 J J ?_
 refine ab.seq ?_
 refine ab.region ?_
 refine ae.qv (bR J) J ?_
 refine ae.nil ?_
 refine ab.seq ?_
 refine ab.seq ?_
 refine ab.region ?_
 refine ae.qv (aM J) J ?_
 refine HE J J J J (fun c hc=>?_)
 refine ae.nil ?_
 refine ab.cond J (fun hT=>?_) (fun hF=>?_)
 ·obtain rfl:=xH h (af.1 (hc hT))
  refine ab.seq ?_
  refine ab.region ?_
  refine ae.qv (bR J) J ?_
  refine ae.nil ?_
  refine ab.ret ?_
  refine aj.arr (s:=2) 3 J (fun b1=>?_)
  exact aj.here ⟨_,.cons (.tmp _ _ J) .nil,_,.cons .here .nil,⟨b1,J,J⟩⟩
 ·refine ab.skip ?_
  refine ab.seq ?_
  refine ab.region ?_
  refine ku (xs:=([]:List Version).map Version.av) J J J J J J (fun b2=>?_)
  refine ae.qv (aM J) J ?_
  refine fo (g:=Version.av) (Xs:=[]) J J J J J J J J (.list _) h (fun _=>.here) J (fun b3=>?_)
  refine ae.qv (bR J) J ?_
  refine ae.nil ?_
  refine ab.ret ?_
  exact aj.here ⟨_,.cons (.tmp _ _ J) .nil,_,.cons .here .nil,⟨b3,J,J⟩⟩
theorem kq [GI:bN] {aa ai:List Version} {yb:Version→Version→Option Int} {sP:FuncId} [bJ Tryz.prog sP] {vm:List AV} (EW:∀ {y0 y1:_} {u:Int},yb y0 y1=some u→Pu Tryz.prog sP (Version.av y0 :: Version.av y1 :: vm) (I u)) {r:Int} (h:bU aa ai yb=some r):Pu Tryz.prog 112 [sK aa,sK ai,.func (.func sP) vm] (I r):=by
 unfold bU at h
 refine aP.bI Tryz.func112 J Tryz.ntmps112 Tryz.results112 J J ?_
 refine aJ<|rA J J<|rN<|tS<|aJ<|rM J J<|ae.qv (ca J) J<|rM J J<|rN<|ab.block<|ab.cx (fun x:Int=>bK aa ai yb x) (fun x aK=>aK=⟨39,[(0,sK aa),(1,sK ai),(2,.func (.func sP) vm),(11,sK aa),(12,I (aa.length:Int)),(13,I x)],[]⟩) h ?_ ?_
 ·exact aj.lq [] J J J
 ·intro n2 z1 aK J1 dY h jl dQ
  obtain rfl:=dY
  replace h:bK aa ai yb n2=some z1:=h
  unfold bK at h
  refine aJ<|ae.qv (bO J J) J<|rN<|tS<|cD h J (fun h=>?_) (fun h=>?_)
  ·refine tK<|tS<|ab.block<|aJ<|rM J J<|aH h fun v3 e1 h=>ae.qv (bG J J J e1 J J) J<|ae.qv (aL J J J) J<|bH J J J J fun b4=>rA J J<|ay J J J J .p0 J J<|rN<|tS<|aJ<|rM J J<|rM J J<|ae.qv (ca J) J<|ae.qv (nU J J) J<|rN<|cD h J (fun h=>?_) (fun h=>?_)
   ·refine aJ<|rA J J<|rN<|ab.ret<|have h:=bT h dQ;?_
    cases h
    exact hP J J
   ·refine tK<|aJ<|rM J J<|rM J J<|aH h fun v5 e2 h=>ae.qv (bG J J J e2 J J) J<|ae.qv (aL J J J) J<|bH J J J J fun b6=>ay J J J J .p0 J J<|rN<|aJ<|rM J J<|ae.qv (aG J J .p1 J) J<|ae.qv (aG J J .p0 J) J<|aH h fun v7 e3 h=>tV J J (EW e3) cR J<|rA J J<|rN<|aJ<|rM J J<|ae.qv (o9 J J) J<|rN<|cD h J (fun h=>?_) (fun h=>?_)
    ·refine aJ<|rM J J<|rA J J<|rN<|ab.ret<|have h:=bT h dQ;?_
     cases h
     exact hP J J
    ·refine tK<|ab.cw<|tR<|ae.qv (bq J J) J<|rM J J<|rN<|ab.stop<|?_
     cases h
     exact jl _ _ J<|aj.lq [] J J J
  ·refine ab.exit J<|have h:=bT h dQ;?_
   unfold dm at h
   refine tS<|aJ<|rM J J<|ae.qv (ca J) J<|rM J J<|ae.qv (ca J) J<|ae.qv (bO J J) J<|rN<|cD h J (fun h=>?_) (fun h=>?_)
   ·refine aJ<|rA J J<|rN<|ab.ret<|?_
    cases h
    exact hP J J
   ·refine tK<|aJ<|rA J J<|rN<|ab.ret<|?_
    cases h
    exact hP J J
theorem Ol [GI:bN] {aa:List an} {ai:bn} {aI bw:Version} {r:(List Version)×Bool} (h:we aa ai aI bw=some r):Pu Tryz.prog 68 [rP aa,.str ai,Version.av aI,Version.av bw] (.lE [sK r.1,.bool r.2]):=by
 unfold we at h
 refine aP.bI Tryz.func68 J Tryz.ntmps68 Tryz.results68 J J ?_
 refine aJ<|dp J J J J fun b1=>dp J J J J fun b2=>rA J J<|rA J J<|rN<|aJ<|sV J fun b3=>ae.qv (aG J J .p2 J) J<|ae.qv (dv J J J J J) J<|ae.ghost<|aj.Vx (s:=23) (gx:=.agg [sK [],I 0]) J (Dr.X5 (.cons .n (.cons .r .nil)))<|aj.here<|Et (gk:=Version.av) (gv:=aF.av) (M:=([]:List (Version×aF))) (key:=aI) (v:=(⟨[],0⟩:aF)) J J J J .p0<|rM J J<|rA J J<|rN<|tS<|aJ<|rM J J<|ae.qv (ca J) J<|ae.qv (bq J J) J<|rM J J<|rN<|ab.block<|ab.cx (fun x:(List (Version×aF))×Int=>mQ aa ai bw x.1 x.2) (fun x aK=>∃ (b7:Bk),aK=⟨107,[(0,rP aa),(1,.str ai),(7,.ptr b2 0),(10,.bV b7),(27,I (bB ((aa.length:Int)+1))),(28,I x.2)],[(b2,.cells [I bw.aA,I bw.aC,I bw.aD]),(b7,Of x.1)]⟩) h ?_ ?_
 ·exact aj.lq [1,0] ⟨b3,J⟩ J J
 ·intro x z1 aK J1 dY h jl dQ
  obtain ⟨l8,n9⟩:=x
  obtain ⟨b7,rfl⟩:=dY
  replace h:mQ aa ai bw l8 n9=some z1:=h
  unfold mQ at h
  refine aJ<|ae.qv (bO J J) J<|rN<|tS<|cD h J (fun h=>?_) (fun h=>?_)
  ·refine tK<|tS<|ab.block<|tS<|aJ<|rM J J<|ae.qv (aG J J .p0 J) J<|aH h fun v10 e1 h=>ae.qv (EE (gk:=Version.av) (gv:=aF.av) (M:=l8) (key:=bw) (Z:=(⟨[],0⟩:aF)) J J .p1 J J e1 J) J<|rM J J<|rX J J J<|rX J J J<|bH J J J J fun Og=>ay J J J J .p0 J J<|rA J J<|rN<|aJ<|rM J J<|rN<|cB h J (fun h=>?_) (fun h=>?_)
   ·refine aJ<|rF J J J<|rL J J .p0 J J<|rA J J<|rA J J<|rN<|ab.ret<|have h:=bT h dQ;?_
    cases h
    exact hQ J J J
   ·refine tK<|aJ<|sV J fun kV=>rA J J<|rN<|tS<|aJ<|rM J J<|S4 (M:=l8) (enc:=YN) J (fun _ _=>.p3) J fun MU Xt QN abS abT=>rN<|ab.block<|ab.SY (fun e (x:(List (Version×aF)))=>tg aa ai e x) (fun x:(List (Version×aF))=>vj n9 x) (fun R x aK=>∃ (s2m:List Nat),Br Xt QN s2m (R.map YN)∧aK=⟨107,[(0,rP aa),(1,.str ai),(7,.ptr b2 0),(13,.bV kV),(27,I (bB ((aa.length:Int)+1))),(28,I n9),(41,.ptr MU 0)],[(MU,.KV b7 QN s2m),(b7,.Mg Xt QN),(b2,.cells [I bw.aA,I bw.aC,I bw.aD]),(kV,Of x)]⟩) h ?_ ?_
    ·exact aj.lq [0,3,2,0] ⟨[],abT,J⟩ J J
    ·intro R2 yp aK J2 dY hH2 hK2
     obtain ⟨s2m,abU,rfl⟩:=dY
     refine aJ<|VI J abU .p1 (fun _=>.p0) J (fun hN=>?_) (fun Al R' QO hP hlen YX YY=>?_)
     ·have h:=aaI hH2 hN
      replace h:vj n9 yp=_:=h
      unfold vj at h
      refine ae.ghost<|aj.VK abS .p1<|aj.here<|rX J J J<|rN<|tS<|ab.Pe J<|ab.exit J<|tR<|rM J J<|rA J J<|rN<|ab.cw<|tR<|ae.qv (bq J J) J<|rM J J<|rN<|ab.stop<|?_
      cases h
      exact jl _ _ J<|aj.lq [2,2] ⟨kV,J⟩ J J
     ·obtain ⟨z2,h,hN2,wE⟩:=X9 hH2 hP
      replace h:tg aa ai Al yp=some z2:=h
      unfold tg at h
      have yr:=fun y aK (e:z2=.inl y) hi=>hK2 R' y aK hlen (hN2 y e) hi
      clear hN2 hP hK2 hH2
      refine rX J J J<|rN<|tS<|ab.Pd J<|tK<|ab.block<|aJ<|ae.qv (S5 J .p0 .p1 YY J J) J<|rX J J J<|rX J J J<|bH J J J J fun MT=>bH J J J J fun ti=>ay J J J J .p1 J J<|ay J J J J .p0 J J<|rN<|aJ<|rM J J<|rM J J<|ae.qv (aG J J .p1 J) J<|aH h fun fg e3 h=>jn J (E3 e3) cR .nil (fun _=>J) J fun qk=>ae.qv (ee J) J<|rM J J<|rN<|ab.block<|ab.cx (fun x:(List (Version×aF))×Int=>om Al fg x.1 x.2) (fun x aK=>aK=⟨107,[(0,rP aa),(1,.str ai),(7,.ptr b2 0),(13,.bV kV),(15,.ptr ti 0),(27,I (bB ((aa.length:Int)+1))),(28,I n9),(41,.ptr MU 0),(50,.sl 6 qk 0 fg.length),(51,I (fg.length:Int)),(52,I x.2)],[(b2,.cells [I bw.aA,I bw.aC,I bw.aD]),(kV,Of x.1),(ti,.cells [sK Al.2.o6,I Al.2.bM]),(MU,.KV b7 QN QO),(b7,.Mg Xt QN),(qk,yg fg)]⟩) h ?_ ?_
      ·exact aj.lq [5,5,1,2,2,0] J J J
      ·intro x z3 aK J3 dY h YO Wd
       obtain ⟨vT,n23⟩:=x
       obtain rfl:=dY
       replace h:om Al fg vT n23=some z3:=h
       unfold om at h
       refine aJ<|ae.qv (bO J J) J<|rN<|tS<|cD h J (fun h=>?_) (fun h=>?_)
       ·refine tK<|tS<|ab.block<|aJ<|aH h fun v24 e4 h=>ae.qv (bu J J J e4) J<|ae.qv (bP (g:=an.av) J J (.inl .p5) J e4 J) J<|bH J J J J fun Dv=>ay J J J J .p0 J J<|rN<|tS<|aH h fun v26 e5 h=>aH h fun C5 e6 h=>ab.jN (id:=14) (A:=[0,1,3,0,8,24,63,0,128,0,512,1920,4095,0,16383]) (H0:=[]) (HH:=fun β=>[((β 12),uM C5),((β 13),.cells [.nil,I 0]),(Dv,.cells (ET v24)),(b2,.cells [I bw.aA,I bw.aC,I bw.aD]),(kV,Of vT),(ti,.cells [sK Al.2.o6,I Al.2.bM]),(MU,.KV b7 QN QO),(b7,.Mg Xt QN),(qk,yg fg)]) 14 mixed J (by kernel_rfl) (by kernel_rfl) [⟨some 2,some 6,[],fun b=>(b,uM v26),none,[]⟩,⟨some 6,some 12,[],fun b=>(b,uM C5),none,[]⟩,⟨some 12,none,[],fun b=>(b,uM C5),none,[]⟩,⟨some 13,none,[],fun b=>(b,.cells [.nil,I 0]),none,[]⟩] [2,6,12,13] J (by kernel_rfl) J .nil (fun _=>J)<|AT.am 2 J J<|AM.qv (az J J) J<|AM.qv (aN J J .p3 J) J<|AM.nil<|AT.Bm (V:=fun b=>.sl 3 b 0 v26.length) (Ti:=[]) (Pi:=fun b=>[(b,uM v26)]) (fun _=>J) (fun _=>J) (fun _ _=>J) J (fun _=>J) J J J ?_ ?_
        ·exact jn J (tq e5) cR .nil (fun _=>J) J fun Ca=>ae.nil ⟨Ca,_,J,J⟩
        refine AT.am 3 J J<|AM.qv (az J J) J<|AM.qv (aO J J .p0 J J) J<|AM.cO (xs:=([v24.Version]:List Version).map Version.av) J J J J J J<|AM.nil<|AT.VM (V:=fun b=>.sl 3 b 0 C5.length) (Ti:=fun β=>[((β 2),uM v26)]) (Pi:=fun b=>[(b,uM C5)]) (fun _=>J) (fun _=>J) (fun _ _=>J) (fun _=>J) (fun _=>J) J J J (fun β=>?_) ?_
        ·generalize β 2=Ca
         exact fo (g:=Version.av) J J J J J J J J (.list _) e6 (fun _=>.p0) J fun Oh=>ae.nil ⟨Oh,_,J,J⟩
        refine AT.am 5 J J<|AM.qv (az J J) J<|AM.qv (aN J J .p3 J) J<|AM.qv (az J J) J<|AM.qv (aN J J .p0 J) J<|AM.qv (bq J J) J<|AM.nil<|AT.VM (V:=fun b=>.agg [.sl 3 b 0 C5.length,I (bB (Al.2.bM+v24.cM))]) (Ti:=fun β=>[((β 6),uM C5)]) (Pi:=fun b=>[(b,uM C5)]) (fun _=>J) (fun _=>J) (fun _ _=>J) (fun _=>J) (fun _=>J) J J J (fun β=>?_) ?_
        ·generalize β 6=Oh
         exact ae.qv (dv J J J J J) J<|ae.nil ⟨Oh,_,J,J⟩
        refine AT.Bm (V:=fun b=>.ptr b 0) (Ti:=[]) (Pi:=fun b=>[(b,.cells [.nil,I 0])]) (fun _=>J) (fun _=>J) (fun _ _=>J) J (fun _=>J) J J J ?_ ?_
        ·exact bH J J J J fun LO=>ae.nil ⟨LO,_,J,J⟩
        refine AT.wW (fun _=>J) fun β=>?_
        generalize β 2=Ca
        generalize β 6=Oh
        generalize β 12=b30
        generalize β 13=LO
        clear β
        refine ay J J J J .p1 J J<|rN<|aJ<|rM J J<|rF J J J<|ae.qv (aO J J .p2 J J) J<|aH h fun v32 e7 h=>ae.qv (EE (gk:=Version.av) (gv:=aF.av) (M:=vT) (key:=v24.Version) (Z:=(⟨[],0⟩:aF)) J J .p4 J J e7 J) J<|rM J J<|rX J J J<|rX J J J<|bH J J J J fun YW=>ay J J J J .p0 J J<|rA J J<|rN<|tS<|ab.cut (fun aK=>∃ (YK:Bool),mP Al vT n23 v24 C5 YK=some z3∧aK=⟨107,[(0,rP aa),(1,.str ai),(7,.ptr b2 0),(13,.bV kV),(15,.ptr ti 0),(17,.ptr Dv 0),(18,.ptr LO 0),(27,I (bB ((aa.length:Int)+1))),(28,I n9),(41,.ptr MU 0),(50,.sl 6 qk 0 fg.length),(51,I (fg.length:Int)),(52,I n23),(99,.bool YK)],[(b2,.cells [I bw.aA,I bw.aC,I bw.aD]),(kV,Of vT),(ti,.cells [sK Al.2.o6,I Al.2.bM]),(Dv,.cells (ET v24)),(LO,.cells [.sl 3 b30 0 C5.length,I (bB (Al.2.bM+v24.cM))]),(b30,uM C5),(MU,.KV b7 QN QO),(b7,.Mg Xt QN),(qk,yg fg)]⟩) ?_ ?_
        ·refine tR<|rM J J<|ae.qv (cu J) J<|rM J J<|ae.guard J J J (fun hc=>?_) (fun hc=>?_)
         ·refine have h:=ry hc h;rF J J J<|rY J J J<|rL J J .p2 J J<|rY J J J<|rF J J J<|rY J J J<|rL J J .p0 J J<|rY J J J<|ae.qv (bO J J) J<|rE J J J<|rM J J<|gF h J J J (fun h=>?_) (fun h=>?_)
          ·refine rF J J J<|rY J J J<|rL J J .p2 J J<|rY J J J<|rF J J J<|rY J J J<|rL J J .p0 J J<|rY J J J<|ae.qv (dt J J) J<|rY J J J<|rM J J<|gT h J J J (fun h=>?_) (fun h=>?_)
           ·exact rF J J J<|rY J J J<|rL J J .p2 J J<|rY J J J<|rF J J J<|rY J J J<|rL J J .p0 J J<|rY J J J<|aH h fun v35 e8 h=>fk J (kq (fun e=>jm e) e8) (.cons (lO.jX .p1) (.cons (.co (.refl _)) (.cons (.Bf _ _ _ .nil) .nil))) J J<|rY J J J<|ae.qv (bO J J) J<|rY J J J<|rT J J J<|rE J J J<|rN<|ab.stop<|aj.lq [4,4,4,3,2,1,1,1,1] ⟨decide (v35 < 0),h,J⟩ J J
           ·exact rG J J J J<|rG J J J J<|rG J J J J<|rG J J J J<|rG J J J J<|rY J J J<|rE J J J<|rE J J J<|rN<|ab.stop<|aj.lq [4,4,4,3,2,1,1,1,1] ⟨false,h,J⟩ J J
          ·exact rG J J J J<|rG J J J J<|rG J J J J<|rG J J J J<|rG J J J J<|ae.aS J J J<|ae.aS J J J<|ae.aS J J J<|ae.aS J J J<|ae.aS J J J<|ae.aS J J J<|rG J J J J<|rT J J J<|rN<|ab.stop<|aj.lq [4,4,4,3,2,1,1,1,1] ⟨true,h,J⟩ J J
         ·exact have h:=pj hc h;rG J J J J<|rG J J J J<|rG J J J J<|rG J J J J<|rT J J J<|rM J J<|rG J J J J<|rG J J J J<|rG J J J J<|rG J J J J<|rG J J J J<|rG J J J J<|ae.aS J J J<|ae.aS J J J<|ae.aS J J J<|ae.aS J J J<|ae.aS J J J<|ae.aS J J J<|rG J J J J<|rT J J J<|rN<|ab.stop<|aj.lq [4,4,4,3,2,1,1,1,1] ⟨true,h,J⟩ J J
        ·rintro aK ⟨YK,h,rfl⟩
         unfold mP at h
         refine ab.cut (fun aK=>∃ (YJ:List (Version×aF)),tf n23 YJ=some z3∧aK=⟨107,[(0,rP aa),(1,.str ai),(7,.ptr b2 0),(13,.bV kV),(15,.ptr ti 0),(27,I (bB ((aa.length:Int)+1))),(28,I n9),(41,.ptr MU 0),(50,.sl 6 qk 0 fg.length),(51,I (fg.length:Int)),(52,I n23)],[(b2,.cells [I bw.aA,I bw.aC,I bw.aD]),(kV,Of YJ),(ti,.cells [sK Al.2.o6,I Al.2.bM]),(MU,.KV b7 QN QO),(b7,.Mg Xt QN),(qk,yg fg)]⟩) ?_ ?_
         ·refine cB h J (fun h=>?_) (fun h=>?_)
          ·exact tR<|rM J J<|rF J J J<|ae.qv (aO J J .p3 J J) J<|ae.qv (aG J J .p4 J) J<|ae.ghost<|aj.freeze .p5<|aj.here<|ae.ghost<|aj.Vx (s:=103) (gx:=.agg [sK C5,I (bB (Al.2.bM+v24.cM))]) J (Dr.X5 (.cons (.co (Co.Ef .p5)) (.cons .r .nil)))<|aj.here<|vR (gk:=Version.av) (gv:=aF.av) (M:=vT) (key:=v24.Version) (v:=(⟨C5,bB (Al.2.bM+v24.cM)⟩:aF)) J J J J .p1<|rN<|ab.stop<|aj.lq [0,0,0,3,3,3] ⟨bW vT v24.Version (⟨C5,bB (Al.2.bM+v24.cM)⟩:aF),h,J⟩ J J
          ·exact tK<|ab.stop<|aj.lq [0,0,0,3,3,3] ⟨vT,h,J⟩ J J
         ·rintro aK ⟨YJ,h,rfl⟩
          unfold tf at h
          refine ab.cw<|tR<|ae.qv (bq J J) J<|rM J J<|rN<|ab.stop<|?_
          cases h
          exact YO _ _ J<|aj.lq [0,0,0,0,0,0] J J J
       ·refine ab.exit J<|have h:=bT h Wd;ab.cw<|ab.stop<|?_
        cases h
        exact yr _ _ J<|aj.lq [3,3,0,0] ⟨QO,YX,J⟩ J J
  ·refine ab.exit J<|have h:=bT h dQ;aJ<|rA J J<|rA J J<|rN<|ab.ret<|?_
   cases h
   exact aj.co (s:=8) J (.nil 3)<|aj.here ⟨_,.cons (.tmp _ _ J) (.cons (.tmp _ _ J) .nil),J⟩
theorem DD [GI:bN] {aa:an} {ai:List Version} {r:Bool} (h:oW aa ai=some r):Pu Tryz.prog 70 [an.av aa,.ch [sK ai]] (.bool r):=by
 unfold oW at h
 refine aP.bI Tryz.func70 J Tryz.ntmps70 Tryz.results70 J J ?_
 refine aJ<|dp J J J J fun b1=>rA J J<|rN<|tS<|ab.cU (id:=1) (A:=[0,1,0,4,12,31,63]) 7 mixed J (by kernel_rfl) (by kernel_rfl)<|AM.qv (az J J) J<|AM.qv (aO J J .p0 J J) J<|AM.qv (aQ J J J) J<|aH h fun v2 e1 h=>AM.qv (bG J J J e1 J J) J<|AM.qv (aL J J J) J<|AM.qv (Eh (g:=Version.av) (X:=aa.Version) (Y:=v2) J J J J J) J<|AM.qv (bR J) J<|AM.nil<|rN<|ab.ret<|?_
 cases h
 exact hP J J
theorem HY [GI:bN] {aa:Campaign} {ai:List an} {aI:List DeviceS} {bw:List MarkS} {hJ mL:Int} {r:(List cd)} (h:rj aa ai aI bw hJ mL=some r):aP Tryz.prog 20 [Campaign.av aa,rP ai,ue aI,uf bw,I hJ,I mL] [] (T1 (fun nO=>[(nO,BA r)]) (fun nO=>.sl 5 nO 0 r.length)):=by
 unfold rj at h
 refine aP.hC ?_
 refine aP.bI Tryz.func20 J Tryz.ntmps20 Tryz.results20 J J ?_
 refine aJ<|dp J J J J fun b1=>ae.ghost<|aj.Qj (s:=6) J .p0<|aj.here<|rA J J<|rN<|tS<|tS<|ab.cut (fun aK=>∃ (c2:Bool),qH aa ai aI bw mL c2=some r∧aK=⟨131,[(1,rP ai),(2,ue aI),(3,uf bw),(5,I mL),(6,.ch [.str aa.Key,I aa.Target.aA,I aa.Target.aC,I aa.Target.aD,I aa.At,p9 aa.aR,I aa.aZ.bS,I aa.aZ.To,I aa.Room]),(37,.bool c2)],[]⟩) ?_ ?_
 ·refine tR<|ae.qv (aL J J J) J<|rM J J<|rM J J<|rM J J<|aH h fun v3 e1 h=>aT J (Am e1) cR J<|ae.qv (nU J J) J<|rM J J<|ae.dG J J J (fun hc=>?_) (fun hc=>?_)
  ·rw [wU hc] at h
   exact ae.qv (aL J J J) J<|rY J J J<|rM J J<|rY J J J<|rM J J<|rY J J J<|aT J (C7 J) cR J<|rY J J J<|ae.qv (cu J) J<|rE J J J<|rN<|ab.stop<|aj.lq [] ⟨!(nI aa hJ mL),h,J⟩ J J
  ·rw [wT hc] at h
   exact rG J J J J<|rG J J J J<|rG J J J J<|rG J J J J<|rT J J J<|rN<|ab.stop<|aj.lq [] ⟨true,h,J⟩ J J
 ·rintro aK ⟨c2,h,rfl⟩
  unfold qH at h
  refine cB h J (fun h=>?_) (fun h=>?_)
  ·refine aJ<|rA J J<|rN<|ab.ret<|?_
   cases h
   exact aj.arr (s:=12) 5 J fun b4=>aj.here ⟨_,.cons (.tmp _ _ J) .nil,_,.cons .p0 .nil,⟨b4,J,J⟩⟩
  ·refine tK<|aJ<|ae.qv (aL J J J) J<|rM J J<|rM J J<|rM J J<|aH h fun v5 e2 h=>jn J (HX e2) cR .nil (fun _=>J) J fun b6=>ae.qv (ee J) J<|rA J J<|rN<|aJ<|ae.qv (bf J J) J<|ae.qv (aQ J J J) J<|rA J J<|rN<|aJ<|rA J J<|rN<|tS<|aJ<|rM J J<|ae.qv (ca J) J<|rM J J<|rN<|ab.block<|ab.cx (fun x:Int×(List DeviceS)×Int=>oZ aa ai aI bw mL v5 x.1 x.2.1 x.2.2) (fun x aK=>∃ (kV:Bk),aK=⟨131,[(1,rP ai),(3,uf bw),(5,I mL),(6,.ch [.str aa.Key,I aa.Target.aA,I aa.Target.aC,I aa.Target.aD,I aa.At,p9 aa.aR,I aa.aZ.bS,I aa.aZ.To,I aa.Room]),(13,I (v5.length:Int)),(14,I x.1),(15,.sl 7 kV 0 x.2.1.length),(46,ue aI),(47,I (aI.length:Int)),(48,I x.2.2)],[(kV,wL x.2.1)]⟩) h ?_ ?_
   ·exact aj.arr (s:=15) 7 J fun YU=>aj.lq [0] ⟨YU,J⟩ J J
   ·intro x z1 aK J1 dY h jl dQ
    obtain ⟨n11,kT,n14⟩:=x
    obtain ⟨kV,rfl⟩:=dY
    replace h:oZ aa ai aI bw mL v5 n11 kT n14=some z1:=h
    unfold oZ at h
    refine aJ<|ae.qv (bO J J) J<|rN<|tS<|cD h J (fun h=>?_) (fun h=>?_)
    ·refine tK<|tS<|ab.block<|aJ<|aH h fun sW e3 h=>ae.qv (bG J J J e3 J J) J<|ae.qv (aL J J J) J<|bH J J J J fun ti=>ay J J J J .p0 J J<|rN<|aJ<|ae.qv (aL J J J) J<|ae.qv (aG J J .p0 J) J<|rM J J<|rM J J<|aH h fun fg e4 h=>aT J (xS e4) cR J<|bH J J J J fun qk=>ay J J J J .p0 J J<|rN<|aJ<|ae.qv (aG J J .p0 J) J<|aT J (QM J) cR J<|rN<|ab.cut (fun aK=>∃ (YV:Bk) (n20:Int) (vT:List DeviceS),oX n14 n20 vT=some z1∧aK=⟨131,[(1,rP ai),(3,uf bw),(5,I mL),(6,.ch [.str aa.Key,I aa.Target.aA,I aa.Target.aC,I aa.Target.aD,I aa.At,p9 aa.aR,I aa.aZ.bS,I aa.aZ.To,I aa.Room]),(13,I (v5.length:Int)),(14,I n20),(15,.sl 7 YV 0 vT.length),(46,ue aI),(47,I (aI.length:Int)),(48,I n14)],[(YV,wL vT)]⟩) ?_ ?_
     ·refine cB h J (fun h=>?_) (fun h=>?_)
      ·exact tR<|rM J J<|ae.qv (eK J J) J<|rA J J<|rN<|ab.stop<|aj.lq [2] ⟨kV,bB (n11 - 1),kT,h,J⟩ J J
      ·refine tS<|ab.cut (fun aK=>∃ (YL:Bool),qE n11 kT n14 sW YL=some z1∧aK=⟨131,[(1,rP ai),(3,uf bw),(5,I mL),(6,.ch [.str aa.Key,I aa.Target.aA,I aa.Target.aC,I aa.Target.aD,I aa.At,p9 aa.aR,I aa.aZ.bS,I aa.aZ.To,I aa.Room]),(13,I (v5.length:Int)),(14,I n11),(15,.sl 7 kV 0 kT.length),(17,.ptr ti 0),(46,ue aI),(47,I (aI.length:Int)),(48,I n14),(74,.bool YL)],[(kV,wL kT),(ti,.cells (Tx sW))]⟩) ?_ ?_
       ·refine tR<|ae.qv (aL J J J) J<|rF J J J<|rL J J .p1 J J<|aH h fun v24 e5 h=>aT J (vq e5) cR J<|rM J J<|ae.qv (bO J J) J<|rM J J<|gT h J J J (fun h=>?_) (fun h=>?_)
        ·exact ae.qv (aL J J J) J<|rY J J J<|ae.qv (aG J J .p1 J) J<|rY J J J<|rM J J<|rY J J J<|rM J J<|rY J J J<|aH h fun v25 e6 h=>aT J (JT e6) cR J<|rY J J J<|ae.qv (cu J) J<|rT J J J<|rN<|ab.stop<|aj.lq [2,1] ⟨!v25,h,J⟩ J J
        ·exact rG J J J J<|rG J J J J<|rG J J J J<|rG J J J J<|rG J J J J<|rE J J J<|rN<|ab.stop<|aj.lq [2,1] ⟨false,h,J⟩ J J
       ·rintro aK ⟨YL,h,rfl⟩
        unfold qE at h
        refine ab.cut (fun aK=>∃ (zO:Bk) (wK:List DeviceS),qC n11 n14 wK=some z1∧aK=⟨131,[(1,rP ai),(3,uf bw),(5,I mL),(6,.ch [.str aa.Key,I aa.Target.aA,I aa.Target.aC,I aa.Target.aD,I aa.At,p9 aa.aR,I aa.aZ.bS,I aa.aZ.To,I aa.Room]),(13,I (v5.length:Int)),(14,I n11),(15,.sl 7 zO 0 wK.length),(46,ue aI),(47,I (aI.length:Int)),(48,I n14)],[(zO,wL wK)]⟩) ?_ ?_
        ·refine cB h J (fun h=>?_) (fun h=>?_)
         ·exact tR<|rM J J<|ae.qv (aG J J .p1 J) J<|aW (xs:=([sW]:List DeviceS).map DeviceS.av) J J J J J J<|aH h fun C5 e7 h=>fo (g:=DeviceS.av) J J J J J J J J (.list _) e7 (fun _=>.p0) J fun Oh=>rA J J<|rN<|ab.stop<|aj.lq [0] ⟨Oh,C5,h,J⟩ J J
         ·exact tK<|ab.stop<|aj.lq [0] ⟨kV,kT,h,J⟩ J J
        ·rintro aK ⟨zO,wK,h,rfl⟩
         unfold qC at h
         exact ab.stop<|aj.lq [0] ⟨zO,n11,wK,h,J⟩ J J
     ·rintro aK ⟨YV,n20,vT,h,rfl⟩
      unfold oX at h
      refine ab.cw<|tR<|ae.qv (bq J J) J<|rM J J<|rN<|ab.stop<|?_
      cases h
      exact jl _ _ J<|aj.lq [0] ⟨YV,J⟩ J J
    ·refine ab.exit J<|have h:=bT h dQ;?_
     unfold qG at h
     refine aJ<|rM J J<|ae.qv (mC J) J<|aH h fun v30 e8 h=>br J (qa (fun e=>DC e) (rZ e8)) cR (.cons .p0 .nil) J J<|ae.ghost<|aj.eqs (s:=15) (gx:=.sl 7 kV 0 v30.length) J (congrArg (AV.sl 7 kV 0) (gR e8))<|aj.here<|ae.ghost<|aj.eqs (s:=80) (gx:=.sl 7 kV 0 v30.length) J (congrArg (AV.sl 7 kV 0) (gR e8))<|aj.here<|rN<|aJ<|rA J J<|rN<|tS<|aJ<|rM J J<|ae.qv (ee J) J<|rM J J<|rN<|ab.block<|ab.cx (fun x:Int×(List cd)×Int=>mS aa ai bw mL v30 x.1 x.2.1 x.2.2) (fun x aK=>∃ (EY:Bk),aK=⟨131,[(1,rP ai),(3,uf bw),(5,I mL),(6,.ch [.str aa.Key,I aa.Target.aA,I aa.Target.aC,I aa.Target.aD,I aa.At,p9 aa.aR,I aa.aZ.bS,I aa.aZ.To,I aa.Room]),(14,I x.1),(19,.sl 5 EY 0 x.2.1.length),(83,.sl 7 kV 0 v30.length),(84,I (v30.length:Int)),(85,I x.2.2)],[(EY,BA x.2.1),(kV,wL v30)]⟩) h ?_ ?_
     ·exact aj.arr (s:=19) 5 J fun HV=>aj.lq [0,0] ⟨HV,J⟩ J J
     ·intro x z2 aK J2 dY h yr wE
      obtain ⟨n35,MS,n38⟩:=x
      obtain ⟨EY,rfl⟩:=dY
      replace h:mS aa ai bw mL v30 n35 MS n38=some z2:=h
      unfold mS at h
      refine aJ<|ae.qv (bO J J) J<|rN<|tS<|cD h J (fun h=>?_) (fun h=>?_)
      ·refine tK<|tS<|ab.cut (fun aK=>∃ (QL:Bk) (n40:Int) (HR:List cd),mR n38 n40 HR=some z2∧aK=⟨131,[(1,rP ai),(3,uf bw),(5,I mL),(6,.ch [.str aa.Key,I aa.Target.aA,I aa.Target.aC,I aa.Target.aD,I aa.At,p9 aa.aR,I aa.aZ.bS,I aa.aZ.To,I aa.Room]),(14,I n40),(19,.sl 5 QL 0 HR.length),(83,.sl 7 kV 0 v30.length),(84,I (v30.length:Int)),(85,I n38)],[(QL,BA HR),(kV,wL v30)]⟩) ?_ ?_
       ·refine ab.block<|aJ<|aH h fun FF e9 h=>ae.qv (bu J J J e9) J<|ae.qv (bP (g:=DeviceS.av) J J (.inl .p1) J e9 J) J<|bH J J J J fun b44=>ay J J J J .p0 J J<|rN<|tS<|aH h fun v45 BB h=>aH h fun v46 C6 h=>ab.jN (id:=20) (A:=[0,0,2,0,0,0,0,120,248,0,512,2047,4095,8191,8191,0,49151,131071]) (H0:=[]) (HH:=fun β=>[((β 15),.cells [sK v46.1]),(b44,.cells (Tx FF)),(EY,BA MS),(kV,wL v30)]) 17 mixed J (by kernel_rfl) (by kernel_rfl) [⟨some 15,some 16,[],fun b=>(b,.cells [.nil]),none,[]⟩,⟨some 16,none,[],fun b=>(b,.cells [sK v46.1]),some 15,[]⟩] [15] J (by kernel_rfl) J .nil (fun _=>J)<|AT.am 15 J J<|AM.qv (aM J) J<|AM.qv (az J J) J<|AM.qv (aN J J .p0 J) J<|AM.qv (aL J J J) J<|AM.qv (aG J J .p0 J) J<|AM.qv (aM J) J<|AM.qv (aM J) J<|AM.iX J (xS BB) cR J<|AM.qv (N6 (ft:=27) (off:=2) ⟨_,_,Tryz.underlying112,J,J,J⟩ J J J J) J<|AM.qv (bf J J) J<|AM.qv (kL J J J J) J<|AM.iX J (Ol C6) cR J<|AM.qv (aM J) J<|AM.qv (jM J J) J<|AM.qv (jM J J) J<|AM.nil<|AT.Bm (V:=fun b=>.ptr b 0) (Ti:=[]) (Pi:=fun b=>[(b,.cells [.nil])]) (fun _=>J) (fun _=>J) (fun _ _=>J) J (fun _=>J) J J J ?_ ?_
        ·exact bH J J J J fun GQ=>ae.nil ⟨GQ,_,J,J⟩
        refine AT.runN (Ti:=fun β=>[((β 15),.cells [.nil])]) (Pi:=fun β=>[((β 15),.cells [sK v46.1])]) (fun _=>J) (fun _=>J) (fun _ _=>J) (fun _=>J) (fun _=>J) (fun β=>?_) ?_
        ·generalize β 15=GQ
         exact ay J J J J .p0 J J<|ae.nil ⟨_,J⟩
        refine AT.wW (fun _=>J) fun β=>?_
        generalize β 15=GQ
        clear β
        refine rA J J<|rN<|tS<|tS<|ab.cut (fun aK=>∃ (C4:Bool),oY ai n35 MS n38 FF v46 C4=some z2∧aK=⟨131,[(1,rP ai),(3,uf bw),(5,I mL),(6,.ch [.str aa.Key,I aa.Target.aA,I aa.Target.aC,I aa.Target.aD,I aa.At,p9 aa.aR,I aa.aZ.bS,I aa.aZ.To,I aa.Room]),(14,I n35),(19,.sl 5 EY 0 MS.length),(21,.ptr b44 0),(22,.ptr GQ 0),(83,.sl 7 kV 0 v30.length),(84,I (v30.length:Int)),(85,I n38),(109,.bool C4)],[(EY,BA MS),(b44,.cells (Tx FF)),(GQ,.cells [sK v46.1]),(kV,wL v30)]⟩) ?_ ?_
        ·refine tR<|rM J J<|ae.qv (cu J) J<|rM J J<|ae.guard J J J (fun hc=>?_) (fun hc=>?_)
         ·rw [vI hc] at h
          exact rM J J<|rY J J J<|ae.qv (pn J J) J<|rE J J J<|rN<|ab.stop<|aj.lq [2,1,0,0] ⟨decide (n35≤0),h,J⟩ J J
         ·rw [vH hc] at h
          exact rG J J J J<|rT J J J<|rN<|ab.stop<|aj.lq [2,1,0,0] ⟨true,h,J⟩ J J
        ·rintro aK ⟨C4,h,rfl⟩
         unfold oY at h
         refine cB h J (fun h=>?_) (fun h=>?_)
         ·exact ab.exit J<|ab.stop<|aj.lq [0,2] ⟨EY,n35,MS,h,J⟩ J J
         ·exact tK<|aJ<|rM J J<|ae.qv (eK J J) J<|rA J J<|rN<|aJ<|rM J J<|ae.qv (mC J) J<|aH h fun v49 FW h=>fk J (gh (fun e=>DD e) FW) (.cons (.co (.refl _)) (.cons (.Bf _ _ _ (.cons (.xC _ _ _ .p2 (.cons (.co (.refl _)) .nil)) .nil)) .nil)) J J<|rA J J<|rN<|ab.cU (id:=24) (A:=[0,0,2,0,8,24,0,0,192,448,960,2046,4094,8191,16383]) 13 mixed J (by kernel_rfl) (by kernel_rfl)<|AM.qv (aM J) J<|AM.qv (az J J) J<|AM.qv (aN J J .p1 J) J<|AM.qv (aN J J .p2 J) J<|aH h fun v50 IE h=>AM.qv (bG J J J IE J J) J<|AM.qv (aL J J J) J<|AM.qv (aM J) J<|AM.qv (aM J) J<|aH h fun v51 QC h=>AM.qv (bG J J J QC J J) J<|AM.qv (bf J J) J<|AM.qv (aQ J J J) J<|AM.qv (dv J J J J J) J<|AM.cO (xs:=([(⟨FF.Key,v50,v51.cM⟩:cd)]).map cd.av) J J J J J J<|AM.nil<|aH h fun l52 UW h=>fo (g:=cd.av) J J J J J J J J (.list _) UW (fun _=>.p0) J fun b53=>rA J J<|rN<|ab.cw<|ab.stop<|aj.lq [0,2] ⟨b53,bB (n35 - 1),l52,h,J⟩ J J
       ·rintro aK ⟨QL,n40,HR,h,rfl⟩
        unfold mR at h
        refine tR<|ae.qv (bq J J) J<|rM J J<|rN<|ab.stop<|?_
        cases h
        exact yr _ _ J<|aj.lq [0,0] ⟨QL,J⟩ J J
      ·refine ab.exit J<|have h:=bT h wE;aJ<|rM J J<|rA J J<|rN<|ab.ret<|?_
       cases h
       exact hH J [0] J ⟨EY,J,J⟩
theorem pI [GI:bN] {aa ai:List cd} {r:Bool} (h:eV aa ai=some r):Pu Tryz.prog 22 [Ty aa,Ty ai] (.bool r):=by
 unfold eV at h
 refine aP.bI Tryz.func22 J Tryz.ntmps22 Tryz.results22 J J ?_
 refine aJ<|rA J J<|rN<|tS<|aJ<|rM J J<|ae.qv (ca J) J<|rM J J<|ae.qv (ca J) J<|ae.qv (o9 J J) J<|rN<|cD h J (fun h=>?_) (fun h=>?_)
 ·refine aJ<|rA J J<|rN<|ab.ret<|?_
  cases h
  exact hP J J
 ·refine tK<|tS<|aJ<|rM J J<|ae.qv (ca J) J<|rM J J<|rN<|ab.block<|ab.cx (fun x:Int=>ir aa ai x) (fun x aK=>aK=⟨26,[(0,Ty aa),(1,Ty ai),(12,I (aa.length:Int)),(13,I x)],[]⟩) h ?_ ?_
  ·exact aj.lq [] J J J
  ·intro n2 z1 aK J1 dY h jl dQ
   obtain rfl:=dY
   replace h:ir aa ai n2=some z1:=h
   unfold ir at h
   refine aJ<|ae.qv (bO J J) J<|rN<|tS<|cD h J (fun h=>?_) (fun h=>?_)
   ·refine tK<|tS<|ab.block<|aJ<|rM J J<|rA J J<|rN<|tS<|ab.cU (id:=6) (A:=[0,0,3,7,0,0,48,112,255]) 9 mixed J (by kernel_rfl) (by kernel_rfl)<|AM.qv (aM J) J<|AM.qv (aM J) J<|aH h fun v3 e1 h=>AM.qv (bG J J J e1 J J) J<|AM.qv (aL J J J) J<|AM.qv (aM J) J<|AM.qv (aM J) J<|aH h fun v4 e2 h=>AM.qv (bG J J J e2 J J) J<|AM.qv (aL J J J) J<|AM.qv (UC (g:=cd.av) (X:=v3) (Y:=v4) J J J J J) J<|AM.nil<|rN<|cD h J (fun h=>?_) (fun h=>?_)
    ·refine aJ<|rA J J<|rN<|ab.ret<|have h:=bT h dQ;?_
     cases h
     exact hP J J
    ·refine tK<|ab.cw<|tR<|ae.qv (bq J J) J<|rM J J<|rN<|ab.stop<|?_
     cases h
     exact jl _ _ J<|aj.lq [] J J J
   ·refine ab.exit J<|have h:=bT h dQ;aJ<|rA J J<|rN<|ab.ret<|?_
    cases h
    exact hP J J
theorem FY {aa:bn} {ai:Int} {r:Int×Bool} (h:ud aa ai=some r):Pu Tryz.prog 142 [.str aa,I ai] (.lE [I r.1,.bool r.2]):=by
 unfold ud at h
 refine aP.bI Tryz.func142 J Tryz.ntmps142 Tryz.results142 J J ?_
 refine aJ<|rA J J<|rA J J<|rN<|aJ<|rM J J<|aT J (y8 J) cR J<|rA J J<|rN<|tS<|tS<|ab.cut (fun aK=>∃ (c1:Bool),nM aa c1=some r∧aK=⟨61,[(0,.str aa),(6,.str (Lib.trimPrefix aa ([45]:bn))),(36,.bool c1)],[]⟩) ?_ ?_
 ·refine tR<|rM J J<|ae.qv (Ml J J) J<|rM J J<|gF h J J J (fun h=>?_) (fun h=>?_)
  ·refine rM J J<|rY J J J<|ae.qv (oM J) J<|rY J J J<|rM J J<|rY J J J<|ae.qv (eM J J) J<|rE J J J<|rM J J<|gF h J J J (fun h=>?_) (fun h=>?_)
   ·refine rM J J<|rY J J J<|aH h fun c2 e1 h=>ae.qv (nV J J e1) J<|rY J J J<|ae.qv (dt J J) J<|rY J J J<|rM J J<|ae.dw J J J (fun hc=>?_) (fun hc=>?_)
    ·rw [vc hc] at h
     refine rM J J<|rY J J J<|ae.qv (oM J) J<|rY J J J<|ae.qv (eM J J) J<|rY J J J<|rM J J<|ae.dG J J J (fun hc=>?_) (fun hc=>?_)
     ·rw [wU hc] at h
      exact rM J J<|rY J J J<|ae.qv (oM J) J<|rY J J J<|rM J J<|rY J J J<|ae.qv (oM J) J<|rY J J J<|ae.qv (eM J J) J<|rY J J J<|rE J J J<|rY J J J<|rT J J J<|rE J J J<|rN<|ab.stop<|aj.lq [] ⟨decide (((Lib.trimPrefix aa ([45]:bn)).length:Int) < (aa.length:Int)),h,J⟩ J J
     ·rw [wT hc] at h
      exact rG J J J J<|rG J J J J<|rG J J J J<|rG J J J J<|rY J J J<|rT J J J<|rY J J J<|rT J J J<|rE J J J<|rN<|ab.stop<|aj.lq [] ⟨true,h,J⟩ J J
    ·rw [vd hc] at h
     exact rG J J J J<|rG J J J J<|rG J J J J<|ae.aS J J J<|ae.aS J J J<|ae.aS J J J<|ae.aS J J J<|ae.aS J J J<|rG J J J J<|rY J J J<|rE J J J<|rE J J J<|rN<|ab.stop<|aj.lq [] ⟨false,h,J⟩ J J
   ·exact rG J J J J<|rG J J J J<|rG J J J J<|ae.aS J J J<|ae.aS J J J<|ae.aS J J J<|ae.aS J J J<|ae.aS J J J<|ae.aS J J J<|ae.aS J J J<|ae.aS J J J<|ae.aS J J J<|ae.aS J J J<|rG J J J J<|rT J J J<|rN<|ab.stop<|aj.lq [] ⟨true,h,J⟩ J J
  ·exact rG J J J J<|rG J J J J<|rG J J J J<|rT J J J<|rM J J<|rG J J J J<|rG J J J J<|rG J J J J<|rG J J J J<|ae.aS J J J<|ae.aS J J J<|ae.aS J J J<|ae.aS J J J<|ae.aS J J J<|ae.aS J J J<|ae.aS J J J<|ae.aS J J J<|ae.aS J J J<|ae.aS J J J<|rG J J J J<|rT J J J<|rN<|ab.stop<|aj.lq [] ⟨true,h,J⟩ J J
 ·rintro aK ⟨c1,h,rfl⟩
  unfold nM at h
  refine cB h J (fun h=>?_) (fun h=>?_)
  ·refine aJ<|rA J J<|rA J J<|rN<|ab.ret<|?_
   cases h
   exact hQ J J J
  ·refine tK<|tS<|aJ<|rM J J<|ae.qv (oM J) J<|rM J J<|rN<|ab.block<|ab.cx (fun x:Int=>fT aa x) (fun x aK=>aK=⟨61,[(0,.str aa),(6,.str (Lib.trimPrefix aa ([45]:bn))),(38,I ((Lib.trimPrefix aa ([45]:bn)).length:Int)),(39,I x)],[]⟩) h ?_ ?_
   ·exact aj.lq [] J J J
   ·intro n4 z1 aK J1 dY h jl dQ
    obtain rfl:=dY
    replace h:fT aa n4=some z1:=h
    unfold fT at h
    refine aJ<|ae.qv (bO J J) J<|rN<|tS<|cD h J (fun h=>?_) (fun h=>?_)
    ·refine tK<|tS<|ab.block<|aJ<|rM J J<|rA J J<|rN<|tS<|ab.cut (fun aK=>∃ (c5:Bool),pF n4 c5=some z1∧aK=⟨61,[(0,.str aa),(6,.str (Lib.trimPrefix aa ([45]:bn))),(38,I ((Lib.trimPrefix aa ([45]:bn)).length:Int)),(39,I n4),(51,.bool c5)],[]⟩) ?_ ?_
     ·refine tR<|rM J J<|rM J J<|aH h fun c6 e2 h=>ae.qv (nV J J e2) J<|ae.qv (bO J J) J<|rM J J<|gF h J J J (fun h=>?_) (fun h=>?_)
      ·exact rM J J<|rY J J J<|rM J J<|rY J J J<|aH h fun c7 e3 h=>ae.qv (nV J J e3) J<|rY J J J<|ae.qv (eM J J) J<|rE J J J<|rN<|ab.stop<|aj.lq [] ⟨decide (57 < (c7.toNat:Int)),h,J⟩ J J
      ·exact rG J J J J<|rG J J J J<|rG J J J J<|rT J J J<|rN<|ab.stop<|aj.lq [] ⟨true,h,J⟩ J J
     ·rintro aK ⟨c5,h,rfl⟩
      unfold pF at h
      refine cB h J (fun h=>?_) (fun h=>?_)
      ·refine aJ<|rA J J<|rA J J<|rN<|ab.ret<|have h:=bT h dQ;?_
       cases h
       exact hQ J J J
      ·refine tK<|ab.cw<|tR<|ae.qv (bq J J) J<|rM J J<|rN<|ab.stop<|?_
       cases h
       exact jl _ _ J<|aj.lq [] J J J
    ·refine ab.exit J<|have h:=bT h dQ;?_
     unfold sq at h
     refine aJ<|rM J J<|aH h fun v8 e4 h=>S8 J (EN e4) cR J fun e9 e5=>rM J J<|rX J J J<|rX J J J<|rA J J<|rA J J<|rN<|tS<|ab.cU (id:=11) (A:=[0,0,2,1,15]) 5 mixed J (by kernel_rfl) (by kernel_rfl)<|AM.qv (aM J) J<|AM.qv (aM J) J<|AM.qv (Yk e5 J) J<|AM.qv (bR J) J<|AM.qv (bR J) J<|AM.nil<|rN<|ab.ret<|?_
     cases h
     exact hQ J J J
end Go.Proofs.YthfphcbipahkmaaGreatDoor
