/- The code computes the plain functions: proofs written by shal.py. -/
import Derived.Test.YtpibecbdhjbanaaGreatDoorWbeW1
set_option maxHeartbeats 4000000
set_option maxRecDepth 100000
set_option linter.unusedVariables false
set_option linter.unusedSimpArgs false
namespace Go.Proofs.YtpibecbdhjbanaaGreatDoor
open Go Go.Eng Go.Proofs Go.Beacon
attribute [local irreducible] ae ab AQ QV aF aj Kv AM
theorem ju [GI:bD] {aP:Bk} {db:Bk} {dc:Bk} {cX:Bk} {dj:Bk} {dm:Bk} {fT:Bk} {aa:an} {ai:Int} {r:an} (h:bX aa ai=some r):aF Tryz.prog 94 [.ptr aP 0,I ai] [(aP,.cells [.cE [.str aa.c_.Key,I aa.c_.Target.aN,I aa.c_.Target.aO,I aa.c_.Target.aM,I aa.c_.At,oM aa.c_.aB,I aa.c_.bh.eU,I aa.c_.bh.To,I aa.c_.Room],.ct db,.ct dc,.sl 1 cX 0 aa.open_.length,.sl 1 dj 0 aa.bl.length,.sl 1 dm 0 aa.aR.length,.sl 1 fT 0 aa.aL.length,I aa.aT,I aa.cw]),(cX,dV aa.open_),(dj,dV aa.bl),(dm,dV aa.aR),(fT,dV aa.aL)] (T4 (fun sq sr su sv=>[(aP,.cells [.cE [.str aa.c_.Key,I aa.c_.Target.aN,I aa.c_.Target.aO,I aa.c_.Target.aM,I aa.c_.At,oM aa.c_.aB,I aa.c_.bh.eU,I aa.c_.bh.To,I aa.c_.Room],.ct db,.ct dc,.sl 1 sq 0 r.open_.length,.sl 1 sr 0 r.bl.length,.sl 1 su 0 r.aR.length,.sl 1 sv 0 r.aL.length,I r.aT,I r.cw]),(sq,dV r.open_),(sr,dV r.bl),(su,dV r.aR),(sv,dV r.aL)]) (fun sq sr su sv=>.kj [])):=by
 unfold bX at h
 refine aF.ia ?_
 refine aF.bC Tryz.func94 J Tryz.ntmps94 Tryz.results94 J J ?_
 refine ab.block<|ab.cM (fun x:(List Int)×Int=>bE aa ai x.1 x.2) (fun x aC=>∃ (b4:Bk),aC=⟨161,[(0,.ptr aP 0),(1,I ai)],[(aP,.cells [.cE [.str aa.c_.Key,I aa.c_.Target.aN,I aa.c_.Target.aO,I aa.c_.Target.aM,I aa.c_.At,oM aa.c_.aB,I aa.c_.bh.eU,I aa.c_.bh.To,I aa.c_.Room],.ct db,.ct dc,.sl 1 cX 0 aa.open_.length,.sl 1 dj 0 aa.bl.length,.sl 1 dm 0 aa.aR.length,.sl 1 b4 0 x.1.length,I aa.aT,I x.2]),(cX,dV aa.open_),(dj,dV aa.bl),(dm,dV aa.aR),(b4,dV x.1)]⟩) h ?_ ?_
 ·exact aj.lq [0,0,0,0,0] ⟨fT,J⟩ J J
 ·intro x z1 aC J1 fy h jt fj
  obtain ⟨l5,n6⟩:=x
  obtain ⟨b4,rfl⟩:=fy
  replace h:bE aa ai l5 n6=some z1:=h
  unfold bE at h
  refine ab.block<|aE<|rM J J<|ae.qv (ar J) J<|rF J J J<|rL J J .p0 J J<|ae.qv (iX J) J<|rA J J<|rN<|tS<|tS<|ab.cut (fun aC=>∃ (c7:Bool),bK aa ai l5 n6 c7=some z1∧aC=⟨161,[(0,.ptr aP 0),(1,I ai),(4,I (l5.length:Int)),(54,.bool c7)],[(aP,.cells [.cE [.str aa.c_.Key,I aa.c_.Target.aN,I aa.c_.Target.aO,I aa.c_.Target.aM,I aa.c_.At,oM aa.c_.aB,I aa.c_.bh.eU,I aa.c_.bh.To,I aa.c_.Room],.ct db,.ct dc,.sl 1 cX 0 aa.open_.length,.sl 1 dj 0 aa.bl.length,.sl 1 dm 0 aa.aR.length,.sl 1 b4 0 l5.length,I aa.aT,I n6]),(cX,dV aa.open_),(dj,dV aa.bl),(dm,dV aa.aR),(b4,dV l5)]⟩) ?_ ?_
  ·refine tR<|rM J J<|ae.qv (ar J) J<|rF J J J<|rL J J .p0 J J<|ae.qv (bG J J) J<|rM J J<|gT h J J J (fun h=>?_) (fun h=>?_)
   ·refine rM J J<|rY J J J<|ae.qv (fL J J) J<|rT J J J<|rM J J<|gT h J J J (fun h=>?_) (fun h=>?_)
    ·refine rM J J<|rY J J J<|rM J J<|rY J J J<|ae.qv (ar J) J<|rY J J J<|rF J J J<|rY J J J<|rL J J .p0 J J<|rY J J J<|ae.qv (bF J) J<|rY J J J<|ae.qv (bu J J) J<|rY J J J<|ae.qv (aX J J J) J<|rY J J J<|ae.qv (cV J) J<|rY J J J<|ae.qv (bG J J) J<|rT J J J<|rM J J<|gT h J J J (fun h=>?_) (fun h=>?_)
     ·refine rM J J<|rY J J J<|ae.qv (ar J) J<|rY J J J<|rF J J J<|rY J J J<|rL J J .p0 J J<|rY J J J<|rM J J<|rY J J J<|ae.qv (cF J J) J<|rY J J J<|aD h fun v8 e1 h=>ae.qv (aQ J J J e1) J<|rY J J J<|ae.qv (cN (g:=I) J J (.inl .p1) e1 J) J<|rY J J J<|ae.qv (cC J J) J<|rT J J J<|rM J J<|gT h J J J (fun h=>?_) (fun h=>?_)
      ·exact rM J J<|rY J J J<|rM J J<|rY J J J<|ae.qv (ar J) J<|rY J J J<|rF J J J<|rY J J J<|rL J J .p0 J J<|rY J J J<|rM J J<|rY J J J<|ae.qv (cF J J) J<|rY J J J<|aD h fun v9 e2 h=>ae.qv (aQ J J J e2) J<|rY J J J<|ae.qv (cN (g:=I) J J (.inl .p4) e2 J) J<|rY J J J<|ae.qv (oe J J) J<|rT J J J<|rN<|ab.stop<|aj.lq [0,0,0,0,0] ⟨decide (v9≤ai),h,J⟩ J J
      ·exact rG J J J J<|rG J J J J<|rG J J J J<|rG J J J J<|rG J J J J<|rG J J J J<|rG J J J J<|rG J J J J<|rG J J J J<|rE J J J<|rN<|ab.stop<|aj.lq [0,0,0,0,0] ⟨false,h,J⟩ J J
     ·exact rG J J J J<|rG J J J J<|rG J J J J<|rG J J J J<|rG J J J J<|rG J J J J<|rG J J J J<|rG J J J J<|rE J J J<|rM J J<|rG J J J J<|rG J J J J<|rG J J J J<|rG J J J J<|rG J J J J<|rG J J J J<|rG J J J J<|rG J J J J<|rG J J J J<|rG J J J J<|rE J J J<|rN<|ab.stop<|aj.lq [0,0,0,0,0] ⟨false,h,J⟩ J J
    ·exact rG J J J J<|rG J J J J<|rG J J J J<|rG J J J J<|rG J J J J<|rG J J J J<|rG J J J J<|rG J J J J<|rG J J J J<|rE J J J<|rM J J<|rG J J J J<|rG J J J J<|rG J J J J<|rG J J J J<|rG J J J J<|rG J J J J<|rG J J J J<|rG J J J J<|rG J J J J<|rE J J J<|rM J J<|rG J J J J<|rG J J J J<|rG J J J J<|rG J J J J<|rG J J J J<|rG J J J J<|rG J J J J<|rG J J J J<|rG J J J J<|rG J J J J<|rE J J J<|rN<|ab.stop<|aj.lq [0,0,0,0,0] ⟨false,h,J⟩ J J
   ·exact rG J J J J<|rE J J J<|rM J J<|rG J J J J<|rG J J J J<|rG J J J J<|rG J J J J<|rG J J J J<|rG J J J J<|rG J J J J<|rG J J J J<|rG J J J J<|rG J J J J<|rE J J J<|rM J J<|rG J J J J<|rG J J J J<|rG J J J J<|rG J J J J<|rG J J J J<|rG J J J J<|rG J J J J<|rG J J J J<|rG J J J J<|rE J J J<|rM J J<|rG J J J J<|rG J J J J<|rG J J J J<|rG J J J J<|rG J J J J<|rG J J J J<|rG J J J J<|rG J J J J<|rG J J J J<|rG J J J J<|rE J J J<|rN<|ab.stop<|aj.lq [0,0,0,0,0] ⟨false,h,J⟩ J J
  ·rintro aC ⟨c7,h,rfl⟩
   unfold bK at h
   refine ab.cut (fun aC=>∃ (n10:Int),bJ aa ai l5 n10=some z1∧aC=⟨161,[(0,.ptr aP 0),(1,I ai),(4,I (l5.length:Int))],[(aP,.cells [.cE [.str aa.c_.Key,I aa.c_.Target.aN,I aa.c_.Target.aO,I aa.c_.Target.aM,I aa.c_.At,oM aa.c_.aB,I aa.c_.bh.eU,I aa.c_.bh.To,I aa.c_.Room],.ct db,.ct dc,.sl 1 cX 0 aa.open_.length,.sl 1 dj 0 aa.bl.length,.sl 1 dm 0 aa.aR.length,.sl 1 b4 0 l5.length,I aa.aT,I n10]),(cX,dV aa.open_),(dj,dV aa.bl),(dm,dV aa.aR),(b4,dV l5)]⟩) ?_ ?_
   ·refine cB h J (fun h=>?_) (fun h=>?_)
    ·exact tR<|rM J J<|rM J J<|rM J J<|ae.qv (ar J) J<|rF J J J<|rL J J .p0 J J<|ae.qv (bF J) J<|ae.qv (bu J J) J<|ae.qv (aX J J J) J<|rM J J<|aD h fun v11 e3 h=>ae.qv (bO J J J e3 J J) J<|ae.qv (bu J J) J<|ae.qv (aX J J J) J<|ae.qv (bc J J) J<|ae.qv (ar J) J<|rF J J J<|ay J J J J .p0 J J<|rN<|ab.stop<|aj.lq [0,0,0,0,0] ⟨aJ (ai+v11.oW),h,J⟩ J J
    ·exact tK<|ab.stop<|aj.lq [0,0,0,0,0] ⟨n6,h,J⟩ J J
   ·rintro aC ⟨n10,h,rfl⟩
    unfold bJ at h
    refine tS<|tS<|ab.cut (fun aC=>∃ (c12:Bool),fW aa l5 n10 c12=some z1∧aC=⟨161,[(0,.ptr aP 0),(1,I ai),(4,I (l5.length:Int)),(105,.bool c12)],[(aP,.cells [.cE [.str aa.c_.Key,I aa.c_.Target.aN,I aa.c_.Target.aO,I aa.c_.Target.aM,I aa.c_.At,oM aa.c_.aB,I aa.c_.bh.eU,I aa.c_.bh.To,I aa.c_.Room],.ct db,.ct dc,.sl 1 cX 0 aa.open_.length,.sl 1 dj 0 aa.bl.length,.sl 1 dm 0 aa.aR.length,.sl 1 b4 0 l5.length,I aa.aT,I n10]),(cX,dV aa.open_),(dj,dV aa.bl),(dm,dV aa.aR),(b4,dV l5)]⟩) ?_ ?_
    ·refine ab.eh (id:=3) (A:=[0,1,3,7,15,31,63,127,255,511,63,2047,4095,8191,16383,32767,65535,131071,262143,524287,1048575,2097151,4194303,8388607,16777215,33554431,67108863,134217727,16777215,285212671,822083583,1895825407,4294967295,8589934591,17179869183]) 35 mixed J (by kernel_rfl) (by kernel_rfl)<|AM.qv (aA J) J<|AM.qv (ar J) J<|AM.qv (aG J J) J<|AM.qv (ba J J .p0 J) J<|AM.qv (bG J J) J<|AM.qv (aA J) J<|AM.dA J J J (fun hc=>?_) (fun hc=>?_)
     ·rw [uA hc] at h
      refine AM.qv (aA J) J<|AM.aq J J J<|AM.qv (ar J) J<|AM.aq J J J<|AM.qv (aG J J) J<|AM.aq J J J<|AM.qv (ba J J .p0 J) J<|AM.aq J J J<|AM.qv (aA J) J<|AM.aq J J J<|AM.qv (fL J J) J<|AM.qv (fr J J) J<|AM.qv (aA J) J<|AM.dA J J J (fun hc=>?_) (fun hc=>?_)
      ·rw [uA hc] at h
       refine AM.qv (aA J) J<|AM.aq J J J<|AM.qv (fL J J) J<|AM.aq J J J<|AM.qv (aA J) J<|AM.cy J J J (fun hc=>?_) (fun hc=>?_)
       ·rw [om hc] at h
        refine AM.qv (aA J) J<|AM.aq J J J<|AM.qv (ar J) J<|AM.aq J J J<|AM.qv (aG J J) J<|AM.aq J J J<|AM.qv (ba J J .p0 J) J<|AM.aq J J J<|AM.qv (oe J J) J<|AM.aq J J J<|AM.qv (gI J J) J<|AM.aq J J J<|AM.qv (aA J) J<|AM.cy J J J (fun hc=>?_) (fun hc=>?_)
        ·rw [om hc] at h
         exact AM.qv (aA J) J<|AM.aq J J J<|AM.qv (ar J) J<|AM.aq J J J<|AM.qv (aG J J) J<|AM.aq J J J<|AM.qv (ba J J .p0 J) J<|AM.aq J J J<|AM.qv (aA J) J<|AM.aq J J J<|AM.qv (ar J) J<|AM.aq J J J<|AM.qv (aG J J) J<|AM.aq J J J<|AM.qv (ba J J .p0 J) J<|AM.aq J J J<|AM.qv (tq J J) J<|AM.aq J J J<|AM.qv (gI J J) J<|AM.qv (fr J J) J<|AM.nil<|rN<|ab.stop<|aj.lq [0,0,0,0,0] ⟨decide (aa.aT≤n10),h,J⟩ J J
        ·rw [oo hc] at h
         exact AM.ao J J J J<|AM.ao J J J J<|AM.ao J J J J<|AM.ao J J J J<|AM.ao J J J J<|AM.ao J J J J<|AM.ao J J J J<|AM.ao J J J J<|AM.aq J J J<|AM.qv (fr J J) J<|AM.qv (fr J J) J<|AM.nil<|rN<|ab.stop<|aj.lq [0,0,0,0,0] ⟨false,h,J⟩ J J
       ·rw [oo hc] at h
        exact AM.ao J J J J<|AM.ao J J J J<|AM.ao J J J J<|AM.ao J J J J<|AM.aq J J J<|AM.qv (fr J J) J<|AM.aq J J J<|AM.qv (aA J) J<|AM.ao J J J J<|AM.ao J J J J<|AM.ao J J J J<|AM.ao J J J J<|AM.ao J J J J<|AM.ao J J J J<|AM.ao J J J J<|AM.ao J J J J<|AM.ao J J J J<|AM.aq J J J<|AM.qv (fr J J) J<|AM.qv (fr J J) J<|AM.nil<|rN<|ab.stop<|aj.lq [0,0,0,0,0] ⟨false,h,J⟩ J J
      ·rw [uz hc] at h
       exact AM.ao J J J J<|AM.ao J J J J<|AM.aH J J J<|AM.aH J J J<|AM.aH J J J<|AM.aH J J J<|AM.aH J J J<|AM.ao J J J J<|AM.ao J J J J<|AM.aH J J J<|AM.aH J J J<|AM.aH J J J<|AM.aH J J J<|AM.aH J J J<|AM.aH J J J<|AM.aH J J J<|AM.aH J J J<|AM.aH J J J<|AM.ao J J J J<|AM.qv (gI J J) J<|AM.nil<|rN<|ab.stop<|aj.lq [0,0,0,0,0] ⟨true,h,J⟩ J J
     ·rw [uz hc] at h
      exact AM.ao J J J J<|AM.ao J J J J<|AM.ao J J J J<|AM.ao J J J J<|AM.ao J J J J<|AM.qv (gI J J) J<|AM.qv (aA J) J<|AM.ao J J J J<|AM.ao J J J J<|AM.ao J J J J<|AM.aH J J J<|AM.aH J J J<|AM.aH J J J<|AM.aH J J J<|AM.aH J J J<|AM.ao J J J J<|AM.ao J J J J<|AM.aH J J J<|AM.aH J J J<|AM.aH J J J<|AM.aH J J J<|AM.aH J J J<|AM.aH J J J<|AM.aH J J J<|AM.aH J J J<|AM.aH J J J<|AM.ao J J J J<|AM.qv (gI J J) J<|AM.nil<|rN<|ab.stop<|aj.lq [0,0,0,0,0] ⟨true,h,J⟩ J J
    ·rintro aC ⟨c12,h,rfl⟩
     unfold fW at h
     refine cB h J (fun h=>?_) (fun h=>?_)
     ·refine ab.ret<|have h:=cj h fj;?_
      cases h
      exact aj.here ⟨_,.nil,_,.cons .p0 (.cons .p0 (.cons .p0 (.cons .p0 (.cons .p0 .nil)))),⟨cX,dj,dm,b4,J,J⟩⟩
     ·refine tK<|aE<|rM J J<|ae.qv (ar J) J<|rF J J J<|rL J J .p0 J J<|rA J J<|rN<|aE<|rM J J<|rM J J<|rM J J<|ae.qv (ar J) J<|rF J J J<|rL J J .p0 J J<|rM J J<|aU (xs:=([n10]:List Int).map I) J J J J J J<|aD h fun lH e4 h=>kU (g:=I) J J J J J J J J (.list _) e4 (fun _=>.p4) J fun IL=>ae.qv (ar J) J<|rF J J J<|ay J J J J .p0 J J<|ae.qv (ar J) J<|rF J J J<|ay J J J J .p0 J J<|rN<|tS<|ab.cut (fun aC=>∃ (Oi:Bool),dq aa l5 n10 lH Oi=some z1∧aC=⟨161,[(0,.ptr aP 0),(1,I ai),(4,I (l5.length:Int)),(5,I n10),(143,.bool Oi)],[(aP,.cells [.cE [.str aa.c_.Key,I aa.c_.Target.aN,I aa.c_.Target.aO,I aa.c_.Target.aM,I aa.c_.At,oM aa.c_.aB,I aa.c_.bh.eU,I aa.c_.bh.To,I aa.c_.Room],.ct db,.ct dc,.sl 1 cX 0 aa.open_.length,.sl 1 dj 0 aa.bl.length,.sl 1 dm 0 aa.aR.length,.sl 1 IL 0 lH.length,I aa.aT,I (-1:Int)]),(cX,dV aa.open_),(dj,dV aa.bl),(dm,dV aa.aR),(IL,dV lH)]⟩) ?_ ?_
      ·refine tR<|rM J J<|ae.qv (bc J J) J<|rM J J<|ae.qv (ar J) J<|rF J J J<|rL J J .p0 J J<|ae.qv (bF J) J<|ae.qv (bu J J) J<|ae.qv (aX J J J) J<|ae.qv (cV J) J<|ae.qv (bG J J) J<|rM J J<|gT h J J J (fun h=>?_) (fun h=>?_)
       ·exact rM J J<|rY J J J<|ae.qv (ar J) J<|rY J J J<|rF J J J<|rY J J J<|rL J J .p0 J J<|rY J J J<|rM J J<|rY J J J<|aD h fun uo e5 h=>ae.qv (aQ J J J e5) J<|rY J J J<|ae.qv (cN (g:=I) J J (.inl .p1) e5 J) J<|rY J J J<|ae.qv (cC J J) J<|rT J J J<|rN<|ab.stop<|aj.lq [0,0,0,0,0] ⟨decide (uo=(0:Int)),h,J⟩ J J
       ·exact rG J J J J<|rG J J J J<|rG J J J J<|rG J J J J<|rG J J J J<|rG J J J J<|rG J J J J<|rE J J J<|rN<|ab.stop<|aj.lq [0,0,0,0,0] ⟨false,h,J⟩ J J
      ·rintro aC ⟨Oi,h,rfl⟩
       unfold dq at h
       refine ab.cut (fun aC=>∃ (n17:Int),dp lH n17=some z1∧aC=⟨161,[(0,.ptr aP 0),(1,I ai)],[(aP,.cells [.cE [.str aa.c_.Key,I aa.c_.Target.aN,I aa.c_.Target.aO,I aa.c_.Target.aM,I aa.c_.At,oM aa.c_.aB,I aa.c_.bh.eU,I aa.c_.bh.To,I aa.c_.Room],.ct db,.ct dc,.sl 1 cX 0 aa.open_.length,.sl 1 dj 0 aa.bl.length,.sl 1 dm 0 aa.aR.length,.sl 1 IL 0 lH.length,I aa.aT,I n17]),(cX,dV aa.open_),(dj,dV aa.bl),(dm,dV aa.aR),(IL,dV lH)]⟩) ?_ ?_
       ·refine cB h J (fun h=>?_) (fun h=>?_)
        ·exact tR<|rM J J<|rM J J<|rM J J<|ae.qv (ar J) J<|rF J J J<|rL J J .p0 J J<|ae.qv (bF J) J<|ae.qv (bu J J) J<|ae.qv (aX J J J) J<|rM J J<|ae.qv (bc J J) J<|aD h fun eS e6 h=>ae.qv (bO J J J e6 J J) J<|ae.qv (bu J J) J<|ae.qv (aX J J J) J<|ae.qv (bc J J) J<|ae.qv (ar J) J<|rF J J J<|ay J J J J .p0 J J<|rN<|ab.stop<|aj.lq [0,0,0,0,0] ⟨aJ (n10+eS.oW),h,J⟩ J J
        ·exact tK<|ab.stop<|aj.lq [0,0,0,0,0] ⟨(-1:Int),h,J⟩ J J
       ·rintro aC ⟨n17,h,rfl⟩
        unfold dp at h
        refine ab.bY<|ab.stop<|?_
        cases h
        exact jt _ _ J<|aj.lq [0,0,0,0,0] ⟨IL,J⟩ J J
theorem nL [GI:bD] {db:Bk} {dc:Bk} {aa:an} {ai:al} {r:Bool} (h:cT aa ai=r):Pu Tryz.prog 122 [.cE [.cE [.str aa.c_.Key,I aa.c_.Target.aN,I aa.c_.Target.aO,I aa.c_.Target.aM,I aa.c_.At,oM aa.c_.aB,I aa.c_.bh.eU,I aa.c_.bh.To,I aa.c_.Room],.ct db,.ct dc,fc aa.open_,fc aa.bl,fc aa.aR,fc aa.aL,I aa.aT,I aa.cw],.cE [I ai.ak.Kind,I ai.ak.Since,I ai.ak.Version.aN,I ai.ak.Version.aO,I ai.ak.Version.aM,I ai.ak.cO,I ai.aI.aN,I ai.aI.aO,I ai.aI.aM]] (.bool r):=by
 unfold cT at h
 refine aF.bC Tryz.func122 J Tryz.ntmps122 Tryz.results122 J J ?_
 refine aE<|rA J J<|rN<|tS<|ab.cut (fun aC=>∃ (c1:Bool),hZ c1=r∧aC=⟨25,[(4,.bool c1)],[]⟩) ?_ ?_
 ·refine tR<|rM J J<|rM J J<|aS J (gA J) cR J<|ae.qv (cu J) J<|rM J J<|ae.guard J J J (fun hc=>?_) (fun hc=>?_)
  ·rw [D6 hc] at h
   refine rM J J<|rY J J J<|ae.qv (bF J) J<|rY J J J<|ae.qv (bu J J) J<|rY J J J<|ae.qv (bu J J) J<|rY J J J<|ae.qv (aX J J J) J<|rY J J J<|ae.qv (oe J J) J<|rY J J J<|rM J J<|ae.dA J J J (fun hc=>?_) (fun hc=>?_)
   ·rw [uA hc] at h
    exact rM J J<|rY J J J<|ae.qv (bF J) J<|rY J J J<|ae.qv (bu J J) J<|rY J J J<|ae.qv (bu J J) J<|rY J J J<|ae.qv (aX J J J) J<|rY J J J<|ae.qv (cC J J) J<|rY J J J<|rE J J J<|rT J J J<|rA J J<|rN<|ab.stop<|aj.lq [] ⟨decide (ai.ak.Kind=(5:Int)),h,J⟩ J J
   ·rw [uz hc] at h
    exact rG J J J J<|rG J J J J<|rG J J J J<|rG J J J J<|rG J J J J<|rY J J J<|rT J J J<|rT J J J<|rA J J<|rN<|ab.stop<|aj.lq [] ⟨true,h,J⟩ J J
  ·rw [D7 hc] at h
   exact rG J J J J<|rG J J J J<|rG J J J J<|rG J J J J<|rG J J J J<|rG J J J J<|ae.aH J J J<|ae.aH J J J<|ae.aH J J J<|ae.aH J J J<|ae.aH J J J<|ae.aH J J J<|rG J J J J<|rE J J J<|rA J J<|rN<|ab.stop<|aj.lq [] ⟨false,h,J⟩ J J
 ·rintro aC ⟨c1,h,rfl⟩
  unfold hZ at h
  refine ab.ret<|?_
  obtain rfl:=h
  exact hP J J
theorem pM [GI:bD] {aP:Bk} {aa:al} {ai:MarkS} {r:Bool×al} (h:az aa ai=r):aF Tryz.prog 61 [.ptr aP 0,MarkS.av ai] [(aP,.cells [I aa.ak.Kind,I aa.ak.Since,I aa.ak.Version.aN,I aa.ak.Version.aO,I aa.ak.Version.aM,I aa.ak.cO,I aa.aI.aN,I aa.aI.aO,I aa.aI.aM])] (T0 ([(aP,.cells [I r.2.ak.Kind,I r.2.ak.Since,I r.2.ak.Version.aN,I r.2.ak.Version.aO,I r.2.ak.Version.aM,I r.2.ak.cO,I r.2.aI.aN,I r.2.aI.aO,I r.2.aI.aM])]) (.bool r.1)):=by
 unfold az at h
 refine aF.ia ?_
 refine aF.bC Tryz.func61 J Tryz.ntmps61 Tryz.results61 J J ?_
 refine aE<|gi J J J J fun b1=>rA J J<|rN<|tS<|ab.eh (id:=1) (A:=[0,1,0,4,12,28,63,127]) 8 mixed J (by kernel_rfl) (by kernel_rfl)<|AM.qv (aG J J) J<|AM.qv (bA J J .p0 J J) J<|AM.qv (aA J) J<|AM.qv (ar J) J<|AM.qv (aG J J) J<|AM.qv (bA J J .p1 J J) J<|AM.qv (BK (g:=Version.av) (X:=ai.Version) (Y:=aa.aI) J J J J J) J<|AM.qv (ek J) J<|AM.nil<|rN<|aE<|rA J J<|rN<|tS<|aE<|rF J J J<|rL J J .p0 J J<|rN<|ab.block<|aE<|ae.qv (cC J J) J<|rA J J<|rN<|ab.cut (fun aC=>∃ (c2:Bool),cQ aa ai c2=r∧aC=⟨101,[(0,.ptr aP 0),(3,.ptr b1 0),(6,.bool c2)],[(aP,.cells [I aa.ak.Kind,I aa.ak.Since,I aa.ak.Version.aN,I aa.ak.Version.aO,I aa.ak.Version.aM,I aa.ak.cO,I aa.aI.aN,I aa.aI.aO,I aa.aI.aM]),(b1,.cells (yK ai))]⟩) ?_ ?_
 ·refine cD h J (fun h=>?_) (fun h=>?_)
  ·refine ab.cut (fun aC=>∃ (c3:Bool),fo aa ai c3=r∧aC=⟨101,[(0,.ptr aP 0),(3,.ptr b1 0),(6,.bool c3)],[(aP,.cells [I aa.ak.Kind,I aa.ak.Since,I aa.ak.Version.aN,I aa.ak.Version.aO,I aa.ak.Version.aM,I aa.ak.cO,I aa.aI.aN,I aa.aI.aO,I aa.aI.aM]),(b1,.cells (yK ai))]⟩) ?_ ?_
   ·refine tR<|rM J J<|ae.qv (ar J) J<|rF J J J<|rF J J J<|rL J J .p1 J J<|ae.qv (cC J J) J<|rM J J<|ae.dA J J J (fun hc=>?_) (fun hc=>?_)
    ·rw [uA hc] at h
     refine rM J J<|rY J J J<|ae.qv (ar J) J<|rY J J J<|rF J J J<|rY J J J<|rF J J J<|rY J J J<|rL J J .p1 J J<|rY J J J<|ae.qv (cC J J) J<|rE J J J<|rM J J<|ae.dA J J J (fun hc=>?_) (fun hc=>?_)
     ·rw [uA hc] at h
      exact rM J J<|rY J J J<|ae.qv (ar J) J<|rY J J J<|rF J J J<|rY J J J<|rF J J J<|rY J J J<|rL J J .p1 J J<|rY J J J<|ae.qv (cC J J) J<|rE J J J<|rA J J<|rN<|ab.stop<|aj.lq [1,0] ⟨decide (aa.ak.Kind=(4:Int)),h,J⟩ J J
     ·rw [uz hc] at h
      exact rG J J J J<|rG J J J J<|rG J J J J<|rG J J J J<|rG J J J J<|rT J J J<|rA J J<|rN<|ab.stop<|aj.lq [1,0] ⟨true,h,J⟩ J J
    ·rw [uz hc] at h
     exact rG J J J J<|rG J J J J<|rG J J J J<|rG J J J J<|rG J J J J<|rT J J J<|rM J J<|rG J J J J<|rG J J J J<|rG J J J J<|rG J J J J<|rG J J J J<|rG J J J J<|rT J J J<|rA J J<|rN<|ab.stop<|aj.lq [1,0] ⟨true,h,J⟩ J J
   ·rintro aC ⟨c3,h,rfl⟩
    unfold fo at h
    exact ab.stop<|aj.lq [0,0] ⟨c3,h,J⟩ J J
  ·refine tS<|aE<|ae.qv (cC J J) J<|rA J J<|rN<|ab.cut (fun aC=>∃ (c4:Bool),ef aa ai c4=r∧aC=⟨101,[(0,.ptr aP 0),(3,.ptr b1 0),(5,.bool (decide (ai.Version=aa.aI))),(49,.bool c4)],[(aP,.cells [I aa.ak.Kind,I aa.ak.Since,I aa.ak.Version.aN,I aa.ak.Version.aO,I aa.ak.Version.aM,I aa.ak.cO,I aa.aI.aN,I aa.aI.aO,I aa.aI.aM]),(b1,.cells (yK ai))]⟩) ?_ ?_
   ·refine cD h J (fun h=>?_) (fun h=>?_)
    ·exact tK<|ab.stop<|aj.lq [1,0] ⟨decide (ai.Kind=(2:Int)),h,J⟩ J J
    ·exact tR<|ae.qv (cC J J) J<|rA J J<|rN<|ab.stop<|aj.lq [1,0] ⟨decide (ai.Kind=(5:Int)),h,J⟩ J J
   ·rintro aC ⟨c4,h,rfl⟩
    unfold ef at h
    refine ab.cut (fun aC=>∃ (c5:Bool),ee aa ai c5=r∧aC=⟨101,[(0,.ptr aP 0),(3,.ptr b1 0),(6,.bool c5)],[(aP,.cells [I aa.ak.Kind,I aa.ak.Since,I aa.ak.Version.aN,I aa.ak.Version.aO,I aa.ak.Version.aM,I aa.ak.cO,I aa.aI.aN,I aa.aI.aO,I aa.aI.aM]),(b1,.cells (yK ai))]⟩) ?_ ?_
    ·refine cB h J (fun h=>?_) (fun h=>?_)
     ·refine ab.cut (fun aC=>∃ (c6:Bool),fp aa ai c6=r∧aC=⟨101,[(0,.ptr aP 0),(3,.ptr b1 0),(6,.bool c6)],[(aP,.cells [I aa.ak.Kind,I aa.ak.Since,I aa.ak.Version.aN,I aa.ak.Version.aO,I aa.ak.Version.aM,I aa.ak.cO,I aa.aI.aN,I aa.aI.aO,I aa.aI.aM]),(b1,.cells (yK ai))]⟩) ?_ ?_
      ·refine tR<|rM J J<|ae.qv (ar J) J<|rF J J J<|rF J J J<|rL J J .p0 J J<|ae.qv (cC J J) J<|rM J J<|ae.cy J J J (fun hc=>?_) (fun hc=>?_)
       ·rw [om hc] at h
        exact rM J J<|rT J J J<|rA J J<|rN<|ab.stop<|aj.lq [0,0] ⟨decide (ai.Version=aa.aI),h,J⟩ J J
       ·rw [oo hc] at h
        exact rE J J J<|rA J J<|rN<|ab.stop<|aj.lq [0,0] ⟨false,h,J⟩ J J
      ·rintro aC ⟨c6,h,rfl⟩
       unfold fp at h
       exact ab.stop<|aj.lq [0,0] ⟨c6,h,J⟩ J J
     ·refine ab.cut (fun aC=>∃ (c7:Bool),fq aa ai c7=r∧aC=⟨101,[(0,.ptr aP 0),(3,.ptr b1 0),(6,.bool c7)],[(aP,.cells [I aa.ak.Kind,I aa.ak.Since,I aa.ak.Version.aN,I aa.ak.Version.aO,I aa.ak.Version.aM,I aa.ak.cO,I aa.aI.aN,I aa.aI.aO,I aa.aI.aM]),(b1,.cells (yK ai))]⟩) ?_ ?_
      ·refine tR<|rM J J<|ae.qv (ar J) J<|rF J J J<|rF J J J<|rL J J .p0 J J<|ae.qv (cC J J) J<|rM J J<|ae.cy J J J (fun hc=>?_) (fun hc=>?_)
       ·rw [om hc] at h
        exact rM J J<|rT J J J<|rA J J<|rN<|ab.stop<|aj.lq [0,0] ⟨decide (ai.Version=aa.aI),h,J⟩ J J
       ·rw [oo hc] at h
        exact rE J J J<|rA J J<|rN<|ab.stop<|aj.lq [0,0] ⟨false,h,J⟩ J J
      ·rintro aC ⟨c7,h,rfl⟩
       unfold fq at h
       exact ab.stop<|aj.lq [0,0] ⟨c7,h,J⟩ J J
    ·rintro aC ⟨c5,h,rfl⟩
     unfold ee at h
     exact ab.stop<|aj.lq [0,0] ⟨c5,h,J⟩ J J
 ·rintro aC ⟨c2,h,rfl⟩
  unfold cQ at h
  refine ab.bY<|tS<|aE<|rM J J<|ae.qv (cu J) J<|rN<|cB h J (fun h=>?_) (fun h=>?_)
  ·refine aE<|rA J J<|rN<|ab.ret<|?_
   obtain rfl:=h
   exact hH J [0] J ⟨J,J⟩
  ·refine tK<|tS<|ab.j6 (id:=12) (A:=[0,0,0,0,8,0,32,0,128,25,537,1561,3609,7803,15995,32379,65147,131071,262143,524287]) (H0:=[(aP,.cells [I aa.ak.Kind,I aa.ak.Since,I aa.ak.Version.aN,I aa.ak.Version.aO,I aa.ak.Version.aM,I aa.ak.cO,I aa.aI.aN,I aa.aI.aO,I aa.aI.aM])]) (HH:=fun β=>[(aP,.cells [I ai.Kind,I ai.At,I aa.ak.Version.aN,I aa.ak.Version.aO,I aa.ak.Version.aM,I aa.ak.cO,I aa.aI.aN,I aa.aI.aO,I aa.aI.aM]),(b1,.cells (yK ai))]) 17 mixed J (by kernel_rfl) (by kernel_rfl) [⟨none,some 12,[],fun _=>(aP,.cells [I aa.ak.Kind,I aa.ak.Since,I aa.ak.Version.aN,I aa.ak.Version.aO,I aa.ak.Version.aM,I aa.ak.cO,I aa.aI.aN,I aa.aI.aO,I aa.aI.aM]),none,[]⟩,⟨some 12,some 16,[],fun _=>(aP,.cells [I ai.Kind,I aa.ak.Since,I aa.ak.Version.aN,I aa.ak.Version.aO,I aa.ak.Version.aM,I aa.ak.cO,I aa.aI.aN,I aa.aI.aO,I aa.aI.aM]),none,[]⟩,⟨some 16,none,[],fun _=>(aP,.cells [I ai.Kind,I ai.At,I aa.ak.Version.aN,I aa.ak.Version.aO,I aa.ak.Version.aM,I aa.ak.cO,I aa.aI.aN,I aa.aI.aO,I aa.aI.aM]),none,[]⟩] [] J (by kernel_rfl) J (.cons .p0 .nil) (fun _=>J)<|AT.am 12 J J<|AM.qv (aA J) J<|AM.qv (aA J) J<|AM.qv (aA J) J<|AM.qv (aG J J) J<|AM.qv (ba J J .p0 J) J<|AM.qv (aG J J) J<|AM.qv (ba J J .p0 J) J<|AM.qv (aG J J) J<|AM.qv (bA J J .p0 J J) J<|AM.qv (ar J) J<|AM.qv (aG J J) J<|AM.qv (aG J J) J<|AM.nil<|AT.yS (Ti:=[(aP,.cells [I aa.ak.Kind,I aa.ak.Since,I aa.ak.Version.aN,I aa.ak.Version.aO,I aa.ak.Version.aM,I aa.ak.cO,I aa.aI.aN,I aa.aI.aO,I aa.aI.aM])]) (Pi:=[(aP,.cells [I ai.Kind,I aa.ak.Since,I aa.ak.Version.aN,I aa.ak.Version.aO,I aa.ak.Version.aM,I aa.ak.cO,I aa.aI.aN,I aa.aI.aO,I aa.aI.aM])]) (fun _=>J) (fun _=>J) (fun _=>J) J J ?_ ?_
   ·exact ay J J J J .p0 J J<|ae.nil ⟨_,J⟩
   refine AT.am 3 J J<|AM.qv (ar J) J<|AM.qv (aG J J) J<|AM.qv (aG J J) J<|AM.nil<|AT.yS (Ti:=[(aP,.cells [I ai.Kind,I aa.ak.Since,I aa.ak.Version.aN,I aa.ak.Version.aO,I aa.ak.Version.aM,I aa.ak.cO,I aa.aI.aN,I aa.aI.aO,I aa.aI.aM])]) (Pi:=[(aP,.cells [I ai.Kind,I ai.At,I aa.ak.Version.aN,I aa.ak.Version.aO,I aa.ak.Version.aM,I aa.ak.cO,I aa.aI.aN,I aa.aI.aO,I aa.aI.aM])]) (fun _=>J) (fun _=>J) (fun _=>J) J J ?_ ?_
   ·exact ay J J J J .p0 J J<|ae.nil ⟨_,J⟩
   refine AT.uE (fun _=>J) fun β=>ae.qv (ar J) J<|rF J J J<|ay J J J J .p0 J J<|rN<|tS<|aE<|rF J J J<|rL J J .p1 J J<|rN<|ab.block<|aE<|ae.qv (cC J J) J<|rA J J<|rN<|ab.cut (fun aC=>∃ (n8:Int) (n9:Int) (n10:Int) (n11:Int),ec ai n8 n9 n10 n11=r∧aC=⟨101,[],[(aP,.cells [I ai.Kind,I ai.At,I n8,I n9,I n10,I n11,I ai.Version.aN,I ai.Version.aO,I ai.Version.aM])]⟩) ?_ ?_
   ·refine cD h J (fun h=>?_) (fun h=>?_)
    ·exact tR<|rM J J<|rF J J J<|ae.qv (bA J J .p1 J J) J<|ae.qv (ar J) J<|rF J J J<|rF J J J<|ay J J J J .p0 J J<|rN<|ab.stop<|aj.lq [0] ⟨ai.Version.aN,ai.Version.aO,ai.Version.aM,aa.ak.cO,h,J⟩ J J
    ·refine aE<|ae.qv (cC J J) J<|rA J J<|rN<|ab.cut (fun aC=>∃ (n12:Int),ed aa ai n12=r∧aC=⟨101,[],[(aP,.cells [I ai.Kind,I ai.At,I aa.ak.Version.aN,I aa.ak.Version.aO,I aa.ak.Version.aM,I n12,I ai.Version.aN,I ai.Version.aO,I ai.Version.aM])]⟩) ?_ ?_
     ·refine cD h J (fun h=>?_) (fun h=>?_)
      ·exact tR<|rM J J<|ae.qv (ar J) J<|rF J J J<|rF J J J<|rL J J .p0 J J<|ae.qv (bc J J) J<|ae.qv (ar J) J<|rF J J J<|rF J J J<|ay J J J J .p0 J J<|rN<|ab.stop<|aj.lq [0] ⟨aJ (aa.ak.cO+(1:Int)),h,J⟩ J J
      ·exact tK<|ab.stop<|aj.lq [0] ⟨aa.ak.cO,h,J⟩ J J
     ·rintro aC ⟨n12,h,rfl⟩
      unfold ed at h
      exact ab.stop<|aj.lq [0] ⟨aa.ak.Version.aN,aa.ak.Version.aO,aa.ak.Version.aM,n12,h,J⟩ J J
   ·rintro aC ⟨n8,n9,n10,n11,h,rfl⟩
    unfold ec at h
    refine ab.bY<|aE<|rA J J<|rN<|ab.ret<|?_
    obtain rfl:=h
    exact hH J [0] J ⟨J,J⟩
theorem rI [GI:bD] {aP:Bk} {kF:Bk} {cI:Nat→Bk} {o0:Nat→Nat→Bk} {db:Bk} {dc:Bk} {cX:Bk} {dj:Bk} {dm:Bk} {fT:Bk} {aa:an} {ai:MarkS} {r:an} (h:bN aa ai=some r):aF Tryz.prog 96 [.ptr aP 0,MarkS.av ai] [(aP,.cells [.cE [.str aa.c_.Key,I aa.c_.Target.aN,I aa.c_.Target.aO,I aa.c_.Target.aM,I aa.c_.At,oM aa.c_.aB,I aa.c_.bh.eU,I aa.c_.bh.To,I aa.c_.Room],.ct db,.ct dc,.sl 1 cX 0 aa.open_.length,.sl 1 dj 0 aa.bl.length,.sl 1 dm 0 aa.aR.length,.sl 1 fT 0 aa.aL.length,I aa.aT,I aa.cw]),(db,.mp (aa.oK.map (fun e=>(AV.str e.1,(pA cI) e.2)))),(dc,wN aa.dF),(cX,dV aa.open_),(dj,dV aa.bl),(dm,dV aa.aR),(fT,dV aa.aL),(kF,.bM (iR tf cI o0 aa.kO))] (T5 (fun sq sr su sv yc=>[(aP,.cells [.cE [.str aa.c_.Key,I aa.c_.Target.aN,I aa.c_.Target.aO,I aa.c_.Target.aM,I aa.c_.At,oM aa.c_.aB,I aa.c_.bh.eU,I aa.c_.bh.To,I aa.c_.Room],.ct db,.ct dc,.sl 1 sq 0 r.open_.length,.sl 1 sr 0 r.bl.length,.sl 1 su 0 r.aR.length,.sl 1 sv 0 r.aL.length,I r.aT,I r.cw]),(db,.mp (r.oK.map (fun e=>(AV.str e.1,(pA cI) e.2)))),(dc,wN r.dF),(sq,dV r.open_),(sr,dV r.bl),(su,dV r.aR),(sv,dV r.aL),(kF,.bM (iR tf cI yc r.kO))]) (fun sq sr su sv yc=>.kj [])):=by
 unfold bN at h
 refine aF.ia ?_
 refine aF.bC Tryz.func96 J Tryz.ntmps96 Tryz.results96 J J ?_
 refine aE<|gi J J J J fun b1=>rN<|tS<|ab.eh (id:=1) (A:=[0,1,3,7,0,16,63,127,255,255,511,2047]) 12 mixed J (by kernel_rfl) (by kernel_rfl)<|AM.qv (aA J) J<|AM.qv (ar J) J<|AM.qv (aG J J) J<|AM.qv (ba J J .p1 J) J<|AM.qv (aG J J) J<|AM.qv (ba J J .p0 J) J<|Qp h (fun e1 h=>?_) (fun n2 e1 h=>?_)
 ·refine AM.qv (Du (gk:=AV.str) (gv:=(pA cI)) (M:=aa.oK) (key:=ai.Device) J J .p2 J e1) J<|AM.qv (aA J) J<|AM.qv (oE J J) J<|AM.qv (oE J J) J<|AM.qv (ek J) J<|AM.qv (ek J) J<|AM.nil<|rN<|tS<|tS<|ab.cut (fun aC=>∃ (c3:Bool),gw aa ai c3=some r∧aC=⟨165,[(0,.ptr aP 0),(3,.ptr b1 0),(4,.raw (.pointer none)),(33,.bool c3)],[(aP,.cells [.cE [.str aa.c_.Key,I aa.c_.Target.aN,I aa.c_.Target.aO,I aa.c_.Target.aM,I aa.c_.At,oM aa.c_.aB,I aa.c_.bh.eU,I aa.c_.bh.To,I aa.c_.Room],.ct db,.ct dc,.sl 1 cX 0 aa.open_.length,.sl 1 dj 0 aa.bl.length,.sl 1 dm 0 aa.aR.length,.sl 1 fT 0 aa.aL.length,I aa.aT,I aa.cw]),(db,.mp (aa.oK.map (fun e=>(AV.str e.1,(pA cI) e.2)))),(kF,.bM (iR tf cI o0 aa.kO)),(dc,wN aa.dF),(cX,dV aa.open_),(dj,dV aa.bl),(dm,dV aa.aR),(fT,dV aa.aL),(b1,.cells (yK ai))]⟩) ?_ ?_
  ·refine ab.eh (id:=2) (A:=[0,1,3,7,15,7,39,103,231,487,999,2023,4095,8191]) 14 mixed J (by kernel_rfl) (by kernel_rfl)<|AM.qv (aA J) J<|AM.qv (cu J) J<|AM.qv (aA J) J<|AM.guard J J J (fun hc=>?_) (fun hc=>?_)
   ·rw [rq hc] at h
    exact AM.qv (aG J J) J<|AM.aq J J J<|AM.qv (ba J J .p0 J) J<|AM.aq J J J<|AM.qv (aA J) J<|AM.aq J J J<|AM.qv (ar J) J<|AM.aq J J J<|AM.qv (aG J J) J<|AM.aq J J J<|AM.qv (ba J J .p1 J) J<|AM.aq J J J<|AM.qv (bF J) J<|AM.aq J J J<|AM.qv (bu J J) J<|AM.aq J J J<|AM.qv (aX J J J) J<|AM.aq J J J<|AM.qv (bG J J) J<|AM.qv (fr J J) J<|AM.nil<|rN<|ab.stop<|aj.lq [1,1,6,1,1,1,1,1,0] ⟨decide (ai.At < aa.c_.At),h,J⟩ J J
   ·rw [rn hc] at h
    exact AM.ao J J J J<|AM.ao J J J J<|AM.ao J J J J<|AM.ao J J J J<|AM.ao J J J J<|AM.ao J J J J<|AM.ao J J J J<|AM.ao J J J J<|AM.ao J J J J<|AM.qv (gI J J) J<|AM.nil<|rN<|ab.stop<|aj.lq [1,1,6,1,1,1,1,1,0] ⟨true,h,J⟩ J J
  ·rintro aC ⟨c3,h,rfl⟩
   unfold gw at h
   refine cB h J (fun h=>?_) (fun h=>?_)
   ·refine ab.ret<|?_
    cases h
    exact aj.here ⟨_,.nil,_,.cons .p0 (.cons .p0 (.cons .p1 (.cons .p1 (.cons .p1 (.cons .p1 (.cons .p1 (.cons .p0 .nil))))))),⟨cX,dj,dm,fT,o0,J,J⟩⟩
   ·refine tK<|tS<|ab.eh (id:=3) (A:=[0,1,3,7,0,16,63,127]) 8 mixed J (by kernel_rfl) (by kernel_rfl)<|AM.qv (aA J) J<|AM.qv (ar J) J<|AM.qv (aG J J) J<|AM.qv (ba J J .p0 J) J<|AM.qv (aG J J) J<|AM.qv (ba J J (.next .p7) J) J<|aD h fun v4 e2 h=>AM.qv (xL (gk:=AV.str) (gv:=I) (M:=aa.dF) (key:=ai.Device) (Z:=(0:Int)) J J .p3 J J J e2 J) J<|AM.qv (ek J) J<|AM.nil<|rN<|aE<|rM J J<|rM J J<|?_
    cases h
 ·refine AM.qv (Dv (gk:=AV.str) (gv:=(pA cI)) (M:=aa.oK) (key:=ai.Device) J J .p2 e1) J<|AM.qv (aA J) J<|AM.qv (oE J J) J<|AM.qv (oE J J) J<|AM.qv (ek J) J<|AM.qv (ek J) J<|AM.nil<|rN<|tS<|tS<|ab.cut (fun aC=>∃ (c5:Bool),fb aa ai n2 c5=some r∧aC=⟨165,[(0,.ptr aP 0),(3,.ptr b1 0),(4,.ptr (cI n2.toNat) 0),(33,.bool c5)],[(aP,.cells [.cE [.str aa.c_.Key,I aa.c_.Target.aN,I aa.c_.Target.aO,I aa.c_.Target.aM,I aa.c_.At,oM aa.c_.aB,I aa.c_.bh.eU,I aa.c_.bh.To,I aa.c_.Room],.ct db,.ct dc,.sl 1 cX 0 aa.open_.length,.sl 1 dj 0 aa.bl.length,.sl 1 dm 0 aa.aR.length,.sl 1 fT 0 aa.aL.length,I aa.aT,I aa.cw]),(db,.mp (aa.oK.map (fun e=>(AV.str e.1,(pA cI) e.2)))),(kF,.bM (iR tf cI o0 aa.kO)),(dc,wN aa.dF),(cX,dV aa.open_),(dj,dV aa.bl),(dm,dV aa.aR),(fT,dV aa.aL),(b1,.cells (yK ai))]⟩) ?_ ?_
  ·refine ab.eh (id:=2) (A:=[0,1,3,7,15,7,39,103,231,487,999,2023,4095,8191]) 14 mixed J (by kernel_rfl) (by kernel_rfl)<|AM.qv (aA J) J<|AM.qv (cu J) J<|AM.qv (aA J) J<|AM.guard J J J (fun hc=>?_) (fun hc=>?_)
   ·rw [rq hc] at h
    exact AM.qv (aG J J) J<|AM.aq J J J<|AM.qv (ba J J .p0 J) J<|AM.aq J J J<|AM.qv (aA J) J<|AM.aq J J J<|AM.qv (ar J) J<|AM.aq J J J<|AM.qv (aG J J) J<|AM.aq J J J<|AM.qv (ba J J .p1 J) J<|AM.aq J J J<|AM.qv (bF J) J<|AM.aq J J J<|AM.qv (bu J J) J<|AM.aq J J J<|AM.qv (aX J J J) J<|AM.aq J J J<|AM.qv (bG J J) J<|AM.qv (fr J J) J<|AM.nil<|rN<|ab.stop<|aj.lq [1,1,6,1,1,1,1,1,0] ⟨decide (ai.At < aa.c_.At),h,J⟩ J J
   ·rw [rn hc] at h
    exact AM.ao J J J J<|AM.ao J J J J<|AM.ao J J J J<|AM.ao J J J J<|AM.ao J J J J<|AM.ao J J J J<|AM.ao J J J J<|AM.ao J J J J<|AM.ao J J J J<|AM.qv (gI J J) J<|AM.nil<|rN<|ab.stop<|aj.lq [1,1,6,1,1,1,1,1,0] ⟨true,h,J⟩ J J
  ·rintro aC ⟨c5,h,rfl⟩
   unfold fb at h
   refine cB h J (fun h=>?_) (fun h=>?_)
   ·refine ab.ret<|?_
    cases h
    exact aj.here ⟨_,.nil,_,.cons .p0 (.cons .p0 (.cons .p1 (.cons .p1 (.cons .p1 (.cons .p1 (.cons .p1 (.cons .p0 .nil))))))),⟨cX,dj,dm,fT,o0,J,J⟩⟩
   ·refine tK<|tS<|ab.eh (id:=3) (A:=[0,1,3,7,0,16,63,127]) 8 mixed J (by kernel_rfl) (by kernel_rfl)<|AM.qv (aA J) J<|AM.qv (ar J) J<|AM.qv (aG J J) J<|AM.qv (ba J J .p0 J) J<|AM.qv (aG J J) J<|AM.qv (ba J J (.next .p7) J) J<|aD h fun v6 e3 h=>AM.qv (xL (gk:=AV.str) (gv:=I) (M:=aa.dF) (key:=ai.Device) (Z:=(0:Int)) J J .p3 J J J e3 J) J<|AM.qv (ek J) J<|AM.nil<|rN<|tS<|ab.cut (fun aC=>∃ (c7:Bool),gz aa ai n2 v6 c7=some r∧aC=⟨165,[(0,.ptr aP 0),(3,.ptr b1 0),(4,.ptr (cI n2.toNat) 0),(6,I v6),(7,.bool c7)],[(aP,.cells [.cE [.str aa.c_.Key,I aa.c_.Target.aN,I aa.c_.Target.aO,I aa.c_.Target.aM,I aa.c_.At,oM aa.c_.aB,I aa.c_.bh.eU,I aa.c_.bh.To,I aa.c_.Room],.ct db,.ct dc,.sl 1 cX 0 aa.open_.length,.sl 1 dj 0 aa.bl.length,.sl 1 dm 0 aa.aR.length,.sl 1 fT 0 aa.aL.length,I aa.aT,I aa.cw]),(db,.mp (aa.oK.map (fun e=>(AV.str e.1,(pA cI) e.2)))),(kF,.bM (iR tf cI o0 aa.kO)),(dc,wN aa.dF),(cX,dV aa.open_),(dj,dV aa.bl),(dm,dV aa.aR),(fT,dV aa.aL),(b1,.cells (yK ai))]⟩) ?_ ?_
    ·refine tR<|rM J J<|rM J J<|aD h fun v8 e4 h=>gh J (gA J) (.cons (.wJ _ _ _ .p0 (.cons (.co (.refl _)) (.cons (.co (.refl _)) (.cons (.co (.refl _)) (.cons (ln.kL .p4) (.cons (ln.kL .p5) (.cons (ln.kL .p6) (.cons (ln.kL .p7) (.cons (.co (.refl _)) (.cons (.co (.refl _)) .nil)))))))))) (.cons (ln.B6 (bp:=kF) (kb:=tf) (bs:=o0) (M:=aa.kO) Ou e4 .p2) .nil)) J J<|rM J J<|ae.guard J J J (fun hc=>?_) (fun hc=>?_)
     ·rw [rq hc] at h
      exact rM J J<|rY J J J<|rM J J<|rY J J J<|gh J (nL J) (.cons (.wJ _ _ _ .p0 (.cons (.co (.refl _)) (.cons (.co (.refl _)) (.cons (.co (.refl _)) (.cons (ln.kL .p4) (.cons (ln.kL .p5) (.cons (ln.kL .p6) (.cons (ln.kL .p7) (.cons (.co (.refl _)) (.cons (.co (.refl _)) .nil)))))))))) (.cons (ln.B6 (bp:=kF) (kb:=tf) (bs:=o0) (M:=aa.kO) Ou e4 .p2) .nil)) J J<|rE J J J<|rA J J<|rN<|ab.stop<|aj.lq [0,0,0,0,0,0,0,0,0] ⟨(cT aa v8),h,J⟩ J J
     ·rw [rn hc] at h
      exact rG J J J J<|rG J J J J<|rT J J J<|rA J J<|rN<|ab.stop<|aj.lq [0,0,0,0,0,0,0,0,0] ⟨true,h,J⟩ J J
    ·rintro aC ⟨c7,h,rfl⟩
     unfold gz at h
     refine tS<|aE<|rM J J<|ae.qv (aW J J (.next .p7) J) J<|aD h fun v9 e5 h=>ae.ghost<|aj.Hw (kb:=tf) e5 .p2 J<|aj.here<|aZ J (pM J) cR (.cons .p0 .nil) J J<|ae.qv (cu J) J<|ae.ghost<|aj.JE (kb:=tf) (v':=((az v9 ai).2)) (s:=R6 []) e5 (.cons .p0 .nil) J (fun _=>.p2) fun wO=>aj.here<|rN<|cB h J (fun h=>?_) (fun h=>?_)
     ·refine ab.ret<|?_
      cases h
      exact aj.here ⟨_,.nil,_,.cons .p0 (.cons .p0 (.cons .p1 (.cons .p1 (.cons .p1 (.cons .p1 (.cons .p1 (.cons .p0 .nil))))))),⟨cX,dj,dm,fT,wO,J,J⟩⟩
     ·refine tK<|tS<|tS<|ab.cut (fun aC=>∃ (DC:Bool),gy aa ai n2 v6 c7 v9 DC=some r∧aC=⟨165,[(0,.ptr aP 0),(3,.ptr b1 0),(6,I v6),(7,.bool c7),(8,.bool DC)],[(aP,.cells [.cE [.str aa.c_.Key,I aa.c_.Target.aN,I aa.c_.Target.aO,I aa.c_.Target.aM,I aa.c_.At,oM aa.c_.aB,I aa.c_.bh.eU,I aa.c_.bh.To,I aa.c_.Room],.ct db,.ct dc,.sl 1 cX 0 aa.open_.length,.sl 1 dj 0 aa.bl.length,.sl 1 dm 0 aa.aR.length,.sl 1 fT 0 aa.aL.length,I aa.aT,I aa.cw]),(db,.mp (aa.oK.map (fun e=>(AV.str e.1,(pA cI) e.2)))),(kF,.bM (iR tf cI wO (aa.kO.set n2.toNat ((az v9 ai).2)))),(dc,wN aa.dF),(cX,dV aa.open_),(dj,dV aa.bl),(dm,dV aa.aR),(fT,dV aa.aL),(b1,.cells (yK ai))]⟩) ?_ ?_
      ·refine tR<|rM J J<|rM J J<|gh J (gA (J:bI (⟨aa.c_,aa.oK,aa.dF,aa.open_,aa.bl,aa.aR,aa.aL,aa.aT,aa.cw,aa.kO.set n2.toNat ((az v9 ai).2)⟩:an) ((az v9 ai).2)=_)) (.cons (.wJ _ _ _ .p0 (.cons (.co (.refl _)) (.cons (.co (.refl _)) (.cons (.co (.refl _)) (.cons (ln.kL .p4) (.cons (ln.kL .p5) (.cons (ln.kL .p6) (.cons (ln.kL .p7) (.cons (.co (.refl _)) (.cons (.co (.refl _)) .nil)))))))))) (.cons (ln.B6 (bp:=kF) (kb:=tf) (bs:=wO) (M:=(aa.kO.set n2.toNat ((az v9 ai).2))) Ou (lW (v:=((az v9 ai).2)) e5) .p2) .nil)) J J<|rM J J<|ae.guard J J J (fun hc=>?_) (fun hc=>?_)
       ·rw [rq hc] at h
        exact rM J J<|rY J J J<|rM J J<|rY J J J<|gh J (nL (J:cT (⟨aa.c_,aa.oK,aa.dF,aa.open_,aa.bl,aa.aR,aa.aL,aa.aT,aa.cw,aa.kO.set n2.toNat ((az v9 ai).2)⟩:an) ((az v9 ai).2)=_)) (.cons (.wJ _ _ _ .p0 (.cons (.co (.refl _)) (.cons (.co (.refl _)) (.cons (.co (.refl _)) (.cons (ln.kL .p4) (.cons (ln.kL .p5) (.cons (ln.kL .p6) (.cons (ln.kL .p7) (.cons (.co (.refl _)) (.cons (.co (.refl _)) .nil)))))))))) (.cons (ln.B6 (bp:=kF) (kb:=tf) (bs:=wO) (M:=(aa.kO.set n2.toNat ((az v9 ai).2))) Ou (lW (v:=((az v9 ai).2)) e5) .p2) .nil)) J J<|rE J J J<|rA J J<|rN<|ab.stop<|aj.lq [0,0,0,0,0,0,0,0,0] ⟨(cT (⟨aa.c_,aa.oK,aa.dF,aa.open_,aa.bl,aa.aR,aa.aL,aa.aT,aa.cw,aa.kO.set n2.toNat ((az v9 ai).2)⟩:an) ((az v9 ai).2)),h,J⟩ J J
       ·rw [rn hc] at h
        exact rG J J J J<|rG J J J J<|rT J J J<|rA J J<|rN<|ab.stop<|aj.lq [0,0,0,0,0,0,0,0,0] ⟨true,h,J⟩ J J
      ·rintro aC ⟨DC,h,rfl⟩
       unfold gy at h
       refine aE<|rM J J<|rM J J<|ae.qv (Nl J J) J<|rN<|ab.cut (fun aC=>∃ (lR:List Int),dS aa ai n2 v6 v9 lR=some r∧aC=⟨165,[(0,.ptr aP 0),(3,.ptr b1 0),(6,I v6)],[(aP,.cells [.cE [.str aa.c_.Key,I aa.c_.Target.aN,I aa.c_.Target.aO,I aa.c_.Target.aM,I aa.c_.At,oM aa.c_.aB,I aa.c_.bh.eU,I aa.c_.bh.To,I aa.c_.Room],.ct db,.ct dc,.sl 1 cX 0 lR.length,.sl 1 dj 0 aa.bl.length,.sl 1 dm 0 aa.aR.length,.sl 1 fT 0 aa.aL.length,I aa.aT,I aa.cw]),(db,.mp (aa.oK.map (fun e=>(AV.str e.1,(pA cI) e.2)))),(kF,.bM (iR tf cI wO (aa.kO.set n2.toNat ((az v9 ai).2)))),(dc,wN aa.dF),(cX,dV lR),(dj,dV aa.bl),(dm,dV aa.aR),(fT,dV aa.aL),(b1,.cells (yK ai))]⟩) ?_ ?_
       ·refine cB h J (fun h=>?_) (fun h=>?_)
        ·refine aE<|rM J J<|rN<|ab.cut (fun aC=>∃ (lH:List Int),eZ aa ai n2 v6 v9 lH=some r∧aC=⟨165,[(0,.ptr aP 0),(3,.ptr b1 0),(6,I v6)],[(aP,.cells [.cE [.str aa.c_.Key,I aa.c_.Target.aN,I aa.c_.Target.aO,I aa.c_.Target.aM,I aa.c_.At,oM aa.c_.aB,I aa.c_.bh.eU,I aa.c_.bh.To,I aa.c_.Room],.ct db,.ct dc,.sl 1 cX 0 lH.length,.sl 1 dj 0 aa.bl.length,.sl 1 dm 0 aa.aR.length,.sl 1 fT 0 aa.aL.length,I aa.aT,I aa.cw]),(db,.mp (aa.oK.map (fun e=>(AV.str e.1,(pA cI) e.2)))),(kF,.bM (iR tf cI wO (aa.kO.set n2.toNat ((az v9 ai).2)))),(dc,wN aa.dF),(cX,dV lH),(dj,dV aa.bl),(dm,dV aa.aR),(fT,dV aa.aL),(b1,.cells (yK ai))]⟩) ?_ ?_
         ·refine cB h J (fun h=>?_) (fun h=>?_)
          ·exact tR<|rM J J<|ae.qv (ar J) J<|rF J J J<|rL J J .p0 J J<|rM J J<|aD h fun kJ e6 h=>ae.qv (aQ J J J e6) J<|ae.qv (cN (g:=I) J J (.inl .p4) e6 J) J<|ae.qv (cF J J) J<|aD h fun ig e7 h=>ae.qv (aQ J J J e7) J<|bQ (g:=I) (vv:=aJ (kJ - (1:Int))) J J J J e7 J .p4 J<|ae.ghost<|aj.eqs (s:=68) (ep:=.sl 1 cX 0 (aa.open_.set v6.toNat (aJ (kJ - (1:Int)))).length) J (by rw [List.length_set])<|aj.here<|ae.ghost<|aj.BI (j:=3) (ep:=.sl 1 cX 0 (aa.open_.set v6.toNat (aJ (kJ - (1:Int)))).length) .p0 J (by rw [List.length_set]) J<|aj.here<|rN<|ab.stop<|aj.lq [0,0,0,0,0,0,0,0,0] ⟨aa.open_.set v6.toNat (aJ (kJ - (1:Int))),h,J⟩ J J
          ·exact tR<|rM J J<|ae.qv (ar J) J<|rF J J J<|rL J J .p0 J J<|rM J J<|aD h fun uo e8 h=>ae.qv (aQ J J J e8) J<|ae.qv (cN (g:=I) J J (.inl .p4) e8 J) J<|ae.qv (bc J J) J<|aD h fun v17 e9 h=>ae.qv (aQ J J J e9) J<|bQ (g:=I) (vv:=aJ (uo+(1:Int))) J J J J e9 J .p4 J<|ae.ghost<|aj.eqs (s:=77) (ep:=.sl 1 cX 0 (aa.open_.set v6.toNat (aJ (uo+(1:Int)))).length) J (by rw [List.length_set])<|aj.here<|ae.ghost<|aj.BI (j:=3) (ep:=.sl 1 cX 0 (aa.open_.set v6.toNat (aJ (uo+(1:Int)))).length) .p0 J (by rw [List.length_set]) J<|aj.here<|rN<|ab.stop<|aj.lq [0,0,0,0,0,0,0,0,0] ⟨aa.open_.set v6.toNat (aJ (uo+(1:Int))),h,J⟩ J J
         ·rintro aC ⟨lH,h,rfl⟩
          unfold eZ at h
          exact ab.stop<|aj.lq [0,0,0,0,0,0,0,0,0] ⟨lH,h,J⟩ J J
        ·exact tK<|ab.stop<|aj.lq [0,0,0,0,0,0,0,0,0] ⟨aa.open_,h,J⟩ J J
       ·rintro aC ⟨lR,h,rfl⟩
        unfold dS at h
        refine tS<|tS<|ab.cut (fun aC=>∃ (Ol:Bool),gx aa ai n2 v6 v9 lR Ol=some r∧aC=⟨165,[(0,.ptr aP 0),(3,.ptr b1 0),(6,I v6),(90,.bool Ol)],[(aP,.cells [.cE [.str aa.c_.Key,I aa.c_.Target.aN,I aa.c_.Target.aO,I aa.c_.Target.aM,I aa.c_.At,oM aa.c_.aB,I aa.c_.bh.eU,I aa.c_.bh.To,I aa.c_.Room],.ct db,.ct dc,.sl 1 cX 0 lR.length,.sl 1 dj 0 aa.bl.length,.sl 1 dm 0 aa.aR.length,.sl 1 fT 0 aa.aL.length,I aa.aT,I aa.cw]),(db,.mp (aa.oK.map (fun e=>(AV.str e.1,(pA cI) e.2)))),(kF,.bM (iR tf cI wO (aa.kO.set n2.toNat ((az v9 ai).2)))),(dc,wN aa.dF),(cX,dV lR),(dj,dV aa.bl),(dm,dV aa.aR),(fT,dV aa.aL),(b1,.cells (yK ai))]⟩) ?_ ?_
        ·refine tR<|rF J J J<|rL J J (.next .p7) J J<|ae.qv (kT J J) J<|rM J J<|ae.cy J J J (fun hc=>?_) (fun hc=>?_)
         ·rw [om hc] at h
          exact rF J J J<|rY J J J<|rL J J (.next .p7) J J<|rY J J J<|ae.qv (kT J J) J<|rT J J J<|rN<|ab.stop<|aj.lq [0,0,0,0,0,0,0,0,0] ⟨decide (ai.Kind≠(4:Int)),h,J⟩ J J
         ·rw [oo hc] at h
          exact rG J J J J<|rG J J J J<|rE J J J<|rN<|ab.stop<|aj.lq [0,0,0,0,0,0,0,0,0] ⟨false,h,J⟩ J J
        ·rintro aC ⟨Ol,h,rfl⟩
         unfold gx at h
         refine cB h J (fun h=>?_) (fun h=>?_)
         ·refine ab.ret<|?_
          cases h
          exact aj.here ⟨_,.nil,_,.cons .p0 (.cons .p0 (.cons .p1 (.cons .p1 (.cons .p1 (.cons .p1 (.cons .p1 (.cons .p0 .nil))))))),⟨cX,dj,dm,fT,wO,J,J⟩⟩
         ·refine tK<|aE<|rM J J<|ae.qv (ar J) J<|rF J J J<|rL J J .p0 J J<|rM J J<|aD h fun nO AF h=>ae.qv (aQ J J J AF) J<|ae.qv (cN (g:=I) J J (.inl .p5) AF J) J<|ae.qv (bc J J) J<|aD h fun v20 AG h=>ae.qv (aQ J J J AG) J<|bQ (g:=I) (vv:=aJ (nO+(1:Int))) J J J J AG J .p5 J<|ae.ghost<|aj.eqs (s:=94) (ep:=.sl 1 dj 0 (aa.bl.set v6.toNat (aJ (nO+(1:Int)))).length) J (by rw [List.length_set])<|aj.here<|ae.ghost<|aj.BI (j:=4) (ep:=.sl 1 dj 0 (aa.bl.set v6.toNat (aJ (nO+(1:Int)))).length) .p0 J (by rw [List.length_set]) J<|aj.here<|rN<|tS<|aE<|rF J J J<|rL J J (.next .p7) J J<|ae.qv (cC J J) J<|rN<|ab.cut (fun aC=>∃ (qz:List Int),dR aa ai n2 v6 v9 lR nO qz=some r∧aC=⟨165,[(0,.ptr aP 0),(3,.ptr b1 0),(6,I v6)],[(aP,.cells [.cE [.str aa.c_.Key,I aa.c_.Target.aN,I aa.c_.Target.aO,I aa.c_.Target.aM,I aa.c_.At,oM aa.c_.aB,I aa.c_.bh.eU,I aa.c_.bh.To,I aa.c_.Room],.ct db,.ct dc,.sl 1 cX 0 lR.length,.sl 1 dj 0 (aa.bl.set v6.toNat (aJ (nO+(1:Int)))).length,.sl 1 dm 0 qz.length,.sl 1 fT 0 aa.aL.length,I aa.aT,I aa.cw]),(db,.mp (aa.oK.map (fun e=>(AV.str e.1,(pA cI) e.2)))),(kF,.bM (iR tf cI wO (aa.kO.set n2.toNat ((az v9 ai).2)))),(dc,wN aa.dF),(cX,dV lR),(dj,dV (aa.bl.set v6.toNat (aJ (nO+(1:Int))))),(dm,dV qz),(fT,dV aa.aL),(b1,.cells (yK ai))]⟩) ?_ ?_
          ·refine cD h J (fun h=>?_) (fun h=>?_)
           ·exact tR<|rM J J<|ae.qv (ar J) J<|rF J J J<|rL J J .p0 J J<|rM J J<|aD h fun v22 C1 h=>ae.qv (aQ J J J C1) J<|ae.qv (cN (g:=I) J J (.inl .p6) C1 J) J<|ae.qv (bc J J) J<|aD h fun v23 FF h=>ae.qv (aQ J J J FF) J<|bQ (g:=I) (vv:=aJ (v22+(1:Int))) J J J J FF J .p6 J<|ae.ghost<|aj.eqs (s:=106) (ep:=.sl 1 dm 0 (aa.aR.set v6.toNat (aJ (v22+(1:Int)))).length) J (by rw [List.length_set])<|aj.here<|ae.ghost<|aj.BI (j:=5) (ep:=.sl 1 dm 0 (aa.aR.set v6.toNat (aJ (v22+(1:Int)))).length) .p0 J (by rw [List.length_set]) J<|aj.here<|rN<|ab.stop<|aj.lq [0,0,0,0,0,0,0,0,0] ⟨aa.aR.set v6.toNat (aJ (v22+(1:Int))),h,J⟩ J J
           ·exact tK<|ab.stop<|aj.lq [0,0,0,0,0,0,0,0,0] ⟨aa.aR,h,J⟩ J J
          ·rintro aC ⟨qz,h,rfl⟩
           unfold dR at h
           refine aE<|rM J J<|ae.qv (ar J) J<|rF J J J<|rL J J .p0 J J<|ae.qv (bF J) J<|ae.qv (bu J J) J<|ae.qv (aX J J J) J<|rM J J<|aD h fun v24 Gi h=>ae.qv (bO J J J Gi J J) J<|ae.qv (bt J J J) J<|ca J J J J fun Ck=>ay J J J J .p0 J J<|rN<|tS<|ab.cut (fun aC=>∃ (Oj:Bool),cU aa ai n2 v6 v9 lR nO qz Oj=some r∧aC=⟨165,[(0,.ptr aP 0),(3,.ptr b1 0),(159,.bool Oj)],[(aP,.cells [.cE [.str aa.c_.Key,I aa.c_.Target.aN,I aa.c_.Target.aO,I aa.c_.Target.aM,I aa.c_.At,oM aa.c_.aB,I aa.c_.bh.eU,I aa.c_.bh.To,I aa.c_.Room],.ct db,.ct dc,.sl 1 cX 0 lR.length,.sl 1 dj 0 (aa.bl.set v6.toNat (aJ (nO+(1:Int)))).length,.sl 1 dm 0 qz.length,.sl 1 fT 0 aa.aL.length,I aa.aT,I aa.cw]),(db,.mp (aa.oK.map (fun e=>(AV.str e.1,(pA cI) e.2)))),(kF,.bM (iR tf cI wO (aa.kO.set n2.toNat ((az v9 ai).2)))),(dc,wN aa.dF),(cX,dV lR),(dj,dV (aa.bl.set v6.toNat (aJ (nO+(1:Int))))),(dm,dV qz),(fT,dV aa.aL),(b1,.cells (yK ai))]⟩) ?_ ?_
           ·refine ab.eh (id:=16) (A:=[0,1,3,7,15,31,63,127,255,511,63,2047,4095,63,8255,32767,65535,131071,262143,524287,1048575,2097151,262143,8388607,16777215,33554431,262143,67371007,262143,268697599,805568511,1879310335,262143,8321761279,16911695871,34292891647,68719476735,137438953471]) 38 mixed J (by kernel_rfl) (by kernel_rfl)<|AM.qv (aA J) J<|AM.qv (ar J) J<|AM.qv (aG J J) J<|AM.qv (ba J J .p1 J) J<|AM.qv (bG J J) J<|AM.qv (aA J) J<|AM.cy J J J (fun hc=>?_) (fun hc=>?_)
            ·refine have h:=rm hc h;AM.qv (aA J) J<|AM.aq J J J<|AM.qv (ar J) J<|AM.aq J J J<|AM.qv (aG J J) J<|AM.aq J J J<|AM.qv (ba J J .p1 J) J<|AM.aq J J J<|AM.qv (aA J) J<|AM.aq J J J<|aD h fun kS JO h=>AM.qv (aQ J J J JO) J<|AM.aq J J J<|AM.qv (cN (g:=I) J J (.inl .p6) JO J) J<|AM.aq J J J<|AM.qv (aG J J) J<|AM.aq J J J<|AM.qv (ba J J .p0 J) J<|AM.aq J J J<|AM.qv (oe J J) J<|AM.qv (gI J J) J<|AM.qv (aA J) J<|AM.cy J J J (fun hc=>?_) (fun hc=>?_)
             ·exact have h:=rm hc h;AM.qv (aA J) J<|AM.aq J J J<|AM.qv (ar J) J<|AM.aq J J J<|AM.qv (aG J J) J<|AM.aq J J J<|AM.qv (ba J J .p1 J) J<|AM.aq J J J<|AM.qv (aA J) J<|AM.aq J J J<|aD h fun v28 JP h=>AM.qv (aQ J J J JP) J<|AM.aq J J J<|AM.qv (cN (g:=I) J J (.inl .p7) JP J) J<|AM.aq J J J<|AM.qv (nR J J) J<|AM.aq J J J<|AM.qv (aG J J) J<|AM.aq J J J<|AM.qv (ba J J .p0 J) J<|AM.aq J J J<|AM.qv (aA J) J<|AM.aq J J J<|AM.qv (ar J) J<|AM.aq J J J<|AM.qv (aG J J) J<|AM.aq J J J<|AM.qv (ba J J .p1 J) J<|AM.aq J J J<|AM.qv (aA J) J<|AM.aq J J J<|aD h fun pH KS h=>AM.qv (aQ J J J KS) J<|AM.aq J J J<|AM.qv (cN (g:=I) J J (.inl .p6) KS J) J<|AM.aq J J J<|AM.qv (nR J J) J<|AM.aq J J J<|AM.qv (fL J J) J<|AM.qv (gI J J) J<|AM.nil<|rN<|ab.stop<|aj.lq [1,1,1,1,1,1,1,1,1] ⟨decide ((aJ (v24.cO * pH)) < (aJ ((1000:Int) * v28))),h,J⟩ J J
             ·exact have h:=yQ hc h;AM.ao J J J J<|AM.ao J J J J<|AM.ao J J J J<|AM.ao J J J J<|AM.ao J J J J<|AM.ao J J J J<|AM.ao J J J J<|AM.ao J J J J<|AM.ao J J J J<|AM.ao J J J J<|AM.ao J J J J<|AM.ao J J J J<|AM.ao J J J J<|AM.ao J J J J<|AM.ao J J J J<|AM.ao J J J J<|AM.ao J J J J<|AM.ao J J J J<|AM.qv (fr J J) J<|AM.nil<|rN<|ab.stop<|aj.lq [1,1,1,1,1,1,1,1,1] ⟨false,h,J⟩ J J
            ·exact have h:=yQ hc h;AM.ao J J J J<|AM.ao J J J J<|AM.ao J J J J<|AM.ao J J J J<|AM.ao J J J J<|AM.ao J J J J<|AM.ao J J J J<|AM.ao J J J J<|AM.ao J J J J<|AM.qv (fr J J) J<|AM.qv (aA J) J<|AM.ao J J J J<|AM.ao J J J J<|AM.ao J J J J<|AM.ao J J J J<|AM.ao J J J J<|AM.ao J J J J<|AM.ao J J J J<|AM.ao J J J J<|AM.ao J J J J<|AM.ao J J J J<|AM.ao J J J J<|AM.ao J J J J<|AM.ao J J J J<|AM.ao J J J J<|AM.ao J J J J<|AM.ao J J J J<|AM.ao J J J J<|AM.ao J J J J<|AM.ao J J J J<|AM.qv (fr J J) J<|AM.nil<|rN<|ab.stop<|aj.lq [1,1,1,1,1,1,1,1,1] ⟨false,h,J⟩ J J
           ·rintro aC ⟨Oj,h,rfl⟩
            unfold cU at h
            refine ab.cut (fun aC=>∃ (n30:Int),eO aa ai n2 v6 v9 lR nO qz n30=some r∧aC=⟨165,[],[(aP,.cells [.cE [.str aa.c_.Key,I aa.c_.Target.aN,I aa.c_.Target.aO,I aa.c_.Target.aM,I aa.c_.At,oM aa.c_.aB,I aa.c_.bh.eU,I aa.c_.bh.To,I aa.c_.Room],.ct db,.ct dc,.sl 1 cX 0 lR.length,.sl 1 dj 0 (aa.bl.set v6.toNat (aJ (nO+(1:Int)))).length,.sl 1 dm 0 qz.length,.sl 1 fT 0 aa.aL.length,I n30,I aa.cw]),(db,.mp (aa.oK.map (fun e=>(AV.str e.1,(pA cI) e.2)))),(kF,.bM (iR tf cI wO (aa.kO.set n2.toNat ((az v9 ai).2)))),(dc,wN aa.dF),(cX,dV lR),(dj,dV (aa.bl.set v6.toNat (aJ (nO+(1:Int))))),(dm,dV qz),(fT,dV aa.aL)]⟩) ?_ ?_
            ·refine cB h J (fun h=>?_) (fun h=>?_)
             ·exact tR<|rM J J<|rF J J J<|rL J J (.next .p7) J J<|ae.qv (ar J) J<|rF J J J<|ay J J J J .p0 J J<|rN<|ab.stop<|aj.lq [0,0,0,0,0,0,0,0] ⟨ai.At,h,J⟩ J J
             ·exact tK<|ab.stop<|aj.lq [0,0,0,0,0,0,0,0] ⟨aa.aT,h,J⟩ J J
            ·rintro aC ⟨n30,h,rfl⟩
             unfold eO at h
             refine ab.nil<|?_
             cases h
             exact aj.here ⟨_,.nil,_,.cons .p0 (.cons .p0 (.cons .p1 (.cons .p1 (.cons .p1 (.cons .p1 (.cons .p1 (.cons .p0 .nil))))))),⟨cX,dj,dm,fT,wO,J,J⟩⟩
theorem mu [GI:bD] {aP:Bk} {kF:Bk} {cI:Nat→Bk} {o0:Nat→Nat→Bk} {db:Bk} {dc:Bk} {cX:Bk} {dj:Bk} {dm:Bk} {fT:Bk} {aa:an} {ai:List MarkS} {au:Int} {r:an} (h:dD aa ai au=some r):aF Tryz.prog 53 [.ptr aP 0,o8 ai,I au] [(aP,.cells [.cE [.str aa.c_.Key,I aa.c_.Target.aN,I aa.c_.Target.aO,I aa.c_.Target.aM,I aa.c_.At,oM aa.c_.aB,I aa.c_.bh.eU,I aa.c_.bh.To,I aa.c_.Room],.ct db,.ct dc,.sl 1 cX 0 aa.open_.length,.sl 1 dj 0 aa.bl.length,.sl 1 dm 0 aa.aR.length,.sl 1 fT 0 aa.aL.length,I aa.aT,I aa.cw]),(db,.mp (aa.oK.map (fun e=>(AV.str e.1,(pA cI) e.2)))),(dc,wN aa.dF),(cX,dV aa.open_),(dj,dV aa.bl),(dm,dV aa.aR),(fT,dV aa.aL),(kF,.bM (iR tf cI o0 aa.kO))] (T5 (fun sq sr su sv yc=>[(aP,.cells [.cE [.str aa.c_.Key,I aa.c_.Target.aN,I aa.c_.Target.aO,I aa.c_.Target.aM,I aa.c_.At,oM aa.c_.aB,I aa.c_.bh.eU,I aa.c_.bh.To,I aa.c_.Room],.ct db,.ct dc,.sl 1 sq 0 r.open_.length,.sl 1 sr 0 r.bl.length,.sl 1 su 0 r.aR.length,.sl 1 sv 0 r.aL.length,I r.aT,I r.cw]),(db,.mp (r.oK.map (fun e=>(AV.str e.1,(pA cI) e.2)))),(dc,wN r.dF),(sq,dV r.open_),(sr,dV r.bl),(su,dV r.aR),(sv,dV r.aL),(kF,.bM (iR tf cI yc r.kO))]) (fun sq sr su sv yc=>.kj [])):=by
 unfold dD at h
 refine aF.ia ?_
 refine aF.bC Tryz.func53 J Tryz.ntmps53 Tryz.results53 J J ?_
 refine tS<|aE<|rA J J<|rN<|ab.block<|ab.cM (fun x:(List (bq×Int))×(List al)×(List (bq×Int))×(List Int)×(List Int)×(List Int)×(List Int)×Int×Int×Int=>dt aa ai au x.1 x.2.1 x.2.2.1 x.2.2.2.1 x.2.2.2.2.1 x.2.2.2.2.2.1 x.2.2.2.2.2.2.1 x.2.2.2.2.2.2.2.1 x.2.2.2.2.2.2.2.2.1 x.2.2.2.2.2.2.2.2.2) (fun x aC=>∃ (HO:Nat→Nat→Bk) (L4:Bk) (KV:Bk) (tx:Bk) (vG:Bk),aC=⟨57,[(0,.ptr aP 0),(1,o8 ai),(2,I au),(6,I x.2.2.2.2.2.2.2.2.2)],[(aP,.cells [.cE [.str aa.c_.Key,I aa.c_.Target.aN,I aa.c_.Target.aO,I aa.c_.Target.aM,I aa.c_.At,oM aa.c_.aB,I aa.c_.bh.eU,I aa.c_.bh.To,I aa.c_.Room],.ct db,.ct dc,.sl 1 L4 0 x.2.2.2.1.length,.sl 1 KV 0 x.2.2.2.2.1.length,.sl 1 tx 0 x.2.2.2.2.2.1.length,.sl 1 vG 0 x.2.2.2.2.2.2.1.length,I x.2.2.2.2.2.2.2.1,I x.2.2.2.2.2.2.2.2.1]),(db,.mp (x.1.map (fun e=>(AV.str e.1,(pA cI) e.2)))),(kF,.bM (iR tf cI HO x.2.1)),(dc,wN x.2.2.1),(L4,dV x.2.2.2.1),(KV,dV x.2.2.2.2.1),(tx,dV x.2.2.2.2.2.1),(vG,dV x.2.2.2.2.2.2.1)]⟩) h ?_ ?_
 ·exact aj.lq [0,0,5,0,0,0,0,0] ⟨o0,cX,dj,dm,fT,J⟩ J J
 ·intro x z1 aC J1 fy h jt fj
  obtain ⟨qa,tw,yJ,qz,pk,pn,vl,n28,n29,n30⟩:=x
  obtain ⟨HO,L4,KV,tx,vG,rfl⟩:=fy
  replace h:dt aa ai au qa tw yJ qz pk pn vl n28 n29 n30=some z1:=h
  unfold dt at h
  refine tS<|tS<|ab.cut (fun aC=>∃ (c31:Bool),cH aa ai au qa tw yJ qz pk pn vl n28 n29 n30 c31=some z1∧aC=⟨57,[(0,.ptr aP 0),(1,o8 ai),(2,I au),(6,I n30),(20,.bool c31)],[(aP,.cells [.cE [.str aa.c_.Key,I aa.c_.Target.aN,I aa.c_.Target.aO,I aa.c_.Target.aM,I aa.c_.At,oM aa.c_.aB,I aa.c_.bh.eU,I aa.c_.bh.To,I aa.c_.Room],.ct db,.ct dc,.sl 1 L4 0 qz.length,.sl 1 KV 0 pk.length,.sl 1 tx 0 pn.length,.sl 1 vG 0 vl.length,I n28,I n29]),(db,.mp (qa.map (fun e=>(AV.str e.1,(pA cI) e.2)))),(kF,.bM (iR tf cI HO tw)),(dc,wN yJ),(L4,dV qz),(KV,dV pk),(tx,dV pn),(vG,dV vl)]⟩) ?_ ?_
  ·refine tR<|rM J J<|rM J J<|ae.qv (cV J) J<|ae.qv (bG J J) J<|rM J J<|gT h J J J (fun h=>?_) (fun h=>?_)
   ·exact rM J J<|rY J J J<|rM J J<|rY J J J<|aD h fun v32 e1 h=>ae.qv (bO J J J e1 J J) J<|rY J J J<|ae.qv (bu J J) J<|rY J J J<|ae.qv (aX J J J) J<|rY J J J<|rM J J<|rY J J J<|ae.qv (tq J J) J<|rT J J J<|rN<|ab.stop<|aj.lq [0,0,0,0,0,0,0,0] ⟨decide (v32.At≤au),h,J⟩ J J
   ·exact rG J J J J<|rG J J J J<|rG J J J J<|rG J J J J<|rG J J J J<|rG J J J J<|rE J J J<|rN<|ab.stop<|aj.lq [0,0,0,0,0,0,0,0] ⟨false,h,J⟩ J J
  ·rintro aC ⟨c31,h,rfl⟩
   unfold cH at h
   refine cB h J (fun h=>?_) (fun h=>?_)
   ·refine tK<|ab.block<|aE<|rM J J<|rM J J<|aD h fun v33 e2 h=>ae.qv (bO J J J e2 J J) J<|ae.qv (bu J J) J<|ae.qv (aX J J J) J<|rA J J<|rN<|aE<|rM J J<|rM J J<|ae.qv (cF J J) J<|aD h fun Ch e3 h=>Au J (ju e3) cR (.cons .p0 (.cons .p3 (.cons .p3 (.cons .p3 (.cons .p3 .nil))))) (fun _ _ _ _=>J) J fun XR IM XS M5=>rN<|tS<|ab.block<|ab.cM (fun x:(List (bq×Int))×(List al)×(List (bq×Int))×(List Int)×(List Int)×(List Int)×(List Int)×Int×Int×Int=>eP aa ai v33 x.1 x.2.1 x.2.2.1 x.2.2.2.1 x.2.2.2.2.1 x.2.2.2.2.2.1 x.2.2.2.2.2.2.1 x.2.2.2.2.2.2.2.1 x.2.2.2.2.2.2.2.2.1 x.2.2.2.2.2.2.2.2.2) (fun x aC=>∃ (JS:Nat→Nat→Bk) (OA:Bk) (OB:Bk) (OC:Bk) (OD:Bk),aC=⟨57,[(0,.ptr aP 0),(1,o8 ai),(2,I au),(6,I x.2.2.2.2.2.2.2.2.2),(7,I v33.At)],[(aP,.cells [.cE [.str aa.c_.Key,I aa.c_.Target.aN,I aa.c_.Target.aO,I aa.c_.Target.aM,I aa.c_.At,oM aa.c_.aB,I aa.c_.bh.eU,I aa.c_.bh.To,I aa.c_.Room],.ct db,.ct dc,.sl 1 OA 0 x.2.2.2.1.length,.sl 1 OB 0 x.2.2.2.2.1.length,.sl 1 OC 0 x.2.2.2.2.2.1.length,.sl 1 OD 0 x.2.2.2.2.2.2.1.length,I x.2.2.2.2.2.2.2.1,I x.2.2.2.2.2.2.2.2.1]),(db,.mp (x.1.map (fun e=>(AV.str e.1,(pA cI) e.2)))),(kF,.bM (iR tf cI JS x.2.1)),(dc,wN x.2.2.1),(OA,dV x.2.2.2.1),(OB,dV x.2.2.2.2.1),(OC,dV x.2.2.2.2.2.1),(OD,dV x.2.2.2.2.2.2.1)]⟩) h ?_ ?_
    ·exact aj.lq [0,4,4,4,0,0,0,0] ⟨HO,XR,IM,XS,M5,J⟩ J J
    ·intro x z2 aC J2 fy h Cm Bh
     obtain ⟨Et,Eu,Ev,yU,Ew,Ex,Ey,FD,vE,n68⟩:=x
     obtain ⟨JS,OA,OB,OC,OD,rfl⟩:=fy
     replace h:eP aa ai v33 Et Eu Ev yU Ew Ex Ey FD vE n68=some z2:=h
     unfold eP at h
     refine tS<|tS<|ab.cut (fun aC=>∃ (Om:Bool),cG aa ai v33 Et Eu Ev yU Ew Ex Ey FD vE n68 Om=some z2∧aC=⟨57,[(0,.ptr aP 0),(1,o8 ai),(2,I au),(6,I n68),(7,I v33.At),(42,.bool Om)],[(aP,.cells [.cE [.str aa.c_.Key,I aa.c_.Target.aN,I aa.c_.Target.aO,I aa.c_.Target.aM,I aa.c_.At,oM aa.c_.aB,I aa.c_.bh.eU,I aa.c_.bh.To,I aa.c_.Room],.ct db,.ct dc,.sl 1 OA 0 yU.length,.sl 1 OB 0 Ew.length,.sl 1 OC 0 Ex.length,.sl 1 OD 0 Ey.length,I FD,I vE]),(db,.mp (Et.map (fun e=>(AV.str e.1,(pA cI) e.2)))),(kF,.bM (iR tf cI JS Eu)),(dc,wN Ev),(OA,dV yU),(OB,dV Ew),(OC,dV Ex),(OD,dV Ey)]⟩) ?_ ?_
     ·refine tR<|rM J J<|rM J J<|ae.qv (cV J) J<|ae.qv (bG J J) J<|rM J J<|gT h J J J (fun h=>?_) (fun h=>?_)
      ·exact rM J J<|rY J J J<|rM J J<|rY J J J<|aD h fun v70 e4 h=>ae.qv (bO J J J e4 J J) J<|rY J J J<|ae.qv (bu J J) J<|rY J J J<|ae.qv (aX J J J) J<|rY J J J<|rM J J<|rY J J J<|ae.qv (cC J J) J<|rT J J J<|rN<|ab.stop<|aj.lq [0,0,0,0,0,0,0,0] ⟨decide (v70.At=v33.At),h,J⟩ J J
      ·exact rG J J J J<|rG J J J J<|rG J J J J<|rG J J J J<|rG J J J J<|rG J J J J<|rE J J J<|rN<|ab.stop<|aj.lq [0,0,0,0,0,0,0,0] ⟨false,h,J⟩ J J
     ·rintro aC ⟨Om,h,rfl⟩
      unfold cG at h
      refine cB h J (fun h=>?_) (fun h=>?_)
      ·refine tK<|tS<|ab.block<|tR<|rM J J<|rM J J<|rM J J<|aD h fun LX e5 h=>ae.qv (bO J J J e5 J J) J<|ae.qv (bt J J J) J<|aD h fun v72 e6 h=>Av J (rI e6) cR (.cons .p0 (.cons .p0 (.cons .p1 (.cons .p1 (.cons .p1 (.cons .p1 (.cons .p1 (.cons .p0 .nil)))))))) (fun _ _ _ _ _=>J) J fun XT XU XV XW Rb=>rN<|ab.bY<|tR<|rM J J<|ae.qv (bc J J) J<|rA J J<|rN<|ab.stop<|?_
       cases h
       exact Cm _ _ J<|aj.lq [0,0,5,0,0,0,0,0] ⟨Rb,XT,XU,XV,XW,J⟩ J J
      ·refine ab.exit J<|have h:=cj h Bh;?_
       unfold jc at h
       refine tR<|rM J J<|rM J J<|aD h fun v78 e7 h=>Au J (ju e7) cR (.cons .p0 (.cons .p3 (.cons .p3 (.cons .p3 (.cons .p3 .nil))))) (fun _ _ _ _=>J) J fun XX XY XZ X0=>rN<|ab.bY<|ab.stop<|?_
       cases h
       exact jt _ _ J<|aj.lq [0,4,4,4,0,0,0,0] ⟨JS,XX,XY,XZ,X0,J⟩ J J
   ·refine ab.exit J<|have h:=cj h fj;?_
    unfold jd at h
    refine tR<|rM J J<|rM J J<|aD h fun LZ e8 h=>Au J (ju e8) cR (.cons .p0 (.cons .p3 (.cons .p3 (.cons .p3 (.cons .p3 .nil))))) (fun _ _ _ _=>J) J fun X1 X2 X3 Q8=>rN<|ab.nil<|?_
    cases h
    exact aj.here ⟨_,.nil,_,.cons .p0 (.cons .p4 (.cons .p5 (.cons .p0 (.cons .p0 (.cons .p0 (.cons .p0 (.cons .p0 .nil))))))),⟨X1,X2,X3,Q8,HO,J,J⟩⟩
theorem uS [GI:bD] {aa:Campaign} {ai:List DeviceS} {au:List MarkS} {aK:Int} {r:(List Int)×Int} (h:im aa ai au aK=some r):aF Tryz.prog 23 [Campaign.av aa,pJ ai,o8 au,I aK] [] (T1 (fun qN=>[(qN,dV r.1)]) (fun qN=>.kj [.sl 1 qN 0 r.1.length,I r.2])):=by
 unfold im at h
 refine aF.ia ?_
 refine aF.bC Tryz.func23 J Tryz.ntmps23 Tryz.results23 J J ?_
 refine aE<|gi J J J J fun b1=>rA J J<|rA J J<|rN<|tS<|aE<|rM J J<|rM J J<|rM J J<|aD h fun v2 e1 h=>gh J (qm e1) (.cons (.wJ _ _ _ .p0 (.cons (.co (.refl _)) (.cons (.co (.refl _)) (.cons (.co (.refl _)) (.cons (.co (.refl _)) (.cons (.co (.refl _)) (.cons (.co (.refl _)) (.cons (.co (.refl _)) (.cons (.co (.refl _)) (.cons (.co (.refl _)) .nil)))))))))) (.cons (.co (.refl _)) (.cons (.co (.refl _)) (.cons (.co (.refl _)) .nil)))) J J<|rA J J<|rN<|aE<|rM J J<|ae.qv (kT J J) J<|rN<|cD h J (fun h=>?_) (fun h=>?_)
 ·refine aE<|rM J J<|rA J J<|rA J J<|rN<|ab.ret<|?_
  cases h
  exact aj.arr (s:=8) 1 J fun b3=>aj.here ⟨_,.cons (.tmp _ _ J) (.cons (.tmp _ _ J) .nil),_,.cons .p0 .nil,⟨b3,J,J⟩⟩
 ·refine tK<|aE<|rM J J<|ae.ghost<|aj.Ek (ss:=[4]) (by simp [lk]) .p0<|aj.here<|aD h fun v4 e2 h=>BZ J (ot e2) cR .nil (fun _ _ _ _ _ _ _ _ _ _=>J) J fun b5 b6 b7 b8 b9 rB Gj rb X4 X5=>rA J J<|rN<|aE<|rM J J<|rM J J<|rM J J<|aD h fun ig e3 h=>Av J (mu e3) cR (.cons .p0 (.cons .p0 (.cons .p0 (.cons .p0 (.cons .p0 (.cons .p0 (.cons .p0 (.cons .p0 .nil)))))))) (fun _ _ _ _ _=>J) J fun Gh FG X6 pa X7=>rN<|aE<|rM J J<|ae.qv (ar J) J<|rF J J J<|rL J J .p0 J J<|rA J J<|rA J J<|rN<|ab.ret<|?_
  cases h
  exact hI J J [6] J ⟨pa,J,J⟩
theorem tY [GI:bD] {aa:Campaign} {ai:List DeviceS} {au:List MarkS} {aK:Int} {r:Int×Int} (h:gG aa ai au aK=some r):Pu Tryz.prog 24 [Campaign.av aa,pJ ai,o8 au,I aK] (.kj [I r.1,I r.2]):=by
 unfold gG at h
 refine aF.bC Tryz.func24 J Tryz.ntmps24 Tryz.results24 J J ?_
 refine aE<|gi J J J J fun b1=>rA J J<|rA J J<|rN<|tS<|aE<|rM J J<|rM J J<|rM J J<|aD h fun v2 e1 h=>gh J (qm e1) (.cons (.wJ _ _ _ .p0 (.cons (.co (.refl _)) (.cons (.co (.refl _)) (.cons (.co (.refl _)) (.cons (.co (.refl _)) (.cons (.co (.refl _)) (.cons (.co (.refl _)) (.cons (.co (.refl _)) (.cons (.co (.refl _)) (.cons (.co (.refl _)) .nil)))))))))) (.cons (.co (.refl _)) (.cons (.co (.refl _)) (.cons (.co (.refl _)) .nil)))) J J<|rA J J<|rN<|aE<|rM J J<|ae.qv (kT J J) J<|rN<|cD h J (fun h=>?_) (fun h=>?_)
 ·refine aE<|rM J J<|rA J J<|rA J J<|rN<|ab.ret<|?_
  cases h
  exact hQ J J J
 ·refine tK<|aE<|rM J J<|ae.ghost<|aj.Ek (ss:=[4]) (by simp [lk]) .p0<|aj.here<|aD h fun v3 e2 h=>BZ J (ot e2) cR .nil (fun _ _ _ _ _ _ _ _ _ _=>J) J fun b4 b5 b6 b7 b8 b9 rB Gj X8 X9=>rA J J<|rN<|aE<|rM J J<|rM J J<|rM J J<|aD h fun kJ e3 h=>Av J (mu e3) cR (.cons .p0 (.cons .p0 (.cons .p0 (.cons .p0 (.cons .p0 (.cons .p0 (.cons .p0 (.cons .p0 .nil)))))))) (fun _ _ _ _ _=>J) J fun Ya Gh FG X6 Yb=>rN<|aE<|rM J J<|ae.qv (ar J) J<|rF J J J<|rL J J .p0 J J<|rA J J<|rA J J<|rN<|ab.ret<|?_
  cases h
  exact hQ J J J
theorem mw [GI:bD] {aa:Int} {ai:Int} {au:Int} {r:Bool} (h:pI aa ai au=r):Pu Tryz.prog 59 [I aa,I ai,I au] (.bool r):=by
 unfold pI at h
 refine aF.bC Tryz.func59 J Tryz.ntmps59 Tryz.results59 J J ?_
 refine aE<|rA J J<|rN<|tS<|ab.cut (fun aC=>∃ (c1:Bool),AA c1=r∧aC=⟨15,[(6,.bool c1)],[]⟩) ?_ ?_
 ·refine tR<|rM J J<|rM J J<|ae.qv (tq J J) J<|rM J J<|ae.cy J J J (fun hc=>?_) (fun hc=>?_)
  ·rw [om hc] at h
   exact rM J J<|rY J J J<|rM J J<|rY J J J<|ae.qv (tq J J) J<|rT J J J<|rA J J<|rN<|ab.stop<|aj.lq [] ⟨decide (aa≤au),h,J⟩ J J
  ·rw [oo hc] at h
   exact rG J J J J<|rG J J J J<|rE J J J<|rA J J<|rN<|ab.stop<|aj.lq [] ⟨false,h,J⟩ J J
 ·rintro aC ⟨c1,h,rfl⟩
  unfold AA at h
  refine ab.ret<|?_
  obtain rfl:=h
  exact hP J J
theorem Cp [GI:bD] {aa:bq} {ai:bq} {r:Bool} (h:vF aa ai=some r):Pu Tryz.prog 107 [.str aa,.str ai] (.bool r):=by
 unfold vF at h
 refine aF.bC Tryz.func107 J Tryz.ntmps107 Tryz.results107 J J ?_
 refine aE<|rA J J<|rN<|tS<|aE<|rM J J<|ae.qv (jO J) J<|rM J J<|rN<|ab.block<|ab.cM (fun x:Int=>mS aa ai x) (fun x aC=>aC=⟨18,[(0,.str aa),(1,.str ai),(7,I (aa.length:Int)),(8,I x)],[]⟩) h ?_ ?_
 ·exact aj.lq [] J J J
 ·intro n2 z1 aC J1 fy h jt fj
  obtain rfl:=fy
  replace h:mS aa ai n2=some z1:=h
  unfold mS at h
  refine aE<|ae.qv (bG J J) J<|rN<|tS<|cD h J (fun h=>?_) (fun h=>?_)
  ·refine tK<|tS<|ab.block<|aE<|rM J J<|rA J J<|rN<|aE<|rM J J<|rM J J<|rM J J<|aD h fun c3 e1 h=>ae.qv (jk J J e1) J<|aS J (td J) cR J<|ae.qv (bG J J) J<|rN<|cD h J (fun h=>?_) (fun h=>?_)
   ·refine aE<|rA J J<|rN<|ab.ret<|have h:=cj h fj;?_
    cases h
    exact hP J J
   ·refine tK<|ab.bY<|tR<|ae.qv (bc J J) J<|rM J J<|rN<|ab.stop<|?_
    cases h
    exact jt _ _ J<|aj.lq [] J J J
  ·refine ab.exit J<|have h:=cj h fj;aE<|rA J J<|rN<|ab.ret<|?_
   cases h
   exact hP J J
theorem uT [GI:bD] {aa:bq} {r:Bool} (h:uL aa=some r):Pu Tryz.prog 56 [.str aa] (.bool r):=by
 unfold uL at h
 refine aF.bC Tryz.func56 J Tryz.ntmps56 Tryz.results56 J J ?_
 refine aE<|rA J J<|rN<|tS<|ab.cut (fun aC=>∃ (c1:Bool),qe c1=some r∧aC=⟨15,[(2,.bool c1)],[]⟩) ?_ ?_
 ·refine tR<|rM J J<|ae.qv (jO J) J<|aS J (mw J) cR J<|rM J J<|ae.guard J J J (fun hc=>?_) (fun hc=>?_)
  ·refine have h:=rm hc h;rM J J<|rY J J J<|aD h fun l2 e1 h=>ae.qv (BG J .none (.some _ _ _ J) J J e1) J<|rY J J J<|aD h fun v3 e2 h=>aS J (Cp e2) cR J<|rT J J J<|rM J J<|ae.guard J J J (fun hc=>?_) (fun hc=>?_)
   ·exact have h:=rm hc h;rM J J<|rY J J J<|aD h fun v4 e3 h=>aS J (Cp e3) cR J<|rT J J J<|rA J J<|rN<|ab.stop<|aj.lq [] ⟨v4,h,J⟩ J J
   ·exact have h:=wg hc h;rG J J J J<|rE J J J<|rA J J<|rN<|ab.stop<|aj.lq [] ⟨false,h,J⟩ J J
  ·exact have h:=wg hc h;rG J J J J<|rG J J J J<|rE J J J<|rM J J<|rG J J J J<|rG J J J J<|rE J J J<|rA J J<|rN<|ab.stop<|aj.lq [] ⟨false,h,J⟩ J J
 ·rintro aC ⟨c1,h,rfl⟩
  unfold qe at h
  refine ab.ret<|?_
  cases h
  exact hP J J
theorem mX [GI:bD] {aa:Version} {r:Int} (h:eo aa=r):Pu Tryz.prog 57 [Version.av aa] (I r):=by
 unfold eo at h
 refine aF.bC Tryz.func57 J Tryz.ntmps57 Tryz.results57 J J ?_
 refine aE<|gi J J J J fun b1=>rA J J<|rN<|tS<|tS<|ab.cut (fun aC=>∃ (c2:Bool),ke c2=r∧aC=⟨19,[(18,.bool c2)],[]⟩) ?_ ?_
 ·refine tR<|rF J J J<|rL J J .p0 J J<|aS J (mw J) cR J<|ae.qv (cu J) J<|rM J J<|ae.guard J J J (fun hc=>?_) (fun hc=>?_)
  ·rw [rq hc] at h
   refine rF J J J<|rY J J J<|rL J J .p0 J J<|rY J J J<|aS J (mw J) cR J<|rY J J J<|ae.qv (cu J) J<|rE J J J<|rM J J<|ae.guard J J J (fun hc=>?_) (fun hc=>?_)
   ·rw [rq hc] at h
    exact rF J J J<|rY J J J<|rL J J .p0 J J<|rY J J J<|aS J (mw J) cR J<|rY J J J<|ae.qv (cu J) J<|rE J J J<|rN<|ab.stop<|aj.lq [] ⟨!(pI aa.aM (0:Int) (9999:Int)),h,J⟩ J J
   ·rw [rn hc] at h
    exact rG J J J J<|rG J J J J<|rG J J J J<|rT J J J<|rN<|ab.stop<|aj.lq [] ⟨true,h,J⟩ J J
  ·rw [rn hc] at h
   exact rG J J J J<|rG J J J J<|rG J J J J<|rT J J J<|rM J J<|rG J J J J<|rG J J J J<|rG J J J J<|rG J J J J<|rT J J J<|rN<|ab.stop<|aj.lq [] ⟨true,h,J⟩ J J
 ·rintro aC ⟨c2,h,rfl⟩
  unfold ke at h
  refine cB h J (fun h=>?_) (fun h=>?_)
  ·refine aE<|rA J J<|rN<|ab.ret<|?_
   obtain rfl:=h
   exact hP J J
  ·refine tK<|aE<|rA J J<|rN<|ab.ret<|?_
   obtain rfl:=h
   exact hP J J
theorem tZ [GI:bD] {aa:Int} {r:Bool} (h:qg aa=r):Pu Tryz.prog 58 [I aa] (.bool r):=by
 unfold qg at h
 refine aF.bC Tryz.func58 J Tryz.ntmps58 Tryz.results58 J J ?_
 refine aE<|rA J J<|rN<|aE<|rM J J<|aS J (mw J) cR J<|rA J J<|rN<|ab.ret<|?_
 obtain rfl:=h
 exact hP J J
theorem uU [GI:bD] {aa:Campaign} {r:Int} (h:jM aa=some r):Pu Tryz.prog 14 [Campaign.av aa] (I r):=by
 unfold jM at h
 refine aF.bC Tryz.func14 J Tryz.ntmps14 Tryz.results14 J J ?_
 refine aE<|gi J J J J fun b1=>rA J J<|rN<|tS<|aE<|rF J J J<|rL J J .p0 J J<|aD h fun v2 e1 h=>aS J (uT e1) cR J<|ae.qv (cu J) J<|rN<|cB h J (fun h=>?_) (fun h=>?_)
 ·refine aE<|rA J J<|rN<|ab.ret<|?_
  cases h
  exact hP J J
 ·refine tK<|tS<|aE<|rF J J J<|ae.qv (bA J J .p0 J J) J<|aS J (mX J) cR J<|rA J J<|rN<|aE<|rM J J<|ae.qv (kT J J) J<|rN<|cD h J (fun h=>?_) (fun h=>?_)
  ·refine aE<|rM J J<|rA J J<|rN<|ab.ret<|?_
   cases h
   exact hP J J
  ·refine tK<|tS<|ab.block<|aE<|rF J J J<|rL J J .p0 J J<|aS J (tZ J) cR J<|ae.qv (cu J) J<|rA J J<|rN<|cB h J (fun h=>?_) (fun h=>?_)
   ·refine aE<|rA J J<|rN<|ab.ret<|?_
    cases h
    exact hP J J
   ·refine aE<|rF J J J<|rL J J .p0 J J<|ae.qv (cV J) J<|ae.qv (cC J J) J<|rA J J<|rN<|cD h J (fun h=>?_) (fun h=>?_)
    ·refine aE<|rA J J<|rN<|ab.ret<|?_
     cases h
     exact hP J J
    ·refine aE<|rF J J J<|rL J J .p0 J J<|ae.qv (cV J) J<|ae.qv (fL J J) J<|rA J J<|rN<|cD h J (fun h=>?_) (fun h=>?_)
     ·refine aE<|rA J J<|rN<|ab.ret<|?_
      cases h
      exact hP J J
     ·refine tK<|ab.bY<|aE<|rA J J<|rN<|tS<|aE<|rF J J J<|rL J J .p0 J J<|ae.qv (cV J) J<|rM J J<|rN<|ab.block<|ab.cM (fun x:Int×Int=>gV aa x.1 x.2) (fun x aC=>aC=⟨88,[(1,.ptr b1 0),(4,I x.1),(33,oM aa.aB),(34,I (aa.aB.length:Int)),(35,I x.2)],[(b1,.cells (wM aa))]⟩) h ?_ ?_
      ·exact aj.lq [0] J J J
      ·intro x z1 aC J1 fy h jt fj
       obtain ⟨n5,n6⟩:=x
       obtain rfl:=fy
       replace h:gV aa n5 n6=some z1:=h
       unfold gV at h
       refine aE<|ae.qv (bG J J) J<|rN<|tS<|cD h J (fun h=>?_) (fun h=>?_)
       ·refine tK<|tS<|ab.block<|aE<|aD h fun v7 e2 h=>ae.qv (bO J J J e2 J J) J<|ae.qv (bt J J J) J<|ca J J J J fun b8=>ay J J J J .p0 J J<|rN<|tS<|tS<|ab.cut (fun aC=>∃ (c9:Bool),jr n5 n6 v7 c9=some z1∧aC=⟨88,[(1,.ptr b1 0),(4,I n5),(6,.ptr b8 0),(33,oM aa.aB),(34,I (aa.aB.length:Int)),(35,I n6),(60,.bool c9)],[(b1,.cells (wM aa)),(b8,.cells (Us v7))]⟩) ?_ ?_
        ·refine tR<|rF J J J<|rL J J .p0 J J<|aS J (mw J) cR J<|ae.qv (cu J) J<|rM J J<|ae.guard J J J (fun hc=>?_) (fun hc=>?_)
         ·rw [rq hc] at h
          refine rF J J J<|rY J J J<|rL J J .p0 J J<|rY J J J<|aS J (mw J) cR J<|rY J J J<|ae.qv (cu J) J<|rE J J J<|rM J J<|ae.guard J J J (fun hc=>?_) (fun hc=>?_)
          ·rw [rq hc] at h
           refine rF J J J<|rY J J J<|rL J J .p0 J J<|rY J J J<|aS J (mw J) cR J<|rY J J J<|ae.qv (cu J) J<|rE J J J<|rM J J<|ae.guard J J J (fun hc=>?_) (fun hc=>?_)
           ·rw [rq hc] at h
            exact rF J J J<|rY J J J<|rL J J .p0 J J<|rY J J J<|aS J (mw J) cR J<|rY J J J<|ae.qv (cu J) J<|rE J J J<|rN<|ab.stop<|aj.lq [1,0] ⟨!(pI v7.cO (0:Int) (1000:Int)),h,J⟩ J J
           ·rw [rn hc] at h
            exact rG J J J J<|rG J J J J<|rG J J J J<|rT J J J<|rN<|ab.stop<|aj.lq [1,0] ⟨true,h,J⟩ J J
          ·rw [rn hc] at h
           exact rG J J J J<|rG J J J J<|rG J J J J<|rT J J J<|rM J J<|rG J J J J<|rG J J J J<|rG J J J J<|rG J J J J<|rT J J J<|rN<|ab.stop<|aj.lq [1,0] ⟨true,h,J⟩ J J
         ·rw [rn hc] at h
          exact rG J J J J<|rG J J J J<|rG J J J J<|rT J J J<|rM J J<|rG J J J J<|rG J J J J<|rG J J J J<|rG J J J J<|rT J J J<|rM J J<|rG J J J J<|rG J J J J<|rG J J J J<|rG J J J J<|rT J J J<|rN<|ab.stop<|aj.lq [1,0] ⟨true,h,J⟩ J J
        ·rintro aC ⟨c9,h,rfl⟩
         unfold jr at h
         refine cB h J (fun h=>?_) (fun h=>?_)
         ·refine aE<|rA J J<|rN<|ab.ret<|have h:=cj h fj;?_
          cases h
          exact hP J J
         ·refine tK<|tR<|rM J J<|rF J J J<|rL J J .p1 J J<|ae.qv (bc J J) J<|rA J J<|rN<|ab.bY<|tR<|ae.qv (bc J J) J<|rM J J<|rN<|ab.stop<|?_
          cases h
          exact jt _ _ J<|aj.lq [0] J J J
       ·refine ab.exit J<|have h:=cj h fj;?_
        unfold lB at h
        refine tS<|ab.block<|aE<|rM J J<|ae.qv (kT J J) J<|rA J J<|rN<|cD h J (fun h=>?_) (fun h=>?_)
        ·refine aE<|rA J J<|rN<|ab.ret<|?_
         cases h
         exact hP J J
        ·refine tS<|ab.cut (fun aC=>∃ (HC:Bool),js HC=some r∧aC=⟨88,[(69,.bool HC)],[]⟩) ?_ ?_
         ·refine tR<|rF J J J<|rF J J J<|rL J J .p0 J J<|aS J (mw J) cR J<|ae.qv (cu J) J<|rM J J<|ae.guard J J J (fun hc=>?_) (fun hc=>?_)
          ·rw [rq hc] at h
           refine rF J J J<|rY J J J<|rF J J J<|rY J J J<|rL J J .p0 J J<|rY J J J<|aS J (mw J) cR J<|rY J J J<|ae.qv (cu J) J<|rE J J J<|rM J J<|ae.guard J J J (fun hc=>?_) (fun hc=>?_)
           ·rw [rq hc] at h
            exact rF J J J<|rY J J J<|rL J J .p0 J J<|rY J J J<|aS J (mw J) cR J<|rY J J J<|ae.qv (cu J) J<|rE J J J<|rA J J<|rN<|ab.stop<|aj.lq [] ⟨!(pI aa.Room (1:Int) (500:Int)),h,J⟩ J J
           ·rw [rn hc] at h
            exact rG J J J J<|rG J J J J<|rG J J J J<|rT J J J<|rA J J<|rN<|ab.stop<|aj.lq [] ⟨true,h,J⟩ J J
          ·rw [rn hc] at h
           exact rG J J J J<|rG J J J J<|rG J J J J<|rG J J J J<|rT J J J<|rM J J<|rG J J J J<|rG J J J J<|rG J J J J<|rG J J J J<|rT J J J<|rA J J<|rN<|ab.stop<|aj.lq [] ⟨true,h,J⟩ J J
         ·rintro aC ⟨HC,h,rfl⟩
          unfold js at h
          refine cB h J (fun h=>?_) (fun h=>?_)
          ·refine aE<|rA J J<|rN<|ab.ret<|?_
           cases h
           exact hP J J
          ·refine tK<|ab.bY<|aE<|rA J J<|rN<|ab.ret<|?_
           cases h
           exact hP J J
theorem yd [GI:bD] {aa:List DeviceS} {r:Int} (h:mc aa=some r):Pu Tryz.prog 15 [pJ aa] (I r):=by
 unfold mc at h
 refine aF.bC Tryz.func15 J Tryz.ntmps15 Tryz.results15 J J ?_
 refine aE<|rA J J<|rN<|tS<|aE<|rM J J<|ae.qv (cV J) J<|ae.qv (fL J J) J<|rN<|cD h J (fun h=>?_) (fun h=>?_)
 ·refine aE<|rA J J<|rN<|ab.ret<|?_
  cases h
  exact hP J J
 ·refine tK<|aE<|rA J J<|rN<|tS<|aE<|rM J J<|ae.qv (cV J) J<|rM J J<|rN<|ab.block<|ab.cM (fun x:bq×Int=>iq aa x.1 x.2) (fun x aC=>aC=⟨51,[(3,.str x.1),(10,pJ aa),(11,I (aa.length:Int)),(12,I x.2)],[]⟩) h ?_ ?_
  ·exact aj.lq [] J J J
  ·intro x z1 aC J1 fy h jt fj
   obtain ⟨q3,n4⟩:=x
   obtain rfl:=fy
   replace h:iq aa q3 n4=some z1:=h
   unfold iq at h
   refine aE<|ae.qv (bG J J) J<|rN<|tS<|cD h J (fun h=>?_) (fun h=>?_)
   ·refine tK<|tS<|ab.block<|aE<|aD h fun v5 e1 h=>ae.qv (bO J J J e1 J J) J<|ae.qv (bt J J J) J<|ca J J J J fun b6=>ay J J J J .p0 J J<|rN<|tS<|ab.block<|tS<|ab.cut (fun aC=>∃ (c7:Bool),ga q3 n4 v5 c7=some z1∧aC=⟨51,[(3,.str q3),(5,.ptr b6 0),(10,pJ aa),(11,I (aa.length:Int)),(12,I n4),(16,.bool c7)],[(b6,.cells (Py v5))]⟩) ?_ ?_
    ·refine tR<|rF J J J<|rL J J .p0 J J<|aD h fun v8 e2 h=>aS J (uT e2) cR J<|ae.qv (cu J) J<|rM J J<|ae.guard J J J (fun hc=>?_) (fun hc=>?_)
     ·refine have h:=wg hc h;rF J J J<|rY J J J<|rL J J .p0 J J<|rY J J J<|aD h fun v9 e3 h=>aS J (uT e3) cR J<|rY J J J<|ae.qv (cu J) J<|rE J J J<|rM J J<|ae.guard J J J (fun hc=>?_) (fun hc=>?_)
      ·exact have h:=wg hc h;rF J J J<|rY J J J<|rL J J .p0 J J<|rY J J J<|aD h fun v10 e4 h=>aS J (uT e4) cR J<|rY J J J<|ae.qv (cu J) J<|rE J J J<|rA J J<|rN<|ab.stop<|aj.lq [0] ⟨!v10,h,J⟩ J J
      ·exact have h:=rm hc h;rG J J J J<|rG J J J J<|rG J J J J<|rT J J J<|rA J J<|rN<|ab.stop<|aj.lq [0] ⟨true,h,J⟩ J J
     ·exact have h:=rm hc h;rG J J J J<|rG J J J J<|rG J J J J<|rT J J J<|rM J J<|rG J J J J<|rG J J J J<|rG J J J J<|rG J J J J<|rT J J J<|rA J J<|rN<|ab.stop<|aj.lq [0] ⟨true,h,J⟩ J J
    ·rintro aC ⟨c7,h,rfl⟩
     unfold ga at h
     refine cB h J (fun h=>?_) (fun h=>?_)
     ·refine aE<|rA J J<|rN<|ab.ret<|have h:=cj h fj;?_
      cases h
      exact hP J J
     ·refine aE<|rF J J J<|rL J J .p0 J J<|rM J J<|ae.qv (GU J J) J<|rA J J<|rN<|cB h J (fun h=>?_) (fun h=>?_)
      ·refine aE<|rA J J<|rN<|ab.ret<|have h:=cj h fj;?_
       cases h
       exact hP J J
      ·refine tK<|ab.bY<|aE<|rF J J J<|rL J J .p0 J J<|rA J J<|rN<|tS<|aE<|rF J J J<|ae.qv (bA J J .p0 J J) J<|aS J (mX J) cR J<|rA J J<|rN<|aE<|rM J J<|ae.qv (kT J J) J<|rN<|cD h J (fun h=>?_) (fun h=>?_)
       ·refine aE<|rM J J<|rA J J<|rN<|ab.ret<|have h:=cj h fj;?_
        cases h
        exact hP J J
       ·refine tK<|aE<|rF J J J<|rL J J .p0 J J<|ae.qv (cV J) J<|ae.qv (fL J J) J<|rN<|cD h J (fun h=>?_) (fun h=>?_)
        ·refine aE<|rA J J<|rN<|ab.ret<|have h:=cj h fj;?_
         cases h
         exact hP J J
        ·refine tK<|ab.bY<|tR<|ae.qv (bc J J) J<|rM J J<|rN<|ab.stop<|?_
         cases h
         exact jt _ _ J<|aj.lq [] J J J
   ·refine ab.exit J<|have h:=cj h fj;aE<|rA J J<|rN<|ab.ret<|?_
    cases h
    exact hP J J
theorem ye [GI:bD] {aa:List MarkS} {r:Int} (h:me aa=some r):Pu Tryz.prog 16 [o8 aa] (I r):=by
 unfold me at h
 refine aF.bC Tryz.func16 J Tryz.ntmps16 Tryz.results16 J J ?_
 refine aE<|rA J J<|rN<|tS<|aE<|rM J J<|ae.qv (cV J) J<|ae.qv (fL J J) J<|rN<|cD h J (fun h=>?_) (fun h=>?_)
 ·refine aE<|rA J J<|rN<|ab.ret<|?_
  cases h
  exact hP J J
 ·refine tK<|tS<|aE<|rM J J<|ae.qv (cV J) J<|rM J J<|rN<|ab.block<|ab.cM (fun x:Int=>fi aa x) (fun x aC=>aC=⟨50,[(0,o8 aa),(9,o8 aa),(10,I (aa.length:Int)),(11,I x)],[]⟩) h ?_ ?_
  ·exact aj.lq [] J J J
  ·intro n2 z1 aC J1 fy h jt fj
   obtain rfl:=fy
   replace h:fi aa n2=some z1:=h
   unfold fi at h
   refine aE<|ae.qv (bG J J) J<|rN<|tS<|cD h J (fun h=>?_) (fun h=>?_)
   ·refine tK<|tS<|ab.block<|aE<|rM J J<|aD h fun v3 e1 h=>ae.qv (bO J J J e1 J J) J<|ae.qv (bt J J J) J<|ca J J J J fun b4=>rA J J<|ay J J J J .p0 J J<|rN<|tS<|ab.block<|aE<|rF J J J<|rL J J .p0 J J<|aS J (tZ J) cR J<|ae.qv (cu J) J<|rA J J<|rN<|cB h J (fun h=>?_) (fun h=>?_)
    ·refine aE<|rA J J<|rN<|ab.ret<|have h:=cj h fj;?_
     cases h
     exact hP J J
    ·refine aE<|rF J J J<|rL J J .p0 J J<|aD h fun v5 e2 h=>aS J (uT e2) cR J<|ae.qv (cu J) J<|rA J J<|rN<|cB h J (fun h=>?_) (fun h=>?_)
     ·refine aE<|rA J J<|rN<|ab.ret<|have h:=cj h fj;?_
      cases h
      exact hP J J
     ·refine aE<|rF J J J<|rL J J .p0 J J<|aS J (mw J) cR J<|ae.qv (cu J) J<|rA J J<|rN<|cB h J (fun h=>?_) (fun h=>?_)
      ·refine aE<|rA J J<|rN<|ab.ret<|have h:=cj h fj;?_
       cases h
       exact hP J J
      ·refine tK<|ab.bY<|tS<|aE<|rF J J J<|ae.qv (bA J J .p0 J J) J<|aS J (mX J) cR J<|rA J J<|rN<|aE<|rM J J<|ae.qv (kT J J) J<|rN<|cD h J (fun h=>?_) (fun h=>?_)
       ·refine aE<|rM J J<|rA J J<|rN<|ab.ret<|have h:=cj h fj;?_
        cases h
        exact hP J J
       ·refine tK<|tS<|ab.cut (fun aC=>∃ (c6:Bool),jN n2 c6=some z1∧aC=⟨50,[(0,o8 aa),(9,o8 aa),(10,I (aa.length:Int)),(11,I n2),(48,.bool c6)],[]⟩) ?_ ?_
        ·refine ab.eh (id:=15) (A:=[0,1,3,7,7,23,63,127,7,511,1023,2047]) 12 mixed J (by kernel_rfl) (by kernel_rfl)<|AM.qv (aA J) J<|AM.qv (fL J J) J<|AM.qv (aA J) J<|AM.cy J J J (fun hc=>?_) (fun hc=>?_)
         ·exact have h:=rm hc h;AM.qv (aA J) J<|AM.aq J J J<|AM.qv (aA J) J<|AM.aq J J J<|AM.qv (cF J J) J<|AM.aq J J J<|aD h fun v7 e3 h=>AM.qv (bO J J J e3 J J) J<|AM.aq J J J<|AM.qv (bt J J J) J<|AM.aq J J J<|AM.qv (aW J J .p0 J) J<|AM.aq J J J<|AM.we J (nu J) cR J<|AM.aq J J J<|AM.qv (oe J J) J<|AM.qv (gI J J) J<|AM.nil<|rN<|ab.stop<|aj.lq [] ⟨decide ((0:Int)≤(eM v7 v3)),h,J⟩ J J
         ·exact have h:=yQ hc h;AM.ao J J J J<|AM.ao J J J J<|AM.ao J J J J<|AM.ao J J J J<|AM.ao J J J J<|AM.ao J J J J<|AM.ao J J J J<|AM.qv (fr J J) J<|AM.nil<|rN<|ab.stop<|aj.lq [] ⟨false,h,J⟩ J J
        ·rintro aC ⟨c6,h,rfl⟩
         unfold jN at h
         refine cB h J (fun h=>?_) (fun h=>?_)
         ·refine aE<|rA J J<|rN<|ab.ret<|have h:=cj h fj;?_
          cases h
          exact hP J J
         ·refine tK<|ab.bY<|tR<|ae.qv (bc J J) J<|rM J J<|rN<|ab.stop<|?_
          cases h
          exact jt _ _ J<|aj.lq [] J J J
   ·refine ab.exit J<|have h:=cj h fj;aE<|rA J J<|rN<|ab.ret<|?_
    cases h
    exact hP J J
theorem HP [GI:bD] {aa:Bool} {ai:Int} {r:Int} (h:AB aa ai=r):Pu Tryz.prog 19 [.bool aa,I ai] (I r):=by
 unfold AB at h
 refine aF.bC Tryz.func19 J Tryz.ntmps19 Tryz.results19 J J ?_
 refine aE<|rA J J<|rN<|tS<|aE<|rM J J<|rN<|cB h J (fun h=>?_) (fun h=>?_)
 ·refine aE<|rM J J<|rA J J<|rN<|ab.ret<|?_
  obtain rfl:=h
  exact hP J J
 ·refine tK<|aE<|rA J J<|rN<|ab.ret<|?_
  obtain rfl:=h
  exact hP J J
theorem wP [GI:bD] {aa:Int} {r:Int} (h:iJ aa=r):Pu Tryz.prog 17 [I aa] (I r):=by
 unfold iJ at h
 refine aF.bC Tryz.func17 J Tryz.ntmps17 Tryz.results17 J J ?_
 refine aE<|rA J J<|rN<|aE<|rM J J<|aS J (tZ J) cR J<|ae.qv (cu J) J<|aS J (HP J) cR J<|rA J J<|rN<|ab.ret<|?_
 obtain rfl:=h
 exact hP J J
theorem HQ [GI:bD] {aa:List Int} {r:Int} (h:AD aa=some r):Pu Tryz.prog 13 [fc aa] (I r):=by
 unfold AD at h
 refine aF.bC Tryz.func13 J Tryz.ntmps13 Tryz.results13 J J ?_
 refine aE<|rA J J<|rN<|tS<|aE<|rM J J<|ae.qv (cV J) J<|rM J J<|rN<|ab.block<|ab.cM (fun x:Int=>sQ aa x) (fun x aC=>aC=⟨15,[(5,fc aa),(6,I (aa.length:Int)),(7,I x)],[]⟩) h ?_ ?_
 ·exact aj.lq [] J J J
 ·intro n2 z1 aC J1 fy h jt fj
  obtain rfl:=fy
  replace h:sQ aa n2=some z1:=h
  unfold sQ at h
  refine aE<|ae.qv (bG J J) J<|rN<|tS<|cD h J (fun h=>?_) (fun h=>?_)
  ·refine tK<|tS<|ab.block<|aE<|aD h fun v3 e1 h=>ae.qv (bO J J J e1 J J) J<|ae.qv (aX J J J) J<|rA J J<|rN<|aE<|rM J J<|ae.qv (kT J J) J<|rN<|cD h J (fun h=>?_) (fun h=>?_)
   ·refine aE<|rM J J<|rA J J<|rN<|ab.ret<|have h:=cj h fj;?_
    cases h
    exact hP J J
   ·refine tK<|ab.bY<|tR<|ae.qv (bc J J) J<|rM J J<|rN<|ab.stop<|?_
    cases h
    exact jt _ _ J<|aj.lq [] J J J
  ·refine ab.exit J<|have h:=cj h fj;aE<|rA J J<|rN<|ab.ret<|?_
   cases h
   exact hP J J
theorem yX {aa:bq} {ai:Int} {r:Int×Bool} (h:nG aa ai=some r):Pu Tryz.prog 141 [.str aa,I ai] (.kj [I r.1,.bool r.2]):=by
 unfold nG at h
 refine aF.bC Tryz.func141 J Tryz.ntmps141 Tryz.results141 J J ?_
 refine aE<|rA J J<|rA J J<|rN<|aE<|rM J J<|aS J (si J) cR J<|rA J J<|rN<|tS<|tS<|ab.cut (fun aC=>∃ (c1:Bool),je aa c1=some r∧aC=⟨61,[(0,.str aa),(6,.str (Lib.trimPrefix aa ([45]:bq))),(36,.bool c1)],[]⟩) ?_ ?_
 ·refine tR<|rM J J<|ae.qv (Gu J J) J<|rM J J<|gF h J J J (fun h=>?_) (fun h=>?_)
  ·refine rM J J<|rY J J J<|ae.qv (jO J) J<|rY J J J<|rM J J<|rY J J J<|ae.qv (fL J J) J<|rE J J J<|rM J J<|gF h J J J (fun h=>?_) (fun h=>?_)
   ·refine rM J J<|rY J J J<|aD h fun c2 e1 h=>ae.qv (jk J J e1) J<|rY J J J<|ae.qv (cC J J) J<|rY J J J<|rM J J<|ae.cy J J J (fun hc=>?_) (fun hc=>?_)
    ·rw [om hc] at h
     refine rM J J<|rY J J J<|ae.qv (jO J) J<|rY J J J<|ae.qv (fL J J) J<|rY J J J<|rM J J<|ae.dA J J J (fun hc=>?_) (fun hc=>?_)
     ·rw [uA hc] at h
      exact rM J J<|rY J J J<|ae.qv (jO J) J<|rY J J J<|rM J J<|rY J J J<|ae.qv (jO J) J<|rY J J J<|ae.qv (fL J J) J<|rY J J J<|rE J J J<|rY J J J<|rT J J J<|rE J J J<|rN<|ab.stop<|aj.lq [] ⟨decide (((Lib.trimPrefix aa ([45]:bq)).length:Int) < (aa.length:Int)),h,J⟩ J J
     ·rw [uz hc] at h
      exact rG J J J J<|rG J J J J<|rG J J J J<|rG J J J J<|rY J J J<|rT J J J<|rY J J J<|rT J J J<|rE J J J<|rN<|ab.stop<|aj.lq [] ⟨true,h,J⟩ J J
    ·rw [oo hc] at h
     exact rG J J J J<|rG J J J J<|rG J J J J<|ae.aH J J J<|ae.aH J J J<|ae.aH J J J<|ae.aH J J J<|ae.aH J J J<|rG J J J J<|rY J J J<|rE J J J<|rE J J J<|rN<|ab.stop<|aj.lq [] ⟨false,h,J⟩ J J
   ·exact rG J J J J<|rG J J J J<|rG J J J J<|ae.aH J J J<|ae.aH J J J<|ae.aH J J J<|ae.aH J J J<|ae.aH J J J<|ae.aH J J J<|ae.aH J J J<|ae.aH J J J<|ae.aH J J J<|ae.aH J J J<|rG J J J J<|rT J J J<|rN<|ab.stop<|aj.lq [] ⟨true,h,J⟩ J J
  ·exact rG J J J J<|rG J J J J<|rG J J J J<|rT J J J<|rM J J<|rG J J J J<|rG J J J J<|rG J J J J<|rG J J J J<|ae.aH J J J<|ae.aH J J J<|ae.aH J J J<|ae.aH J J J<|ae.aH J J J<|ae.aH J J J<|ae.aH J J J<|ae.aH J J J<|ae.aH J J J<|ae.aH J J J<|rG J J J J<|rT J J J<|rN<|ab.stop<|aj.lq [] ⟨true,h,J⟩ J J
 ·rintro aC ⟨c1,h,rfl⟩
  unfold je at h
  refine cB h J (fun h=>?_) (fun h=>?_)
  ·refine aE<|rA J J<|rA J J<|rN<|ab.ret<|?_
   cases h
   exact hQ J J J
  ·refine tK<|tS<|aE<|rM J J<|ae.qv (jO J) J<|rM J J<|rN<|ab.block<|ab.cM (fun x:Int=>dE aa x) (fun x aC=>aC=⟨61,[(0,.str aa),(6,.str (Lib.trimPrefix aa ([45]:bq))),(38,I ((Lib.trimPrefix aa ([45]:bq)).length:Int)),(39,I x)],[]⟩) h ?_ ?_
   ·exact aj.lq [] J J J
   ·intro n4 z1 aC J1 fy h jt fj
    obtain rfl:=fy
    replace h:dE aa n4=some z1:=h
    unfold dE at h
    refine aE<|ae.qv (bG J J) J<|rN<|tS<|cD h J (fun h=>?_) (fun h=>?_)
    ·refine tK<|tS<|ab.block<|aE<|rM J J<|rA J J<|rN<|tS<|ab.cut (fun aC=>∃ (c5:Bool),kB n4 c5=some z1∧aC=⟨61,[(0,.str aa),(6,.str (Lib.trimPrefix aa ([45]:bq))),(38,I ((Lib.trimPrefix aa ([45]:bq)).length:Int)),(39,I n4),(51,.bool c5)],[]⟩) ?_ ?_
     ·refine tR<|rM J J<|rM J J<|aD h fun c6 e2 h=>ae.qv (jk J J e2) J<|ae.qv (bG J J) J<|rM J J<|gF h J J J (fun h=>?_) (fun h=>?_)
      ·exact rM J J<|rY J J J<|rM J J<|rY J J J<|aD h fun c7 e3 h=>ae.qv (jk J J e3) J<|rY J J J<|ae.qv (fL J J) J<|rE J J J<|rN<|ab.stop<|aj.lq [] ⟨decide ((57:Int) < (c7.toNat:Int)),h,J⟩ J J
      ·exact rG J J J J<|rG J J J J<|rG J J J J<|rT J J J<|rN<|ab.stop<|aj.lq [] ⟨true,h,J⟩ J J
     ·rintro aC ⟨c5,h,rfl⟩
      unfold kB at h
      refine cB h J (fun h=>?_) (fun h=>?_)
      ·refine aE<|rA J J<|rA J J<|rN<|ab.ret<|have h:=cj h fj;?_
       cases h
       exact hQ J J J
      ·refine tK<|ab.bY<|tR<|ae.qv (bc J J) J<|rM J J<|rN<|ab.stop<|?_
       cases h
       exact jt _ _ J<|aj.lq [] J J J
    ·refine ab.exit J<|have h:=cj h fj;?_
     unfold mf at h
     refine aE<|rM J J<|aD h fun v8 e4 h=>Jv J (x4 e4) cR J fun e9 e5=>rM J J<|rX J J J<|rX J J J<|rA J J<|rA J J<|rN<|tS<|ab.eh (id:=11) (A:=[0,0,2,1,15]) 5 mixed J (by kernel_rfl) (by kernel_rfl)<|AM.qv (aA J) J<|AM.qv (aA J) J<|AM.qv (N2 e5 J) J<|AM.qv (ek J) J<|AM.qv (ek J) J<|AM.nil<|rN<|ab.ret<|?_
     cases h
     exact hQ J J J
theorem yf {aa:List bq} {ai:Int} {r:(List Int)×Bool} (h:mg aa ai=some r):aF Tryz.prog 109 [JN aa,I ai] [] (T1 (fun qN=>[(qN,dV r.1)]) (fun qN=>.kj [.sl 1 qN 0 r.1.length,.bool r.2])):=by
 unfold mg at h
 refine aF.ia ?_
 refine aF.bC Tryz.func109 J Tryz.ntmps109 Tryz.results109 J J ?_
 refine aE<|rA J J<|rA J J<|rN<|aE<|rA J J<|rN<|tS<|aE<|rM J J<|ae.qv (cV J) J<|rM J J<|rN<|ab.block<|ab.cM (fun x:(List Int)×Int=>ir aa ai x.1 x.2) (fun x aC=>∃ (b4:Bk),aC=⟨31,[(1,I ai),(6,.sl 1 b4 0 x.1.length),(11,JN aa),(12,I (aa.length:Int)),(13,I x.2)],[(b4,dV x.1)]⟩) h ?_ ?_
 ·exact aj.arr (s:=6) 1 J fun b7=>aj.lq [0] ⟨b7,J⟩ J J
 ·intro x z1 aC J1 fy h jt fj
  obtain ⟨l5,n6⟩:=x
  obtain ⟨b4,rfl⟩:=fy
  replace h:ir aa ai l5 n6=some z1:=h
  unfold ir at h
  refine aE<|ae.qv (bG J J) J<|rN<|tS<|cD h J (fun h=>?_) (fun h=>?_)
  ·refine tK<|tS<|ab.block<|aE<|aD h fun v8 e1 h=>ae.qv (bO J J J e1 J J) J<|ae.qv (aX J J J) J<|rA J J<|rN<|aE<|rM J J<|rM J J<|aD h fun v9 e2 h=>aS J (yX e2) cR J<|rM J J<|rX J J J<|rX J J J<|rA J J<|rA J J<|rN<|tS<|aE<|rM J J<|ae.qv (cu J) J<|rN<|cB h J (fun h=>?_) (fun h=>?_)
   ·refine aE<|rA J J<|rA J J<|rN<|ab.ret<|have h:=cj h fj;?_
    cases h
    exact aj.arr (s:=4) 1 J fun rB=>aj.here ⟨_,.cons (.tmp _ _ J) (.cons (.tmp _ _ J) .nil),_,.cons .p0 .nil,⟨rB,J,J⟩⟩
   ·refine tK<|tR<|rM J J<|rM J J<|aU (xs:=([v9.1]:List Int).map I) J J J J J J<|aD h fun iT e3 h=>kU (g:=I) J J J J J J J J (.list _) e3 (fun _=>.p0) J fun rb=>rA J J<|rN<|ab.bY<|tR<|ae.qv (bc J J) J<|rM J J<|rN<|ab.stop<|?_
    cases h
    exact jt _ _ J<|aj.lq [0] ⟨rb,J⟩ J J
  ·refine ab.exit J<|have h:=cj h fj;aE<|rM J J<|rA J J<|rA J J<|rN<|ab.ret<|?_
   cases h
   exact hI J J [0] J ⟨b4,J,J⟩
theorem qn {aa:bq} {r:Version×Int} (h:fu aa=some r):Pu Tryz.prog 63 [.str aa] (.kj [Version.av r.1,I r.2]):=by
 unfold fu at h
 refine aF.bC Tryz.func63 J Tryz.ntmps63 Tryz.results63 J J ?_
 refine aE<|ca J J J J fun b1=>rA J J<|rN<|aE<|rM J J<|aD h fun v2 e1 h=>ow J (wL e1) cR .nil (fun _=>J) J fun b3=>aD h fun v4 e2 h=>xI J (yf e2) .nil (.cons (ln.kL .p0) (.cons (.co (.refl _)) .nil)) (fun _=>J) (fun _=>J) (fun _=>(.cons (KM.kL (fun _=>J)) .nil)) J fun b5=>rM J J<|rX J J J<|rX J J J<|rA J J<|rA J J<|rN<|tS<|tS<|ab.cut (fun aC=>∃ (c6:Bool),fJ v4 c6=some r∧aC=⟨36,[(2,.ptr b1 0),(4,.sl 1 b5 0 v4.1.length),(19,.bool c6)],[(b1,.cells [I (0:Int),I (0:Int),I (0:Int)]),(b5,dV v4.1)]⟩) ?_ ?_
 ·refine tR<|rM J J<|ae.qv (cu J) J<|rM J J<|ae.guard J J J (fun hc=>?_) (fun hc=>?_)
  ·rw [rq hc] at h
   exact rM J J<|rY J J J<|ae.qv (iX J) J<|rY J J J<|ae.qv (kT J J) J<|rE J J J<|rN<|ab.stop<|aj.lq [2,0] ⟨decide ((v4.1.length:Int)≠(3:Int)),h,J⟩ J J
  ·rw [rn hc] at h
   exact rG J J J J<|rG J J J J<|rT J J J<|rN<|ab.stop<|aj.lq [2,0] ⟨true,h,J⟩ J J
 ·rintro aC ⟨c6,h,rfl⟩
  unfold fJ at h
  refine cB h J (fun h=>?_) (fun h=>?_)
  ·refine aE<|ae.qv (fV J J J J J) J<|ay J J J J .p0 J J<|rA J J<|rN<|ab.ret<|?_
   cases h
   exact aj.here ⟨_,.cons (.all _ _ _ _ _ _ J .p0 ax.h aV.h J J) (.cons (.tmp _ _ J) .nil),J⟩
  ·refine tK<|tS<|aD h fun v7 e3 h=>aD h fun v8 e4 h=>aD h fun v9 e5 h=>ab.j6 (id:=4) (A:=[0,1,3,0,8,24,0,64,192,511,0,2047]) (H0:=[]) (HH:=fun β=>[((β 10),.cells [I (0:Int),I (0:Int),I (0:Int)]),(b1,.cells [I (0:Int),I (0:Int),I (0:Int)]),(b5,dV v4.1)]) 11 mixed J (by kernel_rfl) (by kernel_rfl) [⟨some 10,none,[],fun b=>(b,.cells [I (0:Int),I (0:Int),I (0:Int)]),none,[]⟩] [10] J (by kernel_rfl) J .nil (fun _=>J)<|AT.am 10 J J<|AM.qv (aA J) J<|AM.qv (aQ J J J e3) J<|AM.qv (cN (g:=I) J J (.inl .p1) e3 J) J<|AM.qv (aA J) J<|AM.qv (aQ J J J e4) J<|AM.qv (cN (g:=I) J J (.inl .p1) e4 J) J<|AM.qv (aA J) J<|AM.qv (aQ J J J e5) J<|AM.qv (cN (g:=I) J J (.inl .p1) e5 J) J<|AM.qv (fV J J J J J) J<|AM.nil<|AT.Fj (V:=fun b=>.ptr b 0) (Ti:=[]) (Pi:=fun b=>[(b,.cells [I (0:Int),I (0:Int),I (0:Int)])]) (fun _=>J) (fun _=>J) (fun _ _=>J) J (fun _=>J) J J J ?_ ?_
   ·exact ca J J J J fun rB=>ae.nil ⟨rB,_,J,J⟩
   refine AT.uE (fun _=>J) fun β=>?_
   generalize β 10=rB
   clear β
   refine ay J J J J .p0 J J<|rN<|tS<|aE<|ae.qv (aW J J .p0 J) J<|aS J (mr (J:gu (⟨v7,v8,v9⟩:Version)=_)) cR J<|ae.qv (cu J) J<|rN<|cB h J (fun h=>?_) (fun h=>?_)
   ·refine aE<|ae.qv (fV J J J J J) J<|ay J J J J .p1 J J<|rA J J<|rN<|ab.ret<|?_
    cases h
    exact aj.here ⟨_,.cons (.all _ _ _ _ _ _ J .p1 ax.h aV.h J J) (.cons (.tmp _ _ J) .nil),J⟩
   ·refine tK<|aE<|ae.qv (aW J J .p0 J) J<|ay J J J J .p1 J J<|rA J J<|rN<|ab.ret<|?_
    cases h
    exact aj.here ⟨_,.cons (.all _ _ _ _ _ _ J .p1 ax.h aV.h J J) (.cons (.tmp _ _ J) .nil),J⟩
theorem tz {r:Bool} (h:lL=some r):Pu Tryz.prog 22 [] (.bool r):=by
 unfold lL at h
 refine aF.bC Tryz.func22 J Tryz.ntmps22 Tryz.results22 J J ?_
 refine aE<|rA J J<|rN<|aE<|aD h fun v1 e1 h=>aS J (qn e1) cR J<|rM J J<|rX J J J<|rX J J J<|ca J J J J fun b2=>ay J J J J .p0 J J<|rA J J<|rN<|tS<|ab.cut (fun aC=>∃ (c3:Bool),mh c3=some r∧aC=⟨14,[(0,.bool c3)],[]⟩) ?_ ?_
 ·refine tR<|rM J J<|ae.qv (cC J J) J<|rM J J<|ae.cy J J J (fun hc=>?_) (fun hc=>?_)
  ·rw [om hc] at h
   exact ae.qv (aW J J .p0 J) J<|rY J J J<|ae.qv (fV J J J J J) J<|rY J J J<|ae.qv (BK (g:=Version.av) (X:=v1.1) (Y:=(⟨(1:Int),(2:Int),(3:Int)⟩:Version)) J J J J J) J<|rT J J J<|rA J J<|rN<|ab.stop<|aj.lq [] ⟨decide (v1.1=(⟨(1:Int),(2:Int),(3:Int)⟩:Version)),h,J⟩ J J
  ·rw [oo hc] at h
   exact rG J J J J<|rG J J J J<|rE J J J<|rA J J<|rN<|ab.stop<|aj.lq [] ⟨false,h,J⟩ J J
 ·rintro aC ⟨c3,h,rfl⟩
  unfold mh at h
  refine ab.ret<|?_
  cases h
  exact hP J J
theorem JT [GI:bD] {aa:Campaign} {ai:bq} {r:Int} (h:Cj aa ai=some r):Pu Tryz.prog 88 [Campaign.av aa,.str ai] (I r):=by
 unfold Cj at h
 refine aF.bC Tryz.func88 J Tryz.ntmps88 Tryz.results88 J J ?_
 refine aE<|gi J J J J fun b1=>rA J J<|rN<|aE<|rA J J<|rN<|tS<|aE<|rF J J J<|rL J J .p0 J J<|aD h fun q2 e1 h=>ae.qv (Hq e1 J J) J<|rM J J<|aD h fun q3 e2 h=>ae.qv (Hq e2 J J) J<|Fx J J<|ae.qv (cV J) J<|rM J J<|rN<|ab.block<|ab.cM (fun x:Int×Int=>qh q3 x.1 x.2) (fun x aC=>aC=⟨31,[(5,.int .u64 x.1),(13,XJ (lA q3)),(14,I ((lA q3).length:Int)),(15,I x.2)],[]⟩) h ?_ ?_
 ·exact aj.lq [] J J J
 ·intro x z1 aC J1 fy h jt fj
  obtain ⟨n6,n7⟩:=x
  obtain rfl:=fy
  replace h:qh q3 n6 n7=some z1:=h
  unfold qh at h
  refine aE<|ae.qv (bG J J) J<|rN<|tS<|cD h J (fun h=>?_) (fun h=>?_)
  ·refine tK<|tS<|ab.block<|aE<|aD h fun v8 e3 h=>ae.qv (bO J J J e3 J J) J<|ae.qv (aX J J J) J<|rA J J<|rN<|tR<|rM J J<|rM J J<|ae.qv (fY J) J<|ae.qv (D8 J J) J<|ae.qv (nR J J) J<|rA J J<|rN<|ab.bY<|tR<|ae.qv (bc J J) J<|rM J J<|rN<|ab.stop<|?_
   cases h
   exact jt _ _ J<|aj.lq [] J J J
  ·refine ab.exit J<|have h:=cj h fj;aE<|rM J J<|rM J J<|ae.qv (zn J J (by decide)) J<|ae.qv (D8 J J) J<|ae.qv (Gt J J (by decide)) J<|ae.qv (fY J) J<|rA J J<|rN<|ab.ret<|?_
   cases h
   exact hP J J
theorem yg [GI:bD] {aa:Campaign} {ai:bq} {r:Int} (h:qj aa ai=some r):Pu Tryz.prog 69 [Campaign.av aa,.str ai] (I r):=by
 unfold qj at h
 refine aF.bC Tryz.func69 J Tryz.ntmps69 Tryz.results69 J J ?_
 refine aE<|gi J J J J fun b1=>rA J J<|rN<|aE<|ae.qv (aW J J .p0 J) J<|rM J J<|aD h fun v2 e1 h=>aS J (JT e1) cR J<|rA J J<|rN<|tS<|aE<|rF J J J<|rL J J .p0 J J<|ae.qv (cV J) J<|rM J J<|rN<|ab.block<|ab.cM (fun x:Int×Int=>nH aa x.1 x.2) (fun x aC=>aC=⟨27,[(5,I x.1),(12,oM aa.aB),(13,I (aa.aB.length:Int)),(14,I x.2)],[]⟩) h ?_ ?_
 ·exact aj.lq [] J J J
 ·intro x z1 aC J1 fy h jt fj
  obtain ⟨n5,n6⟩:=x
  obtain rfl:=fy
  replace h:nH aa n5 n6=some z1:=h
  unfold nH at h
  refine aE<|ae.qv (bG J J) J<|rN<|tS<|cD h J (fun h=>?_) (fun h=>?_)
  ·refine tK<|tS<|ab.block<|aE<|rM J J<|aD h fun v7 e2 h=>ae.qv (bO J J J e2 J J) J<|ae.qv (bt J J J) J<|ca J J J J fun b8=>rA J J<|ay J J J J .p0 J J<|rN<|aE<|rM J J<|rF J J J<|rL J J .p0 J J<|ae.qv (cF J J) J<|rA J J<|rN<|aE<|rM J J<|ae.qv (bG J J) J<|rN<|cD h J (fun h=>?_) (fun h=>?_)
   ·refine aE<|rM J J<|rA J J<|rN<|ab.ret<|have h:=cj h fj;?_
    cases h
    exact hP J J
   ·refine tK<|ab.bY<|tR<|ae.qv (bc J J) J<|rM J J<|rN<|ab.stop<|?_
    cases h
    exact jt _ _ J<|aj.lq [] J J J
  ·refine ab.exit J<|have h:=cj h fj;aE<|rA J J<|rN<|ab.ret<|?_
   cases h
   exact hP J J
theorem qO [GI:bD] {aa:List Int} {ai:Int} {r:Int} (h:fS aa ai=some r):Pu Tryz.prog 140 [fc aa,I ai] (I r):=by
 unfold fS at h
 refine aF.bC Tryz.func140 J Tryz.ntmps140 Tryz.results140 J J ?_
 refine aE<|rA J J<|rN<|tS<|aE<|rM J J<|ae.qv (cV J) J<|rM J J<|rN<|ab.block<|ab.cM (fun x:Int=>bL aa ai x) (fun x aC=>aC=⟨19,[(0,fc aa),(1,I ai),(7,I (aa.length:Int)),(8,I x)],[]⟩) h ?_ ?_
 ·exact aj.lq [] J J J
 ·intro n2 z1 aC J1 fy h jt fj
  obtain rfl:=fy
  replace h:bL aa ai n2=some z1:=h
  unfold bL at h
  refine aE<|ae.qv (bG J J) J<|rN<|tS<|cD h J (fun h=>?_) (fun h=>?_)
  ·refine tK<|tS<|ab.block<|aE<|rM J J<|rA J J<|rN<|aE<|rM J J<|rM J J<|rM J J<|aD h fun v3 e1 h=>ae.qv (bO J J J e1 J J) J<|ae.qv (aX J J J) J<|ae.qv (cC J J) J<|rN<|cD h J (fun h=>?_) (fun h=>?_)
   ·refine aE<|rM J J<|rA J J<|rN<|ab.ret<|have h:=cj h fj;?_
    cases h
    exact hP J J
   ·refine tK<|ab.bY<|tR<|ae.qv (bc J J) J<|rM J J<|rN<|ab.stop<|?_
    cases h
    exact jt _ _ J<|aj.lq [] J J J
  ·refine ab.exit J<|have h:=cj h fj;aE<|rA J J<|rN<|ab.ret<|?_
   cases h
   exact hP J J
theorem pb [GI:bD] {aa:List Int} {ai:Int} {r:Bool} (h:cd aa ai=some r):Pu Tryz.prog 108 [fc aa,I ai] (.bool r):=by
 unfold cd at h
 refine aF.bC Tryz.func108 J Tryz.ntmps108 Tryz.results108 J J ?_
 refine aE<|rA J J<|rN<|aE<|rM J J<|rM J J<|aD h fun v1 e1 h=>aS J (qO e1) cR J<|ae.qv (oe J J) J<|rA J J<|rN<|ab.ret<|?_
 cases h
 exact hP J J
theorem uV [GI:bD] {aa:Campaign} {ai:bq} {au:List MarkS} {aK:Int} {r:(List MarkS)} (h:mT aa ai au aK=some r):aF Tryz.prog 62 [Campaign.av aa,.str ai,o8 au,I aK] [] (T1 (fun qN=>[(qN,fx r)]) (fun qN=>.sl 6 qN 0 r.length)):=by
 unfold mT at h
 refine aF.ia ?_
 refine aF.bC Tryz.func62 J Tryz.ntmps62 Tryz.results62 J J ?_
 refine aE<|gi J J J J fun b1=>rA J J<|rN<|aE<|rA J J<|rN<|tS<|aE<|rM J J<|ae.qv (cV J) J<|rM J J<|rN<|ab.block<|ab.cM (fun x:(List MarkS)×Int=>jR aa ai au aK x.1 x.2) (fun x aC=>∃ (b5:Bk),aC=⟨79,[(1,.str ai),(3,I aK),(4,.ptr b1 0),(9,.sl 6 b5 0 x.1.length),(15,o8 au),(16,I (au.length:Int)),(17,I x.2)],[(b1,.cells (wM aa)),(b5,fx x.1)]⟩) h ?_ ?_
 ·exact aj.arr (s:=9) 6 J fun b8=>aj.lq [1,0] ⟨b8,J⟩ J J
 ·intro x z1 aC J1 fy h jt fj
  obtain ⟨l6,n7⟩:=x
  obtain ⟨b5,rfl⟩:=fy
  replace h:jR aa ai au aK l6 n7=some z1:=h
  unfold jR at h
  refine aE<|ae.qv (bG J J) J<|rN<|tS<|cD h J (fun h=>?_) (fun h=>?_)
  ·refine tK<|tS<|ab.cut (fun aC=>∃ (b9:Bk) (l10:List MarkS),jP n7 l10=some z1∧aC=⟨79,[(1,.str ai),(3,I aK),(4,.ptr b1 0),(9,.sl 6 b9 0 l10.length),(15,o8 au),(16,I (au.length:Int)),(17,I n7)],[(b1,.cells (wM aa)),(b9,fx l10)]⟩) ?_ ?_
   ·refine ab.block<|aE<|aD h fun v11 e1 h=>ae.qv (bO J J J e1 J J) J<|ae.qv (bt J J J) J<|ca J J J J fun rb=>ay J J J J .p0 J J<|rN<|tS<|tS<|ab.cut (fun aC=>∃ (On:Bool),iK l6 n7 v11 On=some z1∧aC=⟨79,[(1,.str ai),(3,I aK),(4,.ptr b1 0),(9,.sl 6 b5 0 l6.length),(11,.ptr rb 0),(15,o8 au),(16,I (au.length:Int)),(17,I n7),(37,.bool On)],[(b1,.cells (wM aa)),(b5,fx l6),(rb,.cells (yK v11))]⟩) ?_ ?_
    ·refine tR<|rF J J J<|rL J J .p0 J J<|rM J J<|ae.qv (Nk J J) J<|rM J J<|ae.dA J J J (fun hc=>?_) (fun hc=>?_)
     ·rw [uA hc] at h
      refine rF J J J<|rY J J J<|rL J J .p0 J J<|rY J J J<|rF J J J<|rY J J J<|rL J J .p1 J J<|rY J J J<|ae.qv (bG J J) J<|rE J J J<|rM J J<|ae.dA J J J (fun hc=>?_) (fun hc=>?_)
      ·rw [uA hc] at h
       exact rF J J J<|rY J J J<|rL J J .p0 J J<|rY J J J<|rM J J<|rY J J J<|ae.qv (fL J J) J<|rE J J J<|rN<|ab.stop<|aj.lq [1,1,0] ⟨decide (aK < v11.At),h,J⟩ J J
      ·rw [uz hc] at h
       exact rG J J J J<|rG J J J J<|rG J J J J<|rT J J J<|rN<|ab.stop<|aj.lq [1,1,0] ⟨true,h,J⟩ J J
     ·rw [uz hc] at h
      exact rG J J J J<|rG J J J J<|rG J J J J<|rG J J J J<|rT J J J<|rM J J<|rG J J J J<|rG J J J J<|rG J J J J<|rG J J J J<|rT J J J<|rN<|ab.stop<|aj.lq [1,1,0] ⟨true,h,J⟩ J J
    ·rintro aC ⟨On,h,rfl⟩
     unfold iK at h
     refine cB h J (fun h=>?_) (fun h=>?_)
     ·exact ab.exit J<|ab.stop<|aj.lq [0,0] ⟨b5,l6,h,J⟩ J J
     ·refine tK<|aE<|ca J J J J fun IL=>rN<|tS<|aE<|rM J J<|ae.qv (iX J) J<|ae.qv (cF J J) J<|rA J J<|rN<|aE<|rM J J<|ae.qv (oe J J) J<|rN<|ab.cut (fun aC=>∃ (n15:Int) (Px:bq) (n17:Int) (n18:Int) (n19:Int) (n20:Int),jQ l6 n7 v11 n15 Px n17 n18 n19 n20=some z1∧aC=⟨79,[(1,.str ai),(3,I aK),(4,.ptr b1 0),(9,.sl 6 b5 0 l6.length),(11,.ptr rb 0),(12,.ptr IL 0),(15,o8 au),(16,I (au.length:Int)),(17,I n7)],[(b1,.cells (wM aa)),(b5,fx l6),(rb,.cells (yK v11)),(IL,.cells [I n15,.str Px,I n17,I n18,I n19,I n20])]⟩) ?_ ?_
      ·refine cD h J (fun h=>?_) (fun h=>?_)
       ·exact tR<|rM J J<|rM J J<|aD h fun v21 e2 h=>ae.qv (aQ J J J e2) J<|ae.qv (bj (g:=MarkS.av) J J (.inl .p2) J e2 J) J<|ay J J J J .p0 J J<|rN<|ab.stop<|aj.lq [1,1,1,0] ⟨v21.At,v21.Device,v21.Kind,v21.Version.aN,v21.Version.aO,v21.Version.aM,h,J⟩ J J
       ·exact tK<|ab.stop<|aj.lq [1,1,1,0] ⟨(0:Int),[],(0:Int),(0:Int),(0:Int),(0:Int),h,J⟩ J J
      ·rintro aC ⟨n15,Px,n17,n18,n19,n20,h,rfl⟩
       unfold jQ at h
       refine aE<|Dp (gk:=I) (kp:=(iP 1 I)) (β:=(fun _=>⟨none,0⟩)) J fun KV Ut=>kK J J J J J J fun tx=>ae.ghost<|aj.sf (kp:=(iP 1 I)) (β:=(fun _=>⟨none,0⟩)) (M:=([]:List (Int×(List Int)))) (1:Int) .p2<|aj.here<|p9 (gk:=I) (kp:=(iP 1 I)) (β:=(fun _=>⟨none,0⟩)) (M:=([]:List (Int×(List Int)))) (key:=(1:Int)) (v:=[(0:Int),(3:Int),(4:Int)]) (b:=tx) J J J J .p1<|ae.ghost<|aj.uH (kp:=(iP 1 I)) (β:=(fun _=>⟨none,0⟩)) (M:=([]:List (Int×(List Int)))) (key:=(1:Int)) (v:=[(0:Int),(3:Int),(4:Int)]) J .p0 .p1<|aj.here<|kK J J J J J J fun Ck=>ae.ghost<|aj.sf (kp:=(iP 1 I)) (β:=(eG (fun _=>⟨none,0⟩) (1:Int) tx)) (M:=(bT ([]:List (Int×(List Int))) (1:Int) [(0:Int),(3:Int),(4:Int)])) (2:Int) .p2<|aj.here<|p9 (gk:=I) (kp:=(iP 1 I)) (β:=(eG (fun _=>⟨none,0⟩) (1:Int) tx)) (M:=(bT ([]:List (Int×(List Int))) (1:Int) [(0:Int),(3:Int),(4:Int)])) (key:=(2:Int)) (v:=[(1:Int)]) (b:=Ck) J J J J .p1<|ae.ghost<|aj.uH (kp:=(iP 1 I)) (β:=(eG (fun _=>⟨none,0⟩) (1:Int) tx)) (M:=(bT ([]:List (Int×(List Int))) (1:Int) [(0:Int),(3:Int),(4:Int)])) (key:=(2:Int)) (v:=[(1:Int)]) J .p0 .p1<|aj.here<|kK J J J J J J fun vG=>ae.ghost<|aj.sf (kp:=(iP 1 I)) (β:=(eG (eG (fun _=>⟨none,0⟩) (1:Int) tx) (2:Int) Ck)) (M:=(bT (bT ([]:List (Int×(List Int))) (1:Int) [(0:Int),(3:Int),(4:Int)]) (2:Int) [(1:Int)])) (5:Int) .p2<|aj.here<|p9 (gk:=I) (kp:=(iP 1 I)) (β:=(eG (eG (fun _=>⟨none,0⟩) (1:Int) tx) (2:Int) Ck)) (M:=(bT (bT ([]:List (Int×(List Int))) (1:Int) [(0:Int),(3:Int),(4:Int)]) (2:Int) [(1:Int)])) (key:=(5:Int)) (v:=[(1:Int)]) (b:=vG) J J J J .p1<|ae.ghost<|aj.uH (kp:=(iP 1 I)) (β:=(eG (eG (fun _=>⟨none,0⟩) (1:Int) tx) (2:Int) Ck)) (M:=(bT (bT ([]:List (Int×(List Int))) (1:Int) [(0:Int),(3:Int),(4:Int)]) (2:Int) [(1:Int)])) (key:=(5:Int)) (v:=[(1:Int)]) J .p0 .p1<|aj.here<|kK J J J J J J fun KW=>ae.ghost<|aj.sf (kp:=(iP 1 I)) (β:=(eG (eG (eG (fun _=>⟨none,0⟩) (1:Int) tx) (2:Int) Ck) (5:Int) vG)) (M:=(bT (bT (bT ([]:List (Int×(List Int))) (1:Int) [(0:Int),(3:Int),(4:Int)]) (2:Int) [(1:Int)]) (5:Int) [(1:Int)])) (3:Int) .p2<|aj.here<|p9 (gk:=I) (kp:=(iP 1 I)) (β:=(eG (eG (eG (fun _=>⟨none,0⟩) (1:Int) tx) (2:Int) Ck) (5:Int) vG)) (M:=(bT (bT (bT ([]:List (Int×(List Int))) (1:Int) [(0:Int),(3:Int),(4:Int)]) (2:Int) [(1:Int)]) (5:Int) [(1:Int)])) (key:=(3:Int)) (v:=[(2:Int)]) (b:=KW) J J J J .p1<|ae.ghost<|aj.uH (kp:=(iP 1 I)) (β:=(eG (eG (eG (fun _=>⟨none,0⟩) (1:Int) tx) (2:Int) Ck) (5:Int) vG)) (M:=(bT (bT (bT ([]:List (Int×(List Int))) (1:Int) [(0:Int),(3:Int),(4:Int)]) (2:Int) [(1:Int)]) (5:Int) [(1:Int)])) (key:=(3:Int)) (v:=[(2:Int)]) J .p0 .p1<|aj.here<|kK J J J J J J fun KU=>ae.ghost<|aj.sf (kp:=(iP 1 I)) (β:=(eG (eG (eG (eG (fun _=>⟨none,0⟩) (1:Int) tx) (2:Int) Ck) (5:Int) vG) (3:Int) KW)) (M:=(bT (bT (bT (bT ([]:List (Int×(List Int))) (1:Int) [(0:Int),(3:Int),(4:Int)]) (2:Int) [(1:Int)]) (5:Int) [(1:Int)]) (3:Int) [(2:Int)])) (4:Int) .p2<|aj.here<|p9 (gk:=I) (kp:=(iP 1 I)) (β:=(eG (eG (eG (eG (fun _=>⟨none,0⟩) (1:Int) tx) (2:Int) Ck) (5:Int) vG) (3:Int) KW)) (M:=(bT (bT (bT (bT ([]:List (Int×(List Int))) (1:Int) [(0:Int),(3:Int),(4:Int)]) (2:Int) [(1:Int)]) (5:Int) [(1:Int)]) (3:Int) [(2:Int)])) (key:=(4:Int)) (v:=[(2:Int)]) (b:=KU) J J J J .p1<|ae.ghost<|aj.uH (kp:=(iP 1 I)) (β:=(eG (eG (eG (eG (fun _=>⟨none,0⟩) (1:Int) tx) (2:Int) Ck) (5:Int) vG) (3:Int) KW)) (M:=(bT (bT (bT (bT ([]:List (Int×(List Int))) (1:Int) [(0:Int),(3:Int),(4:Int)]) (2:Int) [(1:Int)]) (5:Int) [(1:Int)]) (3:Int) [(2:Int)])) (key:=(4:Int)) (v:=[(2:Int)]) J .p0 .p1<|aj.here<|rM J J<|rF J J J<|rL J J .p4 J J<|aD h fun pH e3 h=>Fs (gk:=I) (sz:=1) (g:=I) (β:=(eG (eG (eG (eG (eG (fun _=>⟨none,0⟩) (1:Int) tx) (2:Int) Ck) (5:Int) vG) (3:Int) KW) (4:Int) KU)) (M:=(bT (bT (bT (bT (bT ([]:List (Int×(List Int))) (1:Int) [(0:Int),(3:Int),(4:Int)]) (2:Int) [(1:Int)]) (5:Int) [(1:Int)]) (3:Int) [(2:Int)]) (4:Int) [(2:Int)])) (key:=v11.Kind) J J .p0 .p1 J e3 J fun Zp L5=>rA J J<|rN<|tS<|ab.cut (fun aC=>∃ (c31:Bool),nj l6 n7 v11 c31=some z1∧aC=⟨79,[(1,.str ai),(3,I aK),(4,.ptr b1 0),(9,.sl 6 b5 0 l6.length),(11,.ptr rb 0),(15,o8 au),(16,I (au.length:Int)),(17,I n7),(72,.bool c31)],[(b1,.cells (wM aa)),(b5,fx l6),(rb,.cells (yK v11))]⟩) ?_ ?_
       ·refine tR<|rM J J<|rF J J J<|rL J J .p6 J J<|aD h fun v32 e4 h=>gh J (pb e4) (.cons (ln.kL .p0) (.cons (.co (.refl _)) .nil)) J J<|rM J J<|ae.guard J J J (fun hc=>?_) (fun hc=>?_)
        ·rw [D6 hc] at h
         refine rF J J J<|rY J J J<|rL J J .p5 J J<|rY J J J<|ae.qv (cC J J) J<|rY J J J<|rM J J<|ae.dA J J J (fun hc=>?_) (fun hc=>?_)
         ·rw [uA hc] at h
          exact rF J J J<|rY J J J<|ae.qv (bA J J .p5 J J) J<|rY J J J<|rF J J J<|rY J J J<|ae.qv (bA J J .p6 J J) J<|rY J J J<|ae.qv (BK (g:=Version.av) (X:=v11.Version) (Y:=(⟨n18,n19,n20⟩:Version)) J J J J J) J<|rY J J J<|rE J J J<|rT J J J<|ae.ghost<|aj.Ho (gk:=I) (sz:=1) (g:=I) (β:=(eG (eG (eG (eG (eG (fun _=>⟨none,0⟩) (1:Int) tx) (2:Int) Ck) (5:Int) vG) (3:Int) KW) (4:Int) KU)) (M:=(bT (bT (bT (bT (bT ([]:List (Int×(List Int))) (1:Int) [(0:Int),(3:Int),(4:Int)]) (2:Int) [(1:Int)]) (5:Int) [(1:Int)]) (3:Int) [(2:Int)]) (4:Int) [(2:Int)])) (key:=v11.Kind) (fI.inj Tryz.prog 3) e3 L5 .p1 .p0 .p1<|aj.here<|rN<|ab.stop<|aj.lq [2,2,2] ⟨decide (v11.Version=(⟨n18,n19,n20⟩:Version)),h,J⟩ J J
         ·rw [uz hc] at h
          exact rG J J J J<|rG J J J J<|rG J J J J<|rG J J J J<|rY J J J<|rT J J J<|rT J J J<|ae.ghost<|aj.Ho (gk:=I) (sz:=1) (g:=I) (β:=(eG (eG (eG (eG (eG (fun _=>⟨none,0⟩) (1:Int) tx) (2:Int) Ck) (5:Int) vG) (3:Int) KW) (4:Int) KU)) (M:=(bT (bT (bT (bT (bT ([]:List (Int×(List Int))) (1:Int) [(0:Int),(3:Int),(4:Int)]) (2:Int) [(1:Int)]) (5:Int) [(1:Int)]) (3:Int) [(2:Int)]) (4:Int) [(2:Int)])) (key:=v11.Kind) (fI.inj Tryz.prog 3) e3 L5 .p1 .p0 .p1<|aj.here<|rN<|ab.stop<|aj.lq [2,2,2] ⟨true,h,J⟩ J J
        ·rw [D7 hc] at h
         exact rG J J J J<|rG J J J J<|rG J J J J<|ae.aH J J J<|ae.aH J J J<|ae.aH J J J<|ae.aH J J J<|ae.aH J J J<|rG J J J J<|rE J J J<|ae.ghost<|aj.Ho (gk:=I) (sz:=1) (g:=I) (β:=(eG (eG (eG (eG (eG (fun _=>⟨none,0⟩) (1:Int) tx) (2:Int) Ck) (5:Int) vG) (3:Int) KW) (4:Int) KU)) (M:=(bT (bT (bT (bT (bT ([]:List (Int×(List Int))) (1:Int) [(0:Int),(3:Int),(4:Int)]) (2:Int) [(1:Int)]) (5:Int) [(1:Int)]) (3:Int) [(2:Int)]) (4:Int) [(2:Int)])) (key:=v11.Kind) (fI.inj Tryz.prog 3) e3 L5 .p1 .p0 .p1<|aj.here<|rN<|ab.stop<|aj.lq [2,2,2] ⟨false,h,J⟩ J J
       ·rintro aC ⟨c31,h,rfl⟩
        unfold nj at h
        refine ab.cut (fun aC=>∃ (PB:Bk) (L0:List MarkS),kW n7 L0=some z1∧aC=⟨79,[(1,.str ai),(3,I aK),(4,.ptr b1 0),(9,.sl 6 PB 0 L0.length),(15,o8 au),(16,I (au.length:Int)),(17,I n7)],[(b1,.cells (wM aa)),(PB,fx L0)]⟩) ?_ ?_
        ·refine cB h J (fun h=>?_) (fun h=>?_)
         ·exact tR<|rM J J<|ae.qv (aW J J .p2 J) J<|aU (xs:=([v11]:List MarkS).map MarkS.av) J J J J J J<|aD h fun IK e5 h=>kU (g:=MarkS.av) J J J J J J J J (.list _) e5 (fun _=>.p1) J fun IM=>rA J J<|rN<|ab.stop<|aj.lq [0,0] ⟨IM,IK,h,J⟩ J J
         ·exact tK<|ab.stop<|aj.lq [0,0] ⟨b5,l6,h,J⟩ J J
        ·rintro aC ⟨PB,L0,h,rfl⟩
         unfold kW at h
         exact ab.bY<|ab.stop<|aj.lq [0,0] ⟨PB,L0,h,J⟩ J J
   ·rintro aC ⟨b9,l10,h,rfl⟩
    unfold jP at h
    refine tR<|ae.qv (bc J J) J<|rM J J<|rN<|ab.stop<|?_
    cases h
    exact jt _ _ J<|aj.lq [0,0] ⟨b9,J⟩ J J
  ·refine ab.exit J<|have h:=cj h fj;aE<|rM J J<|rA J J<|rN<|ab.ret<|?_
   cases h
   exact hH J [1] J ⟨b5,J,J⟩
theorem yY [GI:bD] {aa:MarkS} {r:Bool} (h:iD aa=r):Pu Tryz.prog 116 [MarkS.av aa] (.bool r):=by
 unfold iD at h
 refine aF.bC Tryz.func116 J Tryz.ntmps116 Tryz.results116 J J ?_
 refine aE<|gi J J J J fun b1=>rA J J<|rN<|tS<|ab.cut (fun aC=>∃ (c2:Bool),mi c2=r∧aC=⟨11,[(2,.bool c2)],[]⟩) ?_ ?_
 ·refine tR<|rF J J J<|rL J J .p0 J J<|ae.qv (kT J J) J<|rM J J<|ae.cy J J J (fun hc=>?_) (fun hc=>?_)
  ·rw [om hc] at h
   exact rF J J J<|rY J J J<|rL J J .p0 J J<|rY J J J<|ae.qv (kT J J) J<|rT J J J<|rA J J<|rN<|ab.stop<|aj.lq [] ⟨decide (aa.Kind≠(4:Int)),h,J⟩ J J
  ·rw [oo hc] at h
   exact rG J J J J<|rG J J J J<|rE J J J<|rA J J<|rN<|ab.stop<|aj.lq [] ⟨false,h,J⟩ J J
 ·rintro aC ⟨c2,h,rfl⟩
  unfold mi at h
  refine ab.ret<|?_
  obtain rfl:=h
  exact hP J J
theorem oc [GI:bD] {aa:List MarkS} {fH:MarkS→Option Bool} {ff:FuncId} [bw Tryz.prog ff] {gY:List AV} (nK:∀ {y0:_} {u:Bool},fH y0=some u→Pu Tryz.prog ff (MarkS.av y0 :: gY) (.bool u)) {r:Int} (h:gW aa fH=some r):Pu Tryz.prog 154 [o8 aa,.func (.func ff) gY] (I r):=by
 unfold gW at h
 refine aF.bC Tryz.func154 J Tryz.ntmps154 Tryz.results154 J J ?_
 refine aE<|rA J J<|rN<|tS<|aE<|rM J J<|ae.qv (cV J) J<|rM J J<|rN<|ab.block<|ab.cM (fun x:Int=>ei aa fH x) (fun x aC=>aC=⟨19,[(0,o8 aa),(1,.func (.func ff) gY),(7,I (aa.length:Int)),(8,I x)],[]⟩) h ?_ ?_
 ·exact aj.lq [] J J J
 ·intro n2 z1 aC J1 fy h jt fj
  obtain rfl:=fy
  replace h:ei aa fH n2=some z1:=h
  unfold ei at h
  refine aE<|ae.qv (bG J J) J<|rN<|tS<|cD h J (fun h=>?_) (fun h=>?_)
  ·refine tK<|tS<|ab.block<|aE<|rM J J<|rA J J<|rN<|aE<|rM J J<|rM J J<|rM J J<|aD h fun v3 e1 h=>ae.qv (bO J J J e1 J J) J<|ae.qv (bt J J J) J<|aD h fun v4 e2 h=>uy J J (nK e2) cR J<|rN<|cB h J (fun h=>?_) (fun h=>?_)
   ·refine aE<|rM J J<|rA J J<|rN<|ab.ret<|have h:=cj h fj;?_
    cases h
    exact hP J J
   ·refine tK<|ab.bY<|tR<|ae.qv (bc J J) J<|rM J J<|rN<|ab.stop<|?_
    cases h
    exact jt _ _ J<|aj.lq [] J J J
  ·refine ab.exit J<|have h:=cj h fj;aE<|rA J J<|rN<|ab.ret<|?_
   cases h
   exact hP J J
theorem nM [GI:bD] {aP:Bk} {aa:List MarkS} {fH:MarkS→Option Bool} {ff:FuncId} [bw Tryz.prog ff] {gY:List AV} (nK:∀ {y0:_} {u:Bool},fH y0=some u→Pu Tryz.prog ff (MarkS.av y0 :: gY) (.bool u)) {r:(List MarkS)} (h:di aa fH=some r):aF Tryz.prog 115 [.sl 6 aP 0 aa.length,.func (.func ff) gY] [(aP,fx aa)] (T1 (fun qN=>[(qN,fx r)]) (fun qN=>.sl 6 qN 0 r.length)):=by
 unfold di at h
 refine aF.ia ?_
 refine aF.bC Tryz.func115 J Tryz.ntmps115 Tryz.results115 J J ?_
 refine aE<|rA J J<|rN<|aE<|rM J J<|rM J J<|aD h fun v1 e1 h=>gh J (oc nK e1) (.cons (ln.kL .p0) (.cons (.co (.refl _)) .nil)) J J<|rA J J<|rN<|tS<|aE<|rM J J<|ae.qv (cC J J) J<|rN<|cD h J (fun h=>?_) (fun h=>?_)
 ·refine aE<|rM J J<|rA J J<|rN<|ab.ret<|?_
  cases h
  exact hH J [0] J ⟨aP,J,J⟩
 ·refine tK<|tS<|aE<|rM J J<|ae.qv (bc J J) J<|rA J J<|rN<|ab.block<|ab.cM (fun x:(List MarkS)×Int×Int=>dU fH x.1 x.2.1 x.2.2) (fun x aC=>aC=⟨42,[(0,.sl 6 aP 0 x.1.length),(1,.func (.func ff) gY),(5,I x.2.1),(6,I x.2.2)],[(aP,fx x.1)]⟩) h ?_ ?_
  ·exact aj.lq [0] J J J
  ·intro x z1 aC J1 fy h jt fj
   obtain ⟨l5,n6,n7⟩:=x
   obtain rfl:=fy
   replace h:dU fH l5 n6 n7=some z1:=h
   unfold dU at h
   refine tS<|aE<|rM J J<|rM J J<|ae.qv (iX J) J<|ae.qv (bG J J) J<|rN<|cD h J (fun h=>?_) (fun h=>?_)
   ·refine tK<|tS<|ab.block<|aE<|rM J J<|rM J J<|aD h fun v8 e2 h=>ae.qv (aQ J J J e2) J<|ae.qv (bj (g:=MarkS.av) J J (.inl .p0) J e2 J) J<|ca J J J J fun b9=>ay J J J J .p0 J J<|rN<|aE<|rM J J<|ae.qv (aW J J .p0 J) J<|aD h fun v10 e3 h=>uy J J (nK e3) cR J<|ae.qv (cu J) J<|rN<|ab.cut (fun aC=>∃ (iT:List MarkS) (n12:Int),dT n7 iT n12=some z1∧aC=⟨42,[(0,.sl 6 aP 0 iT.length),(1,.func (.func ff) gY),(5,I n12),(6,I n7)],[(aP,fx iT)]⟩) ?_ ?_
    ·refine cB h J (fun h=>?_) (fun h=>?_)
     ·exact aE<|rM J J<|rM J J<|ae.qv (aW J J .p0 J) J<|aD h fun mG e4 h=>ae.qv (aQ J J J e4) J<|bQ (g:=MarkS.av) (vv:=v8) J J J J e4 J .p1 J<|ae.ghost<|aj.eqs (s:=0) (ep:=.sl 6 aP 0 (l5.set n6.toNat v8).length) J (by rw [List.length_set])<|aj.here<|ae.ghost<|aj.eqs (s:=17) (ep:=.sl 6 aP 0 (l5.set n6.toNat v8).length) J (by rw [List.length_set])<|aj.here<|ae.ghost<|aj.eqs (s:=22) (ep:=.sl 6 aP 0 (l5.set n6.toNat v8).length) J (by rw [List.length_set])<|aj.here<|ae.ghost<|aj.eqs (s:=30) (ep:=.sl 6 aP 0 (l5.set n6.toNat v8).length) J (by rw [List.length_set])<|aj.here<|rN<|tR<|rM J J<|ae.qv (bc J J) J<|rA J J<|rN<|ab.stop<|aj.lq [1] ⟨l5.set n6.toNat v8,aJ (n6+(1:Int)),h,J⟩ J J
     ·exact tK<|ab.stop<|aj.lq [1] ⟨l5,n6,h,J⟩ J J
    ·rintro aC ⟨iT,n12,h,rfl⟩
     unfold dT at h
     refine ab.bY<|tR<|rM J J<|ae.qv (bc J J) J<|rA J J<|rN<|ab.stop<|?_
     cases h
     exact jt _ _ J<|aj.lq [0] J J J
   ·refine ab.exit J<|have h:=cj h fj;?_
    unfold jg at h
    refine aE<|rM J J<|rM J J<|aD h fun wo e5 h=>ae.qv (oR J J (.some _ _ _ J) .none J J e5) J<|Ef (g:=MarkS.av) (Z:=(⟨(0:Int),[],(0:Int),(⟨(0:Int),(0:Int),(0:Int)⟩:Version)⟩:MarkS)) (L:=n6) J J J J J J e5 .p0<|ae.ghost<|aj.eqs (s:=0) (ep:=.sl 6 aP 0 (BO l5 n6 wo.length (⟨(0:Int),[],(0:Int),(⟨(0:Int),(0:Int),(0:Int)⟩:Version)⟩:MarkS)).length) J (congrArg (AV.sl 6 aP 0) (uF e5))<|aj.here<|ae.ghost<|aj.eqs (s:=17) (ep:=.sl 6 aP 0 (BO l5 n6 wo.length (⟨(0:Int),[],(0:Int),(⟨(0:Int),(0:Int),(0:Int)⟩:Version)⟩:MarkS)).length) J (congrArg (AV.sl 6 aP 0) (uF e5))<|aj.here<|ae.ghost<|aj.eqs (s:=36) (ep:=.sl 6 aP 0 (BO l5 n6 wo.length (⟨(0:Int),[],(0:Int),(⟨(0:Int),(0:Int),(0:Int)⟩:Version)⟩:MarkS)).length) J (congrArg (AV.sl 6 aP 0) (uF e5))<|aj.here<|rN<|aE<|rM J J<|rM J J<|aD h fun IJ e6 h=>ae.qv (oR J J .none (.some _ _ _ J) J J e6) J<|rA J J<|ae.ghost<|aj.KH e6 .p0<|aj.here<|rN<|ab.ret<|?_
    cases h
    exact hH J [0] J ⟨aP,J,J⟩
theorem oC:KI Tryz.prog 98 6:=⟨fun enc hk h1 cf hO g cb bY off cap d w eg hc hH hb hs=>AnyQ.slices_SortFunc_eq Tryz.En 6 Tryz.isAgg90 Tryz.sizeOf90 enc hk h1 cf hO g cb bY off cap d w eg hc hH hb hs,fun p cap fv w=>AnyF.slices_SortFunc_none Tryz.En p cap fv w⟩
theorem oD [GI:bD] {aP:Bk} {aa:List MarkS} {fH:MarkS→MarkS→Option Int} {ff:FuncId} [bw Tryz.prog ff] {gY:List AV} (nK:∀ {y0 y1:_} {u:Int},fH y0 y1=some u→@Pu sC Tryz.prog ff (MarkS.av y0 :: MarkS.av y1 :: gY) (I u)) {r:(List MarkS)} (h:ic aa fH=some r):aF Tryz.prog 98 [.sl 6 aP 0 aa.length,.func (.func ff) gY] [(aP,.arr 6 (aa.map MarkS.av))] (T0 [(aP,.arr 6 (r.map MarkS.av))] (.kj [])):=
 Di (fn:=fH) oC J @nK (fun _=>J) h
theorem DE [GI:bD] {aa:Campaign} {ai:Int} {au:List DeviceS} {aK:List MarkS} {o9:Int} {r:Int} (h:uN aa ai au aK o9=some r):Pu Tryz.prog 71 [Campaign.av aa,I ai,pJ au,o8 aK,I o9] (I r):=by
 unfold uN at h
 refine aF.bC Tryz.func71 J Tryz.ntmps71 Tryz.results71 J J ?_
 refine aE<|gi J J J J fun b1=>rA J J<|rN<|aE<|rA J J<|rN<|tS<|aE<|rM J J<|ae.qv (cV J) J<|rM J J<|rN<|ab.block<|ab.cM (fun x:(List MarkS)×Int=>lM aa ai au aK o9 x.1 x.2) (fun x aC=>∃ (b5:Bk),aC=⟨78,[(1,I ai),(3,o8 aK),(4,I o9),(5,.ptr b1 0),(11,.sl 6 b5 0 x.1.length),(18,pJ au),(19,I (au.length:Int)),(20,I x.2)],[(b1,.cells (wM aa)),(b5,fx x.1)]⟩) h ?_ ?_
 ·exact aj.arr (s:=11) 6 J fun b8=>aj.lq [1,0] ⟨b8,J⟩ J J
 ·intro x z1 aC J1 fy h jt fj
  obtain ⟨l6,n7⟩:=x
  obtain ⟨b5,rfl⟩:=fy
  replace h:lM aa ai au aK o9 l6 n7=some z1:=h
  unfold lM at h
  refine aE<|ae.qv (bG J J) J<|rN<|tS<|cD h J (fun h=>?_) (fun h=>?_)
  ·refine tK<|tS<|ab.block<|aE<|aD h fun v9 e1 h=>ae.qv (bO J J J e1 J J) J<|ae.qv (bt J J J) J<|ca J J J J fun rB=>ay J J J J .p0 J J<|rN<|aE<|ae.qv (aW J J .p1 J) J<|rF J J J<|rL J J .p0 J J<|aD h fun v11 e2 h=>aS J (yg e2) cR J<|rM J J<|ae.qv (cC J J) J<|rN<|ab.cut (fun aC=>∃ (rb:Bk) (lH:List MarkS),nJ n7 lH=some z1∧aC=⟨78,[(1,I ai),(3,o8 aK),(4,I o9),(5,.ptr b1 0),(11,.sl 6 rb 0 lH.length),(18,pJ au),(19,I (au.length:Int)),(20,I n7)],[(b1,.cells (wM aa)),(rb,fx lH)]⟩) ?_ ?_
   ·refine cD h J (fun h=>?_) (fun h=>?_)
    ·exact tR<|rM J J<|ae.qv (aW J J .p1 J) J<|rF J J J<|rL J J .p0 J J<|rM J J<|rM J J<|aD h fun kJ e3 h=>ow J (uV e3) cR .nil (fun _=>J) J fun Ya=>aD h fun qa e4 h=>kU (g:=MarkS.av) J J J J J J J J (Fa (.inl .p0) J) e4 (fun _=>.p3) J fun FG=>rA J J<|rN<|ab.stop<|aj.lq [2,2] ⟨FG,qa,h,J⟩ J J
    ·exact tK<|ab.stop<|aj.lq [1,1] ⟨b5,l6,h,J⟩ J J
   ·rintro aC ⟨rb,lH,h,rfl⟩
    unfold nJ at h
    refine ab.bY<|tR<|ae.qv (bc J J) J<|rM J J<|rN<|ab.stop<|?_
    cases h
    exact jt _ _ J<|aj.lq [0,0] ⟨rb,J⟩ J J
  ·refine ab.exit J<|have h:=cj h fj;?_
   unfold pt at h
   refine aE<|rM J J<|aD h fun eS e5 h=>ow J (nM (fun e=>yY (Option.some.inj e)) e5) cR (.cons .p1 .nil) (fun _=>J) J fun pa=>rA J J<|rN<|aE<|rM J J<|aD h fun v20 e6 h=>aZ J (oD (fun e=>nu (GI:=sC) (Option.some.inj e)) (j9 e6)) cR (.cons .p0 .nil) J J<|ae.ghost<|aj.eqs (s:=11) (ep:=.sl 6 pa 0 v20.length) J (congrArg (AV.sl 6 pa 0) (cY e6))<|aj.here<|ae.ghost<|aj.eqs (s:=40) (ep:=.sl 6 pa 0 v20.length) J (congrArg (AV.sl 6 pa 0) (cY e6))<|aj.here<|ae.ghost<|aj.eqs (s:=41) (ep:=.sl 6 pa 0 v20.length) J (congrArg (AV.sl 6 pa 0) (cY e6))<|aj.here<|rN<|aE<|rA J J<|rN<|tS<|aE<|rM J J<|ae.qv (iX J) J<|rM J J<|rN<|ab.block<|ab.cM (fun x:Int×Int=>kD aa ai v20 x.1 x.2) (fun x aC=>aC=⟨78,[(1,I ai),(5,.ptr b1 0),(14,I x.1),(43,.sl 6 pa 0 v20.length),(44,I (v20.length:Int)),(45,I x.2)],[(b1,.cells (wM aa)),(pa,fx v20)]⟩) h ?_ ?_
   ·exact aj.lq [1,0] J J J
   ·intro x z2 aC J2 fy h Cm Bh
    obtain ⟨n23,n24⟩:=x
    obtain rfl:=fy
    replace h:kD aa ai v20 n23 n24=some z2:=h
    unfold kD at h
    refine aE<|ae.qv (bG J J) J<|rN<|tS<|cD h J (fun h=>?_) (fun h=>?_)
    ·refine tK<|tS<|ab.block<|aE<|rM J J<|aD h fun v25 e7 h=>ae.qv (aQ J J J e7) J<|ae.qv (bj (g:=MarkS.av) J J (.inl .p1) J e7 J) J<|ca J J J J fun vG=>rA J J<|ay J J J J .p0 J J<|rN<|tS<|aE<|rF J J J<|rL J J .p0 J J<|ae.qv (cC J J) J<|rN<|ab.cut (fun aC=>∃ (n27:Int),kC aa ai n24 v25 n27=some z2∧aC=⟨78,[(1,I ai),(5,.ptr b1 0),(14,I n27),(15,I n24),(16,.ptr vG 0),(43,.sl 6 pa 0 v20.length),(44,I (v20.length:Int)),(45,I n24)],[(b1,.cells (wM aa)),(vG,.cells (yK v25)),(pa,fx v20)]⟩) ?_ ?_
     ·refine cD h J (fun h=>?_) (fun h=>?_)
      ·exact tR<|rM J J<|ae.qv (bc J J) J<|rA J J<|rN<|ab.stop<|aj.lq [1,0,0] ⟨aJ (n23+(1:Int)),h,J⟩ J J
      ·exact tK<|ab.stop<|aj.lq [1,0,0] ⟨n23,h,J⟩ J J
     ·rintro aC ⟨n27,h,rfl⟩
      unfold kC at h
      refine aE<|rF J J J<|rL J J .p0 J J<|rM J J<|aD h fun v28 e8 h=>ae.qv (bO J J J e8 J J) J<|ae.qv (bt J J J) J<|ca J J J J fun M6=>ay J J J J .p0 J J<|rN<|tS<|ab.cut (fun aC=>∃ (Oo:Bool),pq n24 v25 n27 Oo=some z2∧aC=⟨78,[(1,I ai),(5,.ptr b1 0),(14,I n27),(16,.ptr vG 0),(43,.sl 6 pa 0 v20.length),(44,I (v20.length:Int)),(45,I n24),(74,.bool Oo)],[(b1,.cells (wM aa)),(vG,.cells (yK v25)),(pa,fx v20)]⟩) ?_ ?_
      ·refine tR<|rM J J<|ae.qv (bc J J) J<|rF J J J<|rL J J .p0 J J<|ae.qv (oe J J) J<|rM J J<|ae.cy J J J (fun hc=>?_) (fun hc=>?_)
       ·rw [om hc] at h
        exact rM J J<|rY J J J<|ae.qv (nR J J) J<|rY J J J<|rF J J J<|rY J J J<|rL J J .p0 J J<|rY J J J<|rM J J<|rY J J J<|ae.qv (bc J J) J<|rY J J J<|ae.qv (nR J J) J<|rY J J J<|ae.qv (fL J J) J<|rT J J J<|rN<|ab.stop<|aj.lq [1,1,1] ⟨decide ((aJ (v28.cO * (aJ (n24+(1:Int))))) < (aJ (n27 * (1000:Int)))),h,J⟩ J J
       ·rw [oo hc] at h
        exact rG J J J J<|rG J J J J<|rG J J J J<|rG J J J J<|rG J J J J<|rG J J J J<|rG J J J J<|rE J J J<|rN<|ab.stop<|aj.lq [1,1,1] ⟨false,h,J⟩ J J
      ·rintro aC ⟨Oo,h,rfl⟩
       unfold pq at h
       refine cB h J (fun h=>?_) (fun h=>?_)
       ·refine aE<|rF J J J<|rL J J .p1 J J<|rA J J<|rN<|ab.ret<|have h:=cj h Bh;?_
        cases h
        exact hP J J
       ·refine tK<|ab.bY<|tR<|ae.qv (bc J J) J<|rM J J<|rN<|ab.stop<|?_
        cases h
        exact Cm _ _ J<|aj.lq [0,1] J J J
    ·refine ab.exit J<|have h:=cj h Bh;aE<|rA J J<|rN<|ab.ret<|?_
     cases h
     exact hP J J
theorem tA [GI:bD] {aa:Campaign} {ai:List DeviceS} {au:List MarkS} {aK:Int} {r:Int} (h:jm aa ai au aK=some r):Pu Tryz.prog 27 [Campaign.av aa,pJ ai,o8 au,I aK] (I r):=by
 unfold jm at h
 refine aF.bC Tryz.func27 J Tryz.ntmps27 Tryz.results27 J J ?_
 refine aE<|gi J J J J fun b1=>rA J J<|rN<|aE<|rA J J<|rN<|tS<|aE<|rF J J J<|rL J J .p0 J J<|ae.qv (cV J) J<|rM J J<|rN<|ab.block<|ab.cM (fun x:Int×Int=>jh aa ai au aK x.1 x.2) (fun x aC=>aC=⟨38,[(1,pJ ai),(2,o8 au),(3,I aK),(4,.ptr b1 0),(9,I x.1),(14,I (aa.aB.length:Int)),(15,I x.2)],[(b1,.cells (wM aa))]⟩) h ?_ ?_
 ·exact aj.lq [0] J J J
 ·intro x z1 aC J1 fy h jt fj
  obtain ⟨n4,n5⟩:=x
  obtain rfl:=fy
  replace h:jh aa ai au aK n4 n5=some z1:=h
  unfold jh at h
  refine aE<|ae.qv (bG J J) J<|rN<|tS<|cD h J (fun h=>?_) (fun h=>?_)
  ·refine tK<|tS<|ab.block<|aE<|rM J J<|rA J J<|rN<|aE<|ae.qv (aW J J .p0 J) J<|rM J J<|rM J J<|rM J J<|rM J J<|aD h fun v6 e1 h=>aS J (DE e1) cR J<|rA J J<|rN<|tS<|ab.cut (fun aC=>∃ (c7:Bool),mj n4 n5 v6 c7=some z1∧aC=⟨38,[(1,pJ ai),(2,o8 au),(3,I aK),(4,.ptr b1 0),(9,I n4),(11,I v6),(14,I (aa.aB.length:Int)),(15,I n5),(34,.bool c7)],[(b1,.cells (wM aa))]⟩) ?_ ?_
   ·refine tR<|rM J J<|ae.qv (oe J J) J<|rM J J<|ae.cy J J J (fun hc=>?_) (fun hc=>?_)
    ·rw [om hc] at h
     refine rM J J<|rY J J J<|ae.qv (bG J J) J<|rY J J J<|rM J J<|ae.dA J J J (fun hc=>?_) (fun hc=>?_)
     ·rw [uA hc] at h
      exact rM J J<|rY J J J<|rM J J<|rY J J J<|ae.qv (bG J J) J<|rY J J J<|rE J J J<|rT J J J<|rN<|ab.stop<|aj.lq [0] ⟨decide (v6 < n4),h,J⟩ J J
     ·rw [uz hc] at h
      exact rG J J J J<|rG J J J J<|rY J J J<|rT J J J<|rT J J J<|rN<|ab.stop<|aj.lq [0] ⟨true,h,J⟩ J J
    ·rw [oo hc] at h
     exact rG J J J J<|rG J J J J<|ae.aH J J J<|ae.aH J J J<|ae.aH J J J<|rG J J J J<|rE J J J<|rN<|ab.stop<|aj.lq [0] ⟨false,h,J⟩ J J
   ·rintro aC ⟨c7,h,rfl⟩
    unfold mj at h
    refine ab.cut (fun aC=>∃ (n8:Int),kE n5 n8=some z1∧aC=⟨38,[(1,pJ ai),(2,o8 au),(3,I aK),(4,.ptr b1 0),(9,I n8),(14,I (aa.aB.length:Int)),(15,I n5)],[(b1,.cells (wM aa))]⟩) ?_ ?_
    ·refine cB h J (fun h=>?_) (fun h=>?_)
     ·exact tR<|rM J J<|rA J J<|rN<|ab.stop<|aj.lq [0] ⟨v6,h,J⟩ J J
     ·exact tK<|ab.stop<|aj.lq [0] ⟨n4,h,J⟩ J J
    ·rintro aC ⟨n8,h,rfl⟩
     unfold kE at h
     refine ab.bY<|tR<|ae.qv (bc J J) J<|rM J J<|rN<|ab.stop<|?_
     cases h
     exact jt _ _ J<|aj.lq [0] J J J
  ·refine ab.exit J<|have h:=cj h fj;aE<|rM J J<|rA J J<|rN<|ab.ret<|?_
   cases h
   exact hP J J
theorem rJ:Hc Tryz.prog 64 (Value.int .i64) Fm:=⟨fun bY off cap zs w hH hb hs=>Tryz.slices_Sort_int bY off cap zs w hH hb hs,fun p cap w=>Tryz.slices_Sort_int_none p cap w⟩
theorem rK [GI:bD] {aP:Bk} {aa:List Int} {r:(List Int)} (h:iU aa=some r):aF Tryz.prog 64 [.sl 1 aP 0 aa.length] [(aP,.arr 1 (aa.map I))] (T0 [(aP,.arr 1 (r.map I))] (.kj [])):=
 BR rJ h
theorem AJ [GI:bD] {aa:Campaign} {ai:DeviceS} {au:List MarkS} {aK:Int} {r:ak} (h:oY aa ai au aK=some r):Pu Tryz.prog 21 [Campaign.av aa,DeviceS.av ai,o8 au,I aK] (ak.av r):=by
 unfold oY at h
 refine aF.bC Tryz.func21 J Tryz.ntmps21 Tryz.results21 J J ?_
 refine aE<|gi J J J J fun b1=>gi J J J J fun b2=>ca J J J J fun b3=>rN<|aE<|rF J J J<|ae.qv (bA J J .p1 J J) J<|ae.qv (fV J J J J J) J<|ca J J J J fun b4=>ay J J J J .p0 J J<|rN<|tS<|aE<|ae.qv (aW J J .p3 J) J<|rF J J J<|rL J J .p2 J J<|rM J J<|rM J J<|aD h fun v5 e1 h=>ow J (uV e1) cR .nil (fun _=>J) J fun b6=>ae.qv (iX J) J<|rM J J<|rN<|ab.block<|ab.cM (fun x:Int×Int×Int×Int×Int×Int×Int=>jS v5 x.1 x.2.1 x.2.2.1 x.2.2.2.1 x.2.2.2.2.1 x.2.2.2.2.2.1 x.2.2.2.2.2.2) (fun x aC=>aC=⟨47,[(8,.ptr b3 0),(9,.ptr b4 0),(20,.sl 6 b6 0 v5.length),(21,I (v5.length:Int)),(22,I x.2.2.2.2.2.2)],[(b3,.cells [I (0:Int),I (0:Int),I (0:Int),I (0:Int),I (0:Int),I (0:Int)]),(b4,.cells [I x.1,I x.2.1,I x.2.2.1,I x.2.2.2.1,I x.2.2.2.2.1,I x.2.2.2.2.2.1]),(b6,fx v5)]⟩) h ?_ ?_
 ·exact aj.lq [2,1,0] J J J
 ·intro x z1 aC J1 fy h jt fj
  obtain ⟨n14,n15,n16,n17,n18,n19,n20⟩:=x
  obtain rfl:=fy
  replace h:jS v5 n14 n15 n16 n17 n18 n19 n20=some z1:=h
  unfold jS at h
  refine aE<|ae.qv (bG J J) J<|rN<|tS<|cD h J (fun h=>?_) (fun h=>?_)
  ·refine tK<|tS<|ab.block<|aE<|aD h fun v21 e2 h=>ae.qv (aQ J J J e2) J<|ae.qv (bj (g:=MarkS.av) J J (.inl .p2) J e2 J) J<|ca J J J J fun KV=>ay J J J J .p0 J J<|rN<|tS<|ab.j6 (id:=5) (A:=[0,1,0,4,3,19,63,127]) (H0:=[(b4,.cells [I n14,I n15,I n16,I n17,I n18,I n19])]) (HH:=fun β=>[(b4,.cells [I v21.Kind,I n15,I n16,I n17,I n18,I n19]),(KV,.cells (yK v21)),(b3,.cells [I (0:Int),I (0:Int),I (0:Int),I (0:Int),I (0:Int),I (0:Int)]),(b6,fx v5)]) 6 mixed J (by kernel_rfl) (by kernel_rfl) [⟨none,some 5,[],fun _=>(b4,.cells [I n14,I n15,I n16,I n17,I n18,I n19]),none,[]⟩,⟨some 5,none,[],fun _=>(b4,.cells [I v21.Kind,I n15,I n16,I n17,I n18,I n19]),none,[]⟩] [] J (by kernel_rfl) J (.cons .p2 .nil) (fun _=>J)<|AT.am 5 J J<|AM.qv (aG J J) J<|AM.qv (ba J J .p0 J) J<|AM.qv (aG J J) J<|AM.qv (ba J J .p0 J) J<|AM.qv (aG J J) J<|AM.nil<|AT.yS (Ti:=[(b4,.cells [I n14,I n15,I n16,I n17,I n18,I n19])]) (Pi:=[(b4,.cells [I v21.Kind,I n15,I n16,I n17,I n18,I n19])]) (fun _=>J) (fun _=>J) (fun _=>J) J J ?_ ?_
   ·exact ay J J J J .p0 J J<|ae.nil ⟨_,J⟩
   refine AT.uE (fun _=>J) fun β=>rF J J J<|ay J J J J .p0 J J<|rN<|aE<|rF J J J<|rL J J .p1 J J<|rN<|ab.block<|aE<|ae.qv (cC J J) J<|rA J J<|rN<|ab.cut (fun aC=>∃ (n23:Int) (n24:Int) (n25:Int) (n26:Int),kX n20 v21 n23 n24 n25 n26=some z1∧aC=⟨47,[(8,.ptr b3 0),(9,.ptr b4 0),(20,.sl 6 b6 0 v5.length),(21,I (v5.length:Int)),(22,I n20)],[(b3,.cells [I (0:Int),I (0:Int),I (0:Int),I (0:Int),I (0:Int),I (0:Int)]),(b4,.cells [I v21.Kind,I v21.At,I n23,I n24,I n25,I n26]),(b6,fx v5)]⟩) ?_ ?_
   ·refine cD h J (fun h=>?_) (fun h=>?_)
    ·exact tR<|rF J J J<|ae.qv (bA J J .p1 J J) J<|rF J J J<|ay J J J J .p0 J J<|rN<|ab.stop<|aj.lq [2,0,1] ⟨v21.Version.aN,v21.Version.aO,v21.Version.aM,n19,h,J⟩ J J
    ·refine aE<|ae.qv (cC J J) J<|rA J J<|rN<|ab.cut (fun aC=>∃ (n27:Int),kY n16 n17 n18 n20 v21 n27=some z1∧aC=⟨47,[(8,.ptr b3 0),(9,.ptr b4 0),(20,.sl 6 b6 0 v5.length),(21,I (v5.length:Int)),(22,I n20)],[(b3,.cells [I (0:Int),I (0:Int),I (0:Int),I (0:Int),I (0:Int),I (0:Int)]),(b4,.cells [I v21.Kind,I v21.At,I n16,I n17,I n18,I n27]),(b6,fx v5)]⟩) ?_ ?_
     ·refine cD h J (fun h=>?_) (fun h=>?_)
      ·exact tR<|rF J J J<|rL J J .p0 J J<|ae.qv (bc J J) J<|rF J J J<|ay J J J J .p0 J J<|rN<|ab.stop<|aj.lq [2,0,1] ⟨aJ (n19+(1:Int)),h,J⟩ J J
      ·exact tK<|ab.stop<|aj.lq [2,0,1] ⟨n19,h,J⟩ J J
     ·rintro aC ⟨n27,h,rfl⟩
      unfold kY at h
      exact ab.stop<|aj.lq [0,0,0] ⟨n16,n17,n18,n27,h,J⟩ J J
   ·rintro aC ⟨n23,n24,n25,n26,h,rfl⟩
    unfold kX at h
    refine ab.bY<|ab.bY<|tR<|ae.qv (bc J J) J<|rM J J<|rN<|ab.stop<|?_
    cases h
    exact jt _ _ J<|aj.lq [0,0,0] J J J
  ·refine ab.exit J<|have h:=cj h fj;aE<|ae.qv (aW J J .p1 J) J<|ay J J J J .p0 J J<|rN<|ab.ret<|?_
   cases h
   exact aj.here ⟨_,.cons (.all _ _ _ _ _ _ J .p0 ax.h aV.h J J) .nil,J⟩
theorem HR [GI:bD] {aa:Campaign} {ai:DeviceS} {au:List MarkS} {aK:Int} {r:Bool} (h:x6 aa ai au aK=some r):Pu Tryz.prog 70 [Campaign.av aa,DeviceS.av ai,o8 au,I aK] (.bool r):=by
 unfold x6 at h
 refine aF.bC Tryz.func70 J Tryz.ntmps70 Tryz.results70 J J ?_
 refine aE<|gi J J J J fun b1=>gi J J J J fun b2=>rA J J<|rN<|aE<|ae.qv (aW J J .p1 J) J<|ae.qv (aW J J .p0 J) J<|rM J J<|rM J J<|aD h fun v3 e1 h=>aS J (AJ e1) cR J<|ca J J J J fun b4=>ay J J J J .p0 J J<|rN<|tS<|ab.cut (fun aC=>∃ (c5:Bool),sR c5=some r∧aC=⟨30,[(8,.bool c5)],[]⟩) ?_ ?_
 ·refine tR<|rF J J J<|ae.qv (bA J J .p0 J J) J<|rF J J J<|ae.qv (bA J J .p2 J J) J<|ae.qv (BK (g:=Version.av) (X:=v3.Version) (Y:=aa.Target) J J J J J) J<|rM J J<|ae.dA J J J (fun hc=>?_) (fun hc=>?_)
  ·rw [uA hc] at h
   refine rF J J J<|rY J J J<|rL J J .p0 J J<|rY J J J<|ae.qv (oe J J) J<|rE J J J<|rM J J<|ae.dA J J J (fun hc=>?_) (fun hc=>?_)
   ·rw [uA hc] at h
    exact rF J J J<|rY J J J<|rL J J .p0 J J<|rY J J J<|ae.qv (cC J J) J<|rE J J J<|rA J J<|rN<|ab.stop<|aj.lq [] ⟨decide (v3.Kind=(5:Int)),h,J⟩ J J
   ·rw [uz hc] at h
    exact rG J J J J<|rG J J J J<|rT J J J<|rA J J<|rN<|ab.stop<|aj.lq [] ⟨true,h,J⟩ J J
  ·rw [uz hc] at h
   exact rG J J J J<|rG J J J J<|rT J J J<|rM J J<|rG J J J J<|rG J J J J<|rG J J J J<|rT J J J<|rA J J<|rN<|ab.stop<|aj.lq [] ⟨true,h,J⟩ J J
 ·rintro aC ⟨c5,h,rfl⟩
  unfold sR at h
  refine ab.ret<|?_
  cases h
  exact hP J J
theorem ua [GI:bD] {aa:DeviceS} {ai:Campaign} {au:Int} {aK:List MarkS} {o9:Int} {r:Bool} (h:gH aa ai au aK o9=some r):Pu Tryz.prog 68 [DeviceS.av aa,.cE [.str ai.Key,I ai.Target.aN,I ai.Target.aO,I ai.Target.aM,I ai.At,oM ai.aB,I ai.bh.eU,I ai.bh.To,I ai.Room],.cE [I au],.cE [o8 aK],.cE [I o9]] (.bool r):=by
 unfold gH at h
 refine aF.bC Tryz.func68 J Tryz.ntmps68 Tryz.results68 J J ?_
 refine aE<|gi J J J J fun b1=>rA J J<|rN<|tS<|ab.cut (fun aC=>∃ (c2:Bool),gn c2=some r∧aC=⟨22,[(6,.bool c2)],[]⟩) ?_ ?_
 ·refine ab.eh (id:=1) (A:=[0,0,2,7,0,16,63,127,255,255,255,255,4095,8191,16383,32767]) 16 mixed J (by kernel_rfl) (by kernel_rfl)<|AM.qv (bt J J J) J<|AM.qv (aG J J) J<|AM.qv (ba J J .p0 J) J<|aD h fun v3 e1 h=>AM.we J (yg e1) cR J<|AM.qv (aX J J J) J<|AM.qv (cF J J) J<|AM.qv (cC J J) J<|AM.qv (aA J) J<|AM.cy J J J (fun hc=>?_) (fun hc=>?_)
  ·exact have h:=rm hc h;AM.qv (bt J J J) J<|AM.aq J J J<|AM.qv (aW J J .p0 J) J<|AM.aq J J J<|AM.qv (aX J J J) J<|AM.aq J J J<|AM.qv (aX J J J) J<|AM.aq J J J<|aD h fun v4 e2 h=>AM.we J (HR e2) cR J<|AM.aq J J J<|AM.qv (cu J) J<|AM.qv (gI J J) J<|AM.qv (ek J) J<|AM.nil<|rN<|ab.stop<|aj.lq [] ⟨!v4,h,J⟩ J J
  ·exact have h:=yQ hc h;AM.ao J J J J<|AM.ao J J J J<|AM.ao J J J J<|AM.ao J J J J<|AM.ao J J J J<|AM.qv (fr J J) J<|AM.qv (ek J) J<|AM.nil<|rN<|ab.stop<|aj.lq [] ⟨false,h,J⟩ J J
 ·rintro aC ⟨c2,h,rfl⟩
  unfold gn at h
  refine ab.ret<|?_
  cases h
  exact hP J J
theorem mx [GI:bD] {aa:List DeviceS} {fH:DeviceS→Option Bool} {ff:FuncId} [bw Tryz.prog ff] {gY:List AV} (nK:∀ {y0:_} {u:Bool},fH y0=some u→Pu Tryz.prog ff (DeviceS.av y0 :: gY) (.bool u)) {r:Int} (h:fF aa fH=some r):Pu Tryz.prog 114 [pJ aa,.func (.func ff) gY] (I r):=by
 unfold fF at h
 refine aF.bC Tryz.func114 J Tryz.ntmps114 Tryz.results114 J J ?_
 refine aE<|rA J J<|rN<|tS<|aE<|rM J J<|ae.qv (cV J) J<|rM J J<|rN<|ab.block<|ab.cM (fun x:Int=>cZ aa fH x) (fun x aC=>aC=⟨19,[(0,pJ aa),(1,.func (.func ff) gY),(7,I (aa.length:Int)),(8,I x)],[]⟩) h ?_ ?_
 ·exact aj.lq [] J J J
 ·intro n2 z1 aC J1 fy h jt fj
  obtain rfl:=fy
  replace h:cZ aa fH n2=some z1:=h
  unfold cZ at h
  refine aE<|ae.qv (bG J J) J<|rN<|tS<|cD h J (fun h=>?_) (fun h=>?_)
  ·refine tK<|tS<|ab.block<|aE<|rM J J<|rA J J<|rN<|aE<|rM J J<|rM J J<|rM J J<|aD h fun v3 e1 h=>ae.qv (bO J J J e1 J J) J<|ae.qv (bt J J J) J<|aD h fun v4 e2 h=>uy J J (nK e2) cR J<|rN<|cB h J (fun h=>?_) (fun h=>?_)
   ·refine aE<|rM J J<|rA J J<|rN<|ab.ret<|have h:=cj h fj;?_
    cases h
    exact hP J J
   ·refine tK<|ab.bY<|tR<|ae.qv (bc J J) J<|rM J J<|rN<|ab.stop<|?_
    cases h
    exact jt _ _ J<|aj.lq [] J J J
  ·refine ab.exit J<|have h:=cj h fj;aE<|rA J J<|rN<|ab.ret<|?_
   cases h
   exact hP J J
theorem lf [GI:bD] {aa:List DeviceS} {fH:DeviceS→Option Bool} {ff:FuncId} [bw Tryz.prog ff] {gY:List AV} (nK:∀ {y0:_} {u:Bool},fH y0=some u→Pu Tryz.prog ff (DeviceS.av y0 :: gY) (.bool u)) {r:Bool} (h:c8 aa fH=some r):Pu Tryz.prog 67 [pJ aa,.func (.func ff) gY] (.bool r):=by
 unfold c8 at h
 refine aF.bC Tryz.func67 J Tryz.ntmps67 Tryz.results67 J J ?_
 refine aE<|rA J J<|rN<|aE<|rM J J<|rM J J<|aD h fun v1 e1 h=>gh J (mx nK e1) (.cons (.co (.refl _)) (.cons (.co (.refl _)) .nil)) J J<|ae.qv (oe J J) J<|rA J J<|rN<|ab.ret<|?_
 cases h
 exact hP J J
theorem wQ [GI:bD] {aa:Int} {ai:List DeviceS} {au:Campaign} {aK:Int} {o9:List MarkS} {r:Bool} (h:jT aa ai au aK o9=some r):Pu Tryz.prog 66 [I aa,.cE [pJ ai],.cE [.str au.Key,I au.Target.aN,I au.Target.aO,I au.Target.aM,I au.At,oM au.aB,I au.bh.eU,I au.bh.To,I au.Room],.cE [I aK],.cE [o8 o9]] (.bool r):=by
 unfold jT at h
 refine aF.bC Tryz.func66 J Tryz.ntmps66 Tryz.results66 J J ?_
 refine aE<|gi J J J J fun b1=>rA J J<|rN<|aE<|ae.qv (aX J J J) J<|ae.qv (xk J) J<|aD h fun v2 e1 h=>gh J (lf (fun e=>ua e) e1) (.cons (.co (.refl _)) (.cons (.Kz _ _ _ (.cons (.co (.refl _)) (.cons (.co (.refl _)) (.cons (.co (.refl _)) (.cons (.wJ _ _ _ .p0 (.cons (.co (.refl _)) .nil)) .nil))))) .nil)) J J<|ae.qv (cu J) J<|rA J J<|rN<|ab.ret<|?_
 cases h
 exact hP J J
theorem o1 [GI:bD] {aa:List Int} {fH:Int→Option Bool} {ff:FuncId} [bw Tryz.prog ff] {gY:List AV} (nK:∀ {y0:_} {u:Bool},fH y0=some u→Pu Tryz.prog ff (I y0 :: gY) (.bool u)) {r:Int} (h:fK aa fH=some r):Pu Tryz.prog 65 [fc aa,.func (.func ff) gY] (I r):=by
 unfold fK at h
 refine aF.bC Tryz.func65 J Tryz.ntmps65 Tryz.results65 J J ?_
 refine aE<|rA J J<|rN<|tS<|aE<|rM J J<|ae.qv (cV J) J<|rM J J<|rN<|ab.block<|ab.cM (fun x:Int=>eQ aa fH x) (fun x aC=>aC=⟨19,[(0,fc aa),(1,.func (.func ff) gY),(7,I (aa.length:Int)),(8,I x)],[]⟩) h ?_ ?_
 ·exact aj.lq [] J J J
 ·intro n2 z1 aC J1 fy h jt fj
  obtain rfl:=fy
  replace h:eQ aa fH n2=some z1:=h
  unfold eQ at h
  refine aE<|ae.qv (bG J J) J<|rN<|tS<|cD h J (fun h=>?_) (fun h=>?_)
  ·refine tK<|tS<|ab.block<|aE<|rM J J<|rA J J<|rN<|aE<|rM J J<|rM J J<|rM J J<|aD h fun v3 e1 h=>ae.qv (bO J J J e1 J J) J<|ae.qv (aX J J J) J<|aD h fun v4 e2 h=>uy J J (nK e2) cR J<|rN<|cB h J (fun h=>?_) (fun h=>?_)
   ·refine aE<|rM J J<|rA J J<|rN<|ab.ret<|have h:=cj h fj;?_
    cases h
    exact hP J J
   ·refine tK<|ab.bY<|tR<|ae.qv (bc J J) J<|rM J J<|rN<|ab.stop<|?_
    cases h
    exact jt _ _ J<|aj.lq [] J J J
  ·refine ab.exit J<|have h:=cj h fj;aE<|rA J J<|rN<|ab.ret<|?_
   cases h
   exact hP J J
theorem AK [GI:bD] {aa:Campaign} {ai:List DeviceS} {au:List MarkS} {aK:Int} {r:(List Int)} (h:mV aa ai au aK=some r):aF Tryz.prog 26 [Campaign.av aa,pJ ai,o8 au,I aK] [] (T1 (fun qN=>[(qN,dV r)]) (fun qN=>.sl 1 qN 0 r.length)):=by
 unfold mV at h
 refine aF.ia ?_
 refine aF.bC Tryz.func26 J Tryz.ntmps26 Tryz.results26 J J ?_
 refine aE<|gi J J J J fun b1=>gi J J J J fun b2=>gi J J J J fun b3=>rA J J<|rN<|aE<|ae.qv (aW J J .p2 J) J<|rL J J .p1 J J<|rL J J .p0 J J<|rM J J<|aD h fun v4 e1 h=>aS J (tA e1) cR J<|rA J J<|rN<|aE<|rA J J<|rN<|aE<|rF J J J<|rL J J .p2 J J<|rA J J<|rN<|tS<|aE<|rF J J J<|rL J J .p2 J J<|ae.qv (cV J) J<|rM J J<|rN<|ab.block<|ab.cM (fun x:(List Int)×Int×Int=>jW aa ai au aK v4 x.1 x.2.1 x.2.2) (fun x aC=>∃ (rb:Bk),aC=⟨95,[(3,I aK),(4,.ptr b1 0),(5,.ptr b2 0),(6,.ptr b3 0),(9,I v4),(10,.sl 1 rb 0 x.1.length),(11,I x.2.1),(27,I (aa.aB.length:Int)),(28,I x.2.2)],[(b1,.cells (wM aa)),(b2,.cells [pJ ai]),(b3,.cells [o8 au]),(rb,dV x.1)]⟩) h ?_ ?_
 ·exact aj.arr (s:=10) 1 J fun Gh=>aj.lq [3,2,1,0] ⟨Gh,J⟩ J J
 ·intro x z1 aC J1 fy h jt fj
  obtain ⟨lH,n14,n15⟩:=x
  obtain ⟨rb,rfl⟩:=fy
  replace h:jW aa ai au aK v4 lH n14 n15=some z1:=h
  unfold jW at h
  refine aE<|ae.qv (bG J J) J<|rN<|tS<|cD h J (fun h=>?_) (fun h=>?_)
  ·refine tK<|tS<|ab.block<|aE<|rM J J<|ca J J J J fun FG=>ay J J J J .p0 J J<|rN<|tS<|aE<|rL J J .p0 J J<|ae.qv (fL J J) J<|rN<|ab.cut (fun aC=>∃ (n18:Int),jU aK v4 lH n15 n18=some z1∧aC=⟨95,[(3,I aK),(4,.ptr b1 0),(5,.ptr b2 0),(6,.ptr b3 0),(9,I v4),(10,.sl 1 rb 0 lH.length),(11,I n18),(27,I (aa.aB.length:Int)),(28,I n15)],[(b1,.cells (wM aa)),(b2,.cells [pJ ai]),(b3,.cells [o8 au]),(rb,dV lH)]⟩) ?_ ?_
   ·refine cD h J (fun h=>?_) (fun h=>?_)
    ·refine aE<|rM J J<|rL J J .p0 J J<|ae.qv (cF J J) J<|aD h fun nO e2 h=>ae.qv (aQ J J J e2) J<|ae.qv (cN (g:=I) J J (.inl .p4) e2 J) J<|rA J J<|rN<|aE<|rM J J<|kK J J J J J J fun L4=>rA J J<|rN<|tS<|aE<|rL J J .p4 J J<|ae.qv (cV J) J<|rM J J<|rN<|ab.block<|ab.cM (fun x:(List Int)×Int=>jV aa ai au aK v4 lH n15 nO x.1 x.2) (fun x aC=>∃ (tx:Bk),aC=⟨95,[(3,I aK),(4,.ptr b1 0),(5,.ptr b2 0),(6,.ptr b3 0),(9,I v4),(10,.sl 1 rb 0 lH.length),(12,.ptr FG 0),(13,I nO),(14,.sl 1 tx 0 x.1.length),(27,I (aa.aB.length:Int)),(28,I n15),(40,o8 au),(41,I (au.length:Int)),(42,I x.2)],[(b1,.cells (wM aa)),(b2,.cells [pJ ai]),(b3,.cells [o8 au]),(rb,dV lH),(FG,.cells [I n15]),(tx,dV x.1)]⟩) h ?_ ?_
     ·exact aj.lq [2,2,2,2,1,0] ⟨L4,J⟩ J J
     ·intro x z2 aC J2 fy h Cm Bh
      obtain ⟨pn,n26⟩:=x
      obtain ⟨tx,rfl⟩:=fy
      replace h:jV aa ai au aK v4 lH n15 nO pn n26=some z2:=h
      unfold jV at h
      refine aE<|ae.qv (bG J J) J<|rN<|tS<|cD h J (fun h=>?_) (fun h=>?_)
      ·refine tK<|tS<|ab.block<|aE<|aD h fun kS e3 h=>ae.qv (bO J J J e3 J J) J<|ae.qv (bt J J J) J<|ca J J J J fun KU=>ay J J J J .p0 J J<|rN<|aE<|rF J J J<|rL J J .p0 J J<|rM J J<|rM J J<|aS J (mw J) cR J<|rN<|ab.cut (fun aC=>∃ (M6:Bk) (Gg:List Int),kZ n26 Gg=some z2∧aC=⟨95,[(3,I aK),(4,.ptr b1 0),(5,.ptr b2 0),(6,.ptr b3 0),(9,I v4),(10,.sl 1 rb 0 lH.length),(12,.ptr FG 0),(13,I nO),(14,.sl 1 M6 0 Gg.length),(27,I (aa.aB.length:Int)),(28,I n15),(40,o8 au),(41,I (au.length:Int)),(42,I n26)],[(b1,.cells (wM aa)),(b2,.cells [pJ ai]),(b3,.cells [o8 au]),(rb,dV lH),(FG,.cells [I n15]),(M6,dV Gg)]⟩) ?_ ?_
       ·refine cB h J (fun h=>?_) (fun h=>?_)
        ·exact tR<|rM J J<|rF J J J<|rL J J .p0 J J<|aU (xs:=([kS.At]:List Int).map I) J J J J J J<|aD h fun Q3 e4 h=>kU (g:=I) J J J J J J J J (.list _) e4 (fun _=>.p6) J fun Yc=>rA J J<|rN<|ab.stop<|aj.lq [1,1,1,1,1,1] ⟨Yc,Q3,h,J⟩ J J
        ·exact tK<|ab.stop<|aj.lq [1,1,1,1,1,1] ⟨tx,pn,h,J⟩ J J
       ·rintro aC ⟨M6,Gg,h,rfl⟩
        unfold kZ at h
        refine ab.bY<|tR<|ae.qv (bc J J) J<|rM J J<|rN<|ab.stop<|?_
        cases h
        exact Cm _ _ J<|aj.lq [0,0,0,0,0,0] ⟨M6,J⟩ J J
      ·refine ab.exit J<|have h:=cj h Bh;?_
       unfold nq at h
       refine aE<|rM J J<|aD h fun v33 e5 h=>aZ J (rK (j9 e5)) cR (.cons .p5 .nil) J J<|ae.ghost<|aj.eqs (s:=14) (ep:=.sl 1 tx 0 v33.length) J (congrArg (AV.sl 1 tx 0) (cY e5))<|aj.here<|ae.ghost<|aj.eqs (s:=57) (ep:=.sl 1 tx 0 v33.length) J (congrArg (AV.sl 1 tx 0) (cY e5))<|aj.here<|rN<|aE<|rM J J<|ae.qv (xk J) J<|aD h fun Ch e6 h=>gh J (o1 (fun e=>wQ e) e6) (.cons (ln.kL .p0) (.cons (.Kz _ _ _ (.cons (.wJ _ _ _ .p2 (.cons (.co (.refl _)) .nil)) (.cons (.wJ _ _ _ .p1 (.cons (.co (.refl _)) (.cons (.co (.refl _)) (.cons (.co (.refl _)) (.cons (.co (.refl _)) (.cons (.co (.refl _)) (.cons (.co (.refl _)) (.cons (.co (.refl _)) (.cons (.co (.refl _)) (.cons (.co (.refl _)) .nil)))))))))) (.cons (.wJ _ _ _ .p5 (.cons (.co (.refl _)) .nil)) (.cons (.wJ _ _ _ .p3 (.cons (.co (.refl _)) .nil)) .nil))))) .nil)) J J<|rA J J<|rN<|tS<|aE<|rM J J<|ae.qv (bG J J) J<|rN<|cD h J (fun h=>?_) (fun h=>?_)
       ·refine aE<|rM J J<|rA J J<|rN<|ab.ret<|have h:=cj h fj;?_
        cases h
        exact hH J [4] J ⟨rb,J,J⟩
       ·exact tK<|ab.eh (id:=20) (A:=[0,0,3,7,0,16,0,112,240,496,1023,2047]) 12 mixed J (by kernel_rfl) (by kernel_rfl)<|AM.qv (aA J) J<|AM.qv (aA J) J<|aD h fun v35 e7 h=>AM.qv (aQ J J J e7) J<|AM.qv (cN (g:=I) J J (.inl .p0) e7 J) J<|AM.qv (aG J J) J<|AM.qv (ba J J .p1 J) J<|AM.qv (ba J J .p5 J) J<|aD h fun HD e8 h=>AM.qv (bO J J J e8 J J) J<|AM.qv (bu J J) J<|AM.qv (aX J J J) J<|AM.qv (bc J J) J<|AM.qv (ek J) J<|AM.nil<|rN<|ab.stop<|aj.lq [1,1,1,1] ⟨aJ (v35+HD.oW),h,J⟩ J J
    ·exact tK<|ab.stop<|aj.lq [1,1,1,1] ⟨n14,h,J⟩ J J
   ·rintro aC ⟨n18,h,rfl⟩
    unfold jU at h
    refine tS<|tS<|ab.cut (fun aC=>∃ (c37:Bool),np lH n15 n18 c37=some z1∧aC=⟨95,[(3,I aK),(4,.ptr b1 0),(5,.ptr b2 0),(6,.ptr b3 0),(9,I v4),(10,.sl 1 rb 0 lH.length),(11,I n18),(27,I (aa.aB.length:Int)),(28,I n15),(87,.bool c37)],[(b1,.cells (wM aa)),(b2,.cells [pJ ai]),(b3,.cells [o8 au]),(rb,dV lH)]⟩) ?_ ?_
    ·refine tR<|rM J J<|rM J J<|ae.qv (fL J J) J<|rM J J<|ae.dA J J J (fun hc=>?_) (fun hc=>?_)
     ·rw [uA hc] at h
      refine rM J J<|rY J J J<|ae.qv (oe J J) J<|rY J J J<|rM J J<|ae.cy J J J (fun hc=>?_) (fun hc=>?_)
      ·rw [om hc] at h
       exact rM J J<|rY J J J<|rM J J<|rY J J J<|ae.qv (oe J J) J<|rY J J J<|rT J J J<|rE J J J<|rN<|ab.stop<|aj.lq [0,0,0,0] ⟨decide (v4≤n18),h,J⟩ J J
      ·rw [oo hc] at h
       exact rG J J J J<|rG J J J J<|rY J J J<|rE J J J<|rE J J J<|rN<|ab.stop<|aj.lq [0,0,0,0] ⟨false,h,J⟩ J J
     ·rw [uz hc] at h
      exact rG J J J J<|rG J J J J<|ae.aH J J J<|ae.aH J J J<|ae.aH J J J<|rG J J J J<|rT J J J<|rN<|ab.stop<|aj.lq [0,0,0,0] ⟨true,h,J⟩ J J
    ·rintro aC ⟨c37,h,rfl⟩
     unfold np at h
     refine cB h J (fun h=>?_) (fun h=>?_)
     ·refine aE<|rM J J<|rA J J<|rN<|ab.ret<|have h:=cj h fj;?_
      cases h
      exact hH J [3] J ⟨rb,J,J⟩
     ·refine tK<|tR<|rM J J<|rM J J<|aU (xs:=([n18]:List Int).map I) J J J J J J<|aD h fun Up e9 h=>kU (g:=I) J J J J J J J J (.list _) e9 (fun _=>.p3) J fun Ra=>rA J J<|rN<|ab.bY<|tR<|ae.qv (bc J J) J<|rM J J<|rN<|ab.stop<|?_
      cases h
      exact jt _ _ J<|aj.lq [0,0,0,0] ⟨Ra,J⟩ J J
  ·refine ab.exit J<|have h:=cj h fj;aE<|rM J J<|rA J J<|rN<|ab.ret<|?_
   cases h
   exact hH J [3] J ⟨rb,J,J⟩
end Go.Proofs.YtpibecbdhjbanaaGreatDoor
