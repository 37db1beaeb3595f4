/- The code computes the plain functions: proofs written by shal.py. -/
import Derived.Test.YtnchkajkgjkpmaaGreatDoorOdfW2
set_option maxHeartbeats 4000000
set_option maxRecDepth 100000
set_option linter.unusedVariables false
set_option linter.unusedSimpArgs false
namespace Go.Proofs.YtnchkajkgjkpmaaGreatDoor
open Go Go.Eng Go.Proofs Go.Beacon
attribute [local irreducible] ae ab AQ QV aI aj TK AM
theorem uW [GI:bD] {bn:Bk} {aa:List aB} {ak:List ai} {aP:List ai} {aX:ai} {bK:ai} {r:(List aB)} (h:jg aa ak aP aX bK=some r):aI Tryz.prog 89 [.sl 3 bn 0 aa.length,gz ak,gz aP,.str aX,.str bK] [(bn,pL aa)] (T1 (fun kK=>[(kK,pL r)]) (fun kK=>.sl 3 kK 0 r.length)):=by
 unfold jg at h
 refine aI.fD ?_
 refine aI.aZ Tryz.func89 J Tryz.ntmps89 Tryz.results89 J J ?_
 refine az<|rA J J<|rN<|tS<|az<|rM J J<|ae.qv (bB J) J<|rM J J<|rN<|ab.block<|ab.bO (fun x:(List aB)×Int=>dH ak aP aX bK x.1 x.2) (fun x aE=>∃ (b4:Bk),aE=⟨38,[(0,.sl 3 b4 0 x.1.length),(2,gz aP),(3,.str aX),(4,.str bK),(15,gz ak),(16,I (ak.length:Int)),(17,I x.2)],[(b4,pL x.1)]⟩) h ?_ ?_
 ·exact aj.lq [0] ⟨bn,J⟩ J J
 ·intro x z1 aE J1 dh h im dN
  obtain ⟨l5,n6⟩:=x
  obtain ⟨b4,rfl⟩:=dh
  replace h:dH ak aP aX bK l5 n6=some z1:=h
  unfold dH at h
  refine az<|ae.qv (br J J) J<|rN<|tS<|cD h J (fun h=>?_) (fun h=>?_)
  ·refine tK<|tS<|ab.block<|az<|ax h fun v7 e1 h=>ae.qv (aS J J J e1 J J) J<|ae.qv (aJ J J J) J<|rA J J<|rN<|az<|rM J J<|rM J J<|ax h fun v8 e2 h=>aH J (qt e2) cR J<|rM J J<|rX J J J<|rX J J J<|rA J J<|rA J J<|rN<|az<|rM J J<|ae.qv (bF J) J<|rN<|ab.cut (fun aE=>∃ (b9:Bk) (l10:List aB),iW n6 l10=some z1∧aE=⟨38,[(0,.sl 3 b9 0 l10.length),(2,gz aP),(3,.str aX),(4,.str bK),(15,gz ak),(16,I (ak.length:Int)),(17,I n6)],[(b9,pL l10)]⟩) ?_ ?_
   ·refine cB h J (fun h=>?_) (fun h=>?_)
    ·exact tR<|rM J J<|rM J J<|rM J J<|rM J J<|ae.qv (bq J J J J J) J<|aF (xs:=([(⟨v7,aX,bK⟩:aB)]).map aB.av) J J J J J J<|ax h fun zd e3 h=>cU (g:=aB.av) J J J J J J J J (.list _) e3 (fun _=>.p0) J fun Le=>rA J J<|rN<|ab.stop<|aj.lq [0] ⟨Le,zd,h,J⟩ J J
    ·exact tK<|ab.stop<|aj.lq [0] ⟨b4,l5,h,J⟩ J J
   ·rintro aE ⟨b9,l10,h,rfl⟩
    unfold iW at h
    refine ab.bX<|tR<|ae.qv (bf J J) J<|rM J J<|rN<|ab.stop<|?_
    cases h
    exact im _ _ J<|aj.lq [0] ⟨b9,J⟩ J J
  ·refine ab.exit J<|have h:=bx h dN;az<|rM J J<|rA J J<|rN<|ab.ret<|?_
   cases h
   exact hH J [0] J ⟨b4,J,J⟩
theorem Ef {aa:aW} {ak:aW} {aP:List ai} {aX:List aL} {bK:Int} {r:(List aB)×(List aB)×Int} (h:fT aa ak aP aX bK=some r):aI Tryz.prog 29 [aW.av aa,aW.av ak,gz aP,wb aX,I bK] [] (T2 (fun kK XG=>[(kK,pL r.1),(XG,pL r.2.1)]) (fun kK XG=>.pT [.sl 3 kK 0 r.1.length,.sl 3 XG 0 r.2.1.length,I r.2.2])):=by
 unfold fT at h
 refine aI.fD ?_
 refine aI.aZ Tryz.func29 J Tryz.ntmps29 Tryz.results29 J J ?_
 refine az<|cJ J J J J fun b1=>cJ J J J J fun b2=>rA J J<|rA J J<|rA J J<|rN<|az<|ae.qv (aA J J .p1 J) J<|ax h fun v3 e1 h=>Ro h (fun e2 h=>?_) (fun x4 e2 h=>?_)
 ·refine have ae4:=BX e2 (gq e1);aR J ae4 cR .nil J J<|rM J J<|rX J J J<|rX J J J<|rA J J<|rA J J<|rN<|tS<|az<|rM J J<|ae.qv (ei J J) J<|rN<|cD h J (fun h=>?_) (fun h=>?_)
  ·refine az<|rM J J<|rA J J<|rA J J<|rA J J<|rN<|ab.ret<|?_
   cases h
   exact aj.arr (s:=10) 3 J fun b5=>aj.arr (s:=11) 3 J fun b6=>aj.here ⟨_,.cons (.tmp _ _ J) (.cons (.tmp _ _ J) (.cons (.tmp _ _ J) .nil)),_,.cons .p1 (.cons .p0 .nil),⟨b5,b6,J,J⟩⟩
  ·refine tK<|az<|ae.qv (aA J J .p0 J) J<|ax h fun v7 e3 h=>Ro h (fun e4 h=>?_) (fun x8 e4 h=>?_)
   ·refine have ae5:=BX e4 (gq e3);aR J ae5 cR .nil J J<|rM J J<|rX J J J<|rX J J J<|rA J J<|rA J J<|rN<|tS<|az<|rM J J<|ae.qv (ei J J) J<|rN<|cD h J (fun h=>?_) (fun h=>?_)
    ·refine az<|rM J J<|rA J J<|rA J J<|rA J J<|rN<|ab.ret<|?_
     cases h
     exact aj.arr (s:=10) 3 J fun b9=>aj.arr (s:=11) 3 J fun GH=>aj.here ⟨_,.cons (.tmp _ _ J) (.cons (.tmp _ _ J) (.cons (.tmp _ _ J) .nil)),_,.cons .p1 (.cons .p0 .nil),⟨b9,GH,J,J⟩⟩
    ·refine tK<|tS<|az<|rM J J<|ae.qv (bB J) J<|ae.qv (cS J J) J<|rN<|cD h J (fun h=>?_) (fun h=>?_)
     ·refine az<|rA J J<|rA J J<|rA J J<|rN<|ab.ret<|?_
      cases h
      exact aj.arr (s:=10) 3 J fun Bg=>aj.arr (s:=11) 3 J fun Le=>aj.here ⟨_,.cons (.tmp _ _ J) (.cons (.tmp _ _ J) (.cons (.tmp _ _ J) .nil)),_,.cons .p1 (.cons .p0 .nil),⟨Bg,Le,J,J⟩⟩
     ·refine tK<|tS<|az<|rM J J<|ae.qv (bB J) J<|rM J J<|rN<|ab.block<|ab.bO (fun x:Int=>pq aP aX bK x) (fun x aE=>aE=⟨130,[(2,gz aP),(3,wb aX),(4,I bK),(13,.raw (.pointer none)),(15,.raw (.pointer none)),(46,gz aP),(47,I (aP.length:Int)),(48,I x)],[]⟩) h ?_ ?_
      ·exact aj.lq [] J J J
      ·intro n14 z1 aE J1 dh h im dN
       obtain rfl:=dh
       replace h:pq aP aX bK n14=some z1:=h
       unfold pq at h
       refine az<|ae.qv (br J J) J<|rN<|tS<|cD h J (fun h=>?_) (fun h=>?_)
       ·refine tK<|tS<|ab.block<|az<|rM J J<|ax h fun B3 e5 h=>ae.qv (aS J J J e5 J J) J<|ae.qv (aJ J J J) J<|rA J J<|rA J J<|rN<|tS<|az<|rM J J<|ax h fun pf e6 h=>aH J (mz e6) cR J<|ae.qv (bF J) J<|rN<|cB h J (fun h=>?_) (fun h=>?_)
        ·refine az<|rA J J<|rA J J<|rA J J<|rN<|ab.ret<|have h:=bx h dN;?_
         cases h
         exact aj.arr (s:=10) 3 J fun Qi=>aj.arr (s:=11) 3 J fun Jf=>aj.here ⟨_,.cons (.tmp _ _ J) (.cons (.tmp _ _ J) (.cons (.tmp _ _ J) .nil)),_,.cons .p1 (.cons .p0 .nil),⟨Qi,Jf,J,J⟩⟩
        ·refine tK<|tS<|ab.cut (fun aE=>∃ (RI:Bool),pj n14 RI=some z1∧aE=⟨130,[(2,gz aP),(3,wb aX),(4,I bK),(13,.raw (.pointer none)),(15,.raw (.pointer none)),(46,gz aP),(47,I (aP.length:Int)),(48,I n14),(66,.bool RI)],[]⟩) ?_ ?_
         ·refine tR<|rM J J<|ae.qv (cS J J) J<|rM J J<|gT h J J J (fun h=>?_) (fun h=>?_)
          ·exact rM J J<|rY J J J<|rM J J<|rY J J J<|rM J J<|rY J J J<|ae.qv (fm J J) J<|rY J J J<|ax h fun v20 e7 h=>ae.qv (aS J J J e7 J J) J<|rY J J J<|ae.qv (aJ J J J) J<|rY J J J<|ae.qv (od J J) J<|rT J J J<|rN<|ab.stop<|aj.lq [] ⟨Op.bytesLess B3 v20||B3==v20,h,J⟩ J J
          ·exact rG J J J J<|rG J J J J<|rG J J J J<|rG J J J J<|rG J J J J<|rG J J J J<|rE J J J<|rN<|ab.stop<|aj.lq [] ⟨false,h,J⟩ J J
         ·rintro aE ⟨RI,h,rfl⟩
          unfold pj at h
          refine cB h J (fun h=>?_) (fun h=>?_)
          ·refine az<|rA J J<|rA J J<|rA J J<|rN<|ab.ret<|have h:=bx h dN;?_
           cases h
           exact aj.arr (s:=10) 3 J fun TA=>aj.arr (s:=11) 3 J fun Px=>aj.here ⟨_,.cons (.tmp _ _ J) (.cons (.tmp _ _ J) (.cons (.tmp _ _ J) .nil)),_,.cons .p1 (.cons .p0 .nil),⟨TA,Px,J,J⟩⟩
          ·refine tK<|ab.bX<|tR<|ae.qv (bf J J) J<|rM J J<|rN<|ab.stop<|?_
           cases h
           exact im _ _ J<|aj.lq [] J J J
       ·refine ab.exit J<|have h:=bx h dN;?_
        unfold xm at h
        refine tS<|az<|rM J J<|ax h fun v23 e8 h=>aH J (pN e8) cR J<|rA J J<|rN<|az<|rM J J<|ae.qv (ei J J) J<|rN<|cD h J (fun h=>?_) (fun h=>?_)
        ·refine az<|rM J J<|rA J J<|rA J J<|rA J J<|rN<|ab.ret<|?_
         cases h
         exact aj.arr (s:=10) 3 J fun Sb=>aj.arr (s:=11) 3 J fun Tx=>aj.here ⟨_,.cons (.tmp _ _ J) (.cons (.tmp _ _ J) (.cons (.tmp _ _ J) .nil)),_,.cons .p1 (.cons .p0 .nil),⟨Sb,Tx,J,J⟩⟩
        ·refine tK<|tS<|az<|rM J J<|aH J (qs J) cR J<|ae.qv (bF J) J<|rN<|cB h J (fun h=>?_) (fun h=>?_)
         ·refine az<|rA J J<|rA J J<|rA J J<|rN<|ab.ret<|?_
          cases h
          exact aj.arr (s:=10) 3 J fun La=>aj.arr (s:=11) 3 J fun Zr=>aj.here ⟨_,.cons (.tmp _ _ J) (.cons (.tmp _ _ J) (.cons (.tmp _ _ J) .nil)),_,.cons .p1 (.cons .p0 .nil),⟨La,Zr,J,J⟩⟩
         ·refine tK<|az<|rA J J<|rA J J<|rN<|tS<|az<|rM J J<|ae.qv (bB J) J<|rM J J<|rN<|ab.block<|ab.bO (fun x:Int=>pn aP aX x) (fun x aE=>aE=⟨130,[(3,wb aX),(4,I bK),(13,.raw (.pointer none)),(15,.raw (.pointer none)),(19,.nil),(20,.nil),(76,gz aP),(77,I (aP.length:Int)),(78,I x)],[]⟩) h ?_ ?_
          ·exact aj.lq [] J J J
          ·intro n29 z2 aE J2 dh h ya tY
           obtain rfl:=dh
           replace h:pn aP aX n29=some z2:=h
           unfold pn at h
           refine az<|ae.qv (br J J) J<|rN<|tS<|cD h J (fun h=>?_) (fun h=>?_)
           ·refine tK<|tS<|ab.block<|az<|ax h fun v30 e9 h=>ae.qv (aS J J J e9 J J) J<|ae.qv (aJ J J J) J<|rA J J<|rN<|az<|rM J J<|ae.qv (bB J) J<|rM J J<|rN<|ab.block<|ab.bO (fun x:Unit=>pk aX n29) (fun x aE=>aE=⟨130,[(3,wb aX),(4,I bK),(13,.raw (.pointer none)),(15,.raw (.pointer none)),(19,.nil),(20,.nil),(22,.str v30),(76,gz aP),(77,I (aP.length:Int)),(78,I n29),(82,wb aX),(83,I (aX.length:Int)),(84,I (0:Int))],[]⟩) h ?_ ?_
            ·exact aj.lq [] J J J
            ·intro x z3 aE J3 dh h N9 Lb
             obtain rfl:=dh
             replace h:pk aX n29=some z3:=h
             unfold pk at h
             refine az<|ae.qv (br J J) J<|rN<|tS<|cD h J (fun h=>?_) (fun h=>?_)
             ·refine tK<|tS<|ab.block<|az<|ax h fun v31 Am h=>ae.qv (aS J J J Am J J) J<|ae.qv (aM J J J) J<|bu J J J J fun Ty=>ay J J J J .p0 J J<|rN<|tS<|?_
              cases h
             ·refine ab.exit J<|have h:=bx h Lb;ab.bX<|tR<|ae.qv (bf J J) J<|rM J J<|rN<|ab.stop<|?_
              cases h
              exact ya _ _ J<|aj.lq [] J J J
           ·refine ab.exit J<|have h:=bx h tY;?_
            unfold xl at h
            refine az<|rM J J<|ae.ghost<|aj.arr (s:=124) 3 J fun b33=>aj.here<|ax h fun Zn Bf h=>aR J (ck (fun e=>gr (GI:=mJ) e) (rU Bf)) cR (.cons .p0 .nil) J J<|ae.ghost<|aj.eqs (s:=124) (rz:=.sl 3 b33 0 Zn.length) J (congrArg (AV.sl 3 b33 0) (kX Bf))<|aj.here<|rN<|az<|rM J J<|ae.ghost<|aj.arr (s:=126) 3 J fun L9=>aj.here<|ax h fun v36 GF h=>aR J (ck (fun e=>gr (GI:=mJ) e) (rU GF)) cR (.cons .p0 .nil) J J<|ae.ghost<|aj.eqs (s:=126) (rz:=.sl 3 L9 0 v36.length) J (congrArg (AV.sl 3 L9 0) (kX GF))<|aj.here<|rN<|az<|rM J J<|rM J J<|rA J J<|rA J J<|rA J J<|rN<|ab.ret<|?_
            cases h
            exact aj.arr (s:=10) 3 J fun N8=>aj.arr (s:=11) 3 J fun b38=>aj.here ⟨_,.cons (.tmp _ _ J) (.cons (.tmp _ _ J) (.cons (.tmp _ _ J) .nil)),_,.cons .p1 (.cons .p0 .nil),⟨N8,b38,J,J⟩⟩
   ·refine have ae6:=BY e4 (gq e3);BZ J ae6 cR .nil (fun _ _ _ _ _ _=>J) J fun Py U5 MW JT MX Wk=>rM J J<|rX J J J<|rX J J J<|rA J J<|rA J J<|rN<|tS<|az<|rM J J<|ae.qv (ei J J) J<|rN<|cD h J (fun h=>?_) (fun h=>?_)
    ·refine az<|rM J J<|rA J J<|rA J J<|rA J J<|rN<|ab.ret<|?_
     cases h
     exact aj.arr (s:=10) 3 J fun Qj=>aj.arr (s:=11) 3 J fun Wh=>aj.here ⟨_,.cons (.tmp _ _ J) (.cons (.tmp _ _ J) (.cons (.tmp _ _ J) .nil)),_,.cons .p1 (.cons .p0 .nil),⟨Qj,Wh,J,J⟩⟩
    ·refine tK<|tS<|az<|rM J J<|ae.qv (bB J) J<|ae.qv (cS J J) J<|rN<|cD h J (fun h=>?_) (fun h=>?_)
     ·refine az<|rA J J<|rA J J<|rA J J<|rN<|ab.ret<|?_
      cases h
      exact aj.arr (s:=10) 3 J fun b47=>aj.arr (s:=11) 3 J fun b48=>aj.here ⟨_,.cons (.tmp _ _ J) (.cons (.tmp _ _ J) (.cons (.tmp _ _ J) .nil)),_,.cons .p1 (.cons .p0 .nil),⟨b47,b48,J,J⟩⟩
     ·refine tK<|tS<|az<|rM J J<|ae.qv (bB J) J<|rM J J<|rN<|ab.block<|ab.bO (fun x:Int=>pw aP aX bK x) (fun x aE=>aE=⟨130,[(2,gz aP),(3,wb aX),(4,I bK),(13,.raw (.pointer none)),(15,.ptr Py 0),(46,gz aP),(47,I (aP.length:Int)),(48,I x)],[(Py,.cells (tt x8 U5 MW JT MX Wk)),(U5,ed x8.aT),(MW,il x8.bU),(JT,j0 x8.at_),(MX,ja x8.cr),(Wk,oe x8.dw)]⟩) h ?_ ?_
      ·exact aj.lq [0,0,0,0,0,0] J J J
      ·intro n50 z4 aE J4 dh h hJ4 Wg
       obtain rfl:=dh
       replace h:pw aP aX bK n50=some z4:=h
       unfold pw at h
       refine az<|ae.qv (br J J) J<|rN<|tS<|cD h J (fun h=>?_) (fun h=>?_)
       ·refine tK<|tS<|ab.block<|az<|rM J J<|ax h fun v51 G5 h=>ae.qv (aS J J J G5 J J) J<|ae.qv (aJ J J J) J<|rA J J<|rA J J<|rN<|tS<|az<|rM J J<|ax h fun v52 Pw h=>aH J (mz Pw) cR J<|ae.qv (bF J) J<|rN<|cB h J (fun h=>?_) (fun h=>?_)
        ·refine az<|rA J J<|rA J J<|rA J J<|rN<|ab.ret<|have h:=bx h Wg;?_
         cases h
         exact aj.arr (s:=10) 3 J fun L8=>aj.arr (s:=11) 3 J fun b54=>aj.here ⟨_,.cons (.tmp _ _ J) (.cons (.tmp _ _ J) (.cons (.tmp _ _ J) .nil)),_,.cons .p1 (.cons .p0 .nil),⟨L8,b54,J,J⟩⟩
        ·refine tK<|tS<|ab.cut (fun aE=>∃ (c55:Bool),ps n50 c55=some z4∧aE=⟨130,[(2,gz aP),(3,wb aX),(4,I bK),(13,.raw (.pointer none)),(15,.ptr Py 0),(46,gz aP),(47,I (aP.length:Int)),(48,I n50),(66,.bool c55)],[(Py,.cells (tt x8 U5 MW JT MX Wk)),(U5,ed x8.aT),(MW,il x8.bU),(JT,j0 x8.at_),(MX,ja x8.cr),(Wk,oe x8.dw)]⟩) ?_ ?_
         ·refine tR<|rM J J<|ae.qv (cS J J) J<|rM J J<|gT h J J J (fun h=>?_) (fun h=>?_)
          ·exact rM J J<|rY J J J<|rM J J<|rY J J J<|rM J J<|rY J J J<|ae.qv (fm J J) J<|rY J J J<|ax h fun IV R4 h=>ae.qv (aS J J J R4 J J) J<|rY J J J<|ae.qv (aJ J J J) J<|rY J J J<|ae.qv (od J J) J<|rT J J J<|rN<|ab.stop<|aj.lq [0,0,0,0,0,0] ⟨Op.bytesLess v51 IV||v51==IV,h,J⟩ J J
          ·exact rG J J J J<|rG J J J J<|rG J J J J<|rG J J J J<|rG J J J J<|rG J J J J<|rE J J J<|rN<|ab.stop<|aj.lq [0,0,0,0,0,0] ⟨false,h,J⟩ J J
         ·rintro aE ⟨c55,h,rfl⟩
          unfold ps at h
          refine cB h J (fun h=>?_) (fun h=>?_)
          ·refine az<|rA J J<|rA J J<|rA J J<|rN<|ab.ret<|have h:=bx h Wg;?_
           cases h
           exact aj.arr (s:=10) 3 J fun b57=>aj.arr (s:=11) 3 J fun ZB=>aj.here ⟨_,.cons (.tmp _ _ J) (.cons (.tmp _ _ J) (.cons (.tmp _ _ J) .nil)),_,.cons .p1 (.cons .p0 .nil),⟨b57,ZB,J,J⟩⟩
          ·refine tK<|ab.bX<|tR<|ae.qv (bf J J) J<|rM J J<|rN<|ab.stop<|?_
           cases h
           exact hJ4 _ _ J<|aj.lq [0,0,0,0,0,0] J J J
       ·refine ab.exit J<|have h:=bx h Wg;?_
        unfold xo at h
        refine tS<|az<|rM J J<|ax h fun v59 R5 h=>aH J (pN R5) cR J<|rA J J<|rN<|az<|rM J J<|ae.qv (ei J J) J<|rN<|cD h J (fun h=>?_) (fun h=>?_)
        ·refine az<|rM J J<|rA J J<|rA J J<|rA J J<|rN<|ab.ret<|?_
         cases h
         exact aj.arr (s:=10) 3 J fun b60=>aj.arr (s:=11) 3 J fun Zu=>aj.here ⟨_,.cons (.tmp _ _ J) (.cons (.tmp _ _ J) (.cons (.tmp _ _ J) .nil)),_,.cons .p1 (.cons .p0 .nil),⟨b60,Zu,J,J⟩⟩
        ·refine tK<|tS<|az<|rM J J<|aH J (qs J) cR J<|ae.qv (bF J) J<|rN<|cB h J (fun h=>?_) (fun h=>?_)
         ·refine az<|rA J J<|rA J J<|rA J J<|rN<|ab.ret<|?_
          cases h
          exact aj.arr (s:=10) 3 J fun Zw=>aj.arr (s:=11) 3 J fun b63=>aj.here ⟨_,.cons (.tmp _ _ J) (.cons (.tmp _ _ J) (.cons (.tmp _ _ J) .nil)),_,.cons .p1 (.cons .p0 .nil),⟨Zw,b63,J,J⟩⟩
         ·refine tK<|az<|rA J J<|rA J J<|rN<|tS<|az<|rM J J<|ae.qv (bB J) J<|rM J J<|rN<|ab.block<|ab.bO (fun x:Int=>pv aP aX x) (fun x aE=>aE=⟨130,[(3,wb aX),(4,I bK),(13,.raw (.pointer none)),(15,.ptr Py 0),(19,.nil),(20,.nil),(76,gz aP),(77,I (aP.length:Int)),(78,I x)],[(Py,.cells (tt x8 U5 MW JT MX Wk)),(U5,ed x8.aT),(MW,il x8.bU),(JT,j0 x8.at_),(MX,ja x8.cr),(Wk,oe x8.dw)]⟩) h ?_ ?_
          ·exact aj.lq [0,0,0,0,0,0] J J J
          ·intro N6 z5 aE J5 dh h hJ5 hA5
           obtain rfl:=dh
           replace h:pv aP aX N6=some z5:=h
           unfold pv at h
           refine az<|ae.qv (br J J) J<|rN<|tS<|cD h J (fun h=>?_) (fun h=>?_)
           ·refine tK<|tS<|ab.block<|az<|ax h fun v66 R6 h=>ae.qv (aS J J J R6 J J) J<|ae.qv (aJ J J J) J<|rA J J<|rN<|az<|rM J J<|ae.qv (bB J) J<|rM J J<|rN<|ab.block<|ab.bO (fun x:Unit=>pt aX N6) (fun x aE=>aE=⟨130,[(3,wb aX),(4,I bK),(13,.raw (.pointer none)),(15,.ptr Py 0),(19,.nil),(20,.nil),(22,.str v66),(76,gz aP),(77,I (aP.length:Int)),(78,I N6),(82,wb aX),(83,I (aX.length:Int)),(84,I (0:Int))],[(Py,.cells (tt x8 U5 MW JT MX Wk)),(U5,ed x8.aT),(MW,il x8.bU),(JT,j0 x8.at_),(MX,ja x8.cr),(Wk,oe x8.dw)]⟩) h ?_ ?_
            ·exact aj.lq [0,0,0,0,0,0] J J J
            ·intro x z6 aE J6 dh h hJ6 hA6
             obtain rfl:=dh
             replace h:pt aX N6=some z6:=h
             unfold pt at h
             refine az<|ae.qv (br J J) J<|rN<|tS<|cD h J (fun h=>?_) (fun h=>?_)
             ·refine tK<|tS<|ab.block<|az<|ax h fun v67 U3 h=>ae.qv (aS J J J U3 J J) J<|ae.qv (aM J J J) J<|bu J J J J fun b68=>ay J J J J .p0 J J<|rN<|tS<|?_
              cases h
             ·refine ab.exit J<|have h:=bx h hA6;ab.bX<|tR<|ae.qv (bf J J) J<|rM J J<|rN<|ab.stop<|?_
              cases h
              exact hJ5 _ _ J<|aj.lq [0,0,0,0,0,0] J J J
           ·refine ab.exit J<|have h:=bx h hA5;?_
            unfold xn at h
            refine az<|rM J J<|ae.ghost<|aj.arr (s:=124) 3 J fun Tz=>aj.here<|ax h fun v70 Tw h=>aR J (ck (fun e=>gr (GI:=mJ) e) (rU Tw)) cR (.cons .p0 .nil) J J<|ae.ghost<|aj.eqs (s:=124) (rz:=.sl 3 Tz 0 v70.length) J (congrArg (AV.sl 3 Tz 0) (kX Tw))<|aj.here<|rN<|az<|rM J J<|ae.ghost<|aj.arr (s:=126) 3 J fun b71=>aj.here<|ax h fun v72 Wi h=>aR J (ck (fun e=>gr (GI:=mJ) e) (rU Wi)) cR (.cons .p0 .nil) J J<|ae.ghost<|aj.eqs (s:=126) (rz:=.sl 3 b71 0 v72.length) J (congrArg (AV.sl 3 b71 0) (kX Wi))<|aj.here<|rN<|az<|rM J J<|rM J J<|rA J J<|rA J J<|rA J J<|rN<|ab.ret<|?_
            cases h
            exact aj.arr (s:=10) 3 J fun Zx=>aj.arr (s:=11) 3 J fun b74=>aj.here ⟨_,.cons (.tmp _ _ J) (.cons (.tmp _ _ J) (.cons (.tmp _ _ J) .nil)),_,.cons .p1 (.cons .p0 .nil),⟨Zx,b74,J,J⟩⟩
 ·refine have ae7:=BY e2 (gq e1);BZ J ae7 cR .nil (fun _ _ _ _ _ _=>J) J fun BB vH xa vI xb xc=>rM J J<|rX J J J<|rX J J J<|rA J J<|rA J J<|rN<|tS<|az<|rM J J<|ae.qv (ei J J) J<|rN<|cD h J (fun h=>?_) (fun h=>?_)
  ·refine az<|rM J J<|rA J J<|rA J J<|rA J J<|rN<|ab.ret<|?_
   cases h
   exact aj.arr (s:=10) 3 J fun b81=>aj.arr (s:=11) 3 J fun b82=>aj.here ⟨_,.cons (.tmp _ _ J) (.cons (.tmp _ _ J) (.cons (.tmp _ _ J) .nil)),_,.cons .p1 (.cons .p0 .nil),⟨b81,b82,J,J⟩⟩
  ·refine tK<|az<|ae.qv (aA J J .p6 J) J<|ax h fun Zo Wj h=>Ro h (fun XF h=>?_) (fun vZ XF h=>?_)
   ·refine have ae8:=BX XF (gq Wj);aR J ae8 cR .nil J J<|rM J J<|rX J J J<|rX J J J<|rA J J<|rA J J<|rN<|tS<|az<|rM J J<|ae.qv (ei J J) J<|rN<|cD h J (fun h=>?_) (fun h=>?_)
    ·refine az<|rM J J<|rA J J<|rA J J<|rA J J<|rN<|ab.ret<|?_
     cases h
     exact aj.arr (s:=10) 3 J fun ZA=>aj.arr (s:=11) 3 J fun b86=>aj.here ⟨_,.cons (.tmp _ _ J) (.cons (.tmp _ _ J) (.cons (.tmp _ _ J) .nil)),_,.cons .p1 (.cons .p0 .nil),⟨ZA,b86,J,J⟩⟩
    ·refine tK<|tS<|az<|rM J J<|ae.qv (bB J) J<|ae.qv (cS J J) J<|rN<|cD h J (fun h=>?_) (fun h=>?_)
     ·refine az<|rA J J<|rA J J<|rA J J<|rN<|ab.ret<|?_
      cases h
      exact aj.arr (s:=10) 3 J fun b87=>aj.arr (s:=11) 3 J fun b88=>aj.here ⟨_,.cons (.tmp _ _ J) (.cons (.tmp _ _ J) (.cons (.tmp _ _ J) .nil)),_,.cons .p1 (.cons .p0 .nil),⟨b87,b88,J,J⟩⟩
     ·refine tK<|tS<|az<|rM J J<|ae.qv (bB J) J<|rM J J<|rN<|ab.block<|ab.bO (fun x:Int=>pC aP aX bK x4 x) (fun x aE=>aE=⟨130,[(2,gz aP),(3,wb aX),(4,I bK),(13,.ptr BB 0),(15,.raw (.pointer none)),(46,gz aP),(47,I (aP.length:Int)),(48,I x)],[(BB,.cells (tt x4 vH xa vI xb xc)),(vH,ed x4.aT),(xa,il x4.bU),(vI,j0 x4.at_),(xb,ja x4.cr),(xc,oe x4.dw)]⟩) h ?_ ?_
      ·exact aj.lq [0,0,0,0,0,0] J J J
      ·intro N7 z7 aE J7 dh h hJ7 hA7
       obtain rfl:=dh
       replace h:pC aP aX bK x4 N7=some z7:=h
       unfold pC at h
       refine az<|ae.qv (br J J) J<|rN<|tS<|cD h J (fun h=>?_) (fun h=>?_)
       ·refine tK<|tS<|ab.block<|az<|rM J J<|ax h fun v91 e23 h=>ae.qv (aS J J J e23 J J) J<|ae.qv (aJ J J J) J<|rA J J<|rA J J<|rN<|tS<|az<|rM J J<|ax h fun D6 e24 h=>aH J (mz e24) cR J<|ae.qv (bF J) J<|rN<|cB h J (fun h=>?_) (fun h=>?_)
        ·refine az<|rA J J<|rA J J<|rA J J<|rN<|ab.ret<|have h:=bx h hA7;?_
         cases h
         exact aj.arr (s:=10) 3 J fun b93=>aj.arr (s:=11) 3 J fun b94=>aj.here ⟨_,.cons (.tmp _ _ J) (.cons (.tmp _ _ J) (.cons (.tmp _ _ J) .nil)),_,.cons .p1 (.cons .p0 .nil),⟨b93,b94,J,J⟩⟩
        ·refine tK<|tS<|ab.cut (fun aE=>∃ (c95:Bool),pz N7 c95=some z7∧aE=⟨130,[(2,gz aP),(3,wb aX),(4,I bK),(13,.ptr BB 0),(15,.raw (.pointer none)),(46,gz aP),(47,I (aP.length:Int)),(48,I N7),(66,.bool c95)],[(BB,.cells (tt x4 vH xa vI xb xc)),(vH,ed x4.aT),(xa,il x4.bU),(vI,j0 x4.at_),(xb,ja x4.cr),(xc,oe x4.dw)]⟩) ?_ ?_
         ·refine tR<|rM J J<|ae.qv (cS J J) J<|rM J J<|gT h J J J (fun h=>?_) (fun h=>?_)
          ·exact rM J J<|rY J J J<|rM J J<|rY J J J<|rM J J<|rY J J J<|ae.qv (fm J J) J<|rY J J J<|ax h fun v96 e25 h=>ae.qv (aS J J J e25 J J) J<|rY J J J<|ae.qv (aJ J J J) J<|rY J J J<|ae.qv (od J J) J<|rT J J J<|rN<|ab.stop<|aj.lq [0,0,0,0,0,0] ⟨Op.bytesLess v91 v96||v91==v96,h,J⟩ J J
          ·exact rG J J J J<|rG J J J J<|rG J J J J<|rG J J J J<|rG J J J J<|rG J J J J<|rE J J J<|rN<|ab.stop<|aj.lq [0,0,0,0,0,0] ⟨false,h,J⟩ J J
         ·rintro aE ⟨c95,h,rfl⟩
          unfold pz at h
          refine cB h J (fun h=>?_) (fun h=>?_)
          ·refine az<|rA J J<|rA J J<|rA J J<|rN<|ab.ret<|have h:=bx h hA7;?_
           cases h
           exact aj.arr (s:=10) 3 J fun b97=>aj.arr (s:=11) 3 J fun b98=>aj.here ⟨_,.cons (.tmp _ _ J) (.cons (.tmp _ _ J) (.cons (.tmp _ _ J) .nil)),_,.cons .p1 (.cons .p0 .nil),⟨b97,b98,J,J⟩⟩
          ·refine tK<|ab.bX<|tR<|ae.qv (bf J J) J<|rM J J<|rN<|ab.stop<|?_
           cases h
           exact hJ7 _ _ J<|aj.lq [0,0,0,0,0,0] J J J
       ·refine ab.exit J<|have h:=bx h hA7;?_
        unfold xq at h
        refine tS<|az<|rM J J<|ax h fun v99 e26 h=>aH J (pN e26) cR J<|rA J J<|rN<|az<|rM J J<|ae.qv (ei J J) J<|rN<|cD h J (fun h=>?_) (fun h=>?_)
        ·refine az<|rM J J<|rA J J<|rA J J<|rA J J<|rN<|ab.ret<|?_
         cases h
         exact aj.arr (s:=10) 3 J fun ae9=>aj.arr (s:=11) 3 J fun aeA=>aj.here ⟨_,.cons (.tmp _ _ J) (.cons (.tmp _ _ J) (.cons (.tmp _ _ J) .nil)),_,.cons .p1 (.cons .p0 .nil),⟨ae9,aeA,J,J⟩⟩
        ·refine tK<|tS<|az<|rM J J<|aH J (qs J) cR J<|ae.qv (bF J) J<|rN<|cB h J (fun h=>?_) (fun h=>?_)
         ·refine az<|rA J J<|rA J J<|rA J J<|rN<|ab.ret<|?_
          cases h
          exact aj.arr (s:=10) 3 J fun aeB=>aj.arr (s:=11) 3 J fun aeC=>aj.here ⟨_,.cons (.tmp _ _ J) (.cons (.tmp _ _ J) (.cons (.tmp _ _ J) .nil)),_,.cons .p1 (.cons .p0 .nil),⟨aeB,aeC,J,J⟩⟩
         ·refine tK<|az<|rA J J<|rA J J<|rN<|tS<|az<|rM J J<|ae.qv (bB J) J<|rM J J<|rN<|ab.block<|ab.bO (fun x:Int=>pB aP aX bK x4 x) (fun x aE=>aE=⟨130,[(3,wb aX),(4,I bK),(13,.ptr BB 0),(15,.raw (.pointer none)),(19,.nil),(20,.nil),(76,gz aP),(77,I (aP.length:Int)),(78,I x)],[(BB,.cells (tt x4 vH xa vI xb xc)),(vH,ed x4.aT),(xa,il x4.bU),(vI,j0 x4.at_),(xb,ja x4.cr),(xc,oe x4.dw)]⟩) h ?_ ?_
          ·exact aj.lq [0,0,0,0,0,0] J J J
          ·intro n105 z8 aE J8 dh h hJ8 hA8
           obtain rfl:=dh
           replace h:pB aP aX bK x4 n105=some z8:=h
           unfold pB at h
           refine az<|ae.qv (br J J) J<|rN<|tS<|cD h J (fun h=>?_) (fun h=>?_)
           ·refine tK<|tS<|ab.block<|az<|ax h fun IW Zy h=>ae.qv (aS J J J Zy J J) J<|ae.qv (aJ J J J) J<|rA J J<|rN<|az<|rM J J<|ae.qv (bB J) J<|rM J J<|rN<|ab.block<|ab.bO (fun x:Unit=>pA aX bK x4 n105 IW) (fun x aE=>aE=⟨130,[(3,wb aX),(4,I bK),(13,.ptr BB 0),(15,.raw (.pointer none)),(19,.nil),(20,.nil),(22,.str IW),(76,gz aP),(77,I (aP.length:Int)),(78,I n105),(82,wb aX),(83,I (aX.length:Int)),(84,I (0:Int))],[(BB,.cells (tt x4 vH xa vI xb xc)),(vH,ed x4.aT),(xa,il x4.bU),(vI,j0 x4.at_),(xb,ja x4.cr),(xc,oe x4.dw)]⟩) h ?_ ?_
            ·exact aj.lq [0,0,0,0,0,0] J J J
            ·intro x z9 aE J9 dh h hJ9 hA9
             obtain rfl:=dh
             replace h:pA aX bK x4 n105 IW=some z9:=h
             unfold pA at h
             refine az<|ae.qv (br J J) J<|rN<|tS<|cD h J (fun h=>?_) (fun h=>?_)
             ·refine tK<|tS<|ab.block<|az<|ax h fun v107 e28 h=>ae.qv (aS J J J e28 J J) J<|ae.qv (aM J J J) J<|bu J J J J fun aeD=>ay J J J J .p0 J J<|rN<|tS<|ax h fun v109 e29 h=>ab.kH (id:=29) (A:=[0,0,0,0,15,0,0,0,0,511,1023,2047]) (H0:=[(BB,.cells (tt x4 vH xa vI xb xc)),(vH,ed x4.aT),(xa,il x4.bU),(vI,j0 x4.at_),(xb,ja x4.cr),(xc,oe x4.dw)]) (HH:=fun β=>[(BB,.cells [wa v109.2.aW.ao,yw v109.2.aW.bd,w9 v109.2.aW.aG,tq v109.2.aW.aK,.bC vH,.bC xa,.bC vI,.bC xb,.bC xc]),(vH,ed v109.2.aT),(xa,il v109.2.bU),(vI,j0 v109.2.at_),(xb,ja v109.2.cr),((β 4),vF v109.1),(xc,oe x4.dw),(aeD,.cells (DH v107))]) 9 mixed J (by kernel_rfl) (by kernel_rfl) [⟨none,some 4,[],fun _=>(BB,.cells (tt x4 vH xa vI xb xc)),none,[]⟩,⟨none,some 4,[],fun _=>(vH,ed x4.aT),none,[]⟩,⟨none,some 4,[],fun _=>(xa,il x4.bU),none,[]⟩,⟨none,some 4,[],fun _=>(vI,j0 x4.at_),none,[]⟩,⟨none,some 4,[],fun _=>(xb,ja x4.cr),none,[]⟩,⟨none,some 4,[],fun _=>(xc,oe x4.dw),none,[]⟩,⟨some 4,none,[],fun b=>(BB,.cells [wa v109.2.aW.ao,yw v109.2.aW.bd,w9 v109.2.aW.aG,tq v109.2.aW.aK,.bC vH,.bC xa,.bC vI,.bC xb,.bC xc]),none,[]⟩,⟨some 4,none,[],fun b=>(vH,ed v109.2.aT),none,[]⟩,⟨some 4,none,[],fun b=>(xa,il v109.2.bU),none,[]⟩,⟨some 4,none,[],fun b=>(vI,j0 v109.2.at_),none,[]⟩,⟨some 4,none,[],fun b=>(xb,ja v109.2.cr),none,[]⟩,⟨some 4,none,[],fun b=>(b,vF v109.1),none,[]⟩,⟨some 4,none,[],fun b=>(xc,oe x4.dw),none,[]⟩] [4] J (by kernel_rfl) J (.cons .p1 (.cons .p1 (.cons .p1 (.cons .p1 (.cons .p1 (.cons .p1 .nil)))))) (fun _=>J)<|AT.am 4 J J<|AM.qv (aO J) J<|AM.qv (aO J) J<|AM.qv (aA J J .p0 J) J<|AM.qv (aO J) J<|AM.nil<|AT.Ul (V:=fun b=>.sl 1 b 0 v109.1.length) (Ti:=[(BB,.cells (tt x4 vH xa vI xb xc)),(vH,ed x4.aT),(xa,il x4.bU),(vI,j0 x4.at_),(xb,ja x4.cr),(xc,oe x4.dw)]) (Pi:=fun b=>[(BB,.cells [wa v109.2.aW.ao,yw v109.2.aW.bd,w9 v109.2.aW.aG,tq v109.2.aW.aK,.bC vH,.bC xa,.bC vI,.bC xb,.bC xc]),(vH,ed v109.2.aT),(xa,il v109.2.bU),(vI,j0 v109.2.at_),(xb,ja v109.2.cr),(b,vF v109.1),(xc,oe x4.dw)]) (fun _=>J) (fun _=>J) (fun _ _=>J) J (fun _=>J) J J J ?_ ?_
              ·exact fV J (pS e29) cR (.cons .p0 (.cons .p0 (.cons .p0 (.cons .p0 (.cons .p0 .nil))))) (fun _=>J) J fun aaS=>ae.nil ⟨aaS,_,J,J⟩
              refine AT.am 4 J J<|AM.qv (aO J) J<|AM.qv (aO J) J<|AM.qv (aA J J .p0 J) J<|AM.qv (aO J) J<|AM.nil<|AT.yF (fun _=>J) fun β=>?_
              generalize β 4=aaS
              clear β
              cases h
             ·refine ab.exit J<|have h:=bx h hA9;ab.bX<|tR<|ae.qv (bf J J) J<|rM J J<|rN<|ab.stop<|?_
              cases h
              exact hJ8 _ _ J<|aj.lq [0,0,0,0,0,0] J J J
           ·refine ab.exit J<|have h:=bx h hA8;?_
            unfold xp at h
            refine az<|rM J J<|ae.ghost<|aj.arr (s:=124) 3 J fun aaT=>aj.here<|ax h fun aaK e30 h=>aR J (ck (fun e=>gr (GI:=mJ) e) (rU e30)) cR (.cons .p0 .nil) J J<|ae.ghost<|aj.eqs (s:=124) (rz:=.sl 3 aaT 0 aaK.length) J (congrArg (AV.sl 3 aaT 0) (kX e30))<|aj.here<|rN<|az<|rM J J<|ae.ghost<|aj.arr (s:=126) 3 J fun aaU=>aj.here<|ax h fun aaL e31 h=>aR J (ck (fun e=>gr (GI:=mJ) e) (rU e31)) cR (.cons .p0 .nil) J J<|ae.ghost<|aj.eqs (s:=126) (rz:=.sl 3 aaU 0 aaL.length) J (congrArg (AV.sl 3 aaU 0) (kX e31))<|aj.here<|rN<|az<|rM J J<|rM J J<|rA J J<|rA J J<|rA J J<|rN<|ab.ret<|?_
            cases h
            exact aj.arr (s:=10) 3 J fun aeE=>aj.arr (s:=11) 3 J fun aeF=>aj.here ⟨_,.cons (.tmp _ _ J) (.cons (.tmp _ _ J) (.cons (.tmp _ _ J) .nil)),_,.cons .p1 (.cons .p0 .nil),⟨aeE,aeF,J,J⟩⟩
   ·refine have aeG:=BY XF (gq Wj);BZ J aeG cR .nil (fun _ _ _ _ _ _=>J) J fun FW Eg Eh Ei Ej Ek=>rM J J<|rX J J J<|rX J J J<|rA J J<|rA J J<|rN<|tS<|az<|rM J J<|ae.qv (ei J J) J<|rN<|cD h J (fun h=>?_) (fun h=>?_)
    ·refine az<|rM J J<|rA J J<|rA J J<|rA J J<|rN<|ab.ret<|?_
     cases h
     exact aj.arr (s:=10) 3 J fun aeH=>aj.arr (s:=11) 3 J fun aeI=>aj.here ⟨_,.cons (.tmp _ _ J) (.cons (.tmp _ _ J) (.cons (.tmp _ _ J) .nil)),_,.cons .p1 (.cons .p0 .nil),⟨aeH,aeI,J,J⟩⟩
    ·refine tK<|tS<|az<|rM J J<|ae.qv (bB J) J<|ae.qv (cS J J) J<|rN<|cD h J (fun h=>?_) (fun h=>?_)
     ·refine az<|rA J J<|rA J J<|rA J J<|rN<|ab.ret<|?_
      cases h
      exact aj.arr (s:=10) 3 J fun aeJ=>aj.arr (s:=11) 3 J fun aeK=>aj.here ⟨_,.cons (.tmp _ _ J) (.cons (.tmp _ _ J) (.cons (.tmp _ _ J) .nil)),_,.cons .p1 (.cons .p0 .nil),⟨aeJ,aeK,J,J⟩⟩
     ·refine tK<|tS<|az<|rM J J<|ae.qv (bB J) J<|rM J J<|rN<|ab.block<|ab.bO (fun x:Int=>dI aP aX bK x4 vZ x) (fun x aE=>aE=⟨130,[(2,gz aP),(3,wb aX),(4,I bK),(13,.ptr BB 0),(15,.ptr FW 0),(46,gz aP),(47,I (aP.length:Int)),(48,I x)],[(BB,.cells (tt x4 vH xa vI xb xc)),(vH,ed x4.aT),(xa,il x4.bU),(vI,j0 x4.at_),(xb,ja x4.cr),(xc,oe x4.dw),(FW,.cells (tt vZ Eg Eh Ei Ej Ek)),(Eg,ed vZ.aT),(Eh,il vZ.bU),(Ei,j0 vZ.at_),(Ej,ja vZ.cr),(Ek,oe vZ.dw)]⟩) h ?_ ?_
      ·exact aj.lq [6,6,6,6,6,6,0,0,0,0,0,0] J J J
      ·intro n128 z10 aE J10 dh h aeL XH
       obtain rfl:=dh
       replace h:dI aP aX bK x4 vZ n128=some z10:=h
       unfold dI at h
       refine az<|ae.qv (br J J) J<|rN<|tS<|cD h J (fun h=>?_) (fun h=>?_)
       ·refine tK<|tS<|ab.block<|az<|rM J J<|ax h fun Pv e32 h=>ae.qv (aS J J J e32 J J) J<|ae.qv (aJ J J J) J<|rA J J<|rA J J<|rN<|tS<|az<|rM J J<|ax h fun v130 e33 h=>aH J (mz e33) cR J<|ae.qv (bF J) J<|rN<|cB h J (fun h=>?_) (fun h=>?_)
        ·refine az<|rA J J<|rA J J<|rA J J<|rN<|ab.ret<|have h:=bx h XH;?_
         cases h
         exact aj.arr (s:=10) 3 J fun aeM=>aj.arr (s:=11) 3 J fun aeN=>aj.here ⟨_,.cons (.tmp _ _ J) (.cons (.tmp _ _ J) (.cons (.tmp _ _ J) .nil)),_,.cons .p1 (.cons .p0 .nil),⟨aeM,aeN,J,J⟩⟩
        ·refine tK<|tS<|ab.cut (fun aE=>∃ (RJ:Bool),dX n128 RJ=some z10∧aE=⟨130,[(2,gz aP),(3,wb aX),(4,I bK),(13,.ptr BB 0),(15,.ptr FW 0),(46,gz aP),(47,I (aP.length:Int)),(48,I n128),(66,.bool RJ)],[(BB,.cells (tt x4 vH xa vI xb xc)),(vH,ed x4.aT),(xa,il x4.bU),(vI,j0 x4.at_),(xb,ja x4.cr),(xc,oe x4.dw),(FW,.cells (tt vZ Eg Eh Ei Ej Ek)),(Eg,ed vZ.aT),(Eh,il vZ.bU),(Ei,j0 vZ.at_),(Ej,ja vZ.cr),(Ek,oe vZ.dw)]⟩) ?_ ?_
         ·refine tR<|rM J J<|ae.qv (cS J J) J<|rM J J<|gT h J J J (fun h=>?_) (fun h=>?_)
          ·exact rM J J<|rY J J J<|rM J J<|rY J J J<|rM J J<|rY J J J<|ae.qv (fm J J) J<|rY J J J<|ax h fun R3 e34 h=>ae.qv (aS J J J e34 J J) J<|rY J J J<|ae.qv (aJ J J J) J<|rY J J J<|ae.qv (od J J) J<|rT J J J<|rN<|ab.stop<|aj.lq [0,0,0,0,0,0,0,0,0,0,0,0] ⟨Op.bytesLess Pv R3||Pv==R3,h,J⟩ J J
          ·exact rG J J J J<|rG J J J J<|rG J J J J<|rG J J J J<|rG J J J J<|rG J J J J<|rE J J J<|rN<|ab.stop<|aj.lq [0,0,0,0,0,0,0,0,0,0,0,0] ⟨false,h,J⟩ J J
         ·rintro aE ⟨RJ,h,rfl⟩
          unfold dX at h
          refine cB h J (fun h=>?_) (fun h=>?_)
          ·refine az<|rA J J<|rA J J<|rA J J<|rN<|ab.ret<|have h:=bx h XH;?_
           cases h
           exact aj.arr (s:=10) 3 J fun aeO=>aj.arr (s:=11) 3 J fun aeP=>aj.here ⟨_,.cons (.tmp _ _ J) (.cons (.tmp _ _ J) (.cons (.tmp _ _ J) .nil)),_,.cons .p1 (.cons .p0 .nil),⟨aeO,aeP,J,J⟩⟩
          ·refine tK<|ab.bX<|tR<|ae.qv (bf J J) J<|rM J J<|rN<|ab.stop<|?_
           cases h
           exact aeL _ _ J<|aj.lq [0,0,0,0,0,0,0,0,0,0,0,0] J J J
       ·refine ab.exit J<|have h:=bx h XH;?_
        unfold fK at h
        refine tS<|az<|rM J J<|ax h fun Xw e35 h=>aH J (pN e35) cR J<|rA J J<|rN<|az<|rM J J<|ae.qv (ei J J) J<|rN<|cD h J (fun h=>?_) (fun h=>?_)
        ·refine az<|rM J J<|rA J J<|rA J J<|rA J J<|rN<|ab.ret<|?_
         cases h
         exact aj.arr (s:=10) 3 J fun aeQ=>aj.arr (s:=11) 3 J fun aeR=>aj.here ⟨_,.cons (.tmp _ _ J) (.cons (.tmp _ _ J) (.cons (.tmp _ _ J) .nil)),_,.cons .p1 (.cons .p0 .nil),⟨aeQ,aeR,J,J⟩⟩
        ·refine tK<|tS<|az<|rM J J<|aH J (qs J) cR J<|ae.qv (bF J) J<|rN<|cB h J (fun h=>?_) (fun h=>?_)
         ·refine az<|rA J J<|rA J J<|rA J J<|rN<|ab.ret<|?_
          cases h
          exact aj.arr (s:=10) 3 J fun aeS=>aj.arr (s:=11) 3 J fun aeT=>aj.here ⟨_,.cons (.tmp _ _ J) (.cons (.tmp _ _ J) (.cons (.tmp _ _ J) .nil)),_,.cons .p1 (.cons .p0 .nil),⟨aeS,aeT,J,J⟩⟩
         ·refine tK<|az<|rA J J<|rA J J<|rN<|tS<|az<|rM J J<|ae.qv (bB J) J<|rM J J<|rN<|ab.block<|ab.bO (fun x:(List au)×(List bH)×(List aQ)×(List bl)×(List (ai×ai))×(List (ai×(List ai)))×(List (ai×(List Int)))×(List (aN×(List Int)))×(List au)×(List bH)×(List aQ)×(List bl)×(List (ai×ai))×(List (ai×(List ai)))×(List (ai×(List Int)))×(List (aN×(List Int)))×(List aB)×(List aB)×Int=>ll aP aX bK x4 vZ x.1 x.2.1 x.2.2.1 x.2.2.2.1 x.2.2.2.2.1 x.2.2.2.2.2.1 x.2.2.2.2.2.2.1 x.2.2.2.2.2.2.2.1 x.2.2.2.2.2.2.2.2.1 x.2.2.2.2.2.2.2.2.2.1 x.2.2.2.2.2.2.2.2.2.2.1 x.2.2.2.2.2.2.2.2.2.2.2.1 x.2.2.2.2.2.2.2.2.2.2.2.2.1 x.2.2.2.2.2.2.2.2.2.2.2.2.2.1 x.2.2.2.2.2.2.2.2.2.2.2.2.2.2.1 x.2.2.2.2.2.2.2.2.2.2.2.2.2.2.2.1 x.2.2.2.2.2.2.2.2.2.2.2.2.2.2.2.2.1 x.2.2.2.2.2.2.2.2.2.2.2.2.2.2.2.2.2.1 x.2.2.2.2.2.2.2.2.2.2.2.2.2.2.2.2.2.2) (fun x aE=>∃ (Jg:Bk) (Jh:Bk),aE=⟨130,[(3,wb aX),(4,I bK),(13,.ptr BB 0),(15,.ptr FW 0),(19,.sl 3 Jg 0 x.2.2.2.2.2.2.2.2.2.2.2.2.2.2.2.2.1.length),(20,.sl 3 Jh 0 x.2.2.2.2.2.2.2.2.2.2.2.2.2.2.2.2.2.1.length),(76,gz aP),(77,I (aP.length:Int)),(78,I x.2.2.2.2.2.2.2.2.2.2.2.2.2.2.2.2.2.2)],[(BB,.cells [wa x.1,yw x.2.1,w9 x.2.2.1,tq x.2.2.2.1,.bC vH,.bC xa,.bC vI,.bC xb,.bC xc]),(vH,ed x.2.2.2.2.1),(xa,il x.2.2.2.2.2.1),(vI,j0 x.2.2.2.2.2.2.1),(xb,ja x.2.2.2.2.2.2.2.1),(xc,oe x4.dw),(FW,.cells [wa x.2.2.2.2.2.2.2.2.1,yw x.2.2.2.2.2.2.2.2.2.1,w9 x.2.2.2.2.2.2.2.2.2.2.1,tq x.2.2.2.2.2.2.2.2.2.2.2.1,.bC Eg,.bC Eh,.bC Ei,.bC Ej,.bC Ek]),(Eg,ed x.2.2.2.2.2.2.2.2.2.2.2.2.1),(Eh,il x.2.2.2.2.2.2.2.2.2.2.2.2.2.1),(Ei,j0 x.2.2.2.2.2.2.2.2.2.2.2.2.2.2.1),(Ej,ja x.2.2.2.2.2.2.2.2.2.2.2.2.2.2.2.1),(Ek,oe vZ.dw),(Jg,pL x.2.2.2.2.2.2.2.2.2.2.2.2.2.2.2.2.1),(Jh,pL x.2.2.2.2.2.2.2.2.2.2.2.2.2.2.2.2.2.1)]⟩) h ?_ ?_
          ·exact aj.arr (s:=19) 3 J fun aeU=>aj.arr (s:=20) 3 J fun aeV=>aj.lq [2,2,2,2,2,2,2,2,2,2,2,2,1,0] ⟨aeU,aeV,J⟩ J J
          ·intro x z11 aE J11 dh h aeW aaV
           obtain ⟨RM,RN,RO,RP,RQ,RR,RS,RT,RU,RW,RX,RY,RZ,R0,R1,R2,I6,I7,n183⟩:=x
           obtain ⟨Jg,Jh,rfl⟩:=dh
           replace h:ll aP aX bK x4 vZ RM RN RO RP RQ RR RS RT RU RW RX RY RZ R0 R1 R2 I6 I7 n183=some z11:=h
           unfold ll at h
           refine az<|ae.qv (br J J) J<|rN<|tS<|cD h J (fun h=>?_) (fun h=>?_)
           ·refine tK<|tS<|ab.block<|az<|ax h fun C6 e36 h=>ae.qv (aS J J J e36 J J) J<|ae.qv (aJ J J J) J<|rA J J<|rN<|az<|rM J J<|ae.qv (bB J) J<|rM J J<|rN<|ab.block<|ab.bO (fun x:(List au)×(List bH)×(List aQ)×(List bl)×(List (ai×ai))×(List (ai×(List ai)))×(List (ai×(List Int)))×(List (aN×(List Int)))×(List au)×(List bH)×(List aQ)×(List bl)×(List (ai×ai))×(List (ai×(List ai)))×(List (ai×(List Int)))×(List (aN×(List Int)))×(List aB)×(List aB)×Int=>lh aX bK x4 vZ n183 C6 x.1 x.2.1 x.2.2.1 x.2.2.2.1 x.2.2.2.2.1 x.2.2.2.2.2.1 x.2.2.2.2.2.2.1 x.2.2.2.2.2.2.2.1 x.2.2.2.2.2.2.2.2.1 x.2.2.2.2.2.2.2.2.2.1 x.2.2.2.2.2.2.2.2.2.2.1 x.2.2.2.2.2.2.2.2.2.2.2.1 x.2.2.2.2.2.2.2.2.2.2.2.2.1 x.2.2.2.2.2.2.2.2.2.2.2.2.2.1 x.2.2.2.2.2.2.2.2.2.2.2.2.2.2.1 x.2.2.2.2.2.2.2.2.2.2.2.2.2.2.2.1 x.2.2.2.2.2.2.2.2.2.2.2.2.2.2.2.2.1 x.2.2.2.2.2.2.2.2.2.2.2.2.2.2.2.2.2.1 x.2.2.2.2.2.2.2.2.2.2.2.2.2.2.2.2.2.2) (fun x aE=>∃ (Sc:Bk) (Sd:Bk),aE=⟨130,[(3,wb aX),(4,I bK),(13,.ptr BB 0),(15,.ptr FW 0),(19,.sl 3 Sc 0 x.2.2.2.2.2.2.2.2.2.2.2.2.2.2.2.2.1.length),(20,.sl 3 Sd 0 x.2.2.2.2.2.2.2.2.2.2.2.2.2.2.2.2.2.1.length),(22,.str C6),(76,gz aP),(77,I (aP.length:Int)),(78,I n183),(82,wb aX),(83,I (aX.length:Int)),(84,I x.2.2.2.2.2.2.2.2.2.2.2.2.2.2.2.2.2.2)],[(BB,.cells [wa x.1,yw x.2.1,w9 x.2.2.1,tq x.2.2.2.1,.bC vH,.bC xa,.bC vI,.bC xb,.bC xc]),(vH,ed x.2.2.2.2.1),(xa,il x.2.2.2.2.2.1),(vI,j0 x.2.2.2.2.2.2.1),(xb,ja x.2.2.2.2.2.2.2.1),(xc,oe x4.dw),(FW,.cells [wa x.2.2.2.2.2.2.2.2.1,yw x.2.2.2.2.2.2.2.2.2.1,w9 x.2.2.2.2.2.2.2.2.2.2.1,tq x.2.2.2.2.2.2.2.2.2.2.2.1,.bC Eg,.bC Eh,.bC Ei,.bC Ej,.bC Ek]),(Eg,ed x.2.2.2.2.2.2.2.2.2.2.2.2.1),(Eh,il x.2.2.2.2.2.2.2.2.2.2.2.2.2.1),(Ei,j0 x.2.2.2.2.2.2.2.2.2.2.2.2.2.2.1),(Ej,ja x.2.2.2.2.2.2.2.2.2.2.2.2.2.2.2.1),(Ek,oe vZ.dw),(Sc,pL x.2.2.2.2.2.2.2.2.2.2.2.2.2.2.2.2.1),(Sd,pL x.2.2.2.2.2.2.2.2.2.2.2.2.2.2.2.2.2.1)]⟩) h ?_ ?_
            ·exact aj.lq [0,0,0,0,0,0,0,0,0,0,0,0,0,0] ⟨Jg,Jh,J⟩ J J
            ·intro x z12 aE J12 dh h aeX aaW
             obtain ⟨IY,IZ,I0,I1,I2,I3,I4,I5,MJ,MK,ML,MM,MN,MO,MP,MQ,MR,MS,n228⟩:=x
             obtain ⟨Sc,Sd,rfl⟩:=dh
             replace h:lh aX bK x4 vZ n183 C6 IY IZ I0 I1 I2 I3 I4 I5 MJ MK ML MM MN MO MP MQ MR MS n228=some z12:=h
             unfold lh at h
             refine az<|ae.qv (br J J) J<|rN<|tS<|cD h J (fun h=>?_) (fun h=>?_)
             ·refine tK<|tS<|ab.block<|az<|ax h fun v229 e37 h=>ae.qv (aS J J J e37 J J) J<|ae.qv (aM J J J) J<|bu J J J J fun aeY=>ay J J J J .p0 J J<|rN<|tS<|ax h fun jy e38 h=>ab.kH (id:=29) (A:=[0,0,0,0,15,0,0,0,0,511,1023,2047]) (H0:=[(BB,.cells [wa IY,yw IZ,w9 I0,tq I1,.bC vH,.bC xa,.bC vI,.bC xb,.bC xc]),(vH,ed I2),(xa,il I3),(vI,j0 I4),(xb,ja I5),(xc,oe x4.dw)]) (HH:=fun β=>[(BB,.cells [wa jy.2.aW.ao,yw jy.2.aW.bd,w9 jy.2.aW.aG,tq jy.2.aW.aK,.bC vH,.bC xa,.bC vI,.bC xb,.bC xc]),(vH,ed jy.2.aT),(xa,il jy.2.bU),(vI,j0 jy.2.at_),(xb,ja jy.2.cr),((β 4),vF jy.1),(xc,oe x4.dw),(aeY,.cells (DH v229)),(FW,.cells [wa MJ,yw MK,w9 ML,tq MM,.bC Eg,.bC Eh,.bC Ei,.bC Ej,.bC Ek]),(Eg,ed MN),(Eh,il MO),(Ei,j0 MP),(Ej,ja MQ),(Ek,oe vZ.dw),(Sc,pL MR),(Sd,pL MS)]) 9 mixed J (by kernel_rfl) (by kernel_rfl) [⟨none,some 4,[],fun _=>(BB,.cells [wa IY,yw IZ,w9 I0,tq I1,.bC vH,.bC xa,.bC vI,.bC xb,.bC xc]),none,[]⟩,⟨none,some 4,[],fun _=>(vH,ed I2),none,[]⟩,⟨none,some 4,[],fun _=>(xa,il I3),none,[]⟩,⟨none,some 4,[],fun _=>(vI,j0 I4),none,[]⟩,⟨none,some 4,[],fun _=>(xb,ja I5),none,[]⟩,⟨none,some 4,[],fun _=>(xc,oe x4.dw),none,[]⟩,⟨some 4,none,[],fun b=>(BB,.cells [wa jy.2.aW.ao,yw jy.2.aW.bd,w9 jy.2.aW.aG,tq jy.2.aW.aK,.bC vH,.bC xa,.bC vI,.bC xb,.bC xc]),none,[]⟩,⟨some 4,none,[],fun b=>(vH,ed jy.2.aT),none,[]⟩,⟨some 4,none,[],fun b=>(xa,il jy.2.bU),none,[]⟩,⟨some 4,none,[],fun b=>(vI,j0 jy.2.at_),none,[]⟩,⟨some 4,none,[],fun b=>(xb,ja jy.2.cr),none,[]⟩,⟨some 4,none,[],fun b=>(b,vF jy.1),none,[]⟩,⟨some 4,none,[],fun b=>(xc,oe x4.dw),none,[]⟩] [4] J (by kernel_rfl) J (.cons .p1 (.cons .p1 (.cons .p1 (.cons .p1 (.cons .p1 (.cons .p1 .nil)))))) (fun _=>J)<|AT.am 4 J J<|AM.qv (aO J) J<|AM.qv (aO J) J<|AM.qv (aA J J .p0 J) J<|AM.qv (aO J) J<|AM.nil<|AT.Ul (V:=fun b=>.sl 1 b 0 jy.1.length) (Ti:=[(BB,.cells [wa IY,yw IZ,w9 I0,tq I1,.bC vH,.bC xa,.bC vI,.bC xb,.bC xc]),(vH,ed I2),(xa,il I3),(vI,j0 I4),(xb,ja I5),(xc,oe x4.dw)]) (Pi:=fun b=>[(BB,.cells [wa jy.2.aW.ao,yw jy.2.aW.bd,w9 jy.2.aW.aG,tq jy.2.aW.aK,.bC vH,.bC xa,.bC vI,.bC xb,.bC xc]),(vH,ed jy.2.aT),(xa,il jy.2.bU),(vI,j0 jy.2.at_),(xb,ja jy.2.cr),(b,vF jy.1),(xc,oe x4.dw)]) (fun _=>J) (fun _=>J) (fun _ _=>J) J (fun _=>J) J J J ?_ ?_
              ·exact fV J (pS e38) cR (.cons .p0 (.cons .p0 (.cons .p0 (.cons .p0 (.cons .p0 .nil))))) (fun _=>J) J fun aaX=>ae.nil ⟨aaX,_,J,J⟩
              refine AT.am 4 J J<|AM.qv (aO J) J<|AM.qv (aO J) J<|AM.qv (aA J J .p0 J) J<|AM.qv (aO J) J<|AM.nil<|AT.yF (fun _=>J) fun β=>?_
              generalize β 4=aaX
              clear β
              refine ax h fun v233 e39 h=>fV J (pS e39) cR (.cons (.next .p7) (.cons (.next .p7) (.cons (.next .p7) (.cons (.next .p7) (.cons (.next .p7) .nil))))) (fun _=>J) J fun aqY=>rA J J<|rA J J<|rN<|az<|rM J J<|rM J J<|rM J J<|rM J J<|rF J J J<|rF J J J<|ae.qv (aD J J (.next (.next (.next (.next (.next (.next .p7)))))) J) J<|ax h fun K8 e40 h=>Fp J (uW e40) (.cons (.next (.next (.next (.next (.next (.next (.next (.next .p7)))))))) .nil) (.cons (.co (.refl _)) (.cons (w7.wN .p5) (.cons (w7.wN (.next (.next (.next (.next .p7))))) (.cons (.co (.refl _)) (.cons (.co (.refl _)) .nil))))) (fun _=>J) (fun _=>J) (fun _=>(.cons (V9.wN (fun _=>J)) .nil)) J fun XI=>rA J J<|rN<|az<|rM J J<|rM J J<|rM J J<|rM J J<|rF J J J<|rF J J J<|ae.qv (aD J J (.next (.next (.next (.next (.next (.next (.next .p7))))))) J) J<|ax h fun IX e41 h=>Fp J (uW e41) (.cons (.next (.next (.next (.next (.next (.next (.next (.next (.next .p7))))))))) .nil) (.cons (.co (.refl _)) (.cons (w7.wN (.next (.next (.next (.next (.next .p7)))))) (.cons (w7.wN .p6) (.cons (.co (.refl _)) (.cons (.co (.refl _)) .nil))))) (fun _=>J) (fun _=>J) (fun _=>(.cons (V9.wN (fun _=>J)) .nil)) J fun XJ=>rA J J<|rN<|tS<|ab.cut (fun aE=>∃ (RL:Bool),oy n228 jy v233 K8 IX RL=some z12∧aE=⟨130,[(3,wb aX),(4,I bK),(13,.ptr BB 0),(15,.ptr FW 0),(19,.sl 3 XI 0 K8.length),(20,.sl 3 XJ 0 IX.length),(22,.str C6),(76,gz aP),(77,I (aP.length:Int)),(78,I n183),(82,wb aX),(83,I (aX.length:Int)),(84,I n228),(121,.bool RL)],[(BB,.cells [wa jy.2.aW.ao,yw jy.2.aW.bd,w9 jy.2.aW.aG,tq jy.2.aW.aK,.bC vH,.bC xa,.bC vI,.bC xb,.bC xc]),(vH,ed jy.2.aT),(xa,il jy.2.bU),(vI,j0 jy.2.at_),(xb,ja jy.2.cr),(xc,oe x4.dw),(FW,.cells [wa v233.2.aW.ao,yw v233.2.aW.bd,w9 v233.2.aW.aG,tq v233.2.aW.aK,.bC Eg,.bC Eh,.bC Ei,.bC Ej,.bC Ek]),(Eg,ed v233.2.aT),(Eh,il v233.2.bU),(Ei,j0 v233.2.at_),(Ej,ja v233.2.cr),(Ek,oe vZ.dw),(XI,pL K8),(XJ,pL IX)]⟩) ?_ ?_
              ·refine tR<|rM J J<|ae.qv (iu J) J<|ae.qv (cS J J) J<|rM J J<|ae.dC J J J (fun hc=>?_) (fun hc=>?_)
               ·rw [yW hc] at h
                exact rM J J<|rY J J J<|ae.qv (iu J) J<|rY J J J<|ae.qv (cS J J) J<|rE J J J<|rN<|ab.stop<|aj.lq [8,8,8,8,8,9,2,2,2,2,2,5,1,0] ⟨decide ((5000:Int) < (IX.length:Int)),h,J⟩ J J
               ·rw [yV hc] at h
                exact rG J J J J<|rG J J J J<|rT J J J<|rN<|ab.stop<|aj.lq [8,8,8,8,8,9,2,2,2,2,2,5,1,0] ⟨true,h,J⟩ J J
              ·rintro aE ⟨RL,h,rfl⟩
               unfold oy at h
               refine cB h J (fun h=>?_) (fun h=>?_)
               ·refine az<|rA J J<|rA J J<|rA J J<|rN<|ab.ret<|have h:=bx h aaW;have h:=bx h aaV;?_
                cases h
                exact aj.arr (s:=10) 3 J fun aeZ=>aj.arr (s:=11) 3 J fun af0=>aj.here ⟨_,.cons (.tmp _ _ J) (.cons (.tmp _ _ J) (.cons (.tmp _ _ J) .nil)),_,.cons .p1 (.cons .p0 .nil),⟨aeZ,af0,J,J⟩⟩
               ·refine tK<|ab.bX<|tR<|ae.qv (bf J J) J<|rM J J<|rN<|ab.stop<|?_
                cases h
                exact aeX _ _ J<|aj.lq [0,0,0,0,0,0,0,0,0,0,0,0,0,0] ⟨XI,XJ,J⟩ J J
             ·refine ab.exit J<|have h:=bx h aaW;ab.bX<|tR<|ae.qv (bf J J) J<|rM J J<|rN<|ab.stop<|?_
              cases h
              exact aeW _ _ J<|aj.lq [0,0,0,0,0,0,0,0,0,0,0,0,0,0] ⟨Sc,Sd,J⟩ J J
           ·refine ab.exit J<|have h:=bx h aaV;?_
            unfold lj at h
            refine az<|rM J J<|ax h fun UW e42 h=>aR J (ck (fun e=>gr (GI:=mJ) e) (rU e42)) cR (.cons (.next (.next (.next (.next (.next .p7))))) .nil) J J<|ae.ghost<|aj.eqs (s:=19) (rz:=.sl 3 Jg 0 UW.length) J (congrArg (AV.sl 3 Jg 0) (kX e42))<|aj.here<|ae.ghost<|aj.eqs (s:=124) (rz:=.sl 3 Jg 0 UW.length) J (congrArg (AV.sl 3 Jg 0) (kX e42))<|aj.here<|rN<|az<|rM J J<|ax h fun UX e43 h=>aR J (ck (fun e=>gr (GI:=mJ) e) (rU e43)) cR (.cons (.next (.next (.next (.next (.next (.next .p7)))))) .nil) J J<|ae.ghost<|aj.eqs (s:=20) (rz:=.sl 3 Jh 0 UX.length) J (congrArg (AV.sl 3 Jh 0) (kX e43))<|aj.here<|ae.ghost<|aj.eqs (s:=126) (rz:=.sl 3 Jh 0 UX.length) J (congrArg (AV.sl 3 Jh 0) (kX e43))<|aj.here<|rN<|az<|rM J J<|rM J J<|rA J J<|rA J J<|rA J J<|rN<|ab.ret<|?_
            cases h
            exact aj.here ⟨_,.cons (.tmp _ _ J) (.cons (.tmp _ _ J) (.cons (.tmp _ _ J) .nil)),_,.cons .p1 (.cons .p0 .nil),⟨Jg,Jh,J,J⟩⟩
theorem Cl {aa:aW} {r:Int} (h:ny aa=some r):Pu Tryz.prog 92 [aW.av aa] (I r):=by
 unfold ny at h
 refine aI.aZ Tryz.func92 J Tryz.ntmps92 Tryz.results92 J J ?_
 refine az<|cJ J J J J fun b1=>rA J J<|rN<|az<|ae.qv (aA J J .p0 J) J<|ax h fun v2 e1 h=>Ro h (fun e2 h=>?_) (fun x3 e2 h=>?_)
 ·refine have cM5:=BX e2 (gq e1);aR J cM5 cR .nil J J<|rM J J<|rX J J J<|rX J J J<|rA J J<|rA J J<|rN<|az<|rM J J<|rA J J<|rN<|ab.ret<|?_
  cases h
  exact hP J J
 ·refine have cM6:=BY e2 (gq e1);BZ J cM6 cR .nil (fun _ _ _ _ _ _=>J) J fun b4 b5 b6 b7 b8 b9=>rM J J<|rX J J J<|rX J J J<|rA J J<|rA J J<|rN<|az<|rM J J<|rA J J<|rN<|ab.ret<|?_
  cases h
  exact hP J J
theorem Ar {aa:aW} {ak:Int} {r:Int×Bool×Int} (h:gL aa ak=some r):Pu Tryz.prog 30 [aW.av aa,I ak] (.pT [I r.1,.bool r.2.1,I r.2.2]):=by
 unfold gL at h
 refine aI.aZ Tryz.func30 J Tryz.ntmps30 Tryz.results30 J J ?_
 refine az<|cJ J J J J fun b1=>rA J J<|rA J J<|rA J J<|rN<|tS<|az<|ae.qv (aA J J .p0 J) J<|ax h fun v2 e1 h=>aH J (Cl e1) cR J<|rA J J<|rN<|az<|rM J J<|ae.qv (ei J J) J<|rN<|cD h J (fun h=>?_) (fun h=>?_)
 ·refine az<|rM J J<|rA J J<|rA J J<|rA J J<|rN<|ab.ret<|?_
  cases h
  exact aj.here ⟨_,.cons (.tmp _ _ J) (.cons (.tmp _ _ J) (.cons (.tmp _ _ J) .nil)),J⟩
 ·refine tK<|tS<|az<|rM J J<|aH J (qs J) cR J<|ae.qv (bF J) J<|rN<|cB h J (fun h=>?_) (fun h=>?_)
  ·refine az<|rA J J<|rA J J<|rA J J<|rN<|ab.ret<|?_
   cases h
   exact aj.here ⟨_,.cons (.tmp _ _ J) (.cons (.tmp _ _ J) (.cons (.tmp _ _ J) .nil)),J⟩
  ·refine tK<|az<|rA J J<|rN<|tS<|az<|rF J J J<|rL J J .p0 J J<|ae.qv (bB J) J<|rM J J<|rN<|ab.block<|ab.bO (fun x:Int×Int=>dK aa ak x.1 x.2) (fun x aE=>aE=⟨60,[(1,I ak),(8,I x.1),(22,tq aa.aK),(23,I (aa.aK.length:Int)),(24,I x.2)],[]⟩) h ?_ ?_
   ·exact aj.lq [] J J J
   ·intro x z1 aE J1 dh h im dN
    obtain ⟨n5,n6⟩:=x
    obtain rfl:=dh
    replace h:dK aa ak n5 n6=some z1:=h
    unfold dK at h
    refine az<|ae.qv (br J J) J<|rN<|tS<|cD h J (fun h=>?_) (fun h=>?_)
    ·refine tK<|tS<|ab.block<|az<|ax h fun v7 e2 h=>ae.qv (aS J J J e2 J J) J<|ae.qv (aM J J J) J<|bu J J J J fun b8=>ay J J J J .p0 J J<|rN<|az<|rF J J J<|rF J J J<|rL J J .p0 J J<|rF J J J<|rF J J J<|rL J J .p0 J J<|aF (xs:=([v7.Time.ef,v7.Time.To]:List Int).map I) J J J J J J<|ae.qv (bB J) J<|rM J J<|rN<|ab.block<|ab.bO (fun x:Int×Int=>dJ ak n6 v7 x.1 x.2) (fun x aE=>aE=⟨60,[(1,I ak),(8,I x.1),(10,.ptr b8 0),(22,tq aa.aK),(23,I (aa.aK.length:Int)),(24,I n6),(34,cC [v7.Time.ef,v7.Time.To]),(35,I ([v7.Time.ef,v7.Time.To].length:Int)),(36,I x.2)],[(b8,.cells (L7 v7))]⟩) h ?_ ?_
     ·exact aj.lq [0] J J J
     ·intro x z2 aE J2 dh h ya tY
      obtain ⟨n11,n12⟩:=x
      obtain rfl:=dh
      replace h:dJ ak n6 v7 n11 n12=some z2:=h
      unfold dJ at h
      refine az<|ae.qv (br J J) J<|rN<|tS<|cD h J (fun h=>?_) (fun h=>?_)
      ·refine tK<|tS<|ab.block<|az<|ax h fun ma e3 h=>ae.qv (aS J J J e3 J J) J<|ae.qv (aJ J J J) J<|rA J J<|rN<|tS<|ab.cut (fun aE=>∃ (zf:Bool),ln n11 n12 ma zf=some z2∧aE=⟨60,[(1,I ak),(8,I n11),(10,.ptr b8 0),(12,I ma),(22,tq aa.aK),(23,I (aa.aK.length:Int)),(24,I n6),(34,cC [v7.Time.ef,v7.Time.To]),(35,I ([v7.Time.ef,v7.Time.To].length:Int)),(36,I n12),(51,.bool zf)],[(b8,.cells (L7 v7))]⟩) ?_ ?_
       ·refine tR<|rF J J J<|rF J J J<|rL J J .p0 J J<|rF J J J<|rF J J J<|rL J J .p0 J J<|ae.qv (br J J) J<|rM J J<|ae.cq J J J (fun hc=>?_) (fun hc=>?_)
        ·rw [rQ hc] at h
         exact rM J J<|rY J J J<|rM J J<|rY J J J<|ae.qv (cS J J) J<|rT J J J<|rN<|ab.stop<|aj.lq [0] ⟨decide (ak < ma),h,J⟩ J J
        ·rw [rR hc] at h
         exact rG J J J J<|rG J J J J<|rE J J J<|rN<|ab.stop<|aj.lq [0] ⟨false,h,J⟩ J J
       ·rintro aE ⟨zf,h,rfl⟩
        unfold ln at h
        refine ab.cut (fun aE=>∃ (n15:Int),iX n12 n15=some z2∧aE=⟨60,[(1,I ak),(8,I n15),(10,.ptr b8 0),(22,tq aa.aK),(23,I (aa.aK.length:Int)),(24,I n6),(34,cC [v7.Time.ef,v7.Time.To]),(35,I ([v7.Time.ef,v7.Time.To].length:Int)),(36,I n12)],[(b8,.cells (L7 v7))]⟩) ?_ ?_
        ·refine cB h J (fun h=>?_) (fun h=>?_)
         ·exact tR<|rM J J<|rM J J<|ae.qv (ZS J J) J<|rA J J<|rN<|ab.stop<|aj.lq [0] ⟨min n11 ma,h,J⟩ J J
         ·exact tK<|ab.stop<|aj.lq [0] ⟨n11,h,J⟩ J J
        ·rintro aE ⟨n15,h,rfl⟩
         unfold iX at h
         refine ab.bX<|tR<|ae.qv (bf J J) J<|rM J J<|rN<|ab.stop<|?_
         cases h
         exact ya _ _ J<|aj.lq [0] J J J
      ·refine ab.exit J<|have h:=bx h tY;ab.bX<|tR<|ae.qv (bf J J) J<|rM J J<|rN<|ab.stop<|?_
       cases h
       exact im _ _ J<|aj.lq [] J J J
    ·refine ab.exit J<|have h:=bx h dN;?_
     unfold iY at h
     refine tS<|az<|rM J J<|ae.qv (cx J J) J<|rN<|cD h J (fun h=>?_) (fun h=>?_)
     ·refine az<|rA J J<|rA J J<|rA J J<|rN<|ab.ret<|?_
      cases h
      exact aj.here ⟨_,.cons (.tmp _ _ J) (.cons (.tmp _ _ J) (.cons (.tmp _ _ J) .nil)),J⟩
     ·refine tK<|az<|rM J J<|rA J J<|rA J J<|rA J J<|rN<|ab.ret<|?_
      cases h
      exact aj.here ⟨_,.cons (.tmp _ _ J) (.cons (.tmp _ _ J) (.cons (.tmp _ _ J) .nil)),J⟩
theorem yd [GI:bD] {aa:Int} {ak:Int} {aP:Int} {r:Bool} (h:yH aa ak aP=r):Pu Tryz.prog 76 [I aa,I ak,I aP] (.bool r):=by
 unfold yH at h
 refine aI.aZ Tryz.func76 J Tryz.ntmps76 Tryz.results76 J J ?_
 refine az<|rA J J<|rN<|tS<|ab.cut (fun aE=>∃ (c1:Bool),xX c1=r∧aE=⟨15,[(6,.bool c1)],[]⟩) ?_ ?_
 ·refine tR<|rM J J<|rM J J<|ae.qv (sS J J) J<|rM J J<|ae.cq J J J (fun hc=>?_) (fun hc=>?_)
  ·rw [rQ hc] at h
   exact rM J J<|rY J J J<|rM J J<|rY J J J<|ae.qv (sS J J) J<|rT J J J<|rA J J<|rN<|ab.stop<|aj.lq [] ⟨decide (aa≤aP),h,J⟩ J J
  ·rw [rR hc] at h
   exact rG J J J J<|rG J J J J<|rE J J J<|rA J J<|rN<|ab.stop<|aj.lq [] ⟨false,h,J⟩ J J
 ·rintro aE ⟨c1,h,rfl⟩
  unfold xX at h
  refine ab.ret<|?_
  obtain rfl:=h
  exact hP J J
theorem qN {aa:ai} {r:Bool} (h:uU aa=some r):Pu Tryz.prog 69 [.str aa] (.bool r):=by
 unfold uU at h
 refine aI.aZ Tryz.func69 J Tryz.ntmps69 Tryz.results69 J J ?_
 refine az<|rA J J<|rN<|tS<|ab.cut (fun aE=>∃ (c1:Bool),xu c1=some r∧aE=⟨17,[(2,.bool c1)],[]⟩) ?_ ?_
 ·refine tR<|rM J J<|ae.qv (eS J) J<|aH J (yd J) cR J<|rM J J<|ae.guard J J J (fun hc=>?_) (fun hc=>?_)
  ·refine have h:=hZ hc h;rM J J<|rY J J J<|ax h fun v2 e1 h=>aH J (za e1) cR J<|rY J J J<|ae.qv (fC J J) J<|rT J J J<|rM J J<|gT h J J J (fun h=>?_) (fun h=>?_)
   ·exact rM J J<|rY J J J<|ax h fun c3 e2 h=>ae.qv (qX J J e2) J<|rY J J J<|aH J (Al J) cR J<|rY J J J<|ae.qv (vn J J) J<|rT J J J<|rA J J<|rN<|ab.stop<|aj.lq [] ⟨decide ((0:Int)≤(xS ([97,98,99,100,101,102,103,104,105,106,107,108,109,110,111,112,113,114,115,116,117,118,119,120,121,122]:ai) (c3.toNat:Int))),h,J⟩ J J
   ·exact rG J J J J<|rG J J J J<|rG J J J J<|rE J J J<|rA J J<|rN<|ab.stop<|aj.lq [] ⟨false,h,J⟩ J J
  ·exact have h:=ir hc h;rG J J J J<|rG J J J J<|rE J J J<|rM J J<|rG J J J J<|rG J J J J<|rG J J J J<|rG J J J J<|rE J J J<|rA J J<|rN<|ab.stop<|aj.lq [] ⟨false,h,J⟩ J J
 ·rintro aE ⟨c1,h,rfl⟩
  unfold xu at h
  refine ab.ret<|?_
  cases h
  exact hP J J
theorem Em [GI:bD] {aa:au} {ak:ai} {r:Bool} (h:tQ aa ak=r):Pu Tryz.prog 149 [au.av aa,.mG [.str ak]] (.bool r):=by
 unfold tQ at h
 refine aI.aZ Tryz.func149 J Tryz.ntmps149 Tryz.results149 J J ?_
 refine az<|cJ J J J J fun b1=>rA J J<|rN<|az<|rF J J J<|rL J J .p0 J J<|ae.qv (aJ J J J) J<|ae.qv (fC J J) J<|rA J J<|rN<|ab.ret<|?_
 obtain rfl:=h
 exact hP J J
theorem sF [GI:bD] {aa:List au} {iB:au→Option Bool} {dZ:FuncId} [bh Tryz.prog dZ] {gd:List AV} (mA:∀ {y0:_} {u:Bool},iB y0=some u→Pu Tryz.prog dZ (au.av y0 :: gd) (.bool u)) {r:Int} (h:fw aa iB=some r):Pu Tryz.prog 148 [wa aa,.func (.func dZ) gd] (I r):=by
 unfold fw at h
 refine aI.aZ Tryz.func148 J Tryz.ntmps148 Tryz.results148 J J ?_
 refine az<|rA J J<|rN<|tS<|az<|rM J J<|ae.qv (bB J) J<|rM J J<|rN<|ab.block<|ab.bO (fun x:Int=>ey aa iB x) (fun x aE=>aE=⟨19,[(0,wa aa),(1,.func (.func dZ) gd),(7,I (aa.length:Int)),(8,I x)],[]⟩) h ?_ ?_
 ·exact aj.lq [] J J J
 ·intro n2 z1 aE J1 dh h im dN
  obtain rfl:=dh
  replace h:ey aa iB n2=some z1:=h
  unfold ey at h
  refine az<|ae.qv (br J J) J<|rN<|tS<|cD h J (fun h=>?_) (fun h=>?_)
  ·refine tK<|tS<|ab.block<|az<|rM J J<|rA J J<|rN<|az<|rM J J<|rM J J<|rM J J<|ax h fun v3 e1 h=>ae.qv (aS J J J e1 J J) J<|ae.qv (aM J J J) J<|ax h fun v4 e2 h=>yU J J (mA e2) cR J<|rN<|cB h J (fun h=>?_) (fun h=>?_)
   ·refine az<|rM J J<|rA J J<|rN<|ab.ret<|have h:=bx h dN;?_
    cases h
    exact hP J J
   ·refine tK<|ab.bX<|tR<|ae.qv (bf J J) J<|rM J J<|rN<|ab.stop<|?_
    cases h
    exact im _ _ J<|aj.lq [] J J J
  ·refine ab.exit J<|have h:=bx h dN;az<|rA J J<|rN<|ab.ret<|?_
   cases h
   exact hP J J
theorem lB [GI:bD] {aa:aW} {ak:ai} {r:Int} (h:fB aa ak=some r):Pu Tryz.prog 70 [aW.av aa,.str ak] (I r):=by
 unfold fB at h
 refine aI.aZ Tryz.func70 J Tryz.ntmps70 Tryz.results70 J J ?_
 refine az<|cJ J J J J fun b1=>cJ J J J J fun b2=>rA J J<|rN<|az<|rF J J J<|rL J J .p1 J J<|ae.qv (iv J) J<|ax h fun v3 e1 h=>eF J (sF (fun e=>Em (Option.some.inj e)) e1) (.cons (.co (.refl _)) (.cons (.xf _ _ _ (.cons (.BM _ _ _ .p0 (.cons (.co (.refl _)) .nil)) .nil)) .nil)) J J<|rA J J<|rN<|ab.ret<|?_
 cases h
 exact hP J J
theorem vN [GI:bD] {aa:aW} {ak:ai} {r:(List ai)} (h:si aa ak=some r):Pu Tryz.prog 71 [aW.av aa,.str ak] (gz r):=by
 unfold si at h
 refine aI.aZ Tryz.func71 J Tryz.ntmps71 Tryz.results71 J J ?_
 refine az<|cJ J J J J fun b1=>rA J J<|rN<|az<|rA J J<|rN<|tS<|ab.block<|ab.bO (fun x:ai×(List ai)=>o5 aa x.1 x.2) (fun x aE=>∃ (b6:Bk),aE=⟨24,[(1,.str x.1),(2,.ptr b1 0),(5,.sl 1 b6 0 x.2.length)],[(b1,.cells (wg aa)),(b6,vF x.2)]⟩) h ?_ ?_
 ·exact aj.arr (s:=5) 1 J fun b8=>aj.lq [1,0] ⟨b8,J⟩ J J
 ·intro x z1 aE J1 dh h im dN
  obtain ⟨q5,l7⟩:=x
  obtain ⟨b6,rfl⟩:=dh
  replace h:o5 aa q5 l7=some z1:=h
  unfold o5 at h
  refine tS<|az<|rM J J<|ae.qv (ud J J) J<|rN<|cD h J (fun h=>?_) (fun h=>?_)
  ·refine tK<|ab.block<|tS<|az<|rM J J<|rM J J<|ax h fun v9 e1 h=>eF J (bt e1) (.cons (w7.wN .p1) (.cons (.co (.refl _)) .nil)) J J<|rN<|cB h J (fun h=>?_) (fun h=>?_)
   ·refine az<|rA J J<|rN<|ab.ret<|have h:=bx h dN;?_
    cases h
    exact aj.co (s:=4) J (.nil 1)<|aj.here ⟨_,.cons (.tmp _ _ J) .nil,J⟩
   ·refine tK<|az<|rM J J<|rM J J<|aF (xs:=([q5]:List ai).map AV.str) J J J J J J<|ax h fun l10 e2 h=>cU (g:=AV.str) J J J J J J J J (.list _) e2 (fun _=>.p1) J fun Bg=>rA J J<|rN<|ab.cA (id:=6) (A:=[0,1,0,0,12,31,63,127,255]) 9 mixed J (by kernel_rfl) (by kernel_rfl)<|AM.qv (ar J J) J<|AM.qv (aD J J .p0 J) J<|AM.qv (aA J J .p0 J) J<|AM.qv (aO J) J<|ax h fun v12 e3 h=>AM.cT J (lB e3) cR J<|ax h fun ma e4 h=>AM.qv (aS J J J e4 J J) J<|AM.qv (bY J J) J<|AM.qv (aJ J J J) J<|AM.qv (bR J) J<|AM.nil<|rN<|ab.bX<|ab.stop<|?_
    cases h
    exact im _ _ J<|aj.lq [0,0] ⟨Bg,J⟩ J J
  ·refine ab.exit J<|have h:=bx h dN;az<|rM J J<|rA J J<|rN<|ab.ret<|?_
   cases h
   exact aj.freeze .p1<|aj.co (s:=4) J (Co.Ah .p1)<|aj.here ⟨_,.cons (.tmp _ _ J) .nil,J⟩
theorem zn [GI:bD] {aa:aW} {ak:ai} {r:(Option (List ai))} (h:sj aa ak=some r):aI Tryz.prog 71 [aW.av aa,.str ak] [] (TM r (T0 ([]) (.nil)) (fun x=>T1 (fun kK=>[(kK,vF x)]) (fun kK=>.sl 1 kK 0 x.length))):=by
 unfold sj at h
 refine aI.fD ?_
 refine aI.aZ Tryz.func71 J Tryz.ntmps71 Tryz.results71 J J ?_
 refine az<|cJ J J J J fun b1=>rA J J<|rN<|az<|rA J J<|rN<|tS<|ab.block<|ab.bO (fun x:ai×(List ai)=>jo aa x.1 x.2) (fun x aE=>∃ (b6:Bk),aE=⟨24,[(1,.str x.1),(2,.ptr b1 0),(5,.sl 1 b6 0 x.2.length)],[(b1,.cells (wg aa)),(b6,vF x.2)]⟩) h ?_ ?_
 ·exact aj.arr (s:=5) 1 J fun b8=>aj.lq [1,0] ⟨b8,J⟩ J J
 ·intro x z1 aE J1 dh h im dN
  obtain ⟨q5,l7⟩:=x
  obtain ⟨b6,rfl⟩:=dh
  replace h:jo aa q5 l7=some z1:=h
  unfold jo at h
  refine tS<|az<|rM J J<|ae.qv (ud J J) J<|rN<|cD h J (fun h=>?_) (fun h=>?_)
  ·refine tK<|ab.block<|tS<|az<|rM J J<|rM J J<|ax h fun v9 e1 h=>eF J (bt e1) (.cons (w7.wN .p1) (.cons (.co (.refl _)) .nil)) J J<|rN<|cB h J (fun h=>?_) (fun h=>?_)
   ·refine az<|rA J J<|rN<|ab.ret<|have h:=bx h dN;?_
    cases h
    exact hH J [] J ⟨J,J⟩
   ·refine tK<|az<|rM J J<|rM J J<|aF (xs:=([q5]:List ai).map AV.str) J J J J J J<|ax h fun l10 e2 h=>cU (g:=AV.str) J J J J J J J J (.list _) e2 (fun _=>.p1) J fun Bg=>rA J J<|rN<|ab.cA (id:=6) (A:=[0,1,0,0,12,31,63,127,255]) 9 mixed J (by kernel_rfl) (by kernel_rfl)<|AM.qv (ar J J) J<|AM.qv (aD J J .p0 J) J<|AM.qv (aA J J .p0 J) J<|AM.qv (aO J) J<|ax h fun v12 e3 h=>AM.cT J (lB e3) cR J<|ax h fun ma e4 h=>AM.qv (aS J J J e4 J J) J<|AM.qv (bY J J) J<|AM.qv (aJ J J J) J<|AM.qv (bR J) J<|AM.nil<|rN<|ab.bX<|ab.stop<|?_
    cases h
    exact im _ _ J<|aj.lq [0,0] ⟨Bg,J⟩ J J
  ·refine ab.exit J<|have h:=bx h dN;az<|rM J J<|rA J J<|rN<|ab.ret<|?_
   cases h
   exact hH J [1] J ⟨b6,J,J⟩
theorem Dd {aa:aW} {r:Int} (h:o6 aa=some r):Pu Tryz.prog 67 [aW.av aa] (I r):=by
 unfold o6 at h
 refine aI.aZ Tryz.func67 J Tryz.ntmps67 Tryz.results67 J J ?_
 refine az<|cJ J J J J fun b1=>rA J J<|rN<|tS<|az<|rF J J J<|rL J J .p0 J J<|ae.qv (bB J) J<|ae.qv (cS J J) J<|rN<|cD h J (fun h=>?_) (fun h=>?_)
 ·refine az<|rA J J<|rN<|ab.ret<|?_
  cases h
  exact hP J J
 ·refine tK<|tS<|az<|rF J J J<|rL J J .p0 J J<|ae.qv (bB J) J<|rM J J<|rN<|ab.block<|ab.bO (fun x:Int=>lr aa x) (fun x aE=>aE=⟨87,[(1,.ptr b1 0),(16,wa aa.ao),(17,I (aa.ao.length:Int)),(18,I x)],[(b1,.cells (wg aa))]⟩) h ?_ ?_
  ·exact aj.lq [0] J J J
  ·intro n3 z1 aE J1 dh h im dN
   obtain rfl:=dh
   replace h:lr aa n3=some z1:=h
   unfold lr at h
   refine az<|ae.qv (br J J) J<|rN<|tS<|cD h J (fun h=>?_) (fun h=>?_)
   ·refine tK<|tS<|ab.block<|az<|rM J J<|ax h fun v4 e1 h=>ae.qv (aS J J J e1 J J) J<|ae.qv (aM J J J) J<|bu J J J J fun b5=>rA J J<|ay J J J J .p0 J J<|rN<|tS<|az<|rF J J J<|rL J J .p0 J J<|ax h fun v6 e2 h=>aH J (qN e2) cR J<|ae.qv (bF J) J<|rN<|cB h J (fun h=>?_) (fun h=>?_)
    ·refine az<|rA J J<|rN<|ab.ret<|have h:=bx h dN;?_
     cases h
     exact hP J J
    ·refine tK<|tS<|ab.cut (fun aE=>∃ (c7:Bool),gM n3 c7=some z1∧aE=⟨87,[(1,.ptr b1 0),(16,wa aa.ao),(17,I (aa.ao.length:Int)),(18,I n3),(40,.bool c7)],[(b1,.cells (wg aa))]⟩) ?_ ?_
     ·refine ab.cA (id:=8) (A:=[0,1,3,7,15,7,39,7,135,487,999,2023,4095,8191]) 14 mixed J (by kernel_rfl) (by kernel_rfl)<|AM.qv (aO J) J<|AM.qv (cS J J) J<|AM.qv (aO J) J<|AM.cq J J J (fun hc=>?_) (fun hc=>?_)
      ·exact have h:=hZ hc h;AM.qv (ar J J) J<|AM.an J J J<|AM.qv (aD J J .p0 J) J<|AM.an J J J<|AM.qv (ar J J) J<|AM.an J J J<|AM.qv (aD J J .p1 J) J<|AM.an J J J<|AM.qv (aO J) J<|AM.an J J J<|AM.qv (fm J J) J<|AM.an J J J<|ax h fun v8 e3 h=>AM.qv (aS J J J e3 J J) J<|AM.an J J J<|AM.qv (bY J J) J<|AM.an J J J<|AM.qv (aJ J J J) J<|AM.an J J J<|AM.qv (od J J) J<|AM.qv (cQ J J) J<|AM.nil<|rN<|ab.stop<|aj.lq [1] ⟨Op.bytesLess v4.Key v8.Key||v4.Key==v8.Key,h,J⟩ J J
      ·exact have h:=wM hc h;AM.al J J J J<|AM.al J J J J<|AM.al J J J J<|AM.al J J J J<|AM.al J J J J<|AM.al J J J J<|AM.al J J J J<|AM.al J J J J<|AM.al J J J J<|AM.qv (eE J J) J<|AM.nil<|rN<|ab.stop<|aj.lq [1] ⟨false,h,J⟩ J J
     ·rintro aE ⟨c7,h,rfl⟩
      unfold gM at h
      refine cB h J (fun h=>?_) (fun h=>?_)
      ·refine az<|rA J J<|rN<|ab.ret<|have h:=bx h dN;?_
       cases h
       exact hP J J
      ·refine tK<|ab.bX<|tR<|ae.qv (bf J J) J<|rM J J<|rN<|ab.stop<|?_
       cases h
       exact im _ _ J<|aj.lq [0] J J J
   ·refine ab.exit J<|have h:=bx h dN;tS<|az<|rF J J J<|rL J J .p0 J J<|ae.qv (bB J) J<|rM J J<|rN<|ab.block<|ab.bO (fun x:Int=>lp aa x) (fun x aE=>aE=⟨87,[(1,.ptr b1 0),(43,wa aa.ao),(44,I (aa.ao.length:Int)),(45,I x)],[(b1,.cells (wg aa))]⟩) h ?_ ?_
    ·exact aj.lq [0] J J J
    ·intro n10 z2 aE J2 dh h ya tY
     obtain rfl:=dh
     replace h:lp aa n10=some z2:=h
     unfold lp at h
     refine az<|ae.qv (br J J) J<|rN<|tS<|cD h J (fun h=>?_) (fun h=>?_)
     ·refine tK<|tS<|ab.block<|az<|ax h fun v11 e4 h=>ae.qv (aS J J J e4 J J) J<|ae.qv (aM J J J) J<|bu J J J J fun Le=>ay J J J J .p0 J J<|rN<|tS<|ab.cut (fun aE=>∃ (D8:Bool),gN n10 D8=some z2∧aE=⟨87,[(1,.ptr b1 0),(43,wa aa.ao),(44,I (aa.ao.length:Int)),(45,I n10),(58,.bool D8)],[(b1,.cells (wg aa))]⟩) ?_ ?_
      ·refine tR<|rF J J J<|rL J J .p0 J J<|ae.qv (ud J J) J<|rM J J<|gT h J J J (fun h=>?_) (fun h=>?_)
       ·exact ae.qv (aA J J .p1 J) J<|rY J J J<|rF J J J<|rY J J J<|rL J J .p0 J J<|rY J J J<|ax h fun rl e5 h=>aH J (lB e5) cR J<|rY J J J<|ae.qv (br J J) J<|rT J J J<|rN<|ab.stop<|aj.lq [1] ⟨decide (rl < (0:Int)),h,J⟩ J J
       ·exact rG J J J J<|rG J J J J<|rG J J J J<|rG J J J J<|rE J J J<|rN<|ab.stop<|aj.lq [1] ⟨false,h,J⟩ J J
      ·rintro aE ⟨D8,h,rfl⟩
       unfold gN at h
       refine cB h J (fun h=>?_) (fun h=>?_)
       ·refine az<|rA J J<|rN<|ab.ret<|have h:=bx h tY;?_
        cases h
        exact hP J J
       ·refine tK<|ab.bX<|tR<|ae.qv (bf J J) J<|rM J J<|rN<|ab.stop<|?_
        cases h
        exact ya _ _ J<|aj.lq [0] J J J
     ·refine ab.exit J<|have h:=bx h tY;tS<|az<|rF J J J<|rL J J .p0 J J<|ae.qv (bB J) J<|rM J J<|rN<|ab.block<|ab.bO (fun x:Int=>eP aa x) (fun x aE=>aE=⟨87,[(1,.ptr b1 0),(61,wa aa.ao),(62,I (aa.ao.length:Int)),(63,I x)],[(b1,.cells (wg aa))]⟩) h ?_ ?_
      ·exact aj.lq [0] J J J
      ·intro n16 z3 aE J3 dh h N9 Lb
       obtain rfl:=dh
       replace h:eP aa n16=some z3:=h
       unfold eP at h
       refine az<|ae.qv (br J J) J<|rN<|tS<|cD h J (fun h=>?_) (fun h=>?_)
       ·refine tK<|tS<|ab.block<|az<|ax h fun v17 e6 h=>ae.qv (aS J J J e6 J J) J<|ae.qv (aM J J J) J<|bu J J J J fun Jf=>ay J J J J .p0 J J<|rN<|az<|ae.qv (aA J J .p1 J) J<|rF J J J<|rL J J .p0 J J<|ax h fun ik e7 h=>Ro h (fun e8 h=>?_) (fun x20 e8 h=>?_)
        ·refine have af1:=BX e8 (zn e7);aR J af1 cR .nil J J<|ae.qv (Xe J J) J<|rN<|ab.ER J<|az<|rA J J<|rN<|ab.ret<|have h:=bx h Lb;?_
         cases h
         exact hP J J
        ·refine have af2:=BY e8 (zn e7);fV J af2 cR .nil (fun _=>J) J fun TA=>ax h fun v22 e9 h=>ae.qv (Xf (l:=x20) J J e9) J<|rN<|ab.Qq J<|tK<|ab.bX<|tR<|ae.qv (bf J J) J<|rM J J<|rN<|ab.stop<|?_
         cases h
         exact N9 _ _ J<|aj.lq [2] J J J
       ·refine ab.exit J<|have h:=bx h Lb;tS<|az<|rF J J J<|rL J J .p0 J J<|ae.qv (bB J) J<|rM J J<|rN<|ab.block<|ab.bO (fun x:Int=>gO aa x) (fun x aE=>aE=⟨87,[(1,.ptr b1 0),(74,wa aa.ao),(75,I (aa.ao.length:Int)),(76,I x)],[(b1,.cells (wg aa))]⟩) h ?_ ?_
        ·exact aj.lq [0] J J J
        ·intro n24 z4 aE J4 dh h hJ4 Wg
         obtain rfl:=dh
         replace h:gO aa n24=some z4:=h
         unfold gO at h
         refine az<|ae.qv (br J J) J<|rN<|tS<|cD h J (fun h=>?_) (fun h=>?_)
         ·refine tK<|tS<|ab.block<|az<|ax h fun v25 Am h=>ae.qv (aS J J J Am J J) J<|ae.qv (aM J J J) J<|bu J J J J fun La=>ay J J J J .p0 J J<|rN<|az<|ae.qv (aA J J .p1 J) J<|rF J J J<|rL J J .p0 J J<|ax h fun FF Bf h=>aH J (vN Bf) cR J<|ae.qv (bB J) J<|ae.qv (cS J J) J<|rN<|cD h J (fun h=>?_) (fun h=>?_)
          ·refine az<|rA J J<|rN<|ab.ret<|have h:=bx h Wg;?_
           cases h
           exact hP J J
          ·refine tK<|ab.bX<|tR<|ae.qv (bf J J) J<|rM J J<|rN<|ab.stop<|?_
           cases h
           exact hJ4 _ _ J<|aj.lq [1] J J J
         ·refine ab.exit J<|have h:=bx h Wg;az<|rA J J<|rN<|ab.ret<|?_
          cases h
          exact hP J J
theorem En {aa:ai} {r:Bool} (h:iM aa=some r):Pu Tryz.prog 154 [.str aa] (.bool r):=by
 unfold iM at h
 refine aI.aZ Tryz.func154 J Tryz.ntmps154 Tryz.results154 J J ?_
 refine az<|rA J J<|rN<|az<|rM J J<|ax h fun v1 e1 h=>aH J (qN e1) cR J<|ae.qv (bF J) J<|rA J J<|rN<|ab.ret<|?_
 cases h
 exact hP J J
theorem Ji {aa:ai} {ak:Bool} {r:Bool} (h:qT aa ak=some r):Pu Tryz.prog 75 [.str aa,.bool ak] (.bool r):=by
 unfold qT at h
 refine aI.aZ Tryz.func75 J Tryz.ntmps75 Tryz.results75 J J ?_
 refine az<|rA J J<|rN<|az<|rM J J<|ax h fun v1 e1 h=>fV J (uG e1) cR .nil (fun _=>J) J fun b2=>rA J J<|rN<|tS<|az<|rM J J<|ae.qv (iu J) J<|ae.qv (fm J J) J<|rA J J<|rN<|tS<|ab.cut (fun aE=>∃ (c3:Bool),nQ aa v1 c3=some r∧aE=⟨39,[(0,.str aa),(5,.sl 1 b2 0 v1.length),(6,I (cd ((v1.length:Int) - (1:Int)))),(20,.bool c3)],[(b2,vF v1)]⟩) ?_ ?_
 ·refine tR<|rM J J<|ae.qv (bF J) J<|rM J J<|ae.guard J J J (fun hc=>?_) (fun hc=>?_)
  ·exact have h:=hZ hc h;rM J J<|rY J J J<|rM J J<|rY J J J<|ax h fun v4 e2 h=>ae.qv (jk J J J e2) J<|rY J J J<|ae.qv (iO (g:=AV.str) J J (.inl .p0) e2 J) J<|rY J J J<|ae.qv (fC J J) J<|rT J J J<|rN<|ab.stop<|aj.lq [0] ⟨decide (v4=([42]:ai)),h,J⟩ J J
  ·exact have h:=ir hc h;rG J J J J<|rG J J J J<|rG J J J J<|rG J J J J<|rE J J J<|rN<|ab.stop<|aj.lq [0] ⟨false,h,J⟩ J J
 ·rintro aE ⟨c3,h,rfl⟩
  unfold nQ at h
  refine ab.cut (fun aE=>∃ (l5:List ai),jM aa l5=some r∧aE=⟨39,[(0,.str aa),(5,.sl 1 b2 0 l5.length)],[(b2,vF l5)]⟩) ?_ ?_
  ·refine cB h J (fun h=>?_) (fun h=>?_)
   ·exact tR<|rM J J<|rM J J<|ax h fun l6 e3 h=>ae.qv (sZ J J .none (.some _ _ _ J) J J e3) J<|rA J J<|ae.ghost<|aj.Re e3 .p0<|aj.here<|rN<|ab.stop<|aj.lq [0] ⟨l6,h,J⟩ J J
   ·refine az<|rM J J<|rM J J<|ax h fun v7 e4 h=>ae.qv (jk J J J e4) J<|ae.qv (iO (g:=AV.str) J J (.inl .p0) e4 J) J<|ax h fun v8 e5 h=>aH J (qN e5) cR J<|ae.qv (bF J) J<|rN<|cB h J (fun h=>?_) (fun h=>?_)
    ·refine az<|rA J J<|rN<|ab.ret<|?_
     cases h
     exact hP J J
    ·exact tK<|ab.stop<|aj.lq [0] ⟨v1,h,J⟩ J J
  ·rintro aE ⟨l5,h,rfl⟩
   unfold jM at h
   refine tS<|ab.cut (fun aE=>∃ (c9:Bool),nP c9=some r∧aE=⟨39,[(4,.bool c9)],[]⟩) ?_ ?_
   ·refine tR<|rM J J<|ax h fun v10 e6 h=>fV J (uG e6) cR .nil (fun _=>J) J fun Bg=>ae.qv (iu J) J<|ae.qv (sS J J) J<|rM J J<|gT h J J J (fun h=>?_) (fun h=>?_)
    ·exact rM J J<|rY J J J<|ax h fun v12 e7 h=>eF J (bV (fun e=>En e) e7) (.cons (w7.wN .p1) (.cons (.xf _ _ _ .nil) .nil)) J J<|rY J J J<|ae.qv (bF J) J<|rT J J J<|rA J J<|rN<|ab.stop<|aj.lq [] ⟨!v12,h,J⟩ J J
    ·exact rG J J J J<|rG J J J J<|rE J J J<|rA J J<|rN<|ab.stop<|aj.lq [] ⟨false,h,J⟩ J J
   ·rintro aE ⟨c9,h,rfl⟩
    unfold nP at h
    refine ab.ret<|?_
    cases h
    exact hP J J
theorem AL {aa:List ai} {ak:Bool} {r:Int} (h:o8 aa ak=some r):Pu Tryz.prog 93 [gz aa,.bool ak] (I r):=by
 unfold o8 at h
 refine aI.aZ Tryz.func93 J Tryz.ntmps93 Tryz.results93 J J ?_
 refine az<|rA J J<|rN<|tS<|az<|rM J J<|ae.qv (bB J) J<|rM J J<|rN<|ab.block<|ab.bO (fun x:Int=>dL aa ak x) (fun x aE=>aE=⟨30,[(0,gz aa),(1,.bool ak),(7,gz aa),(8,I (aa.length:Int)),(9,I x)],[]⟩) h ?_ ?_
 ·exact aj.lq [] J J J
 ·intro n2 z1 aE J1 dh h im dN
  obtain rfl:=dh
  replace h:dL aa ak n2=some z1:=h
  unfold dL at h
  refine az<|ae.qv (br J J) J<|rN<|tS<|cD h J (fun h=>?_) (fun h=>?_)
  ·refine tK<|tS<|ab.block<|az<|rM J J<|ax h fun v3 e1 h=>ae.qv (aS J J J e1 J J) J<|ae.qv (aJ J J J) J<|rA J J<|rA J J<|rN<|tS<|az<|rM J J<|rM J J<|ax h fun v4 e2 h=>aH J (Ji e2) cR J<|ae.qv (bF J) J<|rN<|cB h J (fun h=>?_) (fun h=>?_)
   ·refine az<|rA J J<|rN<|ab.ret<|have h:=bx h dN;?_
    cases h
    exact hP J J
   ·refine tK<|tS<|ab.cut (fun aE=>∃ (c5:Bool),dU n2 c5=some z1∧aE=⟨30,[(0,gz aa),(1,.bool ak),(7,gz aa),(8,I (aa.length:Int)),(9,I n2),(28,.bool c5)],[]⟩) ?_ ?_
    ·refine tR<|rM J J<|ae.qv (cS J J) J<|rM J J<|gT h J J J (fun h=>?_) (fun h=>?_)
     ·exact rM J J<|rY J J J<|rM J J<|rY J J J<|rM J J<|rY J J J<|ae.qv (fm J J) J<|rY J J J<|ax h fun v6 e3 h=>ae.qv (aS J J J e3 J J) J<|rY J J J<|ae.qv (aJ J J J) J<|rY J J J<|ae.qv (od J J) J<|rT J J J<|rN<|ab.stop<|aj.lq [] ⟨Op.bytesLess v3 v6||v3==v6,h,J⟩ J J
     ·exact rG J J J J<|rG J J J J<|rG J J J J<|rG J J J J<|rG J J J J<|rG J J J J<|rE J J J<|rN<|ab.stop<|aj.lq [] ⟨false,h,J⟩ J J
    ·rintro aE ⟨c5,h,rfl⟩
     unfold dU at h
     refine cB h J (fun h=>?_) (fun h=>?_)
     ·refine az<|rA J J<|rN<|ab.ret<|have h:=bx h dN;?_
      cases h
      exact hP J J
     ·refine tK<|ab.bX<|tR<|ae.qv (bf J J) J<|rM J J<|rN<|ab.stop<|?_
      cases h
      exact im _ _ J<|aj.lq [] J J J
  ·refine ab.exit J<|have h:=bx h dN;az<|rA J J<|rN<|ab.ret<|?_
   cases h
   exact hP J J
theorem Cm {aa:List ai} {r:Int} (h:qU aa=some r):Pu Tryz.prog 73 [gz aa] (I r):=by
 unfold qU at h
 refine aI.aZ Tryz.func73 J Tryz.ntmps73 Tryz.results73 J J ?_
 refine az<|rA J J<|rN<|tS<|ab.block<|az<|rM J J<|ae.qv (bB J) J<|ae.qv (cx J J) J<|rA J J<|rN<|cD h J (fun h=>?_) (fun h=>?_)
 ·refine az<|rA J J<|rN<|ab.ret<|?_
  cases h
  exact hP J J
 ·refine az<|rM J J<|ae.qv (bB J) J<|ae.qv (cS J J) J<|rA J J<|rN<|cD h J (fun h=>?_) (fun h=>?_)
  ·refine az<|rA J J<|rN<|ab.ret<|?_
   cases h
   exact hP J J
  ·refine tK<|ab.bX<|az<|rM J J<|ax h fun v1 e1 h=>aH J (AL e1) cR J<|rA J J<|rN<|ab.ret<|?_
   cases h
   exact hP J J
theorem Ha [GI:bD] {aa:bH} {ak:ai} {r:Bool} (h:wB aa ak=r):Pu Tryz.prog 224 [bH.av aa,.mG [.str ak]] (.bool r):=by
 unfold wB at h
 refine aI.aZ Tryz.func224 J Tryz.ntmps224 Tryz.results224 J J ?_
 refine az<|cJ J J J J fun b1=>rA J J<|rN<|az<|rF J J J<|rL J J .p0 J J<|ae.qv (aJ J J J) J<|ae.qv (fC J J) J<|rA J J<|rN<|ab.ret<|?_
 obtain rfl:=h
 exact hP J J
theorem uN [GI:bD] {aa:List bH} {iB:bH→Option Bool} {dZ:FuncId} [bh Tryz.prog dZ] {gd:List AV} (mA:∀ {y0:_} {u:Bool},iB y0=some u→Pu Tryz.prog dZ (bH.av y0 :: gd) (.bool u)) {r:Int} (h:gQ aa iB=some r):Pu Tryz.prog 223 [yw aa,.func (.func dZ) gd] (I r):=by
 unfold gQ at h
 refine aI.aZ Tryz.func223 J Tryz.ntmps223 Tryz.results223 J J ?_
 refine az<|rA J J<|rN<|tS<|az<|rM J J<|ae.qv (bB J) J<|rM J J<|rN<|ab.block<|ab.bO (fun x:Int=>fL aa iB x) (fun x aE=>aE=⟨19,[(0,yw aa),(1,.func (.func dZ) gd),(7,I (aa.length:Int)),(8,I x)],[]⟩) h ?_ ?_
 ·exact aj.lq [] J J J
 ·intro n2 z1 aE J1 dh h im dN
  obtain rfl:=dh
  replace h:fL aa iB n2=some z1:=h
  unfold fL at h
  refine az<|ae.qv (br J J) J<|rN<|tS<|cD h J (fun h=>?_) (fun h=>?_)
  ·refine tK<|tS<|ab.block<|az<|rM J J<|rA J J<|rN<|az<|rM J J<|rM J J<|rM J J<|ax h fun v3 e1 h=>ae.qv (aS J J J e1 J J) J<|ae.qv (aM J J J) J<|ax h fun v4 e2 h=>yU J J (mA e2) cR J<|rN<|cB h J (fun h=>?_) (fun h=>?_)
   ·refine az<|rM J J<|rA J J<|rN<|ab.ret<|have h:=bx h dN;?_
    cases h
    exact hP J J
   ·refine tK<|ab.bX<|tR<|ae.qv (bf J J) J<|rM J J<|rN<|ab.stop<|?_
    cases h
    exact im _ _ J<|aj.lq [] J J J
  ·refine ab.exit J<|have h:=bx h dN;az<|rA J J<|rN<|ab.ret<|?_
   cases h
   exact hP J J
theorem FX [GI:bD] {aa:aW} {ak:ai} {r:Int} (h:xv aa ak=some r):Pu Tryz.prog 145 [aW.av aa,.str ak] (I r):=by
 unfold xv at h
 refine aI.aZ Tryz.func145 J Tryz.ntmps145 Tryz.results145 J J ?_
 refine az<|cJ J J J J fun b1=>cJ J J J J fun b2=>rA J J<|rN<|az<|rF J J J<|rL J J .p1 J J<|ae.qv (iv J) J<|ax h fun v3 e1 h=>eF J (uN (fun e=>Ha (Option.some.inj e)) e1) (.cons (.co (.refl _)) (.cons (.xf _ _ _ (.cons (.BM _ _ _ .p0 (.cons (.co (.refl _)) .nil)) .nil)) .nil)) J J<|rA J J<|rN<|ab.ret<|?_
 cases h
 exact hP J J
theorem FY {aa:aW} {r:Int} (h:so aa=some r):Pu Tryz.prog 68 [aW.av aa] (I r):=by
 unfold so at h
 refine aI.aZ Tryz.func68 J Tryz.ntmps68 Tryz.results68 J J ?_
 refine az<|cJ J J J J fun b1=>rA J J<|rN<|tS<|az<|rF J J J<|rL J J .p0 J J<|ae.qv (bB J) J<|ae.qv (cS J J) J<|rN<|cD h J (fun h=>?_) (fun h=>?_)
 ·refine az<|rA J J<|rN<|ab.ret<|?_
  cases h
  exact hP J J
 ·refine tK<|tS<|az<|rF J J J<|rL J J .p0 J J<|ae.qv (bB J) J<|rM J J<|rN<|ab.block<|ab.bO (fun x:Int=>ib aa x) (fun x aE=>aE=⟨114,[(1,.ptr b1 0),(13,yw aa.bd),(14,I (aa.bd.length:Int)),(15,I x)],[(b1,.cells (wg aa))]⟩) h ?_ ?_
  ·exact aj.lq [0] J J J
  ·intro n3 z1 aE J1 dh h im dN
   obtain rfl:=dh
   replace h:ib aa n3=some z1:=h
   unfold ib at h
   refine az<|ae.qv (br J J) J<|rN<|tS<|cD h J (fun h=>?_) (fun h=>?_)
   ·refine tK<|tS<|ab.block<|az<|rM J J<|ax h fun v4 e1 h=>ae.qv (aS J J J e1 J J) J<|ae.qv (aM J J J) J<|bu J J J J fun b5=>rA J J<|ay J J J J .p0 J J<|rN<|tS<|az<|rF J J J<|rL J J .p0 J J<|ax h fun v6 e2 h=>aH J (qN e2) cR J<|ae.qv (bF J) J<|rN<|cB h J (fun h=>?_) (fun h=>?_)
    ·refine az<|rA J J<|rN<|ab.ret<|have h:=bx h dN;?_
     cases h
     exact hP J J
    ·refine tK<|tS<|tS<|ab.cut (fun aE=>∃ (c7:Bool),ia n3 v4 c7=some z1∧aE=⟨114,[(1,.ptr b1 0),(4,.ptr b5 0),(13,yw aa.bd),(14,I (aa.bd.length:Int)),(15,I n3),(37,.bool c7)],[(b1,.cells (wg aa)),(b5,.cells [.str v4.Key,gz v4.lI])]⟩) ?_ ?_
     ·refine ab.cA (id:=8) (A:=[0,1,3,7,15,7,39,7,135,487,999,2023,4095,8191]) 14 mixed J (by kernel_rfl) (by kernel_rfl)<|AM.qv (aO J) J<|AM.qv (cS J J) J<|AM.qv (aO J) J<|AM.cq J J J (fun hc=>?_) (fun hc=>?_)
      ·exact have h:=hZ hc h;AM.qv (ar J J) J<|AM.an J J J<|AM.qv (aD J J .p0 J) J<|AM.an J J J<|AM.qv (ar J J) J<|AM.an J J J<|AM.qv (aD J J .p1 J) J<|AM.an J J J<|AM.qv (aO J) J<|AM.an J J J<|AM.qv (fm J J) J<|AM.an J J J<|ax h fun v8 e3 h=>AM.qv (aS J J J e3 J J) J<|AM.an J J J<|AM.qv (bY J J) J<|AM.an J J J<|AM.qv (aJ J J J) J<|AM.an J J J<|AM.qv (od J J) J<|AM.qv (cQ J J) J<|AM.nil<|rN<|ab.stop<|aj.lq [1,0] ⟨Op.bytesLess v4.Key v8.Key||v4.Key==v8.Key,h,J⟩ J J
      ·exact have h:=wM hc h;AM.al J J J J<|AM.al J J J J<|AM.al J J J J<|AM.al J J J J<|AM.al J J J J<|AM.al J J J J<|AM.al J J J J<|AM.al J J J J<|AM.al J J J J<|AM.qv (eE J J) J<|AM.nil<|rN<|ab.stop<|aj.lq [1,0] ⟨false,h,J⟩ J J
     ·rintro aE ⟨c7,h,rfl⟩
      unfold ia at h
      refine cB h J (fun h=>?_) (fun h=>?_)
      ·refine az<|rA J J<|rN<|ab.ret<|have h:=bx h dN;?_
       cases h
       exact hP J J
      ·refine tK<|az<|rF J J J<|rL J J .p1 J J<|ax h fun v9 e4 h=>aH J (Cm e4) cR J<|rA J J<|rN<|az<|rM J J<|ae.qv (ei J J) J<|rN<|cD h J (fun h=>?_) (fun h=>?_)
       ·refine az<|rM J J<|rA J J<|rN<|ab.ret<|have h:=bx h dN;?_
        cases h
        exact hP J J
       ·refine tK<|ab.bX<|tR<|ae.qv (bf J J) J<|rM J J<|rN<|ab.stop<|?_
        cases h
        exact im _ _ J<|aj.lq [0] J J J
   ·refine ab.exit J<|have h:=bx h dN;?_
    unfold kM at h
    refine tS<|az<|rF J J J<|rL J J .p0 J J<|ae.qv (bB J) J<|ae.qv (cS J J) J<|rN<|cD h J (fun h=>?_) (fun h=>?_)
    ·refine az<|rA J J<|rN<|ab.ret<|?_
     cases h
     exact hP J J
    ·refine tK<|tS<|az<|rF J J J<|rL J J .p0 J J<|ae.qv (bB J) J<|rM J J<|rN<|ab.block<|ab.bO (fun x:Int=>nA aa x) (fun x aE=>aE=⟨114,[(1,.ptr b1 0),(50,w9 aa.aG),(51,I (aa.aG.length:Int)),(52,I x)],[(b1,.cells (wg aa))]⟩) h ?_ ?_
     ·exact aj.lq [0] J J J
     ·intro n11 z2 aE J2 dh h ya tY
      obtain rfl:=dh
      replace h:nA aa n11=some z2:=h
      unfold nA at h
      refine az<|ae.qv (br J J) J<|rN<|tS<|cD h J (fun h=>?_) (fun h=>?_)
      ·refine tK<|tS<|ab.block<|az<|rM J J<|ax h fun v12 e5 h=>ae.qv (aS J J J e5 J J) J<|ae.qv (aM J J J) J<|bu J J J J fun JU=>rA J J<|ay J J J J .p0 J J<|rN<|ab.block<|az<|rF J J J<|rL J J .p0 J J<|ax h fun rl e6 h=>aH J (qN e6) cR J<|ae.qv (bF J) J<|rA J J<|rN<|cB h J (fun h=>?_) (fun h=>?_)
       ·refine az<|rA J J<|rN<|ab.ret<|have h:=bx h tY;?_
        cases h
        exact hP J J
       ·refine tS<|ab.cut (fun aE=>∃ (Qd:Bool),jq aa n11 v12 Qd=some z2∧aE=⟨114,[(1,.ptr b1 0),(6,I n11),(7,.ptr JU 0),(50,w9 aa.aG),(51,I (aa.aG.length:Int)),(52,I n11),(62,.bool Qd)],[(b1,.cells (wg aa)),(JU,.cells [.str v12.ek,.str v12.au,.str v12.bH])]⟩) ?_ ?_
        ·refine tR<|ae.qv (aA J J .p1 J) J<|rF J J J<|rL J J .p0 J J<|ax h fun pf e7 h=>aH J (lB e7) cR J<|ae.qv (br J J) J<|rM J J<|gF h J J J (fun h=>?_) (fun h=>?_)
         ·exact ae.qv (aA J J .p1 J) J<|rY J J J<|rF J J J<|rY J J J<|rL J J .p0 J J<|rY J J J<|ax h fun v17 e8 h=>aH J (FX e8) cR J<|rY J J J<|ae.qv (br J J) J<|rE J J J<|rA J J<|rN<|ab.stop<|aj.lq [1,0] ⟨decide (v17 < (0:Int)),h,J⟩ J J
         ·exact rG J J J J<|rG J J J J<|rG J J J J<|rG J J J J<|rT J J J<|rA J J<|rN<|ab.stop<|aj.lq [1,0] ⟨true,h,J⟩ J J
        ·rintro aE ⟨Qd,h,rfl⟩
         unfold jq at h
         refine cB h J (fun h=>?_) (fun h=>?_)
         ·refine az<|rA J J<|rN<|ab.ret<|have h:=bx h tY;?_
          cases h
          exact hP J J
         ·refine tS<|ab.cut (fun aE=>∃ (JR:Bool),qH n11 JR=some z2∧aE=⟨114,[(1,.ptr b1 0),(50,w9 aa.aG),(51,I (aa.aG.length:Int)),(52,I n11),(75,.bool JR)],[(b1,.cells (wg aa))]⟩) ?_ ?_
          ·refine ab.cA (id:=23) (A:=[0,1,3,7,15,7,39,127,255,511,7,1031,4095,7,8199,7,32775,122887,253959,516103,7,1048583,4194303,7,8388615,7,33554439,125829127,260046855,528482311,7,1073741831,4294967295,8589934591,17179869183,34359738367,68719476735,137438953471]) 38 mixed J (by kernel_rfl) (by kernel_rfl)<|AM.qv (aO J) J<|AM.qv (cS J J) J<|AM.qv (aO J) J<|AM.cq J J J (fun hc=>?_) (fun hc=>?_)
           ·exact have h:=hZ hc h;AM.qv (ar J J) J<|AM.an J J J<|AM.qv (aD J J .p0 J) J<|AM.an J J J<|AM.qv (aO J) J<|AM.an J J J<|AM.qv (fm J J) J<|AM.an J J J<|ax h fun ik e9 h=>AM.qv (aS J J J e9 J J) J<|AM.an J J J<|AM.qv (bY J J) J<|AM.an J J J<|AM.qv (aJ J J J) J<|AM.an J J J<|AM.qv (ar J J) J<|AM.an J J J<|AM.qv (aD J J .p1 J) J<|AM.an J J J<|AM.cT J (dD J) cR J<|AM.an J J J<|AM.qv (ar J J) J<|AM.an J J J<|AM.qv (aD J J .p0 J) J<|AM.an J J J<|AM.qv (aO J) J<|AM.an J J J<|AM.qv (fm J J) J<|AM.an J J J<|ax h fun v20 Am h=>AM.qv (aS J J J Am J J) J<|AM.an J J J<|AM.qv (bY J J) J<|AM.an J J J<|AM.qv (aJ J J J) J<|AM.an J J J<|AM.qv (ar J J) J<|AM.an J J J<|AM.qv (aD J J .p1 J) J<|AM.an J J J<|AM.cT J (dD J) cR J<|AM.an J J J<|AM.qv (ar J J) J<|AM.an J J J<|AM.qv (aD J J .p0 J) J<|AM.an J J J<|AM.qv (aO J) J<|AM.an J J J<|AM.qv (fm J J) J<|AM.an J J J<|ax h fun v21 Bf h=>AM.qv (aS J J J Bf J J) J<|AM.an J J J<|AM.qv (bY J J) J<|AM.an J J J<|AM.qv (aJ J J J) J<|AM.an J J J<|AM.qv (ar J J) J<|AM.an J J J<|AM.qv (aD J J .p1 J) J<|AM.an J J J<|AM.cT J (dD J) cR J<|AM.an J J J<|AM.a8 (xs:=([(Lib.compareBytes ik.ek v12.ek),(Lib.compareBytes v20.au v12.au),(Lib.compareBytes v21.bH v12.bH)]:List Int).map I) J J J J J J<|AM.an J J J<|ax h fun v22 GF h=>AM.cT J (mX GF) cR J<|AM.an J J J<|AM.qv (vn J J) J<|AM.qv (cQ J J) J<|AM.qv (bR J) J<|AM.nil<|rN<|ab.stop<|aj.lq [0] ⟨decide ((0:Int)≤v22),h,J⟩ J J
           ·exact have h:=wM hc h;AM.al J J J J<|AM.al J J J J<|AM.al J J J J<|AM.al J J J J<|AM.al J J J J<|AM.al J J J J<|AM.al J J J J<|AM.al J J J J<|AM.al J J J J<|AM.al J J J J<|AM.al J J J J<|AM.al J J J J<|AM.al J J J J<|AM.al J J J J<|AM.al J J J J<|AM.al J J J J<|AM.al J J J J<|AM.al J J J J<|AM.al J J J J<|AM.al J J J J<|AM.al J J J J<|AM.al J J J J<|AM.al J J J J<|AM.al J J J J<|AM.al J J J J<|AM.al J J J J<|AM.al J J J J<|AM.al J J J J<|AM.al J J J J<|AM.al J J J J<|AM.al J J J J<|AM.al J J J J<|AM.qv (eE J J) J<|AM.qv (bR J) J<|AM.nil<|rN<|ab.stop<|aj.lq [0] ⟨false,h,J⟩ J J
          ·rintro aE ⟨JR,h,rfl⟩
           unfold qH at h
           refine cB h J (fun h=>?_) (fun h=>?_)
           ·refine az<|rA J J<|rN<|ab.ret<|have h:=bx h tY;?_
            cases h
            exact hP J J
           ·refine tK<|ab.bX<|ab.bX<|tR<|ae.qv (bf J J) J<|rM J J<|rN<|ab.stop<|?_
            cases h
            exact ya _ _ J<|aj.lq [0] J J J
      ·refine ab.exit J<|have h:=bx h tY;az<|rA J J<|rN<|ab.ret<|?_
       cases h
       exact hP J J
theorem Hb [GI:bD] {self:Query→Option (List Query)} (kJ:∀ {aa:Query} {r:(List Query)},self aa=some r→aI Tryz.prog 150 [.agg [I aa.Kind,.str aa.Field,.str aa.Op,I aa.Value.Kind,.bool aa.Value.ch,I aa.Value.Number,.str aa.Value.Words,I aa.Version.bP,I aa.Version.bQ,I aa.Version.bL,pb aa.Kids]] [] (T1 (fun kK=>[(kK,UZ r)]) (fun kK=>.sl 11 kK 0 r.length))) {aa:Query} {r:(List Query)} (h:uA self aa=some r):aI Tryz.prog 150 [.agg [I aa.Kind,.str aa.Field,.str aa.Op,I aa.Value.Kind,.bool aa.Value.ch,I aa.Value.Number,.str aa.Value.Words,I aa.Version.bP,I aa.Version.bQ,I aa.Version.bL,pb aa.Kids]] [] (T1 (fun kK=>[(kK,UZ r)]) (fun kK=>.sl 11 kK 0 r.length)):=by
 unfold uA at h
 refine aI.fD ?_
 refine aI.aZ Tryz.func150 J Tryz.ntmps150 Tryz.results150 J J ?_
 refine az<|cJ J J J J fun b1=>rA J J<|rN<|az<|rA J J<|rN<|tS<|tS<|ab.cut (fun aE=>∃ (c2:Bool),wC self aa c2=some r∧aE=⟨31,[(1,.ptr b1 0),(3,.nil),(13,.bool c2)],[(b1,.cells (xL aa))]⟩) ?_ ?_
 ·refine tR<|rF J J J<|rL J J .p0 J J<|ae.qv (cx J J) J<|rM J J<|ae.dC J J J (fun hc=>?_) (fun hc=>?_)
  ·rw [yW hc] at h
   exact rF J J J<|rY J J J<|rL J J .p0 J J<|rY J J J<|ae.qv (cx J J) J<|rE J J J<|rN<|ab.stop<|aj.lq [0] ⟨decide (aa.Kind=(2:Int)),h,J⟩ J J
  ·rw [yV hc] at h
   exact rG J J J J<|rG J J J J<|rT J J J<|rN<|ab.stop<|aj.lq [0] ⟨true,h,J⟩ J J
 ·rintro aE ⟨c2,h,rfl⟩
  unfold wC at h
  refine ab.cut (fun aE=>∃ (b3:Bk) (l4:List Query),uz self aa l4=some r∧aE=⟨31,[(1,.ptr b1 0),(3,.sl 11 b3 0 l4.length)],[(b1,.cells (xL aa)),(b3,UZ l4)]⟩) ?_ ?_
  ·refine cB h J (fun h=>?_) (fun h=>?_)
   ·exact tR<|rM J J<|ae.qv (aA J J .p0 J) J<|aF (xs:=([aa]:List Query).map Query.av) J (by simp only [List.map_cons,List.map_nil,Query.um];rfl) J (by simp only [List.map_cons,List.map_nil,Query.um];rfl) J J<|ax h fun l5 e1 h=>OQ (g:=Query.av) J J J J J J J J (.list _) e1 fun b6=>rA J J<|rN<|ab.stop<|aj.lq [1,0] ⟨b6,l5,h,J⟩ J J
   ·exact tK<|ab.stop<|aj.arr (s:=3) 11 J fun b7=>aj.lq [1,0] ⟨b7,[],h,J⟩ J J
  ·rintro aE ⟨b3,l4,h,rfl⟩
   unfold uz at h
   refine tS<|az<|rF J J J<|rL J J .p0 J J<|ae.qv (bB J) J<|rM J J<|rN<|ab.block<|ab.bO (fun x:(List Query)×Int=>lu self aa x.1 x.2) (fun x aE=>∃ (Bg:Bk),aE=⟨31,[(3,.sl 11 Bg 0 x.1.length),(19,pb aa.Kids),(20,I (aa.Kids.length:Int)),(21,I x.2)],[(Bg,UZ x.1)]⟩) h ?_ ?_
   ·exact aj.lq [1] ⟨b3,J⟩ J J
   ·intro x z1 aE J1 dh h im dN
    obtain ⟨yG,n13⟩:=x
    obtain ⟨Bg,rfl⟩:=dh
    replace h:lu self aa yG n13=some z1:=h
    unfold lu at h
    refine az<|ae.qv (br J J) J<|rN<|tS<|cD h J (fun h=>?_) (fun h=>?_)
    ·refine tK<|tS<|ab.block<|az<|ax h fun rl e2 h=>ae.qv (aS J J J e2 J (by rw [Query.um];rfl)) J<|ae.qv (aM J J J) J<|bu J J J J fun Lc=>ay J J J J .p0 J J<|rN<|tR<|rM J J<|ae.qv (aA J J .p0 J) J<|ax h fun pf e3 h=>fV J (kJ e3) cR .nil (fun _=>J) J fun Qi=>ax h fun BA e4 h=>cU (g:=Query.av) J J J J J J J J (OP (.inl .p0) J) e4 (fun _=>.p2) J fun Qk=>rA J J<|rN<|ab.bX<|tR<|ae.qv (bf J J) J<|rM J J<|rN<|ab.stop<|?_
     cases h
     exact im _ _ J<|aj.lq [2] ⟨Qk,J⟩ J J
    ·refine ab.exit J<|have h:=bx h dN;az<|rM J J<|rA J J<|rN<|ab.ret<|?_
     cases h
     exact hH J [0] J ⟨Bg,J,J⟩
theorem Jj [GI:bD]:∀ (k:Nat) {aa:Query} {r:(List Query)},lO k aa=some r→aI Tryz.prog 150 [.agg [I aa.Kind,.str aa.Field,.str aa.Op,I aa.Value.Kind,.bool aa.Value.ch,I aa.Value.Number,.str aa.Value.Words,I aa.Version.bP,I aa.Version.bQ,I aa.Version.bL,pb aa.Kids]] [] (T1 (fun kK=>[(kK,UZ r)]) (fun kK=>.sl 11 kK 0 r.length)):=by
 intro k
 induction k with
 | zero=>intro aa r h;cases h
 | succ k ih=>intro aa r h;exact Hb ih h
theorem MY [GI:bD] {aa:Query} {r:(List Query)} (h:FH aa=some r):aI Tryz.prog 150 [.agg [I aa.Kind,.str aa.Field,.str aa.Op,I aa.Value.Kind,.bool aa.Value.ch,I aa.Value.Number,.str aa.Value.Words,I aa.Version.bP,I aa.Version.bQ,I aa.Version.bL,pb aa.Kids]] [] (T1 (fun kK=>[(kK,UZ r)]) (fun kK=>.sl 11 kK 0 r.length)):=Jj depth h
theorem Lf [GI:bD] {self:Query→Option Int} (kJ:∀ {aa:Query} {r:Int},self aa=some r→Pu Tryz.prog 151 [.agg [I aa.Kind,.str aa.Field,.str aa.Op,I aa.Value.Kind,.bool aa.Value.ch,I aa.Value.Number,.str aa.Value.Words,I aa.Version.bP,I aa.Version.bQ,I aa.Version.bL,pb aa.Kids]] (I r)) {aa:Query} {r:Int} (h:xw self aa=some r):Pu Tryz.prog 151 [.agg [I aa.Kind,.str aa.Field,.str aa.Op,I aa.Value.Kind,.bool aa.Value.ch,I aa.Value.Number,.str aa.Value.Words,I aa.Version.bP,I aa.Version.bQ,I aa.Version.bL,pb aa.Kids]] (I r):=by
 unfold xw at h
 refine aI.aZ Tryz.func151 J Tryz.ntmps151 Tryz.results151 J J ?_
 refine az<|cJ J J J J fun b1=>rA J J<|rN<|az<|rA J J<|rN<|tS<|az<|rF J J J<|rL J J .p0 J J<|ae.qv (bB J) J<|rM J J<|rN<|ab.block<|ab.bO (fun x:Int×Int=>pD self aa x.1 x.2) (fun x aE=>aE=⟨20,[(3,I x.1),(7,pb aa.Kids),(8,I (aa.Kids.length:Int)),(9,I x.2)],[]⟩) h ?_ ?_
 ·exact aj.lq [] J J J
 ·intro x z1 aE J1 dh h im dN
  obtain ⟨n4,n5⟩:=x
  obtain rfl:=dh
  replace h:pD self aa n4 n5=some z1:=h
  unfold pD at h
  refine az<|ae.qv (br J J) J<|rN<|tS<|cD h J (fun h=>?_) (fun h=>?_)
  ·refine tK<|tS<|ab.block<|az<|ax h fun v6 e1 h=>ae.qv (aS J J J e1 J (by rw [Query.um];rfl)) J<|ae.qv (aM J J J) J<|bu J J J J fun b7=>ay J J J J .p0 J J<|rN<|tR<|rM J J<|ae.qv (aA J J .p0 J) J<|ax h fun v8 e2 h=>aH J (kJ e2) cR J<|ae.qv (VQ J J) J<|rA J J<|rN<|ab.bX<|tR<|ae.qv (bf J J) J<|rM J J<|rN<|ab.stop<|?_
   cases h
   exact im _ _ J<|aj.lq [] J J J
  ·refine ab.exit J<|have h:=bx h dN;az<|rM J J<|ae.qv (bf J J) J<|rA J J<|rN<|ab.ret<|?_
   cases h
   exact hP J J
theorem MZ [GI:bD]:∀ (k:Nat) {aa:Query} {r:Int},sq k aa=some r→Pu Tryz.prog 151 [.agg [I aa.Kind,.str aa.Field,.str aa.Op,I aa.Value.Kind,.bool aa.Value.ch,I aa.Value.Number,.str aa.Value.Words,I aa.Version.bP,I aa.Version.bQ,I aa.Version.bL,pb aa.Kids]] (I r):=by
 intro k
 induction k with
 | zero=>intro aa r h;cases h
 | succ k ih=>intro aa r h;exact Lf ih h
theorem Se [GI:bD] {aa:Query} {r:Int} (h:MT aa=some r):Pu Tryz.prog 151 [.agg [I aa.Kind,.str aa.Field,.str aa.Op,I aa.Value.Kind,.bool aa.Value.ch,I aa.Value.Number,.str aa.Value.Words,I aa.Version.bP,I aa.Version.bQ,I aa.Version.bL,pb aa.Kids]] (I r):=MZ depth h
theorem Eo [GI:bD] {aa:Query} {ak:Query} {r:Bool} (h:tT aa ak=r):Pu Tryz.prog 233 [.agg [I aa.Kind,.str aa.Field,.str aa.Op,I aa.Value.Kind,.bool aa.Value.ch,I aa.Value.Number,.str aa.Value.Words,I aa.Version.bP,I aa.Version.bQ,I aa.Version.bL,pb aa.Kids],.mG [I ak.Kind,.str ak.Field,.str ak.Op,I ak.Value.Kind,.bool ak.Value.ch,I ak.Value.Number,.str ak.Value.Words,I ak.Version.bP,I ak.Version.bQ,I ak.Version.bL,pb ak.Kids]] (.bool r):=by
 unfold tT at h
 refine aI.aZ Tryz.func233 J Tryz.ntmps233 Tryz.results233 J J ?_
 refine az<|cJ J J J J fun b1=>rA J J<|rN<|az<|rF J J J<|rL J J .p0 J J<|ae.qv (bY J J) J<|ae.qv (aJ J J J) J<|ae.qv (cx J J) J<|rA J J<|rN<|ab.ret<|?_
 obtain rfl:=h
 exact hP J J
theorem Ep {aa:ai} {r:Bool} (h:ql aa=some r):Pu Tryz.prog 157 [.str aa] (.bool r):=by
 unfold ql at h
 refine aI.aZ Tryz.func157 J Tryz.ntmps157 Tryz.results157 J J ?_
 refine az<|rA J J<|rN<|az<|rM J J<|ax h fun v1 e1 h=>aH J (qN e1) cR J<|ae.qv (bF J) J<|rA J J<|rN<|ab.ret<|?_
 cases h
 exact hP J J
theorem Cn {aa:ai} {r:Bool} (h:te aa=some r):Pu Tryz.prog 79 [.str aa] (.bool r):=by
 unfold te at h
 refine aI.aZ Tryz.func79 J Tryz.ntmps79 Tryz.results79 J J ?_
 refine az<|rA J J<|rN<|az<|rM J J<|ax h fun v1 e1 h=>fV J (uG e1) cR .nil (fun _=>J) J fun b2=>rA J J<|rN<|tS<|ab.cut (fun aE=>∃ (c3:Bool),nR c3=some r∧aE=⟨19,[(2,.bool c3)],[]⟩) ?_ ?_
 ·refine tR<|rM J J<|ae.qv (eS J) J<|ae.qv (sS J J) J<|rM J J<|gT h J J J (fun h=>?_) (fun h=>?_)
  ·refine rM J J<|rY J J J<|ae.qv (iu J) J<|rY J J J<|ae.qv (sS J J) J<|rT J J J<|rM J J<|gT h J J J (fun h=>?_) (fun h=>?_)
   ·exact rM J J<|rY J J J<|ax h fun v4 e2 h=>eF J (bV (fun e=>Ep e) e2) (.cons (w7.wN .p0) (.cons (.xf _ _ _ .nil) .nil)) J J<|rY J J J<|ae.qv (bF J) J<|rT J J J<|rA J J<|rN<|ab.stop<|aj.lq [] ⟨!v4,h,J⟩ J J
   ·exact rG J J J J<|rG J J J J<|rE J J J<|rA J J<|rN<|ab.stop<|aj.lq [] ⟨false,h,J⟩ J J
  ·exact rG J J J J<|rG J J J J<|rE J J J<|rM J J<|rG J J J J<|rG J J J J<|rG J J J J<|rE J J J<|rA J J<|rN<|ab.stop<|aj.lq [] ⟨false,h,J⟩ J J
 ·rintro aE ⟨c3,h,rfl⟩
  unfold nR at h
  refine ab.ret<|?_
  cases h
  exact hP J J
theorem FZ {aa:ai} {ak:Bool} {r:Bool} (h:sr aa ak=some r):Pu Tryz.prog 297 [.str aa,.bool ak] (.bool r):=by
 unfold sr at h
 refine aI.aZ Tryz.func297 J Tryz.ntmps297 Tryz.results297 J J ?_
 refine az<|rA J J<|rN<|tS<|az<|rM J J<|ax h fun v1 e1 h=>aH J (jA e1) cR J<|rM J J<|rX J J J<|rX J J J<|rA J J<|rA J J<|rN<|tS<|ab.cut (fun aE=>∃ (c2:Bool),kO aa ak c2=some r∧aE=⟨36,[(0,.str aa),(1,.bool ak),(18,.bool c2)],[]⟩) ?_ ?_
 ·refine tR<|rM J J<|rM J J<|ae.guard J J J (fun hc=>?_) (fun hc=>?_)
  ·exact have h:=hZ hc h;rM J J<|rY J J J<|ax h fun v3 e2 h=>aH J (qN e2) cR J<|rT J J J<|rN<|ab.stop<|aj.lq [] ⟨v3,h,J⟩ J J
  ·exact have h:=ir hc h;rG J J J J<|rE J J J<|rN<|ab.stop<|aj.lq [] ⟨false,h,J⟩ J J
 ·rintro aE ⟨c2,h,rfl⟩
  unfold kO at h
  refine cB h J (fun h=>?_) (fun h=>?_)
  ·refine az<|rA J J<|rN<|ab.ret<|?_
   cases h
   exact hP J J
  ·refine tK<|tS<|az<|rM J J<|ax h fun v4 e3 h=>aH J (jA e3) cR J<|rM J J<|rX J J J<|rX J J J<|rA J J<|rA J J<|rN<|tS<|ab.cut (fun aE=>∃ (c5:Bool),kN aa ak c5=some r∧aE=⟨36,[(0,.str aa),(1,.bool ak),(28,.bool c5)],[]⟩) ?_ ?_
   ·refine tR<|rM J J<|rM J J<|ae.guard J J J (fun hc=>?_) (fun hc=>?_)
    ·exact have h:=hZ hc h;rM J J<|rY J J J<|ax h fun v6 e4 h=>aH J (Cn e4) cR J<|rT J J J<|rN<|ab.stop<|aj.lq [] ⟨v6,h,J⟩ J J
    ·exact have h:=ir hc h;rG J J J J<|rE J J J<|rN<|ab.stop<|aj.lq [] ⟨false,h,J⟩ J J
   ·rintro aE ⟨c5,h,rfl⟩
    unfold kN at h
    refine cB h J (fun h=>?_) (fun h=>?_)
    ·refine az<|rA J J<|rN<|ab.ret<|?_
     cases h
     exact hP J J
    ·refine tK<|tS<|ab.cut (fun aE=>∃ (c7:Bool),nB c7=some r∧aE=⟨36,[(4,.bool c7)],[]⟩) ?_ ?_
     ·refine tR<|rM J J<|ae.qv (bF J) J<|rM J J<|ae.guard J J J (fun hc=>?_) (fun hc=>?_)
      ·exact have h:=hZ hc h;aF (xs:=([([107,101,121]:ai),([109,111,100,101,108]:ai),([116,101,110,97,110,116]:ai),([102,105,114,109,119,97,114,101]:ai)]).map AV.str) J J J J J J<|rY J J J<|rM J J<|rY J J J<|ax h fun v8 e5 h=>aH J (bt e5) cR J<|rT J J J<|rA J J<|rN<|ab.stop<|aj.lq [] ⟨v8,h,J⟩ J J
      ·exact have h:=ir hc h;rG J J J J<|rG J J J J<|rE J J J<|rA J J<|rN<|ab.stop<|aj.lq [] ⟨false,h,J⟩ J J
     ·rintro aE ⟨c7,h,rfl⟩
      unfold nB at h
      refine ab.ret<|?_
      cases h
      exact hP J J
theorem xA [GI:bD] {aa:Version} {r:Bool} (h:kD aa=r):Pu Tryz.prog 77 [Version.av aa] (.bool r):=by
 unfold kD at h
 refine aI.aZ Tryz.func77 J Tryz.ntmps77 Tryz.results77 J J ?_
 refine az<|cJ J J J J fun b1=>rA J J<|rN<|tS<|ab.cut (fun aE=>∃ (c2:Bool),oC c2=r∧aE=⟨16,[(2,.bool c2)],[]⟩) ?_ ?_
 ·refine tR<|rF J J J<|rL J J .p0 J J<|aH J (yd J) cR J<|rM J J<|ae.guard J J J (fun hc=>?_) (fun hc=>?_)
  ·rw [AD hc] at h
   refine rF J J J<|rY J J J<|rL J J .p0 J J<|rY J J J<|aH J (yd J) cR J<|rT J J J<|rM J J<|ae.guard J J J (fun hc=>?_) (fun hc=>?_)
   ·rw [AD hc] at h
    exact rF J J J<|rY J J J<|rL J J .p0 J J<|rY J J J<|aH J (yd J) cR J<|rT J J J<|rA J J<|rN<|ab.stop<|aj.lq [] ⟨(yH aa.bL (0:Int) (9999:Int)),h,J⟩ J J
   ·rw [AE hc] at h
    exact rG J J J J<|rG J J J J<|rE J J J<|rA J J<|rN<|ab.stop<|aj.lq [] ⟨false,h,J⟩ J J
  ·rw [AE hc] at h
   exact rG J J J J<|rG J J J J<|rE J J J<|rM J J<|rG J J J J<|rG J J J J<|rG J J J J<|rE J J J<|rA J J<|rN<|ab.stop<|aj.lq [] ⟨false,h,J⟩ J J
 ·rintro aE ⟨c2,h,rfl⟩
  unfold oC at h
  refine ab.ret<|?_
  obtain rfl:=h
  exact hP J J
theorem zo {aa:bg} {r:Bool} (h:pE aa=some r):Pu Tryz.prog 80 [bg.av aa] (.bool r):=by
 unfold pE at h
 refine aI.aZ Tryz.func80 J Tryz.ntmps80 Tryz.results80 J J ?_
 refine az<|cJ J J J J fun b1=>rA J J<|rN<|az<|rF J J J<|rL J J .p0 J J<|rF J J J<|rL J J .p0 J J<|ae.qv (ei J J) J<|rF J J J<|rL J J .p0 J J<|ae.qv (ud J J) J<|aF (xs:=([aa.ch,decide (aa.Number≠(0:Int)),decide (aa.Words≠([]:ai))]).map AV.bool) J J J J J J<|rA J J<|rN<|tS<|az<|rM J J<|ae.qv (bB J) J<|rM J J<|rN<|ab.block<|ab.bO (fun x:Int=>bZ aa x) (fun x aE=>aE=⟨50,[(1,.ptr b1 0),(15,aaM [aa.ch,decide (aa.Number≠(0:Int)),decide (aa.Words≠([]:ai))]),(16,I ([aa.ch,decide (aa.Number≠(0:Int)),decide (aa.Words≠([]:ai))].length:Int)),(17,I x)],[(b1,.cells [I aa.Kind,.bool aa.ch,I aa.Number,.str aa.Words])]⟩) h ?_ ?_
 ·exact aj.lq [0] J J J
 ·intro n3 z1 aE J1 dh h im dN
  obtain rfl:=dh
  replace h:bZ aa n3=some z1:=h
  unfold bZ at h
  refine az<|ae.qv (br J J) J<|rN<|tS<|cD h J (fun h=>?_) (fun h=>?_)
  ·refine tK<|tS<|ab.block<|az<|rM J J<|ax h fun v4 e1 h=>ae.qv (aS J J J e1 J J) J<|ae.qv (aJ J J J) J<|rA J J<|rA J J<|rN<|tS<|ab.cut (fun aE=>∃ (c5:Bool),kP n3 c5=some z1∧aE=⟨50,[(1,.ptr b1 0),(15,aaM [aa.ch,decide (aa.Number≠(0:Int)),decide (aa.Words≠([]:ai))]),(16,I ([aa.ch,decide (aa.Number≠(0:Int)),decide (aa.Words≠([]:ai))].length:Int)),(17,I n3),(29,.bool c5)],[(b1,.cells [I aa.Kind,.bool aa.ch,I aa.Number,.str aa.Words])]⟩) ?_ ?_
   ·refine tR<|rM J J<|rM J J<|ae.guard J J J (fun hc=>?_) (fun hc=>?_)
    ·rw [AD hc] at h
     exact rF J J J<|rY J J J<|rL J J .p0 J J<|rY J J J<|rM J J<|rY J J J<|ae.qv (bf J J) J<|rY J J J<|ae.qv (ei J J) J<|rT J J J<|rN<|ab.stop<|aj.lq [0] ⟨decide (aa.Kind≠(cd (n3+(1:Int)))),h,J⟩ J J
    ·rw [AE hc] at h
     exact rG J J J J<|rG J J J J<|rG J J J J<|rG J J J J<|rE J J J<|rN<|ab.stop<|aj.lq [0] ⟨false,h,J⟩ J J
   ·rintro aE ⟨c5,h,rfl⟩
    unfold kP at h
    refine cB h J (fun h=>?_) (fun h=>?_)
    ·refine az<|rA J J<|rN<|ab.ret<|have h:=bx h dN;?_
     cases h
     exact hP J J
    ·refine tK<|ab.bX<|tR<|ae.qv (bf J J) J<|rM J J<|rN<|ab.stop<|?_
     cases h
     exact im _ _ J<|aj.lq [0] J J J
  ·refine ab.exit J<|have h:=bx h dN;?_
   unfold jr at h
   refine tS<|ab.cut (fun aE=>∃ (c6:Bool),kQ c6=some r∧aE=⟨50,[(2,.bool c6)],[]⟩) ?_ ?_
   ·refine tR<|rF J J J<|rL J J .p0 J J<|aH J (yd J) cR J<|rM J J<|ae.guard J J J (fun hc=>?_) (fun hc=>?_)
    ·refine have h:=hZ hc h;rF J J J<|rY J J J<|rL J J .p0 J J<|rY J J J<|aH J (yd J) cR J<|rT J J J<|rM J J<|ae.guard J J J (fun hc=>?_) (fun hc=>?_)
     ·refine have h:=hZ hc h;rF J J J<|rY J J J<|rL J J .p0 J J<|rY J J J<|ax h fun v7 e2 h=>aH J (mN e2) cR J<|rT J J J<|rM J J<|ae.guard J J J (fun hc=>?_) (fun hc=>?_)
      ·rw [AD hc] at h
       exact rF J J J<|rY J J J<|rL J J .p0 J J<|rY J J J<|ae.qv (eS J) J<|rY J J J<|ae.qv (sS J J) J<|rT J J J<|rA J J<|rN<|ab.stop<|aj.lq [] ⟨decide ((aa.Words.length:Int)≤(100:Int)),h,J⟩ J J
      ·rw [AE hc] at h
       exact rG J J J J<|rG J J J J<|rG J J J J<|rE J J J<|rA J J<|rN<|ab.stop<|aj.lq [] ⟨false,h,J⟩ J J
     ·exact have h:=ir hc h;rG J J J J<|rG J J J J<|rE J J J<|rM J J<|rG J J J J<|rG J J J J<|rG J J J J<|rG J J J J<|rE J J J<|rA J J<|rN<|ab.stop<|aj.lq [] ⟨false,h,J⟩ J J
    ·exact have h:=ir hc h;rG J J J J<|rG J J J J<|rE J J J<|rM J J<|rG J J J J<|rG J J J J<|rG J J J J<|rE J J J<|rM J J<|rG J J J J<|rG J J J J<|rG J J J J<|rG J J J J<|rE J J J<|rA J J<|rN<|ab.stop<|aj.lq [] ⟨false,h,J⟩ J J
   ·rintro aE ⟨c6,h,rfl⟩
    unfold kQ at h
    refine ab.ret<|?_
    cases h
    exact hP J J
theorem Lg {aa:Query} {r:Int} (h:nT aa=some r):Pu Tryz.prog 234 [.agg [I aa.Kind,.str aa.Field,.str aa.Op,I aa.Value.Kind,.bool aa.Value.ch,I aa.Value.Number,.str aa.Value.Words,I aa.Version.bP,I aa.Version.bQ,I aa.Version.bL,pb aa.Kids]] (I r):=by
 unfold nT at h
 refine aI.aZ Tryz.func234 J Tryz.ntmps234 Tryz.results234 J J ?_
 refine az<|cJ J J J J fun b1=>rA J J<|rN<|az<|rF J J J<|rL J J .p0 J J<|ae.qv (cx J J) J<|rA J J<|rN<|tS<|az<|rF J J J<|rL J J .p0 J J<|rM J J<|ax h fun v2 e1 h=>aH J (FZ e1) cR J<|ae.qv (bF J) J<|rN<|cB h J (fun h=>?_) (fun h=>?_)
 ·refine az<|rA J J<|rN<|ab.ret<|?_
  cases h
  exact hP J J
 ·refine tK<|tS<|az<|rM J J<|rN<|cD h J (fun h=>?_) (fun h=>?_)
  ·refine az<|rA J J<|rN<|ab.ret<|?_
   cases h
   exact hP J J
  ·refine tK<|tS<|ab.cut (fun aE=>∃ (c3:Bool),u5 aa c3=some r∧aE=⟨82,[(1,.ptr b1 0),(4,.bool c3)],[(b1,.cells (xL aa))]⟩) ?_ ?_
   ·refine tR<|rF J J J<|rL J J .p0 J J<|ae.qv (fC J J) J<|rM J J<|ae.dC J J J (fun hc=>?_) (fun hc=>?_)
    ·rw [yW hc] at h
     exact rF J J J<|rY J J J<|rL J J .p0 J J<|rY J J J<|ae.qv (fC J J) J<|rE J J J<|rA J J<|rN<|ab.stop<|aj.lq [0] ⟨decide (aa.Op=([33,61]:ai)),h,J⟩ J J
    ·rw [yV hc] at h
     exact rG J J J J<|rG J J J J<|rT J J J<|rA J J<|rN<|ab.stop<|aj.lq [0] ⟨true,h,J⟩ J J
   ·rintro aE ⟨c3,h,rfl⟩
    unfold u5 at h
    refine tS<|az<|rF J J J<|rL J J .p0 J J<|ae.qv (fC J J) J<|rA J J<|rN<|ab.block<|tS<|ab.cA (id:=8) (A:=[0,0,2,7,15,31]) 6 mixed J (by kernel_rfl) (by kernel_rfl)<|AM.cT J (Ja J) cR J<|AM.qv (ar J J) J<|AM.qv (aD J J .p0 J) J<|ax h fun v4 e2 h=>AM.cT J (bt e2) cR J<|AM.qv (bF J) J<|AM.qv (bR J) J<|AM.nil<|rN<|cB h J (fun h=>?_) (fun h=>?_)
    ·refine az<|rA J J<|rN<|ab.ret<|?_
     cases h
     exact hP J J
    ·refine tS<|ab.cut (fun aE=>∃ (c5:Bool),u4 aa c3 c5=some r∧aE=⟨82,[(1,.ptr b1 0),(4,.bool c3),(5,.bool (decide (aa.Field=([102,105,114,109,119,97,114,101]:ai)))),(32,.bool c5)],[(b1,.cells (xL aa))]⟩) ?_ ?_
     ·refine tR<|rM J J<|rM J J<|ae.cq J J J (fun hc=>?_) (fun hc=>?_)
      ·rw [rQ hc] at h
       exact rF J J J<|rY J J J<|ae.qv (aY J J .p0 J J) J<|rY J J J<|ae.qv (bq J J J J J) J<|rY J J J<|ae.qv (AF (g:=bg.av) (X:=aa.Value) (Y:=(⟨(0:Int),false,(0:Int),[]⟩:bg)) J J J J J) J<|rT J J J<|rA J J<|rN<|ab.stop<|aj.lq [0] ⟨decide (aa.Value≠(⟨(0:Int),false,(0:Int),[]⟩:bg)),h,J⟩ J J
      ·rw [rR hc] at h
       exact rG J J J J<|rG J J J J<|rG J J J J<|rE J J J<|rA J J<|rN<|ab.stop<|aj.lq [0] ⟨false,h,J⟩ J J
     ·rintro aE ⟨c5,h,rfl⟩
      unfold u4 at h
      refine cB h J (fun h=>?_) (fun h=>?_)
      ·refine az<|rA J J<|rN<|ab.ret<|?_
       cases h
       exact hP J J
      ·refine tS<|ab.cut (fun aE=>∃ (c6:Bool),uZ aa c3 c6=some r∧aE=⟨82,[(1,.ptr b1 0),(4,.bool c3),(5,.bool (decide (aa.Field=([102,105,114,109,119,97,114,101]:ai)))),(40,.bool c6)],[(b1,.cells (xL aa))]⟩) ?_ ?_
       ·refine tR<|rM J J<|rM J J<|ae.cq J J J (fun hc=>?_) (fun hc=>?_)
        ·rw [rQ hc] at h
         exact rF J J J<|rY J J J<|ae.qv (aY J J .p0 J J) J<|rY J J J<|aH J (xA J) cR J<|rY J J J<|ae.qv (bF J) J<|rT J J J<|rA J J<|rN<|ab.stop<|aj.lq [0] ⟨!(kD aa.Version),h,J⟩ J J
        ·rw [rR hc] at h
         exact rG J J J J<|rG J J J J<|rG J J J J<|rE J J J<|rA J J<|rN<|ab.stop<|aj.lq [0] ⟨false,h,J⟩ J J
       ·rintro aE ⟨c6,h,rfl⟩
        unfold uZ at h
        refine cB h J (fun h=>?_) (fun h=>?_)
        ·refine az<|rA J J<|rN<|ab.ret<|?_
         cases h
         exact hP J J
        ·refine az<|rM J J<|rA J J<|rN<|cD h J (fun h=>?_) (fun h=>?_)
         ·refine az<|rA J J<|rN<|ab.ret<|?_
          cases h
          exact hP J J
         ·refine tS<|az<|rF J J J<|ae.qv (aY J J .p0 J J) J<|ae.qv (bq J J J J J) J<|ae.qv (AF (g:=Version.av) (X:=aa.Version) (Y:=(⟨(0:Int),(0:Int),(0:Int)⟩:Version)) J J J J J) J<|rA J J<|rN<|ab.cut (fun aE=>∃ (c7:Bool),pH aa c3 c7=some r∧aE=⟨82,[(1,.ptr b1 0),(4,.bool c3),(50,.bool c7)],[(b1,.cells (xL aa))]⟩) ?_ ?_
          ·refine cD h J (fun h=>?_) (fun h=>?_)
           ·exact tK<|ab.stop<|aj.lq [0] ⟨decide (aa.Version≠(⟨(0:Int),(0:Int),(0:Int)⟩:Version)),h,J⟩ J J
           ·refine az<|rF J J J<|ae.qv (aY J J .p0 J J) J<|ax h fun v8 e3 h=>aH J (zo e3) cR J<|ae.qv (bF J) J<|rA J J<|rN<|ab.cut (fun aE=>∃ (c9:Bool),su aa c3 c9=some r∧aE=⟨82,[(1,.ptr b1 0),(4,.bool c3),(50,.bool c9)],[(b1,.cells (xL aa))]⟩) ?_ ?_
            ·refine cB h J (fun h=>?_) (fun h=>?_)
             ·exact tK<|ab.stop<|aj.lq [0] ⟨!v8,h,J⟩ J J
             ·exact tR<|rF J J J<|rF J J J<|rL J J .p0 J J<|ae.qv (cx J J) J<|rA J J<|rN<|ab.stop<|aj.lq [0] ⟨decide (aa.Value.Kind=(0:Int)),h,J⟩ J J
            ·rintro aE ⟨c9,h,rfl⟩
             unfold su at h
             exact ab.stop<|aj.lq [0] ⟨c9,h,J⟩ J J
          ·rintro aE ⟨c7,h,rfl⟩
           unfold pH at h
           refine cB h J (fun h=>?_) (fun h=>?_)
           ·refine az<|rA J J<|rN<|ab.ret<|?_
            cases h
            exact hP J J
           ·refine tS<|tS<|ab.cut (fun aE=>∃ (GY:Bool),pG aa c3 GY=some r∧aE=⟨82,[(1,.ptr b1 0),(4,.bool c3),(63,.bool GY)],[(b1,.cells (xL aa))]⟩) ?_ ?_
            ·refine tR<|rF J J J<|rF J J J<|rL J J .p0 J J<|ae.qv (ei J J) J<|rM J J<|gT h J J J (fun h=>?_) (fun h=>?_)
             ·exact rF J J J<|rY J J J<|rL J J .p0 J J<|rY J J J<|ax h fun v11 e4 h=>aH J (lY e4) cR J<|rY J J J<|ae.qv (bF J) J<|rT J J J<|rA J J<|rN<|ab.stop<|aj.lq [0] ⟨!v11,h,J⟩ J J
             ·exact rG J J J J<|rG J J J J<|rG J J J J<|rE J J J<|rA J J<|rN<|ab.stop<|aj.lq [0] ⟨false,h,J⟩ J J
            ·rintro aE ⟨GY,h,rfl⟩
             unfold pG at h
             refine ab.cut (fun aE=>∃ (c12:Bool),pF c12=some r∧aE=⟨82,[(63,.bool c12)],[]⟩) ?_ ?_
             ·refine cB h J (fun h=>?_) (fun h=>?_)
              ·exact tK<|ab.stop<|aj.lq [] ⟨GY,h,J⟩ J J
              ·refine ab.cut (fun aE=>∃ (D8:Bool),uY D8=some r∧aE=⟨82,[(63,.bool D8)],[]⟩) ?_ ?_
               ·refine tR<|rF J J J<|rF J J J<|rL J J .p0 J J<|ae.qv (ei J J) J<|rM J J<|ae.cq J J J (fun hc=>?_) (fun hc=>?_)
                ·rw [rQ hc] at h
                 exact rM J J<|rY J J J<|ae.qv (bF J) J<|rT J J J<|rA J J<|rN<|ab.stop<|aj.lq [] ⟨!c3,h,J⟩ J J
                ·rw [rR hc] at h
                 exact rG J J J J<|rE J J J<|rA J J<|rN<|ab.stop<|aj.lq [] ⟨false,h,J⟩ J J
               ·rintro aE ⟨D8,h,rfl⟩
                unfold uY at h
                exact ab.stop<|aj.lq [] ⟨D8,h,J⟩ J J
             ·rintro aE ⟨c12,h,rfl⟩
              unfold pF at h
              refine cB h J (fun h=>?_) (fun h=>?_)
              ·refine az<|rA J J<|rN<|ab.ret<|?_
               cases h
               exact hP J J
              ·refine tK<|ab.bX<|az<|rA J J<|rN<|ab.ret<|?_
               cases h
               exact hP J J
theorem Er {self:Query→Option Int} (kJ:∀ {aa:Query} {r:Int},self aa=some r→Pu Tryz.prog 152 [.agg [I aa.Kind,.str aa.Field,.str aa.Op,I aa.Value.Kind,.bool aa.Value.ch,I aa.Value.Number,.str aa.Value.Words,I aa.Version.bP,I aa.Version.bQ,I aa.Version.bL,pb aa.Kids]] (I r)) {aa:Query} {r:Int} (h:nW self aa=some r):Pu Tryz.prog 152 [.agg [I aa.Kind,.str aa.Field,.str aa.Op,I aa.Value.Kind,.bool aa.Value.ch,I aa.Value.Number,.str aa.Value.Words,I aa.Version.bP,I aa.Version.bQ,I aa.Version.bL,pb aa.Kids]] (I r):=by
 unfold nW at h
 refine aI.aZ Tryz.func152 J Tryz.ntmps152 Tryz.results152 J J ?_
 refine az<|cJ J J J J fun b1=>rA J J<|rN<|tS<|az<|rF J J J<|rL J J .p0 J J<|aH J (yd J) cR J<|ae.qv (bF J) J<|rN<|cB h J (fun h=>?_) (fun h=>?_)
 ·refine az<|rA J J<|rN<|ab.ret<|?_
  cases h
  exact hP J J
 ·refine tK<|az<|rF J J J<|rL J J .p0 J J<|ae.qv (bB J) J<|rA J J<|rN<|tS<|ab.cut (fun aE=>∃ (c2:Bool),qo self aa c2=some r∧aE=⟨98,[(1,.ptr b1 0),(3,I (aa.Kids.length:Int)),(4,.bool c2)],[(b1,.cells (xL aa))]⟩) ?_ ?_
  ·refine tR<|rF J J J<|rL J J .p0 J J<|ae.qv (cx J J) J<|rM J J<|ae.dC J J J (fun hc=>?_) (fun hc=>?_)
   ·rw [yW hc] at h
    exact rF J J J<|rY J J J<|rL J J .p0 J J<|rY J J J<|ae.qv (cx J J) J<|rE J J J<|rA J J<|rN<|ab.stop<|aj.lq [0] ⟨decide (aa.Kind=(5:Int)),h,J⟩ J J
   ·rw [yV hc] at h
    exact rG J J J J<|rG J J J J<|rT J J J<|rA J J<|rN<|ab.stop<|aj.lq [0] ⟨true,h,J⟩ J J
  ·rintro aE ⟨c2,h,rfl⟩
   unfold qo at h
   refine tS<|ab.block<|tS<|tS<|ab.cut (fun aE=>∃ (c3:Bool),tW self aa c2 c3=some r∧aE=⟨98,[(1,.ptr b1 0),(3,I (aa.Kids.length:Int)),(4,.bool c2),(23,.bool c3)],[(b1,.cells (xL aa))]⟩) ?_ ?_
   ·refine tR<|rF J J J<|rL J J .p0 J J<|ae.qv (sS J J) J<|rM J J<|ae.cq J J J (fun hc=>?_) (fun hc=>?_)
    ·rw [rQ hc] at h
     exact rM J J<|rY J J J<|ae.qv (cS J J) J<|rT J J J<|rA J J<|rN<|ab.stop<|aj.lq [0] ⟨decide ((0:Int) < (aa.Kids.length:Int)),h,J⟩ J J
    ·rw [rR hc] at h
     exact rG J J J J<|rE J J J<|rA J J<|rN<|ab.stop<|aj.lq [0] ⟨false,h,J⟩ J J
   ·rintro aE ⟨c3,h,rfl⟩
    unfold tW at h
    refine ab.cut (fun aE=>∃ (c4:Bool),nV self aa c2 c4=some r∧aE=⟨98,[(1,.ptr b1 0),(4,.bool c2),(23,.bool c4)],[(b1,.cells (xL aa))]⟩) ?_ ?_
    ·refine cB h J (fun h=>?_) (fun h=>?_)
     ·exact tK<|ab.stop<|aj.lq [0] ⟨c3,h,J⟩ J J
     ·refine tS<|ab.cut (fun aE=>∃ (c5:Bool),tV self aa c2 c5=some r∧aE=⟨98,[(1,.ptr b1 0),(3,I (aa.Kids.length:Int)),(4,.bool c2),(23,.bool c5)],[(b1,.cells (xL aa))]⟩) ?_ ?_
      ·refine tR<|rF J J J<|rL J J .p0 J J<|ae.qv (cx J J) J<|rM J J<|ae.cq J J J (fun hc=>?_) (fun hc=>?_)
       ·rw [rQ hc] at h
        exact rM J J<|rY J J J<|ae.qv (ei J J) J<|rT J J J<|rA J J<|rN<|ab.stop<|aj.lq [0] ⟨decide ((aa.Kids.length:Int)≠(1:Int)),h,J⟩ J J
       ·rw [rR hc] at h
        exact rG J J J J<|rE J J J<|rA J J<|rN<|ab.stop<|aj.lq [0] ⟨false,h,J⟩ J J
      ·rintro aE ⟨c5,h,rfl⟩
       unfold tV at h
       refine ab.cut (fun aE=>∃ (c6:Bool),qn self aa c2 c6=some r∧aE=⟨98,[(1,.ptr b1 0),(4,.bool c2),(23,.bool c6)],[(b1,.cells (xL aa))]⟩) ?_ ?_
       ·refine cB h J (fun h=>?_) (fun h=>?_)
        ·exact tK<|ab.stop<|aj.lq [0] ⟨c5,h,J⟩ J J
        ·refine ab.cut (fun aE=>∃ (c7:Bool),tU self aa c2 c7=some r∧aE=⟨98,[(1,.ptr b1 0),(4,.bool c2),(23,.bool c7)],[(b1,.cells (xL aa))]⟩) ?_ ?_
         ·refine tR<|rM J J<|rM J J<|ae.guard J J J (fun hc=>?_) (fun hc=>?_)
          ·rw [AD hc] at h
           exact rM J J<|rY J J J<|ae.qv (br J J) J<|rT J J J<|rA J J<|rN<|ab.stop<|aj.lq [0] ⟨decide ((aa.Kids.length:Int) < (2:Int)),h,J⟩ J J
          ·rw [AE hc] at h
           exact rG J J J J<|rE J J J<|rA J J<|rN<|ab.stop<|aj.lq [0] ⟨false,h,J⟩ J J
         ·rintro aE ⟨c7,h,rfl⟩
          unfold tU at h
          exact ab.stop<|aj.lq [0] ⟨c7,h,J⟩ J J
       ·rintro aE ⟨c6,h,rfl⟩
        unfold qn at h
        exact ab.stop<|aj.lq [0] ⟨c6,h,J⟩ J J
    ·rintro aE ⟨c4,h,rfl⟩
     unfold nV at h
     refine cB h J (fun h=>?_) (fun h=>?_)
     ·refine az<|rA J J<|rN<|ab.ret<|?_
      cases h
      exact hP J J
     ·refine tS<|ab.cut (fun aE=>∃ (c8:Bool),jO self aa c8=some r∧aE=⟨98,[(1,.ptr b1 0),(43,.bool c8)],[(b1,.cells (xL aa))]⟩) ?_ ?_
      ·refine tR<|rM J J<|rM J J<|ae.guard J J J (fun hc=>?_) (fun hc=>?_)
       ·exact have h:=hZ hc h;rF J J J<|rY J J J<|rL J J .p0 J J<|rY J J J<|ae.qv (iv J) J<|rY J J J<|ax h fun v9 e1 h=>eF J (gx (fun e=>Eo (Option.some.inj e)) e1) (.cons (.co (.refl _)) (.cons (.xf _ _ _ (.cons (.BM _ _ _ .p0 (.cons (.co (.refl _)) (.cons (.co (.refl _)) (.cons (.co (.refl _)) (.cons (.co (.refl _)) (.cons (.co (.refl _)) (.cons (.co (.refl _)) (.cons (.co (.refl _)) (.cons (.co (.refl _)) (.cons (.co (.refl _)) (.cons (.co (.refl _)) (.cons (.co (.refl _)) .nil)))))))))))) .nil)) .nil)) J J<|rT J J J<|rA J J<|rN<|ab.stop<|aj.lq [0] ⟨v9,h,J⟩ J J
       ·exact have h:=ir hc h;rG J J J J<|rG J J J J<|rG J J J J<|rE J J J<|rA J J<|rN<|ab.stop<|aj.lq [0] ⟨false,h,J⟩ J J
      ·rintro aE ⟨c8,h,rfl⟩
       unfold jO at h
       refine cB h J (fun h=>?_) (fun h=>?_)
       ·refine az<|rA J J<|rN<|ab.ret<|?_
        cases h
        exact hP J J
       ·refine tS<|tS<|ab.cut (fun aE=>∃ (GY:Bool),qm self aa GY=some r∧aE=⟨98,[(1,.ptr b1 0),(51,.bool GY)],[(b1,.cells (xL aa))]⟩) ?_ ?_
        ·refine tR<|rF J J J<|rL J J .p0 J J<|ae.qv (ei J J) J<|rM J J<|ae.cq J J J (fun hc=>?_) (fun hc=>?_)
         ·rw [rQ hc] at h
          refine rF J J J<|rY J J J<|rL J J .p0 J J<|rY J J J<|ae.qv (ud J J) J<|rY J J J<|rM J J<|ae.dC J J J (fun hc=>?_) (fun hc=>?_)
          ·rw [yW hc] at h
           refine rF J J J<|rY J J J<|ae.qv (aY J J .p0 J J) J<|rY J J J<|ae.qv (bq J J J J J) J<|rY J J J<|ae.qv (AF (g:=bg.av) (X:=aa.Value) (Y:=(⟨(0:Int),false,(0:Int),[]⟩:bg)) J J J J J) J<|rY J J J<|rE J J J<|rY J J J<|rM J J<|ae.dC J J J (fun hc=>?_) (fun hc=>?_)
           ·rw [yW hc] at h
            exact rF J J J<|rY J J J<|ae.qv (aY J J .p0 J J) J<|rY J J J<|ae.qv (bq J J J J J) J<|rY J J J<|ae.qv (AF (g:=Version.av) (X:=aa.Version) (Y:=(⟨(0:Int),(0:Int),(0:Int)⟩:Version)) J J J J J) J<|rY J J J<|rE J J J<|rT J J J<|rA J J<|rN<|ab.stop<|aj.lq [0] ⟨decide (aa.Version≠(⟨(0:Int),(0:Int),(0:Int)⟩:Version)),h,J⟩ J J
           ·rw [yV hc] at h
            exact rG J J J J<|rG J J J J<|rG J J J J<|rY J J J<|rT J J J<|rT J J J<|rA J J<|rN<|ab.stop<|aj.lq [0] ⟨true,h,J⟩ J J
          ·rw [yV hc] at h
           exact rG J J J J<|rG J J J J<|rG J J J J<|rY J J J<|rT J J J<|rY J J J<|rM J J<|rG J J J J<|rG J J J J<|rG J J J J<|rG J J J J<|rY J J J<|rT J J J<|rT J J J<|rA J J<|rN<|ab.stop<|aj.lq [0] ⟨true,h,J⟩ J J
         ·rw [rR hc] at h
          exact rG J J J J<|rG J J J J<|rG J J J J<|ae.bz J J J<|ae.bz J J J<|ae.bz J J J<|ae.bz J J J<|rG J J J J<|rG J J J J<|ae.bz J J J<|ae.bz J J J<|ae.bz J J J<|ae.bz J J J<|rG J J J J<|rE J J J<|rA J J<|rN<|ab.stop<|aj.lq [0] ⟨false,h,J⟩ J J
        ·rintro aE ⟨GY,h,rfl⟩
         unfold qm at h
         refine ab.cut (fun aE=>∃ (FG:Bool),nU self aa FG=some r∧aE=⟨98,[(1,.ptr b1 0),(51,.bool FG)],[(b1,.cells (xL aa))]⟩) ?_ ?_
         ·refine cB h J (fun h=>?_) (fun h=>?_)
          ·exact tK<|ab.stop<|aj.lq [0] ⟨GY,h,J⟩ J J
          ·refine ab.cut (fun aE=>∃ (c12:Bool),sv self aa c12=some r∧aE=⟨98,[(1,.ptr b1 0),(51,.bool c12)],[(b1,.cells (xL aa))]⟩) ?_ ?_
           ·refine tR<|rF J J J<|rL J J .p0 J J<|ae.qv (cS J J) J<|rM J J<|ae.cq J J J (fun hc=>?_) (fun hc=>?_)
            ·rw [rQ hc] at h
             exact rF J J J<|rY J J J<|rL J J .p0 J J<|rY J J J<|ae.qv (ud J J) J<|rT J J J<|rA J J<|rN<|ab.stop<|aj.lq [0] ⟨decide (aa.Field≠([]:ai)),h,J⟩ J J
            ·rw [rR hc] at h
             exact rG J J J J<|rG J J J J<|rE J J J<|rA J J<|rN<|ab.stop<|aj.lq [0] ⟨false,h,J⟩ J J
           ·rintro aE ⟨c12,h,rfl⟩
            unfold sv at h
            exact ab.stop<|aj.lq [0] ⟨c12,h,J⟩ J J
         ·rintro aE ⟨FG,h,rfl⟩
          unfold nU at h
          refine cB h J (fun h=>?_) (fun h=>?_)
          ·refine az<|rA J J<|rN<|ab.ret<|?_
           cases h
           exact hP J J
          ·refine tK<|ab.bX<|tS<|az<|rF J J J<|rL J J .p0 J J<|ae.qv (sS J J) J<|rN<|cD h J (fun h=>?_) (fun h=>?_)
           ·refine az<|ae.qv (aA J J .p0 J) J<|ax h fun ma e2 h=>aH J (Lg e2) cR J<|rA J J<|rN<|ab.ret<|?_
            cases h
            exact hP J J
           ·refine tK<|tS<|az<|rF J J J<|rL J J .p0 J J<|ae.qv (bB J) J<|rM J J<|rN<|ab.block<|ab.bO (fun x:Int=>iN self aa x) (fun x aE=>aE=⟨98,[(86,pb aa.Kids),(87,I (aa.Kids.length:Int)),(88,I x)],[]⟩) h ?_ ?_
            ·exact aj.lq [] J J J
            ·intro n15 z1 aE J1 dh h im dN
             obtain rfl:=dh
             replace h:iN self aa n15=some z1:=h
             unfold iN at h
             refine az<|ae.qv (br J J) J<|rN<|tS<|cD h J (fun h=>?_) (fun h=>?_)
             ·refine tK<|tS<|ab.block<|az<|ax h fun pf e3 h=>ae.qv (aS J J J e3 J (by rw [Query.um];rfl)) J<|ae.qv (aM J J J) J<|bu J J J J fun Qi=>ay J J J J .p0 J J<|rN<|az<|ae.qv (aA J J .p0 J) J<|ax h fun oH e4 h=>aH J (kJ e4) cR J<|rA J J<|rN<|az<|rM J J<|ae.qv (ei J J) J<|rN<|cD h J (fun h=>?_) (fun h=>?_)
              ·refine az<|rM J J<|rA J J<|rN<|ab.ret<|have h:=bx h dN;?_
               cases h
               exact hP J J
              ·refine tK<|ab.bX<|tR<|ae.qv (bf J J) J<|rM J J<|rN<|ab.stop<|?_
               cases h
               exact im _ _ J<|aj.lq [] J J J
             ·refine ab.exit J<|have h:=bx h dN;az<|rA J J<|rN<|ab.ret<|?_
              cases h
              exact hP J J
theorem F1:∀ (k:Nat) {aa:Query} {r:Int},jE k aa=some r→Pu Tryz.prog 152 [.agg [I aa.Kind,.str aa.Field,.str aa.Op,I aa.Value.Kind,.bool aa.Value.ch,I aa.Value.Number,.str aa.Value.Words,I aa.Version.bP,I aa.Version.bQ,I aa.Version.bL,pb aa.Kids]] (I r):=by
 intro k
 induction k with
 | zero=>intro aa r h;cases h
 | succ k ih=>intro aa r h;exact Er ih h
theorem Jk {aa:Query} {r:Int} (h:Bc aa=some r):Pu Tryz.prog 152 [.agg [I aa.Kind,.str aa.Field,.str aa.Op,I aa.Value.Kind,.bool aa.Value.ch,I aa.Value.Number,.str aa.Value.Words,I aa.Version.bP,I aa.Version.bQ,I aa.Version.bL,pb aa.Kids]] (I r):=F1 depth h
theorem F2 {aa:Query} {r:Int} (h:sw aa=some r):Pu Tryz.prog 72 [.agg [I aa.Kind,.str aa.Field,.str aa.Op,I aa.Value.Kind,.bool aa.Value.ch,I aa.Value.Number,.str aa.Value.Words,I aa.Version.bP,I aa.Version.bQ,I aa.Version.bL,pb aa.Kids]] (I r):=by
 unfold sw at h
 refine aI.aZ Tryz.func72 J Tryz.ntmps72 Tryz.results72 J J ?_
 refine az<|cJ J J J J fun b1=>rA J J<|rN<|tS<|tS<|ab.cut (fun aE=>∃ (c2:Bool),nC aa c2=some r∧aE=⟨14,[(1,.ptr b1 0),(11,.bool c2)],[(b1,.cells (xL aa))]⟩) ?_ ?_
 ·refine tR<|ae.qv (aA J J .p0 J) J<|ax h fun v3 e1 h=>fV J (MY e1) cR .nil (fun _=>J) J fun b4=>ae.qv (iu J) J<|ae.qv (cS J J) J<|rM J J<|gF h J J J (fun h=>?_) (fun h=>?_)
  ·exact ae.qv (aA J J .p1 J) J<|rY J J J<|ax h fun v5 e2 h=>aH J (Se e2) cR J<|rY J J J<|ae.qv (cS J J) J<|rE J J J<|rN<|ab.stop<|aj.lq [1] ⟨decide ((20:Int) < v5),h,J⟩ J J
  ·exact rG J J J J<|rG J J J J<|rT J J J<|rN<|ab.stop<|aj.lq [1] ⟨true,h,J⟩ J J
 ·rintro aE ⟨c2,h,rfl⟩
  unfold nC at h
  refine cB h J (fun h=>?_) (fun h=>?_)
  ·refine az<|rA J J<|rN<|ab.ret<|?_
   cases h
   exact hP J J
  ·refine tK<|az<|ae.qv (aA J J .p0 J) J<|ax h fun v6 e3 h=>aH J (Jk e3) cR J<|rA J J<|rN<|ab.ret<|?_
   cases h
   exact hP J J
theorem Es [GI:bD] {aa:oM} {r:Int} (h:nX aa=r):Pu Tryz.prog 74 [oM.av aa] (I r):=by
 unfold nX at h
 refine aI.aZ Tryz.func74 J Tryz.ntmps74 Tryz.results74 J J ?_
 refine az<|cJ J J J J fun b1=>rA J J<|rN<|tS<|tS<|ab.cut (fun aE=>∃ (c2:Bool),pI c2=r∧aE=⟨14,[(13,.bool c2)],[]⟩) ?_ ?_
 ·refine tR<|rF J J J<|rL J J .p0 J J<|rF J J J<|rL J J .p0 J J<|aH J (yd J) cR J<|ae.qv (bF J) J<|rM J J<|ae.guard J J J (fun hc=>?_) (fun hc=>?_)
  ·rw [GR hc] at h
   exact rF J J J<|rY J J J<|rL J J .p0 J J<|rY J J J<|ae.qv (cS J J) J<|rE J J J<|rN<|ab.stop<|aj.lq [] ⟨decide ((345686400000:Int) < aa.To),h,J⟩ J J
  ·rw [GQ hc] at h
   exact rG J J J J<|rG J J J J<|rT J J J<|rN<|ab.stop<|aj.lq [] ⟨true,h,J⟩ J J
 ·rintro aE ⟨c2,h,rfl⟩
  unfold pI at h
  refine cB h J (fun h=>?_) (fun h=>?_)
  ·refine az<|rA J J<|rN<|ab.ret<|?_
   obtain rfl:=h
   exact hP J J
  ·refine tK<|az<|rA J J<|rN<|ab.ret<|?_
   obtain rfl:=h
   exact hP J J
theorem vO [GI:bD] {aa:List Int} {r:Int} (h:lv aa=some r):Pu Tryz.prog 21 [cC aa] (I r):=by
 unfold lv at h
 refine aI.aZ Tryz.func21 J Tryz.ntmps21 Tryz.results21 J J ?_
 refine az<|rA J J<|rN<|az<|rA J J<|rN<|tS<|az<|rM J J<|ae.qv (bB J) J<|rM J J<|rN<|ab.block<|ab.bO (fun x:Int=>qI aa x) (fun x aE=>aE=⟨18,[(3,I (0:Int)),(6,cC aa),(7,I (aa.length:Int)),(8,I x)],[]⟩) h ?_ ?_
 ·exact aj.lq [] J J J
 ·intro n2 z1 aE J1 dh h im dN
  obtain rfl:=dh
  replace h:qI aa n2=some z1:=h
  unfold qI at h
  refine az<|ae.qv (br J J) J<|rN<|tS<|cD h J (fun h=>?_) (fun h=>?_)
  ·refine tK<|tS<|ab.block<|az<|ax h fun v3 e1 h=>ae.qv (aS J J J e1 J J) J<|ae.qv (aJ J J J) J<|rA J J<|rN<|az<|rM J J<|rM J J<|ae.qv (ei J J) J<|rN<|cD h J (fun h=>?_) (fun h=>?_)
   ·refine az<|rM J J<|rA J J<|rN<|ab.ret<|have h:=bx h dN;?_
    cases h
    exact hP J J
   ·refine tK<|ab.bX<|tR<|ae.qv (bf J J) J<|rM J J<|rN<|ab.stop<|?_
    cases h
    exact im _ _ J<|aj.lq [] J J J
  ·refine ab.exit J<|have h:=bx h dN;az<|rM J J<|rA J J<|rN<|ab.ret<|?_
   cases h
   exact hP J J
theorem ye {aa:aW} {r:Int} (h:js aa=some r):Pu Tryz.prog 15 [aW.av aa] (I r):=by
 unfold js at h
 refine aI.aZ Tryz.func15 J Tryz.ntmps15 Tryz.results15 J J ?_
 refine az<|cJ J J J J fun b1=>rA J J<|rN<|tS<|az<|ae.qv (aA J J .p0 J) J<|ax h fun v2 e1 h=>aH J (Dd e1) cR J<|rA J J<|rN<|az<|rM J J<|ae.qv (ei J J) J<|rN<|cD h J (fun h=>?_) (fun h=>?_)
 ·refine az<|rM J J<|rA J J<|rN<|ab.ret<|?_
  cases h
  exact hP J J
 ·refine tK<|tS<|az<|ae.qv (aA J J .p0 J) J<|ax h fun v3 e2 h=>aH J (FY e2) cR J<|rA J J<|rN<|az<|rM J J<|ae.qv (ei J J) J<|rN<|cD h J (fun h=>?_) (fun h=>?_)
  ·refine az<|rM J J<|rA J J<|rN<|ab.ret<|?_
   cases h
   exact hP J J
  ·refine tK<|tS<|az<|rF J J J<|rL J J .p0 J J<|ae.qv (bB J) J<|ae.qv (cS J J) J<|rN<|cD h J (fun h=>?_) (fun h=>?_)
   ·refine az<|rA J J<|rN<|ab.ret<|?_
    cases h
    exact hP J J
   ·refine tK<|tS<|az<|rF J J J<|rL J J .p0 J J<|ae.qv (bB J) J<|rM J J<|rN<|ab.block<|ab.bO (fun x:Int=>qp aa x) (fun x aE=>aE=⟨95,[(1,.ptr b1 0),(23,tq aa.aK),(24,I (aa.aK.length:Int)),(25,I x)],[(b1,.cells (wg aa))]⟩) h ?_ ?_
    ·exact aj.lq [0] J J J
    ·intro n5 z1 aE J1 dh h im dN
     obtain rfl:=dh
     replace h:qp aa n5=some z1:=h
     unfold qp at h
     refine az<|ae.qv (br J J) J<|rN<|tS<|cD h J (fun h=>?_) (fun h=>?_)
     ·refine tK<|tS<|ab.block<|az<|rM J J<|ax h fun v6 e3 h=>ae.qv (aS J J J e3 J J) J<|ae.qv (aM J J J) J<|bu J J J J fun b7=>rA J J<|ay J J J J .p0 J J<|rN<|tS<|ab.block<|az<|rF J J J<|rL J J .p0 J J<|ax h fun v8 e4 h=>aH J (qN e4) cR J<|ae.qv (bF J) J<|rA J J<|rN<|cB h J (fun h=>?_) (fun h=>?_)
      ·refine az<|rA J J<|rN<|ab.ret<|have h:=bx h dN;?_
       cases h
       exact hP J J
      ·refine tS<|ab.cut (fun aE=>∃ (c9:Bool),nY aa n5 v6 c9=some z1∧aE=⟨95,[(1,.ptr b1 0),(6,.ptr b7 0),(23,tq aa.aK),(24,I (aa.aK.length:Int)),(25,I n5),(35,.bool c9)],[(b1,.cells (wg aa)),(b7,.cells (L7 v6))]⟩) ?_ ?_
       ·refine ab.cA (id:=14) (A:=[0,1,3,7,15,7,39,7,135,487,999,2023,4095,8191,16383]) 15 mixed J (by kernel_rfl) (by kernel_rfl)<|AM.qv (aO J) J<|AM.qv (cS J J) J<|AM.qv (aO J) J<|AM.cq J J J (fun hc=>?_) (fun hc=>?_)
        ·exact have h:=hZ hc h;AM.qv (ar J J) J<|AM.an J J J<|AM.qv (aD J J .p0 J) J<|AM.an J J J<|AM.qv (ar J J) J<|AM.an J J J<|AM.qv (aD J J .p1 J) J<|AM.an J J J<|AM.qv (aO J) J<|AM.an J J J<|AM.qv (fm J J) J<|AM.an J J J<|ax h fun v10 e5 h=>AM.qv (aS J J J e5 J J) J<|AM.an J J J<|AM.qv (bY J J) J<|AM.an J J J<|AM.qv (aJ J J J) J<|AM.an J J J<|AM.qv (od J J) J<|AM.qv (cQ J J) J<|AM.qv (bR J) J<|AM.nil<|rN<|ab.stop<|aj.lq [1,0] ⟨Op.bytesLess v6.Key v10.Key||v6.Key==v10.Key,h,J⟩ J J
        ·exact have h:=wM hc h;AM.al J J J J<|AM.al J J J J<|AM.al J J J J<|AM.al J J J J<|AM.al J J J J<|AM.al J J J J<|AM.al J J J J<|AM.al J J J J<|AM.al J J J J<|AM.qv (eE J J) J<|AM.qv (bR J) J<|AM.nil<|rN<|ab.stop<|aj.lq [1,0] ⟨false,h,J⟩ J J
       ·rintro aE ⟨c9,h,rfl⟩
        unfold nY at h
        refine cB h J (fun h=>?_) (fun h=>?_)
        ·refine az<|rA J J<|rN<|ab.ret<|have h:=bx h dN;?_
         cases h
         exact hP J J
        ·refine tS<|ab.cut (fun aE=>∃ (FG:Bool),lQ aa n5 v6 FG=some z1∧aE=⟨95,[(1,.ptr b1 0),(6,.ptr b7 0),(23,tq aa.aK),(24,I (aa.aK.length:Int)),(25,I n5),(50,.bool FG)],[(b1,.cells (wg aa)),(b7,.cells (L7 v6))]⟩) ?_ ?_
         ·refine tR<|ae.qv (aA J J .p0 J) J<|rF J J J<|rL J J .p1 J J<|ax h fun v12 e6 h=>aH J (lB e6) cR J<|ae.qv (br J J) J<|rM J J<|gF h J J J (fun h=>?_) (fun h=>?_)
          ·exact ae.qv (aA J J .p0 J) J<|rY J J J<|rF J J J<|rY J J J<|rL J J .p1 J J<|rY J J J<|ax h fun ma e7 h=>aH J (lB e7) cR J<|rY J J J<|ae.qv (br J J) J<|rE J J J<|rA J J<|rN<|ab.stop<|aj.lq [0,0] ⟨decide (ma < (0:Int)),h,J⟩ J J
          ·exact rG J J J J<|rG J J J J<|rG J J J J<|rG J J J J<|rT J J J<|rA J J<|rN<|ab.stop<|aj.lq [0,0] ⟨true,h,J⟩ J J
         ·rintro aE ⟨FG,h,rfl⟩
          unfold lQ at h
          refine cB h J (fun h=>?_) (fun h=>?_)
          ·refine az<|rA J J<|rN<|ab.ret<|have h:=bx h dN;?_
           cases h
           exact hP J J
          ·refine tS<|ab.cut (fun aE=>∃ (zf:Bool),lP n5 v6 zf=some z1∧aE=⟨95,[(1,.ptr b1 0),(6,.ptr b7 0),(23,tq aa.aK),(24,I (aa.aK.length:Int)),(25,I n5),(63,.bool zf)],[(b1,.cells (wg aa)),(b7,.cells (L7 v6))]⟩) ?_ ?_
           ·refine ab.cA (id:=18) (A:=[0,0,2,7,0,16,63,127,255,255,767,2047,255,4351,16383,32767,65535]) 17 mixed J (by kernel_rfl) (by kernel_rfl)<|AM.qv (aA J J .p0 J) J<|AM.qv (ar J J) J<|AM.qv (aD J J .p1 J) J<|ax h fun B3 e8 h=>AM.cT J (vN e8) cR J<|AM.qv (ar J J) J<|AM.qv (aD J J .p1 J) J<|ax h fun pf e9 h=>AM.cT J (bt e9) cR J<|AM.qv (aO J) J<|AM.guard J J J (fun hc=>?_) (fun hc=>?_)
            ·exact have h:=ir hc h;AM.qv (aA J J .p0 J) J<|AM.an J J J<|AM.qv (ar J J) J<|AM.an J J J<|AM.qv (aD J J .p1 J) J<|AM.an J J J<|ax h fun v17 Am h=>AM.cT J (vN Am) cR J<|AM.an J J J<|AM.qv (ar J J) J<|AM.an J J J<|AM.qv (aD J J .p1 J) J<|AM.an J J J<|ax h fun oH Bf h=>AM.cT J (bt Bf) cR J<|AM.qv (eE J J) J<|AM.qv (bR J) J<|AM.nil<|rN<|ab.stop<|aj.lq [0,0] ⟨oH,h,J⟩ J J
            ·exact have h:=hZ hc h;AM.al J J J J<|AM.al J J J J<|AM.al J J J J<|AM.al J J J J<|AM.al J J J J<|AM.al J J J J<|AM.qv (cQ J J) J<|AM.qv (bR J) J<|AM.nil<|rN<|ab.stop<|aj.lq [0,0] ⟨true,h,J⟩ J J
           ·rintro aE ⟨zf,h,rfl⟩
            unfold lP at h
            refine cB h J (fun h=>?_) (fun h=>?_)
            ·refine az<|rA J J<|rN<|ab.ret<|have h:=bx h dN;?_
             cases h
             exact hP J J
            ·refine tK<|ab.bX<|tS<|ab.cA (id:=20) (A:=[0,1,3,0,8,31,0,64,255,511,1023,2047]) 12 mixed J (by kernel_rfl) (by kernel_rfl)<|AM.qv (ar J J) J<|AM.qv (aY J J .p1 J J) J<|ax h fun ik GF h=>AM.cT J (F2 GF) cR J<|AM.qv (ar J J) J<|AM.qv (aD J J .p1 J) J<|ax h fun v20 G5 h=>AM.cT J (Cm G5) cR J<|AM.qv (ar J J) J<|AM.qv (aY J J .p1 J J) J<|AM.cT J (Es J) cR J<|AM.a8 (xs:=([ik,v20,(nX v6.Time)]:List Int).map I) J J J J J J<|ax h fun v21 Pw h=>AM.cT J (vO Pw) cR J<|AM.qv (bR J) J<|AM.nil<|rN<|az<|rM J J<|ae.qv (ei J J) J<|rN<|cD h J (fun h=>?_) (fun h=>?_)
             ·refine az<|rM J J<|rA J J<|rN<|ab.ret<|have h:=bx h dN;?_
              cases h
              exact hP J J
             ·refine tK<|ab.bX<|tR<|ae.qv (bf J J) J<|rM J J<|rN<|ab.stop<|?_
              cases h
              exact im _ _ J<|aj.lq [0] J J J
     ·refine ab.exit J<|have h:=bx h dN;az<|rA J J<|rN<|ab.ret<|?_
      cases h
      exact hP J J
theorem yz [GI:bD] {aa:Int} {r:Int} (h:jP aa=r):Pu Tryz.prog 18 [I aa] (I r):=by
 unfold jP at h
 refine aI.aZ Tryz.func18 J Tryz.ntmps18 Tryz.results18 J J ?_
 refine az<|rA J J<|rN<|tS<|az<|rM J J<|aH J (yd J) cR J<|ae.qv (bF J) J<|rN<|cB h J (fun h=>?_) (fun h=>?_)
 ·refine az<|rA J J<|rN<|ab.ret<|?_
  obtain rfl:=h
  exact hP J J
 ·refine tK<|az<|rA J J<|rN<|ab.ret<|?_
  obtain rfl:=h
  exact hP J J
theorem F3 [GI:bD] {aa:aW} {ak:Int} {r:Int×Bool} (h:pJ aa ak=some r):Pu Tryz.prog 31 [aW.av aa,I ak] (.pT [I r.1,.bool r.2]):=by
 unfold pJ at h
 refine aI.aZ Tryz.func31 J Tryz.ntmps31 Tryz.results31 J J ?_
 refine az<|cJ J J J J fun b1=>rA J J<|rA J J<|rN<|az<|rA J J<|rA J J<|rN<|tS<|az<|rF J J J<|rL J J .p0 J J<|ae.qv (bB J) J<|rM J J<|rN<|ab.block<|ab.bO (fun x:Int×Bool×Int=>fZ aa ak x.1 x.2.1 x.2.2) (fun x aE=>aE=⟨54,[(1,I ak),(6,I x.1),(7,.bool x.2.1),(13,tq aa.aK),(14,I (aa.aK.length:Int)),(15,I x.2.2)],[]⟩) h ?_ ?_
 ·exact aj.lq [] J J J
 ·intro x z1 aE J1 dh h im dN
  obtain ⟨n5,c6,n7⟩:=x
  obtain rfl:=dh
  replace h:fZ aa ak n5 c6 n7=some z1:=h
  unfold fZ at h
  refine az<|ae.qv (br J J) J<|rN<|tS<|cD h J (fun h=>?_) (fun h=>?_)
  ·refine tK<|tS<|ab.block<|az<|ax h fun v8 e1 h=>ae.qv (aS J J J e1 J J) J<|ae.qv (aM J J J) J<|bu J J J J fun b9=>ay J J J J .p0 J J<|rN<|az<|rF J J J<|rF J J J<|rL J J .p0 J J<|rF J J J<|rF J J J<|rL J J .p0 J J<|aF (xs:=([v8.Time.ef,v8.Time.To]:List Int).map I) J J J J J J<|ae.qv (bB J) J<|rM J J<|rN<|ab.block<|ab.bO (fun x:Int×Bool×Int=>fY ak n7 v8 x.1 x.2.1 x.2.2) (fun x aE=>aE=⟨54,[(1,I ak),(6,I x.1),(7,.bool x.2.1),(9,.ptr b9 0),(13,tq aa.aK),(14,I (aa.aK.length:Int)),(15,I n7),(25,cC [v8.Time.ef,v8.Time.To]),(26,I ([v8.Time.ef,v8.Time.To].length:Int)),(27,I x.2.2)],[(b9,.cells (L7 v8))]⟩) h ?_ ?_
   ·exact aj.lq [0] J J J
   ·intro x z2 aE J2 dh h ya tY
    obtain ⟨n13,zf,n15⟩:=x
    obtain rfl:=dh
    replace h:fY ak n7 v8 n13 zf n15=some z2:=h
    unfold fY at h
    refine az<|ae.qv (br J J) J<|rN<|tS<|cD h J (fun h=>?_) (fun h=>?_)
    ·refine tK<|tS<|ab.block<|az<|ax h fun pf e2 h=>ae.qv (aS J J J e2 J J) J<|ae.qv (aJ J J J) J<|rA J J<|rN<|tS<|ab.cut (fun aE=>∃ (c17:Bool),qJ n13 zf n15 pf c17=some z2∧aE=⟨54,[(1,I ak),(6,I n13),(7,.bool zf),(9,.ptr b9 0),(11,I pf),(13,tq aa.aK),(14,I (aa.aK.length:Int)),(15,I n7),(25,cC [v8.Time.ef,v8.Time.To]),(26,I ([v8.Time.ef,v8.Time.To].length:Int)),(27,I n15),(47,.bool c17)],[(b9,.cells (L7 v8))]⟩) ?_ ?_
     ·refine tR<|rF J J J<|rF J J J<|rL J J .p0 J J<|rF J J J<|rF J J J<|rL J J .p0 J J<|ae.qv (br J J) J<|rM J J<|ae.cq J J J (fun hc=>?_) (fun hc=>?_)
      ·rw [rQ hc] at h
       refine rM J J<|rY J J J<|rM J J<|rY J J J<|ae.qv (cS J J) J<|rT J J J<|rM J J<|ae.cq J J J (fun hc=>?_) (fun hc=>?_)
       ·rw [rQ hc] at h
        exact rM J J<|rY J J J<|rM J J<|rY J J J<|ae.qv (br J J) J<|rT J J J<|rN<|ab.stop<|aj.lq [0] ⟨decide (pf < n13),h,J⟩ J J
       ·rw [rR hc] at h
        exact rG J J J J<|rG J J J J<|rE J J J<|rN<|ab.stop<|aj.lq [0] ⟨false,h,J⟩ J J
      ·rw [rR hc] at h
       exact rG J J J J<|rG J J J J<|rE J J J<|rM J J<|rG J J J J<|rG J J J J<|rG J J J J<|rE J J J<|rN<|ab.stop<|aj.lq [0] ⟨false,h,J⟩ J J
     ·rintro aE ⟨c17,h,rfl⟩
      unfold qJ at h
      refine ab.cut (fun aE=>∃ (n18:Int) (RI:Bool),nD n15 n18 RI=some z2∧aE=⟨54,[(1,I ak),(6,I n18),(7,.bool RI),(9,.ptr b9 0),(13,tq aa.aK),(14,I (aa.aK.length:Int)),(15,I n7),(25,cC [v8.Time.ef,v8.Time.To]),(26,I ([v8.Time.ef,v8.Time.To].length:Int)),(27,I n15)],[(b9,.cells (L7 v8))]⟩) ?_ ?_
      ·refine cB h J (fun h=>?_) (fun h=>?_)
       ·exact tR<|rM J J<|rA J J<|rA J J<|rN<|ab.stop<|aj.lq [0] ⟨pf,true,h,J⟩ J J
       ·exact tK<|ab.stop<|aj.lq [0] ⟨n13,zf,h,J⟩ J J
      ·rintro aE ⟨n18,RI,h,rfl⟩
       unfold nD at h
       refine ab.bX<|tR<|ae.qv (bf J J) J<|rM J J<|rN<|ab.stop<|?_
       cases h
       exact ya _ _ J<|aj.lq [0] J J J
    ·refine ab.exit J<|have h:=bx h tY;ab.bX<|tR<|ae.qv (bf J J) J<|rM J J<|rN<|ab.stop<|?_
     cases h
     exact im _ _ J<|aj.lq [] J J J
  ·refine ab.exit J<|have h:=bx h dN;?_
   unfold nE at h
   refine tS<|az<|rM J J<|ae.qv (bF J) J<|rN<|cB h J (fun h=>?_) (fun h=>?_)
   ·refine az<|rA J J<|rA J J<|rN<|ab.ret<|?_
    cases h
    exact hQ J J J
   ·refine tK<|az<|rM J J<|rA J J<|rA J J<|rN<|ab.ret<|?_
    cases h
    exact hQ J J J
theorem F4 {aa:List ai} {r:Int} (h:sx aa=some r):Pu Tryz.prog 32 [gz aa] (I r):=by
 unfold sx at h
 refine aI.aZ Tryz.func32 J Tryz.ntmps32 Tryz.results32 J J ?_
 refine az<|rA J J<|rN<|tS<|az<|rM J J<|ae.qv (bB J) J<|ae.qv (cS J J) J<|rN<|cD h J (fun h=>?_) (fun h=>?_)
 ·refine az<|rA J J<|rN<|ab.ret<|?_
  cases h
  exact hP J J
 ·refine tK<|az<|rM J J<|ax h fun v1 e1 h=>aH J (AL e1) cR J<|rA J J<|rN<|ab.ret<|?_
  cases h
  exact hP J J
end Go.Proofs.YtnchkajkgjkpmaaGreatDoor
