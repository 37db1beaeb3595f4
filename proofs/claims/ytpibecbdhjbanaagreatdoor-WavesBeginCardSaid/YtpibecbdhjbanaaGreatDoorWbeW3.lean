/- The code computes the plain functions: proofs written by shal.py. -/
import Derived.Test.YtpibecbdhjbanaaGreatDoorWbeW2
set_option maxHeartbeats 4000000
set_option maxRecDepth 100000
set_option linter.unusedVariables false
set_option linter.unusedSimpArgs false
namespace Go.Proofs.YtpibecbdhjbanaaGreatDoor
open Go Go.Eng Go.Proofs Go.Beacon
attribute [local irreducible] ae ab AQ QV aF aj Kv AM
theorem qP [GI:bD] {aa:List Int} {ai:List Int} {r:Bool} (h:iE aa ai=some r):Pu Tryz.prog 25 [fc aa,fc ai] (.bool r):=by
 unfold iE at h
 refine aF.bC Tryz.func25 J Tryz.ntmps25 Tryz.results25 J J ?_
 refine aE<|rA J J<|rN<|tS<|aE<|rM J J<|ae.qv (cV J) J<|rM J J<|ae.qv (cV J) J<|ae.qv (kT J J) J<|rN<|cD h J (fun h=>?_) (fun h=>?_)
 ·refine aE<|rA J J<|rN<|ab.ret<|?_
  cases h
  exact hP J J
 ·refine tK<|tS<|aE<|rM J J<|ae.qv (cV J) J<|rM J J<|rN<|ab.block<|ab.cM (fun x:Int=>fX aa ai x) (fun x aC=>aC=⟨26,[(0,fc aa),(1,fc ai),(12,I (aa.length:Int)),(13,I x)],[]⟩) h ?_ ?_
  ·exact aj.lq [] J J J
  ·intro n2 z1 aC J1 fy h jt fj
   obtain rfl:=fy
   replace h:fX aa ai n2=some z1:=h
   unfold fX at h
   refine aE<|ae.qv (bG J J) J<|rN<|tS<|cD h J (fun h=>?_) (fun h=>?_)
   ·refine tK<|tS<|ab.block<|aE<|rM J J<|rA J J<|rN<|tS<|ab.eh (id:=6) (A:=[0,0,3,7,0,0,48,112,255]) 9 mixed J (by kernel_rfl) (by kernel_rfl)<|AM.qv (aA J) J<|AM.qv (aA J) J<|aD h fun v3 e1 h=>AM.qv (bO J J J e1 J J) J<|AM.qv (aX J J J) J<|AM.qv (aA J) J<|AM.qv (aA J) J<|aD h fun v4 e2 h=>AM.qv (bO J J J e2 J J) J<|AM.qv (aX J J J) J<|AM.qv (kT J J) J<|AM.nil<|rN<|cD h J (fun h=>?_) (fun h=>?_)
    ·refine aE<|rA J J<|rN<|ab.ret<|have h:=cj h fj;?_
     cases h
     exact hP J J
    ·refine tK<|ab.bY<|tR<|ae.qv (bc J J) J<|rM J J<|rN<|ab.stop<|?_
     cases h
     exact jt _ _ J<|aj.lq [] J J J
   ·refine ab.exit J<|have h:=cj h fj;aE<|rA J J<|rN<|ab.ret<|?_
    cases h
    exact hP J J
theorem yh {aa:List Int} {r:Bool} (h:mn aa=some r):Pu Tryz.prog 4 [fc aa] (.bool r):=by
 unfold mn at h
 refine aF.bC Tryz.func4 J Tryz.ntmps4 Tryz.results4 J J ?_
 refine aE<|rA J J<|rN<|aE<|rM J J<|ae.qv (fV J J J J J) J<|gi J J J J fun b1=>rA J J<|rN<|aE<|rM J J<|aD h fun v2 e1 h=>aZ J (uO e1) cR (.cons .p0 .nil) J J<|rM J J<|aD h fun v3 e2 h=>ow J (x8 e2) cR (.cons .p0 .nil) (fun _=>J) J fun b4=>rM J J<|aU (xs:=([(0:Int),(10:Int),(50:Int),(100:Int),(150:Int),(300:Int),(300:Int),(-1:Int)]).map I) J J J J J J<|aD h fun v5 e3 h=>aZ J (bR e3) cR (.cons .p0 .nil) J J<|ca J J J J fun b6=>ay J J J J .p0 J J<|rA J J<|rA J J<|rN<|tS<|aD h fun v7 e4 h=>ab.j6 (id:=3) (A:=[0,0,0,0,8,31,63]) (H0:=[(b1,.cells [fc v5.2.L,I v5.2.at_])]) (HH:=fun β=>[(b1,.cells [fc v7.2.L,I v7.2.at_]),(b6,.cells (wM v2.1)),(b4,L1 v3.1)]) 5 mixed J (by kernel_rfl) (by kernel_rfl) [⟨none,some 4,[],fun _=>(b1,.cells [fc v5.2.L,I v5.2.at_]),none,[]⟩,⟨some 4,none,[],fun _=>(b1,.cells [fc v7.2.L,I v7.2.at_]),none,[]⟩] [] J (by kernel_rfl) J (.cons .p1 .nil) (fun _=>J)<|AT.am 4 J J<|AM.qv (aA J) J<|AM.qv (aW J J .p0 J) J<|AM.qv (aA J) J<|AM.qv (aA J) J<|AM.nil<|AT.xD (av:=I v7.1) (Ti:=[(b1,.cells [fc v5.2.L,I v5.2.at_])]) (Pi:=[(b1,.cells [fc v7.2.L,I v7.2.at_])]) (fun _=>J) (fun _=>J) (fun _=>J) J J J ?_ ?_
 ·exact aZ J (mo e4) cR (.cons .p0 .nil) J J<|ae.nil ⟨_,J,J⟩
 refine AT.uE (fun _=>J) fun β=>aD h fun v8 e5 h=>ae.ghost<|aj.freeze .p2<|aj.here<|ow J (ya e5) (.cons (.refl _) (.cons (.refl _) (.cons (Co.Da .p2) (.cons (.refl _) .nil)))) (.cons .p0 .nil) (fun _=>J) J fun b9=>rA J J<|rN<|aE<|ae.qv (aW J J .p2 J) J<|rM J J<|rM J J<|rM J J<|aD h fun v10 e6 h=>xI J (uS e6) .nil (.cons (.co (.refl _)) (.cons (.co (Co.Da .p3)) (.cons (ln.kL .p1) (.cons (.co (.refl _)) .nil)))) (fun _=>J) (fun _=>J) (fun _=>(.cons (KM.kL (fun _=>J)) .nil)) J fun Gj=>rM J J<|rX J J J<|rX J J J<|rA J J<|rA J J<|rN<|aE<|ae.qv (aW J J .p3 J) J<|rM J J<|rM J J<|rM J J<|aD h fun v12 e7 h=>gh J (tY e7) (.cons (.co (.refl _)) (.cons (.co (Co.Da .p4)) (.cons (ln.kL .p2) (.cons (.co (.refl _)) .nil)))) J J<|rM J J<|rX J J J<|rX J J J<|rA J J<|rA J J<|rN<|aE<|ae.qv (aW J J .p3 J) J<|aD h fun mG e8 h=>aS J (uU e8) cR J<|rM J J<|aD h fun kJ e9 h=>aS J (yd e9) (.cons (Co.Da .p4) .nil) J<|rM J J<|aD h fun ig AF h=>gh J (ye AF) (.cons (ln.kL .p2) .nil) J J<|rM J J<|aS J (wP J) cR J<|aU (xs:=([mG,kJ,ig,(iJ v5.1)]:List Int).map I) J J J J J J<|aD h fun uo AG h=>aS J (HQ AG) cR J<|rA J J<|rN<|tS<|aE<|rM J J<|ae.qv (kT J J) J<|rN<|cD h J (fun h=>?_) (fun h=>?_)
 ·refine tS<|ab.cut (fun aC=>∃ (Oq:Bool),gb Oq=some r∧aC=⟨104,[(2,.bool Oq)],[]⟩) ?_ ?_
  ·refine tR<|rM J J<|rM J J<|ae.qv (cC J J) J<|rM J J<|gT h J J J (fun h=>?_) (fun h=>?_)
   ·refine rM J J<|rY J J J<|rM J J<|rY J J J<|ae.qv (cC J J) J<|rT J J J<|rM J J<|gT h J J J (fun h=>?_) (fun h=>?_)
    ·refine rM J J<|rY J J J<|ae.qv (iX J) J<|rY J J J<|ae.qv (cC J J) J<|rT J J J<|rM J J<|gT h J J J (fun h=>?_) (fun h=>?_)
     ·refine rM J J<|rY J J J<|ae.qv (cC J J) J<|rT J J J<|rM J J<|gT h J J J (fun h=>?_) (fun h=>?_)
      ·exact aD h fun eS C1 h=>aS J (tz C1) cR J<|rT J J J<|rA J J<|rN<|ab.stop<|aj.lq [] ⟨eS,h,J⟩ J J
      ·exact rE J J J<|rA J J<|rN<|ab.stop<|aj.lq [] ⟨false,h,J⟩ J J
     ·exact rG J J J J<|rE J J J<|rM J J<|rG J J J J<|rE J J J<|rA J J<|rN<|ab.stop<|aj.lq [] ⟨false,h,J⟩ J J
    ·exact rG J J J J<|rG J J J J<|rE J J J<|rM J J<|rG J J J J<|rG J J J J<|rE J J J<|rM J J<|rG J J J J<|rE J J J<|rA J J<|rN<|ab.stop<|aj.lq [] ⟨false,h,J⟩ J J
   ·exact rG J J J J<|rG J J J J<|rE J J J<|rM J J<|rG J J J J<|rG J J J J<|rG J J J J<|rE J J J<|rM J J<|rG J J J J<|rG J J J J<|rE J J J<|rM J J<|rG J J J J<|rE J J J<|rA J J<|rN<|ab.stop<|aj.lq [] ⟨false,h,J⟩ J J
  ·rintro aC ⟨Oq,h,rfl⟩
   unfold gb at h
   refine ab.ret<|?_
   cases h
   exact hP J J
 ·refine tK<|tS<|ab.cut (fun aC=>∃ (Ot:Bool),gd Ot=some r∧aC=⟨104,[(2,.bool Ot)],[]⟩) ?_ ?_
  ·refine tR<|rM J J<|ae.qv (cC J J) J<|rM J J<|gT h J J J (fun h=>?_) (fun h=>?_)
   ·refine rM J J<|rY J J J<|ae.qv (cC J J) J<|rT J J J<|rM J J<|gT h J J J (fun h=>?_) (fun h=>?_)
    ·refine rM J J<|rY J J J<|ae.qv (aW J J .p3 J) J<|rY J J J<|rM J J<|rY J J J<|rM J J<|rY J J J<|rM J J<|rY J J J<|aD h fun v20 FF h=>xI J (AK FF) .nil (.cons (.co (.refl _)) (.cons (.co (Co.Da .p4)) (.cons (ln.kL .p2) (.cons (.co (.refl _)) .nil)))) (fun _=>J) (fun _=>J) (fun _=>(.cons (KM.kL (fun _=>J)) .nil)) J fun Zq=>rY J J J<|aD h fun v22 Gi h=>gh J (qP Gi) (.cons (ln.kL .p1) (.cons (ln.kL .p0) .nil)) J J<|rT J J J<|rM J J<|ae.guard J J J (fun hc=>?_) (fun hc=>?_)
     ·refine have h:=rm hc h;rM J J<|rY J J J<|ae.qv (aW J J .p4 J) J<|rY J J J<|rM J J<|rY J J J<|rM J J<|rY J J J<|rM J J<|rY J J J<|aD h fun v23 JO h=>gh J (tA JO) (.cons (.co (.refl _)) (.cons (.co (Co.Da .p5)) (.cons (ln.kL .p3) (.cons (.co (.refl _)) .nil)))) J J<|rY J J J<|ae.qv (cC J J) J<|rT J J J<|rM J J<|gT h J J J (fun h=>?_) (fun h=>?_)
      ·exact aD h fun v24 JP h=>aS J (tz JP) cR J<|rT J J J<|rA J J<|rN<|ab.stop<|aj.lq [] ⟨v24,h,J⟩ J J
      ·exact rE J J J<|rA J J<|rN<|ab.stop<|aj.lq [] ⟨false,h,J⟩ J J
     ·exact have h:=wg hc h;rG J J J J<|rG J J J J<|rG J J J J<|rG J J J J<|rG J J J J<|rG J J J J<|rE J J J<|rM J J<|rG J J J J<|rE J J J<|rA J J<|rN<|ab.stop<|aj.lq [] ⟨false,h,J⟩ J J
    ·exact rG J J J J<|rG J J J J<|rG J J J J<|rG J J J J<|rG J J J J<|rG J J J J<|rE J J J<|rM J J<|rG J J J J<|rG J J J J<|rG J J J J<|rG J J J J<|rG J J J J<|rG J J J J<|rG J J J J<|rE J J J<|rM J J<|rG J J J J<|rE J J J<|rA J J<|rN<|ab.stop<|aj.lq [] ⟨false,h,J⟩ J J
   ·exact rG J J J J<|rE J J J<|rM J J<|rG J J J J<|rG J J J J<|rG J J J J<|rG J J J J<|rG J J J J<|rG J J J J<|rG J J J J<|rE J J J<|rM J J<|rG J J J J<|rG J J J J<|rG J J J J<|rG J J J J<|rG J J J J<|rG J J J J<|rG J J J J<|rE J J J<|rM J J<|rG J J J J<|rE J J J<|rA J J<|rN<|ab.stop<|aj.lq [] ⟨false,h,J⟩ J J
  ·rintro aC ⟨Ot,h,rfl⟩
   unfold gd at h
   refine ab.ret<|?_
   cases h
   exact hP J J
end Go.Proofs.YtpibecbdhjbanaaGreatDoor
