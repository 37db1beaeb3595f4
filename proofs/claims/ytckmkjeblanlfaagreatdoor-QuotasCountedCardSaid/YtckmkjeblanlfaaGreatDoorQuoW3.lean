/- The code computes the plain functions: proofs written by shal.py. -/
import Derived.Test.YtckmkjeblanlfaaGreatDoorQuoW2
set_option maxHeartbeats 4000000
set_option maxRecDepth 100000
set_option linter.unusedVariables false
set_option linter.unusedSimpArgs false
namespace Go.Proofs.YtckmkjeblanlfaaGreatDoor
open Go Go.Eng Go.Proofs Go.Beacon
attribute [local irreducible] ae ab AQ QV aB ai O6 AM
theorem gd {aa:bu} {r:(Option aC)×Int} (h:cT aa=some r):aB Tryz.prog 109 [bu.av aa] [] (TM r.1 (T0 ([]) (.om [.raw (.pointer none),I r.2])) (fun x=>T6 (fun iM wY wZ w4 w5 w6=>[(iM,.cells (mV x wY wZ w4 w5 w6)),(wY,eG x.a8),(wZ,ym x.qU),(w4,Kb x.at_),(w5,Dr x.zP),(w6,Ds x.yh)]) (fun iM wY wZ w4 w5 w6=>.om [.ptr iM 0,I r.2]))):=by
 unfold cT at h
 refine aB.dS ?_
 refine aB.aS Tryz.func109 J Tryz.ntmps109 Tryz.results109 J J ?_
 refine ax<|cm J J J J fun b1=>rA J J<|rA J J<|rN<|ax<|ae.qv (ao J J .p0 J) J<|au h fun v2 e1 h=>sU J (zY e1) cR .nil (fun _ _ _ _ _ _=>J) J fun b3 b4 b5 b6 b7 b8=>rA J J<|rN<|tS<|ax<|rM J J<|ae.ghost<|ai.IT .p0 fun me2 TE=>ai.here<|ae.qv (uo TE J) J<|rM J J<|ae.ghost<|ai.IT .p0 fun me4 TF=>ai.here<|ae.qv (uo TF J) J<|rM J J<|ae.ghost<|ai.IT .p0 fun me6 TG=>ai.here<|ae.qv (uo TG J) J<|rM J J<|ae.ghost<|ai.IT .p0 fun me8 TH=>ai.here<|ae.qv (uo TH J) J<|aD (xs:=[.raw (.func (.func 189) #[.pointer (some ⟨me2,0,none⟩)] #[]),.raw (.func (.func 190) #[.pointer (some ⟨me4,0,none⟩)] #[]),.raw (.func (.func 191) #[.pointer (some ⟨me6,0,none⟩)] #[]),.raw (.func (.func 192) #[.pointer (some ⟨me8,0,none⟩)] #[])]) J J J J J J<|ae.qv (QV.LZ (b:=(4:Int)) (by rfl) (BL J)) J<|rM J J<|rN<|ab.block<|ab.Tn 6<|pU.next<|ax<|ae.qv (QV.dT (by decide) (bG J J)) J<|rN<|tS<|ab.zD J<|tK<|tS<|ab.block<|ax<|ae.qv (pH J J J J J) J<|ae.qv (aJ J J J) J<|rA J J<|rN<|ax<|rM J J<|au h fun v9 zS h=>yY TE J J (vl zS) cR (.cons .p0 (.cons .p0 .nil)) J J<|rA J J<|rN<|ax<|rM J J<|ae.qv (cG J J) J<|rN<|cD h J (fun h=>?_) (fun h=>?_)
 ·refine ax<|rM J J<|rA J J<|rA J J<|rN<|ab.ret<|?_
  cases h
  exact hI J J [] J ⟨J,J⟩
 ·refine tK<|ab.cF<|tR<|ae.qv (av:=I (1:Int)) (QV.LZ (by decide) (bd J J)) J<|rM J J<|rN<|ab.stop<|ai.here<|pU.next<|ax<|ae.qv (QV.dT (by decide) (bG J J)) J<|rN<|tS<|ab.zD J<|tK<|tS<|ab.block<|ax<|ae.qv (pH J J J J J) J<|ae.qv (aJ J J J) J<|rA J J<|rN<|ax<|rM J J<|au h fun v10 E8 h=>yY TF J J (uT E8) cR (.cons .p0 .nil) J J<|rA J J<|rN<|ax<|rM J J<|ae.qv (cG J J) J<|rN<|cD h J (fun h=>?_) (fun h=>?_)
  ·refine ax<|rM J J<|rA J J<|rA J J<|rN<|ab.ret<|?_
   cases h
   exact hI J J [] J ⟨J,J⟩
  ·refine tK<|ab.cF<|tR<|ae.qv (av:=I (2:Int)) (QV.LZ (by decide) (bd J J)) J<|rM J J<|rN<|ab.stop<|ai.here<|pU.next<|ax<|ae.qv (QV.dT (by decide) (bG J J)) J<|rN<|tS<|ab.zD J<|tK<|tS<|ab.block<|ax<|ae.qv (pH J J J J J) J<|ae.qv (aJ J J J) J<|rA J J<|rN<|ax<|rM J J<|au h fun v11 FE h=>yY TG J J (tV FE) cR (.cons .p0 (.cons .p0 (.cons .p0 .nil))) J J<|rA J J<|rN<|ax<|rM J J<|ae.qv (cG J J) J<|rN<|cD h J (fun h=>?_) (fun h=>?_)
   ·refine ax<|rM J J<|rA J J<|rA J J<|rN<|ab.ret<|?_
    cases h
    exact hI J J [] J ⟨J,J⟩
   ·refine tK<|ab.cF<|tR<|ae.qv (av:=I (3:Int)) (QV.LZ (by decide) (bd J J)) J<|rM J J<|rN<|ab.stop<|ai.here<|pU.next<|ax<|ae.qv (QV.dT (by decide) (bG J J)) J<|rN<|tS<|ab.zD J<|tK<|tS<|ab.block<|ax<|ae.qv (pH J J J J J) J<|ae.qv (aJ J J J) J<|rA J J<|rN<|ax<|rM J J<|au h fun v12 GC h=>yY TH J J (ud GC) cR (.cons .p0 (.cons .p0 .nil)) J J<|rA J J<|rN<|ax<|rM J J<|ae.qv (cG J J) J<|rN<|cD h J (fun h=>?_) (fun h=>?_)
    ·refine ax<|rM J J<|rA J J<|rA J J<|rN<|ab.ret<|?_
     cases h
     exact hI J J [] J ⟨J,J⟩
    ·refine tK<|ab.cF<|tR<|ae.qv (av:=I (4:Int)) (QV.LZ (by decide) (bd J J)) J<|rM J J<|rN<|ab.stop<|ai.here<|pU.next<|ax<|ae.qv (QV.dF (by decide) (bG J J)) J<|rN<|tS<|ab.EI J<|ab.exit J<|ax<|rM J J<|rA J J<|rA J J<|rN<|ab.ret<|?_
     cases h
     exact hI J J [0,0,0,0,0,0] J ⟨b3,b4,b5,b6,b7,b8,J,J⟩
theorem Ab [GI:bx] {aa:aj} {ah:aj} {r:Int} (h:qu aa ah=some r):Pu Tryz.prog 260 [aj.av aa,aj.av ah] (I r):=by
 unfold qu at h
 refine aB.aS Tryz.func260 J Tryz.ntmps260 Tryz.results260 J J ?_
 refine ax<|cm J J J J fun b1=>cm J J J J fun b2=>rA J J<|rN<|tS<|ab.cV (id:=1) (A:=[0,1,0,4,15,0,32,0,128,511,1023,2047,4095]) 13 mixed J (by kernel_rfl) (by kernel_rfl)<|AM.qv (az J J) J<|AM.qv (aI J J .p1 J) J<|AM.qv (az J J) J<|AM.qv (aI J J .p0 J) J<|AM.gj J (cM J) cR J<|AM.qv (az J J) J<|AM.qv (aI J J .p1 J) J<|AM.qv (az J J) J<|AM.qv (aI J J .p0 J) J<|AM.gj J (cM J) cR J<|AM.bz (xs:=([(Lib.compareBytes aa.cu ah.cu),(Lib.compareBytes aa.cZ ah.cZ)]:List Int).map I) J J J J J J<|au h fun v3 e1 h=>AM.gj J (qH e1) cR J<|AM.qv (bI J) J<|AM.nil<|rN<|ab.ret<|?_
 cases h
 exact hP J J
theorem oQ [GI:bx] {br:Bk} {aU:Bk} {bS:Bk} {bU:Bk} {bV:Bk} {bW:Bk} {W4:Bk} {aa:aC} {ah:aj} {bc:Int} {cz:Int} {cE:aj} {r:Int} (h:fj aa ah bc cz cE=some r):aB Tryz.prog 193 [.ptr br 0,aj.av ah,I bc,I cz,.ptr W4 0] [(br,.cells (mV aa aU bS bU bV bW)),(aU,eG aa.a8),(W4,.cells [.str cE.cu,.str cE.cZ])] (T0 ([(br,.cells (mV aa aU bS bU bV bW)),(aU,eG aa.a8),(W4,.cells [.str cE.cu,.str cE.cZ])]) (I r)):=by
 unfold fj at h
 refine aB.dS ?_
 refine aB.aS Tryz.func193 J Tryz.ntmps193 Tryz.results193 J J ?_
 refine ax<|cm J J J J fun b1=>rA J J<|rN<|tS<|ab.block<|ax<|rM J J<|rF J J J<|rL J J .p0 J J<|au h fun v2 e1 h=>aK J (ec e1) cR (.cons .p1 (.cons .p1 .nil)) J J<|ae.qv (bX J) J<|rA J J<|rN<|cB h J (fun h=>?_) (fun h=>?_)
 ·refine ax<|rA J J<|rN<|ab.ret<|?_
  cases h
  exact hH J [0,0,1] J ⟨J,J⟩
 ·refine ax<|rF J J J<|rL J J .p2 J J<|au h fun v3 e2 h=>aG J (lD e2) cR J<|ae.qv (bX J) J<|rA J J<|rN<|cB h J (fun h=>?_) (fun h=>?_)
  ·refine ax<|rA J J<|rN<|ab.ret<|?_
   cases h
   exact hH J [0,0,1] J ⟨J,J⟩
  ·refine ax<|rM J J<|rM J J<|aG J (nE J) cR J<|rA J J<|rN<|cB h J (fun h=>?_) (fun h=>?_)
   ·refine ax<|rA J J<|rN<|ab.ret<|?_
    cases h
    exact hH J [0,0,1] J ⟨J,J⟩
   ·refine tS<|ab.cV (id:=7) (A:=[0,1,3,7,7,23,55,127,255,511,1023]) 11 mixed J (by kernel_rfl) (by kernel_rfl)<|AM.qv (aQ J) J<|AM.qv (NZ J J) J<|AM.qv (aQ J) J<|AM.ar J J J<|AM.qv (ao J J .p2 J) J<|AM.ar J J J<|AM.qv (aQ J) J<|AM.ar J J J<|AM.qv (aY J) J<|AM.ar J J J<|AM.qv (ao J J .p3 J) J<|AM.ar J J J<|au h fun v4 e3 h=>AM.gj J (Ab e3) cR J<|AM.ar J J J<|AM.qv (r8 J J) J<|AM.qv (kS J J) J<|AM.qv (bI J) J<|AM.nil<|rN<|cD h J (fun h=>?_) (fun h=>?_)
    ·refine ax<|rA J J<|rN<|ab.ret<|?_
     cases h
     exact hH J [0,0,1] J ⟨J,J⟩
    ·refine tK<|ab.cF<|ax<|rA J J<|rN<|ab.ret<|?_
     cases h
     exact hH J [0,0,1] J ⟨J,J⟩
theorem l8 [GI:bx] {br:Bk} {aU:Bk} {bS:Bk} {bU:Bk} {bV:Bk} {bW:Bk} {aa:aC} {ah:aj} {bc:Int} {cz:Int} {r:Int} (h:dE aa ah bc cz=some r):aB Tryz.prog 193 [.ptr br 0,aj.av ah,I bc,I cz,.raw (.pointer none)] [(br,.cells (mV aa aU bS bU bV bW)),(aU,eG aa.a8)] (T0 ([(br,.cells (mV aa aU bS bU bV bW)),(aU,eG aa.a8)]) (I r)):=by
 unfold dE at h
 refine aB.dS ?_
 refine aB.aS Tryz.func193 J Tryz.ntmps193 Tryz.results193 J J ?_
 refine ax<|cm J J J J fun b1=>rA J J<|rN<|tS<|ab.block<|ax<|rM J J<|rF J J J<|rL J J .p0 J J<|au h fun v2 e1 h=>aK J (ec e1) cR (.cons .p1 (.cons .p1 .nil)) J J<|ae.qv (bX J) J<|rA J J<|rN<|cB h J (fun h=>?_) (fun h=>?_)
 ·refine ax<|rA J J<|rN<|ab.ret<|?_
  cases h
  exact hH J [0,0] J ⟨J,J⟩
 ·refine ax<|rF J J J<|rL J J .p2 J J<|au h fun v3 e2 h=>aG J (lD e2) cR J<|ae.qv (bX J) J<|rA J J<|rN<|cB h J (fun h=>?_) (fun h=>?_)
  ·refine ax<|rA J J<|rN<|ab.ret<|?_
   cases h
   exact hH J [0,0] J ⟨J,J⟩
  ·refine ax<|rM J J<|rM J J<|aG J (nE J) cR J<|rA J J<|rN<|cB h J (fun h=>?_) (fun h=>?_)
   ·refine ax<|rA J J<|rN<|ab.ret<|?_
    cases h
    exact hH J [0,0] J ⟨J,J⟩
   ·refine tS<|ab.cV (id:=7) (A:=[0,1,3,7,7,23,55,127,255,511,1023]) 11 mixed J (by kernel_rfl) (by kernel_rfl)<|AM.qv (aQ J) J<|AM.qv (LN J J) J<|AM.qv (aQ J) J<|AM.ay J J J J<|AM.ay J J J J<|AM.ay J J J J<|AM.ay J J J J<|AM.ay J J J J<|AM.ay J J J J<|AM.qv (kT J J) J<|AM.qv (bI J) J<|AM.nil<|rN<|ab.EI J<|tK<|ab.cF<|ax<|rA J J<|rN<|ab.ret<|?_
    cases h
    exact hH J [0,0] J ⟨J,J⟩
theorem nY [GI:bx] {br:Bk} {aU:Bk} {bS:Bk} {bU:Bk} {bV:Bk} {bW:Bk} {aa:aC} {ah:List aH} {r:Int} (h:eD aa ah=some r):aB Tryz.prog 110 [.ptr br 0,th ah] [(br,.cells (mV aa aU bS bU bV bW)),(aU,eG aa.a8)] (T0 ([(br,.cells (mV aa aU bS bU bV bW)),(aU,eG aa.a8)]) (I r)):=by
 unfold eD at h
 refine aB.dS ?_
 refine aB.aS Tryz.func110 J Tryz.ntmps110 Tryz.results110 J J ?_
 refine ax<|rA J J<|rN<|tS<|ax<|rM J J<|ae.qv (bA J) J<|ae.qv (fO J J) J<|rN<|cD h J (fun h=>?_) (fun h=>?_)
 ·refine ax<|rA J J<|rN<|ab.ret<|?_
  cases h
  exact hH J [0,0] J ⟨J,J⟩
 ·refine tK<|ax<|rA J J<|rN<|tS<|ax<|rM J J<|ae.qv (bA J) J<|rM J J<|rN<|ab.cut (fun aE=>gC=some r∧aE=⟨34,[],[(br,.cells (mV aa aU bS bU bV bW)),(aU,eG aa.a8)]⟩) ?_ ?_
  ·refine ab.block<|?_
   obtain ⟨z1,W5,h⟩:=SP (show (eO aa ah).bind (after (iter (fun x:al×al×Int=>bO aa ah x.1 x.2.1 x.2.2)))=_ from h)
   refine ab.Pt (fun x:al×al×Int=>bO aa ah x.1 x.2.1 x.2.2) (fun x aE=>∃ (b8:Bk),aE=⟨34,[(0,.ptr br 0),(5,.ptr b8 0),(13,th ah),(14,I (ah.length:Int)),(15,I x.2.2)],[(br,.cells (mV aa aU bS bU bV bW)),(aU,eG aa.a8),(b8,.cells [.str x.1,.str x.2.1])]⟩) h ?_ ?_
   ·intro J1 gH df
    replace h:eO aa ah=some z1:=W5
    unfold eO at h
    refine ax<|ae.qv (bG J J) J<|rN<|tS<|cD h J (fun h=>?_) (fun h=>?_)
    ·refine tK<|tS<|ab.block<|ax<|au h fun v12 e1 h=>ae.qv (aO J J J e1 J J) J<|ae.qv (aF J J J) J<|bf J J J J fun Dv=>aq J J J J .p0 J J<|rN<|ax<|rF J J J<|rL J J .p0 J J<|rF J J J<|rL J J .p0 J J<|ae.qv (bn J J J J J) J<|bf J J J J fun Ej=>aq J J J J .p0 J J<|rN<|tS<|ax<|rM J J<|ae.qv (ao J J .p0 J) J<|rF J J J<|rL J J .p1 J J<|rM J J<|au h fun lB e2 h=>aK J (l8 e2) cR (.cons .p2 (.cons .p2 .nil)) J J<|rA J J<|rN<|ax<|rM J J<|ae.qv (cG J J) J<|rN<|cD h J (fun h=>?_) (fun h=>?_)
     ·refine ax<|rM J J<|rA J J<|rN<|ab.ret<|have h:=bE h df;?_
      cases h
      exact hH J [0,0] J ⟨J,J⟩
     ·refine tK<|tR<|rA J J<|rN<|ab.cF<|tR<|ae.qv (bd J J) J<|rM J J<|rN<|ab.stop<|?_
      cases h
      exact gH _ _ J<|ai.lq [0,0,0] ⟨Ej,J⟩ J J
    ·exact ab.exit J<|have h:=bE h df;ab.stop<|ai.lq [0,0] ⟨h,J⟩ J J
   ·intro x z1 aE J1 dN h gH df
    obtain ⟨q9,C2,n11⟩:=x
    obtain ⟨b8,rfl⟩:=dN
    replace h:bO aa ah q9 C2 n11=some z1:=h
    unfold bO at h
    refine ax<|ae.qv (bG J J) J<|rN<|tS<|cD h J (fun h=>?_) (fun h=>?_)
    ·refine tK<|tS<|ab.block<|ax<|au h fun uq e3 h=>ae.qv (aO J J J e3 J J) J<|ae.qv (aF J J J) J<|bf J J J J fun I0=>aq J J J J .p0 J J<|rN<|ax<|rF J J J<|rL J J .p0 J J<|rF J J J<|rL J J .p0 J J<|ae.qv (bn J J J J J) J<|bf J J J J fun KM=>aq J J J J .p0 J J<|rN<|tS<|ax<|rM J J<|ae.qv (ao J J .p0 J) J<|rF J J J<|rL J J .p1 J J<|rM J J<|au h fun iV e4 h=>aK J (oQ e4) cR (.cons .p2 (.cons .p2 (.cons .p2 .nil))) J J<|rA J J<|rN<|ax<|rM J J<|ae.qv (cG J J) J<|rN<|cD h J (fun h=>?_) (fun h=>?_)
     ·refine ax<|rM J J<|rA J J<|rN<|ab.ret<|have h:=bE h df;?_
      cases h
      exact hH J [0,0] J ⟨J,J⟩
     ·refine tK<|tR<|rA J J<|rN<|ab.cF<|tR<|ae.qv (bd J J) J<|rM J J<|rN<|ab.stop<|?_
      cases h
      exact gH _ _ J<|ai.lq [0,0,1] ⟨KM,J⟩ J J
    ·exact ab.exit J<|have h:=bE h df;ab.stop<|ai.lq [0,0] ⟨h,J⟩ J J
  ·rintro aE ⟨h,rfl⟩
   unfold gC at h
   refine ax<|rA J J<|rN<|ab.ret<|?_
   cases h
   exact hH J [0,0] J ⟨J,J⟩
theorem w8 {aa:bu} {ah:List aH} {r:Int} (h:fQ aa ah=some r):Pu Tryz.prog 39 [bu.av aa,th ah] (I r):=by
 unfold fQ at h
 refine aB.aS Tryz.func39 J Tryz.ntmps39 Tryz.results39 J J ?_
 refine ax<|cm J J J J fun b1=>rA J J<|rN<|ax<|ae.qv (ao J J .p0 J) J<|au h fun v2 e1 h=>B6 h (fun e2 h=>?_) (fun x3 e2 h=>?_)
 ·refine have Kc:=pS e2 (gd e1);aK J Kc cR .nil J J<|rM J J<|rX J J J<|rX J J J<|rA J J<|rA J J<|rN<|tS<|ax<|rM J J<|ae.qv (cG J J) J<|rN<|cD h J (fun h=>?_) (fun h=>?_)
  ·refine ax<|rM J J<|rA J J<|rN<|ab.ret<|?_
   cases h
   exact hP J J
  ·refine tK<|ax<|rM J J<|rM J J<|?_
   cases h
 ·refine have Kd:=pT e2 (gd e1);sU J Kd cR .nil (fun _ _ _ _ _ _=>J) J fun b4 b5 b6 b7 b8 b9=>rM J J<|rX J J J<|rX J J J<|rA J J<|rA J J<|rN<|tS<|ax<|rM J J<|ae.qv (cG J J) J<|rN<|cD h J (fun h=>?_) (fun h=>?_)
  ·refine ax<|rM J J<|rA J J<|rN<|ab.ret<|?_
   cases h
   exact hP J J
  ·refine tK<|ax<|rM J J<|rM J J<|au h fun v10 e3 h=>aK J (nY e3) cR (.cons .p0 (.cons .p0 .nil)) J J<|rA J J<|rN<|ab.ret<|?_
   cases h
   exact hP J J
theorem nF [GI:bx] {br:Bk} {aU:Bk} {bS:Bk} {bU:Bk} {bV:Bk} {bW:Bk} {aa:aC} {ah:List aM} {r:Int} (h:dY aa ah=some r):aB Tryz.prog 111 [.ptr br 0,wb ah] [(br,.cells (mV aa aU bS bU bV bW)),(aU,eG aa.a8)] (T0 ([(br,.cells (mV aa aU bS bU bV bW)),(aU,eG aa.a8)]) (I r)):=by
 unfold dY at h
 refine aB.dS ?_
 refine aB.aS Tryz.func111 J Tryz.ntmps111 Tryz.results111 J J ?_
 refine ax<|rA J J<|rN<|tS<|ax<|rM J J<|ae.qv (bA J) J<|ae.qv (fO J J) J<|rN<|cD h J (fun h=>?_) (fun h=>?_)
 ·refine ax<|rA J J<|rN<|ab.ret<|?_
  cases h
  exact hH J [0,0] J ⟨J,J⟩
 ·refine tK<|ax<|rA J J<|rN<|tS<|ax<|rM J J<|ae.qv (bA J) J<|rM J J<|rN<|ab.cut (fun aE=>gg=some r∧aE=⟨34,[],[(br,.cells (mV aa aU bS bU bV bW)),(aU,eG aa.a8)]⟩) ?_ ?_
  ·refine ab.block<|?_
   obtain ⟨z1,W5,h⟩:=SP (show (ep aa ah).bind (after (iter (fun x:al×al×Int=>bK aa ah x.1 x.2.1 x.2.2)))=_ from h)
   refine ab.Pt (fun x:al×al×Int=>bK aa ah x.1 x.2.1 x.2.2) (fun x aE=>∃ (b8:Bk),aE=⟨34,[(0,.ptr br 0),(5,.ptr b8 0),(13,wb ah),(14,I (ah.length:Int)),(15,I x.2.2)],[(br,.cells (mV aa aU bS bU bV bW)),(aU,eG aa.a8),(b8,.cells [.str x.1,.str x.2.1])]⟩) h ?_ ?_
   ·intro J1 gH df
    replace h:ep aa ah=some z1:=W5
    unfold ep at h
    refine ax<|ae.qv (bG J J) J<|rN<|tS<|cD h J (fun h=>?_) (fun h=>?_)
    ·refine tK<|tS<|ab.block<|ax<|au h fun v12 e1 h=>ae.qv (aO J J J e1 J J) J<|ae.qv (aF J J J) J<|bf J J J J fun Dv=>aq J J J J .p0 J J<|rN<|ax<|rF J J J<|rL J J .p0 J J<|rF J J J<|rL J J .p0 J J<|ae.qv (bn J J J J J) J<|bf J J J J fun Ej=>aq J J J J .p0 J J<|rN<|tS<|ax<|rM J J<|ae.qv (ao J J .p0 J) J<|rF J J J<|rL J J .p1 J J<|rM J J<|au h fun lB e2 h=>aK J (l8 e2) cR (.cons .p2 (.cons .p2 .nil)) J J<|rA J J<|rN<|ax<|rM J J<|ae.qv (cG J J) J<|rN<|cD h J (fun h=>?_) (fun h=>?_)
     ·refine ax<|rM J J<|rA J J<|rN<|ab.ret<|have h:=bE h df;?_
      cases h
      exact hH J [0,0] J ⟨J,J⟩
     ·refine tK<|tR<|rA J J<|rN<|ab.cF<|tR<|ae.qv (bd J J) J<|rM J J<|rN<|ab.stop<|?_
      cases h
      exact gH _ _ J<|ai.lq [0,0,0] ⟨Ej,J⟩ J J
    ·exact ab.exit J<|have h:=bE h df;ab.stop<|ai.lq [0,0] ⟨h,J⟩ J J
   ·intro x z1 aE J1 dN h gH df
    obtain ⟨q9,C2,n11⟩:=x
    obtain ⟨b8,rfl⟩:=dN
    replace h:bK aa ah q9 C2 n11=some z1:=h
    unfold bK at h
    refine ax<|ae.qv (bG J J) J<|rN<|tS<|cD h J (fun h=>?_) (fun h=>?_)
    ·refine tK<|tS<|ab.block<|ax<|au h fun uq e3 h=>ae.qv (aO J J J e3 J J) J<|ae.qv (aF J J J) J<|bf J J J J fun I0=>aq J J J J .p0 J J<|rN<|ax<|rF J J J<|rL J J .p0 J J<|rF J J J<|rL J J .p0 J J<|ae.qv (bn J J J J J) J<|bf J J J J fun KM=>aq J J J J .p0 J J<|rN<|tS<|ax<|rM J J<|ae.qv (ao J J .p0 J) J<|rF J J J<|rL J J .p1 J J<|rM J J<|au h fun iV e4 h=>aK J (oQ e4) cR (.cons .p2 (.cons .p2 (.cons .p2 .nil))) J J<|rA J J<|rN<|ax<|rM J J<|ae.qv (cG J J) J<|rN<|cD h J (fun h=>?_) (fun h=>?_)
     ·refine ax<|rM J J<|rA J J<|rN<|ab.ret<|have h:=bE h df;?_
      cases h
      exact hH J [0,0] J ⟨J,J⟩
     ·refine tK<|tR<|rA J J<|rN<|ab.cF<|tR<|ae.qv (bd J J) J<|rM J J<|rN<|ab.stop<|?_
      cases h
      exact gH _ _ J<|ai.lq [0,0,1] ⟨KM,J⟩ J J
    ·exact ab.exit J<|have h:=bE h df;ab.stop<|ai.lq [0,0] ⟨h,J⟩ J J
  ·rintro aE ⟨h,rfl⟩
   unfold gg at h
   refine ax<|rA J J<|rN<|ab.ret<|?_
   cases h
   exact hH J [0,0] J ⟨J,J⟩
theorem wm {aa:bu} {ah:List aM} {r:Int} (h:fo aa ah=some r):Pu Tryz.prog 40 [bu.av aa,wb ah] (I r):=by
 unfold fo at h
 refine aB.aS Tryz.func40 J Tryz.ntmps40 Tryz.results40 J J ?_
 refine ax<|cm J J J J fun b1=>rA J J<|rN<|ax<|ae.qv (ao J J .p0 J) J<|au h fun v2 e1 h=>B6 h (fun e2 h=>?_) (fun x3 e2 h=>?_)
 ·refine have Kc:=pS e2 (gd e1);aK J Kc cR .nil J J<|rM J J<|rX J J J<|rX J J J<|rA J J<|rA J J<|rN<|tS<|ax<|rM J J<|ae.qv (cG J J) J<|rN<|cD h J (fun h=>?_) (fun h=>?_)
  ·refine ax<|rM J J<|rA J J<|rN<|ab.ret<|?_
   cases h
   exact hP J J
  ·refine tK<|ax<|rM J J<|rM J J<|?_
   cases h
 ·refine have Kd:=pT e2 (gd e1);sU J Kd cR .nil (fun _ _ _ _ _ _=>J) J fun b4 b5 b6 b7 b8 b9=>rM J J<|rX J J J<|rX J J J<|rA J J<|rA J J<|rN<|tS<|ax<|rM J J<|ae.qv (cG J J) J<|rN<|cD h J (fun h=>?_) (fun h=>?_)
  ·refine ax<|rM J J<|rA J J<|rN<|ab.ret<|?_
   cases h
   exact hP J J
  ·refine tK<|ax<|rM J J<|rM J J<|au h fun v10 e3 h=>aK J (nF e3) cR (.cons .p0 (.cons .p0 .nil)) J J<|rA J J<|rN<|ab.ret<|?_
   cases h
   exact hP J J
theorem w9 [GI:bx] {aa:bu} {ah:al} {r:(Option (List al))} (h:qx aa ah=some r):aB Tryz.prog 42 [bu.av aa,.str ah] [] (TM r (T0 ([]) (.nil)) (fun x=>T1 (fun iM=>[(iM,Be x)]) (fun iM=>.sl 1 iM 0 x.length))):=by
 unfold qx at h
 refine aB.dS ?_
 refine aB.aS Tryz.func42 J Tryz.ntmps42 Tryz.results42 J J ?_
 refine ax<|cm J J J J fun b1=>rA J J<|rN<|tS<|ax<|ae.qv (ao J J .p0 J) J<|rM J J<|au h fun v2 e1 h=>aG J (gI e1) cR J<|ae.qv (bG J J) J<|rN<|cD h J (fun h=>?_) (fun h=>?_)
 ·refine ax<|rA J J<|rN<|ab.ret<|?_
  cases h
  exact hH J [] J ⟨J,J⟩
 ·refine tK<|ax<|ae.qv (ao J J .p0 J) J<|rM J J<|au h fun v3 e2 h=>B6 h (fun e3 h=>?_) (fun x4 e3 h=>?_)
  ·refine have Kc:=pS e3 (qE e2);aK J Kc cR .nil J J<|rA J J<|rN<|ab.ret<|?_
   cases h
   exact hH J [] J ⟨J,J⟩
  ·refine have Kd:=pT e3 (qE e2);de J Kd cR .nil (fun _=>J) J fun b5=>rA J J<|rN<|ab.ret<|?_
   cases h
   exact hH J [0] J ⟨b5,J,J⟩
theorem Cw [GI:bx] {aa:Bool} {ah:Int} {r:Int} (h:sB aa ah=r):Pu Tryz.prog 41 [.bool aa,I ah] (I r):=by
 unfold sB at h
 refine aB.aS Tryz.func41 J Tryz.ntmps41 Tryz.results41 J J ?_
 refine ax<|rA J J<|rN<|tS<|ax<|rM J J<|rN<|cB h J (fun h=>?_) (fun h=>?_)
 ·refine ax<|rM J J<|rA J J<|rN<|ab.ret<|?_
  obtain rfl:=h
  exact hP J J
 ·refine tK<|ax<|rA J J<|rN<|ab.ret<|?_
  obtain rfl:=h
  exact hP J J
theorem vJ {aa:al} {r:Int} (h:pj aa=some r):Pu Tryz.prog 30 [.str aa] (I r):=by
 unfold pj at h
 refine aB.aS Tryz.func30 J Tryz.ntmps30 Tryz.results30 J J ?_
 refine ax<|rA J J<|rN<|tS<|ax<|rM J J<|au h fun v1 e1 h=>aG J (qC e1) cR J<|ae.qv (bX J) J<|rN<|cB h J (fun h=>?_) (fun h=>?_)
 ·refine ax<|rA J J<|rN<|ab.ret<|?_
  cases h
  exact hP J J
 ·refine tK<|ax<|rA J J<|rN<|ab.ret<|?_
  cases h
  exact hP J J
theorem fy {aa:bu} {ah:List aH} {bc:List aM} {r:(Option aC)×Int} (h:eZ aa ah bc=some r):aB Tryz.prog 112 [bu.av aa,th ah,wb bc] [] (TM r.1 (T0 ([]) (.om [.raw (.pointer none),I r.2])) (fun x=>T6 (fun iM wY wZ w4 w5 w6=>[(iM,.cells (mV x wY wZ w4 w5 w6)),(wY,eG x.a8),(wZ,ym x.qU),(w4,Kb x.at_),(w5,Dr x.zP),(w6,Ds x.yh)]) (fun iM wY wZ w4 w5 w6=>.om [.ptr iM 0,I r.2]))):=by
 unfold eZ at h
 refine aB.dS ?_
 refine aB.aS Tryz.func112 J Tryz.ntmps112 Tryz.results112 J J ?_
 refine ax<|cm J J J J fun b1=>rA J J<|rA J J<|rN<|ax<|ae.qv (ao J J .p0 J) J<|au h fun v2 e1 h=>B6 h (fun e2 h=>?_) (fun x3 e2 h=>?_)
 ·refine have Kc:=pS e2 (gd e1);aK J Kc cR .nil J J<|rM J J<|rX J J J<|rX J J J<|rA J J<|rA J J<|rN<|tS<|ax<|rM J J<|ae.qv (cG J J) J<|rN<|cD h J (fun h=>?_) (fun h=>?_)
  ·refine ax<|rM J J<|rA J J<|rA J J<|rN<|ab.ret<|?_
   cases h
   exact hI J J [] J ⟨J,J⟩
  ·refine tK<|tS<|ax<|rM J J<|rM J J<|?_
   cases h
 ·refine have Kd:=pT e2 (gd e1);sU J Kd cR .nil (fun _ _ _ _ _ _=>J) J fun b4 b5 b6 b7 b8 b9=>rM J J<|rX J J J<|rX J J J<|rA J J<|rA J J<|rN<|tS<|ax<|rM J J<|ae.qv (cG J J) J<|rN<|cD h J (fun h=>?_) (fun h=>?_)
  ·refine ax<|rM J J<|rA J J<|rA J J<|rN<|ab.ret<|?_
   cases h
   exact hI J J [] J ⟨J,J⟩
  ·refine tK<|tS<|ax<|rM J J<|rM J J<|au h fun v10 e3 h=>aK J (nY e3) cR (.cons .p0 (.cons .p0 .nil)) J J<|rM J J<|rM J J<|au h fun v11 e4 h=>aK J (nF e4) cR (.cons .p0 (.cons .p0 .nil)) J J<|aD (xs:=([v10,v11]:List Int).map I) J J J J J J<|au h fun v12 e5 h=>aG J (zh e5) cR J<|rA J J<|rN<|ax<|rM J J<|ae.qv (cG J J) J<|rN<|cD h J (fun h=>?_) (fun h=>?_)
   ·refine ax<|rM J J<|rA J J<|rA J J<|rN<|ab.ret<|?_
    cases h
    exact hI J J [] J ⟨J,J⟩
   ·refine tK<|ax<|rM J J<|rA J J<|rA J J<|rN<|ab.ret<|?_
    cases h
    exact hI J J [0,0,0,0,0,0] J ⟨b4,b5,b6,b7,b8,b9,J,J⟩
theorem oR [GI:bx] {br:Bk} {aU:Bk} {bS:Bk} {bU:Bk} {bV:Bk} {bW:Bk} {aa:aC} {ah:al} {bc:al} {r:Int} (h:fk aa ah bc=some r):aB Tryz.prog 113 [.ptr br 0,.str ah,.str bc] [(br,.cells (mV aa aU bS bU bV bW)),(aU,eG aa.a8)] (T0 ([(br,.cells (mV aa aU bS bU bV bW)),(aU,eG aa.a8)]) (I r)):=by
 unfold fk at h
 refine aB.dS ?_
 refine aB.aS Tryz.func113 J Tryz.ntmps113 Tryz.results113 J J ?_
 refine ax<|rA J J<|rN<|tS<|ab.block<|ax<|rM J J<|rM J J<|au h fun v1 e1 h=>aK J (ec e1) cR (.cons .p0 (.cons .p0 .nil)) J J<|ae.qv (bX J) J<|rA J J<|rN<|cB h J (fun h=>?_) (fun h=>?_)
 ·refine ax<|rA J J<|rN<|ab.ret<|?_
  cases h
  exact hH J [0,0] J ⟨J,J⟩
 ·refine ax<|rM J J<|au h fun v2 e2 h=>aG J (lD e2) cR J<|ae.qv (bX J) J<|rA J J<|rN<|cB h J (fun h=>?_) (fun h=>?_)
  ·refine ax<|rA J J<|rN<|ab.ret<|?_
   cases h
   exact hH J [0,0] J ⟨J,J⟩
  ·refine tK<|ab.cF<|ax<|rA J J<|rN<|ab.ret<|?_
   cases h
   exact hH J [0,0] J ⟨J,J⟩
theorem vK [GI:bx] {aa:List aM} {r:(List (aj×Int))} (h:pk aa=some r):aB Tryz.prog 115 [wb aa] [] (T1 (fun iM=>[(iM,su r)]) (fun iM=>.gl iM)):=by
 unfold pk at h
 refine aB.dS ?_
 refine aB.aS Tryz.func115 J Tryz.ntmps115 Tryz.results115 J J ?_
 refine ax<|rA J J<|rN<|ax<|re J fun b1=>rA J J<|rN<|tS<|ax<|rM J J<|ae.qv (bA J) J<|rM J J<|rN<|ab.block<|ab.cq (fun x:(List (aj×Int))×Int=>ie aa x.1 x.2) (fun x aE=>aE=⟨27,[(3,.gl b1),(7,wb aa),(8,I (aa.length:Int)),(9,I x.2)],[(b1,su x.1)]⟩) h ?_ ?_
 ·exact ai.lq [0] J J J
 ·intro x z1 aE J1 dN h gH df
  obtain ⟨l4,n5⟩:=x
  obtain rfl:=dN
  replace h:ie aa l4 n5=some z1:=h
  unfold ie at h
  refine ax<|ae.qv (bG J J) J<|rN<|tS<|cD h J (fun h=>?_) (fun h=>?_)
  ·refine tK<|tS<|ab.block<|ax<|au h fun v6 e1 h=>ae.qv (aO J J J e1 J J) J<|ae.qv (aF J J J) J<|bf J J J J fun b7=>aq J J J J .p0 J J<|rN<|au h fun v8 e2 h=>ab.ghost (ai.Ps (k:=.agg [.str v6.an,.str v6.bT]) (fun _=>.p1) (fun Ml=>ai.here ?_))
   refine ab.jM (id:=5) (A:=[0,0,2,0,8,30,63,0,128,511,447,1471,4095]) (H0:=[(b1,.zy (l4.map wi) Ml (.agg [.str v6.an,.str v6.bT]))]) (HH:=fun β=>[(b1,.zy ((kO l4 (⟨v6.an,v6.bT⟩:aj) v8).map wi) Ml (.agg [.str v6.an,.str v6.bT])),(b7,.cells [.str v6.an,.str v6.bT,I v6.mS])]) 12 mixed J (by kernel_rfl) (by kernel_rfl) [⟨none,some 10,[],fun _=>(b1,.zy (l4.map wi) Ml (.agg [.str v6.an,.str v6.bT])),none,[6]⟩,⟨some 10,none,[],fun _=>(b1,.zy ((kO l4 (⟨v6.an,v6.bT⟩:aj) v8).map wi) Ml (.agg [.str v6.an,.str v6.bT])),none,[6]⟩] [] J (by kernel_rfl) J (.cons .p1 .nil) (fun _=>J)<|AT.am 6 J J<|AM.qv (aQ J) J<|AM.qv (az J J) J<|AM.qv (aI J J .p0 J) J<|AM.qv (az J J) J<|AM.qv (aI J J .p0 J) J<|AM.qv (bn J J J J J) J<|AM.nil<|AT.XQ (R0:=fun _=>[(b1,.zy (l4.map wi) Ml (.agg [.str v6.an,.str v6.bT]))]) (R1:=fun _=>[(b1,.zy ((kO l4 (⟨v6.an,v6.bT⟩:aj) v8).map wi) Ml (.agg [.str v6.an,.str v6.bT]))]) (fun _=>J) (fun _=>J) (fun _=>J) (fun _=>J) (fun _=>J) (fun _=>xw (gk:=aj.av) (gv:=I) (M:=l4) (key:=(⟨v6.an,v6.bT⟩:aj)) (L0:=(⟨v6.an,v6.bT⟩:aj)) (q:=Ml) (Z:=(0:Int)) J J .p0 J J J e2 J) (fun _=>xw (gk:=aj.av) (gv:=I) (M:=kO l4 (⟨v6.an,v6.bT⟩:aj) v8) (key:=(⟨v6.an,v6.bT⟩:aj)) (L0:=(⟨v6.an,v6.bT⟩:aj)) (q:=Ml) (Z:=(0:Int)) J J .p0 J J J (Ee e2) J) J<|AT.am 3 J J<|AM.qv (az J J) J<|AM.qv (aI J J .p0 J) J<|AM.qv (bd J J) J<|AM.nil<|AT.tx (av:=.om [I v8,I ((Ml:Nat):Int)]) (Ti:=[(b1,.zy (l4.map wi) Ml (.agg [.str v6.an,.str v6.bT]))]) (Pi:=[(b1,.zy ((kO l4 (⟨v6.an,v6.bT⟩:aj) v8).map wi) Ml (.agg [.str v6.an,.str v6.bT]))]) (fun _=>J) (fun _=>J) (fun _=>J) J J J ?_ ?_
   ·exact Cd (gk:=aj.av) (gv:=I) (M:=l4) (key:=(⟨v6.an,v6.bT⟩:aj)) (Z:=(0:Int)) (v:=v8) J J J J J e2 .p0 J<|ae.nil ⟨_,J,J⟩
   refine AT.am 1 J J<|AM.qv (uX J J) J<|AM.nil<|AT.wJ (fun _=>J) fun β=>yZ (kt:=198) (gk:=aj.av) (gv:=I) (M:=l4) (key:=(⟨v6.an,v6.bT⟩:aj)) (v:=v8) (v':=cr (v8+v6.mS)) J J J J .p0<|rN<|ab.cF<|tR<|ae.qv (bd J J) J<|rM J J<|rN<|ab.stop<|?_
   cases h
   exact gH _ _ J<|ai.lq [0] J J J
  ·refine ab.exit J<|have h:=bE h df;ax<|rM J J<|rA J J<|rN<|ab.ret<|?_
   cases h
   exact hH J [0] J ⟨b1,J,J⟩
theorem nG [GI:bx] {br:Bk} {aU:Bk} {bS:Bk} {bU:Bk} {bV:Bk} {bW:Bk} {Oq:Bk} {aa:aC} {ah:List (aj×Int)} {r:(List (aj×Int))} (h:eP aa ah=some r):aB Tryz.prog 114 [.ptr br 0,.gl Oq] [(br,.cells (mV aa aU bS bU bV bW)),(aU,eG aa.a8),(Oq,su ah)] (T1 (fun iM=>[(br,.cells (mV aa aU bS bU bV bW)),(aU,eG aa.a8),(Oq,su ah),(iM,su r)]) (fun iM=>.gl iM)):=by
 unfold eP at h
 refine aB.dS ?_
 refine aB.aS Tryz.func114 J Tryz.ntmps114 Tryz.results114 J J ?_
 refine ax<|rA J J<|rN<|ax<|re J fun b1=>rA J J<|rN<|tS<|ax<|rM J J<|NW (M:=ah) (enc:=wi) J (fun _ _=>.p3) J fun b2 Vr QQ W6 W7=>rN<|ab.block<|ab.NS (fun e (x:(List (aj×Int)))=>cX aa e x) (fun x:(List (aj×Int))=>fB x) (fun R x aE=>∃ (W8:List Nat),yV Vr QQ W8 (R.map wi)∧aE=⟨39,[(0,.ptr br 0),(5,.gl b1),(12,.ptr b2 0)],[(br,.cells (mV aa aU bS bU bV bW)),(aU,eG aa.a8),(Oq,.KA Vr QQ),(b2,.Ji Oq QQ W8),(b1,su x)]⟩) h ?_ ?_
 ·exact ai.lq [2,2,2,0,0] ⟨[],W7,J⟩ J J
 ·intro R1 l4 aE J1 dN W9 hK1
  obtain ⟨W8,Xa,rfl⟩:=dN
  refine ax<|Qk J Xa .p2 (fun _=>.p3) J (fun hN=>?_) (fun wa R' QR hP hlen TI TJ=>?_)
  ·have h:=V7 W9 hN
   replace h:fB l4=_:=h
   unfold fB at h
   refine ae.ghost<|ai.Qm W6 .p2<|ai.here<|rX J J J<|rN<|tS<|ab.EI J<|ab.exit J<|ax<|rM J J<|rA J J<|rN<|ab.ret<|?_
   cases h
   exact hH J [0,0,0,1] J ⟨b1,J,J⟩
  ·obtain ⟨z1,h,hN1,df⟩:=S9 W9 hP
   replace h:cX aa wa l4=some z1:=h
   unfold cX at h
   have gH:=fun y aE (e:z1=.inl y) hi=>hK1 R' y aE hlen (hN1 y e) hi
   clear hN1 hP hK1 W9
   refine rX J J J<|rN<|tS<|ab.zD J<|tK<|ab.block<|ax<|ae.qv (NX J .p3 .p2 TJ J J) J<|rX J J J<|rX J J J<|bf J J J J fun b5=>aq J J J J .p0 J J<|rA J J<|rN<|ax<|rM J J<|rF J J J<|rL J J .p0 J J<|au h fun v6 e2 h=>de J (lE e2) cR (.cons .p1 (.cons .p1 .nil)) (fun _=>J) J fun b7=>ae.qv (ot J) J<|rM J J<|rN<|ab.block<|ab.cq (fun x:(List (aj×Int))×Int=>cW wa v6 x.1 x.2) (fun x aE=>aE=⟨39,[(0,.ptr br 0),(5,.gl b1),(6,.ptr b5 0),(7,I wa.2),(12,.ptr b2 0),(21,.sl 1 b7 0 v6.length),(22,I (v6.length:Int)),(23,I x.2)],[(br,.cells (mV aa aU bS bU bV bW)),(aU,eG aa.a8),(Oq,.KA Vr QQ),(b1,su x.1),(b5,.cells [.str wa.1.cu,.str wa.1.cZ]),(b2,.Ji Oq QQ QR),(b7,Be v6)]⟩) h ?_ ?_
   ·exact ai.lq [0,0,2,3,1,1,0] J J J
   ·intro x z2 aE J2 dN h Dt zv
    obtain ⟨l10,n11⟩:=x
    obtain rfl:=dN
    replace h:cW wa v6 l10 n11=some z2:=h
    unfold cW at h
    refine ax<|ae.qv (bG J J) J<|rN<|tS<|cD h J (fun h=>?_) (fun h=>?_)
    ·refine tK<|tS<|ab.block<|ax<|au h fun v12 e3 h=>ae.qv (kE J J J e3) J<|ae.qv (ui (g:=AV.str) J J (.inl .p6) e3 J) J<|rA J J<|rN<|au h fun oh e4 h=>ab.ghost (ai.Ps (k:=.agg [.str v12,.str wa.1.cZ]) (fun _=>.p3) (fun Mm=>ai.here ?_))
     refine ab.jM (id:=8) (A:=[0,0,0,4,14,31,0,127,95,351,1023]) (H0:=[(b1,.zy (l10.map wi) Mm (.agg [.str v12,.str wa.1.cZ]))]) (HH:=fun β=>[(b1,.zy ((kO l10 (⟨v12,wa.1.cZ⟩:aj) oh).map wi) Mm (.agg [.str v12,.str wa.1.cZ])),(br,.cells (mV aa aU bS bU bV bW)),(aU,eG aa.a8),(Oq,.KA Vr QQ),(b5,.cells [.str wa.1.cu,.str wa.1.cZ]),(b2,.Ji Oq QQ QR),(b7,Be v6)]) 10 mixed J (by kernel_rfl) (by kernel_rfl) [⟨none,some 8,[],fun _=>(b1,.zy (l10.map wi) Mm (.agg [.str v12,.str wa.1.cZ])),none,[5]⟩,⟨some 8,none,[],fun _=>(b1,.zy ((kO l10 (⟨v12,wa.1.cZ⟩:aj) oh).map wi) Mm (.agg [.str v12,.str wa.1.cZ])),none,[5]⟩] [] J (by kernel_rfl) J (.cons .p3 .nil) (fun _=>J)<|AT.am 5 J J<|AM.qv (aQ J) J<|AM.qv (aQ J) J<|AM.qv (az J J) J<|AM.qv (aI J J .p3 J) J<|AM.qv (bn J J J J J) J<|AM.nil<|AT.XQ (R0:=fun _=>[(b1,.zy (l10.map wi) Mm (.agg [.str v12,.str wa.1.cZ]))]) (R1:=fun _=>[(b1,.zy ((kO l10 (⟨v12,wa.1.cZ⟩:aj) oh).map wi) Mm (.agg [.str v12,.str wa.1.cZ]))]) (fun _=>J) (fun _=>J) (fun _=>J) (fun _=>J) (fun _=>J) (fun _=>xw (gk:=aj.av) (gv:=I) (M:=l10) (key:=(⟨v12,wa.1.cZ⟩:aj)) (L0:=(⟨v12,wa.1.cZ⟩:aj)) (q:=Mm) (Z:=(0:Int)) J J .p0 J J J e4 J) (fun _=>xw (gk:=aj.av) (gv:=I) (M:=kO l10 (⟨v12,wa.1.cZ⟩:aj) oh) (key:=(⟨v12,wa.1.cZ⟩:aj)) (L0:=(⟨v12,wa.1.cZ⟩:aj)) (q:=Mm) (Z:=(0:Int)) J J .p0 J J J (Ee e4) J) J<|AT.am 2 J J<|AM.qv (aQ J) J<|AM.qv (bd J J) J<|AM.nil<|AT.tx (av:=.om [I oh,I ((Mm:Nat):Int)]) (Ti:=[(b1,.zy (l10.map wi) Mm (.agg [.str v12,.str wa.1.cZ]))]) (Pi:=[(b1,.zy ((kO l10 (⟨v12,wa.1.cZ⟩:aj) oh).map wi) Mm (.agg [.str v12,.str wa.1.cZ]))]) (fun _=>J) (fun _=>J) (fun _=>J) J J J ?_ ?_
     ·exact Cd (gk:=aj.av) (gv:=I) (M:=l10) (key:=(⟨v12,wa.1.cZ⟩:aj)) (Z:=(0:Int)) (v:=oh) J J J J J e4 .p0 J<|ae.nil ⟨_,J,J⟩
     refine AT.am 1 J J<|AM.qv (uX J J) J<|AM.nil<|AT.wJ (fun _=>J) fun β=>yZ (kt:=198) (gk:=aj.av) (gv:=I) (M:=l10) (key:=(⟨v12,wa.1.cZ⟩:aj)) (v:=oh) (v':=cr (oh+wa.2)) J J J J .p0<|rN<|ab.cF<|tR<|ae.qv (bd J J) J<|rM J J<|rN<|ab.stop<|?_
     cases h
     exact Dt _ _ J<|ai.lq [1,1,1,0,0,0,0] J J J
    ·refine ab.exit J<|have h:=bE h zv;ab.cF<|ab.stop<|?_
     cases h
     exact gH _ _ J<|ai.lq [0,0,0,2,0] ⟨QR,TI,J⟩ J J
theorem Cx {aa:bu} {ah:List aM} {bc:al} {cz:al} {r:Int×Int} (h:iX aa ah bc cz=some r):Pu Tryz.prog 43 [bu.av aa,wb ah,.str bc,.str cz] (.om [I r.1,I r.2]):=by
 unfold iX at h
 refine aB.aS Tryz.func43 J Tryz.ntmps43 Tryz.results43 J J ?_
 refine ax<|cm J J J J fun b1=>rA J J<|rA J J<|rN<|ax<|ae.qv (ao J J .p0 J) J<|rM J J<|au h fun v2 e1 h=>B6 h (fun e2 h=>?_) (fun x3 e2 h=>?_)
 ·refine have Kc:=pS e2 (fy e1);aK J Kc (.cons (.refl _) (.cons (.nil _) (.cons (.refl _) .nil))) .nil J J<|rM J J<|rX J J J<|rX J J J<|rA J J<|rA J J<|rN<|tS<|ax<|rM J J<|ae.qv (cG J J) J<|rN<|cD h J (fun h=>?_) (fun h=>?_)
  ·refine ax<|rM J J<|rA J J<|rA J J<|rN<|ab.ret<|?_
   cases h
   exact hQ J J J
  ·refine tK<|tS<|ax<|rM J J<|rM J J<|rM J J<|?_
   cases h
 ·refine have Kd:=pT e2 (fy e1);sU J Kd (.cons (.refl _) (.cons (.nil _) (.cons (.refl _) .nil))) .nil (fun _ _ _ _ _ _=>J) J fun b4 b5 b6 b7 b8 b9=>rM J J<|rX J J J<|rX J J J<|rA J J<|rA J J<|rN<|tS<|ax<|rM J J<|ae.qv (cG J J) J<|rN<|cD h J (fun h=>?_) (fun h=>?_)
  ·refine ax<|rM J J<|rA J J<|rA J J<|rN<|ab.ret<|?_
   cases h
   exact hQ J J J
  ·refine tK<|tS<|ax<|rM J J<|rM J J<|rM J J<|au h fun v10 e3 h=>aK J (oR e3) cR (.cons .p0 (.cons .p0 .nil)) J J<|rA J J<|rN<|ax<|rM J J<|ae.qv (cG J J) J<|rN<|cD h J (fun h=>?_) (fun h=>?_)
   ·refine ax<|rM J J<|rA J J<|rA J J<|rN<|ab.ret<|?_
    cases h
    exact hQ J J J
   ·refine tK<|ax<|rM J J<|rM J J<|au h fun v11 e4 h=>de J (vK e4) cR .nil (fun _=>J) J fun TC=>au h fun oh e5 h=>de J (nG e5) cR (.cons .p1 (.cons .p1 (.cons .p0 .nil))) (fun _=>J) J fun Ej=>rM J J<|rM J J<|ae.qv (bn J J J J J) J<|au h fun lB e6 h=>ae.qv (vb (gk:=aj.av) (gv:=I) (M:=oh) (key:=(⟨bc,cz⟩:aj)) (Z:=(0:Int)) J J .p3 J J J e6 J) J<|rA J J<|rA J J<|rN<|ab.ret<|?_
    cases h
    exact hQ J J J
theorem xa [GI:bx] {aa:bu} {ah:List aM} {bc:al} {cz:al} {r:Int} (h:rl aa ah bc cz=some r):Pu Tryz.prog 44 [bu.av aa,wb ah,.str bc,.str cz] (I r):=by
 unfold rl at h
 refine aB.aS Tryz.func44 J Tryz.ntmps44 Tryz.results44 J J ?_
 refine ax<|cm J J J J fun b1=>rA J J<|rN<|ax<|rA J J<|rN<|tS<|ax<|rM J J<|ae.qv (bA J) J<|rM J J<|rN<|ab.block<|ab.cq (fun x:Int×Int=>iY aa ah bc cz x.1 x.2) (fun x aE=>aE=⟨36,[(2,.str bc),(3,.str cz),(4,.ptr b1 0),(9,I x.1),(12,wb ah),(13,I (ah.length:Int)),(14,I x.2)],[(b1,.cells (uE aa))]⟩) h ?_ ?_
 ·exact ai.lq [0] J J J
 ·intro x z1 aE J1 dN h gH df
  obtain ⟨n4,n5⟩:=x
  obtain rfl:=dN
  replace h:iY aa ah bc cz n4 n5=some z1:=h
  unfold iY at h
  refine ax<|ae.qv (bG J J) J<|rN<|tS<|cD h J (fun h=>?_) (fun h=>?_)
  ·refine tK<|tS<|ab.block<|ax<|au h fun v6 e1 h=>ae.qv (aO J J J e1 J J) J<|ae.qv (aF J J J) J<|bf J J J J fun b7=>aq J J J J .p0 J J<|rN<|tS<|ab.cut (fun aE=>∃ (c8:Bool),nU n4 n5 v6 c8=some z1∧aE=⟨36,[(2,.str bc),(3,.str cz),(4,.ptr b1 0),(9,I n4),(11,.ptr b7 0),(12,wb ah),(13,I (ah.length:Int)),(14,I n5),(29,.bool c8)],[(b1,.cells (uE aa)),(b7,.cells [.str v6.an,.str v6.bT,I v6.mS])]⟩) ?_ ?_
   ·refine tR<|rF J J J<|rL J J .p0 J J<|rM J J<|ae.qv (iz J J) J<|rM J J<|gT h J J J (fun h=>?_) (fun h=>?_)
    ·exact ae.qv (ao J J .p1 J) J<|rY J J J<|rF J J J<|rY J J J<|rL J J .p0 J J<|rY J J J<|au h fun v9 e2 h=>aG J (tT e2) cR J<|rY J J J<|rM J J<|rY J J J<|au h fun v10 e3 h=>aG J (bt e3) cR J<|rT J J J<|rN<|ab.stop<|ai.lq [1,0] ⟨v10,h,J⟩ J J
    ·exact rG J J J J<|rG J J J J<|rG J J J J<|rG J J J J<|rG J J J J<|rE J J J<|rN<|ab.stop<|ai.lq [1,0] ⟨false,h,J⟩ J J
   ·rintro aE ⟨c8,h,rfl⟩
    unfold nU at h
    refine ab.cut (fun aE=>∃ (n11:Int),qy n5 n11=some z1∧aE=⟨36,[(2,.str bc),(3,.str cz),(4,.ptr b1 0),(9,I n11),(12,wb ah),(13,I (ah.length:Int)),(14,I n5)],[(b1,.cells (uE aa))]⟩) ?_ ?_
    ·refine cB h J (fun h=>?_) (fun h=>?_)
     ·exact tR<|rM J J<|rF J J J<|rL J J .p1 J J<|ae.qv (bd J J) J<|rA J J<|rN<|ab.stop<|ai.lq [0] ⟨cr (n4+v6.mS),h,J⟩ J J
     ·exact tK<|ab.stop<|ai.lq [0] ⟨n4,h,J⟩ J J
    ·rintro aE ⟨n11,h,rfl⟩
     unfold qy at h
     refine ab.cF<|tR<|ae.qv (bd J J) J<|rM J J<|rN<|ab.stop<|?_
     cases h
     exact gH _ _ J<|ai.lq [0] J J J
  ·refine ab.exit J<|have h:=bE h df;ax<|rM J J<|rA J J<|rN<|ab.ret<|?_
   cases h
   exact hP J J
theorem yp [GI:bx] {br:Bk} {aU:Bk} {bS:Bk} {bU:Bk} {bV:Bk} {bW:Bk} {KN:Bk} {aa:aC} {ah:List aH} {bc:List (aj×Int)} {cz:aj} {r:Int} (h:k8 aa ah bc cz=some r):aB Tryz.prog 116 [.ptr br 0,th ah,.gl KN,aj.av cz] [(br,.cells (mV aa aU bS bU bV bW)),(aU,eG aa.a8),(KN,su bc)] (T0 ([(br,.cells (mV aa aU bS bU bV bW)),(aU,eG aa.a8),(KN,su bc)]) (I r)):=by
 unfold k8 at h
 refine aB.dS ?_
 refine aB.aS Tryz.func116 J Tryz.ntmps116 Tryz.results116 J J ?_
 refine ax<|cm J J J J fun b1=>rA J J<|rN<|ax<|rM J J<|ae.qv (ao J J .p0 J) J<|au h fun v2 e1 h=>ae.qv (vb (gk:=aj.av) (gv:=I) (M:=bc) (key:=cz) (Z:=(0:Int)) J J .p3 J J J e1 J) J<|ae.qv (gi J J) J<|rA J J<|rN<|tS<|au h fun v3 e2 h=>ab.jM (id:=2) (A:=[0,0,3,0,0,16,63,127,255]) (H0:=[(br,.cells (mV aa aU bS bU bV bW)),(aU,eG aa.a8),(KN,su bc)]) (HH:=fun β=>[(br,.cells (mV aa aU bS bU bV bW)),(aU,eG aa.a8),(KN,su bc),((β 2),su v3),(b1,.cells [.str cz.cu,.str cz.cZ])]) 6 mixed J (by kernel_rfl) (by kernel_rfl) [⟨none,some 2,[],fun _=>(br,.cells (mV aa aU bS bU bV bW)),none,[]⟩,⟨none,some 2,[],fun _=>(aU,eG aa.a8),none,[]⟩,⟨none,some 2,[],fun _=>(KN,su bc),none,[]⟩,⟨some 2,none,[],fun b=>(br,.cells (mV aa aU bS bU bV bW)),none,[]⟩,⟨some 2,none,[],fun b=>(aU,eG aa.a8),none,[]⟩,⟨some 2,none,[],fun b=>(KN,su bc),none,[]⟩,⟨some 2,none,[],fun b=>(b,su v3),none,[]⟩] [2] J (by kernel_rfl) J (.cons .p1 (.cons .p1 (.cons .p1 .nil))) (fun _=>J)<|AT.am 2 J J<|AM.qv (aQ J) J<|AM.qv (aQ J) J<|AM.nil<|AT.Hv (V:=fun b=>.gl b) (Ti:=[(br,.cells (mV aa aU bS bU bV bW)),(aU,eG aa.a8),(KN,su bc)]) (Pi:=fun b=>[(br,.cells (mV aa aU bS bU bV bW)),(aU,eG aa.a8),(KN,su bc),(b,su v3)]) (fun _=>J) (fun _=>J) (fun _ _=>J) J (fun _=>J) J J J ?_ ?_
 ·exact de J (nG e2) cR (.cons .p0 (.cons .p0 (.cons .p0 .nil))) (fun _=>J) J fun b4=>ae.nil ⟨b4,_,J,J⟩
 refine AT.am 3 J J<|AM.qv (aQ J) J<|AM.qv (az J J) J<|AM.qv (aI J J .p0 J) J<|AM.nil<|AT.wJ (fun _=>J) fun β=>?_
 generalize β 2=b4
 clear β
 refine au h fun v5 e3 h=>de J (lE e3) cR (.cons .p0 (.cons .p0 .nil)) (fun _=>J) J fun b6=>rA J J<|rA J J<|rN<|tS<|ax<|rM J J<|ae.qv (bA J) J<|rM J J<|rN<|ab.block<|ab.cq (fun x:Int×Int=>dz ah cz v3 v5 x.1 x.2) (fun x aE=>aE=⟨57,[(7,.ptr b1 0),(9,I x.1),(10,.gl b4),(11,.sl 1 b6 0 v5.length),(25,th ah),(26,I (ah.length:Int)),(27,I x.2)],[(br,.cells (mV aa aU bS bU bV bW)),(aU,eG aa.a8),(KN,su bc),(b1,.cells [.str cz.cu,.str cz.cZ]),(b4,su v3),(b6,Be v5)]⟩) h ?_ ?_
 ·exact ai.lq [0,0,1,2,1,0] J J J
 ·intro x z1 aE J1 dN h gH df
  obtain ⟨n9,n10⟩:=x
  obtain rfl:=dN
  replace h:dz ah cz v3 v5 n9 n10=some z1:=h
  unfold dz at h
  refine ax<|ae.qv (bG J J) J<|rN<|tS<|cD h J (fun h=>?_) (fun h=>?_)
  ·refine tK<|tS<|ab.block<|ax<|au h fun v11 e4 h=>ae.qv (aO J J J e4 J J) J<|ae.qv (aF J J J) J<|bf J J J J fun TC=>aq J J J J .p0 J J<|rN<|tS<|ab.cut (fun aE=>∃ (Bc:Bool),gM v3 n9 n10 v11 Bc=some z1∧aE=⟨57,[(7,.ptr b1 0),(9,I n9),(10,.gl b4),(11,.sl 1 b6 0 v5.length),(13,.ptr TC 0),(25,th ah),(26,I (ah.length:Int)),(27,I n10),(41,.bool Bc)],[(br,.cells (mV aa aU bS bU bV bW)),(aU,eG aa.a8),(KN,su bc),(b1,.cells [.str cz.cu,.str cz.cZ]),(b4,su v3),(b6,Be v5),(TC,.cells [.str v11.an,.str v11.bT,I v11.kU])]⟩) ?_ ?_
   ·refine tR<|rF J J J<|rL J J .p0 J J<|rF J J J<|rL J J .p4 J J<|ae.qv (iz J J) J<|rM J J<|gT h J J J (fun h=>?_) (fun h=>?_)
    ·exact rM J J<|rY J J J<|rF J J J<|rY J J J<|rL J J .p0 J J<|rY J J J<|au h fun xy e5 h=>cO J (bt e5) (.cons (qO.nL .p6) (.cons (.co (.refl _)) .nil)) J J<|rT J J J<|rN<|ab.stop<|ai.lq [1,1,1,1,1,1,0] ⟨xy,h,J⟩ J J
    ·exact rG J J J J<|rG J J J J<|rG J J J J<|rE J J J<|rN<|ab.stop<|ai.lq [1,1,1,1,1,1,0] ⟨false,h,J⟩ J J
   ·rintro aE ⟨Bc,h,rfl⟩
    unfold gM at h
    refine ab.cut (fun aE=>∃ (n15:Int),iQ n10 n15=some z1∧aE=⟨57,[(7,.ptr b1 0),(9,I n15),(10,.gl b4),(11,.sl 1 b6 0 v5.length),(25,th ah),(26,I (ah.length:Int)),(27,I n10)],[(br,.cells (mV aa aU bS bU bV bW)),(aU,eG aa.a8),(KN,su bc),(b1,.cells [.str cz.cu,.str cz.cZ]),(b4,su v3),(b6,Be v5)]⟩) ?_ ?_
    ·refine cB h J (fun h=>?_) (fun h=>?_)
     ·exact ab.cV (id:=7) (A:=[0,0,2,0,0,16,0,64,240,504,1022,2046,4095,8191]) 14 mixed J (by kernel_rfl) (by kernel_rfl)<|AM.qv (aQ J) J<|AM.qv (az J J) J<|AM.qv (aI J J .p6 J) J<|AM.qv (aQ J) J<|AM.qv (az J J) J<|AM.qv (aI J J .p6 J) J<|AM.qv (az J J) J<|AM.qv (aI J J .p6 J) J<|AM.qv (bn J J J J J) J<|au h fun uq e6 h=>AM.qv (vb (gk:=aj.av) (gv:=I) (M:=v3) (key:=(⟨v11.an,v11.bT⟩:aj)) (Z:=(0:Int)) J J .p4 J J J e6 J) J<|AM.qv (gi J J) J<|AM.qv (Is J J) J<|AM.qv (O8 J J) J<|AM.qv (bI J) J<|AM.nil<|rN<|ab.stop<|ai.lq [0,0,0,0,0,0] ⟨min n9 (max (0:Int) (cr (v11.kU - uq))),h,J⟩ J J
     ·exact tK<|ab.stop<|ai.lq [0,0,0,0,0,0] ⟨n9,h,J⟩ J J
    ·rintro aE ⟨n15,h,rfl⟩
     unfold iQ at h
     refine ab.cF<|tR<|ae.qv (bd J J) J<|rM J J<|rN<|ab.stop<|?_
     cases h
     exact gH _ _ J<|ai.lq [0,0,0,0,0,0] J J J
  ·refine ab.exit J<|have h:=bE h df;ax<|rM J J<|rA J J<|rN<|ab.ret<|?_
   cases h
   exact hH J [0,0,0] J ⟨J,J⟩
theorem DA {aa:bu} {ah:List aH} {bc:List aM} {cz:al} {cE:al} {r:Int×Int} (h:j0 aa ah bc cz cE=some r):Pu Tryz.prog 45 [bu.av aa,th ah,wb bc,.str cz,.str cE] (.om [I r.1,I r.2]):=by
 unfold j0 at h
 refine aB.aS Tryz.func45 J Tryz.ntmps45 Tryz.results45 J J ?_
 refine ax<|cm J J J J fun b1=>rA J J<|rA J J<|rN<|ax<|ae.qv (ao J J .p0 J) J<|rM J J<|rM J J<|au h fun v2 e1 h=>B6 h (fun e2 h=>?_) (fun x3 e2 h=>?_)
 ·refine have Kc:=pS e2 (fy e1);aK J Kc cR .nil J J<|rM J J<|rX J J J<|rX J J J<|rA J J<|rA J J<|rN<|tS<|ax<|rM J J<|ae.qv (cG J J) J<|rN<|cD h J (fun h=>?_) (fun h=>?_)
  ·refine ax<|rM J J<|rA J J<|rA J J<|rN<|ab.ret<|?_
   cases h
   exact hQ J J J
  ·refine tK<|tS<|ax<|rM J J<|rM J J<|rM J J<|?_
   cases h
 ·refine have Kd:=pT e2 (fy e1);sU J Kd cR .nil (fun _ _ _ _ _ _=>J) J fun b4 b5 b6 b7 b8 b9=>rM J J<|rX J J J<|rX J J J<|rA J J<|rA J J<|rN<|tS<|ax<|rM J J<|ae.qv (cG J J) J<|rN<|cD h J (fun h=>?_) (fun h=>?_)
  ·refine ax<|rM J J<|rA J J<|rA J J<|rN<|ab.ret<|?_
   cases h
   exact hQ J J J
  ·refine tK<|tS<|ax<|rM J J<|rM J J<|rM J J<|au h fun v10 e3 h=>aK J (oR e3) cR (.cons .p0 (.cons .p0 .nil)) J J<|rA J J<|rN<|ax<|rM J J<|ae.qv (cG J J) J<|rN<|cD h J (fun h=>?_) (fun h=>?_)
   ·refine ax<|rM J J<|rA J J<|rA J J<|rN<|ab.ret<|?_
    cases h
    exact hQ J J J
   ·refine tK<|ax<|rM J J<|rM J J<|rM J J<|au h fun v11 e4 h=>de J (vK e4) cR .nil (fun _=>J) J fun TC=>rM J J<|rM J J<|ae.qv (bn J J J J J) J<|au h fun oh e5 h=>aK J (yp e5) cR (.cons .p1 (.cons .p1 (.cons .p0 .nil))) J J<|rA J J<|rA J J<|rN<|ab.ret<|?_
    cases h
    exact hQ J J J
theorem HV [GI:bx] {aa:bu} {ah:List aH} {bc:List aM} {cz:al} {cE:al} {r:Int} (h:wU aa ah bc cz cE=some r):Pu Tryz.prog 46 [bu.av aa,th ah,wb bc,.str cz,.str cE] (I r):=by
 unfold wU at h
 refine aB.aS Tryz.func46 J Tryz.ntmps46 Tryz.results46 J J ?_
 refine ax<|cm J J J J fun b1=>rA J J<|rN<|ax<|rA J J<|rN<|tS<|ax<|rM J J<|ae.qv (bA J) J<|rM J J<|rN<|ab.block<|ab.cq (fun x:Int×Int=>kf aa ah bc cz cE x.1 x.2) (fun x aE=>aE=⟨80,[(1,th ah),(2,wb bc),(3,.str cz),(4,.str cE),(5,.ptr b1 0),(11,I x.1),(19,wb bc),(20,I (bc.length:Int)),(21,I x.2)],[(b1,.cells (uE aa))]⟩) h ?_ ?_
 ·exact ai.lq [0] J J J
 ·intro x z1 aE J1 dN h gH df
  obtain ⟨n4,n5⟩:=x
  obtain rfl:=dN
  replace h:kf aa ah bc cz cE n4 n5=some z1:=h
  unfold kf at h
  refine ax<|ae.qv (bG J J) J<|rN<|tS<|cD h J (fun h=>?_) (fun h=>?_)
  ·refine tK<|tS<|ab.block<|ax<|au h fun v6 e1 h=>ae.qv (aO J J J e1 J J) J<|ae.qv (aF J J J) J<|bf J J J J fun b7=>aq J J J J .p0 J J<|rN<|tS<|ab.cut (fun aE=>∃ (c8:Bool),uA n4 n5 v6 c8=some z1∧aE=⟨80,[(1,th ah),(2,wb bc),(3,.str cz),(4,.str cE),(5,.ptr b1 0),(11,I n4),(13,.ptr b7 0),(19,wb bc),(20,I (bc.length:Int)),(21,I n5),(34,.bool c8)],[(b1,.cells (uE aa)),(b7,.cells [.str v6.an,.str v6.bT,I v6.mS])]⟩) ?_ ?_
   ·refine tR<|rF J J J<|rL J J .p0 J J<|rM J J<|ae.qv (iz J J) J<|rM J J<|ae.cN J J J (fun hc=>?_) (fun hc=>?_)
    ·rw [sK hc] at h
     exact rF J J J<|rY J J J<|rL J J .p0 J J<|rY J J J<|rM J J<|rY J J J<|ae.qv (iz J J) J<|rT J J J<|rN<|ab.stop<|ai.lq [1,0] ⟨decide (v6.bT=cE),h,J⟩ J J
    ·rw [sL hc] at h
     exact rG J J J J<|rG J J J J<|rG J J J J<|rE J J J<|rN<|ab.stop<|ai.lq [1,0] ⟨false,h,J⟩ J J
   ·rintro aE ⟨c8,h,rfl⟩
    unfold uA at h
    refine ab.cut (fun aE=>∃ (n9:Int),sk n5 n9=some z1∧aE=⟨80,[(1,th ah),(2,wb bc),(3,.str cz),(4,.str cE),(5,.ptr b1 0),(11,I n9),(19,wb bc),(20,I (bc.length:Int)),(21,I n5)],[(b1,.cells (uE aa))]⟩) ?_ ?_
    ·refine cB h J (fun h=>?_) (fun h=>?_)
     ·exact tR<|rM J J<|rF J J J<|rL J J .p1 J J<|ae.qv (bd J J) J<|rA J J<|rN<|ab.stop<|ai.lq [0] ⟨cr (n4+v6.mS),h,J⟩ J J
     ·exact tK<|ab.stop<|ai.lq [0] ⟨n4,h,J⟩ J J
    ·rintro aE ⟨n9,h,rfl⟩
     unfold sk at h
     refine ab.cF<|tR<|ae.qv (bd J J) J<|rM J J<|rN<|ab.stop<|?_
     cases h
     exact gH _ _ J<|ai.lq [0] J J J
  ·refine ab.exit J<|have h:=bE h df;?_
   unfold so at h
   refine ax<|rM J J<|ae.qv (gi J J) J<|rA J J<|rN<|tS<|ax<|ae.qv (ao J J .p0 J) J<|rM J J<|au h fun v10 e2 h=>aG J (tT e2) cR J<|ae.qv (bA J) J<|rM J J<|rN<|ab.block<|ab.cq (fun x:Int×Int=>ke aa ah bc cE v10 x.1 x.2) (fun x aE=>aE=⟨80,[(1,th ah),(2,wb bc),(4,.str cE),(5,.ptr b1 0),(14,I x.1),(44,mU v10),(45,I (v10.length:Int)),(46,I x.2)],[(b1,.cells (uE aa))]⟩) h ?_ ?_
   ·exact ai.lq [0] J J J
   ·intro x z2 aE J2 dN h Dt zv
    obtain ⟨n13,n14⟩:=x
    obtain rfl:=dN
    replace h:ke aa ah bc cE v10 n13 n14=some z2:=h
    unfold ke at h
    refine ax<|ae.qv (bG J J) J<|rN<|tS<|cD h J (fun h=>?_) (fun h=>?_)
    ·refine tK<|tS<|ab.block<|ax<|au h fun lB e3 h=>ae.qv (aO J J J e3 J J) J<|ae.qv (aJ J J J) J<|rA J J<|rN<|ax<|rM J J<|ae.qv (bA J) J<|rM J J<|rN<|ab.block<|ab.cq (fun x:Int×Int=>j9 aa ah bc cE n14 lB x.1 x.2) (fun x aE=>aE=⟨80,[(1,th ah),(2,wb bc),(4,.str cE),(5,.ptr b1 0),(14,I x.1),(16,.str lB),(44,mU v10),(45,I (v10.length:Int)),(46,I n14),(50,th ah),(51,I (ah.length:Int)),(52,I x.2)],[(b1,.cells (uE aa))]⟩) h ?_ ?_
     ·exact ai.lq [0] J J J
     ·intro x z3 aE J3 dN h Om Mj
      obtain ⟨n18,n19⟩:=x
      obtain rfl:=dN
      replace h:j9 aa ah bc cE n14 lB n18 n19=some z3:=h
      unfold j9 at h
      refine ax<|ae.qv (bG J J) J<|rN<|tS<|cD h J (fun h=>?_) (fun h=>?_)
      ·refine tK<|tS<|ab.block<|ax<|au h fun v20 e4 h=>ae.qv (aO J J J e4 J J) J<|ae.qv (aF J J J) J<|bf J J J J fun Vq=>aq J J J J .p0 J J<|rN<|tS<|ab.cut (fun aE=>∃ (Tt:Bool),uB aa bc cE lB n18 n19 v20 Tt=some z3∧aE=⟨80,[(1,th ah),(2,wb bc),(4,.str cE),(5,.ptr b1 0),(14,I n18),(16,.str lB),(18,.ptr Vq 0),(44,mU v10),(45,I (v10.length:Int)),(46,I n14),(50,th ah),(51,I (ah.length:Int)),(52,I n19),(65,.bool Tt)],[(b1,.cells (uE aa)),(Vq,.cells [.str v20.an,.str v20.bT,I v20.kU])]⟩) ?_ ?_
       ·refine tR<|rF J J J<|rL J J .p0 J J<|rM J J<|ae.qv (iz J J) J<|rM J J<|ae.cN J J J (fun hc=>?_) (fun hc=>?_)
        ·rw [sK hc] at h
         exact rF J J J<|rY J J J<|rL J J .p0 J J<|rY J J J<|rM J J<|rY J J J<|ae.qv (iz J J) J<|rT J J J<|rN<|ab.stop<|ai.lq [1,0] ⟨decide (v20.bT=cE),h,J⟩ J J
        ·rw [sL hc] at h
         exact rG J J J J<|rG J J J J<|rG J J J J<|rE J J J<|rN<|ab.stop<|ai.lq [1,0] ⟨false,h,J⟩ J J
       ·rintro aE ⟨Tt,h,rfl⟩
        unfold uB at h
        refine ab.cut (fun aE=>∃ (n23:Int),sn n19 n23=some z3∧aE=⟨80,[(1,th ah),(2,wb bc),(4,.str cE),(5,.ptr b1 0),(14,I n23),(16,.str lB),(44,mU v10),(45,I (v10.length:Int)),(46,I n14),(50,th ah),(51,I (ah.length:Int)),(52,I n19)],[(b1,.cells (uE aa))]⟩) ?_ ?_
        ·refine cB h J (fun h=>?_) (fun h=>?_)
         ·exact ab.cV (id:=16) (A:=[0,0,2,0,0,0,0,120,254,511,1023]) 11 mixed J (by kernel_rfl) (by kernel_rfl)<|AM.qv (aQ J) J<|AM.qv (az J J) J<|AM.qv (aI J J .p1 J) J<|AM.qv (ao J J .p0 J) J<|AM.qv (aQ J) J<|AM.qv (aQ J) J<|AM.qv (aQ J) J<|au h fun v24 e5 h=>AM.gj J (xa e5) cR J<|AM.qv (gi J J) J<|AM.qv (O8 J J) J<|AM.qv (bI J) J<|AM.nil<|rN<|ab.stop<|ai.lq [0] ⟨min n18 (cr (v20.kU - v24)),h,J⟩ J J
         ·exact tK<|ab.stop<|ai.lq [0] ⟨n18,h,J⟩ J J
        ·rintro aE ⟨n23,h,rfl⟩
         unfold sn at h
         refine ab.cF<|tR<|ae.qv (bd J J) J<|rM J J<|rN<|ab.stop<|?_
         cases h
         exact Om _ _ J<|ai.lq [0] J J J
      ·refine ab.exit J<|have h:=bE h Mj;ab.cF<|tR<|ae.qv (bd J J) J<|rM J J<|rN<|ab.stop<|?_
       cases h
       exact Dt _ _ J<|ai.lq [0] J J J
    ·refine ab.exit J<|have h:=bE h zv;ax<|rM J J<|ae.qv (Is J J) J<|rA J J<|rN<|ab.ret<|?_
     cases h
     exact hP J J
theorem lG [GI:bx] {br:Bk} {aU:Bk} {bS:Bk} {bU:Bk} {bV:Bk} {bW:Bk} {aa:aC} {ah:List aH} {bc:List aM} {r:(List aH)} (h:fY aa ah bc=some r):aB Tryz.prog 117 [.ptr br 0,th ah,wb bc] [(br,.cells (mV aa aU bS bU bV bW)),(aU,eG aa.a8)] (T1 (fun iM=>[(br,.cells (mV aa aU bS bU bV bW)),(aU,eG aa.a8),(iM,Ei r)]) (fun iM=>.sl 3 iM 0 r.length)):=by
 unfold fY at h
 refine aB.dS ?_
 refine aB.aS Tryz.func117 J Tryz.ntmps117 Tryz.results117 J J ?_
 refine ax<|rA J J<|rN<|ax<|rM J J<|rM J J<|au h fun v1 e1 h=>de J (vK e1) cR .nil (fun _=>J) J fun b2=>au h fun v3 e2 h=>de J (nG e2) cR (.cons .p1 (.cons .p1 (.cons .p0 .nil))) (fun _=>J) J fun b4=>rA J J<|rN<|ax<|rA J J<|rN<|tS<|ax<|rM J J<|ae.qv (bA J) J<|rM J J<|rN<|ab.block<|ab.cq (fun x:(List aH)×Int=>dA ah v3 x.1 x.2) (fun x aE=>∃ (b8:Bk),aE=⟨37,[(7,.gl b4),(8,.sl 3 b8 0 x.1.length),(15,th ah),(16,I (ah.length:Int)),(17,I x.2)],[(br,.cells (mV aa aU bS bU bV bW)),(aU,eG aa.a8),(b4,su v3),(b8,Ei x.1)]⟩) h ?_ ?_
 ·exact ai.arr (s:=8) 3 J fun yn=>ai.lq [1,1,2,0] ⟨yn,J⟩ J J
 ·intro x z1 aE J1 dN h gH df
  obtain ⟨l9,n10⟩:=x
  obtain ⟨b8,rfl⟩:=dN
  replace h:dA ah v3 l9 n10=some z1:=h
  unfold dA at h
  refine ax<|ae.qv (bG J J) J<|rN<|tS<|cD h J (fun h=>?_) (fun h=>?_)
  ·refine tK<|tS<|ab.block<|ax<|au h fun v12 e3 h=>ae.qv (aO J J J e3 J J) J<|ae.qv (aF J J J) J<|bf J J J J fun Dv=>aq J J J J .p0 J J<|rN<|tS<|ab.cV (id:=6) (A:=[0,1,0,0,8,0,32,120,252,511]) 10 mixed J (by kernel_rfl) (by kernel_rfl)<|AM.qv (az J J) J<|AM.qv (aI J J .p0 J) J<|AM.qv (aQ J) J<|AM.qv (az J J) J<|AM.qv (aI J J .p0 J) J<|AM.qv (az J J) J<|AM.qv (aI J J .p0 J) J<|AM.qv (bn J J J J J) J<|au h fun xy e4 h=>AM.qv (vb (gk:=aj.av) (gv:=I) (M:=v3) (key:=(⟨v12.an,v12.bT⟩:aj)) (Z:=(0:Int)) J J .p3 J J J e4 J) J<|AM.qv (bG J J) J<|AM.nil<|rN<|ab.cut (fun aE=>∃ (On:Bk) (JY:List aH),iR n10 JY=some z1∧aE=⟨37,[(7,.gl b4),(8,.sl 3 On 0 JY.length),(15,th ah),(16,I (ah.length:Int)),(17,I n10)],[(br,.cells (mV aa aU bS bU bV bW)),(aU,eG aa.a8),(b4,su v3),(On,Ei JY)]⟩) ?_ ?_
   ·refine cD h J (fun h=>?_) (fun h=>?_)
    ·exact tR<|rM J J<|ae.qv (ao J J .p0 J) J<|aD (xs:=([v12]:List aH).map aH.av) J J J J J J<|au h fun E4 e5 h=>dt (g:=aH.av) J J J J J J J J (.list _) e5 (fun _=>.p4) J fun KM=>rA J J<|rN<|ab.stop<|ai.lq [1,1,1,1] ⟨KM,E4,h,J⟩ J J
    ·exact tK<|ab.stop<|ai.lq [1,1,1,1] ⟨b8,l9,h,J⟩ J J
   ·rintro aE ⟨On,JY,h,rfl⟩
    unfold iR at h
    refine ab.cF<|tR<|ae.qv (bd J J) J<|rM J J<|rN<|ab.stop<|?_
    cases h
    exact gH _ _ J<|ai.lq [0,0,0,0] ⟨On,J⟩ J J
  ·refine ab.exit J<|have h:=bE h df;ax<|rM J J<|rA J J<|rN<|ab.ret<|?_
   cases h
   exact hH J [0,0,1] J ⟨b8,J,J⟩
theorem DB {aa:bu} {ah:List aH} {bc:List aM} {r:(List aH)×Int} (h:kh aa ah bc=some r):aB Tryz.prog 47 [bu.av aa,th ah,wb bc] [] (T1 (fun iM=>[(iM,Ei r.1)]) (fun iM=>.om [.sl 3 iM 0 r.1.length,I r.2])):=by
 unfold kh at h
 refine aB.dS ?_
 refine aB.aS Tryz.func47 J Tryz.ntmps47 Tryz.results47 J J ?_
 refine ax<|cm J J J J fun b1=>rA J J<|rA J J<|rN<|ax<|ae.qv (ao J J .p0 J) J<|rM J J<|rM J J<|au h fun v2 e1 h=>B6 h (fun e2 h=>?_) (fun x3 e2 h=>?_)
 ·refine have Kc:=pS e2 (fy e1);aK J Kc cR .nil J J<|rM J J<|rX J J J<|rX J J J<|rA J J<|rA J J<|rN<|tS<|ax<|rM J J<|ae.qv (cG J J) J<|rN<|cD h J (fun h=>?_) (fun h=>?_)
  ·refine ax<|rM J J<|rA J J<|rA J J<|rN<|ab.ret<|?_
   cases h
   exact ai.arr (s:=6) 3 J fun b4=>ai.here ⟨_,.cons (.tmp _ _ J) (.cons (.tmp _ _ J) .nil),_,.cons .p0 .nil,⟨b4,J,J⟩⟩
  ·refine tK<|ax<|rM J J<|rM J J<|rM J J<|?_
   cases h
 ·refine have Kd:=pT e2 (fy e1);sU J Kd cR .nil (fun _ _ _ _ _ _=>J) J fun b5 b6 b7 b8 b9 Ek=>rM J J<|rX J J J<|rX J J J<|rA J J<|rA J J<|rN<|tS<|ax<|rM J J<|ae.qv (cG J J) J<|rN<|cD h J (fun h=>?_) (fun h=>?_)
  ·refine ax<|rM J J<|rA J J<|rA J J<|rN<|ab.ret<|?_
   cases h
   exact ai.arr (s:=6) 3 J fun yn=>ai.here ⟨_,.cons (.tmp _ _ J) (.cons (.tmp _ _ J) .nil),_,.cons .p0 .nil,⟨yn,J,J⟩⟩
  ·refine tK<|ax<|rM J J<|rM J J<|rM J J<|au h fun v12 e3 h=>de J (lG e3) cR (.cons .p0 (.cons .p0 .nil)) (fun _=>J) J fun Dv=>rA J J<|rA J J<|rN<|ab.ret<|?_
   cases h
   exact hI J J [2] J ⟨Dv,J,J⟩
theorem tW [GI:bx] {aa:List aH} {r:(List aH)} (h:ig aa=some r):aB Tryz.prog 119 [.list 3 (aa.map aH.av)] [] (T1 (fun iM=>[(iM,.arr 3 (r.map aH.av))]) (fun iM=>.sl 3 iM 0 r.length)):=by
 unfold ig at h
 refine aB.dS ?_
 refine aB.aS Tryz.func119 J Tryz.ntmps119 Tryz.results119 J J ?_
 refine ab.seq ?_
 refine ab.region ?_
 refine ae.qv (bI J) J ?_
 refine ae.nil ?_
 refine ab.seq ?_
 refine ab.seq ?_
 refine ab.region ?_
 refine ae.qv (aQ J) J ?_
 refine yU J J J J (fun c hc=>?_)
 refine ae.nil ?_
 refine ab.cond J (fun hT=>?_) (fun hF=>?_)
 ·obtain rfl:=pR h (List.map_eq_nil_iff.1 (hc hT))
  refine ab.seq ?_
  refine ab.region ?_
  refine ae.qv (bI J) J ?_
  refine ae.nil ?_
  refine ab.ret ?_
  refine ai.arr (s:=2) 3 J (fun b1=>?_)
  exact ai.here ⟨_,.cons (.tmp _ _ J) .nil,_,.cons .here .nil,⟨b1,J,J⟩⟩
 ·refine ab.skip ?_
  refine ab.seq ?_
  refine ab.region ?_
  refine jK (xs:=([]:List aH).map aH.av) J J J J J J (fun b2=>?_)
  refine ae.qv (aQ J) J ?_
  refine dt (g:=aH.av) (Xs:=[]) J J J J J J J J (.list _) h (fun _=>.here) J (fun b3=>?_)
  refine ae.qv (bI J) J ?_
  refine ae.nil ?_
  refine ab.ret ?_
  exact ai.here ⟨_,.cons (.tmp _ _ J) .nil,_,.cons .here .nil,⟨b3,J,J⟩⟩
theorem DC [GI:bx] {aa:aH} {ah:bu} {bc:List aM} {r:Bool} (h:pA aa ah bc=some r):Pu Tryz.prog 120 [aH.av aa,.mu [y8 ah.ak,C3 ah.ba,Dq ah.aL,Ch ah.aR],.mu [wb bc]] (.bool r):=by
 unfold pA at h
 refine aB.aS Tryz.func120 J Tryz.ntmps120 Tryz.results120 J J ?_
 refine ax<|cm J J J J fun b1=>rA J J<|rN<|tS<|ab.cV (id:=1) (A:=[0,1,0,0,0,16,0,64,252,511,1023]) 11 mixed J (by kernel_rfl) (by kernel_rfl)<|AM.qv (az J J) J<|AM.qv (aI J J .p0 J) J<|AM.qv (aF J J J) J<|AM.qv (aJ J J J) J<|AM.qv (az J J) J<|AM.qv (aI J J .p0 J) J<|AM.qv (az J J) J<|AM.qv (aI J J .p0 J) J<|au h fun v2 e1 h=>AM.gj J (xa e1) cR J<|AM.qv (tq J J) J<|AM.qv (bI J) J<|AM.nil<|rN<|ab.ret<|?_
 cases h
 exact hP J J
theorem lj [GI:bx] {aa:List aH} {jz:aH→Option Bool} {fP:FuncId} [bb Tryz.prog fP] {iT:List AV} (qW:∀ {y0:_} {u:Bool},jz y0=some u→Pu Tryz.prog fP (aH.av y0 :: iT) (.bool u)) {r:Int} (h:fN aa jz=some r):Pu Tryz.prog 195 [th aa,.func (.func fP) iT] (I r):=by
 unfold fN at h
 refine aB.aS Tryz.func195 J Tryz.ntmps195 Tryz.results195 J J ?_
 refine ax<|rA J J<|rN<|tS<|ax<|rM J J<|ae.qv (bA J) J<|rM J J<|rN<|ab.block<|ab.cq (fun x:Int=>eK aa jz x) (fun x aE=>aE=⟨19,[(0,th aa),(1,.func (.func fP) iT),(7,I (aa.length:Int)),(8,I x)],[]⟩) h ?_ ?_
 ·exact ai.lq [] J J J
 ·intro n2 z1 aE J1 dN h gH df
  obtain rfl:=dN
  replace h:eK aa jz n2=some z1:=h
  unfold eK at h
  refine ax<|ae.qv (bG J J) J<|rN<|tS<|cD h J (fun h=>?_) (fun h=>?_)
  ·refine tK<|tS<|ab.block<|ax<|rM J J<|rA J J<|rN<|ax<|rM J J<|rM J J<|rM J J<|au h fun v3 e1 h=>ae.qv (aO J J J e1 J J) J<|ae.qv (aF J J J) J<|au h fun v4 e2 h=>pJ J J (qW e2) cR J<|rN<|cB h J (fun h=>?_) (fun h=>?_)
   ·refine ax<|rM J J<|rA J J<|rN<|ab.ret<|have h:=bE h df;?_
    cases h
    exact hP J J
   ·refine tK<|ab.cF<|tR<|ae.qv (bd J J) J<|rM J J<|rN<|ab.stop<|?_
    cases h
    exact gH _ _ J<|ai.lq [] J J J
  ·refine ab.exit J<|have h:=bE h df;ax<|rA J J<|rN<|ab.ret<|?_
   cases h
   exact hP J J
theorem qS [GI:bx] {br:Bk} {aa:List aH} {jz:aH→Option Bool} {fP:FuncId} [bb Tryz.prog fP] {iT:List AV} (qW:∀ {y0:_} {u:Bool},jz y0=some u→Pu Tryz.prog fP (aH.av y0 :: iT) (.bool u)) {r:(List aH)} (h:fu aa jz=some r):aB Tryz.prog 118 [.sl 3 br 0 aa.length,.func (.func fP) iT] [(br,Ei aa)] (T1 (fun iM=>[(iM,Ei r)]) (fun iM=>.sl 3 iM 0 r.length)):=by
 unfold fu at h
 refine aB.dS ?_
 refine aB.aS Tryz.func118 J Tryz.ntmps118 Tryz.results118 J J ?_
 refine ax<|rA J J<|rN<|ax<|rM J J<|rM J J<|au h fun v1 e1 h=>cO J (lj qW e1) (.cons (qO.nL .p0) (.cons (.co (.refl _)) .nil)) J J<|rA J J<|rN<|tS<|ax<|rM J J<|ae.qv (cL J J) J<|rN<|cD h J (fun h=>?_) (fun h=>?_)
 ·refine ax<|rM J J<|rA J J<|rN<|ab.ret<|?_
  cases h
  exact hH J [0] J ⟨br,J,J⟩
 ·refine tK<|tS<|ax<|rM J J<|ae.qv (bd J J) J<|rA J J<|rN<|ab.block<|ab.cq (fun x:(List aH)×Int×Int=>et jz x.1 x.2.1 x.2.2) (fun x aE=>aE=⟨42,[(0,.sl 3 br 0 x.1.length),(1,.func (.func fP) iT),(5,I x.2.1),(6,I x.2.2)],[(br,Ei x.1)]⟩) h ?_ ?_
  ·exact ai.lq [0] J J J
  ·intro x z1 aE J1 dN h gH df
   obtain ⟨l5,n6,n7⟩:=x
   obtain rfl:=dN
   replace h:et jz l5 n6 n7=some z1:=h
   unfold et at h
   refine tS<|ax<|rM J J<|rM J J<|ae.qv (ot J) J<|ae.qv (bG J J) J<|rN<|cD h J (fun h=>?_) (fun h=>?_)
   ·refine tK<|tS<|ab.block<|ax<|rM J J<|rM J J<|au h fun v8 e2 h=>ae.qv (kE J J J e2) J<|ae.qv (A9 (g:=aH.av) J J (.inl .p0) J e2 J) J<|bf J J J J fun b9=>aq J J J J .p0 J J<|rN<|ax<|rM J J<|ae.qv (ao J J .p0 J) J<|au h fun v10 e3 h=>pJ J J (qW e3) cR J<|ae.qv (bX J) J<|rN<|ab.cut (fun aE=>∃ (yl:List aH) (n12:Int),er n7 yl n12=some z1∧aE=⟨42,[(0,.sl 3 br 0 yl.length),(1,.func (.func fP) iT),(5,I n12),(6,I n7)],[(br,Ei yl)]⟩) ?_ ?_
    ·refine cB h J (fun h=>?_) (fun h=>?_)
     ·exact ax<|rM J J<|rM J J<|ae.qv (ao J J .p0 J) J<|au h fun oh e4 h=>ae.qv (kE J J J e4) J<|ou (g:=aH.av) (IE:=v8) J J J J e4 J .p1 J<|ae.ghost<|ai.eqs (s:=0) (r7:=.sl 3 br 0 (l5.set n6.toNat v8).length) J (by rw [List.length_set])<|ai.here<|ae.ghost<|ai.eqs (s:=17) (r7:=.sl 3 br 0 (l5.set n6.toNat v8).length) J (by rw [List.length_set])<|ai.here<|ae.ghost<|ai.eqs (s:=22) (r7:=.sl 3 br 0 (l5.set n6.toNat v8).length) J (by rw [List.length_set])<|ai.here<|ae.ghost<|ai.eqs (s:=30) (r7:=.sl 3 br 0 (l5.set n6.toNat v8).length) J (by rw [List.length_set])<|ai.here<|rN<|tR<|rM J J<|ae.qv (bd J J) J<|rA J J<|rN<|ab.stop<|ai.lq [1] ⟨l5.set n6.toNat v8,cr (n6+(1:Int)),h,J⟩ J J
     ·exact tK<|ab.stop<|ai.lq [1] ⟨l5,n6,h,J⟩ J J
    ·rintro aE ⟨yl,n12,h,rfl⟩
     unfold er at h
     refine ab.cF<|tR<|rM J J<|ae.qv (bd J J) J<|rA J J<|rN<|ab.stop<|?_
     cases h
     exact gH _ _ J<|ai.lq [0] J J J
   ·refine ab.exit J<|have h:=bE h df;?_
    unfold kj at h
    refine ax<|rM J J<|rM J J<|au h fun yi e5 h=>ae.qv (tz J J (.some _ _ _ J) .none J J e5) J<|NP (g:=aH.av) (Z:=(⟨[],[],(0:Int)⟩:aH)) (L:=n6) J J J J J J e5 .p0<|ae.ghost<|ai.eqs (s:=0) (r7:=.sl 3 br 0 (IK l5 n6 yi.length (⟨[],[],(0:Int)⟩:aH)).length) J (congrArg (AV.sl 3 br 0) (EX e5))<|ai.here<|ae.ghost<|ai.eqs (s:=17) (r7:=.sl 3 br 0 (IK l5 n6 yi.length (⟨[],[],(0:Int)⟩:aH)).length) J (congrArg (AV.sl 3 br 0) (EX e5))<|ai.here<|ae.ghost<|ai.eqs (s:=36) (r7:=.sl 3 br 0 (IK l5 n6 yi.length (⟨[],[],(0:Int)⟩:aH)).length) J (congrArg (AV.sl 3 br 0) (EX e5))<|ai.here<|rN<|ax<|rM J J<|rM J J<|au h fun AL e6 h=>ae.qv (tz J J .none (.some _ _ _ J) J J e6) J<|rA J J<|ae.ghost<|ai.LC e6 .p0<|ai.here<|rN<|ab.ret<|?_
    cases h
    exact hH J [0] J ⟨br,J,J⟩
theorem yq [GI:bx] {aa:bu} {ah:List aH} {bc:List aM} {r:(List aH)} (h:tO aa ah bc=some r):aB Tryz.prog 49 [bu.av aa,th ah,wb bc] [] (T1 (fun iM=>[(iM,Ei r)]) (fun iM=>.sl 3 iM 0 r.length)):=by
 unfold tO at h
 refine aB.dS ?_
 refine aB.aS Tryz.func49 J Tryz.ntmps49 Tryz.results49 J J ?_
 refine ax<|cm J J J J fun b1=>cm J J J J fun b2=>rA J J<|rN<|ax<|rM J J<|au h fun v3 e1 h=>de J (tW e1) cR .nil (fun _=>J) J fun b4=>ae.qv (jk J) J<|au h fun v5 e2 h=>B2 J (qS (fun e=>DC e) e2) (.cons .p0 .nil) (.cons (.co (.refl _)) (.cons (.tv _ _ _ (.cons (.C9 _ _ _ .p1 (.cons (.co (.refl _)) (.cons (.co (.refl _)) (.cons (.co (.refl _)) (.cons (.co (.refl _)) .nil))))) (.cons (.C9 _ _ _ .p0 (.cons (.co (.refl _)) .nil)) .nil))) .nil)) (fun _=>J) (fun _=>J) (fun _=>(.cons (Pm.nL (fun _=>J)) .nil)) J fun b6=>rA J J<|rN<|ab.ret<|?_
 cases h
 exact hH J [0] J ⟨b6,J,J⟩
theorem tX [GI:bx] {aa:List aH} {ah:List aH} {r:Bool} (h:ij aa ah=some r):Pu Tryz.prog 48 [th aa,th ah] (.bool r):=by
 unfold ij at h
 refine aB.aS Tryz.func48 J Tryz.ntmps48 Tryz.results48 J J ?_
 refine ax<|rA J J<|rN<|tS<|ax<|rM J J<|ae.qv (bA J) J<|rM J J<|ae.qv (bA J) J<|ae.qv (cG J J) J<|rN<|cD h J (fun h=>?_) (fun h=>?_)
 ·refine ax<|rA J J<|rN<|ab.ret<|?_
  cases h
  exact hP J J
 ·refine tK<|tS<|ax<|rM J J<|ae.qv (bA J) J<|rM J J<|rN<|ab.block<|ab.cq (fun x:Int=>gh aa ah x) (fun x aE=>aE=⟨26,[(0,th aa),(1,th ah),(12,I (aa.length:Int)),(13,I x)],[]⟩) h ?_ ?_
  ·exact ai.lq [] J J J
  ·intro n2 z1 aE J1 dN h gH df
   obtain rfl:=dN
   replace h:gh aa ah n2=some z1:=h
   unfold gh at h
   refine ax<|ae.qv (bG J J) J<|rN<|tS<|cD h J (fun h=>?_) (fun h=>?_)
   ·refine tK<|tS<|ab.block<|ax<|rM J J<|rA J J<|rN<|tS<|ab.cV (id:=6) (A:=[0,0,3,7,0,0,48,112,255]) 9 mixed J (by kernel_rfl) (by kernel_rfl)<|AM.qv (aQ J) J<|AM.qv (aQ J) J<|au h fun v3 e1 h=>AM.qv (aO J J J e1 J J) J<|AM.qv (aF J J J) J<|AM.qv (aQ J) J<|AM.qv (aQ J) J<|au h fun v4 e2 h=>AM.qv (aO J J J e2 J J) J<|AM.qv (aF J J J) J<|AM.qv (wH (g:=aH.av) (X:=v3) (Y:=v4) J J J J J) J<|AM.nil<|rN<|cD h J (fun h=>?_) (fun h=>?_)
    ·refine ax<|rA J J<|rN<|ab.ret<|have h:=bE h df;?_
     cases h
     exact hP J J
    ·refine tK<|ab.cF<|tR<|ae.qv (bd J J) J<|rM J J<|rN<|ab.stop<|?_
     cases h
     exact gH _ _ J<|ai.lq [] J J J
   ·refine ab.exit J<|have h:=bE h df;ax<|rA J J<|rN<|ab.ret<|?_
    cases h
    exact hP J J
theorem ma [GI:bx] {aa:List an} {r:(List an)} (h:dG aa=some r):aB Tryz.prog 126 [.list 2 (aa.map an.av)] [] (T1 (fun iM=>[(iM,.arr 2 (r.map an.av))]) (fun iM=>.sl 2 iM 0 r.length)):=by
 unfold dG at h
 refine aB.dS ?_
 refine aB.aS Tryz.func126 J Tryz.ntmps126 Tryz.results126 J J ?_
 refine ab.seq ?_
 refine ab.region ?_
 refine ae.qv (bI J) J ?_
 refine ae.nil ?_
 refine ab.seq ?_
 refine ab.seq ?_
 refine ab.region ?_
 refine ae.qv (aQ J) J ?_
 refine yU J J J J (fun c hc=>?_)
 refine ae.nil ?_
 refine ab.cond J (fun hT=>?_) (fun hF=>?_)
 ·obtain rfl:=pR h (List.map_eq_nil_iff.1 (hc hT))
  refine ab.seq ?_
  refine ab.region ?_
  refine ae.qv (bI J) J ?_
  refine ae.nil ?_
  refine ab.ret ?_
  refine ai.arr (s:=2) 2 J (fun b1=>?_)
  exact ai.here ⟨_,.cons (.tmp _ _ J) .nil,_,.cons .here .nil,⟨b1,J,J⟩⟩
 ·refine ab.skip ?_
  refine ab.seq ?_
  refine ab.region ?_
  refine jK (xs:=([]:List an).map an.av) J J J J J J (fun b2=>?_)
  refine ae.qv (aQ J) J ?_
  refine dt (g:=an.av) (Xs:=[]) J J J J J J J J (.list _) h (fun _=>.here) J (fun b3=>?_)
  refine ae.qv (bI J) J ?_
  refine ae.nil ?_
  refine ab.ret ?_
  exact ai.here ⟨_,.cons (.tmp _ _ J) .nil,_,.cons .here .nil,⟨b3,J,J⟩⟩
theorem sE [GI:bx] {aa:List bj} {r:(List bj)} (h:gD aa=some r):aB Tryz.prog 196 [.list 3 (aa.map bj.av)] [] (T1 (fun iM=>[(iM,.arr 3 (r.map bj.av))]) (fun iM=>.sl 3 iM 0 r.length)):=by
 unfold gD at h
 refine aB.dS ?_
 refine aB.aS Tryz.func196 J Tryz.ntmps196 Tryz.results196 J J ?_
 refine ab.seq ?_
 refine ab.region ?_
 refine ae.qv (bI J) J ?_
 refine ae.nil ?_
 refine ab.seq ?_
 refine ab.seq ?_
 refine ab.region ?_
 refine ae.qv (aQ J) J ?_
 refine yU J J J J (fun c hc=>?_)
 refine ae.nil ?_
 refine ab.cond J (fun hT=>?_) (fun hF=>?_)
 ·obtain rfl:=pR h (List.map_eq_nil_iff.1 (hc hT))
  refine ab.seq ?_
  refine ab.region ?_
  refine ae.qv (bI J) J ?_
  refine ae.nil ?_
  refine ab.ret ?_
  refine ai.arr (s:=2) 3 J (fun b1=>?_)
  exact ai.here ⟨_,.cons (.tmp _ _ J) .nil,_,.cons .here .nil,⟨b1,J,J⟩⟩
 ·refine ab.skip ?_
  refine ab.seq ?_
  refine ab.region ?_
  refine jK (xs:=([]:List bj).map bj.av) J J J J J J (fun b2=>?_)
  refine ae.qv (aQ J) J ?_
  refine dt (g:=bj.av) (Xs:=[]) J J J J J J J J (.list _) h (fun _=>.here) J (fun b3=>?_)
  refine ae.qv (bI J) J ?_
  refine ae.nil ?_
  refine ab.ret ?_
  exact ai.here ⟨_,.cons (.tmp _ _ J) .nil,_,.cons .here .nil,⟨b3,J,J⟩⟩
theorem mb [GI:bx] {aa:List al} {r:(List al)} (h:dH aa=some r):aB Tryz.prog 197 [.list 1 (aa.map AV.str)] [] (T1 (fun iM=>[(iM,.arr 1 (r.map AV.str))]) (fun iM=>.sl 1 iM 0 r.length)):=by
 unfold dH at h
 refine aB.dS ?_
 refine aB.aS Tryz.func197 J Tryz.ntmps197 Tryz.results197 J J ?_
 refine ab.seq ?_
 refine ab.region ?_
 refine ae.qv (bI J) J ?_
 refine ae.nil ?_
 refine ab.seq ?_
 refine ab.seq ?_
 refine ab.region ?_
 refine ae.qv (aQ J) J ?_
 refine yU J J J J (fun c hc=>?_)
 refine ae.nil ?_
 refine ab.cond J (fun hT=>?_) (fun hF=>?_)
 ·obtain rfl:=pR h (List.map_eq_nil_iff.1 (hc hT))
  refine ab.seq ?_
  refine ab.region ?_
  refine ae.qv (bI J) J ?_
  refine ae.nil ?_
  refine ab.ret ?_
  refine ai.arr (s:=2) 1 J (fun b1=>?_)
  exact ai.here ⟨_,.cons (.tmp _ _ J) .nil,_,.cons .here .nil,⟨b1,J,J⟩⟩
 ·refine ab.skip ?_
  refine ab.seq ?_
  refine ab.region ?_
  refine jK (xs:=([]:List al).map AV.str) J J J J J J (fun b2=>?_)
  refine ae.qv (aQ J) J ?_
  refine dt (g:=AV.str) (Xs:=[]) J J J J J J J J (.list _) h (fun _=>.here) J (fun b3=>?_)
  refine ae.qv (bI J) J ?_
  refine ae.nil ?_
  refine ab.ret ?_
  exact ai.here ⟨_,.cons (.tmp _ _ J) .nil,_,.cons .here .nil,⟨b3,J,J⟩⟩
theorem wo [GI:bx] {self:Query→Option Query} (pn:∀ {aa:Query} {r:Query},self aa=some r→Pu Tryz.prog 198 [.agg [I aa.Kind,.str aa.Field,.str aa.Op,I aa.Value.Kind,.bool aa.Value.cf,I aa.Value.Number,.str aa.Value.Words,I aa.Version.bQ,I aa.Version.bR,I aa.Version.bN,lr aa.Kids]] (.agg [I r.Kind,.str r.Field,.str r.Op,I r.Value.Kind,.bool r.Value.cf,I r.Value.Number,.str r.Value.Words,I r.Version.bQ,I r.Version.bR,I r.Version.bN,lr r.Kids])) {aa:Query} {r:Query} (h:iS self aa=some r):Pu Tryz.prog 198 [.agg [I aa.Kind,.str aa.Field,.str aa.Op,I aa.Value.Kind,.bool aa.Value.cf,I aa.Value.Number,.str aa.Value.Words,I aa.Version.bQ,I aa.Version.bR,I aa.Version.bN,lr aa.Kids]] (.agg [I r.Kind,.str r.Field,.str r.Op,I r.Value.Kind,.bool r.Value.cf,I r.Value.Number,.str r.Value.Words,I r.Version.bQ,I r.Version.bR,I r.Version.bN,lr r.Kids]):=by
 unfold iS at h
 refine aB.aS Tryz.func198 J Tryz.ntmps198 Tryz.results198 J J ?_
 refine ax<|cm J J J J fun b1=>bf J J J J fun b2=>rN<|ax<|rF J J J<|rL J J .p1 J J<|rA J J<|rN<|ax<|rF J J J<|aq J J J J .p1 J J<|rN<|tS<|ax<|rM J J<|ae.qv (bA J) J<|rM J J<|rN<|ab.block<|ab.cq (fun x:(List Query)×Int=>dB self aa x.1 x.2) (fun x aE=>∃ (b6:Bk),aE=⟨24,[(1,.ptr b1 0),(2,.ptr b2 0),(9,lr aa.Kids),(10,I (aa.Kids.length:Int)),(11,I x.2)],[(b1,.cells [I aa.Kind,.str aa.Field,.str aa.Op,I aa.Value.Kind,.bool aa.Value.cf,I aa.Value.Number,.str aa.Value.Words,I aa.Version.bQ,I aa.Version.bR,I aa.Version.bN,.sl 11 b6 0 x.1.length]),(b6,Nc x.1),(b2,.cells [I (0:Int),.str [],.str [],I (0:Int),.bool false,I (0:Int),.str [],I (0:Int),I (0:Int),I (0:Int),.nil])]⟩) h ?_ ?_
 ·exact ai.zL (j:=10) 11 (fun _=>.p1) J (fun _=>J) (fun _=>J) fun b9=>ai.lq [2,0,0] ⟨b9,J⟩ J J
 ·intro x z1 aE J1 dN h gH df
  obtain ⟨l7,n8⟩:=x
  obtain ⟨b6,rfl⟩:=dN
  replace h:dB self aa l7 n8=some z1:=h
  unfold dB at h
  refine ax<|ae.qv (bG J J) J<|rN<|tS<|cD h J (fun h=>?_) (fun h=>?_)
  ·refine tK<|tS<|ab.block<|ax<|au h fun v10 e1 h=>ae.qv (aO J J J e1 J (by rw [Query.pV];rfl)) J<|ae.qv (aF J J J) J<|bf J J J J fun yn=>aq J J J J .p0 J J<|rN<|ab.cV (id:=6) (A:=[0,1,0,4,12,31,63,127]) 5 mixed J (by kernel_rfl) (by kernel_rfl)<|AM.qv (az J J) J<|AM.qv (aI J J .p1 J) J<|AM.qv (ao J J .p0 J) J<|au h fun v12 e2 h=>AM.gj J (pn e2) cR J<|AM.bz (xs:=([v12]:List Query).map Query.av) J (by simp only [List.map_cons,List.map_nil,Query.pV];rfl) J (by simp only [List.map_cons,List.map_nil,Query.pV];rfl) J J<|AM.nil<|au h fun l13 e3 h=>dt (g:=Query.av) J J J J J J J J (.list _) e3 (fun _=>.p2) J fun Ej=>rF J J J<|aq J J J J .p1 J J<|rN<|ab.cF<|tR<|ae.qv (bd J J) J<|rM J J<|rN<|ab.stop<|?_
   cases h
   exact gH _ _ J<|ai.lq [1,1,1] ⟨Ej,J⟩ J J
  ·refine ab.exit J<|have h:=bE h df;ax<|ae.qv (ao J J .p0 J) J<|aq J J J J .p2 J J<|rN<|ab.ret<|?_
   cases h
   exact ai.freeze .p1<|ai.u6 (j:=10) .p2 J (Co.sx .p1) J J<|ai.here ⟨_,.cons (.all _ _ _ _ _ _ J .p2 aA.h aN.h J J) .nil,J⟩
theorem xb [GI:bx]:∀ (k:Nat) {aa:Query} {r:Query},dQ k aa=some r→Pu Tryz.prog 198 [.agg [I aa.Kind,.str aa.Field,.str aa.Op,I aa.Value.Kind,.bool aa.Value.cf,I aa.Value.Number,.str aa.Value.Words,I aa.Version.bQ,I aa.Version.bR,I aa.Version.bN,lr aa.Kids]] (.agg [I r.Kind,.str r.Field,.str r.Op,I r.Value.Kind,.bool r.Value.cf,I r.Value.Number,.str r.Value.Words,I r.Version.bQ,I r.Version.bR,I r.Version.bN,lr r.Kids]):=by
 intro k
 induction k with
 | zero=>intro aa r h;cases h
 | succ k ih=>intro aa r h;exact wo ih h
theorem yr [GI:bx] {aa:Query} {r:Query} (h:rm aa=some r):Pu Tryz.prog 198 [.agg [I aa.Kind,.str aa.Field,.str aa.Op,I aa.Value.Kind,.bool aa.Value.cf,I aa.Value.Number,.str aa.Value.Words,I aa.Version.bQ,I aa.Version.bR,I aa.Version.bN,lr aa.Kids]] (.agg [I r.Kind,.str r.Field,.str r.Op,I r.Value.Kind,.bool r.Value.cf,I r.Value.Number,.str r.Value.Words,I r.Version.bQ,I r.Version.bR,I r.Version.bN,lr r.Kids]):=xb depth h
theorem Ac [GI:bx] {aa:bu} {r:bu} (h:nz aa=some r):aB Tryz.prog 122 [bu.av aa] [] (T4 (fun Ci Cj Ck Cl=>[(Ci,xR r.ak),(Cj,zR r.ba),(Ck,xQ r.aL),(Cl,C4 r.aR)]) (fun Ci Cj Ck Cl=>.agg [.sl 2 Ci 0 r.ak.length,.sl 2 Cj 0 r.ba.length,.sl 3 Ck 0 r.aL.length,.sl 17 Cl 0 r.aR.length])):=by
 unfold nz at h
 refine aB.dS ?_
 refine aB.aS Tryz.func122 J Tryz.ntmps122 Tryz.results122 J J ?_
 refine ax<|cm J J J J fun b1=>bf J J J J fun b2=>rN<|tS<|au h fun v3 e1 h=>au h fun v5 e2 h=>ab.jM (id:=1) (A:=[0,1,3,0,8,31,63,0,255]) (H0:=[]) (HH:=fun β=>[((Na (β 6)),xR v3),((Nb (β 6)),xQ v5),((β 7),.cells [.nil,.nil,.nil,.nil]),(b2,.cells [.nil,.nil,.nil,.nil]),(b1,.cells (uE aa))]) 8 mixed J (by kernel_rfl) (by kernel_rfl) [⟨some 2,some 6,[],fun b=>(b,xR v3),none,[]⟩,⟨some 5,some 6,[],fun b=>(b,xQ v5),none,[]⟩,⟨some 6,none,[],fun b=>(Na b,xR v3),none,[]⟩,⟨some 6,none,[],fun b=>(Nb b,xQ v5),none,[]⟩,⟨some 7,none,[],fun b=>(b,.cells [.nil,.nil,.nil,.nil]),none,[]⟩] [2,5,6,7] J (by kernel_rfl) J .nil (fun _=>J)<|AT.am 2 J J<|AM.qv (az J J) J<|AM.qv (aI J J .p1 J) J<|AM.nil<|AT.Hv (V:=fun b=>.sl 2 b 0 v3.length) (Ti:=[]) (Pi:=fun b=>[(b,xR v3)]) (fun _=>J) (fun _=>J) (fun _ _=>J) J (fun _=>J) J J J ?_ ?_
 ·exact de J (ma e1) cR .nil (fun _=>J) J fun b4=>ae.nil ⟨b4,_,J,J⟩
 refine AT.am 2 J J<|AM.qv (az J J) J<|AM.qv (aI J J .p1 J) J<|AM.nil<|AT.Hv (V:=fun b=>.sl 3 b 0 v5.length) (Ti:=[]) (Pi:=fun b=>[(b,xQ v5)]) (fun _=>J) (fun _=>J) (fun _ _=>J) J (fun _=>J) J J J ?_ ?_
 ·exact de J (sE e2) cR .nil (fun _=>J) J fun b6=>ae.nil ⟨b6,_,J,J⟩
 refine AT.Tq (V:=fun x y=>.agg [.sl 2 x 0 v3.length,.nil,.sl 3 y 0 v5.length,.nil]) (Ti:=fun β=>[((β 2),xR v3),((β 5),xQ v5)]) (Pi:=fun x y=>[(x,xR v3),(y,xQ v5)]) (fun _=>J) (fun _=>J) (fun _ _=>J) (fun _=>J) (fun _ _=>J) J J J (fun β=>?_) ?_
 ·generalize β 2=b4
  generalize β 5=b6
  exact ae.qv (bn J J J J J) J<|ae.nil ⟨b4,b6,_,J,J⟩
 refine AT.Hv (V:=fun b=>.ptr b 0) (Ti:=[]) (Pi:=fun b=>[(b,.cells [.nil,.nil,.nil,.nil])]) (fun _=>J) (fun _=>J) (fun _ _=>J) J (fun _=>J) J J J ?_ ?_
 ·exact bf J J J J fun b9=>ae.nil ⟨b9,_,J,J⟩
 refine AT.wJ (fun _=>J) fun β=>?_
 generalize Na (β 6)=b7
 generalize Nb (β 6)=b8
 generalize β 2=b4
 generalize β 5=b6
 generalize β 7=b9
 clear β
 refine aq J J J J .p2 J J<|rN<|tS<|ax<|rF J J J<|rL J J .p4 J J<|ae.qv (bA J) J<|rM J J<|rN<|ab.block<|ab.cq (fun x:(List bF)×Int=>ey aa v3 v5 x.1 x.2) (fun x aE=>∃ (Dv:Bk),aE=⟨56,[(1,.ptr b1 0),(2,.ptr b2 0),(3,.ptr b9 0),(16,C3 aa.ba),(17,I (aa.ba.length:Int)),(18,I x.2)],[(b1,.cells (uE aa)),(b2,.cells [.nil,.nil,.nil,.nil]),(b9,.cells [.sl 2 b7 0 v3.length,.sl 2 Dv 0 x.1.length,.sl 3 b8 0 v5.length,.nil]),(b7,xR v3),(Dv,zR x.1),(b8,xQ v5)]⟩) h ?_ ?_
 ·exact ai.zL (j:=1) 2 (fun _=>.p2) J (fun _=>J) (fun _=>J) fun KO=>ai.lq [5,4,3,1,0,0] ⟨KO,J⟩ J J
 ·intro x z1 aE J1 dN h gH df
  obtain ⟨yi,n15⟩:=x
  obtain ⟨Dv,rfl⟩:=dN
  replace h:ey aa v3 v5 yi n15=some z1:=h
  unfold ey at h
  refine ax<|ae.qv (bG J J) J<|rN<|tS<|cD h J (fun h=>?_) (fun h=>?_)
  ·refine tK<|tS<|ab.block<|ax<|au h fun v17 e3 h=>ae.qv (aO J J J e3 J J) J<|ae.qv (aF J J J) J<|bf J J J J fun KM=>aq J J J J .p0 J J<|rN<|ax<|rF J J J<|rL J J .p0 J J<|au h fun iV e4 h=>de J (mb e4) cR .nil (fun _=>J) J fun Bf=>rF J J J<|aq J J J J .p1 J J<|rN<|tR<|rF J J J<|rL J J .p4 J J<|ae.qv (ao J J .p1 J) J<|ae.ghost<|ai.freeze .p0<|ai.here<|aD (xs:=[.agg [.str v17.Key,.sl 1 Bf 0 iV.length]]) J J J J J J<|ae.ghost<|ai.Rp (s:=29) (r7:=.list 2 (([(⟨v17.Key,iV⟩:bF)]:List bF).map bF.av)) J (zr.IJ (.cons .r (.cons (.co (Co.sx .p0)) .nil)) J J)<|ai.here<|au h fun wP e5 h=>dt (g:=bF.av) J J J J J J J J (.list _) e5 (fun _=>.p6) J fun Sg=>rF J J J<|aq J J J J .p4 J J<|rN<|ab.cF<|tR<|ae.qv (bd J J) J<|rM J J<|rN<|ab.stop<|?_
   cases h
   exact gH _ _ J<|ai.lq [2,2,2,2,2,2] ⟨Sg,J⟩ J J
  ·refine ab.exit J<|have h:=bE h df;tS<|ax<|rF J J J<|rL J J .p0 J J<|ae.qv (bA J) J<|rM J J<|rN<|ab.block<|ab.cq (fun x:(List bJ)×Int=>ew aa v3 v5 yi x.1 x.2) (fun x aE=>∃ (FF:Bk),aE=⟨56,[(2,.ptr b2 0),(3,.ptr b9 0),(34,Ch aa.aR),(35,I (aa.aR.length:Int)),(36,I x.2)],[(b2,.cells [.nil,.nil,.nil,.nil]),(b9,.cells [.sl 2 b7 0 v3.length,.sl 2 Dv 0 yi.length,.sl 3 b8 0 v5.length,.sl 17 FF 0 x.1.length]),(b7,xR v3),(Dv,zR yi),(b8,xQ v5),(FF,C4 x.1)]⟩) h ?_ ?_
   ·exact ai.zL (j:=3) 17 (fun _=>.p2) J (fun _=>J) (fun _=>J) fun b29=>ai.lq [2,2,2,2,2,0] ⟨b29,J⟩ J J
   ·intro x z2 aE J2 dN h Dt zv
    obtain ⟨Cf,n28⟩:=x
    obtain ⟨FF,rfl⟩:=dN
    replace h:ew aa v3 v5 yi Cf n28=some z2:=h
    unfold ew at h
    refine ax<|ae.qv (bG J J) J<|rN<|tS<|cD h J (fun h=>?_) (fun h=>?_)
    ·refine tK<|tS<|ab.block<|ax<|au h fun v30 e6 h=>ae.qv (aO J J J e6 J J) J<|ae.qv (aF J J J) J<|bf J J J J fun Si=>aq J J J J .p0 J J<|rN<|tS<|au h fun v32 e7 h=>au h fun E5 e8 h=>ab.jM (id:=11) (A:=[0,1,3,0,8,31,31,127,255,511]) (H0:=[]) (HH:=fun β=>[((β 2),Be v32),(Si,.cells (QI v30)),(b2,.cells [.nil,.nil,.nil,.nil]),(b9,.cells [.sl 2 b7 0 v3.length,.sl 2 Dv 0 yi.length,.sl 3 b8 0 v5.length,.sl 17 FF 0 Cf.length]),(b7,xR v3),(Dv,zR yi),(b8,xQ v5),(FF,C4 Cf)]) 7 mixed J (by kernel_rfl) (by kernel_rfl) [⟨some 2,none,[],fun b=>(b,Be v32),none,[]⟩] [2] J (by kernel_rfl) J .nil (fun _=>J)<|AT.am 2 J J<|AM.qv (az J J) J<|AM.qv (aI J J .p0 J) J<|AM.nil<|AT.Hv (V:=fun b=>.sl 1 b 0 v32.length) (Ti:=[]) (Pi:=fun b=>[(b,Be v32)]) (fun _=>J) (fun _=>J) (fun _ _=>J) J (fun _=>J) J J J ?_ ?_
     ·exact de J (mb e7) cR .nil (fun _=>J) J fun Vs=>ae.nil ⟨Vs,_,J,J⟩
     refine AT.am 4 J J<|AM.qv (az J J) J<|AM.qv (bg J J .p0 J J) J<|AM.gj J (yr e8) cR J<|AM.qv (az J J) J<|AM.nil<|AT.wJ (fun _=>J) fun β=>?_
     generalize β 2=Vs
     clear β
     refine aq J J J J .p1 J J<|rF J J J<|aq J J J J .p1 J J<|rN<|tR<|rF J J J<|rL J J .p3 J J<|ae.qv (ao J J .p1 J) J<|ae.ghost<|ai.freeze .p0<|ai.here<|aD (xs:=[.agg [.str v30.Key,.str v30.iU,.str v30.To,I E5.Kind,.str E5.Field,.str E5.Op,I E5.Value.Kind,.bool E5.Value.cf,I E5.Value.Number,.str E5.Value.Words,I E5.Version.bQ,I E5.Version.bR,I E5.Version.bN,lr E5.Kids,.sl 1 Vs 0 v32.length,I v30.Time.iU,I v30.Time.To]]) J J J J J J<|ae.ghost<|ai.Rp (s:=51) (r7:=.list 17 (([(⟨v30.Key,v30.iU,v30.To,E5,v32,v30.Time⟩:bJ)]:List bJ).map bJ.av)) J (zr.IJ (.cons .r (.cons .r (.cons .r (.cons .r (.cons .r (.cons .r (.cons .r (.cons .r (.cons .r (.cons .r (.cons .r (.cons .r (.cons .r (.cons .r (.cons (.co (Co.sx .p0)) (.cons .r (.cons .r .nil))))))))))))))))) J J)<|ai.here<|au h fun Oj e9 h=>dt (g:=bJ.av) J J J J J J J J (.list _) e9 (fun _=>.p7) J fun b36=>rF J J J<|aq J J J J .p3 J J<|rN<|ab.cF<|tR<|ae.qv (bd J J) J<|rM J J<|rN<|ab.stop<|?_
     cases h
     exact Dt _ _ J<|ai.lq [2,2,2,2,2,2] ⟨b36,J⟩ J J
    ·refine ab.exit J<|have h:=bE h zv;ax<|ae.qv (ao J J .p1 J) J<|aq J J J J .p0 J J<|rN<|ab.ret<|?_
     cases h
     exact ai.here ⟨_,.cons (.all _ _ _ _ _ _ J .p0 aA.h aN.h J J) .nil,_,.cons .p2 (.cons .p2 (.cons .p2 (.cons .p2 .nil))),⟨b7,Dv,b8,FF,J,J⟩⟩
theorem tY [GI:bx] {aa:List aH} {ah:aH} {r:Int} (h:fJ aa ah=some r):Pu Tryz.prog 199 [th aa,aH.av ah] (I r):=by
 unfold fJ at h
 refine aB.aS Tryz.func199 J Tryz.ntmps199 Tryz.results199 J J ?_
 refine ax<|cm J J J J fun b1=>rA J J<|rN<|tS<|ax<|rM J J<|ae.qv (bA J) J<|rM J J<|rN<|ab.block<|ab.cq (fun x:Int=>ez aa ah x) (fun x aE=>aE=⟨19,[(0,th aa),(3,.ptr b1 0),(7,I (aa.length:Int)),(8,I x)],[(b1,.cells [.str ah.an,.str ah.bT,I ah.kU])]⟩) h ?_ ?_
 ·exact ai.lq [0] J J J
 ·intro n3 z1 aE J1 dN h gH df
  obtain rfl:=dN
  replace h:ez aa ah n3=some z1:=h
  unfold ez at h
  refine ax<|ae.qv (bG J J) J<|rN<|tS<|cD h J (fun h=>?_) (fun h=>?_)
  ·refine tK<|tS<|ab.block<|ax<|rM J J<|rA J J<|rN<|tS<|ab.cV (id:=4) (A:=[0,0,0,6,14,31]) 6 mixed J (by kernel_rfl) (by kernel_rfl)<|AM.qv (ao J J .p0 J) J<|AM.qv (aQ J) J<|AM.qv (aQ J) J<|au h fun v4 e1 h=>AM.qv (aO J J J e1 J J) J<|AM.qv (aF J J J) J<|AM.qv (F4 (g:=aH.av) (X:=ah) (Y:=v4) J J J J J) J<|AM.nil<|rN<|cD h J (fun h=>?_) (fun h=>?_)
   ·refine ax<|rM J J<|rA J J<|rN<|ab.ret<|have h:=bE h df;?_
    cases h
    exact hP J J
   ·refine tK<|ab.cF<|tR<|ae.qv (bd J J) J<|rM J J<|rN<|ab.stop<|?_
    cases h
    exact gH _ _ J<|ai.lq [0] J J J
  ·refine ab.exit J<|have h:=bE h df;ax<|rA J J<|rN<|ab.ret<|?_
   cases h
   exact hP J J
theorem lu [GI:bx] {aa:List aH} {ah:aH} {r:Bool} (h:dq aa ah=some r):Pu Tryz.prog 125 [th aa,aH.av ah] (.bool r):=by
 unfold dq at h
 refine aB.aS Tryz.func125 J Tryz.ntmps125 Tryz.results125 J J ?_
 refine ax<|cm J J J J fun b1=>rA J J<|rN<|ax<|rM J J<|ae.qv (ao J J .p0 J) J<|au h fun v2 e1 h=>aG J (tY e1) cR J<|ae.qv (tq J J) J<|rA J J<|rN<|ab.ret<|?_
 cases h
 exact hP J J
theorem Ad [GI:bx] {aa:aH} {ah:List aH} {r:Bool} (h:k9 aa ah=some r):Pu Tryz.prog 124 [aH.av aa,.mu [th ah]] (.bool r):=by
 unfold k9 at h
 refine aB.aS Tryz.func124 J Tryz.ntmps124 Tryz.results124 J J ?_
 refine ax<|cm J J J J fun b1=>rA J J<|rN<|ax<|ae.qv (aJ J J J) J<|ae.qv (ao J J .p0 J) J<|au h fun v2 e1 h=>aG J (lu e1) cR J<|ae.qv (bX J) J<|rA J J<|rN<|ab.ret<|?_
 cases h
 exact hP J J
theorem jC [GI:bx] {aa:List aH} {jz:aH→Option Bool} {fP:FuncId} [bb Tryz.prog fP] {iT:List AV} (qW:∀ {y0:_} {u:Bool},jz y0=some u→Pu Tryz.prog fP (aH.av y0 :: iT) (.bool u)) {r:Bool} (h:cC aa jz=some r):Pu Tryz.prog 123 [th aa,.func (.func fP) iT] (.bool r):=by
 unfold cC at h
 refine aB.aS Tryz.func123 J Tryz.ntmps123 Tryz.results123 J J ?_
 refine ax<|rA J J<|rN<|ax<|rM J J<|rM J J<|au h fun v1 e1 h=>cO J (lj qW e1) (.cons (.co (.refl _)) (.cons (.co (.refl _)) .nil)) J J<|ae.qv (tq J J) J<|rA J J<|rN<|ab.ret<|?_
 cases h
 exact hP J J
theorem DD {aa:bu} {ah:List aH} {bc:List aM} {cz:al} {cE:al} {r:bu×Int} (h:je aa ah bc cz cE=some r):Pu Tryz.prog 50 [bu.av aa,th ah,wb bc,.str cz,.str cE] (.om [bu.av r.1,I r.2]):=by
 unfold je at h
 refine aB.aS Tryz.func50 J Tryz.ntmps50 Tryz.results50 J J ?_
 refine ax<|cm J J J J fun b1=>bf J J J J fun b2=>rA J J<|rN<|ax<|ae.qv (ao J J .p1 J) J<|rM J J<|rM J J<|au h fun v3 e1 h=>B6 h (fun e2 h=>?_) (fun x4 e2 h=>?_)
 ·refine have cM9:=pS e2 (fy e1);aK J cM9 cR .nil J J<|rM J J<|rX J J J<|rX J J J<|rA J J<|rA J J<|rN<|tS<|ab.block<|ax<|rM J J<|ae.qv (cG J J) J<|rA J J<|rN<|cD h J (fun h=>?_) (fun h=>?_)
  ·refine ax<|ae.qv (bn J J J J J) J<|rM J J<|aq J J J J .p0 J J<|rA J J<|rN<|ab.ret<|?_
   cases h
   exact ai.cd (j:=0) 2 .p0 J J J<|ai.cd (j:=1) 2 .p0 J J J<|ai.cd (j:=2) 3 .p0 J J J<|ai.cd (j:=3) 17 .p0 J J J<|ai.here ⟨_,.cons (.all _ _ _ _ _ _ J .p0 aA.h aN.h J J) (.cons (.tmp _ _ J) .nil),J⟩
  ·refine ax<|rM J J<|rM J J<|?_
   cases h
 ·refine have Xb:=pT e2 (fy e1);sU J Xb cR .nil (fun _ _ _ _ _ _=>J) J fun b5 b6 b7 b8 b9 Ek=>rM J J<|rX J J J<|rX J J J<|rA J J<|rA J J<|rN<|tS<|ab.block<|ax<|rM J J<|ae.qv (cG J J) J<|rA J J<|rN<|cD h J (fun h=>?_) (fun h=>?_)
  ·refine ax<|ae.qv (bn J J J J J) J<|rM J J<|aq J J J J .p6 J J<|rA J J<|rN<|ab.ret<|?_
   cases h
   exact ai.cd (j:=0) 2 .p6 J J J<|ai.cd (j:=1) 2 .p6 J J J<|ai.cd (j:=2) 3 .p6 J J J<|ai.cd (j:=3) 17 .p6 J J J<|ai.here ⟨_,.cons (.all _ _ _ _ _ _ J .p6 aA.h aN.h J J) (.cons (.tmp _ _ J) .nil),J⟩
  ·refine tS<|ab.cut (fun aE=>∃ (y5:Bool),dI aa ah bc cz cE x4 y5=some r∧aE=⟨100,[(1,th ah),(2,wb bc),(3,.str cz),(4,.str cE),(5,.ptr b1 0),(10,.ptr b2 0),(12,.ptr b5 0),(30,.bool y5)],[(b1,.cells (uE aa)),(b2,.cells [.nil,.nil,.nil,.nil]),(b5,.cells (mV x4 b6 b7 b8 b9 Ek)),(b6,eG x4.a8),(b7,ym x4.qU),(b8,Kb x4.at_),(b9,Dr x4.zP),(Ek,Ds x4.yh)]⟩) ?_ ?_
   ·refine tR<|rM J J<|rM J J<|au h fun v12 e3 h=>aK J (ec e3) cR (.cons .p0 (.cons .p0 .nil)) J J<|ae.qv (bX J) J<|rM J J<|ae.guard J J J (fun hc=>?_) (fun hc=>?_)
    ·refine have h:=lM hc h;rM J J<|rY J J J<|ae.qv (tt J J) J<|rY J J J<|rM J J<|gT h J J J (fun h=>?_) (fun h=>?_)
     ·exact rM J J<|rY J J J<|rM J J<|rY J J J<|au h fun oh e4 h=>aK J (ec e4) cR (.cons .p0 (.cons .p0 .nil)) J J<|rY J J J<|ae.qv (bX J) J<|rY J J J<|rT J J J<|rE J J J<|rA J J<|rN<|ab.stop<|ai.lq [7,6,0,0,0,0,0,0] ⟨!oh,h,J⟩ J J
     ·exact rG J J J J<|rG J J J J<|rG J J J J<|rY J J J<|rE J J J<|rE J J J<|rA J J<|rN<|ab.stop<|ai.lq [7,6,0,0,0,0,0,0] ⟨false,h,J⟩ J J
    ·exact have h:=lL hc h;rG J J J J<|rG J J J J<|ae.bq J J J<|ae.bq J J J<|ae.bq J J J<|ae.bq J J J<|rG J J J J<|rT J J J<|rA J J<|rN<|ab.stop<|ai.lq [7,6,0,0,0,0,0,0] ⟨true,h,J⟩ J J
   ·rintro aE ⟨y5,h,rfl⟩
    unfold dI at h
    refine cB h J (fun h=>?_) (fun h=>?_)
    ·refine ax<|ae.qv (bn J J J J J) J<|aq J J J J .p1 J J<|rA J J<|rN<|ab.ret<|?_
     cases h
     exact ai.cd (j:=0) 2 .p1 J J J<|ai.cd (j:=1) 2 .p1 J J J<|ai.cd (j:=2) 3 .p1 J J J<|ai.cd (j:=3) 17 .p1 J J J<|ai.here ⟨_,.cons (.all _ _ _ _ _ _ J .p1 aA.h aN.h J J) (.cons (.tmp _ _ J) .nil),J⟩
    ·refine ax<|rM J J<|ae.qv (aY J) J<|rF J J J<|rL J J .p2 J J<|rM J J<|au h fun xy e5 h=>ae.qv (vb (gk:=AV.str) (gv:=AV.str) (M:=x4.a8) (key:=cz) (Z:=[]) J J .p3 J J J e5 J) J<|rM J J<|ae.qv (iz J J) J<|rA J J<|rN<|cD h J (fun h=>?_) (fun h=>?_)
     ·refine ax<|ae.qv (bn J J J J J) J<|aq J J J J .p1 J J<|rA J J<|rN<|ab.ret<|?_
      cases h
      exact ai.cd (j:=0) 2 .p1 J J J<|ai.cd (j:=1) 2 .p1 J J J<|ai.cd (j:=2) 3 .p1 J J J<|ai.cd (j:=3) 17 .p1 J J J<|ai.here ⟨_,.cons (.all _ _ _ _ _ _ J .p1 aA.h aN.h J J) (.cons (.tmp _ _ J) .nil),J⟩
     ·refine tK<|ab.cF<|ax<|ae.qv (ao J J .p0 J) J<|au h fun lB e6 h=>IN J (Ac e6) cR .nil (fun _ _ _ _=>J) J fun KO I0 KM QP=>bf J J J J fun Bf=>aq J J J J .p0 J J<|rN<|tS<|ax<|rF J J J<|rL J J .p0 J J<|ae.qv (ot J) J<|rM J J<|rN<|ab.block<|ab.cq (fun x:(List an)×Int=>iv ah bc cz cE x4 lB x.1 x.2) (fun x aE=>aE=⟨100,[(1,th ah),(2,wb bc),(3,.str cz),(4,.str cE),(10,.ptr b2 0),(12,.ptr b5 0),(14,.ptr Bf 0),(60,I (lB.ak.length:Int)),(61,I x.2)],[(b2,.cells [.nil,.nil,.nil,.nil]),(b5,.cells (mV x4 b6 b7 b8 b9 Ek)),(b6,eG x4.a8),(b7,ym x4.qU),(b8,Kb x4.at_),(b9,Dr x4.zP),(Ek,Ds x4.yh),(Bf,.cells [.sl 2 KO 0 x.1.length,.sl 2 I0 0 lB.ba.length,.sl 3 KM 0 lB.aL.length,.sl 17 QP 0 lB.aR.length]),(KO,xR x.1),(I0,zR lB.ba),(KM,xQ lB.aL),(QP,C4 lB.aR)]⟩) h ?_ ?_
      ·exact ai.lq [6,6,6,6,6,6,6,0,0,0,0,0] J J J
      ·intro x z1 aE J1 dN h gH df
       obtain ⟨AN,n24⟩:=x
       obtain rfl:=dN
       replace h:iv ah bc cz cE x4 lB AN n24=some z1:=h
       unfold iv at h
       refine ax<|ae.qv (bG J J) J<|rN<|tS<|cD h J (fun h=>?_) (fun h=>?_)
       ·refine tK<|tS<|ab.block<|ax<|rM J J<|rA J J<|rN<|ax<|rF J J J<|rL J J .p7 J J<|rM J J<|au h fun v25 e7 h=>ae.qv (kE J J J e7) J<|ae.qv (pQ J J) J<|ae.qv (ui (g:=an.av) J J (.inl (.next .p7)) e7 J) J<|rM J J<|ae.qv (iz J J) J<|rN<|ab.cut (fun aE=>∃ (Sd:List an),nA n24 Sd=some z1∧aE=⟨100,[(1,th ah),(2,wb bc),(3,.str cz),(4,.str cE),(10,.ptr b2 0),(12,.ptr b5 0),(14,.ptr Bf 0),(60,I (lB.ak.length:Int)),(61,I n24)],[(b2,.cells [.nil,.nil,.nil,.nil]),(b5,.cells (mV x4 b6 b7 b8 b9 Ek)),(b6,eG x4.a8),(b7,ym x4.qU),(b8,Kb x4.at_),(b9,Dr x4.zP),(Ek,Ds x4.yh),(Bf,.cells [.sl 2 KO 0 Sd.length,.sl 2 I0 0 lB.ba.length,.sl 3 KM 0 lB.aL.length,.sl 17 QP 0 lB.aR.length]),(KO,xR Sd),(I0,zR lB.ba),(KM,xQ lB.aL),(QP,C4 lB.aR)]⟩) ?_ ?_
        ·refine cD h J (fun h=>?_) (fun h=>?_)
         ·exact tR<|rF J J J<|rL J J .p7 J J<|rM J J<|rM J J<|au h fun zu e8 h=>ae.qv (kE J J J e8) J<|ae.qv (pQ J J) J<|ou (g:=an.av) (IE:=(⟨zu.Key,cE⟩:an)) J J J J e8 J (.next .p7) J<|ae.ghost<|ai.eqs (s:=65) (r7:=.sl 2 KO 0 (AN.set n24.toNat (⟨zu.Key,cE⟩:an)).length) J (by rw [List.length_set])<|ai.here<|ae.ghost<|ai.eqs (s:=73) (r7:=.sl 2 KO 0 (AN.set n24.toNat (⟨zu.Key,cE⟩:an)).length) J (by rw [List.length_set])<|ai.here<|ae.ghost<|ai.IF (j:=0) (r7:=.sl 2 KO 0 (AN.set n24.toNat (⟨zu.Key,cE⟩:an)).length) .p7 J (by rw [List.length_set]) J<|ai.here<|rN<|ab.stop<|ai.lq [0,0,0,0,0,0,0,0,0,0,0,0] ⟨AN.set n24.toNat (⟨zu.Key,cE⟩:an),h,J⟩ J J
         ·exact tK<|ab.stop<|ai.lq [0,0,0,0,0,0,0,0,0,0,0,0] ⟨AN,h,J⟩ J J
        ·rintro aE ⟨Sd,h,rfl⟩
         unfold nA at h
         refine ab.cF<|tR<|ae.qv (bd J J) J<|rM J J<|rN<|ab.stop<|?_
         cases h
         exact gH _ _ J<|ai.lq [0,0,0,0,0,0,0,0,0,0,0,0] J J J
       ·refine ab.exit J<|have h:=bE h df;?_
        unfold nB at h
        refine ax<|ae.qv (ao J J .p7 J) J<|ae.ghost<|ai.freeze (.next .p7)<|ai.here<|ae.ghost<|ai.freeze (.next (.next .p7))<|ai.here<|ae.ghost<|ai.freeze (.next (.next (.next .p7)))<|ai.here<|ae.ghost<|ai.freeze (.next (.next (.next (.next .p7))))<|ai.here<|ae.ghost<|ai.Rp (s:=80) (r7:=.agg [y8 AN,C3 lB.ba,Dq lB.aL,Ch lB.aR]) J (zr.Nx (.cons (.co (Co.sx (.next .p7))) (.cons (.co (Co.sx (.next (.next .p7)))) (.cons (.co (Co.sx (.next (.next (.next .p7))))) (.cons (.co (Co.sx (.next (.next (.next (.next .p7)))))) .nil)))))<|ai.here<|au h fun v28 e9 h=>B6 h (fun zS h=>?_) (fun x29 zS h=>?_)
        ·refine have Xc:=pS zS (gd e9);aK J Xc cR .nil J J<|rM J J<|rX J J J<|rX J J J<|rA J J<|rA J J<|rN<|tS<|ax<|rM J J<|ae.qv (cG J J) J<|rN<|cD h J (fun h=>?_) (fun h=>?_)
         ·refine ax<|ae.qv (bn J J J J J) J<|rM J J<|aq J J J J .p0 J J<|rA J J<|rN<|ab.ret<|?_
          cases h
          exact ai.cd (j:=0) 2 .p0 J J J<|ai.cd (j:=1) 2 .p0 J J J<|ai.cd (j:=2) 3 .p0 J J J<|ai.cd (j:=3) 17 .p0 J J J<|ai.here ⟨_,.cons (.all _ _ _ _ _ _ J .p0 aA.h aN.h J J) (.cons (.tmp _ _ J) .nil),J⟩
         ·refine tK<|ax<|rM J J<|rM J J<|rM J J<|au h fun v30 E8 h=>de J (lG E8) cR (.cons .p1 (.cons .p1 .nil)) (fun _=>J) J fun Si=>bf J J J J fun QO=>aq J J J J .p0 J J<|rN<|tS<|ax<|rM J J<|rM J J<|rM J J<|?_
          cases h
        ·refine have Xd:=pT zS (gd e9);sU J Xd cR .nil (fun _ _ _ _ _ _=>J) J fun Vs b34 HQ b36 Mi b38=>rM J J<|rX J J J<|rX J J J<|rA J J<|rA J J<|rN<|tS<|ax<|rM J J<|ae.qv (cG J J) J<|rN<|cD h J (fun h=>?_) (fun h=>?_)
         ·refine ax<|ae.qv (bn J J J J J) J<|rM J J<|aq J J J J .p6 J J<|rA J J<|rN<|ab.ret<|?_
          cases h
          exact ai.cd (j:=0) 2 .p6 J J J<|ai.cd (j:=1) 2 .p6 J J J<|ai.cd (j:=2) 3 .p6 J J J<|ai.cd (j:=3) 17 .p6 J J J<|ai.here ⟨_,.cons (.all _ _ _ _ _ _ J .p6 aA.h aN.h J J) (.cons (.tmp _ _ J) .nil),J⟩
         ·refine tK<|ax<|rM J J<|rM J J<|rM J J<|au h fun v39 FE h=>de J (lG FE) cR (.cons .p7 (.cons .p7 .nil)) (fun _=>J) J fun b40=>bf J J J J fun Oo=>aq J J J J .p0 J J<|rN<|tS<|ax<|rM J J<|rM J J<|rM J J<|au h fun Tu GC h=>de J (lG GC) cR (.cons .p4 (.cons .p4 .nil)) (fun _=>J) J fun b43=>ae.qv (jk J) J<|au h fun v44 Mh h=>cO J (jC (fun e=>Ad e) Mh) (.cons (qO.nL .p2) (.cons (.tv _ _ _ (.cons (.C9 _ _ _ .p3 (.cons (qO.nL .p6) .nil)) .nil)) .nil)) J J<|rN<|cB h J (fun h=>?_) (fun h=>?_)
          ·refine ax<|ae.qv (bn J J J J J) J<|aq J J J J (.next (.next (.next (.next .p7)))) J J<|rA J J<|rN<|ab.ret<|?_
           cases h
           exact ai.cd (j:=0) 2 (.next (.next (.next (.next .p7)))) J J J<|ai.cd (j:=1) 2 (.next (.next (.next (.next .p7)))) J J J<|ai.cd (j:=2) 3 (.next (.next (.next (.next .p7)))) J J J<|ai.cd (j:=3) 17 (.next (.next (.next (.next .p7)))) J J J<|ai.here ⟨_,.cons (.all _ _ _ _ _ _ J (.next (.next (.next (.next .p7)))) aA.h aN.h J J) (.cons (.tmp _ _ J) .nil),J⟩
          ·refine tK<|ax<|ae.qv (ao J J (.next (.next (.next (.next (.next (.next (.next (.next (.next .p7))))))))) J) J<|aq J J J J (.next (.next (.next (.next .p7)))) J J<|rA J J<|rN<|ab.ret<|?_
           cases h
           exact ai.u6 (j:=0) (.next (.next (.next (.next .p7)))) J (Co.sx (.next (.next (.next (.next (.next (.next (.next (.next (.next (.next .p7))))))))))) J J<|ai.u6 (j:=1) (.next (.next (.next (.next .p7)))) J (Co.sx (.next (.next (.next (.next (.next (.next (.next (.next (.next (.next (.next .p7)))))))))))) J J<|ai.u6 (j:=2) (.next (.next (.next (.next .p7)))) J (Co.sx (.next (.next (.next (.next (.next (.next (.next (.next (.next (.next (.next (.next .p7))))))))))))) J J<|ai.u6 (j:=3) (.next (.next (.next (.next .p7)))) J (Co.sx (.next (.next (.next (.next (.next (.next (.next (.next (.next (.next (.next (.next (.next .p7)))))))))))))) J J<|ai.here ⟨_,.cons (.all _ _ _ _ _ _ J (.next (.next (.next (.next .p7)))) aA.h aN.h J J) (.cons (.tmp _ _ J) .nil),J⟩
theorem DE [GI:bx] {aa:aH} {ah:List aH} {r:Bool} (h:uD aa ah=some r):Pu Tryz.prog 127 [aH.av aa,.mu [th ah]] (.bool r):=by
 unfold uD at h
 refine aB.aS Tryz.func127 J Tryz.ntmps127 Tryz.results127 J J ?_
 refine ax<|cm J J J J fun b1=>rA J J<|rN<|ax<|ae.qv (aJ J J J) J<|ae.qv (ao J J .p0 J) J<|au h fun v2 e1 h=>aG J (lu e1) cR J<|ae.qv (bX J) J<|rA J J<|rN<|ab.ret<|?_
 cases h
 exact hP J J
theorem HW {aa:bu} {ah:List aH} {bc:List aM} {cz:al} {cE:al} {r:bu×Int} (h:vi aa ah bc cz cE=some r):Pu Tryz.prog 51 [bu.av aa,th ah,wb bc,.str cz,.str cE] (.om [bu.av r.1,I r.2]):=by
 unfold vi at h
 refine aB.aS Tryz.func51 J Tryz.ntmps51 Tryz.results51 J J ?_
 refine ax<|cm J J J J fun b1=>bf J J J J fun b2=>rA J J<|rN<|ax<|ae.qv (ao J J .p1 J) J<|rM J J<|au h fun v3 e1 h=>aG J (gI e1) cR J<|rA J J<|rN<|tS<|ab.block<|tS<|ab.cut (fun aE=>∃ (c4:Bool),iw aa ah bc cE v3 c4=some r∧aE=⟨72,[(1,th ah),(2,wb bc),(4,.str cE),(5,.ptr b1 0),(10,.ptr b2 0),(12,I v3),(19,.bool c4)],[(b1,.cells (uE aa)),(b2,.cells [.nil,.nil,.nil,.nil])]⟩) ?_ ?_
 ·refine tR<|rM J J<|ae.qv (bG J J) J<|rM J J<|gF h J J J (fun h=>?_) (fun h=>?_)
  ·refine rM J J<|rY J J J<|ae.qv (tt J J) J<|rY J J J<|rM J J<|gT h J J J (fun h=>?_) (fun h=>?_)
   ·exact ae.qv (ao J J .p1 J) J<|rY J J J<|rM J J<|rY J J J<|au h fun v5 e2 h=>aG J (gI e2) cR J<|rY J J J<|ae.qv (bG J J) J<|rY J J J<|rT J J J<|rE J J J<|rA J J<|rN<|ab.stop<|ai.lq [1,0] ⟨decide (v5 < (0:Int)),h,J⟩ J J
   ·exact rG J J J J<|rG J J J J<|rG J J J J<|rY J J J<|rE J J J<|rE J J J<|rA J J<|rN<|ab.stop<|ai.lq [1,0] ⟨false,h,J⟩ J J
  ·exact rG J J J J<|rG J J J J<|ae.bq J J J<|ae.bq J J J<|ae.bq J J J<|ae.bq J J J<|rG J J J J<|rT J J J<|rA J J<|rN<|ab.stop<|ai.lq [1,0] ⟨true,h,J⟩ J J
 ·rintro aE ⟨c4,h,rfl⟩
  unfold iw at h
  refine cB h J (fun h=>?_) (fun h=>?_)
  ·refine ax<|ae.qv (bn J J J J J) J<|aq J J J J .p1 J J<|rA J J<|rN<|ab.ret<|?_
   cases h
   exact ai.cd (j:=0) 2 .p1 J J J<|ai.cd (j:=1) 2 .p1 J J J<|ai.cd (j:=2) 3 .p1 J J J<|ai.cd (j:=3) 17 .p1 J J J<|ai.here ⟨_,.cons (.all _ _ _ _ _ _ J .p1 aA.h aN.h J J) (.cons (.tmp _ _ J) .nil),J⟩
  ·refine ax<|rF J J J<|rL J J .p0 J J<|rM J J<|au h fun v6 e3 h=>ae.qv (aO J J J e3 J J) J<|ae.qv (cU J J) J<|ae.qv (aJ J J J) J<|rM J J<|ae.qv (iz J J) J<|rA J J<|rN<|cD h J (fun h=>?_) (fun h=>?_)
   ·refine ax<|ae.qv (bn J J J J J) J<|aq J J J J .p1 J J<|rA J J<|rN<|ab.ret<|?_
    cases h
    exact ai.cd (j:=0) 2 .p1 J J J<|ai.cd (j:=1) 2 .p1 J J J<|ai.cd (j:=2) 3 .p1 J J J<|ai.cd (j:=3) 17 .p1 J J J<|ai.here ⟨_,.cons (.all _ _ _ _ _ _ J .p1 aA.h aN.h J J) (.cons (.tmp _ _ J) .nil),J⟩
   ·refine tK<|ab.cF<|ax<|ae.qv (ao J J .p0 J) J<|bf J J J J fun b7=>aq J J J J .p0 J J<|rN<|ax<|rF J J J<|rL J J .p1 J J<|au h fun v8 e4 h=>de J (ma e4) cR .nil (fun _=>J) J fun b9=>rF J J J<|aq J J J J .p1 J J<|rN<|ax<|rF J J J<|rL J J .p1 J J<|rM J J<|rM J J<|au h fun v10 e5 h=>ae.qv (kE J J J e5) J<|ae.qv (pQ J J) J<|ou (g:=an.av) (IE:=(⟨v10.Key,cE⟩:an)) J J J J e5 J .p0 J<|ae.ghost<|ai.eqs (s:=46) (r7:=.sl 2 b9 0 (v8.set v3.toNat (⟨v10.Key,cE⟩:an)).length) J (by rw [List.length_set])<|ai.here<|ae.ghost<|ai.eqs (s:=49) (r7:=.sl 2 b9 0 (v8.set v3.toNat (⟨v10.Key,cE⟩:an)).length) J (by rw [List.length_set])<|ai.here<|ae.ghost<|ai.IF (j:=0) (r7:=.sl 2 b9 0 (v8.set v3.toNat (⟨v10.Key,cE⟩:an)).length) .p1 J (by rw [List.length_set]) J<|ai.here<|rN<|tS<|ax<|ae.qv (ao J J .p1 J) J<|au h fun v11 e6 h=>cO J (zb e6) (.cons (qO.Nx (.cons (qO.nL .p0) (.cons (.co (.refl _)) (.cons (.co (.refl _)) (.cons (.co (.refl _)) .nil))))) .nil) J J<|rA J J<|rN<|ax<|rM J J<|ae.qv (cG J J) J<|rN<|cD h J (fun h=>?_) (fun h=>?_)
    ·refine ax<|ae.qv (bn J J J J J) J<|rM J J<|aq J J J J .p3 J J<|rA J J<|rN<|ab.ret<|?_
     cases h
     exact ai.cd (j:=0) 2 .p3 J J J<|ai.cd (j:=1) 2 .p3 J J J<|ai.cd (j:=2) 3 .p3 J J J<|ai.cd (j:=3) 17 .p3 J J J<|ai.here ⟨_,.cons (.all _ _ _ _ _ _ J .p3 aA.h aN.h J J) (.cons (.tmp _ _ J) .nil),J⟩
    ·refine tK<|ax<|ae.qv (ao J J .p2 J) J<|rM J J<|rM J J<|au h fun v12 e7 h=>de J (yq e7) cR .nil (fun _=>J) J fun Dv=>bf J J J J fun Ej=>aq J J J J .p0 J J<|rN<|tS<|ax<|ae.qv (ao J J .p3 J) J<|rM J J<|rM J J<|ae.ghost<|ai.freeze .p2<|ai.here<|ae.ghost<|ai.Rp (s:=64) (r7:=.agg [y8 (v8.set v3.toNat (⟨v10.Key,cE⟩:an)),C3 aa.ba,Dq aa.aL,Ch aa.aR]) J (zr.Nx (.cons (.co (Co.sx .p2)) (.cons .r (.cons .r (.cons .r .nil)))))<|ai.here<|au h fun lB e8 h=>de J (yq e8) cR .nil (fun _=>J) J fun KO=>ae.qv (jk J) J<|au h fun v17 e9 h=>cO J (jC (fun e=>DE e) e9) (.cons (qO.nL .p0) (.cons (.tv _ _ _ (.cons (.C9 _ _ _ .p1 (.cons (qO.nL .p2) .nil)) .nil)) .nil)) J J<|rN<|cB h J (fun h=>?_) (fun h=>?_)
     ·refine ax<|ae.qv (bn J J J J J) J<|aq J J J J .p6 J J<|rA J J<|rN<|ab.ret<|?_
      cases h
      exact ai.cd (j:=0) 2 .p6 J J J<|ai.cd (j:=1) 2 .p6 J J J<|ai.cd (j:=2) 3 .p6 J J J<|ai.cd (j:=3) 17 .p6 J J J<|ai.here ⟨_,.cons (.all _ _ _ _ _ _ J .p6 aA.h aN.h J J) (.cons (.tmp _ _ J) .nil),J⟩
     ·refine tK<|ax<|ae.qv (ao J J .p4 J) J<|aq J J J J .p6 J J<|rA J J<|rN<|ab.ret<|?_
      cases h
      exact ai.u6 (j:=0) .p6 J (Co.sx .p3) J J<|ai.here ⟨_,.cons (.all _ _ _ _ _ _ J .p6 aA.h aN.h J J) (.cons (.tmp _ _ J) .nil),J⟩
theorem mc [GI:bx] {aa:List al} {ah:List al} {r:Bool} (h:eQ aa ah=some r):Pu Tryz.prog 130 [mU aa,mU ah] (.bool r):=by
 unfold eQ at h
 refine aB.aS Tryz.func130 J Tryz.ntmps130 Tryz.results130 J J ?_
 refine ax<|rA J J<|rN<|tS<|ax<|rM J J<|ae.qv (bA J) J<|rM J J<|ae.qv (bA J) J<|ae.qv (cG J J) J<|rN<|cD h J (fun h=>?_) (fun h=>?_)
 ·refine ax<|rA J J<|rN<|ab.ret<|?_
  cases h
  exact hP J J
 ·refine tK<|tS<|ax<|rM J J<|ae.qv (bA J) J<|rM J J<|rN<|ab.block<|ab.cq (fun x:Int=>fv aa ah x) (fun x aE=>aE=⟨26,[(0,mU aa),(1,mU ah),(12,I (aa.length:Int)),(13,I x)],[]⟩) h ?_ ?_
  ·exact ai.lq [] J J J
  ·intro n2 z1 aE J1 dN h gH df
   obtain rfl:=dN
   replace h:fv aa ah n2=some z1:=h
   unfold fv at h
   refine ax<|ae.qv (bG J J) J<|rN<|tS<|cD h J (fun h=>?_) (fun h=>?_)
   ·refine tK<|tS<|ab.block<|ax<|rM J J<|rA J J<|rN<|tS<|ab.cV (id:=6) (A:=[0,0,3,7,0,0,48,112,255]) 9 mixed J (by kernel_rfl) (by kernel_rfl)<|AM.qv (aQ J) J<|AM.qv (aQ J) J<|au h fun v3 e1 h=>AM.qv (aO J J J e1 J J) J<|AM.qv (aJ J J J) J<|AM.qv (aQ J) J<|AM.qv (aQ J) J<|au h fun v4 e2 h=>AM.qv (aO J J J e2 J J) J<|AM.qv (aJ J J J) J<|AM.qv (tt J J) J<|AM.nil<|rN<|cD h J (fun h=>?_) (fun h=>?_)
    ·refine ax<|rA J J<|rN<|ab.ret<|have h:=bE h df;?_
     cases h
     exact hP J J
    ·refine tK<|ab.cF<|tR<|ae.qv (bd J J) J<|rM J J<|rN<|ab.stop<|?_
     cases h
     exact gH _ _ J<|ai.lq [] J J J
   ·refine ab.exit J<|have h:=bE h df;ax<|rA J J<|rN<|ab.ret<|?_
    cases h
    exact hP J J
theorem Cy [GI:bx] {aa:bF} {ah:bF} {r:Bool} (h:ko aa ah=some r):Pu Tryz.prog 129 [bF.av aa,bF.av ah] (.bool r):=by
 unfold ko at h
 refine aB.aS Tryz.func129 J Tryz.ntmps129 Tryz.results129 J J ?_
 refine ax<|cm J J J J fun b1=>cm J J J J fun b2=>rA J J<|rN<|tS<|ab.cut (fun aE=>∃ (c3:Bool),o9 c3=some r∧aE=⟨17,[(4,.bool c3)],[]⟩) ?_ ?_
 ·refine tR<|rF J J J<|rL J J .p1 J J<|rF J J J<|rL J J .p0 J J<|ae.qv (iz J J) J<|rM J J<|gT h J J J (fun h=>?_) (fun h=>?_)
  ·exact rF J J J<|rY J J J<|rL J J .p1 J J<|rY J J J<|rF J J J<|rY J J J<|rL J J .p0 J J<|rY J J J<|au h fun v4 e1 h=>aG J (mc e1) cR J<|rT J J J<|rA J J<|rN<|ab.stop<|ai.lq [] ⟨v4,h,J⟩ J J
  ·exact rG J J J J<|rG J J J J<|rG J J J J<|rG J J J J<|rE J J J<|rA J J<|rN<|ab.stop<|ai.lq [] ⟨false,h,J⟩ J J
 ·rintro aE ⟨c3,h,rfl⟩
  unfold o9 at h
  refine ab.ret<|?_
  cases h
  exact hP J J
theorem mT [GI:bx] {aa:List bF} {ah:List bF} {x5:bF→bF→Option Bool} {uF:FuncId} [bb Tryz.prog uF] {xc:List AV} (GG:∀ {y0 y1:_} {u:Bool},x5 y0 y1=some u→Pu Tryz.prog uF (bF.av y0 :: bF.av y1 :: xc) (.bool u)) {r:Bool} (h:cw aa ah x5=some r):Pu Tryz.prog 128 [C3 aa,C3 ah,.func (.func uF) xc] (.bool r):=by
 unfold cw at h
 refine aB.aS Tryz.func128 J Tryz.ntmps128 Tryz.results128 J J ?_
 refine ax<|rA J J<|rN<|tS<|ax<|rM J J<|ae.qv (bA J) J<|rM J J<|ae.qv (bA J) J<|ae.qv (cG J J) J<|rN<|cD h J (fun h=>?_) (fun h=>?_)
 ·refine ax<|rA J J<|rN<|ab.ret<|?_
  cases h
  exact hP J J
 ·refine tK<|tS<|ax<|rM J J<|ae.qv (bA J) J<|rM J J<|rN<|ab.block<|ab.cq (fun x:Int=>bl aa ah x5 x) (fun x aE=>aE=⟨32,[(1,C3 ah),(2,.func (.func uF) xc),(15,C3 aa),(16,I (aa.length:Int)),(17,I x)],[]⟩) h ?_ ?_
  ·exact ai.lq [] J J J
  ·intro n2 z1 aE J1 dN h gH df
   obtain rfl:=dN
   replace h:bl aa ah x5 n2=some z1:=h
   unfold bl at h
   refine ax<|ae.qv (bG J J) J<|rN<|tS<|cD h J (fun h=>?_) (fun h=>?_)
   ·refine tK<|tS<|ab.block<|ax<|rM J J<|au h fun v3 e1 h=>ae.qv (aO J J J e1 J J) J<|ae.qv (aF J J J) J<|bf J J J J fun b4=>rA J J<|aq J J J J .p0 J J<|rN<|ax<|rM J J<|rM J J<|au h fun v5 e2 h=>ae.qv (aO J J J e2 J J) J<|ae.qv (aF J J J) J<|bf J J J J fun b6=>aq J J J J .p0 J J<|rN<|ax<|rM J J<|ae.qv (ao J J .p1 J) J<|ae.qv (ao J J .p0 J) J<|au h fun v7 e3 h=>pJ J J (GG e3) cR J<|ae.qv (bX J) J<|rN<|cB h J (fun h=>?_) (fun h=>?_)
    ·refine ax<|rA J J<|rN<|ab.ret<|have h:=bE h df;?_
     cases h
     exact hP J J
    ·refine tK<|ab.cF<|tR<|ae.qv (bd J J) J<|rM J J<|rN<|ab.stop<|?_
     cases h
     exact gH _ _ J<|ai.lq [] J J J
   ·refine ab.exit J<|have h:=bE h df;ax<|rA J J<|rN<|ab.ret<|?_
    cases h
    exact hP J J
theorem ll [GI:bx] {aa:List Query} {ah:List Query} {x5:Query→Query→Option Bool} {uF:FuncId} [bb Tryz.prog uF] {xc:List AV} (GG:∀ {y0 y1:_} {u:Bool},x5 y0 y1=some u→Pu Tryz.prog uF (.agg [I y0.Kind,.str y0.Field,.str y0.Op,I y0.Value.Kind,.bool y0.Value.cf,I y0.Value.Number,.str y0.Value.Words,I y0.Version.bQ,I y0.Version.bR,I y0.Version.bN,lr y0.Kids] :: .agg [I y1.Kind,.str y1.Field,.str y1.Op,I y1.Value.Kind,.bool y1.Value.cf,I y1.Value.Number,.str y1.Value.Words,I y1.Version.bQ,I y1.Version.bR,I y1.Version.bN,lr y1.Kids] :: xc) (.bool u)) {r:Bool} (h:ca aa ah x5=some r):Pu Tryz.prog 200 [lr aa,lr ah,.func (.func uF) xc] (.bool r):=by
 unfold ca at h
 refine aB.aS Tryz.func200 J Tryz.ntmps200 Tryz.results200 J J ?_
 refine ax<|rA J J<|rN<|tS<|ax<|rM J J<|ae.qv (bA J) J<|rM J J<|ae.qv (bA J) J<|ae.qv (cG J J) J<|rN<|cD h J (fun h=>?_) (fun h=>?_)
 ·refine ax<|rA J J<|rN<|ab.ret<|?_
  cases h
  exact hP J J
 ·refine tK<|tS<|ax<|rM J J<|ae.qv (bA J) J<|rM J J<|rN<|ab.block<|ab.cq (fun x:Int=>aW aa ah x5 x) (fun x aE=>aE=⟨32,[(1,lr ah),(2,.func (.func uF) xc),(15,lr aa),(16,I (aa.length:Int)),(17,I x)],[]⟩) h ?_ ?_
  ·exact ai.lq [] J J J
  ·intro n2 z1 aE J1 dN h gH df
   obtain rfl:=dN
   replace h:aW aa ah x5 n2=some z1:=h
   unfold aW at h
   refine ax<|ae.qv (bG J J) J<|rN<|tS<|cD h J (fun h=>?_) (fun h=>?_)
   ·refine tK<|tS<|ab.block<|ax<|rM J J<|au h fun v3 e1 h=>ae.qv (aO J J J e1 J (by rw [Query.pV];rfl)) J<|ae.qv (aF J J J) J<|bf J J J J fun b4=>rA J J<|aq J J J J .p0 J J<|rN<|ax<|rM J J<|rM J J<|au h fun v5 e2 h=>ae.qv (aO J J J e2 J (by rw [Query.pV];rfl)) J<|ae.qv (aF J J J) J<|bf J J J J fun b6=>aq J J J J .p0 J J<|rN<|ax<|rM J J<|ae.qv (ao J J .p1 J) J<|ae.qv (ao J J .p0 J) J<|au h fun v7 e3 h=>pJ J J (GG e3) cR J<|ae.qv (bX J) J<|rN<|cB h J (fun h=>?_) (fun h=>?_)
    ·refine ax<|rA J J<|rN<|ab.ret<|have h:=bE h df;?_
     cases h
     exact hP J J
    ·refine tK<|ab.cF<|tR<|ae.qv (bd J J) J<|rM J J<|rN<|ab.stop<|?_
     cases h
     exact gH _ _ J<|ai.lq [] J J J
   ·refine ab.exit J<|have h:=bE h df;ax<|rA J J<|rN<|ab.ret<|?_
    cases h
    exact hP J J
theorem Ae [GI:bx] {self:Query→Query→Option Bool} (pn:∀ {aa:Query} {ah:Query} {r:Bool},self aa ah=some r→Pu Tryz.prog 133 [.agg [I aa.Kind,.str aa.Field,.str aa.Op,I aa.Value.Kind,.bool aa.Value.cf,I aa.Value.Number,.str aa.Value.Words,I aa.Version.bQ,I aa.Version.bR,I aa.Version.bN,lr aa.Kids],.agg [I ah.Kind,.str ah.Field,.str ah.Op,I ah.Value.Kind,.bool ah.Value.cf,I ah.Value.Number,.str ah.Value.Words,I ah.Version.bQ,I ah.Version.bR,I ah.Version.bN,lr ah.Kids]] (.bool r)) {aa:Query} {ah:Query} {r:Bool} (h:nC self aa ah=some r):Pu Tryz.prog 133 [.agg [I aa.Kind,.str aa.Field,.str aa.Op,I aa.Value.Kind,.bool aa.Value.cf,I aa.Value.Number,.str aa.Value.Words,I aa.Version.bQ,I aa.Version.bR,I aa.Version.bN,lr aa.Kids],.agg [I ah.Kind,.str ah.Field,.str ah.Op,I ah.Value.Kind,.bool ah.Value.cf,I ah.Value.Number,.str ah.Value.Words,I ah.Version.bQ,I ah.Version.bR,I ah.Version.bN,lr ah.Kids]] (.bool r):=by
 unfold nC at h
 refine aB.aS Tryz.func133 J Tryz.ntmps133 Tryz.results133 J J ?_
 refine ax<|cm J J J J fun b1=>cm J J J J fun b2=>rA J J<|rN<|tS<|ab.cut (fun aE=>∃ (c3:Bool),iy c3=some r∧aE=⟨45,[(4,.bool c3)],[]⟩) ?_ ?_
 ·refine tR<|rF J J J<|rL J J .p1 J J<|rF J J J<|rL J J .p0 J J<|ae.qv (cL J J) J<|rM J J<|gT h J J J (fun h=>?_) (fun h=>?_)
  ·refine rF J J J<|rY J J J<|rL J J .p1 J J<|rY J J J<|rF J J J<|rY J J J<|rL J J .p0 J J<|rY J J J<|ae.qv (iz J J) J<|rT J J J<|rM J J<|gT h J J J (fun h=>?_) (fun h=>?_)
   ·refine rF J J J<|rY J J J<|rL J J .p1 J J<|rY J J J<|rF J J J<|rY J J J<|rL J J .p0 J J<|rY J J J<|ae.qv (iz J J) J<|rT J J J<|rM J J<|gT h J J J (fun h=>?_) (fun h=>?_)
    ·refine rF J J J<|rY J J J<|ae.qv (bg J J .p1 J J) J<|rY J J J<|rF J J J<|rY J J J<|ae.qv (bg J J .p0 J J) J<|rY J J J<|ae.qv (F4 (g:=bL.av) (X:=aa.Value) (Y:=ah.Value) J J J J J) J<|rT J J J<|rM J J<|gT h J J J (fun h=>?_) (fun h=>?_)
     ·refine rF J J J<|rY J J J<|ae.qv (bg J J .p1 J J) J<|rY J J J<|rF J J J<|rY J J J<|ae.qv (bg J J .p0 J J) J<|rY J J J<|ae.qv (F4 (g:=Version.av) (X:=aa.Version) (Y:=ah.Version) J J J J J) J<|rT J J J<|rM J J<|gT h J J J (fun h=>?_) (fun h=>?_)
      ·exact rF J J J<|rY J J J<|rL J J .p1 J J<|rY J J J<|rF J J J<|rY J J J<|rL J J .p0 J J<|rY J J J<|au h fun v4 e1 h=>cO J (ll (fun e=>pn e) e1) (.cons (.co (.refl _)) (.cons (.co (.refl _)) (.cons (.tv _ _ _ .nil) .nil))) J J<|rT J J J<|rA J J<|rN<|ab.stop<|ai.lq [] ⟨v4,h,J⟩ J J
      ·exact rG J J J J<|rG J J J J<|rG J J J J<|rG J J J J<|rE J J J<|rA J J<|rN<|ab.stop<|ai.lq [] ⟨false,h,J⟩ J J
     ·exact rG J J J J<|rG J J J J<|rG J J J J<|rG J J J J<|rE J J J<|rM J J<|rG J J J J<|rG J J J J<|rG J J J J<|rG J J J J<|rG J J J J<|rE J J J<|rA J J<|rN<|ab.stop<|ai.lq [] ⟨false,h,J⟩ J J
    ·exact rG J J J J<|rG J J J J<|rG J J J J<|rG J J J J<|rE J J J<|rM J J<|rG J J J J<|rG J J J J<|rG J J J J<|rG J J J J<|rG J J J J<|rE J J J<|rM J J<|rG J J J J<|rG J J J J<|rG J J J J<|rG J J J J<|rG J J J J<|rE J J J<|rA J J<|rN<|ab.stop<|ai.lq [] ⟨false,h,J⟩ J J
   ·exact rG J J J J<|rG J J J J<|rG J J J J<|rG J J J J<|rE J J J<|rM J J<|rG J J J J<|rG J J J J<|rG J J J J<|rG J J J J<|rG J J J J<|rE J J J<|rM J J<|rG J J J J<|rG J J J J<|rG J J J J<|rG J J J J<|rG J J J J<|rE J J J<|rM J J<|rG J J J J<|rG J J J J<|rG J J J J<|rG J J J J<|rG J J J J<|rE J J J<|rA J J<|rN<|ab.stop<|ai.lq [] ⟨false,h,J⟩ J J
  ·exact rG J J J J<|rG J J J J<|rG J J J J<|rG J J J J<|rE J J J<|rM J J<|rG J J J J<|rG J J J J<|rG J J J J<|rG J J J J<|rG J J J J<|rE J J J<|rM J J<|rG J J J J<|rG J J J J<|rG J J J J<|rG J J J J<|rG J J J J<|rE J J J<|rM J J<|rG J J J J<|rG J J J J<|rG J J J J<|rG J J J J<|rG J J J J<|rE J J J<|rM J J<|rG J J J J<|rG J J J J<|rG J J J J<|rG J J J J<|rG J J J J<|rE J J J<|rA J J<|rN<|ab.stop<|ai.lq [] ⟨false,h,J⟩ J J
 ·rintro aE ⟨c3,h,rfl⟩
  unfold iy at h
  refine ab.ret<|?_
  cases h
  exact hP J J
theorem Bq [GI:bx]:∀ (k:Nat) {aa:Query} {ah:Query} {r:Bool},gp k aa ah=some r→Pu Tryz.prog 133 [.agg [I aa.Kind,.str aa.Field,.str aa.Op,I aa.Value.Kind,.bool aa.Value.cf,I aa.Value.Number,.str aa.Value.Words,I aa.Version.bQ,I aa.Version.bR,I aa.Version.bN,lr aa.Kids],.agg [I ah.Kind,.str ah.Field,.str ah.Op,I ah.Value.Kind,.bool ah.Value.cf,I ah.Value.Number,.str ah.Value.Words,I ah.Version.bQ,I ah.Version.bR,I ah.Version.bN,lr ah.Kids]] (.bool r):=by
 intro k
 induction k with
 | zero=>intro aa ah r h;cases h
 | succ k ih=>intro aa ah r h;exact Ae ih h
theorem DF [GI:bx] {aa:Query} {ah:Query} {r:Bool} (h:wW aa ah=some r):Pu Tryz.prog 133 [.agg [I aa.Kind,.str aa.Field,.str aa.Op,I aa.Value.Kind,.bool aa.Value.cf,I aa.Value.Number,.str aa.Value.Words,I aa.Version.bQ,I aa.Version.bR,I aa.Version.bN,lr aa.Kids],.agg [I ah.Kind,.str ah.Field,.str ah.Op,I ah.Value.Kind,.bool ah.Value.cf,I ah.Value.Number,.str ah.Value.Words,I ah.Version.bQ,I ah.Version.bR,I ah.Version.bN,lr ah.Kids]] (.bool r):=Bq depth h
theorem Cz [GI:bx] {aa:bJ} {ah:bJ} {r:Bool} (h:kq aa ah=some r):Pu Tryz.prog 132 [bJ.av aa,bJ.av ah] (.bool r):=by
 unfold kq at h
 refine aB.aS Tryz.func132 J Tryz.ntmps132 Tryz.results132 J J ?_
 refine ax<|cm J J J J fun b1=>cm J J J J fun b2=>rA J J<|rN<|tS<|ab.cut (fun aE=>∃ (c3:Bool),gQ c3=some r∧aE=⟨45,[(4,.bool c3)],[]⟩) ?_ ?_
 ·refine tR<|rF J J J<|rL J J .p1 J J<|rF J J J<|rL J J .p0 J J<|ae.qv (iz J J) J<|rM J J<|gT h J J J (fun h=>?_) (fun h=>?_)
  ·refine rF J J J<|rY J J J<|rL J J .p1 J J<|rY J J J<|rF J J J<|rY J J J<|rL J J .p0 J J<|rY J J J<|ae.qv (iz J J) J<|rT J J J<|rM J J<|gT h J J J (fun h=>?_) (fun h=>?_)
   ·refine rF J J J<|rY J J J<|rL J J .p1 J J<|rY J J J<|rF J J J<|rY J J J<|rL J J .p0 J J<|rY J J J<|ae.qv (iz J J) J<|rT J J J<|rM J J<|gT h J J J (fun h=>?_) (fun h=>?_)
    ·refine rF J J J<|rY J J J<|ae.qv (bg J J .p1 J J) J<|rY J J J<|rF J J J<|rY J J J<|ae.qv (bg J J .p0 J J) J<|rY J J J<|au h fun v4 e1 h=>aG J (DF e1) cR J<|rT J J J<|rM J J<|ae.guard J J J (fun hc=>?_) (fun hc=>?_)
     ·refine have h:=lL hc h;rF J J J<|rY J J J<|rL J J .p1 J J<|rY J J J<|rF J J J<|rY J J J<|rL J J .p0 J J<|rY J J J<|au h fun v5 e2 h=>aG J (mc e2) cR J<|rT J J J<|rM J J<|ae.guard J J J (fun hc=>?_) (fun hc=>?_)
      ·rw [wF hc] at h
       exact rF J J J<|rY J J J<|ae.qv (bg J J .p1 J J) J<|rY J J J<|rF J J J<|rY J J J<|ae.qv (bg J J .p0 J J) J<|rY J J J<|ae.qv (F4 (g:=lA.av) (X:=aa.Time) (Y:=ah.Time) J J J J J) J<|rT J J J<|rA J J<|rN<|ab.stop<|ai.lq [] ⟨decide (aa.Time=ah.Time),h,J⟩ J J
      ·rw [wG hc] at h
       exact rG J J J J<|rG J J J J<|rG J J J J<|rG J J J J<|rE J J J<|rA J J<|rN<|ab.stop<|ai.lq [] ⟨false,h,J⟩ J J
     ·exact have h:=lM hc h;rG J J J J<|rG J J J J<|rG J J J J<|rG J J J J<|rE J J J<|rM J J<|rG J J J J<|rG J J J J<|rG J J J J<|rG J J J J<|rG J J J J<|rE J J J<|rA J J<|rN<|ab.stop<|ai.lq [] ⟨false,h,J⟩ J J
    ·exact rG J J J J<|rG J J J J<|rG J J J J<|rG J J J J<|rE J J J<|rM J J<|rG J J J J<|rG J J J J<|rG J J J J<|rG J J J J<|rG J J J J<|rE J J J<|rM J J<|rG J J J J<|rG J J J J<|rG J J J J<|rG J J J J<|rG J J J J<|rE J J J<|rA J J<|rN<|ab.stop<|ai.lq [] ⟨false,h,J⟩ J J
   ·exact rG J J J J<|rG J J J J<|rG J J J J<|rG J J J J<|rE J J J<|rM J J<|rG J J J J<|rG J J J J<|rG J J J J<|rG J J J J<|rG J J J J<|rE J J J<|rM J J<|rG J J J J<|rG J J J J<|rG J J J J<|rG J J J J<|rG J J J J<|rE J J J<|rM J J<|rG J J J J<|rG J J J J<|rG J J J J<|rG J J J J<|rG J J J J<|rE J J J<|rA J J<|rN<|ab.stop<|ai.lq [] ⟨false,h,J⟩ J J
  ·exact rG J J J J<|rG J J J J<|rG J J J J<|rG J J J J<|rE J J J<|rM J J<|rG J J J J<|rG J J J J<|rG J J J J<|rG J J J J<|rG J J J J<|rE J J J<|rM J J<|rG J J J J<|rG J J J J<|rG J J J J<|rG J J J J<|rG J J J J<|rE J J J<|rM J J<|rG J J J J<|rG J J J J<|rG J J J J<|rG J J J J<|rG J J J J<|rE J J J<|rM J J<|rG J J J J<|rG J J J J<|rG J J J J<|rG J J J J<|rG J J J J<|rE J J J<|rA J J<|rN<|ab.stop<|ai.lq [] ⟨false,h,J⟩ J J
 ·rintro aE ⟨c3,h,rfl⟩
  unfold gQ at h
  refine ab.ret<|?_
  cases h
  exact hP J J
theorem ln [GI:bx] {aa:List bJ} {ah:List bJ} {x5:bJ→bJ→Option Bool} {uF:FuncId} [bb Tryz.prog uF] {xc:List AV} (GG:∀ {y0 y1:_} {u:Bool},x5 y0 y1=some u→Pu Tryz.prog uF (bJ.av y0 :: bJ.av y1 :: xc) (.bool u)) {r:Bool} (h:cb aa ah x5=some r):Pu Tryz.prog 131 [Ch aa,Ch ah,.func (.func uF) xc] (.bool r):=by
 unfold cb at h
 refine aB.aS Tryz.func131 J Tryz.ntmps131 Tryz.results131 J J ?_
 refine ax<|rA J J<|rN<|tS<|ax<|rM J J<|ae.qv (bA J) J<|rM J J<|ae.qv (bA J) J<|ae.qv (cG J J) J<|rN<|cD h J (fun h=>?_) (fun h=>?_)
 ·refine ax<|rA J J<|rN<|ab.ret<|?_
  cases h
  exact hP J J
 ·refine tK<|tS<|ax<|rM J J<|ae.qv (bA J) J<|rM J J<|rN<|ab.block<|ab.cq (fun x:Int=>aX aa ah x5 x) (fun x aE=>aE=⟨32,[(1,Ch ah),(2,.func (.func uF) xc),(15,Ch aa),(16,I (aa.length:Int)),(17,I x)],[]⟩) h ?_ ?_
  ·exact ai.lq [] J J J
  ·intro n2 z1 aE J1 dN h gH df
   obtain rfl:=dN
   replace h:aX aa ah x5 n2=some z1:=h
   unfold aX at h
   refine ax<|ae.qv (bG J J) J<|rN<|tS<|cD h J (fun h=>?_) (fun h=>?_)
   ·refine tK<|tS<|ab.block<|ax<|rM J J<|au h fun v3 e1 h=>ae.qv (aO J J J e1 J J) J<|ae.qv (aF J J J) J<|bf J J J J fun b4=>rA J J<|aq J J J J .p0 J J<|rN<|ax<|rM J J<|rM J J<|au h fun v5 e2 h=>ae.qv (aO J J J e2 J J) J<|ae.qv (aF J J J) J<|bf J J J J fun b6=>aq J J J J .p0 J J<|rN<|ax<|rM J J<|ae.qv (ao J J .p1 J) J<|ae.qv (ao J J .p0 J) J<|au h fun v7 e3 h=>pJ J J (GG e3) cR J<|ae.qv (bX J) J<|rN<|cB h J (fun h=>?_) (fun h=>?_)
    ·refine ax<|rA J J<|rN<|ab.ret<|have h:=bE h df;?_
     cases h
     exact hP J J
    ·refine tK<|ab.cF<|tR<|ae.qv (bd J J) J<|rM J J<|rN<|ab.stop<|?_
     cases h
     exact gH _ _ J<|ai.lq [] J J J
   ·refine ab.exit J<|have h:=bE h df;ax<|rA J J<|rN<|ab.ret<|?_
    cases h
    exact hP J J
theorem sF [GI:bx] {aa:List an} {ah:List an} {r:Bool} (h:gE aa ah=some r):Pu Tryz.prog 134 [y8 aa,y8 ah] (.bool r):=by
 unfold gE at h
 refine aB.aS Tryz.func134 J Tryz.ntmps134 Tryz.results134 J J ?_
 refine ax<|rA J J<|rN<|tS<|ax<|rM J J<|ae.qv (bA J) J<|rM J J<|ae.qv (bA J) J<|ae.qv (cG J J) J<|rN<|cD h J (fun h=>?_) (fun h=>?_)
 ·refine ax<|rA J J<|rN<|ab.ret<|?_
  cases h
  exact hP J J
 ·refine tK<|tS<|ax<|rM J J<|ae.qv (bA J) J<|rM J J<|rN<|ab.block<|ab.cq (fun x:Int=>fw aa ah x) (fun x aE=>aE=⟨26,[(0,y8 aa),(1,y8 ah),(12,I (aa.length:Int)),(13,I x)],[]⟩) h ?_ ?_
  ·exact ai.lq [] J J J
  ·intro n2 z1 aE J1 dN h gH df
   obtain rfl:=dN
   replace h:fw aa ah n2=some z1:=h
   unfold fw at h
   refine ax<|ae.qv (bG J J) J<|rN<|tS<|cD h J (fun h=>?_) (fun h=>?_)
   ·refine tK<|tS<|ab.block<|ax<|rM J J<|rA J J<|rN<|tS<|ab.cV (id:=6) (A:=[0,0,3,7,0,0,48,112,255]) 9 mixed J (by kernel_rfl) (by kernel_rfl)<|AM.qv (aQ J) J<|AM.qv (aQ J) J<|au h fun v3 e1 h=>AM.qv (aO J J J e1 J J) J<|AM.qv (aF J J J) J<|AM.qv (aQ J) J<|AM.qv (aQ J) J<|au h fun v4 e2 h=>AM.qv (aO J J J e2 J J) J<|AM.qv (aF J J J) J<|AM.qv (wH (g:=an.av) (X:=v3) (Y:=v4) J J J J J) J<|AM.nil<|rN<|cD h J (fun h=>?_) (fun h=>?_)
    ·refine ax<|rA J J<|rN<|ab.ret<|have h:=bE h df;?_
     cases h
     exact hP J J
    ·refine tK<|ab.cF<|tR<|ae.qv (bd J J) J<|rM J J<|rN<|ab.stop<|?_
     cases h
     exact gH _ _ J<|ai.lq [] J J J
   ·refine ab.exit J<|have h:=bE h df;ax<|rA J J<|rN<|ab.ret<|?_
    cases h
    exact hP J J
theorem sG [GI:bx] {aa:List bj} {ah:List bj} {r:Bool} (h:gG aa ah=some r):Pu Tryz.prog 135 [Dq aa,Dq ah] (.bool r):=by
 unfold gG at h
 refine aB.aS Tryz.func135 J Tryz.ntmps135 Tryz.results135 J J ?_
 refine ax<|rA J J<|rN<|tS<|ax<|rM J J<|ae.qv (bA J) J<|rM J J<|ae.qv (bA J) J<|ae.qv (cG J J) J<|rN<|cD h J (fun h=>?_) (fun h=>?_)
 ·refine ax<|rA J J<|rN<|ab.ret<|?_
  cases h
  exact hP J J
 ·refine tK<|tS<|ax<|rM J J<|ae.qv (bA J) J<|rM J J<|rN<|ab.block<|ab.cq (fun x:Int=>fx aa ah x) (fun x aE=>aE=⟨26,[(0,Dq aa),(1,Dq ah),(12,I (aa.length:Int)),(13,I x)],[]⟩) h ?_ ?_
  ·exact ai.lq [] J J J
  ·intro n2 z1 aE J1 dN h gH df
   obtain rfl:=dN
   replace h:fx aa ah n2=some z1:=h
   unfold fx at h
   refine ax<|ae.qv (bG J J) J<|rN<|tS<|cD h J (fun h=>?_) (fun h=>?_)
   ·refine tK<|tS<|ab.block<|ax<|rM J J<|rA J J<|rN<|tS<|ab.cV (id:=6) (A:=[0,0,3,7,0,0,48,112,255]) 9 mixed J (by kernel_rfl) (by kernel_rfl)<|AM.qv (aQ J) J<|AM.qv (aQ J) J<|au h fun v3 e1 h=>AM.qv (aO J J J e1 J J) J<|AM.qv (aF J J J) J<|AM.qv (aQ J) J<|AM.qv (aQ J) J<|au h fun v4 e2 h=>AM.qv (aO J J J e2 J J) J<|AM.qv (aF J J J) J<|AM.qv (wH (g:=bj.av) (X:=v3) (Y:=v4) J J J J J) J<|AM.nil<|rN<|cD h J (fun h=>?_) (fun h=>?_)
    ·refine ax<|rA J J<|rN<|ab.ret<|have h:=bE h df;?_
     cases h
     exact hP J J
    ·refine tK<|ab.cF<|tR<|ae.qv (bd J J) J<|rM J J<|rN<|ab.stop<|?_
     cases h
     exact gH _ _ J<|ai.lq [] J J J
   ·refine ab.exit J<|have h:=bE h df;ax<|rA J J<|rN<|ab.ret<|?_
    cases h
    exact hP J J
theorem GH [GI:bx] {aa:bu} {ah:bu} {r:Bool} (h:vj aa ah=some r):Pu Tryz.prog 52 [bu.av aa,bu.av ah] (.bool r):=by
 unfold vj at h
 refine aB.aS Tryz.func52 J Tryz.ntmps52 Tryz.results52 J J ?_
 refine ax<|cm J J J J fun b1=>cm J J J J fun b2=>rA J J<|rN<|ax<|rF J J J<|rL J J .p1 J J<|rF J J J<|rL J J .p0 J J<|au h fun v3 e1 h=>cO J (mT (fun e=>Cy e) e1) (.cons (.co (.refl _)) (.cons (.co (.refl _)) (.cons (.tv _ _ _ .nil) .nil))) J J<|rA J J<|rN<|ax<|rF J J J<|rL J J .p1 J J<|rF J J J<|rL J J .p0 J J<|au h fun v4 e2 h=>cO J (ln (fun e=>Cz e) e2) (.cons (.co (.refl _)) (.cons (.co (.refl _)) (.cons (.tv _ _ _ .nil) .nil))) J J<|rA J J<|rN<|tS<|ab.cut (fun aE=>∃ (c5:Bool),qB c5=some r∧aE=⟨35,[(4,.bool c5)],[]⟩) ?_ ?_
 ·refine tR<|rF J J J<|rL J J .p1 J J<|rF J J J<|rL J J .p0 J J<|au h fun v6 e3 h=>aG J (sF e3) cR J<|rM J J<|ae.guard J J J (fun hc=>?_) (fun hc=>?_)
  ·refine have h:=lL hc h;rM J J<|rT J J J<|rM J J<|ae.guard J J J (fun hc=>?_) (fun hc=>?_)
   ·refine have h:=lL hc h;rF J J J<|rY J J J<|rL J J .p1 J J<|rY J J J<|rF J J J<|rY J J J<|rL J J .p0 J J<|rY J J J<|au h fun v7 e4 h=>aG J (sG e4) cR J<|rT J J J<|rM J J<|ae.guard J J J (fun hc=>?_) (fun hc=>?_)
    ·rw [wF hc] at h
     exact rM J J<|rT J J J<|rA J J<|rN<|ab.stop<|ai.lq [] ⟨v4,h,J⟩ J J
    ·rw [wG hc] at h
     exact rE J J J<|rA J J<|rN<|ab.stop<|ai.lq [] ⟨false,h,J⟩ J J
   ·exact have h:=lM hc h;rG J J J J<|rG J J J J<|rG J J J J<|rG J J J J<|rE J J J<|rM J J<|rG J J J J<|rE J J J<|rA J J<|rN<|ab.stop<|ai.lq [] ⟨false,h,J⟩ J J
  ·exact have h:=lM hc h;rE J J J<|rM J J<|rG J J J J<|rG J J J J<|rG J J J J<|rG J J J J<|rG J J J J<|rE J J J<|rM J J<|rG J J J J<|rE J J J<|rA J J<|rN<|ab.stop<|ai.lq [] ⟨false,h,J⟩ J J
 ·rintro aE ⟨c5,h,rfl⟩
  unfold qB at h
  refine ab.ret<|?_
  cases h
  exact hP J J
theorem qT [GI:bx] {ah:Int} {r:(List al)} (h:dL ah=some r):aB Tryz.prog 262 [.nil,I ah] [] (T1 (fun iM=>[(iM,Be r)]) (fun iM=>.sl 1 iM 0 r.length)):=by
 unfold dL at h
 refine aB.dS ?_
 refine aB.aS Tryz.func262 J Tryz.ntmps262 Tryz.results262 J J ?_
 refine ax<|rA J J<|rN<|tS<|ax<|rM J J<|ae.qv (bG J J) J<|rN<|cD h J (fun h=>?_) (fun h=>?_)
 ·refine tR<|?_
  cases h
 ·refine tK<|tS<|ax<|rM J J<|rM J J<|ae.qv (D6 J) J<|rM J J<|ae.qv (DR J) J<|ae.qv (gi J J) J<|ae.qv (gi J J) J<|rA J J<|rN<|ax<|rM J J<|ae.qv (fO J J) J<|rN<|ab.cut (fun aE=>∃ (b1:Bk) (l2:List al),dn l2=some r∧aE=⟨27,[(0,.sl 1 b1 0 l2.length)],[(b1,Be l2)]⟩) ?_ ?_
  ·refine cD h J (fun h=>?_) (fun h=>?_)
   ·exact tR<|rM J J<|rM J J<|ae.qv (D6 J) J<|au h fun l3 e1 h=>ae.qv (F9 J .none (.some _ _ _ J) J J e1) J<|rM J J<|au h fun l4 e2 h=>JF (g:=AV.str) (Z:=[]) J J J J J J J J J e2 fun b5=>rM J J<|ae.qv (DR J) J<|au h fun l6 e3 h=>ae.qv (tz J J .none (.some _ _ _ J) J J e3) J<|rA J J<|ae.ghost<|ai.LC e3 .p0<|ai.here<|rN<|ab.stop<|ai.lq [0] ⟨b5,l6,h,J⟩ J J
   ·exact tK<|ab.stop<|ai.arr (s:=0) 1 J fun b7=>ai.lq [0] ⟨b7,[],h,J⟩ J J
  ·rintro aE ⟨b1,l2,h,rfl⟩
   unfold dn at h
   refine ax<|rM J J<|rA J J<|rN<|ab.ret<|?_
   cases h
   exact hH J [0] J ⟨b1,J,J⟩
theorem sv [GI:bx] {aa:List (List al)} {r:(List al)} (h:eA aa=some r):aB Tryz.prog 202 [Ol aa] [] (T1 (fun iM=>[(iM,Be r)]) (fun iM=>.sl 1 iM 0 r.length)):=by
 unfold eA at h
 refine aB.dS ?_
 refine aB.aS Tryz.func202 J Tryz.ntmps202 Tryz.results202 J J ?_
 refine ax<|rA J J<|rN<|ax<|rA J J<|rN<|tS<|ax<|rM J J<|ae.qv (bA J) J<|rM J J<|rN<|ab.block<|ab.cq (fun x:Int×Int=>ck aa x.1 x.2) (fun x aE=>aE=⟨36,[(0,Ol aa),(3,I x.1),(9,Ol aa),(10,I (aa.length:Int)),(11,I x.2)],[]⟩) h ?_ ?_
 ·exact ai.lq [] J J J
 ·intro x z1 aE J1 dN h gH df
  obtain ⟨n3,n4⟩:=x
  obtain rfl:=dN
  replace h:ck aa n3 n4=some z1:=h
  unfold ck at h
  refine ax<|ae.qv (bG J J) J<|rN<|tS<|cD h J (fun h=>?_) (fun h=>?_)
  ·refine tK<|tS<|ab.block<|ax<|au h fun v5 e1 h=>ae.qv (aO J J J e1 J J) J<|ae.qv (aJ J J J) J<|rA J J<|rN<|ax<|rM J J<|rM J J<|ae.qv (bA J) J<|ae.qv (bd J J) J<|rA J J<|rN<|ax<|rM J J<|ae.qv (bG J J) J<|rN<|cD h J (fun h=>?_) (fun h=>?_)
   ·refine tR<|?_
    cases h
   ·refine tK<|ab.cF<|tR<|ae.qv (bd J J) J<|rM J J<|rN<|ab.stop<|?_
    cases h
    exact gH _ _ J<|ai.lq [] J J J
  ·refine ab.exit J<|have h:=bE h df;?_
   unfold gY at h
   refine ax<|rM J J<|au h fun v6 e2 h=>de J (qT e2) cR .nil (fun _=>J) J fun b7=>rA J J<|rN<|tS<|ax<|rM J J<|ae.qv (bA J) J<|rM J J<|rN<|ab.block<|ab.cq (fun x:(List al)×Int=>bC aa x.1 x.2) (fun x aE=>∃ (yn:Bk),aE=⟨36,[(6,.sl 1 yn 0 x.1.length),(25,Ol aa),(26,I (aa.length:Int)),(27,I x.2)],[(yn,Be x.1)]⟩) h ?_ ?_
   ·exact ai.lq [0] ⟨b7,J⟩ J J
   ·intro x z2 aE J2 dN h Dt zv
    obtain ⟨zQ,n13⟩:=x
    obtain ⟨yn,rfl⟩:=dN
    replace h:bC aa zQ n13=some z2:=h
    unfold bC at h
    refine ax<|ae.qv (bG J J) J<|rN<|tS<|cD h J (fun h=>?_) (fun h=>?_)
    ·refine tK<|tS<|ab.block<|ax<|au h fun xy e3 h=>ae.qv (aO J J J e3 J J) J<|ae.qv (aJ J J J) J<|rA J J<|rN<|tR<|rM J J<|rM J J<|au h fun AL e4 h=>dt (g:=AV.str) J J J J J J J J (.list _) e4 (fun _=>.p0) J fun KO=>rA J J<|rN<|ab.cF<|tR<|ae.qv (bd J J) J<|rM J J<|rN<|ab.stop<|?_
     cases h
     exact Dt _ _ J<|ai.lq [0] ⟨KO,J⟩ J J
    ·refine ab.exit J<|have h:=bE h zv;ax<|rM J J<|rA J J<|rN<|ab.ret<|?_
     cases h
     exact hH J [0] J ⟨yn,J,J⟩
theorem yu {aa:al} {r:Bool} (h:ji aa=some r):Pu Tryz.prog 203 [.str aa] (.bool r):=by
 unfold ji at h
 refine aB.aS Tryz.func203 J Tryz.ntmps203 Tryz.results203 J J ?_
 refine ax<|rA J J<|rN<|ax<|rM J J<|au h fun v1 e1 h=>aG J (w7 e1) cR J<|ae.qv (bX J) J<|rA J J<|rN<|ab.ret<|?_
 cases h
 exact hP J J
theorem Br [GI:bx] {aa:al} {ah:al} {r:Bool} (h:oO aa ah=some r):Pu Tryz.prog 315 [.str aa,.str ah] (.bool r):=by
 unfold oO at h
 refine aB.aS Tryz.func315 J Tryz.ntmps315 Tryz.results315 J J ?_
 refine ax<|rA J J<|rN<|ax<|rM J J<|au h fun v1 e1 h=>aG J (oe e1) cR J<|rM J J<|rX J J J<|rX J J J<|rA J J<|rA J J<|rN<|tS<|ab.cut (fun aE=>∃ (c2:Bool),jj c2=some r∧aE=⟨23,[(4,.bool c2)],[]⟩) ?_ ?_
 ·refine tR<|rM J J<|rM J J<|ae.qv (iz J J) J<|rM J J<|gF h J J J (fun h=>?_) (fun h=>?_)
  ·refine rM J J<|rY J J J<|rM J J<|ae.guard J J J (fun hc=>?_) (fun hc=>?_)
   ·exact have h:=lL hc h;rM J J<|rY J J J<|rM J J<|rY J J J<|au h fun v3 e2 h=>aG J (sS e2) cR J<|rY J J J<|rT J J J<|rE J J J<|rA J J<|rN<|ab.stop<|ai.lq [] ⟨v3,h,J⟩ J J
   ·exact have h:=lM hc h;rG J J J J<|rG J J J J<|rY J J J<|rE J J J<|rE J J J<|rA J J<|rN<|ab.stop<|ai.lq [] ⟨false,h,J⟩ J J
  ·exact rG J J J J<|ae.bq J J J<|ae.bq J J J<|ae.bq J J J<|rG J J J J<|rT J J J<|rA J J<|rN<|ab.stop<|ai.lq [] ⟨true,h,J⟩ J J
 ·rintro aE ⟨c2,h,rfl⟩
  unfold jj at h
  refine ab.ret<|?_
  cases h
  exact hP J J
theorem xU [GI:bx] {aa:al} {ah:al} {r:Bool} (h:iG aa ah=some r):Pu Tryz.prog 314 [.str aa,.mu [.str ah]] (.bool r):=by
 unfold iG at h
 refine aB.aS Tryz.func314 J Tryz.ntmps314 Tryz.results314 J J ?_
 refine ax<|rA J J<|rN<|ax<|rM J J<|ae.qv (aJ J J J) J<|au h fun v1 e1 h=>aG J (Br e1) cR J<|rA J J<|rN<|ab.ret<|?_
 cases h
 exact hP J J
theorem Af [GI:bx] {aa:List al} {ah:al} {r:Bool} (h:nD aa ah=some r):Pu Tryz.prog 267 [mU aa,.str ah] (.bool r):=by
 unfold nD at h
 refine aB.aS Tryz.func267 J Tryz.ntmps267 Tryz.results267 J J ?_
 refine ax<|cm J J J J fun b1=>rA J J<|rN<|ax<|rM J J<|ae.qv (jk J) J<|au h fun v2 e1 h=>cO J (cJ (fun e=>xU e) e1) (.cons (.co (.refl _)) (.cons (.tv _ _ _ (.cons (.C9 _ _ _ .p0 (.cons (.co (.refl _)) .nil)) .nil)) .nil)) J J<|rA J J<|rN<|ab.ret<|?_
 cases h
 exact hP J J
theorem vL [GI:bx] {aa:al} {ah:List al} {r:Bool} (h:gb aa ah=some r):Pu Tryz.prog 266 [.str aa,.mu [mU ah]] (.bool r):=by
 unfold gb at h
 refine aB.aS Tryz.func266 J Tryz.ntmps266 Tryz.results266 J J ?_
 refine ax<|rA J J<|rN<|ax<|ae.qv (aJ J J J) J<|rM J J<|au h fun v1 e1 h=>aG J (Af e1) cR J<|ae.qv (bX J) J<|rA J J<|rN<|ab.ret<|?_
 cases h
 exact hP J J
theorem xV [GI:bx] {aa:List al} {ah:List al} {r:Bool} (h:kr aa ah=some r):Pu Tryz.prog 205 [mU aa,mU ah] (.bool r):=by
 unfold kr at h
 refine aB.aS Tryz.func205 J Tryz.ntmps205 Tryz.results205 J J ?_
 refine ax<|cm J J J J fun b1=>rA J J<|rN<|ax<|rM J J<|ae.qv (jk J) J<|au h fun v2 e1 h=>cO J (cJ (fun e=>vL e) e1) (.cons (.co (.refl _)) (.cons (.tv _ _ _ (.cons (.C9 _ _ _ .p0 (.cons (.co (.refl _)) .nil)) .nil)) .nil)) J J<|ae.qv (bX J) J<|rA J J<|rN<|ab.ret<|?_
 cases h
 exact hP J J
theorem Bs {aa:List al} {ah:List al} {r:Bool×Int} (h:oP aa ah=some r):Pu Tryz.prog 136 [mU aa,mU ah] (.om [.bool r.1,I r.2]):=by
 unfold oP at h
 refine aB.aS Tryz.func136 J Tryz.ntmps136 Tryz.results136 J J ?_
 refine ax<|rA J J<|rA J J<|rN<|tS<|ax<|rM J J<|rM J J<|aD (xs:=([aa,ah]:List (List al)).map (Df 1 AV.str)) J J J J J J<|au h fun v1 e1 h=>de J (sv e1) cR .nil (fun _=>J) J fun b2=>au h fun v3 e2 h=>cO J (cJ (fun e=>yu e) e2) (.cons (qO.nL .p0) (.cons (.tv _ _ _ .nil) .nil)) J J<|rN<|cB h J (fun h=>?_) (fun h=>?_)
 ·refine ax<|rA J J<|rA J J<|rN<|ab.ret<|?_
  cases h
  exact hQ J J J
 ·refine tK<|tS<|tS<|ab.cut (fun aE=>∃ (c4:Bool),nV aa ah c4=some r∧aE=⟨22,[(0,mU aa),(1,mU ah),(18,.bool c4)],[]⟩) ?_ ?_
  ·refine tR<|rM J J<|ae.qv (bA J) J<|ae.qv (fO J J) J<|rM J J<|ae.fC J J J (fun hc=>?_) (fun hc=>?_)
   ·rw [zK hc] at h
    exact rM J J<|rY J J J<|ae.qv (bA J) J<|rY J J J<|ae.qv (fO J J) J<|rE J J J<|rN<|ab.stop<|ai.lq [] ⟨decide ((50:Int) < (ah.length:Int)),h,J⟩ J J
   ·rw [zJ hc] at h
    exact rG J J J J<|rG J J J J<|rT J J J<|rN<|ab.stop<|ai.lq [] ⟨true,h,J⟩ J J
  ·rintro aE ⟨c4,h,rfl⟩
   unfold nV at h
   refine cB h J (fun h=>?_) (fun h=>?_)
   ·refine ax<|rA J J<|rA J J<|rN<|ab.ret<|?_
    cases h
    exact hQ J J J
   ·refine tK<|ax<|rM J J<|rM J J<|au h fun v5 e3 h=>aG J (xV e3) cR J<|rA J J<|rA J J<|rN<|ab.ret<|?_
    cases h
    exact hQ J J J
theorem Fh {r:Bool} (h:tP=some r):Pu Tryz.prog 53 [] (.bool r):=by
 unfold tP at h
 refine aB.aS Tryz.func53 J Tryz.ntmps53 Tryz.results53 J J ?_
 refine ax<|rA J J<|rN<|ax<|aD (xs:=([([97,46,42]:al)]).map AV.str) J J J J J J<|aD (xs:=([([97,46,98]:al)]).map AV.str) J J J J J J<|au h fun v1 e1 h=>aG J (Bs e1) cR J<|rM J J<|rX J J J<|rX J J J<|rA J J<|rA J J<|rN<|tS<|ab.cut (fun aE=>∃ (c2:Bool),r5 c2=some r∧aE=⟨14,[(0,.bool c2)],[]⟩) ?_ ?_
 ·refine tR<|rM J J<|ae.qv (cL J J) J<|rM J J<|ae.cN J J J (fun hc=>?_) (fun hc=>?_)
  ·rw [sK hc] at h
   exact rM J J<|rT J J J<|rA J J<|rN<|ab.stop<|ai.lq [] ⟨v1.1,h,J⟩ J J
  ·rw [sL hc] at h
   exact rE J J J<|rA J J<|rN<|ab.stop<|ai.lq [] ⟨false,h,J⟩ J J
 ·rintro aE ⟨c2,h,rfl⟩
  unfold r5 at h
  refine ab.ret<|?_
  cases h
  exact hP J J
theorem zi {aa:List Int} {r:Bool} (h:lZ aa=some r):Pu Tryz.prog 4 [du aa] (.bool r):=by
 unfold lZ at h
 refine aB.aS Tryz.func4 J Tryz.ntmps4 Tryz.results4 J J ?_
 refine ax<|rA J J<|rN<|ax<|rM J J<|ae.qv (bn J J J J J) J<|cm J J J J fun b1=>rA J J<|rN<|ax<|rM J J<|au h fun v2 e1 h=>aK J (E9 e1) cR (.cons .p0 .nil) J J<|rM J J<|au h fun v3 e2 h=>de J (Bg e2) cR (.cons .p0 .nil) (fun _=>J) J fun b4=>rM J J<|au h fun v5 e3 h=>de J (zT e3) cR (.cons .p0 .nil) (fun _=>J) J fun b6=>rM J J<|aD (xs:=([([116,97]:al),([116,98]:al),([116,99]:al),([110,111,110,101]:al)]).map AV.str) J J J J J J<|au h fun v7 e4 h=>aK J (bD e4) cR (.cons .p0 .nil) J J<|rM J J<|aD (xs:=([([]:al),([116,97]:al),([116,100]:al),([116,99]:al),([110,111,110,101]:al)]).map AV.str) J J J J J J<|au h fun v8 e5 h=>aK J (bD e5) cR (.cons .p0 .nil) J J<|rM J J<|aD (xs:=([([99,112,117]:al),([100,101,118]:al),([65]:al)]).map AV.str) J J J J J J<|au h fun v9 e6 h=>aK J (bD e6) cR (.cons .p0 .nil) J J<|bf J J J J fun Ek=>aq J J J J .p0 J J<|rA J J<|rA J J<|rA J J<|rA J J<|rA J J<|rN<|ax<|ae.qv (ao J J .p0 J) J<|au h fun v11 e7 h=>aG J (zb e7) cR J<|rA J J<|rN<|ax<|rM J J<|rM J J<|rA J J<|rA J J<|rN<|tS<|ax<|rM J J<|ae.qv (cL J J) J<|rN<|ab.cut (fun aE=>∃ (n12:Int) (n13:Int),hC v2 v3 v5 v7 v8 v9 v11 n12 n13=some r∧aE=⟨193,[(4,.ptr Ek 0),(5,.sl 3 b4 0 v3.1.length),(6,.sl 3 b6 0 v5.1.length),(7,.str v7.1),(8,.str v8.1),(9,.str v9.1),(10,I v11),(11,I n12),(12,I n13)],[(Ek,.cells (uE v2.1)),(b4,Ei v3.1),(b6,Mg v5.1)]⟩) ?_ ?_
 ·refine cD h J (fun h=>?_) (fun h=>?_)
  ·exact ab.cV (id:=6) (A:=[0,0,3,0,0,31,63,127]) 8 mixed J (by kernel_rfl) (by kernel_rfl)<|AM.qv (ao J J .p0 J) J<|AM.qv (aQ J) J<|au h fun xy e8 h=>AM.Hr J (Bo e8) (.cons (.co (.refl _)) (.cons (qO.nL .p3) .nil)) J J<|AM.qv (ao J J .p0 J) J<|AM.qv (aQ J) J<|au h fun lB e9 h=>AM.Hr J (zX e9) (.cons (.co (.refl _)) (.cons (qO.nL .p2) .nil)) J J<|AM.qv (bI J) J<|AM.qv (bI J) J<|AM.nil<|rN<|ab.stop<|ai.lq [0,2,1] ⟨xy,lB,h,J⟩ J J
  ·exact tK<|ab.stop<|ai.lq [0,2,1] ⟨v11,v11,h,J⟩ J J
 ·rintro aE ⟨n12,n13,h,rfl⟩
  unfold hC at h
  refine tS<|tS<|ab.cut (fun aE=>∃ (Dn:Bool),fR v2 v3 v5 v7 v8 v9 v11 n12 n13 Dn=some r∧aE=⟨193,[(4,.ptr Ek 0),(5,.sl 3 b4 0 v3.1.length),(6,.sl 3 b6 0 v5.1.length),(7,.str v7.1),(8,.str v8.1),(9,.str v9.1),(10,I v11),(11,I n12),(12,I n13),(63,.bool Dn)],[(Ek,.cells (uE v2.1)),(b4,Ei v3.1),(b6,Mg v5.1)]⟩) ?_ ?_
  ·refine tR<|ae.qv (ao J J .p0 J) J<|rM J J<|au h fun v17 zS h=>cO J (w8 zS) (.cons (.co (.refl _)) (.cons (qO.nL .p1) .nil)) J J<|rM J J<|ae.qv (cG J J) J<|rM J J<|gF h J J J (fun h=>?_) (fun h=>?_)
   ·exact ae.qv (ao J J .p0 J) J<|rY J J J<|rM J J<|rY J J J<|au h fun uO E8 h=>cO J (wm E8) (.cons (.co (.refl _)) (.cons (qO.nL .p2) .nil)) J J<|rY J J J<|rM J J<|rY J J J<|ae.qv (cG J J) J<|rE J J J<|rN<|ab.stop<|ai.lq [0,0,0] ⟨decide (uO≠n13),h,J⟩ J J
   ·exact rG J J J J<|rG J J J J<|rG J J J J<|rG J J J J<|rT J J J<|rN<|ab.stop<|ai.lq [0,0,0] ⟨true,h,J⟩ J J
  ·rintro aE ⟨Dn,h,rfl⟩
   unfold fR at h
   refine cB h J (fun h=>?_) (fun h=>?_)
   ·refine ax<|rA J J<|rN<|ab.ret<|?_
    cases h
    exact hP J J
   ·refine tK<|tS<|ab.cut (fun aE=>∃ (n19:Int),eU v2 v3 v5 v7 v8 v9 n12 n13 n19=some r∧aE=⟨193,[(4,.ptr Ek 0),(5,.sl 3 b4 0 v3.1.length),(6,.sl 3 b6 0 v5.1.length),(7,.str v7.1),(8,.str v8.1),(9,.str v9.1),(11,I n12),(12,I n13),(13,I n19)],[(Ek,.cells (uE v2.1)),(b4,Ei v3.1),(b6,Mg v5.1)]⟩) ?_ ?_
    ·refine tR<|rM J J<|ae.qv (cL J J) J<|rM J J<|gT h J J J (fun h=>?_) (fun h=>?_)
     ·refine ae.qv (ao J J .p0 J) J<|rY J J J<|rM J J<|rY J J J<|au h fun v20 FE h=>B6 h (fun GC h=>?_) (fun WI GC h=>?_)
      ·exact have cM7:=pS GC (w9 FE);aK J cM7 cR .nil J J<|rY J J J<|ae.qv (LW J J) J<|rT J J J<|aG J (Cw J) cR J<|rM J J<|au h fun v22 Mh h=>aG J (vJ Mh) cR J<|aD (xs:=([(sB true (8:Int)),v22]).map I) J J J J J J<|au h fun v23 QL h=>aG J (jy QL) cR J<|rA J J<|rN<|ab.stop<|ai.lq [0,0,0] ⟨v23,h,J⟩ J J
      ·exact have cM8:=pT GC (w9 FE);de J cM8 cR .nil (fun _=>J) J fun TB=>rY J J J<|au h fun v25 QM h=>ae.qv (LX (l:=WI) J J QM) J<|rT J J J<|aG J (Cw J) cR J<|rM J J<|au h fun v26 QN h=>aG J (vJ QN) cR J<|aD (xs:=([(sB false (8:Int)),v26]).map I) J J J J J J<|au h fun zu Ty h=>aG J (jy Ty) cR J<|rA J J<|rN<|ab.stop<|ai.lq [1,1,1] ⟨zu,h,J⟩ J J
     ·exact rG J J J J<|rG J J J J<|rG J J J J<|rE J J J<|aG J (Cw J) cR J<|rM J J<|au h fun v28 Tz h=>aG J (vJ Tz) cR J<|aD (xs:=([(sB false (8:Int)),v28]).map I) J J J J J J<|au h fun vv WV h=>aG J (jy WV) cR J<|rA J J<|rN<|ab.stop<|ai.lq [0,0,0] ⟨vv,h,J⟩ J J
    ·rintro aE ⟨n19,h,rfl⟩
     unfold eU at h
     refine ax<|ae.qv (ao J J .p0 J) J<|rM J J<|rM J J<|rM J J<|au h fun v30 WW h=>cO J (Cx WW) (.cons (.co (.refl _)) (.cons (qO.nL .p2) (.cons (.co (.refl _)) (.cons (.co (.refl _)) .nil)))) J J<|rM J J<|rX J J J<|rX J J J<|rA J J<|rA J J<|rN<|ax<|rM J J<|rM J J<|aD (xs:=([n13,n19]:List Int).map I) J J J J J J<|au h fun v31 WX h=>aG J (jy WX) cR J<|rA J J<|rN<|tS<|tS<|ab.cut (fun aE=>∃ (Tx:Bool),eT v2 v3 v5 v7 v8 v9 n12 n13 n19 Tx=some r∧aE=⟨193,[(4,.ptr Ek 0),(5,.sl 3 b4 0 v3.1.length),(6,.sl 3 b6 0 v5.1.length),(7,.str v7.1),(8,.str v8.1),(9,.str v9.1),(11,I n12),(12,I n13),(13,I n19),(104,.bool Tx)],[(Ek,.cells (uE v2.1)),(b4,Ei v3.1),(b6,Mg v5.1)]⟩) ?_ ?_
     ·refine tR<|rM J J<|rM J J<|ae.qv (cG J J) J<|rM J J<|gF h J J J (fun h=>?_) (fun h=>?_)
      ·refine rM J J<|rY J J J<|ae.qv (cL J J) J<|rY J J J<|rM J J<|gT h J J J (fun h=>?_) (fun h=>?_)
       ·exact rM J J<|rY J J J<|ae.qv (ao J J .p0 J) J<|rY J J J<|rM J J<|rY J J J<|rM J J<|rY J J J<|rM J J<|rY J J J<|au h fun v33 WY h=>cO J (xa WY) (.cons (.co (.refl _)) (.cons (qO.nL .p2) (.cons (.co (.refl _)) (.cons (.co (.refl _)) .nil)))) J J<|rY J J J<|ae.qv (cG J J) J<|rY J J J<|rT J J J<|rE J J J<|rN<|ab.stop<|ai.lq [0,0,0] ⟨decide (v30.1≠v33),h,J⟩ J J
       ·exact rG J J J J<|rG J J J J<|rG J J J J<|rG J J J J<|rG J J J J<|rG J J J J<|rY J J J<|rE J J J<|rE J J J<|rN<|ab.stop<|ai.lq [0,0,0] ⟨false,h,J⟩ J J
      ·exact rG J J J J<|rG J J J J<|ae.bq J J J<|ae.bq J J J<|ae.bq J J J<|ae.bq J J J<|ae.bq J J J<|ae.bq J J J<|ae.bq J J J<|rG J J J J<|rT J J J<|rN<|ab.stop<|ai.lq [0,0,0] ⟨true,h,J⟩ J J
     ·rintro aE ⟨Tx,h,rfl⟩
      unfold eT at h
      refine cB h J (fun h=>?_) (fun h=>?_)
      ·refine ax<|rA J J<|rN<|ab.ret<|?_
       cases h
       exact hP J J
      ·refine tK<|ax<|ae.qv (ao J J .p0 J) J<|rM J J<|rM J J<|rM J J<|rM J J<|au h fun E5 WZ h=>cO J (DA WZ) (.cons (.co (.refl _)) (.cons (qO.nL .p1) (.cons (qO.nL .p2) (.cons (.co (.refl _)) (.cons (.co (.refl _)) .nil))))) J J<|rM J J<|rX J J J<|rX J J J<|rA J J<|rA J J<|rN<|ax<|rM J J<|rM J J<|aD (xs:=([n12,n13]:List Int).map I) J J J J J J<|au h fun v35 W0 h=>aG J (jy W0) cR J<|rA J J<|rN<|ax<|rM J J<|rM J J<|aD (xs:=([v35,n19]:List Int).map I) J J J J J J<|au h fun WH W1 h=>aG J (jy W1) cR J<|rA J J<|rN<|tS<|tS<|ab.cut (fun aE=>∃ (c37:Bool),eS v2 v3 v5 v7 v8 v35 c37=some r∧aE=⟨193,[(4,.ptr Ek 0),(5,.sl 3 b4 0 v3.1.length),(6,.sl 3 b6 0 v5.1.length),(7,.str v7.1),(8,.str v8.1),(17,I v35),(138,.bool c37)],[(Ek,.cells (uE v2.1)),(b4,Ei v3.1),(b6,Mg v5.1)]⟩) ?_ ?_
       ·refine tR<|rM J J<|rM J J<|ae.qv (cG J J) J<|rM J J<|gF h J J J (fun h=>?_) (fun h=>?_)
        ·refine rM J J<|rY J J J<|ae.qv (cL J J) J<|rY J J J<|rM J J<|gT h J J J (fun h=>?_) (fun h=>?_)
         ·exact rM J J<|rY J J J<|ae.qv (ao J J .p0 J) J<|rY J J J<|rM J J<|rY J J J<|rM J J<|rY J J J<|rM J J<|rY J J J<|rM J J<|rY J J J<|au h fun J6 Vp h=>cO J (HV Vp) (.cons (.co (.refl _)) (.cons (qO.nL .p1) (.cons (qO.nL .p2) (.cons (.co (.refl _)) (.cons (.co (.refl _)) .nil))))) J J<|rY J J J<|ae.qv (cG J J) J<|rY J J J<|rT J J J<|rE J J J<|rN<|ab.stop<|ai.lq [0,0,0] ⟨decide (E5.1≠J6),h,J⟩ J J
         ·exact rG J J J J<|rG J J J J<|rG J J J J<|rG J J J J<|rG J J J J<|rG J J J J<|rG J J J J<|rY J J J<|rE J J J<|rE J J J<|rN<|ab.stop<|ai.lq [0,0,0] ⟨false,h,J⟩ J J
        ·exact rG J J J J<|rG J J J J<|ae.bq J J J<|ae.bq J J J<|ae.bq J J J<|ae.bq J J J<|ae.bq J J J<|ae.bq J J J<|ae.bq J J J<|ae.bq J J J<|rG J J J J<|rT J J J<|rN<|ab.stop<|ai.lq [0,0,0] ⟨true,h,J⟩ J J
       ·rintro aE ⟨c37,h,rfl⟩
        unfold eS at h
        refine cB h J (fun h=>?_) (fun h=>?_)
        ·refine ax<|rA J J<|rN<|ab.ret<|?_
         cases h
         exact hP J J
        ·refine tK<|ax<|ae.qv (ao J J .p0 J) J<|rM J J<|rM J J<|au h fun v39 e28 h=>B2 J (DB e28) .nil (.cons (.co (.refl _)) (.cons (qO.nL .p1) (.cons (qO.nL .p2) .nil))) (fun _=>J) (fun _=>J) (fun _=>(.cons (Pm.nL (fun _=>J)) .nil)) J fun b40=>rM J J<|rX J J J<|rX J J J<|rA J J<|rA J J<|rN<|tS<|tS<|ab.cut (fun aE=>∃ (Tw:Bool),eR v2 v3 v5 v7 v8 v35 Tw=some r∧aE=⟨193,[(4,.ptr Ek 0),(5,.sl 3 b4 0 v3.1.length),(6,.sl 3 b6 0 v5.1.length),(7,.str v7.1),(8,.str v8.1),(17,I v35),(161,.bool Tw)],[(Ek,.cells (uE v2.1)),(b4,Ei v3.1),(b6,Mg v5.1)]⟩) ?_ ?_
         ·refine tR<|rM J J<|rM J J<|ae.qv (cG J J) J<|rM J J<|gF h J J J (fun h=>?_) (fun h=>?_)
          ·refine rM J J<|rY J J J<|ae.qv (cL J J) J<|rY J J J<|rM J J<|gT h J J J (fun h=>?_) (fun h=>?_)
           ·exact rM J J<|rY J J J<|ae.qv (ao J J .p1 J) J<|rY J J J<|rM J J<|rY J J J<|rM J J<|rY J J J<|au h fun Tu e29 h=>B2 J (yq e29) .nil (.cons (.co (.refl _)) (.cons (qO.nL .p2) (.cons (qO.nL .p3) .nil))) (fun _=>J) (fun _=>J) (fun _=>(.cons (Pm.nL (fun _=>J)) .nil)) J fun b43=>rY J J J<|au h fun v44 e30 h=>cO J (tX e30) (.cons (qO.nL .p1) (.cons (qO.nL .p0) .nil)) J J<|rY J J J<|ae.qv (bX J) J<|rY J J J<|rT J J J<|rE J J J<|rN<|ab.stop<|ai.lq [2,2,2] ⟨!v44,h,J⟩ J J
           ·exact rG J J J J<|rG J J J J<|rG J J J J<|rG J J J J<|rG J J J J<|rG J J J J<|rY J J J<|rE J J J<|rE J J J<|rN<|ab.stop<|ai.lq [1,1,1] ⟨false,h,J⟩ J J
          ·exact rG J J J J<|rG J J J J<|ae.bq J J J<|ae.bq J J J<|ae.bq J J J<|ae.bq J J J<|ae.bq J J J<|ae.bq J J J<|ae.bq J J J<|rG J J J J<|rT J J J<|rN<|ab.stop<|ai.lq [1,1,1] ⟨true,h,J⟩ J J
         ·rintro aE ⟨Tw,h,rfl⟩
          unfold eR at h
          refine cB h J (fun h=>?_) (fun h=>?_)
          ·refine ax<|rA J J<|rN<|ab.ret<|?_
           cases h
           exact hP J J
          ·refine tK<|ax<|ae.qv (ao J J .p0 J) J<|rM J J<|rM J J<|rM J J<|rM J J<|au h fun v45 e31 h=>ae.ghost<|ai.freeze .p1<|ai.here<|ae.ghost<|ai.freeze .p2<|ai.here<|aG J (DD e31) (.cons (.refl _) (.cons (Co.sx .p1) (.cons (Co.sx .p2) (.cons (.refl _) (.cons (.refl _) .nil))))) J<|rM J J<|rX J J J<|rX J J J<|bf J J J J fun Vj=>aq J J J J .p0 J J<|rA J J<|rN<|ax<|bf J J J J fun b47=>rN<|tS<|ax<|rM J J<|ae.qv (cL J J) J<|rN<|ab.cut (fun aE=>∃ (n48:Int) (Tv:List an) (JZ:List bF) (KH:List bj) (J0:List bJ),gZ v45 n48 Tv JZ KH J0=some r∧aE=⟨193,[(15,I v45.2),(17,I n48),(20,.ptr Vj 0),(21,.ptr b47 0)],[(Vj,.cells (uE v45.1)),(b47,.cells [y8 Tv,C3 JZ,Dq KH,Ch J0])]⟩) ?_ ?_
           ·refine cD h J (fun h=>?_) (fun h=>?_)
            ·exact tR<|ae.qv (ao J J .p2 J) J<|rM J J<|rM J J<|rM J J<|rM J J<|au h fun v53 e32 h=>aG J (HW e32) (.cons (.refl _) (.cons (Co.sx .p3) (.cons (Co.sx .p4) (.cons (.refl _) (.cons (.refl _) .nil))))) J<|rM J J<|rX J J J<|rX J J J<|aq J J J J .p0 J J<|rA J J<|rN<|ab.stop<|ai.lq [1,0] ⟨v53.2,v53.1.ak,v53.1.ba,v53.1.aL,v53.1.aR,h,J⟩ J J
            ·exact tK<|ab.stop<|ai.cd (j:=0) 2 .p0 J J J<|ai.cd (j:=1) 2 .p0 J J J<|ai.cd (j:=2) 3 .p0 J J J<|ai.cd (j:=3) 17 .p0 J J J<|ai.lq [1,0] ⟨v35,[],[],[],[],h,J⟩ J J
           ·rintro aE ⟨n48,Tv,JZ,KH,J0,h,rfl⟩
            unfold gZ at h
            refine tS<|ab.cut (fun aE=>∃ (KJ:Bool),jx KJ=some r∧aE=⟨193,[(2,.bool KJ)],[]⟩) ?_ ?_
            ·refine tR<|rM J J<|rM J J<|ae.qv (cL J J) J<|rM J J<|gT h J J J (fun h=>?_) (fun h=>?_)
             ·refine ae.qv (ao J J .p0 J) J<|rY J J J<|ae.qv (ao J J .p1 J) J<|rY J J J<|au h fun v55 e33 h=>aG J (GH e33) cR J<|rT J J J<|rM J J<|ae.guard J J J (fun hc=>?_) (fun hc=>?_)
              ·exact have h:=lL hc h;au h fun Gz e34 h=>aG J (Fh e34) cR J<|rT J J J<|rA J J<|rN<|ab.stop<|ai.lq [] ⟨Gz,h,J⟩ J J
              ·exact have h:=lM hc h;rE J J J<|rA J J<|rN<|ab.stop<|ai.lq [] ⟨false,h,J⟩ J J
             ·exact rG J J J J<|rG J J J J<|rE J J J<|rM J J<|rG J J J J<|rE J J J<|rA J J<|rN<|ab.stop<|ai.lq [] ⟨false,h,J⟩ J J
            ·rintro aE ⟨KJ,h,rfl⟩
             unfold jx at h
             refine ab.ret<|?_
             cases h
             exact hP J J
end Go.Proofs.YtckmkjeblanlfaaGreatDoor
