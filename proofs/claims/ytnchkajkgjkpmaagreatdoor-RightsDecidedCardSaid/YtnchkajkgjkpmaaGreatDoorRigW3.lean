/- The code computes the plain functions: proofs written by shal.py. -/
import Derived.Test.YtnchkajkgjkpmaaGreatDoorRigW2
set_option maxHeartbeats 4000000
set_option maxRecDepth 100000
set_option linter.unusedVariables false
set_option linter.unusedSimpArgs false
namespace Go.Proofs.YtnchkajkgjkpmaaGreatDoor
open Go Go.Eng Go.Proofs Go.Beacon
attribute [local irreducible] ARun ATodo AQ QV ACall ImpX AWp AM
theorem qR [GI:bc] {bd:Bk} {aa:List Reason} {er:Reason→Option Bool} {cL:FuncId} [aZ Tryz.prog cL] {dR:List AV} (jw:∀ {y0:_} {u:Bool},er y0=some u→Pu Tryz.prog cL (Reason.av y0 :: dR) (.bool u)) {r:(List Reason)} (h:fe aa er=some r):ACall Tryz.prog 51 [.sl 2 bd 0 aa.length,.func (.func cL) dR] [(bd,wX aa)] (T1 (fun iC=>[(iC,wX r)]) (fun iC=>.sl 2 iC 0 r.length)):=by
 unfold fe at h
 refine ACall.dN ?_
 refine ACall.aQ Tryz.func51 J Tryz.ntmps51 Tryz.results51 J J ?_
 refine ax<|rA J J<|rN<|ax<|rM J J<|rM J J<|aq h fun v1 e1 h=>dc J (sh jw e1) (.cons (vI.uf .p0) (.cons (.co (.refl _)) .nil)) J J<|rA J J<|rN<|tS<|ax<|rM J J<|ARun.qv (bS J J) J<|rN<|cD h J (fun h=>?_) (fun h=>?_)
 ·refine ax<|rM J J<|rA J J<|rN<|ATodo.ret<|?_
  cases h
  exact hH J [0] J ⟨bd,J,J⟩
 ·refine tK<|tS<|ax<|rM J J<|ARun.qv (bh J J) J<|rA J J<|rN<|ATodo.block<|ATodo.bT (fun x:(List Reason)×Int×Int=>dY er x.1 x.2.1 x.2.2) (fun x aB=>aB=⟨42,[(0,.sl 2 bd 0 x.1.length),(1,.func (.func cL) dR),(5,I x.2.1),(6,I x.2.2)],[(bd,wX x.1)]⟩) h ?_ ?_
  ·exact ImpX.lq [0] J J J
  ·intro x z1 aB J1 dB h ic dm
   obtain ⟨l5,n6,n7⟩:=x
   obtain rfl:=dB
   replace h:dY er l5 n6 n7=some z1:=h
   unfold dY at h
   refine tS<|ax<|rM J J<|rM J J<|ARun.qv (iO J) J<|ARun.qv (bu J J) J<|rN<|cD h J (fun h=>?_) (fun h=>?_)
   ·refine tK<|tS<|ATodo.block<|ax<|rM J J<|rM J J<|aq h fun v8 e2 h=>ARun.qv (fg J J J e2) J<|ARun.qv (pX (g:=Reason.av) J J (.inl .p0) J e2 J) J<|bn J J J J fun b9=>au J J J J .p0 J J<|rN<|ax<|rM J J<|ARun.qv (ao J J .p0 J) J<|aq h fun v10 e3 h=>tG J J (jw e3) cR J<|ARun.qv (bt J) J<|rN<|ATodo.cut (fun aB=>∃ (AH:List Reason) (n12:Int),dX n7 AH n12=some z1∧aB=⟨42,[(0,.sl 2 bd 0 AH.length),(1,.func (.func cL) dR),(5,I n12),(6,I n7)],[(bd,wX AH)]⟩) ?_ ?_
    ·refine cB h J (fun h=>?_) (fun h=>?_)
     ·exact ax<|rM J J<|rM J J<|ARun.qv (ao J J .p0 J) J<|aq h fun mb e4 h=>ARun.qv (fg J J J e4) J<|pD (g:=Reason.av) (Mm:=v8) J J J J e4 J .p1 J<|ARun.ghost<|ImpX.eqs (s:=0) (pz:=.sl 2 bd 0 (l5.set n6.toNat v8).length) J (by rw [List.length_set])<|ImpX.here<|ARun.ghost<|ImpX.eqs (s:=17) (pz:=.sl 2 bd 0 (l5.set n6.toNat v8).length) J (by rw [List.length_set])<|ImpX.here<|ARun.ghost<|ImpX.eqs (s:=22) (pz:=.sl 2 bd 0 (l5.set n6.toNat v8).length) J (by rw [List.length_set])<|ImpX.here<|ARun.ghost<|ImpX.eqs (s:=30) (pz:=.sl 2 bd 0 (l5.set n6.toNat v8).length) J (by rw [List.length_set])<|ImpX.here<|rN<|tR<|rM J J<|ARun.qv (bh J J) J<|rA J J<|rN<|ATodo.stop<|ImpX.lq [1] ⟨l5.set n6.toNat v8,cr (n6+(1:Int)),h,J⟩ J J
     ·exact tK<|ATodo.stop<|ImpX.lq [1] ⟨l5,n6,h,J⟩ J J
    ·rintro aB ⟨AH,n12,h,rfl⟩
     unfold dX at h
     refine ATodo.bU<|tR<|rM J J<|ARun.qv (bh J J) J<|rA J J<|rN<|ATodo.stop<|?_
     cases h
     exact ic _ _ J<|ImpX.lq [0] J J J
   ·refine ATodo.exit J<|have h:=bz h dm;?_
    unfold ku at h
    refine ax<|rM J J<|rM J J<|aq h fun xh e5 h=>ARun.qv (lH J J (.some _ _ _ J) .none J J e5) J<|HC (g:=Reason.av) (Z:=(⟨(0:Int),[]⟩:Reason)) (L:=n6) J J J J J J e5 .p0<|ARun.ghost<|ImpX.eqs (s:=0) (pz:=.sl 2 bd 0 (FK l5 n6 xh.length (⟨(0:Int),[]⟩:Reason)).length) J (congrArg (AV.sl 2 bd 0) (vR e5))<|ImpX.here<|ARun.ghost<|ImpX.eqs (s:=17) (pz:=.sl 2 bd 0 (FK l5 n6 xh.length (⟨(0:Int),[]⟩:Reason)).length) J (congrArg (AV.sl 2 bd 0) (vR e5))<|ImpX.here<|ARun.ghost<|ImpX.eqs (s:=36) (pz:=.sl 2 bd 0 (FK l5 n6 xh.length (⟨(0:Int),[]⟩:Reason)).length) J (congrArg (AV.sl 2 bd 0) (vR e5))<|ImpX.here<|rN<|ax<|rM J J<|rM J J<|aq h fun qq e6 h=>ARun.qv (lH J J .none (.some _ _ _ J) J J e6) J<|rA J J<|ARun.ghost<|ImpX.Jb e6 .p0<|ImpX.here<|rN<|ATodo.ret<|?_
    cases h
    exact hH J [0] J ⟨bd,J,J⟩
theorem Dw [GI:bc] {aa:Reason} {ah:Reason} {r:Int} (h:tq aa ah=some r):Pu Tryz.prog 55 [Reason.av aa,Reason.av ah] (I r):=by
 unfold tq at h
 refine ACall.aQ Tryz.func55 J Tryz.ntmps55 Tryz.results55 J J ?_
 refine ax<|bO J J J J fun b1=>bO J J J J fun b2=>rA J J<|rN<|tS<|ATodo.ck (id:=1) (A:=[0,1,0,4,15,0,32,0,128,511,1023,2047,4095]) 13 mixed J (by kernel_rfl) (by kernel_rfl)<|AM.qv (an J J) J<|AM.qv (az J J .p1 J) J<|AM.qv (an J J) J<|AM.qv (az J J .p0 J) J<|AM.dv J (dL J) cR J<|AM.qv (an J J) J<|AM.qv (az J J .p1 J) J<|AM.qv (an J J) J<|AM.qv (az J J .p0 J) J<|AM.dv J (eF J) cR J<|AM.aY (xs:=([(cmp_Compare_int aa.aK ah.aK),(Lib.compareBytes aa.bA ah.bA)]:List Int).map I) J J J J J J<|aq h fun v3 e1 h=>AM.dv J (mT e1) cR J<|AM.qv (bM J) J<|AM.nil<|rN<|ATodo.ret<|?_
 cases h
 exact hP J J
theorem sw:T2 Tryz.prog 54 2:=⟨fun enc hk h1 cf hO g cb bU off cap d w eg hc hH hb hs=>AnyQ.slices_SortFunc_eq Tryz.ME 2 Tryz.isAgg65 Tryz.sizeOf65 enc hk h1 cf hO g cb bU off cap d w eg hc hH hb hs,fun p cap fv w=>AnyF.slices_SortFunc_none Tryz.ME p cap fv w⟩
theorem lT [GI:bc] {bd:Bk} {aa:List Reason} {er:Reason→Reason→Option Int} {cL:FuncId} [aZ Tryz.prog cL] {dR:List AV} (jw:∀ {y0 y1:_} {u:Int},er y0 y1=some u→@Pu xk Tryz.prog cL (Reason.av y0 :: Reason.av y1 :: dR) (I u)) {r:(List Reason)} (h:dP aa er=some r):ACall Tryz.prog 54 [.sl 2 bd 0 aa.length,.func (.func cL) dR] [(bd,.arr 2 (aa.map Reason.av))] (T0 [(bd,.arr 2 (r.map Reason.av))] (.pj [])):=
 K8 (fn:=er) sw J @jw (fun _=>J) h
theorem HW {aa:bb} {ah:ae} {aT:ae} {bG:aE} {eB:Int} {r:(List Reason)×Int} (h:qx aa ah aT bG eB=some r):ACall Tryz.prog 12 [bb.av aa,.str ah,.str aT,aE.av bG,I eB] [] (T1 (fun iC=>[(iC,wX r.1)]) (fun iC=>.pj [.sl 2 iC 0 r.1.length,I r.2])):=by
 unfold qx at h
 refine ACall.dN ?_
 refine ACall.aQ Tryz.func12 J Tryz.ntmps12 Tryz.results12 J J ?_
 refine ax<|bO J J J J fun b1=>bO J J J J fun b2=>bO J J J J fun b3=>rA J J<|rA J J<|rN<|ax<|ARun.qv (ao J J .p2 J) J<|rM J J<|ARun.qv (ao J J .p0 J) J<|rM J J<|aq h fun v4 e1 h=>Ld h (fun e2 h=>?_) (fun x5 e2 h=>?_)
 ·refine have Qe:=xp e2 (sg e1);aJ J Qe cR (.cons .p1 .nil) J J<|rM J J<|rX J J J<|rX J J J<|bn J J J J fun b6=>au J J J J .p0 J J<|rA J J<|rN<|tS<|ax<|rM J J<|ARun.qv (du J J) J<|rN<|cD h J (fun h=>?_) (fun h=>?_)
  ·refine ax<|rM J J<|rA J J<|rA J J<|rN<|ATodo.ret<|?_
   cases h
   exact ImpX.arr (s:=10) 2 J fun b7=>ImpX.here ⟨_,.cons (.tmp _ _ J) (.cons (.tmp _ _ J) .nil),_,.cons .p0 .nil,⟨b7,J,J⟩⟩
  ·refine tK<|ax<|rL J J .p0 J J<|rM J J<|ARun.qv (ao J J .p2 J) J<|rM J J<|?_
   cases h
 ·refine have Qf:=xq e2 (sg e1);xu J Qf cR (.cons .p1 .nil) (fun _ _ _ _ _ _=>J) J fun b8 b9 vH ud KQ yK=>rM J J<|rX J J J<|rX J J J<|bn J J J J fun vK=>au J J J J .p0 J J<|rA J J<|rN<|tS<|ax<|rM J J<|ARun.qv (du J J) J<|rN<|cD h J (fun h=>?_) (fun h=>?_)
  ·refine ax<|rM J J<|rA J J<|rA J J<|rN<|ATodo.ret<|?_
   cases h
   exact ImpX.arr (s:=10) 2 J fun yL=>ImpX.here ⟨_,.cons (.tmp _ _ J) (.cons (.tmp _ _ J) .nil),_,.cons .p0 .nil,⟨yL,J,J⟩⟩
  ·refine tK<|ax<|rL J J .p0 J J<|rM J J<|ARun.qv (ao J J (.next .p7) J) J<|rM J J<|aq h fun dU e3 h=>eE J (sD e3) cR (.cons .p2 (.cons .p2 (.cons .p2 (.cons .p2 (.cons .p2 .nil))))) (fun _=>J) J fun wz=>ARun.qv (fI J) J<|aq h fun fH e4 h=>Bl J (qR (fun e=>Dv e) e4) (.cons .p5 .nil) (.cons (.co (.refl _)) (.cons (.uX _ _ _ (.cons (.wo _ _ _ .p5 (.cons (.wo _ _ _ .p0 (.cons (.co (.refl _)) (.cons (.co (.refl _)) (.cons (.co (.refl _)) (.cons (.co (.refl _)) (.cons (.co (.refl _)) (.cons (.co (.refl _)) (.cons (.co (.refl _)) (.cons (.co (.refl _)) (.cons (.co (.refl _)) .nil)))))))))) .nil)) (.cons (.wo _ _ _ .p6 (.cons (.co (.refl _)) .nil)) .nil))) .nil)) (fun _=>J) (fun _=>J) (fun _=>(.cons (Sc.uf (fun _=>J)) .nil)) J fun FA=>rA J J<|rN<|ax<|rM J J<|aq h fun v20 e5 h=>aJ J (lT (fun e=>Dw (GI:=xk) e) (DO e5)) cR (.cons .p0 .nil) J J<|ARun.ghost<|ImpX.eqs (s:=14) (pz:=.sl 2 FA 0 v20.length) J (congrArg (AV.sl 2 FA 0) (s0 e5))<|ImpX.here<|ARun.ghost<|ImpX.eqs (s:=32) (pz:=.sl 2 FA 0 v20.length) J (congrArg (AV.sl 2 FA 0) (s0 e5))<|ImpX.here<|ARun.ghost<|ImpX.eqs (s:=33) (pz:=.sl 2 FA 0 v20.length) J (congrArg (AV.sl 2 FA 0) (s0 e5))<|ImpX.here<|rN<|ax<|rM J J<|rA J J<|rA J J<|rN<|ATodo.ret<|?_
   cases h
   exact hI J J [0] J ⟨FA,J,J⟩
theorem vv {aa:bb} {aT:ae} {bG:aE} {eB:Int} {r:(Option ak)×Int} (h:iy aa aT bG eB=some r):ACall Tryz.prog 48 [bb.av aa,.raw (.pointer none),.str aT,aE.av bG,I eB] [] (TM r.1 (T0 ([]) (.pj [.raw (.pointer none),I r.2])) (fun x=>T6 (fun iC vl vm vn vo vp=>[(iC,.cells (sq x vl vm vn vo vp)),(vl,eU x.aW),(vm,nA x.cT),(vn,sd x.at_),(vo,pq x.cG),(vp,yh x.im)]) (fun iC vl vm vn vo vp=>.pj [.ptr iC 0,I r.2]))):=by
 unfold iy at h
 refine ACall.dN ?_
 refine ACall.aQ Tryz.func48 J Tryz.ntmps48 Tryz.results48 J J ?_
 refine ax<|bO J J J J fun b1=>bO J J J J fun b2=>rA J J<|rA J J<|rN<|ax<|ARun.qv (ao J J .p1 J) J<|aq h fun v3 e1 h=>Ld h (fun e2 h=>?_) (fun x4 e2 h=>?_)
 ·refine have Qe:=xp e2 (jW e1);aJ J Qe cR .nil J J<|rM J J<|rX J J J<|rX J J J<|rA J J<|rA J J<|rN<|tS<|ax<|rM J J<|ARun.qv (du J J) J<|rN<|cD h J (fun h=>?_) (fun h=>?_)
  ·refine ax<|rM J J<|rA J J<|rA J J<|rN<|ATodo.ret<|?_
   cases h
   exact hI J J [] J ⟨J,J⟩
  ·refine tK<|tS<|ax<|rM J J<|ARun.qv (Ji J J) J<|rM J J<|rG J J J J<|rG J J J J<|rG J J J J<|rG J J J J<|rG J J J J<|rE J J J<|rM J J<|rY J J J<|rM J J<|rY J J J<|aq h fun v5 e3 h=>aA J (iE e3) cR J<|rY J J J<|ARun.qv (bt J) J<|rE J J J<|rN<|cB h J (fun h=>?_) (fun h=>?_)
   ·refine ax<|rA J J<|rA J J<|rN<|ATodo.ret<|?_
    cases h
    exact hI J J [] J ⟨J,J⟩
   ·refine tK<|tS<|ax<|rM J J<|ARun.qv (ao J J .p0 J) J<|rM J J<|?_
    cases h
 ·refine have Qf:=xq e2 (jW e1);xu J Qf cR .nil (fun _ _ _ _ _ _=>J) J fun b6 b7 b8 b9 vH ud=>rM J J<|rX J J J<|rX J J J<|rA J J<|rA J J<|rN<|tS<|ax<|rM J J<|ARun.qv (du J J) J<|rN<|cD h J (fun h=>?_) (fun h=>?_)
  ·refine ax<|rM J J<|rA J J<|rA J J<|rN<|ATodo.ret<|?_
   cases h
   exact hI J J [] J ⟨J,J⟩
  ·refine tK<|tS<|ax<|rM J J<|ARun.qv (Ji J J) J<|rM J J<|rG J J J J<|rG J J J J<|rG J J J J<|rG J J J J<|rG J J J J<|rE J J J<|rM J J<|rY J J J<|rM J J<|rY J J J<|aq h fun v12 e4 h=>aA J (iE e4) cR J<|rY J J J<|ARun.qv (bt J) J<|rE J J J<|rN<|cB h J (fun h=>?_) (fun h=>?_)
   ·refine ax<|rA J J<|rA J J<|rN<|ATodo.ret<|?_
    cases h
    exact hI J J [] J ⟨J,J⟩
   ·refine tK<|tS<|ax<|rM J J<|ARun.qv (ao J J .p6 J) J<|rM J J<|aq h fun mb e5 h=>aJ J (qL e5) cR (.cons .p0 (.cons .p0 .nil)) J J<|rA J J<|rN<|ax<|rM J J<|ARun.qv (du J J) J<|rN<|cD h J (fun h=>?_) (fun h=>?_)
    ·refine ax<|rM J J<|rA J J<|rA J J<|rN<|ATodo.ret<|?_
     cases h
     exact hI J J [] J ⟨J,J⟩
    ·refine tK<|ax<|rM J J<|rA J J<|rA J J<|rN<|ATodo.ret<|?_
     cases h
     exact hI J J [0,0,0,0,0,0] J ⟨b6,b7,b8,b9,vH,ud,J,J⟩
theorem HX {aa:bb} {ah:ae} {aT:aE} {bG:Int} {r:(List ae)×Int} (h:qy aa ah aT bG=some r):ACall Tryz.prog 13 [bb.av aa,.str ah,aE.av aT,I bG] [] (T1 (fun iC=>[(iC,pw r.1)]) (fun iC=>.pj [.sl 1 iC 0 r.1.length,I r.2])):=by
 unfold qy at h
 refine ACall.dN ?_
 refine ACall.aQ Tryz.func13 J Tryz.ntmps13 Tryz.results13 J J ?_
 refine ax<|bO J J J J fun b1=>bO J J J J fun b2=>rA J J<|rA J J<|rN<|ax<|ARun.qv (ao J J .p1 J) J<|rM J J<|ARun.qv (ao J J .p0 J) J<|rM J J<|aq h fun v3 e1 h=>Ld h (fun e2 h=>?_) (fun x4 e2 h=>?_)
 ·refine have Qe:=xp e2 (vv e1);aJ J Qe cR .nil J J<|rM J J<|rX J J J<|rX J J J<|rA J J<|rA J J<|rN<|tS<|ax<|rM J J<|ARun.qv (du J J) J<|rN<|cD h J (fun h=>?_) (fun h=>?_)
  ·refine ax<|rM J J<|rA J J<|rA J J<|rN<|ATodo.ret<|?_
   cases h
   exact ImpX.arr (s:=8) 1 J fun b5=>ImpX.here ⟨_,.cons (.tmp _ _ J) (.cons (.tmp _ _ J) .nil),_,.cons .p0 .nil,⟨b5,J,J⟩⟩
  ·refine tK<|ax<|rM J J<|rM J J<|ARun.qv (ao J J .p0 J) J<|rM J J<|?_
   cases h
 ·refine have Qf:=xq e2 (vv e1);xu J Qf cR .nil (fun _ _ _ _ _ _=>J) J fun b6 b7 b8 b9 vH ud=>rM J J<|rX J J J<|rX J J J<|rA J J<|rA J J<|rN<|tS<|ax<|rM J J<|ARun.qv (du J J) J<|rN<|cD h J (fun h=>?_) (fun h=>?_)
  ·refine ax<|rM J J<|rA J J<|rA J J<|rN<|ATodo.ret<|?_
   cases h
   exact ImpX.arr (s:=8) 1 J fun KQ=>ImpX.here ⟨_,.cons (.tmp _ _ J) (.cons (.tmp _ _ J) .nil),_,.cons .p0 .nil,⟨KQ,J,J⟩⟩
  ·refine tK<|ax<|rM J J<|rM J J<|ARun.qv (ao J J .p6 J) J<|rM J J<|aq h fun mb e3 h=>eE J (ps e3) cR (.cons .p0 (.cons .p0 (.cons .p0 (.cons .p0 (.cons .p0 .nil))))) (fun _=>J) J fun vK=>rA J J<|rA J J<|rN<|ATodo.ret<|?_
   cases h
   exact hI J J [5] J ⟨vK,J,J⟩
theorem w4 {aa:List aE} {r:Int} (h:gL aa=some r):Pu Tryz.prog 62 [IK aa] (I r):=by
 unfold gL at h
 refine ACall.aQ Tryz.func62 J Tryz.ntmps62 Tryz.results62 J J ?_
 refine ax<|rA J J<|rN<|tS<|ax<|rM J J<|ARun.qv (bD J) J<|ARun.qv (dJ J J) J<|rN<|cD h J (fun h=>?_) (fun h=>?_)
 ·refine ax<|rA J J<|rN<|ATodo.ret<|?_
  cases h
  exact hP J J
 ·refine tK<|tS<|ax<|rM J J<|ARun.qv (bD J) J<|rM J J<|rN<|ATodo.block<|ATodo.bT (fun x:Int=>gK aa x) (fun x aB=>aB=⟨37,[(0,IK aa),(9,IK aa),(10,I (aa.length:Int)),(11,I x)],[]⟩) h ?_ ?_
  ·exact ImpX.lq [] J J J
  ·intro n2 z1 aB J1 dB h ic dm
   obtain rfl:=dB
   replace h:gK aa n2=some z1:=h
   unfold gK at h
   refine ax<|ARun.qv (bu J J) J<|rN<|tS<|cD h J (fun h=>?_) (fun h=>?_)
   ·refine tK<|tS<|ATodo.block<|ax<|rM J J<|aq h fun v3 e1 h=>ARun.qv (aP J J J e1 J J) J<|ARun.qv (aH J J J) J<|bn J J J J fun b4=>rA J J<|au J J J J .p0 J J<|rN<|tS<|ax<|ARun.qv (ao J J .p0 J) J<|aq h fun v5 e2 h=>aA J (BH e2) cR J<|rA J J<|rN<|ax<|rM J J<|ARun.qv (du J J) J<|rN<|cD h J (fun h=>?_) (fun h=>?_)
    ·refine ax<|rM J J<|rA J J<|rN<|ATodo.ret<|have h:=bz h dm;?_
     cases h
     exact hP J J
    ·refine tK<|tS<|ATodo.cut (fun aB=>∃ (c6:Bool),jd n2 c6=some z1∧aB=⟨37,[(0,IK aa),(9,IK aa),(10,I (aa.length:Int)),(11,I n2),(35,.bool c6)],[]⟩) ?_ ?_
     ·refine ATodo.ck (id:=9) (A:=[0,1,3,7,15,31,7,7,135,455,967,1991,4039,8191,16383]) 15 mixed J (by kernel_rfl) (by kernel_rfl)<|AM.qv (aL J) J<|AM.qv (dJ J J) J<|AM.qv (aL J) J<|AM.cA J J J (fun hc=>?_) (fun hc=>?_)
      ·exact have h:=gr hc h;AM.qv (an J J) J<|AM.aj J J J<|AM.qv (an J J) J<|AM.aj J J J<|AM.qv (az J J .p0 J) J<|AM.aj J J J<|AM.qv (aL J) J<|AM.aj J J J<|AM.qv (aL J) J<|AM.aj J J J<|AM.qv (gq J J) J<|AM.aj J J J<|aq h fun v7 e3 h=>AM.qv (aP J J J e3 J J) J<|AM.aj J J J<|AM.qv (bJ J J) J<|AM.aj J J J<|AM.qv (bJ J J) J<|AM.aj J J J<|AM.qv (aG J J J) J<|AM.aj J J J<|AM.qv (rk J J) J<|AM.qv (cJ J J) J<|AM.nil<|rN<|ATodo.stop<|ImpX.lq [] ⟨Op.bytesLess v3.Device.Key v7.Device.Key||v3.Device.Key==v7.Device.Key,h,J⟩ J J
      ·exact have h:=wq hc h;AM.ai J J J J<|AM.ai J J J J<|AM.ai J J J J<|AM.ai J J J J<|AM.ai J J J J<|AM.ai J J J J<|AM.ai J J J J<|AM.ai J J J J<|AM.ai J J J J<|AM.ai J J J J<|AM.qv (eD J J) J<|AM.nil<|rN<|ATodo.stop<|ImpX.lq [] ⟨false,h,J⟩ J J
     ·rintro aB ⟨c6,h,rfl⟩
      unfold jd at h
      refine cB h J (fun h=>?_) (fun h=>?_)
      ·refine ax<|rA J J<|rN<|ATodo.ret<|have h:=bz h dm;?_
       cases h
       exact hP J J
      ·refine tK<|ATodo.bU<|tR<|ARun.qv (bh J J) J<|rM J J<|rN<|ATodo.stop<|?_
       cases h
       exact ic _ _ J<|ImpX.lq [] J J J
   ·refine ATodo.exit J<|have h:=bz h dm;ax<|rA J J<|rN<|ATodo.ret<|?_
    cases h
    exact hP J J
theorem zS [GI:bc] {JL:Bk} {CX:Bk} {JN:Bk} {JO:Bk} {JP:Bk} {JQ:Bk} {aa:aE} {ah:ak} {r:Bool} (h:lj aa ah=some r):ACall Tryz.prog 64 [aE.av aa,.ik [.ptr JL 0]] [(JL,.cells (sq ah CX JN JO JP JQ)),(CX,eU ah.aW)] (T0 ([(JL,.cells (sq ah CX JN JO JP JQ)),(CX,eU ah.aW)]) (.bool r)):=by
 unfold lj at h
 refine ACall.dN ?_
 refine ACall.aQ Tryz.func64 J Tryz.ntmps64 Tryz.results64 J J ?_
 refine ax<|bO J J J J fun b1=>rA J J<|rN<|tS<|ATodo.cut (fun aB=>∃ (c2:Bool),iW c2=some r∧aB=⟨16,[(3,.bool c2)],[(JL,.cells (sq ah CX JN JO JP JQ)),(CX,eU ah.aW)]⟩) ?_ ?_
 ·refine tR<|rF J J J<|rF J J J<|rL J J .p0 J J<|ARun.qv (qD J J) J<|rM J J<|gT h J J J (fun h=>?_) (fun h=>?_)
  ·exact ARun.qv (aG J J J) J<|rY J J J<|rF J J J<|rY J J J<|rF J J J<|rY J J J<|rL J J .p0 J J<|rY J J J<|aq h fun v3 e1 h=>aJ J (iD e1) cR (.cons .p1 (.cons .p1 .nil)) J J<|rY J J J<|ARun.qv (bt J) J<|rT J J J<|rA J J<|rN<|ATodo.stop<|ImpX.lq [0,0] ⟨!v3,h,J⟩ J J
  ·exact rG J J J J<|rG J J J J<|rG J J J J<|rG J J J J<|rG J J J J<|rE J J J<|rA J J<|rN<|ATodo.stop<|ImpX.lq [1,1] ⟨false,h,J⟩ J J
 ·rintro aB ⟨c2,h,rfl⟩
  unfold iW at h
  refine ATodo.ret<|?_
  cases h
  exact hH J [0,0] J ⟨J,J⟩
theorem kL [GI:bc] {HY:Bk} {yO:Bk} {GQ:Bk} {GR:Bk} {GS:Bk} {GU:Bk} {aa:List aE} {aT:ak} {r:Int} (h:di aa aT=some r):ACall Tryz.prog 143 [IK aa,.func (.func 64) [.ik [.ptr HY 0]]] [(HY,.cells (sq aT yO GQ GR GS GU)),(yO,eU aT.aW)] (T0 ([(HY,.cells (sq aT yO GQ GR GS GU)),(yO,eU aT.aW)]) (I r)):=by
 unfold di at h
 refine ACall.dN ?_
 refine ACall.aQ Tryz.func143 J Tryz.ntmps143 Tryz.results143 J J ?_
 refine ax<|rA J J<|rN<|tS<|ax<|rM J J<|ARun.qv (bD J) J<|rM J J<|rN<|ATodo.block<|ATodo.bT (fun x:Int=>bW aa aT x) (fun x aB=>aB=⟨19,[(0,IK aa),(1,.func (.func 64) [.ik [.ptr HY 0]]),(7,I (aa.length:Int)),(8,I x)],[(HY,.cells (sq aT yO GQ GR GS GU)),(yO,eU aT.aW)]⟩) h ?_ ?_
 ·exact ImpX.lq [0,0] J J J
 ·intro n2 z1 aB J1 dB h ic dm
  obtain rfl:=dB
  replace h:bW aa aT n2=some z1:=h
  unfold bW at h
  refine ax<|ARun.qv (bu J J) J<|rN<|tS<|cD h J (fun h=>?_) (fun h=>?_)
  ·refine tK<|tS<|ATodo.block<|ax<|rM J J<|rA J J<|rN<|ax<|rM J J<|rM J J<|rM J J<|aq h fun v3 e1 h=>ARun.qv (aP J J J e1 J J) J<|ARun.qv (aH J J J) J<|aq h fun v4 e2 h=>pC J J J (zS e2) cR (.cons .p0 (.cons .p0 .nil)) J J<|rN<|cB h J (fun h=>?_) (fun h=>?_)
   ·refine ax<|rM J J<|rA J J<|rN<|ATodo.ret<|have h:=bz h dm;?_
    cases h
    exact hH J [0,0] J ⟨J,J⟩
   ·refine tK<|ATodo.bU<|tR<|ARun.qv (bh J J) J<|rM J J<|rN<|ATodo.stop<|?_
    cases h
    exact ic _ _ J<|ImpX.lq [0,0] J J J
  ·refine ATodo.exit J<|have h:=bz h dm;ax<|rA J J<|rN<|ATodo.ret<|?_
   cases h
   exact hH J [0,0] J ⟨J,J⟩
theorem jy [GI:bc] {HY:Bk} {yO:Bk} {GQ:Bk} {GR:Bk} {GS:Bk} {GU:Bk} {aa:List aE} {aT:ak} {r:Bool} (h:bX aa aT=some r):ACall Tryz.prog 63 [IK aa,.func (.func 64) [.ik [.ptr HY 0]]] [(HY,.cells (sq aT yO GQ GR GS GU)),(yO,eU aT.aW)] (T0 ([(HY,.cells (sq aT yO GQ GR GS GU)),(yO,eU aT.aW)]) (.bool r)):=by
 unfold bX at h
 refine ACall.dN ?_
 refine ACall.aQ Tryz.func63 J Tryz.ntmps63 Tryz.results63 J J ?_
 refine ax<|rA J J<|rN<|ax<|rM J J<|rM J J<|aq h fun v1 e1 h=>aJ J (kL e1) cR (.cons .p0 (.cons .p0 .nil)) J J<|ARun.qv (uu J J) J<|rA J J<|rN<|ATodo.ret<|?_
 cases h
 exact hH J [0,0] J ⟨J,J⟩
theorem Cv {aa:bb} {ah:ae} {aT:ae} {bG:List aE} {eB:Int} {r:(List ae)×Int} (h:kA aa ah aT bG eB=some r):ACall Tryz.prog 14 [bb.av aa,.str ah,.str aT,IK bG,I eB] [] (T1 (fun iC=>[(iC,pw r.1)]) (fun iC=>.pj [.sl 1 iC 0 r.1.length,I r.2])):=by
 unfold kA at h
 refine ACall.dN ?_
 refine ACall.aQ Tryz.func14 J Tryz.ntmps14 Tryz.results14 J J ?_
 refine ax<|bO J J J J fun b1=>rA J J<|rA J J<|rN<|ax<|ARun.qv (ao J J .p0 J) J<|aq h fun v2 e1 h=>Ld h (fun e2 h=>?_) (fun x3 e2 h=>?_)
 ·refine have Qe:=xp e2 (jW e1);aJ J Qe cR .nil J J<|rM J J<|rX J J J<|rX J J J<|bn J J J J fun b4=>au J J J J .p0 J J<|rA J J<|rN<|tS<|ax<|rM J J<|ARun.qv (du J J) J<|rN<|cD h J (fun h=>?_) (fun h=>?_)
  ·refine ax<|rM J J<|rA J J<|rA J J<|rN<|ATodo.ret<|?_
   cases h
   exact ImpX.arr (s:=10) 1 J fun b5=>ImpX.here ⟨_,.cons (.tmp _ _ J) (.cons (.tmp _ _ J) .nil),_,.cons .p0 .nil,⟨b5,J,J⟩⟩
  ·refine tK<|tS<|tS<|ATodo.cut (fun aB=>∃ (c6:Bool),oo bG c6=some r∧aB=⟨68,[(1,.str ah),(2,.str aT),(3,IK bG),(4,I eB),(12,.ptr b4 0),(33,.bool c6)],[(b4,.cells [.raw (.pointer none)])]⟩) ?_ ?_
   ·refine tR<|rM J J<|aq h fun v7 e3 h=>aA J (gU e3) cR J<|ARun.qv (bt J) J<|rM J J<|ARun.guard J J J (fun hc=>?_) (fun hc=>?_)
    ·exact have h:=gw hc h;rM J J<|rY J J J<|aq h fun v8 e4 h=>aA J (iE e4) cR J<|rY J J J<|ARun.qv (bt J) J<|rE J J J<|rN<|ATodo.stop<|ImpX.lq [0] ⟨!v8,h,J⟩ J J
    ·exact have h:=gr hc h;rG J J J J<|rG J J J J<|rT J J J<|rN<|ATodo.stop<|ImpX.lq [0] ⟨true,h,J⟩ J J
   ·rintro aB ⟨c6,h,rfl⟩
    unfold oo at h
    refine cB h J (fun h=>?_) (fun h=>?_)
    ·refine ax<|rA J J<|rA J J<|rN<|ATodo.ret<|?_
     cases h
     exact ImpX.arr (s:=10) 1 J fun b9=>ImpX.here ⟨_,.cons (.tmp _ _ J) (.cons (.tmp _ _ J) .nil),_,.cons .p0 .nil,⟨b9,J,J⟩⟩
    ·refine tK<|tS<|ax<|rM J J<|aq h fun v10 e5 h=>aA J (w4 e5) cR J<|rA J J<|rN<|ax<|rM J J<|ARun.qv (du J J) J<|rN<|cD h J (fun h=>?_) (fun h=>?_)
     ·refine ax<|rM J J<|rA J J<|rA J J<|rN<|ATodo.ret<|?_
      cases h
      exact ImpX.arr (s:=10) 1 J fun ud=>ImpX.here ⟨_,.cons (.tmp _ _ J) (.cons (.tmp _ _ J) .nil),_,.cons .p0 .nil,⟨ud,J,J⟩⟩
     ·refine tK<|tS<|ATodo.block<|ax<|rM J J<|?_
      cases h
 ·refine have Qf:=xq e2 (jW e1);xu J Qf cR .nil (fun _ _ _ _ _ _=>J) J fun KQ yK vK yL HQ wz=>rM J J<|rX J J J<|rX J J J<|bn J J J J fun GP=>au J J J J .p0 J J<|rA J J<|rN<|tS<|ax<|rM J J<|ARun.qv (du J J) J<|rN<|cD h J (fun h=>?_) (fun h=>?_)
  ·refine ax<|rM J J<|rA J J<|rA J J<|rN<|ATodo.ret<|?_
   cases h
   exact ImpX.arr (s:=10) 1 J fun FA=>ImpX.here ⟨_,.cons (.tmp _ _ J) (.cons (.tmp _ _ J) .nil),_,.cons .p0 .nil,⟨FA,J,J⟩⟩
  ·refine tK<|tS<|tS<|ATodo.cut (fun aB=>∃ (c20:Bool),ln ah aT bG eB x3 c20=some r∧aB=⟨68,[(1,.str ah),(2,.str aT),(3,IK bG),(4,I eB),(12,.ptr GP 0),(33,.bool c20)],[(GP,.cells [.ptr KQ 0]),(KQ,.cells (sq x3 yK vK yL HQ wz)),(yK,eU x3.aW),(vK,nA x3.cT),(yL,sd x3.at_),(HQ,pq x3.cG),(wz,yh x3.im)]⟩) ?_ ?_
   ·refine tR<|rM J J<|aq h fun v21 e6 h=>aA J (gU e6) cR J<|ARun.qv (bt J) J<|rM J J<|ARun.guard J J J (fun hc=>?_) (fun hc=>?_)
    ·exact have h:=gw hc h;rM J J<|rY J J J<|aq h fun v22 e7 h=>aA J (iE e7) cR J<|rY J J J<|ARun.qv (bt J) J<|rE J J J<|rN<|ATodo.stop<|ImpX.lq [0,0,0,0,0,0,0] ⟨!v22,h,J⟩ J J
    ·exact have h:=gr hc h;rG J J J J<|rG J J J J<|rT J J J<|rN<|ATodo.stop<|ImpX.lq [0,0,0,0,0,0,0] ⟨true,h,J⟩ J J
   ·rintro aB ⟨c20,h,rfl⟩
    unfold ln at h
    refine cB h J (fun h=>?_) (fun h=>?_)
    ·refine ax<|rA J J<|rA J J<|rN<|ATodo.ret<|?_
     cases h
     exact ImpX.arr (s:=10) 1 J fun Ug=>ImpX.here ⟨_,.cons (.tmp _ _ J) (.cons (.tmp _ _ J) .nil),_,.cons .p0 .nil,⟨Ug,J,J⟩⟩
    ·refine tK<|tS<|ax<|rM J J<|aq h fun v24 e8 h=>aA J (w4 e8) cR J<|rA J J<|rN<|ax<|rM J J<|ARun.qv (du J J) J<|rN<|cD h J (fun h=>?_) (fun h=>?_)
     ·refine ax<|rM J J<|rA J J<|rA J J<|rN<|ATodo.ret<|?_
      cases h
      exact ImpX.arr (s:=10) 1 J fun Z3=>ImpX.here ⟨_,.cons (.tmp _ _ J) (.cons (.tmp _ _ J) .nil),_,.cons .p0 .nil,⟨Z3,J,J⟩⟩
     ·refine tK<|tS<|ATodo.block<|ax<|rM J J<|ARun.ghost<|ImpX.PU (s:=12) J .p0<|ImpX.here<|ARun.qv (fI J) J<|aq h fun v26 e9 h=>aJ J (jy e9) cR (.cons .p0 (.cons .p0 .nil)) J J<|rA J J<|rN<|cB h J (fun h=>?_) (fun h=>?_)
      ·refine ax<|rA J J<|rA J J<|rN<|ATodo.ret<|?_
       cases h
       exact ImpX.arr (s:=10) 1 J fun W7=>ImpX.here ⟨_,.cons (.tmp _ _ J) (.cons (.tmp _ _ J) .nil),_,.cons .p0 .nil,⟨W7,J,J⟩⟩
      ·refine ax<|rM J J<|aA J (Ag J) cR J<|ARun.qv (bt J) J<|rA J J<|rN<|cB h J (fun h=>?_) (fun h=>?_)
       ·refine ax<|rA J J<|rA J J<|rN<|ATodo.ret<|?_
        cases h
        exact ImpX.arr (s:=10) 1 J fun Uh=>ImpX.here ⟨_,.cons (.tmp _ _ J) (.cons (.tmp _ _ J) .nil),_,.cons .p0 .nil,⟨Uh,J,J⟩⟩
       ·refine tK<|ATodo.bU<|ax<|rA J J<|rN<|tS<|ax<|rM J J<|ARun.qv (bD J) J<|rM J J<|rN<|ATodo.block<|ATodo.bT (fun x:(List ar)×(List bN)×(List aK)×(List bA)×(List (ae×ae))×(List (ae×(List ae)))×(List (ae×(List Int)))×(List (aX×(List Int)))×(List ae)×Int=>ll ah aT bG eB x3 x.1 x.2.1 x.2.2.1 x.2.2.2.1 x.2.2.2.2.1 x.2.2.2.2.2.1 x.2.2.2.2.2.2.1 x.2.2.2.2.2.2.2.1 x.2.2.2.2.2.2.2.2.1 x.2.2.2.2.2.2.2.2.2) (fun x aB=>∃ (YE:Bk),aB=⟨68,[(1,.str ah),(2,.str aT),(4,I eB),(12,.ik [.ptr KQ 0]),(15,.sl 1 YE 0 x.2.2.2.2.2.2.2.2.1.length),(47,IK bG),(48,I (bG.length:Int)),(49,I x.2.2.2.2.2.2.2.2.2)],[(KQ,.cells [yg x.1,By x.2.1,zK x.2.2.1,xZ x.2.2.2.1,.bZ yK,.bZ vK,.bZ yL,.bZ HQ,.bZ wz]),(yK,eU x.2.2.2.2.1),(vK,nA x.2.2.2.2.2.1),(yL,sd x.2.2.2.2.2.2.1),(HQ,pq x.2.2.2.2.2.2.2.1),(wz,yh x3.im),(YE,pw x.2.2.2.2.2.2.2.2.1)]⟩) h ?_ ?_
        ·exact ImpX.arr (s:=15) 1 J fun Xb=>ImpX.lq [1,1,1,1,1,1,0] ⟨Xb,J⟩ J J
        ·intro x z1 aB J1 dB h ic dm
         obtain ⟨B9,P5,HJ,Dm,Lp,Lt,OG,HK,OI,n50⟩:=x
         obtain ⟨YE,rfl⟩:=dB
         replace h:ll ah aT bG eB x3 B9 P5 HJ Dm Lp Lt OG HK OI n50=some z1:=h
         unfold ll at h
         refine ax<|ARun.qv (bu J J) J<|rN<|tS<|cD h J (fun h=>?_) (fun h=>?_)
         ·refine tK<|tS<|ATodo.block<|ax<|aq h fun Vt zM h=>ARun.qv (aP J J J zM J J) J<|ARun.qv (aH J J J) J<|bn J J J J fun LA=>au J J J J .p0 J J<|rN<|ax<|ARun.qv (aG J J J) J<|rM J J<|ARun.qv (ao J J .p0 J) J<|rM J J<|aq h fun v54 AZ h=>eE J (ps AZ) cR (.cons .p1 (.cons .p1 (.cons .p1 (.cons .p1 (.cons .p1 .nil))))) (fun _=>J) J fun b55=>rM J J<|aq h fun KO FX h=>dc J (ba FX) (.cons (vI.uf .p5) (.cons (.co (.refl _)) .nil)) J J<|rN<|ATodo.cut (fun aB=>∃ (Uj:Bk) (JJ:List ae),je n50 v54 JJ=some z1∧aB=⟨68,[(1,.str ah),(2,.str aT),(4,I eB),(12,.ik [.ptr KQ 0]),(15,.sl 1 Uj 0 JJ.length),(47,IK bG),(48,I (bG.length:Int)),(49,I n50)],[(KQ,.cells [yg v54.2.bb.al,By v54.2.bb.bj,zK v54.2.bb.aD,xZ v54.2.bb.aI,.bZ yK,.bZ vK,.bZ yL,.bZ HQ,.bZ wz]),(yK,eU v54.2.aW),(vK,nA v54.2.cT),(yL,sd v54.2.at_),(HQ,pq v54.2.cG),(wz,yh x3.im),(Uj,pw JJ)]⟩) ?_ ?_
          ·refine cB h J (fun h=>?_) (fun h=>?_)
           ·exact tR<|rM J J<|rF J J J<|rF J J J<|rL J J .p6 J J<|aC (xs:=([Vt.Device.Key]:List ae).map AV.str) J J J J J J<|aq h fun DS FY h=>cS (g:=AV.str) J J J J J J J J (.list _) FY (fun _=>(.next .p7)) J fun b60=>rA J J<|rN<|ATodo.stop<|ImpX.lq [0,0,0,0,0,2,2] ⟨b60,DS,h,J⟩ J J
           ·exact tK<|ATodo.stop<|ImpX.lq [0,0,0,0,0,2,2] ⟨YE,OI,h,J⟩ J J
          ·rintro aB ⟨Uj,JJ,h,rfl⟩
           unfold je at h
           refine ATodo.bU<|tR<|ARun.qv (bh J J) J<|rM J J<|rN<|ATodo.stop<|?_
           cases h
           exact ic _ _ J<|ImpX.lq [0,0,0,0,0,0,0] ⟨Uj,J⟩ J J
         ·refine ATodo.exit J<|have h:=bz h dm;ax<|rM J J<|rA J J<|rA J J<|rN<|ATodo.ret<|?_
          cases h
          exact hI J J [6] J ⟨YE,J,J⟩
theorem xM [GI:bc] {aa:Int} {ah:Int} {aT:Int} {r:Bool} (h:yf aa ah aT=r):Pu Tryz.prog 76 [I aa,I ah,I aT] (.bool r):=by
 unfold yf at h
 refine ACall.aQ Tryz.func76 J Tryz.ntmps76 Tryz.results76 J J ?_
 refine ax<|rA J J<|rN<|tS<|ATodo.cut (fun aB=>∃ (c1:Bool),xB c1=r∧aB=⟨15,[(6,.bool c1)],[]⟩) ?_ ?_
 ·refine tR<|rM J J<|rM J J<|ARun.qv (sA J J) J<|rM J J<|ARun.cA J J J (fun hc=>?_) (fun hc=>?_)
  ·rw [ux hc] at h
   exact rM J J<|rY J J J<|rM J J<|rY J J J<|ARun.qv (sA J J) J<|rT J J J<|rA J J<|rN<|ATodo.stop<|ImpX.lq [] ⟨decide (aa≤aT),h,J⟩ J J
  ·rw [uy hc] at h
   exact rG J J J J<|rG J J J J<|rE J J J<|rA J J<|rN<|ATodo.stop<|ImpX.lq [] ⟨false,h,J⟩ J J
 ·rintro aB ⟨c1,h,rfl⟩
  unfold xB at h
  refine ATodo.ret<|?_
  obtain rfl:=h
  exact hP J J
theorem pf {aa:ae} {r:Bool} (h:tU aa=some r):Pu Tryz.prog 69 [.str aa] (.bool r):=by
 unfold tU at h
 refine ACall.aQ Tryz.func69 J Tryz.ntmps69 Tryz.results69 J J ?_
 refine ax<|rA J J<|rN<|tS<|ATodo.cut (fun aB=>∃ (c1:Bool),wS c1=some r∧aB=⟨17,[(2,.bool c1)],[]⟩) ?_ ?_
 ·refine tR<|rM J J<|ARun.qv (eR J) J<|aA J (xM J) cR J<|rM J J<|ARun.guard J J J (fun hc=>?_) (fun hc=>?_)
  ·refine have h:=gr hc h;rM J J<|rY J J J<|aq h fun v2 e1 h=>aA J (yD e1) cR J<|rY J J J<|ARun.qv (fS J J) J<|rT J J J<|rM J J<|gT h J J J (fun h=>?_) (fun h=>?_)
   ·exact rM J J<|rY J J J<|aq h fun c3 e2 h=>ARun.qv (qF J J e2) J<|rY J J J<|aA J (zJ J) cR J<|rY J J J<|ARun.qv (uu J J) J<|rT J J J<|rA J J<|rN<|ATodo.stop<|ImpX.lq [] ⟨decide ((0:Int)≤(xw ([97,98,99,100,101,102,103,104,105,106,107,108,109,110,111,112,113,114,115,116,117,118,119,120,121,122]:ae) (c3.toNat:Int))),h,J⟩ J J
   ·exact rG J J J J<|rG J J J J<|rG J J J J<|rE J J J<|rA J J<|rN<|ATodo.stop<|ImpX.lq [] ⟨false,h,J⟩ J J
  ·exact have h:=gw hc h;rG J J J J<|rG J J J J<|rE J J J<|rM J J<|rG J J J J<|rG J J J J<|rG J J J J<|rG J J J J<|rE J J J<|rA J J<|rN<|ATodo.stop<|ImpX.lq [] ⟨false,h,J⟩ J J
 ·rintro aB ⟨c1,h,rfl⟩
  unfold wS at h
  refine ATodo.ret<|?_
  cases h
  exact hP J J
theorem Dx [GI:bc] {aa:ar} {ah:ae} {r:Bool} (h:tt aa ah=r):Pu Tryz.prog 149 [ar.av aa,.ik [.str ah]] (.bool r):=by
 unfold tt at h
 refine ACall.aQ Tryz.func149 J Tryz.ntmps149 Tryz.results149 J J ?_
 refine ax<|bO J J J J fun b1=>rA J J<|rN<|ax<|rF J J J<|rL J J .p0 J J<|ARun.qv (aG J J J) J<|ARun.qv (fS J J) J<|rA J J<|rN<|ATodo.ret<|?_
 obtain rfl:=h
 exact hP J J
theorem si [GI:bc] {aa:List ar} {er:ar→Option Bool} {cL:FuncId} [aZ Tryz.prog cL] {dR:List AV} (jw:∀ {y0:_} {u:Bool},er y0=some u→Pu Tryz.prog cL (ar.av y0 :: dR) (.bool u)) {r:Int} (h:fE aa er=some r):Pu Tryz.prog 148 [yg aa,.func (.func cL) dR] (I r):=by
 unfold fE at h
 refine ACall.aQ Tryz.func148 J Tryz.ntmps148 Tryz.results148 J J ?_
 refine ax<|rA J J<|rN<|tS<|ax<|rM J J<|ARun.qv (bD J) J<|rM J J<|rN<|ATodo.block<|ATodo.bT (fun x:Int=>ek aa er x) (fun x aB=>aB=⟨19,[(0,yg aa),(1,.func (.func cL) dR),(7,I (aa.length:Int)),(8,I x)],[]⟩) h ?_ ?_
 ·exact ImpX.lq [] J J J
 ·intro n2 z1 aB J1 dB h ic dm
  obtain rfl:=dB
  replace h:ek aa er n2=some z1:=h
  unfold ek at h
  refine ax<|ARun.qv (bu J J) J<|rN<|tS<|cD h J (fun h=>?_) (fun h=>?_)
  ·refine tK<|tS<|ATodo.block<|ax<|rM J J<|rA J J<|rN<|ax<|rM J J<|rM J J<|rM J J<|aq h fun v3 e1 h=>ARun.qv (aP J J J e1 J J) J<|ARun.qv (aH J J J) J<|aq h fun v4 e2 h=>tG J J (jw e2) cR J<|rN<|cB h J (fun h=>?_) (fun h=>?_)
   ·refine ax<|rM J J<|rA J J<|rN<|ATodo.ret<|have h:=bz h dm;?_
    cases h
    exact hP J J
   ·refine tK<|ATodo.bU<|tR<|ARun.qv (bh J J) J<|rM J J<|rN<|ATodo.stop<|?_
    cases h
    exact ic _ _ J<|ImpX.lq [] J J J
  ·refine ATodo.exit J<|have h:=bz h dm;ax<|rA J J<|rN<|ATodo.ret<|?_
   cases h
   exact hP J J
theorem jF [GI:bc] {aa:bb} {ah:ae} {r:Int} (h:fp aa ah=some r):Pu Tryz.prog 70 [bb.av aa,.str ah] (I r):=by
 unfold fp at h
 refine ACall.aQ Tryz.func70 J Tryz.ntmps70 Tryz.results70 J J ?_
 refine ax<|bO J J J J fun b1=>bO J J J J fun b2=>rA J J<|rN<|ax<|rF J J J<|rL J J .p1 J J<|ARun.qv (fI J) J<|aq h fun v3 e1 h=>dc J (si (fun e=>Dx (Option.some.inj e)) e1) (.cons (.co (.refl _)) (.cons (.uX _ _ _ (.cons (.wo _ _ _ .p0 (.cons (.co (.refl _)) .nil)) .nil)) .nil)) J J<|rA J J<|rN<|ATodo.ret<|?_
 cases h
 exact hP J J
theorem vw [GI:bc] {aa:bb} {ah:ae} {r:(List ae)} (h:rS aa ah=some r):Pu Tryz.prog 71 [bb.av aa,.str ah] (ph r):=by
 unfold rS at h
 refine ACall.aQ Tryz.func71 J Tryz.ntmps71 Tryz.results71 J J ?_
 refine ax<|bO J J J J fun b1=>rA J J<|rN<|ax<|rA J J<|rN<|tS<|ATodo.block<|ATodo.bT (fun x:ae×(List ae)=>oR aa x.1 x.2) (fun x aB=>∃ (b6:Bk),aB=⟨24,[(1,.str x.1),(2,.ptr b1 0),(5,.sl 1 b6 0 x.2.length)],[(b1,.cells (xj aa)),(b6,pw x.2)]⟩) h ?_ ?_
 ·exact ImpX.arr (s:=5) 1 J fun b8=>ImpX.lq [1,0] ⟨b8,J⟩ J J
 ·intro x z1 aB J1 dB h ic dm
  obtain ⟨q5,l7⟩:=x
  obtain ⟨b6,rfl⟩:=dB
  replace h:oR aa q5 l7=some z1:=h
  unfold oR at h
  refine tS<|ax<|rM J J<|ARun.qv (qD J J) J<|rN<|cD h J (fun h=>?_) (fun h=>?_)
  ·refine tK<|ATodo.block<|tS<|ax<|rM J J<|rM J J<|aq h fun v9 e1 h=>dc J (ba e1) (.cons (vI.uf .p1) (.cons (.co (.refl _)) .nil)) J J<|rN<|cB h J (fun h=>?_) (fun h=>?_)
   ·refine ax<|rA J J<|rN<|ATodo.ret<|have h:=bz h dm;?_
    cases h
    exact ImpX.co (s:=4) J (.nil 1)<|ImpX.here ⟨_,.cons (.tmp _ _ J) .nil,J⟩
   ·refine tK<|ax<|rM J J<|rM J J<|aC (xs:=([q5]:List ae).map AV.str) J J J J J J<|aq h fun l10 e2 h=>cS (g:=AV.str) J J J J J J J J (.list _) e2 (fun _=>.p1) J fun ud=>rA J J<|rN<|ATodo.ck (id:=6) (A:=[0,1,0,0,12,31,63,127,255]) 9 mixed J (by kernel_rfl) (by kernel_rfl)<|AM.qv (an J J) J<|AM.qv (az J J .p0 J) J<|AM.qv (ao J J .p0 J) J<|AM.qv (aL J) J<|aq h fun v12 e3 h=>AM.dv J (jF e3) cR J<|aq h fun mb e4 h=>AM.qv (aP J J J e4 J J) J<|AM.qv (bJ J J) J<|AM.qv (aG J J J) J<|AM.qv (bM J) J<|AM.nil<|rN<|ATodo.bU<|ATodo.stop<|?_
    cases h
    exact ic _ _ J<|ImpX.lq [0,0] ⟨ud,J⟩ J J
  ·refine ATodo.exit J<|have h:=bz h dm;ax<|rM J J<|rA J J<|rN<|ATodo.ret<|?_
   cases h
   exact ImpX.freeze .p1<|ImpX.co (s:=4) J (Co.Ck .p1)<|ImpX.here ⟨_,.cons (.tmp _ _ J) .nil,J⟩
theorem yP [GI:bc] {aa:bb} {ah:ae} {r:(Option (List ae))} (h:rU aa ah=some r):ACall Tryz.prog 71 [bb.av aa,.str ah] [] (TM r (T0 ([]) (.nil)) (fun x=>T1 (fun iC=>[(iC,pw x)]) (fun iC=>.sl 1 iC 0 x.length))):=by
 unfold rU at h
 refine ACall.dN ?_
 refine ACall.aQ Tryz.func71 J Tryz.ntmps71 Tryz.results71 J J ?_
 refine ax<|bO J J J J fun b1=>rA J J<|rN<|ax<|rA J J<|rN<|tS<|ATodo.block<|ATodo.bT (fun x:ae×(List ae)=>jm aa x.1 x.2) (fun x aB=>∃ (b6:Bk),aB=⟨24,[(1,.str x.1),(2,.ptr b1 0),(5,.sl 1 b6 0 x.2.length)],[(b1,.cells (xj aa)),(b6,pw x.2)]⟩) h ?_ ?_
 ·exact ImpX.arr (s:=5) 1 J fun b8=>ImpX.lq [1,0] ⟨b8,J⟩ J J
 ·intro x z1 aB J1 dB h ic dm
  obtain ⟨q5,l7⟩:=x
  obtain ⟨b6,rfl⟩:=dB
  replace h:jm aa q5 l7=some z1:=h
  unfold jm at h
  refine tS<|ax<|rM J J<|ARun.qv (qD J J) J<|rN<|cD h J (fun h=>?_) (fun h=>?_)
  ·refine tK<|ATodo.block<|tS<|ax<|rM J J<|rM J J<|aq h fun v9 e1 h=>dc J (ba e1) (.cons (vI.uf .p1) (.cons (.co (.refl _)) .nil)) J J<|rN<|cB h J (fun h=>?_) (fun h=>?_)
   ·refine ax<|rA J J<|rN<|ATodo.ret<|have h:=bz h dm;?_
    cases h
    exact hH J [] J ⟨J,J⟩
   ·refine tK<|ax<|rM J J<|rM J J<|aC (xs:=([q5]:List ae).map AV.str) J J J J J J<|aq h fun l10 e2 h=>cS (g:=AV.str) J J J J J J J J (.list _) e2 (fun _=>.p1) J fun ud=>rA J J<|rN<|ATodo.ck (id:=6) (A:=[0,1,0,0,12,31,63,127,255]) 9 mixed J (by kernel_rfl) (by kernel_rfl)<|AM.qv (an J J) J<|AM.qv (az J J .p0 J) J<|AM.qv (ao J J .p0 J) J<|AM.qv (aL J) J<|aq h fun v12 e3 h=>AM.dv J (jF e3) cR J<|aq h fun mb e4 h=>AM.qv (aP J J J e4 J J) J<|AM.qv (bJ J J) J<|AM.qv (aG J J J) J<|AM.qv (bM J) J<|AM.nil<|rN<|ATodo.bU<|ATodo.stop<|?_
    cases h
    exact ic _ _ J<|ImpX.lq [0,0] ⟨ud,J⟩ J J
  ·refine ATodo.exit J<|have h:=bz h dm;ax<|rM J J<|rA J J<|rN<|ATodo.ret<|?_
   cases h
   exact hH J [1] J ⟨b6,J,J⟩
theorem Cw {aa:bb} {r:Int} (h:oS aa=some r):Pu Tryz.prog 67 [bb.av aa] (I r):=by
 unfold oS at h
 refine ACall.aQ Tryz.func67 J Tryz.ntmps67 Tryz.results67 J J ?_
 refine ax<|bO J J J J fun b1=>rA J J<|rN<|tS<|ax<|rF J J J<|rL J J .p0 J J<|ARun.qv (bD J) J<|ARun.qv (dJ J J) J<|rN<|cD h J (fun h=>?_) (fun h=>?_)
 ·refine ax<|rA J J<|rN<|ATodo.ret<|?_
  cases h
  exact hP J J
 ·refine tK<|tS<|ax<|rF J J J<|rL J J .p0 J J<|ARun.qv (bD J) J<|rM J J<|rN<|ATodo.block<|ATodo.bT (fun x:Int=>lr aa x) (fun x aB=>aB=⟨87,[(1,.ptr b1 0),(16,yg aa.al),(17,I (aa.al.length:Int)),(18,I x)],[(b1,.cells (xj aa))]⟩) h ?_ ?_
  ·exact ImpX.lq [0] J J J
  ·intro n3 z1 aB J1 dB h ic dm
   obtain rfl:=dB
   replace h:lr aa n3=some z1:=h
   unfold lr at h
   refine ax<|ARun.qv (bu J J) J<|rN<|tS<|cD h J (fun h=>?_) (fun h=>?_)
   ·refine tK<|tS<|ATodo.block<|ax<|rM J J<|aq h fun v4 e1 h=>ARun.qv (aP J J J e1 J J) J<|ARun.qv (aH J J J) J<|bn J J J J fun b5=>rA J J<|au J J J J .p0 J J<|rN<|tS<|ax<|rF J J J<|rL J J .p0 J J<|aq h fun v6 e2 h=>aA J (pf e2) cR J<|ARun.qv (bt J) J<|rN<|cB h J (fun h=>?_) (fun h=>?_)
    ·refine ax<|rA J J<|rN<|ATodo.ret<|have h:=bz h dm;?_
     cases h
     exact hP J J
    ·refine tK<|tS<|ATodo.cut (fun aB=>∃ (c7:Bool),gM n3 c7=some z1∧aB=⟨87,[(1,.ptr b1 0),(16,yg aa.al),(17,I (aa.al.length:Int)),(18,I n3),(40,.bool c7)],[(b1,.cells (xj aa))]⟩) ?_ ?_
     ·refine ATodo.ck (id:=8) (A:=[0,1,3,7,15,7,39,7,135,487,999,2023,4095,8191]) 14 mixed J (by kernel_rfl) (by kernel_rfl)<|AM.qv (aL J) J<|AM.qv (dJ J J) J<|AM.qv (aL J) J<|AM.cA J J J (fun hc=>?_) (fun hc=>?_)
      ·exact have h:=gr hc h;AM.qv (an J J) J<|AM.aj J J J<|AM.qv (az J J .p0 J) J<|AM.aj J J J<|AM.qv (an J J) J<|AM.aj J J J<|AM.qv (az J J .p1 J) J<|AM.aj J J J<|AM.qv (aL J) J<|AM.aj J J J<|AM.qv (gq J J) J<|AM.aj J J J<|aq h fun v8 e3 h=>AM.qv (aP J J J e3 J J) J<|AM.aj J J J<|AM.qv (bJ J J) J<|AM.aj J J J<|AM.qv (aG J J J) J<|AM.aj J J J<|AM.qv (rk J J) J<|AM.qv (cJ J J) J<|AM.nil<|rN<|ATodo.stop<|ImpX.lq [1] ⟨Op.bytesLess v4.Key v8.Key||v4.Key==v8.Key,h,J⟩ J J
      ·exact have h:=wq hc h;AM.ai J J J J<|AM.ai J J J J<|AM.ai J J J J<|AM.ai J J J J<|AM.ai J J J J<|AM.ai J J J J<|AM.ai J J J J<|AM.ai J J J J<|AM.ai J J J J<|AM.qv (eD J J) J<|AM.nil<|rN<|ATodo.stop<|ImpX.lq [1] ⟨false,h,J⟩ J J
     ·rintro aB ⟨c7,h,rfl⟩
      unfold gM at h
      refine cB h J (fun h=>?_) (fun h=>?_)
      ·refine ax<|rA J J<|rN<|ATodo.ret<|have h:=bz h dm;?_
       cases h
       exact hP J J
      ·refine tK<|ATodo.bU<|tR<|ARun.qv (bh J J) J<|rM J J<|rN<|ATodo.stop<|?_
       cases h
       exact ic _ _ J<|ImpX.lq [0] J J J
   ·refine ATodo.exit J<|have h:=bz h dm;tS<|ax<|rF J J J<|rL J J .p0 J J<|ARun.qv (bD J) J<|rM J J<|rN<|ATodo.block<|ATodo.bT (fun x:Int=>lp aa x) (fun x aB=>aB=⟨87,[(1,.ptr b1 0),(43,yg aa.al),(44,I (aa.al.length:Int)),(45,I x)],[(b1,.cells (xj aa))]⟩) h ?_ ?_
    ·exact ImpX.lq [0] J J J
    ·intro n10 z2 aB J2 dB h zN uS
     obtain rfl:=dB
     replace h:lp aa n10=some z2:=h
     unfold lp at h
     refine ax<|ARun.qv (bu J J) J<|rN<|tS<|cD h J (fun h=>?_) (fun h=>?_)
     ·refine tK<|tS<|ATodo.block<|ax<|aq h fun v11 e4 h=>ARun.qv (aP J J J e4 J J) J<|ARun.qv (aH J J J) J<|bn J J J J fun KQ=>au J J J J .p0 J J<|rN<|tS<|ATodo.cut (fun aB=>∃ (Dp:Bool),gN n10 Dp=some z2∧aB=⟨87,[(1,.ptr b1 0),(43,yg aa.al),(44,I (aa.al.length:Int)),(45,I n10),(58,.bool Dp)],[(b1,.cells (xj aa))]⟩) ?_ ?_
      ·refine tR<|rF J J J<|rL J J .p0 J J<|ARun.qv (qD J J) J<|rM J J<|gT h J J J (fun h=>?_) (fun h=>?_)
       ·exact ARun.qv (ao J J .p1 J) J<|rY J J J<|rF J J J<|rY J J J<|rL J J .p0 J J<|rY J J J<|aq h fun lW e5 h=>aA J (jF e5) cR J<|rY J J J<|ARun.qv (bu J J) J<|rT J J J<|rN<|ATodo.stop<|ImpX.lq [1] ⟨decide (lW < (0:Int)),h,J⟩ J J
       ·exact rG J J J J<|rG J J J J<|rG J J J J<|rG J J J J<|rE J J J<|rN<|ATodo.stop<|ImpX.lq [1] ⟨false,h,J⟩ J J
      ·rintro aB ⟨Dp,h,rfl⟩
       unfold gN at h
       refine cB h J (fun h=>?_) (fun h=>?_)
       ·refine ax<|rA J J<|rN<|ATodo.ret<|have h:=bz h uS;?_
        cases h
        exact hP J J
       ·refine tK<|ATodo.bU<|tR<|ARun.qv (bh J J) J<|rM J J<|rN<|ATodo.stop<|?_
        cases h
        exact zN _ _ J<|ImpX.lq [0] J J J
     ·refine ATodo.exit J<|have h:=bz h uS;tS<|ax<|rF J J J<|rL J J .p0 J J<|ARun.qv (bD J) J<|rM J J<|rN<|ATodo.block<|ATodo.bT (fun x:Int=>eO aa x) (fun x aB=>aB=⟨87,[(1,.ptr b1 0),(61,yg aa.al),(62,I (aa.al.length:Int)),(63,I x)],[(b1,.cells (xj aa))]⟩) h ?_ ?_
      ·exact ImpX.lq [0] J J J
      ·intro n16 z3 aB J3 dB h Qb N2
       obtain rfl:=dB
       replace h:eO aa n16=some z3:=h
       unfold eO at h
       refine ax<|ARun.qv (bu J J) J<|rN<|tS<|cD h J (fun h=>?_) (fun h=>?_)
       ·refine tK<|tS<|ATodo.block<|ax<|aq h fun v17 e6 h=>ARun.qv (aP J J J e6 J J) J<|ARun.qv (aH J J J) J<|bn J J J J fun GP=>au J J J J .p0 J J<|rN<|ax<|ARun.qv (ao J J .p1 J) J<|rF J J J<|rL J J .p0 J J<|aq h fun dI e7 h=>Ld h (fun e8 h=>?_) (fun x20 e8 h=>?_)
        ·refine have abE:=xp e8 (yP e7);aJ J abE cR .nil J J<|ARun.qv (Vc J J) J<|rN<|ATodo.D4 J<|ax<|rA J J<|rN<|ATodo.ret<|have h:=bz h N2;?_
         cases h
         exact hP J J
        ·refine have abF:=xq e8 (yP e7);eE J abF cR .nil (fun _=>J) J fun Uk=>aq h fun v22 e9 h=>ARun.qv (Vd (l:=x20) J J e9) J<|rN<|ATodo.OQ J<|tK<|ATodo.bU<|tR<|ARun.qv (bh J J) J<|rM J J<|rN<|ATodo.stop<|?_
         cases h
         exact Qb _ _ J<|ImpX.lq [2] J J J
       ·refine ATodo.exit J<|have h:=bz h N2;tS<|ax<|rF J J J<|rL J J .p0 J J<|ARun.qv (bD J) J<|rM J J<|rN<|ATodo.block<|ATodo.bT (fun x:Int=>gO aa x) (fun x aB=>aB=⟨87,[(1,.ptr b1 0),(74,yg aa.al),(75,I (aa.al.length:Int)),(76,I x)],[(b1,.cells (xj aa))]⟩) h ?_ ?_
        ·exact ImpX.lq [0] J J J
        ·intro n24 z4 aB J4 dB h hJ4 Z4
         obtain rfl:=dB
         replace h:gO aa n24=some z4:=h
         unfold gO at h
         refine ax<|ARun.qv (bu J J) J<|rN<|tS<|cD h J (fun h=>?_) (fun h=>?_)
         ·refine tK<|tS<|ATodo.block<|ax<|aq h fun v25 zM h=>ARun.qv (aP J J J zM J J) J<|ARun.qv (aH J J J) J<|bn J J J J fun Lz=>au J J J J .p0 J J<|rN<|ax<|ARun.qv (ao J J .p1 J) J<|rF J J J<|rL J J .p0 J J<|aq h fun HL AZ h=>aA J (vw AZ) cR J<|ARun.qv (bD J) J<|ARun.qv (dJ J J) J<|rN<|cD h J (fun h=>?_) (fun h=>?_)
          ·refine ax<|rA J J<|rN<|ATodo.ret<|have h:=bz h Z4;?_
           cases h
           exact hP J J
          ·refine tK<|ATodo.bU<|tR<|ARun.qv (bh J J) J<|rM J J<|rN<|ATodo.stop<|?_
           cases h
           exact hJ4 _ _ J<|ImpX.lq [1] J J J
         ·refine ATodo.exit J<|have h:=bz h Z4;ax<|rA J J<|rN<|ATodo.ret<|?_
          cases h
          exact hP J J
theorem Dy {aa:ae} {r:Bool} (h:iL aa=some r):Pu Tryz.prog 154 [.str aa] (.bool r):=by
 unfold iL at h
 refine ACall.aQ Tryz.func154 J Tryz.ntmps154 Tryz.results154 J J ?_
 refine ax<|rA J J<|rN<|ax<|rM J J<|aq h fun v1 e1 h=>aA J (pf e1) cR J<|ARun.qv (bt J) J<|rA J J<|rN<|ATodo.ret<|?_
 cases h
 exact hP J J
theorem BK {aa:ae} {ah:Bool} {r:Bool} (h:oT aa ah=some r):Pu Tryz.prog 75 [.str aa,.bool ah] (.bool r):=by
 unfold oT at h
 refine ACall.aQ Tryz.func75 J Tryz.ntmps75 Tryz.results75 J J ?_
 refine ax<|rA J J<|rN<|ax<|rM J J<|aq h fun v1 e1 h=>eE J (uh e1) cR .nil (fun _=>J) J fun b2=>rA J J<|rN<|tS<|ax<|rM J J<|ARun.qv (iO J) J<|ARun.qv (gq J J) J<|rA J J<|rN<|tS<|ATodo.cut (fun aB=>∃ (c3:Bool),nJ aa v1 c3=some r∧aB=⟨39,[(0,.str aa),(5,.sl 1 b2 0 v1.length),(6,I (cr ((v1.length:Int) - (1:Int)))),(20,.bool c3)],[(b2,pw v1)]⟩) ?_ ?_
 ·refine tR<|rM J J<|ARun.qv (bt J) J<|rM J J<|ARun.guard J J J (fun hc=>?_) (fun hc=>?_)
  ·exact have h:=gr hc h;rM J J<|rY J J J<|rM J J<|rY J J J<|aq h fun v4 e2 h=>ARun.qv (fg J J J e2) J<|rY J J J<|ARun.qv (iP (g:=AV.str) J J (.inl .p0) e2 J) J<|rY J J J<|ARun.qv (fS J J) J<|rT J J J<|rN<|ATodo.stop<|ImpX.lq [0] ⟨decide (v4=([42]:ae)),h,J⟩ J J
  ·exact have h:=gw hc h;rG J J J J<|rG J J J J<|rG J J J J<|rG J J J J<|rE J J J<|rN<|ATodo.stop<|ImpX.lq [0] ⟨false,h,J⟩ J J
 ·rintro aB ⟨c3,h,rfl⟩
  unfold nJ at h
  refine ATodo.cut (fun aB=>∃ (l5:List ae),jJ aa l5=some r∧aB=⟨39,[(0,.str aa),(5,.sl 1 b2 0 l5.length)],[(b2,pw l5)]⟩) ?_ ?_
  ·refine cB h J (fun h=>?_) (fun h=>?_)
   ·exact tR<|rM J J<|rM J J<|aq h fun l6 e3 h=>ARun.qv (lH J J .none (.some _ _ _ J) J J e3) J<|rA J J<|ARun.ghost<|ImpX.Jb e3 .p0<|ImpX.here<|rN<|ATodo.stop<|ImpX.lq [0] ⟨l6,h,J⟩ J J
   ·refine ax<|rM J J<|rM J J<|aq h fun v7 e4 h=>ARun.qv (fg J J J e4) J<|ARun.qv (iP (g:=AV.str) J J (.inl .p0) e4 J) J<|aq h fun v8 e5 h=>aA J (pf e5) cR J<|ARun.qv (bt J) J<|rN<|cB h J (fun h=>?_) (fun h=>?_)
    ·refine ax<|rA J J<|rN<|ATodo.ret<|?_
     cases h
     exact hP J J
    ·exact tK<|ATodo.stop<|ImpX.lq [0] ⟨v1,h,J⟩ J J
  ·rintro aB ⟨l5,h,rfl⟩
   unfold jJ at h
   refine tS<|ATodo.cut (fun aB=>∃ (c9:Bool),nI c9=some r∧aB=⟨39,[(4,.bool c9)],[]⟩) ?_ ?_
   ·refine tR<|rM J J<|aq h fun v10 e6 h=>eE J (uh e6) cR .nil (fun _=>J) J fun ud=>ARun.qv (iO J) J<|ARun.qv (sA J J) J<|rM J J<|gT h J J J (fun h=>?_) (fun h=>?_)
    ·exact rM J J<|rY J J J<|aq h fun v12 e7 h=>dc J (bP (fun e=>Dy e) e7) (.cons (vI.uf .p1) (.cons (.uX _ _ _ .nil) .nil)) J J<|rY J J J<|ARun.qv (bt J) J<|rT J J J<|rA J J<|rN<|ATodo.stop<|ImpX.lq [] ⟨!v12,h,J⟩ J J
    ·exact rG J J J J<|rG J J J J<|rE J J J<|rA J J<|rN<|ATodo.stop<|ImpX.lq [] ⟨false,h,J⟩ J J
   ·rintro aB ⟨c9,h,rfl⟩
    unfold nI at h
    refine ATodo.ret<|?_
    cases h
    exact hP J J
theorem F2 {aa:List ae} {ah:Bool} {r:Int} (h:vW aa ah=some r):Pu Tryz.prog 93 [ph aa,.bool ah] (I r):=by
 unfold vW at h
 refine ACall.aQ Tryz.func93 J Tryz.ntmps93 Tryz.results93 J J ?_
 refine ax<|rA J J<|rN<|tS<|ax<|rM J J<|ARun.qv (bD J) J<|rM J J<|rN<|ATodo.block<|ATodo.bT (fun x:Int=>kC aa ah x) (fun x aB=>aB=⟨30,[(0,ph aa),(1,.bool ah),(7,ph aa),(8,I (aa.length:Int)),(9,I x)],[]⟩) h ?_ ?_
 ·exact ImpX.lq [] J J J
 ·intro n2 z1 aB J1 dB h ic dm
  obtain rfl:=dB
  replace h:kC aa ah n2=some z1:=h
  unfold kC at h
  refine ax<|ARun.qv (bu J J) J<|rN<|tS<|cD h J (fun h=>?_) (fun h=>?_)
  ·refine tK<|tS<|ATodo.block<|ax<|rM J J<|aq h fun v3 e1 h=>ARun.qv (aP J J J e1 J J) J<|ARun.qv (aG J J J) J<|rA J J<|rA J J<|rN<|tS<|ax<|rM J J<|rM J J<|aq h fun v4 e2 h=>aA J (BK e2) cR J<|ARun.qv (bt J) J<|rN<|cB h J (fun h=>?_) (fun h=>?_)
   ·refine ax<|rA J J<|rN<|ATodo.ret<|have h:=bz h dm;?_
    cases h
    exact hP J J
   ·refine tK<|tS<|ATodo.cut (fun aB=>∃ (c5:Bool),kB n2 c5=some z1∧aB=⟨30,[(0,ph aa),(1,.bool ah),(7,ph aa),(8,I (aa.length:Int)),(9,I n2),(28,.bool c5)],[]⟩) ?_ ?_
    ·refine tR<|rM J J<|ARun.qv (dJ J J) J<|rM J J<|gT h J J J (fun h=>?_) (fun h=>?_)
     ·exact rM J J<|rY J J J<|rM J J<|rY J J J<|rM J J<|rY J J J<|ARun.qv (gq J J) J<|rY J J J<|aq h fun v6 e3 h=>ARun.qv (aP J J J e3 J J) J<|rY J J J<|ARun.qv (aG J J J) J<|rY J J J<|ARun.qv (rk J J) J<|rT J J J<|rN<|ATodo.stop<|ImpX.lq [] ⟨Op.bytesLess v3 v6||v3==v6,h,J⟩ J J
     ·exact rG J J J J<|rG J J J J<|rG J J J J<|rG J J J J<|rG J J J J<|rG J J J J<|rE J J J<|rN<|ATodo.stop<|ImpX.lq [] ⟨false,h,J⟩ J J
    ·rintro aB ⟨c5,h,rfl⟩
     unfold kB at h
     refine cB h J (fun h=>?_) (fun h=>?_)
     ·refine ax<|rA J J<|rN<|ATodo.ret<|have h:=bz h dm;?_
      cases h
      exact hP J J
     ·refine tK<|ATodo.bU<|tR<|ARun.qv (bh J J) J<|rM J J<|rN<|ATodo.stop<|?_
      cases h
      exact ic _ _ J<|ImpX.lq [] J J J
  ·refine ATodo.exit J<|have h:=bz h dm;ax<|rA J J<|rN<|ATodo.ret<|?_
   cases h
   exact hP J J
theorem BL {aa:List ae} {r:Int} (h:qz aa=some r):Pu Tryz.prog 73 [ph aa] (I r):=by
 unfold qz at h
 refine ACall.aQ Tryz.func73 J Tryz.ntmps73 Tryz.results73 J J ?_
 refine ax<|rA J J<|rN<|tS<|ATodo.block<|ax<|rM J J<|ARun.qv (bD J) J<|ARun.qv (bS J J) J<|rA J J<|rN<|cD h J (fun h=>?_) (fun h=>?_)
 ·refine ax<|rA J J<|rN<|ATodo.ret<|?_
  cases h
  exact hP J J
 ·refine ax<|rM J J<|ARun.qv (bD J) J<|ARun.qv (dJ J J) J<|rA J J<|rN<|cD h J (fun h=>?_) (fun h=>?_)
  ·refine ax<|rA J J<|rN<|ATodo.ret<|?_
   cases h
   exact hP J J
  ·refine tK<|ATodo.bU<|ax<|rM J J<|aq h fun v1 e1 h=>aA J (F2 e1) cR J<|rA J J<|rN<|ATodo.ret<|?_
   cases h
   exact hP J J
theorem F3 [GI:bc] {aa:bN} {ah:ae} {r:Bool} (h:vX aa ah=r):Pu Tryz.prog 224 [bN.av aa,.ik [.str ah]] (.bool r):=by
 unfold vX at h
 refine ACall.aQ Tryz.func224 J Tryz.ntmps224 Tryz.results224 J J ?_
 refine ax<|bO J J J J fun b1=>rA J J<|rN<|ax<|rF J J J<|rL J J .p0 J J<|ARun.qv (aG J J J) J<|ARun.qv (fS J J) J<|rA J J<|rN<|ATodo.ret<|?_
 obtain rfl:=h
 exact hP J J
theorem um [GI:bc] {aa:List bN} {er:bN→Option Bool} {cL:FuncId} [aZ Tryz.prog cL] {dR:List AV} (jw:∀ {y0:_} {u:Bool},er y0=some u→Pu Tryz.prog cL (bN.av y0 :: dR) (.bool u)) {r:Int} (h:gP aa er=some r):Pu Tryz.prog 223 [By aa,.func (.func cL) dR] (I r):=by
 unfold gP at h
 refine ACall.aQ Tryz.func223 J Tryz.ntmps223 Tryz.results223 J J ?_
 refine ax<|rA J J<|rN<|tS<|ax<|rM J J<|ARun.qv (bD J) J<|rM J J<|rN<|ATodo.block<|ATodo.bT (fun x:Int=>fM aa er x) (fun x aB=>aB=⟨19,[(0,By aa),(1,.func (.func cL) dR),(7,I (aa.length:Int)),(8,I x)],[]⟩) h ?_ ?_
 ·exact ImpX.lq [] J J J
 ·intro n2 z1 aB J1 dB h ic dm
  obtain rfl:=dB
  replace h:fM aa er n2=some z1:=h
  unfold fM at h
  refine ax<|ARun.qv (bu J J) J<|rN<|tS<|cD h J (fun h=>?_) (fun h=>?_)
  ·refine tK<|tS<|ATodo.block<|ax<|rM J J<|rA J J<|rN<|ax<|rM J J<|rM J J<|rM J J<|aq h fun v3 e1 h=>ARun.qv (aP J J J e1 J J) J<|ARun.qv (aH J J J) J<|aq h fun v4 e2 h=>tG J J (jw e2) cR J<|rN<|cB h J (fun h=>?_) (fun h=>?_)
   ·refine ax<|rM J J<|rA J J<|rN<|ATodo.ret<|have h:=bz h dm;?_
    cases h
    exact hP J J
   ·refine tK<|ATodo.bU<|tR<|ARun.qv (bh J J) J<|rM J J<|rN<|ATodo.stop<|?_
    cases h
    exact ic _ _ J<|ImpX.lq [] J J J
  ·refine ATodo.exit J<|have h:=bz h dm;ax<|rA J J<|rN<|ATodo.ret<|?_
   cases h
   exact hP J J
theorem EV [GI:bc] {aa:bb} {ah:ae} {r:Int} (h:wT aa ah=some r):Pu Tryz.prog 145 [bb.av aa,.str ah] (I r):=by
 unfold wT at h
 refine ACall.aQ Tryz.func145 J Tryz.ntmps145 Tryz.results145 J J ?_
 refine ax<|bO J J J J fun b1=>bO J J J J fun b2=>rA J J<|rN<|ax<|rF J J J<|rL J J .p1 J J<|ARun.qv (fI J) J<|aq h fun v3 e1 h=>dc J (um (fun e=>F3 (Option.some.inj e)) e1) (.cons (.co (.refl _)) (.cons (.uX _ _ _ (.cons (.wo _ _ _ .p0 (.cons (.co (.refl _)) .nil)) .nil)) .nil)) J J<|rA J J<|rN<|ATodo.ret<|?_
 cases h
 exact hP J J
theorem EW {aa:bb} {r:Int} (h:rZ aa=some r):Pu Tryz.prog 68 [bb.av aa] (I r):=by
 unfold rZ at h
 refine ACall.aQ Tryz.func68 J Tryz.ntmps68 Tryz.results68 J J ?_
 refine ax<|bO J J J J fun b1=>rA J J<|rN<|tS<|ax<|rF J J J<|rL J J .p0 J J<|ARun.qv (bD J) J<|ARun.qv (dJ J J) J<|rN<|cD h J (fun h=>?_) (fun h=>?_)
 ·refine ax<|rA J J<|rN<|ATodo.ret<|?_
  cases h
  exact hP J J
 ·refine tK<|tS<|ax<|rF J J J<|rL J J .p0 J J<|ARun.qv (bD J) J<|rM J J<|rN<|ATodo.block<|ATodo.bT (fun x:Int=>ig aa x) (fun x aB=>aB=⟨114,[(1,.ptr b1 0),(13,By aa.bj),(14,I (aa.bj.length:Int)),(15,I x)],[(b1,.cells (xj aa))]⟩) h ?_ ?_
  ·exact ImpX.lq [0] J J J
  ·intro n3 z1 aB J1 dB h ic dm
   obtain rfl:=dB
   replace h:ig aa n3=some z1:=h
   unfold ig at h
   refine ax<|ARun.qv (bu J J) J<|rN<|tS<|cD h J (fun h=>?_) (fun h=>?_)
   ·refine tK<|tS<|ATodo.block<|ax<|rM J J<|aq h fun v4 e1 h=>ARun.qv (aP J J J e1 J J) J<|ARun.qv (aH J J J) J<|bn J J J J fun b5=>rA J J<|au J J J J .p0 J J<|rN<|tS<|ax<|rF J J J<|rL J J .p0 J J<|aq h fun v6 e2 h=>aA J (pf e2) cR J<|ARun.qv (bt J) J<|rN<|cB h J (fun h=>?_) (fun h=>?_)
    ·refine ax<|rA J J<|rN<|ATodo.ret<|have h:=bz h dm;?_
     cases h
     exact hP J J
    ·refine tK<|tS<|tS<|ATodo.cut (fun aB=>∃ (c7:Bool),ie n3 v4 c7=some z1∧aB=⟨114,[(1,.ptr b1 0),(4,.ptr b5 0),(13,By aa.bj),(14,I (aa.bj.length:Int)),(15,I n3),(37,.bool c7)],[(b1,.cells (xj aa)),(b5,.cells [.str v4.Key,ph v4.lI])]⟩) ?_ ?_
     ·refine ATodo.ck (id:=8) (A:=[0,1,3,7,15,7,39,7,135,487,999,2023,4095,8191]) 14 mixed J (by kernel_rfl) (by kernel_rfl)<|AM.qv (aL J) J<|AM.qv (dJ J J) J<|AM.qv (aL J) J<|AM.cA J J J (fun hc=>?_) (fun hc=>?_)
      ·exact have h:=gr hc h;AM.qv (an J J) J<|AM.aj J J J<|AM.qv (az J J .p0 J) J<|AM.aj J J J<|AM.qv (an J J) J<|AM.aj J J J<|AM.qv (az J J .p1 J) J<|AM.aj J J J<|AM.qv (aL J) J<|AM.aj J J J<|AM.qv (gq J J) J<|AM.aj J J J<|aq h fun v8 e3 h=>AM.qv (aP J J J e3 J J) J<|AM.aj J J J<|AM.qv (bJ J J) J<|AM.aj J J J<|AM.qv (aG J J J) J<|AM.aj J J J<|AM.qv (rk J J) J<|AM.qv (cJ J J) J<|AM.nil<|rN<|ATodo.stop<|ImpX.lq [1,0] ⟨Op.bytesLess v4.Key v8.Key||v4.Key==v8.Key,h,J⟩ J J
      ·exact have h:=wq hc h;AM.ai J J J J<|AM.ai J J J J<|AM.ai J J J J<|AM.ai J J J J<|AM.ai J J J J<|AM.ai J J J J<|AM.ai J J J J<|AM.ai J J J J<|AM.ai J J J J<|AM.qv (eD J J) J<|AM.nil<|rN<|ATodo.stop<|ImpX.lq [1,0] ⟨false,h,J⟩ J J
     ·rintro aB ⟨c7,h,rfl⟩
      unfold ie at h
      refine cB h J (fun h=>?_) (fun h=>?_)
      ·refine ax<|rA J J<|rN<|ATodo.ret<|have h:=bz h dm;?_
       cases h
       exact hP J J
      ·refine tK<|ax<|rF J J J<|rL J J .p1 J J<|aq h fun v9 e4 h=>aA J (BL e4) cR J<|rA J J<|rN<|ax<|rM J J<|ARun.qv (du J J) J<|rN<|cD h J (fun h=>?_) (fun h=>?_)
       ·refine ax<|rM J J<|rA J J<|rN<|ATodo.ret<|have h:=bz h dm;?_
        cases h
        exact hP J J
       ·refine tK<|ATodo.bU<|tR<|ARun.qv (bh J J) J<|rM J J<|rN<|ATodo.stop<|?_
        cases h
        exact ic _ _ J<|ImpX.lq [0] J J J
   ·refine ATodo.exit J<|have h:=bz h dm;?_
    unfold kR at h
    refine tS<|ax<|rF J J J<|rL J J .p0 J J<|ARun.qv (bD J) J<|ARun.qv (dJ J J) J<|rN<|cD h J (fun h=>?_) (fun h=>?_)
    ·refine ax<|rA J J<|rN<|ATodo.ret<|?_
     cases h
     exact hP J J
    ·refine tK<|tS<|ax<|rF J J J<|rL J J .p0 J J<|ARun.qv (bD J) J<|rM J J<|rN<|ATodo.block<|ATodo.bT (fun x:Int=>nv aa x) (fun x aB=>aB=⟨114,[(1,.ptr b1 0),(50,zK aa.aD),(51,I (aa.aD.length:Int)),(52,I x)],[(b1,.cells (xj aa))]⟩) h ?_ ?_
     ·exact ImpX.lq [0] J J J
     ·intro n11 z2 aB J2 dB h zN uS
      obtain rfl:=dB
      replace h:nv aa n11=some z2:=h
      unfold nv at h
      refine ax<|ARun.qv (bu J J) J<|rN<|tS<|cD h J (fun h=>?_) (fun h=>?_)
      ·refine tK<|tS<|ATodo.block<|ax<|rM J J<|aq h fun v12 e5 h=>ARun.qv (aP J J J e5 J J) J<|ARun.qv (aH J J J) J<|bn J J J J fun yK=>rA J J<|au J J J J .p0 J J<|rN<|ATodo.block<|ax<|rF J J J<|rL J J .p0 J J<|aq h fun lW e6 h=>aA J (pf e6) cR J<|ARun.qv (bt J) J<|rA J J<|rN<|cB h J (fun h=>?_) (fun h=>?_)
       ·refine ax<|rA J J<|rN<|ATodo.ret<|have h:=bz h uS;?_
        cases h
        exact hP J J
       ·refine tS<|ATodo.cut (fun aB=>∃ (OJ:Bool),jn aa n11 v12 OJ=some z2∧aB=⟨114,[(1,.ptr b1 0),(6,I n11),(7,.ptr yK 0),(50,zK aa.aD),(51,I (aa.aD.length:Int)),(52,I n11),(62,.bool OJ)],[(b1,.cells (xj aa)),(yK,.cells [.str v12.lV,.str v12.ar,.str v12.bN])]⟩) ?_ ?_
        ·refine tR<|ARun.qv (ao J J .p1 J) J<|rF J J J<|rL J J .p0 J J<|aq h fun dU e7 h=>aA J (jF e7) cR J<|ARun.qv (bu J J) J<|rM J J<|gF h J J J (fun h=>?_) (fun h=>?_)
         ·exact ARun.qv (ao J J .p1 J) J<|rY J J J<|rF J J J<|rY J J J<|rL J J .p0 J J<|rY J J J<|aq h fun v17 e8 h=>aA J (EV e8) cR J<|rY J J J<|ARun.qv (bu J J) J<|rE J J J<|rA J J<|rN<|ATodo.stop<|ImpX.lq [1,0] ⟨decide (v17 < (0:Int)),h,J⟩ J J
         ·exact rG J J J J<|rG J J J J<|rG J J J J<|rG J J J J<|rT J J J<|rA J J<|rN<|ATodo.stop<|ImpX.lq [1,0] ⟨true,h,J⟩ J J
        ·rintro aB ⟨OJ,h,rfl⟩
         unfold jn at h
         refine cB h J (fun h=>?_) (fun h=>?_)
         ·refine ax<|rA J J<|rN<|ATodo.ret<|have h:=bz h uS;?_
          cases h
          exact hP J J
         ·refine tS<|ATodo.cut (fun aB=>∃ (P3:Bool),qj n11 P3=some z2∧aB=⟨114,[(1,.ptr b1 0),(50,zK aa.aD),(51,I (aa.aD.length:Int)),(52,I n11),(75,.bool P3)],[(b1,.cells (xj aa))]⟩) ?_ ?_
          ·refine ATodo.ck (id:=23) (A:=[0,1,3,7,15,7,39,127,255,511,7,1031,4095,7,8199,7,32775,122887,253959,516103,7,1048583,4194303,7,8388615,7,33554439,125829127,260046855,528482311,7,1073741831,4294967295,8589934591,17179869183,34359738367,68719476735,137438953471]) 38 mixed J (by kernel_rfl) (by kernel_rfl)<|AM.qv (aL J) J<|AM.qv (dJ J J) J<|AM.qv (aL J) J<|AM.cA J J J (fun hc=>?_) (fun hc=>?_)
           ·exact have h:=gr hc h;AM.qv (an J J) J<|AM.aj J J J<|AM.qv (az J J .p0 J) J<|AM.aj J J J<|AM.qv (aL J) J<|AM.aj J J J<|AM.qv (gq J J) J<|AM.aj J J J<|aq h fun dI e9 h=>AM.qv (aP J J J e9 J J) J<|AM.aj J J J<|AM.qv (bJ J J) J<|AM.aj J J J<|AM.qv (aG J J J) J<|AM.aj J J J<|AM.qv (an J J) J<|AM.aj J J J<|AM.qv (az J J .p1 J) J<|AM.aj J J J<|AM.dv J (eF J) cR J<|AM.aj J J J<|AM.qv (an J J) J<|AM.aj J J J<|AM.qv (az J J .p0 J) J<|AM.aj J J J<|AM.qv (aL J) J<|AM.aj J J J<|AM.qv (gq J J) J<|AM.aj J J J<|aq h fun v20 zM h=>AM.qv (aP J J J zM J J) J<|AM.aj J J J<|AM.qv (bJ J J) J<|AM.aj J J J<|AM.qv (aG J J J) J<|AM.aj J J J<|AM.qv (an J J) J<|AM.aj J J J<|AM.qv (az J J .p1 J) J<|AM.aj J J J<|AM.dv J (eF J) cR J<|AM.aj J J J<|AM.qv (an J J) J<|AM.aj J J J<|AM.qv (az J J .p0 J) J<|AM.aj J J J<|AM.qv (aL J) J<|AM.aj J J J<|AM.qv (gq J J) J<|AM.aj J J J<|aq h fun v21 AZ h=>AM.qv (aP J J J AZ J J) J<|AM.aj J J J<|AM.qv (bJ J J) J<|AM.aj J J J<|AM.qv (aG J J J) J<|AM.aj J J J<|AM.qv (an J J) J<|AM.aj J J J<|AM.qv (az J J .p1 J) J<|AM.aj J J J<|AM.dv J (eF J) cR J<|AM.aj J J J<|AM.aY (xs:=([(Lib.compareBytes dI.lV v12.lV),(Lib.compareBytes v20.ar v12.ar),(Lib.compareBytes v21.bN v12.bN)]:List Int).map I) J J J J J J<|AM.aj J J J<|aq h fun v22 FX h=>AM.dv J (mT FX) cR J<|AM.aj J J J<|AM.qv (uu J J) J<|AM.qv (cJ J J) J<|AM.qv (bM J) J<|AM.nil<|rN<|ATodo.stop<|ImpX.lq [0] ⟨decide ((0:Int)≤v22),h,J⟩ J J
           ·exact have h:=wq hc h;AM.ai J J J J<|AM.ai J J J J<|AM.ai J J J J<|AM.ai J J J J<|AM.ai J J J J<|AM.ai J J J J<|AM.ai J J J J<|AM.ai J J J J<|AM.ai J J J J<|AM.ai J J J J<|AM.ai J J J J<|AM.ai J J J J<|AM.ai J J J J<|AM.ai J J J J<|AM.ai J J J J<|AM.ai J J J J<|AM.ai J J J J<|AM.ai J J J J<|AM.ai J J J J<|AM.ai J J J J<|AM.ai J J J J<|AM.ai J J J J<|AM.ai J J J J<|AM.ai J J J J<|AM.ai J J J J<|AM.ai J J J J<|AM.ai J J J J<|AM.ai J J J J<|AM.ai J J J J<|AM.ai J J J J<|AM.ai J J J J<|AM.ai J J J J<|AM.qv (eD J J) J<|AM.qv (bM J) J<|AM.nil<|rN<|ATodo.stop<|ImpX.lq [0] ⟨false,h,J⟩ J J
          ·rintro aB ⟨P3,h,rfl⟩
           unfold qj at h
           refine cB h J (fun h=>?_) (fun h=>?_)
           ·refine ax<|rA J J<|rN<|ATodo.ret<|have h:=bz h uS;?_
            cases h
            exact hP J J
           ·refine tK<|ATodo.bU<|ATodo.bU<|tR<|ARun.qv (bh J J) J<|rM J J<|rN<|ATodo.stop<|?_
            cases h
            exact zN _ _ J<|ImpX.lq [0] J J J
      ·refine ATodo.exit J<|have h:=bz h uS;ax<|rA J J<|rN<|ATodo.ret<|?_
       cases h
       exact hP J J
theorem F4 [GI:bc] {self:Query→Option (List Query)} (kP:∀ {aa:Query} {r:(List Query)},self aa=some r→ACall Tryz.prog 150 [.agg [I aa.Kind,.str aa.Field,.str aa.Op,I aa.Value.Kind,.bool aa.Value.bV,I aa.Value.Number,.str aa.Value.Words,I aa.Version.bH,I aa.Version.bI,I aa.Version.bF,oX aa.Kids]] [] (T1 (fun iC=>[(iC,SG r)]) (fun iC=>.sl 11 iC 0 r.length))) {aa:Query} {r:(List Query)} (h:tY self aa=some r):ACall Tryz.prog 150 [.agg [I aa.Kind,.str aa.Field,.str aa.Op,I aa.Value.Kind,.bool aa.Value.bV,I aa.Value.Number,.str aa.Value.Words,I aa.Version.bH,I aa.Version.bI,I aa.Version.bF,oX aa.Kids]] [] (T1 (fun iC=>[(iC,SG r)]) (fun iC=>.sl 11 iC 0 r.length)):=by
 unfold tY at h
 refine ACall.dN ?_
 refine ACall.aQ Tryz.func150 J Tryz.ntmps150 Tryz.results150 J J ?_
 refine ax<|bO J J J J fun b1=>rA J J<|rN<|ax<|rA J J<|rN<|tS<|tS<|ATodo.cut (fun aB=>∃ (c2:Bool),vY self aa c2=some r∧aB=⟨31,[(1,.ptr b1 0),(3,.nil),(13,.bool c2)],[(b1,.cells (xi aa))]⟩) ?_ ?_
 ·refine tR<|rF J J J<|rL J J .p0 J J<|ARun.qv (bS J J) J<|rM J J<|ARun.dA J J J (fun hc=>?_) (fun hc=>?_)
  ·rw [zF hc] at h
   exact rF J J J<|rY J J J<|rL J J .p0 J J<|rY J J J<|ARun.qv (bS J J) J<|rE J J J<|rN<|ATodo.stop<|ImpX.lq [0] ⟨decide (aa.Kind=(2:Int)),h,J⟩ J J
  ·rw [zE hc] at h
   exact rG J J J J<|rG J J J J<|rT J J J<|rN<|ATodo.stop<|ImpX.lq [0] ⟨true,h,J⟩ J J
 ·rintro aB ⟨c2,h,rfl⟩
  unfold vY at h
  refine ATodo.cut (fun aB=>∃ (b3:Bk) (l4:List Query),tX self aa l4=some r∧aB=⟨31,[(1,.ptr b1 0),(3,.sl 11 b3 0 l4.length)],[(b1,.cells (xi aa)),(b3,SG l4)]⟩) ?_ ?_
  ·refine cB h J (fun h=>?_) (fun h=>?_)
   ·exact tR<|rM J J<|ARun.qv (ao J J .p0 J) J<|aC (xs:=([aa]:List Query).map Query.av) J (by simp only [List.map_cons,List.map_nil,Query.tN];rfl) J (by simp only [List.map_cons,List.map_nil,Query.tN];rfl) J J<|aq h fun l5 e1 h=>Np (g:=Query.av) J J J J J J J J (.list _) e1 fun b6=>rA J J<|rN<|ATodo.stop<|ImpX.lq [1,0] ⟨b6,l5,h,J⟩ J J
   ·exact tK<|ATodo.stop<|ImpX.arr (s:=3) 11 J fun b7=>ImpX.lq [1,0] ⟨b7,[],h,J⟩ J J
  ·rintro aB ⟨b3,l4,h,rfl⟩
   unfold tX at h
   refine tS<|ax<|rF J J J<|rL J J .p0 J J<|ARun.qv (bD J) J<|rM J J<|rN<|ATodo.block<|ATodo.bT (fun x:(List Query)×Int=>lu self aa x.1 x.2) (fun x aB=>∃ (ud:Bk),aB=⟨31,[(3,.sl 11 ud 0 x.1.length),(19,oX aa.Kids),(20,I (aa.Kids.length:Int)),(21,I x.2)],[(ud,SG x.1)]⟩) h ?_ ?_
   ·exact ImpX.lq [1] ⟨b3,J⟩ J J
   ·intro x z1 aB J1 dB h ic dm
    obtain ⟨ye,n13⟩:=x
    obtain ⟨ud,rfl⟩:=dB
    replace h:lu self aa ye n13=some z1:=h
    unfold lu at h
    refine ax<|ARun.qv (bu J J) J<|rN<|tS<|cD h J (fun h=>?_) (fun h=>?_)
    ·refine tK<|tS<|ATodo.block<|ax<|aq h fun lW e2 h=>ARun.qv (aP J J J e2 J (by rw [Query.tN];rfl)) J<|ARun.qv (aH J J J) J<|bn J J J J fun yL=>au J J J J .p0 J J<|rN<|tR<|rM J J<|ARun.qv (ao J J .p0 J) J<|aq h fun dU e3 h=>eE J (kP e3) cR .nil (fun _=>J) J fun wz=>aq h fun AY e4 h=>cS (g:=Query.av) J J J J J J J J (No (.inl .p0) J) e4 (fun _=>.p2) J fun FA=>rA J J<|rN<|ATodo.bU<|tR<|ARun.qv (bh J J) J<|rM J J<|rN<|ATodo.stop<|?_
     cases h
     exact ic _ _ J<|ImpX.lq [2] ⟨FA,J⟩ J J
    ·refine ATodo.exit J<|have h:=bz h dm;ax<|rM J J<|rA J J<|rN<|ATodo.ret<|?_
     cases h
     exact hH J [0] J ⟨ud,J,J⟩
theorem HZ [GI:bc]:∀ (k:Nat) {aa:Query} {r:(List Query)},lO k aa=some r→ACall Tryz.prog 150 [.agg [I aa.Kind,.str aa.Field,.str aa.Op,I aa.Value.Kind,.bool aa.Value.bV,I aa.Value.Number,.str aa.Value.Words,I aa.Version.bH,I aa.Version.bI,I aa.Version.bF,oX aa.Kids]] [] (T1 (fun iC=>[(iC,SG r)]) (fun iC=>.sl 11 iC 0 r.length)):=by
 intro k
 induction k with
 | zero=>intro aa r h;cases h
 | succ k ih=>intro aa r h;exact F4 ih h
theorem LB [GI:bc] {aa:Query} {r:(List Query)} (h:EM aa=some r):ACall Tryz.prog 150 [.agg [I aa.Kind,.str aa.Field,.str aa.Op,I aa.Value.Kind,.bool aa.Value.bV,I aa.Value.Number,.str aa.Value.Words,I aa.Version.bH,I aa.Version.bI,I aa.Version.bF,oX aa.Kids]] [] (T1 (fun iC=>[(iC,SG r)]) (fun iC=>.sl 11 iC 0 r.length)):=HZ depth h
theorem JR [GI:bc] {self:Query→Option Int} (kP:∀ {aa:Query} {r:Int},self aa=some r→Pu Tryz.prog 151 [.agg [I aa.Kind,.str aa.Field,.str aa.Op,I aa.Value.Kind,.bool aa.Value.bV,I aa.Value.Number,.str aa.Value.Words,I aa.Version.bH,I aa.Version.bI,I aa.Version.bF,oX aa.Kids]] (I r)) {aa:Query} {r:Int} (h:wU self aa=some r):Pu Tryz.prog 151 [.agg [I aa.Kind,.str aa.Field,.str aa.Op,I aa.Value.Kind,.bool aa.Value.bV,I aa.Value.Number,.str aa.Value.Words,I aa.Version.bH,I aa.Version.bI,I aa.Version.bF,oX aa.Kids]] (I r):=by
 unfold wU at h
 refine ACall.aQ Tryz.func151 J Tryz.ntmps151 Tryz.results151 J J ?_
 refine ax<|bO J J J J fun b1=>rA J J<|rN<|ax<|rA J J<|rN<|tS<|ax<|rF J J J<|rL J J .p0 J J<|ARun.qv (bD J) J<|rM J J<|rN<|ATodo.block<|ATodo.bT (fun x:Int×Int=>o6 self aa x.1 x.2) (fun x aB=>aB=⟨20,[(3,I x.1),(7,oX aa.Kids),(8,I (aa.Kids.length:Int)),(9,I x.2)],[]⟩) h ?_ ?_
 ·exact ImpX.lq [] J J J
 ·intro x z1 aB J1 dB h ic dm
  obtain ⟨n4,n5⟩:=x
  obtain rfl:=dB
  replace h:o6 self aa n4 n5=some z1:=h
  unfold o6 at h
  refine ax<|ARun.qv (bu J J) J<|rN<|tS<|cD h J (fun h=>?_) (fun h=>?_)
  ·refine tK<|tS<|ATodo.block<|ax<|aq h fun v6 e1 h=>ARun.qv (aP J J J e1 J (by rw [Query.tN];rfl)) J<|ARun.qv (aH J J J) J<|bn J J J J fun b7=>au J J J J .p0 J J<|rN<|tR<|rM J J<|ARun.qv (ao J J .p0 J) J<|aq h fun v8 e2 h=>aA J (kP e2) cR J<|ARun.qv (TH J J) J<|rA J J<|rN<|ATodo.bU<|tR<|ARun.qv (bh J J) J<|rM J J<|rN<|ATodo.stop<|?_
   cases h
   exact ic _ _ J<|ImpX.lq [] J J J
  ·refine ATodo.exit J<|have h:=bz h dm;ax<|rM J J<|ARun.qv (bh J J) J<|rA J J<|rN<|ATodo.ret<|?_
   cases h
   exact hP J J
theorem LC [GI:bc]:∀ (k:Nat) {aa:Query} {r:Int},r5 k aa=some r→Pu Tryz.prog 151 [.agg [I aa.Kind,.str aa.Field,.str aa.Op,I aa.Value.Kind,.bool aa.Value.bV,I aa.Value.Number,.str aa.Value.Words,I aa.Version.bH,I aa.Version.bI,I aa.Version.bF,oX aa.Kids]] (I r):=by
 intro k
 induction k with
 | zero=>intro aa r h;cases h
 | succ k ih=>intro aa r h;exact JR ih h
theorem Qg [GI:bc] {aa:Query} {r:Int} (h:Lv aa=some r):Pu Tryz.prog 151 [.agg [I aa.Kind,.str aa.Field,.str aa.Op,I aa.Value.Kind,.bool aa.Value.bV,I aa.Value.Number,.str aa.Value.Words,I aa.Version.bH,I aa.Version.bI,I aa.Version.bF,oX aa.Kids]] (I r):=LC depth h
theorem Dz [GI:bc] {aa:Query} {ah:Query} {r:Bool} (h:tu aa ah=r):Pu Tryz.prog 233 [.agg [I aa.Kind,.str aa.Field,.str aa.Op,I aa.Value.Kind,.bool aa.Value.bV,I aa.Value.Number,.str aa.Value.Words,I aa.Version.bH,I aa.Version.bI,I aa.Version.bF,oX aa.Kids],.ik [I ah.Kind,.str ah.Field,.str ah.Op,I ah.Value.Kind,.bool ah.Value.bV,I ah.Value.Number,.str ah.Value.Words,I ah.Version.bH,I ah.Version.bI,I ah.Version.bF,oX ah.Kids]] (.bool r):=by
 unfold tu at h
 refine ACall.aQ Tryz.func233 J Tryz.ntmps233 Tryz.results233 J J ?_
 refine ax<|bO J J J J fun b1=>rA J J<|rN<|ax<|rF J J J<|rL J J .p0 J J<|ARun.qv (bJ J J) J<|ARun.qv (aG J J J) J<|ARun.qv (bS J J) J<|rA J J<|rN<|ATodo.ret<|?_
 obtain rfl:=h
 exact hP J J
theorem DA {aa:ae} {r:Bool} (h:pP aa=some r):Pu Tryz.prog 157 [.str aa] (.bool r):=by
 unfold pP at h
 refine ACall.aQ Tryz.func157 J Tryz.ntmps157 Tryz.results157 J J ?_
 refine ax<|rA J J<|rN<|ax<|rM J J<|aq h fun v1 e1 h=>aA J (pf e1) cR J<|ARun.qv (bt J) J<|rA J J<|rN<|ATodo.ret<|?_
 cases h
 exact hP J J
theorem BM {aa:ae} {r:Bool} (h:sL aa=some r):Pu Tryz.prog 79 [.str aa] (.bool r):=by
 unfold sL at h
 refine ACall.aQ Tryz.func79 J Tryz.ntmps79 Tryz.results79 J J ?_
 refine ax<|rA J J<|rN<|ax<|rM J J<|aq h fun v1 e1 h=>eE J (uh e1) cR .nil (fun _=>J) J fun b2=>rA J J<|rN<|tS<|ATodo.cut (fun aB=>∃ (c3:Bool),nK c3=some r∧aB=⟨19,[(2,.bool c3)],[]⟩) ?_ ?_
 ·refine tR<|rM J J<|ARun.qv (eR J) J<|ARun.qv (sA J J) J<|rM J J<|gT h J J J (fun h=>?_) (fun h=>?_)
  ·refine rM J J<|rY J J J<|ARun.qv (iO J) J<|rY J J J<|ARun.qv (sA J J) J<|rT J J J<|rM J J<|gT h J J J (fun h=>?_) (fun h=>?_)
   ·exact rM J J<|rY J J J<|aq h fun v4 e2 h=>dc J (bP (fun e=>DA e) e2) (.cons (vI.uf .p0) (.cons (.uX _ _ _ .nil) .nil)) J J<|rY J J J<|ARun.qv (bt J) J<|rT J J J<|rA J J<|rN<|ATodo.stop<|ImpX.lq [] ⟨!v4,h,J⟩ J J
   ·exact rG J J J J<|rG J J J J<|rE J J J<|rA J J<|rN<|ATodo.stop<|ImpX.lq [] ⟨false,h,J⟩ J J
  ·exact rG J J J J<|rG J J J J<|rE J J J<|rM J J<|rG J J J J<|rG J J J J<|rG J J J J<|rE J J J<|rA J J<|rN<|ATodo.stop<|ImpX.lq [] ⟨false,h,J⟩ J J
 ·rintro aB ⟨c3,h,rfl⟩
  unfold nK at h
  refine ATodo.ret<|?_
  cases h
  exact hP J J
theorem EX {aa:ae} {ah:Bool} {r:Bool} (h:r6 aa ah=some r):Pu Tryz.prog 297 [.str aa,.bool ah] (.bool r):=by
 unfold r6 at h
 refine ACall.aQ Tryz.func297 J Tryz.ntmps297 Tryz.results297 J J ?_
 refine ax<|rA J J<|rN<|tS<|ax<|rM J J<|aq h fun v1 e1 h=>aA J (jx e1) cR J<|rM J J<|rX J J J<|rX J J J<|rA J J<|rA J J<|rN<|tS<|ATodo.cut (fun aB=>∃ (c2:Bool),kT aa ah c2=some r∧aB=⟨36,[(0,.str aa),(1,.bool ah),(18,.bool c2)],[]⟩) ?_ ?_
 ·refine tR<|rM J J<|rM J J<|ARun.guard J J J (fun hc=>?_) (fun hc=>?_)
  ·exact have h:=gr hc h;rM J J<|rY J J J<|aq h fun v3 e2 h=>aA J (pf e2) cR J<|rT J J J<|rN<|ATodo.stop<|ImpX.lq [] ⟨v3,h,J⟩ J J
  ·exact have h:=gw hc h;rG J J J J<|rE J J J<|rN<|ATodo.stop<|ImpX.lq [] ⟨false,h,J⟩ J J
 ·rintro aB ⟨c2,h,rfl⟩
  unfold kT at h
  refine cB h J (fun h=>?_) (fun h=>?_)
  ·refine ax<|rA J J<|rN<|ATodo.ret<|?_
   cases h
   exact hP J J
  ·refine tK<|tS<|ax<|rM J J<|aq h fun v4 e3 h=>aA J (jx e3) cR J<|rM J J<|rX J J J<|rX J J J<|rA J J<|rA J J<|rN<|tS<|ATodo.cut (fun aB=>∃ (c5:Bool),kS aa ah c5=some r∧aB=⟨36,[(0,.str aa),(1,.bool ah),(28,.bool c5)],[]⟩) ?_ ?_
   ·refine tR<|rM J J<|rM J J<|ARun.guard J J J (fun hc=>?_) (fun hc=>?_)
    ·exact have h:=gr hc h;rM J J<|rY J J J<|aq h fun v6 e4 h=>aA J (BM e4) cR J<|rT J J J<|rN<|ATodo.stop<|ImpX.lq [] ⟨v6,h,J⟩ J J
    ·exact have h:=gw hc h;rG J J J J<|rE J J J<|rN<|ATodo.stop<|ImpX.lq [] ⟨false,h,J⟩ J J
   ·rintro aB ⟨c5,h,rfl⟩
    unfold kS at h
    refine cB h J (fun h=>?_) (fun h=>?_)
    ·refine ax<|rA J J<|rN<|ATodo.ret<|?_
     cases h
     exact hP J J
    ·refine tK<|tS<|ATodo.cut (fun aB=>∃ (c7:Bool),nw c7=some r∧aB=⟨36,[(4,.bool c7)],[]⟩) ?_ ?_
     ·refine tR<|rM J J<|ARun.qv (bt J) J<|rM J J<|ARun.guard J J J (fun hc=>?_) (fun hc=>?_)
      ·exact have h:=gr hc h;aC (xs:=([([107,101,121]:ae),([109,111,100,101,108]:ae),([116,101,110,97,110,116]:ae),([102,105,114,109,119,97,114,101]:ae)]).map AV.str) J J J J J J<|rY J J J<|rM J J<|rY J J J<|aq h fun v8 e5 h=>aA J (ba e5) cR J<|rT J J J<|rA J J<|rN<|ATodo.stop<|ImpX.lq [] ⟨v8,h,J⟩ J J
      ·exact have h:=gw hc h;rG J J J J<|rG J J J J<|rE J J J<|rA J J<|rN<|ATodo.stop<|ImpX.lq [] ⟨false,h,J⟩ J J
     ·rintro aB ⟨c7,h,rfl⟩
      unfold nw at h
      refine ATodo.ret<|?_
      cases h
      exact hP J J
theorem w5 [GI:bc] {aa:Version} {r:Bool} (h:kD aa=r):Pu Tryz.prog 77 [Version.av aa] (.bool r):=by
 unfold kD at h
 refine ACall.aQ Tryz.func77 J Tryz.ntmps77 Tryz.results77 J J ?_
 refine ax<|bO J J J J fun b1=>rA J J<|rN<|tS<|ATodo.cut (fun aB=>∃ (c2:Bool),ou c2=r∧aB=⟨16,[(2,.bool c2)],[]⟩) ?_ ?_
 ·refine tR<|rF J J J<|rL J J .p0 J J<|aA J (xM J) cR J<|rM J J<|ARun.guard J J J (fun hc=>?_) (fun hc=>?_)
  ·rw [Bc hc] at h
   refine rF J J J<|rY J J J<|rL J J .p0 J J<|rY J J J<|aA J (xM J) cR J<|rT J J J<|rM J J<|ARun.guard J J J (fun hc=>?_) (fun hc=>?_)
   ·rw [Bc hc] at h
    exact rF J J J<|rY J J J<|rL J J .p0 J J<|rY J J J<|aA J (xM J) cR J<|rT J J J<|rA J J<|rN<|ATodo.stop<|ImpX.lq [] ⟨(yf aa.bF (0:Int) (9999:Int)),h,J⟩ J J
   ·rw [Bd hc] at h
    exact rG J J J J<|rG J J J J<|rE J J J<|rA J J<|rN<|ATodo.stop<|ImpX.lq [] ⟨false,h,J⟩ J J
  ·rw [Bd hc] at h
   exact rG J J J J<|rG J J J J<|rE J J J<|rM J J<|rG J J J J<|rG J J J J<|rG J J J J<|rE J J J<|rA J J<|rN<|ATodo.stop<|ImpX.lq [] ⟨false,h,J⟩ J J
 ·rintro aB ⟨c2,h,rfl⟩
  unfold ou at h
  refine ATodo.ret<|?_
  obtain rfl:=h
  exact hP J J
theorem yQ {aa:a8} {r:Bool} (h:o7 aa=some r):Pu Tryz.prog 80 [a8.av aa] (.bool r):=by
 unfold o7 at h
 refine ACall.aQ Tryz.func80 J Tryz.ntmps80 Tryz.results80 J J ?_
 refine ax<|bO J J J J fun b1=>rA J J<|rN<|ax<|rF J J J<|rL J J .p0 J J<|rF J J J<|rL J J .p0 J J<|ARun.qv (du J J) J<|rF J J J<|rL J J .p0 J J<|ARun.qv (qD J J) J<|aC (xs:=([aa.bV,decide (aa.Number≠(0:Int)),decide (aa.Words≠([]:ae))]).map AV.bool) J J J J J J<|rA J J<|rN<|tS<|ax<|rM J J<|ARun.qv (bD J) J<|rM J J<|rN<|ATodo.block<|ATodo.bT (fun x:Int=>bR aa x) (fun x aB=>aB=⟨50,[(1,.ptr b1 0),(15,Yp [aa.bV,decide (aa.Number≠(0:Int)),decide (aa.Words≠([]:ae))]),(16,I ([aa.bV,decide (aa.Number≠(0:Int)),decide (aa.Words≠([]:ae))].length:Int)),(17,I x)],[(b1,.cells [I aa.Kind,.bool aa.bV,I aa.Number,.str aa.Words])]⟩) h ?_ ?_
 ·exact ImpX.lq [0] J J J
 ·intro n3 z1 aB J1 dB h ic dm
  obtain rfl:=dB
  replace h:bR aa n3=some z1:=h
  unfold bR at h
  refine ax<|ARun.qv (bu J J) J<|rN<|tS<|cD h J (fun h=>?_) (fun h=>?_)
  ·refine tK<|tS<|ATodo.block<|ax<|rM J J<|aq h fun v4 e1 h=>ARun.qv (aP J J J e1 J J) J<|ARun.qv (aG J J J) J<|rA J J<|rA J J<|rN<|tS<|ATodo.cut (fun aB=>∃ (c5:Bool),kU n3 c5=some z1∧aB=⟨50,[(1,.ptr b1 0),(15,Yp [aa.bV,decide (aa.Number≠(0:Int)),decide (aa.Words≠([]:ae))]),(16,I ([aa.bV,decide (aa.Number≠(0:Int)),decide (aa.Words≠([]:ae))].length:Int)),(17,I n3),(29,.bool c5)],[(b1,.cells [I aa.Kind,.bool aa.bV,I aa.Number,.str aa.Words])]⟩) ?_ ?_
   ·refine tR<|rM J J<|rM J J<|ARun.guard J J J (fun hc=>?_) (fun hc=>?_)
    ·rw [Bc hc] at h
     exact rF J J J<|rY J J J<|rL J J .p0 J J<|rY J J J<|rM J J<|rY J J J<|ARun.qv (bh J J) J<|rY J J J<|ARun.qv (du J J) J<|rT J J J<|rN<|ATodo.stop<|ImpX.lq [0] ⟨decide (aa.Kind≠(cr (n3+(1:Int)))),h,J⟩ J J
    ·rw [Bd hc] at h
     exact rG J J J J<|rG J J J J<|rG J J J J<|rG J J J J<|rE J J J<|rN<|ATodo.stop<|ImpX.lq [0] ⟨false,h,J⟩ J J
   ·rintro aB ⟨c5,h,rfl⟩
    unfold kU at h
    refine cB h J (fun h=>?_) (fun h=>?_)
    ·refine ax<|rA J J<|rN<|ATodo.ret<|have h:=bz h dm;?_
     cases h
     exact hP J J
    ·refine tK<|ATodo.bU<|tR<|ARun.qv (bh J J) J<|rM J J<|rN<|ATodo.stop<|?_
     cases h
     exact ic _ _ J<|ImpX.lq [0] J J J
  ·refine ATodo.exit J<|have h:=bz h dm;?_
   unfold jo at h
   refine tS<|ATodo.cut (fun aB=>∃ (c6:Bool),kV c6=some r∧aB=⟨50,[(2,.bool c6)],[]⟩) ?_ ?_
   ·refine tR<|rF J J J<|rL J J .p0 J J<|aA J (xM J) cR J<|rM J J<|ARun.guard J J J (fun hc=>?_) (fun hc=>?_)
    ·refine have h:=gr hc h;rF J J J<|rY J J J<|rL J J .p0 J J<|rY J J J<|aA J (xM J) cR J<|rT J J J<|rM J J<|ARun.guard J J J (fun hc=>?_) (fun hc=>?_)
     ·refine have h:=gr hc h;rF J J J<|rY J J J<|rL J J .p0 J J<|rY J J J<|aq h fun v7 e2 h=>aA J (mK e2) cR J<|rT J J J<|rM J J<|ARun.guard J J J (fun hc=>?_) (fun hc=>?_)
      ·rw [Bc hc] at h
       exact rF J J J<|rY J J J<|rL J J .p0 J J<|rY J J J<|ARun.qv (eR J) J<|rY J J J<|ARun.qv (sA J J) J<|rT J J J<|rA J J<|rN<|ATodo.stop<|ImpX.lq [] ⟨decide ((aa.Words.length:Int)≤(100:Int)),h,J⟩ J J
      ·rw [Bd hc] at h
       exact rG J J J J<|rG J J J J<|rG J J J J<|rE J J J<|rA J J<|rN<|ATodo.stop<|ImpX.lq [] ⟨false,h,J⟩ J J
     ·exact have h:=gw hc h;rG J J J J<|rG J J J J<|rE J J J<|rM J J<|rG J J J J<|rG J J J J<|rG J J J J<|rG J J J J<|rE J J J<|rA J J<|rN<|ATodo.stop<|ImpX.lq [] ⟨false,h,J⟩ J J
    ·exact have h:=gw hc h;rG J J J J<|rG J J J J<|rE J J J<|rM J J<|rG J J J J<|rG J J J J<|rG J J J J<|rE J J J<|rM J J<|rG J J J J<|rG J J J J<|rG J J J J<|rG J J J J<|rE J J J<|rA J J<|rN<|ATodo.stop<|ImpX.lq [] ⟨false,h,J⟩ J J
   ·rintro aB ⟨c6,h,rfl⟩
    unfold kV at h
    refine ATodo.ret<|?_
    cases h
    exact hP J J
theorem JS {aa:Query} {r:Int} (h:nL aa=some r):Pu Tryz.prog 234 [.agg [I aa.Kind,.str aa.Field,.str aa.Op,I aa.Value.Kind,.bool aa.Value.bV,I aa.Value.Number,.str aa.Value.Words,I aa.Version.bH,I aa.Version.bI,I aa.Version.bF,oX aa.Kids]] (I r):=by
 unfold nL at h
 refine ACall.aQ Tryz.func234 J Tryz.ntmps234 Tryz.results234 J J ?_
 refine ax<|bO J J J J fun b1=>rA J J<|rN<|ax<|rF J J J<|rL J J .p0 J J<|ARun.qv (bS J J) J<|rA J J<|rN<|tS<|ax<|rF J J J<|rL J J .p0 J J<|rM J J<|aq h fun v2 e1 h=>aA J (EX e1) cR J<|ARun.qv (bt J) J<|rN<|cB h J (fun h=>?_) (fun h=>?_)
 ·refine ax<|rA J J<|rN<|ATodo.ret<|?_
  cases h
  exact hP J J
 ·refine tK<|tS<|ax<|rM J J<|rN<|cD h J (fun h=>?_) (fun h=>?_)
  ·refine ax<|rA J J<|rN<|ATodo.ret<|?_
   cases h
   exact hP J J
  ·refine tK<|tS<|ATodo.cut (fun aB=>∃ (c3:Bool),uH aa c3=some r∧aB=⟨82,[(1,.ptr b1 0),(4,.bool c3)],[(b1,.cells (xi aa))]⟩) ?_ ?_
   ·refine tR<|rF J J J<|rL J J .p0 J J<|ARun.qv (fS J J) J<|rM J J<|ARun.dA J J J (fun hc=>?_) (fun hc=>?_)
    ·rw [zF hc] at h
     exact rF J J J<|rY J J J<|rL J J .p0 J J<|rY J J J<|ARun.qv (fS J J) J<|rE J J J<|rA J J<|rN<|ATodo.stop<|ImpX.lq [0] ⟨decide (aa.Op=([33,61]:ae)),h,J⟩ J J
    ·rw [zE hc] at h
     exact rG J J J J<|rG J J J J<|rT J J J<|rA J J<|rN<|ATodo.stop<|ImpX.lq [0] ⟨true,h,J⟩ J J
   ·rintro aB ⟨c3,h,rfl⟩
    unfold uH at h
    refine tS<|ax<|rF J J J<|rL J J .p0 J J<|ARun.qv (fS J J) J<|rA J J<|rN<|ATodo.block<|tS<|ATodo.ck (id:=8) (A:=[0,0,2,7,15,31]) 6 mixed J (by kernel_rfl) (by kernel_rfl)<|AM.dv J (HO J) cR J<|AM.qv (an J J) J<|AM.qv (az J J .p0 J) J<|aq h fun v4 e2 h=>AM.dv J (ba e2) cR J<|AM.qv (bt J) J<|AM.qv (bM J) J<|AM.nil<|rN<|cB h J (fun h=>?_) (fun h=>?_)
    ·refine ax<|rA J J<|rN<|ATodo.ret<|?_
     cases h
     exact hP J J
    ·refine tS<|ATodo.cut (fun aB=>∃ (c5:Bool),uG aa c3 c5=some r∧aB=⟨82,[(1,.ptr b1 0),(4,.bool c3),(5,.bool (decide (aa.Field=([102,105,114,109,119,97,114,101]:ae)))),(32,.bool c5)],[(b1,.cells (xi aa))]⟩) ?_ ?_
     ·refine tR<|rM J J<|rM J J<|ARun.cA J J J (fun hc=>?_) (fun hc=>?_)
      ·rw [ux hc] at h
       exact rF J J J<|rY J J J<|ARun.qv (aU J J .p0 J J) J<|rY J J J<|ARun.qv (bl J J J J J) J<|rY J J J<|ARun.qv (Aa (g:=a8.av) (X:=aa.Value) (Y:=(⟨(0:Int),false,(0:Int),[]⟩:a8)) J J J J J) J<|rT J J J<|rA J J<|rN<|ATodo.stop<|ImpX.lq [0] ⟨decide (aa.Value≠(⟨(0:Int),false,(0:Int),[]⟩:a8)),h,J⟩ J J
      ·rw [uy hc] at h
       exact rG J J J J<|rG J J J J<|rG J J J J<|rE J J J<|rA J J<|rN<|ATodo.stop<|ImpX.lq [0] ⟨false,h,J⟩ J J
     ·rintro aB ⟨c5,h,rfl⟩
      unfold uG at h
      refine cB h J (fun h=>?_) (fun h=>?_)
      ·refine ax<|rA J J<|rN<|ATodo.ret<|?_
       cases h
       exact hP J J
      ·refine tS<|ATodo.cut (fun aB=>∃ (c6:Bool),uF aa c3 c6=some r∧aB=⟨82,[(1,.ptr b1 0),(4,.bool c3),(5,.bool (decide (aa.Field=([102,105,114,109,119,97,114,101]:ae)))),(40,.bool c6)],[(b1,.cells (xi aa))]⟩) ?_ ?_
       ·refine tR<|rM J J<|rM J J<|ARun.cA J J J (fun hc=>?_) (fun hc=>?_)
        ·rw [ux hc] at h
         exact rF J J J<|rY J J J<|ARun.qv (aU J J .p0 J J) J<|rY J J J<|aA J (w5 J) cR J<|rY J J J<|ARun.qv (bt J) J<|rT J J J<|rA J J<|rN<|ATodo.stop<|ImpX.lq [0] ⟨!(kD aa.Version),h,J⟩ J J
        ·rw [uy hc] at h
         exact rG J J J J<|rG J J J J<|rG J J J J<|rE J J J<|rA J J<|rN<|ATodo.stop<|ImpX.lq [0] ⟨false,h,J⟩ J J
       ·rintro aB ⟨c6,h,rfl⟩
        unfold uF at h
        refine cB h J (fun h=>?_) (fun h=>?_)
        ·refine ax<|rA J J<|rN<|ATodo.ret<|?_
         cases h
         exact hP J J
        ·refine ax<|rM J J<|rA J J<|rN<|cD h J (fun h=>?_) (fun h=>?_)
         ·refine ax<|rA J J<|rN<|ATodo.ret<|?_
          cases h
          exact hP J J
         ·refine tS<|ax<|rF J J J<|ARun.qv (aU J J .p0 J J) J<|ARun.qv (bl J J J J J) J<|ARun.qv (Aa (g:=Version.av) (X:=aa.Version) (Y:=(⟨(0:Int),(0:Int),(0:Int)⟩:Version)) J J J J J) J<|rA J J<|rN<|ATodo.cut (fun aB=>∃ (c7:Bool),pa aa c3 c7=some r∧aB=⟨82,[(1,.ptr b1 0),(4,.bool c3),(50,.bool c7)],[(b1,.cells (xi aa))]⟩) ?_ ?_
          ·refine cD h J (fun h=>?_) (fun h=>?_)
           ·exact tK<|ATodo.stop<|ImpX.lq [0] ⟨decide (aa.Version≠(⟨(0:Int),(0:Int),(0:Int)⟩:Version)),h,J⟩ J J
           ·refine ax<|rF J J J<|ARun.qv (aU J J .p0 J J) J<|aq h fun v8 e3 h=>aA J (yQ e3) cR J<|ARun.qv (bt J) J<|rA J J<|rN<|ATodo.cut (fun aB=>∃ (c9:Bool),r7 aa c3 c9=some r∧aB=⟨82,[(1,.ptr b1 0),(4,.bool c3),(50,.bool c9)],[(b1,.cells (xi aa))]⟩) ?_ ?_
            ·refine cB h J (fun h=>?_) (fun h=>?_)
             ·exact tK<|ATodo.stop<|ImpX.lq [0] ⟨!v8,h,J⟩ J J
             ·exact tR<|rF J J J<|rF J J J<|rL J J .p0 J J<|ARun.qv (bS J J) J<|rA J J<|rN<|ATodo.stop<|ImpX.lq [0] ⟨decide (aa.Value.Kind=(0:Int)),h,J⟩ J J
            ·rintro aB ⟨c9,h,rfl⟩
             unfold r7 at h
             exact ATodo.stop<|ImpX.lq [0] ⟨c9,h,J⟩ J J
          ·rintro aB ⟨c7,h,rfl⟩
           unfold pa at h
           refine cB h J (fun h=>?_) (fun h=>?_)
           ·refine ax<|rA J J<|rN<|ATodo.ret<|?_
            cases h
            exact hP J J
           ·refine tS<|tS<|ATodo.cut (fun aB=>∃ (FR:Bool),o9 aa c3 FR=some r∧aB=⟨82,[(1,.ptr b1 0),(4,.bool c3),(63,.bool FR)],[(b1,.cells (xi aa))]⟩) ?_ ?_
            ·refine tR<|rF J J J<|rF J J J<|rL J J .p0 J J<|ARun.qv (du J J) J<|rM J J<|gT h J J J (fun h=>?_) (fun h=>?_)
             ·exact rF J J J<|rY J J J<|rL J J .p0 J J<|rY J J J<|aq h fun v11 e4 h=>aA J (lZ e4) cR J<|rY J J J<|ARun.qv (bt J) J<|rT J J J<|rA J J<|rN<|ATodo.stop<|ImpX.lq [0] ⟨!v11,h,J⟩ J J
             ·exact rG J J J J<|rG J J J J<|rG J J J J<|rE J J J<|rA J J<|rN<|ATodo.stop<|ImpX.lq [0] ⟨false,h,J⟩ J J
            ·rintro aB ⟨FR,h,rfl⟩
             unfold o9 at h
             refine ATodo.cut (fun aB=>∃ (c12:Bool),o8 c12=some r∧aB=⟨82,[(63,.bool c12)],[]⟩) ?_ ?_
             ·refine cB h J (fun h=>?_) (fun h=>?_)
              ·exact tK<|ATodo.stop<|ImpX.lq [] ⟨FR,h,J⟩ J J
              ·refine ATodo.cut (fun aB=>∃ (Dp:Bool),uE Dp=some r∧aB=⟨82,[(63,.bool Dp)],[]⟩) ?_ ?_
               ·refine tR<|rF J J J<|rF J J J<|rL J J .p0 J J<|ARun.qv (du J J) J<|rM J J<|ARun.cA J J J (fun hc=>?_) (fun hc=>?_)
                ·rw [ux hc] at h
                 exact rM J J<|rY J J J<|ARun.qv (bt J) J<|rT J J J<|rA J J<|rN<|ATodo.stop<|ImpX.lq [] ⟨!c3,h,J⟩ J J
                ·rw [uy hc] at h
                 exact rG J J J J<|rE J J J<|rA J J<|rN<|ATodo.stop<|ImpX.lq [] ⟨false,h,J⟩ J J
               ·rintro aB ⟨Dp,h,rfl⟩
                unfold uE at h
                exact ATodo.stop<|ImpX.lq [] ⟨Dp,h,J⟩ J J
             ·rintro aB ⟨c12,h,rfl⟩
              unfold o8 at h
              refine cB h J (fun h=>?_) (fun h=>?_)
              ·refine ax<|rA J J<|rN<|ATodo.ret<|?_
               cases h
               exact hP J J
              ·refine tK<|ATodo.bU<|ax<|rA J J<|rN<|ATodo.ret<|?_
               cases h
               exact hP J J
theorem DB {self:Query→Option Int} (kP:∀ {aa:Query} {r:Int},self aa=some r→Pu Tryz.prog 152 [.agg [I aa.Kind,.str aa.Field,.str aa.Op,I aa.Value.Kind,.bool aa.Value.bV,I aa.Value.Number,.str aa.Value.Words,I aa.Version.bH,I aa.Version.bI,I aa.Version.bF,oX aa.Kids]] (I r)) {aa:Query} {r:Int} (h:nO self aa=some r):Pu Tryz.prog 152 [.agg [I aa.Kind,.str aa.Field,.str aa.Op,I aa.Value.Kind,.bool aa.Value.bV,I aa.Value.Number,.str aa.Value.Words,I aa.Version.bH,I aa.Version.bI,I aa.Version.bF,oX aa.Kids]] (I r):=by
 unfold nO at h
 refine ACall.aQ Tryz.func152 J Tryz.ntmps152 Tryz.results152 J J ?_
 refine ax<|bO J J J J fun b1=>rA J J<|rN<|tS<|ax<|rF J J J<|rL J J .p0 J J<|aA J (xM J) cR J<|ARun.qv (bt J) J<|rN<|cB h J (fun h=>?_) (fun h=>?_)
 ·refine ax<|rA J J<|rN<|ATodo.ret<|?_
  cases h
  exact hP J J
 ·refine tK<|ax<|rF J J J<|rL J J .p0 J J<|ARun.qv (bD J) J<|rA J J<|rN<|tS<|ATodo.cut (fun aB=>∃ (c2:Bool),pS self aa c2=some r∧aB=⟨98,[(1,.ptr b1 0),(3,I (aa.Kids.length:Int)),(4,.bool c2)],[(b1,.cells (xi aa))]⟩) ?_ ?_
  ·refine tR<|rF J J J<|rL J J .p0 J J<|ARun.qv (bS J J) J<|rM J J<|ARun.dA J J J (fun hc=>?_) (fun hc=>?_)
   ·rw [zF hc] at h
    exact rF J J J<|rY J J J<|rL J J .p0 J J<|rY J J J<|ARun.qv (bS J J) J<|rE J J J<|rA J J<|rN<|ATodo.stop<|ImpX.lq [0] ⟨decide (aa.Kind=(5:Int)),h,J⟩ J J
   ·rw [zE hc] at h
    exact rG J J J J<|rG J J J J<|rT J J J<|rA J J<|rN<|ATodo.stop<|ImpX.lq [0] ⟨true,h,J⟩ J J
  ·rintro aB ⟨c2,h,rfl⟩
   unfold pS at h
   refine tS<|ATodo.block<|tS<|tS<|ATodo.cut (fun aB=>∃ (c3:Bool),tx self aa c2 c3=some r∧aB=⟨98,[(1,.ptr b1 0),(3,I (aa.Kids.length:Int)),(4,.bool c2),(23,.bool c3)],[(b1,.cells (xi aa))]⟩) ?_ ?_
   ·refine tR<|rF J J J<|rL J J .p0 J J<|ARun.qv (sA J J) J<|rM J J<|ARun.cA J J J (fun hc=>?_) (fun hc=>?_)
    ·rw [ux hc] at h
     exact rM J J<|rY J J J<|ARun.qv (dJ J J) J<|rT J J J<|rA J J<|rN<|ATodo.stop<|ImpX.lq [0] ⟨decide ((0:Int) < (aa.Kids.length:Int)),h,J⟩ J J
    ·rw [uy hc] at h
     exact rG J J J J<|rE J J J<|rA J J<|rN<|ATodo.stop<|ImpX.lq [0] ⟨false,h,J⟩ J J
   ·rintro aB ⟨c3,h,rfl⟩
    unfold tx at h
    refine ATodo.cut (fun aB=>∃ (c4:Bool),nN self aa c2 c4=some r∧aB=⟨98,[(1,.ptr b1 0),(4,.bool c2),(23,.bool c4)],[(b1,.cells (xi aa))]⟩) ?_ ?_
    ·refine cB h J (fun h=>?_) (fun h=>?_)
     ·exact tK<|ATodo.stop<|ImpX.lq [0] ⟨c3,h,J⟩ J J
     ·refine tS<|ATodo.cut (fun aB=>∃ (c5:Bool),tw self aa c2 c5=some r∧aB=⟨98,[(1,.ptr b1 0),(3,I (aa.Kids.length:Int)),(4,.bool c2),(23,.bool c5)],[(b1,.cells (xi aa))]⟩) ?_ ?_
      ·refine tR<|rF J J J<|rL J J .p0 J J<|ARun.qv (bS J J) J<|rM J J<|ARun.cA J J J (fun hc=>?_) (fun hc=>?_)
       ·rw [ux hc] at h
        exact rM J J<|rY J J J<|ARun.qv (du J J) J<|rT J J J<|rA J J<|rN<|ATodo.stop<|ImpX.lq [0] ⟨decide ((aa.Kids.length:Int)≠(1:Int)),h,J⟩ J J
       ·rw [uy hc] at h
        exact rG J J J J<|rE J J J<|rA J J<|rN<|ATodo.stop<|ImpX.lq [0] ⟨false,h,J⟩ J J
      ·rintro aB ⟨c5,h,rfl⟩
       unfold tw at h
       refine ATodo.cut (fun aB=>∃ (c6:Bool),pR self aa c2 c6=some r∧aB=⟨98,[(1,.ptr b1 0),(4,.bool c2),(23,.bool c6)],[(b1,.cells (xi aa))]⟩) ?_ ?_
       ·refine cB h J (fun h=>?_) (fun h=>?_)
        ·exact tK<|ATodo.stop<|ImpX.lq [0] ⟨c5,h,J⟩ J J
        ·refine ATodo.cut (fun aB=>∃ (c7:Bool),tv self aa c2 c7=some r∧aB=⟨98,[(1,.ptr b1 0),(4,.bool c2),(23,.bool c7)],[(b1,.cells (xi aa))]⟩) ?_ ?_
         ·refine tR<|rM J J<|rM J J<|ARun.guard J J J (fun hc=>?_) (fun hc=>?_)
          ·rw [Bc hc] at h
           exact rM J J<|rY J J J<|ARun.qv (bu J J) J<|rT J J J<|rA J J<|rN<|ATodo.stop<|ImpX.lq [0] ⟨decide ((aa.Kids.length:Int) < (2:Int)),h,J⟩ J J
          ·rw [Bd hc] at h
           exact rG J J J J<|rE J J J<|rA J J<|rN<|ATodo.stop<|ImpX.lq [0] ⟨false,h,J⟩ J J
         ·rintro aB ⟨c7,h,rfl⟩
          unfold tv at h
          exact ATodo.stop<|ImpX.lq [0] ⟨c7,h,J⟩ J J
       ·rintro aB ⟨c6,h,rfl⟩
        unfold pR at h
        exact ATodo.stop<|ImpX.lq [0] ⟨c6,h,J⟩ J J
    ·rintro aB ⟨c4,h,rfl⟩
     unfold nN at h
     refine cB h J (fun h=>?_) (fun h=>?_)
     ·refine ax<|rA J J<|rN<|ATodo.ret<|?_
      cases h
      exact hP J J
     ·refine tS<|ATodo.cut (fun aB=>∃ (c8:Bool),jL self aa c8=some r∧aB=⟨98,[(1,.ptr b1 0),(43,.bool c8)],[(b1,.cells (xi aa))]⟩) ?_ ?_
      ·refine tR<|rM J J<|rM J J<|ARun.guard J J J (fun hc=>?_) (fun hc=>?_)
       ·exact have h:=gr hc h;rF J J J<|rY J J J<|rL J J .p0 J J<|rY J J J<|ARun.qv (fI J) J<|rY J J J<|aq h fun v9 e1 h=>dc J (gu (fun e=>Dz (Option.some.inj e)) e1) (.cons (.co (.refl _)) (.cons (.uX _ _ _ (.cons (.wo _ _ _ .p0 (.cons (.co (.refl _)) (.cons (.co (.refl _)) (.cons (.co (.refl _)) (.cons (.co (.refl _)) (.cons (.co (.refl _)) (.cons (.co (.refl _)) (.cons (.co (.refl _)) (.cons (.co (.refl _)) (.cons (.co (.refl _)) (.cons (.co (.refl _)) (.cons (.co (.refl _)) .nil)))))))))))) .nil)) .nil)) J J<|rT J J J<|rA J J<|rN<|ATodo.stop<|ImpX.lq [0] ⟨v9,h,J⟩ J J
       ·exact have h:=gw hc h;rG J J J J<|rG J J J J<|rG J J J J<|rE J J J<|rA J J<|rN<|ATodo.stop<|ImpX.lq [0] ⟨false,h,J⟩ J J
      ·rintro aB ⟨c8,h,rfl⟩
       unfold jL at h
       refine cB h J (fun h=>?_) (fun h=>?_)
       ·refine ax<|rA J J<|rN<|ATodo.ret<|?_
        cases h
        exact hP J J
       ·refine tS<|tS<|ATodo.cut (fun aB=>∃ (FR:Bool),pQ self aa FR=some r∧aB=⟨98,[(1,.ptr b1 0),(51,.bool FR)],[(b1,.cells (xi aa))]⟩) ?_ ?_
        ·refine tR<|rF J J J<|rL J J .p0 J J<|ARun.qv (du J J) J<|rM J J<|ARun.cA J J J (fun hc=>?_) (fun hc=>?_)
         ·rw [ux hc] at h
          refine rF J J J<|rY J J J<|rL J J .p0 J J<|rY J J J<|ARun.qv (qD J J) J<|rY J J J<|rM J J<|ARun.dA J J J (fun hc=>?_) (fun hc=>?_)
          ·rw [zF hc] at h
           refine rF J J J<|rY J J J<|ARun.qv (aU J J .p0 J J) J<|rY J J J<|ARun.qv (bl J J J J J) J<|rY J J J<|ARun.qv (Aa (g:=a8.av) (X:=aa.Value) (Y:=(⟨(0:Int),false,(0:Int),[]⟩:a8)) J J J J J) J<|rY J J J<|rE J J J<|rY J J J<|rM J J<|ARun.dA J J J (fun hc=>?_) (fun hc=>?_)
           ·rw [zF hc] at h
            exact rF J J J<|rY J J J<|ARun.qv (aU J J .p0 J J) J<|rY J J J<|ARun.qv (bl J J J J J) J<|rY J J J<|ARun.qv (Aa (g:=Version.av) (X:=aa.Version) (Y:=(⟨(0:Int),(0:Int),(0:Int)⟩:Version)) J J J J J) J<|rY J J J<|rE J J J<|rT J J J<|rA J J<|rN<|ATodo.stop<|ImpX.lq [0] ⟨decide (aa.Version≠(⟨(0:Int),(0:Int),(0:Int)⟩:Version)),h,J⟩ J J
           ·rw [zE hc] at h
            exact rG J J J J<|rG J J J J<|rG J J J J<|rY J J J<|rT J J J<|rT J J J<|rA J J<|rN<|ATodo.stop<|ImpX.lq [0] ⟨true,h,J⟩ J J
          ·rw [zE hc] at h
           exact rG J J J J<|rG J J J J<|rG J J J J<|rY J J J<|rT J J J<|rY J J J<|rM J J<|rG J J J J<|rG J J J J<|rG J J J J<|rG J J J J<|rY J J J<|rT J J J<|rT J J J<|rA J J<|rN<|ATodo.stop<|ImpX.lq [0] ⟨true,h,J⟩ J J
         ·rw [uy hc] at h
          exact rG J J J J<|rG J J J J<|rG J J J J<|ARun.bK J J J<|ARun.bK J J J<|ARun.bK J J J<|ARun.bK J J J<|rG J J J J<|rG J J J J<|ARun.bK J J J<|ARun.bK J J J<|ARun.bK J J J<|ARun.bK J J J<|rG J J J J<|rE J J J<|rA J J<|rN<|ATodo.stop<|ImpX.lq [0] ⟨false,h,J⟩ J J
        ·rintro aB ⟨FR,h,rfl⟩
         unfold pQ at h
         refine ATodo.cut (fun aB=>∃ (EK:Bool),nM self aa EK=some r∧aB=⟨98,[(1,.ptr b1 0),(51,.bool EK)],[(b1,.cells (xi aa))]⟩) ?_ ?_
         ·refine cB h J (fun h=>?_) (fun h=>?_)
          ·exact tK<|ATodo.stop<|ImpX.lq [0] ⟨FR,h,J⟩ J J
          ·refine ATodo.cut (fun aB=>∃ (c12:Bool),r8 self aa c12=some r∧aB=⟨98,[(1,.ptr b1 0),(51,.bool c12)],[(b1,.cells (xi aa))]⟩) ?_ ?_
           ·refine tR<|rF J J J<|rL J J .p0 J J<|ARun.qv (dJ J J) J<|rM J J<|ARun.cA J J J (fun hc=>?_) (fun hc=>?_)
            ·rw [ux hc] at h
             exact rF J J J<|rY J J J<|rL J J .p0 J J<|rY J J J<|ARun.qv (qD J J) J<|rT J J J<|rA J J<|rN<|ATodo.stop<|ImpX.lq [0] ⟨decide (aa.Field≠([]:ae)),h,J⟩ J J
            ·rw [uy hc] at h
             exact rG J J J J<|rG J J J J<|rE J J J<|rA J J<|rN<|ATodo.stop<|ImpX.lq [0] ⟨false,h,J⟩ J J
           ·rintro aB ⟨c12,h,rfl⟩
            unfold r8 at h
            exact ATodo.stop<|ImpX.lq [0] ⟨c12,h,J⟩ J J
         ·rintro aB ⟨EK,h,rfl⟩
          unfold nM at h
          refine cB h J (fun h=>?_) (fun h=>?_)
          ·refine ax<|rA J J<|rN<|ATodo.ret<|?_
           cases h
           exact hP J J
          ·refine tK<|ATodo.bU<|tS<|ax<|rF J J J<|rL J J .p0 J J<|ARun.qv (sA J J) J<|rN<|cD h J (fun h=>?_) (fun h=>?_)
           ·refine ax<|ARun.qv (ao J J .p0 J) J<|aq h fun mb e2 h=>aA J (JS e2) cR J<|rA J J<|rN<|ATodo.ret<|?_
            cases h
            exact hP J J
           ·refine tK<|tS<|ax<|rF J J J<|rL J J .p0 J J<|ARun.qv (bD J) J<|rM J J<|rN<|ATodo.block<|ATodo.bT (fun x:Int=>iM self aa x) (fun x aB=>aB=⟨98,[(86,oX aa.Kids),(87,I (aa.Kids.length:Int)),(88,I x)],[]⟩) h ?_ ?_
            ·exact ImpX.lq [] J J J
            ·intro n15 z1 aB J1 dB h ic dm
             obtain rfl:=dB
             replace h:iM self aa n15=some z1:=h
             unfold iM at h
             refine ax<|ARun.qv (bu J J) J<|rN<|tS<|cD h J (fun h=>?_) (fun h=>?_)
             ·refine tK<|tS<|ATodo.block<|ax<|aq h fun dU e3 h=>ARun.qv (aP J J J e3 J (by rw [Query.tN];rfl)) J<|ARun.qv (aH J J J) J<|bn J J J J fun wz=>au J J J J .p0 J J<|rN<|ax<|ARun.qv (ao J J .p0 J) J<|aq h fun fH e4 h=>aA J (kP e4) cR J<|rA J J<|rN<|ax<|rM J J<|ARun.qv (du J J) J<|rN<|cD h J (fun h=>?_) (fun h=>?_)
              ·refine ax<|rM J J<|rA J J<|rN<|ATodo.ret<|have h:=bz h dm;?_
               cases h
               exact hP J J
              ·refine tK<|ATodo.bU<|tR<|ARun.qv (bh J J) J<|rM J J<|rN<|ATodo.stop<|?_
               cases h
               exact ic _ _ J<|ImpX.lq [] J J J
             ·refine ATodo.exit J<|have h:=bz h dm;ax<|rA J J<|rN<|ATodo.ret<|?_
              cases h
              exact hP J J
theorem EY:∀ (k:Nat) {aa:Query} {r:Int},jB k aa=some r→Pu Tryz.prog 152 [.agg [I aa.Kind,.str aa.Field,.str aa.Op,I aa.Value.Kind,.bool aa.Value.bV,I aa.Value.Number,.str aa.Value.Words,I aa.Version.bH,I aa.Version.bI,I aa.Version.bF,oX aa.Kids]] (I r):=by
 intro k
 induction k with
 | zero=>intro aa r h;cases h
 | succ k ih=>intro aa r h;exact DB ih h
theorem H3 {aa:Query} {r:Int} (h:AI aa=some r):Pu Tryz.prog 152 [.agg [I aa.Kind,.str aa.Field,.str aa.Op,I aa.Value.Kind,.bool aa.Value.bV,I aa.Value.Number,.str aa.Value.Words,I aa.Version.bH,I aa.Version.bI,I aa.Version.bF,oX aa.Kids]] (I r):=EY depth h
theorem EZ {aa:Query} {r:Int} (h:r9 aa=some r):Pu Tryz.prog 72 [.agg [I aa.Kind,.str aa.Field,.str aa.Op,I aa.Value.Kind,.bool aa.Value.bV,I aa.Value.Number,.str aa.Value.Words,I aa.Version.bH,I aa.Version.bI,I aa.Version.bF,oX aa.Kids]] (I r):=by
 unfold r9 at h
 refine ACall.aQ Tryz.func72 J Tryz.ntmps72 Tryz.results72 J J ?_
 refine ax<|bO J J J J fun b1=>rA J J<|rN<|tS<|tS<|ATodo.cut (fun aB=>∃ (c2:Bool),ny aa c2=some r∧aB=⟨14,[(1,.ptr b1 0),(11,.bool c2)],[(b1,.cells (xi aa))]⟩) ?_ ?_
 ·refine tR<|ARun.qv (ao J J .p0 J) J<|aq h fun v3 e1 h=>eE J (LB e1) cR .nil (fun _=>J) J fun b4=>ARun.qv (iO J) J<|ARun.qv (dJ J J) J<|rM J J<|gF h J J J (fun h=>?_) (fun h=>?_)
  ·exact ARun.qv (ao J J .p1 J) J<|rY J J J<|aq h fun v5 e2 h=>aA J (Qg e2) cR J<|rY J J J<|ARun.qv (dJ J J) J<|rE J J J<|rN<|ATodo.stop<|ImpX.lq [1] ⟨decide ((20:Int) < v5),h,J⟩ J J
  ·exact rG J J J J<|rG J J J J<|rT J J J<|rN<|ATodo.stop<|ImpX.lq [1] ⟨true,h,J⟩ J J
 ·rintro aB ⟨c2,h,rfl⟩
  unfold ny at h
  refine cB h J (fun h=>?_) (fun h=>?_)
  ·refine ax<|rA J J<|rN<|ATodo.ret<|?_
   cases h
   exact hP J J
  ·refine tK<|ax<|ARun.qv (ao J J .p0 J) J<|aq h fun v6 e3 h=>aA J (H3 e3) cR J<|rA J J<|rN<|ATodo.ret<|?_
   cases h
   exact hP J J
theorem DC [GI:bc] {aa:oC} {r:Int} (h:nP aa=r):Pu Tryz.prog 74 [oC.av aa] (I r):=by
 unfold nP at h
 refine ACall.aQ Tryz.func74 J Tryz.ntmps74 Tryz.results74 J J ?_
 refine ax<|bO J J J J fun b1=>rA J J<|rN<|tS<|tS<|ATodo.cut (fun aB=>∃ (c2:Bool),pb c2=r∧aB=⟨14,[(13,.bool c2)],[]⟩) ?_ ?_
 ·refine tR<|rF J J J<|rL J J .p0 J J<|rF J J J<|rL J J .p0 J J<|aA J (xM J) cR J<|ARun.qv (bt J) J<|rM J J<|ARun.guard J J J (fun hc=>?_) (fun hc=>?_)
  ·rw [FJ hc] at h
   exact rF J J J<|rY J J J<|rL J J .p0 J J<|rY J J J<|ARun.qv (dJ J J) J<|rE J J J<|rN<|ATodo.stop<|ImpX.lq [] ⟨decide ((345686400000:Int) < aa.To),h,J⟩ J J
  ·rw [FI hc] at h
   exact rG J J J J<|rG J J J J<|rT J J J<|rN<|ATodo.stop<|ImpX.lq [] ⟨true,h,J⟩ J J
 ·rintro aB ⟨c2,h,rfl⟩
  unfold pb at h
  refine cB h J (fun h=>?_) (fun h=>?_)
  ·refine ax<|rA J J<|rN<|ATodo.ret<|?_
   obtain rfl:=h
   exact hP J J
  ·refine tK<|ax<|rA J J<|rN<|ATodo.ret<|?_
   obtain rfl:=h
   exact hP J J
theorem oZ [GI:bc] {aa:List Int} {r:Int} (h:gQ aa=some r):Pu Tryz.prog 21 [cz aa] (I r):=by
 unfold gQ at h
 refine ACall.aQ Tryz.func21 J Tryz.ntmps21 Tryz.results21 J J ?_
 refine ax<|rA J J<|rN<|ax<|rA J J<|rN<|tS<|ax<|rM J J<|ARun.qv (bD J) J<|rM J J<|rN<|ATodo.block<|ATodo.bT (fun x:Int=>qk aa x) (fun x aB=>aB=⟨18,[(3,I (0:Int)),(6,cz aa),(7,I (aa.length:Int)),(8,I x)],[]⟩) h ?_ ?_
 ·exact ImpX.lq [] J J J
 ·intro n2 z1 aB J1 dB h ic dm
  obtain rfl:=dB
  replace h:qk aa n2=some z1:=h
  unfold qk at h
  refine ax<|ARun.qv (bu J J) J<|rN<|tS<|cD h J (fun h=>?_) (fun h=>?_)
  ·refine tK<|tS<|ATodo.block<|ax<|aq h fun v3 e1 h=>ARun.qv (aP J J J e1 J J) J<|ARun.qv (aG J J J) J<|rA J J<|rN<|ax<|rM J J<|rM J J<|ARun.qv (du J J) J<|rN<|cD h J (fun h=>?_) (fun h=>?_)
   ·refine ax<|rM J J<|rA J J<|rN<|ATodo.ret<|have h:=bz h dm;?_
    cases h
    exact hP J J
   ·refine tK<|ATodo.bU<|tR<|ARun.qv (bh J J) J<|rM J J<|rN<|ATodo.stop<|?_
    cases h
    exact ic _ _ J<|ImpX.lq [] J J J
  ·refine ATodo.exit J<|have h:=bz h dm;ax<|rM J J<|rA J J<|rN<|ATodo.ret<|?_
   cases h
   exact hP J J
theorem H4 {aa:bb} {r:Int} (h:vf aa=some r):Pu Tryz.prog 15 [bb.av aa] (I r):=by
 unfold vf at h
 refine ACall.aQ Tryz.func15 J Tryz.ntmps15 Tryz.results15 J J ?_
 refine ax<|bO J J J J fun b1=>rA J J<|rN<|tS<|ax<|ARun.qv (ao J J .p0 J) J<|aq h fun v2 e1 h=>aA J (Cw e1) cR J<|rA J J<|rN<|ax<|rM J J<|ARun.qv (du J J) J<|rN<|cD h J (fun h=>?_) (fun h=>?_)
 ·refine ax<|rM J J<|rA J J<|rN<|ATodo.ret<|?_
  cases h
  exact hP J J
 ·refine tK<|tS<|ax<|ARun.qv (ao J J .p0 J) J<|aq h fun v3 e2 h=>aA J (EW e2) cR J<|rA J J<|rN<|ax<|rM J J<|ARun.qv (du J J) J<|rN<|cD h J (fun h=>?_) (fun h=>?_)
  ·refine ax<|rM J J<|rA J J<|rN<|ATodo.ret<|?_
   cases h
   exact hP J J
  ·refine tK<|tS<|ax<|rF J J J<|rL J J .p0 J J<|ARun.qv (bD J) J<|ARun.qv (dJ J J) J<|rN<|cD h J (fun h=>?_) (fun h=>?_)
   ·refine ax<|rA J J<|rN<|ATodo.ret<|?_
    cases h
    exact hP J J
   ·refine tK<|tS<|ax<|rF J J J<|rL J J .p0 J J<|ARun.qv (bD J) J<|rM J J<|rN<|ATodo.block<|ATodo.bT (fun x:Int=>pT aa x) (fun x aB=>aB=⟨95,[(1,.ptr b1 0),(23,xZ aa.aI),(24,I (aa.aI.length:Int)),(25,I x)],[(b1,.cells (xj aa))]⟩) h ?_ ?_
    ·exact ImpX.lq [0] J J J
    ·intro n5 z1 aB J1 dB h ic dm
     obtain rfl:=dB
     replace h:pT aa n5=some z1:=h
     unfold pT at h
     refine ax<|ARun.qv (bu J J) J<|rN<|tS<|cD h J (fun h=>?_) (fun h=>?_)
     ·refine tK<|tS<|ATodo.block<|ax<|rM J J<|aq h fun v6 e3 h=>ARun.qv (aP J J J e3 J J) J<|ARun.qv (aH J J J) J<|bn J J J J fun b7=>rA J J<|au J J J J .p0 J J<|rN<|tS<|ATodo.block<|ax<|rF J J J<|rL J J .p0 J J<|aq h fun v8 e4 h=>aA J (pf e4) cR J<|ARun.qv (bt J) J<|rA J J<|rN<|cB h J (fun h=>?_) (fun h=>?_)
      ·refine ax<|rA J J<|rN<|ATodo.ret<|have h:=bz h dm;?_
       cases h
       exact hP J J
      ·refine tS<|ATodo.cut (fun aB=>∃ (c9:Bool),nQ aa n5 v6 c9=some z1∧aB=⟨95,[(1,.ptr b1 0),(6,.ptr b7 0),(23,xZ aa.aI),(24,I (aa.aI.length:Int)),(25,I n5),(35,.bool c9)],[(b1,.cells (xj aa)),(b7,.cells (Rv v6))]⟩) ?_ ?_
       ·refine ATodo.ck (id:=14) (A:=[0,1,3,7,15,7,39,7,135,487,999,2023,4095,8191,16383]) 15 mixed J (by kernel_rfl) (by kernel_rfl)<|AM.qv (aL J) J<|AM.qv (dJ J J) J<|AM.qv (aL J) J<|AM.cA J J J (fun hc=>?_) (fun hc=>?_)
        ·exact have h:=gr hc h;AM.qv (an J J) J<|AM.aj J J J<|AM.qv (az J J .p0 J) J<|AM.aj J J J<|AM.qv (an J J) J<|AM.aj J J J<|AM.qv (az J J .p1 J) J<|AM.aj J J J<|AM.qv (aL J) J<|AM.aj J J J<|AM.qv (gq J J) J<|AM.aj J J J<|aq h fun v10 e5 h=>AM.qv (aP J J J e5 J J) J<|AM.aj J J J<|AM.qv (bJ J J) J<|AM.aj J J J<|AM.qv (aG J J J) J<|AM.aj J J J<|AM.qv (rk J J) J<|AM.qv (cJ J J) J<|AM.qv (bM J) J<|AM.nil<|rN<|ATodo.stop<|ImpX.lq [1,0] ⟨Op.bytesLess v6.Key v10.Key||v6.Key==v10.Key,h,J⟩ J J
        ·exact have h:=wq hc h;AM.ai J J J J<|AM.ai J J J J<|AM.ai J J J J<|AM.ai J J J J<|AM.ai J J J J<|AM.ai J J J J<|AM.ai J J J J<|AM.ai J J J J<|AM.ai J J J J<|AM.qv (eD J J) J<|AM.qv (bM J) J<|AM.nil<|rN<|ATodo.stop<|ImpX.lq [1,0] ⟨false,h,J⟩ J J
       ·rintro aB ⟨c9,h,rfl⟩
        unfold nQ at h
        refine cB h J (fun h=>?_) (fun h=>?_)
        ·refine ax<|rA J J<|rN<|ATodo.ret<|have h:=bz h dm;?_
         cases h
         exact hP J J
        ·refine tS<|ATodo.cut (fun aB=>∃ (EK:Bool),lQ aa n5 v6 EK=some z1∧aB=⟨95,[(1,.ptr b1 0),(6,.ptr b7 0),(23,xZ aa.aI),(24,I (aa.aI.length:Int)),(25,I n5),(50,.bool EK)],[(b1,.cells (xj aa)),(b7,.cells (Rv v6))]⟩) ?_ ?_
         ·refine tR<|ARun.qv (ao J J .p0 J) J<|rF J J J<|rL J J .p1 J J<|aq h fun v12 e6 h=>aA J (jF e6) cR J<|ARun.qv (bu J J) J<|rM J J<|gF h J J J (fun h=>?_) (fun h=>?_)
          ·exact ARun.qv (ao J J .p0 J) J<|rY J J J<|rF J J J<|rY J J J<|rL J J .p1 J J<|rY J J J<|aq h fun mb e7 h=>aA J (jF e7) cR J<|rY J J J<|ARun.qv (bu J J) J<|rE J J J<|rA J J<|rN<|ATodo.stop<|ImpX.lq [0,0] ⟨decide (mb < (0:Int)),h,J⟩ J J
          ·exact rG J J J J<|rG J J J J<|rG J J J J<|rG J J J J<|rT J J J<|rA J J<|rN<|ATodo.stop<|ImpX.lq [0,0] ⟨true,h,J⟩ J J
         ·rintro aB ⟨EK,h,rfl⟩
          unfold lQ at h
          refine cB h J (fun h=>?_) (fun h=>?_)
          ·refine ax<|rA J J<|rN<|ATodo.ret<|have h:=bz h dm;?_
           cases h
           exact hP J J
          ·refine tS<|ATodo.cut (fun aB=>∃ (EL:Bool),lP n5 v6 EL=some z1∧aB=⟨95,[(1,.ptr b1 0),(6,.ptr b7 0),(23,xZ aa.aI),(24,I (aa.aI.length:Int)),(25,I n5),(63,.bool EL)],[(b1,.cells (xj aa)),(b7,.cells (Rv v6))]⟩) ?_ ?_
           ·refine ATodo.ck (id:=18) (A:=[0,0,2,7,0,16,63,127,255,255,767,2047,255,4351,16383,32767,65535]) 17 mixed J (by kernel_rfl) (by kernel_rfl)<|AM.qv (ao J J .p0 J) J<|AM.qv (an J J) J<|AM.qv (az J J .p1 J) J<|aq h fun FO e8 h=>AM.dv J (vw e8) cR J<|AM.qv (an J J) J<|AM.qv (az J J .p1 J) J<|aq h fun dU e9 h=>AM.dv J (ba e9) cR J<|AM.qv (aL J) J<|AM.guard J J J (fun hc=>?_) (fun hc=>?_)
            ·exact have h:=gw hc h;AM.qv (ao J J .p0 J) J<|AM.aj J J J<|AM.qv (an J J) J<|AM.aj J J J<|AM.qv (az J J .p1 J) J<|AM.aj J J J<|aq h fun v17 zM h=>AM.dv J (vw zM) cR J<|AM.aj J J J<|AM.qv (an J J) J<|AM.aj J J J<|AM.qv (az J J .p1 J) J<|AM.aj J J J<|aq h fun fH AZ h=>AM.dv J (ba AZ) cR J<|AM.qv (eD J J) J<|AM.qv (bM J) J<|AM.nil<|rN<|ATodo.stop<|ImpX.lq [0,0] ⟨fH,h,J⟩ J J
            ·exact have h:=gr hc h;AM.ai J J J J<|AM.ai J J J J<|AM.ai J J J J<|AM.ai J J J J<|AM.ai J J J J<|AM.ai J J J J<|AM.qv (cJ J J) J<|AM.qv (bM J) J<|AM.nil<|rN<|ATodo.stop<|ImpX.lq [0,0] ⟨true,h,J⟩ J J
           ·rintro aB ⟨EL,h,rfl⟩
            unfold lP at h
            refine cB h J (fun h=>?_) (fun h=>?_)
            ·refine ax<|rA J J<|rN<|ATodo.ret<|have h:=bz h dm;?_
             cases h
             exact hP J J
            ·refine tK<|ATodo.bU<|tS<|ATodo.ck (id:=20) (A:=[0,1,3,0,8,31,0,64,255,511,1023,2047]) 12 mixed J (by kernel_rfl) (by kernel_rfl)<|AM.qv (an J J) J<|AM.qv (aU J J .p1 J J) J<|aq h fun dI FX h=>AM.dv J (EZ FX) cR J<|AM.qv (an J J) J<|AM.qv (az J J .p1 J) J<|aq h fun v20 FY h=>AM.dv J (BL FY) cR J<|AM.qv (an J J) J<|AM.qv (aU J J .p1 J J) J<|AM.dv J (DC J) cR J<|AM.aY (xs:=([dI,v20,(nP v6.Time)]:List Int).map I) J J J J J J<|aq h fun v21 P6 h=>AM.dv J (oZ P6) cR J<|AM.qv (bM J) J<|AM.nil<|rN<|ax<|rM J J<|ARun.qv (du J J) J<|rN<|cD h J (fun h=>?_) (fun h=>?_)
             ·refine ax<|rM J J<|rA J J<|rN<|ATodo.ret<|have h:=bz h dm;?_
              cases h
              exact hP J J
             ·refine tK<|ATodo.bU<|tR<|ARun.qv (bh J J) J<|rM J J<|rN<|ATodo.stop<|?_
              cases h
              exact ic _ _ J<|ImpX.lq [0] J J J
     ·refine ATodo.exit J<|have h:=bz h dm;ax<|rA J J<|rN<|ATodo.ret<|?_
      cases h
      exact hP J J
theorem H5 {aa:ae} {r:Int} (h:vg aa=some r):Pu Tryz.prog 16 [.str aa] (I r):=by
 unfold vg at h
 refine ACall.aQ Tryz.func16 J Tryz.ntmps16 Tryz.results16 J J ?_
 refine ax<|rA J J<|rN<|tS<|ax<|rM J J<|aq h fun v1 e1 h=>aA J (pf e1) cR J<|ARun.qv (bt J) J<|rN<|cB h J (fun h=>?_) (fun h=>?_)
 ·refine ax<|rA J J<|rN<|ATodo.ret<|?_
  cases h
  exact hP J J
 ·refine tK<|ax<|rA J J<|rN<|ATodo.ret<|?_
  cases h
  exact hP J J
theorem H6 {aa:ae} {r:Int} (h:vh aa=some r):Pu Tryz.prog 17 [.str aa] (I r):=by
 unfold vh at h
 refine ACall.aQ Tryz.func17 J Tryz.ntmps17 Tryz.results17 J J ?_
 refine ax<|rA J J<|rN<|tS<|ax<|rM J J<|aq h fun v1 e1 h=>aA J (BK e1) cR J<|ARun.qv (bt J) J<|rN<|cB h J (fun h=>?_) (fun h=>?_)
 ·refine ax<|rA J J<|rN<|ATodo.ret<|?_
  cases h
  exact hP J J
 ·refine tK<|ax<|rA J J<|rN<|ATodo.ret<|?_
  cases h
  exact hP J J
theorem DD [GI:bc] {aa:Int} {r:Int} (h:cF aa=r):Pu Tryz.prog 18 [I aa] (I r):=by
 unfold cF at h
 refine ACall.aQ Tryz.func18 J Tryz.ntmps18 Tryz.results18 J J ?_
 refine ax<|rA J J<|rN<|tS<|ax<|rM J J<|aA J (xM J) cR J<|ARun.qv (bt J) J<|rN<|cB h J (fun h=>?_) (fun h=>?_)
 ·refine ax<|rA J J<|rN<|ATodo.ret<|?_
  obtain rfl:=h
  exact hP J J
 ·refine tK<|ax<|rA J J<|rN<|ATodo.ret<|?_
  obtain rfl:=h
  exact hP J J
theorem N4 {aa:ae} {r:Bool} (h:Bu aa=some r):Pu Tryz.prog 78 [.str aa] (.bool r):=by
 unfold Bu at h
 refine ACall.aQ Tryz.func78 J Tryz.ntmps78 Tryz.results78 J J ?_
 refine ax<|rA J J<|rN<|tS<|ax<|rM J J<|NO J J<|ARun.qv (bD J) J<|rM J J<|rN<|ATodo.block<|ATodo.bT (fun x:Int=>mO aa x) (fun x aB=>aB=⟨32,[(0,.str aa),(6,Yq (mJ aa)),(7,I ((mJ aa).length:Int)),(8,I x)],[]⟩) h ?_ ?_
 ·exact ImpX.lq [] J J J
 ·intro n2 z1 aB J1 dB h ic dm
  obtain rfl:=dB
  replace h:mO aa n2=some z1:=h
  unfold mO at h
  refine ax<|ARun.qv (bu J J) J<|rN<|tS<|cD h J (fun h=>?_) (fun h=>?_)
  ·refine tK<|tS<|ATodo.block<|ax<|aq h fun v3 e1 h=>ARun.qv (aP J J J e1 J J) J<|ARun.qv (aG J J J) J<|rA J J<|rN<|tS<|ATodo.cut (fun aB=>∃ (c4:Bool),xC n2 c4=some z1∧aB=⟨32,[(0,.str aa),(6,Yq (mJ aa)),(7,I ((mJ aa).length:Int)),(8,I n2),(17,.bool c4)],[]⟩) ?_ ?_
   ·refine tR<|rM J J<|ARun.qv (bu J J) J<|rM J J<|ARun.dA J J J (fun hc=>?_) (fun hc=>?_)
    ·rw [zF hc] at h
     exact rM J J<|rY J J J<|ARun.qv (bS J J) J<|rE J J J<|rN<|ATodo.stop<|ImpX.lq [] ⟨decide (v3=(127:Int)),h,J⟩ J J
    ·rw [zE hc] at h
     exact rG J J J J<|rT J J J<|rN<|ATodo.stop<|ImpX.lq [] ⟨true,h,J⟩ J J
   ·rintro aB ⟨c4,h,rfl⟩
    unfold xC at h
    refine cB h J (fun h=>?_) (fun h=>?_)
    ·refine ax<|rA J J<|rN<|ATodo.ret<|have h:=bz h dm;?_
     cases h
     exact hP J J
    ·refine tK<|ATodo.bU<|tR<|ARun.qv (bh J J) J<|rM J J<|rN<|ATodo.stop<|?_
     cases h
     exact ic _ _ J<|ImpX.lq [] J J J
  ·refine ATodo.exit J<|have h:=bz h dm;?_
   unfold xD at h
   refine tS<|ATodo.cut (fun aB=>∃ (c5:Bool),sM c5=some r∧aB=⟨32,[(2,.bool c5)],[]⟩) ?_ ?_
   ·refine tR<|rM J J<|aq h fun v6 e2 h=>aA J (mK e2) cR J<|rM J J<|ARun.guard J J J (fun hc=>?_) (fun hc=>?_)
    ·refine have h:=gr hc h;rM J J<|rY J J J<|rM J J<|rY J J J<|aq h fun v7 e3 h=>aA J (yD e3) cR J<|rY J J J<|ARun.qv (fS J J) J<|rT J J J<|rM J J<|gT h J J J (fun h=>?_) (fun h=>?_)
     ·exact rM J J<|rY J J J<|aq h fun v8 e4 h=>aA J (vu e4) cR J<|rY J J J<|ARun.qv (bt J) J<|rT J J J<|rA J J<|rN<|ATodo.stop<|ImpX.lq [] ⟨!v8,h,J⟩ J J
     ·exact rG J J J J<|rG J J J J<|rE J J J<|rA J J<|rN<|ATodo.stop<|ImpX.lq [] ⟨false,h,J⟩ J J
    ·exact have h:=gw hc h;rG J J J J<|rG J J J J<|rG J J J J<|rE J J J<|rM J J<|rG J J J J<|rG J J J J<|rG J J J J<|rE J J J<|rA J J<|rN<|ATodo.stop<|ImpX.lq [] ⟨false,h,J⟩ J J
   ·rintro aB ⟨c5,h,rfl⟩
    unfold sM at h
    refine ATodo.ret<|?_
    cases h
    exact hP J J
theorem Ah {aa:aE} {r:Int} (h:oV aa=some r):Pu Tryz.prog 19 [aE.av aa] (I r):=by
 unfold oV at h
 refine ACall.aQ Tryz.func19 J Tryz.ntmps19 Tryz.results19 J J ?_
 refine ax<|bO J J J J fun b1=>rA J J<|rN<|ax<|rF J J J<|ARun.qv (aU J J .p0 J J) J<|bn J J J J fun b2=>au J J J J .p0 J J<|rN<|tS<|ATodo.block<|tS<|ATodo.cut (fun aB=>∃ (c3:Bool),kE aa c3=some r∧aB=⟨131,[(1,.ptr b1 0),(3,.ptr b2 0),(10,.bool c3)],[(b1,.cells (zL aa)),(b2,.cells (VA aa.Device))]⟩) ?_ ?_
 ·refine tR<|rF J J J<|rL J J .p0 J J<|aq h fun v4 e1 h=>aA J (pf e1) cR J<|ARun.qv (bt J) J<|rM J J<|ARun.guard J J J (fun hc=>?_) (fun hc=>?_)
  ·refine have h:=gw hc h;rF J J J<|rY J J J<|rL J J .p0 J J<|rY J J J<|aq h fun v5 e2 h=>aA J (pf e2) cR J<|rY J J J<|ARun.qv (bt J) J<|rE J J J<|rM J J<|ARun.guard J J J (fun hc=>?_) (fun hc=>?_)
   ·refine have h:=gw hc h;rF J J J<|rY J J J<|rL J J .p0 J J<|rY J J J<|ARun.qv (qD J J) J<|rY J J J<|rM J J<|gT h J J J (fun h=>?_) (fun h=>?_)
    ·exact rF J J J<|rY J J J<|rL J J .p0 J J<|rY J J J<|aq h fun v6 e3 h=>aA J (pf e3) cR J<|rY J J J<|ARun.qv (bt J) J<|rY J J J<|rT J J J<|rE J J J<|rA J J<|rN<|ATodo.stop<|ImpX.lq [1,0] ⟨!v6,h,J⟩ J J
    ·exact rG J J J J<|rG J J J J<|rG J J J J<|rY J J J<|rE J J J<|rE J J J<|rA J J<|rN<|ATodo.stop<|ImpX.lq [1,0] ⟨false,h,J⟩ J J
   ·exact have h:=gr hc h;rG J J J J<|rG J J J J<|rG J J J J<|ARun.bK J J J<|ARun.bK J J J<|ARun.bK J J J<|ARun.bK J J J<|rG J J J J<|rT J J J<|rA J J<|rN<|ATodo.stop<|ImpX.lq [1,0] ⟨true,h,J⟩ J J
  ·exact have h:=gr hc h;rG J J J J<|rG J J J J<|rG J J J J<|rT J J J<|rM J J<|rG J J J J<|rG J J J J<|rG J J J J<|rG J J J J<|ARun.bK J J J<|ARun.bK J J J<|ARun.bK J J J<|ARun.bK J J J<|rG J J J J<|rT J J J<|rA J J<|rN<|ATodo.stop<|ImpX.lq [1,0] ⟨true,h,J⟩ J J
 ·rintro aB ⟨c3,h,rfl⟩
  unfold kE at h
  refine cB h J (fun h=>?_) (fun h=>?_)
  ·refine ax<|rA J J<|rN<|ATodo.ret<|?_
   cases h
   exact hP J J
  ·refine ax<|rF J J J<|ARun.qv (aU J J .p1 J J) J<|aA J (w5 J) cR J<|ARun.qv (bt J) J<|rA J J<|rN<|cB h J (fun h=>?_) (fun h=>?_)
   ·refine ax<|rA J J<|rN<|ATodo.ret<|?_
    cases h
    exact hP J J
   ·refine ax<|rF J J J<|rL J J .p1 J J<|ARun.qv (bD J) J<|ARun.qv (dJ J J) J<|rA J J<|rN<|cD h J (fun h=>?_) (fun h=>?_)
    ·refine ax<|rA J J<|rN<|ATodo.ret<|?_
     cases h
     exact hP J J
    ·refine tK<|ATodo.bU<|tS<|ax<|rF J J J<|rL J J .p1 J J<|ARun.qv (bD J) J<|rM J J<|rN<|ATodo.block<|ATodo.bT (fun x:Int=>mo aa x) (fun x aB=>aB=⟨131,[(1,.ptr b1 0),(3,.ptr b2 0),(43,N0 aa.Device.kO),(44,I (aa.Device.kO.length:Int)),(45,I x)],[(b1,.cells (zL aa)),(b2,.cells (VA aa.Device))]⟩) h ?_ ?_
     ·exact ImpX.lq [0,0] J J J
     ·intro n8 z1 aB J1 dB h ic dm
      obtain rfl:=dB
      replace h:mo aa n8=some z1:=h
      unfold mo at h
      refine ax<|ARun.qv (bu J J) J<|rN<|tS<|cD h J (fun h=>?_) (fun h=>?_)
      ·refine tK<|tS<|ATodo.block<|ax<|rM J J<|aq h fun v9 e4 h=>ARun.qv (aP J J J e4 J J) J<|ARun.qv (aH J J J) J<|bn J J J J fun vH=>rA J J<|au J J J J .p0 J J<|rN<|ATodo.block<|ax<|rF J J J<|rL J J .p0 J J<|aq h fun v11 e5 h=>aA J (pf e5) cR J<|ARun.qv (bt J) J<|rA J J<|rN<|cB h J (fun h=>?_) (fun h=>?_)
       ·refine ax<|rA J J<|rN<|ATodo.ret<|have h:=bz h dm;?_
        cases h
        exact hP J J
       ·refine tS<|ATodo.cut (fun aB=>∃ (c12:Bool),mj n8 v9 c12=some z1∧aB=⟨131,[(1,.ptr b1 0),(3,.ptr b2 0),(5,.ptr vH 0),(43,N0 aa.Device.kO),(44,I (aa.Device.kO.length:Int)),(45,I n8),(55,.bool c12)],[(b1,.cells (zL aa)),(b2,.cells (VA aa.Device)),(vH,.cells [.str v9.Name,.str v9.Value])]⟩) ?_ ?_
        ·refine ATodo.ck (id:=13) (A:=[0,1,3,7,15,7,39,7,135,487,999,2023,4095,8191,16383]) 15 mixed J (by kernel_rfl) (by kernel_rfl)<|AM.qv (aL J) J<|AM.qv (dJ J J) J<|AM.qv (aL J) J<|AM.cA J J J (fun hc=>?_) (fun hc=>?_)
         ·exact have h:=gr hc h;AM.qv (an J J) J<|AM.aj J J J<|AM.qv (az J J .p0 J) J<|AM.aj J J J<|AM.qv (an J J) J<|AM.aj J J J<|AM.qv (az J J .p2 J) J<|AM.aj J J J<|AM.qv (aL J) J<|AM.aj J J J<|AM.qv (gq J J) J<|AM.aj J J J<|aq h fun mb e6 h=>AM.qv (aP J J J e6 J J) J<|AM.aj J J J<|AM.qv (bJ J J) J<|AM.aj J J J<|AM.qv (aG J J J) J<|AM.aj J J J<|AM.qv (rk J J) J<|AM.qv (cJ J J) J<|AM.qv (bM J) J<|AM.nil<|rN<|ATodo.stop<|ImpX.lq [1,1,0] ⟨Op.bytesLess v9.Name mb.Name||v9.Name==mb.Name,h,J⟩ J J
         ·exact have h:=wq hc h;AM.ai J J J J<|AM.ai J J J J<|AM.ai J J J J<|AM.ai J J J J<|AM.ai J J J J<|AM.ai J J J J<|AM.ai J J J J<|AM.ai J J J J<|AM.ai J J J J<|AM.qv (eD J J) J<|AM.qv (bM J) J<|AM.nil<|rN<|ATodo.stop<|ImpX.lq [1,1,0] ⟨false,h,J⟩ J J
        ·rintro aB ⟨c12,h,rfl⟩
         unfold mj at h
         refine cB h J (fun h=>?_) (fun h=>?_)
         ·refine ax<|rA J J<|rN<|ATodo.ret<|have h:=bz h dm;?_
          cases h
          exact hP J J
         ·refine tS<|ATodo.cut (fun aB=>∃ (EL:Bool),oU n8 EL=some z1∧aB=⟨131,[(1,.ptr b1 0),(3,.ptr b2 0),(43,N0 aa.Device.kO),(44,I (aa.Device.kO.length:Int)),(45,I n8),(70,.bool EL)],[(b1,.cells (zL aa)),(b2,.cells (VA aa.Device))]⟩) ?_ ?_
          ·refine tR<|rF J J J<|rL J J .p2 J J<|ARun.qv (fS J J) J<|rM J J<|gF h J J J (fun h=>?_) (fun h=>?_)
           ·refine rF J J J<|rY J J J<|rL J J .p2 J J<|rY J J J<|aq h fun FO e7 h=>aA J (N4 e7) cR J<|rY J J J<|ARun.qv (bt J) J<|rE J J J<|rM J J<|ARun.guard J J J (fun hc=>?_) (fun hc=>?_)
            ·rw [FJ hc] at h
             exact rF J J J<|rY J J J<|rL J J .p2 J J<|rY J J J<|ARun.qv (eR J) J<|rY J J J<|ARun.qv (dJ J J) J<|rE J J J<|rA J J<|rN<|ATodo.stop<|ImpX.lq [0,0] ⟨decide ((100:Int) < (v9.Value.length:Int)),h,J⟩ J J
            ·rw [FI hc] at h
             exact rG J J J J<|rG J J J J<|rG J J J J<|rT J J J<|rA J J<|rN<|ATodo.stop<|ImpX.lq [0,0] ⟨true,h,J⟩ J J
           ·exact rG J J J J<|rG J J J J<|rG J J J J<|rT J J J<|rM J J<|rG J J J J<|rG J J J J<|rG J J J J<|rG J J J J<|rT J J J<|rA J J<|rN<|ATodo.stop<|ImpX.lq [0,0] ⟨true,h,J⟩ J J
          ·rintro aB ⟨EL,h,rfl⟩
           unfold oU at h
           refine cB h J (fun h=>?_) (fun h=>?_)
           ·refine ax<|rA J J<|rN<|ATodo.ret<|have h:=bz h dm;?_
            cases h
            exact hP J J
           ·refine tK<|ATodo.bU<|ATodo.bU<|tR<|ARun.qv (bh J J) J<|rM J J<|rN<|ATodo.stop<|?_
            cases h
            exact ic _ _ J<|ImpX.lq [0,0] J J J
      ·refine ATodo.exit J<|have h:=bz h dm;?_
       unfold vi at h
       refine tS<|ax<|rF J J J<|rL J J .p0 J J<|ARun.qv (bD J) J<|ARun.qv (dJ J J) J<|rN<|cD h J (fun h=>?_) (fun h=>?_)
       ·refine ax<|rA J J<|rN<|ATodo.ret<|?_
        cases h
        exact hP J J
       ·refine tK<|tS<|ax<|rF J J J<|rL J J .p0 J J<|ARun.qv (bD J) J<|rM J J<|rN<|ATodo.block<|ATodo.bT (fun x:Int=>mn aa x) (fun x aB=>aB=⟨131,[(1,.ptr b1 0),(92,N1 aa.ey),(93,I (aa.ey.length:Int)),(94,I x)],[(b1,.cells (zL aa))]⟩) h ?_ ?_
        ·exact ImpX.lq [0] J J J
        ·intro n17 z2 aB J2 dB h zN uS
         obtain rfl:=dB
         replace h:mn aa n17=some z2:=h
         unfold mn at h
         refine ax<|ARun.qv (bu J J) J<|rN<|tS<|cD h J (fun h=>?_) (fun h=>?_)
         ·refine tK<|tS<|ATodo.block<|ax<|rM J J<|aq h fun fH e8 h=>ARun.qv (aP J J J e8 J J) J<|ARun.qv (aH J J J) J<|bn J J J J fun FA=>rA J J<|au J J J J .p0 J J<|rN<|ATodo.block<|ax<|rF J J J<|rL J J .p0 J J<|aq h fun v20 e9 h=>aA J (BM e9) cR J<|ARun.qv (bt J) J<|rA J J<|rN<|cB h J (fun h=>?_) (fun h=>?_)
          ·refine ax<|rA J J<|rN<|ATodo.ret<|have h:=bz h uS;?_
           cases h
           exact hP J J
          ·refine tS<|ATodo.cut (fun aB=>∃ (c21:Bool),ml n17 fH c21=some z2∧aB=⟨131,[(1,.ptr b1 0),(7,.ptr FA 0),(92,N1 aa.ey),(93,I (aa.ey.length:Int)),(94,I n17),(104,.bool c21)],[(b1,.cells (zL aa)),(FA,.cells (cE7 fH))]⟩) ?_ ?_
           ·refine ATodo.ck (id:=25) (A:=[0,1,3,7,15,7,39,7,135,487,999,2023,4095,8191,16383]) 15 mixed J (by kernel_rfl) (by kernel_rfl)<|AM.qv (aL J) J<|AM.qv (dJ J J) J<|AM.qv (aL J) J<|AM.cA J J J (fun hc=>?_) (fun hc=>?_)
            ·exact have h:=gr hc h;AM.qv (an J J) J<|AM.aj J J J<|AM.qv (az J J .p0 J) J<|AM.aj J J J<|AM.qv (an J J) J<|AM.aj J J J<|AM.qv (az J J .p1 J) J<|AM.aj J J J<|AM.qv (aL J) J<|AM.aj J J J<|AM.qv (gq J J) J<|AM.aj J J J<|aq h fun v22 zM h=>AM.qv (aP J J J zM J J) J<|AM.aj J J J<|AM.qv (bJ J J) J<|AM.aj J J J<|AM.qv (aG J J J) J<|AM.aj J J J<|AM.qv (rk J J) J<|AM.qv (cJ J J) J<|AM.qv (bM J) J<|AM.nil<|rN<|ATodo.stop<|ImpX.lq [1,0] ⟨Op.bytesLess fH.Name v22.Name||fH.Name==v22.Name,h,J⟩ J J
            ·exact have h:=wq hc h;AM.ai J J J J<|AM.ai J J J J<|AM.ai J J J J<|AM.ai J J J J<|AM.ai J J J J<|AM.ai J J J J<|AM.ai J J J J<|AM.ai J J J J<|AM.ai J J J J<|AM.qv (eD J J) J<|AM.qv (bM J) J<|AM.nil<|rN<|ATodo.stop<|ImpX.lq [1,0] ⟨false,h,J⟩ J J
           ·rintro aB ⟨c21,h,rfl⟩
            unfold ml at h
            refine cB h J (fun h=>?_) (fun h=>?_)
            ·refine ax<|rA J J<|rN<|ATodo.ret<|have h:=bz h uS;?_
             cases h
             exact hP J J
            ·refine tS<|ATodo.cut (fun aB=>∃ (Yi:Bool),sa n17 Yi=some z2∧aB=⟨131,[(1,.ptr b1 0),(92,N1 aa.ey),(93,I (aa.ey.length:Int)),(94,I n17),(119,.bool Yi)],[(b1,.cells (zL aa))]⟩) ?_ ?_
             ·refine tR<|rF J J J<|ARun.qv (aU J J .p1 J J) J<|aq h fun v24 AZ h=>aA J (yQ AZ) cR J<|ARun.qv (bt J) J<|rM J J<|ARun.guard J J J (fun hc=>?_) (fun hc=>?_)
              ·rw [FJ hc] at h
               exact rF J J J<|rY J J J<|rF J J J<|rY J J J<|rL J J .p1 J J<|rY J J J<|ARun.qv (bS J J) J<|rE J J J<|rA J J<|rN<|ATodo.stop<|ImpX.lq [0] ⟨decide (fH.Value.Kind=(0:Int)),h,J⟩ J J
              ·rw [FI hc] at h
               exact rG J J J J<|rG J J J J<|rG J J J J<|rT J J J<|rA J J<|rN<|ATodo.stop<|ImpX.lq [0] ⟨true,h,J⟩ J J
             ·rintro aB ⟨Yi,h,rfl⟩
              unfold sa at h
              refine cB h J (fun h=>?_) (fun h=>?_)
              ·refine ax<|rA J J<|rN<|ATodo.ret<|have h:=bz h uS;?_
               cases h
               exact hP J J
              ·refine tK<|ATodo.bU<|ATodo.bU<|tR<|ARun.qv (bh J J) J<|rM J J<|rN<|ATodo.stop<|?_
               cases h
               exact zN _ _ J<|ImpX.lq [0] J J J
         ·refine ATodo.exit J<|have h:=bz h uS;ax<|rA J J<|rN<|ATodo.ret<|?_
          cases h
          exact hP J J
theorem x6 [GI:bc] {aa:bb} {ah:aE} {r:Int} (h:nR aa ah=some r):Pu Tryz.prog 20 [bb.av aa,aE.av ah] (I r):=by
 unfold nR at h
 refine ACall.aQ Tryz.func20 J Tryz.ntmps20 Tryz.results20 J J ?_
 refine ax<|bO J J J J fun b1=>bO J J J J fun b2=>rA J J<|rN<|tS<|tS<|ATodo.cut (fun aB=>∃ (c3:Bool),mq c3=some r∧aB=⟨17,[(16,.bool c3)],[]⟩) ?_ ?_
 ·refine tR<|rF J J J<|rF J J J<|rL J J .p0 J J<|ARun.qv (qD J J) J<|rM J J<|gT h J J J (fun h=>?_) (fun h=>?_)
  ·exact ARun.qv (ao J J .p1 J) J<|rY J J J<|rF J J J<|rY J J J<|rF J J J<|rY J J J<|rL J J .p0 J J<|rY J J J<|aq h fun v4 e1 h=>aA J (jF e1) cR J<|rY J J J<|ARun.qv (bu J J) J<|rT J J J<|rN<|ATodo.stop<|ImpX.lq [] ⟨decide (v4 < (0:Int)),h,J⟩ J J
  ·exact rG J J J J<|rG J J J J<|rG J J J J<|rG J J J J<|rG J J J J<|rE J J J<|rN<|ATodo.stop<|ImpX.lq [] ⟨false,h,J⟩ J J
 ·rintro aB ⟨c3,h,rfl⟩
  unfold mq at h
  refine cB h J (fun h=>?_) (fun h=>?_)
  ·refine ax<|rA J J<|rN<|ATodo.ret<|?_
   cases h
   exact hP J J
  ·refine tK<|ax<|rA J J<|rN<|ATodo.ret<|?_
   cases h
   exact hP J J
theorem JT [GI:bc] {aa:ae} {ah:ae} {r:Bool} (h:zp aa ah=some r):Pu Tryz.prog 166 [.str aa,.str ah] (.bool r):=by
 unfold zp at h
 refine ACall.aQ Tryz.func166 J Tryz.ntmps166 Tryz.results166 J J ?_
 refine ax<|rA J J<|rN<|ax<|rM J J<|aq h fun v1 e1 h=>aA J (lY e1) cR J<|rM J J<|rX J J J<|rX J J J<|rA J J<|rA J J<|rN<|tS<|ATodo.cut (fun aB=>∃ (c2:Bool),sb c2=some r∧aB=⟨23,[(4,.bool c2)],[]⟩) ?_ ?_
 ·refine tR<|rM J J<|rM J J<|ARun.qv (fS J J) J<|rM J J<|gF h J J J (fun h=>?_) (fun h=>?_)
  ·refine rM J J<|rY J J J<|rM J J<|ARun.guard J J J (fun hc=>?_) (fun hc=>?_)
   ·exact have h:=gr hc h;rM J J<|rY J J J<|rM J J<|rY J J J<|aq h fun v3 e2 h=>aA J (lZ e2) cR J<|rY J J J<|rT J J J<|rE J J J<|rA J J<|rN<|ATodo.stop<|ImpX.lq [] ⟨v3,h,J⟩ J J
   ·exact have h:=gw hc h;rG J J J J<|rG J J J J<|rY J J J<|rE J J J<|rE J J J<|rA J J<|rN<|ATodo.stop<|ImpX.lq [] ⟨false,h,J⟩ J J
  ·exact rG J J J J<|ARun.bK J J J<|ARun.bK J J J<|ARun.bK J J J<|rG J J J J<|rT J J J<|rA J J<|rN<|ATodo.stop<|ImpX.lq [] ⟨true,h,J⟩ J J
 ·rintro aB ⟨c2,h,rfl⟩
  unfold sb at h
  refine ATodo.ret<|?_
  cases h
  exact hP J J
theorem zT [GI:bc] {aa:ae} {ah:ae} {r:Bool} (h:jg aa ah=some r):Pu Tryz.prog 165 [.str aa,.ik [.str ah]] (.bool r):=by
 unfold jg at h
 refine ACall.aQ Tryz.func165 J Tryz.ntmps165 Tryz.results165 J J ?_
 refine ax<|rA J J<|rN<|ax<|rM J J<|ARun.qv (aG J J J) J<|aq h fun v1 e1 h=>aA J (JT e1) cR J<|rA J J<|rN<|ATodo.ret<|?_
 cases h
 exact hP J J
theorem Cx [GI:bc] {aa:ae} {ah:List ae} {r:Bool} (h:mr aa ah=some r):Pu Tryz.prog 164 [.str aa,.ik [ph ah]] (.bool r):=by
 unfold mr at h
 refine ACall.aQ Tryz.func164 J Tryz.ntmps164 Tryz.results164 J J ?_
 refine ax<|bO J J J J fun b1=>rA J J<|rN<|ax<|ARun.qv (aG J J J) J<|ARun.qv (fI J) J<|aq h fun v2 e1 h=>dc J (bP (fun e=>zT e) e1) (.cons (.co (.refl _)) (.cons (.uX _ _ _ (.cons (.wo _ _ _ .p0 (.cons (.co (.refl _)) .nil)) .nil)) .nil)) J J<|ARun.qv (bt J) J<|rA J J<|rN<|ATodo.ret<|?_
 cases h
 exact hP J J
theorem Ai [GI:bc] {aa:List ae} {ah:List ae} {r:Bool} (h:qK aa ah=some r):Pu Tryz.prog 83 [ph aa,ph ah] (.bool r):=by
 unfold qK at h
 refine ACall.aQ Tryz.func83 J Tryz.ntmps83 Tryz.results83 J J ?_
 refine ax<|bO J J J J fun b1=>rA J J<|rN<|ax<|rM J J<|ARun.qv (fI J) J<|aq h fun v2 e1 h=>dc J (bP (fun e=>Cx e) e1) (.cons (.co (.refl _)) (.cons (.uX _ _ _ (.cons (.wo _ _ _ .p0 (.cons (.co (.refl _)) .nil)) .nil)) .nil)) J J<|ARun.qv (bt J) J<|rA J J<|rN<|ATodo.ret<|?_
 cases h
 exact hP J J
theorem x7 [GI:bc] {aa:bb} {ah:ae} {aT:ae} {bG:ae} {r:(List Int)} (h:nT aa ah aT bG=some r):ACall Tryz.prog 81 [bb.av aa,.str ah,.str aT,.str bG] [] (T1 (fun iC=>[(iC,Lx r)]) (fun iC=>.sl 1 iC 0 r.length)):=by
 unfold nT at h
 refine ACall.dN ?_
 refine ACall.aQ Tryz.func81 J Tryz.ntmps81 Tryz.results81 J J ?_
 refine ax<|bO J J J J fun b1=>rA J J<|rN<|ax<|rA J J<|rN<|tS<|ax<|ARun.qv (ao J J .p0 J) J<|rM J J<|aq h fun v2 e1 h=>aA J (jF e1) cR J<|ARun.qv (bu J J) J<|rN<|cD h J (fun h=>?_) (fun h=>?_)
 ·refine ax<|rA J J<|rN<|ATodo.ret<|?_
  cases h
  exact ImpX.arr (s:=8) 1 J fun b3=>ImpX.here ⟨_,.cons (.tmp _ _ J) .nil,_,.cons .p0 .nil,⟨b3,J,J⟩⟩
 ·refine tK<|tS<|ax<|rF J J J<|rL J J .p0 J J<|ARun.qv (bD J) J<|rM J J<|rN<|ATodo.block<|ATodo.bT (fun x:(List Int)×Int=>jS aa ah aT bG x.1 x.2) (fun x aB=>∃ (b7:Bk),aB=⟨56,[(1,.str ah),(2,.str aT),(3,.str bG),(4,.ptr b1 0),(9,.sl 1 b7 0 x.1.length),(17,zK aa.aD),(18,I (aa.aD.length:Int)),(19,I x.2)],[(b1,.cells (xj aa)),(b7,Lx x.1)]⟩) h ?_ ?_
  ·exact ImpX.arr (s:=9) 1 J fun vH=>ImpX.lq [1,0] ⟨vH,J⟩ J J
  ·intro x z1 aB J1 dB h ic dm
   obtain ⟨l8,n9⟩:=x
   obtain ⟨b7,rfl⟩:=dB
   replace h:jS aa ah aT bG l8 n9=some z1:=h
   unfold jS at h
   refine ax<|ARun.qv (bu J J) J<|rN<|tS<|cD h J (fun h=>?_) (fun h=>?_)
   ·refine tK<|tS<|ATodo.block<|ax<|rM J J<|aq h fun v11 e2 h=>ARun.qv (aP J J J e2 J J) J<|ARun.qv (aH J J J) J<|bn J J J J fun KQ=>rA J J<|au J J J J .p0 J J<|rN<|tS<|ATodo.cut (fun aB=>∃ (Dp:Bool),iz l8 n9 Dp=some z1∧aB=⟨56,[(1,.str ah),(2,.str aT),(3,.str bG),(4,.ptr b1 0),(9,.sl 1 b7 0 l8.length),(10,I n9),(17,zK aa.aD),(18,I (aa.aD.length:Int)),(19,I n9),(49,.bool Dp)],[(b1,.cells (xj aa)),(b7,Lx l8)]⟩) ?_ ?_
    ·refine ATodo.ck (id:=7) (A:=[0,1,0,7,15,31,31,127,31,287,1023,2047,4095,8191,16383,8191,8191,73727,237567,524287,1048575,2097151,8191,4202495,16777215,33554431]) 26 mixed J (by kernel_rfl) (by kernel_rfl)<|AM.qv (an J J) J<|AM.qv (az J J .p0 J) J<|AM.qv (aL J) J<|AM.qv (fS J J) J<|AM.qv (aL J) J<|AM.cA J J J (fun hc=>?_) (fun hc=>?_)
     ·refine have h:=gr hc h;AM.qv (ao J J .p1 J) J<|AM.aj J J J<|AM.qv (aL J) J<|AM.aj J J J<|aq h fun lW e3 h=>AM.dv J (vw e3) cR J<|AM.aj J J J<|AM.qv (an J J) J<|AM.aj J J J<|AM.qv (az J J .p0 J) J<|AM.aj J J J<|aq h fun FO e4 h=>AM.dv J (ba e4) cR J<|AM.qv (cJ J J) J<|AM.qv (aL J) J<|AM.guard J J J (fun hc=>?_) (fun hc=>?_)
      ·exact have h:=gr hc h;AM.qv (an J J) J<|AM.aj J J J<|AM.qv (az J J .p1 J) J<|AM.aj J J J<|AM.qv (ao J J .p1 J) J<|AM.aj J J J<|AM.qv (an J J) J<|AM.aj J J J<|AM.qv (az J J .p0 J) J<|AM.aj J J J<|aq h fun dU e5 h=>AM.dv J (EV e5) cR J<|AM.aj J J J<|aq h fun v17 e6 h=>AM.qv (aP J J J e6 J J) J<|AM.aj J J J<|AM.qv (bJ J J) J<|AM.aj J J J<|AM.qv (aG J J J) J<|AM.aj J J J<|AM.qv (aL J) J<|AM.aj J J J<|AM.aY (xs:=([aT]:List ae).map AV.str) J J J J J J<|AM.aj J J J<|aq h fun fH e7 h=>AM.dv J (Ai e7) cR J<|AM.qv (cJ J J) J<|AM.nil<|rN<|ATodo.stop<|ImpX.lq [1,1] ⟨fH,h,J⟩ J J
      ·exact have h:=gw hc h;AM.ai J J J J<|AM.ai J J J J<|AM.ai J J J J<|AM.ai J J J J<|AM.ai J J J J<|AM.ai J J J J<|AM.ai J J J J<|AM.ai J J J J<|AM.ai J J J J<|AM.ai J J J J<|AM.ai J J J J<|AM.qv (eD J J) J<|AM.nil<|rN<|ATodo.stop<|ImpX.lq [1,1] ⟨false,h,J⟩ J J
     ·exact have h:=wq hc h;AM.ai J J J J<|AM.ai J J J J<|AM.ai J J J J<|AM.ai J J J J<|AM.ai J J J J<|AM.qv (eD J J) J<|AM.qv (aL J) J<|AM.ai J J J J<|AM.ai J J J J<|AM.ai J J J J<|AM.ai J J J J<|AM.ai J J J J<|AM.ai J J J J<|AM.ai J J J J<|AM.ai J J J J<|AM.ai J J J J<|AM.ai J J J J<|AM.ai J J J J<|AM.ai J J J J<|AM.qv (eD J J) J<|AM.nil<|rN<|ATodo.stop<|ImpX.lq [1,1] ⟨false,h,J⟩ J J
    ·rintro aB ⟨Dp,h,rfl⟩
     unfold iz at h
     refine ATodo.cut (fun aB=>∃ (FA:Bk) (B8:List Int),mu n9 B8=some z1∧aB=⟨56,[(1,.str ah),(2,.str aT),(3,.str bG),(4,.ptr b1 0),(9,.sl 1 FA 0 B8.length),(17,zK aa.aD),(18,I (aa.aD.length:Int)),(19,I n9)],[(b1,.cells (xj aa)),(FA,Lx B8)]⟩) ?_ ?_
     ·refine cB h J (fun h=>?_) (fun h=>?_)
      ·exact tR<|rM J J<|rM J J<|aC (xs:=([n9]:List Int).map I) J J J J J J<|aq h fun IJ e8 h=>cS (g:=I) J J J J J J J J (.list _) e8 (fun _=>.p1) J fun Qd=>rA J J<|rN<|ATodo.stop<|ImpX.lq [0,0] ⟨Qd,IJ,h,J⟩ J J
      ·exact tK<|ATodo.stop<|ImpX.lq [0,0] ⟨b7,l8,h,J⟩ J J
     ·rintro aB ⟨FA,B8,h,rfl⟩
      unfold mu at h
      refine ATodo.bU<|tR<|ARun.qv (bh J J) J<|rM J J<|rN<|ATodo.stop<|?_
      cases h
      exact ic _ _ J<|ImpX.lq [0,0] ⟨FA,J⟩ J J
   ·refine ATodo.exit J<|have h:=bz h dm;ax<|rM J J<|rA J J<|rN<|ATodo.ret<|?_
    cases h
    exact hH J [1] J ⟨b7,J,J⟩
theorem yj [GI:bc] {self:Query→aE→Option Bool} (kP:∀ {aa:Query} {ah:aE} {r:Bool},self aa ah=some r→Pu Tryz.prog 82 [.agg [I aa.Kind,.str aa.Field,.str aa.Op,I aa.Value.Kind,.bool aa.Value.bV,I aa.Value.Number,.str aa.Value.Words,I aa.Version.bH,I aa.Version.bI,I aa.Version.bF,oX aa.Kids],aE.av ah] (.bool r)) {aa:Query} {ah:aE} {aT:Bool} {r:Bool} (h:ju self aa ah aT=some r):Pu Tryz.prog 160 [.agg [I aa.Kind,.str aa.Field,.str aa.Op,I aa.Value.Kind,.bool aa.Value.bV,I aa.Value.Number,.str aa.Value.Words,I aa.Version.bH,I aa.Version.bI,I aa.Version.bF,oX aa.Kids],.ik [.str ah.Device.Key,.str ah.Device.Model,.str ah.Device.ar,I ah.Device.dO.bH,I ah.Device.dO.bI,I ah.Device.dO.bF,N0 ah.Device.kO,N1 ah.ey],.ik [.bool aT]] (.bool r):=by
 unfold ju at h
 refine ACall.aQ Tryz.func160 J Tryz.ntmps160 Tryz.results160 J J ?_
 refine ax<|bO J J J J fun b1=>rA J J<|rN<|tS<|ATodo.ck (id:=1) (A:=[0,0,3,0,15,31]) 6 mixed J (by kernel_rfl) (by kernel_rfl)<|AM.qv (ao J J .p0 J) J<|AM.qv (aH J J J) J<|aq h fun v2 e1 h=>AM.dv J (kP e1) cR J<|AM.qv (aG J J J) J<|AM.qv (Md J J) J<|AM.qv (bM J) J<|AM.nil<|rN<|ATodo.ret<|?_
 cases h
 exact hP J J
theorem vx [GI:bc] {self:Query→aE→Option Bool} (kP:∀ {aa:Query} {ah:aE} {r:Bool},self aa ah=some r→Pu Tryz.prog 82 [.agg [I aa.Kind,.str aa.Field,.str aa.Op,I aa.Value.Kind,.bool aa.Value.bV,I aa.Value.Number,.str aa.Value.Words,I aa.Version.bH,I aa.Version.bI,I aa.Version.bF,oX aa.Kids],aE.av ah] (.bool r)) {aa:Bool} {ah:Query} {aT:aE} {r:Bool} (h:jT self aa ah aT=some r):Pu Tryz.prog 158 [.bool aa,.ik [I ah.Kind,.str ah.Field,.str ah.Op,I ah.Value.Kind,.bool ah.Value.bV,I ah.Value.Number,.str ah.Value.Words,I ah.Version.bH,I ah.Version.bI,I ah.Version.bF,oX ah.Kids],.ik [.str aT.Device.Key,.str aT.Device.Model,.str aT.Device.ar,I aT.Device.dO.bH,I aT.Device.dO.bI,I aT.Device.dO.bF,N0 aT.Device.kO,N1 aT.ey]] (.bool r):=by
 unfold jT at h
 refine ACall.aQ Tryz.func158 J Tryz.ntmps158 Tryz.results158 J J ?_
 refine ax<|bO J J J J fun b1=>rA J J<|rN<|ax<|ARun.qv (bJ J J) J<|ARun.qv (aG J J J) J<|ARun.qv (fI J) J<|aq h fun v2 e1 h=>dc J (gu (fun e=>yj kP e) e1) (.cons (.co (.refl _)) (.cons (.uX _ _ _ (.cons (.co (.refl _)) (.cons (.wo _ _ _ .p0 (.cons (.co (.refl _)) .nil)) .nil))) .nil)) J J<|ARun.qv (bt J) J<|rA J J<|rN<|ATodo.ret<|?_
 cases h
 exact hP J J
end Go.Proofs.YtnchkajkgjkpmaaGreatDoor
