/- The code computes the plain functions: proofs written by shal.py. -/
import Derived.Test.YtnchkajkgjkpmaaGreatDoorRigW3
set_option maxHeartbeats 4000000
set_option maxRecDepth 100000
set_option linter.unusedVariables false
set_option linter.unusedSimpArgs false
namespace Go.Proofs.YtnchkajkgjkpmaaGreatDoor
open Go Go.Eng Go.Proofs Go.Beacon
attribute [local irreducible] ARun ATodo AQ QV ACall ImpX AWp AM
theorem CY [GI:bc] {aa:aE} {ah:ae} {r:a8} (h:uR aa ah=some r):Pu Tryz.prog 161 [aE.av aa,.str ah] (a8.av r):=by
 unfold uR at h
 refine ACall.aQ Tryz.func161 J Tryz.ntmps161 Tryz.results161 J J ?_
 refine ax<|bO J J J J fun b1=>bn J J J J fun b2=>rN<|tS<|ax<|rM J J<|rN<|ATodo.block<|ax<|ARun.qv (fS J J) J<|rA J J<|rN<|cD h J (fun h=>?_) (fun h=>?_)
 ·refine ax<|rF J J J<|rF J J J<|rL J J .p1 J J<|ARun.qv (bl J J J J J) J<|au J J J J .p0 J J<|rN<|ATodo.ret<|?_
  cases h
  exact ImpX.here ⟨_,.cons (.all _ _ _ _ _ _ J .p0 ay.h aO.h J J) .nil,J⟩
 ·refine ax<|ARun.qv (fS J J) J<|rA J J<|rN<|cD h J (fun h=>?_) (fun h=>?_)
  ·refine ax<|rF J J J<|rF J J J<|rL J J .p1 J J<|ARun.qv (bl J J J J J) J<|au J J J J .p0 J J<|rN<|ATodo.ret<|?_
   cases h
   exact ImpX.here ⟨_,.cons (.all _ _ _ _ _ _ J .p0 ay.h aO.h J J) .nil,J⟩
  ·refine ax<|ARun.qv (fS J J) J<|rA J J<|rN<|cD h J (fun h=>?_) (fun h=>?_)
   ·refine ax<|rF J J J<|rF J J J<|rL J J .p1 J J<|ARun.qv (bl J J J J J) J<|au J J J J .p0 J J<|rN<|ATodo.ret<|?_
    cases h
    exact ImpX.here ⟨_,.cons (.all _ _ _ _ _ _ J .p0 ay.h aO.h J J) .nil,J⟩
   ·refine tK<|ATodo.bU<|tS<|ax<|rF J J J<|rF J J J<|rL J J .p1 J J<|ARun.qv (bD J) J<|rM J J<|rN<|ATodo.block<|ATodo.bT (fun x:Int=>jD aa ah x) (fun x aB=>aB=⟨61,[(1,.str ah),(2,.ptr b1 0),(4,.ptr b2 0),(30,N0 aa.Device.kO),(31,I (aa.Device.kO.length:Int)),(32,I x)],[(b1,.cells (zL aa)),(b2,.cells [I (0:Int),.bool false,I (0:Int),.str []])]⟩) h ?_ ?_
    ·exact ImpX.lq [1,0] J J J
    ·intro n4 z1 aB J1 dB h ic dm
     obtain rfl:=dB
     replace h:jD aa ah n4=some z1:=h
     unfold jD at h
     refine ax<|ARun.qv (bu J J) J<|rN<|tS<|cD h J (fun h=>?_) (fun h=>?_)
     ·refine tK<|tS<|ATodo.block<|ax<|aq h fun v5 e1 h=>ARun.qv (aP J J J e1 J J) J<|ARun.qv (aH J J J) J<|bn J J J J fun b6=>au J J J J .p0 J J<|rN<|ax<|rM J J<|rF J J J<|rL J J .p0 J J<|aq h fun q7 e2 h=>ARun.qv (Lk e2 J J) J<|ARun.qv (fS J J) J<|rN<|cD h J (fun h=>?_) (fun h=>?_)
      ·refine ax<|rF J J J<|rL J J .p0 J J<|ARun.qv (bl J J J J J) J<|au J J J J .p2 J J<|rN<|ATodo.ret<|have h:=bz h dm;?_
       cases h
       exact ImpX.here ⟨_,.cons (.all _ _ _ _ _ _ J .p2 ay.h aO.h J J) .nil,J⟩
      ·refine tK<|ATodo.bU<|tR<|ARun.qv (bh J J) J<|rM J J<|rN<|ATodo.stop<|?_
       cases h
       exact ic _ _ J<|ImpX.lq [1,1] J J J
     ·refine ATodo.exit J<|have h:=bz h dm;tS<|ax<|rF J J J<|rL J J .p0 J J<|ARun.qv (bD J) J<|rM J J<|rN<|ATodo.block<|ATodo.bT (fun x:Int=>jC aa ah x) (fun x aB=>aB=⟨61,[(1,.str ah),(4,.ptr b2 0),(46,N1 aa.ey),(47,I (aa.ey.length:Int)),(48,I x)],[(b2,.cells [I (0:Int),.bool false,I (0:Int),.str []])]⟩) h ?_ ?_
      ·exact ImpX.lq [1] J J J
      ·intro n9 z2 aB J2 dB h zN uS
       obtain rfl:=dB
       replace h:jC aa ah n9=some z2:=h
       unfold jC at h
       refine ax<|ARun.qv (bu J J) J<|rN<|tS<|cD h J (fun h=>?_) (fun h=>?_)
       ·refine tK<|tS<|ATodo.block<|ax<|aq h fun v10 e3 h=>ARun.qv (aP J J J e3 J J) J<|ARun.qv (aH J J J) J<|bn J J J J fun ud=>au J J J J .p0 J J<|rN<|ax<|rM J J<|rF J J J<|rL J J .p0 J J<|aq h fun Vs e4 h=>ARun.qv (Lk e4 J J) J<|ARun.qv (fS J J) J<|rN<|cD h J (fun h=>?_) (fun h=>?_)
        ·refine ax<|rF J J J<|ARun.qv (aU J J .p0 J J) J<|au J J J J .p1 J J<|rN<|ATodo.ret<|have h:=bz h uS;?_
         cases h
         exact ImpX.here ⟨_,.cons (.all _ _ _ _ _ _ J .p1 ay.h aO.h J J) .nil,J⟩
        ·refine tK<|ATodo.bU<|tR<|ARun.qv (bh J J) J<|rM J J<|rN<|ATodo.stop<|?_
         cases h
         exact zN _ _ J<|ImpX.lq [1] J J J
       ·refine ATodo.exit J<|have h:=bz h uS;ax<|ARun.qv (bl J J J J J) J<|au J J J J .p0 J J<|rN<|ATodo.ret<|?_
        cases h
        exact ImpX.here ⟨_,.cons (.all _ _ _ _ _ _ J .p0 ay.h aO.h J J) .nil,J⟩
theorem Cy [GI:bc] {aa:Version} {ah:Version} {r:Int} (h:oW aa ah=some r):Pu Tryz.prog 163 [Version.av aa,Version.av ah] (I r):=by
 unfold oW at h
 refine ACall.aQ Tryz.func163 J Tryz.ntmps163 Tryz.results163 J J ?_
 refine ax<|bO J J J J fun b1=>bO J J J J fun b2=>rA J J<|rN<|tS<|ATodo.ck (id:=1) (A:=[0,1,0,4,15,0,32,0,128,511,0,1024,0,4096,16383,32767,65535,131071]) 18 mixed J (by kernel_rfl) (by kernel_rfl)<|AM.qv (an J J) J<|AM.qv (az J J .p1 J) J<|AM.qv (an J J) J<|AM.qv (az J J .p0 J) J<|AM.dv J (dL J) cR J<|AM.qv (an J J) J<|AM.qv (az J J .p1 J) J<|AM.qv (an J J) J<|AM.qv (az J J .p0 J) J<|AM.dv J (dL J) cR J<|AM.qv (an J J) J<|AM.qv (az J J .p1 J) J<|AM.qv (an J J) J<|AM.qv (az J J .p0 J) J<|AM.dv J (dL J) cR J<|AM.aY (xs:=([(cmp_Compare_int aa.bH ah.bH),(cmp_Compare_int aa.bI ah.bI),(cmp_Compare_int aa.bF ah.bF)]:List Int).map I) J J J J J J<|aq h fun v3 e1 h=>AM.dv J (mT e1) cR J<|AM.qv (bM J) J<|AM.nil<|rN<|ATodo.ret<|?_
 cases h
 exact hP J J
theorem BN [GI:bc] {aa:ae} {ah:Int} {r:Bool} (h:sO aa ah=some r):Pu Tryz.prog 162 [.str aa,I ah] (.bool r):=by
 unfold sO at h
 refine ACall.aQ Tryz.func162 J Tryz.ntmps162 Tryz.results162 J J ?_
 refine ax<|rA J J<|rN<|ax<|uP J fun b1=>rM J J<|ARun.qv (bS J J) J<|wP (gk:=AV.str) (gv:=AV.bool) (M:=([]:List (ae×Bool))) (key:=([61,61]:ae)) (v:=decide (ah=(0:Int))) J J J J .p0<|rM J J<|ARun.qv (du J J) J<|wP (gk:=AV.str) (gv:=AV.bool) (M:=(ji ([]:List (ae×Bool)) ([61,61]:ae) (decide (ah=(0:Int))))) (key:=([33,61]:ae)) (v:=decide (ah≠(0:Int))) J J J J .p0<|rM J J<|ARun.qv (bu J J) J<|wP (gk:=AV.str) (gv:=AV.bool) (M:=(ji (ji ([]:List (ae×Bool)) ([61,61]:ae) (decide (ah=(0:Int)))) ([33,61]:ae) (decide (ah≠(0:Int))))) (key:=([60]:ae)) (v:=decide (ah < (0:Int))) J J J J .p0<|rM J J<|ARun.qv (sA J J) J<|wP (gk:=AV.str) (gv:=AV.bool) (M:=(ji (ji (ji ([]:List (ae×Bool)) ([61,61]:ae) (decide (ah=(0:Int)))) ([33,61]:ae) (decide (ah≠(0:Int)))) ([60]:ae) (decide (ah < (0:Int))))) (key:=([60,61]:ae)) (v:=decide (ah≤(0:Int))) J J J J .p0<|rM J J<|ARun.qv (dJ J J) J<|wP (gk:=AV.str) (gv:=AV.bool) (M:=(ji (ji (ji (ji ([]:List (ae×Bool)) ([61,61]:ae) (decide (ah=(0:Int)))) ([33,61]:ae) (decide (ah≠(0:Int)))) ([60]:ae) (decide (ah < (0:Int)))) ([60,61]:ae) (decide (ah≤(0:Int))))) (key:=([62]:ae)) (v:=decide ((0:Int) < ah)) J J J J .p0<|rM J J<|ARun.qv (uu J J) J<|wP (gk:=AV.str) (gv:=AV.bool) (M:=(ji (ji (ji (ji (ji ([]:List (ae×Bool)) ([61,61]:ae) (decide (ah=(0:Int)))) ([33,61]:ae) (decide (ah≠(0:Int)))) ([60]:ae) (decide (ah < (0:Int)))) ([60,61]:ae) (decide (ah≤(0:Int)))) ([62]:ae) (decide ((0:Int) < ah)))) (key:=([62,61]:ae)) (v:=decide ((0:Int)≤ah)) J J J J .p0<|rM J J<|rM J J<|aq h fun v2 e1 h=>ARun.qv (Jg (gk:=AV.str) (gv:=AV.bool) (M:=(ji (ji (ji (ji (ji (ji ([]:List (ae×Bool)) ([61,61]:ae) (decide (ah=(0:Int)))) ([33,61]:ae) (decide (ah≠(0:Int)))) ([60]:ae) (decide (ah < (0:Int)))) ([60,61]:ae) (decide (ah≤(0:Int)))) ([62]:ae) (decide ((0:Int) < ah))) ([62,61]:ae) (decide ((0:Int)≤ah)))) (key:=aa) (Z:=false) J J .p0 J J J e1 J) J<|rA J J<|rN<|ATodo.ret<|?_
 cases h
 exact hP J J
theorem AN [GI:bc] {self:Query→aE→Option Bool} (kP:∀ {aa:Query} {ah:aE} {r:Bool},self aa ah=some r→Pu Tryz.prog 82 [.agg [I aa.Kind,.str aa.Field,.str aa.Op,I aa.Value.Kind,.bool aa.Value.bV,I aa.Value.Number,.str aa.Value.Words,I aa.Version.bH,I aa.Version.bI,I aa.Version.bF,oX aa.Kids],aE.av ah] (.bool r)) {aa:Query} {ah:aE} {r:Bool} (h:dH self aa ah=some r):Pu Tryz.prog 82 [.agg [I aa.Kind,.str aa.Field,.str aa.Op,I aa.Value.Kind,.bool aa.Value.bV,I aa.Value.Number,.str aa.Value.Words,I aa.Version.bH,I aa.Version.bI,I aa.Version.bF,oX aa.Kids],aE.av ah] (.bool r):=by
 unfold dH at h
 refine ACall.aQ Tryz.func82 J Tryz.ntmps82 Tryz.results82 J J ?_
 refine ax<|bO J J J J fun b1=>bO J J J J fun b2=>rA J J<|rN<|ax<|ARun.qv (fI J) J<|rA J J<|rN<|tS<|ax<|rF J J J<|rL J J .p1 J J<|rN<|ATodo.block<|ax<|ARun.qv (bS J J) J<|rA J J<|rN<|cD h J (fun h=>?_) (fun h=>?_)
 ·refine tS<|ATodo.ck (id:=4) (A:=[0,1,3,7,0,31,63,127]) 8 mixed J (by kernel_rfl) (by kernel_rfl)<|AM.qv (an J J) J<|AM.qv (az J J .p1 J) J<|aq h fun v3 e1 h=>AM.qv (aP J J J e1 J (by rw [Query.tN];rfl)) J<|AM.qv (aH J J J) J<|AM.qv (ao J J .p0 J) J<|aq h fun v4 e2 h=>AM.dv J (kP e2) cR J<|AM.qv (bt J) J<|AM.qv (bM J) J<|AM.nil<|rN<|ATodo.ret<|?_
  cases h
  exact hP J J
 ·refine ax<|ARun.qv (bS J J) J<|rA J J<|rN<|cD h J (fun h=>?_) (fun h=>?_)
  ·refine ax<|rM J J<|aq h fun v5 e3 h=>Gx J J (vx kP e3) (.cons (.co (.refl _)) (.cons (.wo _ _ _ .p1 (.cons (.co (.refl _)) (.cons (.co (.refl _)) (.cons (.co (.refl _)) (.cons (.co (.refl _)) (.cons (.co (.refl _)) (.cons (.co (.refl _)) (.cons (.co (.refl _)) (.cons (.co (.refl _)) (.cons (.co (.refl _)) (.cons (.co (.refl _)) (.cons (.co (.refl _)) .nil)))))))))))) (.cons (.wo _ _ _ .p0 (.cons (.co (.refl _)) (.cons (.co (.refl _)) (.cons (.co (.refl _)) (.cons (.co (.refl _)) (.cons (.co (.refl _)) (.cons (.co (.refl _)) (.cons (.co (.refl _)) (.cons (.co (.refl _)) .nil))))))))) .nil))) J J<|rA J J<|rN<|ATodo.ret<|?_
   cases h
   exact hP J J
  ·refine ax<|ARun.qv (bS J J) J<|rA J J<|rN<|cD h J (fun h=>?_) (fun h=>?_)
   ·refine ax<|rM J J<|aq h fun v6 e4 h=>Gx J J (vx kP e4) (.cons (.co (.refl _)) (.cons (.wo _ _ _ .p1 (.cons (.co (.refl _)) (.cons (.co (.refl _)) (.cons (.co (.refl _)) (.cons (.co (.refl _)) (.cons (.co (.refl _)) (.cons (.co (.refl _)) (.cons (.co (.refl _)) (.cons (.co (.refl _)) (.cons (.co (.refl _)) (.cons (.co (.refl _)) (.cons (.co (.refl _)) .nil)))))))))))) (.cons (.wo _ _ _ .p0 (.cons (.co (.refl _)) (.cons (.co (.refl _)) (.cons (.co (.refl _)) (.cons (.co (.refl _)) (.cons (.co (.refl _)) (.cons (.co (.refl _)) (.cons (.co (.refl _)) (.cons (.co (.refl _)) .nil))))))))) .nil))) J J<|ARun.qv (bt J) J<|rA J J<|rN<|ATodo.ret<|?_
    cases h
    exact hP J J
   ·refine ax<|ARun.qv (bS J J) J<|rA J J<|rN<|cD h J (fun h=>?_) (fun h=>?_)
    ·refine ax<|ARun.qv (ao J J .p0 J) J<|rF J J J<|rL J J .p1 J J<|aq h fun v7 e5 h=>aA J (CY e5) cR J<|ARun.qv (GK (ft:=3) (off:=0) ⟨_,_,Tryz.underlying101,J,J,J⟩ J J J) J<|ARun.qv (du J J) J<|rA J J<|rN<|ATodo.ret<|?_
     cases h
     exact hP J J
    ·refine tK<|ATodo.bU<|tS<|ax<|rF J J J<|rL J J .p1 J J<|ARun.qv (fS J J) J<|rN<|cD h J (fun h=>?_) (fun h=>?_)
     ·refine tS<|ATodo.ck (id:=12) (A:=[0,1,0,4,12,0,32,124,255,511]) 10 mixed J (by kernel_rfl) (by kernel_rfl)<|AM.qv (an J J) J<|AM.qv (az J J .p1 J) J<|AM.qv (an J J) J<|AM.qv (an J J) J<|AM.qv (aU J J .p0 J J) J<|AM.qv (an J J) J<|AM.qv (aU J J .p1 J J) J<|aq h fun v8 e6 h=>AM.dv J (Cy e6) cR J<|aq h fun v9 e7 h=>AM.dv J (BN e7) cR J<|AM.qv (bM J) J<|AM.nil<|rN<|ATodo.ret<|?_
      cases h
      exact hP J J
     ·refine tK<|ax<|ARun.qv (ao J J .p0 J) J<|rF J J J<|rL J J .p1 J J<|aq h fun v10 e8 h=>aA J (CY e8) cR J<|bn J J J J fun ud=>au J J J J .p0 J J<|rN<|tS<|ax<|rF J J J<|rL J J .p0 J J<|rF J J J<|rF J J J<|rL J J .p2 J J<|ARun.qv (du J J) J<|rN<|cD h J (fun h=>?_) (fun h=>?_)
      ·refine ax<|rA J J<|rN<|ATodo.ret<|?_
       cases h
       exact hP J J
      ·refine tK<|tS<|ATodo.ck (id:=16) (A:=[0,1,0,4,12,31,0,64,0,256,768,2047,4095,8191,16383]) 15 mixed J (by kernel_rfl) (by kernel_rfl)<|AM.qv (an J J) J<|AM.qv (az J J .p0 J) J<|AM.qv (an J J) J<|AM.qv (an J J) J<|AM.qv (az J J .p2 J) J<|AM.dv J (dL J) cR J<|AM.qv (an J J) J<|AM.qv (az J J .p0 J) J<|AM.qv (an J J) J<|AM.qv (an J J) J<|AM.qv (az J J .p2 J) J<|AM.dv J (eF J) cR J<|AM.aY (xs:=([(cmp_Compare_int v10.Number aa.Value.Number),(Lib.compareBytes v10.Words aa.Value.Words)]:List Int).map I) J J J J J J<|aq h fun v12 e9 h=>AM.dv J (mT e9) cR J<|AM.qv (bM J) J<|AM.nil<|rN<|tS<|ax<|rF J J J<|rL J J .p0 J J<|rF J J J<|rF J J J<|rL J J .p2 J J<|ARun.qv (Md J J) J<|rN<|ATodo.cut (fun aB=>∃ (n13:Int),jU aa n13=some r∧aB=⟨83,[(2,.ptr b1 0),(7,I n13)],[(b1,.cells (xi aa))]⟩) ?_ ?_
       ·refine cB h J (fun h=>?_) (fun h=>?_)
        ·exact tR<|rA J J<|rN<|ATodo.stop<|ImpX.lq [2] ⟨(1:Int),h,J⟩ J J
        ·exact tK<|ATodo.stop<|ImpX.lq [2] ⟨v12,h,J⟩ J J
       ·rintro aB ⟨n13,h,rfl⟩
        unfold jU at h
        refine ax<|rF J J J<|rL J J .p0 J J<|rM J J<|aq h fun lW zM h=>aA J (BN zM) cR J<|rA J J<|rN<|ATodo.ret<|?_
        cases h
        exact hP J J
theorem BO [GI:bc]:∀ (k:Nat) {aa:Query} {ah:aE} {r:Bool},ij k aa ah=some r→Pu Tryz.prog 82 [.agg [I aa.Kind,.str aa.Field,.str aa.Op,I aa.Value.Kind,.bool aa.Value.bV,I aa.Value.Number,.str aa.Value.Words,I aa.Version.bH,I aa.Version.bI,I aa.Version.bF,oX aa.Kids],aE.av ah] (.bool r):=by
 intro k
 induction k with
 | zero=>intro aa ah r h;cases h
 | succ k ih=>intro aa ah r h;exact AN ih h
theorem DE [GI:bc] {aa:Query} {ah:aE} {r:Bool} (h:iN aa ah=some r):Pu Tryz.prog 82 [.agg [I aa.Kind,.str aa.Field,.str aa.Op,I aa.Value.Kind,.bool aa.Value.bV,I aa.Value.Number,.str aa.Value.Words,I aa.Version.bH,I aa.Version.bI,I aa.Version.bF,oX aa.Kids],aE.av ah] (.bool r):=BO depth h
theorem H7 [GI:bc] {aa:Reason} {ah:Reason} {r:Int} (h:xG aa ah=some r):Pu Tryz.prog 84 [Reason.av aa,Reason.av ah] (I r):=by
 unfold xG at h
 refine ACall.aQ Tryz.func84 J Tryz.ntmps84 Tryz.results84 J J ?_
 refine ax<|bO J J J J fun b1=>bO J J J J fun b2=>rA J J<|rN<|tS<|ATodo.ck (id:=1) (A:=[0,1,0,4,15,0,32,0,128,511,1023,2047,4095]) 13 mixed J (by kernel_rfl) (by kernel_rfl)<|AM.qv (an J J) J<|AM.qv (az J J .p1 J) J<|AM.qv (an J J) J<|AM.qv (az J J .p0 J) J<|AM.dv J (dL J) cR J<|AM.qv (an J J) J<|AM.qv (az J J .p1 J) J<|AM.qv (an J J) J<|AM.qv (az J J .p0 J) J<|AM.dv J (eF J) cR J<|AM.aY (xs:=([(cmp_Compare_int aa.aK ah.aK),(Lib.compareBytes aa.bA ah.bA)]:List Int).map I) J J J J J J<|aq h fun v3 e1 h=>AM.dv J (mT e1) cR J<|AM.qv (bM J) J<|AM.nil<|rN<|ATodo.ret<|?_
 cases h
 exact hP J J
theorem Cz [GI:bc] {aa:bb} {ah:ae} {aT:ae} {bG:aE} {eB:Int} {r:(List Reason)} (h:vZ aa ah aT bG eB=some r):Pu Tryz.prog 22 [bb.av aa,.str ah,.str aT,aE.av bG,I eB] (Ly r):=by
 unfold vZ at h
 refine ACall.aQ Tryz.func22 J Tryz.ntmps22 Tryz.results22 J J ?_
 refine ax<|bO J J J J fun b1=>bO J J J J fun b2=>rA J J<|rN<|ax<|rA J J<|rN<|tS<|ax<|ARun.qv (ao J J .p1 J) J<|rM J J<|rM J J<|rF J J J<|rF J J J<|rL J J .p0 J J<|aq h fun v3 e1 h=>eE J (x7 e1) cR .nil (fun _=>J) J fun b4=>ARun.qv (iO J) J<|rM J J<|rN<|ATodo.block<|ATodo.bT (fun x:(List Reason)×Int=>mQ aa ah aT bG eB v3 x.1 x.2) (fun x aB=>∃ (b8:Bk),aB=⟨112,[(1,.str ah),(2,.str aT),(4,I eB),(5,.ptr b1 0),(8,.ptr b2 0),(11,.sl 2 b8 0 x.1.length),(24,.sl 1 b4 0 v3.length),(25,I (v3.length:Int)),(26,I x.2)],[(b1,.cells (xj aa)),(b2,.cells (zL bG)),(b8,wX x.1),(b4,Lx v3)]⟩) h ?_ ?_
 ·exact ImpX.arr (s:=11) 2 J fun ud=>ImpX.lq [3,2,0,0] ⟨ud,J⟩ J J
 ·intro x z1 aB J1 dB h ic dm
  obtain ⟨l9,n10⟩:=x
  obtain ⟨b8,rfl⟩:=dB
  replace h:mQ aa ah aT bG eB v3 l9 n10=some z1:=h
  unfold mQ at h
  refine ax<|ARun.qv (bu J J) J<|rN<|tS<|cD h J (fun h=>?_) (fun h=>?_)
  ·refine tK<|tS<|ATodo.block<|ax<|aq h fun v12 e2 h=>ARun.qv (fg J J J e2) J<|ARun.qv (iP (g:=I) J J (.inl .p3) e2 J) J<|rA J J<|rN<|tR<|rM J J<|rM J J<|ARun.qv (bl J J J J J) J<|aC (xs:=([(⟨v12,[]⟩:Reason)]).map Reason.av) J J J J J J<|aq h fun Ue e3 h=>cS (g:=Reason.av) J J J J J J J J (.list _) e3 (fun _=>.p2) J fun vK=>rA J J<|rN<|ATodo.bU<|tR<|ARun.qv (bh J J) J<|rM J J<|rN<|ATodo.stop<|?_
   cases h
   exact ic _ _ J<|ImpX.lq [0,0,0,0] ⟨vK,J⟩ J J
  ·refine ATodo.exit J<|have h:=bz h dm;tS<|ax<|rF J J J<|rL J J .p0 J J<|ARun.qv (bD J) J<|rM J J<|rN<|ATodo.block<|ATodo.bT (fun x:(List Reason)×Int=>sQ aa ah aT bG eB x.1 x.2) (fun x aB=>∃ (GP:Bk),aB=⟨112,[(1,.str ah),(2,.str aT),(4,I eB),(5,.ptr b1 0),(8,.ptr b2 0),(11,.sl 2 GP 0 x.1.length),(37,xZ aa.aI),(38,I (aa.aI.length:Int)),(39,I x.2)],[(b1,.cells (xj aa)),(b2,.cells (zL bG)),(GP,wX x.1)]⟩) h ?_ ?_
   ·exact ImpX.lq [0,0,0] ⟨b8,J⟩ J J
   ·intro x z2 aB J2 dB h zN uS
    obtain ⟨Cb,n20⟩:=x
    obtain ⟨GP,rfl⟩:=dB
    replace h:sQ aa ah aT bG eB Cb n20=some z2:=h
    unfold sQ at h
    refine ax<|ARun.qv (bu J J) J<|rN<|tS<|cD h J (fun h=>?_) (fun h=>?_)
    ·refine tK<|tS<|ATodo.cut (fun aB=>∃ (Uk:Bk) (SF:List Reason),sP n20 SF=some z2∧aB=⟨112,[(1,.str ah),(2,.str aT),(4,I eB),(5,.ptr b1 0),(8,.ptr b2 0),(11,.sl 2 Uk 0 SF.length),(37,xZ aa.aI),(38,I (aa.aI.length:Int)),(39,I n20)],[(b1,.cells (xj aa)),(b2,.cells (zL bG)),(Uk,wX SF)]⟩) ?_ ?_
     ·refine ATodo.block<|ax<|aq h fun v23 e4 h=>ARun.qv (aP J J J e4 J J) J<|ARun.qv (aH J J J) J<|bn J J J J fun SO=>au J J J J .p0 J J<|rN<|tS<|tS<|ATodo.cut (fun aB=>∃ (Yj:Bool),kG aa ah aT Cb n20 v23 Yj=some z2∧aB=⟨112,[(1,.str ah),(2,.str aT),(4,I eB),(5,.ptr b1 0),(8,.ptr b2 0),(11,.sl 2 GP 0 Cb.length),(15,.ptr SO 0),(37,xZ aa.aI),(38,I (aa.aI.length:Int)),(39,I n20),(88,.bool Yj)],[(b1,.cells (xj aa)),(b2,.cells (zL bG)),(GP,wX Cb),(SO,.cells (Rv v23))]⟩) ?_ ?_
      ·refine ATodo.ck (id:=10) (A:=[0,0,2,6,15,31,63,127,127,383,895,2047,127,4223,16383,32767,65535,131071,262143,524287,262143,2097151,4194303,8388607,16777215,33554431,33554431,100663295,234881023,536870911,1073741823,2147483647,4294967295,4294967295,12884901887,30064771071,68719476735,137438953471,274877906943,549755813887,1099511627775,549755813887,2748779069439,8796093022207,17592186044415,35184372088831]) 46 mixed J (by kernel_rfl) (by kernel_rfl)<|AM.qv (ao J J .p1 J) J<|AM.qv (an J J) J<|AM.qv (an J J) J<|AM.qv (az J J .p2 J) J<|aq h fun v26 e5 h=>AM.dv J (jF e5) cR J<|AM.qv (bu J J) J<|AM.qv (aL J) J<|AM.dA J J J (fun hc=>?_) (fun hc=>?_)
       ·refine have h:=wq hc h;AM.qv (ao J J .p1 J) J<|AM.aj J J J<|AM.qv (an J J) J<|AM.aj J J J<|AM.qv (an J J) J<|AM.aj J J J<|AM.qv (az J J .p2 J) J<|AM.aj J J J<|aq h fun HL e6 h=>AM.dv J (vw e6) cR J<|AM.aj J J J<|AM.qv (an J J) J<|AM.aj J J J<|AM.qv (az J J .p0 J) J<|AM.aj J J J<|aq h fun v28 e7 h=>AM.dv J (ba e7) cR J<|AM.aj J J J<|AM.qv (bt J) J<|AM.qv (eD J J) J<|AM.qv (aL J) J<|AM.guard J J J (fun hc=>?_) (fun hc=>?_)
        ·refine have h:=gw hc h;AM.qv (an J J) J<|AM.aj J J J<|AM.qv (aU J J .p0 J J) J<|AM.aj J J J<|AM.qv (ao J J .p2 J) J<|AM.aj J J J<|aq h fun EF e8 h=>AM.dv J (DE e8) cR J<|AM.aj J J J<|AM.qv (bt J) J<|AM.qv (eD J J) J<|AM.qv (aL J) J<|AM.guard J J J (fun hc=>?_) (fun hc=>?_)
         ·refine have h:=gw hc h;AM.qv (aL J) J<|AM.aj J J J<|AM.qv (an J J) J<|AM.aj J J J<|AM.qv (an J J) J<|AM.aj J J J<|AM.qv (az J J .p0 J) J<|AM.aj J J J<|AM.qv (bu J J) J<|AM.qv (eD J J) J<|AM.qv (aL J) J<|AM.dA J J J (fun hc=>?_) (fun hc=>?_)
          ·refine have h:=wq hc h;AM.qv (aL J) J<|AM.aj J J J<|AM.qv (an J J) J<|AM.aj J J J<|AM.qv (an J J) J<|AM.aj J J J<|AM.qv (az J J .p0 J) J<|AM.aj J J J<|AM.qv (uu J J) J<|AM.qv (eD J J) J<|AM.qv (aL J) J<|AM.dA J J J (fun hc=>?_) (fun hc=>?_)
           ·exact have h:=wq hc h;AM.qv (an J J) J<|AM.aj J J J<|AM.qv (az J J .p0 J) J<|AM.aj J J J<|AM.qv (aL J) J<|AM.aj J J J<|AM.aY (xs:=([aT]:List ae).map AV.str) J J J J J J<|AM.aj J J J<|aq h fun v30 e9 h=>AM.dv J (Ai e9) cR J<|AM.aj J J J<|AM.qv (bt J) J<|AM.qv (eD J J) J<|AM.nil<|rN<|ATodo.stop<|ImpX.lq [1,1,1,0] ⟨!v30,h,J⟩ J J
           ·exact have h:=gr hc h;AM.ai J J J J<|AM.ai J J J J<|AM.ai J J J J<|AM.ai J J J J<|AM.ai J J J J<|AM.qv (cJ J J) J<|AM.nil<|rN<|ATodo.stop<|ImpX.lq [1,1,1,0] ⟨true,h,J⟩ J J
          ·exact have h:=gr hc h;AM.ai J J J J<|AM.ai J J J J<|AM.ai J J J J<|AM.ai J J J J<|AM.qv (cJ J J) J<|AM.qv (aL J) J<|AM.ai J J J J<|AM.ai J J J J<|AM.ai J J J J<|AM.ai J J J J<|AM.ai J J J J<|AM.ai J J J J<|AM.qv (cJ J J) J<|AM.nil<|rN<|ATodo.stop<|ImpX.lq [1,1,1,0] ⟨true,h,J⟩ J J
         ·exact have h:=gr hc h;AM.ai J J J J<|AM.ai J J J J<|AM.ai J J J J<|AM.ai J J J J<|AM.qv (cJ J J) J<|AM.qv (aL J) J<|AM.ai J J J J<|AM.ai J J J J<|AM.ai J J J J<|AM.ai J J J J<|AM.ai J J J J<|AM.qv (cJ J J) J<|AM.qv (aL J) J<|AM.ai J J J J<|AM.ai J J J J<|AM.ai J J J J<|AM.ai J J J J<|AM.ai J J J J<|AM.ai J J J J<|AM.qv (cJ J J) J<|AM.nil<|rN<|ATodo.stop<|ImpX.lq [1,1,1,0] ⟨true,h,J⟩ J J
        ·exact have h:=gr hc h;AM.ai J J J J<|AM.ai J J J J<|AM.ai J J J J<|AM.ai J J J J<|AM.qv (cJ J J) J<|AM.qv (aL J) J<|AM.ai J J J J<|AM.ai J J J J<|AM.ai J J J J<|AM.ai J J J J<|AM.ai J J J J<|AM.qv (cJ J J) J<|AM.qv (aL J) J<|AM.ai J J J J<|AM.ai J J J J<|AM.ai J J J J<|AM.ai J J J J<|AM.ai J J J J<|AM.qv (cJ J J) J<|AM.qv (aL J) J<|AM.ai J J J J<|AM.ai J J J J<|AM.ai J J J J<|AM.ai J J J J<|AM.ai J J J J<|AM.ai J J J J<|AM.qv (cJ J J) J<|AM.nil<|rN<|ATodo.stop<|ImpX.lq [1,1,1,0] ⟨true,h,J⟩ J J
       ·exact have h:=gr hc h;AM.ai J J J J<|AM.ai J J J J<|AM.ai J J J J<|AM.ai J J J J<|AM.ai J J J J<|AM.ai J J J J<|AM.ai J J J J<|AM.ai J J J J<|AM.qv (cJ J J) J<|AM.qv (aL J) J<|AM.ai J J J J<|AM.ai J J J J<|AM.ai J J J J<|AM.ai J J J J<|AM.ai J J J J<|AM.qv (cJ J J) J<|AM.qv (aL J) J<|AM.ai J J J J<|AM.ai J J J J<|AM.ai J J J J<|AM.ai J J J J<|AM.ai J J J J<|AM.qv (cJ J J) J<|AM.qv (aL J) J<|AM.ai J J J J<|AM.ai J J J J<|AM.ai J J J J<|AM.ai J J J J<|AM.ai J J J J<|AM.qv (cJ J J) J<|AM.qv (aL J) J<|AM.ai J J J J<|AM.ai J J J J<|AM.ai J J J J<|AM.ai J J J J<|AM.ai J J J J<|AM.ai J J J J<|AM.qv (cJ J J) J<|AM.nil<|rN<|ATodo.stop<|ImpX.lq [1,1,1,0] ⟨true,h,J⟩ J J
      ·rintro aB ⟨Yj,h,rfl⟩
       unfold kG at h
       refine cB h J (fun h=>?_) (fun h=>?_)
       ·exact ATodo.exit J<|ATodo.stop<|ImpX.lq [0,0,0] ⟨GP,Cb,h,J⟩ J J
       ·refine tK<|ax<|ARun.qv (ao J J .p0 J) J<|rM J J<|rM J J<|rF J J J<|rL J J .p3 J J<|aq h fun v31 zM h=>eE J (x7 zM) cR .nil (fun _=>J) J fun SM=>ARun.qv (iO J) J<|rM J J<|rN<|ATodo.block<|ATodo.bT (fun x:(List Reason)×Int=>mP n20 v23 v31 x.1 x.2) (fun x aB=>∃ (b36:Bk),aB=⟨112,[(1,.str ah),(2,.str aT),(4,I eB),(5,.ptr b1 0),(8,.ptr b2 0),(11,.sl 2 b36 0 x.1.length),(15,.ptr SO 0),(37,xZ aa.aI),(38,I (aa.aI.length:Int)),(39,I n20),(94,.sl 1 SM 0 v31.length),(95,I (v31.length:Int)),(96,I x.2)],[(b1,.cells (xj aa)),(b2,.cells (zL bG)),(b36,wX x.1),(SO,.cells (Rv v23)),(SM,Lx v31)]⟩) h ?_ ?_
        ·exact ImpX.lq [1,1,1,1,0] ⟨GP,J⟩ J J
        ·intro x z3 aB J3 dB h Qb N2
         obtain ⟨Vu,n38⟩:=x
         obtain ⟨b36,rfl⟩:=dB
         replace h:mP n20 v23 v31 Vu n38=some z3:=h
         unfold mP at h
         refine ax<|ARun.qv (bu J J) J<|rN<|tS<|cD h J (fun h=>?_) (fun h=>?_)
         ·refine tK<|tS<|ATodo.block<|ax<|aq h fun v39 AZ h=>ARun.qv (fg J J J AZ) J<|ARun.qv (iP (g:=I) J J (.inl .p4) AZ J) J<|rA J J<|rN<|tR<|rM J J<|rM J J<|rF J J J<|rL J J .p3 J J<|ARun.qv (bl J J J J J) J<|aC (xs:=([(⟨v39,v23.Key⟩:Reason)]).map Reason.av) J J J J J J<|aq h fun B9 FX h=>cS (g:=Reason.av) J J J J J J J J (.list _) FX (fun _=>.p2) J fun W9=>rA J J<|rN<|ATodo.bU<|tR<|ARun.qv (bh J J) J<|rM J J<|rN<|ATodo.stop<|?_
          cases h
          exact Qb _ _ J<|ImpX.lq [0,0,0,0,0] ⟨W9,J⟩ J J
         ·exact ATodo.exit J<|have h:=bz h N2;ATodo.bU<|ATodo.stop<|ImpX.lq [0,0,0] ⟨b36,Vu,h,J⟩ J J
     ·rintro aB ⟨Uk,SF,h,rfl⟩
      unfold sP at h
      refine tR<|ARun.qv (bh J J) J<|rM J J<|rN<|ATodo.stop<|?_
      cases h
      exact zN _ _ J<|ImpX.lq [0,0,0] ⟨Uk,J⟩ J J
    ·refine ATodo.exit J<|have h:=bz h uS;?_
     unfold AK at h
     refine ax<|rM J J<|aq h fun Vv FY h=>aJ J (lT (fun e=>H7 (GI:=xk) e) (DO FY)) cR (.cons .p2 .nil) J J<|ARun.ghost<|ImpX.eqs (s:=11) (pz:=.sl 2 GP 0 Vv.length) J (congrArg (AV.sl 2 GP 0) (s0 FY))<|ImpX.here<|ARun.ghost<|ImpX.eqs (s:=109) (pz:=.sl 2 GP 0 Vv.length) J (congrArg (AV.sl 2 GP 0) (s0 FY))<|ImpX.here<|rN<|ax<|rM J J<|rA J J<|rN<|ATodo.ret<|?_
     cases h
     exact ImpX.freeze .p0<|ImpX.co (s:=10) J (Co.Ck .p0)<|ImpX.here ⟨_,.cons (.tmp _ _ J) .nil,J⟩
theorem uo [GI:bc] {aa:List Reason} {ah:List Reason} {r:Bool} (h:gR aa ah=some r):Pu Tryz.prog 23 [Ly aa,Ly ah] (.bool r):=by
 unfold gR at h
 refine ACall.aQ Tryz.func23 J Tryz.ntmps23 Tryz.results23 J J ?_
 refine ax<|rA J J<|rN<|tS<|ax<|rM J J<|ARun.qv (bD J) J<|rM J J<|ARun.qv (bD J) J<|ARun.qv (du J J) J<|rN<|cD h J (fun h=>?_) (fun h=>?_)
 ·refine ax<|rA J J<|rN<|ATodo.ret<|?_
  cases h
  exact hP J J
 ·refine tK<|tS<|ax<|rM J J<|ARun.qv (bD J) J<|rM J J<|rN<|ATodo.block<|ATodo.bT (fun x:Int=>fN aa ah x) (fun x aB=>aB=⟨26,[(0,Ly aa),(1,Ly ah),(12,I (aa.length:Int)),(13,I x)],[]⟩) h ?_ ?_
  ·exact ImpX.lq [] J J J
  ·intro n2 z1 aB J1 dB h ic dm
   obtain rfl:=dB
   replace h:fN aa ah n2=some z1:=h
   unfold fN at h
   refine ax<|ARun.qv (bu J J) J<|rN<|tS<|cD h J (fun h=>?_) (fun h=>?_)
   ·refine tK<|tS<|ATodo.block<|ax<|rM J J<|rA J J<|rN<|tS<|ATodo.ck (id:=6) (A:=[0,0,3,7,0,0,48,112,255]) 9 mixed J (by kernel_rfl) (by kernel_rfl)<|AM.qv (aL J) J<|AM.qv (aL J) J<|aq h fun v3 e1 h=>AM.qv (aP J J J e1 J J) J<|AM.qv (aH J J J) J<|AM.qv (aL J) J<|AM.qv (aL J) J<|aq h fun v4 e2 h=>AM.qv (aP J J J e2 J J) J<|AM.qv (aH J J J) J<|AM.qv (Aa (g:=Reason.av) (X:=v3) (Y:=v4) J J J J J) J<|AM.nil<|rN<|cD h J (fun h=>?_) (fun h=>?_)
    ·refine ax<|rA J J<|rN<|ATodo.ret<|have h:=bz h dm;?_
     cases h
     exact hP J J
    ·refine tK<|ATodo.bU<|tR<|ARun.qv (bh J J) J<|rM J J<|rN<|ATodo.stop<|?_
     cases h
     exact ic _ _ J<|ImpX.lq [] J J J
   ·refine ATodo.exit J<|have h:=bz h dm;ax<|rA J J<|rN<|ATodo.ret<|?_
    cases h
    exact hP J J
theorem uq [GI:bc] {aa:List ae} {r:(List ae)} (h:gS aa=some r):ACall Tryz.prog 240 [.list 1 (aa.map AV.str)] [] (T1 (fun iC=>[(iC,.arr 1 (r.map AV.str))]) (fun iC=>.sl 1 iC 0 r.length)):=by
 unfold gS at h
 refine ACall.dN ?_
 refine ACall.aQ Tryz.func240 J Tryz.ntmps240 Tryz.results240 J J ?_
 refine ATodo.seq ?_
 refine ATodo.region ?_
 refine ARun.qv (bM J) J ?_
 refine ARun.nil ?_
 refine ATodo.seq ?_
 refine ATodo.seq ?_
 refine ATodo.region ?_
 refine ARun.qv (aL J) J ?_
 refine Mq J J J J (fun c hc=>?_)
 refine ARun.nil ?_
 refine ATodo.cond J (fun hT=>?_) (fun hF=>?_)
 ·obtain rfl:=Bj h (List.map_eq_nil_iff.1 (hc hT))
  refine ATodo.seq ?_
  refine ATodo.region ?_
  refine ARun.qv (bM J) J ?_
  refine ARun.nil ?_
  refine ATodo.ret ?_
  refine ImpX.arr (s:=2) 1 J (fun b1=>?_)
  exact ImpX.here ⟨_,.cons (.tmp _ _ J) .nil,_,.cons .here .nil,⟨b1,J,J⟩⟩
 ·refine ATodo.skip ?_
  refine ATodo.seq ?_
  refine ATodo.region ?_
  refine rf (xs:=([]:List ae).map AV.str) J J J J J J (fun b2=>?_)
  refine ARun.qv (aL J) J ?_
  refine cS (g:=AV.str) (Xs:=[]) J J J J J J J J (.list _) h (fun _=>.here) J (fun b3=>?_)
  refine ARun.qv (bM J) J ?_
  refine ARun.nil ?_
  refine ATodo.ret ?_
  exact ImpX.here ⟨_,.cons (.tmp _ _ J) .nil,_,.cons .here .nil,⟨b3,J,J⟩⟩
theorem Qh [GI:bc] {aa:List ae} {r:(List ae)} (h:HM aa=some r):ACall Tryz.prog 168 [ph aa] [] (T1 (fun iC=>[(iC,pw r)]) (fun iC=>.sl 1 iC 0 r.length)):=by
 unfold HM at h
 refine ACall.dN ?_
 refine ACall.aQ Tryz.func168 J Tryz.ntmps168 Tryz.results168 J J ?_
 refine ax<|rA J J<|rN<|ax<|rM J J<|aq h fun v1 e1 h=>eE J (uq e1) cR .nil (fun _=>J) J fun b2=>rA J J<|rN<|ax<|rM J J<|aq h fun v3 e2 h=>aJ J (ov (DO e2)) cR (.cons .p0 .nil) J J<|ARun.ghost<|ImpX.eqs (s:=0) (pz:=.sl 1 b2 0 v3.length) J (congrArg (AV.sl 1 b2 0) (s0 e2))<|ImpX.here<|ARun.ghost<|ImpX.eqs (s:=4) (pz:=.sl 1 b2 0 v3.length) J (congrArg (AV.sl 1 b2 0) (s0 e2))<|ImpX.here<|ARun.ghost<|ImpX.eqs (s:=5) (pz:=.sl 1 b2 0 v3.length) J (congrArg (AV.sl 1 b2 0) (s0 e2))<|ImpX.here<|rN<|ax<|rM J J<|aq h fun v4 e3 h=>eE J (mA e3) cR (.cons .p0 .nil) (fun _=>J) J fun b5=>rA J J<|rN<|ATodo.ret<|?_
 cases h
 exact hH J [0] J ⟨b5,J,J⟩
theorem JU [GI:bc] {aa:List bb} {r:(List ae)} (h:wW aa=some r):ACall Tryz.prog 86 [VB aa] [] (T1 (fun iC=>[(iC,pw r)]) (fun iC=>.sl 1 iC 0 r.length)):=by
 unfold wW at h
 refine ACall.dN ?_
 refine ACall.aQ Tryz.func86 J Tryz.ntmps86 Tryz.results86 J J ?_
 refine ax<|rA J J<|rN<|ax<|rA J J<|rN<|tS<|ax<|rM J J<|ARun.qv (bD J) J<|rM J J<|rN<|ATodo.block<|ATodo.bT (fun x:(List ae)×Int=>sc aa x.1 x.2) (fun x aB=>∃ (b4:Bk),aB=⟨30,[(3,.sl 1 b4 0 x.1.length),(8,VB aa),(9,I (aa.length:Int)),(10,I x.2)],[(b4,pw x.1)]⟩) h ?_ ?_
 ·exact ImpX.arr (s:=3) 1 J fun b7=>ImpX.lq [0] ⟨b7,J⟩ J J
 ·intro x z1 aB J1 dB h ic dm
  obtain ⟨l5,n6⟩:=x
  obtain ⟨b4,rfl⟩:=dB
  replace h:sc aa l5 n6=some z1:=h
  unfold sc at h
  refine ax<|ARun.qv (bu J J) J<|rN<|tS<|cD h J (fun h=>?_) (fun h=>?_)
  ·refine tK<|tS<|ATodo.block<|ax<|aq h fun v8 e1 h=>ARun.qv (aP J J J e1 J J) J<|ARun.qv (aH J J J) J<|bn J J J J fun b9=>au J J J J .p0 J J<|rN<|ax<|rF J J J<|rL J J .p0 J J<|ARun.qv (bD J) J<|rM J J<|rN<|ATodo.block<|ATodo.bT (fun x:(List ae)×Int=>jE n6 v8 x.1 x.2) (fun x aB=>∃ (yK:Bk),aB=⟨30,[(3,.sl 1 yK 0 x.1.length),(8,VB aa),(9,I (aa.length:Int)),(10,I n6),(15,zK v8.aD),(16,I (v8.aD.length:Int)),(17,I x.2)],[(yK,pw x.1)]⟩) h ?_ ?_
   ·exact ImpX.lq [1] ⟨b4,J⟩ J J
   ·intro x z2 aB J2 dB h zN uS
    obtain ⟨xh,n15⟩:=x
    obtain ⟨yK,rfl⟩:=dB
    replace h:jE n6 v8 xh n15=some z2:=h
    unfold jE at h
    refine ax<|ARun.qv (bu J J) J<|rN<|tS<|cD h J (fun h=>?_) (fun h=>?_)
    ·refine tK<|tS<|ATodo.block<|ax<|aq h fun dU e2 h=>ARun.qv (aP J J J e2 J J) J<|ARun.qv (aH J J J) J<|bn J J J J fun wz=>au J J J J .p0 J J<|rN<|tR<|rM J J<|rF J J J<|rL J J .p0 J J<|aC (xs:=([dU.lV]:List ae).map AV.str) J J J J J J<|aq h fun AY e3 h=>cS (g:=AV.str) J J J J J J J J (.list _) e3 (fun _=>.p1) J fun FA=>rA J J<|rN<|ATodo.bU<|tR<|ARun.qv (bh J J) J<|rM J J<|rN<|ATodo.stop<|?_
     cases h
     exact zN _ _ J<|ImpX.lq [1] ⟨FA,J⟩ J J
    ·refine ATodo.exit J<|have h:=bz h uS;ATodo.bU<|tR<|ARun.qv (bh J J) J<|rM J J<|rN<|ATodo.stop<|?_
     cases h
     exact ic _ _ J<|ImpX.lq [0] ⟨yK,J⟩ J J
  ·refine ATodo.exit J<|have h:=bz h dm;?_
   unfold xI at h
   refine ax<|rM J J<|aq h fun v20 e4 h=>Bl J (Qh e4) .nil (.cons (vI.uf .p0) .nil) (fun _=>J) (fun _=>J) (fun _=>(.cons (Sc.uf (fun _=>J)) .nil)) J fun Uk=>rA J J<|rN<|ATodo.ret<|?_
   cases h
   exact hH J [0] J ⟨Uk,J,J⟩
theorem H8 [GI:bc] {aa:ae} {ah:bb} {aT:ae} {bG:aE} {eB:Int} {r:Bool} (h:sR aa ah aT bG eB=some r):Pu Tryz.prog 87 [.str aa,.ik [yg ah.al,By ah.bj,zK ah.aD,xZ ah.aI],.ik [.str aT],.ik [.str bG.Device.Key,.str bG.Device.Model,.str bG.Device.ar,I bG.Device.dO.bH,I bG.Device.dO.bI,I bG.Device.dO.bF,N0 bG.Device.kO,N1 bG.ey],.ik [I eB]] (.bool r):=by
 unfold sR at h
 refine ACall.aQ Tryz.func87 J Tryz.ntmps87 Tryz.results87 J J ?_
 refine ax<|rA J J<|rN<|ax<|ARun.qv (aH J J J) J<|rM J J<|ARun.qv (aG J J J) J<|ARun.qv (aH J J J) J<|ARun.qv (aG J J J) J<|aq h fun v1 e1 h=>aA J (Cz e1) cR J<|ARun.qv (bD J) J<|ARun.qv (bS J J) J<|rA J J<|rN<|ATodo.ret<|?_
 cases h
 exact hP J J
theorem qS [GI:bc] {bd:Bk} {aa:List ae} {er:ae→Option Bool} {cL:FuncId} [aZ Tryz.prog cL] {dR:List AV} (jw:∀ {y0:_} {u:Bool},er y0=some u→Pu Tryz.prog cL (.str y0 :: dR) (.bool u)) {r:(List ae)} (h:ff aa er=some r):ACall Tryz.prog 85 [.sl 1 bd 0 aa.length,.func (.func cL) dR] [(bd,pw aa)] (T1 (fun iC=>[(iC,pw r)]) (fun iC=>.sl 1 iC 0 r.length)):=by
 unfold ff at h
 refine ACall.dN ?_
 refine ACall.aQ Tryz.func85 J Tryz.ntmps85 Tryz.results85 J J ?_
 refine ax<|rA J J<|rN<|ax<|rM J J<|rM J J<|aq h fun v1 e1 h=>dc J (lz jw e1) (.cons (vI.uf .p0) (.cons (.co (.refl _)) .nil)) J J<|rA J J<|rN<|tS<|ax<|rM J J<|ARun.qv (bS J J) J<|rN<|cD h J (fun h=>?_) (fun h=>?_)
 ·refine ax<|rM J J<|rA J J<|rN<|ATodo.ret<|?_
  cases h
  exact hH J [0] J ⟨bd,J,J⟩
 ·refine tK<|tS<|ax<|rM J J<|ARun.qv (bh J J) J<|rA J J<|rN<|ATodo.block<|ATodo.bT (fun x:(List ae)×Int×Int=>ea er x.1 x.2.1 x.2.2) (fun x aB=>aB=⟨42,[(0,.sl 1 bd 0 x.1.length),(1,.func (.func cL) dR),(5,I x.2.1),(6,I x.2.2)],[(bd,pw x.1)]⟩) h ?_ ?_
  ·exact ImpX.lq [0] J J J
  ·intro x z1 aB J1 dB h ic dm
   obtain ⟨l5,n6,n7⟩:=x
   obtain rfl:=dB
   replace h:ea er l5 n6 n7=some z1:=h
   unfold ea at h
   refine tS<|ax<|rM J J<|rM J J<|ARun.qv (iO J) J<|ARun.qv (bu J J) J<|rN<|cD h J (fun h=>?_) (fun h=>?_)
   ·refine tK<|tS<|ATodo.block<|ax<|rM J J<|rM J J<|aq h fun v8 e2 h=>ARun.qv (fg J J J e2) J<|ARun.qv (iP (g:=AV.str) J J (.inl .p0) e2 J) J<|rA J J<|rN<|ax<|rM J J<|rM J J<|aq h fun v9 e3 h=>tG J J (jw e3) cR J<|ARun.qv (bt J) J<|rN<|ATodo.cut (fun aB=>∃ (l10:List ae) (n11:Int),dZ n7 l10 n11=some z1∧aB=⟨42,[(0,.sl 1 bd 0 l10.length),(1,.func (.func cL) dR),(5,I n11),(6,I n7)],[(bd,pw l10)]⟩) ?_ ?_
    ·refine cB h J (fun h=>?_) (fun h=>?_)
     ·exact ax<|rM J J<|rM J J<|rM J J<|aq h fun v12 e4 h=>ARun.qv (fg J J J e4) J<|pD (g:=AV.str) (Mm:=v8) J J J J e4 J .p0 J<|ARun.ghost<|ImpX.eqs (s:=0) (pz:=.sl 1 bd 0 (l5.set n6.toNat v8).length) J (by rw [List.length_set])<|ImpX.here<|ARun.ghost<|ImpX.eqs (s:=17) (pz:=.sl 1 bd 0 (l5.set n6.toNat v8).length) J (by rw [List.length_set])<|ImpX.here<|ARun.ghost<|ImpX.eqs (s:=22) (pz:=.sl 1 bd 0 (l5.set n6.toNat v8).length) J (by rw [List.length_set])<|ImpX.here<|ARun.ghost<|ImpX.eqs (s:=30) (pz:=.sl 1 bd 0 (l5.set n6.toNat v8).length) J (by rw [List.length_set])<|ImpX.here<|rN<|tR<|rM J J<|ARun.qv (bh J J) J<|rA J J<|rN<|ATodo.stop<|ImpX.lq [0] ⟨l5.set n6.toNat v8,cr (n6+(1:Int)),h,J⟩ J J
     ·exact tK<|ATodo.stop<|ImpX.lq [0] ⟨l5,n6,h,J⟩ J J
    ·rintro aB ⟨l10,n11,h,rfl⟩
     unfold dZ at h
     refine ATodo.bU<|tR<|rM J J<|ARun.qv (bh J J) J<|rA J J<|rN<|ATodo.stop<|?_
     cases h
     exact ic _ _ J<|ImpX.lq [0] J J J
   ·refine ATodo.exit J<|have h:=bz h dm;?_
    unfold kH at h
    refine ax<|rM J J<|rM J J<|aq h fun Ue e5 h=>ARun.qv (lH J J (.some _ _ _ J) .none J J e5) J<|HC (g:=AV.str) (Z:=[]) (L:=n6) J J J J J J e5 .p0<|ARun.ghost<|ImpX.eqs (s:=0) (pz:=.sl 1 bd 0 (FK l5 n6 Ue.length []).length) J (congrArg (AV.sl 1 bd 0) (vR e5))<|ImpX.here<|ARun.ghost<|ImpX.eqs (s:=17) (pz:=.sl 1 bd 0 (FK l5 n6 Ue.length []).length) J (congrArg (AV.sl 1 bd 0) (vR e5))<|ImpX.here<|ARun.ghost<|ImpX.eqs (s:=36) (pz:=.sl 1 bd 0 (FK l5 n6 Ue.length []).length) J (congrArg (AV.sl 1 bd 0) (vR e5))<|ImpX.here<|rN<|ax<|rM J J<|rM J J<|aq h fun xh e6 h=>ARun.qv (lH J J .none (.some _ _ _ J) J J e6) J<|rA J J<|ARun.ghost<|ImpX.Jb e6 .p0<|ImpX.here<|rN<|ATodo.ret<|?_
    cases h
    exact hH J [0] J ⟨bd,J,J⟩
theorem N5 [GI:bc] {aa:bb} {ah:ae} {aT:aE} {bG:Int} {r:(List ae)} (h:Bx aa ah aT bG=some r):ACall Tryz.prog 25 [bb.av aa,.str ah,aE.av aT,I bG] [] (T1 (fun iC=>[(iC,pw r)]) (fun iC=>.sl 1 iC 0 r.length)):=by
 unfold Bx at h
 refine ACall.dN ?_
 refine ACall.aQ Tryz.func25 J Tryz.ntmps25 Tryz.results25 J J ?_
 refine ax<|bO J J J J fun b1=>bO J J J J fun b2=>bO J J J J fun b3=>bO J J J J fun b4=>rA J J<|rN<|ax<|ARun.qv (ao J J .p3 J) J<|aC (xs:=([aa]:List bb).map bb.av) J J J J J J<|aq h fun v5 e1 h=>eE J (JU e1) cR .nil (fun _=>J) J fun b6=>ARun.qv (fI J) J<|aq h fun v7 e2 h=>Bl J (qS (fun e=>H8 e) e2) (.cons .p0 .nil) (.cons (.co (.refl _)) (.cons (.uX _ _ _ (.cons (.wo _ _ _ .p3 (.cons (.co (.refl _)) (.cons (.co (.refl _)) (.cons (.co (.refl _)) (.cons (.co (.refl _)) .nil))))) (.cons (.wo _ _ _ .p2 (.cons (.co (.refl _)) .nil)) (.cons (.wo _ _ _ .p1 (.cons (.co (.refl _)) (.cons (.co (.refl _)) (.cons (.co (.refl _)) (.cons (.co (.refl _)) (.cons (.co (.refl _)) (.cons (.co (.refl _)) (.cons (.co (.refl _)) (.cons (.co (.refl _)) .nil))))))))) (.cons (.wo _ _ _ .p0 (.cons (.co (.refl _)) .nil)) .nil))))) .nil)) (fun _=>J) (fun _=>J) (fun _=>(.cons (Sc.uf (fun _=>J)) .nil)) J fun b8=>rA J J<|rN<|ATodo.ret<|?_
 cases h
 exact hH J [0] J ⟨b8,J,J⟩
theorem nB [GI:bc] {aa:List ae} {ah:List ae} {r:Bool} (h:fq aa ah=some r):Pu Tryz.prog 24 [ph aa,ph ah] (.bool r):=by
 unfold fq at h
 refine ACall.aQ Tryz.func24 J Tryz.ntmps24 Tryz.results24 J J ?_
 refine ax<|rA J J<|rN<|tS<|ax<|rM J J<|ARun.qv (bD J) J<|rM J J<|ARun.qv (bD J) J<|ARun.qv (du J J) J<|rN<|cD h J (fun h=>?_) (fun h=>?_)
 ·refine ax<|rA J J<|rN<|ATodo.ret<|?_
  cases h
  exact hP J J
 ·refine tK<|tS<|ax<|rM J J<|ARun.qv (bD J) J<|rM J J<|rN<|ATodo.block<|ATodo.bT (fun x:Int=>fO aa ah x) (fun x aB=>aB=⟨26,[(0,ph aa),(1,ph ah),(12,I (aa.length:Int)),(13,I x)],[]⟩) h ?_ ?_
  ·exact ImpX.lq [] J J J
  ·intro n2 z1 aB J1 dB h ic dm
   obtain rfl:=dB
   replace h:fO aa ah n2=some z1:=h
   unfold fO at h
   refine ax<|ARun.qv (bu J J) J<|rN<|tS<|cD h J (fun h=>?_) (fun h=>?_)
   ·refine tK<|tS<|ATodo.block<|ax<|rM J J<|rA J J<|rN<|tS<|ATodo.ck (id:=6) (A:=[0,0,3,7,0,0,48,112,255]) 9 mixed J (by kernel_rfl) (by kernel_rfl)<|AM.qv (aL J) J<|AM.qv (aL J) J<|aq h fun v3 e1 h=>AM.qv (aP J J J e1 J J) J<|AM.qv (aG J J J) J<|AM.qv (aL J) J<|AM.qv (aL J) J<|aq h fun v4 e2 h=>AM.qv (aP J J J e2 J J) J<|AM.qv (aG J J J) J<|AM.qv (qD J J) J<|AM.nil<|rN<|cD h J (fun h=>?_) (fun h=>?_)
    ·refine ax<|rA J J<|rN<|ATodo.ret<|have h:=bz h dm;?_
     cases h
     exact hP J J
    ·refine tK<|ATodo.bU<|tR<|ARun.qv (bh J J) J<|rM J J<|rN<|ATodo.stop<|?_
     cases h
     exact ic _ _ J<|ImpX.lq [] J J J
   ·refine ATodo.exit J<|have h:=bz h dm;ax<|rA J J<|rN<|ATodo.ret<|?_
    cases h
    exact hP J J
theorem E0 {aa:List aE} {r:Int} (h:pc aa=some r):Pu Tryz.prog 26 [IK aa] (I r):=by
 unfold pc at h
 refine ACall.aQ Tryz.func26 J Tryz.ntmps26 Tryz.results26 J J ?_
 refine ax<|rA J J<|rN<|tS<|ax<|rM J J<|ARun.qv (bD J) J<|ARun.qv (dJ J J) J<|rN<|cD h J (fun h=>?_) (fun h=>?_)
 ·refine ax<|rA J J<|rN<|ATodo.ret<|?_
  cases h
  exact hP J J
 ·refine tK<|tS<|ax<|rM J J<|ARun.qv (bD J) J<|rM J J<|rN<|ATodo.block<|ATodo.bT (fun x:Int=>kW aa x) (fun x aB=>aB=⟨37,[(0,IK aa),(9,IK aa),(10,I (aa.length:Int)),(11,I x)],[]⟩) h ?_ ?_
  ·exact ImpX.lq [] J J J
  ·intro n2 z1 aB J1 dB h ic dm
   obtain rfl:=dB
   replace h:kW aa n2=some z1:=h
   unfold kW at h
   refine ax<|ARun.qv (bu J J) J<|rN<|tS<|cD h J (fun h=>?_) (fun h=>?_)
   ·refine tK<|tS<|ATodo.block<|ax<|rM J J<|aq h fun v3 e1 h=>ARun.qv (aP J J J e1 J J) J<|ARun.qv (aH J J J) J<|bn J J J J fun b4=>rA J J<|au J J J J .p0 J J<|rN<|tS<|ax<|ARun.qv (ao J J .p0 J) J<|aq h fun v5 e2 h=>aA J (Ah e2) cR J<|rA J J<|rN<|ax<|rM J J<|ARun.qv (du J J) J<|rN<|cD h J (fun h=>?_) (fun h=>?_)
    ·refine ax<|rM J J<|rA J J<|rN<|ATodo.ret<|have h:=bz h dm;?_
     cases h
     exact hP J J
    ·refine tK<|tS<|ATodo.cut (fun aB=>∃ (c6:Bool),ql n2 c6=some z1∧aB=⟨37,[(0,IK aa),(9,IK aa),(10,I (aa.length:Int)),(11,I n2),(35,.bool c6)],[]⟩) ?_ ?_
     ·refine ATodo.ck (id:=9) (A:=[0,1,3,7,15,31,7,7,135,455,967,1991,4039,8191,16383]) 15 mixed J (by kernel_rfl) (by kernel_rfl)<|AM.qv (aL J) J<|AM.qv (dJ J J) J<|AM.qv (aL J) J<|AM.cA J J J (fun hc=>?_) (fun hc=>?_)
      ·exact have h:=gr hc h;AM.qv (an J J) J<|AM.aj J J J<|AM.qv (an J J) J<|AM.aj J J J<|AM.qv (az J J .p0 J) J<|AM.aj J J J<|AM.qv (aL J) J<|AM.aj J J J<|AM.qv (aL J) J<|AM.aj J J J<|AM.qv (gq J J) J<|AM.aj J J J<|aq h fun v7 e3 h=>AM.qv (aP J J J e3 J J) J<|AM.aj J J J<|AM.qv (bJ J J) J<|AM.aj J J J<|AM.qv (bJ J J) J<|AM.aj J J J<|AM.qv (aG J J J) J<|AM.aj J J J<|AM.qv (rk J J) J<|AM.qv (cJ J J) J<|AM.nil<|rN<|ATodo.stop<|ImpX.lq [] ⟨Op.bytesLess v3.Device.Key v7.Device.Key||v3.Device.Key==v7.Device.Key,h,J⟩ J J
      ·exact have h:=wq hc h;AM.ai J J J J<|AM.ai J J J J<|AM.ai J J J J<|AM.ai J J J J<|AM.ai J J J J<|AM.ai J J J J<|AM.ai J J J J<|AM.ai J J J J<|AM.ai J J J J<|AM.ai J J J J<|AM.qv (eD J J) J<|AM.nil<|rN<|ATodo.stop<|ImpX.lq [] ⟨false,h,J⟩ J J
     ·rintro aB ⟨c6,h,rfl⟩
      unfold ql at h
      refine cB h J (fun h=>?_) (fun h=>?_)
      ·refine ax<|rA J J<|rN<|ATodo.ret<|have h:=bz h dm;?_
       cases h
       exact hP J J
      ·refine tK<|ATodo.bU<|tR<|ARun.qv (bh J J) J<|rM J J<|rN<|ATodo.stop<|?_
       cases h
       exact ic _ _ J<|ImpX.lq [] J J J
   ·refine ATodo.exit J<|have h:=bz h dm;ax<|rA J J<|rN<|ATodo.ret<|?_
    cases h
    exact hP J J
theorem sx [GI:bc] {ah:Int} {r:(List ae)} (h:dQ ah=some r):ACall Tryz.prog 241 [.nil,I ah] [] (T1 (fun iC=>[(iC,pw r)]) (fun iC=>.sl 1 iC 0 r.length)):=by
 unfold dQ at h
 refine ACall.dN ?_
 refine ACall.aQ Tryz.func241 J Tryz.ntmps241 Tryz.results241 J J ?_
 refine ax<|rA J J<|rN<|tS<|ax<|rM J J<|ARun.qv (bu J J) J<|rN<|cD h J (fun h=>?_) (fun h=>?_)
 ·refine tR<|?_
  cases h
 ·refine tK<|tS<|ax<|rM J J<|rM J J<|ARun.qv (Gy J) J<|rM J J<|ARun.qv (Gg J) J<|ARun.qv (gq J J) J<|ARun.qv (gq J J) J<|rA J J<|rN<|ax<|rM J J<|ARun.qv (dJ J J) J<|rN<|ATodo.cut (fun aB=>∃ (b1:Bk) (l2:List ae),dt l2=some r∧aB=⟨27,[(0,.sl 1 b1 0 l2.length)],[(b1,pw l2)]⟩) ?_ ?_
  ·refine cD h J (fun h=>?_) (fun h=>?_)
   ·exact tR<|rM J J<|rM J J<|ARun.qv (Gy J) J<|aq h fun l3 e1 h=>ARun.qv (Jc J .none (.some _ _ _ J) J J e1) J<|rM J J<|aq h fun l4 e2 h=>NA (g:=AV.str) (Z:=[]) J J J J J J J J J e2 fun b5=>rM J J<|ARun.qv (Gg J) J<|aq h fun l6 e3 h=>ARun.qv (lH J J .none (.some _ _ _ J) J J e3) J<|rA J J<|ARun.ghost<|ImpX.Jb e3 .p0<|ImpX.here<|rN<|ATodo.stop<|ImpX.lq [0] ⟨b5,l6,h,J⟩ J J
   ·exact tK<|ATodo.stop<|ImpX.arr (s:=0) 1 J fun b7=>ImpX.lq [0] ⟨b7,[],h,J⟩ J J
  ·rintro aB ⟨b1,l2,h,rfl⟩
   unfold dt at h
   refine ax<|rM J J<|rA J J<|rN<|ATodo.ret<|?_
   cases h
   exact hH J [0] J ⟨b1,J,J⟩
theorem ub [GI:bc] {aa:List (List ae)} {r:(List ae)} (h:eP aa=some r):ACall Tryz.prog 169 [SI aa] [] (T1 (fun iC=>[(iC,pw r)]) (fun iC=>.sl 1 iC 0 r.length)):=by
 unfold eP at h
 refine ACall.dN ?_
 refine ACall.aQ Tryz.func169 J Tryz.ntmps169 Tryz.results169 J J ?_
 refine ax<|rA J J<|rN<|ax<|rA J J<|rN<|tS<|ax<|rM J J<|ARun.qv (bD J) J<|rM J J<|rN<|ATodo.block<|ATodo.bT (fun x:Int×Int=>cy aa x.1 x.2) (fun x aB=>aB=⟨36,[(0,SI aa),(3,I x.1),(9,SI aa),(10,I (aa.length:Int)),(11,I x.2)],[]⟩) h ?_ ?_
 ·exact ImpX.lq [] J J J
 ·intro x z1 aB J1 dB h ic dm
  obtain ⟨n3,n4⟩:=x
  obtain rfl:=dB
  replace h:cy aa n3 n4=some z1:=h
  unfold cy at h
  refine ax<|ARun.qv (bu J J) J<|rN<|tS<|cD h J (fun h=>?_) (fun h=>?_)
  ·refine tK<|tS<|ATodo.block<|ax<|aq h fun v5 e1 h=>ARun.qv (aP J J J e1 J J) J<|ARun.qv (aG J J J) J<|rA J J<|rN<|ax<|rM J J<|rM J J<|ARun.qv (bD J) J<|ARun.qv (bh J J) J<|rA J J<|rN<|ax<|rM J J<|ARun.qv (bu J J) J<|rN<|cD h J (fun h=>?_) (fun h=>?_)
   ·refine tR<|?_
    cases h
   ·refine tK<|ATodo.bU<|tR<|ARun.qv (bh J J) J<|rM J J<|rN<|ATodo.stop<|?_
    cases h
    exact ic _ _ J<|ImpX.lq [] J J J
  ·refine ATodo.exit J<|have h:=bz h dm;?_
   unfold iA at h
   refine ax<|rM J J<|aq h fun v6 e2 h=>eE J (sx e2) cR .nil (fun _=>J) J fun b7=>rA J J<|rN<|tS<|ax<|rM J J<|ARun.qv (bD J) J<|rM J J<|rN<|ATodo.block<|ATodo.bT (fun x:(List ae)×Int=>bE aa x.1 x.2) (fun x aB=>∃ (ud:Bk),aB=⟨36,[(6,.sl 1 ud 0 x.1.length),(25,SI aa),(26,I (aa.length:Int)),(27,I x.2)],[(ud,pw x.1)]⟩) h ?_ ?_
   ·exact ImpX.lq [0] ⟨b7,J⟩ J J
   ·intro x z2 aB J2 dB h zN uS
    obtain ⟨ye,n13⟩:=x
    obtain ⟨ud,rfl⟩:=dB
    replace h:bE aa ye n13=some z2:=h
    unfold bE at h
    refine ax<|ARun.qv (bu J J) J<|rN<|tS<|cD h J (fun h=>?_) (fun h=>?_)
    ·refine tK<|tS<|ATodo.block<|ax<|aq h fun lW e3 h=>ARun.qv (aP J J J e3 J J) J<|ARun.qv (aG J J J) J<|rA J J<|rN<|tR<|rM J J<|rM J J<|aq h fun qq e4 h=>cS (g:=AV.str) J J J J J J J J (.list _) e4 (fun _=>.p0) J fun HQ=>rA J J<|rN<|ATodo.bU<|tR<|ARun.qv (bh J J) J<|rM J J<|rN<|ATodo.stop<|?_
     cases h
     exact zN _ _ J<|ImpX.lq [0] ⟨HQ,J⟩ J J
    ·refine ATodo.exit J<|have h:=bz h uS;ax<|rM J J<|rA J J<|rN<|ATodo.ret<|?_
     cases h
     exact hH J [0] J ⟨ud,J,J⟩
theorem AO {aa:ae} {r:Bool} (h:jV aa=some r):Pu Tryz.prog 170 [.str aa] (.bool r):=by
 unfold jV at h
 refine ACall.aQ Tryz.func170 J Tryz.ntmps170 Tryz.results170 J J ?_
 refine ax<|rA J J<|rN<|ax<|rM J J<|aq h fun v1 e1 h=>aA J (yM e1) cR J<|ARun.qv (bt J) J<|rA J J<|rN<|ATodo.ret<|?_
 cases h
 exact hP J J
theorem xN [GI:bc] {aa:ae} {ah:List ae} {r:Bool} (h:gp aa ah=some r):Pu Tryz.prog 242 [.str aa,.ik [ph ah]] (.bool r):=by
 unfold gp at h
 refine ACall.aQ Tryz.func242 J Tryz.ntmps242 Tryz.results242 J J ?_
 refine ax<|rA J J<|rN<|ax<|ARun.qv (aG J J J) J<|rM J J<|aq h fun v1 e1 h=>aA J (sT e1) cR J<|ARun.qv (bt J) J<|rA J J<|rN<|ATodo.ret<|?_
 cases h
 exact hP J J
theorem zU [GI:bc] {aa:List ae} {ah:List ae} {r:Bool} (h:lv aa ah=some r):Pu Tryz.prog 172 [ph aa,ph ah] (.bool r):=by
 unfold lv at h
 refine ACall.aQ Tryz.func172 J Tryz.ntmps172 Tryz.results172 J J ?_
 refine ax<|bO J J J J fun b1=>rA J J<|rN<|ax<|rM J J<|ARun.qv (fI J) J<|aq h fun v2 e1 h=>dc J (bP (fun e=>xN e) e1) (.cons (.co (.refl _)) (.cons (.uX _ _ _ (.cons (.wo _ _ _ .p0 (.cons (.co (.refl _)) .nil)) .nil)) .nil)) J J<|ARun.qv (bt J) J<|rA J J<|rN<|ATodo.ret<|?_
 cases h
 exact hP J J
theorem DF {aa:List ae} {ah:List ae} {r:Bool×Int} (h:pU aa ah=some r):Pu Tryz.prog 88 [ph aa,ph ah] (.pj [.bool r.1,I r.2]):=by
 unfold pU at h
 refine ACall.aQ Tryz.func88 J Tryz.ntmps88 Tryz.results88 J J ?_
 refine ax<|rA J J<|rA J J<|rN<|tS<|ax<|rM J J<|rM J J<|aC (xs:=([aa,ah]:List (List ae)).map (Ba 1 AV.str)) J J J J J J<|aq h fun v1 e1 h=>eE J (ub e1) cR .nil (fun _=>J) J fun b2=>aq h fun v3 e2 h=>dc J (bP (fun e=>AO e) e2) (.cons (vI.uf .p0) (.cons (.uX _ _ _ .nil) .nil)) J J<|rN<|cB h J (fun h=>?_) (fun h=>?_)
 ·refine ax<|rA J J<|rA J J<|rN<|ATodo.ret<|?_
  cases h
  exact hQ J J J
 ·refine tK<|tS<|tS<|ATodo.cut (fun aB=>∃ (c4:Bool),pd aa ah c4=some r∧aB=⟨22,[(0,ph aa),(1,ph ah),(18,.bool c4)],[]⟩) ?_ ?_
  ·refine tR<|rM J J<|ARun.qv (bD J) J<|ARun.qv (dJ J J) J<|rM J J<|ARun.dA J J J (fun hc=>?_) (fun hc=>?_)
   ·rw [zF hc] at h
    exact rM J J<|rY J J J<|ARun.qv (bD J) J<|rY J J J<|ARun.qv (dJ J J) J<|rE J J J<|rN<|ATodo.stop<|ImpX.lq [] ⟨decide ((50:Int) < (ah.length:Int)),h,J⟩ J J
   ·rw [zE hc] at h
    exact rG J J J J<|rG J J J J<|rT J J J<|rN<|ATodo.stop<|ImpX.lq [] ⟨true,h,J⟩ J J
  ·rintro aB ⟨c4,h,rfl⟩
   unfold pd at h
   refine cB h J (fun h=>?_) (fun h=>?_)
   ·refine ax<|rA J J<|rA J J<|rN<|ATodo.ret<|?_
    cases h
    exact hQ J J J
   ·refine tK<|ax<|rM J J<|rM J J<|aq h fun v5 e3 h=>aA J (zU e3) cR J<|rA J J<|rA J J<|rN<|ATodo.ret<|?_
    cases h
    exact hQ J J J
theorem H9 {r:Bool} (h:vj=some r):Pu Tryz.prog 27 [] (.bool r):=by
 unfold vj at h
 refine ACall.aQ Tryz.func27 J Tryz.ntmps27 Tryz.results27 J J ?_
 refine ax<|rA J J<|rN<|ax<|aC (xs:=([([97,46,42]:ae)]).map AV.str) J J J J J J<|aC (xs:=([([97,46,98]:ae)]).map AV.str) J J J J J J<|aq h fun v1 e1 h=>aA J (DF e1) cR J<|rM J J<|rX J J J<|rX J J J<|rA J J<|rA J J<|rN<|tS<|ATodo.cut (fun aB=>∃ (c2:Bool),tz c2=some r∧aB=⟨14,[(0,.bool c2)],[]⟩) ?_ ?_
 ·refine tR<|rM J J<|ARun.qv (bS J J) J<|rM J J<|ARun.cA J J J (fun hc=>?_) (fun hc=>?_)
  ·rw [ux hc] at h
   exact rM J J<|rT J J J<|rA J J<|rN<|ATodo.stop<|ImpX.lq [] ⟨v1.1,h,J⟩ J J
  ·rw [uy hc] at h
   exact rE J J J<|rA J J<|rN<|ATodo.stop<|ImpX.lq [] ⟨false,h,J⟩ J J
 ·rintro aB ⟨c2,h,rfl⟩
  unfold tz at h
  refine ATodo.ret<|?_
  cases h
  exact hP J J
theorem BP {aa:List Int} {r:Bool} (h:nz aa=some r):Pu Tryz.prog 3 [cz aa] (.bool r):=by
 unfold nz at h
 refine ACall.aQ Tryz.func3 J Tryz.ntmps3 Tryz.results3 J J ?_
 refine ax<|rA J J<|rN<|ax<|rM J J<|ARun.qv (bl J J J J J) J<|bO J J J J fun b1=>rA J J<|rN<|ax<|rM J J<|aq h fun v2 e1 h=>aJ J (HP e1) cR (.cons .p0 .nil) J J<|rM J J<|aC (xs:=([([97,110,110]:ae),([97,110,110]:ae),([98,111,98]:ae),([65]:ae)]).map AV.str) J J J J J J<|aq h fun v3 e2 h=>aJ J (br e2) cR (.cons .p0 .nil) J J<|rM J J<|aC (xs:=([([100,101,118,105,99,101,46,114,101,97,100]:ae),([100,101,118,105,99,101,46,119,114,105,116,101]:ae),([111,114,103,46,114,101,97,100]:ae),([100,101,118,105,99,101,46,42]:ae)]).map AV.str) J J J J J J<|aq h fun v4 e3 h=>aJ J (br e3) cR (.cons .p0 .nil) J J<|rM J J<|aq h fun v5 e4 h=>aJ J (Af e4) cR (.cons .p0 .nil) J J<|rM J J<|aq h fun v6 e5 h=>aJ J (F0 e5) cR (.cons .p0 .nil) J J<|rM J J<|aq h fun v7 e6 h=>eE J (BA e6) cR (.cons .p0 .nil) (fun _=>J) J fun b8=>bn J J J J fun b9=>bn J J J J fun vH=>au J J J J .p1 J J<|rA J J<|rA J J<|au J J J J .p0 J J<|rA J J<|rA J J<|rN<|ax<|ARun.qv (ao J J .p1 J) J<|rM J J<|rM J J<|ARun.qv (ao J J .p0 J) J<|rM J J<|aq h fun v11 e7 h=>aA J (HV e7) cR J<|rM J J<|rX J J J<|rX J J J<|rA J J<|rA J J<|rN<|ax<|ARun.qv (ao J J .p1 J) J<|rM J J<|rM J J<|ARun.qv (ao J J .p0 J) J<|rM J J<|aq h fun v12 e8 h=>eE J (HW e8) cR .nil (fun _=>J) J fun yK=>rM J J<|rX J J J<|rX J J J<|rA J J<|rA J J<|rN<|ax<|ARun.qv (ao J J .p2 J) J<|rM J J<|ARun.qv (ao J J .p1 J) J<|rM J J<|aq h fun lW e9 h=>eE J (HX e9) cR .nil (fun _=>J) J fun yL=>rM J J<|rX J J J<|rX J J J<|rA J J<|rA J J<|rN<|ax<|ARun.qv (ao J J .p3 J) J<|rM J J<|rM J J<|rM J J<|rM J J<|aq h fun dU zM h=>Bl J (Cv zM) .nil (.cons (.co (.refl _)) (.cons (.co (.refl _)) (.cons (.co (.refl _)) (.cons (vI.uf .p5) (.cons (.co (.refl _)) .nil))))) (fun _=>J) (fun _=>J) (fun _=>(.cons (Sc.uf (fun _=>J)) .nil)) J fun wz=>rM J J<|rX J J J<|rX J J J<|rA J J<|rA J J<|rN<|ax<|ARun.qv (ao J J .p4 J) J<|aq h fun fH AZ h=>aA J (H4 AZ) cR J<|rM J J<|aq h fun dI FX h=>aA J (H5 FX) cR J<|rM J J<|aq h fun v20 FY h=>aA J (H6 FY) cR J<|rM J J<|aA J (DD J) cR J<|rA J J<|rA J J<|rA J J<|rA J J<|rN<|ax<|ARun.qv (ao J J .p3 J) J<|aq h fun v21 P6 h=>aA J (Ah P6) cR J<|rA J J<|rN<|tS<|tS<|ATodo.cut (fun aB=>∃ (P4:Bool),kK v2 v3 v4 v5 v6 v7 v11 v12 lW dU fH dI v20 v21 P4=some r∧aB=⟨225,[(4,.ptr b9 0),(5,.str v3.1),(6,.str v4.1),(7,.ptr vH 0),(8,I v6.1),(9,.sl 8 b8 0 v7.1.length),(10,.bool v11.1),(11,I v11.2),(12,.sl 2 yK 0 v12.1.length),(13,I v12.2),(14,.sl 1 yL 0 lW.1.length),(15,I lW.2),(16,.sl 1 wz 0 dU.1.length),(17,I dU.2),(18,I fH),(19,I dI),(20,I v20),(21,I (cF v6.1)),(22,I v21),(100,.bool P4)],[(b9,.cells (xj v2.1)),(vH,.cells (zL v5.1)),(b8,Lw v7.1),(yK,wX v12.1),(yL,pw lW.1),(wz,pw dU.1)]⟩) ?_ ?_
 ·refine tR<|rM J J<|ARun.qv (bS J J) J<|rM J J<|ARun.cA J J J (fun hc=>?_) (fun hc=>?_)
  ·rw [ux hc] at h
   exact rM J J<|rY J J J<|ARun.qv (bS J J) J<|rT J J J<|rN<|ATodo.stop<|ImpX.lq [4,3,4,2,1,0] ⟨decide (v21=(0:Int)),h,J⟩ J J
  ·rw [uy hc] at h
   exact rG J J J J<|rE J J J<|rN<|ATodo.stop<|ImpX.lq [4,3,4,2,1,0] ⟨false,h,J⟩ J J
 ·rintro aB ⟨P4,h,rfl⟩
  unfold kK at h
  refine ATodo.cut (fun aB=>∃ (n23:Int),gg v2 v3 v4 v5 v6 v7 v11 v12 lW dU fH dI v20 n23=some r∧aB=⟨225,[(4,.ptr b9 0),(5,.str v3.1),(6,.str v4.1),(7,.ptr vH 0),(8,I v6.1),(9,.sl 8 b8 0 v7.1.length),(10,.bool v11.1),(11,I v11.2),(12,.sl 2 yK 0 v12.1.length),(13,I v12.2),(14,.sl 1 yL 0 lW.1.length),(15,I lW.2),(16,.sl 1 wz 0 dU.1.length),(17,I dU.2),(18,I fH),(19,I dI),(20,I v20),(21,I (cF v6.1)),(22,I n23)],[(b9,.cells (xj v2.1)),(vH,.cells (zL v5.1)),(b8,Lw v7.1),(yK,wX v12.1),(yL,pw lW.1),(wz,pw dU.1)]⟩) ?_ ?_
  ·refine cB h J (fun h=>?_) (fun h=>?_)
   ·exact tR<|ARun.qv (ao J J .p0 J) J<|ARun.qv (ao J J .p1 J) J<|aq h fun v24 SJ h=>aA J (x6 SJ) cR J<|rA J J<|rN<|ATodo.stop<|ImpX.lq [0,0,0,0,0,0] ⟨v24,h,J⟩ J J
   ·exact tK<|ATodo.stop<|ImpX.lq [0,0,0,0,0,0] ⟨v21,h,J⟩ J J
  ·rintro aB ⟨n23,h,rfl⟩
   unfold gg at h
   refine ax<|rM J J<|rM J J<|rM J J<|rM J J<|rM J J<|aC (xs:=([fH,dI,v20,n23,(cF v6.1)]:List Int).map I) J J J J J J<|aq h fun v25 SK h=>aA J (oZ SK) cR J<|rM J J<|rM J J<|rM J J<|rM J J<|aC (xs:=([fH,v20,n23,(cF v6.1)]:List Int).map I) J J J J J J<|aq h fun v26 SL h=>aA J (oZ SL) cR J<|rA J J<|rA J J<|rN<|tS<|tS<|ATodo.cut (fun aB=>∃ (Yo:Bool),kJ v2 v3 v4 v5 v6 v7 v11 v12 lW dU fH dI v20 v25 v26 Yo=some r∧aB=⟨225,[(4,.ptr b9 0),(5,.str v3.1),(6,.str v4.1),(7,.ptr vH 0),(8,I v6.1),(9,.sl 8 b8 0 v7.1.length),(10,.bool v11.1),(12,.sl 2 yK 0 v12.1.length),(14,.sl 1 yL 0 lW.1.length),(16,.sl 1 wz 0 dU.1.length),(17,I dU.2),(18,I fH),(19,I dI),(20,I v20),(21,I (cF v6.1)),(23,I v25),(24,I v26),(129,.bool Yo)],[(b9,.cells (xj v2.1)),(vH,.cells (zL v5.1)),(b8,Lw v7.1),(yK,wX v12.1),(yL,pw lW.1),(wz,pw dU.1)]⟩) ?_ ?_
   ·refine tR<|rM J J<|rM J J<|ARun.qv (du J J) J<|rM J J<|ARun.dA J J J (fun hc=>?_) (fun hc=>?_)
    ·rw [zF hc] at h
     refine rM J J<|rY J J J<|rM J J<|rY J J J<|ARun.qv (du J J) J<|rE J J J<|rM J J<|ARun.dA J J J (fun hc=>?_) (fun hc=>?_)
     ·rw [zF hc] at h
      exact rM J J<|rY J J J<|rM J J<|rY J J J<|ARun.qv (du J J) J<|rE J J J<|rN<|ATodo.stop<|ImpX.lq [0,0,0,0,0,0] ⟨decide (lW.2≠v26),h,J⟩ J J
     ·rw [zE hc] at h
      exact rG J J J J<|rG J J J J<|rT J J J<|rN<|ATodo.stop<|ImpX.lq [0,0,0,0,0,0] ⟨true,h,J⟩ J J
    ·rw [zE hc] at h
     exact rG J J J J<|rG J J J J<|rT J J J<|rM J J<|rG J J J J<|rG J J J J<|rG J J J J<|rT J J J<|rN<|ATodo.stop<|ImpX.lq [0,0,0,0,0,0] ⟨true,h,J⟩ J J
   ·rintro aB ⟨Yo,h,rfl⟩
    unfold kJ at h
    refine cB h J (fun h=>?_) (fun h=>?_)
    ·refine ax<|rA J J<|rN<|ATodo.ret<|?_
     cases h
     exact hP J J
    ·refine tK<|tS<|ax<|rM J J<|ARun.qv (bS J J) J<|rN<|ATodo.cut (fun aB=>gd v2 v3 v4 v5 v6 v7 lW dU fH dI v20 v26=some r∧aB=⟨225,[(4,.ptr b9 0),(5,.str v3.1),(6,.str v4.1),(7,.ptr vH 0),(8,I v6.1),(9,.sl 8 b8 0 v7.1.length),(14,.sl 1 yL 0 lW.1.length),(16,.sl 1 wz 0 dU.1.length),(17,I dU.2),(18,I fH),(19,I dI),(20,I v20),(21,I (cF v6.1)),(24,I v26)],[(b9,.cells (xj v2.1)),(vH,.cells (zL v5.1)),(b8,Lw v7.1),(yL,pw lW.1),(wz,pw dU.1)]⟩) ?_ ?_
     ·refine cD h J (fun h=>?_) (fun h=>?_)
      ·refine ax<|ARun.qv (ao J J .p0 J) J<|rM J J<|rM J J<|ARun.qv (ao J J .p1 J) J<|rM J J<|aq h fun v28 VD h=>aA J (Cz VD) cR J<|rA J J<|rN<|tS<|ATodo.cut (fun aB=>∃ (Yn:Bool),mR v2 v3 v4 v5 v6 v7 lW dU fH dI v20 v26 Yn=some r∧aB=⟨225,[(4,.ptr b9 0),(5,.str v3.1),(6,.str v4.1),(7,.ptr vH 0),(8,I v6.1),(9,.sl 8 b8 0 v7.1.length),(14,.sl 1 yL 0 lW.1.length),(16,.sl 1 wz 0 dU.1.length),(17,I dU.2),(18,I fH),(19,I dI),(20,I v20),(21,I (cF v6.1)),(24,I v26),(148,.bool Yn)],[(b9,.cells (xj v2.1)),(vH,.cells (zL v5.1)),(b8,Lw v7.1),(yL,pw lW.1),(wz,pw dU.1)]⟩) ?_ ?_
       ·refine tR<|rM J J<|rM J J<|aq h fun v30 VE h=>dc J (uo VE) (.cons (vI.uf .p3) (.cons (.co (.refl _)) .nil)) J J<|ARun.qv (bt J) J<|rM J J<|ARun.guard J J J (fun hc=>?_) (fun hc=>?_)
        ·rw [FJ hc] at h
         exact rM J J<|rY J J J<|rM J J<|rY J J J<|ARun.qv (bD J) J<|rY J J J<|ARun.qv (dJ J J) J<|rY J J J<|ARun.qv (Md J J) J<|rE J J J<|rN<|ATodo.stop<|ImpX.lq [0,0,0,1,1] ⟨v11.1!=(decide ((0:Int) < (v28.length:Int))),h,J⟩ J J
        ·rw [FI hc] at h
         exact rG J J J J<|rG J J J J<|rG J J J J<|rG J J J J<|rT J J J<|rN<|ATodo.stop<|ImpX.lq [0,0,0,1,1] ⟨true,h,J⟩ J J
       ·rintro aB ⟨Yn,h,rfl⟩
        unfold mR at h
        refine cB h J (fun h=>?_) (fun h=>?_)
        ·refine ax<|rA J J<|rN<|ATodo.ret<|?_
         cases h
         exact hP J J
        ·exact tK<|ATodo.stop<|ImpX.lq [0,0,0,0,0] ⟨h,J⟩ J J
      ·exact tK<|ATodo.stop<|ImpX.lq [0,0,0,1,1] ⟨h,J⟩ J J
     ·rintro aB ⟨h,rfl⟩
      unfold gd at h
      refine tS<|tS<|ATodo.cut (fun aB=>∃ (c31:Bool),gb v2 v3 v4 v6 v7 dU fH dI v20 c31=some r∧aB=⟨225,[(4,.ptr b9 0),(5,.str v3.1),(6,.str v4.1),(8,I v6.1),(9,.sl 8 b8 0 v7.1.length),(16,.sl 1 wz 0 dU.1.length),(17,I dU.2),(18,I fH),(19,I dI),(20,I v20),(21,I (cF v6.1)),(160,.bool c31)],[(b9,.cells (xj v2.1)),(b8,Lw v7.1),(wz,pw dU.1)]⟩) ?_ ?_
      ·refine tR<|rM J J<|ARun.qv (bS J J) J<|rM J J<|gT h J J J (fun h=>?_) (fun h=>?_)
       ·exact rM J J<|rY J J J<|ARun.qv (ao J J .p0 J) J<|rY J J J<|rM J J<|rY J J J<|ARun.qv (ao J J .p1 J) J<|rY J J J<|rM J J<|rY J J J<|aq h fun v32 Yu h=>eE J (N5 Yu) cR .nil (fun _=>J) J fun b33=>rY J J J<|aq h fun v34 Yv h=>dc J (nB Yv) (.cons (vI.uf .p4) (.cons (vI.uf .p0) .nil)) J J<|rY J J J<|ARun.qv (bt J) J<|rT J J J<|rN<|ATodo.stop<|ImpX.lq [1,2,3] ⟨!v34,h,J⟩ J J
       ·exact rG J J J J<|rG J J J J<|rG J J J J<|rG J J J J<|rG J J J J<|rG J J J J<|rG J J J J<|rE J J J<|rN<|ATodo.stop<|ImpX.lq [0,1,2] ⟨false,h,J⟩ J J
      ·rintro aB ⟨c31,h,rfl⟩
       unfold gb at h
       refine cB h J (fun h=>?_) (fun h=>?_)
       ·refine ax<|rA J J<|rN<|ATodo.ret<|?_
        cases h
        exact hP J J
       ·refine tK<|ax<|rM J J<|aq h fun v35 Yw h=>dc J (E0 Yw) (.cons (vI.uf .p1) .nil) J J<|rA J J<|rN<|tS<|tS<|ATodo.cut (fun aB=>∃ (Ym:Bool),kI v2 v3 v4 v6 v7 dU fH dI v20 v35 Ym=some r∧aB=⟨225,[(4,.ptr b9 0),(5,.str v3.1),(6,.str v4.1),(8,I v6.1),(9,.sl 8 b8 0 v7.1.length),(16,.sl 1 wz 0 dU.1.length),(17,I dU.2),(18,I fH),(19,I dI),(20,I v20),(21,I (cF v6.1)),(26,I v35),(168,.bool Ym)],[(b9,.cells (xj v2.1)),(b8,Lw v7.1),(wz,pw dU.1)]⟩) ?_ ?_
        ·refine tR<|rM J J<|ARun.qv (bS J J) J<|rM J J<|ARun.cA J J J (fun hc=>?_) (fun hc=>?_)
         ·rw [ux hc] at h
          exact rM J J<|rY J J J<|ARun.qv (bS J J) J<|rT J J J<|rN<|ATodo.stop<|ImpX.lq [0,0,0] ⟨decide (v35=(0:Int)),h,J⟩ J J
         ·rw [uy hc] at h
          exact rG J J J J<|rE J J J<|rN<|ATodo.stop<|ImpX.lq [0,0,0] ⟨false,h,J⟩ J J
        ·rintro aB ⟨Ym,h,rfl⟩
         unfold kI at h
         refine ATodo.cut (fun aB=>∃ (n37:Int),ed v2 v3 v4 v6 v7 dU fH dI v20 n37=some r∧aB=⟨225,[(4,.ptr b9 0),(5,.str v3.1),(6,.str v4.1),(8,I v6.1),(9,.sl 8 b8 0 v7.1.length),(16,.sl 1 wz 0 dU.1.length),(17,I dU.2),(18,I fH),(19,I dI),(20,I v20),(21,I (cF v6.1)),(26,I n37)],[(b9,.cells (xj v2.1)),(b8,Lw v7.1),(wz,pw dU.1)]⟩) ?_ ?_
         ·refine cB h J (fun h=>?_) (fun h=>?_)
          ·refine ax<|rM J J<|ARun.qv (iO J) J<|rM J J<|rN<|ATodo.block<|ATodo.bT (fun x:Int×Int=>ee v2 v3 v4 v6 v7 dU fH dI v20 x.1 x.2) (fun x aB=>aB=⟨225,[(4,.ptr b9 0),(5,.str v3.1),(6,.str v4.1),(8,I v6.1),(9,.sl 8 b8 0 v7.1.length),(16,.sl 1 wz 0 dU.1.length),(17,I dU.2),(18,I fH),(19,I dI),(20,I v20),(21,I (cF v6.1)),(26,I x.1),(169,.sl 8 b8 0 v7.1.length),(170,I (v7.1.length:Int)),(171,I x.2)],[(b9,.cells (xj v2.1)),(b8,Lw v7.1),(wz,pw dU.1)]⟩) h ?_ ?_
           ·exact ImpX.lq [0,0,0] J J J
           ·intro x z1 aB J1 dB h ic dm
            obtain ⟨n40,n41⟩:=x
            obtain rfl:=dB
            replace h:ee v2 v3 v4 v6 v7 dU fH dI v20 n40 n41=some z1:=h
            unfold ee at h
            refine ax<|ARun.qv (bu J J) J<|rN<|tS<|cD h J (fun h=>?_) (fun h=>?_)
            ·refine tK<|tS<|ATodo.block<|ax<|aq h fun Vv Xc h=>ARun.qv (fg J J J Xc) J<|ARun.qv (pX (g:=aE.av) J J (.inl .p1) J Xc J) J<|bn J J J J fun b43=>au J J J J .p0 J J<|rN<|tR<|rM J J<|ARun.qv (ao J J .p1 J) J<|ARun.qv (ao J J .p0 J) J<|aq h fun v44 Yx h=>aA J (x6 Yx) cR J<|aC (xs:=([n40,v44]:List Int).map I) J J J J J J<|aq h fun v45 Yy h=>aA J (oZ Yy) cR J<|rA J J<|rN<|ATodo.bU<|tR<|ARun.qv (bh J J) J<|rM J J<|rN<|ATodo.stop<|?_
             cases h
             exact ic _ _ J<|ImpX.lq [1,1,1] J J J
            ·exact ATodo.exit J<|have h:=bz h dm;ATodo.stop<|ImpX.lq [0,0,0] ⟨n40,h,J⟩ J J
          ·exact tK<|ATodo.stop<|ImpX.lq [0,0,0] ⟨v35,h,J⟩ J J
         ·rintro aB ⟨n37,h,rfl⟩
          unfold ed at h
          refine ax<|rM J J<|rM J J<|rM J J<|rM J J<|rM J J<|aC (xs:=([fH,dI,v20,n37,(cF v6.1)]:List Int).map I) J J J J J J<|aq h fun v46 Yz h=>aA J (oZ Yz) cR J<|rA J J<|rN<|ax<|rA J J<|rN<|tS<|ax<|rM J J<|ARun.qv (iO J) J<|rM J J<|rN<|ATodo.block<|ATodo.bT (fun x:(List ae)×Int=>ec v2 v3 v4 v6 v7 dU v46 x.1 x.2) (fun x aB=>∃ (Ui:Bk),aB=⟨225,[(4,.ptr b9 0),(5,.str v3.1),(6,.str v4.1),(8,I v6.1),(16,.sl 1 wz 0 dU.1.length),(17,I dU.2),(29,I v46),(30,.sl 1 Ui 0 x.1.length),(189,.sl 8 b8 0 v7.1.length),(190,I (v7.1.length:Int)),(191,I x.2)],[(b9,.cells (xj v2.1)),(wz,pw dU.1),(Ui,pw x.1),(b8,Lw v7.1)]⟩) h ?_ ?_
          ·exact ImpX.arr (s:=30) 1 J fun LA=>ImpX.lq [1,2,0,0] ⟨LA,J⟩ J J
          ·intro x z2 aB J2 dB h zN uS
           obtain ⟨EH,n52⟩:=x
           obtain ⟨Ui,rfl⟩:=dB
           replace h:ec v2 v3 v4 v6 v7 dU v46 EH n52=some z2:=h
           unfold ec at h
           refine ax<|ARun.qv (bu J J) J<|rN<|tS<|cD h J (fun h=>?_) (fun h=>?_)
           ·refine tK<|tS<|ATodo.block<|ax<|aq h fun v54 VH h=>ARun.qv (fg J J J VH) J<|ARun.qv (pX (g:=aE.av) J J (.inl .p3) J VH J) J<|bn J J J J fun b55=>au J J J J .p0 J J<|rN<|tS<|ATodo.cut (fun aB=>∃ (Yk:Bool),iB EH n52 v54 Yk=some z2∧aB=⟨225,[(4,.ptr b9 0),(5,.str v3.1),(6,.str v4.1),(8,I v6.1),(16,.sl 1 wz 0 dU.1.length),(17,I dU.2),(29,I v46),(30,.sl 1 Ui 0 EH.length),(32,.ptr b55 0),(189,.sl 8 b8 0 v7.1.length),(190,I (v7.1.length:Int)),(191,I n52),(206,.bool Yk)],[(b9,.cells (xj v2.1)),(wz,pw dU.1),(Ui,pw EH),(b55,.cells (zL v54)),(b8,Lw v7.1)]⟩) ?_ ?_
            ·refine tR<|rM J J<|ARun.qv (bS J J) J<|rM J J<|gT h J J J (fun h=>?_) (fun h=>?_)
             ·exact ARun.qv (ao J J .p1 J) J<|rY J J J<|rM J J<|rY J J J<|rM J J<|rY J J J<|ARun.qv (ao J J .p0 J) J<|rY J J J<|rM J J<|rY J J J<|aq h fun KN e28 h=>aA J (Cz e28) cR J<|rY J J J<|ARun.qv (bD J) J<|rY J J J<|ARun.qv (dJ J J) J<|rT J J J<|rN<|ATodo.stop<|ImpX.lq [1,1,1,0,0] ⟨decide ((0:Int) < (KN.length:Int)),h,J⟩ J J
             ·exact rG J J J J<|rG J J J J<|rG J J J J<|rG J J J J<|rG J J J J<|rG J J J J<|rG J J J J<|rE J J J<|rN<|ATodo.stop<|ImpX.lq [1,1,1,0,0] ⟨false,h,J⟩ J J
            ·rintro aB ⟨Yk,h,rfl⟩
             unfold iB at h
             refine ATodo.cut (fun aB=>∃ (SQ:Bk) (DS:List ae),jv n52 DS=some z2∧aB=⟨225,[(4,.ptr b9 0),(5,.str v3.1),(6,.str v4.1),(8,I v6.1),(16,.sl 1 wz 0 dU.1.length),(17,I dU.2),(29,I v46),(30,.sl 1 SQ 0 DS.length),(189,.sl 8 b8 0 v7.1.length),(190,I (v7.1.length:Int)),(191,I n52)],[(b9,.cells (xj v2.1)),(wz,pw dU.1),(SQ,pw DS),(b8,Lw v7.1)]⟩) ?_ ?_
             ·refine cB h J (fun h=>?_) (fun h=>?_)
              ·exact tR<|rM J J<|rF J J J<|rF J J J<|rL J J .p3 J J<|aC (xs:=([v54.Device.Key]:List ae).map AV.str) J J J J J J<|aq h fun DU e29 h=>cS (g:=AV.str) J J J J J J J J (.list _) e29 (fun _=>.p2) J fun W8=>rA J J<|rN<|ATodo.stop<|ImpX.lq [0,0,0,1] ⟨W8,DU,h,J⟩ J J
              ·exact tK<|ATodo.stop<|ImpX.lq [0,0,0,1] ⟨Ui,EH,h,J⟩ J J
             ·rintro aB ⟨SQ,DS,h,rfl⟩
              unfold jv at h
              refine ATodo.bU<|tR<|ARun.qv (bh J J) J<|rM J J<|rN<|ATodo.stop<|?_
              cases h
              exact zN _ _ J<|ImpX.lq [0,0,0,0] ⟨SQ,J⟩ J J
           ·refine ATodo.exit J<|have h:=bz h uS;?_
            unfold ia at h
            refine tS<|ATodo.cut (fun aB=>∃ (Yl:Bool),hJ Yl=some r∧aB=⟨225,[(2,.bool Yl)],[]⟩) ?_ ?_
            ·refine tR<|rM J J<|rM J J<|ARun.qv (bS J J) J<|rM J J<|gT h J J J (fun h=>?_) (fun h=>?_)
             ·refine rM J J<|rY J J J<|rM J J<|rY J J J<|aq h fun Lq e30 h=>dc J (nB e30) (.cons (vI.uf .p1) (.cons (vI.uf .p2) .nil)) J J<|rT J J J<|rM J J<|ARun.guard J J J (fun hc=>?_) (fun hc=>?_)
              ·exact have h:=gr hc h;aq h fun v64 e31 h=>aA J (H9 e31) cR J<|rT J J J<|rA J J<|rN<|ATodo.stop<|ImpX.lq [] ⟨v64,h,J⟩ J J
              ·exact have h:=gw hc h;rE J J J<|rA J J<|rN<|ATodo.stop<|ImpX.lq [] ⟨false,h,J⟩ J J
             ·exact rG J J J J<|rG J J J J<|rE J J J<|rM J J<|rG J J J J<|rE J J J<|rA J J<|rN<|ATodo.stop<|ImpX.lq [] ⟨false,h,J⟩ J J
            ·rintro aB ⟨Yl,h,rfl⟩
             unfold hJ at h
             refine ATodo.ret<|?_
             cases h
             exact hP J J
end Go.Proofs.YtnchkajkgjkpmaaGreatDoor
