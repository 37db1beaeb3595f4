/- The code computes the plain functions: proofs written by shal.py. -/
import Derived.Test.YtipbfaojbmendaaGreatDoorTcrW2
open List renaming length_set→ac
set_option maxHeartbeats 4000000
set_option maxRecDepth 100000
set_option linter.unusedVariables false
set_option linter.unusedSimpArgs false
namespace Go.Proofs.YtipbfaojbmendaaGreatDoor
open Go Go.Eng Go.Proofs Go.Beacon
attribute [local irreducible] ae ab AQ QV aY aq RC AM
theorem tb [GI:ck] {cU:Bk} {aa:List Int} {ai:Int} {r:(List Int)} (h:gn aa ai=some r):aY Tryz.prog 81 [.sl 1 cU 0 aa.length,.int .u64 ai] [(cU,Dz aa)] (T1 (fun oN=>[(oN,Dz r)]) (fun oN=>.sl 1 oN 0 r.length)):=by
 unfold gn at h
 refine aY.lD ?_
 refine aY.ch Tryz.func81 J Tryz.ntmps81 Tryz.results81 J J ?_
 refine aT<|rA J J<|rN<|tS<|ab.block<|ab.dR (fun x:(List Int)×Int=>gK x.1 x.2) (fun x aS=>∃ (b4:Bk),aS=⟨21,[(0,.sl 1 b4 0 x.1.length),(1,.int .u64 x.2)],[(b4,Dz x.1)]⟩) h ?_ ?_
 ·exact aq.lq [0] ⟨cU,J⟩ J J
 ·intro x z1 aS J1 gS h mD gN
  obtain ⟨l5,n6⟩:=x
  obtain ⟨b4,rfl⟩:=gS
  replace h:gK l5 n6=some z1:=h
  unfold gK at h
  refine tS<|aT<|rM J J<|ae.qv (ri J J) J<|rN<|cD h J (fun h=>?_) (fun h=>?_)
  ·refine tK<|ab.block<|tR<|rM J J<|rM J J<|ae.qv (RN J J) J<|ae.qv (jQ J) J<|ae.qv (Vx J J) J<|bf (xs:=([SQ .u8 (IntKind.u8.wrap (Iz .u64 n6 127)) 128]).map (AV.int .u8)) J J J J J J<|aU h fun l7 e1 h=>fO (g:=(AV.int .u8)) J J J J J J J J (.list _) e1 (fun _=>.p0) J fun b8=>rM J J<|ae.qv (MF J J (by decide)) J<|rA J J<|rA J J<|rN<|ab.dp<|ab.stop<|?_
   cases h
   exact mD _ _ J<|aq.lq [0] ⟨b8,J⟩ J J
  ·refine ab.exit J<|have h:=cW h gN;?_
   unfold se at h
   refine aT<|rM J J<|rM J J<|ae.qv (jQ J) J<|bf (xs:=([IntKind.u8.wrap (n6)]:List Int).map (AV.int .u8)) J J J J J J<|aU h fun l9 e2 h=>fO (g:=(AV.int .u8)) J J J J J J J J (.list _) e2 (fun _=>.p0) J fun tv=>rA J J<|rN<|ab.ret<|?_
   cases h
   exact hH J [0] J ⟨tv,J,J⟩
theorem DC [GI:ck] {aa:List cP} {r:(List Int)} (h:rz aa=some r):aY Tryz.prog 61 [vQ aa] [] (T1 (fun oN=>[(oN,Dz r)]) (fun oN=>.sl 1 oN 0 r.length)):=by
 unfold rz at h
 refine aY.lD ?_
 refine aY.ch Tryz.func61 J Tryz.ntmps61 Tryz.results61 J J ?_
 refine aT<|rA J J<|rN<|aT<|rM J J<|ae.qv (dm J) J<|ae.qv (jQ J) J<|aU h fun v1 e1 h=>kK J (yo e1) cR .nil (fun _=>J) J fun b2=>rA J J<|rN<|aT<|rA J J<|rA J J<|rA J J<|rN<|tS<|aT<|rM J J<|ae.qv (dm J) J<|rM J J<|rN<|ab.block<|ab.dR (fun x:(List Int)×Int×Int×Int×Int=>lO aa x.1 x.2.1 x.2.2.1 x.2.2.2.1 x.2.2.2.2) (fun x aS=>∃ (b9:Bk),aS=⟨47,[(3,.sl 1 b9 0 x.1.length),(4,I x.2.1),(5,I x.2.2.1),(6,I x.2.2.2.1),(14,vQ aa),(15,I (aa.length:Int)),(16,I x.2.2.2.2)],[(b9,Dz x.1)]⟩) h ?_ ?_
 ·exact aq.lq [0] ⟨b2,J⟩ J J
 ·intro x z1 aS J1 gS h mD gN
  obtain ⟨l10,n11,n12,n13,n14⟩:=x
  obtain ⟨b9,rfl⟩:=gS
  replace h:lO aa l10 n11 n12 n13 n14=some z1:=h
  unfold lO at h
  refine aT<|ae.qv (cJ J J) J<|rN<|tS<|cD h J (fun h=>?_) (fun h=>?_)
  ·refine tK<|tS<|ab.block<|aT<|rM J J<|aU h fun zH e2 h=>ae.qv (bS J J J e2 J J) J<|ae.qv (bw J J J) J<|bY J J J J fun Di=>rA J J<|aI J J J J .p0 J J<|rN<|aT<|rF J J J<|rL J J .p0 J J<|rM J J<|ae.qv (iY J J) J<|rA J J<|rN<|aT<|rM J J<|rM J J<|rM J J<|ae.qv (iY J J) J<|bl J (uM J) cR J<|aU h fun v17 e3 h=>kK J (tb e3) cR (.cons .p1 .nil) (fun _=>J) J fun vD=>rA J J<|rN<|aT<|rM J J<|rF J J J<|rL J J .p1 J J<|rM J J<|ae.qv (iY J J) J<|bl J (uM J) cR J<|aU h fun kG e4 h=>kK J (tb e4) cR (.cons .p0 .nil) (fun _=>J) J fun za=>rA J J<|rN<|tS<|aT<|rM J J<|ae.qv (jj J J) J<|rN<|ab.cut (fun aS=>∃ (n21:Int),pE n14 zH kG n21=some z1∧aS=⟨47,[(3,.sl 1 za 0 kG.length),(5,I n21),(8,.ptr Di 0),(14,vQ aa),(15,I (aa.length:Int)),(16,I n14)],[(za,Dz kG),(Di,.cells [.str zH.Device,.str zH.pn,I zH.At,I zH.Value])]⟩) ?_ ?_
   ·refine cD h J (fun h=>?_) (fun h=>?_)
    ·exact tR<|rM J J<|rA J J<|rN<|ab.stop<|aq.lq [0,0] ⟨bA (zH.At - n11),h,J⟩ J J
    ·exact tK<|ab.stop<|aq.lq [0,0] ⟨n12,h,J⟩ J J
   ·rintro aS ⟨n21,h,rfl⟩
    unfold pE at h
    refine ab.di (id:=11) (A:=[0,1,0,4,3,31]) 6 mixed J (by kernel_rfl) (by kernel_rfl)<|AM.qv (aB J J) J<|AM.qv (aJ J J .p1 J) J<|AM.qv (aB J J) J<|AM.qv (aJ J J .p1 J) J<|AM.qv (bT J) J<|AM.qv (bT J) J<|AM.nil<|rN<|ab.dp<|tR<|ae.qv (bQ J J) J<|rM J J<|rN<|ab.stop<|?_
    cases h
    exact mD _ _ J<|aq.lq [0] ⟨za,J⟩ J J
  ·refine ab.exit J<|have h:=cW h gN;aT<|rM J J<|rA J J<|rN<|ab.ret<|?_
   cases h
   exact hH J [0] J ⟨b9,J,J⟩
theorem DD [GI:ck] {aa:List cP} {r:(List Int)×Int} (h:oX aa=some r):aY Tryz.prog 39 [vQ aa] [] (T1 (fun oN=>[(oN,Dz r.1)]) (fun oN=>.ma [.sl 1 oN 0 r.1.length,I r.2])):=by
 unfold oX at h
 refine aY.lD ?_
 refine aY.ch Tryz.func39 J Tryz.ntmps39 Tryz.results39 J J ?_
 refine aT<|rA J J<|rA J J<|rN<|tS<|aT<|rM J J<|aU h fun v1 e1 h=>bl J (wI e1) cR J<|rA J J<|rN<|aT<|rM J J<|ae.qv (kr J J) J<|rN<|cD h J (fun h=>?_) (fun h=>?_)
 ·refine aT<|rM J J<|rA J J<|rA J J<|rN<|ab.ret<|?_
  cases h
  exact aq.arr (s:=2) 1 J fun b2=>aq.here ⟨_,.cons (.tmp _ _ J) (.cons (.tmp _ _ J) .nil),_,.cons .p0 .nil,⟨b2,J,J⟩⟩
 ·refine tK<|aT<|rM J J<|aU h fun v3 e2 h=>kK J (DC e2) cR .nil (fun _=>J) J fun b4=>rA J J<|rA J J<|rN<|ab.ret<|?_
  cases h
  exact hI J J [0] J ⟨b4,J,J⟩
theorem DE {aa:bq} {ai:Int} {r:Int×Bool} (h:rB aa ai=some r):Pu Tryz.prog 83 [.str aa,I ai] (.ma [I r.1,.bool r.2]):=by
 unfold rB at h
 refine aY.ch Tryz.func83 J Tryz.ntmps83 Tryz.results83 J J ?_
 refine aT<|rA J J<|rA J J<|rN<|aT<|rM J J<|bl J (wx J) cR J<|rA J J<|rN<|tS<|tS<|ab.cut (fun aS=>∃ (c1:Bool),lP aa c1=some r∧aS=⟨61,[(0,.str aa),(6,.str (Lib.trimPrefix aa ([45]:bq))),(36,.bool c1)],[]⟩) ?_ ?_
 ·refine tR<|rM J J<|ae.qv (Ge J J) J<|rM J J<|gF h J J J (fun h=>?_) (fun h=>?_)
  ·refine rM J J<|rY J J J<|ae.qv (oS J) J<|rY J J J<|rM J J<|rY J J J<|ae.qv (jj J J) J<|rE J J J<|rM J J<|gF h J J J (fun h=>?_) (fun h=>?_)
   ·refine rM J J<|rY J J J<|aU h fun c2 e1 h=>ae.qv (nd J J e1) J<|rY J J J<|ae.qv (fY J J) J<|rY J J J<|rM J J<|ae.dq J J J (fun hc=>?_) (fun hc=>?_)
    ·rw [sR hc] at h
     refine rM J J<|rY J J J<|ae.qv (oS J) J<|rY J J J<|ae.qv (jj J J) J<|rY J J J<|rM J J<|ae.ek J J J (fun hc=>?_) (fun hc=>?_)
     ·rw [yK hc] at h
      exact rM J J<|rY J J J<|ae.qv (oS J) J<|rY J J J<|rM J J<|rY J J J<|ae.qv (oS J) J<|rY J J J<|ae.qv (jj J J) J<|rY J J J<|rE J J J<|rY J J J<|rT J J J<|rE J J J<|rN<|ab.stop<|aq.lq [] ⟨decide (((Lib.trimPrefix aa ([45]:bq)).length:Int) < (aa.length:Int)),h,J⟩ J J
     ·rw [yJ hc] at h
      exact rG J J J J<|rG J J J J<|rG J J J J<|rG J J J J<|rY J J J<|rT J J J<|rY J J J<|rT J J J<|rE J J J<|rN<|ab.stop<|aq.lq [] ⟨true,h,J⟩ J J
    ·rw [sS hc] at h
     exact rG J J J J<|rG J J J J<|rG J J J J<|ae.aV J J J<|ae.aV J J J<|ae.aV J J J<|ae.aV J J J<|ae.aV J J J<|rG J J J J<|rY J J J<|rE J J J<|rE J J J<|rN<|ab.stop<|aq.lq [] ⟨false,h,J⟩ J J
   ·exact rG J J J J<|rG J J J J<|rG J J J J<|ae.aV J J J<|ae.aV J J J<|ae.aV J J J<|ae.aV J J J<|ae.aV J J J<|ae.aV J J J<|ae.aV J J J<|ae.aV J J J<|ae.aV J J J<|ae.aV J J J<|rG J J J J<|rT J J J<|rN<|ab.stop<|aq.lq [] ⟨true,h,J⟩ J J
  ·exact rG J J J J<|rG J J J J<|rG J J J J<|rT J J J<|rM J J<|rG J J J J<|rG J J J J<|rG J J J J<|rG J J J J<|ae.aV J J J<|ae.aV J J J<|ae.aV J J J<|ae.aV J J J<|ae.aV J J J<|ae.aV J J J<|ae.aV J J J<|ae.aV J J J<|ae.aV J J J<|ae.aV J J J<|rG J J J J<|rT J J J<|rN<|ab.stop<|aq.lq [] ⟨true,h,J⟩ J J
 ·rintro aS ⟨c1,h,rfl⟩
  unfold lP at h
  refine cB h J (fun h=>?_) (fun h=>?_)
  ·refine aT<|rA J J<|rA J J<|rN<|ab.ret<|?_
   cases h
   exact hQ J J J
  ·refine tK<|tS<|aT<|rM J J<|ae.qv (oS J) J<|rM J J<|rN<|ab.block<|ab.dR (fun x:Int=>eZ aa x) (fun x aS=>aS=⟨61,[(0,.str aa),(6,.str (Lib.trimPrefix aa ([45]:bq))),(38,I ((Lib.trimPrefix aa ([45]:bq)).length:Int)),(39,I x)],[]⟩) h ?_ ?_
   ·exact aq.lq [] J J J
   ·intro n4 z1 aS J1 gS h mD gN
    obtain rfl:=gS
    replace h:eZ aa n4=some z1:=h
    unfold eZ at h
    refine aT<|ae.qv (cJ J J) J<|rN<|tS<|cD h J (fun h=>?_) (fun h=>?_)
    ·refine tK<|tS<|ab.block<|aT<|rM J J<|rA J J<|rN<|tS<|ab.cut (fun aS=>∃ (c5:Bool),nj n4 c5=some z1∧aS=⟨61,[(0,.str aa),(6,.str (Lib.trimPrefix aa ([45]:bq))),(38,I ((Lib.trimPrefix aa ([45]:bq)).length:Int)),(39,I n4),(51,.bool c5)],[]⟩) ?_ ?_
     ·refine tR<|rM J J<|rM J J<|aU h fun c6 e2 h=>ae.qv (nd J J e2) J<|ae.qv (cJ J J) J<|rM J J<|gF h J J J (fun h=>?_) (fun h=>?_)
      ·exact rM J J<|rY J J J<|rM J J<|rY J J J<|aU h fun c7 e3 h=>ae.qv (nd J J e3) J<|rY J J J<|ae.qv (jj J J) J<|rE J J J<|rN<|ab.stop<|aq.lq [] ⟨decide (57 < (c7.toNat:Int)),h,J⟩ J J
      ·exact rG J J J J<|rG J J J J<|rG J J J J<|rT J J J<|rN<|ab.stop<|aq.lq [] ⟨true,h,J⟩ J J
     ·rintro aS ⟨c5,h,rfl⟩
      unfold nj at h
      refine cB h J (fun h=>?_) (fun h=>?_)
      ·refine aT<|rA J J<|rA J J<|rN<|ab.ret<|have h:=cW h gN;?_
       cases h
       exact hQ J J J
      ·refine tK<|ab.dp<|tR<|ae.qv (bQ J J) J<|rM J J<|rN<|ab.stop<|?_
       cases h
       exact mD _ _ J<|aq.lq [] J J J
    ·refine ab.exit J<|have h:=cW h gN;?_
     unfold pF at h
     refine aT<|rM J J<|aU h fun v8 e4 h=>Qa J (Cu e4) cR J fun e9 e5=>rM J J<|rX J J J<|rX J J J<|rA J J<|rA J J<|rN<|tS<|ab.di (id:=11) (A:=[0,0,2,1,15]) 5 mixed J (by kernel_rfl) (by kernel_rfl)<|AM.qv (aX J) J<|AM.qv (aX J) J<|AM.qv (VX e5 J) J<|AM.qv (bT J) J<|AM.qv (bT J) J<|AM.nil<|rN<|ab.ret<|?_
     cases h
     exact hQ J J J
theorem CF {aa:List bq} {ai:Int} {r:(List Int)×Bool} (h:pG aa ai=some r):aY Tryz.prog 62 [y7 aa,I ai] [] (T1 (fun oN=>[(oN,cI r.1)]) (fun oN=>.ma [.sl 1 oN 0 r.1.length,.bool r.2])):=by
 unfold pG at h
 refine aY.lD ?_
 refine aY.ch Tryz.func62 J Tryz.ntmps62 Tryz.results62 J J ?_
 refine aT<|rA J J<|rA J J<|rN<|aT<|rA J J<|rN<|tS<|aT<|rM J J<|ae.qv (dm J) J<|rM J J<|rN<|ab.block<|ab.dR (fun x:(List Int)×Int=>kJ aa ai x.1 x.2) (fun x aS=>∃ (b4:Bk),aS=⟨31,[(1,I ai),(6,.sl 1 b4 0 x.1.length),(11,y7 aa),(12,I (aa.length:Int)),(13,I x.2)],[(b4,cI x.1)]⟩) h ?_ ?_
 ·exact aq.arr (s:=6) 1 J fun b7=>aq.lq [0] ⟨b7,J⟩ J J
 ·intro x z1 aS J1 gS h mD gN
  obtain ⟨l5,n6⟩:=x
  obtain ⟨b4,rfl⟩:=gS
  replace h:kJ aa ai l5 n6=some z1:=h
  unfold kJ at h
  refine aT<|ae.qv (cJ J J) J<|rN<|tS<|cD h J (fun h=>?_) (fun h=>?_)
  ·refine tK<|tS<|ab.block<|aT<|aU h fun v8 e1 h=>ae.qv (bS J J J e1 J J) J<|ae.qv (aR J J J) J<|rA J J<|rN<|aT<|rM J J<|rM J J<|aU h fun v9 e2 h=>bl J (DE e2) cR J<|rM J J<|rX J J J<|rX J J J<|rA J J<|rA J J<|rN<|tS<|aT<|rM J J<|ae.qv (dc J) J<|rN<|cB h J (fun h=>?_) (fun h=>?_)
   ·refine aT<|rA J J<|rA J J<|rN<|ab.ret<|have h:=cW h gN;?_
    cases h
    exact aq.arr (s:=4) 1 J fun tv=>aq.here ⟨_,.cons (.tmp _ _ J) (.cons (.tmp _ _ J) .nil),_,.cons .p0 .nil,⟨tv,J,J⟩⟩
   ·refine tK<|tR<|rM J J<|rM J J<|bf (xs:=([v9.1]:List Int).map I) J J J J J J<|aU h fun jM e3 h=>fO (g:=I) J J J J J J J J (.list _) e3 (fun _=>.p0) J fun qd=>rA J J<|rN<|ab.dp<|tR<|ae.qv (bQ J J) J<|rM J J<|rN<|ab.stop<|?_
    cases h
    exact mD _ _ J<|aq.lq [0] ⟨qd,J⟩ J J
  ·refine ab.exit J<|have h:=cW h gN;aT<|rM J J<|rA J J<|rA J J<|rN<|ab.ret<|?_
   cases h
   exact hI J J [0] J ⟨b4,J,J⟩
theorem uN {aa:bq} {r:Version×Int} (h:dG aa=some r):Pu Tryz.prog 40 [.str aa] (.ma [Version.av r.1,I r.2]):=by
 unfold dG at h
 refine aY.ch Tryz.func40 J Tryz.ntmps40 Tryz.results40 J J ?_
 refine aT<|bY J J J J fun b1=>rA J J<|rN<|aT<|rM J J<|aU h fun v2 e1 h=>kK J (Bh e1) cR .nil (fun _=>J) J fun b3=>aU h fun v4 e2 h=>yR J (CF e2) .nil (.cons (ku.jS .p0) (.cons (.co (.refl _)) .nil)) (fun _=>J) (fun _=>J) (fun _=>(.cons (P3.jS (fun _=>J)) .nil)) J fun b5=>rM J J<|rX J J J<|rX J J J<|rA J J<|rA J J<|rN<|tS<|tS<|ab.cut (fun aS=>∃ (c6:Bool),iF v4 c6=some r∧aS=⟨36,[(2,.ptr b1 0),(4,.sl 1 b5 0 v4.1.length),(19,.bool c6)],[(b1,.cells [I 0,I 0,I 0]),(b5,cI v4.1)]⟩) ?_ ?_
 ·refine tR<|rM J J<|ae.qv (dc J) J<|rM J J<|ae.guard J J J (fun hc=>?_) (fun hc=>?_)
  ·rw [ya hc] at h
   exact rM J J<|rY J J J<|ae.qv (iH J) J<|rY J J J<|ae.qv (kr J J) J<|rE J J J<|rN<|ab.stop<|aq.lq [2,0] ⟨decide ((v4.1.length:Int)≠3),h,J⟩ J J
  ·rw [x9 hc] at h
   exact rG J J J J<|rG J J J J<|rT J J J<|rN<|ab.stop<|aq.lq [2,0] ⟨true,h,J⟩ J J
 ·rintro aS ⟨c6,h,rfl⟩
  unfold iF at h
  refine cB h J (fun h=>?_) (fun h=>?_)
  ·refine aT<|ae.qv (da J J J J J) J<|aI J J J J .p0 J J<|rA J J<|rN<|ab.ret<|?_
   cases h
   exact aq.here ⟨_,.cons (.all _ _ _ _ _ _ J .p0 aF.h aZ.h J J) (.cons (.tmp _ _ J) .nil),J⟩
  ·refine tK<|tS<|aU h fun v7 e3 h=>aU h fun v8 e4 h=>aU h fun v9 e5 h=>ab.mh (id:=4) (A:=[0,1,3,0,8,24,0,64,192,511,0,2047]) (H0:=[]) (HH:=fun β=>[((β 10),.cells [I 0,I 0,I 0]),(b1,.cells [I 0,I 0,I 0]),(b5,cI v4.1)]) 11 mixed J (by kernel_rfl) (by kernel_rfl) [⟨some 10,none,[],fun b=>(b,.cells [I 0,I 0,I 0]),none,[]⟩] [10] J (by kernel_rfl) J .nil (fun _=>J)<|AT.am 10 J J<|AM.qv (aX J) J<|AM.qv (cm J J J e3) J<|AM.qv (eS (g:=I) J J (.inl .p1) e3 J) J<|AM.qv (aX J) J<|AM.qv (cm J J J e4) J<|AM.qv (eS (g:=I) J J (.inl .p1) e4 J) J<|AM.qv (aX J) J<|AM.qv (cm J J J e5) J<|AM.qv (eS (g:=I) J J (.inl .p1) e5 J) J<|AM.qv (da J J J J J) J<|AM.nil<|AT.yO (V:=fun b=>.ptr b 0) (Ti:=[]) (Pi:=fun b=>[(b,.cells [I 0,I 0,I 0])]) (fun _=>J) (fun _=>J) (fun _ _=>J) J (fun _=>J) J J J ?_ ?_
   ·exact bY J J J J fun tv=>ae.nil ⟨tv,_,J,J⟩
   refine AT.yd (fun _=>J) fun β=>?_
   generalize β 10=tv
   clear β
   refine aI J J J J .p0 J J<|rN<|tS<|aT<|ae.qv (aH J J .p0 J) J<|bl J (iN (J:fh (⟨v7,v8,v9⟩:Version)=_)) cR J<|ae.qv (dc J) J<|rN<|cB h J (fun h=>?_) (fun h=>?_)
   ·refine aT<|ae.qv (da J J J J J) J<|aI J J J J .p1 J J<|rA J J<|rN<|ab.ret<|?_
    cases h
    exact aq.here ⟨_,.cons (.all _ _ _ _ _ _ J .p1 aF.h aZ.h J J) (.cons (.tmp _ _ J) .nil),J⟩
   ·refine tK<|aT<|ae.qv (aH J J .p0 J) J<|aI J J J J .p1 J J<|rA J J<|rN<|ab.ret<|?_
    cases h
    exact aq.here ⟨_,.cons (.all _ _ _ _ _ _ J .p1 aF.h aZ.h J J) (.cons (.tmp _ _ J) .nil),J⟩
theorem CG [GI:ck] {aa:Bi} {r:Bool} (h:su aa=r):Pu Tryz.prog 64 [Bi.av aa] (.bool r):=by
 unfold su at h
 refine aY.ch Tryz.func64 J Tryz.ntmps64 Tryz.results64 J J ?_
 refine aT<|eA J J J J fun b1=>rA J J<|rN<|tS<|ab.cut (fun aS=>∃ (c2:Bool),rU c2=r∧aS=⟨13,[(2,.bool c2)],[]⟩) ?_ ?_
 ·refine tR<|rF J J J<|rL J J .p0 J J<|bl J (ei J) cR J<|ae.qv (dc J) J<|rM J J<|ae.guard J J J (fun hc=>?_) (fun hc=>?_)
  ·rw [AE hc] at h
   exact rF J J J<|rY J J J<|rL J J .p0 J J<|rY J J J<|bl J (ei J) cR J<|rY J J J<|ae.qv (dc J) J<|rT J J J<|rA J J<|rN<|ab.stop<|aq.lq [] ⟨!(du aa.Y (-10000:Int) 10000),h,J⟩ J J
  ·rw [AF hc] at h
   exact rG J J J J<|rG J J J J<|rG J J J J<|rE J J J<|rA J J<|rN<|ab.stop<|aq.lq [] ⟨false,h,J⟩ J J
 ·rintro aS ⟨c2,h,rfl⟩
  unfold rU at h
  refine ab.ret<|?_
  obtain rfl:=h
  exact hP J J
theorem Fl [GI:ck] {aa:Bi} {ai:Int} {r:bq×Int} (h:sY aa ai=some r):Pu Tryz.prog 41 [Bi.av aa,I ai] (.ma [.str r.1,I r.2]):=by
 unfold sY at h
 refine aY.ch Tryz.func41 J Tryz.ntmps41 Tryz.results41 J J ?_
 refine aT<|eA J J J J fun b1=>rA J J<|rA J J<|rN<|tS<|tS<|ab.cut (fun aS=>∃ (c2:Bool),qO aa ai c2=some r∧aS=⟨47,[(1,I ai),(2,.ptr b1 0),(16,.bool c2)],[(b1,.cells [I aa.X,I aa.Y])]⟩) ?_ ?_
 ·refine tR<|ae.qv (aH J J .p0 J) J<|bl J (CG J) cR J<|ae.qv (dc J) J<|rM J J<|ae.guard J J J (fun hc=>?_) (fun hc=>?_)
  ·rw [ya hc] at h
   exact rM J J<|rY J J J<|bl J (ei J) cR J<|rE J J J<|rN<|ab.stop<|aq.lq [0] ⟨(du ai 0 15),h,J⟩ J J
  ·rw [x9 hc] at h
   exact rG J J J J<|rT J J J<|rN<|ab.stop<|aq.lq [0] ⟨true,h,J⟩ J J
 ·rintro aS ⟨c2,h,rfl⟩
  unfold qO at h
  refine cB h J (fun h=>?_) (fun h=>?_)
  ·refine aT<|rA J J<|rA J J<|rN<|ab.ret<|?_
   cases h
   exact hQ J J J
  ·refine tK<|aT<|rA J J<|rN<|tS<|ab.di (id:=4) (A:=[0,1,3,0,8,24,7,127,255]) 9 mixed J (by kernel_rfl) (by kernel_rfl)<|AM.qv (aB J J) J<|AM.qv (aJ J J .p0 J) J<|AM.qv (iY J J) J<|AM.qv (aB J J) J<|AM.qv (aJ J J .p0 J) J<|AM.qv (iY J J) J<|AM.qv (bT J) J<|AM.qv (bT J) J<|AM.qv (bT J) J<|AM.nil<|rN<|tS<|aT<|rM J J<|rM J J<|rN<|ab.block<|ab.dR (fun x:(List Int)×Int×Int=>ou aa ai x.1 x.2.1 x.2.2) (fun x aS=>∃ (b7:Bk),aS=⟨47,[(6,.sl 1 b7 0 x.1.length),(7,I (bA (aa.X - (-16384:Int)))),(8,I (bA (aa.Y - (-16384:Int)))),(9,I x.2.1),(23,I ai),(24,I x.2.2)],[(b7,Dz x.1)]⟩) h ?_ ?_
   ·exact aq.arr (s:=6) 1 J fun Fk=>aq.lq [0] ⟨Fk,J⟩ J J
   ·intro x z1 aS J1 gS h mD gN
    obtain ⟨l8,n9,n10⟩:=x
    obtain ⟨b7,rfl⟩:=gS
    replace h:ou aa ai l8 n9 n10=some z1:=h
    unfold ou at h
    refine aT<|ae.qv (cJ J J) J<|rN<|tS<|cD h J (fun h=>?_) (fun h=>?_)
    ·refine tK<|tS<|ab.block<|aT<|rM J J<|ae.qv (RL J J (by decide)) J<|rA J J<|rN<|ab.di (id:=8) (A:=[0,0,0,6,14,30,62,0,0,384,896,1920,3968,8190,16382,32767,65535]) 15 mixed J (by kernel_rfl) (by kernel_rfl)<|AM.qv (aX J) J<|AM.qv (aX J) J<|AM.qv (aX J) J<|aU h fun n12 e1 h=>AM.qv (E3 J J e1) J<|AM.qv (DN J J (by decide)) J<|AM.qv (jQ J) J<|AM.qv (bQ J J) J<|AM.qv (aX J) J<|AM.qv (aX J) J<|aU h fun n13 e2 h=>AM.qv (E3 J J e2) J<|AM.qv (DN J J (by decide)) J<|AM.qv (jQ J) J<|AM.qv (u4 J J) J<|AM.qv (bQ J J) J<|AM.dt (xs:=([IntKind.u8.wrap ((IntKind.u8.wrap (48+(IntKind.u8.wrap (n12.tmod 2))))+(IntKind.u8.wrap (2 * (IntKind.u8.wrap (n13.tmod 2)))))]).map (AV.int .u8)) J J J J J J<|AM.nil<|aU h fun yk e3 h=>fO (g:=(AV.int .u8)) J J J J J J J J (.list _) e3 (fun _=>.p0) J fun F7=>rA J J<|rN<|ab.dp<|tR<|ae.qv (bQ J J) J<|rM J J<|rN<|ab.stop<|?_
     cases h
     exact mD _ _ J<|aq.lq [0] ⟨F7,J⟩ J J
    ·refine ab.exit J<|have h:=cW h gN;aT<|rM J J<|ae.qv (La J (ku.jS .p0)) J<|rA J J<|rA J J<|rN<|ab.ret<|?_
     cases h
     exact hQ J J J
theorem uf [GI:ck] {aa ai:List Int} {r:Bool} (h:gB aa ai=some r):Pu Tryz.prog 42 [QD aa,QD ai] (.bool r):=by
 unfold gB at h
 refine aY.ch Tryz.func42 J Tryz.ntmps42 Tryz.results42 J J ?_
 refine aT<|rA J J<|rN<|tS<|aT<|rM J J<|ae.qv (dm J) J<|rM J J<|ae.qv (dm J) J<|ae.qv (kr J J) J<|rN<|cD h J (fun h=>?_) (fun h=>?_)
 ·refine aT<|rA J J<|rN<|ab.ret<|?_
  cases h
  exact hP J J
 ·refine tK<|tS<|aT<|rM J J<|ae.qv (dm J) J<|rM J J<|rN<|ab.block<|ab.dR (fun x:Int=>dj aa ai x) (fun x aS=>aS=⟨26,[(0,QD aa),(1,QD ai),(12,I (aa.length:Int)),(13,I x)],[]⟩) h ?_ ?_
  ·exact aq.lq [] J J J
  ·intro n2 z1 aS J1 gS h mD gN
   obtain rfl:=gS
   replace h:dj aa ai n2=some z1:=h
   unfold dj at h
   refine aT<|ae.qv (cJ J J) J<|rN<|tS<|cD h J (fun h=>?_) (fun h=>?_)
   ·refine tK<|tS<|ab.block<|aT<|rM J J<|rA J J<|rN<|tS<|ab.di (id:=6) (A:=[0,0,3,7,0,0,48,112,255]) 9 mixed J (by kernel_rfl) (by kernel_rfl)<|AM.qv (aX J) J<|AM.qv (aX J) J<|aU h fun v3 e1 h=>AM.qv (bS J J J e1 J J) J<|AM.qv (aR J J J) J<|AM.qv (aX J) J<|AM.qv (aX J) J<|aU h fun v4 e2 h=>AM.qv (bS J J J e2 J J) J<|AM.qv (aR J J J) J<|AM.qv (kr J J) J<|AM.nil<|rN<|cD h J (fun h=>?_) (fun h=>?_)
    ·refine aT<|rA J J<|rN<|ab.ret<|have h:=cW h gN;?_
     cases h
     exact hP J J
    ·refine tK<|ab.dp<|tR<|ae.qv (bQ J J) J<|rM J J<|rN<|ab.stop<|?_
     cases h
     exact mD _ _ J<|aq.lq [] J J J
   ·refine ab.exit J<|have h:=cW h gN;aT<|rA J J<|rN<|ab.ret<|?_
    cases h
    exact hP J J
theorem Fm {r:Bool} (h:sZ=some r):Pu Tryz.prog 13 [] (.bool r):=by
 unfold sZ at h
 refine aY.ch Tryz.func13 J Tryz.ntmps13 Tryz.results13 J J ?_
 refine aT<|rA J J<|rN<|aT<|ae.qv (da J J J J J) J<|bf (xs:=([(⟨([100]:bq),([109]:bq),1,1⟩:cP)]).map cP.av) J J J J J J<|aU h fun v1 e1 h=>kK J (DD e1) cR .nil (fun _=>J) J fun b2=>rM J J<|rX J J J<|rX J J J<|rA J J<|rA J J<|rN<|aT<|aU h fun v3 e2 h=>bl J (uN e2) cR J<|rM J J<|rX J J J<|rX J J J<|bY J J J J fun b4=>aI J J J J .p0 J J<|rA J J<|rN<|aT<|ae.qv (da J J J J J) J<|aU h fun v5 e3 h=>bl J (Fl e3) cR J<|rM J J<|rX J J J<|rX J J J<|rA J J<|rA J J<|rN<|tS<|ab.cut (fun aS=>∃ (c6:Bool),mK c6=some r∧aS=⟨46,[(0,.bool c6)],[]⟩) ?_ ?_
 ·refine tR<|rM J J<|ae.qv (fY J J) J<|rM J J<|gT h J J J (fun h=>?_) (fun h=>?_)
  ·refine rM J J<|rY J J J<|ae.qv (fY J J) J<|rT J J J<|rM J J<|gT h J J J (fun h=>?_) (fun h=>?_)
   ·refine rM J J<|rY J J J<|ae.qv (fY J J) J<|rT J J J<|rM J J<|gT h J J J (fun h=>?_) (fun h=>?_)
    ·refine rM J J<|rY J J J<|bf (xs:=([1,2,2]).map (AV.int .u8)) J J J J J J<|rY J J J<|aU h fun v7 e4 h=>gb J (uf e4) (.cons (ku.jS .p1) (.cons (.co (.refl _)) .nil)) J J<|rT J J J<|rM J J<|ae.guard J J J (fun hc=>?_) (fun hc=>?_)
     ·rw [AE hc] at h
      refine rF J J J<|rY J J J<|rL J J .p0 J J<|rY J J J<|ae.qv (fY J J) J<|rT J J J<|rM J J<|ae.dq J J J (fun hc=>?_) (fun hc=>?_)
      ·rw [sR hc] at h
       exact rM J J<|rY J J J<|ae.qv (Ge J J) J<|rT J J J<|rA J J<|rN<|ab.stop<|aq.lq [] ⟨decide (v5.1=([51]:bq)),h,J⟩ J J
      ·rw [sS hc] at h
       exact rG J J J J<|rE J J J<|rA J J<|rN<|ab.stop<|aq.lq [] ⟨false,h,J⟩ J J
     ·rw [AF hc] at h
      exact rG J J J J<|rG J J J J<|rE J J J<|rM J J<|rG J J J J<|rG J J J J<|rE J J J<|rA J J<|rN<|ab.stop<|aq.lq [] ⟨false,h,J⟩ J J
    ·exact rG J J J J<|rG J J J J<|rE J J J<|rM J J<|rG J J J J<|rG J J J J<|rG J J J J<|rE J J J<|rM J J<|rG J J J J<|rG J J J J<|rE J J J<|rA J J<|rN<|ab.stop<|aq.lq [] ⟨false,h,J⟩ J J
   ·exact rG J J J J<|rE J J J<|rM J J<|rG J J J J<|rG J J J J<|rG J J J J<|rE J J J<|rM J J<|rG J J J J<|rG J J J J<|rG J J J J<|rE J J J<|rM J J<|rG J J J J<|rG J J J J<|rE J J J<|rA J J<|rN<|ab.stop<|aq.lq [] ⟨false,h,J⟩ J J
  ·exact rG J J J J<|rE J J J<|rM J J<|rG J J J J<|rG J J J J<|rE J J J<|rM J J<|rG J J J J<|rG J J J J<|rG J J J J<|rE J J J<|rM J J<|rG J J J J<|rG J J J J<|rG J J J J<|rE J J J<|rM J J<|rG J J J J<|rG J J J J<|rE J J J<|rA J J<|rN<|ab.stop<|aq.lq [] ⟨false,h,J⟩ J J
 ·rintro aS ⟨c6,h,rfl⟩
  unfold mK at h
  refine ab.ret<|?_
  cases h
  exact hP J J
theorem vW {aa:List Int} {r:Bool} (h:jn aa=some r):Pu Tryz.prog 3 [mz aa] (.bool r):=by
 unfold jn at h
 refine aY.ch Tryz.func3 J Tryz.ntmps3 Tryz.results3 J J ?_
 refine aT<|rA J J<|rN<|aT<|rM J J<|ae.qv (da J J J J J) J<|eA J J J J fun b1=>rA J J<|rN<|aT<|rM J J<|aU h fun v2 e1 h=>kK J (vd e1) cR (.cons .p0 .nil) (fun _=>J) J fun b3=>rM J J<|aU h fun v4 e2 h=>kK J (wC e2) cR (.cons .p0 .nil) (fun _=>J) J fun b5=>rM J J<|aU h fun v6 e3 h=>kK J (xG e3) cR (.cons .p0 .nil) (fun _=>J) J fun b7=>bY J J J J fun b8=>aI J J J J .p0 J J<|rA J J<|rA J J<|rN<|aT<|ae.qv (da J J J J J) J<|rF J J J<|aI J J J J .p0 J J<|rN<|tS<|aT<|rF J J J<|rL J J .p0 J J<|ae.qv (iH J) J<|rM J J<|rN<|ab.block<|ab.dR (fun x:(List iz)×Int=>gD v2 v4 v6 x.1 x.2) (fun x aS=>aS=⟨156,[(4,.ptr b8 0),(5,.sl 6 b5 0 v4.1.length),(6,.sl 7 b7 0 v6.1.length),(36,I (v2.1.aG.length:Int)),(37,I x.2)],[(b8,.cells [.str v2.1.Key,I v2.1.Target.ax,I v2.1.Target.aA,I v2.1.Target.aC,I v2.1.At,.sl 4 b3 0 x.1.length,I 0,I 0,I v2.1.Room]),(b3,Wj x.1),(b5,yB v4.1),(b7,I7 v6.1)]⟩) h ?_ ?_
 ·exact aq.lq [0,3,2,1] J J J
 ·intro x z1 aS J1 gS h mD gN
  obtain ⟨jM,n12⟩:=x
  obtain rfl:=gS
  replace h:gD v2 v4 v6 jM n12=some z1:=h
  unfold gD at h
  refine aT<|ae.qv (cJ J J) J<|rN<|tS<|cD h J (fun h=>?_) (fun h=>?_)
  ·refine tK<|tS<|ab.block<|aT<|rM J J<|rA J J<|rN<|tR<|rF J J J<|rL J J .p0 J J<|rM J J<|aU h fun oZ e4 h=>ae.qv (cm J J J e4) J<|ae.qv (yH J J) J<|lg (g:=iz.av) (H7:=(⟨oZ.Part,0,oZ.pk,oZ.ct⟩:iz)) J J J J e4 J .p1 J<|ae.ghost<|aq.eqs (s:=41) (rf:=.sl 4 b3 0 (jM.set n12.toNat (⟨oZ.Part,0,oZ.pk,oZ.ct⟩:iz)).length) J (by rw [ac])<|aq.here<|ae.ghost<|aq.DW (j:=5) (rf:=.sl 4 b3 0 (jM.set n12.toNat (⟨oZ.Part,0,oZ.pk,oZ.ct⟩:iz)).length) .p0 J (by rw [ac]) J<|aq.here<|rN<|ab.dp<|tR<|ae.qv (bQ J J) J<|rM J J<|rN<|ab.stop<|?_
   cases h
   exact mD _ _ J<|aq.lq [0,0,0,0] J J J
  ·refine ab.exit J<|have h:=cW h gN;?_
   unfold jB at h
   refine aT<|ae.qv (aH J J .p0 J) J<|rM J J<|rM J J<|rF J J J<|rL J J .p0 J J<|rF J J J<|rL J J .p0 J J<|ae.qv (bQ J J) J<|ae.qv (da J J J J J) J<|ae.ghost<|aq.freeze .p1<|aq.here<|ae.ghost<|aq.VH (s:=47) (rf:=.agg [.str v2.1.Key,I v2.1.Target.ax,I v2.1.Target.aA,I v2.1.Target.aC,I v2.1.At,nW jM,I 0,I 0,I v2.1.Room]) J (By.KS (.cons .r (.cons .r (.cons .r (.cons .r (.cons .r (.cons (.co (Co.E5 .p1)) (.cons .r (.cons .r (.cons .r .nil))))))))))<|aq.here<|aU h fun rq e5 h=>yR J (Bo e5) .nil (.cons (.co (.refl _)) (.cons (ku.jS .p2) (.cons (ku.jS .p3) (.cons (.co (.refl _)) (.cons (.co (.nil _)) (.cons (.co (.refl _)) .nil)))))) (fun _=>J) (fun _=>J) (fun _=>(.cons (P3.jS (fun _=>J)) .nil)) J fun F7=>rM J J<|rX J J J<|rX J J J<|rA J J<|rA J J<|rN<|tS<|aT<|rM J J<|ae.qv (kr J J) J<|rN<|cD h J (fun h=>?_) (fun h=>?_)
   ·refine aT<|rA J J<|rN<|ab.ret<|?_
    cases h
    exact hP J J
   ·refine tK<|aT<|rF J J J<|rL J J .p1 J J<|ae.qv (bQ J J) J<|rA J J<|rN<|aT<|ae.qv (aH J J .p1 J) J<|rM J J<|rM J J<|rM J J<|aU h fun Cw e6 h=>gb J (yn e6) (.cons (ku.KS (.cons (.co (.refl _)) (.cons (.co (.refl _)) (.cons (.co (.refl _)) (.cons (.co (.refl _)) (.cons (.co (.refl _)) (.cons (.co (Co.E5 .p2)) (.cons (.co (.refl _)) (.cons (.co (.refl _)) (.cons (.co (.refl _)) .nil)))))))))) (.cons (ku.jS .p4) (.cons (ku.jS .p0) (.cons (.co (.refl _)) .nil)))) J J<|rM J J<|rX J J J<|rX J J J<|rA J J<|rA J J<|rN<|aT<|ae.qv (aH J J .p1 J) J<|rM J J<|rM J J<|rM J J<|ae.ghost<|aq.VH (s:=73) (rf:=.agg [.str v2.1.Key,I v2.1.Target.ax,I v2.1.Target.aA,I v2.1.Target.aC,I v2.1.At,nW jM,I 0,I 0,I v2.1.Room]) J (By.KS (.cons .r (.cons .r (.cons .r (.cons .r (.cons .r (.cons (.co (Co.E5 .p2)) (.cons .r (.cons .r (.cons .r .nil))))))))))<|aq.here<|aU h fun v17 e7 h=>yR J (zb e7) .nil (.cons (.co (.refl _)) (.cons (ku.jS .p4) (.cons (ku.jS .p0) (.cons (.co (.refl _)) .nil)))) (fun _=>J) (fun _=>J) (fun _=>(.cons (P3.jS (fun _=>J)) .nil)) J fun vD=>rM J J<|rX J J J<|rX J J J<|rA J J<|rA J J<|rN<|tS<|tS<|ab.cut (fun aS=>∃ (Wi:Bool),jA v2 v4 v6 jM rq v17 Wi=some r∧aS=⟨156,[(4,.ptr b8 0),(5,.sl 6 b5 0 v4.1.length),(6,.sl 7 b7 0 v6.1.length),(8,.sl 6 F7 0 rq.1.length),(10,I (bA (v2.1.At+1500))),(13,.sl 1 vD 0 v17.1.length),(89,.bool Wi)],[(b8,.cells [.str v2.1.Key,I v2.1.Target.ax,I v2.1.Target.aA,I v2.1.Target.aC,I v2.1.At,.sl 4 b3 0 jM.length,I 0,I 0,I v2.1.Room]),(b3,XU jM),(b5,yB v4.1),(b7,I7 v6.1),(F7,I8 rq.1),(vD,cI v17.1)]⟩) ?_ ?_
    ·refine tR<|rM J J<|ae.qv (kr J J) J<|rM J J<|ae.ek J J J (fun hc=>?_) (fun hc=>?_)
     ·rw [yK hc] at h
      refine rM J J<|rY J J J<|ae.qv (kr J J) J<|rE J J J<|rM J J<|ae.ek J J J (fun hc=>?_) (fun hc=>?_)
      ·rw [yK hc] at h
       exact rM J J<|rY J J J<|ae.qv (kr J J) J<|rE J J J<|rN<|ab.stop<|aq.lq [2,2,2,2,1,0] ⟨decide (Cw.1≠(-1:Int)),h,J⟩ J J
      ·rw [yJ hc] at h
       exact rG J J J J<|rT J J J<|rN<|ab.stop<|aq.lq [2,2,2,2,1,0] ⟨true,h,J⟩ J J
     ·rw [yJ hc] at h
      exact rG J J J J<|rT J J J<|rM J J<|rG J J J J<|rG J J J J<|rT J J J<|rN<|ab.stop<|aq.lq [2,2,2,2,1,0] ⟨true,h,J⟩ J J
    ·rintro aS ⟨Wi,h,rfl⟩
     unfold jA at h
     refine cB h J (fun h=>?_) (fun h=>?_)
     ·refine aT<|rA J J<|rN<|ab.ret<|?_
      cases h
      exact hP J J
     ·refine tK<|tS<|aT<|rM J J<|ae.qv (iH J) J<|rM J J<|rN<|ab.block<|ab.dR (fun x:Int=>gC v2 v4 v6 jM rq v17 x) (fun x aS=>aS=⟨156,[(4,.ptr b8 0),(5,.sl 6 b5 0 v4.1.length),(8,.sl 6 F7 0 rq.1.length),(10,I (bA (v2.1.At+1500))),(13,.sl 1 vD 0 v17.1.length),(90,.sl 7 b7 0 v6.1.length),(91,I (v6.1.length:Int)),(92,I x)],[(b8,.cells [.str v2.1.Key,I v2.1.Target.ax,I v2.1.Target.aA,I v2.1.Target.aC,I v2.1.At,.sl 4 b3 0 jM.length,I 0,I 0,I v2.1.Room]),(b3,XU jM),(b5,yB v4.1),(F7,I8 rq.1),(vD,cI v17.1),(b7,I7 v6.1)]⟩) h ?_ ?_
      ·exact aq.lq [0,0,0,1,1,0] J J J
      ·intro n21 z2 aS J2 gS h DA AL
       obtain rfl:=gS
       replace h:gC v2 v4 v6 jM rq v17 n21=some z2:=h
       unfold gC at h
       refine aT<|ae.qv (cJ J J) J<|rN<|tS<|cD h J (fun h=>?_) (fun h=>?_)
       ·refine tK<|tS<|ab.block<|aT<|aU h fun v22 e8 h=>ae.qv (cm J J J e8) J<|ae.qv (gP (g:=DeviceS.av) J J (.inl .p5) J e8 J) J<|bY J J J J fun Wk=>aI J J J J .p0 J J<|rN<|aT<|ae.qv (aH J J .p1 J) J<|rF J J J<|rL J J .p0 J J<|aU h fun v24 e9 h=>gb J (Bp e9) (.cons (ku.KS (.cons (.co (.refl _)) (.cons (.co (.refl _)) (.cons (.co (.refl _)) (.cons (.co (.refl _)) (.cons (.co (.refl _)) (.cons (.co (Co.E5 .p2)) (.cons (.co (.refl _)) (.cons (.co (.refl _)) (.cons (.co (.refl _)) .nil)))))))))) (.cons (.co (.refl _)) .nil)) J J<|rM J J<|rX J J J<|rX J J J<|rA J J<|rA J J<|rN<|aT<|rM J J<|rF J J J<|rL J J .p0 J J<|rF J J J<|ae.qv (aP J J .p0 J J) J<|rF J J J<|ae.qv (aP J J .p1 J J) J<|aU h fun v25 Cy h=>yR J (CC Cy) .nil (.cons (ku.jS .p3) (.cons (.co (.refl _)) (.cons (.co (.refl _)) (.cons (.co (.refl _)) .nil)))) (fun _=>J) (fun _=>J) (fun _=>(.cons (P3.jS (fun _=>J)) .nil)) J fun UX=>rM J J<|rX J J J<|rX J J J<|rA J J<|rA J J<|rN<|aT<|ae.qv (aH J J .p2 J) J<|ae.qv (aH J J .p1 J) J<|rM J J<|rM J J<|aU h fun jV Hg h=>gb J (zc Hg) (.cons (ku.KS (.cons (.co (.refl _)) (.cons (.co (.refl _)) (.cons (.co (.refl _)) (.cons (.co (.refl _)) (.cons (.co (.refl _)) (.cons (.co (Co.E5 .p3)) (.cons (.co (.refl _)) (.cons (.co (.refl _)) (.cons (.co (.refl _)) .nil)))))))))) (.cons (.co (.refl _)) (.cons (ku.jS .p5) (.cons (.co (.refl _)) .nil)))) J J<|rM J J<|rX J J J<|rX J J J<|bY J J J J fun Lo=>aI J J J J .p0 J J<|rA J J<|rN<|tS<|tS<|ab.cut (fun aS=>∃ (Wh:Bool),jz v2 v17 n21 v22 v24 v25 jV Wh=some z2∧aS=⟨156,[(4,.ptr b8 0),(5,.sl 6 b5 0 v4.1.length),(8,.sl 6 F7 0 rq.1.length),(10,I (bA (v2.1.At+1500))),(13,.sl 1 vD 0 v17.1.length),(16,.ptr Wk 0),(17,I v24.1),(20,I v25.2),(21,.ptr Lo 0),(90,.sl 7 b7 0 v6.1.length),(91,I (v6.1.length:Int)),(92,I n21),(127,.bool Wh)],[(b8,.cells [.str v2.1.Key,I v2.1.Target.ax,I v2.1.Target.aA,I v2.1.Target.aC,I v2.1.At,.sl 4 b3 0 jM.length,I 0,I 0,I v2.1.Room]),(b3,XU jM),(b5,yB v4.1),(F7,I8 rq.1),(vD,cI v17.1),(Wk,.cells (Pg v22)),(Lo,.cells [I jV.1.Kind,I jV.1.Since,I jV.1.Version.ax,I jV.1.Version.aA,I jV.1.Version.aC,I jV.1.ct]),(b7,I7 v6.1)]⟩) ?_ ?_
        ·refine tR<|rM J J<|ae.qv (kr J J) J<|rM J J<|ae.ek J J J (fun hc=>?_) (fun hc=>?_)
         ·rw [yK hc] at h
          exact rM J J<|rY J J J<|ae.qv (kr J J) J<|rE J J J<|rN<|ab.stop<|aq.lq [3,3,3,3,3,2,0,1] ⟨decide (jV.2≠0),h,J⟩ J J
         ·rw [yJ hc] at h
          exact rG J J J J<|rT J J J<|rN<|ab.stop<|aq.lq [3,3,3,3,3,2,0,1] ⟨true,h,J⟩ J J
        ·rintro aS ⟨Wh,h,rfl⟩
         unfold jz at h
         refine cB h J (fun h=>?_) (fun h=>?_)
         ·refine aT<|rA J J<|rN<|ab.ret<|have h:=cW h AL;?_
          cases h
          exact hP J J
         ·refine tK<|tS<|ab.cut (fun aS=>∃ (Tx:Bool),jy n21 Tx=some z2∧aS=⟨156,[(4,.ptr b8 0),(5,.sl 6 b5 0 v4.1.length),(8,.sl 6 F7 0 rq.1.length),(10,I (bA (v2.1.At+1500))),(13,.sl 1 vD 0 v17.1.length),(90,.sl 7 b7 0 v6.1.length),(91,I (v6.1.length:Int)),(92,I n21),(153,.bool Tx)],[(b8,.cells [.str v2.1.Key,I v2.1.Target.ax,I v2.1.Target.aA,I v2.1.Target.aC,I v2.1.At,.sl 4 b3 0 jM.length,I 0,I 0,I v2.1.Room]),(b3,XU jM),(b5,yB v4.1),(F7,I8 rq.1),(vD,cI v17.1),(b7,I7 v6.1)]⟩) ?_ ?_
          ·refine tR<|rM J J<|ae.qv (fY J J) J<|rM J J<|ae.dq J J J (fun hc=>?_) (fun hc=>?_)
           ·rw [if_pos hc] at h
            refine rM J J<|rY J J J<|rM J J<|rY J J J<|ae.qv (iH J) J<|rY J J J<|ae.qv (cJ J J) J<|rT J J J<|rM J J<|ae.dq J J J (fun hc=>?_) (fun hc=>?_)
            ·rw [if_pos hc] at h
             refine rF J J J<|rY J J J<|ae.qv (aP J J .p6 J J) J<|rY J J J<|rF J J J<|rY J J J<|ae.qv (aP J J .p0 J J) J<|rY J J J<|ae.qv (DX (g:=Version.av) (X:=jV.1.Version) (Y:=v2.1.Target) J J J J J) J<|rT J J J<|rM J J<|ae.ek J J J (fun hc=>?_) (fun hc=>?_)
             ·rw [yK hc] at h
              refine rM J J<|rY J J J<|ae.qv (kr J J) J<|rY J J J<|rM J J<|ae.dq J J J (fun hc=>?_) (fun hc=>?_)
              ·rw [sR hc] at h
               exact rF J J J<|rY J J J<|ae.qv (aP J J .p6 J J) J<|rY J J J<|rF J J J<|rY J J J<|ae.qv (aP J J .p5 J J) J<|rY J J J<|ae.qv (DX (g:=Version.av) (X:=jV.1.Version) (Y:=v22.bB) J J J J J) J<|rY J J J<|rT J J J<|rE J J J<|rN<|ab.stop<|aq.lq [0,0,0,0,0,2] ⟨decide (jV.1.Version≠v22.bB),h,J⟩ J J
              ·rw [sS hc] at h
               exact rG J J J J<|rG J J J J<|rG J J J J<|rG J J J J<|rY J J J<|rE J J J<|rE J J J<|rN<|ab.stop<|aq.lq [0,0,0,0,0,2] ⟨false,h,J⟩ J J
             ·rw [yJ hc] at h
              exact rG J J J J<|rG J J J J<|ae.aV J J J<|ae.aV J J J<|ae.aV J J J<|ae.aV J J J<|ae.aV J J J<|rG J J J J<|rT J J J<|rN<|ab.stop<|aq.lq [0,0,0,0,0,2] ⟨true,h,J⟩ J J
            ·rw [if_neg hc] at h
             refine rG J J J J<|rG J J J J<|rG J J J J<|rG J J J J<|rE J J J<|rM J J<|rY J J J<|rM J J<|rY J J J<|ae.qv (kr J J) J<|rY J J J<|rM J J<|ae.dq J J J (fun hc=>?_) (fun hc=>?_)
             ·rw [sR hc] at h
              exact rF J J J<|rY J J J<|ae.qv (aP J J .p6 J J) J<|rY J J J<|rF J J J<|rY J J J<|ae.qv (aP J J .p5 J J) J<|rY J J J<|ae.qv (DX (g:=Version.av) (X:=jV.1.Version) (Y:=v22.bB) J J J J J) J<|rY J J J<|rT J J J<|rE J J J<|rN<|ab.stop<|aq.lq [0,0,0,0,0,2] ⟨decide (jV.1.Version≠v22.bB),h,J⟩ J J
             ·rw [sS hc] at h
              exact rG J J J J<|rG J J J J<|rG J J J J<|rG J J J J<|rY J J J<|rE J J J<|rE J J J<|rN<|ab.stop<|aq.lq [0,0,0,0,0,2] ⟨false,h,J⟩ J J
           ·rw [if_neg hc] at h
            refine rG J J J J<|rG J J J J<|rG J J J J<|rE J J J<|rM J J<|rG J J J J<|rG J J J J<|rG J J J J<|rG J J J J<|rG J J J J<|rE J J J<|rM J J<|rY J J J<|rM J J<|rY J J J<|ae.qv (kr J J) J<|rY J J J<|rM J J<|ae.dq J J J (fun hc=>?_) (fun hc=>?_)
            ·rw [sR hc] at h
             exact rF J J J<|rY J J J<|ae.qv (aP J J .p6 J J) J<|rY J J J<|rF J J J<|rY J J J<|ae.qv (aP J J .p5 J J) J<|rY J J J<|ae.qv (DX (g:=Version.av) (X:=jV.1.Version) (Y:=v22.bB) J J J J J) J<|rY J J J<|rT J J J<|rE J J J<|rN<|ab.stop<|aq.lq [0,0,0,0,0,2] ⟨decide (jV.1.Version≠v22.bB),h,J⟩ J J
            ·rw [sS hc] at h
             exact rG J J J J<|rG J J J J<|rG J J J J<|rG J J J J<|rY J J J<|rE J J J<|rE J J J<|rN<|ab.stop<|aq.lq [0,0,0,0,0,2] ⟨false,h,J⟩ J J
          ·rintro aS ⟨Tx,h,rfl⟩
           unfold jy at h
           refine cB h J (fun h=>?_) (fun h=>?_)
           ·refine aT<|rA J J<|rN<|ab.ret<|have h:=cW h AL;?_
            cases h
            exact hP J J
           ·refine tK<|ab.dp<|tR<|ae.qv (bQ J J) J<|rM J J<|rN<|ab.stop<|?_
            cases h
            exact DA _ _ J<|aq.lq [0,0,0,0,0,0] J J J
       ·refine ab.exit J<|have h:=cW h AL;?_
        unfold mr at h
        refine aT<|aU h fun v31 I9 h=>bl J (Fm I9) cR J<|rA J J<|rN<|ab.ret<|?_
        cases h
        exact hP J J
end Go.Proofs.YtipbfaojbmendaaGreatDoor
