/- The code computes the plain functions: proofs written by shal.py. -/
import Derived.Test.YthfphcbipahkmaaGreatDoorOfmW3
set_option maxHeartbeats 4000000
set_option maxRecDepth 100000
set_option linter.unusedVariables false
set_option linter.unusedSimpArgs false
namespace Go.Proofs.YthfphcbipahkmaaGreatDoor
open Go Go.Eng Go.Proofs Go.Beacon
attribute [local irreducible] ae ab AQ QV aP aj Sf AM
theorem E4 {aa:List bn} {ai:Int} {r:(List Int)×Bool} (h:sr aa ai=some r):aP Tryz.prog 113 [Du aa,I ai] [] (T1 (fun nO=>[(nO,dH r.1)]) (fun nO=>.lE [.sl 1 nO 0 r.1.length,.bool r.2])):=by
 unfold sr at h
 refine aP.hC ?_
 refine aP.bI Tryz.func113 J Tryz.ntmps113 Tryz.results113 J J ?_
 refine aJ<|rA J J<|rA J J<|rN<|aJ<|rA J J<|rN<|tS<|aJ<|rM J J<|ae.qv (ca J) J<|rM J J<|rN<|ab.block<|ab.cx (fun x:(List Int)×Int=>lZ aa ai x.1 x.2) (fun x aK=>∃ (b4:Bk),aK=⟨31,[(1,I ai),(6,.sl 1 b4 0 x.1.length),(11,Du aa),(12,I (aa.length:Int)),(13,I x.2)],[(b4,dH x.1)]⟩) h ?_ ?_
 ·exact aj.arr (s:=6) 1 J fun b7=>aj.lq [0] ⟨b7,J⟩ J J
 ·intro x z1 aK J1 dY h jl dQ
  obtain ⟨l5,n6⟩:=x
  obtain ⟨b4,rfl⟩:=dY
  replace h:lZ aa ai l5 n6=some z1:=h
  unfold lZ at h
  refine aJ<|ae.qv (bO J J) J<|rN<|tS<|cD h J (fun h=>?_) (fun h=>?_)
  ·refine tK<|tS<|ab.block<|aJ<|aH h fun v8 e1 h=>ae.qv (bG J J J e1 J J) J<|ae.qv (aQ J J J) J<|rA J J<|rN<|aJ<|rM J J<|rM J J<|aH h fun v9 e2 h=>aT J (FY e2) cR J<|rM J J<|rX J J J<|rX J J J<|rA J J<|rA J J<|rN<|tS<|aJ<|rM J J<|ae.qv (cu J) J<|rN<|cB h J (fun h=>?_) (fun h=>?_)
   ·refine aJ<|rA J J<|rA J J<|rN<|ab.ret<|have h:=bT h dQ;?_
    cases h
    exact aj.arr (s:=4) 1 J fun tL=>aj.here ⟨_,.cons (.tmp _ _ J) (.cons (.tmp _ _ J) .nil),_,.cons .p0 .nil,⟨tL,J,J⟩⟩
   ·refine tK<|tR<|rM J J<|rM J J<|aW (xs:=([v9.1]:List Int).map I) J J J J J J<|aH h fun js e3 h=>fo (g:=I) J J J J J J J J (.list _) e3 (fun _=>.p0) J fun kV=>rA J J<|rN<|ab.cw<|tR<|ae.qv (bq J J) J<|rM J J<|rN<|ab.stop<|?_
    cases h
    exact jl _ _ J<|aj.lq [0] ⟨kV,J⟩ J J
  ·refine ab.exit J<|have h:=bT h dQ;aJ<|rM J J<|rA J J<|rA J J<|rN<|ab.ret<|?_
   cases h
   exact hI J J [0] J ⟨b4,J,J⟩
theorem xi {aa:bn} {r:Version×Int} (h:je aa=some r):Pu Tryz.prog 71 [.str aa] (.lE [Version.av r.1,I r.2]):=by
 unfold je at h
 refine aP.bI Tryz.func71 J Tryz.ntmps71 Tryz.results71 J J ?_
 refine aJ<|bH J J J J fun b1=>rA J J<|rN<|aJ<|rM J J<|aH h fun v2 e1 h=>jn J (Ds e1) cR .nil (fun _=>J) J fun b3=>aH h fun v4 e2 h=>En J (E4 e2) .nil (.cons (lO.jX .p0) (.cons (.co (.refl _)) .nil)) (fun _=>J) (fun _=>J) (fun _=>(.cons (UK.jX (fun _=>J)) .nil)) J fun b5=>rM J J<|rX J J J<|rX J J J<|rA J J<|rA J J<|rN<|tS<|tS<|ab.cut (fun aK=>∃ (c6:Bool),jx v4 c6=some r∧aK=⟨36,[(2,.ptr b1 0),(4,.sl 1 b5 0 v4.1.length),(19,.bool c6)],[(b1,.cells [I 0,I 0,I 0]),(b5,dH v4.1)]⟩) ?_ ?_
 ·refine tR<|rM J J<|ae.qv (cu J) J<|rM J J<|ae.guard J J J (fun hc=>?_) (fun hc=>?_)
  ·rw [vI hc] at h
   exact rM J J<|rY J J J<|ae.qv (ee J) J<|rY J J J<|ae.qv (o9 J J) J<|rE J J J<|rN<|ab.stop<|aj.lq [2,0] ⟨decide ((v4.1.length:Int)≠3),h,J⟩ J J
  ·rw [vH hc] at h
   exact rG J J J J<|rG J J J J<|rT J J J<|rN<|ab.stop<|aj.lq [2,0] ⟨true,h,J⟩ J J
 ·rintro aK ⟨c6,h,rfl⟩
  unfold jx at h
  refine cB h J (fun h=>?_) (fun h=>?_)
  ·refine aJ<|ae.qv (dv J J J J J) J<|ay J J J J .p0 J J<|rA J J<|rN<|ab.ret<|?_
   cases h
   exact aj.here ⟨_,.cons (.all _ _ _ _ _ _ J .p0 aB.h aX.h J J) (.cons (.tmp _ _ J) .nil),J⟩
  ·refine tK<|tS<|aH h fun v7 e3 h=>aH h fun v8 e4 h=>aH h fun v9 e5 h=>ab.jN (id:=4) (A:=[0,1,3,0,8,24,0,64,192,511,0,2047]) (H0:=[]) (HH:=fun β=>[((β 10),.cells [I 0,I 0,I 0]),(b1,.cells [I 0,I 0,I 0]),(b5,dH v4.1)]) 11 mixed J (by kernel_rfl) (by kernel_rfl) [⟨some 10,none,[],fun b=>(b,.cells [I 0,I 0,I 0]),none,[]⟩] [10] J (by kernel_rfl) J .nil (fun _=>J)<|AT.am 10 J J<|AM.qv (aM J) J<|AM.qv (bu J J J e3) J<|AM.qv (dJ (g:=I) J J (.inl .p1) e3 J) J<|AM.qv (aM J) J<|AM.qv (bu J J J e4) J<|AM.qv (dJ (g:=I) J J (.inl .p1) e4 J) J<|AM.qv (aM J) J<|AM.qv (bu J J J e5) J<|AM.qv (dJ (g:=I) J J (.inl .p1) e5 J) J<|AM.qv (dv J J J J J) J<|AM.nil<|AT.Bm (V:=fun b=>.ptr b 0) (Ti:=[]) (Pi:=fun b=>[(b,.cells [I 0,I 0,I 0])]) (fun _=>J) (fun _=>J) (fun _ _=>J) J (fun _=>J) J J J ?_ ?_
   ·exact bH J J J J fun tL=>ae.nil ⟨tL,_,J,J⟩
   refine AT.wW (fun _=>J) fun β=>?_
   generalize β 10=tL
   clear β
   refine ay J J J J .p0 J J<|rN<|tS<|aJ<|ae.qv (aG J J .p0 J) J<|aT J (lz (J:gW (⟨v7,v8,v9⟩:Version)=_)) cR J<|ae.qv (cu J) J<|rN<|cB h J (fun h=>?_) (fun h=>?_)
   ·refine aJ<|ae.qv (dv J J J J J) J<|ay J J J J .p1 J J<|rA J J<|rN<|ab.ret<|?_
    cases h
    exact aj.here ⟨_,.cons (.all _ _ _ _ _ _ J .p1 aB.h aX.h J J) (.cons (.tmp _ _ J) .nil),J⟩
   ·refine tK<|aJ<|ae.qv (aG J J .p0 J) J<|ay J J J J .p1 J J<|rA J J<|rN<|ab.ret<|?_
    cases h
    exact aj.here ⟨_,.cons (.all _ _ _ _ _ _ J .p1 aB.h aX.h J J) (.cons (.tmp _ _ J) .nil),J⟩
theorem An {r:Bool} (h:rJ=some r):Pu Tryz.prog 23 [] (.bool r):=by
 unfold rJ at h
 refine aP.bI Tryz.func23 J Tryz.ntmps23 Tryz.results23 J J ?_
 refine aJ<|rA J J<|rN<|aJ<|aH h fun v1 e1 h=>aT J (xi e1) cR J<|rM J J<|rX J J J<|rX J J J<|bH J J J J fun b2=>ay J J J J .p0 J J<|rA J J<|rN<|tS<|ab.cut (fun aK=>∃ (c3:Bool),su c3=some r∧aK=⟨14,[(0,.bool c3)],[]⟩) ?_ ?_
 ·refine tR<|rM J J<|ae.qv (dt J J) J<|rM J J<|ae.dw J J J (fun hc=>?_) (fun hc=>?_)
  ·rw [vc hc] at h
   exact ae.qv (aG J J .p0 J) J<|rY J J J<|ae.qv (dv J J J J J) J<|rY J J J<|ae.qv (Eh (g:=Version.av) (X:=v1.1) (Y:=(⟨1,2,3⟩:Version)) J J J J J) J<|rT J J J<|rA J J<|rN<|ab.stop<|aj.lq [] ⟨decide (v1.1=(⟨1,2,3⟩:Version)),h,J⟩ J J
  ·rw [vd hc] at h
   exact rG J J J J<|rG J J J J<|rE J J J<|rA J J<|rN<|ab.stop<|aj.lq [] ⟨false,h,J⟩ J J
 ·rintro aK ⟨c3,h,rfl⟩
  unfold su at h
  refine ab.ret<|?_
  cases h
  exact hP J J
theorem E5 {aa:List Int} {r:Bool} (h:sv aa=some r):Pu Tryz.prog 3 [eJ aa] (.bool r):=by
 unfold sv at h
 refine aP.bI Tryz.func3 J Tryz.ntmps3 Tryz.results3 J J ?_
 refine aJ<|rA J J<|rN<|aJ<|rM J J<|ae.qv (dv J J J J J) J<|dp J J J J fun b1=>rA J J<|rN<|aJ<|rM J J<|aH h fun v2 e1 h=>br J (BC e1) cR (.cons .p0 .nil) J J<|rM J J<|aH h fun v3 e2 h=>jn J (Dw e2) cR (.cons .p0 .nil) (fun _=>J) J fun b4=>rM J J<|aH h fun v5 e3 h=>jn J (EV e3) cR (.cons .p0 .nil) (fun _=>J) J fun b6=>bH J J J J fun b7=>ay J J J J .p0 J J<|rA J J<|rA J J<|rN<|aJ<|rM J J<|aW (xs:=([0,10,50,100,150,300,(-1:Int)]).map I) J J J J J J<|aH h fun v8 e4 h=>br J (cF e4) cR (.cons .p1 .nil) J J<|rM J J<|aW (xs:=([0,0,3600000,(-100:Int),86400000,(-86400000:Int),86400001]).map I) J J J J J J<|aH h fun v9 e5 h=>br J (cF e5) cR (.cons .p0 .nil) J J<|rA J J<|rA J J<|rN<|tS<|aH h fun v10 e6 h=>ab.jN (id:=4) (A:=[0,0,0,0,8,31,63]) (H0:=[(b1,.cells [eJ v9.2.L,I v9.2.at_])]) (HH:=fun β=>[(b1,.cells [eJ v10.2.L,I v10.2.at_]),(b7,.cells (Cq v2.1)),(b6,wL v5.1),(b4,yg v3.1)]) 5 mixed J (by kernel_rfl) (by kernel_rfl) [⟨none,some 4,[],fun _=>(b1,.cells [eJ v9.2.L,I v9.2.at_]),none,[]⟩,⟨some 4,none,[],fun _=>(b1,.cells [eJ v10.2.L,I v10.2.at_]),none,[]⟩] [] J (by kernel_rfl) J (.cons .p0 .nil) (fun _=>J)<|AT.am 4 J J<|AM.qv (aM J) J<|AM.qv (aG J J .p0 J) J<|AM.qv (aM J) J<|AM.qv (aM J) J<|AM.nil<|AT.Bl (av:=I v10.1) (Ti:=[(b1,.cells [eJ v9.2.L,I v9.2.at_])]) (Pi:=[(b1,.cells [eJ v10.2.L,I v10.2.at_])]) (fun _=>J) (fun _=>J) (fun _=>J) J J J ?_ ?_
 ·exact br J (pG e6) cR (.cons .p0 .nil) J J<|ae.nil ⟨_,J,J⟩
 refine AT.wW (fun _=>J) fun β=>aH h fun v11 e7 h=>ae.ghost<|aj.freeze .p2<|aj.here<|jn J (EX e7) (.cons (.refl _) (.cons (.refl _) (.cons (Co.Ef .p2) (.cons (.refl _) .nil)))) (.cons .p0 .nil) (fun _=>J) J fun kV=>rA J J<|rN<|aJ<|ae.qv (aG J J .p2 J) J<|rM J J<|rM J J<|rM J J<|rM J J<|rM J J<|aH h fun gy e8 h=>En J (BG e8) .nil (.cons (.co (.refl _)) (.cons (lO.jX .p4) (.cons (.co (Co.Ef .p3)) (.cons (lO.jX .p1) (.cons (.co (.refl _)) (.cons (.co (.refl _)) .nil)))))) (fun _=>J) (fun _=>J) (fun _=>(.cons (UK.jX (fun _=>J)) .nil)) J fun DP=>rM J J<|rX J J J<|rX J J J<|rA J J<|rA J J<|rN<|aJ<|ae.qv (aG J J .p3 J) J<|rM J J<|rM J J<|aH h fun kU e9 h=>aT J (AK e9) cR J<|rM J J<|rX J J J<|rX J J J<|rA J J<|rA J J<|rN<|tS<|ab.cut (fun aK=>∃ (n16:Int),ma v2 v3 v5 v8 v9 v11 gy kU n16=some r∧aK=⟨120,[(4,.ptr b7 0),(5,.sl 6 b4 0 v3.1.length),(6,.sl 7 b6 0 v5.1.length),(7,I v8.1),(8,I v9.1),(9,.sl 6 kV 0 v11.1.length),(10,.sl 5 DP 0 gy.1.length),(11,I gy.2),(12,.bool kU.1),(13,I kU.2),(14,I n16)],[(b7,.cells (Cq v2.1)),(b4,yg v3.1),(b6,fE5 v5.1),(kV,sD v11.1),(DP,BA gy.1)]⟩) ?_ ?_
 ·refine tR<|rM J J<|ae.qv (bO J J) J<|rM J J<|gF h J J J (fun h=>?_) (fun h=>?_)
  ·exact rM J J<|rY J J J<|ae.qv (eM J J) J<|rE J J J<|aT J (E0 J) cR J<|rA J J<|rN<|ab.stop<|aj.lq [3,4,3,2,0] ⟨(vi (decide (86400000 < v9.1)) 1),h,J⟩ J J
  ·exact rG J J J J<|rT J J J<|aT J (E0 J) cR J<|rA J J<|rN<|ab.stop<|aj.lq [3,4,3,2,0] ⟨(vi true 1),h,J⟩ J J
 ·rintro aK ⟨n16,h,rfl⟩
  unfold ma at h
  refine aJ<|ae.qv (aG J J .p0 J) J<|aH h fun v17 BB h=>aT J (wi BB) cR J<|rM J J<|rM J J<|aT J (yi J) cR J<|aW (xs:=([v17,n16,(kH v8.1)]:List Int).map I) J J J J J J<|aH h fun fg C6 h=>aT J (JQ C6) cR J<|rA J J<|rN<|aJ<|ae.qv (aG J J .p0 J) J<|aH h fun np FW h=>aT J (wi FW) cR J<|rM J J<|aH h fun v20 IE h=>fk J (DA IE) (.cons (lO.jX .p1) .nil) J J<|rM J J<|aH h fun v21 QC h=>aT J (E1 QC) (.cons (Co.Ef .p2) .nil) J<|rM J J<|aH h fun v22 UW h=>fk J (E2 UW) (.cons (lO.jX .p3) .nil) J J<|rM J J<|rM J J<|aT J (yi J) cR J<|aW (xs:=([np,v20,v21,v22,n16,(kH v8.1)]:List Int).map I) J J J J J J<|aH h fun v23 Xp h=>aT J (JQ Xp) cR J<|rA J J<|rN<|aJ<|rA J J<|rN<|tS<|aJ<|rM J J<|ae.qv (dt J J) J<|rN<|ab.cut (fun aK=>∃ (xe:Bk) (r7:List cd),l0 v2 v8 v9 gy kU fg v23 r7=some r∧aK=⟨120,[(4,.ptr b7 0),(7,I v8.1),(8,I v9.1),(10,.sl 5 DP 0 gy.1.length),(11,I gy.2),(12,.bool kU.1),(13,I kU.2),(15,I fg),(16,I v23),(17,.sl 5 xe 0 r7.length)],[(b7,.cells (Cq v2.1)),(DP,BA gy.1),(xe,BA r7)]⟩) ?_ ?_
  ·refine cD h J (fun h=>?_) (fun h=>?_)
   ·exact tR<|ae.qv (aG J J .p0 J) J<|rM J J<|rM J J<|rM J J<|rM J J<|rM J J<|aH h fun v26 UX h=>En J (HY UX) .nil (.cons (.co (.refl _)) (.cons (lO.jX .p1) (.cons (.co (Co.Ef .p2)) (.cons (lO.jX .p3) (.cons (.co (.refl _)) (.cons (.co (.refl _)) .nil)))))) (fun _=>J) (fun _=>J) (fun _=>(.cons (UK.jX (fun _=>J)) .nil)) J fun Ca=>rA J J<|rN<|ab.stop<|aj.lq [1,4,0] ⟨Ca,v26,h,J⟩ J J
   ·exact tK<|ab.stop<|aj.arr (s:=17) 5 J fun O2=>aj.lq [1,4,0] ⟨O2,[],h,J⟩ J J
  ·rintro aK ⟨xe,r7,h,rfl⟩
   unfold l0 at h
   refine tS<|ab.cut (fun aK=>∃ (YM:Bool),eO YM=some r∧aK=⟨120,[(2,.bool YM)],[]⟩) ?_ ?_
   ·refine tR<|rM J J<|rM J J<|ae.qv (dt J J) J<|rM J J<|gT h J J J (fun h=>?_) (fun h=>?_)
    ·refine rM J J<|rY J J J<|rM J J<|rY J J J<|ae.qv (dt J J) J<|rY J J J<|rM J J<|gT h J J J (fun h=>?_) (fun h=>?_)
     ·refine ae.qv (aG J J .p0 J) J<|rY J J J<|rM J J<|rY J J J<|rM J J<|rY J J J<|aT J (C7 J) cR J<|rY J J J<|rT J J J<|rY J J J<|ae.qv (Ut J J) J<|rT J J J<|rM J J<|ae.guard J J J (fun hc=>?_) (fun hc=>?_)
      ·refine have h:=pj hc h;rM J J<|rY J J J<|rM J J<|rY J J J<|ae.qv (dt J J) J<|rT J J J<|rM J J<|gT h J J J (fun h=>?_) (fun h=>?_)
       ·refine rM J J<|rY J J J<|rM J J<|rY J J J<|aH h fun v30 e18 h=>fk J (pI e18) (.cons (lO.jX .p1) (.cons (lO.jX .p2) .nil)) J J<|rT J J J<|rM J J<|ae.guard J J J (fun hc=>?_) (fun hc=>?_)
        ·exact have h:=pj hc h;aH h fun v31 e19 h=>aT J (An e19) cR J<|rT J J J<|rA J J<|rN<|ab.stop<|aj.lq [] ⟨v31,h,J⟩ J J
        ·exact have h:=ry hc h;rE J J J<|rA J J<|rN<|ab.stop<|aj.lq [] ⟨false,h,J⟩ J J
       ·exact rG J J J J<|rG J J J J<|rE J J J<|rM J J<|rG J J J J<|rE J J J<|rA J J<|rN<|ab.stop<|aj.lq [] ⟨false,h,J⟩ J J
      ·exact have h:=ry hc h;rG J J J J<|rG J J J J<|rE J J J<|rM J J<|rG J J J J<|rG J J J J<|rG J J J J<|rE J J J<|rM J J<|rG J J J J<|rE J J J<|rA J J<|rN<|ab.stop<|aj.lq [] ⟨false,h,J⟩ J J
     ·refine rG J J J J<|rG J J J J<|rG J J J J<|rY J J J<|rE J J J<|rY J J J<|ae.qv (Ut J J) J<|rT J J J<|rM J J<|ae.guard J J J (fun hc=>?_) (fun hc=>?_)
      ·refine have h:=pj hc h;rM J J<|rY J J J<|rM J J<|rY J J J<|ae.qv (dt J J) J<|rT J J J<|rM J J<|gT h J J J (fun h=>?_) (fun h=>?_)
       ·refine rM J J<|rY J J J<|rM J J<|rY J J J<|aH h fun v32 e20 h=>fk J (pI e20) (.cons (lO.jX .p1) (.cons (lO.jX .p2) .nil)) J J<|rT J J J<|rM J J<|ae.guard J J J (fun hc=>?_) (fun hc=>?_)
        ·exact have h:=pj hc h;aH h fun v33 e21 h=>aT J (An e21) cR J<|rT J J J<|rA J J<|rN<|ab.stop<|aj.lq [] ⟨v33,h,J⟩ J J
        ·exact have h:=ry hc h;rE J J J<|rA J J<|rN<|ab.stop<|aj.lq [] ⟨false,h,J⟩ J J
       ·exact rG J J J J<|rG J J J J<|rE J J J<|rM J J<|rG J J J J<|rE J J J<|rA J J<|rN<|ab.stop<|aj.lq [] ⟨false,h,J⟩ J J
      ·exact have h:=ry hc h;rG J J J J<|rG J J J J<|rE J J J<|rM J J<|rG J J J J<|rG J J J J<|rG J J J J<|rE J J J<|rM J J<|rG J J J J<|rE J J J<|rA J J<|rN<|ab.stop<|aj.lq [] ⟨false,h,J⟩ J J
    ·exact rG J J J J<|rG J J J J<|rG J J J J<|ae.aS J J J<|ae.aS J J J<|ae.aS J J J<|ae.aS J J J<|rG J J J J<|rG J J J J<|rE J J J<|rM J J<|rG J J J J<|rG J J J J<|rG J J J J<|rE J J J<|rM J J<|rG J J J J<|rG J J J J<|rG J J J J<|rE J J J<|rM J J<|rG J J J J<|rE J J J<|rA J J<|rN<|ab.stop<|aj.lq [] ⟨false,h,J⟩ J J
   ·rintro aK ⟨YM,h,rfl⟩
    unfold eO at h
    refine ab.ret<|?_
    cases h
    exact hP J J
end Go.Proofs.YthfphcbipahkmaaGreatDoor
