/- The code computes the plain functions: proofs written by shal.py. -/
import Derived.Test.YthfphcbipahkmaaGreatDoorCpyW1
open List renaming length_set→ac
set_option maxHeartbeats 4000000
set_option maxRecDepth 100000
set_option linter.unusedVariables false
set_option linter.unusedSimpArgs false
namespace Go.Proofs.YthfphcbipahkmaaGreatDoor
open Go Go.Eng Go.Proofs Go.Beacon
attribute [local irreducible] ae ab AQ QV aR aj Ua AM
theorem uP [GI:bU] {VR:Nat→Bk} {aa ai:DeviceS} {aH:aB} {r:Int} (h:dz aa ai aH=some r):Pu Tryz.prog 96 [DeviceS.av aa,DeviceS.av ai,.ch [.ch [.ch [.str aH.c_.Key,I aH.c_.Target.aA,I aH.c_.Target.aD,I aH.c_.Target.aF,I aH.c_.At,oQ aH.c_.aI,I aH.c_.aZ.bF,I aH.c_.aZ.To,I aH.c_.Room],F8 AV.str (pA VR) aH.nw,F8 AV.str I aH.cL,gg aH.open_,gg aH.bt,gg aH.aY,gg aH.aN,I aH.bf,I aH.cw]]] (I r):=by
 unfold dz at h
 refine aR.bI Tryz.func96 J Tryz.ntmps96 Tryz.results96 J J ?_
 refine aL<|dh J J J J fun b1=>dh J J J J fun b2=>rA J J<|rN<|tS<|ab.dv (id:=1) (A:=[0,1,3,7,0,16,63,0,128,384,896,0,2048,8064,16383,0,32768,98304,229376,0,524288,2097151,0,4194304,12582912,29360128,0,67108864,268435455,536870911,0,1073741824,0,4294967296,17179869183,34359738367,68719476735,137438953471]) 38 mixed J (by kernel_rfl) (by kernel_rfl)<|AM.qv (aS J J J) J<|AM.qv (bL J) J<|AM.qv (bq J J) J<|AM.qv (aS J J J) J<|AM.qv (ax J J) J<|AM.qv (aM J J .p1 J) J<|aK h fun v3 e1 h=>AM.qv (F9 (gk:=AV.str) (gv:=I) (M:=aH.cL) (key:=aa.Key) (Z:=0) J J J J J e1 J) J<|AM.qv (aS J J J) J<|AM.qv (bL J) J<|AM.qv (bq J J) J<|AM.qv (aS J J J) J<|AM.qv (ax J J) J<|AM.qv (aM J J .p0 J) J<|aK h fun v4 e2 h=>AM.qv (F9 (gk:=AV.str) (gv:=I) (M:=aH.cL) (key:=ai.Key) (Z:=0) J J J J J e2 J) J<|AM.gM J (fh J) cR J<|AM.qv (aS J J J) J<|AM.qv (bL J) J<|AM.qv (bq J J) J<|AM.qv (aS J J J) J<|AM.qv (ax J J) J<|AM.qv (aM J J .p1 J) J<|aK h fun v5 e3 h=>AM.gM J (uO e3) cR J<|AM.qv (aS J J J) J<|AM.qv (bL J) J<|AM.qv (bq J J) J<|AM.qv (aS J J J) J<|AM.qv (ax J J) J<|AM.qv (aM J J .p0 J) J<|aK h fun v6 e4 h=>AM.gM J (uO e4) cR J<|AM.gM J (fh J) cR J<|AM.qv (ax J J) J<|AM.qv (aM J J .p1 J) J<|AM.qv (ax J J) J<|AM.qv (aM J J .p0 J) J<|AM.gM J (rz J) cR J<|AM.cI (xs:=([(cmp_Compare_int v3 v4),(cmp_Compare_int v5 v6),(Lib.compareBytes aa.Key ai.Key)]:List Int).map I) J J J J J J<|aK h fun v7 e5 h=>AM.gM J (uh e5) cR J<|AM.qv (bQ J) J<|AM.nil<|rN<|ab.ret<|?_
 cases h
 exact hP J J
theorem sf:Ix Tryz.prog 95 7:=⟨fun enc hk h1 cf hO g cb cH off cap d w eg hc hH hb hs=>AnyQ.slices_SortFunc_eq Tryz.L9 7 Tryz.isAgg86 Tryz.sizeOf86 enc hk h1 cf hO g cb cH off cap d w eg hc hH hb hs,fun p cap fv w=>AnyF.slices_SortFunc_none Tryz.L9 p cap fv w⟩
theorem r7 [GI:bU] {bO:Bk} {aa:List DeviceS} {iD:DeviceS→DeviceS→Option Int} {dY:FuncId} [bN Tryz.prog dY] {gq:List AV} (oc:∀ {y0 y1:_} {u:Int},iD y0 y1=some u→@Pu nz Tryz.prog dY (DeviceS.av y0 :: DeviceS.av y1 :: gq) (I u)) {r:(List DeviceS)} (h:gl aa iD=some r):K5 Tryz.prog 95 [.sl 7 bO 0 aa.length,.func (.func dY) gq] [(bO,.arr 7 (aa.map DeviceS.av))] [(bO,.arr 7 (r.map DeviceS.av))] (.lM []):=
 IV (fn:=iD) sf J @oc (fun _=>J) h
theorem wE [GI:bU] {aa:List ak} {ai:bj} {aH:Version} {r:(List ak)} (h:mU aa ai aH=some r):aR Tryz.prog 164 [o8 aa,.str ai,Version.av aH] [] (T1 (fun np=>[(np,vV r)]) (fun np=>.sl 6 np 0 r.length)):=by
 unfold mU at h
 refine aR.iL ?_
 refine aR.bI Tryz.func164 J Tryz.ntmps164 Tryz.results164 J J ?_
 refine aL<|dh J J J J fun b1=>rA J J<|rN<|aL<|rA J J<|rN<|tS<|aL<|rM J J<|ae.qv (cE J) J<|rM J J<|rN<|ab.block<|ab.cS (fun x:(List ak)×Int=>eW aa ai aH x.1 x.2) (fun x aJ=>∃ (b5:Bk),aJ=⟨31,[(1,.str ai),(5,.ptr b1 0),(7,.sl 6 b5 0 x.1.length),(10,o8 aa),(11,I (aa.length:Int)),(12,I x.2)],[(b1,.cells [I aH.aA,I aH.aD,I aH.aF]),(b5,vV x.1)]⟩) h ?_ ?_
 ·exact aj.arr (s:=7) 6 J fun b8=>aj.lq [1,0] ⟨b8,J⟩ J J
 ·intro x z1 aJ J1 ep h jF ek
  obtain ⟨l6,n7⟩:=x
  obtain ⟨b5,rfl⟩:=ep
  replace h:eW aa ai aH l6 n7=some z1:=h
  unfold eW at h
  refine aL<|ae.qv (bT J J) J<|rN<|tS<|cD h J (fun h=>?_) (fun h=>?_)
  ·refine tK<|tS<|ab.block<|aL<|aK h fun v9 e1 h=>ae.qv (bH J J J e1 J J) J<|ae.qv (aO J J J) J<|bA J J J J fun Er=>ar J J J J .p0 J J<|rN<|tS<|ab.cut (fun aJ=>∃ (BJ:Bool),jO l6 n7 v9 BJ=some z1∧aJ=⟨31,[(1,.str ai),(5,.ptr b1 0),(7,.sl 6 b5 0 l6.length),(9,.ptr Er 0),(10,o8 aa),(11,I (aa.length:Int)),(12,I n7),(24,.bool BJ)],[(b1,.cells [I aH.aA,I aH.aD,I aH.aF]),(b5,vV l6),(Er,.cells (Eh v9))]⟩) ?_ ?_
   ·refine tR<|rF J J J<|rL J J .p0 J J<|rM J J<|aK h fun v12 e2 h=>ba J (dW e2) cR J<|rM J J<|ae.guard J J J (fun hc=>?_) (fun hc=>?_)
    ·exact have h:=pN hc h;ae.qv (aG J J .p0 J) J<|rY J J J<|ae.qv (aG J J .p1 J) J<|rY J J J<|aK h fun lF e3 h=>ba J (vA e3) cR J<|rT J J J<|rN<|ab.stop<|aj.lq [1,1,0] ⟨lF,h,J⟩ J J
    ·exact have h:=sn hc h;rG J J J J<|rG J J J J<|rE J J J<|rN<|ab.stop<|aj.lq [1,1,0] ⟨false,h,J⟩ J J
   ·rintro aJ ⟨BJ,h,rfl⟩
    unfold jO at h
    refine ab.cut (fun aJ=>∃ (Fl:Bk) (xL:List ak),jN n7 xL=some z1∧aJ=⟨31,[(1,.str ai),(5,.ptr b1 0),(7,.sl 6 Fl 0 xL.length),(10,o8 aa),(11,I (aa.length:Int)),(12,I n7)],[(b1,.cells [I aH.aA,I aH.aD,I aH.aF]),(Fl,vV xL)]⟩) ?_ ?_
    ·refine cB h J (fun h=>?_) (fun h=>?_)
     ·exact tR<|rM J J<|ae.qv (aG J J .p2 J) J<|aW (xs:=([v9]:List ak).map ak.av) J J J J J J<|aK h fun Rt e4 h=>dB (g:=ak.av) J J J J J J J J (.list _) e4 (fun _=>.p1) J fun re=>rA J J<|rN<|ab.stop<|aj.lq [0,0] ⟨re,Rt,h,J⟩ J J
     ·exact tK<|ab.stop<|aj.lq [0,0] ⟨b5,l6,h,J⟩ J J
    ·rintro aJ ⟨Fl,xL,h,rfl⟩
     unfold jN at h
     refine ab.cH<|tR<|ae.qv (br J J) J<|rM J J<|rN<|ab.stop<|?_
     cases h
     exact jF _ _ J<|aj.lq [0,0] ⟨Fl,J⟩ J J
  ·refine ab.exit J<|have h:=bZ h ek;aL<|rM J J<|rA J J<|rN<|ab.ret<|?_
   cases h
   exact hH J [1] J ⟨b5,J,J⟩
theorem vB [GI:bU] {aa ai:ao} {r:Int} (h:lN aa ai=some r):Pu Tryz.prog 165 [ao.av aa,ao.av ai] (I r):=by
 unfold lN at h
 refine aR.bI Tryz.func165 J Tryz.ntmps165 Tryz.results165 J J ?_
 refine aL<|dh J J J J fun b1=>dh J J J J fun b2=>rA J J<|rN<|tS<|ab.dv (id:=1) (A:=[0,1,0,4,15,0,32,0,128,511,1023,2047,4095]) 13 mixed J (by kernel_rfl) (by kernel_rfl)<|AM.qv (ax J J) J<|AM.qv (aM J J .p1 J) J<|AM.qv (ax J J) J<|AM.qv (aM J J .p0 J) J<|AM.gM J (fh J) cR J<|AM.qv (ax J J) J<|AM.qv (aM J J .p1 J) J<|AM.qv (ax J J) J<|AM.qv (aM J J .p0 J) J<|AM.gM J (fh J) cR J<|AM.cI (xs:=([(cmp_Compare_int aa.cd ai.cd),(cmp_Compare_int aa.bP ai.bP)]:List Int).map I) J J J J J J<|aK h fun v3 e1 h=>AM.gM J (uh e1) cR J<|AM.qv (bQ J) J<|AM.nil<|rN<|ab.ret<|?_
 cases h
 exact hP J J
theorem BO [GI:bU] {aa:List ak} {ai:bj} {aH:Version} {r:(List (Version×ao))} (h:oW aa ai aH=some r):aR Tryz.prog 127 [o8 aa,.str ai,Version.av aH] [] (T1 (fun np=>[(np,Ld r)]) (fun np=>.bV np)):=by
 unfold oW at h
 refine aR.iL ?_
 refine aR.bI Tryz.func127 J Tryz.ntmps127 Tryz.results127 J J ?_
 refine aL<|dh J J J J fun b1=>rA J J<|rN<|aL<|rA J J<|rN<|tS<|aL<|rM J J<|ae.qv (cE J) J<|rM J J<|rN<|ab.block<|ab.cS (fun x:(List ak)×Int=>fb aa ai aH x.1 x.2) (fun x aJ=>∃ (b5:Bk),aJ=⟨121,[(1,.str ai),(5,.ptr b1 0),(7,.sl 6 b5 0 x.1.length),(23,o8 aa),(24,I (aa.length:Int)),(25,I x.2)],[(b1,.cells [I aH.aA,I aH.aD,I aH.aF]),(b5,vV x.1)]⟩) h ?_ ?_
 ·exact aj.arr (s:=7) 6 J fun b8=>aj.lq [1,0] ⟨b8,J⟩ J J
 ·intro x z1 aJ J1 ep h jF ek
  obtain ⟨l6,n7⟩:=x
  obtain ⟨b5,rfl⟩:=ep
  replace h:fb aa ai aH l6 n7=some z1:=h
  unfold fb at h
  refine aL<|ae.qv (bT J J) J<|rN<|tS<|cD h J (fun h=>?_) (fun h=>?_)
  ·refine tK<|tS<|ab.block<|aL<|aK h fun v9 e1 h=>ae.qv (bH J J J e1 J J) J<|ae.qv (aO J J J) J<|bA J J J J fun Er=>ar J J J J .p0 J J<|rN<|aL<|rF J J J<|rL J J .p0 J J<|rM J J<|aK h fun v11 e2 h=>ba J (dW e2) cR J<|rN<|ab.cut (fun aJ=>∃ (kB:Bk) (kU:List ak),lV n7 kU=some z1∧aJ=⟨121,[(1,.str ai),(5,.ptr b1 0),(7,.sl 6 kB 0 kU.length),(23,o8 aa),(24,I (aa.length:Int)),(25,I n7)],[(b1,.cells [I aH.aA,I aH.aD,I aH.aF]),(kB,vV kU)]⟩) ?_ ?_
   ·refine cB h J (fun h=>?_) (fun h=>?_)
    ·exact tR<|rM J J<|ae.qv (aG J J .p0 J) J<|aW (xs:=([v9]:List ak).map ak.av) J J J J J J<|aK h fun oK e3 h=>dB (g:=ak.av) J J J J J J J J (.list _) e3 (fun _=>.p2) J fun Ta=>rA J J<|rN<|ab.stop<|aj.lq [1,1] ⟨Ta,oK,h,J⟩ J J
    ·exact tK<|ab.stop<|aj.lq [1,1] ⟨b5,l6,h,J⟩ J J
   ·rintro aJ ⟨kB,kU,h,rfl⟩
    unfold lV at h
    refine ab.cH<|tR<|ae.qv (br J J) J<|rM J J<|rN<|ab.stop<|?_
    cases h
    exact jF _ _ J<|aj.lq [0,0] ⟨kB,J⟩ J J
  ·refine ab.exit J<|have h:=bZ h ek;?_
   unfold lY at h
   refine aL<|rM J J<|ae.qv (dH J) J<|aK h fun Rt e4 h=>G9 (g:=(Ky 6 ak.av)) (Z:=([]:List ak)) J J J J J J J J J e4 fun re=>rA J J<|rN<|tS<|aL<|rM J J<|ae.qv (dH J) J<|rM J J<|rN<|ab.block<|ab.cS (fun x:(List (List ak))×Int=>jQ ai aH l6 x.1 x.2) (fun x aJ=>aJ=⟨121,[(1,.str ai),(5,.ptr b1 0),(7,.sl 6 b5 0 l6.length),(10,.sl 1 re 0 x.1.length),(41,.sl 6 b5 0 l6.length),(42,I (l6.length:Int)),(43,I x.2)],[(b1,.cells [I aH.aA,I aH.aD,I aH.aF]),(b5,VN l6),(re,VO x.1)]⟩) h ?_ ?_
   ·exact aj.freeze .p2<|aj.lq [1,1,0] J J J
   ·intro x z2 aJ J2 ep h zm xd
    obtain ⟨jS,n21⟩:=x
    obtain rfl:=ep
    replace h:jQ ai aH l6 jS n21=some z2:=h
    unfold jQ at h
    refine aL<|ae.qv (bT J J) J<|rN<|tS<|cD h J (fun h=>?_) (fun h=>?_)
    ·refine tK<|tS<|ab.block<|aL<|rM J J<|aK h fun v22 e5 h=>ae.qv (bB J J J e5) J<|ae.qv (cq (g:=ak.av) J J (.inr .p1) J e5 J) J<|bA J J J J fun b23=>rA J J<|ar J J J J .p0 J J<|rN<|tR<|rM J J<|rM J J<|rM J J<|rM J J<|rF J J J<|ae.qv (aP J J .p0 J J) J<|aK h fun v24 e6 h=>jH J (wE e6) (.cons (Co.Kz .p2) (.cons (.refl _) (.cons (.refl _) .nil))) .nil (fun _=>J) J fun A3=>aK h fun v26 e7 h=>ae.qv (bB J J J e7) J<|ae.ghost<|aj.freeze .p0<|aj.here<|ae.ghost<|aj.Va (s:=54) (iI:=o8 v24) J (.co (Co.Kz .p0))<|aj.here<|dj (g:=(Ky 6 ak.av)) (BE:=v24) J J J J e7 J .p4 J<|ae.ghost<|aj.eqs (s:=10) (iI:=.sl 1 re 0 (jS.set n21.toNat v24).length) J (by rw [ac])<|aj.here<|ae.ghost<|aj.eqs (s:=48) (iI:=.sl 1 re 0 (jS.set n21.toNat v24).length) J (by rw [ac])<|aj.here<|rN<|ab.cH<|tR<|ae.qv (br J J) J<|rM J J<|rN<|ab.stop<|?_
     cases h
     exact zm _ _ J<|aj.lq [2,2,2] J J J
    ·refine ab.exit J<|have h:=bZ h xd;aL<|sw J fun Ct=>ae.qv (aG J J .p1 J) J<|ae.qv (dc J J J J J) J<|DQ (gk:=Version.av) (gv:=ao.av) (M:=([]:List (Version×ao))) (key:=aH) (v:=(⟨0,0⟩:ao)) J J J J .p0<|rM J J<|rA J J<|rN<|tS<|aL<|rA J J<|rN<|ab.block<|ab.cS (fun x:(List (Version×ao))×Bool=>lX l6 jS x.1 x.2) (fun x aJ=>aJ=⟨121,[(7,.sl 6 b5 0 l6.length),(10,.sl 1 re 0 jS.length),(13,.bV Ct),(14,.bool x.2)],[(b5,VN l6),(re,VO jS),(Ct,Ld x.1)]⟩) h ?_ ?_
     ·exact aj.lq [2,2,0] J J J
     ·intro x z3 aJ J3 ep h W9 VS
      obtain ⟨Nu,c31⟩:=x
      obtain rfl:=ep
      replace h:lX l6 jS Nu c31=some z3:=h
      unfold lX at h
      refine tS<|aL<|rM J J<|rN<|cB h J (fun h=>?_) (fun h=>?_)
      ·refine tK<|ab.block<|aL<|rA J J<|rN<|aL<|rM J J<|ae.qv (dH J) J<|rM J J<|rN<|ab.block<|ab.cS (fun x:(List (Version×ao))×Bool×Int=>jP l6 jS x.1 x.2.1 x.2.2) (fun x aJ=>aJ=⟨121,[(7,.sl 6 b5 0 l6.length),(10,.sl 1 re 0 jS.length),(13,.bV Ct),(14,.bool x.2.1),(62,.sl 6 b5 0 l6.length),(63,I (l6.length:Int)),(64,I x.2.2)],[(b5,VN l6),(re,VO jS),(Ct,Ld x.1)]⟩) h ?_ ?_
       ·exact aj.lq [0,0,0] J J J
       ·intro x z4 aJ J4 ep h hJ4 hA4
        obtain ⟨sa,W2,n37⟩:=x
        obtain rfl:=ep
        replace h:jP l6 jS sa W2 n37=some z4:=h
        unfold jP at h
        refine aL<|ae.qv (bT J J) J<|rN<|tS<|cD h J (fun h=>?_) (fun h=>?_)
        ·refine tK<|tS<|ab.block<|aL<|rM J J<|aK h fun BA e8 h=>ae.qv (bB J J J e8) J<|ae.qv (cq (g:=ak.av) J J (.inr .p0) J e8 J) J<|bA J J J J fun Fi=>rA J J<|ar J J J J .p0 J J<|rN<|aL<|rM J J<|rF J J J<|ae.qv (aP J J .p0 J J) J<|aK h fun v40 e9 h=>ae.qv (FX (gk:=Version.av) (gv:=ao.av) (M:=sa) (key:=BA.Version) (Z:=(⟨0,0⟩:ao)) J J .p3 J J J e9 J) J<|rM J J<|rX J J J<|rX J J J<|bA J J J J fun HU=>ar J J J J .p0 J J<|rA J J<|rN<|tS<|aL<|rM J J<|rM J J<|aK h fun Lb Ad h=>ae.qv (bB J J J Ad) J<|ae.qv (dK (g:=(Ky 6 ak.av)) J J (.inl .p3) Ad J) J<|ae.qv (cE J) J<|rM J J<|rN<|ab.block<|ab.cS (fun x:Bool×Int×Int×Bool×Int=>eZ sa n37 BA Lb x.1 x.2.1 x.2.2.1 x.2.2.2.1 x.2.2.2.2) (fun x aJ=>aJ=⟨121,[(7,.sl 6 b5 0 l6.length),(10,.sl 1 re 0 jS.length),(13,.bV Ct),(14,.bool x.1),(16,.ptr Fi 0),(17,.ptr HU 0),(18,.bool x.2.2.2.1),(62,.sl 6 b5 0 l6.length),(63,I (l6.length:Int)),(64,I n37),(79,o8 Lb),(80,I (Lb.length:Int)),(81,I x.2.2.2.2)],[(b5,VN l6),(re,VO jS),(Ct,Ld sa),(Fi,.cells (Eh BA)),(HU,.cells [I x.2.1,I x.2.2.1])]⟩) h ?_ ?_
         ·exact aj.lq [2,2,2,1,0] J J J
         ·intro x z5 aJ J5 ep h hJ5 hA5
          obtain ⟨Cr,n49,n50,c51,n52⟩:=x
          obtain rfl:=ep
          replace h:eZ sa n37 BA Lb Cr n49 n50 c51 n52=some z5:=h
          unfold eZ at h
          refine aL<|ae.qv (bT J J) J<|rN<|tS<|cD h J (fun h=>?_) (fun h=>?_)
          ·refine tK<|tS<|ab.block<|aL<|aK h fun v53 Ej h=>ae.qv (bH J J J Ej J J) J<|ae.qv (aO J J J) J<|bA J J J J fun Z4=>ar J J J J .p0 J J<|rN<|aL<|rM J J<|rF J J J<|ae.qv (aP J J .p0 J J) J<|aK h fun v55 Fh h=>ae.qv (FX (gk:=Version.av) (gv:=ao.av) (M:=sa) (key:=v53.Version) (Z:=(⟨0,0⟩:ao)) J J .p3 J J J Fh J) J<|rM J J<|rX J J J<|rX J J J<|bA J J J J fun Ol=>ar J J J J .p0 J J<|rA J J<|rN<|aL<|rF J J J<|rL J J .p0 J J<|ae.qv (br J J) J<|rF J J J<|rL J J .p0 J J<|rF J J J<|rL J J .p1 J J<|ae.qv (br J J) J<|ae.qv (dc J J J J J) J<|ar J J J J .p0 J J<|rN<|tS<|ab.cut (fun aJ=>∃ (Yh:Bool),gm Cr n49 n50 c51 n52 v53 v55 Yh=some z5∧aJ=⟨121,[(7,.sl 6 b5 0 l6.length),(10,.sl 1 re 0 jS.length),(13,.bV Ct),(14,.bool Cr),(16,.ptr Fi 0),(17,.ptr HU 0),(18,.bool c51),(21,.ptr Ol 0),(62,.sl 6 b5 0 l6.length),(63,I (l6.length:Int)),(64,I n37),(79,o8 Lb),(80,I (Lb.length:Int)),(81,I n52),(111,.bool Yh)],[(b5,VN l6),(re,VO jS),(Ct,Ld sa),(Fi,.cells (Eh BA)),(HU,.cells [I n49,I n50]),(Ol,.cells [I (bE (v55.1.cd+1)),I (bE (v55.1.bP+v53.cW))])]⟩) ?_ ?_
           ·refine tR<|rM J J<|rM J J<|ae.guard J J J (fun hc=>?_) (fun hc=>?_)
            ·refine have h:=pN hc h;rM J J<|rY J J J<|ae.qv (cV J) J<|rY J J J<|rM J J<|ae.guard J J J (fun hc=>?_) (fun hc=>?_)
             ·exact have h:=sn hc h;ae.qv (aG J J .p0 J) J<|rY J J J<|ae.qv (aG J J .p6 J) J<|rY J J J<|aK h fun v58 Ki h=>ba J (vB Ki) cR J<|rY J J J<|ae.qv (bT J J) J<|rY J J J<|rE J J J<|rT J J J<|rN<|ab.stop<|aj.lq [2,2,2,2,2,0] ⟨decide (v58 < 0),h,J⟩ J J
             ·exact have h:=pN hc h;rG J J J J<|rG J J J J<|rG J J J J<|rY J J J<|rT J J J<|rT J J J<|rN<|ab.stop<|aj.lq [2,2,2,2,2,0] ⟨true,h,J⟩ J J
            ·exact have h:=sn hc h;rG J J J J<|rG J J J J<|ae.aV J J J<|ae.aV J J J<|ae.aV J J J<|ae.aV J J J<|rG J J J J<|rE J J J<|rN<|ab.stop<|aj.lq [2,2,2,2,2,0] ⟨false,h,J⟩ J J
           ·rintro aJ ⟨Yh,h,rfl⟩
            unfold gm at h
            refine ab.cut (fun aJ=>∃ (c59:Bool) (n60:Int) (n61:Int) (Yg:Bool),iu n52 c59 n60 n61 Yg=some z5∧aJ=⟨121,[(7,.sl 6 b5 0 l6.length),(10,.sl 1 re 0 jS.length),(13,.bV Ct),(14,.bool c59),(16,.ptr Fi 0),(17,.ptr HU 0),(18,.bool Yg),(62,.sl 6 b5 0 l6.length),(63,I (l6.length:Int)),(64,I n37),(79,o8 Lb),(80,I (Lb.length:Int)),(81,I n52)],[(b5,VN l6),(re,VO jS),(Ct,Ld sa),(Fi,.cells (Eh BA)),(HU,.cells [I n60,I n61])]⟩) ?_ ?_
            ·refine cB h J (fun h=>?_) (fun h=>?_)
             ·exact tR<|ae.qv (aG J J .p5 J) J<|ar J J J J .p4 J J<|rA J J<|rA J J<|rN<|ab.stop<|aj.lq [0,0,0,0,0] ⟨true,bE (v55.1.cd+1),bE (v55.1.bP+v53.cW),true,h,J⟩ J J
             ·exact tK<|ab.stop<|aj.lq [0,0,0,0,0] ⟨Cr,n49,n50,c51,h,J⟩ J J
            ·rintro aJ ⟨c59,n60,n61,Yg,h,rfl⟩
             unfold iu at h
             refine ab.cH<|tR<|ae.qv (br J J) J<|rM J J<|rN<|ab.stop<|?_
             cases h
             exact hJ5 _ _ J<|aj.lq [0,0,0,0,0] J J J
          ·refine ab.exit J<|have h:=bZ h hA5;?_
           unfold oL at h
           refine aL<|rM J J<|rN<|ab.cut (fun aJ=>∃ (Yi:List (Version×ao)),lW n37 Cr Yi=some z4∧aJ=⟨121,[(7,.sl 6 b5 0 l6.length),(10,.sl 1 re 0 jS.length),(13,.bV Ct),(14,.bool Cr),(62,.sl 6 b5 0 l6.length),(63,I (l6.length:Int)),(64,I n37)],[(b5,VN l6),(re,VO jS),(Ct,Ld Yi)]⟩) ?_ ?_
           ·refine cB h J (fun h=>?_) (fun h=>?_)
            ·exact tR<|rM J J<|rF J J J<|ae.qv (aP J J .p3 J J) J<|ae.qv (aG J J .p4 J) J<|vk (gk:=Version.av) (gv:=ao.av) (M:=sa) (key:=BA.Version) (v:=(⟨n49,n50⟩:ao)) J J J J .p2<|rN<|ab.stop<|aj.lq [0,0,0] ⟨ca sa BA.Version (⟨n49,n50⟩:ao),h,J⟩ J J
            ·exact tK<|ab.stop<|aj.lq [0,0,0] ⟨sa,h,J⟩ J J
           ·rintro aJ ⟨Yi,h,rfl⟩
            unfold lW at h
            refine ab.cH<|tR<|ae.qv (br J J) J<|rM J J<|rN<|ab.stop<|?_
            cases h
            exact hJ4 _ _ J<|aj.lq [0,0,0] J J J
        ·refine ab.exit J<|have h:=bZ h hA4;ab.cH<|ab.stop<|?_
         cases h
         exact W9 _ _ J<|aj.lq [0,0,0] J J J
      ·refine ab.exit J<|have h:=bZ h VS;aL<|rM J J<|rA J J<|rN<|ab.ret<|?_
       cases h
       exact hH J [2] J ⟨Ct,J,J⟩
theorem yv [GI:bU] {aa:List ak} {ai:bj} {aH bc:Version} {ck:List (Version×ao)} {r:(List Version)×Bool} (h:lZ aa ai aH bc ck=some r):Pu Tryz.prog 128 [o8 aa,.str ai,Version.av aH,Version.av bc,F8 Version.av ao.av ck] (.lM [se r.1,.bool r.2]):=by
 unfold lZ at h
 refine aR.bI Tryz.func128 J Tryz.ntmps128 Tryz.results128 J J ?_
 refine aL<|dh J J J J fun b1=>dh J J J J fun b2=>rA J J<|rA J J<|rN<|aL<|rA J J<|rN<|tS<|aL<|ae.qv (aG J J .p1 J) J<|bA J J J J fun b3=>ar J J J J .p0 J J<|rN<|ab.block<|ab.cS (fun x:(List Version)×Int×Int×Int=>dp aa ai bc ck x.1 x.2.1 x.2.2.1 x.2.2.2) (fun x aJ=>∃ (Er:Bk) (kB:Bk),aJ=⟨74,[(0,o8 aa),(1,.str ai),(4,F8 Version.av ao.av ck),(8,.ptr b2 0),(12,.sl 3 Er 0 x.1.length),(13,.ptr kB 0)],[(b2,.cells [I bc.aA,I bc.aD,I bc.aF]),(Er,ug x.1),(kB,.cells [I x.2.1,I x.2.2.1,I x.2.2.2])]⟩) h ?_ ?_
 ·exact aj.arr (s:=12) 3 J fun Gb=>aj.lq [2,0,0] ⟨Gb,b3,J⟩ J J
 ·intro x z1 aJ J1 ep h jF ek
  obtain ⟨vN,n13,n14,n15⟩:=x
  obtain ⟨Er,kB,rfl⟩:=ep
  replace h:dp aa ai bc ck vN n13 n14 n15=some z1:=h
  unfold dp at h
  refine tS<|aL<|ae.qv (aG J J .p2 J) J<|ae.qv (aG J J .p0 J) J<|ae.qv (Ul (g:=Version.av) (X:=(⟨n13,n14,n15⟩:Version)) (Y:=bc) J J J J J) J<|rN<|cD h J (fun h=>?_) (fun h=>?_)
  ·refine tK<|tS<|ab.block<|aL<|bA J J J J fun re=>rN<|aL<|bA J J J J fun Je=>rN<|aL<|rA J J<|rN<|tS<|aL<|rM J J<|rM J J<|ae.qv (aG J J .p4 J) J<|aK h fun pj e1 h=>jH J (wE e1) cR .nil (fun _=>J) J fun Nz=>ae.qv (dH J) J<|rM J J<|rN<|ab.block<|ab.cS (fun x:Int×Int×Int×Int×Int×Bool×Int=>gK ck vN pj x.1 x.2.1 x.2.2.1 x.2.2.2.1 x.2.2.2.2.1 x.2.2.2.2.2.1 x.2.2.2.2.2.2) (fun x aJ=>aJ=⟨74,[(0,o8 aa),(1,.str ai),(4,F8 Version.av ao.av ck),(8,.ptr b2 0),(12,.sl 3 Er 0 vN.length),(13,.ptr kB 0),(14,.ptr re 0),(15,.ptr Je 0),(16,.bool x.2.2.2.2.2.1),(28,.sl 6 Nz 0 pj.length),(29,I (pj.length:Int)),(30,I x.2.2.2.2.2.2)],[(b2,.cells [I bc.aA,I bc.aD,I bc.aF]),(Er,ug vN),(kB,.cells [I n13,I n14,I n15]),(re,.cells [I x.1,I x.2.1,I x.2.2.1]),(Je,.cells [I x.2.2.2.1,I x.2.2.2.2.1]),(Nz,vV pj)]⟩) h ?_ ?_
   ·exact aj.lq [3,3,3,2,1,0] J J J
   ·intro x z2 aJ J2 ep h zm xd
    obtain ⟨n28,n29,n30,n31,n32,Kg,n34⟩:=x
    obtain rfl:=ep
    replace h:gK ck vN pj n28 n29 n30 n31 n32 Kg n34=some z2:=h
    unfold gK at h
    refine aL<|ae.qv (bT J J) J<|rN<|tS<|cD h J (fun h=>?_) (fun h=>?_)
    ·refine tK<|tS<|ab.block<|aL<|aK h fun v35 e2 h=>ae.qv (bB J J J e2) J<|ae.qv (cq (g:=ak.av) J J (.inl .p5) J e2 J) J<|bA J J J J fun BP=>ar J J J J .p0 J J<|rN<|aL<|rM J J<|rF J J J<|ae.qv (aP J J .p0 J J) J<|aK h fun v37 e3 h=>ae.qv (K8 (gk:=Version.av) (gv:=ao.av) (M:=ck) (key:=v35.Version) (Z:=(⟨0,0⟩:ao)) J J J J J e3 J) J<|rM J J<|rX J J J<|rX J J J<|bA J J J J fun UB=>ar J J J J .p0 J J<|rA J J<|rN<|aL<|rF J J J<|rL J J .p0 J J<|ae.qv (br J J) J<|rF J J J<|rL J J .p0 J J<|rF J J J<|rL J J .p1 J J<|ae.qv (br J J) J<|ae.qv (dc J J J J J) J<|ar J J J J .p0 J J<|rN<|tS<|ab.cut (fun aJ=>∃ (Yj:Bool),iM n28 n29 n30 n31 n32 Kg n34 v35 v37 Yj=some z2∧aJ=⟨74,[(0,o8 aa),(1,.str ai),(4,F8 Version.av ao.av ck),(8,.ptr b2 0),(12,.sl 3 Er 0 vN.length),(13,.ptr kB 0),(14,.ptr re 0),(15,.ptr Je 0),(16,.bool Kg),(18,.ptr BP 0),(19,.ptr UB 0),(28,.sl 6 Nz 0 pj.length),(29,I (pj.length:Int)),(30,I n34),(60,.bool Yj)],[(b2,.cells [I bc.aA,I bc.aD,I bc.aF]),(Er,ug vN),(kB,.cells [I n13,I n14,I n15]),(re,.cells [I n28,I n29,I n30]),(Je,.cells [I n31,I n32]),(BP,.cells (Eh v35)),(UB,.cells [I (bE (v37.1.cd+1)),I (bE (v37.1.bP+v35.cW))]),(Nz,vV pj)]⟩) ?_ ?_
     ·refine tR<|rM J J<|rM J J<|ae.guard J J J (fun hc=>?_) (fun hc=>?_)
      ·refine have h:=pN hc h;rM J J<|rY J J J<|ae.qv (cV J) J<|rY J J J<|rM J J<|ae.guard J J J (fun hc=>?_) (fun hc=>?_)
       ·exact have h:=sn hc h;ae.qv (aG J J .p0 J) J<|rY J J J<|ae.qv (aG J J .p6 J) J<|rY J J J<|aK h fun v40 e4 h=>ba J (vB e4) cR J<|rY J J J<|ae.qv (bT J J) J<|rY J J J<|rE J J J<|rT J J J<|rN<|ab.stop<|aj.lq [2,2,2,2,2,1,0,0] ⟨decide (v40 < 0),h,J⟩ J J
       ·exact have h:=pN hc h;rG J J J J<|rG J J J J<|rG J J J J<|rY J J J<|rT J J J<|rT J J J<|rN<|ab.stop<|aj.lq [2,2,2,2,2,1,0,0] ⟨true,h,J⟩ J J
      ·exact have h:=sn hc h;rG J J J J<|rG J J J J<|ae.aV J J J<|ae.aV J J J<|ae.aV J J J<|ae.aV J J J<|rG J J J J<|rE J J J<|rN<|ab.stop<|aj.lq [2,2,2,2,2,1,0,0] ⟨false,h,J⟩ J J
     ·rintro aJ ⟨Yj,h,rfl⟩
      unfold iM at h
      refine ab.cut (fun aJ=>∃ (n41:Int) (n42:Int) (n43:Int) (n44:Int) (n45:Int) (c46:Bool),jV n34 n41 n42 n43 n44 n45 c46=some z2∧aJ=⟨74,[(0,o8 aa),(1,.str ai),(4,F8 Version.av ao.av ck),(8,.ptr b2 0),(12,.sl 3 Er 0 vN.length),(13,.ptr kB 0),(14,.ptr re 0),(15,.ptr Je 0),(16,.bool c46),(28,.sl 6 Nz 0 pj.length),(29,I (pj.length:Int)),(30,I n34)],[(b2,.cells [I bc.aA,I bc.aD,I bc.aF]),(Er,ug vN),(kB,.cells [I n13,I n14,I n15]),(re,.cells [I n41,I n42,I n43]),(Je,.cells [I n44,I n45]),(Nz,vV pj)]⟩) ?_ ?_
      ·refine cB h J (fun h=>?_) (fun h=>?_)
       ·refine ab.lB (id:=13) (A:=[0,1,0,3,15,31]) (H0:=[(re,.cells [I n28,I n29,I n30])]) (HH:=fun β=>[(re,.cells [I v35.Version.aA,I v35.Version.aD,I v35.Version.aF]),(b2,.cells [I bc.aA,I bc.aD,I bc.aF]),(Er,ug vN),(kB,.cells [I n13,I n14,I n15]),(Je,.cells [I n31,I n32]),(BP,.cells (Eh v35)),(UB,.cells [I (bE (v37.1.cd+1)),I (bE (v37.1.bP+v35.cW))]),(Nz,vV pj)]) 4 mixed J (by kernel_rfl) (by kernel_rfl) [⟨none,some 3,[],fun _=>(re,.cells [I n28,I n29,I n30]),none,[]⟩,⟨some 3,none,[],fun _=>(re,.cells [I v35.Version.aA,I v35.Version.aD,I v35.Version.aF]),none,[]⟩] [] J (by kernel_rfl) J (.cons .p3 .nil) (fun _=>J)<|AT.am 3 J J<|AM.qv (ax J J) J<|AM.qv (aP J J .p4 J J) J<|AM.qv (aG J J .p5 J) J<|AM.nil<|AT.M9 (Ti:=[(re,.cells [I n28,I n29,I n30])]) (Pi:=[(re,.cells [I v35.Version.aA,I v35.Version.aD,I v35.Version.aF])]) (fun _=>J) (fun _=>J) (fun _=>J) J J ?_ ?_
        ·exact ar J J J J .p0 J J<|ae.nil ⟨_,J⟩
        exact AT.xK (fun _=>J) fun β=>ar J J J J .p4 J J<|rA J J<|rN<|ab.stop<|aj.lq [1,1,1,0,0,2] ⟨v35.Version.aA,v35.Version.aD,v35.Version.aF,bE (v37.1.cd+1),bE (v37.1.bP+v35.cW),true,h,J⟩ J J
       ·exact tK<|ab.stop<|aj.lq [0,0,0,0,0,2] ⟨n28,n29,n30,n31,n32,Kg,h,J⟩ J J
      ·rintro aJ ⟨n41,n42,n43,n44,n45,c46,h,rfl⟩
       unfold jV at h
       refine ab.cH<|tR<|ae.qv (br J J) J<|rM J J<|rN<|ab.stop<|?_
       cases h
       exact zm _ _ J<|aj.lq [0,0,0,0,0,0] J J J
    ·refine ab.exit J<|have h:=bZ h xd;?_
     unfold nY at h
     refine tS<|aL<|rM J J<|ae.qv (cV J) J<|rN<|cB h J (fun h=>?_) (fun h=>?_)
     ·refine aL<|rA J J<|rA J J<|rN<|ab.ret<|have h:=bZ h ek;?_
      cases h
      exact aj.co (s:=10) J (.nil 3)<|aj.here ⟨_,.cons (.tmp _ _ J) (.cons (.tmp _ _ J) .nil),J⟩
     ·refine tK<|aK h fun Ru e5 h=>ab.lB (id:=17) (A:=[0,0,2,7,0,15,63]) (H0:=[(Er,ug vN)]) (HH:=fun β=>[((β 5),ug Ru),(b2,.cells [I bc.aA,I bc.aD,I bc.aF]),(kB,.cells [I n13,I n14,I n15]),(re,.cells [I n28,I n29,I n30]),(Je,.cells [I n31,I n32]),(Nz,vV pj)]) 6 mixed J (by kernel_rfl) (by kernel_rfl) [⟨none,some 3,[],fun _=>(Er,ug vN),none,[]⟩,⟨some 3,some 5,[],fun b=>(b,ug Ru),none,[]⟩,⟨some 5,none,[],fun b=>(b,ug Ru),none,[]⟩] [3,5] J (by kernel_rfl) J (.cons .p1 .nil) (fun _=>J)<|AT.am 3 J J<|AM.qv (aT J) J<|AM.qv (aG J J .p2 J) J<|AM.cI (xs:=([(⟨n28,n29,n30⟩:Version)]).map Version.av) J J J J J J<|AM.nil<|AT.zU (V:=fun b=>.sl 3 b 0 Ru.length) (Ti:=[(Er,ug vN)]) (Pi:=fun b=>[(b,ug Ru)]) (fun _=>J) (fun _=>J) (fun _ _=>J) J (fun _=>J) J J J ?_ ?_
      ·exact dB (g:=Version.av) J J J J J J J J (.list _) e5 (fun _=>.p0) J fun W8=>ae.nil ⟨W8,_,J,J⟩
      refine AT.am 1 J J<|AM.qv (aG J J .p2 J) J<|AM.nil<|AT.Vo (V:=fun b=>.sl 3 b 0 Ru.length) (Ti:=fun β=>[(β 3,ug Ru)]) (Pi:=fun b=>[(b,ug Ru)]) (fun _=>J) (fun _=>J) (fun _ _=>J) (fun _=>J) (fun _=>J) J J J (fun β=>?_) ?_
      ·generalize β 3=W8
       exact rA J J<|ae.nil ⟨W8,_,J,J⟩
      refine AT.xK (fun _=>J) fun β=>?_
      generalize β 3=W8
      generalize β 5=YC
      clear β
      refine ar J J J J .p2 J J<|rN<|ab.cH<|aL<|ae.qv (aG J J .p2 J) J<|rN<|tR<|bA J J J J fun b50=>ar J J J J .p0 J J<|rN<|ab.stop<|?_
      cases h
      exact jF _ _ J<|aj.lq [2,1,0] ⟨YC,b50,J⟩ J J
  ·refine ab.exit J<|have h:=bZ h ek;aL<|rM J J<|rA J J<|rA J J<|rN<|ab.ret<|?_
   cases h
   exact aj.freeze .p1<|aj.co (s:=10) J (Co.Kz .p1)<|aj.here ⟨_,.cons (.tmp _ _ J) (.cons (.tmp _ _ J) .nil),J⟩
theorem qk [GI:bU] {aa:ak} {ai:List Version} {r:Bool} (h:dP aa ai=some r):Pu Tryz.prog 129 [ak.av aa,.ch [se ai]] (.bool r):=by
 unfold dP at h
 refine aR.bI Tryz.func129 J Tryz.ntmps129 Tryz.results129 J J ?_
 refine aL<|dh J J J J fun b1=>rA J J<|rN<|tS<|ab.dv (id:=1) (A:=[0,1,0,4,12,31,63]) 7 mixed J (by kernel_rfl) (by kernel_rfl)<|AM.qv (ax J J) J<|AM.qv (aP J J .p0 J J) J<|AM.qv (aS J J J) J<|aK h fun v2 e1 h=>AM.qv (bH J J J e1 J J) J<|AM.qv (aO J J J) J<|AM.qv (DH (g:=Version.av) (X:=aa.Version) (Y:=v2) J J J J J) J<|AM.qv (bQ J) J<|AM.nil<|rN<|ab.ret<|?_
 cases h
 exact hP J J
theorem fT [GI:bU] {aa:List ak} {iD:ak→Option Bool} {dY:FuncId} [bN Tryz.prog dY] {gq:List AV} (oc:∀ {y0:_} {u:Bool},iD y0=some u→Pu Tryz.prog dY (ak.av y0 :: gq) (.bool u)) {r:Int} (h:cr aa iD=some r):Pu Tryz.prog 69 [o8 aa,.func (.func dY) gq] (I r):=by
 unfold cr at h
 refine aR.bI Tryz.func69 J Tryz.ntmps69 Tryz.results69 J J ?_
 refine aL<|rA J J<|rN<|tS<|aL<|rM J J<|ae.qv (cE J) J<|rM J J<|rN<|ab.block<|ab.cS (fun x:Int=>fx aa iD x) (fun x aJ=>aJ=⟨19,[(0,o8 aa),(1,.func (.func dY) gq),(7,I (aa.length:Int)),(8,I x)],[]⟩) h ?_ ?_
 ·exact aj.lq [] J J J
 ·intro n2 z1 aJ J1 ep h jF ek
  obtain rfl:=ep
  replace h:fx aa iD n2=some z1:=h
  unfold fx at h
  refine aL<|ae.qv (bT J J) J<|rN<|tS<|cD h J (fun h=>?_) (fun h=>?_)
  ·refine tK<|tS<|ab.block<|aL<|rM J J<|rA J J<|rN<|aL<|rM J J<|rM J J<|rM J J<|aK h fun v3 e1 h=>ae.qv (bH J J J e1 J J) J<|ae.qv (aO J J J) J<|aK h fun v4 e2 h=>tn J J (oc e2) cR J<|rN<|cB h J (fun h=>?_) (fun h=>?_)
   ·refine aL<|rM J J<|rA J J<|rN<|ab.ret<|have h:=bZ h ek;?_
    cases h
    exact hP J J
   ·refine tK<|ab.cH<|tR<|ae.qv (br J J) J<|rM J J<|rN<|ab.stop<|?_
    cases h
    exact jF _ _ J<|aj.lq [] J J J
  ·refine ab.exit J<|have h:=bZ h ek;aL<|rA J J<|rN<|ab.ret<|?_
   cases h
   exact hP J J
theorem xR [GI:bU] {bO bW:Bk} {aa:aQ} {ai:bj} {aH:Version} {r:ak×Bool×aQ} (h:iE aa ai aH=some r):aR Tryz.prog 100 [.ptr bO 0,.str ai,Version.av aH] [(bO,.cells (Dd aa bW)),(bW,qg aa.fA)] (T0 ([(bO,.cells (Dd r.2.2 bW)),(bW,qg r.2.2.fA)]) (.lM [ak.av r.1,.bool r.2.1])):=by
 unfold iE at h
 refine aR.iL ?_
 refine aR.bI Tryz.func100 J Tryz.ntmps100 Tryz.results100 J J ?_
 refine aL<|dh J J J J fun b1=>bA J J J J fun b2=>rA J J<|rN<|aL<|rM J J<|ae.qv (az J) J<|rF J J J<|rL J J .p2 J J<|rM J J<|Ss h (fun e1 h=>?_) (fun m3 e1 h=>?_)
 ·refine ae.qv (K6 (gk:=AV.str) (gv:=(F8 Version.av ao.av)) (M:=aa.fA) (key:=ai) J J .p3 J e1) J<|rM J J<|rX J J J<|rX J J J<|rA J J<|rA J J<|rN<|tS<|aL<|rM J J<|ae.qv (cV J) J<|rN<|ab.Ov J<|tS<|ab.dv (id:=3) (A:=[0,1,3,7,0,0,32,96,224,511,1023]) 9 mixed J (by kernel_rfl) (by kernel_rfl)<|AM.qv (aT J) J<|AM.qv (az J) J<|AM.qv (ax J J) J<|AM.qv (aM J J .p2 J) J<|AM.qv (aT J) J<|AM.qv (aT J) J<|AM.qv (az J) J<|AM.qv (ax J J) J<|AM.qv (aP J J .p2 J J) J<|AM.nil<|aK h fun v4 e2 h=>jH J (BO e2) cR .nil (fun _=>J) J fun b5=>rA J J<|rN<|tR<|rM J J<|ae.qv (az J) J<|rF J J J<|rL J J .p3 J J<|rM J J<|rM J J<|ae.ghost<|aj.VG (gk:=Version.av) (gv:=ao.av) (M:=v4) (ss:=[8,33,39]) (by simp [lk]) .p0<|aj.here<|vk (gk:=AV.str) (gv:=(F8 Version.av ao.av)) (M:=aa.fA) (key:=ai) (v:=v4) J J J J .p3<|rN<|tS<|aK h fun v6 e3 h=>ab.lB (id:=5) (A:=[0,1,3,7,0,0,0,64,192,448,0,2047,4095,8191,8191,0,49151,131071]) (H0:=[]) (HH:=fun β=>[((β 15),.cells [se v6.1]),(b2,.cells [I 0,I 0,I 0,.nil,.nil,I 0]),(b1,.cells [I aH.aA,I aH.aD,I aH.aF]),(bO,.cells [o8 aa.nF,I aa.Eb.aA,I aa.Eb.aD,I aa.Eb.aF,.bV bW]),(bW,qg (ca aa.fA ai v4))]) 17 mixed J (by kernel_rfl) (by kernel_rfl) [⟨some 15,some 16,[],fun b=>(b,.cells [.nil]),none,[]⟩,⟨some 16,none,[],fun b=>(b,.cells [se v6.1]),some 15,[]⟩] [15] J (by kernel_rfl) J .nil (fun _=>J)<|AT.am 15 J J<|AM.qv (aT J) J<|AM.qv (az J) J<|AM.qv (ax J J) J<|AM.qv (aM J J .p2 J) J<|AM.qv (aT J) J<|AM.qv (aG J J .p1 J) J<|AM.qv (aT J) J<|AM.qv (az J) J<|AM.qv (ax J J) J<|AM.qv (aP J J .p2 J J) J<|AM.qv (aT J) J<|AM.gM J (yv e3) cR J<|AM.qv (aT J) J<|AM.qv (jG J J) J<|AM.qv (jG J J) J<|AM.nil<|AT.zU (V:=fun b=>.ptr b 0) (Ti:=[]) (Pi:=fun b=>[(b,.cells [.nil])]) (fun _=>J) (fun _=>J) (fun _ _=>J) J (fun _=>J) J J J ?_ ?_
  ·exact bA J J J J fun b7=>ae.nil ⟨b7,_,J,J⟩
  refine AT.runN (Ti:=fun β=>[((β 15),.cells [.nil])]) (Pi:=fun β=>[((β 15),.cells [se v6.1])]) (fun _=>J) (fun _=>J) (fun _ _=>J) (fun _=>J) (fun _=>J) (fun β=>?_) ?_
  ·generalize β 15=b7
   exact ar J J J J .p0 J J<|ae.nil ⟨_,J⟩
  refine AT.xK (fun _=>J) fun β=>?_
  generalize β 15=b7
  clear β
  refine rA J J<|rN<|tS<|tS<|ab.cut (fun aJ=>∃ (c8:Bool),kh aa ai v4 v6 c8=some r∧aJ=⟨76,[(0,.ptr bO 0),(6,.ptr b2 0),(10,.ptr b7 0),(61,.bool c8)],[(bO,.cells [o8 aa.nF,I aa.Eb.aA,I aa.Eb.aD,I aa.Eb.aF,.bV bW]),(bW,qg (ca aa.fA ai v4)),(b2,.cells [I 0,I 0,I 0,.nil,.nil,I 0]),(b7,.cells [se v6.1])]⟩) ?_ ?_
  ·refine tR<|rM J J<|ae.qv (cV J) J<|rM J J<|ae.guard J J J (fun hc=>?_) (fun hc=>?_)
   ·rw [va hc] at h
    exact rL J J .p0 J J<|rY J J J<|ae.qv (cE J) J<|rY J J J<|ae.qv (dt J J) J<|rE J J J<|rN<|ab.stop<|aj.lq [3,3,1,0] ⟨decide ((v6.1.length:Int)=0),h,J⟩ J J
   ·rw [u9 hc] at h
    exact rG J J J J<|rG J J J J<|rT J J J<|rN<|ab.stop<|aj.lq [3,3,1,0] ⟨true,h,J⟩ J J
  ·rintro aJ ⟨c8,h,rfl⟩
   unfold kh at h
   refine cB h J (fun h=>?_) (fun h=>?_)
   ·refine aL<|ae.qv (dc J J J J J) J<|ar J J J J .p2 J J<|rA J J<|rN<|ab.ret<|?_
    cases h
    exact aj.G2 (j:=3) 1 .p2 J J J<|aj.G2 (j:=4) 6 .p2 J J J<|aj.here ⟨_,.cons (.all _ _ _ _ _ _ J .p2 aC.h a8.h J J) (.cons (.tmp _ _ J) .nil),_,.cons .p0 (.cons .p0 .nil),⟨J,J⟩⟩
   ·refine tK<|aL<|rM J J<|ae.qv (az J) J<|rF J J J<|rL J J .p0 J J<|ae.qv (mg J) J<|aK h fun v9 e4 h=>gO J (fT (fun e=>qk e) e4) (.cons (.co (.refl _)) (.cons (.AB _ _ _ (.cons (.xG _ _ _ .p3 (.cons (.co (.refl _)) .nil)) .nil)) .nil)) J J<|rA J J<|rN<|aL<|rM J J<|ae.qv (az J) J<|rF J J J<|rL J J .p0 J J<|rM J J<|aK h fun v10 e5 h=>ae.qv (bH J J J e5 J J) J<|ae.qv (aO J J J) J<|ar J J J J .p2 J J<|rA J J<|rN<|ab.ret<|?_
    cases h
    exact aj.here ⟨_,.cons (.all _ _ _ _ _ _ J .p2 aC.h a8.h J J) (.cons (.tmp _ _ J) .nil),_,.cons .p0 (.cons .p0 .nil),⟨J,J⟩⟩
 ·refine ae.qv (K7 (gk:=AV.str) (gv:=(F8 Version.av ao.av)) (M:=aa.fA) (key:=ai) J J .p3 e1) J<|rM J J<|rX J J J<|rX J J J<|rA J J<|rA J J<|rN<|tS<|aL<|rM J J<|ae.qv (cV J) J<|rN<|ab.Ow J<|tK<|tS<|aK h fun v11 e6 h=>ab.lB (id:=5) (A:=[0,1,3,7,0,0,0,64,192,448,0,2047,4095,8191,8191,0,49151,131071]) (H0:=[]) (HH:=fun β=>[((β 15),.cells [se v11.1]),(b2,.cells [I 0,I 0,I 0,.nil,.nil,I 0]),(b1,.cells [I aH.aA,I aH.aD,I aH.aF]),(bO,.cells (Dd aa bW)),(bW,qg aa.fA)]) 17 mixed J (by kernel_rfl) (by kernel_rfl) [⟨some 15,some 16,[],fun b=>(b,.cells [.nil]),none,[]⟩,⟨some 16,none,[],fun b=>(b,.cells [se v11.1]),some 15,[]⟩] [15] J (by kernel_rfl) J .nil (fun _=>J)<|AT.am 15 J J<|AM.qv (aT J) J<|AM.qv (az J) J<|AM.qv (ax J J) J<|AM.qv (aM J J .p2 J) J<|AM.qv (aT J) J<|AM.qv (aG J J .p1 J) J<|AM.qv (aT J) J<|AM.qv (az J) J<|AM.qv (ax J J) J<|AM.qv (aP J J .p2 J J) J<|AM.qv (aT J) J<|AM.gM J (yv e6) cR J<|AM.qv (aT J) J<|AM.qv (jG J J) J<|AM.qv (jG J J) J<|AM.nil<|AT.zU (V:=fun b=>.ptr b 0) (Ti:=[]) (Pi:=fun b=>[(b,.cells [.nil])]) (fun _=>J) (fun _=>J) (fun _ _=>J) J (fun _=>J) J J J ?_ ?_
  ·exact bA J J J J fun kB=>ae.nil ⟨kB,_,J,J⟩
  refine AT.runN (Ti:=fun β=>[((β 15),.cells [.nil])]) (Pi:=fun β=>[((β 15),.cells [se v11.1])]) (fun _=>J) (fun _=>J) (fun _ _=>J) (fun _=>J) (fun _=>J) (fun β=>?_) ?_
  ·generalize β 15=kB
   exact ar J J J J .p0 J J<|ae.nil ⟨_,J⟩
  refine AT.xK (fun _=>J) fun β=>?_
  generalize β 15=kB
  clear β
  refine rA J J<|rN<|tS<|tS<|ab.cut (fun aJ=>∃ (PN:Bool),ki aa v11 PN=some r∧aJ=⟨76,[(0,.ptr bO 0),(6,.ptr b2 0),(10,.ptr kB 0),(61,.bool PN)],[(bO,.cells (Dd aa bW)),(bW,qg aa.fA),(b2,.cells [I 0,I 0,I 0,.nil,.nil,I 0]),(kB,.cells [se v11.1])]⟩) ?_ ?_
  ·refine tR<|rM J J<|ae.qv (cV J) J<|rM J J<|ae.guard J J J (fun hc=>?_) (fun hc=>?_)
   ·rw [va hc] at h
    exact rL J J .p0 J J<|rY J J J<|ae.qv (cE J) J<|rY J J J<|ae.qv (dt J J) J<|rE J J J<|rN<|ab.stop<|aj.lq [3,3,1,0] ⟨decide ((v11.1.length:Int)=0),h,J⟩ J J
   ·rw [u9 hc] at h
    exact rG J J J J<|rG J J J J<|rT J J J<|rN<|ab.stop<|aj.lq [3,3,1,0] ⟨true,h,J⟩ J J
  ·rintro aJ ⟨PN,h,rfl⟩
   unfold ki at h
   refine cB h J (fun h=>?_) (fun h=>?_)
   ·refine aL<|ae.qv (dc J J J J J) J<|ar J J J J .p2 J J<|rA J J<|rN<|ab.ret<|?_
    cases h
    exact aj.G2 (j:=3) 1 .p2 J J J<|aj.G2 (j:=4) 6 .p2 J J J<|aj.here ⟨_,.cons (.all _ _ _ _ _ _ J .p2 aC.h a8.h J J) (.cons (.tmp _ _ J) .nil),_,.cons .p0 (.cons .p0 .nil),⟨J,J⟩⟩
   ·refine tK<|aL<|rM J J<|ae.qv (az J) J<|rF J J J<|rL J J .p0 J J<|ae.qv (mg J) J<|aK h fun sT e7 h=>gO J (fT (fun e=>qk e) e7) (.cons (.co (.refl _)) (.cons (.AB _ _ _ (.cons (.xG _ _ _ .p3 (.cons (.co (.refl _)) .nil)) .nil)) .nil)) J J<|rA J J<|rN<|aL<|rM J J<|ae.qv (az J) J<|rF J J J<|rL J J .p0 J J<|rM J J<|aK h fun CQ e8 h=>ae.qv (bH J J J e8 J J) J<|ae.qv (aO J J J) J<|ar J J J J .p2 J J<|rA J J<|rN<|ab.ret<|?_
    cases h
    exact aj.here ⟨_,.cons (.all _ _ _ _ _ _ J .p2 aC.h a8.h J J) (.cons (.tmp _ _ J) .nil),_,.cons .p0 (.cons .p0 .nil),⟨J,J⟩⟩
theorem wF [GI:bU] {bO ij:Bk} {bX:Nat→Bk} {gI:Nat→Nat→Bk} {cJ cK cm bW cA db xB fj:Bk} {aa:aB} {ai:aQ} {aH:List DeviceS} {bc ck:Int} {r:(List cx)×aQ} (h:dX aa ai aH bc ck=some r):aR Tryz.prog 50 [.ptr bO 0,.ptr xB 0,pI aH,I bc,I ck] [(bO,.cells [.ch [.str aa.c_.Key,I aa.c_.Target.aA,I aa.c_.Target.aD,I aa.c_.Target.aF,I aa.c_.At,oQ aa.c_.aI,I aa.c_.aZ.bF,I aa.c_.aZ.To,I aa.c_.Room],.bV cJ,.bV cK,.sl 1 cm 0 aa.open_.length,.sl 1 bW 0 aa.bt.length,.sl 1 cA 0 aa.aY.length,.sl 1 db 0 aa.aN.length,I aa.bf,I aa.cw]),(cJ,.mp (aa.nw.map (fun e=>(AV.str e.1,(pA bX) e.2)))),(cK,wT aa.cL),(cm,dx aa.open_),(bW,dx aa.bt),(cA,dx aa.aY),(db,dx aa.aN),(ij,.cu (iK tc bX gI aa.kd)),(xB,.cells (Dd ai fj)),(fj,qg ai.fA)] (T1 (fun np=>[(bO,.cells [.ch [.str aa.c_.Key,I aa.c_.Target.aA,I aa.c_.Target.aD,I aa.c_.Target.aF,I aa.c_.At,oQ aa.c_.aI,I aa.c_.aZ.bF,I aa.c_.aZ.To,I aa.c_.Room],.bV cJ,.bV cK,.sl 1 cm 0 aa.open_.length,.sl 1 bW 0 aa.bt.length,.sl 1 cA 0 aa.aY.length,.sl 1 db 0 aa.aN.length,I aa.bf,I aa.cw]),(cJ,.mp (aa.nw.map (fun e=>(AV.str e.1,(pA bX) e.2)))),(cK,wT aa.cL),(cm,dx aa.open_),(bW,dx aa.bt),(cA,dx aa.aY),(db,dx aa.aN),(ij,.cu (iK tc bX gI aa.kd)),(xB,.cells (Dd r.2 fj)),(fj,qg r.2.fA),(np,CR r.1)]) (fun np=>.sl 5 np 0 r.1.length)):=by
 unfold dX at h
 refine aR.iL ?_
 refine aR.bI Tryz.func50 J Tryz.ntmps50 Tryz.results50 J J ?_
 refine aL<|dh J J J J fun b1=>ae.ghost<|aj.Px (s:=5) J .p0<|aj.here<|rA J J<|rN<|tS<|tS<|ab.cut (fun aJ=>∃ (c2:Bool),gD aa ai aH c2=some r∧aJ=⟨136,[(1,.ptr xB 0),(2,pI aH),(5,.ch [.ptr bO 0]),(35,.bool c2)],[(bO,.cells [.ch [.str aa.c_.Key,I aa.c_.Target.aA,I aa.c_.Target.aD,I aa.c_.Target.aF,I aa.c_.At,oQ aa.c_.aI,I aa.c_.aZ.bF,I aa.c_.aZ.To,I aa.c_.Room],.bV cJ,.bV cK,.sl 1 cm 0 aa.open_.length,.sl 1 bW 0 aa.bt.length,.sl 1 cA 0 aa.aY.length,.sl 1 db 0 aa.aN.length,I aa.bf,I aa.cw]),(cJ,.mp (aa.nw.map (fun e=>(AV.str e.1,(pA bX) e.2)))),(ij,.cu (iK tc bX gI aa.kd)),(cK,wT aa.cL),(cm,dx aa.open_),(bW,dx aa.bt),(cA,dx aa.aY),(db,dx aa.aN),(xB,.cells (Dd ai fj)),(fj,qg ai.fA)]⟩) ?_ ?_
 ·refine tR<|ae.qv (aS J J J) J<|ae.qv (az J) J<|rF J J J<|rL J J .p0 J J<|ae.qv (nP J J) J<|rM J J<|ae.dA J J J (fun hc=>?_) (fun hc=>?_)
  ·rw [we hc] at h
   exact ae.qv (aS J J J) J<|rY J J J<|ae.qv (az J) J<|rY J J J<|rF J J J<|rY J J J<|rL J J .p0 J J<|rY J J J<|rM J J<|rY J J J<|rM J J<|rY J J J<|ba J (Af J) cR J<|rY J J J<|ae.qv (cV J) J<|rE J J J<|rN<|ab.stop<|aj.lq [0,0,5,0,0,0,0,0,0,0] ⟨!(kN aa.c_ bc ck),h,J⟩ J J
  ·rw [wc hc] at h
   exact rG J J J J<|rG J J J J<|rG J J J J<|rG J J J J<|rG J J J J<|rG J J J J<|rG J J J J<|rT J J J<|rN<|ab.stop<|aj.lq [0,0,5,0,0,0,0,0,0,0] ⟨true,h,J⟩ J J
 ·rintro aJ ⟨c2,h,rfl⟩
  unfold gD at h
  refine cB h J (fun h=>?_) (fun h=>?_)
  ·refine aL<|rA J J<|rN<|ab.ret<|?_
   cases h
   exact aj.arr (s:=10) 5 J fun b3=>aj.here ⟨_,.cons (.tmp _ _ J) .nil,_,.cons .p1 (.cons .p1 (.cons .p2 (.cons .p2 (.cons .p2 (.cons .p2 (.cons .p2 (.cons .p1 (.cons .p1 (.cons .p1 (.cons .p0 .nil)))))))))),⟨b3,J,J⟩⟩
  ·refine tK<|aL<|ae.qv (aS J J J) J<|ae.qv (az J) J<|rF J J J<|rL J J .p0 J J<|ae.qv (bL J) J<|ae.qv (bq J J) J<|ae.qv (aS J J J) J<|rA J J<|rN<|aL<|rA J J<|rN<|tS<|aL<|rM J J<|ae.qv (cE J) J<|rM J J<|rN<|ab.block<|ab.cS (fun x:Int×(List DeviceS)×Int=>eK aa ai aH x.1 x.2.1 x.2.2) (fun x aJ=>∃ (b9:Bk),aJ=⟨136,[(1,.ptr xB 0),(5,.ch [.ptr bO 0]),(11,I x.1),(12,.sl 7 b9 0 x.2.1.length),(43,pI aH),(44,I (aH.length:Int)),(45,I x.2.2)],[(bO,.cells [.ch [.str aa.c_.Key,I aa.c_.Target.aA,I aa.c_.Target.aD,I aa.c_.Target.aF,I aa.c_.At,oQ aa.c_.aI,I aa.c_.aZ.bF,I aa.c_.aZ.To,I aa.c_.Room],.bV cJ,.bV cK,.sl 1 cm 0 aa.open_.length,.sl 1 bW 0 aa.bt.length,.sl 1 cA 0 aa.aY.length,.sl 1 db 0 aa.aN.length,I aa.bf,I aa.cw]),(cJ,.mp (aa.nw.map (fun e=>(AV.str e.1,(pA bX) e.2)))),(ij,.cu (iK tc bX gI aa.kd)),(cK,wT aa.cL),(cm,dx aa.open_),(bW,dx aa.bt),(cA,dx aa.aY),(db,dx aa.aN),(xB,.cells (Dd ai fj)),(fj,qg ai.fA),(b9,uK x.2.1)]⟩) h ?_ ?_
   ·exact aj.arr (s:=12) 7 J fun kB=>aj.lq [1,1,1,1,1,1,1,1,1,1,0] ⟨kB,J⟩ J J
   ·intro x z1 aJ J1 ep h jF ek
    obtain ⟨n8,l10,n11⟩:=x
    obtain ⟨b9,rfl⟩:=ep
    replace h:eK aa ai aH n8 l10 n11=some z1:=h
    unfold eK at h
    refine aL<|ae.qv (bT J J) J<|rN<|tS<|cD h J (fun h=>?_) (fun h=>?_)
    ·refine tK<|tS<|ab.block<|aL<|aK h fun lF e1 h=>ae.qv (bH J J J e1 J J) J<|ae.qv (aO J J J) J<|bA J J J J fun Fl=>ar J J J J .p0 J J<|rN<|tS<|ab.dv (id:=8) (A:=[0,1,3,7,0,16,63,127]) 8 mixed J (by kernel_rfl) (by kernel_rfl)<|AM.qv (aS J J J) J<|AM.qv (az J) J<|AM.qv (ax J J) J<|AM.qv (aM J J .p1 J) J<|AM.qv (ax J J) J<|AM.qv (aM J J .p0 J) J<|Ss h (fun e2 h=>?_) (fun n15 e2 h=>?_)
     ·refine AM.qv (D6 (gk:=AV.str) (gv:=(pA bX)) (M:=aa.nw) (key:=lF.Key) J J .p2 J e2) J<|AM.qv (bQ J) J<|AM.nil<|rN<|ab.block<|aL<|rM J J<|?_
      cases h
     ·refine AM.qv (zZ (gk:=AV.str) (gv:=(pA bX)) (M:=aa.nw) (key:=lF.Key) J J .p2 e2) J<|AM.qv (bQ J) J<|AM.nil<|rN<|ab.block<|aL<|rM J J<|aK h fun tL e3 h=>gO J (CU J) (.cons (lD.Cq (bp:=ij) (kb:=tc) (bs:=gI) (M:=aa.kd) UA e3 .p3) .nil) J J<|rA J J<|rN<|ab.cut (fun aJ=>∃ (Je:Bk) (n17:Int) (Fb:List DeviceS),eJ n11 n17 Fb=some z1∧aJ=⟨136,[(1,.ptr xB 0),(5,.ch [.ptr bO 0]),(11,I n17),(12,.sl 7 Je 0 Fb.length),(43,pI aH),(44,I (aH.length:Int)),(45,I n11)],[(bO,.cells [.ch [.str aa.c_.Key,I aa.c_.Target.aA,I aa.c_.Target.aD,I aa.c_.Target.aF,I aa.c_.At,oQ aa.c_.aI,I aa.c_.aZ.bF,I aa.c_.aZ.To,I aa.c_.Room],.bV cJ,.bV cK,.sl 1 cm 0 aa.open_.length,.sl 1 bW 0 aa.bt.length,.sl 1 cA 0 aa.aY.length,.sl 1 db 0 aa.aN.length,I aa.bf,I aa.cw]),(cJ,.mp (aa.nw.map (fun e=>(AV.str e.1,(pA bX) e.2)))),(ij,.cu (iK tc bX gI aa.kd)),(cK,wT aa.cL),(cm,dx aa.open_),(bW,dx aa.bt),(cA,dx aa.aY),(db,dx aa.aN),(xB,.cells (Dd ai fj)),(fj,qg ai.fA),(Je,uK Fb)]⟩) ?_ ?_
      ·refine cB h J (fun h=>?_) (fun h=>?_)
       ·exact tR<|rM J J<|ae.qv (fy J J) J<|rA J J<|rN<|ab.stop<|aj.lq [1,1,1,1,1,1,1,1,1,1,1] ⟨b9,bE (n8 - 1),l10,h,J⟩ J J
       ·refine tS<|ab.cut (fun aJ=>∃ (c20:Bool),jm n8 l10 n11 lF c20=some z1∧aJ=⟨136,[(1,.ptr xB 0),(5,.ch [.ptr bO 0]),(11,I n8),(12,.sl 7 b9 0 l10.length),(14,.ptr Fl 0),(43,pI aH),(44,I (aH.length:Int)),(45,I n11),(61,.bool c20)],[(bO,.cells [.ch [.str aa.c_.Key,I aa.c_.Target.aA,I aa.c_.Target.aD,I aa.c_.Target.aF,I aa.c_.At,oQ aa.c_.aI,I aa.c_.aZ.bF,I aa.c_.aZ.To,I aa.c_.Room],.bV cJ,.bV cK,.sl 1 cm 0 aa.open_.length,.sl 1 bW 0 aa.bt.length,.sl 1 cA 0 aa.aY.length,.sl 1 db 0 aa.aN.length,I aa.bf,I aa.cw]),(cJ,.mp (aa.nw.map (fun e=>(AV.str e.1,(pA bX) e.2)))),(ij,.cu (iK tc bX gI aa.kd)),(cK,wT aa.cL),(cm,dx aa.open_),(bW,dx aa.bt),(cA,dx aa.aY),(db,dx aa.aN),(xB,.cells (Dd ai fj)),(fj,qg ai.fA),(b9,uK l10),(Fl,.cells (Rv lF))]⟩) ?_ ?_
        ·refine ab.dv (id:=11) (A:=[0,1,3,7,0,16,63,0,128,384,896,1920,4095,8191,16383,16383,65535,131071,262143,524287,1048575,1048575,4194303,8388607,16777215,33554431]) 26 mixed J (by kernel_rfl) (by kernel_rfl)<|AM.qv (aS J J J) J<|AM.qv (az J) J<|AM.qv (ax J J) J<|AM.qv (aM J J .p1 J) J<|AM.qv (ax J J) J<|AM.qv (aM J J .p0 J) J<|aK h fun v21 e4 h=>AM.qv (AL (gk:=AV.str) (gv:=I) (M:=aa.cL) (key:=lF.Key) (Z:=0) J J .p4 J J J e4 J) J<|AM.qv (aS J J J) J<|AM.qv (az J) J<|AM.qv (ax J J) J<|AM.qv (aM J J .p1 J) J<|AM.qv (dH J) J<|AM.qv (bT J J) J<|AM.qv (aT J) J<|AM.dJ J J J (fun hc=>?_) (fun hc=>?_)
         ·rw [uE hc] at h
          refine AM.qv (aS J J J) J<|AM.ay J J J<|AM.qv (aT J) J<|AM.ay J J J<|AM.GV J (iC J) (.cons (.xG _ _ _ .p1 (.cons (.co (.refl _)) (.cons (.co (.refl _)) (.cons (.co (.refl _)) (.cons (lD.jd .p5) (.cons (lD.jd .p6) (.cons (lD.jd .p7) (.cons (lD.jd (.next .p7)) (.cons (.co (.refl _)) (.cons (.co (.refl _)) .nil)))))))))) (.cons (lD.Cq (bp:=ij) (kb:=tc) (bs:=gI) (M:=aa.kd) UA e3 .p3) .nil)) J J<|AM.ay J J J<|AM.qv (cV J) J<|AM.qv (gx J J) J<|AM.qv (aT J) J<|AM.guard J J J (fun hc=>?_) (fun hc=>?_)
          ·rw [DE hc] at h
           exact AM.qv (aS J J J) J<|AM.ay J J J<|AM.qv (aT J) J<|AM.ay J J J<|AM.GV J (o9 J) (.cons (.xG _ _ _ .p1 (.cons (.co (.refl _)) (.cons (.co (.refl _)) (.cons (.co (.refl _)) (.cons (lD.jd .p5) (.cons (lD.jd .p6) (.cons (lD.jd .p7) (.cons (lD.jd (.next .p7)) (.cons (.co (.refl _)) (.cons (.co (.refl _)) .nil)))))))))) (.cons (lD.Cq (bp:=ij) (kb:=tc) (bs:=gI) (M:=aa.kd) UA e3 .p3) .nil)) J J<|AM.ay J J J<|AM.qv (cV J) J<|AM.qv (gx J J) J<|AM.qv (bQ J) J<|AM.nil<|rN<|ab.stop<|aj.lq [1,1,1,1,1,1,1,1,1,1,1,0] ⟨!(dm aa tL),h,J⟩ J J
          ·rw [DF hc] at h
           exact AM.au J J J J<|AM.au J J J J<|AM.au J J J J<|AM.qv (eA J J) J<|AM.qv (bQ J) J<|AM.nil<|rN<|ab.stop<|aj.lq [1,1,1,1,1,1,1,1,1,1,1,0] ⟨false,h,J⟩ J J
         ·rw [uF hc] at h
          exact AM.au J J J J<|AM.au J J J J<|AM.au J J J J<|AM.qv (eA J J) J<|AM.qv (aT J) J<|AM.au J J J J<|AM.au J J J J<|AM.au J J J J<|AM.au J J J J<|AM.qv (eA J J) J<|AM.qv (bQ J) J<|AM.nil<|rN<|ab.stop<|aj.lq [1,1,1,1,1,1,1,1,1,1,1,0] ⟨false,h,J⟩ J J
        ·rintro aJ ⟨c20,h,rfl⟩
         unfold jm at h
         refine ab.cut (fun aJ=>∃ (Rx:Bk) (xM:List DeviceS),gz n8 n11 xM=some z1∧aJ=⟨136,[(1,.ptr xB 0),(5,.ch [.ptr bO 0]),(11,I n8),(12,.sl 7 Rx 0 xM.length),(43,pI aH),(44,I (aH.length:Int)),(45,I n11)],[(bO,.cells [.ch [.str aa.c_.Key,I aa.c_.Target.aA,I aa.c_.Target.aD,I aa.c_.Target.aF,I aa.c_.At,oQ aa.c_.aI,I aa.c_.aZ.bF,I aa.c_.aZ.To,I aa.c_.Room],.bV cJ,.bV cK,.sl 1 cm 0 aa.open_.length,.sl 1 bW 0 aa.bt.length,.sl 1 cA 0 aa.aY.length,.sl 1 db 0 aa.aN.length,I aa.bf,I aa.cw]),(cJ,.mp (aa.nw.map (fun e=>(AV.str e.1,(pA bX) e.2)))),(ij,.cu (iK tc bX gI aa.kd)),(cK,wT aa.cL),(cm,dx aa.open_),(bW,dx aa.bt),(cA,dx aa.aY),(db,dx aa.aN),(xB,.cells (Dd ai fj)),(fj,qg ai.fA),(Rx,uK xM)]⟩) ?_ ?_
         ·refine cB h J (fun h=>?_) (fun h=>?_)
          ·exact tR<|rM J J<|ae.qv (aG J J (.next (.next (.next (.next .p7)))) J) J<|aW (xs:=([lF]:List DeviceS).map DeviceS.av) J J J J J J<|aK h fun yY e5 h=>dB (g:=DeviceS.av) J J J J J J J J (.list _) e5 (fun _=>(.next (.next (.next .p7)))) J fun A3=>rA J J<|rN<|ab.stop<|aj.lq [0,0,0,0,0,0,0,0,0,0,0] ⟨A3,yY,h,J⟩ J J
          ·exact tK<|ab.stop<|aj.lq [0,0,0,0,0,0,0,0,0,0,0] ⟨b9,l10,h,J⟩ J J
         ·rintro aJ ⟨Rx,xM,h,rfl⟩
          unfold gz at h
          exact ab.stop<|aj.lq [0,0,0,0,0,0,0,0,0,0,0] ⟨Rx,n8,xM,h,J⟩ J J
      ·rintro aJ ⟨Je,n17,Fb,h,rfl⟩
       unfold eJ at h
       refine ab.cH<|ab.cH<|tR<|ae.qv (br J J) J<|rM J J<|rN<|ab.stop<|?_
       cases h
       exact jF _ _ J<|aj.lq [0,0,0,0,0,0,0,0,0,0,0] ⟨Je,J⟩ J J
    ·refine ab.exit J<|have h:=bZ h ek;?_
     unfold gC at h
     refine aL<|rM J J<|ae.qv (mg J) J<|aK h fun v26 e6 h=>SQ J (r7 (fun e=>uP (GI:=nz) e) (tZ e6)) (.cons (.next (.next (.next .p7))) .nil) (.cons (.co (.refl _)) (.cons (.AB _ _ _ (.cons (lD.Ye (.cons (.xG _ _ _ .p0 (.cons (.co (.refl _)) (.cons (lD.fm .p1) (.cons (lD.fm .p3) (.cons (lD.jd .p4) (.cons (lD.jd .p5) (.cons (lD.jd .p6) (.cons (lD.jd .p7) (.cons (.co (.refl _)) (.cons (.co (.refl _)) .nil)))))))))) .nil)) .nil)) .nil)) J J<|ae.ghost<|aj.eqs (s:=12) (iI:=.sl 7 b9 0 v26.length) J (congrArg (AV.sl 7 b9 0) (jI e6))<|aj.here<|ae.ghost<|aj.eqs (s:=92) (iI:=.sl 7 b9 0 v26.length) J (congrArg (AV.sl 7 b9 0) (jI e6))<|aj.here<|rN<|aL<|rA J J<|rN<|tS<|aL<|rM J J<|ae.qv (dH J) J<|rM J J<|rN<|ab.cut (fun aJ=>∃ (Ry:Bk) (BI:List ak) (n28:Int) (n29:Int) (n30:Int) (yZ:List (bj×(List (Version×ao)))) (I6:List cx),jn BI n28 n29 n30 yZ I6=some r∧aJ=⟨136,[(16,.sl 5 Ry 0 I6.length)],[(bO,.cells [.ch [.str aa.c_.Key,I aa.c_.Target.aA,I aa.c_.Target.aD,I aa.c_.Target.aF,I aa.c_.At,oQ aa.c_.aI,I aa.c_.aZ.bF,I aa.c_.aZ.To,I aa.c_.Room],.bV cJ,.bV cK,.sl 1 cm 0 aa.open_.length,.sl 1 bW 0 aa.bt.length,.sl 1 cA 0 aa.aY.length,.sl 1 db 0 aa.aN.length,I aa.bf,I aa.cw]),(cJ,.mp (aa.nw.map (fun e=>(AV.str e.1,(pA bX) e.2)))),(ij,.cu (iK tc bX gI aa.kd)),(cK,wT aa.cL),(cm,dx aa.open_),(bW,dx aa.bt),(cA,dx aa.aY),(db,dx aa.aN),(xB,.cells [o8 BI,I n28,I n29,I n30,.bV fj]),(fj,qg yZ),(Ry,CR I6)]⟩) ?_ ?_
     ·refine ab.block<|ab.cS (fun x:(List ak)×Int×Int×Int×(List (bj×(List (Version×ao))))×(List cx)×Int=>dQ aa n8 v26 x.1 x.2.1 x.2.2.1 x.2.2.2.1 x.2.2.2.2.1 x.2.2.2.2.2.1 x.2.2.2.2.2.2) (fun x aJ=>∃ (Gc:Bk),aJ=⟨136,[(1,.ptr xB 0),(5,.ch [.ptr bO 0]),(11,I n8),(16,.sl 5 Gc 0 x.2.2.2.2.2.1.length),(95,.sl 7 b9 0 v26.length),(96,I (v26.length:Int)),(97,I x.2.2.2.2.2.2)],[(bO,.cells [.ch [.str aa.c_.Key,I aa.c_.Target.aA,I aa.c_.Target.aD,I aa.c_.Target.aF,I aa.c_.At,oQ aa.c_.aI,I aa.c_.aZ.bF,I aa.c_.aZ.To,I aa.c_.Room],.bV cJ,.bV cK,.sl 1 cm 0 aa.open_.length,.sl 1 bW 0 aa.bt.length,.sl 1 cA 0 aa.aY.length,.sl 1 db 0 aa.aN.length,I aa.bf,I aa.cw]),(cJ,.mp (aa.nw.map (fun e=>(AV.str e.1,(pA bX) e.2)))),(ij,.cu (iK tc bX gI aa.kd)),(cK,wT aa.cL),(cm,dx aa.open_),(bW,dx aa.bt),(cA,dx aa.aY),(db,dx aa.aN),(xB,.cells [o8 x.1,I x.2.1,I x.2.2.1,I x.2.2.2.1,.bV fj]),(fj,qg x.2.2.2.2.1),(Gc,CR x.2.2.2.2.2.1),(b9,uK v26)]⟩) h ?_ ?_
      ·exact aj.arr (s:=16) 5 J fun b50=>aj.lq [2,2,2,2,2,2,2,2,2,2,0,0] ⟨b50,J⟩ J J
      ·intro x z2 aJ J2 ep h zm xd
       obtain ⟨Hc,n43,n44,n45,Kf,AW,n49⟩:=x
       obtain ⟨Gc,rfl⟩:=ep
       replace h:dQ aa n8 v26 Hc n43 n44 n45 Kf AW n49=some z2:=h
       unfold dQ at h
       refine aL<|ae.qv (bT J J) J<|rN<|tS<|cD h J (fun h=>?_) (fun h=>?_)
       ·refine tK<|tS<|ab.block<|aL<|aK h fun v51 e7 h=>ae.qv (bB J J J e7) J<|ae.qv (cq (g:=DeviceS.av) J J (.inl (.next (.next (.next (.next .p7))))) J e7 J) J<|bA J J J J fun Rw=>ar J J J J .p0 J J<|rN<|tS<|aL<|rM J J<|ae.qv (dH J) J<|rM J J<|ae.qv (nP J J) J<|rN<|cD h J (fun h=>?_) (fun h=>?_)
        ·exact ab.exit J<|have h:=bZ h xd;ab.stop<|aj.lq [1,1,1,1,1,1,1,1,1,1,1] ⟨Gc,Hc,n43,n44,n45,Kf,AW,h,J⟩ J J
        ·refine tK<|tS<|aK h fun n53 e8 h=>aK h fun v54 e9 h=>aK h fun v55 Ad h=>ab.lB (id:=20) (A:=[0,0,2,0,8,24,56,0,128,504,1016,2040,4088,8184,16383,32767,65535,65535,0,393215,1048575]) (H0:=[(xB,.cells [o8 Hc,I n43,I n44,I n45,.bV fj]),(fj,qg Kf)]) (HH:=fun β=>[(xB,.cells (Dd v55.2.2 fj)),(fj,qg v55.2.2.fA),((β 18),.cells (Eh v55.1)),(Rw,.cells (Rv v51)),(bO,.cells [.ch [.str aa.c_.Key,I aa.c_.Target.aA,I aa.c_.Target.aD,I aa.c_.Target.aF,I aa.c_.At,oQ aa.c_.aI,I aa.c_.aZ.bF,I aa.c_.aZ.To,I aa.c_.Room],.bV cJ,.bV cK,.sl 1 cm 0 aa.open_.length,.sl 1 bW 0 aa.bt.length,.sl 1 cA 0 aa.aY.length,.sl 1 db 0 aa.aN.length,I aa.bf,I aa.cw]),(cJ,.mp (aa.nw.map (fun e=>(AV.str e.1,(pA bX) e.2)))),(ij,.cu (iK tc bX gI aa.kd)),(cK,wT aa.cL),(cm,dx aa.open_),(bW,dx aa.bt),(cA,dx aa.aY),(db,dx aa.aN),(Gc,CR AW),(b9,uK v26)]) 20 mixed J (by kernel_rfl) (by kernel_rfl) [⟨none,some 14,[],fun _=>(xB,.cells [o8 Hc,I n43,I n44,I n45,.bV fj]),none,[]⟩,⟨none,some 14,[],fun _=>(fj,qg Kf),none,[]⟩,⟨some 14,none,[],fun _=>(xB,.cells (Dd v55.2.2 fj)),none,[]⟩,⟨some 14,none,[],fun _=>(fj,qg v55.2.2.fA),none,[]⟩,⟨some 18,some 19,[],fun b=>(b,.cells [I 0,I 0,I 0,.nil,.nil,I 0]),none,[]⟩,⟨some 19,none,[],fun b=>(b,.cells (Eh v55.1)),some 18,[]⟩] [18] J (by kernel_rfl) J (.cons (.next (.next .p7)) (.cons (.next (.next .p7)) .nil)) (fun _=>J)<|AT.am 14 J J<|AM.qv (aT J) J<|AM.qv (ax J J) J<|AM.qv (aM J J .p0 J) J<|AM.qv (aS J J J) J<|AM.qv (az J) J<|AM.qv (ax J J) J<|AM.qv (aM J J .p1 J) J<|AM.qv (ax J J) J<|AM.qv (aM J J .p0 J) J<|AM.qv (zZ (gk:=AV.str) (gv:=(pA bX)) (M:=aa.nw) (key:=v51.Key) J J .p2 e8) J<|AM.qv (az J) J<|AM.qv (ax J J) J<|AM.qv (ax J J) J<|AM.qv (QV.ara (kb:=tc) e9 .p3 J (aP J J .p0 J J)) J<|AM.nil<|AT.CN (av:=.lM [ak.av v55.1,.bool v55.2.1]) (Ti:=[(xB,.cells [o8 Hc,I n43,I n44,I n45,.bV fj]),(fj,qg Kf)]) (Pi:=[(xB,.cells (Dd v55.2.2 fj)),(fj,qg v55.2.2.fA)]) (fun _=>J) (fun _=>J) (fun _=>J) J J J ?_ ?_
         ·exact bC J (xR Ad) cR (.cons .p0 (.cons .p0 .nil)) J J<|ae.nil ⟨_,J,J⟩
         refine AT.am 3 J J<|AM.qv (aT J) J<|AM.qv (jG J J) J<|AM.qv (jG J J) J<|AM.nil<|AT.zU (V:=fun b=>.ptr b 0) (Ti:=[]) (Pi:=fun b=>[(b,.cells [I 0,I 0,I 0,.nil,.nil,I 0])]) (fun _=>J) (fun _=>J) (fun _ _=>J) J (fun _=>J) J J J ?_ ?_
         ·exact bA J J J J fun Ol=>ae.nil ⟨Ol,_,J,J⟩
         refine AT.runN (Ti:=fun β=>[((β 18),.cells [I 0,I 0,I 0,.nil,.nil,I 0])]) (Pi:=fun β=>[((β 18),.cells (Eh v55.1))]) (fun _=>J) (fun _=>J) (fun _ _=>J) (fun _=>J) (fun _=>J) (fun β=>?_) ?_
         ·generalize β 18=Ol
          exact ar J J J J .p0 J J<|ae.nil ⟨_,J⟩
         refine AT.xK (fun _=>J) fun β=>?_
         generalize β 18=Ol
         clear β
         refine rA J J<|rN<|aL<|rM J J<|rN<|ab.cut (fun aJ=>∃ (UD:Bk) (W3:List cx),gA n49 v55 W3=some z2∧aJ=⟨136,[(1,.ptr xB 0),(5,.ch [.ptr bO 0]),(11,I n8),(16,.sl 5 UD 0 W3.length),(95,.sl 7 b9 0 v26.length),(96,I (v26.length:Int)),(97,I n49)],[(bO,.cells [.ch [.str aa.c_.Key,I aa.c_.Target.aA,I aa.c_.Target.aD,I aa.c_.Target.aF,I aa.c_.At,oQ aa.c_.aI,I aa.c_.aZ.bF,I aa.c_.aZ.To,I aa.c_.Room],.bV cJ,.bV cK,.sl 1 cm 0 aa.open_.length,.sl 1 bW 0 aa.bt.length,.sl 1 cA 0 aa.aY.length,.sl 1 db 0 aa.aN.length,I aa.bf,I aa.cw]),(cJ,.mp (aa.nw.map (fun e=>(AV.str e.1,(pA bX) e.2)))),(ij,.cu (iK tc bX gI aa.kd)),(cK,wT aa.cL),(cm,dx aa.open_),(bW,dx aa.bt),(cA,dx aa.aY),(db,dx aa.aN),(xB,.cells (Dd v55.2.2 fj)),(fj,qg v55.2.2.fA),(UD,CR W3),(b9,uK v26)]⟩) ?_ ?_
         ·refine cB h J (fun h=>?_) (fun h=>?_)
          ·exact tR<|rM J J<|rF J J J<|rL J J .p3 J J<|rF J J J<|ae.qv (aP J J .p2 J J) J<|rF J J J<|rL J J .p2 J J<|ae.qv (dc J J J J J) J<|aW (xs:=([(⟨v51.Key,v55.1.Version,v55.1.cW⟩:cx)]).map cx.av) J J J J J J<|aK h fun S3 Ej h=>dB (g:=cx.av) J J J J J J J J (.list _) Ej (fun _=>(.next (.next (.next (.next (.next .p7)))))) J fun b60=>rA J J<|rN<|ab.stop<|aj.lq [4,4,4,4,4,4,4,4,0,0,2,2] ⟨b60,S3,h,J⟩ J J
          ·exact tK<|ab.stop<|aj.lq [4,4,4,4,4,4,4,4,0,0,2,2] ⟨Gc,AW,h,J⟩ J J
         ·rintro aJ ⟨UD,W3,h,rfl⟩
          unfold gA at h
          refine ab.cH<|tR<|ae.qv (br J J) J<|rM J J<|rN<|ab.stop<|?_
          cases h
          exact zm _ _ J<|aj.lq [0,0,0,0,0,0,0,0,0,0,0,0] ⟨UD,J⟩ J J
       ·exact ab.exit J<|have h:=bZ h xd;ab.stop<|aj.lq [0,0,0,0,0,0,0,0,0,0,0] ⟨Gc,Hc,n43,n44,n45,Kf,AW,h,J⟩ J J
     ·rintro aJ ⟨Ry,BI,n28,n29,n30,yZ,I6,h,rfl⟩
      unfold jn at h
      refine aL<|rM J J<|rA J J<|rN<|ab.ret<|?_
      cases h
      exact hH J [0,0,1,1,1,1,1,0,0,0,0] J ⟨Ry,J,J⟩
theorem zp [GI:bU] {aa ai:MarkS} {r:Int} (h:iv aa ai=some r):Pu Tryz.prog 90 [MarkS.av aa,MarkS.av ai] (I r):=by
 unfold iv at h
 refine aR.bI Tryz.func90 J Tryz.ntmps90 Tryz.results90 J J ?_
 refine aL<|dh J J J J fun b1=>dh J J J J fun b2=>rA J J<|rN<|tS<|ab.dv (id:=1) (A:=[0,1,0,4,15,0,32,0,128,511,1023,2047,4095]) 13 mixed J (by kernel_rfl) (by kernel_rfl)<|AM.qv (ax J J) J<|AM.qv (aM J J .p1 J) J<|AM.qv (ax J J) J<|AM.qv (aM J J .p0 J) J<|AM.gM J (fh J) cR J<|AM.qv (ax J J) J<|AM.qv (aM J J .p1 J) J<|AM.qv (ax J J) J<|AM.qv (aM J J .p0 J) J<|AM.gM J (rz J) cR J<|AM.cI (xs:=([(cmp_Compare_int aa.At ai.At),(Lib.compareBytes aa.Device ai.Device)]:List Int).map I) J J J J J J<|aK h fun v3 e1 h=>AM.gM J (uh e1) cR J<|AM.qv (bQ J) J<|AM.nil<|rN<|ab.ret<|?_
 cases h
 exact hP J J
theorem ui:Ix Tryz.prog 79 6:=⟨fun enc hk h1 cf hO g cb cH off cap d w eg hc hH hb hs=>AnyQ.slices_SortFunc_eq Tryz.L8 6 Tryz.isAgg69 Tryz.sizeOf69 enc hk h1 cf hO g cb cH off cap d w eg hc hH hb hs,fun p cap fv w=>AnyF.slices_SortFunc_none Tryz.L8 p cap fv w⟩
theorem kC [GI:bU] {bO:Bk} {aa:List MarkS} {iD:MarkS→MarkS→Option Int} {dY:FuncId} [bN Tryz.prog dY] {gq:List AV} (oc:∀ {y0 y1:_} {u:Int},iD y0 y1=some u→@Pu nz Tryz.prog dY (MarkS.av y0 :: MarkS.av y1 :: gq) (I u)) {r:(List MarkS)} (h:dI aa iD=some r):aR Tryz.prog 79 [.sl 6 bO 0 aa.length,.func (.func dY) gq] [(bO,.arr 6 (aa.map MarkS.av))] (T0 [(bO,.arr 6 (r.map MarkS.av))] (.lM [])):=
 KG (fn:=iD) ui J @oc (fun _=>J) h
theorem xS [GI:bU] {bO ij:Bk} {bX:Nat→Bk} {gI:Nat→Nat→Bk} {cJ cK cm bW cA db xB fj:Bk} {aa:aB} {ai:aQ} {aH:List DeviceS} {bc:List bj} {ck:Int} {r:(List MarkS)×aQ} (h:iF aa ai aH bc ck=some r):aR Tryz.prog 75 [.ptr bO 0,.ptr xB 0,pI aH,vz bc,I ck] [(bO,.cells [.ch [.str aa.c_.Key,I aa.c_.Target.aA,I aa.c_.Target.aD,I aa.c_.Target.aF,I aa.c_.At,oQ aa.c_.aI,I aa.c_.aZ.bF,I aa.c_.aZ.To,I aa.c_.Room],.bV cJ,.bV cK,.sl 1 cm 0 aa.open_.length,.sl 1 bW 0 aa.bt.length,.sl 1 cA 0 aa.aY.length,.sl 1 db 0 aa.aN.length,I aa.bf,I aa.cw]),(cJ,.mp (aa.nw.map (fun e=>(AV.str e.1,(pA bX) e.2)))),(cK,wT aa.cL),(cm,dx aa.open_),(bW,dx aa.bt),(cA,dx aa.aY),(db,dx aa.aN),(ij,.cu (iK tc bX gI aa.kd)),(xB,.cells (Dd ai fj)),(fj,qg ai.fA)] (T1 (fun np=>[(bO,.cells [.ch [.str aa.c_.Key,I aa.c_.Target.aA,I aa.c_.Target.aD,I aa.c_.Target.aF,I aa.c_.At,oQ aa.c_.aI,I aa.c_.aZ.bF,I aa.c_.aZ.To,I aa.c_.Room],.bV cJ,.bV cK,.sl 1 cm 0 aa.open_.length,.sl 1 bW 0 aa.bt.length,.sl 1 cA 0 aa.aY.length,.sl 1 db 0 aa.aN.length,I aa.bf,I aa.cw]),(cJ,.mp (aa.nw.map (fun e=>(AV.str e.1,(pA bX) e.2)))),(cK,wT aa.cL),(cm,dx aa.open_),(bW,dx aa.bt),(cA,dx aa.aY),(db,dx aa.aN),(ij,.cu (iK tc bX gI aa.kd)),(xB,.cells (Dd r.2 fj)),(fj,qg r.2.fA),(np,tW r.1)]) (fun np=>.sl 6 np 0 r.1.length)):=by
 unfold iF at h
 refine aR.iL ?_
 refine aR.bI Tryz.func75 J Tryz.ntmps75 Tryz.results75 J J ?_
 refine aL<|rA J J<|rN<|aL<|rA J J<|rN<|tS<|aL<|rM J J<|ae.qv (cE J) J<|rM J J<|rN<|ab.block<|ab.cS (fun x:(List MarkS)×Int=>fM aa ai aH bc ck x.1 x.2) (fun x aJ=>∃ (b4:Bk),aJ=⟨87,[(0,.ptr bO 0),(1,.ptr xB 0),(2,pI aH),(3,vz bc),(4,I ck),(11,.sl 6 b4 0 x.1.length),(18,pI aH),(19,I (aH.length:Int)),(20,I x.2)],[(bO,.cells [.ch [.str aa.c_.Key,I aa.c_.Target.aA,I aa.c_.Target.aD,I aa.c_.Target.aF,I aa.c_.At,oQ aa.c_.aI,I aa.c_.aZ.bF,I aa.c_.aZ.To,I aa.c_.Room],.bV cJ,.bV cK,.sl 1 cm 0 aa.open_.length,.sl 1 bW 0 aa.bt.length,.sl 1 cA 0 aa.aY.length,.sl 1 db 0 aa.aN.length,I aa.bf,I aa.cw]),(cJ,.mp (aa.nw.map (fun e=>(AV.str e.1,(pA bX) e.2)))),(ij,.cu (iK tc bX gI aa.kd)),(cK,wT aa.cL),(cm,dx aa.open_),(bW,dx aa.bt),(cA,dx aa.aY),(db,dx aa.aN),(xB,.cells (Dd ai fj)),(fj,qg ai.fA),(b4,tW x.1)]⟩) h ?_ ?_
 ·exact aj.arr (s:=11) 6 J fun b7=>aj.lq [1,1,6,1,1,1,1,1,1,1,0] ⟨b7,J⟩ J J
 ·intro x z1 aJ J1 ep h jF ek
  obtain ⟨l5,n6⟩:=x
  obtain ⟨b4,rfl⟩:=ep
  replace h:fM aa ai aH bc ck l5 n6=some z1:=h
  unfold fM at h
  refine aL<|ae.qv (bT J J) J<|rN<|tS<|cD h J (fun h=>?_) (fun h=>?_)
  ·refine tK<|tS<|ab.block<|aL<|aK h fun v8 e1 h=>ae.qv (bH J J J e1 J J) J<|ae.qv (aO J J J) J<|bA J J J J fun b9=>ar J J J J .p0 J J<|rN<|tS<|ab.dv (id:=5) (A:=[0,1,3,7,0,16,63,127]) 8 mixed J (by kernel_rfl) (by kernel_rfl)<|AM.qv (aT J) J<|AM.qv (az J) J<|AM.qv (ax J J) J<|AM.qv (aM J J .p1 J) J<|AM.qv (ax J J) J<|AM.qv (aM J J .p0 J) J<|Ss h (fun e2 h=>?_) (fun n10 e2 h=>?_)
   ·refine AM.qv (D6 (gk:=AV.str) (gv:=(pA bX)) (M:=aa.nw) (key:=v8.Key) J J .p2 J e2) J<|AM.qv (bQ J) J<|AM.nil<|rN<|tS<|?_
    cases h
   ·refine AM.qv (zZ (gk:=AV.str) (gv:=(pA bX)) (M:=aa.nw) (key:=v8.Key) J J .p2 e2) J<|AM.qv (bQ J) J<|AM.nil<|rN<|tS<|aK h fun v11 e3 h=>ab.lB (id:=6) (A:=[0,0,2,0,8,24,56,127,0,511]) (H0:=[]) (HH:=fun β=>[((β 8),.cells [I 0,.str [],I 0,I 0,I 0,I 0]),(b9,.cells (Rv v8)),(bO,.cells [.ch [.str aa.c_.Key,I aa.c_.Target.aA,I aa.c_.Target.aD,I aa.c_.Target.aF,I aa.c_.At,oQ aa.c_.aI,I aa.c_.aZ.bF,I aa.c_.aZ.To,I aa.c_.Room],.bV cJ,.bV cK,.sl 1 cm 0 aa.open_.length,.sl 1 bW 0 aa.bt.length,.sl 1 cA 0 aa.aY.length,.sl 1 db 0 aa.aN.length,I aa.bf,I aa.cw]),(cJ,.mp (aa.nw.map (fun e=>(AV.str e.1,(pA bX) e.2)))),(ij,.cu (iK tc bX gI aa.kd)),(cK,wT aa.cL),(cm,dx aa.open_),(bW,dx aa.bt),(cA,dx aa.aY),(db,dx aa.aN),(xB,.cells (Dd ai fj)),(fj,qg ai.fA),(b4,tW l5)]) 9 mixed J (by kernel_rfl) (by kernel_rfl) [⟨some 8,none,[],fun b=>(b,.cells [I 0,.str [],I 0,I 0,I 0,I 0]),none,[]⟩] [8] J (by kernel_rfl) J .nil (fun _=>J)<|AT.am 8 J J<|AM.qv (aT J) J<|AM.qv (ax J J) J<|AM.qv (aM J J .p0 J) J<|AM.qv (aT J) J<|AM.qv (az J) J<|AM.qv (ax J J) J<|AM.qv (QV.ara (kb:=tc) e3 .p3 J (aP J J .p0 J J)) J<|AM.qv (dc J J J J J) J<|AM.nil<|AT.zU (V:=fun b=>.ptr b 0) (Ti:=[]) (Pi:=fun b=>[(b,.cells [I 0,.str [],I 0,I 0,I 0,I 0])]) (fun _=>J) (fun _=>J) (fun _ _=>J) J (fun _=>J) J J J ?_ ?_
    ·exact bA J J J J fun kB=>ae.nil ⟨kB,_,J,J⟩
    refine AT.xK (fun _=>J) fun β=>?_
    generalize β 8=kB
    clear β
    refine ar J J J J .p0 J J<|rN<|aL<|rM J J<|ae.qv (az J) J<|rF J J J<|rF J J J<|ae.qv (QV.ara (kb:=tc) e3 .p4 J (aM J J .p0 J)) J<|rN<|ab.block<|aL<|ae.qv (dt J J) J<|rA J J<|rN<|ab.cut (fun aJ=>∃ (Ae:Bk) (oK:List MarkS),fI n6 oK=some z1∧aJ=⟨87,[(0,.ptr bO 0),(1,.ptr xB 0),(2,pI aH),(3,vz bc),(4,I ck),(11,.sl 6 Ae 0 oK.length),(18,pI aH),(19,I (aH.length:Int)),(20,I n6)],[(bO,.cells [.ch [.str aa.c_.Key,I aa.c_.Target.aA,I aa.c_.Target.aD,I aa.c_.Target.aF,I aa.c_.At,oQ aa.c_.aI,I aa.c_.aZ.bF,I aa.c_.aZ.To,I aa.c_.Room],.bV cJ,.bV cK,.sl 1 cm 0 aa.open_.length,.sl 1 bW 0 aa.bt.length,.sl 1 cA 0 aa.aY.length,.sl 1 db 0 aa.aN.length,I aa.bf,I aa.cw]),(cJ,.mp (aa.nw.map (fun e=>(AV.str e.1,(pA bX) e.2)))),(ij,.cu (iK tc bX gI aa.kd)),(cK,wT aa.cL),(cm,dx aa.open_),(bW,dx aa.bt),(cA,dx aa.aY),(db,dx aa.aN),(xB,.cells (Dd ai fj)),(fj,qg ai.fA),(Ae,tW oK)]⟩) ?_ ?_
    ·refine cD h J (fun h=>?_) (fun h=>?_)
     ·refine aL<|rF J J J<|ar J J J J .p0 J J<|rN<|tS<|aL<|rM J J<|rF J J J<|rL J J .p1 J J<|aK h fun CQ e4 h=>ba J (dW e4) cR J<|rN<|ab.cut (fun aJ=>∃ (n16:Int),fJ ck l5 n6 v8 v11 n16=some z1∧aJ=⟨87,[(0,.ptr bO 0),(1,.ptr xB 0),(2,pI aH),(3,vz bc),(4,I ck),(11,.sl 6 b4 0 l5.length),(15,.ptr kB 0),(18,pI aH),(19,I (aH.length:Int)),(20,I n6)],[(bO,.cells [.ch [.str aa.c_.Key,I aa.c_.Target.aA,I aa.c_.Target.aD,I aa.c_.Target.aF,I aa.c_.At,oQ aa.c_.aI,I aa.c_.aZ.bF,I aa.c_.aZ.To,I aa.c_.Room],.bV cJ,.bV cK,.sl 1 cm 0 aa.open_.length,.sl 1 bW 0 aa.bt.length,.sl 1 cA 0 aa.aY.length,.sl 1 db 0 aa.aN.length,I aa.bf,I aa.cw]),(cJ,.mp (aa.nw.map (fun e=>(AV.str e.1,(pA bX) e.2)))),(ij,.cu (iK tc bX gI aa.kd)),(cK,wT aa.cL),(cm,dx aa.open_),(bW,dx aa.bt),(cA,dx aa.aY),(db,dx aa.aN),(xB,.cells (Dd ai fj)),(fj,qg ai.fA),(b4,tW l5),(kB,.cells [I ck,.str v8.Key,I n16,I v11.aX.aA,I v11.aX.aD,I v11.aX.aF])]⟩) ?_ ?_
      ·refine cB h J (fun h=>?_) (fun h=>?_)
       ·exact tR<|rF J J J<|ar J J J J .p0 J J<|rN<|ab.stop<|aj.lq [2,2,2,2,2,2,2,2,2,2,2,0] ⟨4,h,J⟩ J J
       ·exact tK<|ab.stop<|aj.lq [2,2,2,2,2,2,2,2,2,2,2,0] ⟨3,h,J⟩ J J
      ·rintro aJ ⟨n16,h,rfl⟩
       unfold fJ at h
       exact tR<|rM J J<|ae.qv (aG J J (.next (.next (.next (.next .p7)))) J) J<|aW (xs:=([(⟨ck,v8.Key,n16,v11.aX⟩:MarkS)]).map MarkS.av) J J J J J J<|aK h fun wS e5 h=>dB (g:=MarkS.av) J J J J J J J J (.list _) e5 (fun _=>(.next (.next (.next .p7)))) J fun Je=>rA J J<|rN<|ab.stop<|aj.lq [0,0,0,0,0,0,0,0,0,0,0] ⟨Je,wS,h,J⟩ J J
     ·refine aL<|ae.qv (dt J J) J<|rA J J<|rN<|ab.cut (fun aJ=>∃ (vf:Bk) (jS:List MarkS),iw n6 jS=some z1∧aJ=⟨87,[(0,.ptr bO 0),(1,.ptr xB 0),(2,pI aH),(3,vz bc),(4,I ck),(11,.sl 6 vf 0 jS.length),(18,pI aH),(19,I (aH.length:Int)),(20,I n6)],[(bO,.cells [.ch [.str aa.c_.Key,I aa.c_.Target.aA,I aa.c_.Target.aD,I aa.c_.Target.aF,I aa.c_.At,oQ aa.c_.aI,I aa.c_.aZ.bF,I aa.c_.aZ.To,I aa.c_.Room],.bV cJ,.bV cK,.sl 1 cm 0 aa.open_.length,.sl 1 bW 0 aa.bt.length,.sl 1 cA 0 aa.aY.length,.sl 1 db 0 aa.aN.length,I aa.bf,I aa.cw]),(cJ,.mp (aa.nw.map (fun e=>(AV.str e.1,(pA bX) e.2)))),(ij,.cu (iK tc bX gI aa.kd)),(cK,wT aa.cL),(cm,dx aa.open_),(bW,dx aa.bt),(cA,dx aa.aY),(db,dx aa.aN),(xB,.cells (Dd ai fj)),(fj,qg ai.fA),(vf,tW jS)]⟩) ?_ ?_
      ·refine cD h J (fun h=>?_) (fun h=>?_)
       ·exact aL<|rF J J J<|ar J J J J .p0 J J<|rN<|tR<|rM J J<|ae.qv (aG J J .p0 J) J<|aW (xs:=([(⟨ck,v8.Key,2,v11.aX⟩:MarkS)]).map MarkS.av) J J J J J J<|aK h fun Cs e6 h=>dB (g:=MarkS.av) J J J J J J J J (.list _) e6 (fun _=>(.next (.next (.next (.next (.next .p7)))))) J fun Rx=>rA J J<|rN<|ab.stop<|aj.lq [2,2,2,2,2,2,2,2,2,2,2] ⟨Rx,Cs,h,J⟩ J J
       ·exact tK<|ab.stop<|aj.lq [2,2,2,2,2,2,2,2,2,2,2] ⟨b4,l5,h,J⟩ J J
      ·rintro aJ ⟨vf,jS,h,rfl⟩
       unfold iw at h
       exact ab.stop<|aj.lq [0,0,0,0,0,0,0,0,0,0,0] ⟨vf,jS,h,J⟩ J J
    ·rintro aJ ⟨Ae,oK,h,rfl⟩
     unfold fI at h
     refine ab.cH<|ab.cH<|tR<|ae.qv (br J J) J<|rM J J<|rN<|ab.stop<|?_
     cases h
     exact jF _ _ J<|aj.lq [0,0,0,0,0,0,0,0,0,0,0] ⟨Ae,J⟩ J J
  ·refine ab.exit J<|have h:=bZ h ek;?_
   unfold iy at h
   refine tS<|aL<|rM J J<|rM J J<|rM J J<|rM J J<|aK h fun v23 e7 h=>jH J (wF e7) cR (.cons .p0 (.cons .p0 (.cons .p1 (.cons .p1 (.cons .p1 (.cons .p1 (.cons .p1 (.cons .p0 (.cons .p0 (.cons .p0 .nil)))))))))) (fun _=>J) J fun u4=>ae.qv (dH J) J<|rM J J<|rN<|ab.block<|ab.cS (fun x:(List MarkS)×Int=>fL ck v23 x.1 x.2) (fun x aJ=>∃ (Jd:Bk),aJ=⟨87,[(4,I ck),(11,.sl 6 Jd 0 x.1.length),(68,.sl 5 u4 0 v23.1.length),(69,I (v23.1.length:Int)),(70,I x.2)],[(bO,.cells [.ch [.str aa.c_.Key,I aa.c_.Target.aA,I aa.c_.Target.aD,I aa.c_.Target.aF,I aa.c_.At,oQ aa.c_.aI,I aa.c_.aZ.bF,I aa.c_.aZ.To,I aa.c_.Room],.bV cJ,.bV cK,.sl 1 cm 0 aa.open_.length,.sl 1 bW 0 aa.bt.length,.sl 1 cA 0 aa.aY.length,.sl 1 db 0 aa.aN.length,I aa.bf,I aa.cw]),(cJ,.mp (aa.nw.map (fun e=>(AV.str e.1,(pA bX) e.2)))),(ij,.cu (iK tc bX gI aa.kd)),(cK,wT aa.cL),(cm,dx aa.open_),(bW,dx aa.bt),(cA,dx aa.aY),(db,dx aa.aN),(xB,.cells (Dd v23.2 fj)),(fj,qg v23.2.fA),(Jd,tW x.1),(u4,CR v23.1)]⟩) h ?_ ?_
   ·exact aj.lq [0,0,5,0,0,0,0,0,0,0,1,0] ⟨b4,J⟩ J J
   ·intro x z2 aJ J2 ep h zm xd
    obtain ⟨E0,n30⟩:=x
    obtain ⟨Jd,rfl⟩:=ep
    replace h:fL ck v23 E0 n30=some z2:=h
    unfold fL at h
    refine aL<|ae.qv (bT J J) J<|rN<|tS<|cD h J (fun h=>?_) (fun h=>?_)
    ·refine tK<|tS<|ab.block<|aL<|aK h fun v31 e8 h=>ae.qv (bB J J J e8) J<|ae.qv (cq (g:=cx.av) J J (.inl (.next (.next (.next (.next .p7))))) J e8 J) J<|bA J J J J fun Ry=>ar J J J J .p0 J J<|rN<|tR<|rM J J<|rM J J<|rF J J J<|rL J J .p0 J J<|rF J J J<|ae.qv (aP J J .p0 J J) J<|ae.qv (dc J J J J J) J<|aW (xs:=([(⟨ck,v31.Device,1,v31.Version⟩:MarkS)]).map MarkS.av) J J J J J J<|aK h fun I6 e9 h=>dB (g:=MarkS.av) J J J J J J J J (.list _) e9 (fun _=>(.next (.next (.next (.next .p7))))) J fun UC=>rA J J<|rN<|ab.cH<|tR<|ae.qv (br J J) J<|rM J J<|rN<|ab.stop<|?_
     cases h
     exact zm _ _ J<|aj.lq [1,1,1,1,1,1,1,1,1,1,1,1] ⟨UC,J⟩ J J
    ·refine ab.exit J<|have h:=bZ h xd;?_
     unfold fK at h
     refine aL<|rM J J<|aK h fun v35 Ad h=>bC J (kC (fun e=>zp (GI:=nz) e) (tZ Ad)) cR (.cons (.next (.next (.next .p7))) .nil) J J<|ae.ghost<|aj.eqs (s:=11) (iI:=.sl 6 Jd 0 v35.length) J (congrArg (AV.sl 6 Jd 0) (jI Ad))<|aj.here<|ae.ghost<|aj.eqs (s:=84) (iI:=.sl 6 Jd 0 v35.length) J (congrArg (AV.sl 6 Jd 0) (jI Ad))<|aj.here<|rN<|aL<|rM J J<|rA J J<|rN<|ab.ret<|?_
     cases h
     exact hH J [1,1,2,2,2,2,2,1,1,1,0] J ⟨Jd,J,J⟩
theorem vQ [GI:bU] {bO:Bk} {aa:aq} {ai:MarkS} {r:Bool×aq} (h:aU aa ai=r):aR Tryz.prog 115 [.ptr bO 0,MarkS.av ai] [(bO,.cells [I aa.an.Kind,I aa.an.Since,I aa.an.Version.aA,I aa.an.Version.aD,I aa.an.Version.aF,I aa.an.ed,I aa.aX.aA,I aa.aX.aD,I aa.aX.aF])] (T0 ([(bO,.cells [I r.2.an.Kind,I r.2.an.Since,I r.2.an.Version.aA,I r.2.an.Version.aD,I r.2.an.Version.aF,I r.2.an.ed,I r.2.aX.aA,I r.2.aX.aD,I r.2.aX.aF])]) (.bool r.1)):=by
 unfold aU at h
 refine aR.iL ?_
 refine aR.bI Tryz.func115 J Tryz.ntmps115 Tryz.results115 J J ?_
 refine aL<|dh J J J J fun b1=>rA J J<|rN<|tS<|ab.dv (id:=1) (A:=[0,1,0,4,12,28,63,127]) 8 mixed J (by kernel_rfl) (by kernel_rfl)<|AM.qv (ax J J) J<|AM.qv (aP J J .p0 J J) J<|AM.qv (aT J) J<|AM.qv (az J) J<|AM.qv (ax J J) J<|AM.qv (aP J J .p1 J J) J<|AM.qv (DH (g:=Version.av) (X:=ai.Version) (Y:=aa.aX) J J J J J) J<|AM.qv (bQ J) J<|AM.nil<|rN<|aL<|rA J J<|rN<|tS<|aL<|rF J J J<|rL J J .p0 J J<|rN<|ab.block<|aL<|ae.qv (dt J J) J<|rA J J<|rN<|ab.cut (fun aJ=>∃ (c2:Bool),eu aa ai c2=r∧aJ=⟨101,[(0,.ptr bO 0),(3,.ptr b1 0),(6,.bool c2)],[(bO,.cells [I aa.an.Kind,I aa.an.Since,I aa.an.Version.aA,I aa.an.Version.aD,I aa.an.Version.aF,I aa.an.ed,I aa.aX.aA,I aa.aX.aD,I aa.aX.aF]),(b1,.cells [I ai.At,.str ai.Device,I ai.Kind,I ai.Version.aA,I ai.Version.aD,I ai.Version.aF])]⟩) ?_ ?_
 ·refine cD h J (fun h=>?_) (fun h=>?_)
  ·refine ab.cut (fun aJ=>∃ (c3:Bool),iS aa ai c3=r∧aJ=⟨101,[(0,.ptr bO 0),(3,.ptr b1 0),(6,.bool c3)],[(bO,.cells [I aa.an.Kind,I aa.an.Since,I aa.an.Version.aA,I aa.an.Version.aD,I aa.an.Version.aF,I aa.an.ed,I aa.aX.aA,I aa.aX.aD,I aa.aX.aF]),(b1,.cells [I ai.At,.str ai.Device,I ai.Kind,I ai.Version.aA,I ai.Version.aD,I ai.Version.aF])]⟩) ?_ ?_
   ·refine tR<|rM J J<|ae.qv (az J) J<|rF J J J<|rF J J J<|rL J J .p1 J J<|ae.qv (dt J J) J<|rM J J<|ae.dA J J J (fun hc=>?_) (fun hc=>?_)
    ·rw [we hc] at h
     refine rM J J<|rY J J J<|ae.qv (az J) J<|rY J J J<|rF J J J<|rY J J J<|rF J J J<|rY J J J<|rL J J .p1 J J<|rY J J J<|ae.qv (dt J J) J<|rE J J J<|rM J J<|ae.dA J J J (fun hc=>?_) (fun hc=>?_)
     ·rw [we hc] at h
      exact rM J J<|rY J J J<|ae.qv (az J) J<|rY J J J<|rF J J J<|rY J J J<|rF J J J<|rY J J J<|rL J J .p1 J J<|rY J J J<|ae.qv (dt J J) J<|rE J J J<|rA J J<|rN<|ab.stop<|aj.lq [1,0] ⟨decide (aa.an.Kind=4),h,J⟩ J J
     ·rw [wc hc] at h
      exact rG J J J J<|rG J J J J<|rG J J J J<|rG J J J J<|rG J J J J<|rT J J J<|rA J J<|rN<|ab.stop<|aj.lq [1,0] ⟨true,h,J⟩ J J
    ·rw [wc hc] at h
     exact rG J J J J<|rG J J J J<|rG J J J J<|rG J J J J<|rG J J J J<|rT J J J<|rM J J<|rG J J J J<|rG J J J J<|rG J J J J<|rG J J J J<|rG J J J J<|rG J J J J<|rT J J J<|rA J J<|rN<|ab.stop<|aj.lq [1,0] ⟨true,h,J⟩ J J
   ·rintro aJ ⟨c3,h,rfl⟩
    unfold iS at h
    exact ab.stop<|aj.lq [0,0] ⟨c3,h,J⟩ J J
  ·refine tS<|aL<|ae.qv (dt J J) J<|rA J J<|rN<|ab.cut (fun aJ=>∃ (c4:Bool),gd aa ai c4=r∧aJ=⟨101,[(0,.ptr bO 0),(3,.ptr b1 0),(5,.bool (decide (ai.Version=aa.aX))),(49,.bool c4)],[(bO,.cells [I aa.an.Kind,I aa.an.Since,I aa.an.Version.aA,I aa.an.Version.aD,I aa.an.Version.aF,I aa.an.ed,I aa.aX.aA,I aa.aX.aD,I aa.aX.aF]),(b1,.cells [I ai.At,.str ai.Device,I ai.Kind,I ai.Version.aA,I ai.Version.aD,I ai.Version.aF])]⟩) ?_ ?_
   ·refine cD h J (fun h=>?_) (fun h=>?_)
    ·exact tK<|ab.stop<|aj.lq [1,0] ⟨decide (ai.Kind=2),h,J⟩ J J
    ·exact tR<|ae.qv (dt J J) J<|rA J J<|rN<|ab.stop<|aj.lq [1,0] ⟨decide (ai.Kind=5),h,J⟩ J J
   ·rintro aJ ⟨c4,h,rfl⟩
    unfold gd at h
    refine ab.cut (fun aJ=>∃ (c5:Bool),gb aa ai c5=r∧aJ=⟨101,[(0,.ptr bO 0),(3,.ptr b1 0),(6,.bool c5)],[(bO,.cells [I aa.an.Kind,I aa.an.Since,I aa.an.Version.aA,I aa.an.Version.aD,I aa.an.Version.aF,I aa.an.ed,I aa.aX.aA,I aa.aX.aD,I aa.aX.aF]),(b1,.cells [I ai.At,.str ai.Device,I ai.Kind,I ai.Version.aA,I ai.Version.aD,I ai.Version.aF])]⟩) ?_ ?_
    ·refine cB h J (fun h=>?_) (fun h=>?_)
     ·refine ab.cut (fun aJ=>∃ (c6:Bool),iT aa ai c6=r∧aJ=⟨101,[(0,.ptr bO 0),(3,.ptr b1 0),(6,.bool c6)],[(bO,.cells [I aa.an.Kind,I aa.an.Since,I aa.an.Version.aA,I aa.an.Version.aD,I aa.an.Version.aF,I aa.an.ed,I aa.aX.aA,I aa.aX.aD,I aa.aX.aF]),(b1,.cells [I ai.At,.str ai.Device,I ai.Kind,I ai.Version.aA,I ai.Version.aD,I ai.Version.aF])]⟩) ?_ ?_
      ·refine tR<|rM J J<|ae.qv (az J) J<|rF J J J<|rF J J J<|rL J J .p0 J J<|ae.qv (dt J J) J<|rM J J<|ae.dJ J J J (fun hc=>?_) (fun hc=>?_)
       ·rw [uE hc] at h
        exact rM J J<|rT J J J<|rA J J<|rN<|ab.stop<|aj.lq [0,0] ⟨decide (ai.Version=aa.aX),h,J⟩ J J
       ·rw [uF hc] at h
        exact rE J J J<|rA J J<|rN<|ab.stop<|aj.lq [0,0] ⟨false,h,J⟩ J J
      ·rintro aJ ⟨c6,h,rfl⟩
       unfold iT at h
       exact ab.stop<|aj.lq [0,0] ⟨c6,h,J⟩ J J
     ·refine ab.cut (fun aJ=>∃ (c7:Bool),iU aa ai c7=r∧aJ=⟨101,[(0,.ptr bO 0),(3,.ptr b1 0),(6,.bool c7)],[(bO,.cells [I aa.an.Kind,I aa.an.Since,I aa.an.Version.aA,I aa.an.Version.aD,I aa.an.Version.aF,I aa.an.ed,I aa.aX.aA,I aa.aX.aD,I aa.aX.aF]),(b1,.cells [I ai.At,.str ai.Device,I ai.Kind,I ai.Version.aA,I ai.Version.aD,I ai.Version.aF])]⟩) ?_ ?_
      ·refine tR<|rM J J<|ae.qv (az J) J<|rF J J J<|rF J J J<|rL J J .p0 J J<|ae.qv (dt J J) J<|rM J J<|ae.dJ J J J (fun hc=>?_) (fun hc=>?_)
       ·rw [uE hc] at h
        exact rM J J<|rT J J J<|rA J J<|rN<|ab.stop<|aj.lq [0,0] ⟨decide (ai.Version=aa.aX),h,J⟩ J J
       ·rw [uF hc] at h
        exact rE J J J<|rA J J<|rN<|ab.stop<|aj.lq [0,0] ⟨false,h,J⟩ J J
      ·rintro aJ ⟨c7,h,rfl⟩
       unfold iU at h
       exact ab.stop<|aj.lq [0,0] ⟨c7,h,J⟩ J J
    ·rintro aJ ⟨c5,h,rfl⟩
     unfold gb at h
     exact ab.stop<|aj.lq [0,0] ⟨c5,h,J⟩ J J
 ·rintro aJ ⟨c2,h,rfl⟩
  unfold eu at h
  refine ab.cH<|tS<|aL<|rM J J<|ae.qv (cV J) J<|rN<|cB h J (fun h=>?_) (fun h=>?_)
  ·refine aL<|rA J J<|rN<|ab.ret<|?_
   obtain rfl:=h
   exact hH J [0] J ⟨J,J⟩
  ·refine tK<|tS<|ab.lB (id:=12) (A:=[0,0,0,0,8,0,32,0,128,25,537,1561,3609,7803,15995,32379,65147,131071,262143,524287]) (H0:=[(bO,.cells [I aa.an.Kind,I aa.an.Since,I aa.an.Version.aA,I aa.an.Version.aD,I aa.an.Version.aF,I aa.an.ed,I aa.aX.aA,I aa.aX.aD,I aa.aX.aF])]) (HH:=fun β=>[(bO,.cells [I ai.Kind,I ai.At,I aa.an.Version.aA,I aa.an.Version.aD,I aa.an.Version.aF,I aa.an.ed,I aa.aX.aA,I aa.aX.aD,I aa.aX.aF]),(b1,.cells [I ai.At,.str ai.Device,I ai.Kind,I ai.Version.aA,I ai.Version.aD,I ai.Version.aF])]) 17 mixed J (by kernel_rfl) (by kernel_rfl) [⟨none,some 12,[],fun _=>(bO,.cells [I aa.an.Kind,I aa.an.Since,I aa.an.Version.aA,I aa.an.Version.aD,I aa.an.Version.aF,I aa.an.ed,I aa.aX.aA,I aa.aX.aD,I aa.aX.aF]),none,[]⟩,⟨some 12,some 16,[],fun _=>(bO,.cells [I ai.Kind,I aa.an.Since,I aa.an.Version.aA,I aa.an.Version.aD,I aa.an.Version.aF,I aa.an.ed,I aa.aX.aA,I aa.aX.aD,I aa.aX.aF]),none,[]⟩,⟨some 16,none,[],fun _=>(bO,.cells [I ai.Kind,I ai.At,I aa.an.Version.aA,I aa.an.Version.aD,I aa.an.Version.aF,I aa.an.ed,I aa.aX.aA,I aa.aX.aD,I aa.aX.aF]),none,[]⟩] [] J (by kernel_rfl) J (.cons .p0 .nil) (fun _=>J)<|AT.am 12 J J<|AM.qv (aT J) J<|AM.qv (aT J) J<|AM.qv (aT J) J<|AM.qv (ax J J) J<|AM.qv (aM J J .p0 J) J<|AM.qv (ax J J) J<|AM.qv (aM J J .p0 J) J<|AM.qv (ax J J) J<|AM.qv (aP J J .p0 J J) J<|AM.qv (az J) J<|AM.qv (ax J J) J<|AM.qv (ax J J) J<|AM.nil<|AT.M9 (Ti:=[(bO,.cells [I aa.an.Kind,I aa.an.Since,I aa.an.Version.aA,I aa.an.Version.aD,I aa.an.Version.aF,I aa.an.ed,I aa.aX.aA,I aa.aX.aD,I aa.aX.aF])]) (Pi:=[(bO,.cells [I ai.Kind,I aa.an.Since,I aa.an.Version.aA,I aa.an.Version.aD,I aa.an.Version.aF,I aa.an.ed,I aa.aX.aA,I aa.aX.aD,I aa.aX.aF])]) (fun _=>J) (fun _=>J) (fun _=>J) J J ?_ ?_
   ·exact ar J J J J .p0 J J<|ae.nil ⟨_,J⟩
   refine AT.am 3 J J<|AM.qv (az J) J<|AM.qv (ax J J) J<|AM.qv (ax J J) J<|AM.nil<|AT.M9 (Ti:=[(bO,.cells [I ai.Kind,I aa.an.Since,I aa.an.Version.aA,I aa.an.Version.aD,I aa.an.Version.aF,I aa.an.ed,I aa.aX.aA,I aa.aX.aD,I aa.aX.aF])]) (Pi:=[(bO,.cells [I ai.Kind,I ai.At,I aa.an.Version.aA,I aa.an.Version.aD,I aa.an.Version.aF,I aa.an.ed,I aa.aX.aA,I aa.aX.aD,I aa.aX.aF])]) (fun _=>J) (fun _=>J) (fun _=>J) J J ?_ ?_
   ·exact ar J J J J .p0 J J<|ae.nil ⟨_,J⟩
   refine AT.xK (fun _=>J) fun β=>ae.qv (az J) J<|rF J J J<|ar J J J J .p0 J J<|rN<|tS<|aL<|rF J J J<|rL J J .p1 J J<|rN<|ab.block<|aL<|ae.qv (dt J J) J<|rA J J<|rN<|ab.cut (fun aJ=>∃ (n8:Int) (n9:Int) (n10:Int) (n11:Int),fZ ai n8 n9 n10 n11=r∧aJ=⟨101,[],[(bO,.cells [I ai.Kind,I ai.At,I n8,I n9,I n10,I n11,I ai.Version.aA,I ai.Version.aD,I ai.Version.aF])]⟩) ?_ ?_
   ·refine cD h J (fun h=>?_) (fun h=>?_)
    ·exact tR<|rM J J<|rF J J J<|ae.qv (aP J J .p1 J J) J<|ae.qv (az J) J<|rF J J J<|rF J J J<|ar J J J J .p0 J J<|rN<|ab.stop<|aj.lq [0] ⟨ai.Version.aA,ai.Version.aD,ai.Version.aF,aa.an.ed,h,J⟩ J J
    ·refine aL<|ae.qv (dt J J) J<|rA J J<|rN<|ab.cut (fun aJ=>∃ (n12:Int),ga aa ai n12=r∧aJ=⟨101,[],[(bO,.cells [I ai.Kind,I ai.At,I aa.an.Version.aA,I aa.an.Version.aD,I aa.an.Version.aF,I n12,I ai.Version.aA,I ai.Version.aD,I ai.Version.aF])]⟩) ?_ ?_
     ·refine cD h J (fun h=>?_) (fun h=>?_)
      ·exact tR<|rM J J<|ae.qv (az J) J<|rF J J J<|rF J J J<|rL J J .p0 J J<|ae.qv (br J J) J<|ae.qv (az J) J<|rF J J J<|rF J J J<|ar J J J J .p0 J J<|rN<|ab.stop<|aj.lq [0] ⟨bE (aa.an.ed+1),h,J⟩ J J
      ·exact tK<|ab.stop<|aj.lq [0] ⟨aa.an.ed,h,J⟩ J J
     ·rintro aJ ⟨n12,h,rfl⟩
      unfold ga at h
      exact ab.stop<|aj.lq [0] ⟨aa.an.Version.aA,aa.an.Version.aD,aa.an.Version.aF,n12,h,J⟩ J J
   ·rintro aJ ⟨n8,n9,n10,n11,h,rfl⟩
    unfold fZ at h
    refine ab.cH<|aL<|rA J J<|rN<|ab.ret<|?_
    obtain rfl:=h
    exact hH J [0] J ⟨J,J⟩
theorem xT [GI:bU] {bO ij:Bk} {bX:Nat→Bk} {gI:Nat→Nat→Bk} {cJ cK cm bW cA db:Bk} {aa:aB} {ai:MarkS} {r:aB} (h:dw aa ai=some r):aR Tryz.prog 76 [.ptr bO 0,MarkS.av ai] [(bO,.cells [.ch [.str aa.c_.Key,I aa.c_.Target.aA,I aa.c_.Target.aD,I aa.c_.Target.aF,I aa.c_.At,oQ aa.c_.aI,I aa.c_.aZ.bF,I aa.c_.aZ.To,I aa.c_.Room],.bV cJ,.bV cK,.sl 1 cm 0 aa.open_.length,.sl 1 bW 0 aa.bt.length,.sl 1 cA 0 aa.aY.length,.sl 1 db 0 aa.aN.length,I aa.bf,I aa.cw]),(cJ,.mp (aa.nw.map (fun e=>(AV.str e.1,(pA bX) e.2)))),(cK,wT aa.cL),(cm,dx aa.open_),(bW,dx aa.bt),(cA,dx aa.aY),(db,dx aa.aN),(ij,.cu (iK tc bX gI aa.kd))] (T5 (fun Em En Eo Ep PY=>[(bO,.cells [.ch [.str aa.c_.Key,I aa.c_.Target.aA,I aa.c_.Target.aD,I aa.c_.Target.aF,I aa.c_.At,oQ aa.c_.aI,I aa.c_.aZ.bF,I aa.c_.aZ.To,I aa.c_.Room],.bV cJ,.bV cK,.sl 1 Em 0 r.open_.length,.sl 1 En 0 r.bt.length,.sl 1 Eo 0 r.aY.length,.sl 1 Ep 0 r.aN.length,I r.bf,I r.cw]),(cJ,.mp (r.nw.map (fun e=>(AV.str e.1,(pA bX) e.2)))),(cK,wT r.cL),(Em,dx r.open_),(En,dx r.bt),(Eo,dx r.aY),(Ep,dx r.aN),(ij,.cu (iK tc bX PY r.kd))]) (fun Em En Eo Ep PY=>.lM [])):=by
 unfold dw at h
 refine aR.iL ?_
 refine aR.bI Tryz.func76 J Tryz.ntmps76 Tryz.results76 J J ?_
 refine aL<|dh J J J J fun b1=>rN<|tS<|ab.dv (id:=1) (A:=[0,1,3,7,0,16,63,127,255,255,511,2047]) 12 mixed J (by kernel_rfl) (by kernel_rfl)<|AM.qv (aT J) J<|AM.qv (az J) J<|AM.qv (ax J J) J<|AM.qv (aM J J .p1 J) J<|AM.qv (ax J J) J<|AM.qv (aM J J .p0 J) J<|Ss h (fun e1 h=>?_) (fun n2 e1 h=>?_)
 ·refine AM.qv (KZ (gk:=AV.str) (gv:=(pA bX)) (M:=aa.nw) (key:=ai.Device) J J .p2 J e1) J<|AM.qv (aT J) J<|AM.qv (jG J J) J<|AM.qv (jG J J) J<|AM.qv (bQ J) J<|AM.qv (bQ J) J<|AM.nil<|rN<|tS<|tS<|ab.cut (fun aJ=>∃ (c3:Bool),ko aa ai c3=some r∧aJ=⟨165,[(0,.ptr bO 0),(3,.ptr b1 0),(4,.raw (.pointer none)),(33,.bool c3)],[(bO,.cells [.ch [.str aa.c_.Key,I aa.c_.Target.aA,I aa.c_.Target.aD,I aa.c_.Target.aF,I aa.c_.At,oQ aa.c_.aI,I aa.c_.aZ.bF,I aa.c_.aZ.To,I aa.c_.Room],.bV cJ,.bV cK,.sl 1 cm 0 aa.open_.length,.sl 1 bW 0 aa.bt.length,.sl 1 cA 0 aa.aY.length,.sl 1 db 0 aa.aN.length,I aa.bf,I aa.cw]),(cJ,.mp (aa.nw.map (fun e=>(AV.str e.1,(pA bX) e.2)))),(ij,.cu (iK tc bX gI aa.kd)),(cK,wT aa.cL),(cm,dx aa.open_),(bW,dx aa.bt),(cA,dx aa.aY),(db,dx aa.aN),(b1,.cells [I ai.At,.str ai.Device,I ai.Kind,I ai.Version.aA,I ai.Version.aD,I ai.Version.aF])]⟩) ?_ ?_
  ·refine ab.dv (id:=2) (A:=[0,1,3,7,15,7,39,103,231,487,999,2023,4095,8191]) 14 mixed J (by kernel_rfl) (by kernel_rfl)<|AM.qv (aT J) J<|AM.qv (cV J) J<|AM.qv (aT J) J<|AM.guard J J J (fun hc=>?_) (fun hc=>?_)
   ·rw [va hc] at h
    exact AM.qv (ax J J) J<|AM.ay J J J<|AM.qv (aM J J .p0 J) J<|AM.ay J J J<|AM.qv (aT J) J<|AM.ay J J J<|AM.qv (az J) J<|AM.ay J J J<|AM.qv (ax J J) J<|AM.ay J J J<|AM.qv (aM J J .p1 J) J<|AM.ay J J J<|AM.qv (bL J) J<|AM.ay J J J<|AM.qv (bq J J) J<|AM.ay J J J<|AM.qv (aS J J J) J<|AM.ay J J J<|AM.qv (bT J J) J<|AM.qv (eA J J) J<|AM.nil<|rN<|ab.stop<|aj.lq [1,1,6,1,1,1,1,1,0] ⟨decide (ai.At < aa.c_.At),h,J⟩ J J
   ·rw [u9 hc] at h
    exact AM.au J J J J<|AM.au J J J J<|AM.au J J J J<|AM.au J J J J<|AM.au J J J J<|AM.au J J J J<|AM.au J J J J<|AM.au J J J J<|AM.au J J J J<|AM.qv (gx J J) J<|AM.nil<|rN<|ab.stop<|aj.lq [1,1,6,1,1,1,1,1,0] ⟨true,h,J⟩ J J
  ·rintro aJ ⟨c3,h,rfl⟩
   unfold ko at h
   refine cB h J (fun h=>?_) (fun h=>?_)
   ·refine ab.ret<|?_
    cases h
    exact aj.here ⟨_,.nil,_,.cons .p0 (.cons .p0 (.cons .p1 (.cons .p1 (.cons .p1 (.cons .p1 (.cons .p1 (.cons .p0 .nil))))))),⟨cm,bW,cA,db,gI,J,J⟩⟩
   ·refine tK<|tS<|ab.dv (id:=3) (A:=[0,1,3,7,0,16,63,127]) 8 mixed J (by kernel_rfl) (by kernel_rfl)<|AM.qv (aT J) J<|AM.qv (az J) J<|AM.qv (ax J J) J<|AM.qv (aM J J .p0 J) J<|AM.qv (ax J J) J<|AM.qv (aM J J (.next .p7) J) J<|aK h fun v4 e2 h=>AM.qv (AL (gk:=AV.str) (gv:=I) (M:=aa.cL) (key:=ai.Device) (Z:=0) J J .p3 J J J e2 J) J<|AM.qv (bQ J) J<|AM.nil<|rN<|aL<|rM J J<|rM J J<|?_
    cases h
 ·refine AM.qv (K1 (gk:=AV.str) (gv:=(pA bX)) (M:=aa.nw) (key:=ai.Device) J J .p2 e1) J<|AM.qv (aT J) J<|AM.qv (jG J J) J<|AM.qv (jG J J) J<|AM.qv (bQ J) J<|AM.qv (bQ J) J<|AM.nil<|rN<|tS<|tS<|ab.cut (fun aJ=>∃ (c5:Bool),iA aa ai n2 c5=some r∧aJ=⟨165,[(0,.ptr bO 0),(3,.ptr b1 0),(4,.ptr (bX n2.toNat) 0),(33,.bool c5)],[(bO,.cells [.ch [.str aa.c_.Key,I aa.c_.Target.aA,I aa.c_.Target.aD,I aa.c_.Target.aF,I aa.c_.At,oQ aa.c_.aI,I aa.c_.aZ.bF,I aa.c_.aZ.To,I aa.c_.Room],.bV cJ,.bV cK,.sl 1 cm 0 aa.open_.length,.sl 1 bW 0 aa.bt.length,.sl 1 cA 0 aa.aY.length,.sl 1 db 0 aa.aN.length,I aa.bf,I aa.cw]),(cJ,.mp (aa.nw.map (fun e=>(AV.str e.1,(pA bX) e.2)))),(ij,.cu (iK tc bX gI aa.kd)),(cK,wT aa.cL),(cm,dx aa.open_),(bW,dx aa.bt),(cA,dx aa.aY),(db,dx aa.aN),(b1,.cells [I ai.At,.str ai.Device,I ai.Kind,I ai.Version.aA,I ai.Version.aD,I ai.Version.aF])]⟩) ?_ ?_
  ·refine ab.dv (id:=2) (A:=[0,1,3,7,15,7,39,103,231,487,999,2023,4095,8191]) 14 mixed J (by kernel_rfl) (by kernel_rfl)<|AM.qv (aT J) J<|AM.qv (cV J) J<|AM.qv (aT J) J<|AM.guard J J J (fun hc=>?_) (fun hc=>?_)
   ·rw [va hc] at h
    exact AM.qv (ax J J) J<|AM.ay J J J<|AM.qv (aM J J .p0 J) J<|AM.ay J J J<|AM.qv (aT J) J<|AM.ay J J J<|AM.qv (az J) J<|AM.ay J J J<|AM.qv (ax J J) J<|AM.ay J J J<|AM.qv (aM J J .p1 J) J<|AM.ay J J J<|AM.qv (bL J) J<|AM.ay J J J<|AM.qv (bq J J) J<|AM.ay J J J<|AM.qv (aS J J J) J<|AM.ay J J J<|AM.qv (bT J J) J<|AM.qv (eA J J) J<|AM.nil<|rN<|ab.stop<|aj.lq [1,1,6,1,1,1,1,1,0] ⟨decide (ai.At < aa.c_.At),h,J⟩ J J
   ·rw [u9 hc] at h
    exact AM.au J J J J<|AM.au J J J J<|AM.au J J J J<|AM.au J J J J<|AM.au J J J J<|AM.au J J J J<|AM.au J J J J<|AM.au J J J J<|AM.au J J J J<|AM.qv (gx J J) J<|AM.nil<|rN<|ab.stop<|aj.lq [1,1,6,1,1,1,1,1,0] ⟨true,h,J⟩ J J
  ·rintro aJ ⟨c5,h,rfl⟩
   unfold iA at h
   refine cB h J (fun h=>?_) (fun h=>?_)
   ·refine ab.ret<|?_
    cases h
    exact aj.here ⟨_,.nil,_,.cons .p0 (.cons .p0 (.cons .p1 (.cons .p1 (.cons .p1 (.cons .p1 (.cons .p1 (.cons .p0 .nil))))))),⟨cm,bW,cA,db,gI,J,J⟩⟩
   ·refine tK<|tS<|ab.dv (id:=3) (A:=[0,1,3,7,0,16,63,127]) 8 mixed J (by kernel_rfl) (by kernel_rfl)<|AM.qv (aT J) J<|AM.qv (az J) J<|AM.qv (ax J J) J<|AM.qv (aM J J .p0 J) J<|AM.qv (ax J J) J<|AM.qv (aM J J (.next .p7) J) J<|aK h fun v6 e3 h=>AM.qv (AL (gk:=AV.str) (gv:=I) (M:=aa.cL) (key:=ai.Device) (Z:=0) J J .p3 J J J e3 J) J<|AM.qv (bQ J) J<|AM.nil<|rN<|tS<|ab.cut (fun aJ=>∃ (c7:Bool),ku aa ai n2 v6 c7=some r∧aJ=⟨165,[(0,.ptr bO 0),(3,.ptr b1 0),(4,.ptr (bX n2.toNat) 0),(6,I v6),(7,.bool c7)],[(bO,.cells [.ch [.str aa.c_.Key,I aa.c_.Target.aA,I aa.c_.Target.aD,I aa.c_.Target.aF,I aa.c_.At,oQ aa.c_.aI,I aa.c_.aZ.bF,I aa.c_.aZ.To,I aa.c_.Room],.bV cJ,.bV cK,.sl 1 cm 0 aa.open_.length,.sl 1 bW 0 aa.bt.length,.sl 1 cA 0 aa.aY.length,.sl 1 db 0 aa.aN.length,I aa.bf,I aa.cw]),(cJ,.mp (aa.nw.map (fun e=>(AV.str e.1,(pA bX) e.2)))),(ij,.cu (iK tc bX gI aa.kd)),(cK,wT aa.cL),(cm,dx aa.open_),(bW,dx aa.bt),(cA,dx aa.aY),(db,dx aa.aN),(b1,.cells [I ai.At,.str ai.Device,I ai.Kind,I ai.Version.aA,I ai.Version.aD,I ai.Version.aF])]⟩) ?_ ?_
    ·refine tR<|rM J J<|rM J J<|aK h fun v8 e4 h=>gO J (iC J) (.cons (.xG _ _ _ .p0 (.cons (.co (.refl _)) (.cons (.co (.refl _)) (.cons (.co (.refl _)) (.cons (lD.jd .p4) (.cons (lD.jd .p5) (.cons (lD.jd .p6) (.cons (lD.jd .p7) (.cons (.co (.refl _)) (.cons (.co (.refl _)) .nil)))))))))) (.cons (lD.Cq (bp:=ij) (kb:=tc) (bs:=gI) (M:=aa.kd) UA e4 .p2) .nil)) J J<|rM J J<|ae.guard J J J (fun hc=>?_) (fun hc=>?_)
     ·rw [va hc] at h
      exact rM J J<|rY J J J<|rM J J<|rY J J J<|gO J (o9 J) (.cons (.xG _ _ _ .p0 (.cons (.co (.refl _)) (.cons (.co (.refl _)) (.cons (.co (.refl _)) (.cons (lD.jd .p4) (.cons (lD.jd .p5) (.cons (lD.jd .p6) (.cons (lD.jd .p7) (.cons (.co (.refl _)) (.cons (.co (.refl _)) .nil)))))))))) (.cons (lD.Cq (bp:=ij) (kb:=tc) (bs:=gI) (M:=aa.kd) UA e4 .p2) .nil)) J J<|rE J J J<|rA J J<|rN<|ab.stop<|aj.lq [0,0,0,0,0,0,0,0,0] ⟨(dm aa v8),h,J⟩ J J
     ·rw [u9 hc] at h
      exact rG J J J J<|rG J J J J<|rT J J J<|rA J J<|rN<|ab.stop<|aj.lq [0,0,0,0,0,0,0,0,0] ⟨true,h,J⟩ J J
    ·rintro aJ ⟨c7,h,rfl⟩
     unfold ku at h
     refine tS<|aL<|rM J J<|ae.qv (aG J J (.next .p7) J) J<|aK h fun v9 e5 h=>ae.ghost<|aj.PB (kb:=tc) e5 .p2 J<|aj.here<|bC J (vQ J) cR (.cons .p0 .nil) J J<|ae.qv (cV J) J<|ae.ghost<|aj.SK (kb:=tc) (v':=((aU v9 ai).2)) (s:=nbk []) e5 (.cons .p0 .nil) J (fun _=>.p2) fun CV=>aj.here<|rN<|cB h J (fun h=>?_) (fun h=>?_)
     ·refine ab.ret<|?_
      cases h
      exact aj.here ⟨_,.nil,_,.cons .p0 (.cons .p0 (.cons .p1 (.cons .p1 (.cons .p1 (.cons .p1 (.cons .p1 (.cons .p0 .nil))))))),⟨cm,bW,cA,db,CV,J,J⟩⟩
     ·refine tK<|tS<|tS<|ab.cut (fun aJ=>∃ (BJ:Bool),kr aa ai n2 v6 c7 v9 BJ=some r∧aJ=⟨165,[(0,.ptr bO 0),(3,.ptr b1 0),(6,I v6),(7,.bool c7),(8,.bool BJ)],[(bO,.cells [.ch [.str aa.c_.Key,I aa.c_.Target.aA,I aa.c_.Target.aD,I aa.c_.Target.aF,I aa.c_.At,oQ aa.c_.aI,I aa.c_.aZ.bF,I aa.c_.aZ.To,I aa.c_.Room],.bV cJ,.bV cK,.sl 1 cm 0 aa.open_.length,.sl 1 bW 0 aa.bt.length,.sl 1 cA 0 aa.aY.length,.sl 1 db 0 aa.aN.length,I aa.bf,I aa.cw]),(cJ,.mp (aa.nw.map (fun e=>(AV.str e.1,(pA bX) e.2)))),(ij,.cu (iK tc bX CV (aa.kd.set n2.toNat ((aU v9 ai).2)))),(cK,wT aa.cL),(cm,dx aa.open_),(bW,dx aa.bt),(cA,dx aa.aY),(db,dx aa.aN),(b1,.cells [I ai.At,.str ai.Device,I ai.Kind,I ai.Version.aA,I ai.Version.aD,I ai.Version.aF])]⟩) ?_ ?_
      ·refine tR<|rM J J<|rM J J<|gO J (iC (J:cj (⟨aa.c_,aa.nw,aa.cL,aa.open_,aa.bt,aa.aY,aa.aN,aa.bf,aa.cw,aa.kd.set n2.toNat ((aU v9 ai).2)⟩:aB) ((aU v9 ai).2)=_)) (.cons (.xG _ _ _ .p0 (.cons (.co (.refl _)) (.cons (.co (.refl _)) (.cons (.co (.refl _)) (.cons (lD.jd .p4) (.cons (lD.jd .p5) (.cons (lD.jd .p6) (.cons (lD.jd .p7) (.cons (.co (.refl _)) (.cons (.co (.refl _)) .nil)))))))))) (.cons (lD.Cq (bp:=ij) (kb:=tc) (bs:=CV) (M:=(aa.kd.set n2.toNat ((aU v9 ai).2))) UA (ru (v:=((aU v9 ai).2)) e5) .p2) .nil)) J J<|rM J J<|ae.guard J J J (fun hc=>?_) (fun hc=>?_)
       ·rw [va hc] at h
        exact rM J J<|rY J J J<|rM J J<|rY J J J<|gO J (o9 (J:dm (⟨aa.c_,aa.nw,aa.cL,aa.open_,aa.bt,aa.aY,aa.aN,aa.bf,aa.cw,aa.kd.set n2.toNat ((aU v9 ai).2)⟩:aB) ((aU v9 ai).2)=_)) (.cons (.xG _ _ _ .p0 (.cons (.co (.refl _)) (.cons (.co (.refl _)) (.cons (.co (.refl _)) (.cons (lD.jd .p4) (.cons (lD.jd .p5) (.cons (lD.jd .p6) (.cons (lD.jd .p7) (.cons (.co (.refl _)) (.cons (.co (.refl _)) .nil)))))))))) (.cons (lD.Cq (bp:=ij) (kb:=tc) (bs:=CV) (M:=(aa.kd.set n2.toNat ((aU v9 ai).2))) UA (ru (v:=((aU v9 ai).2)) e5) .p2) .nil)) J J<|rE J J J<|rA J J<|rN<|ab.stop<|aj.lq [0,0,0,0,0,0,0,0,0] ⟨(dm (⟨aa.c_,aa.nw,aa.cL,aa.open_,aa.bt,aa.aY,aa.aN,aa.bf,aa.cw,aa.kd.set n2.toNat ((aU v9 ai).2)⟩:aB) ((aU v9 ai).2)),h,J⟩ J J
       ·rw [u9 hc] at h
        exact rG J J J J<|rG J J J J<|rT J J J<|rA J J<|rN<|ab.stop<|aj.lq [0,0,0,0,0,0,0,0,0] ⟨true,h,J⟩ J J
      ·rintro aJ ⟨BJ,h,rfl⟩
       unfold kr at h
       refine aL<|rM J J<|rM J J<|ae.qv (Xr J J) J<|rN<|ab.cut (fun aJ=>∃ (xN:List Int),fO aa ai n2 v6 v9 xN=some r∧aJ=⟨165,[(0,.ptr bO 0),(3,.ptr b1 0),(6,I v6)],[(bO,.cells [.ch [.str aa.c_.Key,I aa.c_.Target.aA,I aa.c_.Target.aD,I aa.c_.Target.aF,I aa.c_.At,oQ aa.c_.aI,I aa.c_.aZ.bF,I aa.c_.aZ.To,I aa.c_.Room],.bV cJ,.bV cK,.sl 1 cm 0 xN.length,.sl 1 bW 0 aa.bt.length,.sl 1 cA 0 aa.aY.length,.sl 1 db 0 aa.aN.length,I aa.bf,I aa.cw]),(cJ,.mp (aa.nw.map (fun e=>(AV.str e.1,(pA bX) e.2)))),(ij,.cu (iK tc bX CV (aa.kd.set n2.toNat ((aU v9 ai).2)))),(cK,wT aa.cL),(cm,dx xN),(bW,dx aa.bt),(cA,dx aa.aY),(db,dx aa.aN),(b1,.cells [I ai.At,.str ai.Device,I ai.Kind,I ai.Version.aA,I ai.Version.aD,I ai.Version.aF])]⟩) ?_ ?_
       ·refine cB h J (fun h=>?_) (fun h=>?_)
        ·refine aL<|rM J J<|rN<|ab.cut (fun aJ=>∃ (kU:List Int),iz aa ai n2 v6 v9 kU=some r∧aJ=⟨165,[(0,.ptr bO 0),(3,.ptr b1 0),(6,I v6)],[(bO,.cells [.ch [.str aa.c_.Key,I aa.c_.Target.aA,I aa.c_.Target.aD,I aa.c_.Target.aF,I aa.c_.At,oQ aa.c_.aI,I aa.c_.aZ.bF,I aa.c_.aZ.To,I aa.c_.Room],.bV cJ,.bV cK,.sl 1 cm 0 kU.length,.sl 1 bW 0 aa.bt.length,.sl 1 cA 0 aa.aY.length,.sl 1 db 0 aa.aN.length,I aa.bf,I aa.cw]),(cJ,.mp (aa.nw.map (fun e=>(AV.str e.1,(pA bX) e.2)))),(ij,.cu (iK tc bX CV (aa.kd.set n2.toNat ((aU v9 ai).2)))),(cK,wT aa.cL),(cm,dx kU),(bW,dx aa.bt),(cA,dx aa.aY),(db,dx aa.aN),(b1,.cells [I ai.At,.str ai.Device,I ai.Kind,I ai.Version.aA,I ai.Version.aD,I ai.Version.aF])]⟩) ?_ ?_
         ·refine cB h J (fun h=>?_) (fun h=>?_)
          ·exact tR<|rM J J<|ae.qv (az J) J<|rF J J J<|rL J J .p0 J J<|rM J J<|aK h fun sT e6 h=>ae.qv (bB J J J e6) J<|ae.qv (dK (g:=I) J J (.inl .p4) e6 J) J<|ae.qv (fy J J) J<|aK h fun CQ e7 h=>ae.qv (bB J J J e7) J<|dj (g:=I) (BE:=bE (sT - 1)) J J J J e7 J .p4 J<|ae.ghost<|aj.eqs (s:=68) (iI:=.sl 1 cm 0 (aa.open_.set v6.toNat (bE (sT - 1))).length) J (by rw [ac])<|aj.here<|ae.ghost<|aj.Iq (j:=3) (iI:=.sl 1 cm 0 (aa.open_.set v6.toNat (bE (sT - 1))).length) .p0 J (by rw [ac]) J<|aj.here<|rN<|ab.stop<|aj.lq [0,0,0,0,0,0,0,0,0] ⟨aa.open_.set v6.toNat (bE (sT - 1)),h,J⟩ J J
          ·exact tR<|rM J J<|ae.qv (az J) J<|rF J J J<|rL J J .p0 J J<|rM J J<|aK h fun tL e8 h=>ae.qv (bB J J J e8) J<|ae.qv (dK (g:=I) J J (.inl .p4) e8 J) J<|ae.qv (br J J) J<|aK h fun v17 e9 h=>ae.qv (bB J J J e9) J<|dj (g:=I) (BE:=bE (tL+1)) J J J J e9 J .p4 J<|ae.ghost<|aj.eqs (s:=77) (iI:=.sl 1 cm 0 (aa.open_.set v6.toNat (bE (tL+1))).length) J (by rw [ac])<|aj.here<|ae.ghost<|aj.Iq (j:=3) (iI:=.sl 1 cm 0 (aa.open_.set v6.toNat (bE (tL+1))).length) .p0 J (by rw [ac]) J<|aj.here<|rN<|ab.stop<|aj.lq [0,0,0,0,0,0,0,0,0] ⟨aa.open_.set v6.toNat (bE (tL+1)),h,J⟩ J J
         ·rintro aJ ⟨kU,h,rfl⟩
          unfold iz at h
          exact ab.stop<|aj.lq [0,0,0,0,0,0,0,0,0] ⟨kU,h,J⟩ J J
        ·exact tK<|ab.stop<|aj.lq [0,0,0,0,0,0,0,0,0] ⟨aa.open_,h,J⟩ J J
       ·rintro aJ ⟨xN,h,rfl⟩
        unfold fO at h
        refine tS<|tS<|ab.cut (fun aJ=>∃ (Yl:Bool),kq aa ai n2 v6 v9 xN Yl=some r∧aJ=⟨165,[(0,.ptr bO 0),(3,.ptr b1 0),(6,I v6),(90,.bool Yl)],[(bO,.cells [.ch [.str aa.c_.Key,I aa.c_.Target.aA,I aa.c_.Target.aD,I aa.c_.Target.aF,I aa.c_.At,oQ aa.c_.aI,I aa.c_.aZ.bF,I aa.c_.aZ.To,I aa.c_.Room],.bV cJ,.bV cK,.sl 1 cm 0 xN.length,.sl 1 bW 0 aa.bt.length,.sl 1 cA 0 aa.aY.length,.sl 1 db 0 aa.aN.length,I aa.bf,I aa.cw]),(cJ,.mp (aa.nw.map (fun e=>(AV.str e.1,(pA bX) e.2)))),(ij,.cu (iK tc bX CV (aa.kd.set n2.toNat ((aU v9 ai).2)))),(cK,wT aa.cL),(cm,dx xN),(bW,dx aa.bt),(cA,dx aa.aY),(db,dx aa.aN),(b1,.cells [I ai.At,.str ai.Device,I ai.Kind,I ai.Version.aA,I ai.Version.aD,I ai.Version.aF])]⟩) ?_ ?_
        ·refine tR<|rF J J J<|rL J J (.next .p7) J J<|ae.qv (pH J J) J<|rM J J<|ae.dJ J J J (fun hc=>?_) (fun hc=>?_)
         ·rw [uE hc] at h
          exact rF J J J<|rY J J J<|rL J J (.next .p7) J J<|rY J J J<|ae.qv (pH J J) J<|rT J J J<|rN<|ab.stop<|aj.lq [0,0,0,0,0,0,0,0,0] ⟨decide (ai.Kind≠4),h,J⟩ J J
         ·rw [uF hc] at h
          exact rG J J J J<|rG J J J J<|rE J J J<|rN<|ab.stop<|aj.lq [0,0,0,0,0,0,0,0,0] ⟨false,h,J⟩ J J
        ·rintro aJ ⟨Yl,h,rfl⟩
         unfold kq at h
         refine cB h J (fun h=>?_) (fun h=>?_)
         ·refine ab.ret<|?_
          cases h
          exact aj.here ⟨_,.nil,_,.cons .p0 (.cons .p0 (.cons .p1 (.cons .p1 (.cons .p1 (.cons .p1 (.cons .p1 (.cons .p0 .nil))))))),⟨cm,bW,cA,db,CV,J,J⟩⟩
         ·refine tK<|aL<|rM J J<|ae.qv (az J) J<|rF J J J<|rL J J .p0 J J<|rM J J<|aK h fun pj Ad h=>ae.qv (bB J J J Ad) J<|ae.qv (dK (g:=I) J J (.inl .p5) Ad J) J<|ae.qv (br J J) J<|aK h fun v20 Ej h=>ae.qv (bB J J J Ej) J<|dj (g:=I) (BE:=bE (pj+1)) J J J J Ej J .p5 J<|ae.ghost<|aj.eqs (s:=94) (iI:=.sl 1 bW 0 (aa.bt.set v6.toNat (bE (pj+1))).length) J (by rw [ac])<|aj.here<|ae.ghost<|aj.Iq (j:=4) (iI:=.sl 1 bW 0 (aa.bt.set v6.toNat (bE (pj+1))).length) .p0 J (by rw [ac]) J<|aj.here<|rN<|tS<|aL<|rF J J J<|rL J J (.next .p7) J J<|ae.qv (dt J J) J<|rN<|ab.cut (fun aJ=>∃ (Cs:List Int),fN aa ai n2 v6 v9 xN pj Cs=some r∧aJ=⟨165,[(0,.ptr bO 0),(3,.ptr b1 0),(6,I v6)],[(bO,.cells [.ch [.str aa.c_.Key,I aa.c_.Target.aA,I aa.c_.Target.aD,I aa.c_.Target.aF,I aa.c_.At,oQ aa.c_.aI,I aa.c_.aZ.bF,I aa.c_.aZ.To,I aa.c_.Room],.bV cJ,.bV cK,.sl 1 cm 0 xN.length,.sl 1 bW 0 (aa.bt.set v6.toNat (bE (pj+1))).length,.sl 1 cA 0 Cs.length,.sl 1 db 0 aa.aN.length,I aa.bf,I aa.cw]),(cJ,.mp (aa.nw.map (fun e=>(AV.str e.1,(pA bX) e.2)))),(ij,.cu (iK tc bX CV (aa.kd.set n2.toNat ((aU v9 ai).2)))),(cK,wT aa.cL),(cm,dx xN),(bW,dx (aa.bt.set v6.toNat (bE (pj+1)))),(cA,dx Cs),(db,dx aa.aN),(b1,.cells [I ai.At,.str ai.Device,I ai.Kind,I ai.Version.aA,I ai.Version.aD,I ai.Version.aF])]⟩) ?_ ?_
          ·refine cD h J (fun h=>?_) (fun h=>?_)
           ·exact tR<|rM J J<|ae.qv (az J) J<|rF J J J<|rL J J .p0 J J<|rM J J<|aK h fun v22 Fh h=>ae.qv (bB J J J Fh) J<|ae.qv (dK (g:=I) J J (.inl .p6) Fh J) J<|ae.qv (br J J) J<|aK h fun v23 Ki h=>ae.qv (bB J J J Ki) J<|dj (g:=I) (BE:=bE (v22+1)) J J J J Ki J .p6 J<|ae.ghost<|aj.eqs (s:=106) (iI:=.sl 1 cA 0 (aa.aY.set v6.toNat (bE (v22+1))).length) J (by rw [ac])<|aj.here<|ae.ghost<|aj.Iq (j:=5) (iI:=.sl 1 cA 0 (aa.aY.set v6.toNat (bE (v22+1))).length) .p0 J (by rw [ac]) J<|aj.here<|rN<|ab.stop<|aj.lq [0,0,0,0,0,0,0,0,0] ⟨aa.aY.set v6.toNat (bE (v22+1)),h,J⟩ J J
           ·exact tK<|ab.stop<|aj.lq [0,0,0,0,0,0,0,0,0] ⟨aa.aY,h,J⟩ J J
          ·rintro aJ ⟨Cs,h,rfl⟩
           unfold fN at h
           refine aL<|rM J J<|ae.qv (az J) J<|rF J J J<|rL J J .p0 J J<|ae.qv (bL J) J<|ae.qv (bq J J) J<|ae.qv (aS J J J) J<|rM J J<|aK h fun v24 S7 h=>ae.qv (bH J J J S7 J J) J<|ae.qv (aO J J J) J<|bA J J J J fun A3=>ar J J J J .p0 J J<|rN<|tS<|ab.cut (fun aJ=>∃ (Yk:Bool),ez aa ai n2 v6 v9 xN pj Cs Yk=some r∧aJ=⟨165,[(0,.ptr bO 0),(3,.ptr b1 0),(159,.bool Yk)],[(bO,.cells [.ch [.str aa.c_.Key,I aa.c_.Target.aA,I aa.c_.Target.aD,I aa.c_.Target.aF,I aa.c_.At,oQ aa.c_.aI,I aa.c_.aZ.bF,I aa.c_.aZ.To,I aa.c_.Room],.bV cJ,.bV cK,.sl 1 cm 0 xN.length,.sl 1 bW 0 (aa.bt.set v6.toNat (bE (pj+1))).length,.sl 1 cA 0 Cs.length,.sl 1 db 0 aa.aN.length,I aa.bf,I aa.cw]),(cJ,.mp (aa.nw.map (fun e=>(AV.str e.1,(pA bX) e.2)))),(ij,.cu (iK tc bX CV (aa.kd.set n2.toNat ((aU v9 ai).2)))),(cK,wT aa.cL),(cm,dx xN),(bW,dx (aa.bt.set v6.toNat (bE (pj+1)))),(cA,dx Cs),(db,dx aa.aN),(b1,.cells [I ai.At,.str ai.Device,I ai.Kind,I ai.Version.aA,I ai.Version.aD,I ai.Version.aF])]⟩) ?_ ?_
           ·refine ab.dv (id:=16) (A:=[0,1,3,7,15,31,63,127,255,511,63,2047,4095,63,8255,32767,65535,131071,262143,524287,1048575,2097151,262143,8388607,16777215,33554431,262143,67371007,262143,268697599,805568511,1879310335,262143,8321761279,16911695871,34292891647,68719476735,137438953471]) 38 mixed J (by kernel_rfl) (by kernel_rfl)<|AM.qv (aT J) J<|AM.qv (az J) J<|AM.qv (ax J J) J<|AM.qv (aM J J .p1 J) J<|AM.qv (bT J J) J<|AM.qv (aT J) J<|AM.dJ J J J (fun hc=>?_) (fun hc=>?_)
            ·refine have h:=pN hc h;AM.qv (aT J) J<|AM.ay J J J<|AM.qv (az J) J<|AM.ay J J J<|AM.qv (ax J J) J<|AM.ay J J J<|AM.qv (aM J J .p1 J) J<|AM.ay J J J<|AM.qv (aT J) J<|AM.ay J J J<|aK h fun nO Xa h=>AM.qv (bB J J J Xa) J<|AM.ay J J J<|AM.qv (dK (g:=I) J J (.inl .p6) Xa J) J<|AM.ay J J J<|AM.qv (ax J J) J<|AM.ay J J J<|AM.qv (aM J J .p0 J) J<|AM.ay J J J<|AM.qv (nP J J) J<|AM.qv (gx J J) J<|AM.qv (aT J) J<|AM.dJ J J J (fun hc=>?_) (fun hc=>?_)
             ·exact have h:=pN hc h;AM.qv (aT J) J<|AM.ay J J J<|AM.qv (az J) J<|AM.ay J J J<|AM.qv (ax J J) J<|AM.ay J J J<|AM.qv (aM J J .p1 J) J<|AM.ay J J J<|AM.qv (aT J) J<|AM.ay J J J<|aK h fun v28 Z5 h=>AM.qv (bB J J J Z5) J<|AM.ay J J J<|AM.qv (dK (g:=I) J J (.inl .p7) Z5 J) J<|AM.ay J J J<|AM.qv (uA J J) J<|AM.ay J J J<|AM.qv (ax J J) J<|AM.ay J J J<|AM.qv (aM J J .p0 J) J<|AM.ay J J J<|AM.qv (aT J) J<|AM.ay J J J<|AM.qv (az J) J<|AM.ay J J J<|AM.qv (ax J J) J<|AM.ay J J J<|AM.qv (aM J J .p1 J) J<|AM.ay J J J<|AM.qv (aT J) J<|AM.ay J J J<|aK h fun Av Z6 h=>AM.qv (bB J J J Z6) J<|AM.ay J J J<|AM.qv (dK (g:=I) J J (.inl .p6) Z6 J) J<|AM.ay J J J<|AM.qv (uA J J) J<|AM.ay J J J<|AM.qv (eB J J) J<|AM.qv (gx J J) J<|AM.nil<|rN<|ab.stop<|aj.lq [1,1,1,1,1,1,1,1,1] ⟨decide ((bE (v24.ed * Av)) < (bE (1000 * v28))),h,J⟩ J J
             ·exact have h:=AD hc h;AM.au J J J J<|AM.au J J J J<|AM.au J J J J<|AM.au J J J J<|AM.au J J J J<|AM.au J J J J<|AM.au J J J J<|AM.au J J J J<|AM.au J J J J<|AM.au J J J J<|AM.au J J J J<|AM.au J J J J<|AM.au J J J J<|AM.au J J J J<|AM.au J J J J<|AM.au J J J J<|AM.au J J J J<|AM.au J J J J<|AM.qv (eA J J) J<|AM.nil<|rN<|ab.stop<|aj.lq [1,1,1,1,1,1,1,1,1] ⟨false,h,J⟩ J J
            ·exact have h:=AD hc h;AM.au J J J J<|AM.au J J J J<|AM.au J J J J<|AM.au J J J J<|AM.au J J J J<|AM.au J J J J<|AM.au J J J J<|AM.au J J J J<|AM.au J J J J<|AM.qv (eA J J) J<|AM.qv (aT J) J<|AM.au J J J J<|AM.au J J J J<|AM.au J J J J<|AM.au J J J J<|AM.au J J J J<|AM.au J J J J<|AM.au J J J J<|AM.au J J J J<|AM.au J J J J<|AM.au J J J J<|AM.au J J J J<|AM.au J J J J<|AM.au J J J J<|AM.au J J J J<|AM.au J J J J<|AM.au J J J J<|AM.au J J J J<|AM.au J J J J<|AM.au J J J J<|AM.qv (eA J J) J<|AM.nil<|rN<|ab.stop<|aj.lq [1,1,1,1,1,1,1,1,1] ⟨false,h,J⟩ J J
           ·rintro aJ ⟨Yk,h,rfl⟩
            unfold ez at h
            refine ab.cut (fun aJ=>∃ (n30:Int),gU aa ai n2 v6 v9 xN pj Cs n30=some r∧aJ=⟨165,[],[(bO,.cells [.ch [.str aa.c_.Key,I aa.c_.Target.aA,I aa.c_.Target.aD,I aa.c_.Target.aF,I aa.c_.At,oQ aa.c_.aI,I aa.c_.aZ.bF,I aa.c_.aZ.To,I aa.c_.Room],.bV cJ,.bV cK,.sl 1 cm 0 xN.length,.sl 1 bW 0 (aa.bt.set v6.toNat (bE (pj+1))).length,.sl 1 cA 0 Cs.length,.sl 1 db 0 aa.aN.length,I n30,I aa.cw]),(cJ,.mp (aa.nw.map (fun e=>(AV.str e.1,(pA bX) e.2)))),(ij,.cu (iK tc bX CV (aa.kd.set n2.toNat ((aU v9 ai).2)))),(cK,wT aa.cL),(cm,dx xN),(bW,dx (aa.bt.set v6.toNat (bE (pj+1)))),(cA,dx Cs),(db,dx aa.aN)]⟩) ?_ ?_
            ·refine cB h J (fun h=>?_) (fun h=>?_)
             ·exact tR<|rM J J<|rF J J J<|rL J J (.next .p7) J J<|ae.qv (az J) J<|rF J J J<|ar J J J J .p0 J J<|rN<|ab.stop<|aj.lq [0,0,0,0,0,0,0,0] ⟨ai.At,h,J⟩ J J
             ·exact tK<|ab.stop<|aj.lq [0,0,0,0,0,0,0,0] ⟨aa.bf,h,J⟩ J J
            ·rintro aJ ⟨n30,h,rfl⟩
             unfold gU at h
             refine ab.nil<|?_
             cases h
             exact aj.here ⟨_,.nil,_,.cons .p0 (.cons .p0 (.cons .p1 (.cons .p1 (.cons .p1 (.cons .p1 (.cons .p1 (.cons .p0 .nil))))))),⟨cm,bW,cA,db,CV,J,J⟩⟩
theorem CW [GI:bU] {aa:Campaign} {ai:List ak} {aH:List DeviceS} {bc:Int} {ck:List bj} {dV:eQ} {r:(List MarkS)×Int} (h:ik aa ai aH bc ck dV=some r):aR Tryz.prog 26 [Campaign.av aa,o8 ai,pI aH,I bc,vz ck,eQ.av dV] [] (T1 (fun np=>[(np,tW r.1)]) (fun np=>.lM [.sl 6 np 0 r.1.length,I r.2])):=by
 unfold ik at h
 refine aR.iL ?_
 refine aR.bI Tryz.func26 J Tryz.ntmps26 Tryz.results26 J J ?_
 refine aL<|dh J J J J fun b1=>dh J J J J fun b2=>rA J J<|rA J J<|rN<|tS<|aL<|ae.qv (aG J J .p1 J) J<|aK h fun v3 e1 h=>ba J (vP e1) cR J<|rM J J<|aK h fun v4 e2 h=>ba J (xf e2) cR J<|rM J J<|aK h fun v5 e3 h=>ba J (xP e3) cR J<|aW (xs:=([v3,v4,v5]:List Int).map I) J J J J J J<|aK h fun v6 e4 h=>ba J (Hf e4) cR J<|rA J J<|rN<|aL<|rM J J<|ae.qv (pH J J) J<|rN<|cD h J (fun h=>?_) (fun h=>?_)
 ·refine aL<|rM J J<|rA J J<|rA J J<|rN<|ab.ret<|?_
  cases h
  exact aj.arr (s:=12) 6 J fun b7=>aj.here ⟨_,.cons (.tmp _ _ J) (.cons (.tmp _ _ J) .nil),_,.cons .p0 .nil,⟨b7,J,J⟩⟩
 ·refine tK<|tS<|ab.block<|aL<|rM J J<|ba J (iB J) cR J<|rA J J<|rN<|cB h J (fun h=>?_) (fun h=>?_)
  ·refine aL<|rA J J<|rA J J<|rN<|ab.ret<|?_
   cases h
   exact aj.arr (s:=12) 6 J fun b8=>aj.here ⟨_,.cons (.tmp _ _ J) (.cons (.tmp _ _ J) .nil),_,.cons .p0 .nil,⟨b8,J,J⟩⟩
  ·refine aL<|rM J J<|ae.qv (cE J) J<|ae.qv (eB J J) J<|rA J J<|rN<|cD h J (fun h=>?_) (fun h=>?_)
   ·refine aL<|rA J J<|rA J J<|rN<|ab.ret<|?_
    cases h
    exact aj.arr (s:=12) 6 J fun b9=>aj.here ⟨_,.cons (.tmp _ _ J) (.cons (.tmp _ _ J) .nil),_,.cons .p0 .nil,⟨b9,J,J⟩⟩
   ·refine tS<|ab.cut (fun aJ=>∃ (I7:Bool),gW aa ai aH bc ck dV I7=some r∧aJ=⟨103,[(1,o8 ai),(2,pI aH),(3,I bc),(4,vz ck),(6,.ptr b1 0),(11,.ptr b2 0),(40,.bool I7)],[(b1,.cells (xz aa)),(b2,.cells [I dV.bF,I dV.To])]⟩) ?_ ?_
    ·refine tR<|ae.qv (aG J J .p0 J) J<|ba J (Fk J) cR J<|ae.qv (cV J) J<|rM J J<|ae.guard J J J (fun hc=>?_) (fun hc=>?_)
     ·exact have h:=sn hc h;rF J J J<|rY J J J<|rL J J .p0 J J<|rY J J J<|rF J J J<|rY J J J<|rL J J .p0 J J<|rY J J J<|ae.qv (fy J J) J<|rY J J J<|rM J J<|rY J J J<|ae.qv (br J J) J<|rY J J J<|ae.qv (fy J J) J<|rY J J J<|rM J J<|rY J J J<|aK h fun n11 e5 h=>ae.qv (Kx J J e5) J<|rY J J J<|ae.qv (eB J J) J<|rE J J J<|rA J J<|rN<|ab.stop<|aj.lq [1,0] ⟨decide (500 < n11),h,J⟩ J J
     ·exact have h:=pN hc h;rG J J J J<|rG J J J J<|rG J J J J<|rG J J J J<|rG J J J J<|rG J J J J<|rG J J J J<|rG J J J J<|rG J J J J<|rG J J J J<|rT J J J<|rA J J<|rN<|ab.stop<|aj.lq [1,0] ⟨true,h,J⟩ J J
    ·rintro aJ ⟨I7,h,rfl⟩
     unfold gW at h
     refine cB h J (fun h=>?_) (fun h=>?_)
     ·refine aL<|rA J J<|rA J J<|rN<|ab.ret<|?_
      cases h
      exact aj.arr (s:=12) 6 J fun kB=>aj.here ⟨_,.cons (.tmp _ _ J) (.cons (.tmp _ _ J) .nil),_,.cons .p0 .nil,⟨kB,J,J⟩⟩
     ·refine tK<|ab.cH<|aL<|rM J J<|ae.ghost<|aj.SO (ss:=[6]) (by simp [lk]) .p0<|aj.here<|aK h fun lF e6 h=>Pm J (zo e6) cR .nil (fun _ _ _ _ _ _ _ _ _ _=>J) J fun Fl Ta Gb re Je vf Nz VT Tb abH=>rA J J<|rN<|aL<|rM J J<|ae.qv (bq J J) J<|ae.qv (kJ J J J J) J<|sw J fun u4=>ae.qv (dc J J J J J) J<|dh J J J J fun A3=>rA J J<|rN<|aL<|rA J J<|rN<|tS<|aL<|rF J J J<|ae.qv (aM J J (.next (.next (.next .p7))) J) J<|rA J J<|rN<|ab.block<|ab.cS (fun x:(List (bj×Int))×(List aq)×(List (bj×Int))×(List Int)×(List Int)×(List Int)×(List Int)×Int×Int×(List ak)×Int×Int×Int×(List (bj×(List (Version×ao))))×(List MarkS)×Int=>gV aa aH bc ck dV x.1 x.2.1 x.2.2.1 x.2.2.2.1 x.2.2.2.2.1 x.2.2.2.2.2.1 x.2.2.2.2.2.2.1 x.2.2.2.2.2.2.2.1 x.2.2.2.2.2.2.2.2.1 x.2.2.2.2.2.2.2.2.2.1 x.2.2.2.2.2.2.2.2.2.2.1 x.2.2.2.2.2.2.2.2.2.2.2.1 x.2.2.2.2.2.2.2.2.2.2.2.2.1 x.2.2.2.2.2.2.2.2.2.2.2.2.2.1 x.2.2.2.2.2.2.2.2.2.2.2.2.2.2.1 x.2.2.2.2.2.2.2.2.2.2.2.2.2.2.2) (fun x aJ=>∃ (VU:Nat→Nat→Bk) (Rw:Bk) (Z4:Bk) (Ol:Bk) (YD:Bk) (Z7:Bk),aJ=⟨103,[(2,pI aH),(3,I bc),(4,vz ck),(11,.ptr b2 0),(15,.ptr Fl 0),(16,.ptr A3 0),(17,.sl 6 Z7 0 x.2.2.2.2.2.2.2.2.2.2.2.2.2.2.1.length),(18,I x.2.2.2.2.2.2.2.2.2.2.2.2.2.2.2)],[(b2,.cells [I dV.bF,I dV.To]),(Fl,.cells [.ch [.str aa.Key,I aa.Target.aA,I aa.Target.aD,I aa.Target.aF,I aa.At,oQ aa.aI,I aa.aZ.bF,I aa.aZ.To,I aa.Room],.bV Ta,.bV Gb,.sl 1 Rw 0 x.2.2.2.1.length,.sl 1 Z4 0 x.2.2.2.2.1.length,.sl 1 Ol 0 x.2.2.2.2.2.1.length,.sl 1 YD 0 x.2.2.2.2.2.2.1.length,I x.2.2.2.2.2.2.2.1,I x.2.2.2.2.2.2.2.2.1]),(Ta,.mp (x.1.map (fun e=>(AV.str e.1,(pA Tb) e.2)))),(VT,.cu (iK tc Tb VU x.2.1)),(Gb,wT x.2.2.1),(Rw,dx x.2.2.2.1),(Z4,dx x.2.2.2.2.1),(Ol,dx x.2.2.2.2.2.1),(YD,dx x.2.2.2.2.2.2.1),(A3,.cells [o8 x.2.2.2.2.2.2.2.2.2.1,I x.2.2.2.2.2.2.2.2.2.2.1,I x.2.2.2.2.2.2.2.2.2.2.2.1,I x.2.2.2.2.2.2.2.2.2.2.2.2.1,.bV u4]),(u4,qg x.2.2.2.2.2.2.2.2.2.2.2.2.2.1),(Z7,tW x.2.2.2.2.2.2.2.2.2.2.2.2.2.2.1)]⟩) h ?_ ?_
      ·exact aj.arr (s:=17) 6 J fun b70=>aj.lq [11,3,3,8,3,3,3,3,3,1,1,0] ⟨abH,re,Je,vf,Nz,b70,J⟩ J J
      ·intro x z1 aJ J1 ep h jF ek
       obtain ⟨AW,VK,VL,Fc,Yn,Yo,S3,n60,n61,Yp,Yq,Yr,Yt,Oj,W4,n69⟩:=x
       obtain ⟨VU,Rw,Z4,Ol,YD,Z7,rfl⟩:=ep
       replace h:gV aa aH bc ck dV AW VK VL Fc Yn Yo S3 n60 n61 Yp Yq Yr Yt Oj W4 n69=some z1:=h
       unfold gV at h
       refine tS<|aL<|rM J J<|rF J J J<|rL J J .p0 J J<|ae.qv (bT J J) J<|rN<|cD h J (fun h=>?_) (fun h=>?_)
       ·refine tK<|tS<|ab.block<|aL<|rM J J<|rM J J<|aK h fun HT e7 h=>L0 J (r6 e7) cR (.cons .p1 (.cons .p4 (.cons .p4 (.cons .p4 (.cons .p4 .nil))))) (fun _ _ _ _=>J) J fun b72 b73 b74 b75=>rN<|aL<|rM J J<|rM J J<|rM J J<|rM J J<|rM J J<|aK h fun v76 e8 h=>jH J (xS e8) cR (.cons .p0 (.cons .p5 (.cons .p6 (.cons .p0 (.cons .p0 (.cons .p0 (.cons .p0 (.cons .p1 (.cons .p1 (.cons .p1 .nil)))))))))) (fun _=>J) J fun b77=>rA J J<|rN<|tS<|aL<|rM J J<|rM J J<|aK h fun Kh e9 h=>dB (g:=MarkS.av) J J J J J J J J (BD (.inl (.next (.next (.next .p7)))) J) e9 (fun _=>(.next (.next (.next (.next (.next .p7)))))) J fun b79=>rA J J<|rN<|aL<|rM J J<|ae.qv (dH J) J<|ae.qv (eB J J) J<|rN<|cD h J (fun h=>?_) (fun h=>?_)
        ·refine aL<|rA J J<|rA J J<|rN<|ab.ret<|have h:=bZ h ek;?_
         cases h
         exact aj.arr (s:=12) 6 J fun b80=>aj.here ⟨_,.cons (.tmp _ _ J) (.cons (.tmp _ _ J) .nil),_,.cons .p0 .nil,⟨b80,J,J⟩⟩
        ·refine tK<|tS<|aL<|rM J J<|ae.qv (dH J) J<|rM J J<|rN<|ab.block<|ab.cS (fun x:(List (bj×Int))×(List aq)×(List (bj×Int))×(List Int)×(List Int)×(List Int)×(List Int)×Int×Int×Int=>kO aa bc n69 v76 Kh x.1 x.2.1 x.2.2.1 x.2.2.2.1 x.2.2.2.2.1 x.2.2.2.2.2.1 x.2.2.2.2.2.2.1 x.2.2.2.2.2.2.2.1 x.2.2.2.2.2.2.2.2.1 x.2.2.2.2.2.2.2.2.2) (fun x aJ=>∃ (VV:Nat→Nat→Bk) (VW:Bk) (VX:Bk) (VY:Bk) (VZ:Bk),aJ=⟨103,[(2,pI aH),(3,I bc),(4,vz ck),(11,.ptr b2 0),(15,.ptr Fl 0),(16,.ptr A3 0),(17,.sl 6 b79 0 Kh.length),(18,I n69),(89,.sl 6 b77 0 v76.1.length),(90,I (v76.1.length:Int)),(91,I x.2.2.2.2.2.2.2.2.2)],[(b2,.cells [I dV.bF,I dV.To]),(Fl,.cells [.ch [.str aa.Key,I aa.Target.aA,I aa.Target.aD,I aa.Target.aF,I aa.At,oQ aa.aI,I aa.aZ.bF,I aa.aZ.To,I aa.Room],.bV Ta,.bV Gb,.sl 1 VW 0 x.2.2.2.1.length,.sl 1 VX 0 x.2.2.2.2.1.length,.sl 1 VY 0 x.2.2.2.2.2.1.length,.sl 1 VZ 0 x.2.2.2.2.2.2.1.length,I x.2.2.2.2.2.2.2.1,I x.2.2.2.2.2.2.2.2.1]),(Ta,.mp (x.1.map (fun e=>(AV.str e.1,(pA Tb) e.2)))),(VT,.cu (iK tc Tb VV x.2.1)),(Gb,wT x.2.2.1),(VW,dx x.2.2.2.1),(VX,dx x.2.2.2.2.1),(VY,dx x.2.2.2.2.2.1),(VZ,dx x.2.2.2.2.2.2.1),(A3,.cells (Dd v76.2 u4)),(u4,qg v76.2.fA),(b79,tW Kh),(b77,tW v76.1)]⟩) h ?_ ?_
         ·exact aj.lq [11,0,0,5,0,0,0,0,0,0,0,1,0] ⟨VU,b72,b73,b74,b75,J⟩ J J
         ·intro x z2 aJ J2 ep h zm xd
          obtain ⟨S4,S5,S6,I8,I9,Ja,Jb,n108,n109,n110⟩:=x
          obtain ⟨VV,VW,VX,VY,VZ,rfl⟩:=ep
          replace h:kO aa bc n69 v76 Kh S4 S5 S6 I8 I9 Ja Jb n108 n109 n110=some z2:=h
          unfold kO at h
          refine aL<|ae.qv (bT J J) J<|rN<|tS<|cD h J (fun h=>?_) (fun h=>?_)
          ·refine tK<|tS<|ab.block<|aL<|aK h fun Ym Ad h=>ae.qv (bB J J J Ad) J<|ae.qv (cq (g:=MarkS.av) J J (.inl (.next (.next (.next (.next (.next .p7)))))) J Ad J) J<|bA J J J J fun amG=>ar J J J J .p0 J J<|rN<|tR<|rM J J<|ae.qv (aG J J .p0 J) J<|aK h fun Fg Ej h=>Su J (xT Ej) cR (.cons .p2 (.cons .p2 (.cons .p3 (.cons .p3 (.cons .p3 (.cons .p3 (.cons .p3 (.cons .p2 .nil)))))))) (fun _ _ _ _ _=>J) J fun abI abJ abK abL YE=>rN<|ab.cH<|tR<|ae.qv (br J J) J<|rM J J<|rN<|ab.stop<|?_
           cases h
           exact zm _ _ J<|aj.lq [9,0,0,5,0,0,0,0,0,1,1,1,1] ⟨YE,abI,abJ,abK,abL,J⟩ J J
          ·refine ab.exit J<|have h:=bZ h xd;?_
           unfold pr at h
           refine tR<|rM J J<|rM J J<|aK h fun Lc Fh h=>L0 J (r6 Fh) cR (.cons .p1 (.cons .p4 (.cons .p4 (.cons .p4 (.cons .p4 .nil))))) (fun _ _ _ _=>J) J fun abM abN abO abP=>rN<|ab.cH<|tR<|rM J J<|rM J J<|ae.qv (br J J) J<|rA J J<|rN<|ab.stop<|?_
           cases h
           exact jF _ _ J<|aj.lq [5,0,4,4,4,0,0,0,0,0,0,0] ⟨VV,abM,abN,abO,abP,b79,J⟩ J J
       ·refine ab.exit J<|have h:=bZ h ek;aL<|rM J J<|rA J J<|rA J J<|rN<|ab.ret<|?_
        cases h
        exact hI J J [11] J ⟨Z7,J,J⟩
theorem qJ [GI:bU] {aa ai aH:Int} {r:Bool} (h:vd aa ai aH=r):Pu Tryz.prog 55 [I aa,I ai,I aH] (.bool r):=by
 unfold vd at h
 refine aR.bI Tryz.func55 J Tryz.ntmps55 Tryz.results55 J J ?_
 refine aL<|rA J J<|rN<|tS<|ab.cut (fun aJ=>∃ (c1:Bool),Hd c1=r∧aJ=⟨15,[(6,.bool c1)],[]⟩) ?_ ?_
 ·refine tR<|rM J J<|rM J J<|ae.qv (qM J J) J<|rM J J<|ae.dJ J J J (fun hc=>?_) (fun hc=>?_)
  ·rw [uE hc] at h
   exact rM J J<|rY J J J<|rM J J<|rY J J J<|ae.qv (qM J J) J<|rT J J J<|rA J J<|rN<|ab.stop<|aj.lq [] ⟨decide (aa≤aH),h,J⟩ J J
  ·rw [uF hc] at h
   exact rG J J J J<|rG J J J J<|rE J J J<|rA J J<|rN<|ab.stop<|aj.lq [] ⟨false,h,J⟩ J J
 ·rintro aJ ⟨c1,h,rfl⟩
  unfold Hd at h
  refine ab.ret<|?_
  obtain rfl:=h
  exact hP J J
theorem Jf [GI:bU] {aa ai:bj} {r:Bool} (h:BK aa ai=some r):Pu Tryz.prog 101 [.str aa,.str ai] (.bool r):=by
 unfold BK at h
 refine aR.bI Tryz.func101 J Tryz.ntmps101 Tryz.results101 J J ?_
 refine aL<|rA J J<|rN<|tS<|aL<|rM J J<|ae.qv (og J) J<|rM J J<|rN<|ab.block<|ab.cS (fun x:Int=>sy aa ai x) (fun x aJ=>aJ=⟨18,[(0,.str aa),(1,.str ai),(7,I (aa.length:Int)),(8,I x)],[]⟩) h ?_ ?_
 ·exact aj.lq [] J J J
 ·intro n2 z1 aJ J1 ep h jF ek
  obtain rfl:=ep
  replace h:sy aa ai n2=some z1:=h
  unfold sy at h
  refine aL<|ae.qv (bT J J) J<|rN<|tS<|cD h J (fun h=>?_) (fun h=>?_)
  ·refine tK<|tS<|ab.block<|aL<|rM J J<|rA J J<|rN<|aL<|rM J J<|rM J J<|rM J J<|aK h fun c3 e1 h=>ae.qv (nv J J e1) J<|ba J (zj J) cR J<|ae.qv (bT J J) J<|rN<|cD h J (fun h=>?_) (fun h=>?_)
   ·refine aL<|rA J J<|rN<|ab.ret<|have h:=bZ h ek;?_
    cases h
    exact hP J J
   ·refine tK<|ab.cH<|tR<|ae.qv (br J J) J<|rM J J<|rN<|ab.stop<|?_
    cases h
    exact jF _ _ J<|aj.lq [] J J J
  ·refine ab.exit J<|have h:=bZ h ek;aL<|rA J J<|rN<|ab.ret<|?_
   cases h
   exact hP J J
theorem A6 [GI:bU] {aa:bj} {r:Bool} (h:AY aa=some r):Pu Tryz.prog 52 [.str aa] (.bool r):=by
 unfold AY at h
 refine aR.bI Tryz.func52 J Tryz.ntmps52 Tryz.results52 J J ?_
 refine aL<|rA J J<|rN<|tS<|ab.cut (fun aJ=>∃ (c1:Bool),wu c1=some r∧aJ=⟨15,[(2,.bool c1)],[]⟩) ?_ ?_
 ·refine tR<|rM J J<|ae.qv (og J) J<|ba J (qJ J) cR J<|rM J J<|ae.guard J J J (fun hc=>?_) (fun hc=>?_)
  ·refine have h:=pN hc h;rM J J<|rY J J J<|aK h fun l2 e1 h=>ae.qv (Im J .none (.some _ _ _ J) J J e1) J<|rY J J J<|aK h fun v3 e2 h=>ba J (Jf e2) cR J<|rT J J J<|rM J J<|ae.guard J J J (fun hc=>?_) (fun hc=>?_)
   ·exact have h:=pN hc h;rM J J<|rY J J J<|aK h fun v4 e3 h=>ba J (Jf e3) cR J<|rT J J J<|rA J J<|rN<|ab.stop<|aj.lq [] ⟨v4,h,J⟩ J J
   ·exact have h:=sn hc h;rG J J J J<|rE J J J<|rA J J<|rN<|ab.stop<|aj.lq [] ⟨false,h,J⟩ J J
  ·exact have h:=sn hc h;rG J J J J<|rG J J J J<|rE J J J<|rM J J<|rG J J J J<|rG J J J J<|rE J J J<|rA J J<|rN<|ab.stop<|aj.lq [] ⟨false,h,J⟩ J J
 ·rintro aJ ⟨c1,h,rfl⟩
  unfold wu at h
  refine ab.ret<|?_
  cases h
  exact hP J J
theorem pE [GI:bU] {aa:Version} {r:Int} (h:eC aa=r):Pu Tryz.prog 53 [Version.av aa] (I r):=by
 unfold eC at h
 refine aR.bI Tryz.func53 J Tryz.ntmps53 Tryz.results53 J J ?_
 refine aL<|dh J J J J fun b1=>rA J J<|rN<|tS<|tS<|ab.cut (fun aJ=>∃ (c2:Bool),oN c2=r∧aJ=⟨19,[(18,.bool c2)],[]⟩) ?_ ?_
 ·refine tR<|rF J J J<|rL J J .p0 J J<|ba J (qJ J) cR J<|ae.qv (cV J) J<|rM J J<|ae.guard J J J (fun hc=>?_) (fun hc=>?_)
  ·rw [va hc] at h
   refine rF J J J<|rY J J J<|rL J J .p0 J J<|rY J J J<|ba J (qJ J) cR J<|rY J J J<|ae.qv (cV J) J<|rE J J J<|rM J J<|ae.guard J J J (fun hc=>?_) (fun hc=>?_)
   ·rw [va hc] at h
    exact rF J J J<|rY J J J<|rL J J .p0 J J<|rY J J J<|ba J (qJ J) cR J<|rY J J J<|ae.qv (cV J) J<|rE J J J<|rN<|ab.stop<|aj.lq [] ⟨!(vd aa.aF 0 9999),h,J⟩ J J
   ·rw [u9 hc] at h
    exact rG J J J J<|rG J J J J<|rG J J J J<|rT J J J<|rN<|ab.stop<|aj.lq [] ⟨true,h,J⟩ J J
  ·rw [u9 hc] at h
   exact rG J J J J<|rG J J J J<|rG J J J J<|rT J J J<|rM J J<|rG J J J J<|rG J J J J<|rG J J J J<|rG J J J J<|rT J J J<|rN<|ab.stop<|aj.lq [] ⟨true,h,J⟩ J J
 ·rintro aJ ⟨c2,h,rfl⟩
  unfold oN at h
  refine cB h J (fun h=>?_) (fun h=>?_)
  ·refine aL<|rA J J<|rN<|ab.ret<|?_
   obtain rfl:=h
   exact hP J J
  ·refine tK<|aL<|rA J J<|rN<|ab.ret<|?_
   obtain rfl:=h
   exact hP J J
theorem Lh [GI:bU] {aa:Int} {r:Bool} (h:AZ aa=r):Pu Tryz.prog 54 [I aa] (.bool r):=by
 unfold AZ at h
 refine aR.bI Tryz.func54 J Tryz.ntmps54 Tryz.results54 J J ?_
 refine aL<|rA J J<|rN<|aL<|rM J J<|ba J (qJ J) cR J<|rA J J<|rN<|ab.ret<|?_
 obtain rfl:=h
 exact hP J J
theorem A7 [GI:bU] {aa:Campaign} {r:Int} (h:nZ aa=some r):Pu Tryz.prog 15 [Campaign.av aa] (I r):=by
 unfold nZ at h
 refine aR.bI Tryz.func15 J Tryz.ntmps15 Tryz.results15 J J ?_
 refine aL<|dh J J J J fun b1=>rA J J<|rN<|tS<|aL<|rF J J J<|rL J J .p0 J J<|aK h fun v2 e1 h=>ba J (A6 e1) cR J<|ae.qv (cV J) J<|rN<|cB h J (fun h=>?_) (fun h=>?_)
 ·refine aL<|rA J J<|rN<|ab.ret<|?_
  cases h
  exact hP J J
 ·refine tK<|tS<|aL<|rF J J J<|ae.qv (aP J J .p0 J J) J<|ba J (pE J) cR J<|rA J J<|rN<|aL<|rM J J<|ae.qv (pH J J) J<|rN<|cD h J (fun h=>?_) (fun h=>?_)
  ·refine aL<|rM J J<|rA J J<|rN<|ab.ret<|?_
   cases h
   exact hP J J
  ·refine tK<|tS<|ab.block<|aL<|rF J J J<|rL J J .p0 J J<|ba J (Lh J) cR J<|ae.qv (cV J) J<|rA J J<|rN<|cB h J (fun h=>?_) (fun h=>?_)
   ·refine aL<|rA J J<|rN<|ab.ret<|?_
    cases h
    exact hP J J
   ·refine aL<|rF J J J<|rL J J .p0 J J<|ae.qv (cE J) J<|ae.qv (dt J J) J<|rA J J<|rN<|cD h J (fun h=>?_) (fun h=>?_)
    ·refine aL<|rA J J<|rN<|ab.ret<|?_
     cases h
     exact hP J J
    ·refine aL<|rF J J J<|rL J J .p0 J J<|ae.qv (cE J) J<|ae.qv (eB J J) J<|rA J J<|rN<|cD h J (fun h=>?_) (fun h=>?_)
     ·refine aL<|rA J J<|rN<|ab.ret<|?_
      cases h
      exact hP J J
     ·refine tK<|ab.cH<|aL<|rA J J<|rN<|tS<|aL<|rF J J J<|rL J J .p0 J J<|ae.qv (cE J) J<|rM J J<|rN<|ab.block<|ab.cS (fun x:Int×Int=>lp aa x.1 x.2) (fun x aJ=>aJ=⟨88,[(1,.ptr b1 0),(4,I x.1),(33,oQ aa.aI),(34,I (aa.aI.length:Int)),(35,I x.2)],[(b1,.cells (xz aa))]⟩) h ?_ ?_
      ·exact aj.lq [0] J J J
      ·intro x z1 aJ J1 ep h jF ek
       obtain ⟨n5,n6⟩:=x
       obtain rfl:=ep
       replace h:lp aa n5 n6=some z1:=h
       unfold lp at h
       refine aL<|ae.qv (bT J J) J<|rN<|tS<|cD h J (fun h=>?_) (fun h=>?_)
       ·refine tK<|tS<|ab.block<|aL<|aK h fun v7 e2 h=>ae.qv (bH J J J e2 J J) J<|ae.qv (aO J J J) J<|bA J J J J fun b8=>ar J J J J .p0 J J<|rN<|tS<|tS<|ab.cut (fun aJ=>∃ (c9:Bool),nJ n5 n6 v7 c9=some z1∧aJ=⟨88,[(1,.ptr b1 0),(4,I n5),(6,.ptr b8 0),(33,oQ aa.aI),(34,I (aa.aI.length:Int)),(35,I n6),(60,.bool c9)],[(b1,.cells (xz aa)),(b8,.cells (cE2 v7))]⟩) ?_ ?_
        ·refine tR<|rF J J J<|rL J J .p0 J J<|ba J (qJ J) cR J<|ae.qv (cV J) J<|rM J J<|ae.guard J J J (fun hc=>?_) (fun hc=>?_)
         ·rw [va hc] at h
          refine rF J J J<|rY J J J<|rL J J .p0 J J<|rY J J J<|ba J (qJ J) cR J<|rY J J J<|ae.qv (cV J) J<|rE J J J<|rM J J<|ae.guard J J J (fun hc=>?_) (fun hc=>?_)
          ·rw [va hc] at h
           refine rF J J J<|rY J J J<|rL J J .p0 J J<|rY J J J<|ba J (qJ J) cR J<|rY J J J<|ae.qv (cV J) J<|rE J J J<|rM J J<|ae.guard J J J (fun hc=>?_) (fun hc=>?_)
           ·rw [va hc] at h
            exact rF J J J<|rY J J J<|rL J J .p0 J J<|rY J J J<|ba J (qJ J) cR J<|rY J J J<|ae.qv (cV J) J<|rE J J J<|rN<|ab.stop<|aj.lq [1,0] ⟨!(vd v7.ed 0 1000),h,J⟩ J J
           ·rw [u9 hc] at h
            exact rG J J J J<|rG J J J J<|rG J J J J<|rT J J J<|rN<|ab.stop<|aj.lq [1,0] ⟨true,h,J⟩ J J
          ·rw [u9 hc] at h
           exact rG J J J J<|rG J J J J<|rG J J J J<|rT J J J<|rM J J<|rG J J J J<|rG J J J J<|rG J J J J<|rG J J J J<|rT J J J<|rN<|ab.stop<|aj.lq [1,0] ⟨true,h,J⟩ J J
         ·rw [u9 hc] at h
          exact rG J J J J<|rG J J J J<|rG J J J J<|rT J J J<|rM J J<|rG J J J J<|rG J J J J<|rG J J J J<|rG J J J J<|rT J J J<|rM J J<|rG J J J J<|rG J J J J<|rG J J J J<|rG J J J J<|rT J J J<|rN<|ab.stop<|aj.lq [1,0] ⟨true,h,J⟩ J J
        ·rintro aJ ⟨c9,h,rfl⟩
         unfold nJ at h
         refine cB h J (fun h=>?_) (fun h=>?_)
         ·refine aL<|rA J J<|rN<|ab.ret<|have h:=bZ h ek;?_
          cases h
          exact hP J J
         ·refine tK<|tR<|rM J J<|rF J J J<|rL J J .p1 J J<|ae.qv (br J J) J<|rA J J<|rN<|ab.cH<|tR<|ae.qv (br J J) J<|rM J J<|rN<|ab.stop<|?_
          cases h
          exact jF _ _ J<|aj.lq [0] J J J
       ·refine ab.exit J<|have h:=bZ h ek;?_
        unfold qF at h
        refine tS<|ab.block<|aL<|rM J J<|ae.qv (pH J J) J<|rA J J<|rN<|cD h J (fun h=>?_) (fun h=>?_)
        ·refine aL<|rA J J<|rN<|ab.ret<|?_
         cases h
         exact hP J J
        ·refine tS<|ab.cut (fun aJ=>∃ (I7:Bool),nK I7=some r∧aJ=⟨88,[(69,.bool I7)],[]⟩) ?_ ?_
         ·refine tR<|rF J J J<|rF J J J<|rL J J .p0 J J<|ba J (qJ J) cR J<|ae.qv (cV J) J<|rM J J<|ae.guard J J J (fun hc=>?_) (fun hc=>?_)
          ·rw [va hc] at h
           refine rF J J J<|rY J J J<|rF J J J<|rY J J J<|rL J J .p0 J J<|rY J J J<|ba J (qJ J) cR J<|rY J J J<|ae.qv (cV J) J<|rE J J J<|rM J J<|ae.guard J J J (fun hc=>?_) (fun hc=>?_)
           ·rw [va hc] at h
            exact rF J J J<|rY J J J<|rL J J .p0 J J<|rY J J J<|ba J (qJ J) cR J<|rY J J J<|ae.qv (cV J) J<|rE J J J<|rA J J<|rN<|ab.stop<|aj.lq [] ⟨!(vd aa.Room 1 500),h,J⟩ J J
           ·rw [u9 hc] at h
            exact rG J J J J<|rG J J J J<|rG J J J J<|rT J J J<|rA J J<|rN<|ab.stop<|aj.lq [] ⟨true,h,J⟩ J J
          ·rw [u9 hc] at h
           exact rG J J J J<|rG J J J J<|rG J J J J<|rG J J J J<|rT J J J<|rM J J<|rG J J J J<|rG J J J J<|rG J J J J<|rG J J J J<|rT J J J<|rA J J<|rN<|ab.stop<|aj.lq [] ⟨true,h,J⟩ J J
         ·rintro aJ ⟨I7,h,rfl⟩
          unfold nK at h
          refine cB h J (fun h=>?_) (fun h=>?_)
          ·refine aL<|rA J J<|rN<|ab.ret<|?_
           cases h
           exact hP J J
          ·refine tK<|ab.cH<|aL<|rA J J<|rN<|ab.ret<|?_
           cases h
           exact hP J J
theorem Jg [GI:bU] {aa:Range} {ai:Version} {r:Bool} (h:sA aa ai=some r):Pu Tryz.prog 132 [Range.av aa,.ch [I ai.aA,I ai.aD,I ai.aF]] (.bool r):=by
 unfold sA at h
 refine aR.bI Tryz.func132 J Tryz.ntmps132 Tryz.results132 J J ?_
 refine aL<|dh J J J J fun b1=>rA J J<|rN<|tS<|ab.cut (fun aJ=>∃ (c2:Bool),pv c2=some r∧aJ=⟨16,[(3,.bool c2)],[]⟩) ?_ ?_
 ·refine tR<|rF J J J<|ae.qv (aP J J .p0 J J) J<|ae.qv (aO J J J) J<|aK h fun v3 e1 h=>ba J (ji e1) cR J<|ae.qv (qM J J) J<|rM J J<|gT h J J J (fun h=>?_) (fun h=>?_)
  ·exact ae.qv (aO J J J) J<|rY J J J<|rF J J J<|rY J J J<|ae.qv (aP J J .p0 J J) J<|rY J J J<|aK h fun v4 e2 h=>ba J (ji e2) cR J<|rY J J J<|ae.qv (qM J J) J<|rT J J J<|rA J J<|rN<|ab.stop<|aj.lq [] ⟨decide (v4≤0),h,J⟩ J J
  ·exact rG J J J J<|rG J J J J<|rG J J J J<|rG J J J J<|rE J J J<|rA J J<|rN<|ab.stop<|aj.lq [] ⟨false,h,J⟩ J J
 ·rintro aJ ⟨c2,h,rfl⟩
  unfold pv at h
  refine ab.ret<|?_
  cases h
  exact hP J J
theorem Jh [GI:bU] {aa:ak} {ai:Version} {r:Bool} (h:xb aa ai=some r):Pu Tryz.prog 102 [ak.av aa,Version.av ai] (.bool r):=by
 unfold xb at h
 refine aR.bI Tryz.func102 J Tryz.ntmps102 Tryz.results102 J J ?_
 refine aL<|dh J J J J fun b1=>dh J J J J fun b2=>rA J J<|rN<|aL<|rF J J J<|rL J J .p1 J J<|ae.qv (mg J) J<|aK h fun v3 e1 h=>gO J (lH (fun e=>Jg e) e1) (.cons (.co (.refl _)) (.cons (.AB _ _ _ (.cons (.xG _ _ _ .p0 (.cons (.co (.refl _)) (.cons (.co (.refl _)) (.cons (.co (.refl _)) .nil)))) .nil)) .nil)) J J<|rA J J<|rN<|ab.ret<|?_
 cases h
 exact hP J J
theorem CX [GI:bU] {aa:ak} {r:Int} (h:pU aa=some r):Pu Tryz.prog 57 [ak.av aa] (I r):=by
 unfold pU at h
 refine aR.bI Tryz.func57 J Tryz.ntmps57 Tryz.results57 J J ?_
 refine aL<|dh J J J J fun b1=>rA J J<|rN<|tS<|aL<|rF J J J<|rL J J .p0 J J<|ae.qv (cE J) J<|ae.qv (eB J J) J<|rN<|cD h J (fun h=>?_) (fun h=>?_)
 ·refine aL<|rA J J<|rN<|ab.ret<|?_
  cases h
  exact hP J J
 ·refine tK<|tS<|aL<|rF J J J<|rL J J .p0 J J<|ae.qv (cE J) J<|rM J J<|rN<|ab.block<|ab.cS (fun x:Int=>mW aa x) (fun x aJ=>aJ=⟨64,[(1,.ptr b1 0),(13,PR aa.bF),(14,I (aa.bF.length:Int)),(15,I x)],[(b1,.cells (Eh aa))]⟩) h ?_ ?_
  ·exact aj.lq [0] J J J
  ·intro n3 z1 aJ J1 ep h jF ek
   obtain rfl:=ep
   replace h:mW aa n3=some z1:=h
   unfold mW at h
   refine aL<|ae.qv (bT J J) J<|rN<|tS<|cD h J (fun h=>?_) (fun h=>?_)
   ·refine tK<|tS<|ab.block<|aL<|rM J J<|aK h fun v4 e1 h=>ae.qv (bH J J J e1 J J) J<|ae.qv (aO J J J) J<|bA J J J J fun b5=>rA J J<|ar J J J J .p0 J J<|rN<|tS<|aL<|rF J J J<|ae.qv (aP J J .p0 J J) J<|rF J J J<|ae.qv (aP J J .p0 J J) J<|aW (xs:=([v4.vM,v4.mn]:List Version).map Version.av) J J J J J J<|ae.qv (cE J) J<|rM J J<|rN<|ab.block<|ab.cS (fun x:Int=>eM aa n3 v4 x) (fun x aJ=>aJ=⟨64,[(1,.ptr b1 0),(3,I n3),(4,.ptr b5 0),(13,PR aa.bF),(14,I (aa.bF.length:Int)),(15,I n3),(24,se [v4.vM,v4.mn]),(25,I ([v4.vM,v4.mn].length:Int)),(26,I x)],[(b1,.cells (Eh aa)),(b5,.cells (cE4 v4))]⟩) h ?_ ?_
    ·exact aj.lq [1,0] J J J
    ·intro n7 z2 aJ J2 ep h zm xd
     obtain rfl:=ep
     replace h:eM aa n3 v4 n7=some z2:=h
     unfold eM at h
     refine aL<|ae.qv (bT J J) J<|rN<|tS<|cD h J (fun h=>?_) (fun h=>?_)
     ·refine tK<|tS<|ab.block<|aL<|aK h fun v8 e2 h=>ae.qv (bH J J J e2 J J) J<|ae.qv (aO J J J) J<|bA J J J J fun b9=>ar J J J J .p0 J J<|rN<|aL<|ae.qv (aG J J .p0 J) J<|ba J (pE J) cR J<|rA J J<|rN<|aL<|rM J J<|ae.qv (pH J J) J<|rN<|cD h J (fun h=>?_) (fun h=>?_)
      ·refine aL<|rM J J<|rA J J<|rN<|ab.ret<|have h:=bZ h xd;have h:=bZ h ek;?_
       cases h
       exact hP J J
      ·refine tK<|ab.cH<|tR<|ae.qv (br J J) J<|rM J J<|rN<|ab.stop<|?_
       cases h
       exact zm _ _ J<|aj.lq [1,1] J J J
     ·refine ab.exit J<|have h:=bZ h xd;?_
      unfold pz at h
      refine ab.block<|aL<|rF J J J<|ae.qv (aP J J .p1 J J) J<|rF J J J<|ae.qv (aP J J .p1 J J) J<|aK h fun v10 e3 h=>ba J (ji e3) cR J<|ae.qv (eB J J) J<|rA J J<|rN<|cD h J (fun h=>?_) (fun h=>?_)
      ·refine aL<|rA J J<|rN<|ab.ret<|have h:=bZ h ek;?_
       cases h
       exact hP J J
      ·refine tS<|ab.cut (fun aJ=>∃ (BJ:Bool),mV n3 BJ=some z1∧aJ=⟨64,[(1,.ptr b1 0),(13,PR aa.bF),(14,I (aa.bF.length:Int)),(15,I n3),(43,.bool BJ)],[(b1,.cells (Eh aa))]⟩) ?_ ?_
       ·refine ab.dv (id:=15) (A:=[0,1,3,7,15,7,39,7,135,487,999,2023,4095,8191,16383,32767]) 16 mixed J (by kernel_rfl) (by kernel_rfl)<|AM.qv (aT J) J<|AM.qv (eB J J) J<|AM.qv (aT J) J<|AM.dJ J J J (fun hc=>?_) (fun hc=>?_)
        ·exact have h:=pN hc h;AM.qv (ax J J) J<|AM.ay J J J<|AM.qv (aP J J .p1 J J) J<|AM.ay J J J<|AM.qv (ax J J) J<|AM.ay J J J<|AM.qv (aM J J .p0 J) J<|AM.ay J J J<|AM.qv (aT J) J<|AM.ay J J J<|AM.qv (fy J J) J<|AM.ay J J J<|aK h fun v12 e4 h=>AM.qv (bH J J J e4 J J) J<|AM.ay J J J<|AM.qv (bq J J) J<|AM.ay J J J<|AM.qv (aO J J J) J<|AM.ay J J J<|aK h fun lF e5 h=>AM.gM J (ji e5) cR J<|AM.ay J J J<|AM.qv (qM J J) J<|AM.qv (gx J J) J<|AM.qv (bQ J) J<|AM.nil<|rN<|ab.stop<|aj.lq [0] ⟨decide (lF≤0),h,J⟩ J J
        ·exact have h:=AD hc h;AM.au J J J J<|AM.au J J J J<|AM.au J J J J<|AM.au J J J J<|AM.au J J J J<|AM.au J J J J<|AM.au J J J J<|AM.au J J J J<|AM.au J J J J<|AM.au J J J J<|AM.qv (eA J J) J<|AM.qv (bQ J) J<|AM.nil<|rN<|ab.stop<|aj.lq [0] ⟨false,h,J⟩ J J
       ·rintro aJ ⟨BJ,h,rfl⟩
        unfold mV at h
        refine cB h J (fun h=>?_) (fun h=>?_)
        ·refine aL<|rA J J<|rN<|ab.ret<|have h:=bZ h ek;?_
         cases h
         exact hP J J
        ·refine tK<|ab.cH<|ab.cH<|tR<|ae.qv (br J J) J<|rM J J<|rN<|ab.stop<|?_
         cases h
         exact jF _ _ J<|aj.lq [0] J J J
   ·refine ab.exit J<|have h:=bZ h ek;?_
    unfold sB at h
    refine tS<|aL<|ae.qv (aG J J .p0 J) J<|rF J J J<|ae.qv (aP J J .p0 J J) J<|aK h fun sT e6 h=>ba J (Jh e6) cR J<|rN<|cB h J (fun h=>?_) (fun h=>?_)
    ·refine aL<|rA J J<|rN<|ab.ret<|?_
     cases h
     exact hP J J
    ·refine tK<|aL<|rA J J<|rN<|ab.ret<|?_
     cases h
     exact hP J J
theorem CY [GI:bU] {aa:List ak} {r:Int} (h:pV aa=some r):Pu Tryz.prog 17 [o8 aa] (I r):=by
 unfold pV at h
 refine aR.bI Tryz.func17 J Tryz.ntmps17 Tryz.results17 J J ?_
 refine aL<|rA J J<|rN<|tS<|aL<|rM J J<|ae.qv (cE J) J<|ae.qv (eB J J) J<|rN<|cD h J (fun h=>?_) (fun h=>?_)
 ·refine aL<|rA J J<|rN<|ab.ret<|?_
  cases h
  exact hP J J
 ·refine tK<|tS<|aL<|rM J J<|ae.qv (cE J) J<|rM J J<|rN<|ab.block<|ab.cS (fun x:Int=>mZ aa x) (fun x aJ=>aJ=⟨84,[(0,o8 aa),(12,o8 aa),(13,I (aa.length:Int)),(14,I x)],[]⟩) h ?_ ?_
  ·exact aj.lq [] J J J
  ·intro n2 z1 aJ J1 ep h jF ek
   obtain rfl:=ep
   replace h:mZ aa n2=some z1:=h
   unfold mZ at h
   refine aL<|ae.qv (bT J J) J<|rN<|tS<|cD h J (fun h=>?_) (fun h=>?_)
   ·refine tK<|tS<|ab.block<|aL<|rM J J<|aK h fun v3 e1 h=>ae.qv (bH J J J e1 J J) J<|ae.qv (aO J J J) J<|bA J J J J fun b4=>rA J J<|ar J J J J .p0 J J<|rN<|tS<|aL<|rF J J J<|ae.qv (aP J J .p0 J J) J<|ba J (pE J) cR J<|rA J J<|rN<|aL<|rM J J<|ae.qv (pH J J) J<|rN<|cD h J (fun h=>?_) (fun h=>?_)
    ·refine aL<|rM J J<|rA J J<|rN<|ab.ret<|have h:=bZ h ek;?_
     cases h
     exact hP J J
    ·refine tK<|tS<|ab.block<|tS<|ab.cut (fun aJ=>∃ (c5:Bool),kQ n2 v3 c5=some z1∧aJ=⟨84,[(0,o8 aa),(4,.ptr b4 0),(12,o8 aa),(13,I (aa.length:Int)),(14,I n2),(25,.bool c5)],[(b4,.cells (Eh v3))]⟩) ?_ ?_
     ·refine ab.dv (id:=9) (A:=[0,1,3,7,7,23,63,127,255,7,519,2047,4095,8191,16383]) 15 mixed J (by kernel_rfl) (by kernel_rfl)<|AM.qv (aT J) J<|AM.qv (eB J J) J<|AM.qv (aT J) J<|AM.dJ J J J (fun hc=>?_) (fun hc=>?_)
      ·exact have h:=pN hc h;AM.qv (aT J) J<|AM.ay J J J<|AM.qv (aT J) J<|AM.ay J J J<|AM.qv (fy J J) J<|AM.ay J J J<|aK h fun v6 e2 h=>AM.qv (bH J J J e2 J J) J<|AM.ay J J J<|AM.qv (bq J J) J<|AM.ay J J J<|AM.qv (kJ J J J J) J<|AM.ay J J J<|AM.qv (ax J J) J<|AM.ay J J J<|AM.qv (aP J J .p0 J J) J<|AM.ay J J J<|aK h fun v7 e3 h=>AM.gM J (ji e3) cR J<|AM.ay J J J<|AM.qv (nP J J) J<|AM.qv (gx J J) J<|AM.qv (bQ J) J<|AM.nil<|rN<|ab.stop<|aj.lq [0] ⟨decide (0≤v7),h,J⟩ J J
      ·exact have h:=AD hc h;AM.au J J J J<|AM.au J J J J<|AM.au J J J J<|AM.au J J J J<|AM.au J J J J<|AM.au J J J J<|AM.au J J J J<|AM.au J J J J<|AM.au J J J J<|AM.qv (eA J J) J<|AM.qv (bQ J) J<|AM.nil<|rN<|ab.stop<|aj.lq [0] ⟨false,h,J⟩ J J
     ·rintro aJ ⟨c5,h,rfl⟩
      unfold kQ at h
      refine cB h J (fun h=>?_) (fun h=>?_)
      ·refine aL<|rA J J<|rN<|ab.ret<|have h:=bZ h ek;?_
       cases h
       exact hP J J
      ·refine aL<|rF J J J<|rL J J .p0 J J<|ae.qv (cE J) J<|ae.qv (dt J J) J<|rA J J<|rN<|cD h J (fun h=>?_) (fun h=>?_)
       ·refine aL<|rA J J<|rN<|ab.ret<|have h:=bZ h ek;?_
        cases h
        exact hP J J
       ·refine aL<|rF J J J<|rL J J .p0 J J<|ae.qv (cE J) J<|ae.qv (eB J J) J<|rA J J<|rN<|cD h J (fun h=>?_) (fun h=>?_)
        ·refine aL<|rA J J<|rN<|ab.ret<|have h:=bZ h ek;?_
         cases h
         exact hP J J
        ·refine tK<|ab.cH<|tS<|aL<|rF J J J<|rL J J .p0 J J<|ae.qv (cE J) J<|rM J J<|rN<|ab.block<|ab.cS (fun x:Int=>mY n2 v3 x) (fun x aJ=>aJ=⟨84,[(0,o8 aa),(4,.ptr b4 0),(12,o8 aa),(13,I (aa.length:Int)),(14,I n2),(51,vz v3.df),(52,I (v3.df.length:Int)),(53,I x)],[(b4,.cells (Eh v3))]⟩) h ?_ ?_
         ·exact aj.lq [0] J J J
         ·intro n9 z2 aJ J2 ep h zm xd
          obtain rfl:=ep
          replace h:mY n2 v3 n9=some z2:=h
          unfold mY at h
          refine aL<|ae.qv (bT J J) J<|rN<|tS<|cD h J (fun h=>?_) (fun h=>?_)
          ·refine tK<|tS<|ab.block<|aL<|rM J J<|aK h fun v10 e4 h=>ae.qv (bH J J J e4 J J) J<|ae.qv (aS J J J) J<|rA J J<|rA J J<|rN<|tS<|aL<|rM J J<|aK h fun v11 e5 h=>ba J (A6 e5) cR J<|ae.qv (cV J) J<|rN<|cB h J (fun h=>?_) (fun h=>?_)
           ·refine aL<|rA J J<|rN<|ab.ret<|have h:=bZ h xd;have h:=bZ h ek;?_
            cases h
            exact hP J J
           ·refine tK<|tS<|ab.cut (fun aJ=>∃ (c12:Bool),mX n9 c12=some z2∧aJ=⟨84,[(0,o8 aa),(4,.ptr b4 0),(12,o8 aa),(13,I (aa.length:Int)),(14,I n2),(51,vz v3.df),(52,I (v3.df.length:Int)),(53,I n9),(72,.bool c12)],[(b4,.cells (Eh v3))]⟩) ?_ ?_
            ·refine tR<|rM J J<|ae.qv (eB J J) J<|rM J J<|gT h J J J (fun h=>?_) (fun h=>?_)
             ·exact rM J J<|rY J J J<|rF J J J<|rY J J J<|rL J J .p0 J J<|rY J J J<|rM J J<|rY J J J<|ae.qv (fy J J) J<|rY J J J<|aK h fun lF e6 h=>ae.qv (bH J J J e6 J J) J<|rY J J J<|ae.qv (aS J J J) J<|rY J J J<|ae.qv (GY J J) J<|rT J J J<|rN<|ab.stop<|aj.lq [0] ⟨Op.bytesLess v10 lF||v10==lF,h,J⟩ J J
             ·exact rG J J J J<|rG J J J J<|rG J J J J<|rG J J J J<|rG J J J J<|rG J J J J<|rG J J J J<|rE J J J<|rN<|ab.stop<|aj.lq [0] ⟨false,h,J⟩ J J
            ·rintro aJ ⟨c12,h,rfl⟩
             unfold mX at h
             refine cB h J (fun h=>?_) (fun h=>?_)
             ·refine aL<|rA J J<|rN<|ab.ret<|have h:=bZ h xd;have h:=bZ h ek;?_
              cases h
              exact hP J J
             ·refine tK<|ab.cH<|tR<|ae.qv (br J J) J<|rM J J<|rN<|ab.stop<|?_
              cases h
              exact zm _ _ J<|aj.lq [0] J J J
          ·refine ab.exit J<|have h:=bZ h xd;?_
           unfold sC at h
           refine tS<|aL<|ae.qv (aG J J .p0 J) J<|aK h fun sT e7 h=>ba J (CX e7) cR J<|rA J J<|rN<|aL<|rM J J<|ae.qv (pH J J) J<|rN<|cD h J (fun h=>?_) (fun h=>?_)
           ·refine aL<|rM J J<|rA J J<|rN<|ab.ret<|have h:=bZ h ek;?_
            cases h
            exact hP J J
           ·refine tK<|aL<|rF J J J<|rL J J .p0 J J<|ba J (qJ J) cR J<|ae.qv (cV J) J<|rN<|cB h J (fun h=>?_) (fun h=>?_)
            ·refine aL<|rA J J<|rN<|ab.ret<|have h:=bZ h ek;?_
             cases h
             exact hP J J
            ·refine tK<|ab.cH<|tR<|ae.qv (br J J) J<|rM J J<|rN<|ab.stop<|?_
             cases h
             exact jF _ _ J<|aj.lq [] J J J
   ·refine ab.exit J<|have h:=bZ h ek;aL<|rA J J<|rN<|ab.ret<|?_
    cases h
    exact hP J J
end Go.Proofs.YthfphcbipahkmaaGreatDoor
