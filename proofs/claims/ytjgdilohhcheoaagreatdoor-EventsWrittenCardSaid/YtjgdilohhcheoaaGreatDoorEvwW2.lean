/- The code computes the plain functions: proofs written by shal.py. -/
import Derived.Test.YtjgdilohhcheoaaGreatDoorEvwW1
set_option maxHeartbeats 4000000
set_option maxRecDepth 100000
set_option linter.unusedVariables false
set_option linter.unusedSimpArgs false
namespace Go.Proofs.YtjgdilohhcheoaaGreatDoor
open Go Go.Eng Go.Proofs Go.Beacon
attribute [local irreducible] ah aa AQ QV aH aj LM AM
theorem o0 {ae:List Model} {ai:ab} {r:Int} (h:gi ae ai=some r):Pu Tryz.prog 43 [pa ae,ab.av ai] (I r):=by
 unfold gi at h
 refine aH.bj Tryz.func43 J Tryz.ntmps43 Tryz.results43 J J ?_
 refine aE<|fe J J J J fun b1=>rA J J<|rN<|tS<|aa.block<|aE<|rF J J J<|rL J J .p0 J J<|aG h fun v2 e1 h=>aM J (nV e1) cR J<|ah.qv (cz J) J<|rA J J<|rN<|cB h J (fun h=>?_) (fun h=>?_)
 ·refine aE<|rA J J<|rN<|aa.ret<|?_
  cases h
  exact hP J J
 ·refine tS<|aa.cut (fun aI=>∃ (c3:Bool),jc ae ai c3=some r∧aI=⟨52,[(0,pa ae),(3,.ptr b1 0),(12,.bool c3)],[(b1,.cells (x5 ai))]⟩) ?_ ?_
  ·refine tR<|rF J J J<|rL J J .p0 J J<|aM J (fp J) cR J<|rM J J<|ah.guard J J J (fun hc=>?_) (fun hc=>?_)
   ·rw [Et hc] at h
    refine rF J J J<|rY J J J<|rL J J .p0 J J<|rY J J J<|rF J J J<|rY J J J<|rL J J .p0 J J<|rY J J J<|aM J (fp J) cR J<|rE J J J<|rM J J<|ah.guard J J J (fun hc=>?_) (fun hc=>?_)
    ·rw [Et hc] at h
     exact rF J J J<|rY J J J<|rL J J .p0 J J<|rY J J J<|aM J (Am J) cR J<|rY J J J<|ah.qv (cz J) J<|rE J J J<|rA J J<|rN<|aa.stop<|aj.lq [0] ⟨!(mG ai.At),h,J⟩ J J
    ·rw [Es hc] at h
     exact rG J J J J<|rG J J J J<|rG J J J J<|rT J J J<|rA J J<|rN<|aa.stop<|aj.lq [0] ⟨true,h,J⟩ J J
   ·rw [Es hc] at h
    exact rG J J J J<|rG J J J J<|rG J J J J<|rG J J J J<|rT J J J<|rM J J<|rG J J J J<|rG J J J J<|rG J J J J<|rG J J J J<|rT J J J<|rA J J<|rN<|aa.stop<|aj.lq [0] ⟨true,h,J⟩ J J
  ·rintro aI ⟨c3,h,rfl⟩
   unfold jc at h
   refine cB h J (fun h=>?_) (fun h=>?_)
   ·refine aE<|rA J J<|rN<|aa.ret<|?_
    cases h
    exact hP J J
   ·refine aE<|rF J J J<|rL J J .p0 J J<|aM J (fp J) cR J<|rA J J<|rN<|cB h J (fun h=>?_) (fun h=>?_)
    ·refine aE<|rA J J<|rN<|aa.ret<|?_
     cases h
     exact hP J J
    ·refine aE<|rF J J J<|rL J J .p0 J J<|aG h fun v4 e2 h=>aM J (nV e2) cR J<|ah.qv (cz J) J<|rA J J<|rN<|cB h J (fun h=>?_) (fun h=>?_)
     ·refine aE<|rA J J<|rN<|aa.ret<|?_
      cases h
      exact hP J J
     ·refine tK<|aa.cr<|aE<|rM J J<|ah.qv (aS J J .p0 J) J<|aG h fun v5 e3 h=>aM J (vl e3) cR J<|rM J J<|rX J J J<|rX J J J<|gd J J J J fun b6=>aC J J J J .p0 J J<|rA J J<|rN<|tS<|tS<|aa.cut (fun aI=>∃ (c7:Bool),jb v5 c7=some r∧aI=⟨52,[(6,I v5.2),(50,.bool c7)],[]⟩) ?_ ?_
      ·refine tR<|rM J J<|ah.qv (bH J J) J<|rM J J<|ah.cJ J J J (fun hc=>?_) (fun hc=>?_)
       ·rw [qY hc] at h
        exact ah.qv (aS J J .p0 J) J<|rY J J J<|ah.qv (aS J J .p1 J) J<|rY J J J<|ah.qv (Fv (g:=ab.av) (X:=v5.1) (Y:=ai) J J J J J) J<|rT J J J<|rN<|aa.stop<|aj.lq [] ⟨decide (v5.1≠ai),h,J⟩ J J
       ·rw [qZ hc] at h
        exact rG J J J J<|rG J J J J<|rE J J J<|rN<|aa.stop<|aj.lq [] ⟨false,h,J⟩ J J
      ·rintro aI ⟨c7,h,rfl⟩
       unfold jb at h
       refine aa.cut (fun aI=>∃ (n8:Int),fX n8=some r∧aI=⟨52,[(6,I n8)],[]⟩) ?_ ?_
       ·refine cB h J (fun h=>?_) (fun h=>?_)
        ·exact tR<|rA J J<|rN<|aa.stop<|aj.lq [] ⟨(3:Int),h,J⟩ J J
        ·exact tK<|aa.stop<|aj.lq [] ⟨v5.2,h,J⟩ J J
       ·rintro aI ⟨n8,h,rfl⟩
        unfold fX at h
        refine aE<|rM J J<|rA J J<|rN<|aa.ret<|?_
        cases h
        exact hP J J
theorem wZ [GI:bz] {ae:ab} {ai:ab} {r:Int} (h:kW ae ai=some r):Pu Tryz.prog 127 [ab.av ae,ab.av ai] (I r):=by
 unfold kW at h
 refine aH.bj Tryz.func127 J Tryz.ntmps127 Tryz.results127 J J ?_
 refine aE<|fe J J J J fun b1=>fe J J J J fun b2=>rA J J<|rN<|tS<|aa.bM (id:=1) (A:=[0,1,0,4,15,0,32,0,128,511,0,1024,0,4096,16383,32767,65535,131071]) 18 mixed J (by kernel_rfl) (by kernel_rfl)<|AM.qv (au J J) J<|AM.qv (aB J J .p1 J) J<|AM.qv (au J J) J<|AM.qv (aB J J .p0 J) J<|AM.qW J (kQ J) cR J<|AM.qv (au J J) J<|AM.qv (aB J J .p1 J) J<|AM.qv (au J J) J<|AM.qv (aB J J .p0 J) J<|AM.qW J (kP J) cR J<|AM.qv (au J J) J<|AM.qv (aB J J .p1 J) J<|AM.qv (au J J) J<|AM.qv (aB J J .p0 J) J<|AM.qW J (kQ J) cR J<|AM.ec (xs:=([(cmp_Compare_int ae.aO ai.aO),(Lib.compareBytes ae.cj ai.cj),(cmp_Compare_int ae.No ai.No)]:List Int).map I) J J J J J J<|aG h fun v3 e1 h=>AM.qW J (vY e1) cR J<|AM.qv (bl J) J<|AM.nil<|rN<|aa.ret<|?_
 cases h
 exact hP J J
theorem vm {ae:List Model} {ai:List ab} {r:Int} (h:dR ae ai=some r):Pu Tryz.prog 77 [pa ae,tv ai] (I r):=by
 unfold dR at h
 refine aH.bj Tryz.func77 J Tryz.ntmps77 Tryz.results77 J J ?_
 refine aE<|rA J J<|rN<|tS<|aE<|rM J J<|ah.qv (ff J) J<|ah.qv (gx J J) J<|rN<|cD h J (fun h=>?_) (fun h=>?_)
 ·refine aE<|rA J J<|rN<|aa.ret<|?_
  cases h
  exact hP J J
 ·refine tK<|aE<|kE J fun b1=>rA J J<|rN<|tS<|aE<|rM J J<|ah.qv (ff J) J<|rM J J<|rN<|aa.block<|aa.eU (fun x:(List (ax×Int))×Int=>di ae ai x.1 x.2) (fun x aI=>aI=⟨55,[(0,pa ae),(1,tv ai),(5,.cd b1),(13,tv ai),(14,I (ai.length:Int)),(15,I x.2)],[(b1,Mq x.1)]⟩) h ?_ ?_
  ·exact aj.lq [0] J J J
  ·intro x z1 aI J1 iQ h lK fS
   obtain ⟨l4,n5⟩:=x
   obtain rfl:=iQ
   replace h:di ae ai l4 n5=some z1:=h
   unfold di at h
   refine aE<|ah.qv (ca J J) J<|rN<|tS<|cD h J (fun h=>?_) (fun h=>?_)
   ·refine tK<|tS<|aa.block<|aE<|rM J J<|aG h fun v6 e1 h=>ah.qv (cu J J J e1 J J) J<|ah.qv (bt J J J) J<|gd J J J J fun b7=>rA J J<|aC J J J J .p0 J J<|rN<|tS<|aE<|rM J J<|ah.qv (aS J J .p0 J) J<|aG h fun v8 e2 h=>aM J (o0 e2) cR J<|rA J J<|rN<|aE<|rM J J<|ah.qv (eT J J) J<|rN<|cD h J (fun h=>?_) (fun h=>?_)
    ·refine aE<|rM J J<|rA J J<|rN<|aa.ret<|have h:=cy h fS;?_
     cases h
     exact hP J J
    ·refine tK<|tS<|tS<|aa.cut (fun aI=>∃ (c9:Bool),fx l4 n5 v6 c9=some z1∧aI=⟨55,[(0,pa ae),(1,tv ai),(5,.cd b1),(7,.ptr b7 0),(13,tv ai),(14,I (ai.length:Int)),(15,I n5),(37,.bool c9)],[(b1,Mq l4),(b7,.cells (x5 v6))]⟩) ?_ ?_
     ·refine aa.bM (id:=10) (A:=[0,1,3,7,7,23,63,127,7,511,1023,2047]) 12 mixed J (by kernel_rfl) (by kernel_rfl)<|AM.qv (ar J) J<|AM.qv (gx J J) J<|AM.qv (ar J) J<|AM.cJ J J J (fun hc=>?_) (fun hc=>?_)
      ·exact have h:=nv hc h;AM.qv (ar J) J<|AM.aA J J J<|AM.qv (ar J) J<|AM.aA J J J<|AM.qv (cE J J) J<|AM.aA J J J<|aG h fun v10 e3 h=>AM.qv (cu J J J e3 J J) J<|AM.aA J J J<|AM.qv (bt J J J) J<|AM.aA J J J<|AM.qv (aS J J .p0 J) J<|AM.aA J J J<|aG h fun v11 e4 h=>AM.qW J (wZ e4) cR J<|AM.aA J J J<|AM.qv (oU J J) J<|AM.qv (fT J J) J<|AM.nil<|rN<|aa.stop<|aj.lq [1,0] ⟨decide ((0:Int)≤v11),h,J⟩ J J
      ·exact have h:=vz hc h;AM.aF J J J J<|AM.aF J J J J<|AM.aF J J J J<|AM.aF J J J J<|AM.aF J J J J<|AM.aF J J J J<|AM.aF J J J J<|AM.qv (eI J J) J<|AM.nil<|rN<|aa.stop<|aj.lq [1,0] ⟨false,h,J⟩ J J
     ·rintro aI ⟨c9,h,rfl⟩
      unfold fx at h
      refine cB h J (fun h=>?_) (fun h=>?_)
      ·refine aE<|rA J J<|rN<|aa.ret<|have h:=cy h fS;?_
       cases h
       exact hP J J
      ·refine tK<|tS<|aE<|rF J J J<|rL J J .p1 J J<|rM J J<|rF J J J<|rL J J .p1 J J<|aG h fun v12 e5 h=>ah.qv (pB (gk:=AV.str) (gv:=I) (M:=l4) (key:=v6.cj) (Z:=(0:Int)) J J .p0 J J J e5 J) J<|ah.qv (bh J J) J<|ah.qv (eT J J) J<|rN<|cD h J (fun h=>?_) (fun h=>?_)
       ·refine aE<|rA J J<|rN<|aa.ret<|have h:=cy h fS;?_
        cases h
        exact hP J J
       ·refine tK<|tR<|rM J J<|rF J J J<|rL J J .p1 J J<|rF J J J<|rL J J .p1 J J<|fA (gk:=AV.str) (gv:=I) (M:=l4) (key:=v6.cj) (v:=v6.No) J J J J .p0<|rN<|aa.cr<|tR<|ah.qv (bh J J) J<|rM J J<|rN<|aa.stop<|?_
        cases h
        exact lK _ _ J<|aj.lq [0] J J J
   ·refine aa.exit J<|have h:=cy h fS;?_
    unfold lR at h
    refine tS<|aE<|rM J J<|ah.qv (tZ (gk:=AV.str) (gv:=I) (M:=l4) J .p0) J<|ah.qv (gx J J) J<|rN<|cD h J (fun h=>?_) (fun h=>?_)
    ·refine aE<|rA J J<|rN<|aa.ret<|?_
     cases h
     exact hP J J
    ·refine tK<|aE<|rA J J<|rN<|aa.ret<|?_
     cases h
     exact hP J J
theorem oK {ae:List Model} {ai:List ab} {r:Int} (h:fM ae ai=some r):Pu Tryz.prog 41 [pa ae,tv ai] (I r):=by
 unfold fM at h
 refine aH.bj Tryz.func41 J Tryz.ntmps41 Tryz.results41 J J ?_
 refine aE<|rA J J<|rN<|tS<|aE<|rM J J<|aG h fun v1 e1 h=>aM J (oI e1) cR J<|rA J J<|rN<|aE<|rM J J<|ah.qv (eT J J) J<|rN<|cD h J (fun h=>?_) (fun h=>?_)
 ·refine aE<|rM J J<|rA J J<|rN<|aa.ret<|?_
  cases h
  exact hP J J
 ·refine tK<|aE<|rM J J<|rM J J<|aG h fun v2 e2 h=>aM J (vm e2) cR J<|rA J J<|rN<|aa.ret<|?_
  cases h
  exact hP J J
theorem zn [GI:bz] {ae:List ab} {r:(List (ax×Int))} (h:mZ ae=some r):aH Tryz.prog 42 [tv ae] [] (T1 (fun oP=>[(oP,Mq r)]) (fun oP=>.cd oP)):=by
 unfold mZ at h
 refine aH.fg ?_
 refine aH.bj Tryz.func42 J Tryz.ntmps42 Tryz.results42 J J ?_
 refine aE<|rA J J<|rN<|aE<|kE J fun b1=>rA J J<|rN<|tS<|aE<|rM J J<|ah.qv (ff J) J<|rM J J<|rN<|aa.block<|aa.eU (fun x:(List (ax×Int))×Int=>fB ae x.1 x.2) (fun x aI=>aI=⟨25,[(3,.cd b1),(7,tv ae),(8,I (ae.length:Int)),(9,I x.2)],[(b1,Mq x.1)]⟩) h ?_ ?_
 ·exact aj.lq [0] J J J
 ·intro x z1 aI J1 iQ h lK fS
  obtain ⟨l4,n5⟩:=x
  obtain rfl:=iQ
  replace h:fB ae l4 n5=some z1:=h
  unfold fB at h
  refine aE<|ah.qv (ca J J) J<|rN<|tS<|cD h J (fun h=>?_) (fun h=>?_)
  ·refine tK<|tS<|aa.block<|aE<|aG h fun v6 e1 h=>ah.qv (cu J J J e1 J J) J<|ah.qv (bt J J J) J<|gd J J J J fun b7=>aC J J J J .p0 J J<|rN<|tR<|rM J J<|rF J J J<|rL J J .p0 J J<|rM J J<|rF J J J<|rL J J .p0 J J<|aG h fun v8 e2 h=>ah.qv (pB (gk:=AV.str) (gv:=I) (M:=l4) (key:=v6.cj) (Z:=(0:Int)) J J .p1 J J J e2 J) J<|rF J J J<|rL J J .p0 J J<|ah.qv (Cy J J) J<|fA (gk:=AV.str) (gv:=I) (M:=l4) (key:=v6.cj) (v:=max v8 v6.No) J J J J .p1<|rN<|aa.cr<|tR<|ah.qv (bh J J) J<|rM J J<|rN<|aa.stop<|?_
   cases h
   exact lK _ _ J<|aj.lq [1] J J J
  ·refine aa.exit J<|have h:=cy h fS;aE<|rM J J<|rA J J<|rN<|aa.ret<|?_
   cases h
   exact hH J [0] J ⟨b1,J,J⟩
theorem DB [GI:bz] {r:aJ} (h:pn=r):aH Tryz.prog 80 [] [] (T7 (fun oP zo zp tw DC vn zq=>[(oP,.cells [.cd zo,.cd zp,.cd tw]),(zo,.mp (r.cx.map (fun e=>(AV.str e.1,(pA vn) e.2)))),(zp,JT r.bW),(tw,GV r.cX),(DC,.bU (gA iJ vn zq r.fa))]) (fun oP zo zp tw DC vn zq=>.ptr oP 0)):=by
 unfold pn at h
 refine aH.fg ?_
 refine aH.bj Tryz.func80 J Tryz.ntmps80 Tryz.results80 J J ?_
 refine aE<|rA J J<|rN<|aE<|kE J fun b1=>kE J fun b2=>kE J fun b3=>ah.qv (cW J J J J J) J<|fe J J J J fun b4=>ah.ghost<|aj.FM (kb:=iJ) fun b5 TU TW=>aj.here<|rA J J<|rN<|aa.ret<|?_
 obtain rfl:=h
 exact hH J [1,3,2,1,0] J ⟨b4,b1,b2,b3,b5,TU,TW,J,J⟩
theorem vo [GI:bz] {aQ:Bk} {mL:Bk} {mM:Bk} {lh:Bk} {Ms:Bk} {qz:Bk} {nn:Bk} {ae:aJ} {ai:aX} {ao:ab} {r:Int} (h:lA ae ai ao=r):aH Tryz.prog 81 [.ptr aQ 0,.ptr Ms 0,ab.av ao] [(aQ,.cells [.cd mL,.cd mM,.cd lh]),(Ms,.cells (zi ai qz nn)),(qz,uw ai.Device.bn),(nn,pR ai.aY)] (T0 ([(aQ,.cells [.cd mL,.cd mM,.cd lh]),(Ms,.cells (zi ai qz nn)),(qz,uw ai.Device.bn),(nn,pR ai.aY)]) (I r)):=by
 unfold lA at h
 refine aH.fg ?_
 refine aH.bj Tryz.func81 J Tryz.ntmps81 Tryz.results81 J J ?_
 refine aE<|fe J J J J fun b1=>rA J J<|rN<|aE<|rF J J J<|rL J J .p0 J J<|rF J J J<|rL J J .p0 J J<|ah.qv (cW J J J J J) J<|gd J J J J fun b2=>aC J J J J .p0 J J<|rN<|tS<|tS<|aa.bM (id:=2) (A:=[0,1,3,7,15,31,63,7,255,511]) 10 mixed J (by kernel_rfl) (by kernel_rfl)<|AM.qv (ar J) J<|AM.qv (FJ J J) J<|AM.qv (ar J) J<|AM.aF J J J J<|AM.aF J J J J<|AM.aF J J J J<|AM.aF J J J J<|AM.aF J J J J<|AM.aF J J J J<|AM.qv (fT J J) J<|AM.nil<|rN<|aa.sK J<|aE<|rA J J<|rN<|aa.ret<|?_
 obtain rfl:=h
 exact hH J [2,2,2,2] J ⟨J,J⟩
theorem si [GI:bz] {aQ:Bk} {zr:Bk} {jk:Nat→Bk} {qF:Nat→Nat→Bk} {mL:Bk} {mM:Bk} {lh:Bk} {ae:aJ} {ao:ab} {r:Int×aJ} (h:fY ae ao=some r):aH Tryz.prog 81 [.ptr aQ 0,.raw (.pointer none),ab.av ao] [(aQ,.cells [.cd mL,.cd mM,.cd lh]),(mL,.mp (ae.cx.map (fun e=>(AV.str e.1,(pA jk) e.2)))),(mM,JT ae.bW),(lh,GV ae.cX),(zr,.bU (gA iJ jk qF ae.fa))] (T2 (fun vp zt=>[(aQ,.cells [.cd mL,.cd mM,.cd lh]),(mL,.mp (r.2.cx.map (fun e=>(AV.str e.1,(pA vp) e.2)))),(mM,JT r.2.bW),(lh,GV r.2.cX),(zr,.bU (gA iJ vp zt r.2.fa))]) (fun vp zt=>I r.1)):=by
 unfold fY at h
 refine aH.fg ?_
 refine aH.bj Tryz.func81 J Tryz.ntmps81 Tryz.results81 J J ?_
 refine aE<|fe J J J J fun b1=>rA J J<|rN<|aE<|rF J J J<|rL J J .p0 J J<|rF J J J<|rL J J .p0 J J<|ah.qv (cW J J J J J) J<|gd J J J J fun b2=>aC J J J J .p0 J J<|rN<|tS<|tS<|aa.bM (id:=2) (A:=[0,1,3,7,15,31,63,7,255,511]) 10 mixed J (by kernel_rfl) (by kernel_rfl)<|AM.qv (ar J) J<|AM.qv (C9 J J) J<|AM.qv (ar J) J<|AM.aA J J J<|AM.qv (ar J) J<|AM.aA J J J<|AM.qv (aq J) J<|AM.aA J J J<|AM.qv (au J J) J<|AM.aA J J J<|AM.qv (aB J J .p2 J) J<|AM.aA J J J<|AM.qv (aS J J .p0 J) J<|AM.aA J J J<|aG h fun v3 e1 h=>AM.qv (pB (gk:=bx.av) (gv:=AV.bool) (M:=ae.bW) (key:=(⟨ao.Model,ao.az⟩:bx)) (Z:=false) J J .p4 J J J e1 J) J<|AM.qv (eI J J) J<|AM.nil<|rN<|cB h J (fun h=>?_) (fun h=>?_)
 ·refine aE<|rA J J<|rN<|aa.ret<|?_
  cases h
  exact hH J [2,2,2,2,2] J ⟨jk,qF,J,J⟩
 ·refine tK<|tS<|tS<|aa.bM (id:=4) (A:=[0,1,3,7,0,16,63,127,255,255,511,2047]) 12 mixed J (by kernel_rfl) (by kernel_rfl)<|AM.qv (ar J) J<|AM.qv (aq J) J<|AM.qv (au J J) J<|AM.qv (aB J J .p2 J) J<|AM.qv (au J J) J<|AM.qv (aB J J .p1 J) J<|aG h fun v4 e2 h=>AM.qv (A3 (gk:=AV.str) (gv:=AV.str) (M:=ae.cX) (key:=ao.Key) (Z:=[]) J J .p5 J J J e2 J) J<|AM.qv (ar J) J<|AM.qv (qO J J) J<|AM.qv (qO J J) J<|AM.qv (bl J) J<|AM.qv (bl J) J<|AM.nil<|rN<|aE<|rM J J<|rN<|cB h J (fun h=>?_) (fun h=>?_)
  ·refine aE<|rA J J<|rN<|aa.ret<|?_
   cases h
   exact hH J [2,2,2,2,2] J ⟨jk,qF,J,J⟩
  ·refine tK<|tS<|aa.bM (id:=7) (A:=[0,1,3,7,0,31]) 5 mixed J (by kernel_rfl) (by kernel_rfl)<|AM.qv (ar J) J<|AM.qv (aq J) J<|AM.qv (au J J) J<|AM.qv (aB J J .p2 J) J<|AM.qv (aS J J .p0 J) J<|AM.nil<|fA (gk:=bx.av) (gv:=AV.bool) (M:=ae.bW) (key:=(⟨ao.Model,ao.az⟩:bx)) (v:=true) J J J J .p4<|rN<|tS<|aa.bM (id:=8) (A:=[0,1,3,7,0,16,0,64,255]) 8 mixed J (by kernel_rfl) (by kernel_rfl)<|AM.qv (ar J) J<|AM.qv (aq J) J<|AM.qv (au J J) J<|AM.qv (aB J J .p2 J) J<|AM.qv (au J J) J<|AM.qv (aB J J .p1 J) J<|AM.qv (au J J) J<|AM.qv (aB J J .p1 J) J<|AM.nil<|fA (gk:=AV.str) (gv:=AV.str) (M:=ae.cX) (key:=ao.Key) (v:=ao.Device) J J J J .p5<|rN<|tS<|aa.gg (id:=9) (A:=[0,1,3,7,0,16,0,64,0,256,960,0,2048,0,8192,0,32768,122880,253952,524224,1048512,2097151]) (H0:=[]) (HH:=fun β=>[((JP (β 20)),.cells [.str ao.Device,.str ao.Model,.str [],I (0:Int),I (0:Int),I (0:Int),.nil,I ao.az,I (1:Int),.sl 3 (Ho (β 20)) 0 [(⟨ao.Key,ao.At,(345686400000:Int)⟩:Term)].length]),((Ho (β 20)),pR [(⟨ao.Key,ao.At,(345686400000:Int)⟩:Term)]),(b2,.cells [.str ao.Model,I ao.az]),(b1,.cells (x5 ao)),(aQ,.cells [.cd mL,.cd mM,.cd lh]),(mL,.mp (ae.cx.map (fun e=>(AV.str e.1,(pA jk) e.2)))),(mM,JT (gm ae.bW (⟨ao.Model,ao.az⟩:bx) true)),(lh,GV (gm ae.cX ao.Key ao.Device)),(zr,.bU (gA iJ jk qF ae.fa))]) 21 mixed J (by kernel_rfl) (by kernel_rfl) [⟨some 18,some 19,[],fun b=>(b,pR [(⟨ao.Key,ao.At,(345686400000:Int)⟩:Term)]),none,[]⟩,⟨some 19,some 20,[],fun b=>(b,pR [(⟨ao.Key,ao.At,(345686400000:Int)⟩:Term)]),none,[]⟩,⟨some 20,none,[],fun b=>(JP b,.cells [.str ao.Device,.str ao.Model,.str [],I (0:Int),I (0:Int),I (0:Int),.nil,I ao.az,I (1:Int),.sl 3 (Ho b) 0 [(⟨ao.Key,ao.At,(345686400000:Int)⟩:Term)].length]),none,[]⟩,⟨some 20,none,[],fun b=>(Ho b,pR [(⟨ao.Key,ao.At,(345686400000:Int)⟩:Term)]),none,[]⟩] [18,19,20] J (by kernel_rfl) J .nil (fun _=>J)<|AT.am 18 J J<|AM.qv (ar J) J<|AM.qv (aq J) J<|AM.qv (au J J) J<|AM.qv (aB J J .p2 J) J<|AM.qv (au J J) J<|AM.qv (aB J J .p1 J) J<|AM.qv (au J J) J<|AM.qv (aB J J .p1 J) J<|AM.qv (au J J) J<|AM.qv (aB J J .p1 J) J<|AM.qv (cW J J J J J) J<|AM.qv (au J J) J<|AM.qv (aB J J .p1 J) J<|AM.qv (au J J) J<|AM.qv (aB J J .p1 J) J<|AM.qv (au J J) J<|AM.qv (aB J J .p1 J) J<|AM.qv (cW J J J J J) J<|AM.nil<|AT.Ey (V:=fun b=>.sl 3 b 0 [(⟨ao.Key,ao.At,(345686400000:Int)⟩:Term)].length) (Ti:=[]) (Pi:=fun b=>[(b,pR [(⟨ao.Key,ao.At,(345686400000:Int)⟩:Term)])]) (fun _=>J) (fun _=>J) (fun _ _=>J) J (fun _=>J) J J J ?_ ?_
   ·exact jS J J J J J J fun b5=>ah.nil ⟨b5,_,J,J⟩
   refine AT.PY (V:=fun b=>.agg [.str ao.Device,.str ao.Model,.str [],I (0:Int),I (0:Int),I (0:Int),.nil,I ao.az,I (1:Int),.sl 3 b 0 [(⟨ao.Key,ao.At,(345686400000:Int)⟩:Term)].length]) (Ti:=fun β=>[((β 18),pR [(⟨ao.Key,ao.At,(345686400000:Int)⟩:Term)])]) (Pi:=fun b=>[(b,pR [(⟨ao.Key,ao.At,(345686400000:Int)⟩:Term)])]) (fun _=>J) (fun _=>J) (fun _ _=>J) (fun _=>J) (fun _=>J) J J J (fun β=>?_) ?_
   ·generalize β 18=b5
    exact ah.qv (cW J J J J J) J<|ah.nil ⟨b5,_,J,J⟩
   refine AT.P7 (V:=fun x y=>.ptr x 0) (Ti:=fun β=>[((β 19),pR [(⟨ao.Key,ao.At,(345686400000:Int)⟩:Term)])]) (Pi:=fun x y=>[(x,.cells [.str ao.Device,.str ao.Model,.str [],I (0:Int),I (0:Int),I (0:Int),.nil,I ao.az,I (1:Int),.sl 3 y 0 [(⟨ao.Key,ao.At,(345686400000:Int)⟩:Term)].length]),(y,pR [(⟨ao.Key,ao.At,(345686400000:Int)⟩:Term)])]) (fun _=>J) (fun _=>J) (fun _ _=>J) (fun _=>J) (fun _ _=>J) J J J (fun β=>?_) ?_
   ·generalize β 19=b6
    exact fe J J J J fun b7=>ah.nil ⟨b7,b6,_,J,J⟩
   refine AT.ra (fun _=>J) fun β=>?_
   generalize JP (β 20)=b8
   generalize Ho (β 20)=b9
   generalize β 18=b5
   generalize β 19=b6
   clear β
   refine ah.ghost<|aj.BN (j:=6) 2 (fun _=>.p0) J (fun _=>J) (fun _=>J) fun Mt=>aj.here<|aG h fun XE e3 h=>ah.ghost<|aj.FO (kb:=iJ) (v:=(⟨(⟨ao.Device,ao.Model,[],(⟨(0:Int),(0:Int),(0:Int)⟩:Version),[]⟩:gh),ao.az,(1:Int),[(⟨ao.Key,ao.At,(345686400000:Int)⟩:Term)]⟩:aX)) (s:=Df [Mt,b9]) (.cons .p1 (.cons .p0 (.cons .p0 .nil))) J (fun _ _=>.p6) fun NM TX TY TZ=>aj.here<|ah.ghost<|aj.Nj (Mf TY e3) .p3<|aj.here<|ah.ghost<|aj.eqs (s:=69) (dt:=.ptr (NM (ae.fa.length:Int).toNat) 0) J (IA TZ _)<|aj.here<|fA (gk:=AV.str) (gv:=(pA NM)) (M:=ae.cx) (key:=ao.Device) (v:=(ae.fa.length:Int)) J J J J .p3<|rN<|aE<|rA J J<|rN<|aa.ret<|?_
   cases h
   exact hH J [2,2,2,2,2] J ⟨NM,TX,J,J⟩
theorem qG [GI:bz] {ae:Term} {ai:ab} {r:Bool} (h:gU ae ai=r):Pu Tryz.prog 131 [Term.av ae,.mO [.str ai.cj,I ai.No,I ai.aO,I ai.At,I ai.Kind,.str ai.Device,.str ai.Model,.str ai.aK,I ai.az,.str ai.Key,.str ai.Name,.str ai.Value,I ai.aW,I ai.ak.dX,I ai.ak.dY,I ai.ak.dI]] (.bool r):=by
 unfold gU at h
 refine aH.bj Tryz.func131 J Tryz.ntmps131 Tryz.results131 J J ?_
 refine aE<|fe J J J J fun b1=>rA J J<|rN<|aE<|rF J J J<|rL J J .p0 J J<|ah.qv (eE J J) J<|ah.qv (bV J J J) J<|ah.qv (iI J J) J<|rA J J<|rN<|aa.ret<|?_
 obtain rfl:=h
 exact hP J J
theorem oS [GI:bz] {ae:List Term} {iF:Term→Option Bool} {dZ:FuncId} [bf Tryz.prog dZ] {fZ:List AV} (mK:∀ {y0:_} {u:Bool},iF y0=some u→Pu Tryz.prog dZ (Term.av y0 :: fZ) (.bool u)) {r:Int} (h:iD ae iF=some r):Pu Tryz.prog 116 [TO ae,.func (.func dZ) fZ] (I r):=by
 unfold iD at h
 refine aH.bj Tryz.func116 J Tryz.ntmps116 Tryz.results116 J J ?_
 refine aE<|rA J J<|rN<|tS<|aE<|rM J J<|ah.qv (ff J) J<|rM J J<|rN<|aa.block<|aa.eU (fun x:Int=>ek ae iF x) (fun x aI=>aI=⟨19,[(0,TO ae),(1,.func (.func dZ) fZ),(7,I (ae.length:Int)),(8,I x)],[]⟩) h ?_ ?_
 ·exact aj.lq [] J J J
 ·intro n2 z1 aI J1 iQ h lK fS
  obtain rfl:=iQ
  replace h:ek ae iF n2=some z1:=h
  unfold ek at h
  refine aE<|ah.qv (ca J J) J<|rN<|tS<|cD h J (fun h=>?_) (fun h=>?_)
  ·refine tK<|tS<|aa.block<|aE<|rM J J<|rA J J<|rN<|aE<|rM J J<|rM J J<|rM J J<|aG h fun v3 e1 h=>ah.qv (cu J J J e1 J J) J<|ah.qv (bt J J J) J<|aG h fun v4 e2 h=>pv J J (mK e2) cR J<|rN<|cB h J (fun h=>?_) (fun h=>?_)
   ·refine aE<|rM J J<|rA J J<|rN<|aa.ret<|have h:=cy h fS;?_
    cases h
    exact hP J J
   ·refine tK<|aa.cr<|tR<|ah.qv (bh J J) J<|rM J J<|rN<|aa.stop<|?_
    cases h
    exact lK _ _ J<|aj.lq [] J J J
  ·refine aa.exit J<|have h:=cy h fS;aE<|rA J J<|rN<|aa.ret<|?_
   cases h
   exact hP J J
theorem jn [GI:bz] {ae:List Term} {iF:Term→Option Bool} {dZ:FuncId} [bf Tryz.prog dZ] {fZ:List AV} (mK:∀ {y0:_} {u:Bool},iF y0=some u→Pu Tryz.prog dZ (Term.av y0 :: fZ) (.bool u)) {r:Bool} (h:cV ae iF=some r):Pu Tryz.prog 63 [TO ae,.func (.func dZ) fZ] (.bool r):=by
 unfold cV at h
 refine aH.bj Tryz.func63 J Tryz.ntmps63 Tryz.results63 J J ?_
 refine aE<|rA J J<|rN<|aE<|rM J J<|rM J J<|aG h fun v1 e1 h=>gy J (oS mK e1) (.cons (.co (.refl _)) (.cons (.co (.refl _)) .nil)) J J<|ah.qv (oU J J) J<|rA J J<|rN<|aa.ret<|?_
 cases h
 exact hP J J
theorem sG [GI:bz] {aQ:Bk} {mL:Bk} {mM:Bk} {lh:Bk} {Ms:Bk} {qz:Bk} {nn:Bk} {ae:aJ} {ai:aX} {ao:ab} {r:Int×aJ×aX} (h:gM ae ai ao=some r):aH Tryz.prog 82 [.ptr aQ 0,.ptr Ms 0,ab.av ao] [(aQ,.cells [.cd mL,.cd mM,.cd lh]),(lh,GV ae.cX),(Ms,.cells (zi ai qz nn)),(qz,uw ai.Device.bn),(nn,pR ai.aY)] (T2 (fun I1 I2=>[(aQ,.cells [.cd mL,.cd mM,.cd lh]),(lh,GV r.2.1.cX),(Ms,.cells (zi r.2.2 I1 I2)),(I1,uw r.2.2.Device.bn),(I2,pR r.2.2.aY)]) (fun I1 I2=>I r.1)):=by
 unfold gM at h
 refine aH.fg ?_
 refine aH.bj Tryz.func82 J Tryz.ntmps82 Tryz.results82 J J ?_
 refine aE<|fe J J J J fun b1=>rA J J<|rN<|tS<|aa.bM (id:=1) (A:=[0,1,3,7,0,16,48,112,240,496,1023,2047]) 12 mixed J (by kernel_rfl) (by kernel_rfl)<|AM.qv (ar J) J<|AM.qv (aq J) J<|AM.qv (au J J) J<|AM.qv (aB J J .p3 J) J<|AM.qv (ar J) J<|AM.qv (aq J) J<|AM.qv (au J J) J<|AM.qv (aB J J .p3 J) J<|AM.qv (eA J) J<|AM.qv (cE J J) J<|aG h fun v2 e1 h=>AM.qv (bc J J J e1) J<|AM.qv (bl J) J<|AM.nil<|rN<|tS<|aa.block<|aE<|rM J J<|ah.qv (aq J) J<|rF J J J<|rL J J .p3 J J<|ah.qv (bH J J) J<|rA J J<|rN<|cD h J (fun h=>?_) (fun h=>?_)
 ·refine aE<|rA J J<|rN<|aa.ret<|?_
  cases h
  exact hH J [1,1,1,1,1] J ⟨qz,nn,J,J⟩
 ·refine aE<|rM J J<|ah.qv (aq J) J<|rF J J J<|rL J J .p3 J J<|ah.qv (jR J) J<|aG h fun v3 e2 h=>gy J (jn (fun e=>qG (Option.some.inj e)) e2) (.cons (sW.sD .p5) (.cons (.uG _ _ _ (.cons (.CL _ _ _ .p0 (.cons (.co (.refl _)) (.cons (.co (.refl _)) (.cons (.co (.refl _)) (.cons (.co (.refl _)) (.cons (.co (.refl _)) (.cons (.co (.refl _)) (.cons (.co (.refl _)) (.cons (.co (.refl _)) (.cons (.co (.refl _)) (.cons (.co (.refl _)) (.cons (.co (.refl _)) (.cons (.co (.refl _)) (.cons (.co (.refl _)) (.cons (.co (.refl _)) (.cons (.co (.refl _)) (.cons (.co (.refl _)) .nil))))))))))))))))) .nil)) .nil)) J J<|rA J J<|rN<|cB h J (fun h=>?_) (fun h=>?_)
  ·refine aE<|rA J J<|rN<|aa.ret<|?_
   cases h
   exact hH J [1,1,1,1,1] J ⟨qz,nn,J,J⟩
  ·refine tK<|aa.cr<|tS<|tS<|aa.bM (id:=6) (A:=[0,1,3,7,0,16,63,127,255,255,511,2047]) 12 mixed J (by kernel_rfl) (by kernel_rfl)<|AM.qv (ar J) J<|AM.qv (aq J) J<|AM.qv (au J J) J<|AM.qv (aB J J .p1 J) J<|AM.qv (au J J) J<|AM.qv (aB J J .p0 J) J<|aG h fun v4 e3 h=>AM.qv (A3 (gk:=AV.str) (gv:=AV.str) (M:=ae.cX) (key:=ao.Key) (Z:=[]) J J .p2 J J J e3 J) J<|AM.qv (ar J) J<|AM.qv (qO J J) J<|AM.qv (qO J J) J<|AM.qv (bl J) J<|AM.qv (bl J) J<|AM.nil<|rN<|aE<|rM J J<|rN<|cB h J (fun h=>?_) (fun h=>?_)
   ·refine aE<|rA J J<|rN<|aa.ret<|?_
    cases h
    exact hH J [1,1,1,1,1] J ⟨qz,nn,J,J⟩
   ·refine tK<|tS<|tS<|aa.bM (id:=9) (A:=[0,1,0,4,12,28,63]) 7 mixed J (by kernel_rfl) (by kernel_rfl)<|AM.qv (au J J) J<|AM.qv (aB J J .p0 J) J<|AM.qv (ar J) J<|AM.qv (br J) J<|AM.qv (bg J J) J<|AM.qv (cw (g:=Term.av) J J (.inl .p5) e1 J) J<|AM.qv (ca J J) J<|AM.nil<|rN<|cD h J (fun h=>?_) (fun h=>?_)
    ·refine aE<|rA J J<|rN<|aa.ret<|?_
     cases h
     exact hH J [1,1,1,1,1] J ⟨qz,nn,J,J⟩
    ·refine tK<|tS<|aa.bM (id:=11) (A:=[0,1,3,7,0,16,48,112,255]) 8 mixed J (by kernel_rfl) (by kernel_rfl)<|AM.qv (ar J) J<|AM.qv (aq J) J<|AM.qv (au J J) J<|AM.qv (aB J J .p1 J) J<|AM.qv (ar J) J<|AM.qv (br J) J<|AM.qv (bg J J) J<|AM.qv (cw (g:=Term.av) J J (.inl .p5) e1 J) J<|AM.nil<|Da (gk:=AV.str) (gv:=AV.str) (M:=ae.cX) (key:=v2.Key) J J .p2<|rN<|tS<|aa.bM (id:=12) (A:=[0,1,3,7,0,16,0,64,255]) 8 mixed J (by kernel_rfl) (by kernel_rfl)<|AM.qv (ar J) J<|AM.qv (aq J) J<|AM.qv (au J J) J<|AM.qv (aB J J .p1 J) J<|AM.qv (au J J) J<|AM.qv (aB J J .p0 J) J<|AM.qv (au J J) J<|AM.qv (aB J J .p0 J) J<|AM.nil<|fA (gk:=AV.str) (gv:=AV.str) (M:=(o3 ae.cX v2.Key)) (key:=ao.Key) (v:=ao.Device) J J J J .p2<|rN<|tS<|aa.bM (id:=13) (A:=[0,0,2,6,14,0,32,126,255,511,1023]) 10 mixed J (by kernel_rfl) (by kernel_rfl)<|AM.qv (ar J) J<|AM.qv (ar J) J<|AM.qv (br J) J<|AM.qv (bg J J) J<|AM.qv (cw (g:=Term.av) J J (.inl .p5) e1 J) J<|AM.qv (au J J) J<|AM.qv (aB J J .p0 J) J<|AM.qv (Fe J J) J<|AM.qv (br J) J<|AM.qv (bg J J) J<|AM.nil<|bA (g:=Term.av) (vb:=(⟨v2.Key,v2.gn,min v2.To ao.aW⟩:Term)) J J J J e1 J .p5 J<|ah.ghost<|aj.eqs (s:=13) (dt:=.sl 3 nn 0 (ai.aY.set (aU ((ai.aY.length:Int) - (1:Int))).toNat (⟨v2.Key,v2.gn,min v2.To ao.aW⟩:Term)).length) J (by rw [List.length_set])<|aj.here<|ah.ghost<|aj.eqs (s:=17) (dt:=.sl 3 nn 0 (ai.aY.set (aU ((ai.aY.length:Int) - (1:Int))).toNat (⟨v2.Key,v2.gn,min v2.To ao.aW⟩:Term)).length) J (by rw [List.length_set])<|aj.here<|ah.ghost<|aj.eqs (s:=31) (dt:=.sl 3 nn 0 (ai.aY.set (aU ((ai.aY.length:Int) - (1:Int))).toNat (⟨v2.Key,v2.gn,min v2.To ao.aW⟩:Term)).length) J (by rw [List.length_set])<|aj.here<|ah.ghost<|aj.vC (j:=9) (dt:=.sl 3 nn 0 (ai.aY.set (aU ((ai.aY.length:Int) - (1:Int))).toNat (⟨v2.Key,v2.gn,min v2.To ao.aW⟩:Term)).length) .p3 J (by rw [List.length_set]) J<|aj.here<|rN<|tS<|aG h fun l5 e4 h=>aa.gg (id:=14) (A:=[0,0,2,6,14,0,32,0,128,480,992,2046,4095,8191,16383]) (H0:=[(nn,pR (ai.aY.set (aU ((ai.aY.length:Int) - (1:Int))).toNat (⟨v2.Key,v2.gn,min v2.To ao.aW⟩:Term)))]) (HH:=fun β=>[((β 11),pR l5),(b1,.cells (x5 ao)),(aQ,.cells [.cd mL,.cd mM,.cd lh]),(lh,GV (gm (o3 ae.cX v2.Key) ao.Key ao.Device)),(Ms,.cells [.str ai.Device.Key,.str ai.Device.Model,.str ai.Device.aK,I ai.Device.ak.dX,I ai.Device.ak.dY,I ai.Device.ak.dI,.sl 2 qz 0 ai.Device.bn.length,I ai.az,I ai.State,.sl 3 nn 0 (ai.aY.set (aU ((ai.aY.length:Int) - (1:Int))).toNat (⟨v2.Key,v2.gn,min v2.To ao.aW⟩:Term)).length]),(qz,uw ai.Device.bn)]) 12 mixed J (by kernel_rfl) (by kernel_rfl) [⟨none,some 11,[],fun _=>(nn,pR (ai.aY.set (aU ((ai.aY.length:Int) - (1:Int))).toNat (⟨v2.Key,v2.gn,min v2.To ao.aW⟩:Term))),none,[]⟩,⟨some 11,none,[],fun b=>(b,pR l5),none,[]⟩] [11] J (by kernel_rfl) J (.cons .p5 .nil) (fun _=>J)<|AT.am 11 J J<|AM.qv (ar J) J<|AM.qv (ar J) J<|AM.qv (aq J) J<|AM.qv (au J J) J<|AM.qv (aB J J .p3 J) J<|AM.qv (au J J) J<|AM.qv (aB J J .p0 J) J<|AM.qv (au J J) J<|AM.qv (aB J J .p0 J) J<|AM.qv (cW J J J J J) J<|AM.ec (xs:=([(⟨ao.Key,ao.At,(345686400000:Int)⟩:Term)]).map Term.av) J J J J J J<|AM.nil<|AT.Ey (V:=fun b=>.sl 3 b 0 l5.length) (Ti:=[(nn,pR (ai.aY.set (aU ((ai.aY.length:Int) - (1:Int))).toNat (⟨v2.Key,v2.gn,min v2.To ao.aW⟩:Term)))]) (Pi:=fun b=>[(b,pR l5)]) (fun _=>J) (fun _=>J) (fun _ _=>J) J (fun _=>J) J J J ?_ ?_
     ·exact iz (g:=Term.av) J J J J J J J J (.list _) e4 (fun _=>.p0) J fun b6=>ah.nil ⟨b6,_,J,J⟩
     refine AT.ra (fun _=>J) fun β=>?_
     generalize β 11=b6
     clear β
     refine ah.qv (aq J) J<|rF J J J<|aC J J J J .p4 J J<|rN<|aE<|rA J J<|rN<|aa.ret<|?_
     cases h
     exact hH J [2,2,2,2,0] J ⟨qz,b6,J,J⟩
theorem wb [GI:bz] {ae:aZ} {ai:ax} {r:Int} (h:gr ae ai=r):Pu Tryz.prog 133 [aZ.av ae,.str ai] (I r):=by
 unfold gr at h
 refine aH.bj Tryz.func133 J Tryz.ntmps133 Tryz.results133 J J ?_
 refine aE<|fe J J J J fun b1=>rA J J<|rN<|aE<|rF J J J<|rL J J .p0 J J<|rM J J<|aM J (kP J) cR J<|rA J J<|rN<|aa.ret<|?_
 obtain rfl:=h
 exact hP J J
theorem jY [GI:bz] {ae:List aZ} {ai:ax} {qE:aZ→ax→Option Int} {rB:FuncId} [bf Tryz.prog rB] {tA:List AV} (zk:∀ {y0 y1:_} {u:Int},qE y0 y1=some u→Pu Tryz.prog rB (aZ.av y0 :: .str y1 :: tA) (I u)) {r:Int×Bool} (h:bN ae ai qE=some r):Pu Tryz.prog 132 [Qu ae,.str ai,.func (.func rB) tA] (.mA [I r.1,.bool r.2]):=by
 unfold bN at h
 refine aH.bj Tryz.func132 J Tryz.ntmps132 Tryz.results132 J J ?_
 refine aE<|rA J J<|rA J J<|rN<|aE<|rM J J<|ah.qv (ff J) J<|rA J J<|rN<|aE<|rM J J<|rA J J<|rA J J<|rN<|tS<|aa.block<|aa.eU (fun x:Int×Int=>bq ae ai qE x.1 x.2) (fun x aI=>aI=⟨49,[(0,Qu ae),(1,.str ai),(2,.func (.func rB) tA),(8,I (ae.length:Int)),(9,I x.1),(10,I x.2)],[]⟩) h ?_ ?_
 ·exact aj.lq [] J J J
 ·intro x z1 aI J1 iQ h lK fS
  obtain ⟨n3,n4⟩:=x
  obtain rfl:=iQ
  replace h:bq ae ai qE n3 n4=some z1:=h
  unfold bq at h
  refine tS<|aE<|rM J J<|rM J J<|ah.qv (ca J J) J<|rN<|cD h J (fun h=>?_) (fun h=>?_)
  ·refine tK<|aa.block<|aE<|rM J J<|rM J J<|ah.qv (bh J J) J<|ah.qv (jh J) J<|ah.qv (CW J J (by decide)) J<|ah.qv (jh J) J<|rA J J<|rN<|aE<|rM J J<|rM J J<|rM J J<|aG h fun v5 e1 h=>ah.qv (cu J J J e1 J J) J<|ah.qv (bt J J J) J<|rM J J<|aG h fun v6 e2 h=>pv J J (zk e2) cR J<|ah.qv (ca J J) J<|rN<|aa.cut (fun aI=>∃ (n7:Int) (n8:Int),bF n7 n8=some z1∧aI=⟨49,[(0,Qu ae),(1,.str ai),(2,.func (.func rB) tA),(8,I (ae.length:Int)),(9,I n7),(10,I n8)],[]⟩) ?_ ?_
   ·refine cD h J (fun h=>?_) (fun h=>?_)
    ·exact tR<|rM J J<|ah.qv (bh J J) J<|rA J J<|rN<|aa.stop<|aj.lq [] ⟨aU ((aU (eJ .u64 (IntKind.u64.wrap (aU (n3+n4))) (1:Int)))+(1:Int)),n4,h,J⟩ J J
    ·exact tR<|rM J J<|rA J J<|rN<|aa.stop<|aj.lq [] ⟨n3,aU (eJ .u64 (IntKind.u64.wrap (aU (n3+n4))) (1:Int)),h,J⟩ J J
   ·rintro aI ⟨n7,n8,h,rfl⟩
    unfold bF at h
    refine aa.cr<|aa.stop<|?_
    cases h
    exact lK _ _ J<|aj.lq [] J J J
  ·refine aa.exit J<|have h:=cy h fS;?_
   unfold cP at h
   refine tS<|aa.cut (fun aI=>∃ (c9:Bool),bG n3 c9=some r∧aI=⟨49,[(6,I n3),(7,.bool c9)],[]⟩) ?_ ?_
   ·refine tR<|rM J J<|rM J J<|rM J J<|ah.qv (ca J J) J<|rM J J<|gT h J J J (fun h=>?_) (fun h=>?_)
    ·exact rM J J<|rY J J J<|rM J J<|rY J J J<|rM J J<|rY J J J<|aG h fun v10 e3 h=>ah.qv (cu J J J e3 J J) J<|rY J J J<|ah.qv (bt J J J) J<|rY J J J<|rM J J<|rY J J J<|aG h fun v11 e4 h=>pv J J (zk e4) cR J<|rY J J J<|ah.qv (bH J J) J<|rT J J J<|rA J J<|rA J J<|rN<|aa.stop<|aj.lq [] ⟨decide (v11=(0:Int)),h,J⟩ J J
    ·exact rG J J J J<|rG J J J J<|rG J J J J<|rG J J J J<|rG J J J J<|rG J J J J<|rG J J J J<|rE J J J<|rA J J<|rA J J<|rN<|aa.stop<|aj.lq [] ⟨false,h,J⟩ J J
   ·rintro aI ⟨c9,h,rfl⟩
    unfold bG at h
    refine aa.ret<|?_
    cases h
    exact hQ J J J
theorem qd [GI:bz] {aQ:Bk} {ae:List aZ} {ai ao:Int} {r:List aZ} (h:gj ae ai ao=some r):aH Tryz.prog 134 [.sl 2 aQ 0 ae.length,I ai,I ao] [(aQ,.arr 2 (ae.map aZ.av))] (T1 (fun oP=>[(oP,.arr 2 (r.map aZ.av))]) (fun oP=>.sl 2 oP 0 r.length)):=by
 obtain ⟨⟨h0,h1,h2⟩,rfl⟩:=GC h
 have hlen:0 < ae.length:=by omega
 have hz:(ae.take ai.toNat++ae.drop ao.toNat).length≤ae.length:=by simp;omega
 refine aH.fg ?_
 refine aH.bj Tryz.func134 J Tryz.ntmps134 Tryz.results134 J J ?_
 refine aa.ghost (aj.P2 (s:=0) J hlen (fun m cap hb Hn yQ=>aj.here ?_))
 refine aa.seq ?_
 refine aa.region ?_
 refine ah.qv (bl J) J ?_
 refine ah.nil ?_
 refine aa.seq ?_
 refine aa.region ?_
 refine ah.qv (ar J) J ?_
 refine ah.qv (ar J) J ?_
 refine ah.qv (ar J) J ?_
 refine ah.qv (ar J) J ?_
 refine ah.qv (wQ J) J ?_
 refine ah.qv (BU J J J J h0 (by omega) h2 (by omega)) J ?_
 refine ah.nil ?_
 refine aa.seq ?_
 refine aa.seq ?_
 refine aa.region ?_
 refine ah.qv (ar J) J ?_
 refine ah.qv (ar J) J ?_
 refine ah.qv (bH J J) J ?_
 refine ah.nil ?_
 refine aa.yF J (fun hc=>absurd hc (by omega)) (fun hc=>?_)
 refine aa.skip ?_
 refine aa.seq ?_
 refine aa.region ?_
 refine ah.qv (ar J) J ?_
 refine ah.qv (wQ J) J ?_
 refine ah.qv (bl J) J ?_
 refine ah.nil ?_
 refine aa.seq ?_
 refine aa.bM (id:=5) (A:=[0,0,3,0,0,24,63,127]) 6 mixed J (by kernel_rfl) (by kernel_rfl) ?_
 refine AM.qv (ar J) J ?_
 refine AM.qv (ar J) J ?_
 refine AM.qv (r9 J J h0 (by omega)) J ?_
 refine AM.qv (ar J) J ?_
 refine AM.qv (ar J) J ?_
 refine AM.qv (lv (sz:=2) (b:=aQ) J J J hb yQ (by omega) h2 Hn) J ?_
 refine AM.nil ?_
 refine De (g:=aZ.av) (Xs:=ae) (I':=ai) (J:=ao) h0 (by omega) h2 Hn J J J J J hb yQ .here .here ?_
 refine ah.qv (bl J) J ?_
 refine ah.nil ?_
 refine aa.seq ?_
 refine aa.region ?_
 refine ah.qv (ar J) J ?_
 refine ah.qv (ar J) J ?_
 refine ah.qv (wQ J) J ?_
 refine ah.qv (ar J) J ?_
 refine ah.qv (BT (sz:=2) (b:=aQ) J J J J hb yQ (by omega) (by omega) (by omega)) J ?_
 refine BV (xs:=(ae.take ai.toNat++ae.drop ao.toNat).map aZ.av) J J J J J J (by rw [List.length_map,Int.toNat_natCast];exact Nat.le_refl _) .here ?_
 refine ah.nil ?_
 refine aa.seq ?_
 refine aa.region ?_
 refine ah.qv (ar J) J ?_
 refine ah.qv (bl J) J ?_
 refine ah.nil ?_
 refine aa.ret ?_
 refine aj.Ir (s:=6) (sz:=2) J hb (by omega) yQ ?_
 exact aj.here ⟨_,.cons (.tmp _ _ J) .nil,_,.cons .here .nil,⟨aQ,J,J⟩⟩
theorem qe [GI:bz] {aQ Hu:Bk} {ae:List aZ} {ai:Int} {ao:List aZ} {r:List aZ} (h:eM ae ai ao=some r):aH Tryz.prog 135 [.sl 2 aQ 0 ae.length,I ai,.sl 2 Hu 0 ao.length] [(aQ,.arr 2 (ae.map aZ.av)),(Hu,.arr 2 (ao.map aZ.av))] (T1 (fun oP=>[(oP,.arr 2 (r.map aZ.av))]) (fun oP=>.sl 2 oP 0 r.length)):=by
 unfold eM at h
 obtain ⟨y,k,rfl,rfl,hk,hl,rfl⟩:=GN h
 have XQ:(ae.take k++y :: ae.drop k).length=ae.length+1:=by simp;omega
 refine aH.fg ?_
 refine aH.bj Tryz.func135 J Tryz.ntmps135 Tryz.results135 J J ?_
 refine aa.seq ?_
 refine aa.region ?_
 refine ah.qv (bl J) J ?_
 refine ah.nil ?_
 refine aa.seq ?_
 refine aa.region ?_
 refine ah.qv (ar J) J ?_
 refine ah.qv (ar J) J ?_
 refine ah.qv (rS J J (.some _ _ _ J) .none (show (0:Int)≤(k:Int) by omega) (show (k:Int)≤(ae.length:Int) by omega) (Int.le_refl _)) J ?_
 refine ah.nil ?_
 refine aa.seq ?_
 refine aa.region ?_
 refine ah.qv (ar J) J ?_
 refine ah.qv (eA J) J ?_
 refine ah.qv (bl J) J ?_
 refine ah.nil ?_
 refine aa.seq ?_
 refine aa.seq ?_
 refine aa.region ?_
 refine ah.qv (ar J) J ?_
 refine ah.qv (bH J J) J ?_
 refine ah.nil ?_
 refine aa.yF J (fun hc=>absurd hc (by simp)) (fun hc=>?_)
 refine aa.skip ?_
 refine aa.seq ?_
 refine aa.region ?_
 refine ah.qv (ar J) J ?_
 refine ah.qv (eA J) J ?_
 refine ah.qv (bl J) J ?_
 refine ah.nil ?_
 refine aa.seq ?_
 refine aa.seq ?_
 refine aa.region ?_
 refine ah.qv (ar J) J ?_
 refine ah.qv (ar J) J ?_
 refine ah.qv (bH J J) J ?_
 refine ah.nil ?_
 refine aa.yF J (fun hc=>?_) (fun hc=>?_)
 ·have Fy:k=ae.length:=by omega
  refine aa.seq ?_
  refine aa.region ?_
  refine ah.qv (ar J) J ?_
  refine ah.qv (ar J) J ?_
  refine iz (g:=aZ.av) (Zs:=ae.take k++y :: ae.drop k) rfl rfl rfl rfl rfl rfl rfl rfl (.whole _ _ _ (.inl (iE.next (iE.here (b':=Hu) (o':=.arr 2 ([y].map aZ.av)))).lp) rfl) (by rw [app,if_pos (by simp;omega)];subst Fy;simp) (fun _=>.p0) rfl fun b3=>?_
  refine ah.qv (bl J) J ?_
  refine ah.nil ?_
  refine aa.ret ?_
  exact aj.here ⟨_,.cons (.tmp _ _ J) .nil,_,.cons .here .nil,⟨b3,J,J⟩⟩
 have Fy:k < ae.length:=by omega
 refine aa.skip ?_
 refine aa.ghost (aj.P2 (s:=0) J (show 0 < ae.length by omega) (fun m cap hb Hn yQ=>aj.here ?_))
 refine aa.seq ?_
 refine aa.seq ?_
 refine aa.region ?_
 refine ah.qv (ar J) J ?_
 refine ah.qv (ar J) J ?_
 refine ah.qv (bh J J) J ?_
 refine ah.qv (ar J) J ?_
 refine ah.qv (GM J) J ?_
 refine ah.qv (gx J J) J ?_
 refine ah.nil ?_
 have w1:IntKind.i64.wrap ((ae.length:Int)+(([y].length:Nat):Int))=ae.length+1:=tP ⟨by simp;omega,by simp;omega⟩
 have w2:IntKind.i64.wrap ((k:Int)+(([y].length:Nat):Int))=k+1:=tP ⟨by simp;omega,by simp;omega⟩
 refine aa.yF J (fun hc=>?_) (fun hc=>?_)
 ·have CN:cap < ae.length+1:=by rw [w1] at hc;omega
  have w3:IntKind.i64.wrap (IntKind.i64.wrap ((ae.length:Int)+(([y].length:Nat):Int)) - (k:Int))=((ae.length+1 - k:Nat):Int):=by rw [w1];exact (tP ⟨by omega,by omega⟩).trans (by omega)
  refine aa.seq ?_
  refine aa.region ?_
  refine ah.qv (ar J) J ?_
  refine ah.qv (ar J) J ?_
  refine ah.qv (r9 J J (show (0:Int)≤(k:Int) by omega) (show (k:Int)≤(cap:Int) by omega)) J ?_
  refine ah.qv (ar J) J ?_
  refine ah.qv (ar J) J ?_
  refine ah.qv (bh J J) J ?_
  refine ah.qv (ar J) J ?_
  refine ah.qv (cE J J) J ?_
  refine ah.ghost (aj.eqs (s:=39) (dt:=I ((ae.length+1 - k:Nat):Int)) J (congrArg I w3).symm (aj.here ?_))
  refine EM (g:=aZ.av) (Z:=((⟨[],[]⟩:aZ):aZ)) (Xs:=ae) (len:=k) J J J J J J J J J hb (iE.here (b':=aQ) (o':=.arr 2 (ae.map aZ.av))).lp (by omega) (by omega) (by simp only [Int.toNat_natCast];omega) (by omega) (fun b3=>?_)
  refine ah.qv (bl J) J ?_
  refine ah.nil ?_
  refine aa.seq ?_
  refine aa.region ?_
  refine ah.qv (ar J) J ?_
  refine ah.qv (ar J) J ?_
  refine ah.qv (rS J J (.some _ _ _ J) .none (show (0:Int)≤(k:Int) by omega) (show (k:Int)≤((k+(ae.length+1 - k):Nat):Int) by omega) (Int.le_refl _)) J ?_
  refine ah.ghost (aj.eqs (s:=43) (dt:=.sl 2 b3 k (ae.length+1 - k)) J (show _=AV.sl 2 b3 (0+k) (k+(ae.length+1 - k) - k) by rw [Nat.zero_add,Nat.add_sub_cancel_left]) (aj.here ?_))
  refine ah.qv (ar J) J ?_
  refine B0 (g:=aZ.av) (Xs:=ae.take k++List.replicate (ae.length+1 - k) (((⟨[],[]⟩:aZ):aZ):aZ)) (Ys:=[y]) (k:=[y].length) (L:=k) (N:=ae.length+1 - k) J J J J J (uu.whole (iE.next (iE.next (iE.here (b':=Hu) (o':=.arr 2 ([y].map aZ.av))))).lp (by simp;omega)) (by simp) (by simp;omega) (by simp;omega) (K2 Fy) .here ?_
  refine ah.nil ?_
  refine aa.seq ?_
  refine aa.bM (id:=11) (A:=[0,0,0,6,15,0,0,96,255]) 8 mixed J (by kernel_rfl) (by kernel_rfl) ?_
  refine AM.qv (ar J) J ?_
  refine AM.qv (ar J) J ?_
  refine AM.qv (ar J) J ?_
  refine AM.qv (bh J J) J ?_
  refine AM.qv (rS J J (.some _ _ _ J) .none (by rw [show eZ (some (IntKind.i64.wrap ((k:Int)+(([y].length:Nat):Int))))=IntKind.i64.wrap ((k:Int)+(([y].length:Nat):Int)) from J,w2];omega) (by rw [show eZ (some (IntKind.i64.wrap ((k:Int)+(([y].length:Nat):Int))))=IntKind.i64.wrap ((k:Int)+(([y].length:Nat):Int)) from J,w2];show (k:Int)+1≤((k+(ae.length+1 - k):Nat):Int);omega) (Int.le_refl _)) J ?_
  refine AM.qv (ar J) J ?_
  refine AM.qv (ar J) J ?_
  refine AM.qv (lv (sz:=2) (b:=aQ) J J J hb yQ (show (0:Int)≤(k:Int) by omega) (show (k:Int)≤(ae.length:Int) by omega) Hn) J ?_
  refine AM.nil ?_
  refine ah.ghost (aj.eqs (s:=50) (dt:=.sl 2 b3 (k+1) (ae.length - k)) J (show _=AV.sl 2 b3 (0+(IntKind.i64.wrap ((k:Int)+(([y].length:Nat):Int))).toNat) (((k+(ae.length+1 - k):Nat):Int).toNat - (IntKind.i64.wrap ((k:Int)+(([y].length:Nat):Int))).toNat) by rw [w2,show ((k:Int)+1).toNat=k+1 by omega,Nat.zero_add,show ((k+(ae.length+1 - k):Nat):Int).toNat - (k+1)=ae.length - k by omega]) (aj.here ?_))
  refine B0 (g:=aZ.av) (Xs:=ae.take k++y :: List.replicate (ae.length - k) (((⟨[],[]⟩:aZ):aZ):aZ)) (Ys:=(ae.drop k).take (ae.length - k)) (k:=ae.length - k) (L:=k+1) (N:=ae.length - k) J J J J J (uu.Mi (Xs:=ae) (off:=k) (len:=ae.length - k) (iE.next (iE.here (b':=aQ) (o':=.arr 2 (ae.map aZ.av)))).lp (Nat.min_self _) (by omega)) (by omega) (Nat.le_refl _) (by simp;omega) (K3 Fy) .here ?_
  refine ah.nil ?_
  refine aa.seq ?_
  refine aa.region ?_
  refine ah.qv (ar J) J ?_
  refine ah.qv (bl J) J ?_
  refine ah.nil ?_
  refine aa.ret ?_
  refine aj.eqs (s:=6) (dt:=.sl 2 b3 0 (ae.take k++y :: ae.drop k).length) J (show _=AV.sl 2 b3 0 (k+(ae.length+1 - k)) by rw [XQ,show k+(ae.length+1 - k)=ae.length+1 by omega]) ?_
  exact aj.here ⟨_,.cons (.tmp _ _ J) .nil,_,.cons .here .nil,⟨b3,J,J⟩⟩
 ·have qT:ae.length+1≤cap:=by rw [w1] at hc;omega
  obtain ⟨x,hx⟩:∃ x,ae[k]? =some x:=⟨ae[k],by simp [Fy]⟩
  have w4:(IntKind.i64.wrap ((ae.length:Int)+(([y].length:Nat):Int))).toNat=ae.length+1:=by rw [w1];omega
  have w5:(IntKind.i64.wrap ((k:Int)+(([y].length:Nat):Int))).toNat=k+1:=by rw [w2];omega
  refine aa.skip ?_
  refine aa.seq ?_
  refine aa.region ?_
  refine ah.qv (ar J) J ?_
  refine ah.qv (ar J) J ?_
  refine ah.qv (ar J) J ?_
  refine ah.qv (bh J J) J ?_
  refine ah.qv (r9 J J (by rw [w1];omega) (by rw [w1];omega)) J ?_
  refine ah.qv (bl J) J ?_
  refine ah.ghost (aj.eqs (s:=0) (dt:=Ee m (ae.length+1) cap) J (congrArg (fun z=>Ee m z cap) w4).symm (aj.here ?_))
  refine ah.nil ?_
  refine aa.seq ?_
  refine aa.seq ?_
  refine aa.region ?_
  refine ah.qv (ar J) J ?_
  refine ah.qv (ar J) J ?_
  refine ah.qv (ar J) J ?_
  refine ah.qv (ar J) J ?_
  refine ah.qv (bh J J) J ?_
  refine ah.qv (lv (sz:=2) (b:=aQ) J J J hb yQ (by rw [w2];omega) (by rw [w2];omega) qT) J ?_
  refine ah.ghost (aj.eqs (s:=66) (dt:=.sl 2 aQ (k+1) (ae.length - k)) J (by rw [w5,show ae.length+1 - (k+1)=ae.length - k by omega]) (aj.here ?_))
  refine EK (f:=181) (t:=61) (tb:=4) (fun args w=>by rw [run_callFunc_extern Tryz.func181 (by kernel_rfl) (by kernel_rfl) (by kernel_rfl) (e:=Extern.SlicesOverlaps.overlaps #[61,61] #[4]) (by kernel_rfl)]) J J (by simp) (show 0 < ae.length - k by omega) J J J J ?_
  refine ah.qv (cz J) J ?_
  refine ah.nil ?_
  refine aa.sK J ?_
  refine aa.seq ?_
  refine aa.bM (id:=15) (A:=[0,0,0,6,15,0,0,96,255]) 8 mixed J (by kernel_rfl) (by kernel_rfl) ?_
  refine AM.qv (ar J) J ?_
  refine AM.qv (ar J) J ?_
  refine AM.qv (ar J) J ?_
  refine AM.qv (bh J J) J ?_
  refine AM.qv (lv (sz:=2) (b:=aQ) J J J hb yQ (by rw [w2];omega) (by rw [w2];omega) qT) J ?_
  refine AM.qv (ar J) J ?_
  refine AM.qv (ar J) J ?_
  refine AM.qv (lv (sz:=2) (b:=aQ) J J J hb yQ (show (0:Int)≤(k:Int) by omega) (show (k:Int)≤((ae.length+1:Nat):Int) by omega) qT) J ?_
  refine AM.nil ?_
  refine ah.ghost (aj.eqs (s:=73) (dt:=.sl 2 aQ (k+1) (ae.length - k)) J (by rw [w5,show ae.length+1 - (k+1)=ae.length - k by omega]) (aj.here ?_))
  refine B0 (g:=aZ.av) (Xs:=ae) (Ys:=(ae.drop k).take (ae.length - k)) (k:=ae.length - k) (L:=k+1) (N:=ae.length - k) J J J J J (uu.Mi (Xs:=ae) (off:=k) (len:=ae.length+1 - k) (iE.here (b':=aQ) (o':=.arr 2 (ae.map aZ.av))).lp (Nat.min_eq_right (by omega)) (by omega)) (by omega) (Nat.le_refl _) (by omega) (GO Fy hx) .here ?_
  refine ah.nil ?_
  refine aa.seq ?_
  refine aa.region ?_
  refine ah.qv (ar J) J ?_
  refine ah.qv (ar J) J ?_
  refine ah.qv (lv (sz:=2) (b:=aQ) J J J hb yQ (show (0:Int)≤(k:Int) by omega) (show (k:Int)≤((ae.length+1:Nat):Int) by omega) qT) J ?_
  refine ah.qv (ar J) J ?_
  refine B0 (g:=aZ.av) (Xs:=ae.take k++x :: ae.drop k) (Ys:=[y]) (k:=[y].length) (L:=k) (N:=ae.length+1 - k) J J J J J (uu.whole (iE.next (iE.here (b':=Hu) (o':=.arr 2 ([y].map aZ.av)))).lp (by simp;omega)) (by simp) (by simp;omega) (by simp;omega) (K4 Fy) .here ?_
  refine ah.nil ?_
  refine aa.seq ?_
  refine aa.region ?_
  refine ah.qv (ar J) J ?_
  refine ah.qv (bl J) J ?_
  refine ah.nil ?_
  refine aa.ret ?_
  refine aj.Ir (s:=6) (sz:=2) J hb qT yQ ?_
  refine aj.eqs (s:=6) (dt:=.sl 2 aQ 0 (ae.take k++y :: ae.drop k).length) J (by rw [XQ]) ?_
  exact aj.here ⟨_,.cons (.tmp _ _ J) .nil,_,.cons .here .nil,⟨aQ,J,J⟩⟩
theorem zu [GI:bz] {aQ:Bk} {cO:Bk} {cC:Bk} {ae:aX} {ai:ab} {r:Int×aX} (h:na ae ai=some r):aH Tryz.prog 83 [.ptr aQ 0,ab.av ai] [(aQ,.cells (zi ae cO cC)),(cO,uw ae.Device.bn),(cC,pR ae.aY)] (T2 (fun tC tD=>[(aQ,.cells (zi r.2 tC tD)),(tC,uw r.2.Device.bn),(tD,pR r.2.aY)]) (fun tC tD=>I r.1)):=by
 unfold na at h
 refine aH.fg ?_
 refine aH.bj Tryz.func83 J Tryz.ntmps83 Tryz.results83 J J ?_
 refine aE<|fe J J J J fun b1=>rA J J<|rN<|tS<|aE<|rM J J<|ah.qv (aq J) J<|rF J J J<|rF J J J<|rL J J .p1 J J<|ah.qv (iI J J) J<|rN<|cD h J (fun h=>?_) (fun h=>?_)
 ·refine aE<|rA J J<|rN<|aa.ret<|?_
  cases h
  exact hH J [1,1,1] J ⟨cO,cC,J,J⟩
 ·refine tK<|aE<|rM J J<|ah.qv (aq J) J<|rF J J J<|rF J J J<|rL J J .p1 J J<|rA J J<|rN<|aE<|rM J J<|rF J J J<|rL J J .p0 J J<|aG h fun v2 e1 h=>gy J (jY (fun e=>wb (Option.some.inj e)) e1) (.cons (sW.sD .p2) (.cons (.co (.refl _)) (.cons (.uG _ _ _ .nil) .nil))) J J<|rM J J<|rX J J J<|rX J J J<|rA J J<|rA J J<|rN<|tS<|aa.block<|tS<|aa.cut (fun aI=>∃ (c3:Bool),iS ae ai v2 c3=some r∧aI=⟨88,[(0,.ptr aQ 0),(3,.ptr b1 0),(5,.sl 2 cO 0 ae.Device.bn.length),(6,I v2.1),(7,.bool v2.2),(39,.bool c3)],[(aQ,.cells (zi ae cO cC)),(cO,uw ae.Device.bn),(cC,pR ae.aY),(b1,.cells (x5 ai))]⟩) ?_ ?_
  ·refine aa.bM (id:=6) (A:=[0,1,3,3,15,31,63,3,131,511,1023,2047,4095,8191,16383,32767,65535,131071,262143,524287,1048575]) 21 mixed J (by kernel_rfl) (by kernel_rfl)<|AM.qv (ar J) J<|AM.qv (ar J) J<|AM.guard J J J (fun hc=>?_) (fun hc=>?_)
   ·refine have h:=nv hc h;AM.qv (ar J) J<|AM.aA J J J<|AM.qv (ar J) J<|AM.aA J J J<|aG h fun v4 e2 h=>AM.qv (bc J J J e2) J<|AM.aA J J J<|AM.qv (bg J J) J<|AM.aA J J J<|AM.qv (cw (g:=aZ.av) J J (.inl .p2) e2 J) J<|AM.aA J J J<|AM.qv (au J J) J<|AM.aA J J J<|AM.qv (aB J J .p0 J) J<|AM.aA J J J<|AM.qv (iI J J) J<|AM.qv (fT J J) J<|AM.qv (ar J) J<|AM.fH J J J (fun hc=>?_) (fun hc=>?_)
    ·rw [BK hc] at h
     refine AM.qv (ar J) J<|AM.aA J J J<|AM.qv (cz J) J<|AM.aA J J J<|AM.qv (ar J) J<|AM.guard J J J (fun hc=>?_) (fun hc=>?_)
     ·rw [xA hc] at h
      exact AM.qv (au J J) J<|AM.aA J J J<|AM.qv (aB J J .p0 J) J<|AM.aA J J J<|AM.qv (iI J J) J<|AM.aA J J J<|AM.qv (fT J J) J<|AM.qv (eI J J) J<|AM.qv (bl J) J<|AM.nil<|rN<|aa.stop<|aj.lq [1,1,1,0] ⟨decide (ai.Value=([]:ax)),h,J⟩ J J
     ·rw [xB hc] at h
      exact AM.aF J J J J<|AM.aF J J J J<|AM.aA J J J<|AM.qv (eI J J) J<|AM.qv (eI J J) J<|AM.qv (bl J) J<|AM.nil<|rN<|aa.stop<|aj.lq [1,1,1,0] ⟨false,h,J⟩ J J
    ·rw [BJ hc] at h
     exact AM.aF J J J J<|AM.aF J J J J<|AM.ep J J J<|AM.ep J J J<|AM.ep J J J<|AM.aF J J J J<|AM.qv (fT J J) J<|AM.qv (bl J) J<|AM.nil<|rN<|aa.stop<|aj.lq [1,1,1,0] ⟨true,h,J⟩ J J
   ·refine have h:=ql hc h;AM.aF J J J J<|AM.aF J J J J<|AM.aF J J J J<|AM.aF J J J J<|AM.aF J J J J<|AM.aF J J J J<|AM.aF J J J J<|AM.qv (eI J J) J<|AM.qv (ar J) J<|AM.aA J J J<|AM.qv (ar J) J<|AM.aA J J J<|AM.qv (cz J) J<|AM.aA J J J<|AM.qv (ar J) J<|AM.guard J J J (fun hc=>?_) (fun hc=>?_)
    ·rw [xA hc] at h
     exact AM.qv (au J J) J<|AM.aA J J J<|AM.qv (aB J J .p0 J) J<|AM.aA J J J<|AM.qv (iI J J) J<|AM.aA J J J<|AM.qv (fT J J) J<|AM.qv (eI J J) J<|AM.qv (bl J) J<|AM.nil<|rN<|aa.stop<|aj.lq [1,1,1,0] ⟨decide (ai.Value=([]:ax)),h,J⟩ J J
    ·rw [xB hc] at h
     exact AM.aF J J J J<|AM.aF J J J J<|AM.aA J J J<|AM.qv (eI J J) J<|AM.qv (eI J J) J<|AM.qv (bl J) J<|AM.nil<|rN<|aa.stop<|aj.lq [1,1,1,0] ⟨false,h,J⟩ J J
  ·rintro aI ⟨c3,h,rfl⟩
   unfold iS at h
   refine cB h J (fun h=>?_) (fun h=>?_)
   ·refine aE<|rA J J<|rN<|aa.ret<|?_
    cases h
    exact hH J [0,0,0] J ⟨cO,cC,J,J⟩
   ·refine tS<|aa.cut (fun aI=>∃ (c5:Bool),kp ae ai v2 c5=some r∧aI=⟨88,[(0,.ptr aQ 0),(3,.ptr b1 0),(5,.sl 2 cO 0 ae.Device.bn.length),(6,I v2.1),(7,.bool v2.2),(60,.bool c5)],[(aQ,.cells (zi ae cO cC)),(cO,uw ae.Device.bn),(cC,pR ae.aY),(b1,.cells (x5 ai))]⟩) ?_ ?_
    ·refine tR<|rM J J<|rM J J<|ah.guard J J J (fun hc=>?_) (fun hc=>?_)
     ·rw [xA hc] at h
      exact rF J J J<|rY J J J<|rL J J .p3 J J<|rY J J J<|ah.qv (iI J J) J<|rT J J J<|rA J J<|rN<|aa.stop<|aj.lq [0,0,0,0] ⟨decide (ai.Value=([]:ax)),h,J⟩ J J
     ·rw [xB hc] at h
      exact rG J J J J<|rG J J J J<|rE J J J<|rA J J<|rN<|aa.stop<|aj.lq [0,0,0,0] ⟨false,h,J⟩ J J
    ·rintro aI ⟨c5,h,rfl⟩
     unfold kp at h
     refine aa.cut (fun aI=>∃ (b6:Bk) (l7:List aZ),mr ae l7=some r∧aI=⟨88,[],[(aQ,.cells [.str ae.Device.Key,.str ae.Device.Model,.str ae.Device.aK,I ae.Device.ak.dX,I ae.Device.ak.dY,I ae.Device.ak.dI,.sl 2 b6 0 l7.length,I ae.az,I ae.State,.sl 3 cC 0 ae.aY.length]),(b6,uw l7),(cC,pR ae.aY)]⟩) ?_ ?_
     ·refine cB h J (fun h=>?_) (fun h=>?_)
      ·exact tR<|rM J J<|rM J J<|rM J J<|rM J J<|ah.qv (bh J J) J<|aG h fun v8 e3 h=>qm J (qd e3) cR (.cons .p1 .nil) (fun _=>J) J fun b9=>ah.qv (aq J) J<|rF J J J<|rF J J J<|aC J J J J .p1 J J<|rN<|aa.stop<|aj.lq [1,0,0] ⟨b9,v8,h,J⟩ J J
      ·refine aE<|rM J J<|rA J J<|rN<|aa.cut (fun aI=>∃ (Mt:Bk) (sF:List aZ),mu ae sF=some r∧aI=⟨88,[],[(aQ,.cells [.str ae.Device.Key,.str ae.Device.Model,.str ae.Device.aK,I ae.Device.ak.dX,I ae.Device.ak.dY,I ae.Device.ak.dI,.sl 2 Mt 0 sF.length,I ae.az,I ae.State,.sl 3 cC 0 ae.aY.length]),(Mt,uw sF),(cC,pR ae.aY)]⟩) ?_ ?_
       ·refine cB h J (fun h=>?_) (fun h=>?_)
        ·exact tR<|rM J J<|rM J J<|rF J J J<|rL J J .p3 J J<|aG h fun v12 e4 h=>ah.qv (bc J J J e4) J<|ah.qv (bg J J) J<|bA (g:=aZ.av) (vb:=(⟨v12.Name,ai.Value⟩:aZ)) J J J J e4 J .p1 J<|ah.ghost<|aj.eqs (s:=5) (dt:=.sl 2 cO 0 (ae.Device.bn.set v2.1.toNat (⟨v12.Name,ai.Value⟩:aZ)).length) J (by rw [List.length_set])<|aj.here<|ah.ghost<|aj.eqs (s:=78) (dt:=.sl 2 cO 0 (ae.Device.bn.set v2.1.toNat (⟨v12.Name,ai.Value⟩:aZ)).length) J (by rw [List.length_set])<|aj.here<|ah.ghost<|aj.vC (j:=6) (dt:=.sl 2 cO 0 (ae.Device.bn.set v2.1.toNat (⟨v12.Name,ai.Value⟩:aZ)).length) .p0 J (by rw [List.length_set]) J<|aj.here<|rN<|aa.stop<|aj.lq [0,0,0] ⟨cO,ae.Device.bn.set v2.1.toNat (⟨v12.Name,ai.Value⟩:aZ),h,J⟩ J J
        ·refine aE<|rM J J<|ah.qv (eA J) J<|ah.qv (oU J J) J<|rA J J<|rN<|cD h J (fun h=>?_) (fun h=>?_)
         ·refine aE<|rA J J<|rN<|aa.ret<|?_
          cases h
          exact hH J [0,0,0] J ⟨cO,cC,J,J⟩
         ·exact tR<|rM J J<|rM J J<|rM J J<|rF J J J<|rL J J .p3 J J<|rF J J J<|rL J J .p3 J J<|ah.qv (cW J J J J J) J<|jS J J J J J J fun pY=>aG h fun sv e5 h=>qm J (qe e5) cR (.cons .p2 (.cons .p0 .nil)) (fun _=>J) J fun Hr=>ah.qv (aq J) J<|rF J J J<|rF J J J<|aC J J J J .p1 J J<|rN<|aa.stop<|aj.lq [1,0,0] ⟨Hr,sv,h,J⟩ J J
       ·rintro aI ⟨Mt,sF,h,rfl⟩
        unfold mu at h
        exact aa.stop<|aj.lq [0,0,0] ⟨Mt,sF,h,J⟩ J J
     ·rintro aI ⟨b6,l7,h,rfl⟩
      unfold mr at h
      refine aa.cr<|aE<|rA J J<|rN<|aa.ret<|?_
      cases h
      exact hH J [0,0,0] J ⟨b6,cC,J,J⟩
theorem x9 [GI:bz] {aQ:Bk} {cO:Bk} {cC:Bk} {ae:aX} {ai:ab} {r:Int×aX} (h:jj ae ai=r):aH Tryz.prog 84 [.ptr aQ 0,ab.av ai] [(aQ,.cells (zi ae cO cC)),(cO,uw ae.Device.bn),(cC,pR ae.aY)] (T2 (fun tC tD=>[(aQ,.cells (zi r.2 tC tD)),(tC,uw r.2.Device.bn),(tD,pR r.2.aY)]) (fun tC tD=>I r.1)):=by
 unfold jj at h
 refine aH.fg ?_
 refine aH.bj Tryz.func84 J Tryz.ntmps84 Tryz.results84 J J ?_
 refine aE<|fe J J J J fun b1=>rA J J<|rN<|aE<|rM J J<|ah.qv (aq J) J<|rF J J J<|rA J J<|rN<|tS<|aE<|rF J J J<|rL J J .p0 J J<|rN<|aa.block<|aE<|ah.qv (bH J J) J<|rA J J<|rN<|aa.cut (fun aI=>∃ (b6:Bk) (q2:ax) (n3:Int) (n4:Int) (n5:Int) (l7:List aZ) (n8:Int),jA ae q2 n3 n4 n5 l7 n8=r∧aI=⟨76,[],[(aQ,.cells [.str ae.Device.Key,.str ae.Device.Model,.str q2,I n3,I n4,I n5,.sl 2 b6 0 l7.length,I ae.az,I n8,.sl 3 cC 0 ae.aY.length]),(b6,uw l7),(cC,pR ae.aY)]⟩) ?_ ?_
 ·refine cD h J (fun h=>?_) (fun h=>?_)
  ·refine tS<|aE<|rM J J<|ah.qv (aq J) J<|rF J J J<|rL J J .p1 J J<|ah.qv (eT J J) J<|rN<|cD h J (fun h=>?_) (fun h=>?_)
   ·refine aE<|rA J J<|rN<|aa.ret<|?_
    obtain rfl:=h
    exact hH J [1,1,1] J ⟨cO,cC,J,J⟩
   ·refine tK<|aa.gg (id:=6) (A:=[0,0,0,4,1,17,49,127,255,511]) (H0:=[(aQ,.cells (zi ae cO cC))]) (HH:=fun β=>[(aQ,.cells [.str ae.Device.Key,.str ae.Device.Model,.str ae.Device.aK,I ae.Device.ak.dX,I ae.Device.ak.dY,I ae.Device.ak.dI,.sl 2 cO 0 ae.Device.bn.length,I ae.az,I (2:Int),.sl 3 cC 0 ae.aY.length]),(b1,.cells (x5 ai)),(cO,uw ae.Device.bn),(cC,pR ae.aY)]) 7 mixed J (by kernel_rfl) (by kernel_rfl) [⟨none,some 6,[],fun _=>(aQ,.cells (zi ae cO cC)),none,[]⟩,⟨some 6,none,[],fun _=>(aQ,.cells [.str ae.Device.Key,.str ae.Device.Model,.str ae.Device.aK,I ae.Device.ak.dX,I ae.Device.ak.dY,I ae.Device.ak.dI,.sl 2 cO 0 ae.Device.bn.length,I ae.az,I (2:Int),.sl 3 cC 0 ae.aY.length]),none,[]⟩] [] J (by kernel_rfl) J (.cons .p1 .nil) (fun _=>J)<|AT.am 6 J J<|AM.qv (ar J) J<|AM.qv (ar J) J<|AM.qv (au J J) J<|AM.qv (aB J J .p0 J) J<|AM.qv (aq J) J<|AM.qv (au J J) J<|AM.nil<|AT.vF (Ti:=[(aQ,.cells (zi ae cO cC))]) (Pi:=[(aQ,.cells [.str ae.Device.Key,.str ae.Device.Model,.str ae.Device.aK,I ae.Device.ak.dX,I ae.Device.ak.dY,I ae.Device.ak.dI,.sl 2 cO 0 ae.Device.bn.length,I ae.az,I (2:Int),.sl 3 cC 0 ae.aY.length])]) (fun _=>J) (fun _=>J) (fun _=>J) J J ?_ ?_
    ·exact aC J J J J .p0 J J<|ah.nil ⟨_,J⟩
    exact AT.ra (fun _=>J) fun β=>ah.qv (aq J) J<|rF J J J<|aC J J J J .p0 J J<|rN<|aa.stop<|aj.lq [0,1,1] ⟨cO,ai.aK,ae.Device.ak.dX,ae.Device.ak.dY,ae.Device.ak.dI,ae.Device.bn,(2:Int),h,J⟩ J J
  ·refine aE<|ah.qv (bH J J) J<|rA J J<|rN<|aa.cut (fun aI=>∃ (pY:Bk) (q9:ax) (n10:Int) (n11:Int) (n12:Int) (vW:List aZ) (n15:Int),jB ae q9 n10 n11 n12 vW n15=r∧aI=⟨76,[],[(aQ,.cells [.str ae.Device.Key,.str ae.Device.Model,.str q9,I n10,I n11,I n12,.sl 2 pY 0 vW.length,I ae.az,I n15,.sl 3 cC 0 ae.aY.length]),(pY,uw vW),(cC,pR ae.aY)]⟩) ?_ ?_
   ·refine cD h J (fun h=>?_) (fun h=>?_)
    ·refine tS<|aE<|rM J J<|ah.qv (aq J) J<|rF J J J<|rL J J .p1 J J<|ah.qv (iI J J) J<|rN<|cD h J (fun h=>?_) (fun h=>?_)
     ·refine aE<|rA J J<|rN<|aa.ret<|?_
      obtain rfl:=h
      exact hH J [1,1,1] J ⟨cO,cC,J,J⟩
     ·exact tK<|tR<|rM J J<|rM J J<|rM J J<|ah.qv (aq J) J<|rF J J J<|aC J J J J .p1 J J<|ah.qv (aq J) J<|rF J J J<|aC J J J J .p1 J J<|ah.qv (aq J) J<|rF J J J<|aC J J J J .p1 J J<|rN<|aa.stop<|aj.BN (j:=6) 2 (fun _=>.p1) J (fun _=>J) (fun _=>J) fun GW=>aj.lq [2,0,2] ⟨GW,([]:ax),ae.Device.ak.dX,ae.Device.ak.dY,ae.Device.ak.dI,[],(1:Int),h,J⟩ J J
    ·refine aE<|ah.qv (bH J J) J<|rA J J<|rN<|aa.cut (fun aI=>∃ (n17:Int) (n18:Int) (n19:Int) (n20:Int),jC ae n17 n18 n19 n20=r∧aI=⟨76,[],[(aQ,.cells [.str ae.Device.Key,.str ae.Device.Model,.str ae.Device.aK,I n17,I n18,I n19,.sl 2 cO 0 ae.Device.bn.length,I ae.az,I n20,.sl 3 cC 0 ae.aY.length]),(cO,uw ae.Device.bn),(cC,pR ae.aY)]⟩) ?_ ?_
     ·refine cD h J (fun h=>?_) (fun h=>?_)
      ·refine tS<|tS<|aa.bM (id:=12) (A:=[0,1,3,7,0,16,63]) 7 mixed J (by kernel_rfl) (by kernel_rfl)<|AM.qv (ar J) J<|AM.qv (aq J) J<|AM.qv (au J J) J<|AM.qv (dN J J .p1 J J) J<|AM.qv (au J J) J<|AM.qv (dN J J .p0 J J) J<|AM.qv (LY (g:=Version.av) (X:=ae.Device.ak) (Y:=ai.ak) J J J J J) J<|AM.nil<|rN<|cD h J (fun h=>?_) (fun h=>?_)
       ·refine aE<|rA J J<|rN<|aa.ret<|?_
        obtain rfl:=h
        exact hH J [1,1,1] J ⟨cO,cC,J,J⟩
       ·exact tK<|tR<|rM J J<|rF J J J<|ah.qv (dN J J .p0 J J) J<|ah.qv (aq J) J<|rF J J J<|aC J J J J .p1 J J<|rN<|aa.stop<|aj.lq [1,1,1] ⟨ai.ak.dX,ai.ak.dY,ai.ak.dI,ae.State,h,J⟩ J J
      ·refine aE<|ah.qv (bH J J) J<|rA J J<|rN<|aa.cut (fun aI=>∃ (n21:Int),jD ae n21=r∧aI=⟨76,[],[(aQ,.cells [.str ae.Device.Key,.str ae.Device.Model,.str ae.Device.aK,I ae.Device.ak.dX,I ae.Device.ak.dY,I ae.Device.ak.dI,.sl 2 cO 0 ae.Device.bn.length,I ae.az,I n21,.sl 3 cC 0 ae.aY.length]),(cO,uw ae.Device.bn),(cC,pR ae.aY)]⟩) ?_ ?_
       ·refine cD h J (fun h=>?_) (fun h=>?_)
        ·refine tS<|aE<|rM J J<|ah.qv (aq J) J<|rF J J J<|rL J J .p1 J J<|ah.qv (eT J J) J<|rN<|cD h J (fun h=>?_) (fun h=>?_)
         ·refine aE<|rA J J<|rN<|aa.ret<|?_
          obtain rfl:=h
          exact hH J [1,1,1] J ⟨cO,cC,J,J⟩
         ·exact tK<|tR<|rM J J<|ah.qv (aq J) J<|rF J J J<|aC J J J J .p1 J J<|rN<|aa.stop<|aj.lq [1,1,1] ⟨(3:Int),h,J⟩ J J
        ·refine aE<|ah.qv (bH J J) J<|rA J J<|rN<|aa.cut (fun aI=>∃ (n22:Int),jE ae n22=r∧aI=⟨76,[],[(aQ,.cells [.str ae.Device.Key,.str ae.Device.Model,.str ae.Device.aK,I ae.Device.ak.dX,I ae.Device.ak.dY,I ae.Device.ak.dI,.sl 2 cO 0 ae.Device.bn.length,I ae.az,I n22,.sl 3 cC 0 ae.aY.length]),(cO,uw ae.Device.bn),(cC,pR ae.aY)]⟩) ?_ ?_
         ·refine cD h J (fun h=>?_) (fun h=>?_)
          ·refine tS<|aE<|rM J J<|ah.qv (aq J) J<|rF J J J<|rL J J .p1 J J<|ah.qv (eT J J) J<|rN<|cD h J (fun h=>?_) (fun h=>?_)
           ·refine aE<|rA J J<|rN<|aa.ret<|?_
            obtain rfl:=h
            exact hH J [1,1,1] J ⟨cO,cC,J,J⟩
           ·exact tK<|tR<|rM J J<|ah.qv (aq J) J<|rF J J J<|aC J J J J .p1 J J<|rN<|aa.stop<|aj.lq [1,1,1] ⟨(2:Int),h,J⟩ J J
          ·exact tK<|aa.stop<|aj.lq [1,1,1] ⟨ae.State,h,J⟩ J J
         ·rintro aI ⟨n22,h,rfl⟩
          unfold jE at h
          exact aa.stop<|aj.lq [0,0,0] ⟨n22,h,J⟩ J J
       ·rintro aI ⟨n21,h,rfl⟩
        unfold jD at h
        exact aa.stop<|aj.lq [0,0,0] ⟨ae.Device.ak.dX,ae.Device.ak.dY,ae.Device.ak.dI,n21,h,J⟩ J J
     ·rintro aI ⟨n17,n18,n19,n20,h,rfl⟩
      unfold jC at h
      exact aa.stop<|aj.lq [0,0,0] ⟨cO,ae.Device.aK,n17,n18,n19,ae.Device.bn,n20,h,J⟩ J J
   ·rintro aI ⟨pY,q9,n10,n11,n12,vW,n15,h,rfl⟩
    unfold jB at h
    exact aa.stop<|aj.lq [0,0,0] ⟨pY,q9,n10,n11,n12,vW,n15,h,J⟩ J J
 ·rintro aI ⟨b6,q2,n3,n4,n5,l7,n8,h,rfl⟩
  unfold jA at h
  refine aa.cr<|aE<|rA J J<|rN<|aa.ret<|?_
  obtain rfl:=h
  exact hH J [0,0,0] J ⟨b6,cC,J,J⟩
theorem pT [GI:bz] {aQ:Bk} {zr:Bk} {jk:Nat→Bk} {qF:Nat→Nat→Bk} {mL:Bk} {mM:Bk} {lh:Bk} {ae:aJ} {ai:ab} {r:Int×aJ} (h:eN ae ai=some r):aH Tryz.prog 45 [.ptr aQ 0,ab.av ai] [(aQ,.cells [.cd mL,.cd mM,.cd lh]),(mL,.mp (ae.cx.map (fun e=>(AV.str e.1,(pA jk) e.2)))),(mM,JT ae.bW),(lh,GV ae.cX),(zr,.bU (gA iJ jk qF ae.fa))] (T2 (fun vp zt=>[(aQ,.cells [.cd mL,.cd mM,.cd lh]),(mL,.mp (r.2.cx.map (fun e=>(AV.str e.1,(pA vp) e.2)))),(mM,JT r.2.bW),(lh,GV r.2.cX),(zr,.bU (gA iJ vp zt r.2.fa))]) (fun vp zt=>I r.1)):=by
 unfold eN at h
 refine aH.fg ?_
 refine aH.bj Tryz.func45 J Tryz.ntmps45 Tryz.results45 J J ?_
 refine aE<|fe J J J J fun b1=>rA J J<|rN<|tS<|aa.bM (id:=1) (A:=[0,1,3,7,0,16,63,127]) 8 mixed J (by kernel_rfl) (by kernel_rfl)<|AM.qv (ar J) J<|AM.qv (aq J) J<|AM.qv (au J J) J<|AM.qv (aB J J .p1 J) J<|AM.qv (au J J) J<|AM.qv (aB J J .p0 J) J<|Na h (fun e1 h=>?_) (fun n2 e1 h=>?_)
 ·refine AM.qv (vh (gk:=AV.str) (gv:=(pA jk)) (M:=ae.cx) (key:=ai.Device) J J .p2 J e1) J<|AM.qv (bl J) J<|AM.nil<|rN<|tS<|aE<|rF J J J<|rL J J .p0 J J<|ah.qv (bH J J) J<|rN<|cD h J (fun h=>?_) (fun h=>?_)
  ·refine aE<|rM J J<|rM J J<|ah.qv (aS J J .p0 J) J<|aG h fun v3 e2 h=>oe J (si e2) cR (.cons .p1 (.cons .p1 (.cons .p1 (.cons .p1 (.cons .p1 .nil))))) (fun _ _=>J) J fun T4 T6=>rA J J<|rN<|aa.ret<|?_
   cases h
   exact hH J [0,0,0,0,0] J ⟨T4,T6,J,J⟩
  ·refine tK<|tS<|aa.block<|aE<|rM J J<|ah.qv (C8 J J) J<|rA J J<|rN<|aa.sK J<|aE<|rA J J<|rN<|aa.ret<|?_
   cases h
   exact hH J [1,1,1,1,1] J ⟨jk,qF,J,J⟩
 ·refine AM.qv (vi (gk:=AV.str) (gv:=(pA jk)) (M:=ae.cx) (key:=ai.Device) J J .p2 e1) J<|AM.qv (bl J) J<|AM.nil<|rN<|tS<|aE<|rF J J J<|rL J J .p0 J J<|ah.qv (bH J J) J<|rN<|cD h J (fun h=>?_) (fun h=>?_)
  ·refine aE<|rM J J<|rM J J<|ah.qv (aS J J .p0 J) J<|aG h fun v6 e3 h=>ah.ghost<|aj.eB (kb:=iJ) e3 .p5 J<|aj.here<|aV J (vo (r:=lA ae v6 ai) J) cR (.cons .p4 (.cons .p0 (.cons .p0 (.cons .p0 .nil)))) J J<|rA J J<|ah.ghost<|aj.og (kb:=iJ) e3 (.cons .p1 (.cons .p1 (.cons .p1 .nil))) J .p5<|aj.here<|rN<|aa.ret<|?_
   cases h
   exact hH J [0,1,1,1,1] J ⟨jk,qF,J,J⟩
  ·refine tK<|tS<|aa.block<|aE<|rM J J<|ah.qv (FH J J) J<|rA J J<|rN<|aa.wF J<|aE<|rM J J<|ah.qv (aq J) J<|rF J J J<|aG h fun v7 e4 h=>ah.qv (QV.ara (kb:=iJ) e4 .p5 J (aB J J .p0 J)) J<|ah.qv (bH J J) J<|rA J J<|rN<|cD h J (fun h=>?_) (fun h=>?_)
   ·refine aE<|rA J J<|rN<|aa.ret<|?_
    cases h
    exact hH J [1,1,1,1,1] J ⟨jk,qF,J,J⟩
   ·refine tK<|aa.cr<|tS<|aE<|rF J J J<|rL J J .p0 J J<|rN<|aa.block<|aE<|ah.qv (bH J J) J<|rA J J<|rN<|cD h J (fun h=>?_) (fun h=>?_)
    ·refine aE<|rM J J<|rM J J<|ah.qv (aS J J .p0 J) J<|ah.ghost<|aj.eB (kb:=iJ) e4 .p5 J<|aj.here<|aG h fun v8 e5 h=>oe J (sG e5) cR (.cons .p4 (.cons .p6 (.cons .p0 (.cons .p0 (.cons .p0 .nil))))) (fun _ _=>J) J fun b9 Mt=>rA J J<|ah.ghost<|aj.jU (kb:=iJ) (v':=v8.2.2) (s:=Df [b9,Mt]) e4 (.cons .p2 (.cons .p2 (.cons .p2 .nil))) J (fun _=>.p5) fun I3=>aj.here<|rN<|aa.ret<|?_
     cases h
     exact hH J [0,2,2,0,1] J ⟨jk,I3,J,J⟩
    ·refine aE<|ah.qv (bH J J) J<|rA J J<|rN<|cD h J (fun h=>?_) (fun h=>?_)
     ·refine aE<|rM J J<|ah.qv (aS J J .p0 J) J<|ah.ghost<|aj.eB (kb:=iJ) e4 .p5 J<|aj.here<|aG h fun v12 e6 h=>oe J (zu e6) cR (.cons .p0 (.cons .p0 (.cons .p0 .nil))) (fun _ _=>J) J fun pY XR=>rA J J<|ah.ghost<|aj.jU (kb:=iJ) (v':=v12.2) (s:=Df [pY,XR]) e4 (.cons .p0 (.cons .p0 (.cons .p0 .nil))) J (fun _=>.p5) fun T9=>aj.here<|rN<|aa.ret<|?_
      cases h
      exact hH J [1,1,1,1,1] J ⟨jk,T9,J,J⟩
     ·refine aE<|ah.qv (bH J J) J<|rA J J<|rN<|cD h J (fun h=>?_) (fun h=>?_)
      ·refine tS<|aa.ghost<|aj.eB (kb:=iJ) e4 .p5 J<|aj.here<|aa.bM (id:=14) (A:=[0,1,3,7,0,16,48,112,0,256,768,1792,3840,7936,16368,32752,65520,131071]) 17 mixed J (by kernel_rfl) (by kernel_rfl)<|AM.qv (ar J) J<|AM.qv (aq J) J<|AM.qv (au J J) J<|AM.qv (aB J J .p4 J) J<|AM.qv (ar J) J<|AM.qv (aq J) J<|AM.qv (au J J) J<|AM.qv (aB J J .p0 J) J<|AM.qv (ar J) J<|AM.qv (aq J) J<|AM.qv (au J J) J<|AM.qv (aB J J .p0 J) J<|AM.qv (eA J) J<|AM.qv (cE J J) J<|aG h fun qL e7 h=>AM.qv (bc J J J e7) J<|AM.qv (bg J J) J<|AM.qv (cw (g:=Term.av) J J (.inl .p2) e7 J) J<|AM.nil<|Da (gk:=AV.str) (gv:=AV.str) (M:=ae.cX) (key:=qL.Key) J J .p7<|ah.ghost<|aj.og (kb:=iJ) e4 (.cons .p0 (.cons .p0 (.cons .p0 .nil))) J .p5<|aj.here<|rN<|tS<|aE<|rM J J<|ah.qv (aq J) J<|rF J J J<|ah.ghost<|aj.eB (kb:=iJ) e4 .p5 J<|aj.here<|rL J J .p0 J J<|ah.qv (eA J) J<|rM J J<|ah.ghost<|aj.og (kb:=iJ) e4 (.cons .p0 (.cons .p0 (.cons .p0 .nil))) J .p5<|aj.here<|rN<|aa.block<|aa.eU (fun x:(List aX)×Int=>dj ae ai n2 v7 qL x.1 x.2) (fun x aI=>∃ (An:Nat→Nat→Bk),aI=⟨99,[(3,.ptr b1 0),(5,.ptr (jk n2.toNat) 0),(67,I (v7.aY.length:Int)),(68,I x.2)],[(aQ,.cells [.cd mL,.cd mM,.cd lh]),(mL,.mp (ae.cx.map (fun e=>(AV.str e.1,(pA jk) e.2)))),(zr,.bU (gA iJ jk An x.1)),(mM,JT ae.bW),(lh,GV (o3 ae.cX qL.Key)),(b1,.cells (x5 ai))]⟩) h ?_ ?_
       ·exact aj.lq [1,1,3,1,1,0] ⟨qF,J⟩ J J
       ·intro x z1 aI J1 iQ h lK fS
        obtain ⟨B7,n22⟩:=x
        obtain ⟨An,rfl⟩:=iQ
        replace h:dj ae ai n2 v7 qL B7 n22=some z1:=h
        unfold dj at h
        refine aE<|ah.qv (ca J J) J<|rN<|tS<|cD h J (fun h=>?_) (fun h=>?_)
        ·refine tK<|tS<|aa.block<|aE<|rM J J<|rA J J<|rN<|aE<|rM J J<|ah.qv (aq J) J<|rF J J J<|aG h fun v23 e8 h=>ah.ghost<|aj.eB (kb:=iJ) e8 .p2 J<|aj.here<|rL J J .p0 J J<|rM J J<|aG h fun v24 e9 h=>ah.qv (bc J J J e9) J<|rA J J<|rN<|aa.bM (id:=19) (A:=[0,0,2,6,14,0,32,96,224,0,512,2016,4094,8191,16383,32767]) 15 mixed J (by kernel_rfl) (by kernel_rfl)<|AM.qv (ar J) J<|AM.qv (ar J) J<|AM.qv (br J) J<|AM.qv (bg J J) J<|AM.qv (cw (g:=Term.av) J J (.inl .p2) e9 J) J<|AM.qv (ar J) J<|AM.qv (br J) J<|AM.qv (bg J J) J<|AM.qv (cw (g:=Term.av) J J (.inl .p2) e9 J) J<|AM.qv (au J J) J<|AM.qv (aB J J (.next .p7) J) J<|AM.qv (Cy J J) J<|AM.qv (Fe J J) J<|AM.qv (br J) J<|AM.qv (bg J J) J<|AM.nil<|bA (g:=Term.av) (vb:=(⟨v24.Key,v24.gn,min v24.To (max v24.gn ai.At)⟩:Term)) J J J J e9 J .p2 J<|ah.ghost<|aj.eqs (s:=74) (dt:=.sl 3 (An n2.toNat 1) 0 (v23.aY.set n22.toNat (⟨v24.Key,v24.gn,min v24.To (max v24.gn ai.At)⟩:Term)).length) J (by rw [List.length_set])<|aj.here<|ah.ghost<|aj.vC (j:=9) (dt:=.sl 3 (An n2.toNat 1) 0 (v23.aY.set n22.toNat (⟨v24.Key,v24.gn,min v24.To (max v24.gn ai.At)⟩:Term)).length) .p0 J (by rw [List.length_set]) J<|aj.here<|ah.ghost<|aj.jU (kb:=iJ) (v':=(⟨v23.Device,v23.az,v23.State,v23.aY.set n22.toNat (⟨v24.Key,v24.gn,min v24.To (max v24.gn ai.At)⟩:Term)⟩:aX)) (s:=Df [(An n2.toNat 0),(An n2.toNat 1)]) e8 (.cons .p0 (.cons .p0 (.cons .p0 .nil))) J (fun _=>.p2) fun NN=>aj.here<|rN<|aa.cr<|tR<|ah.qv (bh J J) J<|rM J J<|rN<|aa.stop<|?_
         cases h
         exact lK _ _ J<|aj.lq [0,0,0,0,0,0] ⟨NN,J⟩ J J
        ·refine aa.exit J<|have h:=cy h fS;?_
         unfold lT at h
         refine aE<|rM J J<|ah.qv (aq J) J<|rF J J J<|aG h fun v26 Eg h=>ah.ghost<|aj.eB (kb:=iJ) Eg .p2 J<|aj.here<|aC J J J J .p0 J J<|ah.ghost<|aj.jU (kb:=iJ) (v':=(⟨v26.Device,v26.az,(4:Int),v26.aY⟩:aX)) (s:=Df [(An n2.toNat 0),(An n2.toNat 1)]) Eg (.cons .p0 (.cons .p0 (.cons .p0 .nil))) J (fun _=>.p2) fun I4=>aj.here<|rN<|aE<|rA J J<|rN<|aa.ret<|?_
         cases h
         exact hH J [0,0,1,1,0] J ⟨jk,I4,J,J⟩
      ·refine tK<|aa.cr<|aE<|rM J J<|ah.qv (aS J J .p0 J) J<|ah.ghost<|aj.eB (kb:=iJ) e4 .p5 J<|aj.here<|oe J (x9 J) cR (.cons .p0 (.cons .p0 (.cons .p0 .nil))) (fun _ _=>J) J fun RG RH=>rA J J<|ah.ghost<|aj.jU (kb:=iJ) (v':=((jj v7 ai).2)) (s:=Df [RG,RH]) e4 (.cons .p0 (.cons .p0 (.cons .p0 .nil))) J (fun _=>.p5) fun I5=>aj.here<|rN<|aa.ret<|?_
       cases h
       exact hH J [1,1,1,1,1] J ⟨jk,I5,J,J⟩
theorem sy [GI:bz] {ae:List ab} {r:aJ×(List bd)} (h:ma ae=some r):aH Tryz.prog 44 [tv ae] [] (T8 (fun oP zo zp tw DC vn zq NO=>[(oP,.cells [.cd zo,.cd zp,.cd tw]),(zo,.mp (r.1.cx.map (fun e=>(AV.str e.1,(pA vn) e.2)))),(zp,JT r.1.bW),(tw,GV r.1.cX),(DC,.bU (gA iJ vn zq r.1.fa)),(NO,Dz r.2)]) (fun oP zo zp tw DC vn zq NO=>.mA [.ptr oP 0,.sl 2 NO 0 r.2.length])):=by
 unfold ma at h
 refine aH.fg ?_
 refine aH.bj Tryz.func44 J Tryz.ntmps44 Tryz.results44 J J ?_
 refine aE<|rA J J<|rA J J<|rN<|aE<|KM J (DB J) cR .nil (fun _ _ _ _ _ _ _=>J) J fun b1 b2 b3 b4 b5 TU TW=>rA J J<|rN<|aE<|rA J J<|rN<|tS<|aE<|rM J J<|ah.qv (ff J) J<|rM J J<|rN<|aa.block<|aa.eU (fun x:(List (ax×Int))×(List aX)×(List (bx×Bool))×(List (ax×ax))×(List bd)×Int=>eP ae x.1 x.2.1 x.2.2.1 x.2.2.2.1 x.2.2.2.2.1 x.2.2.2.2.2) (fun x aI=>∃ (I6:Nat→Bk) (DD:Nat→Nat→Bk) (Mu:Bk),aI=⟨31,[(4,.ptr b1 0),(5,.sl 2 Mu 0 x.2.2.2.2.1.length),(10,tv ae),(11,I (ae.length:Int)),(12,I x.2.2.2.2.2)],[(b1,.cells [.cd b2,.cd b3,.cd b4]),(b2,.mp (x.1.map (fun e=>(AV.str e.1,(pA I6) e.2)))),(b5,.bU (gA iJ I6 DD x.2.1)),(b3,JT x.2.2.1),(b4,GV x.2.2.2.1),(Mu,Dz x.2.2.2.2.1)]⟩) h ?_ ?_
 ·exact aj.arr (s:=5) 2 J fun b26=>aj.lq [1,1,3,1,1,0] ⟨TU,TW,b26,J⟩ J J
 ·intro x z1 aI J1 iQ h lK fS
  obtain ⟨ES,vV,Ef,Pb,Mp,n25⟩:=x
  obtain ⟨I6,DD,Mu,rfl⟩:=iQ
  replace h:eP ae ES vV Ef Pb Mp n25=some z1:=h
  unfold eP at h
  refine aE<|ah.qv (ca J J) J<|rN<|tS<|cD h J (fun h=>?_) (fun h=>?_)
  ·refine tK<|tS<|aa.block<|aE<|rM J J<|aG h fun Bc e1 h=>ah.qv (cu J J J e1 J J) J<|ah.qv (bt J J J) J<|gd J J J J fun RG=>rA J J<|aC J J J J .p0 J J<|rN<|aE<|rM J J<|ah.qv (aS J J .p0 J) J<|aG h fun nu e2 h=>oe J (pT e2) cR (.cons .p1 (.cons .p1 (.cons .p2 (.cons .p2 (.cons .p1 .nil))))) (fun _ _=>J) J fun NP Ll=>rA J J<|rN<|aE<|rM J J<|ah.qv (eT J J) J<|rN<|aa.cut (fun aI=>∃ (RI:Bk) (Pa:List bd),jF n25 nu Pa=some z1∧aI=⟨31,[(4,.ptr b1 0),(5,.sl 2 RI 0 Pa.length),(10,tv ae),(11,I (ae.length:Int)),(12,I n25)],[(b1,.cells [.cd b2,.cd b3,.cd b4]),(b2,.mp (nu.2.cx.map (fun e=>(AV.str e.1,(pA NP) e.2)))),(b5,.bU (gA iJ NP Ll nu.2.fa)),(b3,JT nu.2.bW),(b4,GV nu.2.cX),(RI,Dz Pa)]⟩) ?_ ?_
   ·refine cD h J (fun h=>?_) (fun h=>?_)
    ·exact tR<|rM J J<|rM J J<|rM J J<|ah.qv (cW J J J J J) J<|aT (xs:=([(⟨n25,nu.1⟩:bd)]).map bd.av) J J J J J J<|aG h fun Dy e3 h=>iz (g:=bd.av) J J J J J J J J (.list _) e3 (fun _=>.p6) J fun b35=>rA J J<|rN<|aa.stop<|aj.lq [0,0,2,0,0,1] ⟨b35,Dy,h,J⟩ J J
    ·exact tK<|aa.stop<|aj.lq [0,0,2,0,0,1] ⟨Mu,Mp,h,J⟩ J J
   ·rintro aI ⟨RI,Pa,h,rfl⟩
    unfold jF at h
    refine aa.cr<|tR<|ah.qv (bh J J) J<|rM J J<|rN<|aa.stop<|?_
    cases h
    exact lK _ _ J<|aj.lq [0,0,0,0,0,0] ⟨NP,Ll,RI,J⟩ J J
  ·refine aa.exit J<|have h:=cy h fS;aE<|rM J J<|rM J J<|rA J J<|rA J J<|rN<|aa.ret<|?_
   cases h
   exact hI J J [0,0,1,1,0,0] J ⟨b1,b2,b3,b4,b5,I6,DD,Mu,J,J⟩
theorem lj [GI:bz] {ae:List ab} {r:(List ab)} (h:df ae=some r):aH Tryz.prog 46 [.list 16 (ae.map ab.av)] [] (T1 (fun oP=>[(oP,.arr 16 (r.map ab.av))]) (fun oP=>.sl 16 oP 0 r.length)):=by
 unfold df at h
 refine aH.fg ?_
 refine aH.bj Tryz.func46 J Tryz.ntmps46 Tryz.results46 J J ?_
 refine aa.seq ?_
 refine aa.region ?_
 refine ah.qv (bl J) J ?_
 refine ah.nil ?_
 refine aa.seq ?_
 refine aa.seq ?_
 refine aa.region ?_
 refine ah.qv (ar J) J ?_
 refine FB J J J J (fun c hc=>?_)
 refine ah.nil ?_
 refine aa.cond J (fun hT=>?_) (fun hF=>?_)
 ·obtain rfl:=vH h (List.map_eq_nil_iff.1 (hc hT))
  refine aa.seq ?_
  refine aa.region ?_
  refine ah.qv (bl J) J ?_
  refine ah.nil ?_
  refine aa.ret ?_
  refine aj.arr (s:=2) 16 J (fun b1=>?_)
  exact aj.here ⟨_,.cons (.tmp _ _ J) .nil,_,.cons .here .nil,⟨b1,J,J⟩⟩
 ·refine aa.skip ?_
  refine aa.seq ?_
  refine aa.region ?_
  refine jS (xs:=([]:List ab).map ab.av) J J J J J J (fun b2=>?_)
  refine ah.qv (ar J) J ?_
  refine iz (g:=ab.av) (Xs:=[]) J J J J J J J J (.list _) h (fun _=>.here) J (fun b3=>?_)
  refine ah.qv (bl J) J ?_
  refine ah.nil ?_
  refine aa.ret ?_
  exact aj.here ⟨_,.cons (.tmp _ _ J) .nil,_,.cons .here .nil,⟨b3,J,J⟩⟩
theorem zv {ae:List Model} {ai:List ab} {ao:ab} {r:(List ab)×Int} (h:lC ae ai ao=some r):aH Tryz.prog 12 [pa ae,tv ai,ab.av ao] [] (T1 (fun oP=>[(oP,gw r.1)]) (fun oP=>.mA [.sl 16 oP 0 r.1.length,I r.2])):=by
 unfold lC at h
 refine aH.fg ?_
 refine aH.bj Tryz.func12 J Tryz.ntmps12 Tryz.results12 J J ?_
 refine aE<|fe J J J J fun b1=>rA J J<|rA J J<|rN<|tS<|aE<|rM J J<|rM J J<|aG h fun v2 e1 h=>aM J (oK e1) cR J<|rA J J<|rN<|aE<|rM J J<|ah.qv (eT J J) J<|rN<|cD h J (fun h=>?_) (fun h=>?_)
 ·refine aE<|rM J J<|rA J J<|rA J J<|rN<|aa.ret<|?_
  cases h
  exact aj.arr (s:=6) 16 J fun b3=>aj.here ⟨_,.cons (.tmp _ _ J) (.cons (.tmp _ _ J) .nil),_,.cons .p0 .nil,⟨b3,J,J⟩⟩
 ·refine tK<|tS<|tS<|aa.cut (fun aI=>∃ (c4:Bool),iU ae ai ao c4=some r∧aI=⟨84,[(0,pa ae),(1,tv ai),(5,.ptr b1 0),(27,.bool c4)],[(b1,.cells (x5 ao))]⟩) ?_ ?_
  ·refine tR<|rF J J J<|rL J J .p0 J J<|ah.qv (eT J J) J<|rM J J<|ah.fH J J J (fun hc=>?_) (fun hc=>?_)
   ·rw [BK hc] at h
    exact rF J J J<|rY J J J<|rL J J .p0 J J<|rY J J J<|ah.qv (eT J J) J<|rE J J J<|rN<|aa.stop<|aj.lq [0] ⟨decide (ao.aO≠(0:Int)),h,J⟩ J J
   ·rw [BJ hc] at h
    exact rG J J J J<|rG J J J J<|rT J J J<|rN<|aa.stop<|aj.lq [0] ⟨true,h,J⟩ J J
  ·rintro aI ⟨c4,h,rfl⟩
   unfold iU at h
   refine cB h J (fun h=>?_) (fun h=>?_)
   ·refine aE<|rA J J<|rA J J<|rN<|aa.ret<|?_
    cases h
    exact aj.arr (s:=6) 16 J fun b5=>aj.here ⟨_,.cons (.tmp _ _ J) (.cons (.tmp _ _ J) .nil),_,.cons .p0 .nil,⟨b5,J,J⟩⟩
   ·refine tK<|aE<|rM J J<|aG h fun v6 e2 h=>qm J (zn e2) cR .nil (fun _=>J) J fun b7=>rA J J<|rN<|aE<|rM J J<|rF J J J<|rL J J .p1 J J<|aG h fun v8 e3 h=>ah.qv (pB (gk:=AV.str) (gv:=I) (M:=v6) (key:=ao.cj) (Z:=(0:Int)) J J .p0 J J J e3 J) J<|ah.qv (bh J J) J<|rF J J J<|aC J J J J .p1 J J<|rF J J J<|aC J J J J .p1 J J<|rN<|tS<|aE<|rM J J<|ah.qv (ff J) J<|ah.qv (gx J J) J<|rN<|aa.cut (fun aI=>∃ (n9:Int),iT ae ai ao v6 v8 n9=some r∧aI=⟨84,[(0,pa ae),(1,tv ai),(5,.ptr b1 0),(9,.cd b7)],[(b1,.cells [.str ao.cj,I (aU (v8+(1:Int))),I n9,I ao.At,I ao.Kind,.str ao.Device,.str ao.Model,.str ao.aK,I ao.az,.str ao.Key,.str ao.Name,.str ao.Value,I ao.aW,I ao.ak.dX,I ao.ak.dY,I ao.ak.dI]),(b7,Mq v6)]⟩) ?_ ?_
    ·refine cD h J (fun h=>?_) (fun h=>?_)
     ·exact tR<|rM J J<|rM J J<|ah.qv (ff J) J<|ah.qv (cE J J) J<|aG h fun v10 e4 h=>ah.qv (cu J J J e4 J J) J<|ah.qv (eE J J) J<|ah.qv (bV J J J) J<|ah.qv (bh J J) J<|rF J J J<|aC J J J J .p1 J J<|rN<|aa.stop<|aj.lq [1,0] ⟨aU (v10.aO+(1:Int)),h,J⟩ J J
     ·exact tK<|aa.stop<|aj.lq [1,0] ⟨(1:Int),h,J⟩ J J
    ·rintro aI ⟨n9,h,rfl⟩
     unfold iT at h
     refine tS<|aE<|rM J J<|ah.qv (aS J J .p0 J) J<|aG h fun v11 e5 h=>aM J (o0 e5) cR J<|rA J J<|rN<|aE<|rM J J<|ah.qv (eT J J) J<|rN<|cD h J (fun h=>?_) (fun h=>?_)
     ·refine aE<|rM J J<|rA J J<|rA J J<|rN<|aa.ret<|?_
      cases h
      exact aj.arr (s:=6) 16 J fun JW=>aj.here ⟨_,.cons (.tmp _ _ J) (.cons (.tmp _ _ J) .nil),_,.cons .p0 .nil,⟨JW,J,J⟩⟩
     ·refine tK<|aE<|rM J J<|aG h fun xH e6 h=>FG J (sy e6) cR .nil (fun _ _ _ _ _ _ _ _=>J) J fun XR Hr GW Ua b18 I6 DD TT=>rM J J<|rX J J J<|rX J J J<|rA J J<|rA J J<|rN<|tS<|aE<|rM J J<|ah.qv (aS J J .p6 J) J<|aG h fun v22 e7 h=>oe J (pT e7) cR (.cons .p0 (.cons .p0 (.cons .p0 (.cons .p0 (.cons .p0 .nil))))) (fun _ _=>J) J fun I7 Lm=>rA J J<|rN<|aE<|rM J J<|ah.qv (eT J J) J<|rN<|cD h J (fun h=>?_) (fun h=>?_)
      ·refine aE<|rM J J<|rA J J<|rA J J<|rN<|aa.ret<|?_
       cases h
       exact aj.arr (s:=6) 16 J fun FY=>aj.here ⟨_,.cons (.tmp _ _ J) (.cons (.tmp _ _ J) .nil),_,.cons .p0 .nil,⟨FY,J,J⟩⟩
      ·refine tK<|aE<|rM J J<|rF J J J<|rL J J .p6 J J<|rF J J J<|rL J J .p6 J J<|fA (gk:=AV.str) (gv:=I) (M:=v6) (key:=ao.cj) (v:=aU (v8+(1:Int))) J J J J .p7<|rN<|tS<|tS<|aa.cut (fun aI=>∃ (IV:Bool),mw ai ao v8 n9 IV=some r∧aI=⟨84,[(1,tv ai),(5,.ptr b1 0),(78,.bool IV)],[(b1,.cells [.str ao.cj,I (aU (v8+(1:Int))),I n9,I ao.At,I ao.Kind,.str ao.Device,.str ao.Model,.str ao.aK,I ao.az,.str ao.Key,.str ao.Name,.str ao.Value,I ao.aW,I ao.ak.dX,I ao.ak.dY,I ao.ak.dI])]⟩) ?_ ?_
       ·refine tR<|rM J J<|ah.qv (ff J) J<|ah.qv (oU J J) J<|rM J J<|ah.fH J J J (fun hc=>?_) (fun hc=>?_)
        ·rw [BK hc] at h
         exact rM J J<|rY J J J<|ah.qv (tZ (gk:=AV.str) (gv:=I) (M:=(gm v6 ao.cj (aU (v8+(1:Int))))) J .p7) J<|rY J J J<|ah.qv (gx J J) J<|rE J J J<|rN<|aa.stop<|aj.lq [6] ⟨decide ((20:Int) < ((gm v6 ao.cj (aU (v8+(1:Int)))).length:Int)),h,J⟩ J J
        ·rw [BJ hc] at h
         exact rG J J J J<|rG J J J J<|rT J J J<|rN<|aa.stop<|aj.lq [6] ⟨true,h,J⟩ J J
       ·rintro aI ⟨IV,h,rfl⟩
        unfold mw at h
        refine cB h J (fun h=>?_) (fun h=>?_)
        ·refine aE<|rA J J<|rA J J<|rN<|aa.ret<|?_
         cases h
         exact aj.arr (s:=6) 16 J fun RF=>aj.here ⟨_,.cons (.tmp _ _ J) (.cons (.tmp _ _ J) .nil),_,.cons .p0 .nil,⟨RF,J,J⟩⟩
        ·refine tK<|tS<|aG h fun v28 e8 h=>aa.gg (id:=20) (A:=[0,1,0,4,15,31,63]) (H0:=[]) (HH:=fun β=>[((β 1),gw v28),(b1,.cells [.str ao.cj,I (aU (v8+(1:Int))),I n9,I ao.At,I ao.Kind,.str ao.Device,.str ao.Model,.str ao.aK,I ao.az,.str ao.Key,.str ao.Name,.str ao.Value,I ao.aW,I ao.ak.dX,I ao.ak.dY,I ao.ak.dI])]) 4 mixed J (by kernel_rfl) (by kernel_rfl) [⟨some 1,none,[],fun b=>(b,gw v28),none,[]⟩] [1] J (by kernel_rfl) J .nil (fun _=>J)<|AT.am 1 J J<|AM.qv (ar J) J<|AM.nil<|AT.Ey (V:=fun b=>.sl 16 b 0 v28.length) (Ti:=[]) (Pi:=fun b=>[(b,gw v28)]) (fun _=>J) (fun _=>J) (fun _ _=>J) J (fun _=>J) J J J ?_ ?_
         ·exact qm J (lj e8) cR .nil (fun _=>J) J fun RH=>ah.nil ⟨RH,_,J,J⟩
         refine AT.am 2 J J<|AM.qv (aS J J .p0 J) J<|AM.ec (xs:=([(⟨ao.cj,aU (v8+(1:Int)),n9,ao.At,ao.Kind,ao.Device,ao.Model,ao.aK,ao.az,ao.Key,ao.Name,ao.Value,ao.aW,ao.ak⟩:ab)]).map ab.av) J J J J J J<|AM.nil<|AT.ra (fun _=>J) fun β=>?_
         generalize β 1=RH
         clear β
         refine aG h fun JS e9 h=>iz (g:=ab.av) J J J J J J J J (.list _) e9 (fun _=>.p0) J fun b31=>rA J J<|rA J J<|rN<|aa.ret<|?_
         cases h
         exact hI J J [0] J ⟨b31,J,J⟩
theorem vq {ae:List Model} {ai:List ab} {r:(List bd)×Int} (h:jG ae ai=some r):aH Tryz.prog 13 [pa ae,tv ai] [] (T1 (fun oP=>[(oP,Dz r.1)]) (fun oP=>.mA [.sl 2 oP 0 r.1.length,I r.2])):=by
 unfold jG at h
 refine aH.fg ?_
 refine aH.bj Tryz.func13 J Tryz.ntmps13 Tryz.results13 J J ?_
 refine aE<|rA J J<|rA J J<|rN<|tS<|aE<|rM J J<|rM J J<|aG h fun v1 e1 h=>aM J (oK e1) cR J<|rA J J<|rN<|aE<|rM J J<|ah.qv (eT J J) J<|rN<|cD h J (fun h=>?_) (fun h=>?_)
 ·refine aE<|rM J J<|rA J J<|rA J J<|rN<|aa.ret<|?_
  cases h
  exact aj.arr (s:=4) 2 J fun b2=>aj.here ⟨_,.cons (.tmp _ _ J) (.cons (.tmp _ _ J) .nil),_,.cons .p0 .nil,⟨b2,J,J⟩⟩
 ·refine tK<|aE<|rM J J<|aG h fun v3 e2 h=>FG J (sy e2) cR .nil (fun _ _ _ _ _ _ _ _=>J) J fun b4 b5 b6 b7 b8 RJ Qz Ub=>rM J J<|rX J J J<|rX J J J<|rA J J<|rA J J<|rN<|aE<|rM J J<|rA J J<|rA J J<|rN<|aa.ret<|?_
  cases h
  exact hI J J [5] J ⟨Ub,J,J⟩
theorem np [GI:bz] {ae:Int} {ai:Int} {ao:Int} {r:Bool} (h:sd ae ai ao=r):Pu Tryz.prog 48 [I ae,I ai,I ao] (.bool r):=by
 unfold sd at h
 refine aH.bj Tryz.func48 J Tryz.ntmps48 Tryz.results48 J J ?_
 refine aE<|rA J J<|rN<|tS<|aa.cut (fun aI=>∃ (c1:Bool),B8 c1=r∧aI=⟨15,[(6,.bool c1)],[]⟩) ?_ ?_
 ·refine tR<|rM J J<|rM J J<|ah.qv (uE J J) J<|rM J J<|ah.cJ J J J (fun hc=>?_) (fun hc=>?_)
  ·rw [qY hc] at h
   exact rM J J<|rY J J J<|rM J J<|rY J J J<|ah.qv (uE J J) J<|rT J J J<|rA J J<|rN<|aa.stop<|aj.lq [] ⟨decide (ae≤ao),h,J⟩ J J
  ·rw [qZ hc] at h
   exact rG J J J J<|rG J J J J<|rE J J J<|rA J J<|rN<|aa.stop<|aj.lq [] ⟨false,h,J⟩ J J
 ·rintro aI ⟨c1,h,rfl⟩
  unfold B8 at h
  refine aa.ret<|?_
  obtain rfl:=h
  exact hP J J
theorem uf {ae:ax} {r:Bool} (h:uL ae=some r):Pu Tryz.prog 47 [.str ae] (.bool r):=by
 unfold uL at h
 refine aH.bj Tryz.func47 J Tryz.ntmps47 Tryz.results47 J J ?_
 refine aE<|rA J J<|rN<|tS<|aa.cut (fun aI=>∃ (c1:Bool),rl c1=some r∧aI=⟨17,[(2,.bool c1)],[]⟩) ?_ ?_
 ·refine tR<|rM J J<|ah.qv (dc J) J<|aM J (np J) cR J<|rM J J<|ah.guard J J J (fun hc=>?_) (fun hc=>?_)
  ·refine have h:=nv hc h;rM J J<|rY J J J<|aG h fun v2 e1 h=>aM J (ju e1) cR J<|rY J J J<|ah.qv (iI J J) J<|rT J J J<|rM J J<|gT h J J J (fun h=>?_) (fun h=>?_)
   ·exact rM J J<|rY J J J<|aG h fun c3 e2 h=>ah.qv (jK J J e2) J<|rY J J J<|aM J (oZ J) cR J<|rY J J J<|ah.qv (oU J J) J<|rT J J J<|rA J J<|rN<|aa.stop<|aj.lq [] ⟨decide ((0:Int)≤(pE ([97,98,99,100,101,102,103,104,105,106,107,108,109,110,111,112,113,114,115,116,117,118,119,120,121,122]:ax) (c3.toNat:Int))),h,J⟩ J J
   ·exact rG J J J J<|rG J J J J<|rG J J J J<|rE J J J<|rA J J<|rN<|aa.stop<|aj.lq [] ⟨false,h,J⟩ J J
  ·exact have h:=ql hc h;rG J J J J<|rG J J J J<|rE J J J<|rM J J<|rG J J J J<|rG J J J J<|rG J J J J<|rG J J J J<|rE J J J<|rA J J<|rN<|aa.stop<|aj.lq [] ⟨false,h,J⟩ J J
 ·rintro aI ⟨c1,h,rfl⟩
  unfold rl at h
  refine aa.ret<|?_
  cases h
  exact hP J J
theorem vr [GI:bz] {ae:Model} {ai:Model} {r:Bool} (h:lD ae ai=r):Pu Tryz.prog 52 [Model.av ae,.mO [.str ai.Key,.str ai.Prefix,zZ ai.ba]] (.bool r):=by
 unfold lD at h
 refine aH.bj Tryz.func52 J Tryz.ntmps52 Tryz.results52 J J ?_
 refine aE<|fe J J J J fun b1=>rA J J<|rN<|aE<|rF J J J<|rL J J .p0 J J<|ah.qv (eE J J) J<|ah.qv (bV J J J) J<|ah.qv (iI J J) J<|rA J J<|rN<|aa.ret<|?_
 obtain rfl:=h
 exact hP J J
theorem ya {ae:ax} {r:Bool} (h:mb ae=some r):Pu Tryz.prog 102 [.str ae] (.bool r):=by
 unfold mb at h
 refine aH.bj Tryz.func102 J Tryz.ntmps102 Tryz.results102 J J ?_
 refine aE<|rA J J<|rN<|aE<|rM J J<|aG h fun v1 e1 h=>aM J (uf e1) cR J<|ah.qv (cz J) J<|rA J J<|rN<|aa.ret<|?_
 cases h
 exact hP J J
theorem nq [GI:bz] {ae:List ax} {iF:ax→Option Bool} {dZ:FuncId} [bf Tryz.prog dZ] {fZ:List AV} (mK:∀ {y0:_} {u:Bool},iF y0=some u→Pu Tryz.prog dZ (.str y0 :: fZ) (.bool u)) {r:Int} (h:fN ae iF=some r):Pu Tryz.prog 148 [Rx ae,.func (.func dZ) fZ] (I r):=by
 unfold fN at h
 refine aH.bj Tryz.func148 J Tryz.ntmps148 Tryz.results148 J J ?_
 refine aE<|rA J J<|rN<|tS<|aE<|rM J J<|ah.qv (ff J) J<|rM J J<|rN<|aa.block<|aa.eU (fun x:Int=>cZ ae iF x) (fun x aI=>aI=⟨19,[(0,Rx ae),(1,.func (.func dZ) fZ),(7,I (ae.length:Int)),(8,I x)],[]⟩) h ?_ ?_
 ·exact aj.lq [] J J J
 ·intro n2 z1 aI J1 iQ h lK fS
  obtain rfl:=iQ
  replace h:cZ ae iF n2=some z1:=h
  unfold cZ at h
  refine aE<|ah.qv (ca J J) J<|rN<|tS<|cD h J (fun h=>?_) (fun h=>?_)
  ·refine tK<|tS<|aa.block<|aE<|rM J J<|rA J J<|rN<|aE<|rM J J<|rM J J<|rM J J<|aG h fun v3 e1 h=>ah.qv (cu J J J e1 J J) J<|ah.qv (bV J J J) J<|aG h fun v4 e2 h=>pv J J (mK e2) cR J<|rN<|cB h J (fun h=>?_) (fun h=>?_)
   ·refine aE<|rM J J<|rA J J<|rN<|aa.ret<|have h:=cy h fS;?_
    cases h
    exact hP J J
   ·refine tK<|aa.cr<|tR<|ah.qv (bh J J) J<|rM J J<|rN<|aa.stop<|?_
    cases h
    exact lK _ _ J<|aj.lq [] J J J
  ·refine aa.exit J<|have h:=cy h fS;aE<|rA J J<|rN<|aa.ret<|?_
   cases h
   exact hP J J
theorem mi [GI:bz] {ae:List ax} {iF:ax→Option Bool} {dZ:FuncId} [bf Tryz.prog dZ] {fZ:List AV} (mK:∀ {y0:_} {u:Bool},iF y0=some u→Pu Tryz.prog dZ (.str y0 :: fZ) (.bool u)) {r:Bool} (h:db ae iF=some r):Pu Tryz.prog 101 [Rx ae,.func (.func dZ) fZ] (.bool r):=by
 unfold db at h
 refine aH.bj Tryz.func101 J Tryz.ntmps101 Tryz.results101 J J ?_
 refine aE<|rA J J<|rN<|aE<|rM J J<|rM J J<|aG h fun v1 e1 h=>gy J (nq mK e1) (.cons (.co (.refl _)) (.cons (.co (.refl _)) .nil)) J J<|ah.qv (oU J J) J<|rA J J<|rN<|aa.ret<|?_
 cases h
 exact hP J J
theorem Cb {ae:ax} {r:Bool} (h:pJ ae=some r):Pu Tryz.prog 53 [.str ae] (.bool r):=by
 unfold pJ at h
 refine aH.bj Tryz.func53 J Tryz.ntmps53 Tryz.results53 J J ?_
 refine aE<|rA J J<|rN<|aE<|rM J J<|aG h fun v1 e1 h=>qm J (xX e1) cR .nil (fun _=>J) J fun b2=>rA J J<|rN<|tS<|aa.cut (fun aI=>∃ (c3:Bool),kF c3=some r∧aI=⟨19,[(2,.bool c3)],[]⟩) ?_ ?_
 ·refine tR<|rM J J<|ah.qv (dc J) J<|ah.qv (uE J J) J<|rM J J<|gT h J J J (fun h=>?_) (fun h=>?_)
  ·refine rM J J<|rY J J J<|ah.qv (eA J) J<|rY J J J<|ah.qv (uE J J) J<|rT J J J<|rM J J<|gT h J J J (fun h=>?_) (fun h=>?_)
   ·exact rM J J<|rY J J J<|aG h fun v4 e2 h=>gy J (mi (fun e=>ya e) e2) (.cons (sW.sD .p0) (.cons (.uG _ _ _ .nil) .nil)) J J<|rY J J J<|ah.qv (cz J) J<|rT J J J<|rA J J<|rN<|aa.stop<|aj.lq [] ⟨!v4,h,J⟩ J J
   ·exact rG J J J J<|rG J J J J<|rE J J J<|rA J J<|rN<|aa.stop<|aj.lq [] ⟨false,h,J⟩ J J
  ·exact rG J J J J<|rG J J J J<|rE J J J<|rM J J<|rG J J J J<|rG J J J J<|rG J J J J<|rE J J J<|rA J J<|rN<|aa.stop<|aj.lq [] ⟨false,h,J⟩ J J
 ·rintro aI ⟨c3,h,rfl⟩
  unfold kF at h
  refine aa.ret<|?_
  cases h
  exact hP J J
theorem yb {ae:List Model} {r:Int} (h:mc ae=some r):Pu Tryz.prog 15 [pa ae] (I r):=by
 unfold mc at h
 refine aH.bj Tryz.func15 J Tryz.ntmps15 Tryz.results15 J J ?_
 refine aE<|rA J J<|rN<|tS<|aE<|rM J J<|ah.qv (ff J) J<|ah.qv (gx J J) J<|rN<|cD h J (fun h=>?_) (fun h=>?_)
 ·refine aE<|rA J J<|rN<|aa.ret<|?_
  cases h
  exact hP J J
 ·refine tK<|tS<|aE<|rM J J<|ah.qv (ff J) J<|rM J J<|rN<|aa.block<|aa.eU (fun x:Int=>eQ ae x) (fun x aI=>aI=⟨127,[(0,pa ae),(11,pa ae),(12,I (ae.length:Int)),(13,I x)],[]⟩) h ?_ ?_
  ·exact aj.lq [] J J J
  ·intro n2 z1 aI J1 iQ h lK fS
   obtain rfl:=iQ
   replace h:eQ ae n2=some z1:=h
   unfold eQ at h
   refine aE<|ah.qv (ca J J) J<|rN<|tS<|cD h J (fun h=>?_) (fun h=>?_)
   ·refine tK<|tS<|aa.block<|aE<|rM J J<|aG h fun v3 e1 h=>ah.qv (cu J J J e1 J J) J<|ah.qv (bt J J J) J<|gd J J J J fun b4=>rA J J<|aC J J J J .p0 J J<|rN<|tS<|aa.block<|aE<|rF J J J<|rL J J .p0 J J<|aG h fun v5 e2 h=>aM J (uf e2) cR J<|ah.qv (cz J) J<|rA J J<|rN<|cB h J (fun h=>?_) (fun h=>?_)
    ·refine aE<|rA J J<|rN<|aa.ret<|have h:=cy h fS;?_
     cases h
     exact hP J J
    ·refine tS<|aa.cut (fun aI=>∃ (c6:Bool),iv ae n2 v3 c6=some z1∧aI=⟨127,[(0,pa ae),(3,I n2),(4,.ptr b4 0),(11,pa ae),(12,I (ae.length:Int)),(13,I n2),(23,.bool c6)],[(b4,.cells [.str v3.Key,.str v3.Prefix,zZ v3.ba])]⟩) ?_ ?_
     ·refine aa.bM (id:=8) (A:=[0,1,3,7,15,7,7,71,231,487,999,2047,4095,8191]) 14 mixed J (by kernel_rfl) (by kernel_rfl)<|AM.qv (ar J) J<|AM.qv (gx J J) J<|AM.qv (ar J) J<|AM.cJ J J J (fun hc=>?_) (fun hc=>?_)
      ·exact have h:=nv hc h;AM.qv (au J J) J<|AM.aA J J J<|AM.qv (aB J J .p0 J) J<|AM.aA J J J<|AM.qv (ar J) J<|AM.aA J J J<|AM.qv (ar J) J<|AM.aA J J J<|AM.qv (cE J J) J<|AM.aA J J J<|aG h fun v7 e3 h=>AM.qv (cu J J J e3 J J) J<|AM.aA J J J<|AM.qv (eE J J) J<|AM.aA J J J<|AM.qv (bV J J J) J<|AM.aA J J J<|AM.qv (BL J J) J<|AM.qv (fT J J) J<|AM.qv (bl J) J<|AM.nil<|rN<|aa.stop<|aj.lq [0] ⟨Op.bytesLess v3.Key v7.Key||v3.Key==v7.Key,h,J⟩ J J
      ·exact have h:=vz hc h;AM.aF J J J J<|AM.aF J J J J<|AM.aF J J J J<|AM.aF J J J J<|AM.aF J J J J<|AM.aF J J J J<|AM.aF J J J J<|AM.aF J J J J<|AM.qv (eI J J) J<|AM.qv (bl J) J<|AM.nil<|rN<|aa.stop<|aj.lq [0] ⟨false,h,J⟩ J J
     ·rintro aI ⟨c6,h,rfl⟩
      unfold iv at h
      refine cB h J (fun h=>?_) (fun h=>?_)
      ·refine aE<|rA J J<|rN<|aa.ret<|have h:=cy h fS;?_
       cases h
       exact hP J J
      ·refine tS<|aa.cut (fun aI=>∃ (c8:Bool),iu ae n2 v3 c8=some z1∧aI=⟨127,[(0,pa ae),(3,I n2),(4,.ptr b4 0),(11,pa ae),(12,I (ae.length:Int)),(13,I n2),(37,.bool c8)],[(b4,.cells [.str v3.Key,.str v3.Prefix,zZ v3.ba])]⟩) ?_ ?_
       ·refine aa.bM (id:=10) (A:=[0,1,3,7,15,31,63,127,63,511,1023,2047,4095]) 13 mixed J (by kernel_rfl) (by kernel_rfl)<|AM.qv (au J J) J<|AM.qv (aB J J .p0 J) J<|AM.qv (dc J) J<|AM.qW J (np J) cR J<|AM.qv (cz J) J<|AM.qv (ar J) J<|AM.guard J J J (fun hc=>?_) (fun hc=>?_)
        ·exact have h:=ql hc h;AM.qv (au J J) J<|AM.aA J J J<|AM.qv (aB J J .p0 J) J<|AM.aA J J J<|aG h fun v9 e4 h=>AM.qW J (vU e4) cR J<|AM.aA J J J<|aG h fun v10 e5 h=>AM.qW J (ju e5) cR J<|AM.aA J J J<|AM.qv (yB J J) J<|AM.qv (eI J J) J<|AM.qv (bl J) J<|AM.nil<|rN<|aa.stop<|aj.lq [0] ⟨decide (v10≠([]:ax)),h,J⟩ J J
        ·exact have h:=nv hc h;AM.aF J J J J<|AM.aF J J J J<|AM.aF J J J J<|AM.aF J J J J<|AM.qv (fT J J) J<|AM.qv (bl J) J<|AM.nil<|rN<|aa.stop<|aj.lq [0] ⟨true,h,J⟩ J J
       ·rintro aI ⟨c8,h,rfl⟩
        unfold iu at h
        refine cB h J (fun h=>?_) (fun h=>?_)
        ·refine aE<|rA J J<|rN<|aa.ret<|have h:=cy h fS;?_
         cases h
         exact hP J J
        ·refine aE<|rM J J<|rM J J<|aG h fun sF e6 h=>ah.qv (vA J J .none (.some _ _ _ J) J J e6) J<|ah.qv (jR J) J<|aG h fun v12 e7 h=>gy J (iK (fun e=>vr (Option.some.inj e)) e7) (.cons (.co (.refl _)) (.cons (.uG _ _ _ (.cons (.CL _ _ _ .p0 (.cons (.co (.refl _)) (.cons (.co (.refl _)) (.cons (.co (.refl _)) .nil)))) .nil)) .nil)) J J<|rA J J<|rN<|cB h J (fun h=>?_) (fun h=>?_)
         ·refine aE<|rA J J<|rN<|aa.ret<|have h:=cy h fS;?_
          cases h
          exact hP J J
         ·refine aE<|rF J J J<|rL J J .p0 J J<|ah.qv (ff J) J<|ah.qv (gx J J) J<|rA J J<|rN<|cD h J (fun h=>?_) (fun h=>?_)
          ·refine aE<|rA J J<|rN<|aa.ret<|have h:=cy h fS;?_
           cases h
           exact hP J J
          ·refine tK<|aa.cr<|aE<|rF J J J<|rL J J .p0 J J<|ah.qv (ff J) J<|rM J J<|rN<|aa.block<|aa.eU (fun x:Int=>dS n2 v3 x) (fun x aI=>aI=⟨127,[(0,pa ae),(4,.ptr b4 0),(11,pa ae),(12,I (ae.length:Int)),(13,I n2),(62,zZ v3.ba),(63,I (v3.ba.length:Int)),(64,I x)],[(b4,.cells [.str v3.Key,.str v3.Prefix,zZ v3.ba])]⟩) h ?_ ?_
           ·exact aj.lq [0] J J J
           ·intro n14 z2 aI J2 iQ h NL Ht
            obtain rfl:=iQ
            replace h:dS n2 v3 n14=some z2:=h
            unfold dS at h
            refine aE<|ah.qv (ca J J) J<|rN<|tS<|cD h J (fun h=>?_) (fun h=>?_)
            ·refine tK<|tS<|aa.block<|aE<|rM J J<|aG h fun pH e8 h=>ah.qv (cu J J J e8 J J) J<|ah.qv (bt J J J) J<|gd J J J J fun GW=>rA J J<|aC J J J J .p0 J J<|rN<|aE<|rF J J J<|rL J J .p0 J J<|ah.qv (bH J J) J<|rA J J<|rN<|aa.block<|aE<|rF J J J<|rL J J .p0 J J<|aG h fun v17 e9 h=>aM J (Cb e9) cR J<|ah.qv (cz J) J<|rA J J<|rN<|cB h J (fun h=>?_) (fun h=>?_)
             ·refine aE<|rA J J<|rN<|aa.ret<|have h:=cy h Ht;have h:=cy h fS;?_
              cases h
              exact hP J J
             ·refine tS<|aa.cut (fun aI=>∃ (Qp:Bool),ir n14 pH Qp=some z2∧aI=⟨127,[(0,pa ae),(4,.ptr b4 0),(6,.ptr GW 0),(7,.bool (decide (pH.Kind=(2:Int)))),(11,pa ae),(12,I (ae.length:Int)),(13,I n2),(62,zZ v3.ba),(63,I (v3.ba.length:Int)),(64,I n14),(77,.bool Qp)],[(b4,.cells [.str v3.Key,.str v3.Prefix,zZ v3.ba]),(GW,.cells (Ry pH))]⟩) ?_ ?_
              ·refine aa.bM (id:=22) (A:=[0,1,3,7,15,7,39,7,135,487,999,2023,4095,8191,16383]) 15 mixed J (by kernel_rfl) (by kernel_rfl)<|AM.qv (ar J) J<|AM.qv (gx J J) J<|AM.qv (ar J) J<|AM.cJ J J J (fun hc=>?_) (fun hc=>?_)
               ·exact have h:=nv hc h;AM.qv (au J J) J<|AM.aA J J J<|AM.qv (aB J J .p0 J) J<|AM.aA J J J<|AM.qv (au J J) J<|AM.aA J J J<|AM.qv (aB J J .p1 J) J<|AM.aA J J J<|AM.qv (ar J) J<|AM.aA J J J<|AM.qv (cE J J) J<|AM.aA J J J<|aG h fun JR Eg h=>AM.qv (cu J J J Eg J J) J<|AM.aA J J J<|AM.qv (eE J J) J<|AM.aA J J J<|AM.qv (bV J J J) J<|AM.aA J J J<|AM.qv (BL J J) J<|AM.qv (fT J J) J<|AM.qv (bl J) J<|AM.nil<|rN<|aa.stop<|aj.lq [1,0] ⟨Op.bytesLess pH.Name JR.Name||pH.Name==JR.Name,h,J⟩ J J
               ·exact have h:=vz hc h;AM.aF J J J J<|AM.aF J J J J<|AM.aF J J J J<|AM.aF J J J J<|AM.aF J J J J<|AM.aF J J J J<|AM.aF J J J J<|AM.aF J J J J<|AM.aF J J J J<|AM.qv (eI J J) J<|AM.qv (bl J) J<|AM.nil<|rN<|aa.stop<|aj.lq [1,0] ⟨false,h,J⟩ J J
              ·rintro aI ⟨Qp,h,rfl⟩
               unfold ir at h
               refine cB h J (fun h=>?_) (fun h=>?_)
               ·refine aE<|rA J J<|rN<|aa.ret<|have h:=cy h Ht;have h:=cy h fS;?_
                cases h
                exact hP J J
               ·refine aE<|rF J J J<|rL J J .p1 J J<|aM J (np J) cR J<|ah.qv (cz J) J<|rA J J<|rN<|cB h J (fun h=>?_) (fun h=>?_)
                ·refine aE<|rA J J<|rN<|aa.ret<|have h:=cy h Ht;have h:=cy h fS;?_
                 cases h
                 exact hP J J
                ·refine tS<|aa.cut (fun aI=>∃ (Qo:Bool),lF n14 pH Qo=some z2∧aI=⟨127,[(0,pa ae),(4,.ptr b4 0),(6,.ptr GW 0),(7,.bool (decide (pH.Kind=(2:Int)))),(11,pa ae),(12,I (ae.length:Int)),(13,I n2),(62,zZ v3.ba),(63,I (v3.ba.length:Int)),(64,I n14),(97,.bool Qo)],[(b4,.cells [.str v3.Key,.str v3.Prefix,zZ v3.ba]),(GW,.cells (Ry pH))]⟩) ?_ ?_
                 ·refine tR<|rM J J<|rM J J<|ah.cJ J J J (fun hc=>?_) (fun hc=>?_)
                  ·rw [qY hc] at h
                   refine rF J J J<|rY J J J<|rL J J .p1 J J<|rY J J J<|rF J J J<|rY J J J<|rL J J .p1 J J<|rY J J J<|aM J (np J) cR J<|rY J J J<|ah.qv (cz J) J<|rY J J J<|rM J J<|ah.guard J J J (fun hc=>?_) (fun hc=>?_)
                   ·rw [Et hc] at h
                    exact rF J J J<|rY J J J<|rL J J .p1 J J<|rY J J J<|ah.qv (gx J J) J<|rY J J J<|rE J J J<|rT J J J<|rA J J<|rN<|aa.stop<|aj.lq [0,0] ⟨decide ((1000000000:Int) < pH.iA),h,J⟩ J J
                   ·rw [Es hc] at h
                    exact rG J J J J<|rG J J J J<|rY J J J<|rT J J J<|rT J J J<|rA J J<|rN<|aa.stop<|aj.lq [0,0] ⟨true,h,J⟩ J J
                  ·rw [qZ hc] at h
                   exact rG J J J J<|rG J J J J<|rG J J J J<|rG J J J J<|rG J J J J<|rG J J J J<|ah.ep J J J<|ah.ep J J J<|ah.ep J J J<|rG J J J J<|rE J J J<|rA J J<|rN<|aa.stop<|aj.lq [0,0] ⟨false,h,J⟩ J J
                 ·rintro aI ⟨Qo,h,rfl⟩
                  unfold lF at h
                  refine cB h J (fun h=>?_) (fun h=>?_)
                  ·refine aE<|rA J J<|rN<|aa.ret<|have h:=cy h Ht;have h:=cy h fS;?_
                   cases h
                   exact hP J J
                  ·refine tS<|aa.cut (fun aI=>∃ (Qn:Bool),lE n14 Qn=some z2∧aI=⟨127,[(0,pa ae),(4,.ptr b4 0),(11,pa ae),(12,I (ae.length:Int)),(13,I n2),(62,zZ v3.ba),(63,I (v3.ba.length:Int)),(64,I n14),(112,.bool Qn)],[(b4,.cells [.str v3.Key,.str v3.Prefix,zZ v3.ba])]⟩) ?_ ?_
                   ·refine tR<|rM J J<|ah.qv (qh J) J<|rM J J<|ah.cJ J J J (fun hc=>?_) (fun hc=>?_)
                    ·rw [qY hc] at h
                     refine rF J J J<|rY J J J<|rL J J .p1 J J<|rY J J J<|ah.qv (eT J J) J<|rY J J J<|rM J J<|ah.fH J J J (fun hc=>?_) (fun hc=>?_)
                     ·rw [BK hc] at h
                      exact rF J J J<|rY J J J<|rL J J .p1 J J<|rY J J J<|ah.qv (eT J J) J<|rY J J J<|rE J J J<|rT J J J<|rA J J<|rN<|aa.stop<|aj.lq [0] ⟨decide (pH.iA≠(0:Int)),h,J⟩ J J
                     ·rw [BJ hc] at h
                      exact rG J J J J<|rG J J J J<|rY J J J<|rT J J J<|rT J J J<|rA J J<|rN<|aa.stop<|aj.lq [0] ⟨true,h,J⟩ J J
                    ·rw [qZ hc] at h
                     exact rG J J J J<|rG J J J J<|rG J J J J<|ah.ep J J J<|ah.ep J J J<|ah.ep J J J<|rG J J J J<|rE J J J<|rA J J<|rN<|aa.stop<|aj.lq [0] ⟨false,h,J⟩ J J
                   ·rintro aI ⟨Qn,h,rfl⟩
                    unfold lE at h
                    refine cB h J (fun h=>?_) (fun h=>?_)
                    ·refine aE<|rA J J<|rN<|aa.ret<|have h:=cy h Ht;have h:=cy h fS;?_
                     cases h
                     exact hP J J
                    ·refine tK<|aa.cr<|aa.cr<|tR<|ah.qv (bh J J) J<|rM J J<|rN<|aa.stop<|?_
                     cases h
                     exact NL _ _ J<|aj.lq [0] J J J
            ·refine aa.exit J<|have h:=cy h Ht;aa.cr<|tR<|ah.qv (bh J J) J<|rM J J<|rN<|aa.stop<|?_
             cases h
             exact lK _ _ J<|aj.lq [] J J J
   ·refine aa.exit J<|have h:=cy h fS;aE<|rA J J<|rN<|aa.ret<|?_
    cases h
    exact hP J J
theorem yc [GI:bz] {ae:Int} {r:Int} (h:kG ae=r):Pu Tryz.prog 28 [I ae] (I r):=by
 unfold kG at h
 refine aH.bj Tryz.func28 J Tryz.ntmps28 Tryz.results28 J J ?_
 refine aE<|rA J J<|rN<|tS<|aE<|rM J J<|aM J (np J) cR J<|ah.qv (cz J) J<|rN<|cB h J (fun h=>?_) (fun h=>?_)
 ·refine aE<|rA J J<|rN<|aa.ret<|?_
  obtain rfl:=h
  exact hP J J
 ·refine tK<|aE<|rA J J<|rN<|aa.ret<|?_
  obtain rfl:=h
  exact hP J J
theorem zw [GI:bz] {ae:Model} {ai:ax} {r:Bool} (h:o4 ae ai=r):Pu Tryz.prog 193 [Model.av ae,.mO [.str ai]] (.bool r):=by
 unfold o4 at h
 refine aH.bj Tryz.func193 J Tryz.ntmps193 Tryz.results193 J J ?_
 refine aE<|fe J J J J fun b1=>rA J J<|rN<|aE<|rF J J J<|rL J J .p0 J J<|ah.qv (bV J J J) J<|ah.qv (iI J J) J<|rA J J<|rN<|aa.ret<|?_
 obtain rfl:=h
 exact hP J J
theorem DE [GI:bz] {ae:List Model} {ai:ax} {r:Int} (h:rn ae ai=some r):Pu Tryz.prog 149 [pa ae,.str ai] (I r):=by
 unfold rn at h
 refine aH.bj Tryz.func149 J Tryz.ntmps149 Tryz.results149 J J ?_
 refine aE<|fe J J J J fun b1=>rA J J<|rN<|aE<|rM J J<|ah.qv (jR J) J<|aG h fun v2 e1 h=>gy J (fP (fun e=>zw (Option.some.inj e)) e1) (.cons (.co (.refl _)) (.cons (.uG _ _ _ (.cons (.CL _ _ _ .p0 (.cons (.co (.refl _)) .nil)) .nil)) .nil)) J J<|rA J J<|rN<|aa.ret<|?_
 cases h
 exact hP J J
theorem uM {ae:ax} {r:Bool} (h:mH ae=some r):Pu Tryz.prog 65 [.str ae] (.bool r):=by
 unfold mH at h
 refine aH.bj Tryz.func65 J Tryz.ntmps65 Tryz.results65 J J ?_
 refine aE<|rA J J<|rN<|tS<|aa.cut (fun aI=>∃ (c1:Bool),kX c1=some r∧aI=⟨11,[(2,.bool c1)],[]⟩) ?_ ?_
 ·refine tR<|rM J J<|ah.qv (dc J) J<|aM J (np J) cR J<|rM J J<|ah.guard J J J (fun hc=>?_) (fun hc=>?_)
  ·exact have h:=nv hc h;rM J J<|rY J J J<|aG h fun v2 e1 h=>aM J (ju e1) cR J<|rY J J J<|ah.qv (iI J J) J<|rT J J J<|rA J J<|rN<|aa.stop<|aj.lq [] ⟨decide (v2=([]:ax)),h,J⟩ J J
  ·exact have h:=ql hc h;rG J J J J<|rG J J J J<|rE J J J<|rA J J<|rN<|aa.stop<|aj.lq [] ⟨false,h,J⟩ J J
 ·rintro aI ⟨c1,h,rfl⟩
  unfold kX at h
  refine aa.ret<|?_
  cases h
  exact hP J J
theorem Cc {ae:ax} {r:Int} (h:pK ae=some r):Pu Tryz.prog 26 [.str ae] (I r):=by
 unfold pK at h
 refine aH.bj Tryz.func26 J Tryz.ntmps26 Tryz.results26 J J ?_
 refine aE<|rA J J<|rN<|tS<|aE<|rM J J<|aG h fun v1 e1 h=>aM J (uf e1) cR J<|ah.qv (cz J) J<|rN<|cB h J (fun h=>?_) (fun h=>?_)
 ·refine aE<|rA J J<|rN<|aa.ret<|?_
  cases h
  exact hP J J
 ·refine tK<|aE<|rA J J<|rN<|aa.ret<|?_
  cases h
  exact hP J J
theorem w6 [GI:bz] {ae:Version} {r:Bool} (h:nf ae=r):Pu Tryz.prog 150 [Version.av ae] (.bool r):=by
 unfold nf at h
 refine aH.bj Tryz.func150 J Tryz.ntmps150 Tryz.results150 J J ?_
 refine aE<|fe J J J J fun b1=>rA J J<|rN<|tS<|aa.cut (fun aI=>∃ (c2:Bool),nd c2=r∧aI=⟨16,[(2,.bool c2)],[]⟩) ?_ ?_
 ·refine tR<|rF J J J<|rL J J .p0 J J<|aM J (np J) cR J<|rM J J<|ah.guard J J J (fun hc=>?_) (fun hc=>?_)
  ·rw [xA hc] at h
   refine rF J J J<|rY J J J<|rL J J .p0 J J<|rY J J J<|aM J (np J) cR J<|rT J J J<|rM J J<|ah.guard J J J (fun hc=>?_) (fun hc=>?_)
   ·rw [xA hc] at h
    exact rF J J J<|rY J J J<|rL J J .p0 J J<|rY J J J<|aM J (np J) cR J<|rT J J J<|rA J J<|rN<|aa.stop<|aj.lq [] ⟨(sd ae.dI (0:Int) (9999:Int)),h,J⟩ J J
   ·rw [xB hc] at h
    exact rG J J J J<|rG J J J J<|rE J J J<|rA J J<|rN<|aa.stop<|aj.lq [] ⟨false,h,J⟩ J J
  ·rw [xB hc] at h
   exact rG J J J J<|rG J J J J<|rE J J J<|rM J J<|rG J J J J<|rG J J J J<|rG J J J J<|rE J J J<|rA J J<|rN<|aa.stop<|aj.lq [] ⟨false,h,J⟩ J J
 ·rintro aI ⟨c2,h,rfl⟩
  unfold nd at h
  refine aa.ret<|?_
  obtain rfl:=h
  exact hP J J
theorem GX {ae:ax} {r:Bool} (h:vX ae=some r):Pu Tryz.prog 151 [.str ae] (.bool r):=by
 unfold vX at h
 refine aH.bj Tryz.func151 J Tryz.ntmps151 Tryz.results151 J J ?_
 refine aE<|rA J J<|rN<|tS<|aE<|rM J J<|GF J J<|ah.qv (ff J) J<|rM J J<|rN<|aa.block<|aa.eU (fun x:Int=>jX ae x) (fun x aI=>aI=⟨32,[(0,.str ae),(6,Qv (jT ae)),(7,I ((jT ae).length:Int)),(8,I x)],[]⟩) h ?_ ?_
 ·exact aj.lq [] J J J
 ·intro n2 z1 aI J1 iQ h lK fS
  obtain rfl:=iQ
  replace h:jX ae n2=some z1:=h
  unfold jX at h
  refine aE<|ah.qv (ca J J) J<|rN<|tS<|cD h J (fun h=>?_) (fun h=>?_)
  ·refine tK<|tS<|aa.block<|aE<|aG h fun v3 e1 h=>ah.qv (cu J J J e1 J J) J<|ah.qv (bV J J J) J<|rA J J<|rN<|tS<|aa.cut (fun aI=>∃ (c4:Bool),se n2 c4=some z1∧aI=⟨32,[(0,.str ae),(6,Qv (jT ae)),(7,I ((jT ae).length:Int)),(8,I n2),(17,.bool c4)],[]⟩) ?_ ?_
   ·refine tR<|rM J J<|ah.qv (ca J J) J<|rM J J<|ah.fH J J J (fun hc=>?_) (fun hc=>?_)
    ·rw [BK hc] at h
     exact rM J J<|rY J J J<|ah.qv (bH J J) J<|rE J J J<|rN<|aa.stop<|aj.lq [] ⟨decide (v3=(127:Int)),h,J⟩ J J
    ·rw [BJ hc] at h
     exact rG J J J J<|rT J J J<|rN<|aa.stop<|aj.lq [] ⟨true,h,J⟩ J J
   ·rintro aI ⟨c4,h,rfl⟩
    unfold se at h
    refine cB h J (fun h=>?_) (fun h=>?_)
    ·refine aE<|rA J J<|rN<|aa.ret<|have h:=cy h fS;?_
     cases h
     exact hP J J
    ·refine tK<|aa.cr<|tR<|ah.qv (bh J J) J<|rM J J<|rN<|aa.stop<|?_
     cases h
     exact lK _ _ J<|aj.lq [] J J J
  ·refine aa.exit J<|have h:=cy h fS;?_
   unfold sf at h
   refine tS<|aa.cut (fun aI=>∃ (c5:Bool),nR c5=some r∧aI=⟨32,[(2,.bool c5)],[]⟩) ?_ ?_
   ·refine tR<|rM J J<|aG h fun v6 e2 h=>aM J (pF e2) cR J<|rM J J<|ah.guard J J J (fun hc=>?_) (fun hc=>?_)
    ·refine have h:=nv hc h;rM J J<|rY J J J<|rM J J<|rY J J J<|aG h fun v7 e3 h=>aM J (ju e3) cR J<|rY J J J<|ah.qv (iI J J) J<|rT J J J<|rM J J<|gT h J J J (fun h=>?_) (fun h=>?_)
     ·exact rM J J<|rY J J J<|aG h fun v8 e4 h=>aM J (mE e4) cR J<|rY J J J<|ah.qv (cz J) J<|rT J J J<|rA J J<|rN<|aa.stop<|aj.lq [] ⟨!v8,h,J⟩ J J
     ·exact rG J J J J<|rG J J J J<|rE J J J<|rA J J<|rN<|aa.stop<|aj.lq [] ⟨false,h,J⟩ J J
    ·exact have h:=ql hc h;rG J J J J<|rG J J J J<|rG J J J J<|rE J J J<|rM J J<|rG J J J J<|rG J J J J<|rG J J J J<|rE J J J<|rA J J<|rN<|aa.stop<|aj.lq [] ⟨false,h,J⟩ J J
   ·rintro aI ⟨c5,h,rfl⟩
    unfold nR at h
    refine aa.ret<|?_
    cases h
    exact hP J J
theorem Cd {ae:List Model} {ai:ab} {r:Int} (h:pL ae ai=some r):Pu Tryz.prog 103 [pa ae,ab.av ai] (I r):=by
 unfold pL at h
 refine aH.bj Tryz.func103 J Tryz.ntmps103 Tryz.results103 J J ?_
 refine aE<|fe J J J J fun b1=>rA J J<|rN<|tS<|aE<|rF J J J<|rL J J .p0 J J<|rN<|aa.block<|aE<|ah.qv (bH J J) J<|rA J J<|rN<|aa.cut (fun aI=>om=some r∧aI=⟨64,[],[]⟩) ?_ ?_
 ·refine cD h J (fun h=>?_) (fun h=>?_)
  ·refine aa.block<|aE<|rM J J<|rF J J J<|rL J J .p0 J J<|aG h fun v2 e1 h=>aM J (DE e1) cR J<|ah.qv (ca J J) J<|rA J J<|rN<|cD h J (fun h=>?_) (fun h=>?_)
   ·refine aE<|rA J J<|rN<|aa.ret<|?_
    cases h
    exact hP J J
   ·refine aE<|rF J J J<|rL J J .p0 J J<|aM J (np J) cR J<|ah.qv (cz J) J<|rA J J<|rN<|cB h J (fun h=>?_) (fun h=>?_)
    ·refine aE<|rA J J<|rN<|aa.ret<|?_
     cases h
     exact hP J J
    ·refine aE<|rF J J J<|rL J J .p0 J J<|aG h fun v3 e2 h=>aM J (uM e2) cR J<|ah.qv (cz J) J<|rA J J<|rN<|cB h J (fun h=>?_) (fun h=>?_)
     ·refine aE<|rA J J<|rN<|aa.ret<|?_
      cases h
      exact hP J J
     ·exact tK<|aa.cr<|aa.stop<|aj.lq [] ⟨h,J⟩ J J
  ·refine aE<|ah.qv (bH J J) J<|rA J J<|rN<|cD h J (fun h=>?_) (fun h=>?_)
   ·refine aE<|rF J J J<|rL J J .p0 J J<|aG h fun v4 e3 h=>aM J (Cc e3) cR J<|rA J J<|rN<|aa.ret<|?_
    cases h
    exact hP J J
   ·refine aE<|ah.qv (bH J J) J<|rA J J<|rN<|aa.cut (fun aI=>oo=some r∧aI=⟨64,[],[]⟩) ?_ ?_
    ·refine cD h J (fun h=>?_) (fun h=>?_)
     ·refine tS<|aE<|rF J J J<|rL J J .p0 J J<|aG h fun v5 e4 h=>aM J (uM e4) cR J<|ah.qv (cz J) J<|rN<|cB h J (fun h=>?_) (fun h=>?_)
      ·refine aE<|rA J J<|rN<|aa.ret<|?_
       cases h
       exact hP J J
      ·refine tK<|aE<|rF J J J<|rL J J .p0 J J<|rF J J J<|rL J J .p0 J J<|aM J (np J) cR J<|ah.qv (cz J) J<|rN<|cB h J (fun h=>?_) (fun h=>?_)
       ·refine aE<|rA J J<|rN<|aa.ret<|?_
        cases h
        exact hP J J
       ·exact tK<|aa.stop<|aj.lq [] ⟨h,J⟩ J J
     ·refine aE<|ah.qv (bH J J) J<|rA J J<|rN<|aa.cut (fun aI=>oq=some r∧aI=⟨64,[],[]⟩) ?_ ?_
      ·refine cD h J (fun h=>?_) (fun h=>?_)
       ·refine aE<|rF J J J<|ah.qv (dN J J .p0 J J) J<|aM J (w6 J) cR J<|ah.qv (cz J) J<|rN<|cB h J (fun h=>?_) (fun h=>?_)
        ·refine aE<|rA J J<|rN<|aa.ret<|?_
         cases h
         exact hP J J
        ·exact tK<|aa.stop<|aj.lq [] ⟨h,J⟩ J J
       ·refine aE<|ah.qv (bH J J) J<|rA J J<|rN<|aa.cut (fun aI=>me=some r∧aI=⟨64,[],[]⟩) ?_ ?_
        ·refine cD h J (fun h=>?_) (fun h=>?_)
         ·refine tS<|aE<|rF J J J<|rL J J .p0 J J<|aG h fun v6 e5 h=>aM J (uf e5) cR J<|ah.qv (cz J) J<|rN<|cB h J (fun h=>?_) (fun h=>?_)
          ·refine aE<|rA J J<|rN<|aa.ret<|?_
           cases h
           exact hP J J
          ·refine tK<|tS<|aa.cut (fun aI=>∃ (c7:Bool),ot c7=some r∧aI=⟨64,[(63,.bool c7)],[]⟩) ?_ ?_
           ·refine tR<|rF J J J<|rL J J .p0 J J<|aG h fun v8 e6 h=>aM J (GX e6) cR J<|ah.qv (cz J) J<|rM J J<|ah.guard J J J (fun hc=>?_) (fun hc=>?_)
            ·rw [Et hc] at h
             exact rF J J J<|rY J J J<|rL J J .p0 J J<|rY J J J<|ah.qv (dc J) J<|rY J J J<|ah.qv (gx J J) J<|rE J J J<|rN<|aa.stop<|aj.lq [] ⟨decide ((100:Int) < (ai.Value.length:Int)),h,J⟩ J J
            ·rw [Es hc] at h
             exact rG J J J J<|rG J J J J<|rG J J J J<|rT J J J<|rN<|aa.stop<|aj.lq [] ⟨true,h,J⟩ J J
           ·rintro aI ⟨c7,h,rfl⟩
            unfold ot at h
            refine cB h J (fun h=>?_) (fun h=>?_)
            ·refine aE<|rA J J<|rN<|aa.ret<|?_
             cases h
             exact hP J J
            ·exact tK<|aa.stop<|aj.lq [] ⟨h,J⟩ J J
         ·exact tK<|aa.stop<|aj.lq [] ⟨h,J⟩ J J
        ·rintro aI ⟨h,rfl⟩
         unfold me at h
         exact aa.stop<|aj.lq [] ⟨h,J⟩ J J
      ·rintro aI ⟨h,rfl⟩
       unfold oq at h
       exact aa.stop<|aj.lq [] ⟨h,J⟩ J J
    ·rintro aI ⟨h,rfl⟩
     unfold oo at h
     exact aa.stop<|aj.lq [] ⟨h,J⟩ J J
 ·rintro aI ⟨h,rfl⟩
  unfold om at h
  refine aa.cr<|aE<|rA J J<|rN<|aa.ret<|?_
  cases h
  exact hP J J
theorem Ao [GI:bz] {ae:Int} {r:ax} (h:qq ae=some r):Pu Tryz.prog 104 [I ae] (.str r):=by
 unfold qq at h
 refine aH.bj Tryz.func104 J Tryz.ntmps104 Tryz.results104 J J ?_
 refine aE<|rA J J<|rN<|aE<|aT (xs:=([([]:ax),([109,115,107]:ax),([116]:ax),([]:ax),([107,117]:ax),([102]:ax),([110,118]:ax),([]:ax),([]:ax),([]:ax)]).map AV.str) J J J J J J<|rM J J<|aG h fun v1 e1 h=>ah.qv (cu J J J e1 J J) J<|ah.qv (bV J J J) J<|rA J J<|rN<|aa.ret<|?_
 cases h
 exact hP J J
theorem tE {ae:List Model} {ai:ab} {r:Int} (h:lG ae ai=some r):Pu Tryz.prog 54 [pa ae,ab.av ai] (I r):=by
 unfold lG at h
 refine aH.bj Tryz.func54 J Tryz.ntmps54 Tryz.results54 J J ?_
 refine aE<|fe J J J J fun b1=>rA J J<|rN<|tS<|aa.block<|aE<|rF J J J<|rL J J .p0 J J<|aG h fun v2 e1 h=>aM J (uf e1) cR J<|ah.qv (cz J) J<|rA J J<|rN<|cB h J (fun h=>?_) (fun h=>?_)
 ·refine aE<|rA J J<|rN<|aa.ret<|?_
  cases h
  exact hP J J
 ·refine tS<|aa.cut (fun aI=>∃ (c3:Bool),mx ae ai c3=some r∧aI=⟨92,[(0,pa ae),(3,.ptr b1 0),(14,.bool c3)],[(b1,.cells (x5 ai))]⟩) ?_ ?_
  ·refine tR<|rF J J J<|rL J J .p0 J J<|aM J (np J) cR J<|ah.qv (cz J) J<|rM J J<|ah.guard J J J (fun hc=>?_) (fun hc=>?_)
   ·rw [Et hc] at h
    refine rF J J J<|rY J J J<|rL J J .p0 J J<|rY J J J<|rF J J J<|rY J J J<|rL J J .p0 J J<|rY J J J<|aM J (np J) cR J<|rY J J J<|ah.qv (cz J) J<|rE J J J<|rM J J<|ah.guard J J J (fun hc=>?_) (fun hc=>?_)
    ·rw [Et hc] at h
     exact rF J J J<|rY J J J<|rL J J .p0 J J<|rY J J J<|aM J (yc J) cR J<|rY J J J<|ah.qv (eT J J) J<|rE J J J<|rA J J<|rN<|aa.stop<|aj.lq [0] ⟨decide ((kG ai.At)≠(0:Int)),h,J⟩ J J
    ·rw [Es hc] at h
     exact rG J J J J<|rG J J J J<|rG J J J J<|rT J J J<|rA J J<|rN<|aa.stop<|aj.lq [0] ⟨true,h,J⟩ J J
   ·rw [Es hc] at h
    exact rG J J J J<|rG J J J J<|rG J J J J<|rG J J J J<|rG J J J J<|rT J J J<|rM J J<|rG J J J J<|rG J J J J<|rG J J J J<|rG J J J J<|rT J J J<|rA J J<|rN<|aa.stop<|aj.lq [0] ⟨true,h,J⟩ J J
  ·rintro aI ⟨c3,h,rfl⟩
   unfold mx at h
   refine cB h J (fun h=>?_) (fun h=>?_)
   ·refine aE<|rA J J<|rN<|aa.ret<|?_
    cases h
    exact hP J J
   ·refine aE<|rF J J J<|rL J J .p0 J J<|aM J (np J) cR J<|ah.qv (cz J) J<|rA J J<|rN<|cB h J (fun h=>?_) (fun h=>?_)
    ·refine aE<|rA J J<|rN<|aa.ret<|?_
     cases h
     exact hP J J
    ·refine aE<|rF J J J<|rL J J .p0 J J<|aG h fun v4 e2 h=>aM J (uf e2) cR J<|ah.qv (cz J) J<|rA J J<|rN<|cB h J (fun h=>?_) (fun h=>?_)
     ·refine aE<|rA J J<|rN<|aa.ret<|?_
      cases h
      exact hP J J
     ·refine tK<|aa.cr<|tS<|aE<|rM J J<|ah.qv (aS J J .p0 J) J<|aG h fun v5 e3 h=>aM J (Cd e3) cR J<|rA J J<|rN<|aE<|rM J J<|ah.qv (eT J J) J<|rN<|cD h J (fun h=>?_) (fun h=>?_)
      ·refine aE<|rM J J<|rA J J<|rN<|aa.ret<|?_
       cases h
       exact hP J J
      ·refine tK<|aE<|rF J J J<|rL J J .p0 J J<|aG h fun v6 e4 h=>aM J (Ao e4) cR J<|rA J J<|rN<|tS<|tS<|aa.KY (id:=13) (A:=[0,0,2,6,15,0,32,96,225,0,512,1536,3585,0,8192,24576,57345,0,131072,393216,917505,0,2097152,0,14680064,31457281,0,67108864,201326592,469762049,0,1073741824,3221225472,7516192769,17179869183,34359738367]) 34 mixed J (by kernel_rfl) (by kernel_rfl) 0 [(0,52)] AV.str AV.bool ([(4,([109]:ax),decide (ai.Model≠([]:ax))),(8,([115]:ax),decide (ai.az≠(0:Int))),(12,([107]:ax),decide (ai.Key≠([]:ax))),(16,([116]:ax),decide (ai.aK≠([]:ax))),(20,([117]:ax),decide (ai.aW≠(0:Int))),(25,([102]:ax),decide (ai.ak≠(⟨(0:Int),(0:Int),(0:Int)⟩:Version))),(29,([110]:ax),decide (ai.Name≠([]:ax))),(33,([118]:ax),decide (ai.Value≠([]:ax)))]:List (Nat×ax×Bool)) J J J<|AL.mk [4,8,12,16,20,25,29,33] J J J J J<|AL.am 3 J J<|AM.qv (au J J) J<|AM.qv (aB J J .p0 J) J<|AM.qv (yB J J) J<|AM.nil<|AL.ins (gk:=AV.str) (gv:=AV.bool) (key:=([109]:ax)) (v:=decide (ai.Model≠([]:ax))) [(0,52)] J J J J J (fun _=>J) (fun _=>J) (fun _=>J) J<|AL.am 3 J J<|AM.qv (au J J) J<|AM.qv (aB J J .p0 J) J<|AM.qv (eT J J) J<|AM.nil<|AL.ins (gk:=AV.str) (gv:=AV.bool) (key:=([115]:ax)) (v:=decide (ai.az≠(0:Int))) [(0,52)] J J J J J (fun _=>J) (fun _=>J) (fun _=>J) J<|AL.am 3 J J<|AM.qv (au J J) J<|AM.qv (aB J J .p0 J) J<|AM.qv (yB J J) J<|AM.nil<|AL.ins (gk:=AV.str) (gv:=AV.bool) (key:=([107]:ax)) (v:=decide (ai.Key≠([]:ax))) [(0,52)] J J J J J (fun _=>J) (fun _=>J) (fun _=>J) J<|AL.am 3 J J<|AM.qv (au J J) J<|AM.qv (aB J J .p0 J) J<|AM.qv (yB J J) J<|AM.nil<|AL.ins (gk:=AV.str) (gv:=AV.bool) (key:=([116]:ax)) (v:=decide (ai.aK≠([]:ax))) [(0,52)] J J J J J (fun _=>J) (fun _=>J) (fun _=>J) J<|AL.am 3 J J<|AM.qv (au J J) J<|AM.qv (aB J J .p0 J) J<|AM.qv (eT J J) J<|AM.nil<|AL.ins (gk:=AV.str) (gv:=AV.bool) (key:=([117]:ax)) (v:=decide (ai.aW≠(0:Int))) [(0,52)] J J J J J (fun _=>J) (fun _=>J) (fun _=>J) J<|AL.am 4 J J<|AM.qv (au J J) J<|AM.qv (dN J J .p0 J J) J<|AM.qv (cW J J J J J) J<|AM.qv (Fv (g:=Version.av) (X:=ai.ak) (Y:=(⟨(0:Int),(0:Int),(0:Int)⟩:Version)) J J J J J) J<|AM.nil<|AL.ins (gk:=AV.str) (gv:=AV.bool) (key:=([102]:ax)) (v:=decide (ai.ak≠(⟨(0:Int),(0:Int),(0:Int)⟩:Version))) [(0,52)] J J J J J (fun _=>J) (fun _=>J) (fun _=>J) J<|AL.am 3 J J<|AM.qv (au J J) J<|AM.qv (aB J J .p0 J) J<|AM.qv (yB J J) J<|AM.nil<|AL.ins (gk:=AV.str) (gv:=AV.bool) (key:=([110]:ax)) (v:=decide (ai.Name≠([]:ax))) [(0,52)] J J J J J (fun _=>J) (fun _=>J) (fun _=>J) J<|AL.am 3 J J<|AM.qv (au J J) J<|AM.qv (aB J J .p0 J) J<|AM.qv (yB J J) J<|AM.nil<|AL.ins (gk:=AV.str) (gv:=AV.bool) (key:=([118]:ax)) (v:=decide (ai.Value≠([]:ax))) [(0,52)] J J J J J (fun _=>J) (fun _=>J) (fun _=>J) J<|AL.nil fun b7=>ah.ghost<|aj.Nj (b:=b7) (o':=IW ([(([109]:ax),decide (ai.Model≠([]:ax))),(([115]:ax),decide (ai.az≠(0:Int))),(([107]:ax),decide (ai.Key≠([]:ax))),(([116]:ax),decide (ai.aK≠([]:ax))),(([117]:ax),decide (ai.aW≠(0:Int))),(([102]:ax),decide (ai.ak≠(⟨(0:Int),(0:Int),(0:Int)⟩:Version))),(([110]:ax),decide (ai.Name≠([]:ax))),(([118]:ax),decide (ai.Value≠([]:ax)))]:List (ax×Bool))) J .p0<|aj.here<|rM J J<|BQ (M:=([(([109]:ax),decide (ai.Model≠([]:ax))),(([115]:ax),decide (ai.az≠(0:Int))),(([107]:ax),decide (ai.Key≠([]:ax))),(([116]:ax),decide (ai.aK≠([]:ax))),(([117]:ax),decide (ai.aW≠(0:Int))),(([102]:ax),decide (ai.ak≠(⟨(0:Int),(0:Int),(0:Int)⟩:Version))),(([110]:ax),decide (ai.Name≠([]:ax))),(([118]:ax),decide (ai.Value≠([]:ax)))]:List (ax×Bool))) (enc:=Qw) J (fun _ _=>.p0) J fun b8 Uc QA QB Ud=>rN<|aa.block<|aa.BP (fun e (x:Unit)=>gu v6 e) (fun x:Unit=>kr) (fun R x aI=>∃ (I8:List Nat),te Uc QA I8 (R.map Qw)∧aI=⟨92,[(6,.str v6),(79,.ptr b8 0)],[(b8,.D8 b7 QA I8),(b7,.Ei Uc QA)]⟩) h ?_ ?_
       ·exact aj.lq [0,0] ⟨[],Ud,J⟩ J J
       ·intro R1 x aI J1 iQ I9 Mv
        obtain ⟨I8,Ja,rfl⟩:=iQ
        refine aE<|EG J Ja .p1 (fun _=>.p0) J (fun hN=>?_) (fun Hq R' DF hP hlen DG DH=>?_)
        ·have h:=M6 I9 hN
         replace h:kr=_:=h
         unfold kr at h
         refine ah.ghost<|aj.wO QB .p1<|aj.here<|rX J J J<|rN<|tS<|aa.wF J<|aa.exit J<|aE<|rA J J<|rN<|aa.ret<|?_
         cases h
         exact hP J J
        ·obtain ⟨z1,h,Mw,fS⟩:=Ie I9 hP
         replace h:gu v6 Hq=some z1:=h
         unfold gu at h
         have lK:=fun y aI (e:z1=.inl y) hi=>Mv R' y aI hlen (Mw y e) hi
         clear Mw hP Mv I9
         refine rX J J J<|rN<|tS<|aa.sK J<|tK<|aa.block<|aE<|ah.qv (BR J .p0 .p1 DH J J) J<|rX J J J<|rX J J J<|rA J J<|rA J J<|rN<|tS<|aa.cut (fun aI=>∃ (c9:Bool),kq c9=some z1∧aI=⟨92,[(6,.str v6),(79,.ptr b8 0),(91,.bool c9)],[(b8,.D8 b7 QA DF),(b7,.Ei Uc QA)]⟩) ?_ ?_
         ·refine tR<|rM J J<|rM J J<|ah.guard J J J (fun hc=>?_) (fun hc=>?_)
          ·exact have h:=nv hc h;rM J J<|rY J J J<|rM J J<|rY J J J<|aG h fun v10 e6 h=>aM J (mE e6) cR J<|rY J J J<|ah.qv (cz J) J<|rT J J J<|rN<|aa.stop<|aj.lq [0,0] ⟨!v10,h,J⟩ J J
          ·exact have h:=ql hc h;rG J J J J<|rG J J J J<|rG J J J J<|rE J J J<|rN<|aa.stop<|aj.lq [0,0] ⟨false,h,J⟩ J J
         ·rintro aI ⟨c9,h,rfl⟩
          unfold kq at h
          refine cB h J (fun h=>?_) (fun h=>?_)
          ·refine aE<|rA J J<|rN<|aa.ghost<|aj.wO QB .p1<|aj.here<|aa.ret<|have h:=cy h fS;?_
           cases h
           exact hP J J
          ·refine tK<|aa.cr<|aa.stop<|?_
           cases h
           exact lK _ _ J<|aj.lq [0,0] ⟨DF,DG,J⟩ J J
theorem yd {ae:List Model} {ai:List ab} {r:Int} (h:kH ae ai=some r):Pu Tryz.prog 16 [pa ae,tv ai] (I r):=by
 unfold kH at h
 refine aH.bj Tryz.func16 J Tryz.ntmps16 Tryz.results16 J J ?_
 refine aE<|rA J J<|rN<|tS<|aE<|rM J J<|ah.qv (ff J) J<|ah.qv (gx J J) J<|rN<|cD h J (fun h=>?_) (fun h=>?_)
 ·refine aE<|rA J J<|rN<|aa.ret<|?_
  cases h
  exact hP J J
 ·refine tK<|aE<|kE J fun b1=>rA J J<|rN<|tS<|aE<|rM J J<|ah.qv (ff J) J<|rM J J<|rN<|aa.block<|aa.eU (fun x:(List (ax×Int))×Int=>iw ae ai x.1 x.2) (fun x aI=>aI=⟨57,[(0,pa ae),(1,tv ai),(5,.cd b1),(13,tv ai),(14,I (ai.length:Int)),(15,I x.2)],[(b1,Mq x.1)]⟩) h ?_ ?_
  ·exact aj.lq [0] J J J
  ·intro x z1 aI J1 iQ h lK fS
   obtain ⟨l4,n5⟩:=x
   obtain rfl:=iQ
   replace h:iw ae ai l4 n5=some z1:=h
   unfold iw at h
   refine aE<|ah.qv (ca J J) J<|rN<|tS<|cD h J (fun h=>?_) (fun h=>?_)
   ·refine tK<|tS<|aa.block<|aE<|rM J J<|aG h fun v6 e1 h=>ah.qv (cu J J J e1 J J) J<|ah.qv (bt J J J) J<|gd J J J J fun b7=>rA J J<|aC J J J J .p0 J J<|rN<|tS<|aE<|rM J J<|ah.qv (aS J J .p0 J) J<|aG h fun v8 e2 h=>aM J (tE e2) cR J<|rA J J<|rN<|aE<|rM J J<|ah.qv (eT J J) J<|rN<|cD h J (fun h=>?_) (fun h=>?_)
    ·refine aE<|rM J J<|rA J J<|rN<|aa.ret<|have h:=cy h fS;?_
     cases h
     exact hP J J
    ·refine tK<|tS<|aa.block<|tS<|aa.cut (fun aI=>∃ (c9:Bool),lH l4 n5 v6 c9=some z1∧aI=⟨57,[(0,pa ae),(1,tv ai),(5,.cd b1),(7,.ptr b7 0),(13,tv ai),(14,I (ai.length:Int)),(15,I n5),(26,.bool c9)],[(b1,Mq l4),(b7,.cells (x5 v6))]⟩) ?_ ?_
     ·refine aa.bM (id:=10) (A:=[0,1,3,7,7,23,63,127,7,511,1023,2047,4095]) 13 mixed J (by kernel_rfl) (by kernel_rfl)<|AM.qv (ar J) J<|AM.qv (gx J J) J<|AM.qv (ar J) J<|AM.cJ J J J (fun hc=>?_) (fun hc=>?_)
      ·exact have h:=nv hc h;AM.qv (ar J) J<|AM.aA J J J<|AM.qv (ar J) J<|AM.aA J J J<|AM.qv (cE J J) J<|AM.aA J J J<|aG h fun v10 e3 h=>AM.qv (cu J J J e3 J J) J<|AM.aA J J J<|AM.qv (bt J J J) J<|AM.aA J J J<|AM.qv (aS J J .p0 J) J<|AM.aA J J J<|aG h fun v11 e4 h=>AM.qW J (tz e4) cR J<|AM.aA J J J<|AM.qv (oU J J) J<|AM.qv (fT J J) J<|AM.qv (bl J) J<|AM.nil<|rN<|aa.stop<|aj.lq [1,0] ⟨decide ((0:Int)≤v11),h,J⟩ J J
      ·exact have h:=vz hc h;AM.aF J J J J<|AM.aF J J J J<|AM.aF J J J J<|AM.aF J J J J<|AM.aF J J J J<|AM.aF J J J J<|AM.aF J J J J<|AM.qv (eI J J) J<|AM.qv (bl J) J<|AM.nil<|rN<|aa.stop<|aj.lq [1,0] ⟨false,h,J⟩ J J
     ·rintro aI ⟨c9,h,rfl⟩
      unfold lH at h
      refine cB h J (fun h=>?_) (fun h=>?_)
      ·refine aE<|rA J J<|rN<|aa.ret<|have h:=cy h fS;?_
       cases h
       exact hP J J
      ·refine aE<|rF J J J<|rL J J .p1 J J<|rM J J<|rF J J J<|rL J J .p1 J J<|aG h fun v12 e5 h=>ah.qv (pB (gk:=AV.str) (gv:=I) (M:=l4) (key:=v6.cj) (Z:=(0:Int)) J J .p0 J J J e5 J) J<|ah.qv (bh J J) J<|ah.qv (eT J J) J<|rA J J<|rN<|cD h J (fun h=>?_) (fun h=>?_)
       ·refine aE<|rA J J<|rN<|aa.ret<|have h:=cy h fS;?_
        cases h
        exact hP J J
       ·refine tK<|aa.cr<|tR<|rM J J<|rF J J J<|rL J J .p1 J J<|rF J J J<|rL J J .p1 J J<|fA (gk:=AV.str) (gv:=I) (M:=l4) (key:=v6.cj) (v:=v6.No) J J J J .p0<|rN<|aa.cr<|tR<|ah.qv (bh J J) J<|rM J J<|rN<|aa.stop<|?_
        cases h
        exact lK _ _ J<|aj.lq [0] J J J
   ·refine aa.exit J<|have h:=cy h fS;?_
    unfold rq at h
    refine tS<|aE<|rM J J<|ah.qv (tZ (gk:=AV.str) (gv:=I) (M:=l4) J .p0) J<|ah.qv (gx J J) J<|rN<|cD h J (fun h=>?_) (fun h=>?_)
    ·refine aE<|rA J J<|rN<|aa.ret<|?_
     cases h
     exact hP J J
    ·refine tK<|aE<|rA J J<|rN<|aa.ret<|?_
     cases h
     exact hP J J
theorem zy [GI:bz] {ae:List Int} {r:Int} (h:o5 ae=some r):Pu Tryz.prog 14 [ic ae] (I r):=by
 unfold o5 at h
 refine aH.bj Tryz.func14 J Tryz.ntmps14 Tryz.results14 J J ?_
 refine aE<|rA J J<|rN<|aE<|rA J J<|rN<|tS<|aE<|rM J J<|ah.qv (ff J) J<|rM J J<|rN<|aa.block<|aa.eU (fun x:Int=>mz ae x) (fun x aI=>aI=⟨18,[(3,I (0:Int)),(6,ic ae),(7,I (ae.length:Int)),(8,I x)],[]⟩) h ?_ ?_
 ·exact aj.lq [] J J J
 ·intro n2 z1 aI J1 iQ h lK fS
  obtain rfl:=iQ
  replace h:mz ae n2=some z1:=h
  unfold mz at h
  refine aE<|ah.qv (ca J J) J<|rN<|tS<|cD h J (fun h=>?_) (fun h=>?_)
  ·refine tK<|tS<|aa.block<|aE<|aG h fun v3 e1 h=>ah.qv (cu J J J e1 J J) J<|ah.qv (bV J J J) J<|rA J J<|rN<|aE<|rM J J<|rM J J<|ah.qv (eT J J) J<|rN<|cD h J (fun h=>?_) (fun h=>?_)
   ·refine aE<|rM J J<|rA J J<|rN<|aa.ret<|have h:=cy h fS;?_
    cases h
    exact hP J J
   ·refine tK<|aa.cr<|tR<|ah.qv (bh J J) J<|rM J J<|rN<|aa.stop<|?_
    cases h
    exact lK _ _ J<|aj.lq [] J J J
  ·refine aa.exit J<|have h:=cy h fS;aE<|rM J J<|rA J J<|rN<|aa.ret<|?_
   cases h
   exact hP J J
theorem w7 [GI:bz] {ae:ax} {r:Int} (h:kY ae=some r):Pu Tryz.prog 109 [.str ae] (.int .u8 r):=by
 unfold kY at h
 refine aH.bj Tryz.func109 J Tryz.ntmps109 Tryz.results109 J J ?_
 refine aE<|rA J J<|rN<|aE<|rA J J<|rN<|tS<|aE<|rM J J<|ah.qv (dc J) J<|rM J J<|rN<|aa.block<|aa.eU (fun x:Int×Int=>cN ae x.1 x.2) (fun x aI=>aI=⟨23,[(0,.str ae),(3,I x.1),(6,I (ae.length:Int)),(7,I x.2)],[]⟩) h ?_ ?_
 ·exact aj.lq [] J J J
 ·intro x z1 aI J1 iQ h lK fS
  obtain ⟨n3,n4⟩:=x
  obtain rfl:=iQ
  replace h:cN ae n3 n4=some z1:=h
  unfold cN at h
  refine aE<|ah.qv (ca J J) J<|rN<|tS<|cD h J (fun h=>?_) (fun h=>?_)
  ·refine tK<|tS<|aa.block<|aE<|rM J J<|rA J J<|rN<|tR<|rM J J<|rM J J<|ah.qv (bh J J) J<|rM J J<|rM J J<|aG h fun c5 e1 h=>ah.qv (jK J J e1) J<|aM J (oZ J) cR J<|ah.qv (wG J J) J<|ah.qv (bh J J) J<|rA J J<|rN<|aa.cr<|tR<|ah.qv (bh J J) J<|rM J J<|rN<|aa.stop<|?_
   cases h
   exact lK _ _ J<|aj.lq [] J J J
  ·refine aa.exit J<|have h:=cy h fS;?_
   unfold qs at h
   refine aE<|rM J J<|ah.qv (LQ J J (by decide)) J<|aG h fun c6 e2 h=>ah.qv (jK J J e2) J<|rA J J<|rN<|aa.ret<|?_
   cases h
   exact hP J J
theorem ye {ae:List Model} {ai:ax} {ao:Int} {r:ax×Int} (h:ou ae ai ao=some r):Pu Tryz.prog 55 [pa ae,.str ai,I ao] (.mA [.str r.1,I r.2]):=by
 unfold ou at h
 refine aH.bj Tryz.func55 J Tryz.ntmps55 Tryz.results55 J J ?_
 refine aE<|rA J J<|rA J J<|rN<|tS<|aE<|rM J J<|aG h fun v1 e1 h=>aM J (oI e1) cR J<|rA J J<|rN<|aE<|rM J J<|ah.qv (eT J J) J<|rN<|cD h J (fun h=>?_) (fun h=>?_)
 ·refine aE<|rM J J<|rA J J<|rA J J<|rN<|aa.ret<|?_
  cases h
  exact hQ J J J
 ·refine tK<|aE<|rM J J<|rM J J<|aG h fun v2 e2 h=>aM J (tB e2) cR J<|rA J J<|rN<|tS<|aE<|rM J J<|ah.qv (ca J J) J<|rN<|cD h J (fun h=>?_) (fun h=>?_)
  ·refine aE<|rA J J<|rA J J<|rN<|aa.ret<|?_
   cases h
   exact hQ J J J
  ·refine tK<|tS<|aE<|rM J J<|aM J (fp J) cR J<|rN<|cB h J (fun h=>?_) (fun h=>?_)
   ·refine aE<|rA J J<|rA J J<|rN<|aa.ret<|?_
    cases h
    exact hQ J J J
   ·refine tK<|aE<|rM J J<|aG h fun v3 e3 h=>aM J (zf e3) cR J<|rA J J<|rN<|aE<|rM J J<|ah.qv (dc J) J<|ah.qv (cE J J) J<|aG h fun v4 e4 h=>aM J (wX e4) cR J<|rM J J<|aG h fun q5 e5 h=>ah.qv (wP e5 J J) J<|rA J J<|rN<|aE<|rM J J<|rM J J<|aG h fun v6 e6 h=>ah.qv (cu J J J e6 J J) J<|ah.qv (eE J J) J<|ah.qv (bV J J J) J<|rA J J<|rN<|aE<|rM J J<|aG h fun q7 e7 h=>ah.qv (wP e7 J J) J<|rM J J<|aG h fun q8 e8 h=>ah.qv (wP e8 J J) J<|aG h fun q9 e9 h=>ah.qv (wP e9 J J) J<|rM J J<|rM J J<|aG h fun zW Eg h=>ah.qv (wP Eg J J) J<|aG h fun v11 Hs h=>aM J (w7 Hs) cR J<|ah.qv (GA J) J<|aG h fun zX Be h=>ah.qv (wP Be J J) J<|rA J J<|rA J J<|rN<|aa.ret<|?_
    cases h
    exact hQ J J J
theorem xI {r:Bool} (h:po=some r):Pu Tryz.prog 17 [] (.bool r):=by
 unfold po at h
 refine aH.bj Tryz.func17 J Tryz.ntmps17 Tryz.results17 J J ?_
 refine aE<|rA J J<|rN<|aE<|ah.qv (cW J J J J J) J<|aT (xs:=[.agg [.str ([109]:ax),.str ([65,66]:ax),.nil]]) J J J J J J<|ah.ghost<|aj.Sh (s:=5) (dt:=.list 3 (([(⟨([109]:ax),([65,66]:ax),[]⟩:Model)]:List Model).map Model.av)) J (Ae.H9 (.cons .r (.cons .r (.cons .n .nil))) J J)<|aj.here<|aG h fun v1 e1 h=>aM J (ye e1) cR J<|rM J J<|rX J J J<|rX J J J<|rA J J<|rA J J<|rN<|tS<|aa.cut (fun aI=>∃ (c2:Bool),o6 c2=some r∧aI=⟨15,[(0,.bool c2)],[]⟩) ?_ ?_
 ·refine tR<|rM J J<|ah.qv (bH J J) J<|rM J J<|ah.cJ J J J (fun hc=>?_) (fun hc=>?_)
  ·rw [qY hc] at h
   exact rM J J<|rY J J J<|ah.qv (iI J J) J<|rT J J J<|rA J J<|rN<|aa.stop<|aj.lq [] ⟨decide (v1.1=([65,66,45,48,48,48,48,48,48,48,55,45,77]:ax)),h,J⟩ J J
  ·rw [qZ hc] at h
   exact rG J J J J<|rE J J J<|rA J J<|rN<|aa.stop<|aj.lq [] ⟨false,h,J⟩ J J
 ·rintro aI ⟨c2,h,rfl⟩
  unfold o6 at h
  refine aa.ret<|?_
  cases h
  exact hP J J
theorem Bg [GI:bz] {aQ:Bk} {ll:Bk} {bw:Nat→Bk} {bO:Nat→Nat→Bk} {ae:List (ax×Int)} {ai:ax} {ao:List aX} {r:Bool} (h:ud ae ai ao=some r):aH Tryz.prog 158 [.cd aQ,.str ai] [(aQ,.mp (ae.map (fun e=>(AV.str e.1,(pA bw) e.2)))),(ll,.bU (gA iJ bw bO ao))] (T0 ([(aQ,.mp (ae.map (fun e=>(AV.str e.1,(pA bw) e.2)))),(ll,.bU (gA iJ bw bO ao))]) (.bool r)):=by
 unfold ud at h
 refine aH.fg ?_
 refine aH.bj Tryz.func158 J Tryz.ntmps158 Tryz.results158 J J ?_
 refine aE<|rA J J<|rN<|tS<|aE<|rM J J<|BQ (M:=ae) (enc:=(fun e=>(AV.str e.1,(pA bw) e.2))) J (fun _ _=>.p0) J fun b1 Ue QC QD Uf=>rN<|aa.block<|aa.BP (fun e (x:Unit)=>nT ai ao e) (fun x:Unit=>pP) (fun R x aI=>∃ (I8:List Nat),te Ue QC I8 (R.map (fun e=>(AV.str e.1,(pA bw) e.2)))∧aI=⟨35,[(1,.str ai),(8,.ptr b1 0)],[(aQ,.Ei Ue QC),(ll,.bU (gA iJ bw bO ao)),(b1,.D8 aQ QC I8)]⟩) h ?_ ?_
 ·exact aj.lq [1,1,0] ⟨[],Uf,J⟩ J J
 ·intro R1 x aI J1 iQ I9 Mv
  obtain ⟨I8,Ja,rfl⟩:=iQ
  refine aE<|EG J Ja .p0 (fun _=>.p2) J (fun hN=>?_) (fun Hq R' DF hP hlen DG DH=>?_)
  ·have h:=M6 I9 hN
   replace h:pP=_:=h
   unfold pP at h
   refine ah.ghost<|aj.wO QD .p0<|aj.here<|rX J J J<|rN<|tS<|aa.wF J<|aa.exit J<|aE<|rA J J<|rN<|aa.ret<|?_
   cases h
   exact hH J [0,0] J ⟨J,J⟩
  ·obtain ⟨z1,h,Mw,fS⟩:=Ie I9 hP
   replace h:nT ai ao Hq=some z1:=h
   unfold nT at h
   have lK:=fun y aI (e:z1=.inl y) hi=>Mv R' y aI hlen (Mw y e) hi
   clear Mw hP Mv I9
   refine rX J J J<|rN<|tS<|aa.sK J<|tK<|aa.block<|aE<|ah.qv (BR J .p2 .p0 DH J J) J<|rX J J J<|rA J J<|rN<|tS<|aa.cut (fun aI=>∃ (c2:Bool),pM c2=some z1∧aI=⟨35,[(1,.str ai),(8,.ptr b1 0),(34,.bool c2)],[(aQ,.Ei Ue QC),(ll,.bU (gA iJ bw bO ao)),(b1,.D8 aQ QC DF)]⟩) ?_ ?_
   ·refine aG h fun v3 e2 h=>aa.ghost<|aj.eB (kb:=iJ) e2 .p1 J<|aj.here<|aa.bM (id:=4) (A:=[0,1,3,7,15,31,63,127,255,511,63,1087,3135,7231,15423,31807,65535,131071,262143,63,1048575,2097151]) 22 mixed J (by kernel_rfl) (by kernel_rfl)<|AM.qv (ar J) J<|AM.qv (aq J) J<|AM.qv (au J J) J<|AM.qv (aB J J .p0 J) J<|AM.qv (eT J J) J<|AM.qv (ar J) J<|AM.cJ J J J (fun hc=>?_) (fun hc=>?_)
    ·exact have h:=nv hc h;AM.qv (ar J) J<|AM.aA J J J<|AM.qv (aq J) J<|AM.aA J J J<|AM.qv (au J J) J<|AM.aA J J J<|AM.qv (aB J J .p0 J) J<|AM.aA J J J<|AM.qv (ar J) J<|AM.aA J J J<|AM.qv (aq J) J<|AM.aA J J J<|AM.qv (au J J) J<|AM.aA J J J<|AM.qv (aB J J .p0 J) J<|AM.aA J J J<|AM.qv (eA J) J<|AM.aA J J J<|AM.qv (cE J J) J<|AM.aA J J J<|aG h fun v4 e3 h=>AM.qv (bc J J J e3) J<|AM.aA J J J<|AM.qv (bg J J) J<|AM.aA J J J<|AM.qv (cw (g:=Term.av) J J (.inl .p2) e3 J) J<|AM.aA J J J<|AM.qv (ar J) J<|AM.aA J J J<|AM.qv (iI J J) J<|AM.qv (fT J J) J<|AM.nil<|ah.ghost<|aj.og (kb:=iJ) e2 (.cons .p0 (.cons .p0 (.cons .p0 .nil))) J .p1<|aj.here<|rN<|aa.stop<|aj.lq [0,0,0] ⟨decide (v4.Key=ai),h,J⟩ J J
    ·exact have h:=vz hc h;AM.aF J J J J<|AM.aF J J J J<|AM.aF J J J J<|AM.aF J J J J<|AM.aF J J J J<|AM.aF J J J J<|AM.aF J J J J<|AM.aF J J J J<|AM.aF J J J J<|AM.aF J J J J<|AM.aF J J J J<|AM.aF J J J J<|AM.aF J J J J<|AM.aF J J J J<|AM.qv (eI J J) J<|AM.nil<|ah.ghost<|aj.og (kb:=iJ) e2 (.cons .p0 (.cons .p0 (.cons .p0 .nil))) J .p1<|aj.here<|rN<|aa.stop<|aj.lq [0,0,0] ⟨false,h,J⟩ J J
   ·rintro aI ⟨c2,h,rfl⟩
    unfold pM at h
    refine cB h J (fun h=>?_) (fun h=>?_)
    ·refine aE<|rA J J<|rN<|aa.ghost<|aj.wO QD .p0<|aj.here<|aa.ret<|have h:=cy h fS;?_
     cases h
     exact hH J [0,0] J ⟨J,J⟩
    ·refine tK<|aa.cr<|aa.stop<|?_
     cases h
     exact lK _ _ J<|aj.lq [0,0,0] ⟨DF,DG,J⟩ J J
theorem DI [GI:bz] {aQ:Bk} {ll:Bk} {bw:Nat→Bk} {bO:Nat→Nat→Bk} {ae:List (ax×Int)} {ai:ab} {ao:List aX} {r:Int×(List (ax×Int))×(List aX)} (h:sg ae ai ao=some r):aH Tryz.prog 110 [.cd aQ,ab.av ai] [(aQ,.mp (ae.map (fun e=>(AV.str e.1,(pA bw) e.2)))),(ll,.bU (gA iJ bw bO ao))] (T2 (fun ET Jb=>[(aQ,.mp (r.2.1.map (fun e=>(AV.str e.1,(pA ET) e.2)))),(ll,.bU (gA iJ ET Jb r.2.2))]) (fun ET Jb=>I r.1)):=by
 unfold sg at h
 refine aH.fg ?_
 refine aH.bj Tryz.func110 J Tryz.ntmps110 Tryz.results110 J J ?_
 refine aE<|fe J J J J fun b1=>rA J J<|rN<|tS<|aE<|rM J J<|rF J J J<|rL J J .p0 J J<|Na h (fun e1 h=>?_) (fun n2 e1 h=>?_)
 ·refine ah.qv (vh (gk:=AV.str) (gv:=(pA bw)) (M:=ae) (key:=ai.Device) J J .p1 J e1) J<|ah.qv (C9 J J) J<|rN<|aa.wF J<|tK<|tS<|aE<|rM J J<|BQ (M:=ae) (enc:=(fun e=>(AV.str e.1,(pA bw) e.2))) J (fun _ _=>.p1) J fun b3 Ug QE QF Uh=>rN<|aa.block<|aa.BP (fun e (x:Unit)=>pq ae ai ao e) (fun x:Unit=>lI ae ai ao) (fun R x aI=>∃ (I8:List Nat),te Ug QE I8 (R.map (fun e=>(AV.str e.1,(pA bw) e.2)))∧aI=⟨57,[(0,.cd aQ),(3,.ptr b1 0),(13,.ptr b3 0)],[(aQ,.Ei Ug QE),(ll,.bU (gA iJ bw bO ao)),(b3,.D8 aQ QE I8),(b1,.cells (x5 ai))]⟩) h ?_ ?_
  ·exact aj.lq [2,2,0,0] ⟨[],Uh,J⟩ J J
  ·intro R1 x aI J1 iQ I9 Mv
   obtain ⟨I8,Ja,rfl⟩:=iQ
   refine aE<|EG J Ja .p0 (fun _=>.p2) J (fun hN=>?_) (fun Hq R' DF hP hlen DG DH=>?_)
   ·have h:=M6 I9 hN
    replace h:lI ae ai ao=_:=h
    unfold lI at h
    refine ah.ghost<|aj.wO QF .p0<|aj.here<|rX J J J<|rN<|tS<|aa.wF J<|aa.exit J<|tS<|aE<|rM J J<|rF J J J<|rL J J .p3 J J<|aG h fun v4 e3 h=>aV J (Bg e3) cR (.cons .p0 (.cons .p0 .nil)) J J<|rN<|cB h J (fun h=>?_) (fun h=>?_)
    ·refine aE<|rA J J<|rN<|aa.ret<|?_
     cases h
     exact hH J [0,0] J ⟨bw,bO,J,J⟩
    ·refine tK<|aE<|rM J J<|rF J J J<|rL J J .p3 J J<|rF J J J<|rL J J .p3 J J<|rF J J J<|rL J J .p3 J J<|ah.qv (cW J J J J J) J<|rF J J J<|rL J J .p3 J J<|rF J J J<|rL J J .p3 J J<|rF J J J<|rL J J .p3 J J<|ah.qv (cW J J J J J) J<|jS J J J J J J fun b5=>ah.qv (cW J J J J J) J<|fe J J J J fun b6=>ah.ghost<|aj.BN (j:=6) 2 (fun _=>.p0) J (fun _=>J) (fun _=>J) fun b7=>aj.here<|aG h fun u8 e4 h=>ah.ghost<|aj.FO (kb:=iJ) (v:=(⟨(⟨ai.Device,ai.Model,[],(⟨(0:Int),(0:Int),(0:Int)⟩:Version),[]⟩:gh),ai.az,(1:Int),[(⟨ai.Key,ai.At,(345686400000:Int)⟩:Term)]⟩:aX)) (s:=Df [b7,b5]) (.cons .p1 (.cons .p0 (.cons .p0 .nil))) J (fun _ _=>.p1) fun RJ Qz Ui Uj=>aj.here<|ah.ghost<|aj.Nj (Mf Ui e4) .p0<|aj.here<|ah.ghost<|aj.eqs (s:=56) (dt:=.ptr (RJ (ao.length:Int).toNat) 0) J (IA Uj _)<|aj.here<|fA (gk:=AV.str) (gv:=(pA RJ)) (M:=ae) (key:=ai.Device) (v:=(ao.length:Int)) J J J J .p0<|rN<|aE<|rA J J<|rN<|aa.ret<|?_
     cases h
     exact hH J [0,0] J ⟨RJ,Qz,J,J⟩
   ·obtain ⟨z1,h,Mw,fS⟩:=Ie I9 hP
    replace h:pq ae ai ao Hq=some z1:=h
    unfold pq at h
    have lK:=fun y aI (e:z1=.inl y) hi=>Mv R' y aI hlen (Mw y e) hi
    clear Mw hP Mv I9
    refine rX J J J<|rN<|tS<|aa.sK J<|tK<|aa.block<|aE<|ah.qv (BR J .p2 .p0 DH J J) J<|rX J J J<|rA J J<|rN<|tS<|aa.cut (fun aI=>∃ (Qq:Bool),ue ae ao Qq=some z1∧aI=⟨57,[(0,.cd aQ),(3,.ptr b1 0),(13,.ptr b3 0),(34,.bool Qq)],[(aQ,.Ei Ug QE),(ll,.bU (gA iJ bw bO ao)),(b1,.cells (x5 ai)),(b3,.D8 aQ QE DF)]⟩) ?_ ?_
    ·refine aa.bM (id:=6) (A:=[0,1,3,7,15,0,32,127,255,511,1023,2047,4095,511,8703,32767,65535]) 17 mixed J (by kernel_rfl) (by kernel_rfl)<|AM.qv (ar J) J<|AM.qv (aq J) J<|AM.qv (au J J) J<|AM.qv (au J J) J<|aG h fun v12 e6 h=>AM.qv (QV.ara (kb:=iJ) e6 .p1 J (aB J J .p0 J)) J<|AM.qv (au J J) J<|AM.qv (aB J J .p3 J) J<|AM.qv (iI J J) J<|AM.qv (ar J) J<|AM.cJ J J J (fun hc=>?_) (fun hc=>?_)
     ·rw [qY hc] at h
      exact AM.qv (ar J) J<|AM.aA J J J<|AM.qv (aq J) J<|AM.aA J J J<|AM.qv (au J J) J<|AM.aA J J J<|AM.qv (QV.ara (kb:=iJ) e6 .p1 J (aB J J .p0 J)) J<|AM.aA J J J<|AM.qv (au J J) J<|AM.aA J J J<|AM.qv (aB J J .p3 J) J<|AM.aA J J J<|AM.qv (bH J J) J<|AM.qv (fT J J) J<|AM.nil<|rN<|aa.stop<|aj.lq [0,0,1,0] ⟨decide (v12.az=ai.az),h,J⟩ J J
     ·rw [qZ hc] at h
      exact AM.aF J J J J<|AM.aF J J J J<|AM.aF J J J J<|AM.aF J J J J<|AM.aF J J J J<|AM.aF J J J J<|AM.qv (eI J J) J<|AM.nil<|rN<|aa.stop<|aj.lq [0,0,1,0] ⟨false,h,J⟩ J J
    ·rintro aI ⟨Qq,h,rfl⟩
     unfold ue at h
     refine cB h J (fun h=>?_) (fun h=>?_)
     ·refine aE<|rA J J<|rN<|aa.ghost<|aj.wO QF .p0<|aj.here<|aa.ret<|have h:=cy h fS;?_
      cases h
      exact hH J [0,0] J ⟨bw,bO,J,J⟩
     ·refine tK<|aa.cr<|aa.stop<|?_
      cases h
      exact lK _ _ J<|aj.lq [0,0,1,0] ⟨DF,DG,J⟩ J J
 ·refine ah.qv (vi (gk:=AV.str) (gv:=(pA bw)) (M:=ae) (key:=ai.Device) J J .p1 e1) J<|ah.qv (FJ J J) J<|rN<|aa.sK J<|aE<|rA J J<|rN<|aa.ret<|?_
  cases h
  exact hH J [1,1] J ⟨bw,bO,J,J⟩
end Go.Proofs.YtjgdilohhcheoaaGreatDoor
