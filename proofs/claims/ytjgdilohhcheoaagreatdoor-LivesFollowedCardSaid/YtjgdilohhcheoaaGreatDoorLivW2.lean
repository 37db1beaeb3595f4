/- The code computes the plain functions: proofs written by shal.py. -/
import Derived.Test.YtjgdilohhcheoaaGreatDoorLivW1
set_option maxHeartbeats 4000000
set_option maxRecDepth 100000
set_option linter.unusedVariables false
set_option linter.unusedSimpArgs false
namespace Go.Proofs.YtjgdilohhcheoaaGreatDoor
open Go Go.Eng Go.Proofs Go.Beacon
attribute [local irreducible] ae aa AQ QV aG aj Nn AM
theorem vD {ab:List Model} {ah:ai} {r:Int} (h:ju ab ah=some r):Pu Tryz.prog 43 [sa ab,ai.av ah] (I r):=by
 unfold ju at h
 refine aG.bc Tryz.func43 J Tryz.ntmps43 Tryz.results43 J J ?_
 refine aF<|de J J J J fun b1=>rA J J<|rN<|tS<|aa.block<|aF<|rF J J J<|rL J J .p0 J J<|aH h fun v2 e1 h=>aL J (l6 e1) cR J<|ae.qv (cq J) J<|rA J J<|rN<|cB h J (fun h=>?_) (fun h=>?_)
 ·refine aF<|rA J J<|rN<|aa.ret<|?_
  cases h
  exact hP J J
 ·refine tS<|aa.cut (fun aK=>∃ (c3:Bool),jt ab ah c3=some r∧aK=⟨52,[(0,sa ab),(3,.ptr b1 0),(12,.bool c3)],[(b1,.cells (Bl ah))]⟩) ?_ ?_
  ·refine tR<|rF J J J<|rL J J .p0 J J<|aL J (fy J) cR J<|rM J J<|ae.guard J J J (fun hc=>?_) (fun hc=>?_)
   ·rw [FB hc] at h
    refine rF J J J<|rY J J J<|rL J J .p0 J J<|rY J J J<|rF J J J<|rY J J J<|rL J J .p0 J J<|rY J J J<|aL J (fy J) cR J<|rE J J J<|rM J J<|ae.guard J J J (fun hc=>?_) (fun hc=>?_)
    ·rw [FB hc] at h
     exact rF J J J<|rY J J J<|rL J J .p0 J J<|rY J J J<|aL J (vO J) cR J<|rY J J J<|ae.qv (cq J) J<|rE J J J<|rA J J<|rN<|aa.stop<|aj.lq [0] ⟨!(eV ah.At),h,J⟩ J J
    ·rw [FA hc] at h
     exact rG J J J J<|rG J J J J<|rG J J J J<|rT J J J<|rA J J<|rN<|aa.stop<|aj.lq [0] ⟨true,h,J⟩ J J
   ·rw [FA hc] at h
    exact rG J J J J<|rG J J J J<|rG J J J J<|rG J J J J<|rT J J J<|rM J J<|rG J J J J<|rG J J J J<|rG J J J J<|rG J J J J<|rT J J J<|rA J J<|rN<|aa.stop<|aj.lq [0] ⟨true,h,J⟩ J J
  ·rintro aK ⟨c3,h,rfl⟩
   unfold jt at h
   refine cB h J (fun h=>?_) (fun h=>?_)
   ·refine aF<|rA J J<|rN<|aa.ret<|?_
    cases h
    exact hP J J
   ·refine aF<|rF J J J<|rL J J .p0 J J<|aL J (fy J) cR J<|rA J J<|rN<|cB h J (fun h=>?_) (fun h=>?_)
    ·refine aF<|rA J J<|rN<|aa.ret<|?_
     cases h
     exact hP J J
    ·refine aF<|rF J J J<|rL J J .p0 J J<|aH h fun v4 e2 h=>aL J (l6 e2) cR J<|ae.qv (cq J) J<|rA J J<|rN<|cB h J (fun h=>?_) (fun h=>?_)
     ·refine aF<|rA J J<|rN<|aa.ret<|?_
      cases h
      exact hP J J
     ·refine tK<|aa.cy<|aF<|rM J J<|ae.qv (aU J J .p0 J) J<|aH h fun v5 e3 h=>aL J (wz e3) cR J<|rM J J<|rX J J J<|rX J J J<|fj J J J J fun b6=>aD J J J J .p0 J J<|rA J J<|rN<|tS<|tS<|aa.cut (fun aK=>∃ (c7:Bool),js v5 c7=some r∧aK=⟨52,[(6,I v5.2),(50,.bool c7)],[]⟩) ?_ ?_
      ·refine tR<|rM J J<|ae.qv (bM J J) J<|rM J J<|ae.bV J J J (fun hc=>?_) (fun hc=>?_)
       ·rw [oF hc] at h
        exact ae.qv (aU J J .p0 J) J<|rY J J J<|ae.qv (aU J J .p1 J) J<|rY J J J<|ae.qv (GG (g:=ai.av) (X:=v5.1) (Y:=ah) J J J J J) J<|rT J J J<|rN<|aa.stop<|aj.lq [] ⟨decide (v5.1≠ah),h,J⟩ J J
       ·rw [oG hc] at h
        exact rG J J J J<|rG J J J J<|rE J J J<|rN<|aa.stop<|aj.lq [] ⟨false,h,J⟩ J J
      ·rintro aK ⟨c7,h,rfl⟩
       unfold js at h
       refine aa.cut (fun aK=>∃ (n8:Int),gy n8=some r∧aK=⟨52,[(6,I n8)],[]⟩) ?_ ?_
       ·refine cB h J (fun h=>?_) (fun h=>?_)
        ·exact tR<|rA J J<|rN<|aa.stop<|aj.lq [] ⟨(3:Int),h,J⟩ J J
        ·exact tK<|aa.stop<|aj.lq [] ⟨v5.2,h,J⟩ J J
       ·rintro aK ⟨n8,h,rfl⟩
        unfold gy at h
        refine aF<|rM J J<|rA J J<|rN<|aa.ret<|?_
        cases h
        exact hP J J
theorem yk [GI:bt] {ab:ai} {ah:ai} {r:Int} (h:lR ab ah=some r):Pu Tryz.prog 127 [ai.av ab,ai.av ah] (I r):=by
 unfold lR at h
 refine aG.bc Tryz.func127 J Tryz.ntmps127 Tryz.results127 J J ?_
 refine aF<|de J J J J fun b1=>de J J J J fun b2=>rA J J<|rN<|tS<|aa.bQ (id:=1) (A:=[0,1,0,4,15,0,32,0,128,511,0,1024,0,4096,16383,32767,65535,131071]) 18 mixed J (by kernel_rfl) (by kernel_rfl)<|AM.qv (au J J) J<|AM.qv (az J J .p1 J) J<|AM.qv (au J J) J<|AM.qv (az J J .p0 J) J<|AM.oE J (lH J) cR J<|AM.qv (au J J) J<|AM.qv (az J J .p1 J) J<|AM.qv (au J J) J<|AM.qv (az J J .p0 J) J<|AM.oE J (gD J) cR J<|AM.qv (au J J) J<|AM.qv (az J J .p1 J) J<|AM.qv (au J J) J<|AM.qv (az J J .p0 J) J<|AM.oE J (lH J) cR J<|AM.fG (xs:=([(cmp_Compare_int ab.aW ah.aW),(Lib.compareBytes ab.iB ah.iB),(cmp_Compare_int ab.No ah.No)]:List Int).map I) J J J J J J<|aH h fun v3 e1 h=>AM.oE J (xp e1) cR J<|AM.qv (bd J) J<|AM.nil<|rN<|aa.ret<|?_
 cases h
 exact hP J J
theorem wA {ab:List Model} {ah:List ai} {r:Int} (h:ei ab ah=some r):Pu Tryz.prog 77 [sa ab,Ay ah] (I r):=by
 unfold ei at h
 refine aG.bc Tryz.func77 J Tryz.ntmps77 Tryz.results77 J J ?_
 refine aF<|rA J J<|rN<|tS<|aF<|rM J J<|ae.qv (fS J) J<|ae.qv (jF J J) J<|rN<|cD h J (fun h=>?_) (fun h=>?_)
 ·refine aF<|rA J J<|rN<|aa.ret<|?_
  cases h
  exact hP J J
 ·refine tK<|aF<|nD J fun b1=>rA J J<|rN<|tS<|aF<|rM J J<|ae.qv (fS J) J<|rM J J<|rN<|aa.block<|aa.ff (fun x:(List (ax×Int))×Int=>dF ab ah x.1 x.2) (fun x aK=>aK=⟨55,[(0,sa ab),(1,Ay ah),(5,.cd b1),(13,Ay ah),(14,I (ah.length:Int)),(15,I x.2)],[(b1,R4 x.1)]⟩) h ?_ ?_
  ·exact aj.lq [0] J J J
  ·intro x z1 aK J1 iV h lK fV
   obtain ⟨l4,n5⟩:=x
   obtain rfl:=iV
   replace h:dF ab ah l4 n5=some z1:=h
   unfold dF at h
   refine aF<|ae.qv (cu J J) J<|rN<|tS<|cD h J (fun h=>?_) (fun h=>?_)
   ·refine tK<|tS<|aa.block<|aF<|rM J J<|aH h fun v6 e1 h=>ae.qv (cK J J J e1 J J) J<|ae.qv (bn J J J) J<|fj J J J J fun b7=>rA J J<|aD J J J J .p0 J J<|rN<|tS<|aF<|rM J J<|ae.qv (aU J J .p0 J) J<|aH h fun v8 e2 h=>aL J (vD e2) cR J<|rA J J<|rN<|aF<|rM J J<|ae.qv (fe J J) J<|rN<|cD h J (fun h=>?_) (fun h=>?_)
    ·refine aF<|rM J J<|rA J J<|rN<|aa.ret<|have h:=cH h fV;?_
     cases h
     exact hP J J
    ·refine tK<|tS<|tS<|aa.cut (fun aK=>∃ (c9:Bool),fD l4 n5 v6 c9=some z1∧aK=⟨55,[(0,sa ab),(1,Ay ah),(5,.cd b1),(7,.ptr b7 0),(13,Ay ah),(14,I (ah.length:Int)),(15,I n5),(37,.bool c9)],[(b1,R4 l4),(b7,.cells (Bl v6))]⟩) ?_ ?_
     ·refine aa.bQ (id:=10) (A:=[0,1,3,7,7,23,63,127,7,511,1023,2047]) 12 mixed J (by kernel_rfl) (by kernel_rfl)<|AM.qv (aq J) J<|AM.qv (jF J J) J<|AM.qv (aq J) J<|AM.bV J J J (fun hc=>?_) (fun hc=>?_)
      ·exact have h:=kM hc h;AM.qv (aq J) J<|AM.ar J J J<|AM.qv (aq J) J<|AM.ar J J J<|AM.qv (dm J J) J<|AM.ar J J J<|aH h fun v10 e3 h=>AM.qv (cK J J J e3 J J) J<|AM.ar J J J<|AM.qv (bn J J J) J<|AM.ar J J J<|AM.qv (aU J J .p0 J) J<|AM.ar J J J<|aH h fun v11 e4 h=>AM.oE J (yk e4) cR J<|AM.ar J J J<|AM.qv (nN J J) J<|AM.qv (cJ J J) J<|AM.nil<|rN<|aa.stop<|aj.lq [1,0] ⟨decide ((0:Int)≤v11),h,J⟩ J J
      ·exact have h:=uj hc h;AM.aB J J J J<|AM.aB J J J J<|AM.aB J J J J<|AM.aB J J J J<|AM.aB J J J J<|AM.aB J J J J<|AM.aB J J J J<|AM.qv (cm J J) J<|AM.nil<|rN<|aa.stop<|aj.lq [1,0] ⟨false,h,J⟩ J J
     ·rintro aK ⟨c9,h,rfl⟩
      unfold fD at h
      refine cB h J (fun h=>?_) (fun h=>?_)
      ·refine aF<|rA J J<|rN<|aa.ret<|have h:=cH h fV;?_
       cases h
       exact hP J J
      ·refine tK<|tS<|aF<|rF J J J<|rL J J .p1 J J<|rM J J<|rF J J J<|rL J J .p1 J J<|aH h fun v12 e5 h=>ae.qv (uq (gk:=AV.str) (gv:=I) (M:=l4) (key:=v6.iB) (Z:=(0:Int)) J J .p0 J J J e5 J) J<|ae.qv (br J J) J<|ae.qv (fe J J) J<|rN<|cD h J (fun h=>?_) (fun h=>?_)
       ·refine aF<|rA J J<|rN<|aa.ret<|have h:=cH h fV;?_
        cases h
        exact hP J J
       ·refine tK<|tR<|rM J J<|rF J J J<|rL J J .p1 J J<|rF J J J<|rL J J .p1 J J<|jl (gk:=AV.str) (gv:=I) (M:=l4) (key:=v6.iB) (v:=v6.No) J J J J .p0<|rN<|aa.cy<|tR<|ae.qv (br J J) J<|rM J J<|rN<|aa.stop<|?_
        cases h
        exact lK _ _ J<|aj.lq [0] J J J
   ·refine aa.exit J<|have h:=cH h fV;?_
    unfold mJ at h
    refine tS<|aF<|rM J J<|ae.qv (B9 (gk:=AV.str) (gv:=I) (M:=l4) J .p0) J<|ae.qv (jF J J) J<|rN<|cD h J (fun h=>?_) (fun h=>?_)
    ·refine aF<|rA J J<|rN<|aa.ret<|?_
     cases h
     exact hP J J
    ·refine tK<|aF<|rA J J<|rN<|aa.ret<|?_
     cases h
     exact hP J J
theorem ma {ab:List Model} {ah:List ai} {r:Int} (h:eS ab ah=some r):Pu Tryz.prog 41 [sa ab,Ay ah] (I r):=by
 unfold eS at h
 refine aG.bc Tryz.func41 J Tryz.ntmps41 Tryz.results41 J J ?_
 refine aF<|rA J J<|rN<|tS<|aF<|rM J J<|aH h fun v1 e1 h=>aL J (pE e1) cR J<|rA J J<|rN<|aF<|rM J J<|ae.qv (fe J J) J<|rN<|cD h J (fun h=>?_) (fun h=>?_)
 ·refine aF<|rM J J<|rA J J<|rN<|aa.ret<|?_
  cases h
  exact hP J J
 ·refine tK<|aF<|rM J J<|rM J J<|aH h fun v2 e2 h=>aL J (wA e2) cR J<|rA J J<|rN<|aa.ret<|?_
  cases h
  exact hP J J
theorem ES [GI:bt] {r:aE} (h:qA=r):aG Tryz.prog 80 [] [] (T7 (fun pM AD AE uF ET wB AF=>[(pM,.cells [.cd AD,.cd AE,.cd uF]),(AD,.mp (r.bN.map (fun e=>(AV.str e.1,(pA wB) e.2)))),(AE,Lf r.cr),(uF,Ic r.dv),(ET,.bS (fI gp wB AF r.ew))]) (fun pM AD AE uF ET wB AF=>.ptr pM 0)):=by
 unfold qA at h
 refine aG.eP ?_
 refine aG.bc Tryz.func80 J Tryz.ntmps80 Tryz.results80 J J ?_
 refine aF<|rA J J<|rN<|aF<|nD J fun b1=>nD J fun b2=>nD J fun b3=>ae.qv (cF J J J J J) J<|de J J J J fun b4=>ae.ghost<|aj.GZ (kb:=gp) fun b5 QD TA=>aj.here<|rA J J<|rN<|aa.ret<|?_
 obtain rfl:=h
 exact hH J [1,3,2,1,0] J ⟨b4,b1,b2,b3,b5,QD,TA,J,J⟩
theorem wC [GI:bt] {aQ:Bk} {gA:Bk} {jG:Bk} {iT:Bk} {NY:Bk} {rZ:Bk} {oh:Bk} {ab:aE} {ah:aJ} {aA:ai} {r:Int} (h:mn ab ah aA=r):aG Tryz.prog 81 [.ptr aQ 0,.ptr NY 0,ai.av aA] [(aQ,.cells [.cd gA,.cd jG,.cd iT]),(NY,.cells (Az ah rZ oh)),(rZ,tM ah.Device.bl),(oh,pL ah.aV)] (T0 ([(aQ,.cells [.cd gA,.cd jG,.cd iT]),(NY,.cells (Az ah rZ oh)),(rZ,tM ah.Device.bl),(oh,pL ah.aV)]) (I r)):=by
 unfold mn at h
 refine aG.eP ?_
 refine aG.bc Tryz.func81 J Tryz.ntmps81 Tryz.results81 J J ?_
 refine aF<|de J J J J fun b1=>rA J J<|rN<|aF<|rF J J J<|rL J J .p0 J J<|rF J J J<|rL J J .p0 J J<|ae.qv (cF J J J J J) J<|fj J J J J fun b2=>aD J J J J .p0 J J<|rN<|tS<|tS<|aa.bQ (id:=2) (A:=[0,1,3,7,15,31,63,7,255,511]) 10 mixed J (by kernel_rfl) (by kernel_rfl)<|AM.qv (aq J) J<|AM.qv (GW J J) J<|AM.qv (aq J) J<|AM.aB J J J J<|AM.aB J J J J<|AM.aB J J J J<|AM.aB J J J J<|AM.aB J J J J<|AM.aB J J J J<|AM.qv (cJ J J) J<|AM.nil<|rN<|aa.oM J<|aF<|rA J J<|rN<|aa.ret<|?_
 obtain rfl:=h
 exact hH J [2,2,2,2] J ⟨J,J⟩
theorem tq [GI:bt] {aQ:Bk} {uJ:Bk} {dK:Nat→Bk} {om:Nat→Nat→Bk} {gA:Bk} {jG:Bk} {iT:Bk} {ab:aE} {aA:ai} {r:Int×aE} (h:gz ab aA=some r):aG Tryz.prog 81 [.ptr aQ 0,.raw (.pointer none),ai.av aA] [(aQ,.cells [.cd gA,.cd jG,.cd iT]),(gA,.mp (ab.bN.map (fun e=>(AV.str e.1,(pA dK) e.2)))),(jG,Lf ab.cr),(iT,Ic ab.dv),(uJ,.bS (fI gp dK om ab.ew))] (T2 (fun wD AG=>[(aQ,.cells [.cd gA,.cd jG,.cd iT]),(gA,.mp (r.2.bN.map (fun e=>(AV.str e.1,(pA wD) e.2)))),(jG,Lf r.2.cr),(iT,Ic r.2.dv),(uJ,.bS (fI gp wD AG r.2.ew))]) (fun wD AG=>I r.1)):=by
 unfold gz at h
 refine aG.eP ?_
 refine aG.bc Tryz.func81 J Tryz.ntmps81 Tryz.results81 J J ?_
 refine aF<|de J J J J fun b1=>rA J J<|rN<|aF<|rF J J J<|rL J J .p0 J J<|rF J J J<|rL J J .p0 J J<|ae.qv (cF J J J J J) J<|fj J J J J fun b2=>aD J J J J .p0 J J<|rN<|tS<|tS<|aa.bQ (id:=2) (A:=[0,1,3,7,15,31,63,7,255,511]) 10 mixed J (by kernel_rfl) (by kernel_rfl)<|AM.qv (aq J) J<|AM.qv (Eh J J) J<|AM.qv (aq J) J<|AM.ar J J J<|AM.qv (aq J) J<|AM.ar J J J<|AM.qv (ao J) J<|AM.ar J J J<|AM.qv (au J J) J<|AM.ar J J J<|AM.qv (az J J .p2 J) J<|AM.ar J J J<|AM.qv (aU J J .p0 J) J<|AM.ar J J J<|aH h fun v3 e1 h=>AM.qv (uq (gk:=bE.av) (gv:=AV.bool) (M:=ab.cr) (key:=(⟨aA.Model,aA.aC⟩:bE)) (Z:=false) J J .p4 J J J e1 J) J<|AM.qv (cm J J) J<|AM.nil<|rN<|cB h J (fun h=>?_) (fun h=>?_)
 ·refine aF<|rA J J<|rN<|aa.ret<|?_
  cases h
  exact hH J [2,2,2,2,2] J ⟨dK,om,J,J⟩
 ·refine tK<|tS<|tS<|aa.bQ (id:=4) (A:=[0,1,3,7,0,16,63,127,255,255,511,2047]) 12 mixed J (by kernel_rfl) (by kernel_rfl)<|AM.qv (aq J) J<|AM.qv (ao J) J<|AM.qv (au J J) J<|AM.qv (az J J .p2 J) J<|AM.qv (au J J) J<|AM.qv (az J J .p1 J) J<|aH h fun v4 e2 h=>AM.qv (B8 (gk:=AV.str) (gv:=AV.str) (M:=ab.dv) (key:=aA.Key) (Z:=[]) J J .p5 J J J e2 J) J<|AM.qv (aq J) J<|AM.qv (sj J J) J<|AM.qv (sj J J) J<|AM.qv (bd J) J<|AM.qv (bd J) J<|AM.nil<|rN<|aF<|rM J J<|rN<|cB h J (fun h=>?_) (fun h=>?_)
  ·refine aF<|rA J J<|rN<|aa.ret<|?_
   cases h
   exact hH J [2,2,2,2,2] J ⟨dK,om,J,J⟩
  ·refine tK<|tS<|aa.bQ (id:=7) (A:=[0,1,3,7,0,31]) 5 mixed J (by kernel_rfl) (by kernel_rfl)<|AM.qv (aq J) J<|AM.qv (ao J) J<|AM.qv (au J J) J<|AM.qv (az J J .p2 J) J<|AM.qv (aU J J .p0 J) J<|AM.nil<|jl (gk:=bE.av) (gv:=AV.bool) (M:=ab.cr) (key:=(⟨aA.Model,aA.aC⟩:bE)) (v:=true) J J J J .p4<|rN<|tS<|aa.bQ (id:=8) (A:=[0,1,3,7,0,16,0,64,255]) 8 mixed J (by kernel_rfl) (by kernel_rfl)<|AM.qv (aq J) J<|AM.qv (ao J) J<|AM.qv (au J J) J<|AM.qv (az J J .p2 J) J<|AM.qv (au J J) J<|AM.qv (az J J .p1 J) J<|AM.qv (au J J) J<|AM.qv (az J J .p1 J) J<|AM.nil<|jl (gk:=AV.str) (gv:=AV.str) (M:=ab.dv) (key:=aA.Key) (v:=aA.Device) J J J J .p5<|rN<|tS<|aa.ik (id:=9) (A:=[0,1,3,7,0,16,0,64,0,256,960,0,2048,0,8192,0,32768,122880,253952,524224,1048512,2097151]) (H0:=[]) (HH:=fun β=>[((Ld (β 20)),.cells [.str aA.Device,.str aA.Model,.str [],I (0:Int),I (0:Int),I (0:Int),.nil,I aA.aC,I (1:Int),.sl 3 (IQ (β 20)) 0 [(⟨aA.Key,aA.At,(345686400000:Int)⟩:Term)].length]),((IQ (β 20)),pL [(⟨aA.Key,aA.At,(345686400000:Int)⟩:Term)]),(b2,.cells [.str aA.Model,I aA.aC]),(b1,.cells (Bl aA)),(aQ,.cells [.cd gA,.cd jG,.cd iT]),(gA,.mp (ab.bN.map (fun e=>(AV.str e.1,(pA dK) e.2)))),(jG,Lf (ny ab.cr (⟨aA.Model,aA.aC⟩:bE) true)),(iT,Ic (ny ab.dv aA.Key aA.Device)),(uJ,.bS (fI gp dK om ab.ew))]) 21 mixed J (by kernel_rfl) (by kernel_rfl) [⟨some 18,some 19,[],fun b=>(b,pL [(⟨aA.Key,aA.At,(345686400000:Int)⟩:Term)]),none,[]⟩,⟨some 19,some 20,[],fun b=>(b,pL [(⟨aA.Key,aA.At,(345686400000:Int)⟩:Term)]),none,[]⟩,⟨some 20,none,[],fun b=>(Ld b,.cells [.str aA.Device,.str aA.Model,.str [],I (0:Int),I (0:Int),I (0:Int),.nil,I aA.aC,I (1:Int),.sl 3 (IQ b) 0 [(⟨aA.Key,aA.At,(345686400000:Int)⟩:Term)].length]),none,[]⟩,⟨some 20,none,[],fun b=>(IQ b,pL [(⟨aA.Key,aA.At,(345686400000:Int)⟩:Term)]),none,[]⟩] [18,19,20] J (by kernel_rfl) J .nil (fun _=>J)<|AT.am 18 J J<|AM.qv (aq J) J<|AM.qv (ao J) J<|AM.qv (au J J) J<|AM.qv (az J J .p2 J) J<|AM.qv (au J J) J<|AM.qv (az J J .p1 J) J<|AM.qv (au J J) J<|AM.qv (az J J .p1 J) J<|AM.qv (au J J) J<|AM.qv (az J J .p1 J) J<|AM.qv (cF J J J J J) J<|AM.qv (au J J) J<|AM.qv (az J J .p1 J) J<|AM.qv (au J J) J<|AM.qv (az J J .p1 J) J<|AM.qv (au J J) J<|AM.qv (az J J .p1 J) J<|AM.qv (cF J J J J J) J<|AM.nil<|AT.FF (V:=fun b=>.sl 3 b 0 [(⟨aA.Key,aA.At,(345686400000:Int)⟩:Term)].length) (Ti:=[]) (Pi:=fun b=>[(b,pL [(⟨aA.Key,aA.At,(345686400000:Int)⟩:Term)])]) (fun _=>J) (fun _=>J) (fun _ _=>J) J (fun _=>J) J J J ?_ ?_
   ·exact ko J J J J J J fun b5=>ae.nil ⟨b5,_,J,J⟩
   refine AT.Rq (V:=fun b=>.agg [.str aA.Device,.str aA.Model,.str [],I (0:Int),I (0:Int),I (0:Int),.nil,I aA.aC,I (1:Int),.sl 3 b 0 [(⟨aA.Key,aA.At,(345686400000:Int)⟩:Term)].length]) (Ti:=fun β=>[((β 18),pL [(⟨aA.Key,aA.At,(345686400000:Int)⟩:Term)])]) (Pi:=fun b=>[(b,pL [(⟨aA.Key,aA.At,(345686400000:Int)⟩:Term)])]) (fun _=>J) (fun _=>J) (fun _ _=>J) (fun _=>J) (fun _=>J) J J J (fun β=>?_) ?_
   ·generalize β 18=b5
    exact ae.qv (cF J J J J J) J<|ae.nil ⟨b5,_,J,J⟩
   refine AT.Rz (V:=fun x y=>.ptr x 0) (Ti:=fun β=>[((β 19),pL [(⟨aA.Key,aA.At,(345686400000:Int)⟩:Term)])]) (Pi:=fun x y=>[(x,.cells [.str aA.Device,.str aA.Model,.str [],I (0:Int),I (0:Int),I (0:Int),.nil,I aA.aC,I (1:Int),.sl 3 y 0 [(⟨aA.Key,aA.At,(345686400000:Int)⟩:Term)].length]),(y,pL [(⟨aA.Key,aA.At,(345686400000:Int)⟩:Term)])]) (fun _=>J) (fun _=>J) (fun _ _=>J) (fun _=>J) (fun _ _=>J) J J J (fun β=>?_) ?_
   ·generalize β 19=b6
    exact de J J J J fun b7=>ae.nil ⟨b7,b6,_,J,J⟩
   refine AT.sZ (fun _=>J) fun β=>?_
   generalize Ld (β 20)=b8
   generalize IQ (β 20)=b9
   generalize β 18=b5
   generalize β 19=b6
   clear β
   refine ae.ghost<|aj.CQ (j:=6) 2 (fun _=>.p0) J (fun _=>J) (fun _=>J) fun Ko=>aj.here<|aH h fun Zy e3 h=>ae.ghost<|aj.G1 (kb:=gp) (v:=(⟨(⟨aA.Device,aA.Model,[],(⟨(0:Int),(0:Int),(0:Int)⟩:Version),[]⟩:cL),aA.aC,(1:Int),[(⟨aA.Key,aA.At,(345686400000:Int)⟩:Term)]⟩:aJ)) (s:=Es [Ko,b9]) (.cons .p1 (.cons .p0 (.cons .p0 .nil))) J (fun _ _=>.p6) fun O6 VT VU VV=>aj.here<|ae.ghost<|aj.OI (NM VU e3) .p3<|aj.here<|ae.ghost<|aj.eqs (s:=69) (dD:=.ptr (O6 (ab.ew.length:Int).toNat) 0) J (JW VV _)<|aj.here<|jl (gk:=AV.str) (gv:=(pA O6)) (M:=ab.bN) (key:=aA.Device) (v:=(ab.ew.length:Int)) J J J J .p3<|rN<|aF<|rA J J<|rN<|aa.ret<|?_
   cases h
   exact hH J [2,2,2,2,2] J ⟨O6,VT,J,J⟩
theorem sb [GI:bt] {ab:Term} {ah:ai} {r:Bool} (h:iq ab ah=r):Pu Tryz.prog 131 [Term.av ab,.ji [.str ah.iB,I ah.No,I ah.aW,I ah.At,I ah.Kind,.str ah.Device,.str ah.Model,.str ah.aO,I ah.aC,.str ah.Key,.str ah.Name,.str ah.Value,I ah.bj,I ah.an.er,I ah.an.et,I ah.an.dY]] (.bool r):=by
 unfold iq at h
 refine aG.bc Tryz.func131 J Tryz.ntmps131 Tryz.results131 J J ?_
 refine aF<|de J J J J fun b1=>rA J J<|rN<|aF<|rF J J J<|rL J J .p0 J J<|ae.qv (fk J J) J<|ae.qv (bC J J J) J<|ae.qv (gr J J) J<|rA J J<|rN<|aa.ret<|?_
 obtain rfl:=h
 exact hP J J
theorem pR [GI:bt] {ab:List Term} {fX:Term→Option Bool} {cY:FuncId} [ba Tryz.prog cY] {eQ:List AV} (lI:∀ {y0:_} {u:Bool},fX y0=some u→Pu Tryz.prog cY (Term.av y0 :: eQ) (.bool u)) {r:Int} (h:iR ab fX=some r):Pu Tryz.prog 116 [NX ab,.func (.func cY) eQ] (I r):=by
 unfold iR at h
 refine aG.bc Tryz.func116 J Tryz.ntmps116 Tryz.results116 J J ?_
 refine aF<|rA J J<|rN<|tS<|aF<|rM J J<|ae.qv (fS J) J<|rM J J<|rN<|aa.block<|aa.ff (fun x:Int=>eG ab fX x) (fun x aK=>aK=⟨19,[(0,NX ab),(1,.func (.func cY) eQ),(7,I (ab.length:Int)),(8,I x)],[]⟩) h ?_ ?_
 ·exact aj.lq [] J J J
 ·intro n2 z1 aK J1 iV h lK fV
  obtain rfl:=iV
  replace h:eG ab fX n2=some z1:=h
  unfold eG at h
  refine aF<|ae.qv (cu J J) J<|rN<|tS<|cD h J (fun h=>?_) (fun h=>?_)
  ·refine tK<|tS<|aa.block<|aF<|rM J J<|rA J J<|rN<|aF<|rM J J<|rM J J<|rM J J<|aH h fun v3 e1 h=>ae.qv (cK J J J e1 J J) J<|ae.qv (bn J J J) J<|aH h fun v4 e2 h=>nQ J J (lI e2) cR J<|rN<|cB h J (fun h=>?_) (fun h=>?_)
   ·refine aF<|rM J J<|rA J J<|rN<|aa.ret<|have h:=cH h fV;?_
    cases h
    exact hP J J
   ·refine tK<|aa.cy<|tR<|ae.qv (br J J) J<|rM J J<|rN<|aa.stop<|?_
    cases h
    exact lK _ _ J<|aj.lq [] J J J
  ·refine aa.exit J<|have h:=cH h fV;aF<|rA J J<|rN<|aa.ret<|?_
   cases h
   exact hP J J
theorem dX [GI:bt] {ab:List Term} {fX:Term→Option Bool} {cY:FuncId} [ba Tryz.prog cY] {eQ:List AV} (lI:∀ {y0:_} {u:Bool},fX y0=some u→Pu Tryz.prog cY (Term.av y0 :: eQ) (.bool u)) {r:Bool} (h:bX ab fX=some r):Pu Tryz.prog 63 [NX ab,.func (.func cY) eQ] (.bool r):=by
 unfold bX at h
 refine aG.bc Tryz.func63 J Tryz.ntmps63 Tryz.results63 J J ?_
 refine aF<|rA J J<|rN<|aF<|rM J J<|rM J J<|aH h fun v1 e1 h=>fR J (pR lI e1) (.cons (.co (.refl _)) (.cons (.co (.refl _)) .nil)) J J<|ae.qv (nN J J) J<|rA J J<|rN<|aa.ret<|?_
 cases h
 exact hP J J
theorem tN [GI:bt] {aQ:Bk} {gA:Bk} {jG:Bk} {iT:Bk} {NY:Bk} {rZ:Bk} {oh:Bk} {ab:aE} {ah:aJ} {aA:ai} {r:Int×aE×aJ} (h:gX ab ah aA=some r):aG Tryz.prog 82 [.ptr aQ 0,.ptr NY 0,ai.av aA] [(aQ,.cells [.cd gA,.cd jG,.cd iT]),(iT,Ic ab.dv),(NY,.cells (Az ah rZ oh)),(rZ,tM ah.Device.bl),(oh,pL ah.aV)] (T2 (fun Kp Kq=>[(aQ,.cells [.cd gA,.cd jG,.cd iT]),(iT,Ic r.2.1.dv),(NY,.cells (Az r.2.2 Kp Kq)),(Kp,tM r.2.2.Device.bl),(Kq,pL r.2.2.aV)]) (fun Kp Kq=>I r.1)):=by
 unfold gX at h
 refine aG.eP ?_
 refine aG.bc Tryz.func82 J Tryz.ntmps82 Tryz.results82 J J ?_
 refine aF<|de J J J J fun b1=>rA J J<|rN<|tS<|aa.bQ (id:=1) (A:=[0,1,3,7,0,16,48,112,240,496,1023,2047]) 12 mixed J (by kernel_rfl) (by kernel_rfl)<|AM.qv (aq J) J<|AM.qv (ao J) J<|AM.qv (au J J) J<|AM.qv (az J J .p3 J) J<|AM.qv (aq J) J<|AM.qv (ao J) J<|AM.qv (au J J) J<|AM.qv (az J J .p3 J) J<|AM.qv (iN J) J<|AM.qv (dm J J) J<|aH h fun v2 e1 h=>AM.qv (bh J J J e1) J<|AM.qv (bd J) J<|AM.nil<|rN<|tS<|aa.block<|aF<|rM J J<|ae.qv (ao J) J<|rF J J J<|rL J J .p3 J J<|ae.qv (bM J J) J<|rA J J<|rN<|cD h J (fun h=>?_) (fun h=>?_)
 ·refine aF<|rA J J<|rN<|aa.ret<|?_
  cases h
  exact hH J [1,1,1,1,1] J ⟨rZ,oh,J,J⟩
 ·refine aF<|rM J J<|ae.qv (ao J) J<|rF J J J<|rL J J .p3 J J<|ae.qv (gG J) J<|aH h fun v3 e2 h=>fR J (dX (fun e=>sb (Option.some.inj e)) e2) (.cons (qd.qJ .p5) (.cons (.rD _ _ _ (.cons (.xX _ _ _ .p0 (.cons (.co (.refl _)) (.cons (.co (.refl _)) (.cons (.co (.refl _)) (.cons (.co (.refl _)) (.cons (.co (.refl _)) (.cons (.co (.refl _)) (.cons (.co (.refl _)) (.cons (.co (.refl _)) (.cons (.co (.refl _)) (.cons (.co (.refl _)) (.cons (.co (.refl _)) (.cons (.co (.refl _)) (.cons (.co (.refl _)) (.cons (.co (.refl _)) (.cons (.co (.refl _)) (.cons (.co (.refl _)) .nil))))))))))))))))) .nil)) .nil)) J J<|rA J J<|rN<|cB h J (fun h=>?_) (fun h=>?_)
  ·refine aF<|rA J J<|rN<|aa.ret<|?_
   cases h
   exact hH J [1,1,1,1,1] J ⟨rZ,oh,J,J⟩
  ·refine tK<|aa.cy<|tS<|tS<|aa.bQ (id:=6) (A:=[0,1,3,7,0,16,63,127,255,255,511,2047]) 12 mixed J (by kernel_rfl) (by kernel_rfl)<|AM.qv (aq J) J<|AM.qv (ao J) J<|AM.qv (au J J) J<|AM.qv (az J J .p1 J) J<|AM.qv (au J J) J<|AM.qv (az J J .p0 J) J<|aH h fun v4 e3 h=>AM.qv (B8 (gk:=AV.str) (gv:=AV.str) (M:=ab.dv) (key:=aA.Key) (Z:=[]) J J .p2 J J J e3 J) J<|AM.qv (aq J) J<|AM.qv (sj J J) J<|AM.qv (sj J J) J<|AM.qv (bd J) J<|AM.qv (bd J) J<|AM.nil<|rN<|aF<|rM J J<|rN<|cB h J (fun h=>?_) (fun h=>?_)
   ·refine aF<|rA J J<|rN<|aa.ret<|?_
    cases h
    exact hH J [1,1,1,1,1] J ⟨rZ,oh,J,J⟩
   ·refine tK<|tS<|tS<|aa.bQ (id:=9) (A:=[0,1,0,4,12,28,63]) 7 mixed J (by kernel_rfl) (by kernel_rfl)<|AM.qv (au J J) J<|AM.qv (az J J .p0 J) J<|AM.qv (aq J) J<|AM.qv (bx J) J<|AM.qv (bq J J) J<|AM.qv (df (g:=Term.av) J J (.inl .p5) e1 J) J<|AM.qv (cu J J) J<|AM.nil<|rN<|cD h J (fun h=>?_) (fun h=>?_)
    ·refine aF<|rA J J<|rN<|aa.ret<|?_
     cases h
     exact hH J [1,1,1,1,1] J ⟨rZ,oh,J,J⟩
    ·refine tK<|tS<|aa.bQ (id:=11) (A:=[0,1,3,7,0,16,48,112,255]) 8 mixed J (by kernel_rfl) (by kernel_rfl)<|AM.qv (aq J) J<|AM.qv (ao J) J<|AM.qv (au J J) J<|AM.qv (az J J .p1 J) J<|AM.qv (aq J) J<|AM.qv (bx J) J<|AM.qv (bq J J) J<|AM.qv (df (g:=Term.av) J J (.inl .p5) e1 J) J<|AM.nil<|Ei (gk:=AV.str) (gv:=AV.str) (M:=ab.dv) (key:=v2.Key) J J .p2<|rN<|tS<|aa.bQ (id:=12) (A:=[0,1,3,7,0,16,0,64,255]) 8 mixed J (by kernel_rfl) (by kernel_rfl)<|AM.qv (aq J) J<|AM.qv (ao J) J<|AM.qv (au J J) J<|AM.qv (az J J .p1 J) J<|AM.qv (au J J) J<|AM.qv (az J J .p0 J) J<|AM.qv (au J J) J<|AM.qv (az J J .p0 J) J<|AM.nil<|jl (gk:=AV.str) (gv:=AV.str) (M:=(qg ab.dv v2.Key)) (key:=aA.Key) (v:=aA.Device) J J J J .p2<|rN<|tS<|aa.bQ (id:=13) (A:=[0,0,2,6,14,0,32,126,255,511,1023]) 10 mixed J (by kernel_rfl) (by kernel_rfl)<|AM.qv (aq J) J<|AM.qv (aq J) J<|AM.qv (bx J) J<|AM.qv (bq J J) J<|AM.qv (df (g:=Term.av) J J (.inl .p5) e1 J) J<|AM.qv (au J J) J<|AM.qv (az J J .p0 J) J<|AM.qv (Gr J J) J<|AM.qv (bx J) J<|AM.qv (bq J J) J<|AM.nil<|bF (g:=Term.av) (wi:=(⟨v2.Key,v2.fE,min v2.To aA.bj⟩:Term)) J J J J e1 J .p5 J<|ae.ghost<|aj.eqs (s:=13) (dD:=.sl 3 oh 0 (ah.aV.set (aZ ((ah.aV.length:Int) - (1:Int))).toNat (⟨v2.Key,v2.fE,min v2.To aA.bj⟩:Term)).length) J (by rw [List.length_set])<|aj.here<|ae.ghost<|aj.eqs (s:=17) (dD:=.sl 3 oh 0 (ah.aV.set (aZ ((ah.aV.length:Int) - (1:Int))).toNat (⟨v2.Key,v2.fE,min v2.To aA.bj⟩:Term)).length) J (by rw [List.length_set])<|aj.here<|ae.ghost<|aj.eqs (s:=31) (dD:=.sl 3 oh 0 (ah.aV.set (aZ ((ah.aV.length:Int) - (1:Int))).toNat (⟨v2.Key,v2.fE,min v2.To aA.bj⟩:Term)).length) J (by rw [List.length_set])<|aj.here<|ae.ghost<|aj.wT (j:=9) (dD:=.sl 3 oh 0 (ah.aV.set (aZ ((ah.aV.length:Int) - (1:Int))).toNat (⟨v2.Key,v2.fE,min v2.To aA.bj⟩:Term)).length) .p3 J (by rw [List.length_set]) J<|aj.here<|rN<|tS<|aH h fun l5 e4 h=>aa.ik (id:=14) (A:=[0,0,2,6,14,0,32,0,128,480,992,2046,4095,8191,16383]) (H0:=[(oh,pL (ah.aV.set (aZ ((ah.aV.length:Int) - (1:Int))).toNat (⟨v2.Key,v2.fE,min v2.To aA.bj⟩:Term)))]) (HH:=fun β=>[((β 11),pL l5),(b1,.cells (Bl aA)),(aQ,.cells [.cd gA,.cd jG,.cd iT]),(iT,Ic (ny (qg ab.dv v2.Key) aA.Key aA.Device)),(NY,.cells [.str ah.Device.Key,.str ah.Device.Model,.str ah.Device.aO,I ah.Device.an.er,I ah.Device.an.et,I ah.Device.an.dY,.sl 2 rZ 0 ah.Device.bl.length,I ah.aC,I ah.State,.sl 3 oh 0 (ah.aV.set (aZ ((ah.aV.length:Int) - (1:Int))).toNat (⟨v2.Key,v2.fE,min v2.To aA.bj⟩:Term)).length]),(rZ,tM ah.Device.bl)]) 12 mixed J (by kernel_rfl) (by kernel_rfl) [⟨none,some 11,[],fun _=>(oh,pL (ah.aV.set (aZ ((ah.aV.length:Int) - (1:Int))).toNat (⟨v2.Key,v2.fE,min v2.To aA.bj⟩:Term))),none,[]⟩,⟨some 11,none,[],fun b=>(b,pL l5),none,[]⟩] [11] J (by kernel_rfl) J (.cons .p5 .nil) (fun _=>J)<|AT.am 11 J J<|AM.qv (aq J) J<|AM.qv (aq J) J<|AM.qv (ao J) J<|AM.qv (au J J) J<|AM.qv (az J J .p3 J) J<|AM.qv (au J J) J<|AM.qv (az J J .p0 J) J<|AM.qv (au J J) J<|AM.qv (az J J .p0 J) J<|AM.qv (cF J J J J J) J<|AM.fG (xs:=([(⟨aA.Key,aA.At,(345686400000:Int)⟩:Term)]).map Term.av) J J J J J J<|AM.nil<|AT.FF (V:=fun b=>.sl 3 b 0 l5.length) (Ti:=[(oh,pL (ah.aV.set (aZ ((ah.aV.length:Int) - (1:Int))).toNat (⟨v2.Key,v2.fE,min v2.To aA.bj⟩:Term)))]) (Pi:=fun b=>[(b,pL l5)]) (fun _=>J) (fun _=>J) (fun _ _=>J) J (fun _=>J) J J J ?_ ?_
     ·exact iM (g:=Term.av) J J J J J J J J (.list _) e4 (fun _=>.p0) J fun b6=>ae.nil ⟨b6,_,J,J⟩
     refine AT.sZ (fun _=>J) fun β=>?_
     generalize β 11=b6
     clear β
     refine ae.qv (ao J) J<|rF J J J<|aD J J J J .p4 J J<|rN<|aF<|rA J J<|rN<|aa.ret<|?_
     cases h
     exact hH J [2,2,2,2,0] J ⟨rZ,b6,J,J⟩
theorem xw [GI:bt] {ab:aY} {ah:ax} {r:Int} (h:gJ ab ah=r):Pu Tryz.prog 133 [aY.av ab,.str ah] (I r):=by
 unfold gJ at h
 refine aG.bc Tryz.func133 J Tryz.ntmps133 Tryz.results133 J J ?_
 refine aF<|de J J J J fun b1=>rA J J<|rN<|aF<|rF J J J<|rL J J .p0 J J<|rM J J<|aL J (gD J) cR J<|rA J J<|rN<|aa.ret<|?_
 obtain rfl:=h
 exact hP J J
theorem kH [GI:bt] {ab:List aY} {ah:ax} {o6:aY→ax→Option Int} {oL:FuncId} [ba Tryz.prog oL] {qZ:List AV} (xq:∀ {y0 y1:_} {u:Int},o6 y0 y1=some u→Pu Tryz.prog oL (aY.av y0 :: .str y1 :: qZ) (I u)) {r:Int×Bool} (h:bR ab ah o6=some r):Pu Tryz.prog 132 [Lg ab,.str ah,.func (.func oL) qZ] (.mN [I r.1,.bool r.2]):=by
 unfold bR at h
 refine aG.bc Tryz.func132 J Tryz.ntmps132 Tryz.results132 J J ?_
 refine aF<|rA J J<|rA J J<|rN<|aF<|rM J J<|ae.qv (fS J) J<|rA J J<|rN<|aF<|rM J J<|rA J J<|rA J J<|rN<|tS<|aa.block<|aa.ff (fun x:Int×Int=>bw ab ah o6 x.1 x.2) (fun x aK=>aK=⟨49,[(0,Lg ab),(1,.str ah),(2,.func (.func oL) qZ),(8,I (ab.length:Int)),(9,I x.1),(10,I x.2)],[]⟩) h ?_ ?_
 ·exact aj.lq [] J J J
 ·intro x z1 aK J1 iV h lK fV
  obtain ⟨n3,n4⟩:=x
  obtain rfl:=iV
  replace h:bw ab ah o6 n3 n4=some z1:=h
  unfold bw at h
  refine tS<|aF<|rM J J<|rM J J<|ae.qv (cu J J) J<|rN<|cD h J (fun h=>?_) (fun h=>?_)
  ·refine tK<|aa.block<|aF<|rM J J<|rM J J<|ae.qv (br J J) J<|ae.qv (jz J) J<|ae.qv (D2 J J (by decide)) J<|ae.qv (jz J) J<|rA J J<|rN<|aF<|rM J J<|rM J J<|rM J J<|aH h fun v5 e1 h=>ae.qv (cK J J J e1 J J) J<|ae.qv (bn J J J) J<|rM J J<|aH h fun v6 e2 h=>nQ J J (xq e2) cR J<|ae.qv (cu J J) J<|rN<|aa.cut (fun aK=>∃ (n7:Int) (n8:Int),bK n7 n8=some z1∧aK=⟨49,[(0,Lg ab),(1,.str ah),(2,.func (.func oL) qZ),(8,I (ab.length:Int)),(9,I n7),(10,I n8)],[]⟩) ?_ ?_
   ·refine cD h J (fun h=>?_) (fun h=>?_)
    ·exact tR<|rM J J<|ae.qv (br J J) J<|rA J J<|rN<|aa.stop<|aj.lq [] ⟨aZ ((aZ (eT .u64 (IntKind.u64.wrap (aZ (n3+n4))) (1:Int)))+(1:Int)),n4,h,J⟩ J J
    ·exact tR<|rM J J<|rA J J<|rN<|aa.stop<|aj.lq [] ⟨n3,aZ (eT .u64 (IntKind.u64.wrap (aZ (n3+n4))) (1:Int)),h,J⟩ J J
   ·rintro aK ⟨n7,n8,h,rfl⟩
    unfold bK at h
    refine aa.cy<|aa.stop<|?_
    cases h
    exact lK _ _ J<|aj.lq [] J J J
  ·refine aa.exit J<|have h:=cH h fV;?_
   unfold db at h
   refine tS<|aa.cut (fun aK=>∃ (c9:Bool),bL n3 c9=some r∧aK=⟨49,[(6,I n3),(7,.bool c9)],[]⟩) ?_ ?_
   ·refine tR<|rM J J<|rM J J<|rM J J<|ae.qv (cu J J) J<|rM J J<|gT h J J J (fun h=>?_) (fun h=>?_)
    ·exact rM J J<|rY J J J<|rM J J<|rY J J J<|rM J J<|rY J J J<|aH h fun v10 e3 h=>ae.qv (cK J J J e3 J J) J<|rY J J J<|ae.qv (bn J J J) J<|rY J J J<|rM J J<|rY J J J<|aH h fun v11 e4 h=>nQ J J (xq e4) cR J<|rY J J J<|ae.qv (bM J J) J<|rT J J J<|rA J J<|rA J J<|rN<|aa.stop<|aj.lq [] ⟨decide (v11=(0:Int)),h,J⟩ J J
    ·exact rG J J J J<|rG J J J J<|rG J J J J<|rG J J J J<|rG J J J J<|rG J J J J<|rG J J J J<|rE J J J<|rA J J<|rA J J<|rN<|aa.stop<|aj.lq [] ⟨false,h,J⟩ J J
   ·rintro aK ⟨c9,h,rfl⟩
    unfold bL at h
    refine aa.ret<|?_
    cases h
    exact hQ J J J
theorem rz [GI:bt] {aQ:Bk} {ab:List aY} {ah aA:Int} {r:List aY} (h:gE ab ah aA=some r):aG Tryz.prog 134 [.sl 2 aQ 0 ab.length,I ah,I aA] [(aQ,.arr 2 (ab.map aY.av))] (T1 (fun pM=>[(pM,.arr 2 (r.map aY.av))]) (fun pM=>.sl 2 pM 0 r.length)):=by
 obtain ⟨⟨h0,h1,h2⟩,rfl⟩:=HR h
 have hlen:0 < ab.length:=by omega
 have hz:(ab.take ah.toNat++ab.drop aA.toNat).length≤ab.length:=by simp;omega
 refine aG.eP ?_
 refine aG.bc Tryz.func134 J Tryz.ntmps134 Tryz.results134 J J ?_
 refine aa.ghost (aj.Ru (s:=0) J hlen (fun m cap hb IP z7=>aj.here ?_))
 refine aa.seq ?_
 refine aa.region ?_
 refine ae.qv (bd J) J ?_
 refine ae.nil ?_
 refine aa.seq ?_
 refine aa.region ?_
 refine ae.qv (aq J) J ?_
 refine ae.qv (aq J) J ?_
 refine ae.qv (aq J) J ?_
 refine ae.qv (aq J) J ?_
 refine ae.qv (x9 J) J ?_
 refine ae.qv (CU J J J J h0 (by omega) h2 (by omega)) J ?_
 refine ae.nil ?_
 refine aa.seq ?_
 refine aa.seq ?_
 refine aa.region ?_
 refine ae.qv (aq J) J ?_
 refine ae.qv (aq J) J ?_
 refine ae.qv (bM J J) J ?_
 refine ae.nil ?_
 refine aa.zR J (fun hc=>absurd hc (by omega)) (fun hc=>?_)
 refine aa.skip ?_
 refine aa.seq ?_
 refine aa.region ?_
 refine ae.qv (aq J) J ?_
 refine ae.qv (x9 J) J ?_
 refine ae.qv (bd J) J ?_
 refine ae.nil ?_
 refine aa.seq ?_
 refine aa.bQ (id:=5) (A:=[0,0,3,0,0,24,63,127]) 6 mixed J (by kernel_rfl) (by kernel_rfl) ?_
 refine AM.qv (aq J) J ?_
 refine AM.qv (aq J) J ?_
 refine AM.qv (te J J h0 (by omega)) J ?_
 refine AM.qv (aq J) J ?_
 refine AM.qv (aq J) J ?_
 refine AM.qv (mh (sz:=2) (b:=aQ) J J J hb z7 (by omega) h2 IP) J ?_
 refine AM.nil ?_
 refine En (g:=aY.av) (Xs:=ab) (I':=ah) (J:=aA) h0 (by omega) h2 IP J J J J J hb z7 .here .here ?_
 refine ae.qv (bd J) J ?_
 refine ae.nil ?_
 refine aa.seq ?_
 refine aa.region ?_
 refine ae.qv (aq J) J ?_
 refine ae.qv (aq J) J ?_
 refine ae.qv (x9 J) J ?_
 refine ae.qv (aq J) J ?_
 refine ae.qv (CT (sz:=2) (b:=aQ) J J J J hb z7 (by omega) (by omega) (by omega)) J ?_
 refine CV (xs:=(ab.take ah.toNat++ab.drop aA.toNat).map aY.av) J J J J J J (by rw [List.length_map,Int.toNat_natCast];exact Nat.le_refl _) .here ?_
 refine ae.nil ?_
 refine aa.seq ?_
 refine aa.region ?_
 refine ae.qv (aq J) J ?_
 refine ae.qv (bd J) J ?_
 refine ae.nil ?_
 refine aa.ret ?_
 refine aj.JO (s:=6) (sz:=2) J hb (by omega) z7 ?_
 exact aj.here ⟨_,.cons (.tmp _ _ J) .nil,_,.cons .here .nil,⟨aQ,J,J⟩⟩
theorem rB [GI:bt] {aQ IU:Bk} {ab:List aY} {ah:Int} {aA:List aY} {r:List aY} (h:eW ab ah aA=some r):aG Tryz.prog 135 [.sl 2 aQ 0 ab.length,I ah,.sl 2 IU 0 aA.length] [(aQ,.arr 2 (ab.map aY.av)),(IU,.arr 2 (aA.map aY.av))] (T1 (fun pM=>[(pM,.arr 2 (r.map aY.av))]) (fun pM=>.sl 2 pM 0 r.length)):=by
 unfold eW at h
 obtain ⟨y,k,rfl,rfl,hk,hl,rfl⟩:=H4 h
 have ZJ:(ab.take k++y :: ab.drop k).length=ab.length+1:=by simp;omega
 refine aG.eP ?_
 refine aG.bc Tryz.func135 J Tryz.ntmps135 Tryz.results135 J J ?_
 refine aa.seq ?_
 refine aa.region ?_
 refine ae.qv (bd J) J ?_
 refine ae.nil ?_
 refine aa.seq ?_
 refine aa.region ?_
 refine ae.qv (aq J) J ?_
 refine ae.qv (aq J) J ?_
 refine ae.qv (sU J J (.some _ _ _ J) .none (show (0:Int)≤(k:Int) by omega) (show (k:Int)≤(ab.length:Int) by omega) (Int.le_refl _)) J ?_
 refine ae.nil ?_
 refine aa.seq ?_
 refine aa.region ?_
 refine ae.qv (aq J) J ?_
 refine ae.qv (iN J) J ?_
 refine ae.qv (bd J) J ?_
 refine ae.nil ?_
 refine aa.seq ?_
 refine aa.seq ?_
 refine aa.region ?_
 refine ae.qv (aq J) J ?_
 refine ae.qv (bM J J) J ?_
 refine ae.nil ?_
 refine aa.zR J (fun hc=>absurd hc (by simp)) (fun hc=>?_)
 refine aa.skip ?_
 refine aa.seq ?_
 refine aa.region ?_
 refine ae.qv (aq J) J ?_
 refine ae.qv (iN J) J ?_
 refine ae.qv (bd J) J ?_
 refine ae.nil ?_
 refine aa.seq ?_
 refine aa.seq ?_
 refine aa.region ?_
 refine ae.qv (aq J) J ?_
 refine ae.qv (aq J) J ?_
 refine ae.qv (bM J J) J ?_
 refine ae.nil ?_
 refine aa.zR J (fun hc=>?_) (fun hc=>?_)
 ·have GK:k=ab.length:=by omega
  refine aa.seq ?_
  refine aa.region ?_
  refine ae.qv (aq J) J ?_
  refine ae.qv (aq J) J ?_
  refine iM (g:=aY.av) (Zs:=ab.take k++y :: ab.drop k) rfl rfl rfl rfl rfl rfl rfl rfl (.whole _ _ _ (.inl (iw.next (iw.here (b':=IU) (o':=.arr 2 ([y].map aY.av)))).lN) rfl) (by rw [app,if_pos (by simp;omega)];subst GK;simp) (fun _=>.p0) rfl fun b3=>?_
  refine ae.qv (bd J) J ?_
  refine ae.nil ?_
  refine aa.ret ?_
  exact aj.here ⟨_,.cons (.tmp _ _ J) .nil,_,.cons .here .nil,⟨b3,J,J⟩⟩
 have GK:k < ab.length:=by omega
 refine aa.skip ?_
 refine aa.ghost (aj.Ru (s:=0) J (show 0 < ab.length by omega) (fun m cap hb IP z7=>aj.here ?_))
 refine aa.seq ?_
 refine aa.seq ?_
 refine aa.region ?_
 refine ae.qv (aq J) J ?_
 refine ae.qv (aq J) J ?_
 refine ae.qv (br J J) J ?_
 refine ae.qv (aq J) J ?_
 refine ae.qv (H3 J) J ?_
 refine ae.qv (jF J J) J ?_
 refine ae.nil ?_
 have w1:IntKind.i64.wrap ((ab.length:Int)+(([y].length:Nat):Int))=ab.length+1:=uW ⟨by simp;omega,by simp;omega⟩
 have w2:IntKind.i64.wrap ((k:Int)+(([y].length:Nat):Int))=k+1:=uW ⟨by simp;omega,by simp;omega⟩
 refine aa.zR J (fun hc=>?_) (fun hc=>?_)
 ·have DR:cap < ab.length+1:=by rw [w1] at hc;omega
  have w3:IntKind.i64.wrap (IntKind.i64.wrap ((ab.length:Int)+(([y].length:Nat):Int)) - (k:Int))=((ab.length+1 - k:Nat):Int):=by rw [w1];exact (uW ⟨by omega,by omega⟩).trans (by omega)
  refine aa.seq ?_
  refine aa.region ?_
  refine ae.qv (aq J) J ?_
  refine ae.qv (aq J) J ?_
  refine ae.qv (te J J (show (0:Int)≤(k:Int) by omega) (show (k:Int)≤(cap:Int) by omega)) J ?_
  refine ae.qv (aq J) J ?_
  refine ae.qv (aq J) J ?_
  refine ae.qv (br J J) J ?_
  refine ae.qv (aq J) J ?_
  refine ae.qv (dm J J) J ?_
  refine ae.ghost (aj.eqs (s:=39) (dD:=I ((ab.length+1 - k:Nat):Int)) J (congrArg I w3).symm (aj.here ?_))
  refine FV (g:=aY.av) (Z:=((⟨[],[]⟩:aY):aY)) (Xs:=ab) (len:=k) J J J J J J J J J hb (iw.here (b':=aQ) (o':=.arr 2 (ab.map aY.av))).lN (by omega) (by omega) (by simp only [Int.toNat_natCast];omega) (by omega) (fun b3=>?_)
  refine ae.qv (bd J) J ?_
  refine ae.nil ?_
  refine aa.seq ?_
  refine aa.region ?_
  refine ae.qv (aq J) J ?_
  refine ae.qv (aq J) J ?_
  refine ae.qv (sU J J (.some _ _ _ J) .none (show (0:Int)≤(k:Int) by omega) (show (k:Int)≤((k+(ab.length+1 - k):Nat):Int) by omega) (Int.le_refl _)) J ?_
  refine ae.ghost (aj.eqs (s:=43) (dD:=.sl 2 b3 k (ab.length+1 - k)) J (show _=AV.sl 2 b3 (0+k) (k+(ab.length+1 - k) - k) by rw [Nat.zero_add,Nat.add_sub_cancel_left]) (aj.here ?_))
  refine ae.qv (aq J) J ?_
  refine C0 (g:=aY.av) (Xs:=ab.take k++List.replicate (ab.length+1 - k) (((⟨[],[]⟩:aY):aY):aY)) (Ys:=[y]) (k:=[y].length) (L:=k) (N:=ab.length+1 - k) J J J J J (vx.whole (iw.next (iw.next (iw.here (b':=IU) (o':=.arr 2 ([y].map aY.av))))).lN (by simp;omega)) (by simp) (by simp;omega) (by simp;omega) (Ms GK) .here ?_
  refine ae.nil ?_
  refine aa.seq ?_
  refine aa.bQ (id:=11) (A:=[0,0,0,6,15,0,0,96,255]) 8 mixed J (by kernel_rfl) (by kernel_rfl) ?_
  refine AM.qv (aq J) J ?_
  refine AM.qv (aq J) J ?_
  refine AM.qv (aq J) J ?_
  refine AM.qv (br J J) J ?_
  refine AM.qv (sU J J (.some _ _ _ J) .none (by rw [show fh (some (IntKind.i64.wrap ((k:Int)+(([y].length:Nat):Int))))=IntKind.i64.wrap ((k:Int)+(([y].length:Nat):Int)) from J,w2];omega) (by rw [show fh (some (IntKind.i64.wrap ((k:Int)+(([y].length:Nat):Int))))=IntKind.i64.wrap ((k:Int)+(([y].length:Nat):Int)) from J,w2];show (k:Int)+1≤((k+(ab.length+1 - k):Nat):Int);omega) (Int.le_refl _)) J ?_
  refine AM.qv (aq J) J ?_
  refine AM.qv (aq J) J ?_
  refine AM.qv (mh (sz:=2) (b:=aQ) J J J hb z7 (show (0:Int)≤(k:Int) by omega) (show (k:Int)≤(ab.length:Int) by omega) IP) J ?_
  refine AM.nil ?_
  refine ae.ghost (aj.eqs (s:=50) (dD:=.sl 2 b3 (k+1) (ab.length - k)) J (show _=AV.sl 2 b3 (0+(IntKind.i64.wrap ((k:Int)+(([y].length:Nat):Int))).toNat) (((k+(ab.length+1 - k):Nat):Int).toNat - (IntKind.i64.wrap ((k:Int)+(([y].length:Nat):Int))).toNat) by rw [w2,show ((k:Int)+1).toNat=k+1 by omega,Nat.zero_add,show ((k+(ab.length+1 - k):Nat):Int).toNat - (k+1)=ab.length - k by omega]) (aj.here ?_))
  refine C0 (g:=aY.av) (Xs:=ab.take k++y :: List.replicate (ab.length - k) (((⟨[],[]⟩:aY):aY):aY)) (Ys:=(ab.drop k).take (ab.length - k)) (k:=ab.length - k) (L:=k+1) (N:=ab.length - k) J J J J J (vx.NP (Xs:=ab) (off:=k) (len:=ab.length - k) (iw.next (iw.here (b':=aQ) (o':=.arr 2 (ab.map aY.av)))).lN (Nat.min_self _) (by omega)) (by omega) (Nat.le_refl _) (by simp;omega) (Mt GK) .here ?_
  refine ae.nil ?_
  refine aa.seq ?_
  refine aa.region ?_
  refine ae.qv (aq J) J ?_
  refine ae.qv (bd J) J ?_
  refine ae.nil ?_
  refine aa.ret ?_
  refine aj.eqs (s:=6) (dD:=.sl 2 b3 0 (ab.take k++y :: ab.drop k).length) J (show _=AV.sl 2 b3 0 (k+(ab.length+1 - k)) by rw [ZJ,show k+(ab.length+1 - k)=ab.length+1 by omega]) ?_
  exact aj.here ⟨_,.cons (.tmp _ _ J) .nil,_,.cons .here .nil,⟨b3,J,J⟩⟩
 ·have sr:ab.length+1≤cap:=by rw [w1] at hc;omega
  obtain ⟨x,hx⟩:∃ x,ab[k]? =some x:=⟨ab[k],by simp [GK]⟩
  have w4:(IntKind.i64.wrap ((ab.length:Int)+(([y].length:Nat):Int))).toNat=ab.length+1:=by rw [w1];omega
  have w5:(IntKind.i64.wrap ((k:Int)+(([y].length:Nat):Int))).toNat=k+1:=by rw [w2];omega
  refine aa.skip ?_
  refine aa.seq ?_
  refine aa.region ?_
  refine ae.qv (aq J) J ?_
  refine ae.qv (aq J) J ?_
  refine ae.qv (aq J) J ?_
  refine ae.qv (br J J) J ?_
  refine ae.qv (te J J (by rw [w1];omega) (by rw [w1];omega)) J ?_
  refine ae.qv (bd J) J ?_
  refine ae.ghost (aj.eqs (s:=0) (dD:=Fq m (ab.length+1) cap) J (congrArg (fun z=>Fq m z cap) w4).symm (aj.here ?_))
  refine ae.nil ?_
  refine aa.seq ?_
  refine aa.seq ?_
  refine aa.region ?_
  refine ae.qv (aq J) J ?_
  refine ae.qv (aq J) J ?_
  refine ae.qv (aq J) J ?_
  refine ae.qv (aq J) J ?_
  refine ae.qv (br J J) J ?_
  refine ae.qv (mh (sz:=2) (b:=aQ) J J J hb z7 (by rw [w2];omega) (by rw [w2];omega) sr) J ?_
  refine ae.ghost (aj.eqs (s:=66) (dD:=.sl 2 aQ (k+1) (ab.length - k)) J (by rw [w5,show ab.length+1 - (k+1)=ab.length - k by omega]) (aj.here ?_))
  refine FU (f:=181) (t:=61) (tb:=4) (fun args w=>by rw [run_callFunc_extern Tryz.func181 (by kernel_rfl) (by kernel_rfl) (by kernel_rfl) (e:=Extern.SlicesOverlaps.overlaps #[61,61] #[4]) (by kernel_rfl)]) J J (by simp) (show 0 < ab.length - k by omega) J J J J ?_
  refine ae.qv (cq J) J ?_
  refine ae.nil ?_
  refine aa.oM J ?_
  refine aa.seq ?_
  refine aa.bQ (id:=15) (A:=[0,0,0,6,15,0,0,96,255]) 8 mixed J (by kernel_rfl) (by kernel_rfl) ?_
  refine AM.qv (aq J) J ?_
  refine AM.qv (aq J) J ?_
  refine AM.qv (aq J) J ?_
  refine AM.qv (br J J) J ?_
  refine AM.qv (mh (sz:=2) (b:=aQ) J J J hb z7 (by rw [w2];omega) (by rw [w2];omega) sr) J ?_
  refine AM.qv (aq J) J ?_
  refine AM.qv (aq J) J ?_
  refine AM.qv (mh (sz:=2) (b:=aQ) J J J hb z7 (show (0:Int)≤(k:Int) by omega) (show (k:Int)≤((ab.length+1:Nat):Int) by omega) sr) J ?_
  refine AM.nil ?_
  refine ae.ghost (aj.eqs (s:=73) (dD:=.sl 2 aQ (k+1) (ab.length - k)) J (by rw [w5,show ab.length+1 - (k+1)=ab.length - k by omega]) (aj.here ?_))
  refine C0 (g:=aY.av) (Xs:=ab) (Ys:=(ab.drop k).take (ab.length - k)) (k:=ab.length - k) (L:=k+1) (N:=ab.length - k) J J J J J (vx.NP (Xs:=ab) (off:=k) (len:=ab.length+1 - k) (iw.here (b':=aQ) (o':=.arr 2 (ab.map aY.av))).lN (Nat.min_eq_right (by omega)) (by omega)) (by omega) (Nat.le_refl _) (by omega) (H5 GK hx) .here ?_
  refine ae.nil ?_
  refine aa.seq ?_
  refine aa.region ?_
  refine ae.qv (aq J) J ?_
  refine ae.qv (aq J) J ?_
  refine ae.qv (mh (sz:=2) (b:=aQ) J J J hb z7 (show (0:Int)≤(k:Int) by omega) (show (k:Int)≤((ab.length+1:Nat):Int) by omega) sr) J ?_
  refine ae.qv (aq J) J ?_
  refine C0 (g:=aY.av) (Xs:=ab.take k++x :: ab.drop k) (Ys:=[y]) (k:=[y].length) (L:=k) (N:=ab.length+1 - k) J J J J J (vx.whole (iw.next (iw.here (b':=IU) (o':=.arr 2 ([y].map aY.av)))).lN (by simp;omega)) (by simp) (by simp;omega) (by simp;omega) (Mu GK) .here ?_
  refine ae.nil ?_
  refine aa.seq ?_
  refine aa.region ?_
  refine ae.qv (aq J) J ?_
  refine ae.qv (bd J) J ?_
  refine ae.nil ?_
  refine aa.ret ?_
  refine aj.JO (s:=6) (sz:=2) J hb sr z7 ?_
  refine aj.eqs (s:=6) (dD:=.sl 2 aQ 0 (ab.take k++y :: ab.drop k).length) J (by rw [ZJ]) ?_
  exact aj.here ⟨_,.cons (.tmp _ _ J) .nil,_,.cons .here .nil,⟨aQ,J,J⟩⟩
theorem AH [GI:bt] {aQ:Bk} {cZ:Bk} {cN:Bk} {ab:aJ} {ah:ai} {r:Int×aJ} (h:nX ab ah=some r):aG Tryz.prog 83 [.ptr aQ 0,ai.av ah] [(aQ,.cells (Az ab cZ cN)),(cZ,tM ab.Device.bl),(cN,pL ab.aV)] (T2 (fun uK uL=>[(aQ,.cells (Az r.2 uK uL)),(uK,tM r.2.Device.bl),(uL,pL r.2.aV)]) (fun uK uL=>I r.1)):=by
 unfold nX at h
 refine aG.eP ?_
 refine aG.bc Tryz.func83 J Tryz.ntmps83 Tryz.results83 J J ?_
 refine aF<|de J J J J fun b1=>rA J J<|rN<|tS<|aF<|rM J J<|ae.qv (ao J) J<|rF J J J<|rF J J J<|rL J J .p1 J J<|ae.qv (gr J J) J<|rN<|cD h J (fun h=>?_) (fun h=>?_)
 ·refine aF<|rA J J<|rN<|aa.ret<|?_
  cases h
  exact hH J [1,1,1] J ⟨cZ,cN,J,J⟩
 ·refine tK<|aF<|rM J J<|ae.qv (ao J) J<|rF J J J<|rF J J J<|rL J J .p1 J J<|rA J J<|rN<|aF<|rM J J<|rF J J J<|rL J J .p0 J J<|aH h fun v2 e1 h=>fR J (kH (fun e=>xw (Option.some.inj e)) e1) (.cons (qd.qJ .p2) (.cons (.co (.refl _)) (.cons (.rD _ _ _ .nil) .nil))) J J<|rM J J<|rX J J J<|rX J J J<|rA J J<|rA J J<|rN<|tS<|aa.block<|tS<|aa.cut (fun aK=>∃ (c3:Bool),jh ab ah v2 c3=some r∧aK=⟨88,[(0,.ptr aQ 0),(3,.ptr b1 0),(5,.sl 2 cZ 0 ab.Device.bl.length),(6,I v2.1),(7,.bool v2.2),(39,.bool c3)],[(aQ,.cells (Az ab cZ cN)),(cZ,tM ab.Device.bl),(cN,pL ab.aV),(b1,.cells (Bl ah))]⟩) ?_ ?_
  ·refine aa.bQ (id:=6) (A:=[0,1,3,3,15,31,63,3,131,511,1023,2047,4095,8191,16383,32767,65535,131071,262143,524287,1048575]) 21 mixed J (by kernel_rfl) (by kernel_rfl)<|AM.qv (aq J) J<|AM.qv (aq J) J<|AM.guard J J J (fun hc=>?_) (fun hc=>?_)
   ·refine have h:=kM hc h;AM.qv (aq J) J<|AM.ar J J J<|AM.qv (aq J) J<|AM.ar J J J<|aH h fun v4 e2 h=>AM.qv (bh J J J e2) J<|AM.ar J J J<|AM.qv (bq J J) J<|AM.ar J J J<|AM.qv (df (g:=aY.av) J J (.inl .p2) e2 J) J<|AM.ar J J J<|AM.qv (au J J) J<|AM.ar J J J<|AM.qv (az J J .p0 J) J<|AM.ar J J J<|AM.qv (gr J J) J<|AM.qv (cJ J J) J<|AM.qv (aq J) J<|AM.iK J J J (fun hc=>?_) (fun hc=>?_)
    ·rw [HD hc] at h
     refine AM.qv (aq J) J<|AM.ar J J J<|AM.qv (cq J) J<|AM.ar J J J<|AM.qv (aq J) J<|AM.guard J J J (fun hc=>?_) (fun hc=>?_)
     ·rw [wU hc] at h
      exact AM.qv (au J J) J<|AM.ar J J J<|AM.qv (az J J .p0 J) J<|AM.ar J J J<|AM.qv (gr J J) J<|AM.ar J J J<|AM.qv (cJ J J) J<|AM.qv (cm J J) J<|AM.qv (bd J) J<|AM.nil<|rN<|aa.stop<|aj.lq [1,1,1,0] ⟨decide (ah.Value=([]:ax)),h,J⟩ J J
     ·rw [wV hc] at h
      exact AM.aB J J J J<|AM.aB J J J J<|AM.ar J J J<|AM.qv (cm J J) J<|AM.qv (cm J J) J<|AM.qv (bd J) J<|AM.nil<|rN<|aa.stop<|aj.lq [1,1,1,0] ⟨false,h,J⟩ J J
    ·rw [HC hc] at h
     exact AM.aB J J J J<|AM.aB J J J J<|AM.aX J J J<|AM.aX J J J<|AM.aX J J J<|AM.aB J J J J<|AM.qv (cJ J J) J<|AM.qv (bd J) J<|AM.nil<|rN<|aa.stop<|aj.lq [1,1,1,0] ⟨true,h,J⟩ J J
   ·refine have h:=mR hc h;AM.aB J J J J<|AM.aB J J J J<|AM.aB J J J J<|AM.aB J J J J<|AM.aB J J J J<|AM.aB J J J J<|AM.aB J J J J<|AM.qv (cm J J) J<|AM.qv (aq J) J<|AM.ar J J J<|AM.qv (aq J) J<|AM.ar J J J<|AM.qv (cq J) J<|AM.ar J J J<|AM.qv (aq J) J<|AM.guard J J J (fun hc=>?_) (fun hc=>?_)
    ·rw [wU hc] at h
     exact AM.qv (au J J) J<|AM.ar J J J<|AM.qv (az J J .p0 J) J<|AM.ar J J J<|AM.qv (gr J J) J<|AM.ar J J J<|AM.qv (cJ J J) J<|AM.qv (cm J J) J<|AM.qv (bd J) J<|AM.nil<|rN<|aa.stop<|aj.lq [1,1,1,0] ⟨decide (ah.Value=([]:ax)),h,J⟩ J J
    ·rw [wV hc] at h
     exact AM.aB J J J J<|AM.aB J J J J<|AM.ar J J J<|AM.qv (cm J J) J<|AM.qv (cm J J) J<|AM.qv (bd J) J<|AM.nil<|rN<|aa.stop<|aj.lq [1,1,1,0] ⟨false,h,J⟩ J J
  ·rintro aK ⟨c3,h,rfl⟩
   unfold jh at h
   refine cB h J (fun h=>?_) (fun h=>?_)
   ·refine aF<|rA J J<|rN<|aa.ret<|?_
    cases h
    exact hH J [0,0,0] J ⟨cZ,cN,J,J⟩
   ·refine tS<|aa.cut (fun aK=>∃ (c5:Bool),k7 ab ah v2 c5=some r∧aK=⟨88,[(0,.ptr aQ 0),(3,.ptr b1 0),(5,.sl 2 cZ 0 ab.Device.bl.length),(6,I v2.1),(7,.bool v2.2),(60,.bool c5)],[(aQ,.cells (Az ab cZ cN)),(cZ,tM ab.Device.bl),(cN,pL ab.aV),(b1,.cells (Bl ah))]⟩) ?_ ?_
    ·refine tR<|rM J J<|rM J J<|ae.guard J J J (fun hc=>?_) (fun hc=>?_)
     ·rw [wU hc] at h
      exact rF J J J<|rY J J J<|rL J J .p3 J J<|rY J J J<|ae.qv (gr J J) J<|rT J J J<|rA J J<|rN<|aa.stop<|aj.lq [0,0,0,0] ⟨decide (ah.Value=([]:ax)),h,J⟩ J J
     ·rw [wV hc] at h
      exact rG J J J J<|rG J J J J<|rE J J J<|rA J J<|rN<|aa.stop<|aj.lq [0,0,0,0] ⟨false,h,J⟩ J J
    ·rintro aK ⟨c5,h,rfl⟩
     unfold k7 at h
     refine aa.cut (fun aK=>∃ (b6:Bk) (l7:List aY),np ab l7=some r∧aK=⟨88,[],[(aQ,.cells [.str ab.Device.Key,.str ab.Device.Model,.str ab.Device.aO,I ab.Device.an.er,I ab.Device.an.et,I ab.Device.an.dY,.sl 2 b6 0 l7.length,I ab.aC,I ab.State,.sl 3 cN 0 ab.aV.length]),(b6,tM l7),(cN,pL ab.aV)]⟩) ?_ ?_
     ·refine cB h J (fun h=>?_) (fun h=>?_)
      ·exact tR<|rM J J<|rM J J<|rM J J<|rM J J<|ae.qv (br J J) J<|aH h fun v8 e3 h=>nT J (rz e3) cR (.cons .p1 .nil) (fun _=>J) J fun b9=>ae.qv (ao J) J<|rF J J J<|rF J J J<|aD J J J J .p1 J J<|rN<|aa.stop<|aj.lq [1,0,0] ⟨b9,v8,h,J⟩ J J
      ·refine aF<|rM J J<|rA J J<|rN<|aa.cut (fun aK=>∃ (Ko:Bk) (tL:List aY),nq ab tL=some r∧aK=⟨88,[],[(aQ,.cells [.str ab.Device.Key,.str ab.Device.Model,.str ab.Device.aO,I ab.Device.an.er,I ab.Device.an.et,I ab.Device.an.dY,.sl 2 Ko 0 tL.length,I ab.aC,I ab.State,.sl 3 cN 0 ab.aV.length]),(Ko,tM tL),(cN,pL ab.aV)]⟩) ?_ ?_
       ·refine cB h J (fun h=>?_) (fun h=>?_)
        ·exact tR<|rM J J<|rM J J<|rF J J J<|rL J J .p3 J J<|aH h fun v12 e4 h=>ae.qv (bh J J J e4) J<|ae.qv (bq J J) J<|bF (g:=aY.av) (wi:=(⟨v12.Name,ah.Value⟩:aY)) J J J J e4 J .p1 J<|ae.ghost<|aj.eqs (s:=5) (dD:=.sl 2 cZ 0 (ab.Device.bl.set v2.1.toNat (⟨v12.Name,ah.Value⟩:aY)).length) J (by rw [List.length_set])<|aj.here<|ae.ghost<|aj.eqs (s:=78) (dD:=.sl 2 cZ 0 (ab.Device.bl.set v2.1.toNat (⟨v12.Name,ah.Value⟩:aY)).length) J (by rw [List.length_set])<|aj.here<|ae.ghost<|aj.wT (j:=6) (dD:=.sl 2 cZ 0 (ab.Device.bl.set v2.1.toNat (⟨v12.Name,ah.Value⟩:aY)).length) .p0 J (by rw [List.length_set]) J<|aj.here<|rN<|aa.stop<|aj.lq [0,0,0] ⟨cZ,ab.Device.bl.set v2.1.toNat (⟨v12.Name,ah.Value⟩:aY),h,J⟩ J J
        ·refine aF<|rM J J<|ae.qv (iN J) J<|ae.qv (nN J J) J<|rA J J<|rN<|cD h J (fun h=>?_) (fun h=>?_)
         ·refine aF<|rA J J<|rN<|aa.ret<|?_
          cases h
          exact hH J [0,0,0] J ⟨cZ,cN,J,J⟩
         ·exact tR<|rM J J<|rM J J<|rM J J<|rF J J J<|rL J J .p3 J J<|rF J J J<|rL J J .p3 J J<|ae.qv (cF J J J J J) J<|ko J J J J J J fun pD=>aH h fun ow e5 h=>nT J (rB e5) cR (.cons .p2 (.cons .p0 .nil)) (fun _=>J) J fun Kk=>ae.qv (ao J) J<|rF J J J<|rF J J J<|aD J J J J .p1 J J<|rN<|aa.stop<|aj.lq [1,0,0] ⟨Kk,ow,h,J⟩ J J
       ·rintro aK ⟨Ko,tL,h,rfl⟩
        unfold nq at h
        exact aa.stop<|aj.lq [0,0,0] ⟨Ko,tL,h,J⟩ J J
     ·rintro aK ⟨b6,l7,h,rfl⟩
      unfold np at h
      refine aa.cy<|aF<|rA J J<|rN<|aa.ret<|?_
      cases h
      exact hH J [0,0,0] J ⟨b6,cN,J,J⟩
theorem zf [GI:bt] {aQ:Bk} {cZ:Bk} {cN:Bk} {ab:aJ} {ah:ai} {r:Int×aJ} (h:jB ab ah=r):aG Tryz.prog 84 [.ptr aQ 0,ai.av ah] [(aQ,.cells (Az ab cZ cN)),(cZ,tM ab.Device.bl),(cN,pL ab.aV)] (T2 (fun uK uL=>[(aQ,.cells (Az r.2 uK uL)),(uK,tM r.2.Device.bl),(uL,pL r.2.aV)]) (fun uK uL=>I r.1)):=by
 unfold jB at h
 refine aG.eP ?_
 refine aG.bc Tryz.func84 J Tryz.ntmps84 Tryz.results84 J J ?_
 refine aF<|de J J J J fun b1=>rA J J<|rN<|aF<|rM J J<|ae.qv (ao J) J<|rF J J J<|rA J J<|rN<|tS<|aF<|rF J J J<|rL J J .p0 J J<|rN<|aa.block<|aF<|ae.qv (bM J J) J<|rA J J<|rN<|aa.cut (fun aK=>∃ (b6:Bk) (q2:ax) (n3:Int) (n4:Int) (n5:Int) (l7:List aY) (n8:Int),jT ab q2 n3 n4 n5 l7 n8=r∧aK=⟨76,[],[(aQ,.cells [.str ab.Device.Key,.str ab.Device.Model,.str q2,I n3,I n4,I n5,.sl 2 b6 0 l7.length,I ab.aC,I n8,.sl 3 cN 0 ab.aV.length]),(b6,tM l7),(cN,pL ab.aV)]⟩) ?_ ?_
 ·refine cD h J (fun h=>?_) (fun h=>?_)
  ·refine tS<|aF<|rM J J<|ae.qv (ao J) J<|rF J J J<|rL J J .p1 J J<|ae.qv (fe J J) J<|rN<|cD h J (fun h=>?_) (fun h=>?_)
   ·refine aF<|rA J J<|rN<|aa.ret<|?_
    obtain rfl:=h
    exact hH J [1,1,1] J ⟨cZ,cN,J,J⟩
   ·refine tK<|aa.ik (id:=6) (A:=[0,0,0,4,1,17,49,127,255,511]) (H0:=[(aQ,.cells (Az ab cZ cN))]) (HH:=fun β=>[(aQ,.cells [.str ab.Device.Key,.str ab.Device.Model,.str ab.Device.aO,I ab.Device.an.er,I ab.Device.an.et,I ab.Device.an.dY,.sl 2 cZ 0 ab.Device.bl.length,I ab.aC,I (2:Int),.sl 3 cN 0 ab.aV.length]),(b1,.cells (Bl ah)),(cZ,tM ab.Device.bl),(cN,pL ab.aV)]) 7 mixed J (by kernel_rfl) (by kernel_rfl) [⟨none,some 6,[],fun _=>(aQ,.cells (Az ab cZ cN)),none,[]⟩,⟨some 6,none,[],fun _=>(aQ,.cells [.str ab.Device.Key,.str ab.Device.Model,.str ab.Device.aO,I ab.Device.an.er,I ab.Device.an.et,I ab.Device.an.dY,.sl 2 cZ 0 ab.Device.bl.length,I ab.aC,I (2:Int),.sl 3 cN 0 ab.aV.length]),none,[]⟩] [] J (by kernel_rfl) J (.cons .p1 .nil) (fun _=>J)<|AT.am 6 J J<|AM.qv (aq J) J<|AM.qv (aq J) J<|AM.qv (au J J) J<|AM.qv (az J J .p0 J) J<|AM.qv (ao J) J<|AM.qv (au J J) J<|AM.nil<|AT.wY (Ti:=[(aQ,.cells (Az ab cZ cN))]) (Pi:=[(aQ,.cells [.str ab.Device.Key,.str ab.Device.Model,.str ab.Device.aO,I ab.Device.an.er,I ab.Device.an.et,I ab.Device.an.dY,.sl 2 cZ 0 ab.Device.bl.length,I ab.aC,I (2:Int),.sl 3 cN 0 ab.aV.length])]) (fun _=>J) (fun _=>J) (fun _=>J) J J ?_ ?_
    ·exact aD J J J J .p0 J J<|ae.nil ⟨_,J⟩
    exact AT.sZ (fun _=>J) fun β=>ae.qv (ao J) J<|rF J J J<|aD J J J J .p0 J J<|rN<|aa.stop<|aj.lq [0,1,1] ⟨cZ,ah.aO,ab.Device.an.er,ab.Device.an.et,ab.Device.an.dY,ab.Device.bl,(2:Int),h,J⟩ J J
  ·refine aF<|ae.qv (bM J J) J<|rA J J<|rN<|aa.cut (fun aK=>∃ (pD:Bk) (q9:ax) (n10:Int) (n11:Int) (n12:Int) (xl:List aY) (n15:Int),jU ab q9 n10 n11 n12 xl n15=r∧aK=⟨76,[],[(aQ,.cells [.str ab.Device.Key,.str ab.Device.Model,.str q9,I n10,I n11,I n12,.sl 2 pD 0 xl.length,I ab.aC,I n15,.sl 3 cN 0 ab.aV.length]),(pD,tM xl),(cN,pL ab.aV)]⟩) ?_ ?_
   ·refine cD h J (fun h=>?_) (fun h=>?_)
    ·refine tS<|aF<|rM J J<|ae.qv (ao J) J<|rF J J J<|rL J J .p1 J J<|ae.qv (gr J J) J<|rN<|cD h J (fun h=>?_) (fun h=>?_)
     ·refine aF<|rA J J<|rN<|aa.ret<|?_
      obtain rfl:=h
      exact hH J [1,1,1] J ⟨cZ,cN,J,J⟩
     ·exact tK<|tR<|rM J J<|rM J J<|rM J J<|ae.qv (ao J) J<|rF J J J<|aD J J J J .p1 J J<|ae.qv (ao J) J<|rF J J J<|aD J J J J .p1 J J<|ae.qv (ao J) J<|rF J J J<|aD J J J J .p1 J J<|rN<|aa.stop<|aj.CQ (j:=6) 2 (fun _=>.p1) J (fun _=>J) (fun _=>J) fun F2=>aj.lq [2,0,2] ⟨F2,([]:ax),ab.Device.an.er,ab.Device.an.et,ab.Device.an.dY,[],(1:Int),h,J⟩ J J
    ·refine aF<|ae.qv (bM J J) J<|rA J J<|rN<|aa.cut (fun aK=>∃ (n17:Int) (n18:Int) (n19:Int) (n20:Int),jV ab n17 n18 n19 n20=r∧aK=⟨76,[],[(aQ,.cells [.str ab.Device.Key,.str ab.Device.Model,.str ab.Device.aO,I n17,I n18,I n19,.sl 2 cZ 0 ab.Device.bl.length,I ab.aC,I n20,.sl 3 cN 0 ab.aV.length]),(cZ,tM ab.Device.bl),(cN,pL ab.aV)]⟩) ?_ ?_
     ·refine cD h J (fun h=>?_) (fun h=>?_)
      ·refine tS<|tS<|aa.bQ (id:=12) (A:=[0,1,3,7,0,16,63]) 7 mixed J (by kernel_rfl) (by kernel_rfl)<|AM.qv (aq J) J<|AM.qv (ao J) J<|AM.qv (au J J) J<|AM.qv (cw J J .p1 J J) J<|AM.qv (au J J) J<|AM.qv (cw J J .p0 J J) J<|AM.qv (Jk (g:=Version.av) (X:=ab.Device.an) (Y:=ah.an) J J J J J) J<|AM.nil<|rN<|cD h J (fun h=>?_) (fun h=>?_)
       ·refine aF<|rA J J<|rN<|aa.ret<|?_
        obtain rfl:=h
        exact hH J [1,1,1] J ⟨cZ,cN,J,J⟩
       ·exact tK<|tR<|rM J J<|rF J J J<|ae.qv (cw J J .p0 J J) J<|ae.qv (ao J) J<|rF J J J<|aD J J J J .p1 J J<|rN<|aa.stop<|aj.lq [1,1,1] ⟨ah.an.er,ah.an.et,ah.an.dY,ab.State,h,J⟩ J J
      ·refine aF<|ae.qv (bM J J) J<|rA J J<|rN<|aa.cut (fun aK=>∃ (n21:Int),jW ab n21=r∧aK=⟨76,[],[(aQ,.cells [.str ab.Device.Key,.str ab.Device.Model,.str ab.Device.aO,I ab.Device.an.er,I ab.Device.an.et,I ab.Device.an.dY,.sl 2 cZ 0 ab.Device.bl.length,I ab.aC,I n21,.sl 3 cN 0 ab.aV.length]),(cZ,tM ab.Device.bl),(cN,pL ab.aV)]⟩) ?_ ?_
       ·refine cD h J (fun h=>?_) (fun h=>?_)
        ·refine tS<|aF<|rM J J<|ae.qv (ao J) J<|rF J J J<|rL J J .p1 J J<|ae.qv (fe J J) J<|rN<|cD h J (fun h=>?_) (fun h=>?_)
         ·refine aF<|rA J J<|rN<|aa.ret<|?_
          obtain rfl:=h
          exact hH J [1,1,1] J ⟨cZ,cN,J,J⟩
         ·exact tK<|tR<|rM J J<|ae.qv (ao J) J<|rF J J J<|aD J J J J .p1 J J<|rN<|aa.stop<|aj.lq [1,1,1] ⟨(3:Int),h,J⟩ J J
        ·refine aF<|ae.qv (bM J J) J<|rA J J<|rN<|aa.cut (fun aK=>∃ (n22:Int),jX ab n22=r∧aK=⟨76,[],[(aQ,.cells [.str ab.Device.Key,.str ab.Device.Model,.str ab.Device.aO,I ab.Device.an.er,I ab.Device.an.et,I ab.Device.an.dY,.sl 2 cZ 0 ab.Device.bl.length,I ab.aC,I n22,.sl 3 cN 0 ab.aV.length]),(cZ,tM ab.Device.bl),(cN,pL ab.aV)]⟩) ?_ ?_
         ·refine cD h J (fun h=>?_) (fun h=>?_)
          ·refine tS<|aF<|rM J J<|ae.qv (ao J) J<|rF J J J<|rL J J .p1 J J<|ae.qv (fe J J) J<|rN<|cD h J (fun h=>?_) (fun h=>?_)
           ·refine aF<|rA J J<|rN<|aa.ret<|?_
            obtain rfl:=h
            exact hH J [1,1,1] J ⟨cZ,cN,J,J⟩
           ·exact tK<|tR<|rM J J<|ae.qv (ao J) J<|rF J J J<|aD J J J J .p1 J J<|rN<|aa.stop<|aj.lq [1,1,1] ⟨(2:Int),h,J⟩ J J
          ·exact tK<|aa.stop<|aj.lq [1,1,1] ⟨ab.State,h,J⟩ J J
         ·rintro aK ⟨n22,h,rfl⟩
          unfold jX at h
          exact aa.stop<|aj.lq [0,0,0] ⟨n22,h,J⟩ J J
       ·rintro aK ⟨n21,h,rfl⟩
        unfold jW at h
        exact aa.stop<|aj.lq [0,0,0] ⟨ab.Device.an.er,ab.Device.an.et,ab.Device.an.dY,n21,h,J⟩ J J
     ·rintro aK ⟨n17,n18,n19,n20,h,rfl⟩
      unfold jV at h
      exact aa.stop<|aj.lq [0,0,0] ⟨cZ,ab.Device.aO,n17,n18,n19,ab.Device.bl,n20,h,J⟩ J J
   ·rintro aK ⟨pD,q9,n10,n11,n12,xl,n15,h,rfl⟩
    unfold jU at h
    exact aa.stop<|aj.lq [0,0,0] ⟨pD,q9,n10,n11,n12,xl,n15,h,J⟩ J J
 ·rintro aK ⟨b6,q2,n3,n4,n5,l7,n8,h,rfl⟩
  unfold jT at h
  refine aa.cy<|aF<|rA J J<|rN<|aa.ret<|?_
  obtain rfl:=h
  exact hH J [0,0,0] J ⟨b6,cN,J,J⟩
theorem wE [GI:bt] {aQ:Bk} {uJ:Bk} {dK:Nat→Bk} {om:Nat→Nat→Bk} {gA:Bk} {jG:Bk} {iT:Bk} {ab:aE} {ah:ai} {r:Int×aE} (h:fZ ab ah=some r):aG Tryz.prog 45 [.ptr aQ 0,ai.av ah] [(aQ,.cells [.cd gA,.cd jG,.cd iT]),(gA,.mp (ab.bN.map (fun e=>(AV.str e.1,(pA dK) e.2)))),(jG,Lf ab.cr),(iT,Ic ab.dv),(uJ,.bS (fI gp dK om ab.ew))] (T2 (fun wD AG=>[(aQ,.cells [.cd gA,.cd jG,.cd iT]),(gA,.mp (r.2.bN.map (fun e=>(AV.str e.1,(pA wD) e.2)))),(jG,Lf r.2.cr),(iT,Ic r.2.dv),(uJ,.bS (fI gp wD AG r.2.ew))]) (fun wD AG=>I r.1)):=by
 unfold fZ at h
 refine aG.eP ?_
 refine aG.bc Tryz.func45 J Tryz.ntmps45 Tryz.results45 J J ?_
 refine aF<|de J J J J fun b1=>rA J J<|rN<|tS<|aa.bQ (id:=1) (A:=[0,1,3,7,0,16,63,127]) 8 mixed J (by kernel_rfl) (by kernel_rfl)<|AM.qv (aq J) J<|AM.qv (ao J) J<|AM.qv (au J J) J<|AM.qv (az J J .p1 J) J<|AM.qv (au J J) J<|AM.qv (az J J .p0 J) J<|FL h (fun e1 h=>?_) (fun n2 e1 h=>?_)
 ·refine AM.qv (qN (gk:=AV.str) (gv:=(pA dK)) (M:=ab.bN) (key:=ah.Device) J J .p2 J e1) J<|AM.qv (bd J) J<|AM.nil<|rN<|tS<|aF<|rF J J J<|rL J J .p0 J J<|ae.qv (bM J J) J<|rN<|cD h J (fun h=>?_) (fun h=>?_)
  ·refine aF<|rM J J<|rM J J<|ae.qv (aU J J .p0 J) J<|aH h fun v3 e2 h=>qe J (tq e2) cR (.cons .p1 (.cons .p1 (.cons .p1 (.cons .p1 (.cons .p1 .nil))))) (fun _ _=>J) J fun TB TC=>rA J J<|rN<|aa.ret<|?_
   cases h
   exact hH J [0,0,0,0,0] J ⟨TB,TC,J,J⟩
  ·refine tK<|tS<|aa.block<|aF<|rM J J<|ae.qv (uv J J) J<|rA J J<|rN<|aa.oM J<|aF<|rA J J<|rN<|aa.ret<|?_
   cases h
   exact hH J [1,1,1,1,1] J ⟨dK,om,J,J⟩
 ·refine AM.qv (qO (gk:=AV.str) (gv:=(pA dK)) (M:=ab.bN) (key:=ah.Device) J J .p2 e1) J<|AM.qv (bd J) J<|AM.nil<|rN<|tS<|aF<|rF J J J<|rL J J .p0 J J<|ae.qv (bM J J) J<|rN<|cD h J (fun h=>?_) (fun h=>?_)
  ·refine aF<|rM J J<|rM J J<|ae.qv (aU J J .p0 J) J<|aH h fun v6 e3 h=>ae.ghost<|aj.du (kb:=gp) e3 .p5 J<|aj.here<|aT J (wC (r:=mn ab v6 ah) J) cR (.cons .p4 (.cons .p0 (.cons .p0 (.cons .p0 .nil)))) J J<|rA J J<|ae.ghost<|aj.lG (kb:=gp) e3 (.cons .p1 (.cons .p1 (.cons .p1 .nil))) J .p5<|aj.here<|rN<|aa.ret<|?_
   cases h
   exact hH J [0,1,1,1,1] J ⟨dK,om,J,J⟩
  ·refine tK<|tS<|aa.block<|aF<|rM J J<|ae.qv (xc J J) J<|rA J J<|rN<|aa.qF J<|aF<|rM J J<|ae.qv (ao J) J<|rF J J J<|aH h fun v7 e4 h=>ae.qv (QV.ara (kb:=gp) e4 .p5 J (az J J .p0 J)) J<|ae.qv (bM J J) J<|rA J J<|rN<|cD h J (fun h=>?_) (fun h=>?_)
   ·refine aF<|rA J J<|rN<|aa.ret<|?_
    cases h
    exact hH J [1,1,1,1,1] J ⟨dK,om,J,J⟩
   ·refine tK<|aa.cy<|tS<|aF<|rF J J J<|rL J J .p0 J J<|rN<|aa.block<|aF<|ae.qv (bM J J) J<|rA J J<|rN<|cD h J (fun h=>?_) (fun h=>?_)
    ·refine aF<|rM J J<|rM J J<|ae.qv (aU J J .p0 J) J<|ae.ghost<|aj.du (kb:=gp) e4 .p5 J<|aj.here<|aH h fun v8 e5 h=>qe J (tN e5) cR (.cons .p4 (.cons .p6 (.cons .p0 (.cons .p0 (.cons .p0 .nil))))) (fun _ _=>J) J fun b9 Ko=>rA J J<|ae.ghost<|aj.kA (kb:=gp) (v':=v8.2.2) (s:=Es [b9,Ko]) e4 (.cons .p2 (.cons .p2 (.cons .p2 .nil))) J (fun _=>.p5) fun Ii=>aj.here<|rN<|aa.ret<|?_
     cases h
     exact hH J [0,2,2,0,1] J ⟨dK,Ii,J,J⟩
    ·refine aF<|ae.qv (bM J J) J<|rA J J<|rN<|cD h J (fun h=>?_) (fun h=>?_)
     ·refine aF<|rM J J<|ae.qv (aU J J .p0 J) J<|ae.ghost<|aj.du (kb:=gp) e4 .p5 J<|aj.here<|aH h fun v12 e6 h=>qe J (AH e6) cR (.cons .p0 (.cons .p0 (.cons .p0 .nil))) (fun _ _=>J) J fun pD b14=>rA J J<|ae.ghost<|aj.kA (kb:=gp) (v':=v12.2) (s:=Es [pD,b14]) e4 (.cons .p0 (.cons .p0 (.cons .p0 .nil))) J (fun _=>.p5) fun VW=>aj.here<|rN<|aa.ret<|?_
      cases h
      exact hH J [1,1,1,1,1] J ⟨dK,VW,J,J⟩
     ·refine aF<|ae.qv (bM J J) J<|rA J J<|rN<|cD h J (fun h=>?_) (fun h=>?_)
      ·refine tS<|aa.ghost<|aj.du (kb:=gp) e4 .p5 J<|aj.here<|aa.bQ (id:=14) (A:=[0,1,3,7,0,16,48,112,0,256,768,1792,3840,7936,16368,32752,65520,131071]) 17 mixed J (by kernel_rfl) (by kernel_rfl)<|AM.qv (aq J) J<|AM.qv (ao J) J<|AM.qv (au J J) J<|AM.qv (az J J .p4 J) J<|AM.qv (aq J) J<|AM.qv (ao J) J<|AM.qv (au J J) J<|AM.qv (az J J .p0 J) J<|AM.qv (aq J) J<|AM.qv (ao J) J<|AM.qv (au J J) J<|AM.qv (az J J .p0 J) J<|AM.qv (iN J) J<|AM.qv (dm J J) J<|aH h fun tI e7 h=>AM.qv (bh J J J e7) J<|AM.qv (bq J J) J<|AM.qv (df (g:=Term.av) J J (.inl .p2) e7 J) J<|AM.nil<|Ei (gk:=AV.str) (gv:=AV.str) (M:=ab.dv) (key:=tI.Key) J J .p7<|ae.ghost<|aj.lG (kb:=gp) e4 (.cons .p0 (.cons .p0 (.cons .p0 .nil))) J .p5<|aj.here<|rN<|tS<|aF<|rM J J<|ae.qv (ao J) J<|rF J J J<|ae.ghost<|aj.du (kb:=gp) e4 .p5 J<|aj.here<|rL J J .p0 J J<|ae.qv (iN J) J<|rM J J<|ae.ghost<|aj.lG (kb:=gp) e4 (.cons .p0 (.cons .p0 (.cons .p0 .nil))) J .p5<|aj.here<|rN<|aa.block<|aa.ff (fun x:(List aJ)×Int=>dG ab ah n2 v7 tI x.1 x.2) (fun x aK=>∃ (BC:Nat→Nat→Bk),aK=⟨99,[(3,.ptr b1 0),(5,.ptr (dK n2.toNat) 0),(67,I (v7.aV.length:Int)),(68,I x.2)],[(aQ,.cells [.cd gA,.cd jG,.cd iT]),(gA,.mp (ab.bN.map (fun e=>(AV.str e.1,(pA dK) e.2)))),(uJ,.bS (fI gp dK BC x.1)),(jG,Lf ab.cr),(iT,Ic (qg ab.dv tI.Key)),(b1,.cells (Bl ah))]⟩) h ?_ ?_
       ·exact aj.lq [1,1,3,1,1,0] ⟨om,J⟩ J J
       ·intro x z1 aK J1 iV h lK fV
        obtain ⟨C6,n22⟩:=x
        obtain ⟨BC,rfl⟩:=iV
        replace h:dG ab ah n2 v7 tI C6 n22=some z1:=h
        unfold dG at h
        refine aF<|ae.qv (cu J J) J<|rN<|tS<|cD h J (fun h=>?_) (fun h=>?_)
        ·refine tK<|tS<|aa.block<|aF<|rM J J<|rA J J<|rN<|aF<|rM J J<|ae.qv (ao J) J<|rF J J J<|aH h fun v23 e8 h=>ae.ghost<|aj.du (kb:=gp) e8 .p2 J<|aj.here<|rL J J .p0 J J<|rM J J<|aH h fun v24 e9 h=>ae.qv (bh J J J e9) J<|rA J J<|rN<|aa.bQ (id:=19) (A:=[0,0,2,6,14,0,32,96,224,0,512,2016,4094,8191,16383,32767]) 15 mixed J (by kernel_rfl) (by kernel_rfl)<|AM.qv (aq J) J<|AM.qv (aq J) J<|AM.qv (bx J) J<|AM.qv (bq J J) J<|AM.qv (df (g:=Term.av) J J (.inl .p2) e9 J) J<|AM.qv (aq J) J<|AM.qv (bx J) J<|AM.qv (bq J J) J<|AM.qv (df (g:=Term.av) J J (.inl .p2) e9 J) J<|AM.qv (au J J) J<|AM.qv (az J J (.next .p7) J) J<|AM.qv (Ns J J) J<|AM.qv (Gr J J) J<|AM.qv (bx J) J<|AM.qv (bq J J) J<|AM.nil<|bF (g:=Term.av) (wi:=(⟨v24.Key,v24.fE,min v24.To (max v24.fE ah.At)⟩:Term)) J J J J e9 J .p2 J<|ae.ghost<|aj.eqs (s:=74) (dD:=.sl 3 (BC n2.toNat 1) 0 (v23.aV.set n22.toNat (⟨v24.Key,v24.fE,min v24.To (max v24.fE ah.At)⟩:Term)).length) J (by rw [List.length_set])<|aj.here<|ae.ghost<|aj.wT (j:=9) (dD:=.sl 3 (BC n2.toNat 1) 0 (v23.aV.set n22.toNat (⟨v24.Key,v24.fE,min v24.To (max v24.fE ah.At)⟩:Term)).length) .p0 J (by rw [List.length_set]) J<|aj.here<|ae.ghost<|aj.kA (kb:=gp) (v':=(⟨v23.Device,v23.aC,v23.State,v23.aV.set n22.toNat (⟨v24.Key,v24.fE,min v24.To (max v24.fE ah.At)⟩:Term)⟩:aJ)) (s:=Es [(BC n2.toNat 0),(BC n2.toNat 1)]) e8 (.cons .p0 (.cons .p0 (.cons .p0 .nil))) J (fun _=>.p2) fun O7=>aj.here<|rN<|aa.cy<|tR<|ae.qv (br J J) J<|rM J J<|rN<|aa.stop<|?_
         cases h
         exact lK _ _ J<|aj.lq [0,0,0,0,0,0] ⟨O7,J⟩ J J
        ·refine aa.exit J<|have h:=cH h fV;?_
         unfold mL at h
         refine aF<|rM J J<|ae.qv (ao J) J<|rF J J J<|aH h fun v26 Ft h=>ae.ghost<|aj.du (kb:=gp) Ft .p2 J<|aj.here<|aD J J J J .p0 J J<|ae.ghost<|aj.kA (kb:=gp) (v':=(⟨v26.Device,v26.aC,(4:Int),v26.aV⟩:aJ)) (s:=Es [(BC n2.toNat 0),(BC n2.toNat 1)]) Ft (.cons .p0 (.cons .p0 (.cons .p0 .nil))) J (fun _=>.p2) fun Kr=>aj.here<|rN<|aF<|rA J J<|rN<|aa.ret<|?_
         cases h
         exact hH J [0,0,1,1,0] J ⟨dK,Kr,J,J⟩
      ·refine tK<|aa.cy<|aF<|rM J J<|ae.qv (aU J J .p0 J) J<|ae.ghost<|aj.du (kb:=gp) e4 .p5 J<|aj.here<|qe J (zf J) cR (.cons .p0 (.cons .p0 (.cons .p0 .nil))) (fun _ _=>J) J fun TE b29=>rA J J<|ae.ghost<|aj.kA (kb:=gp) (v':=((jB v7 ah).2)) (s:=Es [TE,b29]) e4 (.cons .p0 (.cons .p0 (.cons .p0 .nil))) J (fun _=>.p5) fun Ks=>aj.here<|rN<|aa.ret<|?_
       cases h
       exact hH J [1,1,1,1,1] J ⟨dK,Ks,J,J⟩
theorem pS [GI:bt] {ab:List ai} {r:aE×(List bO)} (h:lp ab=some r):aG Tryz.prog 44 [Ay ab] [] (T8 (fun pM AD AE uF ET wB AF O8=>[(pM,.cells [.cd AD,.cd AE,.cd uF]),(AD,.mp (r.1.bN.map (fun e=>(AV.str e.1,(pA wB) e.2)))),(AE,Lf r.1.cr),(uF,Ic r.1.dv),(ET,.bS (fI gp wB AF r.1.ew)),(O8,Ie r.2)]) (fun pM AD AE uF ET wB AF O8=>.mN [.ptr pM 0,.sl 2 O8 0 r.2.length])):=by
 unfold lp at h
 refine aG.eP ?_
 refine aG.bc Tryz.func44 J Tryz.ntmps44 Tryz.results44 J J ?_
 refine aF<|rA J J<|rA J J<|rN<|aF<|L9 J (ES J) cR .nil (fun _ _ _ _ _ _ _=>J) J fun b1 b2 b3 b4 b5 QD TA=>rA J J<|rN<|aF<|rA J J<|rN<|tS<|aF<|rM J J<|ae.qv (fS J) J<|rM J J<|rN<|aa.block<|aa.ff (fun x:(List (ax×Int))×(List aJ)×(List (bE×Bool))×(List (ax×ax))×(List bO)×Int=>eZ ab x.1 x.2.1 x.2.2.1 x.2.2.2.1 x.2.2.2.2.1 x.2.2.2.2.2) (fun x aK=>∃ (MT:Nat→Bk) (F3:Nat→Nat→Bk) (O9:Bk),aK=⟨31,[(4,.ptr b1 0),(5,.sl 2 O9 0 x.2.2.2.2.1.length),(10,Ay ab),(11,I (ab.length:Int)),(12,I x.2.2.2.2.2)],[(b1,.cells [.cd b2,.cd b3,.cd b4]),(b2,.mp (x.1.map (fun e=>(AV.str e.1,(pA MT) e.2)))),(b5,.bS (fI gp MT F3 x.2.1)),(b3,Lf x.2.2.1),(b4,Ic x.2.2.2.1),(O9,Ie x.2.2.2.2.1)]⟩) h ?_ ?_
 ·exact aj.arr (s:=5) 2 J fun b26=>aj.lq [1,1,3,1,1,0] ⟨QD,TA,b26,J⟩ J J
 ·intro x z1 aK J1 iV h lK fV
  obtain ⟨F1,H9,Fs,QC,NW,n25⟩:=x
  obtain ⟨MT,F3,O9,rfl⟩:=iV
  replace h:eZ ab F1 H9 Fs QC NW n25=some z1:=h
  unfold eZ at h
  refine aF<|ae.qv (cu J J) J<|rN<|tS<|cD h J (fun h=>?_) (fun h=>?_)
  ·refine tK<|tS<|aa.block<|aF<|rM J J<|aH h fun G9 e1 h=>ae.qv (cK J J J e1 J J) J<|ae.qv (bn J J J) J<|fj J J J J fun TE=>rA J J<|aD J J J J .p0 J J<|rN<|aF<|rM J J<|ae.qv (aU J J .p0 J) J<|aH h fun oS e2 h=>qe J (wE e2) cR (.cons .p1 (.cons .p1 (.cons .p2 (.cons .p2 (.cons .p1 .nil))))) (fun _ _=>J) J fun Pa MU=>rA J J<|rN<|aF<|rM J J<|ae.qv (fe J J) J<|rN<|aa.cut (fun aK=>∃ (TF:Bk) (QB:List bO),jY n25 oS QB=some z1∧aK=⟨31,[(4,.ptr b1 0),(5,.sl 2 TF 0 QB.length),(10,Ay ab),(11,I (ab.length:Int)),(12,I n25)],[(b1,.cells [.cd b2,.cd b3,.cd b4]),(b2,.mp (oS.2.bN.map (fun e=>(AV.str e.1,(pA Pa) e.2)))),(b5,.bS (fI gp Pa MU oS.2.ew)),(b3,Lf oS.2.cr),(b4,Ic oS.2.dv),(TF,Ie QB)]⟩) ?_ ?_
   ·refine cD h J (fun h=>?_) (fun h=>?_)
    ·exact tR<|rM J J<|rM J J<|rM J J<|ae.qv (cF J J J J J) J<|aR (xs:=([(⟨n25,oS.1⟩:bO)]).map bO.av) J J J J J J<|aH h fun EP e3 h=>iM (g:=bO.av) J J J J J J J J (.list _) e3 (fun _=>.p6) J fun b35=>rA J J<|rN<|aa.stop<|aj.lq [0,0,2,0,0,1] ⟨b35,EP,h,J⟩ J J
    ·exact tK<|aa.stop<|aj.lq [0,0,2,0,0,1] ⟨O9,NW,h,J⟩ J J
   ·rintro aK ⟨TF,QB,h,rfl⟩
    unfold jY at h
    refine aa.cy<|tR<|ae.qv (br J J) J<|rM J J<|rN<|aa.stop<|?_
    cases h
    exact lK _ _ J<|aj.lq [0,0,0,0,0,0] ⟨Pa,MU,TF,J⟩ J J
  ·refine aa.exit J<|have h:=cH h fV;aF<|rM J J<|rM J J<|rA J J<|rA J J<|rN<|aa.ret<|?_
   cases h
   exact hI J J [0,0,1,1,0,0] J ⟨b1,b2,b3,b4,b5,MT,F3,O9,J,J⟩
theorem nd [GI:bt] {ab:List aY} {r:(List aY)} (h:dq ab=some r):aG Tryz.prog 114 [.list 2 (ab.map aY.av)] [] (T1 (fun pM=>[(pM,.arr 2 (r.map aY.av))]) (fun pM=>.sl 2 pM 0 r.length)):=by
 unfold dq at h
 refine aG.eP ?_
 refine aG.bc Tryz.func114 J Tryz.ntmps114 Tryz.results114 J J ?_
 refine aa.seq ?_
 refine aa.region ?_
 refine ae.qv (bd J) J ?_
 refine ae.nil ?_
 refine aa.seq ?_
 refine aa.seq ?_
 refine aa.region ?_
 refine ae.qv (aq J) J ?_
 refine GN J J J J (fun c hc=>?_)
 refine ae.nil ?_
 refine aa.cond J (fun hT=>?_) (fun hF=>?_)
 ·obtain rfl:=w6 h (List.map_eq_nil_iff.1 (hc hT))
  refine aa.seq ?_
  refine aa.region ?_
  refine ae.qv (bd J) J ?_
  refine ae.nil ?_
  refine aa.ret ?_
  refine aj.arr (s:=2) 2 J (fun b1=>?_)
  exact aj.here ⟨_,.cons (.tmp _ _ J) .nil,_,.cons .here .nil,⟨b1,J,J⟩⟩
 ·refine aa.skip ?_
  refine aa.seq ?_
  refine aa.region ?_
  refine ko (xs:=([]:List aY).map aY.av) J J J J J J (fun b2=>?_)
  refine ae.qv (aq J) J ?_
  refine iM (g:=aY.av) (Xs:=[]) J J J J J J J J (.list _) h (fun _=>.here) J (fun b3=>?_)
  refine ae.qv (bd J) J ?_
  refine ae.nil ?_
  refine aa.ret ?_
  exact aj.here ⟨_,.cons (.tmp _ _ J) .nil,_,.cons .here .nil,⟨b3,J,J⟩⟩
theorem sc [GI:bt] {ab:List Term} {r:(List Term)} (h:ir ab=some r):aG Tryz.prog 115 [.list 3 (ab.map Term.av)] [] (T1 (fun pM=>[(pM,.arr 3 (r.map Term.av))]) (fun pM=>.sl 3 pM 0 r.length)):=by
 unfold ir at h
 refine aG.eP ?_
 refine aG.bc Tryz.func115 J Tryz.ntmps115 Tryz.results115 J J ?_
 refine aa.seq ?_
 refine aa.region ?_
 refine ae.qv (bd J) J ?_
 refine ae.nil ?_
 refine aa.seq ?_
 refine aa.seq ?_
 refine aa.region ?_
 refine ae.qv (aq J) J ?_
 refine GN J J J J (fun c hc=>?_)
 refine ae.nil ?_
 refine aa.cond J (fun hT=>?_) (fun hF=>?_)
 ·obtain rfl:=w6 h (List.map_eq_nil_iff.1 (hc hT))
  refine aa.seq ?_
  refine aa.region ?_
  refine ae.qv (bd J) J ?_
  refine ae.nil ?_
  refine aa.ret ?_
  refine aj.arr (s:=2) 3 J (fun b1=>?_)
  exact aj.here ⟨_,.cons (.tmp _ _ J) .nil,_,.cons .here .nil,⟨b1,J,J⟩⟩
 ·refine aa.skip ?_
  refine aa.seq ?_
  refine aa.region ?_
  refine ko (xs:=([]:List Term).map Term.av) J J J J J J (fun b2=>?_)
  refine ae.qv (aq J) J ?_
  refine iM (g:=Term.av) (Xs:=[]) J J J J J J J J (.list _) h (fun _=>.here) J (fun b3=>?_)
  refine ae.qv (bd J) J ?_
  refine ae.nil ?_
  refine aa.ret ?_
  exact aj.here ⟨_,.cons (.tmp _ _ J) .nil,_,.cons .here .nil,⟨b3,J,J⟩⟩
theorem xx [GI:bt] {ab:aJ} {r:aJ} (h:oU ab=some r):aG Tryz.prog 60 [aJ.av ab] [] (T2 (fun Kt Ku=>[(Kt,tM r.Device.bl),(Ku,pL r.aV)]) (fun Kt Ku=>.agg [.str r.Device.Key,.str r.Device.Model,.str r.Device.aO,I r.Device.an.er,I r.Device.an.et,I r.Device.an.dY,.sl 2 Kt 0 r.Device.bl.length,I r.aC,I r.State,.sl 3 Ku 0 r.aV.length])):=by
 unfold oU at h
 refine aG.eP ?_
 refine aG.bc Tryz.func60 J Tryz.ntmps60 Tryz.results60 J J ?_
 refine aF<|de J J J J fun b1=>fj J J J J fun b2=>rN<|tS<|aH h fun v3 e1 h=>aH h fun v5 e2 h=>aa.ik (id:=1) (A:=[0,1,3,7,0,16,63,63,191,511,1023,2047]) (H0:=[]) (HH:=fun β=>[((β 3),tM v3),((β 6),pL v5),(b2,.cells [.str [],.str [],.str [],I (0:Int),I (0:Int),I (0:Int),.nil,I (0:Int),I (0:Int),.nil]),(b1,.cells (VK ab))]) 9 mixed J (by kernel_rfl) (by kernel_rfl) [⟨some 3,none,[],fun b=>(b,tM v3),none,[]⟩,⟨some 6,none,[],fun b=>(b,pL v5),none,[]⟩] [3,6] J (by kernel_rfl) J .nil (fun _=>J)<|AT.am 3 J J<|AM.qv (au J J) J<|AM.qv (au J J) J<|AM.qv (az J J .p1 J) J<|AM.nil<|AT.FF (V:=fun b=>.sl 2 b 0 v3.length) (Ti:=[]) (Pi:=fun b=>[(b,tM v3)]) (fun _=>J) (fun _=>J) (fun _ _=>J) J (fun _=>J) J J J ?_ ?_
 ·exact nT J (nd e1) cR .nil (fun _=>J) J fun b4=>ae.nil ⟨b4,_,J,J⟩
 refine AT.am 2 J J<|AM.qv (au J J) J<|AM.qv (az J J .p1 J) J<|AM.nil<|AT.FF (V:=fun b=>.sl 3 b 0 v5.length) (Ti:=[]) (Pi:=fun b=>[(b,pL v5)]) (fun _=>J) (fun _=>J) (fun _ _=>J) J (fun _=>J) J J J ?_ ?_
 ·exact nT J (sc e2) cR .nil (fun _=>J) J fun b6=>ae.nil ⟨b6,_,J,J⟩
 refine AT.am 2 J J<|AM.qv (au J J) J<|AM.qv (au J J) J<|AM.nil<|AT.sZ (fun _=>J) fun β=>?_
 generalize β 3=b4
 generalize β 6=b6
 clear β
 refine aD J J J J .p3 J J<|rF J J J<|aD J J J J .p3 J J<|rN<|aF<|ae.qv (aU J J .p3 J) J<|aD J J J J .p2 J J<|rN<|aa.ret<|?_
 cases h
 exact aj.here ⟨_,.cons (.all _ _ _ _ _ _ J .p2 ay.h aP.h J J) .nil,_,.cons .p0 (.cons .p0 .nil),⟨b4,b6,J,J⟩⟩
theorem uM [GI:bt] {ab:aJ} {ah:aJ} {r:Int} (h:kD ab ah=r):Pu Tryz.prog 113 [aJ.av ab,aJ.av ah] (I r):=by
 unfold kD at h
 refine aG.bc Tryz.func113 J Tryz.ntmps113 Tryz.results113 J J ?_
 refine aF<|de J J J J fun b1=>de J J J J fun b2=>rA J J<|rN<|aF<|rF J J J<|rF J J J<|rL J J .p1 J J<|rF J J J<|rF J J J<|rL J J .p0 J J<|aL J (gD J) cR J<|rA J J<|rN<|aa.ret<|?_
 obtain rfl:=h
 exact hP J J
theorem qm:Jx Tryz.prog 67 10:=⟨fun enc hk h1 cf hO g cb cy off cap d w eg hc hH hb hs=>AnyQ.slices_SortFunc_eq Tryz.G8 10 Tryz.isAgg66 Tryz.sizeOf66 enc hk h1 cf hO g cb cy off cap d w eg hc hH hb hs,fun p cap fv w=>AnyF.slices_SortFunc_none Tryz.G8 p cap fv w⟩
theorem lJ [GI:bt] {aQ:Bk} {ab:List aJ} {fX:aJ→aJ→Option Int} {cY:FuncId} [ba Tryz.prog cY] {eQ:List AV} (lI:∀ {y0 y1:_} {u:Int},fX y0 y1=some u→@Pu pZ Tryz.prog cY (aJ.av y0 :: aJ.av y1 :: eQ) (I u)) {r:(List aJ)} (h:fO ab fX=some r):aG Tryz.prog 67 [.sl 10 aQ 0 ab.length,.func (.func cY) eQ] [(aQ,.arr 10 (ab.map aJ.av))] (T0 [(aQ,.arr 10 (r.map aJ.av))] (.mN [])):=
 Ad (fn:=fX) qm J @lI (fun _=>J) h
theorem xy [GI:bt] {aQ:Bk} {uJ:Bk} {dK:Nat→Bk} {om:Nat→Nat→Bk} {gA:Bk} {jG:Bk} {iT:Bk} {ab:aE} {r:(List aJ)} (h:k8 ab=some r):aG Tryz.prog 57 [.ptr aQ 0] [(aQ,.cells [.cd gA,.cd jG,.cd iT]),(gA,.mp (ab.bN.map (fun e=>(AV.str e.1,(pA dK) e.2)))),(uJ,.bS (fI gp dK om ab.ew))] (T1 (fun pM=>[(aQ,.cells [.cd gA,.cd jG,.cd iT]),(gA,.mp (ab.bN.map (fun e=>(AV.str e.1,(pA dK) e.2)))),(uJ,.bS (fI gp dK om ab.ew)),(pM,Ig r)]) (fun pM=>.sl 10 pM 0 r.length)):=by
 unfold k8 at h
 refine aG.eP ?_
 refine aG.bc Tryz.func57 J Tryz.ntmps57 Tryz.results57 J J ?_
 refine aF<|rA J J<|rN<|aF<|rA J J<|rN<|tS<|aF<|rM J J<|ae.qv (ao J) J<|rF J J J<|rL J J .p0 J J<|w9 (M:=ab.bN) (enc:=(fun e=>(AV.str e.1,(pA dK) e.2))) J (fun _ _=>.p1) J fun b1 QE MW MX Pb=>rN<|aa.block<|aa.w8 (fun e (x:(List aJ))=>ga ab e x) (fun x:(List aJ)=>gd x) (fun R x aK=>∃ (b4:Bk) (Da:List Nat),sB QE MW Da (R.map (fun e=>(AV.str e.1,(pA dK) e.2)))∧aK=⟨25,[(3,.sl 10 b4 0 x.length),(10,.ptr b1 0)],[(aQ,.cells [.cd gA,.cd jG,.cd iT]),(gA,.DC QE MW),(uJ,.bS (fI gp dK om ab.ew)),(b1,.Dx gA MW Da),(b4,Ig x)]⟩) h ?_ ?_
 ·exact aj.arr (s:=3) 10 J fun b6=>aj.lq [2,2,2,1,0] ⟨b6,[],Pb,J⟩ J J
 ·intro R1 l5 aK J1 iV Db Hc
  obtain ⟨b4,Da,Dc,rfl⟩:=iV
  refine aF<|Ah J Dc .p1 (fun _=>.p3) J (fun hN=>?_) (fun Bz R' zg hP hlen xz xA=>?_)
  ·have h:=JC Db hN
   replace h:gd l5=_:=h
   unfold gd at h
   refine ae.ghost<|aj.ur MX .p1<|aj.here<|rX J J J<|rN<|tS<|aa.qF J<|aa.exit J<|aF<|rM J J<|aH h fun v7 e2 h=>aT J (lJ (fun e=>uM (GI:=pZ) (Option.some.inj e)) (kq e2)) cR (.cons .p4 .nil) J J<|ae.ghost<|aj.eqs (s:=3) (dD:=.sl 10 b4 0 v7.length) J (congrArg (AV.sl 10 b4 0) (dn e2))<|aj.here<|ae.ghost<|aj.eqs (s:=22) (dD:=.sl 10 b4 0 v7.length) J (congrArg (AV.sl 10 b4 0) (dn e2))<|aj.here<|rN<|aF<|rM J J<|rA J J<|rN<|aa.ret<|?_
   cases h
   exact hH J [1,1,1,0] J ⟨b4,J,J⟩
  ·obtain ⟨z1,h,Hd,fV⟩:=Eb Db hP
   replace h:ga ab Bz l5=some z1:=h
   unfold ga at h
   have lK:=fun y aK (e:z1=.inl y) hi=>Hc R' y aK hlen (Hd y e) hi
   clear Hd hP Hc Db
   refine rX J J J<|rN<|tS<|aa.oM J<|tK<|aa.block<|aF<|ae.qv (xa J .p3 .p1 xA J J) J<|rX J J J<|rA J J<|rN<|tR<|rM J J<|rM J J<|ae.qv (ao J) J<|aH h fun v8 e3 h=>ae.ghost<|aj.du (kb:=gp) e3 .p2 J<|aj.here<|ae.qv (aU J J .p0 J) J<|aH h fun v9 e4 h=>Ew J (xx e4) .nil (.cons (qd.Lz (.cons (.co (.refl _)) (.cons (.co (.refl _)) (.cons (.co (.refl _)) (.cons (.co (.refl _)) (.cons (.co (.refl _)) (.cons (.co (.refl _)) (.cons (qd.qJ .p1) (.cons (.co (.refl _)) (.cons (.co (.refl _)) (.cons (qd.qJ .p2) .nil))))))))))) .nil) (fun _ _=>J) (fun _ _=>J) (fun _ _=>(.cons (JA.qJ (fun _=>J)) (.cons (JA.qJ (fun _=>J)) .nil))) J fun Ko EU=>ae.ghost<|aj.freeze .p0<|aj.here<|ae.ghost<|aj.freeze .p1<|aj.here<|aR (xs:=[.agg [.str v9.Device.Key,.str v9.Device.Model,.str v9.Device.aO,I v9.Device.an.er,I v9.Device.an.et,I v9.Device.an.dY,.sl 2 Ko 0 v9.Device.bl.length,I v9.aC,I v9.State,.sl 3 EU 0 v9.aV.length]]) J J J J J J<|ae.ghost<|aj.SP (s:=20) (dD:=.list 10 (([v9]:List aJ).map aJ.av)) J (Bc.GO (.cons .r (.cons .r (.cons .r (.cons .r (.cons .r (.cons .r (.cons (.co (Co.mg .p0)) (.cons .r (.cons .r (.cons (.co (Co.mg .p1)) .nil)))))))))) J J)<|aj.here<|aH h fun qz e5 h=>iM (g:=aJ.av) J J J J J J J J (.list _) e5 (fun _=>(.next (.next .p7))) J fun pD=>rA J J<|ae.ghost<|aj.lG (kb:=gp) e3 (.cons .p2 (.cons .p2 (.cons .p2 .nil))) J .p4<|aj.here<|rN<|aa.cy<|aa.stop<|?_
   cases h
   exact lK _ _ J<|aj.lq [2,2,2,2,2] ⟨pD,zg,xz,J⟩ J J
theorem AI {ab:List Model} {ah:List ai} {r:(List aJ)×Int} (h:mq ab ah=some r):aG Tryz.prog 23 [sa ab,Ay ah] [] (T1 (fun pM=>[(pM,Ig r.1)]) (fun pM=>.mN [.sl 10 pM 0 r.1.length,I r.2])):=by
 unfold mq at h
 refine aG.eP ?_
 refine aG.bc Tryz.func23 J Tryz.ntmps23 Tryz.results23 J J ?_
 refine aF<|rA J J<|rA J J<|rN<|tS<|aF<|rM J J<|rM J J<|aH h fun v1 e1 h=>aL J (ma e1) cR J<|rA J J<|rN<|aF<|rM J J<|ae.qv (fe J J) J<|rN<|cD h J (fun h=>?_) (fun h=>?_)
 ·refine aF<|rM J J<|rA J J<|rA J J<|rN<|aa.ret<|?_
  cases h
  exact aj.arr (s:=4) 10 J fun b2=>aj.here ⟨_,.cons (.tmp _ _ J) (.cons (.tmp _ _ J) .nil),_,.cons .p0 .nil,⟨b2,J,J⟩⟩
 ·refine tK<|aF<|rM J J<|aH h fun v3 e2 h=>CS J (pS e2) cR .nil (fun _ _ _ _ _ _ _ _=>J) J fun b4 b5 b6 b7 b8 TG Sc EU=>rM J J<|rX J J J<|rX J J J<|rA J J<|rA J J<|rN<|aF<|rM J J<|aH h fun v12 e3 h=>nT J (xy e3) cR (.cons .p0 (.cons .p0 (.cons .p2 .nil))) (fun _=>J) J fun pD=>rA J J<|rA J J<|rN<|aa.ret<|?_
  cases h
  exact hI J J [3] J ⟨pD,J,J⟩
theorem kI [GI:bt] {aQ:Bk} {dK:Nat→Bk} {gA:Bk} {jG:Bk} {iT:Bk} {ab:aE} {ah:ax} {r:(Option Int)} (h:iD ab ah=r):aG Tryz.prog 59 [.ptr aQ 0,.str ah] [(aQ,.cells [.cd gA,.cd jG,.cd iT]),(gA,.mp (ab.bN.map (fun e=>(AV.str e.1,(pA dK) e.2))))] (TM r (T0 ([(aQ,.cells [.cd gA,.cd jG,.cd iT]),(gA,.mp (ab.bN.map (fun e=>(AV.str e.1,(pA dK) e.2))))]) (.raw (.pointer none))) (fun x=>T0 ([(aQ,.cells [.cd gA,.cd jG,.cd iT]),(gA,.mp (ab.bN.map (fun e=>(AV.str e.1,(pA dK) e.2))))]) (.ptr (dK x.toNat) 0))):=by
 unfold iD at h
 refine aG.eP ?_
 refine aG.bc Tryz.func59 J Tryz.ntmps59 Tryz.results59 J J ?_
 refine aF<|rA J J<|rN<|aF<|rM J J<|ae.qv (ao J) J<|rF J J J<|rL J J .p0 J J<|rM J J<|FL h (fun e1 h=>?_) (fun n1 e1 h=>?_)
 ·refine ae.qv (qN (gk:=AV.str) (gv:=(pA dK)) (M:=ab.bN) (key:=ah) J J .p1 J e1) J<|rA J J<|rN<|aa.ret<|?_
  obtain rfl:=h
  exact hH J [0,0] J ⟨J,J⟩
 ·refine ae.qv (qO (gk:=AV.str) (gv:=(pA dK)) (M:=ab.bN) (key:=ah) J J .p1 e1) J<|rA J J<|rN<|aa.ret<|?_
  obtain rfl:=h
  exact hH J [0,0] J ⟨J,J⟩
theorem zh {ab:List Model} {ah:List ai} {aA:ax} {r:aJ×Bool×Int} (h:lr ab ah aA=some r):Pu Tryz.prog 24 [sa ab,Ay ah,.str aA] (.mN [aJ.av r.1,.bool r.2.1,I r.2.2]):=by
 unfold lr at h
 refine aG.bc Tryz.func24 J Tryz.ntmps24 Tryz.results24 J J ?_
 refine aF<|fj J J J J fun b1=>rA J J<|rA J J<|rN<|tS<|aF<|rM J J<|rM J J<|aH h fun v2 e1 h=>aL J (ma e1) cR J<|rA J J<|rN<|aF<|rM J J<|ae.qv (fe J J) J<|rN<|cD h J (fun h=>?_) (fun h=>?_)
 ·refine aF<|ae.qv (cF J J J J J) J<|rM J J<|aD J J J J .p0 J J<|rA J J<|rA J J<|rN<|aa.ret<|?_
  cases h
  exact aj.x6 (j:=6) 2 .p0 J J J<|aj.x6 (j:=9) 3 .p0 J J J<|aj.here ⟨_,.cons (.all _ _ _ _ _ _ J .p0 ay.h aP.h J J) (.cons (.tmp _ _ J) (.cons (.tmp _ _ J) .nil)),J⟩
 ·refine tK<|tS<|aF<|rM J J<|aH h fun v3 e2 h=>aL J (l6 e2) cR J<|ae.qv (cq J) J<|rN<|cB h J (fun h=>?_) (fun h=>?_)
  ·refine aF<|ae.qv (cF J J J J J) J<|aD J J J J .p0 J J<|rA J J<|rA J J<|rN<|aa.ret<|?_
   cases h
   exact aj.x6 (j:=6) 2 .p0 J J J<|aj.x6 (j:=9) 3 .p0 J J J<|aj.here ⟨_,.cons (.all _ _ _ _ _ _ J .p0 ay.h aP.h J J) (.cons (.tmp _ _ J) (.cons (.tmp _ _ J) .nil)),J⟩
  ·refine tK<|aF<|rM J J<|aH h fun v4 e3 h=>CS J (pS e3) cR .nil (fun _ _ _ _ _ _ _ _=>J) J fun b5 b6 b7 b8 b9 afG Ii Kv=>rM J J<|rX J J J<|rX J J J<|rA J J<|rA J J<|rN<|aF<|rM J J<|rM J J<|FL h (fun e4 h=>?_) (fun Zz e4 h=>?_)
   ·refine have VX:=GS e4 (kI J);aT J VX cR (.cons .p0 (.cons .p0 .nil)) J J<|rA J J<|rN<|tS<|aF<|rM J J<|ae.qv (uv J J) J<|rN<|aa.oM J<|aF<|ae.qv (cF J J J J J) J<|aD J J J J .p6 J J<|rA J J<|rA J J<|rN<|aa.ret<|?_
    cases h
    exact aj.x6 (j:=6) 2 .p6 J J J<|aj.x6 (j:=9) 3 .p6 J J J<|aj.here ⟨_,.cons (.all _ _ _ _ _ _ J .p6 ay.h aP.h J J) (.cons (.tmp _ _ J) (.cons (.tmp _ _ J) .nil)),J⟩
   ·refine have VY:=GU e4 (kI J);aT J VY cR (.cons .p0 (.cons .p0 .nil)) J J<|rA J J<|rN<|tS<|aF<|rM J J<|ae.qv (xc J J) J<|rN<|aa.qF J<|tK<|aF<|rM J J<|ae.qv (ao J) J<|aH h fun ow e5 h=>ae.ghost<|aj.du (kb:=gp) e5 .p4 J<|aj.here<|ae.qv (aU J J .p0 J) J<|aH h fun pI e6 h=>Ew J (xx e6) .nil (.cons (qd.Lz (.cons (.co (.refl _)) (.cons (.co (.refl _)) (.cons (.co (.refl _)) (.cons (.co (.refl _)) (.cons (.co (.refl _)) (.cons (.co (.refl _)) (.cons (qd.qJ .p1) (.cons (.co (.refl _)) (.cons (.co (.refl _)) (.cons (qd.qJ .p2) .nil))))))))))) .nil) (fun _ _=>J) (fun _ _=>J) (fun _ _=>(.cons (JA.qJ (fun _=>J)) (.cons (JA.qJ (fun _=>J)) .nil))) J fun F2 b17=>aD J J J J (.next (.next (.next (.next .p7)))) J J<|rA J J<|rA J J<|ae.ghost<|aj.lG (kb:=gp) e5 (.cons .p2 (.cons .p2 (.cons .p2 .nil))) J .p6<|aj.here<|rN<|aa.ret<|?_
    cases h
    exact aj.freeze .p0<|aj.kP (j:=6) (.next .p7) J (Co.mg .p0) J J<|aj.freeze .p1<|aj.kP (j:=9) (.next .p7) J (Co.mg .p1) J J<|aj.here ⟨_,.cons (.all _ _ _ _ _ _ J (.next .p7) ay.h aP.h J J) (.cons (.tmp _ _ J) (.cons (.tmp _ _ J) .nil)),J⟩
theorem tO [GI:bt] {ab:Term} {ah:ax} {aA:Int} {r:Bool} (h:jI ab ah aA=r):Pu Tryz.prog 64 [Term.av ab,.ji [.str ah],.ji [I aA]] (.bool r):=by
 unfold jI at h
 refine aG.bc Tryz.func64 J Tryz.ntmps64 Tryz.results64 J J ?_
 refine aF<|de J J J J fun b1=>rA J J<|rN<|tS<|aa.cut (fun aK=>∃ (c2:Bool),kE c2=r∧aK=⟨21,[(4,.bool c2)],[]⟩) ?_ ?_
 ·refine tR<|rF J J J<|rL J J .p0 J J<|ae.qv (bC J J J) J<|ae.qv (gr J J) J<|rM J J<|ae.bV J J J (fun hc=>?_) (fun hc=>?_)
  ·rw [oF hc] at h
   refine ae.qv (bC J J J) J<|rY J J J<|rF J J J<|rY J J J<|rL J J .p0 J J<|rY J J J<|ae.qv (nN J J) J<|rT J J J<|rM J J<|ae.bV J J J (fun hc=>?_) (fun hc=>?_)
   ·rw [oF hc] at h
    exact ae.qv (bC J J J) J<|rY J J J<|rF J J J<|rY J J J<|rL J J .p0 J J<|rY J J J<|ae.qv (cu J J) J<|rT J J J<|rA J J<|rN<|aa.stop<|aj.lq [] ⟨decide (aA < ab.To),h,J⟩ J J
   ·rw [oG hc] at h
    exact rG J J J J<|rG J J J J<|rG J J J J<|rE J J J<|rA J J<|rN<|aa.stop<|aj.lq [] ⟨false,h,J⟩ J J
  ·rw [oG hc] at h
   exact rG J J J J<|rG J J J J<|rG J J J J<|rE J J J<|rM J J<|rG J J J J<|rG J J J J<|rG J J J J<|rG J J J J<|rE J J J<|rA J J<|rN<|aa.stop<|aj.lq [] ⟨false,h,J⟩ J J
 ·rintro aK ⟨c2,h,rfl⟩
  unfold kE at h
  refine aa.ret<|?_
  obtain rfl:=h
  exact hP J J
theorem wF {ab:List Model} {ah:List ai} {aA:ax} {bu:ax} {xm:Int} {r:Bool×Int} (h:iE ab ah aA bu xm=some r):Pu Tryz.prog 25 [sa ab,Ay ah,.str aA,.str bu,I xm] (.mN [.bool r.1,I r.2]):=by
 unfold iE at h
 refine aG.bc Tryz.func25 J Tryz.ntmps25 Tryz.results25 J J ?_
 refine aF<|de J J J J fun b1=>de J J J J fun b2=>rA J J<|rA J J<|rN<|tS<|aF<|rM J J<|rM J J<|aH h fun v3 e1 h=>aL J (ma e1) cR J<|rA J J<|rN<|aF<|rM J J<|ae.qv (fe J J) J<|rN<|cD h J (fun h=>?_) (fun h=>?_)
 ·refine aF<|rM J J<|rA J J<|rA J J<|rN<|aa.ret<|?_
  cases h
  exact hQ J J J
 ·refine tK<|tS<|aa.block<|tS<|aa.cut (fun aK=>∃ (c4:Bool),gZ ah aA bu xm c4=some r∧aK=⟨63,[(1,Ay ah),(2,.str aA),(8,.ptr b1 0),(9,.ptr b2 0),(22,.bool c4)],[(b1,.cells [.str bu]),(b2,.cells [I xm])]⟩) ?_ ?_
  ·refine tR<|rM J J<|aH h fun v5 e2 h=>aL J (l6 e2) cR J<|ae.qv (cq J) J<|rM J J<|ae.guard J J J (fun hc=>?_) (fun hc=>?_)
   ·exact have h:=mR hc h;rL J J .p1 J J<|rY J J J<|aH h fun v6 e3 h=>aL J (l8 e3) cR J<|rY J J J<|ae.qv (cq J) J<|rE J J J<|rA J J<|rN<|aa.stop<|aj.lq [1,0] ⟨!v6,h,J⟩ J J
   ·exact have h:=kM hc h;rG J J J J<|rG J J J J<|rT J J J<|rA J J<|rN<|aa.stop<|aj.lq [1,0] ⟨true,h,J⟩ J J
  ·rintro aK ⟨c4,h,rfl⟩
   unfold gZ at h
   refine cB h J (fun h=>?_) (fun h=>?_)
   ·refine aF<|rA J J<|rA J J<|rN<|aa.ret<|?_
    cases h
    exact hQ J J J
   ·refine aF<|rL J J .p1 J J<|aL J (vO J) cR J<|ae.qv (cq J) J<|rA J J<|rN<|cB h J (fun h=>?_) (fun h=>?_)
    ·refine aF<|rA J J<|rA J J<|rN<|aa.ret<|?_
     cases h
     exact hQ J J J
    ·refine tK<|aa.cy<|aF<|rM J J<|aH h fun v7 e4 h=>CS J (pS e4) cR .nil (fun _ _ _ _ _ _ _ _=>J) J fun b8 b9 Ko EU Kv F4 Dd Kk=>rM J J<|rX J J J<|rX J J J<|rA J J<|rA J J<|rN<|aF<|rM J J<|rM J J<|FL h (fun e5 h=>?_) (fun O4 e5 h=>?_)
     ·refine have VX:=GS e5 (kI J);aT J VX cR (.cons .p0 (.cons .p0 .nil)) J J<|rA J J<|rN<|tS<|aF<|rM J J<|ae.qv (uv J J) J<|rN<|aa.oM J<|aF<|rA J J<|rA J J<|rN<|aa.ret<|?_
      cases h
      exact hQ J J J
     ·refine have VY:=GU e5 (kI J);aT J VY cR (.cons .p0 (.cons .p0 .nil)) J J<|rA J J<|rN<|tS<|aF<|rM J J<|ae.qv (xc J J) J<|rN<|aa.qF J<|tK<|tS<|tS<|aa.cut (fun aK=>∃ (RP:Bool),jJ bu xm v7 O4 RP=some r∧aK=⟨63,[(8,.ptr b1 0),(9,.ptr b2 0),(15,.ptr (F4 O4.toNat) 0),(56,.bool RP)],[(b1,.cells [.str bu]),(b2,.cells [I xm]),(Kv,.bS (fI gp F4 Dd v7.1.ew))]⟩) ?_ ?_
      ·refine tR<|rM J J<|ae.qv (ao J) J<|rF J J J<|aH h fun DB e6 h=>ae.qv (QV.ara (kb:=gp) e6 .p4 J (az J J .p0 J)) J<|ae.qv (bM J J) J<|rM J J<|ae.iK J J J (fun hc=>?_) (fun hc=>?_)
       ·rw [HD hc] at h
        exact rM J J<|rY J J J<|ae.qv (ao J) J<|rY J J J<|rF J J J<|rY J J J<|ae.qv (QV.ara (kb:=gp) e6 .p4 J (az J J .p0 J)) J<|rY J J J<|ae.qv (bM J J) J<|rE J J J<|rN<|aa.stop<|aj.lq [6,6,4] ⟨decide (DB.State=(4:Int)),h,J⟩ J J
       ·rw [HC hc] at h
        exact rG J J J J<|rG J J J J<|rG J J J J<|rG J J J J<|rT J J J<|rN<|aa.stop<|aj.lq [6,6,4] ⟨true,h,J⟩ J J
      ·rintro aK ⟨RP,h,rfl⟩
       unfold jJ at h
       refine cB h J (fun h=>?_) (fun h=>?_)
       ·refine aF<|rA J J<|rA J J<|rN<|aa.ret<|?_
        cases h
        exact hQ J J J
       ·refine tK<|aF<|rM J J<|ae.qv (ao J) J<|rF J J J<|aH h fun tJ e7 h=>ae.ghost<|aj.du (kb:=gp) e7 .p2 J<|aj.here<|rL J J .p0 J J<|ae.qv (gG J) J<|aH h fun v20 e8 h=>fR J (dX (fun e=>tO (Option.some.inj e)) e8) (.cons (qd.qJ .p2) (.cons (.rD _ _ _ (.cons (.xX _ _ _ .p3 (.cons (.co (.refl _)) .nil)) (.cons (.xX _ _ _ .p4 (.cons (.co (.refl _)) .nil)) .nil))) .nil)) J J<|rA J J<|rA J J<|ae.ghost<|aj.lG (kb:=gp) e7 (.cons .p0 (.cons .p0 (.cons .p0 .nil))) J .p2<|aj.here<|rN<|aa.ret<|?_
        cases h
        exact hQ J J J
theorem oo [GI:bt] {ab:Int} {ah:Int} {aA:Int} {r:Bool} (h:sE ab ah aA=r):Pu Tryz.prog 48 [I ab,I ah,I aA] (.bool r):=by
 unfold sE at h
 refine aG.bc Tryz.func48 J Tryz.ntmps48 Tryz.results48 J J ?_
 refine aF<|rA J J<|rN<|tS<|aa.cut (fun aK=>∃ (c1:Bool),C7 c1=r∧aK=⟨15,[(6,.bool c1)],[]⟩) ?_ ?_
 ·refine tR<|rM J J<|rM J J<|ae.qv (tY J J) J<|rM J J<|ae.bV J J J (fun hc=>?_) (fun hc=>?_)
  ·rw [oF hc] at h
   exact rM J J<|rY J J J<|rM J J<|rY J J J<|ae.qv (tY J J) J<|rT J J J<|rA J J<|rN<|aa.stop<|aj.lq [] ⟨decide (ab≤aA),h,J⟩ J J
  ·rw [oG hc] at h
   exact rG J J J J<|rG J J J J<|rE J J J<|rA J J<|rN<|aa.stop<|aj.lq [] ⟨false,h,J⟩ J J
 ·rintro aK ⟨c1,h,rfl⟩
  unfold C7 at h
  refine aa.ret<|?_
  obtain rfl:=h
  exact hP J J
theorem vk {ab:ax} {r:Bool} (h:vN ab=some r):Pu Tryz.prog 47 [.str ab] (.bool r):=by
 unfold vN at h
 refine aG.bc Tryz.func47 J Tryz.ntmps47 Tryz.results47 J J ?_
 refine aF<|rA J J<|rN<|tS<|aa.cut (fun aK=>∃ (c1:Bool),sF c1=some r∧aK=⟨17,[(2,.bool c1)],[]⟩) ?_ ?_
 ·refine tR<|rM J J<|ae.qv (dA J) J<|aL J (oo J) cR J<|rM J J<|ae.guard J J J (fun hc=>?_) (fun hc=>?_)
  ·refine have h:=kM hc h;rM J J<|rY J J J<|aH h fun v2 e1 h=>aL J (jM e1) cR J<|rY J J J<|ae.qv (gr J J) J<|rT J J J<|rM J J<|gT h J J J (fun h=>?_) (fun h=>?_)
   ·exact rM J J<|rY J J J<|aH h fun c3 e2 h=>ae.qv (j9 J J e2) J<|rY J J J<|aL J (pY J) cR J<|rY J J J<|ae.qv (nN J J) J<|rT J J J<|rA J J<|rN<|aa.stop<|aj.lq [] ⟨decide ((0:Int)≤(qP ([97,98,99,100,101,102,103,104,105,106,107,108,109,110,111,112,113,114,115,116,117,118,119,120,121,122]:ax) (c3.toNat:Int))),h,J⟩ J J
   ·exact rG J J J J<|rG J J J J<|rG J J J J<|rE J J J<|rA J J<|rN<|aa.stop<|aj.lq [] ⟨false,h,J⟩ J J
  ·exact have h:=mR hc h;rG J J J J<|rG J J J J<|rE J J J<|rM J J<|rG J J J J<|rG J J J J<|rG J J J J<|rG J J J J<|rE J J J<|rA J J<|rN<|aa.stop<|aj.lq [] ⟨false,h,J⟩ J J
 ·rintro aK ⟨c1,h,rfl⟩
  unfold sF at h
  refine aa.ret<|?_
  cases h
  exact hP J J
theorem wG [GI:bt] {ab:Model} {ah:Model} {r:Bool} (h:mr ab ah=r):Pu Tryz.prog 52 [Model.av ab,.ji [.str ah.Key,.str ah.Prefix,Bj ah.bf]] (.bool r):=by
 unfold mr at h
 refine aG.bc Tryz.func52 J Tryz.ntmps52 Tryz.results52 J J ?_
 refine aF<|de J J J J fun b1=>rA J J<|rN<|aF<|rF J J J<|rL J J .p0 J J<|ae.qv (fk J J) J<|ae.qv (bC J J J) J<|ae.qv (gr J J) J<|rA J J<|rN<|aa.ret<|?_
 obtain rfl:=h
 exact hP J J
theorem zi {ab:ax} {r:Bool} (h:mX ab=some r):Pu Tryz.prog 102 [.str ab] (.bool r):=by
 unfold mX at h
 refine aG.bc Tryz.func102 J Tryz.ntmps102 Tryz.results102 J J ?_
 refine aF<|rA J J<|rN<|aF<|rM J J<|aH h fun v1 e1 h=>aL J (vk e1) cR J<|ae.qv (cq J) J<|rA J J<|rN<|aa.ret<|?_
 cases h
 exact hP J J
theorem oq [GI:bt] {ab:List ax} {fX:ax→Option Bool} {cY:FuncId} [ba Tryz.prog cY] {eQ:List AV} (lI:∀ {y0:_} {u:Bool},fX y0=some u→Pu Tryz.prog cY (.str y0 :: eQ) (.bool u)) {r:Int} (h:gg ab fX=some r):Pu Tryz.prog 148 [Tq ab,.func (.func cY) eQ] (I r):=by
 unfold gg at h
 refine aG.bc Tryz.func148 J Tryz.ntmps148 Tryz.results148 J J ?_
 refine aF<|rA J J<|rN<|tS<|aF<|rM J J<|ae.qv (fS J) J<|rM J J<|rN<|aa.block<|aa.ff (fun x:Int=>dw ab fX x) (fun x aK=>aK=⟨19,[(0,Tq ab),(1,.func (.func cY) eQ),(7,I (ab.length:Int)),(8,I x)],[]⟩) h ?_ ?_
 ·exact aj.lq [] J J J
 ·intro n2 z1 aK J1 iV h lK fV
  obtain rfl:=iV
  replace h:dw ab fX n2=some z1:=h
  unfold dw at h
  refine aF<|ae.qv (cu J J) J<|rN<|tS<|cD h J (fun h=>?_) (fun h=>?_)
  ·refine tK<|tS<|aa.block<|aF<|rM J J<|rA J J<|rN<|aF<|rM J J<|rM J J<|rM J J<|aH h fun v3 e1 h=>ae.qv (cK J J J e1 J J) J<|ae.qv (bC J J J) J<|aH h fun v4 e2 h=>nQ J J (lI e2) cR J<|rN<|cB h J (fun h=>?_) (fun h=>?_)
   ·refine aF<|rM J J<|rA J J<|rN<|aa.ret<|have h:=cH h fV;?_
    cases h
    exact hP J J
   ·refine tK<|aa.cy<|tR<|ae.qv (br J J) J<|rM J J<|rN<|aa.stop<|?_
    cases h
    exact lK _ _ J<|aj.lq [] J J J
  ·refine aa.exit J<|have h:=cH h fV;aF<|rA J J<|rN<|aa.ret<|?_
   cases h
   exact hP J J
theorem nf [GI:bt] {ab:List ax} {fX:ax→Option Bool} {cY:FuncId} [ba Tryz.prog cY] {eQ:List AV} (lI:∀ {y0:_} {u:Bool},fX y0=some u→Pu Tryz.prog cY (.str y0 :: eQ) (.bool u)) {r:Bool} (h:dx ab fX=some r):Pu Tryz.prog 101 [Tq ab,.func (.func cY) eQ] (.bool r):=by
 unfold dx at h
 refine aG.bc Tryz.func101 J Tryz.ntmps101 Tryz.results101 J J ?_
 refine aF<|rA J J<|rN<|aF<|rM J J<|rM J J<|aH h fun v1 e1 h=>fR J (oq lI e1) (.cons (.co (.refl _)) (.cons (.co (.refl _)) .nil)) J J<|ae.qv (nN J J) J<|rA J J<|rN<|aa.ret<|?_
 cases h
 exact hP J J
theorem De {ab:ax} {r:Bool} (h:qU ab=some r):Pu Tryz.prog 53 [.str ab] (.bool r):=by
 unfold qU at h
 refine aG.bc Tryz.func53 J Tryz.ntmps53 Tryz.results53 J J ?_
 refine aF<|rA J J<|rN<|aF<|rM J J<|aH h fun v1 e1 h=>nT J (y8 e1) cR .nil (fun _=>J) J fun b2=>rA J J<|rN<|tS<|aa.cut (fun aK=>∃ (c3:Bool),lu c3=some r∧aK=⟨19,[(2,.bool c3)],[]⟩) ?_ ?_
 ·refine tR<|rM J J<|ae.qv (dA J) J<|ae.qv (tY J J) J<|rM J J<|gT h J J J (fun h=>?_) (fun h=>?_)
  ·refine rM J J<|rY J J J<|ae.qv (iN J) J<|rY J J J<|ae.qv (tY J J) J<|rT J J J<|rM J J<|gT h J J J (fun h=>?_) (fun h=>?_)
   ·exact rM J J<|rY J J J<|aH h fun v4 e2 h=>fR J (nf (fun e=>zi e) e2) (.cons (qd.qJ .p0) (.cons (.rD _ _ _ .nil) .nil)) J J<|rY J J J<|ae.qv (cq J) J<|rT J J J<|rA J J<|rN<|aa.stop<|aj.lq [] ⟨!v4,h,J⟩ J J
   ·exact rG J J J J<|rG J J J J<|rE J J J<|rA J J<|rN<|aa.stop<|aj.lq [] ⟨false,h,J⟩ J J
  ·exact rG J J J J<|rG J J J J<|rE J J J<|rM J J<|rG J J J J<|rG J J J J<|rG J J J J<|rE J J J<|rA J J<|rN<|aa.stop<|aj.lq [] ⟨false,h,J⟩ J J
 ·rintro aK ⟨c3,h,rfl⟩
  unfold lu at h
  refine aa.ret<|?_
  cases h
  exact hP J J
theorem zj {ab:List Model} {r:Int} (h:lv ab=some r):Pu Tryz.prog 15 [sa ab] (I r):=by
 unfold lv at h
 refine aG.bc Tryz.func15 J Tryz.ntmps15 Tryz.results15 J J ?_
 refine aF<|rA J J<|rN<|tS<|aF<|rM J J<|ae.qv (fS J) J<|ae.qv (jF J J) J<|rN<|cD h J (fun h=>?_) (fun h=>?_)
 ·refine aF<|rA J J<|rN<|aa.ret<|?_
  cases h
  exact hP J J
 ·refine tK<|tS<|aF<|rM J J<|ae.qv (fS J) J<|rM J J<|rN<|aa.block<|aa.ff (fun x:Int=>fa ab x) (fun x aK=>aK=⟨127,[(0,sa ab),(11,sa ab),(12,I (ab.length:Int)),(13,I x)],[]⟩) h ?_ ?_
  ·exact aj.lq [] J J J
  ·intro n2 z1 aK J1 iV h lK fV
   obtain rfl:=iV
   replace h:fa ab n2=some z1:=h
   unfold fa at h
   refine aF<|ae.qv (cu J J) J<|rN<|tS<|cD h J (fun h=>?_) (fun h=>?_)
   ·refine tK<|tS<|aa.block<|aF<|rM J J<|aH h fun v3 e1 h=>ae.qv (cK J J J e1 J J) J<|ae.qv (bn J J J) J<|fj J J J J fun b4=>rA J J<|aD J J J J .p0 J J<|rN<|tS<|aa.block<|aF<|rF J J J<|rL J J .p0 J J<|aH h fun v5 e2 h=>aL J (vk e2) cR J<|ae.qv (cq J) J<|rA J J<|rN<|cB h J (fun h=>?_) (fun h=>?_)
    ·refine aF<|rA J J<|rN<|aa.ret<|have h:=cH h fV;?_
     cases h
     exact hP J J
    ·refine tS<|aa.cut (fun aK=>∃ (c6:Bool),iH ab n2 v3 c6=some z1∧aK=⟨127,[(0,sa ab),(3,I n2),(4,.ptr b4 0),(11,sa ab),(12,I (ab.length:Int)),(13,I n2),(23,.bool c6)],[(b4,.cells [.str v3.Key,.str v3.Prefix,Bj v3.bf])]⟩) ?_ ?_
     ·refine aa.bQ (id:=8) (A:=[0,1,3,7,15,7,7,71,231,487,999,2047,4095,8191]) 14 mixed J (by kernel_rfl) (by kernel_rfl)<|AM.qv (aq J) J<|AM.qv (jF J J) J<|AM.qv (aq J) J<|AM.bV J J J (fun hc=>?_) (fun hc=>?_)
      ·exact have h:=kM hc h;AM.qv (au J J) J<|AM.ar J J J<|AM.qv (az J J .p0 J) J<|AM.ar J J J<|AM.qv (aq J) J<|AM.ar J J J<|AM.qv (aq J) J<|AM.ar J J J<|AM.qv (dm J J) J<|AM.ar J J J<|aH h fun v7 e3 h=>AM.qv (cK J J J e3 J J) J<|AM.ar J J J<|AM.qv (fk J J) J<|AM.ar J J J<|AM.qv (bC J J J) J<|AM.ar J J J<|AM.qv (CO J J) J<|AM.qv (cJ J J) J<|AM.qv (bd J) J<|AM.nil<|rN<|aa.stop<|aj.lq [0] ⟨Op.bytesLess v3.Key v7.Key||v3.Key==v7.Key,h,J⟩ J J
      ·exact have h:=uj hc h;AM.aB J J J J<|AM.aB J J J J<|AM.aB J J J J<|AM.aB J J J J<|AM.aB J J J J<|AM.aB J J J J<|AM.aB J J J J<|AM.aB J J J J<|AM.qv (cm J J) J<|AM.qv (bd J) J<|AM.nil<|rN<|aa.stop<|aj.lq [0] ⟨false,h,J⟩ J J
     ·rintro aK ⟨c6,h,rfl⟩
      unfold iH at h
      refine cB h J (fun h=>?_) (fun h=>?_)
      ·refine aF<|rA J J<|rN<|aa.ret<|have h:=cH h fV;?_
       cases h
       exact hP J J
      ·refine tS<|aa.cut (fun aK=>∃ (c8:Bool),iG ab n2 v3 c8=some z1∧aK=⟨127,[(0,sa ab),(3,I n2),(4,.ptr b4 0),(11,sa ab),(12,I (ab.length:Int)),(13,I n2),(37,.bool c8)],[(b4,.cells [.str v3.Key,.str v3.Prefix,Bj v3.bf])]⟩) ?_ ?_
       ·refine aa.bQ (id:=10) (A:=[0,1,3,7,15,31,63,127,63,511,1023,2047,4095]) 13 mixed J (by kernel_rfl) (by kernel_rfl)<|AM.qv (au J J) J<|AM.qv (az J J .p0 J) J<|AM.qv (dA J) J<|AM.oE J (oo J) cR J<|AM.qv (cq J) J<|AM.qv (aq J) J<|AM.guard J J J (fun hc=>?_) (fun hc=>?_)
        ·exact have h:=mR hc h;AM.qv (au J J) J<|AM.ar J J J<|AM.qv (az J J .p0 J) J<|AM.ar J J J<|aH h fun v9 e4 h=>AM.oE J (xk e4) cR J<|AM.ar J J J<|aH h fun v10 e5 h=>AM.oE J (jM e5) cR J<|AM.ar J J J<|AM.qv (zN J J) J<|AM.qv (cm J J) J<|AM.qv (bd J) J<|AM.nil<|rN<|aa.stop<|aj.lq [0] ⟨decide (v10≠([]:ax)),h,J⟩ J J
        ·exact have h:=kM hc h;AM.aB J J J J<|AM.aB J J J J<|AM.aB J J J J<|AM.aB J J J J<|AM.qv (cJ J J) J<|AM.qv (bd J) J<|AM.nil<|rN<|aa.stop<|aj.lq [0] ⟨true,h,J⟩ J J
       ·rintro aK ⟨c8,h,rfl⟩
        unfold iG at h
        refine cB h J (fun h=>?_) (fun h=>?_)
        ·refine aF<|rA J J<|rN<|aa.ret<|have h:=cH h fV;?_
         cases h
         exact hP J J
        ·refine aF<|rM J J<|rM J J<|aH h fun tL e6 h=>ae.qv (wS J J .none (.some _ _ _ J) J J e6) J<|ae.qv (gG J) J<|aH h fun v12 e7 h=>fR J (iY (fun e=>wG (Option.some.inj e)) e7) (.cons (.co (.refl _)) (.cons (.rD _ _ _ (.cons (.xX _ _ _ .p0 (.cons (.co (.refl _)) (.cons (.co (.refl _)) (.cons (.co (.refl _)) .nil)))) .nil)) .nil)) J J<|rA J J<|rN<|cB h J (fun h=>?_) (fun h=>?_)
         ·refine aF<|rA J J<|rN<|aa.ret<|have h:=cH h fV;?_
          cases h
          exact hP J J
         ·refine aF<|rF J J J<|rL J J .p0 J J<|ae.qv (fS J) J<|ae.qv (jF J J) J<|rA J J<|rN<|cD h J (fun h=>?_) (fun h=>?_)
          ·refine aF<|rA J J<|rN<|aa.ret<|have h:=cH h fV;?_
           cases h
           exact hP J J
          ·refine tK<|aa.cy<|aF<|rF J J J<|rL J J .p0 J J<|ae.qv (fS J) J<|rM J J<|rN<|aa.block<|aa.ff (fun x:Int=>ej n2 v3 x) (fun x aK=>aK=⟨127,[(0,sa ab),(4,.ptr b4 0),(11,sa ab),(12,I (ab.length:Int)),(13,I n2),(62,Bj v3.bf),(63,I (v3.bf.length:Int)),(64,I x)],[(b4,.cells [.str v3.Key,.str v3.Prefix,Bj v3.bf])]⟩) h ?_ ?_
           ·exact aj.lq [0] J J J
           ·intro n14 z2 aK J2 iV h O5 IT
            obtain rfl:=iV
            replace h:ej n2 v3 n14=some z2:=h
            unfold ej at h
            refine aF<|ae.qv (cu J J) J<|rN<|tS<|cD h J (fun h=>?_) (fun h=>?_)
            ·refine tK<|tS<|aa.block<|aF<|rM J J<|aH h fun pI e8 h=>ae.qv (cK J J J e8 J J) J<|ae.qv (bn J J J) J<|fj J J J J fun F2=>rA J J<|aD J J J J .p0 J J<|rN<|aF<|rF J J J<|rL J J .p0 J J<|ae.qv (bM J J) J<|rA J J<|rN<|aa.block<|aF<|rF J J J<|rL J J .p0 J J<|aH h fun v17 e9 h=>aL J (De e9) cR J<|ae.qv (cq J) J<|rA J J<|rN<|cB h J (fun h=>?_) (fun h=>?_)
             ·refine aF<|rA J J<|rN<|aa.ret<|have h:=cH h IT;have h:=cH h fV;?_
              cases h
              exact hP J J
             ·refine tS<|aa.cut (fun aK=>∃ (RS:Bool),iF n14 pI RS=some z2∧aK=⟨127,[(0,sa ab),(4,.ptr b4 0),(6,.ptr F2 0),(7,.bool (decide (pI.Kind=(2:Int)))),(11,sa ab),(12,I (ab.length:Int)),(13,I n2),(62,Bj v3.bf),(63,I (v3.bf.length:Int)),(64,I n14),(77,.bool RS)],[(b4,.cells [.str v3.Key,.str v3.Prefix,Bj v3.bf]),(F2,.cells (Tr pI))]⟩) ?_ ?_
              ·refine aa.bQ (id:=22) (A:=[0,1,3,7,15,7,39,7,135,487,999,2023,4095,8191,16383]) 15 mixed J (by kernel_rfl) (by kernel_rfl)<|AM.qv (aq J) J<|AM.qv (jF J J) J<|AM.qv (aq J) J<|AM.bV J J J (fun hc=>?_) (fun hc=>?_)
               ·exact have h:=kM hc h;AM.qv (au J J) J<|AM.ar J J J<|AM.qv (az J J .p0 J) J<|AM.ar J J J<|AM.qv (au J J) J<|AM.ar J J J<|AM.qv (az J J .p1 J) J<|AM.ar J J J<|AM.qv (aq J) J<|AM.ar J J J<|AM.qv (dm J J) J<|AM.ar J J J<|aH h fun tJ Ft h=>AM.qv (cK J J J Ft J J) J<|AM.ar J J J<|AM.qv (fk J J) J<|AM.ar J J J<|AM.qv (bC J J J) J<|AM.ar J J J<|AM.qv (CO J J) J<|AM.qv (cJ J J) J<|AM.qv (bd J) J<|AM.nil<|rN<|aa.stop<|aj.lq [1,0] ⟨Op.bytesLess pI.Name tJ.Name||pI.Name==tJ.Name,h,J⟩ J J
               ·exact have h:=uj hc h;AM.aB J J J J<|AM.aB J J J J<|AM.aB J J J J<|AM.aB J J J J<|AM.aB J J J J<|AM.aB J J J J<|AM.aB J J J J<|AM.aB J J J J<|AM.aB J J J J<|AM.qv (cm J J) J<|AM.qv (bd J) J<|AM.nil<|rN<|aa.stop<|aj.lq [1,0] ⟨false,h,J⟩ J J
              ·rintro aK ⟨RS,h,rfl⟩
               unfold iF at h
               refine cB h J (fun h=>?_) (fun h=>?_)
               ·refine aF<|rA J J<|rN<|aa.ret<|have h:=cH h IT;have h:=cH h fV;?_
                cases h
                exact hP J J
               ·refine aF<|rF J J J<|rL J J .p1 J J<|aL J (oo J) cR J<|ae.qv (cq J) J<|rA J J<|rN<|cB h J (fun h=>?_) (fun h=>?_)
                ·refine aF<|rA J J<|rN<|aa.ret<|have h:=cH h IT;have h:=cH h fV;?_
                 cases h
                 exact hP J J
                ·refine tS<|aa.cut (fun aK=>∃ (RR:Bool),mw n14 pI RR=some z2∧aK=⟨127,[(0,sa ab),(4,.ptr b4 0),(6,.ptr F2 0),(7,.bool (decide (pI.Kind=(2:Int)))),(11,sa ab),(12,I (ab.length:Int)),(13,I n2),(62,Bj v3.bf),(63,I (v3.bf.length:Int)),(64,I n14),(97,.bool RR)],[(b4,.cells [.str v3.Key,.str v3.Prefix,Bj v3.bf]),(F2,.cells (Tr pI))]⟩) ?_ ?_
                 ·refine tR<|rM J J<|rM J J<|ae.bV J J J (fun hc=>?_) (fun hc=>?_)
                  ·rw [oF hc] at h
                   refine rF J J J<|rY J J J<|rL J J .p1 J J<|rY J J J<|rF J J J<|rY J J J<|rL J J .p1 J J<|rY J J J<|aL J (oo J) cR J<|rY J J J<|ae.qv (cq J) J<|rY J J J<|rM J J<|ae.guard J J J (fun hc=>?_) (fun hc=>?_)
                   ·rw [FB hc] at h
                    exact rF J J J<|rY J J J<|rL J J .p1 J J<|rY J J J<|ae.qv (jF J J) J<|rY J J J<|rE J J J<|rT J J J<|rA J J<|rN<|aa.stop<|aj.lq [0,0] ⟨decide ((1000000000:Int) < pI.iO),h,J⟩ J J
                   ·rw [FA hc] at h
                    exact rG J J J J<|rG J J J J<|rY J J J<|rT J J J<|rT J J J<|rA J J<|rN<|aa.stop<|aj.lq [0,0] ⟨true,h,J⟩ J J
                  ·rw [oG hc] at h
                   exact rG J J J J<|rG J J J J<|rG J J J J<|rG J J J J<|rG J J J J<|rG J J J J<|ae.aX J J J<|ae.aX J J J<|ae.aX J J J<|rG J J J J<|rE J J J<|rA J J<|rN<|aa.stop<|aj.lq [0,0] ⟨false,h,J⟩ J J
                 ·rintro aK ⟨RR,h,rfl⟩
                  unfold mw at h
                  refine cB h J (fun h=>?_) (fun h=>?_)
                  ·refine aF<|rA J J<|rN<|aa.ret<|have h:=cH h IT;have h:=cH h fV;?_
                   cases h
                   exact hP J J
                  ·refine tS<|aa.cut (fun aK=>∃ (RQ:Bool),mu n14 RQ=some z2∧aK=⟨127,[(0,sa ab),(4,.ptr b4 0),(11,sa ab),(12,I (ab.length:Int)),(13,I n2),(62,Bj v3.bf),(63,I (v3.bf.length:Int)),(64,I n14),(112,.bool RQ)],[(b4,.cells [.str v3.Key,.str v3.Prefix,Bj v3.bf])]⟩) ?_ ?_
                   ·refine tR<|rM J J<|ae.qv (rH J) J<|rM J J<|ae.bV J J J (fun hc=>?_) (fun hc=>?_)
                    ·rw [oF hc] at h
                     refine rF J J J<|rY J J J<|rL J J .p1 J J<|rY J J J<|ae.qv (fe J J) J<|rY J J J<|rM J J<|ae.iK J J J (fun hc=>?_) (fun hc=>?_)
                     ·rw [HD hc] at h
                      exact rF J J J<|rY J J J<|rL J J .p1 J J<|rY J J J<|ae.qv (fe J J) J<|rY J J J<|rE J J J<|rT J J J<|rA J J<|rN<|aa.stop<|aj.lq [0] ⟨decide (pI.iO≠(0:Int)),h,J⟩ J J
                     ·rw [HC hc] at h
                      exact rG J J J J<|rG J J J J<|rY J J J<|rT J J J<|rT J J J<|rA J J<|rN<|aa.stop<|aj.lq [0] ⟨true,h,J⟩ J J
                    ·rw [oG hc] at h
                     exact rG J J J J<|rG J J J J<|rG J J J J<|ae.aX J J J<|ae.aX J J J<|ae.aX J J J<|rG J J J J<|rE J J J<|rA J J<|rN<|aa.stop<|aj.lq [0] ⟨false,h,J⟩ J J
                   ·rintro aK ⟨RQ,h,rfl⟩
                    unfold mu at h
                    refine cB h J (fun h=>?_) (fun h=>?_)
                    ·refine aF<|rA J J<|rN<|aa.ret<|have h:=cH h IT;have h:=cH h fV;?_
                     cases h
                     exact hP J J
                    ·refine tK<|aa.cy<|aa.cy<|tR<|ae.qv (br J J) J<|rM J J<|rN<|aa.stop<|?_
                     cases h
                     exact O5 _ _ J<|aj.lq [0] J J J
            ·refine aa.exit J<|have h:=cH h IT;aa.cy<|tR<|ae.qv (br J J) J<|rM J J<|rN<|aa.stop<|?_
             cases h
             exact lK _ _ J<|aj.lq [] J J J
   ·refine aa.exit J<|have h:=cH h fV;aF<|rA J J<|rN<|aa.ret<|?_
    cases h
    exact hP J J
theorem tC [GI:bt] {ab:Int} {r:Int} (h:dB ab=r):Pu Tryz.prog 28 [I ab] (I r):=by
 unfold dB at h
 refine aG.bc Tryz.func28 J Tryz.ntmps28 Tryz.results28 J J ?_
 refine aF<|rA J J<|rN<|tS<|aF<|rM J J<|aL J (oo J) cR J<|ae.qv (cq J) J<|rN<|cB h J (fun h=>?_) (fun h=>?_)
 ·refine aF<|rA J J<|rN<|aa.ret<|?_
  obtain rfl:=h
  exact hP J J
 ·refine tK<|aF<|rA J J<|rN<|aa.ret<|?_
  obtain rfl:=h
  exact hP J J
theorem AJ [GI:bt] {ab:Model} {ah:ax} {r:Bool} (h:qh ab ah=r):Pu Tryz.prog 193 [Model.av ab,.ji [.str ah]] (.bool r):=by
 unfold qh at h
 refine aG.bc Tryz.func193 J Tryz.ntmps193 Tryz.results193 J J ?_
 refine aF<|de J J J J fun b1=>rA J J<|rN<|aF<|rF J J J<|rL J J .p0 J J<|ae.qv (bC J J J) J<|ae.qv (gr J J) J<|rA J J<|rN<|aa.ret<|?_
 obtain rfl:=h
 exact hP J J
theorem EV [GI:bt] {ab:List Model} {ah:ax} {r:Int} (h:sH ab ah=some r):Pu Tryz.prog 149 [sa ab,.str ah] (I r):=by
 unfold sH at h
 refine aG.bc Tryz.func149 J Tryz.ntmps149 Tryz.results149 J J ?_
 refine aF<|de J J J J fun b1=>rA J J<|rN<|aF<|rM J J<|ae.qv (gG J) J<|aH h fun v2 e1 h=>fR J (gj (fun e=>AJ (Option.some.inj e)) e1) (.cons (.co (.refl _)) (.cons (.rD _ _ _ (.cons (.xX _ _ _ .p0 (.cons (.co (.refl _)) .nil)) .nil)) .nil)) J J<|rA J J<|rN<|aa.ret<|?_
 cases h
 exact hP J J
theorem sd {ab:ax} {r:Bool} (h:lT ab=some r):Pu Tryz.prog 65 [.str ab] (.bool r):=by
 unfold lT at h
 refine aG.bc Tryz.func65 J Tryz.ntmps65 Tryz.results65 J J ?_
 refine aF<|rA J J<|rN<|tS<|aa.cut (fun aK=>∃ (c1:Bool),lS c1=some r∧aK=⟨11,[(2,.bool c1)],[]⟩) ?_ ?_
 ·refine tR<|rM J J<|ae.qv (dA J) J<|aL J (oo J) cR J<|rM J J<|ae.guard J J J (fun hc=>?_) (fun hc=>?_)
  ·exact have h:=kM hc h;rM J J<|rY J J J<|aH h fun v2 e1 h=>aL J (jM e1) cR J<|rY J J J<|ae.qv (gr J J) J<|rT J J J<|rA J J<|rN<|aa.stop<|aj.lq [] ⟨decide (v2=([]:ax)),h,J⟩ J J
  ·exact have h:=mR hc h;rG J J J J<|rG J J J J<|rE J J J<|rA J J<|rN<|aa.stop<|aj.lq [] ⟨false,h,J⟩ J J
 ·rintro aK ⟨c1,h,rfl⟩
  unfold lS at h
  refine aa.ret<|?_
  cases h
  exact hP J J
theorem xB {ab:ax} {r:Int} (h:nz ab=some r):Pu Tryz.prog 26 [.str ab] (I r):=by
 unfold nz at h
 refine aG.bc Tryz.func26 J Tryz.ntmps26 Tryz.results26 J J ?_
 refine aF<|rA J J<|rN<|tS<|aF<|rM J J<|aH h fun v1 e1 h=>aL J (vk e1) cR J<|ae.qv (cq J) J<|rN<|cB h J (fun h=>?_) (fun h=>?_)
 ·refine aF<|rA J J<|rN<|aa.ret<|?_
  cases h
  exact hP J J
 ·refine tK<|aF<|rA J J<|rN<|aa.ret<|?_
  cases h
  exact hP J J
theorem yl [GI:bt] {ab:Version} {r:Bool} (h:nZ ab=r):Pu Tryz.prog 150 [Version.av ab] (.bool r):=by
 unfold nZ at h
 refine aG.bc Tryz.func150 J Tryz.ntmps150 Tryz.results150 J J ?_
 refine aF<|de J J J J fun b1=>rA J J<|rN<|tS<|aa.cut (fun aK=>∃ (c2:Bool),nY c2=r∧aK=⟨16,[(2,.bool c2)],[]⟩) ?_ ?_
 ·refine tR<|rF J J J<|rL J J .p0 J J<|aL J (oo J) cR J<|rM J J<|ae.guard J J J (fun hc=>?_) (fun hc=>?_)
  ·rw [wU hc] at h
   refine rF J J J<|rY J J J<|rL J J .p0 J J<|rY J J J<|aL J (oo J) cR J<|rT J J J<|rM J J<|ae.guard J J J (fun hc=>?_) (fun hc=>?_)
   ·rw [wU hc] at h
    exact rF J J J<|rY J J J<|rL J J .p0 J J<|rY J J J<|aL J (oo J) cR J<|rT J J J<|rA J J<|rN<|aa.stop<|aj.lq [] ⟨(sE ab.dY (0:Int) (9999:Int)),h,J⟩ J J
   ·rw [wV hc] at h
    exact rG J J J J<|rG J J J J<|rE J J J<|rA J J<|rN<|aa.stop<|aj.lq [] ⟨false,h,J⟩ J J
  ·rw [wV hc] at h
   exact rG J J J J<|rG J J J J<|rE J J J<|rM J J<|rG J J J J<|rG J J J J<|rG J J J J<|rE J J J<|rA J J<|rN<|aa.stop<|aj.lq [] ⟨false,h,J⟩ J J
 ·rintro aK ⟨c2,h,rfl⟩
  unfold nY at h
  refine aa.ret<|?_
  obtain rfl:=h
  exact hP J J
theorem Ij {ab:ax} {r:Bool} (h:xn ab=some r):Pu Tryz.prog 151 [.str ab] (.bool r):=by
 unfold xn at h
 refine aG.bc Tryz.func151 J Tryz.ntmps151 Tryz.results151 J J ?_
 refine aF<|rA J J<|rN<|tS<|aF<|rM J J<|HU J J<|ae.qv (fS J) J<|rM J J<|rN<|aa.block<|aa.ff (fun x:Int=>kF ab x) (fun x aK=>aK=⟨32,[(0,.str ab),(6,R5 (kr ab)),(7,I ((kr ab).length:Int)),(8,I x)],[]⟩) h ?_ ?_
 ·exact aj.lq [] J J J
 ·intro n2 z1 aK J1 iV h lK fV
  obtain rfl:=iV
  replace h:kF ab n2=some z1:=h
  unfold kF at h
  refine aF<|ae.qv (cu J J) J<|rN<|tS<|cD h J (fun h=>?_) (fun h=>?_)
  ·refine tK<|tS<|aa.block<|aF<|aH h fun v3 e1 h=>ae.qv (cK J J J e1 J J) J<|ae.qv (bC J J J) J<|rA J J<|rN<|tS<|aa.cut (fun aK=>∃ (c4:Bool),ti n2 c4=some z1∧aK=⟨32,[(0,.str ab),(6,R5 (kr ab)),(7,I ((kr ab).length:Int)),(8,I n2),(17,.bool c4)],[]⟩) ?_ ?_
   ·refine tR<|rM J J<|ae.qv (cu J J) J<|rM J J<|ae.iK J J J (fun hc=>?_) (fun hc=>?_)
    ·rw [HD hc] at h
     exact rM J J<|rY J J J<|ae.qv (bM J J) J<|rE J J J<|rN<|aa.stop<|aj.lq [] ⟨decide (v3=(127:Int)),h,J⟩ J J
    ·rw [HC hc] at h
     exact rG J J J J<|rT J J J<|rN<|aa.stop<|aj.lq [] ⟨true,h,J⟩ J J
   ·rintro aK ⟨c4,h,rfl⟩
    unfold ti at h
    refine cB h J (fun h=>?_) (fun h=>?_)
    ·refine aF<|rA J J<|rN<|aa.ret<|have h:=cH h fV;?_
     cases h
     exact hP J J
    ·refine tK<|aa.cy<|tR<|ae.qv (br J J) J<|rM J J<|rN<|aa.stop<|?_
     cases h
     exact lK _ _ J<|aj.lq [] J J J
  ·refine aa.exit J<|have h:=cH h fV;?_
   unfold tj at h
   refine tS<|aa.cut (fun aK=>∃ (c5:Bool),oW c5=some r∧aK=⟨32,[(2,.bool c5)],[]⟩) ?_ ?_
   ·refine tR<|rM J J<|aH h fun v6 e2 h=>aL J (qQ e2) cR J<|rM J J<|ae.guard J J J (fun hc=>?_) (fun hc=>?_)
    ·refine have h:=kM hc h;rM J J<|rY J J J<|rM J J<|rY J J J<|aH h fun v7 e3 h=>aL J (jM e3) cR J<|rY J J J<|ae.qv (gr J J) J<|rT J J J<|rM J J<|gT h J J J (fun h=>?_) (fun h=>?_)
     ·exact rM J J<|rY J J J<|aH h fun v8 e4 h=>aL J (nA e4) cR J<|rY J J J<|ae.qv (cq J) J<|rT J J J<|rA J J<|rN<|aa.stop<|aj.lq [] ⟨!v8,h,J⟩ J J
     ·exact rG J J J J<|rG J J J J<|rE J J J<|rA J J<|rN<|aa.stop<|aj.lq [] ⟨false,h,J⟩ J J
    ·exact have h:=mR hc h;rG J J J J<|rG J J J J<|rG J J J J<|rE J J J<|rM J J<|rG J J J J<|rG J J J J<|rG J J J J<|rE J J J<|rA J J<|rN<|aa.stop<|aj.lq [] ⟨false,h,J⟩ J J
   ·rintro aK ⟨c5,h,rfl⟩
    unfold oW at h
    refine aa.ret<|?_
    cases h
    exact hP J J
theorem Df {ab:List Model} {ah:ai} {r:Int} (h:qV ab ah=some r):Pu Tryz.prog 103 [sa ab,ai.av ah] (I r):=by
 unfold qV at h
 refine aG.bc Tryz.func103 J Tryz.ntmps103 Tryz.results103 J J ?_
 refine aF<|de J J J J fun b1=>rA J J<|rN<|tS<|aF<|rF J J J<|rL J J .p0 J J<|rN<|aa.block<|aF<|ae.qv (bM J J) J<|rA J J<|rN<|aa.cut (fun aK=>o7=some r∧aK=⟨64,[],[]⟩) ?_ ?_
 ·refine cD h J (fun h=>?_) (fun h=>?_)
  ·refine aa.block<|aF<|rM J J<|rF J J J<|rL J J .p0 J J<|aH h fun v2 e1 h=>aL J (EV e1) cR J<|ae.qv (cu J J) J<|rA J J<|rN<|cD h J (fun h=>?_) (fun h=>?_)
   ·refine aF<|rA J J<|rN<|aa.ret<|?_
    cases h
    exact hP J J
   ·refine aF<|rF J J J<|rL J J .p0 J J<|aL J (oo J) cR J<|ae.qv (cq J) J<|rA J J<|rN<|cB h J (fun h=>?_) (fun h=>?_)
    ·refine aF<|rA J J<|rN<|aa.ret<|?_
     cases h
     exact hP J J
    ·refine aF<|rF J J J<|rL J J .p0 J J<|aH h fun v3 e2 h=>aL J (sd e2) cR J<|ae.qv (cq J) J<|rA J J<|rN<|cB h J (fun h=>?_) (fun h=>?_)
     ·refine aF<|rA J J<|rN<|aa.ret<|?_
      cases h
      exact hP J J
     ·exact tK<|aa.cy<|aa.stop<|aj.lq [] ⟨h,J⟩ J J
  ·refine aF<|ae.qv (bM J J) J<|rA J J<|rN<|cD h J (fun h=>?_) (fun h=>?_)
   ·refine aF<|rF J J J<|rL J J .p0 J J<|aH h fun v4 e3 h=>aL J (xB e3) cR J<|rA J J<|rN<|aa.ret<|?_
    cases h
    exact hP J J
   ·refine aF<|ae.qv (bM J J) J<|rA J J<|rN<|aa.cut (fun aK=>o8=some r∧aK=⟨64,[],[]⟩) ?_ ?_
    ·refine cD h J (fun h=>?_) (fun h=>?_)
     ·refine tS<|aF<|rF J J J<|rL J J .p0 J J<|aH h fun v5 e4 h=>aL J (sd e4) cR J<|ae.qv (cq J) J<|rN<|cB h J (fun h=>?_) (fun h=>?_)
      ·refine aF<|rA J J<|rN<|aa.ret<|?_
       cases h
       exact hP J J
      ·refine tK<|aF<|rF J J J<|rL J J .p0 J J<|rF J J J<|rL J J .p0 J J<|aL J (oo J) cR J<|ae.qv (cq J) J<|rN<|cB h J (fun h=>?_) (fun h=>?_)
       ·refine aF<|rA J J<|rN<|aa.ret<|?_
        cases h
        exact hP J J
       ·exact tK<|aa.stop<|aj.lq [] ⟨h,J⟩ J J
     ·refine aF<|ae.qv (bM J J) J<|rA J J<|rN<|aa.cut (fun aK=>o9=some r∧aK=⟨64,[],[]⟩) ?_ ?_
      ·refine cD h J (fun h=>?_) (fun h=>?_)
       ·refine aF<|rF J J J<|ae.qv (cw J J .p0 J J) J<|aL J (yl J) cR J<|ae.qv (cq J) J<|rN<|cB h J (fun h=>?_) (fun h=>?_)
        ·refine aF<|rA J J<|rN<|aa.ret<|?_
         cases h
         exact hP J J
        ·exact tK<|aa.stop<|aj.lq [] ⟨h,J⟩ J J
       ·refine aF<|ae.qv (bM J J) J<|rA J J<|rN<|aa.cut (fun aK=>mY=some r∧aK=⟨64,[],[]⟩) ?_ ?_
        ·refine cD h J (fun h=>?_) (fun h=>?_)
         ·refine tS<|aF<|rF J J J<|rL J J .p0 J J<|aH h fun v6 e5 h=>aL J (vk e5) cR J<|ae.qv (cq J) J<|rN<|cB h J (fun h=>?_) (fun h=>?_)
          ·refine aF<|rA J J<|rN<|aa.ret<|?_
           cases h
           exact hP J J
          ·refine tK<|tS<|aa.cut (fun aK=>∃ (c7:Bool),pa c7=some r∧aK=⟨64,[(63,.bool c7)],[]⟩) ?_ ?_
           ·refine tR<|rF J J J<|rL J J .p0 J J<|aH h fun v8 e6 h=>aL J (Ij e6) cR J<|ae.qv (cq J) J<|rM J J<|ae.guard J J J (fun hc=>?_) (fun hc=>?_)
            ·rw [FB hc] at h
             exact rF J J J<|rY J J J<|rL J J .p0 J J<|rY J J J<|ae.qv (dA J) J<|rY J J J<|ae.qv (jF J J) J<|rE J J J<|rN<|aa.stop<|aj.lq [] ⟨decide ((100:Int) < (ah.Value.length:Int)),h,J⟩ J J
            ·rw [FA hc] at h
             exact rG J J J J<|rG J J J J<|rG J J J J<|rT J J J<|rN<|aa.stop<|aj.lq [] ⟨true,h,J⟩ J J
           ·rintro aK ⟨c7,h,rfl⟩
            unfold pa at h
            refine cB h J (fun h=>?_) (fun h=>?_)
            ·refine aF<|rA J J<|rN<|aa.ret<|?_
             cases h
             exact hP J J
            ·exact tK<|aa.stop<|aj.lq [] ⟨h,J⟩ J J
         ·exact tK<|aa.stop<|aj.lq [] ⟨h,J⟩ J J
        ·rintro aK ⟨h,rfl⟩
         unfold mY at h
         exact aa.stop<|aj.lq [] ⟨h,J⟩ J J
      ·rintro aK ⟨h,rfl⟩
       unfold o9 at h
       exact aa.stop<|aj.lq [] ⟨h,J⟩ J J
    ·rintro aK ⟨h,rfl⟩
     unfold o8 at h
     exact aa.stop<|aj.lq [] ⟨h,J⟩ J J
 ·rintro aK ⟨h,rfl⟩
  unfold o7 at h
  refine aa.cy<|aF<|rA J J<|rN<|aa.ret<|?_
  cases h
  exact hP J J
theorem BD [GI:bt] {ab:Int} {r:ax} (h:rQ ab=some r):Pu Tryz.prog 104 [I ab] (.str r):=by
 unfold rQ at h
 refine aG.bc Tryz.func104 J Tryz.ntmps104 Tryz.results104 J J ?_
 refine aF<|rA J J<|rN<|aF<|aR (xs:=([([]:ax),([109,115,107]:ax),([116]:ax),([]:ax),([107,117]:ax),([102]:ax),([110,118]:ax),([]:ax),([]:ax),([]:ax)]).map AV.str) J J J J J J<|rM J J<|aH h fun v1 e1 h=>ae.qv (cK J J J e1 J J) J<|ae.qv (bC J J J) J<|rA J J<|rN<|aa.ret<|?_
 cases h
 exact hP J J
theorem AK {ab:List Model} {ah:ai} {r:Int} (h:oc ab ah=some r):Pu Tryz.prog 54 [sa ab,ai.av ah] (I r):=by
 unfold oc at h
 refine aG.bc Tryz.func54 J Tryz.ntmps54 Tryz.results54 J J ?_
 refine aF<|de J J J J fun b1=>rA J J<|rN<|tS<|aa.block<|aF<|rF J J J<|rL J J .p0 J J<|aH h fun v2 e1 h=>aL J (vk e1) cR J<|ae.qv (cq J) J<|rA J J<|rN<|cB h J (fun h=>?_) (fun h=>?_)
 ·refine aF<|rA J J<|rN<|aa.ret<|?_
  cases h
  exact hP J J
 ·refine tS<|aa.cut (fun aK=>∃ (c3:Bool),nt ab ah c3=some r∧aK=⟨92,[(0,sa ab),(3,.ptr b1 0),(14,.bool c3)],[(b1,.cells (Bl ah))]⟩) ?_ ?_
  ·refine tR<|rF J J J<|rL J J .p0 J J<|aL J (oo J) cR J<|ae.qv (cq J) J<|rM J J<|ae.guard J J J (fun hc=>?_) (fun hc=>?_)
   ·rw [FB hc] at h
    refine rF J J J<|rY J J J<|rL J J .p0 J J<|rY J J J<|rF J J J<|rY J J J<|rL J J .p0 J J<|rY J J J<|aL J (oo J) cR J<|rY J J J<|ae.qv (cq J) J<|rE J J J<|rM J J<|ae.guard J J J (fun hc=>?_) (fun hc=>?_)
    ·rw [FB hc] at h
     exact rF J J J<|rY J J J<|rL J J .p0 J J<|rY J J J<|aL J (tC J) cR J<|rY J J J<|ae.qv (fe J J) J<|rE J J J<|rA J J<|rN<|aa.stop<|aj.lq [0] ⟨decide ((dB ah.At)≠(0:Int)),h,J⟩ J J
    ·rw [FA hc] at h
     exact rG J J J J<|rG J J J J<|rG J J J J<|rT J J J<|rA J J<|rN<|aa.stop<|aj.lq [0] ⟨true,h,J⟩ J J
   ·rw [FA hc] at h
    exact rG J J J J<|rG J J J J<|rG J J J J<|rG J J J J<|rG J J J J<|rT J J J<|rM J J<|rG J J J J<|rG J J J J<|rG J J J J<|rG J J J J<|rT J J J<|rA J J<|rN<|aa.stop<|aj.lq [0] ⟨true,h,J⟩ J J
  ·rintro aK ⟨c3,h,rfl⟩
   unfold nt at h
   refine cB h J (fun h=>?_) (fun h=>?_)
   ·refine aF<|rA J J<|rN<|aa.ret<|?_
    cases h
    exact hP J J
   ·refine aF<|rF J J J<|rL J J .p0 J J<|aL J (oo J) cR J<|ae.qv (cq J) J<|rA J J<|rN<|cB h J (fun h=>?_) (fun h=>?_)
    ·refine aF<|rA J J<|rN<|aa.ret<|?_
     cases h
     exact hP J J
    ·refine aF<|rF J J J<|rL J J .p0 J J<|aH h fun v4 e2 h=>aL J (vk e2) cR J<|ae.qv (cq J) J<|rA J J<|rN<|cB h J (fun h=>?_) (fun h=>?_)
     ·refine aF<|rA J J<|rN<|aa.ret<|?_
      cases h
      exact hP J J
     ·refine tK<|aa.cy<|tS<|aF<|rM J J<|ae.qv (aU J J .p0 J) J<|aH h fun v5 e3 h=>aL J (Df e3) cR J<|rA J J<|rN<|aF<|rM J J<|ae.qv (fe J J) J<|rN<|cD h J (fun h=>?_) (fun h=>?_)
      ·refine aF<|rM J J<|rA J J<|rN<|aa.ret<|?_
       cases h
       exact hP J J
      ·refine tK<|aF<|rF J J J<|rL J J .p0 J J<|aH h fun v6 e4 h=>aL J (BD e4) cR J<|rA J J<|rN<|tS<|tS<|aa.Mp (id:=13) (A:=[0,0,2,6,15,0,32,96,225,0,512,1536,3585,0,8192,24576,57345,0,131072,393216,917505,0,2097152,0,14680064,31457281,0,67108864,201326592,469762049,0,1073741824,3221225472,7516192769,17179869183,34359738367]) 34 mixed J (by kernel_rfl) (by kernel_rfl) 0 [(0,52)] AV.str AV.bool ([(4,([109]:ax),decide (ah.Model≠([]:ax))),(8,([115]:ax),decide (ah.aC≠(0:Int))),(12,([107]:ax),decide (ah.Key≠([]:ax))),(16,([116]:ax),decide (ah.aO≠([]:ax))),(20,([117]:ax),decide (ah.bj≠(0:Int))),(25,([102]:ax),decide (ah.an≠(⟨(0:Int),(0:Int),(0:Int)⟩:Version))),(29,([110]:ax),decide (ah.Name≠([]:ax))),(33,([118]:ax),decide (ah.Value≠([]:ax)))]:List (Nat×ax×Bool)) J J J<|AL.mk [4,8,12,16,20,25,29,33] J J J J J<|AL.am 3 J J<|AM.qv (au J J) J<|AM.qv (az J J .p0 J) J<|AM.qv (zN J J) J<|AM.nil<|AL.ins (gk:=AV.str) (gv:=AV.bool) (key:=([109]:ax)) (v:=decide (ah.Model≠([]:ax))) [(0,52)] J J J J J (fun _=>J) (fun _=>J) (fun _=>J) J<|AL.am 3 J J<|AM.qv (au J J) J<|AM.qv (az J J .p0 J) J<|AM.qv (fe J J) J<|AM.nil<|AL.ins (gk:=AV.str) (gv:=AV.bool) (key:=([115]:ax)) (v:=decide (ah.aC≠(0:Int))) [(0,52)] J J J J J (fun _=>J) (fun _=>J) (fun _=>J) J<|AL.am 3 J J<|AM.qv (au J J) J<|AM.qv (az J J .p0 J) J<|AM.qv (zN J J) J<|AM.nil<|AL.ins (gk:=AV.str) (gv:=AV.bool) (key:=([107]:ax)) (v:=decide (ah.Key≠([]:ax))) [(0,52)] J J J J J (fun _=>J) (fun _=>J) (fun _=>J) J<|AL.am 3 J J<|AM.qv (au J J) J<|AM.qv (az J J .p0 J) J<|AM.qv (zN J J) J<|AM.nil<|AL.ins (gk:=AV.str) (gv:=AV.bool) (key:=([116]:ax)) (v:=decide (ah.aO≠([]:ax))) [(0,52)] J J J J J (fun _=>J) (fun _=>J) (fun _=>J) J<|AL.am 3 J J<|AM.qv (au J J) J<|AM.qv (az J J .p0 J) J<|AM.qv (fe J J) J<|AM.nil<|AL.ins (gk:=AV.str) (gv:=AV.bool) (key:=([117]:ax)) (v:=decide (ah.bj≠(0:Int))) [(0,52)] J J J J J (fun _=>J) (fun _=>J) (fun _=>J) J<|AL.am 4 J J<|AM.qv (au J J) J<|AM.qv (cw J J .p0 J J) J<|AM.qv (cF J J J J J) J<|AM.qv (GG (g:=Version.av) (X:=ah.an) (Y:=(⟨(0:Int),(0:Int),(0:Int)⟩:Version)) J J J J J) J<|AM.nil<|AL.ins (gk:=AV.str) (gv:=AV.bool) (key:=([102]:ax)) (v:=decide (ah.an≠(⟨(0:Int),(0:Int),(0:Int)⟩:Version))) [(0,52)] J J J J J (fun _=>J) (fun _=>J) (fun _=>J) J<|AL.am 3 J J<|AM.qv (au J J) J<|AM.qv (az J J .p0 J) J<|AM.qv (zN J J) J<|AM.nil<|AL.ins (gk:=AV.str) (gv:=AV.bool) (key:=([110]:ax)) (v:=decide (ah.Name≠([]:ax))) [(0,52)] J J J J J (fun _=>J) (fun _=>J) (fun _=>J) J<|AL.am 3 J J<|AM.qv (au J J) J<|AM.qv (az J J .p0 J) J<|AM.qv (zN J J) J<|AM.nil<|AL.ins (gk:=AV.str) (gv:=AV.bool) (key:=([118]:ax)) (v:=decide (ah.Value≠([]:ax))) [(0,52)] J J J J J (fun _=>J) (fun _=>J) (fun _=>J) J<|AL.nil fun b7=>ae.ghost<|aj.OI (b:=b7) (o':=VL ([(([109]:ax),decide (ah.Model≠([]:ax))),(([115]:ax),decide (ah.aC≠(0:Int))),(([107]:ax),decide (ah.Key≠([]:ax))),(([116]:ax),decide (ah.aO≠([]:ax))),(([117]:ax),decide (ah.bj≠(0:Int))),(([102]:ax),decide (ah.an≠(⟨(0:Int),(0:Int),(0:Int)⟩:Version))),(([110]:ax),decide (ah.Name≠([]:ax))),(([118]:ax),decide (ah.Value≠([]:ax)))]:List (ax×Bool))) J .p0<|aj.here<|rM J J<|w9 (M:=([(([109]:ax),decide (ah.Model≠([]:ax))),(([115]:ax),decide (ah.aC≠(0:Int))),(([107]:ax),decide (ah.Key≠([]:ax))),(([116]:ax),decide (ah.aO≠([]:ax))),(([117]:ax),decide (ah.bj≠(0:Int))),(([102]:ax),decide (ah.an≠(⟨(0:Int),(0:Int),(0:Int)⟩:Version))),(([110]:ax),decide (ah.Name≠([]:ax))),(([118]:ax),decide (ah.Value≠([]:ax)))]:List (ax×Bool))) (enc:=R6) J (fun _ _=>.p0) J fun b8 VZ Sd Se V0=>rN<|aa.block<|aa.w8 (fun e (x:Unit)=>gK v6 e) (fun x:Unit=>lf) (fun R x aK=>∃ (Da:List Nat),sB VZ Sd Da (R.map R6)∧aK=⟨92,[(6,.str v6),(79,.ptr b8 0)],[(b8,.Dx b7 Sd Da),(b7,.DC VZ Sd)]⟩) h ?_ ?_
       ·exact aj.lq [0,0] ⟨[],V0,J⟩ J J
       ·intro R1 x aK J1 iV Db Hc
        obtain ⟨Da,Dc,rfl⟩:=iV
        refine aF<|Ah J Dc .p1 (fun _=>.p0) J (fun hN=>?_) (fun Bz R' zg hP hlen xz xA=>?_)
        ·have h:=JC Db hN
         replace h:lf=_:=h
         unfold lf at h
         refine ae.ghost<|aj.ur Se .p1<|aj.here<|rX J J J<|rN<|tS<|aa.qF J<|aa.exit J<|aF<|rA J J<|rN<|aa.ret<|?_
         cases h
         exact hP J J
        ·obtain ⟨z1,h,Hd,fV⟩:=Eb Db hP
         replace h:gK v6 Bz=some z1:=h
         unfold gK at h
         have lK:=fun y aK (e:z1=.inl y) hi=>Hc R' y aK hlen (Hd y e) hi
         clear Hd hP Hc Db
         refine rX J J J<|rN<|tS<|aa.oM J<|tK<|aa.block<|aF<|ae.qv (xa J .p0 .p1 xA J J) J<|rX J J J<|rX J J J<|rA J J<|rA J J<|rN<|tS<|aa.cut (fun aK=>∃ (c9:Bool),k9 c9=some z1∧aK=⟨92,[(6,.str v6),(79,.ptr b8 0),(91,.bool c9)],[(b8,.Dx b7 Sd zg),(b7,.DC VZ Sd)]⟩) ?_ ?_
         ·refine tR<|rM J J<|rM J J<|ae.guard J J J (fun hc=>?_) (fun hc=>?_)
          ·exact have h:=kM hc h;rM J J<|rY J J J<|rM J J<|rY J J J<|aH h fun v10 e6 h=>aL J (nA e6) cR J<|rY J J J<|ae.qv (cq J) J<|rT J J J<|rN<|aa.stop<|aj.lq [0,0] ⟨!v10,h,J⟩ J J
          ·exact have h:=mR hc h;rG J J J J<|rG J J J J<|rG J J J J<|rE J J J<|rN<|aa.stop<|aj.lq [0,0] ⟨false,h,J⟩ J J
         ·rintro aK ⟨c9,h,rfl⟩
          unfold k9 at h
          refine cB h J (fun h=>?_) (fun h=>?_)
          ·refine aF<|rA J J<|rN<|aa.ghost<|aj.ur Se .p1<|aj.here<|aa.ret<|have h:=cH h fV;?_
           cases h
           exact hP J J
          ·refine tK<|aa.cy<|aa.stop<|?_
           cases h
           exact lK _ _ J<|aj.lq [0,0] ⟨zg,xz,J⟩ J J
theorem zk {ab:List Model} {ah:List ai} {r:Int} (h:jC ab ah=some r):Pu Tryz.prog 16 [sa ab,Ay ah] (I r):=by
 unfold jC at h
 refine aG.bc Tryz.func16 J Tryz.ntmps16 Tryz.results16 J J ?_
 refine aF<|rA J J<|rN<|tS<|aF<|rM J J<|ae.qv (fS J) J<|ae.qv (jF J J) J<|rN<|cD h J (fun h=>?_) (fun h=>?_)
 ·refine aF<|rA J J<|rN<|aa.ret<|?_
  cases h
  exact hP J J
 ·refine tK<|aF<|nD J fun b1=>rA J J<|rN<|tS<|aF<|rM J J<|ae.qv (fS J) J<|rM J J<|rN<|aa.block<|aa.ff (fun x:(List (ax×Int))×Int=>iI ab ah x.1 x.2) (fun x aK=>aK=⟨57,[(0,sa ab),(1,Ay ah),(5,.cd b1),(13,Ay ah),(14,I (ah.length:Int)),(15,I x.2)],[(b1,R4 x.1)]⟩) h ?_ ?_
  ·exact aj.lq [0] J J J
  ·intro x z1 aK J1 iV h lK fV
   obtain ⟨l4,n5⟩:=x
   obtain rfl:=iV
   replace h:iI ab ah l4 n5=some z1:=h
   unfold iI at h
   refine aF<|ae.qv (cu J J) J<|rN<|tS<|cD h J (fun h=>?_) (fun h=>?_)
   ·refine tK<|tS<|aa.block<|aF<|rM J J<|aH h fun v6 e1 h=>ae.qv (cK J J J e1 J J) J<|ae.qv (bn J J J) J<|fj J J J J fun b7=>rA J J<|aD J J J J .p0 J J<|rN<|tS<|aF<|rM J J<|ae.qv (aU J J .p0 J) J<|aH h fun v8 e2 h=>aL J (AK e2) cR J<|rA J J<|rN<|aF<|rM J J<|ae.qv (fe J J) J<|rN<|cD h J (fun h=>?_) (fun h=>?_)
    ·refine aF<|rM J J<|rA J J<|rN<|aa.ret<|have h:=cH h fV;?_
     cases h
     exact hP J J
    ·refine tK<|tS<|aa.block<|tS<|aa.cut (fun aK=>∃ (c9:Bool),mx l4 n5 v6 c9=some z1∧aK=⟨57,[(0,sa ab),(1,Ay ah),(5,.cd b1),(7,.ptr b7 0),(13,Ay ah),(14,I (ah.length:Int)),(15,I n5),(26,.bool c9)],[(b1,R4 l4),(b7,.cells (Bl v6))]⟩) ?_ ?_
     ·refine aa.bQ (id:=10) (A:=[0,1,3,7,7,23,63,127,7,511,1023,2047,4095]) 13 mixed J (by kernel_rfl) (by kernel_rfl)<|AM.qv (aq J) J<|AM.qv (jF J J) J<|AM.qv (aq J) J<|AM.bV J J J (fun hc=>?_) (fun hc=>?_)
      ·exact have h:=kM hc h;AM.qv (aq J) J<|AM.ar J J J<|AM.qv (aq J) J<|AM.ar J J J<|AM.qv (dm J J) J<|AM.ar J J J<|aH h fun v10 e3 h=>AM.qv (cK J J J e3 J J) J<|AM.ar J J J<|AM.qv (bn J J J) J<|AM.ar J J J<|AM.qv (aU J J .p0 J) J<|AM.ar J J J<|aH h fun v11 e4 h=>AM.oE J (uH e4) cR J<|AM.ar J J J<|AM.qv (nN J J) J<|AM.qv (cJ J J) J<|AM.qv (bd J) J<|AM.nil<|rN<|aa.stop<|aj.lq [1,0] ⟨decide ((0:Int)≤v11),h,J⟩ J J
      ·exact have h:=uj hc h;AM.aB J J J J<|AM.aB J J J J<|AM.aB J J J J<|AM.aB J J J J<|AM.aB J J J J<|AM.aB J J J J<|AM.aB J J J J<|AM.qv (cm J J) J<|AM.qv (bd J) J<|AM.nil<|rN<|aa.stop<|aj.lq [1,0] ⟨false,h,J⟩ J J
     ·rintro aK ⟨c9,h,rfl⟩
      unfold mx at h
      refine cB h J (fun h=>?_) (fun h=>?_)
      ·refine aF<|rA J J<|rN<|aa.ret<|have h:=cH h fV;?_
       cases h
       exact hP J J
      ·refine aF<|rF J J J<|rL J J .p1 J J<|rM J J<|rF J J J<|rL J J .p1 J J<|aH h fun v12 e5 h=>ae.qv (uq (gk:=AV.str) (gv:=I) (M:=l4) (key:=v6.iB) (Z:=(0:Int)) J J .p0 J J J e5 J) J<|ae.qv (br J J) J<|ae.qv (fe J J) J<|rA J J<|rN<|cD h J (fun h=>?_) (fun h=>?_)
       ·refine aF<|rA J J<|rN<|aa.ret<|have h:=cH h fV;?_
        cases h
        exact hP J J
       ·refine tK<|aa.cy<|tR<|rM J J<|rF J J J<|rL J J .p1 J J<|rF J J J<|rL J J .p1 J J<|jl (gk:=AV.str) (gv:=I) (M:=l4) (key:=v6.iB) (v:=v6.No) J J J J .p0<|rN<|aa.cy<|tR<|ae.qv (br J J) J<|rM J J<|rN<|aa.stop<|?_
        cases h
        exact lK _ _ J<|aj.lq [0] J J J
   ·refine aa.exit J<|have h:=cH h fV;?_
    unfold sI at h
    refine tS<|aF<|rM J J<|ae.qv (B9 (gk:=AV.str) (gv:=I) (M:=l4) J .p0) J<|ae.qv (jF J J) J<|rN<|cD h J (fun h=>?_) (fun h=>?_)
    ·refine aF<|rA J J<|rN<|aa.ret<|?_
     cases h
     exact hP J J
    ·refine tK<|aF<|rA J J<|rN<|aa.ret<|?_
     cases h
     exact hP J J
theorem ra [GI:bt] {ab:List Int} {r:Int} (h:gn ab=some r):Pu Tryz.prog 14 [ig ab] (I r):=by
 unfold gn at h
 refine aG.bc Tryz.func14 J Tryz.ntmps14 Tryz.results14 J J ?_
 refine aF<|rA J J<|rN<|aF<|rA J J<|rN<|tS<|aF<|rM J J<|ae.qv (fS J) J<|rM J J<|rN<|aa.block<|aa.ff (fun x:Int=>nu ab x) (fun x aK=>aK=⟨18,[(3,I (0:Int)),(6,ig ab),(7,I (ab.length:Int)),(8,I x)],[]⟩) h ?_ ?_
 ·exact aj.lq [] J J J
 ·intro n2 z1 aK J1 iV h lK fV
  obtain rfl:=iV
  replace h:nu ab n2=some z1:=h
  unfold nu at h
  refine aF<|ae.qv (cu J J) J<|rN<|tS<|cD h J (fun h=>?_) (fun h=>?_)
  ·refine tK<|tS<|aa.block<|aF<|aH h fun v3 e1 h=>ae.qv (cK J J J e1 J J) J<|ae.qv (bC J J J) J<|rA J J<|rN<|aF<|rM J J<|rM J J<|ae.qv (fe J J) J<|rN<|cD h J (fun h=>?_) (fun h=>?_)
   ·refine aF<|rM J J<|rA J J<|rN<|aa.ret<|have h:=cH h fV;?_
    cases h
    exact hP J J
   ·refine tK<|aa.cy<|tR<|ae.qv (br J J) J<|rM J J<|rN<|aa.stop<|?_
    cases h
    exact lK _ _ J<|aj.lq [] J J J
  ·refine aa.exit J<|have h:=cH h fV;aF<|rM J J<|rA J J<|rN<|aa.ret<|?_
   cases h
   exact hP J J
theorem zm {ab:ax} {r:Int} (h:lx ab=some r):Pu Tryz.prog 27 [.str ab] (I r):=by
 unfold lx at h
 refine aG.bc Tryz.func27 J Tryz.ntmps27 Tryz.results27 J J ?_
 refine aF<|rA J J<|rN<|tS<|aF<|rM J J<|aH h fun v1 e1 h=>aL J (sd e1) cR J<|ae.qv (cq J) J<|rN<|cB h J (fun h=>?_) (fun h=>?_)
 ·refine aF<|rA J J<|rN<|aa.ret<|?_
  cases h
  exact hP J J
 ·refine tK<|aF<|rA J J<|rN<|aa.ret<|?_
  cases h
  exact hP J J
theorem Cm [GI:bt] {aQ:Bk} {mb:Bk} {bB:Nat→Bk} {bU:Nat→Nat→Bk} {ab:List (ax×Int)} {ah:ax} {aA:List aJ} {r:Bool} (h:vi ab ah aA=some r):aG Tryz.prog 158 [.cd aQ,.str ah] [(aQ,.mp (ab.map (fun e=>(AV.str e.1,(pA bB) e.2)))),(mb,.bS (fI gp bB bU aA))] (T0 ([(aQ,.mp (ab.map (fun e=>(AV.str e.1,(pA bB) e.2)))),(mb,.bS (fI gp bB bU aA))]) (.bool r)):=by
 unfold vi at h
 refine aG.eP ?_
 refine aG.bc Tryz.func158 J Tryz.ntmps158 Tryz.results158 J J ?_
 refine aF<|rA J J<|rN<|tS<|aF<|rM J J<|w9 (M:=ab) (enc:=(fun e=>(AV.str e.1,(pA bB) e.2))) J (fun _ _=>.p0) J fun b1 QE MW MX Pb=>rN<|aa.block<|aa.w8 (fun e (x:Unit)=>oX ah aA e) (fun x:Unit=>qX) (fun R x aK=>∃ (Da:List Nat),sB QE MW Da (R.map (fun e=>(AV.str e.1,(pA bB) e.2)))∧aK=⟨35,[(1,.str ah),(8,.ptr b1 0)],[(aQ,.DC QE MW),(mb,.bS (fI gp bB bU aA)),(b1,.Dx aQ MW Da)]⟩) h ?_ ?_
 ·exact aj.lq [1,1,0] ⟨[],Pb,J⟩ J J
 ·intro R1 x aK J1 iV Db Hc
  obtain ⟨Da,Dc,rfl⟩:=iV
  refine aF<|Ah J Dc .p0 (fun _=>.p2) J (fun hN=>?_) (fun Bz R' zg hP hlen xz xA=>?_)
  ·have h:=JC Db hN
   replace h:qX=_:=h
   unfold qX at h
   refine ae.ghost<|aj.ur MX .p0<|aj.here<|rX J J J<|rN<|tS<|aa.qF J<|aa.exit J<|aF<|rA J J<|rN<|aa.ret<|?_
   cases h
   exact hH J [0,0] J ⟨J,J⟩
  ·obtain ⟨z1,h,Hd,fV⟩:=Eb Db hP
   replace h:oX ah aA Bz=some z1:=h
   unfold oX at h
   have lK:=fun y aK (e:z1=.inl y) hi=>Hc R' y aK hlen (Hd y e) hi
   clear Hd hP Hc Db
   refine rX J J J<|rN<|tS<|aa.oM J<|tK<|aa.block<|aF<|ae.qv (xa J .p2 .p0 xA J J) J<|rX J J J<|rA J J<|rN<|tS<|aa.cut (fun aK=>∃ (c2:Bool),qW c2=some z1∧aK=⟨35,[(1,.str ah),(8,.ptr b1 0),(34,.bool c2)],[(aQ,.DC QE MW),(mb,.bS (fI gp bB bU aA)),(b1,.Dx aQ MW zg)]⟩) ?_ ?_
   ·refine aH h fun v3 e2 h=>aa.ghost<|aj.du (kb:=gp) e2 .p1 J<|aj.here<|aa.bQ (id:=4) (A:=[0,1,3,7,15,31,63,127,255,511,63,1087,3135,7231,15423,31807,65535,131071,262143,63,1048575,2097151]) 22 mixed J (by kernel_rfl) (by kernel_rfl)<|AM.qv (aq J) J<|AM.qv (ao J) J<|AM.qv (au J J) J<|AM.qv (az J J .p0 J) J<|AM.qv (fe J J) J<|AM.qv (aq J) J<|AM.bV J J J (fun hc=>?_) (fun hc=>?_)
    ·exact have h:=kM hc h;AM.qv (aq J) J<|AM.ar J J J<|AM.qv (ao J) J<|AM.ar J J J<|AM.qv (au J J) J<|AM.ar J J J<|AM.qv (az J J .p0 J) J<|AM.ar J J J<|AM.qv (aq J) J<|AM.ar J J J<|AM.qv (ao J) J<|AM.ar J J J<|AM.qv (au J J) J<|AM.ar J J J<|AM.qv (az J J .p0 J) J<|AM.ar J J J<|AM.qv (iN J) J<|AM.ar J J J<|AM.qv (dm J J) J<|AM.ar J J J<|aH h fun v4 e3 h=>AM.qv (bh J J J e3) J<|AM.ar J J J<|AM.qv (bq J J) J<|AM.ar J J J<|AM.qv (df (g:=Term.av) J J (.inl .p2) e3 J) J<|AM.ar J J J<|AM.qv (aq J) J<|AM.ar J J J<|AM.qv (gr J J) J<|AM.qv (cJ J J) J<|AM.nil<|ae.ghost<|aj.lG (kb:=gp) e2 (.cons .p0 (.cons .p0 (.cons .p0 .nil))) J .p1<|aj.here<|rN<|aa.stop<|aj.lq [0,0,0] ⟨decide (v4.Key=ah),h,J⟩ J J
    ·exact have h:=uj hc h;AM.aB J J J J<|AM.aB J J J J<|AM.aB J J J J<|AM.aB J J J J<|AM.aB J J J J<|AM.aB J J J J<|AM.aB J J J J<|AM.aB J J J J<|AM.aB J J J J<|AM.aB J J J J<|AM.aB J J J J<|AM.aB J J J J<|AM.aB J J J J<|AM.aB J J J J<|AM.qv (cm J J) J<|AM.nil<|ae.ghost<|aj.lG (kb:=gp) e2 (.cons .p0 (.cons .p0 (.cons .p0 .nil))) J .p1<|aj.here<|rN<|aa.stop<|aj.lq [0,0,0] ⟨false,h,J⟩ J J
   ·rintro aK ⟨c2,h,rfl⟩
    unfold qW at h
    refine cB h J (fun h=>?_) (fun h=>?_)
    ·refine aF<|rA J J<|rN<|aa.ghost<|aj.ur MX .p0<|aj.here<|aa.ret<|have h:=cH h fV;?_
     cases h
     exact hH J [0,0] J ⟨J,J⟩
    ·refine tK<|aa.cy<|aa.stop<|?_
     cases h
     exact lK _ _ J<|aj.lq [0,0,0] ⟨zg,xz,J⟩ J J
end Go.Proofs.YtjgdilohhcheoaaGreatDoor
