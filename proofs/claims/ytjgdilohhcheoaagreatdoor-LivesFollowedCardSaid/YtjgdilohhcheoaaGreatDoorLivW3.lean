/- The code computes the plain functions: proofs written by shal.py. -/
import Derived.Test.YtjgdilohhcheoaaGreatDoorLivW2
set_option maxHeartbeats 4000000
set_option maxRecDepth 100000
set_option linter.unusedVariables false
set_option linter.unusedSimpArgs false
namespace Go.Proofs.YtjgdilohhcheoaaGreatDoor
open Go Go.Eng Go.Proofs Go.Beacon
attribute [local irreducible] ae aa AQ QV aG aj Nn AM
theorem EW [GI:bt] {aQ:Bk} {mb:Bk} {bB:Nat→Bk} {bU:Nat→Nat→Bk} {ab:List (ax×Int)} {ah:ai} {aA:List aJ} {r:Int×(List (ax×Int))×(List aJ)} (h:tp ab ah aA=some r):aG Tryz.prog 110 [.cd aQ,ai.av ah] [(aQ,.mp (ab.map (fun e=>(AV.str e.1,(pA bB) e.2)))),(mb,.bS (fI gp bB bU aA))] (T2 (fun F5 Kw=>[(aQ,.mp (r.2.1.map (fun e=>(AV.str e.1,(pA F5) e.2)))),(mb,.bS (fI gp F5 Kw r.2.2))]) (fun F5 Kw=>I r.1)):=by
 unfold tp at h
 refine aG.eP ?_
 refine aG.bc Tryz.func110 J Tryz.ntmps110 Tryz.results110 J J ?_
 refine aF<|de J J J J fun b1=>rA J J<|rN<|tS<|aF<|rM J J<|rF J J J<|rL J J .p0 J J<|FL h (fun e1 h=>?_) (fun n2 e1 h=>?_)
 ·refine ae.qv (qN (gk:=AV.str) (gv:=(pA bB)) (M:=ab) (key:=ah.Device) J J .p1 J e1) J<|ae.qv (Eh J J) J<|rN<|aa.qF J<|tK<|tS<|aF<|rM J J<|w9 (M:=ab) (enc:=(fun e=>(AV.str e.1,(pA bB) e.2))) J (fun _ _=>.p1) J fun b3 V1 Sf Sg V2=>rN<|aa.block<|aa.w8 (fun e (x:Unit)=>qB ab ah aA e) (fun x:Unit=>mz ab ah aA) (fun R x aK=>∃ (Da:List Nat),sB V1 Sf Da (R.map (fun e=>(AV.str e.1,(pA bB) e.2)))∧aK=⟨57,[(0,.cd aQ),(3,.ptr b1 0),(13,.ptr b3 0)],[(aQ,.DC V1 Sf),(mb,.bS (fI gp bB bU aA)),(b3,.Dx aQ Sf Da),(b1,.cells (Bl ah))]⟩) h ?_ ?_
  ·exact aj.lq [2,2,0,0] ⟨[],V2,J⟩ J J
  ·intro R1 x aK J1 iV Db Hc
   obtain ⟨Da,Dc,rfl⟩:=iV
   refine aF<|Ah J Dc .p0 (fun _=>.p2) J (fun hN=>?_) (fun Bz R' zg hP hlen xz xA=>?_)
   ·have h:=JC Db hN
    replace h:mz ab ah aA=_:=h
    unfold mz at h
    refine ae.ghost<|aj.ur Sg .p0<|aj.here<|rX J J J<|rN<|tS<|aa.qF J<|aa.exit J<|tS<|aF<|rM J J<|rF J J J<|rL J J .p3 J J<|aH h fun v4 e3 h=>aT J (Cm e3) cR (.cons .p0 (.cons .p0 .nil)) J J<|rN<|cB h J (fun h=>?_) (fun h=>?_)
    ·refine aF<|rA J J<|rN<|aa.ret<|?_
     cases h
     exact hH J [0,0] J ⟨bB,bU,J,J⟩
    ·refine tK<|aF<|rM J J<|rF J J J<|rL J J .p3 J J<|rF J J J<|rL J J .p3 J J<|rF J J J<|rL J J .p3 J J<|ae.qv (cF J J J J J) J<|rF J J J<|rL J J .p3 J J<|rF J J J<|rL J J .p3 J J<|rF J J J<|rL J J .p3 J J<|ae.qv (cF J J J J J) J<|ko J J J J J J fun b5=>ae.qv (cF J J J J J) J<|de J J J J fun b6=>ae.ghost<|aj.CQ (j:=6) 2 (fun _=>.p0) J (fun _=>J) (fun _=>J) fun b7=>aj.here<|aH h fun u8 e4 h=>ae.ghost<|aj.G1 (kb:=gp) (v:=(⟨(⟨ah.Device,ah.Model,[],(⟨(0:Int),(0:Int),(0:Int)⟩:Version),[]⟩:cL),ah.aC,(1:Int),[(⟨ah.Key,ah.At,(345686400000:Int)⟩:Term)]⟩:aJ)) (s:=Es [b7,b5]) (.cons .p1 (.cons .p0 (.cons .p0 .nil))) J (fun _ _=>.p1) fun TG Sc V3 V4=>aj.here<|ae.ghost<|aj.OI (NM V3 e4) .p0<|aj.here<|ae.ghost<|aj.eqs (s:=56) (dD:=.ptr (TG (aA.length:Int).toNat) 0) J (JW V4 _)<|aj.here<|jl (gk:=AV.str) (gv:=(pA TG)) (M:=ab) (key:=ah.Device) (v:=(aA.length:Int)) J J J J .p0<|rN<|aF<|rA J J<|rN<|aa.ret<|?_
     cases h
     exact hH J [0,0] J ⟨TG,Sc,J,J⟩
   ·obtain ⟨z1,h,Hd,fV⟩:=Eb Db hP
    replace h:qB ab ah aA Bz=some z1:=h
    unfold qB at h
    have lK:=fun y aK (e:z1=.inl y) hi=>Hc R' y aK hlen (Hd y e) hi
    clear Hd hP Hc Db
    refine rX J J J<|rN<|tS<|aa.oM J<|tK<|aa.block<|aF<|ae.qv (xa J .p2 .p0 xA J J) J<|rX J J J<|rA J J<|rN<|tS<|aa.cut (fun aK=>∃ (RT:Bool),vj ab aA RT=some z1∧aK=⟨57,[(0,.cd aQ),(3,.ptr b1 0),(13,.ptr b3 0),(34,.bool RT)],[(aQ,.DC V1 Sf),(mb,.bS (fI gp bB bU aA)),(b1,.cells (Bl ah)),(b3,.Dx aQ Sf zg)]⟩) ?_ ?_
    ·refine aa.bQ (id:=6) (A:=[0,1,3,7,15,0,32,127,255,511,1023,2047,4095,511,8703,32767,65535]) 17 mixed J (by kernel_rfl) (by kernel_rfl)<|AM.qv (aq J) J<|AM.qv (ao J) J<|AM.qv (au J J) J<|AM.qv (au J J) J<|aH h fun v12 e6 h=>AM.qv (QV.ara (kb:=gp) e6 .p1 J (az J J .p0 J)) J<|AM.qv (au J J) J<|AM.qv (az J J .p3 J) J<|AM.qv (gr J J) J<|AM.qv (aq J) J<|AM.bV J J J (fun hc=>?_) (fun hc=>?_)
     ·rw [oF hc] at h
      exact AM.qv (aq J) J<|AM.ar J J J<|AM.qv (ao J) J<|AM.ar J J J<|AM.qv (au J J) J<|AM.ar J J J<|AM.qv (QV.ara (kb:=gp) e6 .p1 J (az J J .p0 J)) J<|AM.ar J J J<|AM.qv (au J J) J<|AM.ar J J J<|AM.qv (az J J .p3 J) J<|AM.ar J J J<|AM.qv (bM J J) J<|AM.qv (cJ J J) J<|AM.nil<|rN<|aa.stop<|aj.lq [0,0,1,0] ⟨decide (v12.aC=ah.aC),h,J⟩ J J
     ·rw [oG hc] at h
      exact AM.aB J J J J<|AM.aB J J J J<|AM.aB J J J J<|AM.aB J J J J<|AM.aB J J J J<|AM.aB J J J J<|AM.qv (cm J J) J<|AM.nil<|rN<|aa.stop<|aj.lq [0,0,1,0] ⟨false,h,J⟩ J J
    ·rintro aK ⟨RT,h,rfl⟩
     unfold vj at h
     refine cB h J (fun h=>?_) (fun h=>?_)
     ·refine aF<|rA J J<|rN<|aa.ghost<|aj.ur Sg .p0<|aj.here<|aa.ret<|have h:=cH h fV;?_
      cases h
      exact hH J [0,0] J ⟨bB,bU,J,J⟩
     ·refine tK<|aa.cy<|aa.stop<|?_
      cases h
      exact lK _ _ J<|aj.lq [0,0,1,0] ⟨zg,xz,J⟩ J J
 ·refine ae.qv (qO (gk:=AV.str) (gv:=(pA bB)) (M:=ab) (key:=ah.Device) J J .p1 e1) J<|ae.qv (GW J J) J<|rN<|aa.oM J<|aF<|rA J J<|rN<|aa.ret<|?_
  cases h
  exact hH J [1,1] J ⟨bB,bU,J,J⟩
theorem BE [GI:bt] {ab:Term} {ah:ai} {r:Bool} (h:rR ab ah=r):Pu Tryz.prog 159 [Term.av ab,.ji [.str ah.iB,I ah.No,I ah.aW,I ah.At,I ah.Kind,.str ah.Device,.str ah.Model,.str ah.aO,I ah.aC,.str ah.Key,.str ah.Name,.str ah.Value,I ah.bj,I ah.an.er,I ah.an.et,I ah.an.dY]] (.bool r):=by
 unfold rR at h
 refine aG.bc Tryz.func159 J Tryz.ntmps159 Tryz.results159 J J ?_
 refine aF<|de J J J J fun b1=>rA J J<|rN<|aF<|rF J J J<|rL J J .p0 J J<|ae.qv (fk J J) J<|ae.qv (bC J J J) J<|ae.qv (gr J J) J<|rA J J<|rN<|aa.ret<|?_
 obtain rfl:=h
 exact hP J J
theorem F6 [GI:bt] {aQ:Bk} {mb:Bk} {bB:Nat→Bk} {bU:Nat→Nat→Bk} {ab:List (ax×Int)} {ah:Int} {aA:ai} {bu:List aJ} {r:Int×(List aJ)} (h:uD ab ah aA bu=some r):aG Tryz.prog 111 [.cd aQ,.ptr (bB ah.toNat) 0,ai.av aA] [(aQ,.mp (ab.map (fun e=>(AV.str e.1,(pA bB) e.2)))),(mb,.bS (fI gp bB bU bu))] (T1 (fun Sh=>[(aQ,.mp (ab.map (fun e=>(AV.str e.1,(pA bB) e.2)))),(mb,.bS (fI gp bB Sh r.2))]) (fun Sh=>I r.1)):=by
 unfold uD at h
 refine aG.eP ?_
 refine aG.bc Tryz.func111 J Tryz.ntmps111 Tryz.results111 J J ?_
 refine aF<|de J J J J fun b1=>rA J J<|rN<|tS<|aH h fun v2 e1 h=>aa.ghost<|aj.du (kb:=gp) e1 .p2 J<|aj.here<|aa.bQ (id:=1) (A:=[0,1,3,7,0,16,48,112,240,496,1023,2047]) 12 mixed J (by kernel_rfl) (by kernel_rfl)<|AM.qv (aq J) J<|AM.qv (ao J) J<|AM.qv (au J J) J<|AM.qv (az J J .p0 J) J<|AM.qv (aq J) J<|AM.qv (ao J) J<|AM.qv (au J J) J<|AM.qv (az J J .p0 J) J<|AM.qv (iN J) J<|AM.qv (dm J J) J<|aH h fun v3 e2 h=>AM.qv (bh J J J e2) J<|AM.qv (bd J) J<|AM.nil<|rN<|tS<|aa.block<|aF<|rM J J<|ae.qv (ao J) J<|rF J J J<|rL J J .p0 J J<|ae.qv (bM J J) J<|rA J J<|rN<|cD h J (fun h=>?_) (fun h=>?_)
 ·refine aF<|rA J J<|ae.ghost<|aj.lG (kb:=gp) e1 (.cons .p0 (.cons .p0 (.cons .p0 .nil))) J .p2<|aj.here<|rN<|aa.ret<|?_
  cases h
  exact hH J [1,1] J ⟨bU,J,J⟩
 ·refine aF<|rM J J<|ae.qv (ao J) J<|rF J J J<|rL J J .p0 J J<|ae.qv (gG J) J<|aH h fun v4 e3 h=>fR J (dX (fun e=>BE (Option.some.inj e)) e3) (.cons (qd.qJ .p2) (.cons (.rD _ _ _ (.cons (.xX _ _ _ .p3 (.cons (.co (.refl _)) (.cons (.co (.refl _)) (.cons (.co (.refl _)) (.cons (.co (.refl _)) (.cons (.co (.refl _)) (.cons (.co (.refl _)) (.cons (.co (.refl _)) (.cons (.co (.refl _)) (.cons (.co (.refl _)) (.cons (.co (.refl _)) (.cons (.co (.refl _)) (.cons (.co (.refl _)) (.cons (.co (.refl _)) (.cons (.co (.refl _)) (.cons (.co (.refl _)) (.cons (.co (.refl _)) .nil))))))))))))))))) .nil)) .nil)) J J<|rA J J<|rN<|cB h J (fun h=>?_) (fun h=>?_)
  ·refine aF<|rA J J<|ae.ghost<|aj.lG (kb:=gp) e1 (.cons .p0 (.cons .p0 (.cons .p0 .nil))) J .p2<|aj.here<|rN<|aa.ret<|?_
   cases h
   exact hH J [1,1] J ⟨bU,J,J⟩
  ·refine aF<|rM J J<|rF J J J<|rL J J .p3 J J<|ae.ghost<|aj.lG (kb:=gp) e1 (.cons .p0 (.cons .p0 (.cons .p0 .nil))) J .p2<|aj.here<|aH h fun v5 e4 h=>aT J (Cm e4) cR (.cons .p1 (.cons .p1 .nil)) J J<|rA J J<|rN<|cB h J (fun h=>?_) (fun h=>?_)
   ·refine aF<|rA J J<|rN<|aa.ret<|?_
    cases h
    exact hH J [0,0] J ⟨bU,J,J⟩
   ·refine tS<|aa.ghost<|aj.du (kb:=gp) e1 .p1 J<|aj.here<|aa.bQ (id:=8) (A:=[0,1,0,4,12,28,63,127]) 8 mixed J (by kernel_rfl) (by kernel_rfl)<|AM.qv (au J J) J<|AM.qv (az J J .p5 J) J<|AM.qv (aq J) J<|AM.qv (bx J) J<|AM.qv (bq J J) J<|AM.qv (df (g:=Term.av) J J (.inl .p2) e2 J) J<|AM.qv (cu J J) J<|AM.qv (bd J) J<|AM.nil<|rN<|cD h J (fun h=>?_) (fun h=>?_)
    ·refine aF<|rA J J<|ae.ghost<|aj.lG (kb:=gp) e1 (.cons .p0 (.cons .p0 (.cons .p0 .nil))) J .p1<|aj.here<|rN<|aa.ret<|?_
     cases h
     exact hH J [0,0] J ⟨bU,J,J⟩
    ·refine tK<|aa.cy<|tS<|aa.bQ (id:=10) (A:=[0,0,2,6,14,0,32,126,255,511,1023]) 10 mixed J (by kernel_rfl) (by kernel_rfl)<|AM.qv (aq J) J<|AM.qv (aq J) J<|AM.qv (bx J) J<|AM.qv (bq J J) J<|AM.qv (df (g:=Term.av) J J (.inl .p2) e2 J) J<|AM.qv (au J J) J<|AM.qv (az J J .p5 J) J<|AM.qv (Gr J J) J<|AM.qv (bx J) J<|AM.qv (bq J J) J<|AM.nil<|bF (g:=Term.av) (wi:=(⟨v3.Key,v3.fE,min v3.To aA.bj⟩:Term)) J J J J e2 J .p2 J<|ae.ghost<|aj.wT (j:=9) (dD:=.sl 3 (bU ah.toNat 1) 0 (v2.aV.set (aZ ((v2.aV.length:Int) - (1:Int))).toNat (⟨v3.Key,v3.fE,min v3.To aA.bj⟩:Term)).length) .p0 J (by rw [List.length_set]) J<|aj.here<|ae.ghost<|aj.kA (kb:=gp) (v':=(⟨v2.Device,v2.aC,v2.State,v2.aV.set (aZ ((v2.aV.length:Int) - (1:Int))).toNat (⟨v3.Key,v3.fE,min v3.To aA.bj⟩:Term)⟩:aJ)) (s:=Es [(bU ah.toNat 0),(bU ah.toNat 1)]) e1 (.cons .p0 (.cons .p0 (.cons .p0 .nil))) J (fun _=>.p1) fun NZ=>aj.here<|rN<|tS<|aa.ghost<|aj.du (kb:=gp) (gm (v:=(⟨v2.Device,v2.aC,v2.State,v2.aV.set (aZ ((v2.aV.length:Int) - (1:Int))).toNat (⟨v3.Key,v3.fE,min v3.To aA.bj⟩:Term)⟩:aJ)) e1) .p1 J<|aj.here<|aH h fun l7 e5 h=>aa.ik (id:=11) (A:=[0,0,2,6,14,0,32,0,128,480,992,2046,4095,8191,16383]) (H0:=[((NZ ah.toNat 1),pL (v2.aV.set (aZ ((v2.aV.length:Int) - (1:Int))).toNat (⟨v3.Key,v3.fE,min v3.To aA.bj⟩:Term)))]) (HH:=fun β=>[((β 11),pL l7),((bB ah.toNat),.cells [.str v2.Device.Key,.str v2.Device.Model,.str v2.Device.aO,I v2.Device.an.er,I v2.Device.an.et,I v2.Device.an.dY,.sl 2 (NZ ah.toNat 0) 0 v2.Device.bl.length,I v2.aC,I v2.State,.sl 3 (NZ ah.toNat 1) 0 (v2.aV.set (aZ ((v2.aV.length:Int) - (1:Int))).toNat (⟨v3.Key,v3.fE,min v3.To aA.bj⟩:Term)).length]),((NZ ah.toNat 0),tM v2.Device.bl),(aQ,.mp (ab.map (fun e=>(AV.str e.1,(pA bB) e.2)))),(mb,.bS (ya gp bB NZ (bu.set ah.toNat (⟨v2.Device,v2.aC,v2.State,v2.aV.set (aZ ((v2.aV.length:Int) - (1:Int))).toNat (⟨v3.Key,v3.fE,min v3.To aA.bj⟩:Term)⟩:aJ)) ah)),(b1,.cells (Bl aA))]) 12 mixed J (by kernel_rfl) (by kernel_rfl) [⟨none,some 11,[],fun _=>((NZ ah.toNat 1),pL (v2.aV.set (aZ ((v2.aV.length:Int) - (1:Int))).toNat (⟨v3.Key,v3.fE,min v3.To aA.bj⟩:Term))),none,[]⟩,⟨some 11,none,[],fun b=>(b,pL l7),none,[]⟩] [11] J (by kernel_rfl) J (.cons .p2 .nil) (fun _=>J)<|AT.am 11 J J<|AM.qv (aq J) J<|AM.qv (aq J) J<|AM.qv (ao J) J<|AM.qv (au J J) J<|AM.qv (az J J .p0 J) J<|AM.qv (au J J) J<|AM.qv (az J J .p4 J) J<|AM.qv (au J J) J<|AM.qv (az J J .p4 J) J<|AM.qv (cF J J J J J) J<|AM.fG (xs:=([(⟨aA.Key,aA.At,(345686400000:Int)⟩:Term)]).map Term.av) J J J J J J<|AM.nil<|AT.FF (V:=fun b=>.sl 3 b 0 l7.length) (Ti:=[((NZ ah.toNat 1),pL (v2.aV.set (aZ ((v2.aV.length:Int) - (1:Int))).toNat (⟨v3.Key,v3.fE,min v3.To aA.bj⟩:Term)))]) (Pi:=fun b=>[(b,pL l7)]) (fun _=>J) (fun _=>J) (fun _ _=>J) J (fun _=>J) J J J ?_ ?_
     ·exact iM (g:=Term.av) J J J J J J J J (.list _) e5 (fun _=>.p0) J fun b8=>ae.nil ⟨b8,_,J,J⟩
     refine AT.sZ (fun _=>J) fun β=>?_
     generalize β 11=b8
     clear β
     refine ae.qv (ao J) J<|rF J J J<|aD J J J J .p1 J J<|ae.ghost<|aj.kA (kb:=gp) (v':=(⟨v2.Device,v2.aC,v2.State,l7⟩:aJ)) (s:=Es [(NZ ah.toNat 0),b8]) (gm (v:=(⟨v2.Device,v2.aC,v2.State,v2.aV.set (aZ ((v2.aV.length:Int) - (1:Int))).toNat (⟨v3.Key,v3.fE,min v3.To aA.bj⟩:Term)⟩:aJ)) e1) (.cons .p1 (.cons .p1 (.cons .p0 .nil))) J (fun _=>.p1) fun bs9=>aj.here<|rN<|aF<|rA J J<|rN<|aa.ret<|?_
     cases h
     exact hH J [0,0] J ⟨bs9,J,J⟩
theorem BF [GI:bt] {ab:aY} {ah:ai} {r:Bool} (h:rS ab ah=r):Pu Tryz.prog 161 [aY.av ab,.ji [.str ah.iB,I ah.No,I ah.aW,I ah.At,I ah.Kind,.str ah.Device,.str ah.Model,.str ah.aO,I ah.aC,.str ah.Key,.str ah.Name,.str ah.Value,I ah.bj,I ah.an.er,I ah.an.et,I ah.an.dY]] (.bool r):=by
 unfold rS at h
 refine aG.bc Tryz.func161 J Tryz.ntmps161 Tryz.results161 J J ?_
 refine aF<|de J J J J fun b1=>rA J J<|rN<|aF<|rF J J J<|rL J J .p0 J J<|ae.qv (fk J J) J<|ae.qv (bC J J J) J<|ae.qv (gr J J) J<|rA J J<|rN<|aa.ret<|?_
 obtain rfl:=h
 exact hP J J
theorem lh [GI:bt] {ab:List aY} {fX:aY→Option Bool} {cY:FuncId} [ba Tryz.prog cY] {eQ:List AV} (lI:∀ {y0:_} {u:Bool},fX y0=some u→Pu Tryz.prog cY (aY.av y0 :: eQ) (.bool u)) {r:Int} (h:ea ab fX=some r):Pu Tryz.prog 160 [Lg ab,.func (.func cY) eQ] (I r):=by
 unfold ea at h
 refine aG.bc Tryz.func160 J Tryz.ntmps160 Tryz.results160 J J ?_
 refine aF<|rA J J<|rN<|tS<|aF<|rM J J<|ae.qv (fS J) J<|rM J J<|rN<|aa.block<|aa.ff (fun x:Int=>eI ab fX x) (fun x aK=>aK=⟨19,[(0,Lg ab),(1,.func (.func cY) eQ),(7,I (ab.length:Int)),(8,I x)],[]⟩) h ?_ ?_
 ·exact aj.lq [] J J J
 ·intro n2 z1 aK J1 iV h lK fV
  obtain rfl:=iV
  replace h:eI ab fX n2=some z1:=h
  unfold eI at h
  refine aF<|ae.qv (cu J J) J<|rN<|tS<|cD h J (fun h=>?_) (fun h=>?_)
  ·refine tK<|tS<|aa.block<|aF<|rM J J<|rA J J<|rN<|aF<|rM J J<|rM J J<|rM J J<|aH h fun v3 e1 h=>ae.qv (cK J J J e1 J J) J<|ae.qv (bn J J J) J<|aH h fun v4 e2 h=>nQ J J (lI e2) cR J<|rN<|cB h J (fun h=>?_) (fun h=>?_)
   ·refine aF<|rM J J<|rA J J<|rN<|aa.ret<|have h:=cH h fV;?_
    cases h
    exact hP J J
   ·refine tK<|aa.cy<|tR<|ae.qv (br J J) J<|rM J J<|rN<|aa.stop<|?_
    cases h
    exact lK _ _ J<|aj.lq [] J J J
  ·refine aa.exit J<|have h:=cH h fV;aF<|rA J J<|rN<|aa.ret<|?_
   cases h
   exact hP J J
theorem BG [GI:bt] {ab:aY} {ah:ai} {r:Bool} (h:rU ab ah=r):Pu Tryz.prog 163 [aY.av ab,.ji [.str ah.iB,I ah.No,I ah.aW,I ah.At,I ah.Kind,.str ah.Device,.str ah.Model,.str ah.aO,I ah.aC,.str ah.Key,.str ah.Name,.str ah.Value,I ah.bj,I ah.an.er,I ah.an.et,I ah.an.dY]] (.bool r):=by
 unfold rU at h
 refine aG.bc Tryz.func163 J Tryz.ntmps163 Tryz.results163 J J ?_
 refine aF<|de J J J J fun b1=>rA J J<|rN<|aF<|rF J J J<|rL J J .p0 J J<|ae.qv (fk J J) J<|ae.qv (bC J J J) J<|ae.qv (gr J J) J<|rA J J<|rN<|aa.ret<|?_
 obtain rfl:=h
 exact hP J J
theorem pF [GI:bt] {aQ:Bk} {ab:List aY} {fX:aY→Option Bool} {cY:FuncId} [ba Tryz.prog cY] {eQ:List AV} (lI:∀ {y0:_} {u:Bool},fX y0=some u→Pu Tryz.prog cY (aY.av y0 :: eQ) (.bool u)) {r:(List aY)} (h:fc ab fX=some r):aG Tryz.prog 162 [.sl 2 aQ 0 ab.length,.func (.func cY) eQ] [(aQ,tM ab)] (T1 (fun pM=>[(pM,tM r)]) (fun pM=>.sl 2 pM 0 r.length)):=by
 unfold fc at h
 refine aG.eP ?_
 refine aG.bc Tryz.func162 J Tryz.ntmps162 Tryz.results162 J J ?_
 refine aF<|rA J J<|rN<|aF<|rM J J<|rM J J<|aH h fun v1 e1 h=>fR J (lh lI e1) (.cons (qd.qJ .p0) (.cons (.co (.refl _)) .nil)) J J<|rA J J<|rN<|tS<|aF<|rM J J<|ae.qv (bM J J) J<|rN<|cD h J (fun h=>?_) (fun h=>?_)
 ·refine aF<|rM J J<|rA J J<|rN<|aa.ret<|?_
  cases h
  exact hH J [0] J ⟨aQ,J,J⟩
 ·refine tK<|tS<|aF<|rM J J<|ae.qv (br J J) J<|rA J J<|rN<|aa.block<|aa.ff (fun x:(List aY)×Int×Int=>eo fX x.1 x.2.1 x.2.2) (fun x aK=>aK=⟨42,[(0,.sl 2 aQ 0 x.1.length),(1,.func (.func cY) eQ),(5,I x.2.1),(6,I x.2.2)],[(aQ,tM x.1)]⟩) h ?_ ?_
  ·exact aj.lq [0] J J J
  ·intro x z1 aK J1 iV h lK fV
   obtain ⟨l5,n6,n7⟩:=x
   obtain rfl:=iV
   replace h:eo fX l5 n6 n7=some z1:=h
   unfold eo at h
   refine tS<|aF<|rM J J<|rM J J<|ae.qv (iN J) J<|ae.qv (cu J J) J<|rN<|cD h J (fun h=>?_) (fun h=>?_)
   ·refine tK<|tS<|aa.block<|aF<|rM J J<|rM J J<|aH h fun v8 e2 h=>ae.qv (bh J J J e2) J<|ae.qv (bD (g:=aY.av) J J (.inl .p0) J e2 J) J<|fj J J J J fun b9=>aD J J J J .p0 J J<|rN<|aF<|rM J J<|ae.qv (aU J J .p0 J) J<|aH h fun v10 e3 h=>nQ J J (lI e3) cR J<|ae.qv (cq J) J<|rN<|aa.cut (fun aK=>∃ (tL:List aY) (n12:Int),ek n7 tL n12=some z1∧aK=⟨42,[(0,.sl 2 aQ 0 tL.length),(1,.func (.func cY) eQ),(5,I n12),(6,I n7)],[(aQ,tM tL)]⟩) ?_ ?_
    ·refine cB h J (fun h=>?_) (fun h=>?_)
     ·exact aF<|rM J J<|rM J J<|ae.qv (aU J J .p0 J) J<|aH h fun Av e4 h=>ae.qv (bh J J J e4) J<|bF (g:=aY.av) (wi:=v8) J J J J e4 J .p1 J<|ae.ghost<|aj.eqs (s:=0) (dD:=.sl 2 aQ 0 (l5.set n6.toNat v8).length) J (by rw [List.length_set])<|aj.here<|ae.ghost<|aj.eqs (s:=17) (dD:=.sl 2 aQ 0 (l5.set n6.toNat v8).length) J (by rw [List.length_set])<|aj.here<|ae.ghost<|aj.eqs (s:=22) (dD:=.sl 2 aQ 0 (l5.set n6.toNat v8).length) J (by rw [List.length_set])<|aj.here<|ae.ghost<|aj.eqs (s:=30) (dD:=.sl 2 aQ 0 (l5.set n6.toNat v8).length) J (by rw [List.length_set])<|aj.here<|rN<|tR<|rM J J<|ae.qv (br J J) J<|rA J J<|rN<|aa.stop<|aj.lq [1] ⟨l5.set n6.toNat v8,aZ (n6+(1:Int)),h,J⟩ J J
     ·exact tK<|aa.stop<|aj.lq [1] ⟨l5,n6,h,J⟩ J J
    ·rintro aK ⟨tL,n12,h,rfl⟩
     unfold ek at h
     refine aa.cy<|tR<|rM J J<|ae.qv (br J J) J<|rA J J<|rN<|aa.stop<|?_
     cases h
     exact lK _ _ J<|aj.lq [0] J J J
   ·refine aa.exit J<|have h:=cH h fV;?_
    unfold jZ at h
    refine aF<|rM J J<|rM J J<|aH h fun xl e5 h=>ae.qv (z8 J J (.some _ _ _ J) .none J J e5) J<|LY (g:=aY.av) (Z:=(⟨[],[]⟩:aY)) (L:=n6) J J J J J J e5 .p0<|ae.ghost<|aj.eqs (s:=0) (dD:=.sl 2 aQ 0 (GP l5 n6 xl.length (⟨[],[]⟩:aY)).length) J (congrArg (AV.sl 2 aQ 0) (CR e5))<|aj.here<|ae.ghost<|aj.eqs (s:=17) (dD:=.sl 2 aQ 0 (GP l5 n6 xl.length (⟨[],[]⟩:aY)).length) J (congrArg (AV.sl 2 aQ 0) (CR e5))<|aj.here<|ae.ghost<|aj.eqs (s:=36) (dD:=.sl 2 aQ 0 (GP l5 n6 xl.length (⟨[],[]⟩:aY)).length) J (congrArg (AV.sl 2 aQ 0) (CR e5))<|aj.here<|rN<|aF<|rM J J<|rM J J<|aH h fun za e6 h=>ae.qv (z8 J J .none (.some _ _ _ J) J J e6) J<|rA J J<|ae.ghost<|aj.Rg e6 .p0<|aj.here<|rN<|aa.ret<|?_
    cases h
    exact hH J [0] J ⟨aQ,J,J⟩
theorem BH [GI:bt] {ab:aY} {ah:aY} {r:Int} (h:pv ab ah=r):Pu Tryz.prog 165 [aY.av ab,aY.av ah] (I r):=by
 unfold pv at h
 refine aG.bc Tryz.func165 J Tryz.ntmps165 Tryz.results165 J J ?_
 refine aF<|de J J J J fun b1=>de J J J J fun b2=>rA J J<|rN<|aF<|rF J J J<|rL J J .p1 J J<|rF J J J<|rL J J .p0 J J<|aL J (gD J) cR J<|rA J J<|rN<|aa.ret<|?_
 obtain rfl:=h
 exact hP J J
theorem qn:Jx Tryz.prog 164 2:=⟨fun enc hk h1 cf hO g cb cy off cap d w eg hc hH hb hs=>AnyQ.slices_SortFunc_eq Tryz.EO 2 Tryz.isAgg166 Tryz.sizeOf166 enc hk h1 cf hO g cb cy off cap d w eg hc hH hb hs,fun p cap fv w=>AnyF.slices_SortFunc_none Tryz.EO p cap fv w⟩
theorem qo [GI:bt] {aQ:Bk} {ab:List aY} {fX:aY→aY→Option Int} {cY:FuncId} [ba Tryz.prog cY] {eQ:List AV} (lI:∀ {y0 y1:_} {u:Int},fX y0 y1=some u→@Pu pZ Tryz.prog cY (aY.av y0 :: aY.av y1 :: eQ) (I u)) {r:(List aY)} (h:iZ ab fX=some r):aG Tryz.prog 164 [.sl 2 aQ 0 ab.length,.func (.func cY) eQ] [(aQ,.arr 2 (ab.map aY.av))] (T0 [(aQ,.arr 2 (r.map aY.av))] (.mN [])):=
 Ad (fn:=fX) qn J @lI (fun _=>J) h
theorem F7 [GI:bt] {aQ:Bk} {cZ:Bk} {cN:Bk} {ab:aJ} {ah:ai} {r:Int×aJ} (h:uE ab ah=some r):aG Tryz.prog 112 [.ptr aQ 0,ai.av ah] [(aQ,.cells (Az ab cZ cN)),(cZ,tM ab.Device.bl),(cN,pL ab.aV)] (T2 (fun uK uL=>[(aQ,.cells (Az r.2 uK uL)),(uK,tM r.2.Device.bl),(uL,pL r.2.aV)]) (fun uK uL=>I r.1)):=by
 unfold uE at h
 refine aG.eP ?_
 refine aG.bc Tryz.func112 J Tryz.ntmps112 Tryz.results112 J J ?_
 refine aF<|de J J J J fun b1=>rA J J<|rN<|aF<|rM J J<|ae.qv (ao J) J<|rF J J J<|rF J J J<|rL J J .p1 J J<|ae.qv (gG J) J<|aH h fun v2 e1 h=>fR J (lh (fun e=>BF (Option.some.inj e)) e1) (.cons (qd.qJ .p2) (.cons (.rD _ _ _ (.cons (.xX _ _ _ .p0 (.cons (.co (.refl _)) (.cons (.co (.refl _)) (.cons (.co (.refl _)) (.cons (.co (.refl _)) (.cons (.co (.refl _)) (.cons (.co (.refl _)) (.cons (.co (.refl _)) (.cons (.co (.refl _)) (.cons (.co (.refl _)) (.cons (.co (.refl _)) (.cons (.co (.refl _)) (.cons (.co (.refl _)) (.cons (.co (.refl _)) (.cons (.co (.refl _)) (.cons (.co (.refl _)) (.cons (.co (.refl _)) .nil))))))))))))))))) .nil)) .nil)) J J<|rA J J<|rN<|tS<|aa.block<|aF<|rM J J<|ae.qv (ao J) J<|rF J J J<|rF J J J<|rL J J .p1 J J<|ae.qv (gr J J) J<|rA J J<|rN<|cD h J (fun h=>?_) (fun h=>?_)
 ·refine aF<|rA J J<|rN<|aa.ret<|?_
  cases h
  exact hH J [1,1,1] J ⟨cZ,cN,J,J⟩
 ·refine tS<|tS<|aa.cut (fun aK=>∃ (c3:Bool),nF ab ah v2 c3=some r∧aK=⟨83,[(0,.ptr aQ 0),(3,.ptr b1 0),(5,I v2),(21,.bool c3)],[(aQ,.cells (Az ab cZ cN)),(cZ,tM ab.Device.bl),(cN,pL ab.aV),(b1,.cells (Bl ah))]⟩) ?_ ?_
  ·refine aa.bQ (id:=4) (A:=[0,1,3,7,15,31,63,127,7,511,1023,2047,7,4103,16383,32767,65535]) 17 mixed J (by kernel_rfl) (by kernel_rfl)<|AM.qv (aq J) J<|AM.qv (nN J J) J<|AM.qv (aq J) J<|AM.bV J J J (fun hc=>?_) (fun hc=>?_)
   ·exact have h:=kM hc h;AM.qv (aq J) J<|AM.ar J J J<|AM.qv (ao J) J<|AM.ar J J J<|AM.qv (au J J) J<|AM.ar J J J<|AM.qv (au J J) J<|AM.ar J J J<|AM.qv (az J J .p1 J) J<|AM.ar J J J<|AM.qv (aq J) J<|AM.ar J J J<|aH h fun v4 e2 h=>AM.qv (bh J J J e2) J<|AM.ar J J J<|AM.qv (bq J J) J<|AM.ar J J J<|AM.qv (df (g:=aY.av) J J (.inl .p2) e2 J) J<|AM.ar J J J<|AM.qv (au J J) J<|AM.ar J J J<|AM.qv (az J J .p0 J) J<|AM.ar J J J<|AM.qv (gr J J) J<|AM.qv (cJ J J) J<|AM.qv (bd J) J<|AM.nil<|rN<|aa.stop<|aj.lq [1,1,1,0] ⟨decide (v4.Value=ah.Value),h,J⟩ J J
   ·exact have h:=uj hc h;AM.aB J J J J<|AM.aB J J J J<|AM.aB J J J J<|AM.aB J J J J<|AM.aB J J J J<|AM.aB J J J J<|AM.aB J J J J<|AM.aB J J J J<|AM.aB J J J J<|AM.aB J J J J<|AM.aB J J J J<|AM.qv (cm J J) J<|AM.qv (bd J) J<|AM.nil<|rN<|aa.stop<|aj.lq [1,1,1,0] ⟨false,h,J⟩ J J
  ·rintro aK ⟨c3,h,rfl⟩
   unfold nF at h
   refine aa.cut (fun aK=>∃ (c5:Bool),nE ab ah v2 c5=some r∧aK=⟨83,[(0,.ptr aQ 0),(3,.ptr b1 0),(5,I v2),(21,.bool c5)],[(aQ,.cells (Az ab cZ cN)),(cZ,tM ab.Device.bl),(cN,pL ab.aV),(b1,.cells (Bl ah))]⟩) ?_ ?_
   ·refine cB h J (fun h=>?_) (fun h=>?_)
    ·exact tK<|aa.stop<|aj.lq [0,0,0,0] ⟨c3,h,J⟩ J J
    ·refine aa.cut (fun aK=>∃ (c6:Bool),pz ab ah v2 c6=some r∧aK=⟨83,[(0,.ptr aQ 0),(3,.ptr b1 0),(5,I v2),(21,.bool c6)],[(aQ,.cells (Az ab cZ cN)),(cZ,tM ab.Device.bl),(cN,pL ab.aV),(b1,.cells (Bl ah))]⟩) ?_ ?_
     ·refine tR<|rM J J<|ae.qv (cu J J) J<|rM J J<|ae.bV J J J (fun hc=>?_) (fun hc=>?_)
      ·rw [oF hc] at h
       exact rF J J J<|rY J J J<|rL J J .p3 J J<|rY J J J<|ae.qv (gr J J) J<|rT J J J<|rA J J<|rN<|aa.stop<|aj.lq [0,0,0,0] ⟨decide (ah.Value=([]:ax)),h,J⟩ J J
      ·rw [oG hc] at h
       exact rG J J J J<|rG J J J J<|rE J J J<|rA J J<|rN<|aa.stop<|aj.lq [0,0,0,0] ⟨false,h,J⟩ J J
     ·rintro aK ⟨c6,h,rfl⟩
      unfold pz at h
      exact aa.stop<|aj.lq [0,0,0,0] ⟨c6,h,J⟩ J J
   ·rintro aK ⟨c5,h,rfl⟩
    unfold nE at h
    refine cB h J (fun h=>?_) (fun h=>?_)
    ·refine aF<|rA J J<|rN<|aa.ret<|?_
     cases h
     exact hH J [0,0,0] J ⟨cZ,cN,J,J⟩
    ·refine tS<|aa.cut (fun aK=>∃ (c7:Bool),pw ab ah c7=some r∧aK=⟨83,[(0,.ptr aQ 0),(3,.ptr b1 0),(45,.bool c7)],[(aQ,.cells (Az ab cZ cN)),(cZ,tM ab.Device.bl),(cN,pL ab.aV),(b1,.cells (Bl ah))]⟩) ?_ ?_
     ·refine tR<|rM J J<|ae.qv (cu J J) J<|rM J J<|ae.bV J J J (fun hc=>?_) (fun hc=>?_)
      ·rw [oF hc] at h
       exact rM J J<|rY J J J<|ae.qv (ao J) J<|rY J J J<|rF J J J<|rY J J J<|rF J J J<|rY J J J<|rL J J .p0 J J<|rY J J J<|ae.qv (iN J) J<|rY J J J<|ae.qv (nN J J) J<|rT J J J<|rA J J<|rN<|aa.stop<|aj.lq [0,0,0,0] ⟨decide ((20:Int)≤(ab.Device.bl.length:Int)),h,J⟩ J J
      ·rw [oG hc] at h
       exact rG J J J J<|rG J J J J<|rG J J J J<|rG J J J J<|rG J J J J<|rG J J J J<|rE J J J<|rA J J<|rN<|aa.stop<|aj.lq [0,0,0,0] ⟨false,h,J⟩ J J
     ·rintro aK ⟨c7,h,rfl⟩
      unfold pw at h
      refine cB h J (fun h=>?_) (fun h=>?_)
      ·refine aF<|rA J J<|rN<|aa.ret<|?_
       cases h
       exact hH J [0,0,0] J ⟨cZ,cN,J,J⟩
      ·refine tK<|aa.cy<|aF<|rM J J<|ae.qv (ao J) J<|rF J J J<|rF J J J<|rL J J .p0 J J<|aH h fun v8 e3 h=>Ea J (nd e3) .nil (.cons (qd.qJ .p1) .nil) (fun _=>J) (fun _=>J) (fun _=>(.cons (JA.qJ (fun _=>J)) .nil)) J fun b9=>ae.qv (gG J) J<|aH h fun v10 e4 h=>Ea J (pF (fun e=>BG (Option.some.inj e)) e4) (.cons .p0 .nil) (.cons (.co (.refl _)) (.cons (.rD _ _ _ (.cons (.xX _ _ _ .p3 (.cons (.co (.refl _)) (.cons (.co (.refl _)) (.cons (.co (.refl _)) (.cons (.co (.refl _)) (.cons (.co (.refl _)) (.cons (.co (.refl _)) (.cons (.co (.refl _)) (.cons (.co (.refl _)) (.cons (.co (.refl _)) (.cons (.co (.refl _)) (.cons (.co (.refl _)) (.cons (.co (.refl _)) (.cons (.co (.refl _)) (.cons (.co (.refl _)) (.cons (.co (.refl _)) (.cons (.co (.refl _)) .nil))))))))))))))))) .nil)) .nil)) (fun _=>J) (fun _=>J) (fun _=>(.cons (JA.qJ (fun _=>J)) .nil)) J fun EU=>rA J J<|rN<|tS<|aF<|rF J J J<|rL J J .p4 J J<|ae.qv (zN J J) J<|rN<|aa.cut (fun aK=>∃ (Kv:Bk) (Bx:List aY),lU ab Bx=some r∧aK=⟨83,[(0,.ptr aQ 0),(6,.sl 2 Kv 0 Bx.length)],[(aQ,.cells (Az ab cZ cN)),(cZ,tM ab.Device.bl),(cN,pL ab.aV),(Kv,tM Bx)]⟩) ?_ ?_
       ·refine cD h J (fun h=>?_) (fun h=>?_)
        ·exact tR<|rM J J<|rF J J J<|rL J J .p4 J J<|rF J J J<|rL J J .p4 J J<|ae.qv (cF J J J J J) J<|aR (xs:=([(⟨ah.Name,ah.Value⟩:aY)]).map aY.av) J J J J J J<|aH h fun xl e5 h=>iM (g:=aY.av) J J J J J J J J (.list _) e5 (fun _=>.p0) J fun Kk=>rA J J<|rN<|aa.stop<|aj.lq [1,1,1,0] ⟨Kk,xl,h,J⟩ J J
        ·exact tK<|aa.stop<|aj.lq [1,1,1,0] ⟨EU,v10,h,J⟩ J J
       ·rintro aK ⟨Kv,Bx,h,rfl⟩
        unfold lU at h
        refine aF<|rM J J<|aH h fun tI e6 h=>aT J (qo (fun e=>BH (GI:=pZ) (Option.some.inj e)) (kq e6)) cR (.cons .p3 .nil) J J<|ae.ghost<|aj.eqs (s:=6) (dD:=.sl 2 Kv 0 tI.length) J (congrArg (AV.sl 2 Kv 0) (dn e6))<|aj.here<|ae.ghost<|aj.eqs (s:=76) (dD:=.sl 2 Kv 0 tI.length) J (congrArg (AV.sl 2 Kv 0) (dn e6))<|aj.here<|rN<|aF<|rM J J<|rM J J<|ae.qv (ao J) J<|rF J J J<|rF J J J<|aD J J J J .p1 J J<|rN<|aF<|rA J J<|rN<|aa.ret<|?_
        cases h
        exact hH J [1,0,1] J ⟨Kv,cN,J,J⟩
theorem F8 [GI:bt] {aQ:Bk} {mb:Bk} {bB:Nat→Bk} {bU:Nat→Nat→Bk} {ab:List (ax×Int)} {ah:ai} {aA:List aJ} {r:Int×(List (ax×Int))×(List aJ)} (h:sK ab ah aA=some r):aG Tryz.prog 56 [.cd aQ,ai.av ah] [(aQ,.mp (ab.map (fun e=>(AV.str e.1,(pA bB) e.2)))),(mb,.bS (fI gp bB bU aA))] (T2 (fun F5 Kw=>[(aQ,.mp (r.2.1.map (fun e=>(AV.str e.1,(pA F5) e.2)))),(mb,.bS (fI gp F5 Kw r.2.2))]) (fun F5 Kw=>I r.1)):=by
 unfold sK at h
 refine aG.eP ?_
 refine aG.bc Tryz.func56 J Tryz.ntmps56 Tryz.results56 J J ?_
 refine aF<|de J J J J fun b1=>rA J J<|rN<|aF<|rM J J<|rF J J J<|rL J J .p0 J J<|FL h (fun e1 h=>?_) (fun n2 e1 h=>?_)
 ·refine ae.qv (qN (gk:=AV.str) (gv:=(pA bB)) (M:=ab) (key:=ah.Device) J J .p1 J e1) J<|rA J J<|rN<|tS<|aF<|rF J J J<|rL J J .p0 J J<|ae.qv (bM J J) J<|rN<|cD h J (fun h=>?_) (fun h=>?_)
  ·refine aF<|rM J J<|ae.qv (aU J J .p0 J) J<|aH h fun v3 e2 h=>qe J (EW e2) cR (.cons .p1 (.cons .p1 .nil)) (fun _ _=>J) J fun TB TC=>rA J J<|rN<|aa.ret<|?_
   cases h
   exact hH J [0,0] J ⟨TB,TC,J,J⟩
  ·refine tK<|tS<|aa.block<|aF<|rM J J<|ae.qv (uv J J) J<|rA J J<|rN<|aa.oM J<|aF<|rA J J<|rN<|aa.ret<|?_
   cases h
   exact hH J [1,1] J ⟨bB,bU,J,J⟩
 ·refine ae.qv (qO (gk:=AV.str) (gv:=(pA bB)) (M:=ab) (key:=ah.Device) J J .p1 e1) J<|rA J J<|rN<|tS<|aF<|rF J J J<|rL J J .p0 J J<|ae.qv (bM J J) J<|rN<|cD h J (fun h=>?_) (fun h=>?_)
  ·refine aF<|rM J J<|ae.qv (aU J J .p0 J) J<|aH h fun v6 e3 h=>qe J (EW e3) cR (.cons .p1 (.cons .p1 .nil)) (fun _ _=>J) J fun bo7 bs8=>rA J J<|rN<|aa.ret<|?_
   cases h
   exact hH J [0,0] J ⟨bo7,bs8,J,J⟩
  ·refine tK<|tS<|aa.block<|aF<|rM J J<|ae.qv (xc J J) J<|rA J J<|rN<|aa.qF J<|aF<|rM J J<|ae.qv (ao J) J<|rF J J J<|aH h fun v9 e4 h=>ae.qv (QV.ara (kb:=gp) e4 .p2 J (az J J .p0 J)) J<|ae.qv (bM J J) J<|rA J J<|rN<|cD h J (fun h=>?_) (fun h=>?_)
   ·refine aF<|rA J J<|rN<|aa.ret<|?_
    cases h
    exact hH J [1,1] J ⟨bB,bU,J,J⟩
   ·refine tK<|aa.cy<|tS<|aF<|rF J J J<|rL J J .p0 J J<|rN<|aa.block<|aF<|ae.qv (bM J J) J<|rA J J<|rN<|aa.cut (fun aK=>∃ (Ii:Nat→Nat→Bk) (l10:List aJ),lV ab l10=some r∧aK=⟨144,[],[(aQ,.mp (ab.map (fun e=>(AV.str e.1,(pA bB) e.2)))),(mb,.bS (fI gp bB Ii l10))]⟩) ?_ ?_
    ·refine cD h J (fun h=>?_) (fun h=>?_)
     ·refine tS<|aF<|rM J J<|ae.qv (ao J) J<|rF J J J<|ae.qv (QV.ara (kb:=gp) e4 .p2 J (az J J .p0 J)) J<|ae.qv (fe J J) J<|rN<|cD h J (fun h=>?_) (fun h=>?_)
      ·refine aF<|rA J J<|rN<|aa.ret<|?_
       cases h
       exact hH J [1,1] J ⟨bB,bU,J,J⟩
      ·refine tK<|aa.ghost<|aj.du (kb:=gp) e4 .p2 J<|aj.here<|aa.ik (id:=19) (A:=[0,0,0,4,1,17,49,127,255,511,1023]) (H0:=[((bB n2.toNat),.cells (Az v9 (bU n2.toNat 0) (bU n2.toNat 1)))]) (HH:=fun β=>[((bB n2.toNat),.cells [.str v9.Device.Key,.str v9.Device.Model,.str v9.Device.aO,I v9.Device.an.er,I v9.Device.an.et,I v9.Device.an.dY,.sl 2 (bU n2.toNat 0) 0 v9.Device.bl.length,I v9.aC,I (2:Int),.sl 3 (bU n2.toNat 1) 0 v9.aV.length]),((bU n2.toNat 0),tM v9.Device.bl),((bU n2.toNat 1),pL v9.aV),(b1,.cells (Bl ah)),(aQ,.mp (ab.map (fun e=>(AV.str e.1,(pA bB) e.2)))),(mb,.bS (ya gp bB bU aA n2))]) 7 mixed J (by kernel_rfl) (by kernel_rfl) [⟨none,some 6,[],fun _=>((bB n2.toNat),.cells (Az v9 (bU n2.toNat 0) (bU n2.toNat 1))),none,[]⟩,⟨some 6,none,[],fun _=>((bB n2.toNat),.cells [.str v9.Device.Key,.str v9.Device.Model,.str v9.Device.aO,I v9.Device.an.er,I v9.Device.an.et,I v9.Device.an.dY,.sl 2 (bU n2.toNat 0) 0 v9.Device.bl.length,I v9.aC,I (2:Int),.sl 3 (bU n2.toNat 1) 0 v9.aV.length]),none,[]⟩] [] J (by kernel_rfl) J (.cons .p0 .nil) (fun _=>J)<|AT.am 6 J J<|AM.qv (aq J) J<|AM.qv (aq J) J<|AM.qv (au J J) J<|AM.qv (az J J .p2 J) J<|AM.qv (ao J) J<|AM.qv (au J J) J<|AM.nil<|AT.wY (Ti:=[((bB n2.toNat),.cells (Az v9 (bU n2.toNat 0) (bU n2.toNat 1)))]) (Pi:=[((bB n2.toNat),.cells [.str v9.Device.Key,.str v9.Device.Model,.str v9.Device.aO,I v9.Device.an.er,I v9.Device.an.et,I v9.Device.an.dY,.sl 2 (bU n2.toNat 0) 0 v9.Device.bl.length,I v9.aC,I (2:Int),.sl 3 (bU n2.toNat 1) 0 v9.aV.length])]) (fun _=>J) (fun _=>J) (fun _=>J) J J ?_ ?_
       ·exact aD J J J J .p0 J J<|ae.nil ⟨_,J⟩
       exact AT.sZ (fun _=>J) fun β=>ae.qv (ao J) J<|rF J J J<|rF J J J<|aD J J J J .p0 J J<|ae.ghost<|aj.kA (kb:=gp) (v':=(⟨(⟨v9.Device.Key,v9.Device.Model,ah.aO,v9.Device.an,v9.Device.bl⟩:cL),v9.aC,(2:Int),v9.aV⟩:aJ)) (s:=Es [(bU n2.toNat 0),(bU n2.toNat 1)]) e4 (.cons .p0 (.cons .p0 (.cons .p0 .nil))) J (fun _=>.p2) fun V5=>aj.here<|rN<|aa.stop<|aj.lq [1,1] ⟨V5,aA.set n2.toNat (⟨(⟨v9.Device.Key,v9.Device.Model,ah.aO,v9.Device.an,v9.Device.bl⟩:cL),v9.aC,(2:Int),v9.aV⟩:aJ),h,J⟩ J J
     ·refine aF<|ae.qv (bM J J) J<|rA J J<|rN<|aa.cut (fun aK=>∃ (Dd:Nat→Nat→Bk) (Bx:List aJ),lW ab Bx=some r∧aK=⟨144,[],[(aQ,.mp (ab.map (fun e=>(AV.str e.1,(pA bB) e.2)))),(mb,.bS (fI gp bB Dd Bx))]⟩) ?_ ?_
      ·refine cD h J (fun h=>?_) (fun h=>?_)
       ·refine tS<|aF<|rM J J<|ae.qv (ao J) J<|rF J J J<|rF J J J<|ae.qv (QV.ara (kb:=gp) e4 .p2 J (az J J .p0 J)) J<|ae.qv (gr J J) J<|rN<|cD h J (fun h=>?_) (fun h=>?_)
        ·refine aF<|rA J J<|rN<|aa.ret<|?_
         cases h
         exact hH J [1,1] J ⟨bB,bU,J,J⟩
        ·exact tK<|tR<|rM J J<|rM J J<|rM J J<|ae.qv (ao J) J<|rF J J J<|ae.ghost<|aj.du (kb:=gp) e4 .p2 J<|aj.here<|aD J J J J .p0 J J<|ae.qv (ao J) J<|rF J J J<|rF J J J<|aD J J J J .p0 J J<|ae.qv (ao J) J<|rF J J J<|rF J J J<|aD J J J J .p0 J J<|ae.ghost<|aj.CQ (j:=6) 2 (fun _=>.p0) J (fun _=>J) (fun _=>J) fun Kk=>aj.here<|ae.ghost<|aj.kA (kb:=gp) (v':=(⟨(⟨v9.Device.Key,v9.Device.Model,([]:ax),v9.Device.an,[]⟩:cL),v9.aC,(1:Int),v9.aV⟩:aJ)) (s:=Es [Kk,(bU n2.toNat 1)]) e4 (.cons .p1 (.cons .p0 (.cons .p1 .nil))) J (fun _=>.p3) fun V6=>aj.here<|rN<|aa.stop<|aj.lq [2,2] ⟨V6,aA.set n2.toNat (⟨(⟨v9.Device.Key,v9.Device.Model,([]:ax),v9.Device.an,[]⟩:cL),v9.aC,(1:Int),v9.aV⟩:aJ),h,J⟩ J J
       ·refine aF<|ae.qv (bM J J) J<|rA J J<|rN<|cD h J (fun h=>?_) (fun h=>?_)
        ·refine aF<|rM J J<|rM J J<|ae.qv (aU J J .p0 J) J<|aH h fun v17 e5 h=>nT J (F6 e5) cR (.cons .p1 (.cons .p1 .nil)) (fun _=>J) J fun V7=>rA J J<|rN<|aa.ret<|?_
         cases h
         exact hH J [0,0] J ⟨bB,V7,J,J⟩
        ·refine aF<|ae.qv (bM J J) J<|rA J J<|rN<|aa.cut (fun aK=>∃ (F3:Nat→Nat→Bk) (Ia:List aJ),lX ab Ia=some r∧aK=⟨144,[],[(aQ,.mp (ab.map (fun e=>(AV.str e.1,(pA bB) e.2)))),(mb,.bS (fI gp bB F3 Ia))]⟩) ?_ ?_
         ·refine cD h J (fun h=>?_) (fun h=>?_)
          ·refine tS<|tS<|aa.bQ (id:=27) (A:=[0,1,3,7,15,0,32,127]) 8 mixed J (by kernel_rfl) (by kernel_rfl)<|AM.qv (aq J) J<|AM.qv (ao J) J<|AM.qv (au J J) J<|AM.qv (au J J) J<|AM.qv (QV.ara (kb:=gp) e4 .p2 J (cw J J .p0 J J)) J<|AM.qv (au J J) J<|AM.qv (cw J J .p0 J J) J<|AM.qv (Jk (g:=Version.av) (X:=v9.Device.an) (Y:=ah.an) J J J J J) J<|AM.nil<|rN<|cD h J (fun h=>?_) (fun h=>?_)
           ·refine aF<|rA J J<|rN<|aa.ret<|?_
            cases h
            exact hH J [1,1] J ⟨bB,bU,J,J⟩
           ·exact tK<|tR<|rM J J<|rF J J J<|ae.qv (cw J J .p0 J J) J<|ae.qv (ao J) J<|rF J J J<|rF J J J<|ae.ghost<|aj.du (kb:=gp) e4 .p2 J<|aj.here<|aD J J J J .p0 J J<|ae.ghost<|aj.kA (kb:=gp) (v':=(⟨(⟨v9.Device.Key,v9.Device.Model,v9.Device.aO,ah.an,v9.Device.bl⟩:cL),v9.aC,v9.State,v9.aV⟩:aJ)) (s:=Es [(bU n2.toNat 0),(bU n2.toNat 1)]) e4 (.cons .p0 (.cons .p0 (.cons .p0 .nil))) J (fun _=>.p2) fun BC=>aj.here<|rN<|aa.stop<|aj.lq [1,1] ⟨BC,aA.set n2.toNat (⟨(⟨v9.Device.Key,v9.Device.Model,v9.Device.aO,ah.an,v9.Device.bl⟩:cL),v9.aC,v9.State,v9.aV⟩:aJ),h,J⟩ J J
          ·refine aF<|ae.qv (bM J J) J<|rA J J<|rN<|cD h J (fun h=>?_) (fun h=>?_)
           ·refine aF<|rM J J<|ae.qv (aU J J .p0 J) J<|ae.ghost<|aj.du (kb:=gp) e4 .p2 J<|aj.here<|aH h fun v22 e6 h=>qe J (F7 e6) cR (.cons .p0 (.cons .p0 (.cons .p0 .nil))) (fun _ _=>J) J fun O9 b24=>rA J J<|ae.ghost<|aj.kA (kb:=gp) (v':=v22.2) (s:=Es [O9,b24]) e4 (.cons .p0 (.cons .p0 (.cons .p0 .nil))) J (fun _=>.p2) fun O7=>aj.here<|rN<|aa.ret<|?_
            cases h
            exact hH J [1,1] J ⟨bB,O7,J,J⟩
           ·refine aF<|ae.qv (bM J J) J<|rA J J<|rN<|aa.cut (fun aK=>∃ (Kr:Nat→Nat→Bk) (zC:List aJ),lY ab zC=some r∧aK=⟨144,[],[(aQ,.mp (ab.map (fun e=>(AV.str e.1,(pA bB) e.2)))),(mb,.bS (fI gp bB Kr zC))]⟩) ?_ ?_
            ·refine cD h J (fun h=>?_) (fun h=>?_)
             ·refine tS<|aF<|rM J J<|ae.qv (ao J) J<|rF J J J<|ae.qv (QV.ara (kb:=gp) e4 .p2 J (az J J .p0 J)) J<|ae.qv (fe J J) J<|rN<|cD h J (fun h=>?_) (fun h=>?_)
              ·refine aF<|rA J J<|rN<|aa.ret<|?_
               cases h
               exact hH J [1,1] J ⟨bB,bU,J,J⟩
              ·exact tK<|tR<|rM J J<|ae.qv (ao J) J<|rF J J J<|ae.ghost<|aj.du (kb:=gp) e4 .p2 J<|aj.here<|aD J J J J .p0 J J<|ae.ghost<|aj.kA (kb:=gp) (v':=(⟨v9.Device,v9.aC,(3:Int),v9.aV⟩:aJ)) (s:=Es [(bU n2.toNat 0),(bU n2.toNat 1)]) e4 (.cons .p0 (.cons .p0 (.cons .p0 .nil))) J (fun _=>.p2) fun V8=>aj.here<|rN<|aa.stop<|aj.lq [1,1] ⟨V8,aA.set n2.toNat (⟨v9.Device,v9.aC,(3:Int),v9.aV⟩:aJ),h,J⟩ J J
             ·refine aF<|ae.qv (bM J J) J<|rA J J<|rN<|aa.cut (fun aK=>∃ (Ks:Nat→Nat→Bk) (pJ:List aJ),lZ ab pJ=some r∧aK=⟨144,[],[(aQ,.mp (ab.map (fun e=>(AV.str e.1,(pA bB) e.2)))),(mb,.bS (fI gp bB Ks pJ))]⟩) ?_ ?_
              ·refine cD h J (fun h=>?_) (fun h=>?_)
               ·refine tS<|aF<|rM J J<|ae.qv (ao J) J<|rF J J J<|ae.qv (QV.ara (kb:=gp) e4 .p2 J (az J J .p0 J)) J<|ae.qv (fe J J) J<|rN<|cD h J (fun h=>?_) (fun h=>?_)
                ·refine aF<|rA J J<|rN<|aa.ret<|?_
                 cases h
                 exact hH J [1,1] J ⟨bB,bU,J,J⟩
                ·exact tK<|tR<|rM J J<|ae.qv (ao J) J<|rF J J J<|ae.ghost<|aj.du (kb:=gp) e4 .p2 J<|aj.here<|aD J J J J .p0 J J<|ae.ghost<|aj.kA (kb:=gp) (v':=(⟨v9.Device,v9.aC,(2:Int),v9.aV⟩:aJ)) (s:=Es [(bU n2.toNat 0),(bU n2.toNat 1)]) e4 (.cons .p0 (.cons .p0 (.cons .p0 .nil))) J (fun _=>.p2) fun MU=>aj.here<|rN<|aa.stop<|aj.lq [1,1] ⟨MU,aA.set n2.toNat (⟨v9.Device,v9.aC,(2:Int),v9.aV⟩:aJ),h,J⟩ J J
               ·refine aF<|rM J J<|ae.qv (ao J) J<|rF J J J<|ae.ghost<|aj.du (kb:=gp) e4 .p2 J<|aj.here<|aD J J J J .p0 J J<|ae.ghost<|aj.kA (kb:=gp) (v':=(⟨v9.Device,v9.aC,(4:Int),v9.aV⟩:aJ)) (s:=Es [(bU n2.toNat 0),(bU n2.toNat 1)]) e4 (.cons .p0 (.cons .p0 (.cons .p0 .nil))) J (fun _=>.p2) fun V9=>aj.here<|rN<|aF<|rM J J<|ae.qv (ao J) J<|rF J J J<|ae.ghost<|aj.du (kb:=gp) (gm (v:=(⟨v9.Device,v9.aC,(4:Int),v9.aV⟩:aJ)) e4) .p2 J<|aj.here<|rL J J .p0 J J<|ae.qv (iN J) J<|rM J J<|ae.ghost<|aj.lG (kb:=gp) (gm (v:=(⟨v9.Device,v9.aC,(4:Int),v9.aV⟩:aJ)) e4) (.cons .p0 (.cons .p0 (.cons .p0 .nil))) J .p2<|aj.here<|rN<|aa.block<|aa.ff (fun x:(List aJ)×Int=>kh ab ah n2 v9 x.1 x.2) (fun x aK=>∃ (F9:Nat→Nat→Bk),aK=⟨144,[(3,.ptr b1 0),(5,.ptr (bB n2.toNat) 0),(36,I (v9.aV.length:Int)),(37,I x.2)],[(aQ,.mp (ab.map (fun e=>(AV.str e.1,(pA bB) e.2)))),(mb,.bS (fI gp bB F9 x.1)),(b1,.cells (Bl ah))]⟩) h ?_ ?_
                ·exact aj.lq [1,1,0] ⟨V9,J⟩ J J
                ·intro x z1 aK J1 iV h lK fV
                 obtain ⟨F0,n38⟩:=x
                 obtain ⟨F9,rfl⟩:=iV
                 replace h:kh ab ah n2 v9 F0 n38=some z1:=h
                 unfold kh at h
                 refine aF<|ae.qv (cu J J) J<|rN<|tS<|cD h J (fun h=>?_) (fun h=>?_)
                 ·refine tK<|tS<|aa.block<|aF<|rM J J<|rA J J<|rN<|aF<|rM J J<|ae.qv (ao J) J<|rF J J J<|aH h fun v39 e7 h=>ae.ghost<|aj.du (kb:=gp) e7 .p1 J<|aj.here<|rL J J .p0 J J<|rM J J<|aH h fun v40 e8 h=>ae.qv (bh J J J e8) J<|rA J J<|rN<|aa.bQ (id:=14) (A:=[0,0,2,6,14,0,32,96,224,0,512,2016,4094,8191,16383,32767]) 15 mixed J (by kernel_rfl) (by kernel_rfl)<|AM.qv (aq J) J<|AM.qv (aq J) J<|AM.qv (bx J) J<|AM.qv (bq J J) J<|AM.qv (df (g:=Term.av) J J (.inl .p2) e8 J) J<|AM.qv (aq J) J<|AM.qv (bx J) J<|AM.qv (bq J J) J<|AM.qv (df (g:=Term.av) J J (.inl .p2) e8 J) J<|AM.qv (au J J) J<|AM.qv (az J J .p5 J) J<|AM.qv (Ns J J) J<|AM.qv (Gr J J) J<|AM.qv (bx J) J<|AM.qv (bq J J) J<|AM.nil<|bF (g:=Term.av) (wi:=(⟨v40.Key,v40.fE,min v40.To (max v40.fE ah.At)⟩:Term)) J J J J e8 J .p2 J<|ae.ghost<|aj.eqs (s:=43) (dD:=.sl 3 (F9 n2.toNat 1) 0 (v39.aV.set n38.toNat (⟨v40.Key,v40.fE,min v40.To (max v40.fE ah.At)⟩:Term)).length) J (by rw [List.length_set])<|aj.here<|ae.ghost<|aj.wT (j:=9) (dD:=.sl 3 (F9 n2.toNat 1) 0 (v39.aV.set n38.toNat (⟨v40.Key,v40.fE,min v40.To (max v40.fE ah.At)⟩:Term)).length) .p0 J (by rw [List.length_set]) J<|aj.here<|ae.ghost<|aj.kA (kb:=gp) (v':=(⟨v39.Device,v39.aC,v39.State,v39.aV.set n38.toNat (⟨v40.Key,v40.fE,min v40.To (max v40.fE ah.At)⟩:Term)⟩:aJ)) (s:=Es [(F9 n2.toNat 0),(F9 n2.toNat 1)]) e7 (.cons .p0 (.cons .p0 (.cons .p0 .nil))) J (fun _=>.p1) fun Wa=>aj.here<|rN<|aa.cy<|tR<|ae.qv (br J J) J<|rM J J<|rN<|aa.stop<|?_
                  cases h
                  exact lK _ _ J<|aj.lq [0,0,0] ⟨Wa,J⟩ J J
                 ·exact aa.exit J<|have h:=cH h fV;aa.stop<|aj.lq [0,0] ⟨F9,F0,h,J⟩ J J
              ·rintro aK ⟨Ks,pJ,h,rfl⟩
               unfold lZ at h
               exact aa.stop<|aj.lq [0,0] ⟨Ks,pJ,h,J⟩ J J
            ·rintro aK ⟨Kr,zC,h,rfl⟩
             unfold lY at h
             exact aa.stop<|aj.lq [0,0] ⟨Kr,zC,h,J⟩ J J
         ·rintro aK ⟨F3,Ia,h,rfl⟩
          unfold lX at h
          exact aa.stop<|aj.lq [0,0] ⟨F3,Ia,h,J⟩ J J
      ·rintro aK ⟨Dd,Bx,h,rfl⟩
       unfold lW at h
       exact aa.stop<|aj.lq [0,0] ⟨Dd,Bx,h,J⟩ J J
    ·rintro aK ⟨Ii,l10,h,rfl⟩
     unfold lV at h
     refine aa.cy<|aF<|rA J J<|rN<|aa.ret<|?_
     cases h
     exact hH J [0,0] J ⟨bB,Ii,J,J⟩
theorem xC [GI:bt] {ab:List ai} {r:((List (ax×Int))×(List aJ))×(List bO)} (h:qY ab=some r):aG Tryz.prog 19 [Ay ab] [] (T5 (fun pM Si Kx N0 O8=>[(pM,.mp (r.1.1.map (fun e=>(AV.str e.1,(pA Kx) e.2)))),(Si,.bS (fI gp Kx N0 r.1.2)),(O8,Ie r.2)]) (fun pM Si Kx N0 O8=>.mN [.cd pM,.sl 2 O8 0 r.2.length])):=by
 unfold qY at h
 refine aG.eP ?_
 refine aG.bc Tryz.func19 J Tryz.ntmps19 Tryz.results19 J J ?_
 refine aa.ghost (aj.GZ (kb:=gp) (fun b1 bo2 bs3=>aj.here ?_))
 refine aF<|rA J J<|rA J J<|rN<|aF<|nD J fun b4=>rA J J<|rN<|aF<|rA J J<|rN<|tS<|aF<|rM J J<|ae.qv (fS J) J<|rM J J<|rN<|aa.block<|aa.ff (fun x:(List aJ)×(List (ax×Int))×(List bO)×Int=>iy ab x.1 x.2.1 x.2.2.1 x.2.2.2) (fun x aK=>∃ (F4:Nat→Bk) (Dd:Nat→Nat→Bk) (F2:Bk),aK=⟨31,[(4,.cd b4),(5,.sl 2 F2 0 x.2.2.1.length),(10,Ay ab),(11,I (ab.length:Int)),(12,I x.2.2.2)],[(b1,.bS (fI gp F4 Dd x.1)),(b4,.mp (x.2.1.map (fun e=>(AV.str e.1,(pA F4) e.2)))),(F2,Ie x.2.2.1)]⟩) h ?_ ?_
 ·exact aj.arr (s:=5) 2 J fun VS=>aj.lq [2,1,0] ⟨bo2,bs3,VS,J⟩ J J
 ·intro x z1 aK J1 iV h lK fV
  obtain ⟨qz,za,F1,n18⟩:=x
  obtain ⟨F4,Dd,F2,rfl⟩:=iV
  replace h:iy ab qz za F1 n18=some z1:=h
  unfold iy at h
  refine aF<|ae.qv (cu J J) J<|rN<|tS<|cD h J (fun h=>?_) (fun h=>?_)
  ·refine tK<|tS<|aa.block<|aF<|rM J J<|aH h fun v20 e1 h=>ae.qv (cK J J J e1 J J) J<|ae.qv (bn J J J) J<|fj J J J J fun b21=>rA J J<|aD J J J J .p0 J J<|rN<|aF<|rM J J<|ae.qv (aU J J .p0 J) J<|aH h fun v22 e2 h=>qe J (F8 e2) cR (.cons .p2 (.cons .p1 .nil)) (fun _ _=>J) J fun Pc Sj=>rA J J<|rN<|aF<|rM J J<|ae.qv (fe J J) J<|rN<|aa.cut (fun aK=>∃ (MP:Bk) (zC:List bO),mZ n18 v22 zC=some z1∧aK=⟨31,[(4,.cd b4),(5,.sl 2 MP 0 zC.length),(10,Ay ab),(11,I (ab.length:Int)),(12,I n18)],[(b1,.bS (fI gp Pc Sj v22.2.2)),(b4,.mp (v22.2.1.map (fun e=>(AV.str e.1,(pA Pc) e.2)))),(MP,Ie zC)]⟩) ?_ ?_
   ·refine cD h J (fun h=>?_) (fun h=>?_)
    ·exact tR<|rM J J<|rM J J<|rM J J<|ae.qv (cF J J J J J) J<|aR (xs:=([(⟨n18,v22.1⟩:bO)]).map bO.av) J J J J J J<|aH h fun Vx e3 h=>iM (g:=bO.av) J J J J J J J J (.list _) e3 (fun _=>.p3) J fun TE=>rA J J<|rN<|aa.stop<|aj.lq [1,0,1] ⟨TE,Vx,h,J⟩ J J
    ·exact tK<|aa.stop<|aj.lq [1,0,1] ⟨F2,F1,h,J⟩ J J
   ·rintro aK ⟨MP,zC,h,rfl⟩
    unfold mZ at h
    refine aa.cy<|tR<|ae.qv (br J J) J<|rM J J<|rN<|aa.stop<|?_
    cases h
    exact lK _ _ J<|aj.lq [0,0,0] ⟨Pc,Sj,MP,J⟩ J J
  ·refine aa.exit J<|have h:=cH h fV;aF<|rM J J<|rM J J<|rA J J<|rA J J<|rN<|aa.ret<|?_
   cases h
   exact hI J J [1,0,0] J ⟨b4,b1,F4,Dd,F2,J,J⟩
theorem wH [GI:bt] {ab:Term} {ah:ax} {aA:Int} {r:Bool} (h:mA ab ah aA=r):Pu Tryz.prog 66 [Term.av ab,.ji [.str ah],.ji [I aA]] (.bool r):=by
 unfold mA at h
 refine aG.bc Tryz.func66 J Tryz.ntmps66 Tryz.results66 J J ?_
 refine aF<|de J J J J fun b1=>rA J J<|rN<|tS<|aa.cut (fun aK=>∃ (c2:Bool),mM c2=r∧aK=⟨21,[(4,.bool c2)],[]⟩) ?_ ?_
 ·refine tR<|rF J J J<|rL J J .p0 J J<|ae.qv (bC J J J) J<|ae.qv (gr J J) J<|rM J J<|ae.bV J J J (fun hc=>?_) (fun hc=>?_)
  ·rw [oF hc] at h
   refine rF J J J<|rY J J J<|rL J J .p0 J J<|rY J J J<|ae.qv (bC J J J) J<|rY J J J<|ae.qv (tY J J) J<|rT J J J<|rM J J<|ae.bV J J J (fun hc=>?_) (fun hc=>?_)
   ·rw [oF hc] at h
    exact ae.qv (bC J J J) J<|rY J J J<|rF J J J<|rY J J J<|rL J J .p0 J J<|rY J J J<|ae.qv (cu J J) J<|rT J J J<|rA J J<|rN<|aa.stop<|aj.lq [] ⟨decide (aA < ab.To),h,J⟩ J J
   ·rw [oG hc] at h
    exact rG J J J J<|rG J J J J<|rG J J J J<|rE J J J<|rA J J<|rN<|aa.stop<|aj.lq [] ⟨false,h,J⟩ J J
  ·rw [oG hc] at h
   exact rG J J J J<|rG J J J J<|rG J J J J<|rE J J J<|rM J J<|rG J J J J<|rG J J J J<|rG J J J J<|rG J J J J<|rE J J J<|rA J J<|rN<|aa.stop<|aj.lq [] ⟨false,h,J⟩ J J
 ·rintro aK ⟨c2,h,rfl⟩
  unfold mM at h
  refine aa.ret<|?_
  obtain rfl:=h
  exact hP J J
theorem zn [GI:bt] {ab:List ai} {ah:ax} {aA:ax} {bu:Int} {r:Bool×Bool} (h:ly ab ah aA bu=some r):Pu Tryz.prog 29 [Ay ab,.str ah,.str aA,I bu] (.mN [.bool r.1,.bool r.2]):=by
 unfold ly at h
 refine aG.bc Tryz.func29 J Tryz.ntmps29 Tryz.results29 J J ?_
 refine aF<|de J J J J fun b1=>de J J J J fun b2=>rA J J<|rA J J<|rN<|aF<|rM J J<|aH h fun v3 e1 h=>GV J (xC e1) cR .nil (fun _ _ _ _ _=>J) J fun b4 b5 QD TA b8=>rM J J<|rX J J J<|rX J J J<|rA J J<|rA J J<|rN<|aF<|rM J J<|rM J J<|FL h (fun e2 h=>?_) (fun n9 e2 h=>?_)
 ·refine ae.qv (qN (gk:=AV.str) (gv:=(pA QD)) (M:=v3.1.1) (key:=ah) J J .p0 J e2) J<|rA J J<|rN<|tS<|aF<|rM J J<|ae.qv (uv J J) J<|rN<|aa.oM J<|aF<|rA J J<|rA J J<|rN<|aa.ret<|?_
  cases h
  exact hQ J J J
 ·refine ae.qv (qO (gk:=AV.str) (gv:=(pA QD)) (M:=v3.1.1) (key:=ah) J J .p0 e2) J<|rA J J<|rN<|tS<|aF<|rM J J<|ae.qv (xc J J) J<|rN<|aa.qF J<|tK<|aF<|rM J J<|ae.qv (ao J) J<|rF J J J<|aH h fun v10 e3 h=>ae.ghost<|aj.du (kb:=gp) e3 .p1 J<|aj.here<|rL J J .p0 J J<|ae.qv (gG J) J<|aH h fun v11 e4 h=>fR J (dX (fun e=>wH (Option.some.inj e)) e4) (.cons (qd.qJ .p2) (.cons (.rD _ _ _ (.cons (.xX _ _ _ .p7 (.cons (.co (.refl _)) .nil)) (.cons (.xX _ _ _ .p6 (.cons (.co (.refl _)) .nil)) .nil))) .nil)) J J<|rA J J<|ae.ghost<|aj.lG (kb:=gp) e3 (.cons .p0 (.cons .p0 (.cons .p0 .nil))) J .p1<|aj.here<|rN<|tS<|aa.cut (fun aK=>∃ (RU:Bool),oZ RU=some r∧aK=⟨45,[(8,.bool RU),(9,.bool true)],[]⟩) ?_ ?_
  ·refine tR<|rM J J<|rM J J<|ae.guard J J J (fun hc=>?_) (fun hc=>?_)
   ·rw [wU hc] at h
    refine rM J J<|rY J J J<|ae.qv (ao J) J<|rY J J J<|rF J J J<|rY J J J<|ae.qv (QV.ara (kb:=gp) e3 .p1 J (az J J .p0 J)) J<|rY J J J<|ae.qv (fe J J) J<|rT J J J<|rM J J<|ae.bV J J J (fun hc=>?_) (fun hc=>?_)
    ·rw [oF hc] at h
     exact rM J J<|rY J J J<|ae.qv (ao J) J<|rY J J J<|rF J J J<|rY J J J<|ae.qv (QV.ara (kb:=gp) e3 .p1 J (az J J .p0 J)) J<|rY J J J<|ae.qv (fe J J) J<|rT J J J<|rA J J<|rA J J<|rN<|aa.stop<|aj.lq [] ⟨decide (v10.State≠(4:Int)),h,J⟩ J J
    ·rw [oG hc] at h
     exact rG J J J J<|rG J J J J<|rG J J J J<|rG J J J J<|rE J J J<|rA J J<|rA J J<|rN<|aa.stop<|aj.lq [] ⟨false,h,J⟩ J J
   ·rw [wV hc] at h
    exact rG J J J J<|rG J J J J<|rG J J J J<|rG J J J J<|rE J J J<|rM J J<|rG J J J J<|rG J J J J<|rG J J J J<|rG J J J J<|rG J J J J<|rE J J J<|rA J J<|rA J J<|rN<|aa.stop<|aj.lq [] ⟨false,h,J⟩ J J
  ·rintro aK ⟨RU,h,rfl⟩
   unfold oZ at h
   refine aa.ret<|?_
   cases h
   exact hQ J J J
theorem Ky [GI:bt] {ab:Bool} {ah:Int} {r:Int} (h:yj ab ah=r):Pu Tryz.prog 30 [.bool ab,I ah] (I r):=by
 unfold yj at h
 refine aG.bc Tryz.func30 J Tryz.ntmps30 Tryz.results30 J J ?_
 refine aF<|rA J J<|rN<|tS<|aF<|rM J J<|rN<|cB h J (fun h=>?_) (fun h=>?_)
 ·refine aF<|rM J J<|rA J J<|rN<|aa.ret<|?_
  obtain rfl:=h
  exact hP J J
 ·refine tK<|aF<|rA J J<|rN<|aa.ret<|?_
  obtain rfl:=h
  exact hP J J
theorem AN [GI:bt] {ab:aJ} {ah:aJ} {r:Int} (h:qj ab ah=r):Pu Tryz.prog 68 [aJ.av ab,aJ.av ah] (I r):=by
 unfold qj at h
 refine aG.bc Tryz.func68 J Tryz.ntmps68 Tryz.results68 J J ?_
 refine aF<|de J J J J fun b1=>de J J J J fun b2=>rA J J<|rN<|aF<|rF J J J<|rF J J J<|rL J J .p1 J J<|rF J J J<|rF J J J<|rL J J .p0 J J<|aL J (gD J) cR J<|rA J J<|rN<|aa.ret<|?_
 obtain rfl:=h
 exact hP J J
theorem yQ [GI:bt] {ab:List ai} {r:(List aJ)} (h:qC ab=some r):aG Tryz.prog 32 [Ay ab] [] (T1 (fun pM=>[(pM,Ig r)]) (fun pM=>.sl 10 pM 0 r.length)):=by
 unfold qC at h
 refine aG.eP ?_
 refine aG.bc Tryz.func32 J Tryz.ntmps32 Tryz.results32 J J ?_
 refine aF<|rA J J<|rN<|aF<|rM J J<|aH h fun v1 e1 h=>GV J (xC e1) cR .nil (fun _ _ _ _ _=>J) J fun b2 b3 TB TC b6=>rM J J<|rX J J J<|rX J J J<|rA J J<|rA J J<|rN<|aF<|rA J J<|rN<|tS<|aF<|rM J J<|aH h fun m7 e2 h=>ae.ghost<|aj.RG (gk:=AV.str) KB0 (il.inj Tryz.prog 9) e2 (.cons .p1 .nil) .p0<|aj.here<|w9 (M:=m7) (enc:=R7) J (fun _ _=>.p0) J fun b8 ZK Wb Wc Wd=>rN<|aa.block<|aa.w8 (fun e (x:(List aJ))=>mB e x) (fun x:(List aJ)=>mC x) (fun R x aK=>∃ (EU:Bk) (Da:List Nat),sB ZK Wb Da (R.map R7)∧aK=⟨28,[(5,.sl 10 EU 0 x.length),(14,.ptr b8 0)],[(b8,.Dx b2 Wb Da),(b2,.DC ZK Wb),(EU,Ig x)]⟩) h ?_ ?_
 ·exact aj.arr (s:=5) 10 J fun pD=>aj.lq [1,1,0] ⟨pD,[],Wd,J⟩ J J
 ·intro R1 qz aK J1 iV Db Hc
  obtain ⟨EU,Da,Dc,rfl⟩:=iV
  refine aF<|Ah J Dc .p1 (fun _=>.p0) J (fun hN=>?_) (fun Bz R' zg hP hlen xz xA=>?_)
  ·have h:=JC Db hN
   replace h:mC qz=_:=h
   unfold mC at h
   refine ae.ghost<|aj.ur Wc .p1<|aj.here<|rX J J J<|rN<|tS<|aa.qF J<|aa.exit J<|aF<|rM J J<|aH h fun ow e4 h=>aT J (lJ (fun e=>AN (GI:=pZ) (Option.some.inj e)) (kq e4)) cR (.cons .p2 .nil) J J<|ae.ghost<|aj.eqs (s:=5) (dD:=.sl 10 EU 0 ow.length) J (congrArg (AV.sl 10 EU 0) (dn e4))<|aj.here<|ae.ghost<|aj.eqs (s:=25) (dD:=.sl 10 EU 0 ow.length) J (congrArg (AV.sl 10 EU 0) (dn e4))<|aj.here<|rN<|aF<|rM J J<|rA J J<|rN<|aa.ret<|?_
   cases h
   exact hH J [0] J ⟨EU,J,J⟩
  ·obtain ⟨z1,h,Hd,fV⟩:=Eb Db hP
   replace h:mB Bz qz=some z1:=h
   unfold mB at h
   have lK:=fun y aK (e:z1=.inl y) hi=>Hc R' y aK hlen (Hd y e) hi
   clear Hd hP Hc Db
   refine rX J J J<|rN<|tS<|aa.oM J<|tK<|aa.block<|aF<|ae.qv (xa J .p0 .p1 xA J J) J<|rX J J J<|rA J J<|rN<|tR<|rM J J<|rM J J<|ae.qv (yX J) J<|ae.qv (bn J J J) J<|aR (xs:=([Bz.2]:List aJ).map aJ.av) J J J J J J<|aH h fun za e5 h=>iM (g:=aJ.av) J J J J J J J J (.list _) e5 (fun _=>.p2) J fun F2=>rA J J<|rN<|aa.cy<|aa.stop<|?_
   cases h
   exact lK _ _ J<|aj.lq [0,0,0] ⟨F2,zg,xz,J⟩ J J
theorem se [GI:bt] {ab:List aY} {ah:List aY} {r:Bool} (h:fq ab ah=some r):Pu Tryz.prog 120 [Lg ab,Lg ah] (.bool r):=by
 unfold fq at h
 refine aG.bc Tryz.func120 J Tryz.ntmps120 Tryz.results120 J J ?_
 refine aF<|rA J J<|rN<|tS<|aF<|rM J J<|ae.qv (fS J) J<|rM J J<|ae.qv (fS J) J<|ae.qv (fe J J) J<|rN<|cD h J (fun h=>?_) (fun h=>?_)
 ·refine aF<|rA J J<|rN<|aa.ret<|?_
  cases h
  exact hP J J
 ·refine tK<|tS<|aF<|rM J J<|ae.qv (fS J) J<|rM J J<|rN<|aa.block<|aa.ff (fun x:Int=>fP ab ah x) (fun x aK=>aK=⟨26,[(0,Lg ab),(1,Lg ah),(12,I (ab.length:Int)),(13,I x)],[]⟩) h ?_ ?_
  ·exact aj.lq [] J J J
  ·intro n2 z1 aK J1 iV h lK fV
   obtain rfl:=iV
   replace h:fP ab ah n2=some z1:=h
   unfold fP at h
   refine aF<|ae.qv (cu J J) J<|rN<|tS<|cD h J (fun h=>?_) (fun h=>?_)
   ·refine tK<|tS<|aa.block<|aF<|rM J J<|rA J J<|rN<|tS<|aa.bQ (id:=6) (A:=[0,0,3,7,0,0,48,112,255]) 9 mixed J (by kernel_rfl) (by kernel_rfl)<|AM.qv (aq J) J<|AM.qv (aq J) J<|aH h fun v3 e1 h=>AM.qv (cK J J J e1 J J) J<|AM.qv (bn J J J) J<|AM.qv (aq J) J<|AM.qv (aq J) J<|aH h fun v4 e2 h=>AM.qv (cK J J J e2 J J) J<|AM.qv (bn J J J) J<|AM.qv (GG (g:=aY.av) (X:=v3) (Y:=v4) J J J J J) J<|AM.nil<|rN<|cD h J (fun h=>?_) (fun h=>?_)
    ·refine aF<|rA J J<|rN<|aa.ret<|have h:=cH h fV;?_
     cases h
     exact hP J J
    ·refine tK<|aa.cy<|tR<|ae.qv (br J J) J<|rM J J<|rN<|aa.stop<|?_
     cases h
     exact lK _ _ J<|aj.lq [] J J J
   ·refine aa.exit J<|have h:=cH h fV;aF<|rA J J<|rN<|aa.ret<|?_
    cases h
    exact hP J J
theorem AO [GI:bt] {ab:cL} {ah:cL} {r:Bool} (h:qk ab ah=some r):Pu Tryz.prog 70 [cL.av ab,cL.av ah] (.bool r):=by
 unfold qk at h
 refine aG.bc Tryz.func70 J Tryz.ntmps70 Tryz.results70 J J ?_
 refine aF<|de J J J J fun b1=>de J J J J fun b2=>rA J J<|rN<|tS<|aa.cut (fun aK=>∃ (c3:Bool),fH c3=some r∧aK=⟨38,[(4,.bool c3)],[]⟩) ?_ ?_
 ·refine tR<|rF J J J<|rL J J .p1 J J<|rF J J J<|rL J J .p0 J J<|ae.qv (gr J J) J<|rM J J<|gT h J J J (fun h=>?_) (fun h=>?_)
  ·refine rF J J J<|rY J J J<|rL J J .p1 J J<|rY J J J<|rF J J J<|rY J J J<|rL J J .p0 J J<|rY J J J<|ae.qv (gr J J) J<|rT J J J<|rM J J<|gT h J J J (fun h=>?_) (fun h=>?_)
   ·refine rF J J J<|rY J J J<|rL J J .p1 J J<|rY J J J<|rF J J J<|rY J J J<|rL J J .p0 J J<|rY J J J<|ae.qv (gr J J) J<|rT J J J<|rM J J<|gT h J J J (fun h=>?_) (fun h=>?_)
    ·refine rF J J J<|rY J J J<|ae.qv (cw J J .p1 J J) J<|rY J J J<|rF J J J<|rY J J J<|ae.qv (cw J J .p0 J J) J<|rY J J J<|ae.qv (Jk (g:=Version.av) (X:=ab.an) (Y:=ah.an) J J J J J) J<|rT J J J<|rM J J<|gT h J J J (fun h=>?_) (fun h=>?_)
     ·exact rF J J J<|rY J J J<|rL J J .p1 J J<|rY J J J<|rF J J J<|rY J J J<|rL J J .p0 J J<|rY J J J<|aH h fun v4 e1 h=>aL J (se e1) cR J<|rT J J J<|rA J J<|rN<|aa.stop<|aj.lq [] ⟨v4,h,J⟩ J J
     ·exact rG J J J J<|rG J J J J<|rG J J J J<|rG J J J J<|rE J J J<|rA J J<|rN<|aa.stop<|aj.lq [] ⟨false,h,J⟩ J J
    ·exact rG J J J J<|rG J J J J<|rG J J J J<|rG J J J J<|rE J J J<|rM J J<|rG J J J J<|rG J J J J<|rG J J J J<|rG J J J J<|rG J J J J<|rE J J J<|rA J J<|rN<|aa.stop<|aj.lq [] ⟨false,h,J⟩ J J
   ·exact rG J J J J<|rG J J J J<|rG J J J J<|rG J J J J<|rE J J J<|rM J J<|rG J J J J<|rG J J J J<|rG J J J J<|rG J J J J<|rG J J J J<|rE J J J<|rM J J<|rG J J J J<|rG J J J J<|rG J J J J<|rG J J J J<|rG J J J J<|rE J J J<|rA J J<|rN<|aa.stop<|aj.lq [] ⟨false,h,J⟩ J J
  ·exact rG J J J J<|rG J J J J<|rG J J J J<|rG J J J J<|rE J J J<|rM J J<|rG J J J J<|rG J J J J<|rG J J J J<|rG J J J J<|rG J J J J<|rE J J J<|rM J J<|rG J J J J<|rG J J J J<|rG J J J J<|rG J J J J<|rG J J J J<|rE J J J<|rM J J<|rG J J J J<|rG J J J J<|rG J J J J<|rG J J J J<|rG J J J J<|rE J J J<|rA J J<|rN<|aa.stop<|aj.lq [] ⟨false,h,J⟩ J J
 ·rintro aK ⟨c3,h,rfl⟩
  unfold fH at h
  refine aa.ret<|?_
  cases h
  exact hP J J
theorem sf [GI:bt] {ab:List Term} {ah:List Term} {r:Bool} (h:ft ab ah=some r):Pu Tryz.prog 71 [NX ab,NX ah] (.bool r):=by
 unfold ft at h
 refine aG.bc Tryz.func71 J Tryz.ntmps71 Tryz.results71 J J ?_
 refine aF<|rA J J<|rN<|tS<|aF<|rM J J<|ae.qv (fS J) J<|rM J J<|ae.qv (fS J) J<|ae.qv (fe J J) J<|rN<|cD h J (fun h=>?_) (fun h=>?_)
 ·refine aF<|rA J J<|rN<|aa.ret<|?_
  cases h
  exact hP J J
 ·refine tK<|tS<|aF<|rM J J<|ae.qv (fS J) J<|rM J J<|rN<|aa.block<|aa.ff (fun x:Int=>fQ ab ah x) (fun x aK=>aK=⟨26,[(0,NX ab),(1,NX ah),(12,I (ab.length:Int)),(13,I x)],[]⟩) h ?_ ?_
  ·exact aj.lq [] J J J
  ·intro n2 z1 aK J1 iV h lK fV
   obtain rfl:=iV
   replace h:fQ ab ah n2=some z1:=h
   unfold fQ at h
   refine aF<|ae.qv (cu J J) J<|rN<|tS<|cD h J (fun h=>?_) (fun h=>?_)
   ·refine tK<|tS<|aa.block<|aF<|rM J J<|rA J J<|rN<|tS<|aa.bQ (id:=6) (A:=[0,0,3,7,0,0,48,112,255]) 9 mixed J (by kernel_rfl) (by kernel_rfl)<|AM.qv (aq J) J<|AM.qv (aq J) J<|aH h fun v3 e1 h=>AM.qv (cK J J J e1 J J) J<|AM.qv (bn J J J) J<|AM.qv (aq J) J<|AM.qv (aq J) J<|aH h fun v4 e2 h=>AM.qv (cK J J J e2 J J) J<|AM.qv (bn J J J) J<|AM.qv (GG (g:=Term.av) (X:=v3) (Y:=v4) J J J J J) J<|AM.nil<|rN<|cD h J (fun h=>?_) (fun h=>?_)
    ·refine aF<|rA J J<|rN<|aa.ret<|have h:=cH h fV;?_
     cases h
     exact hP J J
    ·refine tK<|aa.cy<|tR<|ae.qv (br J J) J<|rM J J<|rN<|aa.stop<|?_
     cases h
     exact lK _ _ J<|aj.lq [] J J J
   ·refine aa.exit J<|have h:=cH h fV;aF<|rA J J<|rN<|aa.ret<|?_
    cases h
    exact hP J J
theorem ot [GI:bt] {ab:aJ} {ah:aJ} {r:Bool} (h:gh ab ah=some r):Pu Tryz.prog 33 [aJ.av ab,aJ.av ah] (.bool r):=by
 unfold gh at h
 refine aG.bc Tryz.func33 J Tryz.ntmps33 Tryz.results33 J J ?_
 refine aF<|de J J J J fun b1=>de J J J J fun b2=>rA J J<|rN<|tS<|aa.cut (fun aK=>∃ (c3:Bool),jD c3=some r∧aK=⟨31,[(4,.bool c3)],[]⟩) ?_ ?_
 ·refine tR<|rF J J J<|ae.qv (cw J J .p1 J J) J<|rF J J J<|ae.qv (cw J J .p0 J J) J<|aH h fun v4 e1 h=>aL J (AO e1) cR J<|rM J J<|ae.guard J J J (fun hc=>?_) (fun hc=>?_)
  ·refine have h:=kM hc h;rF J J J<|rY J J J<|rL J J .p1 J J<|rY J J J<|rF J J J<|rY J J J<|rL J J .p0 J J<|rY J J J<|ae.qv (bM J J) J<|rT J J J<|rM J J<|gT h J J J (fun h=>?_) (fun h=>?_)
   ·refine rF J J J<|rY J J J<|rL J J .p1 J J<|rY J J J<|rF J J J<|rY J J J<|rL J J .p0 J J<|rY J J J<|ae.qv (bM J J) J<|rT J J J<|rM J J<|gT h J J J (fun h=>?_) (fun h=>?_)
    ·exact rF J J J<|rY J J J<|rL J J .p1 J J<|rY J J J<|rF J J J<|rY J J J<|rL J J .p0 J J<|rY J J J<|aH h fun v5 e2 h=>aL J (sf e2) cR J<|rT J J J<|rA J J<|rN<|aa.stop<|aj.lq [] ⟨v5,h,J⟩ J J
    ·exact rG J J J J<|rG J J J J<|rG J J J J<|rG J J J J<|rE J J J<|rA J J<|rN<|aa.stop<|aj.lq [] ⟨false,h,J⟩ J J
   ·exact rG J J J J<|rG J J J J<|rG J J J J<|rG J J J J<|rE J J J<|rM J J<|rG J J J J<|rG J J J J<|rG J J J J<|rG J J J J<|rG J J J J<|rE J J J<|rA J J<|rN<|aa.stop<|aj.lq [] ⟨false,h,J⟩ J J
  ·exact have h:=mR hc h;rG J J J J<|rG J J J J<|rG J J J J<|rG J J J J<|rE J J J<|rM J J<|rG J J J J<|rG J J J J<|rG J J J J<|rG J J J J<|rG J J J J<|rE J J J<|rM J J<|rG J J J J<|rG J J J J<|rG J J J J<|rG J J J J<|rG J J J J<|rE J J J<|rA J J<|rN<|aa.stop<|aj.lq [] ⟨false,h,J⟩ J J
 ·rintro aK ⟨c3,h,rfl⟩
  unfold jD at h
  refine aa.ret<|?_
  cases h
  exact hP J J
theorem lL [GI:bt] {ab:List aJ} {ah:List aJ} {o6:aJ→aJ→Option Bool} {oL:FuncId} [ba Tryz.prog oL] {qZ:List AV} (xq:∀ {y0 y1:_} {u:Bool},o6 y0 y1=some u→Pu Tryz.prog oL (aJ.av y0 :: aJ.av y1 :: qZ) (.bool u)) {r:Bool} (h:ch ab ah o6=some r):Pu Tryz.prog 31 [Ih ab,Ih ah,.func (.func oL) qZ] (.bool r):=by
 unfold ch at h
 refine aG.bc Tryz.func31 J Tryz.ntmps31 Tryz.results31 J J ?_
 refine aF<|rA J J<|rN<|tS<|aF<|rM J J<|ae.qv (fS J) J<|rM J J<|ae.qv (fS J) J<|ae.qv (fe J J) J<|rN<|cD h J (fun h=>?_) (fun h=>?_)
 ·refine aF<|rA J J<|rN<|aa.ret<|?_
  cases h
  exact hP J J
 ·refine tK<|tS<|aF<|rM J J<|ae.qv (fS J) J<|rM J J<|rN<|aa.block<|aa.ff (fun x:Int=>bb ab ah o6 x) (fun x aK=>aK=⟨32,[(1,Ih ah),(2,.func (.func oL) qZ),(15,Ih ab),(16,I (ab.length:Int)),(17,I x)],[]⟩) h ?_ ?_
  ·exact aj.lq [] J J J
  ·intro n2 z1 aK J1 iV h lK fV
   obtain rfl:=iV
   replace h:bb ab ah o6 n2=some z1:=h
   unfold bb at h
   refine aF<|ae.qv (cu J J) J<|rN<|tS<|cD h J (fun h=>?_) (fun h=>?_)
   ·refine tK<|tS<|aa.block<|aF<|rM J J<|aH h fun v3 e1 h=>ae.qv (cK J J J e1 J J) J<|ae.qv (bn J J J) J<|fj J J J J fun b4=>rA J J<|aD J J J J .p0 J J<|rN<|aF<|rM J J<|rM J J<|aH h fun v5 e2 h=>ae.qv (cK J J J e2 J J) J<|ae.qv (bn J J J) J<|fj J J J J fun b6=>aD J J J J .p0 J J<|rN<|aF<|rM J J<|ae.qv (aU J J .p1 J) J<|ae.qv (aU J J .p0 J) J<|aH h fun v7 e3 h=>nQ J J (xq e3) cR J<|ae.qv (cq J) J<|rN<|cB h J (fun h=>?_) (fun h=>?_)
    ·refine aF<|rA J J<|rN<|aa.ret<|have h:=cH h fV;?_
     cases h
     exact hP J J
    ·refine tK<|aa.cy<|tR<|ae.qv (br J J) J<|rM J J<|rN<|aa.stop<|?_
     cases h
     exact lK _ _ J<|aj.lq [] J J J
   ·refine aa.exit J<|have h:=cH h fV;aF<|rA J J<|rN<|aa.ret<|?_
    cases h
    exact hP J J
theorem ym [GI:bt] {ab:ax} {r:Int} (h:l0 ab=some r):Pu Tryz.prog 109 [.str ab] (.int .u8 r):=by
 unfold l0 at h
 refine aG.bc Tryz.func109 J Tryz.ntmps109 Tryz.results109 J J ?_
 refine aF<|rA J J<|rN<|aF<|rA J J<|rN<|tS<|aF<|rM J J<|ae.qv (dA J) J<|rM J J<|rN<|aa.block<|aa.ff (fun x:Int×Int=>cX ab x.1 x.2) (fun x aK=>aK=⟨23,[(0,.str ab),(3,I x.1),(6,I (ab.length:Int)),(7,I x.2)],[]⟩) h ?_ ?_
 ·exact aj.lq [] J J J
 ·intro x z1 aK J1 iV h lK fV
  obtain ⟨n3,n4⟩:=x
  obtain rfl:=iV
  replace h:cX ab n3 n4=some z1:=h
  unfold cX at h
  refine aF<|ae.qv (cu J J) J<|rN<|tS<|cD h J (fun h=>?_) (fun h=>?_)
  ·refine tK<|tS<|aa.block<|aF<|rM J J<|rA J J<|rN<|tR<|rM J J<|rM J J<|ae.qv (br J J) J<|rM J J<|rM J J<|aH h fun c5 e1 h=>ae.qv (j9 J J e1) J<|aL J (pY J) cR J<|ae.qv (xU J J) J<|ae.qv (br J J) J<|rA J J<|rN<|aa.cy<|tR<|ae.qv (br J J) J<|rM J J<|rN<|aa.stop<|?_
   cases h
   exact lK _ _ J<|aj.lq [] J J J
  ·refine aa.exit J<|have h:=cH h fV;?_
   unfold rV at h
   refine aF<|rM J J<|ae.qv (Nr J J (by decide)) J<|aH h fun c6 e2 h=>ae.qv (j9 J J e2) J<|rA J J<|rN<|aa.ret<|?_
   cases h
   exact hP J J
theorem zo {ab:List Model} {ah:ax} {aA:Int} {r:ax×Int} (h:pc ab ah aA=some r):Pu Tryz.prog 55 [sa ab,.str ah,I aA] (.mN [.str r.1,I r.2]):=by
 unfold pc at h
 refine aG.bc Tryz.func55 J Tryz.ntmps55 Tryz.results55 J J ?_
 refine aF<|rA J J<|rA J J<|rN<|tS<|aF<|rM J J<|aH h fun v1 e1 h=>aL J (pE e1) cR J<|rA J J<|rN<|aF<|rM J J<|ae.qv (fe J J) J<|rN<|cD h J (fun h=>?_) (fun h=>?_)
 ·refine aF<|rM J J<|rA J J<|rA J J<|rN<|aa.ret<|?_
  cases h
  exact hQ J J J
 ·refine tK<|aF<|rM J J<|rM J J<|aH h fun v2 e2 h=>aL J (uI e2) cR J<|rA J J<|rN<|tS<|aF<|rM J J<|ae.qv (cu J J) J<|rN<|cD h J (fun h=>?_) (fun h=>?_)
  ·refine aF<|rA J J<|rA J J<|rN<|aa.ret<|?_
   cases h
   exact hQ J J J
  ·refine tK<|tS<|aF<|rM J J<|aL J (fy J) cR J<|rN<|cB h J (fun h=>?_) (fun h=>?_)
   ·refine aF<|rA J J<|rA J J<|rN<|aa.ret<|?_
    cases h
    exact hQ J J J
   ·refine tK<|aF<|rM J J<|aH h fun v3 e3 h=>aL J (Au e3) cR J<|rA J J<|rN<|aF<|rM J J<|ae.qv (dA J) J<|ae.qv (dm J J) J<|aH h fun v4 e4 h=>aL J (yh e4) cR J<|rM J J<|aH h fun q5 e5 h=>ae.qv (x8 e5 J J) J<|rA J J<|rN<|aF<|rM J J<|rM J J<|aH h fun v6 e6 h=>ae.qv (cK J J J e6 J J) J<|ae.qv (fk J J) J<|ae.qv (bC J J J) J<|rA J J<|rN<|aF<|rM J J<|aH h fun q7 e7 h=>ae.qv (x8 e7 J J) J<|rM J J<|aH h fun q8 e8 h=>ae.qv (x8 e8 J J) J<|aH h fun q9 e9 h=>ae.qv (x8 e9 J J) J<|rM J J<|rM J J<|aH h fun Bh Ft h=>ae.qv (x8 Ft J J) J<|aH h fun v11 IS h=>aL J (ym IS) cR J<|ae.qv (HQ J) J<|aH h fun Bi Ck h=>ae.qv (x8 Ck J J) J<|rA J J<|rA J J<|rN<|aa.ret<|?_
    cases h
    exact hQ J J J
theorem r5 {r:Bool} (h:nG=some r):Pu Tryz.prog 17 [] (.bool r):=by
 unfold nG at h
 refine aG.bc Tryz.func17 J Tryz.ntmps17 Tryz.results17 J J ?_
 refine aF<|rA J J<|rN<|aF<|ae.qv (cF J J J J J) J<|aR (xs:=[.agg [.str ([109]:ax),.str ([65,66]:ax),.nil]]) J J J J J J<|ae.ghost<|aj.SP (s:=5) (dD:=.list 3 (([(⟨([109]:ax),([65,66]:ax),[]⟩:Model)]:List Model).map Model.av)) J (Bc.GO (.cons .r (.cons .r (.cons .n .nil))) J J)<|aj.here<|aH h fun v1 e1 h=>aL J (zo e1) cR J<|rM J J<|rX J J J<|rX J J J<|rA J J<|rA J J<|rN<|tS<|aa.cut (fun aK=>∃ (c2:Bool),ql c2=some r∧aK=⟨15,[(0,.bool c2)],[]⟩) ?_ ?_
 ·refine tR<|rM J J<|ae.qv (bM J J) J<|rM J J<|ae.bV J J J (fun hc=>?_) (fun hc=>?_)
  ·rw [oF hc] at h
   exact rM J J<|rY J J J<|ae.qv (gr J J) J<|rT J J J<|rA J J<|rN<|aa.stop<|aj.lq [] ⟨decide (v1.1=([65,66,45,48,48,48,48,48,48,48,55,45,77]:ax)),h,J⟩ J J
  ·rw [oG hc] at h
   exact rG J J J J<|rE J J J<|rA J J<|rN<|aa.stop<|aj.lq [] ⟨false,h,J⟩ J J
 ·rintro aK ⟨c2,h,rfl⟩
  unfold ql at h
  refine aa.ret<|?_
  cases h
  exact hP J J
theorem uN [GI:bt] {ab:aJ} {ah:ax} {r:Bool} (h:kG ab ah=r):Pu Tryz.prog 35 [aJ.av ab,.ji [.str ah]] (.bool r):=by
 unfold kG at h
 refine aG.bc Tryz.func35 J Tryz.ntmps35 Tryz.results35 J J ?_
 refine aF<|de J J J J fun b1=>rA J J<|rN<|aF<|rF J J J<|rF J J J<|rL J J .p0 J J<|ae.qv (bC J J J) J<|ae.qv (gr J J) J<|rA J J<|rN<|aa.ret<|?_
 obtain rfl:=h
 exact hP J J
theorem pT [GI:bt] {ab:List aJ} {fX:aJ→Option Bool} {cY:FuncId} [ba Tryz.prog cY] {eQ:List AV} (lI:∀ {y0:_} {u:Bool},fX y0=some u→Pu Tryz.prog cY (aJ.av y0 :: eQ) (.bool u)) {r:Int} (h:fu ab fX=some r):Pu Tryz.prog 34 [Ih ab,.func (.func cY) eQ] (I r):=by
 unfold fu at h
 refine aG.bc Tryz.func34 J Tryz.ntmps34 Tryz.results34 J J ?_
 refine aF<|rA J J<|rN<|tS<|aF<|rM J J<|ae.qv (fS J) J<|rM J J<|rN<|aa.block<|aa.ff (fun x:Int=>eJ ab fX x) (fun x aK=>aK=⟨19,[(0,Ih ab),(1,.func (.func cY) eQ),(7,I (ab.length:Int)),(8,I x)],[]⟩) h ?_ ?_
 ·exact aj.lq [] J J J
 ·intro n2 z1 aK J1 iV h lK fV
  obtain rfl:=iV
  replace h:eJ ab fX n2=some z1:=h
  unfold eJ at h
  refine aF<|ae.qv (cu J J) J<|rN<|tS<|cD h J (fun h=>?_) (fun h=>?_)
  ·refine tK<|tS<|aa.block<|aF<|rM J J<|rA J J<|rN<|aF<|rM J J<|rM J J<|rM J J<|aH h fun v3 e1 h=>ae.qv (cK J J J e1 J J) J<|ae.qv (bn J J J) J<|aH h fun v4 e2 h=>nQ J J (lI e2) cR J<|rN<|cB h J (fun h=>?_) (fun h=>?_)
   ·refine aF<|rM J J<|rA J J<|rN<|aa.ret<|have h:=cH h fV;?_
    cases h
    exact hP J J
   ·refine tK<|aa.cy<|tR<|ae.qv (br J J) J<|rM J J<|rN<|aa.stop<|?_
    cases h
    exact lK _ _ J<|aj.lq [] J J J
  ·refine aa.exit J<|have h:=cH h fV;aF<|rA J J<|rN<|aa.ret<|?_
   cases h
   exact hP J J
theorem xD {ab:List Int} {r:Bool} (h:lg ab=some r):Pu Tryz.prog 4 [ig ab] (.bool r):=by
 unfold lg at h
 refine aG.bc Tryz.func4 J Tryz.ntmps4 Tryz.results4 J J ?_
 refine aF<|rA J J<|rN<|aF<|rM J J<|ae.qv (cF J J J J J) J<|de J J J J fun b1=>rA J J<|rN<|aF<|rM J J<|aH h fun v2 e1 h=>aT J (AA e1) cR (.cons .p0 .nil) J J<|rA J J<|rN<|aF<|rM J J<|rM J J<|aH h fun v3 e2 h=>aT J (uG e2) cR (.cons .p0 .nil) J J<|aH h fun v4 e3 h=>nT J (zc e3) cR (.cons .p0 .nil) (fun _=>J) J fun b5=>rM J J<|aR (xs:=([([100,97]:ax),([100,97]:ax),([100,98]:ax),([100,100]:ax),([65]:ax)]).map AV.str) J J J J J J<|aH h fun v6 e4 h=>aT J (bG e4) cR (.cons .p0 .nil) J J<|rM J J<|aR (xs:=([([48,97]:ax),([49,97]:ax),([49,98]:ax),([71]:ax)]).map AV.str) J J J J J J<|aH h fun v7 e5 h=>aT J (bG e5) cR (.cons .p0 .nil) J J<|rM J J<|aH h fun v8 e6 h=>aT J (BA e6) cR (.cons .p0 .nil) J J<|fj J J J J fun b9=>rA J J<|aD J J J J .p0 J J<|rA J J<|rA J J<|rN<|aF<|rM J J<|rM J J<|aH h fun v10 e7 h=>ae.ghost<|aj.freeze .p2<|aj.here<|nT J (AI e7) (.cons (.refl _) (.cons (Co.mg .p2) .nil)) .nil (fun _=>J) J fun EU=>rM J J<|rX J J J<|rX J J J<|rA J J<|rA J J<|rN<|aF<|rM J J<|rM J J<|rL J J .p1 J J<|aH h fun v12 e8 h=>aL J (zh e8) (.cons (.refl _) (.cons (Co.mg .p3) (.cons (.refl _) .nil))) J<|rM J J<|rX J J J<|rX J J J<|rX J J J<|fj J J J J fun pD=>aD J J J J .p0 J J<|rA J J<|rA J J<|rN<|aF<|rM J J<|rM J J<|rL J J .p2 J J<|rM J J<|rM J J<|aH h fun ow e9 h=>aL J (wF e9) (.cons (.refl _) (.cons (Co.mg .p4) (.cons (.refl _) (.cons (.refl _) (.cons (.refl _) .nil))))) J<|rM J J<|rX J J J<|rX J J J<|rA J J<|rA J J<|rN<|aF<|rM J J<|aH h fun pI Ft h=>aL J (zj Ft) cR J<|rM J J<|rM J J<|aH h fun tI IS h=>aL J (zk IS) (.cons (.refl _) (.cons (Co.mg .p4) .nil)) J<|aR (xs:=([pI,tI]:List Int).map I) J J J J J J<|aH h fun v17 Ck h=>aL J (ra Ck) cR J<|rA J J<|rN<|aF<|rM J J<|rL J J .p2 J J<|aH h fun DB Lh h=>aL J (xB Lh) cR J<|aR (xs:=([v17,DB]:List Int).map I) J J J J J J<|aH h fun tJ Kl h=>aL J (ra Kl) cR J<|rA J J<|rN<|aF<|rM J J<|rM J J<|aH h fun v20 Km h=>aL J (zm Km) cR J<|rM J J<|aL J (tC J) cR J<|aR (xs:=([tJ,v20,(dB v8.1)]:List Int).map I) J J J J J J<|aH h fun v21 Li h=>aL J (ra Li) cR J<|rA J J<|rN<|aF<|rA J J<|rN<|tS<|aF<|rM J J<|ae.qv (bM J J) J<|rN<|aa.cut (fun aK=>∃ (n22:Int) (RZ:Bool),dt v4 v6 v10 v12 ow v17 tJ n22 RZ=some r∧aK=⟨169,[(5,.sl 16 b5 0 v4.1.length),(6,.ptr b9 0),(9,.sl 10 EU 0 v10.1.length),(10,I v10.2),(11,.ptr pD 0),(12,.bool v12.2.1),(13,I v12.2.2),(14,.bool ow.1),(15,I ow.2),(16,I v17),(17,I tJ),(18,I n22),(19,.bool RZ)],[(b5,ZF v4.1),(b9,.cells [.str v6.1]),(EU,Ig v10.1),(pD,.cells (VK v12.1))]⟩) ?_ ?_
 ·refine cD h J (fun h=>?_) (fun h=>?_)
  ·exact aF<|rA J J<|rN<|aF<|rM J J<|rL J J .p2 J J<|rM J J<|rM J J<|aH h fun v24 Sa h=>aL J (zn Sa) (.cons (Co.mg .p4) (.cons (.refl _) (.cons (.refl _) (.cons (.refl _) .nil)))) J<|rM J J<|rX J J J<|rX J J J<|rA J J<|rA J J<|rN<|tR<|rM J J<|ae.qv (cq J) J<|aL J (Ky J) cR J<|rA J J<|rN<|aa.stop<|aj.lq [4,2,1,0] ⟨(yj (!v24.2) (8:Int)),v24.1,h,J⟩ J J
  ·exact tK<|aa.stop<|aj.lq [4,2,1,0] ⟨v21,false,h,J⟩ J J
 ·rintro aK ⟨n22,RZ,h,rfl⟩
  unfold dt at h
  refine tS<|tS<|aa.cut (fun aK=>∃ (RY:Bool),bT v4 v6 v12 tJ RY=some r∧aK=⟨169,[(5,.sl 16 b5 0 v4.1.length),(6,.ptr b9 0),(11,.ptr pD 0),(12,.bool v12.2.1),(17,I tJ),(123,.bool RY)],[(b5,ZF v4.1),(b9,.cells [.str v6.1]),(pD,.cells (VK v12.1))]⟩) ?_ ?_
  ·refine tR<|rM J J<|rM J J<|ae.qv (fe J J) J<|rM J J<|gF h J J J (fun h=>?_) (fun h=>?_)
   ·refine rM J J<|rY J J J<|rM J J<|rY J J J<|ae.qv (fe J J) J<|rE J J J<|rM J J<|gF h J J J (fun h=>?_) (fun h=>?_)
    ·refine rM J J<|rY J J J<|rM J J<|rY J J J<|ae.qv (fe J J) J<|rE J J J<|rM J J<|gF h J J J (fun h=>?_) (fun h=>?_)
     ·refine rM J J<|rY J J J<|rM J J<|rY J J J<|ae.qv (QP J J) J<|rE J J J<|rM J J<|ae.guard J J J (fun hc=>?_) (fun hc=>?_)
      ·refine have h:=mR hc h;rM J J<|rY J J J<|ae.qv (bM J J) J<|rY J J J<|rM J J<|gT h J J J (fun h=>?_) (fun h=>?_)
       ·exact rM J J<|rY J J J<|rM J J<|rY J J J<|aH h fun v26 MQ h=>nT J (yQ MQ) (.cons (Co.mg .p0) .nil) .nil (fun _=>J) J fun ZI=>rY J J J<|aH h fun v28 MR h=>fR J (lL (fun e=>ot e) MR) (.cons (qd.qJ .p3) (.cons (qd.qJ .p0) (.cons (.rD _ _ _ .nil) .nil))) J J<|rY J J J<|ae.qv (cq J) J<|rY J J J<|rT J J J<|rE J J J<|rN<|aa.stop<|aj.lq [1,1,2] ⟨!v28,h,J⟩ J J
       ·exact rG J J J J<|rG J J J J<|rG J J J J<|rG J J J J<|rY J J J<|rE J J J<|rE J J J<|rN<|aa.stop<|aj.lq [0,0,1] ⟨false,h,J⟩ J J
      ·exact have h:=kM hc h;rG J J J J<|rG J J J J<|ae.aX J J J<|ae.aX J J J<|ae.aX J J J<|ae.aX J J J<|ae.aX J J J<|rG J J J J<|rT J J J<|rN<|aa.stop<|aj.lq [0,0,1] ⟨true,h,J⟩ J J
     ·exact rG J J J J<|rG J J J J<|rT J J J<|rM J J<|rG J J J J<|rG J J J J<|rG J J J J<|ae.aX J J J<|ae.aX J J J<|ae.aX J J J<|ae.aX J J J<|ae.aX J J J<|rG J J J J<|rT J J J<|rN<|aa.stop<|aj.lq [0,0,1] ⟨true,h,J⟩ J J
    ·exact rG J J J J<|rG J J J J<|rT J J J<|rM J J<|rG J J J J<|rG J J J J<|rG J J J J<|rT J J J<|rM J J<|rG J J J J<|rG J J J J<|rG J J J J<|ae.aX J J J<|ae.aX J J J<|ae.aX J J J<|ae.aX J J J<|ae.aX J J J<|rG J J J J<|rT J J J<|rN<|aa.stop<|aj.lq [0,0,1] ⟨true,h,J⟩ J J
   ·exact rG J J J J<|rG J J J J<|rT J J J<|rM J J<|rG J J J J<|rG J J J J<|rG J J J J<|rT J J J<|rM J J<|rG J J J J<|rG J J J J<|rG J J J J<|rT J J J<|rM J J<|rG J J J J<|rG J J J J<|rG J J J J<|ae.aX J J J<|ae.aX J J J<|ae.aX J J J<|ae.aX J J J<|ae.aX J J J<|rG J J J J<|rT J J J<|rN<|aa.stop<|aj.lq [0,0,1] ⟨true,h,J⟩ J J
  ·rintro aK ⟨RY,h,rfl⟩
   unfold bT at h
   refine cB h J (fun h=>?_) (fun h=>?_)
   ·refine aF<|rA J J<|rN<|aa.ret<|?_
    cases h
    exact hP J J
   ·refine tK<|tS<|aF<|rM J J<|ae.qv (fe J J) J<|rN<|cD h J (fun h=>?_) (fun h=>?_)
    ·refine tS<|aa.cut (fun aK=>∃ (RW:Bool),gi RW=some r∧aK=⟨169,[(2,.bool RW)],[]⟩) ?_ ?_
     ·refine tR<|rM J J<|ae.qv (cq J) J<|rM J J<|ae.guard J J J (fun hc=>?_) (fun hc=>?_)
      ·refine have h:=kM hc h;ae.qv (aU J J .p2 J) J<|rY J J J<|ae.qv (cF J J J J J) J<|rY J J J<|aH h fun v30 MS h=>fR J (ot MS) (.cons (.co (.refl _)) (.cons (qd.Lz (.cons (.co (.refl _)) (.cons (.co (.refl _)) (.cons (.co (.refl _)) (.cons (.co (.refl _)) (.cons (.co (.refl _)) (.cons (.co (.refl _)) (.cons (.co (.nil _)) (.cons (.co (.refl _)) (.cons (.co (.refl _)) (.cons (.co (.nil _)) .nil))))))))))) .nil)) J J<|rT J J J<|rM J J<|ae.guard J J J (fun hc=>?_) (fun hc=>?_)
       ·exact have h:=kM hc h;aH h fun v31 R9 h=>aL J (r5 R9) cR J<|rT J J J<|rA J J<|rN<|aa.stop<|aj.lq [] ⟨v31,h,J⟩ J J
       ·exact have h:=mR hc h;rE J J J<|rA J J<|rN<|aa.stop<|aj.lq [] ⟨false,h,J⟩ J J
      ·exact have h:=mR hc h;rG J J J J<|rG J J J J<|rE J J J<|rM J J<|rG J J J J<|rE J J J<|rA J J<|rN<|aa.stop<|aj.lq [] ⟨false,h,J⟩ J J
     ·rintro aK ⟨RW,h,rfl⟩
      unfold gi at h
      refine aa.ret<|?_
      cases h
      exact hP J J
    ·refine tK<|aF<|rM J J<|aH h fun v32 VM h=>nT J (yQ VM) (.cons (Co.mg .p0) .nil) .nil (fun _=>J) J fun R8=>rA J J<|rN<|aF<|rM J J<|ae.qv (gG J) J<|aH h fun MI VN h=>fR J (pT (fun e=>uN (Option.some.inj e)) VN) (.cons (qd.qJ .p0) (.cons (.rD _ _ _ (.cons (.xX _ _ _ .p2 (.cons (.co (.refl _)) .nil)) .nil)) .nil)) J J<|rA J J<|rN<|tS<|aa.cut (fun aK=>∃ (RX:Bool),cx RX=some r∧aK=⟨169,[(2,.bool RX)],[]⟩) ?_ ?_
     ·refine aa.bQ (id:=21) (A:=[0,0,2,7,15,31,63,127,255,255,1023,2047,4095,8191,16383,32767,65535,65535,65535,458751,983039,2097151,4194303,8388607,16777215,33554431,67108863,134217727,268435455]) 29 mixed J (by kernel_rfl) (by kernel_rfl)<|AM.qv (aq J) J<|AM.qv (aq J) J<|AM.qv (nN J J) J<|AM.qv (QO J J) J<|AM.qv (aq J) J<|AM.guard J J J (fun hc=>?_) (fun hc=>?_)
      ·refine have h:=kM hc h;AM.qv (aq J) J<|AM.ar J J J<|AM.qv (cu J J) J<|AM.ar J J J<|AM.qv (aq J) J<|AM.bV J J J (fun hc=>?_) (fun hc=>?_)
       ·refine have h:=kM hc h;AM.qv (aU J J .p3 J) J<|AM.ar J J J<|AM.qv (cF J J J J J) J<|AM.ar J J J<|aH h fun Bg VO h=>AM.Om J (ot VO) (.cons (.co (.refl _)) (.cons (qd.Lz (.cons (.co (.refl _)) (.cons (.co (.refl _)) (.cons (.co (.refl _)) (.cons (.co (.refl _)) (.cons (.co (.refl _)) (.cons (.co (.refl _)) (.cons (.co (.nil _)) (.cons (.co (.refl _)) (.cons (.co (.refl _)) (.cons (.co (.nil _)) .nil))))))))))) .nil)) J J<|AM.ar J J J<|AM.qv (cJ J J) J<|AM.ar J J J<|AM.qv (aq J) J<|AM.guard J J J (fun hc=>?_) (fun hc=>?_)
        ·refine have h:=mR hc h;AM.qv (aq J) J<|AM.ar J J J<|AM.qv (nN J J) J<|AM.ar J J J<|AM.qv (aq J) J<|AM.bV J J J (fun hc=>?_) (fun hc=>?_)
         ·refine have h:=kM hc h;AM.qv (aU J J .p3 J) J<|AM.ar J J J<|AM.qv (aq J) J<|AM.ar J J J<|AM.qv (aq J) J<|AM.ar J J J<|aH h fun v37 Tx h=>AM.qv (bh J J J Tx) J<|AM.ar J J J<|AM.qv (bD (g:=aJ.av) J J (.inl .p0) J Tx J) J<|AM.ar J J J<|aH h fun aI Ty h=>AM.oE J (ot Ty) cR J<|AM.ar J J J<|AM.qv (cJ J J) J<|AM.ar J J J<|AM.qv (cm J J) J<|AM.qv (cJ J J) J<|AM.qv (aq J) J<|AM.guard J J J (fun hc=>?_) (fun hc=>?_)
          ·exact have h:=kM hc h;aH h fun v39 Tz h=>AM.oE J (r5 Tz) cR J<|AM.qv (cJ J J) J<|AM.qv (bd J) J<|AM.nil<|rN<|aa.stop<|aj.lq [] ⟨v39,h,J⟩ J J
          ·exact have h:=mR hc h;AM.qv (cm J J) J<|AM.qv (bd J) J<|AM.nil<|rN<|aa.stop<|aj.lq [] ⟨false,h,J⟩ J J
         ·exact have h:=uj hc h;AM.aB J J J J<|AM.aB J J J J<|AM.aB J J J J<|AM.aB J J J J<|AM.aB J J J J<|AM.ar J J J<|AM.qv (cm J J) J<|AM.ar J J J<|AM.qv (cm J J) J<|AM.qv (cJ J J) J<|AM.qv (aq J) J<|AM.aB J J J J<|AM.qv (cm J J) J<|AM.qv (bd J) J<|AM.nil<|rN<|aa.stop<|aj.lq [] ⟨false,h,J⟩ J J
        ·exact have h:=kM hc h;AM.aB J J J J<|AM.aB J J J J<|AM.aX J J J<|AM.aX J J J<|AM.aX J J J<|AM.aX J J J<|AM.aX J J J<|AM.aX J J J<|AM.aB J J J J<|AM.ar J J J<|AM.qv (cJ J J) J<|AM.qv (cJ J J) J<|AM.qv (aq J) J<|AM.ar J J J<|aH h fun v40 VP h=>AM.oE J (r5 VP) cR J<|AM.qv (cJ J J) J<|AM.qv (bd J) J<|AM.nil<|rN<|aa.stop<|aj.lq [] ⟨v40,h,J⟩ J J
       ·refine have h:=uj hc h;AM.aB J J J J<|AM.aB J J J J<|AM.ar J J J<|AM.qv (cm J J) J<|AM.ar J J J<|AM.qv (aq J) J<|AM.ar J J J<|AM.qv (aq J) J<|AM.ar J J J<|AM.qv (nN J J) J<|AM.ar J J J<|AM.qv (aq J) J<|AM.bV J J J (fun hc=>?_) (fun hc=>?_)
        ·refine have h:=kM hc h;AM.qv (aU J J .p3 J) J<|AM.ar J J J<|AM.qv (aq J) J<|AM.ar J J J<|AM.qv (aq J) J<|AM.ar J J J<|aH h fun v41 ZL h=>AM.qv (bh J J J ZL) J<|AM.ar J J J<|AM.qv (bD (g:=aJ.av) J J (.inl .p0) J ZL J) J<|AM.ar J J J<|aH h fun zD e30 h=>AM.oE J (ot e30) cR J<|AM.ar J J J<|AM.qv (cJ J J) J<|AM.ar J J J<|AM.qv (cm J J) J<|AM.qv (cJ J J) J<|AM.qv (aq J) J<|AM.guard J J J (fun hc=>?_) (fun hc=>?_)
         ·exact have h:=kM hc h;aH h fun Qs e31 h=>AM.oE J (r5 e31) cR J<|AM.qv (cJ J J) J<|AM.qv (bd J) J<|AM.nil<|rN<|aa.stop<|aj.lq [] ⟨Qs,h,J⟩ J J
         ·exact have h:=mR hc h;AM.qv (cm J J) J<|AM.qv (bd J) J<|AM.nil<|rN<|aa.stop<|aj.lq [] ⟨false,h,J⟩ J J
        ·exact have h:=uj hc h;AM.aB J J J J<|AM.aB J J J J<|AM.aB J J J J<|AM.aB J J J J<|AM.aB J J J J<|AM.ar J J J<|AM.qv (cm J J) J<|AM.ar J J J<|AM.qv (cm J J) J<|AM.qv (cJ J J) J<|AM.qv (aq J) J<|AM.aB J J J J<|AM.qv (cm J J) J<|AM.qv (bd J) J<|AM.nil<|rN<|aa.stop<|aj.lq [] ⟨false,h,J⟩ J J
      ·exact have h:=mR hc h;AM.aB J J J J<|AM.aB J J J J<|AM.aX J J J<|AM.aX J J J<|AM.aX J J J<|AM.aB J J J J<|AM.aB J J J J<|AM.aX J J J<|AM.aX J J J<|AM.aX J J J<|AM.aX J J J<|AM.aX J J J<|AM.aX J J J<|AM.aX J J J<|AM.aX J J J<|AM.aX J J J<|AM.aX J J J<|AM.aB J J J J<|AM.qv (cm J J) J<|AM.qv (aq J) J<|AM.aB J J J J<|AM.qv (cm J J) J<|AM.qv (bd J) J<|AM.nil<|rN<|aa.stop<|aj.lq [] ⟨false,h,J⟩ J J
     ·rintro aK ⟨RX,h,rfl⟩
      unfold cx at h
      refine aa.ret<|?_
      cases h
      exact hP J J
end Go.Proofs.YtjgdilohhcheoaaGreatDoor
