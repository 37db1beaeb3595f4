/- The code computes the plain functions: proofs written by shal.py. -/
import Derived.Test.YtjgdilohhcheoaaGreatDoorEvwW2
set_option maxHeartbeats 4000000
set_option maxRecDepth 100000
set_option linter.unusedVariables false
set_option linter.unusedSimpArgs false
namespace Go.Proofs.YtjgdilohhcheoaaGreatDoor
open Go Go.Eng Go.Proofs Go.Beacon
attribute [local irreducible] ah aa AQ QV aH aj LM AM
theorem Ap [GI:bz] {ae:Term} {ai:ab} {r:Bool} (h:qu ae ai=r):Pu Tryz.prog 159 [Term.av ae,.mO [.str ai.cj,I ai.No,I ai.aO,I ai.At,I ai.Kind,.str ai.Device,.str ai.Model,.str ai.aK,I ai.az,.str ai.Key,.str ai.Name,.str ai.Value,I ai.aW,I ai.ak.dX,I ai.ak.dY,I ai.ak.dI]] (.bool r):=by
 unfold qu at h
 refine aH.bj Tryz.func159 J Tryz.ntmps159 Tryz.results159 J J ?_
 refine aE<|fe J J J J fun b1=>rA J J<|rN<|aE<|rF J J J<|rL J J .p0 J J<|ah.qv (eE J J) J<|ah.qv (bV J J J) J<|ah.qv (iI J J) J<|rA J J<|rN<|aa.ret<|?_
 obtain rfl:=h
 exact hP J J
theorem EU [GI:bz] {aQ:Bk} {ll:Bk} {bw:Nat→Bk} {bO:Nat→Nat→Bk} {ae:List (ax×Int)} {ai:Int} {ao:ab} {bD:List aX} {r:Int×(List aX)} (h:tt ae ai ao bD=some r):aH Tryz.prog 111 [.cd aQ,.ptr (bw ai.toNat) 0,ab.av ao] [(aQ,.mp (ae.map (fun e=>(AV.str e.1,(pA bw) e.2)))),(ll,.bU (gA iJ bw bO bD))] (T1 (fun QG=>[(aQ,.mp (ae.map (fun e=>(AV.str e.1,(pA bw) e.2)))),(ll,.bU (gA iJ bw QG r.2))]) (fun QG=>I r.1)):=by
 unfold tt at h
 refine aH.fg ?_
 refine aH.bj Tryz.func111 J Tryz.ntmps111 Tryz.results111 J J ?_
 refine aE<|fe J J J J fun b1=>rA J J<|rN<|tS<|aG h fun v2 e1 h=>aa.ghost<|aj.eB (kb:=iJ) e1 .p2 J<|aj.here<|aa.bM (id:=1) (A:=[0,1,3,7,0,16,48,112,240,496,1023,2047]) 12 mixed J (by kernel_rfl) (by kernel_rfl)<|AM.qv (ar J) J<|AM.qv (aq J) J<|AM.qv (au J J) J<|AM.qv (aB J J .p0 J) J<|AM.qv (ar J) J<|AM.qv (aq J) J<|AM.qv (au J J) J<|AM.qv (aB J J .p0 J) J<|AM.qv (eA J) J<|AM.qv (cE J J) J<|aG h fun v3 e2 h=>AM.qv (bc J J J e2) J<|AM.qv (bl J) J<|AM.nil<|rN<|tS<|aa.block<|aE<|rM J J<|ah.qv (aq J) J<|rF J J J<|rL J J .p0 J J<|ah.qv (bH J J) J<|rA J J<|rN<|cD h J (fun h=>?_) (fun h=>?_)
 ·refine aE<|rA J J<|ah.ghost<|aj.og (kb:=iJ) e1 (.cons .p0 (.cons .p0 (.cons .p0 .nil))) J .p2<|aj.here<|rN<|aa.ret<|?_
  cases h
  exact hH J [1,1] J ⟨bO,J,J⟩
 ·refine aE<|rM J J<|ah.qv (aq J) J<|rF J J J<|rL J J .p0 J J<|ah.qv (jR J) J<|aG h fun v4 e3 h=>gy J (jn (fun e=>Ap (Option.some.inj e)) e3) (.cons (sW.sD .p2) (.cons (.uG _ _ _ (.cons (.CL _ _ _ .p3 (.cons (.co (.refl _)) (.cons (.co (.refl _)) (.cons (.co (.refl _)) (.cons (.co (.refl _)) (.cons (.co (.refl _)) (.cons (.co (.refl _)) (.cons (.co (.refl _)) (.cons (.co (.refl _)) (.cons (.co (.refl _)) (.cons (.co (.refl _)) (.cons (.co (.refl _)) (.cons (.co (.refl _)) (.cons (.co (.refl _)) (.cons (.co (.refl _)) (.cons (.co (.refl _)) (.cons (.co (.refl _)) .nil))))))))))))))))) .nil)) .nil)) J J<|rA J J<|rN<|cB h J (fun h=>?_) (fun h=>?_)
  ·refine aE<|rA J J<|ah.ghost<|aj.og (kb:=iJ) e1 (.cons .p0 (.cons .p0 (.cons .p0 .nil))) J .p2<|aj.here<|rN<|aa.ret<|?_
   cases h
   exact hH J [1,1] J ⟨bO,J,J⟩
  ·refine aE<|rM J J<|rF J J J<|rL J J .p3 J J<|ah.ghost<|aj.og (kb:=iJ) e1 (.cons .p0 (.cons .p0 (.cons .p0 .nil))) J .p2<|aj.here<|aG h fun v5 e4 h=>aV J (Bg e4) cR (.cons .p1 (.cons .p1 .nil)) J J<|rA J J<|rN<|cB h J (fun h=>?_) (fun h=>?_)
   ·refine aE<|rA J J<|rN<|aa.ret<|?_
    cases h
    exact hH J [0,0] J ⟨bO,J,J⟩
   ·refine tS<|aa.ghost<|aj.eB (kb:=iJ) e1 .p1 J<|aj.here<|aa.bM (id:=8) (A:=[0,1,0,4,12,28,63,127]) 8 mixed J (by kernel_rfl) (by kernel_rfl)<|AM.qv (au J J) J<|AM.qv (aB J J .p5 J) J<|AM.qv (ar J) J<|AM.qv (br J) J<|AM.qv (bg J J) J<|AM.qv (cw (g:=Term.av) J J (.inl .p2) e2 J) J<|AM.qv (ca J J) J<|AM.qv (bl J) J<|AM.nil<|rN<|cD h J (fun h=>?_) (fun h=>?_)
    ·refine aE<|rA J J<|ah.ghost<|aj.og (kb:=iJ) e1 (.cons .p0 (.cons .p0 (.cons .p0 .nil))) J .p1<|aj.here<|rN<|aa.ret<|?_
     cases h
     exact hH J [0,0] J ⟨bO,J,J⟩
    ·refine tK<|aa.cr<|tS<|aa.bM (id:=10) (A:=[0,0,2,6,14,0,32,126,255,511,1023]) 10 mixed J (by kernel_rfl) (by kernel_rfl)<|AM.qv (ar J) J<|AM.qv (ar J) J<|AM.qv (br J) J<|AM.qv (bg J J) J<|AM.qv (cw (g:=Term.av) J J (.inl .p2) e2 J) J<|AM.qv (au J J) J<|AM.qv (aB J J .p5 J) J<|AM.qv (Fe J J) J<|AM.qv (br J) J<|AM.qv (bg J J) J<|AM.nil<|bA (g:=Term.av) (vb:=(⟨v3.Key,v3.gn,min v3.To ao.aW⟩:Term)) J J J J e2 J .p2 J<|ah.ghost<|aj.vC (j:=9) (dt:=.sl 3 (bO ai.toNat 1) 0 (v2.aY.set (aU ((v2.aY.length:Int) - (1:Int))).toNat (⟨v3.Key,v3.gn,min v3.To ao.aW⟩:Term)).length) .p0 J (by rw [List.length_set]) J<|aj.here<|ah.ghost<|aj.jU (kb:=iJ) (v':=(⟨v2.Device,v2.az,v2.State,v2.aY.set (aU ((v2.aY.length:Int) - (1:Int))).toNat (⟨v3.Key,v3.gn,min v3.To ao.aW⟩:Term)⟩:aX)) (s:=Df [(bO ai.toNat 0),(bO ai.toNat 1)]) e1 (.cons .p0 (.cons .p0 (.cons .p0 .nil))) J (fun _=>.p1) fun Mx=>aj.here<|rN<|tS<|aa.ghost<|aj.eB (kb:=iJ) (fR (v:=(⟨v2.Device,v2.az,v2.State,v2.aY.set (aU ((v2.aY.length:Int) - (1:Int))).toNat (⟨v3.Key,v3.gn,min v3.To ao.aW⟩:Term)⟩:aX)) e1) .p1 J<|aj.here<|aG h fun l7 e5 h=>aa.gg (id:=11) (A:=[0,0,2,6,14,0,32,0,128,480,992,2046,4095,8191,16383]) (H0:=[((Mx ai.toNat 1),pR (v2.aY.set (aU ((v2.aY.length:Int) - (1:Int))).toNat (⟨v3.Key,v3.gn,min v3.To ao.aW⟩:Term)))]) (HH:=fun β=>[((β 11),pR l7),((bw ai.toNat),.cells [.str v2.Device.Key,.str v2.Device.Model,.str v2.Device.aK,I v2.Device.ak.dX,I v2.Device.ak.dY,I v2.Device.ak.dI,.sl 2 (Mx ai.toNat 0) 0 v2.Device.bn.length,I v2.az,I v2.State,.sl 3 (Mx ai.toNat 1) 0 (v2.aY.set (aU ((v2.aY.length:Int) - (1:Int))).toNat (⟨v3.Key,v3.gn,min v3.To ao.aW⟩:Term)).length]),((Mx ai.toNat 0),uw v2.Device.bn),(aQ,.mp (ae.map (fun e=>(AV.str e.1,(pA bw) e.2)))),(ll,.bU (xW iJ bw Mx (bD.set ai.toNat (⟨v2.Device,v2.az,v2.State,v2.aY.set (aU ((v2.aY.length:Int) - (1:Int))).toNat (⟨v3.Key,v3.gn,min v3.To ao.aW⟩:Term)⟩:aX)) ai)),(b1,.cells (x5 ao))]) 12 mixed J (by kernel_rfl) (by kernel_rfl) [⟨none,some 11,[],fun _=>((Mx ai.toNat 1),pR (v2.aY.set (aU ((v2.aY.length:Int) - (1:Int))).toNat (⟨v3.Key,v3.gn,min v3.To ao.aW⟩:Term))),none,[]⟩,⟨some 11,none,[],fun b=>(b,pR l7),none,[]⟩] [11] J (by kernel_rfl) J (.cons .p2 .nil) (fun _=>J)<|AT.am 11 J J<|AM.qv (ar J) J<|AM.qv (ar J) J<|AM.qv (aq J) J<|AM.qv (au J J) J<|AM.qv (aB J J .p0 J) J<|AM.qv (au J J) J<|AM.qv (aB J J .p4 J) J<|AM.qv (au J J) J<|AM.qv (aB J J .p4 J) J<|AM.qv (cW J J J J J) J<|AM.ec (xs:=([(⟨ao.Key,ao.At,(345686400000:Int)⟩:Term)]).map Term.av) J J J J J J<|AM.nil<|AT.Ey (V:=fun b=>.sl 3 b 0 l7.length) (Ti:=[((Mx ai.toNat 1),pR (v2.aY.set (aU ((v2.aY.length:Int) - (1:Int))).toNat (⟨v3.Key,v3.gn,min v3.To ao.aW⟩:Term)))]) (Pi:=fun b=>[(b,pR l7)]) (fun _=>J) (fun _=>J) (fun _ _=>J) J (fun _=>J) J J J ?_ ?_
     ·exact iz (g:=Term.av) J J J J J J J J (.list _) e5 (fun _=>.p0) J fun b8=>ah.nil ⟨b8,_,J,J⟩
     refine AT.ra (fun _=>J) fun β=>?_
     generalize β 11=b8
     clear β
     refine ah.qv (aq J) J<|rF J J J<|aC J J J J .p1 J J<|ah.ghost<|aj.jU (kb:=iJ) (v':=(⟨v2.Device,v2.az,v2.State,l7⟩:aX)) (s:=Df [(Mx ai.toNat 0),b8]) (fR (v:=(⟨v2.Device,v2.az,v2.State,v2.aY.set (aU ((v2.aY.length:Int) - (1:Int))).toNat (⟨v3.Key,v3.gn,min v3.To ao.aW⟩:Term)⟩:aX)) e1) (.cons .p1 (.cons .p1 (.cons .p0 .nil))) J (fun _=>.p1) fun bs9=>aj.here<|rN<|aE<|rA J J<|rN<|aa.ret<|?_
     cases h
     exact hH J [0,0] J ⟨bs9,J,J⟩
theorem Aq [GI:bz] {ae:aZ} {ai:ab} {r:Bool} (h:qx ae ai=r):Pu Tryz.prog 161 [aZ.av ae,.mO [.str ai.cj,I ai.No,I ai.aO,I ai.At,I ai.Kind,.str ai.Device,.str ai.Model,.str ai.aK,I ai.az,.str ai.Key,.str ai.Name,.str ai.Value,I ai.aW,I ai.ak.dX,I ai.ak.dY,I ai.ak.dI]] (.bool r):=by
 unfold qx at h
 refine aH.bj Tryz.func161 J Tryz.ntmps161 Tryz.results161 J J ?_
 refine aE<|fe J J J J fun b1=>rA J J<|rN<|aE<|rF J J J<|rL J J .p0 J J<|ah.qv (eE J J) J<|ah.qv (bV J J J) J<|ah.qv (iI J J) J<|rA J J<|rN<|aa.ret<|?_
 obtain rfl:=h
 exact hP J J
theorem kB [GI:bz] {ae:List aZ} {iF:aZ→Option Bool} {dZ:FuncId} [bf Tryz.prog dZ] {fZ:List AV} (mK:∀ {y0:_} {u:Bool},iF y0=some u→Pu Tryz.prog dZ (aZ.av y0 :: fZ) (.bool u)) {r:Int} (h:dL ae iF=some r):Pu Tryz.prog 160 [Qu ae,.func (.func dZ) fZ] (I r):=by
 unfold dL at h
 refine aH.bj Tryz.func160 J Tryz.ntmps160 Tryz.results160 J J ?_
 refine aE<|rA J J<|rN<|tS<|aE<|rM J J<|ah.qv (ff J) J<|rM J J<|rN<|aa.block<|aa.eU (fun x:Int=>eo ae iF x) (fun x aI=>aI=⟨19,[(0,Qu ae),(1,.func (.func dZ) fZ),(7,I (ae.length:Int)),(8,I x)],[]⟩) h ?_ ?_
 ·exact aj.lq [] J J J
 ·intro n2 z1 aI J1 iQ h lK fS
  obtain rfl:=iQ
  replace h:eo ae iF n2=some z1:=h
  unfold eo at h
  refine aE<|ah.qv (ca J J) J<|rN<|tS<|cD h J (fun h=>?_) (fun h=>?_)
  ·refine tK<|tS<|aa.block<|aE<|rM J J<|rA J J<|rN<|aE<|rM J J<|rM J J<|rM J J<|aG h fun v3 e1 h=>ah.qv (cu J J J e1 J J) J<|ah.qv (bt J J J) J<|aG h fun v4 e2 h=>pv J J (mK e2) cR J<|rN<|cB h J (fun h=>?_) (fun h=>?_)
   ·refine aE<|rM J J<|rA J J<|rN<|aa.ret<|have h:=cy h fS;?_
    cases h
    exact hP J J
   ·refine tK<|aa.cr<|tR<|ah.qv (bh J J) J<|rM J J<|rN<|aa.stop<|?_
    cases h
    exact lK _ _ J<|aj.lq [] J J J
  ·refine aa.exit J<|have h:=cy h fS;aE<|rA J J<|rN<|aa.ret<|?_
   cases h
   exact hP J J
theorem qH [GI:bz] {ae:List aZ} {r:(List aZ)} (h:fl ae=some r):aH Tryz.prog 114 [.list 2 (ae.map aZ.av)] [] (T1 (fun oP=>[(oP,.arr 2 (r.map aZ.av))]) (fun oP=>.sl 2 oP 0 r.length)):=by
 unfold fl at h
 refine aH.fg ?_
 refine aH.bj Tryz.func114 J Tryz.ntmps114 Tryz.results114 J J ?_
 refine aa.seq ?_
 refine aa.region ?_
 refine ah.qv (bl J) J ?_
 refine ah.nil ?_
 refine aa.seq ?_
 refine aa.seq ?_
 refine aa.region ?_
 refine ah.qv (ar J) J ?_
 refine FB J J J J (fun c hc=>?_)
 refine ah.nil ?_
 refine aa.cond J (fun hT=>?_) (fun hF=>?_)
 ·obtain rfl:=vH h (List.map_eq_nil_iff.1 (hc hT))
  refine aa.seq ?_
  refine aa.region ?_
  refine ah.qv (bl J) J ?_
  refine ah.nil ?_
  refine aa.ret ?_
  refine aj.arr (s:=2) 2 J (fun b1=>?_)
  exact aj.here ⟨_,.cons (.tmp _ _ J) .nil,_,.cons .here .nil,⟨b1,J,J⟩⟩
 ·refine aa.skip ?_
  refine aa.seq ?_
  refine aa.region ?_
  refine jS (xs:=([]:List aZ).map aZ.av) J J J J J J (fun b2=>?_)
  refine ah.qv (ar J) J ?_
  refine iz (g:=aZ.av) (Xs:=[]) J J J J J J J J (.list _) h (fun _=>.here) J (fun b3=>?_)
  refine ah.qv (bl J) J ?_
  refine ah.nil ?_
  refine aa.ret ?_
  exact aj.here ⟨_,.cons (.tmp _ _ J) .nil,_,.cons .here .nil,⟨b3,J,J⟩⟩
theorem Ar [GI:bz] {ae:aZ} {ai:ab} {r:Bool} (h:qy ae ai=r):Pu Tryz.prog 163 [aZ.av ae,.mO [.str ai.cj,I ai.No,I ai.aO,I ai.At,I ai.Kind,.str ai.Device,.str ai.Model,.str ai.aK,I ai.az,.str ai.Key,.str ai.Name,.str ai.Value,I ai.aW,I ai.ak.dX,I ai.ak.dY,I ai.ak.dI]] (.bool r):=by
 unfold qy at h
 refine aH.bj Tryz.func163 J Tryz.ntmps163 Tryz.results163 J J ?_
 refine aE<|fe J J J J fun b1=>rA J J<|rN<|aE<|rF J J J<|rL J J .p0 J J<|ah.qv (eE J J) J<|ah.qv (bV J J J) J<|ah.qv (iI J J) J<|rA J J<|rN<|aa.ret<|?_
 obtain rfl:=h
 exact hP J J
theorem oL [GI:bz] {aQ:Bk} {ae:List aZ} {iF:aZ→Option Bool} {dZ:FuncId} [bf Tryz.prog dZ] {fZ:List AV} (mK:∀ {y0:_} {u:Bool},iF y0=some u→Pu Tryz.prog dZ (aZ.av y0 :: fZ) (.bool u)) {r:(List aZ)} (h:eR ae iF=some r):aH Tryz.prog 162 [.sl 2 aQ 0 ae.length,.func (.func dZ) fZ] [(aQ,uw ae)] (T1 (fun oP=>[(oP,uw r)]) (fun oP=>.sl 2 oP 0 r.length)):=by
 unfold eR at h
 refine aH.fg ?_
 refine aH.bj Tryz.func162 J Tryz.ntmps162 Tryz.results162 J J ?_
 refine aE<|rA J J<|rN<|aE<|rM J J<|rM J J<|aG h fun v1 e1 h=>gy J (kB mK e1) (.cons (sW.sD .p0) (.cons (.co (.refl _)) .nil)) J J<|rA J J<|rN<|tS<|aE<|rM J J<|ah.qv (bH J J) J<|rN<|cD h J (fun h=>?_) (fun h=>?_)
 ·refine aE<|rM J J<|rA J J<|rN<|aa.ret<|?_
  cases h
  exact hH J [0] J ⟨aQ,J,J⟩
 ·refine tK<|tS<|aE<|rM J J<|ah.qv (bh J J) J<|rA J J<|rN<|aa.block<|aa.eU (fun x:(List aZ)×Int×Int=>dU iF x.1 x.2.1 x.2.2) (fun x aI=>aI=⟨42,[(0,.sl 2 aQ 0 x.1.length),(1,.func (.func dZ) fZ),(5,I x.2.1),(6,I x.2.2)],[(aQ,uw x.1)]⟩) h ?_ ?_
  ·exact aj.lq [0] J J J
  ·intro x z1 aI J1 iQ h lK fS
   obtain ⟨l5,n6,n7⟩:=x
   obtain rfl:=iQ
   replace h:dU iF l5 n6 n7=some z1:=h
   unfold dU at h
   refine tS<|aE<|rM J J<|rM J J<|ah.qv (eA J) J<|ah.qv (ca J J) J<|rN<|cD h J (fun h=>?_) (fun h=>?_)
   ·refine tK<|tS<|aa.block<|aE<|rM J J<|rM J J<|aG h fun v8 e2 h=>ah.qv (bc J J J e2) J<|ah.qv (bK (g:=aZ.av) J J (.inl .p0) J e2 J) J<|gd J J J J fun b9=>aC J J J J .p0 J J<|rN<|aE<|rM J J<|ah.qv (aS J J .p0 J) J<|aG h fun v10 e3 h=>pv J J (mK e3) cR J<|ah.qv (cz J) J<|rN<|aa.cut (fun aI=>∃ (sF:List aZ) (n12:Int),dT n7 sF n12=some z1∧aI=⟨42,[(0,.sl 2 aQ 0 sF.length),(1,.func (.func dZ) fZ),(5,I n12),(6,I n7)],[(aQ,uw sF)]⟩) ?_ ?_
    ·refine cB h J (fun h=>?_) (fun h=>?_)
     ·exact aE<|rM J J<|rM J J<|ah.qv (aS J J .p0 J) J<|aG h fun xH e4 h=>ah.qv (bc J J J e4) J<|bA (g:=aZ.av) (vb:=v8) J J J J e4 J .p1 J<|ah.ghost<|aj.eqs (s:=0) (dt:=.sl 2 aQ 0 (l5.set n6.toNat v8).length) J (by rw [List.length_set])<|aj.here<|ah.ghost<|aj.eqs (s:=17) (dt:=.sl 2 aQ 0 (l5.set n6.toNat v8).length) J (by rw [List.length_set])<|aj.here<|ah.ghost<|aj.eqs (s:=22) (dt:=.sl 2 aQ 0 (l5.set n6.toNat v8).length) J (by rw [List.length_set])<|aj.here<|ah.ghost<|aj.eqs (s:=30) (dt:=.sl 2 aQ 0 (l5.set n6.toNat v8).length) J (by rw [List.length_set])<|aj.here<|rN<|tR<|rM J J<|ah.qv (bh J J) J<|rA J J<|rN<|aa.stop<|aj.lq [1] ⟨l5.set n6.toNat v8,aU (n6+(1:Int)),h,J⟩ J J
     ·exact tK<|aa.stop<|aj.lq [1] ⟨l5,n6,h,J⟩ J J
    ·rintro aI ⟨sF,n12,h,rfl⟩
     unfold dT at h
     refine aa.cr<|tR<|rM J J<|ah.qv (bh J J) J<|rA J J<|rN<|aa.stop<|?_
     cases h
     exact lK _ _ J<|aj.lq [0] J J J
   ·refine aa.exit J<|have h:=cy h fS;?_
    unfold jH at h
    refine aE<|rM J J<|rM J J<|aG h fun vW e5 h=>ah.qv (yR J J (.some _ _ _ J) .none J J e5) J<|KD (g:=aZ.av) (Z:=(⟨[],[]⟩:aZ)) (L:=n6) J J J J J J e5 .p0<|ah.ghost<|aj.eqs (s:=0) (dt:=.sl 2 aQ 0 (FD l5 n6 vW.length (⟨[],[]⟩:aZ)).length) J (congrArg (AV.sl 2 aQ 0) (BO e5))<|aj.here<|ah.ghost<|aj.eqs (s:=17) (dt:=.sl 2 aQ 0 (FD l5 n6 vW.length (⟨[],[]⟩:aZ)).length) J (congrArg (AV.sl 2 aQ 0) (BO e5))<|aj.here<|ah.ghost<|aj.eqs (s:=36) (dt:=.sl 2 aQ 0 (FD l5 n6 vW.length (⟨[],[]⟩:aZ)).length) J (congrArg (AV.sl 2 aQ 0) (BO e5))<|aj.here<|rN<|aE<|rM J J<|rM J J<|aG h fun zY e6 h=>ah.qv (yR J J .none (.some _ _ _ J) J J e6) J<|rA J J<|ah.ghost<|aj.PL e6 .p0<|aj.here<|rN<|aa.ret<|?_
    cases h
    exact hH J [0] J ⟨aQ,J,J⟩
theorem As [GI:bz] {ae:aZ} {ai:aZ} {r:Int} (h:oE ae ai=r):Pu Tryz.prog 165 [aZ.av ae,aZ.av ai] (I r):=by
 unfold oE at h
 refine aH.bj Tryz.func165 J Tryz.ntmps165 Tryz.results165 J J ?_
 refine aE<|fe J J J J fun b1=>fe J J J J fun b2=>rA J J<|rN<|aE<|rF J J J<|rL J J .p1 J J<|rF J J J<|rL J J .p0 J J<|aM J (kP J) cR J<|rA J J<|rN<|aa.ret<|?_
 obtain rfl:=h
 exact hP J J
theorem pb:L5 Tryz.prog 164 2:=⟨fun enc hk h1 cf hO g cb cr off cap d w eg hc hH hb hs=>AnyQ.slices_SortFunc_eq Tryz.Dx 2 Tryz.isAgg166 Tryz.sizeOf166 enc hk h1 cf hO g cb cr off cap d w eg hc hH hb hs,fun p cap fv w=>AnyF.slices_SortFunc_none Tryz.Dx p cap fv w⟩
theorem pc [GI:bz] {aQ:Bk} {ae:List aZ} {iF:aZ→aZ→Option Int} {dZ:FuncId} [bf Tryz.prog dZ] {fZ:List AV} (mK:∀ {y0 y1:_} {u:Int},iF y0 y1=some u→@Pu tO Tryz.prog dZ (aZ.av y0 :: aZ.av y1 :: fZ) (I u)) {r:(List aZ)} (h:iL ae iF=some r):aH Tryz.prog 164 [.sl 2 aQ 0 ae.length,.func (.func dZ) fZ] [(aQ,.arr 2 (ae.map aZ.av))] (T0 [(aQ,.arr 2 (r.map aZ.av))] (.mA [])):=
 EC (fn:=iF) pb J @mK (fun _=>J) h
theorem EV [GI:bz] {aQ:Bk} {cO:Bk} {cC:Bk} {ae:aX} {ai:ab} {r:Int×aX} (h:tu ae ai=some r):aH Tryz.prog 112 [.ptr aQ 0,ab.av ai] [(aQ,.cells (zi ae cO cC)),(cO,uw ae.Device.bn),(cC,pR ae.aY)] (T2 (fun tC tD=>[(aQ,.cells (zi r.2 tC tD)),(tC,uw r.2.Device.bn),(tD,pR r.2.aY)]) (fun tC tD=>I r.1)):=by
 unfold tu at h
 refine aH.fg ?_
 refine aH.bj Tryz.func112 J Tryz.ntmps112 Tryz.results112 J J ?_
 refine aE<|fe J J J J fun b1=>rA J J<|rN<|aE<|rM J J<|ah.qv (aq J) J<|rF J J J<|rF J J J<|rL J J .p1 J J<|ah.qv (jR J) J<|aG h fun v2 e1 h=>gy J (kB (fun e=>Aq (Option.some.inj e)) e1) (.cons (sW.sD .p2) (.cons (.uG _ _ _ (.cons (.CL _ _ _ .p0 (.cons (.co (.refl _)) (.cons (.co (.refl _)) (.cons (.co (.refl _)) (.cons (.co (.refl _)) (.cons (.co (.refl _)) (.cons (.co (.refl _)) (.cons (.co (.refl _)) (.cons (.co (.refl _)) (.cons (.co (.refl _)) (.cons (.co (.refl _)) (.cons (.co (.refl _)) (.cons (.co (.refl _)) (.cons (.co (.refl _)) (.cons (.co (.refl _)) (.cons (.co (.refl _)) (.cons (.co (.refl _)) .nil))))))))))))))))) .nil)) .nil)) J J<|rA J J<|rN<|tS<|aa.block<|aE<|rM J J<|ah.qv (aq J) J<|rF J J J<|rF J J J<|rL J J .p1 J J<|ah.qv (iI J J) J<|rA J J<|rN<|cD h J (fun h=>?_) (fun h=>?_)
 ·refine aE<|rA J J<|rN<|aa.ret<|?_
  cases h
  exact hH J [1,1,1] J ⟨cO,cC,J,J⟩
 ·refine tS<|tS<|aa.cut (fun aI=>∃ (c3:Bool),mJ ae ai v2 c3=some r∧aI=⟨83,[(0,.ptr aQ 0),(3,.ptr b1 0),(5,I v2),(21,.bool c3)],[(aQ,.cells (zi ae cO cC)),(cO,uw ae.Device.bn),(cC,pR ae.aY),(b1,.cells (x5 ai))]⟩) ?_ ?_
  ·refine aa.bM (id:=4) (A:=[0,1,3,7,15,31,63,127,7,511,1023,2047,7,4103,16383,32767,65535]) 17 mixed J (by kernel_rfl) (by kernel_rfl)<|AM.qv (ar J) J<|AM.qv (oU J J) J<|AM.qv (ar J) J<|AM.cJ J J J (fun hc=>?_) (fun hc=>?_)
   ·exact have h:=nv hc h;AM.qv (ar J) J<|AM.aA J J J<|AM.qv (aq J) J<|AM.aA J J J<|AM.qv (au J J) J<|AM.aA J J J<|AM.qv (au J J) J<|AM.aA J J J<|AM.qv (aB J J .p1 J) J<|AM.aA J J J<|AM.qv (ar J) J<|AM.aA J J J<|aG h fun v4 e2 h=>AM.qv (bc J J J e2) J<|AM.aA J J J<|AM.qv (bg J J) J<|AM.aA J J J<|AM.qv (cw (g:=aZ.av) J J (.inl .p2) e2 J) J<|AM.aA J J J<|AM.qv (au J J) J<|AM.aA J J J<|AM.qv (aB J J .p0 J) J<|AM.aA J J J<|AM.qv (iI J J) J<|AM.qv (fT J J) J<|AM.qv (bl J) J<|AM.nil<|rN<|aa.stop<|aj.lq [1,1,1,0] ⟨decide (v4.Value=ai.Value),h,J⟩ J J
   ·exact have h:=vz hc h;AM.aF J J J J<|AM.aF J J J J<|AM.aF J J J J<|AM.aF J J J J<|AM.aF J J J J<|AM.aF J J J J<|AM.aF J J J J<|AM.aF J J J J<|AM.aF J J J J<|AM.aF J J J J<|AM.aF J J J J<|AM.qv (eI J J) J<|AM.qv (bl J) J<|AM.nil<|rN<|aa.stop<|aj.lq [1,1,1,0] ⟨false,h,J⟩ J J
  ·rintro aI ⟨c3,h,rfl⟩
   unfold mJ at h
   refine aa.cut (fun aI=>∃ (c5:Bool),mI ae ai v2 c5=some r∧aI=⟨83,[(0,.ptr aQ 0),(3,.ptr b1 0),(5,I v2),(21,.bool c5)],[(aQ,.cells (zi ae cO cC)),(cO,uw ae.Device.bn),(cC,pR ae.aY),(b1,.cells (x5 ai))]⟩) ?_ ?_
   ·refine cB h J (fun h=>?_) (fun h=>?_)
    ·exact tK<|aa.stop<|aj.lq [0,0,0,0] ⟨c3,h,J⟩ J J
    ·refine aa.cut (fun aI=>∃ (c6:Bool),oG ae ai v2 c6=some r∧aI=⟨83,[(0,.ptr aQ 0),(3,.ptr b1 0),(5,I v2),(21,.bool c6)],[(aQ,.cells (zi ae cO cC)),(cO,uw ae.Device.bn),(cC,pR ae.aY),(b1,.cells (x5 ai))]⟩) ?_ ?_
     ·refine tR<|rM J J<|ah.qv (ca J J) J<|rM J J<|ah.cJ J J J (fun hc=>?_) (fun hc=>?_)
      ·rw [qY hc] at h
       exact rF J J J<|rY J J J<|rL J J .p3 J J<|rY J J J<|ah.qv (iI J J) J<|rT J J J<|rA J J<|rN<|aa.stop<|aj.lq [0,0,0,0] ⟨decide (ai.Value=([]:ax)),h,J⟩ J J
      ·rw [qZ hc] at h
       exact rG J J J J<|rG J J J J<|rE J J J<|rA J J<|rN<|aa.stop<|aj.lq [0,0,0,0] ⟨false,h,J⟩ J J
     ·rintro aI ⟨c6,h,rfl⟩
      unfold oG at h
      exact aa.stop<|aj.lq [0,0,0,0] ⟨c6,h,J⟩ J J
   ·rintro aI ⟨c5,h,rfl⟩
    unfold mI at h
    refine cB h J (fun h=>?_) (fun h=>?_)
    ·refine aE<|rA J J<|rN<|aa.ret<|?_
     cases h
     exact hH J [0,0,0] J ⟨cO,cC,J,J⟩
    ·refine tS<|aa.cut (fun aI=>∃ (c7:Bool),oF ae ai c7=some r∧aI=⟨83,[(0,.ptr aQ 0),(3,.ptr b1 0),(45,.bool c7)],[(aQ,.cells (zi ae cO cC)),(cO,uw ae.Device.bn),(cC,pR ae.aY),(b1,.cells (x5 ai))]⟩) ?_ ?_
     ·refine tR<|rM J J<|ah.qv (ca J J) J<|rM J J<|ah.cJ J J J (fun hc=>?_) (fun hc=>?_)
      ·rw [qY hc] at h
       exact rM J J<|rY J J J<|ah.qv (aq J) J<|rY J J J<|rF J J J<|rY J J J<|rF J J J<|rY J J J<|rL J J .p0 J J<|rY J J J<|ah.qv (eA J) J<|rY J J J<|ah.qv (oU J J) J<|rT J J J<|rA J J<|rN<|aa.stop<|aj.lq [0,0,0,0] ⟨decide ((20:Int)≤(ae.Device.bn.length:Int)),h,J⟩ J J
      ·rw [qZ hc] at h
       exact rG J J J J<|rG J J J J<|rG J J J J<|rG J J J J<|rG J J J J<|rG J J J J<|rE J J J<|rA J J<|rN<|aa.stop<|aj.lq [0,0,0,0] ⟨false,h,J⟩ J J
     ·rintro aI ⟨c7,h,rfl⟩
      unfold oF at h
      refine cB h J (fun h=>?_) (fun h=>?_)
      ·refine aE<|rA J J<|rN<|aa.ret<|?_
       cases h
       exact hH J [0,0,0] J ⟨cO,cC,J,J⟩
      ·refine tK<|aa.cr<|aE<|rM J J<|ah.qv (aq J) J<|rF J J J<|rF J J J<|rL J J .p0 J J<|aG h fun v8 e3 h=>vJ J (qH e3) .nil (.cons (sW.sD .p1) .nil) (fun _=>J) (fun _=>J) (fun _=>(.cons (KE.sD (fun _=>J)) .nil)) J fun b9=>ah.qv (jR J) J<|aG h fun v10 e4 h=>vJ J (oL (fun e=>Ar (Option.some.inj e)) e4) (.cons .p0 .nil) (.cons (.co (.refl _)) (.cons (.uG _ _ _ (.cons (.CL _ _ _ .p3 (.cons (.co (.refl _)) (.cons (.co (.refl _)) (.cons (.co (.refl _)) (.cons (.co (.refl _)) (.cons (.co (.refl _)) (.cons (.co (.refl _)) (.cons (.co (.refl _)) (.cons (.co (.refl _)) (.cons (.co (.refl _)) (.cons (.co (.refl _)) (.cons (.co (.refl _)) (.cons (.co (.refl _)) (.cons (.co (.refl _)) (.cons (.co (.refl _)) (.cons (.co (.refl _)) (.cons (.co (.refl _)) .nil))))))))))))))))) .nil)) .nil)) (fun _=>J) (fun _=>J) (fun _=>(.cons (KE.sD (fun _=>J)) .nil)) J fun Ub=>rA J J<|rN<|tS<|aE<|rF J J J<|rL J J .p4 J J<|ah.qv (yB J J) J<|rN<|aa.cut (fun aI=>∃ (JW:Bk) (Ai:List aZ),kZ ae Ai=some r∧aI=⟨83,[(0,.ptr aQ 0),(6,.sl 2 JW 0 Ai.length)],[(aQ,.cells (zi ae cO cC)),(cO,uw ae.Device.bn),(cC,pR ae.aY),(JW,uw Ai)]⟩) ?_ ?_
       ·refine cD h J (fun h=>?_) (fun h=>?_)
        ·exact tR<|rM J J<|rF J J J<|rL J J .p4 J J<|rF J J J<|rL J J .p4 J J<|ah.qv (cW J J J J J) J<|aT (xs:=([(⟨ai.Name,ai.Value⟩:aZ)]).map aZ.av) J J J J J J<|aG h fun vW e5 h=>iz (g:=aZ.av) J J J J J J J J (.list _) e5 (fun _=>.p0) J fun Hr=>rA J J<|rN<|aa.stop<|aj.lq [1,1,1,0] ⟨Hr,vW,h,J⟩ J J
        ·exact tK<|aa.stop<|aj.lq [1,1,1,0] ⟨Ub,v10,h,J⟩ J J
       ·rintro aI ⟨JW,Ai,h,rfl⟩
        unfold kZ at h
        refine aE<|rM J J<|aG h fun qL e6 h=>aV J (pc (fun e=>As (GI:=tO) (Option.some.inj e)) (lu e6)) cR (.cons .p3 .nil) J J<|ah.ghost<|aj.eqs (s:=6) (dt:=.sl 2 JW 0 qL.length) J (congrArg (AV.sl 2 JW 0) (dP e6))<|aj.here<|ah.ghost<|aj.eqs (s:=76) (dt:=.sl 2 JW 0 qL.length) J (congrArg (AV.sl 2 JW 0) (dP e6))<|aj.here<|rN<|aE<|rM J J<|rM J J<|ah.qv (aq J) J<|rF J J J<|rF J J J<|aC J J J J .p1 J J<|rN<|aE<|rA J J<|rN<|aa.ret<|?_
        cases h
        exact hH J [1,0,1] J ⟨JW,cC,J,J⟩
theorem EW [GI:bz] {aQ:Bk} {ll:Bk} {bw:Nat→Bk} {bO:Nat→Nat→Bk} {ae:List (ax×Int)} {ai:ab} {ao:List aX} {r:Int×(List (ax×Int))×(List aX)} (h:ry ae ai ao=some r):aH Tryz.prog 56 [.cd aQ,ab.av ai] [(aQ,.mp (ae.map (fun e=>(AV.str e.1,(pA bw) e.2)))),(ll,.bU (gA iJ bw bO ao))] (T2 (fun ET Jb=>[(aQ,.mp (r.2.1.map (fun e=>(AV.str e.1,(pA ET) e.2)))),(ll,.bU (gA iJ ET Jb r.2.2))]) (fun ET Jb=>I r.1)):=by
 unfold ry at h
 refine aH.fg ?_
 refine aH.bj Tryz.func56 J Tryz.ntmps56 Tryz.results56 J J ?_
 refine aE<|fe J J J J fun b1=>rA J J<|rN<|aE<|rM J J<|rF J J J<|rL J J .p0 J J<|Na h (fun e1 h=>?_) (fun n2 e1 h=>?_)
 ·refine ah.qv (vh (gk:=AV.str) (gv:=(pA bw)) (M:=ae) (key:=ai.Device) J J .p1 J e1) J<|rA J J<|rN<|tS<|aE<|rF J J J<|rL J J .p0 J J<|ah.qv (bH J J) J<|rN<|cD h J (fun h=>?_) (fun h=>?_)
  ·refine aE<|rM J J<|ah.qv (aS J J .p0 J) J<|aG h fun v3 e2 h=>oe J (DI e2) cR (.cons .p1 (.cons .p1 .nil)) (fun _ _=>J) J fun T4 T6=>rA J J<|rN<|aa.ret<|?_
   cases h
   exact hH J [0,0] J ⟨T4,T6,J,J⟩
  ·refine tK<|tS<|aa.block<|aE<|rM J J<|ah.qv (C8 J J) J<|rA J J<|rN<|aa.sK J<|aE<|rA J J<|rN<|aa.ret<|?_
   cases h
   exact hH J [1,1] J ⟨bw,bO,J,J⟩
 ·refine ah.qv (vi (gk:=AV.str) (gv:=(pA bw)) (M:=ae) (key:=ai.Device) J J .p1 e1) J<|rA J J<|rN<|tS<|aE<|rF J J J<|rL J J .p0 J J<|ah.qv (bH J J) J<|rN<|cD h J (fun h=>?_) (fun h=>?_)
  ·refine aE<|rM J J<|ah.qv (aS J J .p0 J) J<|aG h fun v6 e3 h=>oe J (DI e3) cR (.cons .p1 (.cons .p1 .nil)) (fun _ _=>J) J fun bo7 bs8=>rA J J<|rN<|aa.ret<|?_
   cases h
   exact hH J [0,0] J ⟨bo7,bs8,J,J⟩
  ·refine tK<|tS<|aa.block<|aE<|rM J J<|ah.qv (FH J J) J<|rA J J<|rN<|aa.wF J<|aE<|rM J J<|ah.qv (aq J) J<|rF J J J<|aG h fun v9 e4 h=>ah.qv (QV.ara (kb:=iJ) e4 .p2 J (aB J J .p0 J)) J<|ah.qv (bH J J) J<|rA J J<|rN<|cD h J (fun h=>?_) (fun h=>?_)
   ·refine aE<|rA J J<|rN<|aa.ret<|?_
    cases h
    exact hH J [1,1] J ⟨bw,bO,J,J⟩
   ·refine tK<|aa.cr<|tS<|aE<|rF J J J<|rL J J .p0 J J<|rN<|aa.block<|aE<|ah.qv (bH J J) J<|rA J J<|rN<|aa.cut (fun aI=>∃ (I3:Nat→Nat→Bk) (l10:List aX),k7 ae l10=some r∧aI=⟨144,[],[(aQ,.mp (ae.map (fun e=>(AV.str e.1,(pA bw) e.2)))),(ll,.bU (gA iJ bw I3 l10))]⟩) ?_ ?_
    ·refine cD h J (fun h=>?_) (fun h=>?_)
     ·refine tS<|aE<|rM J J<|ah.qv (aq J) J<|rF J J J<|ah.qv (QV.ara (kb:=iJ) e4 .p2 J (aB J J .p0 J)) J<|ah.qv (eT J J) J<|rN<|cD h J (fun h=>?_) (fun h=>?_)
      ·refine aE<|rA J J<|rN<|aa.ret<|?_
       cases h
       exact hH J [1,1] J ⟨bw,bO,J,J⟩
      ·refine tK<|aa.ghost<|aj.eB (kb:=iJ) e4 .p2 J<|aj.here<|aa.gg (id:=19) (A:=[0,0,0,4,1,17,49,127,255,511,1023]) (H0:=[((bw n2.toNat),.cells (zi v9 (bO n2.toNat 0) (bO n2.toNat 1)))]) (HH:=fun β=>[((bw n2.toNat),.cells [.str v9.Device.Key,.str v9.Device.Model,.str v9.Device.aK,I v9.Device.ak.dX,I v9.Device.ak.dY,I v9.Device.ak.dI,.sl 2 (bO n2.toNat 0) 0 v9.Device.bn.length,I v9.az,I (2:Int),.sl 3 (bO n2.toNat 1) 0 v9.aY.length]),((bO n2.toNat 0),uw v9.Device.bn),((bO n2.toNat 1),pR v9.aY),(b1,.cells (x5 ai)),(aQ,.mp (ae.map (fun e=>(AV.str e.1,(pA bw) e.2)))),(ll,.bU (xW iJ bw bO ao n2))]) 7 mixed J (by kernel_rfl) (by kernel_rfl) [⟨none,some 6,[],fun _=>((bw n2.toNat),.cells (zi v9 (bO n2.toNat 0) (bO n2.toNat 1))),none,[]⟩,⟨some 6,none,[],fun _=>((bw n2.toNat),.cells [.str v9.Device.Key,.str v9.Device.Model,.str v9.Device.aK,I v9.Device.ak.dX,I v9.Device.ak.dY,I v9.Device.ak.dI,.sl 2 (bO n2.toNat 0) 0 v9.Device.bn.length,I v9.az,I (2:Int),.sl 3 (bO n2.toNat 1) 0 v9.aY.length]),none,[]⟩] [] J (by kernel_rfl) J (.cons .p0 .nil) (fun _=>J)<|AT.am 6 J J<|AM.qv (ar J) J<|AM.qv (ar J) J<|AM.qv (au J J) J<|AM.qv (aB J J .p2 J) J<|AM.qv (aq J) J<|AM.qv (au J J) J<|AM.nil<|AT.vF (Ti:=[((bw n2.toNat),.cells (zi v9 (bO n2.toNat 0) (bO n2.toNat 1)))]) (Pi:=[((bw n2.toNat),.cells [.str v9.Device.Key,.str v9.Device.Model,.str v9.Device.aK,I v9.Device.ak.dX,I v9.Device.ak.dY,I v9.Device.ak.dI,.sl 2 (bO n2.toNat 0) 0 v9.Device.bn.length,I v9.az,I (2:Int),.sl 3 (bO n2.toNat 1) 0 v9.aY.length])]) (fun _=>J) (fun _=>J) (fun _=>J) J J ?_ ?_
       ·exact aC J J J J .p0 J J<|ah.nil ⟨_,J⟩
       exact AT.ra (fun _=>J) fun β=>ah.qv (aq J) J<|rF J J J<|rF J J J<|aC J J J J .p0 J J<|ah.ghost<|aj.jU (kb:=iJ) (v':=(⟨(⟨v9.Device.Key,v9.Device.Model,ai.aK,v9.Device.ak,v9.Device.bn⟩:gh),v9.az,(2:Int),v9.aY⟩:aX)) (s:=Df [(bO n2.toNat 0),(bO n2.toNat 1)]) e4 (.cons .p0 (.cons .p0 (.cons .p0 .nil))) J (fun _=>.p2) fun Uk=>aj.here<|rN<|aa.stop<|aj.lq [1,1] ⟨Uk,ao.set n2.toNat (⟨(⟨v9.Device.Key,v9.Device.Model,ai.aK,v9.Device.ak,v9.Device.bn⟩:gh),v9.az,(2:Int),v9.aY⟩:aX),h,J⟩ J J
     ·refine aE<|ah.qv (bH J J) J<|rA J J<|rN<|aa.cut (fun aI=>∃ (EX:Nat→Nat→Bk) (Ai:List aX),k8 ae Ai=some r∧aI=⟨144,[],[(aQ,.mp (ae.map (fun e=>(AV.str e.1,(pA bw) e.2)))),(ll,.bU (gA iJ bw EX Ai))]⟩) ?_ ?_
      ·refine cD h J (fun h=>?_) (fun h=>?_)
       ·refine tS<|aE<|rM J J<|ah.qv (aq J) J<|rF J J J<|rF J J J<|ah.qv (QV.ara (kb:=iJ) e4 .p2 J (aB J J .p0 J)) J<|ah.qv (iI J J) J<|rN<|cD h J (fun h=>?_) (fun h=>?_)
        ·refine aE<|rA J J<|rN<|aa.ret<|?_
         cases h
         exact hH J [1,1] J ⟨bw,bO,J,J⟩
        ·exact tK<|tR<|rM J J<|rM J J<|rM J J<|ah.qv (aq J) J<|rF J J J<|ah.ghost<|aj.eB (kb:=iJ) e4 .p2 J<|aj.here<|aC J J J J .p0 J J<|ah.qv (aq J) J<|rF J J J<|rF J J J<|aC J J J J .p0 J J<|ah.qv (aq J) J<|rF J J J<|rF J J J<|aC J J J J .p0 J J<|ah.ghost<|aj.BN (j:=6) 2 (fun _=>.p0) J (fun _=>J) (fun _=>J) fun Hr=>aj.here<|ah.ghost<|aj.jU (kb:=iJ) (v':=(⟨(⟨v9.Device.Key,v9.Device.Model,([]:ax),v9.Device.ak,[]⟩:gh),v9.az,(1:Int),v9.aY⟩:aX)) (s:=Df [Hr,(bO n2.toNat 1)]) e4 (.cons .p1 (.cons .p0 (.cons .p1 .nil))) J (fun _=>.p3) fun Ul=>aj.here<|rN<|aa.stop<|aj.lq [2,2] ⟨Ul,ao.set n2.toNat (⟨(⟨v9.Device.Key,v9.Device.Model,([]:ax),v9.Device.ak,[]⟩:gh),v9.az,(1:Int),v9.aY⟩:aX),h,J⟩ J J
       ·refine aE<|ah.qv (bH J J) J<|rA J J<|rN<|cD h J (fun h=>?_) (fun h=>?_)
        ·refine aE<|rM J J<|rM J J<|ah.qv (aS J J .p0 J) J<|aG h fun v17 e5 h=>qm J (EU e5) cR (.cons .p1 (.cons .p1 .nil)) (fun _=>J) J fun Um=>rA J J<|rN<|aa.ret<|?_
         cases h
         exact hH J [0,0] J ⟨bw,Um,J,J⟩
        ·refine aE<|ah.qv (bH J J) J<|rA J J<|rN<|aa.cut (fun aI=>∃ (DD:Nat→Nat→Bk) (GS:List aX),k9 ae GS=some r∧aI=⟨144,[],[(aQ,.mp (ae.map (fun e=>(AV.str e.1,(pA bw) e.2)))),(ll,.bU (gA iJ bw DD GS))]⟩) ?_ ?_
         ·refine cD h J (fun h=>?_) (fun h=>?_)
          ·refine tS<|tS<|aa.bM (id:=27) (A:=[0,1,3,7,15,0,32,127]) 8 mixed J (by kernel_rfl) (by kernel_rfl)<|AM.qv (ar J) J<|AM.qv (aq J) J<|AM.qv (au J J) J<|AM.qv (au J J) J<|AM.qv (QV.ara (kb:=iJ) e4 .p2 J (dN J J .p0 J J)) J<|AM.qv (au J J) J<|AM.qv (dN J J .p0 J J) J<|AM.qv (LY (g:=Version.av) (X:=v9.Device.ak) (Y:=ai.ak) J J J J J) J<|AM.nil<|rN<|cD h J (fun h=>?_) (fun h=>?_)
           ·refine aE<|rA J J<|rN<|aa.ret<|?_
            cases h
            exact hH J [1,1] J ⟨bw,bO,J,J⟩
           ·exact tK<|tR<|rM J J<|rF J J J<|ah.qv (dN J J .p0 J J) J<|ah.qv (aq J) J<|rF J J J<|rF J J J<|ah.ghost<|aj.eB (kb:=iJ) e4 .p2 J<|aj.here<|aC J J J J .p0 J J<|ah.ghost<|aj.jU (kb:=iJ) (v':=(⟨(⟨v9.Device.Key,v9.Device.Model,v9.Device.aK,ai.ak,v9.Device.bn⟩:gh),v9.az,v9.State,v9.aY⟩:aX)) (s:=Df [(bO n2.toNat 0),(bO n2.toNat 1)]) e4 (.cons .p0 (.cons .p0 (.cons .p0 .nil))) J (fun _=>.p2) fun An=>aj.here<|rN<|aa.stop<|aj.lq [1,1] ⟨An,ao.set n2.toNat (⟨(⟨v9.Device.Key,v9.Device.Model,v9.Device.aK,ai.ak,v9.Device.bn⟩:gh),v9.az,v9.State,v9.aY⟩:aX),h,J⟩ J J
          ·refine aE<|ah.qv (bH J J) J<|rA J J<|rN<|cD h J (fun h=>?_) (fun h=>?_)
           ·refine aE<|rM J J<|ah.qv (aS J J .p0 J) J<|ah.ghost<|aj.eB (kb:=iJ) e4 .p2 J<|aj.here<|aG h fun v22 e6 h=>oe J (EV e6) cR (.cons .p0 (.cons .p0 (.cons .p0 .nil))) (fun _ _=>J) J fun Mu XS=>rA J J<|ah.ghost<|aj.jU (kb:=iJ) (v':=v22.2) (s:=Df [Mu,XS]) e4 (.cons .p0 (.cons .p0 (.cons .p0 .nil))) J (fun _=>.p2) fun NN=>aj.here<|rN<|aa.ret<|?_
            cases h
            exact hH J [1,1] J ⟨bw,NN,J,J⟩
           ·refine aE<|ah.qv (bH J J) J<|rA J J<|rN<|aa.cut (fun aI=>∃ (I4:Nat→Nat→Bk) (yn:List aX),lf ae yn=some r∧aI=⟨144,[],[(aQ,.mp (ae.map (fun e=>(AV.str e.1,(pA bw) e.2)))),(ll,.bU (gA iJ bw I4 yn))]⟩) ?_ ?_
            ·refine cD h J (fun h=>?_) (fun h=>?_)
             ·refine tS<|aE<|rM J J<|ah.qv (aq J) J<|rF J J J<|ah.qv (QV.ara (kb:=iJ) e4 .p2 J (aB J J .p0 J)) J<|ah.qv (eT J J) J<|rN<|cD h J (fun h=>?_) (fun h=>?_)
              ·refine aE<|rA J J<|rN<|aa.ret<|?_
               cases h
               exact hH J [1,1] J ⟨bw,bO,J,J⟩
              ·exact tK<|tR<|rM J J<|ah.qv (aq J) J<|rF J J J<|ah.ghost<|aj.eB (kb:=iJ) e4 .p2 J<|aj.here<|aC J J J J .p0 J J<|ah.ghost<|aj.jU (kb:=iJ) (v':=(⟨v9.Device,v9.az,(3:Int),v9.aY⟩:aX)) (s:=Df [(bO n2.toNat 0),(bO n2.toNat 1)]) e4 (.cons .p0 (.cons .p0 (.cons .p0 .nil))) J (fun _=>.p2) fun Un=>aj.here<|rN<|aa.stop<|aj.lq [1,1] ⟨Un,ao.set n2.toNat (⟨v9.Device,v9.az,(3:Int),v9.aY⟩:aX),h,J⟩ J J
             ·refine aE<|ah.qv (bH J J) J<|rA J J<|rN<|aa.cut (fun aI=>∃ (I5:Nat→Nat→Bk) (oN:List aX),lg ae oN=some r∧aI=⟨144,[],[(aQ,.mp (ae.map (fun e=>(AV.str e.1,(pA bw) e.2)))),(ll,.bU (gA iJ bw I5 oN))]⟩) ?_ ?_
              ·refine cD h J (fun h=>?_) (fun h=>?_)
               ·refine tS<|aE<|rM J J<|ah.qv (aq J) J<|rF J J J<|ah.qv (QV.ara (kb:=iJ) e4 .p2 J (aB J J .p0 J)) J<|ah.qv (eT J J) J<|rN<|cD h J (fun h=>?_) (fun h=>?_)
                ·refine aE<|rA J J<|rN<|aa.ret<|?_
                 cases h
                 exact hH J [1,1] J ⟨bw,bO,J,J⟩
                ·exact tK<|tR<|rM J J<|ah.qv (aq J) J<|rF J J J<|ah.ghost<|aj.eB (kb:=iJ) e4 .p2 J<|aj.here<|aC J J J J .p0 J J<|ah.ghost<|aj.jU (kb:=iJ) (v':=(⟨v9.Device,v9.az,(2:Int),v9.aY⟩:aX)) (s:=Df [(bO n2.toNat 0),(bO n2.toNat 1)]) e4 (.cons .p0 (.cons .p0 (.cons .p0 .nil))) J (fun _=>.p2) fun Ll=>aj.here<|rN<|aa.stop<|aj.lq [1,1] ⟨Ll,ao.set n2.toNat (⟨v9.Device,v9.az,(2:Int),v9.aY⟩:aX),h,J⟩ J J
               ·refine aE<|rM J J<|ah.qv (aq J) J<|rF J J J<|ah.ghost<|aj.eB (kb:=iJ) e4 .p2 J<|aj.here<|aC J J J J .p0 J J<|ah.ghost<|aj.jU (kb:=iJ) (v':=(⟨v9.Device,v9.az,(4:Int),v9.aY⟩:aX)) (s:=Df [(bO n2.toNat 0),(bO n2.toNat 1)]) e4 (.cons .p0 (.cons .p0 (.cons .p0 .nil))) J (fun _=>.p2) fun Uo=>aj.here<|rN<|aE<|rM J J<|ah.qv (aq J) J<|rF J J J<|ah.ghost<|aj.eB (kb:=iJ) (fR (v:=(⟨v9.Device,v9.az,(4:Int),v9.aY⟩:aX)) e4) .p2 J<|aj.here<|rL J J .p0 J J<|ah.qv (eA J) J<|rM J J<|ah.ghost<|aj.og (kb:=iJ) (fR (v:=(⟨v9.Device,v9.az,(4:Int),v9.aY⟩:aX)) e4) (.cons .p0 (.cons .p0 (.cons .p0 .nil))) J .p2<|aj.here<|rN<|aa.block<|aa.eU (fun x:(List aX)×Int=>jP ae ai n2 v9 x.1 x.2) (fun x aI=>∃ (EY:Nat→Nat→Bk),aI=⟨144,[(3,.ptr b1 0),(5,.ptr (bw n2.toNat) 0),(36,I (v9.aY.length:Int)),(37,I x.2)],[(aQ,.mp (ae.map (fun e=>(AV.str e.1,(pA bw) e.2)))),(ll,.bU (gA iJ bw EY x.1)),(b1,.cells (x5 ai))]⟩) h ?_ ?_
                ·exact aj.lq [1,1,0] ⟨Uo,J⟩ J J
                ·intro x z1 aI J1 iQ h lK fS
                 obtain ⟨ER,n38⟩:=x
                 obtain ⟨EY,rfl⟩:=iQ
                 replace h:jP ae ai n2 v9 ER n38=some z1:=h
                 unfold jP at h
                 refine aE<|ah.qv (ca J J) J<|rN<|tS<|cD h J (fun h=>?_) (fun h=>?_)
                 ·refine tK<|tS<|aa.block<|aE<|rM J J<|rA J J<|rN<|aE<|rM J J<|ah.qv (aq J) J<|rF J J J<|aG h fun v39 e7 h=>ah.ghost<|aj.eB (kb:=iJ) e7 .p1 J<|aj.here<|rL J J .p0 J J<|rM J J<|aG h fun v40 e8 h=>ah.qv (bc J J J e8) J<|rA J J<|rN<|aa.bM (id:=14) (A:=[0,0,2,6,14,0,32,96,224,0,512,2016,4094,8191,16383,32767]) 15 mixed J (by kernel_rfl) (by kernel_rfl)<|AM.qv (ar J) J<|AM.qv (ar J) J<|AM.qv (br J) J<|AM.qv (bg J J) J<|AM.qv (cw (g:=Term.av) J J (.inl .p2) e8 J) J<|AM.qv (ar J) J<|AM.qv (br J) J<|AM.qv (bg J J) J<|AM.qv (cw (g:=Term.av) J J (.inl .p2) e8 J) J<|AM.qv (au J J) J<|AM.qv (aB J J .p5 J) J<|AM.qv (Cy J J) J<|AM.qv (Fe J J) J<|AM.qv (br J) J<|AM.qv (bg J J) J<|AM.nil<|bA (g:=Term.av) (vb:=(⟨v40.Key,v40.gn,min v40.To (max v40.gn ai.At)⟩:Term)) J J J J e8 J .p2 J<|ah.ghost<|aj.eqs (s:=43) (dt:=.sl 3 (EY n2.toNat 1) 0 (v39.aY.set n38.toNat (⟨v40.Key,v40.gn,min v40.To (max v40.gn ai.At)⟩:Term)).length) J (by rw [List.length_set])<|aj.here<|ah.ghost<|aj.vC (j:=9) (dt:=.sl 3 (EY n2.toNat 1) 0 (v39.aY.set n38.toNat (⟨v40.Key,v40.gn,min v40.To (max v40.gn ai.At)⟩:Term)).length) .p0 J (by rw [List.length_set]) J<|aj.here<|ah.ghost<|aj.jU (kb:=iJ) (v':=(⟨v39.Device,v39.az,v39.State,v39.aY.set n38.toNat (⟨v40.Key,v40.gn,min v40.To (max v40.gn ai.At)⟩:Term)⟩:aX)) (s:=Df [(EY n2.toNat 0),(EY n2.toNat 1)]) e7 (.cons .p0 (.cons .p0 (.cons .p0 .nil))) J (fun _=>.p1) fun Up=>aj.here<|rN<|aa.cr<|tR<|ah.qv (bh J J) J<|rM J J<|rN<|aa.stop<|?_
                  cases h
                  exact lK _ _ J<|aj.lq [0,0,0] ⟨Up,J⟩ J J
                 ·exact aa.exit J<|have h:=cy h fS;aa.stop<|aj.lq [0,0] ⟨EY,ER,h,J⟩ J J
              ·rintro aI ⟨I5,oN,h,rfl⟩
               unfold lg at h
               exact aa.stop<|aj.lq [0,0] ⟨I5,oN,h,J⟩ J J
            ·rintro aI ⟨I4,yn,h,rfl⟩
             unfold lf at h
             exact aa.stop<|aj.lq [0,0] ⟨I4,yn,h,J⟩ J J
         ·rintro aI ⟨DD,GS,h,rfl⟩
          unfold k9 at h
          exact aa.stop<|aj.lq [0,0] ⟨DD,GS,h,J⟩ J J
      ·rintro aI ⟨EX,Ai,h,rfl⟩
       unfold k8 at h
       exact aa.stop<|aj.lq [0,0] ⟨EX,Ai,h,J⟩ J J
    ·rintro aI ⟨I3,l10,h,rfl⟩
     unfold k7 at h
     refine aa.cr<|aE<|rA J J<|rN<|aa.ret<|?_
     cases h
     exact hH J [0,0] J ⟨bw,I3,J,J⟩
theorem wc [GI:bz] {ae:List ab} {r:((List (ax×Int))×(List aX))×(List bd)} (h:pQ ae=some r):aH Tryz.prog 19 [tv ae] [] (T5 (fun oP QH Jc My NO=>[(oP,.mp (r.1.1.map (fun e=>(AV.str e.1,(pA Jc) e.2)))),(QH,.bU (gA iJ Jc My r.1.2)),(NO,Dz r.2)]) (fun oP QH Jc My NO=>.mA [.cd oP,.sl 2 NO 0 r.2.length])):=by
 unfold pQ at h
 refine aH.fg ?_
 refine aH.bj Tryz.func19 J Tryz.ntmps19 Tryz.results19 J J ?_
 refine aa.ghost (aj.FM (kb:=iJ) (fun b1 bo2 bs3=>aj.here ?_))
 refine aE<|rA J J<|rA J J<|rN<|aE<|kE J fun b4=>rA J J<|rN<|aE<|rA J J<|rN<|tS<|aE<|rM J J<|ah.qv (ff J) J<|rM J J<|rN<|aa.block<|aa.eU (fun x:(List aX)×(List (ax×Int))×(List bd)×Int=>ib ae x.1 x.2.1 x.2.2.1 x.2.2.2) (fun x aI=>∃ (Ln:Nat→Bk) (EX:Nat→Nat→Bk) (GW:Bk),aI=⟨31,[(4,.cd b4),(5,.sl 2 GW 0 x.2.2.1.length),(10,tv ae),(11,I (ae.length:Int)),(12,I x.2.2.2)],[(b1,.bU (gA iJ Ln EX x.1)),(b4,.mp (x.2.1.map (fun e=>(AV.str e.1,(pA Ln) e.2)))),(GW,Dz x.2.2.1)]⟩) h ?_ ?_
 ·exact aj.arr (s:=5) 2 J fun Mr=>aj.lq [2,1,0] ⟨bo2,bs3,Mr,J⟩ J J
 ·intro x z1 aI J1 iQ h lK fS
  obtain ⟨tj,zY,ES,n18⟩:=x
  obtain ⟨Ln,EX,GW,rfl⟩:=iQ
  replace h:ib ae tj zY ES n18=some z1:=h
  unfold ib at h
  refine aE<|ah.qv (ca J J) J<|rN<|tS<|cD h J (fun h=>?_) (fun h=>?_)
  ·refine tK<|tS<|aa.block<|aE<|rM J J<|aG h fun v20 e1 h=>ah.qv (cu J J J e1 J J) J<|ah.qv (bt J J J) J<|gd J J J J fun TT=>rA J J<|aC J J J J .p0 J J<|rN<|aE<|rM J J<|ah.qv (aS J J .p0 J) J<|aG h fun v22 e2 h=>oe J (EW e2) cR (.cons .p2 (.cons .p1 .nil)) (fun _ _=>J) J fun I7 Lm=>rA J J<|rN<|aE<|rM J J<|ah.qv (eT J J) J<|rN<|aa.cut (fun aI=>∃ (FY:Bk) (yn:List bd),mf n18 v22 yn=some z1∧aI=⟨31,[(4,.cd b4),(5,.sl 2 FY 0 yn.length),(10,tv ae),(11,I (ae.length:Int)),(12,I n18)],[(b1,.bU (gA iJ I7 Lm v22.2.2)),(b4,.mp (v22.2.1.map (fun e=>(AV.str e.1,(pA I7) e.2)))),(FY,Dz yn)]⟩) ?_ ?_
   ·refine cD h J (fun h=>?_) (fun h=>?_)
    ·exact tR<|rM J J<|rM J J<|rM J J<|ah.qv (cW J J J J J) J<|aT (xs:=([(⟨n18,v22.1⟩:bd)]).map bd.av) J J J J J J<|aG h fun TB e3 h=>iz (g:=bd.av) J J J J J J J J (.list _) e3 (fun _=>.p3) J fun RG=>rA J J<|rN<|aa.stop<|aj.lq [1,0,1] ⟨RG,TB,h,J⟩ J J
    ·exact tK<|aa.stop<|aj.lq [1,0,1] ⟨GW,ES,h,J⟩ J J
   ·rintro aI ⟨FY,yn,h,rfl⟩
    unfold mf at h
    refine aa.cr<|tR<|ah.qv (bh J J) J<|rM J J<|rN<|aa.stop<|?_
    cases h
    exact lK _ _ J<|aj.lq [0,0,0] ⟨I7,Lm,FY,J⟩ J J
  ·refine aa.exit J<|have h:=cy h fS;aE<|rM J J<|rM J J<|rA J J<|rA J J<|rN<|aa.ret<|?_
   cases h
   exact hI J J [1,0,0] J ⟨b4,b1,Ln,EX,GW,J,J⟩
theorem DJ {ae:List Model} {ai:List ab} {ao:ab} {r:(List ab)×Int} (h:rz ae ai ao=some r):Pu Tryz.prog 18 [pa ae,tv ai,ab.av ao] (.mA [tv r.1,I r.2]):=by
 unfold rz at h
 refine aH.bj Tryz.func18 J Tryz.ntmps18 Tryz.results18 J J ?_
 refine aE<|fe J J J J fun b1=>rA J J<|rA J J<|rN<|tS<|tS<|aa.cut (fun aI=>∃ (c2:Bool),o8 ae ai ao c2=some r∧aI=⟨105,[(0,pa ae),(1,tv ai),(5,.ptr b1 0),(22,.bool c2)],[(b1,.cells (x5 ao))]⟩) ?_ ?_
 ·refine tR<|rF J J J<|rL J J .p0 J J<|ah.qv (eT J J) J<|rM J J<|ah.fH J J J (fun hc=>?_) (fun hc=>?_)
  ·rw [BK hc] at h
   exact rF J J J<|rY J J J<|rL J J .p0 J J<|rY J J J<|ah.qv (eT J J) J<|rE J J J<|rN<|aa.stop<|aj.lq [0] ⟨decide (ao.aO≠(0:Int)),h,J⟩ J J
  ·rw [BJ hc] at h
   exact rG J J J J<|rG J J J J<|rT J J J<|rN<|aa.stop<|aj.lq [0] ⟨true,h,J⟩ J J
 ·rintro aI ⟨c2,h,rfl⟩
  unfold o8 at h
  refine cB h J (fun h=>?_) (fun h=>?_)
  ·refine aE<|rA J J<|rA J J<|rN<|aa.ret<|?_
   cases h
   exact aj.co (s:=6) J (.nil 16)<|aj.here ⟨_,.cons (.tmp _ _ J) (.cons (.tmp _ _ J) .nil),J⟩
  ·refine tK<|aE<|rF J J J<|aC J J J J .p0 J J<|rF J J J<|aC J J J J .p0 J J<|rN<|aE<|kE J fun b3=>rF J J J<|rL J J .p1 J J<|C3 (gk:=AV.str) (gv:=AV.bool) (M:=([]:List (ax×Bool))) (key:=ao.cj) (v:=true) J J J J .p0<|rM J J<|rA J J<|rN<|tS<|aE<|rM J J<|ah.qv (ff J) J<|rM J J<|rN<|aa.block<|aa.eU (fun x:Int×Int×(List (ax×Bool))×Int=>jd ae ai ao x.1 x.2.1 x.2.2.1 x.2.2.2) (fun x aI=>aI=⟨105,[(0,pa ae),(1,tv ai),(5,.ptr b1 0),(8,.cd b3),(29,tv ai),(30,I (ai.length:Int)),(31,I x.2.2.2)],[(b1,.cells [.str ao.cj,I x.1,I x.2.1,I ao.At,I ao.Kind,.str ao.Device,.str ao.Model,.str ao.aK,I ao.az,.str ao.Key,.str ao.Name,.str ao.Value,I ao.aW,I ao.ak.dX,I ao.ak.dY,I ao.ak.dI]),(b3,IW x.2.2.1)]⟩) h ?_ ?_
   ·exact aj.lq [1,0] J J J
   ·intro x z1 aI J1 iQ h lK fS
    obtain ⟨n8,n9,l10,n11⟩:=x
    obtain rfl:=iQ
    replace h:jd ae ai ao n8 n9 l10 n11=some z1:=h
    unfold jd at h
    refine aE<|ah.qv (ca J J) J<|rN<|tS<|cD h J (fun h=>?_) (fun h=>?_)
    ·refine tK<|tS<|aa.block<|aE<|aG h fun v12 e1 h=>ah.qv (cu J J J e1 J J) J<|ah.qv (bt J J J) J<|gd J J J J fun pY=>aC J J J J .p0 J J<|rN<|aE<|rF J J J<|rL J J .p1 J J<|rF J J J<|rL J J .p0 J J<|ah.qv (bh J J) J<|ah.qv (Cy J J) J<|rF J J J<|aC J J J J .p1 J J<|rN<|tS<|aE<|rF J J J<|rL J J .p0 J J<|rF J J J<|rL J J .p1 J J<|ah.qv (iI J J) J<|rN<|aa.cut (fun aI=>∃ (n14:Int),ng n9 l10 n11 v12 n14=some z1∧aI=⟨105,[(0,pa ae),(1,tv ai),(5,.ptr b1 0),(8,.cd b3),(10,.ptr pY 0),(29,tv ai),(30,I (ai.length:Int)),(31,I n11)],[(b1,.cells [.str ao.cj,I n14,I (max n9 (aU (v12.aO+(1:Int)))),I ao.At,I ao.Kind,.str ao.Device,.str ao.Model,.str ao.aK,I ao.az,.str ao.Key,.str ao.Name,.str ao.Value,I ao.aW,I ao.ak.dX,I ao.ak.dY,I ao.ak.dI]),(b3,IW l10),(pY,.cells (x5 v12))]⟩) ?_ ?_
     ·refine cD h J (fun h=>?_) (fun h=>?_)
      ·exact tR<|rF J J J<|rL J J .p1 J J<|rF J J J<|rL J J .p0 J J<|ah.qv (bh J J) J<|ah.qv (Cy J J) J<|rF J J J<|aC J J J J .p1 J J<|rN<|aa.stop<|aj.lq [1,1,0] ⟨max n8 (aU (v12.No+(1:Int))),h,J⟩ J J
      ·exact tK<|aa.stop<|aj.lq [1,1,0] ⟨n8,h,J⟩ J J
     ·rintro aI ⟨n14,h,rfl⟩
      unfold ng at h
      refine tR<|rM J J<|rF J J J<|rL J J .p2 J J<|fA (gk:=AV.str) (gv:=AV.bool) (M:=l10) (key:=v12.cj) (v:=true) J J J J .p1<|rN<|aa.cr<|tR<|ah.qv (bh J J) J<|rM J J<|rN<|aa.stop<|?_
      cases h
      exact lK _ _ J<|aj.lq [0,0] J J J
    ·refine aa.exit J<|have h:=cy h fS;?_
     unfold lJ at h
     refine tS<|aE<|rM J J<|ah.qv (aS J J .p0 J) J<|aG h fun pH e2 h=>aM J (tE e2) cR J<|rA J J<|rN<|aE<|rM J J<|ah.qv (eT J J) J<|rN<|cD h J (fun h=>?_) (fun h=>?_)
     ·refine aE<|rM J J<|rA J J<|rA J J<|rN<|aa.ret<|?_
      cases h
      exact aj.co (s:=6) J (.nil 16)<|aj.here ⟨_,.cons (.tmp _ _ J) (.cons (.tmp _ _ J) .nil),J⟩
     ·refine tK<|tS<|aG h fun qL e3 h=>aa.gg (id:=16) (A:=[0,1,0,4,15,31]) (H0:=[]) (HH:=fun β=>[((β 1),gw qL),(b1,.cells [.str ao.cj,I n8,I n9,I ao.At,I ao.Kind,.str ao.Device,.str ao.Model,.str ao.aK,I ao.az,.str ao.Key,.str ao.Name,.str ao.Value,I ao.aW,I ao.ak.dX,I ao.ak.dY,I ao.ak.dI]),(b3,IW l10)]) 4 mixed J (by kernel_rfl) (by kernel_rfl) [⟨some 1,none,[],fun b=>(b,gw qL),none,[]⟩] [1] J (by kernel_rfl) J .nil (fun _=>J)<|AT.am 1 J J<|AM.qv (ar J) J<|AM.nil<|AT.Ey (V:=fun b=>.sl 16 b 0 qL.length) (Ti:=[]) (Pi:=fun b=>[(b,gw qL)]) (fun _=>J) (fun _=>J) (fun _ _=>J) J (fun _=>J) J J J ?_ ?_
      ·exact qm J (lj e3) cR .nil (fun _=>J) J fun Ua=>ah.nil ⟨Ua,_,J,J⟩
      refine AT.am 2 J J<|AM.qv (aS J J .p0 J) J<|AM.ec (xs:=([(⟨ao.cj,n8,n9,ao.At,ao.Kind,ao.Device,ao.Model,ao.aK,ao.az,ao.Key,ao.Name,ao.Value,ao.aW,ao.ak⟩:ab)]).map ab.av) J J J J J J<|AM.nil<|AT.ra (fun _=>J) fun β=>?_
      generalize β 1=Ua
      clear β
      refine aG h fun vV e4 h=>iz (g:=ab.av) J J J J J J J J (.list _) e4 (fun _=>.p0) J fun Mr=>rA J J<|rN<|tS<|aE<|rM J J<|aG h fun v20 e5 h=>ah.ghost<|aj.freeze .p0<|aj.here<|FF J (wc e5) (.cons (Co.nL .p0) .nil) .nil (fun _ _ _ _ _=>J) J fun TT b22 I7 Lm FY=>rM J J<|rX J J J<|rX J J J<|rA J J<|rA J J<|rN<|tS<|aa.cut (fun aI=>∃ (IV:Bool),gV l10 vV v20 IV=some r∧aI=⟨105,[(8,.cd b3),(12,.sl 16 Mr 0 vV.length),(14,.sl 2 FY 0 v20.2.length),(88,.bool IV)],[(b3,IW l10),(Mr,XL vV),(FY,Dz v20.2)]⟩) ?_ ?_
      ·refine tR<|rM J J<|ah.qv (eA J) J<|ah.qv (gx J J) J<|rM J J<|gT h J J J (fun h=>?_) (fun h=>?_)
       ·exact rM J J<|rY J J J<|rM J J<|rY J J J<|ah.qv (eA J) J<|rY J J J<|ah.qv (cE J J) J<|rY J J J<|aG h fun Bc e6 h=>ah.qv (bc J J J e6) J<|rY J J J<|ah.qv (bg J J) J<|rY J J J<|ah.qv (cw (g:=bd.av) J J (.inl .p2) e6 J) J<|rY J J J<|rM J J<|rY J J J<|ah.qv (ff J) J<|rY J J J<|ah.qv (bH J J) J<|rT J J J<|rN<|aa.stop<|aj.lq [5,3,2] ⟨decide (Bc.Event=(ai.length:Int)),h,J⟩ J J
       ·exact rG J J J J<|rG J J J J<|rG J J J J<|rG J J J J<|rG J J J J<|rG J J J J<|rG J J J J<|rG J J J J<|rG J J J J<|rE J J J<|rN<|aa.stop<|aj.lq [5,3,2] ⟨false,h,J⟩ J J
      ·rintro aI ⟨IV,h,rfl⟩
       unfold gV at h
       refine cB h J (fun h=>?_) (fun h=>?_)
       ·refine tS<|aa.bM (id:=19) (A:=[0,0,2,6,15,31,63,0,255]) 9 mixed J (by kernel_rfl) (by kernel_rfl)<|AM.qv (ar J) J<|AM.qv (ar J) J<|AM.qv (eA J) J<|AM.qv (cE J J) J<|aG h fun v28 e7 h=>AM.qv (bc J J J e7) J<|AM.qv (bg J J) J<|AM.qv (cw (g:=bd.av) J J (.inl .p2) e7 J) J<|AM.qv (bl J) J<|AM.qv (bl J) J<|AM.nil<|rN<|aa.ret<|?_
        cases h
        exact aj.co (s:=6) J (.nil 16)<|aj.here ⟨_,.cons (.tmp _ _ J) (.cons (.tmp _ _ J) .nil),J⟩
       ·refine tK<|tS<|tS<|aa.cut (fun aI=>∃ (Qr:Bool),o7 vV Qr=some r∧aI=⟨105,[(12,.sl 16 Mr 0 vV.length),(103,.bool Qr)],[(Mr,XL vV)]⟩) ?_ ?_
        ·refine tR<|rM J J<|ah.qv (eA J) J<|ah.qv (gx J J) J<|rM J J<|ah.fH J J J (fun hc=>?_) (fun hc=>?_)
         ·rw [BK hc] at h
          exact rM J J<|rY J J J<|ah.qv (tZ (gk:=AV.str) (gv:=AV.bool) (M:=l10) J .p0) J<|rY J J J<|ah.qv (gx J J) J<|rE J J J<|rN<|aa.stop<|aj.lq [1] ⟨decide ((20:Int) < (l10.length:Int)),h,J⟩ J J
         ·rw [BJ hc] at h
          exact rG J J J J<|rG J J J J<|rT J J J<|rN<|aa.stop<|aj.lq [1] ⟨true,h,J⟩ J J
        ·rintro aI ⟨Qr,h,rfl⟩
         unfold o7 at h
         refine cB h J (fun h=>?_) (fun h=>?_)
         ·refine aE<|rA J J<|rA J J<|rN<|aa.ret<|?_
          cases h
          exact aj.co (s:=6) J (.nil 16)<|aj.here ⟨_,.cons (.tmp _ _ J) (.cons (.tmp _ _ J) .nil),J⟩
         ·refine tK<|aE<|rM J J<|rA J J<|rA J J<|rN<|aa.ret<|?_
          cases h
          exact aj.co (s:=6) J (Co.nL .p0)<|aj.here ⟨_,.cons (.tmp _ _ J) (.cons (.tmp _ _ J) .nil),J⟩
theorem pU [GI:bz] {ae:List ab} {ai:List ab} {r:Bool} (h:eD ae ai=some r):Pu Tryz.prog 20 [tv ae,tv ai] (.bool r):=by
 unfold eD at h
 refine aH.bj Tryz.func20 J Tryz.ntmps20 Tryz.results20 J J ?_
 refine aE<|rA J J<|rN<|tS<|aE<|rM J J<|ah.qv (ff J) J<|rM J J<|ah.qv (ff J) J<|ah.qv (eT J J) J<|rN<|cD h J (fun h=>?_) (fun h=>?_)
 ·refine aE<|rA J J<|rN<|aa.ret<|?_
  cases h
  exact hP J J
 ·refine tK<|tS<|aE<|rM J J<|ah.qv (ff J) J<|rM J J<|rN<|aa.block<|aa.eU (fun x:Int=>eS ae ai x) (fun x aI=>aI=⟨26,[(0,tv ae),(1,tv ai),(12,I (ae.length:Int)),(13,I x)],[]⟩) h ?_ ?_
  ·exact aj.lq [] J J J
  ·intro n2 z1 aI J1 iQ h lK fS
   obtain rfl:=iQ
   replace h:eS ae ai n2=some z1:=h
   unfold eS at h
   refine aE<|ah.qv (ca J J) J<|rN<|tS<|cD h J (fun h=>?_) (fun h=>?_)
   ·refine tK<|tS<|aa.block<|aE<|rM J J<|rA J J<|rN<|tS<|aa.bM (id:=6) (A:=[0,0,3,7,0,0,48,112,255]) 9 mixed J (by kernel_rfl) (by kernel_rfl)<|AM.qv (ar J) J<|AM.qv (ar J) J<|aG h fun v3 e1 h=>AM.qv (cu J J J e1 J J) J<|AM.qv (bt J J J) J<|AM.qv (ar J) J<|AM.qv (ar J) J<|aG h fun v4 e2 h=>AM.qv (cu J J J e2 J J) J<|AM.qv (bt J J J) J<|AM.qv (Fv (g:=ab.av) (X:=v3) (Y:=v4) J J J J J) J<|AM.nil<|rN<|cD h J (fun h=>?_) (fun h=>?_)
    ·refine aE<|rA J J<|rN<|aa.ret<|have h:=cy h fS;?_
     cases h
     exact hP J J
    ·refine tK<|aa.cr<|tR<|ah.qv (bh J J) J<|rM J J<|rN<|aa.stop<|?_
     cases h
     exact lK _ _ J<|aj.lq [] J J J
   ·refine aa.exit J<|have h:=cy h fS;aE<|rA J J<|rN<|aa.ret<|?_
    cases h
    exact hP J J
theorem nW [GI:bz] {ae:List bd} {ai:List bd} {r:Bool} (h:cY ae ai=some r):Pu Tryz.prog 21 [Li ae,Li ai] (.bool r):=by
 unfold cY at h
 refine aH.bj Tryz.func21 J Tryz.ntmps21 Tryz.results21 J J ?_
 refine aE<|rA J J<|rN<|tS<|aE<|rM J J<|ah.qv (ff J) J<|rM J J<|ah.qv (ff J) J<|ah.qv (eT J J) J<|rN<|cD h J (fun h=>?_) (fun h=>?_)
 ·refine aE<|rA J J<|rN<|aa.ret<|?_
  cases h
  exact hP J J
 ·refine tK<|tS<|aE<|rM J J<|ah.qv (ff J) J<|rM J J<|rN<|aa.block<|aa.eU (fun x:Int=>dH ae ai x) (fun x aI=>aI=⟨26,[(0,Li ae),(1,Li ai),(12,I (ae.length:Int)),(13,I x)],[]⟩) h ?_ ?_
  ·exact aj.lq [] J J J
  ·intro n2 z1 aI J1 iQ h lK fS
   obtain rfl:=iQ
   replace h:dH ae ai n2=some z1:=h
   unfold dH at h
   refine aE<|ah.qv (ca J J) J<|rN<|tS<|cD h J (fun h=>?_) (fun h=>?_)
   ·refine tK<|tS<|aa.block<|aE<|rM J J<|rA J J<|rN<|tS<|aa.bM (id:=6) (A:=[0,0,3,7,0,0,48,112,255]) 9 mixed J (by kernel_rfl) (by kernel_rfl)<|AM.qv (ar J) J<|AM.qv (ar J) J<|aG h fun v3 e1 h=>AM.qv (cu J J J e1 J J) J<|AM.qv (bt J J J) J<|AM.qv (ar J) J<|AM.qv (ar J) J<|aG h fun v4 e2 h=>AM.qv (cu J J J e2 J J) J<|AM.qv (bt J J J) J<|AM.qv (Fv (g:=bd.av) (X:=v3) (Y:=v4) J J J J J) J<|AM.nil<|rN<|cD h J (fun h=>?_) (fun h=>?_)
    ·refine aE<|rA J J<|rN<|aa.ret<|have h:=cy h fS;?_
     cases h
     exact hP J J
    ·refine tK<|aa.cr<|tR<|ah.qv (bh J J) J<|rM J J<|rN<|aa.stop<|?_
     cases h
     exact lK _ _ J<|aj.lq [] J J J
   ·refine aa.exit J<|have h:=cy h fS;aE<|rA J J<|rN<|aa.ret<|?_
    cases h
    exact hP J J
theorem we {ae:List Int} {r:Bool} (h:kA ae=some r):Pu Tryz.prog 3 [ic ae] (.bool r):=by
 unfold kA at h
 refine aH.bj Tryz.func3 J Tryz.ntmps3 Tryz.results3 J J ?_
 refine aE<|rA J J<|rN<|aE<|rM J J<|ah.qv (cW J J J J J) J<|fe J J J J fun b1=>rA J J<|rN<|aE<|rM J J<|aG h fun v2 e1 h=>aV J (zj e1) cR (.cons .p0 .nil) J J<|rA J J<|rN<|aE<|rM J J<|rM J J<|aG h fun v3 e2 h=>aV J (tx e2) cR (.cons .p0 .nil) J J<|aG h fun v4 e3 h=>qm J (x6 e3) cR (.cons .p0 .nil) (fun _=>J) J fun b5=>rA J J<|rN<|aE<|rM J J<|rM J J<|aT (xs:=([(0:Int),(50:Int),(200:Int)]).map I) J J J J J J<|aG h fun v6 e4 h=>aV J (dO e4) cR (.cons .p0 .nil) J J<|aG h fun v7 e5 h=>aV J (pS e5) cR (.cons .p0 .nil) J J<|gd J J J J fun b8=>aC J J J J .p0 J J<|rN<|aE<|rM J J<|aT (xs:=([([104,97]:ax),([104,98]:ax),([104,99]:ax),([65]:ax)]).map AV.str) J J J J J J<|aG h fun v9 e6 h=>aV J (bJ e6) cR (.cons .p1 .nil) J J<|rF J J J<|aC J J J J .p1 J J<|rN<|tS<|aE<|rM J J<|aG h fun v10 e7 h=>aV J (mg e7) cR (.cons .p0 .nil) J J<|rN<|aa.cut (fun aI=>∃ (n11:Int),fO v2 v4 v7 v9 n11=some r∧aI=⟨110,[(4,pa v2.1),(5,.sl 16 b5 0 v4.1.length),(6,.ptr b8 0)],[(b5,gw v4.1),(b8,.cells [.str v9.1,I n11,I v7.1.aO,I v7.1.At,I v7.1.Kind,.str v7.1.Device,.str v7.1.Model,.str v7.1.aK,I v7.1.az,.str v7.1.Key,.str v7.1.Name,.str v7.1.Value,I v7.1.aW,I v7.1.ak.dX,I v7.1.ak.dY,I v7.1.ak.dI])]⟩) ?_ ?_
 ·refine cB h J (fun h=>?_) (fun h=>?_)
  ·exact tR<|rF J J J<|aC J J J J .p1 J J<|rN<|aa.stop<|aj.lq [2,1] ⟨(1:Int),h,J⟩ J J
  ·exact tK<|aa.stop<|aj.lq [2,1] ⟨v7.1.No,h,J⟩ J J
 ·rintro aI ⟨n11,h,rfl⟩
  unfold fO at h
  refine aE<|rM J J<|rM J J<|ah.qv (aS J J .p1 J) J<|aG h fun v12 e8 h=>vJ J (zv e8) .nil (.cons (.co (.refl _)) (.cons (sW.sD .p0) (.cons (.co (.refl _)) .nil))) (fun _=>J) (fun _=>J) (fun _=>(.cons (KE.sD (fun _=>J)) .nil)) J fun pY=>rM J J<|rX J J J<|rX J J J<|rA J J<|rA J J<|rN<|aE<|rM J J<|rM J J<|aG h fun sv e9 h=>vJ J (vq e9) .nil (.cons (.co (.refl _)) (.cons (sW.sD .p1) .nil)) (fun _=>J) (fun _=>J) (fun _=>(.cons (KE.sD (fun _=>J)) .nil)) J fun Hr=>rM J J<|rX J J J<|rX J J J<|rA J J<|rA J J<|rN<|tS<|aE<|rM J J<|aG h fun qL Eg h=>aM J (yb Eg) cR J<|rM J J<|rM J J<|aG h fun v17 Hs h=>gy J (yd Hs) (.cons (.co (.refl _)) (.cons (sW.sD .p2) .nil)) J J<|aT (xs:=([qL,v17]:List Int).map I) J J J J J J<|aG h fun Hp Be h=>aM J (zy Be) cR J<|rA J J<|rN<|aE<|rM J J<|ah.qv (eT J J) J<|rN<|cD h J (fun h=>?_) (fun h=>?_)
  ·refine tS<|aa.cut (fun aI=>∃ (Qs:Bool),eG Qs=some r∧aI=⟨110,[(2,.bool Qs)],[]⟩) ?_ ?_
   ·refine tR<|rM J J<|rM J J<|ah.qv (bH J J) J<|rM J J<|gT h J J J (fun h=>?_) (fun h=>?_)
    ·refine rM J J<|rY J J J<|rM J J<|rY J J J<|ah.qv (bH J J) J<|rT J J J<|rM J J<|gT h J J J (fun h=>?_) (fun h=>?_)
     ·refine rM J J<|rY J J J<|ah.qv (eA J) J<|rY J J J<|rM J J<|rY J J J<|ah.qv (eA J) J<|rY J J J<|ah.qv (bh J J) J<|rY J J J<|ah.qv (bH J J) J<|rT J J J<|rM J J<|gT h J J J (fun h=>?_) (fun h=>?_)
      ·exact aG h fun v20 JU h=>aM J (xI JU) cR J<|rT J J J<|rA J J<|rN<|aa.stop<|aj.lq [] ⟨v20,h,J⟩ J J
      ·exact rE J J J<|rA J J<|rN<|aa.stop<|aj.lq [] ⟨false,h,J⟩ J J
     ·exact rG J J J J<|rG J J J J<|rG J J J J<|rG J J J J<|rG J J J J<|rE J J J<|rM J J<|rG J J J J<|rE J J J<|rA J J<|rN<|aa.stop<|aj.lq [] ⟨false,h,J⟩ J J
    ·exact rG J J J J<|rG J J J J<|rE J J J<|rM J J<|rG J J J J<|rG J J J J<|rG J J J J<|rG J J J J<|rG J J J J<|rG J J J J<|rE J J J<|rM J J<|rG J J J J<|rE J J J<|rA J J<|rN<|aa.stop<|aj.lq [] ⟨false,h,J⟩ J J
   ·rintro aI ⟨Qs,h,rfl⟩
    unfold eG at h
    refine aa.ret<|?_
    cases h
    exact hP J J
  ·refine tK<|aE<|rM J J<|rM J J<|ah.qv (aS J J .p3 J) J<|aG h fun v21 IY h=>ah.ghost<|aj.freeze .p2<|aj.here<|aM J (DJ IY) (.cons (.refl _) (.cons (Co.nL .p2) (.cons (.refl _) .nil))) J<|rM J J<|rX J J J<|rX J J J<|rA J J<|rA J J<|rN<|aE<|rM J J<|aG h fun v22 IZ h=>FF J (wc IZ) (.cons (Co.nL .p2) .nil) .nil (fun _ _ _ _ _=>J) J fun Mu XS acY acZ RF=>rM J J<|rX J J J<|rX J J J<|rA J J<|rA J J<|rN<|tS<|aa.cut (fun aI=>∃ (Qt:Bool),dM Qt=some r∧aI=⟨110,[(2,.bool Qt)],[]⟩) ?_ ?_
   ·refine tR<|rM J J<|rM J J<|ah.qv (bH J J) J<|rM J J<|gT h J J J (fun h=>?_) (fun h=>?_)
    ·refine rM J J<|rY J J J<|rM J J<|rY J J J<|aG h fun nu JV h=>gy J (pU JV) (.cons (sW.sD .p4) (.cons (.co (.refl _)) .nil)) J J<|rT J J J<|rM J J<|ah.guard J J J (fun hc=>?_) (fun hc=>?_)
     ·refine have h:=nv hc h;rM J J<|rY J J J<|ah.qv (bH J J) J<|rT J J J<|rM J J<|gT h J J J (fun h=>?_) (fun h=>?_)
      ·refine rM J J<|rY J J J<|rM J J<|rY J J J<|aG h fun v30 Qx h=>gy J (nW Qx) (.cons (sW.sD .p3) (.cons (sW.sD .p2) .nil)) J J<|rT J J J<|rM J J<|ah.guard J J J (fun hc=>?_) (fun hc=>?_)
       ·exact have h:=nv hc h;aG h fun v31 Lk h=>aM J (xI Lk) cR J<|rT J J J<|rA J J<|rN<|aa.stop<|aj.lq [] ⟨v31,h,J⟩ J J
       ·exact have h:=ql hc h;rE J J J<|rA J J<|rN<|aa.stop<|aj.lq [] ⟨false,h,J⟩ J J
      ·exact rG J J J J<|rG J J J J<|rE J J J<|rM J J<|rG J J J J<|rE J J J<|rA J J<|rN<|aa.stop<|aj.lq [] ⟨false,h,J⟩ J J
     ·exact have h:=ql hc h;rG J J J J<|rE J J J<|rM J J<|rG J J J J<|rG J J J J<|rG J J J J<|rE J J J<|rM J J<|rG J J J J<|rE J J J<|rA J J<|rN<|aa.stop<|aj.lq [] ⟨false,h,J⟩ J J
    ·exact rG J J J J<|rG J J J J<|rE J J J<|rM J J<|rG J J J J<|rG J J J J<|rE J J J<|rM J J<|rG J J J J<|rG J J J J<|rG J J J J<|rE J J J<|rM J J<|rG J J J J<|rE J J J<|rA J J<|rN<|aa.stop<|aj.lq [] ⟨false,h,J⟩ J J
   ·rintro aI ⟨Qt,h,rfl⟩
    unfold dM at h
    refine aa.ret<|?_
    cases h
    exact hP J J
end Go.Proofs.YtjgdilohhcheoaaGreatDoor
