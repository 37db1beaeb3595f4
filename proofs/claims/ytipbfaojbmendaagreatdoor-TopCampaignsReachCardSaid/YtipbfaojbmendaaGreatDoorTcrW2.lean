/- The code computes the plain functions: proofs written by shal.py. -/
import Derived.Test.YtipbfaojbmendaaGreatDoorTcrW1
open List renaming length_set→ac
set_option maxHeartbeats 4000000
set_option maxRecDepth 100000
set_option linter.unusedVariables false
set_option linter.unusedSimpArgs false
namespace Go.Proofs.YtipbfaojbmendaaGreatDoor
open Go Go.Eng Go.Proofs Go.Beacon
attribute [local irreducible] ae ab AQ QV aY aq RC AM
theorem CA [GI:ck] {Lp:Bk} {aa:List ar} {ai:bq} {aL bu:Version} {cA:List (Version×ak)} {r:(List Version)×Bool} (h:kU aa ai aL bu cA=some r):aY Tryz.prog 36 [tu aa,.str ai,Version.av aL,Version.av bu,.bO Lp] [(Lp,vP cA)] (T1 (fun oN=>[(Lp,vP cA),(oN,lv r.1)]) (fun oN=>.ma [.sl 3 oN 0 r.1.length,.bool r.2])):=by
 unfold kU at h
 refine aY.lD ?_
 refine aY.ch Tryz.func36 J Tryz.ntmps36 Tryz.results36 J J ?_
 refine aT<|eA J J J J fun b1=>eA J J J J fun b2=>rA J J<|rA J J<|rN<|aT<|rA J J<|rN<|tS<|aT<|ae.qv (aH J J .p1 J) J<|bY J J J J fun b3=>aI J J J J .p0 J J<|rN<|ab.block<|ab.dR (fun x:(List Version)×Int×Int×Int=>cS aa ai bu cA x.1 x.2.1 x.2.2.1 x.2.2.2) (fun x aS=>∃ (tv:Bk) (qd:Bk),aS=⟨74,[(0,tu aa),(1,.str ai),(4,.bO Lp),(8,.ptr b2 0),(12,.sl 3 tv 0 x.1.length),(13,.ptr qd 0)],[(Lp,vP cA),(b2,.cells [I bu.ax,I bu.aA,I bu.aC]),(tv,lv x.1),(qd,.cells [I x.2.1,I x.2.2.1,I x.2.2.2])]⟩) h ?_ ?_
 ·exact aq.arr (s:=12) 3 J fun Di=>aq.lq [4,2,0,0] ⟨Di,b3,J⟩ J J
 ·intro x z1 aS J1 gS h mD gN
  obtain ⟨jM,n13,n14,n15⟩:=x
  obtain ⟨tv,qd,rfl⟩:=gS
  replace h:cS aa ai bu cA jM n13 n14 n15=some z1:=h
  unfold cS at h
  refine tS<|aT<|ae.qv (aH J J .p3 J) J<|ae.qv (aH J J .p1 J) J<|ae.qv (DX (g:=Version.av) (X:=(⟨n13,n14,n15⟩:Version)) (Y:=bu) J J J J J) J<|rN<|cD h J (fun h=>?_) (fun h=>?_)
  ·refine tK<|tS<|ab.block<|aT<|bY J J J J fun qp=>rN<|aT<|bY J J J J fun vD=>rN<|aT<|rA J J<|rN<|tS<|aT<|rM J J<|rM J J<|ae.qv (aH J J .p5 J) J<|aU h fun kG e1 h=>kK J (qs e1) cR .nil (fun _=>J) J fun za=>ae.qv (iH J) J<|rM J J<|rN<|ab.block<|ab.dR (fun x:Int×Int×Int×Int×Int×Bool×Int=>fW cA jM kG x.1 x.2.1 x.2.2.1 x.2.2.2.1 x.2.2.2.2.1 x.2.2.2.2.2.1 x.2.2.2.2.2.2) (fun x aS=>aS=⟨74,[(0,tu aa),(1,.str ai),(4,.bO Lp),(8,.ptr b2 0),(12,.sl 3 tv 0 jM.length),(13,.ptr qd 0),(14,.ptr qp 0),(15,.ptr vD 0),(16,.bool x.2.2.2.2.2.1),(28,.sl 6 za 0 kG.length),(29,I (kG.length:Int)),(30,I x.2.2.2.2.2.2)],[(Lp,vP cA),(b2,.cells [I bu.ax,I bu.aA,I bu.aC]),(tv,lv jM),(qd,.cells [I n13,I n14,I n15]),(qp,.cells [I x.1,I x.2.1,I x.2.2.1]),(vD,.cells [I x.2.2.2.1,I x.2.2.2.2.1]),(za,yB kG)]⟩) h ?_ ?_
   ·exact aq.lq [3,3,3,3,2,1,0] J J J
   ·intro x z2 aS J2 gS h DA AL
    obtain ⟨n28,n29,n30,n31,n32,xF,n34⟩:=x
    obtain rfl:=gS
    replace h:fW cA jM kG n28 n29 n30 n31 n32 xF n34=some z2:=h
    unfold fW at h
    refine aT<|ae.qv (cJ J J) J<|rN<|tS<|cD h J (fun h=>?_) (fun h=>?_)
    ·refine tK<|tS<|ab.block<|aT<|aU h fun v35 e2 h=>ae.qv (cm J J J e2) J<|ae.qv (gP (g:=ar.av) J J (.inl .p6) J e2 J) J<|bY J J J J fun QG=>aI J J J J .p0 J J<|rN<|aT<|rM J J<|rF J J J<|ae.qv (aP J J .p0 J J) J<|aU h fun v37 e3 h=>ae.qv (zT (gk:=Version.av) (gv:=ak.av) (M:=cA) (key:=v35.Version) (Z:=(⟨0,0⟩:ak)) J J .p1 J J J e3 J) J<|rM J J<|rX J J J<|rX J J J<|bY J J J J fun QH=>aI J J J J .p0 J J<|rA J J<|rN<|aT<|rF J J J<|rL J J .p0 J J<|ae.qv (bQ J J) J<|rF J J J<|rL J J .p0 J J<|rF J J J<|rL J J .p1 J J<|ae.qv (bQ J J) J<|ae.qv (da J J J J J) J<|aI J J J J .p0 J J<|rN<|tS<|ab.cut (fun aS=>∃ (Nv:Bool),gQ n28 n29 n30 n31 n32 xF n34 v35 v37 Nv=some z2∧aS=⟨74,[(0,tu aa),(1,.str ai),(4,.bO Lp),(8,.ptr b2 0),(12,.sl 3 tv 0 jM.length),(13,.ptr qd 0),(14,.ptr qp 0),(15,.ptr vD 0),(16,.bool xF),(18,.ptr QG 0),(19,.ptr QH 0),(28,.sl 6 za 0 kG.length),(29,I (kG.length:Int)),(30,I n34),(60,.bool Nv)],[(Lp,vP cA),(b2,.cells [I bu.ax,I bu.aA,I bu.aC]),(tv,lv jM),(qd,.cells [I n13,I n14,I n15]),(qp,.cells [I n28,I n29,I n30]),(vD,.cells [I n31,I n32]),(QG,.cells (He v35)),(QH,.cells [I (bA (v37.1.bR+1)),I (bA (v37.1.bK+v35.ec))]),(za,yB kG)]⟩) ?_ ?_
     ·refine tR<|rM J J<|rM J J<|ae.guard J J J (fun hc=>?_) (fun hc=>?_)
      ·refine have h:=rk hc h;rM J J<|rY J J J<|ae.qv (dc J) J<|rY J J J<|rM J J<|ae.guard J J J (fun hc=>?_) (fun hc=>?_)
       ·exact have h:=tD hc h;ae.qv (aH J J .p0 J) J<|rY J J J<|ae.qv (aH J J .p7 J) J<|rY J J J<|aU h fun v40 e4 h=>bl J (pM e4) cR J<|rY J J J<|ae.qv (cJ J J) J<|rY J J J<|rE J J J<|rT J J J<|rN<|ab.stop<|aq.lq [2,2,2,2,2,2,1,0,0] ⟨decide (v40 < 0),h,J⟩ J J
       ·exact have h:=rk hc h;rG J J J J<|rG J J J J<|rG J J J J<|rY J J J<|rT J J J<|rT J J J<|rN<|ab.stop<|aq.lq [2,2,2,2,2,2,1,0,0] ⟨true,h,J⟩ J J
      ·exact have h:=tD hc h;rG J J J J<|rG J J J J<|ae.aV J J J<|ae.aV J J J<|ae.aV J J J<|ae.aV J J J<|rG J J J J<|rE J J J<|rN<|ab.stop<|aq.lq [2,2,2,2,2,2,1,0,0] ⟨false,h,J⟩ J J
     ·rintro aS ⟨Nv,h,rfl⟩
      unfold gQ at h
      refine ab.cut (fun aS=>∃ (n41:Int) (n42:Int) (n43:Int) (n44:Int) (n45:Int) (c46:Bool),jf n34 n41 n42 n43 n44 n45 c46=some z2∧aS=⟨74,[(0,tu aa),(1,.str ai),(4,.bO Lp),(8,.ptr b2 0),(12,.sl 3 tv 0 jM.length),(13,.ptr qd 0),(14,.ptr qp 0),(15,.ptr vD 0),(16,.bool c46),(28,.sl 6 za 0 kG.length),(29,I (kG.length:Int)),(30,I n34)],[(Lp,vP cA),(b2,.cells [I bu.ax,I bu.aA,I bu.aC]),(tv,lv jM),(qd,.cells [I n13,I n14,I n15]),(qp,.cells [I n41,I n42,I n43]),(vD,.cells [I n44,I n45]),(za,yB kG)]⟩) ?_ ?_
      ·refine cB h J (fun h=>?_) (fun h=>?_)
       ·refine ab.mh (id:=13) (A:=[0,1,0,3,15,31]) (H0:=[(qp,.cells [I n28,I n29,I n30])]) (HH:=fun β=>[(qp,.cells [I v35.Version.ax,I v35.Version.aA,I v35.Version.aC]),(Lp,vP cA),(b2,.cells [I bu.ax,I bu.aA,I bu.aC]),(tv,lv jM),(qd,.cells [I n13,I n14,I n15]),(vD,.cells [I n31,I n32]),(QG,.cells (He v35)),(QH,.cells [I (bA (v37.1.bR+1)),I (bA (v37.1.bK+v35.ec))]),(za,yB kG)]) 4 mixed J (by kernel_rfl) (by kernel_rfl) [⟨none,some 3,[],fun _=>(qp,.cells [I n28,I n29,I n30]),none,[]⟩,⟨some 3,none,[],fun _=>(qp,.cells [I v35.Version.ax,I v35.Version.aA,I v35.Version.aC]),none,[]⟩] [] J (by kernel_rfl) J (.cons .p4 .nil) (fun _=>J)<|AT.am 3 J J<|AM.qv (aB J J) J<|AM.qv (aP J J .p5 J J) J<|AM.qv (aH J J .p6 J) J<|AM.nil<|AT.MP (Ti:=[(qp,.cells [I n28,I n29,I n30])]) (Pi:=[(qp,.cells [I v35.Version.ax,I v35.Version.aA,I v35.Version.aC])]) (fun _=>J) (fun _=>J) (fun _=>J) J J ?_ ?_
        ·exact aI J J J J .p0 J J<|ae.nil ⟨_,J⟩
        exact AT.yd (fun _=>J) fun β=>aI J J J J .p5 J J<|rA J J<|rN<|ab.stop<|aq.lq [1,1,1,1,0,0,2] ⟨v35.Version.ax,v35.Version.aA,v35.Version.aC,bA (v37.1.bR+1),bA (v37.1.bK+v35.ec),true,h,J⟩ J J
       ·exact tK<|ab.stop<|aq.lq [0,0,0,0,0,0,2] ⟨n28,n29,n30,n31,n32,xF,h,J⟩ J J
      ·rintro aS ⟨n41,n42,n43,n44,n45,c46,h,rfl⟩
       unfold jf at h
       refine ab.dp<|tR<|ae.qv (bQ J J) J<|rM J J<|rN<|ab.stop<|?_
       cases h
       exact DA _ _ J<|aq.lq [0,0,0,0,0,0,0] J J J
    ·refine ab.exit J<|have h:=cW h AL;?_
     unfold mC at h
     refine tS<|aT<|rM J J<|ae.qv (dc J) J<|rN<|cB h J (fun h=>?_) (fun h=>?_)
     ·refine aT<|rA J J<|rA J J<|rN<|ab.ret<|have h:=cW h gN;?_
      cases h
      exact aq.arr (s:=10) 3 J fun Nw=>aq.here ⟨_,.cons (.tmp _ _ J) (.cons (.tmp _ _ J) .nil),_,.cons .p1 (.cons .p0 .nil),⟨Nw,J,J⟩⟩
     ·refine tK<|aU h fun xN e5 h=>ab.mh (id:=17) (A:=[0,0,2,7,0,15,63]) (H0:=[(tv,lv jM)]) (HH:=fun β=>[((β 5),lv xN),(Lp,vP cA),(b2,.cells [I bu.ax,I bu.aA,I bu.aC]),(qd,.cells [I n13,I n14,I n15]),(qp,.cells [I n28,I n29,I n30]),(vD,.cells [I n31,I n32]),(za,yB kG)]) 6 mixed J (by kernel_rfl) (by kernel_rfl) [⟨none,some 3,[],fun _=>(tv,lv jM),none,[]⟩,⟨some 3,some 5,[],fun b=>(b,lv xN),none,[]⟩,⟨some 5,none,[],fun b=>(b,lv xN),none,[]⟩] [3,5] J (by kernel_rfl) J (.cons .p2 .nil) (fun _=>J)<|AT.am 3 J J<|AM.qv (aX J) J<|AM.qv (aH J J .p3 J) J<|AM.dt (xs:=([(⟨n28,n29,n30⟩:Version)]).map Version.av) J J J J J J<|AM.nil<|AT.yO (V:=fun b=>.sl 3 b 0 xN.length) (Ti:=[(tv,lv jM)]) (Pi:=fun b=>[(b,lv xN)]) (fun _=>J) (fun _=>J) (fun _ _=>J) J (fun _=>J) J J J ?_ ?_
      ·exact fO (g:=Version.av) J J J J J J J J (.list _) e5 (fun _=>.p0) J fun UW=>ae.nil ⟨UW,_,J,J⟩
      refine AT.am 1 J J<|AM.qv (aH J J .p3 J) J<|AM.nil<|AT.Ld (V:=fun b=>.sl 3 b 0 xN.length) (Ti:=fun β=>[(β 3,lv xN)]) (Pi:=fun b=>[(b,lv xN)]) (fun _=>J) (fun _=>J) (fun _ _=>J) (fun _=>J) (fun _=>J) J J J (fun β=>?_) ?_
      ·generalize β 3=UW
       exact rA J J<|ae.nil ⟨UW,_,J,J⟩
      refine AT.yd (fun _=>J) fun β=>?_
      generalize β 3=UW
      generalize β 5=Wn
      clear β
      refine aI J J J J .p3 J J<|rN<|ab.dp<|aT<|ae.qv (aH J J .p3 J) J<|rN<|tR<|bY J J J J fun b51=>aI J J J J .p0 J J<|rN<|ab.stop<|?_
      cases h
      exact mD _ _ J<|aq.lq [2,2,1,0] ⟨Wn,b51,J⟩ J J
  ·refine ab.exit J<|have h:=cW h gN;aT<|rM J J<|rA J J<|rA J J<|rN<|ab.ret<|?_
   cases h
   exact hI J J [0,1] J ⟨tv,J,J⟩
theorem ox [GI:ck] {aa:ar} {ai:List Version} {r:Bool} (h:dx aa ai=some r):Pu Tryz.prog 91 [ar.av aa,.cw [Bj ai]] (.bool r):=by
 unfold dx at h
 refine aY.ch Tryz.func91 J Tryz.ntmps91 Tryz.results91 J J ?_
 refine aT<|eA J J J J fun b1=>rA J J<|rN<|tS<|ab.di (id:=1) (A:=[0,1,0,4,12,31,63]) 7 mixed J (by kernel_rfl) (by kernel_rfl)<|AM.qv (aB J J) J<|AM.qv (aP J J .p0 J J) J<|AM.qv (aR J J J) J<|aU h fun v2 e1 h=>AM.qv (bS J J J e1 J J) J<|AM.qv (bw J J J) J<|AM.qv (MD (g:=Version.av) (X:=aa.Version) (Y:=v2) J J J J J) J<|AM.qv (bT J) J<|AM.nil<|rN<|ab.ret<|?_
 cases h
 exact hP J J
theorem lQ [GI:ck] {aa:List ar} {jb:ar→Option Bool} {kD:FuncId} [cq Tryz.prog kD] {nk:List AV} (uH:∀ {y0:_} {u:Bool},jb y0=some u→Pu Tryz.prog kD (ar.av y0 :: nk) (.bool u)) {r:Int} (h:cT aa jb=some r):Pu Tryz.prog 90 [tu aa,.func (.func kD) nk] (I r):=by
 unfold cT at h
 refine aY.ch Tryz.func90 J Tryz.ntmps90 Tryz.results90 J J ?_
 refine aT<|rA J J<|rN<|tS<|aT<|rM J J<|ae.qv (dm J) J<|rM J J<|rN<|ab.block<|ab.dR (fun x:Int=>eO aa jb x) (fun x aS=>aS=⟨19,[(0,tu aa),(1,.func (.func kD) nk),(7,I (aa.length:Int)),(8,I x)],[]⟩) h ?_ ?_
 ·exact aq.lq [] J J J
 ·intro n2 z1 aS J1 gS h mD gN
  obtain rfl:=gS
  replace h:eO aa jb n2=some z1:=h
  unfold eO at h
  refine aT<|ae.qv (cJ J J) J<|rN<|tS<|cD h J (fun h=>?_) (fun h=>?_)
  ·refine tK<|tS<|ab.block<|aT<|rM J J<|rA J J<|rN<|aT<|rM J J<|rM J J<|rM J J<|aU h fun v3 e1 h=>ae.qv (bS J J J e1 J J) J<|ae.qv (bw J J J) J<|aU h fun v4 e2 h=>B2 J J (uH e2) cR J<|rN<|cB h J (fun h=>?_) (fun h=>?_)
   ·refine aT<|rM J J<|rA J J<|rN<|ab.ret<|have h:=cW h gN;?_
    cases h
    exact hP J J
   ·refine tK<|ab.dp<|tR<|ae.qv (bQ J J) J<|rM J J<|rN<|ab.stop<|?_
    cases h
    exact mD _ _ J<|aq.lq [] J J J
  ·refine ab.exit J<|have h:=cW h gN;aT<|rA J J<|rN<|ab.ret<|?_
   cases h
   exact hP J J
theorem vS [GI:ck] {cU bP:Bk} {aa:aM} {ai:bq} {aL:Version} {r:ar×Bool×aM} (h:gI aa ai aL=some r):aY Tryz.prog 74 [.ptr cU 0,.str ai,Version.av aL] [(cU,.cells (BH aa bP)),(bP,ow aa.eT)] (T0 ([(cU,.cells (BH r.2.2 bP)),(bP,ow r.2.2.eT)]) (.ma [ar.av r.1,.bool r.2.1])):=by
 unfold gI at h
 refine aY.lD ?_
 refine aY.ch Tryz.func74 J Tryz.ntmps74 Tryz.results74 J J ?_
 refine aT<|eA J J J J fun b1=>bY J J J J fun b2=>rA J J<|rN<|aT<|rM J J<|ae.qv (ay J) J<|rF J J J<|rL J J .p2 J J<|rM J J<|P9 h (fun e1 h=>?_) (fun m3 e1 h=>?_)
 ·refine ae.qv (I0 (gk:=AV.str) (gv:=(Eg Version.av ak.av)) (M:=aa.eT) (key:=ai) J J .p3 J e1) J<|rM J J<|rX J J J<|rX J J J<|rA J J<|rA J J<|rN<|tS<|aT<|rM J J<|ae.qv (dc J) J<|rN<|ab.Su J<|tS<|ab.di (id:=3) (A:=[0,1,3,7,0,0,32,96,224,511,1023]) 9 mixed J (by kernel_rfl) (by kernel_rfl)<|AM.qv (aX J) J<|AM.qv (ay J) J<|AM.qv (aB J J) J<|AM.qv (aJ J J .p2 J) J<|AM.qv (aX J) J<|AM.qv (aX J) J<|AM.qv (ay J) J<|AM.qv (aB J J) J<|AM.qv (aP J J .p2 J J) J<|AM.nil<|aU h fun v4 e2 h=>kK J (uI e2) cR .nil (fun _=>J) J fun b5=>rA J J<|rN<|tR<|rM J J<|ae.qv (ay J) J<|rF J J J<|rL J J .p3 J J<|rM J J<|rM J J<|ae.ghost<|aq.Tr (gk:=Version.av) (gv:=ak.av) (M:=v4) (ss:=[8,33,39]) (by simp [lk]) .p0<|aq.here<|wo (gk:=AV.str) (gv:=(Eg Version.av ak.av)) (M:=aa.eT) (key:=ai) (v:=v4) J J J J .p3<|rN<|tS<|aU h fun v6 e3 h=>ab.mh (id:=5) (A:=[0,1,3,7,0,0,0,64,192,448,0,2047,4095,8191,8191,0,49151,131071]) (H0:=[]) (HH:=fun β=>[((β 15),.cells [Bj v6.1]),(b2,.cells [I 0,I 0,I 0,.nil,.nil,I 0]),(b1,.cells [I aL.ax,I aL.aA,I aL.aC]),(cU,.cells [tu aa.mi,I aa.Cv.ax,I aa.Cv.aA,I aa.Cv.aC,.bO bP]),(bP,ow (dX aa.eT ai v4))]) 17 mixed J (by kernel_rfl) (by kernel_rfl) [⟨some 15,some 16,[],fun b=>(b,.cells [.nil]),none,[]⟩,⟨some 16,none,[],fun b=>(b,.cells [Bj v6.1]),some 15,[]⟩] [15] J (by kernel_rfl) J .nil (fun _=>J)<|AT.am 15 J J<|AM.qv (aX J) J<|AM.qv (ay J) J<|AM.qv (aB J J) J<|AM.qv (aJ J J .p2 J) J<|AM.qv (aX J) J<|AM.qv (aH J J .p1 J) J<|AM.qv (aX J) J<|AM.qv (ay J) J<|AM.qv (aB J J) J<|AM.qv (aP J J .p2 J J) J<|AM.qv (aX J) J<|AM.kA J (rC e3) cR J<|AM.qv (aX J) J<|AM.qv (jH J J) J<|AM.qv (jH J J) J<|AM.nil<|AT.yO (V:=fun b=>.ptr b 0) (Ti:=[]) (Pi:=fun b=>[(b,.cells [.nil])]) (fun _=>J) (fun _=>J) (fun _ _=>J) J (fun _=>J) J J J ?_ ?_
  ·exact bY J J J J fun b7=>ae.nil ⟨b7,_,J,J⟩
  refine AT.runN (Ti:=fun β=>[((β 15),.cells [.nil])]) (Pi:=fun β=>[((β 15),.cells [Bj v6.1])]) (fun _=>J) (fun _=>J) (fun _ _=>J) (fun _=>J) (fun _=>J) (fun β=>?_) ?_
  ·generalize β 15=b7
   exact aI J J J J .p0 J J<|ae.nil ⟨_,J⟩
  refine AT.yd (fun _=>J) fun β=>?_
  generalize β 15=b7
  clear β
  refine rA J J<|rN<|tS<|tS<|ab.cut (fun aS=>∃ (c8:Bool),jr aa ai v4 v6 c8=some r∧aS=⟨76,[(0,.ptr cU 0),(6,.ptr b2 0),(10,.ptr b7 0),(61,.bool c8)],[(cU,.cells [tu aa.mi,I aa.Cv.ax,I aa.Cv.aA,I aa.Cv.aC,.bO bP]),(bP,ow (dX aa.eT ai v4)),(b2,.cells [I 0,I 0,I 0,.nil,.nil,I 0]),(b7,.cells [Bj v6.1])]⟩) ?_ ?_
  ·refine tR<|rM J J<|ae.qv (dc J) J<|rM J J<|ae.guard J J J (fun hc=>?_) (fun hc=>?_)
   ·rw [ya hc] at h
    exact rL J J .p0 J J<|rY J J J<|ae.qv (dm J) J<|rY J J J<|ae.qv (fY J J) J<|rE J J J<|rN<|ab.stop<|aq.lq [3,3,1,0] ⟨decide ((v6.1.length:Int)=0),h,J⟩ J J
   ·rw [x9 hc] at h
    exact rG J J J J<|rG J J J J<|rT J J J<|rN<|ab.stop<|aq.lq [3,3,1,0] ⟨true,h,J⟩ J J
  ·rintro aS ⟨c8,h,rfl⟩
   unfold jr at h
   refine cB h J (fun h=>?_) (fun h=>?_)
   ·refine aT<|ae.qv (da J J J J J) J<|aI J J J J .p2 J J<|rA J J<|rN<|ab.ret<|?_
    cases h
    exact aq.E9 (j:=3) 1 .p2 J J J<|aq.E9 (j:=4) 6 .p2 J J J<|aq.here ⟨_,.cons (.all _ _ _ _ _ _ J .p2 aF.h aZ.h J J) (.cons (.tmp _ _ J) .nil),_,.cons .p0 (.cons .p0 .nil),⟨J,J⟩⟩
   ·refine tK<|aT<|rM J J<|ae.qv (ay J) J<|rF J J J<|rL J J .p0 J J<|ae.qv (sN J) J<|aU h fun v9 e4 h=>gb J (lQ (fun e=>ox e) e4) (.cons (.co (.refl _)) (.cons (.Gm _ _ _ (.cons (.xB _ _ _ .p3 (.cons (.co (.refl _)) .nil)) .nil)) .nil)) J J<|rA J J<|rN<|aT<|rM J J<|ae.qv (ay J) J<|rF J J J<|rL J J .p0 J J<|rM J J<|aU h fun v10 e5 h=>ae.qv (bS J J J e5 J J) J<|ae.qv (bw J J J) J<|aI J J J J .p2 J J<|rA J J<|rN<|ab.ret<|?_
    cases h
    exact aq.here ⟨_,.cons (.all _ _ _ _ _ _ J .p2 aF.h aZ.h J J) (.cons (.tmp _ _ J) .nil),_,.cons .p0 (.cons .p0 .nil),⟨J,J⟩⟩
 ·refine ae.qv (I1 (gk:=AV.str) (gv:=(Eg Version.av ak.av)) (M:=aa.eT) (key:=ai) J J .p3 e1) J<|rM J J<|rX J J J<|rX J J J<|rA J J<|rA J J<|rN<|tS<|aT<|rM J J<|ae.qv (dc J) J<|rN<|ab.Sv J<|tK<|tS<|aU h fun v11 e6 h=>ab.mh (id:=5) (A:=[0,1,3,7,0,0,0,64,192,448,0,2047,4095,8191,8191,0,49151,131071]) (H0:=[]) (HH:=fun β=>[((β 15),.cells [Bj v11.1]),(b2,.cells [I 0,I 0,I 0,.nil,.nil,I 0]),(b1,.cells [I aL.ax,I aL.aA,I aL.aC]),(cU,.cells (BH aa bP)),(bP,ow aa.eT)]) 17 mixed J (by kernel_rfl) (by kernel_rfl) [⟨some 15,some 16,[],fun b=>(b,.cells [.nil]),none,[]⟩,⟨some 16,none,[],fun b=>(b,.cells [Bj v11.1]),some 15,[]⟩] [15] J (by kernel_rfl) J .nil (fun _=>J)<|AT.am 15 J J<|AM.qv (aX J) J<|AM.qv (ay J) J<|AM.qv (aB J J) J<|AM.qv (aJ J J .p2 J) J<|AM.qv (aX J) J<|AM.qv (aH J J .p1 J) J<|AM.qv (aX J) J<|AM.qv (ay J) J<|AM.qv (aB J J) J<|AM.qv (aP J J .p2 J J) J<|AM.qv (aX J) J<|AM.kA J (rC e6) cR J<|AM.qv (aX J) J<|AM.qv (jH J J) J<|AM.qv (jH J J) J<|AM.nil<|AT.yO (V:=fun b=>.ptr b 0) (Ti:=[]) (Pi:=fun b=>[(b,.cells [.nil])]) (fun _=>J) (fun _=>J) (fun _ _=>J) J (fun _=>J) J J J ?_ ?_
  ·exact bY J J J J fun qd=>ae.nil ⟨qd,_,J,J⟩
  refine AT.runN (Ti:=fun β=>[((β 15),.cells [.nil])]) (Pi:=fun β=>[((β 15),.cells [Bj v11.1])]) (fun _=>J) (fun _=>J) (fun _ _=>J) (fun _=>J) (fun _=>J) (fun β=>?_) ?_
  ·generalize β 15=qd
   exact aI J J J J .p0 J J<|ae.nil ⟨_,J⟩
  refine AT.yd (fun _=>J) fun β=>?_
  generalize β 15=qd
  clear β
  refine rA J J<|rN<|tS<|tS<|ab.cut (fun aS=>∃ (Ts:Bool),js aa v11 Ts=some r∧aS=⟨76,[(0,.ptr cU 0),(6,.ptr b2 0),(10,.ptr qd 0),(61,.bool Ts)],[(cU,.cells (BH aa bP)),(bP,ow aa.eT),(b2,.cells [I 0,I 0,I 0,.nil,.nil,I 0]),(qd,.cells [Bj v11.1])]⟩) ?_ ?_
  ·refine tR<|rM J J<|ae.qv (dc J) J<|rM J J<|ae.guard J J J (fun hc=>?_) (fun hc=>?_)
   ·rw [ya hc] at h
    exact rL J J .p0 J J<|rY J J J<|ae.qv (dm J) J<|rY J J J<|ae.qv (fY J J) J<|rE J J J<|rN<|ab.stop<|aq.lq [3,3,1,0] ⟨decide ((v11.1.length:Int)=0),h,J⟩ J J
   ·rw [x9 hc] at h
    exact rG J J J J<|rG J J J J<|rT J J J<|rN<|ab.stop<|aq.lq [3,3,1,0] ⟨true,h,J⟩ J J
  ·rintro aS ⟨Ts,h,rfl⟩
   unfold js at h
   refine cB h J (fun h=>?_) (fun h=>?_)
   ·refine aT<|ae.qv (da J J J J J) J<|aI J J J J .p2 J J<|rA J J<|rN<|ab.ret<|?_
    cases h
    exact aq.E9 (j:=3) 1 .p2 J J J<|aq.E9 (j:=4) 6 .p2 J J J<|aq.here ⟨_,.cons (.all _ _ _ _ _ _ J .p2 aF.h aZ.h J J) (.cons (.tmp _ _ J) .nil),_,.cons .p0 (.cons .p0 .nil),⟨J,J⟩⟩
   ·refine tK<|aT<|rM J J<|ae.qv (ay J) J<|rF J J J<|rL J J .p0 J J<|ae.qv (sN J) J<|aU h fun rq e7 h=>gb J (lQ (fun e=>ox e) e7) (.cons (.co (.refl _)) (.cons (.Gm _ _ _ (.cons (.xB _ _ _ .p3 (.cons (.co (.refl _)) .nil)) .nil)) .nil)) J J<|rA J J<|rN<|aT<|rM J J<|ae.qv (ay J) J<|rF J J J<|rL J J .p0 J J<|rM J J<|aU h fun zH e8 h=>ae.qv (bS J J J e8 J J) J<|ae.qv (bw J J J) J<|aI J J J J .p2 J J<|rA J J<|rN<|ab.ret<|?_
    cases h
    exact aq.here ⟨_,.cons (.all _ _ _ _ _ _ J .p2 aF.h aZ.h J J) (.cons (.tmp _ _ J) .nil),_,.cons .p0 (.cons .p0 .nil),⟨J,J⟩⟩
theorem uJ [GI:ck] {cU fb:Bk} {bG:Nat→Bk} {fc:Nat→Nat→Bk} {bW bX bU bP ca cH vE eF:Bk} {aa:ao} {ai:aM} {aL:List DeviceS} {bu cA:Int} {r:(List eo)×aM} (h:iq aa ai aL bu cA=some r):aY Tryz.prog 51 [.ptr cU 0,.ptr vE 0,xP aL,I bu,I cA] [(cU,.cells [.cw [.str aa.c_.Key,I aa.c_.Target.ax,I aa.c_.Target.aA,I aa.c_.Target.aC,I aa.c_.At,nW aa.c_.aG,I aa.c_.bb.cr,I aa.c_.bb.To,I aa.c_.Room],.bO bW,.bO bX,.sl 1 bU 0 aa.open_.length,.sl 1 bP 0 aa.ba.length,.sl 1 ca 0 aa.aO.length,.sl 1 cH 0 aa.aE.length,I aa.aQ,I aa.bM]),(bW,.mp (aa.kM.map (fun e=>(AV.str e.1,(pA bG) e.2)))),(bX,tq aa.cj),(bU,cI aa.open_),(bP,cI aa.ba),(ca,cI aa.aO),(cH,cI aa.aE),(fb,.cC (fV pb bG fc aa.iA)),(vE,.cells (BH ai eF)),(eF,ow ai.eT)] (T1 (fun oN=>[(cU,.cells [.cw [.str aa.c_.Key,I aa.c_.Target.ax,I aa.c_.Target.aA,I aa.c_.Target.aC,I aa.c_.At,nW aa.c_.aG,I aa.c_.bb.cr,I aa.c_.bb.To,I aa.c_.Room],.bO bW,.bO bX,.sl 1 bU 0 aa.open_.length,.sl 1 bP 0 aa.ba.length,.sl 1 ca 0 aa.aO.length,.sl 1 cH 0 aa.aE.length,I aa.aQ,I aa.bM]),(bW,.mp (aa.kM.map (fun e=>(AV.str e.1,(pA bG) e.2)))),(bX,tq aa.cj),(bU,cI aa.open_),(bP,cI aa.ba),(ca,cI aa.aO),(cH,cI aa.aE),(fb,.cC (fV pb bG fc aa.iA)),(vE,.cells (BH r.2 eF)),(eF,ow r.2.eT),(oN,Ln r.1)]) (fun oN=>.sl 5 oN 0 r.1.length)):=by
 unfold iq at h
 refine aY.lD ?_
 refine aY.ch Tryz.func51 J Tryz.ntmps51 Tryz.results51 J J ?_
 refine aT<|eA J J J J fun b1=>ae.ghost<|aq.Th (s:=5) J .p0<|aq.here<|rA J J<|rN<|tS<|tS<|ab.cut (fun aS=>∃ (c2:Bool),iD aa ai aL c2=some r∧aS=⟨136,[(1,.ptr vE 0),(2,xP aL),(5,.cw [.ptr cU 0]),(35,.bool c2)],[(cU,.cells [.cw [.str aa.c_.Key,I aa.c_.Target.ax,I aa.c_.Target.aA,I aa.c_.Target.aC,I aa.c_.At,nW aa.c_.aG,I aa.c_.bb.cr,I aa.c_.bb.To,I aa.c_.Room],.bO bW,.bO bX,.sl 1 bU 0 aa.open_.length,.sl 1 bP 0 aa.ba.length,.sl 1 ca 0 aa.aO.length,.sl 1 cH 0 aa.aE.length,I aa.aQ,I aa.bM]),(bW,.mp (aa.kM.map (fun e=>(AV.str e.1,(pA bG) e.2)))),(fb,.cC (fV pb bG fc aa.iA)),(bX,tq aa.cj),(bU,cI aa.open_),(bP,cI aa.ba),(ca,cI aa.aO),(cH,cI aa.aE),(vE,.cells (BH ai eF)),(eF,ow ai.eT)]⟩) ?_ ?_
 ·refine tR<|ae.qv (aR J J J) J<|ae.qv (ay J) J<|rF J J J<|rL J J .p0 J J<|ae.qv (ri J J) J<|rM J J<|ae.ek J J J (fun hc=>?_) (fun hc=>?_)
  ·rw [yK hc] at h
   exact ae.qv (aR J J J) J<|rY J J J<|ae.qv (ay J) J<|rY J J J<|rF J J J<|rY J J J<|rL J J .p0 J J<|rY J J J<|rM J J<|rY J J J<|rM J J<|rY J J J<|bl J (ym J) cR J<|rY J J J<|ae.qv (dc J) J<|rE J J J<|rN<|ab.stop<|aq.lq [0,0,5,0,0,0,0,0,0,0] ⟨!(jJ aa.c_ bu cA),h,J⟩ J J
  ·rw [yJ hc] at h
   exact rG J J J J<|rG J J J J<|rG J J J J<|rG J J J J<|rG J J J J<|rG J J J J<|rG J J J J<|rT J J J<|rN<|ab.stop<|aq.lq [0,0,5,0,0,0,0,0,0,0] ⟨true,h,J⟩ J J
 ·rintro aS ⟨c2,h,rfl⟩
  unfold iD at h
  refine cB h J (fun h=>?_) (fun h=>?_)
  ·refine aT<|rA J J<|rN<|ab.ret<|?_
   cases h
   exact aq.arr (s:=10) 5 J fun b3=>aq.here ⟨_,.cons (.tmp _ _ J) .nil,_,.cons .p1 (.cons .p1 (.cons .p2 (.cons .p2 (.cons .p2 (.cons .p2 (.cons .p2 (.cons .p1 (.cons .p1 (.cons .p1 (.cons .p0 .nil)))))))))),⟨b3,J,J⟩⟩
  ·refine tK<|aT<|ae.qv (aR J J J) J<|ae.qv (ay J) J<|rF J J J<|rL J J .p0 J J<|ae.qv (bC J) J<|ae.qv (bn J J) J<|ae.qv (aR J J J) J<|rA J J<|rN<|aT<|rA J J<|rN<|tS<|aT<|rM J J<|ae.qv (dm J) J<|rM J J<|rN<|ab.block<|ab.dR (fun x:Int×(List DeviceS)×Int=>et aa ai aL x.1 x.2.1 x.2.2) (fun x aS=>∃ (b9:Bk),aS=⟨136,[(1,.ptr vE 0),(5,.cw [.ptr cU 0]),(11,I x.1),(12,.sl 7 b9 0 x.2.1.length),(43,xP aL),(44,I (aL.length:Int)),(45,I x.2.2)],[(cU,.cells [.cw [.str aa.c_.Key,I aa.c_.Target.ax,I aa.c_.Target.aA,I aa.c_.Target.aC,I aa.c_.At,nW aa.c_.aG,I aa.c_.bb.cr,I aa.c_.bb.To,I aa.c_.Room],.bO bW,.bO bX,.sl 1 bU 0 aa.open_.length,.sl 1 bP 0 aa.ba.length,.sl 1 ca 0 aa.aO.length,.sl 1 cH 0 aa.aE.length,I aa.aQ,I aa.bM]),(bW,.mp (aa.kM.map (fun e=>(AV.str e.1,(pA bG) e.2)))),(fb,.cC (fV pb bG fc aa.iA)),(bX,tq aa.cj),(bU,cI aa.open_),(bP,cI aa.ba),(ca,cI aa.aO),(cH,cI aa.aE),(vE,.cells (BH ai eF)),(eF,ow ai.eT),(b9,I7 x.2.1)]⟩) h ?_ ?_
   ·exact aq.arr (s:=12) 7 J fun qd=>aq.lq [1,1,1,1,1,1,1,1,1,1,0] ⟨qd,J⟩ J J
   ·intro x z1 aS J1 gS h mD gN
    obtain ⟨n8,l10,n11⟩:=x
    obtain ⟨b9,rfl⟩:=gS
    replace h:et aa ai aL n8 l10 n11=some z1:=h
    unfold et at h
    refine aT<|ae.qv (cJ J J) J<|rN<|tS<|cD h J (fun h=>?_) (fun h=>?_)
    ·refine tK<|tS<|ab.block<|aT<|aU h fun oZ e1 h=>ae.qv (bS J J J e1 J J) J<|ae.qv (bw J J J) J<|bY J J J J fun F6=>aI J J J J .p0 J J<|rN<|tS<|ab.di (id:=8) (A:=[0,1,3,7,0,16,63,127]) 8 mixed J (by kernel_rfl) (by kernel_rfl)<|AM.qv (aR J J J) J<|AM.qv (ay J) J<|AM.qv (aB J J) J<|AM.qv (aJ J J .p1 J) J<|AM.qv (aB J J) J<|AM.qv (aJ J J .p0 J) J<|P9 h (fun e2 h=>?_) (fun n15 e2 h=>?_)
     ·refine AM.qv (Cq (gk:=AV.str) (gv:=(pA bG)) (M:=aa.kM) (key:=oZ.Key) J J .p2 J e2) J<|AM.qv (bT J) J<|AM.nil<|rN<|ab.block<|aT<|rM J J<|?_
      cases h
     ·refine AM.qv (yh (gk:=AV.str) (gv:=(pA bG)) (M:=aa.kM) (key:=oZ.Key) J J .p2 e2) J<|AM.qv (bT J) J<|AM.nil<|rN<|ab.block<|aT<|rM J J<|aU h fun Cw e3 h=>gb J (Bm J) (.cons (ku.AI (bp:=fb) (kb:=pb) (bs:=fc) (M:=aa.iA) R4 e3 .p3) .nil) J J<|rA J J<|rN<|ab.cut (fun aS=>∃ (vD:Bk) (n17:Int) (Dh:List DeviceS),er n11 n17 Dh=some z1∧aS=⟨136,[(1,.ptr vE 0),(5,.cw [.ptr cU 0]),(11,I n17),(12,.sl 7 vD 0 Dh.length),(43,xP aL),(44,I (aL.length:Int)),(45,I n11)],[(cU,.cells [.cw [.str aa.c_.Key,I aa.c_.Target.ax,I aa.c_.Target.aA,I aa.c_.Target.aC,I aa.c_.At,nW aa.c_.aG,I aa.c_.bb.cr,I aa.c_.bb.To,I aa.c_.Room],.bO bW,.bO bX,.sl 1 bU 0 aa.open_.length,.sl 1 bP 0 aa.ba.length,.sl 1 ca 0 aa.aO.length,.sl 1 cH 0 aa.aE.length,I aa.aQ,I aa.bM]),(bW,.mp (aa.kM.map (fun e=>(AV.str e.1,(pA bG) e.2)))),(fb,.cC (fV pb bG fc aa.iA)),(bX,tq aa.cj),(bU,cI aa.open_),(bP,cI aa.ba),(ca,cI aa.aO),(cH,cI aa.aE),(vE,.cells (BH ai eF)),(eF,ow ai.eT),(vD,I7 Dh)]⟩) ?_ ?_
      ·refine cB h J (fun h=>?_) (fun h=>?_)
       ·exact tR<|rM J J<|ae.qv (iY J J) J<|rA J J<|rN<|ab.stop<|aq.lq [1,1,1,1,1,1,1,1,1,1,1] ⟨b9,bA (n8 - 1),l10,h,J⟩ J J
       ·refine tS<|ab.cut (fun aS=>∃ (c20:Bool),iB n8 l10 n11 oZ c20=some z1∧aS=⟨136,[(1,.ptr vE 0),(5,.cw [.ptr cU 0]),(11,I n8),(12,.sl 7 b9 0 l10.length),(14,.ptr F6 0),(43,xP aL),(44,I (aL.length:Int)),(45,I n11),(61,.bool c20)],[(cU,.cells [.cw [.str aa.c_.Key,I aa.c_.Target.ax,I aa.c_.Target.aA,I aa.c_.Target.aC,I aa.c_.At,nW aa.c_.aG,I aa.c_.bb.cr,I aa.c_.bb.To,I aa.c_.Room],.bO bW,.bO bX,.sl 1 bU 0 aa.open_.length,.sl 1 bP 0 aa.ba.length,.sl 1 ca 0 aa.aO.length,.sl 1 cH 0 aa.aE.length,I aa.aQ,I aa.bM]),(bW,.mp (aa.kM.map (fun e=>(AV.str e.1,(pA bG) e.2)))),(fb,.cC (fV pb bG fc aa.iA)),(bX,tq aa.cj),(bU,cI aa.open_),(bP,cI aa.ba),(ca,cI aa.aO),(cH,cI aa.aE),(vE,.cells (BH ai eF)),(eF,ow ai.eT),(b9,I7 l10),(F6,.cells (Pg oZ))]⟩) ?_ ?_
        ·refine ab.di (id:=11) (A:=[0,1,3,7,0,16,63,0,128,384,896,1920,4095,8191,16383,16383,65535,131071,262143,524287,1048575,1048575,4194303,8388607,16777215,33554431]) 26 mixed J (by kernel_rfl) (by kernel_rfl)<|AM.qv (aR J J J) J<|AM.qv (ay J) J<|AM.qv (aB J J) J<|AM.qv (aJ J J .p1 J) J<|AM.qv (aB J J) J<|AM.qv (aJ J J .p0 J) J<|aU h fun v21 e4 h=>AM.qv (yT (gk:=AV.str) (gv:=I) (M:=aa.cj) (key:=oZ.Key) (Z:=0) J J .p4 J J J e4 J) J<|AM.qv (aR J J J) J<|AM.qv (ay J) J<|AM.qv (aB J J) J<|AM.qv (aJ J J .p1 J) J<|AM.qv (iH J) J<|AM.qv (cJ J J) J<|AM.qv (aX J) J<|AM.dq J J J (fun hc=>?_) (fun hc=>?_)
         ·rw [sR hc] at h
          refine AM.qv (aR J J J) J<|AM.aD J J J<|AM.qv (aX J) J<|AM.aD J J J<|AM.Mv J (gE J) (.cons (.xB _ _ _ .p1 (.cons (.co (.refl _)) (.cons (.co (.refl _)) (.cons (.co (.refl _)) (.cons (ku.jS .p5) (.cons (ku.jS .p6) (.cons (ku.jS .p7) (.cons (ku.jS (.next .p7)) (.cons (.co (.refl _)) (.cons (.co (.refl _)) .nil)))))))))) (.cons (ku.AI (bp:=fb) (kb:=pb) (bs:=fc) (M:=aa.iA) R4 e3 .p3) .nil)) J J<|AM.aD J J J<|AM.qv (dc J) J<|AM.qv (gr J J) J<|AM.qv (aX J) J<|AM.guard J J J (fun hc=>?_) (fun hc=>?_)
          ·rw [AE hc] at h
           exact AM.qv (aR J J J) J<|AM.aD J J J<|AM.qv (aX J) J<|AM.aD J J J<|AM.Mv J (nn J) (.cons (.xB _ _ _ .p1 (.cons (.co (.refl _)) (.cons (.co (.refl _)) (.cons (.co (.refl _)) (.cons (ku.jS .p5) (.cons (ku.jS .p6) (.cons (ku.jS .p7) (.cons (ku.jS (.next .p7)) (.cons (.co (.refl _)) (.cons (.co (.refl _)) .nil)))))))))) (.cons (ku.AI (bp:=fb) (kb:=pb) (bs:=fc) (M:=aa.iA) R4 e3 .p3) .nil)) J J<|AM.aD J J J<|AM.qv (dc J) J<|AM.qv (gr J J) J<|AM.qv (bT J) J<|AM.nil<|rN<|ab.stop<|aq.lq [1,1,1,1,1,1,1,1,1,1,1,0] ⟨!(cQ aa Cw),h,J⟩ J J
          ·rw [AF hc] at h
           exact AM.az J J J J<|AM.az J J J J<|AM.az J J J J<|AM.qv (eQ J J) J<|AM.qv (bT J) J<|AM.nil<|rN<|ab.stop<|aq.lq [1,1,1,1,1,1,1,1,1,1,1,0] ⟨false,h,J⟩ J J
         ·rw [sS hc] at h
          exact AM.az J J J J<|AM.az J J J J<|AM.az J J J J<|AM.qv (eQ J J) J<|AM.qv (aX J) J<|AM.az J J J J<|AM.az J J J J<|AM.az J J J J<|AM.az J J J J<|AM.qv (eQ J J) J<|AM.qv (bT J) J<|AM.nil<|rN<|ab.stop<|aq.lq [1,1,1,1,1,1,1,1,1,1,1,0] ⟨false,h,J⟩ J J
        ·rintro aS ⟨c20,h,rfl⟩
         unfold iB at h
         refine ab.cut (fun aS=>∃ (L5:Bk) (rO:List DeviceS),fQ n8 n11 rO=some z1∧aS=⟨136,[(1,.ptr vE 0),(5,.cw [.ptr cU 0]),(11,I n8),(12,.sl 7 L5 0 rO.length),(43,xP aL),(44,I (aL.length:Int)),(45,I n11)],[(cU,.cells [.cw [.str aa.c_.Key,I aa.c_.Target.ax,I aa.c_.Target.aA,I aa.c_.Target.aC,I aa.c_.At,nW aa.c_.aG,I aa.c_.bb.cr,I aa.c_.bb.To,I aa.c_.Room],.bO bW,.bO bX,.sl 1 bU 0 aa.open_.length,.sl 1 bP 0 aa.ba.length,.sl 1 ca 0 aa.aO.length,.sl 1 cH 0 aa.aE.length,I aa.aQ,I aa.bM]),(bW,.mp (aa.kM.map (fun e=>(AV.str e.1,(pA bG) e.2)))),(fb,.cC (fV pb bG fc aa.iA)),(bX,tq aa.cj),(bU,cI aa.open_),(bP,cI aa.ba),(ca,cI aa.aO),(cH,cI aa.aE),(vE,.cells (BH ai eF)),(eF,ow ai.eT),(L5,I7 rO)]⟩) ?_ ?_
         ·refine cB h J (fun h=>?_) (fun h=>?_)
          ·exact tR<|rM J J<|ae.qv (aH J J (.next (.next (.next (.next .p7)))) J) J<|bf (xs:=([oZ]:List DeviceS).map DeviceS.av) J J J J J J<|aU h fun AK e5 h=>fO (g:=DeviceS.av) J J J J J J J J (.list _) e5 (fun _=>(.next (.next (.next .p7)))) J fun Ph=>rA J J<|rN<|ab.stop<|aq.lq [0,0,0,0,0,0,0,0,0,0,0] ⟨Ph,AK,h,J⟩ J J
          ·exact tK<|ab.stop<|aq.lq [0,0,0,0,0,0,0,0,0,0,0] ⟨b9,l10,h,J⟩ J J
         ·rintro aS ⟨L5,rO,h,rfl⟩
          unfold fQ at h
          exact ab.stop<|aq.lq [0,0,0,0,0,0,0,0,0,0,0] ⟨L5,n8,rO,h,J⟩ J J
      ·rintro aS ⟨vD,n17,Dh,h,rfl⟩
       unfold er at h
       refine ab.dp<|ab.dp<|tR<|ae.qv (bQ J J) J<|rM J J<|rN<|ab.stop<|?_
       cases h
       exact mD _ _ J<|aq.lq [0,0,0,0,0,0,0,0,0,0,0] ⟨vD,J⟩ J J
    ·refine ab.exit J<|have h:=cW h gN;?_
     unfold fT at h
     refine aT<|rM J J<|ae.qv (sN J) J<|aU h fun v26 e6 h=>Qr J (pL (fun e=>ta (GI:=nB) e) (JS e6)) (.cons (.next (.next (.next .p7))) .nil) (.cons (.co (.refl _)) (.cons (.Gm _ _ _ (.cons (ku.V4 (.cons (.xB _ _ _ .p0 (.cons (.co (.refl _)) (.cons (ku.fm .p1) (.cons (ku.fm .p3) (.cons (ku.jS .p4) (.cons (ku.jS .p5) (.cons (ku.jS .p6) (.cons (ku.jS .p7) (.cons (.co (.refl _)) (.cons (.co (.refl _)) .nil)))))))))) .nil)) .nil)) .nil)) J J<|ae.ghost<|aq.eqs (s:=12) (rf:=.sl 7 b9 0 v26.length) J (congrArg (AV.sl 7 b9 0) (Bz e6))<|aq.here<|ae.ghost<|aq.eqs (s:=92) (rf:=.sl 7 b9 0 v26.length) J (congrArg (AV.sl 7 b9 0) (Bz e6))<|aq.here<|rN<|aT<|rA J J<|rN<|tS<|aT<|rM J J<|ae.qv (iH J) J<|rM J J<|rN<|ab.cut (fun aS=>∃ (Wo:Bk) (AJ:List ar) (n28:Int) (n29:Int) (n30:Int) (Tt:List (bq×(List (Version×ak)))) (Qy:List eo),iC AJ n28 n29 n30 Tt Qy=some r∧aS=⟨136,[(16,.sl 5 Wo 0 Qy.length)],[(cU,.cells [.cw [.str aa.c_.Key,I aa.c_.Target.ax,I aa.c_.Target.aA,I aa.c_.Target.aC,I aa.c_.At,nW aa.c_.aG,I aa.c_.bb.cr,I aa.c_.bb.To,I aa.c_.Room],.bO bW,.bO bX,.sl 1 bU 0 aa.open_.length,.sl 1 bP 0 aa.ba.length,.sl 1 ca 0 aa.aO.length,.sl 1 cH 0 aa.aE.length,I aa.aQ,I aa.bM]),(bW,.mp (aa.kM.map (fun e=>(AV.str e.1,(pA bG) e.2)))),(fb,.cC (fV pb bG fc aa.iA)),(bX,tq aa.cj),(bU,cI aa.open_),(bP,cI aa.ba),(ca,cI aa.aO),(cH,cI aa.aE),(vE,.cells [tu AJ,I n28,I n29,I n30,.bO eF]),(eF,ow Tt),(Wo,Ln Qy)]⟩) ?_ ?_
     ·refine ab.block<|ab.dR (fun x:(List ar)×Int×Int×Int×(List (bq×(List (Version×ak))))×(List eo)×Int=>dA aa n8 v26 x.1 x.2.1 x.2.2.1 x.2.2.2.1 x.2.2.2.2.1 x.2.2.2.2.2.1 x.2.2.2.2.2.2) (fun x aS=>∃ (Nw:Bk),aS=⟨136,[(1,.ptr vE 0),(5,.cw [.ptr cU 0]),(11,I n8),(16,.sl 5 Nw 0 x.2.2.2.2.2.1.length),(95,.sl 7 b9 0 v26.length),(96,I (v26.length:Int)),(97,I x.2.2.2.2.2.2)],[(cU,.cells [.cw [.str aa.c_.Key,I aa.c_.Target.ax,I aa.c_.Target.aA,I aa.c_.Target.aC,I aa.c_.At,nW aa.c_.aG,I aa.c_.bb.cr,I aa.c_.bb.To,I aa.c_.Room],.bO bW,.bO bX,.sl 1 bU 0 aa.open_.length,.sl 1 bP 0 aa.ba.length,.sl 1 ca 0 aa.aO.length,.sl 1 cH 0 aa.aE.length,I aa.aQ,I aa.bM]),(bW,.mp (aa.kM.map (fun e=>(AV.str e.1,(pA bG) e.2)))),(fb,.cC (fV pb bG fc aa.iA)),(bX,tq aa.cj),(bU,cI aa.open_),(bP,cI aa.ba),(ca,cI aa.aO),(cH,cI aa.aE),(vE,.cells [tu x.1,I x.2.1,I x.2.2.1,I x.2.2.2.1,.bO eF]),(eF,ow x.2.2.2.2.1),(Nw,Ln x.2.2.2.2.2.1),(b9,I7 v26)]⟩) h ?_ ?_
      ·exact aq.arr (s:=16) 5 J fun Wn=>aq.lq [2,2,2,2,2,2,2,2,2,2,0,0] ⟨Wn,J⟩ J J
      ·intro x z2 aS J2 gS h DA AL
       obtain ⟨L4,n43,n44,n45,Ia,xN,n49⟩:=x
       obtain ⟨Nw,rfl⟩:=gS
       replace h:dA aa n8 v26 L4 n43 n44 n45 Ia xN n49=some z2:=h
       unfold dA at h
       refine aT<|ae.qv (cJ J J) J<|rN<|tS<|cD h J (fun h=>?_) (fun h=>?_)
       ·refine tK<|tS<|ab.block<|aT<|aU h fun v51 e7 h=>ae.qv (cm J J J e7) J<|ae.qv (gP (g:=DeviceS.av) J J (.inl (.next (.next (.next (.next .p7))))) J e7 J) J<|bY J J J J fun Pk=>aI J J J J .p0 J J<|rN<|tS<|aT<|rM J J<|ae.qv (iH J) J<|rM J J<|ae.qv (ri J J) J<|rN<|cD h J (fun h=>?_) (fun h=>?_)
        ·exact ab.exit J<|have h:=cW h AL;ab.stop<|aq.lq [1,1,1,1,1,1,1,1,1,1,1] ⟨Nw,L4,n43,n44,n45,Ia,xN,h,J⟩ J J
        ·refine tK<|tS<|aU h fun n53 e8 h=>aU h fun v54 e9 h=>aU h fun v55 Cy h=>ab.mh (id:=20) (A:=[0,0,2,0,8,24,56,0,128,504,1016,2040,4088,8184,16383,32767,65535,65535,0,393215,1048575]) (H0:=[(vE,.cells [tu L4,I n43,I n44,I n45,.bO eF]),(eF,ow Ia)]) (HH:=fun β=>[(vE,.cells (BH v55.2.2 eF)),(eF,ow v55.2.2.eT),((β 18),.cells (He v55.1)),(Pk,.cells (Pg v51)),(cU,.cells [.cw [.str aa.c_.Key,I aa.c_.Target.ax,I aa.c_.Target.aA,I aa.c_.Target.aC,I aa.c_.At,nW aa.c_.aG,I aa.c_.bb.cr,I aa.c_.bb.To,I aa.c_.Room],.bO bW,.bO bX,.sl 1 bU 0 aa.open_.length,.sl 1 bP 0 aa.ba.length,.sl 1 ca 0 aa.aO.length,.sl 1 cH 0 aa.aE.length,I aa.aQ,I aa.bM]),(bW,.mp (aa.kM.map (fun e=>(AV.str e.1,(pA bG) e.2)))),(fb,.cC (fV pb bG fc aa.iA)),(bX,tq aa.cj),(bU,cI aa.open_),(bP,cI aa.ba),(ca,cI aa.aO),(cH,cI aa.aE),(Nw,Ln xN),(b9,I7 v26)]) 20 mixed J (by kernel_rfl) (by kernel_rfl) [⟨none,some 14,[],fun _=>(vE,.cells [tu L4,I n43,I n44,I n45,.bO eF]),none,[]⟩,⟨none,some 14,[],fun _=>(eF,ow Ia),none,[]⟩,⟨some 14,none,[],fun _=>(vE,.cells (BH v55.2.2 eF)),none,[]⟩,⟨some 14,none,[],fun _=>(eF,ow v55.2.2.eT),none,[]⟩,⟨some 18,some 19,[],fun b=>(b,.cells [I 0,I 0,I 0,.nil,.nil,I 0]),none,[]⟩,⟨some 19,none,[],fun b=>(b,.cells (He v55.1)),some 18,[]⟩] [18] J (by kernel_rfl) J (.cons (.next (.next .p7)) (.cons (.next (.next .p7)) .nil)) (fun _=>J)<|AT.am 14 J J<|AM.qv (aX J) J<|AM.qv (aB J J) J<|AM.qv (aJ J J .p0 J) J<|AM.qv (aR J J J) J<|AM.qv (ay J) J<|AM.qv (aB J J) J<|AM.qv (aJ J J .p1 J) J<|AM.qv (aB J J) J<|AM.qv (aJ J J .p0 J) J<|AM.qv (yh (gk:=AV.str) (gv:=(pA bG)) (M:=aa.kM) (key:=v51.Key) J J .p2 e8) J<|AM.qv (ay J) J<|AM.qv (aB J J) J<|AM.qv (aB J J) J<|AM.qv (QV.ara (kb:=pb) e9 .p3 J (aP J J .p0 J J)) J<|AM.nil<|AT.ID (av:=.ma [ar.av v55.1,.bool v55.2.1]) (Ti:=[(vE,.cells [tu L4,I n43,I n44,I n45,.bO eF]),(eF,ow Ia)]) (Pi:=[(vE,.cells (BH v55.2.2 eF)),(eF,ow v55.2.2.eT)]) (fun _=>J) (fun _=>J) (fun _=>J) J J J ?_ ?_
         ·exact eB J (vS Cy) cR (.cons .p0 (.cons .p0 .nil)) J J<|ae.nil ⟨_,J,J⟩
         refine AT.am 3 J J<|AM.qv (aX J) J<|AM.qv (jH J J) J<|AM.qv (jH J J) J<|AM.nil<|AT.yO (V:=fun b=>.ptr b 0) (Ti:=[]) (Pi:=fun b=>[(b,.cells [I 0,I 0,I 0,.nil,.nil,I 0])]) (fun _=>J) (fun _=>J) (fun _ _=>J) J (fun _=>J) J J J ?_ ?_
         ·exact bY J J J J fun Pl=>ae.nil ⟨Pl,_,J,J⟩
         refine AT.runN (Ti:=fun β=>[((β 18),.cells [I 0,I 0,I 0,.nil,.nil,I 0])]) (Pi:=fun β=>[((β 18),.cells (He v55.1))]) (fun _=>J) (fun _=>J) (fun _ _=>J) (fun _=>J) (fun _=>J) (fun β=>?_) ?_
         ·generalize β 18=Pl
          exact aI J J J J .p0 J J<|ae.nil ⟨_,J⟩
         refine AT.yd (fun _=>J) fun β=>?_
         generalize β 18=Pl
         clear β
         refine rA J J<|rN<|aT<|rM J J<|rN<|ab.cut (fun aS=>∃ (UT:Bk) (UQ:List eo),fR n49 v55 UQ=some z2∧aS=⟨136,[(1,.ptr vE 0),(5,.cw [.ptr cU 0]),(11,I n8),(16,.sl 5 UT 0 UQ.length),(95,.sl 7 b9 0 v26.length),(96,I (v26.length:Int)),(97,I n49)],[(cU,.cells [.cw [.str aa.c_.Key,I aa.c_.Target.ax,I aa.c_.Target.aA,I aa.c_.Target.aC,I aa.c_.At,nW aa.c_.aG,I aa.c_.bb.cr,I aa.c_.bb.To,I aa.c_.Room],.bO bW,.bO bX,.sl 1 bU 0 aa.open_.length,.sl 1 bP 0 aa.ba.length,.sl 1 ca 0 aa.aO.length,.sl 1 cH 0 aa.aE.length,I aa.aQ,I aa.bM]),(bW,.mp (aa.kM.map (fun e=>(AV.str e.1,(pA bG) e.2)))),(fb,.cC (fV pb bG fc aa.iA)),(bX,tq aa.cj),(bU,cI aa.open_),(bP,cI aa.ba),(ca,cI aa.aO),(cH,cI aa.aE),(vE,.cells (BH v55.2.2 eF)),(eF,ow v55.2.2.eT),(UT,Ln UQ),(b9,I7 v26)]⟩) ?_ ?_
         ·refine cB h J (fun h=>?_) (fun h=>?_)
          ·exact tR<|rM J J<|rF J J J<|rL J J .p3 J J<|rF J J J<|ae.qv (aP J J .p2 J J) J<|rF J J J<|rL J J .p2 J J<|ae.qv (da J J J J J) J<|bf (xs:=([(⟨v51.Key,v55.1.Version,v55.1.ec⟩:eo)]).map eo.av) J J J J J J<|aU h fun BG Hg h=>fO (g:=eo.av) J J J J J J J J (.list _) Hg (fun _=>(.next (.next (.next (.next (.next .p7)))))) J fun TG=>rA J J<|rN<|ab.stop<|aq.lq [4,4,4,4,4,4,4,4,0,0,2,2] ⟨TG,BG,h,J⟩ J J
          ·exact tK<|ab.stop<|aq.lq [4,4,4,4,4,4,4,4,0,0,2,2] ⟨Nw,xN,h,J⟩ J J
         ·rintro aS ⟨UT,UQ,h,rfl⟩
          unfold fR at h
          refine ab.dp<|tR<|ae.qv (bQ J J) J<|rM J J<|rN<|ab.stop<|?_
          cases h
          exact DA _ _ J<|aq.lq [0,0,0,0,0,0,0,0,0,0,0,0] ⟨UT,J⟩ J J
       ·exact ab.exit J<|have h:=cW h AL;ab.stop<|aq.lq [0,0,0,0,0,0,0,0,0,0,0] ⟨Nw,L4,n43,n44,n45,Ia,xN,h,J⟩ J J
     ·rintro aS ⟨Wo,AJ,n28,n29,n30,Tt,Qy,h,rfl⟩
      unfold iC at h
      refine aT<|rM J J<|rA J J<|rN<|ab.ret<|?_
      cases h
      exact hH J [0,0,1,1,1,1,1,0,0,0,0] J ⟨Wo,J,J⟩
theorem sf [GI:ck] {aa ai:MarkS} {r:Int} (h:fJ aa ai=some r):Pu Tryz.prog 53 [MarkS.av aa,MarkS.av ai] (I r):=by
 unfold fJ at h
 refine aY.ch Tryz.func53 J Tryz.ntmps53 Tryz.results53 J J ?_
 refine aT<|eA J J J J fun b1=>eA J J J J fun b2=>rA J J<|rN<|tS<|ab.di (id:=1) (A:=[0,1,0,4,15,0,32,0,128,511,1023,2047,4095]) 13 mixed J (by kernel_rfl) (by kernel_rfl)<|AM.qv (aB J J) J<|AM.qv (aJ J J .p1 J) J<|AM.qv (aB J J) J<|AM.qv (aJ J J .p0 J) J<|AM.kA J (dN J) cR J<|AM.qv (aB J J) J<|AM.qv (aJ J J .p1 J) J<|AM.qv (aB J J) J<|AM.qv (aJ J J .p0 J) J<|AM.kA J (mT J) cR J<|AM.dt (xs:=([(cmp_Compare_int aa.At ai.At),(Lib.compareBytes aa.Device ai.Device)]:List Int).map I) J J J J J J<|aU h fun v3 e1 h=>AM.kA J (pJ e1) cR J<|AM.qv (bT J) J<|AM.nil<|rN<|ab.ret<|?_
 cases h
 exact hP J J
theorem sv:GL Tryz.prog 52 6:=⟨fun enc hk h1 cf hO g cb dp off cap d w eg hc hH hb hs=>AnyQ.slices_SortFunc_eq Tryz.J6 6 Tryz.isAgg92 Tryz.sizeOf92 enc hk h1 cf hO g cb dp off cap d w eg hc hH hb hs,fun p cap fv w=>AnyF.slices_SortFunc_none Tryz.J6 p cap fv w⟩
theorem sw [GI:ck] {cU:Bk} {aa:List MarkS} {jb:MarkS→MarkS→Option Int} {kD:FuncId} [cq Tryz.prog kD] {nk:List AV} (uH:∀ {y0 y1:_} {u:Int},jb y0 y1=some u→@Pu nB Tryz.prog kD (MarkS.av y0 :: MarkS.av y1 :: nk) (I u)) {r:(List MarkS)} (h:dU aa jb=some r):aY Tryz.prog 52 [.sl 6 cU 0 aa.length,.func (.func kD) nk] [(cU,.arr 6 (aa.map MarkS.av))] (T0 [(cU,.arr 6 (r.map MarkS.av))] (.ma [])):=
 IG (fn:=jb) sv J @uH (fun _=>J) h
theorem vT [GI:ck] {cU fb:Bk} {bG:Nat→Bk} {fc:Nat→Nat→Bk} {bW bX bU bP ca cH vE eF:Bk} {aa:ao} {ai:aM} {aL:List DeviceS} {bu:List bq} {cA:Int} {r:(List MarkS)×aM} (h:gJ aa ai aL bu cA=some r):aY Tryz.prog 29 [.ptr cU 0,.ptr vE 0,xP aL,y7 bu,I cA] [(cU,.cells [.cw [.str aa.c_.Key,I aa.c_.Target.ax,I aa.c_.Target.aA,I aa.c_.Target.aC,I aa.c_.At,nW aa.c_.aG,I aa.c_.bb.cr,I aa.c_.bb.To,I aa.c_.Room],.bO bW,.bO bX,.sl 1 bU 0 aa.open_.length,.sl 1 bP 0 aa.ba.length,.sl 1 ca 0 aa.aO.length,.sl 1 cH 0 aa.aE.length,I aa.aQ,I aa.bM]),(bW,.mp (aa.kM.map (fun e=>(AV.str e.1,(pA bG) e.2)))),(bX,tq aa.cj),(bU,cI aa.open_),(bP,cI aa.ba),(ca,cI aa.aO),(cH,cI aa.aE),(fb,.cC (fV pb bG fc aa.iA)),(vE,.cells (BH ai eF)),(eF,ow ai.eT)] (T1 (fun oN=>[(cU,.cells [.cw [.str aa.c_.Key,I aa.c_.Target.ax,I aa.c_.Target.aA,I aa.c_.Target.aC,I aa.c_.At,nW aa.c_.aG,I aa.c_.bb.cr,I aa.c_.bb.To,I aa.c_.Room],.bO bW,.bO bX,.sl 1 bU 0 aa.open_.length,.sl 1 bP 0 aa.ba.length,.sl 1 ca 0 aa.aO.length,.sl 1 cH 0 aa.aE.length,I aa.aQ,I aa.bM]),(bW,.mp (aa.kM.map (fun e=>(AV.str e.1,(pA bG) e.2)))),(bX,tq aa.cj),(bU,cI aa.open_),(bP,cI aa.ba),(ca,cI aa.aO),(cH,cI aa.aE),(fb,.cC (fV pb bG fc aa.iA)),(vE,.cells (BH r.2 eF)),(eF,ow r.2.eT),(oN,I8 r.1)]) (fun oN=>.sl 6 oN 0 r.1.length)):=by
 unfold gJ at h
 refine aY.lD ?_
 refine aY.ch Tryz.func29 J Tryz.ntmps29 Tryz.results29 J J ?_
 refine aT<|rA J J<|rN<|aT<|rA J J<|rN<|tS<|aT<|rM J J<|ae.qv (dm J) J<|rM J J<|rN<|ab.block<|ab.dR (fun x:(List MarkS)×Int=>fq aa ai aL bu cA x.1 x.2) (fun x aS=>∃ (b4:Bk),aS=⟨87,[(0,.ptr cU 0),(1,.ptr vE 0),(2,xP aL),(3,y7 bu),(4,I cA),(11,.sl 6 b4 0 x.1.length),(18,xP aL),(19,I (aL.length:Int)),(20,I x.2)],[(cU,.cells [.cw [.str aa.c_.Key,I aa.c_.Target.ax,I aa.c_.Target.aA,I aa.c_.Target.aC,I aa.c_.At,nW aa.c_.aG,I aa.c_.bb.cr,I aa.c_.bb.To,I aa.c_.Room],.bO bW,.bO bX,.sl 1 bU 0 aa.open_.length,.sl 1 bP 0 aa.ba.length,.sl 1 ca 0 aa.aO.length,.sl 1 cH 0 aa.aE.length,I aa.aQ,I aa.bM]),(bW,.mp (aa.kM.map (fun e=>(AV.str e.1,(pA bG) e.2)))),(fb,.cC (fV pb bG fc aa.iA)),(bX,tq aa.cj),(bU,cI aa.open_),(bP,cI aa.ba),(ca,cI aa.aO),(cH,cI aa.aE),(vE,.cells (BH ai eF)),(eF,ow ai.eT),(b4,I8 x.1)]⟩) h ?_ ?_
 ·exact aq.arr (s:=11) 6 J fun b7=>aq.lq [1,1,6,1,1,1,1,1,1,1,0] ⟨b7,J⟩ J J
 ·intro x z1 aS J1 gS h mD gN
  obtain ⟨l5,n6⟩:=x
  obtain ⟨b4,rfl⟩:=gS
  replace h:fq aa ai aL bu cA l5 n6=some z1:=h
  unfold fq at h
  refine aT<|ae.qv (cJ J J) J<|rN<|tS<|cD h J (fun h=>?_) (fun h=>?_)
  ·refine tK<|tS<|ab.block<|aT<|aU h fun v8 e1 h=>ae.qv (bS J J J e1 J J) J<|ae.qv (bw J J J) J<|bY J J J J fun b9=>aI J J J J .p0 J J<|rN<|tS<|ab.di (id:=5) (A:=[0,1,3,7,0,16,63,127]) 8 mixed J (by kernel_rfl) (by kernel_rfl)<|AM.qv (aX J) J<|AM.qv (ay J) J<|AM.qv (aB J J) J<|AM.qv (aJ J J .p1 J) J<|AM.qv (aB J J) J<|AM.qv (aJ J J .p0 J) J<|P9 h (fun e2 h=>?_) (fun n10 e2 h=>?_)
   ·refine AM.qv (Cq (gk:=AV.str) (gv:=(pA bG)) (M:=aa.kM) (key:=v8.Key) J J .p2 J e2) J<|AM.qv (bT J) J<|AM.nil<|rN<|tS<|?_
    cases h
   ·refine AM.qv (yh (gk:=AV.str) (gv:=(pA bG)) (M:=aa.kM) (key:=v8.Key) J J .p2 e2) J<|AM.qv (bT J) J<|AM.nil<|rN<|tS<|aU h fun v11 e3 h=>ab.mh (id:=6) (A:=[0,0,2,0,8,24,56,127,0,511]) (H0:=[]) (HH:=fun β=>[((β 8),.cells [I 0,.str [],I 0,I 0,I 0,I 0]),(b9,.cells (Pg v8)),(cU,.cells [.cw [.str aa.c_.Key,I aa.c_.Target.ax,I aa.c_.Target.aA,I aa.c_.Target.aC,I aa.c_.At,nW aa.c_.aG,I aa.c_.bb.cr,I aa.c_.bb.To,I aa.c_.Room],.bO bW,.bO bX,.sl 1 bU 0 aa.open_.length,.sl 1 bP 0 aa.ba.length,.sl 1 ca 0 aa.aO.length,.sl 1 cH 0 aa.aE.length,I aa.aQ,I aa.bM]),(bW,.mp (aa.kM.map (fun e=>(AV.str e.1,(pA bG) e.2)))),(fb,.cC (fV pb bG fc aa.iA)),(bX,tq aa.cj),(bU,cI aa.open_),(bP,cI aa.ba),(ca,cI aa.aO),(cH,cI aa.aE),(vE,.cells (BH ai eF)),(eF,ow ai.eT),(b4,I8 l5)]) 9 mixed J (by kernel_rfl) (by kernel_rfl) [⟨some 8,none,[],fun b=>(b,.cells [I 0,.str [],I 0,I 0,I 0,I 0]),none,[]⟩] [8] J (by kernel_rfl) J .nil (fun _=>J)<|AT.am 8 J J<|AM.qv (aX J) J<|AM.qv (aB J J) J<|AM.qv (aJ J J .p0 J) J<|AM.qv (aX J) J<|AM.qv (ay J) J<|AM.qv (aB J J) J<|AM.qv (QV.ara (kb:=pb) e3 .p3 J (aP J J .p0 J J)) J<|AM.qv (da J J J J J) J<|AM.nil<|AT.yO (V:=fun b=>.ptr b 0) (Ti:=[]) (Pi:=fun b=>[(b,.cells [I 0,.str [],I 0,I 0,I 0,I 0])]) (fun _=>J) (fun _=>J) (fun _ _=>J) J (fun _=>J) J J J ?_ ?_
    ·exact bY J J J J fun qd=>ae.nil ⟨qd,_,J,J⟩
    refine AT.yd (fun _=>J) fun β=>?_
    generalize β 8=qd
    clear β
    refine aI J J J J .p0 J J<|rN<|aT<|rM J J<|ae.qv (ay J) J<|rF J J J<|rF J J J<|ae.qv (QV.ara (kb:=pb) e3 .p4 J (aJ J J .p0 J)) J<|rN<|ab.block<|aT<|ae.qv (fY J J) J<|rA J J<|rN<|ab.cut (fun aS=>∃ (XW:Bk) (yk:List MarkS),fj n6 yk=some z1∧aS=⟨87,[(0,.ptr cU 0),(1,.ptr vE 0),(2,xP aL),(3,y7 bu),(4,I cA),(11,.sl 6 XW 0 yk.length),(18,xP aL),(19,I (aL.length:Int)),(20,I n6)],[(cU,.cells [.cw [.str aa.c_.Key,I aa.c_.Target.ax,I aa.c_.Target.aA,I aa.c_.Target.aC,I aa.c_.At,nW aa.c_.aG,I aa.c_.bb.cr,I aa.c_.bb.To,I aa.c_.Room],.bO bW,.bO bX,.sl 1 bU 0 aa.open_.length,.sl 1 bP 0 aa.ba.length,.sl 1 ca 0 aa.aO.length,.sl 1 cH 0 aa.aE.length,I aa.aQ,I aa.bM]),(bW,.mp (aa.kM.map (fun e=>(AV.str e.1,(pA bG) e.2)))),(fb,.cC (fV pb bG fc aa.iA)),(bX,tq aa.cj),(bU,cI aa.open_),(bP,cI aa.ba),(ca,cI aa.aO),(cH,cI aa.aE),(vE,.cells (BH ai eF)),(eF,ow ai.eT),(XW,I8 yk)]⟩) ?_ ?_
    ·refine cD h J (fun h=>?_) (fun h=>?_)
     ·refine aT<|rF J J J<|aI J J J J .p0 J J<|rN<|tS<|aT<|rM J J<|rF J J J<|rL J J .p1 J J<|aU h fun zH e4 h=>bl J (gU e4) cR J<|rN<|ab.cut (fun aS=>∃ (n16:Int),fk cA l5 n6 v8 v11 n16=some z1∧aS=⟨87,[(0,.ptr cU 0),(1,.ptr vE 0),(2,xP aL),(3,y7 bu),(4,I cA),(11,.sl 6 b4 0 l5.length),(15,.ptr qd 0),(18,xP aL),(19,I (aL.length:Int)),(20,I n6)],[(cU,.cells [.cw [.str aa.c_.Key,I aa.c_.Target.ax,I aa.c_.Target.aA,I aa.c_.Target.aC,I aa.c_.At,nW aa.c_.aG,I aa.c_.bb.cr,I aa.c_.bb.To,I aa.c_.Room],.bO bW,.bO bX,.sl 1 bU 0 aa.open_.length,.sl 1 bP 0 aa.ba.length,.sl 1 ca 0 aa.aO.length,.sl 1 cH 0 aa.aE.length,I aa.aQ,I aa.bM]),(bW,.mp (aa.kM.map (fun e=>(AV.str e.1,(pA bG) e.2)))),(fb,.cC (fV pb bG fc aa.iA)),(bX,tq aa.cj),(bU,cI aa.open_),(bP,cI aa.ba),(ca,cI aa.aO),(cH,cI aa.aE),(vE,.cells (BH ai eF)),(eF,ow ai.eT),(b4,I8 l5),(qd,.cells [I cA,.str v8.Key,I n16,I v11.aN.ax,I v11.aN.aA,I v11.aN.aC])]⟩) ?_ ?_
      ·refine cB h J (fun h=>?_) (fun h=>?_)
       ·exact tR<|rF J J J<|aI J J J J .p0 J J<|rN<|ab.stop<|aq.lq [2,2,2,2,2,2,2,2,2,2,2,0] ⟨4,h,J⟩ J J
       ·exact tK<|ab.stop<|aq.lq [2,2,2,2,2,2,2,2,2,2,2,0] ⟨3,h,J⟩ J J
      ·rintro aS ⟨n16,h,rfl⟩
       unfold fk at h
       exact tR<|rM J J<|ae.qv (aH J J (.next (.next (.next (.next .p7)))) J) J<|bf (xs:=([(⟨cA,v8.Key,n16,v11.aN⟩:MarkS)]).map MarkS.av) J J J J J J<|aU h fun ud e5 h=>fO (g:=MarkS.av) J J J J J J J J (.list _) e5 (fun _=>(.next (.next (.next .p7)))) J fun vD=>rA J J<|rN<|ab.stop<|aq.lq [0,0,0,0,0,0,0,0,0,0,0] ⟨vD,ud,h,J⟩ J J
     ·refine aT<|ae.qv (fY J J) J<|rA J J<|rN<|ab.cut (fun aS=>∃ (Bl:Bk) (ja:List MarkS),gw n6 ja=some z1∧aS=⟨87,[(0,.ptr cU 0),(1,.ptr vE 0),(2,xP aL),(3,y7 bu),(4,I cA),(11,.sl 6 Bl 0 ja.length),(18,xP aL),(19,I (aL.length:Int)),(20,I n6)],[(cU,.cells [.cw [.str aa.c_.Key,I aa.c_.Target.ax,I aa.c_.Target.aA,I aa.c_.Target.aC,I aa.c_.At,nW aa.c_.aG,I aa.c_.bb.cr,I aa.c_.bb.To,I aa.c_.Room],.bO bW,.bO bX,.sl 1 bU 0 aa.open_.length,.sl 1 bP 0 aa.ba.length,.sl 1 ca 0 aa.aO.length,.sl 1 cH 0 aa.aE.length,I aa.aQ,I aa.bM]),(bW,.mp (aa.kM.map (fun e=>(AV.str e.1,(pA bG) e.2)))),(fb,.cC (fV pb bG fc aa.iA)),(bX,tq aa.cj),(bU,cI aa.open_),(bP,cI aa.ba),(ca,cI aa.aO),(cH,cI aa.aE),(vE,.cells (BH ai eF)),(eF,ow ai.eT),(Bl,I8 ja)]⟩) ?_ ?_
      ·refine cD h J (fun h=>?_) (fun h=>?_)
       ·exact aT<|rF J J J<|aI J J J J .p0 J J<|rN<|tR<|rM J J<|ae.qv (aH J J .p0 J) J<|bf (xs:=([(⟨cA,v8.Key,2,v11.aN⟩:MarkS)]).map MarkS.av) J J J J J J<|aU h fun uG e6 h=>fO (g:=MarkS.av) J J J J J J J J (.list _) e6 (fun _=>(.next (.next (.next (.next (.next .p7)))))) J fun L5=>rA J J<|rN<|ab.stop<|aq.lq [2,2,2,2,2,2,2,2,2,2,2] ⟨L5,uG,h,J⟩ J J
       ·exact tK<|ab.stop<|aq.lq [2,2,2,2,2,2,2,2,2,2,2] ⟨b4,l5,h,J⟩ J J
      ·rintro aS ⟨Bl,ja,h,rfl⟩
       unfold gw at h
       exact ab.stop<|aq.lq [0,0,0,0,0,0,0,0,0,0,0] ⟨Bl,ja,h,J⟩ J J
    ·rintro aS ⟨XW,yk,h,rfl⟩
     unfold fj at h
     refine ab.dp<|ab.dp<|tR<|ae.qv (bQ J J) J<|rM J J<|rN<|ab.stop<|?_
     cases h
     exact mD _ _ J<|aq.lq [0,0,0,0,0,0,0,0,0,0,0] ⟨XW,J⟩ J J
  ·refine ab.exit J<|have h:=cW h gN;?_
   unfold gx at h
   refine tS<|aT<|rM J J<|rM J J<|rM J J<|rM J J<|aU h fun v23 e7 h=>kK J (uJ e7) cR (.cons .p0 (.cons .p0 (.cons .p1 (.cons .p1 (.cons .p1 (.cons .p1 (.cons .p1 (.cons .p0 (.cons .p0 (.cons .p0 .nil)))))))))) (fun _=>J) J fun F5=>ae.qv (iH J) J<|rM J J<|rN<|ab.block<|ab.dR (fun x:(List MarkS)×Int=>fp cA v23 x.1 x.2) (fun x aS=>∃ (Lo:Bk),aS=⟨87,[(4,I cA),(11,.sl 6 Lo 0 x.1.length),(68,.sl 5 F5 0 v23.1.length),(69,I (v23.1.length:Int)),(70,I x.2)],[(cU,.cells [.cw [.str aa.c_.Key,I aa.c_.Target.ax,I aa.c_.Target.aA,I aa.c_.Target.aC,I aa.c_.At,nW aa.c_.aG,I aa.c_.bb.cr,I aa.c_.bb.To,I aa.c_.Room],.bO bW,.bO bX,.sl 1 bU 0 aa.open_.length,.sl 1 bP 0 aa.ba.length,.sl 1 ca 0 aa.aO.length,.sl 1 cH 0 aa.aE.length,I aa.aQ,I aa.bM]),(bW,.mp (aa.kM.map (fun e=>(AV.str e.1,(pA bG) e.2)))),(fb,.cC (fV pb bG fc aa.iA)),(bX,tq aa.cj),(bU,cI aa.open_),(bP,cI aa.ba),(ca,cI aa.aO),(cH,cI aa.aE),(vE,.cells (BH v23.2 eF)),(eF,ow v23.2.eT),(Lo,I8 x.1),(F5,Ln v23.1)]⟩) h ?_ ?_
   ·exact aq.lq [0,0,5,0,0,0,0,0,0,0,1,0] ⟨b4,J⟩ J J
   ·intro x z2 aS J2 gS h DA AL
    obtain ⟨Qz,n30⟩:=x
    obtain ⟨Lo,rfl⟩:=gS
    replace h:fp cA v23 Qz n30=some z2:=h
    unfold fp at h
    refine aT<|ae.qv (cJ J J) J<|rN<|tS<|cD h J (fun h=>?_) (fun h=>?_)
    ·refine tK<|tS<|ab.block<|aT<|aU h fun v31 e8 h=>ae.qv (cm J J J e8) J<|ae.qv (gP (g:=eo.av) J J (.inl (.next (.next (.next (.next .p7))))) J e8 J) J<|bY J J J J fun Wo=>aI J J J J .p0 J J<|rN<|tR<|rM J J<|rM J J<|rF J J J<|rL J J .p0 J J<|rF J J J<|ae.qv (aP J J .p0 J J) J<|ae.qv (da J J J J J) J<|bf (xs:=([(⟨cA,v31.Device,1,v31.Version⟩:MarkS)]).map MarkS.av) J J J J J J<|aU h fun Qy e9 h=>fO (g:=MarkS.av) J J J J J J J J (.list _) e9 (fun _=>(.next (.next (.next (.next .p7))))) J fun R6=>rA J J<|rN<|ab.dp<|tR<|ae.qv (bQ J J) J<|rM J J<|rN<|ab.stop<|?_
     cases h
     exact DA _ _ J<|aq.lq [1,1,1,1,1,1,1,1,1,1,1,1] ⟨R6,J⟩ J J
    ·refine ab.exit J<|have h:=cW h AL;?_
     unfold fo at h
     refine aT<|rM J J<|aU h fun v35 Cy h=>eB J (sw (fun e=>sf (GI:=nB) e) (JS Cy)) cR (.cons (.next (.next (.next .p7))) .nil) J J<|ae.ghost<|aq.eqs (s:=11) (rf:=.sl 6 Lo 0 v35.length) J (congrArg (AV.sl 6 Lo 0) (Bz Cy))<|aq.here<|ae.ghost<|aq.eqs (s:=84) (rf:=.sl 6 Lo 0 v35.length) J (congrArg (AV.sl 6 Lo 0) (Bz Cy))<|aq.here<|rN<|aT<|rM J J<|rA J J<|rN<|ab.ret<|?_
     cases h
     exact hH J [1,1,2,2,2,2,2,1,1,1,0] J ⟨Lo,J,J⟩
theorem oy [GI:ck] {cU:Bk} {aa:aj} {ai:MarkS} {r:Bool×aj} (h:au aa ai=r):aY Tryz.prog 38 [.ptr cU 0,MarkS.av ai] [(cU,.cells [I aa.ah.Kind,I aa.ah.Since,I aa.ah.Version.ax,I aa.ah.Version.aA,I aa.ah.Version.aC,I aa.ah.ct,I aa.aN.ax,I aa.aN.aA,I aa.aN.aC])] (T0 ([(cU,.cells [I r.2.ah.Kind,I r.2.ah.Since,I r.2.ah.Version.ax,I r.2.ah.Version.aA,I r.2.ah.Version.aC,I r.2.ah.ct,I r.2.aN.ax,I r.2.aN.aA,I r.2.aN.aC])]) (.bool r.1)):=by
 unfold au at h
 refine aY.lD ?_
 refine aY.ch Tryz.func38 J Tryz.ntmps38 Tryz.results38 J J ?_
 refine aT<|eA J J J J fun b1=>rA J J<|rN<|tS<|ab.di (id:=1) (A:=[0,1,0,4,12,28,63,127]) 8 mixed J (by kernel_rfl) (by kernel_rfl)<|AM.qv (aB J J) J<|AM.qv (aP J J .p0 J J) J<|AM.qv (aX J) J<|AM.qv (ay J) J<|AM.qv (aB J J) J<|AM.qv (aP J J .p1 J J) J<|AM.qv (MD (g:=Version.av) (X:=ai.Version) (Y:=aa.aN) J J J J J) J<|AM.qv (bT J) J<|AM.nil<|rN<|aT<|rA J J<|rN<|tS<|aT<|rF J J J<|rL J J .p0 J J<|rN<|ab.block<|aT<|ae.qv (fY J J) J<|rA J J<|rN<|ab.cut (fun aS=>∃ (c2:Bool),dV aa ai c2=r∧aS=⟨101,[(0,.ptr cU 0),(3,.ptr b1 0),(6,.bool c2)],[(cU,.cells [I aa.ah.Kind,I aa.ah.Since,I aa.ah.Version.ax,I aa.ah.Version.aA,I aa.ah.Version.aC,I aa.ah.ct,I aa.aN.ax,I aa.aN.aA,I aa.aN.aC]),(b1,.cells [I ai.At,.str ai.Device,I ai.Kind,I ai.Version.ax,I ai.Version.aA,I ai.Version.aC])]⟩) ?_ ?_
 ·refine cD h J (fun h=>?_) (fun h=>?_)
  ·refine ab.cut (fun aS=>∃ (c3:Bool),gY aa ai c3=r∧aS=⟨101,[(0,.ptr cU 0),(3,.ptr b1 0),(6,.bool c3)],[(cU,.cells [I aa.ah.Kind,I aa.ah.Since,I aa.ah.Version.ax,I aa.ah.Version.aA,I aa.ah.Version.aC,I aa.ah.ct,I aa.aN.ax,I aa.aN.aA,I aa.aN.aC]),(b1,.cells [I ai.At,.str ai.Device,I ai.Kind,I ai.Version.ax,I ai.Version.aA,I ai.Version.aC])]⟩) ?_ ?_
   ·refine tR<|rM J J<|ae.qv (ay J) J<|rF J J J<|rF J J J<|rL J J .p1 J J<|ae.qv (fY J J) J<|rM J J<|ae.ek J J J (fun hc=>?_) (fun hc=>?_)
    ·rw [yK hc] at h
     refine rM J J<|rY J J J<|ae.qv (ay J) J<|rY J J J<|rF J J J<|rY J J J<|rF J J J<|rY J J J<|rL J J .p1 J J<|rY J J J<|ae.qv (fY J J) J<|rE J J J<|rM J J<|ae.ek J J J (fun hc=>?_) (fun hc=>?_)
     ·rw [yK hc] at h
      exact rM J J<|rY J J J<|ae.qv (ay J) J<|rY J J J<|rF J J J<|rY J J J<|rF J J J<|rY J J J<|rL J J .p1 J J<|rY J J J<|ae.qv (fY J J) J<|rE J J J<|rA J J<|rN<|ab.stop<|aq.lq [1,0] ⟨decide (aa.ah.Kind=4),h,J⟩ J J
     ·rw [yJ hc] at h
      exact rG J J J J<|rG J J J J<|rG J J J J<|rG J J J J<|rG J J J J<|rT J J J<|rA J J<|rN<|ab.stop<|aq.lq [1,0] ⟨true,h,J⟩ J J
    ·rw [yJ hc] at h
     exact rG J J J J<|rG J J J J<|rG J J J J<|rG J J J J<|rG J J J J<|rT J J J<|rM J J<|rG J J J J<|rG J J J J<|rG J J J J<|rG J J J J<|rG J J J J<|rG J J J J<|rT J J J<|rA J J<|rN<|ab.stop<|aq.lq [1,0] ⟨true,h,J⟩ J J
   ·rintro aS ⟨c3,h,rfl⟩
    unfold gY at h
    exact ab.stop<|aq.lq [0,0] ⟨c3,h,J⟩ J J
  ·refine tS<|aT<|ae.qv (fY J J) J<|rA J J<|rN<|ab.cut (fun aS=>∃ (c4:Bool),fG aa ai c4=r∧aS=⟨101,[(0,.ptr cU 0),(3,.ptr b1 0),(5,.bool (decide (ai.Version=aa.aN))),(49,.bool c4)],[(cU,.cells [I aa.ah.Kind,I aa.ah.Since,I aa.ah.Version.ax,I aa.ah.Version.aA,I aa.ah.Version.aC,I aa.ah.ct,I aa.aN.ax,I aa.aN.aA,I aa.aN.aC]),(b1,.cells [I ai.At,.str ai.Device,I ai.Kind,I ai.Version.ax,I ai.Version.aA,I ai.Version.aC])]⟩) ?_ ?_
   ·refine cD h J (fun h=>?_) (fun h=>?_)
    ·exact tK<|ab.stop<|aq.lq [1,0] ⟨decide (ai.Kind=2),h,J⟩ J J
    ·exact tR<|ae.qv (fY J J) J<|rA J J<|rN<|ab.stop<|aq.lq [1,0] ⟨decide (ai.Kind=5),h,J⟩ J J
   ·rintro aS ⟨c4,h,rfl⟩
    unfold fG at h
    refine ab.cut (fun aS=>∃ (c5:Bool),fF aa ai c5=r∧aS=⟨101,[(0,.ptr cU 0),(3,.ptr b1 0),(6,.bool c5)],[(cU,.cells [I aa.ah.Kind,I aa.ah.Since,I aa.ah.Version.ax,I aa.ah.Version.aA,I aa.ah.Version.aC,I aa.ah.ct,I aa.aN.ax,I aa.aN.aA,I aa.aN.aC]),(b1,.cells [I ai.At,.str ai.Device,I ai.Kind,I ai.Version.ax,I ai.Version.aA,I ai.Version.aC])]⟩) ?_ ?_
    ·refine cB h J (fun h=>?_) (fun h=>?_)
     ·refine ab.cut (fun aS=>∃ (c6:Bool),gZ aa ai c6=r∧aS=⟨101,[(0,.ptr cU 0),(3,.ptr b1 0),(6,.bool c6)],[(cU,.cells [I aa.ah.Kind,I aa.ah.Since,I aa.ah.Version.ax,I aa.ah.Version.aA,I aa.ah.Version.aC,I aa.ah.ct,I aa.aN.ax,I aa.aN.aA,I aa.aN.aC]),(b1,.cells [I ai.At,.str ai.Device,I ai.Kind,I ai.Version.ax,I ai.Version.aA,I ai.Version.aC])]⟩) ?_ ?_
      ·refine tR<|rM J J<|ae.qv (ay J) J<|rF J J J<|rF J J J<|rL J J .p0 J J<|ae.qv (fY J J) J<|rM J J<|ae.dq J J J (fun hc=>?_) (fun hc=>?_)
       ·rw [sR hc] at h
        exact rM J J<|rT J J J<|rA J J<|rN<|ab.stop<|aq.lq [0,0] ⟨decide (ai.Version=aa.aN),h,J⟩ J J
       ·rw [sS hc] at h
        exact rE J J J<|rA J J<|rN<|ab.stop<|aq.lq [0,0] ⟨false,h,J⟩ J J
      ·rintro aS ⟨c6,h,rfl⟩
       unfold gZ at h
       exact ab.stop<|aq.lq [0,0] ⟨c6,h,J⟩ J J
     ·refine ab.cut (fun aS=>∃ (c7:Bool),ia aa ai c7=r∧aS=⟨101,[(0,.ptr cU 0),(3,.ptr b1 0),(6,.bool c7)],[(cU,.cells [I aa.ah.Kind,I aa.ah.Since,I aa.ah.Version.ax,I aa.ah.Version.aA,I aa.ah.Version.aC,I aa.ah.ct,I aa.aN.ax,I aa.aN.aA,I aa.aN.aC]),(b1,.cells [I ai.At,.str ai.Device,I ai.Kind,I ai.Version.ax,I ai.Version.aA,I ai.Version.aC])]⟩) ?_ ?_
      ·refine tR<|rM J J<|ae.qv (ay J) J<|rF J J J<|rF J J J<|rL J J .p0 J J<|ae.qv (fY J J) J<|rM J J<|ae.dq J J J (fun hc=>?_) (fun hc=>?_)
       ·rw [sR hc] at h
        exact rM J J<|rT J J J<|rA J J<|rN<|ab.stop<|aq.lq [0,0] ⟨decide (ai.Version=aa.aN),h,J⟩ J J
       ·rw [sS hc] at h
        exact rE J J J<|rA J J<|rN<|ab.stop<|aq.lq [0,0] ⟨false,h,J⟩ J J
      ·rintro aS ⟨c7,h,rfl⟩
       unfold ia at h
       exact ab.stop<|aq.lq [0,0] ⟨c7,h,J⟩ J J
    ·rintro aS ⟨c5,h,rfl⟩
     unfold fF at h
     exact ab.stop<|aq.lq [0,0] ⟨c5,h,J⟩ J J
 ·rintro aS ⟨c2,h,rfl⟩
  unfold dV at h
  refine ab.dp<|tS<|aT<|rM J J<|ae.qv (dc J) J<|rN<|cB h J (fun h=>?_) (fun h=>?_)
  ·refine aT<|rA J J<|rN<|ab.ret<|?_
   obtain rfl:=h
   exact hH J [0] J ⟨J,J⟩
  ·refine tK<|tS<|ab.mh (id:=12) (A:=[0,0,0,0,8,0,32,0,128,25,537,1561,3609,7803,15995,32379,65147,131071,262143,524287]) (H0:=[(cU,.cells [I aa.ah.Kind,I aa.ah.Since,I aa.ah.Version.ax,I aa.ah.Version.aA,I aa.ah.Version.aC,I aa.ah.ct,I aa.aN.ax,I aa.aN.aA,I aa.aN.aC])]) (HH:=fun β=>[(cU,.cells [I ai.Kind,I ai.At,I aa.ah.Version.ax,I aa.ah.Version.aA,I aa.ah.Version.aC,I aa.ah.ct,I aa.aN.ax,I aa.aN.aA,I aa.aN.aC]),(b1,.cells [I ai.At,.str ai.Device,I ai.Kind,I ai.Version.ax,I ai.Version.aA,I ai.Version.aC])]) 17 mixed J (by kernel_rfl) (by kernel_rfl) [⟨none,some 12,[],fun _=>(cU,.cells [I aa.ah.Kind,I aa.ah.Since,I aa.ah.Version.ax,I aa.ah.Version.aA,I aa.ah.Version.aC,I aa.ah.ct,I aa.aN.ax,I aa.aN.aA,I aa.aN.aC]),none,[]⟩,⟨some 12,some 16,[],fun _=>(cU,.cells [I ai.Kind,I aa.ah.Since,I aa.ah.Version.ax,I aa.ah.Version.aA,I aa.ah.Version.aC,I aa.ah.ct,I aa.aN.ax,I aa.aN.aA,I aa.aN.aC]),none,[]⟩,⟨some 16,none,[],fun _=>(cU,.cells [I ai.Kind,I ai.At,I aa.ah.Version.ax,I aa.ah.Version.aA,I aa.ah.Version.aC,I aa.ah.ct,I aa.aN.ax,I aa.aN.aA,I aa.aN.aC]),none,[]⟩] [] J (by kernel_rfl) J (.cons .p0 .nil) (fun _=>J)<|AT.am 12 J J<|AM.qv (aX J) J<|AM.qv (aX J) J<|AM.qv (aX J) J<|AM.qv (aB J J) J<|AM.qv (aJ J J .p0 J) J<|AM.qv (aB J J) J<|AM.qv (aJ J J .p0 J) J<|AM.qv (aB J J) J<|AM.qv (aP J J .p0 J J) J<|AM.qv (ay J) J<|AM.qv (aB J J) J<|AM.qv (aB J J) J<|AM.nil<|AT.MP (Ti:=[(cU,.cells [I aa.ah.Kind,I aa.ah.Since,I aa.ah.Version.ax,I aa.ah.Version.aA,I aa.ah.Version.aC,I aa.ah.ct,I aa.aN.ax,I aa.aN.aA,I aa.aN.aC])]) (Pi:=[(cU,.cells [I ai.Kind,I aa.ah.Since,I aa.ah.Version.ax,I aa.ah.Version.aA,I aa.ah.Version.aC,I aa.ah.ct,I aa.aN.ax,I aa.aN.aA,I aa.aN.aC])]) (fun _=>J) (fun _=>J) (fun _=>J) J J ?_ ?_
   ·exact aI J J J J .p0 J J<|ae.nil ⟨_,J⟩
   refine AT.am 3 J J<|AM.qv (ay J) J<|AM.qv (aB J J) J<|AM.qv (aB J J) J<|AM.nil<|AT.MP (Ti:=[(cU,.cells [I ai.Kind,I aa.ah.Since,I aa.ah.Version.ax,I aa.ah.Version.aA,I aa.ah.Version.aC,I aa.ah.ct,I aa.aN.ax,I aa.aN.aA,I aa.aN.aC])]) (Pi:=[(cU,.cells [I ai.Kind,I ai.At,I aa.ah.Version.ax,I aa.ah.Version.aA,I aa.ah.Version.aC,I aa.ah.ct,I aa.aN.ax,I aa.aN.aA,I aa.aN.aC])]) (fun _=>J) (fun _=>J) (fun _=>J) J J ?_ ?_
   ·exact aI J J J J .p0 J J<|ae.nil ⟨_,J⟩
   refine AT.yd (fun _=>J) fun β=>ae.qv (ay J) J<|rF J J J<|aI J J J J .p0 J J<|rN<|tS<|aT<|rF J J J<|rL J J .p1 J J<|rN<|ab.block<|aT<|ae.qv (fY J J) J<|rA J J<|rN<|ab.cut (fun aS=>∃ (n8:Int) (n9:Int) (n10:Int) (n11:Int),fD ai n8 n9 n10 n11=r∧aS=⟨101,[],[(cU,.cells [I ai.Kind,I ai.At,I n8,I n9,I n10,I n11,I ai.Version.ax,I ai.Version.aA,I ai.Version.aC])]⟩) ?_ ?_
   ·refine cD h J (fun h=>?_) (fun h=>?_)
    ·exact tR<|rM J J<|rF J J J<|ae.qv (aP J J .p1 J J) J<|ae.qv (ay J) J<|rF J J J<|rF J J J<|aI J J J J .p0 J J<|rN<|ab.stop<|aq.lq [0] ⟨ai.Version.ax,ai.Version.aA,ai.Version.aC,aa.ah.ct,h,J⟩ J J
    ·refine aT<|ae.qv (fY J J) J<|rA J J<|rN<|ab.cut (fun aS=>∃ (n12:Int),fE aa ai n12=r∧aS=⟨101,[],[(cU,.cells [I ai.Kind,I ai.At,I aa.ah.Version.ax,I aa.ah.Version.aA,I aa.ah.Version.aC,I n12,I ai.Version.ax,I ai.Version.aA,I ai.Version.aC])]⟩) ?_ ?_
     ·refine cD h J (fun h=>?_) (fun h=>?_)
      ·exact tR<|rM J J<|ae.qv (ay J) J<|rF J J J<|rF J J J<|rL J J .p0 J J<|ae.qv (bQ J J) J<|ae.qv (ay J) J<|rF J J J<|rF J J J<|aI J J J J .p0 J J<|rN<|ab.stop<|aq.lq [0] ⟨bA (aa.ah.ct+1),h,J⟩ J J
      ·exact tK<|ab.stop<|aq.lq [0] ⟨aa.ah.ct,h,J⟩ J J
     ·rintro aS ⟨n12,h,rfl⟩
      unfold fE at h
      exact ab.stop<|aq.lq [0] ⟨aa.ah.Version.ax,aa.ah.Version.aA,aa.ah.Version.aC,n12,h,J⟩ J J
   ·rintro aS ⟨n8,n9,n10,n11,h,rfl⟩
    unfold fD at h
    refine ab.dp<|aT<|rA J J<|rN<|ab.ret<|?_
    obtain rfl:=h
    exact hH J [0] J ⟨J,J⟩
theorem qm [GI:ck] {cU fb:Bk} {bG:Nat→Bk} {fc:Nat→Nat→Bk} {bW bX bU bP ca cH:Bk} {aa:ao} {ai:MarkS} {r:ao} (h:cx aa ai=some r):aY Tryz.prog 30 [.ptr cU 0,MarkS.av ai] [(cU,.cells [.cw [.str aa.c_.Key,I aa.c_.Target.ax,I aa.c_.Target.aA,I aa.c_.Target.aC,I aa.c_.At,nW aa.c_.aG,I aa.c_.bb.cr,I aa.c_.bb.To,I aa.c_.Room],.bO bW,.bO bX,.sl 1 bU 0 aa.open_.length,.sl 1 bP 0 aa.ba.length,.sl 1 ca 0 aa.aO.length,.sl 1 cH 0 aa.aE.length,I aa.aQ,I aa.bM]),(bW,.mp (aa.kM.map (fun e=>(AV.str e.1,(pA bG) e.2)))),(bX,tq aa.cj),(bU,cI aa.open_),(bP,cI aa.ba),(ca,cI aa.aO),(cH,cI aa.aE),(fb,.cC (fV pb bG fc aa.iA))] (T5 (fun wE wF wG wH CB=>[(cU,.cells [.cw [.str aa.c_.Key,I aa.c_.Target.ax,I aa.c_.Target.aA,I aa.c_.Target.aC,I aa.c_.At,nW aa.c_.aG,I aa.c_.bb.cr,I aa.c_.bb.To,I aa.c_.Room],.bO bW,.bO bX,.sl 1 wE 0 r.open_.length,.sl 1 wF 0 r.ba.length,.sl 1 wG 0 r.aO.length,.sl 1 wH 0 r.aE.length,I r.aQ,I r.bM]),(bW,.mp (r.kM.map (fun e=>(AV.str e.1,(pA bG) e.2)))),(bX,tq r.cj),(wE,cI r.open_),(wF,cI r.ba),(wG,cI r.aO),(wH,cI r.aE),(fb,.cC (fV pb bG CB r.iA))]) (fun wE wF wG wH CB=>.ma [])):=by
 unfold cx at h
 refine aY.lD ?_
 refine aY.ch Tryz.func30 J Tryz.ntmps30 Tryz.results30 J J ?_
 refine aT<|eA J J J J fun b1=>rN<|tS<|ab.di (id:=1) (A:=[0,1,3,7,0,16,63,127,255,255,511,2047]) 12 mixed J (by kernel_rfl) (by kernel_rfl)<|AM.qv (aX J) J<|AM.qv (ay J) J<|AM.qv (aB J J) J<|AM.qv (aJ J J .p1 J) J<|AM.qv (aB J J) J<|AM.qv (aJ J J .p0 J) J<|P9 h (fun e1 h=>?_) (fun n2 e1 h=>?_)
 ·refine AM.qv (IU (gk:=AV.str) (gv:=(pA bG)) (M:=aa.kM) (key:=ai.Device) J J .p2 J e1) J<|AM.qv (aX J) J<|AM.qv (jH J J) J<|AM.qv (jH J J) J<|AM.qv (bT J) J<|AM.qv (bT J) J<|AM.nil<|rN<|tS<|tS<|ab.cut (fun aS=>∃ (c3:Bool),ju aa ai c3=some r∧aS=⟨165,[(0,.ptr cU 0),(3,.ptr b1 0),(4,.raw (.pointer none)),(33,.bool c3)],[(cU,.cells [.cw [.str aa.c_.Key,I aa.c_.Target.ax,I aa.c_.Target.aA,I aa.c_.Target.aC,I aa.c_.At,nW aa.c_.aG,I aa.c_.bb.cr,I aa.c_.bb.To,I aa.c_.Room],.bO bW,.bO bX,.sl 1 bU 0 aa.open_.length,.sl 1 bP 0 aa.ba.length,.sl 1 ca 0 aa.aO.length,.sl 1 cH 0 aa.aE.length,I aa.aQ,I aa.bM]),(bW,.mp (aa.kM.map (fun e=>(AV.str e.1,(pA bG) e.2)))),(fb,.cC (fV pb bG fc aa.iA)),(bX,tq aa.cj),(bU,cI aa.open_),(bP,cI aa.ba),(ca,cI aa.aO),(cH,cI aa.aE),(b1,.cells [I ai.At,.str ai.Device,I ai.Kind,I ai.Version.ax,I ai.Version.aA,I ai.Version.aC])]⟩) ?_ ?_
  ·refine ab.di (id:=2) (A:=[0,1,3,7,15,7,39,103,231,487,999,2023,4095,8191]) 14 mixed J (by kernel_rfl) (by kernel_rfl)<|AM.qv (aX J) J<|AM.qv (dc J) J<|AM.qv (aX J) J<|AM.guard J J J (fun hc=>?_) (fun hc=>?_)
   ·rw [ya hc] at h
    exact AM.qv (aB J J) J<|AM.aD J J J<|AM.qv (aJ J J .p0 J) J<|AM.aD J J J<|AM.qv (aX J) J<|AM.aD J J J<|AM.qv (ay J) J<|AM.aD J J J<|AM.qv (aB J J) J<|AM.aD J J J<|AM.qv (aJ J J .p1 J) J<|AM.aD J J J<|AM.qv (bC J) J<|AM.aD J J J<|AM.qv (bn J J) J<|AM.aD J J J<|AM.qv (aR J J J) J<|AM.aD J J J<|AM.qv (cJ J J) J<|AM.qv (eQ J J) J<|AM.nil<|rN<|ab.stop<|aq.lq [1,1,6,1,1,1,1,1,0] ⟨decide (ai.At < aa.c_.At),h,J⟩ J J
   ·rw [x9 hc] at h
    exact AM.az J J J J<|AM.az J J J J<|AM.az J J J J<|AM.az J J J J<|AM.az J J J J<|AM.az J J J J<|AM.az J J J J<|AM.az J J J J<|AM.az J J J J<|AM.qv (gr J J) J<|AM.nil<|rN<|ab.stop<|aq.lq [1,1,6,1,1,1,1,1,0] ⟨true,h,J⟩ J J
  ·rintro aS ⟨c3,h,rfl⟩
   unfold ju at h
   refine cB h J (fun h=>?_) (fun h=>?_)
   ·refine ab.ret<|?_
    cases h
    exact aq.here ⟨_,.nil,_,.cons .p0 (.cons .p0 (.cons .p1 (.cons .p1 (.cons .p1 (.cons .p1 (.cons .p1 (.cons .p0 .nil))))))),⟨bU,bP,ca,cH,fc,J,J⟩⟩
   ·refine tK<|tS<|ab.di (id:=3) (A:=[0,1,3,7,0,16,63,127]) 8 mixed J (by kernel_rfl) (by kernel_rfl)<|AM.qv (aX J) J<|AM.qv (ay J) J<|AM.qv (aB J J) J<|AM.qv (aJ J J .p0 J) J<|AM.qv (aB J J) J<|AM.qv (aJ J J (.next .p7) J) J<|aU h fun v4 e2 h=>AM.qv (yT (gk:=AV.str) (gv:=I) (M:=aa.cj) (key:=ai.Device) (Z:=0) J J .p3 J J J e2 J) J<|AM.qv (bT J) J<|AM.nil<|rN<|aT<|rM J J<|rM J J<|?_
    cases h
 ·refine AM.qv (IV (gk:=AV.str) (gv:=(pA bG)) (M:=aa.kM) (key:=ai.Device) J J .p2 e1) J<|AM.qv (aX J) J<|AM.qv (jH J J) J<|AM.qv (jH J J) J<|AM.qv (bT J) J<|AM.qv (bT J) J<|AM.nil<|rN<|tS<|tS<|ab.cut (fun aS=>∃ (c5:Bool),gz aa ai n2 c5=some r∧aS=⟨165,[(0,.ptr cU 0),(3,.ptr b1 0),(4,.ptr (bG n2.toNat) 0),(33,.bool c5)],[(cU,.cells [.cw [.str aa.c_.Key,I aa.c_.Target.ax,I aa.c_.Target.aA,I aa.c_.Target.aC,I aa.c_.At,nW aa.c_.aG,I aa.c_.bb.cr,I aa.c_.bb.To,I aa.c_.Room],.bO bW,.bO bX,.sl 1 bU 0 aa.open_.length,.sl 1 bP 0 aa.ba.length,.sl 1 ca 0 aa.aO.length,.sl 1 cH 0 aa.aE.length,I aa.aQ,I aa.bM]),(bW,.mp (aa.kM.map (fun e=>(AV.str e.1,(pA bG) e.2)))),(fb,.cC (fV pb bG fc aa.iA)),(bX,tq aa.cj),(bU,cI aa.open_),(bP,cI aa.ba),(ca,cI aa.aO),(cH,cI aa.aE),(b1,.cells [I ai.At,.str ai.Device,I ai.Kind,I ai.Version.ax,I ai.Version.aA,I ai.Version.aC])]⟩) ?_ ?_
  ·refine ab.di (id:=2) (A:=[0,1,3,7,15,7,39,103,231,487,999,2023,4095,8191]) 14 mixed J (by kernel_rfl) (by kernel_rfl)<|AM.qv (aX J) J<|AM.qv (dc J) J<|AM.qv (aX J) J<|AM.guard J J J (fun hc=>?_) (fun hc=>?_)
   ·rw [ya hc] at h
    exact AM.qv (aB J J) J<|AM.aD J J J<|AM.qv (aJ J J .p0 J) J<|AM.aD J J J<|AM.qv (aX J) J<|AM.aD J J J<|AM.qv (ay J) J<|AM.aD J J J<|AM.qv (aB J J) J<|AM.aD J J J<|AM.qv (aJ J J .p1 J) J<|AM.aD J J J<|AM.qv (bC J) J<|AM.aD J J J<|AM.qv (bn J J) J<|AM.aD J J J<|AM.qv (aR J J J) J<|AM.aD J J J<|AM.qv (cJ J J) J<|AM.qv (eQ J J) J<|AM.nil<|rN<|ab.stop<|aq.lq [1,1,6,1,1,1,1,1,0] ⟨decide (ai.At < aa.c_.At),h,J⟩ J J
   ·rw [x9 hc] at h
    exact AM.az J J J J<|AM.az J J J J<|AM.az J J J J<|AM.az J J J J<|AM.az J J J J<|AM.az J J J J<|AM.az J J J J<|AM.az J J J J<|AM.az J J J J<|AM.qv (gr J J) J<|AM.nil<|rN<|ab.stop<|aq.lq [1,1,6,1,1,1,1,1,0] ⟨true,h,J⟩ J J
  ·rintro aS ⟨c5,h,rfl⟩
   unfold gz at h
   refine cB h J (fun h=>?_) (fun h=>?_)
   ·refine ab.ret<|?_
    cases h
    exact aq.here ⟨_,.nil,_,.cons .p0 (.cons .p0 (.cons .p1 (.cons .p1 (.cons .p1 (.cons .p1 (.cons .p1 (.cons .p0 .nil))))))),⟨bU,bP,ca,cH,fc,J,J⟩⟩
   ·refine tK<|tS<|ab.di (id:=3) (A:=[0,1,3,7,0,16,63,127]) 8 mixed J (by kernel_rfl) (by kernel_rfl)<|AM.qv (aX J) J<|AM.qv (ay J) J<|AM.qv (aB J J) J<|AM.qv (aJ J J .p0 J) J<|AM.qv (aB J J) J<|AM.qv (aJ J J (.next .p7) J) J<|aU h fun v6 e3 h=>AM.qv (yT (gk:=AV.str) (gv:=I) (M:=aa.cj) (key:=ai.Device) (Z:=0) J J .p3 J J J e3 J) J<|AM.qv (bT J) J<|AM.nil<|rN<|tS<|ab.cut (fun aS=>∃ (c7:Bool),jx aa ai n2 v6 c7=some r∧aS=⟨165,[(0,.ptr cU 0),(3,.ptr b1 0),(4,.ptr (bG n2.toNat) 0),(6,I v6),(7,.bool c7)],[(cU,.cells [.cw [.str aa.c_.Key,I aa.c_.Target.ax,I aa.c_.Target.aA,I aa.c_.Target.aC,I aa.c_.At,nW aa.c_.aG,I aa.c_.bb.cr,I aa.c_.bb.To,I aa.c_.Room],.bO bW,.bO bX,.sl 1 bU 0 aa.open_.length,.sl 1 bP 0 aa.ba.length,.sl 1 ca 0 aa.aO.length,.sl 1 cH 0 aa.aE.length,I aa.aQ,I aa.bM]),(bW,.mp (aa.kM.map (fun e=>(AV.str e.1,(pA bG) e.2)))),(fb,.cC (fV pb bG fc aa.iA)),(bX,tq aa.cj),(bU,cI aa.open_),(bP,cI aa.ba),(ca,cI aa.aO),(cH,cI aa.aE),(b1,.cells [I ai.At,.str ai.Device,I ai.Kind,I ai.Version.ax,I ai.Version.aA,I ai.Version.aC])]⟩) ?_ ?_
    ·refine tR<|rM J J<|rM J J<|aU h fun v8 e4 h=>gb J (gE J) (.cons (.xB _ _ _ .p0 (.cons (.co (.refl _)) (.cons (.co (.refl _)) (.cons (.co (.refl _)) (.cons (ku.jS .p4) (.cons (ku.jS .p5) (.cons (ku.jS .p6) (.cons (ku.jS .p7) (.cons (.co (.refl _)) (.cons (.co (.refl _)) .nil)))))))))) (.cons (ku.AI (bp:=fb) (kb:=pb) (bs:=fc) (M:=aa.iA) R4 e4 .p2) .nil)) J J<|rM J J<|ae.guard J J J (fun hc=>?_) (fun hc=>?_)
     ·rw [ya hc] at h
      exact rM J J<|rY J J J<|rM J J<|rY J J J<|gb J (nn J) (.cons (.xB _ _ _ .p0 (.cons (.co (.refl _)) (.cons (.co (.refl _)) (.cons (.co (.refl _)) (.cons (ku.jS .p4) (.cons (ku.jS .p5) (.cons (ku.jS .p6) (.cons (ku.jS .p7) (.cons (.co (.refl _)) (.cons (.co (.refl _)) .nil)))))))))) (.cons (ku.AI (bp:=fb) (kb:=pb) (bs:=fc) (M:=aa.iA) R4 e4 .p2) .nil)) J J<|rE J J J<|rA J J<|rN<|ab.stop<|aq.lq [0,0,0,0,0,0,0,0,0] ⟨(cQ aa v8),h,J⟩ J J
     ·rw [x9 hc] at h
      exact rG J J J J<|rG J J J J<|rT J J J<|rA J J<|rN<|ab.stop<|aq.lq [0,0,0,0,0,0,0,0,0] ⟨true,h,J⟩ J J
    ·rintro aS ⟨c7,h,rfl⟩
     unfold jx at h
     refine tS<|aT<|rM J J<|ae.qv (aH J J (.next .p7) J) J<|aU h fun v9 e5 h=>ae.ghost<|aq.Nl (kb:=pb) e5 .p2 J<|aq.here<|eB J (oy J) cR (.cons .p0 .nil) J J<|ae.qv (dc J) J<|ae.ghost<|aq.Qn (kb:=pb) (v':=((au v9 ai).2)) (s:=nbk []) e5 (.cons .p0 .nil) J (fun _=>.p2) fun Bn=>aq.here<|rN<|cB h J (fun h=>?_) (fun h=>?_)
     ·refine ab.ret<|?_
      cases h
      exact aq.here ⟨_,.nil,_,.cons .p0 (.cons .p0 (.cons .p1 (.cons .p1 (.cons .p1 (.cons .p1 (.cons .p1 (.cons .p0 .nil))))))),⟨bU,bP,ca,cH,Bn,J,J⟩⟩
     ·refine tK<|tS<|tS<|ab.cut (fun aS=>∃ (Dv:Bool),jw aa ai n2 v6 c7 v9 Dv=some r∧aS=⟨165,[(0,.ptr cU 0),(3,.ptr b1 0),(6,I v6),(7,.bool c7),(8,.bool Dv)],[(cU,.cells [.cw [.str aa.c_.Key,I aa.c_.Target.ax,I aa.c_.Target.aA,I aa.c_.Target.aC,I aa.c_.At,nW aa.c_.aG,I aa.c_.bb.cr,I aa.c_.bb.To,I aa.c_.Room],.bO bW,.bO bX,.sl 1 bU 0 aa.open_.length,.sl 1 bP 0 aa.ba.length,.sl 1 ca 0 aa.aO.length,.sl 1 cH 0 aa.aE.length,I aa.aQ,I aa.bM]),(bW,.mp (aa.kM.map (fun e=>(AV.str e.1,(pA bG) e.2)))),(fb,.cC (fV pb bG Bn (aa.iA.set n2.toNat ((au v9 ai).2)))),(bX,tq aa.cj),(bU,cI aa.open_),(bP,cI aa.ba),(ca,cI aa.aO),(cH,cI aa.aE),(b1,.cells [I ai.At,.str ai.Device,I ai.Kind,I ai.Version.ax,I ai.Version.aA,I ai.Version.aC])]⟩) ?_ ?_
      ·refine tR<|rM J J<|rM J J<|gb J (gE (J:bZ (⟨aa.c_,aa.kM,aa.cj,aa.open_,aa.ba,aa.aO,aa.aE,aa.aQ,aa.bM,aa.iA.set n2.toNat ((au v9 ai).2)⟩:ao) ((au v9 ai).2)=_)) (.cons (.xB _ _ _ .p0 (.cons (.co (.refl _)) (.cons (.co (.refl _)) (.cons (.co (.refl _)) (.cons (ku.jS .p4) (.cons (ku.jS .p5) (.cons (ku.jS .p6) (.cons (ku.jS .p7) (.cons (.co (.refl _)) (.cons (.co (.refl _)) .nil)))))))))) (.cons (ku.AI (bp:=fb) (kb:=pb) (bs:=Bn) (M:=(aa.iA.set n2.toNat ((au v9 ai).2))) R4 (yI (v:=((au v9 ai).2)) e5) .p2) .nil)) J J<|rM J J<|ae.guard J J J (fun hc=>?_) (fun hc=>?_)
       ·rw [ya hc] at h
        exact rM J J<|rY J J J<|rM J J<|rY J J J<|gb J (nn (J:cQ (⟨aa.c_,aa.kM,aa.cj,aa.open_,aa.ba,aa.aO,aa.aE,aa.aQ,aa.bM,aa.iA.set n2.toNat ((au v9 ai).2)⟩:ao) ((au v9 ai).2)=_)) (.cons (.xB _ _ _ .p0 (.cons (.co (.refl _)) (.cons (.co (.refl _)) (.cons (.co (.refl _)) (.cons (ku.jS .p4) (.cons (ku.jS .p5) (.cons (ku.jS .p6) (.cons (ku.jS .p7) (.cons (.co (.refl _)) (.cons (.co (.refl _)) .nil)))))))))) (.cons (ku.AI (bp:=fb) (kb:=pb) (bs:=Bn) (M:=(aa.iA.set n2.toNat ((au v9 ai).2))) R4 (yI (v:=((au v9 ai).2)) e5) .p2) .nil)) J J<|rE J J J<|rA J J<|rN<|ab.stop<|aq.lq [0,0,0,0,0,0,0,0,0] ⟨(cQ (⟨aa.c_,aa.kM,aa.cj,aa.open_,aa.ba,aa.aO,aa.aE,aa.aQ,aa.bM,aa.iA.set n2.toNat ((au v9 ai).2)⟩:ao) ((au v9 ai).2)),h,J⟩ J J
       ·rw [x9 hc] at h
        exact rG J J J J<|rG J J J J<|rT J J J<|rA J J<|rN<|ab.stop<|aq.lq [0,0,0,0,0,0,0,0,0] ⟨true,h,J⟩ J J
      ·rintro aS ⟨Dv,h,rfl⟩
       unfold jw at h
       refine aT<|rM J J<|rM J J<|ae.qv (Vg J J) J<|rN<|ab.cut (fun aS=>∃ (yl:List Int),fu aa ai n2 v6 v9 yl=some r∧aS=⟨165,[(0,.ptr cU 0),(3,.ptr b1 0),(6,I v6)],[(cU,.cells [.cw [.str aa.c_.Key,I aa.c_.Target.ax,I aa.c_.Target.aA,I aa.c_.Target.aC,I aa.c_.At,nW aa.c_.aG,I aa.c_.bb.cr,I aa.c_.bb.To,I aa.c_.Room],.bO bW,.bO bX,.sl 1 bU 0 yl.length,.sl 1 bP 0 aa.ba.length,.sl 1 ca 0 aa.aO.length,.sl 1 cH 0 aa.aE.length,I aa.aQ,I aa.bM]),(bW,.mp (aa.kM.map (fun e=>(AV.str e.1,(pA bG) e.2)))),(fb,.cC (fV pb bG Bn (aa.iA.set n2.toNat ((au v9 ai).2)))),(bX,tq aa.cj),(bU,cI yl),(bP,cI aa.ba),(ca,cI aa.aO),(cH,cI aa.aE),(b1,.cells [I ai.At,.str ai.Device,I ai.Kind,I ai.Version.ax,I ai.Version.aA,I ai.Version.aC])]⟩) ?_ ?_
       ·refine cB h J (fun h=>?_) (fun h=>?_)
        ·refine aT<|rM J J<|rN<|ab.cut (fun aS=>∃ (sb:List Int),gy aa ai n2 v6 v9 sb=some r∧aS=⟨165,[(0,.ptr cU 0),(3,.ptr b1 0),(6,I v6)],[(cU,.cells [.cw [.str aa.c_.Key,I aa.c_.Target.ax,I aa.c_.Target.aA,I aa.c_.Target.aC,I aa.c_.At,nW aa.c_.aG,I aa.c_.bb.cr,I aa.c_.bb.To,I aa.c_.Room],.bO bW,.bO bX,.sl 1 bU 0 sb.length,.sl 1 bP 0 aa.ba.length,.sl 1 ca 0 aa.aO.length,.sl 1 cH 0 aa.aE.length,I aa.aQ,I aa.bM]),(bW,.mp (aa.kM.map (fun e=>(AV.str e.1,(pA bG) e.2)))),(fb,.cC (fV pb bG Bn (aa.iA.set n2.toNat ((au v9 ai).2)))),(bX,tq aa.cj),(bU,cI sb),(bP,cI aa.ba),(ca,cI aa.aO),(cH,cI aa.aE),(b1,.cells [I ai.At,.str ai.Device,I ai.Kind,I ai.Version.ax,I ai.Version.aA,I ai.Version.aC])]⟩) ?_ ?_
         ·refine cB h J (fun h=>?_) (fun h=>?_)
          ·exact tR<|rM J J<|ae.qv (ay J) J<|rF J J J<|rL J J .p0 J J<|rM J J<|aU h fun rq e6 h=>ae.qv (cm J J J e6) J<|ae.qv (eS (g:=I) J J (.inl .p4) e6 J) J<|ae.qv (iY J J) J<|aU h fun zH e7 h=>ae.qv (cm J J J e7) J<|lg (g:=I) (H7:=bA (rq - 1)) J J J J e7 J .p4 J<|ae.ghost<|aq.eqs (s:=68) (rf:=.sl 1 bU 0 (aa.open_.set v6.toNat (bA (rq - 1))).length) J (by rw [ac])<|aq.here<|ae.ghost<|aq.DW (j:=3) (rf:=.sl 1 bU 0 (aa.open_.set v6.toNat (bA (rq - 1))).length) .p0 J (by rw [ac]) J<|aq.here<|rN<|ab.stop<|aq.lq [0,0,0,0,0,0,0,0,0] ⟨aa.open_.set v6.toNat (bA (rq - 1)),h,J⟩ J J
          ·exact tR<|rM J J<|ae.qv (ay J) J<|rF J J J<|rL J J .p0 J J<|rM J J<|aU h fun Cw e8 h=>ae.qv (cm J J J e8) J<|ae.qv (eS (g:=I) J J (.inl .p4) e8 J) J<|ae.qv (bQ J J) J<|aU h fun v17 e9 h=>ae.qv (cm J J J e9) J<|lg (g:=I) (H7:=bA (Cw+1)) J J J J e9 J .p4 J<|ae.ghost<|aq.eqs (s:=77) (rf:=.sl 1 bU 0 (aa.open_.set v6.toNat (bA (Cw+1))).length) J (by rw [ac])<|aq.here<|ae.ghost<|aq.DW (j:=3) (rf:=.sl 1 bU 0 (aa.open_.set v6.toNat (bA (Cw+1))).length) .p0 J (by rw [ac]) J<|aq.here<|rN<|ab.stop<|aq.lq [0,0,0,0,0,0,0,0,0] ⟨aa.open_.set v6.toNat (bA (Cw+1)),h,J⟩ J J
         ·rintro aS ⟨sb,h,rfl⟩
          unfold gy at h
          exact ab.stop<|aq.lq [0,0,0,0,0,0,0,0,0] ⟨sb,h,J⟩ J J
        ·exact tK<|ab.stop<|aq.lq [0,0,0,0,0,0,0,0,0] ⟨aa.open_,h,J⟩ J J
       ·rintro aS ⟨yl,h,rfl⟩
        unfold fu at h
        refine tS<|tS<|ab.cut (fun aS=>∃ (V9:Bool),jv aa ai n2 v6 v9 yl V9=some r∧aS=⟨165,[(0,.ptr cU 0),(3,.ptr b1 0),(6,I v6),(90,.bool V9)],[(cU,.cells [.cw [.str aa.c_.Key,I aa.c_.Target.ax,I aa.c_.Target.aA,I aa.c_.Target.aC,I aa.c_.At,nW aa.c_.aG,I aa.c_.bb.cr,I aa.c_.bb.To,I aa.c_.Room],.bO bW,.bO bX,.sl 1 bU 0 yl.length,.sl 1 bP 0 aa.ba.length,.sl 1 ca 0 aa.aO.length,.sl 1 cH 0 aa.aE.length,I aa.aQ,I aa.bM]),(bW,.mp (aa.kM.map (fun e=>(AV.str e.1,(pA bG) e.2)))),(fb,.cC (fV pb bG Bn (aa.iA.set n2.toNat ((au v9 ai).2)))),(bX,tq aa.cj),(bU,cI yl),(bP,cI aa.ba),(ca,cI aa.aO),(cH,cI aa.aE),(b1,.cells [I ai.At,.str ai.Device,I ai.Kind,I ai.Version.ax,I ai.Version.aA,I ai.Version.aC])]⟩) ?_ ?_
        ·refine tR<|rF J J J<|rL J J (.next .p7) J J<|ae.qv (kr J J) J<|rM J J<|ae.dq J J J (fun hc=>?_) (fun hc=>?_)
         ·rw [sR hc] at h
          exact rF J J J<|rY J J J<|rL J J (.next .p7) J J<|rY J J J<|ae.qv (kr J J) J<|rT J J J<|rN<|ab.stop<|aq.lq [0,0,0,0,0,0,0,0,0] ⟨decide (ai.Kind≠4),h,J⟩ J J
         ·rw [sS hc] at h
          exact rG J J J J<|rG J J J J<|rE J J J<|rN<|ab.stop<|aq.lq [0,0,0,0,0,0,0,0,0] ⟨false,h,J⟩ J J
        ·rintro aS ⟨V9,h,rfl⟩
         unfold jv at h
         refine cB h J (fun h=>?_) (fun h=>?_)
         ·refine ab.ret<|?_
          cases h
          exact aq.here ⟨_,.nil,_,.cons .p0 (.cons .p0 (.cons .p1 (.cons .p1 (.cons .p1 (.cons .p1 (.cons .p1 (.cons .p0 .nil))))))),⟨bU,bP,ca,cH,Bn,J,J⟩⟩
         ·refine tK<|aT<|rM J J<|ae.qv (ay J) J<|rF J J J<|rL J J .p0 J J<|rM J J<|aU h fun kG Cy h=>ae.qv (cm J J J Cy) J<|ae.qv (eS (g:=I) J J (.inl .p5) Cy J) J<|ae.qv (bQ J J) J<|aU h fun v20 Hg h=>ae.qv (cm J J J Hg) J<|lg (g:=I) (H7:=bA (kG+1)) J J J J Hg J .p5 J<|ae.ghost<|aq.eqs (s:=94) (rf:=.sl 1 bP 0 (aa.ba.set v6.toNat (bA (kG+1))).length) J (by rw [ac])<|aq.here<|ae.ghost<|aq.DW (j:=4) (rf:=.sl 1 bP 0 (aa.ba.set v6.toNat (bA (kG+1))).length) .p0 J (by rw [ac]) J<|aq.here<|rN<|tS<|aT<|rF J J J<|rL J J (.next .p7) J J<|ae.qv (fY J J) J<|rN<|ab.cut (fun aS=>∃ (uG:List Int),ft aa ai n2 v6 v9 yl kG uG=some r∧aS=⟨165,[(0,.ptr cU 0),(3,.ptr b1 0),(6,I v6)],[(cU,.cells [.cw [.str aa.c_.Key,I aa.c_.Target.ax,I aa.c_.Target.aA,I aa.c_.Target.aC,I aa.c_.At,nW aa.c_.aG,I aa.c_.bb.cr,I aa.c_.bb.To,I aa.c_.Room],.bO bW,.bO bX,.sl 1 bU 0 yl.length,.sl 1 bP 0 (aa.ba.set v6.toNat (bA (kG+1))).length,.sl 1 ca 0 uG.length,.sl 1 cH 0 aa.aE.length,I aa.aQ,I aa.bM]),(bW,.mp (aa.kM.map (fun e=>(AV.str e.1,(pA bG) e.2)))),(fb,.cC (fV pb bG Bn (aa.iA.set n2.toNat ((au v9 ai).2)))),(bX,tq aa.cj),(bU,cI yl),(bP,cI (aa.ba.set v6.toNat (bA (kG+1)))),(ca,cI uG),(cH,cI aa.aE),(b1,.cells [I ai.At,.str ai.Device,I ai.Kind,I ai.Version.ax,I ai.Version.aA,I ai.Version.aC])]⟩) ?_ ?_
          ·refine cD h J (fun h=>?_) (fun h=>?_)
           ·exact tR<|rM J J<|ae.qv (ay J) J<|rF J J J<|rL J J .p0 J J<|rM J J<|aU h fun v22 I9 h=>ae.qv (cm J J J I9) J<|ae.qv (eS (g:=I) J J (.inl .p6) I9 J) J<|ae.qv (bQ J J) J<|aU h fun v23 R5 h=>ae.qv (cm J J J R5) J<|lg (g:=I) (H7:=bA (v22+1)) J J J J R5 J .p6 J<|ae.ghost<|aq.eqs (s:=106) (rf:=.sl 1 ca 0 (aa.aO.set v6.toNat (bA (v22+1))).length) J (by rw [ac])<|aq.here<|ae.ghost<|aq.DW (j:=5) (rf:=.sl 1 ca 0 (aa.aO.set v6.toNat (bA (v22+1))).length) .p0 J (by rw [ac]) J<|aq.here<|rN<|ab.stop<|aq.lq [0,0,0,0,0,0,0,0,0] ⟨aa.aO.set v6.toNat (bA (v22+1)),h,J⟩ J J
           ·exact tK<|ab.stop<|aq.lq [0,0,0,0,0,0,0,0,0] ⟨aa.aO,h,J⟩ J J
          ·rintro aS ⟨uG,h,rfl⟩
           unfold ft at h
           refine aT<|rM J J<|ae.qv (ay J) J<|rF J J J<|rL J J .p0 J J<|ae.qv (bC J) J<|ae.qv (bn J J) J<|ae.qv (aR J J J) J<|rM J J<|aU h fun v24 ZF h=>ae.qv (bS J J J ZF J J) J<|ae.qv (bw J J J) J<|bY J J J J fun Ph=>aI J J J J .p0 J J<|rN<|tS<|ab.cut (fun aS=>∃ (V8:Bool),ef aa ai n2 v6 v9 yl kG uG V8=some r∧aS=⟨165,[(0,.ptr cU 0),(3,.ptr b1 0),(159,.bool V8)],[(cU,.cells [.cw [.str aa.c_.Key,I aa.c_.Target.ax,I aa.c_.Target.aA,I aa.c_.Target.aC,I aa.c_.At,nW aa.c_.aG,I aa.c_.bb.cr,I aa.c_.bb.To,I aa.c_.Room],.bO bW,.bO bX,.sl 1 bU 0 yl.length,.sl 1 bP 0 (aa.ba.set v6.toNat (bA (kG+1))).length,.sl 1 ca 0 uG.length,.sl 1 cH 0 aa.aE.length,I aa.aQ,I aa.bM]),(bW,.mp (aa.kM.map (fun e=>(AV.str e.1,(pA bG) e.2)))),(fb,.cC (fV pb bG Bn (aa.iA.set n2.toNat ((au v9 ai).2)))),(bX,tq aa.cj),(bU,cI yl),(bP,cI (aa.ba.set v6.toNat (bA (kG+1)))),(ca,cI uG),(cH,cI aa.aE),(b1,.cells [I ai.At,.str ai.Device,I ai.Kind,I ai.Version.ax,I ai.Version.aA,I ai.Version.aC])]⟩) ?_ ?_
           ·refine ab.di (id:=16) (A:=[0,1,3,7,15,31,63,127,255,511,63,2047,4095,63,8255,32767,65535,131071,262143,524287,1048575,2097151,262143,8388607,16777215,33554431,262143,67371007,262143,268697599,805568511,1879310335,262143,8321761279,16911695871,34292891647,68719476735,137438953471]) 38 mixed J (by kernel_rfl) (by kernel_rfl)<|AM.qv (aX J) J<|AM.qv (ay J) J<|AM.qv (aB J J) J<|AM.qv (aJ J J .p1 J) J<|AM.qv (cJ J J) J<|AM.qv (aX J) J<|AM.dq J J J (fun hc=>?_) (fun hc=>?_)
            ·refine have h:=rk hc h;AM.qv (aX J) J<|AM.aD J J J<|AM.qv (ay J) J<|AM.aD J J J<|AM.qv (aB J J) J<|AM.aD J J J<|AM.qv (aJ J J .p1 J) J<|AM.aD J J J<|AM.qv (aX J) J<|AM.aD J J J<|aU h fun jV e15 h=>AM.qv (cm J J J e15) J<|AM.aD J J J<|AM.qv (eS (g:=I) J J (.inl .p6) e15 J) J<|AM.aD J J J<|AM.qv (aB J J) J<|AM.aD J J J<|AM.qv (aJ J J .p0 J) J<|AM.aD J J J<|AM.qv (ri J J) J<|AM.qv (gr J J) J<|AM.qv (aX J) J<|AM.dq J J J (fun hc=>?_) (fun hc=>?_)
             ·exact have h:=rk hc h;AM.qv (aX J) J<|AM.aD J J J<|AM.qv (ay J) J<|AM.aD J J J<|AM.qv (aB J J) J<|AM.aD J J J<|AM.qv (aJ J J .p1 J) J<|AM.aD J J J<|AM.qv (aX J) J<|AM.aD J J J<|aU h fun v28 e16 h=>AM.qv (cm J J J e16) J<|AM.aD J J J<|AM.qv (eS (g:=I) J J (.inl .p7) e16 J) J<|AM.aD J J J<|AM.qv (u4 J J) J<|AM.aD J J J<|AM.qv (aB J J) J<|AM.aD J J J<|AM.qv (aJ J J .p0 J) J<|AM.aD J J J<|AM.qv (aX J) J<|AM.aD J J J<|AM.qv (ay J) J<|AM.aD J J J<|AM.qv (aB J J) J<|AM.aD J J J<|AM.qv (aJ J J .p1 J) J<|AM.aD J J J<|AM.qv (aX J) J<|AM.aD J J J<|aU h fun yZ e17 h=>AM.qv (cm J J J e17) J<|AM.aD J J J<|AM.qv (eS (g:=I) J J (.inl .p6) e17 J) J<|AM.aD J J J<|AM.qv (u4 J J) J<|AM.aD J J J<|AM.qv (jj J J) J<|AM.qv (gr J J) J<|AM.nil<|rN<|ab.stop<|aq.lq [1,1,1,1,1,1,1,1,1] ⟨decide ((bA (v24.ct * yZ)) < (bA (1000 * v28))),h,J⟩ J J
             ·exact have h:=Be hc h;AM.az J J J J<|AM.az J J J J<|AM.az J J J J<|AM.az J J J J<|AM.az J J J J<|AM.az J J J J<|AM.az J J J J<|AM.az J J J J<|AM.az J J J J<|AM.az J J J J<|AM.az J J J J<|AM.az J J J J<|AM.az J J J J<|AM.az J J J J<|AM.az J J J J<|AM.az J J J J<|AM.az J J J J<|AM.az J J J J<|AM.qv (eQ J J) J<|AM.nil<|rN<|ab.stop<|aq.lq [1,1,1,1,1,1,1,1,1] ⟨false,h,J⟩ J J
            ·exact have h:=Be hc h;AM.az J J J J<|AM.az J J J J<|AM.az J J J J<|AM.az J J J J<|AM.az J J J J<|AM.az J J J J<|AM.az J J J J<|AM.az J J J J<|AM.az J J J J<|AM.qv (eQ J J) J<|AM.qv (aX J) J<|AM.az J J J J<|AM.az J J J J<|AM.az J J J J<|AM.az J J J J<|AM.az J J J J<|AM.az J J J J<|AM.az J J J J<|AM.az J J J J<|AM.az J J J J<|AM.az J J J J<|AM.az J J J J<|AM.az J J J J<|AM.az J J J J<|AM.az J J J J<|AM.az J J J J<|AM.az J J J J<|AM.az J J J J<|AM.az J J J J<|AM.az J J J J<|AM.qv (eQ J J) J<|AM.nil<|rN<|ab.stop<|aq.lq [1,1,1,1,1,1,1,1,1] ⟨false,h,J⟩ J J
           ·rintro aS ⟨V8,h,rfl⟩
            unfold ef at h
            refine ab.cut (fun aS=>∃ (n30:Int),gl aa ai n2 v6 v9 yl kG uG n30=some r∧aS=⟨165,[],[(cU,.cells [.cw [.str aa.c_.Key,I aa.c_.Target.ax,I aa.c_.Target.aA,I aa.c_.Target.aC,I aa.c_.At,nW aa.c_.aG,I aa.c_.bb.cr,I aa.c_.bb.To,I aa.c_.Room],.bO bW,.bO bX,.sl 1 bU 0 yl.length,.sl 1 bP 0 (aa.ba.set v6.toNat (bA (kG+1))).length,.sl 1 ca 0 uG.length,.sl 1 cH 0 aa.aE.length,I n30,I aa.bM]),(bW,.mp (aa.kM.map (fun e=>(AV.str e.1,(pA bG) e.2)))),(fb,.cC (fV pb bG Bn (aa.iA.set n2.toNat ((au v9 ai).2)))),(bX,tq aa.cj),(bU,cI yl),(bP,cI (aa.ba.set v6.toNat (bA (kG+1)))),(ca,cI uG),(cH,cI aa.aE)]⟩) ?_ ?_
            ·refine cB h J (fun h=>?_) (fun h=>?_)
             ·exact tR<|rM J J<|rF J J J<|rL J J (.next .p7) J J<|ae.qv (ay J) J<|rF J J J<|aI J J J J .p0 J J<|rN<|ab.stop<|aq.lq [0,0,0,0,0,0,0,0] ⟨ai.At,h,J⟩ J J
             ·exact tK<|ab.stop<|aq.lq [0,0,0,0,0,0,0,0] ⟨aa.aQ,h,J⟩ J J
            ·rintro aS ⟨n30,h,rfl⟩
             unfold gl at h
             refine ab.nil<|?_
             cases h
             exact aq.here ⟨_,.nil,_,.cons .p0 (.cons .p0 (.cons .p1 (.cons .p1 (.cons .p1 (.cons .p1 (.cons .p1 (.cons .p0 .nil))))))),⟨bU,bP,ca,cH,Bn,J,J⟩⟩
theorem Bo [GI:ck] {aa:Campaign} {ai:List ar} {aL:List DeviceS} {bu:Int} {cA:List bq} {sr:lF} {r:(List MarkS)×Int} (h:mI aa ai aL bu cA sr=some r):aY Tryz.prog 7 [Campaign.av aa,tu ai,xP aL,I bu,y7 cA,lF.av sr] [] (T1 (fun oN=>[(oN,I8 r.1)]) (fun oN=>.ma [.sl 6 oN 0 r.1.length,I r.2])):=by
 unfold mI at h
 refine aY.lD ?_
 refine aY.ch Tryz.func7 J Tryz.ntmps7 Tryz.results7 J J ?_
 refine aT<|eA J J J J fun b1=>eA J J J J fun b2=>rA J J<|rA J J<|rN<|tS<|aT<|ae.qv (aH J J .p1 J) J<|aU h fun v3 e1 h=>bl J (ll e1) cR J<|rM J J<|aU h fun v4 e2 h=>bl J (pK e2) cR J<|rM J J<|aU h fun v5 e3 h=>bl J (ql e3) cR J<|bf (xs:=([v3,v4,v5]:List Int).map I) J J J J J J<|aU h fun v6 e4 h=>bl J (y9 e4) cR J<|rA J J<|rN<|aT<|rM J J<|ae.qv (kr J J) J<|rN<|cD h J (fun h=>?_) (fun h=>?_)
 ·refine aT<|rM J J<|rA J J<|rA J J<|rN<|ab.ret<|?_
  cases h
  exact aq.arr (s:=12) 6 J fun b7=>aq.here ⟨_,.cons (.tmp _ _ J) (.cons (.tmp _ _ J) .nil),_,.cons .p0 .nil,⟨b7,J,J⟩⟩
 ·refine tK<|tS<|ab.block<|aT<|rM J J<|bl J (ei J) cR J<|rA J J<|rN<|cB h J (fun h=>?_) (fun h=>?_)
  ·refine aT<|rA J J<|rA J J<|rN<|ab.ret<|?_
   cases h
   exact aq.arr (s:=12) 6 J fun b8=>aq.here ⟨_,.cons (.tmp _ _ J) (.cons (.tmp _ _ J) .nil),_,.cons .p0 .nil,⟨b8,J,J⟩⟩
  ·refine aT<|rM J J<|ae.qv (dm J) J<|ae.qv (jj J J) J<|rA J J<|rN<|cD h J (fun h=>?_) (fun h=>?_)
   ·refine aT<|rA J J<|rA J J<|rN<|ab.ret<|?_
    cases h
    exact aq.arr (s:=12) 6 J fun b9=>aq.here ⟨_,.cons (.tmp _ _ J) (.cons (.tmp _ _ J) .nil),_,.cons .p0 .nil,⟨b9,J,J⟩⟩
   ·refine tS<|ab.cut (fun aS=>∃ (Nu:Bool),lJ aa ai aL bu cA sr Nu=some r∧aS=⟨103,[(1,tu ai),(2,xP aL),(3,I bu),(4,y7 cA),(6,.ptr b1 0),(11,.ptr b2 0),(40,.bool Nu)],[(b1,.cells (Ty aa)),(b2,.cells [I sr.cr,I sr.To])]⟩) ?_ ?_
    ·refine tR<|ae.qv (aH J J .p0 J) J<|bl J (DB J) cR J<|ae.qv (dc J) J<|rM J J<|ae.guard J J J (fun hc=>?_) (fun hc=>?_)
     ·exact have h:=tD hc h;rF J J J<|rY J J J<|rL J J .p0 J J<|rY J J J<|rF J J J<|rY J J J<|rL J J .p0 J J<|rY J J J<|ae.qv (iY J J) J<|rY J J J<|rM J J<|rY J J J<|ae.qv (bQ J J) J<|rY J J J<|ae.qv (iY J J) J<|rY J J J<|rM J J<|rY J J J<|aU h fun n11 e5 h=>ae.qv (E3 J J e5) J<|rY J J J<|ae.qv (jj J J) J<|rE J J J<|rA J J<|rN<|ab.stop<|aq.lq [1,0] ⟨decide (500 < n11),h,J⟩ J J
     ·exact have h:=rk hc h;rG J J J J<|rG J J J J<|rG J J J J<|rG J J J J<|rG J J J J<|rG J J J J<|rG J J J J<|rG J J J J<|rG J J J J<|rG J J J J<|rT J J J<|rA J J<|rN<|ab.stop<|aq.lq [1,0] ⟨true,h,J⟩ J J
    ·rintro aS ⟨Nu,h,rfl⟩
     unfold lJ at h
     refine cB h J (fun h=>?_) (fun h=>?_)
     ·refine aT<|rA J J<|rA J J<|rN<|ab.ret<|?_
      cases h
      exact aq.arr (s:=12) 6 J fun qd=>aq.here ⟨_,.cons (.tmp _ _ J) (.cons (.tmp _ _ J) .nil),_,.cons .p0 .nil,⟨qd,J,J⟩⟩
     ·refine tK<|ab.dp<|aT<|rM J J<|ae.ghost<|aq.Fg (ss:=[6]) (by simp [lk]) .p0<|aq.here<|aU h fun oZ e6 h=>Cj J (nZ e6) cR .nil (fun _ _ _ _ _ _ _ _ _ _=>J) J fun F6 F7 Di qp vD Bl za b21 QI ZH=>rA J J<|rN<|aT<|rM J J<|ae.qv (bn J J) J<|ae.qv (nD J J J J) J<|xl J fun F5=>ae.qv (da J J J J J) J<|eA J J J J fun Ph=>rA J J<|rN<|aT<|rA J J<|rN<|tS<|aT<|rF J J J<|ae.qv (aJ J J (.next (.next (.next .p7))) J) J<|rA J J<|rN<|ab.block<|ab.dR (fun x:(List (bq×Int))×(List aj)×(List (bq×Int))×(List Int)×(List Int)×(List Int)×(List Int)×Int×Int×(List ar)×Int×Int×Int×(List (bq×(List (Version×ak))))×(List MarkS)×Int=>jL aa aL bu cA sr x.1 x.2.1 x.2.2.1 x.2.2.2.1 x.2.2.2.2.1 x.2.2.2.2.2.1 x.2.2.2.2.2.2.1 x.2.2.2.2.2.2.2.1 x.2.2.2.2.2.2.2.2.1 x.2.2.2.2.2.2.2.2.2.1 x.2.2.2.2.2.2.2.2.2.2.1 x.2.2.2.2.2.2.2.2.2.2.2.1 x.2.2.2.2.2.2.2.2.2.2.2.2.1 x.2.2.2.2.2.2.2.2.2.2.2.2.2.1 x.2.2.2.2.2.2.2.2.2.2.2.2.2.2.1 x.2.2.2.2.2.2.2.2.2.2.2.2.2.2.2) (fun x aS=>∃ (TH:Nat→Nat→Bk) (Pk:Bk) (XV:Bk) (Pl:Bk) (QJ:Bk) (XX:Bk),aS=⟨103,[(2,xP aL),(3,I bu),(4,y7 cA),(11,.ptr b2 0),(15,.ptr F6 0),(16,.ptr Ph 0),(17,.sl 6 XX 0 x.2.2.2.2.2.2.2.2.2.2.2.2.2.2.1.length),(18,I x.2.2.2.2.2.2.2.2.2.2.2.2.2.2.2)],[(b2,.cells [I sr.cr,I sr.To]),(F6,.cells [.cw [.str aa.Key,I aa.Target.ax,I aa.Target.aA,I aa.Target.aC,I aa.At,nW aa.aG,I aa.bb.cr,I aa.bb.To,I aa.Room],.bO F7,.bO Di,.sl 1 Pk 0 x.2.2.2.1.length,.sl 1 XV 0 x.2.2.2.2.1.length,.sl 1 Pl 0 x.2.2.2.2.2.1.length,.sl 1 QJ 0 x.2.2.2.2.2.2.1.length,I x.2.2.2.2.2.2.2.1,I x.2.2.2.2.2.2.2.2.1]),(F7,.mp (x.1.map (fun e=>(AV.str e.1,(pA QI) e.2)))),(b21,.cC (fV pb QI TH x.2.1)),(Di,tq x.2.2.1),(Pk,cI x.2.2.2.1),(XV,cI x.2.2.2.2.1),(Pl,cI x.2.2.2.2.2.1),(QJ,cI x.2.2.2.2.2.2.1),(Ph,.cells [tu x.2.2.2.2.2.2.2.2.2.1,I x.2.2.2.2.2.2.2.2.2.2.1,I x.2.2.2.2.2.2.2.2.2.2.2.1,I x.2.2.2.2.2.2.2.2.2.2.2.2.1,.bO F5]),(F5,ow x.2.2.2.2.2.2.2.2.2.2.2.2.2.1),(XX,I8 x.2.2.2.2.2.2.2.2.2.2.2.2.2.2.1)]⟩) h ?_ ?_
      ·exact aq.arr (s:=17) 6 J fun b70=>aq.lq [11,3,3,8,3,3,3,3,3,1,1,0] ⟨ZH,qp,vD,Bl,za,b70,J⟩ J J
      ·intro x z1 aS J1 gS h mD gN
       obtain ⟨xN,Tu,Tv,J8,Ek,Em,BG,n60,n61,Wb,Wc,Wd,We,Wf,UR,n69⟩:=x
       obtain ⟨TH,Pk,XV,Pl,QJ,XX,rfl⟩:=gS
       replace h:jL aa aL bu cA sr xN Tu Tv J8 Ek Em BG n60 n61 Wb Wc Wd We Wf UR n69=some z1:=h
       unfold jL at h
       refine tS<|aT<|rM J J<|rF J J J<|rL J J .p0 J J<|ae.qv (cJ J J) J<|rN<|cD h J (fun h=>?_) (fun h=>?_)
       ·refine tK<|tS<|ab.block<|aT<|rM J J<|rM J J<|aU h fun Ic e7 h=>yV J (gG e7) cR (.cons .p1 (.cons .p4 (.cons .p4 (.cons .p4 (.cons .p4 .nil))))) (fun _ _ _ _=>J) J fun b72 ZJ ZK ZL=>rN<|aT<|rM J J<|rM J J<|rM J J<|rM J J<|rM J J<|aU h fun v76 e8 h=>kK J (vT e8) cR (.cons .p0 (.cons .p5 (.cons .p6 (.cons .p0 (.cons .p0 (.cons .p0 (.cons .p0 (.cons .p1 (.cons .p1 (.cons .p1 .nil)))))))))) (fun _=>J) J fun b77=>rA J J<|rN<|tS<|aT<|rM J J<|rM J J<|aU h fun Ib e9 h=>fO (g:=MarkS.av) J J J J J J J J (KZ (.inl (.next (.next (.next .p7)))) J) e9 (fun _=>(.next (.next (.next (.next (.next .p7)))))) J fun Wp=>rA J J<|rN<|aT<|rM J J<|ae.qv (iH J) J<|ae.qv (jj J J) J<|rN<|cD h J (fun h=>?_) (fun h=>?_)
        ·refine aT<|rA J J<|rA J J<|rN<|ab.ret<|have h:=cW h gN;?_
         cases h
         exact aq.arr (s:=12) 6 J fun ZN=>aq.here ⟨_,.cons (.tmp _ _ J) (.cons (.tmp _ _ J) .nil),_,.cons .p0 .nil,⟨ZN,J,J⟩⟩
        ·refine tK<|tS<|aT<|rM J J<|ae.qv (iH J) J<|rM J J<|rN<|ab.block<|ab.dR (fun x:(List (bq×Int))×(List aj)×(List (bq×Int))×(List Int)×(List Int)×(List Int)×(List Int)×Int×Int×Int=>jK aa bu n69 v76 Ib x.1 x.2.1 x.2.2.1 x.2.2.2.1 x.2.2.2.2.1 x.2.2.2.2.2.1 x.2.2.2.2.2.2.1 x.2.2.2.2.2.2.2.1 x.2.2.2.2.2.2.2.2.1 x.2.2.2.2.2.2.2.2.2) (fun x aS=>∃ (TI:Nat→Nat→Bk) (TJ:Bk) (TK:Bk) (TL:Bk) (TN:Bk),aS=⟨103,[(2,xP aL),(3,I bu),(4,y7 cA),(11,.ptr b2 0),(15,.ptr F6 0),(16,.ptr Ph 0),(17,.sl 6 Wp 0 Ib.length),(18,I n69),(89,.sl 6 b77 0 v76.1.length),(90,I (v76.1.length:Int)),(91,I x.2.2.2.2.2.2.2.2.2)],[(b2,.cells [I sr.cr,I sr.To]),(F6,.cells [.cw [.str aa.Key,I aa.Target.ax,I aa.Target.aA,I aa.Target.aC,I aa.At,nW aa.aG,I aa.bb.cr,I aa.bb.To,I aa.Room],.bO F7,.bO Di,.sl 1 TJ 0 x.2.2.2.1.length,.sl 1 TK 0 x.2.2.2.2.1.length,.sl 1 TL 0 x.2.2.2.2.2.1.length,.sl 1 TN 0 x.2.2.2.2.2.2.1.length,I x.2.2.2.2.2.2.2.1,I x.2.2.2.2.2.2.2.2.1]),(F7,.mp (x.1.map (fun e=>(AV.str e.1,(pA QI) e.2)))),(b21,.cC (fV pb QI TI x.2.1)),(Di,tq x.2.2.1),(TJ,cI x.2.2.2.1),(TK,cI x.2.2.2.2.1),(TL,cI x.2.2.2.2.2.1),(TN,cI x.2.2.2.2.2.2.1),(Ph,.cells (BH v76.2 F5)),(F5,ow v76.2.eT),(Wp,I8 Ib),(b77,I8 v76.1)]⟩) h ?_ ?_
         ·exact aq.lq [11,0,0,5,0,0,0,0,0,0,0,1,0] ⟨TH,b72,ZJ,ZK,ZL,J⟩ J J
         ·intro x z2 aS J2 gS h DA AL
          obtain ⟨QA,QB,QC,Ha,Hb,Hc,Hd,n108,n109,n110⟩:=x
          obtain ⟨TI,TJ,TK,TL,TN,rfl⟩:=gS
          replace h:jK aa bu n69 v76 Ib QA QB QC Ha Hb Hc Hd n108 n109 n110=some z2:=h
          unfold jK at h
          refine aT<|ae.qv (cJ J J) J<|rN<|tS<|cD h J (fun h=>?_) (fun h=>?_)
          ·refine tK<|tS<|ab.block<|aT<|aU h fun Wa Cy h=>ae.qv (cm J J J Cy) J<|ae.qv (gP (g:=MarkS.av) J J (.inl (.next (.next (.next (.next (.next .p7)))))) J Cy J) J<|bY J J J J fun ajD=>aI J J J J .p0 J J<|rN<|tR<|rM J J<|ae.qv (aH J J .p0 J) J<|aU h fun Dy Hg h=>BC J (qm Hg) cR (.cons .p2 (.cons .p2 (.cons .p3 (.cons .p3 (.cons .p3 (.cons .p3 (.cons .p3 (.cons .p2 .nil)))))))) (fun _ _ _ _ _=>J) J fun ZO ZP ZQ ZR Wq=>rN<|ab.dp<|tR<|ae.qv (bQ J J) J<|rM J J<|rN<|ab.stop<|?_
           cases h
           exact DA _ _ J<|aq.lq [9,0,0,5,0,0,0,0,0,1,1,1,1] ⟨Wq,ZO,ZP,ZQ,ZR,J⟩ J J
          ·refine ab.exit J<|have h:=cW h AL;?_
           unfold nK at h
           refine tR<|rM J J<|rM J J<|aU h fun I6 I9 h=>yV J (gG I9) cR (.cons .p1 (.cons .p4 (.cons .p4 (.cons .p4 (.cons .p4 .nil))))) (fun _ _ _ _=>J) J fun ZS ZT ZU ZV=>rN<|ab.dp<|tR<|rM J J<|rM J J<|ae.qv (bQ J J) J<|rA J J<|rN<|ab.stop<|?_
           cases h
           exact mD _ _ J<|aq.lq [5,0,4,4,4,0,0,0,0,0,0,0] ⟨TI,ZS,ZT,ZU,ZV,Wp,J⟩ J J
       ·refine ab.exit J<|have h:=cW h gN;aT<|rM J J<|rA J J<|rA J J<|rN<|ab.ret<|?_
        cases h
        exact hI J J [11] J ⟨XX,J,J⟩
theorem vU [GI:ck] {aa:List MarkS} {r:Int} (h:jk aa=some r):Pu Tryz.prog 55 [Hf aa] (I r):=by
 unfold jk at h
 refine aY.ch Tryz.func55 J Tryz.ntmps55 Tryz.results55 J J ?_
 refine aT<|rA J J<|rN<|tS<|aT<|rM J J<|ae.qv (dm J) J<|ae.qv (jj J J) J<|rN<|cD h J (fun h=>?_) (fun h=>?_)
 ·refine aT<|rA J J<|rN<|ab.ret<|?_
  cases h
  exact hP J J
 ·refine tK<|tS<|aT<|rM J J<|ae.qv (dm J) J<|rM J J<|rN<|ab.block<|ab.dR (fun x:Int=>dz aa x) (fun x aS=>aS=⟨48,[(0,Hf aa),(8,Hf aa),(9,I (aa.length:Int)),(10,I x)],[]⟩) h ?_ ?_
  ·exact aq.lq [] J J J
  ·intro n2 z1 aS J1 gS h mD gN
   obtain rfl:=gS
   replace h:dz aa n2=some z1:=h
   unfold dz at h
   refine aT<|ae.qv (cJ J J) J<|rN<|tS<|cD h J (fun h=>?_) (fun h=>?_)
   ·refine tK<|tS<|ab.block<|aT<|rM J J<|aU h fun v3 e1 h=>ae.qv (bS J J J e1 J J) J<|ae.qv (bw J J J) J<|bY J J J J fun b4=>rA J J<|aI J J J J .p0 J J<|rN<|ab.block<|aT<|rF J J J<|rL J J .p0 J J<|bl J (qQ J) cR J<|ae.qv (dc J) J<|rA J J<|rN<|cB h J (fun h=>?_) (fun h=>?_)
    ·refine aT<|rA J J<|rN<|ab.ret<|have h:=cW h gN;?_
     cases h
     exact hP J J
    ·refine aT<|rF J J J<|rL J J .p0 J J<|aU h fun v5 e2 h=>bl J (lj e2) cR J<|ae.qv (dc J) J<|rA J J<|rN<|cB h J (fun h=>?_) (fun h=>?_)
     ·refine aT<|rA J J<|rN<|ab.ret<|have h:=cW h gN;?_
      cases h
      exact hP J J
     ·refine aT<|rF J J J<|rL J J .p0 J J<|bl J (ei J) cR J<|rA J J<|rN<|cB h J (fun h=>?_) (fun h=>?_)
      ·refine aT<|rA J J<|rN<|ab.ret<|have h:=cW h gN;?_
       cases h
       exact hP J J
      ·refine aT<|rF J J J<|ae.qv (aP J J .p0 J J) J<|bl J (iN J) cR J<|ae.qv (dc J) J<|rA J J<|rN<|cB h J (fun h=>?_) (fun h=>?_)
       ·refine aT<|rA J J<|rN<|ab.ret<|have h:=cW h gN;?_
        cases h
        exact hP J J
       ·refine tS<|ab.cut (fun aS=>∃ (c6:Bool),gA n2 c6=some z1∧aS=⟨48,[(0,Hf aa),(8,Hf aa),(9,I (aa.length:Int)),(10,I n2),(34,.bool c6)],[]⟩) ?_ ?_
        ·refine ab.di (id:=14) (A:=[0,1,3,7,7,7,39,119,247,511,1023,2047,4095]) 13 mixed J (by kernel_rfl) (by kernel_rfl)<|AM.qv (aX J) J<|AM.qv (jj J J) J<|AM.qv (aX J) J<|AM.dq J J J (fun hc=>?_) (fun hc=>?_)
         ·exact have h:=rk hc h;AM.qv (aH J J .p0 J) J<|AM.aD J J J<|AM.qv (aX J) J<|AM.aD J J J<|AM.qv (aX J) J<|AM.aD J J J<|AM.qv (iY J J) J<|AM.aD J J J<|aU h fun v7 e3 h=>AM.qv (bS J J J e3 J J) J<|AM.aD J J J<|AM.qv (bw J J J) J<|AM.aD J J J<|aU h fun v8 e4 h=>AM.kA J (sf e4) cR J<|AM.aD J J J<|AM.qv (sM J J) J<|AM.qv (gr J J) J<|AM.qv (bT J) J<|AM.nil<|rN<|ab.stop<|aq.lq [] ⟨decide (v8≤0),h,J⟩ J J
         ·exact have h:=Be hc h;AM.az J J J J<|AM.az J J J J<|AM.az J J J J<|AM.az J J J J<|AM.az J J J J<|AM.az J J J J<|AM.az J J J J<|AM.qv (eQ J J) J<|AM.qv (bT J) J<|AM.nil<|rN<|ab.stop<|aq.lq [] ⟨false,h,J⟩ J J
        ·rintro aS ⟨c6,h,rfl⟩
         unfold gA at h
         refine cB h J (fun h=>?_) (fun h=>?_)
         ·refine aT<|rA J J<|rN<|ab.ret<|have h:=cW h gN;?_
          cases h
          exact hP J J
         ·refine tK<|ab.dp<|ab.dp<|tR<|ae.qv (bQ J J) J<|rM J J<|rN<|ab.stop<|?_
          cases h
          exact mD _ _ J<|aq.lq [] J J J
   ·refine ab.exit J<|have h:=cW h gN;aT<|rA J J<|rN<|ab.ret<|?_
    cases h
    exact hP J J
theorem qt [GI:ck] {aa:Campaign} {ai:List DeviceS} {aL:List MarkS} {bu r:Int} (h:j7 aa ai aL bu=some r):Pu Tryz.prog 31 [.cw [.str aa.Key,I aa.Target.ax,I aa.Target.aA,I aa.Target.aC,I aa.At,nW aa.aG,I aa.bb.cr,I aa.bb.To,I aa.Room],xP ai,Hf aL,I bu] (I r):=by
 unfold j7 at h
 refine aY.ch Tryz.func31 J Tryz.ntmps31 Tryz.results31 J J ?_
 refine aT<|rA J J<|rN<|aT<|rM J J<|ae.qv (bC J) J<|ae.qv (bw J J J) J<|aU h fun v1 e1 h=>bl J (ll e1) cR J<|rM J J<|aU h fun v2 e2 h=>bl J (ql e2) cR J<|rM J J<|aU h fun v3 e3 h=>bl J (vU e3) cR J<|bf (xs:=([v1,v2,v3]:List Int).map I) J J J J J J<|aU h fun v4 e4 h=>bl J (y9 e4) cR J<|rA J J<|rN<|tS<|tS<|ab.cut (fun aS=>∃ (c5:Bool),mV v4 c5=some r∧aS=⟨28,[(9,I v4),(26,.bool c5)],[]⟩) ?_ ?_
 ·refine tR<|rM J J<|ae.qv (fY J J) J<|rM J J<|ae.dq J J J (fun hc=>?_) (fun hc=>?_)
  ·rw [sR hc] at h
   exact rM J J<|rY J J J<|bl J (qQ J) cR J<|rY J J J<|ae.qv (dc J) J<|rT J J J<|rN<|ab.stop<|aq.lq [] ⟨!(jE bu),h,J⟩ J J
  ·rw [sS hc] at h
   exact rG J J J J<|rG J J J J<|rE J J J<|rN<|ab.stop<|aq.lq [] ⟨false,h,J⟩ J J
 ·rintro aS ⟨c5,h,rfl⟩
  unfold mV at h
  refine ab.cut (fun aS=>∃ (n6:Int),kV n6=some r∧aS=⟨28,[(9,I n6)],[]⟩) ?_ ?_
  ·refine cB h J (fun h=>?_) (fun h=>?_)
   ·exact tR<|rA J J<|rN<|ab.stop<|aq.lq [] ⟨1,h,J⟩ J J
   ·exact tK<|ab.stop<|aq.lq [] ⟨v4,h,J⟩ J J
  ·rintro aS ⟨n6,h,rfl⟩
   unfold kV at h
   refine aT<|rM J J<|rA J J<|rN<|ab.ret<|?_
   cases h
   exact hP J J
theorem pN [GI:ck] {cU fb:Bk} {bG:Nat→Bk} {fc:Nat→Nat→Bk} {bW bX bU bP ca cH:Bk} {aa:ao} {ai:List MarkS} {aL:Int} {r:ao} (h:eW aa ai aL=some r):aY Tryz.prog 32 [.ptr cU 0,Hf ai,I aL] [(cU,.cells [.cw [.str aa.c_.Key,I aa.c_.Target.ax,I aa.c_.Target.aA,I aa.c_.Target.aC,I aa.c_.At,nW aa.c_.aG,I aa.c_.bb.cr,I aa.c_.bb.To,I aa.c_.Room],.bO bW,.bO bX,.sl 1 bU 0 aa.open_.length,.sl 1 bP 0 aa.ba.length,.sl 1 ca 0 aa.aO.length,.sl 1 cH 0 aa.aE.length,I aa.aQ,I aa.bM]),(bW,.mp (aa.kM.map (fun e=>(AV.str e.1,(pA bG) e.2)))),(bX,tq aa.cj),(bU,cI aa.open_),(bP,cI aa.ba),(ca,cI aa.aO),(cH,cI aa.aE),(fb,.cC (fV pb bG fc aa.iA))] (T5 (fun wE wF wG wH CB=>[(cU,.cells [.cw [.str aa.c_.Key,I aa.c_.Target.ax,I aa.c_.Target.aA,I aa.c_.Target.aC,I aa.c_.At,nW aa.c_.aG,I aa.c_.bb.cr,I aa.c_.bb.To,I aa.c_.Room],.bO bW,.bO bX,.sl 1 wE 0 r.open_.length,.sl 1 wF 0 r.ba.length,.sl 1 wG 0 r.aO.length,.sl 1 wH 0 r.aE.length,I r.aQ,I r.bM]),(bW,.mp (r.kM.map (fun e=>(AV.str e.1,(pA bG) e.2)))),(bX,tq r.cj),(wE,cI r.open_),(wF,cI r.ba),(wG,cI r.aO),(wH,cI r.aE),(fb,.cC (fV pb bG CB r.iA))]) (fun wE wF wG wH CB=>.ma [])):=by
 unfold eW at h
 refine aY.lD ?_
 refine aY.ch Tryz.func32 J Tryz.ntmps32 Tryz.results32 J J ?_
 refine tS<|aT<|rA J J<|rN<|ab.block<|ab.dR (fun x:(List (bq×Int))×(List aj)×(List (bq×Int))×(List Int)×(List Int)×(List Int)×(List Int)×Int×Int×Int=>eK aa ai aL x.1 x.2.1 x.2.2.1 x.2.2.2.1 x.2.2.2.2.1 x.2.2.2.2.2.1 x.2.2.2.2.2.2.1 x.2.2.2.2.2.2.2.1 x.2.2.2.2.2.2.2.2.1 x.2.2.2.2.2.2.2.2.2) (fun x aS=>∃ (ND:Nat→Nat→Bk) (za:Bk) (L5:Bk) (F5:Bk) (UX:Bk),aS=⟨57,[(0,.ptr cU 0),(1,Hf ai),(2,I aL),(6,I x.2.2.2.2.2.2.2.2.2)],[(cU,.cells [.cw [.str aa.c_.Key,I aa.c_.Target.ax,I aa.c_.Target.aA,I aa.c_.Target.aC,I aa.c_.At,nW aa.c_.aG,I aa.c_.bb.cr,I aa.c_.bb.To,I aa.c_.Room],.bO bW,.bO bX,.sl 1 za 0 x.2.2.2.1.length,.sl 1 L5 0 x.2.2.2.2.1.length,.sl 1 F5 0 x.2.2.2.2.2.1.length,.sl 1 UX 0 x.2.2.2.2.2.2.1.length,I x.2.2.2.2.2.2.2.1,I x.2.2.2.2.2.2.2.2.1]),(bW,.mp (x.1.map (fun e=>(AV.str e.1,(pA bG) e.2)))),(fb,.cC (fV pb bG ND x.2.1)),(bX,tq x.2.2.1),(za,cI x.2.2.2.1),(L5,cI x.2.2.2.2.1),(F5,cI x.2.2.2.2.2.1),(UX,cI x.2.2.2.2.2.2.1)]⟩) h ?_ ?_
 ·exact aq.lq [0,0,5,0,0,0,0,0] ⟨fc,bU,bP,ca,cH,J⟩ J J
 ·intro x z1 aS J1 gS h mD gN
  obtain ⟨BF,ud,Dh,uG,rO,sJ,AJ,n28,n29,n30⟩:=x
  obtain ⟨ND,za,L5,F5,UX,rfl⟩:=gS
  replace h:eK aa ai aL BF ud Dh uG rO sJ AJ n28 n29 n30=some z1:=h
  unfold eK at h
  refine tS<|tS<|ab.cut (fun aS=>∃ (c31:Bool),dJ aa ai aL BF ud Dh uG rO sJ AJ n28 n29 n30 c31=some z1∧aS=⟨57,[(0,.ptr cU 0),(1,Hf ai),(2,I aL),(6,I n30),(20,.bool c31)],[(cU,.cells [.cw [.str aa.c_.Key,I aa.c_.Target.ax,I aa.c_.Target.aA,I aa.c_.Target.aC,I aa.c_.At,nW aa.c_.aG,I aa.c_.bb.cr,I aa.c_.bb.To,I aa.c_.Room],.bO bW,.bO bX,.sl 1 za 0 uG.length,.sl 1 L5 0 rO.length,.sl 1 F5 0 sJ.length,.sl 1 UX 0 AJ.length,I n28,I n29]),(bW,.mp (BF.map (fun e=>(AV.str e.1,(pA bG) e.2)))),(fb,.cC (fV pb bG ND ud)),(bX,tq Dh),(za,cI uG),(L5,cI rO),(F5,cI sJ),(UX,cI AJ)]⟩) ?_ ?_
  ·refine tR<|rM J J<|rM J J<|ae.qv (dm J) J<|ae.qv (cJ J J) J<|rM J J<|gT h J J J (fun h=>?_) (fun h=>?_)
   ·exact rM J J<|rY J J J<|rM J J<|rY J J J<|aU h fun v32 e1 h=>ae.qv (bS J J J e1 J J) J<|rY J J J<|ae.qv (bn J J) J<|rY J J J<|ae.qv (aR J J J) J<|rY J J J<|rM J J<|rY J J J<|ae.qv (sM J J) J<|rT J J J<|rN<|ab.stop<|aq.lq [0,0,0,0,0,0,0,0] ⟨decide (v32.At≤aL),h,J⟩ J J
   ·exact rG J J J J<|rG J J J J<|rG J J J J<|rG J J J J<|rG J J J J<|rG J J J J<|rE J J J<|rN<|ab.stop<|aq.lq [0,0,0,0,0,0,0,0] ⟨false,h,J⟩ J J
  ·rintro aS ⟨c31,h,rfl⟩
   unfold dJ at h
   refine cB h J (fun h=>?_) (fun h=>?_)
   ·refine tK<|ab.block<|aT<|rM J J<|rM J J<|aU h fun v33 e2 h=>ae.qv (bS J J J e2 J J) J<|ae.qv (bn J J) J<|ae.qv (aR J J J) J<|rA J J<|rN<|aT<|rM J J<|rM J J<|ae.qv (iY J J) J<|aU h fun J9 e3 h=>yV J (gG e3) cR (.cons .p0 (.cons .p3 (.cons .p3 (.cons .p3 (.cons .p3 .nil))))) (fun _ _ _ _=>J) J fun b35 QG b37 QH=>rN<|tS<|ab.block<|ab.dR (fun x:(List (bq×Int))×(List aj)×(List (bq×Int))×(List Int)×(List Int)×(List Int)×(List Int)×Int×Int×Int=>gm aa ai v33 x.1 x.2.1 x.2.2.1 x.2.2.2.1 x.2.2.2.2.1 x.2.2.2.2.2.1 x.2.2.2.2.2.2.1 x.2.2.2.2.2.2.2.1 x.2.2.2.2.2.2.2.2.1 x.2.2.2.2.2.2.2.2.2) (fun x aS=>∃ (QK:Nat→Nat→Bk) (QJ:Bk) (TG:Bk) (Wr:Bk) (Ws:Bk),aS=⟨57,[(0,.ptr cU 0),(1,Hf ai),(2,I aL),(6,I x.2.2.2.2.2.2.2.2.2),(7,I v33.At)],[(cU,.cells [.cw [.str aa.c_.Key,I aa.c_.Target.ax,I aa.c_.Target.aA,I aa.c_.Target.aC,I aa.c_.At,nW aa.c_.aG,I aa.c_.bb.cr,I aa.c_.bb.To,I aa.c_.Room],.bO bW,.bO bX,.sl 1 QJ 0 x.2.2.2.1.length,.sl 1 TG 0 x.2.2.2.2.1.length,.sl 1 Wr 0 x.2.2.2.2.2.1.length,.sl 1 Ws 0 x.2.2.2.2.2.2.1.length,I x.2.2.2.2.2.2.2.1,I x.2.2.2.2.2.2.2.2.1]),(bW,.mp (x.1.map (fun e=>(AV.str e.1,(pA bG) e.2)))),(fb,.cC (fV pb bG QK x.2.1)),(bX,tq x.2.2.1),(QJ,cI x.2.2.2.1),(TG,cI x.2.2.2.2.1),(Wr,cI x.2.2.2.2.2.1),(Ws,cI x.2.2.2.2.2.2.1)]⟩) h ?_ ?_
    ·exact aq.lq [0,4,4,4,0,0,0,0] ⟨ND,b35,QG,b37,QH,J⟩ J J
    ·intro x z2 aS J2 gS h DA AL
     obtain ⟨F4,Ek,Em,BG,Ka,Ej,Kb,Ll,Lm,n68⟩:=x
     obtain ⟨QK,QJ,TG,Wr,Ws,rfl⟩:=gS
     replace h:gm aa ai v33 F4 Ek Em BG Ka Ej Kb Ll Lm n68=some z2:=h
     unfold gm at h
     refine tS<|tS<|ab.cut (fun aS=>∃ (Wg:Bool),dI aa ai v33 F4 Ek Em BG Ka Ej Kb Ll Lm n68 Wg=some z2∧aS=⟨57,[(0,.ptr cU 0),(1,Hf ai),(2,I aL),(6,I n68),(7,I v33.At),(42,.bool Wg)],[(cU,.cells [.cw [.str aa.c_.Key,I aa.c_.Target.ax,I aa.c_.Target.aA,I aa.c_.Target.aC,I aa.c_.At,nW aa.c_.aG,I aa.c_.bb.cr,I aa.c_.bb.To,I aa.c_.Room],.bO bW,.bO bX,.sl 1 QJ 0 BG.length,.sl 1 TG 0 Ka.length,.sl 1 Wr 0 Ej.length,.sl 1 Ws 0 Kb.length,I Ll,I Lm]),(bW,.mp (F4.map (fun e=>(AV.str e.1,(pA bG) e.2)))),(fb,.cC (fV pb bG QK Ek)),(bX,tq Em),(QJ,cI BG),(TG,cI Ka),(Wr,cI Ej),(Ws,cI Kb)]⟩) ?_ ?_
     ·refine tR<|rM J J<|rM J J<|ae.qv (dm J) J<|ae.qv (cJ J J) J<|rM J J<|gT h J J J (fun h=>?_) (fun h=>?_)
      ·exact rM J J<|rY J J J<|rM J J<|rY J J J<|aU h fun v70 e4 h=>ae.qv (bS J J J e4 J J) J<|rY J J J<|ae.qv (bn J J) J<|rY J J J<|ae.qv (aR J J J) J<|rY J J J<|rM J J<|rY J J J<|ae.qv (fY J J) J<|rT J J J<|rN<|ab.stop<|aq.lq [0,0,0,0,0,0,0,0] ⟨decide (v70.At=v33.At),h,J⟩ J J
      ·exact rG J J J J<|rG J J J J<|rG J J J J<|rG J J J J<|rG J J J J<|rG J J J J<|rE J J J<|rN<|ab.stop<|aq.lq [0,0,0,0,0,0,0,0] ⟨false,h,J⟩ J J
     ·rintro aS ⟨Wg,h,rfl⟩
      unfold dI at h
      refine cB h J (fun h=>?_) (fun h=>?_)
      ·refine tK<|tS<|ab.block<|tR<|rM J J<|rM J J<|rM J J<|aU h fun Ic e5 h=>ae.qv (bS J J J e5 J J) J<|ae.qv (bw J J J) J<|aU h fun v72 e6 h=>BC J (qm e6) cR (.cons .p0 (.cons .p0 (.cons .p1 (.cons .p1 (.cons .p1 (.cons .p1 (.cons .p1 (.cons .p0 .nil)))))))) (fun _ _ _ _ _=>J) J fun ZJ ZK ZL b76 ZW=>rN<|ab.dp<|tR<|rM J J<|ae.qv (bQ J J) J<|rA J J<|rN<|ab.stop<|?_
       cases h
       exact DA _ _ J<|aq.lq [0,0,5,0,0,0,0,0] ⟨ZW,ZJ,ZK,ZL,b76,J⟩ J J
      ·refine ab.exit J<|have h:=cW h AL;?_
       unfold lK at h
       refine tR<|rM J J<|rM J J<|aU h fun v78 e7 h=>yV J (gG e7) cR (.cons .p0 (.cons .p3 (.cons .p3 (.cons .p3 (.cons .p3 .nil))))) (fun _ _ _ _=>J) J fun Wp ZN b81 b82=>rN<|ab.dp<|ab.stop<|?_
       cases h
       exact mD _ _ J<|aq.lq [0,4,4,4,0,0,0,0] ⟨QK,Wp,ZN,b81,b82,J⟩ J J
   ·refine ab.exit J<|have h:=cW h gN;?_
    unfold lL at h
    refine tR<|rM J J<|rM J J<|aU h fun Tw e8 h=>yV J (gG e8) cR (.cons .p0 (.cons .p3 (.cons .p3 (.cons .p3 (.cons .p3 .nil))))) (fun _ _ _ _=>J) J fun b84 b85 b86 b87=>rN<|ab.nil<|?_
    cases h
    exact aq.here ⟨_,.nil,_,.cons .p0 (.cons .p4 (.cons .p5 (.cons .p0 (.cons .p0 (.cons .p0 (.cons .p0 (.cons .p0 .nil))))))),⟨b84,b85,b86,b87,ND,J,J⟩⟩
theorem yn [GI:ck] {aa:Campaign} {ai:List DeviceS} {aL:List MarkS} {bu:Int} {r:Int×Int} (h:iv aa ai aL bu=some r):Pu Tryz.prog 8 [Campaign.av aa,xP ai,Hf aL,I bu] (.ma [I r.1,I r.2]):=by
 unfold iv at h
 refine aY.ch Tryz.func8 J Tryz.ntmps8 Tryz.results8 J J ?_
 refine aT<|eA J J J J fun b1=>rA J J<|rA J J<|rN<|tS<|aT<|rM J J<|rM J J<|rM J J<|aU h fun v2 e1 h=>gb J (qt e1) (.cons (.xB _ _ _ .p0 (.cons (.co (.refl _)) (.cons (.co (.refl _)) (.cons (.co (.refl _)) (.cons (.co (.refl _)) (.cons (.co (.refl _)) (.cons (.co (.refl _)) (.cons (.co (.refl _)) (.cons (.co (.refl _)) (.cons (.co (.refl _)) .nil)))))))))) (.cons (.co (.refl _)) (.cons (.co (.refl _)) (.cons (.co (.refl _)) .nil)))) J J<|rA J J<|rN<|aT<|rM J J<|ae.qv (kr J J) J<|rN<|cD h J (fun h=>?_) (fun h=>?_)
 ·refine aT<|rM J J<|rA J J<|rA J J<|rN<|ab.ret<|?_
  cases h
  exact hQ J J J
 ·refine tK<|aT<|rM J J<|ae.ghost<|aq.Fg (ss:=[4]) (by simp [lk]) .p0<|aq.here<|aU h fun v3 e2 h=>Cj J (nZ e2) cR .nil (fun _ _ _ _ _ _ _ _ _ _=>J) J fun b4 b5 b6 b7 b8 b9 tv Fk ajE ajF=>rA J J<|rN<|aT<|rM J J<|rM J J<|rM J J<|aU h fun rq e3 h=>BC J (pN e3) cR (.cons .p0 (.cons .p0 (.cons .p0 (.cons .p0 (.cons .p0 (.cons .p0 (.cons .p0 (.cons .p0 .nil)))))))) (fun _ _ _ _ _=>J) J fun F7 Di qp vD ajG=>rN<|aT<|rM J J<|ae.qv (ay J) J<|rF J J J<|rL J J .p0 J J<|rA J J<|rA J J<|rN<|ab.ret<|?_
  cases h
  exact hQ J J J
theorem zb [GI:ck] {aa:Campaign} {ai:List DeviceS} {aL:List MarkS} {bu:Int} {r:(List Int)×Int} (h:jg aa ai aL bu=some r):aY Tryz.prog 9 [Campaign.av aa,xP ai,Hf aL,I bu] [] (T1 (fun oN=>[(oN,cI r.1)]) (fun oN=>.ma [.sl 1 oN 0 r.1.length,I r.2])):=by
 unfold jg at h
 refine aY.lD ?_
 refine aY.ch Tryz.func9 J Tryz.ntmps9 Tryz.results9 J J ?_
 refine aT<|eA J J J J fun b1=>rA J J<|rA J J<|rN<|tS<|aT<|rM J J<|rM J J<|rM J J<|aU h fun v2 e1 h=>gb J (qt e1) (.cons (.xB _ _ _ .p0 (.cons (.co (.refl _)) (.cons (.co (.refl _)) (.cons (.co (.refl _)) (.cons (.co (.refl _)) (.cons (.co (.refl _)) (.cons (.co (.refl _)) (.cons (.co (.refl _)) (.cons (.co (.refl _)) (.cons (.co (.refl _)) .nil)))))))))) (.cons (.co (.refl _)) (.cons (.co (.refl _)) (.cons (.co (.refl _)) .nil)))) J J<|rA J J<|rN<|aT<|rM J J<|ae.qv (kr J J) J<|rN<|cD h J (fun h=>?_) (fun h=>?_)
 ·refine aT<|rM J J<|rA J J<|rA J J<|rN<|ab.ret<|?_
  cases h
  exact aq.arr (s:=8) 1 J fun b3=>aq.here ⟨_,.cons (.tmp _ _ J) (.cons (.tmp _ _ J) .nil),_,.cons .p0 .nil,⟨b3,J,J⟩⟩
 ·refine tK<|aT<|rM J J<|ae.ghost<|aq.Fg (ss:=[4]) (by simp [lk]) .p0<|aq.here<|aU h fun v4 e2 h=>Cj J (nZ e2) cR .nil (fun _ _ _ _ _ _ _ _ _ _=>J) J fun b5 b6 b7 b8 b9 tv Fk qd ajH ajI=>rA J J<|rN<|aT<|rM J J<|rM J J<|rM J J<|aU h fun zH e3 h=>BC J (pN e3) cR (.cons .p0 (.cons .p0 (.cons .p0 (.cons .p0 (.cons .p0 (.cons .p0 (.cons .p0 (.cons .p0 .nil)))))))) (fun _ _ _ _ _=>J) J fun Di qp vD Bl ajJ=>rN<|aT<|rM J J<|ae.qv (ay J) J<|rF J J J<|rL J J .p0 J J<|rA J J<|rA J J<|rN<|ab.ret<|?_
  cases h
  exact hI J J [6] J ⟨Bl,J,J⟩
theorem Bp [GI:ck] {aa:Campaign} {ai:bq} {r:Int×Int} (h:mJ aa ai=some r):Pu Tryz.prog 10 [Campaign.av aa,.str ai] (.ma [I r.1,I r.2]):=by
 unfold mJ at h
 refine aY.ch Tryz.func10 J Tryz.ntmps10 Tryz.results10 J J ?_
 refine aT<|eA J J J J fun b1=>rA J J<|rA J J<|rN<|tS<|aT<|ae.qv (aH J J .p0 J) J<|aU h fun v2 e1 h=>bl J (ll e1) cR J<|rA J J<|rN<|aT<|rM J J<|ae.qv (kr J J) J<|rN<|cD h J (fun h=>?_) (fun h=>?_)
 ·refine aT<|rM J J<|rA J J<|rA J J<|rN<|ab.ret<|?_
  cases h
  exact hQ J J J
 ·refine tK<|tS<|aT<|rM J J<|aU h fun v3 e2 h=>bl J (lj e2) cR J<|ae.qv (dc J) J<|rN<|cB h J (fun h=>?_) (fun h=>?_)
  ·refine aT<|rA J J<|rA J J<|rN<|ab.ret<|?_
   cases h
   exact hQ J J J
  ·refine tK<|aT<|rM J J<|aU h fun v4 e3 h=>gb J (tL e3) (.cons (.xB _ _ _ .p0 (.cons (.co (.refl _)) (.cons (.co (.refl _)) (.cons (.co (.refl _)) (.cons (.co (.refl _)) (.cons (.co (.refl _)) (.cons (.co (.refl _)) (.cons (.co (.refl _)) (.cons (.co (.refl _)) (.cons (.co (.refl _)) .nil)))))))))) (.cons (.co (.refl _)) .nil)) J J<|rA J J<|rA J J<|rN<|ab.ret<|?_
   cases h
   exact hQ J J J
theorem uK [GI:ck] {aa:Version} {r:Int} (h:dF aa=r):Pu Tryz.prog 57 [Version.av aa] (I r):=by
 unfold dF at h
 refine aY.ch Tryz.func57 J Tryz.ntmps57 Tryz.results57 J J ?_
 refine aT<|eA J J J J fun b1=>rA J J<|rN<|tS<|aT<|ae.qv (aH J J .p0 J) J<|bl J (iN J) cR J<|ae.qv (dc J) J<|rN<|cB h J (fun h=>?_) (fun h=>?_)
 ·refine aT<|rA J J<|rN<|ab.ret<|?_
  obtain rfl:=h
  exact hP J J
 ·refine tK<|aT<|rA J J<|rN<|ab.ret<|?_
  obtain rfl:=h
  exact hP J J
theorem vV [GI:ck] {aa:List ar} {ai:bq} {aL:List Version} {r:Int} (h:jl aa ai aL=some r):Pu Tryz.prog 35 [tu aa,.str ai,Bj aL] (I r):=by
 unfold jl at h
 refine aY.ch Tryz.func35 J Tryz.ntmps35 Tryz.results35 J J ?_
 refine aT<|rA J J<|rN<|tS<|aT<|rM J J<|aU h fun v1 e1 h=>bl J (pK e1) cR J<|rA J J<|rN<|aT<|rM J J<|ae.qv (kr J J) J<|rN<|cD h J (fun h=>?_) (fun h=>?_)
 ·refine aT<|rM J J<|rA J J<|rN<|ab.ret<|?_
  cases h
  exact hP J J
 ·refine tK<|tS<|aT<|rM J J<|aU h fun v2 e2 h=>bl J (lj e2) cR J<|ae.qv (dc J) J<|rN<|cB h J (fun h=>?_) (fun h=>?_)
  ·refine aT<|rA J J<|rN<|ab.ret<|?_
   cases h
   exact hP J J
  ·refine tK<|tS<|aT<|rM J J<|ae.qv (dm J) J<|rM J J<|rN<|ab.block<|ab.dR (fun x:Int=>eh aL x) (fun x aS=>aS=⟨31,[(19,Bj aL),(20,I (aL.length:Int)),(21,I x)],[]⟩) h ?_ ?_
   ·exact aq.lq [] J J J
   ·intro n4 z1 aS J1 gS h mD gN
    obtain rfl:=gS
    replace h:eh aL n4=some z1:=h
    unfold eh at h
    refine aT<|ae.qv (cJ J J) J<|rN<|tS<|cD h J (fun h=>?_) (fun h=>?_)
    ·refine tK<|tS<|ab.block<|aT<|aU h fun v5 e3 h=>ae.qv (bS J J J e3 J J) J<|ae.qv (bw J J J) J<|bY J J J J fun b6=>aI J J J J .p0 J J<|rN<|aT<|ae.qv (aH J J .p0 J) J<|bl J (uK J) cR J<|rA J J<|rN<|aT<|rM J J<|ae.qv (kr J J) J<|rN<|cD h J (fun h=>?_) (fun h=>?_)
     ·refine aT<|rM J J<|rA J J<|rN<|ab.ret<|have h:=cW h gN;?_
      cases h
      exact hP J J
     ·refine tK<|ab.dp<|tR<|ae.qv (bQ J J) J<|rM J J<|rN<|ab.stop<|?_
      cases h
      exact mD _ _ J<|aq.lq [] J J J
    ·refine ab.exit J<|have h:=cW h gN;aT<|rA J J<|rN<|ab.ret<|?_
     cases h
     exact hP J J
theorem CC [GI:ck] {aa:List ar} {ai:bq} {aL bu:Version} {r:(List Version)×Int} (h:pC aa ai aL bu=some r):aY Tryz.prog 11 [tu aa,.str ai,Version.av aL,Version.av bu] [] (T1 (fun oN=>[(oN,lv r.1)]) (fun oN=>.ma [.sl 3 oN 0 r.1.length,I r.2])):=by
 unfold pC at h
 refine aY.lD ?_
 refine aY.ch Tryz.func11 J Tryz.ntmps11 Tryz.results11 J J ?_
 refine aT<|eA J J J J fun b1=>eA J J J J fun b2=>rA J J<|rA J J<|rN<|tS<|aT<|rM J J<|rM J J<|ae.qv (aH J J .p1 J) J<|ae.qv (aH J J .p0 J) J<|bf (xs:=([aL,bu]:List Version).map Version.av) J J J J J J<|aU h fun v3 e1 h=>bl J (vV e1) cR J<|rA J J<|rN<|aT<|rM J J<|ae.qv (kr J J) J<|rN<|cD h J (fun h=>?_) (fun h=>?_)
 ·refine aT<|rM J J<|rA J J<|rA J J<|rN<|ab.ret<|?_
  cases h
  exact aq.arr (s:=8) 3 J fun b4=>aq.here ⟨_,.cons (.tmp _ _ J) (.cons (.tmp _ _ J) .nil),_,.cons .p0 .nil,⟨b4,J,J⟩⟩
 ·refine tK<|tS<|aU h fun v5 e2 h=>aU h fun v7 e3 h=>ab.mh (id:=4) (A:=[0,0,0,0,0,0,0,112,255,511,1023,1023,2047,8191]) (H0:=[]) (HH:=fun β=>[((β 12),lv v7.1),(b2,.cells [I bu.ax,I bu.aA,I bu.aC]),(b1,.cells [I aL.ax,I aL.aA,I aL.aC])]) 13 mixed J (by kernel_rfl) (by kernel_rfl) [⟨some 7,some 8,[],fun b=>(b,vP v5),none,[]⟩,⟨some 8,some 9,[],fun b=>(b,lv v7.1),none,[]⟩,⟨some 9,some 10,[],fun b=>(b,lv v7.1),none,[]⟩,⟨some 10,some 12,[],fun b=>(b,lv v7.1),none,[]⟩,⟨some 12,none,[],fun b=>(b,lv v7.1),none,[]⟩] [7,8,9,10,12] J (by kernel_rfl) J .nil (fun _=>J)<|AT.am 7 J J<|AM.qv (aX J) J<|AM.qv (aX J) J<|AM.qv (aH J J .p1 J) J<|AM.qv (aH J J .p0 J) J<|AM.qv (aX J) J<|AM.qv (aX J) J<|AM.qv (aH J J .p0 J) J<|AM.nil<|AT.yO (V:=fun b=>.bO b) (Ti:=[]) (Pi:=fun b=>[(b,vP v5)]) (fun _=>J) (fun _=>J) (fun _ _=>J) J (fun _=>J) J J J ?_ ?_
  ·exact kK J (uI e2) cR .nil (fun _=>J) J fun b6=>ae.nil ⟨b6,_,J,J⟩
  refine AT.Ld (V:=fun b=>.ma [.sl 3 b 0 v7.1.length,.bool v7.2]) (Ti:=fun β=>[((β 7),vP v5)]) (Pi:=fun b=>[(b,lv v7.1)]) (fun _=>J) (fun _=>J) (fun _ _=>J) (fun _=>J) (fun _=>J) J J J (fun β=>?_) ?_
  ·generalize β 7=b6
   exact kK J (CA e3) cR (.cons .p0 .nil) (fun _=>J) J fun b8=>ae.ghost<|aq.drop .p0<|aq.here<|ae.nil ⟨b8,_,J,J⟩
  refine AT.Ld (V:=fun b=>.ma [.sl 3 b 0 v7.1.length,.bool v7.2]) (Ti:=fun β=>[(β 8,lv v7.1)]) (Pi:=fun b=>[(b,lv v7.1)]) (fun _=>J) (fun _=>J) (fun _ _=>J) (fun _=>J) (fun _=>J) J J J (fun β=>?_) ?_
  ·generalize β 8=b8
   exact rM J J<|ae.nil ⟨b8,_,J,J⟩
  refine AT.Ld (V:=fun b=>.sl 3 b 0 v7.1.length) (Ti:=fun β=>[(β 9,lv v7.1)]) (Pi:=fun b=>[(b,lv v7.1)]) (fun _=>J) (fun _=>J) (fun _ _=>J) (fun _=>J) (fun _=>J) J J J (fun β=>?_) ?_
  ·generalize β 9=b9
   exact rX J J J<|ae.nil ⟨b9,_,J,J⟩
  refine AT.stE (fun _=>J) (fun _=>J) (fun _=>J) (fun β=>jH J J) J<|AT.Ld (V:=fun b=>.sl 3 b 0 v7.1.length) (Ti:=fun β=>[(β 10,lv v7.1)]) (Pi:=fun b=>[(b,lv v7.1)]) (fun _=>J) (fun _=>J) (fun _ _=>J) (fun _=>J) (fun _=>J) J J J (fun β=>?_) ?_
  ·generalize β 10=tv
   exact rA J J<|ae.nil ⟨tv,_,J,J⟩
  refine AT.yd (fun _=>J) fun β=>?_
  generalize β 7=b6
  generalize β 8=b8
  generalize β 9=b9
  generalize β 10=tv
  generalize β 12=Fk
  clear β
  refine rA J J<|rN<|tS<|aT<|rM J J<|ae.qv (dc J) J<|rN<|cB h J (fun h=>?_) (fun h=>?_)
  ·refine aT<|rA J J<|rA J J<|rN<|ab.ret<|?_
   cases h
   exact aq.arr (s:=8) 3 J fun qd=>aq.here ⟨_,.cons (.tmp _ _ J) (.cons (.tmp _ _ J) .nil),_,.cons .p0 .nil,⟨qd,J,J⟩⟩
  ·refine tK<|aT<|rM J J<|rA J J<|rA J J<|rN<|ab.ret<|?_
   cases h
   exact hI J J [0] J ⟨Fk,J,J⟩
theorem zc [GI:ck] {aa:Campaign} {ai:DeviceS} {aL:List MarkS} {bu:Int} {r:ah×Int} (h:kH aa ai aL bu=some r):Pu Tryz.prog 12 [Campaign.av aa,DeviceS.av ai,Hf aL,I bu] (.ma [ah.av r.1,I r.2]):=by
 unfold kH at h
 refine aY.ch Tryz.func12 J Tryz.ntmps12 Tryz.results12 J J ?_
 refine aT<|eA J J J J fun b1=>eA J J J J fun b2=>bY J J J J fun b3=>rA J J<|rN<|tS<|aT<|ae.qv (aH J J .p1 J) J<|bf (xs:=([ai]:List DeviceS).map DeviceS.av) J J J J J J<|rM J J<|rM J J<|aU h fun v4 e1 h=>gb J (qt e1) (.cons (.xB _ _ _ .p2 (.cons (.co (.refl _)) (.cons (.co (.refl _)) (.cons (.co (.refl _)) (.cons (.co (.refl _)) (.cons (.co (.refl _)) (.cons (.co (.refl _)) (.cons (.co (.refl _)) (.cons (.co (.refl _)) (.cons (.co (.refl _)) .nil)))))))))) (.cons (.co (.refl _)) (.cons (.co (.refl _)) (.cons (.co (.refl _)) .nil)))) J J<|rA J J<|rN<|aT<|rM J J<|ae.qv (kr J J) J<|rN<|cD h J (fun h=>?_) (fun h=>?_)
 ·refine aT<|ae.qv (da J J J J J) J<|rM J J<|aI J J J J .p0 J J<|rA J J<|rN<|ab.ret<|?_
  cases h
  exact aq.here ⟨_,.cons (.all _ _ _ _ _ _ J .p0 aF.h aZ.h J J) (.cons (.tmp _ _ J) .nil),J⟩
 ·refine tK<|aT<|rF J J J<|ae.qv (aP J J .p1 J J) J<|ae.qv (da J J J J J) J<|ae.qv (da J J J J J) J<|eA J J J J fun b5=>rA J J<|rN<|tS<|aT<|rM J J<|ae.qv (dm J) J<|rM J J<|rN<|ab.block<|ab.dR (fun x:Int×Int×Int×Int×Int×Int×Int×Int×Int×Int=>iw aa ai aL bu x.1 x.2.1 x.2.2.1 x.2.2.2.1 x.2.2.2.2.1 x.2.2.2.2.2.1 x.2.2.2.2.2.2.1 x.2.2.2.2.2.2.2.1 x.2.2.2.2.2.2.2.2.1 x.2.2.2.2.2.2.2.2.2) (fun x aS=>aS=⟨60,[(3,I bu),(4,.ptr b1 0),(5,.ptr b2 0),(8,.ptr b3 0),(11,.ptr b5 0),(28,Hf aL),(29,I (aL.length:Int)),(30,I x.2.2.2.2.2.2.2.2.2)],[(b1,.cells (Ty aa)),(b2,.cells (Pg ai)),(b3,.cells [I 0,I 0,I 0,I 0,I 0,I 0]),(b5,.cells [I x.1,I x.2.1,I x.2.2.1,I x.2.2.2.1,I x.2.2.2.2.1,I x.2.2.2.2.2.1,I x.2.2.2.2.2.2.1,I x.2.2.2.2.2.2.2.1,I x.2.2.2.2.2.2.2.2.1])]⟩) h ?_ ?_
  ·exact aq.lq [3,2,1,0] J J J
  ·intro x z1 aS J1 gS h mD gN
   obtain ⟨n16,n17,n18,n19,n20,n21,n22,n23,n24,n25⟩:=x
   obtain rfl:=gS
   replace h:iw aa ai aL bu n16 n17 n18 n19 n20 n21 n22 n23 n24 n25=some z1:=h
   unfold iw at h
   refine aT<|ae.qv (cJ J J) J<|rN<|tS<|cD h J (fun h=>?_) (fun h=>?_)
   ·refine tK<|tS<|ab.block<|aT<|aU h fun v26 e2 h=>ae.qv (bS J J J e2 J J) J<|ae.qv (bw J J J) J<|bY J J J J fun Ie=>aI J J J J .p0 J J<|rN<|tS<|ab.cut (fun aS=>∃ (c28:Bool),mo n16 n17 n18 n19 n20 n21 n22 n23 n24 n25 v26 c28=some z1∧aS=⟨60,[(3,I bu),(4,.ptr b1 0),(5,.ptr b2 0),(8,.ptr b3 0),(11,.ptr b5 0),(13,.ptr Ie 0),(28,Hf aL),(29,I (aL.length:Int)),(30,I n25),(51,.bool c28)],[(b1,.cells (Ty aa)),(b2,.cells (Pg ai)),(b3,.cells [I 0,I 0,I 0,I 0,I 0,I 0]),(b5,.cells [I n16,I n17,I n18,I n19,I n20,I n21,I n22,I n23,I n24]),(Ie,.cells [I v26.At,.str v26.Device,I v26.Kind,I v26.Version.ax,I v26.Version.aA,I v26.Version.aC])]⟩) ?_ ?_
    ·refine tR<|rF J J J<|rL J J .p0 J J<|rF J J J<|rL J J .p2 J J<|ae.qv (Ge J J) J<|rM J J<|ae.dq J J J (fun hc=>?_) (fun hc=>?_)
     ·rw [sR hc] at h
      refine rF J J J<|rY J J J<|rL J J .p0 J J<|rY J J J<|rF J J J<|rY J J J<|rL J J .p1 J J<|rY J J J<|ae.qv (ri J J) J<|rT J J J<|rM J J<|ae.dq J J J (fun hc=>?_) (fun hc=>?_)
      ·rw [sR hc] at h
       exact rF J J J<|rY J J J<|rL J J .p0 J J<|rY J J J<|rM J J<|rY J J J<|ae.qv (sM J J) J<|rT J J J<|rN<|ab.stop<|aq.lq [1,1,1,1,0] ⟨decide (v26.At≤bu),h,J⟩ J J
      ·rw [sS hc] at h
       exact rG J J J J<|rG J J J J<|rG J J J J<|rE J J J<|rN<|ab.stop<|aq.lq [1,1,1,1,0] ⟨false,h,J⟩ J J
     ·rw [sS hc] at h
      exact rG J J J J<|rG J J J J<|rG J J J J<|rG J J J J<|rE J J J<|rM J J<|rG J J J J<|rG J J J J<|rG J J J J<|rG J J J J<|rE J J J<|rN<|ab.stop<|aq.lq [1,1,1,1,0] ⟨false,h,J⟩ J J
    ·rintro aS ⟨c28,h,rfl⟩
     unfold mo at h
     refine ab.cut (fun aS=>∃ (n29:Int) (n30:Int) (n31:Int) (n32:Int) (n33:Int) (n34:Int) (n35:Int) (n36:Int) (n37:Int),j9 n25 n29 n30 n31 n32 n33 n34 n35 n36 n37=some z1∧aS=⟨60,[(3,I bu),(4,.ptr b1 0),(5,.ptr b2 0),(8,.ptr b3 0),(11,.ptr b5 0),(28,Hf aL),(29,I (aL.length:Int)),(30,I n25)],[(b1,.cells (Ty aa)),(b2,.cells (Pg ai)),(b3,.cells [I 0,I 0,I 0,I 0,I 0,I 0]),(b5,.cells [I n29,I n30,I n31,I n32,I n33,I n34,I n35,I n36,I n37])]⟩) ?_ ?_
     ·refine cB h J (fun h=>?_) (fun h=>?_)
      ·exact tR<|rM J J<|ae.qv (aH J J .p4 J) J<|eB J (oy (J:au (⟨(⟨n16,n17,(⟨n18,n19,n20⟩:Version),n21⟩:ah),(⟨n22,n23,n24⟩:Version)⟩:aj) v26=_)) cR (.cons .p3 .nil) J J<|rN<|ab.stop<|aq.lq [1,1,1,0] ⟨((au (⟨(⟨n16,n17,(⟨n18,n19,n20⟩:Version),n21⟩:ah),(⟨n22,n23,n24⟩:Version)⟩:aj) v26).2).ah.Kind,((au (⟨(⟨n16,n17,(⟨n18,n19,n20⟩:Version),n21⟩:ah),(⟨n22,n23,n24⟩:Version)⟩:aj) v26).2).ah.Since,((au (⟨(⟨n16,n17,(⟨n18,n19,n20⟩:Version),n21⟩:ah),(⟨n22,n23,n24⟩:Version)⟩:aj) v26).2).ah.Version.ax,((au (⟨(⟨n16,n17,(⟨n18,n19,n20⟩:Version),n21⟩:ah),(⟨n22,n23,n24⟩:Version)⟩:aj) v26).2).ah.Version.aA,((au (⟨(⟨n16,n17,(⟨n18,n19,n20⟩:Version),n21⟩:ah),(⟨n22,n23,n24⟩:Version)⟩:aj) v26).2).ah.Version.aC,((au (⟨(⟨n16,n17,(⟨n18,n19,n20⟩:Version),n21⟩:ah),(⟨n22,n23,n24⟩:Version)⟩:aj) v26).2).ah.ct,((au (⟨(⟨n16,n17,(⟨n18,n19,n20⟩:Version),n21⟩:ah),(⟨n22,n23,n24⟩:Version)⟩:aj) v26).2).aN.ax,((au (⟨(⟨n16,n17,(⟨n18,n19,n20⟩:Version),n21⟩:ah),(⟨n22,n23,n24⟩:Version)⟩:aj) v26).2).aN.aA,((au (⟨(⟨n16,n17,(⟨n18,n19,n20⟩:Version),n21⟩:ah),(⟨n22,n23,n24⟩:Version)⟩:aj) v26).2).aN.aC,h,J⟩ J J
      ·exact tK<|ab.stop<|aq.lq [0,0,0,0] ⟨n16,n17,n18,n19,n20,n21,n22,n23,n24,h,J⟩ J J
     ·rintro aS ⟨n29,n30,n31,n32,n33,n34,n35,n36,n37,h,rfl⟩
      unfold j9 at h
      refine ab.dp<|tR<|ae.qv (bQ J J) J<|rM J J<|rN<|ab.stop<|?_
      cases h
      exact mD _ _ J<|aq.lq [0,0,0,0] J J J
   ·refine ab.exit J<|have h:=cW h gN;aT<|rM J J<|ae.qv (ay J) J<|rF J J J<|ae.qv (aP J J .p3 J J) J<|aI J J J J .p2 J J<|rA J J<|rN<|ab.ret<|?_
    cases h
    exact aq.here ⟨_,.cons (.all _ _ _ _ _ _ J .p2 aF.h aZ.h J J) (.cons (.tmp _ _ J) .nil),J⟩
theorem zd [GI:ck] {aa ai:cP} {r:Int} (h:rR aa ai=some r):Pu Tryz.prog 102 [cP.av aa,cP.av ai] (I r):=by
 unfold rR at h
 refine aY.ch Tryz.func102 J Tryz.ntmps102 Tryz.results102 J J ?_
 refine aT<|eA J J J J fun b1=>eA J J J J fun b2=>rA J J<|rN<|tS<|ab.di (id:=1) (A:=[0,1,0,4,15,0,32,0,128,511,0,1024,0,4096,16383,32767,65535,131071]) 18 mixed J (by kernel_rfl) (by kernel_rfl)<|AM.qv (aB J J) J<|AM.qv (aJ J J .p1 J) J<|AM.qv (aB J J) J<|AM.qv (aJ J J .p0 J) J<|AM.kA J (mT J) cR J<|AM.qv (aB J J) J<|AM.qv (aJ J J .p1 J) J<|AM.qv (aB J J) J<|AM.qv (aJ J J .p0 J) J<|AM.kA J (mT J) cR J<|AM.qv (aB J J) J<|AM.qv (aJ J J .p1 J) J<|AM.qv (aB J J) J<|AM.qv (aJ J J .p0 J) J<|AM.kA J (dN J) cR J<|AM.dt (xs:=([(Lib.compareBytes aa.Device ai.Device),(Lib.compareBytes aa.pn ai.pn),(cmp_Compare_int aa.At ai.At)]:List Int).map I) J J J J J J<|aU h fun v3 e1 h=>AM.kA J (pJ e1) cR J<|AM.qv (bT J) J<|AM.nil<|rN<|ab.ret<|?_
 cases h
 exact hP J J
theorem CE [GI:ck] {aa:List cP} {r:Int} (h:pD aa=some r):Pu Tryz.prog 78 [vQ aa] (I r):=by
 unfold pD at h
 refine aY.ch Tryz.func78 J Tryz.ntmps78 Tryz.results78 J J ?_
 refine aT<|rA J J<|rN<|tS<|aT<|rM J J<|ae.qv (dm J) J<|ae.qv (jj J J) J<|rN<|cD h J (fun h=>?_) (fun h=>?_)
 ·refine aT<|rA J J<|rN<|ab.ret<|?_
  cases h
  exact hP J J
 ·refine tK<|tS<|aT<|rM J J<|ae.qv (dm J) J<|rM J J<|rN<|ab.block<|ab.dR (fun x:Int=>kI aa x) (fun x aS=>aS=⟨50,[(0,vQ aa),(8,vQ aa),(9,I (aa.length:Int)),(10,I x)],[]⟩) h ?_ ?_
  ·exact aq.lq [] J J J
  ·intro n2 z1 aS J1 gS h mD gN
   obtain rfl:=gS
   replace h:kI aa n2=some z1:=h
   unfold kI at h
   refine aT<|ae.qv (cJ J J) J<|rN<|tS<|cD h J (fun h=>?_) (fun h=>?_)
   ·refine tK<|tS<|ab.block<|aT<|rM J J<|aU h fun v3 e1 h=>ae.qv (bS J J J e1 J J) J<|ae.qv (bw J J J) J<|bY J J J J fun b4=>rA J J<|aI J J J J .p0 J J<|rN<|ab.block<|tS<|ab.cut (fun aS=>∃ (c5:Bool),oH aa n2 v3 c5=some z1∧aS=⟨50,[(0,vQ aa),(3,I n2),(4,.ptr b4 0),(8,vQ aa),(9,I (aa.length:Int)),(10,I n2),(15,.bool c5)],[(b4,.cells [.str v3.Device,.str v3.pn,I v3.At,I v3.Value])]⟩) ?_ ?_
    ·refine tR<|rF J J J<|rL J J .p0 J J<|aU h fun v6 e2 h=>bl J (lj e2) cR J<|ae.qv (dc J) J<|rM J J<|ae.guard J J J (fun hc=>?_) (fun hc=>?_)
     ·exact have h:=tD hc h;rF J J J<|rY J J J<|rL J J .p0 J J<|rY J J J<|aU h fun v7 e3 h=>bl J (lj e3) cR J<|rY J J J<|ae.qv (dc J) J<|rE J J J<|rA J J<|rN<|ab.stop<|aq.lq [0] ⟨!v7,h,J⟩ J J
     ·exact have h:=rk hc h;rG J J J J<|rG J J J J<|rG J J J J<|rT J J J<|rA J J<|rN<|ab.stop<|aq.lq [0] ⟨true,h,J⟩ J J
    ·rintro aS ⟨c5,h,rfl⟩
     unfold oH at h
     refine cB h J (fun h=>?_) (fun h=>?_)
     ·refine aT<|rA J J<|rN<|ab.ret<|have h:=cW h gN;?_
      cases h
      exact hP J J
     ·refine tS<|ab.cut (fun aS=>∃ (c8:Bool),rS aa n2 v3 c8=some z1∧aS=⟨50,[(0,vQ aa),(3,I n2),(4,.ptr b4 0),(8,vQ aa),(9,I (aa.length:Int)),(10,I n2),(26,.bool c8)],[(b4,.cells [.str v3.Device,.str v3.pn,I v3.At,I v3.Value])]⟩) ?_ ?_
      ·refine tR<|rF J J J<|rL J J .p0 J J<|bl J (qQ J) cR J<|ae.qv (dc J) J<|rM J J<|ae.guard J J J (fun hc=>?_) (fun hc=>?_)
       ·rw [ya hc] at h
        exact rF J J J<|rY J J J<|rL J J .p0 J J<|rY J J J<|bl J (ei J) cR J<|rE J J J<|rA J J<|rN<|ab.stop<|aq.lq [0] ⟨(du v3.Value (-1000000000:Int) 1000000000),h,J⟩ J J
       ·rw [x9 hc] at h
        exact rG J J J J<|rG J J J J<|rT J J J<|rA J J<|rN<|ab.stop<|aq.lq [0] ⟨true,h,J⟩ J J
      ·rintro aS ⟨c8,h,rfl⟩
       unfold rS at h
       refine cB h J (fun h=>?_) (fun h=>?_)
       ·refine aT<|rA J J<|rN<|ab.ret<|have h:=cW h gN;?_
        cases h
        exact hP J J
       ·refine tS<|ab.cut (fun aS=>∃ (c9:Bool),oG n2 c9=some z1∧aS=⟨50,[(0,vQ aa),(8,vQ aa),(9,I (aa.length:Int)),(10,I n2),(36,.bool c9)],[]⟩) ?_ ?_
        ·refine ab.di (id:=10) (A:=[0,1,3,7,7,7,39,119,247,511,1023,2047,4095]) 13 mixed J (by kernel_rfl) (by kernel_rfl)<|AM.qv (aX J) J<|AM.qv (jj J J) J<|AM.qv (aX J) J<|AM.dq J J J (fun hc=>?_) (fun hc=>?_)
         ·exact have h:=rk hc h;AM.qv (aH J J .p0 J) J<|AM.aD J J J<|AM.qv (aX J) J<|AM.aD J J J<|AM.qv (aX J) J<|AM.aD J J J<|AM.qv (iY J J) J<|AM.aD J J J<|aU h fun v10 e4 h=>AM.qv (bS J J J e4 J J) J<|AM.aD J J J<|AM.qv (bw J J J) J<|AM.aD J J J<|aU h fun v11 e5 h=>AM.kA J (zd e5) cR J<|AM.aD J J J<|AM.qv (sM J J) J<|AM.qv (gr J J) J<|AM.qv (bT J) J<|AM.nil<|rN<|ab.stop<|aq.lq [] ⟨decide (v11≤0),h,J⟩ J J
         ·exact have h:=Be hc h;AM.az J J J J<|AM.az J J J J<|AM.az J J J J<|AM.az J J J J<|AM.az J J J J<|AM.az J J J J<|AM.az J J J J<|AM.qv (eQ J J) J<|AM.qv (bT J) J<|AM.nil<|rN<|ab.stop<|aq.lq [] ⟨false,h,J⟩ J J
        ·rintro aS ⟨c9,h,rfl⟩
         unfold oG at h
         refine cB h J (fun h=>?_) (fun h=>?_)
         ·refine aT<|rA J J<|rN<|ab.ret<|have h:=cW h gN;?_
          cases h
          exact hP J J
         ·refine tK<|ab.dp<|ab.dp<|tR<|ae.qv (bQ J J) J<|rM J J<|rN<|ab.stop<|?_
          cases h
          exact mD _ _ J<|aq.lq [] J J J
   ·refine ab.exit J<|have h:=cW h gN;aT<|rA J J<|rN<|ab.ret<|?_
    cases h
    exact hP J J
theorem uL [GI:ck] {aa:cP} {ai:List cP} {r:Bool} (h:ir aa ai=some r):Pu Tryz.prog 80 [cP.av aa,.cw [vQ ai]] (.bool r):=by
 unfold ir at h
 refine aY.ch Tryz.func80 J Tryz.ntmps80 Tryz.results80 J J ?_
 refine aT<|eA J J J J fun b1=>rA J J<|rN<|tS<|ab.cut (fun aS=>∃ (c2:Bool),iE c2=some r∧aS=⟨20,[(3,.bool c2)],[]⟩) ?_ ?_
 ·refine ab.di (id:=1) (A:=[0,1,0,4,12,28,63,127,255,511,255,1279,3327,7423,16383,32767,65535]) 17 mixed J (by kernel_rfl) (by kernel_rfl)<|AM.qv (aB J J) J<|AM.qv (aJ J J .p0 J) J<|AM.qv (aR J J J) J<|aU h fun v3 e1 h=>AM.qv (bS J J J e1 J J) J<|AM.qv (bn J J) J<|AM.qv (aR J J J) J<|AM.qv (RF J J) J<|AM.qv (aX J) J<|AM.ek J J J (fun hc=>?_) (fun hc=>?_)
  ·exact have h:=Be hc h;AM.qv (aB J J) J<|AM.aD J J J<|AM.qv (aJ J J .p0 J) J<|AM.aD J J J<|AM.qv (aR J J J) J<|AM.aD J J J<|aU h fun v4 e2 h=>AM.qv (bS J J J e2 J J) J<|AM.aD J J J<|AM.qv (bn J J) J<|AM.aD J J J<|AM.qv (aR J J J) J<|AM.aD J J J<|AM.qv (RF J J) J<|AM.qv (eQ J J) J<|AM.qv (bT J) J<|AM.nil<|rN<|ab.stop<|aq.lq [] ⟨decide (aa.pn≠v4.pn),h,J⟩ J J
  ·exact have h:=rk hc h;AM.az J J J J<|AM.az J J J J<|AM.az J J J J<|AM.az J J J J<|AM.az J J J J<|AM.az J J J J<|AM.qv (gr J J) J<|AM.qv (bT J) J<|AM.nil<|rN<|ab.stop<|aq.lq [] ⟨true,h,J⟩ J J
 ·rintro aS ⟨c2,h,rfl⟩
  unfold iE at h
  refine ab.ret<|?_
  cases h
  exact hP J J
theorem pO [GI:ck] {aa:List cP} {jb:cP→Option Bool} {kD:FuncId} [cq Tryz.prog kD] {nk:List AV} (uH:∀ {y0:_} {u:Bool},jb y0=some u→Pu Tryz.prog kD (cP.av y0 :: nk) (.bool u)) {r:Int} (h:fx aa jb=some r):Pu Tryz.prog 103 [vQ aa,.func (.func kD) nk] (I r):=by
 unfold fx at h
 refine aY.ch Tryz.func103 J Tryz.ntmps103 Tryz.results103 J J ?_
 refine aT<|rA J J<|rN<|tS<|aT<|rM J J<|ae.qv (dm J) J<|rM J J<|rN<|ab.block<|ab.dR (fun x:Int=>de aa jb x) (fun x aS=>aS=⟨19,[(0,vQ aa),(1,.func (.func kD) nk),(7,I (aa.length:Int)),(8,I x)],[]⟩) h ?_ ?_
 ·exact aq.lq [] J J J
 ·intro n2 z1 aS J1 gS h mD gN
  obtain rfl:=gS
  replace h:de aa jb n2=some z1:=h
  unfold de at h
  refine aT<|ae.qv (cJ J J) J<|rN<|tS<|cD h J (fun h=>?_) (fun h=>?_)
  ·refine tK<|tS<|ab.block<|aT<|rM J J<|rA J J<|rN<|aT<|rM J J<|rM J J<|rM J J<|aU h fun v3 e1 h=>ae.qv (bS J J J e1 J J) J<|ae.qv (bw J J J) J<|aU h fun v4 e2 h=>B2 J J (uH e2) cR J<|rN<|cB h J (fun h=>?_) (fun h=>?_)
   ·refine aT<|rM J J<|rA J J<|rN<|ab.ret<|have h:=cW h gN;?_
    cases h
    exact hP J J
   ·refine tK<|ab.dp<|tR<|ae.qv (bQ J J) J<|rM J J<|rN<|ab.stop<|?_
    cases h
    exact mD _ _ J<|aq.lq [] J J J
  ·refine ab.exit J<|have h:=cW h gN;aT<|rA J J<|rN<|ab.ret<|?_
   cases h
   exact hP J J
theorem oz [GI:ck] {aa:List cP} {jb:cP→Option Bool} {kD:FuncId} [cq Tryz.prog kD] {nk:List AV} (uH:∀ {y0:_} {u:Bool},jb y0=some u→Pu Tryz.prog kD (cP.av y0 :: nk) (.bool u)) {r:Bool} (h:df aa jb=some r):Pu Tryz.prog 79 [vQ aa,.func (.func kD) nk] (.bool r):=by
 unfold df at h
 refine aY.ch Tryz.func79 J Tryz.ntmps79 Tryz.results79 J J ?_
 refine aT<|rA J J<|rN<|aT<|rM J J<|rM J J<|aU h fun v1 e1 h=>gb J (pO uH e1) (.cons (.co (.refl _)) (.cons (.co (.refl _)) .nil)) J J<|ae.qv (ri J J) J<|rA J J<|rN<|ab.ret<|?_
 cases h
 exact hP J J
theorem wI [GI:ck] {aa:List cP} {r:Int} (h:ke aa=some r):Pu Tryz.prog 60 [vQ aa] (I r):=by
 unfold ke at h
 refine aY.ch Tryz.func60 J Tryz.ntmps60 Tryz.results60 J J ?_
 refine aT<|eA J J J J fun b1=>rA J J<|rN<|tS<|aT<|rL J J .p0 J J<|aU h fun v2 e1 h=>bl J (CE e1) cR J<|rA J J<|rN<|aT<|rM J J<|ae.qv (kr J J) J<|rN<|cD h J (fun h=>?_) (fun h=>?_)
 ·refine aT<|rM J J<|rA J J<|rN<|ab.ret<|?_
  cases h
  exact hP J J
 ·refine tK<|tS<|aT<|rL J J .p0 J J<|ae.qv (sN J) J<|aU h fun v3 e2 h=>gb J (oz (fun e=>uL e) e2) (.cons (.co (.refl _)) (.cons (.Gm _ _ _ (.cons (.xB _ _ _ .p0 (.cons (.co (.refl _)) .nil)) .nil)) .nil)) J J<|rN<|cB h J (fun h=>?_) (fun h=>?_)
  ·refine aT<|rA J J<|rN<|ab.ret<|?_
   cases h
   exact hP J J
  ·refine tK<|aT<|rA J J<|rN<|ab.ret<|?_
   cases h
   exact hP J J
theorem yo [GI:ck] {ai:Int} {r:(List Int)} (h:lM ai=some r):aY Tryz.prog 81 [.nil,.int .u64 ai] [] (T1 (fun oN=>[(oN,Dz r)]) (fun oN=>.sl 1 oN 0 r.length)):=by
 unfold lM at h
 refine aY.lD ?_
 refine aY.ch Tryz.func81 J Tryz.ntmps81 Tryz.results81 J J ?_
 refine aT<|rA J J<|rN<|tS<|ab.block<|ab.dR (fun x:(List Int)×Int=>jm x.1 x.2) (fun x aS=>∃ (b4:Bk),aS=⟨21,[(0,.sl 1 b4 0 x.1.length),(1,.int .u64 x.2)],[(b4,Dz x.1)]⟩) h ?_ ?_
 ·exact aq.arr (s:=0) 1 J fun b7=>aq.lq [0] ⟨b7,J⟩ J J
 ·intro x z1 aS J1 gS h mD gN
  obtain ⟨l5,n6⟩:=x
  obtain ⟨b4,rfl⟩:=gS
  replace h:jm l5 n6=some z1:=h
  unfold jm at h
  refine tS<|aT<|rM J J<|ae.qv (ri J J) J<|rN<|cD h J (fun h=>?_) (fun h=>?_)
  ·refine tK<|ab.block<|tR<|rM J J<|rM J J<|ae.qv (RN J J) J<|ae.qv (jQ J) J<|ae.qv (Vx J J) J<|bf (xs:=([SQ .u8 (IntKind.u8.wrap (Iz .u64 n6 127)) 128]).map (AV.int .u8)) J J J J J J<|aU h fun l8 e1 h=>fO (g:=(AV.int .u8)) J J J J J J J J (.list _) e1 (fun _=>.p0) J fun b9=>rM J J<|ae.qv (MF J J (by decide)) J<|rA J J<|rA J J<|rN<|ab.dp<|ab.stop<|?_
   cases h
   exact mD _ _ J<|aq.lq [0] ⟨b9,J⟩ J J
  ·refine ab.exit J<|have h:=cW h gN;?_
   unfold sc at h
   refine aT<|rM J J<|rM J J<|ae.qv (jQ J) J<|bf (xs:=([IntKind.u8.wrap (n6)]:List Int).map (AV.int .u8)) J J J J J J<|aU h fun l10 e2 h=>fO (g:=(AV.int .u8)) J J J J J J J J (.list _) e2 (fun _=>.p0) J fun Fk=>rA J J<|rN<|ab.ret<|?_
   cases h
   exact hH J [0] J ⟨Fk,J,J⟩
theorem uM [GI:ck] {aa r:Int} (h:lN aa=r):Pu Tryz.prog 82 [I aa] (.int .u64 r):=by
 unfold lN at h
 refine aY.ch Tryz.func82 J Tryz.ntmps82 Tryz.results82 J J ?_
 refine aT<|rA J J<|rN<|tS<|aT<|rM J J<|ae.qv (cJ J J) J<|rN<|cD h J (fun h=>?_) (fun h=>?_)
 ·refine aT<|rM J J<|ae.qv (u4 J J) J<|ae.qv (iY J J) J<|ae.qv (jQ J) J<|rA J J<|rN<|ab.ret<|?_
  obtain rfl:=h
  exact hP J J
 ·refine tK<|aT<|rM J J<|ae.qv (u4 J J) J<|ae.qv (jQ J) J<|rA J J<|rN<|ab.ret<|?_
  obtain rfl:=h
  exact hP J J
end Go.Proofs.YtipbfaojbmendaaGreatDoor
