/- The code computes the plain functions: proofs written by shal.py. -/
import Derived.Test.YthamhifbccpcpaaGreatDoorAsuW1
set_option maxHeartbeats 4000000
set_option maxRecDepth 100000
set_option linter.unusedVariables false
set_option linter.unusedSimpArgs false
namespace Go.Proofs.YthamhifbccpcpaaGreatDoor
open Go Go.Eng Go.Proofs Go.Beacon
attribute [local irreducible] ae aa AQ QV aJ ai OY AM
theorem rk [GI:bF] {aY:Bk} {jN:Bk} {uT:Nat→Bk} {QU:Nat→Nat→Bk} {Il:Bk} {Lv:Bk} {ab:bO} {ah:Signal} {r:Int×bO} (h:fc ab ah=some r):aJ Tryz.prog 125 [.ptr aY 0,Signal.av ah] [(aY,.cells [.jO Il,.sl 1 Lv 0 ab.jX.length]),(Il,.mp (ab.rD.map (fun e=>(aq.av e.1,(pA uT) e.2)))),(Lv,.arr 1 (ab.jX.map (pA uT))),(jN,.bU (gl Ii uT QU ab.BN))] (T2 (fun Lw Lx=>[(aY,.cells [.jO Il,.sl 1 Lw 0 r.2.jX.length]),(Il,.mp (r.2.rD.map (fun e=>(aq.av e.1,(pA uT) e.2)))),(Lw,.arr 1 (r.2.jX.map (pA uT))),(jN,.bU (gl Ii uT Lx r.2.BN))]) (fun Lw Lx=>I r.1)):=by
 unfold fc at h
 refine aJ.fa ?_
 refine aJ.bD Tryz.func125 J Tryz.ntmps125 Tryz.results125 J J ?_
 refine aM<|jU J J J J fun b1=>rA J J<|rN<|tS<|aa.bL (id:=1) (A:=[0,1,3,7,0,16,0,64,240,511,0,2047,4095]) 11 mixed J (by kernel_rfl) (by kernel_rfl)<|AM.qv (aA J) J<|AM.qv (ax J) J<|AM.qv (aC J J) J<|AM.qv (aL J J .p1 J) J<|AM.qv (aC J J) J<|AM.qv (aL J J .p0 J) J<|AM.qv (aC J J) J<|AM.qv (aL J J .p0 J) J<|AM.qv (db J J J J J) J<|Jb h (fun e1 h=>?_) (fun n2 e1 h=>?_)
 ·refine AM.qv (oZ (gk:=aq.av) (gv:=(pA uT)) (M:=ab.rD) (key:=(⟨ah.Device,ah.a8⟩:aq)) J J .p2 J e1) J<|AM.qv (bb J J .p0 J) J<|AM.nil<|?_
  cases h
 ·refine AM.qv (o0 (gk:=aq.av) (gv:=(pA uT)) (M:=ab.rD) (key:=(⟨ah.Device,ah.a8⟩:aq)) J J .p2 e1) J<|AM.qv (bb J J .p0 J) J<|AM.nil<|aF h fun v3 e2 h=>ae.ghost<|ai.mU (kb:=Ii) e2 .p4 J<|ai.here<|aF h fun v4 e3 h=>qx J (vT e3) cR (.cons .p0 (.cons .p0 (.cons .p0 (.cons .p0 (.cons .p0 (.cons .p0 (.cons .p0 .nil))))))) (fun _ _ _ _ _ _=>J) J fun b5 b6 b7 b8 b9 nh=>rA J J<|ae.ghost<|ai.pg (kb:=Ii) (v':=v4.2) (s:=Jh [b5,b6,b7,b8,b9,nh]) e2 (.cons .p0 (.cons .p0 (.cons .p0 (.cons .p0 (.cons .p0 (.cons .p0 (.cons .p0 .nil))))))) J (fun _=>.p4) fun Xj=>ai.here<|rN<|aa.ret<|?_
  cases h
  exact hH J [1,1,1,1] J ⟨Lv,Xj,J,J⟩
theorem AP [GI:bF] {ab:List Signal} {ah:Int} {r:bO} (h:qV ab ah=some r):aJ Tryz.prog 55 [iW ab,I ah] [] (T6 (fun mS AJ AL FA tz AN=>[(mS,.cells [.jO AJ,.sl 1 AL 0 r.jX.length]),(AJ,.mp (r.rD.map (fun e=>(aq.av e.1,(pA tz) e.2)))),(AL,.arr 1 (r.jX.map (pA tz))),(FA,.bU (gl Ii tz AN r.BN))]) (fun mS AJ AL FA tz AN=>.ptr mS 0)):=by
 unfold qV at h
 refine aJ.fa ?_
 refine aJ.bD Tryz.func55 J Tryz.ntmps55 Tryz.results55 J J ?_
 refine aM<|rA J J<|rN<|aM<|rM J J<|aF h fun v1 e1 h=>qx J (yk e1) cR .nil (fun _ _ _ _ _ _=>J) J fun b2 b3 b4 b5 QW bs7=>rA J J<|rN<|tS<|aM<|rM J J<|ae.qv (dz J) J<|rM J J<|rN<|aa.block<|aa.cj (fun x:(List (aq×Int))×(List ak)×(List Int)×Int=>nV ab ah x.1 x.2.1 x.2.2.1 x.2.2.2) (fun x aG=>∃ (DF:Nat→Nat→Bk) (AO:Bk),aG=⟨25,[(1,I ah),(5,.ptr b2 0),(10,iW ab),(11,I (ab.length:Int)),(12,I x.2.2.2)],[(b2,.cells [.jO b3,.sl 1 AO 0 x.2.2.1.length]),(b3,.mp (x.1.map (fun e=>(aq.av e.1,(pA QW) e.2)))),(b5,.bU (gl Ii QW DF x.2.1)),(AO,.arr 1 (x.2.2.1.map (pA QW)))]⟩) h ?_ ?_
 ·exact ai.lq [0,0,1,0] ⟨bs7,b4,J⟩ J J
 ·intro x z1 aG J1 eZ h mL iQ
  obtain ⟨oh,pD,ue,n19⟩:=x
  obtain ⟨DF,AO,rfl⟩:=eZ
  replace h:nV ab ah oh pD ue n19=some z1:=h
  unfold nV at h
  refine aM<|ae.qv (bH J J) J<|rN<|tS<|cD h J (fun h=>?_) (fun h=>?_)
  ·refine tK<|tS<|aa.block<|aM<|aF h fun v20 e2 h=>ae.qv (bJ J J J e2 J J) J<|ae.qv (bA J J J) J<|bX J J J J fun Gq=>aB J J J J .p0 J J<|rN<|aM<|rF J J J<|rL J J .p0 J J<|rM J J<|ae.qv (rS J J) J<|rN<|aa.cut (fun aG=>∃ (uN:Nat→Nat→Bk) (vB:Bk) (gz:List (aq×Int)) (xm:List ak) (Jo:List Int),pE n19 gz xm Jo=some z1∧aG=⟨25,[(1,I ah),(5,.ptr b2 0),(10,iW ab),(11,I (ab.length:Int)),(12,I n19)],[(b2,.cells [.jO b3,.sl 1 vB 0 Jo.length]),(b3,.mp (gz.map (fun e=>(aq.av e.1,(pA QW) e.2)))),(b5,.bU (gl Ii QW uN xm)),(vB,.arr 1 (Jo.map (pA QW)))]⟩) ?_ ?_
   ·refine cD h J (fun h=>?_) (fun h=>?_)
    ·exact tR<|rM J J<|ae.qv (bb J J .p0 J) J<|aF h fun yf e3 h=>Nn J (rk e3) cR (.cons .p1 (.cons .p1 (.cons .p2 (.cons .p1 .nil)))) (fun _ _=>J) J fun VF Ly=>rN<|aa.stop<|ai.lq [0,0,1,0] ⟨Ly,VF,yf.2.rD,yf.2.BN,yf.2.jX,h,J⟩ J J
    ·exact tK<|aa.stop<|ai.lq [1,1,1,1] ⟨DF,AO,oh,pD,ue,h,J⟩ J J
   ·rintro aG ⟨uN,vB,gz,xm,Jo,h,rfl⟩
    unfold pE at h
    refine aa.bN<|tR<|ae.qv (aU J J) J<|rM J J<|rN<|aa.stop<|?_
    cases h
    exact mL _ _ J<|ai.lq [0,0,0,0] ⟨uN,vB,J⟩ J J
  ·refine aa.exit J<|have h:=cr h iQ;aM<|rM J J<|rA J J<|rN<|aa.ret<|?_
   cases h
   exact hH J [0,0,1,0] J ⟨b2,b3,AO,b5,QW,DF,J,J⟩
theorem dw [GI:bF] {ab:Int} {ah:au} {r:Bool} (h:bB ab ah=r):Pu Tryz.prog 54 [I ab,.eo [I ah.bg,I ah.To]] (.bool r):=by
 unfold bB at h
 refine aJ.bD Tryz.func54 J Tryz.ntmps54 Tryz.results54 J J ?_
 refine aM<|rA J J<|rN<|tS<|aa.cut (fun aG=>∃ (c1:Bool),mq c1=r∧aG=⟨14,[(3,.bool c1)],[]⟩) ?_ ?_
 ·refine tR<|rM J J<|ae.qv (aQ J J) J<|ae.qv (aH J J J) J<|ae.qv (rU J J) J<|rM J J<|ae.bW J J J (fun hc=>?_) (fun hc=>?_)
  ·rw [lM hc] at h
   exact rM J J<|rY J J J<|ae.qv (aQ J J) J<|rY J J J<|ae.qv (aH J J J) J<|rY J J J<|ae.qv (bH J J) J<|rT J J J<|rA J J<|rN<|aa.stop<|ai.lq [] ⟨decide (ab < ah.To),h,J⟩ J J
  ·rw [lN hc] at h
   exact rG J J J J<|rG J J J J<|rG J J J J<|rE J J J<|rA J J<|rN<|aa.stop<|ai.lq [] ⟨false,h,J⟩ J J
 ·rintro aG ⟨c1,h,rfl⟩
  unfold mq at h
  refine aa.ret<|?_
  obtain rfl:=h
  exact hP J J
theorem vU [GI:bF] {ab:aj} {ah:aj} {r:Int} (h:ju ab ah=r):Pu Tryz.prog 57 [aj.av ab,aj.av ah] (I r):=by
 unfold ju at h
 refine aJ.bD Tryz.func57 J Tryz.ntmps57 Tryz.results57 J J ?_
 refine aM<|jU J J J J fun b1=>jU J J J J fun b2=>rA J J<|rN<|aM<|rF J J J<|rL J J .p1 J J<|rF J J J<|rL J J .p0 J J<|bw J (dC J) cR J<|rA J J<|rN<|aa.ret<|?_
 obtain rfl:=h
 exact hP J J
theorem od:Pb Tryz.prog 56 5:=⟨fun enc hk h1 cf hO g cb bN off cap d w eg hc hH hb hs=>AnyQ.slices_SortFunc_eq Tryz.Ia 5 Tryz.isAgg41 Tryz.sizeOf41 enc hk h1 cf hO g cb bN off cap d w eg hc hH hb hs,fun p cap fv w=>AnyF.slices_SortFunc_none Tryz.Ia p cap fv w⟩
theorem oe [GI:bF] {aY:Bk} {ab:List aj} {oK:aj→aj→Option Int} {oH:FuncId} [bu Tryz.prog oH] {re:List AV} (yT:∀ {y0 y1:_} {u:Int},oK y0 y1=some u→@Pu mC Tryz.prog oH (aj.av y0 :: aj.av y1 :: re) (I u)) {r:(List aj)} (h:fX ab oK=some r):aJ Tryz.prog 56 [.sl 5 aY 0 ab.length,.func (.func oH) re] [(aY,.arr 5 (ab.map aj.av))] (T0 [(aY,.arr 5 (r.map aj.av))] (.iV [])):=
 GJ (fn:=oK) od J @yT (fun _=>J) h
theorem yl [GI:bF] {ab:List Signal} {ah:au} {r:(List aj)×Int} (h:iK ab ah=some r):aJ Tryz.prog 9 [iW ab,au.av ah] [] (T1 (fun mS=>[(mS,Jp r.1)]) (fun mS=>.iV [.sl 5 mS 0 r.1.length,I r.2])):=by
 unfold iK at h
 refine aJ.fa ?_
 refine aJ.bD Tryz.func9 J Tryz.ntmps9 Tryz.results9 J J ?_
 refine aa.ghost (ai.Dq (kb:=sq) (fun b1 Xk Xl=>ai.here ?_))
 refine aM<|jU J J J J fun b4=>rA J J<|rA J J<|rN<|tS<|aM<|rM J J<|aF h fun v5 e1 h=>bw J (jA e1) cR J<|rA J J<|rN<|aM<|rM J J<|ae.qv (jb J J) J<|rN<|cD h J (fun h=>?_) (fun h=>?_)
 ·refine aM<|rM J J<|rA J J<|rA J J<|rN<|aa.ret<|?_
  cases h
  exact ai.arr (s:=4) 5 J fun b6=>ai.here ⟨_,.cons (.tmp _ _ J) (.cons (.tmp _ _ J) .nil),_,.cons .p0 .nil,⟨b6,J,J⟩⟩
 ·refine tK<|tS<|aM<|ae.qv (bb J J .p0 J) J<|bw J (BS J) cR J<|ae.qv (fj J) J<|rN<|cB h J (fun h=>?_) (fun h=>?_)
  ·refine aM<|rA J J<|rA J J<|rN<|aa.ret<|?_
   cases h
   exact ai.arr (s:=4) 5 J fun b7=>ai.here ⟨_,.cons (.tmp _ _ J) (.cons (.tmp _ _ J) .nil),_,.cons .p0 .nil,⟨b7,J,J⟩⟩
  ·refine tK<|aM<|ae.qv (ta J) J<|rA J J<|rN<|aM<|vr J fun b8=>rA J J<|rN<|tS<|aM<|rM J J<|aF h fun v9 e2 h=>qx J (AP e2) cR .nil (fun _ _ _ _ _ _=>J) J fun nh QT xx FC afY afZ=>ae.qv (ax J) J<|rF J J J<|rL J J .p0 J J<|aF h fun kA e3 h=>ae.ghost<|ai.Ld (s:=35) J (.cons .p2 (.cons .p2 .nil)) (oq.Qz Xd e3 (.inl .p0) .p1)<|ai.here<|ae.qv (dz J) J<|rM J J<|rN<|aa.block<|aa.cj (fun x:(List aj)×(List (aI×Int))×Int=>dU ah kA x.1 x.2.1 x.2.2) (fun x aG=>∃ (kr:Nat→Bk) (uN:Nat→Nat→Bk),aG=⟨169,[(3,.ptr b4 0),(7,.func (.func 54) [.ptr b4 0]),(8,.jO b8),(35,Eg kA),(36,I (kA.length:Int)),(37,I x.2.2)],[(b1,.bU (gl sq kr uN x.1)),(b4,.cells [I ah.bg,I ah.To]),(b8,.mp (x.2.1.map (fun e=>(AV.str e.1,(pA kr) e.2))))]⟩) h ?_ ?_
   ·exact ai.lq [4,3,2] ⟨Xk,Xl,J⟩ J J
   ·intro x z1 aG J1 eZ h mL iQ
    obtain ⟨gz,eO,n26⟩:=x
    obtain ⟨kr,uN,rfl⟩:=eZ
    replace h:dU ah kA gz eO n26=some z1:=h
    unfold dU at h
    refine aM<|ae.qv (bH J J) J<|rN<|tS<|cD h J (fun h=>?_) (fun h=>?_)
    ·refine tK<|tS<|aa.cut (fun aG=>∃ (Ot:Nat→Bk) (Ly:Nat→Nat→Bk) (Lk:List aj) (Tz:List (aI×Int)),bt n26 Lk Tz=some z1∧aG=⟨169,[(3,.ptr b4 0),(7,.func (.func 54) [.ptr b4 0]),(8,.jO b8),(35,Eg kA),(36,I (kA.length:Int)),(37,I n26)],[(b1,.bU (gl sq Ot Ly Lk)),(b4,.cells [I ah.bg,I ah.To]),(b8,.mp (Tz.map (fun e=>(AV.str e.1,(pA Ot) e.2))))]⟩) ?_ ?_
     ·refine aa.block<|aM<|aF h fun v31 e4 h=>ae.qv (bJ J J J e4 J J) J<|ae.qv (aH J J J) J<|rA J J<|rN<|tS<|aM<|rM J J<|rM J J<|ae.qv (aP J) J<|ae.qv (aQ J J) J<|ae.qv (aQ J J) J<|ae.qv (aH J J J) J<|Jb h (fun e5 h=>?_) (fun n32 e5 h=>?_)
      ·refine ae.qv (oZ (gk:=AV.str) (gv:=(pA kr)) (M:=eO) (key:=v31.aR.aN) J J .p2 J e5) J<|ae.qv (Au J J) J<|rN<|aa.CW J<|aa.iS (id:=12) (A:=[0,0,2,6,14,30,0,64,192,448,960,1984,4032,8191]) (H0:=[]) (HH:=fun β=>[((β 12),.cells [.str v31.aR.aN,I (0:Int),I (0:Int),I (0:Int),I (0:Int)]),(b1,.bU (gl sq kr uN gz)),(b4,.cells [I ah.bg,I ah.To]),(b8,.mp (eO.map (fun e=>(AV.str e.1,(pA kr) e.2))))]) 13 mixed J (by kernel_rfl) (by kernel_rfl) [⟨some 12,none,[],fun b=>(b,.cells [.str v31.aR.aN,I (0:Int),I (0:Int),I (0:Int),I (0:Int)]),none,[]⟩] [12] J (by kernel_rfl) J .nil (fun _=>J)<|AT.am 12 J J<|AM.qv (aA J) J<|AM.qv (aA J) J<|AM.qv (aP J) J<|AM.qv (aQ J J) J<|AM.qv (aQ J J) J<|AM.qv (aH J J J) J<|AM.qv (aA J) J<|AM.qv (aP J) J<|AM.qv (aQ J J) J<|AM.qv (aQ J J) J<|AM.qv (aH J J J) J<|AM.qv (db J J J J J) J<|AM.nil<|AT.BF (V:=fun b=>.ptr b 0) (Ti:=[]) (Pi:=fun b=>[(b,.cells [.str v31.aR.aN,I (0:Int),I (0:Int),I (0:Int),I (0:Int)])]) (fun _=>J) (fun _=>J) (fun _ _=>J) J (fun _=>J) J J J ?_ ?_
       ·exact jU J J J J fun VG=>ae.nil ⟨VG,_,J,J⟩
       refine AT.ub (fun _=>J) fun β=>?_
       generalize β 12=VG
       clear β
       refine aF h fun u34 e6 h=>ae.ghost<|ai.Dr (kb:=sq) (v:=(⟨v31.aR.aN,(0:Int),(0:Int),(0:Int),(0:Int)⟩:aj)) (s:=Jh []) (.cons .p0 .nil) J (fun _ _=>.p0) fun o7 Lz Xm Xn=>ai.here<|ae.ghost<|ai.N0 (Pm Xm e6) .p2<|ai.here<|ae.ghost<|ai.eqs (s:=61) (eW:=.ptr (o7 (gz.length:Int).toNat) 0) J (Az Xn _)<|ai.here<|uD (gk:=AV.str) (gv:=(pA o7)) (M:=eO) (key:=v31.aR.aN) (v:=(gz.length:Int)) J J J J .p2<|rN<|aM<|rM J J<|rM J J<|ae.qv (aP J) J<|ae.qv (aQ J J) J<|ae.qv (aQ J J) J<|ae.qv (aH J J J) J<|Jb h (fun e8 h=>?_) (fun n37 e8 h=>?_)
       ·refine ae.qv (oZ (gk:=AV.str) (gv:=(pA o7)) (M:=(gV eO v31.aR.aN (gz.length:Int))) (key:=v31.aR.aN) J J .p2 J e8) J<|rA J J<|rN<|tS<|aM<|rM J J<|ae.qv (aP J) J<|ae.qv (aQ J J) J<|ae.qv (aH J J J) J<|ae.qv (dz J) J<|rM J J<|rN<|aa.block<|aa.cj (fun x:Int=>lU ah gz eO n26 v31 x) (fun x aG=>aG=⟨169,[(3,.ptr b4 0),(7,.func (.func 54) [.ptr b4 0]),(8,.jO b8),(10,.eo [.str v31.aR.aK,.str v31.aR.aN,I v31.az,I v31.bM,gx v31.aD,I v31.ay,qC v31.eV,qC v31.bC,qC v31.bh,gx v31.bf,gx v31.aW]),(11,.raw (.pointer none)),(35,Eg kA),(36,I (kA.length:Int)),(37,I n26),(72,gx v31.aD),(73,I (v31.aD.length:Int)),(74,I x)],[(b1,.bU (gl sq o7 Lz (gz++[(⟨v31.aR.aN,(0:Int),(0:Int),(0:Int),(0:Int)⟩:aj)]))),(b4,.cells [I ah.bg,I ah.To]),(b8,.mp ((gV eO v31.aR.aN (gz.length:Int)).map (fun e=>(AV.str e.1,(pA o7) e.2))))]⟩) h ?_ ?_
        ·exact ai.lq [0,0,0] J J J
        ·intro n39 z2 aG J2 eZ h Fy Fz
         obtain rfl:=eZ
         replace h:lU ah gz eO n26 v31 n39=some z2:=h
         unfold lU at h
         refine aM<|ae.qv (bH J J) J<|rN<|tS<|cD h J (fun h=>?_) (fun h=>?_)
         ·refine tK<|tS<|aa.block<|aM<|aF h fun v40 e9 h=>ae.qv (bJ J J J e9 J J) J<|ae.qv (aH J J J) J<|rA J J<|rN<|aM<|rM J J<|rM J J<|nQ J J (dw J) (.cons (.co (.refl _)) (.cons (.C4 _ _ _ .p1 (.cons (.co (.refl _)) (.cons (.co (.refl _)) .nil))) .nil)) J J<|rN<|cB h J (fun h=>?_) (fun h=>?_)
          ·refine tR<|rM J J<|?_
           cases h
          ·refine tK<|aa.bN<|tR<|ae.qv (aU J J) J<|rM J J<|rN<|aa.stop<|?_
           cases h
           exact Fy _ _ J<|ai.lq [0,0,0] J J J
         ·refine aa.exit J<|have h:=cr h Fz;tS<|aM<|rM J J<|ae.qv (aP J) J<|ae.qv (aQ J J) J<|ae.qv (aH J J J) J<|ae.qv (dz J) J<|rM J J<|rN<|aa.block<|aa.cj (fun x:Int=>lT ah gz eO n26 v31 x) (fun x aG=>aG=⟨169,[(3,.ptr b4 0),(7,.func (.func 54) [.ptr b4 0]),(8,.jO b8),(10,.eo [.str v31.aR.aK,.str v31.aR.aN,I v31.az,I v31.bM,gx v31.aD,I v31.ay,qC v31.eV,qC v31.bC,qC v31.bh,gx v31.bf,gx v31.aW]),(11,.raw (.pointer none)),(35,Eg kA),(36,I (kA.length:Int)),(37,I n26),(92,gx v31.bf),(93,I (v31.bf.length:Int)),(94,I x)],[(b1,.bU (gl sq o7 Lz (gz++[(⟨v31.aR.aN,(0:Int),(0:Int),(0:Int),(0:Int)⟩:aj)]))),(b4,.cells [I ah.bg,I ah.To]),(b8,.mp ((gV eO v31.aR.aN (gz.length:Int)).map (fun e=>(AV.str e.1,(pA o7) e.2))))]⟩) h ?_ ?_
          ·exact ai.lq [0,0,0] J J J
          ·intro n42 z3 aG J3 eZ h QO QP
           obtain rfl:=eZ
           replace h:lT ah gz eO n26 v31 n42=some z3:=h
           unfold lT at h
           refine aM<|ae.qv (bH J J) J<|rN<|tS<|cD h J (fun h=>?_) (fun h=>?_)
           ·refine tK<|tS<|aa.block<|aM<|rM J J<|aF h fun Jn vP h=>ae.qv (bJ J J J vP J J) J<|ae.qv (aH J J J) J<|rA J J<|rA J J<|rN<|aM<|rM J J<|rM J J<|nQ J J (dw J) (.cons (.co (.refl _)) (.cons (.C4 _ _ _ .p1 (.cons (.co (.refl _)) (.cons (.co (.refl _)) .nil))) .nil)) J J<|rN<|cB h J (fun h=>?_) (fun h=>?_)
            ·refine aM<|rM J J<|?_
             cases h
            ·refine tK<|aa.bN<|tR<|ae.qv (aU J J) J<|rM J J<|rN<|aa.stop<|?_
             cases h
             exact QO _ _ J<|ai.lq [0,0,0] J J J
           ·refine aa.exit J<|have h:=cr h QP;aM<|rM J J<|ae.qv (aP J) J<|ae.qv (aQ J J) J<|ae.qv (aH J J J) J<|ae.qv (dz J) J<|rM J J<|rN<|aa.block<|aa.cj (fun x:Unit=>lS gz eO n26 v31) (fun x aG=>aG=⟨169,[(3,.ptr b4 0),(7,.func (.func 54) [.ptr b4 0]),(8,.jO b8),(11,.raw (.pointer none)),(35,Eg kA),(36,I (kA.length:Int)),(37,I n26),(127,qC v31.eV),(128,I (v31.eV.length:Int)),(129,I (0:Int))],[(b1,.bU (gl sq o7 Lz (gz++[(⟨v31.aR.aN,(0:Int),(0:Int),(0:Int),(0:Int)⟩:aj)]))),(b4,.cells [I ah.bg,I ah.To]),(b8,.mp ((gV eO v31.aR.aN (gz.length:Int)).map (fun e=>(AV.str e.1,(pA o7) e.2))))]⟩) h ?_ ?_
            ·exact ai.lq [0,0,0] J J J
            ·intro x z4 aG J4 eZ h VE TY
             obtain rfl:=eZ
             replace h:lS gz eO n26 v31=some z4:=h
             unfold lS at h
             refine aM<|ae.qv (bH J J) J<|rN<|tS<|cD h J (fun h=>?_) (fun h=>?_)
             ·refine tK<|tS<|aa.block<|aM<|aF h fun v44 zk h=>ae.qv (bJ J J J zk J J) J<|ae.qv (bA J J J) J<|bX J J J J fun QS=>aB J J J J .p0 J J<|rN<|aa.bL (id:=30) (A:=[0,1,3,7,0,16,0,64,240,0,512,0,2048,7680,16368,32752,65535,131071,262143,524287]) 19 mixed J (by kernel_rfl) (by kernel_rfl)<|AM.qv (aA J) J<|?_
              cases h
             ·exact aa.exit J<|have h:=cr h TY;aa.bN<|aa.stop<|ai.lq [0,0,0] ⟨o7,Lz,gz++[(⟨v31.aR.aN,(0:Int),(0:Int),(0:Int),(0:Int)⟩:aj)],gV eO v31.aR.aN (gz.length:Int),h,J⟩ J J
       ·refine ae.qv (o0 (gk:=AV.str) (gv:=(pA o7)) (M:=(gV eO v31.aR.aN (gz.length:Int))) (key:=v31.aR.aN) J J .p2 e8) J<|rA J J<|rN<|tS<|aM<|rM J J<|ae.qv (aP J) J<|ae.qv (aQ J J) J<|ae.qv (aH J J J) J<|ae.qv (dz J) J<|rM J J<|rN<|aa.block<|aa.cj (fun x:(List aj)×Int=>eR ah gz eO n26 v31 n37 x.1 x.2) (fun x aG=>∃ (G7:Nat→Nat→Bk),aG=⟨169,[(3,.ptr b4 0),(7,.func (.func 54) [.ptr b4 0]),(8,.jO b8),(10,.eo [.str v31.aR.aK,.str v31.aR.aN,I v31.az,I v31.bM,gx v31.aD,I v31.ay,qC v31.eV,qC v31.bC,qC v31.bh,gx v31.bf,gx v31.aW]),(11,.ptr (o7 n37.toNat) 0),(35,Eg kA),(36,I (kA.length:Int)),(37,I n26),(72,gx v31.aD),(73,I (v31.aD.length:Int)),(74,I x.2)],[(b1,.bU (gl sq o7 G7 x.1)),(b4,.cells [I ah.bg,I ah.To]),(b8,.mp ((gV eO v31.aR.aN (gz.length:Int)).map (fun e=>(AV.str e.1,(pA o7) e.2))))]⟩) h ?_ ?_
        ·exact ai.lq [0,0,0] ⟨Lz,J⟩ J J
        ·intro x z5 aG J5 eZ h TZ T3
         obtain ⟨MR,n51⟩:=x
         obtain ⟨G7,rfl⟩:=eZ
         replace h:eR ah gz eO n26 v31 n37 MR n51=some z5:=h
         unfold eR at h
         refine aM<|ae.qv (bH J J) J<|rN<|tS<|cD h J (fun h=>?_) (fun h=>?_)
         ·refine tK<|tS<|aa.block<|aM<|aF h fun BP Gp h=>ae.qv (bJ J J J Gp J J) J<|ae.qv (aH J J J) J<|rA J J<|rN<|aM<|rM J J<|rM J J<|nQ J J (dw J) (.cons (.co (.refl _)) (.cons (.C4 _ _ _ .p1 (.cons (.co (.refl _)) (.cons (.co (.refl _)) .nil))) .nil)) J J<|rN<|aa.cut (fun aG=>∃ (QX:Nat→Nat→Bk) (GZ:List aj),jv n51 GZ=some z5∧aG=⟨169,[(3,.ptr b4 0),(7,.func (.func 54) [.ptr b4 0]),(8,.jO b8),(10,.eo [.str v31.aR.aK,.str v31.aR.aN,I v31.az,I v31.bM,gx v31.aD,I v31.ay,qC v31.eV,qC v31.bC,qC v31.bh,gx v31.bf,gx v31.aW]),(11,.ptr (o7 n37.toNat) 0),(35,Eg kA),(36,I (kA.length:Int)),(37,I n26),(72,gx v31.aD),(73,I (v31.aD.length:Int)),(74,I n51)],[(b1,.bU (gl sq o7 QX GZ)),(b4,.cells [I ah.bg,I ah.To]),(b8,.mp ((gV eO v31.aR.aN (gz.length:Int)).map (fun e=>(AV.str e.1,(pA o7) e.2))))]⟩) ?_ ?_
          ·refine cB h J (fun h=>?_) (fun h=>?_)
           ·exact tR<|rM J J<|ae.qv (ax J) J<|rF J J J<|aF h fun v55 Ij h=>ae.qv (QV.ara (kb:=sq) Ij .p0 J (aL J J .p0 J)) J<|ae.qv (aU J J) J<|ae.qv (ax J) J<|rF J J J<|ae.ghost<|ai.mU (kb:=sq) Ij .p0 J<|ai.here<|aB J J J J .p0 J J<|ae.ghost<|ai.pg (kb:=sq) (v':=(⟨v55.a8,aT (v55.bS+(1:Int)),v55.dh,v55.bV,v55.Time⟩:aj)) (s:=Jh []) Ij (.cons .p0 .nil) J (fun _=>.p0) fun Xo=>ai.here<|rN<|aa.stop<|ai.lq [0,0,0] ⟨Xo,MR.set n37.toNat (⟨v55.a8,aT (v55.bS+(1:Int)),v55.dh,v55.bV,v55.Time⟩:aj),h,J⟩ J J
           ·exact tK<|aa.stop<|ai.lq [0,0,0] ⟨G7,MR,h,J⟩ J J
          ·rintro aG ⟨QX,GZ,h,rfl⟩
           unfold jv at h
           refine aa.bN<|tR<|ae.qv (aU J J) J<|rM J J<|rN<|aa.stop<|?_
           cases h
           exact TZ _ _ J<|ai.lq [0,0,0] ⟨QX,J⟩ J J
         ·refine aa.exit J<|have h:=cr h T3;tS<|aM<|rM J J<|ae.qv (aP J) J<|ae.qv (aQ J J) J<|ae.qv (aH J J J) J<|ae.qv (dz J) J<|rM J J<|rN<|aa.block<|aa.cj (fun x:(List aj)×Int=>eQ ah gz eO n26 v31 n37 x.1 x.2) (fun x aG=>∃ (Ou:Nat→Nat→Bk),aG=⟨169,[(3,.ptr b4 0),(7,.func (.func 54) [.ptr b4 0]),(8,.jO b8),(10,.eo [.str v31.aR.aK,.str v31.aR.aN,I v31.az,I v31.bM,gx v31.aD,I v31.ay,qC v31.eV,qC v31.bC,qC v31.bh,gx v31.bf,gx v31.aW]),(11,.ptr (o7 n37.toNat) 0),(35,Eg kA),(36,I (kA.length:Int)),(37,I n26),(92,gx v31.bf),(93,I (v31.bf.length:Int)),(94,I x.2)],[(b1,.bU (gl sq o7 Ou x.1)),(b4,.cells [I ah.bg,I ah.To]),(b8,.mp ((gV eO v31.aR.aN (gz.length:Int)).map (fun e=>(AV.str e.1,(pA o7) e.2))))]⟩) h ?_ ?_
          ·exact ai.lq [0,0,0] ⟨G7,J⟩ J J
          ·intro x z6 aG J6 eZ h hJ6 hA6
           obtain ⟨MQ,n62⟩:=x
           obtain ⟨Ou,rfl⟩:=eZ
           replace h:eQ ah gz eO n26 v31 n37 MQ n62=some z6:=h
           unfold eQ at h
           refine aM<|ae.qv (bH J J) J<|rN<|tS<|cD h J (fun h=>?_) (fun h=>?_)
           ·refine tK<|tS<|aa.block<|aM<|rM J J<|aF h fun v63 MW h=>ae.qv (bJ J J J MW J J) J<|ae.qv (aH J J J) J<|rA J J<|rA J J<|rN<|aM<|rM J J<|rM J J<|nQ J J (dw J) (.cons (.co (.refl _)) (.cons (.C4 _ _ _ .p1 (.cons (.co (.refl _)) (.cons (.co (.refl _)) .nil))) .nil)) J J<|rN<|aa.cut (fun aG=>∃ (QY:Nat→Nat→Bk) (TA:List aj),jw n62 TA=some z6∧aG=⟨169,[(3,.ptr b4 0),(7,.func (.func 54) [.ptr b4 0]),(8,.jO b8),(10,.eo [.str v31.aR.aK,.str v31.aR.aN,I v31.az,I v31.bM,gx v31.aD,I v31.ay,qC v31.eV,qC v31.bC,qC v31.bh,gx v31.bf,gx v31.aW]),(11,.ptr (o7 n37.toNat) 0),(35,Eg kA),(36,I (kA.length:Int)),(37,I n26),(92,gx v31.bf),(93,I (v31.bf.length:Int)),(94,I n62)],[(b1,.bU (gl sq o7 QY TA)),(b4,.cells [I ah.bg,I ah.To]),(b8,.mp ((gV eO v31.aR.aN (gz.length:Int)).map (fun e=>(AV.str e.1,(pA o7) e.2))))]⟩) ?_ ?_
            ·refine cB h J (fun h=>?_) (fun h=>?_)
             ·exact aM<|rM J J<|ae.qv (ax J) J<|rF J J J<|aF h fun v66 AG h=>ae.qv (QV.ara (kb:=sq) AG .p0 J (aL J J .p0 J)) J<|ae.qv (aU J J) J<|ae.qv (ax J) J<|rF J J J<|ae.ghost<|ai.mU (kb:=sq) AG .p0 J<|ai.here<|aB J J J J .p0 J J<|ae.ghost<|ai.pg (kb:=sq) (v':=(⟨v66.a8,v66.bS,aT (v66.dh+(1:Int)),v66.bV,v66.Time⟩:aj)) (s:=Jh []) AG (.cons .p0 .nil) J (fun _=>.p0) fun ag0=>ai.here<|rN<|aa.ghost<|ai.mU (kb:=sq) (fA (v:=(⟨v66.a8,v66.bS,aT (v66.dh+(1:Int)),v66.bV,v66.Time⟩:aj)) AG) .p0 J<|ai.here<|aa.bL (id:=25) (A:=[0,1,3,7,0,16,48,112,0,496,1008,2047,4095,8191,16383]) 14 mixed J (by kernel_rfl) (by kernel_rfl)<|AM.qv (aA J) J<|AM.qv (ax J) J<|AM.qv (aC J J) J<|AM.qv (aL J J .p0 J) J<|AM.qv (aA J) J<|AM.qv (aP J) J<|AM.qv (aQ J J) J<|AM.qv (aH J J J) J<|AM.qv (aA J) J<|aF h fun G2 R4 h=>AM.qv (bJ J J J R4 J J) J<|AM.qv (aH J J J) J<|AM.qv (aU J J) J<|AM.qv (ax J) J<|AM.qv (aC J J) J<|AM.nil<|aB J J J J .p0 J J<|ae.ghost<|ai.pg (kb:=sq) (v':=(⟨v66.a8,v66.bS,aT (v66.dh+(1:Int)),aT (v66.bV+G2),v66.Time⟩:aj)) (s:=Jh []) (fA (v:=(⟨v66.a8,v66.bS,aT (v66.dh+(1:Int)),v66.bV,v66.Time⟩:aj)) AG) (.cons .p0 .nil) J (fun _=>.p0) fun Xp=>ai.here<|rN<|aa.stop<|ai.lq [0,0,0] ⟨Xp,(MQ.set n37.toNat (⟨v66.a8,v66.bS,aT (v66.dh+(1:Int)),v66.bV,v66.Time⟩:aj)).set n37.toNat (⟨v66.a8,v66.bS,aT (v66.dh+(1:Int)),aT (v66.bV+G2),v66.Time⟩:aj),h,J⟩ J J
             ·exact tK<|aa.stop<|ai.lq [0,0,0] ⟨Ou,MQ,h,J⟩ J J
            ·rintro aG ⟨QY,TA,h,rfl⟩
             unfold jw at h
             refine aa.bN<|tR<|ae.qv (aU J J) J<|rM J J<|rN<|aa.stop<|?_
             cases h
             exact hJ6 _ _ J<|ai.lq [0,0,0] ⟨QY,J⟩ J J
           ·refine aa.exit J<|have h:=cr h hA6;aM<|rM J J<|ae.qv (aP J) J<|ae.qv (aQ J J) J<|ae.qv (aH J J J) J<|ae.qv (dz J) J<|rM J J<|rN<|aa.block<|aa.cj (fun x:(List aj)×Int=>eP ah gz eO n26 v31 n37 x.1 x.2) (fun x aG=>∃ (QZ:Nat→Nat→Bk),aG=⟨169,[(3,.ptr b4 0),(7,.func (.func 54) [.ptr b4 0]),(8,.jO b8),(11,.ptr (o7 n37.toNat) 0),(35,Eg kA),(36,I (kA.length:Int)),(37,I n26),(127,qC v31.eV),(128,I (v31.eV.length:Int)),(129,I x.2)],[(b1,.bU (gl sq o7 QZ x.1)),(b4,.cells [I ah.bg,I ah.To]),(b8,.mp ((gV eO v31.aR.aN (gz.length:Int)).map (fun e=>(AV.str e.1,(pA o7) e.2))))]⟩) h ?_ ?_
            ·exact ai.lq [0,0,0] ⟨Ou,J⟩ J J
            ·intro x z7 aG J7 eZ h hJ7 hA7
             obtain ⟨Pr,QJ⟩:=x
             obtain ⟨QZ,rfl⟩:=eZ
             replace h:eP ah gz eO n26 v31 n37 Pr QJ=some z7:=h
             unfold eP at h
             refine aM<|ae.qv (bH J J) J<|rN<|tS<|cD h J (fun h=>?_) (fun h=>?_)
             ·refine tK<|tS<|aa.block<|aM<|aF h fun v76 T4 h=>ae.qv (bJ J J J T4 J J) J<|ae.qv (bA J J J) J<|bX J J J J fun b77=>aB J J J J .p0 J J<|rN<|aF h fun v78 Ps h=>aa.ghost<|ai.mU (kb:=sq) Ps .p1 J<|ai.here<|aa.bL (id:=30) (A:=[0,1,3,7,0,16,0,64,240,0,512,0,2048,7680,16368,32752,65535,131071,262143,524287]) 19 mixed J (by kernel_rfl) (by kernel_rfl)<|AM.qv (aA J) J<|AM.qv (ax J) J<|AM.qv (aC J J) J<|AM.qv (aL J J .p0 J) J<|AM.qv (aC J J) J<|AM.qv (aL J J .p1 J) J<|AM.qv (aC J J) J<|AM.qv (aL J J .p3 J) J<|AM.qv (HA J J) J<|AM.qv (aC J J) J<|AM.qv (aL J J .p1 J) J<|AM.qv (aC J J) J<|AM.qv (aL J J .p3 J) J<|AM.qv (Em J J) J<|AM.qv (bR J J) J<|AM.qv (Em J J) J<|AM.qv (aU J J) J<|AM.qv (ax J) J<|AM.qv (aC J J) J<|AM.nil<|aB J J J J .p0 J J<|ae.ghost<|ai.pg (kb:=sq) (v':=(⟨v78.a8,v78.bS,v78.dh,v78.bV,aT (v78.Time+(max (0:Int) (aT ((min v76.To ah.To) - (max v76.bg ah.bg)))))⟩:aj)) (s:=Jh []) Ps (.cons .p0 .nil) J (fun _=>.p1) fun Xq=>ai.here<|rN<|aa.bN<|tR<|ae.qv (aU J J) J<|rM J J<|rN<|aa.stop<|?_
              cases h
              exact hJ7 _ _ J<|ai.lq [1,1,1] ⟨Xq,J⟩ J J
             ·exact aa.exit J<|have h:=cr h hA7;aa.bN<|aa.stop<|ai.lq [0,0,0] ⟨o7,QZ,Pr,gV eO v31.aR.aN (gz.length:Int),h,J⟩ J J
      ·refine ae.qv (o0 (gk:=AV.str) (gv:=(pA kr)) (M:=eO) (key:=v31.aR.aN) J J .p2 e5) J<|ae.qv (Dl J J) J<|rN<|aa.CX J<|tK<|aM<|rM J J<|rM J J<|ae.qv (aP J) J<|ae.qv (aQ J J) J<|ae.qv (aQ J J) J<|ae.qv (aH J J J) J<|Jb h (fun Oq h=>?_) (fun vy Oq h=>?_)
       ·refine ae.qv (oZ (gk:=AV.str) (gv:=(pA kr)) (M:=eO) (key:=v31.aR.aN) J J .p2 J Oq) J<|rA J J<|rN<|tS<|aM<|rM J J<|ae.qv (aP J) J<|ae.qv (aQ J J) J<|ae.qv (aH J J J) J<|ae.qv (dz J) J<|rM J J<|rN<|aa.block<|aa.cj (fun x:Int=>lX ah gz eO n26 v31 x) (fun x aG=>aG=⟨169,[(3,.ptr b4 0),(7,.func (.func 54) [.ptr b4 0]),(8,.jO b8),(10,.eo [.str v31.aR.aK,.str v31.aR.aN,I v31.az,I v31.bM,gx v31.aD,I v31.ay,qC v31.eV,qC v31.bC,qC v31.bh,gx v31.bf,gx v31.aW]),(11,.raw (.pointer none)),(35,Eg kA),(36,I (kA.length:Int)),(37,I n26),(72,gx v31.aD),(73,I (v31.aD.length:Int)),(74,I x)],[(b1,.bU (gl sq kr uN gz)),(b4,.cells [I ah.bg,I ah.To]),(b8,.mp (eO.map (fun e=>(AV.str e.1,(pA kr) e.2))))]⟩) h ?_ ?_
        ·exact ai.lq [0,0,0] J J J
        ·intro QL z8 aG J8 eZ h hJ8 hA8
         obtain rfl:=eZ
         replace h:lX ah gz eO n26 v31 QL=some z8:=h
         unfold lX at h
         refine aM<|ae.qv (bH J J) J<|rN<|tS<|cD h J (fun h=>?_) (fun h=>?_)
         ·refine tK<|tS<|aa.block<|aM<|aF h fun v83 T5 h=>ae.qv (bJ J J J T5 J J) J<|ae.qv (aH J J J) J<|rA J J<|rN<|aM<|rM J J<|rM J J<|nQ J J (dw J) (.cons (.co (.refl _)) (.cons (.C4 _ _ _ .p1 (.cons (.co (.refl _)) (.cons (.co (.refl _)) .nil))) .nil)) J J<|rN<|cB h J (fun h=>?_) (fun h=>?_)
          ·refine tR<|rM J J<|?_
           cases h
          ·refine tK<|aa.bN<|tR<|ae.qv (aU J J) J<|rM J J<|rN<|aa.stop<|?_
           cases h
           exact hJ8 _ _ J<|ai.lq [0,0,0] J J J
         ·refine aa.exit J<|have h:=cr h hA8;tS<|aM<|rM J J<|ae.qv (aP J) J<|ae.qv (aQ J J) J<|ae.qv (aH J J J) J<|ae.qv (dz J) J<|rM J J<|rN<|aa.block<|aa.cj (fun x:Int=>lW ah gz eO n26 v31 x) (fun x aG=>aG=⟨169,[(3,.ptr b4 0),(7,.func (.func 54) [.ptr b4 0]),(8,.jO b8),(10,.eo [.str v31.aR.aK,.str v31.aR.aN,I v31.az,I v31.bM,gx v31.aD,I v31.ay,qC v31.eV,qC v31.bC,qC v31.bh,gx v31.bf,gx v31.aW]),(11,.raw (.pointer none)),(35,Eg kA),(36,I (kA.length:Int)),(37,I n26),(92,gx v31.bf),(93,I (v31.bf.length:Int)),(94,I x)],[(b1,.bU (gl sq kr uN gz)),(b4,.cells [I ah.bg,I ah.To]),(b8,.mp (eO.map (fun e=>(AV.str e.1,(pA kr) e.2))))]⟩) h ?_ ?_
          ·exact ai.lq [0,0,0] J J J
          ·intro QK z9 aG J9 eZ h hJ9 hA9
           obtain rfl:=eZ
           replace h:lW ah gz eO n26 v31 QK=some z9:=h
           unfold lW at h
           refine aM<|ae.qv (bH J J) J<|rN<|tS<|cD h J (fun h=>?_) (fun h=>?_)
           ·refine tK<|tS<|aa.block<|aM<|rM J J<|aF h fun v86 e21 h=>ae.qv (bJ J J J e21 J J) J<|ae.qv (aH J J J) J<|rA J J<|rA J J<|rN<|aM<|rM J J<|rM J J<|nQ J J (dw J) (.cons (.co (.refl _)) (.cons (.C4 _ _ _ .p1 (.cons (.co (.refl _)) (.cons (.co (.refl _)) .nil))) .nil)) J J<|rN<|cB h J (fun h=>?_) (fun h=>?_)
            ·refine aM<|rM J J<|?_
             cases h
            ·refine tK<|aa.bN<|tR<|ae.qv (aU J J) J<|rM J J<|rN<|aa.stop<|?_
             cases h
             exact hJ9 _ _ J<|ai.lq [0,0,0] J J J
           ·refine aa.exit J<|have h:=cr h hA9;aM<|rM J J<|ae.qv (aP J) J<|ae.qv (aQ J J) J<|ae.qv (aH J J J) J<|ae.qv (dz J) J<|rM J J<|rN<|aa.block<|aa.cj (fun x:Unit=>kQ gz eO n26 v31) (fun x aG=>aG=⟨169,[(3,.ptr b4 0),(7,.func (.func 54) [.ptr b4 0]),(8,.jO b8),(11,.raw (.pointer none)),(35,Eg kA),(36,I (kA.length:Int)),(37,I n26),(127,qC v31.eV),(128,I (v31.eV.length:Int)),(129,I (0:Int))],[(b1,.bU (gl sq kr uN gz)),(b4,.cells [I ah.bg,I ah.To]),(b8,.mp (eO.map (fun e=>(AV.str e.1,(pA kr) e.2))))]⟩) h ?_ ?_
            ·exact ai.lq [0,0,0] J J J
            ·intro x z10 aG J10 eZ h ag1 Xr
             obtain rfl:=eZ
             replace h:kQ gz eO n26 v31=some z10:=h
             unfold kQ at h
             refine aM<|ae.qv (bH J J) J<|rN<|tS<|cD h J (fun h=>?_) (fun h=>?_)
             ·refine tK<|tS<|aa.block<|aM<|aF h fun v87 e22 h=>ae.qv (bJ J J J e22 J J) J<|ae.qv (bA J J J) J<|bX J J J J fun b88=>aB J J J J .p0 J J<|rN<|aa.bL (id:=30) (A:=[0,1,3,7,0,16,0,64,240,0,512,0,2048,7680,16368,32752,65535,131071,262143,524287]) 19 mixed J (by kernel_rfl) (by kernel_rfl)<|AM.qv (aA J) J<|?_
              cases h
             ·exact aa.exit J<|have h:=cr h Xr;aa.bN<|aa.stop<|ai.lq [0,0,0] ⟨kr,uN,gz,eO,h,J⟩ J J
       ·refine ae.qv (o0 (gk:=AV.str) (gv:=(pA kr)) (M:=eO) (key:=v31.aR.aN) J J .p2 Oq) J<|rA J J<|rN<|tS<|aM<|rM J J<|ae.qv (aP J) J<|ae.qv (aQ J J) J<|ae.qv (aH J J J) J<|ae.qv (dz J) J<|rM J J<|rN<|aa.block<|aa.cj (fun x:(List aj)×Int=>ef ah eO n26 v31 vy x.1 x.2) (fun x aG=>∃ (Ov:Nat→Nat→Bk),aG=⟨169,[(3,.ptr b4 0),(7,.func (.func 54) [.ptr b4 0]),(8,.jO b8),(10,.eo [.str v31.aR.aK,.str v31.aR.aN,I v31.az,I v31.bM,gx v31.aD,I v31.ay,qC v31.eV,qC v31.bC,qC v31.bh,gx v31.bf,gx v31.aW]),(11,.ptr (kr vy.toNat) 0),(35,Eg kA),(36,I (kA.length:Int)),(37,I n26),(72,gx v31.aD),(73,I (v31.aD.length:Int)),(74,I x.2)],[(b1,.bU (gl sq kr Ov x.1)),(b4,.cells [I ah.bg,I ah.To]),(b8,.mp (eO.map (fun e=>(AV.str e.1,(pA kr) e.2))))]⟩) h ?_ ?_
        ·exact ai.lq [0,0,0] ⟨uN,J⟩ J J
        ·intro x z11 aG J11 eZ h Xt Xu
         obtain ⟨MS,JV⟩:=x
         obtain ⟨Ov,rfl⟩:=eZ
         replace h:ef ah eO n26 v31 vy MS JV=some z11:=h
         unfold ef at h
         refine aM<|ae.qv (bH J J) J<|rN<|tS<|cD h J (fun h=>?_) (fun h=>?_)
         ·refine tK<|tS<|aa.block<|aM<|aF h fun v95 e23 h=>ae.qv (bJ J J J e23 J J) J<|ae.qv (aH J J J) J<|rA J J<|rN<|aM<|rM J J<|rM J J<|nQ J J (dw J) (.cons (.co (.refl _)) (.cons (.C4 _ _ _ .p1 (.cons (.co (.refl _)) (.cons (.co (.refl _)) .nil))) .nil)) J J<|rN<|aa.cut (fun aG=>∃ (Q0:Nat→Nat→Bk) (TB:List aj),jx JV TB=some z11∧aG=⟨169,[(3,.ptr b4 0),(7,.func (.func 54) [.ptr b4 0]),(8,.jO b8),(10,.eo [.str v31.aR.aK,.str v31.aR.aN,I v31.az,I v31.bM,gx v31.aD,I v31.ay,qC v31.eV,qC v31.bC,qC v31.bh,gx v31.bf,gx v31.aW]),(11,.ptr (kr vy.toNat) 0),(35,Eg kA),(36,I (kA.length:Int)),(37,I n26),(72,gx v31.aD),(73,I (v31.aD.length:Int)),(74,I JV)],[(b1,.bU (gl sq kr Q0 TB)),(b4,.cells [I ah.bg,I ah.To]),(b8,.mp (eO.map (fun e=>(AV.str e.1,(pA kr) e.2))))]⟩) ?_ ?_
          ·refine cB h J (fun h=>?_) (fun h=>?_)
           ·exact tR<|rM J J<|ae.qv (ax J) J<|rF J J J<|aF h fun Gn Xv h=>ae.qv (QV.ara (kb:=sq) Xv .p0 J (aL J J .p0 J)) J<|ae.qv (aU J J) J<|ae.qv (ax J) J<|rF J J J<|ae.ghost<|ai.mU (kb:=sq) Xv .p0 J<|ai.here<|aB J J J J .p0 J J<|ae.ghost<|ai.pg (kb:=sq) (v':=(⟨Gn.a8,aT (Gn.bS+(1:Int)),Gn.dh,Gn.bV,Gn.Time⟩:aj)) (s:=Jh []) Xv (.cons .p0 .nil) J (fun _=>.p0) fun Xw=>ai.here<|rN<|aa.stop<|ai.lq [0,0,0] ⟨Xw,MS.set vy.toNat (⟨Gn.a8,aT (Gn.bS+(1:Int)),Gn.dh,Gn.bV,Gn.Time⟩:aj),h,J⟩ J J
           ·exact tK<|aa.stop<|ai.lq [0,0,0] ⟨Ov,MS,h,J⟩ J J
          ·rintro aG ⟨Q0,TB,h,rfl⟩
           unfold jx at h
           refine aa.bN<|tR<|ae.qv (aU J J) J<|rM J J<|rN<|aa.stop<|?_
           cases h
           exact Xt _ _ J<|ai.lq [0,0,0] ⟨Q0,J⟩ J J
         ·refine aa.exit J<|have h:=cr h Xu;tS<|aM<|rM J J<|ae.qv (aP J) J<|ae.qv (aQ J J) J<|ae.qv (aH J J J) J<|ae.qv (dz J) J<|rM J J<|rN<|aa.block<|aa.cj (fun x:(List aj)×Int=>ee ah eO n26 v31 vy x.1 x.2) (fun x aG=>∃ (Im:Nat→Nat→Bk),aG=⟨169,[(3,.ptr b4 0),(7,.func (.func 54) [.ptr b4 0]),(8,.jO b8),(10,.eo [.str v31.aR.aK,.str v31.aR.aN,I v31.az,I v31.bM,gx v31.aD,I v31.ay,qC v31.eV,qC v31.bC,qC v31.bh,gx v31.bf,gx v31.aW]),(11,.ptr (kr vy.toNat) 0),(35,Eg kA),(36,I (kA.length:Int)),(37,I n26),(92,gx v31.bf),(93,I (v31.bf.length:Int)),(94,I x.2)],[(b1,.bU (gl sq kr Im x.1)),(b4,.cells [I ah.bg,I ah.To]),(b8,.mp (eO.map (fun e=>(AV.str e.1,(pA kr) e.2))))]⟩) h ?_ ?_
          ·exact ai.lq [0,0,0] ⟨Ov,J⟩ J J
          ·intro x z12 aG J12 eZ h Xx Xy
           obtain ⟨BQ,n105⟩:=x
           obtain ⟨Im,rfl⟩:=eZ
           replace h:ee ah eO n26 v31 vy BQ n105=some z12:=h
           unfold ee at h
           refine aM<|ae.qv (bH J J) J<|rN<|tS<|cD h J (fun h=>?_) (fun h=>?_)
           ·refine tK<|tS<|aa.block<|aM<|rM J J<|aF h fun TC e25 h=>ae.qv (bJ J J J e25 J J) J<|ae.qv (aH J J J) J<|rA J J<|rA J J<|rN<|aM<|rM J J<|rM J J<|nQ J J (dw J) (.cons (.co (.refl _)) (.cons (.C4 _ _ _ .p1 (.cons (.co (.refl _)) (.cons (.co (.refl _)) .nil))) .nil)) J J<|rN<|aa.cut (fun aG=>∃ (LA:Nat→Nat→Bk) (Ln:List aj),jy n105 Ln=some z12∧aG=⟨169,[(3,.ptr b4 0),(7,.func (.func 54) [.ptr b4 0]),(8,.jO b8),(10,.eo [.str v31.aR.aK,.str v31.aR.aN,I v31.az,I v31.bM,gx v31.aD,I v31.ay,qC v31.eV,qC v31.bC,qC v31.bh,gx v31.bf,gx v31.aW]),(11,.ptr (kr vy.toNat) 0),(35,Eg kA),(36,I (kA.length:Int)),(37,I n26),(92,gx v31.bf),(93,I (v31.bf.length:Int)),(94,I n105)],[(b1,.bU (gl sq kr LA Ln)),(b4,.cells [I ah.bg,I ah.To]),(b8,.mp (eO.map (fun e=>(AV.str e.1,(pA kr) e.2))))]⟩) ?_ ?_
            ·refine cB h J (fun h=>?_) (fun h=>?_)
             ·exact aM<|rM J J<|ae.qv (ax J) J<|rF J J J<|aF h fun v109 Ua h=>ae.qv (QV.ara (kb:=sq) Ua .p0 J (aL J J .p0 J)) J<|ae.qv (aU J J) J<|ae.qv (ax J) J<|rF J J J<|ae.ghost<|ai.mU (kb:=sq) Ua .p0 J<|ai.here<|aB J J J J .p0 J J<|ae.ghost<|ai.pg (kb:=sq) (v':=(⟨v109.a8,v109.bS,aT (v109.dh+(1:Int)),v109.bV,v109.Time⟩:aj)) (s:=Jh []) Ua (.cons .p0 .nil) J (fun _=>.p0) fun acB=>ai.here<|rN<|aa.ghost<|ai.mU (kb:=sq) (fA (v:=(⟨v109.a8,v109.bS,aT (v109.dh+(1:Int)),v109.bV,v109.Time⟩:aj)) Ua) .p0 J<|ai.here<|aa.bL (id:=25) (A:=[0,1,3,7,0,16,48,112,0,496,1008,2047,4095,8191,16383]) 14 mixed J (by kernel_rfl) (by kernel_rfl)<|AM.qv (aA J) J<|AM.qv (ax J) J<|AM.qv (aC J J) J<|AM.qv (aL J J .p0 J) J<|AM.qv (aA J) J<|AM.qv (aP J) J<|AM.qv (aQ J J) J<|AM.qv (aH J J J) J<|AM.qv (aA J) J<|aF h fun On e27 h=>AM.qv (bJ J J J e27 J J) J<|AM.qv (aH J J J) J<|AM.qv (aU J J) J<|AM.qv (ax J) J<|AM.qv (aC J J) J<|AM.nil<|aB J J J J .p0 J J<|ae.ghost<|ai.pg (kb:=sq) (v':=(⟨v109.a8,v109.bS,aT (v109.dh+(1:Int)),aT (v109.bV+On),v109.Time⟩:aj)) (s:=Jh []) (fA (v:=(⟨v109.a8,v109.bS,aT (v109.dh+(1:Int)),v109.bV,v109.Time⟩:aj)) Ua) (.cons .p0 .nil) J (fun _=>.p0) fun Ub=>ai.here<|rN<|aa.stop<|ai.lq [0,0,0] ⟨Ub,(BQ.set vy.toNat (⟨v109.a8,v109.bS,aT (v109.dh+(1:Int)),v109.bV,v109.Time⟩:aj)).set vy.toNat (⟨v109.a8,v109.bS,aT (v109.dh+(1:Int)),aT (v109.bV+On),v109.Time⟩:aj),h,J⟩ J J
             ·exact tK<|aa.stop<|ai.lq [0,0,0] ⟨Im,BQ,h,J⟩ J J
            ·rintro aG ⟨LA,Ln,h,rfl⟩
             unfold jy at h
             refine aa.bN<|tR<|ae.qv (aU J J) J<|rM J J<|rN<|aa.stop<|?_
             cases h
             exact Xx _ _ J<|ai.lq [0,0,0] ⟨LA,J⟩ J J
           ·refine aa.exit J<|have h:=cr h Xy;aM<|rM J J<|ae.qv (aP J) J<|ae.qv (aQ J J) J<|ae.qv (aH J J J) J<|ae.qv (dz J) J<|rM J J<|rN<|aa.block<|aa.cj (fun x:(List aj)×Int=>ed ah eO n26 v31 vy x.1 x.2) (fun x aG=>∃ (LC:Nat→Nat→Bk),aG=⟨169,[(3,.ptr b4 0),(7,.func (.func 54) [.ptr b4 0]),(8,.jO b8),(11,.ptr (kr vy.toNat) 0),(35,Eg kA),(36,I (kA.length:Int)),(37,I n26),(127,qC v31.eV),(128,I (v31.eV.length:Int)),(129,I x.2)],[(b1,.bU (gl sq kr LC x.1)),(b4,.cells [I ah.bg,I ah.To]),(b8,.mp (eO.map (fun e=>(AV.str e.1,(pA kr) e.2))))]⟩) h ?_ ?_
            ·exact ai.lq [0,0,0] ⟨Im,J⟩ J J
            ·intro x z13 aG J13 eZ h Xz XA
             obtain ⟨Fx,n118⟩:=x
             obtain ⟨LC,rfl⟩:=eZ
             replace h:ed ah eO n26 v31 vy Fx n118=some z13:=h
             unfold ed at h
             refine aM<|ae.qv (bH J J) J<|rN<|tS<|cD h J (fun h=>?_) (fun h=>?_)
             ·refine tK<|tS<|aa.block<|aM<|aF h fun Lo e28 h=>ae.qv (bJ J J J e28 J J) J<|ae.qv (bA J J J) J<|bX J J J J fun ag2=>aB J J J J .p0 J J<|rN<|aF h fun AE e29 h=>aa.ghost<|ai.mU (kb:=sq) e29 .p1 J<|ai.here<|aa.bL (id:=30) (A:=[0,1,3,7,0,16,0,64,240,0,512,0,2048,7680,16368,32752,65535,131071,262143,524287]) 19 mixed J (by kernel_rfl) (by kernel_rfl)<|AM.qv (aA J) J<|AM.qv (ax J) J<|AM.qv (aC J J) J<|AM.qv (aL J J .p0 J) J<|AM.qv (aC J J) J<|AM.qv (aL J J .p1 J) J<|AM.qv (aC J J) J<|AM.qv (aL J J .p3 J) J<|AM.qv (HA J J) J<|AM.qv (aC J J) J<|AM.qv (aL J J .p1 J) J<|AM.qv (aC J J) J<|AM.qv (aL J J .p3 J) J<|AM.qv (Em J J) J<|AM.qv (bR J J) J<|AM.qv (Em J J) J<|AM.qv (aU J J) J<|AM.qv (ax J) J<|AM.qv (aC J J) J<|AM.nil<|aB J J J J .p0 J J<|ae.ghost<|ai.pg (kb:=sq) (v':=(⟨AE.a8,AE.bS,AE.dh,AE.bV,aT (AE.Time+(max (0:Int) (aT ((min Lo.To ah.To) - (max Lo.bg ah.bg)))))⟩:aj)) (s:=Jh []) e29 (.cons .p0 .nil) J (fun _=>.p1) fun Uc=>ai.here<|rN<|aa.bN<|tR<|ae.qv (aU J J) J<|rM J J<|rN<|aa.stop<|?_
              cases h
              exact Xz _ _ J<|ai.lq [1,1,1] ⟨Uc,J⟩ J J
             ·exact aa.exit J<|have h:=cr h XA;aa.bN<|aa.stop<|ai.lq [0,0,0] ⟨kr,LC,Fx,eO,h,J⟩ J J
     ·rintro aG ⟨Ot,Ly,Lk,Tz,h,rfl⟩
      unfold bt at h
      refine tR<|ae.qv (aU J J) J<|rM J J<|rN<|aa.stop<|?_
      cases h
      exact mL _ _ J<|ai.lq [0,0,0] ⟨Ot,Ly,J⟩ J J
    ·refine aa.exit J<|have h:=cr h iQ;aM<|rA J J<|rN<|tS<|aM<|rM J J<|NN (M:=eO) (enc:=(fun e=>(AV.str e.1,(pA kr) e.2))) J (fun _ _=>.p2) J fun Ud Ue Q1 Uf Ug=>rN<|aa.block<|aa.NK (fun e (x:(List aj))=>gu gz e x) (fun x:(List aj)=>gw x) (fun R x aG=>∃ (FD:Bk) (Q2:List Nat),xd Ue Q1 Q2 (R.map (fun e=>(AV.str e.1,(pA kr) e.2)))∧aG=⟨169,[(18,.sl 5 FD 0 x.length),(155,.ptr Ud 0)],[(b1,.bU (gl sq kr uN gz)),(Ud,.J0 b8 Q1 Q2),(b8,.MA Ue Q1),(FD,Jp x)]⟩) h ?_ ?_
     ·exact ai.arr (s:=18) 5 J fun XB=>ai.lq [2,1,2,0] ⟨XB,[],Ug,J⟩ J J
     ·intro R14 DB aG J14 eZ Q3 Uh
      obtain ⟨FD,Q2,Ui,rfl⟩:=eZ
      refine aM<|Qk J Ui .p2 (fun _=>.p1) J (fun hN=>?_) (fun QM R' Uj hP hlen Q4 Q5=>?_)
      ·have h:=Wp Q3 hN
       replace h:gw DB=_:=h
       unfold gw at h
       refine ae.ghost<|ai.Qo Uf .p2<|ai.here<|rX J J J<|rN<|tS<|aa.CX J<|aa.exit J<|aM<|rM J J<|aF h fun Oo XC h=>bz J (oe (fun e=>vU (GI:=mC) (Option.some.inj e)) (kL XC)) cR (.cons .p3 .nil) J J<|ae.ghost<|ai.eqs (s:=18) (eW:=.sl 5 FD 0 Oo.length) J (congrArg (AV.sl 5 FD 0) (cP XC))<|ai.here<|ae.ghost<|ai.eqs (s:=166) (eW:=.sl 5 FD 0 Oo.length) J (congrArg (AV.sl 5 FD 0) (cP XC))<|ai.here<|rN<|aM<|rM J J<|rA J J<|rA J J<|rN<|aa.ret<|?_
       cases h
       exact hI J J [0] J ⟨FD,J,J⟩
      ·obtain ⟨z14,h,Uk,ag3⟩:=S3 Q3 hP
       replace h:gu gz QM DB=some z14:=h
       unfold gu at h
       have XD:=fun y aG (e:z14=.inl y) hi=>Uh R' y aG hlen (Uk y e) hi
       clear Uk hP Uh Q3
       refine rX J J J<|rN<|tS<|aa.CW J<|tK<|aa.block<|aM<|ae.qv (NO J .p1 .p2 Q5 J J) J<|rX J J J<|rA J J<|rN<|tR<|rM J J<|rM J J<|ae.qv (ax J) J<|aF h fun v130 e32 h=>ae.qv (QV.ara (kb:=sq) e32 .p0 J (bb J J .p0 J)) J<|ba (xs:=([v130]:List aj).map aj.av) J J J J J J<|aF h fun TE e33 h=>dA (g:=aj.av) J J J J J J J J (.list _) e33 (fun _=>.p3) J fun XE=>rA J J<|rN<|aa.bN<|aa.stop<|?_
       cases h
       exact XD _ _ J<|ai.lq [0,0,0,0] ⟨XE,Uj,Q4,J⟩ J J
theorem zn [GI:bF] {ab:au} {r:Int} (h:iw ab=r):Pu Tryz.prog 11 [au.av ab] (I r):=by
 unfold iw at h
 refine aJ.bD Tryz.func11 J Tryz.ntmps11 Tryz.results11 J J ?_
 refine aM<|jU J J J J fun b1=>rA J J<|rN<|tS<|tS<|aa.cut (fun aG=>∃ (c2:Bool),mH c2=r∧aG=⟨14,[(13,.bool c2)],[]⟩) ?_ ?_
 ·refine tR<|rF J J J<|rL J J .p0 J J<|rF J J J<|rL J J .p0 J J<|bw J (yi J) cR J<|ae.qv (fj J) J<|rM J J<|ae.guard J J J (fun hc=>?_) (fun hc=>?_)
  ·rw [P5 hc] at h
   exact rF J J J<|rY J J J<|rL J J .p0 J J<|rY J J J<|ae.qv (ir J J) J<|rE J J J<|rN<|aa.stop<|ai.lq [] ⟨decide ((345686400000:Int) < ab.To),h,J⟩ J J
  ·rw [P4 hc] at h
   exact rG J J J J<|rG J J J J<|rT J J J<|rN<|aa.stop<|ai.lq [] ⟨true,h,J⟩ J J
 ·rintro aG ⟨c2,h,rfl⟩
  unfold mH at h
  refine cB h J (fun h=>?_) (fun h=>?_)
  ·refine aM<|rA J J<|rN<|aa.ret<|?_
   obtain rfl:=h
   exact hP J J
  ·refine tK<|aM<|rA J J<|rN<|aa.ret<|?_
   obtain rfl:=h
   exact hP J J
theorem AR [GI:bF] {ab:List Int} {r:Int} (h:qz ab=some r):Pu Tryz.prog 10 [gx ab] (I r):=by
 unfold qz at h
 refine aJ.bD Tryz.func10 J Tryz.ntmps10 Tryz.results10 J J ?_
 refine aM<|rA J J<|rN<|aM<|rA J J<|rN<|tS<|aM<|rM J J<|ae.qv (dz J) J<|rM J J<|rN<|aa.block<|aa.cj (fun x:Int=>nv ab x) (fun x aG=>aG=⟨18,[(3,I (0:Int)),(6,gx ab),(7,I (ab.length:Int)),(8,I x)],[]⟩) h ?_ ?_
 ·exact ai.lq [] J J J
 ·intro n2 z1 aG J1 eZ h mL iQ
  obtain rfl:=eZ
  replace h:nv ab n2=some z1:=h
  unfold nv at h
  refine aM<|ae.qv (bH J J) J<|rN<|tS<|cD h J (fun h=>?_) (fun h=>?_)
  ·refine tK<|tS<|aa.block<|aM<|aF h fun v3 e1 h=>ae.qv (bJ J J J e1 J J) J<|ae.qv (aH J J J) J<|rA J J<|rN<|aM<|rM J J<|rM J J<|ae.qv (jb J J) J<|rN<|cD h J (fun h=>?_) (fun h=>?_)
   ·refine aM<|rM J J<|rA J J<|rN<|aa.ret<|have h:=cr h iQ;?_
    cases h
    exact hP J J
   ·refine tK<|aa.bN<|tR<|ae.qv (aU J J) J<|rM J J<|rN<|aa.stop<|?_
    cases h
    exact mL _ _ J<|ai.lq [] J J J
  ·refine aa.exit J<|have h:=cr h iQ;aM<|rM J J<|rA J J<|rN<|aa.ret<|?_
   cases h
   exact hP J J
theorem zo [GI:bF] {ab:an} {ah:Signal} {r:Bool} (h:iy ab ah=r):Pu Tryz.prog 130 [.eo [.str ab.aK,.str ab.aN,iW ab.bq,I ab.az,I ab.ay.bg,I ab.ay.To],.eo [I ah.At,I ah.Kind,.str ah.Device,.str ah.a8,.str ah.By,I ah.aV]] (.bool r):=by
 unfold iy at h
 refine aJ.bD Tryz.func130 J Tryz.ntmps130 Tryz.results130 J J ?_
 refine aM<|rA J J<|rN<|tS<|aa.cut (fun aG=>∃ (c1:Bool),mI c1=r∧aG=⟨20,[(3,.bool c1)],[]⟩) ?_ ?_
 ·refine aa.bL (id:=1) (A:=[0,1,3,7,0,16,63,127,255,511,1023,2047,255,4351,16383,32767,65535]) 17 mixed J (by kernel_rfl) (by kernel_rfl)<|AM.qv (aA J) J<|AM.qv (aP J) J<|AM.qv (aQ J J) J<|AM.qv (aH J J J) J<|AM.qv (aQ J J) J<|AM.qv (aH J J J) J<|AM.qv (qg J J) J<|AM.qv (aA J) J<|AM.bW J J J (fun hc=>?_) (fun hc=>?_)
  ·rw [lM hc] at h
   exact AM.qv (aA J) J<|AM.bc J J J<|AM.qv (aP J) J<|AM.bc J J J<|AM.qv (aQ J J) J<|AM.bc J J J<|AM.qv (aH J J J) J<|AM.bc J J J<|AM.qv (aQ J J) J<|AM.bc J J J<|AM.qv (aH J J J) J<|AM.bc J J J<|AM.qv (qg J J) J<|AM.qv (pr J J) J<|AM.qv (cU J) J<|AM.nil<|rN<|aa.stop<|ai.lq [] ⟨decide (ab.aN=ah.a8),h,J⟩ J J
  ·rw [lN hc] at h
   exact AM.bn J J J J<|AM.bn J J J J<|AM.bn J J J J<|AM.bn J J J J<|AM.bn J J J J<|AM.bn J J J J<|AM.qv (ps J J) J<|AM.qv (cU J) J<|AM.nil<|rN<|aa.stop<|ai.lq [] ⟨false,h,J⟩ J J
 ·rintro aG ⟨c1,h,rfl⟩
  unfold mI at h
  refine aa.ret<|?_
  obtain rfl:=h
  exact hP J J
theorem nj [GI:bF] {ab:List an} {oK:an→Option Bool} {oH:FuncId} [bu Tryz.prog oH] {re:List AV} (yT:∀ {y0:_} {u:Bool},oK y0=some u→Pu Tryz.prog oH (.eo [.str y0.aK,.str y0.aN,iW y0.bq,I y0.az,I y0.ay.bg,I y0.ay.To] :: re) (.bool u)) {r:Int} (h:dm ab oK=some r):Pu Tryz.prog 129 [zj ab,.func (.func oH) re] (I r):=by
 unfold dm at h
 refine aJ.bD Tryz.func129 J Tryz.ntmps129 Tryz.results129 J J ?_
 refine aM<|rA J J<|rN<|tS<|aM<|rM J J<|ae.qv (dz J) J<|rM J J<|rN<|aa.block<|aa.cj (fun x:Int=>cF ab oK x) (fun x aG=>aG=⟨19,[(0,zj ab),(1,.func (.func oH) re),(7,I (ab.length:Int)),(8,I x)],[]⟩) h ?_ ?_
 ·exact ai.lq [] J J J
 ·intro n2 z1 aG J1 eZ h mL iQ
  obtain rfl:=eZ
  replace h:cF ab oK n2=some z1:=h
  unfold cF at h
  refine aM<|ae.qv (bH J J) J<|rN<|tS<|cD h J (fun h=>?_) (fun h=>?_)
  ·refine tK<|tS<|aa.block<|aM<|rM J J<|rA J J<|rN<|aM<|rM J J<|rM J J<|rM J J<|aF h fun v3 e1 h=>ae.qv (bJ J J J e1 J J) J<|ae.qv (aH J J J) J<|aF h fun v4 e2 h=>EB J J (yT e2) cR J<|rN<|cB h J (fun h=>?_) (fun h=>?_)
   ·refine aM<|rM J J<|rA J J<|rN<|aa.ret<|have h:=cr h iQ;?_
    cases h
    exact hP J J
   ·refine tK<|aa.bN<|tR<|ae.qv (aU J J) J<|rM J J<|rN<|aa.stop<|?_
    cases h
    exact mL _ _ J<|ai.lq [] J J J
  ·refine aa.exit J<|have h:=cr h iQ;aM<|rA J J<|rN<|aa.ret<|?_
   cases h
   exact hP J J
theorem AS [GI:bF] {aY:Bk} {jN:Bk} {ab:an} {ah:Signal} {r:Int×an} (h:oE ab ah=some r):aJ Tryz.prog 131 [.ptr aY 0,Signal.av ah] [(aY,.cells [.str ab.aK,.str ab.aN,.sl 6 jN 0 ab.bq.length,I ab.az,I ab.ay.bg,I ab.ay.To]),(jN,ek ab.bq)] (T1 (fun LD=>[(aY,.cells [.str r.2.aK,.str r.2.aN,.sl 6 LD 0 r.2.bq.length,I r.2.az,I r.2.ay.bg,I r.2.ay.To]),(LD,ek r.2.bq)]) (fun LD=>I r.1)):=by
 unfold oE at h
 refine aJ.fa ?_
 refine aJ.bD Tryz.func131 J Tryz.ntmps131 Tryz.results131 J J ?_
 refine aM<|jU J J J J fun b1=>rA J J<|rN<|tS<|aa.cut (fun aG=>∃ (c2:Bool),ny ab ah c2=some r∧aG=⟨110,[(0,.ptr aY 0),(3,.ptr b1 0),(5,.bool c2)],[(aY,.cells [.str ab.aK,.str ab.aN,.sl 6 jN 0 ab.bq.length,I ab.az,I ab.ay.bg,I ab.ay.To]),(jN,ek ab.bq),(b1,.cells (vA ah))]⟩) ?_ ?_
 ·refine tR<|rM J J<|ae.qv (ax J) J<|rF J J J<|rL J J .p1 J J<|ae.qv (bY J J) J<|rM J J<|ae.gg J J J (fun hc=>?_) (fun hc=>?_)
  ·rw [BE hc] at h
   exact rM J J<|rY J J J<|ae.qv (ax J) J<|rY J J J<|rF J J J<|rY J J J<|rL J J .p1 J J<|rY J J J<|ae.qv (bY J J) J<|rE J J J<|rA J J<|rN<|aa.stop<|ai.lq [1,1,0] ⟨decide (ab.az=(2:Int)),h,J⟩ J J
  ·rw [BD hc] at h
   exact rG J J J J<|rG J J J J<|rG J J J J<|rG J J J J<|rT J J J<|rA J J<|rN<|aa.stop<|ai.lq [1,1,0] ⟨true,h,J⟩ J J
 ·rintro aG ⟨c2,h,rfl⟩
  unfold ny at h
  refine tS<|aa.cut (fun aG=>∃ (c3:Bool),nx ab ah c2 c3=some r∧aG=⟨110,[(0,.ptr aY 0),(3,.ptr b1 0),(5,.bool c2),(6,.bool c3)],[(aY,.cells [.str ab.aK,.str ab.aN,.sl 6 jN 0 ab.bq.length,I ab.az,I ab.ay.bg,I ab.ay.To]),(jN,ek ab.bq),(b1,.cells (vA ah))]⟩) ?_ ?_
  ·refine aa.bL (id:=2) (A:=[0,1,3,7,15,0,32,127,255,511,1023,511,2559,6655,14847,31231,65535,131071,262143]) 19 mixed J (by kernel_rfl) (by kernel_rfl)<|AM.qv (aA J) J<|AM.qv (ax J) J<|AM.qv (aC J J) J<|AM.qv (aC J J) J<|AM.qv (aL J J .p0 J) J<|AM.qv (aC J J) J<|AM.qv (aL J J .p2 J) J<|AM.qv (rS J J) J<|AM.qv (aA J) J<|AM.bW J J J (fun hc=>?_) (fun hc=>?_)
   ·rw [lM hc] at h
    exact AM.qv (aC J J) J<|AM.bc J J J<|AM.qv (aL J J .p2 J) J<|AM.bc J J J<|AM.qv (aA J) J<|AM.bc J J J<|AM.qv (ax J) J<|AM.bc J J J<|AM.qv (aC J J) J<|AM.bc J J J<|AM.qv (aC J J) J<|AM.bc J J J<|AM.qv (aL J J .p0 J) J<|AM.bc J J J<|AM.qv (bH J J) J<|AM.qv (pr J J) J<|AM.qv (cU J) J<|AM.nil<|rN<|aa.stop<|ai.lq [0,0,0] ⟨decide (ah.At < ab.ay.To),h,J⟩ J J
   ·rw [lN hc] at h
    exact AM.bn J J J J<|AM.bn J J J J<|AM.bn J J J J<|AM.bn J J J J<|AM.bn J J J J<|AM.bn J J J J<|AM.bn J J J J<|AM.qv (ps J J) J<|AM.qv (cU J) J<|AM.nil<|rN<|aa.stop<|ai.lq [0,0,0] ⟨false,h,J⟩ J J
  ·rintro aG ⟨c3,h,rfl⟩
   unfold nx at h
   refine tS<|aM<|rF J J J<|rL J J .p2 J J<|rN<|aa.block<|aM<|ae.qv (bY J J) J<|rA J J<|rN<|aa.cut (fun aG=>∃ (n4:Int) (n5:Int) (n6:Int),iX ab ah n4 n5 n6=some r∧aG=⟨110,[(0,.ptr aY 0),(3,.ptr b1 0)],[(aY,.cells [.str ab.aK,.str ab.aN,.sl 6 jN 0 ab.bq.length,I n4,I n5,I n6]),(jN,ek ab.bq),(b1,.cells (vA ah))]⟩) ?_ ?_
   ·refine cD h J (fun h=>?_) (fun h=>?_)
    ·refine tS<|aM<|rM J J<|rN<|cB h J (fun h=>?_) (fun h=>?_)
     ·refine aM<|rA J J<|rN<|aa.ret<|?_
      cases h
      exact hH J [0,0] J ⟨jN,J,J⟩
     ·exact tK<|tR<|rM J J<|ae.qv (ax J) J<|rF J J J<|aB J J J J .p0 J J<|rN<|aa.stop<|ai.lq [0,0,0] ⟨(1:Int),ab.ay.bg,ab.ay.To,h,J⟩ J J
    ·refine aM<|ae.qv (bY J J) J<|rA J J<|rN<|aa.cut (fun aG=>∃ (n7:Int) (n8:Int) (n9:Int),fQ ab ah n7 n8 n9=some r∧aG=⟨110,[(0,.ptr aY 0),(3,.ptr b1 0)],[(aY,.cells [.str ab.aK,.str ab.aN,.sl 6 jN 0 ab.bq.length,I n7,I n8,I n9]),(jN,ek ab.bq),(b1,.cells (vA ah))]⟩) ?_ ?_
     ·refine cD h J (fun h=>?_) (fun h=>?_)
      ·refine tS<|aM<|rM J J<|ae.qv (fj J) J<|rN<|cB h J (fun h=>?_) (fun h=>?_)
       ·refine aM<|rA J J<|rN<|aa.ret<|?_
        cases h
        exact hH J [0,0] J ⟨jN,J,J⟩
       ·exact tK<|tR<|rM J J<|vr J fun nh=>xc (gk:=I) (gv:=I) (M:=([]:List (Int×Int))) (key:=(1:Int)) (v:=(3:Int)) J J J J .p0<|xc (gk:=I) (gv:=I) (M:=(gV ([]:List (Int×Int)) (1:Int) (3:Int))) (key:=(2:Int)) (v:=(0:Int)) J J J J .p0<|rM J J<|rM J J<|ae.qv (ax J) J<|rF J J J<|rL J J .p1 J J<|aF h fun v11 e1 h=>ae.qv (E0 (gk:=I) (gv:=I) (M:=(gV (gV ([]:List (Int×Int)) (1:Int) (3:Int)) (2:Int) (0:Int))) (key:=ab.az) (Z:=(0:Int)) J J .p0 J J J e1 J) J<|ae.qv (ax J) J<|rF J J J<|aB J J J J .p1 J J<|rN<|aa.stop<|ai.lq [1,1,1] ⟨v11,ab.ay.bg,ab.ay.To,h,J⟩ J J
      ·refine aM<|ae.qv (bY J J) J<|rA J J<|rN<|aa.cut (fun aG=>∃ (n12:Int) (n13:Int) (n14:Int),iY ab ah n12 n13 n14=some r∧aG=⟨110,[(0,.ptr aY 0),(3,.ptr b1 0)],[(aY,.cells [.str ab.aK,.str ab.aN,.sl 6 jN 0 ab.bq.length,I n12,I n13,I n14]),(jN,ek ab.bq),(b1,.cells (vA ah))]⟩) ?_ ?_
       ·refine cD h J (fun h=>?_) (fun h=>?_)
        ·refine tS<|tS<|aa.cut (fun aG=>∃ (Lp:Bool),nw ab ah Lp=some r∧aG=⟨110,[(0,.ptr aY 0),(3,.ptr b1 0),(78,.bool Lp)],[(aY,.cells [.str ab.aK,.str ab.aN,.sl 6 jN 0 ab.bq.length,I ab.az,I ab.ay.bg,I ab.ay.To]),(jN,ek ab.bq),(b1,.cells (vA ah))]⟩) ?_ ?_
         ·refine tR<|rM J J<|ae.qv (ax J) J<|rF J J J<|rL J J .p0 J J<|ae.qv (jb J J) J<|rM J J<|ae.bW J J J (fun hc=>?_) (fun hc=>?_)
          ·rw [lM hc] at h
           exact rM J J<|rY J J J<|ae.qv (ax J) J<|rY J J J<|rF J J J<|rY J J J<|rL J J .p0 J J<|rY J J J<|ae.qv (jb J J) J<|rT J J J<|rN<|aa.stop<|ai.lq [0,0,0] ⟨decide (ab.az≠(3:Int)),h,J⟩ J J
          ·rw [lN hc] at h
           exact rG J J J J<|rG J J J J<|rG J J J J<|rG J J J J<|rE J J J<|rN<|aa.stop<|ai.lq [0,0,0] ⟨false,h,J⟩ J J
         ·rintro aG ⟨Lp,h,rfl⟩
          unfold nw at h
          refine cB h J (fun h=>?_) (fun h=>?_)
          ·refine aM<|rA J J<|rN<|aa.ret<|?_
           cases h
           exact hH J [0,0] J ⟨jN,J,J⟩
          ·exact tK<|tR<|rM J J<|vr J fun uj=>xc (gk:=I) (gv:=I) (M:=([]:List (Int×Int))) (key:=(1:Int)) (v:=(2:Int)) J J J J .p0<|xc (gk:=I) (gv:=I) (M:=(gV ([]:List (Int×Int)) (1:Int) (2:Int))) (key:=(3:Int)) (v:=(0:Int)) J J J J .p0<|rM J J<|rM J J<|ae.qv (ax J) J<|rF J J J<|rL J J .p1 J J<|aF h fun v17 e2 h=>ae.qv (E0 (gk:=I) (gv:=I) (M:=(gV (gV ([]:List (Int×Int)) (1:Int) (2:Int)) (3:Int) (0:Int))) (key:=ab.az) (Z:=(0:Int)) J J .p0 J J J e2 J) J<|ae.qv (ax J) J<|rF J J J<|aB J J J J .p1 J J<|rN<|aa.stop<|ai.lq [1,1,1] ⟨v17,ab.ay.bg,ab.ay.To,h,J⟩ J J
        ·refine aM<|ae.qv (bY J J) J<|rA J J<|rN<|aa.cut (fun aG=>∃ (n18:Int) (n19:Int),k7 ab ah n18 n19=some r∧aG=⟨110,[(0,.ptr aY 0),(3,.ptr b1 0)],[(aY,.cells [.str ab.aK,.str ab.aN,.sl 6 jN 0 ab.bq.length,I ab.az,I n18,I n19]),(jN,ek ab.bq),(b1,.cells (vA ah))]⟩) ?_ ?_
         ·refine cD h J (fun h=>?_) (fun h=>?_)
          ·refine tS<|aM<|rM J J<|rN<|cB h J (fun h=>?_) (fun h=>?_)
           ·refine aM<|rA J J<|rN<|aa.ret<|?_
            cases h
            exact hH J [0,0] J ⟨jN,J,J⟩
           ·exact tK<|tR<|rM J J<|rF J J J<|rL J J .p2 J J<|rF J J J<|rL J J .p2 J J<|ae.qv (db J J J J J) J<|ae.qv (ax J) J<|rF J J J<|aB J J J J .p0 J J<|rN<|aa.stop<|ai.lq [0,0,0] ⟨ah.At,ah.aV,h,J⟩ J J
          ·refine tS<|aM<|rM J J<|ae.qv (fj J) J<|rN<|cB h J (fun h=>?_) (fun h=>?_)
           ·refine aM<|rA J J<|rN<|aa.ret<|?_
            cases h
            exact hH J [0,0] J ⟨jN,J,J⟩
           ·exact tK<|tR<|rM J J<|ae.qv (db J J J J J) J<|ae.qv (ax J) J<|rF J J J<|aB J J J J .p0 J J<|rN<|aa.stop<|ai.lq [0,0,0] ⟨(0:Int),(0:Int),h,J⟩ J J
         ·rintro aG ⟨n18,n19,h,rfl⟩
          unfold k7 at h
          exact aa.stop<|ai.lq [0,0,0] ⟨ab.az,n18,n19,h,J⟩ J J
       ·rintro aG ⟨n12,n13,n14,h,rfl⟩
        unfold iY at h
        exact aa.stop<|ai.lq [0,0,0] ⟨n12,n13,n14,h,J⟩ J J
     ·rintro aG ⟨n7,n8,n9,h,rfl⟩
      unfold fQ at h
      exact aa.stop<|ai.lq [0,0,0] ⟨n7,n8,n9,h,J⟩ J J
   ·rintro aG ⟨n4,n5,n6,h,rfl⟩
    unfold iX at h
    refine aa.bN<|tS<|aF h fun tv e3 h=>aa.iS (id:=23) (A:=[0,0,2,6,14,0,32,126,255,511,1023]) (H0:=[(jN,ek ab.bq)]) (HH:=fun β=>[((β 7),ek tv),(aY,.cells [.str ab.aK,.str ab.aN,.sl 6 jN 0 ab.bq.length,I n4,I n5,I n6]),(b1,.cells (vA ah))]) 8 mixed J (by kernel_rfl) (by kernel_rfl) [⟨none,some 7,[],fun _=>(jN,ek ab.bq),none,[]⟩,⟨some 7,none,[],fun b=>(b,ek tv),none,[]⟩] [7] J (by kernel_rfl) J (.cons .p1 .nil) (fun _=>J)<|AT.am 7 J J<|AM.qv (aA J) J<|AM.qv (aA J) J<|AM.qv (ax J) J<|AM.qv (aC J J) J<|AM.qv (aL J J .p0 J) J<|AM.qv (bb J J .p1 J) J<|AM.fk (xs:=([ah]:List Signal).map Signal.av) J J J J J J<|AM.nil<|AT.BF (V:=fun b=>.sl 6 b 0 tv.length) (Ti:=[(jN,ek ab.bq)]) (Pi:=fun b=>[(b,ek tv)]) (fun _=>J) (fun _=>J) (fun _ _=>J) J (fun _=>J) J J J ?_ ?_
    ·exact dA (g:=Signal.av) J J J J J J J J (.list _) e3 (fun _=>.p0) J fun Gq=>ae.nil ⟨Gq,_,J,J⟩
    refine AT.ub (fun _=>J) fun β=>?_
    generalize β 7=Gq
    clear β
    refine ae.qv (ax J) J<|rF J J J<|aB J J J J .p1 J J<|rN<|aM<|rA J J<|rN<|aa.ret<|?_
    cases h
    exact hH J [1,0] J ⟨Gq,J,J⟩
theorem zp [GI:bF] {ab:an} {ah:an} {r:Int} (h:ly ab ah=some r):Pu Tryz.prog 133 [.eo [.str ab.aK,.str ab.aN,iW ab.bq,I ab.az,I ab.ay.bg,I ab.ay.To],.eo [.str ah.aK,.str ah.aN,iW ah.bq,I ah.az,I ah.ay.bg,I ah.ay.To]] (I r):=by
 unfold ly at h
 refine aJ.bD Tryz.func133 J Tryz.ntmps133 Tryz.results133 J J ?_
 refine aM<|rA J J<|rN<|tS<|aa.bL (id:=1) (A:=[0,1,3,7,0,16,48,112,255,0,512,1536,3584,0,8192,24576,57344,131071,262143,524287,1048575]) 21 mixed J (by kernel_rfl) (by kernel_rfl)<|AM.qv (aA J) J<|AM.qv (aP J) J<|AM.qv (aQ J J) J<|AM.qv (aH J J J) J<|AM.qv (aA J) J<|AM.qv (aP J) J<|AM.qv (aQ J J) J<|AM.qv (aH J J J) J<|AM.jV J (dC J) cR J<|AM.qv (aA J) J<|AM.qv (aP J) J<|AM.qv (aQ J J) J<|AM.qv (aH J J J) J<|AM.qv (aA J) J<|AM.qv (aP J) J<|AM.qv (aQ J J) J<|AM.qv (aH J J J) J<|AM.jV J (dC J) cR J<|AM.fk (xs:=([(Lib.compareBytes ab.aK ah.aK),(Lib.compareBytes ab.aN ah.aN)]:List Int).map I) J J J J J J<|aF h fun v1 e1 h=>AM.jV J (qD e1) cR J<|AM.qv (cU J) J<|AM.nil<|rN<|aa.ret<|?_
 cases h
 exact hP J J
theorem nL:H7 Tryz.prog 132:=⟨fun enc h1 cf hO g cb bN off cap d w eg hc hH hb hs=>Any.slices_SortFunc_eq Tryz.Fu enc h1 cf hO g cb bN off cap d w eg hc hH hb hs,fun p cap fv w=>AnyF.slices_SortFunc_none {Tryz.Fu with} p cap fv w⟩
theorem xy [GI:bF] {ab:List Signal} {ah:Int} {r:(List an)×(List cd)} (h:nI ab ah=some r):aJ Tryz.prog 59 [iW ab,I ah] [] (T1 (fun XF=>[(XF,TX r.2)]) (fun XF=>.iV [zj r.1,.sl 2 XF 0 r.2.length])):=by
 unfold nI at h
 refine aJ.fa ?_
 refine aJ.bD Tryz.func59 J Tryz.ntmps59 Tryz.results59 J J ?_
 refine aa.ghost (ai.Dq (kb:=MU) (fun b1 Xk Xl=>ai.here ?_))
 refine aM<|rA J J<|rA J J<|rN<|aM<|rA J J<|rN<|aM<|rA J J<|rN<|tS<|aM<|rM J J<|ae.qv (dz J) J<|rM J J<|rN<|aa.cut (fun aG=>∃ (XG:Nat→Bk) (bs6:Nat→Nat→Bk) (b7:Bk) (b9:Bk) (l4:List an) (l8:List Int) (l10:List cd),jG l4 l8 l10=some r∧aG=⟨58,[(6,.sl 1 b7 0 l8.length),(7,.sl 2 b9 0 l10.length)],[(b1,.bU (gl MU XG bs6 l4)),(b7,.arr 1 (l8.map (pA XG))),(b9,TX l10)]⟩) ?_ ?_
 ·refine aa.block<|aa.cj (fun x:(List an)×(List Int)×(List cd)×Int=>lA ab ah x.1 x.2.1 x.2.2.1 x.2.2.2) (fun x aG=>∃ (Jq:Nat→Bk) (Jr:Nat→Nat→Bk) (Lt:Bk) (Lu:Bk),aG=⟨58,[(1,I ah),(6,.sl 1 Lt 0 x.2.1.length),(7,.sl 2 Lu 0 x.2.2.1.length),(12,iW ab),(13,I (ab.length:Int)),(14,I x.2.2.2)],[(b1,.bU (gl MU Jq Jr x.1)),(Lt,.arr 1 (x.2.1.map (pA Jq))),(Lu,TX x.2.2.1)]⟩) h ?_ ?_
  ·exact ai.arr (s:=6) 1 J fun b27=>ai.arr (s:=7) 2 J fun VF=>ai.lq [2,1,0] ⟨Xk,Xl,b27,VF,J⟩ J J
  ·intro x z1 aG J1 eZ h mL iQ
   obtain ⟨nT,xm,eO,n26⟩:=x
   obtain ⟨Jq,Jr,Lt,Lu,rfl⟩:=eZ
   replace h:lA ab ah nT xm eO n26=some z1:=h
   unfold lA at h
   refine aM<|ae.qv (bH J J) J<|rN<|tS<|cD h J (fun h=>?_) (fun h=>?_)
   ·refine tK<|tS<|aa.block<|aM<|rM J J<|aF h fun G3 e1 h=>ae.qv (bJ J J J e1 J J) J<|ae.qv (bA J J J) J<|bX J J J J fun b30=>rA J J<|aB J J J J .p0 J J<|rN<|tS<|aM<|rF J J J<|rL J J .p0 J J<|rM J J<|ae.qv (ir J J) J<|rN<|cD h J (fun h=>?_) (fun h=>?_)
    ·exact aa.exit J<|have h:=cr h iQ;aa.stop<|ai.lq [1,1,1] ⟨Jq,Jr,Lt,Lu,nT,xm,eO,h,J⟩ J J
    ·refine tK<|aM<|rM J J<|ae.qv (ta J) J<|aF h fun Tu e2 h=>aF h fun v32 e3 h=>jc J (nj (fun e=>zo (Option.some.inj e)) e3) (.cons (oq.Qz (bp:=b1) (kb:=MU) (bs:=Jr) (M:=nT) Xe e2 (.inl .p2) .p1) (.cons (.Sx _ _ _ (.cons (.C4 _ _ _ .p0 (.cons (.co (.refl _)) (.cons (.co (.refl _)) (.cons (.co (.refl _)) (.cons (.co (.refl _)) (.cons (.co (.refl _)) (.cons (.co (.refl _)) .nil))))))) .nil)) .nil)) J J<|rA J J<|rN<|tS<|aM<|rM J J<|ae.qv (bH J J) J<|rN<|aa.cut (fun aG=>∃ (G8:Nat→Bk) (Ul:Nat→Nat→Bk) (sX:Bk) (Lq:List an) (o5:List Int) (n38:Int),lz eO n26 G3 Lq o5 n38=some z1∧aG=⟨58,[(1,I ah),(6,.sl 1 sX 0 o5.length),(7,.sl 2 Lu 0 eO.length),(8,I n26),(9,.ptr b30 0),(10,I n38),(12,iW ab),(13,I (ab.length:Int)),(14,I n26)],[(b1,.bU (gl MU G8 Ul Lq)),(sX,.arr 1 (o5.map (pA G8))),(Lu,TX eO),(b30,.cells (vA G3))]⟩) ?_ ?_
     ·refine cD h J (fun h=>?_) (fun h=>?_)
      ·exact aM<|rM J J<|ae.qv (cH J) J<|rA J J<|rN<|tR<|rM J J<|rF J J J<|rL J J .p0 J J<|rF J J J<|rL J J .p0 J J<|ae.qv (db J J J J J) J<|jU J J J J fun QQ=>ae.ghost<|ai.sj (j:=2) 6 (fun _=>.p0) J (fun _=>J) (fun _=>J) fun b40=>ai.here<|aF h fun u41 e4 h=>ae.ghost<|ai.Dr (kb:=MU) (v:=(⟨G3.Device,G3.a8,[],(0:Int),(⟨(0:Int),(0:Int)⟩:au)⟩:an)) (s:=Jh [b40]) (.cons .p1 (.cons .p0 .nil)) J (fun _ _=>.p1) fun Ow XH XI XJ=>ai.here<|ae.ghost<|ai.N0 (Lc XI e4) .p2<|ai.here<|ae.ghost<|ai.eqs (s:=36) (eW:=.ptr (Ow (nT.length:Int).toNat) 0) J (Az XJ _)<|ai.here<|ba (xs:=([(nT.length:Int)]).map (pA Ow)) J J J J J J<|aF h fun Fw e6 h=>dA (g:=(pA Ow)) J J J J J J J J (.list _) e6 (fun _=>.p2) J fun QS=>rA J J<|rN<|aa.stop<|ai.lq [1,1,1,0] ⟨Ow,XH,QS,nT++[(⟨G3.Device,G3.a8,[],(0:Int),(⟨(0:Int),(0:Int)⟩:au)⟩:an)],Fw,(xm.length:Int),h,J⟩ J J
      ·exact tK<|aa.stop<|ai.lq [1,1,1,0] ⟨Jq,Jr,Lt,nT,xm,v32,h,J⟩ J J
     ·rintro aG ⟨G8,Ul,sX,Lq,o5,n38,h,rfl⟩
      unfold lz at h
      refine tS<|aa.bL (id:=11) (A:=[0,0,3,7,0,31,63]) 5 mixed J (by kernel_rfl) (by kernel_rfl)<|AM.qv (aA J) J<|AM.qv (aA J) J<|aF h fun v46 e7 h=>AM.qv (aS J J J e7) J<|AM.qv (bl (g:=(pA G8)) J J (.inl .p1) e7 J) J<|AM.qv (bb J J .p3 J) J<|AM.nil<|aF h fun j9 e8 h=>ae.ghost<|ai.mU (kb:=MU) e8 .p0 J<|ai.here<|aF h fun bI e9 h=>ep J (AS e9) cR (.cons .p0 (.cons .p0 .nil)) (fun _=>J) J fun Xi=>rA J J<|ae.ghost<|ai.pg (kb:=MU) (v':=bI.2) (s:=Jh [Xi]) e8 (.cons .p0 (.cons .p0 .nil)) J (fun _=>.p0) fun G7=>ai.here<|rN<|aM<|rM J J<|ae.qv (jb J J) J<|rN<|aa.cut (fun aG=>∃ (R7:Bk) (R0:List cd),mY n26 Lq o5 v46 bI R0=some z1∧aG=⟨58,[(1,I ah),(6,.sl 1 sX 0 o5.length),(7,.sl 2 R7 0 R0.length),(12,iW ab),(13,I (ab.length:Int)),(14,I n26)],[(b1,.bU (gl MU G8 G7 (Lq.set v46.toNat bI.2))),(sX,.arr 1 (o5.map (pA G8))),(R7,TX R0)]⟩) ?_ ?_
      ·refine cD h J (fun h=>?_) (fun h=>?_)
       ·exact tR<|rM J J<|rM J J<|rM J J<|ae.qv (db J J J J J) J<|ba (xs:=([(⟨n26,bI.1⟩:cd)]).map cd.av) J J J J J J<|aF h fun GZ vP h=>dA (g:=cd.av) J J J J J J J J (.list _) vP (fun _=>.p2) J fun b54=>rA J J<|rN<|aa.stop<|ai.lq [0,0,0] ⟨b54,GZ,h,J⟩ J J
       ·exact tK<|aa.stop<|ai.lq [0,0,0] ⟨Lu,eO,h,J⟩ J J
      ·rintro aG ⟨R7,R0,h,rfl⟩
       unfold mY at h
       refine aa.bN<|tR<|ae.qv (aU J J) J<|rM J J<|rN<|aa.stop<|?_
       cases h
       exact mL _ _ J<|ai.lq [0,0,0] ⟨G8,G7,sX,R7,J⟩ J J
   ·exact aa.exit J<|have h:=cr h iQ;aa.stop<|ai.lq [0,0,0] ⟨Jq,Jr,Lt,Lu,nT,xm,eO,h,J⟩ J J
 ·rintro aG ⟨XG,bs6,b7,b9,l4,l8,l10,h,rfl⟩
  unfold jG at h
  refine aM<|rM J J<|aF h fun VB zk h=>bz J (yO nL Xe (fun e=>zp (GI:=mC) e) zk) cR (.cons .p1 (.cons .p0 .nil)) J J<|ae.ghost<|ai.eqs (s:=6) (eW:=.sl 1 b7 0 VB.length) J (congrArg (AV.sl 1 b7 0) (vw zk))<|ai.here<|ae.ghost<|ai.eqs (s:=54) (eW:=.sl 1 b7 0 VB.length) J (congrArg (AV.sl 1 b7 0) (vw zk))<|ai.here<|rN<|aM<|rM J J<|rM J J<|rA J J<|rA J J<|rN<|aa.ret<|aF h fun l56 Gp h=>?_
  cases h
  exact ai.Ld (s:=4) J (.cons .p0 (.cons .p0 .nil)) (oq.Qz Xe Gp (.inl .p0) .p1)<|ai.here ⟨_,.cons (.tmp _ _ J) (.cons (.tmp _ _ J) .nil),_,.cons .p0 .nil,⟨b9,J,J⟩⟩
theorem p9 [GI:bF] {ab:List aI} {r:(List aI)} (h:fF ab=some r):aJ Tryz.prog 134 [.list 1 (ab.map AV.str)] [] (T1 (fun mS=>[(mS,.arr 1 (r.map AV.str))]) (fun mS=>.sl 1 mS 0 r.length)):=by
 unfold fF at h
 refine aJ.fa ?_
 refine aJ.bD Tryz.func134 J Tryz.ntmps134 Tryz.results134 J J ?_
 refine aa.seq ?_
 refine aa.region ?_
 refine ae.qv (cU J) J ?_
 refine ae.nil ?_
 refine aa.seq ?_
 refine aa.seq ?_
 refine aa.region ?_
 refine ae.qv (aA J) J ?_
 refine Nz J J J J (fun c hc=>?_)
 refine ae.nil ?_
 refine aa.cond J (fun hT=>?_) (fun hF=>?_)
 ·obtain rfl:=Dj h (List.map_eq_nil_iff.1 (hc hT))
  refine aa.seq ?_
  refine aa.region ?_
  refine ae.qv (cU J) J ?_
  refine ae.nil ?_
  refine aa.ret ?_
  refine ai.arr (s:=2) 1 J (fun b1=>?_)
  exact ai.here ⟨_,.cons (.tmp _ _ J) .nil,_,.cons .here .nil,⟨b1,J,J⟩⟩
 ·refine aa.skip ?_
  refine aa.seq ?_
  refine aa.region ?_
  refine qt (xs:=([]:List aI).map AV.str) J J J J J J (fun b2=>?_)
  refine ae.qv (aA J) J ?_
  refine dA (g:=AV.str) (Xs:=[]) J J J J J J J J (.list _) h (fun _=>.here) J (fun b3=>?_)
  refine ae.qv (cU J) J ?_
  refine ae.nil ?_
  refine aa.ret ?_
  exact ai.here ⟨_,.cons (.tmp _ _ J) .nil,_,.cons .here .nil,⟨b3,J,J⟩⟩
theorem qE:HU Tryz.prog 135 (fun l=>Value.string ⟨l.toArray⟩) BH:=⟨fun bN off cap zs w hH hb hs=>Tryz.slices_Sort_string bN off cap zs w hH hb hs,fun p cap w=>Tryz.slices_Sort_string_none p cap w⟩
theorem qF [GI:bF] {aY:Bk} {ab:List aI} {r:(List aI)} (h:fZ ab=some r):aJ Tryz.prog 135 [.sl 1 aY 0 ab.length] [(aY,.arr 1 (ab.map AV.str))] (T0 [(aY,.arr 1 (r.map AV.str))] (.iV [])):=
 yL qE (g:=AV.str) (fun h=>h.ct) (fun w S x=>.str _) (fun _=>J) (fun xs=>List.length_mergeSort _) (fun _=>J) h
theorem o8 [GI:bF] {aY:Bk} {ab:List aI} {r:(List aI)} (h:ff ab=some r):aJ Tryz.prog 136 [.sl 1 aY 0 ab.length] [(aY,uM ab)] (T1 (fun mS=>[(mS,uM r)]) (fun mS=>.sl 1 mS 0 r.length)):=by
 unfold ff at h
 refine aJ.fa ?_
 refine aJ.bD Tryz.func136 J Tryz.ntmps136 Tryz.results136 J J ?_
 refine aM<|rA J J<|rN<|tS<|aM<|rM J J<|ae.qv (cH J) J<|ae.qv (bH J J) J<|rN<|cD h J (fun h=>?_) (fun h=>?_)
 ·refine aM<|rM J J<|rA J J<|rN<|aa.ret<|?_
  cases h
  exact hH J [0] J ⟨aY,J,J⟩
 ·refine tK<|tS<|aM<|rA J J<|rN<|aa.block<|aa.cj (fun x:Int=>dY ab x) (fun x aG=>aG=⟨61,[(0,.sl 1 aY 0 ab.length),(3,I x)],[(aY,uM ab)]⟩) h ?_ ?_
  ·exact ai.lq [0] J J J
  ·intro n2 z1 aG J1 eZ h mL iQ
   obtain rfl:=eZ
   replace h:dY ab n2=some z1:=h
   unfold dY at h
   refine tS<|aM<|rM J J<|rM J J<|ae.qv (cH J) J<|ae.qv (bH J J) J<|rN<|cD h J (fun h=>?_) (fun h=>?_)
   ·refine tK<|tS<|aa.block<|tS<|aa.bL (id:=6) (A:=[0,0,3,7,0,0,32,112,240,511]) 10 mixed J (by kernel_rfl) (by kernel_rfl)<|AM.qv (aA J) J<|AM.qv (aA J) J<|aF h fun v3 e1 h=>AM.qv (aS J J J e1) J<|AM.qv (bl (g:=AV.str) J J (.inl .p0) e1 J) J<|AM.qv (aA J) J<|AM.qv (aA J) J<|AM.qv (bR J J) J<|aF h fun v4 e2 h=>AM.qv (aS J J J e2) J<|AM.qv (bl (g:=AV.str) J J (.inl .p0) e2 J) J<|AM.qv (qg J J) J<|AM.nil<|rN<|cD h J (fun h=>?_) (fun h=>?_)
    ·refine aM<|rM J J<|rM J J<|aF h fun l5 e3 h=>ae.qv (kK J J (.some _ _ _ J) .none J J e3) J<|rA J J<|rN<|tS<|aM<|rA J J<|rN<|aa.block<|aa.cj (fun x:(List aI)×Int×Int=>dX n2 l5 x.1 x.2.1 x.2.2) (fun x aG=>aG=⟨61,[(0,.sl 1 aY 0 x.1.length),(3,I x.2.1),(4,.sl 1 aY n2.toNat l5.length),(5,I x.2.2)],[(aY,uM x.1)]⟩) h ?_ ?_
     ·exact ai.lq [0] J J J
     ·intro x z2 aG J2 eZ h Fy Fz
      obtain ⟨l9,n10,n11⟩:=x
      obtain rfl:=eZ
      replace h:dX n2 l5 l9 n10 n11=some z2:=h
      unfold dX at h
      refine tS<|aM<|rM J J<|rM J J<|ae.qv (x9 J) J<|ae.qv (bH J J) J<|rN<|cD h J (fun h=>?_) (fun h=>?_)
      ·refine tK<|tS<|aa.block<|tS<|aa.bL (id:=11) (A:=[0,0,3,7,0,0,32,112,240,511]) 10 mixed J (by kernel_rfl) (by kernel_rfl)<|AM.qv (aA J) J<|AM.qv (aA J) J<|aF h fun v12 e4 h=>AM.qv (jd (L:=n2) J J J e4) J<|AM.qv (bl (g:=AV.str) J J (.inl .p0) (lx e4).2 J) J<|AM.qv (aA J) J<|AM.qv (aA J) J<|AM.qv (bR J J) J<|aF h fun oN e5 h=>AM.qv (jd (L:=n2) J J J e5) J<|AM.qv (bl (g:=AV.str) J J (.inl .p0) (lx e5).2 J) J<|AM.qv (vY J J) J<|AM.nil<|rN<|aa.cut (fun aG=>∃ (oh:List aI) (n15:Int),dW n11 oh n15=some z2∧aG=⟨61,[(0,.sl 1 aY 0 oh.length),(3,I n15),(4,.sl 1 aY n2.toNat l5.length),(5,I n11)],[(aY,uM oh)]⟩) ?_ ?_
       ·refine cD h J (fun h=>?_) (fun h=>?_)
        ·exact aM<|rM J J<|rM J J<|rM J J<|rM J J<|aF h fun og e6 h=>ae.qv (jd (L:=n2) J J J e6) J<|ae.qv (bl (g:=AV.str) J J (.inl .p0) (lx e6).2 J) J<|aF h fun v17 e7 h=>ae.qv (aS J J J e7) J<|bQ (g:=AV.str) (xV:=og) J J J J e7 J .p0 J<|ae.ghost<|ai.eqs (s:=0) (eW:=.sl 1 aY 0 (l9.set n10.toNat og).length) J (by rw [List.length_set])<|ai.here<|ae.ghost<|ai.eqs (s:=45) (eW:=.sl 1 aY 0 (l9.set n10.toNat og).length) J (by rw [List.length_set])<|ai.here<|rN<|tR<|rM J J<|ae.qv (aU J J) J<|rA J J<|rN<|aa.stop<|ai.lq [0] ⟨l9.set n10.toNat og,aT (n10+(1:Int)),h,J⟩ J J
        ·exact tK<|aa.stop<|ai.lq [0] ⟨l9,n10,h,J⟩ J J
       ·rintro aG ⟨oh,n15,h,rfl⟩
        unfold dW at h
        refine aa.bN<|tR<|rM J J<|ae.qv (aU J J) J<|rA J J<|rN<|aa.stop<|?_
        cases h
        exact Fy _ _ J<|ai.lq [0] J J J
      ·refine aa.exit J<|have h:=cr h Fz;?_
       unfold jK at h
       refine aM<|rM J J<|rM J J<|aF h fun ue e8 h=>ae.qv (kK J J (.some _ _ _ J) .none J J e8) J<|Dk (g:=AV.str) (Z:=[]) (L:=n10) J J J J J J e8 .p0<|ae.ghost<|ai.eqs (s:=0) (eW:=.sl 1 aY 0 (Cf l9 n10 ue.length []).length) J (congrArg (AV.sl 1 aY 0) (vm e8))<|ai.here<|ae.ghost<|ai.eqs (s:=54) (eW:=.sl 1 aY 0 (Cf l9 n10 ue.length []).length) J (congrArg (AV.sl 1 aY 0) (vm e8))<|ai.here<|rN<|aM<|rM J J<|rM J J<|aF h fun nT e9 h=>ae.qv (kK J J .none (.some _ _ _ J) J J e9) J<|rA J J<|ae.ghost<|ai.KT e9 .p0<|ai.here<|rN<|aa.ret<|have h:=cr h iQ;?_
       cases h
       exact hH J [0] J ⟨aY,J,J⟩
    ·refine tK<|aa.bN<|tR<|rM J J<|ae.qv (aU J J) J<|rA J J<|rN<|aa.stop<|?_
     cases h
     exact mL _ _ J<|ai.lq [0] J J J
   ·refine aa.exit J<|have h:=cr h iQ;aM<|rM J J<|rA J J<|rN<|aa.ret<|?_
    cases h
    exact hH J [0] J ⟨aY,J,J⟩
theorem LF [GI:bF] {ab:List aI} {r:(List aI)} (h:AF ab=some r):aJ Tryz.prog 60 [JY ab] [] (T1 (fun mS=>[(mS,uM r)]) (fun mS=>.sl 1 mS 0 r.length)):=by
 unfold AF at h
 refine aJ.fa ?_
 refine aJ.bD Tryz.func60 J Tryz.ntmps60 Tryz.results60 J J ?_
 refine aM<|rA J J<|rN<|aM<|rM J J<|aF h fun v1 e1 h=>ep J (p9 e1) cR .nil (fun _=>J) J fun b2=>rA J J<|rN<|aM<|rM J J<|aF h fun v3 e2 h=>bz J (qF (kL e2)) cR (.cons .p0 .nil) J J<|ae.ghost<|ai.eqs (s:=0) (eW:=.sl 1 b2 0 v3.length) J (congrArg (AV.sl 1 b2 0) (cP e2))<|ai.here<|ae.ghost<|ai.eqs (s:=4) (eW:=.sl 1 b2 0 v3.length) J (congrArg (AV.sl 1 b2 0) (cP e2))<|ai.here<|ae.ghost<|ai.eqs (s:=5) (eW:=.sl 1 b2 0 v3.length) J (congrArg (AV.sl 1 b2 0) (cP e2))<|ai.here<|rN<|aM<|rM J J<|aF h fun v4 e3 h=>ep J (o8 e3) cR (.cons .p0 .nil) (fun _=>J) J fun b5=>rA J J<|rN<|aa.ret<|?_
 cases h
 exact hH J [0] J ⟨b5,J,J⟩
theorem LG [GI:bF] {ab:fb} {r:Bool} (h:yg ab=r):Pu Tryz.prog 138 [fb.av ab] (.bool r):=by
 unfold yg at h
 refine aJ.bD Tryz.func138 J Tryz.ntmps138 Tryz.results138 J J ?_
 refine aM<|jU J J J J fun b1=>rA J J<|rN<|tS<|aa.cut (fun aG=>∃ (c2:Bool),vz c2=r∧aG=⟨11,[(2,.bool c2)],[]⟩) ?_ ?_
 ·refine tR<|rF J J J<|rL J J .p0 J J<|ae.qv (bY J J) J<|rM J J<|ae.gg J J J (fun hc=>?_) (fun hc=>?_)
  ·rw [BE hc] at h
   exact rF J J J<|rY J J J<|rL J J .p0 J J<|rY J J J<|ae.qv (bY J J) J<|rE J J J<|rA J J<|rN<|aa.stop<|ai.lq [] ⟨decide (ab.State=(2:Int)),h,J⟩ J J
  ·rw [BD hc] at h
   exact rG J J J J<|rG J J J J<|rT J J J<|rA J J<|rN<|aa.stop<|ai.lq [] ⟨true,h,J⟩ J J
 ·rintro aG ⟨c2,h,rfl⟩
  unfold vz at h
  refine aa.ret<|?_
  obtain rfl:=h
  exact hP J J
theorem uf:HU Tryz.prog 214 (Value.int .i64) Al:=⟨fun bN off cap zs w hH hb hs=>Tryz.slices_Sort_int bN off cap zs w hH hb hs,fun p cap w=>Tryz.slices_Sort_int_none p cap w⟩
theorem ug [GI:bF] {aY:Bk} {ab:List Int} {r:(List Int)} (h:mR ab=some r):aJ Tryz.prog 214 [.sl 1 aY 0 ab.length] [(aY,.arr 1 (ab.map I))] (T0 [(aY,.arr 1 (r.map I))] (.iV [])):=
 EY uf h
theorem sr [GI:bF] {aY:Bk} {ab:List Int} {r:(List Int)} (h:im ab=some r):aJ Tryz.prog 215 [.sl 1 aY 0 ab.length] [(aY,gB ab)] (T1 (fun mS=>[(mS,gB r)]) (fun mS=>.sl 1 mS 0 r.length)):=by
 unfold im at h
 refine aJ.fa ?_
 refine aJ.bD Tryz.func215 J Tryz.ntmps215 Tryz.results215 J J ?_
 refine aM<|rA J J<|rN<|tS<|aM<|rM J J<|ae.qv (cH J) J<|ae.qv (bH J J) J<|rN<|cD h J (fun h=>?_) (fun h=>?_)
 ·refine aM<|rM J J<|rA J J<|rN<|aa.ret<|?_
  cases h
  exact hH J [0] J ⟨aY,J,J⟩
 ·refine tK<|tS<|aM<|rA J J<|rN<|aa.block<|aa.cj (fun x:Int=>gd ab x) (fun x aG=>aG=⟨61,[(0,.sl 1 aY 0 ab.length),(3,I x)],[(aY,gB ab)]⟩) h ?_ ?_
  ·exact ai.lq [0] J J J
  ·intro n2 z1 aG J1 eZ h mL iQ
   obtain rfl:=eZ
   replace h:gd ab n2=some z1:=h
   unfold gd at h
   refine tS<|aM<|rM J J<|rM J J<|ae.qv (cH J) J<|ae.qv (bH J J) J<|rN<|cD h J (fun h=>?_) (fun h=>?_)
   ·refine tK<|tS<|aa.block<|tS<|aa.bL (id:=6) (A:=[0,0,3,7,0,0,32,112,240,511]) 10 mixed J (by kernel_rfl) (by kernel_rfl)<|AM.qv (aA J) J<|AM.qv (aA J) J<|aF h fun v3 e1 h=>AM.qv (aS J J J e1) J<|AM.qv (bl (g:=I) J J (.inl .p0) e1 J) J<|AM.qv (aA J) J<|AM.qv (aA J) J<|AM.qv (bR J J) J<|aF h fun v4 e2 h=>AM.qv (aS J J J e2) J<|AM.qv (bl (g:=I) J J (.inl .p0) e2 J) J<|AM.qv (bY J J) J<|AM.nil<|rN<|cD h J (fun h=>?_) (fun h=>?_)
    ·refine aM<|rM J J<|rM J J<|aF h fun l5 e3 h=>ae.qv (kK J J (.some _ _ _ J) .none J J e3) J<|rA J J<|rN<|tS<|aM<|rA J J<|rN<|aa.block<|aa.cj (fun x:(List Int)×Int×Int=>gb n2 l5 x.1 x.2.1 x.2.2) (fun x aG=>aG=⟨61,[(0,.sl 1 aY 0 x.1.length),(3,I x.2.1),(4,.sl 1 aY n2.toNat l5.length),(5,I x.2.2)],[(aY,gB x.1)]⟩) h ?_ ?_
     ·exact ai.lq [0] J J J
     ·intro x z2 aG J2 eZ h Fy Fz
      obtain ⟨l9,n10,n11⟩:=x
      obtain rfl:=eZ
      replace h:gb n2 l5 l9 n10 n11=some z2:=h
      unfold gb at h
      refine tS<|aM<|rM J J<|rM J J<|ae.qv (x9 J) J<|ae.qv (bH J J) J<|rN<|cD h J (fun h=>?_) (fun h=>?_)
      ·refine tK<|tS<|aa.block<|tS<|aa.bL (id:=11) (A:=[0,0,3,7,0,0,32,112,240,511]) 10 mixed J (by kernel_rfl) (by kernel_rfl)<|AM.qv (aA J) J<|AM.qv (aA J) J<|aF h fun v12 e4 h=>AM.qv (jd (L:=n2) J J J e4) J<|AM.qv (bl (g:=I) J J (.inl .p0) (lx e4).2 J) J<|AM.qv (aA J) J<|AM.qv (aA J) J<|AM.qv (bR J J) J<|aF h fun oN e5 h=>AM.qv (jd (L:=n2) J J J e5) J<|AM.qv (bl (g:=I) J J (.inl .p0) (lx e5).2 J) J<|AM.qv (jb J J) J<|AM.nil<|rN<|aa.cut (fun aG=>∃ (oh:List Int) (n15:Int),ga n11 oh n15=some z2∧aG=⟨61,[(0,.sl 1 aY 0 oh.length),(3,I n15),(4,.sl 1 aY n2.toNat l5.length),(5,I n11)],[(aY,gB oh)]⟩) ?_ ?_
       ·refine cD h J (fun h=>?_) (fun h=>?_)
        ·exact aM<|rM J J<|rM J J<|rM J J<|rM J J<|aF h fun og e6 h=>ae.qv (jd (L:=n2) J J J e6) J<|ae.qv (bl (g:=I) J J (.inl .p0) (lx e6).2 J) J<|aF h fun v17 e7 h=>ae.qv (aS J J J e7) J<|bQ (g:=I) (xV:=og) J J J J e7 J .p0 J<|ae.ghost<|ai.eqs (s:=0) (eW:=.sl 1 aY 0 (l9.set n10.toNat og).length) J (by rw [List.length_set])<|ai.here<|ae.ghost<|ai.eqs (s:=45) (eW:=.sl 1 aY 0 (l9.set n10.toNat og).length) J (by rw [List.length_set])<|ai.here<|rN<|tR<|rM J J<|ae.qv (aU J J) J<|rA J J<|rN<|aa.stop<|ai.lq [0] ⟨l9.set n10.toNat og,aT (n10+(1:Int)),h,J⟩ J J
        ·exact tK<|aa.stop<|ai.lq [0] ⟨l9,n10,h,J⟩ J J
       ·rintro aG ⟨oh,n15,h,rfl⟩
        unfold ga at h
        refine aa.bN<|tR<|rM J J<|ae.qv (aU J J) J<|rA J J<|rN<|aa.stop<|?_
        cases h
        exact Fy _ _ J<|ai.lq [0] J J J
      ·refine aa.exit J<|have h:=cr h Fz;?_
       unfold mN at h
       refine aM<|rM J J<|rM J J<|aF h fun ue e8 h=>ae.qv (kK J J (.some _ _ _ J) .none J J e8) J<|Dk (g:=I) (Z:=(0:Int)) (L:=n10) J J J J J J e8 .p0<|ae.ghost<|ai.eqs (s:=0) (eW:=.sl 1 aY 0 (Cf l9 n10 ue.length (0:Int)).length) J (congrArg (AV.sl 1 aY 0) (vm e8))<|ai.here<|ae.ghost<|ai.eqs (s:=54) (eW:=.sl 1 aY 0 (Cf l9 n10 ue.length (0:Int)).length) J (congrArg (AV.sl 1 aY 0) (vm e8))<|ai.here<|rN<|aM<|rM J J<|rM J J<|aF h fun nT e9 h=>ae.qv (kK J J .none (.some _ _ _ J) J J e9) J<|rA J J<|ae.ghost<|ai.KT e9 .p0<|ai.here<|rN<|aa.ret<|have h:=cr h iQ;?_
       cases h
       exact hH J [0] J ⟨aY,J,J⟩
    ·refine tK<|aa.bN<|tR<|rM J J<|ae.qv (aU J J) J<|rA J J<|rN<|aa.stop<|?_
     cases h
     exact mL _ _ J<|ai.lq [0] J J J
   ·refine aa.exit J<|have h:=cr h iQ;aM<|rM J J<|rA J J<|rN<|aa.ret<|?_
    cases h
    exact hH J [0] J ⟨aY,J,J⟩
theorem xz [GI:bF] {ab:List Signal} {r:(List Int)} (h:k8 ab=some r):aJ Tryz.prog 198 [iW ab] [] (T1 (fun mS=>[(mS,gB r)]) (fun mS=>.sl 1 mS 0 r.length)):=by
 unfold k8 at h
 refine aJ.fa ?_
 refine aJ.bD Tryz.func198 J Tryz.ntmps198 Tryz.results198 J J ?_
 refine aM<|rA J J<|rN<|aM<|qt J J J J J J fun b1=>rA J J<|rN<|tS<|aM<|rM J J<|ae.qv (dz J) J<|rM J J<|rN<|aa.block<|aa.cj (fun x:(List Int)×Int=>dc ab x.1 x.2) (fun x aG=>∃ (b5:Bk),aG=⟨31,[(3,.sl 1 b5 0 x.1.length),(7,iW ab),(8,I (ab.length:Int)),(9,I x.2)],[(b5,gB x.1)]⟩) h ?_ ?_
 ·exact ai.lq [0] ⟨b1,J⟩ J J
 ·intro x z1 aG J1 eZ h mL iQ
  obtain ⟨l6,n7⟩:=x
  obtain ⟨b5,rfl⟩:=eZ
  replace h:dc ab l6 n7=some z1:=h
  unfold dc at h
  refine aM<|ae.qv (bH J J) J<|rN<|tS<|cD h J (fun h=>?_) (fun h=>?_)
  ·refine tK<|tS<|aa.block<|aM<|aF h fun v8 e1 h=>ae.qv (bJ J J J e1 J J) J<|ae.qv (bA J J J) J<|bX J J J J fun b9=>aB J J J J .p0 J J<|rN<|aM<|rM J J<|rF J J J<|rL J J .p0 J J<|ba (xs:=([v8.At]:List Int).map I) J J J J J J<|aF h fun l10 e2 h=>dA (g:=I) J J J J J J J J (.list _) e2 (fun _=>.p1) J fun QT=>rA J J<|rN<|aM<|rF J J J<|rL J J .p0 J J<|ae.qv (bY J J) J<|rN<|aa.cut (fun aG=>∃ (xx:Bk) (sn:List Int),iL n7 sn=some z1∧aG=⟨31,[(3,.sl 1 xx 0 sn.length),(7,iW ab),(8,I (ab.length:Int)),(9,I n7)],[(xx,gB sn)]⟩) ?_ ?_
   ·refine cD h J (fun h=>?_) (fun h=>?_)
    ·exact tR<|rM J J<|rF J J J<|rL J J .p0 J J<|ba (xs:=([v8.aV]:List Int).map I) J J J J J J<|aF h fun oh e3 h=>dA (g:=I) J J J J J J J J (.list _) e3 (fun _=>.p1) J fun Pt=>rA J J<|rN<|aa.stop<|ai.lq [1] ⟨Pt,oh,h,J⟩ J J
    ·exact tK<|aa.stop<|ai.lq [1] ⟨QT,l10,h,J⟩ J J
   ·rintro aG ⟨xx,sn,h,rfl⟩
    unfold iL at h
    refine aa.bN<|tR<|ae.qv (aU J J) J<|rM J J<|rN<|aa.stop<|?_
    cases h
    exact mL _ _ J<|ai.lq [0] ⟨xx,J⟩ J J
  ·refine aa.exit J<|have h:=cr h iQ;?_
   unfold iM at h
   refine aM<|rM J J<|aF h fun og e4 h=>bz J (ug (kL e4)) cR (.cons .p0 .nil) J J<|ae.ghost<|ai.eqs (s:=3) (eW:=.sl 1 b5 0 og.length) J (congrArg (AV.sl 1 b5 0) (cP e4))<|ai.here<|ae.ghost<|ai.eqs (s:=27) (eW:=.sl 1 b5 0 og.length) J (congrArg (AV.sl 1 b5 0) (cP e4))<|ai.here<|rN<|aM<|rM J J<|aF h fun v17 e5 h=>ep J (sr e5) cR (.cons .p0 .nil) (fun _=>J) J fun we=>rA J J<|rN<|aa.ret<|?_
   cases h
   exact hH J [0] J ⟨we,J,J⟩
theorem zq [GI:bF] {ab:an} {ah:Int} {r:fb} (h:mZ ab ah=some r):Pu Tryz.prog 262 [.eo [.str ab.aK,.str ab.aN,iW ab.bq,I ab.az,I ab.ay.bg,I ab.ay.To],I ah] (fb.av r):=by
 unfold mZ at h
 refine aJ.bD Tryz.func262 J Tryz.ntmps262 Tryz.results262 J J ?_
 refine aM<|bX J J J J fun b1=>rN<|tS<|aa.iS (id:=1) (A:=[0,1,3,7,0,16,48,112,0,256,768,1792,4095,0,16383]) (H0:=[]) (HH:=fun β=>[((β 13),.cells [.str [],.str [],I (0:Int),I (0:Int),I (0:Int),I (0:Int)]),(b1,.cells [.str [],.str [],I (0:Int),I (0:Int),I (0:Int),I (0:Int)])]) 14 mixed J (by kernel_rfl) (by kernel_rfl) [⟨some 13,none,[],fun b=>(b,.cells [.str [],.str [],I (0:Int),I (0:Int),I (0:Int),I (0:Int)]),none,[]⟩] [13] J (by kernel_rfl) J .nil (fun _=>J)<|AT.am 13 J J<|AM.qv (aA J) J<|AM.qv (aP J) J<|AM.qv (aQ J J) J<|AM.qv (aH J J J) J<|AM.qv (aA J) J<|AM.qv (aP J) J<|AM.qv (aQ J J) J<|AM.qv (aH J J J) J<|AM.qv (aA J) J<|AM.qv (aP J) J<|AM.qv (aQ J J) J<|AM.qv (aH J J J) J<|AM.qv (db J J J J J) J<|AM.nil<|AT.BF (V:=fun b=>.ptr b 0) (Ti:=[]) (Pi:=fun b=>[(b,.cells [.str [],.str [],I (0:Int),I (0:Int),I (0:Int),I (0:Int)])]) (fun _=>J) (fun _=>J) (fun _ _=>J) J (fun _=>J) J J J ?_ ?_
 ·exact bX J J J J fun b2=>ae.nil ⟨b2,_,J,J⟩
 refine AT.ub (fun _=>J) fun β=>?_
 generalize β 13=b2
 clear β
 refine aB J J J J .p0 J J<|rN<|tS<|aM<|rM J J<|ae.qv (aP J) J<|ae.qv (aQ J J) J<|ae.qv (aH J J J) J<|ae.qv (dz J) J<|rM J J<|rN<|aa.block<|aa.cj (fun x:Int×Int×Int=>ey ab ah x.1 x.2.1 x.2.2) (fun x aG=>aG=⟨67,[(0,.eo [.str ab.aK,.str ab.aN,iW ab.bq,I ab.az,I ab.ay.bg,I ab.ay.To]),(1,I ah),(4,.ptr b1 0),(5,.ptr b2 0),(24,iW ab.bq),(25,I (ab.bq.length:Int)),(26,I x.2.2)],[(b1,.cells [.str [],.str [],I (0:Int),I (0:Int),I (0:Int),I (0:Int)]),(b2,.cells [.str ab.aK,.str ab.aN,I ab.az,I x.1,I x.2.1,I (0:Int)])]⟩) h ?_ ?_
 ·exact ai.lq [1,0] J J J
 ·intro x z1 aG J1 eZ h mL iQ
  obtain ⟨n6,n7,n8⟩:=x
  obtain rfl:=eZ
  replace h:ey ab ah n6 n7 n8=some z1:=h
  unfold ey at h
  refine aM<|ae.qv (bH J J) J<|rN<|tS<|cD h J (fun h=>?_) (fun h=>?_)
  ·refine tK<|tS<|aa.block<|aM<|aF h fun v9 e1 h=>ae.qv (bJ J J J e1 J J) J<|ae.qv (bA J J J) J<|bX J J J J fun nh=>aB J J J J .p0 J J<|rN<|tS<|aM<|rF J J J<|rL J J .p0 J J<|ae.qv (rS J J) J<|rN<|aa.cut (fun aG=>∃ (n11:Int),kh n7 n8 v9 n11=some z1∧aG=⟨67,[(0,.eo [.str ab.aK,.str ab.aN,iW ab.bq,I ab.az,I ab.ay.bg,I ab.ay.To]),(1,I ah),(4,.ptr b1 0),(5,.ptr b2 0),(7,.ptr nh 0),(24,iW ab.bq),(25,I (ab.bq.length:Int)),(26,I n8)],[(b1,.cells [.str [],.str [],I (0:Int),I (0:Int),I (0:Int),I (0:Int)]),(b2,.cells [.str ab.aK,.str ab.aN,I ab.az,I n11,I n7,I (0:Int)]),(nh,.cells (vA v9))]⟩) ?_ ?_
   ·refine cD h J (fun h=>?_) (fun h=>?_)
    ·exact tR<|rF J J J<|rL J J .p0 J J<|rF J J J<|aB J J J J .p2 J J<|rN<|aa.stop<|ai.lq [1,1,0] ⟨v9.At,h,J⟩ J J
    ·exact tK<|aa.stop<|ai.lq [1,1,0] ⟨n6,h,J⟩ J J
   ·rintro aG ⟨n11,h,rfl⟩
    unfold kh at h
    refine aM<|rF J J J<|rL J J .p2 J J<|ae.qv (bY J J) J<|rN<|aa.cut (fun aG=>∃ (n12:Int),kf n8 n11 n12=some z1∧aG=⟨67,[(0,.eo [.str ab.aK,.str ab.aN,iW ab.bq,I ab.az,I ab.ay.bg,I ab.ay.To]),(1,I ah),(4,.ptr b1 0),(5,.ptr b2 0),(24,iW ab.bq),(25,I (ab.bq.length:Int)),(26,I n8)],[(b1,.cells [.str [],.str [],I (0:Int),I (0:Int),I (0:Int),I (0:Int)]),(b2,.cells [.str ab.aK,.str ab.aN,I ab.az,I n11,I n12,I (0:Int)])]⟩) ?_ ?_
    ·refine cD h J (fun h=>?_) (fun h=>?_)
     ·exact tR<|rF J J J<|rL J J .p1 J J<|ae.qv (aU J J) J<|rF J J J<|aB J J J J .p1 J J<|rN<|aa.stop<|ai.lq [0,0] ⟨aT (n7+(1:Int)),h,J⟩ J J
     ·exact tK<|aa.stop<|ai.lq [0,0] ⟨n7,h,J⟩ J J
    ·rintro aG ⟨n12,h,rfl⟩
     unfold kf at h
     refine aa.bN<|tR<|ae.qv (aU J J) J<|rM J J<|rN<|aa.stop<|?_
     cases h
     exact mL _ _ J<|ai.lq [0,0] J J J
  ·refine aa.exit J<|have h:=cr h iQ;tS<|tS<|aa.cut (fun aG=>∃ (Ll:Bool),kj ab n6 n7 Ll=some r∧aG=⟨67,[(0,.eo [.str ab.aK,.str ab.aN,iW ab.bq,I ab.az,I ab.ay.bg,I ab.ay.To]),(4,.ptr b1 0),(5,.ptr b2 0),(59,.bool Ll)],[(b1,.cells [.str [],.str [],I (0:Int),I (0:Int),I (0:Int),I (0:Int)]),(b2,.cells [.str ab.aK,.str ab.aN,I ab.az,I n6,I n7,I (0:Int)])]⟩) ?_ ?_
   ·refine tR<|rM J J<|ae.qv (aP J) J<|ae.qv (aQ J J) J<|ae.qv (aQ J J) J<|ae.qv (aH J J J) J<|rM J J<|ae.qv (rS J J) J<|rM J J<|ae.bW J J J (fun hc=>?_) (fun hc=>?_)
    ·rw [lM hc] at h
     exact rM J J<|rY J J J<|rM J J<|rY J J J<|ae.qv (aP J) J<|rY J J J<|ae.qv (aQ J J) J<|rY J J J<|ae.qv (aQ J J) J<|rY J J J<|ae.qv (aH J J J) J<|rY J J J<|ae.qv (bH J J) J<|rT J J J<|rN<|aa.stop<|ai.lq [0,0] ⟨decide (ah < ab.ay.To),h,J⟩ J J
    ·rw [lN hc] at h
     exact rG J J J J<|rG J J J J<|rG J J J J<|rG J J J J<|rG J J J J<|rG J J J J<|rE J J J<|rN<|aa.stop<|ai.lq [0,0] ⟨false,h,J⟩ J J
   ·rintro aG ⟨Ll,h,rfl⟩
    unfold kj at h
    refine aa.cut (fun aG=>∃ (n14:Int),ki ab n6 n7 n14=some r∧aG=⟨67,[(4,.ptr b1 0),(5,.ptr b2 0)],[(b1,.cells [.str [],.str [],I (0:Int),I (0:Int),I (0:Int),I (0:Int)]),(b2,.cells [.str ab.aK,.str ab.aN,I ab.az,I n6,I n7,I n14])]⟩) ?_ ?_
    ·refine cB h J (fun h=>?_) (fun h=>?_)
     ·exact tR<|rM J J<|ae.qv (aP J) J<|ae.qv (aQ J J) J<|ae.qv (aQ J J) J<|ae.qv (aH J J J) J<|rF J J J<|aB J J J J .p1 J J<|rN<|aa.stop<|ai.lq [0,0] ⟨ab.ay.To,h,J⟩ J J
     ·exact tK<|aa.stop<|ai.lq [0,0] ⟨(0:Int),h,J⟩ J J
    ·rintro aG ⟨n14,h,rfl⟩
     unfold ki at h
     refine aM<|ae.qv (bb J J .p1 J) J<|aB J J J J .p0 J J<|rN<|aa.ret<|?_
     cases h
     exact ai.here ⟨_,.cons (.all _ _ _ _ _ _ J .p0 aE.h aX.h J J) .nil,J⟩
theorem FE [GI:bF] {ab:List Signal} {ah:aI} {aO:aI} {bE:Int} {r:fb} (h:sI ab ah aO bE=some r):Pu Tryz.prog 199 [iW ab,.str ah,.str aO,I bE] (fb.av r):=by
 unfold sI at h
 refine aJ.bD Tryz.func199 J Tryz.ntmps199 Tryz.results199 J J ?_
 refine aM<|bX J J J J fun b1=>rN<|aM<|rM J J<|rM J J<|aF h fun v2 e1 h=>ep J (xy e1) cR .nil (fun _=>J) J fun b3=>rM J J<|rX J J J<|rX J J J<|rA J J<|rA J J<|rN<|tS<|aM<|rM J J<|ae.qv (dz J) J<|rM J J<|rN<|aa.block<|aa.cj (fun x:Int=>kR ah aO bE v2 x) (fun x aG=>aG=⟨46,[(1,.str ah),(2,.str aO),(3,I bE),(8,.ptr b1 0),(19,zj v2.1),(20,I (v2.1.length:Int)),(21,I x)],[(b1,.cells [.str [],.str [],I (0:Int),I (0:Int),I (0:Int),I (0:Int)])]⟩) h ?_ ?_
 ·exact ai.lq [1] J J J
 ·intro n5 z1 aG J1 eZ h mL iQ
  obtain rfl:=eZ
  replace h:kR ah aO bE v2 n5=some z1:=h
  unfold kR at h
  refine aM<|ae.qv (bH J J) J<|rN<|tS<|cD h J (fun h=>?_) (fun h=>?_)
  ·refine tK<|tS<|aa.block<|aM<|aF h fun v6 e2 h=>ae.qv (bJ J J J e2 J J) J<|ae.qv (aH J J J) J<|rA J J<|rN<|tS<|aa.cut (fun aG=>∃ (c7:Bool),qA bE n5 v6 c7=some z1∧aG=⟨46,[(1,.str ah),(2,.str aO),(3,I bE),(8,.ptr b1 0),(12,.eo [.str v6.aK,.str v6.aN,iW v6.bq,I v6.az,I v6.ay.bg,I v6.ay.To]),(19,zj v2.1),(20,I (v2.1.length:Int)),(21,I n5),(38,.bool c7)],[(b1,.cells [.str [],.str [],I (0:Int),I (0:Int),I (0:Int),I (0:Int)])]⟩) ?_ ?_
   ·refine tR<|rM J J<|ae.qv (aP J) J<|ae.qv (aQ J J) J<|ae.qv (aH J J J) J<|rM J J<|ae.qv (qg J J) J<|rM J J<|ae.bW J J J (fun hc=>?_) (fun hc=>?_)
    ·rw [lM hc] at h
     exact rM J J<|rY J J J<|ae.qv (aP J) J<|rY J J J<|ae.qv (aQ J J) J<|rY J J J<|ae.qv (aH J J J) J<|rY J J J<|rM J J<|rY J J J<|ae.qv (qg J J) J<|rT J J J<|rN<|aa.stop<|ai.lq [0] ⟨decide (v6.aN=aO),h,J⟩ J J
    ·rw [lN hc] at h
     exact rG J J J J<|rG J J J J<|rG J J J J<|rG J J J J<|rG J J J J<|rE J J J<|rN<|aa.stop<|ai.lq [0] ⟨false,h,J⟩ J J
   ·rintro aG ⟨c7,h,rfl⟩
    unfold qA at h
    refine cB h J (fun h=>?_) (fun h=>?_)
    ·refine aM<|rM J J<|rM J J<|aF h fun v8 e3 h=>bw J (zq e3) cR J<|aB J J J J .p0 J J<|rN<|aa.ret<|have h:=cr h iQ;?_
     cases h
     exact ai.here ⟨_,.cons (.all _ _ _ _ _ _ J .p0 aE.h aX.h J J) .nil,J⟩
    ·refine tK<|aa.bN<|tR<|ae.qv (aU J J) J<|rM J J<|rN<|aa.stop<|?_
     cases h
     exact mL _ _ J<|ai.lq [0] J J J
  ·refine aa.exit J<|have h:=cr h iQ;aM<|rM J J<|rM J J<|ae.qv (db J J J J J) J<|aB J J J J .p0 J J<|rN<|aa.ret<|?_
   cases h
   exact ai.here ⟨_,.cons (.all _ _ _ _ _ _ J .p0 aE.h aX.h J J) .nil,J⟩
theorem FF [GI:bF] {ab:List Signal} {ah:aI} {aO:aI} {mA:fb→Option Bool} {r7:FuncId} [bu Tryz.prog r7] {tM:List AV} (Lr:∀ {y0:_} {u:Bool},mA y0=some u→Pu Tryz.prog r7 (fb.av y0 :: tM) (.bool u)) {r:(List au)} (h:sJ ab ah aO mA=some r):aJ Tryz.prog 137 [iW ab,.str ah,.str aO,.func (.func r7) tM] [] (T1 (fun mS=>[(mS,iF r)]) (fun mS=>.sl 2 mS 0 r.length)):=by
 unfold sJ at h
 refine aJ.fa ?_
 refine aJ.bD Tryz.func137 J Tryz.ntmps137 Tryz.results137 J J ?_
 refine aM<|rA J J<|rN<|aM<|rA J J<|rN<|aM<|rM J J<|aF h fun v1 e1 h=>ep J (xz e1) cR .nil (fun _=>J) J fun b2=>rA J J<|rN<|tS<|aM<|rM J J<|ae.qv (cH J) J<|ae.qv (bR J J) J<|rM J J<|rN<|aa.block<|aa.cj (fun x:(List au)×Int=>fG ab ah aO mA v1 x.1 x.2) (fun x aG=>∃ (b6:Bk),aG=⟨74,[(0,iW ab),(1,.str ah),(2,.str aO),(3,.func (.func r7) tM),(9,.sl 2 b6 0 x.1.length),(10,.sl 1 b2 0 v1.length),(17,I (aT ((v1.length:Int) - (1:Int)))),(18,I x.2)],[(b6,iF x.1),(b2,gB v1)]⟩) h ?_ ?_
 ·exact ai.arr (s:=9) 2 J fun b9=>ai.lq [0,0] ⟨b9,J⟩ J J
 ·intro x z1 aG J1 eZ h mL iQ
  obtain ⟨l7,n8⟩:=x
  obtain ⟨b6,rfl⟩:=eZ
  replace h:fG ab ah aO mA v1 l7 n8=some z1:=h
  unfold fG at h
  refine aM<|ae.qv (bH J J) J<|rN<|tS<|cD h J (fun h=>?_) (fun h=>?_)
  ·refine tK<|tS<|aa.cut (fun aG=>∃ (nh:Bk) (iU:List au),kS n8 iU=some z1∧aG=⟨74,[(0,iW ab),(1,.str ah),(2,.str aO),(3,.func (.func r7) tM),(9,.sl 2 nh 0 iU.length),(10,.sl 1 b2 0 v1.length),(17,I (aT ((v1.length:Int) - (1:Int)))),(18,I n8)],[(nh,iF iU),(b2,gB v1)]⟩) ?_ ?_
   ·refine aa.block<|aM<|rM J J<|rA J J<|rN<|tS<|aM<|rM J J<|rM J J<|rM J J<|rM J J<|rM J J<|rM J J<|aF h fun v12 e2 h=>ae.qv (aS J J J e2) J<|ae.qv (bl (g:=I) J J (.inl .p1) e2 J) J<|aF h fun oN e3 h=>bw J (FE e3) cR J<|aF h fun mB e4 h=>EB J J (Lr e4) cR J<|ae.qv (fj J) J<|rN<|cB h J (fun h=>?_) (fun h=>?_)
    ·exact aa.exit J<|aa.stop<|ai.lq [0,0] ⟨b6,l7,h,J⟩ J J
    ·refine tK<|aM<|rM J J<|ae.qv (cH J) J<|rA J J<|rN<|tS<|aa.cut (fun aG=>∃ (Lp:Bool),kT v1 l7 n8 Lp=some z1∧aG=⟨74,[(0,iW ab),(1,.str ah),(2,.str aO),(3,.func (.func r7) tM),(9,.sl 2 b6 0 l7.length),(10,.sl 1 b2 0 v1.length),(11,I n8),(12,I (l7.length:Int)),(17,I (aT ((v1.length:Int) - (1:Int)))),(18,I n8),(48,.bool Lp)],[(b6,iF l7),(b2,gB v1)]⟩) ?_ ?_
     ·refine aa.bL (id:=8) (A:=[0,1,3,7,7,23,63,127,255,7,7,1543,3591,8191,16383]) 15 mixed J (by kernel_rfl) (by kernel_rfl)<|AM.qv (aA J) J<|AM.qv (ir J J) J<|AM.qv (aA J) J<|AM.bW J J J (fun hc=>?_) (fun hc=>?_)
      ·exact have h:=uy hc h;AM.qv (aA J) J<|AM.bc J J J<|AM.qv (aA J) J<|AM.bc J J J<|AM.qv (bR J J) J<|AM.bc J J J<|aF h fun og e5 h=>AM.qv (aS J J J e5) J<|AM.bc J J J<|AM.qv (dB J J) J<|AM.bc J J J<|AM.qv (bl (g:=au.av) J J (.inl .p0) e5 J) J<|AM.bc J J J<|AM.qv (aA J) J<|AM.bc J J J<|AM.qv (aA J) J<|AM.bc J J J<|aF h fun v17 e6 h=>AM.qv (aS J J J e6) J<|AM.bc J J J<|AM.qv (bl (g:=I) J J (.inl .p1) e6 J) J<|AM.bc J J J<|AM.qv (bY J J) J<|AM.qv (pr J J) J<|AM.nil<|rN<|aa.stop<|ai.lq [0,0] ⟨decide (og.To=v17),h,J⟩ J J
      ·exact have h:=EI hc h;AM.bn J J J J<|AM.bn J J J J<|AM.bn J J J J<|AM.bn J J J J<|AM.bn J J J J<|AM.bn J J J J<|AM.bn J J J J<|AM.bn J J J J<|AM.bn J J J J<|AM.bn J J J J<|AM.qv (ps J J) J<|AM.nil<|rN<|aa.stop<|ai.lq [0,0] ⟨false,h,J⟩ J J
     ·rintro aG ⟨Lp,h,rfl⟩
      unfold kT at h
      refine aa.cut (fun aG=>∃ (we:Bk) (nT:List au),mJ n8 nT=some z1∧aG=⟨74,[(0,iW ab),(1,.str ah),(2,.str aO),(3,.func (.func r7) tM),(9,.sl 2 we 0 nT.length),(10,.sl 1 b2 0 v1.length),(17,I (aT ((v1.length:Int) - (1:Int)))),(18,I n8)],[(we,iF nT),(b2,gB v1)]⟩) ?_ ?_
      ·refine cB h J (fun h=>?_) (fun h=>?_)
       ·exact tR<|rM J J<|rM J J<|ae.qv (bR J J) J<|rM J J<|rM J J<|ae.qv (aU J J) J<|aF h fun v20 e7 h=>ae.qv (aS J J J e7) J<|ae.qv (bl (g:=I) J J (.inl .p1) e7 J) J<|aF h fun v21 e8 h=>ae.qv (aS J J J e8) J<|ae.qv (dB J J) J<|bQ (g:=au.av) (xV:=(⟨v21.bg,v20⟩:au)) J J J J e8 J .p0 J<|ae.ghost<|ai.eqs (s:=9) (eW:=.sl 2 b6 0 (l7.set (aT ((l7.length:Int) - (1:Int))).toNat (⟨v21.bg,v20⟩:au)).length) J (by rw [List.length_set])<|ai.here<|ae.ghost<|ai.eqs (s:=49) (eW:=.sl 2 b6 0 (l7.set (aT ((l7.length:Int) - (1:Int))).toNat (⟨v21.bg,v20⟩:au)).length) J (by rw [List.length_set])<|ai.here<|rN<|aa.stop<|ai.lq [0,0] ⟨b6,l7.set (aT ((l7.length:Int) - (1:Int))).toNat (⟨v21.bg,v20⟩:au),h,J⟩ J J
       ·exact aa.bL (id:=10) (A:=[0,0,0,6,14,0,0,64,224,480,1022,2046,4095,8191]) 12 mixed J (by kernel_rfl) (by kernel_rfl)<|AM.qv (aA J) J<|AM.qv (aA J) J<|AM.qv (aA J) J<|aF h fun v22 e9 h=>AM.qv (aS J J J e9) J<|AM.qv (bl (g:=I) J J (.inl .p1) e9 J) J<|AM.qv (aA J) J<|AM.qv (aA J) J<|AM.qv (aU J J) J<|aF h fun v23 vP h=>AM.qv (aS J J J vP) J<|AM.qv (bl (g:=I) J J (.inl .p1) vP J) J<|AM.qv (db J J J J J) J<|AM.fk (xs:=([(⟨v22,v23⟩:au)]).map au.av) J J J J J J<|AM.nil<|aF h fun W4 zk h=>dA (g:=au.av) J J J J J J J J (.list _) zk (fun _=>.p0) J fun vB=>rA J J<|rN<|aa.stop<|ai.lq [0,0] ⟨vB,W4,h,J⟩ J J
      ·rintro aG ⟨we,nT,h,rfl⟩
       unfold mJ at h
       exact aa.bN<|aa.stop<|ai.lq [0,0] ⟨we,nT,h,J⟩ J J
   ·rintro aG ⟨nh,iU,h,rfl⟩
    unfold kS at h
    refine tR<|ae.qv (aU J J) J<|rM J J<|rN<|aa.stop<|?_
    cases h
    exact mL _ _ J<|ai.lq [0,0] ⟨nh,J⟩ J J
  ·refine aa.exit J<|have h:=cr h iQ;aM<|rM J J<|rA J J<|rN<|aa.ret<|?_
   cases h
   exact hH J [0] J ⟨b6,J,J⟩
theorem zr [GI:bF] {ab:List Signal} {ah:aI} {aO:aI} {r:(List au)} (h:na ab ah aO=some r):aJ Tryz.prog 61 [iW ab,.str ah,.str aO] [] (T1 (fun mS=>[(mS,iF r)]) (fun mS=>.sl 2 mS 0 r.length)):=by
 unfold na at h
 refine aJ.fa ?_
 refine aJ.bD Tryz.func61 J Tryz.ntmps61 Tryz.results61 J J ?_
 refine aM<|rA J J<|rN<|aM<|rM J J<|rM J J<|rM J J<|aF h fun v1 e1 h=>ep J (FF (fun e=>LG (Option.some.inj e)) e1) cR .nil (fun _=>J) J fun b2=>rA J J<|rN<|aa.ret<|?_
 cases h
 exact hH J [0] J ⟨b2,J,J⟩
theorem Ox [GI:bF] {ab:au} {ah:au} {r:au×Bool} (h:yS ab ah=r):Pu Tryz.prog 62 [au.av ab,au.av ah] (.iV [au.av r.1,.bool r.2]):=by
 unfold yS at h
 refine aJ.bD Tryz.func62 J Tryz.ntmps62 Tryz.results62 J J ?_
 refine aM<|jU J J J J fun b1=>jU J J J J fun b2=>bX J J J J fun b3=>rA J J<|rN<|aM<|rF J J J<|rL J J .p2 J J<|rF J J J<|rL J J .p1 J J<|ae.qv (Em J J) J<|rF J J J<|rL J J .p2 J J<|rF J J J<|rL J J .p1 J J<|ae.qv (HA J J) J<|ae.qv (db J J J J J) J<|bX J J J J fun b4=>aB J J J J .p0 J J<|rN<|tS<|aa.iS (id:=2) (A:=[0,0,2,0,8,30,1,127]) (H0:=[(b3,.cells [I (0:Int),I (0:Int)])]) (HH:=fun β=>[(b3,.cells [I (max ab.bg ah.bg),I (min ab.To ah.To)]),(b4,.cells [I (max ab.bg ah.bg),I (min ab.To ah.To)]),(b2,.cells [I ah.bg,I ah.To]),(b1,.cells [I ab.bg,I ab.To])]) 7 mixed J (by kernel_rfl) (by kernel_rfl) [⟨none,some 6,[],fun _=>(b3,.cells [I (0:Int),I (0:Int)]),none,[]⟩,⟨some 6,none,[],fun _=>(b3,.cells [I (max ab.bg ah.bg),I (min ab.To ah.To)]),none,[]⟩] [] J (by kernel_rfl) J (.cons .p1 .nil) (fun _=>J)<|AT.am 6 J J<|AM.qv (bb J J .p0 J) J<|AM.qv (aC J J) J<|AM.qv (aL J J .p0 J) J<|AM.qv (aC J J) J<|AM.qv (aL J J .p0 J) J<|AM.qv (bH J J) J<|AM.nil<|AT.BG (Ti:=[(b3,.cells [I (0:Int),I (0:Int)])]) (Pi:=[(b3,.cells [I (max ab.bg ah.bg),I (min ab.To ah.To)])]) (fun _=>J) (fun _=>J) (fun _=>J) J J ?_ ?_
 ·exact aB J J J J .p0 J J<|ae.nil ⟨_,J⟩
 refine AT.ub (fun _=>J) fun β=>rA J J<|rN<|aa.ret<|?_
 obtain rfl:=h
 exact ai.here ⟨_,.cons (.all _ _ _ _ _ _ J .p0 aE.h aX.h J J) (.cons (.tmp _ _ J) .nil),J⟩
theorem AU [GI:bF] {ab:List Signal} {ah:au} {r:(List aj)} (h:mK ab ah=some r):aJ Tryz.prog 13 [iW ab,au.av ah] [] (T1 (fun mS=>[(mS,Jp r)]) (fun mS=>.sl 5 mS 0 r.length)):=by
 unfold mK at h
 refine aJ.fa ?_
 refine aJ.bD Tryz.func13 J Tryz.ntmps13 Tryz.results13 J J ?_
 refine aM<|jU J J J J fun b1=>rA J J<|rN<|aM<|rM J J<|aF h fun v2 e1 h=>ep J (xy e1) cR .nil (fun _=>J) J fun b3=>rM J J<|rX J J J<|rX J J J<|rA J J<|rA J J<|rN<|aM<|rA J J<|rN<|tS<|aM<|rM J J<|ae.qv (dz J) J<|rM J J<|rN<|aa.block<|aa.cj (fun x:(List aI)×Int=>fV ab ah v2 x.1 x.2) (fun x aG=>∃ (b7:Bk),aG=⟨142,[(0,iW ab),(3,.ptr b1 0),(5,zj v2.1),(7,.sl 1 b7 0 x.1.length),(29,iW ab),(30,I (ab.length:Int)),(31,I x.2)],[(b1,.cells [I ah.bg,I ah.To]),(b7,uM x.1)]⟩) h ?_ ?_
 ·exact ai.arr (s:=7) 1 J fun nh=>ai.lq [2,0] ⟨nh,J⟩ J J
 ·intro x z1 aG J1 eZ h mL iQ
  obtain ⟨l8,n9⟩:=x
  obtain ⟨b7,rfl⟩:=eZ
  replace h:fV ab ah v2 l8 n9=some z1:=h
  unfold fV at h
  refine aM<|ae.qv (bH J J) J<|rN<|tS<|cD h J (fun h=>?_) (fun h=>?_)
  ·refine tK<|tS<|aa.block<|aM<|aF h fun v11 e2 h=>ae.qv (bJ J J J e2 J J) J<|ae.qv (bA J J J) J<|bX J J J J fun xx=>aB J J J J .p0 J J<|rN<|tR<|rM J J<|rF J J J<|rL J J .p0 J J<|ba (xs:=([v11.a8]:List aI).map AV.str) J J J J J J<|aF h fun sn e3 h=>dA (g:=AV.str) J J J J J J J J (.list _) e3 (fun _=>.p2) J fun yh=>rA J J<|rN<|aa.bN<|tR<|ae.qv (aU J J) J<|rM J J<|rN<|aa.stop<|?_
   cases h
   exact mL _ _ J<|ai.lq [1,1] ⟨yh,J⟩ J J
  ·refine aa.exit J<|have h:=cr h iQ;?_
   unfold nB at h
   refine aM<|rA J J<|rN<|tS<|aM<|rM J J<|aF h fun jP e4 h=>Am J (LF e4) .nil (.cons (oq.sg .p1) .nil) (fun _=>J) (fun _=>J) (fun _=>(.cons (Pd.sg (fun _=>J)) .nil)) J fun uj=>ae.qv (cH J) J<|rM J J<|rN<|aa.block<|aa.cj (fun x:(List aj)×Int=>fU ab ah v2 jP x.1 x.2) (fun x aG=>∃ (xY:Bk),aG=⟨142,[(0,iW ab),(3,.ptr b1 0),(5,zj v2.1),(10,.sl 5 xY 0 x.1.length),(42,.sl 1 uj 0 jP.length),(43,I (jP.length:Int)),(44,I x.2)],[(b1,.cells [I ah.bg,I ah.To]),(xY,Jp x.1),(uj,uM jP)]⟩) h ?_ ?_
   ·exact ai.arr (s:=10) 5 J fun Xh=>ai.lq [2,0,0] ⟨Xh,J⟩ J J
   ·intro x z2 aG J2 eZ h Fy Fz
    obtain ⟨qT,n22⟩:=x
    obtain ⟨xY,rfl⟩:=eZ
    replace h:fU ab ah v2 jP qT n22=some z2:=h
    unfold fU at h
    refine aM<|ae.qv (bH J J) J<|rN<|tS<|cD h J (fun h=>?_) (fun h=>?_)
    ·refine tK<|tS<|aa.block<|aM<|aF h fun v24 e5 h=>ae.qv (aS J J J e5) J<|ae.qv (bl (g:=AV.str) J J (.inl .p2) e5 J) J<|rA J J<|rN<|aM<|rM J J<|ae.qv (db J J J J J) J<|bX J J J J fun vB=>aB J J J J .p0 J J<|rN<|tS<|aM<|rM J J<|ae.qv (dz J) J<|rM J J<|rN<|aa.block<|aa.cj (fun x:Int×Int×Int×Int×Int=>fT ab ah v2 qT n22 v24 x.1 x.2.1 x.2.2.1 x.2.2.2.1 x.2.2.2.2) (fun x aG=>aG=⟨142,[(0,iW ab),(3,.ptr b1 0),(5,zj v2.1),(10,.sl 5 xY 0 qT.length),(12,.str v24),(13,.ptr vB 0),(42,.sl 1 uj 0 jP.length),(43,I (jP.length:Int)),(44,I n22),(50,zj v2.1),(51,I (v2.1.length:Int)),(52,I x.2.2.2.2)],[(b1,.cells [I ah.bg,I ah.To]),(xY,Jp qT),(vB,.cells [.str v24,I x.1,I x.2.1,I x.2.2.1,I x.2.2.2.1]),(uj,uM jP)]⟩) h ?_ ?_
     ·exact ai.lq [1,1,0,0] J J J
     ·intro x z3 aG J3 eZ h QO QP
      obtain ⟨n31,n32,n33,n34,n35⟩:=x
      obtain rfl:=eZ
      replace h:fT ab ah v2 qT n22 v24 n31 n32 n33 n34 n35=some z3:=h
      unfold fT at h
      refine aM<|ae.qv (bH J J) J<|rN<|tS<|cD h J (fun h=>?_) (fun h=>?_)
      ·refine tK<|tS<|aa.cut (fun aG=>∃ (n36:Int) (n37:Int) (n38:Int) (n39:Int),gR n35 n36 n37 n38 n39=some z3∧aG=⟨142,[(0,iW ab),(3,.ptr b1 0),(5,zj v2.1),(10,.sl 5 xY 0 qT.length),(12,.str v24),(13,.ptr vB 0),(42,.sl 1 uj 0 jP.length),(43,I (jP.length:Int)),(44,I n22),(50,zj v2.1),(51,I (v2.1.length:Int)),(52,I n35)],[(b1,.cells [I ah.bg,I ah.To]),(xY,Jp qT),(vB,.cells [.str v24,I n36,I n37,I n38,I n39]),(uj,uM jP)]⟩) ?_ ?_
       ·refine aa.block<|aM<|aF h fun v40 e6 h=>ae.qv (bJ J J J e6 J J) J<|ae.qv (aH J J J) J<|rA J J<|rN<|tS<|aM<|rM J J<|ae.qv (aP J) J<|ae.qv (aQ J J) J<|ae.qv (aH J J J) J<|rM J J<|ae.qv (vY J J) J<|rN<|cD h J (fun h=>?_) (fun h=>?_)
        ·exact aa.exit J<|aa.stop<|ai.lq [0,0,0,0] ⟨n31,n32,n33,n34,h,J⟩ J J
        ·refine tK<|aM<|rA J J<|rN<|tS<|aM<|rM J J<|ae.qv (aP J) J<|ae.qv (aQ J J) J<|ae.qv (aH J J J) J<|ae.qv (dz J) J<|rM J J<|rN<|aa.block<|aa.cj (fun x:Int×Int×Int×Int×Int=>fS ab ah v24 n34 n35 v40 x.1 x.2.1 x.2.2.1 x.2.2.2.1 x.2.2.2.2) (fun x aG=>aG=⟨142,[(0,iW ab),(3,.ptr b1 0),(5,zj v2.1),(10,.sl 5 xY 0 qT.length),(12,.str v24),(13,.ptr vB 0),(15,.eo [.str v40.aK,.str v40.aN,iW v40.bq,I v40.az,I v40.ay.bg,I v40.ay.To]),(16,I x.2.2.2.1),(42,.sl 1 uj 0 jP.length),(43,I (jP.length:Int)),(44,I n22),(50,zj v2.1),(51,I (v2.1.length:Int)),(52,I n35),(65,iW v40.bq),(66,I (v40.bq.length:Int)),(67,I x.2.2.2.2)],[(b1,.cells [I ah.bg,I ah.To]),(xY,Jp qT),(vB,.cells [.str v24,I x.1,I x.2.1,I x.2.2.1,I n34]),(uj,uM jP)]⟩) h ?_ ?_
         ·exact ai.lq [0,0,0,0] J J J
         ·intro x z4 aG J4 eZ h VE TY
          obtain ⟨n46,n47,n48,n49,n50⟩:=x
          obtain rfl:=eZ
          replace h:fS ab ah v24 n34 n35 v40 n46 n47 n48 n49 n50=some z4:=h
          unfold fS at h
          refine aM<|ae.qv (bH J J) J<|rN<|tS<|cD h J (fun h=>?_) (fun h=>?_)
          ·refine tK<|tS<|aa.block<|aM<|aF h fun v51 e7 h=>ae.qv (bJ J J J e7 J J) J<|ae.qv (bA J J J) J<|bX J J J J fun b52=>aB J J J J .p0 J J<|rN<|aM<|rF J J J<|rL J J .p0 J J<|rF J J J<|rL J J .p1 J J<|rF J J J<|rL J J .p1 J J<|ae.qv (bR J J) J<|bw J (yi J) cR J<|rA J J<|rN<|aM<|rF J J J<|rL J J .p0 J J<|rN<|aa.block<|aM<|ae.qv (bY J J) J<|rA J J<|rN<|aa.cut (fun aG=>∃ (TF:Int) (TG:Int) (TH:Int) (TI:Int),k9 n50 TF TG TH TI=some z4∧aG=⟨142,[(0,iW ab),(3,.ptr b1 0),(5,zj v2.1),(10,.sl 5 xY 0 qT.length),(12,.str v24),(13,.ptr vB 0),(15,.eo [.str v40.aK,.str v40.aN,iW v40.bq,I v40.az,I v40.ay.bg,I v40.ay.To]),(16,I TI),(42,.sl 1 uj 0 jP.length),(43,I (jP.length:Int)),(44,I n22),(50,zj v2.1),(51,I (v2.1.length:Int)),(52,I n35),(65,iW v40.bq),(66,I (v40.bq.length:Int)),(67,I n50)],[(b1,.cells [I ah.bg,I ah.To]),(xY,Jp qT),(vB,.cells [.str v24,I TF,I TG,I TH,I n34]),(uj,uM jP)]⟩) ?_ ?_
           ·refine cD h J (fun h=>?_) (fun h=>?_)
            ·refine aM<|rF J J J<|rL J J .p0 J J<|rA J J<|rN<|aM<|rM J J<|rN<|aa.cut (fun aG=>∃ (n57:Int),lf n47 n48 n50 v51 n57=some z4∧aG=⟨142,[(0,iW ab),(3,.ptr b1 0),(5,zj v2.1),(10,.sl 5 xY 0 qT.length),(12,.str v24),(13,.ptr vB 0),(15,.eo [.str v40.aK,.str v40.aN,iW v40.bq,I v40.az,I v40.ay.bg,I v40.ay.To]),(16,I v51.At),(42,.sl 1 uj 0 jP.length),(43,I (jP.length:Int)),(44,I n22),(50,zj v2.1),(51,I (v2.1.length:Int)),(52,I n35),(65,iW v40.bq),(66,I (v40.bq.length:Int)),(67,I n50)],[(b1,.cells [I ah.bg,I ah.To]),(xY,Jp qT),(vB,.cells [.str v24,I n57,I n47,I n48,I n34]),(uj,uM jP)]⟩) ?_ ?_
             ·refine cB h J (fun h=>?_) (fun h=>?_)
              ·exact tR<|rF J J J<|rL J J .p3 J J<|ae.qv (aU J J) J<|rF J J J<|aB J J J J .p3 J J<|rN<|aa.stop<|ai.lq [1,1,1,1] ⟨aT (n46+(1:Int)),h,J⟩ J J
              ·exact tK<|aa.stop<|ai.lq [1,1,1,1] ⟨n46,h,J⟩ J J
             ·rintro aG ⟨n57,h,rfl⟩
              unfold lf at h
              exact aa.stop<|ai.lq [0,0,0,0] ⟨n57,n47,n48,v51.At,h,J⟩ J J
            ·refine aM<|ae.qv (bY J J) J<|rA J J<|rN<|aa.cut (fun aG=>∃ (R1:Int) (n59:Int),lg n46 n49 n50 R1 n59=some z4∧aG=⟨142,[(0,iW ab),(3,.ptr b1 0),(5,zj v2.1),(10,.sl 5 xY 0 qT.length),(12,.str v24),(13,.ptr vB 0),(15,.eo [.str v40.aK,.str v40.aN,iW v40.bq,I v40.az,I v40.ay.bg,I v40.ay.To]),(16,I n49),(42,.sl 1 uj 0 jP.length),(43,I (jP.length:Int)),(44,I n22),(50,zj v2.1),(51,I (v2.1.length:Int)),(52,I n35),(65,iW v40.bq),(66,I (v40.bq.length:Int)),(67,I n50)],[(b1,.cells [I ah.bg,I ah.To]),(xY,Jp qT),(vB,.cells [.str v24,I n46,I R1,I n59,I n34]),(uj,uM jP)]⟩) ?_ ?_
             ·refine cD h J (fun h=>?_) (fun h=>?_)
              ·refine aM<|rM J J<|rN<|aa.cut (fun aG=>∃ (n60:Int) (n61:Int),lh n46 n49 n50 n60 n61=some z4∧aG=⟨142,[(0,iW ab),(3,.ptr b1 0),(5,zj v2.1),(10,.sl 5 xY 0 qT.length),(12,.str v24),(13,.ptr vB 0),(15,.eo [.str v40.aK,.str v40.aN,iW v40.bq,I v40.az,I v40.ay.bg,I v40.ay.To]),(16,I n49),(42,.sl 1 uj 0 jP.length),(43,I (jP.length:Int)),(44,I n22),(50,zj v2.1),(51,I (v2.1.length:Int)),(52,I n35),(65,iW v40.bq),(66,I (v40.bq.length:Int)),(67,I n50)],[(b1,.cells [I ah.bg,I ah.To]),(xY,Jp qT),(vB,.cells [.str v24,I n46,I n60,I n61,I n34]),(uj,uM jP)]⟩) ?_ ?_
               ·refine cB h J (fun h=>?_) (fun h=>?_)
                ·exact aM<|rF J J J<|rL J J .p3 J J<|ae.qv (aU J J) J<|rF J J J<|aB J J J J .p3 J J<|rN<|tR<|rF J J J<|rL J J .p3 J J<|rF J J J<|rL J J .p0 J J<|rM J J<|ae.qv (bR J J) J<|ae.qv (aU J J) J<|rF J J J<|aB J J J J .p3 J J<|rN<|aa.stop<|ai.lq [1,1,1,1] ⟨aT (n47+(1:Int)),aT (n48+(aT (v51.At - n49))),h,J⟩ J J
                ·exact tK<|aa.stop<|ai.lq [1,1,1,1] ⟨n47,n48,h,J⟩ J J
               ·rintro aG ⟨n60,n61,h,rfl⟩
                unfold lh at h
                exact aa.stop<|ai.lq [0,0,0,0] ⟨n60,n61,h,J⟩ J J
              ·exact tK<|aa.stop<|ai.lq [1,1,1,1] ⟨n47,n48,h,J⟩ J J
             ·rintro aG ⟨R1,n59,h,rfl⟩
              unfold lg at h
              exact aa.stop<|ai.lq [0,0,0,0] ⟨n46,R1,n59,n49,h,J⟩ J J
           ·rintro aG ⟨TF,TG,TH,TI,h,rfl⟩
            unfold k9 at h
            refine aa.bN<|aa.bN<|tR<|ae.qv (aU J J) J<|rM J J<|rN<|aa.stop<|?_
            cases h
            exact VE _ _ J<|ai.lq [0,0,0,0] J J J
          ·refine aa.exit J<|have h:=cr h TY;?_
           unfold nz at h
           refine aM<|rM J J<|rM J J<|ae.qv (aP J) J<|ae.qv (aQ J J) J<|ae.qv (aH J J J) J<|rM J J<|aF h fun G4 e8 h=>ep J (zr e8) cR .nil (fun _=>J) J fun VM=>ae.qv (cH J) J<|rM J J<|rN<|aa.block<|aa.cj (fun x:Int×Int=>fR ah n35 n46 n47 n48 G4 x.1 x.2) (fun x aG=>aG=⟨142,[(0,iW ab),(3,.ptr b1 0),(5,zj v2.1),(10,.sl 5 xY 0 qT.length),(12,.str v24),(13,.ptr vB 0),(42,.sl 1 uj 0 jP.length),(43,I (jP.length:Int)),(44,I n22),(50,zj v2.1),(51,I (v2.1.length:Int)),(52,I n35),(112,.sl 2 VM 0 G4.length),(113,I (G4.length:Int)),(114,I x.2)],[(b1,.cells [I ah.bg,I ah.To]),(xY,Jp qT),(vB,.cells [.str v24,I n46,I n47,I n48,I x.1]),(uj,uM jP),(VM,iF G4)]⟩) h ?_ ?_
           ·exact ai.lq [1,1,1,1,0] J J J
           ·intro x z5 aG J5 eZ h TZ T3
            obtain ⟨MT,JW⟩:=x
            obtain rfl:=eZ
            replace h:fR ah n35 n46 n47 n48 G4 MT JW=some z5:=h
            unfold fR at h
            refine aM<|ae.qv (bH J J) J<|rN<|tS<|cD h J (fun h=>?_) (fun h=>?_)
            ·refine tK<|tS<|aa.block<|aM<|aF h fun G2 e9 h=>ae.qv (aS J J J e9) J<|ae.qv (bx (g:=au.av) J J (.inl .p4) J e9 J) J<|bX J J J J fun b69=>aB J J J J .p0 J J<|rN<|aM<|ae.qv (bb J J .p0 J) J<|ae.qv (bb J J .p1 J) J<|bw J (Ox J) cR J<|rM J J<|rX J J J<|rX J J J<|bX J J J J fun VL=>aB J J J J .p0 J J<|rA J J<|rN<|aM<|rM J J<|rN<|aa.cut (fun aG=>∃ (TJ:Int),lj JW TJ=some z5∧aG=⟨142,[(0,iW ab),(3,.ptr b1 0),(5,zj v2.1),(10,.sl 5 xY 0 qT.length),(12,.str v24),(13,.ptr vB 0),(42,.sl 1 uj 0 jP.length),(43,I (jP.length:Int)),(44,I n22),(50,zj v2.1),(51,I (v2.1.length:Int)),(52,I n35),(112,.sl 2 VM 0 G4.length),(113,I (G4.length:Int)),(114,I JW)],[(b1,.cells [I ah.bg,I ah.To]),(xY,Jp qT),(vB,.cells [.str v24,I n46,I n47,I n48,I TJ]),(uj,uM jP),(VM,iF G4)]⟩) ?_ ?_
             ·refine cB h J (fun h=>?_) (fun h=>?_)
              ·exact tR<|rF J J J<|rL J J .p4 J J<|rF J J J<|rL J J .p0 J J<|rF J J J<|rL J J .p0 J J<|ae.qv (bR J J) J<|ae.qv (aU J J) J<|rF J J J<|aB J J J J .p4 J J<|rN<|aa.stop<|ai.lq [2,2,2,2,2] ⟨aT (MT+(aT ((((yS G2 ah).1).To) - (((yS G2 ah).1).bg)))),h,J⟩ J J
              ·exact tK<|aa.stop<|ai.lq [2,2,2,2,2] ⟨MT,h,J⟩ J J
             ·rintro aG ⟨TJ,h,rfl⟩
              unfold lj at h
              refine aa.bN<|tR<|ae.qv (aU J J) J<|rM J J<|rN<|aa.stop<|?_
              cases h
              exact TZ _ _ J<|ai.lq [0,0,0,0,0] J J J
            ·exact aa.exit J<|have h:=cr h T3;aa.bN<|aa.stop<|ai.lq [0,0,0,0] ⟨n46,n47,n48,MT,h,J⟩ J J
       ·rintro aG ⟨n36,n37,n38,n39,h,rfl⟩
        unfold gR at h
        refine tR<|ae.qv (aU J J) J<|rM J J<|rN<|aa.stop<|?_
        cases h
        exact QO _ _ J<|ai.lq [0,0,0,0] J J J
      ·refine aa.exit J<|have h:=cr h QP;?_
       unfold nA at h
       refine tR<|rM J J<|ae.qv (bb J J .p2 J) J<|ba (xs:=([(⟨v24,n31,n32,n33,n34⟩:aj)]).map aj.av) J J J J J J<|aF h fun l72 vP h=>dA (g:=aj.av) J J J J J J J J (.list _) vP (fun _=>.p1) J fun b73=>rA J J<|rN<|aa.bN<|tR<|ae.qv (aU J J) J<|rM J J<|rN<|aa.stop<|?_
       cases h
       exact Fy _ _ J<|ai.lq [0,0,1] ⟨b73,J⟩ J J
    ·refine aa.exit J<|have h:=cr h Fz;aM<|rM J J<|rA J J<|rN<|aa.ret<|?_
     cases h
     exact hH J [1] J ⟨xY,J,J⟩
theorem o9 [GI:bF] {ab:List aj} {ah:List aj} {r:Bool} (h:fg ab ah=some r):Pu Tryz.prog 12 [VD ab,VD ah] (.bool r):=by
 unfold fg at h
 refine aJ.bD Tryz.func12 J Tryz.ntmps12 Tryz.results12 J J ?_
 refine aM<|rA J J<|rN<|tS<|aM<|rM J J<|ae.qv (dz J) J<|rM J J<|ae.qv (dz J) J<|ae.qv (jb J J) J<|rN<|cD h J (fun h=>?_) (fun h=>?_)
 ·refine aM<|rA J J<|rN<|aa.ret<|?_
  cases h
  exact hP J J
 ·refine tK<|tS<|aM<|rM J J<|ae.qv (dz J) J<|rM J J<|rN<|aa.block<|aa.cj (fun x:Int=>dZ ab ah x) (fun x aG=>aG=⟨26,[(0,VD ab),(1,VD ah),(12,I (ab.length:Int)),(13,I x)],[]⟩) h ?_ ?_
  ·exact ai.lq [] J J J
  ·intro n2 z1 aG J1 eZ h mL iQ
   obtain rfl:=eZ
   replace h:dZ ab ah n2=some z1:=h
   unfold dZ at h
   refine aM<|ae.qv (bH J J) J<|rN<|tS<|cD h J (fun h=>?_) (fun h=>?_)
   ·refine tK<|tS<|aa.block<|aM<|rM J J<|rA J J<|rN<|tS<|aa.bL (id:=6) (A:=[0,0,3,7,0,0,48,112,255]) 9 mixed J (by kernel_rfl) (by kernel_rfl)<|AM.qv (aA J) J<|AM.qv (aA J) J<|aF h fun v3 e1 h=>AM.qv (bJ J J J e1 J J) J<|AM.qv (bA J J J) J<|AM.qv (aA J) J<|AM.qv (aA J) J<|aF h fun v4 e2 h=>AM.qv (bJ J J J e2 J J) J<|AM.qv (bA J J J) J<|AM.qv (O7 (g:=aj.av) (X:=v3) (Y:=v4) J J J J J) J<|AM.nil<|rN<|cD h J (fun h=>?_) (fun h=>?_)
    ·refine aM<|rA J J<|rN<|aa.ret<|have h:=cr h iQ;?_
     cases h
     exact hP J J
    ·refine tK<|aa.bN<|tR<|ae.qv (aU J J) J<|rM J J<|rN<|aa.stop<|?_
     cases h
     exact mL _ _ J<|ai.lq [] J J J
   ·refine aa.exit J<|have h:=cr h iQ;aM<|rA J J<|rN<|aa.ret<|?_
    cases h
    exact hP J J
theorem wh [GI:bF] {r:(List aI)} (h:jz=r):Pu Tryz.prog 64 [] (JY r):=by
 unfold jz at h
 refine aJ.bD Tryz.func64 J Tryz.ntmps64 Tryz.results64 J J ?_
 refine aM<|rA J J<|rN<|aM<|ba (xs:=([([114,97,105,115,101]:aI),([99,108,101,97,114]:aI),([97,99,107]:aI),([115,104,101,108,118,101]:aI),([117,110,115,104,101,108,118,101]:aI)]).map AV.str) J J J J J J<|rA J J<|rN<|aa.ret<|?_
 obtain rfl:=h
 exact hP J J
theorem uU {ab:List aI} {ah:aI} {r:aI} (h:strings_Join ab ah=some r):Pu Tryz.prog 66 [JY ab,.str ah] (.str r):=by
 unfold strings_Join at h
 refine aJ.bD Tryz.func66 J Tryz.ntmps66 Tryz.results66 J J ?_
 refine aM<|rA J J<|rN<|tS<|aM<|rM J J<|ae.qv (dz J) J<|rN<|aa.block<|aM<|ae.qv (bY J J) J<|rA J J<|rN<|cD h J (fun h=>?_) (fun h=>?_)
 ·refine aM<|rA J J<|rN<|aa.ret<|?_
  cases h
  exact hP J J
 ·refine aM<|ae.qv (bY J J) J<|rA J J<|rN<|cD h J (fun h=>?_) (fun h=>?_)
  ·refine aM<|rM J J<|aF h fun v1 e1 h=>ae.qv (bJ J J J e1 J J) J<|ae.qv (aH J J J) J<|rA J J<|rN<|aa.ret<|?_
   cases h
   exact hP J J
  ·refine tK<|aa.bN<|aM<|rA J J<|rN<|tS<|aM<|rM J J<|ae.qv (cu J) J<|ae.qv (ir J J) J<|rN<|aa.cut (fun aG=>∃ (n2:Int),iZ ab ah n2=some r∧aG=⟨75,[(0,JY ab),(1,.str ah),(5,I n2)],[]⟩) ?_ ?_
   ·refine cD h J (fun h=>?_) (fun h=>?_)
    ·refine tS<|aM<|rM J J<|ae.qv (cu J) J<|rM J J<|ae.qv (dz J) J<|ae.qv (bR J J) J<|aF h fun n3 e2 h=>ae.qv (Ky J J e2) J<|ae.qv (rU J J) J<|rN<|cD h J (fun h=>?_) (fun h=>?_)
     ·refine tR<|?_
      cases h
     ·exact tK<|tR<|rM J J<|rM J J<|ae.qv (cu J) J<|rM J J<|ae.qv (dz J) J<|ae.qv (bR J J) J<|ae.qv (xZ J J) J<|ae.qv (aU J J) J<|rA J J<|rN<|aa.stop<|ai.lq [] ⟨aT ((0:Int)+(aT ((ah.length:Int) * (aT ((ab.length:Int) - (1:Int)))))),h,J⟩ J J
    ·exact tK<|aa.stop<|ai.lq [] ⟨(0:Int),h,J⟩ J J
   ·rintro aG ⟨n2,h,rfl⟩
    unfold iZ at h
    refine tS<|aM<|rM J J<|ae.qv (dz J) J<|rM J J<|rN<|aa.block<|aa.cj (fun x:Int×Int=>ln ab ah x.1 x.2) (fun x aG=>aG=⟨75,[(0,JY ab),(1,.str ah),(5,I x.1),(39,JY ab),(40,I (ab.length:Int)),(41,I x.2)],[]⟩) h ?_ ?_
    ·exact ai.lq [] J J J
    ·intro x z1 aG J1 eZ h mL iQ
     obtain ⟨n6,n7⟩:=x
     obtain rfl:=eZ
     replace h:ln ab ah n6 n7=some z1:=h
     unfold ln at h
     refine aM<|ae.qv (bH J J) J<|rN<|tS<|cD h J (fun h=>?_) (fun h=>?_)
     ·refine tK<|tS<|aa.block<|aM<|aF h fun v8 e3 h=>ae.qv (bJ J J J e3 J J) J<|ae.qv (aH J J J) J<|rA J J<|rN<|tS<|aM<|rM J J<|ae.qv (cu J) J<|rM J J<|ae.qv (bR J J) J<|ae.qv (ir J J) J<|rN<|cD h J (fun h=>?_) (fun h=>?_)
      ·refine tR<|?_
       cases h
      ·refine tK<|tR<|rM J J<|rM J J<|ae.qv (cu J) J<|ae.qv (aU J J) J<|rA J J<|rN<|aa.bN<|tR<|ae.qv (aU J J) J<|rM J J<|rN<|aa.stop<|?_
       cases h
       exact mL _ _ J<|ai.lq [] J J J
     ·refine aa.exit J<|have h:=cr h iQ;?_
      unfold pX at h
      refine aM<|Aw 5 J J fun b9=>rN<|aM<|rM J J<|aF h fun v10 e4 h=>ep J (tu e4) cR (.cons .p0 .nil) (fun _=>J) J fun QT=>rN<|aM<|rM J J<|aF h fun v12 e5 h=>ae.qv (bJ J J J e5 J J) J<|ae.qv (aH J J J) J<|aF h fun QN e6 h=>ep J (cX e6) cR (.cons .p0 .nil) (fun _=>J) J fun yh=>rN<|tS<|aM<|rM J J<|aF h fun pD e7 h=>ae.qv (Df J J (.some _ _ _ J) .none J J e7) J<|ae.qv (dz J) J<|rM J J<|rN<|aa.block<|aa.cj (fun x:aI×Int=>ll ah pD x.1 x.2) (fun x aG=>∃ (xY:Bk),aG=⟨75,[(1,.str ah),(8,.ptr b9 0),(63,JY pD),(64,I (pD.length:Int)),(65,I x.2)],[(b9,.qK 130 5 xY.bN x.1)]⟩) h ?_ ?_
      ·exact ai.lq [0] ⟨yh,J⟩ J J
      ·intro x z2 aG J2 eZ h Fy Fz
       obtain ⟨R3,n21⟩:=x
       obtain ⟨xY,rfl⟩:=eZ
       replace h:ll ah pD R3 n21=some z2:=h
       unfold ll at h
       refine aM<|ae.qv (bH J J) J<|rN<|tS<|cD h J (fun h=>?_) (fun h=>?_)
       ·refine tK<|tS<|aa.block<|aM<|aF h fun v22 e8 h=>ae.qv (bJ J J J e8 J J) J<|ae.qv (aH J J J) J<|rA J J<|rN<|aM<|rM J J<|aF h fun TK e9 h=>ep J (cX e9) cR (.cons .p0 .nil) (fun _=>J) J fun Lu=>rN<|tR<|rM J J<|aF h fun Dz vP h=>ep J (cX vP) cR (.cons .p0 .nil) (fun _=>J) J fun T8=>rN<|aa.bN<|tR<|ae.qv (aU J J) J<|rM J J<|rN<|aa.stop<|?_
        cases h
        exact Fy _ _ J<|ai.lq [0] ⟨T8,J⟩ J J
       ·refine aa.exit J<|have h:=cr h Fz;aM<|bz J jE cR (.cons .p0 .nil) J J<|rA J J<|rN<|aa.ret<|?_
        cases h
        exact hP J J
theorem DG {ab:List Signal} {r:aI×Int} (h:tw ab=some r):Pu Tryz.prog 14 [iW ab] (.iV [.str r.1,I r.2]):=by
 unfold tw at h
 refine aJ.bD Tryz.func14 J Tryz.ntmps14 Tryz.results14 J J ?_
 refine aM<|rA J J<|rA J J<|rN<|tS<|aM<|rM J J<|aF h fun v1 e1 h=>bw J (jA e1) cR J<|rA J J<|rN<|aM<|rM J J<|ae.qv (jb J J) J<|rN<|cD h J (fun h=>?_) (fun h=>?_)
 ·refine aM<|rM J J<|rA J J<|rA J J<|rN<|aa.ret<|?_
  cases h
  exact hQ J J J
 ·refine tK<|aM<|Aw 5 J J fun b2=>rN<|tS<|aM<|rM J J<|ae.qv (dz J) J<|rM J J<|rN<|aa.block<|aa.cj (fun x:aI×Int=>iz ab x.1 x.2) (fun x aG=>∃ (b7:Bk),aG=⟨59,[(5,.ptr b2 0),(14,iW ab),(15,I (ab.length:Int)),(16,I x.2)],[(b2,.qK 130 5 b7.bN x.1)]⟩) h ?_ ?_
  ·exact ai.lq [0] ⟨(⟨none,0⟩:Bk),J⟩ J J
  ·intro x z1 aG J1 eZ h mL iQ
   obtain ⟨q6,n8⟩:=x
   obtain ⟨b7,rfl⟩:=eZ
   replace h:iz ab q6 n8=some z1:=h
   unfold iz at h
   refine aM<|ae.qv (bH J J) J<|rN<|tS<|cD h J (fun h=>?_) (fun h=>?_)
   ·refine tK<|tS<|aa.block<|aM<|aF h fun v9 e2 h=>ae.qv (bJ J J J e2 J J) J<|ae.qv (bA J J J) J<|bX J J J J fun nh=>aB J J J J .p0 J J<|rN<|tS<|aa.bL (id:=8) (A:=[0,1,3,0,8,0,32,7,0,256,768,1927,3975,8191,16383]) 13 mixed J (by kernel_rfl) (by kernel_rfl)<|AM.qv (aC J J) J<|AM.qv (aL J J .p0 J) J<|aF h fun v11 e3 h=>AM.jV J (mh e3) cR J<|AM.qv (aC J J) J<|AM.qv (aL J J .p0 J) J<|AM.qv (aC J J) J<|AM.qv (aL J J .p0 J) J<|AM.jV J (wh J) cR J<|AM.qv (aC J J) J<|AM.qv (aL J J .p0 J) J<|AM.qv (bR J J) J<|aF h fun v12 e4 h=>AM.qv (bJ J J J e4 J J) J<|AM.qv (aH J J J) J<|AM.nil<|qt J J J J J J fun FC=>rA J J<|rN<|tS<|aM<|rF J J J<|rL J J .p1 J J<|ae.qv (rU J J) J<|rN<|aa.cut (fun aG=>∃ (yh:Bk) (pD:List aI),lC q6 n8 v9 pD=some z1∧aG=⟨59,[(5,.ptr b2 0),(7,.ptr nh 0),(8,.sl 1 yh 0 pD.length),(14,iW ab),(15,I (ab.length:Int)),(16,I n8)],[(b2,.qK 130 5 b7.bN q6),(nh,.cells (vA v9)),(yh,uM pD)]⟩) ?_ ?_
    ·refine cD h J (fun h=>?_) (fun h=>?_)
     ·exact tR<|rM J J<|rF J J J<|rL J J .p1 J J<|ba (xs:=([v9.By]:List aI).map AV.str) J J J J J J<|aF h fun kA e5 h=>dA (g:=AV.str) J J J J J J J J (.list _) e5 (fun _=>.p0) J fun AO=>rA J J<|rN<|aa.stop<|ai.lq [2,1,0] ⟨AO,kA,h,J⟩ J J
     ·exact tK<|aa.stop<|ai.lq [2,1,0] ⟨FC,[v11,v9.Device,v9.a8,v12],h,J⟩ J J
    ·rintro aG ⟨yh,pD,h,rfl⟩
     unfold lC at h
     refine tS<|aM<|rF J J J<|rL J J .p1 J J<|ae.qv (bY J J) J<|rN<|aa.cut (fun aG=>∃ (we:Bk) (nT:List aI),lB q6 n8 nT=some z1∧aG=⟨59,[(5,.ptr b2 0),(8,.sl 1 we 0 nT.length),(14,iW ab),(15,I (ab.length:Int)),(16,I n8)],[(b2,.qK 130 5 b7.bN q6),(we,uM nT)]⟩) ?_ ?_
     ·refine cD h J (fun h=>?_) (fun h=>?_)
      ·exact tR<|rM J J<|rF J J J<|rL J J .p1 J J<|aF h fun v20 e6 h=>bw J (mh e6) cR J<|ba (xs:=([v20]:List aI).map AV.str) J J J J J J<|aF h fun qT e7 h=>dA (g:=AV.str) J J J J J J J J (.list _) e7 (fun _=>.p2) J fun Lt=>rA J J<|rN<|aa.stop<|ai.lq [0,1] ⟨Lt,qT,h,J⟩ J J
      ·exact tK<|aa.stop<|ai.lq [0,1] ⟨yh,pD,h,J⟩ J J
     ·rintro aG ⟨we,nT,h,rfl⟩
      unfold lB at h
      refine tR<|rM J J<|aF h fun v23 e8 h=>jc J (uU e8) (.cons (oq.sg .p1) (.cons (.co (.refl _)) .nil)) J J<|aF h fun TN e9 h=>ae.qv (wC e9 J J) J<|aF h fun Dz vP h=>ep J (cX vP) cR (.cons .p0 .nil) (fun _=>J) J fun T8=>rN<|aa.bN<|tR<|ae.qv (aU J J) J<|rM J J<|rN<|aa.stop<|?_
      cases h
      exact mL _ _ J<|ai.lq [0] ⟨T8,J⟩ J J
   ·refine aa.exit J<|have h:=cr h iQ;?_
    unfold pj at h
    refine tS<|aM<|bz J ud cR (.cons .p0 .nil) J J<|ae.qv (ir J J) J<|rN<|cD h J (fun h=>?_) (fun h=>?_)
    ·refine aM<|rA J J<|rA J J<|rN<|aa.ret<|?_
     cases h
     exact hQ J J J
    ·refine tK<|aM<|bz J jE cR (.cons .p0 .nil) J J<|rA J J<|rA J J<|rN<|aa.ret<|?_
     cases h
     exact hQ J J J
theorem tN [GI:bF] {r:(List aI)} (h:iA=r):Pu Tryz.prog 69 [] (JY r):=by
 unfold iA at h
 refine aJ.bD Tryz.func69 J Tryz.ntmps69 Tryz.results69 J J ?_
 refine aM<|rA J J<|rN<|aM<|ba (xs:=([([]:aI),([114,97,105,115,101]:aI),([99,108,101,97,114]:aI),([97,99,107]:aI),([115,104,101,108,118,101]:aI),([117,110,115,104,101,108,118,101]:aI)]).map AV.str) J J J J J J<|rA J J<|rN<|aa.ret<|?_
 obtain rfl:=h
 exact hP J J
theorem tO {ab:List Signal} {r:aI} (h:lD ab=some r):Pu Tryz.prog 15 [iW ab] (.str r):=by
 unfold lD at h
 refine aJ.bD Tryz.func15 J Tryz.ntmps15 Tryz.results15 J J ?_
 refine aM<|rA J J<|rN<|aM<|Aw 5 J J fun b1=>rN<|tS<|aM<|rM J J<|ae.qv (dz J) J<|rM J J<|rN<|aa.block<|aa.cj (fun x:aI×Int=>fr ab x.1 x.2) (fun x aG=>∃ (b6:Bk),aG=⟨49,[(3,.ptr b1 0),(7,iW ab),(8,I (ab.length:Int)),(9,I x.2)],[(b1,.qK 130 5 b6.bN x.1)]⟩) h ?_ ?_
 ·exact ai.lq [0] ⟨(⟨none,0⟩:Bk),J⟩ J J
 ·intro x z1 aG J1 eZ h mL iQ
  obtain ⟨q5,n7⟩:=x
  obtain ⟨b6,rfl⟩:=eZ
  replace h:fr ab q5 n7=some z1:=h
  unfold fr at h
  refine aM<|ae.qv (bH J J) J<|rN<|tS<|cD h J (fun h=>?_) (fun h=>?_)
  ·refine tK<|tS<|aa.block<|aM<|aF h fun v8 e1 h=>ae.qv (bJ J J J e1 J J) J<|ae.qv (bA J J J) J<|bX J J J J fun b9=>aB J J J J .p0 J J<|rN<|tS<|aa.bL (id:=5) (A:=[0,1,3,0,8,0,32,7,0,256,903,1927,4095,8191]) 12 mixed J (by kernel_rfl) (by kernel_rfl)<|AM.qv (aC J J) J<|AM.qv (aL J J .p0 J) J<|aF h fun v10 e2 h=>AM.jV J (mh e2) cR J<|AM.qv (aC J J) J<|AM.qv (aL J J .p0 J) J<|AM.qv (aC J J) J<|AM.qv (aL J J .p0 J) J<|AM.jV J (tN J) cR J<|AM.qv (aC J J) J<|AM.qv (aL J J .p0 J) J<|aF h fun v11 e3 h=>AM.qv (bJ J J J e3 J J) J<|AM.qv (aH J J J) J<|AM.nil<|qt J J J J J J fun xx=>rA J J<|rN<|tS<|aM<|rF J J J<|rL J J .p1 J J<|ae.qv (vY J J) J<|rN<|aa.cut (fun aG=>∃ (FC:Bk) (oh:List aI),iC q5 n7 v8 oh=some z1∧aG=⟨49,[(3,.ptr b1 0),(5,.ptr b9 0),(6,.sl 1 FC 0 oh.length),(7,iW ab),(8,I (ab.length:Int)),(9,I n7)],[(b1,.qK 130 5 b6.bN q5),(b9,.cells (vA v8)),(FC,uM oh)]⟩) ?_ ?_
   ·refine cD h J (fun h=>?_) (fun h=>?_)
    ·exact tR<|rM J J<|rF J J J<|rL J J .p1 J J<|ba (xs:=([v8.By]:List aI).map AV.str) J J J J J J<|aF h fun pD e4 h=>dA (g:=AV.str) J J J J J J J J (.list _) e4 (fun _=>.p0) J fun uj=>rA J J<|rN<|aa.stop<|ai.lq [2,1,0] ⟨uj,pD,h,J⟩ J J
    ·exact tK<|aa.stop<|ai.lq [2,1,0] ⟨xx,[v10,v8.Device,v8.a8,v11],h,J⟩ J J
   ·rintro aG ⟨FC,oh,h,rfl⟩
    unfold iC at h
    refine tS<|aM<|rF J J J<|rL J J .p1 J J<|ae.qv (bY J J) J<|rN<|aa.cut (fun aG=>∃ (AO:Bk) (ue:List aI),iB q5 n7 ue=some z1∧aG=⟨49,[(3,.ptr b1 0),(6,.sl 1 AO 0 ue.length),(7,iW ab),(8,I (ab.length:Int)),(9,I n7)],[(b1,.qK 130 5 b6.bN q5),(AO,uM ue)]⟩) ?_ ?_
    ·refine cD h J (fun h=>?_) (fun h=>?_)
     ·exact tR<|rM J J<|rF J J J<|rL J J .p1 J J<|aF h fun Bp e5 h=>bw J (mh e5) cR J<|ba (xs:=([Bp]:List aI).map AV.str) J J J J J J<|aF h fun tv e6 h=>dA (g:=AV.str) J J J J J J J J (.list _) e6 (fun _=>.p2) J fun Gq=>rA J J<|rN<|aa.stop<|ai.lq [0,1] ⟨Gq,tv,h,J⟩ J J
     ·exact tK<|aa.stop<|ai.lq [0,1] ⟨FC,oh,h,J⟩ J J
    ·rintro aG ⟨AO,ue,h,rfl⟩
     unfold iB at h
     refine tR<|rM J J<|aF h fun v22 e7 h=>jc J (uU e7) (.cons (oq.sg .p1) (.cons (.co (.refl _)) .nil)) J J<|aF h fun TK e8 h=>ae.qv (wC e8 J J) J<|aF h fun TN e9 h=>ep J (cX e9) cR (.cons .p0 .nil) (fun _=>J) J fun vB=>rN<|aa.bN<|tR<|ae.qv (aU J J) J<|rM J J<|rN<|aa.stop<|?_
     cases h
     exact mL _ _ J<|ai.lq [0] ⟨vB,J⟩ J J
  ·refine aa.exit J<|have h:=cr h iQ;aM<|bz J jE cR (.cons .p0 .nil) J J<|rA J J<|rN<|aa.ret<|?_
   cases h
   exact hP J J
theorem ym [GI:bF] {aY:Bk} {ab:ar} {ah:aI} {aO:aI} {r:aI×ar} (h:mr ab ah aO=some r):aJ Tryz.prog 70 [.ptr aY 0,.str ah,.str aO] [(aY,.cells [gx ab.L,I ab.at_])] (T0 ([(aY,.cells [gx r.2.L,I r.2.at_])]) (.str r.1)):=by
 unfold mr at h
 refine aJ.fa ?_
 refine aJ.bD Tryz.func70 J Tryz.ntmps70 Tryz.results70 J J ?_
 refine aM<|rA J J<|rN<|tS<|tS<|aa.cut (fun aG=>∃ (c1:Bool),lZ ab ah aO c1=some r∧aG=⟨63,[(0,.ptr aY 0),(1,.str ah),(2,.str aO),(14,.bool c1)],[(aY,.cells [gx ab.L,I ab.at_])]⟩) ?_ ?_
 ·refine tR<|rM J J<|ae.qv (qg J J) J<|rM J J<|ae.gg J J J (fun hc=>?_) (fun hc=>?_)
  ·rw [BE hc] at h
   exact rM J J<|rY J J J<|ae.qv (qg J J) J<|rE J J J<|rN<|aa.stop<|ai.lq [0] ⟨decide (aO=([]:aI)),h,J⟩ J J
  ·rw [BD hc] at h
   exact rG J J J J<|rT J J J<|rN<|aa.stop<|ai.lq [0] ⟨true,h,J⟩ J J
 ·rintro aG ⟨c1,h,rfl⟩
  unfold lZ at h
  refine cB h J (fun h=>?_) (fun h=>?_)
  ·refine aM<|rM J J<|rA J J<|rN<|aa.ret<|?_
   cases h
   exact hH J [0] J ⟨J,J⟩
  ·refine tK<|aM<|rM J J<|rM J J<|ae.qv (cu J) J<|aF h fun v2 e1 h=>bz J (gA e1) cR (.cons .p0 .nil) J J<|rA J J<|rN<|aM<|rM J J<|rM J J<|rM J J<|ae.qv (cu J) J<|aF h fun v3 e2 h=>bz J (gA e2) cR (.cons .p0 .nil) J J<|aF h fun c4 e3 h=>ae.qv (kB J J e3) J<|rA J J<|rN<|tS<|aM<|rM J J<|aF h fun v5 e4 h=>bz J (gA e4) cR (.cons .p0 .nil) J J<|rN<|aa.block<|aM<|ae.qv (bY J J) J<|rA J J<|rN<|cD h J (fun h=>?_) (fun h=>?_)
   ·refine tS<|aa.bL (id:=7) (A:=[0,0,3,0,8,24,63,0,0,256,896,2047,4095]) 13 mixed J (by kernel_rfl) (by kernel_rfl)<|AM.qv (aA J) J<|AM.qv (aA J) J<|aF h fun l6 e5 h=>AM.qv (kC J .none (.some _ _ _ J) J J e5) J<|AM.qv (aA J) J<|AM.qv (jC J) J<|AM.qv (Cj J) J<|aF h fun q7 e6 h=>AM.qv (wC e6 J J) J<|AM.qv (aA J) J<|AM.qv (aA J) J<|AM.qv (aU J J) J<|aF h fun l8 e7 h=>AM.qv (kC J (.some _ _ _ J) .none J J e7) J<|aF h fun q9 e8 h=>AM.qv (wC e8 J J) J<|AM.qv (cU J) J<|AM.nil<|rN<|aa.ret<|?_
    cases h
    exact hH J [0] J ⟨J,J⟩
   ·refine aM<|ae.qv (bY J J) J<|rA J J<|rN<|cD h J (fun h=>?_) (fun h=>?_)
    ·refine tS<|aa.bL (id:=9) (A:=[0,0,3,0,8,24,63,0,0,384,1023,2047]) 12 mixed J (by kernel_rfl) (by kernel_rfl)<|AM.qv (aA J) J<|AM.qv (aA J) J<|aF h fun l10 e9 h=>AM.qv (kC J .none (.some _ _ _ J) J J e9) J<|AM.qv (aA J) J<|AM.qv (jC J) J<|AM.qv (Cj J) J<|aF h fun VC vP h=>AM.qv (wC vP J J) J<|AM.qv (aA J) J<|AM.qv (aA J) J<|aF h fun sw zk h=>AM.qv (kC J (.some _ _ _ J) .none J J zk) J<|aF h fun QN Gp h=>AM.qv (wC Gp J J) J<|AM.qv (cU J) J<|AM.nil<|rN<|aa.ret<|?_
     cases h
     exact hH J [0] J ⟨J,J⟩
    ·refine tK<|aa.bN<|tS<|aa.bL (id:=10) (A:=[0,0,3,0,0,16,56,127,255]) 9 mixed J (by kernel_rfl) (by kernel_rfl)<|AM.qv (aA J) J<|AM.qv (aA J) J<|aF h fun oh Ij h=>AM.qv (kC J .none (.some _ _ _ J) J J Ij) J<|AM.qv (aA J) J<|AM.qv (aA J) J<|AM.qv (aU J J) J<|aF h fun pD MW h=>AM.qv (kC J (.some _ _ _ J) .none J J MW) J<|aF h fun q16 AG h=>AM.qv (wC AG J J) J<|AM.qv (cU J) J<|AM.nil<|rN<|aa.ret<|?_
     cases h
     exact hH J [0] J ⟨J,J⟩
theorem uh {aY:Bk} {ab:ar} {r:aI×ar} (h:hZ ab=some r):aJ Tryz.prog 16 [.ptr aY 0] [(aY,.cells [gx ab.L,I ab.at_])] (T0 ([(aY,.cells [gx r.2.L,I r.2.at_])]) (.str r.1)):=by
 unfold hZ at h
 refine aJ.fa ?_
 refine aJ.bD Tryz.func16 J Tryz.ntmps16 Tryz.results16 J J ?_
 refine aM<|rA J J<|rN<|aM<|rM J J<|rM J J<|aF h fun v1 e1 h=>bz J (rb e1) cR (.cons .p0 .nil) J J<|aF h fun v2 e2 h=>ep J (sM e2) cR (.cons .p0 .nil) (fun _=>J) J fun b3=>rA J J<|rN<|aM<|rA J J<|rN<|tS<|aM<|rM J J<|aF h fun v4 e3 h=>jc J (o6 e3) (.cons (oq.sg .p1) .nil) J J<|ae.qv (bY J J) J<|rN<|aa.cut (fun aG=>∃ (q5:aI),ez v2 q5=some r∧aG=⟨24,[(0,.ptr aY 0),(4,.str q5)],[(aY,.cells [gx v2.2.L,I v2.2.at_])]⟩) ?_ ?_
 ·refine cD h J (fun h=>?_) (fun h=>?_)
  ·exact tR<|rM J J<|aF h fun v6 e4 h=>jc J (tO e4) (.cons (oq.sg .p1) .nil) J J<|rA J J<|rN<|aa.stop<|ai.lq [0] ⟨v6,h,J⟩ J J
  ·exact tK<|aa.stop<|ai.lq [0] ⟨([49,48,32,100,97,32,114,97,32,115,104,101,108,118,101,32,97,110,110,32,50,48,10]:aI),h,J⟩ J J
 ·rintro aG ⟨q5,h,rfl⟩
  unfold ez at h
  refine tS<|aM<|rM J J<|ba (xs:=([(0:Int),(0:Int),(1:Int),(2:Int)]).map I) J J J J J J<|aF h fun v7 e5 h=>bz J (ej e5) cR (.cons .p0 .nil) J J<|rM J J<|rN<|aa.block<|aa.cj (fun x:(List Int)×Int×aI×Int=>fH v7 x.1 x.2.1 x.2.2.1 x.2.2.2) (fun x aG=>aG=⟨24,[(0,.ptr aY 0),(4,.str x.2.2.1),(16,I v7.1),(17,I x.2.2.2)],[(aY,.cells [gx x.1,I x.2.1])]⟩) h ?_ ?_
  ·exact ai.lq [0] J J J
  ·intro x z1 aG J1 eZ h mL iQ
   obtain ⟨sw,n13,Ef,n15⟩:=x
   obtain rfl:=eZ
   replace h:fH v7 sw n13 Ef n15=some z1:=h
   unfold fH at h
   refine aM<|ae.qv (bH J J) J<|rN<|tS<|cD h J (fun h=>?_) (fun h=>?_)
   ·refine tK<|tS<|aa.block<|tR<|rM J J<|rM J J<|aF h fun og e6 h=>bz J (ym e6) cR (.cons .p0 .nil) J J<|rA J J<|rN<|aa.bN<|tR<|ae.qv (aU J J) J<|rM J J<|rN<|aa.stop<|?_
    cases h
    exact mL _ _ J<|ai.lq [0] J J J
   ·refine aa.exit J<|have h:=cr h iQ;aM<|rM J J<|rA J J<|rN<|aa.ret<|?_
    cases h
    exact hH J [0] J ⟨J,J⟩
theorem DH {ab:aI} {ah:Int} {r:(List aI)×Bool} (h:qX ab ah=some r):aJ Tryz.prog 143 [.str ab,I ah] [] (T1 (fun mS=>[(mS,uM r.1)]) (fun mS=>.iV [.sl 1 mS 0 r.1.length,.bool r.2])):=by
 unfold qX at h
 refine aJ.fa ?_
 refine aJ.bD Tryz.func143 J Tryz.ntmps143 Tryz.results143 J J ?_
 refine aM<|rA J J<|rA J J<|rN<|aM<|rM J J<|aF h fun v1 e1 h=>ep J (pR e1) cR .nil (fun _=>J) J fun b2=>rA J J<|rN<|tS<|aM<|rM J J<|ae.qv (cH J) J<|rM J J<|ae.qv (jb J J) J<|rN<|cD h J (fun h=>?_) (fun h=>?_)
 ·refine aM<|rA J J<|rA J J<|rN<|aa.ret<|?_
  cases h
  exact ai.arr (s:=4) 1 J fun b3=>ai.here ⟨_,.cons (.tmp _ _ J) (.cons (.tmp _ _ J) .nil),_,.cons .p0 .nil,⟨b3,J,J⟩⟩
 ·refine tK<|tS<|aM<|rM J J<|ae.qv (cH J) J<|rM J J<|rN<|aa.block<|aa.cj (fun x:Int=>jH v1 x) (fun x aG=>aG=⟨25,[(6,.sl 1 b2 0 v1.length),(15,.sl 1 b2 0 v1.length),(16,I (v1.length:Int)),(17,I x)],[(b2,uM v1)]⟩) h ?_ ?_
  ·exact ai.lq [0] J J J
  ·intro n5 z1 aG J1 eZ h mL iQ
   obtain rfl:=eZ
   replace h:jH v1 n5=some z1:=h
   unfold jH at h
   refine aM<|ae.qv (bH J J) J<|rN<|tS<|cD h J (fun h=>?_) (fun h=>?_)
   ·refine tK<|tS<|aa.block<|aM<|aF h fun v6 e2 h=>ae.qv (aS J J J e2) J<|ae.qv (bl (g:=AV.str) J J (.inl .p0) e2 J) J<|rA J J<|rN<|aM<|rM J J<|ae.qv (qg J J) J<|rN<|cD h J (fun h=>?_) (fun h=>?_)
    ·refine aM<|rA J J<|rA J J<|rN<|aa.ret<|have h:=cr h iQ;?_
     cases h
     exact ai.arr (s:=4) 1 J fun b7=>ai.here ⟨_,.cons (.tmp _ _ J) (.cons (.tmp _ _ J) .nil),_,.cons .p0 .nil,⟨b7,J,J⟩⟩
    ·refine tK<|aa.bN<|tR<|ae.qv (aU J J) J<|rM J J<|rN<|aa.stop<|?_
     cases h
     exact mL _ _ J<|ai.lq [0] J J J
   ·refine aa.exit J<|have h:=cr h iQ;aM<|rM J J<|rA J J<|rA J J<|rN<|aa.ret<|?_
    cases h
    exact hI J J [0] J ⟨b2,J,J⟩
theorem gS [GI:bF] {ab:List aI} {ah:aI} {r:Int} (h:bG ab ah=some r):Pu Tryz.prog 78 [JY ab,.str ah] (I r):=by
 unfold bG at h
 refine aJ.bD Tryz.func78 J Tryz.ntmps78 Tryz.results78 J J ?_
 refine aM<|rA J J<|rN<|tS<|aM<|rM J J<|ae.qv (dz J) J<|rM J J<|rN<|aa.block<|aa.cj (fun x:Int=>bK ab ah x) (fun x aG=>aG=⟨19,[(0,JY ab),(1,.str ah),(7,I (ab.length:Int)),(8,I x)],[]⟩) h ?_ ?_
 ·exact ai.lq [] J J J
 ·intro n2 z1 aG J1 eZ h mL iQ
  obtain rfl:=eZ
  replace h:bK ab ah n2=some z1:=h
  unfold bK at h
  refine aM<|ae.qv (bH J J) J<|rN<|tS<|cD h J (fun h=>?_) (fun h=>?_)
  ·refine tK<|tS<|aa.block<|aM<|rM J J<|rA J J<|rN<|aM<|rM J J<|rM J J<|rM J J<|aF h fun v3 e1 h=>ae.qv (bJ J J J e1 J J) J<|ae.qv (aH J J J) J<|ae.qv (qg J J) J<|rN<|cD h J (fun h=>?_) (fun h=>?_)
   ·refine aM<|rM J J<|rA J J<|rN<|aa.ret<|have h:=cr h iQ;?_
    cases h
    exact hP J J
   ·refine tK<|aa.bN<|tR<|ae.qv (aU J J) J<|rM J J<|rN<|aa.stop<|?_
    cases h
    exact mL _ _ J<|ai.lq [] J J J
  ·refine aa.exit J<|have h:=cr h iQ;aM<|rA J J<|rN<|aa.ret<|?_
   cases h
   exact hP J J
theorem wi {ab:aI} {ah:Int} {r:Int×Bool} (h:mw ab ah=some r):Pu Tryz.prog 145 [.str ab,I ah] (.iV [I r.1,.bool r.2]):=by
 unfold mw at h
 refine aJ.bD Tryz.func145 J Tryz.ntmps145 Tryz.results145 J J ?_
 refine aM<|rA J J<|rA J J<|rN<|aM<|rM J J<|bw J (pz J) cR J<|rA J J<|rN<|tS<|tS<|aa.cut (fun aG=>∃ (c1:Bool),ko ab c1=some r∧aG=⟨61,[(0,.str ab),(6,.str (Lib.trimPrefix ab ([45]:aI))),(36,.bool c1)],[]⟩) ?_ ?_
 ·refine tR<|rM J J<|ae.qv (qg J J) J<|rM J J<|gF h J J J (fun h=>?_) (fun h=>?_)
  ·refine rM J J<|rY J J J<|ae.qv (cu J) J<|rY J J J<|rM J J<|rY J J J<|ae.qv (ir J J) J<|rE J J J<|rM J J<|gF h J J J (fun h=>?_) (fun h=>?_)
   ·refine rM J J<|rY J J J<|aF h fun c2 e1 h=>ae.qv (kB J J e1) J<|rY J J J<|ae.qv (bY J J) J<|rY J J J<|rM J J<|ae.bW J J J (fun hc=>?_) (fun hc=>?_)
    ·rw [lM hc] at h
     refine rM J J<|rY J J J<|ae.qv (cu J) J<|rY J J J<|ae.qv (ir J J) J<|rY J J J<|rM J J<|ae.gg J J J (fun hc=>?_) (fun hc=>?_)
     ·rw [BE hc] at h
      exact rM J J<|rY J J J<|ae.qv (cu J) J<|rY J J J<|rM J J<|rY J J J<|ae.qv (cu J) J<|rY J J J<|ae.qv (ir J J) J<|rY J J J<|rE J J J<|rY J J J<|rT J J J<|rE J J J<|rN<|aa.stop<|ai.lq [] ⟨decide (((Lib.trimPrefix ab ([45]:aI)).length:Int) < (ab.length:Int)),h,J⟩ J J
     ·rw [BD hc] at h
      exact rG J J J J<|rG J J J J<|rG J J J J<|rG J J J J<|rY J J J<|rT J J J<|rY J J J<|rT J J J<|rE J J J<|rN<|aa.stop<|ai.lq [] ⟨true,h,J⟩ J J
    ·rw [lN hc] at h
     exact rG J J J J<|rG J J J J<|rG J J J J<|ae.br J J J<|ae.br J J J<|ae.br J J J<|ae.br J J J<|ae.br J J J<|rG J J J J<|rY J J J<|rE J J J<|rE J J J<|rN<|aa.stop<|ai.lq [] ⟨false,h,J⟩ J J
   ·exact rG J J J J<|rG J J J J<|rG J J J J<|ae.br J J J<|ae.br J J J<|ae.br J J J<|ae.br J J J<|ae.br J J J<|ae.br J J J<|ae.br J J J<|ae.br J J J<|ae.br J J J<|ae.br J J J<|rG J J J J<|rT J J J<|rN<|aa.stop<|ai.lq [] ⟨true,h,J⟩ J J
  ·exact rG J J J J<|rG J J J J<|rG J J J J<|rT J J J<|rM J J<|rG J J J J<|rG J J J J<|rG J J J J<|rG J J J J<|ae.br J J J<|ae.br J J J<|ae.br J J J<|ae.br J J J<|ae.br J J J<|ae.br J J J<|ae.br J J J<|ae.br J J J<|ae.br J J J<|ae.br J J J<|rG J J J J<|rT J J J<|rN<|aa.stop<|ai.lq [] ⟨true,h,J⟩ J J
 ·rintro aG ⟨c1,h,rfl⟩
  unfold ko at h
  refine cB h J (fun h=>?_) (fun h=>?_)
  ·refine aM<|rA J J<|rA J J<|rN<|aa.ret<|?_
   cases h
   exact hQ J J J
  ·refine tK<|tS<|aM<|rM J J<|ae.qv (cu J) J<|rM J J<|rN<|aa.block<|aa.cj (fun x:Int=>eh ab x) (fun x aG=>aG=⟨61,[(0,.str ab),(6,.str (Lib.trimPrefix ab ([45]:aI))),(38,I ((Lib.trimPrefix ab ([45]:aI)).length:Int)),(39,I x)],[]⟩) h ?_ ?_
   ·exact ai.lq [] J J J
   ·intro n4 z1 aG J1 eZ h mL iQ
    obtain rfl:=eZ
    replace h:eh ab n4=some z1:=h
    unfold eh at h
    refine aM<|ae.qv (bH J J) J<|rN<|tS<|cD h J (fun h=>?_) (fun h=>?_)
    ·refine tK<|tS<|aa.block<|aM<|rM J J<|rA J J<|rN<|tS<|aa.cut (fun aG=>∃ (c5:Bool),mu n4 c5=some z1∧aG=⟨61,[(0,.str ab),(6,.str (Lib.trimPrefix ab ([45]:aI))),(38,I ((Lib.trimPrefix ab ([45]:aI)).length:Int)),(39,I n4),(51,.bool c5)],[]⟩) ?_ ?_
     ·refine tR<|rM J J<|rM J J<|aF h fun c6 e2 h=>ae.qv (kB J J e2) J<|ae.qv (bH J J) J<|rM J J<|gF h J J J (fun h=>?_) (fun h=>?_)
      ·exact rM J J<|rY J J J<|rM J J<|rY J J J<|aF h fun c7 e3 h=>ae.qv (kB J J e3) J<|rY J J J<|ae.qv (ir J J) J<|rE J J J<|rN<|aa.stop<|ai.lq [] ⟨decide ((57:Int) < (c7.toNat:Int)),h,J⟩ J J
      ·exact rG J J J J<|rG J J J J<|rG J J J J<|rT J J J<|rN<|aa.stop<|ai.lq [] ⟨true,h,J⟩ J J
     ·rintro aG ⟨c5,h,rfl⟩
      unfold mu at h
      refine cB h J (fun h=>?_) (fun h=>?_)
      ·refine aM<|rA J J<|rA J J<|rN<|aa.ret<|have h:=cr h iQ;?_
       cases h
       exact hQ J J J
      ·refine tK<|aa.bN<|tR<|ae.qv (aU J J) J<|rM J J<|rN<|aa.stop<|?_
       cases h
       exact mL _ _ J<|ai.lq [] J J J
    ·refine aa.exit J<|have h:=cr h iQ;?_
     unfold oG at h
     refine aM<|rM J J<|aF h fun v8 e4 h=>HZ J (uI e4) cR J fun e9 e5=>rM J J<|rX J J J<|rX J J J<|rA J J<|rA J J<|rN<|tS<|aa.bL (id:=11) (A:=[0,0,2,1,15]) 5 mixed J (by kernel_rfl) (by kernel_rfl)<|AM.qv (aA J) J<|AM.qv (aA J) J<|AM.qv (Ph e5 J) J<|AM.qv (cU J) J<|AM.qv (cU J) J<|AM.nil<|rN<|aa.ret<|?_
     cases h
     exact hQ J J J
end Go.Proofs.YthamhifbccpcpaaGreatDoor
