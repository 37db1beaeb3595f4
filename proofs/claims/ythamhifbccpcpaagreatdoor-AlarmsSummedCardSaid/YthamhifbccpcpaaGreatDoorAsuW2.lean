/- The code computes the plain functions: proofs written by shal.py. -/
import Derived.Test.YthamhifbccpcpaaGreatDoorAsuW1
set_option maxHeartbeats 4000000
set_option maxRecDepth 100000
set_option linter.unusedVariables false
set_option linter.unusedSimpArgs false
namespace Go.Proofs.YthamhifbccpcpaaGreatDoor
open Go Go.Eng Go.Proofs Go.Beacon
attribute [local irreducible] ae aa AQ QV aJ ai O5 AM
theorem rn [GI:bF] {aY:Bk} {jN:Bk} {uX:Nat→Bk} {Q3:Nat→Nat→Bk} {Iu:Bk} {LD:Bk} {ab:bO} {ah:Signal} {r:Int×bO} (h:fc ab ah=some r):aJ Tryz.prog 125 [.ptr aY 0,Signal.av ah] [(aY,.cells [.jO Iu,.sl 1 LD 0 ab.jX.length]),(Iu,.mp (ab.rJ.map (fun e=>(aq.av e.1,(pA uX) e.2)))),(LD,.arr 1 (ab.jX.map (pA uX))),(jN,.bU (gl Iq uX Q3 ab.BS))] (T2 (fun LF LG=>[(aY,.cells [.jO Iu,.sl 1 LF 0 r.2.jX.length]),(Iu,.mp (r.2.rJ.map (fun e=>(aq.av e.1,(pA uX) e.2)))),(LF,.arr 1 (r.2.jX.map (pA uX))),(jN,.bU (gl Iq uX LG r.2.BS))]) (fun LF LG=>I r.1)):=by
 unfold fc at h
 refine aJ.fa ?_
 refine aJ.bD Tryz.func125 J Tryz.ntmps125 Tryz.results125 J J ?_
 refine aM<|jU J J J J fun b1=>rA J J<|rN<|tS<|aa.bL (id:=1) (A:=[0,1,3,7,0,16,0,64,240,511,0,2047,4095]) 11 mixed J (by kernel_rfl) (by kernel_rfl)<|AM.qv (aA J) J<|AM.qv (ax J) J<|AM.qv (aC J J) J<|AM.qv (aL J J .p1 J) J<|AM.qv (aC J J) J<|AM.qv (aL J J .p0 J) J<|AM.qv (aC J J) J<|AM.qv (aL J J .p0 J) J<|AM.qv (db J J J J J) J<|Ji h (fun e1 h=>?_) (fun n2 e1 h=>?_)
 ·refine AM.qv (o0 (gk:=aq.av) (gv:=(pA uX)) (M:=ab.rJ) (key:=(⟨ah.Device,ah.a8⟩:aq)) J J .p2 J e1) J<|AM.qv (bb J J .p0 J) J<|AM.nil<|?_
  cases h
 ·refine AM.qv (o1 (gk:=aq.av) (gv:=(pA uX)) (M:=ab.rJ) (key:=(⟨ah.Device,ah.a8⟩:aq)) J J .p2 e1) J<|AM.qv (bb J J .p0 J) J<|AM.nil<|aF h fun v3 e2 h=>ae.ghost<|ai.mV (kb:=Iq) e2 .p4 J<|ai.here<|aF h fun v4 e3 h=>qA J (vX e3) cR (.cons .p0 (.cons .p0 (.cons .p0 (.cons .p0 (.cons .p0 (.cons .p0 (.cons .p0 .nil))))))) (fun _ _ _ _ _ _=>J) J fun b5 b6 b7 b8 b9 nj=>rA J J<|ae.ghost<|ai.ph (kb:=Iq) (v':=v4.2) (s:=Jo [b5,b6,b7,b8,b9,nj]) e2 (.cons .p0 (.cons .p0 (.cons .p0 (.cons .p0 (.cons .p0 (.cons .p0 (.cons .p0 .nil))))))) J (fun _=>.p4) fun Xt=>ai.here<|rN<|aa.ret<|?_
  cases h
  exact hH J [1,1,1,1] J ⟨LD,Xt,J,J⟩
theorem AX [GI:bF] {ab:List Signal} {ah:Int} {r:bO} (h:qY ab ah=some r):aJ Tryz.prog 55 [iW ab,I ah] [] (T6 (fun mT AR AS FG tC AU=>[(mT,.cells [.jO AR,.sl 1 AS 0 r.jX.length]),(AR,.mp (r.rJ.map (fun e=>(aq.av e.1,(pA tC) e.2)))),(AS,.arr 1 (r.jX.map (pA tC))),(FG,.bU (gl Iq tC AU r.BS))]) (fun mT AR AS FG tC AU=>.ptr mT 0)):=by
 unfold qY at h
 refine aJ.fa ?_
 refine aJ.bD Tryz.func55 J Tryz.ntmps55 Tryz.results55 J J ?_
 refine aM<|rA J J<|rN<|aM<|rM J J<|aF h fun v1 e1 h=>qA J (yo e1) cR .nil (fun _ _ _ _ _ _=>J) J fun b2 b3 b4 b5 Q4 bs7=>rA J J<|rN<|tS<|aM<|rM J J<|ae.qv (dz J) J<|rM J J<|rN<|aa.block<|aa.cj (fun x:(List (aq×Int))×(List ak)×(List Int)×Int=>nW ab ah x.1 x.2.1 x.2.2.1 x.2.2.2) (fun x aG=>∃ (DK:Nat→Nat→Bk) (AW:Bk),aG=⟨25,[(1,I ah),(5,.ptr b2 0),(10,iW ab),(11,I (ab.length:Int)),(12,I x.2.2.2)],[(b2,.cells [.jO b3,.sl 1 AW 0 x.2.2.1.length]),(b3,.mp (x.1.map (fun e=>(aq.av e.1,(pA Q4) e.2)))),(b5,.bU (gl Iq Q4 DK x.2.1)),(AW,.arr 1 (x.2.2.1.map (pA Q4)))]⟩) h ?_ ?_
 ·exact ai.lq [0,0,1,0] ⟨bs7,b4,J⟩ J J
 ·intro x z1 aG J1 eZ h mM iQ
  obtain ⟨om,pG,uh,n19⟩:=x
  obtain ⟨DK,AW,rfl⟩:=eZ
  replace h:nW ab ah om pG uh n19=some z1:=h
  unfold nW at h
  refine aM<|ae.qv (bH J J) J<|rN<|tS<|cD h J (fun h=>?_) (fun h=>?_)
  ·refine tK<|tS<|aa.block<|aM<|aF h fun v20 e2 h=>ae.qv (bJ J J J e2 J J) J<|ae.qv (bA J J J) J<|bX J J J J fun Gw=>aB J J J J .p0 J J<|rN<|aM<|rF J J J<|rL J J .p0 J J<|rM J J<|ae.qv (rW J J) J<|rN<|aa.cut (fun aG=>∃ (uR:Nat→Nat→Bk) (vF:Bk) (gz:List (aq×Int)) (xq:List ak) (Jv:List Int),pH n19 gz xq Jv=some z1∧aG=⟨25,[(1,I ah),(5,.ptr b2 0),(10,iW ab),(11,I (ab.length:Int)),(12,I n19)],[(b2,.cells [.jO b3,.sl 1 vF 0 Jv.length]),(b3,.mp (gz.map (fun e=>(aq.av e.1,(pA Q4) e.2)))),(b5,.bU (gl Iq Q4 uR xq)),(vF,.arr 1 (Jv.map (pA Q4)))]⟩) ?_ ?_
   ·refine cD h J (fun h=>?_) (fun h=>?_)
    ·exact tR<|rM J J<|ae.qv (bb J J .p0 J) J<|aF h fun yj e3 h=>Nu J (rn e3) cR (.cons .p1 (.cons .p1 (.cons .p2 (.cons .p1 .nil)))) (fun _ _=>J) J fun VO LH=>rN<|aa.stop<|ai.lq [0,0,1,0] ⟨LH,VO,yj.2.rJ,yj.2.BS,yj.2.jX,h,J⟩ J J
    ·exact tK<|aa.stop<|ai.lq [1,1,1,1] ⟨DK,AW,om,pG,uh,h,J⟩ J J
   ·rintro aG ⟨uR,vF,gz,xq,Jv,h,rfl⟩
    unfold pH at h
    refine aa.bN<|tR<|ae.qv (aU J J) J<|rM J J<|rN<|aa.stop<|?_
    cases h
    exact mM _ _ J<|ai.lq [0,0,0,0] ⟨uR,vF,J⟩ J J
  ·refine aa.exit J<|have h:=cr h iQ;aM<|rM J J<|rA J J<|rN<|aa.ret<|?_
   cases h
   exact hH J [0,0,1,0] J ⟨b2,b3,AW,b5,Q4,DK,J,J⟩
theorem dw [GI:bF] {ab:Int} {ah:au} {r:Bool} (h:bB ab ah=r):Pu Tryz.prog 54 [I ab,.eo [I ah.bg,I ah.To]] (.bool r):=by
 unfold bB at h
 refine aJ.bD Tryz.func54 J Tryz.ntmps54 Tryz.results54 J J ?_
 refine aM<|rA J J<|rN<|tS<|aa.cut (fun aG=>∃ (c1:Bool),mr c1=r∧aG=⟨14,[(3,.bool c1)],[]⟩) ?_ ?_
 ·refine tR<|rM J J<|ae.qv (aQ J J) J<|ae.qv (aH J J J) J<|ae.qv (rZ J J) J<|rM J J<|ae.bW J J J (fun hc=>?_) (fun hc=>?_)
  ·rw [lM hc] at h
   exact rM J J<|rY J J J<|ae.qv (aQ J J) J<|rY J J J<|ae.qv (aH J J J) J<|rY J J J<|ae.qv (bH J J) J<|rT J J J<|rA J J<|rN<|aa.stop<|ai.lq [] ⟨decide (ab < ah.To),h,J⟩ J J
  ·rw [lN hc] at h
   exact rG J J J J<|rG J J J J<|rG J J J J<|rE J J J<|rA J J<|rN<|aa.stop<|ai.lq [] ⟨false,h,J⟩ J J
 ·rintro aG ⟨c1,h,rfl⟩
  unfold mr at h
  refine aa.ret<|?_
  obtain rfl:=h
  exact hP J J
theorem vY [GI:bF] {ab:aj} {ah:aj} {r:Int} (h:ju ab ah=r):Pu Tryz.prog 57 [aj.av ab,aj.av ah] (I r):=by
 unfold ju at h
 refine aJ.bD Tryz.func57 J Tryz.ntmps57 Tryz.results57 J J ?_
 refine aM<|jU J J J J fun b1=>jU J J J J fun b2=>rA J J<|rN<|aM<|rF J J J<|rL J J .p1 J J<|rF J J J<|rL J J .p0 J J<|bw J (dC J) cR J<|rA J J<|rN<|aa.ret<|?_
 obtain rfl:=h
 exact hP J J
theorem oe:Pj Tryz.prog 56 5:=⟨fun enc hk h1 cf hO g cb bN off cap d w eg hc hH hb hs=>AnyQ.slices_SortFunc_eq Tryz.Ij 5 Tryz.isAgg41 Tryz.sizeOf41 enc hk h1 cf hO g cb bN off cap d w eg hc hH hb hs,fun p cap fv w=>AnyF.slices_SortFunc_none Tryz.Ij p cap fv w⟩
theorem og [GI:bF] {aY:Bk} {ab:List aj} {oL:aj→aj→Option Int} {oI:FuncId} [bu Tryz.prog oI] {rk:List AV} (yX:∀ {y0 y1:_} {u:Int},oL y0 y1=some u→@Pu mD Tryz.prog oI (aj.av y0 :: aj.av y1 :: rk) (I u)) {r:(List aj)} (h:fX ab oL=some r):aJ Tryz.prog 56 [.sl 5 aY 0 ab.length,.func (.func oI) rk] [(aY,.arr 5 (ab.map aj.av))] (T0 [(aY,.arr 5 (r.map aj.av))] (.iV [])):=
 GP (fn:=oL) oe J @yX (fun _=>J) h
theorem yp [GI:bF] {ab:List Signal} {ah:au} {r:(List aj)×Int} (h:iK ab ah=some r):aJ Tryz.prog 9 [iW ab,au.av ah] [] (T1 (fun mT=>[(mT,Jw r.1)]) (fun mT=>.iV [.sl 5 mT 0 r.1.length,I r.2])):=by
 unfold iK at h
 refine aJ.fa ?_
 refine aJ.bD Tryz.func9 J Tryz.ntmps9 Tryz.results9 J J ?_
 refine aa.ghost (ai.Dv (kb:=sv) (fun b1 Xu Xv=>ai.here ?_))
 refine aM<|jU J J J J fun b4=>rA J J<|rA J J<|rN<|tS<|aM<|rM J J<|aF h fun v5 e1 h=>bw J (jA e1) cR J<|rA J J<|rN<|aM<|rM J J<|ae.qv (jb J J) J<|rN<|cD h J (fun h=>?_) (fun h=>?_)
 ·refine aM<|rM J J<|rA J J<|rA J J<|rN<|aa.ret<|?_
  cases h
  exact ai.arr (s:=4) 5 J fun b6=>ai.here ⟨_,.cons (.tmp _ _ J) (.cons (.tmp _ _ J) .nil),_,.cons .p0 .nil,⟨b6,J,J⟩⟩
 ·refine tK<|tS<|aM<|ae.qv (bb J J .p0 J) J<|bw J (BX J) cR J<|ae.qv (fj J) J<|rN<|cB h J (fun h=>?_) (fun h=>?_)
  ·refine aM<|rA J J<|rA J J<|rN<|aa.ret<|?_
   cases h
   exact ai.arr (s:=4) 5 J fun b7=>ai.here ⟨_,.cons (.tmp _ _ J) (.cons (.tmp _ _ J) .nil),_,.cons .p0 .nil,⟨b7,J,J⟩⟩
  ·refine tK<|aM<|ae.qv (td J) J<|rA J J<|rN<|aM<|vy J fun b8=>rA J J<|rN<|tS<|aM<|rM J J<|aF h fun v9 e2 h=>qA J (AX e2) cR .nil (fun _ _ _ _ _ _=>J) J fun nj Q2 xB FI ag7 ag8=>ae.qv (ax J) J<|rF J J J<|rL J J .p0 J J<|aF h fun kA e3 h=>ae.ghost<|ai.Lk (s:=35) J (.cons .p2 (.cons .p2 .nil)) (ot.QG Xm e3 (.inl .p0) .p1)<|ai.here<|ae.qv (dz J) J<|rM J J<|rN<|aa.block<|aa.cj (fun x:(List aj)×(List (aI×Int))×Int=>dU ah kA x.1 x.2.1 x.2.2) (fun x aG=>∃ (kr:Nat→Bk) (uR:Nat→Nat→Bk),aG=⟨169,[(3,.ptr b4 0),(7,.func (.func 54) [.ptr b4 0]),(8,.jO b8),(35,Em kA),(36,I (kA.length:Int)),(37,I x.2.2)],[(b1,.bU (gl sv kr uR x.1)),(b4,.cells [I ah.bg,I ah.To]),(b8,.mp (x.2.1.map (fun e=>(AV.str e.1,(pA kr) e.2))))]⟩) h ?_ ?_
   ·exact ai.lq [4,3,2] ⟨Xu,Xv,J⟩ J J
   ·intro x z1 aG J1 eZ h mM iQ
    obtain ⟨gz,eO,n26⟩:=x
    obtain ⟨kr,uR,rfl⟩:=eZ
    replace h:dU ah kA gz eO n26=some z1:=h
    unfold dU at h
    refine aM<|ae.qv (bH J J) J<|rN<|tS<|cD h J (fun h=>?_) (fun h=>?_)
    ·refine tK<|tS<|aa.cut (fun aG=>∃ (OA:Nat→Bk) (LH:Nat→Nat→Bk) (Lr:List aj) (TI:List (aI×Int)),bt n26 Lr TI=some z1∧aG=⟨169,[(3,.ptr b4 0),(7,.func (.func 54) [.ptr b4 0]),(8,.jO b8),(35,Em kA),(36,I (kA.length:Int)),(37,I n26)],[(b1,.bU (gl sv OA LH Lr)),(b4,.cells [I ah.bg,I ah.To]),(b8,.mp (TI.map (fun e=>(AV.str e.1,(pA OA) e.2))))]⟩) ?_ ?_
     ·refine aa.block<|aM<|aF h fun v31 e4 h=>ae.qv (bJ J J J e4 J J) J<|ae.qv (aH J J J) J<|rA J J<|rN<|tS<|aM<|rM J J<|rM J J<|ae.qv (aP J) J<|ae.qv (aQ J J) J<|ae.qv (aQ J J) J<|ae.qv (aH J J J) J<|Ji h (fun e5 h=>?_) (fun n32 e5 h=>?_)
      ·refine ae.qv (o0 (gk:=AV.str) (gv:=(pA kr)) (M:=eO) (key:=v31.aR.aN) J J .p2 J e5) J<|ae.qv (Az J J) J<|rN<|aa.C1 J<|aa.iS (id:=12) (A:=[0,0,2,6,14,30,0,64,192,448,960,1984,4032,8191]) (H0:=[]) (HH:=fun β=>[((β 12),.cells [.str v31.aR.aN,I (0:Int),I (0:Int),I (0:Int),I (0:Int)]),(b1,.bU (gl sv kr uR gz)),(b4,.cells [I ah.bg,I ah.To]),(b8,.mp (eO.map (fun e=>(AV.str e.1,(pA kr) e.2))))]) 13 mixed J (by kernel_rfl) (by kernel_rfl) [⟨some 12,none,[],fun b=>(b,.cells [.str v31.aR.aN,I (0:Int),I (0:Int),I (0:Int),I (0:Int)]),none,[]⟩] [12] J (by kernel_rfl) J .nil (fun _=>J)<|AT.am 12 J J<|AM.qv (aA J) J<|AM.qv (aA J) J<|AM.qv (aP J) J<|AM.qv (aQ J J) J<|AM.qv (aQ J J) J<|AM.qv (aH J J J) J<|AM.qv (aA J) J<|AM.qv (aP J) J<|AM.qv (aQ J J) J<|AM.qv (aQ J J) J<|AM.qv (aH J J J) J<|AM.qv (db J J J J J) J<|AM.nil<|AT.BK (V:=fun b=>.ptr b 0) (Ti:=[]) (Pi:=fun b=>[(b,.cells [.str v31.aR.aN,I (0:Int),I (0:Int),I (0:Int),I (0:Int)])]) (fun _=>J) (fun _=>J) (fun _ _=>J) J (fun _=>J) J J J ?_ ?_
       ·exact jU J J J J fun VP=>ae.nil ⟨VP,_,J,J⟩
       refine AT.ue (fun _=>J) fun β=>?_
       generalize β 12=VP
       clear β
       refine aF h fun u34 e6 h=>ae.ghost<|ai.Dw (kb:=sv) (v:=(⟨v31.aR.aN,(0:Int),(0:Int),(0:Int),(0:Int)⟩:aj)) (s:=Jo []) (.cons .p0 .nil) J (fun _ _=>.p0) fun o8 LJ Xw Xx=>ai.here<|ae.ghost<|ai.N7 (Pt Xw e6) .p2<|ai.here<|ae.ghost<|ai.eqs (s:=61) (eW:=.ptr (o8 (gz.length:Int).toNat) 0) J (AG Xx _)<|ai.here<|uG (gk:=AV.str) (gv:=(pA o8)) (M:=eO) (key:=v31.aR.aN) (v:=(gz.length:Int)) J J J J .p2<|rN<|aM<|rM J J<|rM J J<|ae.qv (aP J) J<|ae.qv (aQ J J) J<|ae.qv (aQ J J) J<|ae.qv (aH J J J) J<|Ji h (fun e8 h=>?_) (fun n37 e8 h=>?_)
       ·refine ae.qv (o0 (gk:=AV.str) (gv:=(pA o8)) (M:=(gV eO v31.aR.aN (gz.length:Int))) (key:=v31.aR.aN) J J .p2 J e8) J<|rA J J<|rN<|tS<|aM<|rM J J<|ae.qv (aP J) J<|ae.qv (aQ J J) J<|ae.qv (aH J J J) J<|ae.qv (dz J) J<|rM J J<|rN<|aa.block<|aa.cj (fun x:Int=>lU ah gz eO n26 v31 x) (fun x aG=>aG=⟨169,[(3,.ptr b4 0),(7,.func (.func 54) [.ptr b4 0]),(8,.jO b8),(10,.eo [.str v31.aR.aK,.str v31.aR.aN,I v31.az,I v31.bM,gx v31.aD,I v31.ay,qF v31.eV,qF v31.bC,qF v31.bh,gx v31.bf,gx v31.aW]),(11,.raw (.pointer none)),(35,Em kA),(36,I (kA.length:Int)),(37,I n26),(72,gx v31.aD),(73,I (v31.aD.length:Int)),(74,I x)],[(b1,.bU (gl sv o8 LJ (gz++[(⟨v31.aR.aN,(0:Int),(0:Int),(0:Int),(0:Int)⟩:aj)]))),(b4,.cells [I ah.bg,I ah.To]),(b8,.mp ((gV eO v31.aR.aN (gz.length:Int)).map (fun e=>(AV.str e.1,(pA o8) e.2))))]⟩) h ?_ ?_
        ·exact ai.lq [0,0,0] J J J
        ·intro n39 z2 aG J2 eZ h FE FF
         obtain rfl:=eZ
         replace h:lU ah gz eO n26 v31 n39=some z2:=h
         unfold lU at h
         refine aM<|ae.qv (bH J J) J<|rN<|tS<|cD h J (fun h=>?_) (fun h=>?_)
         ·refine tK<|tS<|aa.block<|aM<|aF h fun v40 e9 h=>ae.qv (bJ J J J e9 J J) J<|ae.qv (aH J J J) J<|rA J J<|rN<|aM<|rM J J<|rM J J<|nT J J (dw J) (.cons (.co (.refl _)) (.cons (.C9 _ _ _ .p1 (.cons (.co (.refl _)) (.cons (.co (.refl _)) .nil))) .nil)) J J<|rN<|cB h J (fun h=>?_) (fun h=>?_)
          ·refine tR<|rM J J<|?_
           cases h
          ·refine tK<|aa.bN<|tR<|ae.qv (aU J J) J<|rM J J<|rN<|aa.stop<|?_
           cases h
           exact FE _ _ J<|ai.lq [0,0,0] J J J
         ·refine aa.exit J<|have h:=cr h FF;tS<|aM<|rM J J<|ae.qv (aP J) J<|ae.qv (aQ J J) J<|ae.qv (aH J J J) J<|ae.qv (dz J) J<|rM J J<|rN<|aa.block<|aa.cj (fun x:Int=>lT ah gz eO n26 v31 x) (fun x aG=>aG=⟨169,[(3,.ptr b4 0),(7,.func (.func 54) [.ptr b4 0]),(8,.jO b8),(10,.eo [.str v31.aR.aK,.str v31.aR.aN,I v31.az,I v31.bM,gx v31.aD,I v31.ay,qF v31.eV,qF v31.bC,qF v31.bh,gx v31.bf,gx v31.aW]),(11,.raw (.pointer none)),(35,Em kA),(36,I (kA.length:Int)),(37,I n26),(92,gx v31.bf),(93,I (v31.bf.length:Int)),(94,I x)],[(b1,.bU (gl sv o8 LJ (gz++[(⟨v31.aR.aN,(0:Int),(0:Int),(0:Int),(0:Int)⟩:aj)]))),(b4,.cells [I ah.bg,I ah.To]),(b8,.mp ((gV eO v31.aR.aN (gz.length:Int)).map (fun e=>(AV.str e.1,(pA o8) e.2))))]⟩) h ?_ ?_
          ·exact ai.lq [0,0,0] J J J
          ·intro n42 z3 aG J3 eZ h QX QY
           obtain rfl:=eZ
           replace h:lT ah gz eO n26 v31 n42=some z3:=h
           unfold lT at h
           refine aM<|ae.qv (bH J J) J<|rN<|tS<|cD h J (fun h=>?_) (fun h=>?_)
           ·refine tK<|tS<|aa.block<|aM<|rM J J<|aF h fun Ju vT h=>ae.qv (bJ J J J vT J J) J<|ae.qv (aH J J J) J<|rA J J<|rA J J<|rN<|aM<|rM J J<|rM J J<|nT J J (dw J) (.cons (.co (.refl _)) (.cons (.C9 _ _ _ .p1 (.cons (.co (.refl _)) (.cons (.co (.refl _)) .nil))) .nil)) J J<|rN<|cB h J (fun h=>?_) (fun h=>?_)
            ·refine aM<|rM J J<|?_
             cases h
            ·refine tK<|aa.bN<|tR<|ae.qv (aU J J) J<|rM J J<|rN<|aa.stop<|?_
             cases h
             exact QX _ _ J<|ai.lq [0,0,0] J J J
           ·refine aa.exit J<|have h:=cr h QY;aM<|rM J J<|ae.qv (aP J) J<|ae.qv (aQ J J) J<|ae.qv (aH J J J) J<|ae.qv (dz J) J<|rM J J<|rN<|aa.block<|aa.cj (fun x:Unit=>lS gz eO n26 v31) (fun x aG=>aG=⟨169,[(3,.ptr b4 0),(7,.func (.func 54) [.ptr b4 0]),(8,.jO b8),(11,.raw (.pointer none)),(35,Em kA),(36,I (kA.length:Int)),(37,I n26),(127,qF v31.eV),(128,I (v31.eV.length:Int)),(129,I (0:Int))],[(b1,.bU (gl sv o8 LJ (gz++[(⟨v31.aR.aN,(0:Int),(0:Int),(0:Int),(0:Int)⟩:aj)]))),(b4,.cells [I ah.bg,I ah.To]),(b8,.mp ((gV eO v31.aR.aN (gz.length:Int)).map (fun e=>(AV.str e.1,(pA o8) e.2))))]⟩) h ?_ ?_
            ·exact ai.lq [0,0,0] J J J
            ·intro x z4 aG J4 eZ h VN Ua
             obtain rfl:=eZ
             replace h:lS gz eO n26 v31=some z4:=h
             unfold lS at h
             refine aM<|ae.qv (bH J J) J<|rN<|tS<|cD h J (fun h=>?_) (fun h=>?_)
             ·refine tK<|tS<|aa.block<|aM<|aF h fun v44 zp h=>ae.qv (bJ J J J zp J J) J<|ae.qv (bA J J J) J<|bX J J J J fun Q1=>aB J J J J .p0 J J<|rN<|aa.bL (id:=30) (A:=[0,1,3,7,0,16,0,64,240,0,512,0,2048,7680,16368,32752,65535,131071,262143,524287]) 19 mixed J (by kernel_rfl) (by kernel_rfl)<|AM.qv (aA J) J<|?_
              cases h
             ·exact aa.exit J<|have h:=cr h Ua;aa.bN<|aa.stop<|ai.lq [0,0,0] ⟨o8,LJ,gz++[(⟨v31.aR.aN,(0:Int),(0:Int),(0:Int),(0:Int)⟩:aj)],gV eO v31.aR.aN (gz.length:Int),h,J⟩ J J
       ·refine ae.qv (o1 (gk:=AV.str) (gv:=(pA o8)) (M:=(gV eO v31.aR.aN (gz.length:Int))) (key:=v31.aR.aN) J J .p2 e8) J<|rA J J<|rN<|tS<|aM<|rM J J<|ae.qv (aP J) J<|ae.qv (aQ J J) J<|ae.qv (aH J J J) J<|ae.qv (dz J) J<|rM J J<|rN<|aa.block<|aa.cj (fun x:(List aj)×Int=>eR ah gz eO n26 v31 n37 x.1 x.2) (fun x aG=>∃ (He:Nat→Nat→Bk),aG=⟨169,[(3,.ptr b4 0),(7,.func (.func 54) [.ptr b4 0]),(8,.jO b8),(10,.eo [.str v31.aR.aK,.str v31.aR.aN,I v31.az,I v31.bM,gx v31.aD,I v31.ay,qF v31.eV,qF v31.bC,qF v31.bh,gx v31.bf,gx v31.aW]),(11,.ptr (o8 n37.toNat) 0),(35,Em kA),(36,I (kA.length:Int)),(37,I n26),(72,gx v31.aD),(73,I (v31.aD.length:Int)),(74,I x.2)],[(b1,.bU (gl sv o8 He x.1)),(b4,.cells [I ah.bg,I ah.To]),(b8,.mp ((gV eO v31.aR.aN (gz.length:Int)).map (fun e=>(AV.str e.1,(pA o8) e.2))))]⟩) h ?_ ?_
        ·exact ai.lq [0,0,0] ⟨LJ,J⟩ J J
        ·intro x z5 aG J5 eZ h Ub Uc
         obtain ⟨MZ,n51⟩:=x
         obtain ⟨He,rfl⟩:=eZ
         replace h:eR ah gz eO n26 v31 n37 MZ n51=some z5:=h
         unfold eR at h
         refine aM<|ae.qv (bH J J) J<|rN<|tS<|cD h J (fun h=>?_) (fun h=>?_)
         ·refine tK<|tS<|aa.block<|aM<|aF h fun BU Gv h=>ae.qv (bJ J J J Gv J J) J<|ae.qv (aH J J J) J<|rA J J<|rN<|aM<|rM J J<|rM J J<|nT J J (dw J) (.cons (.co (.refl _)) (.cons (.C9 _ _ _ .p1 (.cons (.co (.refl _)) (.cons (.co (.refl _)) .nil))) .nil)) J J<|rN<|aa.cut (fun aG=>∃ (Q5:Nat→Nat→Bk) (G6:List aj),jv n51 G6=some z5∧aG=⟨169,[(3,.ptr b4 0),(7,.func (.func 54) [.ptr b4 0]),(8,.jO b8),(10,.eo [.str v31.aR.aK,.str v31.aR.aN,I v31.az,I v31.bM,gx v31.aD,I v31.ay,qF v31.eV,qF v31.bC,qF v31.bh,gx v31.bf,gx v31.aW]),(11,.ptr (o8 n37.toNat) 0),(35,Em kA),(36,I (kA.length:Int)),(37,I n26),(72,gx v31.aD),(73,I (v31.aD.length:Int)),(74,I n51)],[(b1,.bU (gl sv o8 Q5 G6)),(b4,.cells [I ah.bg,I ah.To]),(b8,.mp ((gV eO v31.aR.aN (gz.length:Int)).map (fun e=>(AV.str e.1,(pA o8) e.2))))]⟩) ?_ ?_
          ·refine cB h J (fun h=>?_) (fun h=>?_)
           ·exact tR<|rM J J<|ae.qv (ax J) J<|rF J J J<|aF h fun v55 Ir h=>ae.qv (QV.ara (kb:=sv) Ir .p0 J (aL J J .p0 J)) J<|ae.qv (aU J J) J<|ae.qv (ax J) J<|rF J J J<|ae.ghost<|ai.mV (kb:=sv) Ir .p0 J<|ai.here<|aB J J J J .p0 J J<|ae.ghost<|ai.ph (kb:=sv) (v':=(⟨v55.a8,aT (v55.bS+(1:Int)),v55.dh,v55.bV,v55.Time⟩:aj)) (s:=Jo []) Ir (.cons .p0 .nil) J (fun _=>.p0) fun Xy=>ai.here<|rN<|aa.stop<|ai.lq [0,0,0] ⟨Xy,MZ.set n37.toNat (⟨v55.a8,aT (v55.bS+(1:Int)),v55.dh,v55.bV,v55.Time⟩:aj),h,J⟩ J J
           ·exact tK<|aa.stop<|ai.lq [0,0,0] ⟨He,MZ,h,J⟩ J J
          ·rintro aG ⟨Q5,G6,h,rfl⟩
           unfold jv at h
           refine aa.bN<|tR<|ae.qv (aU J J) J<|rM J J<|rN<|aa.stop<|?_
           cases h
           exact Ub _ _ J<|ai.lq [0,0,0] ⟨Q5,J⟩ J J
         ·refine aa.exit J<|have h:=cr h Uc;tS<|aM<|rM J J<|ae.qv (aP J) J<|ae.qv (aQ J J) J<|ae.qv (aH J J J) J<|ae.qv (dz J) J<|rM J J<|rN<|aa.block<|aa.cj (fun x:(List aj)×Int=>eQ ah gz eO n26 v31 n37 x.1 x.2) (fun x aG=>∃ (OB:Nat→Nat→Bk),aG=⟨169,[(3,.ptr b4 0),(7,.func (.func 54) [.ptr b4 0]),(8,.jO b8),(10,.eo [.str v31.aR.aK,.str v31.aR.aN,I v31.az,I v31.bM,gx v31.aD,I v31.ay,qF v31.eV,qF v31.bC,qF v31.bh,gx v31.bf,gx v31.aW]),(11,.ptr (o8 n37.toNat) 0),(35,Em kA),(36,I (kA.length:Int)),(37,I n26),(92,gx v31.bf),(93,I (v31.bf.length:Int)),(94,I x.2)],[(b1,.bU (gl sv o8 OB x.1)),(b4,.cells [I ah.bg,I ah.To]),(b8,.mp ((gV eO v31.aR.aN (gz.length:Int)).map (fun e=>(AV.str e.1,(pA o8) e.2))))]⟩) h ?_ ?_
          ·exact ai.lq [0,0,0] ⟨He,J⟩ J J
          ·intro x z6 aG J6 eZ h hJ6 hA6
           obtain ⟨MY,n62⟩:=x
           obtain ⟨OB,rfl⟩:=eZ
           replace h:eQ ah gz eO n26 v31 n37 MY n62=some z6:=h
           unfold eQ at h
           refine aM<|ae.qv (bH J J) J<|rN<|tS<|cD h J (fun h=>?_) (fun h=>?_)
           ·refine tK<|tS<|aa.block<|aM<|rM J J<|aF h fun v63 M4 h=>ae.qv (bJ J J J M4 J J) J<|ae.qv (aH J J J) J<|rA J J<|rA J J<|rN<|aM<|rM J J<|rM J J<|nT J J (dw J) (.cons (.co (.refl _)) (.cons (.C9 _ _ _ .p1 (.cons (.co (.refl _)) (.cons (.co (.refl _)) .nil))) .nil)) J J<|rN<|aa.cut (fun aG=>∃ (Q6:Nat→Nat→Bk) (TJ:List aj),jw n62 TJ=some z6∧aG=⟨169,[(3,.ptr b4 0),(7,.func (.func 54) [.ptr b4 0]),(8,.jO b8),(10,.eo [.str v31.aR.aK,.str v31.aR.aN,I v31.az,I v31.bM,gx v31.aD,I v31.ay,qF v31.eV,qF v31.bC,qF v31.bh,gx v31.bf,gx v31.aW]),(11,.ptr (o8 n37.toNat) 0),(35,Em kA),(36,I (kA.length:Int)),(37,I n26),(92,gx v31.bf),(93,I (v31.bf.length:Int)),(94,I n62)],[(b1,.bU (gl sv o8 Q6 TJ)),(b4,.cells [I ah.bg,I ah.To]),(b8,.mp ((gV eO v31.aR.aN (gz.length:Int)).map (fun e=>(AV.str e.1,(pA o8) e.2))))]⟩) ?_ ?_
            ·refine cB h J (fun h=>?_) (fun h=>?_)
             ·exact aM<|rM J J<|ae.qv (ax J) J<|rF J J J<|aF h fun v66 AN h=>ae.qv (QV.ara (kb:=sv) AN .p0 J (aL J J .p0 J)) J<|ae.qv (aU J J) J<|ae.qv (ax J) J<|rF J J J<|ae.ghost<|ai.mV (kb:=sv) AN .p0 J<|ai.here<|aB J J J J .p0 J J<|ae.ghost<|ai.ph (kb:=sv) (v':=(⟨v66.a8,v66.bS,aT (v66.dh+(1:Int)),v66.bV,v66.Time⟩:aj)) (s:=Jo []) AN (.cons .p0 .nil) J (fun _=>.p0) fun ag9=>ai.here<|rN<|aa.ghost<|ai.mV (kb:=sv) (fA (v:=(⟨v66.a8,v66.bS,aT (v66.dh+(1:Int)),v66.bV,v66.Time⟩:aj)) AN) .p0 J<|ai.here<|aa.bL (id:=25) (A:=[0,1,3,7,0,16,48,112,0,496,1008,2047,4095,8191,16383]) 14 mixed J (by kernel_rfl) (by kernel_rfl)<|AM.qv (aA J) J<|AM.qv (ax J) J<|AM.qv (aC J J) J<|AM.qv (aL J J .p0 J) J<|AM.qv (aA J) J<|AM.qv (aP J) J<|AM.qv (aQ J J) J<|AM.qv (aH J J J) J<|AM.qv (aA J) J<|aF h fun G9 Sc h=>AM.qv (bJ J J J Sc J J) J<|AM.qv (aH J J J) J<|AM.qv (aU J J) J<|AM.qv (ax J) J<|AM.qv (aC J J) J<|AM.nil<|aB J J J J .p0 J J<|ae.ghost<|ai.ph (kb:=sv) (v':=(⟨v66.a8,v66.bS,aT (v66.dh+(1:Int)),aT (v66.bV+G9),v66.Time⟩:aj)) (s:=Jo []) (fA (v:=(⟨v66.a8,v66.bS,aT (v66.dh+(1:Int)),v66.bV,v66.Time⟩:aj)) AN) (.cons .p0 .nil) J (fun _=>.p0) fun Xz=>ai.here<|rN<|aa.stop<|ai.lq [0,0,0] ⟨Xz,(MY.set n37.toNat (⟨v66.a8,v66.bS,aT (v66.dh+(1:Int)),v66.bV,v66.Time⟩:aj)).set n37.toNat (⟨v66.a8,v66.bS,aT (v66.dh+(1:Int)),aT (v66.bV+G9),v66.Time⟩:aj),h,J⟩ J J
             ·exact tK<|aa.stop<|ai.lq [0,0,0] ⟨OB,MY,h,J⟩ J J
            ·rintro aG ⟨Q6,TJ,h,rfl⟩
             unfold jw at h
             refine aa.bN<|tR<|ae.qv (aU J J) J<|rM J J<|rN<|aa.stop<|?_
             cases h
             exact hJ6 _ _ J<|ai.lq [0,0,0] ⟨Q6,J⟩ J J
           ·refine aa.exit J<|have h:=cr h hA6;aM<|rM J J<|ae.qv (aP J) J<|ae.qv (aQ J J) J<|ae.qv (aH J J J) J<|ae.qv (dz J) J<|rM J J<|rN<|aa.block<|aa.cj (fun x:(List aj)×Int=>eP ah gz eO n26 v31 n37 x.1 x.2) (fun x aG=>∃ (Q7:Nat→Nat→Bk),aG=⟨169,[(3,.ptr b4 0),(7,.func (.func 54) [.ptr b4 0]),(8,.jO b8),(11,.ptr (o8 n37.toNat) 0),(35,Em kA),(36,I (kA.length:Int)),(37,I n26),(127,qF v31.eV),(128,I (v31.eV.length:Int)),(129,I x.2)],[(b1,.bU (gl sv o8 Q7 x.1)),(b4,.cells [I ah.bg,I ah.To]),(b8,.mp ((gV eO v31.aR.aN (gz.length:Int)).map (fun e=>(AV.str e.1,(pA o8) e.2))))]⟩) h ?_ ?_
            ·exact ai.lq [0,0,0] ⟨OB,J⟩ J J
            ·intro x z7 aG J7 eZ h hJ7 hA7
             obtain ⟨Pz,QR⟩:=x
             obtain ⟨Q7,rfl⟩:=eZ
             replace h:eP ah gz eO n26 v31 n37 Pz QR=some z7:=h
             unfold eP at h
             refine aM<|ae.qv (bH J J) J<|rN<|tS<|cD h J (fun h=>?_) (fun h=>?_)
             ·refine tK<|tS<|aa.block<|aM<|aF h fun v76 Ud h=>ae.qv (bJ J J J Ud J J) J<|ae.qv (bA J J J) J<|bX J J J J fun b77=>aB J J J J .p0 J J<|rN<|aF h fun v78 PA h=>aa.ghost<|ai.mV (kb:=sv) PA .p1 J<|ai.here<|aa.bL (id:=30) (A:=[0,1,3,7,0,16,0,64,240,0,512,0,2048,7680,16368,32752,65535,131071,262143,524287]) 19 mixed J (by kernel_rfl) (by kernel_rfl)<|AM.qv (aA J) J<|AM.qv (ax J) J<|AM.qv (aC J J) J<|AM.qv (aL J J .p0 J) J<|AM.qv (aC J J) J<|AM.qv (aL J J .p1 J) J<|AM.qv (aC J J) J<|AM.qv (aL J J .p3 J) J<|AM.qv (HI J J) J<|AM.qv (aC J J) J<|AM.qv (aL J J .p1 J) J<|AM.qv (aC J J) J<|AM.qv (aL J J .p3 J) J<|AM.qv (Es J J) J<|AM.qv (bR J J) J<|AM.qv (Es J J) J<|AM.qv (aU J J) J<|AM.qv (ax J) J<|AM.qv (aC J J) J<|AM.nil<|aB J J J J .p0 J J<|ae.ghost<|ai.ph (kb:=sv) (v':=(⟨v78.a8,v78.bS,v78.dh,v78.bV,aT (v78.Time+(max (0:Int) (aT ((min v76.To ah.To) - (max v76.bg ah.bg)))))⟩:aj)) (s:=Jo []) PA (.cons .p0 .nil) J (fun _=>.p1) fun XA=>ai.here<|rN<|aa.bN<|tR<|ae.qv (aU J J) J<|rM J J<|rN<|aa.stop<|?_
              cases h
              exact hJ7 _ _ J<|ai.lq [1,1,1] ⟨XA,J⟩ J J
             ·exact aa.exit J<|have h:=cr h hA7;aa.bN<|aa.stop<|ai.lq [0,0,0] ⟨o8,Q7,Pz,gV eO v31.aR.aN (gz.length:Int),h,J⟩ J J
      ·refine ae.qv (o1 (gk:=AV.str) (gv:=(pA kr)) (M:=eO) (key:=v31.aR.aN) J J .p2 e5) J<|ae.qv (Dr J J) J<|rN<|aa.C2 J<|tK<|aM<|rM J J<|rM J J<|ae.qv (aP J) J<|ae.qv (aQ J J) J<|ae.qv (aQ J J) J<|ae.qv (aH J J J) J<|Ji h (fun Oz h=>?_) (fun vC Oz h=>?_)
       ·refine ae.qv (o0 (gk:=AV.str) (gv:=(pA kr)) (M:=eO) (key:=v31.aR.aN) J J .p2 J Oz) J<|rA J J<|rN<|tS<|aM<|rM J J<|ae.qv (aP J) J<|ae.qv (aQ J J) J<|ae.qv (aH J J J) J<|ae.qv (dz J) J<|rM J J<|rN<|aa.block<|aa.cj (fun x:Int=>lX ah gz eO n26 v31 x) (fun x aG=>aG=⟨169,[(3,.ptr b4 0),(7,.func (.func 54) [.ptr b4 0]),(8,.jO b8),(10,.eo [.str v31.aR.aK,.str v31.aR.aN,I v31.az,I v31.bM,gx v31.aD,I v31.ay,qF v31.eV,qF v31.bC,qF v31.bh,gx v31.bf,gx v31.aW]),(11,.raw (.pointer none)),(35,Em kA),(36,I (kA.length:Int)),(37,I n26),(72,gx v31.aD),(73,I (v31.aD.length:Int)),(74,I x)],[(b1,.bU (gl sv kr uR gz)),(b4,.cells [I ah.bg,I ah.To]),(b8,.mp (eO.map (fun e=>(AV.str e.1,(pA kr) e.2))))]⟩) h ?_ ?_
        ·exact ai.lq [0,0,0] J J J
        ·intro QT z8 aG J8 eZ h hJ8 hA8
         obtain rfl:=eZ
         replace h:lX ah gz eO n26 v31 QT=some z8:=h
         unfold lX at h
         refine aM<|ae.qv (bH J J) J<|rN<|tS<|cD h J (fun h=>?_) (fun h=>?_)
         ·refine tK<|tS<|aa.block<|aM<|aF h fun v83 Ue h=>ae.qv (bJ J J J Ue J J) J<|ae.qv (aH J J J) J<|rA J J<|rN<|aM<|rM J J<|rM J J<|nT J J (dw J) (.cons (.co (.refl _)) (.cons (.C9 _ _ _ .p1 (.cons (.co (.refl _)) (.cons (.co (.refl _)) .nil))) .nil)) J J<|rN<|cB h J (fun h=>?_) (fun h=>?_)
          ·refine tR<|rM J J<|?_
           cases h
          ·refine tK<|aa.bN<|tR<|ae.qv (aU J J) J<|rM J J<|rN<|aa.stop<|?_
           cases h
           exact hJ8 _ _ J<|ai.lq [0,0,0] J J J
         ·refine aa.exit J<|have h:=cr h hA8;tS<|aM<|rM J J<|ae.qv (aP J) J<|ae.qv (aQ J J) J<|ae.qv (aH J J J) J<|ae.qv (dz J) J<|rM J J<|rN<|aa.block<|aa.cj (fun x:Int=>lW ah gz eO n26 v31 x) (fun x aG=>aG=⟨169,[(3,.ptr b4 0),(7,.func (.func 54) [.ptr b4 0]),(8,.jO b8),(10,.eo [.str v31.aR.aK,.str v31.aR.aN,I v31.az,I v31.bM,gx v31.aD,I v31.ay,qF v31.eV,qF v31.bC,qF v31.bh,gx v31.bf,gx v31.aW]),(11,.raw (.pointer none)),(35,Em kA),(36,I (kA.length:Int)),(37,I n26),(92,gx v31.bf),(93,I (v31.bf.length:Int)),(94,I x)],[(b1,.bU (gl sv kr uR gz)),(b4,.cells [I ah.bg,I ah.To]),(b8,.mp (eO.map (fun e=>(AV.str e.1,(pA kr) e.2))))]⟩) h ?_ ?_
          ·exact ai.lq [0,0,0] J J J
          ·intro QS z9 aG J9 eZ h hJ9 hA9
           obtain rfl:=eZ
           replace h:lW ah gz eO n26 v31 QS=some z9:=h
           unfold lW at h
           refine aM<|ae.qv (bH J J) J<|rN<|tS<|cD h J (fun h=>?_) (fun h=>?_)
           ·refine tK<|tS<|aa.block<|aM<|rM J J<|aF h fun v86 e21 h=>ae.qv (bJ J J J e21 J J) J<|ae.qv (aH J J J) J<|rA J J<|rA J J<|rN<|aM<|rM J J<|rM J J<|nT J J (dw J) (.cons (.co (.refl _)) (.cons (.C9 _ _ _ .p1 (.cons (.co (.refl _)) (.cons (.co (.refl _)) .nil))) .nil)) J J<|rN<|cB h J (fun h=>?_) (fun h=>?_)
            ·refine aM<|rM J J<|?_
             cases h
            ·refine tK<|aa.bN<|tR<|ae.qv (aU J J) J<|rM J J<|rN<|aa.stop<|?_
             cases h
             exact hJ9 _ _ J<|ai.lq [0,0,0] J J J
           ·refine aa.exit J<|have h:=cr h hA9;aM<|rM J J<|ae.qv (aP J) J<|ae.qv (aQ J J) J<|ae.qv (aH J J J) J<|ae.qv (dz J) J<|rM J J<|rN<|aa.block<|aa.cj (fun x:Unit=>kQ gz eO n26 v31) (fun x aG=>aG=⟨169,[(3,.ptr b4 0),(7,.func (.func 54) [.ptr b4 0]),(8,.jO b8),(11,.raw (.pointer none)),(35,Em kA),(36,I (kA.length:Int)),(37,I n26),(127,qF v31.eV),(128,I (v31.eV.length:Int)),(129,I (0:Int))],[(b1,.bU (gl sv kr uR gz)),(b4,.cells [I ah.bg,I ah.To]),(b8,.mp (eO.map (fun e=>(AV.str e.1,(pA kr) e.2))))]⟩) h ?_ ?_
            ·exact ai.lq [0,0,0] J J J
            ·intro x z10 aG J10 eZ h agA XB
             obtain rfl:=eZ
             replace h:kQ gz eO n26 v31=some z10:=h
             unfold kQ at h
             refine aM<|ae.qv (bH J J) J<|rN<|tS<|cD h J (fun h=>?_) (fun h=>?_)
             ·refine tK<|tS<|aa.block<|aM<|aF h fun v87 e22 h=>ae.qv (bJ J J J e22 J J) J<|ae.qv (bA J J J) J<|bX J J J J fun b88=>aB J J J J .p0 J J<|rN<|aa.bL (id:=30) (A:=[0,1,3,7,0,16,0,64,240,0,512,0,2048,7680,16368,32752,65535,131071,262143,524287]) 19 mixed J (by kernel_rfl) (by kernel_rfl)<|AM.qv (aA J) J<|?_
              cases h
             ·exact aa.exit J<|have h:=cr h XB;aa.bN<|aa.stop<|ai.lq [0,0,0] ⟨kr,uR,gz,eO,h,J⟩ J J
       ·refine ae.qv (o1 (gk:=AV.str) (gv:=(pA kr)) (M:=eO) (key:=v31.aR.aN) J J .p2 Oz) J<|rA J J<|rN<|tS<|aM<|rM J J<|ae.qv (aP J) J<|ae.qv (aQ J J) J<|ae.qv (aH J J J) J<|ae.qv (dz J) J<|rM J J<|rN<|aa.block<|aa.cj (fun x:(List aj)×Int=>ef ah eO n26 v31 vC x.1 x.2) (fun x aG=>∃ (OC:Nat→Nat→Bk),aG=⟨169,[(3,.ptr b4 0),(7,.func (.func 54) [.ptr b4 0]),(8,.jO b8),(10,.eo [.str v31.aR.aK,.str v31.aR.aN,I v31.az,I v31.bM,gx v31.aD,I v31.ay,qF v31.eV,qF v31.bC,qF v31.bh,gx v31.bf,gx v31.aW]),(11,.ptr (kr vC.toNat) 0),(35,Em kA),(36,I (kA.length:Int)),(37,I n26),(72,gx v31.aD),(73,I (v31.aD.length:Int)),(74,I x.2)],[(b1,.bU (gl sv kr OC x.1)),(b4,.cells [I ah.bg,I ah.To]),(b8,.mp (eO.map (fun e=>(AV.str e.1,(pA kr) e.2))))]⟩) h ?_ ?_
        ·exact ai.lq [0,0,0] ⟨uR,J⟩ J J
        ·intro x z11 aG J11 eZ h XC XD
         obtain ⟨M0,Kb⟩:=x
         obtain ⟨OC,rfl⟩:=eZ
         replace h:ef ah eO n26 v31 vC M0 Kb=some z11:=h
         unfold ef at h
         refine aM<|ae.qv (bH J J) J<|rN<|tS<|cD h J (fun h=>?_) (fun h=>?_)
         ·refine tK<|tS<|aa.block<|aM<|aF h fun v95 e23 h=>ae.qv (bJ J J J e23 J J) J<|ae.qv (aH J J J) J<|rA J J<|rN<|aM<|rM J J<|rM J J<|nT J J (dw J) (.cons (.co (.refl _)) (.cons (.C9 _ _ _ .p1 (.cons (.co (.refl _)) (.cons (.co (.refl _)) .nil))) .nil)) J J<|rN<|aa.cut (fun aG=>∃ (Q8:Nat→Nat→Bk) (TK:List aj),jx Kb TK=some z11∧aG=⟨169,[(3,.ptr b4 0),(7,.func (.func 54) [.ptr b4 0]),(8,.jO b8),(10,.eo [.str v31.aR.aK,.str v31.aR.aN,I v31.az,I v31.bM,gx v31.aD,I v31.ay,qF v31.eV,qF v31.bC,qF v31.bh,gx v31.bf,gx v31.aW]),(11,.ptr (kr vC.toNat) 0),(35,Em kA),(36,I (kA.length:Int)),(37,I n26),(72,gx v31.aD),(73,I (v31.aD.length:Int)),(74,I Kb)],[(b1,.bU (gl sv kr Q8 TK)),(b4,.cells [I ah.bg,I ah.To]),(b8,.mp (eO.map (fun e=>(AV.str e.1,(pA kr) e.2))))]⟩) ?_ ?_
          ·refine cB h J (fun h=>?_) (fun h=>?_)
           ·exact tR<|rM J J<|ae.qv (ax J) J<|rF J J J<|aF h fun Gu XE h=>ae.qv (QV.ara (kb:=sv) XE .p0 J (aL J J .p0 J)) J<|ae.qv (aU J J) J<|ae.qv (ax J) J<|rF J J J<|ae.ghost<|ai.mV (kb:=sv) XE .p0 J<|ai.here<|aB J J J J .p0 J J<|ae.ghost<|ai.ph (kb:=sv) (v':=(⟨Gu.a8,aT (Gu.bS+(1:Int)),Gu.dh,Gu.bV,Gu.Time⟩:aj)) (s:=Jo []) XE (.cons .p0 .nil) J (fun _=>.p0) fun XF=>ai.here<|rN<|aa.stop<|ai.lq [0,0,0] ⟨XF,M0.set vC.toNat (⟨Gu.a8,aT (Gu.bS+(1:Int)),Gu.dh,Gu.bV,Gu.Time⟩:aj),h,J⟩ J J
           ·exact tK<|aa.stop<|ai.lq [0,0,0] ⟨OC,M0,h,J⟩ J J
          ·rintro aG ⟨Q8,TK,h,rfl⟩
           unfold jx at h
           refine aa.bN<|tR<|ae.qv (aU J J) J<|rM J J<|rN<|aa.stop<|?_
           cases h
           exact XC _ _ J<|ai.lq [0,0,0] ⟨Q8,J⟩ J J
         ·refine aa.exit J<|have h:=cr h XD;tS<|aM<|rM J J<|ae.qv (aP J) J<|ae.qv (aQ J J) J<|ae.qv (aH J J J) J<|ae.qv (dz J) J<|rM J J<|rN<|aa.block<|aa.cj (fun x:(List aj)×Int=>ee ah eO n26 v31 vC x.1 x.2) (fun x aG=>∃ (Iv:Nat→Nat→Bk),aG=⟨169,[(3,.ptr b4 0),(7,.func (.func 54) [.ptr b4 0]),(8,.jO b8),(10,.eo [.str v31.aR.aK,.str v31.aR.aN,I v31.az,I v31.bM,gx v31.aD,I v31.ay,qF v31.eV,qF v31.bC,qF v31.bh,gx v31.bf,gx v31.aW]),(11,.ptr (kr vC.toNat) 0),(35,Em kA),(36,I (kA.length:Int)),(37,I n26),(92,gx v31.bf),(93,I (v31.bf.length:Int)),(94,I x.2)],[(b1,.bU (gl sv kr Iv x.1)),(b4,.cells [I ah.bg,I ah.To]),(b8,.mp (eO.map (fun e=>(AV.str e.1,(pA kr) e.2))))]⟩) h ?_ ?_
          ·exact ai.lq [0,0,0] ⟨OC,J⟩ J J
          ·intro x z12 aG J12 eZ h XG XH
           obtain ⟨BV,n105⟩:=x
           obtain ⟨Iv,rfl⟩:=eZ
           replace h:ee ah eO n26 v31 vC BV n105=some z12:=h
           unfold ee at h
           refine aM<|ae.qv (bH J J) J<|rN<|tS<|cD h J (fun h=>?_) (fun h=>?_)
           ·refine tK<|tS<|aa.block<|aM<|rM J J<|aF h fun TN e25 h=>ae.qv (bJ J J J e25 J J) J<|ae.qv (aH J J J) J<|rA J J<|rA J J<|rN<|aM<|rM J J<|rM J J<|nT J J (dw J) (.cons (.co (.refl _)) (.cons (.C9 _ _ _ .p1 (.cons (.co (.refl _)) (.cons (.co (.refl _)) .nil))) .nil)) J J<|rN<|aa.cut (fun aG=>∃ (LK:Nat→Nat→Bk) (Lu:List aj),jy n105 Lu=some z12∧aG=⟨169,[(3,.ptr b4 0),(7,.func (.func 54) [.ptr b4 0]),(8,.jO b8),(10,.eo [.str v31.aR.aK,.str v31.aR.aN,I v31.az,I v31.bM,gx v31.aD,I v31.ay,qF v31.eV,qF v31.bC,qF v31.bh,gx v31.bf,gx v31.aW]),(11,.ptr (kr vC.toNat) 0),(35,Em kA),(36,I (kA.length:Int)),(37,I n26),(92,gx v31.bf),(93,I (v31.bf.length:Int)),(94,I n105)],[(b1,.bU (gl sv kr LK Lu)),(b4,.cells [I ah.bg,I ah.To]),(b8,.mp (eO.map (fun e=>(AV.str e.1,(pA kr) e.2))))]⟩) ?_ ?_
            ·refine cB h J (fun h=>?_) (fun h=>?_)
             ·exact aM<|rM J J<|ae.qv (ax J) J<|rF J J J<|aF h fun v109 Ui h=>ae.qv (QV.ara (kb:=sv) Ui .p0 J (aL J J .p0 J)) J<|ae.qv (aU J J) J<|ae.qv (ax J) J<|rF J J J<|ae.ghost<|ai.mV (kb:=sv) Ui .p0 J<|ai.here<|aB J J J J .p0 J J<|ae.ghost<|ai.ph (kb:=sv) (v':=(⟨v109.a8,v109.bS,aT (v109.dh+(1:Int)),v109.bV,v109.Time⟩:aj)) (s:=Jo []) Ui (.cons .p0 .nil) J (fun _=>.p0) fun acK=>ai.here<|rN<|aa.ghost<|ai.mV (kb:=sv) (fA (v:=(⟨v109.a8,v109.bS,aT (v109.dh+(1:Int)),v109.bV,v109.Time⟩:aj)) Ui) .p0 J<|ai.here<|aa.bL (id:=25) (A:=[0,1,3,7,0,16,48,112,0,496,1008,2047,4095,8191,16383]) 14 mixed J (by kernel_rfl) (by kernel_rfl)<|AM.qv (aA J) J<|AM.qv (ax J) J<|AM.qv (aC J J) J<|AM.qv (aL J J .p0 J) J<|AM.qv (aA J) J<|AM.qv (aP J) J<|AM.qv (aQ J J) J<|AM.qv (aH J J J) J<|AM.qv (aA J) J<|aF h fun Ox e27 h=>AM.qv (bJ J J J e27 J J) J<|AM.qv (aH J J J) J<|AM.qv (aU J J) J<|AM.qv (ax J) J<|AM.qv (aC J J) J<|AM.nil<|aB J J J J .p0 J J<|ae.ghost<|ai.ph (kb:=sv) (v':=(⟨v109.a8,v109.bS,aT (v109.dh+(1:Int)),aT (v109.bV+Ox),v109.Time⟩:aj)) (s:=Jo []) (fA (v:=(⟨v109.a8,v109.bS,aT (v109.dh+(1:Int)),v109.bV,v109.Time⟩:aj)) Ui) (.cons .p0 .nil) J (fun _=>.p0) fun Uj=>ai.here<|rN<|aa.stop<|ai.lq [0,0,0] ⟨Uj,(BV.set vC.toNat (⟨v109.a8,v109.bS,aT (v109.dh+(1:Int)),v109.bV,v109.Time⟩:aj)).set vC.toNat (⟨v109.a8,v109.bS,aT (v109.dh+(1:Int)),aT (v109.bV+Ox),v109.Time⟩:aj),h,J⟩ J J
             ·exact tK<|aa.stop<|ai.lq [0,0,0] ⟨Iv,BV,h,J⟩ J J
            ·rintro aG ⟨LK,Lu,h,rfl⟩
             unfold jy at h
             refine aa.bN<|tR<|ae.qv (aU J J) J<|rM J J<|rN<|aa.stop<|?_
             cases h
             exact XG _ _ J<|ai.lq [0,0,0] ⟨LK,J⟩ J J
           ·refine aa.exit J<|have h:=cr h XH;aM<|rM J J<|ae.qv (aP J) J<|ae.qv (aQ J J) J<|ae.qv (aH J J J) J<|ae.qv (dz J) J<|rM J J<|rN<|aa.block<|aa.cj (fun x:(List aj)×Int=>ed ah eO n26 v31 vC x.1 x.2) (fun x aG=>∃ (LL:Nat→Nat→Bk),aG=⟨169,[(3,.ptr b4 0),(7,.func (.func 54) [.ptr b4 0]),(8,.jO b8),(11,.ptr (kr vC.toNat) 0),(35,Em kA),(36,I (kA.length:Int)),(37,I n26),(127,qF v31.eV),(128,I (v31.eV.length:Int)),(129,I x.2)],[(b1,.bU (gl sv kr LL x.1)),(b4,.cells [I ah.bg,I ah.To]),(b8,.mp (eO.map (fun e=>(AV.str e.1,(pA kr) e.2))))]⟩) h ?_ ?_
            ·exact ai.lq [0,0,0] ⟨Iv,J⟩ J J
            ·intro x z13 aG J13 eZ h XI XJ
             obtain ⟨FD,n118⟩:=x
             obtain ⟨LL,rfl⟩:=eZ
             replace h:ed ah eO n26 v31 vC FD n118=some z13:=h
             unfold ed at h
             refine aM<|ae.qv (bH J J) J<|rN<|tS<|cD h J (fun h=>?_) (fun h=>?_)
             ·refine tK<|tS<|aa.block<|aM<|aF h fun Lv e28 h=>ae.qv (bJ J J J e28 J J) J<|ae.qv (bA J J J) J<|bX J J J J fun agB=>aB J J J J .p0 J J<|rN<|aF h fun AJ e29 h=>aa.ghost<|ai.mV (kb:=sv) e29 .p1 J<|ai.here<|aa.bL (id:=30) (A:=[0,1,3,7,0,16,0,64,240,0,512,0,2048,7680,16368,32752,65535,131071,262143,524287]) 19 mixed J (by kernel_rfl) (by kernel_rfl)<|AM.qv (aA J) J<|AM.qv (ax J) J<|AM.qv (aC J J) J<|AM.qv (aL J J .p0 J) J<|AM.qv (aC J J) J<|AM.qv (aL J J .p1 J) J<|AM.qv (aC J J) J<|AM.qv (aL J J .p3 J) J<|AM.qv (HI J J) J<|AM.qv (aC J J) J<|AM.qv (aL J J .p1 J) J<|AM.qv (aC J J) J<|AM.qv (aL J J .p3 J) J<|AM.qv (Es J J) J<|AM.qv (bR J J) J<|AM.qv (Es J J) J<|AM.qv (aU J J) J<|AM.qv (ax J) J<|AM.qv (aC J J) J<|AM.nil<|aB J J J J .p0 J J<|ae.ghost<|ai.ph (kb:=sv) (v':=(⟨AJ.a8,AJ.bS,AJ.dh,AJ.bV,aT (AJ.Time+(max (0:Int) (aT ((min Lv.To ah.To) - (max Lv.bg ah.bg)))))⟩:aj)) (s:=Jo []) e29 (.cons .p0 .nil) J (fun _=>.p1) fun Uk=>ai.here<|rN<|aa.bN<|tR<|ae.qv (aU J J) J<|rM J J<|rN<|aa.stop<|?_
              cases h
              exact XI _ _ J<|ai.lq [1,1,1] ⟨Uk,J⟩ J J
             ·exact aa.exit J<|have h:=cr h XJ;aa.bN<|aa.stop<|ai.lq [0,0,0] ⟨kr,LL,FD,eO,h,J⟩ J J
     ·rintro aG ⟨OA,LH,Lr,TI,h,rfl⟩
      unfold bt at h
      refine tR<|ae.qv (aU J J) J<|rM J J<|rN<|aa.stop<|?_
      cases h
      exact mM _ _ J<|ai.lq [0,0,0] ⟨OA,LH,J⟩ J J
    ·refine aa.exit J<|have h:=cr h iQ;aM<|rA J J<|rN<|tS<|aM<|rM J J<|NU (M:=eO) (enc:=(fun e=>(AV.str e.1,(pA kr) e.2))) J (fun _ _=>.p2) J fun Ul Um Q9 Un Uo=>rN<|aa.block<|aa.NR (fun e (x:(List aj))=>gu gz e x) (fun x:(List aj)=>gw x) (fun R x aG=>∃ (FJ:Bk) (Ra:List Nat),xh Um Q9 Ra (R.map (fun e=>(AV.str e.1,(pA kr) e.2)))∧aG=⟨169,[(18,.sl 5 FJ 0 x.length),(155,.ptr Ul 0)],[(b1,.bU (gl sv kr uR gz)),(Ul,.Kg b8 Q9 Ra),(b8,.MH Um Q9),(FJ,Jw x)]⟩) h ?_ ?_
     ·exact ai.arr (s:=18) 5 J fun XK=>ai.lq [2,1,2,0] ⟨XK,[],Uo,J⟩ J J
     ·intro R14 DG aG J14 eZ Rb Up
      obtain ⟨FJ,Ra,Uq,rfl⟩:=eZ
      refine aM<|Qr J Uq .p2 (fun _=>.p1) J (fun hN=>?_) (fun QU R' Ur hP hlen Rc Re=>?_)
      ·have h:=Wy Rb hN
       replace h:gw DG=_:=h
       unfold gw at h
       refine ae.ghost<|ai.Qv Un .p2<|ai.here<|rX J J J<|rN<|tS<|aa.C2 J<|aa.exit J<|aM<|rM J J<|aF h fun Oy XL h=>bz J (og (fun e=>vY (GI:=mD) (Option.some.inj e)) (kL XL)) cR (.cons .p3 .nil) J J<|ae.ghost<|ai.eqs (s:=18) (eW:=.sl 5 FJ 0 Oy.length) J (congrArg (AV.sl 5 FJ 0) (cP XL))<|ai.here<|ae.ghost<|ai.eqs (s:=166) (eW:=.sl 5 FJ 0 Oy.length) J (congrArg (AV.sl 5 FJ 0) (cP XL))<|ai.here<|rN<|aM<|rM J J<|rA J J<|rA J J<|rN<|aa.ret<|?_
       cases h
       exact hI J J [0] J ⟨FJ,J,J⟩
      ·obtain ⟨z14,h,Us,agC⟩:=Tb Rb hP
       replace h:gu gz QU DG=some z14:=h
       unfold gu at h
       have XM:=fun y aG (e:z14=.inl y) hi=>Up R' y aG hlen (Us y e) hi
       clear Us hP Up Rb
       refine rX J J J<|rN<|tS<|aa.C1 J<|tK<|aa.block<|aM<|ae.qv (NV J .p1 .p2 Re J J) J<|rX J J J<|rA J J<|rN<|tR<|rM J J<|rM J J<|ae.qv (ax J) J<|aF h fun v130 e32 h=>ae.qv (QV.ara (kb:=sv) e32 .p0 J (bb J J .p0 J)) J<|ba (xs:=([v130]:List aj).map aj.av) J J J J J J<|aF h fun TO e33 h=>dA (g:=aj.av) J J J J J J J J (.list _) e33 (fun _=>.p3) J fun XN=>rA J J<|rN<|aa.bN<|aa.stop<|?_
       cases h
       exact XM _ _ J<|ai.lq [0,0,0,0] ⟨XN,Ur,Rc,J⟩ J J
theorem zr [GI:bF] {ab:au} {r:Int} (h:iw ab=r):Pu Tryz.prog 11 [au.av ab] (I r):=by
 unfold iw at h
 refine aJ.bD Tryz.func11 J Tryz.ntmps11 Tryz.results11 J J ?_
 refine aM<|jU J J J J fun b1=>rA J J<|rN<|tS<|tS<|aa.cut (fun aG=>∃ (c2:Bool),mI c2=r∧aG=⟨14,[(13,.bool c2)],[]⟩) ?_ ?_
 ·refine tR<|rF J J J<|rL J J .p0 J J<|rF J J J<|rL J J .p0 J J<|bw J (ym J) cR J<|ae.qv (fj J) J<|rM J J<|ae.guard J J J (fun hc=>?_) (fun hc=>?_)
  ·rw [Qd hc] at h
   exact rF J J J<|rY J J J<|rL J J .p0 J J<|rY J J J<|ae.qv (ir J J) J<|rE J J J<|rN<|aa.stop<|ai.lq [] ⟨decide ((345686400000:Int) < ab.To),h,J⟩ J J
  ·rw [Qb hc] at h
   exact rG J J J J<|rG J J J J<|rT J J J<|rN<|aa.stop<|ai.lq [] ⟨true,h,J⟩ J J
 ·rintro aG ⟨c2,h,rfl⟩
  unfold mI at h
  refine cB h J (fun h=>?_) (fun h=>?_)
  ·refine aM<|rA J J<|rN<|aa.ret<|?_
   obtain rfl:=h
   exact hP J J
  ·refine tK<|aM<|rA J J<|rN<|aa.ret<|?_
   obtain rfl:=h
   exact hP J J
theorem AY [GI:bF] {ab:List Int} {r:Int} (h:qC ab=some r):Pu Tryz.prog 10 [gx ab] (I r):=by
 unfold qC at h
 refine aJ.bD Tryz.func10 J Tryz.ntmps10 Tryz.results10 J J ?_
 refine aM<|rA J J<|rN<|aM<|rA J J<|rN<|tS<|aM<|rM J J<|ae.qv (dz J) J<|rM J J<|rN<|aa.block<|aa.cj (fun x:Int=>nw ab x) (fun x aG=>aG=⟨18,[(3,I (0:Int)),(6,gx ab),(7,I (ab.length:Int)),(8,I x)],[]⟩) h ?_ ?_
 ·exact ai.lq [] J J J
 ·intro n2 z1 aG J1 eZ h mM iQ
  obtain rfl:=eZ
  replace h:nw ab n2=some z1:=h
  unfold nw at h
  refine aM<|ae.qv (bH J J) J<|rN<|tS<|cD h J (fun h=>?_) (fun h=>?_)
  ·refine tK<|tS<|aa.block<|aM<|aF h fun v3 e1 h=>ae.qv (bJ J J J e1 J J) J<|ae.qv (aH J J J) J<|rA J J<|rN<|aM<|rM J J<|rM J J<|ae.qv (jb J J) J<|rN<|cD h J (fun h=>?_) (fun h=>?_)
   ·refine aM<|rM J J<|rA J J<|rN<|aa.ret<|have h:=cr h iQ;?_
    cases h
    exact hP J J
   ·refine tK<|aa.bN<|tR<|ae.qv (aU J J) J<|rM J J<|rN<|aa.stop<|?_
    cases h
    exact mM _ _ J<|ai.lq [] J J J
  ·refine aa.exit J<|have h:=cr h iQ;aM<|rM J J<|rA J J<|rN<|aa.ret<|?_
   cases h
   exact hP J J
theorem zt [GI:bF] {ab:an} {ah:Signal} {r:Bool} (h:iy ab ah=r):Pu Tryz.prog 130 [.eo [.str ab.aK,.str ab.aN,iW ab.bq,I ab.az,I ab.ay.bg,I ab.ay.To],.eo [I ah.At,I ah.Kind,.str ah.Device,.str ah.a8,.str ah.By,I ah.aV]] (.bool r):=by
 unfold iy at h
 refine aJ.bD Tryz.func130 J Tryz.ntmps130 Tryz.results130 J J ?_
 refine aM<|rA J J<|rN<|tS<|aa.cut (fun aG=>∃ (c1:Bool),mJ c1=r∧aG=⟨20,[(3,.bool c1)],[]⟩) ?_ ?_
 ·refine aa.bL (id:=1) (A:=[0,1,3,7,0,16,63,127,255,511,1023,2047,255,4351,16383,32767,65535]) 17 mixed J (by kernel_rfl) (by kernel_rfl)<|AM.qv (aA J) J<|AM.qv (aP J) J<|AM.qv (aQ J J) J<|AM.qv (aH J J J) J<|AM.qv (aQ J J) J<|AM.qv (aH J J J) J<|AM.qv (qk J J) J<|AM.qv (aA J) J<|AM.bW J J J (fun hc=>?_) (fun hc=>?_)
  ·rw [lM hc] at h
   exact AM.qv (aA J) J<|AM.bc J J J<|AM.qv (aP J) J<|AM.bc J J J<|AM.qv (aQ J J) J<|AM.bc J J J<|AM.qv (aH J J J) J<|AM.bc J J J<|AM.qv (aQ J J) J<|AM.bc J J J<|AM.qv (aH J J J) J<|AM.bc J J J<|AM.qv (qk J J) J<|AM.qv (ps J J) J<|AM.qv (cU J) J<|AM.nil<|rN<|aa.stop<|ai.lq [] ⟨decide (ab.aN=ah.a8),h,J⟩ J J
  ·rw [lN hc] at h
   exact AM.bn J J J J<|AM.bn J J J J<|AM.bn J J J J<|AM.bn J J J J<|AM.bn J J J J<|AM.bn J J J J<|AM.qv (pt J J) J<|AM.qv (cU J) J<|AM.nil<|rN<|aa.stop<|ai.lq [] ⟨false,h,J⟩ J J
 ·rintro aG ⟨c1,h,rfl⟩
  unfold mJ at h
  refine aa.ret<|?_
  obtain rfl:=h
  exact hP J J
theorem nk [GI:bF] {ab:List an} {oL:an→Option Bool} {oI:FuncId} [bu Tryz.prog oI] {rk:List AV} (yX:∀ {y0:_} {u:Bool},oL y0=some u→Pu Tryz.prog oI (.eo [.str y0.aK,.str y0.aN,iW y0.bq,I y0.az,I y0.ay.bg,I y0.ay.To] :: rk) (.bool u)) {r:Int} (h:dm ab oL=some r):Pu Tryz.prog 129 [zo ab,.func (.func oI) rk] (I r):=by
 unfold dm at h
 refine aJ.bD Tryz.func129 J Tryz.ntmps129 Tryz.results129 J J ?_
 refine aM<|rA J J<|rN<|tS<|aM<|rM J J<|ae.qv (dz J) J<|rM J J<|rN<|aa.block<|aa.cj (fun x:Int=>cF ab oL x) (fun x aG=>aG=⟨19,[(0,zo ab),(1,.func (.func oI) rk),(7,I (ab.length:Int)),(8,I x)],[]⟩) h ?_ ?_
 ·exact ai.lq [] J J J
 ·intro n2 z1 aG J1 eZ h mM iQ
  obtain rfl:=eZ
  replace h:cF ab oL n2=some z1:=h
  unfold cF at h
  refine aM<|ae.qv (bH J J) J<|rN<|tS<|cD h J (fun h=>?_) (fun h=>?_)
  ·refine tK<|tS<|aa.block<|aM<|rM J J<|rA J J<|rN<|aM<|rM J J<|rM J J<|rM J J<|aF h fun v3 e1 h=>ae.qv (bJ J J J e1 J J) J<|ae.qv (aH J J J) J<|aF h fun v4 e2 h=>EG J J (yX e2) cR J<|rN<|cB h J (fun h=>?_) (fun h=>?_)
   ·refine aM<|rM J J<|rA J J<|rN<|aa.ret<|have h:=cr h iQ;?_
    cases h
    exact hP J J
   ·refine tK<|aa.bN<|tR<|ae.qv (aU J J) J<|rM J J<|rN<|aa.stop<|?_
    cases h
    exact mM _ _ J<|ai.lq [] J J J
  ·refine aa.exit J<|have h:=cr h iQ;aM<|rA J J<|rN<|aa.ret<|?_
   cases h
   exact hP J J
theorem AZ [GI:bF] {aY:Bk} {jN:Bk} {ab:an} {ah:Signal} {r:Int×an} (h:oF ab ah=some r):aJ Tryz.prog 131 [.ptr aY 0,Signal.av ah] [(aY,.cells [.str ab.aK,.str ab.aN,.sl 6 jN 0 ab.bq.length,I ab.az,I ab.ay.bg,I ab.ay.To]),(jN,ek ab.bq)] (T1 (fun LM=>[(aY,.cells [.str r.2.aK,.str r.2.aN,.sl 6 LM 0 r.2.bq.length,I r.2.az,I r.2.ay.bg,I r.2.ay.To]),(LM,ek r.2.bq)]) (fun LM=>I r.1)):=by
 unfold oF at h
 refine aJ.fa ?_
 refine aJ.bD Tryz.func131 J Tryz.ntmps131 Tryz.results131 J J ?_
 refine aM<|jU J J J J fun b1=>rA J J<|rN<|tS<|aa.cut (fun aG=>∃ (c2:Bool),nz ab ah c2=some r∧aG=⟨110,[(0,.ptr aY 0),(3,.ptr b1 0),(5,.bool c2)],[(aY,.cells [.str ab.aK,.str ab.aN,.sl 6 jN 0 ab.bq.length,I ab.az,I ab.ay.bg,I ab.ay.To]),(jN,ek ab.bq),(b1,.cells (vE ah))]⟩) ?_ ?_
 ·refine tR<|rM J J<|ae.qv (ax J) J<|rF J J J<|rL J J .p1 J J<|ae.qv (bY J J) J<|rM J J<|ae.gg J J J (fun hc=>?_) (fun hc=>?_)
  ·rw [BJ hc] at h
   exact rM J J<|rY J J J<|ae.qv (ax J) J<|rY J J J<|rF J J J<|rY J J J<|rL J J .p1 J J<|rY J J J<|ae.qv (bY J J) J<|rE J J J<|rA J J<|rN<|aa.stop<|ai.lq [1,1,0] ⟨decide (ab.az=(2:Int)),h,J⟩ J J
  ·rw [BI hc] at h
   exact rG J J J J<|rG J J J J<|rG J J J J<|rG J J J J<|rT J J J<|rA J J<|rN<|aa.stop<|ai.lq [1,1,0] ⟨true,h,J⟩ J J
 ·rintro aG ⟨c2,h,rfl⟩
  unfold nz at h
  refine tS<|aa.cut (fun aG=>∃ (c3:Bool),ny ab ah c2 c3=some r∧aG=⟨110,[(0,.ptr aY 0),(3,.ptr b1 0),(5,.bool c2),(6,.bool c3)],[(aY,.cells [.str ab.aK,.str ab.aN,.sl 6 jN 0 ab.bq.length,I ab.az,I ab.ay.bg,I ab.ay.To]),(jN,ek ab.bq),(b1,.cells (vE ah))]⟩) ?_ ?_
  ·refine aa.bL (id:=2) (A:=[0,1,3,7,15,0,32,127,255,511,1023,511,2559,6655,14847,31231,65535,131071,262143]) 19 mixed J (by kernel_rfl) (by kernel_rfl)<|AM.qv (aA J) J<|AM.qv (ax J) J<|AM.qv (aC J J) J<|AM.qv (aC J J) J<|AM.qv (aL J J .p0 J) J<|AM.qv (aC J J) J<|AM.qv (aL J J .p2 J) J<|AM.qv (rW J J) J<|AM.qv (aA J) J<|AM.bW J J J (fun hc=>?_) (fun hc=>?_)
   ·rw [lM hc] at h
    exact AM.qv (aC J J) J<|AM.bc J J J<|AM.qv (aL J J .p2 J) J<|AM.bc J J J<|AM.qv (aA J) J<|AM.bc J J J<|AM.qv (ax J) J<|AM.bc J J J<|AM.qv (aC J J) J<|AM.bc J J J<|AM.qv (aC J J) J<|AM.bc J J J<|AM.qv (aL J J .p0 J) J<|AM.bc J J J<|AM.qv (bH J J) J<|AM.qv (ps J J) J<|AM.qv (cU J) J<|AM.nil<|rN<|aa.stop<|ai.lq [0,0,0] ⟨decide (ah.At < ab.ay.To),h,J⟩ J J
   ·rw [lN hc] at h
    exact AM.bn J J J J<|AM.bn J J J J<|AM.bn J J J J<|AM.bn J J J J<|AM.bn J J J J<|AM.bn J J J J<|AM.bn J J J J<|AM.qv (pt J J) J<|AM.qv (cU J) J<|AM.nil<|rN<|aa.stop<|ai.lq [0,0,0] ⟨false,h,J⟩ J J
  ·rintro aG ⟨c3,h,rfl⟩
   unfold ny at h
   refine tS<|aM<|rF J J J<|rL J J .p2 J J<|rN<|aa.block<|aM<|ae.qv (bY J J) J<|rA J J<|rN<|aa.cut (fun aG=>∃ (n4:Int) (n5:Int) (n6:Int),iX ab ah n4 n5 n6=some r∧aG=⟨110,[(0,.ptr aY 0),(3,.ptr b1 0)],[(aY,.cells [.str ab.aK,.str ab.aN,.sl 6 jN 0 ab.bq.length,I n4,I n5,I n6]),(jN,ek ab.bq),(b1,.cells (vE ah))]⟩) ?_ ?_
   ·refine cD h J (fun h=>?_) (fun h=>?_)
    ·refine tS<|aM<|rM J J<|rN<|cB h J (fun h=>?_) (fun h=>?_)
     ·refine aM<|rA J J<|rN<|aa.ret<|?_
      cases h
      exact hH J [0,0] J ⟨jN,J,J⟩
     ·exact tK<|tR<|rM J J<|ae.qv (ax J) J<|rF J J J<|aB J J J J .p0 J J<|rN<|aa.stop<|ai.lq [0,0,0] ⟨(1:Int),ab.ay.bg,ab.ay.To,h,J⟩ J J
    ·refine aM<|ae.qv (bY J J) J<|rA J J<|rN<|aa.cut (fun aG=>∃ (n7:Int) (n8:Int) (n9:Int),fQ ab ah n7 n8 n9=some r∧aG=⟨110,[(0,.ptr aY 0),(3,.ptr b1 0)],[(aY,.cells [.str ab.aK,.str ab.aN,.sl 6 jN 0 ab.bq.length,I n7,I n8,I n9]),(jN,ek ab.bq),(b1,.cells (vE ah))]⟩) ?_ ?_
     ·refine cD h J (fun h=>?_) (fun h=>?_)
      ·refine tS<|aM<|rM J J<|ae.qv (fj J) J<|rN<|cB h J (fun h=>?_) (fun h=>?_)
       ·refine aM<|rA J J<|rN<|aa.ret<|?_
        cases h
        exact hH J [0,0] J ⟨jN,J,J⟩
       ·exact tK<|tR<|rM J J<|vy J fun nj=>xg (gk:=I) (gv:=I) (M:=([]:List (Int×Int))) (key:=(1:Int)) (v:=(3:Int)) J J J J .p0<|xg (gk:=I) (gv:=I) (M:=(gV ([]:List (Int×Int)) (1:Int) (3:Int))) (key:=(2:Int)) (v:=(0:Int)) J J J J .p0<|rM J J<|rM J J<|ae.qv (ax J) J<|rF J J J<|rL J J .p1 J J<|aF h fun v11 e1 h=>ae.qv (E5 (gk:=I) (gv:=I) (M:=(gV (gV ([]:List (Int×Int)) (1:Int) (3:Int)) (2:Int) (0:Int))) (key:=ab.az) (Z:=(0:Int)) J J .p0 J J J e1 J) J<|ae.qv (ax J) J<|rF J J J<|aB J J J J .p1 J J<|rN<|aa.stop<|ai.lq [1,1,1] ⟨v11,ab.ay.bg,ab.ay.To,h,J⟩ J J
      ·refine aM<|ae.qv (bY J J) J<|rA J J<|rN<|aa.cut (fun aG=>∃ (n12:Int) (n13:Int) (n14:Int),iY ab ah n12 n13 n14=some r∧aG=⟨110,[(0,.ptr aY 0),(3,.ptr b1 0)],[(aY,.cells [.str ab.aK,.str ab.aN,.sl 6 jN 0 ab.bq.length,I n12,I n13,I n14]),(jN,ek ab.bq),(b1,.cells (vE ah))]⟩) ?_ ?_
       ·refine cD h J (fun h=>?_) (fun h=>?_)
        ·refine tS<|tS<|aa.cut (fun aG=>∃ (Lw:Bool),nx ab ah Lw=some r∧aG=⟨110,[(0,.ptr aY 0),(3,.ptr b1 0),(78,.bool Lw)],[(aY,.cells [.str ab.aK,.str ab.aN,.sl 6 jN 0 ab.bq.length,I ab.az,I ab.ay.bg,I ab.ay.To]),(jN,ek ab.bq),(b1,.cells (vE ah))]⟩) ?_ ?_
         ·refine tR<|rM J J<|ae.qv (ax J) J<|rF J J J<|rL J J .p0 J J<|ae.qv (jb J J) J<|rM J J<|ae.bW J J J (fun hc=>?_) (fun hc=>?_)
          ·rw [lM hc] at h
           exact rM J J<|rY J J J<|ae.qv (ax J) J<|rY J J J<|rF J J J<|rY J J J<|rL J J .p0 J J<|rY J J J<|ae.qv (jb J J) J<|rT J J J<|rN<|aa.stop<|ai.lq [0,0,0] ⟨decide (ab.az≠(3:Int)),h,J⟩ J J
          ·rw [lN hc] at h
           exact rG J J J J<|rG J J J J<|rG J J J J<|rG J J J J<|rE J J J<|rN<|aa.stop<|ai.lq [0,0,0] ⟨false,h,J⟩ J J
         ·rintro aG ⟨Lw,h,rfl⟩
          unfold nx at h
          refine cB h J (fun h=>?_) (fun h=>?_)
          ·refine aM<|rA J J<|rN<|aa.ret<|?_
           cases h
           exact hH J [0,0] J ⟨jN,J,J⟩
          ·exact tK<|tR<|rM J J<|vy J fun uo=>xg (gk:=I) (gv:=I) (M:=([]:List (Int×Int))) (key:=(1:Int)) (v:=(2:Int)) J J J J .p0<|xg (gk:=I) (gv:=I) (M:=(gV ([]:List (Int×Int)) (1:Int) (2:Int))) (key:=(3:Int)) (v:=(0:Int)) J J J J .p0<|rM J J<|rM J J<|ae.qv (ax J) J<|rF J J J<|rL J J .p1 J J<|aF h fun v17 e2 h=>ae.qv (E5 (gk:=I) (gv:=I) (M:=(gV (gV ([]:List (Int×Int)) (1:Int) (2:Int)) (3:Int) (0:Int))) (key:=ab.az) (Z:=(0:Int)) J J .p0 J J J e2 J) J<|ae.qv (ax J) J<|rF J J J<|aB J J J J .p1 J J<|rN<|aa.stop<|ai.lq [1,1,1] ⟨v17,ab.ay.bg,ab.ay.To,h,J⟩ J J
        ·refine aM<|ae.qv (bY J J) J<|rA J J<|rN<|aa.cut (fun aG=>∃ (n18:Int) (n19:Int),k7 ab ah n18 n19=some r∧aG=⟨110,[(0,.ptr aY 0),(3,.ptr b1 0)],[(aY,.cells [.str ab.aK,.str ab.aN,.sl 6 jN 0 ab.bq.length,I ab.az,I n18,I n19]),(jN,ek ab.bq),(b1,.cells (vE ah))]⟩) ?_ ?_
         ·refine cD h J (fun h=>?_) (fun h=>?_)
          ·refine tS<|aM<|rM J J<|rN<|cB h J (fun h=>?_) (fun h=>?_)
           ·refine aM<|rA J J<|rN<|aa.ret<|?_
            cases h
            exact hH J [0,0] J ⟨jN,J,J⟩
           ·exact tK<|tR<|rM J J<|rF J J J<|rL J J .p2 J J<|rF J J J<|rL J J .p2 J J<|ae.qv (db J J J J J) J<|ae.qv (ax J) J<|rF J J J<|aB J J J J .p0 J J<|rN<|aa.stop<|ai.lq [0,0,0] ⟨ah.At,ah.aV,h,J⟩ J J
          ·refine tS<|aM<|rM J J<|ae.qv (fj J) J<|rN<|cB h J (fun h=>?_) (fun h=>?_)
           ·refine aM<|rA J J<|rN<|aa.ret<|?_
            cases h
            exact hH J [0,0] J ⟨jN,J,J⟩
           ·exact tK<|tR<|rM J J<|ae.qv (db J J J J J) J<|ae.qv (ax J) J<|rF J J J<|aB J J J J .p0 J J<|rN<|aa.stop<|ai.lq [0,0,0] ⟨(0:Int),(0:Int),h,J⟩ J J
         ·rintro aG ⟨n18,n19,h,rfl⟩
          unfold k7 at h
          exact aa.stop<|ai.lq [0,0,0] ⟨ab.az,n18,n19,h,J⟩ J J
       ·rintro aG ⟨n12,n13,n14,h,rfl⟩
        unfold iY at h
        exact aa.stop<|ai.lq [0,0,0] ⟨n12,n13,n14,h,J⟩ J J
     ·rintro aG ⟨n7,n8,n9,h,rfl⟩
      unfold fQ at h
      exact aa.stop<|ai.lq [0,0,0] ⟨n7,n8,n9,h,J⟩ J J
   ·rintro aG ⟨n4,n5,n6,h,rfl⟩
    unfold iX at h
    refine aa.bN<|tS<|aF h fun tz e3 h=>aa.iS (id:=23) (A:=[0,0,2,6,14,0,32,126,255,511,1023]) (H0:=[(jN,ek ab.bq)]) (HH:=fun β=>[((β 7),ek tz),(aY,.cells [.str ab.aK,.str ab.aN,.sl 6 jN 0 ab.bq.length,I n4,I n5,I n6]),(b1,.cells (vE ah))]) 8 mixed J (by kernel_rfl) (by kernel_rfl) [⟨none,some 7,[],fun _=>(jN,ek ab.bq),none,[]⟩,⟨some 7,none,[],fun b=>(b,ek tz),none,[]⟩] [7] J (by kernel_rfl) J (.cons .p1 .nil) (fun _=>J)<|AT.am 7 J J<|AM.qv (aA J) J<|AM.qv (aA J) J<|AM.qv (ax J) J<|AM.qv (aC J J) J<|AM.qv (aL J J .p0 J) J<|AM.qv (bb J J .p1 J) J<|AM.fk (xs:=([ah]:List Signal).map Signal.av) J J J J J J<|AM.nil<|AT.BK (V:=fun b=>.sl 6 b 0 tz.length) (Ti:=[(jN,ek ab.bq)]) (Pi:=fun b=>[(b,ek tz)]) (fun _=>J) (fun _=>J) (fun _ _=>J) J (fun _=>J) J J J ?_ ?_
    ·exact dA (g:=Signal.av) J J J J J J J J (.list _) e3 (fun _=>.p0) J fun Gw=>ae.nil ⟨Gw,_,J,J⟩
    refine AT.ue (fun _=>J) fun β=>?_
    generalize β 7=Gw
    clear β
    refine ae.qv (ax J) J<|rF J J J<|aB J J J J .p1 J J<|rN<|aM<|rA J J<|rN<|aa.ret<|?_
    cases h
    exact hH J [1,0] J ⟨Gw,J,J⟩
theorem zu [GI:bF] {ab:an} {ah:an} {r:Int} (h:ly ab ah=some r):Pu Tryz.prog 133 [.eo [.str ab.aK,.str ab.aN,iW ab.bq,I ab.az,I ab.ay.bg,I ab.ay.To],.eo [.str ah.aK,.str ah.aN,iW ah.bq,I ah.az,I ah.ay.bg,I ah.ay.To]] (I r):=by
 unfold ly at h
 refine aJ.bD Tryz.func133 J Tryz.ntmps133 Tryz.results133 J J ?_
 refine aM<|rA J J<|rN<|tS<|aa.bL (id:=1) (A:=[0,1,3,7,0,16,48,112,255,0,512,1536,3584,0,8192,24576,57344,131071,262143,524287,1048575]) 21 mixed J (by kernel_rfl) (by kernel_rfl)<|AM.qv (aA J) J<|AM.qv (aP J) J<|AM.qv (aQ J J) J<|AM.qv (aH J J J) J<|AM.qv (aA J) J<|AM.qv (aP J) J<|AM.qv (aQ J J) J<|AM.qv (aH J J J) J<|AM.jV J (dC J) cR J<|AM.qv (aA J) J<|AM.qv (aP J) J<|AM.qv (aQ J J) J<|AM.qv (aH J J J) J<|AM.qv (aA J) J<|AM.qv (aP J) J<|AM.qv (aQ J J) J<|AM.qv (aH J J J) J<|AM.jV J (dC J) cR J<|AM.fk (xs:=([(Lib.compareBytes ab.aK ah.aK),(Lib.compareBytes ab.aN ah.aN)]:List Int).map I) J J J J J J<|aF h fun v1 e1 h=>AM.jV J (qG e1) cR J<|AM.qv (cU J) J<|AM.nil<|rN<|aa.ret<|?_
 cases h
 exact hP J J
theorem nM:Ig Tryz.prog 132:=⟨fun enc h1 cf hO g cb bN off cap d w eg hc hH hb hs=>Any.slices_SortFunc_eq Tryz.Fz enc h1 cf hO g cb bN off cap d w eg hc hH hb hs,fun p cap fv w=>AnyF.slices_SortFunc_none {Tryz.Fz with} p cap fv w⟩
theorem xC [GI:bF] {ab:List Signal} {ah:Int} {r:(List an)×(List cd)} (h:nJ ab ah=some r):aJ Tryz.prog 59 [iW ab,I ah] [] (T1 (fun XO=>[(XO,T9 r.2)]) (fun XO=>.iV [zo r.1,.sl 2 XO 0 r.2.length])):=by
 unfold nJ at h
 refine aJ.fa ?_
 refine aJ.bD Tryz.func59 J Tryz.ntmps59 Tryz.results59 J J ?_
 refine aa.ghost (ai.Dv (kb:=M3) (fun b1 Xu Xv=>ai.here ?_))
 refine aM<|rA J J<|rA J J<|rN<|aM<|rA J J<|rN<|aM<|rA J J<|rN<|tS<|aM<|rM J J<|ae.qv (dz J) J<|rM J J<|rN<|aa.cut (fun aG=>∃ (XP:Nat→Bk) (bs6:Nat→Nat→Bk) (b7:Bk) (b9:Bk) (l4:List an) (l8:List Int) (l10:List cd),jG l4 l8 l10=some r∧aG=⟨58,[(6,.sl 1 b7 0 l8.length),(7,.sl 2 b9 0 l10.length)],[(b1,.bU (gl M3 XP bs6 l4)),(b7,.arr 1 (l8.map (pA XP))),(b9,T9 l10)]⟩) ?_ ?_
 ·refine aa.block<|aa.cj (fun x:(List an)×(List Int)×(List cd)×Int=>lA ab ah x.1 x.2.1 x.2.2.1 x.2.2.2) (fun x aG=>∃ (Jx:Nat→Bk) (Jy:Nat→Nat→Bk) (LA:Bk) (LC:Bk),aG=⟨58,[(1,I ah),(6,.sl 1 LA 0 x.2.1.length),(7,.sl 2 LC 0 x.2.2.1.length),(12,iW ab),(13,I (ab.length:Int)),(14,I x.2.2.2)],[(b1,.bU (gl M3 Jx Jy x.1)),(LA,.arr 1 (x.2.1.map (pA Jx))),(LC,T9 x.2.2.1)]⟩) h ?_ ?_
  ·exact ai.arr (s:=6) 1 J fun b27=>ai.arr (s:=7) 2 J fun VO=>ai.lq [2,1,0] ⟨Xu,Xv,b27,VO,J⟩ J J
  ·intro x z1 aG J1 eZ h mM iQ
   obtain ⟨nU,xq,eO,n26⟩:=x
   obtain ⟨Jx,Jy,LA,LC,rfl⟩:=eZ
   replace h:lA ab ah nU xq eO n26=some z1:=h
   unfold lA at h
   refine aM<|ae.qv (bH J J) J<|rN<|tS<|cD h J (fun h=>?_) (fun h=>?_)
   ·refine tK<|tS<|aa.block<|aM<|rM J J<|aF h fun Ha e1 h=>ae.qv (bJ J J J e1 J J) J<|ae.qv (bA J J J) J<|bX J J J J fun b30=>rA J J<|aB J J J J .p0 J J<|rN<|tS<|aM<|rF J J J<|rL J J .p0 J J<|rM J J<|ae.qv (ir J J) J<|rN<|cD h J (fun h=>?_) (fun h=>?_)
    ·exact aa.exit J<|have h:=cr h iQ;aa.stop<|ai.lq [1,1,1] ⟨Jx,Jy,LA,LC,nU,xq,eO,h,J⟩ J J
    ·refine tK<|aM<|rM J J<|ae.qv (td J) J<|aF h fun TC e2 h=>aF h fun v32 e3 h=>jc J (nk (fun e=>zt (Option.some.inj e)) e3) (.cons (ot.QG (bp:=b1) (kb:=M3) (bs:=Jy) (M:=nU) Xn e2 (.inl .p2) .p1) (.cons (.SH _ _ _ (.cons (.C9 _ _ _ .p0 (.cons (.co (.refl _)) (.cons (.co (.refl _)) (.cons (.co (.refl _)) (.cons (.co (.refl _)) (.cons (.co (.refl _)) (.cons (.co (.refl _)) .nil))))))) .nil)) .nil)) J J<|rA J J<|rN<|tS<|aM<|rM J J<|ae.qv (bH J J) J<|rN<|aa.cut (fun aG=>∃ (Hf:Nat→Bk) (Ut:Nat→Nat→Bk) (ta:Bk) (Lx:List an) (o6:List Int) (n38:Int),lz eO n26 Ha Lx o6 n38=some z1∧aG=⟨58,[(1,I ah),(6,.sl 1 ta 0 o6.length),(7,.sl 2 LC 0 eO.length),(8,I n26),(9,.ptr b30 0),(10,I n38),(12,iW ab),(13,I (ab.length:Int)),(14,I n26)],[(b1,.bU (gl M3 Hf Ut Lx)),(ta,.arr 1 (o6.map (pA Hf))),(LC,T9 eO),(b30,.cells (vE Ha))]⟩) ?_ ?_
     ·refine cD h J (fun h=>?_) (fun h=>?_)
      ·exact aM<|rM J J<|ae.qv (cH J) J<|rA J J<|rN<|tR<|rM J J<|rF J J J<|rL J J .p0 J J<|rF J J J<|rL J J .p0 J J<|ae.qv (db J J J J J) J<|jU J J J J fun QZ=>ae.ghost<|ai.so (j:=2) 6 (fun _=>.p0) J (fun _=>J) (fun _=>J) fun b40=>ai.here<|aF h fun u41 e4 h=>ae.ghost<|ai.Dw (kb:=M3) (v:=(⟨Ha.Device,Ha.a8,[],(0:Int),(⟨(0:Int),(0:Int)⟩:au)⟩:an)) (s:=Jo [b40]) (.cons .p1 (.cons .p0 .nil)) J (fun _ _=>.p1) fun OD XQ XR XS=>ai.here<|ae.ghost<|ai.N7 (Lj XR e4) .p2<|ai.here<|ae.ghost<|ai.eqs (s:=36) (eW:=.ptr (OD (nU.length:Int).toNat) 0) J (AG XS _)<|ai.here<|ba (xs:=([(nU.length:Int)]).map (pA OD)) J J J J J J<|aF h fun FC e6 h=>dA (g:=(pA OD)) J J J J J J J J (.list _) e6 (fun _=>.p2) J fun Q1=>rA J J<|rN<|aa.stop<|ai.lq [1,1,1,0] ⟨OD,XQ,Q1,nU++[(⟨Ha.Device,Ha.a8,[],(0:Int),(⟨(0:Int),(0:Int)⟩:au)⟩:an)],FC,(xq.length:Int),h,J⟩ J J
      ·exact tK<|aa.stop<|ai.lq [1,1,1,0] ⟨Jx,Jy,LA,nU,xq,v32,h,J⟩ J J
     ·rintro aG ⟨Hf,Ut,ta,Lx,o6,n38,h,rfl⟩
      unfold lz at h
      refine tS<|aa.bL (id:=11) (A:=[0,0,3,7,0,31,63]) 5 mixed J (by kernel_rfl) (by kernel_rfl)<|AM.qv (aA J) J<|AM.qv (aA J) J<|aF h fun v46 e7 h=>AM.qv (aS J J J e7) J<|AM.qv (bl (g:=(pA Hf)) J J (.inl .p1) e7 J) J<|AM.qv (bb J J .p3 J) J<|AM.nil<|aF h fun j9 e8 h=>ae.ghost<|ai.mV (kb:=M3) e8 .p0 J<|ai.here<|aF h fun bI e9 h=>ep J (AZ e9) cR (.cons .p0 (.cons .p0 .nil)) (fun _=>J) J fun Xr=>rA J J<|ae.ghost<|ai.ph (kb:=M3) (v':=bI.2) (s:=Jo [Xr]) e8 (.cons .p0 (.cons .p0 .nil)) J (fun _=>.p0) fun He=>ai.here<|rN<|aM<|rM J J<|ae.qv (jb J J) J<|rN<|aa.cut (fun aG=>∃ (Sf:Bk) (R9:List cd),mZ n26 Lx o6 v46 bI R9=some z1∧aG=⟨58,[(1,I ah),(6,.sl 1 ta 0 o6.length),(7,.sl 2 Sf 0 R9.length),(12,iW ab),(13,I (ab.length:Int)),(14,I n26)],[(b1,.bU (gl M3 Hf He (Lx.set v46.toNat bI.2))),(ta,.arr 1 (o6.map (pA Hf))),(Sf,T9 R9)]⟩) ?_ ?_
      ·refine cD h J (fun h=>?_) (fun h=>?_)
       ·exact tR<|rM J J<|rM J J<|rM J J<|ae.qv (db J J J J J) J<|ba (xs:=([(⟨n26,bI.1⟩:cd)]).map cd.av) J J J J J J<|aF h fun G6 vT h=>dA (g:=cd.av) J J J J J J J J (.list _) vT (fun _=>.p2) J fun b54=>rA J J<|rN<|aa.stop<|ai.lq [0,0,0] ⟨b54,G6,h,J⟩ J J
       ·exact tK<|aa.stop<|ai.lq [0,0,0] ⟨LC,eO,h,J⟩ J J
      ·rintro aG ⟨Sf,R9,h,rfl⟩
       unfold mZ at h
       refine aa.bN<|tR<|ae.qv (aU J J) J<|rM J J<|rN<|aa.stop<|?_
       cases h
       exact mM _ _ J<|ai.lq [0,0,0] ⟨Hf,He,ta,Sf,J⟩ J J
   ·exact aa.exit J<|have h:=cr h iQ;aa.stop<|ai.lq [0,0,0] ⟨Jx,Jy,LA,LC,nU,xq,eO,h,J⟩ J J
 ·rintro aG ⟨XP,bs6,b7,b9,l4,l8,l10,h,rfl⟩
  unfold jG at h
  refine aM<|rM J J<|aF h fun VK zp h=>bz J (yS nM Xn (fun e=>zu (GI:=mD) e) zp) cR (.cons .p1 (.cons .p0 .nil)) J J<|ae.ghost<|ai.eqs (s:=6) (eW:=.sl 1 b7 0 VK.length) J (congrArg (AV.sl 1 b7 0) (vA zp))<|ai.here<|ae.ghost<|ai.eqs (s:=54) (eW:=.sl 1 b7 0 VK.length) J (congrArg (AV.sl 1 b7 0) (vA zp))<|ai.here<|rN<|aM<|rM J J<|rM J J<|rA J J<|rA J J<|rN<|aa.ret<|aF h fun l56 Gv h=>?_
  cases h
  exact ai.Lk (s:=4) J (.cons .p0 (.cons .p0 .nil)) (ot.QG Xn Gv (.inl .p0) .p1)<|ai.here ⟨_,.cons (.tmp _ _ J) (.cons (.tmp _ _ J) .nil),_,.cons .p0 .nil,⟨b9,J,J⟩⟩
theorem qe [GI:bF] {ab:List aI} {r:(List aI)} (h:fF ab=some r):aJ Tryz.prog 134 [.list 1 (ab.map AV.str)] [] (T1 (fun mT=>[(mT,.arr 1 (r.map AV.str))]) (fun mT=>.sl 1 mT 0 r.length)):=by
 unfold fF at h
 refine aJ.fa ?_
 refine aJ.bD Tryz.func134 J Tryz.ntmps134 Tryz.results134 J J ?_
 refine aa.seq ?_
 refine aa.region ?_
 refine ae.qv (cU J) J ?_
 refine ae.nil ?_
 refine aa.seq ?_
 refine aa.seq ?_
 refine aa.region ?_
 refine ae.qv (aA J) J ?_
 refine NJ J J J J (fun c hc=>?_)
 refine ae.nil ?_
 refine aa.cond J (fun hT=>?_) (fun hF=>?_)
 ·obtain rfl:=Dp h (List.map_eq_nil_iff.1 (hc hT))
  refine aa.seq ?_
  refine aa.region ?_
  refine ae.qv (cU J) J ?_
  refine ae.nil ?_
  refine aa.ret ?_
  refine ai.arr (s:=2) 1 J (fun b1=>?_)
  exact ai.here ⟨_,.cons (.tmp _ _ J) .nil,_,.cons .here .nil,⟨b1,J,J⟩⟩
 ·refine aa.skip ?_
  refine aa.seq ?_
  refine aa.region ?_
  refine qy (xs:=([]:List aI).map AV.str) J J J J J J (fun b2=>?_)
  refine ae.qv (aA J) J ?_
  refine dA (g:=AV.str) (Xs:=[]) J J J J J J J J (.list _) h (fun _=>.here) J (fun b3=>?_)
  refine ae.qv (cU J) J ?_
  refine ae.nil ?_
  refine aa.ret ?_
  exact ai.here ⟨_,.cons (.tmp _ _ J) .nil,_,.cons .here .nil,⟨b3,J,J⟩⟩
theorem qH:H4 Tryz.prog 135 (fun l=>Value.string ⟨l.toArray⟩) BM:=⟨fun bN off cap zs w hH hb hs=>Tryz.slices_Sort_string bN off cap zs w hH hb hs,fun p cap w=>Tryz.slices_Sort_string_none p cap w⟩
theorem qI [GI:bF] {aY:Bk} {ab:List aI} {r:(List aI)} (h:fZ ab=some r):aJ Tryz.prog 135 [.sl 1 aY 0 ab.length] [(aY,.arr 1 (ab.map AV.str))] (T0 [(aY,.arr 1 (r.map AV.str))] (.iV [])):=
 yP qH (g:=AV.str) (fun h=>h.ct) (fun w S x=>.str _) (fun _=>J) (fun xs=>List.length_mergeSort _) (fun _=>J) h
theorem o9 [GI:bF] {aY:Bk} {ab:List aI} {r:(List aI)} (h:ff ab=some r):aJ Tryz.prog 136 [.sl 1 aY 0 ab.length] [(aY,uQ ab)] (T1 (fun mT=>[(mT,uQ r)]) (fun mT=>.sl 1 mT 0 r.length)):=by
 unfold ff at h
 refine aJ.fa ?_
 refine aJ.bD Tryz.func136 J Tryz.ntmps136 Tryz.results136 J J ?_
 refine aM<|rA J J<|rN<|tS<|aM<|rM J J<|ae.qv (cH J) J<|ae.qv (bH J J) J<|rN<|cD h J (fun h=>?_) (fun h=>?_)
 ·refine aM<|rM J J<|rA J J<|rN<|aa.ret<|?_
  cases h
  exact hH J [0] J ⟨aY,J,J⟩
 ·refine tK<|tS<|aM<|rA J J<|rN<|aa.block<|aa.cj (fun x:Int=>dY ab x) (fun x aG=>aG=⟨61,[(0,.sl 1 aY 0 ab.length),(3,I x)],[(aY,uQ ab)]⟩) h ?_ ?_
  ·exact ai.lq [0] J J J
  ·intro n2 z1 aG J1 eZ h mM iQ
   obtain rfl:=eZ
   replace h:dY ab n2=some z1:=h
   unfold dY at h
   refine tS<|aM<|rM J J<|rM J J<|ae.qv (cH J) J<|ae.qv (bH J J) J<|rN<|cD h J (fun h=>?_) (fun h=>?_)
   ·refine tK<|tS<|aa.block<|tS<|aa.bL (id:=6) (A:=[0,0,3,7,0,0,32,112,240,511]) 10 mixed J (by kernel_rfl) (by kernel_rfl)<|AM.qv (aA J) J<|AM.qv (aA J) J<|aF h fun v3 e1 h=>AM.qv (aS J J J e1) J<|AM.qv (bl (g:=AV.str) J J (.inl .p0) e1 J) J<|AM.qv (aA J) J<|AM.qv (aA J) J<|AM.qv (bR J J) J<|aF h fun v4 e2 h=>AM.qv (aS J J J e2) J<|AM.qv (bl (g:=AV.str) J J (.inl .p0) e2 J) J<|AM.qv (qk J J) J<|AM.nil<|rN<|cD h J (fun h=>?_) (fun h=>?_)
    ·refine aM<|rM J J<|rM J J<|aF h fun l5 e3 h=>ae.qv (kK J J (.some _ _ _ J) .none J J e3) J<|rA J J<|rN<|tS<|aM<|rA J J<|rN<|aa.block<|aa.cj (fun x:(List aI)×Int×Int=>dX n2 l5 x.1 x.2.1 x.2.2) (fun x aG=>aG=⟨61,[(0,.sl 1 aY 0 x.1.length),(3,I x.2.1),(4,.sl 1 aY n2.toNat l5.length),(5,I x.2.2)],[(aY,uQ x.1)]⟩) h ?_ ?_
     ·exact ai.lq [0] J J J
     ·intro x z2 aG J2 eZ h FE FF
      obtain ⟨l9,n10,n11⟩:=x
      obtain rfl:=eZ
      replace h:dX n2 l5 l9 n10 n11=some z2:=h
      unfold dX at h
      refine tS<|aM<|rM J J<|rM J J<|ae.qv (yd J) J<|ae.qv (bH J J) J<|rN<|cD h J (fun h=>?_) (fun h=>?_)
      ·refine tK<|tS<|aa.block<|tS<|aa.bL (id:=11) (A:=[0,0,3,7,0,0,32,112,240,511]) 10 mixed J (by kernel_rfl) (by kernel_rfl)<|AM.qv (aA J) J<|AM.qv (aA J) J<|aF h fun v12 e4 h=>AM.qv (jd (L:=n2) J J J e4) J<|AM.qv (bl (g:=AV.str) J J (.inl .p0) (lx e4).2 J) J<|AM.qv (aA J) J<|AM.qv (aA J) J<|AM.qv (bR J J) J<|aF h fun oO e5 h=>AM.qv (jd (L:=n2) J J J e5) J<|AM.qv (bl (g:=AV.str) J J (.inl .p0) (lx e5).2 J) J<|AM.qv (wc J J) J<|AM.nil<|rN<|aa.cut (fun aG=>∃ (om:List aI) (n15:Int),dW n11 om n15=some z2∧aG=⟨61,[(0,.sl 1 aY 0 om.length),(3,I n15),(4,.sl 1 aY n2.toNat l5.length),(5,I n11)],[(aY,uQ om)]⟩) ?_ ?_
       ·refine cD h J (fun h=>?_) (fun h=>?_)
        ·exact aM<|rM J J<|rM J J<|rM J J<|rM J J<|aF h fun oh e6 h=>ae.qv (jd (L:=n2) J J J e6) J<|ae.qv (bl (g:=AV.str) J J (.inl .p0) (lx e6).2 J) J<|aF h fun v17 e7 h=>ae.qv (aS J J J e7) J<|bQ (g:=AV.str) (xZ:=oh) J J J J e7 J .p0 J<|ae.ghost<|ai.eqs (s:=0) (eW:=.sl 1 aY 0 (l9.set n10.toNat oh).length) J (by rw [List.length_set])<|ai.here<|ae.ghost<|ai.eqs (s:=45) (eW:=.sl 1 aY 0 (l9.set n10.toNat oh).length) J (by rw [List.length_set])<|ai.here<|rN<|tR<|rM J J<|ae.qv (aU J J) J<|rA J J<|rN<|aa.stop<|ai.lq [0] ⟨l9.set n10.toNat oh,aT (n10+(1:Int)),h,J⟩ J J
        ·exact tK<|aa.stop<|ai.lq [0] ⟨l9,n10,h,J⟩ J J
       ·rintro aG ⟨om,n15,h,rfl⟩
        unfold dW at h
        refine aa.bN<|tR<|rM J J<|ae.qv (aU J J) J<|rA J J<|rN<|aa.stop<|?_
        cases h
        exact FE _ _ J<|ai.lq [0] J J J
      ·refine aa.exit J<|have h:=cr h FF;?_
       unfold jK at h
       refine aM<|rM J J<|rM J J<|aF h fun uh e8 h=>ae.qv (kK J J (.some _ _ _ J) .none J J e8) J<|Dq (g:=AV.str) (Z:=[]) (L:=n10) J J J J J J e8 .p0<|ae.ghost<|ai.eqs (s:=0) (eW:=.sl 1 aY 0 (Ck l9 n10 uh.length []).length) J (congrArg (AV.sl 1 aY 0) (vq e8))<|ai.here<|ae.ghost<|ai.eqs (s:=54) (eW:=.sl 1 aY 0 (Ck l9 n10 uh.length []).length) J (congrArg (AV.sl 1 aY 0) (vq e8))<|ai.here<|rN<|aM<|rM J J<|rM J J<|aF h fun nU e9 h=>ae.qv (kK J J .none (.some _ _ _ J) J J e9) J<|rA J J<|ae.ghost<|ai.K1 e9 .p0<|ai.here<|rN<|aa.ret<|have h:=cr h iQ;?_
       cases h
       exact hH J [0] J ⟨aY,J,J⟩
    ·refine tK<|aa.bN<|tR<|rM J J<|ae.qv (aU J J) J<|rA J J<|rN<|aa.stop<|?_
     cases h
     exact mM _ _ J<|ai.lq [0] J J J
   ·refine aa.exit J<|have h:=cr h iQ;aM<|rM J J<|rA J J<|rN<|aa.ret<|?_
    cases h
    exact hH J [0] J ⟨aY,J,J⟩
theorem LN [GI:bF] {ab:List aI} {r:(List aI)} (h:AL ab=some r):aJ Tryz.prog 60 [Ke ab] [] (T1 (fun mT=>[(mT,uQ r)]) (fun mT=>.sl 1 mT 0 r.length)):=by
 unfold AL at h
 refine aJ.fa ?_
 refine aJ.bD Tryz.func60 J Tryz.ntmps60 Tryz.results60 J J ?_
 refine aM<|rA J J<|rN<|aM<|rM J J<|aF h fun v1 e1 h=>ep J (qe e1) cR .nil (fun _=>J) J fun b2=>rA J J<|rN<|aM<|rM J J<|aF h fun v3 e2 h=>bz J (qI (kL e2)) cR (.cons .p0 .nil) J J<|ae.ghost<|ai.eqs (s:=0) (eW:=.sl 1 b2 0 v3.length) J (congrArg (AV.sl 1 b2 0) (cP e2))<|ai.here<|ae.ghost<|ai.eqs (s:=4) (eW:=.sl 1 b2 0 v3.length) J (congrArg (AV.sl 1 b2 0) (cP e2))<|ai.here<|ae.ghost<|ai.eqs (s:=5) (eW:=.sl 1 b2 0 v3.length) J (congrArg (AV.sl 1 b2 0) (cP e2))<|ai.here<|rN<|aM<|rM J J<|aF h fun v4 e3 h=>ep J (o9 e3) cR (.cons .p0 .nil) (fun _=>J) J fun b5=>rA J J<|rN<|aa.ret<|?_
 cases h
 exact hH J [0] J ⟨b5,J,J⟩
theorem LO [GI:bF] {ab:fb} {r:Bool} (h:yk ab=r):Pu Tryz.prog 138 [fb.av ab] (.bool r):=by
 unfold yk at h
 refine aJ.bD Tryz.func138 J Tryz.ntmps138 Tryz.results138 J J ?_
 refine aM<|jU J J J J fun b1=>rA J J<|rN<|tS<|aa.cut (fun aG=>∃ (c2:Bool),vD c2=r∧aG=⟨11,[(2,.bool c2)],[]⟩) ?_ ?_
 ·refine tR<|rF J J J<|rL J J .p0 J J<|ae.qv (bY J J) J<|rM J J<|ae.gg J J J (fun hc=>?_) (fun hc=>?_)
  ·rw [BJ hc] at h
   exact rF J J J<|rY J J J<|rL J J .p0 J J<|rY J J J<|ae.qv (bY J J) J<|rE J J J<|rA J J<|rN<|aa.stop<|ai.lq [] ⟨decide (ab.State=(2:Int)),h,J⟩ J J
  ·rw [BI hc] at h
   exact rG J J J J<|rG J J J J<|rT J J J<|rA J J<|rN<|aa.stop<|ai.lq [] ⟨true,h,J⟩ J J
 ·rintro aG ⟨c2,h,rfl⟩
  unfold vD at h
  refine aa.ret<|?_
  obtain rfl:=h
  exact hP J J
theorem ui:H4 Tryz.prog 214 (Value.int .i64) Aq:=⟨fun bN off cap zs w hH hb hs=>Tryz.slices_Sort_int bN off cap zs w hH hb hs,fun p cap w=>Tryz.slices_Sort_int_none p cap w⟩
theorem uj [GI:bF] {aY:Bk} {ab:List Int} {r:(List Int)} (h:mS ab=some r):aJ Tryz.prog 214 [.sl 1 aY 0 ab.length] [(aY,.arr 1 (ab.map I))] (T0 [(aY,.arr 1 (r.map I))] (.iV [])):=
 E3 ui h
theorem sw [GI:bF] {aY:Bk} {ab:List Int} {r:(List Int)} (h:im ab=some r):aJ Tryz.prog 215 [.sl 1 aY 0 ab.length] [(aY,gB ab)] (T1 (fun mT=>[(mT,gB r)]) (fun mT=>.sl 1 mT 0 r.length)):=by
 unfold im at h
 refine aJ.fa ?_
 refine aJ.bD Tryz.func215 J Tryz.ntmps215 Tryz.results215 J J ?_
 refine aM<|rA J J<|rN<|tS<|aM<|rM J J<|ae.qv (cH J) J<|ae.qv (bH J J) J<|rN<|cD h J (fun h=>?_) (fun h=>?_)
 ·refine aM<|rM J J<|rA J J<|rN<|aa.ret<|?_
  cases h
  exact hH J [0] J ⟨aY,J,J⟩
 ·refine tK<|tS<|aM<|rA J J<|rN<|aa.block<|aa.cj (fun x:Int=>gd ab x) (fun x aG=>aG=⟨61,[(0,.sl 1 aY 0 ab.length),(3,I x)],[(aY,gB ab)]⟩) h ?_ ?_
  ·exact ai.lq [0] J J J
  ·intro n2 z1 aG J1 eZ h mM iQ
   obtain rfl:=eZ
   replace h:gd ab n2=some z1:=h
   unfold gd at h
   refine tS<|aM<|rM J J<|rM J J<|ae.qv (cH J) J<|ae.qv (bH J J) J<|rN<|cD h J (fun h=>?_) (fun h=>?_)
   ·refine tK<|tS<|aa.block<|tS<|aa.bL (id:=6) (A:=[0,0,3,7,0,0,32,112,240,511]) 10 mixed J (by kernel_rfl) (by kernel_rfl)<|AM.qv (aA J) J<|AM.qv (aA J) J<|aF h fun v3 e1 h=>AM.qv (aS J J J e1) J<|AM.qv (bl (g:=I) J J (.inl .p0) e1 J) J<|AM.qv (aA J) J<|AM.qv (aA J) J<|AM.qv (bR J J) J<|aF h fun v4 e2 h=>AM.qv (aS J J J e2) J<|AM.qv (bl (g:=I) J J (.inl .p0) e2 J) J<|AM.qv (bY J J) J<|AM.nil<|rN<|cD h J (fun h=>?_) (fun h=>?_)
    ·refine aM<|rM J J<|rM J J<|aF h fun l5 e3 h=>ae.qv (kK J J (.some _ _ _ J) .none J J e3) J<|rA J J<|rN<|tS<|aM<|rA J J<|rN<|aa.block<|aa.cj (fun x:(List Int)×Int×Int=>gb n2 l5 x.1 x.2.1 x.2.2) (fun x aG=>aG=⟨61,[(0,.sl 1 aY 0 x.1.length),(3,I x.2.1),(4,.sl 1 aY n2.toNat l5.length),(5,I x.2.2)],[(aY,gB x.1)]⟩) h ?_ ?_
     ·exact ai.lq [0] J J J
     ·intro x z2 aG J2 eZ h FE FF
      obtain ⟨l9,n10,n11⟩:=x
      obtain rfl:=eZ
      replace h:gb n2 l5 l9 n10 n11=some z2:=h
      unfold gb at h
      refine tS<|aM<|rM J J<|rM J J<|ae.qv (yd J) J<|ae.qv (bH J J) J<|rN<|cD h J (fun h=>?_) (fun h=>?_)
      ·refine tK<|tS<|aa.block<|tS<|aa.bL (id:=11) (A:=[0,0,3,7,0,0,32,112,240,511]) 10 mixed J (by kernel_rfl) (by kernel_rfl)<|AM.qv (aA J) J<|AM.qv (aA J) J<|aF h fun v12 e4 h=>AM.qv (jd (L:=n2) J J J e4) J<|AM.qv (bl (g:=I) J J (.inl .p0) (lx e4).2 J) J<|AM.qv (aA J) J<|AM.qv (aA J) J<|AM.qv (bR J J) J<|aF h fun oO e5 h=>AM.qv (jd (L:=n2) J J J e5) J<|AM.qv (bl (g:=I) J J (.inl .p0) (lx e5).2 J) J<|AM.qv (jb J J) J<|AM.nil<|rN<|aa.cut (fun aG=>∃ (om:List Int) (n15:Int),ga n11 om n15=some z2∧aG=⟨61,[(0,.sl 1 aY 0 om.length),(3,I n15),(4,.sl 1 aY n2.toNat l5.length),(5,I n11)],[(aY,gB om)]⟩) ?_ ?_
       ·refine cD h J (fun h=>?_) (fun h=>?_)
        ·exact aM<|rM J J<|rM J J<|rM J J<|rM J J<|aF h fun oh e6 h=>ae.qv (jd (L:=n2) J J J e6) J<|ae.qv (bl (g:=I) J J (.inl .p0) (lx e6).2 J) J<|aF h fun v17 e7 h=>ae.qv (aS J J J e7) J<|bQ (g:=I) (xZ:=oh) J J J J e7 J .p0 J<|ae.ghost<|ai.eqs (s:=0) (eW:=.sl 1 aY 0 (l9.set n10.toNat oh).length) J (by rw [List.length_set])<|ai.here<|ae.ghost<|ai.eqs (s:=45) (eW:=.sl 1 aY 0 (l9.set n10.toNat oh).length) J (by rw [List.length_set])<|ai.here<|rN<|tR<|rM J J<|ae.qv (aU J J) J<|rA J J<|rN<|aa.stop<|ai.lq [0] ⟨l9.set n10.toNat oh,aT (n10+(1:Int)),h,J⟩ J J
        ·exact tK<|aa.stop<|ai.lq [0] ⟨l9,n10,h,J⟩ J J
       ·rintro aG ⟨om,n15,h,rfl⟩
        unfold ga at h
        refine aa.bN<|tR<|rM J J<|ae.qv (aU J J) J<|rA J J<|rN<|aa.stop<|?_
        cases h
        exact FE _ _ J<|ai.lq [0] J J J
      ·refine aa.exit J<|have h:=cr h FF;?_
       unfold mO at h
       refine aM<|rM J J<|rM J J<|aF h fun uh e8 h=>ae.qv (kK J J (.some _ _ _ J) .none J J e8) J<|Dq (g:=I) (Z:=(0:Int)) (L:=n10) J J J J J J e8 .p0<|ae.ghost<|ai.eqs (s:=0) (eW:=.sl 1 aY 0 (Ck l9 n10 uh.length (0:Int)).length) J (congrArg (AV.sl 1 aY 0) (vq e8))<|ai.here<|ae.ghost<|ai.eqs (s:=54) (eW:=.sl 1 aY 0 (Ck l9 n10 uh.length (0:Int)).length) J (congrArg (AV.sl 1 aY 0) (vq e8))<|ai.here<|rN<|aM<|rM J J<|rM J J<|aF h fun nU e9 h=>ae.qv (kK J J .none (.some _ _ _ J) J J e9) J<|rA J J<|ae.ghost<|ai.K1 e9 .p0<|ai.here<|rN<|aa.ret<|have h:=cr h iQ;?_
       cases h
       exact hH J [0] J ⟨aY,J,J⟩
    ·refine tK<|aa.bN<|tR<|rM J J<|ae.qv (aU J J) J<|rA J J<|rN<|aa.stop<|?_
     cases h
     exact mM _ _ J<|ai.lq [0] J J J
   ·refine aa.exit J<|have h:=cr h iQ;aM<|rM J J<|rA J J<|rN<|aa.ret<|?_
    cases h
    exact hH J [0] J ⟨aY,J,J⟩
theorem xD [GI:bF] {ab:List Signal} {r:(List Int)} (h:k8 ab=some r):aJ Tryz.prog 198 [iW ab] [] (T1 (fun mT=>[(mT,gB r)]) (fun mT=>.sl 1 mT 0 r.length)):=by
 unfold k8 at h
 refine aJ.fa ?_
 refine aJ.bD Tryz.func198 J Tryz.ntmps198 Tryz.results198 J J ?_
 refine aM<|rA J J<|rN<|aM<|qy J J J J J J fun b1=>rA J J<|rN<|tS<|aM<|rM J J<|ae.qv (dz J) J<|rM J J<|rN<|aa.block<|aa.cj (fun x:(List Int)×Int=>dc ab x.1 x.2) (fun x aG=>∃ (b5:Bk),aG=⟨31,[(3,.sl 1 b5 0 x.1.length),(7,iW ab),(8,I (ab.length:Int)),(9,I x.2)],[(b5,gB x.1)]⟩) h ?_ ?_
 ·exact ai.lq [0] ⟨b1,J⟩ J J
 ·intro x z1 aG J1 eZ h mM iQ
  obtain ⟨l6,n7⟩:=x
  obtain ⟨b5,rfl⟩:=eZ
  replace h:dc ab l6 n7=some z1:=h
  unfold dc at h
  refine aM<|ae.qv (bH J J) J<|rN<|tS<|cD h J (fun h=>?_) (fun h=>?_)
  ·refine tK<|tS<|aa.block<|aM<|aF h fun v8 e1 h=>ae.qv (bJ J J J e1 J J) J<|ae.qv (bA J J J) J<|bX J J J J fun b9=>aB J J J J .p0 J J<|rN<|aM<|rM J J<|rF J J J<|rL J J .p0 J J<|ba (xs:=([v8.At]:List Int).map I) J J J J J J<|aF h fun l10 e2 h=>dA (g:=I) J J J J J J J J (.list _) e2 (fun _=>.p1) J fun Q2=>rA J J<|rN<|aM<|rF J J J<|rL J J .p0 J J<|ae.qv (bY J J) J<|rN<|aa.cut (fun aG=>∃ (xB:Bk) (sr:List Int),iL n7 sr=some z1∧aG=⟨31,[(3,.sl 1 xB 0 sr.length),(7,iW ab),(8,I (ab.length:Int)),(9,I n7)],[(xB,gB sr)]⟩) ?_ ?_
   ·refine cD h J (fun h=>?_) (fun h=>?_)
    ·exact tR<|rM J J<|rF J J J<|rL J J .p0 J J<|ba (xs:=([v8.aV]:List Int).map I) J J J J J J<|aF h fun om e3 h=>dA (g:=I) J J J J J J J J (.list _) e3 (fun _=>.p1) J fun PB=>rA J J<|rN<|aa.stop<|ai.lq [1] ⟨PB,om,h,J⟩ J J
    ·exact tK<|aa.stop<|ai.lq [1] ⟨Q2,l10,h,J⟩ J J
   ·rintro aG ⟨xB,sr,h,rfl⟩
    unfold iL at h
    refine aa.bN<|tR<|ae.qv (aU J J) J<|rM J J<|rN<|aa.stop<|?_
    cases h
    exact mM _ _ J<|ai.lq [0] ⟨xB,J⟩ J J
  ·refine aa.exit J<|have h:=cr h iQ;?_
   unfold iM at h
   refine aM<|rM J J<|aF h fun oh e4 h=>bz J (uj (kL e4)) cR (.cons .p0 .nil) J J<|ae.ghost<|ai.eqs (s:=3) (eW:=.sl 1 b5 0 oh.length) J (congrArg (AV.sl 1 b5 0) (cP e4))<|ai.here<|ae.ghost<|ai.eqs (s:=27) (eW:=.sl 1 b5 0 oh.length) J (congrArg (AV.sl 1 b5 0) (cP e4))<|ai.here<|rN<|aM<|rM J J<|aF h fun v17 e5 h=>ep J (sw e5) cR (.cons .p0 .nil) (fun _=>J) J fun wj=>rA J J<|rN<|aa.ret<|?_
   cases h
   exact hH J [0] J ⟨wj,J,J⟩
theorem zv [GI:bF] {ab:an} {ah:Int} {r:fb} (h:na ab ah=some r):Pu Tryz.prog 262 [.eo [.str ab.aK,.str ab.aN,iW ab.bq,I ab.az,I ab.ay.bg,I ab.ay.To],I ah] (fb.av r):=by
 unfold na at h
 refine aJ.bD Tryz.func262 J Tryz.ntmps262 Tryz.results262 J J ?_
 refine aM<|bX J J J J fun b1=>rN<|tS<|aa.iS (id:=1) (A:=[0,1,3,7,0,16,48,112,0,256,768,1792,4095,0,16383]) (H0:=[]) (HH:=fun β=>[((β 13),.cells [.str [],.str [],I (0:Int),I (0:Int),I (0:Int),I (0:Int)]),(b1,.cells [.str [],.str [],I (0:Int),I (0:Int),I (0:Int),I (0:Int)])]) 14 mixed J (by kernel_rfl) (by kernel_rfl) [⟨some 13,none,[],fun b=>(b,.cells [.str [],.str [],I (0:Int),I (0:Int),I (0:Int),I (0:Int)]),none,[]⟩] [13] J (by kernel_rfl) J .nil (fun _=>J)<|AT.am 13 J J<|AM.qv (aA J) J<|AM.qv (aP J) J<|AM.qv (aQ J J) J<|AM.qv (aH J J J) J<|AM.qv (aA J) J<|AM.qv (aP J) J<|AM.qv (aQ J J) J<|AM.qv (aH J J J) J<|AM.qv (aA J) J<|AM.qv (aP J) J<|AM.qv (aQ J J) J<|AM.qv (aH J J J) J<|AM.qv (db J J J J J) J<|AM.nil<|AT.BK (V:=fun b=>.ptr b 0) (Ti:=[]) (Pi:=fun b=>[(b,.cells [.str [],.str [],I (0:Int),I (0:Int),I (0:Int),I (0:Int)])]) (fun _=>J) (fun _=>J) (fun _ _=>J) J (fun _=>J) J J J ?_ ?_
 ·exact bX J J J J fun b2=>ae.nil ⟨b2,_,J,J⟩
 refine AT.ue (fun _=>J) fun β=>?_
 generalize β 13=b2
 clear β
 refine aB J J J J .p0 J J<|rN<|tS<|aM<|rM J J<|ae.qv (aP J) J<|ae.qv (aQ J J) J<|ae.qv (aH J J J) J<|ae.qv (dz J) J<|rM J J<|rN<|aa.block<|aa.cj (fun x:Int×Int×Int=>ey ab ah x.1 x.2.1 x.2.2) (fun x aG=>aG=⟨67,[(0,.eo [.str ab.aK,.str ab.aN,iW ab.bq,I ab.az,I ab.ay.bg,I ab.ay.To]),(1,I ah),(4,.ptr b1 0),(5,.ptr b2 0),(24,iW ab.bq),(25,I (ab.bq.length:Int)),(26,I x.2.2)],[(b1,.cells [.str [],.str [],I (0:Int),I (0:Int),I (0:Int),I (0:Int)]),(b2,.cells [.str ab.aK,.str ab.aN,I ab.az,I x.1,I x.2.1,I (0:Int)])]⟩) h ?_ ?_
 ·exact ai.lq [1,0] J J J
 ·intro x z1 aG J1 eZ h mM iQ
  obtain ⟨n6,n7,n8⟩:=x
  obtain rfl:=eZ
  replace h:ey ab ah n6 n7 n8=some z1:=h
  unfold ey at h
  refine aM<|ae.qv (bH J J) J<|rN<|tS<|cD h J (fun h=>?_) (fun h=>?_)
  ·refine tK<|tS<|aa.block<|aM<|aF h fun v9 e1 h=>ae.qv (bJ J J J e1 J J) J<|ae.qv (bA J J J) J<|bX J J J J fun nj=>aB J J J J .p0 J J<|rN<|tS<|aM<|rF J J J<|rL J J .p0 J J<|ae.qv (rW J J) J<|rN<|aa.cut (fun aG=>∃ (n11:Int),kh n7 n8 v9 n11=some z1∧aG=⟨67,[(0,.eo [.str ab.aK,.str ab.aN,iW ab.bq,I ab.az,I ab.ay.bg,I ab.ay.To]),(1,I ah),(4,.ptr b1 0),(5,.ptr b2 0),(7,.ptr nj 0),(24,iW ab.bq),(25,I (ab.bq.length:Int)),(26,I n8)],[(b1,.cells [.str [],.str [],I (0:Int),I (0:Int),I (0:Int),I (0:Int)]),(b2,.cells [.str ab.aK,.str ab.aN,I ab.az,I n11,I n7,I (0:Int)]),(nj,.cells (vE v9))]⟩) ?_ ?_
   ·refine cD h J (fun h=>?_) (fun h=>?_)
    ·exact tR<|rF J J J<|rL J J .p0 J J<|rF J J J<|aB J J J J .p2 J J<|rN<|aa.stop<|ai.lq [1,1,0] ⟨v9.At,h,J⟩ J J
    ·exact tK<|aa.stop<|ai.lq [1,1,0] ⟨n6,h,J⟩ J J
   ·rintro aG ⟨n11,h,rfl⟩
    unfold kh at h
    refine aM<|rF J J J<|rL J J .p2 J J<|ae.qv (bY J J) J<|rN<|aa.cut (fun aG=>∃ (n12:Int),kf n8 n11 n12=some z1∧aG=⟨67,[(0,.eo [.str ab.aK,.str ab.aN,iW ab.bq,I ab.az,I ab.ay.bg,I ab.ay.To]),(1,I ah),(4,.ptr b1 0),(5,.ptr b2 0),(24,iW ab.bq),(25,I (ab.bq.length:Int)),(26,I n8)],[(b1,.cells [.str [],.str [],I (0:Int),I (0:Int),I (0:Int),I (0:Int)]),(b2,.cells [.str ab.aK,.str ab.aN,I ab.az,I n11,I n12,I (0:Int)])]⟩) ?_ ?_
    ·refine cD h J (fun h=>?_) (fun h=>?_)
     ·exact tR<|rF J J J<|rL J J .p1 J J<|ae.qv (aU J J) J<|rF J J J<|aB J J J J .p1 J J<|rN<|aa.stop<|ai.lq [0,0] ⟨aT (n7+(1:Int)),h,J⟩ J J
     ·exact tK<|aa.stop<|ai.lq [0,0] ⟨n7,h,J⟩ J J
    ·rintro aG ⟨n12,h,rfl⟩
     unfold kf at h
     refine aa.bN<|tR<|ae.qv (aU J J) J<|rM J J<|rN<|aa.stop<|?_
     cases h
     exact mM _ _ J<|ai.lq [0,0] J J J
  ·refine aa.exit J<|have h:=cr h iQ;tS<|tS<|aa.cut (fun aG=>∃ (Ls:Bool),kj ab n6 n7 Ls=some r∧aG=⟨67,[(0,.eo [.str ab.aK,.str ab.aN,iW ab.bq,I ab.az,I ab.ay.bg,I ab.ay.To]),(4,.ptr b1 0),(5,.ptr b2 0),(59,.bool Ls)],[(b1,.cells [.str [],.str [],I (0:Int),I (0:Int),I (0:Int),I (0:Int)]),(b2,.cells [.str ab.aK,.str ab.aN,I ab.az,I n6,I n7,I (0:Int)])]⟩) ?_ ?_
   ·refine tR<|rM J J<|ae.qv (aP J) J<|ae.qv (aQ J J) J<|ae.qv (aQ J J) J<|ae.qv (aH J J J) J<|rM J J<|ae.qv (rW J J) J<|rM J J<|ae.bW J J J (fun hc=>?_) (fun hc=>?_)
    ·rw [lM hc] at h
     exact rM J J<|rY J J J<|rM J J<|rY J J J<|ae.qv (aP J) J<|rY J J J<|ae.qv (aQ J J) J<|rY J J J<|ae.qv (aQ J J) J<|rY J J J<|ae.qv (aH J J J) J<|rY J J J<|ae.qv (bH J J) J<|rT J J J<|rN<|aa.stop<|ai.lq [0,0] ⟨decide (ah < ab.ay.To),h,J⟩ J J
    ·rw [lN hc] at h
     exact rG J J J J<|rG J J J J<|rG J J J J<|rG J J J J<|rG J J J J<|rG J J J J<|rE J J J<|rN<|aa.stop<|ai.lq [0,0] ⟨false,h,J⟩ J J
   ·rintro aG ⟨Ls,h,rfl⟩
    unfold kj at h
    refine aa.cut (fun aG=>∃ (n14:Int),ki ab n6 n7 n14=some r∧aG=⟨67,[(4,.ptr b1 0),(5,.ptr b2 0)],[(b1,.cells [.str [],.str [],I (0:Int),I (0:Int),I (0:Int),I (0:Int)]),(b2,.cells [.str ab.aK,.str ab.aN,I ab.az,I n6,I n7,I n14])]⟩) ?_ ?_
    ·refine cB h J (fun h=>?_) (fun h=>?_)
     ·exact tR<|rM J J<|ae.qv (aP J) J<|ae.qv (aQ J J) J<|ae.qv (aQ J J) J<|ae.qv (aH J J J) J<|rF J J J<|aB J J J J .p1 J J<|rN<|aa.stop<|ai.lq [0,0] ⟨ab.ay.To,h,J⟩ J J
     ·exact tK<|aa.stop<|ai.lq [0,0] ⟨(0:Int),h,J⟩ J J
    ·rintro aG ⟨n14,h,rfl⟩
     unfold ki at h
     refine aM<|ae.qv (bb J J .p1 J) J<|aB J J J J .p0 J J<|rN<|aa.ret<|?_
     cases h
     exact ai.here ⟨_,.cons (.all _ _ _ _ _ _ J .p0 aE.h aX.h J J) .nil,J⟩
theorem FK [GI:bF] {ab:List Signal} {ah:aI} {aO:aI} {bE:Int} {r:fb} (h:sL ab ah aO bE=some r):Pu Tryz.prog 199 [iW ab,.str ah,.str aO,I bE] (fb.av r):=by
 unfold sL at h
 refine aJ.bD Tryz.func199 J Tryz.ntmps199 Tryz.results199 J J ?_
 refine aM<|bX J J J J fun b1=>rN<|aM<|rM J J<|rM J J<|aF h fun v2 e1 h=>ep J (xC e1) cR .nil (fun _=>J) J fun b3=>rM J J<|rX J J J<|rX J J J<|rA J J<|rA J J<|rN<|tS<|aM<|rM J J<|ae.qv (dz J) J<|rM J J<|rN<|aa.block<|aa.cj (fun x:Int=>kR ah aO bE v2 x) (fun x aG=>aG=⟨46,[(1,.str ah),(2,.str aO),(3,I bE),(8,.ptr b1 0),(19,zo v2.1),(20,I (v2.1.length:Int)),(21,I x)],[(b1,.cells [.str [],.str [],I (0:Int),I (0:Int),I (0:Int),I (0:Int)])]⟩) h ?_ ?_
 ·exact ai.lq [1] J J J
 ·intro n5 z1 aG J1 eZ h mM iQ
  obtain rfl:=eZ
  replace h:kR ah aO bE v2 n5=some z1:=h
  unfold kR at h
  refine aM<|ae.qv (bH J J) J<|rN<|tS<|cD h J (fun h=>?_) (fun h=>?_)
  ·refine tK<|tS<|aa.block<|aM<|aF h fun v6 e2 h=>ae.qv (bJ J J J e2 J J) J<|ae.qv (aH J J J) J<|rA J J<|rN<|tS<|aa.cut (fun aG=>∃ (c7:Bool),qD bE n5 v6 c7=some z1∧aG=⟨46,[(1,.str ah),(2,.str aO),(3,I bE),(8,.ptr b1 0),(12,.eo [.str v6.aK,.str v6.aN,iW v6.bq,I v6.az,I v6.ay.bg,I v6.ay.To]),(19,zo v2.1),(20,I (v2.1.length:Int)),(21,I n5),(38,.bool c7)],[(b1,.cells [.str [],.str [],I (0:Int),I (0:Int),I (0:Int),I (0:Int)])]⟩) ?_ ?_
   ·refine tR<|rM J J<|ae.qv (aP J) J<|ae.qv (aQ J J) J<|ae.qv (aH J J J) J<|rM J J<|ae.qv (qk J J) J<|rM J J<|ae.bW J J J (fun hc=>?_) (fun hc=>?_)
    ·rw [lM hc] at h
     exact rM J J<|rY J J J<|ae.qv (aP J) J<|rY J J J<|ae.qv (aQ J J) J<|rY J J J<|ae.qv (aH J J J) J<|rY J J J<|rM J J<|rY J J J<|ae.qv (qk J J) J<|rT J J J<|rN<|aa.stop<|ai.lq [0] ⟨decide (v6.aN=aO),h,J⟩ J J
    ·rw [lN hc] at h
     exact rG J J J J<|rG J J J J<|rG J J J J<|rG J J J J<|rG J J J J<|rE J J J<|rN<|aa.stop<|ai.lq [0] ⟨false,h,J⟩ J J
   ·rintro aG ⟨c7,h,rfl⟩
    unfold qD at h
    refine cB h J (fun h=>?_) (fun h=>?_)
    ·refine aM<|rM J J<|rM J J<|aF h fun v8 e3 h=>bw J (zv e3) cR J<|aB J J J J .p0 J J<|rN<|aa.ret<|have h:=cr h iQ;?_
     cases h
     exact ai.here ⟨_,.cons (.all _ _ _ _ _ _ J .p0 aE.h aX.h J J) .nil,J⟩
    ·refine tK<|aa.bN<|tR<|ae.qv (aU J J) J<|rM J J<|rN<|aa.stop<|?_
     cases h
     exact mM _ _ J<|ai.lq [0] J J J
  ·refine aa.exit J<|have h:=cr h iQ;aM<|rM J J<|rM J J<|ae.qv (db J J J J J) J<|aB J J J J .p0 J J<|rN<|aa.ret<|?_
   cases h
   exact ai.here ⟨_,.cons (.all _ _ _ _ _ _ J .p0 aE.h aX.h J J) .nil,J⟩
theorem FM [GI:bF] {ab:List Signal} {ah:aI} {aO:aI} {mB:fb→Option Bool} {sa:FuncId} [bu Tryz.prog sa] {tP:List AV} (Ly:∀ {y0:_} {u:Bool},mB y0=some u→Pu Tryz.prog sa (fb.av y0 :: tP) (.bool u)) {r:(List au)} (h:sM ab ah aO mB=some r):aJ Tryz.prog 137 [iW ab,.str ah,.str aO,.func (.func sa) tP] [] (T1 (fun mT=>[(mT,iF r)]) (fun mT=>.sl 2 mT 0 r.length)):=by
 unfold sM at h
 refine aJ.fa ?_
 refine aJ.bD Tryz.func137 J Tryz.ntmps137 Tryz.results137 J J ?_
 refine aM<|rA J J<|rN<|aM<|rA J J<|rN<|aM<|rM J J<|aF h fun v1 e1 h=>ep J (xD e1) cR .nil (fun _=>J) J fun b2=>rA J J<|rN<|tS<|aM<|rM J J<|ae.qv (cH J) J<|ae.qv (bR J J) J<|rM J J<|rN<|aa.block<|aa.cj (fun x:(List au)×Int=>fG ab ah aO mB v1 x.1 x.2) (fun x aG=>∃ (b6:Bk),aG=⟨74,[(0,iW ab),(1,.str ah),(2,.str aO),(3,.func (.func sa) tP),(9,.sl 2 b6 0 x.1.length),(10,.sl 1 b2 0 v1.length),(17,I (aT ((v1.length:Int) - (1:Int)))),(18,I x.2)],[(b6,iF x.1),(b2,gB v1)]⟩) h ?_ ?_
 ·exact ai.arr (s:=9) 2 J fun b9=>ai.lq [0,0] ⟨b9,J⟩ J J
 ·intro x z1 aG J1 eZ h mM iQ
  obtain ⟨l7,n8⟩:=x
  obtain ⟨b6,rfl⟩:=eZ
  replace h:fG ab ah aO mB v1 l7 n8=some z1:=h
  unfold fG at h
  refine aM<|ae.qv (bH J J) J<|rN<|tS<|cD h J (fun h=>?_) (fun h=>?_)
  ·refine tK<|tS<|aa.cut (fun aG=>∃ (nj:Bk) (iU:List au),kS n8 iU=some z1∧aG=⟨74,[(0,iW ab),(1,.str ah),(2,.str aO),(3,.func (.func sa) tP),(9,.sl 2 nj 0 iU.length),(10,.sl 1 b2 0 v1.length),(17,I (aT ((v1.length:Int) - (1:Int)))),(18,I n8)],[(nj,iF iU),(b2,gB v1)]⟩) ?_ ?_
   ·refine aa.block<|aM<|rM J J<|rA J J<|rN<|tS<|aM<|rM J J<|rM J J<|rM J J<|rM J J<|rM J J<|rM J J<|aF h fun v12 e2 h=>ae.qv (aS J J J e2) J<|ae.qv (bl (g:=I) J J (.inl .p1) e2 J) J<|aF h fun oO e3 h=>bw J (FK e3) cR J<|aF h fun mC e4 h=>EG J J (Ly e4) cR J<|ae.qv (fj J) J<|rN<|cB h J (fun h=>?_) (fun h=>?_)
    ·exact aa.exit J<|aa.stop<|ai.lq [0,0] ⟨b6,l7,h,J⟩ J J
    ·refine tK<|aM<|rM J J<|ae.qv (cH J) J<|rA J J<|rN<|tS<|aa.cut (fun aG=>∃ (Lw:Bool),kT v1 l7 n8 Lw=some z1∧aG=⟨74,[(0,iW ab),(1,.str ah),(2,.str aO),(3,.func (.func sa) tP),(9,.sl 2 b6 0 l7.length),(10,.sl 1 b2 0 v1.length),(11,I n8),(12,I (l7.length:Int)),(17,I (aT ((v1.length:Int) - (1:Int)))),(18,I n8),(48,.bool Lw)],[(b6,iF l7),(b2,gB v1)]⟩) ?_ ?_
     ·refine aa.bL (id:=8) (A:=[0,1,3,7,7,23,63,127,255,7,7,1543,3591,8191,16383]) 15 mixed J (by kernel_rfl) (by kernel_rfl)<|AM.qv (aA J) J<|AM.qv (ir J J) J<|AM.qv (aA J) J<|AM.bW J J J (fun hc=>?_) (fun hc=>?_)
      ·exact have h:=uB hc h;AM.qv (aA J) J<|AM.bc J J J<|AM.qv (aA J) J<|AM.bc J J J<|AM.qv (bR J J) J<|AM.bc J J J<|aF h fun oh e5 h=>AM.qv (aS J J J e5) J<|AM.bc J J J<|AM.qv (dB J J) J<|AM.bc J J J<|AM.qv (bl (g:=au.av) J J (.inl .p0) e5 J) J<|AM.bc J J J<|AM.qv (aA J) J<|AM.bc J J J<|AM.qv (aA J) J<|AM.bc J J J<|aF h fun v17 e6 h=>AM.qv (aS J J J e6) J<|AM.bc J J J<|AM.qv (bl (g:=I) J J (.inl .p1) e6 J) J<|AM.bc J J J<|AM.qv (bY J J) J<|AM.qv (ps J J) J<|AM.nil<|rN<|aa.stop<|ai.lq [0,0] ⟨decide (oh.To=v17),h,J⟩ J J
      ·exact have h:=EN hc h;AM.bn J J J J<|AM.bn J J J J<|AM.bn J J J J<|AM.bn J J J J<|AM.bn J J J J<|AM.bn J J J J<|AM.bn J J J J<|AM.bn J J J J<|AM.bn J J J J<|AM.bn J J J J<|AM.qv (pt J J) J<|AM.nil<|rN<|aa.stop<|ai.lq [0,0] ⟨false,h,J⟩ J J
     ·rintro aG ⟨Lw,h,rfl⟩
      unfold kT at h
      refine aa.cut (fun aG=>∃ (wj:Bk) (nU:List au),mK n8 nU=some z1∧aG=⟨74,[(0,iW ab),(1,.str ah),(2,.str aO),(3,.func (.func sa) tP),(9,.sl 2 wj 0 nU.length),(10,.sl 1 b2 0 v1.length),(17,I (aT ((v1.length:Int) - (1:Int)))),(18,I n8)],[(wj,iF nU),(b2,gB v1)]⟩) ?_ ?_
      ·refine cB h J (fun h=>?_) (fun h=>?_)
       ·exact tR<|rM J J<|rM J J<|ae.qv (bR J J) J<|rM J J<|rM J J<|ae.qv (aU J J) J<|aF h fun v20 e7 h=>ae.qv (aS J J J e7) J<|ae.qv (bl (g:=I) J J (.inl .p1) e7 J) J<|aF h fun v21 e8 h=>ae.qv (aS J J J e8) J<|ae.qv (dB J J) J<|bQ (g:=au.av) (xZ:=(⟨v21.bg,v20⟩:au)) J J J J e8 J .p0 J<|ae.ghost<|ai.eqs (s:=9) (eW:=.sl 2 b6 0 (l7.set (aT ((l7.length:Int) - (1:Int))).toNat (⟨v21.bg,v20⟩:au)).length) J (by rw [List.length_set])<|ai.here<|ae.ghost<|ai.eqs (s:=49) (eW:=.sl 2 b6 0 (l7.set (aT ((l7.length:Int) - (1:Int))).toNat (⟨v21.bg,v20⟩:au)).length) J (by rw [List.length_set])<|ai.here<|rN<|aa.stop<|ai.lq [0,0] ⟨b6,l7.set (aT ((l7.length:Int) - (1:Int))).toNat (⟨v21.bg,v20⟩:au),h,J⟩ J J
       ·exact aa.bL (id:=10) (A:=[0,0,0,6,14,0,0,64,224,480,1022,2046,4095,8191]) 12 mixed J (by kernel_rfl) (by kernel_rfl)<|AM.qv (aA J) J<|AM.qv (aA J) J<|AM.qv (aA J) J<|aF h fun v22 e9 h=>AM.qv (aS J J J e9) J<|AM.qv (bl (g:=I) J J (.inl .p1) e9 J) J<|AM.qv (aA J) J<|AM.qv (aA J) J<|AM.qv (aU J J) J<|aF h fun v23 vT h=>AM.qv (aS J J J vT) J<|AM.qv (bl (g:=I) J J (.inl .p1) vT J) J<|AM.qv (db J J J J J) J<|AM.fk (xs:=([(⟨v22,v23⟩:au)]).map au.av) J J J J J J<|AM.nil<|aF h fun Xd zp h=>dA (g:=au.av) J J J J J J J J (.list _) zp (fun _=>.p0) J fun vF=>rA J J<|rN<|aa.stop<|ai.lq [0,0] ⟨vF,Xd,h,J⟩ J J
      ·rintro aG ⟨wj,nU,h,rfl⟩
       unfold mK at h
       exact aa.bN<|aa.stop<|ai.lq [0,0] ⟨wj,nU,h,J⟩ J J
   ·rintro aG ⟨nj,iU,h,rfl⟩
    unfold kS at h
    refine tR<|ae.qv (aU J J) J<|rM J J<|rN<|aa.stop<|?_
    cases h
    exact mM _ _ J<|ai.lq [0,0] ⟨nj,J⟩ J J
  ·refine aa.exit J<|have h:=cr h iQ;aM<|rM J J<|rA J J<|rN<|aa.ret<|?_
   cases h
   exact hH J [0] J ⟨b6,J,J⟩
theorem zw [GI:bF] {ab:List Signal} {ah:aI} {aO:aI} {r:(List au)} (h:nf ab ah aO=some r):aJ Tryz.prog 61 [iW ab,.str ah,.str aO] [] (T1 (fun mT=>[(mT,iF r)]) (fun mT=>.sl 2 mT 0 r.length)):=by
 unfold nf at h
 refine aJ.fa ?_
 refine aJ.bD Tryz.func61 J Tryz.ntmps61 Tryz.results61 J J ?_
 refine aM<|rA J J<|rN<|aM<|rM J J<|rM J J<|rM J J<|aF h fun v1 e1 h=>ep J (FM (fun e=>LO (Option.some.inj e)) e1) cR .nil (fun _=>J) J fun b2=>rA J J<|rN<|aa.ret<|?_
 cases h
 exact hH J [0] J ⟨b2,J,J⟩
theorem OE [GI:bF] {ab:au} {ah:au} {r:au×Bool} (h:yW ab ah=r):Pu Tryz.prog 62 [au.av ab,au.av ah] (.iV [au.av r.1,.bool r.2]):=by
 unfold yW at h
 refine aJ.bD Tryz.func62 J Tryz.ntmps62 Tryz.results62 J J ?_
 refine aM<|jU J J J J fun b1=>jU J J J J fun b2=>bX J J J J fun b3=>rA J J<|rN<|aM<|rF J J J<|rL J J .p2 J J<|rF J J J<|rL J J .p1 J J<|ae.qv (Es J J) J<|rF J J J<|rL J J .p2 J J<|rF J J J<|rL J J .p1 J J<|ae.qv (HI J J) J<|ae.qv (db J J J J J) J<|bX J J J J fun b4=>aB J J J J .p0 J J<|rN<|tS<|aa.iS (id:=2) (A:=[0,0,2,0,8,30,1,127]) (H0:=[(b3,.cells [I (0:Int),I (0:Int)])]) (HH:=fun β=>[(b3,.cells [I (max ab.bg ah.bg),I (min ab.To ah.To)]),(b4,.cells [I (max ab.bg ah.bg),I (min ab.To ah.To)]),(b2,.cells [I ah.bg,I ah.To]),(b1,.cells [I ab.bg,I ab.To])]) 7 mixed J (by kernel_rfl) (by kernel_rfl) [⟨none,some 6,[],fun _=>(b3,.cells [I (0:Int),I (0:Int)]),none,[]⟩,⟨some 6,none,[],fun _=>(b3,.cells [I (max ab.bg ah.bg),I (min ab.To ah.To)]),none,[]⟩] [] J (by kernel_rfl) J (.cons .p1 .nil) (fun _=>J)<|AT.am 6 J J<|AM.qv (bb J J .p0 J) J<|AM.qv (aC J J) J<|AM.qv (aL J J .p0 J) J<|AM.qv (aC J J) J<|AM.qv (aL J J .p0 J) J<|AM.qv (bH J J) J<|AM.nil<|AT.BL (Ti:=[(b3,.cells [I (0:Int),I (0:Int)])]) (Pi:=[(b3,.cells [I (max ab.bg ah.bg),I (min ab.To ah.To)])]) (fun _=>J) (fun _=>J) (fun _=>J) J J ?_ ?_
 ·exact aB J J J J .p0 J J<|ae.nil ⟨_,J⟩
 refine AT.ue (fun _=>J) fun β=>rA J J<|rN<|aa.ret<|?_
 obtain rfl:=h
 exact ai.here ⟨_,.cons (.all _ _ _ _ _ _ J .p0 aE.h aX.h J J) (.cons (.tmp _ _ J) .nil),J⟩
theorem A0 [GI:bF] {ab:List Signal} {ah:au} {r:(List aj)} (h:mL ab ah=some r):aJ Tryz.prog 13 [iW ab,au.av ah] [] (T1 (fun mT=>[(mT,Jw r)]) (fun mT=>.sl 5 mT 0 r.length)):=by
 unfold mL at h
 refine aJ.fa ?_
 refine aJ.bD Tryz.func13 J Tryz.ntmps13 Tryz.results13 J J ?_
 refine aM<|jU J J J J fun b1=>rA J J<|rN<|aM<|rM J J<|aF h fun v2 e1 h=>ep J (xC e1) cR .nil (fun _=>J) J fun b3=>rM J J<|rX J J J<|rX J J J<|rA J J<|rA J J<|rN<|aM<|rA J J<|rN<|tS<|aM<|rM J J<|ae.qv (dz J) J<|rM J J<|rN<|aa.block<|aa.cj (fun x:(List aI)×Int=>fV ab ah v2 x.1 x.2) (fun x aG=>∃ (b7:Bk),aG=⟨142,[(0,iW ab),(3,.ptr b1 0),(5,zo v2.1),(7,.sl 1 b7 0 x.1.length),(29,iW ab),(30,I (ab.length:Int)),(31,I x.2)],[(b1,.cells [I ah.bg,I ah.To]),(b7,uQ x.1)]⟩) h ?_ ?_
 ·exact ai.arr (s:=7) 1 J fun nj=>ai.lq [2,0] ⟨nj,J⟩ J J
 ·intro x z1 aG J1 eZ h mM iQ
  obtain ⟨l8,n9⟩:=x
  obtain ⟨b7,rfl⟩:=eZ
  replace h:fV ab ah v2 l8 n9=some z1:=h
  unfold fV at h
  refine aM<|ae.qv (bH J J) J<|rN<|tS<|cD h J (fun h=>?_) (fun h=>?_)
  ·refine tK<|tS<|aa.block<|aM<|aF h fun v11 e2 h=>ae.qv (bJ J J J e2 J J) J<|ae.qv (bA J J J) J<|bX J J J J fun xB=>aB J J J J .p0 J J<|rN<|tR<|rM J J<|rF J J J<|rL J J .p0 J J<|ba (xs:=([v11.a8]:List aI).map AV.str) J J J J J J<|aF h fun sr e3 h=>dA (g:=AV.str) J J J J J J J J (.list _) e3 (fun _=>.p2) J fun yl=>rA J J<|rN<|aa.bN<|tR<|ae.qv (aU J J) J<|rM J J<|rN<|aa.stop<|?_
   cases h
   exact mM _ _ J<|ai.lq [1,1] ⟨yl,J⟩ J J
  ·refine aa.exit J<|have h:=cr h iQ;?_
   unfold nC at h
   refine aM<|rA J J<|rN<|tS<|aM<|rM J J<|aF h fun jP e4 h=>Ar J (LN e4) .nil (.cons (ot.sk .p1) .nil) (fun _=>J) (fun _=>J) (fun _=>(.cons (Pl.sk (fun _=>J)) .nil)) J fun uo=>ae.qv (cH J) J<|rM J J<|rN<|aa.block<|aa.cj (fun x:(List aj)×Int=>fU ab ah v2 jP x.1 x.2) (fun x aG=>∃ (x3:Bk),aG=⟨142,[(0,iW ab),(3,.ptr b1 0),(5,zo v2.1),(10,.sl 5 x3 0 x.1.length),(42,.sl 1 uo 0 jP.length),(43,I (jP.length:Int)),(44,I x.2)],[(b1,.cells [I ah.bg,I ah.To]),(x3,Jw x.1),(uo,uQ jP)]⟩) h ?_ ?_
   ·exact ai.arr (s:=10) 5 J fun Xq=>ai.lq [2,0,0] ⟨Xq,J⟩ J J
   ·intro x z2 aG J2 eZ h FE FF
    obtain ⟨qW,n22⟩:=x
    obtain ⟨x3,rfl⟩:=eZ
    replace h:fU ab ah v2 jP qW n22=some z2:=h
    unfold fU at h
    refine aM<|ae.qv (bH J J) J<|rN<|tS<|cD h J (fun h=>?_) (fun h=>?_)
    ·refine tK<|tS<|aa.block<|aM<|aF h fun v24 e5 h=>ae.qv (aS J J J e5) J<|ae.qv (bl (g:=AV.str) J J (.inl .p2) e5 J) J<|rA J J<|rN<|aM<|rM J J<|ae.qv (db J J J J J) J<|bX J J J J fun vF=>aB J J J J .p0 J J<|rN<|tS<|aM<|rM J J<|ae.qv (dz J) J<|rM J J<|rN<|aa.block<|aa.cj (fun x:Int×Int×Int×Int×Int=>fT ab ah v2 qW n22 v24 x.1 x.2.1 x.2.2.1 x.2.2.2.1 x.2.2.2.2) (fun x aG=>aG=⟨142,[(0,iW ab),(3,.ptr b1 0),(5,zo v2.1),(10,.sl 5 x3 0 qW.length),(12,.str v24),(13,.ptr vF 0),(42,.sl 1 uo 0 jP.length),(43,I (jP.length:Int)),(44,I n22),(50,zo v2.1),(51,I (v2.1.length:Int)),(52,I x.2.2.2.2)],[(b1,.cells [I ah.bg,I ah.To]),(x3,Jw qW),(vF,.cells [.str v24,I x.1,I x.2.1,I x.2.2.1,I x.2.2.2.1]),(uo,uQ jP)]⟩) h ?_ ?_
     ·exact ai.lq [1,1,0,0] J J J
     ·intro x z3 aG J3 eZ h QX QY
      obtain ⟨n31,n32,n33,n34,n35⟩:=x
      obtain rfl:=eZ
      replace h:fT ab ah v2 qW n22 v24 n31 n32 n33 n34 n35=some z3:=h
      unfold fT at h
      refine aM<|ae.qv (bH J J) J<|rN<|tS<|cD h J (fun h=>?_) (fun h=>?_)
      ·refine tK<|tS<|aa.cut (fun aG=>∃ (n36:Int) (n37:Int) (n38:Int) (n39:Int),gR n35 n36 n37 n38 n39=some z3∧aG=⟨142,[(0,iW ab),(3,.ptr b1 0),(5,zo v2.1),(10,.sl 5 x3 0 qW.length),(12,.str v24),(13,.ptr vF 0),(42,.sl 1 uo 0 jP.length),(43,I (jP.length:Int)),(44,I n22),(50,zo v2.1),(51,I (v2.1.length:Int)),(52,I n35)],[(b1,.cells [I ah.bg,I ah.To]),(x3,Jw qW),(vF,.cells [.str v24,I n36,I n37,I n38,I n39]),(uo,uQ jP)]⟩) ?_ ?_
       ·refine aa.block<|aM<|aF h fun v40 e6 h=>ae.qv (bJ J J J e6 J J) J<|ae.qv (aH J J J) J<|rA J J<|rN<|tS<|aM<|rM J J<|ae.qv (aP J) J<|ae.qv (aQ J J) J<|ae.qv (aH J J J) J<|rM J J<|ae.qv (wc J J) J<|rN<|cD h J (fun h=>?_) (fun h=>?_)
        ·exact aa.exit J<|aa.stop<|ai.lq [0,0,0,0] ⟨n31,n32,n33,n34,h,J⟩ J J
        ·refine tK<|aM<|rA J J<|rN<|tS<|aM<|rM J J<|ae.qv (aP J) J<|ae.qv (aQ J J) J<|ae.qv (aH J J J) J<|ae.qv (dz J) J<|rM J J<|rN<|aa.block<|aa.cj (fun x:Int×Int×Int×Int×Int=>fS ab ah v24 n34 n35 v40 x.1 x.2.1 x.2.2.1 x.2.2.2.1 x.2.2.2.2) (fun x aG=>aG=⟨142,[(0,iW ab),(3,.ptr b1 0),(5,zo v2.1),(10,.sl 5 x3 0 qW.length),(12,.str v24),(13,.ptr vF 0),(15,.eo [.str v40.aK,.str v40.aN,iW v40.bq,I v40.az,I v40.ay.bg,I v40.ay.To]),(16,I x.2.2.2.1),(42,.sl 1 uo 0 jP.length),(43,I (jP.length:Int)),(44,I n22),(50,zo v2.1),(51,I (v2.1.length:Int)),(52,I n35),(65,iW v40.bq),(66,I (v40.bq.length:Int)),(67,I x.2.2.2.2)],[(b1,.cells [I ah.bg,I ah.To]),(x3,Jw qW),(vF,.cells [.str v24,I x.1,I x.2.1,I x.2.2.1,I n34]),(uo,uQ jP)]⟩) h ?_ ?_
         ·exact ai.lq [0,0,0,0] J J J
         ·intro x z4 aG J4 eZ h VN Ua
          obtain ⟨n46,n47,n48,n49,n50⟩:=x
          obtain rfl:=eZ
          replace h:fS ab ah v24 n34 n35 v40 n46 n47 n48 n49 n50=some z4:=h
          unfold fS at h
          refine aM<|ae.qv (bH J J) J<|rN<|tS<|cD h J (fun h=>?_) (fun h=>?_)
          ·refine tK<|tS<|aa.block<|aM<|aF h fun v51 e7 h=>ae.qv (bJ J J J e7 J J) J<|ae.qv (bA J J J) J<|bX J J J J fun b52=>aB J J J J .p0 J J<|rN<|aM<|rF J J J<|rL J J .p0 J J<|rF J J J<|rL J J .p1 J J<|rF J J J<|rL J J .p1 J J<|ae.qv (bR J J) J<|bw J (ym J) cR J<|rA J J<|rN<|aM<|rF J J J<|rL J J .p0 J J<|rN<|aa.block<|aM<|ae.qv (bY J J) J<|rA J J<|rN<|aa.cut (fun aG=>∃ (TP:Int) (TQ:Int) (TR:Int) (TS:Int),k9 n50 TP TQ TR TS=some z4∧aG=⟨142,[(0,iW ab),(3,.ptr b1 0),(5,zo v2.1),(10,.sl 5 x3 0 qW.length),(12,.str v24),(13,.ptr vF 0),(15,.eo [.str v40.aK,.str v40.aN,iW v40.bq,I v40.az,I v40.ay.bg,I v40.ay.To]),(16,I TS),(42,.sl 1 uo 0 jP.length),(43,I (jP.length:Int)),(44,I n22),(50,zo v2.1),(51,I (v2.1.length:Int)),(52,I n35),(65,iW v40.bq),(66,I (v40.bq.length:Int)),(67,I n50)],[(b1,.cells [I ah.bg,I ah.To]),(x3,Jw qW),(vF,.cells [.str v24,I TP,I TQ,I TR,I n34]),(uo,uQ jP)]⟩) ?_ ?_
           ·refine cD h J (fun h=>?_) (fun h=>?_)
            ·refine aM<|rF J J J<|rL J J .p0 J J<|rA J J<|rN<|aM<|rM J J<|rN<|aa.cut (fun aG=>∃ (n57:Int),lf n47 n48 n50 v51 n57=some z4∧aG=⟨142,[(0,iW ab),(3,.ptr b1 0),(5,zo v2.1),(10,.sl 5 x3 0 qW.length),(12,.str v24),(13,.ptr vF 0),(15,.eo [.str v40.aK,.str v40.aN,iW v40.bq,I v40.az,I v40.ay.bg,I v40.ay.To]),(16,I v51.At),(42,.sl 1 uo 0 jP.length),(43,I (jP.length:Int)),(44,I n22),(50,zo v2.1),(51,I (v2.1.length:Int)),(52,I n35),(65,iW v40.bq),(66,I (v40.bq.length:Int)),(67,I n50)],[(b1,.cells [I ah.bg,I ah.To]),(x3,Jw qW),(vF,.cells [.str v24,I n57,I n47,I n48,I n34]),(uo,uQ jP)]⟩) ?_ ?_
             ·refine cB h J (fun h=>?_) (fun h=>?_)
              ·exact tR<|rF J J J<|rL J J .p3 J J<|ae.qv (aU J J) J<|rF J J J<|aB J J J J .p3 J J<|rN<|aa.stop<|ai.lq [1,1,1,1] ⟨aT (n46+(1:Int)),h,J⟩ J J
              ·exact tK<|aa.stop<|ai.lq [1,1,1,1] ⟨n46,h,J⟩ J J
             ·rintro aG ⟨n57,h,rfl⟩
              unfold lf at h
              exact aa.stop<|ai.lq [0,0,0,0] ⟨n57,n47,n48,v51.At,h,J⟩ J J
            ·refine aM<|ae.qv (bY J J) J<|rA J J<|rN<|aa.cut (fun aG=>∃ (Sa:Int) (n59:Int),lg n46 n49 n50 Sa n59=some z4∧aG=⟨142,[(0,iW ab),(3,.ptr b1 0),(5,zo v2.1),(10,.sl 5 x3 0 qW.length),(12,.str v24),(13,.ptr vF 0),(15,.eo [.str v40.aK,.str v40.aN,iW v40.bq,I v40.az,I v40.ay.bg,I v40.ay.To]),(16,I n49),(42,.sl 1 uo 0 jP.length),(43,I (jP.length:Int)),(44,I n22),(50,zo v2.1),(51,I (v2.1.length:Int)),(52,I n35),(65,iW v40.bq),(66,I (v40.bq.length:Int)),(67,I n50)],[(b1,.cells [I ah.bg,I ah.To]),(x3,Jw qW),(vF,.cells [.str v24,I n46,I Sa,I n59,I n34]),(uo,uQ jP)]⟩) ?_ ?_
             ·refine cD h J (fun h=>?_) (fun h=>?_)
              ·refine aM<|rM J J<|rN<|aa.cut (fun aG=>∃ (n60:Int) (n61:Int),lh n46 n49 n50 n60 n61=some z4∧aG=⟨142,[(0,iW ab),(3,.ptr b1 0),(5,zo v2.1),(10,.sl 5 x3 0 qW.length),(12,.str v24),(13,.ptr vF 0),(15,.eo [.str v40.aK,.str v40.aN,iW v40.bq,I v40.az,I v40.ay.bg,I v40.ay.To]),(16,I n49),(42,.sl 1 uo 0 jP.length),(43,I (jP.length:Int)),(44,I n22),(50,zo v2.1),(51,I (v2.1.length:Int)),(52,I n35),(65,iW v40.bq),(66,I (v40.bq.length:Int)),(67,I n50)],[(b1,.cells [I ah.bg,I ah.To]),(x3,Jw qW),(vF,.cells [.str v24,I n46,I n60,I n61,I n34]),(uo,uQ jP)]⟩) ?_ ?_
               ·refine cB h J (fun h=>?_) (fun h=>?_)
                ·exact aM<|rF J J J<|rL J J .p3 J J<|ae.qv (aU J J) J<|rF J J J<|aB J J J J .p3 J J<|rN<|tR<|rF J J J<|rL J J .p3 J J<|rF J J J<|rL J J .p0 J J<|rM J J<|ae.qv (bR J J) J<|ae.qv (aU J J) J<|rF J J J<|aB J J J J .p3 J J<|rN<|aa.stop<|ai.lq [1,1,1,1] ⟨aT (n47+(1:Int)),aT (n48+(aT (v51.At - n49))),h,J⟩ J J
                ·exact tK<|aa.stop<|ai.lq [1,1,1,1] ⟨n47,n48,h,J⟩ J J
               ·rintro aG ⟨n60,n61,h,rfl⟩
                unfold lh at h
                exact aa.stop<|ai.lq [0,0,0,0] ⟨n60,n61,h,J⟩ J J
              ·exact tK<|aa.stop<|ai.lq [1,1,1,1] ⟨n47,n48,h,J⟩ J J
             ·rintro aG ⟨Sa,n59,h,rfl⟩
              unfold lg at h
              exact aa.stop<|ai.lq [0,0,0,0] ⟨n46,Sa,n59,n49,h,J⟩ J J
           ·rintro aG ⟨TP,TQ,TR,TS,h,rfl⟩
            unfold k9 at h
            refine aa.bN<|aa.bN<|tR<|ae.qv (aU J J) J<|rM J J<|rN<|aa.stop<|?_
            cases h
            exact VN _ _ J<|ai.lq [0,0,0,0] J J J
          ·refine aa.exit J<|have h:=cr h Ua;?_
           unfold nA at h
           refine aM<|rM J J<|rM J J<|ae.qv (aP J) J<|ae.qv (aQ J J) J<|ae.qv (aH J J J) J<|rM J J<|aF h fun Hb e8 h=>ep J (zw e8) cR .nil (fun _=>J) J fun VW=>ae.qv (cH J) J<|rM J J<|rN<|aa.block<|aa.cj (fun x:Int×Int=>fR ah n35 n46 n47 n48 Hb x.1 x.2) (fun x aG=>aG=⟨142,[(0,iW ab),(3,.ptr b1 0),(5,zo v2.1),(10,.sl 5 x3 0 qW.length),(12,.str v24),(13,.ptr vF 0),(42,.sl 1 uo 0 jP.length),(43,I (jP.length:Int)),(44,I n22),(50,zo v2.1),(51,I (v2.1.length:Int)),(52,I n35),(112,.sl 2 VW 0 Hb.length),(113,I (Hb.length:Int)),(114,I x.2)],[(b1,.cells [I ah.bg,I ah.To]),(x3,Jw qW),(vF,.cells [.str v24,I n46,I n47,I n48,I x.1]),(uo,uQ jP),(VW,iF Hb)]⟩) h ?_ ?_
           ·exact ai.lq [1,1,1,1,0] J J J
           ·intro x z5 aG J5 eZ h Ub Uc
            obtain ⟨M1,Kc⟩:=x
            obtain rfl:=eZ
            replace h:fR ah n35 n46 n47 n48 Hb M1 Kc=some z5:=h
            unfold fR at h
            refine aM<|ae.qv (bH J J) J<|rN<|tS<|cD h J (fun h=>?_) (fun h=>?_)
            ·refine tK<|tS<|aa.block<|aM<|aF h fun G9 e9 h=>ae.qv (aS J J J e9) J<|ae.qv (bx (g:=au.av) J J (.inl .p4) J e9 J) J<|bX J J J J fun b69=>aB J J J J .p0 J J<|rN<|aM<|ae.qv (bb J J .p0 J) J<|ae.qv (bb J J .p1 J) J<|bw J (OE J) cR J<|rM J J<|rX J J J<|rX J J J<|bX J J J J fun VV=>aB J J J J .p0 J J<|rA J J<|rN<|aM<|rM J J<|rN<|aa.cut (fun aG=>∃ (TT:Int),lj Kc TT=some z5∧aG=⟨142,[(0,iW ab),(3,.ptr b1 0),(5,zo v2.1),(10,.sl 5 x3 0 qW.length),(12,.str v24),(13,.ptr vF 0),(42,.sl 1 uo 0 jP.length),(43,I (jP.length:Int)),(44,I n22),(50,zo v2.1),(51,I (v2.1.length:Int)),(52,I n35),(112,.sl 2 VW 0 Hb.length),(113,I (Hb.length:Int)),(114,I Kc)],[(b1,.cells [I ah.bg,I ah.To]),(x3,Jw qW),(vF,.cells [.str v24,I n46,I n47,I n48,I TT]),(uo,uQ jP),(VW,iF Hb)]⟩) ?_ ?_
             ·refine cB h J (fun h=>?_) (fun h=>?_)
              ·exact tR<|rF J J J<|rL J J .p4 J J<|rF J J J<|rL J J .p0 J J<|rF J J J<|rL J J .p0 J J<|ae.qv (bR J J) J<|ae.qv (aU J J) J<|rF J J J<|aB J J J J .p4 J J<|rN<|aa.stop<|ai.lq [2,2,2,2,2] ⟨aT (M1+(aT ((((yW G9 ah).1).To) - (((yW G9 ah).1).bg)))),h,J⟩ J J
              ·exact tK<|aa.stop<|ai.lq [2,2,2,2,2] ⟨M1,h,J⟩ J J
             ·rintro aG ⟨TT,h,rfl⟩
              unfold lj at h
              refine aa.bN<|tR<|ae.qv (aU J J) J<|rM J J<|rN<|aa.stop<|?_
              cases h
              exact Ub _ _ J<|ai.lq [0,0,0,0,0] J J J
            ·exact aa.exit J<|have h:=cr h Uc;aa.bN<|aa.stop<|ai.lq [0,0,0,0] ⟨n46,n47,n48,M1,h,J⟩ J J
       ·rintro aG ⟨n36,n37,n38,n39,h,rfl⟩
        unfold gR at h
        refine tR<|ae.qv (aU J J) J<|rM J J<|rN<|aa.stop<|?_
        cases h
        exact QX _ _ J<|ai.lq [0,0,0,0] J J J
      ·refine aa.exit J<|have h:=cr h QY;?_
       unfold nB at h
       refine tR<|rM J J<|ae.qv (bb J J .p2 J) J<|ba (xs:=([(⟨v24,n31,n32,n33,n34⟩:aj)]).map aj.av) J J J J J J<|aF h fun l72 vT h=>dA (g:=aj.av) J J J J J J J J (.list _) vT (fun _=>.p1) J fun b73=>rA J J<|rN<|aa.bN<|tR<|ae.qv (aU J J) J<|rM J J<|rN<|aa.stop<|?_
       cases h
       exact FE _ _ J<|ai.lq [0,0,1] ⟨b73,J⟩ J J
    ·refine aa.exit J<|have h:=cr h FF;aM<|rM J J<|rA J J<|rN<|aa.ret<|?_
     cases h
     exact hH J [1] J ⟨x3,J,J⟩
theorem pa [GI:bF] {ab:List aj} {ah:List aj} {r:Bool} (h:fg ab ah=some r):Pu Tryz.prog 12 [VM ab,VM ah] (.bool r):=by
 unfold fg at h
 refine aJ.bD Tryz.func12 J Tryz.ntmps12 Tryz.results12 J J ?_
 refine aM<|rA J J<|rN<|tS<|aM<|rM J J<|ae.qv (dz J) J<|rM J J<|ae.qv (dz J) J<|ae.qv (jb J J) J<|rN<|cD h J (fun h=>?_) (fun h=>?_)
 ·refine aM<|rA J J<|rN<|aa.ret<|?_
  cases h
  exact hP J J
 ·refine tK<|tS<|aM<|rM J J<|ae.qv (dz J) J<|rM J J<|rN<|aa.block<|aa.cj (fun x:Int=>dZ ab ah x) (fun x aG=>aG=⟨26,[(0,VM ab),(1,VM ah),(12,I (ab.length:Int)),(13,I x)],[]⟩) h ?_ ?_
  ·exact ai.lq [] J J J
  ·intro n2 z1 aG J1 eZ h mM iQ
   obtain rfl:=eZ
   replace h:dZ ab ah n2=some z1:=h
   unfold dZ at h
   refine aM<|ae.qv (bH J J) J<|rN<|tS<|cD h J (fun h=>?_) (fun h=>?_)
   ·refine tK<|tS<|aa.block<|aM<|rM J J<|rA J J<|rN<|tS<|aa.bL (id:=6) (A:=[0,0,3,7,0,0,48,112,255]) 9 mixed J (by kernel_rfl) (by kernel_rfl)<|AM.qv (aA J) J<|AM.qv (aA J) J<|aF h fun v3 e1 h=>AM.qv (bJ J J J e1 J J) J<|AM.qv (bA J J J) J<|AM.qv (aA J) J<|AM.qv (aA J) J<|aF h fun v4 e2 h=>AM.qv (bJ J J J e2 J J) J<|AM.qv (bA J J J) J<|AM.qv (Pe (g:=aj.av) (X:=v3) (Y:=v4) J J J J J) J<|AM.nil<|rN<|cD h J (fun h=>?_) (fun h=>?_)
    ·refine aM<|rA J J<|rN<|aa.ret<|have h:=cr h iQ;?_
     cases h
     exact hP J J
    ·refine tK<|aa.bN<|tR<|ae.qv (aU J J) J<|rM J J<|rN<|aa.stop<|?_
     cases h
     exact mM _ _ J<|ai.lq [] J J J
   ·refine aa.exit J<|have h:=cr h iQ;aM<|rA J J<|rN<|aa.ret<|?_
    cases h
    exact hP J J
theorem wm [GI:bF] {r:(List aI)} (h:jz=r):Pu Tryz.prog 64 [] (Ke r):=by
 unfold jz at h
 refine aJ.bD Tryz.func64 J Tryz.ntmps64 Tryz.results64 J J ?_
 refine aM<|rA J J<|rN<|aM<|ba (xs:=([([114,97,105,115,101]:aI),([99,108,101,97,114]:aI),([97,99,107]:aI),([115,104,101,108,118,101]:aI),([117,110,115,104,101,108,118,101]:aI)]).map AV.str) J J J J J J<|rA J J<|rN<|aa.ret<|?_
 obtain rfl:=h
 exact hP J J
theorem uY {ab:List aI} {ah:aI} {r:aI} (h:strings_Join ab ah=some r):Pu Tryz.prog 66 [Ke ab,.str ah] (.str r):=by
 unfold strings_Join at h
 refine aJ.bD Tryz.func66 J Tryz.ntmps66 Tryz.results66 J J ?_
 refine aM<|rA J J<|rN<|tS<|aM<|rM J J<|ae.qv (dz J) J<|rN<|aa.block<|aM<|ae.qv (bY J J) J<|rA J J<|rN<|cD h J (fun h=>?_) (fun h=>?_)
 ·refine aM<|rA J J<|rN<|aa.ret<|?_
  cases h
  exact hP J J
 ·refine aM<|ae.qv (bY J J) J<|rA J J<|rN<|cD h J (fun h=>?_) (fun h=>?_)
  ·refine aM<|rM J J<|aF h fun v1 e1 h=>ae.qv (bJ J J J e1 J J) J<|ae.qv (aH J J J) J<|rA J J<|rN<|aa.ret<|?_
   cases h
   exact hP J J
  ·refine tK<|aa.bN<|aM<|rA J J<|rN<|tS<|aM<|rM J J<|ae.qv (cu J) J<|ae.qv (ir J J) J<|rN<|aa.cut (fun aG=>∃ (n2:Int),iZ ab ah n2=some r∧aG=⟨75,[(0,Ke ab),(1,.str ah),(5,I n2)],[]⟩) ?_ ?_
   ·refine cD h J (fun h=>?_) (fun h=>?_)
    ·refine tS<|aM<|rM J J<|ae.qv (cu J) J<|rM J J<|ae.qv (dz J) J<|ae.qv (bR J J) J<|aF h fun n3 e2 h=>ae.qv (KG J J e2) J<|ae.qv (rZ J J) J<|rN<|cD h J (fun h=>?_) (fun h=>?_)
     ·refine tR<|?_
      cases h
     ·exact tK<|tR<|rM J J<|rM J J<|ae.qv (cu J) J<|rM J J<|ae.qv (dz J) J<|ae.qv (bR J J) J<|ae.qv (x4 J J) J<|ae.qv (aU J J) J<|rA J J<|rN<|aa.stop<|ai.lq [] ⟨aT ((0:Int)+(aT ((ah.length:Int) * (aT ((ab.length:Int) - (1:Int)))))),h,J⟩ J J
    ·exact tK<|aa.stop<|ai.lq [] ⟨(0:Int),h,J⟩ J J
   ·rintro aG ⟨n2,h,rfl⟩
    unfold iZ at h
    refine tS<|aM<|rM J J<|ae.qv (dz J) J<|rM J J<|rN<|aa.block<|aa.cj (fun x:Int×Int=>ln ab ah x.1 x.2) (fun x aG=>aG=⟨75,[(0,Ke ab),(1,.str ah),(5,I x.1),(39,Ke ab),(40,I (ab.length:Int)),(41,I x.2)],[]⟩) h ?_ ?_
    ·exact ai.lq [] J J J
    ·intro x z1 aG J1 eZ h mM iQ
     obtain ⟨n6,n7⟩:=x
     obtain rfl:=eZ
     replace h:ln ab ah n6 n7=some z1:=h
     unfold ln at h
     refine aM<|ae.qv (bH J J) J<|rN<|tS<|cD h J (fun h=>?_) (fun h=>?_)
     ·refine tK<|tS<|aa.block<|aM<|aF h fun v8 e3 h=>ae.qv (bJ J J J e3 J J) J<|ae.qv (aH J J J) J<|rA J J<|rN<|tS<|aM<|rM J J<|ae.qv (cu J) J<|rM J J<|ae.qv (bR J J) J<|ae.qv (ir J J) J<|rN<|cD h J (fun h=>?_) (fun h=>?_)
      ·refine tR<|?_
       cases h
      ·refine tK<|tR<|rM J J<|rM J J<|ae.qv (cu J) J<|ae.qv (aU J J) J<|rA J J<|rN<|aa.bN<|tR<|ae.qv (aU J J) J<|rM J J<|rN<|aa.stop<|?_
       cases h
       exact mM _ _ J<|ai.lq [] J J J
     ·refine aa.exit J<|have h:=cr h iQ;?_
      unfold p9 at h
      refine aM<|AD 5 J J fun b9=>rN<|aM<|rM J J<|aF h fun v10 e4 h=>ep J (tx e4) cR (.cons .p0 .nil) (fun _=>J) J fun Q2=>rN<|aM<|rM J J<|aF h fun v12 e5 h=>ae.qv (bJ J J J e5 J J) J<|ae.qv (aH J J J) J<|aF h fun QW e6 h=>ep J (cX e6) cR (.cons .p0 .nil) (fun _=>J) J fun yl=>rN<|tS<|aM<|rM J J<|aF h fun pG e7 h=>ae.qv (Dk J J (.some _ _ _ J) .none J J e7) J<|ae.qv (dz J) J<|rM J J<|rN<|aa.block<|aa.cj (fun x:aI×Int=>ll ah pG x.1 x.2) (fun x aG=>∃ (x3:Bk),aG=⟨75,[(1,.str ah),(8,.ptr b9 0),(63,Ke pG),(64,I (pG.length:Int)),(65,I x.2)],[(b9,.qN 130 5 x3.bN x.1)]⟩) h ?_ ?_
      ·exact ai.lq [0] ⟨yl,J⟩ J J
      ·intro x z2 aG J2 eZ h FE FF
       obtain ⟨Sb,n21⟩:=x
       obtain ⟨x3,rfl⟩:=eZ
       replace h:ll ah pG Sb n21=some z2:=h
       unfold ll at h
       refine aM<|ae.qv (bH J J) J<|rN<|tS<|cD h J (fun h=>?_) (fun h=>?_)
       ·refine tK<|tS<|aa.block<|aM<|aF h fun v22 e8 h=>ae.qv (bJ J J J e8 J J) J<|ae.qv (aH J J J) J<|rA J J<|rN<|aM<|rM J J<|aF h fun TU e9 h=>ep J (cX e9) cR (.cons .p0 .nil) (fun _=>J) J fun LC=>rN<|tR<|rM J J<|aF h fun DE vT h=>ep J (cX vT) cR (.cons .p0 .nil) (fun _=>J) J fun Ug=>rN<|aa.bN<|tR<|ae.qv (aU J J) J<|rM J J<|rN<|aa.stop<|?_
        cases h
        exact FE _ _ J<|ai.lq [0] ⟨Ug,J⟩ J J
       ·refine aa.exit J<|have h:=cr h FF;aM<|bz J jE cR (.cons .p0 .nil) J J<|rA J J<|rN<|aa.ret<|?_
        cases h
        exact hP J J
theorem DL {ab:List Signal} {r:aI×Int} (h:tA ab=some r):Pu Tryz.prog 14 [iW ab] (.iV [.str r.1,I r.2]):=by
 unfold tA at h
 refine aJ.bD Tryz.func14 J Tryz.ntmps14 Tryz.results14 J J ?_
 refine aM<|rA J J<|rA J J<|rN<|tS<|aM<|rM J J<|aF h fun v1 e1 h=>bw J (jA e1) cR J<|rA J J<|rN<|aM<|rM J J<|ae.qv (jb J J) J<|rN<|cD h J (fun h=>?_) (fun h=>?_)
 ·refine aM<|rM J J<|rA J J<|rA J J<|rN<|aa.ret<|?_
  cases h
  exact hQ J J J
 ·refine tK<|aM<|AD 5 J J fun b2=>rN<|tS<|aM<|rM J J<|ae.qv (dz J) J<|rM J J<|rN<|aa.block<|aa.cj (fun x:aI×Int=>iz ab x.1 x.2) (fun x aG=>∃ (b7:Bk),aG=⟨59,[(5,.ptr b2 0),(14,iW ab),(15,I (ab.length:Int)),(16,I x.2)],[(b2,.qN 130 5 b7.bN x.1)]⟩) h ?_ ?_
  ·exact ai.lq [0] ⟨(⟨none,0⟩:Bk),J⟩ J J
  ·intro x z1 aG J1 eZ h mM iQ
   obtain ⟨q6,n8⟩:=x
   obtain ⟨b7,rfl⟩:=eZ
   replace h:iz ab q6 n8=some z1:=h
   unfold iz at h
   refine aM<|ae.qv (bH J J) J<|rN<|tS<|cD h J (fun h=>?_) (fun h=>?_)
   ·refine tK<|tS<|aa.block<|aM<|aF h fun v9 e2 h=>ae.qv (bJ J J J e2 J J) J<|ae.qv (bA J J J) J<|bX J J J J fun nj=>aB J J J J .p0 J J<|rN<|tS<|aa.bL (id:=8) (A:=[0,1,3,0,8,0,32,7,0,256,768,1927,3975,8191,16383]) 13 mixed J (by kernel_rfl) (by kernel_rfl)<|AM.qv (aC J J) J<|AM.qv (aL J J .p0 J) J<|aF h fun v11 e3 h=>AM.jV J (mi e3) cR J<|AM.qv (aC J J) J<|AM.qv (aL J J .p0 J) J<|AM.qv (aC J J) J<|AM.qv (aL J J .p0 J) J<|AM.jV J (wm J) cR J<|AM.qv (aC J J) J<|AM.qv (aL J J .p0 J) J<|AM.qv (bR J J) J<|aF h fun v12 e4 h=>AM.qv (bJ J J J e4 J J) J<|AM.qv (aH J J J) J<|AM.nil<|qy J J J J J J fun FI=>rA J J<|rN<|tS<|aM<|rF J J J<|rL J J .p1 J J<|ae.qv (rZ J J) J<|rN<|aa.cut (fun aG=>∃ (yl:Bk) (pG:List aI),lC q6 n8 v9 pG=some z1∧aG=⟨59,[(5,.ptr b2 0),(7,.ptr nj 0),(8,.sl 1 yl 0 pG.length),(14,iW ab),(15,I (ab.length:Int)),(16,I n8)],[(b2,.qN 130 5 b7.bN q6),(nj,.cells (vE v9)),(yl,uQ pG)]⟩) ?_ ?_
    ·refine cD h J (fun h=>?_) (fun h=>?_)
     ·exact tR<|rM J J<|rF J J J<|rL J J .p1 J J<|ba (xs:=([v9.By]:List aI).map AV.str) J J J J J J<|aF h fun kA e5 h=>dA (g:=AV.str) J J J J J J J J (.list _) e5 (fun _=>.p0) J fun AW=>rA J J<|rN<|aa.stop<|ai.lq [2,1,0] ⟨AW,kA,h,J⟩ J J
     ·exact tK<|aa.stop<|ai.lq [2,1,0] ⟨FI,[v11,v9.Device,v9.a8,v12],h,J⟩ J J
    ·rintro aG ⟨yl,pG,h,rfl⟩
     unfold lC at h
     refine tS<|aM<|rF J J J<|rL J J .p1 J J<|ae.qv (bY J J) J<|rN<|aa.cut (fun aG=>∃ (wj:Bk) (nU:List aI),lB q6 n8 nU=some z1∧aG=⟨59,[(5,.ptr b2 0),(8,.sl 1 wj 0 nU.length),(14,iW ab),(15,I (ab.length:Int)),(16,I n8)],[(b2,.qN 130 5 b7.bN q6),(wj,uQ nU)]⟩) ?_ ?_
     ·refine cD h J (fun h=>?_) (fun h=>?_)
      ·exact tR<|rM J J<|rF J J J<|rL J J .p1 J J<|aF h fun v20 e6 h=>bw J (mi e6) cR J<|ba (xs:=([v20]:List aI).map AV.str) J J J J J J<|aF h fun qW e7 h=>dA (g:=AV.str) J J J J J J J J (.list _) e7 (fun _=>.p2) J fun LA=>rA J J<|rN<|aa.stop<|ai.lq [0,1] ⟨LA,qW,h,J⟩ J J
      ·exact tK<|aa.stop<|ai.lq [0,1] ⟨yl,pG,h,J⟩ J J
     ·rintro aG ⟨wj,nU,h,rfl⟩
      unfold lB at h
      refine tR<|rM J J<|aF h fun v23 e8 h=>jc J (uY e8) (.cons (ot.sk .p1) (.cons (.co (.refl _)) .nil)) J J<|aF h fun TW e9 h=>ae.qv (wH e9 J J) J<|aF h fun DE vT h=>ep J (cX vT) cR (.cons .p0 .nil) (fun _=>J) J fun Ug=>rN<|aa.bN<|tR<|ae.qv (aU J J) J<|rM J J<|rN<|aa.stop<|?_
      cases h
      exact mM _ _ J<|ai.lq [0] ⟨Ug,J⟩ J J
   ·refine aa.exit J<|have h:=cr h iQ;?_
    unfold pk at h
    refine tS<|aM<|bz J ug cR (.cons .p0 .nil) J J<|ae.qv (ir J J) J<|rN<|cD h J (fun h=>?_) (fun h=>?_)
    ·refine aM<|rA J J<|rA J J<|rN<|aa.ret<|?_
     cases h
     exact hQ J J J
    ·refine tK<|aM<|bz J jE cR (.cons .p0 .nil) J J<|rA J J<|rA J J<|rN<|aa.ret<|?_
     cases h
     exact hQ J J J
theorem tQ [GI:bF] {r:(List aI)} (h:iA=r):Pu Tryz.prog 69 [] (Ke r):=by
 unfold iA at h
 refine aJ.bD Tryz.func69 J Tryz.ntmps69 Tryz.results69 J J ?_
 refine aM<|rA J J<|rN<|aM<|ba (xs:=([([]:aI),([114,97,105,115,101]:aI),([99,108,101,97,114]:aI),([97,99,107]:aI),([115,104,101,108,118,101]:aI),([117,110,115,104,101,108,118,101]:aI)]).map AV.str) J J J J J J<|rA J J<|rN<|aa.ret<|?_
 obtain rfl:=h
 exact hP J J
theorem tT {ab:List Signal} {r:aI} (h:lD ab=some r):Pu Tryz.prog 15 [iW ab] (.str r):=by
 unfold lD at h
 refine aJ.bD Tryz.func15 J Tryz.ntmps15 Tryz.results15 J J ?_
 refine aM<|rA J J<|rN<|aM<|AD 5 J J fun b1=>rN<|tS<|aM<|rM J J<|ae.qv (dz J) J<|rM J J<|rN<|aa.block<|aa.cj (fun x:aI×Int=>fr ab x.1 x.2) (fun x aG=>∃ (b6:Bk),aG=⟨49,[(3,.ptr b1 0),(7,iW ab),(8,I (ab.length:Int)),(9,I x.2)],[(b1,.qN 130 5 b6.bN x.1)]⟩) h ?_ ?_
 ·exact ai.lq [0] ⟨(⟨none,0⟩:Bk),J⟩ J J
 ·intro x z1 aG J1 eZ h mM iQ
  obtain ⟨q5,n7⟩:=x
  obtain ⟨b6,rfl⟩:=eZ
  replace h:fr ab q5 n7=some z1:=h
  unfold fr at h
  refine aM<|ae.qv (bH J J) J<|rN<|tS<|cD h J (fun h=>?_) (fun h=>?_)
  ·refine tK<|tS<|aa.block<|aM<|aF h fun v8 e1 h=>ae.qv (bJ J J J e1 J J) J<|ae.qv (bA J J J) J<|bX J J J J fun b9=>aB J J J J .p0 J J<|rN<|tS<|aa.bL (id:=5) (A:=[0,1,3,0,8,0,32,7,0,256,903,1927,4095,8191]) 12 mixed J (by kernel_rfl) (by kernel_rfl)<|AM.qv (aC J J) J<|AM.qv (aL J J .p0 J) J<|aF h fun v10 e2 h=>AM.jV J (mi e2) cR J<|AM.qv (aC J J) J<|AM.qv (aL J J .p0 J) J<|AM.qv (aC J J) J<|AM.qv (aL J J .p0 J) J<|AM.jV J (tQ J) cR J<|AM.qv (aC J J) J<|AM.qv (aL J J .p0 J) J<|aF h fun v11 e3 h=>AM.qv (bJ J J J e3 J J) J<|AM.qv (aH J J J) J<|AM.nil<|qy J J J J J J fun xB=>rA J J<|rN<|tS<|aM<|rF J J J<|rL J J .p1 J J<|ae.qv (wc J J) J<|rN<|aa.cut (fun aG=>∃ (FI:Bk) (om:List aI),iC q5 n7 v8 om=some z1∧aG=⟨49,[(3,.ptr b1 0),(5,.ptr b9 0),(6,.sl 1 FI 0 om.length),(7,iW ab),(8,I (ab.length:Int)),(9,I n7)],[(b1,.qN 130 5 b6.bN q5),(b9,.cells (vE v8)),(FI,uQ om)]⟩) ?_ ?_
   ·refine cD h J (fun h=>?_) (fun h=>?_)
    ·exact tR<|rM J J<|rF J J J<|rL J J .p1 J J<|ba (xs:=([v8.By]:List aI).map AV.str) J J J J J J<|aF h fun pG e4 h=>dA (g:=AV.str) J J J J J J J J (.list _) e4 (fun _=>.p0) J fun uo=>rA J J<|rN<|aa.stop<|ai.lq [2,1,0] ⟨uo,pG,h,J⟩ J J
    ·exact tK<|aa.stop<|ai.lq [2,1,0] ⟨xB,[v10,v8.Device,v8.a8,v11],h,J⟩ J J
   ·rintro aG ⟨FI,om,h,rfl⟩
    unfold iC at h
    refine tS<|aM<|rF J J J<|rL J J .p1 J J<|ae.qv (bY J J) J<|rN<|aa.cut (fun aG=>∃ (AW:Bk) (uh:List aI),iB q5 n7 uh=some z1∧aG=⟨49,[(3,.ptr b1 0),(6,.sl 1 AW 0 uh.length),(7,iW ab),(8,I (ab.length:Int)),(9,I n7)],[(b1,.qN 130 5 b6.bN q5),(AW,uQ uh)]⟩) ?_ ?_
    ·refine cD h J (fun h=>?_) (fun h=>?_)
     ·exact tR<|rM J J<|rF J J J<|rL J J .p1 J J<|aF h fun Bu e5 h=>bw J (mi e5) cR J<|ba (xs:=([Bu]:List aI).map AV.str) J J J J J J<|aF h fun tz e6 h=>dA (g:=AV.str) J J J J J J J J (.list _) e6 (fun _=>.p2) J fun Gw=>rA J J<|rN<|aa.stop<|ai.lq [0,1] ⟨Gw,tz,h,J⟩ J J
     ·exact tK<|aa.stop<|ai.lq [0,1] ⟨FI,om,h,J⟩ J J
    ·rintro aG ⟨AW,uh,h,rfl⟩
     unfold iB at h
     refine tR<|rM J J<|aF h fun v22 e7 h=>jc J (uY e7) (.cons (ot.sk .p1) (.cons (.co (.refl _)) .nil)) J J<|aF h fun TU e8 h=>ae.qv (wH e8 J J) J<|aF h fun TW e9 h=>ep J (cX e9) cR (.cons .p0 .nil) (fun _=>J) J fun vF=>rN<|aa.bN<|tR<|ae.qv (aU J J) J<|rM J J<|rN<|aa.stop<|?_
     cases h
     exact mM _ _ J<|ai.lq [0] ⟨vF,J⟩ J J
  ·refine aa.exit J<|have h:=cr h iQ;aM<|bz J jE cR (.cons .p0 .nil) J J<|rA J J<|rN<|aa.ret<|?_
   cases h
   exact hP J J
theorem yq [GI:bF] {aY:Bk} {ab:ar} {ah:aI} {aO:aI} {r:aI×ar} (h:mu ab ah aO=some r):aJ Tryz.prog 70 [.ptr aY 0,.str ah,.str aO] [(aY,.cells [gx ab.L,I ab.at_])] (T0 ([(aY,.cells [gx r.2.L,I r.2.at_])]) (.str r.1)):=by
 unfold mu at h
 refine aJ.fa ?_
 refine aJ.bD Tryz.func70 J Tryz.ntmps70 Tryz.results70 J J ?_
 refine aM<|rA J J<|rN<|tS<|tS<|aa.cut (fun aG=>∃ (c1:Bool),lZ ab ah aO c1=some r∧aG=⟨63,[(0,.ptr aY 0),(1,.str ah),(2,.str aO),(14,.bool c1)],[(aY,.cells [gx ab.L,I ab.at_])]⟩) ?_ ?_
 ·refine tR<|rM J J<|ae.qv (qk J J) J<|rM J J<|ae.gg J J J (fun hc=>?_) (fun hc=>?_)
  ·rw [BJ hc] at h
   exact rM J J<|rY J J J<|ae.qv (qk J J) J<|rE J J J<|rN<|aa.stop<|ai.lq [0] ⟨decide (aO=([]:aI)),h,J⟩ J J
  ·rw [BI hc] at h
   exact rG J J J J<|rT J J J<|rN<|aa.stop<|ai.lq [0] ⟨true,h,J⟩ J J
 ·rintro aG ⟨c1,h,rfl⟩
  unfold lZ at h
  refine cB h J (fun h=>?_) (fun h=>?_)
  ·refine aM<|rM J J<|rA J J<|rN<|aa.ret<|?_
   cases h
   exact hH J [0] J ⟨J,J⟩
  ·refine tK<|aM<|rM J J<|rM J J<|ae.qv (cu J) J<|aF h fun v2 e1 h=>bz J (gA e1) cR (.cons .p0 .nil) J J<|rA J J<|rN<|aM<|rM J J<|rM J J<|rM J J<|ae.qv (cu J) J<|aF h fun v3 e2 h=>bz J (gA e2) cR (.cons .p0 .nil) J J<|aF h fun c4 e3 h=>ae.qv (kB J J e3) J<|rA J J<|rN<|tS<|aM<|rM J J<|aF h fun v5 e4 h=>bz J (gA e4) cR (.cons .p0 .nil) J J<|rN<|aa.block<|aM<|ae.qv (bY J J) J<|rA J J<|rN<|cD h J (fun h=>?_) (fun h=>?_)
   ·refine tS<|aa.bL (id:=7) (A:=[0,0,3,0,8,24,63,0,0,256,896,2047,4095]) 13 mixed J (by kernel_rfl) (by kernel_rfl)<|AM.qv (aA J) J<|AM.qv (aA J) J<|aF h fun l6 e5 h=>AM.qv (kC J .none (.some _ _ _ J) J J e5) J<|AM.qv (aA J) J<|AM.qv (jC J) J<|AM.qv (Cp J) J<|aF h fun q7 e6 h=>AM.qv (wH e6 J J) J<|AM.qv (aA J) J<|AM.qv (aA J) J<|AM.qv (aU J J) J<|aF h fun l8 e7 h=>AM.qv (kC J (.some _ _ _ J) .none J J e7) J<|aF h fun q9 e8 h=>AM.qv (wH e8 J J) J<|AM.qv (cU J) J<|AM.nil<|rN<|aa.ret<|?_
    cases h
    exact hH J [0] J ⟨J,J⟩
   ·refine aM<|ae.qv (bY J J) J<|rA J J<|rN<|cD h J (fun h=>?_) (fun h=>?_)
    ·refine tS<|aa.bL (id:=9) (A:=[0,0,3,0,8,24,63,0,0,384,1023,2047]) 12 mixed J (by kernel_rfl) (by kernel_rfl)<|AM.qv (aA J) J<|AM.qv (aA J) J<|aF h fun l10 e9 h=>AM.qv (kC J .none (.some _ _ _ J) J J e9) J<|AM.qv (aA J) J<|AM.qv (jC J) J<|AM.qv (Cp J) J<|aF h fun VL vT h=>AM.qv (wH vT J J) J<|AM.qv (aA J) J<|AM.qv (aA J) J<|aF h fun sA zp h=>AM.qv (kC J (.some _ _ _ J) .none J J zp) J<|aF h fun QW Gv h=>AM.qv (wH Gv J J) J<|AM.qv (cU J) J<|AM.nil<|rN<|aa.ret<|?_
     cases h
     exact hH J [0] J ⟨J,J⟩
    ·refine tK<|aa.bN<|tS<|aa.bL (id:=10) (A:=[0,0,3,0,0,16,56,127,255]) 9 mixed J (by kernel_rfl) (by kernel_rfl)<|AM.qv (aA J) J<|AM.qv (aA J) J<|aF h fun om Ir h=>AM.qv (kC J .none (.some _ _ _ J) J J Ir) J<|AM.qv (aA J) J<|AM.qv (aA J) J<|AM.qv (aU J J) J<|aF h fun pG M4 h=>AM.qv (kC J (.some _ _ _ J) .none J J M4) J<|aF h fun q16 AN h=>AM.qv (wH AN J J) J<|AM.qv (cU J) J<|AM.nil<|rN<|aa.ret<|?_
     cases h
     exact hH J [0] J ⟨J,J⟩
theorem uk {aY:Bk} {ab:ar} {r:aI×ar} (h:hZ ab=some r):aJ Tryz.prog 16 [.ptr aY 0] [(aY,.cells [gx ab.L,I ab.at_])] (T0 ([(aY,.cells [gx r.2.L,I r.2.at_])]) (.str r.1)):=by
 unfold hZ at h
 refine aJ.fa ?_
 refine aJ.bD Tryz.func16 J Tryz.ntmps16 Tryz.results16 J J ?_
 refine aM<|rA J J<|rN<|aM<|rM J J<|rM J J<|aF h fun v1 e1 h=>bz J (rj e1) cR (.cons .p0 .nil) J J<|aF h fun v2 e2 h=>ep J (sQ e2) cR (.cons .p0 .nil) (fun _=>J) J fun b3=>rA J J<|rN<|aM<|rA J J<|rN<|tS<|aM<|rM J J<|aF h fun v4 e3 h=>jc J (o7 e3) (.cons (ot.sk .p1) .nil) J J<|ae.qv (bY J J) J<|rN<|aa.cut (fun aG=>∃ (q5:aI),ez v2 q5=some r∧aG=⟨24,[(0,.ptr aY 0),(4,.str q5)],[(aY,.cells [gx v2.2.L,I v2.2.at_])]⟩) ?_ ?_
 ·refine cD h J (fun h=>?_) (fun h=>?_)
  ·exact tR<|rM J J<|aF h fun v6 e4 h=>jc J (tT e4) (.cons (ot.sk .p1) .nil) J J<|rA J J<|rN<|aa.stop<|ai.lq [0] ⟨v6,h,J⟩ J J
  ·exact tK<|aa.stop<|ai.lq [0] ⟨([49,48,32,100,97,32,114,97,32,115,104,101,108,118,101,32,97,110,110,32,50,48,10]:aI),h,J⟩ J J
 ·rintro aG ⟨q5,h,rfl⟩
  unfold ez at h
  refine tS<|aM<|rM J J<|ba (xs:=([(0:Int),(0:Int),(1:Int),(2:Int)]).map I) J J J J J J<|aF h fun v7 e5 h=>bz J (ej e5) cR (.cons .p0 .nil) J J<|rM J J<|rN<|aa.block<|aa.cj (fun x:(List Int)×Int×aI×Int=>fH v7 x.1 x.2.1 x.2.2.1 x.2.2.2) (fun x aG=>aG=⟨24,[(0,.ptr aY 0),(4,.str x.2.2.1),(16,I v7.1),(17,I x.2.2.2)],[(aY,.cells [gx x.1,I x.2.1])]⟩) h ?_ ?_
  ·exact ai.lq [0] J J J
  ·intro x z1 aG J1 eZ h mM iQ
   obtain ⟨sA,n13,Ek,n15⟩:=x
   obtain rfl:=eZ
   replace h:fH v7 sA n13 Ek n15=some z1:=h
   unfold fH at h
   refine aM<|ae.qv (bH J J) J<|rN<|tS<|cD h J (fun h=>?_) (fun h=>?_)
   ·refine tK<|tS<|aa.block<|tR<|rM J J<|rM J J<|aF h fun oh e6 h=>bz J (yq e6) cR (.cons .p0 .nil) J J<|rA J J<|rN<|aa.bN<|tR<|ae.qv (aU J J) J<|rM J J<|rN<|aa.stop<|?_
    cases h
    exact mM _ _ J<|ai.lq [0] J J J
   ·refine aa.exit J<|have h:=cr h iQ;aM<|rM J J<|rA J J<|rN<|aa.ret<|?_
    cases h
    exact hH J [0] J ⟨J,J⟩
theorem DM {ab:aI} {ah:Int} {r:(List aI)×Bool} (h:ra ab ah=some r):aJ Tryz.prog 143 [.str ab,I ah] [] (T1 (fun mT=>[(mT,uQ r.1)]) (fun mT=>.iV [.sl 1 mT 0 r.1.length,.bool r.2])):=by
 unfold ra at h
 refine aJ.fa ?_
 refine aJ.bD Tryz.func143 J Tryz.ntmps143 Tryz.results143 J J ?_
 refine aM<|rA J J<|rA J J<|rN<|aM<|rM J J<|aF h fun v1 e1 h=>ep J (pU e1) cR .nil (fun _=>J) J fun b2=>rA J J<|rN<|tS<|aM<|rM J J<|ae.qv (cH J) J<|rM J J<|ae.qv (jb J J) J<|rN<|cD h J (fun h=>?_) (fun h=>?_)
 ·refine aM<|rA J J<|rA J J<|rN<|aa.ret<|?_
  cases h
  exact ai.arr (s:=4) 1 J fun b3=>ai.here ⟨_,.cons (.tmp _ _ J) (.cons (.tmp _ _ J) .nil),_,.cons .p0 .nil,⟨b3,J,J⟩⟩
 ·refine tK<|tS<|aM<|rM J J<|ae.qv (cH J) J<|rM J J<|rN<|aa.block<|aa.cj (fun x:Int=>jH v1 x) (fun x aG=>aG=⟨25,[(6,.sl 1 b2 0 v1.length),(15,.sl 1 b2 0 v1.length),(16,I (v1.length:Int)),(17,I x)],[(b2,uQ v1)]⟩) h ?_ ?_
  ·exact ai.lq [0] J J J
  ·intro n5 z1 aG J1 eZ h mM iQ
   obtain rfl:=eZ
   replace h:jH v1 n5=some z1:=h
   unfold jH at h
   refine aM<|ae.qv (bH J J) J<|rN<|tS<|cD h J (fun h=>?_) (fun h=>?_)
   ·refine tK<|tS<|aa.block<|aM<|aF h fun v6 e2 h=>ae.qv (aS J J J e2) J<|ae.qv (bl (g:=AV.str) J J (.inl .p0) e2 J) J<|rA J J<|rN<|aM<|rM J J<|ae.qv (qk J J) J<|rN<|cD h J (fun h=>?_) (fun h=>?_)
    ·refine aM<|rA J J<|rA J J<|rN<|aa.ret<|have h:=cr h iQ;?_
     cases h
     exact ai.arr (s:=4) 1 J fun b7=>ai.here ⟨_,.cons (.tmp _ _ J) (.cons (.tmp _ _ J) .nil),_,.cons .p0 .nil,⟨b7,J,J⟩⟩
    ·refine tK<|aa.bN<|tR<|ae.qv (aU J J) J<|rM J J<|rN<|aa.stop<|?_
     cases h
     exact mM _ _ J<|ai.lq [0] J J J
   ·refine aa.exit J<|have h:=cr h iQ;aM<|rM J J<|rA J J<|rA J J<|rN<|aa.ret<|?_
    cases h
    exact hI J J [0] J ⟨b2,J,J⟩
theorem gS [GI:bF] {ab:List aI} {ah:aI} {r:Int} (h:bG ab ah=some r):Pu Tryz.prog 78 [Ke ab,.str ah] (I r):=by
 unfold bG at h
 refine aJ.bD Tryz.func78 J Tryz.ntmps78 Tryz.results78 J J ?_
 refine aM<|rA J J<|rN<|tS<|aM<|rM J J<|ae.qv (dz J) J<|rM J J<|rN<|aa.block<|aa.cj (fun x:Int=>bK ab ah x) (fun x aG=>aG=⟨19,[(0,Ke ab),(1,.str ah),(7,I (ab.length:Int)),(8,I x)],[]⟩) h ?_ ?_
 ·exact ai.lq [] J J J
 ·intro n2 z1 aG J1 eZ h mM iQ
  obtain rfl:=eZ
  replace h:bK ab ah n2=some z1:=h
  unfold bK at h
  refine aM<|ae.qv (bH J J) J<|rN<|tS<|cD h J (fun h=>?_) (fun h=>?_)
  ·refine tK<|tS<|aa.block<|aM<|rM J J<|rA J J<|rN<|aM<|rM J J<|rM J J<|rM J J<|aF h fun v3 e1 h=>ae.qv (bJ J J J e1 J J) J<|ae.qv (aH J J J) J<|ae.qv (qk J J) J<|rN<|cD h J (fun h=>?_) (fun h=>?_)
   ·refine aM<|rM J J<|rA J J<|rN<|aa.ret<|have h:=cr h iQ;?_
    cases h
    exact hP J J
   ·refine tK<|aa.bN<|tR<|ae.qv (aU J J) J<|rM J J<|rN<|aa.stop<|?_
    cases h
    exact mM _ _ J<|ai.lq [] J J J
  ·refine aa.exit J<|have h:=cr h iQ;aM<|rA J J<|rN<|aa.ret<|?_
   cases h
   exact hP J J
theorem wo {ab:aI} {ah:Int} {r:Int×Bool} (h:mx ab ah=some r):Pu Tryz.prog 145 [.str ab,I ah] (.iV [I r.1,.bool r.2]):=by
 unfold mx at h
 refine aJ.bD Tryz.func145 J Tryz.ntmps145 Tryz.results145 J J ?_
 refine aM<|rA J J<|rA J J<|rN<|aM<|rM J J<|bw J (pD J) cR J<|rA J J<|rN<|tS<|tS<|aa.cut (fun aG=>∃ (c1:Bool),ko ab c1=some r∧aG=⟨61,[(0,.str ab),(6,.str (Lib.trimPrefix ab ([45]:aI))),(36,.bool c1)],[]⟩) ?_ ?_
 ·refine tR<|rM J J<|ae.qv (qk J J) J<|rM J J<|gF h J J J (fun h=>?_) (fun h=>?_)
  ·refine rM J J<|rY J J J<|ae.qv (cu J) J<|rY J J J<|rM J J<|rY J J J<|ae.qv (ir J J) J<|rE J J J<|rM J J<|gF h J J J (fun h=>?_) (fun h=>?_)
   ·refine rM J J<|rY J J J<|aF h fun c2 e1 h=>ae.qv (kB J J e1) J<|rY J J J<|ae.qv (bY J J) J<|rY J J J<|rM J J<|ae.bW J J J (fun hc=>?_) (fun hc=>?_)
    ·rw [lM hc] at h
     refine rM J J<|rY J J J<|ae.qv (cu J) J<|rY J J J<|ae.qv (ir J J) J<|rY J J J<|rM J J<|ae.gg J J J (fun hc=>?_) (fun hc=>?_)
     ·rw [BJ hc] at h
      exact rM J J<|rY J J J<|ae.qv (cu J) J<|rY J J J<|rM J J<|rY J J J<|ae.qv (cu J) J<|rY J J J<|ae.qv (ir J J) J<|rY J J J<|rE J J J<|rY J J J<|rT J J J<|rE J J J<|rN<|aa.stop<|ai.lq [] ⟨decide (((Lib.trimPrefix ab ([45]:aI)).length:Int) < (ab.length:Int)),h,J⟩ J J
     ·rw [BI hc] at h
      exact rG J J J J<|rG J J J J<|rG J J J J<|rG J J J J<|rY J J J<|rT J J J<|rY J J J<|rT J J J<|rE J J J<|rN<|aa.stop<|ai.lq [] ⟨true,h,J⟩ J J
    ·rw [lN hc] at h
     exact rG J J J J<|rG J J J J<|rG J J J J<|ae.br J J J<|ae.br J J J<|ae.br J J J<|ae.br J J J<|ae.br J J J<|rG J J J J<|rY J J J<|rE J J J<|rE J J J<|rN<|aa.stop<|ai.lq [] ⟨false,h,J⟩ J J
   ·exact rG J J J J<|rG J J J J<|rG J J J J<|ae.br J J J<|ae.br J J J<|ae.br J J J<|ae.br J J J<|ae.br J J J<|ae.br J J J<|ae.br J J J<|ae.br J J J<|ae.br J J J<|ae.br J J J<|rG J J J J<|rT J J J<|rN<|aa.stop<|ai.lq [] ⟨true,h,J⟩ J J
  ·exact rG J J J J<|rG J J J J<|rG J J J J<|rT J J J<|rM J J<|rG J J J J<|rG J J J J<|rG J J J J<|rG J J J J<|ae.br J J J<|ae.br J J J<|ae.br J J J<|ae.br J J J<|ae.br J J J<|ae.br J J J<|ae.br J J J<|ae.br J J J<|ae.br J J J<|ae.br J J J<|rG J J J J<|rT J J J<|rN<|aa.stop<|ai.lq [] ⟨true,h,J⟩ J J
 ·rintro aG ⟨c1,h,rfl⟩
  unfold ko at h
  refine cB h J (fun h=>?_) (fun h=>?_)
  ·refine aM<|rA J J<|rA J J<|rN<|aa.ret<|?_
   cases h
   exact hQ J J J
  ·refine tK<|tS<|aM<|rM J J<|ae.qv (cu J) J<|rM J J<|rN<|aa.block<|aa.cj (fun x:Int=>eh ab x) (fun x aG=>aG=⟨61,[(0,.str ab),(6,.str (Lib.trimPrefix ab ([45]:aI))),(38,I ((Lib.trimPrefix ab ([45]:aI)).length:Int)),(39,I x)],[]⟩) h ?_ ?_
   ·exact ai.lq [] J J J
   ·intro n4 z1 aG J1 eZ h mM iQ
    obtain rfl:=eZ
    replace h:eh ab n4=some z1:=h
    unfold eh at h
    refine aM<|ae.qv (bH J J) J<|rN<|tS<|cD h J (fun h=>?_) (fun h=>?_)
    ·refine tK<|tS<|aa.block<|aM<|rM J J<|rA J J<|rN<|tS<|aa.cut (fun aG=>∃ (c5:Bool),mw n4 c5=some z1∧aG=⟨61,[(0,.str ab),(6,.str (Lib.trimPrefix ab ([45]:aI))),(38,I ((Lib.trimPrefix ab ([45]:aI)).length:Int)),(39,I n4),(51,.bool c5)],[]⟩) ?_ ?_
     ·refine tR<|rM J J<|rM J J<|aF h fun c6 e2 h=>ae.qv (kB J J e2) J<|ae.qv (bH J J) J<|rM J J<|gF h J J J (fun h=>?_) (fun h=>?_)
      ·exact rM J J<|rY J J J<|rM J J<|rY J J J<|aF h fun c7 e3 h=>ae.qv (kB J J e3) J<|rY J J J<|ae.qv (ir J J) J<|rE J J J<|rN<|aa.stop<|ai.lq [] ⟨decide ((57:Int) < (c7.toNat:Int)),h,J⟩ J J
      ·exact rG J J J J<|rG J J J J<|rG J J J J<|rT J J J<|rN<|aa.stop<|ai.lq [] ⟨true,h,J⟩ J J
     ·rintro aG ⟨c5,h,rfl⟩
      unfold mw at h
      refine cB h J (fun h=>?_) (fun h=>?_)
      ·refine aM<|rA J J<|rA J J<|rN<|aa.ret<|have h:=cr h iQ;?_
       cases h
       exact hQ J J J
      ·refine tK<|aa.bN<|tR<|ae.qv (aU J J) J<|rM J J<|rN<|aa.stop<|?_
       cases h
       exact mM _ _ J<|ai.lq [] J J J
    ·refine aa.exit J<|have h:=cr h iQ;?_
     unfold oH at h
     refine aM<|rM J J<|aF h fun v8 e4 h=>H9 J (uL e4) cR J fun e9 e5=>rM J J<|rX J J J<|rX J J J<|rA J J<|rA J J<|rN<|tS<|aa.bL (id:=11) (A:=[0,0,2,1,15]) 5 mixed J (by kernel_rfl) (by kernel_rfl)<|AM.qv (aA J) J<|AM.qv (aA J) J<|AM.qv (Pp e5 J) J<|AM.qv (cU J) J<|AM.qv (cU J) J<|AM.nil<|rN<|aa.ret<|?_
     cases h
     exact hQ J J J
end Go.Proofs.YthamhifbccpcpaaGreatDoor
