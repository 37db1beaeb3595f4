/- The code computes the plain functions: proofs written by shal.py. -/
import Derived.Test.YtodkphmmhgkodaaGreatDoorNctW2
set_option maxHeartbeats 4000000
set_option maxRecDepth 100000
set_option linter.unusedVariables false
set_option linter.unusedSimpArgs false
namespace Go.Proofs.YtodkphmmhgkodaaGreatDoor
open Go Go.Eng Go.Proofs Go.Beacon
attribute [local irreducible] ae aa AQ QV aT aj NS AM
theorem zI [GI:bM] {ab:aA} {ah:an} {r:Bool} (h:gy ab ah=r):Pu Tryz.prog 61 [aA.av ab,.bR [.bR [.str ah.aG,.str ah.a8,lV ah.bw,I ah.aE,I ah.ay.aM,I ah.ay.To]]] (.bool r):=by
 unfold gy at h
 refine aT.bJ Tryz.func61 J Tryz.ntmps61 Tryz.results61 J J ?_
 refine aS<|gn J J J J fun b1=>rA J J<|rN<|tS<|aa.bS (id:=1) (A:=[0,1,0,4,12,28,63,127]) 8 mixed J (by kernel_rfl) (by kernel_rfl)<|AM.qv (az J J) J<|AM.qv (aF J J .p0 J) J<|AM.qv (aJ J J J) J<|AM.qv (bb J) J<|AM.qv (aO J J) J<|AM.qv (aJ J J J) J<|AM.qv (uX J J) J<|AM.qv (bZ J) J<|AM.nil<|rN<|aa.ret<|?_
 obtain rfl:=h
 exact hP J J
theorem AK [GI:bM] {ab:an} {ah:Int} {r:iL} (h:oH ab ah=some r):Pu Tryz.prog 117 [.bR [.str ab.aG,.str ab.a8,lV ab.bw,I ab.aE,I ab.ay.aM,I ab.ay.To],I ah] (iL.av r):=by
 unfold oH at h
 refine aT.bJ Tryz.func117 J Tryz.ntmps117 Tryz.results117 J J ?_
 refine aS<|ct J J J J fun b1=>rN<|tS<|aa.fT (id:=1) (A:=[0,1,3,7,0,16,48,112,0,256,768,1792,4095,0,16383]) (H0:=[]) (HH:=fun β=>[((β 13),.cells [.str [],.str [],I (0:Int),I (0:Int),I (0:Int),I (0:Int)]),(b1,.cells [.str [],.str [],I (0:Int),I (0:Int),I (0:Int),I (0:Int)])]) 14 mixed J (by kernel_rfl) (by kernel_rfl) [⟨some 13,none,[],fun b=>(b,.cells [.str [],.str [],I (0:Int),I (0:Int),I (0:Int),I (0:Int)]),none,[]⟩] [13] J (by kernel_rfl) J .nil (fun _=>J)<|AT.am 13 J J<|AM.qv (ax J) J<|AM.qv (bb J) J<|AM.qv (aO J J) J<|AM.qv (aJ J J J) J<|AM.qv (ax J) J<|AM.qv (bb J) J<|AM.qv (aO J J) J<|AM.qv (aJ J J J) J<|AM.qv (ax J) J<|AM.qv (bb J) J<|AM.qv (aO J J) J<|AM.qv (aJ J J J) J<|AM.qv (cJ J J J J J) J<|AM.nil<|AT.BA (V:=fun b=>.ptr b 0) (Ti:=[]) (Pi:=fun b=>[(b,.cells [.str [],.str [],I (0:Int),I (0:Int),I (0:Int),I (0:Int)])]) (fun _=>J) (fun _=>J) (fun _ _=>J) J (fun _=>J) J J J ?_ ?_
 ·exact ct J J J J fun b2=>ae.nil ⟨b2,_,J,J⟩
 refine AT.rb (fun _=>J) fun β=>?_
 generalize β 13=b2
 clear β
 refine aQ J J J J .p0 J J<|rN<|tS<|aS<|rM J J<|ae.qv (bb J) J<|ae.qv (aO J J) J<|ae.qv (aJ J J J) J<|ae.qv (cY J) J<|rM J J<|rN<|aa.block<|aa.cw (fun x:Int×Int×Int=>eW ab ah x.1 x.2.1 x.2.2) (fun x aH=>aH=⟨67,[(0,.bR [.str ab.aG,.str ab.a8,lV ab.bw,I ab.aE,I ab.ay.aM,I ab.ay.To]),(1,I ah),(4,.ptr b1 0),(5,.ptr b2 0),(24,lV ab.bw),(25,I (ab.bw.length:Int)),(26,I x.2.2)],[(b1,.cells [.str [],.str [],I (0:Int),I (0:Int),I (0:Int),I (0:Int)]),(b2,.cells [.str ab.aG,.str ab.a8,I ab.aE,I x.1,I x.2.1,I (0:Int)])]⟩) h ?_ ?_
 ·exact aj.lq [1,0] J J J
 ·intro x z1 aH J1 fe h k6 fh
  obtain ⟨n6,n7,n8⟩:=x
  obtain rfl:=fe
  replace h:eW ab ah n6 n7 n8=some z1:=h
  unfold eW at h
  refine aS<|ae.qv (bE J J) J<|rN<|tS<|cD h J (fun h=>?_) (fun h=>?_)
  ·refine tK<|tS<|aa.block<|aS<|aK h fun v9 e1 h=>ae.qv (bN J J J e1 J J) J<|ae.qv (bf J J J) J<|ct J J J J fun mF=>aQ J J J J .p0 J J<|rN<|tS<|aS<|rF J J J<|rL J J .p0 J J<|ae.qv (ot J J) J<|rN<|aa.cut (fun aH=>∃ (n11:Int),lI n7 n8 v9 n11=some z1∧aH=⟨67,[(0,.bR [.str ab.aG,.str ab.a8,lV ab.bw,I ab.aE,I ab.ay.aM,I ab.ay.To]),(1,I ah),(4,.ptr b1 0),(5,.ptr b2 0),(7,.ptr mF 0),(24,lV ab.bw),(25,I (ab.bw.length:Int)),(26,I n8)],[(b1,.cells [.str [],.str [],I (0:Int),I (0:Int),I (0:Int),I (0:Int)]),(b2,.cells [.str ab.aG,.str ab.a8,I ab.aE,I n11,I n7,I (0:Int)]),(mF,.cells (vn v9))]⟩) ?_ ?_
   ·refine cD h J (fun h=>?_) (fun h=>?_)
    ·exact tR<|rF J J J<|rL J J .p0 J J<|rF J J J<|aQ J J J J .p2 J J<|rN<|aa.stop<|aj.lq [1,1,0] ⟨v9.At,h,J⟩ J J
    ·exact tK<|aa.stop<|aj.lq [1,1,0] ⟨n6,h,J⟩ J J
   ·rintro aH ⟨n11,h,rfl⟩
    unfold lI at h
    refine aS<|rF J J J<|rL J J .p2 J J<|ae.qv (cL J J) J<|rN<|aa.cut (fun aH=>∃ (n12:Int),lH n8 n11 n12=some z1∧aH=⟨67,[(0,.bR [.str ab.aG,.str ab.a8,lV ab.bw,I ab.aE,I ab.ay.aM,I ab.ay.To]),(1,I ah),(4,.ptr b1 0),(5,.ptr b2 0),(24,lV ab.bw),(25,I (ab.bw.length:Int)),(26,I n8)],[(b1,.cells [.str [],.str [],I (0:Int),I (0:Int),I (0:Int),I (0:Int)]),(b2,.cells [.str ab.aG,.str ab.a8,I ab.aE,I n11,I n12,I (0:Int)])]⟩) ?_ ?_
    ·refine cD h J (fun h=>?_) (fun h=>?_)
     ·exact tR<|rF J J J<|rL J J .p1 J J<|ae.qv (bc J J) J<|rF J J J<|aQ J J J J .p1 J J<|rN<|aa.stop<|aj.lq [0,0] ⟨aL (n7+(1:Int)),h,J⟩ J J
     ·exact tK<|aa.stop<|aj.lq [0,0] ⟨n7,h,J⟩ J J
    ·rintro aH ⟨n12,h,rfl⟩
     unfold lH at h
     refine aa.cu<|tR<|ae.qv (bc J J) J<|rM J J<|rN<|aa.stop<|?_
     cases h
     exact k6 _ _ J<|aj.lq [0,0] J J J
  ·refine aa.exit J<|have h:=bT h fh;tS<|tS<|aa.cut (fun aH=>∃ (KG:Bool),lK ab n6 n7 KG=some r∧aH=⟨67,[(0,.bR [.str ab.aG,.str ab.a8,lV ab.bw,I ab.aE,I ab.ay.aM,I ab.ay.To]),(4,.ptr b1 0),(5,.ptr b2 0),(59,.bool KG)],[(b1,.cells [.str [],.str [],I (0:Int),I (0:Int),I (0:Int),I (0:Int)]),(b2,.cells [.str ab.aG,.str ab.a8,I ab.aE,I n6,I n7,I (0:Int)])]⟩) ?_ ?_
   ·refine tR<|rM J J<|ae.qv (bb J) J<|ae.qv (aO J J) J<|ae.qv (aO J J) J<|ae.qv (aJ J J J) J<|rM J J<|ae.qv (ot J J) J<|rM J J<|ae.bH J J J (fun hc=>?_) (fun hc=>?_)
    ·rw [iD hc] at h
     exact rM J J<|rY J J J<|rM J J<|rY J J J<|ae.qv (bb J) J<|rY J J J<|ae.qv (aO J J) J<|rY J J J<|ae.qv (aO J J) J<|rY J J J<|ae.qv (aJ J J J) J<|rY J J J<|ae.qv (bE J J) J<|rT J J J<|rN<|aa.stop<|aj.lq [0,0] ⟨decide (ah < ab.ay.To),h,J⟩ J J
    ·rw [iE hc] at h
     exact rG J J J J<|rG J J J J<|rG J J J J<|rG J J J J<|rG J J J J<|rG J J J J<|rE J J J<|rN<|aa.stop<|aj.lq [0,0] ⟨false,h,J⟩ J J
   ·rintro aH ⟨KG,h,rfl⟩
    unfold lK at h
    refine aa.cut (fun aH=>∃ (n14:Int),lJ ab n6 n7 n14=some r∧aH=⟨67,[(4,.ptr b1 0),(5,.ptr b2 0)],[(b1,.cells [.str [],.str [],I (0:Int),I (0:Int),I (0:Int),I (0:Int)]),(b2,.cells [.str ab.aG,.str ab.a8,I ab.aE,I n6,I n7,I n14])]⟩) ?_ ?_
    ·refine cB h J (fun h=>?_) (fun h=>?_)
     ·exact tR<|rM J J<|ae.qv (bb J) J<|ae.qv (aO J J) J<|ae.qv (aO J J) J<|ae.qv (aJ J J J) J<|rF J J J<|aQ J J J J .p1 J J<|rN<|aa.stop<|aj.lq [0,0] ⟨ab.ay.To,h,J⟩ J J
     ·exact tK<|aa.stop<|aj.lq [0,0] ⟨(0:Int),h,J⟩ J J
    ·rintro aH ⟨n14,h,rfl⟩
     unfold lJ at h
     refine aS<|ae.qv (bq J J .p1 J) J<|aQ J J J J .p0 J J<|rN<|aa.ret<|?_
     cases h
     exact aj.here ⟨_,.cons (.all _ _ _ _ _ _ J .p0 aP.h br.h J J) .nil,J⟩
theorem FO [GI:bM] {ab:List Signal} {ah:bO} {ao:bO} {aD:Int} {r:iL} (h:uf ab ah ao aD=some r):Pu Tryz.prog 87 [lV ab,.str ah,.str ao,I aD] (iL.av r):=by
 unfold uf at h
 refine aT.bJ Tryz.func87 J Tryz.ntmps87 Tryz.results87 J J ?_
 refine aS<|ct J J J J fun b1=>rN<|aS<|rM J J<|rM J J<|aK h fun v2 e1 h=>pt J (yJ e1) cR .nil (fun _=>J) J fun b3=>rM J J<|rX J J J<|rX J J J<|rA J J<|rA J J<|rN<|tS<|aS<|rM J J<|ae.qv (cY J) J<|rM J J<|rN<|aa.block<|aa.cw (fun x:Int=>mg ah ao aD v2 x) (fun x aH=>aH=⟨46,[(1,.str ah),(2,.str ao),(3,I aD),(8,.ptr b1 0),(19,Js v2.1),(20,I (v2.1.length:Int)),(21,I x)],[(b1,.cells [.str [],.str [],I (0:Int),I (0:Int),I (0:Int),I (0:Int)])]⟩) h ?_ ?_
 ·exact aj.lq [1] J J J
 ·intro n5 z1 aH J1 fe h k6 fh
  obtain rfl:=fe
  replace h:mg ah ao aD v2 n5=some z1:=h
  unfold mg at h
  refine aS<|ae.qv (bE J J) J<|rN<|tS<|cD h J (fun h=>?_) (fun h=>?_)
  ·refine tK<|tS<|aa.block<|aS<|aK h fun v6 e2 h=>ae.qv (bN J J J e2 J J) J<|ae.qv (aJ J J J) J<|rA J J<|rN<|tS<|aa.cut (fun aH=>∃ (c7:Bool),rW aD n5 v6 c7=some z1∧aH=⟨46,[(1,.str ah),(2,.str ao),(3,I aD),(8,.ptr b1 0),(12,.bR [.str v6.aG,.str v6.a8,lV v6.bw,I v6.aE,I v6.ay.aM,I v6.ay.To]),(19,Js v2.1),(20,I (v2.1.length:Int)),(21,I n5),(38,.bool c7)],[(b1,.cells [.str [],.str [],I (0:Int),I (0:Int),I (0:Int),I (0:Int)])]⟩) ?_ ?_
   ·refine tR<|rM J J<|ae.qv (bb J) J<|ae.qv (aO J J) J<|ae.qv (aJ J J J) J<|rM J J<|ae.qv (uX J J) J<|rM J J<|ae.bH J J J (fun hc=>?_) (fun hc=>?_)
    ·rw [iD hc] at h
     exact rM J J<|rY J J J<|ae.qv (bb J) J<|rY J J J<|ae.qv (aO J J) J<|rY J J J<|ae.qv (aJ J J J) J<|rY J J J<|rM J J<|rY J J J<|ae.qv (uX J J) J<|rT J J J<|rN<|aa.stop<|aj.lq [0] ⟨decide (v6.a8=ao),h,J⟩ J J
    ·rw [iE hc] at h
     exact rG J J J J<|rG J J J J<|rG J J J J<|rG J J J J<|rG J J J J<|rE J J J<|rN<|aa.stop<|aj.lq [0] ⟨false,h,J⟩ J J
   ·rintro aH ⟨c7,h,rfl⟩
    unfold rW at h
    refine cB h J (fun h=>?_) (fun h=>?_)
    ·refine aS<|rM J J<|rM J J<|aK h fun v8 e3 h=>bB J (AK e3) cR J<|aQ J J J J .p0 J J<|rN<|aa.ret<|have h:=bT h fh;?_
     cases h
     exact aj.here ⟨_,.cons (.all _ _ _ _ _ _ J .p0 aP.h br.h J J) .nil,J⟩
    ·refine tK<|aa.cu<|tR<|ae.qv (bc J J) J<|rM J J<|rN<|aa.stop<|?_
     cases h
     exact k6 _ _ J<|aj.lq [0] J J J
  ·refine aa.exit J<|have h:=bT h fh;aS<|rM J J<|rM J J<|ae.qv (cJ J J J J J) J<|aQ J J J J .p0 J J<|rN<|aa.ret<|?_
   cases h
   exact aj.here ⟨_,.cons (.all _ _ _ _ _ _ J .p0 aP.h br.h J J) .nil,J⟩
theorem um [GI:bM] {QA:Bk} {FP:Bk} {ab:Int} {ah:Int} {ao:ar} {aD:ar} {fV:List Signal} {eN:an} {yB:aA} {yC:List ai} {CI:List aB} {r:(List ai)} (h:lL ab ah ao aD fV eN yB yC CI=some r):aT Tryz.prog 86 [I ab,I ah,.bR [I ao.aM,I ao.To],.bR [I aD.aM,I aD.To],.bR [lV fV],.bR [.bR [.str eN.aG,.str eN.a8,lV eN.bw,I eN.aE,I eN.ay.aM,I eN.ay.To]],.bR [.str yB.bg,x6 yB.aV,I yB.aX],.ptr QA 0,.bR [nG CI]] [(QA,.cells [.sl 6 FP 0 yC.length]),(FP,gp yC)] (T1 (fun KT=>[(QA,.cells [.sl 6 KT 0 r.length]),(KT,gp r)]) (fun KT=>.oL [])):=by
 unfold lL at h
 refine aT.fM ?_
 refine aT.bJ Tryz.func86 J Tryz.ntmps86 Tryz.results86 J J ?_
 refine tS<|aa.cut (fun aH=>∃ (c1:Bool),gz ab ah eN yB yC CI c1=some r∧aH=⟨65,[(0,I ab),(1,I ah),(5,.bR [.bR [.str eN.aG,.str eN.a8,lV eN.bw,I eN.aE,I eN.ay.aM,I eN.ay.To]]),(6,.bR [.str yB.bg,x6 yB.aV,I yB.aX]),(7,.ptr QA 0),(8,.bR [nG CI]),(39,.bool c1)],[(QA,.cells [.sl 6 FP 0 yC.length]),(FP,gp yC)]⟩) ?_ ?_
 ·refine aa.bS (id:=0) (A:=[0,0,2,7,15,31,31,95,31,287,799,2047,4095,8191,16383,16383,49151,114687,245759,16383,540671,1589247,3686399,16383,16777215,33554431,67108863,134217727]) 28 mixed J (by kernel_rfl) (by kernel_rfl)<|AM.qv (ax J) J<|AM.qv (aO J J) J<|AM.qv (aJ J J J) J<|AM.qv (bE J J) J<|AM.qv (ax J) J<|AM.bH J J J (fun hc=>?_) (fun hc=>?_)
  ·refine have h:=sW hc h;AM.qv (ax J) J<|AM.aI J J J<|AM.qv (aO J J) J<|AM.aI J J J<|AM.qv (aJ J J J) J<|AM.aI J J J<|AM.qv (aO J J) J<|AM.aI J J J<|AM.qv (aJ J J J) J<|AM.aI J J J<|AM.qv (bK J J) J<|AM.aI J J J<|AM.fL J (wa J) cR J<|AM.qv (kj J J) J<|AM.qv (ax J) J<|AM.guard J J J (fun hc=>?_) (fun hc=>?_)
   ·exact have h:=sW hc h;AM.qv (aJ J J J) J<|AM.aI J J J<|AM.qv (aJ J J J) J<|AM.aI J J J<|AM.qv (bb J) J<|AM.aI J J J<|AM.qv (aO J J) J<|AM.aI J J J<|AM.qv (aJ J J J) J<|AM.aI J J J<|AM.qv (aJ J J J) J<|AM.aI J J J<|AM.qv (bb J) J<|AM.aI J J J<|AM.qv (aO J J) J<|AM.aI J J J<|AM.qv (aJ J J J) J<|AM.aI J J J<|AM.qv (ax J) J<|AM.aI J J J<|aK h fun v2 e1 h=>AM.fL J (FO e1) cR J<|AM.aI J J J<|AM.qv (IM (ft:=3) (off:=5) ⟨_,_,Tryz.underlying120,J,J,J⟩ J J J) J<|AM.aI J J J<|AM.qv (cL J J) J<|AM.qv (kj J J) J<|AM.nil<|rN<|aa.stop<|aj.lq [0,0] ⟨decide (v2.AX=(0:Int)),h,J⟩ J J
   ·exact have h:=ye hc h;AM.aN J J J J<|AM.aN J J J J<|AM.aN J J J J<|AM.aN J J J J<|AM.aN J J J J<|AM.aN J J J J<|AM.aN J J J J<|AM.aN J J J J<|AM.aN J J J J<|AM.aN J J J J<|AM.aN J J J J<|AM.aN J J J J<|AM.qv (jz J J) J<|AM.nil<|rN<|aa.stop<|aj.lq [0,0] ⟨false,h,J⟩ J J
  ·exact have h:=zq hc h;AM.aN J J J J<|AM.aN J J J J<|AM.aN J J J J<|AM.aN J J J J<|AM.aN J J J J<|AM.aN J J J J<|AM.qv (jz J J) J<|AM.qv (ax J) J<|AM.aN J J J J<|AM.aN J J J J<|AM.aN J J J J<|AM.aN J J J J<|AM.aN J J J J<|AM.aN J J J J<|AM.aN J J J J<|AM.aN J J J J<|AM.aN J J J J<|AM.aN J J J J<|AM.aN J J J J<|AM.aN J J J J<|AM.aN J J J J<|AM.qv (jz J J) J<|AM.nil<|rN<|aa.stop<|aj.lq [0,0] ⟨false,h,J⟩ J J
 ·rintro aH ⟨c1,h,rfl⟩
  unfold gz at h
  refine aa.cut (fun aH=>∃ (b3:Bk) (l4:List ai),kR l4=some r∧aH=⟨65,[],[(QA,.cells [.sl 6 b3 0 l4.length]),(b3,gp l4)]⟩) ?_ ?_
  ·refine cB h J (fun h=>?_) (fun h=>?_)
   ·exact aS<|ae.qv (aO J J) J<|ae.qv (aJ J J J) J<|rM J J<|aK h fun v5 e2 h=>ae.qv (bN J J J e2 J J) J<|ae.qv (aO J J) J<|ae.qv (aJ J J J) J<|rA J J<|rN<|aa.bS (id:=2) (A:=[0,0,0,4,12,28,0,64,192,448,0,0,0,0,14336,0,65534,131070,262143,524287]) 18 mixed J (by kernel_rfl) (by kernel_rfl)<|AM.qv (aF J J .p0 J) J<|AM.qv (ax J) J<|AM.qv (aJ J J J) J<|AM.qv (bb J) J<|AM.qv (aO J J) J<|AM.qv (aJ J J J) J<|AM.qv (aJ J J J) J<|AM.qv (bb J) J<|AM.qv (aO J J) J<|AM.qv (aJ J J J) J<|AM.qv (ax J) J<|AM.qv (aJ J J J) J<|AM.qv (ax J) J<|AM.qv (ax J) J<|aK h fun v6 e3 h=>AM.fL J (yH e3) cR J<|AM.qv (ax J) J<|AM.qv (cJ J J J J J) J<|AM.bL (xs:=([(⟨ab,eN.aG,eN.a8,v5.cO,v6,ah⟩:ai)]).map ai.av) J J J J J J<|AM.nil<|aK h fun l7 e4 h=>eK (g:=ai.av) J J J J J J J J (.list _) e4 (fun _=>.p1) J fun b8=>aQ J J J J .p0 J J<|rN<|aa.stop<|aj.lq [0,0] ⟨b8,l7,h,J⟩ J J
   ·exact tK<|aa.stop<|aj.lq [0,0] ⟨FP,yC,h,J⟩ J J
  ·rintro aH ⟨b3,l4,h,rfl⟩
   unfold kR at h
   refine aa.nil<|?_
   cases h
   exact aj.here ⟨_,.nil,_,.cons .p0 (.cons .p0 .nil),⟨b3,J,J⟩⟩
theorem CM [GI:bM] {ab:List Signal} {ah:an} {ao:aA} {aD:List aB} {fV:ar} {eN:ar} {r:(List ai)} (h:nC ab ah ao aD fV eN=some r):aT Tryz.prog 62 [lV ab,.bR [.str ah.aG,.str ah.a8,lV ah.bw,I ah.aE,I ah.ay.aM,I ah.ay.To],aA.av ao,nG aD,ar.av fV,ar.av eN] [] (T1 (fun sG=>[(sG,gp r)]) (fun sG=>.sl 6 sG 0 r.length)):=by
 unfold nC at h
 refine aT.fM ?_
 refine aT.bJ Tryz.func62 J Tryz.ntmps62 Tryz.results62 J J ?_
 refine aS<|gn J J J J fun b1=>ae.ghost<|aj.zy (s:=6) J .p0<|aj.here<|gn J J J J fun b2=>ae.ghost<|aj.zy (s:=7) J .p0<|aj.here<|gn J J J J fun b3=>ae.ghost<|aj.zy (s:=8) J .p0<|aj.here<|gn J J J J fun b4=>ae.ghost<|aj.zy (s:=9) J .p0<|aj.here<|gn J J J J fun b5=>ae.ghost<|aj.zy (s:=10) J .p0<|aj.here<|gn J J J J fun b6=>ae.ghost<|aj.zy (s:=11) J .p0<|aj.here<|rA J J<|rN<|aS<|ct J J J J fun b7=>rN<|aS<|ae.qv (sk J) J<|rA J J<|rN<|aS<|ae.qv (aO J J) J<|ae.qv (aJ J J J) J<|ae.qv (cY J) J<|ae.qv (bK J J) J<|rA J J<|rN<|tS<|aS<|ae.qv (aO J J) J<|ae.qv (aJ J J J) J<|ae.qv (cY J) J<|rM J J<|rN<|aa.block<|aa.cw (fun x:(List ai)×Int=>lN ab ah ao aD fV eN x.1 x.2) (fun x aH=>∃ (vu:Bk),aH=⟨95,[(8,.bR [.str ao.bg,x6 ao.aV,I ao.aX]),(10,.bR [I fV.aM,I fV.To]),(11,.bR [I eN.aM,I eN.To]),(13,.ptr b7 0),(14,.func (.func 86) [.bR [I fV.aM,I fV.To],.bR [I eN.aM,I eN.To],.bR [lV ab],.bR [.bR [.str ah.aG,.str ah.a8,lV ah.bw,I ah.aE,I ah.ay.aM,I ah.ay.To]],.bR [.str ao.bg,x6 ao.aV,I ao.aX],.ptr b7 0,.bR [nG aD]]),(15,I (aL ((ao.aV.length:Int) - (1:Int)))),(27,x6 ao.aV),(28,I (ao.aV.length:Int)),(29,I x.2)],[(b7,.cells [.sl 6 vu 0 x.1.length]),(vu,gp x.1)]⟩) h ?_ ?_
 ·exact aj.sv (j:=0) 6 (fun _=>.p0) J (fun _=>J) (fun _=>J) fun xf=>aj.lq [1,0] ⟨xf,J⟩ J J
 ·intro x z1 aH J1 fe h k6 fh
  obtain ⟨jT,n13⟩:=x
  obtain ⟨vu,rfl⟩:=fe
  replace h:lN ab ah ao aD fV eN jT n13=some z1:=h
  unfold lN at h
  refine aS<|ae.qv (bE J J) J<|rN<|tS<|cD h J (fun h=>?_) (fun h=>?_)
  ·refine tK<|tS<|aa.block<|aS<|rM J J<|aK h fun ll e1 h=>ae.qv (bN J J J e1 J J) J<|ae.qv (bf J J J) J<|ct J J J J fun FK=>rA J J<|aQ J J J J .p0 J J<|rN<|tR<|rM J J<|ae.qv (aO J J) J<|ae.qv (aJ J J J) J<|rF J J J<|rL J J .p0 J J<|ae.qv (bc J J) J<|rM J J<|aK h fun v17 e2 h=>Ff J J J (um e2) cR (.cons .p1 (.cons .p1 .nil)) (fun _=>J) J fun zk=>rN<|aa.cu<|tR<|ae.qv (bc J J) J<|rM J J<|rN<|aa.stop<|?_
   cases h
   exact k6 _ _ J<|aj.lq [0,0] ⟨zk,J⟩ J J
  ·refine aa.exit J<|have h:=bT h fh;?_
   unfold nB at h
   refine tS<|aa.bS (id:=9) (A:=[0,1,0,4,0,28,60,124,255,511]) 10 mixed J (by kernel_rfl) (by kernel_rfl)<|AM.qv (aO J J) J<|AM.qv (aJ J J J) J<|AM.qv (aO J J) J<|AM.qv (aJ J J J) J<|AM.qv (ax J) J<|aK h fun vl e3 h=>AM.qv (bN J J J e3 J J) J<|AM.qv (aO J J) J<|AM.qv (aJ J J J) J<|AM.qv (bc J J) J<|AM.qv (bZ J) J<|AM.nil<|rN<|tS<|aS<|ae.qv (aO J J) J<|ae.qv (aJ J J J) J<|ae.qv (cL J J) J<|rN<|cD h J (fun h=>?_) (fun h=>?_)
   ·refine aS<|rL J J .p0 J J<|rA J J<|rN<|aa.ret<|?_
    cases h
    exact hH J [1] J ⟨vu,J,J⟩
   ·refine tK<|aS<|rA J J<|rN<|tS<|aS<|ae.qv (aO J J) J<|ae.qv (aJ J J J) J<|rM J J<|ae.qv (fW J J) J<|rN<|aa.cut (fun aH=>∃ (n20:Int),lM ab ah ao aD fV eN jT vl n20=some r∧aH=⟨95,[(8,.bR [.str ao.bg,x6 ao.aV,I ao.aX]),(10,.bR [I fV.aM,I fV.To]),(11,.bR [I eN.aM,I eN.To]),(13,.ptr b7 0),(14,.func (.func 86) [.bR [I fV.aM,I fV.To],.bR [I eN.aM,I eN.To],.bR [lV ab],.bR [.bR [.str ah.aG,.str ah.a8,lV ah.bw,I ah.aE,I ah.ay.aM,I ah.ay.To]],.bR [.str ao.bg,x6 ao.aV,I ao.aX],.ptr b7 0,.bR [nG aD]]),(15,I (aL ((ao.aV.length:Int) - (1:Int)))),(18,I (aL (fV.aM+vl.bn))),(19,I n20)],[(b7,.cells [.sl 6 vu 0 jT.length]),(vu,gp jT)]⟩) ?_ ?_
    ·refine cD h J (fun h=>?_) (fun h=>?_)
     ·exact tR<|ae.qv (aO J J) J<|ae.qv (aJ J J J) J<|rM J J<|ae.qv (bK J J) J<|ae.qv (aO J J) J<|ae.qv (aJ J J J) J<|aK h fun n21 e4 h=>ae.qv (DY J J e4) J<|ae.qv (JC J J) J<|rA J J<|rN<|aa.stop<|aj.lq [0,0] ⟨max (1:Int) n21,h,J⟩ J J
     ·exact tK<|aa.stop<|aj.lq [0,0] ⟨(1:Int),h,J⟩ J J
    ·rintro aH ⟨n20,h,rfl⟩
     unfold lM at h
     refine tS<|aS<|rM J J<|rM J J<|ae.qv (aO J J) J<|ae.qv (aJ J J J) J<|ae.qv (sj J J) J<|ae.qv (bc J J) J<|rA J J<|rN<|aa.block<|aa.cw (fun x:(List ai)×Int=>jI ab ah ao aD fV eN x.1 x.2) (fun x aH=>∃ (xv:Bk),aH=⟨95,[(8,.bR [.str ao.bg,x6 ao.aV,I ao.aX]),(10,.bR [I fV.aM,I fV.To]),(11,.bR [I eN.aM,I eN.To]),(13,.ptr b7 0),(14,.func (.func 86) [.bR [I fV.aM,I fV.To],.bR [I eN.aM,I eN.To],.bR [lV ab],.bR [.bR [.str ah.aG,.str ah.a8,lV ah.bw,I ah.aE,I ah.ay.aM,I ah.ay.To]],.bR [.str ao.bg,x6 ao.aV,I ao.aX],.ptr b7 0,.bR [nG aD]]),(15,I (aL ((ao.aV.length:Int) - (1:Int)))),(20,I x.2)],[(b7,.cells [.sl 6 xv 0 x.1.length]),(xv,gp x.1)]⟩) h ?_ ?_
     ·exact aj.lq [0,0] ⟨vu,J⟩ J J
     ·intro x z2 aH J2 fe h yD vr
      obtain ⟨sY,n27⟩:=x
      obtain ⟨xv,rfl⟩:=fe
      replace h:jI ab ah ao aD fV eN sY n27=some z2:=h
      unfold jI at h
      refine tS<|tS<|aa.cut (fun aH=>∃ (KF:Bool),nz ab ah ao aD fV eN sY n27 KF=some z2∧aH=⟨95,[(8,.bR [.str ao.bg,x6 ao.aV,I ao.aX]),(10,.bR [I fV.aM,I fV.To]),(11,.bR [I eN.aM,I eN.To]),(13,.ptr b7 0),(14,.func (.func 86) [.bR [I fV.aM,I fV.To],.bR [I eN.aM,I eN.To],.bR [lV ab],.bR [.bR [.str ah.aG,.str ah.a8,lV ah.bw,I ah.aE,I ah.ay.aM,I ah.ay.To]],.bR [.str ao.bg,x6 ao.aV,I ao.aX],.ptr b7 0,.bR [nG aD]]),(15,I (aL ((ao.aV.length:Int) - (1:Int)))),(20,I n27),(85,.bool KF)],[(b7,.cells [.sl 6 xv 0 sY.length]),(xv,gp sY)]⟩) ?_ ?_
      ·refine tR<|rM J J<|ae.qv (aO J J) J<|ae.qv (aJ J J J) J<|ae.qv (aO J J) J<|ae.qv (aJ J J J) J<|ae.qv (CT J J) J<|ae.qv (bE J J) J<|rM J J<|ae.bH J J J (fun hc=>?_) (fun hc=>?_)
       ·rw [iD hc] at h
        exact rL J J .p0 J J<|rY J J J<|ae.qv (iC J) J<|rY J J J<|ae.qv (ot J J) J<|rT J J J<|rN<|aa.stop<|aj.lq [0,0] ⟨decide ((sY.length:Int)≤(5000:Int)),h,J⟩ J J
       ·rw [iE hc] at h
        exact rG J J J J<|rG J J J J<|rE J J J<|rN<|aa.stop<|aj.lq [0,0] ⟨false,h,J⟩ J J
      ·rintro aH ⟨KF,h,rfl⟩
       unfold nz at h
       refine cB h J (fun h=>?_) (fun h=>?_)
       ·refine tK<|tS<|aa.block<|tR<|rM J J<|rM J J<|rM J J<|aK h fun ER e5 h=>Ff J J J (um e5) cR (.cons .p0 (.cons .p0 .nil)) (fun _=>J) J fun Qw=>rN<|aa.cu<|tR<|rM J J<|ae.qv (aO J J) J<|ae.qv (aJ J J J) J<|ae.qv (bc J J) J<|rA J J<|rN<|aa.stop<|?_
        cases h
        exact yD _ _ J<|aj.lq [0,0] ⟨Qw,J⟩ J J
       ·refine aa.exit J<|have h:=bT h vr;aS<|rL J J .p0 J J<|rA J J<|rN<|aa.ret<|?_
        cases h
        exact hH J [1] J ⟨xv,J,J⟩
theorem zJ [GI:bM] {ab:ai} {ah:ai} {r:Int} (h:jJ ab ah=some r):Pu Tryz.prog 64 [ai.av ab,ai.av ah] (I r):=by
 unfold jJ at h
 refine aT.bJ Tryz.func64 J Tryz.ntmps64 Tryz.results64 J J ?_
 refine aS<|gn J J J J fun b1=>gn J J J J fun b2=>rA J J<|rN<|tS<|aa.bS (id:=1) (A:=[0,1,0,4,15,0,32,0,128,511,0,1024,0,4096,16383,32767,65535,131071]) 18 mixed J (by kernel_rfl) (by kernel_rfl)<|AM.qv (az J J) J<|AM.qv (aF J J .p1 J) J<|AM.qv (az J J) J<|AM.qv (aF J J .p0 J) J<|AM.fL J (fD J) cR J<|AM.qv (az J J) J<|AM.qv (aF J J .p1 J) J<|AM.qv (az J J) J<|AM.qv (aF J J .p0 J) J<|AM.fL J (cr J) cR J<|AM.qv (az J J) J<|AM.qv (aF J J .p1 J) J<|AM.qv (az J J) J<|AM.qv (aF J J .p0 J) J<|AM.fL J (cr J) cR J<|AM.bL (xs:=([(cmp_Compare_int ab.At ah.At),(Lib.compareBytes ab.Device ah.Device),(Lib.compareBytes ab.bg ah.bg)]:List Int).map I) J J J J J J<|aK h fun v3 e1 h=>AM.fL J (kS e1) cR J<|AM.qv (bZ J) J<|AM.nil<|rN<|aa.ret<|?_
 cases h
 exact hP J J
theorem jg [GI:bM] {aR:Bk} {ab:List ai} {ah:Int} {ao:Int} {lW:ai→ai→Option Int} {uh:FuncId} [bF Tryz.prog uh] {vZ:List AV} (KJ:∀ {y0 y1:_} {u:Int},lW y0 y1=some u→Pu Tryz.prog uh (ai.av y0 :: ai.av y1 :: vZ) (I u)) {r:(List ai)} (h:dx ab ah ao lW=some r):aT Tryz.prog 106 [.sl 6 aR 0 ab.length,I ah,I ao,.func (.func uh) vZ] [(aR,gp ab)] (T0 ([(aR,gp r)]) (.oL [])):=by
 unfold dx at h
 refine aT.fM ?_
 refine aT.bJ Tryz.func106 J Tryz.ntmps106 Tryz.results106 J J ?_
 refine aS<|rM J J<|ae.qv (bc J J) J<|rA J J<|rN<|aa.block<|aa.cw (fun x:(List ai)×Int=>cX ah ao lW x.1 x.2) (fun x aH=>aH=⟨53,[(0,.sl 6 aR 0 x.1.length),(1,I ah),(2,I ao),(3,.func (.func uh) vZ),(8,I x.2)],[(aR,gp x.1)]⟩) h ?_ ?_
 ·exact aj.lq [0] J J J
 ·intro x z1 aH J1 fe h k6 fh
  obtain ⟨l3,n4⟩:=x
  obtain rfl:=fe
  replace h:cX ah ao lW l3 n4=some z1:=h
  unfold cX at h
  refine tS<|aS<|rM J J<|rM J J<|ae.qv (bE J J) J<|rN<|cD h J (fun h=>?_) (fun h=>?_)
  ·refine tK<|tS<|aa.block<|aS<|rM J J<|rA J J<|rN<|aa.block<|aa.cw (fun x:(List ai)×Int=>cW ah lW n4 x.1 x.2) (fun x aH=>aH=⟨53,[(0,.sl 6 aR 0 x.1.length),(1,I ah),(2,I ao),(3,.func (.func uh) vZ),(8,I n4),(9,I x.2)],[(aR,gp x.1)]⟩) h ?_ ?_
   ·exact aj.lq [0] J J J
   ·intro x z2 aH J2 fe h yD vr
    obtain ⟨l7,n8⟩:=x
    obtain rfl:=fe
    replace h:cW ah lW n4 l7 n8=some z2:=h
    unfold cW at h
    refine tS<|tS<|aa.cut (fun aH=>∃ (c9:Bool),cV n4 l7 n8 c9=some z2∧aH=⟨53,[(0,.sl 6 aR 0 l7.length),(1,I ah),(2,I ao),(3,.func (.func uh) vZ),(8,I n4),(9,I n8),(34,.bool c9)],[(aR,gp l7)]⟩) ?_ ?_
    ·refine aa.bS (id:=4) (A:=[0,0,3,7,15,15,15,111,239,15,15,1039,3599,7695,16383,32767,65535]) 17 mixed J (by kernel_rfl) (by kernel_rfl)<|AM.qv (ax J) J<|AM.qv (ax J) J<|AM.qv (fW J J) J<|AM.qv (ax J) J<|AM.bH J J J (fun hc=>?_) (fun hc=>?_)
     ·exact have h:=sW hc h;AM.qv (ax J) J<|AM.aI J J J<|AM.qv (ax J) J<|AM.aI J J J<|AM.qv (ax J) J<|AM.aI J J J<|aK h fun v10 e1 h=>AM.qv (ba J J J e1) J<|AM.aI J J J<|AM.qv (aZ (g:=ai.av) J J (.inl .p0) J e1 J) J<|AM.aI J J J<|AM.qv (ax J) J<|AM.aI J J J<|AM.qv (ax J) J<|AM.aI J J J<|AM.qv (bK J J) J<|AM.aI J J J<|aK h fun v11 e2 h=>AM.qv (ba J J J e2) J<|AM.aI J J J<|AM.qv (aZ (g:=ai.av) J J (.inl .p0) J e2 J) J<|AM.aI J J J<|aK h fun v12 e3 h=>AM.tG J J (KJ e3) cR J<|AM.aI J J J<|AM.qv (bE J J) J<|AM.qv (kj J J) J<|AM.nil<|rN<|aa.stop<|aj.lq [0] ⟨decide (v12 < (0:Int)),h,J⟩ J J
     ·exact have h:=zq hc h;AM.aN J J J J<|AM.aN J J J J<|AM.aN J J J J<|AM.aN J J J J<|AM.aN J J J J<|AM.aN J J J J<|AM.aN J J J J<|AM.aN J J J J<|AM.aN J J J J<|AM.aN J J J J<|AM.aN J J J J<|AM.qv (jz J J) J<|AM.nil<|rN<|aa.stop<|aj.lq [0] ⟨false,h,J⟩ J J
    ·rintro aH ⟨c9,h,rfl⟩
     unfold cV at h
     refine cB h J (fun h=>?_) (fun h=>?_)
     ·refine tK<|tS<|aa.block<|aK h fun fo e4 h=>aK h fun gR e5 h=>aK h fun ll e6 h=>aa.fT (id:=6) (A:=[0,0,0,0,8,0,0,64,224,480,0,0,3072,7168,16355,32739,65535,131071]) (H0:=[(aR,gp l7)]) (HH:=fun β=>[(aR,gp (l7.set n8.toNat fo))]) 16 mixed J (by kernel_rfl) (by kernel_rfl) [⟨none,some 15,[9,13],fun _=>(aR,gp l7),none,[]⟩,⟨some 15,none,[],fun _=>(aR,gp (l7.set n8.toNat fo)),none,[]⟩] [] J (by kernel_rfl) J (.cons .p0 .nil) (fun _=>J)<|AT.am 9 J J<|AM.qv (ax J) J<|AM.qv (ax J) J<|AM.qv (ax J) J<|AM.qv (ax J) J<|AM.qv (bK J J) J<|AM.qv (ax J) J<|AM.qv (ax J) J<|AM.qv (bK J J) J<|AM.qv (ba J J J e4) J<|AM.nil<|AT.rd (Rs:=[(aR,gp l7)]) (fun _=>J) J (fun _=>J) (fun _=>J) (aZ (g:=ai.av) J J (.inl .p0) J e4 J) J<|AT.am 3 J J<|AM.qv (ax J) J<|AM.qv (ax J) J<|AM.qv (ba J J J e5) J<|AM.nil<|AT.rd (Rs:=[(aR,gp l7)]) (fun _=>J) J (fun _=>J) (fun _=>J) (aZ (g:=ai.av) J J (.inl .p0) J e5 J) J<|AT.am 1 J J<|AM.qv (ba J J J e6) J<|AM.nil<|AT.xa (Ti:=[(aR,gp l7)]) (Pi:=[(aR,gp (l7.set n8.toNat fo))]) (fun _=>J) (fun _=>J) (fun _=>J) J J ?_ ?_
      ·exact bz (g:=ai.av) (uy:=fo) J J J J e6 J .p0 J<|ae.nil ⟨_,J⟩
      refine AT.rb (fun _=>J) fun β=>ae.ghost<|aj.eqs (s:=0) (cy:=.sl 6 aR 0 (l7.set n8.toNat fo).length) J (by simp)<|aj.here<|ae.ghost<|aj.eqs (s:=37) (cy:=.sl 6 aR 0 (l7.set n8.toNat fo).length) J (by simp)<|aj.here<|ae.ghost<|aj.eqs (s:=39) (cy:=.sl 6 aR 0 (l7.set n8.toNat fo).length) J (by simp)<|aj.here<|ae.ghost<|aj.eqs (s:=42) (cy:=.sl 6 aR 0 (l7.set n8.toNat fo).length) J (by simp)<|aj.here<|ae.ghost<|aj.eqs (s:=47) (cy:=.sl 6 aR 0 (l7.set n8.toNat fo).length) J (by simp)<|aj.here<|aK h fun xo e7 h=>ae.qv (ba J J J e7) J<|bz (g:=ai.av) (uy:=gR) J J J J e7 J .p0 J<|ae.ghost<|aj.eqs (s:=0) (cy:=.sl 6 aR 0 ((l7.set n8.toNat fo).set (aL (n8 - (1:Int))).toNat gR).length) J (by rw [List.length_set])<|aj.here<|ae.ghost<|aj.eqs (s:=37) (cy:=.sl 6 aR 0 ((l7.set n8.toNat fo).set (aL (n8 - (1:Int))).toNat gR).length) J (by rw [List.length_set])<|aj.here<|ae.ghost<|aj.eqs (s:=39) (cy:=.sl 6 aR 0 ((l7.set n8.toNat fo).set (aL (n8 - (1:Int))).toNat gR).length) J (by rw [List.length_set])<|aj.here<|ae.ghost<|aj.eqs (s:=42) (cy:=.sl 6 aR 0 ((l7.set n8.toNat fo).set (aL (n8 - (1:Int))).toNat gR).length) J (by rw [List.length_set])<|aj.here<|ae.ghost<|aj.eqs (s:=47) (cy:=.sl 6 aR 0 ((l7.set n8.toNat fo).set (aL (n8 - (1:Int))).toNat gR).length) J (by rw [List.length_set])<|aj.here<|rN<|aa.cu<|tR<|rM J J<|ae.qv (bK J J) J<|rA J J<|rN<|aa.stop<|?_
      cases h
      exact yD _ _ J<|aj.lq [0] J J J
     ·refine aa.exit J<|have h:=bT h vr;aa.cu<|tR<|rM J J<|ae.qv (bc J J) J<|rA J J<|rN<|aa.stop<|?_
      cases h
      exact k6 _ _ J<|aj.lq [0] J J J
  ·refine aa.exit J<|have h:=bT h fh;aa.nil<|?_
   cases h
   exact aj.here ⟨_,.nil,_,.cons .p0 .nil,⟨J,J⟩⟩
theorem gH [GI:bM] {aR:Bk} {ab:List ai} {ah:Int} {ao:Int} {aD:Int} {cG:ai→ai→Option Int} {bY:FuncId} [bF Tryz.prog bY] {cx:List AV} (gY:∀ {y0 y1:_} {u:Int},cG y0 y1=some u→Pu Tryz.prog bY (ai.av y0 :: ai.av y1 :: cx) (I u)) {r:(List ai)} (h:dj ab ah ao aD cG=some r):aT Tryz.prog 159 [.sl 6 aR 0 ab.length,I ah,I ao,I aD,.func (.func bY) cx] [(aR,gp ab)] (T0 ([(aR,gp r)]) (.oL [])):=by
 unfold dj at h
 refine aT.fM ?_
 refine aT.bJ Tryz.func159 J Tryz.ntmps159 Tryz.results159 J J ?_
 refine aS<|rA J J<|rN<|aa.block<|aa.cw (fun x:(List ai)×Int=>dD ah ao aD x.1 x.2) (fun x aH=>aH=⟨38,[(0,.sl 6 aR 0 x.1.length),(1,I ah),(2,I ao),(3,I aD),(10,I x.2)],[(aR,gp x.1)]⟩) h ?_ ?_
 ·exact aj.lq [0] J J J
 ·intro x z1 aH J1 fe h k6 fh
  obtain ⟨l3,n4⟩:=x
  obtain rfl:=fe
  replace h:dD ah ao aD l3 n4=some z1:=h
  unfold dD at h
  refine tS<|aS<|rM J J<|rM J J<|ae.qv (bE J J) J<|rN<|cD h J (fun h=>?_) (fun h=>?_)
  ·refine tK<|tS<|aa.block<|aK h fun v5 e1 h=>aK h fun v6 e2 h=>aK h fun v7 e3 h=>aa.fT (id:=3) (A:=[0,0,0,6,0,0,0,96,0,0,0,1536,3840,7936,0,0,0,98304,245760,507904,1048335,2096911,4194303,8388607]) (H0:=[(aR,gp l3)]) (HH:=fun β=>[(aR,gp (l3.set (aL (ah+n4)).toNat v5))]) 22 mixed J (by kernel_rfl) (by kernel_rfl) [⟨none,some 21,[13,19],fun _=>(aR,gp l3),none,[]⟩,⟨some 21,none,[],fun _=>(aR,gp (l3.set (aL (ah+n4)).toNat v5)),none,[]⟩] [] J (by kernel_rfl) J (.cons .p0 .nil) (fun _=>J)<|AT.am 13 J J<|AM.qv (ax J) J<|AM.qv (ax J) J<|AM.qv (ax J) J<|AM.qv (bc J J) J<|AM.qv (ax J) J<|AM.qv (ax J) J<|AM.qv (ax J) J<|AM.qv (bc J J) J<|AM.qv (ax J) J<|AM.qv (ax J) J<|AM.qv (ax J) J<|AM.qv (bc J J) J<|AM.qv (ba J J J e1) J<|AM.nil<|AT.rd (Rs:=[(aR,gp l3)]) (fun _=>J) J (fun _=>J) (fun _=>J) (aZ (g:=ai.av) J J (.inl .p0) J e1 J) J<|AT.am 5 J J<|AM.qv (ax J) J<|AM.qv (ax J) J<|AM.qv (ax J) J<|AM.qv (bc J J) J<|AM.qv (ba J J J e2) J<|AM.nil<|AT.rd (Rs:=[(aR,gp l3)]) (fun _=>J) J (fun _=>J) (fun _=>J) (aZ (g:=ai.av) J J (.inl .p0) J e2 J) J<|AT.am 1 J J<|AM.qv (ba J J J e3) J<|AM.nil<|AT.xa (Ti:=[(aR,gp l3)]) (Pi:=[(aR,gp (l3.set (aL (ah+n4)).toNat v5))]) (fun _=>J) (fun _=>J) (fun _=>J) J J ?_ ?_
   ·exact bz (g:=ai.av) (uy:=v5) J J J J e3 J .p0 J<|ae.nil ⟨_,J⟩
   refine AT.rb (fun _=>J) fun β=>ae.ghost<|aj.eqs (s:=0) (cy:=.sl 6 aR 0 (l3.set (aL (ah+n4)).toNat v5).length) J (by simp)<|aj.here<|ae.ghost<|aj.eqs (s:=16) (cy:=.sl 6 aR 0 (l3.set (aL (ah+n4)).toNat v5).length) J (by simp)<|aj.here<|ae.ghost<|aj.eqs (s:=20) (cy:=.sl 6 aR 0 (l3.set (aL (ah+n4)).toNat v5).length) J (by simp)<|aj.here<|ae.ghost<|aj.eqs (s:=24) (cy:=.sl 6 aR 0 (l3.set (aL (ah+n4)).toNat v5).length) J (by simp)<|aj.here<|ae.ghost<|aj.eqs (s:=30) (cy:=.sl 6 aR 0 (l3.set (aL (ah+n4)).toNat v5).length) J (by simp)<|aj.here<|aK h fun v8 e4 h=>ae.qv (ba J J J e4) J<|bz (g:=ai.av) (uy:=v6) J J J J e4 J .p0 J<|ae.ghost<|aj.eqs (s:=0) (cy:=.sl 6 aR 0 ((l3.set (aL (ah+n4)).toNat v5).set (aL (ao+n4)).toNat v6).length) J (by rw [List.length_set])<|aj.here<|ae.ghost<|aj.eqs (s:=16) (cy:=.sl 6 aR 0 ((l3.set (aL (ah+n4)).toNat v5).set (aL (ao+n4)).toNat v6).length) J (by rw [List.length_set])<|aj.here<|ae.ghost<|aj.eqs (s:=20) (cy:=.sl 6 aR 0 ((l3.set (aL (ah+n4)).toNat v5).set (aL (ao+n4)).toNat v6).length) J (by rw [List.length_set])<|aj.here<|ae.ghost<|aj.eqs (s:=24) (cy:=.sl 6 aR 0 ((l3.set (aL (ah+n4)).toNat v5).set (aL (ao+n4)).toNat v6).length) J (by rw [List.length_set])<|aj.here<|ae.ghost<|aj.eqs (s:=30) (cy:=.sl 6 aR 0 ((l3.set (aL (ah+n4)).toNat v5).set (aL (ao+n4)).toNat v6).length) J (by rw [List.length_set])<|aj.here<|rN<|aa.cu<|tR<|rM J J<|ae.qv (bc J J) J<|rA J J<|rN<|aa.stop<|?_
   cases h
   exact k6 _ _ J<|aj.lq [0] J J J
  ·refine aa.exit J<|have h:=bT h fh;aa.nil<|?_
   cases h
   exact aj.here ⟨_,.nil,_,.cons .p0 .nil,⟨J,J⟩⟩
theorem qW [GI:bM] {aR:Bk} {ab:List ai} {ah:Int} {ao:Int} {aD:Int} {cG:ai→ai→Option Int} {bY:FuncId} [bF Tryz.prog bY] {cx:List AV} (gY:∀ {y0 y1:_} {u:Int},cG y0 y1=some u→Pu Tryz.prog bY (ai.av y0 :: ai.av y1 :: cx) (I u)) {r:(List ai)} (h:jk ab ah ao aD cG=some r):aT Tryz.prog 141 [.sl 6 aR 0 ab.length,I ah,I ao,I aD,.func (.func bY) cx] [(aR,gp ab)] (T0 ([(aR,gp r)]) (.oL [])):=by
 unfold jk at h
 refine aT.fM ?_
 refine aT.bJ Tryz.func141 J Tryz.ntmps141 Tryz.results141 J J ?_
 refine aS<|rM J J<|rM J J<|ae.qv (bK J J) J<|rA J J<|rN<|aS<|rM J J<|rM J J<|ae.qv (bK J J) J<|rA J J<|rN<|tS<|aa.block<|aa.cw (fun x:(List ai)×Int×Int=>fa ao cG x.1 x.2.1 x.2.2) (fun x aH=>aH=⟨58,[(0,.sl 6 aR 0 x.1.length),(2,I ao),(4,.func (.func bY) cx),(10,I x.2.1),(11,I x.2.2)],[(aR,gp x.1)]⟩) h ?_ ?_
 ·exact aj.lq [0] J J J
 ·intro x z1 aH J1 fe h k6 fh
  obtain ⟨l4,n5,n6⟩:=x
  obtain rfl:=fe
  replace h:fa ao cG l4 n5 n6=some z1:=h
  unfold fa at h
  refine tS<|aS<|rM J J<|rM J J<|ae.qv (jU J J) J<|rN<|cD h J (fun h=>?_) (fun h=>?_)
  ·refine tK<|aa.block<|aS<|rM J J<|rM J J<|ae.qv (fW J J) J<|rN<|aa.cut (fun aH=>∃ (l7:List ai) (n8:Int) (n9:Int),eZ l7 n8 n9=some z1∧aH=⟨58,[(0,.sl 6 aR 0 l7.length),(2,I ao),(4,.func (.func bY) cx),(10,I n8),(11,I n9)],[(aR,gp l7)]⟩) ?_ ?_
   ·refine cD h J (fun h=>?_) (fun h=>?_)
    ·exact aS<|rM J J<|rM J J<|rM J J<|ae.qv (bK J J) J<|rM J J<|rM J J<|rM J J<|aK h fun v10 e1 h=>bh J (gH gY (fU e1)) cR (.cons .p0 .nil) J J<|ae.ghost<|aj.eqs (s:=0) (cy:=.sl 6 aR 0 v10.length) J (congrArg (AV.sl 6 aR 0) (bP e1))<|aj.here<|ae.ghost<|aj.eqs (s:=24) (cy:=.sl 6 aR 0 v10.length) J (congrArg (AV.sl 6 aR 0) (bP e1))<|aj.here<|rN<|tR<|rM J J<|rM J J<|ae.qv (bK J J) J<|rA J J<|rN<|aa.stop<|aj.lq [0] ⟨v10,aL (n5 - n6),n6,h,J⟩ J J
    ·exact aS<|rM J J<|rM J J<|rM J J<|ae.qv (bK J J) J<|rM J J<|rM J J<|ae.qv (bc J J) J<|rM J J<|ae.qv (bK J J) J<|rM J J<|rM J J<|aK h fun v11 e2 h=>bh J (gH gY (fU e2)) cR (.cons .p0 .nil) J J<|ae.ghost<|aj.eqs (s:=0) (cy:=.sl 6 aR 0 v11.length) J (congrArg (AV.sl 6 aR 0) (bP e2))<|aj.here<|ae.ghost<|aj.eqs (s:=35) (cy:=.sl 6 aR 0 v11.length) J (congrArg (AV.sl 6 aR 0) (bP e2))<|aj.here<|rN<|tR<|rM J J<|rM J J<|ae.qv (bK J J) J<|rA J J<|rN<|aa.stop<|aj.lq [0] ⟨v11,n5,aL (n6 - n5),h,J⟩ J J
   ·rintro aH ⟨l7,n8,n9,h,rfl⟩
    unfold eZ at h
    refine aa.cu<|aa.stop<|?_
    cases h
    exact k6 _ _ J<|aj.lq [0] J J J
  ·refine aa.exit J<|have h:=bT h fh;?_
   unfold lO at h
   refine tR<|rM J J<|rM J J<|rM J J<|ae.qv (bK J J) J<|rM J J<|rM J J<|rM J J<|aK h fun v12 e3 h=>bh J (gH gY (fU e3)) cR (.cons .p0 .nil) J J<|ae.ghost<|aj.eqs (s:=0) (cy:=.sl 6 aR 0 v12.length) J (congrArg (AV.sl 6 aR 0) (bP e3))<|aj.here<|ae.ghost<|aj.eqs (s:=50) (cy:=.sl 6 aR 0 v12.length) J (congrArg (AV.sl 6 aR 0) (bP e3))<|aj.here<|rN<|aa.nil<|?_
   cases h
   exact aj.here ⟨_,.nil,_,.cons .p0 .nil,⟨J,J⟩⟩
theorem o5 [GI:bM] {aR:Bk} {self:(List ai)→Int→Int→Int→(ai→ai→Option Int)→Option (List ai)} (BT:∀ {aR:Bk} {ab:List ai} {ah:Int} {ao:Int} {aD:Int} {cG:ai→ai→Option Int} {bY:FuncId} [bF Tryz.prog bY] {cx:List AV} (gY:∀ {y0 y1:_} {u:Int},cG y0 y1=some u→Pu Tryz.prog bY (ai.av y0 :: ai.av y1 :: cx) (I u)) {r:(List ai)},self ab ah ao aD cG=some r→aT Tryz.prog 118 [.sl 6 aR 0 ab.length,I ah,I ao,I aD,.func (.func bY) cx] [(aR,gp ab)] (T0 ([(aR,gp r)]) (.oL []))) {ab:List ai} {ah:Int} {ao:Int} {aD:Int} {cG:ai→ai→Option Int} {bY:FuncId} [bF Tryz.prog bY] {cx:List AV} (gY:∀ {y0 y1:_} {u:Int},cG y0 y1=some u→Pu Tryz.prog bY (ai.av y0 :: ai.av y1 :: cx) (I u)) {r:(List ai)} (h:eB self ab ah ao aD cG=some r):aT Tryz.prog 118 [.sl 6 aR 0 ab.length,I ah,I ao,I aD,.func (.func bY) cx] [(aR,gp ab)] (T0 ([(aR,gp r)]) (.oL [])):=by
 unfold eB at h
 refine aT.fM ?_
 refine aT.bJ Tryz.func118 J Tryz.ntmps118 Tryz.results118 J J ?_
 refine tS<|aS<|rM J J<|rM J J<|ae.qv (bK J J) J<|ae.qv (cL J J) J<|rN<|cD h J (fun h=>?_) (fun h=>?_)
 ·refine aS<|rM J J<|rA J J<|rN<|aS<|rM J J<|rA J J<|rN<|tS<|aa.block<|aa.cw (fun x:Int×Int=>eo ab ah cG x.1 x.2) (fun x aH=>aH=⟨220,[(0,.sl 6 aR 0 ab.length),(1,I ah),(4,.func (.func bY) cx),(10,I x.1),(11,I x.2)],[(aR,gp ab)]⟩) h ?_ ?_
  ·exact aj.lq [0] J J J
  ·intro x z1 aH J1 fe h k6 fh
   obtain ⟨n3,n4⟩:=x
   obtain rfl:=fe
   replace h:eo ab ah cG n3 n4=some z1:=h
   unfold eo at h
   refine tS<|aS<|rM J J<|rM J J<|ae.qv (bE J J) J<|rN<|cD h J (fun h=>?_) (fun h=>?_)
   ·refine tK<|aa.block<|aS<|rM J J<|rM J J<|ae.qv (bc J J) J<|ae.qv (fl J) J<|ae.qv (z8 J J (by decide)) J<|ae.qv (fl J) J<|rA J J<|rN<|tS<|aa.bS (id:=5) (A:=[0,0,0,6,14,0,0,96,224,511,1023]) 11 mixed J (by kernel_rfl) (by kernel_rfl)<|AM.qv (ax J) J<|AM.qv (ax J) J<|AM.qv (ax J) J<|aK h fun v5 e1 h=>AM.qv (ba J J J e1) J<|AM.qv (aZ (g:=ai.av) J J (.inl .p0) J e1 J) J<|AM.qv (ax J) J<|AM.qv (ax J) J<|aK h fun v6 e2 h=>AM.qv (ba J J J e2) J<|AM.qv (aZ (g:=ai.av) J J (.inl .p0) J e2 J) J<|aK h fun v7 e3 h=>AM.tG J J (gY e3) cR J<|AM.qv (bE J J) J<|AM.nil<|rN<|aa.cut (fun aH=>∃ (n8:Int) (n9:Int),ej n8 n9=some z1∧aH=⟨220,[(0,.sl 6 aR 0 ab.length),(1,I ah),(4,.func (.func bY) cx),(10,I n8),(11,I n9)],[(aR,gp ab)]⟩) ?_ ?_
    ·refine cD h J (fun h=>?_) (fun h=>?_)
     ·exact tR<|rM J J<|ae.qv (bc J J) J<|rA J J<|rN<|aa.stop<|aj.lq [0] ⟨aL ((aL (cd .u64 (IntKind.u64.wrap (aL (n3+n4))) (1:Int)))+(1:Int)),n4,h,J⟩ J J
     ·exact tR<|rM J J<|rA J J<|rN<|aa.stop<|aj.lq [0] ⟨n3,aL (cd .u64 (IntKind.u64.wrap (aL (n3+n4))) (1:Int)),h,J⟩ J J
    ·rintro aH ⟨n8,n9,h,rfl⟩
     unfold ej at h
     refine aa.cu<|aa.stop<|?_
     cases h
     exact k6 _ _ J<|aj.lq [0] J J J
   ·refine aa.exit J<|have h:=bT h fh;tS<|aS<|rM J J<|rA J J<|rN<|aa.block<|aa.cw (fun x:(List ai)×Int=>ek n3 x.1 x.2) (fun x aH=>aH=⟨220,[(0,.sl 6 aR 0 x.1.length),(10,I n3),(13,I x.2)],[(aR,gp x.1)]⟩) h ?_ ?_
    ·exact aj.lq [0] J J J
    ·intro x z2 aH J2 fe h yD vr
     obtain ⟨jT,n13⟩:=x
     obtain rfl:=fe
     replace h:ek n3 jT n13=some z2:=h
     unfold ek at h
     refine tS<|aS<|rM J J<|rM J J<|ae.qv (bK J J) J<|ae.qv (bE J J) J<|rN<|cD h J (fun h=>?_) (fun h=>?_)
     ·refine tK<|tS<|aa.block<|aK h fun gR e4 h=>aK h fun ll e5 h=>aK h fun xo e6 h=>aa.fT (id:=11) (A:=[0,0,0,0,8,0,0,64,224,480,0,0,3072,7168,16355,32739,65535,131071]) (H0:=[(aR,gp jT)]) (HH:=fun β=>[(aR,gp (jT.set n13.toNat gR))]) 16 mixed J (by kernel_rfl) (by kernel_rfl) [⟨none,some 15,[9,13],fun _=>(aR,gp jT),none,[]⟩,⟨some 15,none,[],fun _=>(aR,gp (jT.set n13.toNat gR)),none,[]⟩] [] J (by kernel_rfl) J (.cons .p0 .nil) (fun _=>J)<|AT.am 9 J J<|AM.qv (ax J) J<|AM.qv (ax J) J<|AM.qv (ax J) J<|AM.qv (ax J) J<|AM.qv (bc J J) J<|AM.qv (ax J) J<|AM.qv (ax J) J<|AM.qv (bc J J) J<|AM.qv (ba J J J e4) J<|AM.nil<|AT.rd (Rs:=[(aR,gp jT)]) (fun _=>J) J (fun _=>J) (fun _=>J) (aZ (g:=ai.av) J J (.inl .p0) J e4 J) J<|AT.am 3 J J<|AM.qv (ax J) J<|AM.qv (ax J) J<|AM.qv (ba J J J e5) J<|AM.nil<|AT.rd (Rs:=[(aR,gp jT)]) (fun _=>J) J (fun _=>J) (fun _=>J) (aZ (g:=ai.av) J J (.inl .p0) J e5 J) J<|AT.am 1 J J<|AM.qv (ba J J J e6) J<|AM.nil<|AT.xa (Ti:=[(aR,gp jT)]) (Pi:=[(aR,gp (jT.set n13.toNat gR))]) (fun _=>J) (fun _=>J) (fun _=>J) J J ?_ ?_
      ·exact bz (g:=ai.av) (uy:=gR) J J J J e6 J .p0 J<|ae.nil ⟨_,J⟩
      refine AT.rb (fun _=>J) fun β=>ae.ghost<|aj.eqs (s:=0) (cy:=.sl 6 aR 0 (jT.set n13.toNat gR).length) J (by simp)<|aj.here<|ae.ghost<|aj.eqs (s:=61) (cy:=.sl 6 aR 0 (jT.set n13.toNat gR).length) J (by simp)<|aj.here<|ae.ghost<|aj.eqs (s:=63) (cy:=.sl 6 aR 0 (jT.set n13.toNat gR).length) J (by simp)<|aj.here<|ae.ghost<|aj.eqs (s:=66) (cy:=.sl 6 aR 0 (jT.set n13.toNat gR).length) J (by simp)<|aj.here<|ae.ghost<|aj.eqs (s:=71) (cy:=.sl 6 aR 0 (jT.set n13.toNat gR).length) J (by simp)<|aj.here<|aK h fun v17 e7 h=>ae.qv (ba J J J e7) J<|bz (g:=ai.av) (uy:=ll) J J J J e7 J .p0 J<|ae.ghost<|aj.eqs (s:=0) (cy:=.sl 6 aR 0 ((jT.set n13.toNat gR).set (aL (n13+(1:Int))).toNat ll).length) J (by rw [List.length_set])<|aj.here<|ae.ghost<|aj.eqs (s:=61) (cy:=.sl 6 aR 0 ((jT.set n13.toNat gR).set (aL (n13+(1:Int))).toNat ll).length) J (by rw [List.length_set])<|aj.here<|ae.ghost<|aj.eqs (s:=63) (cy:=.sl 6 aR 0 ((jT.set n13.toNat gR).set (aL (n13+(1:Int))).toNat ll).length) J (by rw [List.length_set])<|aj.here<|ae.ghost<|aj.eqs (s:=66) (cy:=.sl 6 aR 0 ((jT.set n13.toNat gR).set (aL (n13+(1:Int))).toNat ll).length) J (by rw [List.length_set])<|aj.here<|ae.ghost<|aj.eqs (s:=71) (cy:=.sl 6 aR 0 ((jT.set n13.toNat gR).set (aL (n13+(1:Int))).toNat ll).length) J (by rw [List.length_set])<|aj.here<|rN<|aa.cu<|tR<|rM J J<|ae.qv (bc J J) J<|rA J J<|rN<|aa.stop<|?_
      cases h
      exact yD _ _ J<|aj.lq [0] J J J
     ·refine aa.exit J<|have h:=bT h vr;aa.ret<|?_
      cases h
      exact aj.here ⟨_,.nil,_,.cons .p0 .nil,⟨J,J⟩⟩
 ·refine tK<|tS<|aS<|rM J J<|rM J J<|ae.qv (bK J J) J<|ae.qv (cL J J) J<|rN<|cD h J (fun h=>?_) (fun h=>?_)
  ·refine aS<|rM J J<|rA J J<|rN<|aS<|rM J J<|rA J J<|rN<|tS<|aa.block<|aa.cw (fun x:Int×Int=>et ab ao cG x.1 x.2) (fun x aH=>aH=⟨220,[(0,.sl 6 aR 0 ab.length),(2,I ao),(4,.func (.func bY) cx),(14,I x.1),(15,I x.2)],[(aR,gp ab)]⟩) h ?_ ?_
   ·exact aj.lq [0] J J J
   ·intro x z3 aH J3 fe h Na L1
    obtain ⟨n20,n21⟩:=x
    obtain rfl:=fe
    replace h:et ab ao cG n20 n21=some z3:=h
    unfold et at h
    refine tS<|aS<|rM J J<|rM J J<|ae.qv (bE J J) J<|rN<|cD h J (fun h=>?_) (fun h=>?_)
    ·refine tK<|aa.block<|aS<|rM J J<|rM J J<|ae.qv (bc J J) J<|ae.qv (fl J) J<|ae.qv (z8 J J (by decide)) J<|ae.qv (fl J) J<|rA J J<|rN<|tS<|aa.bS (id:=17) (A:=[0,0,0,6,14,0,0,96,224,511,1023,2047]) 12 mixed J (by kernel_rfl) (by kernel_rfl)<|AM.qv (ax J) J<|AM.qv (ax J) J<|AM.qv (ax J) J<|aK h fun v22 e8 h=>AM.qv (ba J J J e8) J<|AM.qv (aZ (g:=ai.av) J J (.inl .p0) J e8 J) J<|AM.qv (ax J) J<|AM.qv (ax J) J<|aK h fun v23 e9 h=>AM.qv (ba J J J e9) J<|AM.qv (aZ (g:=ai.av) J J (.inl .p0) J e9 J) J<|aK h fun v24 xd h=>AM.tG J J (gY xd) cR J<|AM.qv (bE J J) J<|AM.qv (lY J) J<|AM.nil<|rN<|aa.cut (fun aH=>∃ (n25:Int) (n26:Int),ep n25 n26=some z3∧aH=⟨220,[(0,.sl 6 aR 0 ab.length),(2,I ao),(4,.func (.func bY) cx),(14,I n25),(15,I n26)],[(aR,gp ab)]⟩) ?_ ?_
     ·refine cD h J (fun h=>?_) (fun h=>?_)
      ·exact tR<|rM J J<|ae.qv (bc J J) J<|rA J J<|rN<|aa.stop<|aj.lq [0] ⟨aL ((aL (cd .u64 (IntKind.u64.wrap (aL (n20+n21))) (1:Int)))+(1:Int)),n21,h,J⟩ J J
      ·exact tR<|rM J J<|rA J J<|rN<|aa.stop<|aj.lq [0] ⟨n20,aL (cd .u64 (IntKind.u64.wrap (aL (n20+n21))) (1:Int)),h,J⟩ J J
     ·rintro aH ⟨n25,n26,h,rfl⟩
      unfold ep at h
      refine aa.cu<|aa.stop<|?_
      cases h
      exact Na _ _ J<|aj.lq [0] J J J
    ·refine aa.exit J<|have h:=bT h L1;tS<|aS<|rM J J<|rA J J<|rN<|aa.block<|aa.cw (fun x:(List ai)×Int=>er n20 x.1 x.2) (fun x aH=>aH=⟨220,[(0,.sl 6 aR 0 x.1.length),(14,I n20),(17,I x.2)],[(aR,gp x.1)]⟩) h ?_ ?_
     ·exact aj.lq [0] J J J
     ·intro x z4 aH J4 fe h VD VE
      obtain ⟨nW,n30⟩:=x
      obtain rfl:=fe
      replace h:er n20 nW n30=some z4:=h
      unfold er at h
      refine tS<|aS<|rM J J<|rM J J<|ae.qv (fW J J) J<|rN<|cD h J (fun h=>?_) (fun h=>?_)
      ·refine tK<|tS<|aa.block<|aK h fun v31 Cs h=>aK h fun v32 zj h=>aK h fun v33 IV h=>aa.fT (id:=23) (A:=[0,0,0,0,8,0,0,64,224,480,0,0,3072,7168,16355,32739,65535,131071]) (H0:=[(aR,gp nW)]) (HH:=fun β=>[(aR,gp (nW.set n30.toNat v31))]) 16 mixed J (by kernel_rfl) (by kernel_rfl) [⟨none,some 15,[9,13],fun _=>(aR,gp nW),none,[]⟩,⟨some 15,none,[],fun _=>(aR,gp (nW.set n30.toNat v31)),none,[]⟩] [] J (by kernel_rfl) J (.cons .p0 .nil) (fun _=>J)<|AT.am 9 J J<|AM.qv (ax J) J<|AM.qv (ax J) J<|AM.qv (ax J) J<|AM.qv (ax J) J<|AM.qv (bK J J) J<|AM.qv (ax J) J<|AM.qv (ax J) J<|AM.qv (bK J J) J<|AM.qv (ba J J J Cs) J<|AM.nil<|AT.rd (Rs:=[(aR,gp nW)]) (fun _=>J) J (fun _=>J) (fun _=>J) (aZ (g:=ai.av) J J (.inl .p0) J Cs J) J<|AT.am 3 J J<|AM.qv (ax J) J<|AM.qv (ax J) J<|AM.qv (ba J J J zj) J<|AM.nil<|AT.rd (Rs:=[(aR,gp nW)]) (fun _=>J) J (fun _=>J) (fun _=>J) (aZ (g:=ai.av) J J (.inl .p0) J zj J) J<|AT.am 1 J J<|AM.qv (ba J J J IV) J<|AM.nil<|AT.xa (Ti:=[(aR,gp nW)]) (Pi:=[(aR,gp (nW.set n30.toNat v31))]) (fun _=>J) (fun _=>J) (fun _=>J) J J ?_ ?_
       ·exact bz (g:=ai.av) (uy:=v31) J J J J IV J .p0 J<|ae.nil ⟨_,J⟩
       refine AT.rb (fun _=>J) fun β=>ae.ghost<|aj.eqs (s:=0) (cy:=.sl 6 aR 0 (nW.set n30.toNat v31).length) J (by simp)<|aj.here<|ae.ghost<|aj.eqs (s:=113) (cy:=.sl 6 aR 0 (nW.set n30.toNat v31).length) J (by simp)<|aj.here<|ae.ghost<|aj.eqs (s:=115) (cy:=.sl 6 aR 0 (nW.set n30.toNat v31).length) J (by simp)<|aj.here<|ae.ghost<|aj.eqs (s:=118) (cy:=.sl 6 aR 0 (nW.set n30.toNat v31).length) J (by simp)<|aj.here<|ae.ghost<|aj.eqs (s:=123) (cy:=.sl 6 aR 0 (nW.set n30.toNat v31).length) J (by simp)<|aj.here<|aK h fun EO KK h=>ae.qv (ba J J J KK) J<|bz (g:=ai.av) (uy:=v32) J J J J KK J .p0 J<|ae.ghost<|aj.eqs (s:=0) (cy:=.sl 6 aR 0 ((nW.set n30.toNat v31).set (aL (n30 - (1:Int))).toNat v32).length) J (by rw [List.length_set])<|aj.here<|ae.ghost<|aj.eqs (s:=113) (cy:=.sl 6 aR 0 ((nW.set n30.toNat v31).set (aL (n30 - (1:Int))).toNat v32).length) J (by rw [List.length_set])<|aj.here<|ae.ghost<|aj.eqs (s:=115) (cy:=.sl 6 aR 0 ((nW.set n30.toNat v31).set (aL (n30 - (1:Int))).toNat v32).length) J (by rw [List.length_set])<|aj.here<|ae.ghost<|aj.eqs (s:=118) (cy:=.sl 6 aR 0 ((nW.set n30.toNat v31).set (aL (n30 - (1:Int))).toNat v32).length) J (by rw [List.length_set])<|aj.here<|ae.ghost<|aj.eqs (s:=123) (cy:=.sl 6 aR 0 ((nW.set n30.toNat v31).set (aL (n30 - (1:Int))).toNat v32).length) J (by rw [List.length_set])<|aj.here<|rN<|aa.cu<|tR<|rM J J<|ae.qv (bK J J) J<|rA J J<|rN<|aa.stop<|?_
       cases h
       exact VD _ _ J<|aj.lq [0] J J J
      ·refine aa.exit J<|have h:=bT h VE;aa.ret<|?_
       cases h
       exact aj.here ⟨_,.nil,_,.cons .p0 .nil,⟨J,J⟩⟩
  ·refine tK<|aS<|rM J J<|rM J J<|ae.qv (bc J J) J<|ae.qv (fl J) J<|ae.qv (z8 J J (by decide)) J<|ae.qv (fl J) J<|rA J J<|rN<|aS<|rM J J<|rM J J<|ae.qv (bc J J) J<|rA J J<|rN<|aS<|rA J J<|rA J J<|rN<|tS<|aS<|rM J J<|rM J J<|ae.qv (fW J J) J<|rN<|aa.cut (fun aH=>∃ (n35:Int) (n36:Int),eA self ab ah ao aD cG n35 n36=some r∧aH=⟨220,[(0,.sl 6 aR 0 ab.length),(1,I ah),(2,I ao),(3,I aD),(4,.func (.func bY) cx),(18,I (aL (cd .u64 (IntKind.u64.wrap (aL (ah+aD))) (1:Int)))),(19,I (aL ((aL (cd .u64 (IntKind.u64.wrap (aL (ah+aD))) (1:Int)))+ao))),(20,I n35),(21,I n36)],[(aR,gp ab)]⟩) ?_ ?_
   ·refine cD h J (fun h=>?_) (fun h=>?_)
    ·exact aS<|rM J J<|rM J J<|ae.qv (bK J J) J<|rA J J<|rN<|tR<|rM J J<|rA J J<|rN<|aa.stop<|aj.lq [0] ⟨aL ((aL ((aL (cd .u64 (IntKind.u64.wrap (aL (ah+aD))) (1:Int)))+ao)) - aD),aL (cd .u64 (IntKind.u64.wrap (aL (ah+aD))) (1:Int)),h,J⟩ J J
    ·exact aS<|rM J J<|rA J J<|rN<|tR<|rM J J<|rA J J<|rN<|aa.stop<|aj.lq [0] ⟨ah,ao,h,J⟩ J J
   ·rintro aH ⟨n35,n36,h,rfl⟩
    unfold eA at h
    refine aS<|rM J J<|ae.qv (bK J J) J<|rA J J<|rN<|tS<|aa.block<|aa.cw (fun x:Int×Int=>ez self ab ah ao aD cG x.1 x.2) (fun x aH=>aH=⟨220,[(0,.sl 6 aR 0 ab.length),(1,I ah),(2,I ao),(3,I aD),(4,.func (.func bY) cx),(18,I (aL (cd .u64 (IntKind.u64.wrap (aL (ah+aD))) (1:Int)))),(19,I (aL ((aL (cd .u64 (IntKind.u64.wrap (aL (ah+aD))) (1:Int)))+ao))),(20,I x.1),(21,I x.2),(22,I (aL ((aL ((aL (cd .u64 (IntKind.u64.wrap (aL (ah+aD))) (1:Int)))+ao)) - (1:Int))))],[(aR,gp ab)]⟩) h ?_ ?_
    ·exact aj.lq [0] J J J
    ·intro x z5 aH J5 fe h VF VG
     obtain ⟨n39,n40⟩:=x
     obtain rfl:=fe
     replace h:ez self ab ah ao aD cG n39 n40=some z5:=h
     unfold ez at h
     refine tS<|aS<|rM J J<|rM J J<|ae.qv (bE J J) J<|rN<|cD h J (fun h=>?_) (fun h=>?_)
     ·refine tK<|aa.block<|aS<|rM J J<|rM J J<|ae.qv (bc J J) J<|ae.qv (fl J) J<|ae.qv (z8 J J (by decide)) J<|ae.qv (fl J) J<|rA J J<|rN<|tS<|aa.bS (id:=35) (A:=[0,0,0,0,12,30,62,0,0,384,896,2047,4095,8191]) 14 mixed J (by kernel_rfl) (by kernel_rfl)<|AM.qv (ax J) J<|AM.qv (ax J) J<|AM.qv (ax J) J<|AM.qv (ax J) J<|AM.qv (bK J J) J<|aK h fun v41 Dr h=>AM.qv (ba J J J Dr) J<|AM.qv (aZ (g:=ai.av) J J (.inl .p0) J Dr J) J<|AM.qv (ax J) J<|AM.qv (ax J) J<|aK h fun vq Nb h=>AM.qv (ba J J J Nb) J<|AM.qv (aZ (g:=ai.av) J J (.inl .p0) J Nb J) J<|aK h fun wR Nc h=>AM.tG J J (gY Nc) cR J<|AM.qv (bE J J) J<|AM.qv (lY J) J<|AM.nil<|rN<|aa.cut (fun aH=>∃ (n44:Int) (n45:Int),eu n44 n45=some z5∧aH=⟨220,[(0,.sl 6 aR 0 ab.length),(1,I ah),(2,I ao),(3,I aD),(4,.func (.func bY) cx),(18,I (aL (cd .u64 (IntKind.u64.wrap (aL (ah+aD))) (1:Int)))),(19,I (aL ((aL (cd .u64 (IntKind.u64.wrap (aL (ah+aD))) (1:Int)))+ao))),(20,I n44),(21,I n45),(22,I (aL ((aL ((aL (cd .u64 (IntKind.u64.wrap (aL (ah+aD))) (1:Int)))+ao)) - (1:Int))))],[(aR,gp ab)]⟩) ?_ ?_
      ·refine cD h J (fun h=>?_) (fun h=>?_)
       ·exact tR<|rM J J<|ae.qv (bc J J) J<|rA J J<|rN<|aa.stop<|aj.lq [0] ⟨aL ((aL (cd .u64 (IntKind.u64.wrap (aL (n39+n40))) (1:Int)))+(1:Int)),n40,h,J⟩ J J
       ·exact tR<|rM J J<|rA J J<|rN<|aa.stop<|aj.lq [0] ⟨n39,aL (cd .u64 (IntKind.u64.wrap (aL (n39+n40))) (1:Int)),h,J⟩ J J
      ·rintro aH ⟨n44,n45,h,rfl⟩
       unfold eu at h
       refine aa.cu<|aa.stop<|?_
       cases h
       exact VF _ _ J<|aj.lq [0] J J J
     ·refine aa.exit J<|have h:=bT h VG;aS<|rM J J<|rM J J<|ae.qv (bK J J) J<|rA J J<|rN<|tS<|tS<|aa.cut (fun aH=>∃ (IT:Bool),gC self ab ah ao aD cG n39 IT=some r∧aH=⟨220,[(0,.sl 6 aR 0 ab.length),(1,I ah),(2,I ao),(3,I aD),(4,.func (.func bY) cx),(18,I (aL (cd .u64 (IntKind.u64.wrap (aL (ah+aD))) (1:Int)))),(20,I n39),(24,I (aL ((aL ((aL (cd .u64 (IntKind.u64.wrap (aL (ah+aD))) (1:Int)))+ao)) - n39))),(185,.bool IT)],[(aR,gp ab)]⟩) ?_ ?_
      ·refine tR<|rM J J<|rM J J<|ae.qv (bE J J) J<|rM J J<|ae.bH J J J (fun hc=>?_) (fun hc=>?_)
       ·rw [iD hc] at h
        exact rM J J<|rY J J J<|rM J J<|rY J J J<|ae.qv (bE J J) J<|rT J J J<|rN<|aa.stop<|aj.lq [0] ⟨decide (ao < (aL ((aL ((aL (cd .u64 (IntKind.u64.wrap (aL (ah+aD))) (1:Int)))+ao)) - n39))),h,J⟩ J J
       ·rw [iE hc] at h
        exact rG J J J J<|rG J J J J<|rE J J J<|rN<|aa.stop<|aj.lq [0] ⟨false,h,J⟩ J J
      ·rintro aH ⟨IT,h,rfl⟩
       unfold gC at h
       refine aa.cut (fun aH=>∃ (tH:List ai),ey self ah ao aD cG n39 tH=some r∧aH=⟨220,[(0,.sl 6 aR 0 tH.length),(1,I ah),(3,I aD),(4,.func (.func bY) cx),(18,I (aL (cd .u64 (IntKind.u64.wrap (aL (ah+aD))) (1:Int)))),(20,I n39),(24,I (aL ((aL ((aL (cd .u64 (IntKind.u64.wrap (aL (ah+aD))) (1:Int)))+ao)) - n39)))],[(aR,gp tH)]⟩) ?_ ?_
       ·refine cB h J (fun h=>?_) (fun h=>?_)
        ·exact tR<|rM J J<|rM J J<|rM J J<|rM J J<|rM J J<|aK h fun bQ IW h=>bh J (qW gY (fU IW)) cR (.cons .p0 .nil) J J<|ae.ghost<|aj.eqs (s:=0) (cy:=.sl 6 aR 0 bQ.length) J (congrArg (AV.sl 6 aR 0) (bP IW))<|aj.here<|ae.ghost<|aj.eqs (s:=186) (cy:=.sl 6 aR 0 bQ.length) J (congrArg (AV.sl 6 aR 0) (bP IW))<|aj.here<|rN<|aa.stop<|aj.lq [0] ⟨bQ,h,J⟩ J J
        ·exact tK<|aa.stop<|aj.lq [0] ⟨ab,h,J⟩ J J
       ·rintro aH ⟨tH,h,rfl⟩
        unfold ey at h
        refine tS<|tS<|aa.cut (fun aH=>∃ (c49:Bool),gB self ah ao aD cG n39 tH c49=some r∧aH=⟨220,[(0,.sl 6 aR 0 tH.length),(1,I ah),(3,I aD),(4,.func (.func bY) cx),(18,I (aL (cd .u64 (IntKind.u64.wrap (aL (ah+aD))) (1:Int)))),(20,I n39),(24,I (aL ((aL ((aL (cd .u64 (IntKind.u64.wrap (aL (ah+aD))) (1:Int)))+ao)) - n39))),(199,.bool c49)],[(aR,gp tH)]⟩) ?_ ?_
        ·refine tR<|rM J J<|rM J J<|ae.qv (bE J J) J<|rM J J<|ae.bH J J J (fun hc=>?_) (fun hc=>?_)
         ·rw [iD hc] at h
          exact rM J J<|rY J J J<|rM J J<|rY J J J<|ae.qv (bE J J) J<|rT J J J<|rN<|aa.stop<|aj.lq [0] ⟨decide (n39 < (aL (cd .u64 (IntKind.u64.wrap (aL (ah+aD))) (1:Int)))),h,J⟩ J J
         ·rw [iE hc] at h
          exact rG J J J J<|rG J J J J<|rE J J J<|rN<|aa.stop<|aj.lq [0] ⟨false,h,J⟩ J J
        ·rintro aH ⟨c49,h,rfl⟩
         unfold gB at h
         refine aa.cut (fun aH=>∃ (vT:List ai),ew self ah ao aD cG n39 vT=some r∧aH=⟨220,[(0,.sl 6 aR 0 vT.length),(3,I aD),(4,.func (.func bY) cx),(18,I (aL (cd .u64 (IntKind.u64.wrap (aL (ah+aD))) (1:Int)))),(24,I (aL ((aL ((aL (cd .u64 (IntKind.u64.wrap (aL (ah+aD))) (1:Int)))+ao)) - n39)))],[(aR,gp vT)]⟩) ?_ ?_
         ·refine cB h J (fun h=>?_) (fun h=>?_)
          ·exact tR<|rM J J<|rM J J<|rM J J<|rM J J<|rM J J<|aK h fun v51 IX h=>bh J (BT gY (fU IX)) cR (.cons .p0 .nil) J J<|ae.ghost<|aj.eqs (s:=0) (cy:=.sl 6 aR 0 v51.length) J (congrArg (AV.sl 6 aR 0) (bP IX))<|aj.here<|ae.ghost<|aj.eqs (s:=200) (cy:=.sl 6 aR 0 v51.length) J (congrArg (AV.sl 6 aR 0) (bP IX))<|aj.here<|rN<|aa.stop<|aj.lq [0] ⟨v51,h,J⟩ J J
          ·exact tK<|aa.stop<|aj.lq [0] ⟨tH,h,J⟩ J J
         ·rintro aH ⟨vT,h,rfl⟩
          unfold ew at h
          refine tS<|aa.cut (fun aH=>∃ (IS:Bool),gA self ah ao aD cG n39 vT IS=some r∧aH=⟨220,[(0,.sl 6 aR 0 vT.length),(3,I aD),(4,.func (.func bY) cx),(18,I (aL (cd .u64 (IntKind.u64.wrap (aL (ah+aD))) (1:Int)))),(24,I (aL ((aL ((aL (cd .u64 (IntKind.u64.wrap (aL (ah+aD))) (1:Int)))+ao)) - n39))),(213,.bool IS)],[(aR,gp vT)]⟩) ?_ ?_
          ·refine tR<|rM J J<|rM J J<|ae.qv (bE J J) J<|rM J J<|ae.bH J J J (fun hc=>?_) (fun hc=>?_)
           ·rw [iD hc] at h
            exact rM J J<|rY J J J<|rM J J<|rY J J J<|ae.qv (bE J J) J<|rT J J J<|rN<|aa.stop<|aj.lq [0] ⟨decide ((aL ((aL ((aL (cd .u64 (IntKind.u64.wrap (aL (ah+aD))) (1:Int)))+ao)) - n39)) < aD),h,J⟩ J J
           ·rw [iE hc] at h
            exact rG J J J J<|rG J J J J<|rE J J J<|rN<|aa.stop<|aj.lq [0] ⟨false,h,J⟩ J J
          ·rintro aH ⟨IS,h,rfl⟩
           unfold gA at h
           refine aa.cut (fun aH=>∃ (BR:List ai),dE BR=some r∧aH=⟨220,[],[(aR,gp BR)]⟩) ?_ ?_
           ·refine cB h J (fun h=>?_) (fun h=>?_)
            ·exact tR<|rM J J<|rM J J<|rM J J<|rM J J<|rM J J<|aK h fun v54 Nd h=>bh J (BT gY (fU Nd)) cR (.cons .p0 .nil) J J<|ae.ghost<|aj.eqs (s:=0) (cy:=.sl 6 aR 0 v54.length) J (congrArg (AV.sl 6 aR 0) (bP Nd))<|aj.here<|ae.ghost<|aj.eqs (s:=214) (cy:=.sl 6 aR 0 v54.length) J (congrArg (AV.sl 6 aR 0) (bP Nd))<|aj.here<|rN<|aa.stop<|aj.lq [0] ⟨v54,h,J⟩ J J
            ·exact tK<|aa.stop<|aj.lq [0] ⟨vT,h,J⟩ J J
           ·rintro aH ⟨BR,h,rfl⟩
            unfold dE at h
            refine aa.nil<|?_
            cases h
            exact aj.here ⟨_,.nil,_,.cons .p0 .nil,⟨J,J⟩⟩
theorem ph [GI:bM]:∀ (k:Nat) {aR:Bk} {ab:List ai} {ah:Int} {ao:Int} {aD:Int} {cG:ai→ai→Option Int} {bY:FuncId} [bF Tryz.prog bY] {cx:List AV} (gY:∀ {y0 y1:_} {u:Int},cG y0 y1=some u→Pu Tryz.prog bY (ai.av y0 :: ai.av y1 :: cx) (I u)) {r:(List ai)},cZ k ab ah ao aD cG=some r→aT Tryz.prog 118 [.sl 6 aR 0 ab.length,I ah,I ao,I aD,.func (.func bY) cx] [(aR,gp ab)] (T0 ([(aR,gp r)]) (.oL [])):=by
 intro k
 induction k with
 | zero=>intro aR ab ah ao aD cG bY _ cx gY r h;cases h
 | succ k ih=>intro aR ab ah ao aD cG bY _ cx gY r h;exact o5 ih gY h
theorem lh [GI:bM] {aR:Bk} {ab:List ai} {ah:Int} {ao:Int} {aD:Int} {cG:ai→ai→Option Int} {bY:FuncId} [bF Tryz.prog bY] {cx:List AV} (gY:∀ {y0 y1:_} {u:Int},cG y0 y1=some u→Pu Tryz.prog bY (ai.av y0 :: ai.av y1 :: cx) (I u)) {r:(List ai)} (h:dv ab ah ao aD cG=some r):aT Tryz.prog 118 [.sl 6 aR 0 ab.length,I ah,I ao,I aD,.func (.func bY) cx] [(aR,gp ab)] (T0 ([(aR,gp r)]) (.oL [])):=ph depth gY h
theorem qX [GI:bM] {aR:Bk} {ab:List ai} {ah:Int} {ml:ai→ai→Option Int} {sF:FuncId} [bF Tryz.prog sF] {ui:List AV} (yE:∀ {y0 y1:_} {u:Int},ml y0 y1=some u→Pu Tryz.prog sF (ai.av y0 :: ai.av y1 :: ui) (I u)) {r:(List ai)} (h:gl ab ah ml=some r):aT Tryz.prog 88 [.sl 6 aR 0 ab.length,I ah,.func (.func sF) ui] [(aR,gp ab)] (T0 ([(aR,gp r)]) (.oL [])):=by
 unfold gl at h
 refine aT.fM ?_
 refine aT.bJ Tryz.func88 J Tryz.ntmps88 Tryz.results88 J J ?_
 refine aS<|rA J J<|rN<|aS<|rM J J<|rA J J<|rA J J<|rN<|tS<|aa.block<|aa.cw (fun x:(List ai)×Int×Int=>cF ah ml x.1 x.2.1 x.2.2) (fun x aH=>aH=⟨63,[(0,.sl 6 aR 0 x.1.length),(1,I ah),(2,.func (.func sF) ui),(6,I (20:Int)),(7,I x.2.1),(8,I x.2.2)],[(aR,gp x.1)]⟩) h ?_ ?_
 ·exact aj.lq [0] J J J
 ·intro x z1 aH J1 fe h k6 fh
  obtain ⟨l4,n5,n6⟩:=x
  obtain rfl:=fe
  replace h:cF ah ml l4 n5 n6=some z1:=h
  unfold cF at h
  refine tS<|aS<|rM J J<|rM J J<|ae.qv (ot J J) J<|rN<|cD h J (fun h=>?_) (fun h=>?_)
  ·refine tK<|aa.block<|aS<|rM J J<|rM J J<|rM J J<|rM J J<|aK h fun v7 e1 h=>bh J (jg yE (fU e1)) cR (.cons .p0 .nil) J J<|ae.ghost<|aj.eqs (s:=0) (cy:=.sl 6 aR 0 v7.length) J (congrArg (AV.sl 6 aR 0) (bP e1))<|aj.here<|ae.ghost<|aj.eqs (s:=14) (cy:=.sl 6 aR 0 v7.length) J (congrArg (AV.sl 6 aR 0) (bP e1))<|aj.here<|rN<|aS<|rM J J<|rA J J<|rN<|tR<|rM J J<|rM J J<|ae.qv (bc J J) J<|rA J J<|rN<|aa.cu<|aa.stop<|?_
   cases h
   exact k6 _ _ J<|aj.lq [0] J J J
  ·refine aa.exit J<|have h:=bT h fh;?_
   unfold iv at h
   refine aS<|rM J J<|rM J J<|rM J J<|rM J J<|aK h fun v8 e2 h=>bh J (jg yE (fU e2)) cR (.cons .p0 .nil) J J<|ae.ghost<|aj.eqs (s:=0) (cy:=.sl 6 aR 0 v8.length) J (congrArg (AV.sl 6 aR 0) (bP e2))<|aj.here<|ae.ghost<|aj.eqs (s:=23) (cy:=.sl 6 aR 0 v8.length) J (congrArg (AV.sl 6 aR 0) (bP e2))<|aj.here<|rN<|aa.block<|aa.cw (fun x:(List ai)×Int=>cE ah ml x.1 x.2) (fun x aH=>aH=⟨63,[(0,.sl 6 aR 0 x.1.length),(1,I ah),(2,.func (.func sF) ui),(6,I x.2)],[(aR,gp x.1)]⟩) h ?_ ?_
   ·exact aj.lq [0] J J J
   ·intro x z2 aH J2 fe h yD vr
    obtain ⟨dN,n12⟩:=x
    obtain rfl:=fe
    replace h:cE ah ml dN n12=some z2:=h
    unfold cE at h
    refine tS<|aS<|rM J J<|rM J J<|ae.qv (bE J J) J<|rN<|cD h J (fun h=>?_) (fun h=>?_)
    ·refine tK<|aa.block<|aS<|rM J J<|ae.qv (sj J J) J<|rA J J<|rA J J<|rN<|tS<|aa.block<|aa.cw (fun x:(List ai)×Int×Int=>cC ah ml n12 x.1 x.2.1 x.2.2) (fun x aH=>aH=⟨63,[(0,.sl 6 aR 0 x.1.length),(1,I ah),(2,.func (.func sF) ui),(6,I n12),(7,I x.2.1),(8,I x.2.2)],[(aR,gp x.1)]⟩) h ?_ ?_
     ·exact aj.lq [0] J J J
     ·intro x z3 aH J3 fe h Na L1
      obtain ⟨nX,n17,n18⟩:=x
      obtain rfl:=fe
      replace h:cC ah ml n12 nX n17 n18=some z3:=h
      unfold cC at h
      refine tS<|aS<|rM J J<|rM J J<|ae.qv (ot J J) J<|rN<|cD h J (fun h=>?_) (fun h=>?_)
      ·refine tK<|aa.block<|aS<|rM J J<|rM J J<|rM J J<|rM J J<|ae.qv (bc J J) J<|rM J J<|rM J J<|aK h fun vl e3 h=>bh J (lh yE (fU e3)) cR (.cons .p0 .nil) J J<|ae.ghost<|aj.eqs (s:=0) (cy:=.sl 6 aR 0 vl.length) J (congrArg (AV.sl 6 aR 0) (bP e3))<|aj.here<|ae.ghost<|aj.eqs (s:=36) (cy:=.sl 6 aR 0 vl.length) J (congrArg (AV.sl 6 aR 0) (bP e3))<|aj.here<|rN<|aS<|rM J J<|rA J J<|rN<|tR<|rM J J<|rM J J<|ae.qv (sj J J) J<|ae.qv (bc J J) J<|rA J J<|rN<|aa.cu<|aa.stop<|?_
       cases h
       exact Na _ _ J<|aj.lq [0] J J J
      ·refine aa.exit J<|have h:=bT h L1;?_
       unfold fc at h
       refine tS<|aS<|rM J J<|rM J J<|ae.qv (bc J J) J<|rA J J<|rN<|aS<|rM J J<|rM J J<|ae.qv (bE J J) J<|rN<|aa.cut (fun aH=>∃ (mU:List ai),fb n12 mU=some z2∧aH=⟨63,[(0,.sl 6 aR 0 mU.length),(1,I ah),(2,.func (.func sF) ui),(6,I n12)],[(aR,gp mU)]⟩) ?_ ?_
       ·refine cD h J (fun h=>?_) (fun h=>?_)
        ·exact tR<|rM J J<|rM J J<|rM J J<|rM J J<|rM J J<|aK h fun v21 e4 h=>bh J (lh yE (fU e4)) cR (.cons .p0 .nil) J J<|ae.ghost<|aj.eqs (s:=0) (cy:=.sl 6 aR 0 v21.length) J (congrArg (AV.sl 6 aR 0) (bP e4))<|aj.here<|ae.ghost<|aj.eqs (s:=55) (cy:=.sl 6 aR 0 v21.length) J (congrArg (AV.sl 6 aR 0) (bP e4))<|aj.here<|rN<|aa.stop<|aj.lq [0] ⟨v21,h,J⟩ J J
        ·exact tK<|aa.stop<|aj.lq [0] ⟨nX,h,J⟩ J J
       ·rintro aH ⟨mU,h,rfl⟩
        unfold fb at h
        refine tR<|rM J J<|ae.qv (sj J J) J<|rA J J<|rN<|aa.cu<|aa.stop<|?_
        cases h
        exact yD _ _ J<|aj.lq [0] J J J
    ·refine aa.exit J<|have h:=bT h vr;aa.nil<|?_
     cases h
     exact aj.here ⟨_,.nil,_,.cons .p0 .nil,⟨J,J⟩⟩
theorem oo [GI:bM] {aR:Bk} {ab:List ai} {gZ:ai→ai→Option Int} {gG:FuncId} [bF Tryz.prog gG] {jP:List AV} (qS:∀ {y0 y1:_} {u:Int},gZ y0 y1=some u→Pu Tryz.prog gG (ai.av y0 :: ai.av y1 :: jP) (I u)) {r:(List ai)} (h:ck ab gZ=some r):aT Tryz.prog 63 [.sl 6 aR 0 ab.length,.func (.func gG) jP] [(aR,gp ab)] (T0 ([(aR,gp r)]) (.oL [])):=by
 unfold ck at h
 refine aT.fM ?_
 refine aT.bJ Tryz.func63 J Tryz.ntmps63 Tryz.results63 J J ?_
 refine tR<|rM J J<|rM J J<|ae.qv (iC J) J<|rM J J<|aK h fun v1 e1 h=>bh J (qX qS (fU e1)) cR (.cons .p0 .nil) J J<|ae.ghost<|aj.eqs (s:=0) (cy:=.sl 6 aR 0 v1.length) J (congrArg (AV.sl 6 aR 0) (bP e1))<|aj.here<|ae.ghost<|aj.eqs (s:=4) (cy:=.sl 6 aR 0 v1.length) J (congrArg (AV.sl 6 aR 0) (bP e1))<|aj.here<|ae.ghost<|aj.eqs (s:=5) (cy:=.sl 6 aR 0 v1.length) J (congrArg (AV.sl 6 aR 0) (bP e1))<|aj.here<|rN<|aa.nil<|?_
 cases h
 exact aj.here ⟨_,.nil,_,.cons .p0 .nil,⟨J,J⟩⟩
theorem CN [GI:bM] {ab:List Signal} {ah:List aA} {ao:List aB} {aD:ar} {r:(List ai)} (h:pa ab ah ao aD=some r):aT Tryz.prog 27 [lV ab,tN ah,nG ao,ar.av aD] [] (T1 (fun sG=>[(sG,gp r)]) (fun sG=>.sl 6 sG 0 r.length)):=by
 unfold pa at h
 refine aT.fM ?_
 refine aT.bJ Tryz.func27 J Tryz.ntmps27 Tryz.results27 J J ?_
 refine aS<|gn J J J J fun b1=>rA J J<|rN<|aS<|rA J J<|rN<|aS<|rM J J<|aK h fun v2 e1 h=>pt J (yJ e1) cR .nil (fun _=>J) J fun b3=>rM J J<|rX J J J<|rX J J J<|rA J J<|rA J J<|rN<|tS<|aS<|rM J J<|ae.qv (cY J) J<|rM J J<|rN<|aa.block<|aa.cw (fun x:(List ai)×Int=>iJ ab ah ao aD v2 x.1 x.2) (fun x aH=>∃ (b7:Bk),aH=⟨92,[(0,lV ab),(1,tN ah),(2,nG ao),(7,.ptr b1 0),(9,.sl 6 b7 0 x.1.length),(25,Js v2.1),(26,I (v2.1.length:Int)),(27,I x.2)],[(b1,.cells [I aD.aM,I aD.To]),(b7,gp x.1)]⟩) h ?_ ?_
 ·exact aj.arr (s:=9) 6 J fun mF=>aj.lq [2,0] ⟨mF,J⟩ J J
 ·intro x z1 aH J1 fe h k6 fh
  obtain ⟨l8,n9⟩:=x
  obtain ⟨b7,rfl⟩:=fe
  replace h:iJ ab ah ao aD v2 l8 n9=some z1:=h
  unfold iJ at h
  refine aS<|ae.qv (bE J J) J<|rN<|tS<|cD h J (fun h=>?_) (fun h=>?_)
  ·refine tK<|tS<|aa.cut (fun aH=>∃ (vu:Bk) (jT:List ai),lR n9 jT=some z1∧aH=⟨92,[(0,lV ab),(1,tN ah),(2,nG ao),(7,.ptr b1 0),(9,.sl 6 vu 0 jT.length),(25,Js v2.1),(26,I (v2.1.length:Int)),(27,I n9)],[(b1,.cells [I aD.aM,I aD.To]),(vu,gp jT)]⟩) ?_ ?_
   ·refine aa.block<|aS<|aK h fun fo e2 h=>ae.qv (bN J J J e2 J J) J<|ae.qv (aJ J J J) J<|ct J J J J fun xf=>aQ J J J J .p0 J J<|rN<|aS<|rM J J<|ae.qv (sk J) J<|aK h fun ll e3 h=>lr J (kT (fun e=>zI (Option.some.inj e)) e3) (.cons (.co (.refl _)) (.cons (.Ho _ _ _ (.cons (.Ir _ _ _ .p0 (.cons (.co (.refl _)) .nil)) .nil)) .nil)) J J<|rA J J<|rN<|tS<|aS<|rM J J<|ae.qv (bE J J) J<|rN<|cD h J (fun h=>?_) (fun h=>?_)
    ·exact aa.exit J<|aa.stop<|aj.lq [1,1] ⟨b7,l8,h,J⟩ J J
    ·refine tK<|aS<|rL J J .p0 J J<|ae.qv (bb J) J<|ae.qv (aO J J) J<|ae.qv (aJ J J J) J<|ae.qv (cY J) J<|rM J J<|rN<|aa.block<|aa.cw (fun x:(List ai)×Int=>jL ab ah ao aD n9 fo ll x.1 x.2) (fun x aH=>∃ (Cu:Bk),aH=⟨92,[(0,lV ab),(1,tN ah),(2,nG ao),(7,.ptr b1 0),(9,.sl 6 Cu 0 x.1.length),(13,.ptr xf 0),(14,I ll),(25,Js v2.1),(26,I (v2.1.length:Int)),(27,I n9),(39,lV fo.bw),(40,I (fo.bw.length:Int)),(41,I x.2)],[(b1,.cells [I aD.aM,I aD.To]),(Cu,gp x.1),(xf,.cells [.bR [.str fo.aG,.str fo.a8,lV fo.bw,I fo.aE,I fo.ay.aM,I fo.ay.To]])]⟩) h ?_ ?_
     ·exact aj.lq [1,1,0] ⟨b7,J⟩ J J
     ·intro x z2 aH J2 fe h yD vr
      obtain ⟨mU,n21⟩:=x
      obtain ⟨Cu,rfl⟩:=fe
      replace h:jL ab ah ao aD n9 fo ll mU n21=some z2:=h
      unfold jL at h
      refine aS<|ae.qv (bE J J) J<|rN<|tS<|cD h J (fun h=>?_) (fun h=>?_)
      ·refine tK<|tS<|aa.cut (fun aH=>∃ (ES:Bk) (ri:List ai),lS n21 ri=some z2∧aH=⟨92,[(0,lV ab),(1,tN ah),(2,nG ao),(7,.ptr b1 0),(9,.sl 6 ES 0 ri.length),(13,.ptr xf 0),(14,I ll),(25,Js v2.1),(26,I (v2.1.length:Int)),(27,I n9),(39,lV fo.bw),(40,I (fo.bw.length:Int)),(41,I n21)],[(b1,.cells [I aD.aM,I aD.To]),(ES,gp ri),(xf,.cells [.bR [.str fo.aG,.str fo.a8,lV fo.bw,I fo.aE,I fo.ay.aM,I fo.ay.To]])]⟩) ?_ ?_
       ·refine aa.block<|aS<|rM J J<|aK h fun v24 e4 h=>ae.qv (bN J J J e4 J J) J<|ae.qv (bf J J J) J<|ct J J J J fun xv=>rA J J<|aQ J J J J .p0 J J<|rN<|tS<|aS<|rF J J J<|rL J J .p0 J J<|ae.qv (jU J J) J<|rN<|cD h J (fun h=>?_) (fun h=>?_)
        ·exact aa.exit J<|aa.stop<|aj.lq [1,1,1] ⟨Cu,mU,h,J⟩ J J
        ·refine tK<|aS<|rA J J<|rN<|tS<|aS<|rL J J .p3 J J<|ae.qv (bb J) J<|ae.qv (aO J J) J<|ae.qv (aJ J J J) J<|rM J J<|ae.qv (bc J J) J<|aK h fun sY e5 h=>ae.qv (D0 J J (.some _ _ _ J) .none J J e5) J<|ae.qv (cY J) J<|rM J J<|rN<|aa.cut (fun aH=>∃ (n27:Int),jK ab ah ao aD fo ll mU n21 v24 n27=some z2∧aH=⟨92,[(0,lV ab),(1,tN ah),(2,nG ao),(7,.ptr b1 0),(9,.sl 6 Cu 0 mU.length),(13,.ptr xf 0),(14,I ll),(16,.ptr xv 0),(17,I n27),(25,Js v2.1),(26,I (v2.1.length:Int)),(27,I n9),(39,lV fo.bw),(40,I (fo.bw.length:Int)),(41,I n21)],[(b1,.cells [I aD.aM,I aD.To]),(Cu,gp mU),(xf,.cells [.bR [.str fo.aG,.str fo.a8,lV fo.bw,I fo.aE,I fo.ay.aM,I fo.ay.To]]),(xv,.cells (vn v24))]⟩) ?_ ?_
         ·refine aa.block<|aa.cw (fun x:Int=>iI ab ah ao aD fo ll mU n21 v24 sY x) (fun x aH=>aH=⟨92,[(0,lV ab),(1,tN ah),(2,nG ao),(7,.ptr b1 0),(9,.sl 6 Cu 0 mU.length),(13,.ptr xf 0),(14,I ll),(16,.ptr xv 0),(17,I (345686400000:Int)),(25,Js v2.1),(26,I (v2.1.length:Int)),(27,I n9),(39,lV fo.bw),(40,I (fo.bw.length:Int)),(41,I n21),(55,lV sY),(56,I (sY.length:Int)),(57,I x)],[(b1,.cells [I aD.aM,I aD.To]),(Cu,gp mU),(xf,.cells [.bR [.str fo.aG,.str fo.a8,lV fo.bw,I fo.aE,I fo.ay.aM,I fo.ay.To]]),(xv,.cells (vn v24))]⟩) h ?_ ?_
          ·exact aj.lq [1,1,1,0] J J J
          ·intro n29 z3 aH J3 fe h Na L1
           obtain rfl:=fe
           replace h:iI ab ah ao aD fo ll mU n21 v24 sY n29=some z3:=h
           unfold iI at h
           refine aS<|ae.qv (bE J J) J<|rN<|tS<|cD h J (fun h=>?_) (fun h=>?_)
           ·refine tK<|tS<|aa.block<|aS<|aK h fun v30 e6 h=>ae.qv (bN J J J e6 J J) J<|ae.qv (bf J J J) J<|ct J J J J fun TI=>aQ J J J J .p0 J J<|rN<|tS<|aa.cut (fun aH=>∃ (R1:Bool),pU ab ah ao aD fo ll mU n21 v24 n29 v30 R1=some z3∧aH=⟨92,[(0,lV ab),(1,tN ah),(2,nG ao),(7,.ptr b1 0),(9,.sl 6 Cu 0 mU.length),(13,.ptr xf 0),(14,I ll),(16,.ptr xv 0),(17,I (345686400000:Int)),(19,.ptr TI 0),(25,Js v2.1),(26,I (v2.1.length:Int)),(27,I n9),(39,lV fo.bw),(40,I (fo.bw.length:Int)),(41,I n21),(55,lV sY),(56,I (sY.length:Int)),(57,I n29),(68,.bool R1)],[(b1,.cells [I aD.aM,I aD.To]),(Cu,gp mU),(xf,.cells [.bR [.str fo.aG,.str fo.a8,lV fo.bw,I fo.aE,I fo.ay.aM,I fo.ay.To]]),(xv,.cells (vn v24)),(TI,.cells (vn v30))]⟩) ?_ ?_
            ·refine tR<|rF J J J<|rL J J .p0 J J<|ae.qv (cL J J) J<|rM J J<|ae.ff J J J (fun hc=>?_) (fun hc=>?_)
             ·rw [yh hc] at h
              exact rF J J J<|rY J J J<|rL J J .p0 J J<|rY J J J<|ae.qv (cL J J) J<|rE J J J<|rN<|aa.stop<|aj.lq [1,1,1,1,0] ⟨decide (v30.Kind=(3:Int)),h,J⟩ J J
             ·rw [yg hc] at h
              exact rG J J J J<|rG J J J J<|rT J J J<|rN<|aa.stop<|aj.lq [1,1,1,1,0] ⟨true,h,J⟩ J J
            ·rintro aH ⟨R1,h,rfl⟩
             unfold pU at h
             refine cB h J (fun h=>?_) (fun h=>?_)
             ·exact aS<|rF J J J<|rL J J .p4 J J<|rA J J<|rN<|aa.exit J<|have h:=bT h L1;aa.stop<|aj.lq [0,0,0,0] ⟨v30.At,h,J⟩ J J
             ·refine tK<|aa.cu<|tR<|ae.qv (bc J J) J<|rM J J<|rN<|aa.stop<|?_
              cases h
              exact Na _ _ J<|aj.lq [0,0,0,0] J J J
           ·exact aa.exit J<|have h:=bT h L1;aa.stop<|aj.lq [0,0,0,0] ⟨(345686400000:Int),h,J⟩ J J
         ·rintro aH ⟨n27,h,rfl⟩
          unfold jK at h
          refine aK h fun v33 e7 h=>aK h fun EO e8 h=>aa.fT (id:=19) (A:=[0,0,0,0,0,24,56,0,0,256,0,1792,0,8190,16383,32767]) (H0:=[]) (HH:=fun β=>[((β 13),gp EO),(b1,.cells [I aD.aM,I aD.To]),(Cu,gp mU),(xf,.cells [.bR [.str fo.aG,.str fo.a8,lV fo.bw,I fo.aE,I fo.ay.aM,I fo.ay.To]]),(xv,.cells (vn v24))]) 14 mixed J (by kernel_rfl) (by kernel_rfl) [⟨some 13,none,[],fun b=>(b,gp EO),none,[]⟩] [13] J (by kernel_rfl) J .nil (fun _=>J)<|AT.am 13 J J<|AM.qv (ax J) J<|AM.qv (ax J) J<|AM.qv (aF J J .p2 J) J<|AM.qv (ax J) J<|AM.qv (ax J) J<|AM.qv (bN J J J e7 J J) J<|AM.qv (bf J J J) J<|AM.qv (ax J) J<|AM.qv (az J J) J<|AM.qv (aF J J .p3 J) J<|AM.qv (ax J) J<|AM.qv (cJ J J J J J) J<|AM.qv (bq J J .p0 J) J<|AM.nil<|AT.BA (V:=fun b=>.sl 6 b 0 EO.length) (Ti:=[]) (Pi:=fun b=>[(b,gp EO)]) (fun _=>J) (fun _=>J) (fun _ _=>J) J (fun _=>J) J J J ?_ ?_
          ·exact pt J (CM e8) cR .nil (fun _=>J) J fun TJ=>ae.nil ⟨TJ,_,J,J⟩
          refine AT.rb (fun _=>J) fun β=>?_
          generalize β 13=TJ
          clear β
          exact aK h fun M6 e9 h=>eK (g:=ai.av) J J J J J J J J (Iy (.inl .p0) J) e9 (fun _=>.p2) J fun Gq=>rA J J<|rN<|aa.cu<|aa.stop<|aj.lq [1,1,1] ⟨Gq,M6,h,J⟩ J J
       ·rintro aH ⟨ES,ri,h,rfl⟩
        unfold lS at h
        refine tR<|ae.qv (bc J J) J<|rM J J<|rN<|aa.stop<|?_
        cases h
        exact yD _ _ J<|aj.lq [0,0,0] ⟨ES,J⟩ J J
      ·exact aa.exit J<|have h:=bT h vr;aa.cu<|aa.stop<|aj.lq [0,0] ⟨Cu,mU,h,J⟩ J J
   ·rintro aH ⟨vu,jT,h,rfl⟩
    unfold lR at h
    refine tR<|ae.qv (bc J J) J<|rM J J<|rN<|aa.stop<|?_
    cases h
    exact k6 _ _ J<|aj.lq [0,0] ⟨vu,J⟩ J J
  ·refine aa.exit J<|have h:=bT h fh;?_
   unfold nE at h
   refine aS<|rM J J<|aK h fun Of xd h=>bh J (oo (fun e=>zJ e) (fU xd)) cR (.cons .p1 .nil) J J<|ae.ghost<|aj.eqs (s:=9) (cy:=.sl 6 b7 0 Of.length) J (congrArg (AV.sl 6 b7 0) (bP xd))<|aj.here<|ae.ghost<|aj.eqs (s:=89) (cy:=.sl 6 b7 0 Of.length) J (congrArg (AV.sl 6 b7 0) (bP xd))<|aj.here<|rN<|aS<|rM J J<|rA J J<|rN<|aa.ret<|?_
   cases h
   exact hH J [0] J ⟨b7,J,J⟩
theorem rm [GI:bM] {ab:List ai} {ah:List ai} {r:Bool} (h:gD ab ah=some r):Pu Tryz.prog 28 [R9 ab,R9 ah] (.bool r):=by
 unfold gD at h
 refine aT.bJ Tryz.func28 J Tryz.ntmps28 Tryz.results28 J J ?_
 refine aS<|rA J J<|rN<|tS<|aS<|rM J J<|ae.qv (cY J) J<|rM J J<|ae.qv (cY J) J<|ae.qv (jU J J) J<|rN<|cD h J (fun h=>?_) (fun h=>?_)
 ·refine aS<|rA J J<|rN<|aa.ret<|?_
  cases h
  exact hP J J
 ·refine tK<|tS<|aS<|rM J J<|ae.qv (cY J) J<|rM J J<|rN<|aa.block<|aa.cw (fun x:Int=>fC ab ah x) (fun x aH=>aH=⟨26,[(0,R9 ab),(1,R9 ah),(12,I (ab.length:Int)),(13,I x)],[]⟩) h ?_ ?_
  ·exact aj.lq [] J J J
  ·intro n2 z1 aH J1 fe h k6 fh
   obtain rfl:=fe
   replace h:fC ab ah n2=some z1:=h
   unfold fC at h
   refine aS<|ae.qv (bE J J) J<|rN<|tS<|cD h J (fun h=>?_) (fun h=>?_)
   ·refine tK<|tS<|aa.block<|aS<|rM J J<|rA J J<|rN<|tS<|aa.bS (id:=6) (A:=[0,0,3,7,0,0,48,112,255]) 9 mixed J (by kernel_rfl) (by kernel_rfl)<|AM.qv (ax J) J<|AM.qv (ax J) J<|aK h fun v3 e1 h=>AM.qv (bN J J J e1 J J) J<|AM.qv (bf J J J) J<|AM.qv (ax J) J<|AM.qv (ax J) J<|aK h fun v4 e2 h=>AM.qv (bN J J J e2 J J) J<|AM.qv (bf J J J) J<|AM.qv (N0 (g:=ai.av) (X:=v3) (Y:=v4) J J J J J) J<|AM.nil<|rN<|cD h J (fun h=>?_) (fun h=>?_)
    ·refine aS<|rA J J<|rN<|aa.ret<|have h:=bT h fh;?_
     cases h
     exact hP J J
    ·refine tK<|aa.cu<|tR<|ae.qv (bc J J) J<|rM J J<|rN<|aa.stop<|?_
     cases h
     exact k6 _ _ J<|aj.lq [] J J J
   ·refine aa.exit J<|have h:=bT h fh;aS<|rA J J<|rN<|aa.ret<|?_
    cases h
    exact hP J J
theorem yK [GI:bM] {ab:List Signal} {ah:bO} {ao:bO} {r:Int} (h:mw ab ah ao=some r):Pu Tryz.prog 89 [lV ab,.str ah,.str ao] (I r):=by
 unfold mw at h
 refine aT.bJ Tryz.func89 J Tryz.ntmps89 Tryz.results89 J J ?_
 refine aS<|rA J J<|rN<|tS<|aS<|rM J J<|aK h fun v1 e1 h=>bB J (qU e1) cR J<|rA J J<|rN<|aS<|rM J J<|ae.qv (jU J J) J<|rN<|cD h J (fun h=>?_) (fun h=>?_)
 ·refine aS<|rM J J<|rA J J<|rN<|aa.ret<|?_
  cases h
  exact hP J J
 ·refine tK<|tS<|tS<|aa.cut (fun aH=>∃ (c2:Bool),jM c2=some r∧aH=⟨21,[(20,.bool c2)],[]⟩) ?_ ?_
  ·refine tR<|rM J J<|aK h fun v3 e2 h=>bB J (k7 e2) cR J<|ae.qv (eF J) J<|rM J J<|ae.guard J J J (fun hc=>?_) (fun hc=>?_)
   ·exact have h:=ye hc h;rM J J<|rY J J J<|aK h fun v4 e3 h=>bB J (k7 e3) cR J<|rY J J J<|ae.qv (eF J) J<|rE J J J<|rN<|aa.stop<|aj.lq [] ⟨!v4,h,J⟩ J J
   ·exact have h:=sW hc h;rG J J J J<|rG J J J J<|rT J J J<|rN<|aa.stop<|aj.lq [] ⟨true,h,J⟩ J J
  ·rintro aH ⟨c2,h,rfl⟩
   unfold jM at h
   refine cB h J (fun h=>?_) (fun h=>?_)
   ·refine aS<|rA J J<|rN<|aa.ret<|?_
    cases h
    exact hP J J
   ·refine tK<|aS<|rA J J<|rN<|aa.ret<|?_
    cases h
    exact hP J J
theorem yL [GI:bM] {ab:au} {ah:Int} {r:iL×Bool} (h:mz ab ah=r):Pu Tryz.prog 90 [.bR [.str ab.bl.aG,.str ab.bl.a8,I ab.aE,I ab.bX,eJ ab.aY,I ab.ay,qY ab.mj,qY ab.bt,qY ab.aW,eJ ab.cj,eJ ab.bG],I ah] (.oL [iL.av r.1,.bool r.2]):=by
 unfold mz at h
 refine aT.bJ Tryz.func90 J Tryz.ntmps90 Tryz.results90 J J ?_
 refine aS<|ct J J J J fun b1=>rA J J<|rN<|tS<|aa.fT (id:=1) (A:=[0,1,3,7,15,0,32,96,224,480,0,1024,3072,7168,0,16384,49152,114688,0,262144,786432,1835008,3932160,8388607,0,33554431]) (H0:=[]) (HH:=fun β=>[((β 24),.cells [.str [],.str [],I (0:Int),I (0:Int),I (0:Int),I (0:Int)]),(b1,.cells [.str [],.str [],I (0:Int),I (0:Int),I (0:Int),I (0:Int)])]) 25 mixed J (by kernel_rfl) (by kernel_rfl) [⟨some 24,none,[],fun b=>(b,.cells [.str [],.str [],I (0:Int),I (0:Int),I (0:Int),I (0:Int)]),none,[]⟩] [24] J (by kernel_rfl) J .nil (fun _=>J)<|AT.am 24 J J<|AM.qv (ax J) J<|AM.qv (bb J) J<|AM.qv (aO J J) J<|AM.qv (aO J J) J<|AM.qv (aJ J J J) J<|AM.qv (ax J) J<|AM.qv (bb J) J<|AM.qv (aO J J) J<|AM.qv (aO J J) J<|AM.qv (aJ J J J) J<|AM.qv (ax J) J<|AM.qv (bb J) J<|AM.qv (aO J J) J<|AM.qv (aJ J J J) J<|AM.qv (ax J) J<|AM.qv (bb J) J<|AM.qv (aO J J) J<|AM.qv (aJ J J J) J<|AM.qv (ax J) J<|AM.qv (bb J) J<|AM.qv (aO J J) J<|AM.qv (aJ J J J) J<|AM.qv (cY J) J<|AM.qv (cJ J J J J J) J<|AM.nil<|AT.BA (V:=fun b=>.ptr b 0) (Ti:=[]) (Pi:=fun b=>[(b,.cells [.str [],.str [],I (0:Int),I (0:Int),I (0:Int),I (0:Int)])]) (fun _=>J) (fun _=>J) (fun _ _=>J) J (fun _=>J) J J J ?_ ?_
 ·exact ct J J J J fun b2=>ae.nil ⟨b2,_,J,J⟩
 refine AT.rb (fun _=>J) fun β=>?_
 generalize β 24=b2
 clear β
 refine aQ J J J J .p0 J J<|rN<|tS<|aS<|rM J J<|ae.qv (bb J) J<|ae.qv (aO J J) J<|ae.qv (aJ J J J) J<|rM J J<|ae.qv (fW J J) J<|rN<|aa.cut (fun aH=>∃ (n3:Int),jO ab n3=r∧aH=⟨51,[(4,.ptr b1 0),(6,.ptr b2 0)],[(b1,.cells [.str [],.str [],I (0:Int),I (0:Int),I (0:Int),I (0:Int)]),(b2,.cells [.str ab.bl.aG,.str ab.bl.a8,I ab.aE,I ab.bX,I (ab.aY.length:Int),I n3])]⟩) ?_ ?_
 ·refine cD h J (fun h=>?_) (fun h=>?_)
  ·exact tR<|rM J J<|ae.qv (bb J) J<|ae.qv (aO J J) J<|ae.qv (aJ J J J) J<|rF J J J<|aQ J J J J .p0 J J<|rN<|aa.stop<|aj.lq [1,0] ⟨ab.ay,h,J⟩ J J
  ·exact tK<|aa.stop<|aj.lq [1,0] ⟨(0:Int),h,J⟩ J J
 ·rintro aH ⟨n3,h,rfl⟩
  unfold jO at h
  refine tS<|aa.cut (fun aH=>∃ (c4:Bool),jN ab n3 c4=r∧aH=⟨51,[(4,.ptr b1 0),(5,.bool c4)],[(b1,.cells [.str ab.bl.aG,.str ab.bl.a8,I ab.aE,I ab.bX,I (ab.aY.length:Int),I n3])]⟩) ?_ ?_
  ·refine Classical.byCases (p:=ab.aE≠(0:Int)) (fun KU=>?_) (fun KU=>?_)
   ·replace h:=sW KU h
    refine aa.fT (id:=4) (A:=[0,0,2,6,14,30,62,126,254,31,1023]) (H0:=[(b1,.cells [.str [],.str [],I (0:Int),I (0:Int),I (0:Int),I (0:Int)])]) (HH:=fun β=>[(b1,.cells [.str ab.bl.aG,.str ab.bl.a8,I ab.aE,I ab.bX,I (ab.aY.length:Int),I n3]),(b2,.cells [.str ab.bl.aG,.str ab.bl.a8,I ab.aE,I ab.bX,I (ab.aY.length:Int),I n3])]) 10 mixed J (by kernel_rfl) (by kernel_rfl) [⟨none,some 9,[],fun _=>(b1,.cells [.str [],.str [],I (0:Int),I (0:Int),I (0:Int),I (0:Int)]),none,[]⟩,⟨some 9,none,[],fun _=>(b1,.cells [.str ab.bl.aG,.str ab.bl.a8,I ab.aE,I ab.bX,I (ab.aY.length:Int),I n3]),none,[]⟩] [] J (by kernel_rfl) J (.cons .p0 .nil) (fun _=>J)<|AT.am 9 J J<|AM.qv (bq J J .p0 J) J<|AM.qv (az J J) J<|AM.qv (aF J J .p0 J) J<|AM.qv (jU J J) J<|AM.qv (QV.dT KU (ax J)) J<|AM.aN J J J J<|AM.aN J J J J<|AM.aN J J J J<|AM.qv (kj J J) J<|AM.nil<|AT.xa (Ti:=[(b1,.cells [.str [],.str [],I (0:Int),I (0:Int),I (0:Int),I (0:Int)])]) (Pi:=[(b1,.cells [.str ab.bl.aG,.str ab.bl.a8,I ab.aE,I ab.bX,I (ab.aY.length:Int),I n3])]) (fun _=>J) (fun _=>J) (fun _=>J) J J ?_ ?_
    ·exact aQ J J J J .p0 J J<|ae.nil ⟨_,J⟩
    exact AT.rb (fun _=>J) fun β=>rA J J<|rN<|aa.stop<|aj.lq [0] ⟨true,h,J⟩ J J
   ·replace h:=zq KU h
    refine aa.fT (id:=4) (A:=[0,0,2,6,14,30,62,126,254,31,1023]) (H0:=[(b1,.cells [.str [],.str [],I (0:Int),I (0:Int),I (0:Int),I (0:Int)])]) (HH:=fun β=>[(b1,.cells [.str ab.bl.aG,.str ab.bl.a8,I ab.aE,I ab.bX,I (ab.aY.length:Int),I n3]),(b2,.cells [.str ab.bl.aG,.str ab.bl.a8,I ab.aE,I ab.bX,I (ab.aY.length:Int),I n3])]) 10 mixed J (by kernel_rfl) (by kernel_rfl) [⟨none,some 9,[],fun _=>(b1,.cells [.str [],.str [],I (0:Int),I (0:Int),I (0:Int),I (0:Int)]),none,[]⟩,⟨some 9,none,[],fun _=>(b1,.cells [.str ab.bl.aG,.str ab.bl.a8,I ab.aE,I ab.bX,I (ab.aY.length:Int),I n3]),none,[]⟩] [] J (by kernel_rfl) J (.cons .p0 .nil) (fun _=>J)<|AT.am 9 J J<|AM.qv (bq J J .p0 J) J<|AM.qv (az J J) J<|AM.qv (aF J J .p0 J) J<|AM.qv (jU J J) J<|AM.qv (QV.dF KU (ax J)) J<|AM.aI J J J<|AM.qv (az J J) J<|AM.aI J J J<|AM.qv (aF J J .p0 J) J<|AM.aI J J J<|AM.qv (fW J J) J<|AM.qv (jz J J) J<|AM.nil<|AT.xa (Ti:=[(b1,.cells [.str [],.str [],I (0:Int),I (0:Int),I (0:Int),I (0:Int)])]) (Pi:=[(b1,.cells [.str ab.bl.aG,.str ab.bl.a8,I ab.aE,I ab.bX,I (ab.aY.length:Int),I n3])]) (fun _=>J) (fun _=>J) (fun _=>J) J J ?_ ?_
    ·exact aQ J J J J .p0 J J<|ae.nil ⟨_,J⟩
    exact AT.rb (fun _=>J) fun β=>rA J J<|rN<|aa.stop<|aj.lq [0] ⟨decide ((0:Int) < n3),h,J⟩ J J
  ·rintro aH ⟨c4,h,rfl⟩
   unfold jN at h
   refine aa.ret<|?_
   obtain rfl:=h
   exact aj.here ⟨_,.cons (.all _ _ _ _ _ _ J .p0 aP.h br.h J J) (.cons (.tmp _ _ J) .nil),J⟩
theorem AL [GI:bM] {ab:List Signal} {ah:bO} {ao:bO} {aD:Int} {r:iL×Int} (h:oI ab ah ao aD=some r):Pu Tryz.prog 65 [lV ab,.str ah,.str ao,I aD] (.oL [iL.av r.1,I r.2]):=by
 unfold oI at h
 refine aT.bJ Tryz.func65 J Tryz.ntmps65 Tryz.results65 J J ?_
 refine aS<|ct J J J J fun b1=>rA J J<|rN<|tS<|aS<|rM J J<|rM J J<|rM J J<|aK h fun v2 e1 h=>bB J (yK e1) cR J<|rA J J<|rN<|aS<|rM J J<|ae.qv (jU J J) J<|rN<|cD h J (fun h=>?_) (fun h=>?_)
 ·refine aS<|ae.qv (cJ J J J J J) J<|rM J J<|aQ J J J J .p0 J J<|rA J J<|rN<|aa.ret<|?_
  cases h
  exact aj.here ⟨_,.cons (.all _ _ _ _ _ _ J .p0 aP.h br.h J J) (.cons (.tmp _ _ J) .nil),J⟩
 ·refine tK<|tS<|aS<|rM J J<|bB J (tJ J) cR J<|ae.qv (eF J) J<|rN<|cB h J (fun h=>?_) (fun h=>?_)
  ·refine aS<|ae.qv (cJ J J J J J) J<|aQ J J J J .p0 J J<|rA J J<|rN<|aa.ret<|?_
   cases h
   exact aj.here ⟨_,.cons (.all _ _ _ _ _ _ J .p0 aP.h br.h J J) (.cons (.tmp _ _ J) .nil),J⟩
  ·refine tK<|aS<|rM J J<|rM J J<|aK h fun v3 e2 h=>rS J (BZ e2) cR .nil (fun _ _ _ _ _ _=>J) J fun b4 b5 b6 b7 Yi bs9=>ae.qv (aC J) J<|rF J J J<|rL J J .p0 J J<|rM J J<|rM J J<|ae.qv (cJ J J J J J) J<|O5 h (fun e3 h=>?_) (fun n10 e3 h=>?_)
   ·refine ae.qv (xM (gk:=aq.av) (gv:=(pA Yi)) (M:=v3.sX) (key:=(⟨ah,ao⟩:aq)) J J .p1 J e3) J<|rA J J<|rN<|tS<|aS<|rM J J<|ae.qv (Fq J J) J<|rN<|aa.Jz J<|aS<|rM J J<|rM J J<|ae.qv (cJ J J J J J) J<|aQ J J J J .p4 J J<|rA J J<|rN<|aa.ret<|?_
    cases h
    exact aj.here ⟨_,.cons (.all _ _ _ _ _ _ J .p4 aP.h br.h J J) (.cons (.tmp _ _ J) .nil),J⟩
   ·refine ae.qv (xN (gk:=aq.av) (gv:=(pA Yi)) (M:=v3.sX) (key:=(⟨ah,ao⟩:aq)) J J .p1 e3) J<|rA J J<|rN<|tS<|aS<|rM J J<|ae.qv (Hz J J) J<|rN<|aa.JA J<|tK<|aS<|rM J J<|rM J J<|aK h fun v11 e4 h=>lr J (yL J) (.cons (pk.RF (bp:=b7) (kb:=HM) (bs:=bs9) (M:=v3.Cp) VA e4 .p3) (.cons (.co (.refl _)) .nil)) J J<|rM J J<|rX J J J<|rX J J J<|ct J J J J fun CL=>aQ J J J J .p0 J J<|rA J J<|rN<|aS<|ae.qv (bq J J .p0 J) J<|aQ J J J J .p5 J J<|rA J J<|rN<|aa.ret<|?_
    cases h
    exact aj.here ⟨_,.cons (.all _ _ _ _ _ _ J .p5 aP.h br.h J J) (.cons (.tmp _ _ J) .nil),J⟩
theorem FQ [GI:bM] {r:Bool} (h:ug=some r):Pu Tryz.prog 29 [] (.bool r):=by
 unfold ug at h
 refine aT.bJ Tryz.func29 J Tryz.ntmps29 Tryz.results29 J J ?_
 refine aS<|rA J J<|rN<|aS<|ae.qv (cJ J J J J J) J<|bj (xs:=([(⟨(1:Int),(1:Int),([100]:bO),([114]:bO),[],(0:Int)⟩:Signal)]).map Signal.av) J J J J J J<|aK h fun v1 e1 h=>bB J (AL e1) cR J<|rM J J<|rX J J J<|rX J J J<|ct J J J J fun b2=>aQ J J J J .p0 J J<|rA J J<|rN<|tS<|aa.cut (fun aH=>∃ (c3:Bool),rZ c3=some r∧aH=⟨16,[(0,.bool c3)],[]⟩) ?_ ?_
 ·refine tR<|rM J J<|ae.qv (cL J J) J<|rM J J<|ae.bH J J J (fun hc=>?_) (fun hc=>?_)
  ·rw [iD hc] at h
   exact rF J J J<|rY J J J<|rL J J .p0 J J<|rY J J J<|ae.qv (cL J J) J<|rT J J J<|rA J J<|rN<|aa.stop<|aj.lq [] ⟨decide (v1.1.State=(1:Int)),h,J⟩ J J
  ·rw [iE hc] at h
   exact rG J J J J<|rG J J J J<|rE J J J<|rA J J<|rN<|aa.stop<|aj.lq [] ⟨false,h,J⟩ J J
 ·rintro aH ⟨c3,h,rfl⟩
  unfold rZ at h
  refine aa.ret<|?_
  cases h
  exact hP J J
theorem B2 {ab:List Int} {r:Bool} (h:pV ab=some r):Pu Tryz.prog 3 [eJ ab] (.bool r):=by
 unfold pV at h
 refine aT.bJ Tryz.func3 J Tryz.ntmps3 Tryz.results3 J J ?_
 refine aS<|rA J J<|rN<|aS<|rM J J<|ae.qv (cJ J J J J J) J<|gn J J J J fun b1=>rA J J<|rN<|aS<|rM J J<|rM J J<|aK h fun v2 e1 h=>bh J (sE e1) cR (.cons .p0 .nil) J J<|aK h fun v3 e2 h=>pt J (zD e2) cR (.cons .p0 .nil) (fun _=>J) J fun b4=>rM J J<|aK h fun v5 e3 h=>bh J (zE e3) cR (.cons .p0 .nil) J J<|rM J J<|aK h fun v6 e4 h=>pt J (AE e4) cR (.cons .p0 .nil) (fun _=>J) J fun b7=>rM J J<|aK h fun v8 e5 h=>bh J (CJ e5) cR (.cons .p0 .nil) J J<|rM J J<|aK h fun v9 e6 h=>bh J (CK e6) cR (.cons .p0 .nil) J J<|rM J J<|bj (xs:=([([111,112,115]:bO),([98,111,115,115]:bO),([65]:bO)]).map AV.str) J J J J J J<|aK h fun v10 e7 h=>bh J (fS e7) cR (.cons .p0 .nil) J J<|ct J J J J fun vu=>rA J J<|rA J J<|rA J J<|rA J J<|aQ J J J J .p0 J J<|rA J J<|rN<|tS<|aS<|rM J J<|aK h fun v12 e8 h=>bh J (iB e8) cR (.cons .p1 .nil) J J<|rN<|aa.cut (fun aH=>∃ (n13:Int),kh v3 v5 v6 v8 v9 v10 n13=some r∧aH=⟨161,[(4,.sl 6 b4 0 v3.1.length),(5,tN v5.1),(6,.sl 4 b7 0 v6.1.length),(7,I v8.1),(8,.ptr vu 0),(9,.str v10.1)],[(b4,gi v3.1),(b7,u6 v6.1),(vu,.cells [I v9.1.aM,I n13])]⟩) ?_ ?_
 ·refine cB h J (fun h=>?_) (fun h=>?_)
  ·exact tR<|rF J J J<|rL J J .p1 J J<|ae.qv (CT J J) J<|rF J J J<|aQ J J J J .p1 J J<|rN<|aa.stop<|aj.lq [3,2,1] ⟨min v9.1.To (5000:Int),h,J⟩ J J
  ·exact tK<|aa.stop<|aj.lq [3,2,1] ⟨v9.1.To,h,J⟩ J J
 ·rintro aH ⟨n13,h,rfl⟩
  unfold kh at h
  refine aS<|rM J J<|aK h fun gR e9 h=>lr J (AF e9) (.cons (pk.rP .p1) .nil) J J<|rA J J<|rN<|tS<|tS<|aa.cut (fun aH=>∃ (BS:Bool),mE v3 v5 v6 v8 v9 v10 n13 gR BS=some r∧aH=⟨161,[(4,.sl 6 b4 0 v3.1.length),(5,tN v5.1),(6,.sl 4 b7 0 v6.1.length),(7,I v8.1),(8,.ptr vu 0),(9,.str v10.1),(10,I gR),(57,.bool BS)],[(b4,gi v3.1),(b7,u6 v6.1),(vu,.cells [I v9.1.aM,I n13])]⟩) ?_ ?_
  ·refine tR<|rM J J<|aK h fun xo xd h=>bB J (qT xd) cR J<|rM J J<|aK h fun v17 Cs h=>bB J (uj Cs) cR J<|ae.qv (jU J J) J<|rM J J<|gF h J J J (fun h=>?_) (fun h=>?_)
   ·exact rM J J<|rY J J J<|aK h fun zC zj h=>lr J (ox zj) (.cons (pk.rP .p1) .nil) J J<|rY J J J<|rM J J<|rY J J J<|ae.qv (jU J J) J<|rE J J J<|rN<|aa.stop<|aj.lq [0,0,0] ⟨decide (zC≠gR),h,J⟩ J J
   ·exact rG J J J J<|rG J J J J<|rG J J J J<|rT J J J<|rN<|aa.stop<|aj.lq [0,0,0] ⟨true,h,J⟩ J J
  ·rintro aH ⟨BS,h,rfl⟩
   unfold mE at h
   refine cB h J (fun h=>?_) (fun h=>?_)
   ·refine aS<|rA J J<|rN<|aa.ret<|?_
    cases h
    exact hP J J
   ·refine tK<|aS<|rM J J<|rM J J<|rM J J<|aK h fun vl IV h=>lr J (BU IV) (.cons (pk.rP .p1) (.cons (.co (.refl _)) (.cons (.co (.refl _)) .nil))) J J<|rM J J<|rX J J J<|rX J J J<|rX J J J<|rA J J<|rA J J<|rA J J<|rN<|aS<|rM J J<|rM J J<|aK h fun v20 KK h=>bB J (yG KK) cR J<|rM J J<|bB J (u9 J) cR J<|bj (xs:=([gR,v20,(iz v8.1)]:List Int).map I) J J J J J J<|aK h fun v21 Dr h=>bB J (sH Dr) cR J<|rA J J<|rN<|aS<|rA J J<|rN<|tS<|aS<|rM J J<|ae.qv (cL J J) J<|rN<|aa.cut (fun aH=>∃ (Pm:bO),mD v3 v5 v6 v9 v10 n13 gR vl v21 Pm=some r∧aH=⟨161,[(4,.sl 6 b4 0 v3.1.length),(5,tN v5.1),(6,.sl 4 b7 0 v6.1.length),(8,.ptr vu 0),(9,.str v10.1),(10,I gR),(11,.str vl.1),(12,.bool vl.2.1),(13,I vl.2.2),(14,I v21),(15,.str Pm)],[(b4,gi v3.1),(b7,u6 v6.1),(vu,.cells [I v9.1.aM,I n13])]⟩) ?_ ?_
    ·refine cD h J (fun h=>?_) (fun h=>?_)
     ·exact tR<|rM J J<|rM J J<|rM J J<|aK h fun v23 Nb h=>lr J (yH Nb) (.cons (pk.rP .p1) (.cons (.co (.refl _)) (.cons (.co (.refl _)) .nil))) J J<|rA J J<|rN<|aa.stop<|aj.lq [0,0,0] ⟨v23,h,J⟩ J J
     ·exact tK<|aa.stop<|aj.lq [0,0,0] ⟨([]:bO),h,J⟩ J J
    ·rintro aH ⟨Pm,h,rfl⟩
     unfold mD at h
     refine tS<|tS<|aa.cut (fun aH=>∃ (R4:Bool),mC v3 v5 v6 v9 v10 n13 gR R4=some r∧aH=⟨161,[(4,.sl 6 b4 0 v3.1.length),(5,tN v5.1),(6,.sl 4 b7 0 v6.1.length),(8,.ptr vu 0),(9,.str v10.1),(10,I gR),(92,.bool R4)],[(b4,gi v3.1),(b7,u6 v6.1),(vu,.cells [I v9.1.aM,I n13])]⟩) ?_ ?_
     ·refine tR<|rM J J<|rM J J<|ae.qv (jU J J) J<|rM J J<|ae.ff J J J (fun hc=>?_) (fun hc=>?_)
      ·rw [yh hc] at h
       refine rM J J<|rY J J J<|rM J J<|rY J J J<|ae.qv (A8 J J) J<|rE J J J<|rM J J<|ae.ff J J J (fun hc=>?_) (fun hc=>?_)
       ·rw [yh hc] at h
        exact rM J J<|rY J J J<|rM J J<|rY J J J<|ae.qv (A8 J J) J<|rY J J J<|ae.qv (QR J J) J<|rE J J J<|rN<|aa.stop<|aj.lq [0,0,0] ⟨vl.2.1!=(decide (Pm≠([]:bO))),h,J⟩ J J
       ·rw [yg hc] at h
        exact rG J J J J<|rG J J J J<|rG J J J J<|rT J J J<|rN<|aa.stop<|aj.lq [0,0,0] ⟨true,h,J⟩ J J
      ·rw [yg hc] at h
       exact rG J J J J<|rG J J J J<|rT J J J<|rM J J<|rG J J J J<|rG J J J J<|rG J J J J<|rG J J J J<|rT J J J<|rN<|aa.stop<|aj.lq [0,0,0] ⟨true,h,J⟩ J J
     ·rintro aH ⟨R4,h,rfl⟩
      unfold mC at h
      refine cB h J (fun h=>?_) (fun h=>?_)
      ·refine aS<|rA J J<|rN<|aa.ret<|?_
       cases h
       exact hP J J
      ·refine tK<|aS<|rM J J<|rM J J<|ae.qv (bq J J .p2 J) J<|aK h fun v25 Nc h=>vO J (yI Nc) .nil (.cons (pk.rP .p1) (.cons (.co (.refl _)) (.cons (.co (.refl _)) .nil))) (fun _=>J) (fun _=>J) (fun _=>(.cons (LX.rP (fun _=>J)) .nil)) J fun IY=>rM J J<|rX J J J<|rX J J J<|rA J J<|rA J J<|rN<|tS<|aa.bS (id:=16) (A:=[0,0,2,0,14,31,63,127]) 8 mixed J (by kernel_rfl) (by kernel_rfl)<|AM.qv (ax J) J<|AM.qv (ax J) J<|aK h fun rU IW h=>AM.fL J (yG IW) cR J<|AM.qv (bq J J .p3 J) J<|AM.fL J (va (J:fP (⟨v9.1.aM,n13⟩:ar)=_)) cR J<|AM.bL (xs:=([gR,rU,(fP (⟨v9.1.aM,n13⟩:ar))]).map I) J J J J J J<|aK h fun v28 IX h=>AM.fL J (sH IX) cR J<|AM.qv (bZ J) J<|AM.nil<|rN<|tS<|tS<|aa.cut (fun aH=>∃ (Jr:Bool),ja v3 v5 v6 v9 n13 gR Jr=some r∧aH=⟨161,[(4,.sl 6 b4 0 v3.1.length),(5,tN v5.1),(6,.sl 4 b7 0 v6.1.length),(8,.ptr vu 0),(10,I gR),(122,.bool Jr)],[(b4,gi v3.1),(b7,u6 v6.1),(vu,.cells [I v9.1.aM,I n13])]⟩) ?_ ?_
       ·refine tR<|rM J J<|rM J J<|ae.qv (jU J J) J<|rM J J<|gF h J J J (fun h=>?_) (fun h=>?_)
        ·refine rM J J<|rY J J J<|ae.qv (cL J J) J<|rY J J J<|rM J J<|gT h J J J (fun h=>?_) (fun h=>?_)
         ·exact rM J J<|rY J J J<|rM J J<|rY J J J<|rM J J<|rY J J J<|ae.qv (bq J J .p3 J) J<|rY J J J<|aK h fun v30 Nd h=>vO J (AG Nd) .nil (.cons (pk.rP .p2) (.cons (.co (.refl _)) (.cons (.co (.refl _)) .nil))) (fun _=>J) (fun _=>J) (fun _=>(.cons (LX.rP (fun _=>J)) .nil)) J fun TI=>rY J J J<|aK h fun v32 e21 h=>lr J (rl e21) (.cons (pk.rP .p1) (.cons (pk.rP .p0) .nil)) J J<|rY J J J<|ae.qv (eF J) J<|rY J J J<|rT J J J<|rE J J J<|rN<|aa.stop<|aj.lq [2,2,2] ⟨!v32,h,J⟩ J J
         ·exact rG J J J J<|rG J J J J<|rG J J J J<|rG J J J J<|rG J J J J<|rG J J J J<|rY J J J<|rE J J J<|rE J J J<|rN<|aa.stop<|aj.lq [1,1,1] ⟨false,h,J⟩ J J
        ·exact rG J J J J<|rG J J J J<|ae.j0 J J J<|ae.j0 J J J<|ae.j0 J J J<|ae.j0 J J J<|ae.j0 J J J<|ae.j0 J J J<|ae.j0 J J J<|rG J J J J<|rT J J J<|rN<|aa.stop<|aj.lq [1,1,1] ⟨true,h,J⟩ J J
       ·rintro aH ⟨Jr,h,rfl⟩
        unfold ja at h
        refine cB h J (fun h=>?_) (fun h=>?_)
        ·refine aS<|rA J J<|rN<|aa.ret<|?_
         cases h
         exact hP J J
        ·refine tK<|aS<|rM J J<|rM J J<|rM J J<|ae.qv (bq J J .p2 J) J<|aK h fun v33 e22 h=>vO J (AH e22) .nil (.cons (pk.rP .p0) (.cons (.co (.refl _)) (.cons (pk.rP .p1) (.cons (.co (.refl _)) .nil)))) (fun _=>J) (fun _=>J) (fun _=>(.cons (LX.rP (fun _=>J)) .nil)) J fun KO=>rM J J<|rX J J J<|rX J J J<|rA J J<|rA J J<|rN<|tS<|aa.bS (id:=20) (A:=[0,1,0,7,0,0,47,127,255,511]) 10 mixed J (by kernel_rfl) (by kernel_rfl)<|AM.qv (ax J) J<|aK h fun v35 e23 h=>AM.OQ J (zH e23) (.cons (pk.rP .p1) .nil) J J<|AM.qv (ax J) J<|aK h fun R3 e24 h=>AM.fL J (uj e24) cR J<|AM.qv (ax J) J<|AM.qv (bq J J .p3 J) J<|AM.fL J (va (J:fP (⟨v9.1.aM,n13⟩:ar)=_)) cR J<|AM.bL (xs:=([v35,R3,gR,(fP (⟨v9.1.aM,n13⟩:ar))]).map I) J J J J J J<|aK h fun v37 e25 h=>AM.fL J (sH e25) cR J<|AM.qv (bZ J) J<|AM.nil<|rN<|aS<|rA J J<|rN<|tS<|aS<|rM J J<|ae.qv (cL J J) J<|rN<|aa.cut (fun aH=>∃ (KL:Bk) (n38:Int) (Cq:List ai),kf v33 n38 Cq=some r∧aH=⟨161,[(13,I v33.2),(18,.sl 6 KO 0 v33.1.length),(19,I n38),(20,.sl 6 KL 0 Cq.length)],[(KO,gp v33.1),(KL,gp Cq)]⟩) ?_ ?_
         ·refine cD h J (fun h=>?_) (fun h=>?_)
          ·refine aS<|rM J J<|rM J J<|rM J J<|ae.qv (bq J J .p3 J) J<|aK h fun v41 e26 h=>vO J (CN e26) .nil (.cons (pk.rP .p1) (.cons (.co (.refl _)) (.cons (pk.rP .p2) (.cons (.co (.refl _)) .nil)))) (fun _=>J) (fun _=>J) (fun _=>(.cons (LX.rP (fun _=>J)) .nil)) J fun VM=>rA J J<|rN<|aS<|rM J J<|ae.qv (iC J) J<|ae.qv (fW J J) J<|rN<|aa.cut (fun aH=>∃ (Ni:Bk) (n43:Int) (EP:List ai),mB v33 n43 EP=some r∧aH=⟨161,[(13,I v33.2),(18,.sl 6 KO 0 v33.1.length),(19,I n43),(20,.sl 6 Ni 0 EP.length)],[(KO,gp v33.1),(Ni,gp EP)]⟩) ?_ ?_
           ·refine cD h J (fun h=>?_) (fun h=>?_)
            ·exact tR<|rA J J<|rA J J<|rN<|aa.stop<|aj.arr (s:=20) 6 J fun VJ=>aj.lq [2,0] ⟨VJ,(2:Int),[],h,J⟩ J J
            ·exact tK<|aa.stop<|aj.lq [1,0] ⟨VM,v37,v41,h,J⟩ J J
           ·rintro aH ⟨Ni,n43,EP,h,rfl⟩
            unfold mB at h
            exact aa.stop<|aj.lq [0,0] ⟨Ni,n43,EP,h,J⟩ J J
          ·exact tK<|aa.stop<|aj.arr (s:=20) 6 J fun Qz=>aj.lq [1,0] ⟨Qz,v37,[],h,J⟩ J J
         ·rintro aH ⟨KL,n38,Cq,h,rfl⟩
          unfold kf at h
          refine tS<|aa.cut (fun aH=>∃ (R2:Bool),mA R2=some r∧aH=⟨161,[(2,.bool R2)],[]⟩) ?_ ?_
          ·refine tR<|rM J J<|rM J J<|ae.qv (cL J J) J<|rM J J<|gT h J J J (fun h=>?_) (fun h=>?_)
           ·refine rM J J<|rY J J J<|rM J J<|rY J J J<|aK h fun v49 e27 h=>lr J (rm e27) (.cons (pk.rP .p0) (.cons (pk.rP .p1) .nil)) J J<|rT J J J<|rM J J<|ae.guard J J J (fun hc=>?_) (fun hc=>?_)
            ·exact have h:=sW hc h;aK h fun v50 e28 h=>bB J (FQ e28) cR J<|rT J J J<|rA J J<|rN<|aa.stop<|aj.lq [] ⟨v50,h,J⟩ J J
            ·exact have h:=ye hc h;rE J J J<|rA J J<|rN<|aa.stop<|aj.lq [] ⟨false,h,J⟩ J J
           ·exact rG J J J J<|rG J J J J<|rE J J J<|rM J J<|rG J J J J<|rE J J J<|rA J J<|rN<|aa.stop<|aj.lq [] ⟨false,h,J⟩ J J
          ·rintro aH ⟨R2,h,rfl⟩
           unfold mA at h
           refine aa.ret<|?_
           cases h
           exact hP J J
end Go.Proofs.YtodkphmmhgkodaaGreatDoor
