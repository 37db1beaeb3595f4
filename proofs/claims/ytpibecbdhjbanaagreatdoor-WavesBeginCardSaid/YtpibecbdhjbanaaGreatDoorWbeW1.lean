/- The code computes the plain functions: proofs written by shal.py. -/
import Derived.Test.YtpibecbdhjbanaaGreatDoorWbeP
import Derived.Test.YtpibecbdhjbanaaGreatDoorLib
set_option maxHeartbeats 4000000
set_option maxRecDepth 100000
set_option linter.unusedVariables false
set_option linter.unusedSimpArgs false
namespace Go.Proofs.YtpibecbdhjbanaaGreatDoor
open Go Go.Eng Go.Proofs Go.Beacon
attribute [local irreducible] ae ab AQ QV aF aj Kv AM
instance Uq:Lr Tryz.prog 27:=⟨by kernel_rfl⟩
instance Ur:BJ Tryz.prog 27 2 Version.av:=⟨fun x y w S v u hv hu=>by
 obtain ⟨vs,rfl,hl,ha⟩:=At.wY hv
 obtain ⟨us,rfl,DX,M4⟩:=At.wY hu
 obtain ⟨v0,p0,q0⟩:=mA.get hl ha (off:=0) rfl
 obtain ⟨u0,XA,XB⟩:=mA.get DX M4 (off:=0) rfl
 obtain ⟨v1,p1,q1⟩:=mA.get hl ha (off:=1) rfl
 obtain ⟨u1,XC,XD⟩:=mA.get DX M4 (off:=1) rfl
 obtain ⟨v2,p2,q2⟩:=mA.get hl ha (off:=2) rfl
 obtain ⟨u2,XE,XF⟩:=mA.get DX M4 (off:=2) rfl
 refine Db.cast (Db.struct Tryz.underlying27 (by kernel_rfl) (.cons (by decide) (pU J p0) (pU J XA) (Db.up (BJ.h (g:=I) x.aN y.aN w S _ _ q0 XB) 0) (.cons (by decide) (pU J p1) (pU J XC) (Db.up (BJ.h (g:=I) x.aO y.aO w S _ _ q1 XD) 0) (.cons (by decide) (pU J p2) (pU J XE) (Db.up (BJ.h (g:=I) x.aM y.aM w S _ _ q2 XF) 0) .nil)))) ?_
 obtain ⟨_,_,_⟩:=x
 obtain ⟨_,_,_⟩:=y
 rw [Bool.eq_iff_iff];simp [and_assoc]⟩
abbrev fc (xs:List Int):AV:=.list 1 (xs.map I)
abbrev JN (xs:List bq):AV:=.list 1 (xs.map AV.str)
abbrev HE (xs:List iI):Ob:=.arr 4 (xs.map iI.av)
abbrev XG (x:Campaign) (b5:Bk):List AV:=[.str x.Key,I x.Target.aN,I x.Target.aO,I x.Target.aM,I x.At,.sl 4 b5 0 x.aB.length,I x.bh.eU,I x.bh.To,I x.Room]
abbrev L1 (xs:List DeviceS):Ob:=.arr 7 (xs.map DeviceS.av)
abbrev pJ (xs:List DeviceS):AV:=.list 7 (xs.map DeviceS.av)
abbrev fx (xs:List MarkS):Ob:=.arr 6 (xs.map MarkS.av)
abbrev o8 (xs:List MarkS):AV:=.list 6 (xs.map MarkS.av)
abbrev oM (xs:List iI):AV:=.list 4 (xs.map iI.av)
abbrev wM (x:Campaign):List AV:=[.str x.Key,I x.Target.aN,I x.Target.aO,I x.Target.aM,I x.At,oM x.aB,I x.bh.eU,I x.bh.To,I x.Room]
abbrev Us (x:iI):List AV:=[I x.Part,I x.oW,I x.tv,I x.cO]
abbrev XH (xs:List FA):AV:=.list 2 (xs.map FA.av)
abbrev Py (x:DeviceS):List AV:=[.str x.Key,.str x.Model,.str x.de,I x.bn.aN,I x.bn.aO,I x.bn.aM,XH x.j0]
abbrev XI (x:al):List AV:=[I x.ak.Kind,I x.ak.Since,I x.ak.Version.aN,I x.ak.Version.aO,I x.ak.Version.aM,I x.ak.cO,I x.aI.aN,I x.aI.aO,I x.aI.aM]
abbrev tf (b:Bk) (s:Nat→Bk) (x:al):List (Bk×PO):=[(b,.cells [I x.ak.Kind,I x.ak.Since,I x.ak.Version.aN,I x.ak.Version.aO,I x.ak.Version.aM,I x.ak.cO,I x.aI.aN,I x.aI.aO,I x.aI.aM])]
theorem Ou:KB tf XI:=⟨⟨fun x=>[.v (I x.ak.Kind),.v (I x.ak.Since),.v (I x.ak.Version.aN),.v (I x.ak.Version.aO),.v (I x.ak.Version.aM),.v (I x.ak.cO),.v (I x.aI.aN),.v (I x.aI.aO),.v (I x.aI.aM)],fun _ _ _=>J,fun _=>J⟩⟩
abbrev wN (xs:List (bq×Int)):Ob:=.mp (xs.map (fun e=>(AV.str e.1,I e.2)))
abbrev dV (xs:List Int):Ob:=.arr 1 (xs.map I)
abbrev yK (x:MarkS):List AV:=[I x.At,.str x.Device,I x.Kind,I x.Version.aN,I x.Version.aO,I x.Version.aM]
abbrev XJ (xs:List Int):AV:=.list 1 (xs.map (AV.int .u8))
theorem AE [GI:bD] {aa:Int} {ai:Int} {r:Int} (h:Below aa ai=some r):Pu Tryz.prog 99 [I aa,I ai] (I r):=by
 unfold Below at h
 refine aF.bC Tryz.func99 J Tryz.ntmps99 Tryz.results99 J J ?_
 refine aE<|rA J J<|rN<|tS<|aE<|rM J J<|ae.qv (bG J J) J<|rN<|cD h J (fun h=>?_) (fun h=>?_)
 ·refine aE<|rA J J<|rN<|ab.ret<|?_
  cases h
  exact hP J J
 ·refine tK<|aE<|rM J J<|rM J J<|aD h fun n1 e1 h=>ae.qv (GQ J J e1) J<|rA J J<|rN<|tS<|aE<|rM J J<|ae.qv (bG J J) J<|rN<|ab.cut (fun aC=>∃ (n2:Int),sj n2=some r∧aC=⟨16,[(0,I n2)],[]⟩) ?_ ?_
  ·refine cD h J (fun h=>?_) (fun h=>?_)
   ·exact tR<|rM J J<|rM J J<|ae.qv (bc J J) J<|rA J J<|rN<|ab.stop<|aj.lq [] ⟨aJ (n1+ai),h,J⟩ J J
   ·exact tK<|ab.stop<|aj.lq [] ⟨n1,h,J⟩ J J
  ·rintro aC ⟨n2,h,rfl⟩
   unfold sj at h
   refine aE<|rM J J<|rA J J<|rN<|ab.ret<|?_
   cases h
   exact hP J J
theorem gD [GI:bD] {aP:Bk} {aa:ah} {ai:Int} {r:Int×ah} (h:eI aa ai=some r):aF Tryz.prog 42 [.ptr aP 0,I ai] [(aP,.cells [fc aa.L,I aa.at_])] (T0 ([(aP,.cells [fc r.2.L,I r.2.at_])]) (I r.1)):=by
 unfold eI at h
 refine aF.ia ?_
 refine aF.bC Tryz.func42 J Tryz.ntmps42 Tryz.results42 J J ?_
 refine aE<|rA J J<|rN<|aE<|rM J J<|ae.qv (ar J) J<|rF J J J<|rL J J .p0 J J<|ae.qv (bc J J) J<|ae.qv (ar J) J<|rF J J J<|ay J J J J .p0 J J<|rN<|tS<|aE<|rM J J<|ae.qv (ar J) J<|rF J J J<|rL J J .p0 J J<|ae.qv (cV J) J<|ae.qv (cC J J) J<|rN<|cD h J (fun h=>?_) (fun h=>?_)
 ·refine aE<|rM J J<|ae.qv (ar J) J<|rF J J J<|rL J J .p0 J J<|ae.qv (nR J J) J<|rM J J<|aD h fun v1 e1 h=>aS J (AE e1) cR J<|rA J J<|rN<|ab.ret<|?_
  cases h
  exact hH J [0] J ⟨J,J⟩
 ·refine tK<|tS<|ab.eh (id:=4) (A:=[0,1,3,7,15,0,32,96,224,480,1023,2047]) 12 mixed J (by kernel_rfl) (by kernel_rfl)<|AM.qv (aA J) J<|AM.qv (ar J) J<|AM.qv (aG J J) J<|AM.qv (ba J J .p0 J) J<|AM.qv (cF J J) J<|AM.qv (aA J) J<|AM.qv (ar J) J<|AM.qv (aG J J) J<|AM.qv (ba J J .p0 J) J<|AM.qv (cV J) J<|aD h fun n2 e2 h=>AM.qv (GQ J J e2) J<|AM.qv (ek J) J<|AM.nil<|rN<|tS<|ab.eh (id:=5) (A:=[0,1,3,7,15,0,32,96,224,480,1023,2047]) 12 mixed J (by kernel_rfl) (by kernel_rfl)<|AM.qv (aA J) J<|AM.qv (ar J) J<|AM.qv (aG J J) J<|AM.qv (ba J J .p0 J) J<|AM.qv (cF J J) J<|AM.qv (aA J) J<|AM.qv (ar J) J<|AM.qv (aG J J) J<|AM.qv (ba J J .p0 J) J<|AM.qv (cV J) J<|aD h fun n3 e3 h=>AM.qv (Lq J J e3) J<|AM.qv (ek J) J<|AM.nil<|rN<|aE<|rM J J<|ae.qv (ar J) J<|rF J J J<|rL J J .p0 J J<|rM J J<|aD h fun v4 e4 h=>ae.qv (bO J J J e4 J J) J<|ae.qv (aX J J J) J<|aD h fun v5 e5 h=>aS J (AE e5) cR J<|rM J J<|rM J J<|ae.qv (bc J J) J<|ae.qv (nR J J) J<|ae.qv (bc J J) J<|rM J J<|aD h fun v6 e6 h=>aS J (AE e6) cR J<|rA J J<|rN<|ab.ret<|?_
  cases h
  exact hH J [0] J ⟨J,J⟩
theorem iL [GI:bD] {aP:Bk} {aa:ah} {ai:List bq} {r:bq×ah} (h:fh aa ai=some r):aF Tryz.prog 43 [.ptr aP 0,JN ai] [(aP,.cells [fc aa.L,I aa.at_])] (T0 ([(aP,.cells [fc r.2.L,I r.2.at_])]) (.str r.1)):=by
 unfold fh at h
 refine aF.ia ?_
 refine aF.bC Tryz.func43 J Tryz.ntmps43 Tryz.results43 J J ?_
 refine aE<|rA J J<|rN<|aE<|rM J J<|rM J J<|rM J J<|ae.qv (cV J) J<|aD h fun v1 e1 h=>aZ J (gD e1) cR (.cons .p0 .nil) J J<|aD h fun v2 e2 h=>ae.qv (bO J J J e2 J J) J<|ae.qv (aX J J J) J<|rA J J<|rN<|ab.ret<|?_
 cases h
 exact hH J [0] J ⟨J,J⟩
theorem bR [GI:bD] {aP:Bk} {aa:ah} {ai:List Int} {r:Int×ah} (h:bP aa ai=some r):aF Tryz.prog 9 [.ptr aP 0,fc ai] [(aP,.cells [fc aa.L,I aa.at_])] (T0 ([(aP,.cells [fc r.2.L,I r.2.at_])]) (I r.1)):=by
 unfold bP at h
 refine aF.ia ?_
 refine aF.bC Tryz.func9 J Tryz.ntmps9 Tryz.results9 J J ?_
 refine aE<|rA J J<|rN<|aE<|rM J J<|rM J J<|rM J J<|ae.qv (cV J) J<|aD h fun v1 e1 h=>aZ J (gD e1) cR (.cons .p0 .nil) J J<|aD h fun v2 e2 h=>ae.qv (bO J J J e2 J J) J<|ae.qv (aX J J J) J<|rA J J<|rN<|ab.ret<|?_
 cases h
 exact hH J [0] J ⟨J,J⟩
theorem Ez [GI:bD] {aa:Int} {r:Version} (h:whole aa=r):Pu Tryz.prog 46 [I aa] (Version.av r):=by
 unfold whole at h
 refine aF.bC Tryz.func46 J Tryz.ntmps46 Tryz.results46 J J ?_
 refine aE<|ca J J J J fun b1=>rN<|aE<|rM J J<|ae.qv (fV J J J J J) J<|ay J J J J .p0 J J<|rN<|ab.ret<|?_
 obtain rfl:=h
 exact aj.here ⟨_,.cons (.all _ _ _ _ _ _ J .p0 ax.h aV.h J J) .nil,J⟩
theorem eT [GI:bD] {aP:Bk} {aa:ah} {ai:Int} {r:Bool×ah} (h:dB aa ai=some r):aF Tryz.prog 35 [.ptr aP 0,I ai] [(aP,.cells [fc aa.L,I aa.at_])] (T0 ([(aP,.cells [fc r.2.L,I r.2.at_])]) (.bool r.1)):=by
 unfold dB at h
 refine aF.ia ?_
 refine aF.bC Tryz.func35 J Tryz.ntmps35 Tryz.results35 J J ?_
 refine aE<|rA J J<|rN<|aE<|rM J J<|rM J J<|aD h fun v1 e1 h=>aZ J (gD e1) cR (.cons .p0 .nil) J J<|ae.qv (cC J J) J<|rA J J<|rN<|ab.ret<|?_
 cases h
 exact hH J [0] J ⟨J,J⟩
theorem qM [GI:bD] {aP:Bk} {aa:ah} {r:Campaign×ah} (h:fN aa=some r):aF Tryz.prog 41 [.ptr aP 0] [(aP,.cells [fc aa.L,I aa.at_])] (T1 (fun x7=>[(aP,.cells [fc r.2.L,I r.2.at_]),(x7,HE r.1.aB)]) (fun x7=>.agg [.str r.1.Key,I r.1.Target.aN,I r.1.Target.aO,I r.1.Target.aM,I r.1.At,.sl 4 x7 0 r.1.aB.length,I r.1.bh.eU,I r.1.bh.To,I r.1.Room])):=by
 unfold fN at h
 refine aF.ia ?_
 refine aF.bC Tryz.func41 J Tryz.ntmps41 Tryz.results41 J J ?_
 refine aE<|ca J J J J fun b1=>rN<|aE<|rM J J<|aU (xs:=([([99]:bq),([107]:bq),([122,57]:bq)]).map AV.str) J J J J J J<|aD h fun v2 e1 h=>aZ J (iL e1) cR (.cons .p1 .nil) J J<|rM J J<|aU (xs:=([(2:Int),(3:Int),(4:Int)]).map I) J J J J J J<|aD h fun v3 e2 h=>aZ J (bR e2) cR (.cons .p0 .nil) J J<|aS J (Ez J) cR J<|rM J J<|aU (xs:=([(0:Int),(10:Int),(100:Int)]).map I) J J J J J J<|aD h fun v4 e3 h=>aZ J (bR e3) cR (.cons .p0 .nil) J J<|rM J J<|aU (xs:=([(1:Int),(2:Int),(5:Int)]).map I) J J J J J J<|aD h fun v5 e4 h=>aZ J (bR e4) cR (.cons .p0 .nil) J J<|ae.qv (fV J J J J J) J<|ca J J J J fun b6=>ay J J J J .p0 J J<|rN<|aE<|aU (xs:=([(1000:Int)]).map I) J J J J J J<|aU (xs:=([(500:Int),(500:Int)]).map I) J J J J J J<|aU (xs:=([(200:Int),(300:Int),(500:Int)]).map I) J J J J J J<|aU (xs:=([(100:Int),(900:Int)]).map I) J J J J J J<|aU (xs:=([[(1000:Int)],[(500:Int),(500:Int)],[(200:Int),(300:Int),(500:Int)],[(100:Int),(900:Int)]]).map (P4 1 I)) J J J J J J<|rM J J<|aD h fun v7 e5 h=>aZ J (gD e5) cR (.cons .p1 .nil) J J<|aD h fun v8 e6 h=>ae.qv (bO J J J e6 J J) J<|ae.qv (aX J J J) J<|rA J J<|rN<|tS<|aE<|rM J J<|ae.qv (cV J) J<|rM J J<|rN<|ab.block<|ab.cM (fun x:(List Int)×Int×(List iI)×Int=>eK v2 v3 v4 v5 v8 x.1 x.2.1 x.2.2.1 x.2.2.2) (fun x aC=>∃ (Gh:Bk),aC=⟨64,[(0,.ptr aP 0),(2,.ptr b1 0),(3,.ptr b6 0),(30,fc v8),(31,I (v8.length:Int)),(32,I x.2.2.2)],[(aP,.cells [fc x.1,I x.2.1]),(b1,.cells [.str [],I (0:Int),I (0:Int),I (0:Int),I (0:Int),.nil,I (0:Int),I (0:Int),I (0:Int)]),(b6,.cells [.str v2.1,I ((whole v3.1).aN),I ((whole v3.1).aO),I ((whole v3.1).aM),I v4.1,.sl 4 Gh 0 x.2.2.1.length,I (0:Int),I (0:Int),I v5.1]),(Gh,HE x.2.2.1)]⟩) h ?_ ?_
 ·exact aj.G8 (j:=5) 4 (fun _=>.p1) J (fun _=>J) (fun _=>J) fun pa=>aj.lq [1,2,1,0] ⟨pa,J⟩ J J
 ·intro x z1 aC J1 fy h jt fj
  obtain ⟨wo,n15,tw,n18⟩:=x
  obtain ⟨Gh,rfl⟩:=fy
  replace h:eK v2 v3 v4 v5 v8 wo n15 tw n18=some z1:=h
  unfold eK at h
  refine aE<|ae.qv (bG J J) J<|rN<|tS<|cD h J (fun h=>?_) (fun h=>?_)
  ·refine tK<|tS<|ab.block<|aE<|aD h fun v20 e7 h=>ae.qv (bO J J J e7 J J) J<|ae.qv (aX J J J) J<|rA J J<|rN<|aD h fun v21 e8 h=>aD h fun v22 e9 h=>aD h fun v23 AF h=>ab.j6 (id:=6) (A:=[0,1,0,0,0,24,0,0,248,0,0,2040,4092,8188,16383,32767,65535]) (H0:=[(aP,.cells [fc wo,I n15])]) (HH:=fun β=>[(aP,.cells [fc v23.2.L,I v23.2.at_]),(b1,.cells [.str [],I (0:Int),I (0:Int),I (0:Int),I (0:Int),.nil,I (0:Int),I (0:Int),I (0:Int)]),(b6,.cells [.str v2.1,I ((whole v3.1).aN),I ((whole v3.1).aO),I ((whole v3.1).aM),I v4.1,.sl 4 Gh 0 tw.length,I (0:Int),I (0:Int),I v5.1]),(Gh,HE tw)]) 14 mixed J (by kernel_rfl) (by kernel_rfl) [⟨none,some 5,[],fun _=>(aP,.cells [fc wo,I n15]),none,[]⟩,⟨some 5,some 8,[],fun _=>(aP,.cells [fc v21.2.L,I v21.2.at_]),none,[]⟩,⟨some 8,some 11,[],fun _=>(aP,.cells [fc v22.2.L,I v22.2.at_]),none,[]⟩,⟨some 11,none,[],fun _=>(aP,.cells [fc v23.2.L,I v23.2.at_]),none,[]⟩] [] J (by kernel_rfl) J (.cons .p0 .nil) (fun _=>J)<|AT.am 5 J J<|AM.qv (aG J J) J<|AM.qv (ba J J .p1 J) J<|AM.qv (aA J) J<|AM.qv (aA J) J<|AM.jj (xs:=([(0:Int),(0:Int),(10:Int),(30:Int)]).map I) J J J J J J<|AM.nil<|AT.xD (av:=I v21.1) (Ti:=[(aP,.cells [fc wo,I n15])]) (Pi:=[(aP,.cells [fc v21.2.L,I v21.2.at_])]) (fun _=>J) (fun _=>J) (fun _=>J) J J J ?_ ?_
   ·exact aZ J (bR e8) cR (.cons .p0 .nil) J J<|ae.nil ⟨_,J,J⟩
   refine AT.am 2 J J<|AM.qv (aA J) J<|AM.jj (xs:=([(1:Int),(1:Int),(2:Int),(3:Int)]).map I) J J J J J J<|AM.nil<|AT.xD (av:=I v22.1) (Ti:=[(aP,.cells [fc v21.2.L,I v21.2.at_])]) (Pi:=[(aP,.cells [fc v22.2.L,I v22.2.at_])]) (fun _=>J) (fun _=>J) (fun _=>J) J J J ?_ ?_
   ·exact aZ J (bR e9) cR (.cons .p0 .nil) J J<|ae.nil ⟨_,J,J⟩
   refine AT.am 2 J J<|AM.qv (aA J) J<|AM.jj (xs:=([(0:Int),(300:Int),(500:Int),(1000:Int)]).map I) J J J J J J<|AM.nil<|AT.xD (av:=I v23.1) (Ti:=[(aP,.cells [fc v22.2.L,I v22.2.at_])]) (Pi:=[(aP,.cells [fc v23.2.L,I v23.2.at_])]) (fun _=>J) (fun _=>J) (fun _=>J) J J J ?_ ?_
   ·exact aZ J (bR AF) cR (.cons .p0 .nil) J J<|ae.nil ⟨_,J,J⟩
   refine AT.am 2 J J<|AM.qv (fV J J J J J) J<|AM.jj (xs:=([(⟨v20,v21.1,v22.1,v23.1⟩:iI)]).map iI.av) J J J J J J<|AM.nil<|AT.uE (fun _=>J) fun β=>aD h fun vm AG h=>kU (g:=iI.av) J J J J J J J J (.list _) AG (fun _=>.p3) J fun Ck=>rF J J J<|ay J J J J .p2 J J<|rN<|ab.bY<|tR<|ae.qv (bc J J) J<|rM J J<|rN<|ab.stop<|?_
   cases h
   exact jt _ _ J<|aj.lq [0,0,0,0] ⟨Ck,J⟩ J J
  ·refine ab.exit J<|have h:=cj h fj;?_
   unfold iZ at h
   refine tS<|aE<|rM J J<|aD h fun v26 C1 h=>aZ J (eT C1) cR (.cons .p0 .nil) J J<|rN<|ab.cut (fun aC=>∃ (vl:List Int) (n28:Int) (n29:Int) (n30:Int),eJ v2 v3 v4 v5 tw vl n28 n29 n30=some r∧aC=⟨64,[(2,.ptr b1 0),(3,.ptr b6 0)],[(aP,.cells [fc vl,I n28]),(b1,.cells [.str [],I (0:Int),I (0:Int),I (0:Int),I (0:Int),.nil,I (0:Int),I (0:Int),I (0:Int)]),(b6,.cells [.str v2.1,I ((whole v3.1).aN),I ((whole v3.1).aO),I ((whole v3.1).aM),I v4.1,.sl 4 Gh 0 tw.length,I n29,I n30,I v5.1]),(Gh,HE tw)]⟩) ?_ ?_
   ·refine cB h J (fun h=>?_) (fun h=>?_)
    ·exact tR<|rM J J<|aU (xs:=([(0:Int),(50:Int),(3600000:Int)]).map I) J J J J J J<|aD h fun v31 FF h=>aZ J (bR FF) cR (.cons .p0 .nil) J J<|rM J J<|aU (xs:=([(0:Int),(40:Int),(200:Int),(86400000:Int)]).map I) J J J J J J<|aD h fun v32 Gi h=>aZ J (bR Gi) cR (.cons .p0 .nil) J J<|ae.qv (fV J J J J J) J<|rF J J J<|ay J J J J .p2 J J<|rN<|ab.stop<|aj.lq [0,0,0,0] ⟨v32.2.L,v32.2.at_,v31.1,v32.1,h,J⟩ J J
    ·exact tK<|ab.stop<|aj.lq [0,0,0,0] ⟨v26.2.L,v26.2.at_,(0:Int),(0:Int),h,J⟩ J J
   ·rintro aC ⟨vl,n28,n29,n30,h,rfl⟩
    unfold eJ at h
    refine aE<|ae.qv (aW J J .p2 J) J<|ay J J J J .p1 J J<|rN<|ab.ret<|?_
    cases h
    exact aj.here ⟨_,.cons (.all _ _ _ _ _ _ J .p1 ax.h aV.h J J) .nil,_,.cons .p0 (.cons .p2 .nil),⟨Gh,J,J⟩⟩
theorem mo [GI:bD] {aP:Bk} {aa:ah} {ai:Int} {au:Int} {r:Int×ah} (h:gq aa ai au=some r):aF Tryz.prog 11 [.ptr aP 0,I ai,I au] [(aP,.cells [fc aa.L,I aa.at_])] (T0 ([(aP,.cells [fc r.2.L,I r.2.at_])]) (I r.1)):=by
 unfold gq at h
 refine aF.ia ?_
 refine aF.bC Tryz.func11 J Tryz.ntmps11 Tryz.results11 J J ?_
 refine aE<|rA J J<|rN<|tS<|aE<|rM J J<|rM J J<|ae.qv (bG J J) J<|rN<|cD h J (fun h=>?_) (fun h=>?_)
 ·refine aE<|rM J J<|rA J J<|rN<|ab.ret<|?_
  cases h
  exact hH J [0] J ⟨J,J⟩
 ·refine tK<|aE<|rM J J<|rM J J<|rM J J<|rM J J<|ae.qv (cF J J) J<|ae.qv (bc J J) J<|aD h fun v1 e1 h=>aZ J (gD e1) cR (.cons .p0 .nil) J J<|ae.qv (bc J J) J<|rA J J<|rN<|ab.ret<|?_
  cases h
  exact hH J [0] J ⟨J,J⟩
theorem rz [GI:bD] {aP:Bk} {aa:ah} {r:Version×ah} (h:gj aa=some r):aF Tryz.prog 100 [.ptr aP 0] [(aP,.cells [fc aa.L,I aa.at_])] (T0 ([(aP,.cells [fc r.2.L,I r.2.at_])]) (Version.av r.1)):=by
 unfold gj at h
 refine aF.ia ?_
 refine aF.bC Tryz.func100 J Tryz.ntmps100 Tryz.results100 J J ?_
 refine aE<|ca J J J J fun b1=>rN<|aE<|rM J J<|aD h fun v2 e1 h=>aZ J (mo e1) cR (.cons .p1 .nil) J J<|rM J J<|aU (xs:=([(0:Int),(0:Int),(1:Int),(5:Int),(9999:Int)]).map I) J J J J J J<|aD h fun v3 e2 h=>aZ J (bR e2) cR (.cons .p0 .nil) J J<|rM J J<|aU (xs:=([(0:Int),(0:Int),(0:Int),(3:Int),(9999:Int)]).map I) J J J J J J<|aD h fun v4 e3 h=>aZ J (bR e3) cR (.cons .p0 .nil) J J<|ae.qv (fV J J J J J) J<|ay J J J J .p1 J J<|rN<|ab.ret<|?_
 cases h
 exact aj.here ⟨_,.cons (.all _ _ _ _ _ _ J .p1 ax.h aV.h J J) .nil,_,.cons .p0 .nil,⟨J,J⟩⟩
theorem eD [GI:bD] {aP:Bk} {aa:ah} {ai:Int} {au:Int} {r:Int×ah} (h:dC aa ai au=some r):aF Tryz.prog 36 [.ptr aP 0,I ai,I au] [(aP,.cells [fc aa.L,I aa.at_])] (T0 ([(aP,.cells [fc r.2.L,I r.2.at_])]) (I r.1)):=by
 unfold dC at h
 refine aF.ia ?_
 refine aF.bC Tryz.func36 J Tryz.ntmps36 Tryz.results36 J J ?_
 refine aE<|rA J J<|rN<|tS<|aE<|rM J J<|aD h fun v1 e1 h=>aZ J (eT e1) cR (.cons .p0 .nil) J J<|rN<|cB h J (fun h=>?_) (fun h=>?_)
 ·refine aE<|rM J J<|rM J J<|ae.qv (cF J J) J<|rM J J<|ae.qv (bc J J) J<|rM J J<|rM J J<|aU (xs:=([aJ (ai - (1:Int)),aJ (au+(1:Int)),ai,au,(-1099511627776:Int),(1099511627776:Int)]).map I) J J J J J J<|aD h fun v2 e2 h=>aZ J (bR e2) cR (.cons .p0 .nil) J J<|rA J J<|rN<|ab.ret<|?_
  cases h
  exact hH J [0] J ⟨J,J⟩
 ·refine tK<|aE<|rM J J<|rM J J<|rM J J<|aD h fun v3 e3 h=>aZ J (mo e3) cR (.cons .p0 .nil) J J<|rA J J<|rN<|ab.ret<|?_
  cases h
  exact hH J [0] J ⟨J,J⟩
theorem ql [GI:bD] {aP:Bk} {aa:ah} {r:Version×ah} (h:ja aa=some r):aF Tryz.prog 44 [.ptr aP 0] [(aP,.cells [fc aa.L,I aa.at_])] (T0 ([(aP,.cells [fc r.2.L,I r.2.at_])]) (Version.av r.1)):=by
 unfold ja at h
 refine aF.ia ?_
 refine aF.bC Tryz.func44 J Tryz.ntmps44 Tryz.results44 J J ?_
 refine aE<|ca J J J J fun b1=>rN<|aE<|rM J J<|aD h fun v2 e1 h=>aZ J (rz e1) cR (.cons .p1 .nil) J J<|ca J J J J fun b3=>ay J J J J .p0 J J<|rN<|tS<|aE<|rM J J<|aD h fun v4 e2 h=>aZ J (eT e2) cR (.cons .p1 .nil) J J<|rN<|ab.cut (fun aC=>∃ (l5:List Int) (n6:Int) (n7:Int) (n8:Int),iw v2 l5 n6 n7 n8=some r∧aC=⟨15,[(2,.ptr b1 0),(3,.ptr b3 0)],[(aP,.cells [fc l5,I n6]),(b1,.cells [I (0:Int),I (0:Int),I (0:Int)]),(b3,.cells [I v2.1.aN,I n7,I n8])]⟩) ?_ ?_
 ·refine cB h J (fun h=>?_) (fun h=>?_)
  ·exact aE<|rM J J<|aD h fun v9 e3 h=>aZ J (eD e3) cR (.cons .p0 .nil) J J<|rF J J J<|ay J J J J .p1 J J<|rN<|tR<|rM J J<|aD h fun v10 e4 h=>aZ J (eD e4) cR (.cons .p0 .nil) J J<|rF J J J<|ay J J J J .p1 J J<|rN<|ab.stop<|aj.lq [0,1,0] ⟨v10.2.L,v10.2.at_,v10.1,v9.1,h,J⟩ J J
  ·exact tK<|ab.stop<|aj.lq [0,1,0] ⟨v4.2.L,v4.2.at_,v2.1.aO,v2.1.aM,h,J⟩ J J
 ·rintro aC ⟨l5,n6,n7,n8,h,rfl⟩
  unfold iw at h
  refine aE<|ae.qv (aW J J .p2 J) J<|ay J J J J .p1 J J<|rN<|ab.ret<|?_
  cases h
  exact aj.here ⟨_,.cons (.all _ _ _ _ _ _ J .p1 ax.h aV.h J J) .nil,_,.cons .p0 .nil,⟨J,J⟩⟩
theorem uO [GI:bD] {aP:Bk} {aa:ah} {r:Campaign×ah} (h:jz aa=some r):aF Tryz.prog 7 [.ptr aP 0] [(aP,.cells [fc aa.L,I aa.at_])] (T0 ([(aP,.cells [fc r.2.L,I r.2.at_])]) (Campaign.av r.1)):=by
 unfold jz at h
 refine aF.ia ?_
 refine aF.bC Tryz.func7 J Tryz.ntmps7 Tryz.results7 J J ?_
 refine aE<|ca J J J J fun b1=>rN<|aE<|rM J J<|aD h fun v2 e1 h=>ow J (qM e1) cR (.cons .p1 .nil) (fun _=>J) J fun b3=>ca J J J J fun b4=>ay J J J J .p0 J J<|rN<|tS<|aE<|rM J J<|aD h fun v5 e2 h=>aZ J (eT e2) cR (.cons .p1 .nil) J J<|rN<|ab.cut (fun aC=>∃ (Q4:Bk) (l6:List Int) (n7:Int) (q8:bq) (n9:Int) (n10:Int) (n11:Int) (n12:Int) (wo:List iI) (n15:Int) (n16:Int) (n17:Int),gN l6 n7 q8 n9 n10 n11 n12 wo n15 n16 n17=some r∧aC=⟨54,[(2,.ptr b1 0),(3,.ptr b4 0)],[(aP,.cells [fc l6,I n7]),(b1,.cells [.str [],I (0:Int),I (0:Int),I (0:Int),I (0:Int),.nil,I (0:Int),I (0:Int),I (0:Int)]),(b4,.cells [.str q8,I n9,I n10,I n11,I n12,.sl 4 Q4 0 wo.length,I n15,I n16,I n17]),(Q4,HE wo)]⟩) ?_ ?_
 ·refine cB h J (fun h=>?_) (fun h=>?_)
  ·refine aE<|rM J J<|aD h fun eS e3 h=>aZ J (gD e3) cR (.cons .p0 .nil) J J<|rN<|ab.block<|aE<|ae.qv (cC J J) J<|rA J J<|rN<|ab.cut (fun aC=>∃ (vG:Bk) (yJ:List Int) (n20:Int) (MR:bq) (n22:Int) (n23:Int) (n24:Int) (n25:Int) (vl:List iI) (n28:Int) (n29:Int) (n30:Int),gO yJ n20 MR n22 n23 n24 n25 vl n28 n29 n30=some r∧aC=⟨54,[(2,.ptr b1 0),(3,.ptr b4 0)],[(aP,.cells [fc yJ,I n20]),(b1,.cells [.str [],I (0:Int),I (0:Int),I (0:Int),I (0:Int),.nil,I (0:Int),I (0:Int),I (0:Int)]),(b4,.cells [.str MR,I n22,I n23,I n24,I n25,.sl 4 vG 0 vl.length,I n28,I n29,I n30]),(vG,HE vl)]⟩) ?_ ?_
   ·refine cD h J (fun h=>?_) (fun h=>?_)
    ·exact tR<|rM J J<|aU (xs:=([([]:bq),([65]:bq)]).map AV.str) J J J J J J<|aD h fun v31 e4 h=>aZ J (iL e4) cR (.cons .p0 .nil) J J<|rF J J J<|ay J J J J .p1 J J<|rN<|ab.stop<|aj.lq [0,2,0,0] ⟨b3,v31.2.L,v31.2.at_,v31.1,v2.1.Target.aN,v2.1.Target.aO,v2.1.Target.aM,v2.1.At,v2.1.aB,v2.1.bh.eU,v2.1.bh.To,v2.1.Room,h,J⟩ J J
    ·refine aE<|ae.qv (cC J J) J<|rA J J<|rN<|ab.cut (fun aC=>∃ (M5:Bk) (MS:List Int) (n33:Int) (n34:Int) (n35:Int) (n36:Int) (n37:Int) (LS:List iI) (n40:Int) (n41:Int) (n42:Int),gP v2 MS n33 n34 n35 n36 n37 LS n40 n41 n42=some r∧aC=⟨54,[(2,.ptr b1 0),(3,.ptr b4 0)],[(aP,.cells [fc MS,I n33]),(b1,.cells [.str [],I (0:Int),I (0:Int),I (0:Int),I (0:Int),.nil,I (0:Int),I (0:Int),I (0:Int)]),(b4,.cells [.str v2.1.Key,I n34,I n35,I n36,I n37,.sl 4 M5 0 LS.length,I n40,I n41,I n42]),(M5,HE LS)]⟩) ?_ ?_
     ·refine cD h J (fun h=>?_) (fun h=>?_)
      ·exact tR<|rM J J<|aD h fun Eo e5 h=>aZ J (ql e5) cR (.cons .p0 .nil) J J<|rF J J J<|ay J J J J .p1 J J<|rN<|ab.stop<|aj.lq [0,2,0,0] ⟨b3,Eo.2.L,Eo.2.at_,Eo.1.aN,Eo.1.aO,Eo.1.aM,v2.1.At,v2.1.aB,v2.1.bh.eU,v2.1.bh.To,v2.1.Room,h,J⟩ J J
      ·refine aE<|ae.qv (cC J J) J<|rA J J<|rN<|ab.cut (fun aC=>∃ (Pz:Bk) (MT:List Int) (n45:Int) (n46:Int) (LU:List iI) (n49:Int) (n50:Int) (n51:Int),gQ v2 MT n45 n46 LU n49 n50 n51=some r∧aC=⟨54,[(2,.ptr b1 0),(3,.ptr b4 0)],[(aP,.cells [fc MT,I n45]),(b1,.cells [.str [],I (0:Int),I (0:Int),I (0:Int),I (0:Int),.nil,I (0:Int),I (0:Int),I (0:Int)]),(b4,.cells [.str v2.1.Key,I v2.1.Target.aN,I v2.1.Target.aO,I v2.1.Target.aM,I n46,.sl 4 Pz 0 LU.length,I n49,I n50,I n51]),(Pz,HE LU)]⟩) ?_ ?_
       ·refine cD h J (fun h=>?_) (fun h=>?_)
        ·exact tR<|rM J J<|aD h fun LW e6 h=>aZ J (eD e6) cR (.cons .p0 .nil) J J<|rF J J J<|ay J J J J .p1 J J<|rN<|ab.stop<|aj.lq [0,2,0,0] ⟨b3,LW.2.L,LW.2.at_,LW.1,v2.1.aB,v2.1.bh.eU,v2.1.bh.To,v2.1.Room,h,J⟩ J J
        ·refine aE<|ae.qv (cC J J) J<|rA J J<|rN<|ab.cut (fun aC=>∃ (PA:Bk) (Ge:List Int) (MU:Int) (LV:List iI) (n57:Int) (Gf:Int) (n59:Int),gR v2 Ge MU LV n57 Gf n59=some r∧aC=⟨54,[(2,.ptr b1 0),(3,.ptr b4 0)],[(aP,.cells [fc Ge,I MU]),(b1,.cells [.str [],I (0:Int),I (0:Int),I (0:Int),I (0:Int),.nil,I (0:Int),I (0:Int),I (0:Int)]),(b4,.cells [.str v2.1.Key,I v2.1.Target.aN,I v2.1.Target.aO,I v2.1.Target.aM,I v2.1.At,.sl 4 PA 0 LV.length,I n57,I Gf,I n59]),(PA,HE LV)]⟩) ?_ ?_
         ·refine cD h J (fun h=>?_) (fun h=>?_)
          ·refine aD h fun v60 e7 h=>aD h fun HA e8 h=>aD h fun HB e9 h=>aD h fun Ep AF h=>ab.j6 (id:=12) (A:=[0,1,0,4,0,28,0,124,0,508,1020,2044,4095,8191,16383]) (H0:=[(aP,.cells [fc eS.2.L,I eS.2.at_])]) (HH:=fun β=>[(aP,.cells [fc Ep.2.L,I Ep.2.at_]),(b4,.cells (XG v2.1 b3)),(b3,HE v2.1.aB),(b1,.cells [.str [],I (0:Int),I (0:Int),I (0:Int),I (0:Int),.nil,I (0:Int),I (0:Int),I (0:Int)])]) 12 mixed J (by kernel_rfl) (by kernel_rfl) [⟨none,some 3,[],fun _=>(aP,.cells [fc eS.2.L,I eS.2.at_]),none,[]⟩,⟨some 3,some 5,[],fun _=>(aP,.cells [fc v60.2.L,I v60.2.at_]),none,[]⟩,⟨some 5,some 7,[],fun _=>(aP,.cells [fc HA.2.L,I HA.2.at_]),none,[]⟩,⟨some 7,some 9,[],fun _=>(aP,.cells [fc HB.2.L,I HB.2.at_]),none,[]⟩,⟨some 9,none,[],fun _=>(aP,.cells [fc Ep.2.L,I Ep.2.at_]),none,[]⟩] [] J (by kernel_rfl) J (.cons .p0 .nil) (fun _=>J)<|AT.am 3 J J<|AM.qv (aG J J) J<|AM.qv (ba J J .p0 J) J<|AM.qv (aA J) J<|AM.nil<|AT.xD (av:=I v60.1) (Ti:=[(aP,.cells [fc eS.2.L,I eS.2.at_])]) (Pi:=[(aP,.cells [fc v60.2.L,I v60.2.at_])]) (fun _=>J) (fun _=>J) (fun _=>J) J J J ?_ ?_
           ·exact aZ J (eD e7) cR (.cons .p0 .nil) J J<|ae.nil ⟨_,J,J⟩
           refine AT.am 1 J J<|AM.qv (aA J) J<|AM.nil<|AT.xD (av:=I HA.1) (Ti:=[(aP,.cells [fc v60.2.L,I v60.2.at_])]) (Pi:=[(aP,.cells [fc HA.2.L,I HA.2.at_])]) (fun _=>J) (fun _=>J) (fun _=>J) J J J ?_ ?_
           ·exact aZ J (eD e8) cR (.cons .p0 .nil) J J<|ae.nil ⟨_,J,J⟩
           refine AT.am 1 J J<|AM.qv (aA J) J<|AM.nil<|AT.xD (av:=I HB.1) (Ti:=[(aP,.cells [fc HA.2.L,I HA.2.at_])]) (Pi:=[(aP,.cells [fc HB.2.L,I HB.2.at_])]) (fun _=>J) (fun _=>J) (fun _=>J) J J J ?_ ?_
           ·exact aZ J (eD e9) cR (.cons .p0 .nil) J J<|ae.nil ⟨_,J,J⟩
           refine AT.am 1 J J<|AM.qv (aA J) J<|AM.nil<|AT.xD (av:=I Ep.1) (Ti:=[(aP,.cells [fc HB.2.L,I HB.2.at_])]) (Pi:=[(aP,.cells [fc Ep.2.L,I Ep.2.at_])]) (fun _=>J) (fun _=>J) (fun _=>J) J J J ?_ ?_
           ·exact aZ J (eD AF) cR (.cons .p0 .nil) J J<|ae.nil ⟨_,J,J⟩
           exact AT.am 2 J J<|AM.qv (fV J J J J J) J<|AM.jj (xs:=([(⟨v60.1,HA.1,HB.1,Ep.1⟩:iI)]).map iI.av) J J J J J J<|AM.nil<|AT.uE (fun _=>J) fun β=>aD h fun Q1 AG h=>kU (g:=iI.av) J J J J J J J J (.list _) AG (fun _=>.p2) J fun XK=>rF J J J<|ay J J J J .p1 J J<|rN<|ab.stop<|aj.lq [0,2,0,0] ⟨XK,Ep.2.L,Ep.2.at_,Q1,v2.1.bh.eU,v2.1.bh.To,v2.1.Room,h,J⟩ J J
          ·refine aE<|ae.qv (cC J J) J<|rA J J<|rN<|ab.cut (fun aC=>∃ (FB:List Int) (vE:Int) (n68:Int) (n69:Int) (FC:Int),gS v2 FB vE n68 n69 FC=some r∧aC=⟨54,[(2,.ptr b1 0),(3,.ptr b4 0)],[(aP,.cells [fc FB,I vE]),(b1,.cells [.str [],I (0:Int),I (0:Int),I (0:Int),I (0:Int),.nil,I (0:Int),I (0:Int),I (0:Int)]),(b4,.cells [.str v2.1.Key,I v2.1.Target.aN,I v2.1.Target.aO,I v2.1.Target.aM,I v2.1.At,.sl 4 b3 0 v2.1.aB.length,I n68,I n69,I FC]),(b3,HE v2.1.aB)]⟩) ?_ ?_
           ·refine cD h J (fun h=>?_) (fun h=>?_)
            ·exact tR<|rM J J<|aD h fun LX C1 h=>aZ J (eD C1) cR (.cons .p0 .nil) J J<|rM J J<|aD h fun v72 FF h=>aZ J (eD FF) cR (.cons .p0 .nil) J J<|ae.qv (fV J J J J J) J<|rF J J J<|ay J J J J .p1 J J<|rN<|ab.stop<|aj.lq [0,2,0,0] ⟨v72.2.L,v72.2.at_,LX.1,v72.1,v2.1.Room,h,J⟩ J J
            ·exact tR<|rM J J<|aD h fun DB Gi h=>aZ J (eD Gi) cR (.cons .p0 .nil) J J<|rF J J J<|ay J J J J .p1 J J<|rN<|ab.stop<|aj.lq [0,2,0,0] ⟨DB.2.L,DB.2.at_,v2.1.bh.eU,v2.1.bh.To,DB.1,h,J⟩ J J
           ·rintro aC ⟨FB,vE,n68,n69,FC,h,rfl⟩
            unfold gS at h
            exact ab.stop<|aj.lq [0,0,0,0] ⟨b3,FB,vE,v2.1.aB,n68,n69,FC,h,J⟩ J J
         ·rintro aC ⟨PA,Ge,MU,LV,n57,Gf,n59,h,rfl⟩
          unfold gR at h
          exact ab.stop<|aj.lq [0,0,0,0] ⟨PA,Ge,MU,v2.1.At,LV,n57,Gf,n59,h,J⟩ J J
       ·rintro aC ⟨Pz,MT,n45,n46,LU,n49,n50,n51,h,rfl⟩
        unfold gQ at h
        exact ab.stop<|aj.lq [0,0,0,0] ⟨Pz,MT,n45,v2.1.Target.aN,v2.1.Target.aO,v2.1.Target.aM,n46,LU,n49,n50,n51,h,J⟩ J J
     ·rintro aC ⟨M5,MS,n33,n34,n35,n36,n37,LS,n40,n41,n42,h,rfl⟩
      unfold gP at h
      exact ab.stop<|aj.lq [0,0,0,0] ⟨M5,MS,n33,v2.1.Key,n34,n35,n36,n37,LS,n40,n41,n42,h,J⟩ J J
   ·rintro aC ⟨vG,yJ,n20,MR,n22,n23,n24,n25,vl,n28,n29,n30,h,rfl⟩
    unfold gO at h
    exact ab.bY<|ab.stop<|aj.lq [0,0,0,0] ⟨vG,yJ,n20,MR,n22,n23,n24,n25,vl,n28,n29,n30,h,J⟩ J J
  ·exact tK<|ab.stop<|aj.lq [0,2,0,0] ⟨b3,v5.2.L,v5.2.at_,v2.1.Key,v2.1.Target.aN,v2.1.Target.aO,v2.1.Target.aM,v2.1.At,v2.1.aB,v2.1.bh.eU,v2.1.bh.To,v2.1.Room,h,J⟩ J J
 ·rintro aC ⟨Q4,l6,n7,q8,n9,n10,n11,n12,wo,n15,n16,n17,h,rfl⟩
  unfold gN at h
  refine aE<|ae.qv (aW J J .p2 J) J<|ay J J J J .p1 J J<|rN<|ab.ret<|?_
  cases h
  exact aj.freeze .p3<|aj.NL (j:=5) .p1 J (Co.Da .p3) J J<|aj.here ⟨_,.cons (.all _ _ _ _ _ _ J .p1 ax.h aV.h J J) .nil,_,.cons .p0 .nil,⟨J,J⟩⟩
theorem tg [GI:bD] {aP:Bk} {aa:ah} {ai:Int} {r:(List DeviceS)×ah} (h:iy aa ai=some r):aF Tryz.prog 45 [.ptr aP 0,I ai] [(aP,.cells [fc aa.L,I aa.at_])] (T1 (fun qN=>[(aP,.cells [fc r.2.L,I r.2.at_]),(qN,L1 r.1)]) (fun qN=>.sl 7 qN 0 r.1.length)):=by
 unfold iy at h
 refine aF.ia ?_
 refine aF.bC Tryz.func45 J Tryz.ntmps45 Tryz.results45 J J ?_
 refine aE<|rA J J<|rN<|aE<|rA J J<|rN<|tS<|aE<|aU (xs:=([([100,49]:bq),([100,50]:bq),([100,51]:bq),([100,52]:bq),([100,53]:bq),([100,54]:bq)]).map AV.str) J J J J J J<|rM J J<|aD h fun l1 e1 h=>ae.qv (An J J .none (.some _ _ _ J) J J e1) J<|ae.qv (cV J) J<|rM J J<|rN<|ab.block<|ab.cM (fun x:(List Int)×Int×(List DeviceS)×Int=>fP l1 x.1 x.2.1 x.2.2.1 x.2.2.2) (fun x aC=>∃ (b9:Bk),aC=⟨36,[(0,.ptr aP 0),(5,.sl 7 b9 0 x.2.2.1.length),(10,JN l1),(11,I (l1.length:Int)),(12,I x.2.2.2)],[(aP,.cells [fc x.1,I x.2.1]),(b9,L1 x.2.2.1)]⟩) h ?_ ?_
 ·exact aj.arr (s:=5) 7 J fun rb=>aj.lq [1,0] ⟨rb,J⟩ J J
 ·intro x z1 aC J1 fy h jt fj
  obtain ⟨l7,n8,l10,n11⟩:=x
  obtain ⟨b9,rfl⟩:=fy
  replace h:fP l1 l7 n8 l10 n11=some z1:=h
  unfold fP at h
  refine aE<|ae.qv (bG J J) J<|rN<|tS<|cD h J (fun h=>?_) (fun h=>?_)
  ·refine tK<|tS<|ab.block<|aE<|aD h fun mG e2 h=>ae.qv (bO J J J e2 J J) J<|ae.qv (aX J J J) J<|rA J J<|rN<|aE<|rM J J<|aD h fun kJ e3 h=>aZ J (eT e3) cR (.cons .p0 .nil) J J<|ae.qv (cu J) J<|rN<|ab.cut (fun aC=>∃ (FG:Bk) (IJ:List Int) (n16:Int) (MW:List DeviceS),fO n11 IJ n16 MW=some z1∧aC=⟨36,[(0,.ptr aP 0),(5,.sl 7 FG 0 MW.length),(10,JN l1),(11,I (l1.length:Int)),(12,I n11)],[(aP,.cells [fc IJ,I n16]),(FG,L1 MW)]⟩) ?_ ?_
   ·refine cB h J (fun h=>?_) (fun h=>?_)
    ·exact tR<|rM J J<|rM J J<|rM J J<|aU (xs:=([([109]:bq),([109]:bq),([109]:bq),([110]:bq)]).map AV.str) J J J J J J<|aD h fun nO e4 h=>aZ J (iL e4) cR (.cons .p0 .nil) J J<|rM J J<|aU (xs:=([(1:Int),(1:Int),(1:Int),(2:Int),(3:Int)]).map I) J J J J J J<|aD h fun v20 e5 h=>aZ J (bR e5) cR (.cons .p0 .nil) J J<|rM J J<|aU (xs:=([(0:Int),(0:Int),(5:Int)]).map I) J J J J J J<|aD h fun v21 e6 h=>aZ J (bR e6) cR (.cons .p0 .nil) J J<|ae.qv (fV J J J J J) J<|ae.qv (fV J J J J J) J<|aU (xs:=[.agg [.str mG,.str nO.1,.str ([116]:bq),I v20.1,I v21.1,I (0:Int),.nil]]) J J J J J J<|ae.ghost<|aj.Vd (s:=32) (ep:=.list 7 (([(⟨mG,nO.1,([116]:bq),(⟨v20.1,v21.1,(0:Int)⟩:Version),[]⟩:DeviceS)]:List DeviceS).map DeviceS.av)) J (Aq.NM (.cons .r (.cons .r (.cons .r (.cons .r (.cons .r (.cons .r (.cons .n .nil))))))) J J)<|aj.here<|aD h fun Q2 e7 h=>kU (g:=DeviceS.av) J J J J J J J J (.list _) e7 (fun _=>.p1) J fun Ut=>rA J J<|rN<|ab.stop<|aj.lq [0,0] ⟨Ut,v21.2.L,v21.2.at_,Q2,h,J⟩ J J
    ·exact tK<|ab.stop<|aj.lq [0,0] ⟨b9,kJ.2.L,kJ.2.at_,l10,h,J⟩ J J
   ·rintro aC ⟨FG,IJ,n16,MW,h,rfl⟩
    unfold fO at h
    refine ab.bY<|tR<|ae.qv (bc J J) J<|rM J J<|rN<|ab.stop<|?_
    cases h
    exact jt _ _ J<|aj.lq [0,0] ⟨FG,J⟩ J J
  ·refine ab.exit J<|have h:=cj h fj;aE<|rM J J<|rA J J<|rN<|ab.ret<|?_
   cases h
   exact hH J [0,0] J ⟨b9,J,J⟩
theorem x8 [GI:bD] {aP:Bk} {aa:ah} {ai:Int} {r:(List DeviceS)×ah} (h:lX aa ai=some r):aF Tryz.prog 8 [.ptr aP 0,I ai] [(aP,.cells [fc aa.L,I aa.at_])] (T1 (fun qN=>[(aP,.cells [fc r.2.L,I r.2.at_]),(qN,L1 r.1)]) (fun qN=>.sl 7 qN 0 r.1.length)):=by
 unfold lX at h
 refine aF.ia ?_
 refine aF.bC Tryz.func8 J Tryz.ntmps8 Tryz.results8 J J ?_
 refine aE<|rA J J<|rN<|aE<|rM J J<|rM J J<|aD h fun v1 e1 h=>ow J (tg e1) cR (.cons .p0 .nil) (fun _=>J) J fun b2=>rA J J<|rN<|tS<|tS<|ab.cut (fun aC=>∃ (l3:List Int) (n4:Int) (c5:Bool),jB v1 l3 n4 c5=some r∧aC=⟨45,[(0,.ptr aP 0),(5,.sl 7 b2 0 v1.1.length),(16,.bool c5)],[(aP,.cells [fc l3,I n4]),(b2,L1 v1.1)]⟩) ?_ ?_
 ·refine tR<|rM J J<|ae.qv (iX J) J<|ae.qv (fL J J) J<|rM J J<|gT h J J J (fun h=>?_) (fun h=>?_)
  ·exact rM J J<|rY J J J<|aD h fun v6 e2 h=>aZ J (eT e2) cR (.cons .p0 .nil) J J<|rT J J J<|rN<|ab.stop<|aj.lq [0,0] ⟨v6.2.L,v6.2.at_,v6.1,h,J⟩ J J
  ·exact rG J J J J<|rE J J J<|rN<|ab.stop<|aj.lq [0,0] ⟨v1.2.L,v1.2.at_,false,h,J⟩ J J
 ·rintro aC ⟨l3,n4,c5,h,rfl⟩
  unfold jB at h
  refine ab.cut (fun aC=>∃ (l7:List Int) (n8:Int) (l9:List DeviceS),jA l7 n8 l9=some r∧aC=⟨45,[(5,.sl 7 b2 0 l9.length)],[(aP,.cells [fc l7,I n8]),(b2,L1 l9)]⟩) ?_ ?_
  ·refine cB h J (fun h=>?_) (fun h=>?_)
   ·exact aE<|rM J J<|rM J J<|rM J J<|ae.qv (iX J) J<|aD h fun v10 e3 h=>aZ J (gD e3) cR (.cons .p0 .nil) J J<|aD h fun v11 e4 h=>ae.qv (aQ J J J e4) J<|rA J J<|rN<|tR<|rM J J<|rM J J<|rM J J<|rM J J<|rM J J<|ae.qv (lh J) J<|ae.qv (ox J J) J<|ae.qv (cN (g:=DeviceS.av) J J (.inl .p1) e4 J) J<|aU (xs:=([v11.Key,([]:bq),([100,49]:bq)]).map AV.str) J J J J J J<|aD h fun v12 e5 h=>aZ J (iL e5) cR (.cons .p0 .nil) J J<|rM J J<|aU (xs:=([([109]:bq),([]:bq)]).map AV.str) J J J J J J<|aD h fun mG e6 h=>aZ J (iL e6) cR (.cons .p0 .nil) J J<|rM J J<|aD h fun kJ e7 h=>aZ J (ql e7) cR (.cons .p0 .nil) J J<|ae.qv (lh J) J<|ae.qv (ox J J) J<|bQ (g:=DeviceS.av) (vv:=(⟨v12.1,v11.Model,v11.de,v11.bn,v11.j0⟩:DeviceS)) J J J J e4 J .p1 J<|ae.ghost<|aj.eqs (s:=5) (ep:=.sl 7 b2 0 (v1.1.set v10.1.toNat (⟨v12.1,v11.Model,v11.de,v11.bn,v11.j0⟩:DeviceS)).length) J (by rw [List.length_set])<|aj.here<|ae.ghost<|aj.eqs (s:=17) (ep:=.sl 7 b2 0 (v1.1.set v10.1.toNat (⟨v12.1,v11.Model,v11.de,v11.bn,v11.j0⟩:DeviceS)).length) J (by rw [List.length_set])<|aj.here<|ae.ghost<|aj.eqs (s:=19) (ep:=.sl 7 b2 0 (v1.1.set v10.1.toNat (⟨v12.1,v11.Model,v11.de,v11.bn,v11.j0⟩:DeviceS)).length) J (by rw [List.length_set])<|aj.here<|ae.qv (lh J) J<|ae.qv (ox J J) J<|bQ (g:=DeviceS.av) (vv:=(⟨v12.1,mG.1,v11.de,v11.bn,v11.j0⟩:DeviceS)) J J J J (lW (v:=(⟨v12.1,v11.Model,v11.de,v11.bn,v11.j0⟩:DeviceS)) e4) J .p1 J<|ae.ghost<|aj.eqs (s:=5) (ep:=.sl 7 b2 0 ((v1.1.set v10.1.toNat (⟨v12.1,v11.Model,v11.de,v11.bn,v11.j0⟩:DeviceS)).set v10.1.toNat (⟨v12.1,mG.1,v11.de,v11.bn,v11.j0⟩:DeviceS)).length) J (by rw [List.length_set])<|aj.here<|ae.ghost<|aj.eqs (s:=17) (ep:=.sl 7 b2 0 ((v1.1.set v10.1.toNat (⟨v12.1,v11.Model,v11.de,v11.bn,v11.j0⟩:DeviceS)).set v10.1.toNat (⟨v12.1,mG.1,v11.de,v11.bn,v11.j0⟩:DeviceS)).length) J (by rw [List.length_set])<|aj.here<|ae.ghost<|aj.eqs (s:=19) (ep:=.sl 7 b2 0 ((v1.1.set v10.1.toNat (⟨v12.1,v11.Model,v11.de,v11.bn,v11.j0⟩:DeviceS)).set v10.1.toNat (⟨v12.1,mG.1,v11.de,v11.bn,v11.j0⟩:DeviceS)).length) J (by rw [List.length_set])<|aj.here<|ae.qv (lh J) J<|ae.qv (ox J J) J<|bQ (g:=DeviceS.av) (vv:=(⟨v12.1,mG.1,v11.de,kJ.1,v11.j0⟩:DeviceS)) J J J J (lW (v:=(⟨v12.1,mG.1,v11.de,v11.bn,v11.j0⟩:DeviceS)) (lW (v:=(⟨v12.1,v11.Model,v11.de,v11.bn,v11.j0⟩:DeviceS)) e4)) J .p1 J<|ae.ghost<|aj.eqs (s:=5) (ep:=.sl 7 b2 0 (((v1.1.set v10.1.toNat (⟨v12.1,v11.Model,v11.de,v11.bn,v11.j0⟩:DeviceS)).set v10.1.toNat (⟨v12.1,mG.1,v11.de,v11.bn,v11.j0⟩:DeviceS)).set v10.1.toNat (⟨v12.1,mG.1,v11.de,kJ.1,v11.j0⟩:DeviceS)).length) J (by rw [List.length_set])<|aj.here<|ae.ghost<|aj.eqs (s:=17) (ep:=.sl 7 b2 0 (((v1.1.set v10.1.toNat (⟨v12.1,v11.Model,v11.de,v11.bn,v11.j0⟩:DeviceS)).set v10.1.toNat (⟨v12.1,mG.1,v11.de,v11.bn,v11.j0⟩:DeviceS)).set v10.1.toNat (⟨v12.1,mG.1,v11.de,kJ.1,v11.j0⟩:DeviceS)).length) J (by rw [List.length_set])<|aj.here<|ae.ghost<|aj.eqs (s:=19) (ep:=.sl 7 b2 0 (((v1.1.set v10.1.toNat (⟨v12.1,v11.Model,v11.de,v11.bn,v11.j0⟩:DeviceS)).set v10.1.toNat (⟨v12.1,mG.1,v11.de,v11.bn,v11.j0⟩:DeviceS)).set v10.1.toNat (⟨v12.1,mG.1,v11.de,kJ.1,v11.j0⟩:DeviceS)).length) J (by rw [List.length_set])<|aj.here<|rN<|ab.stop<|aj.lq [0,0] ⟨kJ.2.L,kJ.2.at_,((v1.1.set v10.1.toNat (⟨v12.1,v11.Model,v11.de,v11.bn,v11.j0⟩:DeviceS)).set v10.1.toNat (⟨v12.1,mG.1,v11.de,v11.bn,v11.j0⟩:DeviceS)).set v10.1.toNat (⟨v12.1,mG.1,v11.de,kJ.1,v11.j0⟩:DeviceS),h,J⟩ J J
   ·exact tK<|ab.stop<|aj.lq [0,0] ⟨l3,n4,v1.1,h,J⟩ J J
  ·rintro aC ⟨l7,n8,l9,h,rfl⟩
   unfold jA at h
   refine aE<|rM J J<|rA J J<|rN<|ab.ret<|?_
   cases h
   exact hH J [0,0] J ⟨b2,J,J⟩
theorem HF [GI:bD] {aa:Int} {r:Int} (h:x5 aa=r):Pu Tryz.prog 102 [I aa] (I r):=by
 unfold x5 at h
 refine aF.bC Tryz.func102 J Tryz.ntmps102 Tryz.results102 J J ?_
 refine aE<|rA J J<|rN<|tS<|ab.block<|aE<|rM J J<|ae.qv (bG J J) J<|rA J J<|rN<|cD h J (fun h=>?_) (fun h=>?_)
 ·refine aE<|rA J J<|rN<|ab.ret<|?_
  obtain rfl:=h
  exact hP J J
 ·refine aE<|rM J J<|ae.qv (fL J J) J<|rA J J<|rN<|cD h J (fun h=>?_) (fun h=>?_)
  ·refine aE<|rA J J<|rN<|ab.ret<|?_
   obtain rfl:=h
   exact hP J J
  ·refine tK<|ab.bY<|aE<|rA J J<|rN<|ab.ret<|?_
   obtain rfl:=h
   exact hP J J
theorem nu [GI:bD] {aa:MarkS} {ai:MarkS} {r:Int} (h:eM aa ai=r):Pu Tryz.prog 48 [MarkS.av aa,MarkS.av ai] (I r):=by
 unfold eM at h
 refine aF.bC Tryz.func48 J Tryz.ntmps48 Tryz.results48 J J ?_
 refine aE<|gi J J J J fun b1=>gi J J J J fun b2=>rA J J<|rN<|tS<|aE<|rF J J J<|rL J J .p1 J J<|rF J J J<|rL J J .p0 J J<|ae.qv (kT J J) J<|rN<|cD h J (fun h=>?_) (fun h=>?_)
 ·refine aE<|rF J J J<|rL J J .p1 J J<|rF J J J<|rL J J .p0 J J<|ae.qv (cF J J) J<|aS J (HF J) cR J<|rA J J<|rN<|ab.ret<|?_
  obtain rfl:=h
  exact hP J J
 ·refine tK<|aE<|rF J J J<|rL J J .p1 J J<|rF J J J<|rL J J .p0 J J<|aS J (ph J) cR J<|rA J J<|rN<|ab.ret<|?_
  obtain rfl:=h
  exact hP J J
theorem gX [GI:bD] {aP:Bk} {aa:List MarkS} {ai:Int} {au:Int} {nU:MarkS→MarkS→Option Int} {zI:FuncId} [bw Tryz.prog zI] {Cl:List AV} (Ov:∀ {y0 y1:_} {u:Int},nU y0 y1=some u→Pu Tryz.prog zI (MarkS.av y0 :: MarkS.av y1 :: Cl) (I u)) {r:(List MarkS)} (h:bH aa ai au nU=some r):aF Tryz.prog 136 [.sl 6 aP 0 aa.length,I ai,I au,.func (.func zI) Cl] [(aP,fx aa)] (T0 ([(aP,fx r)]) (.kj [])):=by
 unfold bH at h
 refine aF.ia ?_
 refine aF.bC Tryz.func136 J Tryz.ntmps136 Tryz.results136 J J ?_
 refine aE<|rM J J<|ae.qv (bc J J) J<|rA J J<|rN<|ab.block<|ab.cM (fun x:(List MarkS)×Int=>bW ai au nU x.1 x.2) (fun x aC=>aC=⟨53,[(0,.sl 6 aP 0 x.1.length),(1,I ai),(2,I au),(3,.func (.func zI) Cl),(8,I x.2)],[(aP,fx x.1)]⟩) h ?_ ?_
 ·exact aj.lq [0] J J J
 ·intro x z1 aC J1 fy h jt fj
  obtain ⟨l3,n4⟩:=x
  obtain rfl:=fy
  replace h:bW ai au nU l3 n4=some z1:=h
  unfold bW at h
  refine tS<|aE<|rM J J<|rM J J<|ae.qv (bG J J) J<|rN<|cD h J (fun h=>?_) (fun h=>?_)
  ·refine tK<|tS<|ab.block<|aE<|rM J J<|rA J J<|rN<|ab.block<|ab.cM (fun x:(List MarkS)×Int=>cK ai nU n4 x.1 x.2) (fun x aC=>aC=⟨53,[(0,.sl 6 aP 0 x.1.length),(1,I ai),(2,I au),(3,.func (.func zI) Cl),(8,I n4),(9,I x.2)],[(aP,fx x.1)]⟩) h ?_ ?_
   ·exact aj.lq [0] J J J
   ·intro x z2 aC J2 fy h Cm Bh
    obtain ⟨l7,n8⟩:=x
    obtain rfl:=fy
    replace h:cK ai nU n4 l7 n8=some z2:=h
    unfold cK at h
    refine tS<|tS<|ab.cut (fun aC=>∃ (c9:Bool),cJ n4 l7 n8 c9=some z2∧aC=⟨53,[(0,.sl 6 aP 0 l7.length),(1,I ai),(2,I au),(3,.func (.func zI) Cl),(8,I n4),(9,I n8),(34,.bool c9)],[(aP,fx l7)]⟩) ?_ ?_
    ·refine ab.eh (id:=4) (A:=[0,0,3,7,15,15,15,111,239,15,15,1039,3599,7695,16383,32767,65535]) 17 mixed J (by kernel_rfl) (by kernel_rfl)<|AM.qv (aA J) J<|AM.qv (aA J) J<|AM.qv (fL J J) J<|AM.qv (aA J) J<|AM.cy J J J (fun hc=>?_) (fun hc=>?_)
     ·exact have h:=rm hc h;AM.qv (aA J) J<|AM.aq J J J<|AM.qv (aA J) J<|AM.aq J J J<|AM.qv (aA J) J<|AM.aq J J J<|aD h fun v10 e1 h=>AM.qv (aQ J J J e1) J<|AM.aq J J J<|AM.qv (bj (g:=MarkS.av) J J (.inl .p0) J e1 J) J<|AM.aq J J J<|AM.qv (aA J) J<|AM.aq J J J<|AM.qv (aA J) J<|AM.aq J J J<|AM.qv (cF J J) J<|AM.aq J J J<|aD h fun v11 e2 h=>AM.qv (aQ J J J e2) J<|AM.aq J J J<|AM.qv (bj (g:=MarkS.av) J J (.inl .p0) J e2 J) J<|AM.aq J J J<|aD h fun v12 e3 h=>AM.vB J J (Ov e3) cR J<|AM.aq J J J<|AM.qv (bG J J) J<|AM.qv (gI J J) J<|AM.nil<|rN<|ab.stop<|aj.lq [0] ⟨decide (v12 < (0:Int)),h,J⟩ J J
     ·exact have h:=yQ hc h;AM.ao J J J J<|AM.ao J J J J<|AM.ao J J J J<|AM.ao J J J J<|AM.ao J J J J<|AM.ao J J J J<|AM.ao J J J J<|AM.ao J J J J<|AM.ao J J J J<|AM.ao J J J J<|AM.ao J J J J<|AM.qv (fr J J) J<|AM.nil<|rN<|ab.stop<|aj.lq [0] ⟨false,h,J⟩ J J
    ·rintro aC ⟨c9,h,rfl⟩
     unfold cJ at h
     refine cB h J (fun h=>?_) (fun h=>?_)
     ·refine tK<|tS<|ab.block<|aD h fun mG e4 h=>aD h fun kJ e5 h=>aD h fun ig e6 h=>ab.j6 (id:=6) (A:=[0,0,0,0,8,0,0,64,224,480,0,0,3072,7168,16355,32739,65535,131071]) (H0:=[(aP,fx l7)]) (HH:=fun β=>[(aP,fx (l7.set n8.toNat mG))]) 16 mixed J (by kernel_rfl) (by kernel_rfl) [⟨none,some 15,[9,13],fun _=>(aP,fx l7),none,[]⟩,⟨some 15,none,[],fun _=>(aP,fx (l7.set n8.toNat mG)),none,[]⟩] [] J (by kernel_rfl) J (.cons .p0 .nil) (fun _=>J)<|AT.am 9 J J<|AM.qv (aA J) J<|AM.qv (aA J) J<|AM.qv (aA J) J<|AM.qv (aA J) J<|AM.qv (cF J J) J<|AM.qv (aA J) J<|AM.qv (aA J) J<|AM.qv (cF J J) J<|AM.qv (aQ J J J e4) J<|AM.nil<|AT.rd (Rs:=[(aP,fx l7)]) (fun _=>J) J (fun _=>J) (fun _=>J) (bj (g:=MarkS.av) J J (.inl .p0) J e4 J) J<|AT.am 3 J J<|AM.qv (aA J) J<|AM.qv (aA J) J<|AM.qv (aQ J J J e5) J<|AM.nil<|AT.rd (Rs:=[(aP,fx l7)]) (fun _=>J) J (fun _=>J) (fun _=>J) (bj (g:=MarkS.av) J J (.inl .p0) J e5 J) J<|AT.am 1 J J<|AM.qv (aQ J J J e6) J<|AM.nil<|AT.yS (Ti:=[(aP,fx l7)]) (Pi:=[(aP,fx (l7.set n8.toNat mG))]) (fun _=>J) (fun _=>J) (fun _=>J) J J ?_ ?_
      ·exact bQ (g:=MarkS.av) (vv:=mG) J J J J e6 J .p0 J<|ae.nil ⟨_,J⟩
      refine AT.uE (fun _=>J) fun β=>ae.ghost<|aj.eqs (s:=0) (ep:=.sl 6 aP 0 (l7.set n8.toNat mG).length) J (by simp)<|aj.here<|ae.ghost<|aj.eqs (s:=37) (ep:=.sl 6 aP 0 (l7.set n8.toNat mG).length) J (by simp)<|aj.here<|ae.ghost<|aj.eqs (s:=39) (ep:=.sl 6 aP 0 (l7.set n8.toNat mG).length) J (by simp)<|aj.here<|ae.ghost<|aj.eqs (s:=42) (ep:=.sl 6 aP 0 (l7.set n8.toNat mG).length) J (by simp)<|aj.here<|ae.ghost<|aj.eqs (s:=47) (ep:=.sl 6 aP 0 (l7.set n8.toNat mG).length) J (by simp)<|aj.here<|aD h fun uo e7 h=>ae.qv (aQ J J J e7) J<|bQ (g:=MarkS.av) (vv:=kJ) J J J J e7 J .p0 J<|ae.ghost<|aj.eqs (s:=0) (ep:=.sl 6 aP 0 ((l7.set n8.toNat mG).set (aJ (n8 - (1:Int))).toNat kJ).length) J (by rw [List.length_set])<|aj.here<|ae.ghost<|aj.eqs (s:=37) (ep:=.sl 6 aP 0 ((l7.set n8.toNat mG).set (aJ (n8 - (1:Int))).toNat kJ).length) J (by rw [List.length_set])<|aj.here<|ae.ghost<|aj.eqs (s:=39) (ep:=.sl 6 aP 0 ((l7.set n8.toNat mG).set (aJ (n8 - (1:Int))).toNat kJ).length) J (by rw [List.length_set])<|aj.here<|ae.ghost<|aj.eqs (s:=42) (ep:=.sl 6 aP 0 ((l7.set n8.toNat mG).set (aJ (n8 - (1:Int))).toNat kJ).length) J (by rw [List.length_set])<|aj.here<|ae.ghost<|aj.eqs (s:=47) (ep:=.sl 6 aP 0 ((l7.set n8.toNat mG).set (aJ (n8 - (1:Int))).toNat kJ).length) J (by rw [List.length_set])<|aj.here<|rN<|ab.bY<|tR<|rM J J<|ae.qv (cF J J) J<|rA J J<|rN<|ab.stop<|?_
      cases h
      exact Cm _ _ J<|aj.lq [0] J J J
     ·refine ab.exit J<|have h:=cj h Bh;ab.bY<|tR<|rM J J<|ae.qv (bc J J) J<|rA J J<|rN<|ab.stop<|?_
      cases h
      exact jt _ _ J<|aj.lq [0] J J J
  ·refine ab.exit J<|have h:=cj h fj;ab.nil<|?_
   cases h
   exact aj.here ⟨_,.nil,_,.cons .p0 .nil,⟨J,J⟩⟩
theorem fG [GI:bD] {aP:Bk} {aa:List MarkS} {ai:Int} {au:Int} {aK:Int} {jl:MarkS→MarkS→Option Int} {fe:FuncId} [bw Tryz.prog fe] {gp:List AV} (mH:∀ {y0 y1:_} {u:Int},jl y0 y1=some u→Pu Tryz.prog fe (MarkS.av y0 :: MarkS.av y1 :: gp) (I u)) {r:(List MarkS)} (h:cW aa ai au aK jl=some r):aF Tryz.prog 204 [.sl 6 aP 0 aa.length,I ai,I au,I aK,.func (.func fe) gp] [(aP,fx aa)] (T0 ([(aP,fx r)]) (.kj [])):=by
 unfold cW at h
 refine aF.ia ?_
 refine aF.bC Tryz.func204 J Tryz.ntmps204 Tryz.results204 J J ?_
 refine aE<|rA J J<|rN<|ab.block<|ab.cM (fun x:(List MarkS)×Int=>du ai au aK x.1 x.2) (fun x aC=>aC=⟨38,[(0,.sl 6 aP 0 x.1.length),(1,I ai),(2,I au),(3,I aK),(10,I x.2)],[(aP,fx x.1)]⟩) h ?_ ?_
 ·exact aj.lq [0] J J J
 ·intro x z1 aC J1 fy h jt fj
  obtain ⟨l3,n4⟩:=x
  obtain rfl:=fy
  replace h:du ai au aK l3 n4=some z1:=h
  unfold du at h
  refine tS<|aE<|rM J J<|rM J J<|ae.qv (bG J J) J<|rN<|cD h J (fun h=>?_) (fun h=>?_)
  ·refine tK<|tS<|ab.block<|aD h fun v5 e1 h=>aD h fun v6 e2 h=>aD h fun v7 e3 h=>ab.j6 (id:=3) (A:=[0,0,0,6,0,0,0,96,0,0,0,1536,3840,7936,0,0,0,98304,245760,507904,1048335,2096911,4194303,8388607]) (H0:=[(aP,fx l3)]) (HH:=fun β=>[(aP,fx (l3.set (aJ (ai+n4)).toNat v5))]) 22 mixed J (by kernel_rfl) (by kernel_rfl) [⟨none,some 21,[13,19],fun _=>(aP,fx l3),none,[]⟩,⟨some 21,none,[],fun _=>(aP,fx (l3.set (aJ (ai+n4)).toNat v5)),none,[]⟩] [] J (by kernel_rfl) J (.cons .p0 .nil) (fun _=>J)<|AT.am 13 J J<|AM.qv (aA J) J<|AM.qv (aA J) J<|AM.qv (aA J) J<|AM.qv (bc J J) J<|AM.qv (aA J) J<|AM.qv (aA J) J<|AM.qv (aA J) J<|AM.qv (bc J J) J<|AM.qv (aA J) J<|AM.qv (aA J) J<|AM.qv (aA J) J<|AM.qv (bc J J) J<|AM.qv (aQ J J J e1) J<|AM.nil<|AT.rd (Rs:=[(aP,fx l3)]) (fun _=>J) J (fun _=>J) (fun _=>J) (bj (g:=MarkS.av) J J (.inl .p0) J e1 J) J<|AT.am 5 J J<|AM.qv (aA J) J<|AM.qv (aA J) J<|AM.qv (aA J) J<|AM.qv (bc J J) J<|AM.qv (aQ J J J e2) J<|AM.nil<|AT.rd (Rs:=[(aP,fx l3)]) (fun _=>J) J (fun _=>J) (fun _=>J) (bj (g:=MarkS.av) J J (.inl .p0) J e2 J) J<|AT.am 1 J J<|AM.qv (aQ J J J e3) J<|AM.nil<|AT.yS (Ti:=[(aP,fx l3)]) (Pi:=[(aP,fx (l3.set (aJ (ai+n4)).toNat v5))]) (fun _=>J) (fun _=>J) (fun _=>J) J J ?_ ?_
   ·exact bQ (g:=MarkS.av) (vv:=v5) J J J J e3 J .p0 J<|ae.nil ⟨_,J⟩
   refine AT.uE (fun _=>J) fun β=>ae.ghost<|aj.eqs (s:=0) (ep:=.sl 6 aP 0 (l3.set (aJ (ai+n4)).toNat v5).length) J (by simp)<|aj.here<|ae.ghost<|aj.eqs (s:=16) (ep:=.sl 6 aP 0 (l3.set (aJ (ai+n4)).toNat v5).length) J (by simp)<|aj.here<|ae.ghost<|aj.eqs (s:=20) (ep:=.sl 6 aP 0 (l3.set (aJ (ai+n4)).toNat v5).length) J (by simp)<|aj.here<|ae.ghost<|aj.eqs (s:=24) (ep:=.sl 6 aP 0 (l3.set (aJ (ai+n4)).toNat v5).length) J (by simp)<|aj.here<|ae.ghost<|aj.eqs (s:=30) (ep:=.sl 6 aP 0 (l3.set (aJ (ai+n4)).toNat v5).length) J (by simp)<|aj.here<|aD h fun v8 e4 h=>ae.qv (aQ J J J e4) J<|bQ (g:=MarkS.av) (vv:=v6) J J J J e4 J .p0 J<|ae.ghost<|aj.eqs (s:=0) (ep:=.sl 6 aP 0 ((l3.set (aJ (ai+n4)).toNat v5).set (aJ (au+n4)).toNat v6).length) J (by rw [List.length_set])<|aj.here<|ae.ghost<|aj.eqs (s:=16) (ep:=.sl 6 aP 0 ((l3.set (aJ (ai+n4)).toNat v5).set (aJ (au+n4)).toNat v6).length) J (by rw [List.length_set])<|aj.here<|ae.ghost<|aj.eqs (s:=20) (ep:=.sl 6 aP 0 ((l3.set (aJ (ai+n4)).toNat v5).set (aJ (au+n4)).toNat v6).length) J (by rw [List.length_set])<|aj.here<|ae.ghost<|aj.eqs (s:=24) (ep:=.sl 6 aP 0 ((l3.set (aJ (ai+n4)).toNat v5).set (aJ (au+n4)).toNat v6).length) J (by rw [List.length_set])<|aj.here<|ae.ghost<|aj.eqs (s:=30) (ep:=.sl 6 aP 0 ((l3.set (aJ (ai+n4)).toNat v5).set (aJ (au+n4)).toNat v6).length) J (by rw [List.length_set])<|aj.here<|rN<|ab.bY<|tR<|rM J J<|ae.qv (bc J J) J<|rA J J<|rN<|ab.stop<|?_
   cases h
   exact jt _ _ J<|aj.lq [0] J J J
  ·refine ab.exit J<|have h:=cj h fj;ab.nil<|?_
   cases h
   exact aj.here ⟨_,.nil,_,.cons .p0 .nil,⟨J,J⟩⟩
theorem oA [GI:bD] {aP:Bk} {aa:List MarkS} {ai:Int} {au:Int} {aK:Int} {jl:MarkS→MarkS→Option Int} {fe:FuncId} [bw Tryz.prog fe] {gp:List AV} (mH:∀ {y0 y1:_} {u:Int},jl y0 y1=some u→Pu Tryz.prog fe (MarkS.av y0 :: MarkS.av y1 :: gp) (I u)) {r:(List MarkS)} (h:ib aa ai au aK jl=some r):aF Tryz.prog 176 [.sl 6 aP 0 aa.length,I ai,I au,I aK,.func (.func fe) gp] [(aP,fx aa)] (T0 ([(aP,fx r)]) (.kj [])):=by
 unfold ib at h
 refine aF.ia ?_
 refine aF.bC Tryz.func176 J Tryz.ntmps176 Tryz.results176 J J ?_
 refine aE<|rM J J<|rM J J<|ae.qv (cF J J) J<|rA J J<|rN<|aE<|rM J J<|rM J J<|ae.qv (cF J J) J<|rA J J<|rN<|tS<|ab.block<|ab.cM (fun x:(List MarkS)×Int×Int=>ew au jl x.1 x.2.1 x.2.2) (fun x aC=>aC=⟨58,[(0,.sl 6 aP 0 x.1.length),(2,I au),(4,.func (.func fe) gp),(10,I x.2.1),(11,I x.2.2)],[(aP,fx x.1)]⟩) h ?_ ?_
 ·exact aj.lq [0] J J J
 ·intro x z1 aC J1 fy h jt fj
  obtain ⟨l4,n5,n6⟩:=x
  obtain rfl:=fy
  replace h:ew au jl l4 n5 n6=some z1:=h
  unfold ew at h
  refine tS<|aE<|rM J J<|rM J J<|ae.qv (kT J J) J<|rN<|cD h J (fun h=>?_) (fun h=>?_)
  ·refine tK<|ab.block<|aE<|rM J J<|rM J J<|ae.qv (fL J J) J<|rN<|ab.cut (fun aC=>∃ (l7:List MarkS) (n8:Int) (n9:Int),eu l7 n8 n9=some z1∧aC=⟨58,[(0,.sl 6 aP 0 l7.length),(2,I au),(4,.func (.func fe) gp),(10,I n8),(11,I n9)],[(aP,fx l7)]⟩) ?_ ?_
   ·refine cD h J (fun h=>?_) (fun h=>?_)
    ·exact aE<|rM J J<|rM J J<|rM J J<|ae.qv (cF J J) J<|rM J J<|rM J J<|rM J J<|aD h fun v10 e1 h=>aZ J (fG mH (j9 e1)) cR (.cons .p0 .nil) J J<|ae.ghost<|aj.eqs (s:=0) (ep:=.sl 6 aP 0 v10.length) J (congrArg (AV.sl 6 aP 0) (cY e1))<|aj.here<|ae.ghost<|aj.eqs (s:=24) (ep:=.sl 6 aP 0 v10.length) J (congrArg (AV.sl 6 aP 0) (cY e1))<|aj.here<|rN<|tR<|rM J J<|rM J J<|ae.qv (cF J J) J<|rA J J<|rN<|ab.stop<|aj.lq [0] ⟨v10,aJ (n5 - n6),n6,h,J⟩ J J
    ·exact aE<|rM J J<|rM J J<|rM J J<|ae.qv (cF J J) J<|rM J J<|rM J J<|ae.qv (bc J J) J<|rM J J<|ae.qv (cF J J) J<|rM J J<|rM J J<|aD h fun v11 e2 h=>aZ J (fG mH (j9 e2)) cR (.cons .p0 .nil) J J<|ae.ghost<|aj.eqs (s:=0) (ep:=.sl 6 aP 0 v11.length) J (congrArg (AV.sl 6 aP 0) (cY e2))<|aj.here<|ae.ghost<|aj.eqs (s:=35) (ep:=.sl 6 aP 0 v11.length) J (congrArg (AV.sl 6 aP 0) (cY e2))<|aj.here<|rN<|tR<|rM J J<|rM J J<|ae.qv (cF J J) J<|rA J J<|rN<|ab.stop<|aj.lq [0] ⟨v11,n5,aJ (n6 - n5),h,J⟩ J J
   ·rintro aC ⟨l7,n8,n9,h,rfl⟩
    unfold eu at h
    refine ab.bY<|ab.stop<|?_
    cases h
    exact jt _ _ J<|aj.lq [0] J J J
  ·refine ab.exit J<|have h:=cj h fj;?_
   unfold jC at h
   refine tR<|rM J J<|rM J J<|rM J J<|ae.qv (cF J J) J<|rM J J<|rM J J<|rM J J<|aD h fun v12 e3 h=>aZ J (fG mH (j9 e3)) cR (.cons .p0 .nil) J J<|ae.ghost<|aj.eqs (s:=0) (ep:=.sl 6 aP 0 v12.length) J (congrArg (AV.sl 6 aP 0) (cY e3))<|aj.here<|ae.ghost<|aj.eqs (s:=50) (ep:=.sl 6 aP 0 v12.length) J (congrArg (AV.sl 6 aP 0) (cY e3))<|aj.here<|rN<|ab.nil<|?_
   cases h
   exact aj.here ⟨_,.nil,_,.cons .p0 .nil,⟨J,J⟩⟩
theorem mq [GI:bD] {aP:Bk} {self:(List MarkS)→Int→Int→Int→(MarkS→MarkS→Option Int)→Option (List MarkS)} (HG:∀ {aP:Bk} {aa:List MarkS} {ai:Int} {au:Int} {aK:Int} {jl:MarkS→MarkS→Option Int} {fe:FuncId} [bw Tryz.prog fe] {gp:List AV} (mH:∀ {y0 y1:_} {u:Int},jl y0 y1=some u→Pu Tryz.prog fe (MarkS.av y0 :: MarkS.av y1 :: gp) (I u)) {r:(List MarkS)},self aa ai au aK jl=some r→aF Tryz.prog 137 [.sl 6 aP 0 aa.length,I ai,I au,I aK,.func (.func fe) gp] [(aP,fx aa)] (T0 ([(aP,fx r)]) (.kj []))) {aa:List MarkS} {ai:Int} {au:Int} {aK:Int} {jl:MarkS→MarkS→Option Int} {fe:FuncId} [bw Tryz.prog fe] {gp:List AV} (mH:∀ {y0 y1:_} {u:Int},jl y0 y1=some u→Pu Tryz.prog fe (MarkS.av y0 :: MarkS.av y1 :: gp) (I u)) {r:(List MarkS)} (h:fD self aa ai au aK jl=some r):aF Tryz.prog 137 [.sl 6 aP 0 aa.length,I ai,I au,I aK,.func (.func fe) gp] [(aP,fx aa)] (T0 ([(aP,fx r)]) (.kj [])):=by
 unfold fD at h
 refine aF.ia ?_
 refine aF.bC Tryz.func137 J Tryz.ntmps137 Tryz.results137 J J ?_
 refine tS<|aE<|rM J J<|rM J J<|ae.qv (cF J J) J<|ae.qv (cC J J) J<|rN<|cD h J (fun h=>?_) (fun h=>?_)
 ·refine aE<|rM J J<|rA J J<|rN<|aE<|rM J J<|rA J J<|rN<|tS<|ab.block<|ab.cM (fun x:Int×Int=>dI aa ai jl x.1 x.2) (fun x aC=>aC=⟨220,[(0,.sl 6 aP 0 aa.length),(1,I ai),(4,.func (.func fe) gp),(10,I x.1),(11,I x.2)],[(aP,fx aa)]⟩) h ?_ ?_
  ·exact aj.lq [0] J J J
  ·intro x z1 aC J1 fy h jt fj
   obtain ⟨n3,n4⟩:=x
   obtain rfl:=fy
   replace h:dI aa ai jl n3 n4=some z1:=h
   unfold dI at h
   refine tS<|aE<|rM J J<|rM J J<|ae.qv (bG J J) J<|rN<|cD h J (fun h=>?_) (fun h=>?_)
   ·refine tK<|ab.block<|aE<|rM J J<|rM J J<|ae.qv (bc J J) J<|ae.qv (fY J) J<|ae.qv (zn J J (by decide)) J<|ae.qv (fY J) J<|rA J J<|rN<|tS<|ab.eh (id:=5) (A:=[0,0,0,6,14,0,0,96,224,511,1023]) 11 mixed J (by kernel_rfl) (by kernel_rfl)<|AM.qv (aA J) J<|AM.qv (aA J) J<|AM.qv (aA J) J<|aD h fun v5 e1 h=>AM.qv (aQ J J J e1) J<|AM.qv (bj (g:=MarkS.av) J J (.inl .p0) J e1 J) J<|AM.qv (aA J) J<|AM.qv (aA J) J<|aD h fun v6 e2 h=>AM.qv (aQ J J J e2) J<|AM.qv (bj (g:=MarkS.av) J J (.inl .p0) J e2 J) J<|aD h fun v7 e3 h=>AM.vB J J (mH e3) cR J<|AM.qv (bG J J) J<|AM.nil<|rN<|ab.cut (fun aC=>∃ (n8:Int) (n9:Int),dG n8 n9=some z1∧aC=⟨220,[(0,.sl 6 aP 0 aa.length),(1,I ai),(4,.func (.func fe) gp),(10,I n8),(11,I n9)],[(aP,fx aa)]⟩) ?_ ?_
    ·refine cD h J (fun h=>?_) (fun h=>?_)
     ·exact tR<|rM J J<|ae.qv (bc J J) J<|rA J J<|rN<|ab.stop<|aj.lq [0] ⟨aJ ((aJ (eR .u64 (IntKind.u64.wrap (aJ (n3+n4))) (1:Int)))+(1:Int)),n4,h,J⟩ J J
     ·exact tR<|rM J J<|rA J J<|rN<|ab.stop<|aj.lq [0] ⟨n3,aJ (eR .u64 (IntKind.u64.wrap (aJ (n3+n4))) (1:Int)),h,J⟩ J J
    ·rintro aC ⟨n8,n9,h,rfl⟩
     unfold dG at h
     refine ab.bY<|ab.stop<|?_
     cases h
     exact jt _ _ J<|aj.lq [0] J J J
   ·refine ab.exit J<|have h:=cj h fj;tS<|aE<|rM J J<|rA J J<|rN<|ab.block<|ab.cM (fun x:(List MarkS)×Int=>dH n3 x.1 x.2) (fun x aC=>aC=⟨220,[(0,.sl 6 aP 0 x.1.length),(10,I n3),(13,I x.2)],[(aP,fx x.1)]⟩) h ?_ ?_
    ·exact aj.lq [0] J J J
    ·intro x z2 aC J2 fy h Cm Bh
     obtain ⟨lR,n13⟩:=x
     obtain rfl:=fy
     replace h:dH n3 lR n13=some z2:=h
     unfold dH at h
     refine tS<|aE<|rM J J<|rM J J<|ae.qv (cF J J) J<|ae.qv (bG J J) J<|rN<|cD h J (fun h=>?_) (fun h=>?_)
     ·refine tK<|tS<|ab.block<|aD h fun kJ e4 h=>aD h fun ig e5 h=>aD h fun uo e6 h=>ab.j6 (id:=11) (A:=[0,0,0,0,8,0,0,64,224,480,0,0,3072,7168,16355,32739,65535,131071]) (H0:=[(aP,fx lR)]) (HH:=fun β=>[(aP,fx (lR.set n13.toNat kJ))]) 16 mixed J (by kernel_rfl) (by kernel_rfl) [⟨none,some 15,[9,13],fun _=>(aP,fx lR),none,[]⟩,⟨some 15,none,[],fun _=>(aP,fx (lR.set n13.toNat kJ)),none,[]⟩] [] J (by kernel_rfl) J (.cons .p0 .nil) (fun _=>J)<|AT.am 9 J J<|AM.qv (aA J) J<|AM.qv (aA J) J<|AM.qv (aA J) J<|AM.qv (aA J) J<|AM.qv (bc J J) J<|AM.qv (aA J) J<|AM.qv (aA J) J<|AM.qv (bc J J) J<|AM.qv (aQ J J J e4) J<|AM.nil<|AT.rd (Rs:=[(aP,fx lR)]) (fun _=>J) J (fun _=>J) (fun _=>J) (bj (g:=MarkS.av) J J (.inl .p0) J e4 J) J<|AT.am 3 J J<|AM.qv (aA J) J<|AM.qv (aA J) J<|AM.qv (aQ J J J e5) J<|AM.nil<|AT.rd (Rs:=[(aP,fx lR)]) (fun _=>J) J (fun _=>J) (fun _=>J) (bj (g:=MarkS.av) J J (.inl .p0) J e5 J) J<|AT.am 1 J J<|AM.qv (aQ J J J e6) J<|AM.nil<|AT.yS (Ti:=[(aP,fx lR)]) (Pi:=[(aP,fx (lR.set n13.toNat kJ))]) (fun _=>J) (fun _=>J) (fun _=>J) J J ?_ ?_
      ·exact bQ (g:=MarkS.av) (vv:=kJ) J J J J e6 J .p0 J<|ae.nil ⟨_,J⟩
      refine AT.uE (fun _=>J) fun β=>ae.ghost<|aj.eqs (s:=0) (ep:=.sl 6 aP 0 (lR.set n13.toNat kJ).length) J (by simp)<|aj.here<|ae.ghost<|aj.eqs (s:=61) (ep:=.sl 6 aP 0 (lR.set n13.toNat kJ).length) J (by simp)<|aj.here<|ae.ghost<|aj.eqs (s:=63) (ep:=.sl 6 aP 0 (lR.set n13.toNat kJ).length) J (by simp)<|aj.here<|ae.ghost<|aj.eqs (s:=66) (ep:=.sl 6 aP 0 (lR.set n13.toNat kJ).length) J (by simp)<|aj.here<|ae.ghost<|aj.eqs (s:=71) (ep:=.sl 6 aP 0 (lR.set n13.toNat kJ).length) J (by simp)<|aj.here<|aD h fun v17 e7 h=>ae.qv (aQ J J J e7) J<|bQ (g:=MarkS.av) (vv:=ig) J J J J e7 J .p0 J<|ae.ghost<|aj.eqs (s:=0) (ep:=.sl 6 aP 0 ((lR.set n13.toNat kJ).set (aJ (n13+(1:Int))).toNat ig).length) J (by rw [List.length_set])<|aj.here<|ae.ghost<|aj.eqs (s:=61) (ep:=.sl 6 aP 0 ((lR.set n13.toNat kJ).set (aJ (n13+(1:Int))).toNat ig).length) J (by rw [List.length_set])<|aj.here<|ae.ghost<|aj.eqs (s:=63) (ep:=.sl 6 aP 0 ((lR.set n13.toNat kJ).set (aJ (n13+(1:Int))).toNat ig).length) J (by rw [List.length_set])<|aj.here<|ae.ghost<|aj.eqs (s:=66) (ep:=.sl 6 aP 0 ((lR.set n13.toNat kJ).set (aJ (n13+(1:Int))).toNat ig).length) J (by rw [List.length_set])<|aj.here<|ae.ghost<|aj.eqs (s:=71) (ep:=.sl 6 aP 0 ((lR.set n13.toNat kJ).set (aJ (n13+(1:Int))).toNat ig).length) J (by rw [List.length_set])<|aj.here<|rN<|ab.bY<|tR<|rM J J<|ae.qv (bc J J) J<|rA J J<|rN<|ab.stop<|?_
      cases h
      exact Cm _ _ J<|aj.lq [0] J J J
     ·refine ab.exit J<|have h:=cj h Bh;ab.ret<|?_
      cases h
      exact aj.here ⟨_,.nil,_,.cons .p0 .nil,⟨J,J⟩⟩
 ·refine tK<|tS<|aE<|rM J J<|rM J J<|ae.qv (cF J J) J<|ae.qv (cC J J) J<|rN<|cD h J (fun h=>?_) (fun h=>?_)
  ·refine aE<|rM J J<|rA J J<|rN<|aE<|rM J J<|rA J J<|rN<|tS<|ab.block<|ab.cM (fun x:Int×Int=>dL aa au jl x.1 x.2) (fun x aC=>aC=⟨220,[(0,.sl 6 aP 0 aa.length),(2,I au),(4,.func (.func fe) gp),(14,I x.1),(15,I x.2)],[(aP,fx aa)]⟩) h ?_ ?_
   ·exact aj.lq [0] J J J
   ·intro x z3 aC J3 fy h Q5 Q6
    obtain ⟨n20,n21⟩:=x
    obtain rfl:=fy
    replace h:dL aa au jl n20 n21=some z3:=h
    unfold dL at h
    refine tS<|aE<|rM J J<|rM J J<|ae.qv (bG J J) J<|rN<|cD h J (fun h=>?_) (fun h=>?_)
    ·refine tK<|ab.block<|aE<|rM J J<|rM J J<|ae.qv (bc J J) J<|ae.qv (fY J) J<|ae.qv (zn J J (by decide)) J<|ae.qv (fY J) J<|rA J J<|rN<|tS<|ab.eh (id:=17) (A:=[0,0,0,6,14,0,0,96,224,511,1023,2047]) 12 mixed J (by kernel_rfl) (by kernel_rfl)<|AM.qv (aA J) J<|AM.qv (aA J) J<|AM.qv (aA J) J<|aD h fun v22 e8 h=>AM.qv (aQ J J J e8) J<|AM.qv (bj (g:=MarkS.av) J J (.inl .p0) J e8 J) J<|AM.qv (aA J) J<|AM.qv (aA J) J<|aD h fun v23 e9 h=>AM.qv (aQ J J J e9) J<|AM.qv (bj (g:=MarkS.av) J J (.inl .p0) J e9 J) J<|aD h fun v24 AF h=>AM.vB J J (mH AF) cR J<|AM.qv (bG J J) J<|AM.qv (sG J) J<|AM.nil<|rN<|ab.cut (fun aC=>∃ (n25:Int) (n26:Int),dJ n25 n26=some z3∧aC=⟨220,[(0,.sl 6 aP 0 aa.length),(2,I au),(4,.func (.func fe) gp),(14,I n25),(15,I n26)],[(aP,fx aa)]⟩) ?_ ?_
     ·refine cD h J (fun h=>?_) (fun h=>?_)
      ·exact tR<|rM J J<|ae.qv (bc J J) J<|rA J J<|rN<|ab.stop<|aj.lq [0] ⟨aJ ((aJ (eR .u64 (IntKind.u64.wrap (aJ (n20+n21))) (1:Int)))+(1:Int)),n21,h,J⟩ J J
      ·exact tR<|rM J J<|rA J J<|rN<|ab.stop<|aj.lq [0] ⟨n20,aJ (eR .u64 (IntKind.u64.wrap (aJ (n20+n21))) (1:Int)),h,J⟩ J J
     ·rintro aC ⟨n25,n26,h,rfl⟩
      unfold dJ at h
      refine ab.bY<|ab.stop<|?_
      cases h
      exact Q5 _ _ J<|aj.lq [0] J J J
    ·refine ab.exit J<|have h:=cj h Q6;tS<|aE<|rM J J<|rA J J<|rN<|ab.block<|ab.cM (fun x:(List MarkS)×Int=>dK n20 x.1 x.2) (fun x aC=>aC=⟨220,[(0,.sl 6 aP 0 x.1.length),(14,I n20),(17,I x.2)],[(aP,fx x.1)]⟩) h ?_ ?_
     ·exact aj.lq [0] J J J
     ·intro x z4 aC J4 fy h XL XM
      obtain ⟨vn,n30⟩:=x
      obtain rfl:=fy
      replace h:dK n20 vn n30=some z4:=h
      unfold dK at h
      refine tS<|aE<|rM J J<|rM J J<|ae.qv (fL J J) J<|rN<|cD h J (fun h=>?_) (fun h=>?_)
      ·refine tK<|tS<|ab.block<|aD h fun v31 AG h=>aD h fun v32 C1 h=>aD h fun v33 FF h=>ab.j6 (id:=23) (A:=[0,0,0,0,8,0,0,64,224,480,0,0,3072,7168,16355,32739,65535,131071]) (H0:=[(aP,fx vn)]) (HH:=fun β=>[(aP,fx (vn.set n30.toNat v31))]) 16 mixed J (by kernel_rfl) (by kernel_rfl) [⟨none,some 15,[9,13],fun _=>(aP,fx vn),none,[]⟩,⟨some 15,none,[],fun _=>(aP,fx (vn.set n30.toNat v31)),none,[]⟩] [] J (by kernel_rfl) J (.cons .p0 .nil) (fun _=>J)<|AT.am 9 J J<|AM.qv (aA J) J<|AM.qv (aA J) J<|AM.qv (aA J) J<|AM.qv (aA J) J<|AM.qv (cF J J) J<|AM.qv (aA J) J<|AM.qv (aA J) J<|AM.qv (cF J J) J<|AM.qv (aQ J J J AG) J<|AM.nil<|AT.rd (Rs:=[(aP,fx vn)]) (fun _=>J) J (fun _=>J) (fun _=>J) (bj (g:=MarkS.av) J J (.inl .p0) J AG J) J<|AT.am 3 J J<|AM.qv (aA J) J<|AM.qv (aA J) J<|AM.qv (aQ J J J C1) J<|AM.nil<|AT.rd (Rs:=[(aP,fx vn)]) (fun _=>J) J (fun _=>J) (fun _=>J) (bj (g:=MarkS.av) J J (.inl .p0) J C1 J) J<|AT.am 1 J J<|AM.qv (aQ J J J FF) J<|AM.nil<|AT.yS (Ti:=[(aP,fx vn)]) (Pi:=[(aP,fx (vn.set n30.toNat v31))]) (fun _=>J) (fun _=>J) (fun _=>J) J J ?_ ?_
       ·exact bQ (g:=MarkS.av) (vv:=v31) J J J J FF J .p0 J<|ae.nil ⟨_,J⟩
       refine AT.uE (fun _=>J) fun β=>ae.ghost<|aj.eqs (s:=0) (ep:=.sl 6 aP 0 (vn.set n30.toNat v31).length) J (by simp)<|aj.here<|ae.ghost<|aj.eqs (s:=113) (ep:=.sl 6 aP 0 (vn.set n30.toNat v31).length) J (by simp)<|aj.here<|ae.ghost<|aj.eqs (s:=115) (ep:=.sl 6 aP 0 (vn.set n30.toNat v31).length) J (by simp)<|aj.here<|ae.ghost<|aj.eqs (s:=118) (ep:=.sl 6 aP 0 (vn.set n30.toNat v31).length) J (by simp)<|aj.here<|ae.ghost<|aj.eqs (s:=123) (ep:=.sl 6 aP 0 (vn.set n30.toNat v31).length) J (by simp)<|aj.here<|aD h fun Ch Gi h=>ae.qv (aQ J J J Gi) J<|bQ (g:=MarkS.av) (vv:=v32) J J J J Gi J .p0 J<|ae.ghost<|aj.eqs (s:=0) (ep:=.sl 6 aP 0 ((vn.set n30.toNat v31).set (aJ (n30 - (1:Int))).toNat v32).length) J (by rw [List.length_set])<|aj.here<|ae.ghost<|aj.eqs (s:=113) (ep:=.sl 6 aP 0 ((vn.set n30.toNat v31).set (aJ (n30 - (1:Int))).toNat v32).length) J (by rw [List.length_set])<|aj.here<|ae.ghost<|aj.eqs (s:=115) (ep:=.sl 6 aP 0 ((vn.set n30.toNat v31).set (aJ (n30 - (1:Int))).toNat v32).length) J (by rw [List.length_set])<|aj.here<|ae.ghost<|aj.eqs (s:=118) (ep:=.sl 6 aP 0 ((vn.set n30.toNat v31).set (aJ (n30 - (1:Int))).toNat v32).length) J (by rw [List.length_set])<|aj.here<|ae.ghost<|aj.eqs (s:=123) (ep:=.sl 6 aP 0 ((vn.set n30.toNat v31).set (aJ (n30 - (1:Int))).toNat v32).length) J (by rw [List.length_set])<|aj.here<|rN<|ab.bY<|tR<|rM J J<|ae.qv (cF J J) J<|rA J J<|rN<|ab.stop<|?_
       cases h
       exact XL _ _ J<|aj.lq [0] J J J
      ·refine ab.exit J<|have h:=cj h XM;ab.ret<|?_
       cases h
       exact aj.here ⟨_,.nil,_,.cons .p0 .nil,⟨J,J⟩⟩
  ·refine tK<|aE<|rM J J<|rM J J<|ae.qv (bc J J) J<|ae.qv (fY J) J<|ae.qv (zn J J (by decide)) J<|ae.qv (fY J) J<|rA J J<|rN<|aE<|rM J J<|rM J J<|ae.qv (bc J J) J<|rA J J<|rN<|aE<|rA J J<|rA J J<|rN<|tS<|aE<|rM J J<|rM J J<|ae.qv (fL J J) J<|rN<|ab.cut (fun aC=>∃ (n35:Int) (n36:Int),dQ self aa ai au aK jl n35 n36=some r∧aC=⟨220,[(0,.sl 6 aP 0 aa.length),(1,I ai),(2,I au),(3,I aK),(4,.func (.func fe) gp),(18,I (aJ (eR .u64 (IntKind.u64.wrap (aJ (ai+aK))) (1:Int)))),(19,I (aJ ((aJ (eR .u64 (IntKind.u64.wrap (aJ (ai+aK))) (1:Int)))+au))),(20,I n35),(21,I n36)],[(aP,fx aa)]⟩) ?_ ?_
   ·refine cD h J (fun h=>?_) (fun h=>?_)
    ·exact aE<|rM J J<|rM J J<|ae.qv (cF J J) J<|rA J J<|rN<|tR<|rM J J<|rA J J<|rN<|ab.stop<|aj.lq [0] ⟨aJ ((aJ ((aJ (eR .u64 (IntKind.u64.wrap (aJ (ai+aK))) (1:Int)))+au)) - aK),aJ (eR .u64 (IntKind.u64.wrap (aJ (ai+aK))) (1:Int)),h,J⟩ J J
    ·exact aE<|rM J J<|rA J J<|rN<|tR<|rM J J<|rA J J<|rN<|ab.stop<|aj.lq [0] ⟨ai,au,h,J⟩ J J
   ·rintro aC ⟨n35,n36,h,rfl⟩
    unfold dQ at h
    refine aE<|rM J J<|ae.qv (cF J J) J<|rA J J<|rN<|tS<|ab.block<|ab.cM (fun x:Int×Int=>dP self aa ai au aK jl x.1 x.2) (fun x aC=>aC=⟨220,[(0,.sl 6 aP 0 aa.length),(1,I ai),(2,I au),(3,I aK),(4,.func (.func fe) gp),(18,I (aJ (eR .u64 (IntKind.u64.wrap (aJ (ai+aK))) (1:Int)))),(19,I (aJ ((aJ (eR .u64 (IntKind.u64.wrap (aJ (ai+aK))) (1:Int)))+au))),(20,I x.1),(21,I x.2),(22,I (aJ ((aJ ((aJ (eR .u64 (IntKind.u64.wrap (aJ (ai+aK))) (1:Int)))+au)) - (1:Int))))],[(aP,fx aa)]⟩) h ?_ ?_
    ·exact aj.lq [0] J J J
    ·intro x z5 aC J5 fy h XN XO
     obtain ⟨n39,n40⟩:=x
     obtain rfl:=fy
     replace h:dP self aa ai au aK jl n39 n40=some z5:=h
     unfold dP at h
     refine tS<|aE<|rM J J<|rM J J<|ae.qv (bG J J) J<|rN<|cD h J (fun h=>?_) (fun h=>?_)
     ·refine tK<|ab.block<|aE<|rM J J<|rM J J<|ae.qv (bc J J) J<|ae.qv (fY J) J<|ae.qv (zn J J (by decide)) J<|ae.qv (fY J) J<|rA J J<|rN<|tS<|ab.eh (id:=35) (A:=[0,0,0,0,12,30,62,0,0,384,896,2047,4095,8191]) 14 mixed J (by kernel_rfl) (by kernel_rfl)<|AM.qv (aA J) J<|AM.qv (aA J) J<|AM.qv (aA J) J<|AM.qv (aA J) J<|AM.qv (cF J J) J<|aD h fun v41 JO h=>AM.qv (aQ J J J JO) J<|AM.qv (bj (g:=MarkS.av) J J (.inl .p0) J JO J) J<|AM.qv (aA J) J<|AM.qv (aA J) J<|aD h fun Um JP h=>AM.qv (aQ J J J JP) J<|AM.qv (bj (g:=MarkS.av) J J (.inl .p0) J JP J) J<|aD h fun Eo KS h=>AM.vB J J (mH KS) cR J<|AM.qv (bG J J) J<|AM.qv (sG J) J<|AM.nil<|rN<|ab.cut (fun aC=>∃ (n44:Int) (n45:Int),dM n44 n45=some z5∧aC=⟨220,[(0,.sl 6 aP 0 aa.length),(1,I ai),(2,I au),(3,I aK),(4,.func (.func fe) gp),(18,I (aJ (eR .u64 (IntKind.u64.wrap (aJ (ai+aK))) (1:Int)))),(19,I (aJ ((aJ (eR .u64 (IntKind.u64.wrap (aJ (ai+aK))) (1:Int)))+au))),(20,I n44),(21,I n45),(22,I (aJ ((aJ ((aJ (eR .u64 (IntKind.u64.wrap (aJ (ai+aK))) (1:Int)))+au)) - (1:Int))))],[(aP,fx aa)]⟩) ?_ ?_
      ·refine cD h J (fun h=>?_) (fun h=>?_)
       ·exact tR<|rM J J<|ae.qv (bc J J) J<|rA J J<|rN<|ab.stop<|aj.lq [0] ⟨aJ ((aJ (eR .u64 (IntKind.u64.wrap (aJ (n39+n40))) (1:Int)))+(1:Int)),n40,h,J⟩ J J
       ·exact tR<|rM J J<|rA J J<|rN<|ab.stop<|aj.lq [0] ⟨n39,aJ (eR .u64 (IntKind.u64.wrap (aJ (n39+n40))) (1:Int)),h,J⟩ J J
      ·rintro aC ⟨n44,n45,h,rfl⟩
       unfold dM at h
       refine ab.bY<|ab.stop<|?_
       cases h
       exact XN _ _ J<|aj.lq [0] J J J
     ·refine ab.exit J<|have h:=cj h XO;aE<|rM J J<|rM J J<|ae.qv (cF J J) J<|rA J J<|rN<|tS<|tS<|ab.cut (fun aC=>∃ (c46:Bool),fC self aa ai au aK jl n39 c46=some r∧aC=⟨220,[(0,.sl 6 aP 0 aa.length),(1,I ai),(2,I au),(3,I aK),(4,.func (.func fe) gp),(18,I (aJ (eR .u64 (IntKind.u64.wrap (aJ (ai+aK))) (1:Int)))),(20,I n39),(24,I (aJ ((aJ ((aJ (eR .u64 (IntKind.u64.wrap (aJ (ai+aK))) (1:Int)))+au)) - n39))),(185,.bool c46)],[(aP,fx aa)]⟩) ?_ ?_
      ·refine tR<|rM J J<|rM J J<|ae.qv (bG J J) J<|rM J J<|ae.cy J J J (fun hc=>?_) (fun hc=>?_)
       ·rw [om hc] at h
        exact rM J J<|rY J J J<|rM J J<|rY J J J<|ae.qv (bG J J) J<|rT J J J<|rN<|ab.stop<|aj.lq [0] ⟨decide (au < (aJ ((aJ ((aJ (eR .u64 (IntKind.u64.wrap (aJ (ai+aK))) (1:Int)))+au)) - n39))),h,J⟩ J J
       ·rw [oo hc] at h
        exact rG J J J J<|rG J J J J<|rE J J J<|rN<|ab.stop<|aj.lq [0] ⟨false,h,J⟩ J J
      ·rintro aC ⟨c46,h,rfl⟩
       unfold fC at h
       refine ab.cut (fun aC=>∃ (Es:List MarkS),dO self ai au aK jl n39 Es=some r∧aC=⟨220,[(0,.sl 6 aP 0 Es.length),(1,I ai),(3,I aK),(4,.func (.func fe) gp),(18,I (aJ (eR .u64 (IntKind.u64.wrap (aJ (ai+aK))) (1:Int)))),(20,I n39),(24,I (aJ ((aJ ((aJ (eR .u64 (IntKind.u64.wrap (aJ (ai+aK))) (1:Int)))+au)) - n39)))],[(aP,fx Es)]⟩) ?_ ?_
       ·refine cB h J (fun h=>?_) (fun h=>?_)
        ·exact tR<|rM J J<|rM J J<|rM J J<|rM J J<|rM J J<|aD h fun N8 Ow h=>aZ J (oA mH (j9 Ow)) cR (.cons .p0 .nil) J J<|ae.ghost<|aj.eqs (s:=0) (ep:=.sl 6 aP 0 N8.length) J (congrArg (AV.sl 6 aP 0) (cY Ow))<|aj.here<|ae.ghost<|aj.eqs (s:=186) (ep:=.sl 6 aP 0 N8.length) J (congrArg (AV.sl 6 aP 0) (cY Ow))<|aj.here<|rN<|ab.stop<|aj.lq [0] ⟨N8,h,J⟩ J J
        ·exact tK<|ab.stop<|aj.lq [0] ⟨aa,h,J⟩ J J
       ·rintro aC ⟨Es,h,rfl⟩
        unfold dO at h
        refine tS<|tS<|ab.cut (fun aC=>∃ (c49:Bool),fB self ai au aK jl n39 Es c49=some r∧aC=⟨220,[(0,.sl 6 aP 0 Es.length),(1,I ai),(3,I aK),(4,.func (.func fe) gp),(18,I (aJ (eR .u64 (IntKind.u64.wrap (aJ (ai+aK))) (1:Int)))),(20,I n39),(24,I (aJ ((aJ ((aJ (eR .u64 (IntKind.u64.wrap (aJ (ai+aK))) (1:Int)))+au)) - n39))),(199,.bool c49)],[(aP,fx Es)]⟩) ?_ ?_
        ·refine tR<|rM J J<|rM J J<|ae.qv (bG J J) J<|rM J J<|ae.cy J J J (fun hc=>?_) (fun hc=>?_)
         ·rw [om hc] at h
          exact rM J J<|rY J J J<|rM J J<|rY J J J<|ae.qv (bG J J) J<|rT J J J<|rN<|ab.stop<|aj.lq [0] ⟨decide (n39 < (aJ (eR .u64 (IntKind.u64.wrap (aJ (ai+aK))) (1:Int)))),h,J⟩ J J
         ·rw [oo hc] at h
          exact rG J J J J<|rG J J J J<|rE J J J<|rN<|ab.stop<|aj.lq [0] ⟨false,h,J⟩ J J
        ·rintro aC ⟨c49,h,rfl⟩
         unfold fB at h
         refine ab.cut (fun aC=>∃ (Er:List MarkS),dN self ai au aK jl n39 Er=some r∧aC=⟨220,[(0,.sl 6 aP 0 Er.length),(3,I aK),(4,.func (.func fe) gp),(18,I (aJ (eR .u64 (IntKind.u64.wrap (aJ (ai+aK))) (1:Int)))),(24,I (aJ ((aJ ((aJ (eR .u64 (IntKind.u64.wrap (aJ (ai+aK))) (1:Int)))+au)) - n39)))],[(aP,fx Er)]⟩) ?_ ?_
         ·refine cB h J (fun h=>?_) (fun h=>?_)
          ·exact tR<|rM J J<|rM J J<|rM J J<|rM J J<|rM J J<|aD h fun v51 Ox h=>aZ J (HG mH (j9 Ox)) cR (.cons .p0 .nil) J J<|ae.ghost<|aj.eqs (s:=0) (ep:=.sl 6 aP 0 v51.length) J (congrArg (AV.sl 6 aP 0) (cY Ox))<|aj.here<|ae.ghost<|aj.eqs (s:=200) (ep:=.sl 6 aP 0 v51.length) J (congrArg (AV.sl 6 aP 0) (cY Ox))<|aj.here<|rN<|ab.stop<|aj.lq [0] ⟨v51,h,J⟩ J J
          ·exact tK<|ab.stop<|aj.lq [0] ⟨Es,h,J⟩ J J
         ·rintro aC ⟨Er,h,rfl⟩
          unfold dN at h
          refine tS<|ab.cut (fun aC=>∃ (N7:Bool),fA self ai au aK jl n39 Er N7=some r∧aC=⟨220,[(0,.sl 6 aP 0 Er.length),(3,I aK),(4,.func (.func fe) gp),(18,I (aJ (eR .u64 (IntKind.u64.wrap (aJ (ai+aK))) (1:Int)))),(24,I (aJ ((aJ ((aJ (eR .u64 (IntKind.u64.wrap (aJ (ai+aK))) (1:Int)))+au)) - n39))),(213,.bool N7)],[(aP,fx Er)]⟩) ?_ ?_
          ·refine tR<|rM J J<|rM J J<|ae.qv (bG J J) J<|rM J J<|ae.cy J J J (fun hc=>?_) (fun hc=>?_)
           ·rw [om hc] at h
            exact rM J J<|rY J J J<|rM J J<|rY J J J<|ae.qv (bG J J) J<|rT J J J<|rN<|ab.stop<|aj.lq [0] ⟨decide ((aJ ((aJ ((aJ (eR .u64 (IntKind.u64.wrap (aJ (ai+aK))) (1:Int)))+au)) - n39)) < aK),h,J⟩ J J
           ·rw [oo hc] at h
            exact rG J J J J<|rG J J J J<|rE J J J<|rN<|ab.stop<|aj.lq [0] ⟨false,h,J⟩ J J
          ·rintro aC ⟨N7,h,rfl⟩
           unfold fA at h
           refine ab.cut (fun aC=>∃ (Ge:List MarkS),dv Ge=some r∧aC=⟨220,[],[(aP,fx Ge)]⟩) ?_ ?_
           ·refine cB h J (fun h=>?_) (fun h=>?_)
            ·exact tR<|rM J J<|rM J J<|rM J J<|rM J J<|rM J J<|aD h fun v54 Q7 h=>aZ J (HG mH (j9 Q7)) cR (.cons .p0 .nil) J J<|ae.ghost<|aj.eqs (s:=0) (ep:=.sl 6 aP 0 v54.length) J (congrArg (AV.sl 6 aP 0) (cY Q7))<|aj.here<|ae.ghost<|aj.eqs (s:=214) (ep:=.sl 6 aP 0 v54.length) J (congrArg (AV.sl 6 aP 0) (cY Q7))<|aj.here<|rN<|ab.stop<|aj.lq [0] ⟨v54,h,J⟩ J J
            ·exact tK<|ab.stop<|aj.lq [0] ⟨Er,h,J⟩ J J
           ·rintro aC ⟨Ge,h,rfl⟩
            unfold dv at h
            refine ab.nil<|?_
            cases h
            exact aj.here ⟨_,.nil,_,.cons .p0 .nil,⟨J,J⟩⟩
theorem mE [GI:bD]:∀ (k:Nat) {aP:Bk} {aa:List MarkS} {ai:Int} {au:Int} {aK:Int} {jl:MarkS→MarkS→Option Int} {fe:FuncId} [bw Tryz.prog fe] {gp:List AV} (mH:∀ {y0 y1:_} {u:Int},jl y0 y1=some u→Pu Tryz.prog fe (MarkS.av y0 :: MarkS.av y1 :: gp) (I u)) {r:(List MarkS)},fQ k aa ai au aK jl=some r→aF Tryz.prog 137 [.sl 6 aP 0 aa.length,I ai,I au,I aK,.func (.func fe) gp] [(aP,fx aa)] (T0 ([(aP,fx r)]) (.kj [])):=by
 intro k
 induction k with
 | zero=>intro aP aa ai au aK jl fe _ gp mH r h;cases h
 | succ k ih=>intro aP aa ai au aK jl fe _ gp mH r h;exact mq ih mH h
theorem jn [GI:bD] {aP:Bk} {aa:List MarkS} {ai:Int} {au:Int} {aK:Int} {jl:MarkS→MarkS→Option Int} {fe:FuncId} [bw Tryz.prog fe] {gp:List AV} (mH:∀ {y0 y1:_} {u:Int},jl y0 y1=some u→Pu Tryz.prog fe (MarkS.av y0 :: MarkS.av y1 :: gp) (I u)) {r:(List MarkS)} (h:gr aa ai au aK jl=some r):aF Tryz.prog 137 [.sl 6 aP 0 aa.length,I ai,I au,I aK,.func (.func fe) gp] [(aP,fx aa)] (T0 ([(aP,fx r)]) (.kj [])):=mE depth mH h
theorem oB [GI:bD] {aP:Bk} {aa:List MarkS} {ai:Int} {uJ:MarkS→MarkS→Option Int} {x9:FuncId} [bw Tryz.prog x9] {zJ:List AV} (EA:∀ {y0 y1:_} {u:Int},uJ y0 y1=some u→Pu Tryz.prog x9 (MarkS.av y0 :: MarkS.av y1 :: zJ) (I u)) {r:(List MarkS)} (h:dW aa ai uJ=some r):aF Tryz.prog 101 [.sl 6 aP 0 aa.length,I ai,.func (.func x9) zJ] [(aP,fx aa)] (T0 ([(aP,fx r)]) (.kj [])):=by
 unfold dW at h
 refine aF.ia ?_
 refine aF.bC Tryz.func101 J Tryz.ntmps101 Tryz.results101 J J ?_
 refine aE<|rA J J<|rN<|aE<|rM J J<|rA J J<|rA J J<|rN<|tS<|ab.block<|ab.cM (fun x:(List MarkS)×Int×Int=>bS ai uJ x.1 x.2.1 x.2.2) (fun x aC=>aC=⟨63,[(0,.sl 6 aP 0 x.1.length),(1,I ai),(2,.func (.func x9) zJ),(6,I (20:Int)),(7,I x.2.1),(8,I x.2.2)],[(aP,fx x.1)]⟩) h ?_ ?_
 ·exact aj.lq [0] J J J
 ·intro x z1 aC J1 fy h jt fj
  obtain ⟨l4,n5,n6⟩:=x
  obtain rfl:=fy
  replace h:bS ai uJ l4 n5 n6=some z1:=h
  unfold bS at h
  refine tS<|aE<|rM J J<|rM J J<|ae.qv (tq J J) J<|rN<|cD h J (fun h=>?_) (fun h=>?_)
  ·refine tK<|ab.block<|aE<|rM J J<|rM J J<|rM J J<|rM J J<|aD h fun v7 e1 h=>aZ J (gX EA (j9 e1)) cR (.cons .p0 .nil) J J<|ae.ghost<|aj.eqs (s:=0) (ep:=.sl 6 aP 0 v7.length) J (congrArg (AV.sl 6 aP 0) (cY e1))<|aj.here<|ae.ghost<|aj.eqs (s:=14) (ep:=.sl 6 aP 0 v7.length) J (congrArg (AV.sl 6 aP 0) (cY e1))<|aj.here<|rN<|aE<|rM J J<|rA J J<|rN<|tR<|rM J J<|rM J J<|ae.qv (bc J J) J<|rA J J<|rN<|ab.bY<|ab.stop<|?_
   cases h
   exact jt _ _ J<|aj.lq [0] J J J
  ·refine ab.exit J<|have h:=cj h fj;?_
   unfold eA at h
   refine aE<|rM J J<|rM J J<|rM J J<|rM J J<|aD h fun v8 e2 h=>aZ J (gX EA (j9 e2)) cR (.cons .p0 .nil) J J<|ae.ghost<|aj.eqs (s:=0) (ep:=.sl 6 aP 0 v8.length) J (congrArg (AV.sl 6 aP 0) (cY e2))<|aj.here<|ae.ghost<|aj.eqs (s:=23) (ep:=.sl 6 aP 0 v8.length) J (congrArg (AV.sl 6 aP 0) (cY e2))<|aj.here<|rN<|ab.block<|ab.cM (fun x:(List MarkS)×Int=>ck ai uJ x.1 x.2) (fun x aC=>aC=⟨63,[(0,.sl 6 aP 0 x.1.length),(1,I ai),(2,.func (.func x9) zJ),(6,I x.2)],[(aP,fx x.1)]⟩) h ?_ ?_
   ·exact aj.lq [0] J J J
   ·intro x z2 aC J2 fy h Cm Bh
    obtain ⟨iT,n12⟩:=x
    obtain rfl:=fy
    replace h:ck ai uJ iT n12=some z2:=h
    unfold ck at h
    refine tS<|aE<|rM J J<|rM J J<|ae.qv (bG J J) J<|rN<|cD h J (fun h=>?_) (fun h=>?_)
    ·refine tK<|ab.block<|aE<|rM J J<|ae.qv (nR J J) J<|rA J J<|rA J J<|rN<|tS<|ab.block<|ab.cM (fun x:(List MarkS)×Int×Int=>ez ai uJ n12 x.1 x.2.1 x.2.2) (fun x aC=>aC=⟨63,[(0,.sl 6 aP 0 x.1.length),(1,I ai),(2,.func (.func x9) zJ),(6,I n12),(7,I x.2.1),(8,I x.2.2)],[(aP,fx x.1)]⟩) h ?_ ?_
     ·exact aj.lq [0] J J J
     ·intro x z3 aC J3 fy h Q5 Q6
      obtain ⟨qa,n17,n18⟩:=x
      obtain rfl:=fy
      replace h:ez ai uJ n12 qa n17 n18=some z3:=h
      unfold ez at h
      refine tS<|aE<|rM J J<|rM J J<|ae.qv (tq J J) J<|rN<|cD h J (fun h=>?_) (fun h=>?_)
      ·refine tK<|ab.block<|aE<|rM J J<|rM J J<|rM J J<|rM J J<|ae.qv (bc J J) J<|rM J J<|rM J J<|aD h fun nO e3 h=>aZ J (jn EA (j9 e3)) cR (.cons .p0 .nil) J J<|ae.ghost<|aj.eqs (s:=0) (ep:=.sl 6 aP 0 nO.length) J (congrArg (AV.sl 6 aP 0) (cY e3))<|aj.here<|ae.ghost<|aj.eqs (s:=36) (ep:=.sl 6 aP 0 nO.length) J (congrArg (AV.sl 6 aP 0) (cY e3))<|aj.here<|rN<|aE<|rM J J<|rA J J<|rN<|tR<|rM J J<|rM J J<|ae.qv (nR J J) J<|ae.qv (bc J J) J<|rA J J<|rN<|ab.bY<|ab.stop<|?_
       cases h
       exact Q5 _ _ J<|aj.lq [0] J J J
      ·refine ab.exit J<|have h:=cj h Q6;?_
       unfold jD at h
       refine tS<|aE<|rM J J<|rM J J<|ae.qv (bc J J) J<|rA J J<|rN<|aE<|rM J J<|rM J J<|ae.qv (bG J J) J<|rN<|ab.cut (fun aC=>∃ (oL:List MarkS),ey n12 oL=some z2∧aC=⟨63,[(0,.sl 6 aP 0 oL.length),(1,I ai),(2,.func (.func x9) zJ),(6,I n12)],[(aP,fx oL)]⟩) ?_ ?_
       ·refine cD h J (fun h=>?_) (fun h=>?_)
        ·exact tR<|rM J J<|rM J J<|rM J J<|rM J J<|rM J J<|aD h fun v21 e4 h=>aZ J (jn EA (j9 e4)) cR (.cons .p0 .nil) J J<|ae.ghost<|aj.eqs (s:=0) (ep:=.sl 6 aP 0 v21.length) J (congrArg (AV.sl 6 aP 0) (cY e4))<|aj.here<|ae.ghost<|aj.eqs (s:=55) (ep:=.sl 6 aP 0 v21.length) J (congrArg (AV.sl 6 aP 0) (cY e4))<|aj.here<|rN<|ab.stop<|aj.lq [0] ⟨v21,h,J⟩ J J
        ·exact tK<|ab.stop<|aj.lq [0] ⟨qa,h,J⟩ J J
       ·rintro aC ⟨oL,h,rfl⟩
        unfold ey at h
        refine tR<|rM J J<|ae.qv (nR J J) J<|rA J J<|rN<|ab.bY<|ab.stop<|?_
        cases h
        exact Cm _ _ J<|aj.lq [0] J J J
    ·refine ab.exit J<|have h:=cj h Bh;ab.nil<|?_
     cases h
     exact aj.here ⟨_,.nil,_,.cons .p0 .nil,⟨J,J⟩⟩
theorem lQ [GI:bD] {aP:Bk} {aa:List MarkS} {fH:MarkS→MarkS→Option Int} {ff:FuncId} [bw Tryz.prog ff] {gY:List AV} (nK:∀ {y0 y1:_} {u:Int},fH y0 y1=some u→Pu Tryz.prog ff (MarkS.av y0 :: MarkS.av y1 :: gY) (I u)) {r:(List MarkS)} (h:cz aa fH=some r):aF Tryz.prog 47 [.sl 6 aP 0 aa.length,.func (.func ff) gY] [(aP,fx aa)] (T0 ([(aP,fx r)]) (.kj [])):=by
 unfold cz at h
 refine aF.ia ?_
 refine aF.bC Tryz.func47 J Tryz.ntmps47 Tryz.results47 J J ?_
 refine tR<|rM J J<|rM J J<|ae.qv (iX J) J<|rM J J<|aD h fun v1 e1 h=>aZ J (oB nK (j9 e1)) cR (.cons .p0 .nil) J J<|ae.ghost<|aj.eqs (s:=0) (ep:=.sl 6 aP 0 v1.length) J (congrArg (AV.sl 6 aP 0) (cY e1))<|aj.here<|ae.ghost<|aj.eqs (s:=4) (ep:=.sl 6 aP 0 v1.length) J (congrArg (AV.sl 6 aP 0) (cY e1))<|aj.here<|ae.ghost<|aj.eqs (s:=5) (ep:=.sl 6 aP 0 v1.length) J (congrArg (AV.sl 6 aP 0) (cY e1))<|aj.here<|rN<|ab.nil<|?_
 cases h
 exact aj.here ⟨_,.nil,_,.cons .p0 .nil,⟨J,J⟩⟩
theorem uP [GI:bD] {aa:MarkS} {ai:MarkS} {r:Bool} (h:jF aa ai=r):Pu Tryz.prog 50 [MarkS.av aa,MarkS.av ai] (.bool r):=by
 unfold jF at h
 refine aF.bC Tryz.func50 J Tryz.ntmps50 Tryz.results50 J J ?_
 refine aE<|gi J J J J fun b1=>gi J J J J fun b2=>rA J J<|rN<|aE<|ae.qv (aW J J .p1 J) J<|ae.qv (aW J J .p0 J) J<|aS J (nu J) cR J<|ae.qv (cC J J) J<|rA J J<|rN<|ab.ret<|?_
 obtain rfl:=h
 exact hP J J
theorem mW [GI:bD] {aP:Bk} {aa:List MarkS} {fH:MarkS→MarkS→Option Bool} {ff:FuncId} [bw Tryz.prog ff] {gY:List AV} (nK:∀ {y0 y1:_} {u:Bool},fH y0 y1=some u→Pu Tryz.prog ff (MarkS.av y0 :: MarkS.av y1 :: gY) (.bool u)) {r:(List MarkS)} (h:eB aa fH=some r):aF Tryz.prog 49 [.sl 6 aP 0 aa.length,.func (.func ff) gY] [(aP,fx aa)] (T1 (fun qN=>[(qN,fx r)]) (fun qN=>.sl 6 qN 0 r.length)):=by
 unfold eB at h
 refine aF.ia ?_
 refine aF.bC Tryz.func49 J Tryz.ntmps49 Tryz.results49 J J ?_
 refine aE<|rA J J<|rN<|tS<|aE<|rM J J<|ae.qv (iX J) J<|ae.qv (bG J J) J<|rN<|cD h J (fun h=>?_) (fun h=>?_)
 ·refine aE<|rM J J<|rA J J<|rN<|ab.ret<|?_
  cases h
  exact hH J [0] J ⟨aP,J,J⟩
 ·refine tK<|tS<|aE<|rA J J<|rN<|ab.block<|ab.cM (fun x:Int=>dz aa fH x) (fun x aC=>aC=⟨66,[(0,.sl 6 aP 0 aa.length),(1,.func (.func ff) gY),(5,I x)],[(aP,fx aa)]⟩) h ?_ ?_
  ·exact aj.lq [0] J J J
  ·intro n2 z1 aC J1 fy h jt fj
   obtain rfl:=fy
   replace h:dz aa fH n2=some z1:=h
   unfold dz at h
   refine tS<|aE<|rM J J<|rM J J<|ae.qv (iX J) J<|ae.qv (bG J J) J<|rN<|cD h J (fun h=>?_) (fun h=>?_)
   ·refine tK<|tS<|ab.block<|tS<|ab.eh (id:=6) (A:=[0,0,0,6,14,0,0,64,224,480,1023]) 11 mixed J (by kernel_rfl) (by kernel_rfl)<|AM.qv (aA J) J<|AM.qv (aA J) J<|AM.qv (aA J) J<|aD h fun v3 e1 h=>AM.qv (aQ J J J e1) J<|AM.qv (bj (g:=MarkS.av) J J (.inl .p0) J e1 J) J<|AM.qv (aA J) J<|AM.qv (aA J) J<|AM.qv (cF J J) J<|aD h fun v4 e2 h=>AM.qv (aQ J J J e2) J<|AM.qv (bj (g:=MarkS.av) J J (.inl .p0) J e2 J) J<|aD h fun v5 e3 h=>AM.vB J J (nK e3) cR J<|AM.nil<|rN<|cB h J (fun h=>?_) (fun h=>?_)
    ·refine aE<|rM J J<|rM J J<|aD h fun l6 e4 h=>ae.qv (oR J J (.some _ _ _ J) .none J J e4) J<|rA J J<|rN<|tS<|aE<|rA J J<|rN<|ab.block<|ab.cM (fun x:(List MarkS)×Int×Int=>dx fH n2 l6 x.1 x.2.1 x.2.2) (fun x aC=>aC=⟨66,[(0,.sl 6 aP 0 x.1.length),(1,.func (.func ff) gY),(5,I x.2.1),(6,.sl 6 aP n2.toNat l6.length),(7,I x.2.2)],[(aP,fx x.1)]⟩) h ?_ ?_
     ·exact aj.lq [0] J J J
     ·intro x z2 aC J2 fy h Cm Bh
      obtain ⟨l10,n11,n12⟩:=x
      obtain rfl:=fy
      replace h:dx fH n2 l6 l10 n11 n12=some z2:=h
      unfold dx at h
      refine tS<|aE<|rM J J<|rM J J<|ae.qv (Fl J) J<|ae.qv (bG J J) J<|rN<|cD h J (fun h=>?_) (fun h=>?_)
      ·refine tK<|tS<|ab.block<|tS<|ab.eh (id:=11) (A:=[0,0,0,6,14,0,0,64,224,480,1023,2047]) 12 mixed J (by kernel_rfl) (by kernel_rfl)<|AM.qv (aA J) J<|AM.qv (aA J) J<|AM.qv (aA J) J<|aD h fun mG e5 h=>AM.qv (se (L:=n2) J J J e5) J<|AM.qv (bj (g:=MarkS.av) J J (.inl .p0) J (sM e5).2 J) J<|AM.qv (aA J) J<|AM.qv (aA J) J<|AM.qv (cF J J) J<|aD h fun kJ e6 h=>AM.qv (se (L:=n2) J J J e6) J<|AM.qv (bj (g:=MarkS.av) J J (.inl .p0) J (sM e6).2 J) J<|aD h fun ig e7 h=>AM.vB J J (nK e7) cR J<|AM.qv (cu J) J<|AM.nil<|rN<|ab.cut (fun aC=>∃ (qa:List MarkS) (n17:Int),dw n12 qa n17=some z2∧aC=⟨66,[(0,.sl 6 aP 0 qa.length),(1,.func (.func ff) gY),(5,I n17),(6,.sl 6 aP n2.toNat l6.length),(7,I n12)],[(aP,fx qa)]⟩) ?_ ?_
       ·refine cB h J (fun h=>?_) (fun h=>?_)
        ·exact aE<|rM J J<|rM J J<|rM J J<|rM J J<|aD h fun eS e8 h=>ae.qv (se (L:=n2) J J J e8) J<|ae.qv (bj (g:=MarkS.av) J J (.inl .p0) J (sM e8).2 J) J<|aD h fun nO e9 h=>ae.qv (aQ J J J e9) J<|bQ (g:=MarkS.av) (vv:=eS) J J J J e9 J .p0 J<|ae.ghost<|aj.eqs (s:=0) (ep:=.sl 6 aP 0 (l10.set n11.toNat eS).length) J (by rw [List.length_set])<|aj.here<|ae.ghost<|aj.eqs (s:=50) (ep:=.sl 6 aP 0 (l10.set n11.toNat eS).length) J (by rw [List.length_set])<|aj.here<|rN<|tR<|rM J J<|ae.qv (bc J J) J<|rA J J<|rN<|ab.stop<|aj.lq [0] ⟨l10.set n11.toNat eS,aJ (n11+(1:Int)),h,J⟩ J J
        ·exact tK<|ab.stop<|aj.lq [0] ⟨l10,n11,h,J⟩ J J
       ·rintro aC ⟨qa,n17,h,rfl⟩
        unfold dw at h
        refine ab.bY<|tR<|rM J J<|ae.qv (bc J J) J<|rA J J<|rN<|ab.stop<|?_
        cases h
        exact Cm _ _ J<|aj.lq [0] J J J
      ·refine ab.exit J<|have h:=cj h Bh;?_
       unfold iQ at h
       refine aE<|rM J J<|rM J J<|aD h fun oL AF h=>ae.qv (oR J J (.some _ _ _ J) .none J J AF) J<|Ef (g:=MarkS.av) (Z:=(⟨(0:Int),[],(0:Int),(⟨(0:Int),(0:Int),(0:Int)⟩:Version)⟩:MarkS)) (L:=n11) J J J J J J AF .p0<|ae.ghost<|aj.eqs (s:=0) (ep:=.sl 6 aP 0 (BO l10 n11 oL.length (⟨(0:Int),[],(0:Int),(⟨(0:Int),(0:Int),(0:Int)⟩:Version)⟩:MarkS)).length) J (congrArg (AV.sl 6 aP 0) (uF AF))<|aj.here<|ae.ghost<|aj.eqs (s:=59) (ep:=.sl 6 aP 0 (BO l10 n11 oL.length (⟨(0:Int),[],(0:Int),(⟨(0:Int),(0:Int),(0:Int)⟩:Version)⟩:MarkS)).length) J (congrArg (AV.sl 6 aP 0) (uF AF))<|aj.here<|rN<|aE<|rM J J<|rM J J<|aD h fun qz AG h=>ae.qv (oR J J .none (.some _ _ _ J) J J AG) J<|rA J J<|ae.ghost<|aj.KH AG .p0<|aj.here<|rN<|ab.ret<|have h:=cj h fj;?_
       cases h
       exact hH J [0] J ⟨aP,J,J⟩
    ·refine tK<|ab.bY<|tR<|rM J J<|ae.qv (bc J J) J<|rA J J<|rN<|ab.stop<|?_
     cases h
     exact jt _ _ J<|aj.lq [0] J J J
   ·refine ab.exit J<|have h:=cj h fj;aE<|rM J J<|rA J J<|rN<|ab.ret<|?_
    cases h
    exact hH J [0] J ⟨aP,J,J⟩
theorem ya [GI:bD] {aP:Bk} {aa:ah} {ai:Campaign} {au:List DeviceS} {aK:Int} {r:(List MarkS)×ah} (h:lY aa ai au aK=some r):aF Tryz.prog 10 [.ptr aP 0,Campaign.av ai,pJ au,I aK] [(aP,.cells [fc aa.L,I aa.at_])] (T1 (fun qN=>[(aP,.cells [fc r.2.L,I r.2.at_]),(qN,fx r.1)]) (fun qN=>.sl 6 qN 0 r.1.length)):=by
 unfold lY at h
 refine aF.ia ?_
 refine aF.bC Tryz.func10 J Tryz.ntmps10 Tryz.results10 J J ?_
 refine aE<|gi J J J J fun b1=>rA J J<|rN<|aE<|rA J J<|rN<|aE<|rF J J J<|rL J J .p0 J J<|rA J J<|rN<|tS<|aE<|rM J J<|rM J J<|rN<|ab.block<|ab.cM (fun x:(List Int)×Int×(List MarkS)×Int×Int=>jL au aK x.1 x.2.1 x.2.2.1 x.2.2.2.1 x.2.2.2.2) (fun x aC=>∃ (rB:Bk),aC=⟨115,[(0,.ptr aP 0),(2,pJ au),(9,.sl 6 rB 0 x.2.2.1.length),(10,I x.2.2.2.1),(17,I aK),(18,I x.2.2.2.2)],[(aP,.cells [fc x.1,I x.2.1]),(rB,fx x.2.2.1)]⟩) h ?_ ?_
 ·exact aj.arr (s:=9) 6 J fun IL=>aj.lq [2,0] ⟨IL,J⟩ J J
 ·intro x z1 aC J1 fy h jt fj
  obtain ⟨l8,n9,iT,n12,n13⟩:=x
  obtain ⟨rB,rfl⟩:=fy
  replace h:jL au aK l8 n9 iT n12 n13=some z1:=h
  unfold jL at h
  refine aE<|ae.qv (bG J J) J<|rN<|tS<|cD h J (fun h=>?_) (fun h=>?_)
  ·refine tK<|tS<|ab.block<|aE<|rM J J<|rM J J<|aU (xs:=([(0:Int),(1:Int),(5:Int),(10:Int),(10:Int)]).map I) J J J J J J<|aD h fun ig e1 h=>aZ J (bR e1) cR (.cons .p0 .nil) J J<|ae.qv (bc J J) J<|rA J J<|rN<|aE<|rM J J<|rM J J<|aU (xs:=([([100,49]:bq),([100,50]:bq),([100,51]:bq),([100,52]:bq),([100,53]:bq)]).map AV.str) J J J J J J<|aD h fun uo e2 h=>aZ J (iL e2) cR (.cons .p0 .nil) J J<|rM J J<|aD h fun v17 e3 h=>aZ J (mo e3) cR (.cons .p0 .nil) J J<|rM J J<|aU (xs:=([(2:Int),(2:Int),(3:Int),(4:Int)]).map I) J J J J J J<|aD h fun eS e4 h=>aZ J (bR e4) cR (.cons .p0 .nil) J J<|aS J (Ez J) cR J<|ae.qv (fV J J J J J) J<|ca J J J J fun pa=>ay J J J J .p0 J J<|rN<|tS<|tS<|ab.cut (fun aC=>∃ (oL:List Int) (n21:Int) (Og:Bool),jK au iT n12 n13 ig uo v17 eS oL n21 Og=some z1∧aC=⟨115,[(0,.ptr aP 0),(2,pJ au),(9,.sl 6 rB 0 iT.length),(10,I (aJ (n12+ig.1))),(11,.ptr pa 0),(17,I aK),(18,I n13),(43,.bool Og)],[(aP,.cells [fc oL,I n21]),(rB,fx iT),(pa,.cells [I (aJ (n12+ig.1)),.str uo.1,I v17.1,I ((whole eS.1).aN),I ((whole eS.1).aO),I ((whole eS.1).aM)])]⟩) ?_ ?_
   ·refine tR<|rM J J<|ae.qv (cV J) J<|ae.qv (fL J J) J<|rM J J<|gT h J J J (fun h=>?_) (fun h=>?_)
    ·exact rM J J<|rY J J J<|aD h fun v23 e5 h=>aZ J (eT e5) cR (.cons .p1 .nil) J J<|rY J J J<|ae.qv (cu J) J<|rT J J J<|rN<|ab.stop<|aj.lq [0,1,0] ⟨v23.2.L,v23.2.at_,!v23.1,h,J⟩ J J
    ·exact rG J J J J<|rG J J J J<|rE J J J<|rN<|ab.stop<|aj.lq [1,1,0] ⟨eS.2.L,eS.2.at_,false,h,J⟩ J J
   ·rintro aC ⟨oL,n21,Og,h,rfl⟩
    unfold jK at h
    refine ab.cut (fun aC=>∃ (vm:List Int) (n25:Int) (o7:bq),il iT n12 n13 ig v17 eS vm n25 o7=some z1∧aC=⟨115,[(0,.ptr aP 0),(2,pJ au),(9,.sl 6 rB 0 iT.length),(10,I (aJ (n12+ig.1))),(11,.ptr pa 0),(17,I aK),(18,I n13)],[(aP,.cells [fc vm,I n25]),(rB,fx iT),(pa,.cells [I (aJ (n12+ig.1)),.str o7,I v17.1,I ((whole eS.1).aN),I ((whole eS.1).aO),I ((whole eS.1).aM)])]⟩) ?_ ?_
    ·refine cB h J (fun h=>?_) (fun h=>?_)
     ·exact tR<|rM J J<|rM J J<|rM J J<|ae.qv (cV J) J<|aD h fun kS e6 h=>aZ J (gD e6) cR (.cons .p0 .nil) J J<|aD h fun v28 e7 h=>ae.qv (bO J J J e7 J J) J<|ae.qv (bu J J) J<|ae.qv (aX J J J) J<|rF J J J<|ay J J J J .p2 J J<|rN<|ab.stop<|aj.lq [0,0,0] ⟨kS.2.L,kS.2.at_,v28.Key,h,J⟩ J J
     ·exact tK<|ab.stop<|aj.lq [0,0,0] ⟨oL,n21,uo.1,h,J⟩ J J
    ·rintro aC ⟨vm,n25,o7,h,rfl⟩
     unfold il at h
     refine tS<|aE<|rM J J<|aD h fun pH e8 h=>aZ J (eT e8) cR (.cons .p0 .nil) J J<|ae.qv (cu J) J<|rN<|ab.cut (fun aC=>∃ (Gg:List Int) (n31:Int) (n32:Int) (n33:Int) (n34:Int) (n35:Int),ik iT n12 n13 ig o7 Gg n31 n32 n33 n34 n35=some z1∧aC=⟨115,[(0,.ptr aP 0),(2,pJ au),(9,.sl 6 rB 0 iT.length),(10,I (aJ (n12+ig.1))),(11,.ptr pa 0),(17,I aK),(18,I n13)],[(aP,.cells [fc Gg,I n31]),(rB,fx iT),(pa,.cells [I (aJ (n12+ig.1)),.str o7,I n32,I n33,I n34,I n35])]⟩) ?_ ?_
     ·refine cB h J (fun h=>?_) (fun h=>?_)
      ·refine aE<|ae.qv (fV J J J J J) J<|ca J J J J fun IM=>ay J J J J .p0 J J<|rN<|tS<|aE<|rM J J<|ae.qv (iX J) J<|rM J J<|rN<|ab.block<|ab.cM (fun x:Int×bq×Int×Int×Int×Int×Int=>jJ iT n12 n13 ig eS o7 pH x.1 x.2.1 x.2.2.1 x.2.2.2.1 x.2.2.2.2.1 x.2.2.2.2.2.1 x.2.2.2.2.2.2) (fun x aC=>aC=⟨115,[(0,.ptr aP 0),(2,pJ au),(9,.sl 6 rB 0 iT.length),(10,I (aJ (n12+ig.1))),(11,.ptr pa 0),(12,.ptr IM 0),(17,I aK),(18,I n13),(57,.sl 6 rB 0 iT.length),(58,I (iT.length:Int)),(59,I x.2.2.2.2.2.2)],[(aP,.cells [fc pH.2.L,I pH.2.at_]),(rB,fx iT),(pa,.cells [I (aJ (n12+ig.1)),.str o7,I v17.1,I ((whole eS.1).aN),I ((whole eS.1).aO),I ((whole eS.1).aM)]),(IM,.cells [I x.1,.str x.2.1,I x.2.2.1,I x.2.2.2.1,I x.2.2.2.2.1,I x.2.2.2.2.2.1])]⟩) h ?_ ?_
       ·exact aj.lq [1,1,1,0] J J J
       ·intro x z2 aC J2 fy h Cm Bh
        obtain ⟨n44,KR,n46,n47,n48,n49,n50⟩:=x
        obtain rfl:=fy
        replace h:jJ iT n12 n13 ig eS o7 pH n44 KR n46 n47 n48 n49 n50=some z2:=h
        unfold jJ at h
        refine aE<|ae.qv (bG J J) J<|rN<|tS<|cD h J (fun h=>?_) (fun h=>?_)
        ·refine tK<|tS<|ab.block<|aE<|aD h fun v51 e9 h=>ae.qv (aQ J J J e9) J<|ae.qv (bj (g:=MarkS.av) J J (.inl .p1) J e9 J) J<|ca J J J J fun Zo=>ay J J J J .p0 J J<|rN<|aE<|rF J J J<|rL J J .p0 J J<|rF J J J<|rL J J .p3 J J<|ae.qv (Gu J J) J<|rN<|ab.cut (fun aC=>∃ (N9:Int) (Oa:bq) (Oc:Int) (Od:Int) (n57:Int) (Gf:Int),jG n50 N9 Oa Oc Od n57 Gf=some z2∧aC=⟨115,[(0,.ptr aP 0),(2,pJ au),(9,.sl 6 rB 0 iT.length),(10,I (aJ (n12+ig.1))),(11,.ptr pa 0),(12,.ptr IM 0),(17,I aK),(18,I n13),(57,.sl 6 rB 0 iT.length),(58,I (iT.length:Int)),(59,I n50)],[(aP,.cells [fc pH.2.L,I pH.2.at_]),(rB,fx iT),(pa,.cells [I (aJ (n12+ig.1)),.str o7,I v17.1,I ((whole eS.1).aN),I ((whole eS.1).aO),I ((whole eS.1).aM)]),(IM,.cells [I N9,.str Oa,I Oc,I Od,I n57,I Gf])]⟩) ?_ ?_
         ·refine cD h J (fun h=>?_) (fun h=>?_)
          ·exact tR<|ae.qv (aW J J .p0 J) J<|ay J J J J .p4 J J<|rN<|ab.stop<|aj.lq [1,1,1,1] ⟨v51.At,v51.Device,v51.Kind,v51.Version.aN,v51.Version.aO,v51.Version.aM,h,J⟩ J J
          ·exact tK<|ab.stop<|aj.lq [1,1,1,1] ⟨n44,KR,n46,n47,n48,n49,h,J⟩ J J
         ·rintro aC ⟨N9,Oa,Oc,Od,n57,Gf,h,rfl⟩
          unfold jG at h
          refine ab.bY<|tR<|ae.qv (bc J J) J<|rM J J<|rN<|ab.stop<|?_
          cases h
          exact Cm _ _ J<|aj.lq [0,0,0,0] J J J
        ·refine ab.exit J<|have h:=cj h Bh;?_
         unfold nY at h
         refine aE<|rF J J J<|rL J J .p3 J J<|rN<|ab.block<|aE<|ae.qv (cC J J) J<|rA J J<|rN<|ab.cut (fun aC=>∃ (yU:List Int) (n60:Int) (n61:Int) (n62:Int) (M0:Int) (M1:Int),jH iT n12 n13 ig o7 yU n60 n61 n62 M0 M1=some z1∧aC=⟨115,[(0,.ptr aP 0),(2,pJ au),(9,.sl 6 rB 0 iT.length),(10,I (aJ (n12+ig.1))),(11,.ptr pa 0),(17,I aK),(18,I n13)],[(aP,.cells [fc yU,I n60]),(rB,fx iT),(pa,.cells [I (aJ (n12+ig.1)),.str o7,I n61,I n62,I M0,I M1])]⟩) ?_ ?_
         ·refine cD h J (fun h=>?_) (fun h=>?_)
          ·refine aD h fun Ci AF h=>ab.j6 (id:=20) (A:=[0,0,3,0,8,7,39,127,255]) (H0:=[(aP,.cells [fc pH.2.L,I pH.2.at_]),(pa,.cells [I (aJ (n12+ig.1)),.str o7,I v17.1,I ((whole eS.1).aN),I ((whole eS.1).aO),I ((whole eS.1).aM)])]) (HH:=fun β=>[(aP,.cells [fc Ci.2.L,I Ci.2.at_]),(pa,.cells [I (aJ (n12+ig.1)),.str o7,I Ci.1,I ((whole eS.1).aN),I ((whole eS.1).aO),I ((whole eS.1).aM)]),(rB,fx iT),(IM,.cells [I n44,.str KR,I n46,I n47,I n48,I n49])]) 7 mixed J (by kernel_rfl) (by kernel_rfl) [⟨none,some 2,[],fun _=>(aP,.cells [fc pH.2.L,I pH.2.at_]),none,[]⟩,⟨none,some 6,[],fun _=>(pa,.cells [I (aJ (n12+ig.1)),.str o7,I v17.1,I ((whole eS.1).aN),I ((whole eS.1).aO),I ((whole eS.1).aM)]),none,[]⟩,⟨some 2,none,[],fun _=>(aP,.cells [fc Ci.2.L,I Ci.2.at_]),none,[]⟩,⟨some 6,none,[],fun _=>(pa,.cells [I (aJ (n12+ig.1)),.str o7,I Ci.1,I ((whole eS.1).aN),I ((whole eS.1).aO),I ((whole eS.1).aM)]),none,[]⟩] [] J (by kernel_rfl) J (.cons .p0 (.cons .p1 .nil)) (fun _=>J)<|AT.am 2 J J<|AM.qv (aA J) J<|AM.jj (xs:=([(2:Int),(2:Int),(2:Int),(5:Int)]).map I) J J J J J J<|AM.nil<|AT.xD (av:=I Ci.1) (Ti:=[(aP,.cells [fc pH.2.L,I pH.2.at_])]) (Pi:=[(aP,.cells [fc Ci.2.L,I Ci.2.at_])]) (fun _=>J) (fun _=>J) (fun _=>J) J J J ?_ ?_
           ·exact aZ J (bR AF) cR (.cons .p0 .nil) J J<|ae.nil ⟨_,J,J⟩
           refine AT.am 3 J J<|AM.qv (aG J J) J<|AM.qv (bA J J .p1 J J) J<|AM.qv (aG J J) J<|AM.nil<|AT.yS (Ti:=[(pa,.cells [I (aJ (n12+ig.1)),.str o7,I v17.1,I ((whole eS.1).aN),I ((whole eS.1).aO),I ((whole eS.1).aM)])]) (Pi:=[(pa,.cells [I (aJ (n12+ig.1)),.str o7,I Ci.1,I ((whole eS.1).aN),I ((whole eS.1).aO),I ((whole eS.1).aM)])]) (fun _=>J) (fun _=>J) (fun _=>J) J J ?_ ?_
           ·exact ay J J J J .p0 J J<|ae.nil ⟨_,J⟩
           exact AT.uE (fun _=>J) fun β=>rF J J J<|ay J J J J .p1 J J<|rN<|ab.stop<|aj.lq [0,1,0] ⟨Ci.2.L,Ci.2.at_,Ci.1,n47,n48,n49,h,J⟩ J J
          ·refine aE<|ae.qv (cC J J) J<|rA J J<|rN<|ab.cut (fun aC=>∃ (FB:List Int) (vE:Int) (n68:Int) (n69:Int) (FC:Int) (M3:Int),jI iT n12 n13 ig o7 FB vE n68 n69 FC M3=some z1∧aC=⟨115,[(0,.ptr aP 0),(2,pJ au),(9,.sl 6 rB 0 iT.length),(10,I (aJ (n12+ig.1))),(11,.ptr pa 0),(17,I aK),(18,I n13)],[(aP,.cells [fc FB,I vE]),(rB,fx iT),(pa,.cells [I (aJ (n12+ig.1)),.str o7,I n68,I n69,I FC,I M3])]⟩) ?_ ?_
           ·refine cD h J (fun h=>?_) (fun h=>?_)
            ·refine aD h fun v72 AG h=>ab.j6 (id:=22) (A:=[0,0,3,0,8,7,39,127,255]) (H0:=[(aP,.cells [fc pH.2.L,I pH.2.at_]),(pa,.cells [I (aJ (n12+ig.1)),.str o7,I v17.1,I ((whole eS.1).aN),I ((whole eS.1).aO),I ((whole eS.1).aM)])]) (HH:=fun β=>[(aP,.cells [fc v72.2.L,I v72.2.at_]),(pa,.cells [I (aJ (n12+ig.1)),.str o7,I v72.1,I ((whole eS.1).aN),I ((whole eS.1).aO),I ((whole eS.1).aM)]),(rB,fx iT),(IM,.cells [I n44,.str KR,I n46,I n47,I n48,I n49])]) 7 mixed J (by kernel_rfl) (by kernel_rfl) [⟨none,some 2,[],fun _=>(aP,.cells [fc pH.2.L,I pH.2.at_]),none,[]⟩,⟨none,some 6,[],fun _=>(pa,.cells [I (aJ (n12+ig.1)),.str o7,I v17.1,I ((whole eS.1).aN),I ((whole eS.1).aO),I ((whole eS.1).aM)]),none,[]⟩,⟨some 2,none,[],fun _=>(aP,.cells [fc v72.2.L,I v72.2.at_]),none,[]⟩,⟨some 6,none,[],fun _=>(pa,.cells [I (aJ (n12+ig.1)),.str o7,I v72.1,I ((whole eS.1).aN),I ((whole eS.1).aO),I ((whole eS.1).aM)]),none,[]⟩] [] J (by kernel_rfl) J (.cons .p0 (.cons .p1 .nil)) (fun _=>J)<|AT.am 2 J J<|AM.qv (aA J) J<|AM.jj (xs:=([(3:Int),(3:Int),(4:Int)]).map I) J J J J J J<|AM.nil<|AT.xD (av:=I v72.1) (Ti:=[(aP,.cells [fc pH.2.L,I pH.2.at_])]) (Pi:=[(aP,.cells [fc v72.2.L,I v72.2.at_])]) (fun _=>J) (fun _=>J) (fun _=>J) J J J ?_ ?_
             ·exact aZ J (bR AG) cR (.cons .p0 .nil) J J<|ae.nil ⟨_,J,J⟩
             refine AT.am 3 J J<|AM.qv (aG J J) J<|AM.qv (bA J J .p1 J J) J<|AM.qv (aG J J) J<|AM.nil<|AT.yS (Ti:=[(pa,.cells [I (aJ (n12+ig.1)),.str o7,I v17.1,I ((whole eS.1).aN),I ((whole eS.1).aO),I ((whole eS.1).aM)])]) (Pi:=[(pa,.cells [I (aJ (n12+ig.1)),.str o7,I v72.1,I ((whole eS.1).aN),I ((whole eS.1).aO),I ((whole eS.1).aM)])]) (fun _=>J) (fun _=>J) (fun _=>J) J J ?_ ?_
             ·exact ay J J J J .p0 J J<|ae.nil ⟨_,J⟩
             exact AT.uE (fun _=>J) fun β=>rF J J J<|ay J J J J .p1 J J<|rN<|ab.stop<|aj.lq [0,1,0] ⟨v72.2.L,v72.2.at_,v72.1,n47,n48,n49,h,J⟩ J J
            ·exact tR<|rF J J J<|ay J J J J .p2 J J<|rN<|ab.stop<|aj.lq [0,0,0] ⟨pH.2.L,pH.2.at_,(1:Int),(whole eS.1).aN,(whole eS.1).aO,(whole eS.1).aM,h,J⟩ J J
           ·rintro aC ⟨FB,vE,n68,n69,FC,M3,h,rfl⟩
            unfold jI at h
            exact ab.stop<|aj.lq [0,0,0] ⟨FB,vE,n68,n69,FC,M3,h,J⟩ J J
         ·rintro aC ⟨yU,n60,n61,n62,M0,M1,h,rfl⟩
          unfold jH at h
          exact ab.bY<|ab.stop<|aj.lq [0,0,0] ⟨yU,n60,n61,n62,M0,M1,h,J⟩ J J
      ·exact tK<|ab.stop<|aj.lq [0,0,0] ⟨pH.2.L,pH.2.at_,v17.1,(whole eS.1).aN,(whole eS.1).aO,(whole eS.1).aM,h,J⟩ J J
     ·rintro aC ⟨Gg,n31,n32,n33,n34,n35,h,rfl⟩
      unfold ik at h
      refine tS<|aE<|rM J J<|aD h fun DB C1 h=>aZ J (eT C1) cR (.cons .p0 .nil) J J<|rN<|ab.cut (fun aC=>∃ (Oe:List Int) (Of:Int) (MX:Int) (MY:bq) (MZ:Int),ij iT n12 n13 ig n33 n34 n35 Oe Of MX MY MZ=some z1∧aC=⟨115,[(0,.ptr aP 0),(2,pJ au),(9,.sl 6 rB 0 iT.length),(10,I (aJ (n12+ig.1))),(11,.ptr pa 0),(17,I aK),(18,I n13)],[(aP,.cells [fc Oe,I Of]),(rB,fx iT),(pa,.cells [I MX,.str MY,I MZ,I n33,I n34,I n35])]⟩) ?_ ?_
      ·refine cB h J (fun h=>?_) (fun h=>?_)
       ·exact tR<|rM J J<|aD h fun v79 FF h=>aZ J (eD FF) cR (.cons .p0 .nil) J J<|rM J J<|aU (xs:=([([100,49]:bq),([]:bq)]).map AV.str) J J J J J J<|aD h fun v80 Gi h=>aZ J (iL Gi) cR (.cons .p0 .nil) J J<|rM J J<|aD h fun LY JO h=>aZ J (eD JO) cR (.cons .p0 .nil) J J<|rF J J J<|ay J J J J .p2 J J<|rF J J J<|ay J J J J .p2 J J<|rF J J J<|ay J J J J .p2 J J<|rN<|ab.stop<|aj.lq [0,0,0] ⟨LY.2.L,LY.2.at_,v79.1,v80.1,LY.1,h,J⟩ J J
       ·exact tK<|ab.stop<|aj.lq [0,0,0] ⟨DB.2.L,DB.2.at_,aJ (n12+ig.1),o7,n32,h,J⟩ J J
      ·rintro aC ⟨Oe,Of,MX,MY,MZ,h,rfl⟩
       unfold ij at h
       refine tR<|rM J J<|ae.qv (aW J J .p2 J) J<|aU (xs:=([(⟨MX,MY,MZ,(⟨n33,n34,n35⟩:Version)⟩:MarkS)]).map MarkS.av) J J J J J J<|aD h fun Un JP h=>kU (g:=MarkS.av) J J J J J J J J (.list _) JP (fun _=>.p1) J fun XP=>rA J J<|rN<|ab.bY<|tR<|ae.qv (bc J J) J<|rM J J<|rN<|ab.stop<|?_
       cases h
       exact jt _ _ J<|aj.lq [0,0] ⟨XP,J⟩ J J
  ·refine ab.exit J<|have h:=cj h fj;?_
   unfold nZ at h
   refine aE<|rM J J<|aD h fun Oh KS h=>aZ J (lQ (fun e=>nu (Option.some.inj e)) (j9 KS)) cR (.cons .p1 .nil) J J<|ae.ghost<|aj.eqs (s:=9) (ep:=.sl 6 rB 0 Oh.length) J (congrArg (AV.sl 6 rB 0) (cY KS))<|aj.here<|ae.ghost<|aj.eqs (s:=108) (ep:=.sl 6 rB 0 Oh.length) J (congrArg (AV.sl 6 rB 0) (cY KS))<|aj.here<|rN<|tS<|aE<|rM J J<|aD h fun v85 Ow h=>aZ J (eT Ow) cR (.cons .p1 .nil) J J<|rN<|cB h J (fun h=>?_) (fun h=>?_)
   ·refine aE<|rM J J<|rA J J<|rN<|ab.ret<|?_
    cases h
    exact hH J [0,0] J ⟨rB,J,J⟩
   ·refine tK<|aE<|rM J J<|aD h fun Uo Ox h=>ow J (mW (fun e=>uP (Option.some.inj e)) Ox) cR (.cons .p1 .nil) (fun _=>J) J fun Q8=>rA J J<|rN<|ab.ret<|?_
    cases h
    exact hH J [1,0] J ⟨Q8,J,J⟩
theorem oZ [GI:bD] {aa:bq} {r:Bool} (h:lZ aa=some r):Pu Tryz.prog 117 [.str aa] (.bool r):=by
 unfold lZ at h
 refine aF.bC Tryz.func117 J Tryz.ntmps117 Tryz.results117 J J ?_
 refine aE<|rA J J<|rN<|tS<|tS<|ab.cut (fun aC=>∃ (c1:Bool),kA aa c1=some r∧aC=⟨54,[(0,.str aa),(21,.bool c1)],[]⟩) ?_ ?_
 ·refine tR<|rM J J<|ae.qv (Gu J J) J<|rM J J<|gF h J J J (fun h=>?_) (fun h=>?_)
  ·refine rM J J<|rY J J J<|ae.qv (jO J) J<|rY J J J<|ae.qv (fL J J) J<|rE J J J<|rM J J<|gF h J J J (fun h=>?_) (fun h=>?_)
   ·refine rM J J<|rY J J J<|aD h fun c2 e1 h=>ae.qv (jk J J e1) J<|rY J J J<|ae.qv (bG J J) J<|rE J J J<|rM J J<|gF h J J J (fun h=>?_) (fun h=>?_)
    ·exact rM J J<|rY J J J<|aD h fun c3 e2 h=>ae.qv (jk J J e2) J<|rY J J J<|ae.qv (fL J J) J<|rE J J J<|rN<|ab.stop<|aj.lq [] ⟨decide ((122:Int) < (c3.toNat:Int)),h,J⟩ J J
    ·exact rG J J J J<|rG J J J J<|rT J J J<|rN<|ab.stop<|aj.lq [] ⟨true,h,J⟩ J J
   ·exact rG J J J J<|rG J J J J<|rT J J J<|rM J J<|rG J J J J<|rG J J J J<|rG J J J J<|rT J J J<|rN<|ab.stop<|aj.lq [] ⟨true,h,J⟩ J J
  ·exact rG J J J J<|rG J J J J<|rT J J J<|rM J J<|rG J J J J<|rG J J J J<|rG J J J J<|rT J J J<|rM J J<|rG J J J J<|rG J J J J<|rG J J J J<|rT J J J<|rN<|ab.stop<|aj.lq [] ⟨true,h,J⟩ J J
 ·rintro aC ⟨c1,h,rfl⟩
  unfold kA at h
  refine cB h J (fun h=>?_) (fun h=>?_)
  ·refine aE<|rA J J<|rN<|ab.ret<|?_
   cases h
   exact hP J J
  ·refine tK<|tS<|aE<|rM J J<|ae.qv (jO J) J<|rM J J<|rN<|ab.block<|ab.cM (fun x:Int=>ku aa x) (fun x aC=>aC=⟨54,[(0,.str aa),(23,I (aa.length:Int)),(24,I x)],[]⟩) h ?_ ?_
   ·exact aj.lq [] J J J
   ·intro n5 z1 aC J1 fy h jt fj
    obtain rfl:=fy
    replace h:ku aa n5=some z1:=h
    unfold ku at h
    refine aE<|ae.qv (bG J J) J<|rN<|tS<|cD h J (fun h=>?_) (fun h=>?_)
    ·refine tK<|tS<|ab.block<|aE<|rM J J<|rA J J<|rN<|aE<|rM J J<|rM J J<|aD h fun c6 e3 h=>ae.qv (jk J J e3) J<|rA J J<|rN<|tS<|ab.cut (fun aC=>∃ (c7:Bool),pj n5 c7=some z1∧aC=⟨54,[(0,.str aa),(23,I (aa.length:Int)),(24,I n5),(52,.bool c7)],[]⟩) ?_ ?_
     ·refine tR<|rM J J<|ae.qv (oe J J) J<|rM J J<|ae.cy J J J (fun hc=>?_) (fun hc=>?_)
      ·rw [if_pos hc] at h
       refine rM J J<|rY J J J<|ae.qv (tq J J) J<|rT J J J<|rM J J<|ae.dA J J J (fun hc=>?_) (fun hc=>?_)
       ·rw [if_neg hc] at h
        refine rM J J<|rY J J J<|ae.qv (oe J J) J<|rY J J J<|rM J J<|ae.cy J J J (fun hc=>?_) (fun hc=>?_)
        ·rw [if_pos hc] at h
         refine rM J J<|rY J J J<|ae.qv (tq J J) J<|rY J J J<|rT J J J<|rE J J J<|rM J J<|ae.dA J J J (fun hc=>?_) (fun hc=>?_)
         ·rw [if_neg hc] at h
          refine rM J J<|rY J J J<|ae.qv (cC J J) J<|rE J J J<|rM J J<|ae.dA J J J (fun hc=>?_) (fun hc=>?_)
          ·rw [if_neg hc] at h
           exact rM J J<|rY J J J<|ae.qv (cC J J) J<|rE J J J<|ae.qv (sG J) J<|rN<|ab.stop<|aj.lq [] ⟨decide (¬ ((c6.toNat:Int)=(95:Int))),h,J⟩ J J
          ·rw [if_pos hc] at h
           exact rG J J J J<|rT J J J<|ae.qv (cu J) J<|rN<|ab.stop<|aj.lq [] ⟨!true,h,J⟩ J J
         ·rw [if_pos hc] at h
          exact rG J J J J<|rT J J J<|rM J J<|rG J J J J<|rG J J J J<|rT J J J<|ae.qv (cu J) J<|rN<|ab.stop<|aj.lq [] ⟨!true,h,J⟩ J J
        ·rw [if_neg hc] at h
         refine rG J J J J<|rY J J J<|rE J J J<|rE J J J<|rM J J<|rY J J J<|rM J J<|rY J J J<|ae.qv (cC J J) J<|rE J J J<|rM J J<|ae.dA J J J (fun hc=>?_) (fun hc=>?_)
         ·rw [if_neg hc] at h
          exact rM J J<|rY J J J<|ae.qv (cC J J) J<|rE J J J<|ae.qv (sG J) J<|rN<|ab.stop<|aj.lq [] ⟨decide (¬ ((c6.toNat:Int)=(95:Int))),h,J⟩ J J
         ·rw [if_pos hc] at h
          exact rG J J J J<|rT J J J<|ae.qv (cu J) J<|rN<|ab.stop<|aj.lq [] ⟨!true,h,J⟩ J J
       ·rw [if_pos hc] at h
        exact rG J J J J<|rG J J J J<|ae.aH J J J<|ae.aH J J J<|rG J J J J<|rT J J J<|rM J J<|rG J J J J<|rG J J J J<|rT J J J<|rM J J<|rG J J J J<|rG J J J J<|rT J J J<|ae.qv (cu J) J<|rN<|ab.stop<|aj.lq [] ⟨!true,h,J⟩ J J
      ·rw [if_neg hc] at h
       refine rG J J J J<|rE J J J<|rM J J<|rY J J J<|rM J J<|rY J J J<|ae.qv (oe J J) J<|rY J J J<|rM J J<|ae.cy J J J (fun hc=>?_) (fun hc=>?_)
       ·rw [if_pos hc] at h
        refine rM J J<|rY J J J<|ae.qv (tq J J) J<|rY J J J<|rT J J J<|rE J J J<|rM J J<|ae.dA J J J (fun hc=>?_) (fun hc=>?_)
        ·rw [if_neg hc] at h
         refine rM J J<|rY J J J<|ae.qv (cC J J) J<|rE J J J<|rM J J<|ae.dA J J J (fun hc=>?_) (fun hc=>?_)
         ·rw [if_neg hc] at h
          exact rM J J<|rY J J J<|ae.qv (cC J J) J<|rE J J J<|ae.qv (sG J) J<|rN<|ab.stop<|aj.lq [] ⟨decide (¬ ((c6.toNat:Int)=(95:Int))),h,J⟩ J J
         ·rw [if_pos hc] at h
          exact rG J J J J<|rT J J J<|ae.qv (cu J) J<|rN<|ab.stop<|aj.lq [] ⟨!true,h,J⟩ J J
        ·rw [if_pos hc] at h
         exact rG J J J J<|rT J J J<|rM J J<|rG J J J J<|rG J J J J<|rT J J J<|ae.qv (cu J) J<|rN<|ab.stop<|aj.lq [] ⟨!true,h,J⟩ J J
       ·rw [if_neg hc] at h
        refine rG J J J J<|rY J J J<|rE J J J<|rE J J J<|rM J J<|rY J J J<|rM J J<|rY J J J<|ae.qv (cC J J) J<|rE J J J<|rM J J<|ae.dA J J J (fun hc=>?_) (fun hc=>?_)
        ·rw [if_neg hc] at h
         exact rM J J<|rY J J J<|ae.qv (cC J J) J<|rE J J J<|ae.qv (sG J) J<|rN<|ab.stop<|aj.lq [] ⟨decide (¬ ((c6.toNat:Int)=(95:Int))),h,J⟩ J J
        ·rw [if_pos hc] at h
         exact rG J J J J<|rT J J J<|ae.qv (cu J) J<|rN<|ab.stop<|aj.lq [] ⟨!true,h,J⟩ J J
     ·rintro aC ⟨c7,h,rfl⟩
      unfold pj at h
      refine cB h J (fun h=>?_) (fun h=>?_)
      ·refine aE<|rA J J<|rN<|ab.ret<|have h:=cj h fj;?_
       cases h
       exact hP J J
      ·refine tK<|ab.bY<|tR<|ae.qv (bc J J) J<|rM J J<|rN<|ab.stop<|?_
       cases h
       exact jt _ _ J<|aj.lq [] J J J
    ·refine ab.exit J<|have h:=cj h fj;aE<|rA J J<|rN<|ab.ret<|?_
     cases h
     exact hP J J
theorem gg [GI:bD] {aa:Int} {ai:Int} {au:Int} {r:Bool} (h:eV aa ai au=r):Pu Tryz.prog 92 [I aa,I ai,I au] (.bool r):=by
 unfold eV at h
 refine aF.bC Tryz.func92 J Tryz.ntmps92 Tryz.results92 J J ?_
 refine aE<|rA J J<|rN<|tS<|ab.cut (fun aC=>∃ (c1:Bool),sn c1=r∧aC=⟨15,[(6,.bool c1)],[]⟩) ?_ ?_
 ·refine tR<|rM J J<|rM J J<|ae.qv (bG J J) J<|rM J J<|ae.dA J J J (fun hc=>?_) (fun hc=>?_)
  ·rw [uA hc] at h
   exact rM J J<|rY J J J<|rM J J<|rY J J J<|ae.qv (fL J J) J<|rE J J J<|rA J J<|rN<|ab.stop<|aj.lq [] ⟨decide (au < aa),h,J⟩ J J
  ·rw [uz hc] at h
   exact rG J J J J<|rG J J J J<|rT J J J<|rA J J<|rN<|ab.stop<|aj.lq [] ⟨true,h,J⟩ J J
 ·rintro aC ⟨c1,h,rfl⟩
  unfold sn at h
  refine ab.ret<|?_
  obtain rfl:=h
  exact hP J J
theorem mr [GI:bD] {aa:Version} {r:Bool} (h:gu aa=r):Pu Tryz.prog 111 [Version.av aa] (.bool r):=by
 unfold gu at h
 refine aF.bC Tryz.func111 J Tryz.ntmps111 Tryz.results111 J J ?_
 refine aE<|gi J J J J fun b1=>rA J J<|rN<|tS<|ab.cut (fun aC=>∃ (c2:Bool),lr c2=r∧aC=⟨19,[(2,.bool c2)],[]⟩) ?_ ?_
 ·refine tR<|rF J J J<|rL J J .p0 J J<|aS J (gg J) cR J<|ae.qv (cu J) J<|rM J J<|ae.guard J J J (fun hc=>?_) (fun hc=>?_)
  ·rw [D6 hc] at h
   refine rF J J J<|rY J J J<|rL J J .p0 J J<|rY J J J<|aS J (gg J) cR J<|rY J J J<|ae.qv (cu J) J<|rT J J J<|rM J J<|ae.guard J J J (fun hc=>?_) (fun hc=>?_)
   ·rw [D6 hc] at h
    exact rF J J J<|rY J J J<|rL J J .p0 J J<|rY J J J<|aS J (gg J) cR J<|rY J J J<|ae.qv (cu J) J<|rT J J J<|rA J J<|rN<|ab.stop<|aj.lq [] ⟨!(eV aa.aM (0:Int) (9999:Int)),h,J⟩ J J
   ·rw [D7 hc] at h
    exact rG J J J J<|rG J J J J<|rG J J J J<|rE J J J<|rA J J<|rN<|ab.stop<|aj.lq [] ⟨false,h,J⟩ J J
  ·rw [D7 hc] at h
   exact rG J J J J<|rG J J J J<|rG J J J J<|rE J J J<|rM J J<|rG J J J J<|rG J J J J<|rG J J J J<|rG J J J J<|rE J J J<|rA J J<|rN<|ab.stop<|aj.lq [] ⟨false,h,J⟩ J J
 ·rintro aC ⟨c2,h,rfl⟩
  unfold lr at h
  refine ab.ret<|?_
  obtain rfl:=h
  exact hP J J
theorem pK [GI:bD] {aa:Int} {r:Bool} (h:iz aa=r):Pu Tryz.prog 104 [I aa] (.bool r):=by
 unfold iz at h
 refine aF.bC Tryz.func104 J Tryz.ntmps104 Tryz.results104 J J ?_
 refine aE<|rA J J<|rN<|aE<|rM J J<|aS J (gg J) cR J<|ae.qv (cu J) J<|rA J J<|rN<|ab.ret<|?_
 obtain rfl:=h
 exact hP J J
theorem pL [GI:bD] {aa:Campaign} {r:Int} (h:bV aa=some r):Pu Tryz.prog 75 [Campaign.av aa] (I r):=by
 unfold bV at h
 refine aF.bC Tryz.func75 J Tryz.ntmps75 Tryz.results75 J J ?_
 refine aE<|gi J J J J fun b1=>rA J J<|rN<|tS<|ab.block<|aE<|rF J J J<|rL J J .p0 J J<|aD h fun v2 e1 h=>aS J (oZ e1) cR J<|ae.qv (cu J) J<|rA J J<|rN<|cB h J (fun h=>?_) (fun h=>?_)
 ·refine aE<|rA J J<|rN<|ab.ret<|?_
  cases h
  exact hP J J
 ·refine tS<|ab.cut (fun aC=>∃ (c3:Bool),dZ aa c3=some r∧aC=⟨81,[(1,.ptr b1 0),(11,.bool c3)],[(b1,.cells (wM aa))]⟩) ?_ ?_
  ·refine tR<|rF J J J<|ae.qv (bA J J .p0 J J) J<|aS J (mr J) cR J<|ae.qv (cu J) J<|rM J J<|ae.guard J J J (fun hc=>?_) (fun hc=>?_)
   ·rw [rq hc] at h
    exact rF J J J<|rY J J J<|rL J J .p0 J J<|rY J J J<|aS J (pK J) cR J<|rY J J J<|ae.qv (cu J) J<|rE J J J<|rA J J<|rN<|ab.stop<|aj.lq [0] ⟨!(iz aa.At),h,J⟩ J J
   ·rw [rn hc] at h
    exact rG J J J J<|rG J J J J<|rG J J J J<|rT J J J<|rA J J<|rN<|ab.stop<|aj.lq [0] ⟨true,h,J⟩ J J
  ·rintro aC ⟨c3,h,rfl⟩
   unfold dZ at h
   refine cB h J (fun h=>?_) (fun h=>?_)
   ·refine aE<|rA J J<|rN<|ab.ret<|?_
    cases h
    exact hP J J
   ·refine aE<|rF J J J<|rL J J .p0 J J<|ae.qv (cV J) J<|ae.qv (cC J J) J<|rA J J<|rN<|cD h J (fun h=>?_) (fun h=>?_)
    ·refine aE<|rA J J<|rN<|ab.ret<|?_
     cases h
     exact hP J J
    ·refine aE<|rF J J J<|rL J J .p0 J J<|ae.qv (cV J) J<|ae.qv (fL J J) J<|rA J J<|rN<|cD h J (fun h=>?_) (fun h=>?_)
     ·refine aE<|rA J J<|rN<|ab.ret<|?_
      cases h
      exact hP J J
     ·refine tK<|ab.bY<|aE<|rA J J<|rN<|tS<|aE<|rF J J J<|rL J J .p0 J J<|ae.qv (cV J) J<|rM J J<|rN<|ab.block<|ab.cM (fun x:Int×Int=>cP aa x.1 x.2) (fun x aC=>aC=⟨81,[(1,.ptr b1 0),(3,I x.1),(33,oM aa.aB),(34,I (aa.aB.length:Int)),(35,I x.2)],[(b1,.cells (wM aa))]⟩) h ?_ ?_
      ·exact aj.lq [0] J J J
      ·intro x z1 aC J1 fy h jt fj
       obtain ⟨n6,n7⟩:=x
       obtain rfl:=fy
       replace h:cP aa n6 n7=some z1:=h
       unfold cP at h
       refine aE<|ae.qv (bG J J) J<|rN<|tS<|cD h J (fun h=>?_) (fun h=>?_)
       ·refine tK<|tS<|ab.block<|aE<|aD h fun v8 e2 h=>ae.qv (bO J J J e2 J J) J<|ae.qv (bt J J J) J<|ca J J J J fun b9=>ay J J J J .p0 J J<|rN<|tS<|tS<|ab.cut (fun aC=>∃ (HC:Bool),dX n6 n7 v8 HC=some z1∧aC=⟨81,[(1,.ptr b1 0),(3,I n6),(5,.ptr b9 0),(33,oM aa.aB),(34,I (aa.aB.length:Int)),(35,I n7),(56,.bool HC)],[(b1,.cells (wM aa)),(b9,.cells (Us v8))]⟩) ?_ ?_
        ·refine tR<|rF J J J<|rL J J .p0 J J<|aS J (gg J) cR J<|rM J J<|ae.guard J J J (fun hc=>?_) (fun hc=>?_)
         ·rw [rq hc] at h
          refine rF J J J<|rY J J J<|rL J J .p0 J J<|rY J J J<|aS J (gg J) cR J<|rE J J J<|rM J J<|ae.guard J J J (fun hc=>?_) (fun hc=>?_)
          ·rw [rq hc] at h
           refine rF J J J<|rY J J J<|rL J J .p0 J J<|rY J J J<|aS J (gg J) cR J<|rE J J J<|rM J J<|ae.guard J J J (fun hc=>?_) (fun hc=>?_)
           ·rw [rq hc] at h
            exact rF J J J<|rY J J J<|rL J J .p0 J J<|rY J J J<|aS J (gg J) cR J<|rE J J J<|rN<|ab.stop<|aj.lq [1,0] ⟨(eV v8.cO (0:Int) (1000:Int)),h,J⟩ J J
           ·rw [rn hc] at h
            exact rG J J J J<|rG J J J J<|rT J J J<|rN<|ab.stop<|aj.lq [1,0] ⟨true,h,J⟩ J J
          ·rw [rn hc] at h
           exact rG J J J J<|rG J J J J<|rT J J J<|rM J J<|rG J J J J<|rG J J J J<|rG J J J J<|rT J J J<|rN<|ab.stop<|aj.lq [1,0] ⟨true,h,J⟩ J J
         ·rw [rn hc] at h
          exact rG J J J J<|rG J J J J<|rT J J J<|rM J J<|rG J J J J<|rG J J J J<|rG J J J J<|rT J J J<|rM J J<|rG J J J J<|rG J J J J<|rG J J J J<|rT J J J<|rN<|ab.stop<|aj.lq [1,0] ⟨true,h,J⟩ J J
        ·rintro aC ⟨HC,h,rfl⟩
         unfold dX at h
         refine cB h J (fun h=>?_) (fun h=>?_)
         ·refine aE<|rA J J<|rN<|ab.ret<|have h:=cj h fj;?_
          cases h
          exact hP J J
         ·refine tK<|tR<|rM J J<|rF J J J<|rL J J .p1 J J<|ae.qv (bc J J) J<|rA J J<|rN<|ab.bY<|tR<|ae.qv (bc J J) J<|rM J J<|rN<|ab.stop<|?_
          cases h
          exact jt _ _ J<|aj.lq [0] J J J
       ·refine ab.exit J<|have h:=cj h fj;?_
        unfold fk at h
        refine tS<|ab.block<|aE<|rM J J<|ae.qv (kT J J) J<|rA J J<|rN<|cD h J (fun h=>?_) (fun h=>?_)
        ·refine aE<|rA J J<|rN<|ab.ret<|?_
         cases h
         exact hP J J
        ·refine tS<|ab.cut (fun aC=>∃ (DC:Bool),dY DC=some r∧aC=⟨81,[(65,.bool DC)],[]⟩) ?_ ?_
         ·refine tR<|rF J J J<|rF J J J<|rL J J .p0 J J<|aS J (gg J) cR J<|rM J J<|ae.guard J J J (fun hc=>?_) (fun hc=>?_)
          ·rw [rq hc] at h
           refine rF J J J<|rY J J J<|rF J J J<|rY J J J<|rL J J .p0 J J<|rY J J J<|aS J (gg J) cR J<|rE J J J<|rM J J<|ae.guard J J J (fun hc=>?_) (fun hc=>?_)
           ·rw [rq hc] at h
            exact rF J J J<|rY J J J<|rL J J .p0 J J<|rY J J J<|aS J (gg J) cR J<|rE J J J<|rA J J<|rN<|ab.stop<|aj.lq [] ⟨(eV aa.Room (1:Int) (500:Int)),h,J⟩ J J
           ·rw [rn hc] at h
            exact rG J J J J<|rG J J J J<|rT J J J<|rA J J<|rN<|ab.stop<|aj.lq [] ⟨true,h,J⟩ J J
          ·rw [rn hc] at h
           exact rG J J J J<|rG J J J J<|rG J J J J<|rT J J J<|rM J J<|rG J J J J<|rG J J J J<|rG J J J J<|rT J J J<|rA J J<|rN<|ab.stop<|aj.lq [] ⟨true,h,J⟩ J J
         ·rintro aC ⟨DC,h,rfl⟩
          unfold dY at h
          refine cB h J (fun h=>?_) (fun h=>?_)
          ·refine aE<|rA J J<|rN<|ab.ret<|?_
           cases h
           exact hP J J
          ·refine tK<|ab.bY<|aE<|rA J J<|rN<|ab.ret<|?_
           cases h
           exact hP J J
theorem rC [GI:bD] {aa:List DeviceS} {r:Int} (h:gl aa=some r):Pu Tryz.prog 77 [pJ aa] (I r):=by
 unfold gl at h
 refine aF.bC Tryz.func77 J Tryz.ntmps77 Tryz.results77 J J ?_
 refine aE<|rA J J<|rN<|tS<|aE<|rM J J<|ae.qv (cV J) J<|ae.qv (fL J J) J<|rN<|cD h J (fun h=>?_) (fun h=>?_)
 ·refine aE<|rA J J<|rN<|ab.ret<|?_
  cases h
  exact hP J J
 ·refine tK<|tS<|aE<|rM J J<|ae.qv (cV J) J<|rM J J<|rN<|ab.block<|ab.cM (fun x:Int=>cq aa x) (fun x aC=>aC=⟨57,[(0,pJ aa),(8,pJ aa),(9,I (aa.length:Int)),(10,I x)],[]⟩) h ?_ ?_
  ·exact aj.lq [] J J J
  ·intro n2 z1 aC J1 fy h jt fj
   obtain rfl:=fy
   replace h:cq aa n2=some z1:=h
   unfold cq at h
   refine aE<|ae.qv (bG J J) J<|rN<|tS<|cD h J (fun h=>?_) (fun h=>?_)
   ·refine tK<|tS<|ab.block<|aE<|rM J J<|aD h fun v3 e1 h=>ae.qv (bO J J J e1 J J) J<|ae.qv (bt J J J) J<|ca J J J J fun b4=>rA J J<|ay J J J J .p0 J J<|rN<|ab.block<|tS<|ab.cut (fun aC=>∃ (c5:Bool),cS aa n2 v3 c5=some z1∧aC=⟨57,[(0,pJ aa),(3,I n2),(4,.ptr b4 0),(8,pJ aa),(9,I (aa.length:Int)),(10,I n2),(15,.bool c5)],[(b4,.cells (Py v3))]⟩) ?_ ?_
    ·refine tR<|rF J J J<|rL J J .p0 J J<|aD h fun v6 e2 h=>aS J (oZ e2) cR J<|ae.qv (cu J) J<|rM J J<|ae.guard J J J (fun hc=>?_) (fun hc=>?_)
     ·refine have h:=wg hc h;rF J J J<|rY J J J<|rL J J .p0 J J<|rY J J J<|aD h fun v7 e3 h=>aS J (oZ e3) cR J<|rY J J J<|ae.qv (cu J) J<|rE J J J<|rM J J<|ae.guard J J J (fun hc=>?_) (fun hc=>?_)
      ·exact have h:=wg hc h;rF J J J<|rY J J J<|rL J J .p0 J J<|rY J J J<|aD h fun v8 e4 h=>aS J (oZ e4) cR J<|rY J J J<|ae.qv (cu J) J<|rE J J J<|rA J J<|rN<|ab.stop<|aj.lq [0] ⟨!v8,h,J⟩ J J
      ·exact have h:=rm hc h;rG J J J J<|rG J J J J<|rG J J J J<|rT J J J<|rA J J<|rN<|ab.stop<|aj.lq [0] ⟨true,h,J⟩ J J
     ·exact have h:=rm hc h;rG J J J J<|rG J J J J<|rG J J J J<|rT J J J<|rM J J<|rG J J J J<|rG J J J J<|rG J J J J<|rG J J J J<|rT J J J<|rA J J<|rN<|ab.stop<|aj.lq [0] ⟨true,h,J⟩ J J
    ·rintro aC ⟨c5,h,rfl⟩
     unfold cS at h
     refine cB h J (fun h=>?_) (fun h=>?_)
     ·refine aE<|rA J J<|rN<|ab.ret<|have h:=cj h fj;?_
      cases h
      exact hP J J
     ·refine tS<|ab.cut (fun aC=>∃ (c9:Bool),cm n2 v3 c9=some z1∧aC=⟨57,[(0,pJ aa),(4,.ptr b4 0),(8,pJ aa),(9,I (aa.length:Int)),(10,I n2),(32,.bool c9)],[(b4,.cells (Py v3))]⟩) ?_ ?_
      ·refine ab.eh (id:=8) (A:=[0,1,3,7,15,7,7,71,231,487,999,2047,4095,8191]) 14 mixed J (by kernel_rfl) (by kernel_rfl)<|AM.qv (aA J) J<|AM.qv (fL J J) J<|AM.qv (aA J) J<|AM.cy J J J (fun hc=>?_) (fun hc=>?_)
       ·exact have h:=rm hc h;AM.qv (aG J J) J<|AM.aq J J J<|AM.qv (ba J J .p0 J) J<|AM.aq J J J<|AM.qv (aA J) J<|AM.aq J J J<|AM.qv (aA J) J<|AM.aq J J J<|AM.qv (cF J J) J<|AM.aq J J J<|aD h fun v10 e5 h=>AM.qv (bO J J J e5 J J) J<|AM.aq J J J<|AM.qv (bu J J) J<|AM.aq J J J<|AM.qv (aX J J J) J<|AM.aq J J J<|AM.qv (GU J J) J<|AM.qv (gI J J) J<|AM.qv (ek J) J<|AM.nil<|rN<|ab.stop<|aj.lq [0] ⟨Op.bytesLess v3.Key v10.Key||v3.Key==v10.Key,h,J⟩ J J
       ·exact have h:=yQ hc h;AM.ao J J J J<|AM.ao J J J J<|AM.ao J J J J<|AM.ao J J J J<|AM.ao J J J J<|AM.ao J J J J<|AM.ao J J J J<|AM.ao J J J J<|AM.qv (fr J J) J<|AM.qv (ek J) J<|AM.nil<|rN<|ab.stop<|aj.lq [0] ⟨false,h,J⟩ J J
      ·rintro aC ⟨c9,h,rfl⟩
       unfold cm at h
       refine cB h J (fun h=>?_) (fun h=>?_)
       ·refine aE<|rA J J<|rN<|ab.ret<|have h:=cj h fj;?_
        cases h
        exact hP J J
       ·refine aE<|rF J J J<|ae.qv (bA J J .p0 J J) J<|aS J (mr J) cR J<|ae.qv (cu J) J<|rA J J<|rN<|cB h J (fun h=>?_) (fun h=>?_)
        ·refine aE<|rA J J<|rN<|ab.ret<|have h:=cj h fj;?_
         cases h
         exact hP J J
        ·refine aE<|rF J J J<|rL J J .p0 J J<|ae.qv (cV J) J<|ae.qv (fL J J) J<|rA J J<|rN<|cD h J (fun h=>?_) (fun h=>?_)
         ·refine aE<|rA J J<|rN<|ab.ret<|have h:=cj h fj;?_
          cases h
          exact hP J J
         ·refine tK<|ab.bY<|ab.bY<|tR<|ae.qv (bc J J) J<|rM J J<|rN<|ab.stop<|?_
          cases h
          exact jt _ _ J<|aj.lq [] J J J
   ·refine ab.exit J<|have h:=cj h fj;aE<|rA J J<|rN<|ab.ret<|?_
    cases h
    exact hP J J
theorem re [GI:bD] {aa:Int} {r:Bool} (h:cmp_isNaN_int aa=r):Pu Tryz.prog 157 [I aa] (.bool r):=by
 unfold cmp_isNaN_int at h
 refine aF.bC Tryz.func157 J Tryz.ntmps157 Tryz.results157 J J ?_
 refine aE<|rA J J<|rN<|aE<|rM J J<|rM J J<|ae.qv (kT J J) J<|rA J J<|rN<|ab.ret<|?_
 obtain rfl:=h
 exact hP J J
theorem uQ [GI:bD] {aa:Int} {ai:Int} {r:Int} (h:cmp_Compare_int aa ai=r):Pu Tryz.prog 126 [I aa,I ai] (I r):=by
 unfold cmp_Compare_int at h
 refine aF.bC Tryz.func126 J Tryz.ntmps126 Tryz.results126 J J ?_
 refine aE<|rA J J<|rN<|aE<|rM J J<|aS J (re J) cR J<|rA J J<|rN<|aE<|rM J J<|aS J (re J) cR J<|rA J J<|rN<|tS<|aE<|rM J J<|rN<|cB h J (fun h=>?_) (fun h=>?_)
 ·refine tS<|aE<|rM J J<|rN<|cB h J (fun h=>?_) (fun h=>?_)
  ·refine aE<|rA J J<|rN<|ab.ret<|?_
   obtain rfl:=h
   exact hP J J
  ·refine tK<|aE<|rA J J<|rN<|ab.ret<|?_
   obtain rfl:=h
   exact hP J J
 ·refine tK<|tS<|aE<|rM J J<|rN<|cB h J (fun h=>?_) (fun h=>?_)
  ·refine aE<|rA J J<|rN<|ab.ret<|?_
   obtain rfl:=h
   exact hP J J
  ·refine tK<|tS<|aE<|rM J J<|rM J J<|ae.qv (bG J J) J<|rN<|cD h J (fun h=>?_) (fun h=>?_)
   ·refine aE<|rA J J<|rN<|ab.ret<|?_
    obtain rfl:=h
    exact hP J J
   ·refine tK<|tS<|aE<|rM J J<|rM J J<|ae.qv (fL J J) J<|rN<|cD h J (fun h=>?_) (fun h=>?_)
    ·refine aE<|rA J J<|rN<|ab.ret<|?_
     obtain rfl:=h
     exact hP J J
    ·refine tK<|aE<|rA J J<|rN<|ab.ret<|?_
     obtain rfl:=h
     exact hP J J
theorem AH [GI:bD] {aa:List Int} {r:Int} (h:qK aa=some r):Pu Tryz.prog 125 [fc aa] (I r):=by
 unfold qK at h
 refine aF.bC Tryz.func125 J Tryz.ntmps125 Tryz.results125 J J ?_
 refine aE<|rA J J<|rN<|aE<|rA J J<|rN<|tS<|aE<|rM J J<|ae.qv (cV J) J<|rM J J<|rN<|ab.block<|ab.cM (fun x:Int=>nh aa x) (fun x aC=>aC=⟨18,[(3,I (0:Int)),(6,fc aa),(7,I (aa.length:Int)),(8,I x)],[]⟩) h ?_ ?_
 ·exact aj.lq [] J J J
 ·intro n2 z1 aC J1 fy h jt fj
  obtain rfl:=fy
  replace h:nh aa n2=some z1:=h
  unfold nh at h
  refine aE<|ae.qv (bG J J) J<|rN<|tS<|cD h J (fun h=>?_) (fun h=>?_)
  ·refine tK<|tS<|ab.block<|aE<|aD h fun v3 e1 h=>ae.qv (bO J J J e1 J J) J<|ae.qv (aX J J J) J<|rA J J<|rN<|aE<|rM J J<|rM J J<|ae.qv (kT J J) J<|rN<|cD h J (fun h=>?_) (fun h=>?_)
   ·refine aE<|rM J J<|rA J J<|rN<|ab.ret<|have h:=cj h fj;?_
    cases h
    exact hP J J
   ·refine tK<|ab.bY<|tR<|ae.qv (bc J J) J<|rM J J<|rN<|ab.stop<|?_
    cases h
    exact jt _ _ J<|aj.lq [] J J J
  ·refine ab.exit J<|have h:=cj h fj;aE<|rM J J<|rA J J<|rN<|ab.ret<|?_
   cases h
   exact hP J J
theorem th [GI:bD] {aa:MarkS} {ai:MarkS} {r:Int} (h:iA aa ai=some r):Pu Tryz.prog 120 [MarkS.av aa,MarkS.av ai] (I r):=by
 unfold iA at h
 refine aF.bC Tryz.func120 J Tryz.ntmps120 Tryz.results120 J J ?_
 refine aE<|gi J J J J fun b1=>gi J J J J fun b2=>rA J J<|rN<|tS<|ab.eh (id:=1) (A:=[0,1,0,4,15,0,32,0,128,511,1023,2047,4095]) 13 mixed J (by kernel_rfl) (by kernel_rfl)<|AM.qv (aG J J) J<|AM.qv (ba J J .p1 J) J<|AM.qv (aG J J) J<|AM.qv (ba J J .p0 J) J<|AM.we J (uQ J) cR J<|AM.qv (aG J J) J<|AM.qv (ba J J .p1 J) J<|AM.qv (aG J J) J<|AM.qv (ba J J .p0 J) J<|AM.we J (ph J) cR J<|AM.jj (xs:=([(cmp_Compare_int aa.At ai.At),(Lib.compareBytes aa.Device ai.Device)]:List Int).map I) J J J J J J<|aD h fun v3 e1 h=>AM.we J (AH e1) cR J<|AM.qv (ek J) J<|AM.nil<|rN<|ab.ret<|?_
 cases h
 exact hP J J
theorem rD [GI:bD] {aa:List MarkS} {r:Int} (h:gm aa=some r):Pu Tryz.prog 78 [o8 aa] (I r):=by
 unfold gm at h
 refine aF.bC Tryz.func78 J Tryz.ntmps78 Tryz.results78 J J ?_
 refine aE<|rA J J<|rN<|tS<|aE<|rM J J<|ae.qv (cV J) J<|ae.qv (fL J J) J<|rN<|cD h J (fun h=>?_) (fun h=>?_)
 ·refine aE<|rA J J<|rN<|ab.ret<|?_
  cases h
  exact hP J J
 ·refine tK<|tS<|aE<|rM J J<|ae.qv (cV J) J<|rM J J<|rN<|ab.block<|ab.cM (fun x:Int=>cr aa x) (fun x aC=>aC=⟨48,[(0,o8 aa),(8,o8 aa),(9,I (aa.length:Int)),(10,I x)],[]⟩) h ?_ ?_
  ·exact aj.lq [] J J J
  ·intro n2 z1 aC J1 fy h jt fj
   obtain rfl:=fy
   replace h:cr aa n2=some z1:=h
   unfold cr at h
   refine aE<|ae.qv (bG J J) J<|rN<|tS<|cD h J (fun h=>?_) (fun h=>?_)
   ·refine tK<|tS<|ab.block<|aE<|rM J J<|aD h fun v3 e1 h=>ae.qv (bO J J J e1 J J) J<|ae.qv (bt J J J) J<|ca J J J J fun b4=>rA J J<|ay J J J J .p0 J J<|rN<|ab.block<|aE<|rF J J J<|rL J J .p0 J J<|aS J (pK J) cR J<|ae.qv (cu J) J<|rA J J<|rN<|cB h J (fun h=>?_) (fun h=>?_)
    ·refine aE<|rA J J<|rN<|ab.ret<|have h:=cj h fj;?_
     cases h
     exact hP J J
    ·refine aE<|rF J J J<|rL J J .p0 J J<|aD h fun v5 e2 h=>aS J (oZ e2) cR J<|ae.qv (cu J) J<|rA J J<|rN<|cB h J (fun h=>?_) (fun h=>?_)
     ·refine aE<|rA J J<|rN<|ab.ret<|have h:=cj h fj;?_
      cases h
      exact hP J J
     ·refine aE<|rF J J J<|rL J J .p0 J J<|aS J (gg J) cR J<|rA J J<|rN<|cB h J (fun h=>?_) (fun h=>?_)
      ·refine aE<|rA J J<|rN<|ab.ret<|have h:=cj h fj;?_
       cases h
       exact hP J J
      ·refine aE<|rF J J J<|ae.qv (bA J J .p0 J J) J<|aS J (mr J) cR J<|ae.qv (cu J) J<|rA J J<|rN<|cB h J (fun h=>?_) (fun h=>?_)
       ·refine aE<|rA J J<|rN<|ab.ret<|have h:=cj h fj;?_
        cases h
        exact hP J J
       ·refine tS<|ab.cut (fun aC=>∃ (c6:Bool),eW n2 c6=some z1∧aC=⟨48,[(0,o8 aa),(8,o8 aa),(9,I (aa.length:Int)),(10,I n2),(34,.bool c6)],[]⟩) ?_ ?_
        ·refine ab.eh (id:=14) (A:=[0,1,3,7,7,7,39,119,247,511,1023,2047,4095]) 13 mixed J (by kernel_rfl) (by kernel_rfl)<|AM.qv (aA J) J<|AM.qv (fL J J) J<|AM.qv (aA J) J<|AM.cy J J J (fun hc=>?_) (fun hc=>?_)
         ·exact have h:=rm hc h;AM.qv (aW J J .p0 J) J<|AM.aq J J J<|AM.qv (aA J) J<|AM.aq J J J<|AM.qv (aA J) J<|AM.aq J J J<|AM.qv (cF J J) J<|AM.aq J J J<|aD h fun v7 e3 h=>AM.qv (bO J J J e3 J J) J<|AM.aq J J J<|AM.qv (bt J J J) J<|AM.aq J J J<|aD h fun v8 e4 h=>AM.we J (th e4) cR J<|AM.aq J J J<|AM.qv (tq J J) J<|AM.qv (gI J J) J<|AM.qv (ek J) J<|AM.nil<|rN<|ab.stop<|aj.lq [] ⟨decide (v8≤(0:Int)),h,J⟩ J J
         ·exact have h:=yQ hc h;AM.ao J J J J<|AM.ao J J J J<|AM.ao J J J J<|AM.ao J J J J<|AM.ao J J J J<|AM.ao J J J J<|AM.ao J J J J<|AM.qv (fr J J) J<|AM.qv (ek J) J<|AM.nil<|rN<|ab.stop<|aj.lq [] ⟨false,h,J⟩ J J
        ·rintro aC ⟨c6,h,rfl⟩
         unfold eW at h
         refine cB h J (fun h=>?_) (fun h=>?_)
         ·refine aE<|rA J J<|rN<|ab.ret<|have h:=cj h fj;?_
          cases h
          exact hP J J
         ·refine tK<|ab.bY<|ab.bY<|tR<|ae.qv (bc J J) J<|rM J J<|rN<|ab.stop<|?_
          cases h
          exact jt _ _ J<|aj.lq [] J J J
   ·refine ab.exit J<|have h:=cj h fj;aE<|rA J J<|rN<|ab.ret<|?_
    cases h
    exact hP J J
theorem AI [GI:bD] {aa:List Int} {r:Int} (h:qL aa=some r):Pu Tryz.prog 74 [fc aa] (I r):=by
 unfold qL at h
 refine aF.bC Tryz.func74 J Tryz.ntmps74 Tryz.results74 J J ?_
 refine aE<|rA J J<|rN<|tS<|aE<|rM J J<|ae.qv (cV J) J<|rM J J<|rN<|ab.block<|ab.cM (fun x:Int=>ni aa x) (fun x aC=>aC=⟨15,[(5,fc aa),(6,I (aa.length:Int)),(7,I x)],[]⟩) h ?_ ?_
 ·exact aj.lq [] J J J
 ·intro n2 z1 aC J1 fy h jt fj
  obtain rfl:=fy
  replace h:ni aa n2=some z1:=h
  unfold ni at h
  refine aE<|ae.qv (bG J J) J<|rN<|tS<|cD h J (fun h=>?_) (fun h=>?_)
  ·refine tK<|tS<|ab.block<|aE<|aD h fun v3 e1 h=>ae.qv (bO J J J e1 J J) J<|ae.qv (aX J J J) J<|rA J J<|rN<|aE<|rM J J<|ae.qv (kT J J) J<|rN<|cD h J (fun h=>?_) (fun h=>?_)
   ·refine aE<|rM J J<|rA J J<|rN<|ab.ret<|have h:=cj h fj;?_
    cases h
    exact hP J J
   ·refine tK<|ab.bY<|tR<|ae.qv (bc J J) J<|rM J J<|rN<|ab.stop<|?_
    cases h
    exact jt _ _ J<|aj.lq [] J J J
  ·refine ab.exit J<|have h:=cj h fj;aE<|rA J J<|rN<|ab.ret<|?_
   cases h
   exact hP J J
theorem qm [GI:bD] {aa:Campaign} {ai:List DeviceS} {au:List MarkS} {aK:Int} {r:Int} (h:jb aa ai au aK=some r):Pu Tryz.prog 51 [.cE [.str aa.Key,I aa.Target.aN,I aa.Target.aO,I aa.Target.aM,I aa.At,oM aa.aB,I aa.bh.eU,I aa.bh.To,I aa.Room],pJ ai,o8 au,I aK] (I r):=by
 unfold jb at h
 refine aF.bC Tryz.func51 J Tryz.ntmps51 Tryz.results51 J J ?_
 refine aE<|rA J J<|rN<|aE<|rM J J<|ae.qv (bF J) J<|ae.qv (bt J J J) J<|aD h fun v1 e1 h=>aS J (pL e1) cR J<|rM J J<|aD h fun v2 e2 h=>aS J (rC e2) cR J<|rM J J<|aD h fun v3 e3 h=>aS J (rD e3) cR J<|aU (xs:=([v1,v2,v3]:List Int).map I) J J J J J J<|aD h fun v4 e4 h=>aS J (AI e4) cR J<|rA J J<|rN<|tS<|tS<|ab.cut (fun aC=>∃ (c5:Bool),kc v4 c5=some r∧aC=⟨28,[(9,I v4),(26,.bool c5)],[]⟩) ?_ ?_
 ·refine tR<|rM J J<|ae.qv (cC J J) J<|rM J J<|ae.cy J J J (fun hc=>?_) (fun hc=>?_)
  ·rw [om hc] at h
   exact rM J J<|rY J J J<|aS J (pK J) cR J<|rY J J J<|ae.qv (cu J) J<|rT J J J<|rN<|ab.stop<|aj.lq [] ⟨!(iz aK),h,J⟩ J J
  ·rw [oo hc] at h
   exact rG J J J J<|rG J J J J<|rE J J J<|rN<|ab.stop<|aj.lq [] ⟨false,h,J⟩ J J
 ·rintro aC ⟨c5,h,rfl⟩
  unfold kc at h
  refine ab.cut (fun aC=>∃ (n6:Int),iB n6=some r∧aC=⟨28,[(9,I n6)],[]⟩) ?_ ?_
  ·refine cB h J (fun h=>?_) (fun h=>?_)
   ·exact tR<|rA J J<|rN<|ab.stop<|aj.lq [] ⟨(1:Int),h,J⟩ J J
   ·exact tK<|ab.stop<|aj.lq [] ⟨v4,h,J⟩ J J
  ·rintro aC ⟨n6,h,rfl⟩
   unfold iB at h
   refine aE<|rM J J<|rA J J<|rN<|ab.ret<|?_
   cases h
   exact hP J J
theorem Cn [GI:bD] {aa:List bq} {r:Int} (h:qd aa=some r):Pu Tryz.prog 158 [JN aa] (.int .u64 r):=by
 unfold qd at h
 refine aF.bC Tryz.func158 J Tryz.ntmps158 Tryz.results158 J J ?_
 refine aE<|rA J J<|rN<|aE<|rA J J<|rN<|tS<|aE<|rM J J<|ae.qv (cV J) J<|rM J J<|rN<|ab.block<|ab.cM (fun x:Int×Int=>jq aa x.1 x.2) (fun x aC=>aC=⟨33,[(3,.int .u64 x.1),(7,JN aa),(8,I (aa.length:Int)),(9,I x.2)],[]⟩) h ?_ ?_
 ·exact aj.lq [] J J J
 ·intro x z1 aC J1 fy h jt fj
  obtain ⟨n3,n4⟩:=x
  obtain rfl:=fy
  replace h:jq aa n3 n4=some z1:=h
  unfold jq at h
  refine aE<|ae.qv (bG J J) J<|rN<|tS<|cD h J (fun h=>?_) (fun h=>?_)
  ·refine tK<|tS<|ab.block<|aE<|rM J J<|aD h fun v5 e1 h=>ae.qv (bO J J J e1 J J) J<|ae.qv (aX J J J) J<|rA J J<|rA J J<|rN<|tS<|aE<|rM J J<|ae.qv (fL J J) J<|rN<|ab.cut (fun aC=>∃ (n6:Int),kN n4 v5 n6=some z1∧aC=⟨33,[(3,.int .u64 n6),(5,.str v5),(7,JN aa),(8,I (aa.length:Int)),(9,I n4)],[]⟩) ?_ ?_
   ·refine cD h J (fun h=>?_) (fun h=>?_)
    ·exact tR<|rM J J<|ae.qv (nR J J) J<|rA J J<|rN<|ab.stop<|aj.lq [] ⟨IntKind.u64.wrap (n3 * (1099511628211:Int)),h,J⟩ J J
    ·exact tK<|ab.stop<|aj.lq [] ⟨n3,h,J⟩ J J
   ·rintro aC ⟨n6,h,rfl⟩
    unfold kN at h
    refine aE<|rM J J<|ae.qv (jO J) J<|rM J J<|rN<|ab.block<|ab.cM (fun x:Int×Int=>kM n4 v5 x.1 x.2) (fun x aC=>aC=⟨33,[(3,.int .u64 x.1),(5,.str v5),(7,JN aa),(8,I (aa.length:Int)),(9,I n4),(19,I (v5.length:Int)),(20,I x.2)],[]⟩) h ?_ ?_
    ·exact aj.lq [] J J J
    ·intro x z2 aC J2 fy h Cm Bh
     obtain ⟨n9,n10⟩:=x
     obtain rfl:=fy
     replace h:kM n4 v5 n9 n10=some z2:=h
     unfold kM at h
     refine aE<|ae.qv (bG J J) J<|rN<|tS<|cD h J (fun h=>?_) (fun h=>?_)
     ·refine tK<|tS<|ab.block<|aE<|rM J J<|rA J J<|rN<|tR<|rM J J<|rM J J<|rM J J<|aD h fun DC e2 h=>ae.qv (jk J J e2) J<|ae.qv (fY J) J<|ae.qv (D8 J J) J<|ae.qv (nR J J) J<|rA J J<|rN<|ab.bY<|tR<|ae.qv (bc J J) J<|rM J J<|rN<|ab.stop<|?_
      cases h
      exact Cm _ _ J<|aj.lq [] J J J
     ·refine ab.exit J<|have h:=cj h Bh;ab.bY<|tR<|ae.qv (bc J J) J<|rM J J<|rN<|ab.stop<|?_
      cases h
      exact jt _ _ J<|aj.lq [] J J J
  ·refine ab.exit J<|have h:=cj h fj;aE<|rM J J<|rA J J<|rN<|ab.ret<|?_
   cases h
   exact hP J J
theorem yb [GI:bD] {aa:Campaign} {ai:bq} {r:Int} (h:mb aa ai=some r):Pu Tryz.prog 127 [.cE [.str aa.Key,I aa.Target.aN,I aa.Target.aO,I aa.Target.aM,I aa.At,oM aa.aB,I aa.bh.eU,I aa.bh.To,I aa.Room],.str ai] (I r):=by
 unfold mb at h
 refine aF.bC Tryz.func127 J Tryz.ntmps127 Tryz.results127 J J ?_
 refine aE<|rA J J<|rN<|aE<|rM J J<|ae.qv (bF J) J<|ae.qv (bu J J) J<|ae.qv (aX J J J) J<|rM J J<|aU (xs:=([aa.Key,ai]:List bq).map AV.str) J J J J J J<|aD h fun v1 e1 h=>aS J (Cn e1) cR J<|rA J J<|rN<|aE<|rM J J<|rM J J<|ae.qv (zn J J (by decide)) J<|ae.qv (D8 J J) J<|ae.qv (Gt J J (by decide)) J<|ae.qv (fY J) J<|rA J J<|rN<|ab.ret<|?_
 cases h
 exact hP J J
theorem uR [GI:bD] {aa:Campaign} {ai:bq} {r:Int} (h:eC aa ai=some r):Pu Tryz.prog 105 [.cE [.str aa.Key,I aa.Target.aN,I aa.Target.aO,I aa.Target.aM,I aa.At,oM aa.aB,I aa.bh.eU,I aa.bh.To,I aa.Room],.str ai] (I r):=by
 unfold eC at h
 refine aF.bC Tryz.func105 J Tryz.ntmps105 Tryz.results105 J J ?_
 refine aE<|rA J J<|rN<|aE<|rM J J<|rM J J<|aD h fun v1 e1 h=>aS J (yb e1) cR J<|rA J J<|rA J J<|rN<|tS<|aE<|rM J J<|ae.qv (bF J) J<|ae.qv (bu J J) J<|ae.qv (aX J J J) J<|ae.qv (cV J) J<|rM J J<|rN<|ab.block<|ab.cM (fun x:Int×Int=>fE aa v1 x.1 x.2) (fun x aC=>aC=⟨37,[(0,.cE [.str aa.Key,I aa.Target.aN,I aa.Target.aO,I aa.Target.aM,I aa.At,oM aa.aB,I aa.bh.eU,I aa.bh.To,I aa.Room]),(5,I v1),(6,I x.1),(15,oM aa.aB),(16,I (aa.aB.length:Int)),(17,I x.2)],[]⟩) h ?_ ?_
 ·exact aj.lq [] J J J
 ·intro x z1 aC J1 fy h jt fj
  obtain ⟨n4,n5⟩:=x
  obtain rfl:=fy
  replace h:fE aa v1 n4 n5=some z1:=h
  unfold fE at h
  refine aE<|ae.qv (bG J J) J<|rN<|tS<|cD h J (fun h=>?_) (fun h=>?_)
  ·refine tK<|tS<|ab.block<|aE<|rM J J<|aD h fun v6 e2 h=>ae.qv (bO J J J e2 J J) J<|ae.qv (bt J J J) J<|ca J J J J fun b7=>rA J J<|ay J J J J .p0 J J<|rN<|aE<|rM J J<|rF J J J<|rL J J .p0 J J<|ae.qv (bc J J) J<|rA J J<|rN<|aE<|rM J J<|rM J J<|ae.qv (bG J J) J<|rN<|cD h J (fun h=>?_) (fun h=>?_)
   ·refine aE<|rM J J<|rA J J<|rN<|ab.ret<|have h:=cj h fj;?_
    cases h
    exact hP J J
   ·refine tK<|ab.bY<|tR<|ae.qv (bc J J) J<|rM J J<|rN<|ab.stop<|?_
    cases h
    exact jt _ _ J<|aj.lq [] J J J
  ·refine ab.exit J<|have h:=cj h fj;aE<|rM J J<|ae.qv (bF J) J<|ae.qv (bu J J) J<|ae.qv (aX J J J) J<|ae.qv (cV J) J<|ae.qv (cF J J) J<|rA J J<|rN<|ab.ret<|?_
   cases h
   exact hP J J
theorem gA [GI:bD] {db:Bk} {dc:Bk} {aa:an} {ai:al} {r:Bool} (h:bI aa ai=r):Pu Tryz.prog 54 [.cE [.cE [.str aa.c_.Key,I aa.c_.Target.aN,I aa.c_.Target.aO,I aa.c_.Target.aM,I aa.c_.At,oM aa.c_.aB,I aa.c_.bh.eU,I aa.c_.bh.To,I aa.c_.Room],.ct db,.ct dc,fc aa.open_,fc aa.bl,fc aa.aR,fc aa.aL,I aa.aT,I aa.cw],.cE [I ai.ak.Kind,I ai.ak.Since,I ai.ak.Version.aN,I ai.ak.Version.aO,I ai.ak.Version.aM,I ai.ak.cO,I ai.aI.aN,I ai.aI.aO,I ai.aI.aM]] (.bool r):=by
 unfold bI at h
 refine aF.bC Tryz.func54 J Tryz.ntmps54 Tryz.results54 J J ?_
 refine aE<|rA J J<|rN<|tS<|ab.eh (id:=1) (A:=[0,1,3,7,15,0,32,96,224,480,992,2016,4095,8191]) 14 mixed J (by kernel_rfl) (by kernel_rfl)<|AM.qv (aA J) J<|AM.qv (bF J) J<|AM.qv (bu J J) J<|AM.qv (bu J J) J<|AM.qv (pR J J J J) J<|AM.qv (aA J) J<|AM.qv (bF J) J<|AM.qv (bu J J) J<|AM.qv (aX J J J) J<|AM.qv (bF J) J<|AM.qv (bu J J) J<|AM.qv (pR J J J J) J<|AM.qv (BK (g:=Version.av) (X:=ai.ak.Version) (Y:=aa.c_.Target) J J J J J) J<|AM.qv (ek J) J<|AM.nil<|rN<|ab.ret<|?_
 obtain rfl:=h
 exact hP J J
theorem ot [GI:bD] {aa:Campaign} {ai:List DeviceS} {r:an} (h:dh aa ai=some r):aF Tryz.prog 52 [.cE [.str aa.Key,I aa.Target.aN,I aa.Target.aO,I aa.Target.aM,I aa.At,oM aa.aB,I aa.bh.eU,I aa.bh.To,I aa.Room],pJ ai] [] (R1 (fun qN HI HJ HK HL x7 HM KT DD HN=>[(qN,.cells [.cE [.str aa.Key,I aa.Target.aN,I aa.Target.aO,I aa.Target.aM,I aa.At,oM aa.aB,I aa.bh.eU,I aa.bh.To,I aa.Room],.ct HI,.ct HJ,.sl 1 HK 0 r.open_.length,.sl 1 HL 0 r.bl.length,.sl 1 x7 0 r.aR.length,.sl 1 HM 0 r.aL.length,I r.aT,I r.cw]),(HI,.mp (r.oK.map (fun e=>(AV.str e.1,(pA DD) e.2)))),(HJ,wN r.dF),(HK,dV r.open_),(HL,dV r.bl),(x7,dV r.aR),(HM,dV r.aL),(KT,.bM (iR tf DD HN r.kO))]) (fun qN HI HJ HK HL x7 HM KT DD HN=>.ptr qN 0)):=by
 unfold dh at h
 refine aF.ia ?_
 refine aF.bC Tryz.func52 J Tryz.ntmps52 Tryz.results52 J J ?_
 refine ab.ghost (aj.Jz (kb:=tf) (fun b1 Oy Uu=>aj.here ?_))
 refine aE<|rA J J<|rN<|aE<|rM J J<|ae.qv (bF J) J<|ae.qv (bu J J) J<|ae.qv (aX J J J) J<|ae.qv (cV J) J<|rA J J<|rN<|tS<|aD h fun l6 e1 h=>aD h fun l8 e2 h=>aD h fun l10 e3 h=>ab.j6 (id:=2) (A:=[0,0,0,0,8,0,32,0,128,0,512,1536,3584,8191,16383,32767]) (H0:=[]) (HH:=fun β=>[((β 1),.mp (([]:List (bq×Int)).map (fun e=>(AV.str e.1,(pA Oy) e.2)))),((β 2),wN []),((β 4),dV l6),((β 6),dV l8),((β 8),dV l10),(b1,.bM (iR tf Oy Uu ([]:List al)))]) 13 mixed J (by kernel_rfl) (by kernel_rfl) [⟨some 1,none,[],fun b=>(b,.mp (([]:List (bq×Int)).map (fun e=>(AV.str e.1,(pA Oy) e.2)))),none,[]⟩,⟨some 2,none,[],fun b=>(b,wN []),none,[]⟩,⟨some 4,none,[],fun b=>(b,dV l6),none,[]⟩,⟨some 6,none,[],fun b=>(b,dV l8),none,[]⟩,⟨some 8,none,[],fun b=>(b,dV l10),none,[]⟩] [1,2,4,6,8] J (by kernel_rfl) J .nil (fun _=>J)<|AT.am 1 J J<|AM.qv (aA J) J<|AM.nil<|AT.Fj (V:=fun b=>.ct b) (Ti:=[]) (Pi:=fun b=>[(b,.mp (([]:List (bq×Int)).map (fun e=>(AV.str e.1,(pA Oy) e.2))))]) (fun _=>J) (fun _=>J) (fun _ _=>J) J (fun _=>J) J J J ?_ ?_
 ·exact vA J fun b4=>ae.nil ⟨b4,_,J,J⟩
 refine AT.Fj (V:=fun b=>.ct b) (Ti:=[]) (Pi:=fun b=>[(b,wN [])]) (fun _=>J) (fun _=>J) (fun _ _=>J) J (fun _=>J) J J J ?_ ?_
 ·exact vA J fun b5=>ae.nil ⟨b5,_,J,J⟩
 refine AT.am 1 J J<|AM.qv (aA J) J<|AM.nil<|AT.Fj (V:=fun b=>.sl 1 b 0 l6.length) (Ti:=[]) (Pi:=fun b=>[(b,dV l6)]) (fun _=>J) (fun _=>J) (fun _ _=>J) J (fun _=>J) J J J ?_ ?_
 ·exact sd (g:=I) (Z:=(0:Int)) J J J J J J J J J e1 fun b7=>ae.nil ⟨b7,_,J,J⟩
 refine AT.am 1 J J<|AM.qv (aA J) J<|AM.nil<|AT.Fj (V:=fun b=>.sl 1 b 0 l8.length) (Ti:=[]) (Pi:=fun b=>[(b,dV l8)]) (fun _=>J) (fun _=>J) (fun _ _=>J) J (fun _=>J) J J J ?_ ?_
 ·exact sd (g:=I) (Z:=(0:Int)) J J J J J J J J J e2 fun b9=>ae.nil ⟨b9,_,J,J⟩
 refine AT.am 1 J J<|AM.qv (aA J) J<|AM.nil<|AT.Fj (V:=fun b=>.sl 1 b 0 l10.length) (Ti:=[]) (Pi:=fun b=>[(b,dV l10)]) (fun _=>J) (fun _=>J) (fun _ _=>J) J (fun _=>J) J J J ?_ ?_
 ·exact sd (g:=I) (Z:=(0:Int)) J J J J J J J J J e3 fun Gj=>ae.nil ⟨Gj,_,J,J⟩
 refine AT.am 4 J J<|AM.qv (aA J) J<|AM.qv (bF J) J<|AM.qv (bu J J) J<|AM.qv (aX J J J) J<|AM.nil<|AT.uE (fun _=>J) fun β=>?_
 generalize β 1=b4
 generalize β 2=b5
 generalize β 4=b7
 generalize β 6=b9
 generalize β 8=Gj
 clear β
 refine ae.qv (fV J J J J J) J<|gi J J J J fun rb=>rA J J<|rN<|tS<|aE<|rM J J<|ae.qv (cV J) J<|rM J J<|rN<|ab.block<|ab.cM (fun x:(List al)×(List (bq×Int))×(List (bq×Int))×(List Int)×Int=>eN aa ai l8 l10 x.1 x.2.1 x.2.2.1 x.2.2.2.1 x.2.2.2.2) (fun x aC=>∃ (JQ:Nat→Bk) (L2:Nat→Nat→Bk),aC=⟨83,[(0,.cE [.str aa.Key,I aa.Target.aN,I aa.Target.aO,I aa.Target.aM,I aa.At,oM aa.aB,I aa.bh.eU,I aa.bh.To,I aa.Room]),(6,.ptr rb 0),(30,pJ ai),(31,I (ai.length:Int)),(32,I x.2.2.2.2)],[(b1,.bM (iR tf JQ L2 x.1)),(rb,.cells [.cE [.str aa.Key,I aa.Target.aN,I aa.Target.aO,I aa.Target.aM,I aa.At,oM aa.aB,I aa.bh.eU,I aa.bh.To,I aa.Room],.ct b4,.ct b5,.sl 1 b7 0 x.2.2.2.1.length,.sl 1 b9 0 l8.length,.sl 1 Gj 0 l10.length,.nil,I (-1:Int),I aa.At]),(b4,.mp (x.2.1.map (fun e=>(AV.str e.1,(pA JQ) e.2)))),(b5,wN x.2.2.1),(b7,dV x.2.2.2.1),(b9,dV l8),(Gj,dV l10)]⟩) h ?_ ?_
 ·exact aj.lq [6,0,0,0,0,0,0] ⟨Oy,Uu,J⟩ J J
 ·intro x z1 aC J1 fy h jt fj
  obtain ⟨oL,pk,vm,pn,n26⟩:=x
  obtain ⟨JQ,L2,rfl⟩:=fy
  replace h:eN aa ai l8 l10 oL pk vm pn n26=some z1:=h
  unfold eN at h
  refine aE<|ae.qv (bG J J) J<|rN<|tS<|cD h J (fun h=>?_) (fun h=>?_)
  ·refine tK<|tS<|ab.block<|aE<|aD h fun kS e4 h=>ae.qv (bO J J J e4 J J) J<|ae.qv (bt J J J) J<|ca J J J J fun KU=>ay J J J J .p0 J J<|rN<|aE<|rF J J J<|ae.qv (bA J J .p0 J J) J<|ae.qv (fV J J J J J) J<|ae.qv (fV J J J J J) J<|gi J J J J fun M6=>rA J J<|rN<|tS<|aD h fun Xy e5 h=>ab.ghost (aj.JF (kb:=tf) (v:=(⟨(⟨(0:Int),(0:Int),kS.bn,(0:Int)⟩:ak),(⟨(0:Int),(0:Int),(0:Int)⟩:Version)⟩:al)) (s:=R6 []) (.cons .p0 .nil) J (fun _ _=>.p1) (fun rH JR Q9 Oz=>aj.here ?_))
   refine ab.ghost<|aj.Qu (N6 Q9 e5) .p3<|aj.here<|ab.ghost<|aj.eqs (s:=40) (ep:=.ptr (rH (oL.length:Int).toNat) 0) J (Hx Oz _)<|aj.here<|ab.ghost<|aj.eqs (s:=9) (ep:=.ptr (rH (oL.length:Int).toNat) 0) J (Hx Oz _)<|aj.here<|aD h fun v33 e7 h=>ab.ghost (aj.KQ (k:=.str kS.Key) (fun _=>.p3) (fun L3=>aj.here ?_))
   refine ab.j6 (id:=7) (A:=[0,1,3,7,0,16,0,64,192,448,0,1024,0,0,0,16384,57344,123903,254975,521215,1048575,2097151,4194303]) (H0:=[(b4,.z8 (pk.map (fun e=>(AV.str e.1,(pA rH) e.2))) L3 (.str kS.Key))]) (HH:=fun β=>[(b4,.mp ((bT pk kS.Key (oL.length:Int)).map (fun e=>(AV.str e.1,(pA rH) e.2)))),(KU,.cells (Py kS)),(b1,.bM (iR tf rH JR (oL++[(⟨(⟨(0:Int),(0:Int),kS.bn,(0:Int)⟩:ak),(⟨(0:Int),(0:Int),(0:Int)⟩:Version)⟩:al)]))),(rb,.cells [.cE [.str aa.Key,I aa.Target.aN,I aa.Target.aO,I aa.Target.aM,I aa.At,oM aa.aB,I aa.bh.eU,I aa.bh.To,I aa.Room],.ct b4,.ct b5,.sl 1 b7 0 pn.length,.sl 1 b9 0 l8.length,.sl 1 Gj 0 l10.length,.nil,I (-1:Int),I aa.At]),(b5,wN vm),(b7,dV pn),(b9,dV l8),(Gj,dV l10)]) 20 mixed J (by kernel_rfl) (by kernel_rfl) [⟨none,some 17,[],fun _=>(b4,.z8 (pk.map (fun e=>(AV.str e.1,(pA rH) e.2))) L3 (.str kS.Key)),none,[]⟩,⟨some 17,some 19,[],fun _=>(b4,.z8 ((bT (nE pk) kS.Key (ch pk kS.Key)).map fun e=>(AV.str e.1,pQ rH e.2)) L3 (.str kS.Key)),none,[]⟩,⟨some 19,none,[],fun _=>(b4,.mp ((bT pk kS.Key (oL.length:Int)).map (fun e=>(AV.str e.1,(pA rH) e.2)))),none,[]⟩] [] J (by kernel_rfl) J (.cons .p3 .nil) (fun _=>J)<|AT.am 17 J J<|AM.qv (aA J) J<|AM.qv (ar J) J<|AM.qv (aG J J) J<|AM.qv (ba J J .p2 J) J<|AM.qv (aG J J) J<|AM.qv (ba J J .p0 J) J<|AM.qv (aA J) J<|AM.qv (ar J) J<|AM.qv (aG J J) J<|AM.qv (ba J J .p2 J) J<|AM.qv (aG J J) J<|AM.qv (ba J J .p0 J) J<|AM.qv (aA J) J<|AM.qv (aA J) J<|AM.qv (aG J J) J<|AM.qv (ba J J .p0 J) J<|AM.we J (uR e7) cR J<|AM.nil<|AT.xD (av:=.kj [pQ rH (ch pk kS.Key),I ((L3:Nat):Int)]) (Ti:=[(b4,.z8 (pk.map (fun e=>(AV.str e.1,(pA rH) e.2))) L3 (.str kS.Key))]) (Pi:=[(b4,.z8 ((bT (nE pk) kS.Key (ch pk kS.Key)).map fun e=>(AV.str e.1,pQ rH e.2)) L3 (.str kS.Key))]) (fun _=>J) (fun _=>J) (fun _=>J) J J J ?_ ?_
   ·exact B7 (gk:=AV.str) (bo:=rH) (M:=pk) (key:=kS.Key) J J J J .p0 J<|ae.nil ⟨_,J,J⟩
   refine AT.am 1 J J<|AM.qv (oE J J) J<|AM.nil<|AT.yS (Ti:=[(b4,.z8 ((bT (nE pk) kS.Key (ch pk kS.Key)).map fun e=>(AV.str e.1,pQ rH e.2)) L3 (.str kS.Key))]) (Pi:=[(b4,.mp ((bT pk kS.Key (oL.length:Int)).map (fun e=>(AV.str e.1,(pA rH) e.2))))]) (fun _=>J) (fun _=>J) (fun _=>J) J J ?_ ?_
   ·exact yT (kt:=9) (gk:=AV.str) (bo:=rH) (M:=pk) (key:=kS.Key) (v':=(oL.length:Int)) J J J J .p0<|ae.nil ⟨_,J⟩
   refine AT.uE (fun _=>J) fun β=>ae.ghost<|aj.KQ (k:=.str kS.Key) (fun _=>.p4) fun XQ=>aj.here<|aD h fun Ch e9 h=>xV (gk:=AV.str) (gv:=I) (M:=vm) (key:=kS.Key) (Z:=(0:Int)) (v:=Ch) J J J J J e9 .p4 J<|rX J J J<|uI (kt:=9) (gk:=AV.str) (gv:=I) (M:=vm) (key:=kS.Key) (v:=Ch) (v':=v33) J J J J .p4<|rN<|aE<|rM J J<|rM J J<|gh J (gA (J:bI (⟨aa,bT pk kS.Key (oL.length:Int),bT vm kS.Key v33,pn,l8,l10,[],(-1:Int),aa.At,oL++[(⟨(⟨(0:Int),(0:Int),kS.bn,(0:Int)⟩:ak),(⟨(0:Int),(0:Int),(0:Int)⟩:Version)⟩:al)]⟩:an) (⟨(⟨(0:Int),(0:Int),kS.bn,(0:Int)⟩:ak),(⟨(0:Int),(0:Int),(0:Int)⟩:Version)⟩:al)=_)) (.cons (.wJ _ _ _ .p3 (.cons (.co (.refl _)) (.cons (.co (.refl _)) (.cons (.co (.refl _)) (.cons (ln.kL .p5) (.cons (ln.kL .p6) (.cons (ln.kL .p7) (.cons (.co (.nil _)) (.cons (.co (.refl _)) (.cons (.co (.refl _)) .nil)))))))))) (.cons (ln.B6 (bp:=b1) (kb:=tf) (bs:=JR) (M:=(oL++[(⟨(⟨(0:Int),(0:Int),kS.bn,(0:Int)⟩:ak),(⟨(0:Int),(0:Int),(0:Int)⟩:Version)⟩:al)])) Ou (JG _ _) .p2) .nil)) J J<|ae.qv (cu J) J<|rN<|ab.cut (fun aC=>∃ (IK:List Int),fR oL pk vm n26 kS v33 IK=some z1∧aC=⟨83,[(0,.cE [.str aa.Key,I aa.Target.aN,I aa.Target.aO,I aa.Target.aM,I aa.At,oM aa.aB,I aa.bh.eU,I aa.bh.To,I aa.Room]),(6,.ptr rb 0),(30,pJ ai),(31,I (ai.length:Int)),(32,I n26)],[(b1,.bM (iR tf rH JR (oL++[(⟨(⟨(0:Int),(0:Int),kS.bn,(0:Int)⟩:ak),(⟨(0:Int),(0:Int),(0:Int)⟩:Version)⟩:al)]))),(rb,.cells [.cE [.str aa.Key,I aa.Target.aN,I aa.Target.aO,I aa.Target.aM,I aa.At,oM aa.aB,I aa.bh.eU,I aa.bh.To,I aa.Room],.ct b4,.ct b5,.sl 1 b7 0 IK.length,.sl 1 b9 0 l8.length,.sl 1 Gj 0 l10.length,.nil,I (-1:Int),I aa.At]),(b4,.mp ((bT pk kS.Key (oL.length:Int)).map (fun e=>(AV.str e.1,(pA rH) e.2)))),(b5,wN (bT vm kS.Key v33)),(b7,dV IK),(b9,dV l8),(Gj,dV l10)]⟩) ?_ ?_
   ·refine cB h J (fun h=>?_) (fun h=>?_)
    ·exact ab.eh (id:=9) (A:=[0,1,3,7,0,16,48,112,0,256,1008,2047,4095,8191,16383,32767]) 15 mixed J (by kernel_rfl) (by kernel_rfl)<|AM.qv (aA J) J<|AM.qv (ar J) J<|AM.qv (aG J J) J<|AM.qv (ba J J .p3 J) J<|AM.qv (aA J) J<|AM.qv (ar J) J<|AM.qv (aG J J) J<|AM.qv (ba J J .p3 J) J<|AM.qv (aG J J) J<|AM.qv (ba J J .p1 J) J<|aD h fun HD AF h=>AM.qv (xL (gk:=AV.str) (gv:=I) (M:=(bT vm kS.Key v33)) (key:=kS.Key) (Z:=(0:Int)) J J .p4 J J J AF J) J<|aD h fun v37 AG h=>AM.qv (aQ J J J AG) J<|AM.qv (cN (g:=I) J J (.inl .p5) AG J) J<|AM.qv (bc J J) J<|aD h fun Xz C1 h=>AM.qv (aQ J J J C1) J<|AM.nil<|bQ (g:=I) (vv:=aJ (v37+(1:Int))) J J J J C1 J .p5 J<|ae.ghost<|aj.eqs (s:=69) (ep:=.sl 1 b7 0 (pn.set HD.toNat (aJ (v37+(1:Int)))).length) J (by rw [List.length_set])<|aj.here<|ae.ghost<|aj.BI (j:=3) (ep:=.sl 1 b7 0 (pn.set HD.toNat (aJ (v37+(1:Int)))).length) .p3 J (by rw [List.length_set]) J<|aj.here<|rN<|ab.stop<|aj.lq [2,2,0,1,1,1,1] ⟨pn.set HD.toNat (aJ (v37+(1:Int))),h,J⟩ J J
    ·exact tK<|ab.stop<|aj.lq [2,2,0,1,1,1,1] ⟨pn,h,J⟩ J J
   ·rintro aC ⟨IK,h,rfl⟩
    unfold fR at h
    refine ab.bY<|tR<|ae.qv (bc J J) J<|rM J J<|rN<|ab.stop<|?_
    cases h
    exact jt _ _ J<|aj.lq [0,0,0,0,0,0,0] ⟨rH,JR,J⟩ J J
  ·refine ab.exit J<|have h:=cj h fj;aE<|rM J J<|rA J J<|rN<|ab.ret<|?_
   cases h
   exact aj.G8 (j:=6) 1 (fun _=>.p1) J (fun _=>J) (fun _=>J) fun Ra=>aj.here ⟨_,.cons (.tmp _ _ J) .nil,_,.cons .p2 (.cons .p2 (.cons .p2 (.cons .p2 (.cons .p2 (.cons .p2 (.cons .p0 (.cons .p0 .nil))))))),⟨rb,b4,b5,b7,b9,Gj,Ra,b1,JQ,L2,J,J⟩⟩
end Go.Proofs.YtpibecbdhjbanaaGreatDoor
