/- The code computes the plain functions: proofs written by shal.py. -/
import Derived.Test.YthfphcbipahkmaaGreatDoorCpyP
import Derived.Test.YthfphcbipahkmaaGreatDoorLib
open Bool renaming eq_iff_iff→ad
open List renaming length_set→ac,mem_cons→af,not_mem_nil→ag
open Nat renaming le_of_ble_eq_true→al
set_option maxHeartbeats 4000000
set_option maxRecDepth 100000
set_option linter.unusedVariables false
set_option linter.unusedSimpArgs false
namespace Go.Proofs.YthfphcbipahkmaaGreatDoor
open Go Go.Eng Go.Proofs Go.Beacon
attribute [local irreducible] ae ab AQ QV aR aj Ua AM
instance ah4:MZ Tryz.prog 27:=⟨by kernel_rfl⟩
instance ah5:xI Tryz.prog 27 2 Version.av:=⟨fun x y w S v u hv hu=>by
 obtain ⟨vs,rfl,hl,ha⟩:=At.pf hv
 obtain ⟨us,rfl,FC,KX⟩:=At.pf hu
 obtain ⟨v0,p0,q0⟩:=oe.get hl ha (off:=0) rfl
 obtain ⟨u0,p0',q0'⟩:=oe.get FC KX (off:=0) rfl
 obtain ⟨v1,p1,q1⟩:=oe.get hl ha (off:=1) rfl
 obtain ⟨u1,p1',q1'⟩:=oe.get FC KX (off:=1) rfl
 obtain ⟨v2,p2,q2⟩:=oe.get hl ha (off:=2) rfl
 obtain ⟨u2,p2',q2'⟩:=oe.get FC KX (off:=2) rfl
 refine E6.cast (E6.struct Tryz.underlying27 (by kernel_rfl) (.cons (by decide) (nR J p0) (nR J p0') (E6.up (xI.h (g:=I) x.aA y.aA w S _ _ q0 q0') 0) (.cons (by decide) (nR J p1) (nR J p1') (E6.up (xI.h (g:=I) x.aD y.aD w S _ _ q1 q1') 0) (.cons (by decide) (nR J p2) (nR J p2') (E6.up (xI.h (g:=I) x.aF y.aF w S _ _ q2 q2') 0) .nil)))) ?_
 obtain ⟨_,_,_⟩:=x
 obtain ⟨_,_,_⟩:=y
 rw [ad];simp [and_assoc]⟩
instance ah6:dD Tryz.prog 27 Version.av:=dD.struct (n:=3) J Tryz.underlying27 (fun f hf=>by
 simp only [af,ag,or_false] at hf
 rcases hf with rfl | rfl | rfl
 ·exact ⟨_,aC.h (P:=Tryz.prog) (t:=3),J,by decide⟩
 ·exact ⟨_,aC.h (P:=Tryz.prog) (t:=3),J,by decide⟩
 ·exact ⟨_,aC.h (P:=Tryz.prog) (t:=3),J,by decide⟩) (fun x=>⟨_,J,J,fun c hc=>by
 simp only [af,ag,or_false] at hc
 rcases hc with rfl | rfl | rfl<;>rfl⟩) (fun a b h=>by
 obtain ⟨_,_,_⟩:=a
 obtain ⟨_,_,_⟩:=b
 simpa [Version.av] using h)
instance ah7:MZ Tryz.prog 69:=⟨by kernel_rfl⟩
instance ah8:xI Tryz.prog 69 3 MarkS.av:=⟨fun x y w S v u hv hu=>by
 obtain ⟨vs,rfl,hl,ha⟩:=At.pf hv
 obtain ⟨us,rfl,FC,KX⟩:=At.pf hu
 obtain ⟨v0,p0,q0⟩:=oe.get hl ha (off:=0) rfl
 obtain ⟨u0,p0',q0'⟩:=oe.get FC KX (off:=0) rfl
 obtain ⟨v1,p1,q1⟩:=oe.get hl ha (off:=1) rfl
 obtain ⟨u1,p1',q1'⟩:=oe.get FC KX (off:=1) rfl
 obtain ⟨v2,p2,q2⟩:=oe.get hl ha (off:=2) rfl
 obtain ⟨u2,p2',q2'⟩:=oe.get FC KX (off:=2) rfl
 refine E6.cast (E6.struct Tryz.underlying69 (by kernel_rfl) (.cons (by decide) (nR J p0) (nR J p0') (E6.up (xI.h (g:=I) x.At y.At w S _ _ q0 q0') 1) (.cons (by decide) (nR J p1) (nR J p1') (E6.up (xI.h (g:=AV.str) x.Device y.Device w S _ _ q1 q1') 1) (.cons (by decide) (nR J p2) (nR J p2') (E6.up (xI.h (g:=I) x.Kind y.Kind w S _ _ q2 q2') 1) (.cons (by decide) (DG J J) (DG J J) (E6.up (xI.h (g:=Version.av) x.Version y.Version w S _ _ (oe.sub hl ha 3 3 (al J)) (oe.sub FC KX 3 3 (al J))) 0) .nil))))) ?_
 obtain ⟨_,_,_,_⟩:=x
 obtain ⟨_,_,_,_⟩:=y
 rw [ad];simp [and_assoc]⟩
abbrev gg (xs:List Int):AV:=.list 1 (xs.map I)
abbrev vz (xs:List bj):AV:=.list 1 (xs.map AV.str)
abbrev PQ (xs:List ml):Ob:=.arr 4 (xs.map ml.av)
abbrev cE0 (x:Campaign) (b5:Bk):List AV:=[.str x.Key,I x.Target.aA,I x.Target.aD,I x.Target.aF,I x.At,.sl 4 b5 0 x.aI.length,I x.aZ.bF,I x.aZ.To,I x.Room]
abbrev vV (xs:List ak):Ob:=.arr 6 (xs.map ak.av)
abbrev aE4 (xs:List Range):Ob:=.arr 6 (xs.map Range.av)
abbrev PR (xs:List Range):AV:=.list 6 (xs.map Range.av)
abbrev uK (xs:List DeviceS):Ob:=.arr 7 (xs.map DeviceS.av)
abbrev oQ (xs:List ml):AV:=.list 4 (xs.map ml.av)
abbrev xz (x:Campaign):List AV:=[.str x.Key,I x.Target.aA,I x.Target.aD,I x.Target.aF,I x.At,oQ x.aI,I x.aZ.bF,I x.aZ.To,I x.Room]
abbrev aE1 (xs:List bj):Ob:=.arr 1 (xs.map AV.str)
abbrev cE2 (x:ml):List AV:=[I x.Part,I x.sx,I x.zC,I x.ed]
abbrev o8 (xs:List ak):AV:=.list 6 (xs.map ak.av)
abbrev Eh (x:ak):List AV:=[I x.Version.aA,I x.Version.aD,I x.Version.aF,vz x.df,PR x.bF,I x.cW]
abbrev cE4 (x:Range):List AV:=[I x.vM.aA,I x.vM.aD,I x.vM.aF,I x.mn.aA,I x.mn.aD,I x.mn.aF]
abbrev pI (xs:List DeviceS):AV:=.list 7 (xs.map DeviceS.av)
abbrev lE6 (xs:List Nr):AV:=.list 2 (xs.map Nr.av)
abbrev Rv (x:DeviceS):List AV:=[.str x.Key,.str x.Model,.str x.eR,I x.bR.aA,I x.bR.aD,I x.bR.aF,lE6 x.oF]
abbrev fE0 (x:aq):List AV:=[I x.an.Kind,I x.an.Since,I x.an.Version.aA,I x.an.Version.aD,I x.an.Version.aF,I x.an.ed,I x.aX.aA,I x.aX.aD,I x.aX.aF]
abbrev tc (b:Bk) (s:Nat→Bk) (x:aq):List (Bk×PO):=[(b,.cells [I x.an.Kind,I x.an.Since,I x.an.Version.aA,I x.an.Version.aD,I x.an.Version.aF,I x.an.ed,I x.aX.aA,I x.aX.aD,I x.aX.aF])]
theorem UA:KB tc fE0:=⟨⟨fun x=>[.v (I x.an.Kind),.v (I x.an.Since),.v (I x.an.Version.aA),.v (I x.an.Version.aD),.v (I x.an.Version.aF),.v (I x.an.ed),.v (I x.aX.aA),.v (I x.aX.aD),.v (I x.aX.aF)],fun _ _ _=>J,fun _=>J⟩⟩
abbrev wT (xs:List (bj×Int)):Ob:=.mp (xs.map (fun e=>(AV.str e.1,I e.2)))
abbrev dx (xs:List Int):Ob:=.arr 1 (xs.map I)
abbrev Dd (x:aQ) (b4:Bk):List AV:=[o8 x.nF,I x.Eb.aA,I x.Eb.aD,I x.Eb.aF,.bV b4]
abbrev tW (xs:List MarkS):Ob:=.arr 6 (xs.map MarkS.av)
abbrev VN (xs:List ak):Ob:=.Bw 6 (xs.map ak.av)
abbrev VO (xs:List (List ak)):Ob:=.arr 1 (xs.map (Ky 6 ak.av))
abbrev Ld (xs:List (Version×ao)):Ob:=.mp (xs.map (fun e=>(Version.av e.1,ao.av e.2)))
abbrev ug (xs:List Version):Ob:=.arr 3 (xs.map Version.av)
abbrev se (xs:List Version):AV:=.list 3 (xs.map Version.av)
abbrev qg (xs:List (bj×(List (Version×ao)))):Ob:=.mp (xs.map (fun e=>(AV.str e.1,(F8 Version.av ao.av) e.2)))
abbrev CR (xs:List cx):Ob:=.arr 5 (xs.map cx.av)
abbrev wD (xs:List MarkS):AV:=.list 6 (xs.map MarkS.av)
abbrev abF (xs:List Int):AV:=.list 1 (xs.map (AV.int .u8))
abbrev Yz:=(fun (e:Version×aE)=>(Version.av e.1,aE.av e.2))
abbrev Nw (xs:List (Version×aE)):Ob:=.mp (xs.map (fun e=>(Version.av e.1,aE.av e.2)))
theorem He [GI:bU] {aa ai r:Int} (h:Below aa ai=some r):Pu Tryz.prog 80 [I aa,I ai] (I r):=by
 unfold Below at h
 refine aR.bI Tryz.func80 J Tryz.ntmps80 Tryz.results80 J J ?_
 refine aL<|rA J J<|rN<|tS<|aL<|rM J J<|ae.qv (bT J J) J<|rN<|cD h J (fun h=>?_) (fun h=>?_)
 ·refine aL<|rA J J<|rN<|ab.ret<|?_
  cases h
  exact hP J J
 ·refine tK<|aL<|rM J J<|rM J J<|aK h fun n1 e1 h=>ae.qv (OQ J J e1) J<|rA J J<|rN<|tS<|aL<|rM J J<|ae.qv (bT J J) J<|rN<|ab.cut (fun aJ=>∃ (n2:Int),yn n2=some r∧aJ=⟨16,[(0,I n2)],[]⟩) ?_ ?_
  ·refine cD h J (fun h=>?_) (fun h=>?_)
   ·exact tR<|rM J J<|rM J J<|ae.qv (br J J) J<|rA J J<|rN<|ab.stop<|aj.lq [] ⟨bE (n1+ai),h,J⟩ J J
   ·exact tK<|ab.stop<|aj.lq [] ⟨n1,h,J⟩ J J
  ·rintro aJ ⟨n2,h,rfl⟩
   unfold yn at h
   refine aL<|rM J J<|rA J J<|rN<|ab.ret<|?_
   cases h
   exact hP J J
theorem gG [GI:bU] {bO:Bk} {aa:ah} {ai:Int} {r:Int×ah} (h:eN aa ai=some r):aR Tryz.prog 31 [.ptr bO 0,I ai] [(bO,.cells [gg aa.L,I aa.at_])] (T0 ([(bO,.cells [gg r.2.L,I r.2.at_])]) (I r.1)):=by
 unfold eN at h
 refine aR.iL ?_
 refine aR.bI Tryz.func31 J Tryz.ntmps31 Tryz.results31 J J ?_
 refine aL<|rA J J<|rN<|aL<|rM J J<|ae.qv (az J) J<|rF J J J<|rL J J .p0 J J<|ae.qv (br J J) J<|ae.qv (az J) J<|rF J J J<|ar J J J J .p0 J J<|rN<|tS<|aL<|rM J J<|ae.qv (az J) J<|rF J J J<|rL J J .p0 J J<|ae.qv (cE J) J<|ae.qv (dt J J) J<|rN<|cD h J (fun h=>?_) (fun h=>?_)
 ·refine aL<|rM J J<|ae.qv (az J) J<|rF J J J<|rL J J .p0 J J<|ae.qv (uA J J) J<|rM J J<|aK h fun v1 e1 h=>ba J (He e1) cR J<|rA J J<|rN<|ab.ret<|?_
  cases h
  exact hH J [0] J ⟨J,J⟩
 ·refine tK<|tS<|ab.dv (id:=4) (A:=[0,1,3,7,15,0,32,96,224,480,1023,2047]) 12 mixed J (by kernel_rfl) (by kernel_rfl)<|AM.qv (aT J) J<|AM.qv (az J) J<|AM.qv (ax J J) J<|AM.qv (aM J J .p0 J) J<|AM.qv (fy J J) J<|AM.qv (aT J) J<|AM.qv (az J) J<|AM.qv (ax J J) J<|AM.qv (aM J J .p0 J) J<|AM.qv (cE J) J<|aK h fun n2 e2 h=>AM.qv (OQ J J e2) J<|AM.qv (bQ J) J<|AM.nil<|rN<|tS<|ab.dv (id:=5) (A:=[0,1,3,7,15,0,32,96,224,480,1023,2047]) 12 mixed J (by kernel_rfl) (by kernel_rfl)<|AM.qv (aT J) J<|AM.qv (az J) J<|AM.qv (ax J J) J<|AM.qv (aM J J .p0 J) J<|AM.qv (fy J J) J<|AM.qv (aT J) J<|AM.qv (az J) J<|AM.qv (ax J J) J<|AM.qv (aM J J .p0 J) J<|AM.qv (cE J) J<|aK h fun n3 e3 h=>AM.qv (Kx J J e3) J<|AM.qv (bQ J) J<|AM.nil<|rN<|aL<|rM J J<|ae.qv (az J) J<|rF J J J<|rL J J .p0 J J<|rM J J<|aK h fun v4 e4 h=>ae.qv (bH J J J e4 J J) J<|ae.qv (aS J J J) J<|aK h fun v5 e5 h=>ba J (He e5) cR J<|rM J J<|rM J J<|ae.qv (br J J) J<|ae.qv (uA J J) J<|ae.qv (br J J) J<|rM J J<|aK h fun v6 e6 h=>ba J (He e6) cR J<|rA J J<|rN<|ab.ret<|?_
  cases h
  exact hH J [0] J ⟨J,J⟩
theorem qh [GI:bU] {bO:Bk} {aa:ah} {ai:List bj} {r:bj×ah} (h:kD aa ai=some r):aR Tryz.prog 32 [.ptr bO 0,vz ai] [(bO,.cells [gg aa.L,I aa.at_])] (T0 ([(bO,.cells [gg r.2.L,I r.2.at_])]) (.str r.1)):=by
 unfold kD at h
 refine aR.iL ?_
 refine aR.bI Tryz.func32 J Tryz.ntmps32 Tryz.results32 J J ?_
 refine aL<|rA J J<|rN<|aL<|rM J J<|rM J J<|rM J J<|ae.qv (cE J) J<|aK h fun v1 e1 h=>bC J (gG e1) cR (.cons .p0 .nil) J J<|aK h fun v2 e2 h=>ae.qv (bH J J J e2 J J) J<|ae.qv (aS J J J) J<|rA J J<|rN<|ab.ret<|?_
 cases h
 exact hH J [0] J ⟨J,J⟩
theorem cX [GI:bU] {bO:Bk} {aa:ah} {ai:List Int} {r:Int×ah} (h:cU aa ai=some r):aR Tryz.prog 8 [.ptr bO 0,gg ai] [(bO,.cells [gg aa.L,I aa.at_])] (T0 ([(bO,.cells [gg r.2.L,I r.2.at_])]) (I r.1)):=by
 unfold cU at h
 refine aR.iL ?_
 refine aR.bI Tryz.func8 J Tryz.ntmps8 Tryz.results8 J J ?_
 refine aL<|rA J J<|rN<|aL<|rM J J<|rM J J<|rM J J<|ae.qv (cE J) J<|aK h fun v1 e1 h=>bC J (gG e1) cR (.cons .p0 .nil) J J<|aK h fun v2 e2 h=>ae.qv (bH J J J e2 J J) J<|ae.qv (aS J J J) J<|rA J J<|rN<|ab.ret<|?_
 cases h
 exact hH J [0] J ⟨J,J⟩
theorem A2 [GI:bU] {aa:Int} {r:Version} (h:whole aa=r):Pu Tryz.prog 37 [I aa] (Version.av r):=by
 unfold whole at h
 refine aR.bI Tryz.func37 J Tryz.ntmps37 Tryz.results37 J J ?_
 refine aL<|bA J J J J fun b1=>rN<|aL<|rM J J<|ae.qv (dc J J J J J) J<|ar J J J J .p0 J J<|rN<|ab.ret<|?_
 obtain rfl:=h
 exact aj.here ⟨_,.cons (.all _ _ _ _ _ _ J .p0 aC.h a8.h J J) .nil,J⟩
theorem gH [GI:bU] {bO:Bk} {aa:ah} {ai:Int} {r:Bool×ah} (h:eO aa ai=some r):aR Tryz.prog 24 [.ptr bO 0,I ai] [(bO,.cells [gg aa.L,I aa.at_])] (T0 ([(bO,.cells [gg r.2.L,I r.2.at_])]) (.bool r.1)):=by
 unfold eO at h
 refine aR.iL ?_
 refine aR.bI Tryz.func24 J Tryz.ntmps24 Tryz.results24 J J ?_
 refine aL<|rA J J<|rN<|aL<|rM J J<|rM J J<|aK h fun v1 e1 h=>bC J (gG e1) cR (.cons .p0 .nil) J J<|ae.qv (dt J J) J<|rA J J<|rN<|ab.ret<|?_
 cases h
 exact hH J [0] J ⟨J,J⟩
theorem xc [GI:bU] {bO:Bk} {aa:ah} {r:Campaign×ah} (h:jv aa=some r):aR Tryz.prog 30 [.ptr bO 0] [(bO,.cells [gg aa.L,I aa.at_])] (T1 (fun Ei=>[(bO,.cells [gg r.2.L,I r.2.at_]),(Ei,PQ r.1.aI)]) (fun Ei=>.agg [.str r.1.Key,I r.1.Target.aA,I r.1.Target.aD,I r.1.Target.aF,I r.1.At,.sl 4 Ei 0 r.1.aI.length,I r.1.aZ.bF,I r.1.aZ.To,I r.1.Room])):=by
 unfold jv at h
 refine aR.iL ?_
 refine aR.bI Tryz.func30 J Tryz.ntmps30 Tryz.results30 J J ?_
 refine aL<|bA J J J J fun b1=>rN<|aL<|rM J J<|aW (xs:=([([99]:bj),([107]:bj),([122,57]:bj)]).map AV.str) J J J J J J<|aK h fun v2 e1 h=>bC J (qh e1) cR (.cons .p1 .nil) J J<|rM J J<|aW (xs:=([2,3,4]).map I) J J J J J J<|aK h fun v3 e2 h=>bC J (cX e2) cR (.cons .p0 .nil) J J<|ba J (A2 J) cR J<|rM J J<|aW (xs:=([0,10,100]).map I) J J J J J J<|aK h fun v4 e3 h=>bC J (cX e3) cR (.cons .p0 .nil) J J<|rM J J<|aW (xs:=([1,2,5]).map I) J J J J J J<|aK h fun v5 e4 h=>bC J (cX e4) cR (.cons .p0 .nil) J J<|ae.qv (dc J J J J J) J<|bA J J J J fun b6=>ar J J J J .p0 J J<|rN<|aL<|aW (xs:=([1000]).map I) J J J J J J<|aW (xs:=([500,500]).map I) J J J J J J<|aW (xs:=([200,300,500]).map I) J J J J J J<|aW (xs:=([100,900]).map I) J J J J J J<|aW (xs:=([[1000],[500,500],[200,300,500],[100,900]]).map (Ky 1 I)) J J J J J J<|rM J J<|aK h fun v7 e5 h=>bC J (gG e5) cR (.cons .p1 .nil) J J<|aK h fun v8 e6 h=>ae.qv (bH J J J e6 J J) J<|ae.qv (aS J J J) J<|rA J J<|rN<|tS<|aL<|rM J J<|ae.qv (cE J) J<|rM J J<|rN<|ab.block<|ab.cS (fun x:(List Int)×Int×(List ml)×Int=>gR v2 v3 v4 v5 v8 x.1 x.2.1 x.2.2.1 x.2.2.2) (fun x aJ=>∃ (Gb:Bk),aJ=⟨64,[(0,.ptr bO 0),(2,.ptr b1 0),(3,.ptr b6 0),(30,gg v8),(31,I (v8.length:Int)),(32,I x.2.2.2)],[(bO,.cells [gg x.1,I x.2.1]),(b1,.cells [.str [],I 0,I 0,I 0,I 0,.nil,I 0,I 0,I 0]),(b6,.cells [.str v2.1,I ((whole v3.1).aA),I ((whole v3.1).aD),I ((whole v3.1).aF),I v4.1,.sl 4 Gb 0 x.2.2.1.length,I 0,I 0,I v5.1]),(Gb,PQ x.2.2.1)]⟩) h ?_ ?_
 ·exact aj.KF (j:=5) 4 (fun _=>.p1) J (fun _=>J) (fun _=>J) fun vf=>aj.lq [1,2,1,0] ⟨vf,J⟩ J J
 ·intro x z1 aJ J1 ep h jF ek
  obtain ⟨oK,n15,wS,n18⟩:=x
  obtain ⟨Gb,rfl⟩:=ep
  replace h:gR v2 v3 v4 v5 v8 oK n15 wS n18=some z1:=h
  unfold gR at h
  refine aL<|ae.qv (bT J J) J<|rN<|tS<|cD h J (fun h=>?_) (fun h=>?_)
  ·refine tK<|tS<|ab.block<|aL<|aK h fun v20 e7 h=>ae.qv (bH J J J e7 J J) J<|ae.qv (aS J J J) J<|rA J J<|rN<|aK h fun v21 e8 h=>aK h fun v22 e9 h=>aK h fun v23 Ad h=>ab.lB (id:=6) (A:=[0,1,0,0,0,24,0,0,248,0,0,2040,4092,8188,16383,32767,65535]) (H0:=[(bO,.cells [gg oK,I n15])]) (HH:=fun β=>[(bO,.cells [gg v23.2.L,I v23.2.at_]),(b1,.cells [.str [],I 0,I 0,I 0,I 0,.nil,I 0,I 0,I 0]),(b6,.cells [.str v2.1,I ((whole v3.1).aA),I ((whole v3.1).aD),I ((whole v3.1).aF),I v4.1,.sl 4 Gb 0 wS.length,I 0,I 0,I v5.1]),(Gb,PQ wS)]) 14 mixed J (by kernel_rfl) (by kernel_rfl) [⟨none,some 5,[],fun _=>(bO,.cells [gg oK,I n15]),none,[]⟩,⟨some 5,some 8,[],fun _=>(bO,.cells [gg v21.2.L,I v21.2.at_]),none,[]⟩,⟨some 8,some 11,[],fun _=>(bO,.cells [gg v22.2.L,I v22.2.at_]),none,[]⟩,⟨some 11,none,[],fun _=>(bO,.cells [gg v23.2.L,I v23.2.at_]),none,[]⟩] [] J (by kernel_rfl) J (.cons .p0 .nil) (fun _=>J)<|AT.am 5 J J<|AM.qv (ax J J) J<|AM.qv (aM J J .p1 J) J<|AM.qv (aT J) J<|AM.qv (aT J) J<|AM.cI (xs:=([0,0,10,30]).map I) J J J J J J<|AM.nil<|AT.CN (av:=I v21.1) (Ti:=[(bO,.cells [gg oK,I n15])]) (Pi:=[(bO,.cells [gg v21.2.L,I v21.2.at_])]) (fun _=>J) (fun _=>J) (fun _=>J) J J J ?_ ?_
   ·exact bC J (cX e8) cR (.cons .p0 .nil) J J<|ae.nil ⟨_,J,J⟩
   refine AT.am 2 J J<|AM.qv (aT J) J<|AM.cI (xs:=([1,1,2,3]).map I) J J J J J J<|AM.nil<|AT.CN (av:=I v22.1) (Ti:=[(bO,.cells [gg v21.2.L,I v21.2.at_])]) (Pi:=[(bO,.cells [gg v22.2.L,I v22.2.at_])]) (fun _=>J) (fun _=>J) (fun _=>J) J J J ?_ ?_
   ·exact bC J (cX e9) cR (.cons .p0 .nil) J J<|ae.nil ⟨_,J,J⟩
   refine AT.am 2 J J<|AM.qv (aT J) J<|AM.cI (xs:=([0,300,500,1000]).map I) J J J J J J<|AM.nil<|AT.CN (av:=I v23.1) (Ti:=[(bO,.cells [gg v22.2.L,I v22.2.at_])]) (Pi:=[(bO,.cells [gg v23.2.L,I v23.2.at_])]) (fun _=>J) (fun _=>J) (fun _=>J) J J J ?_ ?_
   ·exact bC J (cX Ad) cR (.cons .p0 .nil) J J<|ae.nil ⟨_,J,J⟩
   refine AT.am 2 J J<|AM.qv (dc J J J J J) J<|AM.cI (xs:=([(⟨v20,v21.1,v22.1,v23.1⟩:ml)]).map ml.av) J J J J J J<|AM.nil<|AT.xK (fun _=>J) fun β=>aK h fun yY Ej h=>dB (g:=ml.av) J J J J J J J J (.list _) Ej (fun _=>.p3) J fun A3=>rF J J J<|ar J J J J .p2 J J<|rN<|ab.cH<|tR<|ae.qv (br J J) J<|rM J J<|rN<|ab.stop<|?_
   cases h
   exact jF _ _ J<|aj.lq [0,0,0,0] ⟨A3,J⟩ J J
  ·refine ab.exit J<|have h:=bZ h ek;?_
   unfold mM at h
   refine tS<|aL<|rM J J<|aK h fun v26 Fh h=>bC J (gH Fh) cR (.cons .p0 .nil) J J<|rN<|ab.cut (fun aJ=>∃ (BI:List Int) (n28:Int) (n29:Int) (n30:Int),gQ v2 v3 v4 v5 wS BI n28 n29 n30=some r∧aJ=⟨64,[(2,.ptr b1 0),(3,.ptr b6 0)],[(bO,.cells [gg BI,I n28]),(b1,.cells [.str [],I 0,I 0,I 0,I 0,.nil,I 0,I 0,I 0]),(b6,.cells [.str v2.1,I ((whole v3.1).aA),I ((whole v3.1).aD),I ((whole v3.1).aF),I v4.1,.sl 4 Gb 0 wS.length,I n29,I n30,I v5.1]),(Gb,PQ wS)]⟩) ?_ ?_
   ·refine cB h J (fun h=>?_) (fun h=>?_)
    ·exact tR<|rM J J<|aW (xs:=([0,50,3600000]).map I) J J J J J J<|aK h fun v31 Ki h=>bC J (cX Ki) cR (.cons .p0 .nil) J J<|rM J J<|aW (xs:=([0,40,200,86400000]).map I) J J J J J J<|aK h fun v32 S7 h=>bC J (cX S7) cR (.cons .p0 .nil) J J<|ae.qv (dc J J J J J) J<|rF J J J<|ar J J J J .p2 J J<|rN<|ab.stop<|aj.lq [0,0,0,0] ⟨v32.2.L,v32.2.at_,v31.1,v32.1,h,J⟩ J J
    ·exact tK<|ab.stop<|aj.lq [0,0,0,0] ⟨v26.2.L,v26.2.at_,0,0,h,J⟩ J J
   ·rintro aJ ⟨BI,n28,n29,n30,h,rfl⟩
    unfold gQ at h
    refine aL<|ae.qv (aG J J .p2 J) J<|ar J J J J .p1 J J<|rN<|ab.ret<|?_
    cases h
    exact aj.here ⟨_,.cons (.all _ _ _ _ _ _ J .p1 aC.h a8.h J J) .nil,_,.cons .p0 (.cons .p2 .nil),⟨Gb,J,J⟩⟩
theorem uL [GI:bU] {bO:Bk} {aa:ah} {ai aH:Int} {r:Int×ah} (h:lS aa ai aH=some r):aR Tryz.prog 10 [.ptr bO 0,I ai,I aH] [(bO,.cells [gg aa.L,I aa.at_])] (T0 ([(bO,.cells [gg r.2.L,I r.2.at_])]) (I r.1)):=by
 unfold lS at h
 refine aR.iL ?_
 refine aR.bI Tryz.func10 J Tryz.ntmps10 Tryz.results10 J J ?_
 refine aL<|rA J J<|rN<|tS<|aL<|rM J J<|rM J J<|ae.qv (bT J J) J<|rN<|cD h J (fun h=>?_) (fun h=>?_)
 ·refine aL<|rM J J<|rA J J<|rN<|ab.ret<|?_
  cases h
  exact hH J [0] J ⟨J,J⟩
 ·refine tK<|aL<|rM J J<|rM J J<|rM J J<|rM J J<|ae.qv (fy J J) J<|ae.qv (br J J) J<|aK h fun v1 e1 h=>bC J (gG e1) cR (.cons .p0 .nil) J J<|ae.qv (br J J) J<|rA J J<|rN<|ab.ret<|?_
  cases h
  exact hH J [0] J ⟨J,J⟩
theorem xO [GI:bU] {bO:Bk} {aa:ah} {r:Version×ah} (h:gi aa=some r):aR Tryz.prog 81 [.ptr bO 0] [(bO,.cells [gg aa.L,I aa.at_])] (T0 ([(bO,.cells [gg r.2.L,I r.2.at_])]) (Version.av r.1)):=by
 unfold gi at h
 refine aR.iL ?_
 refine aR.bI Tryz.func81 J Tryz.ntmps81 Tryz.results81 J J ?_
 refine aL<|bA J J J J fun b1=>rN<|aL<|rM J J<|aK h fun v2 e1 h=>bC J (uL e1) cR (.cons .p1 .nil) J J<|rM J J<|aW (xs:=([0,0,1,5,9999]).map I) J J J J J J<|aK h fun v3 e2 h=>bC J (cX e2) cR (.cons .p0 .nil) J J<|rM J J<|aW (xs:=([0,0,0,3,9999]).map I) J J J J J J<|aK h fun v4 e3 h=>bC J (cX e3) cR (.cons .p0 .nil) J J<|ae.qv (dc J J J J J) J<|ar J J J J .p1 J J<|rN<|ab.ret<|?_
 cases h
 exact aj.here ⟨_,.cons (.all _ _ _ _ _ _ J .p1 aC.h a8.h J J) .nil,_,.cons .p0 .nil,⟨J,J⟩⟩
theorem fS [GI:bU] {bO:Bk} {aa:ah} {ai aH:Int} {r:Int×ah} (h:eS aa ai aH=some r):aR Tryz.prog 25 [.ptr bO 0,I ai,I aH] [(bO,.cells [gg aa.L,I aa.at_])] (T0 ([(bO,.cells [gg r.2.L,I r.2.at_])]) (I r.1)):=by
 unfold eS at h
 refine aR.iL ?_
 refine aR.bI Tryz.func25 J Tryz.ntmps25 Tryz.results25 J J ?_
 refine aL<|rA J J<|rN<|tS<|aL<|rM J J<|aK h fun v1 e1 h=>bC J (gH e1) cR (.cons .p0 .nil) J J<|rN<|cB h J (fun h=>?_) (fun h=>?_)
 ·refine aL<|rM J J<|rM J J<|ae.qv (fy J J) J<|rM J J<|ae.qv (br J J) J<|rM J J<|rM J J<|aW (xs:=([bE (ai - 1),bE (aH+1),ai,aH,(-1099511627776:Int),1099511627776]).map I) J J J J J J<|aK h fun v2 e2 h=>bC J (cX e2) cR (.cons .p0 .nil) J J<|rA J J<|rN<|ab.ret<|?_
  cases h
  exact hH J [0] J ⟨J,J⟩
 ·refine tK<|aL<|rM J J<|rM J J<|rM J J<|aK h fun v3 e3 h=>bC J (uL e3) cR (.cons .p0 .nil) J J<|rA J J<|rN<|ab.ret<|?_
  cases h
  exact hH J [0] J ⟨J,J⟩
theorem nn [GI:bU] {bO:Bk} {aa:ah} {r:Version×ah} (h:fB aa=some r):aR Tryz.prog 33 [.ptr bO 0] [(bO,.cells [gg aa.L,I aa.at_])] (T0 ([(bO,.cells [gg r.2.L,I r.2.at_])]) (Version.av r.1)):=by
 unfold fB at h
 refine aR.iL ?_
 refine aR.bI Tryz.func33 J Tryz.ntmps33 Tryz.results33 J J ?_
 refine aL<|bA J J J J fun b1=>rN<|aL<|rM J J<|aK h fun v2 e1 h=>bC J (xO e1) cR (.cons .p1 .nil) J J<|bA J J J J fun b3=>ar J J J J .p0 J J<|rN<|tS<|aL<|rM J J<|aK h fun v4 e2 h=>bC J (gH e2) cR (.cons .p1 .nil) J J<|rN<|ab.cut (fun aJ=>∃ (l5:List Int) (n6:Int) (n7:Int) (n8:Int),jJ v2 l5 n6 n7 n8=some r∧aJ=⟨15,[(2,.ptr b1 0),(3,.ptr b3 0)],[(bO,.cells [gg l5,I n6]),(b1,.cells [I 0,I 0,I 0]),(b3,.cells [I v2.1.aA,I n7,I n8])]⟩) ?_ ?_
 ·refine cB h J (fun h=>?_) (fun h=>?_)
  ·exact aL<|rM J J<|aK h fun v9 e3 h=>bC J (fS e3) cR (.cons .p0 .nil) J J<|rF J J J<|ar J J J J .p1 J J<|rN<|tR<|rM J J<|aK h fun v10 e4 h=>bC J (fS e4) cR (.cons .p0 .nil) J J<|rF J J J<|ar J J J J .p1 J J<|rN<|ab.stop<|aj.lq [0,1,0] ⟨v10.2.L,v10.2.at_,v10.1,v9.1,h,J⟩ J J
  ·exact tK<|ab.stop<|aj.lq [0,1,0] ⟨v4.2.L,v4.2.at_,v2.1.aD,v2.1.aF,h,J⟩ J J
 ·rintro aJ ⟨l5,n6,n7,n8,h,rfl⟩
  unfold jJ at h
  refine aL<|ae.qv (aG J J .p2 J) J<|ar J J J J .p1 J J<|rN<|ab.ret<|?_
  cases h
  exact aj.here ⟨_,.cons (.all _ _ _ _ _ _ J .p1 aC.h a8.h J J) .nil,_,.cons .p0 .nil,⟨J,J⟩⟩
theorem A4 [GI:bU] {bO:Bk} {aa:ah} {r:Campaign×ah} (h:nV aa=some r):aR Tryz.prog 5 [.ptr bO 0] [(bO,.cells [gg aa.L,I aa.at_])] (T0 ([(bO,.cells [gg r.2.L,I r.2.at_])]) (Campaign.av r.1)):=by
 unfold nV at h
 refine aR.iL ?_
 refine aR.bI Tryz.func5 J Tryz.ntmps5 Tryz.results5 J J ?_
 refine aL<|bA J J J J fun b1=>rN<|aL<|rM J J<|aK h fun v2 e1 h=>jH J (xc e1) cR (.cons .p1 .nil) (fun _=>J) J fun b3=>bA J J J J fun b4=>ar J J J J .p0 J J<|rN<|tS<|aL<|rM J J<|aK h fun v5 e2 h=>bC J (gH e2) cR (.cons .p1 .nil) J J<|rN<|ab.cut (fun aJ=>∃ (Ae:Bk) (l6:List Int) (n7:Int) (q8:bj) (n9:Int) (n10:Int) (n11:Int) (n12:Int) (oK:List ml) (n15:Int) (n16:Int) (n17:Int),kX l6 n7 q8 n9 n10 n11 n12 oK n15 n16 n17=some r∧aJ=⟨54,[(2,.ptr b1 0),(3,.ptr b4 0)],[(bO,.cells [gg l6,I n7]),(b1,.cells [.str [],I 0,I 0,I 0,I 0,.nil,I 0,I 0,I 0]),(b4,.cells [.str q8,I n9,I n10,I n11,I n12,.sl 4 Ae 0 oK.length,I n15,I n16,I n17]),(Ae,PQ oK)]⟩) ?_ ?_
 ·refine cB h J (fun h=>?_) (fun h=>?_)
  ·refine aL<|rM J J<|aK h fun ub e3 h=>bC J (gG e3) cR (.cons .p0 .nil) J J<|rN<|ab.block<|aL<|ae.qv (dt J J) J<|rA J J<|rN<|ab.cut (fun aJ=>∃ (BN:Bk) (Fb:List Int) (n20:Int) (WW:bj) (n22:Int) (n23:Int) (n24:Int) (n25:Int) (BI:List ml) (n28:Int) (n29:Int) (n30:Int),kY Fb n20 WW n22 n23 n24 n25 BI n28 n29 n30=some r∧aJ=⟨54,[(2,.ptr b1 0),(3,.ptr b4 0)],[(bO,.cells [gg Fb,I n20]),(b1,.cells [.str [],I 0,I 0,I 0,I 0,.nil,I 0,I 0,I 0]),(b4,.cells [.str WW,I n22,I n23,I n24,I n25,.sl 4 BN 0 BI.length,I n28,I n29,I n30]),(BN,PQ BI)]⟩) ?_ ?_
   ·refine cD h J (fun h=>?_) (fun h=>?_)
    ·exact tR<|rM J J<|aW (xs:=([([]:bj),([65]:bj)]).map AV.str) J J J J J J<|aK h fun v31 e4 h=>bC J (qh e4) cR (.cons .p0 .nil) J J<|rF J J J<|ar J J J J .p1 J J<|rN<|ab.stop<|aj.lq [0,2,0,0] ⟨b3,v31.2.L,v31.2.at_,v31.1,v2.1.Target.aA,v2.1.Target.aD,v2.1.Target.aF,v2.1.At,v2.1.aI,v2.1.aZ.bF,v2.1.aZ.To,v2.1.Room,h,J⟩ J J
    ·refine aL<|ae.qv (dt J J) J<|rA J J<|rN<|ab.cut (fun aJ=>∃ (UB:Bk) (WX:List Int) (n33:Int) (n34:Int) (n35:Int) (n36:Int) (n37:Int) (VH:List ml) (n40:Int) (n41:Int) (n42:Int),kZ v2 WX n33 n34 n35 n36 n37 VH n40 n41 n42=some r∧aJ=⟨54,[(2,.ptr b1 0),(3,.ptr b4 0)],[(bO,.cells [gg WX,I n33]),(b1,.cells [.str [],I 0,I 0,I 0,I 0,.nil,I 0,I 0,I 0]),(b4,.cells [.str v2.1.Key,I n34,I n35,I n36,I n37,.sl 4 UB 0 VH.length,I n40,I n41,I n42]),(UB,PQ VH)]⟩) ?_ ?_
     ·refine cD h J (fun h=>?_) (fun h=>?_)
      ·exact tR<|rM J J<|aK h fun zk e5 h=>bC J (nn e5) cR (.cons .p0 .nil) J J<|rF J J J<|ar J J J J .p1 J J<|rN<|ab.stop<|aj.lq [0,2,0,0] ⟨b3,zk.2.L,zk.2.at_,zk.1.aA,zk.1.aD,zk.1.aF,v2.1.At,v2.1.aI,v2.1.aZ.bF,v2.1.aZ.To,v2.1.Room,h,J⟩ J J
      ·refine aL<|ae.qv (dt J J) J<|rA J J<|rN<|ab.cut (fun aJ=>∃ (Gc:Bk) (Ns:List Int) (n45:Int) (n46:Int) (AW:List ml) (n49:Int) (n50:Int) (n51:Int),lf v2 Ns n45 n46 AW n49 n50 n51=some r∧aJ=⟨54,[(2,.ptr b1 0),(3,.ptr b4 0)],[(bO,.cells [gg Ns,I n45]),(b1,.cells [.str [],I 0,I 0,I 0,I 0,.nil,I 0,I 0,I 0]),(b4,.cells [.str v2.1.Key,I v2.1.Target.aA,I v2.1.Target.aD,I v2.1.Target.aF,I n46,.sl 4 Gc 0 AW.length,I n49,I n50,I n51]),(Gc,PQ AW)]⟩) ?_ ?_
       ·refine cD h J (fun h=>?_) (fun h=>?_)
        ·exact tR<|rM J J<|aK h fun VI e6 h=>bC J (fS e6) cR (.cons .p0 .nil) J J<|rF J J J<|ar J J J J .p1 J J<|rN<|ab.stop<|aj.lq [0,2,0,0] ⟨b3,VI.2.L,VI.2.at_,VI.1,v2.1.aI,v2.1.aZ.bF,v2.1.aZ.To,v2.1.Room,h,J⟩ J J
        ·refine aL<|ae.qv (dt J J) J<|rA J J<|rN<|ab.cut (fun aJ=>∃ (W7:Bk) (Fc:List Int) (WY:Int) (PJ:List ml) (n57:Int) (WZ:Int) (n59:Int),lg v2 Fc WY PJ n57 WZ n59=some r∧aJ=⟨54,[(2,.ptr b1 0),(3,.ptr b4 0)],[(bO,.cells [gg Fc,I WY]),(b1,.cells [.str [],I 0,I 0,I 0,I 0,.nil,I 0,I 0,I 0]),(b4,.cells [.str v2.1.Key,I v2.1.Target.aA,I v2.1.Target.aD,I v2.1.Target.aF,I v2.1.At,.sl 4 W7 0 PJ.length,I n57,I WZ,I n59]),(W7,PQ PJ)]⟩) ?_ ?_
         ·refine cD h J (fun h=>?_) (fun h=>?_)
          ·refine aK h fun v60 e7 h=>aK h fun La e8 h=>aK h fun PK e9 h=>aK h fun Ma Ad h=>ab.lB (id:=12) (A:=[0,1,0,4,0,28,0,124,0,508,1020,2044,4095,8191,16383]) (H0:=[(bO,.cells [gg ub.2.L,I ub.2.at_])]) (HH:=fun β=>[(bO,.cells [gg Ma.2.L,I Ma.2.at_]),(b4,.cells (cE0 v2.1 b3)),(b3,PQ v2.1.aI),(b1,.cells [.str [],I 0,I 0,I 0,I 0,.nil,I 0,I 0,I 0])]) 12 mixed J (by kernel_rfl) (by kernel_rfl) [⟨none,some 3,[],fun _=>(bO,.cells [gg ub.2.L,I ub.2.at_]),none,[]⟩,⟨some 3,some 5,[],fun _=>(bO,.cells [gg v60.2.L,I v60.2.at_]),none,[]⟩,⟨some 5,some 7,[],fun _=>(bO,.cells [gg La.2.L,I La.2.at_]),none,[]⟩,⟨some 7,some 9,[],fun _=>(bO,.cells [gg PK.2.L,I PK.2.at_]),none,[]⟩,⟨some 9,none,[],fun _=>(bO,.cells [gg Ma.2.L,I Ma.2.at_]),none,[]⟩] [] J (by kernel_rfl) J (.cons .p0 .nil) (fun _=>J)<|AT.am 3 J J<|AM.qv (ax J J) J<|AM.qv (aM J J .p0 J) J<|AM.qv (aT J) J<|AM.nil<|AT.CN (av:=I v60.1) (Ti:=[(bO,.cells [gg ub.2.L,I ub.2.at_])]) (Pi:=[(bO,.cells [gg v60.2.L,I v60.2.at_])]) (fun _=>J) (fun _=>J) (fun _=>J) J J J ?_ ?_
           ·exact bC J (fS e7) cR (.cons .p0 .nil) J J<|ae.nil ⟨_,J,J⟩
           refine AT.am 1 J J<|AM.qv (aT J) J<|AM.nil<|AT.CN (av:=I La.1) (Ti:=[(bO,.cells [gg v60.2.L,I v60.2.at_])]) (Pi:=[(bO,.cells [gg La.2.L,I La.2.at_])]) (fun _=>J) (fun _=>J) (fun _=>J) J J J ?_ ?_
           ·exact bC J (fS e8) cR (.cons .p0 .nil) J J<|ae.nil ⟨_,J,J⟩
           refine AT.am 1 J J<|AM.qv (aT J) J<|AM.nil<|AT.CN (av:=I PK.1) (Ti:=[(bO,.cells [gg La.2.L,I La.2.at_])]) (Pi:=[(bO,.cells [gg PK.2.L,I PK.2.at_])]) (fun _=>J) (fun _=>J) (fun _=>J) J J J ?_ ?_
           ·exact bC J (fS e9) cR (.cons .p0 .nil) J J<|ae.nil ⟨_,J,J⟩
           refine AT.am 1 J J<|AM.qv (aT J) J<|AM.nil<|AT.CN (av:=I Ma.1) (Ti:=[(bO,.cells [gg PK.2.L,I PK.2.at_])]) (Pi:=[(bO,.cells [gg Ma.2.L,I Ma.2.at_])]) (fun _=>J) (fun _=>J) (fun _=>J) J J J ?_ ?_
           ·exact bC J (fS Ad) cR (.cons .p0 .nil) J J<|ae.nil ⟨_,J,J⟩
           exact AT.am 2 J J<|AM.qv (dc J J J J J) J<|AM.cI (xs:=([(⟨v60.1,La.1,PK.1,Ma.1⟩:ml)]).map ml.av) J J J J J J<|AM.nil<|AT.xK (fun _=>J) fun β=>aK h fun l64 Ej h=>dB (g:=ml.av) J J J J J J J J (.list _) Ej (fun _=>.p2) J fun b65=>rF J J J<|ar J J J J .p1 J J<|rN<|ab.stop<|aj.lq [0,2,0,0] ⟨b65,Ma.2.L,Ma.2.at_,l64,v2.1.aZ.bF,v2.1.aZ.To,v2.1.Room,h,J⟩ J J
          ·refine aL<|ae.qv (dt J J) J<|rA J J<|rN<|ab.cut (fun aJ=>∃ (Oj:List Int) (W0:Int) (n68:Int) (n69:Int) (W1:Int),lh v2 Oj W0 n68 n69 W1=some r∧aJ=⟨54,[(2,.ptr b1 0),(3,.ptr b4 0)],[(bO,.cells [gg Oj,I W0]),(b1,.cells [.str [],I 0,I 0,I 0,I 0,.nil,I 0,I 0,I 0]),(b4,.cells [.str v2.1.Key,I v2.1.Target.aA,I v2.1.Target.aD,I v2.1.Target.aF,I v2.1.At,.sl 4 b3 0 v2.1.aI.length,I n68,I n69,I W1]),(b3,PQ v2.1.aI)]⟩) ?_ ?_
           ·refine cD h J (fun h=>?_) (fun h=>?_)
            ·exact tR<|rM J J<|aK h fun HT Fh h=>bC J (fS Fh) cR (.cons .p0 .nil) J J<|rM J J<|aK h fun v72 Ki h=>bC J (fS Ki) cR (.cons .p0 .nil) J J<|ae.qv (dc J J J J J) J<|rF J J J<|ar J J J J .p1 J J<|rN<|ab.stop<|aj.lq [0,2,0,0] ⟨v72.2.L,v72.2.at_,HT.1,v72.1,v2.1.Room,h,J⟩ J J
            ·exact tR<|rM J J<|aK h fun VJ S7 h=>bC J (fS S7) cR (.cons .p0 .nil) J J<|rF J J J<|ar J J J J .p1 J J<|rN<|ab.stop<|aj.lq [0,2,0,0] ⟨VJ.2.L,VJ.2.at_,v2.1.aZ.bF,v2.1.aZ.To,VJ.1,h,J⟩ J J
           ·rintro aJ ⟨Oj,W0,n68,n69,W1,h,rfl⟩
            unfold lh at h
            exact ab.stop<|aj.lq [0,0,0,0] ⟨b3,Oj,W0,v2.1.aI,n68,n69,W1,h,J⟩ J J
         ·rintro aJ ⟨W7,Fc,WY,PJ,n57,WZ,n59,h,rfl⟩
          unfold lg at h
          exact ab.stop<|aj.lq [0,0,0,0] ⟨W7,Fc,WY,v2.1.At,PJ,n57,WZ,n59,h,J⟩ J J
       ·rintro aJ ⟨Gc,Ns,n45,n46,AW,n49,n50,n51,h,rfl⟩
        unfold lf at h
        exact ab.stop<|aj.lq [0,0,0,0] ⟨Gc,Ns,n45,v2.1.Target.aA,v2.1.Target.aD,v2.1.Target.aF,n46,AW,n49,n50,n51,h,J⟩ J J
     ·rintro aJ ⟨UB,WX,n33,n34,n35,n36,n37,VH,n40,n41,n42,h,rfl⟩
      unfold kZ at h
      exact ab.stop<|aj.lq [0,0,0,0] ⟨UB,WX,n33,v2.1.Key,n34,n35,n36,n37,VH,n40,n41,n42,h,J⟩ J J
   ·rintro aJ ⟨BN,Fb,n20,WW,n22,n23,n24,n25,BI,n28,n29,n30,h,rfl⟩
    unfold kY at h
    exact ab.cH<|ab.stop<|aj.lq [0,0,0,0] ⟨BN,Fb,n20,WW,n22,n23,n24,n25,BI,n28,n29,n30,h,J⟩ J J
  ·exact tK<|ab.stop<|aj.lq [0,2,0,0] ⟨b3,v5.2.L,v5.2.at_,v2.1.Key,v2.1.Target.aA,v2.1.Target.aD,v2.1.Target.aF,v2.1.At,v2.1.aI,v2.1.aZ.bF,v2.1.aZ.To,v2.1.Room,h,J⟩ J J
 ·rintro aJ ⟨Ae,l6,n7,q8,n9,n10,n11,n12,oK,n15,n16,n17,h,rfl⟩
  unfold kX at h
  refine aL<|ae.qv (aG J J .p2 J) J<|ar J J J J .p1 J J<|rN<|ab.ret<|?_
  cases h
  exact aj.freeze .p3<|aj.Uq (j:=5) .p1 J (Co.Kz .p3) J J<|aj.here ⟨_,.cons (.all _ _ _ _ _ _ J .p1 aC.h a8.h J J) .nil,_,.cons .p0 .nil,⟨J,J⟩⟩
theorem xA [GI:bU] {aa:Int} {r:Bool} (h:cmp_isNaN_int aa=r):Pu Tryz.prog 125 [I aa] (.bool r):=by
 unfold cmp_isNaN_int at h
 refine aR.bI Tryz.func125 J Tryz.ntmps125 Tryz.results125 J J ?_
 refine aL<|rA J J<|rN<|aL<|rM J J<|rM J J<|ae.qv (pH J J) J<|rA J J<|rN<|ab.ret<|?_
 obtain rfl:=h
 exact hP J J
theorem fh [GI:bU] {aa ai r:Int} (h:cmp_Compare_int aa ai=r):Pu Tryz.prog 98 [I aa,I ai] (I r):=by
 unfold cmp_Compare_int at h
 refine aR.bI Tryz.func98 J Tryz.ntmps98 Tryz.results98 J J ?_
 refine aL<|rA J J<|rN<|aL<|rM J J<|ba J (xA J) cR J<|rA J J<|rN<|aL<|rM J J<|ba J (xA J) cR J<|rA J J<|rN<|tS<|aL<|rM J J<|rN<|cB h J (fun h=>?_) (fun h=>?_)
 ·refine tS<|aL<|rM J J<|rN<|cB h J (fun h=>?_) (fun h=>?_)
  ·refine aL<|rA J J<|rN<|ab.ret<|?_
   obtain rfl:=h
   exact hP J J
  ·refine tK<|aL<|rA J J<|rN<|ab.ret<|?_
   obtain rfl:=h
   exact hP J J
 ·refine tK<|tS<|aL<|rM J J<|rN<|cB h J (fun h=>?_) (fun h=>?_)
  ·refine aL<|rA J J<|rN<|ab.ret<|?_
   obtain rfl:=h
   exact hP J J
  ·refine tK<|tS<|aL<|rM J J<|rM J J<|ae.qv (bT J J) J<|rN<|cD h J (fun h=>?_) (fun h=>?_)
   ·refine aL<|rA J J<|rN<|ab.ret<|?_
    obtain rfl:=h
    exact hP J J
   ·refine tK<|tS<|aL<|rM J J<|rM J J<|ae.qv (eB J J) J<|rN<|cD h J (fun h=>?_) (fun h=>?_)
    ·refine aL<|rA J J<|rN<|ab.ret<|?_
     obtain rfl:=h
     exact hP J J
    ·refine tK<|aL<|rA J J<|rN<|ab.ret<|?_
     obtain rfl:=h
     exact hP J J
theorem qj [GI:bU] {aa ai:List Int} {r:Int} (h:ew aa ai=some r):Pu Tryz.prog 66 [gg aa,gg ai] (I r):=by
 unfold ew at h
 refine aR.bI Tryz.func66 J Tryz.ntmps66 Tryz.results66 J J ?_
 refine aL<|rA J J<|rN<|tS<|aL<|rM J J<|ae.qv (cE J) J<|rM J J<|rN<|ab.block<|ab.cS (fun x:Int=>bu aa ai x) (fun x aJ=>aJ=⟨36,[(0,gg aa),(1,gg ai),(9,gg aa),(10,I (aa.length:Int)),(11,I x)],[]⟩) h ?_ ?_
 ·exact aj.lq [] J J J
 ·intro n2 z1 aJ J1 ep h jF ek
  obtain rfl:=ep
  replace h:bu aa ai n2=some z1:=h
  unfold bu at h
  refine aL<|ae.qv (bT J J) J<|rN<|tS<|cD h J (fun h=>?_) (fun h=>?_)
  ·refine tK<|tS<|ab.block<|aL<|rM J J<|aK h fun v3 e1 h=>ae.qv (bH J J J e1 J J) J<|ae.qv (aS J J J) J<|rA J J<|rA J J<|rN<|tS<|aL<|rM J J<|rM J J<|ae.qv (cE J) J<|ae.qv (nP J J) J<|rN<|cD h J (fun h=>?_) (fun h=>?_)
   ·refine aL<|rA J J<|rN<|ab.ret<|have h:=bZ h ek;?_
    cases h
    exact hP J J
   ·refine tK<|aL<|rM J J<|rM J J<|aK h fun v4 e2 h=>ae.qv (bH J J J e2 J J) J<|ae.qv (aS J J J) J<|rA J J<|rN<|aL<|rM J J<|rM J J<|ba J (fh J) cR J<|rA J J<|rN<|aL<|rM J J<|ae.qv (pH J J) J<|rN<|cD h J (fun h=>?_) (fun h=>?_)
    ·refine aL<|rM J J<|rA J J<|rN<|ab.ret<|have h:=bZ h ek;?_
     cases h
     exact hP J J
    ·refine tK<|ab.cH<|tR<|ae.qv (br J J) J<|rM J J<|rN<|ab.stop<|?_
     cases h
     exact jF _ _ J<|aj.lq [] J J J
  ·refine ab.exit J<|have h:=bZ h ek;?_
   unfold iP at h
   refine tS<|aL<|rM J J<|ae.qv (cE J) J<|rM J J<|ae.qv (cE J) J<|ae.qv (bT J J) J<|rN<|cD h J (fun h=>?_) (fun h=>?_)
   ·refine aL<|rA J J<|rN<|ab.ret<|?_
    cases h
    exact hP J J
   ·refine tK<|aL<|rA J J<|rN<|ab.ret<|?_
    cases h
    exact hP J J
theorem ji [GI:bU] {aa ai:Version} {r:Int} (h:ee aa ai=some r):Pu Tryz.prog 56 [Version.av aa,Version.av ai] (I r):=by
 unfold ee at h
 refine aR.bI Tryz.func56 J Tryz.ntmps56 Tryz.results56 J J ?_
 refine aL<|dh J J J J fun b1=>dh J J J J fun b2=>rA J J<|rN<|aL<|rF J J J<|rL J J .p1 J J<|rF J J J<|rL J J .p1 J J<|rF J J J<|rL J J .p1 J J<|aW (xs:=([aa.aA,aa.aD,aa.aF]:List Int).map I) J J J J J J<|rF J J J<|rL J J .p0 J J<|rF J J J<|rL J J .p0 J J<|rF J J J<|rL J J .p0 J J<|aW (xs:=([ai.aA,ai.aD,ai.aF]:List Int).map I) J J J J J J<|aK h fun v3 e1 h=>ba J (qj e1) cR J<|rA J J<|rN<|ab.ret<|?_
 cases h
 exact hP J J
theorem yr [GI:bU] {bO:Bk} {aa:ah} {r:(List ak)×ah} (h:lj aa=some r):aR Tryz.prog 34 [.ptr bO 0] [(bO,.cells [gg aa.L,I aa.at_])] (T1 (fun np=>[(bO,.cells [gg r.2.L,I r.2.at_]),(np,vV r.1)]) (fun np=>.sl 6 np 0 r.1.length)):=by
 unfold lj at h
 refine aR.iL ?_
 refine aR.bI Tryz.func34 J Tryz.ntmps34 Tryz.results34 J J ?_
 refine aL<|rA J J<|rN<|aL<|rA J J<|rN<|tS<|aL<|rA J J<|rN<|ab.block<|ab.cS (fun x:(List Int)×Int×(List ak)×Int=>iZ x.1 x.2.1 x.2.2.1 x.2.2.2) (fun x aJ=>∃ (b8:Bk),aJ=⟨99,[(0,.ptr bO 0),(3,.sl 6 b8 0 x.2.2.1.length),(4,I x.2.2.2)],[(bO,.cells [gg x.1,I x.2.1]),(b8,vV x.2.2.1)]⟩) h ?_ ?_
 ·exact aj.arr (s:=3) 6 J fun De=>aj.lq [1,0] ⟨De,J⟩ J J
 ·intro x z1 aJ J1 ep h jF ek
  obtain ⟨l6,n7,l9,n10⟩:=x
  obtain ⟨b8,rfl⟩:=ep
  replace h:iZ l6 n7 l9 n10=some z1:=h
  unfold iZ at h
  refine tS<|aL<|rM J J<|ae.qv (qM J J) J<|rN<|cD h J (fun h=>?_) (fun h=>?_)
  ·refine tK<|tS<|ab.block<|aL<|aW (xs:=([0,5]).map I) J J J J J J<|ae.qv (cE J) J<|rM J J<|rN<|ab.block<|ab.cS (fun x:(List Int)×Int×(List ak)×Int=>iY n10 x.1 x.2.1 x.2.2.1 x.2.2.2) (fun x aJ=>∃ (vf:Bk),aJ=⟨99,[(0,.ptr bO 0),(3,.sl 6 vf 0 x.2.2.1.length),(4,I n10),(14,gg [0,5]),(15,I ([0,5].length:Int)),(16,I x.2.2.2)],[(bO,.cells [gg x.1,I x.2.1]),(vf,vV x.2.2.1)]⟩) h ?_ ?_
   ·exact aj.lq [0,0] ⟨b8,J⟩ J J
   ·intro x z2 aJ J2 ep h zm xd
    obtain ⟨wS,n18,jS,n21⟩:=x
    obtain ⟨vf,rfl⟩:=ep
    replace h:iY n10 wS n18 jS n21=some z2:=h
    unfold iY at h
    refine aL<|ae.qv (bT J J) J<|rN<|tS<|cD h J (fun h=>?_) (fun h=>?_)
    ·refine tK<|tS<|ab.cut (fun aJ=>∃ (u4:Bk) (vl:List Int) (n23:Int) (x3:List ak),eT n21 vl n23 x3=some z2∧aJ=⟨99,[(0,.ptr bO 0),(3,.sl 6 u4 0 x3.length),(4,I n10),(14,gg [0,5]),(15,I ([0,5].length:Int)),(16,I n21)],[(bO,.cells [gg vl,I n23]),(u4,vV x3)]⟩) ?_ ?_
     ·refine ab.block<|aL<|aK h fun v26 e1 h=>ae.qv (bH J J J e1 J J) J<|ae.qv (aS J J J) J<|rA J J<|rN<|tS<|aL<|rM J J<|aK h fun nO e2 h=>bC J (gH e2) cR (.cons .p0 .nil) J J<|rN<|cB h J (fun h=>?_) (fun h=>?_)
      ·exact ab.exit J<|ab.stop<|aj.lq [0,0] ⟨vf,nO.2.L,nO.2.at_,jS,h,J⟩ J J
      ·refine tK<|tS<|aK h fun v28 e3 h=>aK h fun Av e4 h=>aK h fun v30 e5 h=>ab.lB (id:=9) (A:=[0,0,3,0,0,0,0,120,0,256,1016,2040,0,0,13056,32767,0,131071]) (H0:=[(bO,.cells [gg nO.2.L,I nO.2.at_])]) (HH:=fun β=>[(bO,.cells [gg v30.2.L,I v30.2.at_]),((β 16),.cells [I 0,I 0,I 0,.nil,.nil,I 0]),(vf,vV jS)]) 17 mixed J (by kernel_rfl) (by kernel_rfl) [⟨none,some 9,[],fun _=>(bO,.cells [gg nO.2.L,I nO.2.at_]),none,[]⟩,⟨some 9,some 14,[],fun _=>(bO,.cells [gg v28.2.L,I v28.2.at_]),none,[]⟩,⟨some 14,none,[],fun _=>(bO,.cells [gg v30.2.L,I v30.2.at_]),none,[]⟩,⟨some 16,none,[],fun b=>(b,.cells [I 0,I 0,I 0,.nil,.nil,I 0]),none,[]⟩] [16] J (by kernel_rfl) J (.cons .p0 .nil) (fun _=>J)<|AT.am 9 J J<|AM.qv (aT J) J<|AM.qv (aT J) J<|AM.qv (dc J J J J J) J<|AM.cI (xs:=([([109]:bj)]).map AV.str) J J J J J J<|AM.cI (xs:=([([109]:bj)]).map AV.str) J J J J J J<|AM.cI (xs:=([([109]:bj),([110]:bj)]).map AV.str) J J J J J J<|AM.cI (xs:=([([110]:bj)]).map AV.str) J J J J J J<|AM.cI (xs:=([[([109]:bj)],[([109]:bj)],[([109]:bj),([110]:bj)],[([110]:bj)]]).map (Ky 1 AV.str)) J J J J J J<|AM.qv (aT J) J<|AM.nil<|AT.CN (av:=I v28.1) (Ti:=[(bO,.cells [gg nO.2.L,I nO.2.at_])]) (Pi:=[(bO,.cells [gg v28.2.L,I v28.2.at_])]) (fun _=>J) (fun _=>J) (fun _=>J) J J J ?_ ?_
       ·exact bC J (gG e3) cR (.cons .p0 .nil) J J<|ae.nil ⟨_,J,J⟩
       refine AT.am 4 J J<|AM.qv (bH J J J e4 J J) J<|AM.qv (aS J J J) J<|AM.qv (aT J) J<|AM.cI (xs:=([1,5,5,10]).map I) J J J J J J<|AM.nil<|AT.CN (av:=I v30.1) (Ti:=[(bO,.cells [gg v28.2.L,I v28.2.at_])]) (Pi:=[(bO,.cells [gg v30.2.L,I v30.2.at_])]) (fun _=>J) (fun _=>J) (fun _=>J) J J J ?_ ?_
       ·exact bC J (cX e5) cR (.cons .p0 .nil) J J<|ae.nil ⟨_,J,J⟩
       refine AT.am 1 J J<|AM.qv (dc J J J J J) J<|AM.nil<|AT.zU (V:=fun b=>.ptr b 0) (Ti:=[]) (Pi:=fun b=>[(b,.cells [I 0,I 0,I 0,.nil,.nil,I 0])]) (fun _=>J) (fun _=>J) (fun _ _=>J) J (fun _=>J) J J J ?_ ?_
       ·exact bA J J J J fun Lf=>ae.nil ⟨Lf,_,J,J⟩
       refine AT.xK (fun _=>J) fun β=>?_
       generalize β 16=Lf
       clear β
       refine ar J J J J .p1 J J<|rN<|aL<|rM J J<|rM J J<|ae.qv (fy J J) J<|aK h fun v32 e6 h=>bC J (uL e6) cR (.cons .p0 .nil) J J<|rA J J<|rN<|aL<|rM J J<|ba J (A2 J) cR J<|rM J J<|ae.qv (fy J J) J<|rM J J<|aW (xs:=([0,5,9999]).map I) J J J J J J<|aK h fun v33 e7 h=>bC J (cX e7) cR (.cons .p0 .nil) J J<|ae.qv (dc J J J J J) J<|ae.qv (dc J J J J J) J<|bA J J J J fun UC=>ar J J J J .p0 J J<|rN<|tS<|tS<|ab.cut (fun aJ=>∃ (sa:List Int) (n36:Int) (c37:Bool),iX n10 jS n21 v26 Av v30 v32 v33 sa n36 c37=some z2∧aJ=⟨99,[(0,.ptr bO 0),(3,.sl 6 vf 0 jS.length),(4,I n10),(7,.ptr Lf 0),(8,I v32.1),(9,.ptr UC 0),(14,gg [0,5]),(15,I ([0,5].length:Int)),(16,I n21),(56,.bool c37)],[(bO,.cells [gg sa,I n36]),(vf,vV jS),(Lf,.cells [I n10,I v26,I 0,vz Av,.nil,I v30.1]),(UC,.cells [I ((whole v32.1).aA),I ((whole v32.1).aD),I ((whole v32.1).aF),I (bE (n10 - 1)),I v33.1,I 9999])]⟩) ?_ ?_
       ·refine tR<|rM J J<|aK h fun BA e8 h=>bC J (gH e8) cR (.cons .p1 .nil) J J<|rM J J<|ae.guard J J J (fun hc=>?_) (fun hc=>?_)
        ·rw [DE hc] at h
         exact rM J J<|rY J J J<|ae.qv (dt J J) J<|rT J J J<|rN<|ab.stop<|aj.lq [0,2,1,0] ⟨BA.2.L,BA.2.at_,decide (v26=5),h,J⟩ J J
        ·rw [DF hc] at h
         exact rG J J J J<|rE J J J<|rN<|ab.stop<|aj.lq [0,2,1,0] ⟨BA.2.L,BA.2.at_,false,h,J⟩ J J
       ·rintro aJ ⟨sa,n36,c37,h,rfl⟩
        unfold iX at h
        refine ab.cut (fun aJ=>∃ (Fi:Bk) (Ke:List Range) (n41:Int) (n42:Int) (n43:Int) (n44:Int) (n45:Int),gw n10 jS n21 v26 Av v30 sa n36 Ke n41 n42 n43 n44 n45=some z2∧aJ=⟨99,[(0,.ptr bO 0),(3,.sl 6 vf 0 jS.length),(4,I n10),(7,.ptr Lf 0),(9,.ptr UC 0),(14,gg [0,5]),(15,I ([0,5].length:Int)),(16,I n21)],[(bO,.cells [gg sa,I n36]),(vf,vV jS),(Lf,.cells [I n10,I v26,I 0,vz Av,.sl 6 Fi 0 Ke.length,I v30.1]),(Fi,aE4 Ke),(UC,.cells [I n41,I n42,I n43,I n44,I n45,I 9999])]⟩) ?_ ?_
        ·refine cB h J (fun h=>?_) (fun h=>?_)
         ·exact tS<|ab.dv (id:=13) (A:=[0,1,0,4,0,28,60,124,255,511,1023]) 8 mixed J (by kernel_rfl) (by kernel_rfl)<|AM.qv (ax J J) J<|AM.qv (aM J J .p2 J) J<|AM.qv (aT J) J<|AM.gM J (A2 J) cR J<|AM.qv (aT J) J<|AM.gM J (A2 J) cR J<|AM.qv (dc J J J J J) J<|AM.cI (xs:=([(⟨(whole v32.1),(whole v32.1)⟩:Range)]).map Range.av) J J J J J J<|AM.nil<|aK h fun Kf e9 h=>MX (g:=Range.av) J J J J J J J J (.list _) e9 fun Gc=>rF J J J<|ar J J J J .p3 J J<|rN<|tR<|rM J J<|ba J (A2 J) cR J<|rM J J<|ae.qv (dc J J J J J) J<|ae.qv (dc J J J J J) J<|ar J J J J .p4 J J<|rN<|ab.stop<|aj.lq [1,1,1,0,0] ⟨Gc,Kf,(whole n10).aA,(whole n10).aD,(whole n10).aF,n10,4,h,J⟩ J J
         ·exact tK<|ab.stop<|aj.KF (j:=4) 6 (fun _=>.p2) J (fun _=>J) (fun _=>J) fun W8=>aj.lq [1,1,1,0,0] ⟨W8,[],(whole v32.1).aA,(whole v32.1).aD,(whole v32.1).aF,bE (n10 - 1),v33.1,h,J⟩ J J
        ·rintro aJ ⟨Fi,Ke,n41,n42,n43,n44,n45,h,rfl⟩
         unfold gw at h
         refine tS<|tS<|ab.cut (fun aJ=>∃ (c49:Bool),gu n10 jS n21 v26 Av v30 sa n36 Ke n41 n42 n43 n44 n45 c49=some z2∧aJ=⟨99,[(0,.ptr bO 0),(3,.sl 6 vf 0 jS.length),(4,I n10),(7,.ptr Lf 0),(9,.ptr UC 0),(14,gg [0,5]),(15,I ([0,5].length:Int)),(16,I n21),(86,.bool c49)],[(bO,.cells [gg sa,I n36]),(vf,vV jS),(Lf,.cells [I n10,I v26,I 0,vz Av,.sl 6 Fi 0 Ke.length,I v30.1]),(Fi,aE4 Ke),(UC,.cells [I n41,I n42,I n43,I n44,I n45,I 9999])]⟩) ?_ ?_
         ·refine ab.dv (id:=15) (A:=[0,1,3,7,15,31,63,127,255,511,31,1055,4095,8191,16383]) 15 mixed J (by kernel_rfl) (by kernel_rfl)<|AM.qv (ax J J) J<|AM.qv (aM J J .p2 J) J<|AM.qv (dH J) J<|AM.qv (dt J J) J<|AM.qv (aT J) J<|AM.dA J J J (fun hc=>?_) (fun hc=>?_)
          ·exact have h:=AD hc h;AM.qv (ax J J) J<|AM.ay J J J<|AM.qv (aM J J .p2 J) J<|AM.ay J J J<|aK h fun v50 Ad h=>AM.qv (bB J J J Ad) J<|AM.ay J J J<|AM.qv (fG J J) J<|AM.ay J J J<|AM.qv (su (g:=Range.av) J J (.inl .p3) Ad J J) J<|AM.ay J J J<|AM.qv (ax J J) J<|AM.ay J J J<|AM.qv (aP J J .p4 J J) J<|AM.ay J J J<|aK h fun v51 Ej h=>AM.gM J (ji Ej) cR J<|AM.ay J J J<|AM.qv (bT J J) J<|AM.qv (eA J J) J<|AM.nil<|rN<|ab.stop<|aj.lq [0,0,0,0,0] ⟨decide (v51 < 0),h,J⟩ J J
          ·exact have h:=pN hc h;AM.au J J J J<|AM.au J J J J<|AM.au J J J J<|AM.au J J J J<|AM.au J J J J<|AM.au J J J J<|AM.au J J J J<|AM.au J J J J<|AM.qv (gx J J) J<|AM.nil<|rN<|ab.stop<|aj.lq [0,0,0,0,0] ⟨true,h,J⟩ J J
         ·rintro aJ ⟨c49,h,rfl⟩
          unfold gu at h
          refine ab.cut (fun aJ=>∃ (Rw:Bk) (Fc:List Range),gr n10 jS n21 v26 Av v30 sa n36 Fc=some z2∧aJ=⟨99,[(0,.ptr bO 0),(3,.sl 6 vf 0 jS.length),(4,I n10),(7,.ptr Lf 0),(14,gg [0,5]),(15,I ([0,5].length:Int)),(16,I n21)],[(bO,.cells [gg sa,I n36]),(vf,vV jS),(Lf,.cells [I n10,I v26,I 0,vz Av,.sl 6 Rw 0 Fc.length,I v30.1]),(Rw,aE4 Fc)]⟩) ?_ ?_
          ·refine cB h J (fun h=>?_) (fun h=>?_)
           ·exact tR<|rF J J J<|rL J J .p2 J J<|ae.qv (aG J J .p4 J) J<|aW (xs:=([(⟨(⟨n41,n42,n43⟩:Version),(⟨n44,n45,9999⟩:Version)⟩:Range)]).map Range.av) J J J J J J<|aK h fun PL Fh h=>dB (g:=Range.av) J J J J J J J J (.list _) Fh (fun _=>.p3) J fun W7=>rF J J J<|ar J J J J .p2 J J<|rN<|ab.stop<|aj.lq [0,0,0,0] ⟨W7,PL,h,J⟩ J J
           ·exact tK<|ab.stop<|aj.lq [0,0,0,0] ⟨Fi,Ke,h,J⟩ J J
          ·rintro aJ ⟨Rw,Fc,h,rfl⟩
           unfold gr at h
           exact tR<|rM J J<|ae.qv (aG J J .p2 J) J<|ae.ghost<|aj.freeze .p3<|aj.here<|aW (xs:=[.agg [I n10,I v26,I 0,vz Av,.sl 6 Rw 0 Fc.length,I v30.1]]) J J J J J J<|ae.ghost<|aj.Va (s:=95) (iI:=.list 6 (([(⟨(⟨n10,v26,0⟩:Version),Av,Fc,v30.1⟩:ak)]:List ak).map ak.av)) J (CO.O6 (.cons .r (.cons .r (.cons .r (.cons .r (.cons (.co (Co.Kz .p3)) (.cons .r .nil)))))) J J)<|aj.here<|aK h fun PJ Ki h=>dB (g:=ak.av) J J J J J J J J (.list _) Ki (fun _=>.p1) J fun UD=>rA J J<|rN<|ab.cH<|ab.stop<|aj.lq [0,0] ⟨UD,sa,n36,PJ,h,J⟩ J J
     ·rintro aJ ⟨u4,vl,n23,x3,h,rfl⟩
      unfold eT at h
      refine tR<|ae.qv (br J J) J<|rM J J<|rN<|ab.stop<|?_
      cases h
      exact zm _ _ J<|aj.lq [0,0] ⟨u4,J⟩ J J
    ·refine ab.exit J<|have h:=bZ h xd;ab.cH<|tR<|rM J J<|ae.qv (br J J) J<|rA J J<|rN<|ab.stop<|?_
     cases h
     exact jF _ _ J<|aj.lq [0,0] ⟨vf,J⟩ J J
  ·refine ab.exit J<|have h:=bZ h ek;aL<|rM J J<|rA J J<|rN<|ab.ret<|?_
   cases h
   exact hH J [0,0] J ⟨b8,J,J⟩
theorem uM [GI:bU] {aa:List Range} {r:(List Range)} (h:gy aa=some r):aR Tryz.prog 35 [.list 6 (aa.map Range.av)] [] (T1 (fun np=>[(np,.arr 6 (r.map Range.av))]) (fun np=>.sl 6 np 0 r.length)):=by
 unfold gy at h
 refine aR.iL ?_
 refine aR.bI Tryz.func35 J Tryz.ntmps35 Tryz.results35 J J ?_
 refine ab.seq ?_
 refine ab.region ?_
 refine ae.qv (bQ J) J ?_
 refine ae.nil ?_
 refine ab.seq ?_
 refine ab.seq ?_
 refine ab.region ?_
 refine ae.qv (aT J) J ?_
 refine G3 J J J J (fun c hc=>?_)
 refine ae.nil ?_
 refine ab.cond J (fun hT=>?_) (fun hF=>?_)
 ·obtain rfl:=w4 h (List.map_eq_nil_iff.1 (hc hT))
  refine ab.seq ?_
  refine ab.region ?_
  refine ae.qv (bQ J) J ?_
  refine ae.nil ?_
  refine ab.ret ?_
  refine aj.arr (s:=2) 6 J (fun b1=>?_)
  exact aj.here ⟨_,.cons (.tmp _ _ J) .nil,_,.cons .here .nil,⟨b1,J,J⟩⟩
 ·refine ab.skip ?_
  refine ab.seq ?_
  refine ab.region ?_
  refine kf (xs:=([]:List Range).map Range.av) J J J J J J (fun b2=>?_)
  refine ae.qv (aT J) J ?_
  refine dB (g:=Range.av) (Xs:=[]) J J J J J J J J (.list _) h (fun _=>.here) J (fun b3=>?_)
  refine ae.qv (bQ J) J ?_
  refine ae.nil ?_
  refine ab.ret ?_
  exact aj.here ⟨_,.cons (.tmp _ _ J) .nil,_,.cons .here .nil,⟨b3,J,J⟩⟩
theorem CT [GI:bU] {bO:Bk} {aa:ah} {r:(List ak)×ah} (h:pR aa=some r):aR Tryz.prog 6 [.ptr bO 0] [(bO,.cells [gg aa.L,I aa.at_])] (T1 (fun np=>[(bO,.cells [gg r.2.L,I r.2.at_]),(np,vV r.1)]) (fun np=>.sl 6 np 0 r.1.length)):=by
 unfold pR at h
 refine aR.iL ?_
 refine aR.bI Tryz.func6 J Tryz.ntmps6 Tryz.results6 J J ?_
 refine aL<|rA J J<|rN<|aL<|rM J J<|aK h fun v1 e1 h=>jH J (yr e1) cR (.cons .p0 .nil) (fun _=>J) J fun b2=>rA J J<|rN<|tS<|tS<|ab.cut (fun aJ=>∃ (l3:List Int) (n4:Int) (c5:Bool),mQ v1 l3 n4 c5=some r∧aJ=⟨80,[(0,.ptr bO 0),(3,.sl 6 b2 0 v1.1.length),(13,.bool c5)],[(bO,.cells [gg l3,I n4]),(b2,vV v1.1)]⟩) ?_ ?_
 ·refine tR<|rM J J<|ae.qv (dH J) J<|ae.qv (eB J J) J<|rM J J<|gT h J J J (fun h=>?_) (fun h=>?_)
  ·exact rM J J<|rY J J J<|aK h fun v6 e2 h=>bC J (gH e2) cR (.cons .p0 .nil) J J<|rT J J J<|rN<|ab.stop<|aj.lq [0,0] ⟨v6.2.L,v6.2.at_,v6.1,h,J⟩ J J
  ·exact rG J J J J<|rE J J J<|rN<|ab.stop<|aj.lq [0,0] ⟨v1.2.L,v1.2.at_,false,h,J⟩ J J
 ·rintro aJ ⟨l3,n4,c5,h,rfl⟩
  unfold mQ at h
  refine ab.cut (fun aJ=>∃ (l7:List Int) (n8:Int) (l9:List ak),mN l7 n8 l9=some r∧aJ=⟨80,[(3,.sl 6 b2 0 l9.length)],[(bO,.cells [gg l7,I n8]),(b2,vV l9)]⟩) ?_ ?_
  ·refine cB h J (fun h=>?_) (fun h=>?_)
   ·refine aL<|rM J J<|rM J J<|rM J J<|ae.qv (dH J) J<|aK h fun v10 e3 h=>bC J (gG e3) cR (.cons .p0 .nil) J J<|aK h fun v11 e4 h=>ae.qv (bB J J J e4) J<|rA J J<|rN<|aL<|rM J J<|aK h fun v12 e5 h=>bC J (gG e5) cR (.cons .p0 .nil) J J<|rN<|ab.block<|aL<|ae.qv (dt J J) J<|rA J J<|rN<|ab.cut (fun aJ=>∃ (kU:List Int) (n14:Int) (xL:List ak),kK kU n14 xL=some r∧aJ=⟨80,[(3,.sl 6 b2 0 xL.length)],[(bO,.cells [gg kU,I n14]),(b2,vV xL)]⟩) ?_ ?_
    ·refine cD h J (fun h=>?_) (fun h=>?_)
     ·exact tR<|rM J J<|rM J J<|aK h fun tL e6 h=>bC J (nn e6) cR (.cons .p0 .nil) J J<|ae.qv (ec J) J<|ae.qv (fG J J) J<|dj (g:=ak.av) (BE:=(⟨tL.1,v11.df,v11.bF,v11.cW⟩:ak)) J J J J e4 J .p1 J<|ae.ghost<|aj.eqs (s:=3) (iI:=.sl 6 b2 0 (v1.1.set v10.1.toNat (⟨tL.1,v11.df,v11.bF,v11.cW⟩:ak)).length) J (by rw [ac])<|aj.here<|ae.ghost<|aj.eqs (s:=14) (iI:=.sl 6 b2 0 (v1.1.set v10.1.toNat (⟨tL.1,v11.df,v11.bF,v11.cW⟩:ak)).length) J (by rw [ac])<|aj.here<|ae.ghost<|aj.eqs (s:=16) (iI:=.sl 6 b2 0 (v1.1.set v10.1.toNat (⟨tL.1,v11.df,v11.bF,v11.cW⟩:ak)).length) J (by rw [ac])<|aj.here<|rN<|ab.stop<|aj.lq [0,0] ⟨tL.2.L,tL.2.at_,v1.1.set v10.1.toNat (⟨tL.1,v11.df,v11.bF,v11.cW⟩:ak),h,J⟩ J J
     ·refine aL<|ae.qv (dt J J) J<|rA J J<|rN<|ab.cut (fun aJ=>∃ (wS:List Int) (n18:Int) (Fb:List ak),kL wS n18 Fb=some r∧aJ=⟨80,[(3,.sl 6 b2 0 Fb.length)],[(bO,.cells [gg wS,I n18]),(b2,vV Fb)]⟩) ?_ ?_
      ·refine cD h J (fun h=>?_) (fun h=>?_)
       ·exact tR<|rM J J<|aW (xs:=([([110]:bj),([109]:bj)]).map AV.str) J J J J J J<|aW (xs:=([([]:bj)]).map AV.str) J J J J J J<|aW (xs:=([([109]:bj),([109]:bj)]).map AV.str) J J J J J J<|aW (xs:=[.nil,vz [([110]:bj),([109]:bj)],vz [([]:bj)],vz [([109]:bj),([109]:bj)]]) J J J J J J<|ae.ghost<|aj.Va (s:=40) (iI:=.list 1 (([[],[([110]:bj),([109]:bj)],[([]:bj)],[([109]:bj),([109]:bj)]]:List (List bj)).map (Ky 1 AV.str))) J (CO.O6 (.cons .n (.cons .r (.cons .r (.cons .r .nil)))) J J)<|aj.here<|rM J J<|aK h fun v20 e7 h=>bC J (gG e7) cR (.cons .p0 .nil) J J<|aK h fun v21 e8 h=>ae.qv (bH J J J e8 J J) J<|ae.qv (aS J J J) J<|ae.qv (ec J) J<|ae.qv (fG J J) J<|dj (g:=ak.av) (BE:=(⟨v11.Version,v21,v11.bF,v11.cW⟩:ak)) J J J J e4 J .p1 J<|ae.ghost<|aj.eqs (s:=3) (iI:=.sl 6 b2 0 (v1.1.set v10.1.toNat (⟨v11.Version,v21,v11.bF,v11.cW⟩:ak)).length) J (by rw [ac])<|aj.here<|ae.ghost<|aj.eqs (s:=14) (iI:=.sl 6 b2 0 (v1.1.set v10.1.toNat (⟨v11.Version,v21,v11.bF,v11.cW⟩:ak)).length) J (by rw [ac])<|aj.here<|ae.ghost<|aj.eqs (s:=16) (iI:=.sl 6 b2 0 (v1.1.set v10.1.toNat (⟨v11.Version,v21,v11.bF,v11.cW⟩:ak)).length) J (by rw [ac])<|aj.here<|rN<|ab.stop<|aj.lq [0,0] ⟨v20.2.L,v20.2.at_,v1.1.set v10.1.toNat (⟨v11.Version,v21,v11.bF,v11.cW⟩:ak),h,J⟩ J J
       ·refine aL<|ae.qv (dt J J) J<|rA J J<|rN<|ab.cut (fun aJ=>∃ (vl:List Int) (n23:Int) (yY:List ak),kM vl n23 yY=some r∧aJ=⟨80,[(3,.sl 6 b2 0 yY.length)],[(bO,.cells [gg vl,I n23]),(b2,vV yY)]⟩) ?_ ?_
        ·refine cD h J (fun h=>?_) (fun h=>?_)
         ·exact tR<|rM J J<|rM J J<|ae.qv (ec J) J<|ae.qv (fG J J) J<|ae.qv (dK (g:=ak.av) J J (.inl .p1) e4 J) J<|aK h fun v25 e9 h=>jH J (uM e9) cR .nil (fun _=>J) J fun BN=>rM J J<|aK h fun nO Ad h=>bC J (nn Ad) cR (.cons .p1 .nil) J J<|rM J J<|aK h fun v28 Ej h=>bC J (nn Ej) cR (.cons .p0 .nil) J J<|ae.qv (dc J J J J J) J<|aW (xs:=([(⟨nO.1,v28.1⟩:Range)]).map Range.av) J J J J J J<|aK h fun E0 Fh h=>dB (g:=Range.av) J J J J J J J J (.list _) Fh (fun _=>.p1) J fun Nx=>ae.qv (ec J) J<|ae.qv (fG J J) J<|ae.ghost<|aj.freeze .p1<|aj.here<|ae.ghost<|aj.Va (s:=61) (iI:=PR E0) J (.co (Co.Kz .p1))<|aj.here<|dj (g:=ak.av) (BE:=(⟨v11.Version,v11.df,E0,v11.cW⟩:ak)) J J J J e4 J .p2 J<|ae.ghost<|aj.eqs (s:=3) (iI:=.sl 6 b2 0 (v1.1.set v10.1.toNat (⟨v11.Version,v11.df,E0,v11.cW⟩:ak)).length) J (by rw [ac])<|aj.here<|ae.ghost<|aj.eqs (s:=14) (iI:=.sl 6 b2 0 (v1.1.set v10.1.toNat (⟨v11.Version,v11.df,E0,v11.cW⟩:ak)).length) J (by rw [ac])<|aj.here<|ae.ghost<|aj.eqs (s:=16) (iI:=.sl 6 b2 0 (v1.1.set v10.1.toNat (⟨v11.Version,v11.df,E0,v11.cW⟩:ak)).length) J (by rw [ac])<|aj.here<|rN<|ab.stop<|aj.lq [0,1] ⟨v28.2.L,v28.2.at_,v1.1.set v10.1.toNat (⟨v11.Version,v11.df,E0,v11.cW⟩:ak),h,J⟩ J J
         ·refine aL<|ae.qv (dt J J) J<|rA J J<|rN<|ab.cut (fun aJ=>∃ (yZ:List Int) (n32:Int) (I6:List ak),mP yZ n32 I6=some r∧aJ=⟨80,[(3,.sl 6 b2 0 I6.length)],[(bO,.cells [gg yZ,I n32]),(b2,vV I6)]⟩) ?_ ?_
          ·refine cD h J (fun h=>?_) (fun h=>?_)
           ·exact ab.dv (id:=13) (A:=[0,0,2,6,14,0,32,96,224,510,1022,2047,4095,8191]) 13 mixed J (by kernel_rfl) (by kernel_rfl)<|AM.qv (aT J) J<|AM.qv (aT J) J<|AM.qv (ec J) J<|AM.qv (fG J J) J<|AM.qv (su (g:=ak.av) J J (.inl .p1) e4 J J) J<|AM.qv (aT J) J<|AM.qv (ec J) J<|AM.qv (fG J J) J<|AM.qv (su (g:=ak.av) J J (.inl .p1) e4 J J) J<|AM.qv (dc J J J J J) J<|AM.cI (xs:=([(⟨v11.Version,v11.Version⟩:Range)]).map Range.av) J J J J J J<|AM.qv (ec J) J<|AM.qv (fG J J) J<|AM.nil<|dj (g:=ak.av) (BE:=(⟨v11.Version,v11.df,[(⟨v11.Version,v11.Version⟩:Range)],v11.cW⟩:ak)) J J J J e4 J .p1 J<|ae.ghost<|aj.eqs (s:=3) (iI:=.sl 6 b2 0 (v1.1.set v10.1.toNat (⟨v11.Version,v11.df,[(⟨v11.Version,v11.Version⟩:Range)],v11.cW⟩:ak)).length) J (by rw [ac])<|aj.here<|ae.ghost<|aj.eqs (s:=14) (iI:=.sl 6 b2 0 (v1.1.set v10.1.toNat (⟨v11.Version,v11.df,[(⟨v11.Version,v11.Version⟩:Range)],v11.cW⟩:ak)).length) J (by rw [ac])<|aj.here<|ae.ghost<|aj.eqs (s:=16) (iI:=.sl 6 b2 0 (v1.1.set v10.1.toNat (⟨v11.Version,v11.df,[(⟨v11.Version,v11.Version⟩:Range)],v11.cW⟩:ak)).length) J (by rw [ac])<|aj.here<|rN<|ab.stop<|aj.lq [0,0] ⟨v12.2.L,v12.2.at_,v1.1.set v10.1.toNat (⟨v11.Version,v11.df,[(⟨v11.Version,v11.Version⟩:Range)],v11.cW⟩:ak),h,J⟩ J J
           ·exact tR<|rM J J<|rM J J<|aK h fun Ec Ki h=>bC J (fS Ki) cR (.cons .p0 .nil) J J<|ae.qv (ec J) J<|ae.qv (fG J J) J<|dj (g:=ak.av) (BE:=(⟨v11.Version,v11.df,v11.bF,Ec.1⟩:ak)) J J J J e4 J .p1 J<|ae.ghost<|aj.eqs (s:=3) (iI:=.sl 6 b2 0 (v1.1.set v10.1.toNat (⟨v11.Version,v11.df,v11.bF,Ec.1⟩:ak)).length) J (by rw [ac])<|aj.here<|ae.ghost<|aj.eqs (s:=14) (iI:=.sl 6 b2 0 (v1.1.set v10.1.toNat (⟨v11.Version,v11.df,v11.bF,Ec.1⟩:ak)).length) J (by rw [ac])<|aj.here<|ae.ghost<|aj.eqs (s:=16) (iI:=.sl 6 b2 0 (v1.1.set v10.1.toNat (⟨v11.Version,v11.df,v11.bF,Ec.1⟩:ak)).length) J (by rw [ac])<|aj.here<|rN<|ab.stop<|aj.lq [0,0] ⟨Ec.2.L,Ec.2.at_,v1.1.set v10.1.toNat (⟨v11.Version,v11.df,v11.bF,Ec.1⟩:ak),h,J⟩ J J
          ·rintro aJ ⟨yZ,n32,I6,h,rfl⟩
           unfold mP at h
           exact ab.stop<|aj.lq [0,0] ⟨yZ,n32,I6,h,J⟩ J J
        ·rintro aJ ⟨vl,n23,yY,h,rfl⟩
         unfold kM at h
         exact ab.stop<|aj.lq [0,0] ⟨vl,n23,yY,h,J⟩ J J
      ·rintro aJ ⟨wS,n18,Fb,h,rfl⟩
       unfold kL at h
       exact ab.stop<|aj.lq [0,0] ⟨wS,n18,Fb,h,J⟩ J J
    ·rintro aJ ⟨kU,n14,xL,h,rfl⟩
     unfold kK at h
     exact ab.cH<|ab.stop<|aj.lq [0,0] ⟨kU,n14,xL,h,J⟩ J J
   ·exact tK<|ab.stop<|aj.lq [0,0] ⟨l3,n4,v1.1,h,J⟩ J J
  ·rintro aJ ⟨l7,n8,l9,h,rfl⟩
   unfold mN at h
   refine aL<|rM J J<|rA J J<|rN<|ab.ret<|?_
   cases h
   exact hH J [0,0] J ⟨b2,J,J⟩
theorem zn [GI:bU] {bO:Bk} {aa:ah} {ai:Int} {r:(List DeviceS)×ah} (h:lT aa ai=some r):aR Tryz.prog 36 [.ptr bO 0,I ai] [(bO,.cells [gg aa.L,I aa.at_])] (T1 (fun np=>[(bO,.cells [gg r.2.L,I r.2.at_]),(np,uK r.1)]) (fun np=>.sl 7 np 0 r.1.length)):=by
 unfold lT at h
 refine aR.iL ?_
 refine aR.bI Tryz.func36 J Tryz.ntmps36 Tryz.results36 J J ?_
 refine aL<|rA J J<|rN<|aL<|rA J J<|rN<|tS<|aL<|aW (xs:=([([100,49]:bj),([100,50]:bj),([100,51]:bj),([100,52]:bj),([100,53]:bj),([100,54]:bj)]).map AV.str) J J J J J J<|rM J J<|aK h fun l1 e1 h=>ae.qv (GW J J .none (.some _ _ _ J) J J e1) J<|ae.qv (cE J) J<|rM J J<|rN<|ab.block<|ab.cS (fun x:(List Int)×Int×(List DeviceS)×Int=>jx l1 x.1 x.2.1 x.2.2.1 x.2.2.2) (fun x aJ=>∃ (b9:Bk),aJ=⟨36,[(0,.ptr bO 0),(5,.sl 7 b9 0 x.2.2.1.length),(10,vz l1),(11,I (l1.length:Int)),(12,I x.2.2.2)],[(bO,.cells [gg x.1,I x.2.1]),(b9,uK x.2.2.1)]⟩) h ?_ ?_
 ·exact aj.arr (s:=5) 7 J fun kB=>aj.lq [1,0] ⟨kB,J⟩ J J
 ·intro x z1 aJ J1 ep h jF ek
  obtain ⟨l7,n8,l10,n11⟩:=x
  obtain ⟨b9,rfl⟩:=ep
  replace h:jx l1 l7 n8 l10 n11=some z1:=h
  unfold jx at h
  refine aL<|ae.qv (bT J J) J<|rN<|tS<|cD h J (fun h=>?_) (fun h=>?_)
  ·refine tK<|tS<|ab.block<|aL<|aK h fun lF e2 h=>ae.qv (bH J J J e2 J J) J<|ae.qv (aS J J J) J<|rA J J<|rN<|aL<|rM J J<|aK h fun sT e3 h=>bC J (gH e3) cR (.cons .p0 .nil) J J<|ae.qv (cV J) J<|rN<|ab.cut (fun aJ=>∃ (re:Bk) (xL:List Int) (n16:Int) (Nt:List DeviceS),jw n11 xL n16 Nt=some z1∧aJ=⟨36,[(0,.ptr bO 0),(5,.sl 7 re 0 Nt.length),(10,vz l1),(11,I (l1.length:Int)),(12,I n11)],[(bO,.cells [gg xL,I n16]),(re,uK Nt)]⟩) ?_ ?_
   ·refine cB h J (fun h=>?_) (fun h=>?_)
    ·exact tR<|rM J J<|rM J J<|rM J J<|aW (xs:=([([109]:bj),([109]:bj),([109]:bj),([110]:bj)]).map AV.str) J J J J J J<|aK h fun pj e4 h=>bC J (qh e4) cR (.cons .p0 .nil) J J<|rM J J<|aW (xs:=([1,1,1,2,3]).map I) J J J J J J<|aK h fun v20 e5 h=>bC J (cX e5) cR (.cons .p0 .nil) J J<|rM J J<|aW (xs:=([0,0,5]).map I) J J J J J J<|aK h fun v21 e6 h=>bC J (cX e6) cR (.cons .p0 .nil) J J<|ae.qv (dc J J J J J) J<|ae.qv (dc J J J J J) J<|aW (xs:=[.agg [.str lF,.str pj.1,.str ([116]:bj),I v20.1,I v21.1,I 0,.nil]]) J J J J J J<|ae.ghost<|aj.Va (s:=32) (iI:=.list 7 (([(⟨lF,pj.1,([116]:bj),(⟨v20.1,v21.1,0⟩:Version),[]⟩:DeviceS)]:List DeviceS).map DeviceS.av)) J (CO.O6 (.cons .r (.cons .r (.cons .r (.cons .r (.cons .r (.cons .r (.cons .n .nil))))))) J J)<|aj.here<|aK h fun vl e7 h=>dB (g:=DeviceS.av) J J J J J J J J (.list _) e7 (fun _=>.p1) J fun b23=>rA J J<|rN<|ab.stop<|aj.lq [0,0] ⟨b23,v21.2.L,v21.2.at_,vl,h,J⟩ J J
    ·exact tK<|ab.stop<|aj.lq [0,0] ⟨b9,sT.2.L,sT.2.at_,l10,h,J⟩ J J
   ·rintro aJ ⟨re,xL,n16,Nt,h,rfl⟩
    unfold jw at h
    refine ab.cH<|tR<|ae.qv (br J J) J<|rM J J<|rN<|ab.stop<|?_
    cases h
    exact jF _ _ J<|aj.lq [0,0] ⟨re,J⟩ J J
  ·refine ab.exit J<|have h:=bZ h ek;aL<|rM J J<|rA J J<|rN<|ab.ret<|?_
   cases h
   exact hH J [0,0] J ⟨b9,J,J⟩
theorem Ek [GI:bU] {bO:Bk} {aa:ah} {ai:Int} {r:(List DeviceS)×ah} (h:rB aa ai=some r):aR Tryz.prog 7 [.ptr bO 0,I ai] [(bO,.cells [gg aa.L,I aa.at_])] (T1 (fun np=>[(bO,.cells [gg r.2.L,I r.2.at_]),(np,uK r.1)]) (fun np=>.sl 7 np 0 r.1.length)):=by
 unfold rB at h
 refine aR.iL ?_
 refine aR.bI Tryz.func7 J Tryz.ntmps7 Tryz.results7 J J ?_
 refine aL<|rA J J<|rN<|aL<|rM J J<|rM J J<|aK h fun v1 e1 h=>jH J (zn e1) cR (.cons .p0 .nil) (fun _=>J) J fun b2=>rA J J<|rN<|tS<|tS<|ab.cut (fun aJ=>∃ (l3:List Int) (n4:Int) (c5:Bool),nX v1 l3 n4 c5=some r∧aJ=⟨45,[(0,.ptr bO 0),(5,.sl 7 b2 0 v1.1.length),(16,.bool c5)],[(bO,.cells [gg l3,I n4]),(b2,uK v1.1)]⟩) ?_ ?_
 ·refine tR<|rM J J<|ae.qv (dH J) J<|ae.qv (eB J J) J<|rM J J<|gT h J J J (fun h=>?_) (fun h=>?_)
  ·exact rM J J<|rY J J J<|aK h fun v6 e2 h=>bC J (gH e2) cR (.cons .p0 .nil) J J<|rT J J J<|rN<|ab.stop<|aj.lq [0,0] ⟨v6.2.L,v6.2.at_,v6.1,h,J⟩ J J
  ·exact rG J J J J<|rE J J J<|rN<|ab.stop<|aj.lq [0,0] ⟨v1.2.L,v1.2.at_,false,h,J⟩ J J
 ·rintro aJ ⟨l3,n4,c5,h,rfl⟩
  unfold nX at h
  refine ab.cut (fun aJ=>∃ (l7:List Int) (n8:Int) (l9:List DeviceS),nW l7 n8 l9=some r∧aJ=⟨45,[(5,.sl 7 b2 0 l9.length)],[(bO,.cells [gg l7,I n8]),(b2,uK l9)]⟩) ?_ ?_
  ·refine cB h J (fun h=>?_) (fun h=>?_)
   ·exact aL<|rM J J<|rM J J<|rM J J<|ae.qv (dH J) J<|aK h fun v10 e3 h=>bC J (gG e3) cR (.cons .p0 .nil) J J<|aK h fun v11 e4 h=>ae.qv (bB J J J e4) J<|rA J J<|rN<|tR<|rM J J<|rM J J<|rM J J<|rM J J<|rM J J<|ae.qv (ec J) J<|ae.qv (fG J J) J<|ae.qv (dK (g:=DeviceS.av) J J (.inl .p1) e4 J) J<|aW (xs:=([v11.Key,([]:bj),([100,49]:bj)]).map AV.str) J J J J J J<|aK h fun v12 e5 h=>bC J (qh e5) cR (.cons .p0 .nil) J J<|rM J J<|aW (xs:=([([109]:bj),([]:bj)]).map AV.str) J J J J J J<|aK h fun lF e6 h=>bC J (qh e6) cR (.cons .p0 .nil) J J<|rM J J<|aK h fun sT e7 h=>bC J (nn e7) cR (.cons .p0 .nil) J J<|ae.qv (ec J) J<|ae.qv (fG J J) J<|dj (g:=DeviceS.av) (BE:=(⟨v12.1,v11.Model,v11.eR,v11.bR,v11.oF⟩:DeviceS)) J J J J e4 J .p1 J<|ae.ghost<|aj.eqs (s:=5) (iI:=.sl 7 b2 0 (v1.1.set v10.1.toNat (⟨v12.1,v11.Model,v11.eR,v11.bR,v11.oF⟩:DeviceS)).length) J (by rw [ac])<|aj.here<|ae.ghost<|aj.eqs (s:=17) (iI:=.sl 7 b2 0 (v1.1.set v10.1.toNat (⟨v12.1,v11.Model,v11.eR,v11.bR,v11.oF⟩:DeviceS)).length) J (by rw [ac])<|aj.here<|ae.ghost<|aj.eqs (s:=19) (iI:=.sl 7 b2 0 (v1.1.set v10.1.toNat (⟨v12.1,v11.Model,v11.eR,v11.bR,v11.oF⟩:DeviceS)).length) J (by rw [ac])<|aj.here<|ae.qv (ec J) J<|ae.qv (fG J J) J<|dj (g:=DeviceS.av) (BE:=(⟨v12.1,lF.1,v11.eR,v11.bR,v11.oF⟩:DeviceS)) J J J J (ru (v:=(⟨v12.1,v11.Model,v11.eR,v11.bR,v11.oF⟩:DeviceS)) e4) J .p1 J<|ae.ghost<|aj.eqs (s:=5) (iI:=.sl 7 b2 0 ((v1.1.set v10.1.toNat (⟨v12.1,v11.Model,v11.eR,v11.bR,v11.oF⟩:DeviceS)).set v10.1.toNat (⟨v12.1,lF.1,v11.eR,v11.bR,v11.oF⟩:DeviceS)).length) J (by rw [ac])<|aj.here<|ae.ghost<|aj.eqs (s:=17) (iI:=.sl 7 b2 0 ((v1.1.set v10.1.toNat (⟨v12.1,v11.Model,v11.eR,v11.bR,v11.oF⟩:DeviceS)).set v10.1.toNat (⟨v12.1,lF.1,v11.eR,v11.bR,v11.oF⟩:DeviceS)).length) J (by rw [ac])<|aj.here<|ae.ghost<|aj.eqs (s:=19) (iI:=.sl 7 b2 0 ((v1.1.set v10.1.toNat (⟨v12.1,v11.Model,v11.eR,v11.bR,v11.oF⟩:DeviceS)).set v10.1.toNat (⟨v12.1,lF.1,v11.eR,v11.bR,v11.oF⟩:DeviceS)).length) J (by rw [ac])<|aj.here<|ae.qv (ec J) J<|ae.qv (fG J J) J<|dj (g:=DeviceS.av) (BE:=(⟨v12.1,lF.1,v11.eR,sT.1,v11.oF⟩:DeviceS)) J J J J (ru (v:=(⟨v12.1,lF.1,v11.eR,v11.bR,v11.oF⟩:DeviceS)) (ru (v:=(⟨v12.1,v11.Model,v11.eR,v11.bR,v11.oF⟩:DeviceS)) e4)) J .p1 J<|ae.ghost<|aj.eqs (s:=5) (iI:=.sl 7 b2 0 (((v1.1.set v10.1.toNat (⟨v12.1,v11.Model,v11.eR,v11.bR,v11.oF⟩:DeviceS)).set v10.1.toNat (⟨v12.1,lF.1,v11.eR,v11.bR,v11.oF⟩:DeviceS)).set v10.1.toNat (⟨v12.1,lF.1,v11.eR,sT.1,v11.oF⟩:DeviceS)).length) J (by rw [ac])<|aj.here<|ae.ghost<|aj.eqs (s:=17) (iI:=.sl 7 b2 0 (((v1.1.set v10.1.toNat (⟨v12.1,v11.Model,v11.eR,v11.bR,v11.oF⟩:DeviceS)).set v10.1.toNat (⟨v12.1,lF.1,v11.eR,v11.bR,v11.oF⟩:DeviceS)).set v10.1.toNat (⟨v12.1,lF.1,v11.eR,sT.1,v11.oF⟩:DeviceS)).length) J (by rw [ac])<|aj.here<|ae.ghost<|aj.eqs (s:=19) (iI:=.sl 7 b2 0 (((v1.1.set v10.1.toNat (⟨v12.1,v11.Model,v11.eR,v11.bR,v11.oF⟩:DeviceS)).set v10.1.toNat (⟨v12.1,lF.1,v11.eR,v11.bR,v11.oF⟩:DeviceS)).set v10.1.toNat (⟨v12.1,lF.1,v11.eR,sT.1,v11.oF⟩:DeviceS)).length) J (by rw [ac])<|aj.here<|rN<|ab.stop<|aj.lq [0,0] ⟨sT.2.L,sT.2.at_,((v1.1.set v10.1.toNat (⟨v12.1,v11.Model,v11.eR,v11.bR,v11.oF⟩:DeviceS)).set v10.1.toNat (⟨v12.1,lF.1,v11.eR,v11.bR,v11.oF⟩:DeviceS)).set v10.1.toNat (⟨v12.1,lF.1,v11.eR,sT.1,v11.oF⟩:DeviceS),h,J⟩ J J
   ·exact tK<|ab.stop<|aj.lq [0,0] ⟨l3,n4,v1.1,h,J⟩ J J
  ·rintro aJ ⟨l7,n8,l9,h,rfl⟩
   unfold nW at h
   refine aL<|rM J J<|rA J J<|rN<|ab.ret<|?_
   cases h
   exact hH J [0,0] J ⟨b2,J,J⟩
theorem uN [GI:bU] {aa:bj} {r:Bool} (h:pS aa=some r):Pu Tryz.prog 85 [.str aa] (.bool r):=by
 unfold pS at h
 refine aR.bI Tryz.func85 J Tryz.ntmps85 Tryz.results85 J J ?_
 refine aL<|rA J J<|rN<|tS<|tS<|ab.cut (fun aJ=>∃ (c1:Bool),oV aa c1=some r∧aJ=⟨54,[(0,.str aa),(21,.bool c1)],[]⟩) ?_ ?_
 ·refine tR<|rM J J<|ae.qv (Oy J J) J<|rM J J<|gF h J J J (fun h=>?_) (fun h=>?_)
  ·refine rM J J<|rY J J J<|ae.qv (og J) J<|rY J J J<|ae.qv (eB J J) J<|rE J J J<|rM J J<|gF h J J J (fun h=>?_) (fun h=>?_)
   ·refine rM J J<|rY J J J<|aK h fun c2 e1 h=>ae.qv (nv J J e1) J<|rY J J J<|ae.qv (bT J J) J<|rE J J J<|rM J J<|gF h J J J (fun h=>?_) (fun h=>?_)
    ·exact rM J J<|rY J J J<|aK h fun c3 e2 h=>ae.qv (nv J J e2) J<|rY J J J<|ae.qv (eB J J) J<|rE J J J<|rN<|ab.stop<|aj.lq [] ⟨decide (122 < (c3.toNat:Int)),h,J⟩ J J
    ·exact rG J J J J<|rG J J J J<|rT J J J<|rN<|ab.stop<|aj.lq [] ⟨true,h,J⟩ J J
   ·exact rG J J J J<|rG J J J J<|rT J J J<|rM J J<|rG J J J J<|rG J J J J<|rG J J J J<|rT J J J<|rN<|ab.stop<|aj.lq [] ⟨true,h,J⟩ J J
  ·exact rG J J J J<|rG J J J J<|rT J J J<|rM J J<|rG J J J J<|rG J J J J<|rG J J J J<|rT J J J<|rM J J<|rG J J J J<|rG J J J J<|rG J J J J<|rT J J J<|rN<|ab.stop<|aj.lq [] ⟨true,h,J⟩ J J
 ·rintro aJ ⟨c1,h,rfl⟩
  unfold oV at h
  refine cB h J (fun h=>?_) (fun h=>?_)
  ·refine aL<|rA J J<|rN<|ab.ret<|?_
   cases h
   exact hP J J
  ·refine tK<|tS<|aL<|rM J J<|ae.qv (og J) J<|rM J J<|rN<|ab.block<|ab.cS (fun x:Int=>oU aa x) (fun x aJ=>aJ=⟨54,[(0,.str aa),(23,I (aa.length:Int)),(24,I x)],[]⟩) h ?_ ?_
   ·exact aj.lq [] J J J
   ·intro n5 z1 aJ J1 ep h jF ek
    obtain rfl:=ep
    replace h:oU aa n5=some z1:=h
    unfold oU at h
    refine aL<|ae.qv (bT J J) J<|rN<|tS<|cD h J (fun h=>?_) (fun h=>?_)
    ·refine tK<|tS<|ab.block<|aL<|rM J J<|rA J J<|rN<|aL<|rM J J<|rM J J<|aK h fun c6 e3 h=>ae.qv (nv J J e3) J<|rA J J<|rN<|tS<|ab.cut (fun aJ=>∃ (c7:Bool),vm n5 c7=some z1∧aJ=⟨54,[(0,.str aa),(23,I (aa.length:Int)),(24,I n5),(52,.bool c7)],[]⟩) ?_ ?_
     ·refine tR<|rM J J<|ae.qv (nP J J) J<|rM J J<|ae.dJ J J J (fun hc=>?_) (fun hc=>?_)
      ·rw [if_pos hc] at h
       refine rM J J<|rY J J J<|ae.qv (qM J J) J<|rT J J J<|rM J J<|ae.dA J J J (fun hc=>?_) (fun hc=>?_)
       ·rw [if_neg hc] at h
        refine rM J J<|rY J J J<|ae.qv (nP J J) J<|rY J J J<|rM J J<|ae.dJ J J J (fun hc=>?_) (fun hc=>?_)
        ·rw [if_pos hc] at h
         refine rM J J<|rY J J J<|ae.qv (qM J J) J<|rY J J J<|rT J J J<|rE J J J<|rM J J<|ae.dA J J J (fun hc=>?_) (fun hc=>?_)
         ·rw [if_neg hc] at h
          refine rM J J<|rY J J J<|ae.qv (dt J J) J<|rE J J J<|rM J J<|ae.dA J J J (fun hc=>?_) (fun hc=>?_)
          ·rw [if_neg hc] at h
           exact rM J J<|rY J J J<|ae.qv (dt J J) J<|rE J J J<|ae.qv (C7 J) J<|rN<|ab.stop<|aj.lq [] ⟨decide (¬ ((c6.toNat:Int)=95)),h,J⟩ J J
          ·rw [if_pos hc] at h
           exact rG J J J J<|rT J J J<|ae.qv (cV J) J<|rN<|ab.stop<|aj.lq [] ⟨!true,h,J⟩ J J
         ·rw [if_pos hc] at h
          exact rG J J J J<|rT J J J<|rM J J<|rG J J J J<|rG J J J J<|rT J J J<|ae.qv (cV J) J<|rN<|ab.stop<|aj.lq [] ⟨!true,h,J⟩ J J
        ·rw [if_neg hc] at h
         refine rG J J J J<|rY J J J<|rE J J J<|rE J J J<|rM J J<|rY J J J<|rM J J<|rY J J J<|ae.qv (dt J J) J<|rE J J J<|rM J J<|ae.dA J J J (fun hc=>?_) (fun hc=>?_)
         ·rw [if_neg hc] at h
          exact rM J J<|rY J J J<|ae.qv (dt J J) J<|rE J J J<|ae.qv (C7 J) J<|rN<|ab.stop<|aj.lq [] ⟨decide (¬ ((c6.toNat:Int)=95)),h,J⟩ J J
         ·rw [if_pos hc] at h
          exact rG J J J J<|rT J J J<|ae.qv (cV J) J<|rN<|ab.stop<|aj.lq [] ⟨!true,h,J⟩ J J
       ·rw [if_pos hc] at h
        exact rG J J J J<|rG J J J J<|ae.aV J J J<|ae.aV J J J<|rG J J J J<|rT J J J<|rM J J<|rG J J J J<|rG J J J J<|rT J J J<|rM J J<|rG J J J J<|rG J J J J<|rT J J J<|ae.qv (cV J) J<|rN<|ab.stop<|aj.lq [] ⟨!true,h,J⟩ J J
      ·rw [if_neg hc] at h
       refine rG J J J J<|rE J J J<|rM J J<|rY J J J<|rM J J<|rY J J J<|ae.qv (nP J J) J<|rY J J J<|rM J J<|ae.dJ J J J (fun hc=>?_) (fun hc=>?_)
       ·rw [if_pos hc] at h
        refine rM J J<|rY J J J<|ae.qv (qM J J) J<|rY J J J<|rT J J J<|rE J J J<|rM J J<|ae.dA J J J (fun hc=>?_) (fun hc=>?_)
        ·rw [if_neg hc] at h
         refine rM J J<|rY J J J<|ae.qv (dt J J) J<|rE J J J<|rM J J<|ae.dA J J J (fun hc=>?_) (fun hc=>?_)
         ·rw [if_neg hc] at h
          exact rM J J<|rY J J J<|ae.qv (dt J J) J<|rE J J J<|ae.qv (C7 J) J<|rN<|ab.stop<|aj.lq [] ⟨decide (¬ ((c6.toNat:Int)=95)),h,J⟩ J J
         ·rw [if_pos hc] at h
          exact rG J J J J<|rT J J J<|ae.qv (cV J) J<|rN<|ab.stop<|aj.lq [] ⟨!true,h,J⟩ J J
        ·rw [if_pos hc] at h
         exact rG J J J J<|rT J J J<|rM J J<|rG J J J J<|rG J J J J<|rT J J J<|ae.qv (cV J) J<|rN<|ab.stop<|aj.lq [] ⟨!true,h,J⟩ J J
       ·rw [if_neg hc] at h
        refine rG J J J J<|rY J J J<|rE J J J<|rE J J J<|rM J J<|rY J J J<|rM J J<|rY J J J<|ae.qv (dt J J) J<|rE J J J<|rM J J<|ae.dA J J J (fun hc=>?_) (fun hc=>?_)
        ·rw [if_neg hc] at h
         exact rM J J<|rY J J J<|ae.qv (dt J J) J<|rE J J J<|ae.qv (C7 J) J<|rN<|ab.stop<|aj.lq [] ⟨decide (¬ ((c6.toNat:Int)=95)),h,J⟩ J J
        ·rw [if_pos hc] at h
         exact rG J J J J<|rT J J J<|ae.qv (cV J) J<|rN<|ab.stop<|aj.lq [] ⟨!true,h,J⟩ J J
     ·rintro aJ ⟨c7,h,rfl⟩
      unfold vm at h
      refine cB h J (fun h=>?_) (fun h=>?_)
      ·refine aL<|rA J J<|rN<|ab.ret<|have h:=bZ h ek;?_
       cases h
       exact hP J J
      ·refine tK<|ab.cH<|tR<|ae.qv (br J J) J<|rM J J<|rN<|ab.stop<|?_
       cases h
       exact jF _ _ J<|aj.lq [] J J J
    ·refine ab.exit J<|have h:=bZ h ek;aL<|rA J J<|rN<|ab.ret<|?_
     cases h
     exact hP J J
theorem iB [GI:bU] {aa ai aH:Int} {r:Bool} (h:fV aa ai aH=r):Pu Tryz.prog 72 [I aa,I ai,I aH] (.bool r):=by
 unfold fV at h
 refine aR.bI Tryz.func72 J Tryz.ntmps72 Tryz.results72 J J ?_
 refine aL<|rA J J<|rN<|tS<|ab.cut (fun aJ=>∃ (c1:Bool),yp c1=r∧aJ=⟨15,[(6,.bool c1)],[]⟩) ?_ ?_
 ·refine tR<|rM J J<|rM J J<|ae.qv (bT J J) J<|rM J J<|ae.dA J J J (fun hc=>?_) (fun hc=>?_)
  ·rw [we hc] at h
   exact rM J J<|rY J J J<|rM J J<|rY J J J<|ae.qv (eB J J) J<|rE J J J<|rA J J<|rN<|ab.stop<|aj.lq [] ⟨decide (aH < aa),h,J⟩ J J
  ·rw [wc hc] at h
   exact rG J J J J<|rG J J J J<|rT J J J<|rA J J<|rN<|ab.stop<|aj.lq [] ⟨true,h,J⟩ J J
 ·rintro aJ ⟨c1,h,rfl⟩
  unfold yp at h
  refine ab.ret<|?_
  obtain rfl:=h
  exact hP J J
theorem nq [GI:bU] {aa:Version} {r:Bool} (h:iq aa=r):Pu Tryz.prog 86 [Version.av aa] (.bool r):=by
 unfold iq at h
 refine aR.bI Tryz.func86 J Tryz.ntmps86 Tryz.results86 J J ?_
 refine aL<|dh J J J J fun b1=>rA J J<|rN<|tS<|ab.cut (fun aJ=>∃ (c2:Bool),qt c2=r∧aJ=⟨19,[(2,.bool c2)],[]⟩) ?_ ?_
 ·refine tR<|rF J J J<|rL J J .p0 J J<|ba J (iB J) cR J<|ae.qv (cV J) J<|rM J J<|ae.guard J J J (fun hc=>?_) (fun hc=>?_)
  ·rw [DE hc] at h
   refine rF J J J<|rY J J J<|rL J J .p0 J J<|rY J J J<|ba J (iB J) cR J<|rY J J J<|ae.qv (cV J) J<|rT J J J<|rM J J<|ae.guard J J J (fun hc=>?_) (fun hc=>?_)
   ·rw [DE hc] at h
    exact rF J J J<|rY J J J<|rL J J .p0 J J<|rY J J J<|ba J (iB J) cR J<|rY J J J<|ae.qv (cV J) J<|rT J J J<|rA J J<|rN<|ab.stop<|aj.lq [] ⟨!(fV aa.aF 0 9999),h,J⟩ J J
   ·rw [DF hc] at h
    exact rG J J J J<|rG J J J J<|rG J J J J<|rE J J J<|rA J J<|rN<|ab.stop<|aj.lq [] ⟨false,h,J⟩ J J
  ·rw [DF hc] at h
   exact rG J J J J<|rG J J J J<|rG J J J J<|rE J J J<|rM J J<|rG J J J J<|rG J J J J<|rG J J J J<|rG J J J J<|rE J J J<|rA J J<|rN<|ab.stop<|aj.lq [] ⟨false,h,J⟩ J J
 ·rintro aJ ⟨c2,h,rfl⟩
  unfold qt at h
  refine ab.ret<|?_
  obtain rfl:=h
  exact hP J J
theorem Fj [GI:bU] {aa:Int} {r:Bool} (h:qT aa=r):Pu Tryz.prog 87 [I aa] (.bool r):=by
 unfold qT at h
 refine aR.bI Tryz.func87 J Tryz.ntmps87 Tryz.results87 J J ?_
 refine aL<|rA J J<|rN<|aL<|rM J J<|ba J (iB J) cR J<|ae.qv (cV J) J<|rA J J<|rN<|ab.ret<|?_
 obtain rfl:=h
 exact hP J J
theorem vP [GI:bU] {aa:Campaign} {r:Int} (h:dL aa=some r):Pu Tryz.prog 43 [Campaign.av aa] (I r):=by
 unfold dL at h
 refine aR.bI Tryz.func43 J Tryz.ntmps43 Tryz.results43 J J ?_
 refine aL<|dh J J J J fun b1=>rA J J<|rN<|tS<|ab.block<|aL<|rF J J J<|rL J J .p0 J J<|aK h fun v2 e1 h=>ba J (uN e1) cR J<|ae.qv (cV J) J<|rA J J<|rN<|cB h J (fun h=>?_) (fun h=>?_)
 ·refine aL<|rA J J<|rN<|ab.ret<|?_
  cases h
  exact hP J J
 ·refine tS<|ab.cut (fun aJ=>∃ (c3:Bool),fY aa c3=some r∧aJ=⟨81,[(1,.ptr b1 0),(11,.bool c3)],[(b1,.cells (xz aa))]⟩) ?_ ?_
  ·refine tR<|rF J J J<|ae.qv (aP J J .p0 J J) J<|ba J (nq J) cR J<|ae.qv (cV J) J<|rM J J<|ae.guard J J J (fun hc=>?_) (fun hc=>?_)
   ·rw [va hc] at h
    exact rF J J J<|rY J J J<|rL J J .p0 J J<|rY J J J<|ba J (Fj J) cR J<|rY J J J<|ae.qv (cV J) J<|rE J J J<|rA J J<|rN<|ab.stop<|aj.lq [0] ⟨!(qT aa.At),h,J⟩ J J
   ·rw [u9 hc] at h
    exact rG J J J J<|rG J J J J<|rG J J J J<|rT J J J<|rA J J<|rN<|ab.stop<|aj.lq [0] ⟨true,h,J⟩ J J
  ·rintro aJ ⟨c3,h,rfl⟩
   unfold fY at h
   refine cB h J (fun h=>?_) (fun h=>?_)
   ·refine aL<|rA J J<|rN<|ab.ret<|?_
    cases h
    exact hP J J
   ·refine aL<|rF J J J<|rL J J .p0 J J<|ae.qv (cE J) J<|ae.qv (dt J J) J<|rA J J<|rN<|cD h J (fun h=>?_) (fun h=>?_)
    ·refine aL<|rA J J<|rN<|ab.ret<|?_
     cases h
     exact hP J J
    ·refine aL<|rF J J J<|rL J J .p0 J J<|ae.qv (cE J) J<|ae.qv (eB J J) J<|rA J J<|rN<|cD h J (fun h=>?_) (fun h=>?_)
     ·refine aL<|rA J J<|rN<|ab.ret<|?_
      cases h
      exact hP J J
     ·refine tK<|ab.cH<|aL<|rA J J<|rN<|tS<|aL<|rF J J J<|rL J J .p0 J J<|ae.qv (cE J) J<|rM J J<|rN<|ab.block<|ab.cS (fun x:Int×Int=>et aa x.1 x.2) (fun x aJ=>aJ=⟨81,[(1,.ptr b1 0),(3,I x.1),(33,oQ aa.aI),(34,I (aa.aI.length:Int)),(35,I x.2)],[(b1,.cells (xz aa))]⟩) h ?_ ?_
      ·exact aj.lq [0] J J J
      ·intro x z1 aJ J1 ep h jF ek
       obtain ⟨n6,n7⟩:=x
       obtain rfl:=ep
       replace h:et aa n6 n7=some z1:=h
       unfold et at h
       refine aL<|ae.qv (bT J J) J<|rN<|tS<|cD h J (fun h=>?_) (fun h=>?_)
       ·refine tK<|tS<|ab.block<|aL<|aK h fun v8 e2 h=>ae.qv (bH J J J e2 J J) J<|ae.qv (aO J J J) J<|bA J J J J fun b9=>ar J J J J .p0 J J<|rN<|tS<|tS<|ab.cut (fun aJ=>∃ (I7:Bool),fW n6 n7 v8 I7=some z1∧aJ=⟨81,[(1,.ptr b1 0),(3,I n6),(5,.ptr b9 0),(33,oQ aa.aI),(34,I (aa.aI.length:Int)),(35,I n7),(56,.bool I7)],[(b1,.cells (xz aa)),(b9,.cells (cE2 v8))]⟩) ?_ ?_
        ·refine tR<|rF J J J<|rL J J .p0 J J<|ba J (iB J) cR J<|rM J J<|ae.guard J J J (fun hc=>?_) (fun hc=>?_)
         ·rw [va hc] at h
          refine rF J J J<|rY J J J<|rL J J .p0 J J<|rY J J J<|ba J (iB J) cR J<|rE J J J<|rM J J<|ae.guard J J J (fun hc=>?_) (fun hc=>?_)
          ·rw [va hc] at h
           refine rF J J J<|rY J J J<|rL J J .p0 J J<|rY J J J<|ba J (iB J) cR J<|rE J J J<|rM J J<|ae.guard J J J (fun hc=>?_) (fun hc=>?_)
           ·rw [va hc] at h
            exact rF J J J<|rY J J J<|rL J J .p0 J J<|rY J J J<|ba J (iB J) cR J<|rE J J J<|rN<|ab.stop<|aj.lq [1,0] ⟨(fV v8.ed 0 1000),h,J⟩ J J
           ·rw [u9 hc] at h
            exact rG J J J J<|rG J J J J<|rT J J J<|rN<|ab.stop<|aj.lq [1,0] ⟨true,h,J⟩ J J
          ·rw [u9 hc] at h
           exact rG J J J J<|rG J J J J<|rT J J J<|rM J J<|rG J J J J<|rG J J J J<|rG J J J J<|rT J J J<|rN<|ab.stop<|aj.lq [1,0] ⟨true,h,J⟩ J J
         ·rw [u9 hc] at h
          exact rG J J J J<|rG J J J J<|rT J J J<|rM J J<|rG J J J J<|rG J J J J<|rG J J J J<|rT J J J<|rM J J<|rG J J J J<|rG J J J J<|rG J J J J<|rT J J J<|rN<|ab.stop<|aj.lq [1,0] ⟨true,h,J⟩ J J
        ·rintro aJ ⟨I7,h,rfl⟩
         unfold fW at h
         refine cB h J (fun h=>?_) (fun h=>?_)
         ·refine aL<|rA J J<|rN<|ab.ret<|have h:=bZ h ek;?_
          cases h
          exact hP J J
         ·refine tK<|tR<|rM J J<|rF J J J<|rL J J .p1 J J<|ae.qv (br J J) J<|rA J J<|rN<|ab.cH<|tR<|ae.qv (br J J) J<|rM J J<|rN<|ab.stop<|?_
          cases h
          exact jF _ _ J<|aj.lq [0] J J J
       ·refine ab.exit J<|have h:=bZ h ek;?_
        unfold iQ at h
        refine tS<|ab.block<|aL<|rM J J<|ae.qv (pH J J) J<|rA J J<|rN<|cD h J (fun h=>?_) (fun h=>?_)
        ·refine aL<|rA J J<|rN<|ab.ret<|?_
         cases h
         exact hP J J
        ·refine tS<|ab.cut (fun aJ=>∃ (BJ:Bool),fX BJ=some r∧aJ=⟨81,[(65,.bool BJ)],[]⟩) ?_ ?_
         ·refine tR<|rF J J J<|rF J J J<|rL J J .p0 J J<|ba J (iB J) cR J<|rM J J<|ae.guard J J J (fun hc=>?_) (fun hc=>?_)
          ·rw [va hc] at h
           refine rF J J J<|rY J J J<|rF J J J<|rY J J J<|rL J J .p0 J J<|rY J J J<|ba J (iB J) cR J<|rE J J J<|rM J J<|ae.guard J J J (fun hc=>?_) (fun hc=>?_)
           ·rw [va hc] at h
            exact rF J J J<|rY J J J<|rL J J .p0 J J<|rY J J J<|ba J (iB J) cR J<|rE J J J<|rA J J<|rN<|ab.stop<|aj.lq [] ⟨(fV aa.Room 1 500),h,J⟩ J J
           ·rw [u9 hc] at h
            exact rG J J J J<|rG J J J J<|rT J J J<|rA J J<|rN<|ab.stop<|aj.lq [] ⟨true,h,J⟩ J J
          ·rw [u9 hc] at h
           exact rG J J J J<|rG J J J J<|rG J J J J<|rT J J J<|rM J J<|rG J J J J<|rG J J J J<|rG J J J J<|rT J J J<|rA J J<|rN<|ab.stop<|aj.lq [] ⟨true,h,J⟩ J J
         ·rintro aJ ⟨BJ,h,rfl⟩
          unfold fX at h
          refine cB h J (fun h=>?_) (fun h=>?_)
          ·refine aL<|rA J J<|rN<|ab.ret<|?_
           cases h
           exact hP J J
          ·refine tK<|ab.cH<|aL<|rA J J<|rN<|ab.ret<|?_
           cases h
           exact hP J J
theorem uh [GI:bU] {aa:List Int} {r:Int} (h:mo aa=some r):Pu Tryz.prog 97 [gg aa] (I r):=by
 unfold mo at h
 refine aR.bI Tryz.func97 J Tryz.ntmps97 Tryz.results97 J J ?_
 refine aL<|rA J J<|rN<|aL<|rA J J<|rN<|tS<|aL<|rM J J<|ae.qv (cE J) J<|rM J J<|rN<|ab.block<|ab.cS (fun x:Int=>sU aa x) (fun x aJ=>aJ=⟨18,[(3,I 0),(6,gg aa),(7,I (aa.length:Int)),(8,I x)],[]⟩) h ?_ ?_
 ·exact aj.lq [] J J J
 ·intro n2 z1 aJ J1 ep h jF ek
  obtain rfl:=ep
  replace h:sU aa n2=some z1:=h
  unfold sU at h
  refine aL<|ae.qv (bT J J) J<|rN<|tS<|cD h J (fun h=>?_) (fun h=>?_)
  ·refine tK<|tS<|ab.block<|aL<|aK h fun v3 e1 h=>ae.qv (bH J J J e1 J J) J<|ae.qv (aS J J J) J<|rA J J<|rN<|aL<|rM J J<|rM J J<|ae.qv (pH J J) J<|rN<|cD h J (fun h=>?_) (fun h=>?_)
   ·refine aL<|rM J J<|rA J J<|rN<|ab.ret<|have h:=bZ h ek;?_
    cases h
    exact hP J J
   ·refine tK<|ab.cH<|tR<|ae.qv (br J J) J<|rM J J<|rN<|ab.stop<|?_
    cases h
    exact jF _ _ J<|aj.lq [] J J J
  ·refine ab.exit J<|have h:=bZ h ek;aL<|rM J J<|rA J J<|rN<|ab.ret<|?_
   cases h
   exact hP J J
theorem lv [GI:bU] {aa ai:Version} {r:Int} (h:fH aa ai=some r):Pu Tryz.prog 88 [Version.av aa,Version.av ai] (I r):=by
 unfold fH at h
 refine aR.bI Tryz.func88 J Tryz.ntmps88 Tryz.results88 J J ?_
 refine aL<|dh J J J J fun b1=>dh J J J J fun b2=>rA J J<|rN<|tS<|ab.dv (id:=1) (A:=[0,1,0,4,15,0,32,0,128,511,0,1024,0,4096,16383,32767,65535,131071]) 18 mixed J (by kernel_rfl) (by kernel_rfl)<|AM.qv (ax J J) J<|AM.qv (aM J J .p1 J) J<|AM.qv (ax J J) J<|AM.qv (aM J J .p0 J) J<|AM.gM J (fh J) cR J<|AM.qv (ax J J) J<|AM.qv (aM J J .p1 J) J<|AM.qv (ax J J) J<|AM.qv (aM J J .p0 J) J<|AM.gM J (fh J) cR J<|AM.qv (ax J J) J<|AM.qv (aM J J .p1 J) J<|AM.qv (ax J J) J<|AM.qv (aM J J .p0 J) J<|AM.gM J (fh J) cR J<|AM.cI (xs:=([(cmp_Compare_int aa.aA ai.aA),(cmp_Compare_int aa.aD ai.aD),(cmp_Compare_int aa.aF ai.aF)]:List Int).map I) J J J J J J<|aK h fun v3 e1 h=>AM.gM J (uh e1) cR J<|AM.qv (bQ J) J<|AM.nil<|rN<|ab.ret<|?_
 cases h
 exact hP J J
theorem yu [GI:bU] {aa:Range} {ai:Version} {r:Bool} (h:ll aa ai=some r):Pu Tryz.prog 156 [Range.av aa,.ch [I ai.aA,I ai.aD,I ai.aF]] (.bool r):=by
 unfold ll at h
 refine aR.bI Tryz.func156 J Tryz.ntmps156 Tryz.results156 J J ?_
 refine aL<|dh J J J J fun b1=>rA J J<|rN<|tS<|ab.cut (fun aJ=>∃ (c2:Bool),ja c2=some r∧aJ=⟨16,[(3,.bool c2)],[]⟩) ?_ ?_
 ·refine tR<|rF J J J<|ae.qv (aP J J .p0 J J) J<|ae.qv (aO J J J) J<|aK h fun v3 e1 h=>ba J (lv e1) cR J<|ae.qv (qM J J) J<|rM J J<|gT h J J J (fun h=>?_) (fun h=>?_)
  ·exact ae.qv (aO J J J) J<|rY J J J<|rF J J J<|rY J J J<|ae.qv (aP J J .p0 J J) J<|rY J J J<|aK h fun v4 e2 h=>ba J (lv e2) cR J<|rY J J J<|ae.qv (qM J J) J<|rT J J J<|rA J J<|rN<|ab.stop<|aj.lq [] ⟨decide (v4≤0),h,J⟩ J J
  ·exact rG J J J J<|rG J J J J<|rG J J J J<|rG J J J J<|rE J J J<|rA J J<|rN<|ab.stop<|aj.lq [] ⟨false,h,J⟩ J J
 ·rintro aJ ⟨c2,h,rfl⟩
  unfold ja at h
  refine ab.ret<|?_
  cases h
  exact hP J J
theorem sK [GI:bU] {aa:List Range} {iD:Range→Option Bool} {dY:FuncId} [bN Tryz.prog dY] {gq:List AV} (oc:∀ {y0:_} {u:Bool},iD y0=some u→Pu Tryz.prog dY (Range.av y0 :: gq) (.bool u)) {r:Int} (h:jT aa iD=some r):Pu Tryz.prog 167 [PR aa,.func (.func dY) gq] (I r):=by
 unfold jT at h
 refine aR.bI Tryz.func167 J Tryz.ntmps167 Tryz.results167 J J ?_
 refine aL<|rA J J<|rN<|tS<|aL<|rM J J<|ae.qv (cE J) J<|rM J J<|rN<|ab.block<|ab.cS (fun x:Int=>fw aa iD x) (fun x aJ=>aJ=⟨19,[(0,PR aa),(1,.func (.func dY) gq),(7,I (aa.length:Int)),(8,I x)],[]⟩) h ?_ ?_
 ·exact aj.lq [] J J J
 ·intro n2 z1 aJ J1 ep h jF ek
  obtain rfl:=ep
  replace h:fw aa iD n2=some z1:=h
  unfold fw at h
  refine aL<|ae.qv (bT J J) J<|rN<|tS<|cD h J (fun h=>?_) (fun h=>?_)
  ·refine tK<|tS<|ab.block<|aL<|rM J J<|rA J J<|rN<|aL<|rM J J<|rM J J<|rM J J<|aK h fun v3 e1 h=>ae.qv (bH J J J e1 J J) J<|ae.qv (aO J J J) J<|aK h fun v4 e2 h=>tn J J (oc e2) cR J<|rN<|cB h J (fun h=>?_) (fun h=>?_)
   ·refine aL<|rM J J<|rA J J<|rN<|ab.ret<|have h:=bZ h ek;?_
    cases h
    exact hP J J
   ·refine tK<|ab.cH<|tR<|ae.qv (br J J) J<|rM J J<|rN<|ab.stop<|?_
    cases h
    exact jF _ _ J<|aj.lq [] J J J
  ·refine ab.exit J<|have h:=bZ h ek;aL<|rA J J<|rN<|ab.ret<|?_
   cases h
   exact hP J J
theorem lH [GI:bU] {aa:List Range} {iD:Range→Option Bool} {dY:FuncId} [bN Tryz.prog dY] {gq:List AV} (oc:∀ {y0:_} {u:Bool},iD y0=some u→Pu Tryz.prog dY (Range.av y0 :: gq) (.bool u)) {r:Bool} (h:dU aa iD=some r):Pu Tryz.prog 131 [PR aa,.func (.func dY) gq] (.bool r):=by
 unfold dU at h
 refine aR.bI Tryz.func131 J Tryz.ntmps131 Tryz.results131 J J ?_
 refine aL<|rA J J<|rN<|aL<|rM J J<|rM J J<|aK h fun v1 e1 h=>gO J (sK oc e1) (.cons (.co (.refl _)) (.cons (.co (.refl _)) .nil)) J J<|ae.qv (nP J J) J<|rA J J<|rN<|ab.ret<|?_
 cases h
 exact hP J J
theorem vA [GI:bU] {aa:ak} {ai:Version} {r:Bool} (h:jU aa ai=some r):Pu Tryz.prog 123 [ak.av aa,Version.av ai] (.bool r):=by
 unfold jU at h
 refine aR.bI Tryz.func123 J Tryz.ntmps123 Tryz.results123 J J ?_
 refine aL<|dh J J J J fun b1=>dh J J J J fun b2=>rA J J<|rN<|aL<|rF J J J<|rL J J .p1 J J<|ae.qv (mg J) J<|aK h fun v3 e1 h=>gO J (lH (fun e=>yu e) e1) (.cons (.co (.refl _)) (.cons (.AB _ _ _ (.cons (.xG _ _ _ .p0 (.cons (.co (.refl _)) (.cons (.co (.refl _)) (.cons (.co (.refl _)) .nil)))) .nil)) .nil)) J J<|rA J J<|rN<|ab.ret<|?_
 cases h
 exact hP J J
theorem xe [GI:bU] {aa:ak} {r:Int} (h:fC aa=some r):Pu Tryz.prog 89 [ak.av aa] (I r):=by
 unfold fC at h
 refine aR.bI Tryz.func89 J Tryz.ntmps89 Tryz.results89 J J ?_
 refine aL<|dh J J J J fun b1=>rA J J<|rN<|tS<|aL<|rF J J J<|rL J J .p0 J J<|ae.qv (cE J) J<|ae.qv (eB J J) J<|rN<|cD h J (fun h=>?_) (fun h=>?_)
 ·refine aL<|rA J J<|rN<|ab.ret<|?_
  cases h
  exact hP J J
 ·refine tK<|tS<|aL<|rF J J J<|rL J J .p0 J J<|ae.qv (cE J) J<|rM J J<|rN<|ab.block<|ab.cS (fun x:Int=>fo aa x) (fun x aJ=>aJ=⟨57,[(1,.ptr b1 0),(10,PR aa.bF),(11,I (aa.bF.length:Int)),(12,I x)],[(b1,.cells (Eh aa))]⟩) h ?_ ?_
  ·exact aj.lq [0] J J J
  ·intro n3 z1 aJ J1 ep h jF ek
   obtain rfl:=ep
   replace h:fo aa n3=some z1:=h
   unfold fo at h
   refine aL<|ae.qv (bT J J) J<|rN<|tS<|cD h J (fun h=>?_) (fun h=>?_)
   ·refine tK<|tS<|ab.block<|aL<|rM J J<|aK h fun v4 e1 h=>ae.qv (bH J J J e1 J J) J<|ae.qv (aO J J J) J<|bA J J J J fun b5=>rA J J<|ar J J J J .p0 J J<|rN<|ab.block<|tS<|ab.cut (fun aJ=>∃ (c6:Bool),di aa n3 v4 c6=some z1∧aJ=⟨57,[(1,.ptr b1 0),(3,I n3),(4,.ptr b5 0),(10,PR aa.bF),(11,I (aa.bF.length:Int)),(12,I n3),(17,.bool c6)],[(b1,.cells (Eh aa)),(b5,.cells (cE4 v4))]⟩) ?_ ?_
    ·refine tR<|rF J J J<|ae.qv (aP J J .p0 J J) J<|ba J (nq J) cR J<|ae.qv (cV J) J<|rM J J<|ae.guard J J J (fun hc=>?_) (fun hc=>?_)
     ·refine have h:=sn hc h;rF J J J<|rY J J J<|ae.qv (aP J J .p0 J J) J<|rY J J J<|ba J (nq J) cR J<|rY J J J<|ae.qv (cV J) J<|rE J J J<|rM J J<|ae.guard J J J (fun hc=>?_) (fun hc=>?_)
      ·exact have h:=sn hc h;rF J J J<|rY J J J<|ae.qv (aP J J .p0 J J) J<|rY J J J<|rF J J J<|rY J J J<|ae.qv (aP J J .p0 J J) J<|rY J J J<|aK h fun v7 e2 h=>ba J (lv e2) cR J<|rY J J J<|ae.qv (eB J J) J<|rE J J J<|rA J J<|rN<|ab.stop<|aj.lq [1,0] ⟨decide (0 < v7),h,J⟩ J J
      ·exact have h:=pN hc h;rG J J J J<|rG J J J J<|rG J J J J<|rG J J J J<|rG J J J J<|rT J J J<|rA J J<|rN<|ab.stop<|aj.lq [1,0] ⟨true,h,J⟩ J J
     ·exact have h:=pN hc h;rG J J J J<|rG J J J J<|rG J J J J<|rT J J J<|rM J J<|rG J J J J<|rG J J J J<|rG J J J J<|rG J J J J<|rG J J J J<|rG J J J J<|rT J J J<|rA J J<|rN<|ab.stop<|aj.lq [1,0] ⟨true,h,J⟩ J J
    ·rintro aJ ⟨c6,h,rfl⟩
     unfold di at h
     refine cB h J (fun h=>?_) (fun h=>?_)
     ·refine aL<|rA J J<|rN<|ab.ret<|have h:=bZ h ek;?_
      cases h
      exact hP J J
     ·refine tS<|ab.cut (fun aJ=>∃ (c8:Bool),fk n3 c8=some z1∧aJ=⟨57,[(1,.ptr b1 0),(10,PR aa.bF),(11,I (aa.bF.length:Int)),(12,I n3),(36,.bool c8)],[(b1,.cells (Eh aa))]⟩) ?_ ?_
      ·refine ab.dv (id:=8) (A:=[0,1,3,7,15,7,39,7,135,487,999,2023,4095,8191,16383,32767]) 16 mixed J (by kernel_rfl) (by kernel_rfl)<|AM.qv (aT J) J<|AM.qv (eB J J) J<|AM.qv (aT J) J<|AM.dJ J J J (fun hc=>?_) (fun hc=>?_)
       ·exact have h:=pN hc h;AM.qv (ax J J) J<|AM.ay J J J<|AM.qv (aP J J .p1 J J) J<|AM.ay J J J<|AM.qv (ax J J) J<|AM.ay J J J<|AM.qv (aM J J .p0 J) J<|AM.ay J J J<|AM.qv (aT J) J<|AM.ay J J J<|AM.qv (fy J J) J<|AM.ay J J J<|aK h fun v9 e3 h=>AM.qv (bH J J J e3 J J) J<|AM.ay J J J<|AM.qv (bq J J) J<|AM.ay J J J<|AM.qv (aO J J J) J<|AM.ay J J J<|aK h fun v10 e4 h=>AM.gM J (lv e4) cR J<|AM.ay J J J<|AM.qv (qM J J) J<|AM.qv (gx J J) J<|AM.qv (bQ J) J<|AM.nil<|rN<|ab.stop<|aj.lq [0] ⟨decide (v10≤0),h,J⟩ J J
       ·exact have h:=AD hc h;AM.au J J J J<|AM.au J J J J<|AM.au J J J J<|AM.au J J J J<|AM.au J J J J<|AM.au J J J J<|AM.au J J J J<|AM.au J J J J<|AM.au J J J J<|AM.au J J J J<|AM.qv (eA J J) J<|AM.qv (bQ J) J<|AM.nil<|rN<|ab.stop<|aj.lq [0] ⟨false,h,J⟩ J J
      ·rintro aJ ⟨c8,h,rfl⟩
       unfold fk at h
       refine cB h J (fun h=>?_) (fun h=>?_)
       ·refine aL<|rA J J<|rN<|ab.ret<|have h:=bZ h ek;?_
        cases h
        exact hP J J
       ·refine tK<|ab.cH<|ab.cH<|tR<|ae.qv (br J J) J<|rM J J<|rN<|ab.stop<|?_
        cases h
        exact jF _ _ J<|aj.lq [0] J J J
   ·refine ab.exit J<|have h:=bZ h ek;?_
    unfold jK at h
    refine tS<|aL<|ae.qv (aG J J .p0 J) J<|rF J J J<|ae.qv (aP J J .p0 J J) J<|aK h fun v11 e5 h=>ba J (vA e5) cR J<|rN<|cB h J (fun h=>?_) (fun h=>?_)
    ·refine aL<|rA J J<|rN<|ab.ret<|?_
     cases h
     exact hP J J
    ·refine tK<|aL<|rA J J<|rN<|ab.ret<|?_
     cases h
     exact hP J J
theorem xf [GI:bU] {aa:List ak} {r:Int} (h:er aa=some r):Pu Tryz.prog 44 [o8 aa] (I r):=by
 unfold er at h
 refine aR.bI Tryz.func44 J Tryz.ntmps44 Tryz.results44 J J ?_
 refine aL<|rA J J<|rN<|tS<|aL<|rM J J<|ae.qv (cE J) J<|ae.qv (eB J J) J<|rN<|cD h J (fun h=>?_) (fun h=>?_)
 ·refine aL<|rA J J<|rN<|ab.ret<|?_
  cases h
  exact hP J J
 ·refine tK<|tS<|aL<|rM J J<|ae.qv (cE J) J<|rM J J<|rN<|ab.block<|ab.cS (fun x:Int=>fq aa x) (fun x aJ=>aJ=⟨81,[(0,o8 aa),(11,o8 aa),(12,I (aa.length:Int)),(13,I x)],[]⟩) h ?_ ?_
  ·exact aj.lq [] J J J
  ·intro n2 z1 aJ J1 ep h jF ek
   obtain rfl:=ep
   replace h:fq aa n2=some z1:=h
   unfold fq at h
   refine aL<|ae.qv (bT J J) J<|rN<|tS<|cD h J (fun h=>?_) (fun h=>?_)
   ·refine tK<|tS<|ab.block<|aL<|rM J J<|aK h fun v3 e1 h=>ae.qv (bH J J J e1 J J) J<|ae.qv (aO J J J) J<|bA J J J J fun b4=>rA J J<|ar J J J J .p0 J J<|rN<|tS<|ab.block<|aL<|rF J J J<|ae.qv (aP J J .p0 J J) J<|ba J (nq J) cR J<|ae.qv (cV J) J<|rA J J<|rN<|cB h J (fun h=>?_) (fun h=>?_)
    ·refine aL<|rA J J<|rN<|ab.ret<|have h:=bZ h ek;?_
     cases h
     exact hP J J
    ·refine tS<|ab.cut (fun aJ=>∃ (c5:Bool),dE n2 v3 c5=some z1∧aJ=⟨81,[(0,o8 aa),(4,.ptr b4 0),(11,o8 aa),(12,I (aa.length:Int)),(13,I n2),(23,.bool c5)],[(b4,.cells (Eh v3))]⟩) ?_ ?_
     ·refine ab.dv (id:=8) (A:=[0,1,3,7,15,7,7,71,231,487,999,2047,4095,8191,16383]) 15 mixed J (by kernel_rfl) (by kernel_rfl)<|AM.qv (aT J) J<|AM.qv (eB J J) J<|AM.qv (aT J) J<|AM.dJ J J J (fun hc=>?_) (fun hc=>?_)
      ·exact have h:=pN hc h;AM.qv (ax J J) J<|AM.ay J J J<|AM.qv (aP J J .p0 J J) J<|AM.ay J J J<|AM.qv (aT J) J<|AM.ay J J J<|AM.qv (aT J) J<|AM.ay J J J<|AM.qv (fy J J) J<|AM.ay J J J<|aK h fun v6 e2 h=>AM.qv (bH J J J e2 J J) J<|AM.ay J J J<|AM.qv (bq J J) J<|AM.ay J J J<|AM.qv (kJ J J J J) J<|AM.ay J J J<|aK h fun v7 e3 h=>AM.gM J (lv e3) cR J<|AM.ay J J J<|AM.qv (qM J J) J<|AM.qv (gx J J) J<|AM.qv (bQ J) J<|AM.nil<|rN<|ab.stop<|aj.lq [0] ⟨decide (v7≤0),h,J⟩ J J
      ·exact have h:=AD hc h;AM.au J J J J<|AM.au J J J J<|AM.au J J J J<|AM.au J J J J<|AM.au J J J J<|AM.au J J J J<|AM.au J J J J<|AM.au J J J J<|AM.au J J J J<|AM.qv (eA J J) J<|AM.qv (bQ J) J<|AM.nil<|rN<|ab.stop<|aj.lq [0] ⟨false,h,J⟩ J J
     ·rintro aJ ⟨c5,h,rfl⟩
      unfold dE at h
      refine cB h J (fun h=>?_) (fun h=>?_)
      ·refine aL<|rA J J<|rN<|ab.ret<|have h:=bZ h ek;?_
       cases h
       exact hP J J
      ·refine aL<|rF J J J<|rL J J .p0 J J<|ae.qv (cE J) J<|ae.qv (dt J J) J<|rA J J<|rN<|cD h J (fun h=>?_) (fun h=>?_)
       ·refine aL<|rA J J<|rN<|ab.ret<|have h:=bZ h ek;?_
        cases h
        exact hP J J
       ·refine aL<|rF J J J<|rL J J .p0 J J<|ae.qv (cE J) J<|ae.qv (eB J J) J<|rA J J<|rN<|cD h J (fun h=>?_) (fun h=>?_)
        ·refine aL<|rA J J<|rN<|ab.ret<|have h:=bZ h ek;?_
         cases h
         exact hP J J
        ·refine tK<|ab.cH<|tS<|aL<|rF J J J<|rL J J .p0 J J<|ae.qv (cE J) J<|rM J J<|rN<|ab.block<|ab.cS (fun x:Int=>fp n2 v3 x) (fun x aJ=>aJ=⟨81,[(0,o8 aa),(4,.ptr b4 0),(11,o8 aa),(12,I (aa.length:Int)),(13,I n2),(49,vz v3.df),(50,I (v3.df.length:Int)),(51,I x)],[(b4,.cells (Eh v3))]⟩) h ?_ ?_
         ·exact aj.lq [0] J J J
         ·intro n9 z2 aJ J2 ep h zm xd
          obtain rfl:=ep
          replace h:fp n2 v3 n9=some z2:=h
          unfold fp at h
          refine aL<|ae.qv (bT J J) J<|rN<|tS<|cD h J (fun h=>?_) (fun h=>?_)
          ·refine tK<|tS<|ab.block<|aL<|rM J J<|aK h fun v10 e4 h=>ae.qv (bH J J J e4 J J) J<|ae.qv (aS J J J) J<|rA J J<|rA J J<|rN<|tS<|aL<|rM J J<|aK h fun v11 e5 h=>ba J (uN e5) cR J<|ae.qv (cV J) J<|rN<|cB h J (fun h=>?_) (fun h=>?_)
           ·refine aL<|rA J J<|rN<|ab.ret<|have h:=bZ h xd;have h:=bZ h ek;?_
            cases h
            exact hP J J
           ·refine tK<|tS<|ab.cut (fun aJ=>∃ (c12:Bool),ef n9 c12=some z2∧aJ=⟨81,[(0,o8 aa),(4,.ptr b4 0),(11,o8 aa),(12,I (aa.length:Int)),(13,I n2),(49,vz v3.df),(50,I (v3.df.length:Int)),(51,I n9),(70,.bool c12)],[(b4,.cells (Eh v3))]⟩) ?_ ?_
            ·refine tR<|rM J J<|ae.qv (eB J J) J<|rM J J<|gT h J J J (fun h=>?_) (fun h=>?_)
             ·exact rM J J<|rY J J J<|rF J J J<|rY J J J<|rL J J .p0 J J<|rY J J J<|rM J J<|rY J J J<|ae.qv (fy J J) J<|rY J J J<|aK h fun lF e6 h=>ae.qv (bH J J J e6 J J) J<|rY J J J<|ae.qv (aS J J J) J<|rY J J J<|ae.qv (GY J J) J<|rT J J J<|rN<|ab.stop<|aj.lq [0] ⟨Op.bytesLess v10 lF||v10==lF,h,J⟩ J J
             ·exact rG J J J J<|rG J J J J<|rG J J J J<|rG J J J J<|rG J J J J<|rG J J J J<|rG J J J J<|rE J J J<|rN<|ab.stop<|aj.lq [0] ⟨false,h,J⟩ J J
            ·rintro aJ ⟨c12,h,rfl⟩
             unfold ef at h
             refine cB h J (fun h=>?_) (fun h=>?_)
             ·refine aL<|rA J J<|rN<|ab.ret<|have h:=bZ h xd;have h:=bZ h ek;?_
              cases h
              exact hP J J
             ·refine tK<|ab.cH<|tR<|ae.qv (br J J) J<|rM J J<|rN<|ab.stop<|?_
              cases h
              exact zm _ _ J<|aj.lq [0] J J J
          ·refine ab.exit J<|have h:=bZ h xd;?_
           unfold jL at h
           refine tS<|aL<|ae.qv (aG J J .p0 J) J<|aK h fun sT e7 h=>ba J (xe e7) cR J<|rA J J<|rN<|aL<|rM J J<|ae.qv (pH J J) J<|rN<|cD h J (fun h=>?_) (fun h=>?_)
           ·refine aL<|rM J J<|rA J J<|rN<|ab.ret<|have h:=bZ h ek;?_
            cases h
            exact hP J J
           ·refine tK<|aL<|rF J J J<|rL J J .p0 J J<|ba J (iB J) cR J<|rN<|cB h J (fun h=>?_) (fun h=>?_)
            ·refine aL<|rA J J<|rN<|ab.ret<|have h:=bZ h ek;?_
             cases h
             exact hP J J
            ·refine tK<|ab.cH<|tR<|ae.qv (br J J) J<|rM J J<|rN<|ab.stop<|?_
             cases h
             exact jF _ _ J<|aj.lq [] J J J
   ·refine ab.exit J<|have h:=bZ h ek;aL<|rA J J<|rN<|ab.ret<|?_
    cases h
    exact hP J J
theorem xP [GI:bU] {aa:List DeviceS} {r:Int} (h:jZ aa=some r):Pu Tryz.prog 45 [pI aa] (I r):=by
 unfold jZ at h
 refine aR.bI Tryz.func45 J Tryz.ntmps45 Tryz.results45 J J ?_
 refine aL<|rA J J<|rN<|tS<|aL<|rM J J<|ae.qv (cE J) J<|ae.qv (eB J J) J<|rN<|cD h J (fun h=>?_) (fun h=>?_)
 ·refine aL<|rA J J<|rN<|ab.ret<|?_
  cases h
  exact hP J J
 ·refine tK<|tS<|aL<|rM J J<|ae.qv (cE J) J<|rM J J<|rN<|ab.block<|ab.cS (fun x:Int=>dN aa x) (fun x aJ=>aJ=⟨57,[(0,pI aa),(8,pI aa),(9,I (aa.length:Int)),(10,I x)],[]⟩) h ?_ ?_
  ·exact aj.lq [] J J J
  ·intro n2 z1 aJ J1 ep h jF ek
   obtain rfl:=ep
   replace h:dN aa n2=some z1:=h
   unfold dN at h
   refine aL<|ae.qv (bT J J) J<|rN<|tS<|cD h J (fun h=>?_) (fun h=>?_)
   ·refine tK<|tS<|ab.block<|aL<|rM J J<|aK h fun v3 e1 h=>ae.qv (bH J J J e1 J J) J<|ae.qv (aO J J J) J<|bA J J J J fun b4=>rA J J<|ar J J J J .p0 J J<|rN<|ab.block<|tS<|ab.cut (fun aJ=>∃ (c5:Bool),ey aa n2 v3 c5=some z1∧aJ=⟨57,[(0,pI aa),(3,I n2),(4,.ptr b4 0),(8,pI aa),(9,I (aa.length:Int)),(10,I n2),(15,.bool c5)],[(b4,.cells (Rv v3))]⟩) ?_ ?_
    ·refine tR<|rF J J J<|rL J J .p0 J J<|aK h fun v6 e2 h=>ba J (uN e2) cR J<|ae.qv (cV J) J<|rM J J<|ae.guard J J J (fun hc=>?_) (fun hc=>?_)
     ·refine have h:=sn hc h;rF J J J<|rY J J J<|rL J J .p0 J J<|rY J J J<|aK h fun v7 e3 h=>ba J (uN e3) cR J<|rY J J J<|ae.qv (cV J) J<|rE J J J<|rM J J<|ae.guard J J J (fun hc=>?_) (fun hc=>?_)
      ·exact have h:=sn hc h;rF J J J<|rY J J J<|rL J J .p0 J J<|rY J J J<|aK h fun v8 e4 h=>ba J (uN e4) cR J<|rY J J J<|ae.qv (cV J) J<|rE J J J<|rA J J<|rN<|ab.stop<|aj.lq [0] ⟨!v8,h,J⟩ J J
      ·exact have h:=pN hc h;rG J J J J<|rG J J J J<|rG J J J J<|rT J J J<|rA J J<|rN<|ab.stop<|aj.lq [0] ⟨true,h,J⟩ J J
     ·exact have h:=pN hc h;rG J J J J<|rG J J J J<|rG J J J J<|rT J J J<|rM J J<|rG J J J J<|rG J J J J<|rG J J J J<|rG J J J J<|rT J J J<|rA J J<|rN<|ab.stop<|aj.lq [0] ⟨true,h,J⟩ J J
    ·rintro aJ ⟨c5,h,rfl⟩
     unfold ey at h
     refine cB h J (fun h=>?_) (fun h=>?_)
     ·refine aL<|rA J J<|rN<|ab.ret<|have h:=bZ h ek;?_
      cases h
      exact hP J J
     ·refine tS<|ab.cut (fun aJ=>∃ (c9:Bool),dM n2 v3 c9=some z1∧aJ=⟨57,[(0,pI aa),(4,.ptr b4 0),(8,pI aa),(9,I (aa.length:Int)),(10,I n2),(32,.bool c9)],[(b4,.cells (Rv v3))]⟩) ?_ ?_
      ·refine ab.dv (id:=8) (A:=[0,1,3,7,15,7,7,71,231,487,999,2047,4095,8191]) 14 mixed J (by kernel_rfl) (by kernel_rfl)<|AM.qv (aT J) J<|AM.qv (eB J J) J<|AM.qv (aT J) J<|AM.dJ J J J (fun hc=>?_) (fun hc=>?_)
       ·exact have h:=pN hc h;AM.qv (ax J J) J<|AM.ay J J J<|AM.qv (aM J J .p0 J) J<|AM.ay J J J<|AM.qv (aT J) J<|AM.ay J J J<|AM.qv (aT J) J<|AM.ay J J J<|AM.qv (fy J J) J<|AM.ay J J J<|aK h fun v10 e5 h=>AM.qv (bH J J J e5 J J) J<|AM.ay J J J<|AM.qv (bq J J) J<|AM.ay J J J<|AM.qv (aS J J J) J<|AM.ay J J J<|AM.qv (GY J J) J<|AM.qv (gx J J) J<|AM.qv (bQ J) J<|AM.nil<|rN<|ab.stop<|aj.lq [0] ⟨Op.bytesLess v3.Key v10.Key||v3.Key==v10.Key,h,J⟩ J J
       ·exact have h:=AD hc h;AM.au J J J J<|AM.au J J J J<|AM.au J J J J<|AM.au J J J J<|AM.au J J J J<|AM.au J J J J<|AM.au J J J J<|AM.au J J J J<|AM.qv (eA J J) J<|AM.qv (bQ J) J<|AM.nil<|rN<|ab.stop<|aj.lq [0] ⟨false,h,J⟩ J J
      ·rintro aJ ⟨c9,h,rfl⟩
       unfold dM at h
       refine cB h J (fun h=>?_) (fun h=>?_)
       ·refine aL<|rA J J<|rN<|ab.ret<|have h:=bZ h ek;?_
        cases h
        exact hP J J
       ·refine aL<|rF J J J<|ae.qv (aP J J .p0 J J) J<|ba J (nq J) cR J<|ae.qv (cV J) J<|rA J J<|rN<|cB h J (fun h=>?_) (fun h=>?_)
        ·refine aL<|rA J J<|rN<|ab.ret<|have h:=bZ h ek;?_
         cases h
         exact hP J J
        ·refine aL<|rF J J J<|rL J J .p0 J J<|ae.qv (cE J) J<|ae.qv (eB J J) J<|rA J J<|rN<|cD h J (fun h=>?_) (fun h=>?_)
         ·refine aL<|rA J J<|rN<|ab.ret<|have h:=bZ h ek;?_
          cases h
          exact hP J J
         ·refine tK<|ab.cH<|ab.cH<|tR<|ae.qv (br J J) J<|rM J J<|rN<|ab.stop<|?_
          cases h
          exact jF _ _ J<|aj.lq [] J J J
   ·refine ab.exit J<|have h:=bZ h ek;aL<|rA J J<|rN<|ab.ret<|?_
    cases h
    exact hP J J
theorem Hf [GI:bU] {aa:List Int} {r:Int} (h:xa aa=some r):Pu Tryz.prog 42 [gg aa] (I r):=by
 unfold xa at h
 refine aR.bI Tryz.func42 J Tryz.ntmps42 Tryz.results42 J J ?_
 refine aL<|rA J J<|rN<|tS<|aL<|rM J J<|ae.qv (cE J) J<|rM J J<|rN<|ab.block<|ab.cS (fun x:Int=>sV aa x) (fun x aJ=>aJ=⟨15,[(5,gg aa),(6,I (aa.length:Int)),(7,I x)],[]⟩) h ?_ ?_
 ·exact aj.lq [] J J J
 ·intro n2 z1 aJ J1 ep h jF ek
  obtain rfl:=ep
  replace h:sV aa n2=some z1:=h
  unfold sV at h
  refine aL<|ae.qv (bT J J) J<|rN<|tS<|cD h J (fun h=>?_) (fun h=>?_)
  ·refine tK<|tS<|ab.block<|aL<|aK h fun v3 e1 h=>ae.qv (bH J J J e1 J J) J<|ae.qv (aS J J J) J<|rA J J<|rN<|aL<|rM J J<|ae.qv (pH J J) J<|rN<|cD h J (fun h=>?_) (fun h=>?_)
   ·refine aL<|rM J J<|rA J J<|rN<|ab.ret<|have h:=bZ h ek;?_
    cases h
    exact hP J J
   ·refine tK<|ab.cH<|tR<|ae.qv (br J J) J<|rM J J<|rN<|ab.stop<|?_
    cases h
    exact jF _ _ J<|aj.lq [] J J J
  ·refine ab.exit J<|have h:=bZ h ek;aL<|rA J J<|rN<|ab.ret<|?_
   cases h
   exact hP J J
theorem Fk [GI:bU] {aa:eQ} {r:Bool} (h:tv aa=r):Pu Tryz.prog 73 [eQ.av aa] (.bool r):=by
 unfold tv at h
 refine aR.bI Tryz.func73 J Tryz.ntmps73 Tryz.results73 J J ?_
 refine aL<|dh J J J J fun b1=>rA J J<|rN<|tS<|ab.cut (fun aJ=>∃ (c2:Bool),rD c2=r∧aJ=⟨14,[(2,.bool c2)],[]⟩) ?_ ?_
 ·refine tR<|rF J J J<|rL J J .p0 J J<|rF J J J<|rL J J .p0 J J<|ba J (iB J) cR J<|ae.qv (cV J) J<|rM J J<|ae.guard J J J (fun hc=>?_) (fun hc=>?_)
  ·rw [DE hc] at h
   exact rF J J J<|rY J J J<|rL J J .p0 J J<|rY J J J<|ae.qv (qM J J) J<|rT J J J<|rA J J<|rN<|ab.stop<|aj.lq [] ⟨decide (aa.To≤345686400000),h,J⟩ J J
  ·rw [DF hc] at h
   exact rG J J J J<|rG J J J J<|rE J J J<|rA J J<|rN<|ab.stop<|aj.lq [] ⟨false,h,J⟩ J J
 ·rintro aJ ⟨c2,h,rfl⟩
  unfold rD at h
  refine ab.ret<|?_
  obtain rfl:=h
  exact hP J J
theorem Jc [GI:bU] {aa:List bj} {r:Int} (h:wq aa=some r):Pu Tryz.prog 126 [vz aa] (.int .u64 r):=by
 unfold wq at h
 refine aR.bI Tryz.func126 J Tryz.ntmps126 Tryz.results126 J J ?_
 refine aL<|rA J J<|rN<|aL<|rA J J<|rN<|tS<|aL<|rM J J<|ae.qv (cE J) J<|rM J J<|rN<|ab.block<|ab.cS (fun x:Int×Int=>nG aa x.1 x.2) (fun x aJ=>aJ=⟨33,[(3,.int .u64 x.1),(7,vz aa),(8,I (aa.length:Int)),(9,I x.2)],[]⟩) h ?_ ?_
 ·exact aj.lq [] J J J
 ·intro x z1 aJ J1 ep h jF ek
  obtain ⟨n3,n4⟩:=x
  obtain rfl:=ep
  replace h:nG aa n3 n4=some z1:=h
  unfold nG at h
  refine aL<|ae.qv (bT J J) J<|rN<|tS<|cD h J (fun h=>?_) (fun h=>?_)
  ·refine tK<|tS<|ab.block<|aL<|rM J J<|aK h fun v5 e1 h=>ae.qv (bH J J J e1 J J) J<|ae.qv (aS J J J) J<|rA J J<|rA J J<|rN<|tS<|aL<|rM J J<|ae.qv (eB J J) J<|rN<|ab.cut (fun aJ=>∃ (n6:Int),pn n4 v5 n6=some z1∧aJ=⟨33,[(3,.int .u64 n6),(5,.str v5),(7,vz aa),(8,I (aa.length:Int)),(9,I n4)],[]⟩) ?_ ?_
   ·refine cD h J (fun h=>?_) (fun h=>?_)
    ·exact tR<|rM J J<|ae.qv (uA J J) J<|rA J J<|rN<|ab.stop<|aj.lq [] ⟨IntKind.u64.wrap (n3 * 1099511628211),h,J⟩ J J
    ·exact tK<|ab.stop<|aj.lq [] ⟨n3,h,J⟩ J J
   ·rintro aJ ⟨n6,h,rfl⟩
    unfold pn at h
    refine aL<|rM J J<|ae.qv (og J) J<|rM J J<|rN<|ab.block<|ab.cS (fun x:Int×Int=>pk n4 v5 x.1 x.2) (fun x aJ=>aJ=⟨33,[(3,.int .u64 x.1),(5,.str v5),(7,vz aa),(8,I (aa.length:Int)),(9,I n4),(19,I (v5.length:Int)),(20,I x.2)],[]⟩) h ?_ ?_
    ·exact aj.lq [] J J J
    ·intro x z2 aJ J2 ep h zm xd
     obtain ⟨n9,n10⟩:=x
     obtain rfl:=ep
     replace h:pk n4 v5 n9 n10=some z2:=h
     unfold pk at h
     refine aL<|ae.qv (bT J J) J<|rN<|tS<|cD h J (fun h=>?_) (fun h=>?_)
     ·refine tK<|tS<|ab.block<|aL<|rM J J<|rA J J<|rN<|tR<|rM J J<|rM J J<|rM J J<|aK h fun BJ e2 h=>ae.qv (nv J J e2) J<|ae.qv (wW J) J<|ae.qv (LS J J) J<|ae.qv (uA J J) J<|rA J J<|rN<|ab.cH<|tR<|ae.qv (br J J) J<|rM J J<|rN<|ab.stop<|?_
      cases h
      exact zm _ _ J<|aj.lq [] J J J
     ·refine ab.exit J<|have h:=bZ h xd;ab.cH<|tR<|ae.qv (br J J) J<|rM J J<|rN<|ab.stop<|?_
      cases h
      exact jF _ _ J<|aj.lq [] J J J
  ·refine ab.exit J<|have h:=bZ h ek;aL<|rM J J<|rA J J<|rN<|ab.ret<|?_
   cases h
   exact hP J J
theorem uO [GI:bU] {aa:Campaign} {ai:bj} {r:Int} (h:nH aa ai=some r):Pu Tryz.prog 99 [.ch [.str aa.Key,I aa.Target.aA,I aa.Target.aD,I aa.Target.aF,I aa.At,oQ aa.aI,I aa.aZ.bF,I aa.aZ.To,I aa.Room],.str ai] (I r):=by
 unfold nH at h
 refine aR.bI Tryz.func99 J Tryz.ntmps99 Tryz.results99 J J ?_
 refine aL<|rA J J<|rN<|aL<|rM J J<|ae.qv (bL J) J<|ae.qv (bq J J) J<|ae.qv (aS J J J) J<|rM J J<|aW (xs:=([aa.Key,ai]:List bj).map AV.str) J J J J J J<|aK h fun v1 e1 h=>ba J (Jc e1) cR J<|rA J J<|rN<|aL<|rM J J<|rM J J<|ae.qv (Um J J (by decide)) J<|ae.qv (LS J J) J<|ae.qv (FB J J (by decide)) J<|ae.qv (wW J) J<|rA J J<|rN<|ab.ret<|?_
 cases h
 exact hP J J
theorem A5 [GI:bU] {aa:Campaign} {ai:bj} {r:Int} (h:gJ aa ai=some r):Pu Tryz.prog 91 [.ch [.str aa.Key,I aa.Target.aA,I aa.Target.aD,I aa.Target.aF,I aa.At,oQ aa.aI,I aa.aZ.bF,I aa.aZ.To,I aa.Room],.str ai] (I r):=by
 unfold gJ at h
 refine aR.bI Tryz.func91 J Tryz.ntmps91 Tryz.results91 J J ?_
 refine aL<|rA J J<|rN<|aL<|rM J J<|rM J J<|aK h fun v1 e1 h=>ba J (uO e1) cR J<|rA J J<|rA J J<|rN<|tS<|aL<|rM J J<|ae.qv (bL J) J<|ae.qv (bq J J) J<|ae.qv (aS J J J) J<|ae.qv (cE J) J<|rM J J<|rN<|ab.block<|ab.cS (fun x:Int×Int=>jf aa v1 x.1 x.2) (fun x aJ=>aJ=⟨37,[(0,.ch [.str aa.Key,I aa.Target.aA,I aa.Target.aD,I aa.Target.aF,I aa.At,oQ aa.aI,I aa.aZ.bF,I aa.aZ.To,I aa.Room]),(5,I v1),(6,I x.1),(15,oQ aa.aI),(16,I (aa.aI.length:Int)),(17,I x.2)],[]⟩) h ?_ ?_
 ·exact aj.lq [] J J J
 ·intro x z1 aJ J1 ep h jF ek
  obtain ⟨n4,n5⟩:=x
  obtain rfl:=ep
  replace h:jf aa v1 n4 n5=some z1:=h
  unfold jf at h
  refine aL<|ae.qv (bT J J) J<|rN<|tS<|cD h J (fun h=>?_) (fun h=>?_)
  ·refine tK<|tS<|ab.block<|aL<|rM J J<|aK h fun v6 e2 h=>ae.qv (bH J J J e2 J J) J<|ae.qv (aO J J J) J<|bA J J J J fun b7=>rA J J<|ar J J J J .p0 J J<|rN<|aL<|rM J J<|rF J J J<|rL J J .p0 J J<|ae.qv (br J J) J<|rA J J<|rN<|aL<|rM J J<|rM J J<|ae.qv (bT J J) J<|rN<|cD h J (fun h=>?_) (fun h=>?_)
   ·refine aL<|rM J J<|rA J J<|rN<|ab.ret<|have h:=bZ h ek;?_
    cases h
    exact hP J J
   ·refine tK<|ab.cH<|tR<|ae.qv (br J J) J<|rM J J<|rN<|ab.stop<|?_
    cases h
    exact jF _ _ J<|aj.lq [] J J J
  ·refine ab.exit J<|have h:=bZ h ek;aL<|rM J J<|ae.qv (bL J) J<|ae.qv (bq J J) J<|ae.qv (aS J J J) J<|ae.qv (cE J) J<|ae.qv (fy J J) J<|rA J J<|rN<|ab.ret<|?_
   cases h
   exact hP J J
theorem iC [GI:bU] {cJ cK:Bk} {aa:aB} {ai:aq} {r:Bool} (h:cj aa ai=r):Pu Tryz.prog 92 [.ch [.ch [.str aa.c_.Key,I aa.c_.Target.aA,I aa.c_.Target.aD,I aa.c_.Target.aF,I aa.c_.At,oQ aa.c_.aI,I aa.c_.aZ.bF,I aa.c_.aZ.To,I aa.c_.Room],.bV cJ,.bV cK,gg aa.open_,gg aa.bt,gg aa.aY,gg aa.aN,I aa.bf,I aa.cw],.ch [I ai.an.Kind,I ai.an.Since,I ai.an.Version.aA,I ai.an.Version.aD,I ai.an.Version.aF,I ai.an.ed,I ai.aX.aA,I ai.aX.aD,I ai.aX.aF]] (.bool r):=by
 unfold cj at h
 refine aR.bI Tryz.func92 J Tryz.ntmps92 Tryz.results92 J J ?_
 refine aL<|rA J J<|rN<|tS<|ab.dv (id:=1) (A:=[0,1,3,7,15,0,32,96,224,480,992,2016,4095,8191]) 14 mixed J (by kernel_rfl) (by kernel_rfl)<|AM.qv (aT J) J<|AM.qv (bL J) J<|AM.qv (bq J J) J<|AM.qv (bq J J) J<|AM.qv (kJ J J J J) J<|AM.qv (aT J) J<|AM.qv (bL J) J<|AM.qv (bq J J) J<|AM.qv (aS J J J) J<|AM.qv (bL J) J<|AM.qv (bq J J) J<|AM.qv (kJ J J J J) J<|AM.qv (DH (g:=Version.av) (X:=ai.an.Version) (Y:=aa.c_.Target) J J J J J) J<|AM.qv (bQ J) J<|AM.nil<|rN<|ab.ret<|?_
 obtain rfl:=h
 exact hP J J
theorem zo [GI:bU] {aa:Campaign} {ai:List DeviceS} {r:aB} (h:ir aa ai=some r):aR Tryz.prog 48 [.ch [.str aa.Key,I aa.Target.aA,I aa.Target.aD,I aa.Target.aF,I aa.At,oQ aa.aI,I aa.aZ.bF,I aa.aZ.To,I aa.Room],pI ai] [] (T10 (fun np PS PT PU PV Ei PW UE Lg PX=>[(np,.cells [.ch [.str aa.Key,I aa.Target.aA,I aa.Target.aD,I aa.Target.aF,I aa.At,oQ aa.aI,I aa.aZ.bF,I aa.aZ.To,I aa.Room],.bV PS,.bV PT,.sl 1 PU 0 r.open_.length,.sl 1 PV 0 r.bt.length,.sl 1 Ei 0 r.aY.length,.sl 1 PW 0 r.aN.length,I r.bf,I r.cw]),(PS,.mp (r.nw.map (fun e=>(AV.str e.1,(pA Lg) e.2)))),(PT,wT r.cL),(PU,dx r.open_),(PV,dx r.bt),(Ei,dx r.aY),(PW,dx r.aN),(UE,.cu (iK tc Lg PX r.kd))]) (fun np PS PT PU PV Ei PW UE Lg PX=>.ptr np 0)):=by
 unfold ir at h
 refine aR.iL ?_
 refine aR.bI Tryz.func48 J Tryz.ntmps48 Tryz.results48 J J ?_
 refine ab.ghost (aj.SE (kb:=tc) (fun b1 YA bs3=>aj.here ?_))
 refine aL<|rA J J<|rN<|aL<|rM J J<|ae.qv (bL J) J<|ae.qv (bq J J) J<|ae.qv (aS J J J) J<|ae.qv (cE J) J<|rA J J<|rN<|tS<|aK h fun l6 e1 h=>aK h fun l8 e2 h=>aK h fun l10 e3 h=>ab.lB (id:=2) (A:=[0,0,0,0,8,0,32,0,128,0,512,1536,3584,8191,16383,32767]) (H0:=[]) (HH:=fun β=>[((β 1),.mp (([]:List (bj×Int)).map (fun e=>(AV.str e.1,(pA YA) e.2)))),((β 2),wT []),((β 4),dx l6),((β 6),dx l8),((β 8),dx l10),(b1,.cu (iK tc YA bs3 ([]:List aq)))]) 13 mixed J (by kernel_rfl) (by kernel_rfl) [⟨some 1,none,[],fun b=>(b,.mp (([]:List (bj×Int)).map (fun e=>(AV.str e.1,(pA YA) e.2)))),none,[]⟩,⟨some 2,none,[],fun b=>(b,wT []),none,[]⟩,⟨some 4,none,[],fun b=>(b,dx l6),none,[]⟩,⟨some 6,none,[],fun b=>(b,dx l8),none,[]⟩,⟨some 8,none,[],fun b=>(b,dx l10),none,[]⟩] [1,2,4,6,8] J (by kernel_rfl) J .nil (fun _=>J)<|AT.am 1 J J<|AM.qv (aT J) J<|AM.nil<|AT.zU (V:=fun b=>.bV b) (Ti:=[]) (Pi:=fun b=>[(b,.mp (([]:List (bj×Int)).map (fun e=>(AV.str e.1,(pA YA) e.2))))]) (fun _=>J) (fun _=>J) (fun _ _=>J) J (fun _=>J) J J J ?_ ?_
 ·exact sw J fun b4=>ae.nil ⟨b4,_,J,J⟩
 refine AT.zU (V:=fun b=>.bV b) (Ti:=[]) (Pi:=fun b=>[(b,wT [])]) (fun _=>J) (fun _=>J) (fun _ _=>J) J (fun _=>J) J J J ?_ ?_
 ·exact sw J fun b5=>ae.nil ⟨b5,_,J,J⟩
 refine AT.am 1 J J<|AM.qv (aT J) J<|AM.nil<|AT.zU (V:=fun b=>.sl 1 b 0 l6.length) (Ti:=[]) (Pi:=fun b=>[(b,dx l6)]) (fun _=>J) (fun _=>J) (fun _ _=>J) J (fun _=>J) J J J ?_ ?_
 ·exact yg (g:=I) (Z:=0) J J J J J J J J J e1 fun b7=>ae.nil ⟨b7,_,J,J⟩
 refine AT.am 1 J J<|AM.qv (aT J) J<|AM.nil<|AT.zU (V:=fun b=>.sl 1 b 0 l8.length) (Ti:=[]) (Pi:=fun b=>[(b,dx l8)]) (fun _=>J) (fun _=>J) (fun _ _=>J) J (fun _=>J) J J J ?_ ?_
 ·exact yg (g:=I) (Z:=0) J J J J J J J J J e2 fun b9=>ae.nil ⟨b9,_,J,J⟩
 refine AT.am 1 J J<|AM.qv (aT J) J<|AM.nil<|AT.zU (V:=fun b=>.sl 1 b 0 l10.length) (Ti:=[]) (Pi:=fun b=>[(b,dx l10)]) (fun _=>J) (fun _=>J) (fun _ _=>J) J (fun _=>J) J J J ?_ ?_
 ·exact yg (g:=I) (Z:=0) J J J J J J J J J e3 fun De=>ae.nil ⟨De,_,J,J⟩
 refine AT.am 4 J J<|AM.qv (aT J) J<|AM.qv (bL J) J<|AM.qv (bq J J) J<|AM.qv (aS J J J) J<|AM.nil<|AT.xK (fun _=>J) fun β=>?_
 generalize β 1=b4
 generalize β 2=b5
 generalize β 4=b7
 generalize β 6=b9
 generalize β 8=De
 clear β
 refine ae.qv (dc J J J J J) J<|dh J J J J fun kB=>rA J J<|rN<|tS<|aL<|rM J J<|ae.qv (cE J) J<|rM J J<|rN<|ab.block<|ab.cS (fun x:(List aq)×(List (bj×Int))×(List (bj×Int))×(List Int)×Int=>gS aa ai l8 l10 x.1 x.2.1 x.2.2.1 x.2.2.2.1 x.2.2.2.2) (fun x aJ=>∃ (S8:Nat→Bk) (VP:Nat→Nat→Bk),aJ=⟨83,[(0,.ch [.str aa.Key,I aa.Target.aA,I aa.Target.aD,I aa.Target.aF,I aa.At,oQ aa.aI,I aa.aZ.bF,I aa.aZ.To,I aa.Room]),(6,.ptr kB 0),(30,pI ai),(31,I (ai.length:Int)),(32,I x.2.2.2.2)],[(b1,.cu (iK tc S8 VP x.1)),(kB,.cells [.ch [.str aa.Key,I aa.Target.aA,I aa.Target.aD,I aa.Target.aF,I aa.At,oQ aa.aI,I aa.aZ.bF,I aa.aZ.To,I aa.Room],.bV b4,.bV b5,.sl 1 b7 0 x.2.2.2.1.length,.sl 1 b9 0 l8.length,.sl 1 De 0 l10.length,.nil,I (-1:Int),I aa.At]),(b4,.mp (x.2.1.map (fun e=>(AV.str e.1,(pA S8) e.2)))),(b5,wT x.2.2.1),(b7,dx x.2.2.2.1),(b9,dx l8),(De,dx l10)]⟩) h ?_ ?_
 ·exact aj.lq [6,0,0,0,0,0,0] ⟨YA,bs3,J⟩ J J
 ·intro x z1 aJ J1 ep h jF ek
  obtain ⟨jS,xM,yY,x3,n26⟩:=x
  obtain ⟨S8,VP,rfl⟩:=ep
  replace h:gS aa ai l8 l10 jS xM yY x3 n26=some z1:=h
  unfold gS at h
  refine aL<|ae.qv (bT J J) J<|rN<|tS<|cD h J (fun h=>?_) (fun h=>?_)
  ·refine tK<|tS<|ab.block<|aL<|aK h fun nO e4 h=>ae.qv (bH J J J e4 J J) J<|ae.qv (aO J J J) J<|bA J J J J fun Jd=>ar J J J J .p0 J J<|rN<|aL<|rF J J J<|ae.qv (aP J J .p0 J J) J<|ae.qv (dc J J J J J) J<|ae.qv (dc J J J J J) J<|dh J J J J fun Ny=>rA J J<|rN<|tS<|aK h fun u30 e5 h=>ab.ghost (aj.SL (kb:=tc) (v:=(⟨(⟨0,0,nO.bR,0⟩:an),(⟨0,0,0⟩:Version)⟩:aq)) (s:=nbk []) (.cons .p0 .nil) J (fun _ _=>.p1) (fun xQ S9 abG YB=>aj.here ?_))
   refine ab.ghost<|aj.aaE (Yc abG e5) .p3<|aj.here<|ab.ghost<|aj.eqs (s:=40) (iI:=.ptr (xQ (jS.length:Int).toNat) 0) J (PC YB _)<|aj.here<|ab.ghost<|aj.eqs (s:=9) (iI:=.ptr (xQ (jS.length:Int).toNat) 0) J (PC YB _)<|aj.here<|aK h fun v33 e7 h=>ab.ghost (aj.Uz (k:=.str nO.Key) (fun _=>.p3) (fun VQ=>aj.here ?_))
   refine ab.lB (id:=7) (A:=[0,1,3,7,0,16,0,64,192,448,0,1024,0,0,0,16384,57344,123903,254975,521215,1048575,2097151,4194303]) (H0:=[(b4,.Gz (xM.map (fun e=>(AV.str e.1,(pA xQ) e.2))) VQ (.str nO.Key))]) (HH:=fun β=>[(b4,.mp ((ca xM nO.Key (jS.length:Int)).map (fun e=>(AV.str e.1,(pA xQ) e.2)))),(Jd,.cells (Rv nO)),(b1,.cu (iK tc xQ S9 (jS++[(⟨(⟨0,0,nO.bR,0⟩:an),(⟨0,0,0⟩:Version)⟩:aq)]))),(kB,.cells [.ch [.str aa.Key,I aa.Target.aA,I aa.Target.aD,I aa.Target.aF,I aa.At,oQ aa.aI,I aa.aZ.bF,I aa.aZ.To,I aa.Room],.bV b4,.bV b5,.sl 1 b7 0 x3.length,.sl 1 b9 0 l8.length,.sl 1 De 0 l10.length,.nil,I (-1:Int),I aa.At]),(b5,wT yY),(b7,dx x3),(b9,dx l8),(De,dx l10)]) 20 mixed J (by kernel_rfl) (by kernel_rfl) [⟨none,some 17,[],fun _=>(b4,.Gz (xM.map (fun e=>(AV.str e.1,(pA xQ) e.2))) VQ (.str nO.Key)),none,[]⟩,⟨some 17,some 19,[],fun _=>(b4,.Gz ((ca (tt xM) nO.Key (bh xM nO.Key)).map fun e=>(AV.str e.1,pQ xQ e.2)) VQ (.str nO.Key)),none,[]⟩,⟨some 19,none,[],fun _=>(b4,.mp ((ca xM nO.Key (jS.length:Int)).map (fun e=>(AV.str e.1,(pA xQ) e.2)))),none,[]⟩] [] J (by kernel_rfl) J (.cons .p3 .nil) (fun _=>J)<|AT.am 17 J J<|AM.qv (aT J) J<|AM.qv (az J) J<|AM.qv (ax J J) J<|AM.qv (aM J J .p2 J) J<|AM.qv (ax J J) J<|AM.qv (aM J J .p0 J) J<|AM.qv (aT J) J<|AM.qv (az J) J<|AM.qv (ax J J) J<|AM.qv (aM J J .p2 J) J<|AM.qv (ax J J) J<|AM.qv (aM J J .p0 J) J<|AM.qv (aT J) J<|AM.qv (aT J) J<|AM.qv (ax J J) J<|AM.qv (aM J J .p0 J) J<|AM.gM J (A5 e7) cR J<|AM.nil<|AT.CN (av:=.lM [pQ xQ (bh xM nO.Key),I ((VQ:Nat):Int)]) (Ti:=[(b4,.Gz (xM.map (fun e=>(AV.str e.1,(pA xQ) e.2))) VQ (.str nO.Key))]) (Pi:=[(b4,.Gz ((ca (tt xM) nO.Key (bh xM nO.Key)).map fun e=>(AV.str e.1,pQ xQ e.2)) VQ (.str nO.Key))]) (fun _=>J) (fun _=>J) (fun _=>J) J J J ?_ ?_
   ·exact IU (gk:=AV.str) (bo:=xQ) (M:=xM) (key:=nO.Key) J J J J .p0 J<|ae.nil ⟨_,J,J⟩
   refine AT.am 1 J J<|AM.qv (jG J J) J<|AM.nil<|AT.M9 (Ti:=[(b4,.Gz ((ca (tt xM) nO.Key (bh xM nO.Key)).map fun e=>(AV.str e.1,pQ xQ e.2)) VQ (.str nO.Key))]) (Pi:=[(b4,.mp ((ca xM nO.Key (jS.length:Int)).map (fun e=>(AV.str e.1,(pA xQ) e.2))))]) (fun _=>J) (fun _=>J) (fun _=>J) J J ?_ ?_
   ·exact Fa (kt:=9) (gk:=AV.str) (bo:=xQ) (M:=xM) (key:=nO.Key) (v':=(jS.length:Int)) J J J J .p0<|ae.nil ⟨_,J⟩
   refine AT.xK (fun _=>J) fun β=>ae.ghost<|aj.Uz (k:=.str nO.Key) (fun _=>.p4) fun amF=>aj.here<|aK h fun Ec e9 h=>D3 (gk:=AV.str) (gv:=I) (M:=yY) (key:=nO.Key) (Z:=0) (v:=Ec) J J J J J e9 .p4 J<|rX J J J<|AS (kt:=9) (gk:=AV.str) (gv:=I) (M:=yY) (key:=nO.Key) (v:=Ec) (v':=v33) J J J J .p4<|rN<|aL<|rM J J<|rM J J<|gO J (iC (J:cj (⟨aa,ca xM nO.Key (jS.length:Int),ca yY nO.Key v33,x3,l8,l10,[],(-1:Int),aa.At,jS++[(⟨(⟨0,0,nO.bR,0⟩:an),(⟨0,0,0⟩:Version)⟩:aq)]⟩:aB) (⟨(⟨0,0,nO.bR,0⟩:an),(⟨0,0,0⟩:Version)⟩:aq)=_)) (.cons (.xG _ _ _ .p3 (.cons (.co (.refl _)) (.cons (.co (.refl _)) (.cons (.co (.refl _)) (.cons (lD.jd .p5) (.cons (lD.jd .p6) (.cons (lD.jd .p7) (.cons (.co (.nil _)) (.cons (.co (.refl _)) (.cons (.co (.refl _)) .nil)))))))))) (.cons (lD.Cq (bp:=b1) (kb:=tc) (bs:=S9) (M:=(jS++[(⟨(⟨0,0,nO.bR,0⟩:an),(⟨0,0,0⟩:Version)⟩:aq)])) UA (SN _ _) .p2) .nil)) J J<|ae.qv (cV J) J<|rN<|ab.cut (fun aJ=>∃ (sa:List Int),jy jS xM yY n26 nO v33 sa=some z1∧aJ=⟨83,[(0,.ch [.str aa.Key,I aa.Target.aA,I aa.Target.aD,I aa.Target.aF,I aa.At,oQ aa.aI,I aa.aZ.bF,I aa.aZ.To,I aa.Room]),(6,.ptr kB 0),(30,pI ai),(31,I (ai.length:Int)),(32,I n26)],[(b1,.cu (iK tc xQ S9 (jS++[(⟨(⟨0,0,nO.bR,0⟩:an),(⟨0,0,0⟩:Version)⟩:aq)]))),(kB,.cells [.ch [.str aa.Key,I aa.Target.aA,I aa.Target.aD,I aa.Target.aF,I aa.At,oQ aa.aI,I aa.aZ.bF,I aa.aZ.To,I aa.Room],.bV b4,.bV b5,.sl 1 b7 0 sa.length,.sl 1 b9 0 l8.length,.sl 1 De 0 l10.length,.nil,I (-1:Int),I aa.At]),(b4,.mp ((ca xM nO.Key (jS.length:Int)).map (fun e=>(AV.str e.1,(pA xQ) e.2)))),(b5,wT (ca yY nO.Key v33)),(b7,dx sa),(b9,dx l8),(De,dx l10)]⟩) ?_ ?_
   ·refine cB h J (fun h=>?_) (fun h=>?_)
    ·exact ab.dv (id:=9) (A:=[0,1,3,7,0,16,48,112,0,256,1008,2047,4095,8191,16383,32767]) 15 mixed J (by kernel_rfl) (by kernel_rfl)<|AM.qv (aT J) J<|AM.qv (az J) J<|AM.qv (ax J J) J<|AM.qv (aM J J .p3 J) J<|AM.qv (aT J) J<|AM.qv (az J) J<|AM.qv (ax J J) J<|AM.qv (aM J J .p3 J) J<|AM.qv (ax J J) J<|AM.qv (aM J J .p1 J) J<|aK h fun PM Ad h=>AM.qv (AL (gk:=AV.str) (gv:=I) (M:=(ca yY nO.Key v33)) (key:=nO.Key) (Z:=0) J J .p4 J J J Ad J) J<|aK h fun v37 Ej h=>AM.qv (bB J J J Ej) J<|AM.qv (dK (g:=I) J J (.inl .p5) Ej J) J<|AM.qv (br J J) J<|aK h fun BA Fh h=>AM.qv (bB J J J Fh) J<|AM.nil<|dj (g:=I) (BE:=bE (v37+1)) J J J J Fh J .p5 J<|ae.ghost<|aj.eqs (s:=69) (iI:=.sl 1 b7 0 (x3.set PM.toNat (bE (v37+1))).length) J (by rw [ac])<|aj.here<|ae.ghost<|aj.Iq (j:=3) (iI:=.sl 1 b7 0 (x3.set PM.toNat (bE (v37+1))).length) .p3 J (by rw [ac]) J<|aj.here<|rN<|ab.stop<|aj.lq [2,2,0,1,1,1,1] ⟨x3.set PM.toNat (bE (v37+1)),h,J⟩ J J
    ·exact tK<|ab.stop<|aj.lq [2,2,0,1,1,1,1] ⟨x3,h,J⟩ J J
   ·rintro aJ ⟨sa,h,rfl⟩
    unfold jy at h
    refine ab.cH<|tR<|ae.qv (br J J) J<|rM J J<|rN<|ab.stop<|?_
    cases h
    exact jF _ _ J<|aj.lq [0,0,0,0,0,0,0] ⟨xQ,S9,J⟩ J J
  ·refine ab.exit J<|have h:=bZ h ek;aL<|rM J J<|rA J J<|rN<|ab.ret<|?_
   cases h
   exact aj.KF (j:=6) 1 (fun _=>.p1) J (fun _=>J) (fun _=>J) fun Fi=>aj.here ⟨_,.cons (.tmp _ _ J) .nil,_,.cons .p2 (.cons .p2 (.cons .p2 (.cons .p2 (.cons .p2 (.cons .p2 (.cons .p0 (.cons .p0 .nil))))))),⟨kB,b4,b5,b7,b9,De,Fi,b1,S8,VP,J,J⟩⟩
theorem r6 [GI:bU] {bO cJ cK cm bW cA db:Bk} {aa:aB} {ai:Int} {r:aB} (h:cF aa ai=some r):aR Tryz.prog 74 [.ptr bO 0,I ai] [(bO,.cells [.ch [.str aa.c_.Key,I aa.c_.Target.aA,I aa.c_.Target.aD,I aa.c_.Target.aF,I aa.c_.At,oQ aa.c_.aI,I aa.c_.aZ.bF,I aa.c_.aZ.To,I aa.c_.Room],.bV cJ,.bV cK,.sl 1 cm 0 aa.open_.length,.sl 1 bW 0 aa.bt.length,.sl 1 cA 0 aa.aY.length,.sl 1 db 0 aa.aN.length,I aa.bf,I aa.cw]),(cm,dx aa.open_),(bW,dx aa.bt),(cA,dx aa.aY),(db,dx aa.aN)] (T4 (fun Em En Eo Ep=>[(bO,.cells [.ch [.str aa.c_.Key,I aa.c_.Target.aA,I aa.c_.Target.aD,I aa.c_.Target.aF,I aa.c_.At,oQ aa.c_.aI,I aa.c_.aZ.bF,I aa.c_.aZ.To,I aa.c_.Room],.bV cJ,.bV cK,.sl 1 Em 0 r.open_.length,.sl 1 En 0 r.bt.length,.sl 1 Eo 0 r.aY.length,.sl 1 Ep 0 r.aN.length,I r.bf,I r.cw]),(Em,dx r.open_),(En,dx r.bt),(Eo,dx r.aY),(Ep,dx r.aN)]) (fun Em En Eo Ep=>.lM [])):=by
 unfold cF at h
 refine aR.iL ?_
 refine aR.bI Tryz.func74 J Tryz.ntmps74 Tryz.results74 J J ?_
 refine ab.block<|ab.cS (fun x:(List Int)×Int=>bK aa ai x.1 x.2) (fun x aJ=>∃ (b4:Bk),aJ=⟨161,[(0,.ptr bO 0),(1,I ai)],[(bO,.cells [.ch [.str aa.c_.Key,I aa.c_.Target.aA,I aa.c_.Target.aD,I aa.c_.Target.aF,I aa.c_.At,oQ aa.c_.aI,I aa.c_.aZ.bF,I aa.c_.aZ.To,I aa.c_.Room],.bV cJ,.bV cK,.sl 1 cm 0 aa.open_.length,.sl 1 bW 0 aa.bt.length,.sl 1 cA 0 aa.aY.length,.sl 1 b4 0 x.1.length,I aa.bf,I x.2]),(cm,dx aa.open_),(bW,dx aa.bt),(cA,dx aa.aY),(b4,dx x.1)]⟩) h ?_ ?_
 ·exact aj.lq [0,0,0,0,0] ⟨db,J⟩ J J
 ·intro x z1 aJ J1 ep h jF ek
  obtain ⟨l5,n6⟩:=x
  obtain ⟨b4,rfl⟩:=ep
  replace h:bK aa ai l5 n6=some z1:=h
  unfold bK at h
  refine ab.block<|aL<|rM J J<|ae.qv (az J) J<|rF J J J<|rL J J .p0 J J<|ae.qv (dH J) J<|rA J J<|rN<|tS<|tS<|ab.cut (fun aJ=>∃ (c7:Bool),bJ aa ai l5 n6 c7=some z1∧aJ=⟨161,[(0,.ptr bO 0),(1,I ai),(4,I (l5.length:Int)),(54,.bool c7)],[(bO,.cells [.ch [.str aa.c_.Key,I aa.c_.Target.aA,I aa.c_.Target.aD,I aa.c_.Target.aF,I aa.c_.At,oQ aa.c_.aI,I aa.c_.aZ.bF,I aa.c_.aZ.To,I aa.c_.Room],.bV cJ,.bV cK,.sl 1 cm 0 aa.open_.length,.sl 1 bW 0 aa.bt.length,.sl 1 cA 0 aa.aY.length,.sl 1 b4 0 l5.length,I aa.bf,I n6]),(cm,dx aa.open_),(bW,dx aa.bt),(cA,dx aa.aY),(b4,dx l5)]⟩) ?_ ?_
  ·refine tR<|rM J J<|ae.qv (az J) J<|rF J J J<|rL J J .p0 J J<|ae.qv (bT J J) J<|rM J J<|gT h J J J (fun h=>?_) (fun h=>?_)
   ·refine rM J J<|rY J J J<|ae.qv (eB J J) J<|rT J J J<|rM J J<|gT h J J J (fun h=>?_) (fun h=>?_)
    ·refine rM J J<|rY J J J<|rM J J<|rY J J J<|ae.qv (az J) J<|rY J J J<|rF J J J<|rY J J J<|rL J J .p0 J J<|rY J J J<|ae.qv (bL J) J<|rY J J J<|ae.qv (bq J J) J<|rY J J J<|ae.qv (aS J J J) J<|rY J J J<|ae.qv (cE J) J<|rY J J J<|ae.qv (bT J J) J<|rT J J J<|rM J J<|gT h J J J (fun h=>?_) (fun h=>?_)
     ·refine rM J J<|rY J J J<|ae.qv (az J) J<|rY J J J<|rF J J J<|rY J J J<|rL J J .p0 J J<|rY J J J<|rM J J<|rY J J J<|ae.qv (fy J J) J<|rY J J J<|aK h fun v8 e1 h=>ae.qv (bB J J J e1) J<|rY J J J<|ae.qv (dK (g:=I) J J (.inl .p1) e1 J) J<|rY J J J<|ae.qv (dt J J) J<|rT J J J<|rM J J<|gT h J J J (fun h=>?_) (fun h=>?_)
      ·exact rM J J<|rY J J J<|rM J J<|rY J J J<|ae.qv (az J) J<|rY J J J<|rF J J J<|rY J J J<|rL J J .p0 J J<|rY J J J<|rM J J<|rY J J J<|ae.qv (fy J J) J<|rY J J J<|aK h fun v9 e2 h=>ae.qv (bB J J J e2) J<|rY J J J<|ae.qv (dK (g:=I) J J (.inl .p4) e2 J) J<|rY J J J<|ae.qv (nP J J) J<|rT J J J<|rN<|ab.stop<|aj.lq [0,0,0,0,0] ⟨decide (v9≤ai),h,J⟩ J J
      ·exact rG J J J J<|rG J J J J<|rG J J J J<|rG J J J J<|rG J J J J<|rG J J J J<|rG J J J J<|rG J J J J<|rG J J J J<|rE J J J<|rN<|ab.stop<|aj.lq [0,0,0,0,0] ⟨false,h,J⟩ J J
     ·exact rG J J J J<|rG J J J J<|rG J J J J<|rG J J J J<|rG J J J J<|rG J J J J<|rG J J J J<|rG J J J J<|rE J J J<|rM J J<|rG J J J J<|rG J J J J<|rG J J J J<|rG J J J J<|rG J J J J<|rG J J J J<|rG J J J J<|rG J J J J<|rG J J J J<|rG J J J J<|rE J J J<|rN<|ab.stop<|aj.lq [0,0,0,0,0] ⟨false,h,J⟩ J J
    ·exact rG J J J J<|rG J J J J<|rG J J J J<|rG J J J J<|rG J J J J<|rG J J J J<|rG J J J J<|rG J J J J<|rG J J J J<|rE J J J<|rM J J<|rG J J J J<|rG J J J J<|rG J J J J<|rG J J J J<|rG J J J J<|rG J J J J<|rG J J J J<|rG J J J J<|rG J J J J<|rE J J J<|rM J J<|rG J J J J<|rG J J J J<|rG J J J J<|rG J J J J<|rG J J J J<|rG J J J J<|rG J J J J<|rG J J J J<|rG J J J J<|rG J J J J<|rE J J J<|rN<|ab.stop<|aj.lq [0,0,0,0,0] ⟨false,h,J⟩ J J
   ·exact rG J J J J<|rE J J J<|rM J J<|rG J J J J<|rG J J J J<|rG J J J J<|rG J J J J<|rG J J J J<|rG J J J J<|rG J J J J<|rG J J J J<|rG J J J J<|rG J J J J<|rE J J J<|rM J J<|rG J J J J<|rG J J J J<|rG J J J J<|rG J J J J<|rG J J J J<|rG J J J J<|rG J J J J<|rG J J J J<|rG J J J J<|rE J J J<|rM J J<|rG J J J J<|rG J J J J<|rG J J J J<|rG J J J J<|rG J J J J<|rG J J J J<|rG J J J J<|rG J J J J<|rG J J J J<|rG J J J J<|rE J J J<|rN<|ab.stop<|aj.lq [0,0,0,0,0] ⟨false,h,J⟩ J J
  ·rintro aJ ⟨c7,h,rfl⟩
   unfold bJ at h
   refine ab.cut (fun aJ=>∃ (n10:Int),bS aa ai l5 n10=some z1∧aJ=⟨161,[(0,.ptr bO 0),(1,I ai),(4,I (l5.length:Int))],[(bO,.cells [.ch [.str aa.c_.Key,I aa.c_.Target.aA,I aa.c_.Target.aD,I aa.c_.Target.aF,I aa.c_.At,oQ aa.c_.aI,I aa.c_.aZ.bF,I aa.c_.aZ.To,I aa.c_.Room],.bV cJ,.bV cK,.sl 1 cm 0 aa.open_.length,.sl 1 bW 0 aa.bt.length,.sl 1 cA 0 aa.aY.length,.sl 1 b4 0 l5.length,I aa.bf,I n10]),(cm,dx aa.open_),(bW,dx aa.bt),(cA,dx aa.aY),(b4,dx l5)]⟩) ?_ ?_
   ·refine cB h J (fun h=>?_) (fun h=>?_)
    ·exact tR<|rM J J<|rM J J<|rM J J<|ae.qv (az J) J<|rF J J J<|rL J J .p0 J J<|ae.qv (bL J) J<|ae.qv (bq J J) J<|ae.qv (aS J J J) J<|rM J J<|aK h fun v11 e3 h=>ae.qv (bH J J J e3 J J) J<|ae.qv (bq J J) J<|ae.qv (aS J J J) J<|ae.qv (br J J) J<|ae.qv (az J) J<|rF J J J<|ar J J J J .p0 J J<|rN<|ab.stop<|aj.lq [0,0,0,0,0] ⟨bE (ai+v11.sx),h,J⟩ J J
    ·exact tK<|ab.stop<|aj.lq [0,0,0,0,0] ⟨n6,h,J⟩ J J
   ·rintro aJ ⟨n10,h,rfl⟩
    unfold bS at h
    refine tS<|tS<|ab.cut (fun aJ=>∃ (c12:Bool),fu aa l5 n10 c12=some z1∧aJ=⟨161,[(0,.ptr bO 0),(1,I ai),(4,I (l5.length:Int)),(105,.bool c12)],[(bO,.cells [.ch [.str aa.c_.Key,I aa.c_.Target.aA,I aa.c_.Target.aD,I aa.c_.Target.aF,I aa.c_.At,oQ aa.c_.aI,I aa.c_.aZ.bF,I aa.c_.aZ.To,I aa.c_.Room],.bV cJ,.bV cK,.sl 1 cm 0 aa.open_.length,.sl 1 bW 0 aa.bt.length,.sl 1 cA 0 aa.aY.length,.sl 1 b4 0 l5.length,I aa.bf,I n10]),(cm,dx aa.open_),(bW,dx aa.bt),(cA,dx aa.aY),(b4,dx l5)]⟩) ?_ ?_
    ·refine ab.dv (id:=3) (A:=[0,1,3,7,15,31,63,127,255,511,63,2047,4095,8191,16383,32767,65535,131071,262143,524287,1048575,2097151,4194303,8388607,16777215,33554431,67108863,134217727,16777215,285212671,822083583,1895825407,4294967295,8589934591,17179869183]) 35 mixed J (by kernel_rfl) (by kernel_rfl)<|AM.qv (aT J) J<|AM.qv (az J) J<|AM.qv (ax J J) J<|AM.qv (aM J J .p0 J) J<|AM.qv (bT J J) J<|AM.qv (aT J) J<|AM.dA J J J (fun hc=>?_) (fun hc=>?_)
     ·rw [we hc] at h
      refine AM.qv (aT J) J<|AM.ay J J J<|AM.qv (az J) J<|AM.ay J J J<|AM.qv (ax J J) J<|AM.ay J J J<|AM.qv (aM J J .p0 J) J<|AM.ay J J J<|AM.qv (aT J) J<|AM.ay J J J<|AM.qv (eB J J) J<|AM.qv (eA J J) J<|AM.qv (aT J) J<|AM.dA J J J (fun hc=>?_) (fun hc=>?_)
      ·rw [we hc] at h
       refine AM.qv (aT J) J<|AM.ay J J J<|AM.qv (eB J J) J<|AM.ay J J J<|AM.qv (aT J) J<|AM.dJ J J J (fun hc=>?_) (fun hc=>?_)
       ·rw [uE hc] at h
        refine AM.qv (aT J) J<|AM.ay J J J<|AM.qv (az J) J<|AM.ay J J J<|AM.qv (ax J J) J<|AM.ay J J J<|AM.qv (aM J J .p0 J) J<|AM.ay J J J<|AM.qv (nP J J) J<|AM.ay J J J<|AM.qv (gx J J) J<|AM.ay J J J<|AM.qv (aT J) J<|AM.dJ J J J (fun hc=>?_) (fun hc=>?_)
        ·rw [uE hc] at h
         exact AM.qv (aT J) J<|AM.ay J J J<|AM.qv (az J) J<|AM.ay J J J<|AM.qv (ax J J) J<|AM.ay J J J<|AM.qv (aM J J .p0 J) J<|AM.ay J J J<|AM.qv (aT J) J<|AM.ay J J J<|AM.qv (az J) J<|AM.ay J J J<|AM.qv (ax J J) J<|AM.ay J J J<|AM.qv (aM J J .p0 J) J<|AM.ay J J J<|AM.qv (qM J J) J<|AM.ay J J J<|AM.qv (gx J J) J<|AM.qv (eA J J) J<|AM.nil<|rN<|ab.stop<|aj.lq [0,0,0,0,0] ⟨decide (aa.bf≤n10),h,J⟩ J J
        ·rw [uF hc] at h
         exact AM.au J J J J<|AM.au J J J J<|AM.au J J J J<|AM.au J J J J<|AM.au J J J J<|AM.au J J J J<|AM.au J J J J<|AM.au J J J J<|AM.ay J J J<|AM.qv (eA J J) J<|AM.qv (eA J J) J<|AM.nil<|rN<|ab.stop<|aj.lq [0,0,0,0,0] ⟨false,h,J⟩ J J
       ·rw [uF hc] at h
        exact AM.au J J J J<|AM.au J J J J<|AM.au J J J J<|AM.au J J J J<|AM.ay J J J<|AM.qv (eA J J) J<|AM.ay J J J<|AM.qv (aT J) J<|AM.au J J J J<|AM.au J J J J<|AM.au J J J J<|AM.au J J J J<|AM.au J J J J<|AM.au J J J J<|AM.au J J J J<|AM.au J J J J<|AM.au J J J J<|AM.ay J J J<|AM.qv (eA J J) J<|AM.qv (eA J J) J<|AM.nil<|rN<|ab.stop<|aj.lq [0,0,0,0,0] ⟨false,h,J⟩ J J
      ·rw [wc hc] at h
       exact AM.au J J J J<|AM.au J J J J<|AM.aV J J J<|AM.aV J J J<|AM.aV J J J<|AM.aV J J J<|AM.aV J J J<|AM.au J J J J<|AM.au J J J J<|AM.aV J J J<|AM.aV J J J<|AM.aV J J J<|AM.aV J J J<|AM.aV J J J<|AM.aV J J J<|AM.aV J J J<|AM.aV J J J<|AM.aV J J J<|AM.au J J J J<|AM.qv (gx J J) J<|AM.nil<|rN<|ab.stop<|aj.lq [0,0,0,0,0] ⟨true,h,J⟩ J J
     ·rw [wc hc] at h
      exact AM.au J J J J<|AM.au J J J J<|AM.au J J J J<|AM.au J J J J<|AM.au J J J J<|AM.qv (gx J J) J<|AM.qv (aT J) J<|AM.au J J J J<|AM.au J J J J<|AM.au J J J J<|AM.aV J J J<|AM.aV J J J<|AM.aV J J J<|AM.aV J J J<|AM.aV J J J<|AM.au J J J J<|AM.au J J J J<|AM.aV J J J<|AM.aV J J J<|AM.aV J J J<|AM.aV J J J<|AM.aV J J J<|AM.aV J J J<|AM.aV J J J<|AM.aV J J J<|AM.aV J J J<|AM.au J J J J<|AM.qv (gx J J) J<|AM.nil<|rN<|ab.stop<|aj.lq [0,0,0,0,0] ⟨true,h,J⟩ J J
    ·rintro aJ ⟨c12,h,rfl⟩
     unfold fu at h
     refine cB h J (fun h=>?_) (fun h=>?_)
     ·refine ab.ret<|have h:=bZ h ek;?_
      cases h
      exact aj.here ⟨_,.nil,_,.cons .p0 (.cons .p0 (.cons .p0 (.cons .p0 (.cons .p0 .nil)))),⟨cm,bW,cA,b4,J,J⟩⟩
     ·refine tK<|aL<|rM J J<|ae.qv (az J) J<|rF J J J<|rL J J .p0 J J<|rA J J<|rN<|aL<|rM J J<|rM J J<|rM J J<|ae.qv (az J) J<|rF J J J<|rL J J .p0 J J<|rM J J<|aW (xs:=([n10]:List Int).map I) J J J J J J<|aK h fun kU e4 h=>dB (g:=I) J J J J J J J J (.list _) e4 (fun _=>.p4) J fun Fl=>ae.qv (az J) J<|rF J J J<|ar J J J J .p0 J J<|ae.qv (az J) J<|rF J J J<|ar J J J J .p0 J J<|rN<|tS<|ab.cut (fun aJ=>∃ (Yf:Bool),cN aa l5 n10 kU Yf=some z1∧aJ=⟨161,[(0,.ptr bO 0),(1,I ai),(4,I (l5.length:Int)),(5,I n10),(143,.bool Yf)],[(bO,.cells [.ch [.str aa.c_.Key,I aa.c_.Target.aA,I aa.c_.Target.aD,I aa.c_.Target.aF,I aa.c_.At,oQ aa.c_.aI,I aa.c_.aZ.bF,I aa.c_.aZ.To,I aa.c_.Room],.bV cJ,.bV cK,.sl 1 cm 0 aa.open_.length,.sl 1 bW 0 aa.bt.length,.sl 1 cA 0 aa.aY.length,.sl 1 Fl 0 kU.length,I aa.bf,I (-1:Int)]),(cm,dx aa.open_),(bW,dx aa.bt),(cA,dx aa.aY),(Fl,dx kU)]⟩) ?_ ?_
      ·refine tR<|rM J J<|ae.qv (br J J) J<|rM J J<|ae.qv (az J) J<|rF J J J<|rL J J .p0 J J<|ae.qv (bL J) J<|ae.qv (bq J J) J<|ae.qv (aS J J J) J<|ae.qv (cE J) J<|ae.qv (bT J J) J<|rM J J<|gT h J J J (fun h=>?_) (fun h=>?_)
       ·exact rM J J<|rY J J J<|ae.qv (az J) J<|rY J J J<|rF J J J<|rY J J J<|rL J J .p0 J J<|rY J J J<|rM J J<|rY J J J<|aK h fun tL e5 h=>ae.qv (bB J J J e5) J<|rY J J J<|ae.qv (dK (g:=I) J J (.inl .p1) e5 J) J<|rY J J J<|ae.qv (dt J J) J<|rT J J J<|rN<|ab.stop<|aj.lq [0,0,0,0,0] ⟨decide (tL=0),h,J⟩ J J
       ·exact rG J J J J<|rG J J J J<|rG J J J J<|rG J J J J<|rG J J J J<|rG J J J J<|rG J J J J<|rE J J J<|rN<|ab.stop<|aj.lq [0,0,0,0,0] ⟨false,h,J⟩ J J
      ·rintro aJ ⟨Yf,h,rfl⟩
       unfold cN at h
       refine ab.cut (fun aJ=>∃ (n17:Int),cM kU n17=some z1∧aJ=⟨161,[(0,.ptr bO 0),(1,I ai)],[(bO,.cells [.ch [.str aa.c_.Key,I aa.c_.Target.aA,I aa.c_.Target.aD,I aa.c_.Target.aF,I aa.c_.At,oQ aa.c_.aI,I aa.c_.aZ.bF,I aa.c_.aZ.To,I aa.c_.Room],.bV cJ,.bV cK,.sl 1 cm 0 aa.open_.length,.sl 1 bW 0 aa.bt.length,.sl 1 cA 0 aa.aY.length,.sl 1 Fl 0 kU.length,I aa.bf,I n17]),(cm,dx aa.open_),(bW,dx aa.bt),(cA,dx aa.aY),(Fl,dx kU)]⟩) ?_ ?_
       ·refine cB h J (fun h=>?_) (fun h=>?_)
        ·exact tR<|rM J J<|rM J J<|rM J J<|ae.qv (az J) J<|rF J J J<|rL J J .p0 J J<|ae.qv (bL J) J<|ae.qv (bq J J) J<|ae.qv (aS J J J) J<|rM J J<|ae.qv (br J J) J<|aK h fun ub e6 h=>ae.qv (bH J J J e6 J J) J<|ae.qv (bq J J) J<|ae.qv (aS J J J) J<|ae.qv (br J J) J<|ae.qv (az J) J<|rF J J J<|ar J J J J .p0 J J<|rN<|ab.stop<|aj.lq [0,0,0,0,0] ⟨bE (n10+ub.sx),h,J⟩ J J
        ·exact tK<|ab.stop<|aj.lq [0,0,0,0,0] ⟨(-1:Int),h,J⟩ J J
       ·rintro aJ ⟨n17,h,rfl⟩
        unfold cM at h
        refine ab.cH<|ab.stop<|?_
        cases h
        exact jF _ _ J<|aj.lq [0,0,0,0,0] ⟨Fl,J⟩ J J
theorem tM [GI:bU] {aa:List bj} {ai:bj} {r:Int} (h:fD aa ai=some r):Pu Tryz.prog 117 [vz aa,.str ai] (I r):=by
 unfold fD at h
 refine aR.bI Tryz.func117 J Tryz.ntmps117 Tryz.results117 J J ?_
 refine aL<|rA J J<|rN<|tS<|aL<|rM J J<|ae.qv (cE J) J<|rM J J<|rN<|ab.block<|ab.cS (fun x:Int=>cG aa ai x) (fun x aJ=>aJ=⟨19,[(0,vz aa),(1,.str ai),(7,I (aa.length:Int)),(8,I x)],[]⟩) h ?_ ?_
 ·exact aj.lq [] J J J
 ·intro n2 z1 aJ J1 ep h jF ek
  obtain rfl:=ep
  replace h:cG aa ai n2=some z1:=h
  unfold cG at h
  refine aL<|ae.qv (bT J J) J<|rN<|tS<|cD h J (fun h=>?_) (fun h=>?_)
  ·refine tK<|tS<|ab.block<|aL<|rM J J<|rA J J<|rN<|aL<|rM J J<|rM J J<|rM J J<|aK h fun v3 e1 h=>ae.qv (bH J J J e1 J J) J<|ae.qv (aS J J J) J<|ae.qv (Oy J J) J<|rN<|cD h J (fun h=>?_) (fun h=>?_)
   ·refine aL<|rM J J<|rA J J<|rN<|ab.ret<|have h:=bZ h ek;?_
    cases h
    exact hP J J
   ·refine tK<|ab.cH<|tR<|ae.qv (br J J) J<|rM J J<|rN<|ab.stop<|?_
    cases h
    exact jF _ _ J<|aj.lq [] J J J
  ·refine ab.exit J<|have h:=bZ h ek;aL<|rA J J<|rN<|ab.ret<|?_
   cases h
   exact hP J J
theorem dW [GI:bU] {aa:List bj} {ai:bj} {r:Bool} (h:bM aa ai=some r):Pu Tryz.prog 78 [vz aa,.str ai] (.bool r):=by
 unfold bM at h
 refine aR.bI Tryz.func78 J Tryz.ntmps78 Tryz.results78 J J ?_
 refine aL<|rA J J<|rN<|aL<|rM J J<|rM J J<|aK h fun v1 e1 h=>ba J (tM e1) cR J<|ae.qv (nP J J) J<|rA J J<|rN<|ab.ret<|?_
 cases h
 exact hP J J
theorem Af [GI:bU] {aa:Campaign} {ai aH:Int} {r:Bool} (h:kN aa ai aH=r):Pu Tryz.prog 51 [.ch [.str aa.Key,I aa.Target.aA,I aa.Target.aD,I aa.Target.aF,I aa.At,oQ aa.aI,I aa.aZ.bF,I aa.aZ.To,I aa.Room],I ai,I aH] (.bool r):=by
 unfold kN at h
 refine aR.bI Tryz.func51 J Tryz.ntmps51 Tryz.results51 J J ?_
 refine aL<|rA J J<|rN<|aL<|rM J J<|rM J J<|ae.qv (br J J) J<|ae.qv (FB J J (by decide)) J<|ae.qv (br J J) J<|ae.qv (FB J J (by decide)) J<|rA J J<|rN<|tS<|ab.dv (id:=2) (A:=[0,1,3,7,15,0,32,96,224,480,31,2047]) 12 mixed J (by kernel_rfl) (by kernel_rfl)<|AM.qv (aT J) J<|AM.qv (bL J) J<|AM.qv (bq J J) J<|AM.qv (bq J J) J<|AM.qv (aS J J J) J<|AM.qv (aT J) J<|AM.qv (bL J) J<|AM.qv (bq J J) J<|AM.qv (bq J J) J<|AM.qv (aS J J J) J<|AM.qv (bQ J) J<|AM.qv (bQ J) J<|AM.nil<|rN<|tS<|ab.block<|aL<|rM J J<|rM J J<|ae.qv (bT J J) J<|rA J J<|rN<|cD h J (fun h=>?_) (fun h=>?_)
 ·refine tS<|ab.cut (fun aJ=>∃ (c1:Bool),mI c1=r∧aJ=⟨50,[(6,.bool c1)],[]⟩) ?_ ?_
  ·refine tR<|rM J J<|rM J J<|ae.qv (qM J J) J<|rM J J<|ae.dJ J J J (fun hc=>?_) (fun hc=>?_)
   ·rw [uE hc] at h
    exact rM J J<|rY J J J<|rM J J<|rY J J J<|ae.qv (bT J J) J<|rT J J J<|rA J J<|rN<|ab.stop<|aj.lq [] ⟨decide (((bE (((bE (aH+ai)).tmod 86400000)+86400000)).tmod 86400000) < aa.aZ.To),h,J⟩ J J
   ·rw [uF hc] at h
    exact rG J J J J<|rG J J J J<|rE J J J<|rA J J<|rN<|ab.stop<|aj.lq [] ⟨false,h,J⟩ J J
  ·rintro aJ ⟨c1,h,rfl⟩
   unfold mI at h
   refine ab.ret<|?_
   obtain rfl:=h
   exact hP J J
 ·refine aL<|rM J J<|rM J J<|ae.qv (eB J J) J<|rA J J<|rN<|cD h J (fun h=>?_) (fun h=>?_)
  ·refine tS<|ab.cut (fun aJ=>∃ (c2:Bool),mJ c2=r∧aJ=⟨50,[(6,.bool c2)],[]⟩) ?_ ?_
   ·refine tR<|rM J J<|rM J J<|ae.qv (nP J J) J<|rM J J<|ae.dA J J J (fun hc=>?_) (fun hc=>?_)
    ·rw [we hc] at h
     exact rM J J<|rY J J J<|rM J J<|rY J J J<|ae.qv (bT J J) J<|rE J J J<|rA J J<|rN<|ab.stop<|aj.lq [] ⟨decide (((bE (((bE (aH+ai)).tmod 86400000)+86400000)).tmod 86400000) < aa.aZ.To),h,J⟩ J J
    ·rw [wc hc] at h
     exact rG J J J J<|rG J J J J<|rT J J J<|rA J J<|rN<|ab.stop<|aj.lq [] ⟨true,h,J⟩ J J
   ·rintro aJ ⟨c2,h,rfl⟩
    unfold mJ at h
    refine ab.ret<|?_
    obtain rfl:=h
    exact hP J J
  ·refine tK<|ab.cH<|aL<|rA J J<|rN<|ab.ret<|?_
   obtain rfl:=h
   exact hP J J
theorem CU [GI:bU] {aa:aq} {r:Bool} (h:pT aa=r):Pu Tryz.prog 93 [.ch [I aa.an.Kind,I aa.an.Since,I aa.an.Version.aA,I aa.an.Version.aD,I aa.an.Version.aF,I aa.an.ed,I aa.aX.aA,I aa.aX.aD,I aa.aX.aF]] (.bool r):=by
 unfold pT at h
 refine aR.bI Tryz.func93 J Tryz.ntmps93 Tryz.results93 J J ?_
 refine aL<|rA J J<|rN<|tS<|ab.cut (fun aJ=>∃ (c1:Bool),pq c1=r∧aJ=⟨17,[(2,.bool c1)],[]⟩) ?_ ?_
 ·refine tR<|rM J J<|ae.qv (bL J) J<|ae.qv (bq J J) J<|ae.qv (bq J J) J<|ae.qv (aS J J J) J<|ae.qv (dt J J) J<|rM J J<|ae.dA J J J (fun hc=>?_) (fun hc=>?_)
  ·rw [we hc] at h
   exact rM J J<|rY J J J<|ae.qv (bL J) J<|rY J J J<|ae.qv (bq J J) J<|rY J J J<|ae.qv (bq J J) J<|rY J J J<|ae.qv (aS J J J) J<|rY J J J<|ae.qv (dt J J) J<|rE J J J<|rA J J<|rN<|ab.stop<|aj.lq [] ⟨decide (aa.an.Kind=2),h,J⟩ J J
  ·rw [wc hc] at h
   exact rG J J J J<|rG J J J J<|rG J J J J<|rG J J J J<|rG J J J J<|rT J J J<|rA J J<|rN<|ab.stop<|aj.lq [] ⟨true,h,J⟩ J J
 ·rintro aJ ⟨c1,h,rfl⟩
  unfold pq at h
  refine ab.ret<|?_
  obtain rfl:=h
  exact hP J J
theorem o9 [GI:bU] {cJ cK:Bk} {aa:aB} {ai:aq} {r:Bool} (h:dm aa ai=r):Pu Tryz.prog 94 [.ch [.ch [.str aa.c_.Key,I aa.c_.Target.aA,I aa.c_.Target.aD,I aa.c_.Target.aF,I aa.c_.At,oQ aa.c_.aI,I aa.c_.aZ.bF,I aa.c_.aZ.To,I aa.c_.Room],.bV cJ,.bV cK,gg aa.open_,gg aa.bt,gg aa.aY,gg aa.aN,I aa.bf,I aa.cw],.ch [I ai.an.Kind,I ai.an.Since,I ai.an.Version.aA,I ai.an.Version.aD,I ai.an.Version.aF,I ai.an.ed,I ai.aX.aA,I ai.aX.aD,I ai.aX.aF]] (.bool r):=by
 unfold dm at h
 refine aR.bI Tryz.func94 J Tryz.ntmps94 Tryz.results94 J J ?_
 refine aL<|rA J J<|rN<|tS<|ab.cut (fun aJ=>∃ (c1:Bool),lC c1=r∧aJ=⟨25,[(4,.bool c1)],[]⟩) ?_ ?_
 ·refine tR<|rM J J<|rM J J<|ba J (iC J) cR J<|ae.qv (cV J) J<|rM J J<|ae.guard J J J (fun hc=>?_) (fun hc=>?_)
  ·rw [DE hc] at h
   refine rM J J<|rY J J J<|ae.qv (bL J) J<|rY J J J<|ae.qv (bq J J) J<|rY J J J<|ae.qv (bq J J) J<|rY J J J<|ae.qv (aS J J J) J<|rY J J J<|ae.qv (nP J J) J<|rY J J J<|rM J J<|ae.dA J J J (fun hc=>?_) (fun hc=>?_)
   ·rw [we hc] at h
    exact rM J J<|rY J J J<|ae.qv (bL J) J<|rY J J J<|ae.qv (bq J J) J<|rY J J J<|ae.qv (bq J J) J<|rY J J J<|ae.qv (aS J J J) J<|rY J J J<|ae.qv (dt J J) J<|rY J J J<|rE J J J<|rT J J J<|rA J J<|rN<|ab.stop<|aj.lq [] ⟨decide (ai.an.Kind=5),h,J⟩ J J
   ·rw [wc hc] at h
    exact rG J J J J<|rG J J J J<|rG J J J J<|rG J J J J<|rG J J J J<|rY J J J<|rT J J J<|rT J J J<|rA J J<|rN<|ab.stop<|aj.lq [] ⟨true,h,J⟩ J J
  ·rw [DF hc] at h
   exact rG J J J J<|rG J J J J<|rG J J J J<|rG J J J J<|rG J J J J<|rG J J J J<|ae.aV J J J<|ae.aV J J J<|ae.aV J J J<|ae.aV J J J<|ae.aV J J J<|ae.aV J J J<|rG J J J J<|rE J J J<|rA J J<|rN<|ab.stop<|aj.lq [] ⟨false,h,J⟩ J J
 ·rintro aJ ⟨c1,h,rfl⟩
  unfold lC at h
  refine ab.ret<|?_
  obtain rfl:=h
  exact hP J J
end Go.Proofs.YthfphcbipahkmaaGreatDoor
